/- The texts TraceZ, TracePl, TracePo, TraceCk, TraceTd, TraceOp, TraceSp, TraceSq, TraceSr, as one. -/
import Derived.Test.YtbofhlifobjolaaGreatDoorGtb
import Derived.Test.YtbofhlifobjolaaGreatDoorGi

/-! A step: the five rules, one behind the other: the walk -/
section
set_option linter.unusedVariables false
set_option linter.unusedSimpArgs false
namespace Go.Proofs.YtbofhlifobjolaaGreatDoor.Ax
open Go.RowKit

theorem callP_before (P : WP) (c : Cho) : (callP P c).before = P.before ∧ (callP P c).at_ = P.at_ := by
  unfold callP
  split
  · unfold newP
    cases h1 : lookP P.calls (c.client, c.req) with
    | none => simp only [ndP]; split <;> simp
    | some x => simp [ndP, h1]
  · exact ⟨rfl, rfl⟩
theorem rep1_before (P : WP) (r : Rep) : (rep1 P r).before = P.before ∧ (rep1 P r).at_ = P.at_ := by
  unfold rep1
  repeat' split
  all_goals exact ⟨rfl, rfl⟩
theorem repP_before : ∀ (l : List Rep) (P : WP), (repP P l).before = P.before ∧ (repP P l).at_ = P.at_
  | [], _ => ⟨rfl, rfl⟩
  | r :: l, P => by
    rw [repP]
    have h1 := repP_before l (rep1 P r)
    have h2 := rep1_before P r
    exact ⟨h1.1.trans h2.1, h1.2.trans h2.2⟩
theorem growF_in : ∀ (l : List Ent) (i : Nat) (last : List (Int × Int)) (wh wh' : List (Key × Int)), growF l i last wh = some wh' → (∀ k j, lookP wh k = some j → 1 ≤ j ∧ j ≤ i) → ∀ k j, lookP wh' k = some j → 1 ≤ j ∧ j ≤ (i : Int) + l.length
  | [], i, last, wh, wh', h, hb, k, j, hj => by
    simp only [growF, Option.some.injEq] at h
    subst h
    have := hb k j hj
    simp; exact this
  | e :: l, i, last, wh, wh', h, hb, k, j, hj => by
    simp only [growF] at h
    split at h
    · have := growF_in l (i + 1) _ _ _ h (fun k j hj => by
        rw [lookP_upd] at hj
        split at hj
        · simp at hj; omega
        · have := hb k j hj; push_cast; omega) k j hj
      simp only [List.length_cons]; push_cast at this ⊢; omega
    · cases h
theorem growW_in {b l : List Ent} {wh : List (Key × Int)} (h : growW b l = some wh) : ∀ k j, lookP wh k = some j → 1 ≤ j ∧ j ≤ l.length := by
  unfold growW at h
  split at h
  · intro k j hj
    have := growF_in l 0 _ _ _ h (fun k j hj => by simp [lookP] at hj) k j hj
    simpa using this
  · cases h
/-- The rule that a step breaks; 0: none. -/
noncomputable def stepN (sh : Int × Int × Int) (cm : Int) (P : WP) (s : See) : Int :=
  match growW P.before s.h with
  | none => 1
  | some wh => if ¬ s.reps.all (knownR (callP P s.c)) = true then 2
    else if ¬ s.reps.all (ansB wh (ansR (newM sh.2.2.toNat cm) s.h)) = true then 3
    else if ¬ s.h.all (subR (callP P s.c)) = true then 4
    else if ¬ ordB (repP (callP P s.c) s.reps) wh s.h = true then 5 else 0
theorem stepN_eq {sh : Int × Int × Int} {cm : Int} {P : WP} {s : See} : stepN sh cm P s = match growW P.before s.h with
  | none => 1
  | some wh => if ¬ s.reps.all (knownR (callP P s.c)) = true then 2
    else if ¬ s.reps.all (ansB wh (ansR (newM sh.2.2.toNat cm) s.h)) = true then 3
    else if ¬ s.h.all (subR (callP P s.c)) = true then 4
    else if ¬ ordB (repP (callP P s.c) s.reps) wh s.h = true then 5 else 0 := rfl
/-- What is known behind a step. -/
def nextP (P : WP) (s : See) : WP := { repP (callP P s.c) s.reps with before := s.h, at_ := P.at_ + 1 }

section
variable {W : World} {h0 h : AH} {m : WM} {P : WP} {sh : Int × Int × Int} {s : See} {wv : AV}
/-- The watcher's own box, laid anew. -/
theorem WIs.setBox (hw : WIs W h0 h m P sh s wv) {P' : WP} {s' : See} (hc : P'.calls = P.calls) (hat : P'.at_ < 1000000) {ov bv rv hv : AV} {c0 : List AV} {t0 : TypeId} (hg : h.get m.kw = some (.cells c0 t0)) (hov : OrdIs h m.ko ov (P.calls.map (·.1))) (hd : EntS W h0 bv P'.before ∧ RepS W h0 rv s'.reps ∧ EntS W h0 hv s'.h) :
    WIs W h0 (h.set m.kw (.cells (wCells sh m.kc ov bv P'.at_ s'.c rv hv wv) 126)) m P' sh s' wv ∧ Off m h (h.set m.kw (.cells (wCells sh m.kc ov bv P'.at_ s'.c rv hv wv) 126)) := by
  have hnd := hw.nod
  have hkc : m.kc ≠ m.kw := by
    intro e; rw [WM.ids, List.nodup_cons] at hnd; exact hnd.1 (by simp [e])
  have hko : ∀ k ∈ m.ko, k ≠ m.kw := fun k hk e => by
    rw [WM.ids, List.nodup_cons] at hnd
    refine hnd.1 ?_
    simp only [List.mem_cons, List.mem_append]
    exact .inr (.inl (by rw [← e]; simpa [Option.mem_toList] using hk))
  have hcq : ∀ (i : Nat) (q : Nat × Option Nat), m.cks[i]? = some q → q.1 ≠ m.kw ∧ ∀ k ∈ q.2, k ≠ m.kw := fun i q hq => by
    rw [WM.ids, List.nodup_cons] at hnd
    have hmem := List.mem_of_getElem? hq
    refine ⟨fun e => hnd.1 ?_, fun k hk e => hnd.1 ?_⟩
    · simp only [List.mem_cons, List.mem_append, List.mem_flatMap]
      exact .inr (.inr ⟨q, hmem, .inl e.symm⟩)
    · simp only [List.mem_cons, List.mem_append, List.mem_flatMap]
      exact .inr (.inr ⟨q, hmem, .inr (by rw [← e]; simpa [Option.mem_toList] using hk)⟩)
  have hlow := hw.low m.kw (by simp [WM.ids])
  refine ⟨?_, (Off.refl m h).one (x := m.kw) (.inl (by simp [WM.ids])) rfl fun j hj => by simp [hj]⟩
  exact { keeps := ⟨by simp; exact hw.keeps.1, fun j hj => by
            have : j ≠ m.kw := by omega
            simp [this]; exact hw.keeps.2 j hj⟩
          low := fun k hm => by simpa using hw.low k hm
          nod := hw.nod
          len := by rw [hc]; exact hw.len
          box := ⟨ov, bv, rv, hv, by simp, by rw [hc]; exact hov.same fun k hk => by simp [hko k hk], hd⟩
          calls := by rw [hc]; exact hw.calls.same (by simp [hkc])
          each := fun i p q hp hq => by
            rw [hc] at hp
            obtain ⟨nv, e1, e2⟩ := hw.each i p q hp hq
            obtain ⟨g1, g2⟩ := hcq i q hq
            exact ⟨nv, by simp [g1]; exact e1, e2.same fun k hk => by simp [g2 k hk]⟩
          few := ⟨by rw [hc]; exact hw.few.1, hat, fun p hp => hw.few.2.2 p (by rw [← hc]; exact hp)⟩ }
theorem st_seenW {k kc at_ : Nat} {ov bv rv hv rv' hv' : AV} {c c' : Cho} (hr : aOne rv' = true) (hh : aOne hv' = true) (hg : h.get k = some (.cells (wCells sh kc ov bv at_ c rv hv wv) 126)) : aStoreOp (CC W) h 73 (.ptr (some (.new k 7))) (.agg (c'.cells ++ [rv', hv'])) = some (h.set k (.cells (wCells sh kc ov bv at_ c' rv' hv' wv) 126)) := by
  have h1 : (c'.cells ++ [rv', hv']).length = 14 := rfl
  have h2 : (c'.cells ++ [rv', hv']).all aOne = true := by
    simp [Cho.cells, Opn.cells, aOne] at hr hh ⊢
    simp [hr, hh]
  simp only [aStoreOp, aCellsOf, size73, aStore, hg]
  rw [if_pos h1, if_pos ⟨by simp [wCells, Cho.cells, Opn.cells], h2⟩]
  rfl
theorem st_befW {k kc at_ : Nat} {ov bv rv hv : AV} {c : Cho} {p : Option AA} {n q : Nat} {g : Option Nat} (hg : h.get k = some (.cells (wCells sh kc ov bv at_ c rv hv wv) 126)) : aStoreOp (CC W) h 71 (.ptr (some (.new k 5))) (.sl p n q g) = some (h.set k (.cells (wCells sh kc ov (.sl p n q g) at_ c rv hv wv) 126)) := by
  simp only [aStoreOp, aCellsOf, size71, aStore, hg]
  rfl
theorem st_atW {k kc at_ : Nat} {ov bv rv hv : AV} {c : Cho} {n : Nat} (hg : h.get k = some (.cells (wCells sh kc ov bv at_ c rv hv wv) 126)) : aStoreOp (CC W) h 3 (.ptr (some (.new k 6))) (.int .i64 (n : Int)) = some (h.set k (.cells (wCells sh kc ov bv n c rv hv wv) 126)) := by
  simp only [aStoreOp, aCellsOf, size3, aStore, hg]
  rfl
/-- The rules in a row. -/
def ruleF : Nat → FuncId
  | 0 => 104
  | 1 => 105
  | 2 => 106
  | 3 => 107
  | _ => 108
def ruleV (kw k : Nat) : List AV := [.int .i64 ((k : Int) + 1), .fn (.func (ruleF k)) [.ptr (some (.new kw 0))] []]
def ruleC (kw : Nat) : List AV := ruleV kw 0 ++ ruleV kw 1 ++ ruleV kw 2 ++ ruleV kw 3 ++ ruleV kw 4
theorem build_ruleF {n : Int} {f : Fn} {l : List AV} : aBuild (CC W) 178 [(0, .int .i64 n), (1, .fn f l [])] = some (.agg [.int .i64 n, .fn f l []]) := rfl
theorem build_rules {kw : Nat} : aBuildSlice (CC W) h 179 5 [(0, .agg [.int .i64 1, .fn (.func 104) [.ptr (some (.new kw 0))] []]), (1, .agg [.int .i64 2, .fn (.func 105) [.ptr (some (.new kw 0))] []]), (2, .agg [.int .i64 3, .fn (.func 106) [.ptr (some (.new kw 0))] []]), (3, .agg [.int .i64 4, .fn (.func 107) [.ptr (some (.new kw 0))] []]), (4, .agg [.int .i64 5, .fn (.func 108) [.ptr (some (.new kw 0))] []])] = some (.sl (some (.new h.next 0)) 5 5 none, h.push (.cells (ruleC kw) 178)) := by
  simp only [aBuildSlice, kind179, size178, zero178]
  rfl
theorem idx_rule {kr k : Nat} (hk : k < 5) : aIndexAddr (CC W) 179 (.sl (some (.new kr 0)) 5 5 none) (.int .i64 (k : Int)) = some (.ptr (some (.new kr (k * 2)))) := by
  simp only [aIndexAddr, kind179, size178]
  rw [if_pos (by omega)]
  simp [AA.add]
theorem ld_rule {kr kw k : Nat} (hk : k < 5) (hg : h.get kr = some (.cells (ruleC kw) 178)) : aLoad (CC W) h 178 (.new kr (k * 2)) = some (.agg (ruleV kw k)) := by
  unfold aLoad
  rw [ty178]
  show (aCells (CC W) h (.new kr (k * 2)) 2).map AV.agg = _
  simp only [aCells, hg]
  rcases (by omega : k = 0 ∨ k = 1 ∨ k = 2 ∨ k = 3 ∨ k = 4) with rfl | rfl | rfl | rfl | rfl <;> rfl
theorem alloc_rule : aAlloc (CC W) h 178 = some (.ptr (some (.new h.next 0)), h.push (.cells [.int .i64 0, .nilfn] 178)) := rfl
theorem st_rule {k : Nat} {a b : AV} {n : Int} {f : Fn} {l : List AV} (hg : h.get k = some (.cells [a, b] 178)) : aStoreOp (CC W) h 178 (.ptr (some (.new k 0))) (.agg [.int .i64 n, .fn f l []]) = some (h.set k (.cells [.int .i64 n, .fn f l []] 178)) := by
  simp only [aStoreOp, aCellsOf, size178, aStore, hg]
  rfl
/-- A rule in a box. -/
theorem rule_box (kw k : Nat) (h : AH) : ∃ hp h2, aAlloc (CC W) h 178 = some (.ptr (some (.new h.next 0)), hp) ∧ aStoreOp (CC W) hp 178 (.ptr (some (.new h.next 0))) (.agg (ruleV kw k)) = some h2 ∧ Keeps h h2 ∧ h.next < h2.next ∧ h2.get h.next = some (.cells (ruleV kw k) 178) := by
  have hst := st_rule (W := W) (h := h.push (.cells [.int .i64 0, .nilfn] 178)) (k := h.next) (a := .int .i64 0) (b := .nilfn) (n := (k : Int) + 1) (f := .func (ruleF k)) (l := [.ptr (some (.new kw 0))]) (by simp)
  exact ⟨_, _, alloc_rule, hst, (Keeps.push _ _).set (Nat.le_refl _) _, by simp, by simp [ruleV]⟩
theorem ld_seeC {k : Nat} {c : Cho} {rv hv : AV} (hg : h.get k = some (.cells (c.cells ++ [rv, hv]) 73)) : aLoad (CC W) h 69 (.new k 0) = some (.agg c.cells) := by
  unfold aLoad
  rw [ty69]
  show (aCells (CC W) h (.new k 0) 12).map AV.agg = _
  simp only [aCells, hg]
  rfl
theorem ld_see {k : Nat} {c : Cho} {rv hv : AV} (hg : h.get k = some (.cells (c.cells ++ [rv, hv]) 73)) : aLoad (CC W) h 73 (.new k 0) = some (.agg (c.cells ++ [rv, hv])) := by
  unfold aLoad
  rw [ty73]
  show (aCells (CC W) h (.new k 0) 14).map AV.agg = _
  simp only [aCells, hg]
  rfl
end

/-- What is known ahead of rule k + 1. -/
def StQ (W : World) (h0 : AH) (m : WM) (P : WP) (sh : Int × Int × Int) (cm : Int) (s : See) (h' : AH) (k : Nat) : Prop :=
  (k = 0 ∧ ∃ wv, WIs W h0 h' m (callP P s.c) sh s wv) ∨
  (1 ≤ k ∧ k ≤ 4 ∧ ∃ wh wv, growW P.before s.h = some wh ∧ WIs W h0 h' m (callP P s.c) sh s wv ∧ WhIs W h' wv wh ∧ (2 ≤ k → s.reps.all (knownR (callP P s.c)) = true) ∧ (3 ≤ k → s.reps.all (ansB wh (ansR (newM sh.2.2.toNat cm) s.h)) = true) ∧ (4 ≤ k → s.h.all (subR (callP P s.c)) = true)) ∨
  (k = 5 ∧ stepN sh cm P s = 0 ∧ ∃ wv, WIs W h0 h' m (repP (callP P s.c) s.reps) sh s wv)
def StI (W : World) (h0 hs : AH) (m : WM) (P : WP) (sh : Int × Int × Int) (cm : Int) (s : See) (kb kr : Nat) (n : Nat) (e' : Env) (h' : AH) : Prop :=
  e'.length = 55 ∧ Off m hs h' ∧ ∃ k : Nat, k + n = 5 ∧ StQ W h0 m P sh cm s h' k ∧
    (e'.getD 0 .undef = .ptr (some (.new m.kw 0)) ∧ e'.getD 3 .undef = .ptr (some (.new kb 0)) ∧ e'.getD 30 .undef = .sl (some (.new kr 0)) 5 5 none ∧ e'.getD 31 .undef = .int .i64 5 ∧ e'.getD 32 .undef = .int .i64 k)

set_option maxRecDepth 100000 in
set_option maxHeartbeats 16000000 in
theorem step_ret (W : World) (h0 h : AH) (m : WM) (P : WP) (sh : Int × Int × Int) (s0 s : See) (wv u : AV) (cm : Int) (hw : WIs W h0 h m P sh s0 wv) (hu : SeeP W h0 s u) (hsh : shapeR sh.1 sh.2.1 sh.2.2 = some cm) (hfew : P.calls.length + 1 < 1000000 ∧ ∀ p ∈ P.calls, p.2.nodes.length + 1 < 1000000) (hat : P.at_ + 1 < 1000000) (hlh : s.h.length < 1000000) (hlb : P.before.length < 1000000) :
    ACall (CC W) 65 [.ptr (some (.new m.kw 0)), u] h (fun w h' => w = .int .i64 (stepN sh cm P s) ∧ Keeps h0 h' ∧ (stepN sh cm P s = 0 → ∃ m' wv', m'.kw = m.kw ∧ WIs W h0 h' m' (nextP P s) sh s wv')) (fun _ _ => False) := by
  refine jj9 (cc_ok W) (fn65 W) (by simp only [Tryz.f65]; rfl) rfl rfl ?_
  obtain ⟨rv, hv, rfl, hop, hrS, heS, hlr0, _⟩ := hu
  have hids : ∀ y ∈ m.ids, y < h.next := fun y hy => (hw.low y hy).2
  have hbx := box_see (h := h) (l := s.c.cells ++ [rv, hv])
  have hk1 := Keeps.push h (.cells (s.c.cells ++ [rv, hv]) 73)
  have hg1 : (h.push (.cells (s.c.cells ++ [rv, hv]) 73)).get h.next = some (.cells (s.c.cells ++ [rv, hv]) 73) := by simp
  have hn1 : h.next < (h.push (.cells (s.c.cells ++ [rv, hv]) 73)).next := by simp
  generalize h.push (.cells (s.c.cells ++ [rv, hv]) 73) = h1 at hbx hk1 hg1 hn1
  have hkb0 : h.next ≤ h.next := Nat.le_refl _
  generalize hkbe : h.next = kb at hbx hg1 hn1 hids hkb0
  have hw1 := hw.keep hk1
  obtain ⟨ov1, bv1, rv1, hv1, hbox1, hord1, hbe1, _, _⟩ := hw1.box
  have hst1 := st_seenW (W := W) (c' := s.c) (rv' := rv) (hv' := hv) (BSl.one hrS) (BSl.one heS) hbox1
  obtain ⟨hw2, hoff2⟩ := hw1.setBox (P' := P) (s' := s) rfl (by omega) hbox1 hord1 ⟨hbe1, hrS, heS⟩
  have hkbN : kb ∉ m.ids := fun hc => by have := hids _ hc; omega
  have hg2 := (hoff2.2 kb hn1 hkbN).trans hg1
  have hn2 : kb < (h1.set m.kw (.cells (wCells sh m.kc ov1 bv1 P.at_ s.c rv hv wv) 126)).next := hn1
  have hn12 : h1.next ≤ (h1.set m.kw (.cells (wCells sh m.kc ov1 bv1 P.at_ s.c rv hv wv) 126)).next := Nat.le_refl _
  generalize h1.set m.kw (.cells (wCells sh m.kc ov1 bv1 P.at_ s.c rv hv wv) 126) = h2 at hst1 hw2 hoff2 hg2 hn2 hn12
  have hldc := ld_seeC (W := W) hg2
  have hlds := ld_see (W := W) hg1
  obtain ⟨cc, hcc⟩ : ∃ cc, cc = s.c.cells := ⟨_, rfl⟩
  rw [← hcc] at hbx hst1 hldc hlds
  simp [push_cast, ← hcc, hbx, jd9, fa126_5, fa73_0, hlds, hst1, hldc]
  rw [hcc]
  refine je9 (by simp [fn103]) (call_ret W h0 h2 m P sh s wv hw2 s.c hfew) fun w h3 ⟨m', hmk, hw3, hoff3, hids3⟩ => ?_
  have hkbN' : kb ∉ m'.ids := fun hc => by
    rcases hids3 kb hc with h1 | h1
    · exact hkbN h1
    · omega
  have hg3 := (hoff3.2 kb hn2 hkbN).trans hg2
  have hn3 : kb < h3.next := Nat.lt_of_lt_of_le hn2 hoff3.1
  rw [← hmk]
  clear hoff3 hoff2 hst1 hldc hlds hw2 hw1 hbox1 hord1 hbe1 hg2 hg1 hbx
  have hbr := build_rules (W := W) (h := h3) (kw := m'.kw)
  have hkR := Keeps.push h3 (.cells (ruleC m'.kw) 178)
  have hgR : (h3.push (.cells (ruleC m'.kw) 178)).get h3.next = some (.cells (ruleC m'.kw) 178) := by simp
  have hnR : h3.next < (h3.push (.cells (ruleC m'.kw) 178)).next := by simp
  generalize h3.push (.cells (ruleC m'.kw) 178) = h4 at hbr hkR hgR hnR
  have hkrN : h3.next ∉ m'.ids := fun hc => by have := (hw3.low _ hc).2; omega
  have hw4 := hw3.keep hkR
  have hg4 := (hkR.2 kb hn3).trans hg3
  have hn4 : kb < h4.next := Nat.lt_of_lt_of_le hn3 hkR.1
  generalize h3.next = kr at hbr hgR hnR hkrN
  simp [push_cast, build_ruleF, hbr]
  refine loopN (cc_ok W) (StI W h0 h4 m' P sh cm s kb kr) 5 ⟨by simp, Off.refl _ _, 0, by simp, .inl ⟨rfl, wv, hw4⟩, by simp⟩ ?_
  rintro n e' h' ⟨hlen', hoff, k, hkm, hq, hh⟩
  obtain ⟨a0, a1, a2, a3, a4, a5, a6, a7, a8, a9, rS0, rfl, hS0⟩ := un10 hlen'
  obtain ⟨a10, a11, a12, a13, a14, a15, a16, a17, a18, a19, rS10, rfl, hS10⟩ := un10 hS0
  obtain ⟨a20, a21, a22, a23, a24, a25, a26, a27, a28, a29, rS20, rfl, hS20⟩ := un10 hS10
  obtain ⟨a30, a31, a32, a33, a34, a35, a36, a37, a38, a39, rS30, rfl, hS30⟩ := un10 hS20
  obtain ⟨a40, a41, a42, a43, a44, a45, a46, a47, a48, a49, rS40, rfl, hS40⟩ := un10 hS30
  obtain ⟨a50, rS50, rfl, hS50⟩ := un1 hS40
  obtain ⟨a51, rS51, rfl, hS51⟩ := un1 hS50
  obtain ⟨a52, rS52, rfl, hS52⟩ := un1 hS51
  obtain ⟨a53, rS53, rfl, hS53⟩ := un1 hS52
  obtain ⟨a54, rS54, rfl, hS54⟩ := un1 hS53
  obtain rfl := un0 hS54
  clear hlen' hS0 hS10 hS20 hS30 hS40 hS50 hS51 hS52 hS53 hS54
  simp at hh
  obtain ⟨rfl, rfl, rfl, rfl, rfl⟩ := hh
  have hgR' := (hoff.2 kr hnR hkrN).trans hgR
  have hg' := (hoff.2 kb hn4 hkbN').trans hg4
  by_cases hlt : k < 5
  · have hlt' : (k : Int) < 5 := by omega
    have wk : IntKind.i64.wrap ((k : Int) + 1) = (k : Int) + 1 := wrap64 (by omega) (by omega)
    obtain ⟨hp, h5, hal, hst, hkB, hnB, hgB⟩ := rule_box (W := W) m'.kw k h'
    have hix := idx_rule (W := W) (kr := kr) hlt
    have hlr := ld_rule (W := W) hlt hgR'
    have hgBV : ∃ a b, ruleV m'.kw k = [a, b] ∧ a = .int .i64 ((k : Int) + 1) ∧ b = .fn (.func (ruleF k)) [.ptr (some (.new m'.kw 0))] [] := ⟨_, _, rfl, rfl, rfl⟩
    have hgB2 := hgB
    simp only [ruleV] at hgB2
    have hoff5 := hoff.keep hkB
    have hne : ruleF k ≠ 141 ∧ ruleF k ≠ 175 ∧ ruleF k ≠ 203 := by
      rcases (by omega : k = 0 ∨ k = 1 ∨ k = 2 ∨ k = 3 ∨ k = 4) with rfl | rfl | rfl | rfl | rfl <;> simp [ruleF]
    obtain ⟨hne1, hne2, hne3⟩ := hne
    simp [push_cast, hlt', hix, hlr, hal, hst, fa178_1, fa178_0, ld33, ld3, ji9 hgB2, jd9, hne1, hne2, hne3]
    have hsN := stepN_eq (sh := sh) (cm := cm) (P := P) (s := s)
    rcases hq with ⟨rfl, wv1, hw5⟩ | ⟨hk1', hk4, wh, wv1, hgw, hw5, hwh, q2, q3, q4⟩ | ⟨rfl, _⟩
    · refine je9 (by simp [ruleF, fn104]) (grows_ret W h0 h5 m' (callP P s.c) sh s wv1 (hw5.keep hkB) hlh (by rw [(callP_before P s.c).1]; exact hlb)) fun w h6 hw6 => ?_
      rw [(callP_before P s.c).1] at hw6
      cases hgw : growW P.before s.h with
      | none =>
        rw [hgw] at hw6 hsN
        obtain ⟨rfl, hk6, hoff6⟩ := hw6
        have hgB6 := (hoff6.2 h'.next hnB (fun hc => by have := (hw5.low _ hc).2; omega)).trans hgB2
        simp [push_cast, fa178_0, ld3, ji9 hgB6, jd9]
        exact ⟨hsN.symm, hk6, fun h1 => by rw [hsN] at h1; cases h1⟩
      | some wh =>
        rw [hgw] at hw6
        obtain ⟨rfl, wv2, hw7, hwh7, hoff6⟩ := hw6
        simp [push_cast]
        exact ⟨4, by omega, by simp, hoff5.trans hoff6, 1, by omega, .inr (.inl ⟨by omega, by omega, wh, wv2, hgw, hw7, hwh7, by omega, by omega, by omega⟩), by simp; try rfl⟩
    · have hw6 := hw5.keep hkB
      have hwh6 := hwh.keep hkB
      rw [hgw] at hsN
      dsimp only at hsN
      rcases (by omega : k = 1 ∨ k = 2 ∨ k = 3 ∨ k = 4) with rfl | rfl | rfl | rfl
      · refine jf9 (by simp [ruleF, fn105]) (known_ret W h0 h5 m' (callP P s.c) sh s wv1 hw6 hlr0) fun h6 hk6 => ?_
        cases hb : s.reps.all (knownR (callP P s.c)) with
        | true =>
          simp [push_cast]
          exact ⟨3, by omega, by simp, hoff5.keep hk6, 2, by omega, .inr (.inl ⟨by omega, by omega, wh, wv1, hgw, hw6.keep hk6, hwh6.keep hk6, fun _ => hb, by omega, by omega⟩), by simp; try rfl⟩
        | false =>
          rw [hb] at hsN
          have hgB6 := (hk6.2 h'.next hnB).trans hgB2
          simp [push_cast, fa178_0, ld3, ji9 hgB6, jd9]
          simp at hsN
          exact ⟨hsN.symm, (hw6.keep hk6).keeps, fun h1 => by rw [hsN] at h1; cases h1⟩
      · refine jf9 (by simp [ruleF, fn106]) (answers_ret W h0 h5 m' (callP P s.c) sh s wv1 wh cm hw6 hwh6 hsh hlh hlr0 (growW_in hgw)) fun h6 hk6 => ?_
        rw [q2 (by omega)] at hsN
        cases hb : s.reps.all (ansB wh (ansR (newM sh.2.2.toNat cm) s.h)) with
        | true =>
          simp [push_cast]
          exact ⟨2, by omega, by simp, hoff5.keep hk6, 3, by omega, .inr (.inl ⟨by omega, by omega, wh, wv1, hgw, hw6.keep hk6, hwh6.keep hk6, fun _ => q2 (by omega), fun _ => hb, by omega⟩), by simp; try rfl⟩
        | false =>
          rw [hb] at hsN
          have hgB6 := (hk6.2 h'.next hnB).trans hgB2
          simp [push_cast, fa178_0, ld3, ji9 hgB6, jd9]
          simp at hsN
          exact ⟨hsN.symm, (hw6.keep hk6).keeps, fun h1 => by rw [hsN] at h1; cases h1⟩
      · refine jf9 (by simp [ruleF, fn107]) (submitted_ret W h0 h5 m' (callP P s.c) sh s wv1 hw6 (by omega)) fun h6 hk6 => ?_
        rw [q2 (by omega), q3 (by omega)] at hsN
        cases hb : s.h.all (subR (callP P s.c)) with
        | true =>
          simp [push_cast]
          exact ⟨1, by omega, by simp, hoff5.keep hk6, 4, by omega, .inr (.inl ⟨by omega, by omega, wh, wv1, hgw, hw6.keep hk6, hwh6.keep hk6, fun _ => q2 (by omega), fun _ => q3 (by omega), fun _ => hb⟩), by simp; try rfl⟩
        | false =>
          rw [hb] at hsN
          have hgB6 := (hk6.2 h'.next hnB).trans hgB2
          simp [push_cast, fa178_0, ld3, ji9 hgB6, jd9]
          simp at hsN
          exact ⟨hsN.symm, (hw6.keep hk6).keeps, fun h1 => by rw [hsN] at h1; cases h1⟩
      · refine je9 (by simp [ruleF, fn108]) (ordered_ret W h0 h5 m' (callP P s.c) sh s wv1 wh hw6 hwh6 hlr0 (q2 (by omega)) (q4 (by omega)) hlh (growW_in hgw)) fun w h6 ⟨hw7, hw8, hoff6⟩ => ?_
        subst hw7
        rw [q2 (by omega), q3 (by omega), q4 (by omega)] at hsN
        cases hb : ordB (repP (callP P s.c) s.reps) wh s.h with
        | true =>
          rw [hb] at hsN
          simp at hsN
          simp [push_cast]
          exact ⟨0, by omega, by simp, hoff5.trans hoff6, 5, by omega, .inr (.inr ⟨rfl, hsN, wv1, hw8⟩), by simp; try rfl⟩
        | false =>
          rw [hb] at hsN
          have hgB6 := (hoff6.2 h'.next hnB (fun hc => by have := (hw5.low _ hc).2; omega)).trans hgB2
          simp [push_cast, fa178_0, ld3, ji9 hgB6, jd9]
          simp at hsN
          exact ⟨hsN.symm, hw8.keeps, fun h1 => by rw [hsN] at h1; cases h1⟩
    · exact absurd hlt (by omega)
  · have hk5 : k = 5 := by omega
    subst hk5
    rcases hq with ⟨h1, _⟩ | ⟨_, h1, _⟩ | ⟨_, hz, wv1, hw5⟩
    · omega
    · omega
    obtain ⟨ov5, bv5, rv5, hv5, hbox5, hord5, hbe5, hre5, hhe5⟩ := hw5.box
    have hatQ : (repP (callP P s.c) s.reps).at_ = P.at_ := ((repP_before _ _).2).trans (callP_before P s.c).2
    obtain ⟨pv, pq, rfl⟩ := heS.isSl
    have hst6 := st_befW (W := W) (p := pv) (n := s.h.length) (q := pq) (g := none) hbox5
    obtain ⟨hw6, hoff6⟩ := hw5.setBox (P' := { repP (callP P s.c) s.reps with before := s.h }) (s' := s) rfl hw5.few.2.1 hbox5 hord5 (bv := .sl pv s.h.length pq none) ⟨heS, hre5, hhe5⟩
    have hb6 : (h'.set m'.kw (.cells (wCells sh m'.kc ov5 (.sl pv s.h.length pq none) (repP (callP P s.c) s.reps).at_ s.c rv5 hv5 wv1) 126)).get m'.kw = some (.cells (wCells sh m'.kc ov5 (.sl pv s.h.length pq none) (repP (callP P s.c) s.reps).at_ s.c rv5 hv5 wv1) 126) := by simp
    generalize hE : h'.set m'.kw (.cells (wCells sh m'.kc ov5 (.sl pv s.h.length pq none) (repP (callP P s.c) s.reps).at_ s.c rv5 hv5 wv1) 126) = h6 at hst6 hw6 hoff6 hb6
    have hord6 : OrdIs h6 m'.ko ov5 ((repP (callP P s.c) s.reps).calls.map (·.1)) := by
      obtain ⟨ov6, bv6, rv6, hv6, hbox6, hord6, _⟩ := hw6.box
      rw [hb6] at hbox6
      have : ov6 = ov5 := by
        have := Option.some.inj hbox6
        simp [wCells] at this
        exact this.1.symm
      rw [← this]; exact hord6
    have hst7 := st_atW (W := W) (n := P.at_ + 1) hb6
    rw [Int.natCast_add, Int.natCast_one] at hst7
    obtain ⟨hw7, hoff7⟩ := hw6.setBox (P' := nextP P s) (s' := s) rfl hat hb6 hord6 ⟨heS, hre5, hhe5⟩
    have hbc := hb6
    simp only [wCells] at hbc
    have wat : IntKind.i64.wrap (((repP (callP P s.c) s.reps).at_ : Int) + 1) = (P.at_ : Int) + 1 := by
      rw [hatQ, wrap64 (by omega) (by omega)]
    have hbs := hg'
    simp only [Cho.cells, Opn.cells, List.cons_append, List.nil_append] at hbs
    simp [push_cast, fa73_2, ld71, ji9 hbs, jd9, fa126_3, fa126_4, hst6, ld3, ji9 hbc, wat, hst7]
    exact ⟨hz.symm, hw7.keeps, fun _ => ⟨m', rfl, _, hw7⟩⟩
end Go.Proofs.YtbofhlifobjolaaGreatDoor.Ax
end

/-! What a trace's watch says, in plain words -/
section
set_option linter.unusedVariables false
set_option linter.unusedSimpArgs false
namespace Go.Proofs.YtbofhlifobjolaaGreatDoor.Ax
open Go.RowKit

/-- The first rule that is broken, and in which step. -/
noncomputable def checkR (sh : Int × Int × Int) (cm : Int) : WP → List See → Nat → Int × Int
  | _, [], _ => (0, 0)
  | P, s :: l, i => if stepN sh cm P s = 0 then checkR sh cm (nextP P s) l (i + 1) else (stepN sh cm P s, i)
def okAll (sh : Int × Int × Int) (cm : Int) : WP → List See → Prop
  | _, [] => True
  | P, s :: l => stepN sh cm P s = 0 ∧ okAll sh cm (nextP P s) l
def runW : WP → List See → WP
  | P, [] => P
  | P, s :: l => runW (nextP P s) l

theorem checkR_ok {sh : Int × Int × Int} {cm : Int} : ∀ (l : List See) (P : WP) (i : Nat), (checkR sh cm P l i).1 = 0 ↔ okAll sh cm P l
  | [], P, i => by simp [checkR, okAll]
  | s :: l, P, i => by
    simp only [checkR, okAll]
    by_cases h : stepN sh cm P s = 0
    · simp only [h, if_true, true_and]
      exact checkR_ok l _ _
    · simp [h]
theorem checkR_zero {sh : Int × Int × Int} {cm : Int} : ∀ (l : List See) (P : WP) (i : Nat), (checkR sh cm P l i).1 = 0 → checkR sh cm P l i = (0, 0)
  | [], P, i, _ => rfl
  | s :: l, P, i, h => by
    simp only [checkR] at h ⊢
    by_cases h2 : stepN sh cm P s = 0
    · simp only [h2, if_true] at h ⊢
      exact checkR_zero l _ _ h
    · simp [h2] at h
theorem checkR_at {sh : Int × Int × Int} {cm : Int} : ∀ (l : List See) (P : WP) (i : Nat), (checkR sh cm P l i).1 ≠ 0 → (i : Int) ≤ (checkR sh cm P l i).2 ∧ (checkR sh cm P l i).2 < i + l.length
  | [], P, i, h => by simp [checkR] at h
  | s :: l, P, i, h => by
    simp only [checkR] at h ⊢
    by_cases h2 : stepN sh cm P s = 0
    · simp only [h2, if_true] at h ⊢
      have := checkR_at l _ _ h
      simp
      omega
    · simp [h2]; omega
/-- What a beginning says. -/
theorem checkR_take {sh : Int × Int × Int} {cm : Int} : ∀ (l : List See) (P : WP) (i n : Nat),
    checkR sh cm P (l.take n) i = if (checkR sh cm P l i).1 = 0 ∨ (i + n : Int) ≤ (checkR sh cm P l i).2 then (0, 0) else checkR sh cm P l i
  | [], P, i, n => by simp [checkR]
  | s :: l, P, i, 0 => by
    have h1 := checkR_at (s :: l) P i (sh := sh) (cm := cm)
    by_cases h : (checkR sh cm P (s :: l) i).1 = 0
    · rw [if_pos (.inl h)]; rfl
    · rw [if_pos (.inr (by have := h1 h; simpa using this.1))]; rfl
  | s :: l, P, i, n + 1 => by
    simp only [List.take_succ_cons, checkR]
    by_cases h2 : stepN sh cm P s = 0
    · simp only [h2, if_true]
      rw [checkR_take l (nextP P s) (i + 1) n]
      have : ((i + 1 : Nat) : Int) + n = (i : Int) + (n + 1 : Nat) := by push_cast; omega
      rw [this]
    · simp only [h2, if_false]
      rw [if_neg]
      push_cast
      simp only [h2, false_or]
      omega

theorem okAll_app {sh : Int × Int × Int} {cm : Int} : ∀ (a b : List See) (P : WP), okAll sh cm P (a ++ b) ↔ okAll sh cm P a ∧ okAll sh cm (runW P a) b
  | [], b, P => by simp [okAll, runW]
  | s :: a, b, P => by simp only [List.cons_append, okAll, runW, okAll_app a b, and_assoc]
theorem runW_app : ∀ (a b : List See) (P : WP), runW P (a ++ b) = runW (runW P a) b
  | [], b, P => rfl
  | s :: a, b, P => by simp only [List.cons_append, runW, runW_app a b]
theorem okAll_take {sh : Int × Int × Int} {cm : Int} {l : List See} {P : WP} (h : okAll sh cm P l) (n : Nat) : okAll sh cm P (l.take n) := by
  have e := (List.take_append_drop n l).symm
  rw [e, okAll_app] at h
  exact h.1

/-- What a step that breaks no rule says. -/
theorem stepN_zero {sh : Int × Int × Int} {cm : Int} {P : WP} {s : See} (h : stepN sh cm P s = 0) :
    ∃ wh, growW P.before s.h = some wh ∧ s.reps.all (knownR (callP P s.c)) = true ∧ s.reps.all (ansB wh (ansR (newM sh.2.2.toNat cm) s.h)) = true ∧ s.h.all (subR (callP P s.c)) = true ∧ ordB (repP (callP P s.c) s.reps) wh s.h = true := by
  unfold stepN at h
  cases hg : growW P.before s.h with
  | none => rw [hg] at h; simp at h
  | some wh =>
    rw [hg] at h
    dsimp only at h
    refine ⟨wh, rfl, ?_⟩
    repeat' split at h
    all_goals first
      | omega
      | (simp_all; done)
theorem growW_pre {b l : List Ent} {wh : List (Key × Int)} (h : growW b l = some wh) : b.length ≤ l.length ∧ l.take b.length = b ∧ growF l 0 [] [] = some wh := by
  unfold growW at h
  split at h
  · rename_i h1; exact ⟨h1.1, h1.2, h⟩
  · cases h
/-- In a history that keeps rule 1 each client's requests go up. -/
theorem growF_up : ∀ (l : List Ent) (i : Nat) (last : List (Int × Int)) (wh wh' : List (Key × Int)), growF l i last wh = some wh' →
    l.Pairwise (fun a b => a.client = b.client → a.req < b.req) ∧ ∀ e ∈ l, (lookP last e.client).getD 0 < e.req
  | [], i, last, wh, wh', _ => ⟨.nil, by simp⟩
  | e :: l, i, last, wh, wh', h => by
    simp only [growF] at h
    split at h
    · rename_i hc
      obtain ⟨h1, h2⟩ := growF_up l _ _ _ _ h
      refine ⟨List.pairwise_cons.2 ⟨fun x hx hxe => ?_, h1⟩, fun x hx => ?_⟩
      · have := h2 x hx
        rw [lookP_upd, if_pos hxe.symm] at this
        simpa using this
      · rcases List.mem_cons.1 hx with rfl | hx
        · exact hc.2
        · have := h2 x hx
          rw [lookP_upd] at this
          split at this
          · rename_i he
            have h3 := hc.2
            rw [he]
            simp at this
            omega
          · exact this
    · cases h
/-- Where a request is, it is. -/
theorem growF_at : ∀ (l : List Ent) (i : Nat) (last : List (Int × Int)) (wh wh' : List (Key × Int)), growF l i last wh = some wh' → ∀ k j, lookP wh' k = some j →
    lookP wh k = some j ∨ ∃ (p : Nat) (e : Ent), l[p]? = some e ∧ (e.client, e.req) = k ∧ j = (i : Int) + p + 1
  | [], i, last, wh, wh', h, k, j, hj => by
    simp only [growF, Option.some.injEq] at h
    subst h
    exact .inl hj
  | e :: l, i, last, wh, wh', h, k, j, hj => by
    simp only [growF] at h
    split at h
    · rcases growF_at l _ _ _ _ h k j hj with h1 | ⟨p, x, h1, h2, h3⟩
      · rw [lookP_upd] at h1
        split at h1
        · rename_i hk
          exact .inr ⟨0, e, rfl, hk.symm, by simp at h1; simp; omega⟩
        · exact .inl h1
      · exact .inr ⟨p + 1, x, by simpa using h1, h2, by rw [h3]; push_cast; omega⟩
    · cases h

theorem ans_app : ∀ (a b : List Ent) (M : MS), ansR M (a ++ b) = ansR M a ++ ansR (runM M a) b
  | [], b, M => rfl
  | e :: a, b, M => by simp only [List.cons_append, ansR, runM, ans_app a b]


theorem runW_before {sh : Int × Int × Int} {cm : Int} : ∀ (l : List See) (P : WP), okAll sh cm P l → (runW P l).before = (match l.getLast? with | some s => s.h | none => P.before) ∧ P.before <+: (runW P l).before
  | [], P, _ => ⟨rfl, List.prefix_refl _⟩
  | s :: l, P, h => by
    obtain ⟨wh, h1, _⟩ := stepN_zero h.1
    obtain ⟨g1, g2, g3⟩ := growW_pre h1
    have hp : P.before <+: s.h := by rw [← g2]; exact List.take_prefix _ _
    have hb : (nextP P s).before = s.h := rfl
    obtain ⟨e1, e2⟩ := runW_before l (nextP P s) h.2
    rw [hb] at e1 e2
    refine ⟨?_, hp.trans e2⟩
    simp only [runW]
    rw [e1]
    cases l with
    | nil => rfl
    | cons x l =>
      rw [List.getLast?_cons_cons]
      cases hx : (x :: l).getLast? with
      | none => simp at hx
      | some y => rfl


end Go.Proofs.YtbofhlifobjolaaGreatDoor.Ax
end

/-! Which requests are open, in plain words -/
section
set_option linter.unusedVariables false
set_option linter.unusedSimpArgs false
namespace Go.Proofs.YtbofhlifobjolaaGreatDoor.Ax
open Go.RowKit

def tel1 (P : WP) (r : Rep) : WP := if refB r = true then P else match lookP P.calls (r.client, r.req) with
  | none => P
  | some c => { P with calls := updP P.calls (r.client, r.req) { c with rep := 1 } }
def telP (P : WP) : List Rep → WP
  | [] => P
  | r :: l => telP (tel1 P r) l
def toldP (P : WP) : List See → WP
  | [] => P
  | s :: l => toldP (telP (callP P s.c) s.reps) l
def entO (p : Key × Cal) : Ent := ⟨0, p.1.1, p.1.2, p.2.op⟩
def openP (P : WP) : List Ent := P.calls.filterMap fun p => if p.2.rep < 0 then some (entO p) else none
theorem tel_app : ∀ (a b : List Rep) (P : WP), telP P (a ++ b) = telP (telP P a) b
  | [], b, P => rfl
  | r :: a, b, P => by simp only [List.cons_append, telP, tel_app a b]
theorem told_app : ∀ (a b : List See) (P : WP), toldP P (a ++ b) = toldP (toldP P a) b
  | [], b, P => rfl
  | s :: a, b, P => by simp only [List.cons_append, toldP, told_app a b]

def kOf (s : See) : Key := (s.c.client, s.c.req)
def isC (k : Key) (s : See) : Bool := decide (s.c.kind = 1) && decide (kOf s = k)
def repK (k : Key) (r : Rep) : Bool := !refB r && decide ((r.client, r.req) = k)
def repd (k : Key) (s : See) : Bool := s.reps.any (repK k)
def entW (s : See) : Ent := ⟨0, s.c.client, s.c.req, s.c.op⟩
def wantO (l : List See) (i : Nat) (s : See) : Bool := decide (s.c.kind = 1) && (!(l.take i).any (isC (kOf s)) && !l.any (repd (kOf s)))
def wantF (l : List See) : Nat → List See → List Ent
  | _, [] => []
  | i, s :: t => (if wantO l i s = true then [entW s] else []) ++ wantF l (i + 1) t
def keysW (P : WP) : List Key := P.calls.map (·.1)

theorem filMap_congr {α β : Type} {f g : α → Option β} : ∀ {l : List α}, (∀ x ∈ l, f x = g x) → l.filterMap f = l.filterMap g
  | [], _ => rfl
  | x :: l, h => by rw [List.filterMap_cons, List.filterMap_cons, h x (by simp), filMap_congr fun y hy => h y (by simp [hy])]
theorem mem_keys {P : WP} {k : Key} : k ∈ keysW P ↔ lookP P.calls k ≠ none := by
  unfold keysW
  generalize P.calls = l
  induction l with
  | nil => simp [lookP]
  | cons p l ih =>
    by_cases e : k = p.1
    · simp [lookP, e]
    · simp only [List.map_cons, List.mem_cons, lookP, e, if_false, false_or]
      exact ih
theorem upd_keys {k : Key} {v : Cal} : ∀ {l : List (Key × Cal)} {c : Cal}, lookP l k = some c → (updP l k v).map (·.1) = l.map (·.1)
  | [], c, h => by simp [lookP] at h
  | p :: l, c, h => by
    by_cases e : k = p.1
    · simp [updP, e]
    · simp only [lookP, e, if_false] at h
      simp only [updP, e, if_false, List.map_cons, upd_keys h]
theorem updP_fil {β : Type} {k : Key} {v c : Cal} {f g : Key × Cal → Option β} (hk : f (k, v) = g (k, c)) (ho : ∀ p, p.1 ≠ k → f p = g p) : ∀ {l : List (Key × Cal)}, (l.map (·.1)).Nodup → lookP l k = some c → (updP l k v).filterMap f = l.filterMap g
  | [], _, h => by simp [lookP] at h
  | p :: l, hn, h => by
    simp only [List.map_cons, List.nodup_cons] at hn
    by_cases e : k = p.1
    · simp only [lookP, e, if_true, Option.some.injEq] at h
      simp only [updP, e, if_true]
      have hp : p = (k, c) := by rw [e, ← h]
      have hl : l.filterMap f = l.filterMap g := by
        refine filMap_congr fun q hq => ho q fun hqk => hn.1 ?_
        rw [← e, ← hqk]
        exact List.mem_map_of_mem hq
      rw [← e, List.filterMap_cons, List.filterMap_cons, hk, hp, hl]
    · simp only [lookP, e, if_false] at h
      simp only [updP, e, if_false, List.filterMap_cons, ho p (Ne.symm e), updP_fil hk ho hn.2 h]

theorem call_keys (P : WP) (c : Cho) : keysW (callP P c) = if c.kind = 1 ∧ (c.client, c.req) ∉ keysW P then keysW P ++ [(c.client, c.req)] else keysW P := by
  unfold callP
  by_cases hk : c.kind = 1
  · simp only [hk, if_true, true_and]
    cases hl : lookP P.calls (c.client, c.req) with
    | none =>
      rw [if_pos (by rw [mem_keys, hl]; simp)]
      simp only [newP, hl, ndP, lookP_app hl, keysW]
      rw [upd_keys (lookP_app hl)]
      simp
    | some x =>
      rw [if_neg (by rw [mem_keys, hl]; simp)]
      simp only [newP, hl, ndP, keysW]
      rw [upd_keys hl]
  · simp [hk]
theorem tel1_keys (P : WP) (r : Rep) : keysW (tel1 P r) = keysW P := by
  unfold tel1
  split
  · rfl
  · split
    · rfl
    · rename_i h; exact upd_keys h
theorem tel_keys : ∀ (l : List Rep) (P : WP), keysW (telP P l) = keysW P
  | [], _ => rfl
  | r :: l, P => by rw [telP, tel_keys l, tel1_keys]
theorem rep1_keys (P : WP) (r : Rep) : keysW (rep1 P r) = keysW P := by
  unfold rep1
  split
  · rfl
  · split
    · rfl
    · rename_i h
      split
      · exact upd_keys h
      · rfl
theorem rep_keys : ∀ (l : List Rep) (P : WP), keysW (repP P l) = keysW P
  | [], _ => rfl
  | r :: l, P => by rw [repP, rep_keys l, rep1_keys]
theorem call_nod {P : WP} (h : (keysW P).Nodup) (c : Cho) : (keysW (callP P c)).Nodup := by
  rw [call_keys]
  split
  · rename_i h1
    rw [List.nodup_append]
    exact ⟨h, by simp, fun a ha b hb => by simp at hb; subst hb; exact fun e => h1.2 (e ▸ ha)⟩
  · exact h

/-- Replies, told: what is open goes. -/
theorem tel_fil (X : Key → Bool) : ∀ (rs : List Rep) (P : WP), (keysW P).Nodup →
    (telP P rs).calls.filterMap (fun p => if p.2.rep < 0 ∧ X p.1 = true then some (entO p) else none) = P.calls.filterMap (fun p => if p.2.rep < 0 ∧ (!rs.any (repK p.1) && X p.1) = true then some (entO p) else none)
  | [], P, _ => by simp [telP]
  | r :: rs, P, hn => by
    rw [telP, tel_fil X rs (tel1 P r) (by rw [tel1_keys]; exact hn)]
    unfold tel1
    by_cases hrf : refB r = true
    · have hk : ∀ k, repK k r = false := fun k => by simp [repK, hrf]
      simp only [hrf, if_true, List.any_cons, hk, Bool.false_or]
    · simp only [hrf, if_false]
      simp only [Bool.not_eq_true] at hrf
      cases hl : lookP P.calls (r.client, r.req) with
      | none =>
        refine filMap_congr fun p hp => ?_
        have hne : (r.client, r.req) ≠ p.1 := fun e => by
          have : p.1 ∈ keysW P := List.mem_map_of_mem hp
          rw [← e, mem_keys, hl] at this
          exact this rfl
        have hk : repK p.1 r = false := by simp only [repK, hrf, Bool.not_false, Bool.true_and, decide_eq_false_iff_not]; exact hne
        simp only [List.any_cons, hk, Bool.false_or]
      | some c =>
        refine updP_fil (by
          have hk : repK (r.client, r.req) r = true := by simp [repK, hrf]
          simp [hk]) (fun p hp => ?_) hn hl
        have hk : repK p.1 r = false := by simp only [repK, hrf, Bool.not_false, Bool.true_and, decide_eq_false_iff_not]; exact fun e => hp e.symm
        simp only [List.any_cons, hk, Bool.false_or]
theorem call_fil (X : Key → Bool) (P : WP) (c : Cho) (hn : (keysW P).Nodup) :
    (callP P c).calls.filterMap (fun p => if p.2.rep < 0 ∧ X p.1 = true then some (entO p) else none) = P.calls.filterMap (fun p => if p.2.rep < 0 ∧ X p.1 = true then some (entO p) else none) ++ (if c.kind = 1 ∧ (c.client, c.req) ∉ keysW P ∧ X (c.client, c.req) = true then [⟨0, c.client, c.req, c.op⟩] else []) := by
  unfold callP
  by_cases hk : c.kind = 1
  · simp only [hk, if_true, true_and]
    cases hl : lookP P.calls (c.client, c.req) with
    | none =>
      have hm : (c.client, c.req) ∉ keysW P := by rw [mem_keys, hl]; simp
      simp only [newP, hl, ndP, lookP_app hl, updP_app hl, List.filterMap_append, hm, not_false_eq_true, true_and]
      congr 1
      by_cases hx : X (c.client, c.req) = true <;> simp [hx, entO]
    | some x =>
      have hm : (c.client, c.req) ∈ keysW P := by rw [mem_keys, hl]; simp
      simp only [newP, hl, ndP, hm, not_true_eq_false, false_and, if_false, List.append_nil]
      exact updP_fil (by simp [entO]) (fun p hp => rfl) hn hl
  · simp [hk]

/-- What is wanted, behind known keys. -/
def wantG : List Key → List See → List Ent
  | _, [] => []
  | ks, s :: l => (if s.c.kind = 1 ∧ kOf s ∉ ks ∧ (!(s :: l).any (repd (kOf s))) = true then [entW s] else []) ++ wantG (if s.c.kind = 1 ∧ kOf s ∉ ks then ks ++ [kOf s] else ks) l
theorem told_open : ∀ (l : List See) (P : WP), (keysW P).Nodup →
    openP (toldP P l) = P.calls.filterMap (fun p => if p.2.rep < 0 ∧ (!l.any (repd p.1)) = true then some (entO p) else none) ++ wantG (keysW P) l
  | [], P, _ => by simp [toldP, openP, wantG]
  | s :: l, P, hn => by
    rw [toldP, told_open l _ (by rw [tel_keys]; exact call_nod hn s.c), tel_keys]
    rw [tel_fil (fun k => !l.any (repd k)) s.reps _ (call_nod hn s.c)]
    have e1 : ∀ k, (!s.reps.any (repK k) && !l.any (repd k)) = !(s :: l).any (repd k) := fun k => by simp [repd]
    simp only [e1]
    rw [call_fil (fun k => !(s :: l).any (repd k)) P s.c hn, call_keys, wantG, List.append_assoc]
    rfl
/-- Each reply that is no refusal is of a call at or ahead of its step. -/
def Knows : List Key → List See → Prop
  | _, [] => True
  | ks, s :: l => (∀ r ∈ s.reps, refB r = false → (r.client, r.req) ∈ (if s.c.kind = 1 ∧ kOf s ∉ ks then ks ++ [kOf s] else ks)) ∧ Knows (if s.c.kind = 1 ∧ kOf s ∉ ks then ks ++ [kOf s] else ks) l
theorem next_keys (P : WP) (s : See) : keysW (nextP P s) = if s.c.kind = 1 ∧ kOf s ∉ keysW P then keysW P ++ [kOf s] else keysW P := by
  have h1 : keysW (nextP P s) = keysW (repP (callP P s.c) s.reps) := rfl
  rw [h1, rep_keys, call_keys]
  rfl
theorem ok_knows {sh : Int × Int × Int} {cm : Int} : ∀ (l : List See) (P : WP), okAll sh cm P l → Knows (keysW P) l
  | [], _, _ => trivial
  | s :: l, P, h => by
    obtain ⟨wh, _, h2, _⟩ := stepN_zero h.1
    refine ⟨fun r hr _ => ?_, ?_⟩
    · rw [← next_keys]
      have h1 : keysW (nextP P s) = keysW (repP (callP P s.c) s.reps) := rfl
      rw [h1, rep_keys, mem_keys]
      intro hc
      have := (List.all_eq_true.1 h2) r hr
      simp only [knownR, hc] at this
      cases this
    · rw [← next_keys]
      exact ok_knows l _ h.2
theorem want_eq : ∀ (t a : List See) (ks : List Key), (∀ k, k ∈ ks ↔ a.any (isC k) = true) → (∀ k, a.any (repd k) = true → k ∈ ks) → Knows ks t → wantF (a ++ t) a.length t = wantG ks t
  | [], _, _, _, _, _ => rfl
  | s :: t, a, ks, h1, h2, h3 => by
    have ih := want_eq t (a ++ [s]) (if s.c.kind = 1 ∧ kOf s ∉ ks then ks ++ [kOf s] else ks) (fun k => by
      rw [List.any_append, Bool.or_eq_true, ← h1 k]
      simp only [List.any_cons, List.any_nil, Bool.or_false, isC, Bool.and_eq_true, decide_eq_true_eq]
      split
      · rename_i hc
        rw [List.mem_append, List.mem_singleton]
        exact ⟨fun h => h.imp_right fun e => ⟨hc.1, e.symm⟩, fun h => h.imp_right fun e => e.2.symm⟩
      · rename_i hc
        refine ⟨.inl, fun h => ?_⟩
        rcases h with h | ⟨e1, e2⟩
        · exact h
        · by_cases hm : kOf s ∈ ks
          · rw [← e2]; exact hm
          · exact absurd ⟨e1, hm⟩ hc) (fun k hk => by
      rw [List.any_append, Bool.or_eq_true] at hk
      rcases hk with hk | hk
      · have := h2 k hk
        split
        · exact List.mem_append_left _ this
        · exact this
      · simp only [List.any_cons, List.any_nil, Bool.or_false, repd, List.any_eq_true] at hk
        obtain ⟨r, hr, hk⟩ := hk
        simp only [repK, Bool.and_eq_true, Bool.not_eq_true', decide_eq_true_eq] at hk
        rw [← hk.2]
        exact h3.1 r hr hk.1) h3.2
    have e1 : a ++ [s] ++ t = a ++ s :: t := by simp
    have e2 : (a ++ [s]).length = a.length + 1 := by simp
    rw [e1, e2] at ih
    rw [wantF, wantG, ih]
    congr 1
    have e3 : (a ++ s :: t).take a.length = a := by simp
    have e4 : (wantO (a ++ s :: t) a.length s = true) = (s.c.kind = 1 ∧ kOf s ∉ ks ∧ (!(s :: t).any (repd (kOf s))) = true) := by
      simp only [wantO, e3, Bool.and_eq_true, decide_eq_true_eq, Bool.not_eq_true', eq_iff_iff]
      rw [h1 (kOf s), Bool.not_eq_true, List.any_append, Bool.or_eq_false_iff]
      refine and_congr_right fun _ => and_congr_right fun hc => ⟨fun h => h.2, fun h => ⟨?_, h⟩⟩
      cases hx : a.any (repd (kOf s)) with
      | false => rfl
      | true =>
        have := h2 _ hx
        rw [h1, hc] at this
        cases this
    simp only [e4]
theorem wp0_nod : (keysW wp0).Nodup := .nil
/-- EACH REQUEST IS OPEN UNTIL IT IS REPLIED. -/
theorem open_law {sh : Int × Int × Int} {cm : Int} {l : List See} (h : okAll sh cm wp0 l) : openP (toldP wp0 l) = wantF l 0 l := by
  rw [told_open l wp0 wp0_nod]
  have := want_eq l [] [] (by simp) (by simp) (ok_knows l wp0 h)
  simp only [List.nil_append, List.length_nil] at this
  rw [this]
  rfl
end Go.Proofs.YtbofhlifobjolaaGreatDoor.Ax
end

/-! Check: the walk -/
section
set_option linter.unusedVariables false
set_option linter.unusedSimpArgs false
namespace Go.Proofs.YtbofhlifobjolaaGreatDoor.Ax
open Go.RowKit

/-- How much is known, at most. -/
def FewC (P : WP) (n : Nat) : Prop := P.calls.length ≤ n ∧ ∀ p ∈ P.calls, p.2.nodes.length ≤ n
theorem upd_len {k : Key} {c v : Cal} {l : List (Key × Cal)} (h : lookP l k = some c) : (updP l k v).length = l.length := by
  have := congrArg List.length (upd_keys (v := v) h)
  simpa using this
theorem upd_mem {k : Key} {v : Cal} {p : Key × Cal} : ∀ {l : List (Key × Cal)}, p ∈ updP l k v → p = (k, v) ∨ p ∈ l
  | [], h => by simp [updP] at h; exact .inl h
  | q :: l, h => by
    by_cases e : k = q.1
    · simp only [updP, e, if_true, List.mem_cons] at h
      rcases h with h | h
      · exact .inl (by rw [e]; exact h)
      · exact .inr (List.mem_cons_of_mem _ h)
    · simp only [updP, e, if_false, List.mem_cons] at h
      rcases h with h | h
      · exact .inr (by rw [h]; exact List.mem_cons_self)
      · rcases upd_mem h with h | h
        · exact .inl h
        · exact .inr (List.mem_cons_of_mem _ h)
theorem FewC.upd {P : WP} {n : Nat} (h : FewC P n) {k : Key} {c v : Cal} (hl : lookP P.calls k = some c) (hv : v.nodes.length ≤ n) : FewC { P with calls := updP P.calls k v } n :=
  ⟨by show (updP P.calls k v).length ≤ n; rw [upd_len hl]; exact h.1, fun p hp => by
    rcases upd_mem hp with rfl | hp
    · exact hv
    · exact h.2 p hp⟩
theorem FewC.mono {P : WP} {n m : Nat} (h : FewC P n) (hm : n ≤ m) : FewC P m := ⟨by have := h.1; omega, fun p hp => by have := h.2 p hp; omega⟩
theorem FewC.call {P : WP} {n : Nat} (h : FewC P n) (c : Cho) : FewC (callP P c) (n + 1) := by
  unfold callP
  split
  · cases hl : lookP P.calls (c.client, c.req) with
    | none =>
      have hf : FewC (newP P (c.client, c.req) c.op) (n + 1) := by
        simp only [newP, hl]
        refine ⟨by have := h.1; simp; omega, fun p hp => ?_⟩
        simp only [List.mem_append, List.mem_singleton] at hp
        rcases hp with hp | rfl
        · have := h.2 p hp; omega
        · simp
      have hl2 : lookP (newP P (c.client, c.req) c.op).calls (c.client, c.req) = some ⟨c.op, P.at_, [], -1⟩ := by
        simp only [newP, hl]; exact lookP_app hl
      unfold ndP
      rw [hl2]
      exact hf.upd hl2 (by simp)
    | some x =>
      have hn : newP P (c.client, c.req) c.op = P := by simp only [newP, hl]
      rw [hn]
      unfold ndP
      rw [hl]
      exact (h.mono (by omega)).upd hl (by have := h.2 _ (lookP_mem hl); simp at this ⊢; omega)
  · exact h.mono (by omega)
theorem FewC.rep1 {P : WP} {n : Nat} (h : FewC P n) (r : Rep) : FewC (rep1 P r) n := by
  unfold Ax.rep1
  split
  · exact h
  · split
    · exact h
    · rename_i hl
      split
      · exact h.upd hl (h.2 _ (lookP_mem hl))
      · exact h
theorem FewC.rep {n : Nat} : ∀ (l : List Rep) {P : WP}, FewC P n → FewC (repP P l) n
  | [], _, h => h
  | r :: l, P, h => FewC.rep l (h.rep1 r)
theorem FewC.tel1 {P : WP} {n : Nat} (h : FewC P n) (r : Rep) : FewC (tel1 P r) n := by
  unfold Ax.tel1
  split
  · exact h
  · split
    · exact h
    · rename_i hl
      exact h.upd hl (h.2 _ (lookP_mem hl))
theorem FewC.tel {n : Nat} : ∀ (l : List Rep) {P : WP}, FewC P n → FewC (telP P l) n
  | [], _, h => h
  | r :: l, P, h => FewC.tel l (h.tel1 r)
theorem FewC.next {P : WP} {n : Nat} (h : FewC P n) (s : See) : FewC (nextP P s) (n + 1) := (FewC.rep s.reps (h.call s.c))
theorem FewC.zero : FewC wp0 0 := ⟨Nat.le_refl _, fun p hp => by cases hp⟩

def CkI (W : World) (h0 : AH) (v : AV) (l : List See) (sh : Int × Int × Int) (cm : Int) (kw : Nat) (n : Nat) (e' : Env) (h' : AH) : Prop :=
  e'.length = 43 ∧ ∃ (k : Nat) (m : WM) (P : WP) (s0 : See) (wv : AV), k + n = l.length ∧ m.kw = kw ∧ WIs W h0 h' m P sh s0 wv ∧ FewC P k ∧ P.at_ = k ∧ P.before.length < 1000000 ∧ checkR sh cm wp0 l 0 = checkR sh cm P (l.drop k) k ∧
    (e'.getD 9 .undef = .ptr (some (.new kw 0)) ∧ e'.getD 28 .undef = v ∧ e'.getD 29 .undef = .int .i64 l.length ∧ e'.getD 30 .undef = .int .i64 k)

set_option maxRecDepth 100000 in
set_option maxHeartbeats 16000000 in
theorem check_ret (W : World) (h : AH) (a b c cm : Int) (v : AV) (l : List See) (hs : SeeS W h v l) (hsh : shapeR a b c = some cm) (hl : l.length ≤ 4096) (hb : ∀ s ∈ l, s.reps.length ≤ 4096 ∧ s.h.length ≤ 4096) :
    RetK (CC W) 29 [.agg [.int .i64 a, .int .i64 b, .int .i64 c], v] h (.tup [.int .i64 (checkR (a, b, c) cm wp0 l 0).1, .int .i64 (checkR (a, b, c) cm wp0 l 0).2, .int .i64 0]) := by
  refine jj9 (cc_ok W) (fn29 W) (by simp only [Tryz.f29]; rfl) rfl rfl ?_
  have hbx := box_shape (h := h) (l := [.int .i64 a, .int .i64 b, .int .i64 c])
  have hk1 := Keeps.push h (.cells [.int .i64 a, .int .i64 b, .int .i64 c] 23)
  have hg1 : (h.push (.cells [.int .i64 a, .int .i64 b, .int .i64 c] 23)).get h.next = some (.cells [.int .i64 a, .int .i64 b, .int .i64 c] 23) := by simp
  have hn1 : h.next < (h.push (.cells [.int .i64 a, .int .i64 b, .int .i64 c] 23)).next := by simp
  generalize h.push (.cells [.int .i64 a, .int .i64 b, .int .i64 c] 23) = h1 at hbx hk1 hg1 hn1
  generalize h.next = kb at hbx hg1 hn1
  simp [push_cast, hbx, ld_shape hg1]
  refine jf9 (by simp [fn61]) (scheck_ret W h1 a b c) fun h2 hk2 => ?_
  rw [hsh]
  have hg2 := (hk2.2 kb hn1).trans hg1
  have hn2 : kb < h2.next := Nat.lt_of_lt_of_le hn1 hk2.1
  have hln := hs.len h2
  have hl' : ¬ (4096 : Int) < (l.length : Int) := by omega
  simp [push_cast, hln, hl']
  refine jf9 (by simp [fn63]) (nolong_ret W h2 v l (hs.mono (hk1.trans hk2)) (by omega) hb) fun h3 hk3 => ?_
  have hg3 := (hk3.2 kb hn2).trans hg2
  have hn3 : kb < h3.next := Nat.lt_of_lt_of_le hn2 hk3.1
  have hk03 := (hk1.trans hk2).trans hk3
  simp [push_cast, ld_shape hg3]
  refine je9 (by simp [fn64]) (begin_ret W h3 a b c) fun w h4 ⟨m, hm, hw⟩ => ?_
  subst hm
  have hln := hs.len h4
  simp [push_cast, hln]
  have hs3 := hs.mono hk03
  refine loopN (cc_ok W) (CkI W h3 v l (a, b, c) cm m.kw) l.length ⟨by simp, 0, m, wp0, see0, _, by simp, rfl, hw, FewC.zero, rfl, by simp [wp0], by simp, by simp⟩ ?_
  rintro n e' h' ⟨hlen', k, m', P, s0, wv, hkm, hmk, hw', hfew, hat, hbl, hck, hh⟩
  obtain ⟨a0, a1, a2, a3, a4, a5, a6, a7, a8, a9, rS0, rfl, hS0⟩ := un10 hlen'
  obtain ⟨a10, a11, a12, a13, a14, a15, a16, a17, a18, a19, rS10, rfl, hS10⟩ := un10 hS0
  obtain ⟨a20, a21, a22, a23, a24, a25, a26, a27, a28, a29, rS20, rfl, hS20⟩ := un10 hS10
  obtain ⟨a30, a31, a32, a33, a34, a35, a36, a37, a38, a39, rS30, rfl, hS30⟩ := un10 hS20
  obtain ⟨a40, rS40, rfl, hS40⟩ := un1 hS30
  obtain ⟨a41, rS41, rfl, hS41⟩ := un1 hS40
  obtain ⟨a42, rS42, rfl, hS42⟩ := un1 hS41
  obtain rfl := un0 hS42
  clear hlen' hS0 hS10 hS20 hS30 hS40 hS41 hS42
  simp at hh
  obtain ⟨rfl, rfl, rfl, rfl⟩ := hh
  by_cases hlt : k < l.length
  · have hlt' : (k : Int) < (l.length : Int) := by omega
    have wk : IntKind.i64.wrap ((k : Int) + 1) = (k : Int) + 1 := wrap64 (by omega) (by omega)
    have hy : l[k]? = some l[k] := by simp [hlt]
    have hdr : l.drop k = l[k] :: l.drop (k + 1) := List.drop_eq_getElem_cons hlt
    have hbs := hb l[k] (by simp)
    generalize l[k] = s at hy hdr hbs
    obtain ⟨p, u, hix, hP, hld⟩ := hs3.at hy
    have hld := hld h' hw'.keeps
    obtain ⟨rv, hv, hp, h5, rfl, hr, he, hal, hst, hk5, hn5, hg5⟩ := see_box (h := h') hP
    have hlds := ld_see (W := W) hg5
    rw [hdr] at hck
    have hgen : ∃ cc, cc = s.c.cells ++ [rv, hv] := ⟨_, rfl⟩
    obtain ⟨cc, hcc⟩ := hgen
    rw [← hcc] at hld hst hlds
    simp [push_cast, hlt, hlt', hix, hld, hal, hst, hlds]
    rw [← hmk, hcc]
    refine je9 (by simp [fn65]) (step_ret W h3 h5 m' P (a, b, c) s0 s wv _ cm (hw'.keep hk5) hP hsh ⟨by have := hfew.1; omega, fun q hq => by have := hfew.2 q hq; omega⟩ (by omega) (by omega) hbl) fun w h6 ⟨hw1, hw2, hw3⟩ => ?_
    subst hw1
    by_cases hz : stepN (a, b, c) cm P s = 0
    · obtain ⟨m2, wv2, e1, e2⟩ := hw3 hz
      simp only [checkR, hz, if_true] at hck
      simp [push_cast, hz, wk]
      exact ⟨n - 1, by omega, by simp, k + 1, m2, nextP P s, s, wv2, by omega, e1, e2, hfew.next s, by simp [nextP, hat], by simp only [nextP]; omega, hck, by simp [hmk]⟩
    · simp only [checkR, hz, if_false] at hck
      simp [push_cast, hz, hck]
      exact hk03.trans hw2
  · have hlt' : ¬ (k : Int) < (l.length : Int) := by omega
    have hdr : l.drop k = [] := List.drop_of_length_le (by omega)
    rw [hdr] at hck
    simp only [checkR] at hck
    simp [push_cast, hlt, hlt', hck]
    exact hk03.trans hw'.keeps
end Go.Proofs.YtbofhlifobjolaaGreatDoor.Ax
end

/-! told: the walk -/
section
set_option linter.unusedVariables false
set_option linter.unusedSimpArgs false
namespace Go.Proofs.YtbofhlifobjolaaGreatDoor.Ax
open Go.RowKit

theorem tel1_at (P : WP) (r : Rep) : (tel1 P r).at_ = P.at_ := by
  unfold tel1
  repeat' split
  all_goals rfl
theorem tel_at : ∀ (l : List Rep) (P : WP), (telP P l).at_ = P.at_
  | [], _ => rfl
  | r :: l, P => by rw [telP, tel_at l, tel1_at]
theorem build_shape0 {W : World} : aBuild (CC W) 23 [] = some (.agg [.int .i64 0, .int .i64 0, .int .i64 0]) := rfl

def TdI (W : World) (h0 : AH) (v : AV) (l : List See) (kw : Nat) (n : Nat) (e' : Env) (h' : AH) : Prop :=
  e'.length = 51 ∧ ∃ (k : Nat) (m : WM) (P : WP) (wv : AV), k + n = l.length ∧ m.kw = kw ∧ WIs W h0 h' m P (0, 0, 0) see0 wv ∧ FewC P k ∧ P.at_ = 0 ∧ toldP P (l.drop k) = toldP wp0 l ∧
    (e'.getD 3 .undef = .ptr (some (.new kw 0)) ∧ v = e'.getD 11 .undef ∧ e'.getD 12 .undef = .int .i64 l.length ∧ e'.getD 13 .undef = .int .i64 k)
def TeI (W : World) (h0 : AH) (v rv : AV) (len k : Nat) (m : WM) (P : WP) (wv : AV) (reps : List Rep) (n : Nat) (e' : Env) (h' : AH) : Prop :=
  e'.length = 51 ∧ ∃ (j : Nat) (Q : WP), j + n = reps.length ∧ WIs W h0 h' m Q (0, 0, 0) see0 wv ∧ telP Q (reps.drop j) = telP P reps ∧
    (e'.getD 3 .undef = .ptr (some (.new m.kw 0)) ∧ v = e'.getD 11 .undef ∧ e'.getD 12 .undef = .int .i64 len ∧ e'.getD 13 .undef = .int .i64 k ∧ e'.getD 22 .undef = rv ∧ e'.getD 23 .undef = .int .i64 reps.length ∧ e'.getD 24 .undef = .int .i64 j)

set_option maxRecDepth 100000 in
set_option maxHeartbeats 16000000 in
theorem told_ret (W : World) (h : AH) (v : AV) (l : List See) (hs : SeeS W h v l) (hl : l.length ≤ 4096) :
    ACall (CC W) 66 [v] h (fun w h' => ∃ m wv, w = .ptr (some (.new m.kw 0)) ∧ WIs W h h' m (toldP wp0 l) (0, 0, 0) see0 wv ∧ FewC (toldP wp0 l) l.length) (fun _ _ => False) := by
  refine jj9 (cc_ok W) (fn66 W) (by simp only [Tryz.f66]; rfl) rfl rfl ?_
  simp [push_cast, build_shape0]
  refine je9 (by simp [fn64]) (begin_ret W h 0 0 0) fun w h1 ⟨m, hm, hw⟩ => ?_
  subst hm
  have hln := hs.len h1
  simp [push_cast, hln]
  refine loopN (cc_ok W) (TdI W h v l m.kw) l.length ⟨by simp, 0, m, wp0, _, by simp, rfl, hw, FewC.zero, rfl, by simp, by simp⟩ ?_
  rintro n e' h' ⟨hlen', k, m', P, wv, hkm, hmk, hw', hfew, hat, htd, hh⟩
  obtain ⟨a0, a1, a2, a3, a4, a5, a6, a7, a8, a9, rS0, rfl, hS0⟩ := un10 hlen'
  obtain ⟨a10, a11, a12, a13, a14, a15, a16, a17, a18, a19, rS10, rfl, hS10⟩ := un10 hS0
  obtain ⟨a20, a21, a22, a23, a24, a25, a26, a27, a28, a29, rS20, rfl, hS20⟩ := un10 hS10
  obtain ⟨a30, a31, a32, a33, a34, a35, a36, a37, a38, a39, rS30, rfl, hS30⟩ := un10 hS20
  obtain ⟨a40, a41, a42, a43, a44, a45, a46, a47, a48, a49, rS40, rfl, hS40⟩ := un10 hS30
  obtain ⟨a50, rS50, rfl, hS50⟩ := un1 hS40
  obtain rfl := un0 hS50
  clear hlen' hS0 hS10 hS20 hS30 hS40 hS50
  simp at hh
  obtain ⟨rfl, hv0, rfl, rfl⟩ := hh
  subst hv0
  by_cases hlt : k < l.length
  · have hlt' : (k : Int) < (l.length : Int) := by omega
    have wk : IntKind.i64.wrap ((k : Int) + 1) = (k : Int) + 1 := wrap64 (by omega) (by omega)
    have hy : l[k]? = some l[k] := by simp [hlt]
    have hdr : l.drop k = l[k] :: l.drop (k + 1) := List.drop_eq_getElem_cons hlt
    generalize l[k] = s at hy hdr
    obtain ⟨p, u, hix, hP, hld⟩ := hs.at hy
    have hld := hld h' hw'.keeps
    obtain ⟨rv, hv, hp, h5, rfl, hr, he, hal, hst, hk5, hn5, hg5⟩ := see_box (h := h') hP
    have hlc := ld_seeC (W := W) hg5
    have hlrs : s.reps.length < 1000000000 := by obtain ⟨_, _, _, _, _, _, a, _⟩ := hP; exact a
    rw [hdr] at htd
    simp only [toldP] at htd
    obtain ⟨cc, hcc⟩ : ∃ cc, cc = s.c.cells := ⟨_, rfl⟩
    have hids : ∀ y ∈ m'.ids, y < h'.next := fun y hy => (hw'.low y hy).2
    have hkb0 : h'.next ≤ h5.next := hk5.1
    have hw5 := hw'.keep hk5
    have hg5' := hg5
    simp only [Cho.cells, Opn.cells, List.cons_append, List.nil_append] at hg5'
    generalize h'.next = kb at hal hst hn5 hg5 hg5' hlc hids hkb0
    rw [← hcc] at hld hst hlc
    simp [push_cast, hlt, hlt', hix, hld, hal, hst, hlc, fa73_0]
    rw [← hmk, hcc]
    refine je9 (by simp [fn103]) (call_ret W h h5 m' P (0, 0, 0) see0 wv hw5 s.c ⟨by have := hfew.1; omega, fun q hq => by have := hfew.2 q hq; omega⟩) fun w h6 ⟨m2, e1, hw6, hoff6, hids6⟩ => ?_
    have hg6 := (hoff6.2 kb hn5 (fun hc => by have := hids _ hc; omega)).trans hg5'
    have l6 := hr.len h6
    simp [push_cast, fa73_1, ld70, ji9 hg6, l6]
    have hf6 := hfew.call s.c
    have hat6 : (callP P s.c).at_ = 0 := ((callP_before P s.c).2).trans hat
    obtain ⟨Q0, hQ0⟩ : ∃ Q0, Q0 = callP P s.c := ⟨_, rfl⟩
    rw [← hQ0] at hw6 hf6 hat6 htd
    rw [← e1]
    refine loopN (cc_ok W) (TeI W h v rv l.length k m2 Q0 wv s.reps) s.reps.length ⟨by simp, 0, Q0, by simp, hw6, by simp, by simp⟩ ?_
    rintro n2 e2 h7 ⟨hlen2, j, Q, hjm, hw7, htl, hh⟩
    obtain ⟨a0, a1, a2, a3, a4, a5, a6, a7, a8, a9, rS0, rfl, hS0⟩ := un10 hlen2
    obtain ⟨a10, a11, a12, a13, a14, a15, a16, a17, a18, a19, rS10, rfl, hS10⟩ := un10 hS0
    obtain ⟨a20, a21, a22, a23, a24, a25, a26, a27, a28, a29, rS20, rfl, hS20⟩ := un10 hS10
    obtain ⟨a30, a31, a32, a33, a34, a35, a36, a37, a38, a39, rS30, rfl, hS30⟩ := un10 hS20
    obtain ⟨a40, a41, a42, a43, a44, a45, a46, a47, a48, a49, rS40, rfl, hS40⟩ := un10 hS30
    obtain ⟨a50, rS50, rfl, hS50⟩ := un1 hS40
    obtain rfl := un0 hS50
    clear hlen2 hS0 hS10 hS20 hS30 hS40 hS50
    simp at hh
    obtain ⟨rfl, hv11, rfl, rfl, rfl, rfl, rfl⟩ := hh
    subst hv11
    by_cases hjl : j < s.reps.length
    · have hjl' : (j : Int) < (s.reps.length : Int) := by omega
      have wj : IntKind.i64.wrap ((j : Int) + 1) = (j : Int) + 1 := wrap64 (by omega) (by omega)
      have hyr : s.reps[j]? = some s.reps[j] := by simp [hjl]
      have hdj : s.reps.drop j = s.reps[j] :: s.reps.drop (j + 1) := List.drop_eq_getElem_cons hjl
      generalize s.reps[j] = r at hyr hdj
      rw [hdj] at htl
      simp only [telP] at htl
      obtain ⟨a, u, hixr, hPr, hldr⟩ := hr.at hyr
      have hldr := hldr h7 hw7.keeps
      obtain ⟨nv, hpr, h8, rfl, hnr, halr, hstr, hk8, hn8, hg8⟩ := rep_box (h := h7) hPr hw7.keeps
      generalize h7.next = kr at halr hstr hn8 hg8
      have hw8 := hw7.keep hk8
      obtain ⟨ov2, bv2, rv2, hv2, hbox2, _⟩ := hw8.box
      have hb2 := hbox2
      simp only [wCells] at hb2
      have hg8' := hg8
      simp only [Rep.cells] at hg8' hstr hldr
      simp [push_cast, hjl, hjl', hixr, hldr, halr, hstr]
      refine draw1 (cc_ok W) [0, 1, 2, 3, 4, 5, 6, 7, 8, 9, 10] (by kernel_rfl) (by kernel_rfl) (by kernel_rfl) rfl ?_
      rcases hw8.look2 (r.client, r.req) with ⟨f1, hlk2⟩ | ⟨i, c, q, cnv, f1, f2, f3, hlk2, hgc, hnd, hset⟩
      · have hr1 : tel1 Q r = Q := by simp [tel1, f1]
        rw [hr1] at htl
        simp only [reqV] at hlk2
        simp [push_cast, fa126_1, fa75_1, fa75_2, ld3, ld122, ji9 hb2, ji9 hg8', jd9, build_req, hlk2, aEq, kind129, kindEq1, aEq1, wj]
        exact ⟨n2 - 1, by omega, by simp, j + 1, Q, by omega, hw8, htl, by simp⟩
      · simp only [reqV] at hlk2
        simp [push_cast, fa126_1, fa75_1, fa75_2, ld3, ld122, ji9 hb2, ji9 hg8', jd9, build_req, hlk2, aEq, kind129, kindEq1, aEq1, ld_rep hg8]
        refine jf9 (by simp [fn109]) (refusal_ret W h8 r nv) fun h9 hk9 => ?_
        have hw9 := hw8.keep hk9
        have hgc9 := (hk9.2 q.1 (hw8.low q.1 (WM.mem_ck f2).1).2).trans hgc
        have hnd9 : NdsIs h9 q.2 cnv c.nodes := hnd.same fun x hx => hk9.2 x (hw8.low x ((WM.mem_ck f2).2 x hx)).2
        cases hrf : refB r with
        | true =>
          have hr1 : tel1 Q r = Q := by simp only [tel1, hrf, if_true]
          rw [hr1] at htl
          simp [push_cast, aUn_not', wj]
          exact ⟨n2 - 1, by omega, by simp, j + 1, Q, by omega, hw9, htl, by simp⟩
        | false =>
          have hr1 : tel1 Q r = { Q with calls := updP Q.calls (r.client, r.req) { c with rep := 1 } } := by simp [tel1, hrf, f3]
          have hst8 := st_rep8 (W := W) (r := 1) hgc9
          have hwA := hw9.setRep f1 f2 hgc9 hnd9 1
          rw [hset, ← hr1] at hwA
          simp only [cCells] at hst8 hwA
          simp [push_cast, aUn_not', jd9, fa131_3, hst8, wj]
          exact ⟨n2 - 1, by omega, by simp, j + 1, _, by omega, hwA, htl, by simp⟩
    · have hjl' : ¬ (j : Int) < (s.reps.length : Int) := by omega
      have hdj : s.reps.drop j = [] := List.drop_of_length_le (by omega)
      rw [hdj] at htl
      simp only [telP] at htl
      simp [push_cast, hjl, hjl', wk]
      refine ⟨n - 1, by omega, by simp, k + 1, m2, Q, wv, by omega, rfl, hw7, ?_, ?_, ?_, by simp [e1, hmk]⟩
      · rw [htl]; exact FewC.tel _ hf6
      · rw [htl, tel_at]; exact hat6
      · rw [htl]; exact htd
  · have hlt' : ¬ (k : Int) < (l.length : Int) := by omega
    have hdr : l.drop k = [] := List.drop_of_length_le (by omega)
    rw [hdr] at htd
    simp only [toldP] at htd
    simp [push_cast, hlt, hlt']
    exact ⟨m', hmk.symm, ⟨wv, htd ▸ hw'⟩, htd ▸ hfew.mono (by omega)⟩
end Go.Proofs.YtbofhlifobjolaaGreatDoor.Ax
end

/-! Open and Replied: the walks -/
section
set_option linter.unusedVariables false
set_option linter.unusedSimpArgs false
namespace Go.Proofs.YtbofhlifobjolaaGreatDoor.Ax
open Go.RowKit

theorem flat_len {α : Type} {f : α → List AV} {n : Nat} (hf : ∀ x, (f x).length = n) : ∀ (l : List α), (l.flatMap f).length = l.length * n
  | [] => by simp
  | x :: l => by rw [List.flatMap_cons, List.length_append, hf, flat_len hf l, List.length_cons, Nat.add_mul]; omega
theorem flat_at {α : Type} {f : α → List AV} {n : Nat} (hf : ∀ x, (f x).length = n) : ∀ (l : List α) (i : Nat) (x : α), l[i]? = some x → i * n + n ≤ (l.flatMap f).length ∧ ((l.flatMap f).drop (i * n)).take n = f x
  | [], i, x, h => by simp at h
  | y :: l, 0, x, h => by
    have : y = x := by simpa using h
    subst this
    rw [List.flatMap_cons]
    refine ⟨by rw [List.length_append, hf]; omega, ?_⟩
    rw [Nat.zero_mul, List.drop_zero]
    exact List.take_left' (hf y)
  | y :: l, i + 1, x, h => by
    obtain ⟨h1, h2⟩ := flat_at hf l i x (by simpa using h)
    have e : (i + 1) * n = n + i * n := by rw [Nat.add_mul]; omega
    rw [List.flatMap_cons, e]
    refine ⟨by rw [List.length_append, hf]; omega, ?_⟩
    rw [← List.drop_drop, List.drop_left' (hf y)]
    exact h2
theorem ent_len (e : Ent) : e.cells.length = 9 := rfl
/-- Entries in an own block, or none. -/
def EosIs (hb h : AH) (v : AV) (l : List Ent) : Prop := (l = [] ∧ v = .sl none 0 0 none) ∨ ∃ k, hb.next ≤ k ∧ k < h.next ∧ l ≠ [] ∧ h.get k = some (.cells (l.flatMap Ent.cells) 78) ∧ v = .sl (some (.new k 0)) l.length l.length (some 9)
theorem EosIs.keep {hb h h' : AH} {v : AV} {l : List Ent} (ho : EosIs hb h v l) (hk : Keeps h h') : EosIs hb h' v l := by
  rcases ho with ho | ⟨k, a, b, c, d, e⟩
  · exact .inl ho
  · exact .inr ⟨k, a, Nat.lt_of_lt_of_le b hk.1, c, (hk.2 k b).trans d, e⟩
theorem EosIs.base {hb hb' h : AH} {v : AV} {l : List Ent} (ho : EosIs hb h v l) (hn : hb'.next ≤ hb.next) : EosIs hb' h v l := by
  rcases ho with ho | ⟨k, a, b, c⟩
  · exact .inl ho
  · exact .inr ⟨k, by omega, b, c⟩
theorem build_ent {W : World} {a b : Int} {op : Opn} : aBuild (CC W) 78 [(1, .int .i64 a), (2, .int .i64 b), (3, .agg op.cells)] = some (.agg (⟨0, a, b, op⟩ : Ent).cells) := rfl
theorem buildS_ent {W : World} {h : AH} {e : Ent} : aBuildSlice (CC W) h 71 1 [(0, .agg e.cells)] = some (.sl (some (.new h.next 0)) 1 1 none, h.push (.cells e.cells 78)) := by
  simp only [aBuildSlice, kind71, size78, zero78]
  rfl
/-- One more entry. -/
theorem EosIs.app {W : World} {hb h : AH} {v : AV} {l : List Ent} {x : Ent} (ho : EosIs hb h v l) (hk0 : Keeps hb h) (hl : l.length < 1000000) :
    ∃ v' h', aAppend (CC W) (h.push (.cells x.cells 78)) #[71, 71] v (.sl (some (.new h.next 0)) 1 1 none) = some (v', h') ∧
      EosIs hb h' v' (l ++ [x]) ∧ Keeps hb h' ∧ h.next ≤ h'.next ∧ ∀ j, j < h.next → (∀ k n c g, v = .sl (some (.new k 0)) n c g → j ≠ k) → h'.get j = h.get j := by
  have hbb : (CC W).bytes 78 = 96 := _root_.id rfl
  have hni : niOK (CC W) #[71, 71] = true := _root_.id rfl
  have hxl := ent_len x
  have hone : x.cells.all aOne = true := by simp [Ent.cells, Opn.cells, aOne]
  have hnx : (l ++ [x]).flatMap Ent.cells = l.flatMap Ent.cells ++ x.cells := by simp
  generalize hxc : x.cells = xc at *
  have hnews : aNews (CC W) (h.push (.cells xc 78)) 9 (.sl (some (.new h.next 0)) 1 1 none) = some (1, xc) := by
    simp [aNews, aCells, hxl]
    rw [List.take_of_length_le (by omega)]
  rcases ho with ⟨rfl, rfl⟩ | ⟨k, hk1, hk2, hne, hg, rfl⟩
  · refine ⟨.sl (some (.new (h.next + 1) 0)) 1 1 (some 9), (h.push (.cells xc 78)).push (.cells xc 78), ?_, .inr ⟨h.next + 1, by have := hk0.1; omega, by simp, by simp, by simp [hxc], by simp⟩, (hk0.trans (Keeps.push _ _)).trans (Keeps.push _ _), by simp; omega, fun j hj _ => ?_⟩
    · simp [aAppend, kind71, size78, zero78, hbb, hni, hnews, hxl]
    · rw [AH.get_push, if_neg (by simp; omega), AH.get_push, if_neg (by omega)]
  · have hlen := flat_len ent_len l
    have hg' : (h.push (.cells xc 78)).get k = some (.cells (l.flatMap Ent.cells) 78) := by
      rw [AH.get_push, if_neg (by omega)]; exact hg
    have hll : 0 < l.length := by
      cases l with
      | nil => simp at hne
      | cons => simp
    refine ⟨.sl (some (.new (h.next + 1) 0)) (l.length + 1) (l.length + 1) (some 9), ((h.push (.cells xc 78)).kill k).push (.cells (l.flatMap Ent.cells ++ xc) 78), ?_, .inr ⟨h.next + 1, by have := hk0.1; omega, by simp [AH.next_kill'], by simp, ?_, by simp⟩, ⟨by have := hk0.1; simp [AH.next_kill']; omega, fun j hj => ?_⟩, by simp [AH.next_kill']; omega, fun j hj hjk => ?_⟩
    · generalize l.flatMap Ent.cells = cs at *
      simp [aAppend, kind71, size78, zero78, hbb, hni, hnews, hg', hlen, AH.next_kill']
      rw [if_neg (by omega), if_pos (by omega), if_pos (by simpa using hone)]
    · rw [AH.get_push, AH.next_kill', if_pos (by simp), hnx]
    · have := hk0.1
      rw [AH.get_push, AH.next_kill', if_neg (by simp; omega), AH.get_kill', if_neg (by omega), AH.get_push, if_neg (by omega)]
      exact hk0.2 j hj
    · have := hjk k _ _ _ rfl
      rw [AH.get_push, AH.next_kill', if_neg (by simp; omega), AH.get_kill', if_neg this, AH.get_push, if_neg (by omega)]
theorem EosIs.at {W : World} {hb h : AH} {v : AV} {l : List Ent} (ho : EosIs hb h v l) (i : Nat) (x : Ent) (hx : l[i]? = some x) : ∃ p, aIndexAddr (CC W) 71 v (.int .i64 (i : Int)) = some (.ptr (some p)) ∧ aLoad (CC W) h 78 p = some (.agg x.cells) := by
  rcases ho with ⟨rfl, rfl⟩ | ⟨k, _, _, _, hg, rfl⟩
  · simp at hx
  · have hi := (List.getElem?_eq_some_iff.1 hx).1
    obtain ⟨h1, h2⟩ := flat_at ent_len l i x hx
    refine ⟨.new k (i * 9), ?_, ?_⟩
    · simp only [aIndexAddr, kind71, size78]
      rw [if_pos (by omega)]
      simp [AA.add]
    · unfold aLoad
      rw [ty78]
      show (aCells (CC W) h (.new k (i * 9)) 9).map AV.agg = _
      simp only [aCells, hg, if_pos h1, h2]
      rfl
theorem EosIs.len {W : World} {hb h h' : AH} {v : AV} {l : List Ent} (ho : EosIs hb h v l) : aLen (CC W) h' 71 v = some (.int .i64 l.length) := by
  rcases ho with ⟨rfl, rfl⟩ | ⟨k, _, _, _, hg, rfl⟩ <;> simp [aLen, kind71]
theorem key_len (x : Key) : ((fun x : Key => [AV.int .i64 x.1, .int .i64 x.2]) x).length = 2 := rfl
/-- A request out of the order. -/
theorem OrdIs.at {W : World} {h : AH} {ko : Option Nat} {v : AV} {l : List Key} (ho : OrdIs h ko v l) {i : Nat} {x : Key} (hx : l[i]? = some x) : ∃ p, aIndexAddr (CC W) 123 v (.int .i64 (i : Int)) = some (.ptr (some p)) ∧ ∀ h', (∀ k ∈ ko, h'.get k = h.get k) → aLoad (CC W) h' 128 p = some (.agg [.int .i64 x.1, .int .i64 x.2]) := by
  cases ko with
  | none => obtain ⟨rfl, rfl⟩ := ho; simp at hx
  | some k =>
    obtain ⟨_, hg, rfl⟩ := ho
    have hi := (List.getElem?_eq_some_iff.1 hx).1
    obtain ⟨h1, h2⟩ := flat_at key_len l i x hx
    refine ⟨.new k (i * 2), ?_, fun h' hk => ?_⟩
    · simp only [aIndexAddr, kind123, size128]
      rw [if_pos (by omega)]
      simp [AA.add]
    · unfold aLoad
      rw [ty128]
      show (aCells (CC W) h' (.new k (i * 2)) 2).map AV.agg = _
      simp only [aCells, (hk k rfl).trans hg, if_pos h1, h2]
      rfl
theorem OrdIs.len {W : World} {h h' : AH} {ko : Option Nat} {v : AV} {l : List Key} (ho : OrdIs h ko v l) : aLen (CC W) h' 123 v = some (.int .i64 l.length) := by
  cases ko with
  | none => obtain ⟨rfl, rfl⟩ := ho; simp [aLen, kind123]
  | some k => obtain ⟨_, hg, rfl⟩ := ho; simp [aLen, kind123]
theorem lookP_nod {k : Key} {c : Cal} : ∀ {l : List (Key × Cal)} {i : Nat}, (l.map (·.1)).Nodup → l[i]? = some (k, c) → lookP l k = some c
  | [], i, _, h => by simp at h
  | p :: l, 0, _, h => by
    have : p = (k, c) := by simpa using h
    simp [lookP, this]
  | p :: l, i + 1, hn, h => by
    simp only [List.map_cons, List.nodup_cons] at hn
    have h2 : l[i]? = some (k, c) := by simpa using h
    have hm := List.mem_map_of_mem (f := (·.1)) (List.mem_of_getElem? h2)
    have : k ≠ p.1 := fun e => hn.1 (by rw [← e]; exact hm)
    simp only [lookP, this, if_false]
    exact lookP_nod hn.2 h2
theorem told_nod : ∀ (l : List See) (P : WP), (keysW P).Nodup → (keysW (toldP P l)).Nodup
  | [], _, h => h
  | s :: l, P, h => by
    rw [toldP]
    exact told_nod l _ (by rw [tel_keys]; exact call_nod h s.c)

def OpI (W : World) (h hb : AH) (m : WM) (P : WP) (wv : AV) (n : Nat) (e' : Env) (h' : AH) : Prop :=
  e'.length = 44 ∧ Keeps hb h' ∧ ∃ (k : Nat), k + n = P.calls.length ∧ EosIs hb h' (e'.getD 4 .undef) ((P.calls.take k).filterMap fun p => if p.2.rep < 0 then some (entO p) else none) ∧
    (e'.getD 3 .undef = .ptr (some (.new m.kw 0)) ∧ (∃ ov, e'.getD 13 .undef = ov ∧ OrdIs hb m.ko ov (P.calls.map (·.1))) ∧ e'.getD 14 .undef = .int .i64 P.calls.length ∧ e'.getD 15 .undef = .int .i64 k)

set_option maxRecDepth 100000 in
set_option maxHeartbeats 16000000 in
theorem open_ret (W : World) (h : AH) (v : AV) (l : List See) (hs : SeeS W h v l) (hl : l.length ≤ 4096) :
    ACall (CC W) 33 [v] h (fun w h' => Keeps h h' ∧ EosIs h h' w (openP (toldP wp0 l))) (fun _ _ => False) := by
  refine jj9 (cc_ok W) (fn33 W) (by simp only [Tryz.f33]; rfl) rfl rfl ?_
  simp [push_cast]
  refine je9 (by simp [fn66]) (told_ret W h v l hs hl) fun w h1 ⟨m, wv, hm, hw, hf⟩ => ?_
  subst hm
  have hnod := told_nod l wp0 wp0_nod
  have hfl : (toldP wp0 l).calls.length ≤ 4096 := by have := hf.1; omega
  generalize toldP wp0 l = P at hw hf hnod hfl
  obtain ⟨ov, bv, rv, hv, hbox, hord, _⟩ := hw.box
  have hb1 := hbox
  simp only [wCells] at hb1
  have hln := hord.len (W := W) (h' := h1)
  have hml : (P.calls.map (·.1)).length = P.calls.length := by simp
  rw [hml] at hln
  simp [push_cast, jd9, fa126_2, ld123, ji9 hb1, hln]
  refine loopN (cc_ok W) (OpI W h h1 m P wv) P.calls.length ⟨by simp, Keeps.refl _, 0, by simp, .inl ⟨by simp, by simp⟩, by simp, ⟨ov, by simp, hord⟩, by simp, by simp⟩ ?_
  rintro n e' h' ⟨hlen', hk, k, hkm, heo, hh1, ⟨ov', hh2, hord'⟩, hh3, hh4⟩
  obtain ⟨a0, a1, a2, a3, a4, a5, a6, a7, a8, a9, rS0, rfl, hS0⟩ := un10 hlen'
  obtain ⟨a10, a11, a12, a13, a14, a15, a16, a17, a18, a19, rS10, rfl, hS10⟩ := un10 hS0
  obtain ⟨a20, a21, a22, a23, a24, a25, a26, a27, a28, a29, rS20, rfl, hS20⟩ := un10 hS10
  obtain ⟨a30, a31, a32, a33, a34, a35, a36, a37, a38, a39, rS30, rfl, hS30⟩ := un10 hS20
  obtain ⟨a40, rS40, rfl, hS40⟩ := un1 hS30
  obtain ⟨a41, rS41, rfl, hS41⟩ := un1 hS40
  obtain ⟨a42, rS42, rfl, hS42⟩ := un1 hS41
  obtain ⟨a43, rS43, rfl, hS43⟩ := un1 hS42
  obtain rfl := un0 hS43
  clear hlen' hS0 hS10 hS20 hS30 hS40 hS41 hS42 hS43
  simp at hh1 hh2 hh3 hh4 heo
  subst hh1 hh2 hh3 hh4
  by_cases hlt : k < P.calls.length
  · have hlt' : (k : Int) < (P.calls.length : Int) := by omega
    have wk : IntKind.i64.wrap ((k : Int) + 1) = (k : Int) + 1 := wrap64 (by omega) (by omega)
    obtain ⟨⟨key, c⟩, hy⟩ : ∃ x, P.calls[k]? = some x := ⟨P.calls[k], by simp [hlt]⟩
    have hym : (P.calls.map (·.1))[k]? = some key := by rw [List.getElem?_map, hy]; rfl
    have htk : (P.calls.take (k + 1)).filterMap (fun p => if p.2.rep < 0 then some (entO p) else none) = (P.calls.take k).filterMap (fun p => if p.2.rep < 0 then some (entO p) else none) ++ (if c.rep < 0 then [entO (key, c)] else []) := by
      rw [List.take_add_one, hy, List.filterMap_append]
      congr 1
      by_cases hc : c.rep < 0 <;> simp [hc]
    obtain ⟨p, hix, hld⟩ := hord'.at (W := W) hym
    have hko : ∀ y ∈ m.ko, y ∈ m.ids := fun y hy => by
      simp only [WM.ids, List.mem_cons, List.mem_append]
      exact .inr (.inr (.inl (by simpa [Option.mem_toList] using hy)))
    have hld := hld h' fun y hy => hk.2 y (hw.low y (hko y hy)).2
    have hal := alloc_req (W := W) (h := h')
    have hst := st_req (W := W) (x := key.1) (y := key.2) (h := h'.push (.cells [.int .i64 0, .int .i64 0] 128)) (k := h'.next) (a := .int .i64 0) (b := .int .i64 0) (by simp)
    have hgx : ((h'.push (.cells [.int .i64 0, .int .i64 0] 128)).set h'.next (.cells [.int .i64 key.1, .int .i64 key.2] 128)).get h'.next = some (.cells [.int .i64 key.1, .int .i64 key.2] 128) := by simp
    have hk3 : Keeps h' ((h'.push (.cells [.int .i64 0, .int .i64 0] 128)).set h'.next (.cells [.int .i64 key.1, .int .i64 key.2] 128)) := (Keeps.push _ _).set (Nat.le_refl _) _
    have hn3 : h'.next < ((h'.push (.cells [.int .i64 0, .int .i64 0] 128)).set h'.next (.cells [.int .i64 key.1, .int .i64 key.2] 128)).next := by simp
    generalize (h'.push (.cells [.int .i64 0, .int .i64 0] 128)).set h'.next (.cells [.int .i64 key.1, .int .i64 key.2] 128) = h3 at hst hgx hk3 hn3
    generalize h'.push (.cells [.int .i64 0, .int .i64 0] 128) = h1p at hal hst
    have hkx0 : h1.next ≤ h'.next := hk.1
    have heo3 := heo.keep hk3
    have hnotk : ∀ k' n c g, a4 = .sl (some (.new k' 0)) n c g → h'.next ≠ k' := fun k' n c g e => by
      rcases heo with ⟨_, e2⟩ | ⟨k2, _, b, _, _, e2⟩
      · rw [e2] at e; cases e
      · rw [e2] at e
        simp only [AV.sl.injEq, Option.some.injEq, AA.new.injEq] at e
        omega
    generalize h'.next = kx at hal hst hgx hn3 hkx0 hnotk
    have hw3 := hw.keep (hk.trans hk3)
    obtain ⟨ov3, bv3, rv3, hv3, hbox3, _⟩ := hw3.box
    have hb3 := hbox3
    simp only [wCells] at hb3
    have hlk := lookP_nod hnod hy
    rcases hw3.look key with ⟨f1, _⟩ | ⟨i, c', q, cnv, f1, f2, f3, hlk2, hgc, hnd, _⟩
    · rw [hlk] at f1; cases f1
    have hcc : c' = c := by rw [hlk] at f3; cases f3; rfl
    subst hcc
    simp only [reqV] at hlk2
    have hgc' := hgc
    simp only [cCells] at hgc'
    simp [push_cast, hlt, hlt', hix, hld, hal, hst]
    refine draw1 (cc_ok W) [0, 1, 2, 3, 4, 5, 6] (by kernel_rfl) (by kernel_rfl) (by kernel_rfl) rfl ?_
    simp [push_cast, fa126_1, ld3, ld122, ji9 hb3, jd9, ld_req hgx, hlk2, fa131_3, ji9 hgc']
    by_cases hc : c'.rep < 0
    · have hg1 : aLoad (CC W) h3 35 (.new q.1 0) = some (.agg c'.op.cells) := ld_calop hgc
      rw [if_pos hc] at htk
      have hkx3 : kx < h3.next := hn3
      have hql := (hw3.low q.1 (WM.mem_ck f2).1).2
      have hkp := Keeps.push h3 (.cells (⟨0, key.1, key.2, c'.op⟩ : Ent).cells 78)
      obtain ⟨v', h6, hap, heo6, hk6, hn6, hoff6⟩ := heo3.app (W := W) (x := ⟨0, key.1, key.2, c'.op⟩) (hk.trans hk3) (by
        have : (List.filterMap (fun p : Key × Cal => if p.2.rep < 0 then some (entO p) else none) (P.calls.take k)).length ≤ (P.calls.take k).length := List.length_filterMap_le _ _
        simp at this ⊢; omega)
      have hgxP := (hkp.2 kx hn3).trans hgx
      have hgcP := (hkp.2 q.1 hql).trans hgc
      have hgx6 := (hoff6 kx hn3 hnotk).trans hgx
      have hgc6 := (hoff6 q.1 hql fun k' n c g e => by
        have hq1 := (hw.low q.1 (WM.mem_ck f2).1).2
        rcases heo with ⟨_, e2⟩ | ⟨k2, a, b, _, _, e2⟩
        · rw [e2] at e; cases e
        · rw [e2] at e
          simp only [AV.sl.injEq, Option.some.injEq, AA.new.injEq] at e
          omega).trans hgc
      have hldP : aLoad (CC W) (h3.push (.cells (⟨0, key.1, key.2, c'.op⟩ : Ent).cells 78)) 35 (.new q.1 0) = some (.agg c'.op.cells) := ld_calop hgcP
      have hld6 : aLoad (CC W) h6 35 (.new q.1 0) = some (.agg c'.op.cells) := ld_calop hgc6
      simp [push_cast, hc]
      refine drawS [0, 1, 2, 3, 4, 5, 6, 7, 8, 9, 10, 11, 12] (by kernel_rfl) (by kernel_rfl) ?_
      simp [push_cast, zx9, zy9, SgO, opA, isE, isRead, jd9, fa131_0, fa128_0, fa128_1, ld3, ji9 hgx, hg1, build_ent]
      refine jc9 (h' := h3.push (.cells (⟨0, key.1, key.2, c'.op⟩ : Ent).cells 78)) (v := .sl (some (.new h3.next 0)) 1 1 none) (by rfl) (by simp [push_cast, buildS_ent]) ⟨?_, ?_⟩
      · simp [zz9, ja9, push_cast, opA, fa131_0, fa128_0, fa128_1, ld3, ji9 hgxP, hldP]
      simp [zx9, zy9, SgO, opA, isE, isRead]
      refine jc9 (h' := h6) (v := v') (by rfl) (by simp [push_cast, hap]) ⟨?_, ?_⟩
      · simp [zz9, ja9, push_cast, opA, fa131_0, fa128_0, fa128_1, ld3, ji9 hgx6, hld6]
      simp [push_cast, zx9, zy9, SgO, opA, isE, isRead, wk]
      exact ⟨n - 1, by omega, by simp, hk6, k + 1, by omega, by rw [htk]; simpa [entO] using heo6, by simp, ⟨_, rfl, hord'⟩, by simp⟩
    · rw [if_neg hc, List.append_nil] at htk
      simp [push_cast, hc, wk]
      exact ⟨n - 1, by omega, by simp, hk.trans hk3, k + 1, by omega, by rw [htk]; simpa using heo3, by simp, ⟨_, rfl, hord'⟩, by simp⟩
  · have hlt' : ¬ (k : Int) < (P.calls.length : Int) := by omega
    have htk : P.calls.take k = P.calls := List.take_of_length_le (by omega)
    rw [htk] at heo
    simp [push_cast, hlt, hlt']
    exact ⟨hw.keeps.trans hk, heo.base hw.keeps.1⟩
end Go.Proofs.YtbofhlifobjolaaGreatDoor.Ax
end

/-! The small case: the walk -/
section
set_option linter.unusedVariables false
set_option linter.unusedSimpArgs false
namespace Go.Proofs.YtbofhlifobjolaaGreatDoor.Ax
open Go.RowKit

set_option maxRecDepth 100000 in
set_option maxHeartbeats 8000000 in
theorem replied_ret (W : World) (h : AH) (v : AV) (l : List See) (hs : SeeS W h v l) (hl : l.length ≤ 4096) :
    RetK (CC W) 60 [v] h (.int .i64 ((toldP wp0 l).calls.length - (openP (toldP wp0 l)).length : Int)) := by
  refine jj9 (cc_ok W) (fn60 W) (by simp only [Tryz.f60]; rfl) rfl rfl ?_
  simp [push_cast]
  refine drawS [0, 6, 1, 2, 3, 4, 5, 7, 8, 9, 10] (by kernel_rfl) (by kernel_rfl) ?_
  simp [push_cast, zx9, zy9, SgO, opA, isE, isRead]
  refine jb9 (f := 66) (args := [v]) (by rfl) (by rfl) (by rfl) (by simp [fn66]) (told_ret W h v l hs hl) fun w h1 ⟨m, wv, hm, hw, hf⟩ => ?_
  subst hm
  obtain ⟨ov, bv, rv, hv, hbox, hord, _⟩ := hw.box
  have hb1 := hbox
  simp only [wCells] at hb1
  have hln : ∀ h', aLen (CC W) h' 123 ov = some (.int .i64 (toldP wp0 l).calls.length) := fun h' => by
    have := hord.len (W := W) (h' := h')
    simpa using this
  have hkwl := (hw.low m.kw (by simp [WM.ids])).2
  refine ⟨by simp [zz9, ja9, push_cast, opA], ?_⟩
  simp [push_cast, zx9, zy9, SgO, opA, isE, isRead, jd9, fa126_2, ld123, ji9 hb1, hln]
  refine jb9 (f := 33) (args := [v]) (by rfl) (by rfl) (by rfl) (by simp [fn33]) (open_ret W h1 v l (hs.mono hw.keeps) hl) fun w h2 ⟨hk2, heo⟩ => ?_
  have hb2 := (hk2.2 m.kw hkwl).trans hb1
  have hl2 := heo.len (W := W) (h' := h2)
  refine ⟨by simp [zz9, ja9, push_cast, opA, jd9, fa126_2, ld123, ji9 hb2, hln], ?_⟩
  have h1 := hf.1
  have h2 : (openP (toldP wp0 l)).length ≤ (toldP wp0 l).calls.length := List.length_filterMap_le _ _
  have wr : IntKind.i64.wrap (((toldP wp0 l).calls.length : Int) - ((openP (toldP wp0 l)).length : Int)) = ((toldP wp0 l).calls.length : Int) - ((openP (toldP wp0 l)).length : Int) := wrap64 (by omega) (by omega)
  simp [push_cast, zx9, zy9, SgO, opA, isE, isRead, hl2, hln, wr]
  exact hw.keeps.trans hk2
end Go.Proofs.YtbofhlifobjolaaGreatDoor.Ax
end

/-! The small case of the trace -/
section
set_option linter.unusedVariables false
set_option linter.unusedSimpArgs false
namespace Go.Proofs.YtbofhlifobjolaaGreatDoor.Ax
open Go.RowKit

set_option maxHeartbeats 4000000 in
theorem little26_ret (W : World) (h : AH) : RetK (CC W) 30 [] h (.agg [.int .i64 40, .int .i64 20, .int .i64 8]) := by
  refine jj9 (cc_ok W) (fn30 W) (by simp only [Tryz.f30]; rfl) rfl rfl ?_
  have hst := st_shape (W := W) (x := 40) (y := 20) (z := 8) (h := h.push (.cells [.int .i64 0, .int .i64 0, .int .i64 0] 23)) (k := h.next) (a := .int .i64 0) (b := .int .i64 0) (c := .int .i64 0) (by simp)
  simp [push_cast, alloc_shape, build_shape, hst, ld_shapeS]
  exact (Keeps.push h _).set (Nat.le_refl _) _
def cre (n : Int) : Cho := ⟨1, 0, 0, 0, 0, n, ⟨1, 0, 0, [47, 97], [], []⟩⟩
theorem alloc_cho {W : World} {h : AH} : ∃ c, aAlloc (CC W) h 69 = some (.ptr (some (.new h.next 0)), h.push (.cells c 69)) ∧ c.length = 12 := ⟨_, rfl, rfl⟩
theorem st_cho {W : World} {h : AH} {k : Nat} {a : List AV} {c : Cho} (hg : h.get k = some (.cells a 69)) (ha : a.length = 12) : aStoreOp (CC W) h 69 (.ptr (some (.new k 0))) (.agg c.cells) = some (h.set k (.cells c.cells 69)) := by
  have hb : c.cells.length = 12 := rfl
  simp only [aStoreOp, aCellsOf, size69, aStore, hg]
  rw [if_pos hb, if_pos ⟨by omega, by simp [Cho.cells, Opn.cells, aOne]⟩]
  have : overlay a c.cells 0 = c.cells := by simp [overlay, ha, hb]
  rw [this]
theorem ld_cho {W : World} {h : AH} {k : Nat} {c : Cho} (hg : h.get k = some (.cells c.cells 69)) : aLoad (CC W) h 69 (.new k 0) = some (.agg c.cells) := by
  unfold aLoad
  rw [ty69]
  show (aCells (CC W) h (.new k 0) 12).map AV.agg = _
  simp only [aCells, hg]
  rfl
theorem build_op1 {W : World} : aBuild (CC W) 35 [(0, .int .i64 1), (3, .str [47, 97])] = some (.agg (cre 0).op.cells) := rfl
theorem build_cre {W : World} {n : Int} : aBuild (CC W) 69 [(0, .int .i64 1), (5, .int .i64 n), (6, .agg (cre 0).op.cells)] = some (.agg (cre n).cells) := rfl
set_option maxHeartbeats 4000000 in
theorem create26_ret (W : World) (h : AH) (n : Int) : RetK (CC W) 59 [.int .i64 n] h (.agg (cre n).cells) := by
  refine jj9 (cc_ok W) (fn59 W) (by simp only [Tryz.f59]; rfl) rfl rfl ?_
  obtain ⟨c, hal, hc⟩ := alloc_cho (W := W) (h := h)
  have hst := st_cho (W := W) (c := cre n) (h := h.push (.cells c 69)) (k := h.next) (a := c) (by simp) hc
  have hld := ld_cho (W := W) (c := cre n) (h := (h.push (.cells c 69)).set h.next (.cells (cre n).cells 69)) (k := h.next) (by simp)
  have hk : Keeps h ((h.push (.cells c 69)).set h.next (.cells (cre n).cells 69)) := (Keeps.push h _).set (Nat.le_refl _) _
  generalize (h.push (.cells c 69)).set h.next (.cells (cre n).cells 69) = h2 at hst hld hk
  simp [push_cast, hal, build_op1, build_cre, hst, hld, hk]

/-- Cells in a row, of one length. -/
theorem flatt_at {n : Nat} : ∀ (us : List (List AV)), (∀ u ∈ us, u.length = n) → ∀ (i : Nat) (u : List AV), us[i]? = some u → i * n + n ≤ us.flatten.length ∧ (us.flatten.drop (i * n)).take n = u
  | [], _, i, u, h => by simp at h
  | y :: l, hn, 0, u, h => by
    have : y = u := by simpa using h
    subst this
    have hy := hn y (by simp)
    rw [List.flatten_cons]
    refine ⟨by rw [List.length_append, hy]; omega, ?_⟩
    rw [Nat.zero_mul, List.drop_zero]
    exact List.take_left' hy
  | y :: l, hn, i + 1, u, h => by
    have hy := hn y (by simp)
    obtain ⟨h1, h2⟩ := flatt_at l (fun z hz => hn z (by simp [hz])) i u (by simpa using h)
    have e : (i + 1) * n = n + i * n := by rw [Nat.add_mul]; omega
    rw [List.flatten_cons, e]
    refine ⟨by rw [List.length_append, hy]; omega, ?_⟩
    rw [← List.drop_drop, List.drop_left' hy]
    exact h2
/-- A slice in an own block. -/
theorem bsl_own {α : Type} {W : World} {h : AH} {E t : TypeId} {n k : Nat} {P : AH → α → AV → Prop} (hld : ∀ h k o, aLoad (CC W) h E (.new k o) = (aCells (CC W) h (.new k o) n).map AV.agg) (us : List (List AV)) (l : List α) (hk : k < h.next) (hg : h.get k = some (.cells us.flatten t)) (hn : ∀ u ∈ us, u.length = n) (hl : us.length = l.length) (hP : ∀ (i : Nat) x u, l[i]? = some x → us[i]? = some u → P h x (.agg u)) :
    BSl W h E n P (.sl (some (.new k 0)) l.length l.length none) l := by
  refine .inr ⟨.new k 0, l.length, Nat.le_refl _, rfl, fun i x hx => ?_⟩
  have hi := (List.getElem?_eq_some_iff.1 hx).1
  obtain ⟨u, hu⟩ : ∃ u, us[i]? = some u := ⟨us[i]'(by omega), by simp⟩
  obtain ⟨h1, h2⟩ := flatt_at us hn i u hu
  refine ⟨.agg u, hP i x u hx hu, fun h' hk' => ?_⟩
  show aLoad (CC W) h' E (.new k (0 + i * n)) = _
  rw [hld, Nat.zero_add]
  simp only [aCells, (hk'.2 k hk).trans hg, if_pos h1, h2]
  rfl
theorem ld_entN {W : World} (h : AH) (k o : Nat) : aLoad (CC W) h 78 (.new k o) = (aCells (CC W) h (.new k o) 9).map AV.agg := by
  unfold aLoad; rw [ty78]; rfl
theorem ld_repN {W : World} (h : AH) (k o : Nat) : aLoad (CC W) h 75 (.new k o) = (aCells (CC W) h (.new k o) 9).map AV.agg := by
  unfold aLoad; rw [ty75]; rfl
theorem ld_seeN {W : World} (h : AH) (k o : Nat) : aLoad (CC W) h 73 (.new k o) = (aCells (CC W) h (.new k o) 14).map AV.agg := by
  unfold aLoad; rw [ty73]; rfl

/-! ### what is said of the small traces -/
def ent1 : Ent := ⟨0, 0, 1, (cre 1).op⟩
def rep1R : Rep := ⟨0, 0, 1, ⟨0, [], 0, 0, 0, []⟩⟩
def sA (n : Int) : See := ⟨cre n, [], []⟩
def sB : See := ⟨cho0, [rep1R], [ent1]⟩
def sC : See := ⟨cho0, [rep1R], []⟩
def sD : See := ⟨cre 1, [rep1R], []⟩
theorem opOk1 : OpnOk (cre 0).op := ⟨by decide, by decide, by decide, by decide⟩
theorem opOk0 : OpnOk cho0.op := ⟨by decide, by decide, by decide, by decide⟩
theorem small_open : (openP (toldP wp0 [sA 4])).length = 1 := by decide +kernel
theorem small_repl : ((toldP wp0 [sD]).calls.length : Int) - (openP (toldP wp0 [sD])).length = 1 := by decide +kernel
theorem growW_eq (b l : List Ent) (h1 : b.length ≤ l.length) (h2 : l.take b.length = b) : growW b l = growF l 0 [] [] := by
  unfold growW
  rw [if_pos ⟨h1, h2⟩]
theorem shape26 : shapeR 40 20 8 = some 16 := by decide +kernel
def P1 : WP := nextP wp0 (sA 1)
theorem stepN_0 {sh : Int × Int × Int} {cm : Int} {P : WP} {s : See} {wh : List (Key × Int)} (hg : growW P.before s.h = some wh) (h1 : s.reps.all (knownR (callP P s.c)) = true) (h2 : s.reps.all (ansB wh (ansR (newM sh.2.2.toNat cm) s.h)) = true) (h3 : s.h.all (subR (callP P s.c)) = true) (h4 : ordB (repP (callP P s.c) s.reps) wh s.h = true) : stepN sh cm P s = 0 := by
  rw [stepN_eq, hg]
  simp only [h1, h2, h3, h4, not_true_eq_false, if_false]
theorem stepN_3 {sh : Int × Int × Int} {cm : Int} {P : WP} {s : See} {wh : List (Key × Int)} (hg : growW P.before s.h = some wh) (h1 : s.reps.all (knownR (callP P s.c)) = true) (h2 : s.reps.all (ansB wh (ansR (newM sh.2.2.toNat cm) s.h)) = false) : stepN sh cm P s = 3 := by
  rw [stepN_eq, hg]
  simp [h1, h2]
theorem step_A : stepN (40, 20, 8) 16 wp0 (sA 1) = 0 := stepN_0 (wh := []) ((growW_eq [] [] (by simp) (by simp)).trans rfl) (by decide +kernel) (by decide +kernel) (by decide +kernel) (by decide +kernel)
theorem step_B : stepN (40, 20, 8) 16 P1 sB = 0 := stepN_0 (wh := [((0, 1), 1)]) ((growW_eq [] [ent1] (by simp) (by simp)).trans (by decide +kernel)) (by decide +kernel) (by decide +kernel) (by decide +kernel) (by decide +kernel)
theorem step_C : stepN (40, 20, 8) 16 P1 sC = 3 := stepN_3 (wh := []) ((growW_eq [] [] (by simp) (by simp)).trans rfl) (by decide +kernel) (by decide +kernel)
theorem check_AB : checkR (40, 20, 8) 16 wp0 [sA 1, sB] 0 = (0, 0) := by
  simp only [checkR, step_A, if_true]
  have := step_B
  simp only [P1] at this
  rw [this]; simp
theorem check_AC : checkR (40, 20, 8) 16 wp0 [sA 1, sC] 0 = (3, 1) := by
  simp only [checkR, step_A, if_true]
  have := step_C
  simp only [P1] at this
  rw [this]; simp

/-! ### how it is built -/
theorem buildS_rep1 {W : World} {h : AH} {c : List AV} (hc : c.length = 9) : aBuildSlice (CC W) h 70 1 [(0, .agg c)] = some (.sl (some (.new h.next 0)) 1 1 none, h.push (.cells c 75)) := by
  match c, hc with
  | [c0, c1, c2, c3, c4, c5, c6, c7, c8], _ =>
    simp only [aBuildSlice, kind70, size75, zero75]
    rfl
end Go.Proofs.YtbofhlifobjolaaGreatDoor.Ax
end

/-! The small case of the trace: the walk -/
section
set_option linter.unusedVariables false
set_option linter.unusedSimpArgs false
namespace Go.Proofs.YtbofhlifobjolaaGreatDoor.Ax
open Go.RowKit

theorem field_cre {W : World} {n : Int} : aField (CC W) 69 (.agg (cre n).cells) 6 = some (.agg (cre 0).op.cells) := rfl
theorem build_ent1 {W : World} : aBuild (CC W) 78 [(2, .int .i64 1), (3, .agg (cre 0).op.cells)] = some (.agg ent1.cells) := rfl
theorem build_rep1 {W : World} : aBuild (CC W) 75 [(2, .int .i64 1)] = some (.agg (rep1R.cells (.sl none 0 0 none))) := rfl
theorem build_sA {W : World} {n : Int} : aBuild (CC W) 73 [(0, .agg (cre n).cells)] = some (.agg ((cre n).cells ++ [.sl none 0 0 none, .sl none 0 0 none])) := rfl
theorem build_sB {W : World} {a b : Option AA} : aBuild (CC W) 73 [(1, .sl a 1 1 none), (2, .sl b 1 1 none)] = some (.agg (cho0.cells ++ [.sl a 1 1 none, .sl b 1 1 none])) := rfl
theorem build_sC {W : World} {a : Option AA} : aBuild (CC W) 73 [(1, .sl a 1 1 none)] = some (.agg (cho0.cells ++ [.sl a 1 1 none, .sl none 0 0 none])) := rfl
theorem build_sD {W : World} {a : Option AA} : aBuild (CC W) 73 [(0, .agg (cre 1).cells), (1, .sl a 1 1 none)] = some (.agg ((cre 1).cells ++ [.sl a 1 1 none, .sl none 0 0 none])) := rfl
theorem buildS_see1 {W : World} {h : AH} {c : Cho} {a b : AV} : aBuildSlice (CC W) h 63 1 [(0, .agg (c.cells ++ [a, b]))] = some (.sl (some (.new h.next 0)) 1 1 none, h.push (.cells (c.cells ++ [a, b]) 73)) := by
  simp only [aBuildSlice, kind63, size73, zero73]
  rfl
theorem buildS_see2 {W : World} {h : AH} {c d : Cho} {a b x y : AV} : aBuildSlice (CC W) h 63 2 [(0, .agg (c.cells ++ [a, b])), (1, .agg (d.cells ++ [x, y]))] = some (.sl (some (.new h.next 0)) 2 2 none, h.push (.cells ([c.cells ++ [a, b], d.cells ++ [x, y]] : List (List AV)).flatten 73)) := by
  simp only [aBuildSlice, kind63, size73, zero73]
  rfl
theorem seeB1 {W : World} (h : AH) (c : Cho) (a b : AV) : ∃ h', aBuildSlice (CC W) h 63 1 [(0, .agg (c.cells ++ [a, b]))] = some (.sl (some (.new h.next 0)) 1 1 none, h') ∧ Keeps h h' ∧ h'.get h.next = some (.cells (c.cells ++ [a, b]) 73) ∧ h.next < h'.next :=
  ⟨_, buildS_see1, Keeps.push _ _, by rw [AH.get_push, if_pos rfl], by simp⟩
theorem seeB2 {W : World} (h : AH) (c d : Cho) (a b x y : AV) : ∃ h', aBuildSlice (CC W) h 63 2 [(0, .agg (c.cells ++ [a, b])), (1, .agg (d.cells ++ [x, y]))] = some (.sl (some (.new h.next 0)) 2 2 none, h') ∧ Keeps h h' ∧ h'.get h.next = some (.cells ([c.cells ++ [a, b], d.cells ++ [x, y]] : List (List AV)).flatten 73) ∧ h.next < h'.next :=
  ⟨_, buildS_see2, Keeps.push _ _, by rw [AH.get_push, if_pos rfl], by simp⟩
theorem entS_one {W : World} {h : AH} {k : Nat} (hk : k < h.next) (hg : h.get k = some (.cells ent1.cells 78)) : EntS W h (.sl (some (.new k 0)) 1 1 none) [ent1] :=
  bsl_own ld_entN [ent1.cells] [ent1] hk (t := 78) (by simpa using hg) (by simp [ent_len]) rfl fun i x u hx hu => by
    cases i with
    | zero => simp at hx hu; subst hx; subst hu; exact ⟨opOk1, rfl⟩
    | succ i => simp at hx
theorem repS_one {W : World} {h : AH} {k : Nat} (hk : k < h.next) (hg : h.get k = some (.cells (rep1R.cells (.sl none 0 0 none)) 75)) : RepS W h (.sl (some (.new k 0)) 1 1 none) [rep1R] :=
  bsl_own ld_repN [rep1R.cells (.sl none 0 0 none)] [rep1R] hk (t := 75) (by simpa using hg) (by simp [Rep.cells]) rfl fun i x u hx hu => by
    cases i with
    | zero => simp at hx hu; subst hx; subst hu; exact ⟨_, rfl, fun h' _ => StrS.nil, by simp [rep1R]⟩
    | succ i => simp at hx
theorem seeS_one {W : World} {h : AH} {k : Nat} {s : See} {a b : AV} (hk : k < h.next) (hg : h.get k = some (.cells (s.c.cells ++ [a, b]) 73)) (hP : SeeP W h s (.agg (s.c.cells ++ [a, b]))) : SeeS W h (.sl (some (.new k 0)) 1 1 none) [s] :=
  bsl_own ld_seeN [s.c.cells ++ [a, b]] [s] hk (t := 73) (by simpa using hg) (by simp [Cho.cells, Opn.cells]) rfl fun i x u hx hu => by
    cases i with
    | zero => simp at hx hu; subst hx; subst hu; simpa using hP
    | succ i => simp at hx
theorem seeS_two {W : World} {h : AH} {k : Nat} {s t : See} {a b x y : AV} (hk : k < h.next) (hg : h.get k = some (.cells ([s.c.cells ++ [a, b], t.c.cells ++ [x, y]] : List (List AV)).flatten 73)) (hP : SeeP W h s (.agg (s.c.cells ++ [a, b]))) (hQ : SeeP W h t (.agg (t.c.cells ++ [x, y]))) : SeeS W h (.sl (some (.new k 0)) 2 2 none) [s, t] :=
  bsl_own ld_seeN [s.c.cells ++ [a, b], t.c.cells ++ [x, y]] [s, t] hk (t := 73) hg (by simp [Cho.cells, Opn.cells]) rfl fun i z u hz hu => by
    rcases (by omega : i = 0 ∨ i = 1 ∨ 2 ≤ i) with rfl | rfl | hi
    · simp at hz hu; subst hz; subst hu; simpa using hP
    · simp at hz hu; subst hz; subst hu; simpa using hQ
    · obtain ⟨j, rfl⟩ : ∃ j, i = j + 2 := ⟨i - 2, by omega⟩
      simp at hz

set_option maxRecDepth 100000 in
set_option maxHeartbeats 16000000 in
theorem speaks26_ret (W : World) (h : AH) : RetK (CC W) 28 [] h (.bool true) := by
  refine jj9 (cc_ok W) (fn28 W) (by simp only [Tryz.f28]; rfl) rfl rfl ?_
  simp [push_cast]
  refine jf9 (by simp [fn59]) (create26_ret W h 1) fun h1 hk1 => ?_
  have hbr := buildS_rep1 (W := W) (h := h1.push (.cells ent1.cells 78)) (c := rep1R.cells (.sl none 0 0 none)) rfl
  have hkE := Keeps.push h1 (.cells ent1.cells 78)
  have hgE : (h1.push (.cells ent1.cells 78)).get h1.next = some (.cells ent1.cells 78) := by simp
  have hnE : h1.next < (h1.push (.cells ent1.cells 78)).next := by simp
  have hbe := buildS_ent (W := W) (h := h1) (e := ent1)
  generalize h1.push (.cells ent1.cells 78) = h2 at hbr hkE hgE hnE hbe
  generalize h1.next = ke at hbe hgE hnE
  have hkR := Keeps.push h2 (.cells (rep1R.cells (.sl none 0 0 none)) 75)
  have hgR : (h2.push (.cells (rep1R.cells (.sl none 0 0 none)) 75)).get h2.next = some (.cells (rep1R.cells (.sl none 0 0 none)) 75) := by simp
  have hnR : h2.next < (h2.push (.cells (rep1R.cells (.sl none 0 0 none)) 75)).next := by simp
  generalize h2.push (.cells (rep1R.cells (.sl none 0 0 none)) 75) = h3 at hbr hkR hgR hnR
  have hgE3 := (hkR.2 ke hnE).trans hgE
  have hnE3 : ke < h3.next := Nat.lt_of_lt_of_le hnE hkR.1
  generalize h2.next = kr at hbr hgR hnR
  have hk03 := (hk1.trans hkE).trans hkR
  simp [push_cast, field_cre, build_ent1, hbe, build_rep1, hbr]
  refine jf9 (by simp [fn30]) (little26_ret W h3) fun h4 hk4 => ?_
  simp [push_cast]
  refine jf9 (by simp [fn59]) (create26_ret W h4 1) fun h5 hk5 => ?_
  have hk35 := hk4.trans hk5
  obtain ⟨h6, hb5, hk6, hg6, hn6⟩ := seeB2 (W := W) h5 (cre 1) cho0 (.sl none 0 0 none) (.sl none 0 0 none) (.sl (some (.new kr 0)) 1 1 none) (.sl (some (.new ke 0)) 1 1 none)
  generalize h5.next = k5 at hb5 hg6 hn6
  simp [push_cast, build_sA, build_sB, hb5]
  have hk36 := hk35.trans hk6
  have hE6 := entS_one (W := W) (Nat.lt_of_lt_of_le hnE3 hk36.1) ((hk36.2 ke hnE3).trans hgE3)
  have hR6 := repS_one (W := W) (Nat.lt_of_lt_of_le hnR hk36.1) ((hk36.2 kr hnR).trans hgR)
  have hS6 : SeeS W h6 (.sl (some (.new k5 0)) 2 2 none) [sA 1, sB] := seeS_two (s := sA 1) (t := sB) hn6 hg6 ⟨_, _, rfl, opOk1, .inl ⟨rfl, rfl⟩, .inl ⟨rfl, rfl⟩, by decide, by decide⟩ ⟨_, _, rfl, opOk0, hR6, hE6, by decide, by decide⟩
  refine jf9 (by simp [fn29]) (check_ret W h6 40 20 8 16 _ _ hS6 shape26 (by decide) (by decide)) fun h7 hk7 => ?_
  rw [check_AB]
  have hk37 := hk36.trans hk7
  simp [push_cast]
  refine jf9 (by simp [fn30]) (little26_ret W h7) fun h8 hk8 => ?_
  simp [push_cast]
  refine jf9 (by simp [fn59]) (create26_ret W h8 1) fun h9 hk9 => ?_
  obtain ⟨hA, hbA, hkA, hgA, hnA⟩ := seeB2 (W := W) h9 (cre 1) cho0 (.sl none 0 0 none) (.sl none 0 0 none) (.sl (some (.new kr 0)) 1 1 none) (.sl none 0 0 none)
  generalize h9.next = k9 at hbA hgA hnA
  simp [push_cast, build_sA, build_sC, hbA]
  have hk3A := ((hk37.trans hk8).trans hk9).trans hkA
  have hRA := repS_one (W := W) (Nat.lt_of_lt_of_le hnR hk3A.1) ((hk3A.2 kr hnR).trans hgR)
  have hSA : SeeS W hA (.sl (some (.new k9 0)) 2 2 none) [sA 1, sC] := seeS_two (s := sA 1) (t := sC) hnA hgA ⟨_, _, rfl, opOk1, .inl ⟨rfl, rfl⟩, .inl ⟨rfl, rfl⟩, by decide, by decide⟩ ⟨_, _, rfl, opOk0, hRA, .inl ⟨rfl, rfl⟩, by decide, by decide⟩
  refine jf9 (by simp [fn29]) (check_ret W hA 40 20 8 16 _ _ hSA shape26 (by decide) (by decide)) fun hB hkB => ?_
  rw [check_AC]
  have hk3B := hk3A.trans hkB
  simp [push_cast]
  refine jf9 (by simp [fn59]) (create26_ret W hB 4) fun hC hkC => ?_
  obtain ⟨hD, hbD, hkD, hgD, hnD⟩ := seeB1 (W := W) hC (cre 4) (.sl none 0 0 none) (.sl none 0 0 none)
  generalize hC.next = kC at hbD hgD hnD
  simp [push_cast, build_sA, hbD]
  have hSD : SeeS W hD (.sl (some (.new kC 0)) 1 1 none) [sA 4] := seeS_one (s := sA 4) hnD hgD ⟨_, _, rfl, opOk1, .inl ⟨rfl, rfl⟩, .inl ⟨rfl, rfl⟩, by decide, by decide⟩
  refine je9 (by simp [fn33]) (open_ret W hD _ _ hSD (by decide)) fun w hE ⟨hkE', heo⟩ => ?_
  have hlE := heo.len (W := W) (h' := hE)
  rw [small_open] at hlE
  simp [push_cast, hlE]
  refine jf9 (by simp [fn59]) (create26_ret W hE 1) fun hF hkF => ?_
  obtain ⟨hG, hbG, hkG, hgG, hnG⟩ := seeB1 (W := W) hF (cre 1) (.sl (some (.new kr 0)) 1 1 none) (.sl none 0 0 none)
  generalize hF.next = kF at hbG hgG hnG
  simp [push_cast, build_sD, hbG]
  have hk3G := ((((hk3B.trans hkC).trans hkD).trans hkE').trans hkF).trans hkG
  have hRG := repS_one (W := W) (Nat.lt_of_lt_of_le hnR hk3G.1) ((hk3G.2 kr hnR).trans hgR)
  have hSG : SeeS W hG (.sl (some (.new kF 0)) 1 1 none) [sD] := seeS_one (s := sD) hnG hgG ⟨_, _, rfl, opOk1, hRG, .inl ⟨rfl, rfl⟩, by decide, by decide⟩
  refine jf9 (by simp [fn60]) (replied_ret W hG _ _ hSG (by decide)) fun hH hkH => ?_
  rw [small_repl]
  simp [push_cast]
  exact (hk03.trans hk3G).trans hkH
end Go.Proofs.YtbofhlifobjolaaGreatDoor.Ax
end
