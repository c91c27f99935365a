/- The texts Reach, Room, Count, CountP, RefNew, CountsW, as one. -/
import Derived.Test.YtbofhlifobjolaaGreatDoorGp
import Derived.Test.YtbofhlifobjolaaGreatDoorGh
import Derived.Test.YtbofhlifobjolaaGreatDoorGq

/-! Every directory is reached from the root, whatever is done: plain -/
section
set_option linter.unusedVariables false
set_option linter.unusedSimpArgs false
namespace Go.Proofs.YtbofhlifobjolaaGreatDoor.Ax
open Go.RowKit

def Rooted (M : MS) : Prop := ∀ (i : Nat) (nd : Nd), M.nodes[i]? = some nd → nd.kind = 2 → ∃ l, Good l ∧ Path M l 0 i

theorem path_mono {M M' : MS} (hs : ∀ (q : Nat) (n : Nd) (x : Slt), M.nodes[q]? = some n → n.kind = 2 → x ∈ n.slots → x.nm ≠ [] → ∃ n', M'.nodes[q]? = some n' ∧ n'.kind = 2 ∧ x ∈ n'.slots) : ∀ {l : Names} {q r : Nat}, Good l → Path M l q r → Path M' l q r
  | [], _, _, _, h => h
  | s :: l, q, r, hg, ⟨n, x, h1, h2, h3, h4, h5⟩ => by
    obtain ⟨n', e1, e2, e3⟩ := hs q n x h1 h2 h3 (by rw [h4]; exact hg s (by simp))
    exact ⟨n', x, e1, e2, e3, h4, path_mono hs hg.tail h5⟩

theorem reach_mono {M M' : MS} (hr : Rooted M) (hd : ∀ (q : Nat) (n' : Nd), M'.nodes[q]? = some n' → n'.kind = 2 → ∃ n, M.nodes[q]? = some n ∧ n.kind = 2)
    (hs : ∀ (q : Nat) (n : Nd) (x : Slt), M.nodes[q]? = some n → n.kind = 2 → x ∈ n.slots → x.nm ≠ [] → ∃ n', M'.nodes[q]? = some n' ∧ n'.kind = 2 ∧ x ∈ n'.slots) : Rooted M' := by
  intro i nd hn hk
  obtain ⟨n, h1, h2⟩ := hd i nd hn hk
  obtain ⟨l, g, p⟩ := hr i n h1 h2
  exact ⟨l, g, path_mono hs g p⟩

/-- A node that is changed; its names stay. -/
theorem reach_set {M : MS} (hr : Rooted M) {i : Nat} {nd nd' : Nd} (hn : M.nodes[i]? = some nd) (hk : nd'.kind = 2 → nd.kind = 2) (hs : nd.kind = 2 → nd'.kind = 2 ∧ ∀ x ∈ nd.slots, x.nm ≠ [] → x ∈ nd'.slots) : Rooted (M.set i nd') := by
  have hil := (List.getElem?_eq_some_iff.1 hn).1
  refine reach_mono hr (fun q n' h1 h2 => ?_) fun q n x h1 h2 h3 h4 => ?_
  · rcases set_node h1 with ⟨rfl, rfl⟩ | ⟨_, h5⟩
    · exact ⟨nd, hn, hk h2⟩
    · exact ⟨n', h5, h2⟩
  · by_cases e : q = i
    · subst e
      rw [hn] at h1; cases h1
      exact ⟨nd', set_at hil, (hs h2).1, (hs h2).2 x h3 h4⟩
    · exact ⟨n, by rw [set_other e]; exact h1, h2, h3⟩
theorem reach_put {M : MS} (hr : Rooted M) {p : Nat} {nm : List UInt8} {a : Int} : Rooted (putR M p nm a).2 := by
  cases hb : (putR M p nm a).1 with
  | false =>
    have := putR_false (M := M) (d := p) (nm := nm) (a := a) hb
    rw [this]; exact hr
  | true =>
    cases hn : M.nodes[p]? with
    | none => unfold putR at hb; rw [hn] at hb; cases hb
    | some nd =>
      obtain ⟨sl, sz, e, h1, _, _⟩ := put_node hn hb
      rw [e]
      exact reach_set hr hn (fun h => h) fun h => ⟨h, h1⟩

/-- A way and a slot that is taken. -/
theorem take_split {M : MS} {t : Nat} (h : Fine M t) {d j : Nat} {nd : Nd} {x : Slt} (hn : M.nodes[d]? = some nd) (hk : nd.kind = 2) (hx : nd.slots[j]? = some x) {l : Names} {q r : Nat} (hg : Good l) (hp : Path M l q r) :
    Path (takeR M d j) l q r ∨ ∃ k, k < l.length ∧ Path M (l.take k) q d ∧ l.take (k + 1) = l.take k ++ [x.nm] ∧ Path M (l.take (k + 1)) q x.ino.toNat ∧ Path M (l.drop (k + 1)) x.ino.toNat r := by
  rcases path_taken hn hx hp with h1 | ⟨k, k1, k2⟩
  · exact .inl h1
  · right
    have hkl := (List.getElem?_eq_some_iff.1 k2).1
    have e := take_get_last k2
    have p1 : Path M (l.take (k + 1)) q x.ino.toNat := by
      rw [e]; exact path_append.2 ⟨d, k1, nd, x, hn, hk, List.mem_of_getElem? hx, rfl, rfl⟩
    obtain ⟨m, m1, m2⟩ := path_take (k + 1) hp
    have := path_fun h (hg.take (k + 1)) p1 m1
    subst this
    exact ⟨k, hkl, k1, e, p1, m2⟩
theorem take_dirs {M : MS} {d j q : Nat} {n' : Nd} (h : (takeR M d j).nodes[q]? = some n') (hk : n'.kind = 2) : ∃ n, M.nodes[q]? = some n ∧ n.kind = 2 := by
  unfold takeR at h
  split at h
  · exact ⟨n', h, hk⟩
  · rename_i nd hnd
    rcases set_node h with ⟨rfl, rfl⟩ | ⟨_, h5⟩
    · exact ⟨nd, hnd, hk⟩
    · exact ⟨n', h5, hk⟩

theorem create_reach {M : MS} {t : Nat} (h : Fine M t) (ht : t < 1000000) (hr : Rooted M) (kd : Int) {l : Names} (hl : Good l) : Rooted (createR M kd l).2 := by
  have ok := h.ok ht
  unfold createR
  by_cases he : (parentR M l).2 = 0
  · obtain ⟨hl0, p, ndp, hp1, hndp, hkp, hplace, hpf⟩ := parentR_ok ok he
    simp only [if_pos he, hp1, Int.toNat_natCast]
    by_cases hf : freeR M < 0
    · simp only [if_pos hf]; exact hr
    · simp only [if_neg hf]
      obtain ⟨i, hi, hil, hx⟩ := fstI_lt hf
      have hfr : freeR M = (i : Int) := hi
      have hnd : M.nodes[i]? = some M.nodes[i] := by simp [hil]
      simp only [hnd, beq_iff_eq] at hx
      have hip : p ≠ i := fun e => by subst e; rw [hnd] at hndp; cases hndp; omega
      rw [hfr, Int.toNat_natCast]
      cases hpr : putR M p (l.getLast?.getD []) (i : Int) with
      | mk b M1 =>
        have hM1 : (putR M p (l.getLast?.getD []) (i : Int)).2 = M1 := by rw [hpr]
        have hR1 : Rooted M1 := hM1 ▸ reach_put hr
        cases b with
        | false => exact hR1
        | true =>
          obtain ⟨sl, sz, e, h1, h2, h3⟩ := put_node (nm := l.getLast?.getD []) (a := (i : Int)) hndp (by rw [hpr])
          rw [hM1] at e
          have hpl := (List.getElem?_eq_some_iff.1 hndp).1
          have hM1p : M1.nodes[p]? = some { ndp with slots := sl, size := sz } := by rw [e]; exact set_at hpl
          have hM1i : M1.nodes[i]? = some M.nodes[i] := by rw [e, set_other (Ne.symm hip)]; exact hnd
          have hil1 : i < M1.nodes.length := (List.getElem?_eq_some_iff.1 hM1i).1
          have P0 : Path M l.dropLast 0 p := path_of_find (q := 0) ok hpf
          have hmono : ∀ nd', ∀ {a : Names} {q r : Nat}, Good a → Path M1 a q r → Path (M1.set i nd') a q r := fun nd' => path_mono fun q n x a1 a2 a3 a4 => by
            have e : q ≠ i := fun e => by
              subst e; rw [hM1i] at a1; cases a1; omega
            exact ⟨n, by rw [set_other e]; exact a1, a2, a3⟩
          have P1 : Path M1 l.dropLast 0 p := by rw [e]; exact path_set (nd' := { ndp with slots := sl, size := sz }) hndp rfl h1 hl.drop P0
          have P2 : Path M1 l 0 i := path_step hl0 P1 hM1p hkp h2 rfl
          intro q n hq hk
          rcases set_node hq with ⟨rfl, rfl⟩ | ⟨hne, hq⟩
          · exact ⟨l, hl, hmono _ hl P2⟩
          · obtain ⟨a, g, pa⟩ := hR1 q n hq hk
            exact ⟨a, g, hmono _ g pa⟩
  · simp only [if_neg he]; exact hr

theorem unlink_reach {M : MS} {t : Nat} (h : Fine M t) (ht : t < 1000000) (hr : Rooted M) {l : Names} (hl : Good l) : Rooted (unlinkR M l).2 := by
  by_cases he : (fileR M l).2 = 0
  · obtain ⟨hl0, i, nd, d, ndd, j, x, hfi, hfd, hnd, hk, hd, hndd, hkd, hj, hxj, hxi, hxn, hxne⟩ := h.file ht hl he
    have hdi : d ≠ i := fun e => by subst e; rw [hnd] at hndd; cases hndd; omega
    have hx4 : (takeR M d j).nodes[i]? = some nd := by
      simp only [takeR, hndd, MS.set]
      rw [List.getElem?_set_ne hdi]; exact hnd
    have hun : unlinkR M l = if nd.links - 1 = 0 then ((0 : Int), ((takeR M d j).set i { nd with links := nd.links - 1 }).set i noNode) else ((0 : Int), (takeR M d j).set i { nd with links := nd.links - 1 }) := by
      simp only [unlinkR, hd, Int.toNat_natCast, hndd, hj, hfi, hx4, if_true]
    have hT : Rooted (takeR M d j) := by
      intro q n hq hkq
      obtain ⟨n0, hq0, hk0⟩ := take_dirs hq hkq
      obtain ⟨a, g, pa⟩ := hr q n0 hq0 hk0
      refine ⟨a, g, ?_⟩
      rcases take_split h hndd hkd hxj g pa with h1 | ⟨k, _, _, _, _, k4⟩
      · exact h1
      · exfalso
        rw [hxi, Int.toNat_natCast] at k4
        cases hdr : a.drop (k + 1) with
        | nil =>
          rw [hdr] at k4
          have e : i = q := k4
          subst e
          rw [hnd] at hq0; cases hq0; omega
        | cons s rest =>
          rw [hdr] at k4
          obtain ⟨n1, y, a1, a2, _⟩ := k4
          rw [hnd] at a1; cases a1; omega
    have hT2 : Rooted ((takeR M d j).set i { nd with links := nd.links - 1 }) := reach_set hT hx4 (fun e => e) fun e => by omega
    rw [hun]
    split
    · have hil4 := (List.getElem?_eq_some_iff.1 hx4).1
      exact reach_set hT2 (set_at hil4) (fun e => absurd e (by decide)) fun e => absurd (show nd.kind = 2 from e) (by omega)
    · exact hT2
  · have hun : unlinkR M l = ((fileR M l).2, M) := by simp only [unlinkR, if_neg he]
    rw [hun]; exact hr

theorem rmdir_reach {M : MS} {t : Nat} (h : Fine M t) (ht : t < 1000000) (hr : Rooted M) {l : Names} (hl : Good l) : Rooted (rmdirR M l).2 := by
  by_cases hl0 : l = []
  · have e : rmdirR M l = (309, M) := by simp only [rmdirR, if_pos hl0]
    rw [e]; exact hr
  by_cases he : (findR M l 0).2 = 0
  · obtain ⟨i, nd, d, ndd, j, x, hfd, hnd, hi0, hk, hd, hndd, hkd, hj, hxj, hxi, hxn, hxne⟩ := h.last ht hl hl0 he
    have e : rmdirR M l = if nd.kind = 2 then (if 0 < (nmsR nd.slots).length then ((305 : Int), M) else ((0 : Int), (takeR M d j).set i noNode)) else ((303 : Int), M) := by
      simp only [rmdirR, if_neg hl0, if_pos he, hfd, hd, Int.toNat_natCast, hnd, hndd, hj, if_true]
    rw [e]
    by_cases hk2 : nd.kind = 2
    · rw [if_pos hk2]
      by_cases hn : 0 < (nmsR nd.slots).length
      · rw [if_pos hn]; exact hr
      · rw [if_neg hn]
        have hemp := nmsR_nil hn
        have hdi : d ≠ i := fun e => by
          subst e; rw [hnd] at hndd; cases hndd
          exact hxne (hemp x (List.mem_of_getElem? hxj))
        have hx4 : (takeR M d j).nodes[i]? = some nd := by
          simp only [takeR, hndd, MS.set]
          rw [List.getElem?_set_ne hdi]; exact hnd
        intro q n hq hkq
        rcases set_node hq with ⟨rfl, rfl⟩ | ⟨hqi, hq⟩
        · exact absurd hkq (by decide)
        · obtain ⟨n0, hq0, hk0⟩ := take_dirs hq hkq
          obtain ⟨a, g, pa⟩ := hr q n0 hq0 hk0
          refine ⟨a, g, ?_⟩
          have hT : Path (takeR M d j) a 0 q := by
            rcases take_split h hndd hkd hxj g pa with h1 | ⟨k, _, _, _, _, k4⟩
            · exact h1
            · exfalso
              rw [hxi, Int.toNat_natCast] at k4
              cases hdr : a.drop (k + 1) with
              | nil =>
                rw [hdr] at k4
                have e : i = q := k4
                exact hqi e.symm
              | cons s rest =>
                rw [hdr] at k4
                obtain ⟨n1, y, a1, a2, a3, a4, _⟩ := k4
                rw [hnd] at a1; cases a1
                have hs : s ∈ a := List.mem_of_mem_drop (by rw [hdr]; simp)
                exact g s hs (a4.symm.trans (hemp y a3))
          refine path_mono (fun q n x a1 a2 a3 a4 => ?_) g hT
          have e : q ≠ i := fun e => by
            subst e; rw [hx4] at a1; cases a1
            exact a4 (hemp x a3)
          exact ⟨n, by rw [set_other e]; exact a1, a2, a3⟩
    · rw [if_neg hk2]; exact hr
  · have e : rmdirR M l = ((findR M l 0).2, M) := by simp only [rmdirR, if_neg hl0, if_neg he]
    rw [e]; exact hr

theorem link_reach {M : MS} (hr : Rooted M) {l l2 : Names} : Rooted (linkR M l l2).2 := by
  have hp := reach_put (p := (parentR M l2).1.toNat) (nm := l2.getLast?.getD []) (a := (fileR M l).1) hr
  unfold linkR
  repeat' split
  all_goals first | exact hr | exact hp | (rename_i x hx; exact reach_set hp hx (fun e => e) fun e => ⟨e, fun y hy _ => hy⟩)
theorem write_reach {M : MS} (hr : Rooted M) {a : Int} {d : List UInt8} {l : Names} : Rooted (writeR M a d l).2 := by
  unfold writeR
  repeat' split
  all_goals first | exact hr | (rename_i nd hnd _; exact reach_set hr hnd (fun e => e) fun e => ⟨e, fun y hy _ => hy⟩)
theorem trunc_reach {M : MS} (hr : Rooted M) {n : Int} {l : Names} : Rooted (truncR M n l).2 := by
  unfold truncR
  repeat' split
  all_goals first | exact hr | (rename_i nd hnd; exact reach_set hr hnd (fun e => e) fun e => ⟨e, fun y hy _ => hy⟩)

theorem rename_reach {M : MS} {t : Nat} (h : Fine M t) (ht : t < 1000000) (hr : Rooted M) {pt tt : List UInt8} (hp : (splitR pt).2 = 0) (hq : (splitR tt).2 = 0) : Rooted (renameR M pt tt (splitR pt).1 (splitR tt).1).2 := by
  by_cases hre : (renameR M pt tt (splitR pt).1 (splitR tt).1).1 = 0
  · have hbelow := belowR_eq hq hp
    have gf : Good (splitR pt).1 := splitR_ne hp
    have gt : Good (splitR tt).1 := splitR_ne hq
    generalize (splitR pt).1 = fl at *
    generalize (splitR tt).1 = tl at *
    have ok := h.ok ht
    obtain ⟨hl0, hl20, i, nd, d, ndd, j, x, p, ndp, hfd, hnd, hi0, hk, hd, hndd, hkd, hxj, hxi, hxn, hxne, hpf, hndp, hkp, hplace, hb, hpr, hM1⟩ := renameR_ok h ht gf hre
    rw [hM1]
    have hdl := (List.getElem?_eq_some_iff.1 hndd).1
    have P1 : Path M fl 0 i := path_of_find (q := 0) ok hfd
    have P2 : Path M fl.dropLast 0 d := path_of_find (q := 0) ok hd
    have P3 : Path M tl.dropLast 0 p := path_of_find (q := 0) ok hpf
    have uni : ∀ {a b : Names} {q : Nat} {n : Nd}, Good a → Good b → Path M a 0 q → Path M b 0 q → M.nodes[q]? = some n → n.kind = 2 → a = b := fun ga gb a1 a2 a3 a4 => path_dir h ht _ (Nat.le_refl _) ga gb a1 a2 a3 a4
    have hfl : fl = fl.dropLast ++ [x.nm] := by rw [hxn]; exact getLast_concat hl0
    -- a way through the slot begins with the old name
    have pre : ∀ {a : Names} {r : Nat}, Good a → Path M a 0 r → Path (takeR M d j) a 0 r ∨ (a.take fl.length = fl ∧ fl.length ≤ a.length ∧ Path M (a.drop fl.length) i r) := fun {a r} g pa => by
      rcases take_split h hndd hkd hxj g pa with h1 | ⟨k, k0, k1, k2, k3, k4⟩
      · exact .inl h1
      · right
        have he := uni (g.take k) gf.drop k1 P2 hndd hkd
        have e2 : a.take (k + 1) = fl := by rw [k2, he]; exact hfl.symm
        have e3 : fl.length = k + 1 := by rw [← e2, List.length_take]; omega
        rw [hxi, Int.toNat_natCast] at k4
        exact ⟨by rw [e3]; exact e2, by omega, by rw [e3]; exact k4⟩
    have hTi : (takeR M d j).nodes[i]? = some nd ∨ (i = d ∧ (takeR M d j).nodes[i]? = some { ndd with slots := ndd.slots.set j ⟨[], 0⟩ }) := by
      simp only [takeR, hndd]
      by_cases e : i = d
      · right; subst e; exact ⟨rfl, set_at hdl⟩
      · left; rw [set_other e]; exact hnd
    have T2 : Path (takeR M d j) tl.dropLast 0 p := by
      rcases pre gt.drop P3 with h1 | ⟨q1, q2, q3⟩
      · exact h1
      · exfalso
        simp only [List.length_dropLast] at q2
        have hpos := List.length_pos_iff.2 hl20
        have hk2 : nd.kind = 2 := by
          cases hdr : tl.dropLast.drop fl.length with
          | nil =>
            rw [hdr] at q3
            have e : i = p := q3
            subst e; rw [hnd] at hndp; cases hndp; exact hkp
          | cons s rest =>
            rw [hdr] at q3
            obtain ⟨n, y, a1, a2, _⟩ := q3
            rw [hnd] at a1; cases a1; exact a2
        refine hb ⟨hbelow.2 ⟨by omega, ?_⟩, hk2⟩
        have e : tl.dropLast.take fl.length = tl.take fl.length := by
          rw [List.dropLast_eq_take, List.take_take]; congr 1; omega
        rw [← e]; exact q1
    obtain ⟨ndp4, hTp, hkp4⟩ : ∃ ndp4, (takeR M d j).nodes[p]? = some ndp4 ∧ ndp4.kind = 2 := by
      simp only [takeR, hndd]
      by_cases e : p = d
      · subst e; exact ⟨_, set_at hdl, hkd⟩
      · exact ⟨ndp, by rw [set_other e]; exact hndp, hkp⟩
    obtain ⟨sl, sz, hP, hold, hnew, honly⟩ := put_node (nm := tl.getLast?.getD []) (a := (i : Int)) hTp hpr
    have hpl4 : p < (takeR M d j).nodes.length := (List.getElem?_eq_some_iff.1 hTp).1
    have U : ∀ {l : Names} {q r : Nat}, Good l → Path (takeR M d j) l q r → Path (putR (takeR M d j) p (tl.getLast?.getD []) (i : Int)).2 l q r := fun g a => by
      rw [hP]; exact path_set (nd' := { ndp4 with slots := sl, size := sz }) hTp rfl hold g a
    have hPp : (putR (takeR M d j) p (tl.getLast?.getD []) (i : Int)).2.nodes[p]? = some { ndp4 with slots := sl, size := sz } := by rw [hP]; exact set_at hpl4
    have V3 : Path (putR (takeR M d j) p (tl.getLast?.getD []) (i : Int)).2 tl 0 i := path_step hl20 (U gt.drop T2) hPp hkp4 hnew rfl
    intro q n hq hkq
    obtain ⟨n0, hq0, hk0⟩ : ∃ n, M.nodes[q]? = some n ∧ n.kind = 2 := by
      rw [hP] at hq
      rcases set_node hq with ⟨rfl, rfl⟩ | ⟨_, h5⟩
      · exact take_dirs hTp hkp4
      · exact take_dirs h5 hkq
    obtain ⟨a, g, pa⟩ := hr q n0 hq0 hk0
    rcases pre g pa with h1 | ⟨q1, q2, q3⟩
    · exact ⟨a, g, U g h1⟩
    · have gd : Good (a.drop fl.length) := fun y hy => g y (List.mem_of_mem_drop hy)
      refine ⟨tl ++ a.drop fl.length, fun y hy => by
        rw [List.mem_append] at hy
        rcases hy with hy | hy
        · exact gt y hy
        · exact gd y hy, path_append.2 ⟨i, V3, U gd ?_⟩⟩
      rcases take_split h hndd hkd hxj gd q3 with h1 | ⟨k, k0, k1, k2, k3, k4⟩
      · exact h1
      · exfalso
        rw [hxi, Int.toNat_natCast] at k3
        have hi2 : ∃ m, M.nodes[i]? = some m ∧ m.kind = 2 := by
          cases hdr : a.drop fl.length with
          | nil => rw [hdr] at k0; simp at k0
          | cons s rest =>
            rw [hdr] at q3
            obtain ⟨m, y, a1, a2, _⟩ := q3
            exact ⟨m, a1, a2⟩
        obtain ⟨m, m1, m2⟩ := hi2
        have h7 : Path M (fl ++ (a.drop fl.length).take (k + 1)) 0 i := path_append.2 ⟨i, P1, k3⟩
        have h8 := uni gf (fun y hy => by
          rw [List.mem_append] at hy
          rcases hy with hy | hy
          · exact gf y hy
          · exact gd y (List.mem_of_mem_take hy)) P1 h7 m1 m2
        have h9 := congrArg List.length h8
        simp only [List.length_append, List.length_take] at h9
        omega
  · rw [rename_ill h ht (splitR_ne hp) hre]; exact hr

theorem do_reach {M : MS} {t : Nat} (h : Fine M t) (ht : t < 1000000) (hr : Rooted M) (o : Opn) : Rooted (doR M o).2 := by
  by_cases h1 : rowR o.kd < 0
  · have e : doR M o = (Res.err 309, M) := by simp only [doR, if_pos h1]
    rw [e]; exact hr
  by_cases h2 : (splitR o.p).2 ≠ 0
  · have e : doR M o = (Res.err (splitR o.p).2, M) := by simp only [doR, if_neg h1]; rw [if_pos h2]
    rw [e]; exact hr
  by_cases h3 : toR (rowR o.kd).toNat = true ∧ (splitR o.t).2 ≠ 0
  · have e : doR M o = (Res.err (splitR o.t).2, M) := by simp only [doR, if_neg h1]; rw [if_neg h2, if_pos h3]
    rw [e]; exact hr
  have e : doR M o = opR (rowR o.kd).toNat M o (splitR o.p).1 (splitR o.t).1 := by simp only [doR, if_neg h1]; rw [if_neg h2, if_neg h3]
  have hs : (splitR o.p).2 = 0 := by simpa using h2
  have hl := splitR_ne hs
  rw [e]
  have hrow : rowR o.kd < 11 := by
    obtain ⟨i, hi, hil, _⟩ := fstI_lt h1
    have : rowR o.kd = (i : Int) := hi
    omega
  match hm : (rowR o.kd).toNat with
  | 0 => exact create_reach h ht hr _ hl
  | 1 => exact create_reach h ht hr _ hl
  | 2 => exact write_reach hr
  | 3 => exact trunc_reach hr
  | 4 => exact hr
  | 5 => exact hr
  | 6 => exact hr
  | 7 => exact link_reach hr
  | 8 => exact unlink_reach h ht hr hl
  | 9 => exact rmdir_reach h ht hr hl
  | 10 =>
    have ht2 : (splitR o.t).2 = 0 := by
      by_cases e : (splitR o.t).2 = 0
      · exact e
      · exact absurd ⟨by rw [hm]; rfl, e⟩ h3
    exact rename_reach h ht hr hs ht2
  | n + 11 => omega
theorem new_reach {n : Nat} {c : Int} : Rooted (newM n c) := by
  intro i nd hn hk
  cases i with
  | zero => exact ⟨[], fun x hx => (by cases hx), rfl⟩
  | succ i =>
    simp only [newM, List.getElem?_cons_succ, List.getElem?_replicate] at hn
    split at hn
    · cases hn; exact absurd hk (by decide)
    · cases hn
end Go.Proofs.YtbofhlifobjolaaGreatDoor.Ax
end

/-! No more blocks are used than there are: plain -/
section
set_option linter.unusedVariables false
set_option linter.unusedSimpArgs false
namespace Go.Proofs.YtbofhlifobjolaaGreatDoor.Ax
open Go.RowKit

def Room (M : MS) : Prop := usedR M ≤ M.data
/-- A file's blocks have keys that are all different. -/
def KeysN (M : MS) : Prop := ∀ nd ∈ M.nodes, ((nd.blocks.getD []).map (·.1)).Nodup

theorem ind_eq {nd nd' : Nd} (hk : nd'.kind = nd.kind) (hb : nd'.blocks = nd.blocks) (hs : nd'.slots.length = nd.slots.length) : ndCost nd' = ndCost nd := by
  simp only [ndCost, indR, hk, hb, hs]
theorem ndCost_pos (nd : Nd) : 0 ≤ ndCost nd := (costG_le (indR nd) (indR nd).length 0 []).1
theorem usedG_set : ∀ {l : List Nd} {i : Nat} {nd nd' : Nd}, l[i]? = some nd → usedG (l.set i nd') = usedG l - ndCost nd + ndCost nd'
  | [], i, nd, nd', h => by simp at h
  | x :: l, 0, nd, nd', h => by
    simp at h; subst h
    simp only [List.set_cons_zero, usedG]; omega
  | x :: l, i + 1, nd, nd', h => by
    have ih := usedG_set (nd' := nd') (show l[i]? = some nd by simpa using h)
    simp only [List.set_cons_succ, usedG]; omega
theorem used_set {M : MS} {i : Nat} {nd nd' : Nd} (h : M.nodes[i]? = some nd) : usedR (M.set i nd') = usedR M - ndCost nd + ndCost nd' := usedG_set h
theorem room_set {M : MS} (hr : Room M) {i : Nat} {nd' : Nd} (h : ∀ nd, M.nodes[i]? = some nd → ndCost nd' ≤ ndCost nd) : Room (M.set i nd') := by
  cases hnd : M.nodes[i]? with
  | none =>
    have : M.set i nd' = M := by
      simp only [MS.set]
      rw [List.set_eq_of_length_le (by simpa using hnd)]
    rw [this]; exact hr
  | some nd =>
    have := h nd hnd
    have h2 := used_set (nd' := nd') hnd
    show usedR (M.set i nd') ≤ M.data
    have : usedR M ≤ M.data := hr
    omega
theorem cost_noNode : ndCost noNode = 0 := by decide
theorem cost_newDir : ndCost newDir = 0 := by decide
theorem cost_newFile : ndCost newFile = 0 := by decide
theorem room_zero {M : MS} (hr : Room M) {i : Nat} {nd' : Nd} (h : ndCost nd' = 0) : Room (M.set i nd') := room_set hr fun nd _ => by rw [h]; exact ndCost_pos nd

theorem put_room {M : MS} (hr : Room M) {i : Nat} {nm : List UInt8} {a : Int} : Room (putR M i nm a).2 := by
  unfold putR
  split
  · exact hr
  · rename_i nd hnd
    split
    · refine room_set hr fun x hx => ?_
      rw [hnd] at hx; cases hx
      exact Int.le_of_eq (ind_eq rfl rfl (by simp))
    · split
      · exact hr
      · rename_i h
        exact Int.not_lt.1 h
theorem take_room {M : MS} (hr : Room M) {d j : Nat} : Room (takeR M d j) := by
  unfold takeR
  split
  · exact hr
  · rename_i nd hnd
    refine room_set hr fun x hx => ?_
    rw [hnd] at hx; cases hx
    exact Int.le_of_eq (ind_eq rfl rfl (by simp))

/-! ### Truncation -/
theorem addN_up (l : List (Int × Int)) (k : Int × Int) : l.length ≤ (addN l k).length := by
  unfold addN; split <;> simp
theorem nmN_up (l : List (Int × Int)) (x : Int) : l.length ≤ (nmN l x).length := by
  unfold nmN
  simp only
  split
  · split
    · exact Nat.le_trans (addN_up _ _) (addN_up _ _)
    · exact addN_up _ _
  · split
    · exact addN_up _ _
    · exact Nat.le_refl _
theorem nmF_len : ∀ (ps : List Int) (l : List (Int × Int)), l.length ≤ (ps.foldl nmN l).length
  | [], l => Nat.le_refl _
  | x :: ps, l => Nat.le_trans (nmN_up l x) (nmF_len ps _)
theorem ipR_ok {x : Int} (h0 : 0 ≤ x) (h1 : x < 4166) : (ipR x).2.2.2 = 0 := by
  unfold ipR
  rw [if_neg (by omega), if_neg (by omega)]
  split
  · rfl
  · split <;> rfl
theorem costG_up {ps : List Int} (hp : ps.Pairwise (· < ·)) (hr : ∀ x ∈ ps, 0 ≤ x ∧ x < 4166) : ∀ (n i : Nat) (l : List (Int × Int)), i + n = ps.length → (costG ps n i l).1 = ps.length + ((ps.drop i).foldl nmN l).length
  | 0, i, l, h => by
    rw [List.drop_of_length_le (by omega)]
    simp [costG]
  | n + 1, i, l, h => by
    have hi : i < ps.length := by omega
    have hx : ps[i]? = some ps[i] := by simp [hi]
    have hd : ps.drop i = ps[i] :: ps.drop (i + 1) := List.drop_eq_getElem_cons hi
    obtain ⟨r0, r1⟩ := hr ps[i] (by simp)
    have ih := costG_up hp hr n (i + 1) (nmN l ps[i]) (by omega)
    unfold costG
    rw [hx]
    simp only
    rw [if_neg (by rw [ipR_ok r0 r1]; simp), if_neg, ih, hd]
    · rfl
    · rintro ⟨h0, hle⟩
      have hgd : ps.getD (i - 1) 0 = ps[i - 1]'(by omega) := by
        rw [List.getD_eq_getElem?_getD, List.getElem?_eq_getElem (by omega)]; rfl
      rw [hgd] at hle
      have := (List.pairwise_iff_getElem.1 hp) (i - 1) i (by omega) hi (by omega)
      omega
theorem costR_up {ps : List Int} (hp : ps.Pairwise (· < ·)) (hr : ∀ x ∈ ps, 0 ≤ x ∧ x < 4166) : (costR ps).1 = ps.length + (ps.foldl nmN []).length := by
  have := costG_up hp hr ps.length 0 [] (by omega)
  simpa [costR] using this
theorem cost_take {ps : List Int} (hp : ps.Pairwise (· < ·)) (hr : ∀ x ∈ ps, 0 ≤ x ∧ x < 4166) (m : Nat) : (costR (ps.take m)).1 ≤ (costR ps).1 := by
  rw [costR_up hp hr, costR_up (hp.sublist (List.take_sublist _ _)) fun x hx => hr x (List.mem_of_mem_take hx)]
  have h1 : ps.foldl nmN [] = (ps.drop m).foldl nmN ((ps.take m).foldl nmN []) := by
    rw [← List.foldl_append, List.take_append_drop]
  have h2 := nmF_len (ps.drop m) ((ps.take m).foldl nmN [])
  rw [h1]
  have h3 : (ps.take m).length ≤ ps.length := by simp; omega
  omega

theorem filter_take {p : Int → Bool} (hp : ∀ x y, x ≤ y → p y = true → p x = true) : ∀ (l : List Int), l.Pairwise (· < ·) → ∃ m, l.filter p = l.take m
  | [], _ => ⟨0, rfl⟩
  | x :: l, h => by
    cases hx : p x with
    | true =>
      obtain ⟨m, hm⟩ := filter_take hp l (List.pairwise_cons.1 h).2
      exact ⟨m + 1, by simp [hx, hm]⟩
    | false =>
      refine ⟨0, ?_⟩
      rw [List.take_zero, List.filter_eq_nil_iff]
      intro y hy hc
      rw [List.mem_cons] at hy
      rcases hy with rfl | hy
      · rw [hx] at hc; cases hc
      · have := hp x y (by have := (List.pairwise_cons.1 h).1 y hy; omega) hc
        rw [hx] at this; cases this
theorem sort_strict {l : List Int} (h : l.Nodup) : (sortI l).Pairwise (· < ·) := by
  have h1 := (sortI_perm l).nodup_iff.2 h
  have h2 := sortI_sorted l
  rw [List.nodup_iff_pairwise_ne] at h1
  exact h2.imp₂ (fun a b h3 h4 => by omega) h1
theorem trB_keys (N : Int) : ∀ (b : Blk), (trB N b).map (·.1) = (b.map (·.1)).filter fun k => decide (0 < N - k * 128)
  | [] => rfl
  | x :: b => by
    have ih := trB_keys N b
    unfold trB at ih ⊢
    rw [List.filterMap_cons, List.map_cons, List.filter_cons]
    by_cases h : N - x.1 * 128 ≤ 0
    · have e : trK N x.1 x.2 = none := by unfold trK; rw [if_pos h]
      rw [e]
      simp only [Option.map_none]
      rw [ih, if_neg (by simp; omega)]
    · have e : ∃ s, trK N x.1 x.2 = some s := by
        unfold trK; rw [if_neg h]
        split <;> exact ⟨_, rfl⟩
      obtain ⟨s, e⟩ := e
      rw [e]
      simp only [Option.map_some, List.map_cons]
      rw [ih, if_pos (by simp; omega)]
theorem tr_cost {b : Blk} {N : Int} (hb : BOk b) (hk : (b.map (·.1)).Nodup) : (costR (sortI ((trB N b).map (·.1)))).1 ≤ (costR (sortI (b.map (·.1)))).1 := by
  have hs := sort_strict hk
  have hr : ∀ x ∈ sortI (b.map (·.1)), 0 ≤ x ∧ x < 4166 := fun x hx => by
    obtain ⟨y, hy, rfl⟩ := List.mem_map.1 ((sortI_perm _).mem_iff.1 hx)
    exact (hb y hy).2
  obtain ⟨m, hm⟩ := filter_take (p := fun k => decide (0 < N - k * 128)) (fun x y h1 h2 => by simp at h2 ⊢; omega) _ hs
  have he : sortI ((trB N b).map (·.1)) = (sortI (b.map (·.1))).filter fun k => decide (0 < N - k * 128) := by
    rw [trB_keys]
    refine List.Perm.eq_of_pairwise (le := fun a b : Int => a ≤ b) (fun a b _ _ h1 h2 => Int.le_antisymm h1 h2) (sortI_sorted _) ((sortI_sorted _).filter _) ?_
    exact (sortI_perm _).trans ((sortI_perm _).symm.filter _)
  rw [he, hm]
  exact cost_take hs hr m

theorem file_kind {M : MS} {l : List (List UInt8)} (h : (fileR M l).2 = 0) {nd : Nd} (hn : M.nodes[(fileR M l).1.toNat]? = some nd) : nd.kind ≠ 2 := by
  unfold fileR at h hn
  split at h
  · rename_i h1
    rw [if_pos h1] at hn
    cases hx : M.nodes[(findR M l 0).1.toNat]? with
    | none => rw [hx] at h; simp at h
    | some x =>
      rw [hx] at h hn
      simp only at h hn
      by_cases hk : x.kind = 2
      · rw [if_pos hk] at h; simp at h
      · rw [if_neg hk] at hn
        rw [hx] at hn; cases hn; exact hk
  · rename_i h1
    exact absurd h h1

theorem do_room {M : MS} {t : Nat} (hf : Fine M t) (hk : KeysN M) (h : Room M) (o : Opn) : Room (doR M o).2 := by
  unfold doR
  split
  · exact h
  · split
    · exact h
    · split
      · exact h
      · have hcreate : ∀ k l, Room (createR M k l).2 := fun k l => by
          unfold createR
          split
          · split
            · exact h
            · have hp := put_room (i := (parentR M l).1.toNat) (nm := l.getLast?.getD []) (a := freeR M) h
              split
              · rename_i M1 e; rw [e] at hp; exact hp
              · rename_i M1 e; rw [e] at hp
                refine room_zero hp ?_
                split
                · exact cost_newDir
                · exact cost_newFile
          · exact h
        have hwrite : ∀ a d l, Room (writeR M a d l).2 := fun a d l => by
          unfold writeR
          split
          · exact h
          · split
            · split
              · exact h
              · split
                · exact h
                · split
                  · rename_i nd hnd
                    split
                    · exact h
                    · rename_i hc
                      have e1 := used_set (nd' := { nd with blocks := nd.blocks.map (wrB a.toNat d) }) hnd
                      have e2 := used_set (nd' := { nd with size := max nd.size (a + d.length), blocks := nd.blocks.map (wrB a.toNat d) }) hnd
                      have e3 : ndCost { nd with size := max nd.size (a + d.length), blocks := nd.blocks.map (wrB a.toNat d) } = ndCost { nd with blocks := nd.blocks.map (wrB a.toNat d) } := ind_eq rfl rfl rfl
                      have h3 := Int.not_lt.1 hc
                      show usedR (M.set (fileR M l).1.toNat { nd with size := max nd.size (a + d.length), blocks := nd.blocks.map (wrB a.toNat d) }) ≤ M.data
                      omega
                  · exact h
            · exact h
        have htrunc : ∀ n l, Room (truncR M n l).2 := fun n l => by
          unfold truncR
          split
          · exact h
          · split
            · exact h
            · split
              · rename_i hfi
                split
                · rename_i nd hnd
                  refine room_set h fun x hx => ?_
                  rw [hnd] at hx; cases hx
                  have hkd := file_kind hfi hnd
                  have hm := List.mem_of_getElem? hnd
                  have hkn := hk nd hm
                  simp only [ndCost, indR, if_neg hkd]
                  cases hb : nd.blocks with
                  | none => simp
                  | some b =>
                    rw [hb] at hkn
                    have hok := hf.each nd hm
                    have hb2 : BOk b := by
                      rcases hok.kind with k | k | k
                      · rw [hok.free k] at hb; cases hb
                      · obtain ⟨b', e, hb', _⟩ := hok.file k
                        rw [hb] at e; cases e; exact hb'
                      · exact absurd k hkd
                    exact tr_cost hb2 hkn
                · exact h
              · exact h
        have hlink : ∀ l l2, Room (linkR M l l2).2 := fun l l2 => by
          have hp := put_room (i := (parentR M l2).1.toNat) (nm := l2.getLast?.getD []) (a := (fileR M l).1) h
          unfold linkR
          repeat' split
          all_goals first | exact h | exact hp | (rename_i x hx; refine room_set hp fun y hy => ?_; rw [hx] at hy; cases hy; exact Int.le_of_eq (ind_eq rfl rfl rfl))
        have hunlink : ∀ l, Room (unlinkR M l).2 := fun l => by
          unfold unlinkR
          split
          · split
            · exact h
            · rename_i nd hnd
              have ht := take_room (d := (findR M l.dropLast 0).1.toNat) (j := (placeR nd.slots (l.getLast?.getD [])).toNat) h
              split
              · exact h
              · rename_i x hx
                have h2 := room_set (i := (fileR M l).1.toNat) (nd' := { x with links := x.links - 1 }) ht fun y hy => by rw [hx] at hy; cases hy; exact Int.le_of_eq (ind_eq rfl rfl rfl)
                split
                · exact room_zero h2 cost_noNode
                · exact h2
          · exact h
        have hrmdir : ∀ l, Room (rmdirR M l).2 := fun l => by
          unfold rmdirR
          repeat' split
          all_goals first | exact h | exact room_zero (take_room h) cost_noNode
        have hrename : ∀ p q l l2, Room (renameR M p q l l2).2 := fun p q l l2 => by
          unfold renameR
          repeat' split
          all_goals first | exact h | exact put_room (take_room h)
        unfold opR
        split
        all_goals first | exact h | exact hcreate _ _ | exact hwrite _ _ _ | exact htrunc _ _ | exact hlink _ _ | exact hunlink _ | exact hrmdir _ | exact hrename _ _ _ _

theorem do_data {M : MS} {o : Opn} : (doR M o).2.data = M.data := by
  have hput : ∀ (M : MS) i nm a, (putR M i nm a).2.data = M.data := fun M i nm a => by
    unfold putR; repeat' split
    all_goals rfl
  have htake : ∀ (M : MS) d j, (takeR M d j).data = M.data := fun M d j => by
    unfold takeR; split <;> rfl
  have hcr : ∀ k l, (createR M k l).2.data = M.data := fun k l => by
    unfold createR
    split
    · split
      · rfl
      · have hp := hput M (parentR M l).1.toNat (l.getLast?.getD []) (freeR M)
        split
        · rename_i M1 e; rw [e] at hp; exact hp
        · rename_i M1 e; rw [e] at hp; exact hp
    · rfl
  unfold doR
  split
  · rfl
  · split
    · rfl
    · split
      · rfl
      · unfold opR
        split
        all_goals first
          | rfl
          | exact hcr _ _
          | (show (writeR M _ _ _).2.data = _
             unfold writeR
             repeat' split
             all_goals rfl)
          | (show (truncR M _ _).2.data = _
             unfold truncR
             repeat' split
             all_goals rfl)
          | (show (linkR M _ _).2.data = _
             unfold linkR
             repeat' split
             all_goals first | rfl | exact hput _ _ _ _)
          | (show (unlinkR M _).2.data = _
             unfold unlinkR
             repeat' split
             all_goals first | rfl | exact htake _ _ _)
          | (show (rmdirR M _).2.data = _
             unfold rmdirR
             repeat' split
             all_goals first | rfl | exact htake _ _ _)
          | (show (renameR M _ _ _ _).2.data = _
             unfold renameR
             repeat' split
             all_goals first | rfl | exact (hput _ _ _ _).trans (htake _ _ _))
theorem new_room {n : Nat} {c : Int} (h : 0 ≤ c) : Room (newM n c) := by
  have hr : ∀ k, usedG (List.replicate k noNode) = 0 := fun k => by
    induction k with
    | zero => rfl
    | succ k ih => rw [List.replicate_succ]; simp only [usedG, ih, cost_noNode]; rfl
  have h0 : ndCost rootNd = 0 := by decide
  show usedG (rootNd :: List.replicate (n - 1) noNode) ≤ c
  simp only [usedG, hr, h0]
  omega
theorem MIs.keysN {h : AH} {R : MR} {M : MS} (hm : MIs h R M) : KeysN M := by
  intro nd hnd
  obtain ⟨i, hi, he⟩ := List.getElem_of_mem hnd
  obtain ⟨r, nd', hr, hnd', hn⟩ := hm.node hi
  have : nd' = nd := by rw [List.getElem?_eq_getElem hi, he] at hnd'; exact (Option.some.inj hnd').symm
  subst this
  obtain ⟨mv, sv, _, hmp, _⟩ := hn
  cases hb : nd'.blocks with
  | none => simp
  | some b =>
    cases hrm : r.m with
    | none => rw [hb, hrm] at hmp; exact hmp.elim
    | some km =>
      rw [hb, hrm] at hmp
      obtain ⟨_, es, cl, _, hok, hes⟩ := hmp
      have := intKey_blocks hes
      simp only [Option.getD_some, ← this]
      exact hok.keys
end Go.Proofs.YtbofhlifobjolaaGreatDoor.Ax
end

/-! How often a tree names an inode: plain -/
section
set_option linter.unusedVariables false
set_option linter.unusedSimpArgs false
namespace Go.Proofs.YtbofhlifobjolaaGreatDoor.Ax
open Go.RowKit

/-- The paths of a tree, and where they lead. -/
def prsR (M : MS) : Nat → Names → Nat → List (Names × Nat)
  | 0, _, _ => []
  | n + 1, names, i => match M.nodes[i]? with
    | none => []
    | some nd => (names, i) :: (sortT (nmsR nd.slots)).flatMap fun s => prsR M n (names ++ [s]) (childR nd s)
theorem prs_paths (M : MS) : ∀ (n : Nat) (names : Names) (i : Nat), (prsR M n names i).map (·.1) = pathsR M n names i := by
  intro n
  induction n with
  | zero => intro names i; rfl
  | succ n ih =>
    intro names i
    cases hnd : M.nodes[i]? with
    | none => simp only [prsR, pathsR, hnd, List.map_nil]
    | some nd => simp only [prsR, pathsR, hnd, List.map_cons, List.map_flatMap, ih]
theorem prs_tree (M : MS) : ∀ (n : Nat) (names : Names) (i : Nat), treeR M n names i = (prsR M n names i).map fun p => flR p.1 p.2 ((M.nodes[p.2]?).getD noNode) := by
  intro n
  induction n with
  | zero => intro names i; rfl
  | succ n ih =>
    intro names i
    cases hnd : M.nodes[i]? with
    | none => simp only [prsR, treeR, hnd, List.map_nil]
    | some nd => simp only [prsR, treeR, hnd, List.map_cons, List.map_flatMap, ih, Option.getD_some]
theorem prs_mem {M : MS} {t : Nat} (h : Fine M t) : ∀ (n : Nat) (names : Names) (i : Nat), Good names → Path M names 0 i → ∀ p ∈ prsR M n names i, Good p.1 ∧ Path M p.1 0 p.2 ∧ p.2 < M.nodes.length := by
  intro n
  induction n with
  | zero => intro names i _ _ p hp; cases hp
  | succ n ih =>
    intro names i hg hp p hpm
    simp only [prsR] at hpm
    split at hpm
    · cases hpm
    · rename_i nd hnd
      rw [List.mem_cons] at hpm
      rcases hpm with rfl | hpm
      · exact ⟨hg, hp, (List.getElem?_eq_some_iff.1 hnd).1⟩
      · obtain ⟨s, hs, hpm⟩ := List.mem_flatMap.1 hpm
        exact ih (names ++ [s]) _ (fun y hy => by
          rw [List.mem_append, List.mem_singleton] at hy
          rcases hy with hy | rfl
          · exact hg y hy
          · exact (sort_mem hs).1) (child_path h hp hnd hs) p hpm

/-- A child by its name. -/
theorem child_slot {M : MS} {t : Nat} (h : Fine M t) {i : Nat} {nd : Nd} (hnd : M.nodes[i]? = some nd) {x : Slt} (hx : x ∈ nd.slots) (hne : x.nm ≠ []) : childR nd x.nm = x.ino.toNat ∧ x.nm ∈ sortT (nmsR nd.slots) := by
  have hk := slots_dir h hnd hx
  have hpl : ¬ placeR nd.slots x.nm < 0 := fun hc => placeR_neg.1 hc x hx rfl
  obtain ⟨j, y, e, hy, hyn⟩ := placeR_lt hpl
  have := h.uniq hnd hk hx (List.mem_of_getElem? hy) hyn.symm hne
  subst this
  refine ⟨by simp only [childR, e, Int.toNat_natCast, hy], (List.mergeSort_perm _ _).mem_iff.2 (List.mem_filterMap.2 ⟨x, hx, by simp [hne]⟩)⟩

/-- Each way is in the tree. -/
theorem prs_all {M : MS} {t : Nat} (h : Fine M t) : ∀ (n : Nat) {l names : Names} {i q : Nat}, Deep M n i → Good l → Path M l i q → q < M.nodes.length → (names ++ l, q) ∈ prsR M n names i := by
  intro n
  induction n with
  | zero => intro l names i q hd; exact hd.elim
  | succ n ih =>
    intro l names i q hd hg hp hq
    obtain ⟨nd, hnd, hch⟩ := hd
    cases l with
    | nil =>
      have e : i = q := hp
      subst e
      simp [prsR, hnd]
    | cons s l =>
      obtain ⟨nd', x, h1, h2, h3, h4, h5⟩ := hp
      rw [hnd] at h1; cases h1
      have hs : x.nm ≠ [] := by rw [h4]; exact hg s (by simp)
      obtain ⟨c1, c2⟩ := child_slot h hnd h3 hs
      have := ih (names := names ++ [s]) (hch x h3 hs) hg.tail h5 hq
      simp only [prsR, hnd]
      rw [List.mem_cons]
      right
      rw [h4] at c1 c2
      refine List.mem_flatMap.2 ⟨s, c2, ?_⟩
      rw [c1]
      simpa using this

/-! ### Counting -/
def cntN (l : List Nat) (c : Nat) : Nat := l.countP fun q => q == c
theorem cntN_flat {α : Type} (g : α → List Nat) (c : Nat) : ∀ (l : List α), cntN (l.flatMap g) c = (l.map fun x => cntN (g x) c).sum
  | [] => rfl
  | x :: l => by
    have ih := cntN_flat g c l
    simp only [cntN] at ih ⊢
    rw [List.flatMap_cons, List.countP_append, List.map_cons, List.sum_cons, ih]
def chR (M : MS) (q : Nat) : List Nat := match M.nodes[q]? with
  | none => []
  | some nd => (sortT (nmsR nd.slots)).map (childR nd)
def inoL (M : MS) (n : Nat) (names : Names) (i : Nat) : List Nat := (prsR M n names i).map (·.2)
theorem sum_map_add {α : Type} (f g : α → Nat) : ∀ (l : List α), (l.map fun x => f x + g x).sum = (l.map f).sum + (l.map g).sum
  | [] => rfl
  | x :: l => by simp only [List.map_cons, List.sum_cons, sum_map_add f g l]; omega
theorem sum_flat {α : Type} (g : α → List Nat) (f : Nat → Nat) : ∀ (l : List α), ((l.flatMap g).map f).sum = (l.map fun x => ((g x).map f).sum).sum
  | [] => rfl
  | x :: l => by simp only [List.flatMap_cons, List.map_append, List.sum_append, List.map_cons, List.sum_cons, sum_flat g f l]
theorem sum_ind (c : Nat) : ∀ (l : List Nat), (l.map fun x => if x = c then 1 else 0).sum = cntN l c
  | [] => rfl
  | x :: l => by
    simp only [List.map_cons, List.sum_cons, sum_ind c l, cntN, List.countP_cons, beq_iff_eq]
    split <;> omega
theorem sum_congr {α : Type} {f g : α → Nat} : ∀ {l : List α}, (∀ x ∈ l, f x = g x) → (l.map f).sum = (l.map g).sum
  | [], _ => rfl
  | x :: l, h => by
    simp only [List.map_cons, List.sum_cons]
    rw [h x (by simp), sum_congr fun y hy => h y (by simp [hy])]

/-- Each inode but the first one is there as often as it is named. -/
theorem ino_sum {M : MS} {t : Nat} (h : Fine M t) (c : Nat) : ∀ (n : Nat) (names : Names) (i : Nat), Deep M n i → cntN (inoL M n names i) c = (if i = c then 1 else 0) + ((inoL M n names i).map fun q => cntN (chR M q) c).sum := by
  intro n
  induction n with
  | zero => intro names i hd; exact hd.elim
  | succ n ih =>
    intro names i hd
    obtain ⟨nd, hnd, hch⟩ := hd
    have e : inoL M (n + 1) names i = i :: (sortT (nmsR nd.slots)).flatMap fun s => inoL M n (names ++ [s]) (childR nd s) := by
      simp only [inoL, prsR, hnd, List.map_cons, List.map_flatMap]
    have hih : ∀ s ∈ sortT (nmsR nd.slots), cntN (inoL M n (names ++ [s]) (childR nd s)) c = (if childR nd s = c then 1 else 0) + ((inoL M n (names ++ [s]) (childR nd s)).map fun q => cntN (chR M q) c).sum := fun s hs => by
      obtain ⟨hne, x, hx, rfl⟩ := sort_mem hs
      refine ih _ _ ?_
      rw [(child_slot h hnd hx hne).1]
      exact hch x hx hne
    rw [e]
    have e1 : cntN (i :: (sortT (nmsR nd.slots)).flatMap fun s => inoL M n (names ++ [s]) (childR nd s)) c = (if i = c then 1 else 0) + cntN ((sortT (nmsR nd.slots)).flatMap fun s => inoL M n (names ++ [s]) (childR nd s)) c := by
      simp only [cntN, List.countP_cons, beq_iff_eq]; omega
    rw [e1, cntN_flat, List.map_cons, List.sum_cons, sum_flat, sum_congr hih, sum_map_add]
    have e2 : chR M i = (sortT (nmsR nd.slots)).map (childR nd) := by simp only [chR, hnd]
    have e3 : ((sortT (nmsR nd.slots)).map fun s => if childR nd s = c then 1 else 0).sum = cntN (chR M i) c := by
      rw [e2, ← sum_ind, List.map_map]; rfl
    rw [e3]

/-- What a node's names name. -/
theorem ch_cnt {M : MS} {t : Nat} (h : Fine M t) (ht : t < 1000000) {q c : Nat} {nd : Nd} (hnd : M.nodes[q]? = some nd) : cntN (chR M q) c = cnt nd.slots c := by
  have hino := (h.ok ht).inos nd (List.mem_of_getElem? hnd)
  have e1 : (chR M q).Perm ((nmsR nd.slots).map (childR nd)) := by
    simp only [chR, hnd]
    exact (List.mergeSort_perm _ _).map _
  have e2 : cntN (chR M q) c = cntN ((nmsR nd.slots).map (childR nd)) c := e1.countP_eq _
  rw [e2]
  have key : ∀ (l : List Slt), (∀ x ∈ l, x ∈ nd.slots) → cntN ((nmsR l).map (childR nd)) c = cnt l c := by
    intro l
    induction l with
    | nil => intro _; rfl
    | cons x l ih =>
      intro hl
      have hi := ih fun y hy => hl y (by simp [hy])
      have hx := hl x (by simp)
      have hxi := hino x hx
      simp only [cntN, cnt, nmsR] at hi ⊢
      rw [List.filterMap_cons, List.countP_cons]
      by_cases e : x.nm = []
      · rw [if_pos e]
        simp only [live, e]
        simpa using hi
      · rw [if_neg e]
        simp only [List.map_cons, List.countP_cons, hi]
        rw [(child_slot h hnd hx e).1]
        have hb : (x.ino.toNat == c) = live c x := by
          simp only [live, e, ne_eq, not_false_eq_true, decide_true, Bool.true_and]
          by_cases h2 : x.ino = (c : Int)
          · simp [h2]
          · have : ¬ x.ino.toNat = c := by omega
            simp [h2, this]
        rw [hb]
  exact key nd.slots fun x hx => hx

/-- Sums over a list of places, by how often each is there. -/
theorem sum_by {f : Nat → Nat} : ∀ (N : Nat) (l : List Nat), (∀ q ∈ l, q < N) → (l.map f).sum = ((List.range N).map fun q => cntN l q * f q).sum
  | N, [], _ => by
    have : ∀ q ∈ List.range N, cntN [] q * f q = 0 := fun q _ => by simp [cntN]
    rw [sum_congr this]
    generalize List.range N = r
    induction r with
    | nil => rfl
    | cons a r ih => simp [← ih]
  | N, x :: l, h => by
    have ih := sum_by (f := f) N l fun q hq => h q (by simp [hq])
    have hx := h x (by simp)
    rw [List.map_cons, List.sum_cons, ih]
    have e : ∀ q ∈ List.range N, cntN (x :: l) q * f q = (if q = x then f x else 0) + cntN l q * f q := fun q _ => by
      simp only [cntN, List.countP_cons, beq_iff_eq]
      by_cases e : x = q
      · subst e; simp [Nat.add_mul]; omega
      · have : ¬ q = x := fun h => e h.symm
        simp [e, this]
    rw [sum_congr e, sum_map_add]
    have : ∀ N, x < N → ((List.range N).map fun q => if q = x then f x else 0).sum = f x := by
      intro N
      induction N with
      | zero => intro h; omega
      | succ N ihN =>
        intro hxN
        rw [List.range_succ, List.map_append, List.sum_append]
        by_cases e : x = N
        · subst e
          have hz : ∀ q ∈ List.range x, (if q = x then f x else 0) = 0 := fun q hq => by
            rw [List.mem_range] at hq; rw [if_neg (by omega)]
          rw [sum_congr hz]
          have : ((List.range x).map fun _ => 0).sum = 0 := by
            generalize List.range x = r
            induction r with
            | nil => rfl
            | cons a r ih => simp [ih]
          simp [this]
        · rw [ihN (by omega)]
          have : ¬ N = x := fun h => e h.symm
          simp [this]
    rw [this N hx]
theorem refs_sum : ∀ (l : List Nd) (c : Nat), refsL l c = ((List.range l.length).map fun q => match l[q]? with | some nd => cnt nd.slots c | none => 0).sum
  | [], c => rfl
  | nd :: l, c => by
    have ih := refs_sum l c
    rw [List.length_cons, List.range_succ_eq_map, List.map_cons, List.sum_cons, List.map_map]
    simp only [refsL, ih, List.getElem?_cons_zero]
    congr 1

theorem ino_lt {M : MS} {t : Nat} (h : Fine M t) {n : Nat} : ∀ q ∈ inoL M n [] 0, q < M.nodes.length := fun q hq => by
  obtain ⟨p, hp, rfl⟩ := List.mem_map.1 hq
  exact (prs_mem h n [] 0 (fun x hx => by cases hx) rfl p hp).2.2

/-- A directory is there once. -/
theorem dir_once {M : MS} {t : Nat} (h : Fine M t) (ht : t < 1000000) (hr : Rooted M) {n : Nat} (hd : Deep M n 0) {q : Nat} {nd : Nd} (hn : M.nodes[q]? = some nd) (hk : nd.kind = 2) : cntN (inoL M n [] 0) q = 1 := by
  have hg0 : Good ([] : Names) := fun x hx => by cases hx
  have hmem := prs_mem h n [] 0 hg0 rfl
  have hnd := paths_nodup h n [] 0 hg0 rfl
  rw [← prs_paths] at hnd
  obtain ⟨l, gl, pl⟩ := hr q nd hn hk
  have hall := prs_all h n (names := []) hd gl pl (List.getElem?_eq_some_iff.1 hn).1
  rw [List.nil_append] at hall
  have e : cntN (inoL M n [] 0) q = (prsR M n [] 0).countP fun p => p.2 == q := by
    simp only [cntN, inoL, List.countP_map]; rfl
  rw [e]
  have huni : ∀ p ∈ prsR M n [] 0, p.2 = q → p.1 = l := fun p hp e2 => by
    obtain ⟨a, b, _⟩ := hmem p hp
    rw [e2] at b
    exact path_dir h ht _ (Nat.le_refl _) a gl b pl hn hk
  generalize prsR M n [] 0 = P at hnd hall huni
  have key : ∀ (P : List (Names × Nat)), (P.map (·.1)).Nodup → (∀ p ∈ P, p.2 = q → p.1 = l) → (P.countP fun p => p.2 == q) = if (l, q) ∈ P then 1 else 0 := by
    intro P
    induction P with
    | nil => intro _ _; rfl
    | cons p P ih =>
      intro hnd huni
      rw [List.map_cons, List.nodup_cons] at hnd
      have hi := ih hnd.2 fun p hp => huni p (by simp [hp])
      rw [List.countP_cons, hi]
      by_cases e : p.2 = q
      · have e1 := huni p (by simp) e
        have e2 : p = (l, q) := Prod.ext e1 e
        have e3 : (l, q) ∉ P := fun hc => hnd.1 (by rw [e1]; exact List.mem_map_of_mem (f := (·.1)) hc)
        rw [if_neg e3]
        simp [e2]
      · have e2 : ¬ (l, q) = p := fun hc => e (by rw [← hc])
        simp [e, e2]
  rw [key P hnd huni, if_pos hall]

/-- HOW OFTEN A TREE NAMES AN INODE. -/
theorem ino_cnt {M : MS} {t : Nat} (h : Fine M t) (ht : t < 1000000) (hr : Rooted M) {n : Nat} (hd : Deep M n 0) (c : Nat) : cntN (inoL M n [] 0) c = (if c = 0 then 1 else 0) + refsL M.nodes c := by
  rw [ino_sum h c n [] 0 hd, refs_sum, sum_by M.nodes.length _ (ino_lt h)]
  congr 1
  · by_cases e : c = 0
    · simp [e]
    · have : ¬ 0 = c := fun h => e h.symm
      simp [e, this]
  · refine sum_congr fun q hq => ?_
    rw [List.mem_range] at hq
    have hnd : M.nodes[q]? = some M.nodes[q] := by simp [hq]
    rw [ch_cnt h ht hnd]
    simp only [hnd]
    by_cases hk : M.nodes[q].kind = 2
    · rw [dir_once h ht hr hd hnd hk, Nat.one_mul]
    · have hs : M.nodes[q].slots = [] := by
        cases hsl : M.nodes[q].slots with
        | nil => rfl
        | cons x r => exact absurd (slots_dir h hnd (x := x) (by rw [hsl]; simp)) hk
      rw [hs, cnt_nil, Nat.mul_zero]
end Go.Proofs.YtbofhlifobjolaaGreatDoor.Ax
end

/-! Links are counted: what a tree's entries say: plain -/
section
set_option linter.unusedVariables false
set_option linter.unusedSimpArgs false
namespace Go.Proofs.YtbofhlifobjolaaGreatDoor.Ax
open Go.RowKit

theorem ino_val {M : MS} {t : Nat} (h : Fine M t) (ht : t < 1000000) (hr : Rooted M) {n : Nat} (hd : Deep M n 0) {q : Nat} {nd : Nd} (hn : M.nodes[q]? = some nd) :
    (nd.kind = 0 → cntN (inoL M n [] 0) q = 0) ∧ (nd.kind ≠ 0 → (cntN (inoL M n [] 0) q : Int) = nd.links ∧ 0 < cntN (inoL M n [] 0) q ∧ (nd.kind = 2 → cntN (inoL M n [] 0) q = 1)) := by
  have hql := (List.getElem?_eq_some_iff.1 hn).1
  have e := ino_cnt h ht hr hd q
  have w := h.ref q hql
  have hok := h.at hn
  obtain ⟨r, hr0, hrk⟩ := h.root
  have h0 : q = 0 → nd.kind = 2 := fun e => by subst e; rw [hn] at hr0; cases hr0; exact hrk
  simp only [wantM, hn, want] at w
  generalize cntN (inoL M n [] 0) q = c at e
  generalize refsL M.nodes q = c2 at e w
  rcases hok.kind with k | k | k
  · have hq : q ≠ 0 := fun e => by have := h0 e; omega
    rw [k] at w
    simp at w
    rw [if_neg hq] at e
    exact ⟨fun _ => by omega, fun hc => absurd k hc⟩
  · have hq : q ≠ 0 := fun e => by have := h0 e; omega
    rw [if_neg hq] at e
    rw [if_pos k] at w
    obtain ⟨b, _, _, _, h1, _⟩ := hok.file k
    exact ⟨fun hc => by omega, fun _ => ⟨by omega, by omega, fun hc => by omega⟩⟩
  · have hl := (hok.dir k).2.1
    rw [if_neg (by omega)] at w
    by_cases hq : q = 0
    · rw [if_pos hq] at e
      rw [if_neg (by simp [hq])] at w
      exact ⟨fun hc => by omega, fun _ => ⟨by omega, by omega, fun _ => by omega⟩⟩
    · rw [if_neg hq] at e
      rw [if_pos ⟨k, hq⟩] at w
      exact ⟨fun hc => by omega, fun _ => ⟨by omega, by omega, fun _ => by omega⟩⟩

/-- A tree, and its inodes. -/
theorem tree_ino {M : MS} {t : Nat} (h : Fine M t) {i : Nat} {f : Fl} (hf : (treeM M)[i]? = some f) : ∃ q nd, M.nodes[q]? = some nd ∧ (inoL M (M.nodes.length + 1) [] 0)[i]? = some q ∧ f.ino = (q : Int) ∧ f.links = nd.links ∧ f.kind = nd.kind := by
  unfold treeM at hf
  rw [prs_tree, List.getElem?_map, Option.map_eq_some_iff] at hf
  obtain ⟨p, hp, rfl⟩ := hf
  have hm := (prs_mem h (M.nodes.length + 1) [] 0 (fun x hx => by cases hx) rfl p (List.mem_of_getElem? hp)).2.2
  refine ⟨p.2, M.nodes[p.2], by simp [hm], by simp only [inoL, List.getElem?_map, hp]; rfl, rfl, ?_, ?_⟩
  · simp [flR, hm]
  · simp [flR, hm]
theorem tree_cnt {M : MS} (q : Nat) : ((treeM M).countP fun g => decide (g.ino = (q : Int))) = cntN (inoL M (M.nodes.length + 1) [] 0) q := by
  unfold treeM
  rw [prs_tree, List.countP_map]
  simp only [inoL, cntN, List.countP_map]
  congr 1
  funext p
  simp only [Function.comp, flR]
  by_cases e : p.2 = q
  · simp [e]
  · have : ¬ (p.2 : Int) = (q : Int) := by omega
    simp [e, this]

/-- Each file has as many paths as links, directories one. -/
theorem tree_links {M : MS} {t : Nat} (h : Fine M t) (ht : t < 1000000) (hr : Rooted M) {i : Nat} {f : Fl} (hf : (treeM M)[i]? = some f) :
    (((treeM M).countP fun g => decide (g.ino = f.ino) : Nat) : Int) = f.links ∧ (f.kind = 2 → ((treeM M).countP fun g => decide (g.ino = f.ino)) = 1) := by
  obtain ⟨q, nd, hn, hi, e1, e2, e3⟩ := tree_ino h hf
  rw [e1, tree_cnt, e2, e3]
  obtain ⟨h0, h1⟩ := ino_val h ht hr (deep_root h ht) hn
  have hp : 0 < cntN (inoL M (M.nodes.length + 1) [] 0) q := List.countP_pos_iff.2 ⟨q, List.mem_of_getElem? hi, by simp⟩
  by_cases hk : nd.kind = 0
  · have := h0 hk; omega
  · exact ⟨(h1 hk).1, (h1 hk).2.2⟩

/-! ### How many there are -/
theorem cnt_or {p : Nat → Bool} {x : Nat} (hx : p x = false) : ∀ (N : Nat), x < N → ((List.range N).countP fun q => p q || q == x) = (List.range N).countP p + 1
  | 0, h => by omega
  | N + 1, h => by
    rw [List.range_succ, List.countP_append, List.countP_append]
    by_cases e : x = N
    · subst e
      have hc : ((List.range x).countP fun q => p q || q == x) = (List.range x).countP p := by
        refine List.countP_congr fun q hq => ?_
        rw [List.mem_range] at hq
        have : (q == x) = false := by rw [beq_eq_false_iff_ne]; omega
        simp [this]
      rw [hc]
      simp [hx]
    · rw [cnt_or hx N (by omega)]
      have : (N == x) = false := by rw [beq_eq_false_iff_ne]; exact fun h => e h.symm
      simp [this]
      omega
def firstB (T : List Fl) (i : Nat) (a : Int) : Bool := (T.take i).all fun g => decide (g.ino ≠ a)
def fsts (V : List Nat) (i : Nat) : Bool := match V[i]? with
  | some q => (V.take i).all fun x => decide (x ≠ q)
  | none => false
theorem fsts_cnt {V : List Nat} {N : Nat} (hV : ∀ q ∈ V, q < N) : ∀ n, n ≤ V.length → (List.range n).countP (fsts V) = (List.range N).countP fun q => decide (q ∈ V.take n)
  | 0, _ => by
    have : (fun q => decide (q ∈ V.take 0)) = fun _ => false := by funext q; simp
    rw [this]; simp
  | n + 1, hn => by
    have ih := fsts_cnt hV n (by omega)
    have hx : V[n]? = some (V[n]'(by omega)) := by simp
    have hxN := hV (V[n]'(by omega)) (by simp)
    generalize V[n]'(by omega) = x at hx hxN
    rw [List.range_succ, List.countP_append, ih, List.take_add_one, hx]
    have hf : fsts V n = decide (x ∉ V.take n) := by
      simp only [fsts, hx]
      by_cases e : x ∈ V.take n
      · simp only [e, not_true_eq_false, decide_false]
        rw [List.all_eq_false]
        exact ⟨x, e, by simp⟩
      · simp only [e, not_false_eq_true, decide_true]
        rw [List.all_eq_true]
        intro y hy
        simp only [decide_eq_true_eq]
        rintro rfl
        exact e hy
    by_cases e : x ∈ V.take n
    · have h1 : (List.range N).countP (fun q => decide (q ∈ V.take n ++ (some x).toList)) = (List.range N).countP fun q => decide (q ∈ V.take n) := by
        refine List.countP_congr fun q _ => ?_
        simp only [Option.toList_some, List.mem_append, List.mem_singleton, decide_eq_true_eq]
        constructor
        · rintro (h | rfl)
          · exact h
          · exact e
        · exact .inl
      rw [h1]
      simp [hf, e]
    · have h1 : (List.range N).countP (fun q => decide (q ∈ V.take n ++ (some x).toList)) = (List.range N).countP (fun q => decide (q ∈ V.take n) || q == x) := by
        refine List.countP_congr fun q _ => ?_
        simp
      rw [h1, cnt_or (p := fun q => decide (q ∈ V.take n)) (by simp [e]) N hxN]
      simp [hf, e]
theorem cnt_range {p : Nd → Bool} : ∀ (l : List Nd), l.countP p = (List.range l.length).countP fun q => match l[q]? with | some nd => p nd | none => false
  | [] => rfl
  | x :: l => by
    rw [List.countP_cons, List.length_cons, List.range_succ_eq_map, List.countP_cons, List.countP_map, cnt_range l]
    rfl
theorem fsts_first {M : MS} {t : Nat} (h : Fine M t) {i : Nat} {f : Fl} (hf : (treeM M)[i]? = some f) : fsts (inoL M (M.nodes.length + 1) [] 0) i = firstB (treeM M) i f.ino := by
  obtain ⟨q, nd, hn, hi, e1, _⟩ := tree_ino h hf
  simp only [fsts, hi, firstB, e1]
  unfold treeM
  rw [prs_tree]
  simp only [inoL, ← List.map_take, List.all_map]
  congr 1
  funext p
  simp only [Function.comp, flR]
  by_cases e : p.2 = q
  · simp [e]
  · have : ¬ (p.2 : Int) = (q : Int) := by omega
    simp [e, this]
theorem tree_ilen (M : MS) : (inoL M (M.nodes.length + 1) [] 0).length = (treeM M).length := by
  unfold treeM inoL
  rw [prs_tree]; simp
/-- As many are first as inodes are taken. -/
theorem tree_seen {M : MS} {t : Nat} (h : Fine M t) (ht : t < 1000000) (hr : Rooted M) : (List.range (treeM M).length).countP (fsts (inoL M (M.nodes.length + 1) [] 0)) = liveR M.nodes := by
  have hd := deep_root h ht
  rw [← tree_ilen, fsts_cnt (ino_lt h) _ (Nat.le_refl _), List.take_length, liveR, cnt_range]
  refine List.countP_congr fun q hq => ?_
  rw [List.mem_range] at hq
  have hn : M.nodes[q]? = some M.nodes[q] := by simp [hq]
  obtain ⟨h0, h1⟩ := ino_val h ht hr hd hn
  rw [hn]
  simp only [decide_eq_true_eq]
  constructor
  · intro hm
    have hp : 0 < cntN (inoL M (M.nodes.length + 1) [] 0) q := List.countP_pos_iff.2 ⟨q, hm, by simp⟩
    by_cases hk : M.nodes[q].kind = 0
    · have := h0 hk; omega
    · simpa using hk
  · intro hk
    obtain ⟨x, hx, he⟩ := List.countP_pos_iff.1 (h1 (by simpa using hk)).2.1
    have : x = q := by simpa using he
    subst this; exact hx

/-! ### The inner loop -/
def frstK (T : List Fl) (i k : Nat) (a : Int) : Bool := (T.take (min k i)).all fun g => decide (g.ino ≠ a)
theorem frst_zero {T : List Fl} {i : Nat} {a : Int} : frstK T i 0 a = true := by simp [frstK]
theorem frst_end {T : List Fl} {i k : Nat} {a : Int} (h : i ≤ k) : frstK T i k a = firstB T i a := by
  simp only [frstK, firstB]; rw [Nat.min_eq_right h]
theorem frst_other {T : List Fl} {i k : Nat} {a : Int} {g : Fl} (hg : T[k]? = some g) (h : g.ino ≠ a) : frstK T i (k + 1) a = frstK T i k a := by
  simp only [frstK]
  by_cases hk : k < i
  · rw [Nat.min_eq_left (by omega), Nat.min_eq_left (by omega), List.take_add_one, hg, List.all_append]
    simp [h]
  · rw [Nat.min_eq_right (by omega), Nat.min_eq_right (by omega)]
theorem frst_same {T : List Fl} {i k : Nat} {a : Int} {g : Fl} (hg : T[k]? = some g) (h : g.ino = a) : frstK T i (k + 1) a = (frstK T i k a && decide (i ≤ k)) := by
  simp only [frstK]
  by_cases hk : k < i
  · rw [Nat.min_eq_left (by omega), Nat.min_eq_left (by omega), List.take_add_one, hg, List.all_append]
    have : ¬ i ≤ k := by omega
    simp [h, this]
  · rw [Nat.min_eq_right (by omega), Nat.min_eq_right (by omega)]
    have : i ≤ k := by omega
    simp [this]
theorem cnt_next {T : List Fl} {k : Nat} {a : Int} {g : Fl} (hg : T[k]? = some g) : ((T.take (k + 1)).countP fun g => decide (g.ino = a)) = ((T.take k).countP fun g => decide (g.ino = a)) + if g.ino = a then 1 else 0 := by
  rw [List.take_add_one, hg, List.countP_append]
  simp
theorem seen_next {P : Nat → Bool} {i : Nat} : (List.range (i + 1)).countP P = (List.range i).countP P + if P i = true then 1 else 0 := by
  rw [List.range_succ, List.countP_append]; simp
end Go.Proofs.YtbofhlifobjolaaGreatDoor.Ax
end

/-! The reference's new model: the walk -/
section
set_option linter.unusedVariables false
set_option linter.unusedSimpArgs false
namespace Go.Proofs.YtbofhlifobjolaaGreatDoor.Ax
open Go.RowKit

def TabI (h1 : AH) (kb N : Nat) (m : Nat) (e' : Env) (h' : AH) : Prop :=
  h' = h1 ∧ e'.length = 12 ∧ ∃ i : Nat, i + m = N ∧ (e'.getD 1 .undef = .ptr (some (.new kb 0)) ∧ e'.getD 3 .undef = .int .i64 i)

set_option maxHeartbeats 4000000 in
theorem tab_ret (W : World) (h : AH) (b j n : Int) (n0 : 1 ≤ n) (n1 : n ≤ 64) :
    RetK (CC W) 83 [.agg [.int .i64 b, .int .i64 j, .int .i64 n]] h (.int .i64 ((n + 3) / 4)) := by
  refine jj9 (cc_ok W) (fn83 W) (by simp only [Tryz.f83]; rfl) rfl rfl ?_
  have hbx := box_shape (h := h) (l := [.int .i64 b, .int .i64 j, .int .i64 n])
  have hk1 : Keeps h (h.push (.cells [.int .i64 b, .int .i64 j, .int .i64 n] 23)) := Keeps.push _ _
  have hgb : (h.push (.cells [.int .i64 b, .int .i64 j, .int .i64 n] 23)).get h.next = some (.cells [.int .i64 b, .int .i64 j, .int .i64 n] 23) := by simp
  generalize h.push (.cells [.int .i64 b, .int .i64 j, .int .i64 n] 23) = h1 at hbx hk1 hgb
  generalize h.next = kb at hbx hgb
  obtain ⟨N, hN⟩ := Int.eq_ofNat_of_zero_le (show 0 ≤ (n + 3) / 4 by omega)
  rw [hN]
  simp [qa9, qb9, qc9, qd9, qe9, qf9, qg9, qh9, qi9, qj9, qk9, ql9, qm9, qn9, qo9, qp9, qq9, qr9, qs9, qt9, qu9, qv9, qw9, qx9, ev, qy9, qz9, za9, zb9, zc9, zd9, ze9, zf9, zg9, zh9, zi9, zj9, zk9, zl9, zm9, zn9, zo9, zp9, zq9, zr9, zs9, zt9, zu9, zv9, zw9, hbx]
  refine loopN (cc_ok W) (TabI h1 kb N) N ⟨rfl, by simp, 0, by simp, by simp⟩ ?_
  rintro m e' h' ⟨rfl, hlen', i, him, hh⟩
  match e', hlen' with
  | a0 :: a1 :: a2 :: a3 :: a4 :: a5 :: a6 :: a7 :: a8 :: a9 :: a10 :: a11 :: [], _ =>
    simp at hh
    obtain ⟨rfl, rfl⟩ := hh
    have w4 : IntKind.i64.wrap (4 * (i : Int)) = 4 * (i : Int) := wrap64 (by omega) (by omega)
    have w1 : IntKind.i64.wrap ((i : Int) + 1) = (i : Int) + 1 := wrap64 (by omega) (by omega)
    by_cases hlt : i < N
    · have hc : 4 * (i : Int) < n := by omega
      simp [qa9, qb9, qc9, qd9, qe9, qf9, qg9, qh9, qi9, qj9, qk9, ql9, qm9, qn9, qo9, qp9, qq9, qr9, qs9, qt9, qu9, qv9, qw9, qx9, ev, qy9, qz9, za9, zb9, zc9, zd9, ze9, zf9, zg9, zh9, zi9, zj9, zk9, zl9, zm9, zn9, zo9, zp9, zq9, zr9, zs9, zt9, zu9, zv9, zw9, fa23_2, ld3, ji9 hgb, jd9, w4, w1, hc]
      exact ⟨m - 1, by omega, rfl, by simp, i + 1, by omega, by simp⟩
    · have hc : ¬ 4 * (i : Int) < n := by omega
      have hi : i = N := by omega
      simp [qa9, qb9, qc9, qd9, qe9, qf9, qg9, qh9, qi9, qj9, qk9, ql9, qm9, qn9, qo9, qp9, qq9, qr9, qs9, qt9, qu9, qv9, qw9, qx9, ev, qy9, qz9, za9, zb9, zc9, zd9, ze9, zf9, zg9, zh9, zi9, zj9, zk9, zl9, zm9, zn9, zo9, zp9, zq9, zr9, zs9, zt9, zu9, zv9, zw9, fa23_2, ld3, ji9 hgb, jd9, w4, w1, hc]
      exact ⟨by omega, hk1⟩

set_option maxHeartbeats 4000000 in
theorem rdata_ret (W : World) (h : AH) (b j n : Int) (n0 : 1 ≤ n) (n1 : n ≤ 64) (j0 : 0 ≤ j) (j1 : j ≤ 1000) :
    RetK (CC W) 46 [.agg [.int .i64 b, .int .i64 j, .int .i64 n]] h (.int .i64 (dataR b j n)) := by
  refine jj9 (cc_ok W) (fn46 W) (by simp only [Tryz.f46]; rfl) rfl rfl ?_
  have hbx := box_shape (h := h) (l := [.int .i64 b, .int .i64 j, .int .i64 n])
  have hk1 : Keeps h (h.push (.cells [.int .i64 b, .int .i64 j, .int .i64 n] 23)) := Keeps.push _ _
  have hgb : (h.push (.cells [.int .i64 b, .int .i64 j, .int .i64 n] 23)).get h.next = some (.cells [.int .i64 b, .int .i64 j, .int .i64 n] 23) := by simp
  have hn1 : h.next < (h.push (.cells [.int .i64 b, .int .i64 j, .int .i64 n] 23)).next := by simp
  generalize h.push (.cells [.int .i64 b, .int .i64 j, .int .i64 n] 23) = h1 at hbx hk1 hgb hn1
  generalize h.next = kb at hbx hgb hn1
  have w1 : IntKind.i64.wrap (2 + j) = 2 + j := wrap64 (by omega) (by omega)
  have w2 : IntKind.i64.wrap (2 + j + (n + 3) / 4) = 2 + j + (n + 3) / 4 := wrap64 (by omega) (by omega)
  simp [qa9, qb9, qc9, qd9, qe9, qf9, qg9, qh9, qi9, qj9, qk9, ql9, qm9, qn9, qo9, qp9, qq9, qr9, qs9, qt9, qu9, qv9, qw9, qx9, ev, qy9, qz9, za9, zb9, zc9, zd9, ze9, zf9, zg9, zh9, zi9, zj9, zk9, zl9, zm9, zn9, zo9, zp9, zq9, zr9, zs9, zt9, zu9, zv9, zw9, hbx]
  refine drawS [0, 1, 2, 3, 4, 5, 6] (by kernel_rfl) (by kernel_rfl) ?_
  simp [qa9, qb9, qc9, qd9, qe9, qf9, qg9, qh9, qi9, qj9, qk9, ql9, qm9, qn9, qo9, qp9, qq9, qr9, qs9, qt9, qu9, qv9, qw9, qx9, ev, qy9, qz9, za9, zb9, zc9, zd9, ze9, zf9, zg9, zh9, zi9, zj9, zk9, zl9, zm9, zn9, zo9, zp9, zq9, zr9, zs9, zt9, zu9, zv9, zw9, zx9, zy9, SgO, opA, isE, isRead, fa23_1, ld3, ld_shape hgb, ji9 hgb, jd9, w1]
  refine jb9 (f := 83) (args := [.agg [.int .i64 b, .int .i64 j, .int .i64 n]]) (by rfl) (by rfl) (by rfl) (by simp [fn83]) (tab_ret W h1 b j n n0 n1) ?_
  rintro w h2 ⟨rfl, hk2⟩
  have hgb2 := (hk2.2 kb hn1).trans hgb
  refine ⟨?_, ?_⟩
  · simp [zz9, ja9, qa9, qb9, qc9, qd9, qe9, qf9, qg9, qh9, qi9, qj9, qk9, ql9, qm9, qn9, qo9, qp9, qq9, qr9, qs9, qt9, qu9, qv9, qw9, qx9, ev, qy9, qz9, za9, zb9, zc9, zd9, ze9, zf9, zg9, zh9, zi9, zj9, zk9, zl9, zm9, zn9, zo9, zp9, zq9, zr9, zs9, zt9, zu9, zv9, zw9, opA, fa23_1, ld3, ld_shape hgb2, ji9 hgb2, jd9]
  simp [qa9, qb9, qc9, qd9, qe9, qf9, qg9, qh9, qi9, qj9, qk9, ql9, qm9, qn9, qo9, qp9, qq9, qr9, qs9, qt9, qu9, qv9, qw9, qx9, ev, qy9, qz9, za9, zb9, zc9, zd9, ze9, zf9, zg9, zh9, zi9, zj9, zk9, zl9, zm9, zn9, zo9, zp9, zq9, zr9, zs9, zt9, zu9, zv9, zw9, zx9, zy9, SgO, opA, isE, isRead, w2]
  exact ⟨rfl, hk1.trans hk2⟩

set_option maxHeartbeats 8000000 in
theorem right_ret (W : World) (h : AH) (b j n c : Int) (hs : shapeR b j n = some c) :
    RetK (CC W) 45 [.agg [.int .i64 b, .int .i64 j, .int .i64 n]] h (.bool true) := by
  obtain ⟨b0, b1, j0, j1, n0, n1, hc⟩ : 16 ≤ b ∧ b ≤ 1024 ∧ 8 ≤ j ∧ j ≤ 256 ∧ 1 ≤ n ∧ n ≤ 64 ∧ 2 + j + (n + 3) / 4 + 4 ≤ b := by
    unfold shapeR at hs
    split at hs
    · rename_i hc
      simp only [inB, Bool.and_eq_true, decide_eq_true_eq] at hc
      split at hs
      · cases hs
      · rename_i h4
        simp only [dataR] at h4
        omega
    · cases hs
  refine jj9 (cc_ok W) (fn45 W) (by simp only [Tryz.f45]; rfl) rfl rfl ?_
  have hbx := box_shape (h := h) (l := [.int .i64 b, .int .i64 j, .int .i64 n])
  have hk1 : Keeps h (h.push (.cells [.int .i64 b, .int .i64 j, .int .i64 n] 23)) := Keeps.push _ _
  have hgb : (h.push (.cells [.int .i64 b, .int .i64 j, .int .i64 n] 23)).get h.next = some (.cells [.int .i64 b, .int .i64 j, .int .i64 n] 23) := by simp
  have hn1 : h.next < (h.push (.cells [.int .i64 b, .int .i64 j, .int .i64 n] 23)).next := by simp
  generalize h.push (.cells [.int .i64 b, .int .i64 j, .int .i64 n] 23) = h1 at hbx hk1 hgb hn1
  generalize h.next = kb at hbx hgb hn1
  have w1 : IntKind.i64.wrap (2 + j) = 2 + j := wrap64 (by omega) (by omega)
  have w2 : IntKind.i64.wrap (2 + j + (n + 3) / 4) = 2 + j + (n + 3) / 4 := wrap64 (by omega) (by omega)
  have w3 : IntKind.i64.wrap (2 + j + (n + 3) / 4 + 4) = 2 + j + (n + 3) / 4 + 4 := wrap64 (by omega) (by omega)
  simp [qa9, qb9, qc9, qd9, qe9, qf9, qg9, qh9, qi9, qj9, qk9, ql9, qm9, qn9, qo9, qp9, qq9, qr9, qs9, qt9, qu9, qv9, qw9, qx9, ev, qy9, qz9, za9, zb9, zc9, zd9, ze9, zf9, zg9, zh9, zi9, zj9, zk9, zl9, zm9, zn9, zo9, zp9, zq9, zr9, zs9, zt9, zu9, zv9, zw9, hbx]
  refine drawS [0, 1, 2, 3, 4, 5, 6, 7, 8, 9, 10, 11, 12, 13, 14, 15, 16, 17, 18, 19, 20, 21, 22, 23, 24, 25, 26, 27, 28, 29, 30, 31, 32, 36, 37, 33, 34, 35, 38, 39, 40] (by kernel_rfl) (by kernel_rfl) ?_
  simp [qa9, qb9, qc9, qd9, qe9, qf9, qg9, qh9, qi9, qj9, qk9, ql9, qm9, qn9, qo9, qp9, qq9, qr9, qs9, qt9, qu9, qv9, qw9, qx9, ev, qy9, qz9, za9, zb9, zc9, zd9, ze9, zf9, zg9, zh9, zi9, zj9, zk9, zl9, zm9, zn9, zo9, zp9, zq9, zr9, zs9, zt9, zu9, zv9, zw9, zx9, zy9, SgO, opA, isE, isRead, fa23_0, fa23_1, fa23_2, ld3, ld_shape hgb, ji9 hgb, jd9, w1, b0, b1, j0, j1, n0, n1]
  refine jb9 (f := 83) (args := [.agg [.int .i64 b, .int .i64 j, .int .i64 n]]) (by rfl) (by rfl) (by rfl) (by simp [fn83]) (tab_ret W h1 b j n n0 n1) ?_
  rintro w h2 ⟨rfl, hk2⟩
  have hgb2 := (hk2.2 kb hn1).trans hgb
  refine ⟨?_, ?_⟩
  · simp [zz9, ja9, qa9, qb9, qc9, qd9, qe9, qf9, qg9, qh9, qi9, qj9, qk9, ql9, qm9, qn9, qo9, qp9, qq9, qr9, qs9, qt9, qu9, qv9, qw9, qx9, ev, qy9, qz9, za9, zb9, zc9, zd9, ze9, zf9, zg9, zh9, zi9, zj9, zk9, zl9, zm9, zn9, zo9, zp9, zq9, zr9, zs9, zt9, zu9, zv9, zw9, opA, fa23_0, fa23_1, fa23_2, ld3, ld_shape hgb2, ji9 hgb2, jd9]
  simp [qa9, qb9, qc9, qd9, qe9, qf9, qg9, qh9, qi9, qj9, qk9, ql9, qm9, qn9, qo9, qp9, qq9, qr9, qs9, qt9, qu9, qv9, qw9, qx9, ev, qy9, qz9, za9, zb9, zc9, zd9, ze9, zf9, zg9, zh9, zi9, zj9, zk9, zl9, zm9, zn9, zo9, zp9, zq9, zr9, zs9, zt9, zu9, zv9, zw9, zx9, zy9, SgO, opA, isE, isRead, w2, w3, hc]
  exact hk1.trans hk2

/-! ### Nodes that are appended -/
def zN : List AV := [.int .i64 0, .int .i64 0, .int .i64 0, .sl none 0 0 none, .sl none 0 0 none, .sl none 0 0 none, .sl none 0 0 none]
theorem build_zn {W : World} : aBuild (CC W) 100 [] = some (.agg zN) := rfl
theorem build_zs {W : World} {h : AH} : aBuildSlice (CC W) h 58 1 [(0, .agg zN)] = some (.sl (some (.new h.next 0)) 1 1 none, h.push (.cells zN 100)) := by
  simp only [aBuildSlice, kind58, size100, zero100]
  rfl
theorem repZ_len {l : List AV} : ∀ n, (repZ n l).length = n * l.length
  | 0 => by simp [repZ]
  | n + 1 => by
    have ih := repZ_len (l := l) n
    simp only [repZ, List.replicate_succ, List.flatten_cons, List.length_append] at ih ⊢
    rw [ih, Nat.add_mul]; omega
theorem repZ_snoc {l : List AV} (n : Nat) : repZ n l ++ l = repZ (n + 1) l := by
  simp only [repZ, List.replicate_succ', List.flatten_append, List.flatten_cons, List.flatten_nil, List.append_nil]
/-- So many nodes, in a block above the first ones. -/
def NdV (lo : Nat) (h : AH) (v : AV) (i : Nat) : Prop :=
  i = 0 ∧ v = .sl none 0 0 none ∨ ∃ k, lo ≤ k ∧ k < h.next ∧ h.get k = some (.cells (repZ i zN) 100) ∧ v = .sl (some (.new k 0)) i i (some 7)
theorem append_zn {W : World} {lo : Nat} {h : AH} {v : AV} {i : Nat} (hv : NdV lo h v i) (hlo : lo ≤ h.next) (hi : i < 64) :
    ∃ v' h', aAppend (CC W) (h.push (.cells zN 100)) #[58, 58] v (.sl (some (.new h.next 0)) 1 1 none) = some (v', h') ∧ h.next < h'.next ∧ (∃ p, h.next ≤ p ∧ p < h'.next ∧ h'.get p = some (.cells (repZ (i + 1) zN) 100) ∧ v' = .sl (some (.new p 0)) (i + 1) (i + 1) (some 7)) ∧ ∀ q, q < lo → h'.get q = h.get q := by
  have hb : (CC W).bytes 100 = 120 := _root_.id rfl
  have hni : niOK (CC W) #[58, 58] = true := _root_.id rfl
  have hnews : aNews (CC W) (h.push (.cells zN 100)) 7 (.sl (some (.new h.next 0)) 1 1 none) = some (1, zN) := by
    simp [aNews, aCells, zN]
  have hone : zN.all aOne = true := rfl
  rcases hv with ⟨rfl, rfl⟩ | ⟨k, h1, h2, h3, rfl⟩
  · refine ⟨.sl (some (.new (h.next + 1) 0)) 1 1 (some 7), (h.push (.cells zN 100)).push (.cells zN 100), ?_, by simp; omega, ⟨h.next + 1, by omega, by simp, by simp [repZ], rfl⟩, fun q hq => ?_⟩
    · simp [aAppend, kind58, size100, zero100, hb, hni, hnews]
    · rw [AH.get_push, if_neg (by simp; omega), AH.get_push, if_neg (by omega)]
  · have hne : k ≠ h.next := by omega
    have hlen : (repZ i zN).length = i * 7 := repZ_len i
    have hsn := repZ_snoc (l := zN) i
    generalize repZ (i + 1) zN = c2 at hsn
    generalize repZ i zN = c1 at h3 hlen hsn
    subst hsn
    refine ⟨.sl (some (.new (h.next + 1) 0)) (i + 1) (i + 1) (some 7), ((h.push (.cells zN 100)).kill k).push (.cells (c1 ++ zN) 100), ?_, by simp [AH.next_kill']; omega, ⟨h.next + 1, by omega, by simp [AH.next_kill'], by simp [AH.next_kill'], rfl⟩, fun q hq => ?_⟩
    · by_cases hi0 : i = 0
      · subst hi0
        have : c1 = [] := List.length_eq_zero_iff.1 (by omega)
        subst this
        simp [aAppend, kind58, size100, zero100, hb, hni, hnews, hne, h3, hlen, AH.next_kill']
        try simpa using hone
      · simp [aAppend, kind58, size100, zero100, hb, hni, hnews, hne, h3, hlen, AH.next_kill', hi0]
        rw [if_neg (by omega), if_pos (by omega)]
        try simpa using hone
    · rw [AH.get_push, AH.next_kill', if_neg (by simp; omega), AH.get_kill', if_neg (by omega), AH.get_push, if_neg (by omega)]

theorem build_rmod {W : World} {c : Int} : aBuild (CC W) 60 [(1, .int .i64 c)] = some (.agg [.sl none 0 0 none, .int .i64 c]) := rfl
theorem st_rmod {W : World} {h : AH} {k : Nat} {a b : AV} {t : TypeId} {p : Option AA} {l cap : Nat} {g : Option Nat} (hg : h.get k = some (.cells [a, b] t)) : aStoreOp (CC W) h 58 (.ptr (some (.new k 0))) (.sl p l cap g) = some (h.set k (.cells [.sl p l cap g, b] t)) := by
  simp only [aStoreOp, aCellsOf, size58, aStore, hg]
  rfl
theorem build_rn {W : World} : aBuild (CC W) 100 [(0, .int .i64 2), (1, .int .i64 1)] = some (.agg [.int .i64 2, .int .i64 1, .int .i64 0, .sl none 0 0 none, .sl none 0 0 none, .sl none 0 0 none, .sl none 0 0 none]) := rfl
theorem st_rn {W : World} {h : AH} {k : Nat} {cs : List AV} {t : TypeId} (hg : h.get k = some (.cells cs t)) (hl : 7 ≤ cs.length) : ∃ cs', aStoreOp (CC W) h 100 (.ptr (some (.new k 0))) (.agg [.int .i64 2, .int .i64 1, .int .i64 0, .sl none 0 0 none, .sl none 0 0 none, .sl none 0 0 none, .sl none 0 0 none]) = some (h.set k (.cells cs' t)) := by
  simp only [aStoreOp, aCellsOf, size100, aStore, hg]
  rw [if_pos (by rfl), if_pos ⟨by simp; omega, by rfl⟩]
  exact ⟨_, rfl⟩

def RfI (h0 : AH) (kb km : Nat) (b j n c : Int) (N : Nat) (m : Nat) (e' : Env) (h' : AH) : Prop :=
  e'.length = 39 ∧ ∃ (i : Nat) (v : AV), i + m = N ∧ (h0.next ≤ kb ∧ kb < km ∧ km < h'.next) ∧ (∀ q, q < h0.next → h'.get q = h0.get q) ∧ h'.get kb = some (.cells [.int .i64 b, .int .i64 j, .int .i64 n] 23) ∧ h'.get km = some (.cells [v, .int .i64 c] 60) ∧ NdV (km + 1) h' v i ∧
    (e'.getD 1 .undef = .ptr (some (.new kb 0)) ∧ e'.getD 4 .undef = .ptr (some (.new km 0)) ∧ e'.getD 5 .undef = .int .i64 i)

set_option maxRecDepth 100000 in
set_option maxHeartbeats 8000000 in
theorem rnew_ret (W : World) (h : AH) (b j n c : Int) (hs : shapeR b j n = some c) :
    RetQ (CC W) 13 [.agg [.int .i64 b, .int .i64 j, .int .i64 n]] h (fun w h' => ∃ k sv, w = .tup [.ptr (some (.new k 0)), .int .i64 0] ∧ k < h'.next ∧ h'.get k = some (.cells [sv, .int .i64 c] 60)) := by
  obtain ⟨b0, b1, j0, j1, n0, n1, hc⟩ : 16 ≤ b ∧ b ≤ 1024 ∧ 8 ≤ j ∧ j ≤ 256 ∧ 1 ≤ n ∧ n ≤ 64 ∧ b - dataR b j n = c := by
    have hs := hs
    unfold shapeR at hs
    split at hs
    · rename_i hc
      simp only [inB, Bool.and_eq_true, decide_eq_true_eq] at hc
      split at hs
      · cases hs
      · cases hs; omega
    · cases hs
  have hright := fun h => right_ret W h b j n c hs
  refine jj9 (cc_ok W) (fn13 W) (by simp only [Tryz.f13]; rfl) rfl rfl ?_
  have hbx := box_shape (h := h) (l := [.int .i64 b, .int .i64 j, .int .i64 n])
  have hk1 : Keeps h (h.push (.cells [.int .i64 b, .int .i64 j, .int .i64 n] 23)) := Keeps.push _ _
  have hgb : (h.push (.cells [.int .i64 b, .int .i64 j, .int .i64 n] 23)).get h.next = some (.cells [.int .i64 b, .int .i64 j, .int .i64 n] 23) := by simp
  have hn1 : h.next < (h.push (.cells [.int .i64 b, .int .i64 j, .int .i64 n] 23)).next := by simp
  generalize h.push (.cells [.int .i64 b, .int .i64 j, .int .i64 n] 23) = h1 at hbx hk1 hgb hn1
  obtain ⟨kb, hkb⟩ : ∃ kb, kb = h.next := ⟨_, rfl⟩
  rw [← hkb] at hbx hgb hn1
  simp [qa9, qb9, qc9, qd9, qe9, qf9, qg9, qh9, qi9, qj9, qk9, ql9, qm9, qn9, qo9, qp9, qq9, qr9, qs9, qt9, qu9, qv9, qw9, qx9, ev, qy9, qz9, za9, zb9, zc9, zd9, ze9, zf9, zg9, zh9, zi9, zj9, zk9, zl9, zm9, zn9, zo9, zp9, zq9, zr9, zs9, zt9, zu9, zv9, zw9, hbx, ld_shape hgb]
  refine jf9 (by simp [fn45]) (hright h1) fun h2 hk2 => ?_
  have hgb2 := (hk2.2 kb hn1).trans hgb
  have hn2 := Nat.lt_of_lt_of_le hn1 hk2.1
  simp [qa9, qb9, qc9, qd9, qe9, qf9, qg9, qh9, qi9, qj9, qk9, ql9, qm9, qn9, qo9, qp9, qq9, qr9, qs9, qt9, qu9, qv9, qw9, qx9, ev, qy9, qz9, za9, zb9, zc9, zd9, ze9, zf9, zg9, zh9, zi9, zj9, zk9, zl9, zm9, zn9, zo9, zp9, zq9, zr9, zs9, zt9, zu9, zv9, zw9, aUn_not']
  have wd : IntKind.i64.wrap (b - dataR b j n) = c := by rw [hc]; exact wrap64 (by rw [← hc]; simp only [dataR]; omega) (by rw [← hc]; simp only [dataR]; omega)
  refine drawS [0, 1, 2, 3, 4, 5, 6, 7] (by kernel_rfl) (by kernel_rfl) ?_
  simp [qa9, qb9, qc9, qd9, qe9, qf9, qg9, qh9, qi9, qj9, qk9, ql9, qm9, qn9, qo9, qp9, qq9, qr9, qs9, qt9, qu9, qv9, qw9, qx9, ev, qy9, qz9, za9, zb9, zc9, zd9, ze9, zf9, zg9, zh9, zi9, zj9, zk9, zl9, zm9, zn9, zo9, zp9, zq9, zr9, zs9, zt9, zu9, zv9, zw9, zx9, zy9, SgO, opA, isE, isRead, fa23_0, ld3, ld_shape hgb2, ji9 hgb2, jd9]
  refine jb9 (f := 46) (args := [.agg [.int .i64 b, .int .i64 j, .int .i64 n]]) (by rfl) (by rfl) (by rfl) (by simp [fn46]) (rdata_ret W h2 b j n n0 n1 (by omega) (by omega)) ?_
  rintro w h3 ⟨rfl, hk3⟩
  have hgb3 := (hk3.2 kb hn2).trans hgb2
  have hn3 := Nat.lt_of_lt_of_le hn2 hk3.1
  refine ⟨?_, ?_⟩
  · simp [zz9, ja9, qa9, qb9, qc9, qd9, qe9, qf9, qg9, qh9, qi9, qj9, qk9, ql9, qm9, qn9, qo9, qp9, qq9, qr9, qs9, qt9, qu9, qv9, qw9, qx9, ev, qy9, qz9, za9, zb9, zc9, zd9, ze9, zf9, zg9, zh9, zi9, zj9, zk9, zl9, zm9, zn9, zo9, zp9, zq9, zr9, zs9, zt9, zu9, zv9, zw9, opA, fa23_0, ld3, ld_shape hgb3, ji9 hgb3, jd9]
  simp [qa9, qb9, qc9, qd9, qe9, qf9, qg9, qh9, qi9, qj9, qk9, ql9, qm9, qn9, qo9, qp9, qq9, qr9, qs9, qt9, qu9, qv9, qw9, qx9, ev, qy9, qz9, za9, zb9, zc9, zd9, ze9, zf9, zg9, zh9, zi9, zj9, zk9, zl9, zm9, zn9, zo9, zp9, zq9, zr9, zs9, zt9, zu9, zv9, zw9, zx9, zy9, SgO, opA, isE, isRead, wd, build_rmod]
  have hk4 := Keeps.push h3 (.cells [.sl none 0 0 none, .int .i64 c] 60)
  have hgb4 := (hk4.2 kb hn3).trans hgb3
  have hgm : (h3.push (.cells [.sl none 0 0 none, .int .i64 c] 60)).get h3.next = some (.cells [.sl none 0 0 none, .int .i64 c] 60) := by simp
  have hn4 : h3.next < (h3.push (.cells [.sl none 0 0 none, .int .i64 c] 60)).next := by simp
  refine jc9 (v := .ptr (some (.new h3.next 0))) (h' := h3.push (.cells [.sl none 0 0 none, .int .i64 c] 60)) (by rfl) (by rfl) ⟨?_, ?_⟩
  · simp [zz9, ja9, qa9, qb9, qc9, qd9, qe9, qf9, qg9, qh9, qi9, qj9, qk9, ql9, qm9, qn9, qo9, qp9, qq9, qr9, qs9, qt9, qu9, qv9, qw9, qx9, ev, qy9, qz9, za9, zb9, zc9, zd9, ze9, zf9, zg9, zh9, zi9, zj9, zk9, zl9, zm9, zn9, zo9, zp9, zq9, zr9, zs9, zt9, zu9, zv9, zw9, opA, fa23_0, ld3, ld_shape hgb4, ji9 hgb4, jd9]
  have hkk := (hk1.trans hk2).trans (hk3.trans hk4)
  generalize h3.push (.cells [.sl none 0 0 none, .int .i64 c] 60) = h4 at hk4 hgb4 hgm hn4 hkk
  generalize h3.next = km at hgm hn4 hn3
  simp [qa9, qb9, qc9, qd9, qe9, qf9, qg9, qh9, qi9, qj9, qk9, ql9, qm9, qn9, qo9, qp9, qq9, qr9, qs9, qt9, qu9, qv9, qw9, qx9, ev, qy9, qz9, za9, zb9, zc9, zd9, ze9, zf9, zg9, zh9, zi9, zj9, zk9, zl9, zm9, zn9, zo9, zp9, zq9, zr9, zs9, zt9, zu9, zv9, zw9, zx9, zy9, SgO, opA, isE, isRead]
  obtain ⟨N, rfl⟩ := Int.eq_ofNat_of_zero_le (show 0 ≤ n by omega)
  refine loopN (cc_ok W) (RfI h kb km b j N c N) N ⟨by simp, 0, .sl none 0 0 none, by simp, ⟨by omega, hn3, hn4⟩, hkk.2, hgb4, hgm, .inl ⟨rfl, rfl⟩, by simp⟩ ?_
  rintro m e' h' ⟨hlen', i, v, him, ⟨l1, l2, l3⟩, hkp, hgb', hgm', hv, hh⟩
  match e', hlen' with
  | a0 :: a1 :: a2 :: a3 :: a4 :: a5 :: a6 :: a7 :: a8 :: a9 :: a10 :: a11 :: a12 :: a13 :: a14 :: a15 :: a16 :: a17 :: a18 :: a19 :: a20 :: a21 :: a22 :: a23 :: a24 :: a25 :: a26 :: a27 :: a28 :: a29 :: a30 :: a31 :: a32 :: a33 :: a34 :: a35 :: a36 :: a37 :: a38 :: [], _ =>
    simp at hh
    obtain ⟨rfl, rfl, rfl⟩ := hh
    by_cases hlt : i < N
    · have hlt' : (i : Int) < (N : Int) := by omega
      have w1 : IntKind.i64.wrap ((i : Int) + 1) = (i : Int) + 1 := wrap64 (by omega) (by omega)
      obtain ⟨v', h5, hap, hnx, ⟨p, p1, p2, p3, rfl⟩, hold⟩ := append_zn (W := W) hv (by omega) (by omega)
      have hgm5 := (hold km (by omega)).trans hgm'
      have hgb5 := (hold kb (by omega)).trans hgb'
      have hst := st_rmod (W := W) (p := some (.new p 0)) (l := i + 1) (cap := i + 1) (g := some 7) hgm5
      have hkz := Keeps.push h' (.cells zN 100)
      simp [qa9, qb9, qc9, qd9, qe9, qf9, qg9, qh9, qi9, qj9, qk9, ql9, qm9, qn9, qo9, qp9, qq9, qr9, qs9, qt9, qu9, qv9, qw9, qx9, ev, qy9, qz9, za9, zb9, zc9, zd9, ze9, zf9, zg9, zh9, zi9, zj9, zk9, zl9, zm9, zn9, zo9, zp9, zq9, zr9, zs9, zt9, zu9, zv9, zw9, fa23_2, fa60_0, ld3, ld58, ji9 hgb', ji9 hgm', jd9, hlt, hlt', build_zn, build_zs, hap, hst, w1]
      refine ⟨m - 1, by omega, by simp, i + 1, .sl (some (.new p 0)) (i + 1) (i + 1) (some 7), by omega, ⟨l1, l2, by simp; omega⟩, fun q hq => ?_, ?_, by simp, .inr ⟨p, by omega, by simp; omega, ?_, rfl⟩, by simp⟩
      · have : q ≠ km := by omega
        simp [this]; rw [hold q (by omega)]; exact hkp q hq
      · have : kb ≠ km := by omega
        simp [this]; exact hgb5
      · have : p ≠ km := by omega
        simp [this]; exact p3
    · have hlt' : ¬ (i : Int) < (N : Int) := by omega
      have hi : i = N := by omega
      subst hi
      rcases hv with ⟨rfl, _⟩ | ⟨p, p1, p2, p3, rfl⟩
      · omega
      · have hlen : (repZ i zN).length = i * 7 := repZ_len i
        obtain ⟨cs', hst⟩ := st_rn (W := W) p3 (by omega)
        have hix : aIndexAddr (CC W) 58 (.sl (some (.new p 0)) i i (some 7)) (.int .i64 0) = some (.ptr (some (.new p 0))) := by
          simp only [aIndexAddr, kind58, size100]
          rw [if_pos (by omega)]
          simp [AA.add]
        simp [qa9, qb9, qc9, qd9, qe9, qf9, qg9, qh9, qi9, qj9, qk9, ql9, qm9, qn9, qo9, qp9, qq9, qr9, qs9, qt9, qu9, qv9, qw9, qx9, ev, qy9, qz9, za9, zb9, zc9, zd9, ze9, zf9, zg9, zh9, zi9, zj9, zk9, zl9, zm9, zn9, zo9, zp9, zq9, zr9, zs9, zt9, zu9, zv9, zw9, fa23_2, fa60_0, ld3, ld58, ji9 hgb', ji9 hgm', jd9, hlt, hlt', build_rn, hix, hst]
        refine ⟨⟨by simp; omega, fun q hq => ?_⟩, by omega, .sl (some (.new p 0)) i i (some 7), ?_⟩
        · have : q ≠ p := by omega
          simp [this]; exact hkp q hq
        · have : km ≠ p := by omega
          simp [this]; exact hgm'
end Go.Proofs.YtbofhlifobjolaaGreatDoor.Ax
end

/-! ModelCounts: the walk -/
section
set_option linter.unusedVariables false
set_option linter.unusedSimpArgs false
namespace Go.Proofs.YtbofhlifobjolaaGreatDoor.Ax
open Go.RowKit

def CntI (v : AV) (a b c cm : Int) (k2 km : Nat) (l : List Opn) (m : Nat) (e' : Env) (h' : AH) : Prop :=
  e'.length = 130 ∧ ∃ (i : Nat) (R : MR) (M : MS), i + m = l.length ∧ MIs h' R M ∧ Fine M i ∧ (ShortM M ∧ Rooted M ∧ Room M ∧ M.data = cm) ∧ R.km = km ∧ (h'.get k2 = some (.cells [.int .i64 a, .int .i64 b, .int .i64 c] 23) ∧ k2 < h'.next ∧ k2 ∉ R.ids) ∧
    (e'.getD 2 .undef = .ptr (some (.new k2 0)) ∧ e'.getD 5 .undef = .ptr (some (.new km 0)) ∧ e'.getD 46 .undef = v ∧ e'.getD 47 .undef = .int .i64 l.length ∧ e'.getD 48 .undef = .int .i64 i)

def SeeI (h0 : AH) (vt : AV) (L : Int) (V : List Nat) (n : Nat) (m : Nat) (e' : Env) (h' : AH) : Prop :=
  e'.length = 130 ∧ Keeps h0 h' ∧ ∃ i : Nat, i + m = n ∧
    (vt = e'.getD 13 .undef ∧ e'.getD 15 .undef = .int .i64 L ∧ e'.getD 16 .undef = .int .i64 ((List.range i).countP (fsts V) : Nat) ∧ vt = e'.getD 79 .undef ∧ e'.getD 80 .undef = .int .i64 n ∧ e'.getD 81 .undef = .int .i64 i)

def InnI (h0 : AH) (vt : AV) (L : Int) (V : List Nat) (T : List Fl) (i : Nat) (x : Int) (kA : Nat) (n : Nat) (m : Nat) (e' : Env) (h' : AH) : Prop :=
  e'.length = 130 ∧ Keeps h0 h' ∧ ∃ k : Nat, k + m = n ∧
    (vt = e'.getD 13 .undef ∧ e'.getD 15 .undef = .int .i64 L ∧ e'.getD 16 .undef = .int .i64 ((List.range i).countP (fsts V) : Nat) ∧ e'.getD 17 .undef = .int .i64 i ∧ e'.getD 18 .undef = .ptr (some (.new kA 0)) ∧
      e'.getD 19 .undef = .int .i64 ((T.take k).countP fun g => decide (g.ino = x) : Nat) ∧ e'.getD 20 .undef = .bool (frstK T i k x) ∧ vt = e'.getD 79 .undef ∧ e'.getD 80 .undef = .int .i64 n ∧ e'.getD 81 .undef = .int .i64 i ∧
      vt = e'.getD 86 .undef ∧ e'.getD 87 .undef = .int .i64 n ∧ e'.getD 88 .undef = .int .i64 k)

set_option maxRecDepth 100000 in
set_option maxHeartbeats 16000000 in
theorem counts_ret (W : World) (v : AV) (l : List Opn) (hv : OpsS W v l) (a b c : Int) (hl : l.length < 8796093022207) :
    ACall (CC W) 6 [.agg [.int .i64 a, .int .i64 b, .int .i64 c], v] AH.empty (fun w _ => w = .bool true) (fun _ _ => False) := by
  obtain ⟨va, vc, rfl, hops⟩ := hv
  refine jj9 (cc_ok W) (fn6 W) (by simp only [Tryz.f6]; rfl) rfl rfl ?_
  have hbx := box_shape (h := AH.empty) (l := [.int .i64 a, .int .i64 b, .int .i64 c])
  have hgs : (AH.empty.push (.cells [.int .i64 a, .int .i64 b, .int .i64 c] 23)).get AH.empty.next = some (.cells [.int .i64 a, .int .i64 b, .int .i64 c] 23) := by simp
  have hn1 : AH.empty.next < (AH.empty.push (.cells [.int .i64 a, .int .i64 b, .int .i64 c] 23)).next := by simp
  generalize AH.empty.push (.cells [.int .i64 a, .int .i64 b, .int .i64 c] 23) = h1 at hbx hgs hn1
  generalize AH.empty.next = k2 at hbx hgs hn1
  simp [qa9, qb9, qc9, qd9, qe9, qf9, qg9, qh9, qi9, qj9, qk9, ql9, qm9, qn9, qo9, qp9, qq9, qr9, qs9, qt9, qu9, qv9, qw9, qx9, ev, qy9, qz9, za9, zb9, zc9, zd9, ze9, zf9, zg9, zh9, zi9, zj9, zk9, zl9, zm9, zn9, zo9, zp9, zq9, zr9, zs9, zt9, zu9, zv9, zw9, hbx, ld_shape hgs]
  refine je9 (by simp [fn12]) (new_ret W h1 a b c) fun w h3 hw => ?_
  cases hsh : shapeR a b c with
  | none =>
    rw [hsh] at hw
    obtain ⟨rfl, hk3⟩ := hw
    simp [qa9, qb9, qc9, qd9, qe9, qf9, qg9, qh9, qi9, qj9, qk9, ql9, qm9, qn9, qo9, qp9, qq9, qr9, qs9, qt9, qu9, qv9, qw9, qx9, ev, qy9, qz9, za9, zb9, zc9, zd9, ze9, zf9, zg9, zh9, zi9, zj9, zk9, zl9, zm9, zn9, zo9, zp9, zq9, zr9, zs9, zt9, zu9, zv9, zw9, aEq, kind25, kindEq1, aEq1, kind4]
    refine jh9 (by simp [fn15]) (speaks_ret W _) ?_
    simp [qa9, qb9, qc9, qd9, qe9, qf9, qg9, qh9, qi9, qj9, qk9, ql9, qm9, qn9, qo9, qp9, qq9, qr9, qs9, qt9, qu9, qv9, qw9, qx9, ev, qy9, qz9, za9, zb9, zc9, zd9, ze9, zf9, zg9, zh9, zi9, zj9, zk9, zl9, zm9, zn9, zo9, zp9, zq9, zr9, zs9, zt9, zu9, zv9, zw9]
  | some cm =>
    rw [hsh] at hw
    obtain ⟨R, rfl, hk3, hm, hR⟩ := hw
    obtain ⟨hfine, hkeep⟩ : Fine (newM c.toNat cm) 0 ∧ ShortM (newM c.toNat cm) ∧ Rooted (newM c.toNat cm) ∧ Room (newM c.toNat cm) ∧ (newM c.toNat cm).data = cm := by
      have hsh := hsh
      unfold shapeR at hsh
      split at hsh
      · rename_i hc
        simp only [inB, Bool.and_eq_true, decide_eq_true_eq] at hc
        split at hsh
        · cases hsh
        · cases hsh
          exact ⟨new_fine (by omega) (by omega), new_short, new_reach, new_room (by omega), rfl⟩
      · cases hsh
    generalize newM c.toNat cm = M0 at hm hfine hkeep
    have hlen : ∀ h, aLen (CC W) h 24 (.sl va l.length vc none) = some (.int .i64 l.length) := fun h => by simp [aLen, kind24]
    simp [qa9, qb9, qc9, qd9, qe9, qf9, qg9, qh9, qi9, qj9, qk9, ql9, qm9, qn9, qo9, qp9, qq9, qr9, qs9, qt9, qu9, qv9, qw9, qx9, ev, qy9, qz9, za9, zb9, zc9, zd9, ze9, zf9, zg9, zh9, zi9, zj9, zk9, zl9, zm9, zn9, zo9, zp9, zq9, zr9, zs9, zt9, zu9, zv9, zw9, aEq, kind25, kindEq1, aEq1]
    refine jh9 (by simp [fn14]) (heavy_ret W h3 va l.length vc none) ?_
    by_cases c1 : (200 : Int) < (l.length : Int)
    · have c1' : 200 < l.length := by omega
      simp [qa9, qb9, qc9, qd9, qe9, qf9, qg9, qh9, qi9, qj9, qk9, ql9, qm9, qn9, qo9, qp9, qq9, qr9, qs9, qt9, qu9, qv9, qw9, qx9, ev, qy9, qz9, za9, zb9, zc9, zd9, ze9, zf9, zg9, zh9, zi9, zj9, zk9, zl9, zm9, zn9, zo9, zp9, zq9, zr9, zs9, zt9, zu9, zv9, zw9, aEq, kind25, kindEq1, aEq1, kind4, c1, c1']
      refine jh9 (by simp [fn15]) (speaks_ret W _) ?_
      simp [qa9, qb9, qc9, qd9, qe9, qf9, qg9, qh9, qi9, qj9, qk9, ql9, qm9, qn9, qo9, qp9, qq9, qr9, qs9, qt9, qu9, qv9, qw9, qx9, ev, qy9, qz9, za9, zb9, zc9, zd9, ze9, zf9, zg9, zh9, zi9, zj9, zk9, zl9, zm9, zn9, zo9, zp9, zq9, zr9, zs9, zt9, zu9, zv9, zw9]
    · have c1' : ¬ 200 < l.length := by omega
      simp [qa9, qb9, qc9, qd9, qe9, qf9, qg9, qh9, qi9, qj9, qk9, ql9, qm9, qn9, qo9, qp9, qq9, qr9, qs9, qt9, qu9, qv9, qw9, qx9, ev, qy9, qz9, za9, zb9, zc9, zd9, ze9, zf9, zg9, zh9, zi9, zj9, zk9, zl9, zm9, zn9, zo9, zp9, zq9, zr9, zs9, zt9, zu9, zv9, zw9, aEq, kind25, kindEq1, aEq1, c1, c1', hlen]
      have hg2 : h3.get k2 = some (.cells [.int .i64 a, .int .i64 b, .int .i64 c] 23) ∧ k2 < h3.next ∧ k2 ∉ R.ids := ⟨(hk3.2 k2 hn1).trans hgs, Nat.lt_of_lt_of_le hn1 hk3.1, fun hc => by have := hR _ hc; omega⟩
      refine loopN (cc_ok W) (CntI (.sl va l.length vc none) a b c cm k2 R.km l) l.length ⟨by simp, 0, R, M0, by simp, hm, hfine, hkeep, rfl, hg2, by simp⟩ ?_
      clear hm hfine hkeep hg2 hR
      generalize R.km = km at *
      rintro m e' h' ⟨hlen', i, R, M, him, hm, hfine, ⟨hshort, hroot, hroom, hdata⟩, rfl, hg2, hh⟩
      obtain ⟨a0, a1, a2, a3, a4, a5, a6, a7, a8, a9, rS0, rfl, hS0⟩ := un10 hlen'
      obtain ⟨a10, a11, a12, a13, a14, a15, a16, a17, a18, a19, rS10, rfl, hS10⟩ := un10 hS0
      obtain ⟨a20, a21, a22, a23, a24, a25, a26, a27, a28, a29, rS20, rfl, hS20⟩ := un10 hS10
      obtain ⟨a30, a31, a32, a33, a34, a35, a36, a37, a38, a39, rS30, rfl, hS30⟩ := un10 hS20
      obtain ⟨a40, a41, a42, a43, a44, a45, a46, a47, a48, a49, rS40, rfl, hS40⟩ := un10 hS30
      obtain ⟨a50, a51, a52, a53, a54, a55, a56, a57, a58, a59, rS50, rfl, hS50⟩ := un10 hS40
      obtain ⟨a60, a61, a62, a63, a64, a65, a66, a67, a68, a69, rS60, rfl, hS60⟩ := un10 hS50
      obtain ⟨a70, a71, a72, a73, a74, a75, a76, a77, a78, a79, rS70, rfl, hS70⟩ := un10 hS60
      obtain ⟨a80, a81, a82, a83, a84, a85, a86, a87, a88, a89, rS80, rfl, hS80⟩ := un10 hS70
      obtain ⟨a90, a91, a92, a93, a94, a95, a96, a97, a98, a99, rS90, rfl, hS90⟩ := un10 hS80
      obtain ⟨a100, a101, a102, a103, a104, a105, a106, a107, a108, a109, rS100, rfl, hS100⟩ := un10 hS90
      obtain ⟨a110, a111, a112, a113, a114, a115, a116, a117, a118, a119, rS110, rfl, hS110⟩ := un10 hS100
      obtain ⟨a120, a121, a122, a123, a124, a125, a126, a127, a128, a129, rS120, rfl, hS120⟩ := un10 hS110
      obtain rfl := un0 hS120
      clear hlen' hS0 hS10 hS20 hS30 hS40 hS50 hS60 hS70 hS80 hS90 hS100 hS110 hS120
      simp at hh
      obtain ⟨rfl, rfl, rfl, rfl, rfl⟩ := hh
      have hi200 : i < 1000000 := by omega
      by_cases hlt : i < l.length
      · have hlt' : (i : Int) < (l.length : Int) := by omega
        have wi : IntKind.i64.wrap ((i : Int) + 1) = (i : Int) + 1 := wrap64 (by omega) (by omega)
        have hx : l[i]? = some l[i] := by simp [hlt]
        generalize l[i] = o2 at hx
        obtain ⟨hok, a', hix, hld⟩ := hops i o2 hx
        have hld' := hld h'
        simp only [Opn.cells] at hld'
        have hst := st_op (W := W) (o := o2) (h := h'.push (.cells [.int .i64 0, .int .i64 0, .int .i64 0, .str [], .str [], .str []] 35)) (k := h'.next) (a := .int .i64 0) (b := .int .i64 0) (c := .int .i64 0) (d := .str []) (e := .str []) (f := .str []) (by simp)
        have hK : Keeps h' ((h'.push (.cells [.int .i64 0, .int .i64 0, .int .i64 0, .str [], .str [], .str []] 35)).set h'.next (.cells o2.cells 35)) := (Keeps.push _ _).set (Nat.le_refl _) _
        have hld2 := ld_op (W := W) (h := (h'.push (.cells [.int .i64 0, .int .i64 0, .int .i64 0, .str [], .str [], .str []] 35)).set h'.next (.cells o2.cells 35)) (k := h'.next) (a := .int .i64 o2.kd) (b := .int .i64 o2.at_) (c := .int .i64 o2.n) (d := .str o2.p) (e := .str o2.t) (f := .str o2.d) (by simp [Opn.cells])
        generalize (h'.push (.cells [.int .i64 0, .int .i64 0, .int .i64 0, .str [], .str [], .str []] 35)).set h'.next (.cells o2.cells 35) = h3 at hst hK hld2
        have hm3 := hm.keeps hK
        simp [qa9, qb9, qc9, qd9, qe9, qf9, qg9, qh9, qi9, qj9, qk9, ql9, qm9, qn9, qo9, qp9, qq9, qr9, qs9, qt9, qu9, qv9, qw9, qx9, ev, qy9, qz9, za9, zb9, zc9, zd9, ze9, zf9, zg9, zh9, zi9, zj9, zk9, zl9, zm9, zn9, zo9, zp9, zq9, zr9, zs9, zt9, zu9, zv9, zw9, hlt, hlt', hix, hld', alloc_op, hst, hld2]
        have hdo := do_all W h3 R M hm3 i hfine hi200 o2 hok.p hok.t hok.a hok.a'
        simp only [opV] at hdo
        refine je9 (by simp [fn17]) hdo fun w h4 ⟨R4, hres, hm4, hB4⟩ => ?_
        have hf4 := do_fine hfine hi200 o2
        have hs4 := do_short hshort o2
        have hr4 := do_reach hfine hi200 hroot o2
        have hro4 := do_room hfine hm3.keysN hroom o2
        have hd4 : (doR M o2).2.data = cm := do_data.trans hdata
        have hg4 := ((MStep.refl (R := R) hK).trans hB4).box hg2.1 hg2.2.1 hg2.2.2
        have km4 := hB4.hds.1
        generalize (doR M o2).2 = M' at *
        have hle : usedR M' ≤ cm := by rw [← hd4]; exact hro4
        simp [qa9, qb9, qc9, qd9, qe9, qf9, qg9, qh9, qi9, qj9, qk9, ql9, qm9, qn9, qo9, qp9, qq9, qr9, qs9, qt9, qu9, qv9, qw9, qx9, ev, qy9, qz9, za9, zb9, zc9, zd9, ze9, zf9, zg9, zh9, zi9, zj9, zk9, zl9, zm9, zn9, zo9, zp9, zq9, zr9, zs9, zt9, zu9, zv9, zw9]
        have hus := used_fine W R4 M' (i + 1) hf4 (by omega) h4 hm4
        rw [km4] at hus
        refine jg9 (by simp [fn19]) hus fun w2 h5 hk5 hw2 => ?_
        subst hw2
        have hm5 := hm4.keeps hk5
        have hg5 := (MStep.refl (R := R4) hk5).box hg4.1 hg4.2.1 hg4.2.2
        simp [qa9, qb9, qc9, qd9, qe9, qf9, qg9, qh9, qi9, qj9, qk9, ql9, qm9, qn9, qo9, qp9, qq9, qr9, qs9, qt9, qu9, qv9, qw9, qx9, ev, qy9, qz9, za9, zb9, zc9, zd9, ze9, zf9, zg9, zh9, zi9, zj9, zk9, zl9, zm9, zn9, zo9, zp9, zq9, zr9, zs9, zt9, zu9, zv9, zw9, ld_shape hg5.1]
        refine jg9 (by simp [fn13]) (rnew_ret W h5 a b c cm hsh) fun w6 h6 hk6 ⟨kr, sv, hw6, hkr, hgr⟩ => ?_
        subst hw6
        have hm6 := hm5.keeps hk6
        have hg6 := (MStep.refl (R := R4) hk6).box hg5.1 hg5.2.1 hg5.2.2
        have hgt : ¬ cm < usedR M' := by omega
        simp [qa9, qb9, qc9, qd9, qe9, qf9, qg9, qh9, qi9, qj9, qk9, ql9, qm9, qn9, qo9, qp9, qq9, qr9, qs9, qt9, qu9, qv9, qw9, qx9, ev, qy9, qz9, za9, zb9, zc9, zd9, ze9, zf9, zg9, zh9, zi9, zj9, zk9, zl9, zm9, zn9, zo9, zp9, zq9, zr9, zs9, zt9, zu9, zv9, zw9, jd9, fa60_1, ld3, ji9 hgr, hgt, wi]
        exact ⟨m - 1, by omega, by simp, i + 1, R4, M', by omega, hm6, hf4, ⟨hs4, hr4, hro4, hd4⟩, km4, hg6, by simp⟩
      · have hlt' : ¬ (i : Int) < (l.length : Int) := by omega
        simp [qa9, qb9, qc9, qd9, qe9, qf9, qg9, qh9, qi9, qj9, qk9, ql9, qm9, qn9, qo9, qp9, qq9, qr9, qs9, qt9, qu9, qv9, qw9, qx9, ev, qy9, qz9, za9, zb9, zc9, zd9, ze9, zf9, zg9, zh9, zi9, zj9, zk9, zl9, zm9, zn9, zo9, zp9, zq9, zr9, zs9, zt9, zu9, zv9, zw9, hlt, hlt']
        refine jg9 (by simp [fn21]) (tree_fine W R M i hfine (by omega) hshort h' hm) fun w1 h4 hk4 ht1 => ?_
        have hm4 := hm.keeps hk4
        have hF := ht1.flsB hm4
        simp [qa9, qb9, qc9, qd9, qe9, qf9, qg9, qh9, qi9, qj9, qk9, ql9, qm9, qn9, qo9, qp9, qq9, qr9, qs9, qt9, qu9, qv9, qw9, qx9, ev, qy9, qz9, za9, zb9, zc9, zd9, ze9, zf9, zg9, zh9, zi9, zj9, zk9, zl9, zm9, zn9, zo9, zp9, zq9, zr9, zs9, zt9, zu9, zv9, zw9]
        refine hideK fun K hK => ?_
        refine jg9 (by simp [fn19]) (used_fine W R M i hfine (by omega) h4 hm4) fun w2 h5 hk5 hw2 => ?_
        subst hw2
        have hF := hF.keeps hk5
        have hlA := hF.len (W := W) (h2 := h5)
        have hn := tree_len hfine (by omega) (M.nodes.length + 1)
        have hseen := tree_seen hfine (by omega) hroot
        have hlinks := fun i f hf => tree_links hfine (by omega) hroot (i := i) (f := f) hf
        have hfst := fun i f hf => fsts_first hfine (i := i) (f := f) hf
        change (treeM M).length ≤ _ at hn
        generalize treeM M = T at *
        generalize inoL M (M.nodes.length + 1) [] 0 = V at *
        generalize liveR M.nodes = Lv at *
        simp [qa9, qb9, qc9, qd9, qe9, qf9, qg9, qh9, qi9, qj9, qk9, ql9, qm9, qn9, qo9, qp9, qq9, qr9, qs9, qt9, qu9, qv9, qw9, qx9, ev, qy9, qz9, za9, zb9, zc9, zd9, ze9, zf9, zg9, zh9, zi9, zj9, zk9, zl9, zm9, zn9, zo9, zp9, zq9, zr9, zs9, zt9, zu9, zv9, zw9]
        subst hK
        rw [ql9, qa9]
        refine hideW fun K hK => ?_
        simp [qa9, qb9, qc9, qd9, qe9, qf9, qg9, qh9, qi9, qj9, qk9, ql9, qm9, qn9, qo9, qp9, qq9, qr9, qs9, qt9, qu9, qv9, qw9, qx9, ev, qy9, qz9, za9, zb9, zc9, zd9, ze9, zf9, zg9, zh9, zi9, zj9, zk9, zl9, zm9, zn9, zo9, zp9, zq9, zr9, zs9, zt9, zu9, zv9, zw9]
        subst hK
        rw [ql9, qa9]
        refine hideW fun K hK => ?_
        simp [qa9, qb9, qc9, qd9, qe9, qf9, qg9, qh9, qi9, qj9, qk9, ql9, qm9, qn9, qo9, qp9, qq9, qr9, qs9, qt9, qu9, qv9, qw9, qx9, ev, qy9, qz9, za9, zb9, zc9, zd9, ze9, zf9, zg9, zh9, zi9, zj9, zk9, zl9, zm9, zn9, zo9, zp9, zq9, zr9, zs9, zt9, zu9, zv9, zw9, hlA]
        have hz : ((List.range 0).countP (fsts V) : Nat) = 0 := rfl
        refine loopN (cc_ok W) (SeeI h5 w1 Lv V T.length) T.length ⟨by simp, Keeps.refl _, 0, by simp, by simp⟩ ?_
        rintro m e' h' ⟨hlen', hk, j, hjm, hh⟩
        obtain ⟨a0, a1, a2, a3, a4, a5, a6, a7, a8, a9, rS0, rfl, hS0⟩ := un10 hlen'
        obtain ⟨a10, a11, a12, a13, a14, a15, a16, a17, a18, a19, rS10, rfl, hS10⟩ := un10 hS0
        obtain ⟨a20, a21, a22, a23, a24, a25, a26, a27, a28, a29, rS20, rfl, hS20⟩ := un10 hS10
        obtain ⟨a30, a31, a32, a33, a34, a35, a36, a37, a38, a39, rS30, rfl, hS30⟩ := un10 hS20
        obtain ⟨a40, a41, a42, a43, a44, a45, a46, a47, a48, a49, rS40, rfl, hS40⟩ := un10 hS30
        obtain ⟨a50, a51, a52, a53, a54, a55, a56, a57, a58, a59, rS50, rfl, hS50⟩ := un10 hS40
        obtain ⟨a60, a61, a62, a63, a64, a65, a66, a67, a68, a69, rS60, rfl, hS60⟩ := un10 hS50
        obtain ⟨a70, a71, a72, a73, a74, a75, a76, a77, a78, a79, rS70, rfl, hS70⟩ := un10 hS60
        obtain ⟨a80, a81, a82, a83, a84, a85, a86, a87, a88, a89, rS80, rfl, hS80⟩ := un10 hS70
        obtain ⟨a90, a91, a92, a93, a94, a95, a96, a97, a98, a99, rS90, rfl, hS90⟩ := un10 hS80
        obtain ⟨a100, a101, a102, a103, a104, a105, a106, a107, a108, a109, rS100, rfl, hS100⟩ := un10 hS90
        obtain ⟨a110, a111, a112, a113, a114, a115, a116, a117, a118, a119, rS110, rfl, hS110⟩ := un10 hS100
        obtain ⟨a120, a121, a122, a123, a124, a125, a126, a127, a128, a129, rS120, rfl, hS120⟩ := un10 hS110
        obtain rfl := un0 hS120
        clear hlen' hS0 hS10 hS20 hS30 hS40 hS50 hS60 hS70 hS80 hS90 hS100 hS110 hS120
        simp at hh
        obtain ⟨rfl, rfl, rfl, rfl, rfl, rfl⟩ := hh
        by_cases hlt2 : j < T.length
        · have hlt2' : (j : Int) < (T.length : Int) := by omega
          have wj : IntKind.i64.wrap ((j : Int) + 1) = (j : Int) + 1 := wrap64 (by omega) (by omega)
          have hx : T[j]? = some T[j] := by simp [hlt2]
          obtain ⟨f, hfe⟩ : ∃ f, f = T[j] := ⟨_, rfl⟩
          rw [← hfe] at hx
          clear hfe
          obtain ⟨hl1, hl2⟩ := hlinks j f hx
          have hff := hfst j f hx
          obtain ⟨bv1, q1, hix1, hld1, hI1⟩ := fls_at (W := W) (hF.keeps hk) hx
          have hal1 := alloc_file (W := W) (h := h')
          have hkA := keeps_setN (c := .cells (flC (f, bv1)) 55) (Keeps.push h' (.cells fl0 55)) (Nat.le_refl _)
          have st1 := st_file (W := W) (h := h'.push (.cells fl0 55)) (k := h'.next) (b := flC (f, bv1)) (by simp; rfl) (by rfl) (by rfl) (flC_one hI1.intS)
          have hgA : ((h'.push (.cells fl0 55)).set h'.next (.cells (flC (f, bv1)) 55)).get h'.next = some (.cells (flC (f, bv1)) 55) := by simp
          have hnA : h'.next < ((h'.push (.cells fl0 55)).set h'.next (.cells (flC (f, bv1)) 55)).next := by simp
          generalize (h'.push (.cells fl0 55)).set h'.next (.cells (flC (f, bv1)) 55) = hA at hkA st1 hgA hnA
          change aAlloc _ _ _ = some (_, h'.push (.cells fl0 55)) at hal1
          generalize h'.push (.cells fl0 55) = hA0 at hal1 st1
          generalize h'.next = kA at hal1 st1 hgA hnA
          have hFA := hF.keeps (hk.trans hkA)
          have hlA2 := hF.len (W := W) (h2 := hA)
          have hk0 := hk.trans hkA
          simp only [flC] at hgA hld1 st1
          simp [qa9, qb9, qc9, qd9, qe9, qf9, qg9, qh9, qi9, qj9, qk9, ql9, qm9, qn9, qo9, qp9, qq9, qr9, qs9, qt9, qu9, qv9, qw9, qx9, ev, qy9, qz9, za9, zb9, zc9, zd9, ze9, zf9, zg9, zh9, zi9, zj9, zk9, zl9, zm9, zn9, zo9, zp9, zq9, zr9, zs9, zt9, zu9, zv9, zw9, hlt2, hlt2', hix1, hld1, hal1, st1, hlA2]
          refine loopN (cc_ok W) (InnI hA w1 Lv V T j f.ino kA T.length) T.length ⟨by simp, Keeps.refl _, 0, by simp, by simp [frst_zero]⟩ ?_
          rintro m2 e' h' ⟨hlen', hk2, k, hkm, hh⟩
          obtain ⟨a0, a1, a2, a3, a4, a5, a6, a7, a8, a9, rS0, rfl, hS0⟩ := un10 hlen'
          obtain ⟨a10, a11, a12, a13, a14, a15, a16, a17, a18, a19, rS10, rfl, hS10⟩ := un10 hS0
          obtain ⟨a20, a21, a22, a23, a24, a25, a26, a27, a28, a29, rS20, rfl, hS20⟩ := un10 hS10
          obtain ⟨a30, a31, a32, a33, a34, a35, a36, a37, a38, a39, rS30, rfl, hS30⟩ := un10 hS20
          obtain ⟨a40, a41, a42, a43, a44, a45, a46, a47, a48, a49, rS40, rfl, hS40⟩ := un10 hS30
          obtain ⟨a50, a51, a52, a53, a54, a55, a56, a57, a58, a59, rS50, rfl, hS50⟩ := un10 hS40
          obtain ⟨a60, a61, a62, a63, a64, a65, a66, a67, a68, a69, rS60, rfl, hS60⟩ := un10 hS50
          obtain ⟨a70, a71, a72, a73, a74, a75, a76, a77, a78, a79, rS70, rfl, hS70⟩ := un10 hS60
          obtain ⟨a80, a81, a82, a83, a84, a85, a86, a87, a88, a89, rS80, rfl, hS80⟩ := un10 hS70
          obtain ⟨a90, a91, a92, a93, a94, a95, a96, a97, a98, a99, rS90, rfl, hS90⟩ := un10 hS80
          obtain ⟨a100, a101, a102, a103, a104, a105, a106, a107, a108, a109, rS100, rfl, hS100⟩ := un10 hS90
          obtain ⟨a110, a111, a112, a113, a114, a115, a116, a117, a118, a119, rS110, rfl, hS110⟩ := un10 hS100
          obtain ⟨a120, a121, a122, a123, a124, a125, a126, a127, a128, a129, rS120, rfl, hS120⟩ := un10 hS110
          obtain rfl := un0 hS120
          clear hlen' hS0 hS10 hS20 hS30 hS40 hS50 hS60 hS70 hS80 hS90 hS100 hS110 hS120
          simp at hh
          obtain ⟨rfl, rfl, rfl, rfl, rfl, rfl, rfl, rfl, rfl, rfl, rfl, rfl, rfl⟩ := hh
          have hgA2 := (hk2.2 kA hnA).trans hgA
          by_cases hlt3 : k < T.length
          · have hlt3' : (k : Int) < (T.length : Int) := by omega
            have wk : IntKind.i64.wrap ((k : Int) + 1) = (k : Int) + 1 := wrap64 (by omega) (by omega)
            have hy : T[k]? = some T[k] := by simp [hlt3]
            obtain ⟨g, hge⟩ : ∃ g, g = T[k] := ⟨_, rfl⟩
            rw [← hge] at hy
            clear hge
            obtain ⟨bv2, q2, hix2, hld2, hI2⟩ := fls_at (W := W) (hFA.keeps hk2) hy
            have hal2 := alloc_file (W := W) (h := h')
            have hkB := keeps_setN (c := .cells (flC (g, bv2)) 55) (Keeps.push h' (.cells fl0 55)) (Nat.le_refl _)
            have st2 := st_file (W := W) (h := h'.push (.cells fl0 55)) (k := h'.next) (b := flC (g, bv2)) (by simp; rfl) (by rfl) (by rfl) (flC_one hI2.intS)
            have hgB : ((h'.push (.cells fl0 55)).set h'.next (.cells (flC (g, bv2)) 55)).get h'.next = some (.cells (flC (g, bv2)) 55) := by simp
            have hnB := hk2.1
            generalize (h'.push (.cells fl0 55)).set h'.next (.cells (flC (g, bv2)) 55) = hB at hkB st2 hgB
            change aAlloc _ _ _ = some (_, h'.push (.cells fl0 55)) at hal2
            generalize h'.push (.cells fl0 55) = hB0 at hal2 st2
            have hgA3 := (hkB.2 kA (by omega)).trans hgA2
            generalize h'.next = kB at hal2 st2 hgB hnB
            have hk3 := hk2.trans hkB
            have hcn := cnt_next (a := f.ino) hy
            have hcb : ((T.take k).countP fun g => decide (g.ino = f.ino)) ≤ k := Nat.le_trans List.countP_le_length (by simp; omega)
            have wc : IntKind.i64.wrap ((((T.take k).countP fun g => decide (g.ino = f.ino) : Nat) : Int) + 1) = (((T.take k).countP fun g => decide (g.ino = f.ino) : Nat) : Int) + 1 := wrap64 (by omega) (by omega)
            simp only [flC] at hgB hld2 st2
            by_cases hsame : g.ino = f.ino
            · have hsb : (g.ino == f.ino) = true := by simp [hsame]
              have hfr := frst_same (i := j) hy hsame
              rw [if_pos hsame] at hcn
              generalize ((T.take k).countP fun g => decide (g.ino = f.ino)) = C at *
              cases hb : frstK T j k f.ino with
              | false =>
                rw [hb] at hfr
                simp [qa9, qb9, qc9, qd9, qe9, qf9, qg9, qh9, qi9, qj9, qk9, ql9, qm9, qn9, qo9, qp9, qq9, qr9, qs9, qt9, qu9, qv9, qw9, qx9, ev, qy9, qz9, za9, zb9, zc9, zd9, ze9, zf9, zg9, zh9, zi9, zj9, zk9, zl9, zm9, zn9, zo9, zp9, zq9, zr9, zs9, zt9, zu9, zv9, zw9, hlt3, hlt3', hix2, hld2, hal2, st2, fa55_1, ld3, ji9 hgA3, ji9 hgB, hsb, wc, wk]
                exact ⟨m2 - 1, by omega, by simp, hk3, k + 1, by omega, by simp [hcn, hfr]⟩
              | true =>
                rw [hb] at hfr
                by_cases hjk : j ≤ k
                · have hjk' : (j : Int) ≤ (k : Int) := by omega
                  simp [qa9, qb9, qc9, qd9, qe9, qf9, qg9, qh9, qi9, qj9, qk9, ql9, qm9, qn9, qo9, qp9, qq9, qr9, qs9, qt9, qu9, qv9, qw9, qx9, ev, qy9, qz9, za9, zb9, zc9, zd9, ze9, zf9, zg9, zh9, zi9, zj9, zk9, zl9, zm9, zn9, zo9, zp9, zq9, zr9, zs9, zt9, zu9, zv9, zw9, hlt3, hlt3', hix2, hld2, hal2, st2, fa55_1, ld3, ji9 hgA3, ji9 hgB, hsb, wc, wk, hjk, hjk']
                  exact ⟨m2 - 1, by omega, by simp, hk3, k + 1, by omega, by simp [hcn, hfr, hjk]⟩
                · have hjk' : ¬ (j : Int) ≤ (k : Int) := by omega
                  simp [qa9, qb9, qc9, qd9, qe9, qf9, qg9, qh9, qi9, qj9, qk9, ql9, qm9, qn9, qo9, qp9, qq9, qr9, qs9, qt9, qu9, qv9, qw9, qx9, ev, qy9, qz9, za9, zb9, zc9, zd9, ze9, zf9, zg9, zh9, zi9, zj9, zk9, zl9, zm9, zn9, zo9, zp9, zq9, zr9, zs9, zt9, zu9, zv9, zw9, hlt3, hlt3', hix2, hld2, hal2, st2, fa55_1, ld3, ji9 hgA3, ji9 hgB, hsb, wc, wk, hjk, hjk']
                  exact ⟨m2 - 1, by omega, by simp, hk3, k + 1, by omega, by simp [hcn, hfr, hjk]⟩
            · have hsb : (g.ino == f.ino) = false := by rw [beq_eq_false_iff_ne]; exact hsame
              have hfr := frst_other (i := j) hy hsame
              rw [if_neg hsame, Nat.add_zero] at hcn
              simp [qa9, qb9, qc9, qd9, qe9, qf9, qg9, qh9, qi9, qj9, qk9, ql9, qm9, qn9, qo9, qp9, qq9, qr9, qs9, qt9, qu9, qv9, qw9, qx9, ev, qy9, qz9, za9, zb9, zc9, zd9, ze9, zf9, zg9, zh9, zi9, zj9, zk9, zl9, zm9, zn9, zo9, zp9, zq9, zr9, zs9, zt9, zu9, zv9, zw9, hlt3, hlt3', hix2, hld2, hal2, st2, fa55_1, ld3, ji9 hgA3, ji9 hgB, hsb, wk]
              exact ⟨m2 - 1, by omega, by simp, hk3, k + 1, by omega, by simp [hcn, hfr]⟩
          · have hlt3' : ¬ (k : Int) < (T.length : Int) := by omega
            have htk : T.take k = T := List.take_of_length_le (by omega)
            rw [htk]
            have hfe := frst_end (T := T) (i := j) (k := k) (a := f.ino) (by omega)
            rw [hfe, ← hff]
            have hsn := seen_next (P := fsts V) (i := j)
            have hsb : (List.range j).countP (fsts V) ≤ j := Nat.le_trans List.countP_le_length (by simp)
            generalize ((T.countP fun g => decide (g.ino = f.ino)) : Nat) = C at *
            generalize (List.range j).countP (fsts V) = S at *
            have ws : IntKind.i64.wrap ((S : Int) + 1) = (S : Int) + 1 := wrap64 (by omega) (by omega)
            have hne : ((C : Int) != f.links) = false := by simp [hl1]
            have hk4 := hk0.trans hk2
            by_cases hk2d : f.kind = 2
            · have hc1 : ((C : Int) != 1) = false := by simp [hl2 hk2d]
              cases hb : fsts V j with
              | true =>
                rw [hb] at hsn
                simp [qa9, qb9, qc9, qd9, qe9, qf9, qg9, qh9, qi9, qj9, qk9, ql9, qm9, qn9, qo9, qp9, qq9, qr9, qs9, qt9, qu9, qv9, qw9, qx9, ev, qy9, qz9, za9, zb9, zc9, zd9, ze9, zf9, zg9, zh9, zi9, zj9, zk9, zl9, zm9, zn9, zo9, zp9, zq9, zr9, zs9, zt9, zu9, zv9, zw9, hlt3, hlt3', fa55_2, fa55_3, ld3, ji9 hgA2, hne, hk2d, hc1, ws, wj]
                exact ⟨m - 1, by omega, by simp, hk4, j + 1, by omega, by simp [hsn]⟩
              | false =>
                rw [hb] at hsn
                simp [qa9, qb9, qc9, qd9, qe9, qf9, qg9, qh9, qi9, qj9, qk9, ql9, qm9, qn9, qo9, qp9, qq9, qr9, qs9, qt9, qu9, qv9, qw9, qx9, ev, qy9, qz9, za9, zb9, zc9, zd9, ze9, zf9, zg9, zh9, zi9, zj9, zk9, zl9, zm9, zn9, zo9, zp9, zq9, zr9, zs9, zt9, zu9, zv9, zw9, hlt3, hlt3', fa55_2, fa55_3, ld3, ji9 hgA2, hne, hk2d, hc1, ws, wj]
                exact ⟨m - 1, by omega, by simp, hk4, j + 1, by omega, by simp [hsn]⟩
            · have hkb : (f.kind == 2) = false := by simpa using hk2d
              cases hb : fsts V j with
              | true =>
                rw [hb] at hsn
                simp [qa9, qb9, qc9, qd9, qe9, qf9, qg9, qh9, qi9, qj9, qk9, ql9, qm9, qn9, qo9, qp9, qq9, qr9, qs9, qt9, qu9, qv9, qw9, qx9, ev, qy9, qz9, za9, zb9, zc9, zd9, ze9, zf9, zg9, zh9, zi9, zj9, zk9, zl9, zm9, zn9, zo9, zp9, zq9, zr9, zs9, zt9, zu9, zv9, zw9, hlt3, hlt3', fa55_2, fa55_3, ld3, ji9 hgA2, hne, hkb, ws, wj]
                exact ⟨m - 1, by omega, by simp, hk4, j + 1, by omega, by simp [hsn]⟩
              | false =>
                rw [hb] at hsn
                simp [qa9, qb9, qc9, qd9, qe9, qf9, qg9, qh9, qi9, qj9, qk9, ql9, qm9, qn9, qo9, qp9, qq9, qr9, qs9, qt9, qu9, qv9, qw9, qx9, ev, qy9, qz9, za9, zb9, zc9, zd9, ze9, zf9, zg9, zh9, zi9, zj9, zk9, zl9, zm9, zn9, zo9, zp9, zq9, zr9, zs9, zt9, zu9, zv9, zw9, hlt3, hlt3', fa55_2, fa55_3, ld3, ji9 hgA2, hne, hkb, ws, wj]
                exact ⟨m - 1, by omega, by simp, hk4, j + 1, by omega, by simp [hsn]⟩
        · have hlt2' : ¬ (j : Int) < (T.length : Int) := by omega
          have hj : j = T.length := by omega
          subst hj
          rw [hseen]
          simp [qa9, qb9, qc9, qd9, qe9, qf9, qg9, qh9, qi9, qj9, qk9, ql9, qm9, qn9, qo9, qp9, qq9, qr9, qs9, qt9, qu9, qv9, qw9, qx9, ev, qy9, qz9, za9, zb9, zc9, zd9, ze9, zf9, zg9, zh9, zi9, zj9, zk9, zl9, zm9, zn9, zo9, zp9, zq9, zr9, zs9, zt9, zu9, zv9, zw9, hlt2, hlt2']
          subst hK
          simp [qa9, qb9, qc9, qd9, qe9, qf9, qg9, qh9, qi9, qj9, qk9, ql9, qm9, qn9, qo9, qp9, qq9, qr9, qs9, qt9, qu9, qv9, qw9, qx9, ev, qy9, qz9, za9, zb9, zc9, zd9, ze9, zf9, zg9, zh9, zi9, zj9, zk9, zl9, zm9, zn9, zo9, zp9, zq9, zr9, zs9, zt9, zu9, zv9, zw9]
          refine jh9 (by simp [fn15]) (speaks_ret W _) ?_
          simp [qa9, qb9, qc9, qd9, qe9, qf9, qg9, qh9, qi9, qj9, qk9, ql9, qm9, qn9, qo9, qp9, qq9, qr9, qs9, qt9, qu9, qv9, qw9, qx9, ev, qy9, qz9, za9, zb9, zc9, zd9, ze9, zf9, zg9, zh9, zi9, zj9, zk9, zl9, zm9, zn9, zo9, zp9, zq9, zr9, zs9, zt9, zu9, zv9, zw9]

/-- ModelCounts, where its arguments are small. -/
theorem counts_law (W : World) (sv av : AV) {n : Nat} (hs : ∃ a b c : Int, sv = .agg [.int .i64 a, .int .i64 b, .int .i64 c]) (hn : n ≤ 1048576) (h : n < 1000000000 → ∃ l : List Opn, OpsS W av l ∧ l.length ≤ n) :
    ACall (CC W) 6 [sv, av] AH.empty (fun w _ => w = .bool true) (fun _ _ => False) := by
  obtain ⟨l, hv, hl⟩ := h (by omega)
  obtain ⟨a, b, c, rfl⟩ := hs
  exact counts_ret W av l hv a b c (by omega)
end Go.Proofs.YtbofhlifobjolaaGreatDoor.Ax
end
