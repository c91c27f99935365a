/- The texts Paths, Moves, EqRes, MovesP, MovesW, as one. -/
import Derived.Test.YtbofhlifobjolaaGreatDoorGi

/-! What paths name, where names are put and taken away: plain -/
section
set_option linter.unusedVariables false
set_option linter.unusedSimpArgs false
namespace Go.Proofs.YtbofhlifobjolaaGreatDoor.Ax
open Go.RowKit

abbrev Names := List (List UInt8)
/-- A path leads from an inode to another one. -/
def Path (M : MS) : Names → Nat → Nat → Prop
  | [], q, r => q = r
  | s :: l, q, r => ∃ nd x, M.nodes[q]? = some nd ∧ nd.kind = 2 ∧ x ∈ nd.slots ∧ x.nm = s ∧ Path M l x.ino.toNat r

def Good (l : Names) : Prop := ∀ x ∈ l, x ≠ []
theorem Good.tail {s : List UInt8} {l : Names} (h : Good (s :: l)) : Good l := fun x hx => h x (by simp [hx])
theorem Good.take {l : Names} (h : Good l) (k : Nat) : Good (l.take k) := fun x hx => h x (List.mem_of_mem_take hx)
theorem Good.drop {l : Names} (h : Good l) : Good l.dropLast := fun x hx => h x (List.dropLast_subset l hx)

theorem Inv.uniq {M : MS} {t : Nat} {w : Nat → Int} (h : Inv M t w) {q : Nat} {nd : Nd} (hn : M.nodes[q]? = some nd) (hk : nd.kind = 2) {x y : Slt} (hx : x ∈ nd.slots) (hy : y ∈ nd.slots) (he : x.nm = y.nm) (hne : x.nm ≠ []) : x = y := by
  obtain ⟨i, hi⟩ := List.getElem?_of_mem hx
  obtain ⟨j, hj⟩ := List.getElem?_of_mem hy
  have := ((h.at hn).dir hk).2.2.2.2.2 i j x y hi hj he hne
  subst this
  rw [hi] at hj; exact Option.some.inj hj

theorem path_of_find {M : MS} (ok : MOk M) : ∀ {l : Names} {q r : Nat}, findR M l q = ((r : Int), 0) → Path M l q r
  | [], q, r, h => by simp only [findR, Prod.mk.injEq, and_true] at h; show q = r; omega
  | s :: l, q, r, h => by
    rw [findR_cons, Int.toNat_natCast] at h
    split at h
    · simp at h
    · rename_i nd hnd
      by_cases hk : nd.kind = 2
      · rw [if_pos hk] at h
        by_cases hp : placeR nd.slots s < 0
        · rw [if_pos hp] at h; simp at h
        · rw [if_neg hp] at h
          obtain ⟨i, x, e, hx, hn⟩ := placeR_lt hp
          rw [e, Int.toNat_natCast, hx] at h
          simp only at h
          have hm := List.mem_of_getElem? hx
          have hi := ok.inos nd (List.mem_of_getElem? hnd) x hm
          rw [show x.ino = ((x.ino.toNat : Nat) : Int) by omega] at h
          exact ⟨nd, x, hnd, hk, hm, hn, path_of_find ok h⟩
      · rw [if_neg hk] at h; simp at h
theorem find_of_path {M : MS} {t : Nat} {w : Nat → Int} (h : Inv M t w) (ht : t < 1000000) : ∀ {l : Names} {q r : Nat}, Good l → Path M l q r → findR M l q = ((r : Int), 0)
  | [], q, r, _, hp => by have : q = r := hp; subst this; rfl
  | s :: l, q, r, hg, hp => by
    obtain ⟨nd, x, hnd, hk, hx, hn, hp⟩ := hp
    have hs : s ≠ [] := hg s (by simp)
    have hpl : ¬ placeR nd.slots s < 0 := fun hc => placeR_neg.1 hc x hx hn
    obtain ⟨i, y, e, hy, hyn⟩ := placeR_lt hpl
    have hxy := h.uniq hnd hk hx (List.mem_of_getElem? hy) (hn.trans hyn.symm) (by rw [hn]; exact hs)
    subst hxy
    have hi := (h.ok ht).inos nd (List.mem_of_getElem? hnd) x hx
    rw [findR_cons, Int.toNat_natCast, hnd]
    simp only [if_pos hk, if_neg hpl, e, Int.toNat_natCast, hy]
    rw [show x.ino = ((x.ino.toNat : Nat) : Int) by omega]
    exact find_of_path h ht hg.tail hp

theorem path_append {M : MS} : ∀ {a b : Names} {q r : Nat}, Path M (a ++ b) q r ↔ ∃ m, Path M a q m ∧ Path M b m r
  | [], b, q, r => by simp [Path]
  | s :: a, b, q, r => by
    simp only [List.cons_append, Path]
    constructor
    · rintro ⟨nd, x, h1, h2, h3, h4, h5⟩
      obtain ⟨m, h6, h7⟩ := path_append.1 h5
      exact ⟨m, ⟨nd, x, h1, h2, h3, h4, h6⟩, h7⟩
    · rintro ⟨m, ⟨nd, x, h1, h2, h3, h4, h6⟩, h7⟩
      exact ⟨nd, x, h1, h2, h3, h4, path_append.2 ⟨m, h6, h7⟩⟩
theorem path_fun {M : MS} {t : Nat} {w : Nat → Int} (h : Inv M t w) : ∀ {l : Names} {q r r' : Nat}, Good l → Path M l q r → Path M l q r' → r = r'
  | [], q, r, r', _, h1, h2 => by have e1 : q = r := h1; have e2 : q = r' := h2; omega
  | s :: l, q, r, r', hg, ⟨nd, x, a1, a2, a3, a4, a5⟩, ⟨nd', x', b1, b2, b3, b4, b5⟩ => by
    rw [a1] at b1; cases b1
    have := h.uniq a1 a2 a3 b3 (a4.trans b4.symm) (by rw [a4]; exact hg s (by simp))
    subst this
    exact path_fun h hg.tail a5 b5
theorem path_take {M : MS} {l : Names} {q r : Nat} (k : Nat) (h : Path M l q r) : ∃ m, Path M (l.take k) q m ∧ Path M (l.drop k) m r := by
  rw [← List.take_append_drop k l] at h
  exact path_append.1 h

/-- The last step of a path. -/
theorem path_last {M : MS} {l : Names} {q r : Nat} (hl : l ≠ []) (h : Path M l q r) : ∃ d nd x, Path M l.dropLast q d ∧ M.nodes[d]? = some nd ∧ nd.kind = 2 ∧ x ∈ nd.slots ∧ x.nm = l.getLast?.getD [] ∧ x.ino.toNat = r := by
  have hl2 : l = l.dropLast ++ [l.getLast?.getD []] := by
    rw [List.getLast?_eq_some_getLast hl]; exact (List.dropLast_concat_getLast hl).symm
  rw [hl2] at h
  obtain ⟨d, h1, nd, x, h2, h3, h4, h5, h6⟩ := path_append.1 h
  exact ⟨d, nd, x, h1, h2, h3, h4, h5, h6⟩
theorem path_step {M : MS} {l : Names} {q d : Nat} {nd : Nd} {x : Slt} (hl : l ≠ []) (h : Path M l.dropLast q d) (hn : M.nodes[d]? = some nd) (hk : nd.kind = 2) (hx : x ∈ nd.slots) (he : x.nm = l.getLast?.getD []) : Path M l q x.ino.toNat := by
  have hl2 : l = l.dropLast ++ [l.getLast?.getD []] := by
    rw [List.getLast?_eq_some_getLast hl]; exact (List.dropLast_concat_getLast hl).symm
  rw [hl2]
  exact path_append.2 ⟨d, h, nd, x, hn, hk, hx, he, rfl⟩

/-- Two slots that name an inode of one name are one. -/
theorem refs_one : ∀ {l : List Nd} {i d d' j j' : Nat} {nd nd' : Nd} {x x' : Slt}, refsL l i ≤ 1 → l[d]? = some nd → l[d']? = some nd' → nd.slots[j]? = some x → nd'.slots[j']? = some x' → live i x = true → live i x' = true → d = d' ∧ j = j'
  | [], i, d, d', j, j', nd, nd', x, x', _, h1, _, _, _, _, _ => by simp at h1
  | n :: l, i, d, d', j, j', nd, nd', x, x', hr, h1, h2, h3, h4, h5, h6 => by
    simp only [refsL] at hr
    have p1 := cnt_pos h3 h5
    have p2 := cnt_pos h4 h6
    cases d with
    | zero =>
      simp at h1; subst h1
      cases d' with
      | zero =>
        simp at h2; subst h2
        refine ⟨rfl, ?_⟩
        by_cases e : j = j'
        · exact e
        · exfalso
          have c1 := cnt_set (y := ⟨[], 0⟩) i h3
          have h4' : (n.slots.set j ⟨[], 0⟩)[j']? = some x' := by rw [List.getElem?_set_ne e]; exact h4
          have c2 := cnt_pos h4' h6
          rw [ind_none (i := i) (s := ⟨[], 0⟩) rfl] at c1
          simp only [ind, h5, if_true] at c1
          omega
      | succ d' =>
        have := refsL_ge i (show l[d']? = some nd' by simpa using h2)
        omega
    | succ d =>
      cases d' with
      | zero =>
        simp at h2; subst h2
        have := refsL_ge i (show l[d]? = some nd by simpa using h1)
        omega
      | succ d' =>
        obtain ⟨a, b⟩ := refs_one (show refsL l i ≤ 1 by omega) (show l[d]? = some nd by simpa using h1) (show l[d']? = some nd' by simpa using h2) h3 h4 h5 h6
        exact ⟨by omega, b⟩

/-- A directory has one path. -/
theorem path_dir {M : MS} {t : Nat} (h : Fine M t) (ht : t < 1000000) : ∀ (n : Nat) {a b : Names} {i : Nat} {nd : Nd}, a.length ≤ n → Good a → Good b → Path M a 0 i → Path M b 0 i → M.nodes[i]? = some nd → nd.kind = 2 → a = b := by
  have ok := h.ok ht
  have root : ∀ {b : Names}, Good b → Path M b 0 0 → b = [] := by
    intro b hb hp
    by_cases e : b = []
    · exact e
    · exfalso
      obtain ⟨d, nd, x, _, h2, h3, h4, h5, h6⟩ := path_last e hp
      obtain ⟨r, hr, hrk⟩ := h.root
      have hi := ok.inos nd (List.mem_of_getElem? h2) x h4
      obtain ⟨j, hj⟩ := List.getElem?_of_mem h4
      have hne : x.nm ≠ [] := by rw [h5]; exact last_ne e hb
      have c := cnt_pos (i := 0) hj (by simp [live, hne]; omega)
      have g := refsL_ge 0 h2
      have w := h.ref 0 h.pos
      simp only [wantM, hr, want, hrk] at w
      simp at w
      omega
  intro n
  induction n with
  | zero =>
    intro a b i nd hl ha hb p1 p2 hn hk
    have : a = [] := List.length_eq_zero_iff.1 (by omega)
    subst this
    have e : (0 : Nat) = i := p1
    subst e
    exact (root hb p2).symm
  | succ n ih =>
    intro a b i nd hl ha hb p1 p2 hn hk
    by_cases ea : a = []
    · subst ea
      have e : (0 : Nat) = i := p1
      subst e
      exact (root hb p2).symm
    · by_cases eb : b = []
      · subst eb
        have e : (0 : Nat) = i := p2
        subst e
        exact absurd (root ha p1) ea
      · obtain ⟨d, nda, x, q1, q2, q3, q4, q5, q6⟩ := path_last ea p1
        obtain ⟨d', ndb, y, r1, r2, r3, r4, r5, r6⟩ := path_last eb p2
        obtain ⟨j, hj⟩ := List.getElem?_of_mem q4
        obtain ⟨j', hj'⟩ := List.getElem?_of_mem r4
        have hx := ok.inos nda (List.mem_of_getElem? q2) x q4
        have hy := ok.inos ndb (List.mem_of_getElem? r2) y r4
        have hxn : x.nm ≠ [] := by rw [q5]; exact last_ne ea ha
        have hyn : y.nm ≠ [] := by rw [r5]; exact last_ne eb hb
        have hil := (List.getElem?_eq_some_iff.1 hn).1
        have w := h.ref i hil
        simp only [wantM, hn, want, hk] at w
        have hle : refsL M.nodes i ≤ 1 := by
          by_cases e : i = 0
          · simp [e] at w; rw [e]; omega
          · simp [e] at w; omega
        obtain ⟨e1, e2⟩ := refs_one hle q2 r2 hj hj' (by simp [live, hxn]; omega) (by simp [live, hyn]; omega)
        subst e1; subst e2
        rw [q2] at r2; cases r2
        rw [hj] at hj'; cases hj'
        have hd := ih (by simp; omega) ha.drop hb.drop q1 r1 q2 q3
        have hla : a = a.dropLast ++ [a.getLast?.getD []] := by
          rw [List.getLast?_eq_some_getLast ea]; exact (List.dropLast_concat_getLast ea).symm
        have hlb : b = b.dropLast ++ [b.getLast?.getD []] := by
          rw [List.getLast?_eq_some_getLast eb]; exact (List.dropLast_concat_getLast eb).symm
        rw [hla, hlb, hd, ← q5, ← r5]

theorem path_set {M : MS} {i : Nat} {nd nd' : Nd} (hn : M.nodes[i]? = some nd) (hk : nd'.kind = nd.kind) (hs : ∀ x ∈ nd.slots, x.nm ≠ [] → x ∈ nd'.slots) : ∀ {l : Names} {q r : Nat}, Good l → Path M l q r → Path (M.set i nd') l q r
  | [], q, r, _, h => h
  | s :: l, q, r, hg, ⟨n, x, h1, h2, h3, h4, h5⟩ => by
    have hil := (List.getElem?_eq_some_iff.1 hn).1
    have ih := path_set hn hk hs hg.tail h5
    by_cases e : i = q
    · subst e
      rw [hn] at h1; cases h1
      exact ⟨nd', x, by simp [MS.set, hil], by rw [hk]; exact h2, hs x h3 (by rw [h4]; exact hg s (by simp)), h4, ih⟩
    · exact ⟨n, x, by simp only [MS.set]; rw [List.getElem?_set_ne e]; exact h1, h2, h3, h4, ih⟩

/-- A slot that is taken: a path goes on as it was, or it went through it. -/
theorem path_taken {M : MS} {d j : Nat} {nd : Nd} {x0 : Slt} (hn : M.nodes[d]? = some nd) (hx0 : nd.slots[j]? = some x0) : ∀ {l : Names} {q r : Nat}, Path M l q r → Path (takeR M d j) l q r ∨ ∃ k, Path M (l.take k) q d ∧ l[k]? = some x0.nm
  | [], q, r, h => .inl h
  | s :: l, q, r, ⟨n, x, h1, h2, h3, h4, h5⟩ => by
    have hdl := (List.getElem?_eq_some_iff.1 hn).1
    by_cases e : d = q
    · subst e
      rw [hn] at h1; cases h1
      by_cases hs : s = x0.nm
      · exact .inr ⟨0, rfl, by simp [hs]⟩
      · rcases path_taken hn hx0 h5 with ih | ⟨k, ih1, ih2⟩
        · left
          refine ⟨{ nd with slots := nd.slots.set j ⟨[], 0⟩ }, x, by simp only [takeR, hn, MS.set]; rw [List.getElem?_set, if_pos rfl, if_pos hdl], h2, ?_, h4, ih⟩
          obtain ⟨i, hi⟩ := List.getElem?_of_mem h3
          have hij : j ≠ i := by
            rintro rfl; rw [hx0] at hi; cases hi; exact hs h4.symm
          exact List.mem_of_getElem? (show (nd.slots.set j ⟨[], 0⟩)[i]? = some x by rw [List.getElem?_set_ne hij]; exact hi)
        · exact .inr ⟨k + 1, ⟨nd, x, hn, h2, h3, h4, ih1⟩, by simpa using ih2⟩
    · rcases path_taken hn hx0 h5 with ih | ⟨k, ih1, ih2⟩
      · left
        exact ⟨n, x, by simp only [takeR, hn, MS.set]; rw [List.getElem?_set_ne e]; exact h1, h2, h3, h4, ih⟩
      · exact .inr ⟨k + 1, ⟨n, x, h1, h2, h3, h4, ih1⟩, by simpa using ih2⟩

theorem put_node {M : MS} {p : Nat} {nd : Nd} {nm : List UInt8} {a : Int} (hn : M.nodes[p]? = some nd) (hr : (putR M p nm a).1 = true) :
    ∃ sl sz, (putR M p nm a).2 = M.set p { nd with slots := sl, size := sz } ∧ (∀ x ∈ nd.slots, x.nm ≠ [] → x ∈ sl) ∧ (⟨nm, a⟩ : Slt) ∈ sl ∧ ∀ x ∈ sl, x ∈ nd.slots ∨ x = ⟨nm, a⟩ := by
  unfold putR at hr ⊢
  simp only [hn] at hr ⊢
  by_cases hf : 0 ≤ placeR nd.slots []
  · simp only [if_pos hf]
    obtain ⟨j, x, e, hx, hxn⟩ := placeR_lt (l := nd.slots) (s := []) (by omega)
    rw [e, Int.toNat_natCast]
    have hjl := (List.getElem?_eq_some_iff.1 hx).1
    refine ⟨_, _, rfl, fun y hy hyn => ?_, ?_, fun y hy => ?_⟩
    · obtain ⟨i, hi⟩ := List.getElem?_of_mem hy
      have hij : j ≠ i := by rintro rfl; rw [hx] at hi; cases hi; exact hyn hxn
      exact List.mem_of_getElem? (show (nd.slots.set j ⟨nm, a⟩)[i]? = some y by rw [List.getElem?_set_ne hij]; exact hi)
    · exact List.mem_of_getElem? (show (nd.slots.set j ⟨nm, a⟩)[j]? = some ⟨nm, a⟩ by simp [hjl])
    · rcases List.mem_or_eq_of_mem_set hy with h | h
      · exact .inl h
      · exact .inr h
  · simp only [if_neg hf] at hr ⊢
    split at hr
    · cases hr
    · rename_i hd
      rw [if_neg hd]
      exact ⟨_, _, rfl, fun y hy _ => by simp [hy], by simp, fun y hy => by simpa using hy⟩
/-- Where a slot is free, a name can be put. -/
theorem put_free {M : MS} {p : Nat} {nd : Nd} {nm : List UInt8} {a : Int} (hn : M.nodes[p]? = some nd) {x : Slt} (hx : x ∈ nd.slots) (he : x.nm = []) : (putR M p nm a).1 = true := by
  unfold putR
  simp only [hn]
  have : 0 ≤ placeR nd.slots [] := by
    by_cases h : placeR nd.slots [] < 0
    · exact absurd he (placeR_neg.1 h x hx)
    · omega
  simp only [if_pos this]
end Go.Proofs.YtbofhlifobjolaaGreatDoor.Ax
end

/-! There and back: a name that is moved, and a link that is taken away again: plain -/
section
set_option linter.unusedVariables false
set_option linter.unusedSimpArgs false
namespace Go.Proofs.YtbofhlifobjolaaGreatDoor.Ax
open Go.RowKit

theorem getLast_concat {l : Names} (h : l ≠ []) : l = l.dropLast ++ [l.getLast?.getD []] := by
  rw [List.getLast?_eq_some_getLast h]; exact (List.dropLast_concat_getLast h).symm

/-- A node that a name was put into, or another one. -/
theorem set_node {M : MS} {p q : Nat} {nd' x : Nd} (h : (M.set p nd').nodes[q]? = some x) : (q = p ∧ x = nd') ∨ (q ≠ p ∧ M.nodes[q]? = some x) := getElem?_set' h
theorem set_other {M : MS} {p q : Nat} {nd' : Nd} (h : q ≠ p) : (M.set p nd').nodes[q]? = M.nodes[q]? := by
  simp only [MS.set]; exact List.getElem?_set_ne (Ne.symm h)
theorem set_at {M : MS} {p : Nat} {nd' : Nd} (h : p < M.nodes.length) : (M.set p nd').nodes[p]? = some nd' := by simp [MS.set, h]

theorem noPath_step {M : MS} {t : Nat} {w : Nat → Int} (h : Inv M t w) {l : Names} {d r : Nat} {nd : Nd} (hg : Good l) (hl : l ≠ []) (hd : Path M l.dropLast 0 d) (hn : M.nodes[d]? = some nd) (hno : ∀ x ∈ nd.slots, x.nm ≠ l.getLast?.getD []) : ¬ Path M l 0 r := fun hp => by
  obtain ⟨d', nd', x, h1, h2, h3, h4, h5, _⟩ := path_last hl hp
  have := path_fun h hg.drop hd h1
  subst this
  rw [hn] at h2; cases h2
  exact hno x h4 h5

/-- What is renamed. -/
structure Moved (M M1 : MS) (fl tl : Names) (i d p : Nat) (nd : Nd) : Prop where
  from_ : Path M fl 0 i
  node : M.nodes[i]? = some nd
  to : Path M1 tl 0 i
  node1 : M1.nodes[i]? = some nd

theorem renameR_ok {M : MS} {t : Nat} (h : Fine M t) (ht : t < 1000000) {pt tt : List UInt8} {fl tl : Names} (hf : Good fl) (hr : (renameR M pt tt fl tl).1 = 0) :
    fl ≠ [] ∧ tl ≠ [] ∧ ∃ i nd d ndd j x p ndp, findR M fl 0 = (((i : Nat) : Int), 0) ∧ M.nodes[i]? = some nd ∧ i ≠ 0 ∧ (nd.kind = 1 ∨ nd.kind = 2) ∧ findR M fl.dropLast 0 = (((d : Nat) : Int), 0) ∧ M.nodes[d]? = some ndd ∧ ndd.kind = 2 ∧ ndd.slots[j]? = some x ∧ x.ino = (i : Int) ∧ x.nm = fl.getLast?.getD [] ∧ x.nm ≠ [] ∧
      findR M tl.dropLast 0 = (((p : Nat) : Int), 0) ∧ M.nodes[p]? = some ndp ∧ ndp.kind = 2 ∧ placeR ndp.slots (tl.getLast?.getD []) < 0 ∧ ¬ ((belowR tt pt).1 = true ∧ nd.kind = 2) ∧
      (putR (takeR M d j) p (tl.getLast?.getD []) i).1 = true ∧ (renameR M pt tt fl tl).2 = (putR (takeR M d j) p (tl.getLast?.getD []) i).2 := by
  have ok := h.ok ht
  by_cases hl0 : fl = []
  · have e : renameR M pt tt fl tl = (309, M) := by simp only [renameR, if_pos hl0]
    rw [e] at hr; exact absurd hr (by simp)
  by_cases he : (findR M fl 0).2 = 0
  · obtain ⟨i, nd, d, ndd, j, x, hfd, hnd, hi0, hk, hd, hndd, hkd, hj, hxj, hxi, hxn, hxne⟩ := h.last ht hf hl0 he
    have e : renameR M pt tt fl tl = if (belowR tt pt).1 = true ∧ nd.kind = 2 then ((309 : Int), M)
        else if (parentR M tl).2 = 0 then
            if (putR (takeR M d j) (parentR M tl).1.toNat (tl.getLast?.getD []) i).1 = true then
              ((0 : Int), (putR (takeR M d j) (parentR M tl).1.toNat (tl.getLast?.getD []) i).2)
            else ((306 : Int), M)
        else ((parentR M tl).2, M) := by
      simp only [renameR, if_neg hl0, hfd, hd, Int.toNat_natCast, hnd, hndd, hj, if_true]
    rw [e] at hr ⊢
    by_cases hb : (belowR tt pt).1 = true ∧ nd.kind = 2
    · rw [if_pos hb] at hr; exact absurd hr (by simp)
    · rw [if_neg hb] at hr ⊢
      by_cases hp : (parentR M tl).2 = 0
      · obtain ⟨hl20, p, ndp, hp1, hndp, hkp, hplace, hpf⟩ := parentR_ok ok hp
        rw [if_pos hp, hp1, Int.toNat_natCast] at hr ⊢
        by_cases hpr : (putR (takeR M d j) p (tl.getLast?.getD []) (i : Int)).1 = true
        · rw [if_pos hpr]
          exact ⟨hl0, hl20, i, nd, d, ndd, j, x, p, ndp, hfd, hnd, hi0, hk, hd, hndd, hkd, hxj, hxi, hxn, hxne, hpf, hndp, hkp, hplace, hb, hpr, rfl⟩
        · rw [if_neg hpr] at hr; exact absurd hr (by simp)
      · rw [if_neg hp] at hr; exact absurd hr hp
  · have e : renameR M pt tt fl tl = ((findR M fl 0).2, M) := by simp only [renameR, if_neg hl0, if_neg he]
    rw [e] at hr; exact absurd hr he

theorem belowR_eq {p q : List UInt8} (hp : (splitR p).2 = 0) (hq : (splitR q).2 = 0) : (belowR p q).1 = true ↔ (splitR q).1.length < (splitR p).1.length ∧ (splitR p).1.take (splitR q).1.length = (splitR q).1 := by
  simp only [belowR]
  rw [if_neg (by simpa using hp), if_neg (by simpa using hq)]
  simp

theorem take_get_last {l : Names} {k : Nat} {s : List UInt8} (h : l[k]? = some s) : l.take (k + 1) = l.take k ++ [s] := by
  rw [List.take_add_one, h]; rfl

theorem rename_back {M : MS} {t : Nat} (h : Fine M t) (ht : t + 5 < 1000000) {pt tt : List UInt8} (hp : (splitR pt).2 = 0) (hq : (splitR tt).2 = 0) (hr : (renameR M pt tt (splitR pt).1 (splitR tt).1).1 = 0) :
    ∃ i nd, findR M (splitR pt).1 0 = (((i : Nat) : Int), 0) ∧ M.nodes[i]? = some nd ∧ findR (renameR M pt tt (splitR pt).1 (splitR tt).1).2 (splitR tt).1 0 = ((i : Int), 0) ∧ (renameR M pt tt (splitR pt).1 (splitR tt).1).2.nodes[i]? = some nd ∧ (findR (renameR M pt tt (splitR pt).1 (splitR tt).1).2 (splitR pt).1 0).2 ≠ 0 ∧
      (renameR (renameR M pt tt (splitR pt).1 (splitR tt).1).2 tt pt (splitR tt).1 (splitR pt).1).1 = 0 ∧ findR (renameR (renameR M pt tt (splitR pt).1 (splitR tt).1).2 tt pt (splitR tt).1 (splitR pt).1).2 (splitR pt).1 0 = ((i : Int), 0) ∧ (renameR (renameR M pt tt (splitR pt).1 (splitR tt).1).2 tt pt (splitR tt).1 (splitR pt).1).2.nodes[i]? = some nd := by
  have hgf := splitR_ne hp
  have hgt := splitR_ne hq
  have hbelow := belowR_eq hq hp
  have hbelow2 := belowR_eq hp hq
  have hF1 := rename_fine h (by omega) pt tt hgf hgt
  have hF2 := rename_fine hF1 (by omega) tt pt hgt hgf
  generalize (splitR pt).1 = fl at *
  generalize (splitR tt).1 = tl at *
  have gf : Good fl := hgf
  have gt : Good tl := hgt
  have ok := h.ok (by omega)
  obtain ⟨hl0, hl20, i, nd, d, ndd, j, x, p, ndp, hfd, hnd, hi0, hk, hd, hndd, hkd, hxj, hxi, hxn, hxne, hpf, hndp, hkp, hplace, hb, hpr, hM1⟩ := renameR_ok h (by omega) gf hr
  rw [hM1] at hF1 hF2 ⊢
  have ne := last_ne hl20 hgt
  have hil := (List.getElem?_eq_some_iff.1 hnd).1
  have hdl := (List.getElem?_eq_some_iff.1 hndd).1
  have hpl := (List.getElem?_eq_some_iff.1 hndp).1
  have P1 : Path M fl 0 i := path_of_find (q := 0) ok hfd
  have P2 : Path M fl.dropLast 0 d := path_of_find (q := 0) ok hd
  have P3 : Path M tl.dropLast 0 p := path_of_find (q := 0) ok hpf
  have hxm := List.mem_of_getElem? hxj
  have hnp := placeR_neg.1 hplace
  -- directories have one path
  have uni : ∀ {a b : Names} {q : Nat} {n : Nd}, Good a → Good b → Path M a 0 q → Path M b 0 q → M.nodes[q]? = some n → n.kind = 2 → a = b := fun ga gb a1 a2 a3 a4 => path_dir h (by omega) _ (Nat.le_refl _) ga gb a1 a2 a3 a4
  have hid : i ≠ d := fun e => by
    subst e
    have hk2 : nd.kind = 2 := by rw [hnd] at hndd; cases hndd; exact hkd
    have := congrArg List.length (uni gf gf.drop P1 P2 hnd hk2)
    have := List.length_pos_iff.2 hl0
    simp at *; omega
  have hnotto : ∀ r, ¬ Path M tl 0 r := fun r => noPath_step h gt hl20 P3 hndp hnp
  have hip : i ≠ p := fun e => by
    subst e
    have hk2 : nd.kind = 2 := by rw [hnd] at hndp; cases hndp; exact hkp
    have he := uni gf gt.drop P1 P3 hnd hk2
    refine hb ⟨hbelow.2 ⟨?_, ?_⟩, hk2⟩
    · rw [he]; have := List.length_pos_iff.2 hl20; simp; omega
    · rw [he, List.length_dropLast, List.dropLast_eq_take]
  -- behind the taking
  have T1 : Path (takeR M d j) fl.dropLast 0 d := by
    rcases path_taken hndd hxj P2 with h1 | ⟨k, k1, k2⟩
    · exact h1
    · exfalso
      have he := uni (gf.drop.take k) gf.drop k1 P2 hndd hkd
      have h1 := (List.getElem?_eq_some_iff.1 k2).1
      have := congrArg List.length he
      simp only [List.length_take] at this
      omega
  have T2 : Path (takeR M d j) tl.dropLast 0 p := by
    rcases path_taken hndd hxj P3 with h1 | ⟨k, k1, k2⟩
    · exact h1
    · exfalso
      have he := uni (gt.drop.take k) gf.drop k1 P2 hndd hkd
      have htk : tl.dropLast.take (k + 1) = fl := by
        rw [take_get_last k2, he, hxn]; exact (getLast_concat hl0).symm
      have hkl := (List.getElem?_eq_some_iff.1 k2).1
      obtain ⟨m, m1, m2⟩ := path_take (k + 1) P3
      rw [htk] at m1
      have := path_fun h gf P1 m1
      subst this
      have hpre : tl.take fl.length = fl := by
        have h1 := congrArg List.length htk
        simp only [List.length_take, List.length_dropLast] at h1
        have h2 : tl.dropLast.take (k + 1) = tl.take (k + 1) := by
          rw [List.dropLast_eq_take, List.take_take]; congr 1; simp only [List.length_dropLast] at hkl; omega
        rw [h2] at htk
        have h3 : fl.length = k + 1 := by simp only [List.length_dropLast] at hkl; omega
        rw [h3]; exact htk
      have hlen : fl.length < tl.length := by
        have h1 := congrArg List.length htk
        simp only [List.length_take, List.length_dropLast] at h1 hkl
        omega
      by_cases hk2 : nd.kind = 2
      · exact hb ⟨hbelow.2 ⟨hlen, hpre⟩, hk2⟩
      · cases hdr : tl.dropLast.drop (k + 1) with
        | nil =>
          rw [hdr] at m2
          have e : i = p := m2
          exact hip e
        | cons s rest =>
          rw [hdr] at m2
          obtain ⟨n, y, a1, a2, _⟩ := m2
          rw [hnd] at a1; cases a1
          exact hk2 a2
  have hTd : (takeR M d j).nodes[d]? = some { ndd with slots := ndd.slots.set j ⟨[], 0⟩ } := by
    simp only [takeR, hndd]; exact set_at hdl
  have hTi : (takeR M d j).nodes[i]? = some nd := by
    simp only [takeR, hndd]; rw [set_other hid]; exact hnd
  have hInvT := h.take hndd hkd hxj hxne hxi
  have hTx : ∀ y ∈ ndd.slots.set j ⟨[], 0⟩, y.nm ≠ x.nm := fun y hy he => by
    obtain ⟨q, hq⟩ := List.getElem?_of_mem hy
    rw [List.getElem?_set] at hq
    split at hq
    · split at hq
      · cases hq; exact hxne he.symm
      · cases hq
    · rename_i hjq
      have := ((h.at hndd).dir hkd).2.2.2.2.2 q j y x hq hxj he (by rw [he]; exact hxne)
      exact hjq this.symm
  obtain ⟨ndp4, hTp, hkp4, hsub4⟩ : ∃ ndp4, (takeR M d j).nodes[p]? = some ndp4 ∧ ndp4.kind = 2 ∧ ∀ y ∈ ndp4.slots, y.nm ≠ [] → y ∈ ndp.slots := by
    by_cases e : p = d
    · subst e
      rw [hndd] at hndp; cases hndp
      exact ⟨_, hTd, hkd, fun y hy hne => by
        rcases List.mem_or_eq_of_mem_set hy with h1 | rfl
        · exact h1
        · exact absurd rfl hne⟩
    · refine ⟨ndp, ?_, hkp, fun y hy _ => hy⟩
      simp only [takeR, hndd]; rw [set_other e]; exact hndp
  obtain ⟨sl, sz, hP, hold, hnew, honly⟩ := put_node (nm := tl.getLast?.getD []) (a := (i : Int)) hTp hpr
  have hpl4 : p < (takeR M d j).nodes.length := (List.getElem?_eq_some_iff.1 hTp).1
  have U : ∀ {l : Names} {q r : Nat}, Good l → Path (takeR M d j) l q r → Path (putR (takeR M d j) p (tl.getLast?.getD []) (i : Int)).2 l q r := fun g a => by
    rw [hP]; exact path_set (nd' := { ndp4 with slots := sl, size := sz }) hTp rfl hold g a
  have hPp : (putR (takeR M d j) p (tl.getLast?.getD []) (i : Int)).2.nodes[p]? = some { ndp4 with slots := sl, size := sz } := by rw [hP]; exact set_at hpl4
  have hPi : (putR (takeR M d j) p (tl.getLast?.getD []) (i : Int)).2.nodes[i]? = some nd := by rw [hP, set_other hip]; exact hTi
  have V1 := U gf.drop T1
  have V2 := U gt.drop T2
  have V3 : Path (putR (takeR M d j) p (tl.getLast?.getD []) (i : Int)).2 tl 0 i := path_step hl20 V2 hPp hkp4 hnew rfl
  -- the old name's directory, behind it
  obtain ⟨ndd1, hPd, hkd1, hno1, hfree1⟩ : ∃ ndd1, (putR (takeR M d j) p (tl.getLast?.getD []) (i : Int)).2.nodes[d]? = some ndd1 ∧ ndd1.kind = 2 ∧ (∀ y ∈ ndd1.slots, y.nm ≠ fl.getLast?.getD []) ∧ (d ≠ p → ∃ y ∈ ndd1.slots, y.nm = []) := by
    by_cases e : d = p
    · subst e
      rw [hTd] at hTp; cases hTp
      refine ⟨_, hPp, hkd, fun y hy => ?_, fun e => absurd rfl e⟩
      rcases honly y hy with h1 | rfl
      · rw [← hxn]; exact hTx y h1
      · simp only
        rw [hndd] at hndp; cases hndp
        intro e
        exact hnp x hxm (hxn.trans e.symm)
    · refine ⟨{ ndd with slots := ndd.slots.set j ⟨[], 0⟩ }, by rw [hP, set_other e]; exact hTd, hkd, fun y hy => by rw [← hxn]; exact hTx y hy, fun _ => ⟨⟨[], 0⟩, ?_, rfl⟩⟩
      have hjl := (List.getElem?_eq_some_iff.1 hxj).1
      exact List.mem_of_getElem? (show (ndd.slots.set j ⟨[], 0⟩)[j]? = some ⟨[], 0⟩ by simp [hjl])
  generalize (putR (takeR M d j) p (tl.getLast?.getD []) (i : Int)).2 = M1 at *
  have ok1 := hF1.ok (by omega)
  have hgone : ∀ r, ¬ Path M1 fl 0 r := fun r => noPath_step hF1 gf hl0 V1 hPd hno1
  have F1 := find_of_path hF1 (by omega) gt V3
  have F2 := find_of_path hF1 (by omega) gt.drop V2
  have F3 := find_of_path hF1 (by omega) gf.drop V1
  have uni1 : ∀ {a b : Names} {q : Nat} {n : Nd}, Good a → Good b → Path M1 a 0 q → Path M1 b 0 q → M1.nodes[q]? = some n → n.kind = 2 → a = b := fun ga gb a1 a2 a3 a4 => path_dir hF1 (by omega) _ (Nat.le_refl _) ga gb a1 a2 a3 a4
  have hG : (findR M1 fl 0).2 ≠ 0 := fun he => by
    obtain ⟨b0, b1⟩ := findR_lt ok1 fl 0 (by omega) (by have := ok1.some; omega)
    obtain ⟨q, hq⟩ := Int.eq_ofNat_of_zero_le b0
    exact hgone q (path_of_find (q := 0) ok1 (Prod.ext hq he))
  -- back
  obtain ⟨i', nd', p', ndp', j', y, g1, g2, _, _, g3, g4, g5, g6, g7, g8, g9, g10⟩ := hF1.last (by omega) hgt hl20 (by rw [show ((0 : Nat) : Int) = 0 from rfl] at F1; rw [F1])
  have e1 : i' = i := by have := F1.symm.trans g1; simp at this; omega
  subst e1
  have e2 : p' = p := by have := F2.symm.trans g3; simp at this; omega
  subst e2
  rw [hPi] at g2; cases g2
  have hpar : parentR M1 fl = ((d : Int), 0) := by
    have F3' : findR M1 fl.dropLast 0 = ((d : Int), 0) := F3
    simp only [parentR, if_neg hl0, F3', if_true, Int.toNat_natCast, hPd, if_pos hkd1]
    rw [if_pos (placeR_neg.2 hno1)]
  have hnb : ¬ ((belowR pt tt).1 = true ∧ nd.kind = 2) := fun hc => by
    obtain ⟨b1, b2⟩ := hbelow2.1 hc.1
    obtain ⟨m, m1, m2⟩ := path_take tl.length P1
    rw [b2] at m1
    exact hnotto m m1
  have hdl1 : d < M1.nodes.length := (List.getElem?_eq_some_iff.1 hPd).1
  have hpl1 : p' < M1.nodes.length := (List.getElem?_eq_some_iff.1 g4).1
  have hInv1 := hF1.take g4 g5 g7 g10 g8
  -- the slot that is free
  obtain ⟨ndd2, hQd, hkd2, hno2, hfree2⟩ : ∃ ndd2, (takeR M1 p' j').nodes[d]? = some ndd2 ∧ ndd2.kind = 2 ∧ (∀ y ∈ ndd2.slots, y.nm ≠ fl.getLast?.getD []) ∧ ∃ y ∈ ndd2.slots, y.nm = [] := by
    by_cases e : d = p'
    · subst e
      rw [hPd] at g4; cases g4
      have hjl := (List.getElem?_eq_some_iff.1 g7).1
      refine ⟨{ ndd1 with slots := ndd1.slots.set j' ⟨[], 0⟩ }, by simp only [takeR, hPd]; exact set_at hdl1, hkd1, fun z hz => ?_, ⟨⟨[], 0⟩, ?_, rfl⟩⟩
      · rcases List.mem_or_eq_of_mem_set hz with h1 | rfl
        · exact hno1 z h1
        · exact fun e => (last_ne hl0 hgf) e.symm
      · exact List.mem_of_getElem? (show (ndd1.slots.set j' ⟨[], 0⟩)[j']? = some ⟨[], 0⟩ by simp [hjl])
    · exact ⟨ndd1, by simp only [takeR, g4]; rw [set_other e]; exact hPd, hkd1, hno1, hfree1 e⟩
  have hput2 := put_free (nm := fl.getLast?.getD []) (a := (i' : Int)) hQd hfree2.choose_spec.1 hfree2.choose_spec.2
  have hren : renameR M1 tt pt tl fl = (0, (putR (takeR M1 p' j') d (fl.getLast?.getD []) i').2) := by
    simp only [renameR, if_neg hl20, g1, if_true, Int.toNat_natCast, hPi, if_neg hnb, hpar, g3, g4, g6, if_pos hput2]
  rw [hren] at hF2 ⊢
  have W1 : Path (takeR M1 p' j') fl.dropLast 0 d := by
    rcases path_taken g4 g7 V1 with h1 | ⟨k, k1, k2⟩
    · exact h1
    · exfalso
      have he := uni1 (gf.drop.take k) gt.drop k1 V2 g4 g5
      have htk : fl.dropLast.take (k + 1) = tl := by
        rw [take_get_last k2, he, g9]; exact (getLast_concat hl20).symm
      obtain ⟨m, m1, m2⟩ := path_take (k + 1) P2
      rw [htk] at m1
      exact hnotto m m1
  obtain ⟨sl2, sz2, hP2, hold2, hnew2, _⟩ := put_node (nm := fl.getLast?.getD []) (a := (i' : Int)) hQd hput2
  have hdl2 : d < (takeR M1 p' j').nodes.length := (List.getElem?_eq_some_iff.1 hQd).1
  have hQi : (takeR M1 p' j').nodes[i']? = some nd := by
    simp only [takeR, g4]; rw [set_other hip]; exact hPi
  have X1 : Path (putR (takeR M1 p' j') d (fl.getLast?.getD []) (i' : Int)).2 fl.dropLast 0 d := by
    rw [hP2]; exact path_set (nd' := { ndd2 with slots := sl2, size := sz2 }) hQd rfl hold2 gf.drop W1
  have hXd : (putR (takeR M1 p' j') d (fl.getLast?.getD []) (i' : Int)).2.nodes[d]? = some { ndd2 with slots := sl2, size := sz2 } := by rw [hP2]; exact set_at hdl2
  have X2 : Path (putR (takeR M1 p' j') d (fl.getLast?.getD []) (i' : Int)).2 fl 0 i' := path_step hl0 X1 hXd hkd2 hnew2 rfl
  refine ⟨i', nd, hfd, hnd, F1, hPi, hG, rfl, find_of_path hF2 (by omega) gf X2, ?_⟩
  rw [hP2, set_other hid]; exact hQi

theorem rename_ill {M : MS} {t : Nat} (h : Fine M t) (ht : t < 1000000) {pt tt : List UInt8} {fl tl : Names} (hf : Good fl) (hr : (renameR M pt tt fl tl).1 ≠ 0) : (renameR M pt tt fl tl).2 = M := by
  have ok := h.ok ht
  by_cases hl0 : fl = []
  · simp only [renameR, if_pos hl0]
  by_cases he : (findR M fl 0).2 = 0
  · obtain ⟨i, nd, d, ndd, j, x, hfd, hnd, hi0, hk, hd, hndd, hkd, hj, hxj, hxi, hxn, hxne⟩ := h.last ht hf hl0 he
    have e : renameR M pt tt fl tl = if (belowR tt pt).1 = true ∧ nd.kind = 2 then ((309 : Int), M)
        else if (parentR M tl).2 = 0 then
            if (putR (takeR M d j) (parentR M tl).1.toNat (tl.getLast?.getD []) i).1 = true then
              ((0 : Int), (putR (takeR M d j) (parentR M tl).1.toNat (tl.getLast?.getD []) i).2)
            else ((306 : Int), M)
        else ((parentR M tl).2, M) := by
      simp only [renameR, if_neg hl0, hfd, hd, Int.toNat_natCast, hnd, hndd, hj, if_true]
    rw [e] at hr ⊢
    split
    · rfl
    · split
      · split
        · rename_i g1 g2 g3
          rw [if_neg g1, if_pos g2, if_pos g3] at hr
          exact absurd rfl hr
        · rfl
      · rfl
  · simp only [renameR, if_neg hl0, if_neg he]

theorem linkR_eq {M : MS} {fl tl : Names} {i : Nat} {nd : Nd} (hfi : fileR M fl = ((i : Int), 0)) (hnd : M.nodes[i]? = some nd) :
    linkR M fl tl = if nd.links = 100 then ((310 : Int), M)
      else if (parentR M tl).2 = 0 then
        if (putR M (parentR M tl).1.toNat (tl.getLast?.getD []) i).1 = true then
          match (putR M (parentR M tl).1.toNat (tl.getLast?.getD []) i).2.nodes[i]? with
          | none => (0, M)
          | some x => (0, (putR M (parentR M tl).1.toNat (tl.getLast?.getD []) i).2.set i { x with links := x.links + 1 })
        else (306, (putR M (parentR M tl).1.toNat (tl.getLast?.getD []) i).2)
      else ((parentR M tl).2, M) := by
  simp only [linkR, hfi, Int.toNat_natCast, hnd, if_true]
  rfl

theorem link_ill {M : MS} {t : Nat} (h : Fine M t) (ht : t < 1000000) {fl tl : Names} (hf : Good fl) (hr : (linkR M fl tl).1 ≠ 0) : (linkR M fl tl).2 = M := by
  by_cases he : (fileR M fl).2 = 0
  · obtain ⟨hl0, i, nd, d, ndd, j, x, hfi, hfd, hnd, hk, _⟩ := h.file ht hf he
    rw [linkR_eq hfi hnd] at hr ⊢
    split
    · rfl
    · split
      · split
        · rename_i g1 g2 g3
          split
          · rfl
          · rename_i x' hx'
            rw [if_neg g1, if_pos g2, if_pos g3, hx'] at hr
            exact absurd rfl hr
        · rename_i g1 g2 g3
          exact putR_false (by simpa using g3)
      · rfl
  · simp only [linkR, if_neg he]

theorem link_back {M : MS} {t : Nat} (h : Fine M t) (ht : t + 5 < 1000000) {fl tl : Names} (gf : Good fl) (gt : Good tl) (hr : (linkR M fl tl).1 = 0) :
    ∃ i nd, findR M fl 0 = (((i : Nat) : Int), 0) ∧ M.nodes[i]? = some nd ∧ findR (linkR M fl tl).2 tl 0 = ((i : Int), 0) ∧ (linkR M fl tl).2.nodes[i]? = some { nd with links := nd.links + 1 } ∧
      (unlinkR (linkR M fl tl).2 tl).1 = 0 ∧ findR (unlinkR (linkR M fl tl).2 tl).2 fl 0 = ((i : Int), 0) ∧ (unlinkR (linkR M fl tl).2 tl).2.nodes[i]? = some nd := by
  have ok := h.ok (by omega)
  have hF1 := link_fine h (by omega) gf gt
  have hF2 := unlink_fine hF1 (by omega) gt
  by_cases he : (fileR M fl).2 = 0
  · obtain ⟨hl0, i, nd, d, ndd, j, x, hfi, hfd, hnd, hk, hd, hndd, hkd, hj, hxj, hxi, hxn, hxne⟩ := h.file (by omega) gf he
    rw [linkR_eq hfi hnd] at hr hF1 hF2 ⊢
    by_cases h100 : nd.links = 100
    · rw [if_pos h100] at hr; exact absurd hr (by simp)
    rw [if_neg h100] at hr hF1 hF2 ⊢
    by_cases hp : (parentR M tl).2 = 0
    · obtain ⟨hl20, p, ndp, hp1, hndp, hkp, hplace, hpf⟩ := parentR_ok ok hp
      rw [if_pos hp, hp1, Int.toNat_natCast] at hr hF1 hF2 ⊢
      by_cases hpr : (putR M p (tl.getLast?.getD []) (i : Int)).1 = true
      · rw [if_pos hpr] at hr hF1 hF2 ⊢
        have hil := (List.getElem?_eq_some_iff.1 hnd).1
        have hpl := (List.getElem?_eq_some_iff.1 hndp).1
        have hip : i ≠ p := fun e => by subst e; rw [hnd] at hndp; cases hndp; omega
        have P1 : Path M fl 0 i := path_of_find (q := 0) ok hfd
        have P3 : Path M tl.dropLast 0 p := path_of_find (q := 0) ok hpf
        have hnotto : ∀ r, ¬ Path M tl 0 r := fun r => noPath_step h gt hl20 P3 hndp (placeR_neg.1 hplace)
        obtain ⟨sl, sz, hP, hold, hnew, honly⟩ := put_node (nm := tl.getLast?.getD []) (a := (i : Int)) hndp hpr
        have hPi : (putR M p (tl.getLast?.getD []) (i : Int)).2.nodes[i]? = some nd := by rw [hP, set_other hip]; exact hnd
        have hPp : (putR M p (tl.getLast?.getD []) (i : Int)).2.nodes[p]? = some { ndp with slots := sl, size := sz } := by rw [hP]; exact set_at hpl
        have hilP : i < (putR M p (tl.getLast?.getD []) (i : Int)).2.nodes.length := (List.getElem?_eq_some_iff.1 hPi).1
        have U : ∀ {l : Names} {r : Nat}, Good l → Path M l 0 r → Path (putR M p (tl.getLast?.getD []) (i : Int)).2 l 0 r := fun g a => by rw [hP]; exact path_set (nd' := { ndp with slots := sl, size := sz }) hndp rfl hold g a
        have V1 := U gf P1
        have V2 := U gt.drop P3
        rw [hPi] at hr hF1 hF2 ⊢
        simp only at hr hF1 hF2 ⊢
        generalize (putR M p (tl.getLast?.getD []) (i : Int)).2 = Q at *
        have hLi : (Q.set i { nd with links := nd.links + 1 }).nodes[i]? = some { nd with links := nd.links + 1 } := set_at hilP
        have hLp : (Q.set i { nd with links := nd.links + 1 }).nodes[p]? = some { ndp with slots := sl, size := sz } := by rw [set_other (Ne.symm hip)]; exact hPp
        have L1 : Path (Q.set i { nd with links := nd.links + 1 }) fl 0 i := path_set (nd' := { nd with links := nd.links + 1 }) hPi rfl (fun x hx _ => hx) gf V1
        have L2 : Path (Q.set i { nd with links := nd.links + 1 }) tl.dropLast 0 p := path_set (nd' := { nd with links := nd.links + 1 }) hPi rfl (fun x hx _ => hx) gt.drop V2
        have L3 : Path (Q.set i { nd with links := nd.links + 1 }) tl 0 i := path_step hl20 L2 hLp hkp hnew rfl
        generalize Q.set i { nd with links := nd.links + 1 } = L at *
        have F1 := find_of_path hF1 (by omega) gt L3
        have F2 := find_of_path hF1 (by omega) gt.drop L2
        have hfL : (fileR L tl).2 = 0 := by
          have F1' : findR L tl 0 = ((i : Int), 0) := F1
          simp only [fileR, F1', if_true, Int.toNat_natCast, hLi]
          rw [if_neg (by rw [hk]; decide)]
        obtain ⟨_, i', nd', p', ndp', j', y, k1, k2, k3, k4, k5, k6, k7, k8, k9, k10, k11, k12⟩ := hF1.file (by omega) gt hfL
        have e1 : i' = i := by have := F1.symm.trans k2; simp at this; omega
        subst e1
        have e2 : p' = p := by have := F2.symm.trans k5; simp at this; omega
        subst e2
        rw [hLi] at k3; cases k3
        rw [hLp] at k6; cases k6
        have hT4 : (takeR L p' j').nodes[i']? = some { nd with links := nd.links + 1 } := by
          simp only [takeR, hLp]; rw [set_other hip]; exact hLi
        have hTl : i' < (takeR L p' j').nodes.length := (List.getElem?_eq_some_iff.1 hT4).1
        obtain ⟨_, _, _, _, f4, f5, _⟩ := (h.at hnd).file hk
        have hun : unlinkR L tl = (0, (takeR L p' j').set i' nd) := by
          simp only [unlinkR, k1, if_true, k5, Int.toNat_natCast, hLp, k8, hT4]
          rw [if_neg (by show ¬ (nd.links + 1 - 1 = 0); omega)]
          congr 3
          simp
        rw [hun] at hF2 ⊢
        have W1 : Path (takeR L p' j') fl 0 i' := by
          rcases path_taken hLp k9 L1 with h1 | ⟨k, q1, q2⟩
          · exact h1
          · exfalso
            have he := path_dir hF1 (by omega) _ (Nat.le_refl _) (gf.take k) gt.drop q1 L2 hLp hkp
            have htk : fl.take (k + 1) = tl := by
              rw [take_get_last q2, he, k11]; exact (getLast_concat hl20).symm
            obtain ⟨m, m1, m2⟩ := path_take (k + 1) P1
            rw [htk] at m1
            exact hnotto m m1
        have W2 : Path ((takeR L p' j').set i' nd) fl 0 i' := path_set (nd' := nd) hT4 rfl (fun x hx _ => hx) gf W1
        exact ⟨i', nd, hfd, hnd, F1, hLi, rfl, find_of_path hF2 (by omega) gf W2, set_at hTl⟩
      · rw [if_neg hpr] at hr; exact absurd hr (by simp)
    · rw [if_neg hp] at hr; exact absurd hr hp
  · simp only [linkR, if_neg he] at hr; exact absurd hr he

/-- What looks at a path sees its inode alone. -/
theorem same_look {M M' : MS} {l : Names} {i : Nat} {nd : Nd} (h1 : findR M l 0 = ((i : Int), 0)) (h2 : M.nodes[i]? = some nd) (h3 : findR M' l 0 = ((i : Int), 0)) (h4 : M'.nodes[i]? = some nd) :
    statR M' l = statR M l ∧ listR M' l = listR M l ∧ ∀ a n, readR M' a n l = readR M a n l := by
  refine ⟨?_, ?_, fun a n => ?_⟩
  · simp only [statR, h1, h3, Int.toNat_natCast, h2, h4]
  · simp only [listR, h1, h3, Int.toNat_natCast, h2, h4]
  · have e1 : fileR M' l = fileR M l := by simp only [fileR, h1, h3, if_true, Int.toNat_natCast, h2, h4]
    by_cases hk : nd.kind = 2
    · have e2 : fileR M l = (0, 304) := by simp only [fileR, h1, if_true, Int.toNat_natCast, h2, if_pos hk]
      simp only [readR, e1, e2]
      rfl
    · have e2 : fileR M l = ((i : Int), 0) := by simp only [fileR, h1, if_true, Int.toNat_natCast, h2, if_neg hk]
      simp only [readR, e1, e2, if_true, Int.toNat_natCast, h2, h4]
end Go.Proofs.YtbofhlifobjolaaGreatDoor.Ax
end

/-! Answers that are the same; boxes of answers -/
section
set_option linter.unusedVariables false
set_option linter.unusedSimpArgs false
namespace Go.Proofs.YtbofhlifobjolaaGreatDoor.Ax
open Go.RowKit

set_option maxHeartbeats 4000000 in
set_option maxRecDepth 20000 in
theorem texts_ret (W : World) (h : AH) (va vb : AV) (a b : List (List UInt8)) (ha : StrS W h va a) (hb : StrS W h vb b) (hla : a.length < 9223372036854775808) :
    RetH (CC W) 47 [va, vb] h (.bool (decide (a = b))) := by
  refine acall_fin (cc_ok W) (fn47 W) (by simp only [Tryz.f47]; rfl) rfl rfl ?_
  obtain ⟨pa, ca, ga, rfl⟩ := ha.len
  obtain ⟨pb, cb, gb, rfl⟩ := hb.len
  by_cases hlen : a.length = b.length
  · have hlen' : ((a.length : Int) != (b.length : Int)) = false := by simp [hlen]
    simp [Wc_seq, Wc_block, Wc_scope, Wc_skip, Wc_label, Wc_exit, Wc_ret, Wc_loop, Wc_region, Wc_cond, Nx_nil, Nx_seq, Nx_seq_exit, Nx_seq_ret, Nx_block, Nx_block_exit, Nx_block_ret, Rg_nil, Rg_cons, RgE, effA, calleeA, wantedA, enterN, ev, ofV, ofVn, putE, evalN, aBin, aInt_add, aInt_sub, aInt_mul, aInt_quo, aInt_rem, aInt_eql, aInt_neq, aInt_lss, aInt_leq, aInt_gtr, aInt_geq, aExtract, finQ_ret, resOf, extU, extEU, kq_eq, thenQ_normal, thenQ_exit, thenQ_ret, aLen, kind37, hlen']
    refine loopN (cc_ok W) (EqI (.sl pa a.length ca ga) (.sl pb b.length cb gb) a b h) a.length ⟨rfl, by simp, 0, by simp, by simp, by simp⟩ ?_
    rintro m e' h' ⟨rfl, hl, k, hkm, htk, hh⟩
    match e', hl with
    | a0 :: a1 :: a2 :: a3 :: a4 :: a5 :: a6 :: a7 :: a8 :: a9 :: a10 :: a11 :: a12 :: a13 :: a14 :: a15 :: a16 :: a17 :: a18 :: a19 :: a20 :: a21 :: a22 :: a23 :: a24 :: a25 :: [], _ =>
      simp at hh
      obtain ⟨rfl, rfl, rfl, rfl, rfl⟩ := hh
      by_cases hlt : k < a.length
      · have hlt' : (k : Int) < (a.length : Int) := by omega
        have hx : a[k]? = some a[k] := by simp [hlt]
        obtain ⟨a', hix, hld⟩ := ha.at hx
        have hy : b[k]? = some (b[k]'(by omega)) := by simp [show k < b.length by omega]
        obtain ⟨b', hiy, hldy⟩ := hb.at hy
        have wk : IntKind.i64.wrap ((k : Int) + 1) = (k : Int) + 1 := wrap64 (by omega) (by omega)
        generalize a[k] = x at hx hld
        generalize b[k]'(by omega) = y at hy hldy
        by_cases hxy : x = y
        · subst hxy
          have hb1 : (x == x) = true := by simp
          simp [Wc_seq, Wc_block, Wc_scope, Wc_skip, Wc_label, Wc_exit, Wc_ret, Wc_loop, Wc_region, Wc_cond, Nx_nil, Nx_seq, Nx_seq_exit, Nx_seq_ret, Nx_block, Nx_block_exit, Nx_block_ret, Rg_nil, Rg_cons, RgE, effA, calleeA, wantedA, enterN, ev, ofV, ofVn, putE, evalN, aBin, aInt_add, aInt_sub, aInt_mul, aInt_quo, aInt_rem, aInt_eql, aInt_neq, aInt_lss, aInt_leq, aInt_gtr, aInt_geq, aExtract, finQ_ret, resOf, extU, extEU, kq_eq, thenQ_normal, thenQ_exit, thenQ_ret, hlt, hlt']
          refine draw1 (cc_ok W) [0, 1, 2, 3, 4, 5, 6, 7, 8] (by kernel_rfl) (by kernel_rfl) (by kernel_rfl) rfl ?_
          simp [Wc_seq, Wc_block, Wc_scope, Wc_skip, Wc_label, Wc_exit, Wc_ret, Wc_loop, Wc_region, Wc_cond, Nx_nil, Nx_seq, Nx_seq_exit, Nx_seq_ret, Nx_block, Nx_block_exit, Nx_block_ret, Rg_nil, Rg_cons, RgE, effA, calleeA, wantedA, enterN, ev, ofV, ofVn, putE, evalN, aBin, aInt_add, aInt_sub, aInt_mul, aInt_quo, aInt_rem, aInt_eql, aInt_neq, aInt_lss, aInt_leq, aInt_gtr, aInt_geq, aExtract, finQ_ret, resOf, extU, extEU, kq_eq, thenQ_normal, thenQ_exit, thenQ_ret, hix, hld, hiy, hldy, aStr, hb1, wk]
          exact ⟨m - 1, by omega, rfl, by simp, k + 1, by omega, take_next htk hx hy, by simp⟩
        · have hb1 : (x == y) = false := by rw [beq_eq_false_iff_ne]; exact hxy
          have hne : a ≠ b := by intro e; subst e; rw [hx] at hy; exact hxy (Option.some.inj hy)
          simp [Wc_seq, Wc_block, Wc_scope, Wc_skip, Wc_label, Wc_exit, Wc_ret, Wc_loop, Wc_region, Wc_cond, Nx_nil, Nx_seq, Nx_seq_exit, Nx_seq_ret, Nx_block, Nx_block_exit, Nx_block_ret, Rg_nil, Rg_cons, RgE, effA, calleeA, wantedA, enterN, ev, ofV, ofVn, putE, evalN, aBin, aInt_add, aInt_sub, aInt_mul, aInt_quo, aInt_rem, aInt_eql, aInt_neq, aInt_lss, aInt_leq, aInt_gtr, aInt_geq, aExtract, finQ_ret, resOf, extU, extEU, kq_eq, thenQ_normal, thenQ_exit, thenQ_ret, hlt, hlt']
          refine draw1 (cc_ok W) [0, 1, 2, 3, 4, 5, 6, 7, 8] (by kernel_rfl) (by kernel_rfl) (by kernel_rfl) rfl ?_
          simp [Wc_seq, Wc_block, Wc_scope, Wc_skip, Wc_label, Wc_exit, Wc_ret, Wc_loop, Wc_region, Wc_cond, Nx_nil, Nx_seq, Nx_seq_exit, Nx_seq_ret, Nx_block, Nx_block_exit, Nx_block_ret, Rg_nil, Rg_cons, RgE, effA, calleeA, wantedA, enterN, ev, ofV, ofVn, putE, evalN, aBin, aInt_add, aInt_sub, aInt_mul, aInt_quo, aInt_rem, aInt_eql, aInt_neq, aInt_lss, aInt_leq, aInt_gtr, aInt_geq, aExtract, finQ_ret, resOf, extU, extEU, kq_eq, thenQ_normal, thenQ_exit, thenQ_ret, hix, hld, hiy, hldy, aStr, hb1, hne]
      · have hlt' : ¬ (k : Int) < (a.length : Int) := by omega
        have he : a = b := by
          have h1 : a.take k = a := List.take_of_length_le (by omega)
          have h2 : b.take k = b := List.take_of_length_le (by omega)
          rw [← h1, htk, h2]
        rw [decide_eq_true he]
        simp [Wc_seq, Wc_block, Wc_scope, Wc_skip, Wc_label, Wc_exit, Wc_ret, Wc_loop, Wc_region, Wc_cond, Nx_nil, Nx_seq, Nx_seq_exit, Nx_seq_ret, Nx_block, Nx_block_exit, Nx_block_ret, Rg_nil, Rg_cons, RgE, effA, calleeA, wantedA, enterN, ev, ofV, ofVn, putE, evalN, aBin, aInt_add, aInt_sub, aInt_mul, aInt_quo, aInt_rem, aInt_eql, aInt_neq, aInt_lss, aInt_leq, aInt_gtr, aInt_geq, aExtract, finQ_ret, resOf, extU, extEU, kq_eq, thenQ_normal, thenQ_exit, thenQ_ret, hlt, hlt']
  · have hlen' : ((a.length : Int) != (b.length : Int)) = true := by rw [bne_iff_ne]; omega
    have hne : a ≠ b := by intro e; exact hlen (by rw [e])
    simp [Wc_seq, Wc_block, Wc_scope, Wc_skip, Wc_label, Wc_exit, Wc_ret, Wc_loop, Wc_region, Wc_cond, Nx_nil, Nx_seq, Nx_seq_exit, Nx_seq_ret, Nx_block, Nx_block_exit, Nx_block_ret, Rg_nil, Rg_cons, RgE, effA, calleeA, wantedA, enterN, ev, ofV, ofVn, putE, evalN, aBin, aInt_add, aInt_sub, aInt_mul, aInt_quo, aInt_rem, aInt_eql, aInt_neq, aInt_lss, aInt_leq, aInt_gtr, aInt_geq, aExtract, finQ_ret, resOf, extU, extEU, kq_eq, thenQ_normal, thenQ_exit, thenQ_ret, aLen, kind37, hlen', hne]


/-- Names in a block beside a model, or none. -/
def NmB (h : AH) (R : MR) (nv : AV) (l : List (List UInt8)) : Prop := l = [] ∧ nv = .sl none 0 0 none ∨ ∃ k, k < h.next ∧ k ∉ R.ids ∧ h.get k = some (.cells (l.map .str) 9) ∧ nv = .sl (some (.new k 0)) l.length l.length (some 1)
theorem NmS.nmB {h0 h : AH} {R : MR} {M : MS} {nv : AV} {l : List (List UInt8)} (hm : MIs h R M) (hn : NmS h0 h nv l) : NmB h R nv l := by
  rcases hn with ⟨rfl, rfl⟩ | ⟨k, _, h2, h3, rfl⟩
  · exact .inl ⟨rfl, rfl⟩
  · exact .inr ⟨k, h2, fun hin => hm.notText hin h3, h3, rfl⟩
theorem NmB.step {h h' : AH} {R R' : MR} {nv : AV} {l : List (List UInt8)} (hn : NmB h R nv l) (hB : MStep h h' R R') : NmB h' R' nv l := by
  rcases hn with ⟨rfl, rfl⟩ | ⟨k, h1, h2, h3, rfl⟩
  · exact .inl ⟨rfl, rfl⟩
  · obtain ⟨a, b, c⟩ := hB.box h3 h1 h2
    exact .inr ⟨k, b, c, a, rfl⟩
theorem NmB.strS {W : World} {h : AH} {R : MR} {nv : AV} {l : List (List UInt8)} (hn : NmB h R nv l) : StrS W h nv l := by
  rcases hn with ⟨rfl, rfl⟩ | ⟨k, h1, h2, h3, rfl⟩
  · exact StrS.nil
  · refine ⟨_, _, _, rfl, ⟨Nat.le_refl _, .inr rfl⟩, fun j x hx => ⟨_, rfl, h1, ?_, _, h3⟩⟩
    simp only [AA.add, aCell, h3, Nat.zero_add]
    simp [hx]
theorem NmB.isSl {h : AH} {R : MR} {nv : AV} {l : List (List UInt8)} (hn : NmB h R nv l) : ∃ p n c g, nv = .sl p n c g := by
  rcases hn with ⟨_, rfl⟩ | ⟨k, _, _, _, rfl⟩ <;> exact ⟨_, _, _, _, rfl⟩

/-- An answer in a box beside a model. -/
def BoxAt (h : AH) (R : MR) (k : Nat) (r : Res) : Prop := ∃ nv, h.get k = some (bxC r nv) ∧ k < h.next ∧ k ∉ R.ids ∧ NmB h R nv r.names
theorem BoxAt.step {h h' : AH} {R R' : MR} {k : Nat} {r : Res} (hb : BoxAt h R k r) (hB : MStep h h' R R') : BoxAt h' R' k r := by
  obtain ⟨nv, g, lt, ni, nm⟩ := hb
  obtain ⟨a, b, c⟩ := hB.box g lt ni
  exact ⟨nv, a, b, c, nm.step hB⟩

/-- An operation's answer, laid into a box. -/
theorem box_do {W : World} {h h1 : AH} {R R1 : MR} {M1 : MS} {w : AV} {r : Res} (hres : ResIs h h1 w r) (hm1 : MIs h1 R1 M1) (hB1 : MStep h h1 R R1) :
    ∃ k hp h2 p n q g, w = .agg (res6 r.e r.data r.kind r.links r.size (.sl p n q g)) ∧ aAlloc (CC W) h1 39 = some (.ptr (some (.new k 0)), hp) ∧ aStoreOp (CC W) hp 39 (.ptr (some (.new k 0))) (.agg (res6 r.e r.data r.kind r.links r.size (.sl p n q g))) = some h2 ∧
      MIs h2 R1 M1 ∧ MStep h h2 R R1 ∧ BoxAt h2 R1 k r := by
  obtain ⟨nv, rfl, hnm⟩ := hres
  obtain ⟨p, n, q, g, rfl⟩ := hnm.isSl
  obtain ⟨a, b, c, d⟩ := bx_all (r := r) (nv := .sl p n q g) hm1
  exact ⟨_, _, _, p, n, q, g, rfl, alloc_res, st_bx, a, hB1.trans b, _, bx_get, c, d, (hnm.nmB hm1).step b⟩

theorem ld_bx {W : World} {h : AH} {k : Nat} {r : Res} {nv : AV} (hg : h.get k = some (bxC r nv)) : aLoad (CC W) h 39 (.new k 0) = some (.agg (res6 r.e r.data r.kind r.links r.size nv)) := ld_res hg

set_option maxRecDepth 100000 in
set_option maxHeartbeats 8000000 in
theorem result_ret (W : World) (h : AH) (r : Res) (va vb : AV) (ha : StrS W h va r.names) (hb : StrS W h vb r.names) (hl : r.names.length < 9223372036854775808) :
    RetK (CC W) 16 [.agg (res6 r.e r.data r.kind r.links r.size va), .agg (res6 r.e r.data r.kind r.links r.size vb)] h (.bool true) := by
  refine acall_fin (cc_ok W) (fn16 W) (by simp only [Tryz.f16]; rfl) rfl rfl ?_
  have bx1 : aBox h 39 (.agg (res6 r.e r.data r.kind r.links r.size va)) = some (.ptr (some (.new h.next 0)), h.push (.cells (res6 r.e r.data r.kind r.links r.size va) 39)) := rfl
  have hk1 := Keeps.push h (.cells (res6 r.e r.data r.kind r.links r.size va) 39)
  have g1 : (h.push (.cells (res6 r.e r.data r.kind r.links r.size va) 39)).get h.next = some (bxC r va) := by simp [bxC, res6]
  have n1 : h.next < (h.push (.cells (res6 r.e r.data r.kind r.links r.size va) 39)).next := by simp
  generalize h.push (.cells (res6 r.e r.data r.kind r.links r.size va) 39) = h1 at bx1 hk1 g1 n1
  generalize h.next = k1 at bx1 g1 n1
  have bx2 : aBox h1 39 (.agg (res6 r.e r.data r.kind r.links r.size vb)) = some (.ptr (some (.new h1.next 0)), h1.push (.cells (res6 r.e r.data r.kind r.links r.size vb) 39)) := rfl
  have hk2 := Keeps.push h1 (.cells (res6 r.e r.data r.kind r.links r.size vb) 39)
  have g2 : (h1.push (.cells (res6 r.e r.data r.kind r.links r.size vb) 39)).get h1.next = some (bxC r vb) := by simp [bxC, res6]
  have g1' := (hk2.2 k1 n1).trans g1
  generalize h1.push (.cells (res6 r.e r.data r.kind r.links r.size vb) 39) = h2 at bx2 hk2 g2 g1'
  generalize h1.next = k2 at bx2 g2
  have ha2 := ha.keeps (hk1.trans hk2)
  have hb2 := hb.keeps (hk1.trans hk2)
  have hs : (r.data == r.data) = true := by simp
  simp [Wc_seq, Wc_block, Wc_scope, Wc_skip, Wc_label, Wc_exit, Wc_ret, Wc_loop, Wc_region, Wc_cond, Nx_nil, Nx_seq, Nx_seq_exit, Nx_seq_ret, Nx_block, Nx_block_exit, Nx_block_ret, Rg_nil, Rg_cons, RgE, effA, calleeA, wantedA, enterN, ev, ofV, ofVn, putE, evalN, aBin, aInt_add, aInt_sub, aInt_mul, aInt_quo, aInt_rem, aInt_eql, aInt_neq, aInt_lss, aInt_leq, aInt_gtr, aInt_geq, aExtract, finQ_ret, resOf, extU, extEU, kq_eq, thenQ_normal, thenQ_exit, thenQ_ret, bx1, bx2, fa39_0, fa39_1, fa39_2, fa39_3, fa39_4, fa39_5, ld26, ld9, ld3, ld37, cell_bx g1', cell_bx g2, aStr, hs]
  refine callK_RetH (by simp [fn47]) (texts_ret W h2 va vb _ _ ha2 hb2 hl) ?_
  simp [Wc_seq, Wc_block, Wc_scope, Wc_skip, Wc_label, Wc_exit, Wc_ret, Wc_loop, Wc_region, Wc_cond, Nx_nil, Nx_seq, Nx_seq_exit, Nx_seq_ret, Nx_block, Nx_block_exit, Nx_block_ret, Rg_nil, Rg_cons, RgE, effA, calleeA, wantedA, enterN, ev, ofV, ofVn, putE, evalN, aBin, aInt_add, aInt_sub, aInt_mul, aInt_quo, aInt_rem, aInt_eql, aInt_neq, aInt_lss, aInt_leq, aInt_gtr, aInt_geq, aExtract, finQ_ret, resOf, extU, extEU, kq_eq, thenQ_normal, thenQ_exit, thenQ_ret]
  exact hk1.trans hk2

/-- An answer in a box beside a model, its names told. -/
structure BoxV (h : AH) (R : MR) (k : Nat) (r : Res) (nv : AV) : Prop where
  g : h.get k = some (bxC r nv)
  lt : k < h.next
  ni : k ∉ R.ids
  nm : NmB h R nv r.names
theorem BoxV.step {h h' : AH} {R R' : MR} {k : Nat} {r : Res} {nv : AV} (hb : BoxV h R k r nv) (hB : MStep h h' R R') : BoxV h' R' k r nv := by
  obtain ⟨a, b, c⟩ := hB.box hb.g hb.lt hb.ni
  exact ⟨a, b, c, hb.nm.step hB⟩
theorem box_doV {W : World} {h h1 : AH} {R R1 : MR} {M1 : MS} {w : AV} {r : Res} (hres : ResIs h h1 w r) (hm1 : MIs h1 R1 M1) (hB1 : MStep h h1 R R1) :
    ∃ k hp h2 p n q g, w = .agg (res6 r.e r.data r.kind r.links r.size (.sl p n q g)) ∧ aAlloc (CC W) h1 39 = some (.ptr (some (.new k 0)), hp) ∧ aStoreOp (CC W) hp 39 (.ptr (some (.new k 0))) (.agg (res6 r.e r.data r.kind r.links r.size (.sl p n q g))) = some h2 ∧
      MIs h2 R1 M1 ∧ MStep h h2 R R1 ∧ BoxV h2 R1 k r (.sl p n q g) := by
  obtain ⟨nv, rfl, hnm⟩ := hres
  obtain ⟨p, n, q, g, rfl⟩ := hnm.isSl
  obtain ⟨a, b, c, d⟩ := bx_all (r := r) (nv := .sl p n q g) hm1
  exact ⟨_, _, _, p, n, q, g, rfl, alloc_res, st_bx, a, hB1.trans b, bx_get, c, d, (hnm.nmB hm1).step b⟩

theorem build_op2 {W : World} {kd : Int} {p : List UInt8} : aBuild (CC W) 35 [(0, .int .i64 kd), (3, .str p)] = some (.agg [.int .i64 kd, .int .i64 0, .int .i64 0, .str p, .str [], .str []]) := rfl
theorem build_op3 {W : World} {kd : Int} {p t : List UInt8} : aBuild (CC W) 35 [(0, .int .i64 kd), (3, .str p), (4, .str t)] = some (.agg [.int .i64 kd, .int .i64 0, .int .i64 0, .str p, .str t, .str []]) := rfl
theorem field_e {W : World} {e : Int} {d : List UInt8} {k l s : Int} {nv : AV} : aField (CC W) 39 (.agg (res6 e d k l s nv)) 0 = some (.int .i64 e) := by
  simp only [aField, aOff, kind39]; rfl
theorem field_links {W : World} {e : Int} {d : List UInt8} {k l s : Int} {nv : AV} : aField (CC W) 39 (.agg (res6 e d k l s nv)) 3 = some (.int .i64 l) := by
  simp only [aField, aOff, kind39]; rfl
end Go.Proofs.YtbofhlifobjolaaGreatDoor.Ax
end

/-! What a rename there and back, a link there and away, leave to be seen: plain -/
section
set_option linter.unusedVariables false
set_option linter.unusedSimpArgs false
namespace Go.Proofs.YtbofhlifobjolaaGreatDoor.Ax
open Go.RowKit

def lookS (M : MS) (p : List UInt8) : Res := if (splitR p).2 ≠ 0 then Res.err (splitR p).2 else statR M (splitR p).1
def lookL (M : MS) (p : List UInt8) : Res := if (splitR p).2 ≠ 0 then Res.err (splitR p).2 else listR M (splitR p).1
def lookD (M : MS) (p : List UInt8) : Res := if (splitR p).2 ≠ 0 then Res.err (splitR p).2 else readR M 0 1024 (splitR p).1

theorem do_looks {M : MS} {p : List UInt8} : doR M ⟨6, 0, 0, p, [], []⟩ = (lookS M p, M) := by
  have hr : rowR 6 = 5 := by decide +kernel
  simp only [doR, hr, lookS]
  by_cases h : (splitR p).2 = 0
  · simp only [h]; rfl
  · simp only [ne_eq, h, not_false_eq_true, if_true]; rfl
theorem do_lookl {M : MS} {p : List UInt8} : doR M ⟨7, 0, 0, p, [], []⟩ = (lookL M p, M) := by
  have hr : rowR 7 = 6 := by decide +kernel
  simp only [doR, hr, lookL]
  by_cases h : (splitR p).2 = 0
  · simp only [h]; rfl
  · simp only [ne_eq, h, not_false_eq_true, if_true]; rfl
theorem do_lookd {M : MS} {p : List UInt8} : doR M ⟨5, 0, 1024, p, [], []⟩ = (lookD M p, M) := by
  have hr : rowR 5 = 4 := by decide +kernel
  simp only [doR, hr, lookD]
  by_cases h : (splitR p).2 = 0
  · simp only [h]; rfl
  · simp only [ne_eq, h, not_false_eq_true, if_true]; rfl
theorem do_rename {M : MS} {p q : List UInt8} : doR M ⟨11, 0, 0, p, q, []⟩ = if (splitR p).2 ≠ 0 then (Res.err (splitR p).2, M) else if (splitR q).2 ≠ 0 then (Res.err (splitR q).2, M) else errM (renameR M p q (splitR p).1 (splitR q).1) := by
  have hr : rowR 11 = 10 := by decide +kernel
  simp only [doR, hr]
  by_cases h : (splitR p).2 = 0
  · by_cases h2 : (splitR q).2 = 0
    · simp only [h, h2]; rfl
    · simp [h, h2, show toR 10 = true from rfl]
  · simp only [ne_eq, h, not_false_eq_true, if_true]; rfl
theorem do_link {M : MS} {p q : List UInt8} : doR M ⟨8, 0, 0, p, q, []⟩ = if (splitR p).2 ≠ 0 then (Res.err (splitR p).2, M) else if (splitR q).2 ≠ 0 then (Res.err (splitR q).2, M) else errM (linkR M (splitR p).1 (splitR q).1) := by
  have hr : rowR 8 = 7 := by decide +kernel
  simp only [doR, hr]
  by_cases h : (splitR p).2 = 0
  · by_cases h2 : (splitR q).2 = 0
    · simp only [h, h2]; rfl
    · simp [h, h2, show toR 7 = true from rfl]
  · simp only [ne_eq, h, not_false_eq_true, if_true]; rfl
theorem do_unlink {M : MS} {p : List UInt8} : doR M ⟨9, 0, 0, p, [], []⟩ = if (splitR p).2 ≠ 0 then (Res.err (splitR p).2, M) else errM (unlinkR M (splitR p).1) := by
  have hr : rowR 9 = 8 := by decide +kernel
  simp only [doR, hr]
  by_cases h : (splitR p).2 = 0
  · simp only [h]; rfl
  · simp only [ne_eq, h, not_false_eq_true, if_true]; rfl

/-- What is looked at is the same. -/
structure SameL (M M' : MS) (p : List UInt8) : Prop where
  s : lookS M' p = lookS M p
  l : lookL M' p = lookL M p
  d : lookD M' p = lookD M p
theorem SameL.refl {M : MS} {p : List UInt8} : SameL M M p := ⟨rfl, rfl, rfl⟩
theorem SameL.trans {M M' M'' : MS} {p : List UInt8} (a : SameL M M' p) (b : SameL M' M'' p) : SameL M M'' p := ⟨b.s.trans a.s, b.l.trans a.l, b.d.trans a.d⟩

theorem same_of {M M' : MS} {p : List UInt8} (hp : (splitR p).2 = 0) {i : Nat} {nd : Nd} (h1 : findR M (splitR p).1 0 = ((i : Int), 0)) (h2 : M.nodes[i]? = some nd) (h3 : findR M' (splitR p).1 0 = ((i : Int), 0)) (h4 : M'.nodes[i]? = some nd) : SameL M M' p := by
  obtain ⟨a, b, c⟩ := same_look h1 h2 h3 h4
  have hn : ¬ (splitR p).2 ≠ 0 := by simpa using hp
  exact ⟨by simp only [lookS, if_neg hn, a], by simp only [lookL, if_neg hn, b], by simp only [lookD, if_neg hn, c]⟩

theorem moves_rename {M : MS} {t : Nat} (h : Fine M t) (ht : t + 5 < 1000000) (p q : List UInt8) :
    ∃ e M1, doR M ⟨11, 0, 0, p, q, []⟩ = (Res.err e, M1) ∧ Fine M1 (t + 1) ∧ (e ≠ 0 → M1 = M) ∧
      (e = 0 → ∃ M2 eg, lookS M1 p = Res.err eg ∧ eg ≠ 0 ∧ lookS M1 q = lookS M p ∧ doR M1 ⟨11, 0, 0, q, p, []⟩ = (Res.err 0, M2) ∧ Fine M2 (t + 2) ∧ SameL M M2 p) := by
  have hf := do_fine h (by omega) ⟨11, 0, 0, p, q, []⟩
  rw [do_rename] at hf ⊢
  by_cases hp : (splitR p).2 = 0
  · by_cases hq : (splitR q).2 = 0
    · rw [if_neg (by simpa using hp), if_neg (by simpa using hq)] at hf ⊢
      have gf : Good (splitR p).1 := splitR_ne hp
      refine ⟨_, _, rfl, hf, fun he => rename_ill h (by omega) gf he, fun he => ?_⟩
      obtain ⟨i, nd, a1, a2, a3, a4, a5, a6, a7, a8⟩ := rename_back h ht hp hq he
      have hf2 := do_fine hf (by omega) ⟨11, 0, 0, q, p, []⟩
      have e2 : doR (errM (renameR M p q (splitR p).1 (splitR q).1)).2 ⟨11, 0, 0, q, p, []⟩ = (Res.err 0, (renameR (renameR M p q (splitR p).1 (splitR q).1).2 q p (splitR q).1 (splitR p).1).2) := by
        rw [do_rename, if_neg (by simpa using hq), if_neg (by simpa using hp)]
        show errM (renameR (renameR M p q (splitR p).1 (splitR q).1).2 q p (splitR q).1 (splitR p).1) = _
        simp only [errM, a6]
      rw [e2] at hf2
      refine ⟨_, (findR (renameR M p q (splitR p).1 (splitR q).1).2 (splitR p).1 0).2, ?_, a5, ?_, e2, hf2, same_of hp a1 a2 a7 a8⟩
      · show lookS (renameR M p q (splitR p).1 (splitR q).1).2 p = _
        simp only [lookS]
        rw [if_neg (by simpa using hp)]
        simp only [statR, if_neg a5]
      · show lookS (renameR M p q (splitR p).1 (splitR q).1).2 q = _
        simp only [lookS]
        rw [if_neg (show ¬ (splitR q).2 ≠ 0 by simpa using hq), if_neg (show ¬ (splitR p).2 ≠ 0 by simpa using hp)]
        simp only [statR, a1, a3, if_true, Int.toNat_natCast, a2, a4]
    · rw [if_neg (by simpa using hp), if_pos hq] at hf ⊢
      exact ⟨_, _, rfl, hf, fun _ => rfl, fun he => absurd he hq⟩
  · rw [if_pos hp] at hf ⊢
    exact ⟨_, _, rfl, hf, fun _ => rfl, fun he => absurd he hp⟩

theorem moves_link {M : MS} {t : Nat} (h : Fine M t) (ht : t + 5 < 1000000) (p q : List UInt8) :
    ∃ e M1, doR M ⟨8, 0, 0, p, q, []⟩ = (Res.err e, M1) ∧ Fine M1 (t + 1) ∧ (e ≠ 0 → M1 = M) ∧
      (e = 0 → ∃ M2, (lookS M1 q).links = (lookS M p).links + 1 ∧ 0 ≤ (lookS M p).links ∧ (lookS M p).links ≤ 100 ∧ doR M1 ⟨9, 0, 0, q, [], []⟩ = (Res.err 0, M2) ∧ Fine M2 (t + 2) ∧ SameL M M2 p) := by
  have hf := do_fine h (by omega) ⟨8, 0, 0, p, q, []⟩
  rw [do_link] at hf ⊢
  by_cases hp : (splitR p).2 = 0
  · by_cases hq : (splitR q).2 = 0
    · rw [if_neg (by simpa using hp), if_neg (by simpa using hq)] at hf ⊢
      have gf : Good (splitR p).1 := splitR_ne hp
      have gt : Good (splitR q).1 := splitR_ne hq
      refine ⟨_, _, rfl, hf, fun he => link_ill h (by omega) gf he, fun he => ?_⟩
      obtain ⟨i, nd, a1, a2, a3, a4, a5, a6, a7⟩ := link_back h ht gf gt he
      have hf2 := do_fine hf (by omega) ⟨9, 0, 0, q, [], []⟩
      have e2 : doR (errM (linkR M (splitR p).1 (splitR q).1)).2 ⟨9, 0, 0, q, [], []⟩ = (Res.err 0, (unlinkR (linkR M (splitR p).1 (splitR q).1).2 (splitR q).1).2) := by
        rw [do_unlink, if_neg (by simpa using hq)]
        show errM (unlinkR (linkR M (splitR p).1 (splitR q).1).2 (splitR q).1) = _
        simp only [errM, a5]
      rw [e2] at hf2
      have hl0 : lookS M p = ⟨0, [], nd.kind, nd.links, nd.size, []⟩ := by
        simp only [lookS]
        rw [if_neg (by simpa using hp)]
        simp only [statR, a1, if_true, Int.toNat_natCast, a2]
      have hl1 : lookS (linkR M (splitR p).1 (splitR q).1).2 q = ⟨0, [], nd.kind, nd.links + 1, nd.size, []⟩ := by
        simp only [lookS]
        rw [if_neg (by simpa using hq)]
        simp only [statR, a3, if_true, Int.toNat_natCast, a4]
      have hlk : 0 ≤ nd.links ∧ nd.links ≤ 100 := by
        have hk := h.at a2
        rcases hk.kind with k | k | k
        · rw [hk.free k]; decide
        · obtain ⟨b, _, _, _, e1, e2, _⟩ := hk.file k; omega
        · have := (hk.dir k).2.1; omega
      refine ⟨_, ?_, by rw [hl0]; exact hlk.1, by rw [hl0]; exact hlk.2, e2, hf2, same_of hp a1 a2 a6 a7⟩
      show (lookS (linkR M (splitR p).1 (splitR q).1).2 q).links = _
      rw [hl0, hl1]
    · rw [if_neg (by simpa using hp), if_pos hq] at hf ⊢
      exact ⟨_, _, rfl, hf, fun _ => rfl, fun he => absurd he hq⟩
  · rw [if_pos hp] at hf ⊢
    exact ⟨_, _, rfl, hf, fun _ => rfl, fun he => absurd he hp⟩

theorem looks_short {M : MS} {t : Nat} (h : Fine M t) (ht : t < 1000000) (p : List UInt8) : (lookS M p).names.length < 9223372036854775808 ∧ (lookL M p).names.length < 9223372036854775808 ∧ (lookD M p).names.length < 9223372036854775808 := by
  have e0 : ∀ e, (Res.err e).names.length < 9223372036854775808 := fun e => by show (0 : Nat) < _; decide
  refine ⟨?_, ?_, ?_⟩
  · simp only [lookS, statR]
    split
    · exact e0 _
    · split
      · split
        · show (0 : Nat) < _; decide
        · exact e0 _
      · exact e0 _
  · simp only [lookL, listR]
    split
    · exact e0 _
    · split
      · split
        · rename_i nd hnd
          split
          · rename_i hk
            show (sortT (nmsR nd.slots)).length < _
            have h1 : (sortT (nmsR nd.slots)).length = (nmsR nd.slots).length := List.length_mergeSort _
            have h2 : (nmsR nd.slots).length ≤ nd.slots.length := List.length_filterMap_le _ _
            have h3 := ((h.at hnd).dir hk).2.2.1
            omega
          · exact e0 _
        · exact e0 _
      · exact e0 _
  · simp only [lookD, readR]
    split
    · exact e0 _
    · split
      · exact e0 _
      · split
        · split
          · show (0 : Nat) < _; decide
          · exact e0 _
        · exact e0 _
end Go.Proofs.YtbofhlifobjolaaGreatDoor.Ax
end

/-! ModelMoves: the walk -/
section
set_option linter.unusedVariables false
set_option linter.unusedSimpArgs false
namespace Go.Proofs.YtbofhlifobjolaaGreatDoor.Ax
open Go.RowKit

def MvI (v : AV) (pf pt : List UInt8) (km : Nat) (l : List Opn) (m : Nat) (e' : Env) (h' : AH) : Prop :=
  e'.length = 146 ∧ ∃ (i : Nat) (R : MR) (M : MS), i + m = l.length ∧ MIs h' R M ∧ Fine M i ∧ R.km = km ∧
    (e'.getD 0 .undef = v ∧ e'.getD 1 .undef = .str pf ∧ e'.getD 2 .undef = .str pt ∧ e'.getD 7 .undef = .ptr (some (.new km 0)) ∧ e'.getD 42 .undef = v ∧ e'.getD 43 .undef = .int .i64 l.length ∧ e'.getD 44 .undef = .int .i64 i)

set_option maxRecDepth 100000 in
set_option maxHeartbeats 16000000 in
theorem moves_ret (W : World) (v : AV) (l : List Opn) (hv : OpsS W v l) (pf pt : List UInt8) (hpf : pf.length < 8796093022207) (hpt : pt.length < 8796093022207) (hl : l.length < 8796093022207) :
    ACall (CC W) 8 [v, .str pf, .str pt] AH.empty (fun w _ => w = .bool true) (fun _ _ => False) := by
  obtain ⟨va, vc, rfl, hops⟩ := hv
  refine acall_fin (cc_ok W) (fn8 W) (by simp only [Tryz.f8]; rfl) rfl rfl ?_
  simp [Wc_seq, Wc_block, Wc_scope, Wc_skip, Wc_label, Wc_exit, Wc_ret, Wc_loop, Wc_region, Wc_cond, Nx_nil, Nx_seq, Nx_seq_exit, Nx_seq_ret, Nx_block, Nx_block_exit, Nx_block_ret, Rg_nil, Rg_cons, RgE, effA, calleeA, wantedA, enterN, ev, ofV, ofVn, putE, evalN, aBin, aInt_add, aInt_sub, aInt_mul, aInt_quo, aInt_rem, aInt_eql, aInt_neq, aInt_lss, aInt_leq, aInt_gtr, aInt_geq, aExtract, finQ_ret, resOf, extU, extEU, kq_eq, thenQ_normal, thenQ_exit, thenQ_ret]
  refine callK_RetK (by simp [fn25]) (little_ret W _) fun h1 hk1 => ?_
  simp [Wc_seq, Wc_block, Wc_scope, Wc_skip, Wc_label, Wc_exit, Wc_ret, Wc_loop, Wc_region, Wc_cond, Nx_nil, Nx_seq, Nx_seq_exit, Nx_seq_ret, Nx_block, Nx_block_exit, Nx_block_ret, Rg_nil, Rg_cons, RgE, effA, calleeA, wantedA, enterN, ev, ofV, ofVn, putE, evalN, aBin, aInt_add, aInt_sub, aInt_mul, aInt_quo, aInt_rem, aInt_eql, aInt_neq, aInt_lss, aInt_leq, aInt_gtr, aInt_geq, aExtract, finQ_ret, resOf, extU, extEU, kq_eq, thenQ_normal, thenQ_exit, thenQ_ret]
  refine callK_ret (by simp [fn12]) (new_ret W h1 64 20 6) fun w h2 hw => ?_
  rw [shape_little] at hw
  obtain ⟨R, rfl, hk2, hm, hR⟩ := hw
  have hfine : Fine (newM 6 40) 0 := new_fine (by decide) (by decide)
  rw [show (6 : Int).toNat = 6 from rfl] at hm
  generalize newM 6 40 = M0 at hm hfine
  have hlen : ∀ h, aLen (CC W) h 24 (.sl va l.length vc none) = some (.int .i64 l.length) := fun h => by simp [aLen, kind24]
  simp [Wc_seq, Wc_block, Wc_scope, Wc_skip, Wc_label, Wc_exit, Wc_ret, Wc_loop, Wc_region, Wc_cond, Nx_nil, Nx_seq, Nx_seq_exit, Nx_seq_ret, Nx_block, Nx_block_exit, Nx_block_ret, Rg_nil, Rg_cons, RgE, effA, calleeA, wantedA, enterN, ev, ofV, ofVn, putE, evalN, aBin, aInt_add, aInt_sub, aInt_mul, aInt_quo, aInt_rem, aInt_eql, aInt_neq, aInt_lss, aInt_leq, aInt_gtr, aInt_geq, aExtract, finQ_ret, resOf, extU, extEU, kq_eq, thenQ_normal, thenQ_exit, thenQ_ret, aEq, kind25, kindEq1, aEq1]
  refine callK_RetH (by simp [fn14]) (heavy_ret W h2 va l.length vc none) ?_
  by_cases c1 : (200 : Int) < (l.length : Int)
  · have c1' : 200 < l.length := by omega
    simp [Wc_seq, Wc_block, Wc_scope, Wc_skip, Wc_label, Wc_exit, Wc_ret, Wc_loop, Wc_region, Wc_cond, Nx_nil, Nx_seq, Nx_seq_exit, Nx_seq_ret, Nx_block, Nx_block_exit, Nx_block_ret, Rg_nil, Rg_cons, RgE, effA, calleeA, wantedA, enterN, ev, ofV, ofVn, putE, evalN, aBin, aInt_add, aInt_sub, aInt_mul, aInt_quo, aInt_rem, aInt_eql, aInt_neq, aInt_lss, aInt_leq, aInt_gtr, aInt_geq, aExtract, finQ_ret, resOf, extU, extEU, kq_eq, thenQ_normal, thenQ_exit, thenQ_ret, aEq, kind25, kindEq1, aEq1, c1, c1']
    refine callK_RetH (by simp [fn15]) (speaks_ret W _) ?_
    simp [Wc_seq, Wc_block, Wc_scope, Wc_skip, Wc_label, Wc_exit, Wc_ret, Wc_loop, Wc_region, Wc_cond, Nx_nil, Nx_seq, Nx_seq_exit, Nx_seq_ret, Nx_block, Nx_block_exit, Nx_block_ret, Rg_nil, Rg_cons, RgE, effA, calleeA, wantedA, enterN, ev, ofV, ofVn, putE, evalN, aBin, aInt_add, aInt_sub, aInt_mul, aInt_quo, aInt_rem, aInt_eql, aInt_neq, aInt_lss, aInt_leq, aInt_gtr, aInt_geq, aExtract, finQ_ret, resOf, extU, extEU, kq_eq, thenQ_normal, thenQ_exit, thenQ_ret]
  · have c1' : ¬ 200 < l.length := by omega
    simp [Wc_seq, Wc_block, Wc_scope, Wc_skip, Wc_label, Wc_exit, Wc_ret, Wc_loop, Wc_region, Wc_cond, Nx_nil, Nx_seq, Nx_seq_exit, Nx_seq_ret, Nx_block, Nx_block_exit, Nx_block_ret, Rg_nil, Rg_cons, RgE, effA, calleeA, wantedA, enterN, ev, ofV, ofVn, putE, evalN, aBin, aInt_add, aInt_sub, aInt_mul, aInt_quo, aInt_rem, aInt_eql, aInt_neq, aInt_lss, aInt_leq, aInt_gtr, aInt_geq, aExtract, finQ_ret, resOf, extU, extEU, kq_eq, thenQ_normal, thenQ_exit, thenQ_ret, aEq, kind25, kindEq1, aEq1, c1, c1', hlen]
    refine loopN (cc_ok W) (MvI (.sl va l.length vc none) pf pt R.km l) l.length ⟨by simp, 0, R, M0, by simp, hm, hfine, rfl, by simp⟩ ?_
    clear hm hfine
    generalize R.km = km at *
    rintro m e' h' ⟨hlen', i, R, M, him, hm, hfine, rfl, hh⟩
    obtain ⟨a0, a1, a2, a3, a4, a5, a6, a7, a8, a9, rS0, rfl, hS0⟩ := un10 hlen'
    obtain ⟨a10, a11, a12, a13, a14, a15, a16, a17, a18, a19, rS10, rfl, hS10⟩ := un10 hS0
    obtain ⟨a20, a21, a22, a23, a24, a25, a26, a27, a28, a29, rS20, rfl, hS20⟩ := un10 hS10
    obtain ⟨a30, a31, a32, a33, a34, a35, a36, a37, a38, a39, rS30, rfl, hS30⟩ := un10 hS20
    obtain ⟨a40, a41, a42, a43, a44, a45, a46, a47, a48, a49, rS40, rfl, hS40⟩ := un10 hS30
    obtain ⟨a50, a51, a52, a53, a54, a55, a56, a57, a58, a59, rS50, rfl, hS50⟩ := un10 hS40
    obtain ⟨a60, a61, a62, a63, a64, a65, a66, a67, a68, a69, rS60, rfl, hS60⟩ := un10 hS50
    obtain ⟨a70, a71, a72, a73, a74, a75, a76, a77, a78, a79, rS70, rfl, hS70⟩ := un10 hS60
    obtain ⟨a80, a81, a82, a83, a84, a85, a86, a87, a88, a89, rS80, rfl, hS80⟩ := un10 hS70
    obtain ⟨a90, a91, a92, a93, a94, a95, a96, a97, a98, a99, rS90, rfl, hS90⟩ := un10 hS80
    obtain ⟨a100, a101, a102, a103, a104, a105, a106, a107, a108, a109, rS100, rfl, hS100⟩ := un10 hS90
    obtain ⟨a110, a111, a112, a113, a114, a115, a116, a117, a118, a119, rS110, rfl, hS110⟩ := un10 hS100
    obtain ⟨a120, a121, a122, a123, a124, a125, a126, a127, a128, a129, rS120, rfl, hS120⟩ := un10 hS110
    obtain ⟨a130, a131, a132, a133, a134, a135, a136, a137, a138, a139, rS130, rfl, hS130⟩ := un10 hS120
    obtain ⟨a140, rS140, rfl, hS140⟩ := un1 hS130
    obtain ⟨a141, rS141, rfl, hS141⟩ := un1 hS140
    obtain ⟨a142, rS142, rfl, hS142⟩ := un1 hS141
    obtain ⟨a143, rS143, rfl, hS143⟩ := un1 hS142
    obtain ⟨a144, rS144, rfl, hS144⟩ := un1 hS143
    obtain ⟨a145, rS145, rfl, hS145⟩ := un1 hS144
    obtain rfl := un0 hS145
    clear hlen' hS0 hS10 hS20 hS30 hS40 hS50 hS60 hS70 hS80 hS90 hS100 hS110 hS120 hS130 hS140 hS141 hS142 hS143 hS144 hS145
    simp at hh
    obtain ⟨rfl, rfl, rfl, rfl, rfl, rfl, rfl⟩ := hh
    have hi200 : i < 1000000 := by omega
    by_cases hlt : i < l.length
    · have hlt' : (i : Int) < (l.length : Int) := by omega
      have wi : IntKind.i64.wrap ((i : Int) + 1) = (i : Int) + 1 := wrap64 (by omega) (by omega)
      have hx : l[i]? = some l[i] := by simp [hlt]
      generalize l[i] = o at hx
      obtain ⟨hok, a', hix, hld⟩ := hops i o hx
      have hld' := hld h'
      simp only [Opn.cells] at hld'
      have hst := st_op (W := W) (o := o) (h := h'.push (.cells [.int .i64 0, .int .i64 0, .int .i64 0, .str [], .str [], .str []] 35)) (k := h'.next) (a := .int .i64 0) (b := .int .i64 0) (c := .int .i64 0) (d := .str []) (e := .str []) (f := .str []) (by simp)
      have hK : Keeps h' ((h'.push (.cells [.int .i64 0, .int .i64 0, .int .i64 0, .str [], .str [], .str []] 35)).set h'.next (.cells o.cells 35)) := (Keeps.push _ _).set (Nat.le_refl _) _
      have hld2 := ld_op (W := W) (h := (h'.push (.cells [.int .i64 0, .int .i64 0, .int .i64 0, .str [], .str [], .str []] 35)).set h'.next (.cells o.cells 35)) (k := h'.next) (a := .int .i64 o.kd) (b := .int .i64 o.at_) (c := .int .i64 o.n) (d := .str o.p) (e := .str o.t) (f := .str o.d) (by simp [Opn.cells])
      generalize (h'.push (.cells [.int .i64 0, .int .i64 0, .int .i64 0, .str [], .str [], .str []] 35)).set h'.next (.cells o.cells 35) = h3 at hst hK hld2
      have hm3 := hm.keeps hK
      simp [Wc_seq, Wc_block, Wc_scope, Wc_skip, Wc_label, Wc_exit, Wc_ret, Wc_loop, Wc_region, Wc_cond, Nx_nil, Nx_seq, Nx_seq_exit, Nx_seq_ret, Nx_block, Nx_block_exit, Nx_block_ret, Rg_nil, Rg_cons, RgE, effA, calleeA, wantedA, enterN, ev, ofV, ofVn, putE, evalN, aBin, aInt_add, aInt_sub, aInt_mul, aInt_quo, aInt_rem, aInt_eql, aInt_neq, aInt_lss, aInt_leq, aInt_gtr, aInt_geq, aExtract, finQ_ret, resOf, extU, extEU, kq_eq, thenQ_normal, thenQ_exit, thenQ_ret, hlt, hlt', hix, hld', alloc_op, hst, hld2]
      have hdo := do_all W h3 R M hm3 i hfine hi200 o hok.p hok.t hok.a hok.a'
      simp only [opV] at hdo
      refine callK_ret (by simp [fn17]) hdo fun w h4 ⟨R4, hres, hm4, hB4⟩ => ?_
      have hf4 := do_fine hfine hi200 o
      simp [Wc_seq, Wc_block, Wc_scope, Wc_skip, Wc_label, Wc_exit, Wc_ret, Wc_loop, Wc_region, Wc_cond, Nx_nil, Nx_seq, Nx_seq_exit, Nx_seq_ret, Nx_block, Nx_block_exit, Nx_block_ret, Rg_nil, Rg_cons, RgE, effA, calleeA, wantedA, enterN, ev, ofV, ofVn, putE, evalN, aBin, aInt_add, aInt_sub, aInt_mul, aInt_quo, aInt_rem, aInt_eql, aInt_neq, aInt_lss, aInt_leq, aInt_gtr, aInt_geq, aExtract, finQ_ret, resOf, extU, extEU, kq_eq, thenQ_normal, thenQ_exit, thenQ_ret, wi]
      exact ⟨m - 1, by omega, by simp, i + 1, R4, _, by omega, hm4, hf4, hB4.hds.1, by simp⟩
    · have hlt' : ¬ (i : Int) < (l.length : Int) := by omega
      obtain ⟨hsh1, hsh2, hsh3⟩ := looks_short hfine hi200 pf
      have km0 : R.km = R.km := rfl
      have hdo2 := do_all W h' R M hm _ hfine (by omega) ⟨6, 0, 0, pf, [], []⟩ (show pf.length < _ by omega) (show ([] : List UInt8).length < _ by decide) (show (0 : Int) < _ by omega) (show _ ≤ (0 : Int) by omega)
      rw [do_looks] at hdo2
      simp only [opV] at hdo2
      simp [Wc_seq, Wc_block, Wc_scope, Wc_skip, Wc_label, Wc_exit, Wc_ret, Wc_loop, Wc_region, Wc_cond, Nx_nil, Nx_seq, Nx_seq_exit, Nx_seq_ret, Nx_block, Nx_block_exit, Nx_block_ret, Rg_nil, Rg_cons, RgE, effA, calleeA, wantedA, enterN, ev, ofV, ofVn, putE, evalN, aBin, aInt_add, aInt_sub, aInt_mul, aInt_quo, aInt_rem, aInt_eql, aInt_neq, aInt_lss, aInt_leq, aInt_gtr, aInt_geq, aExtract, finQ_ret, resOf, extU, extEU, kq_eq, thenQ_normal, thenQ_exit, thenQ_ret, hlt, hlt', build_op2]
      refine callK_ret (by simp [fn17]) hdo2 fun w h3 ⟨R4, hres5, hm6, hB7⟩ => ?_
      obtain ⟨k8, hp9, h10, x17, x18, x19, x20, rfl, al11, st12, hm13, hB14, bx15⟩ := box_doV (W := W) hres5 hm6 hB7
      have km16 := hB14.hds.1.trans km0
      have hdo21 := do_all W h10 R4 M hm13 _ hfine (by omega) ⟨7, 0, 0, pf, [], []⟩ (show pf.length < _ by omega) (show ([] : List UInt8).length < _ by decide) (show (0 : Int) < _ by omega) (show _ ≤ (0 : Int) by omega)
      rw [do_lookl] at hdo21
      simp only [opV, km16] at hdo21
      simp [Wc_seq, Wc_block, Wc_scope, Wc_skip, Wc_label, Wc_exit, Wc_ret, Wc_loop, Wc_region, Wc_cond, Nx_nil, Nx_seq, Nx_seq_exit, Nx_seq_ret, Nx_block, Nx_block_exit, Nx_block_ret, Rg_nil, Rg_cons, RgE, effA, calleeA, wantedA, enterN, ev, ofV, ofVn, putE, evalN, aBin, aInt_add, aInt_sub, aInt_mul, aInt_quo, aInt_rem, aInt_eql, aInt_neq, aInt_lss, aInt_leq, aInt_gtr, aInt_geq, aExtract, finQ_ret, resOf, extU, extEU, kq_eq, thenQ_normal, thenQ_exit, thenQ_ret, al11, st12, build_op2]
      refine callK_ret (by simp [fn17]) hdo21 fun w h22 ⟨R23, hres24, hm25, hB26⟩ => ?_
      obtain ⟨k27, hp28, h29, x36, x37, x38, x39, rfl, al30, st31, hm32, hB33, bx34⟩ := box_doV (W := W) hres24 hm25 hB26
      have km35 := hB33.hds.1.trans km16
      have bx40 := bx15.step hB33
      have hdo41 := do_all W h29 R23 M hm32 _ hfine (by omega) ⟨5, 0, 1024, pf, [], []⟩ (show pf.length < _ by omega) (show ([] : List UInt8).length < _ by decide) (show (0 : Int) < _ by omega) (show _ ≤ (0 : Int) by omega)
      rw [do_lookd] at hdo41
      simp only [opV, km35] at hdo41
      simp [Wc_seq, Wc_block, Wc_scope, Wc_skip, Wc_label, Wc_exit, Wc_ret, Wc_loop, Wc_region, Wc_cond, Nx_nil, Nx_seq, Nx_seq_exit, Nx_seq_ret, Nx_block, Nx_block_exit, Nx_block_ret, Rg_nil, Rg_cons, RgE, effA, calleeA, wantedA, enterN, ev, ofV, ofVn, putE, evalN, aBin, aInt_add, aInt_sub, aInt_mul, aInt_quo, aInt_rem, aInt_eql, aInt_neq, aInt_lss, aInt_leq, aInt_gtr, aInt_geq, aExtract, finQ_ret, resOf, extU, extEU, kq_eq, thenQ_normal, thenQ_exit, thenQ_ret, al30, st31, build_opR]
      refine callK_ret (by simp [fn17]) hdo41 fun w h42 ⟨R43, hres44, hm45, hB46⟩ => ?_
      obtain ⟨k47, hp48, h49, x56, x57, x58, x59, rfl, al50, st51, hm52, hB53, bx54⟩ := box_doV (W := W) hres44 hm45 hB46
      have km55 := hB53.hds.1.trans km35
      have bx60 := bx40.step hB53
      have bx61 := bx34.step hB53
      obtain ⟨ea, M1, hda, hfa, hna, hza⟩ := moves_rename hfine (by omega) pf pt
      have hdo62 := do_all W h49 R43 M hm52 _ hfine (by omega) ⟨11, 0, 0, pf, pt, []⟩ (show pf.length < _ by omega) (show pt.length < _ by omega) (show (0 : Int) < _ by omega) (show _ ≤ (0 : Int) by omega)
      rw [hda] at hdo62
      simp only [opV, km55] at hdo62
      simp [Wc_seq, Wc_block, Wc_scope, Wc_skip, Wc_label, Wc_exit, Wc_ret, Wc_loop, Wc_region, Wc_cond, Nx_nil, Nx_seq, Nx_seq_exit, Nx_seq_ret, Nx_block, Nx_block_exit, Nx_block_ret, Rg_nil, Rg_cons, RgE, effA, calleeA, wantedA, enterN, ev, ofV, ofVn, putE, evalN, aBin, aInt_add, aInt_sub, aInt_mul, aInt_quo, aInt_rem, aInt_eql, aInt_neq, aInt_lss, aInt_leq, aInt_gtr, aInt_geq, aExtract, finQ_ret, resOf, extU, extEU, kq_eq, thenQ_normal, thenQ_exit, thenQ_ret, al50, st51, build_op3]
      refine callK_ret (by simp [fn17]) hdo62 fun w h63 ⟨R64, hres65, hm66, hB67⟩ => ?_
      obtain ⟨k68, hp69, h70, x77, x78, x79, x80, rfl, al71, st72, hm73, hB74, bx75⟩ := box_doV (W := W) hres65 hm66 hB67
      simp only [Res.err] at st72
      have km76 := hB74.hds.1.trans km55
      have bx81 := bx60.step hB74
      have bx82 := bx61.step hB74
      have bx83 := bx54.step hB74
      by_cases ha0 : ea = 0
      · subst ha0
        obtain ⟨M2, eg, hg1, hg2, hg3, hg4, hf2, sm0⟩ := hza rfl
        have hdo84 := do_all W h70 R64 M1 hm73 _ hfa (by omega) ⟨6, 0, 0, pf, [], []⟩ (show pf.length < _ by omega) (show ([] : List UInt8).length < _ by decide) (show (0 : Int) < _ by omega) (show _ ≤ (0 : Int) by omega)
        rw [do_looks, hg1] at hdo84
        simp only [opV, km76] at hdo84
        simp [Wc_seq, Wc_block, Wc_scope, Wc_skip, Wc_label, Wc_exit, Wc_ret, Wc_loop, Wc_region, Wc_cond, Nx_nil, Nx_seq, Nx_seq_exit, Nx_seq_ret, Nx_block, Nx_block_exit, Nx_block_ret, Rg_nil, Rg_cons, RgE, effA, calleeA, wantedA, enterN, ev, ofV, ofVn, putE, evalN, aBin, aInt_add, aInt_sub, aInt_mul, aInt_quo, aInt_rem, aInt_eql, aInt_neq, aInt_lss, aInt_leq, aInt_gtr, aInt_geq, aExtract, finQ_ret, resOf, extU, extEU, kq_eq, thenQ_normal, thenQ_exit, thenQ_ret, al71, st72, fa39_0, fa39_3, ld26, ld3, ld_bx bx75.g, cell_bx bx75.g, Res.err, build_op2]
        refine callK_ret (by simp [fn17]) hdo84 fun w h85 ⟨R86, hres87, hm88, hB89⟩ => ?_
        obtain ⟨k90, hp91, h92, x99, x100, x101, x102, rfl, al93, st94, hm95, hB96, bx97⟩ := box_doV (W := W) hres87 hm88 hB89
        simp only [Res.err] at st94
        have km98 := hB96.hds.1.trans km76
        have bx103 := bx81.step hB96
        have bx104 := bx82.step hB96
        have bx105 := bx83.step hB96
        have bx106 := bx75.step hB96
        have hdo107 := do_all W h92 R86 M1 hm95 _ hfa (by omega) ⟨6, 0, 0, pt, [], []⟩ (show pt.length < _ by omega) (show ([] : List UInt8).length < _ by decide) (show (0 : Int) < _ by omega) (show _ ≤ (0 : Int) by omega)
        rw [do_looks, hg3] at hdo107
        simp only [opV, km98] at hdo107
        simp [Wc_seq, Wc_block, Wc_scope, Wc_skip, Wc_label, Wc_exit, Wc_ret, Wc_loop, Wc_region, Wc_cond, Nx_nil, Nx_seq, Nx_seq_exit, Nx_seq_ret, Nx_block, Nx_block_exit, Nx_block_ret, Rg_nil, Rg_cons, RgE, effA, calleeA, wantedA, enterN, ev, ofV, ofVn, putE, evalN, aBin, aInt_add, aInt_sub, aInt_mul, aInt_quo, aInt_rem, aInt_eql, aInt_neq, aInt_lss, aInt_leq, aInt_gtr, aInt_geq, aExtract, finQ_ret, resOf, extU, extEU, kq_eq, thenQ_normal, thenQ_exit, thenQ_ret, al93, st94, build_op2, Res.err]
        refine callK_ret (by simp [fn17]) hdo107 fun w h108 ⟨R109, hres110, hm111, hB112⟩ => ?_
        obtain ⟨k113, hp114, h115, x122, x123, x124, x125, rfl, al116, st117, hm118, hB119, bx120⟩ := box_doV (W := W) hres110 hm111 hB112
        have km121 := hB119.hds.1.trans km98
        have bx126 := bx103.step hB119
        have bx127 := bx104.step hB119
        have bx128 := bx105.step hB119
        have bx129 := bx106.step hB119
        have bx130 := bx97.step hB119
        have hgb : (eg == 0) = false := by simpa using hg2
        simp [Wc_seq, Wc_block, Wc_scope, Wc_skip, Wc_label, Wc_exit, Wc_ret, Wc_loop, Wc_region, Wc_cond, Nx_nil, Nx_seq, Nx_seq_exit, Nx_seq_ret, Nx_block, Nx_block_exit, Nx_block_ret, Rg_nil, Rg_cons, RgE, effA, calleeA, wantedA, enterN, ev, ofV, ofVn, putE, evalN, aBin, aInt_add, aInt_sub, aInt_mul, aInt_quo, aInt_rem, aInt_eql, aInt_neq, aInt_lss, aInt_leq, aInt_gtr, aInt_geq, aExtract, finQ_ret, resOf, extU, extEU, kq_eq, thenQ_normal, thenQ_exit, thenQ_ret, al116, st117, fa39_0, fa39_3, ld26, ld3, ld_bx bx130.g, cell_bx bx130.g, ld_bx bx120.g, cell_bx bx120.g, ld_bx bx126.g, cell_bx bx126.g, Res.err, hg2, hgb]
        refine callK_RetK (by simp [fn16]) (result_ret W h115 (lookS M pf) _ _ bx120.nm.strS bx126.nm.strS hsh1) fun h131 hk132 => ?_
        have hm133 := hm118.keeps hk132
        have hB134 : MStep h115 h131 R109 R109 := MStep.refl hk132
        have bx135 := bx126.step hB134
        have bx136 := bx127.step hB134
        have bx137 := bx128.step hB134
        have bx138 := bx129.step hB134
        have bx139 := bx130.step hB134
        have bx140 := bx120.step hB134
        have hdo141 := do_all W h131 R109 M1 hm133 _ hfa (by omega) ⟨11, 0, 0, pt, pf, []⟩ (show pt.length < _ by omega) (show pf.length < _ by omega) (show (0 : Int) < _ by omega) (show _ ≤ (0 : Int) by omega)
        rw [hg4] at hdo141
        simp only [opV, km121] at hdo141
        simp [Wc_seq, Wc_block, Wc_scope, Wc_skip, Wc_label, Wc_exit, Wc_ret, Wc_loop, Wc_region, Wc_cond, Nx_nil, Nx_seq, Nx_seq_exit, Nx_seq_ret, Nx_block, Nx_block_exit, Nx_block_ret, Rg_nil, Rg_cons, RgE, effA, calleeA, wantedA, enterN, ev, ofV, ofVn, putE, evalN, aBin, aInt_add, aInt_sub, aInt_mul, aInt_quo, aInt_rem, aInt_eql, aInt_neq, aInt_lss, aInt_leq, aInt_gtr, aInt_geq, aExtract, finQ_ret, resOf, extU, extEU, kq_eq, thenQ_normal, thenQ_exit, thenQ_ret, aUn_not', build_op3]
        refine callK_ret (by simp [fn17]) hdo141 fun w h142 ⟨R143, hres144, hm145, hB146⟩ => ?_
        obtain ⟨nvR, rfl, nm148⟩ := hres144
        have km147 := hB146.hds.1.trans km121
        have bx149 := bx135.step hB146
        have bx150 := bx136.step hB146
        have bx151 := bx137.step hB146
        have bx152 := bx138.step hB146
        have bx153 := bx139.step hB146
        have bx154 := bx140.step hB146
        obtain ⟨eb155, M156, hdk157, hf158, hne159, heq160⟩ := moves_link hf2 (by omega) pf pt
        have hdo161 := do_all W h142 R143 M2 hm145 _ hf2 (by omega) ⟨8, 0, 0, pf, pt, []⟩ (show pf.length < _ by omega) (show pt.length < _ by omega) (show (0 : Int) < _ by omega) (show _ ≤ (0 : Int) by omega)
        rw [hdk157] at hdo161
        simp only [opV, km147] at hdo161
        simp [Wc_seq, Wc_block, Wc_scope, Wc_skip, Wc_label, Wc_exit, Wc_ret, Wc_loop, Wc_region, Wc_cond, Nx_nil, Nx_seq, Nx_seq_exit, Nx_seq_ret, Nx_block, Nx_block_exit, Nx_block_ret, Rg_nil, Rg_cons, RgE, effA, calleeA, wantedA, enterN, ev, ofV, ofVn, putE, evalN, aBin, aInt_add, aInt_sub, aInt_mul, aInt_quo, aInt_rem, aInt_eql, aInt_neq, aInt_lss, aInt_leq, aInt_gtr, aInt_geq, aExtract, finQ_ret, resOf, extU, extEU, kq_eq, thenQ_normal, thenQ_exit, thenQ_ret, field_e, Res.err, build_op3]
        refine callK_ret (by simp [fn17]) hdo161 fun w h162 ⟨R163, hres164, hm165, hB166⟩ => ?_
        obtain ⟨k167, hp168, h169, x176, x177, x178, x179, rfl, al170, st171, hm172, hB173, bx174⟩ := box_doV (W := W) hres164 hm165 hB166
        simp only [Res.err] at st171
        have km175 := hB173.hds.1.trans km147
        have bx180 := bx149.step hB173
        have bx181 := bx150.step hB173
        have bx182 := bx151.step hB173
        have bx183 := bx152.step hB173
        have bx184 := bx153.step hB173
        have bx185 := bx154.step hB173
        by_cases hb0 : eb155 = 0
        · subst hb0
          obtain ⟨M186, hlk187, hl0188, hl1189, hdu190, hf191, sm192⟩ := heq160 rfl
          rw [sm0.s] at hlk187 hl0188 hl1189
          have sm193 := sm0.trans sm192
          have hdo194 := do_all W h169 R163 M156 hm172 _ hf158 (by omega) ⟨6, 0, 0, pt, [], []⟩ (show pt.length < _ by omega) (show ([] : List UInt8).length < _ by decide) (show (0 : Int) < _ by omega) (show _ ≤ (0 : Int) by omega)
          rw [do_looks] at hdo194
          simp only [opV, km175] at hdo194
          have wl : IntKind.i64.wrap ((lookS M pf).links + 1) = (lookS M pf).links + 1 := wrap64 (by omega) (by omega)
          simp [Wc_seq, Wc_block, Wc_scope, Wc_skip, Wc_label, Wc_exit, Wc_ret, Wc_loop, Wc_region, Wc_cond, Nx_nil, Nx_seq, Nx_seq_exit, Nx_seq_ret, Nx_block, Nx_block_exit, Nx_block_ret, Rg_nil, Rg_cons, RgE, effA, calleeA, wantedA, enterN, ev, ofV, ofVn, putE, evalN, aBin, aInt_add, aInt_sub, aInt_mul, aInt_quo, aInt_rem, aInt_eql, aInt_neq, aInt_lss, aInt_leq, aInt_gtr, aInt_geq, aExtract, finQ_ret, resOf, extU, extEU, kq_eq, thenQ_normal, thenQ_exit, thenQ_ret, al170, st171, fa39_0, fa39_3, ld26, ld3, ld_bx bx174.g, cell_bx bx174.g, Res.err]
          refine drawS [0, 1, 2, 5, 6, 7, 3, 4, 8, 9, 10, 11, 12, 13, 14, 15, 16] (by kernel_rfl) (by kernel_rfl) ?_
          simp [Wc_seq, Wc_block, Wc_scope, Wc_skip, Wc_label, Wc_exit, Wc_ret, Wc_loop, Wc_region, Wc_cond, Nx_nil, Nx_seq, Nx_seq_exit, Nx_seq_ret, Nx_block, Nx_block_exit, Nx_block_ret, Rg_nil, Rg_cons, RgE, effA, calleeA, wantedA, enterN, ev, ofV, ofVn, putE, evalN, aBin, aInt_add, aInt_sub, aInt_mul, aInt_quo, aInt_rem, aInt_eql, aInt_neq, aInt_lss, aInt_leq, aInt_gtr, aInt_geq, aExtract, finQ_ret, resOf, extU, extEU, kq_eq, thenQ_normal, thenQ_exit, thenQ_ret, Sg_cons, Sg_nil, SgO, opA, isE, isRead, build_op2, fa39_0, fa39_3, ld26, ld3, ld_bx bx180.g, cell_bx bx180.g, wl]
          refine sgE_call (f := 17) (args := [.ptr (some (.new R.km 0)), .agg [.int .i64 6, .int .i64 0, .int .i64 0, .str pt, .str [], .str []]]) (by rfl) (by rfl) (by rfl) (by simp [fn17]) hdo194 ?_
          rintro w h195 ⟨R196, hres197, hm198, hB199⟩
          obtain ⟨nv202, rfl, nm201⟩ := hres197
          have nm203 := nm201.nmB hm198
          have km200 := hB199.hds.1.trans km175
          have bx204 := bx180.step hB199
          have bx205 := bx181.step hB199
          have bx206 := bx182.step hB199
          have bx207 := bx183.step hB199
          have bx208 := bx184.step hB199
          have bx209 := bx185.step hB199
          have bx210 := bx174.step hB199
          refine ⟨?_, ?_⟩
          · simp [stayR_cons, stayR_nil, Wc_seq, Wc_block, Wc_scope, Wc_skip, Wc_label, Wc_exit, Wc_ret, Wc_loop, Wc_region, Wc_cond, Nx_nil, Nx_seq, Nx_seq_exit, Nx_seq_ret, Nx_block, Nx_block_exit, Nx_block_ret, Rg_nil, Rg_cons, RgE, effA, calleeA, wantedA, enterN, ev, ofV, ofVn, putE, evalN, aBin, aInt_add, aInt_sub, aInt_mul, aInt_quo, aInt_rem, aInt_eql, aInt_neq, aInt_lss, aInt_leq, aInt_gtr, aInt_geq, aExtract, finQ_ret, resOf, extU, extEU, kq_eq, thenQ_normal, thenQ_exit, thenQ_ret, opA, fa39_0, fa39_3, ld26, ld3, ld_bx bx204.g, cell_bx bx204.g, ld_bx bx205.g, cell_bx bx205.g, ld_bx bx206.g, cell_bx bx206.g, ld_bx bx207.g, cell_bx bx207.g, ld_bx bx208.g, cell_bx bx208.g, ld_bx bx209.g, cell_bx bx209.g, ld_bx bx210.g, cell_bx bx210.g]
          have hdo211 := do_all W h195 R196 M156 hm198 _ hf158 (by omega) ⟨9, 0, 0, pt, [], []⟩ (show pt.length < _ by omega) (show ([] : List UInt8).length < _ by decide) (show (0 : Int) < _ by omega) (show _ ≤ (0 : Int) by omega)
          rw [hdu190] at hdo211
          simp only [opV, km200] at hdo211
          simp [Wc_seq, Wc_block, Wc_scope, Wc_skip, Wc_label, Wc_exit, Wc_ret, Wc_loop, Wc_region, Wc_cond, Nx_nil, Nx_seq, Nx_seq_exit, Nx_seq_ret, Nx_block, Nx_block_exit, Nx_block_ret, Rg_nil, Rg_cons, RgE, effA, calleeA, wantedA, enterN, ev, ofV, ofVn, putE, evalN, aBin, aInt_add, aInt_sub, aInt_mul, aInt_quo, aInt_rem, aInt_eql, aInt_neq, aInt_lss, aInt_leq, aInt_gtr, aInt_geq, aExtract, finQ_ret, resOf, extU, extEU, kq_eq, thenQ_normal, thenQ_exit, thenQ_ret, Sg_cons, Sg_nil, SgO, opA, isE, isRead, field_links, hlk187, build_op2]
          refine sgE_call (f := 17) (args := [.ptr (some (.new R.km 0)), .agg [.int .i64 9, .int .i64 0, .int .i64 0, .str pt, .str [], .str []]]) (by rfl) (by rfl) (by rfl) (by simp [fn17]) hdo211 ?_
          rintro w h212 ⟨R213, hres214, hm215, hB216⟩
          obtain ⟨nv219, rfl, nm218⟩ := hres214
          have nm220 := nm218.nmB hm215
          have km217 := hB216.hds.1.trans km200
          have bx221 := bx204.step hB216
          have bx222 := bx205.step hB216
          have bx223 := bx206.step hB216
          have bx224 := bx207.step hB216
          have bx225 := bx208.step hB216
          have bx226 := bx209.step hB216
          have bx227 := bx210.step hB216
          refine ⟨?_, ?_⟩
          · simp [stayR_cons, stayR_nil, Wc_seq, Wc_block, Wc_scope, Wc_skip, Wc_label, Wc_exit, Wc_ret, Wc_loop, Wc_region, Wc_cond, Nx_nil, Nx_seq, Nx_seq_exit, Nx_seq_ret, Nx_block, Nx_block_exit, Nx_block_ret, Rg_nil, Rg_cons, RgE, effA, calleeA, wantedA, enterN, ev, ofV, ofVn, putE, evalN, aBin, aInt_add, aInt_sub, aInt_mul, aInt_quo, aInt_rem, aInt_eql, aInt_neq, aInt_lss, aInt_leq, aInt_gtr, aInt_geq, aExtract, finQ_ret, resOf, extU, extEU, kq_eq, thenQ_normal, thenQ_exit, thenQ_ret, opA, fa39_0, fa39_3, ld26, ld3, ld_bx bx221.g, cell_bx bx221.g, ld_bx bx222.g, cell_bx bx222.g, ld_bx bx223.g, cell_bx bx223.g, ld_bx bx224.g, cell_bx bx224.g, ld_bx bx225.g, cell_bx bx225.g, ld_bx bx226.g, cell_bx bx226.g, ld_bx bx227.g, cell_bx bx227.g]
          simp [Wc_seq, Wc_block, Wc_scope, Wc_skip, Wc_label, Wc_exit, Wc_ret, Wc_loop, Wc_region, Wc_cond, Nx_nil, Nx_seq, Nx_seq_exit, Nx_seq_ret, Nx_block, Nx_block_exit, Nx_block_ret, Rg_nil, Rg_cons, RgE, effA, calleeA, wantedA, enterN, ev, ofV, ofVn, putE, evalN, aBin, aInt_add, aInt_sub, aInt_mul, aInt_quo, aInt_rem, aInt_eql, aInt_neq, aInt_lss, aInt_leq, aInt_gtr, aInt_geq, aExtract, finQ_ret, resOf, extU, extEU, kq_eq, thenQ_normal, thenQ_exit, thenQ_ret, Sg_cons, Sg_nil, SgO, opA, isE, isRead, field_e, Res.err]
          have hdo228 := do_all W h212 R213 M186 hm215 _ hf191 (by omega) ⟨6, 0, 0, pf, [], []⟩ (show pf.length < _ by omega) (show ([] : List UInt8).length < _ by decide) (show (0 : Int) < _ by omega) (show _ ≤ (0 : Int) by omega)
          rw [do_looks, sm193.s] at hdo228
          simp only [opV, km217] at hdo228
          refine drawS [0, 1, 2, 4, 3, 5, 6, 7, 8, 9, 11, 10, 12, 13, 14, 15, 16, 17, 19, 18, 20, 21, 22, 23, 24, 25] (by kernel_rfl) (by kernel_rfl) ?_
          simp [Wc_seq, Wc_block, Wc_scope, Wc_skip, Wc_label, Wc_exit, Wc_ret, Wc_loop, Wc_region, Wc_cond, Nx_nil, Nx_seq, Nx_seq_exit, Nx_seq_ret, Nx_block, Nx_block_exit, Nx_block_ret, Rg_nil, Rg_cons, RgE, effA, calleeA, wantedA, enterN, ev, ofV, ofVn, putE, evalN, aBin, aInt_add, aInt_sub, aInt_mul, aInt_quo, aInt_rem, aInt_eql, aInt_neq, aInt_lss, aInt_leq, aInt_gtr, aInt_geq, aExtract, finQ_ret, resOf, extU, extEU, kq_eq, thenQ_normal, thenQ_exit, thenQ_ret, Sg_cons, Sg_nil, SgO, opA, isE, isRead, build_op2, ld_bx bx221.g, cell_bx bx221.g]
          refine sgE_call (f := 17) (args := [.ptr (some (.new R.km 0)), .agg [.int .i64 6, .int .i64 0, .int .i64 0, .str pf, .str [], .str []]]) (by rfl) (by rfl) (by rfl) (by simp [fn17]) hdo228 ?_
          rintro w h229 ⟨R230, hres231, hm232, hB233⟩
          obtain ⟨nv236, rfl, nm235⟩ := hres231
          have nm237 := nm235.nmB hm232
          have km234 := hB233.hds.1.trans km217
          have bx238 := bx221.step hB233
          have bx239 := bx222.step hB233
          have bx240 := bx223.step hB233
          have bx241 := bx224.step hB233
          have bx242 := bx225.step hB233
          have bx243 := bx226.step hB233
          have bx244 := bx227.step hB233
          refine ⟨?_, ?_⟩
          · simp [stayR_cons, stayR_nil, Wc_seq, Wc_block, Wc_scope, Wc_skip, Wc_label, Wc_exit, Wc_ret, Wc_loop, Wc_region, Wc_cond, Nx_nil, Nx_seq, Nx_seq_exit, Nx_seq_ret, Nx_block, Nx_block_exit, Nx_block_ret, Rg_nil, Rg_cons, RgE, effA, calleeA, wantedA, enterN, ev, ofV, ofVn, putE, evalN, aBin, aInt_add, aInt_sub, aInt_mul, aInt_quo, aInt_rem, aInt_eql, aInt_neq, aInt_lss, aInt_leq, aInt_gtr, aInt_geq, aExtract, finQ_ret, resOf, extU, extEU, kq_eq, thenQ_normal, thenQ_exit, thenQ_ret, opA, fa39_0, fa39_3, ld26, ld3, ld_bx bx238.g, cell_bx bx238.g, ld_bx bx239.g, cell_bx bx239.g, ld_bx bx240.g, cell_bx bx240.g, ld_bx bx241.g, cell_bx bx241.g, ld_bx bx242.g, cell_bx bx242.g, ld_bx bx243.g, cell_bx bx243.g, ld_bx bx244.g, cell_bx bx244.g]
          simp [Wc_seq, Wc_block, Wc_scope, Wc_skip, Wc_label, Wc_exit, Wc_ret, Wc_loop, Wc_region, Wc_cond, Nx_nil, Nx_seq, Nx_seq_exit, Nx_seq_ret, Nx_block, Nx_block_exit, Nx_block_ret, Rg_nil, Rg_cons, RgE, effA, calleeA, wantedA, enterN, ev, ofV, ofVn, putE, evalN, aBin, aInt_add, aInt_sub, aInt_mul, aInt_quo, aInt_rem, aInt_eql, aInt_neq, aInt_lss, aInt_leq, aInt_gtr, aInt_geq, aExtract, finQ_ret, resOf, extU, extEU, kq_eq, thenQ_normal, thenQ_exit, thenQ_ret, Sg_cons, Sg_nil, SgO, opA, isE, isRead]
          refine sgE_call (f := 16) (args := [.agg (res6 ((lookS M pf)).e ((lookS M pf)).data ((lookS M pf)).kind ((lookS M pf)).links ((lookS M pf)).size nv236), .agg (res6 ((lookS M pf)).e ((lookS M pf)).data ((lookS M pf)).kind ((lookS M pf)).links ((lookS M pf)).size (.sl x17 x18 x19 x20))]) (by rfl) (by rfl) (by rfl) (by simp [fn16]) (result_ret W h229 ((lookS M pf)) _ _ nm237.strS bx238.nm.strS hsh1) ?_
          rintro w h245 ⟨rfl, hk246⟩
          have hm247 := hm232.keeps hk246
          have hB248 : MStep h229 h245 R230 R230 := MStep.refl hk246
          have bx249 := bx238.step hB248
          have bx250 := bx239.step hB248
          have bx251 := bx240.step hB248
          have bx252 := bx241.step hB248
          have bx253 := bx242.step hB248
          have bx254 := bx243.step hB248
          have bx255 := bx244.step hB248
          refine ⟨?_, ?_⟩
          · simp [stayR_cons, stayR_nil, Wc_seq, Wc_block, Wc_scope, Wc_skip, Wc_label, Wc_exit, Wc_ret, Wc_loop, Wc_region, Wc_cond, Nx_nil, Nx_seq, Nx_seq_exit, Nx_seq_ret, Nx_block, Nx_block_exit, Nx_block_ret, Rg_nil, Rg_cons, RgE, effA, calleeA, wantedA, enterN, ev, ofV, ofVn, putE, evalN, aBin, aInt_add, aInt_sub, aInt_mul, aInt_quo, aInt_rem, aInt_eql, aInt_neq, aInt_lss, aInt_leq, aInt_gtr, aInt_geq, aExtract, finQ_ret, resOf, extU, extEU, kq_eq, thenQ_normal, thenQ_exit, thenQ_ret, opA, fa39_0, fa39_3, ld26, ld3, ld_bx bx249.g, cell_bx bx249.g, ld_bx bx250.g, cell_bx bx250.g, ld_bx bx251.g, cell_bx bx251.g, ld_bx bx252.g, cell_bx bx252.g, ld_bx bx253.g, cell_bx bx253.g, ld_bx bx254.g, cell_bx bx254.g, ld_bx bx255.g, cell_bx bx255.g]
          have hdo256 := do_all W h245 R230 M186 hm247 _ hf191 (by omega) ⟨7, 0, 0, pf, [], []⟩ (show pf.length < _ by omega) (show ([] : List UInt8).length < _ by decide) (show (0 : Int) < _ by omega) (show _ ≤ (0 : Int) by omega)
          rw [do_lookl, sm193.l] at hdo256
          simp only [opV, km234] at hdo256
          simp [Wc_seq, Wc_block, Wc_scope, Wc_skip, Wc_label, Wc_exit, Wc_ret, Wc_loop, Wc_region, Wc_cond, Nx_nil, Nx_seq, Nx_seq_exit, Nx_seq_ret, Nx_block, Nx_block_exit, Nx_block_ret, Rg_nil, Rg_cons, RgE, effA, calleeA, wantedA, enterN, ev, ofV, ofVn, putE, evalN, aBin, aInt_add, aInt_sub, aInt_mul, aInt_quo, aInt_rem, aInt_eql, aInt_neq, aInt_lss, aInt_leq, aInt_gtr, aInt_geq, aExtract, finQ_ret, resOf, extU, extEU, kq_eq, thenQ_normal, thenQ_exit, thenQ_ret, Sg_cons, Sg_nil, SgO, opA, isE, isRead, build_op2, ld_bx bx250.g, cell_bx bx250.g]
          refine sgE_call (f := 17) (args := [.ptr (some (.new R.km 0)), .agg [.int .i64 7, .int .i64 0, .int .i64 0, .str pf, .str [], .str []]]) (by rfl) (by rfl) (by rfl) (by simp [fn17]) hdo256 ?_
          rintro w h257 ⟨R258, hres259, hm260, hB261⟩
          obtain ⟨nv264, rfl, nm263⟩ := hres259
          have nm265 := nm263.nmB hm260
          have km262 := hB261.hds.1.trans km234
          have bx266 := bx249.step hB261
          have bx267 := bx250.step hB261
          have bx268 := bx251.step hB261
          have bx269 := bx252.step hB261
          have bx270 := bx253.step hB261
          have bx271 := bx254.step hB261
          have bx272 := bx255.step hB261
          refine ⟨?_, ?_⟩
          · simp [stayR_cons, stayR_nil, Wc_seq, Wc_block, Wc_scope, Wc_skip, Wc_label, Wc_exit, Wc_ret, Wc_loop, Wc_region, Wc_cond, Nx_nil, Nx_seq, Nx_seq_exit, Nx_seq_ret, Nx_block, Nx_block_exit, Nx_block_ret, Rg_nil, Rg_cons, RgE, effA, calleeA, wantedA, enterN, ev, ofV, ofVn, putE, evalN, aBin, aInt_add, aInt_sub, aInt_mul, aInt_quo, aInt_rem, aInt_eql, aInt_neq, aInt_lss, aInt_leq, aInt_gtr, aInt_geq, aExtract, finQ_ret, resOf, extU, extEU, kq_eq, thenQ_normal, thenQ_exit, thenQ_ret, opA, fa39_0, fa39_3, ld26, ld3, ld_bx bx266.g, cell_bx bx266.g, ld_bx bx267.g, cell_bx bx267.g, ld_bx bx268.g, cell_bx bx268.g, ld_bx bx269.g, cell_bx bx269.g, ld_bx bx270.g, cell_bx bx270.g, ld_bx bx271.g, cell_bx bx271.g, ld_bx bx272.g, cell_bx bx272.g]
          simp [Wc_seq, Wc_block, Wc_scope, Wc_skip, Wc_label, Wc_exit, Wc_ret, Wc_loop, Wc_region, Wc_cond, Nx_nil, Nx_seq, Nx_seq_exit, Nx_seq_ret, Nx_block, Nx_block_exit, Nx_block_ret, Rg_nil, Rg_cons, RgE, effA, calleeA, wantedA, enterN, ev, ofV, ofVn, putE, evalN, aBin, aInt_add, aInt_sub, aInt_mul, aInt_quo, aInt_rem, aInt_eql, aInt_neq, aInt_lss, aInt_leq, aInt_gtr, aInt_geq, aExtract, finQ_ret, resOf, extU, extEU, kq_eq, thenQ_normal, thenQ_exit, thenQ_ret, Sg_cons, Sg_nil, SgO, opA, isE, isRead]
          refine sgE_call (f := 16) (args := [.agg (res6 ((lookL M pf)).e ((lookL M pf)).data ((lookL M pf)).kind ((lookL M pf)).links ((lookL M pf)).size nv264), .agg (res6 ((lookL M pf)).e ((lookL M pf)).data ((lookL M pf)).kind ((lookL M pf)).links ((lookL M pf)).size (.sl x36 x37 x38 x39))]) (by rfl) (by rfl) (by rfl) (by simp [fn16]) (result_ret W h257 ((lookL M pf)) _ _ nm265.strS bx267.nm.strS hsh2) ?_
          rintro w h273 ⟨rfl, hk274⟩
          have hm275 := hm260.keeps hk274
          have hB276 : MStep h257 h273 R258 R258 := MStep.refl hk274
          have bx277 := bx266.step hB276
          have bx278 := bx267.step hB276
          have bx279 := bx268.step hB276
          have bx280 := bx269.step hB276
          have bx281 := bx270.step hB276
          have bx282 := bx271.step hB276
          have bx283 := bx272.step hB276
          refine ⟨?_, ?_⟩
          · simp [stayR_cons, stayR_nil, Wc_seq, Wc_block, Wc_scope, Wc_skip, Wc_label, Wc_exit, Wc_ret, Wc_loop, Wc_region, Wc_cond, Nx_nil, Nx_seq, Nx_seq_exit, Nx_seq_ret, Nx_block, Nx_block_exit, Nx_block_ret, Rg_nil, Rg_cons, RgE, effA, calleeA, wantedA, enterN, ev, ofV, ofVn, putE, evalN, aBin, aInt_add, aInt_sub, aInt_mul, aInt_quo, aInt_rem, aInt_eql, aInt_neq, aInt_lss, aInt_leq, aInt_gtr, aInt_geq, aExtract, finQ_ret, resOf, extU, extEU, kq_eq, thenQ_normal, thenQ_exit, thenQ_ret, opA, fa39_0, fa39_3, ld26, ld3, ld_bx bx277.g, cell_bx bx277.g, ld_bx bx278.g, cell_bx bx278.g, ld_bx bx279.g, cell_bx bx279.g, ld_bx bx280.g, cell_bx bx280.g, ld_bx bx281.g, cell_bx bx281.g, ld_bx bx282.g, cell_bx bx282.g, ld_bx bx283.g, cell_bx bx283.g]
          have hdo284 := do_all W h273 R258 M186 hm275 _ hf191 (by omega) ⟨5, 0, 1024, pf, [], []⟩ (show pf.length < _ by omega) (show ([] : List UInt8).length < _ by decide) (show (0 : Int) < _ by omega) (show _ ≤ (0 : Int) by omega)
          rw [do_lookd, sm193.d] at hdo284
          simp only [opV, km262] at hdo284
          simp [Wc_seq, Wc_block, Wc_scope, Wc_skip, Wc_label, Wc_exit, Wc_ret, Wc_loop, Wc_region, Wc_cond, Nx_nil, Nx_seq, Nx_seq_exit, Nx_seq_ret, Nx_block, Nx_block_exit, Nx_block_ret, Rg_nil, Rg_cons, RgE, effA, calleeA, wantedA, enterN, ev, ofV, ofVn, putE, evalN, aBin, aInt_add, aInt_sub, aInt_mul, aInt_quo, aInt_rem, aInt_eql, aInt_neq, aInt_lss, aInt_leq, aInt_gtr, aInt_geq, aExtract, finQ_ret, resOf, extU, extEU, kq_eq, thenQ_normal, thenQ_exit, thenQ_ret, Sg_cons, Sg_nil, SgO, opA, isE, isRead, build_opR, ld_bx bx279.g, cell_bx bx279.g]
          refine sgE_call (f := 17) (args := [.ptr (some (.new R.km 0)), .agg [.int .i64 5, .int .i64 0, .int .i64 1024, .str pf, .str [], .str []]]) (by rfl) (by rfl) (by rfl) (by simp [fn17]) hdo284 ?_
          rintro w h285 ⟨R286, hres287, hm288, hB289⟩
          obtain ⟨nv292, rfl, nm291⟩ := hres287
          have nm293 := nm291.nmB hm288
          have km290 := hB289.hds.1.trans km262
          have bx294 := bx277.step hB289
          have bx295 := bx278.step hB289
          have bx296 := bx279.step hB289
          have bx297 := bx280.step hB289
          have bx298 := bx281.step hB289
          have bx299 := bx282.step hB289
          have bx300 := bx283.step hB289
          refine ⟨?_, ?_⟩
          · simp [stayR_cons, stayR_nil, Wc_seq, Wc_block, Wc_scope, Wc_skip, Wc_label, Wc_exit, Wc_ret, Wc_loop, Wc_region, Wc_cond, Nx_nil, Nx_seq, Nx_seq_exit, Nx_seq_ret, Nx_block, Nx_block_exit, Nx_block_ret, Rg_nil, Rg_cons, RgE, effA, calleeA, wantedA, enterN, ev, ofV, ofVn, putE, evalN, aBin, aInt_add, aInt_sub, aInt_mul, aInt_quo, aInt_rem, aInt_eql, aInt_neq, aInt_lss, aInt_leq, aInt_gtr, aInt_geq, aExtract, finQ_ret, resOf, extU, extEU, kq_eq, thenQ_normal, thenQ_exit, thenQ_ret, opA, fa39_0, fa39_3, ld26, ld3, ld_bx bx294.g, cell_bx bx294.g, ld_bx bx295.g, cell_bx bx295.g, ld_bx bx296.g, cell_bx bx296.g, ld_bx bx297.g, cell_bx bx297.g, ld_bx bx298.g, cell_bx bx298.g, ld_bx bx299.g, cell_bx bx299.g, ld_bx bx300.g, cell_bx bx300.g]
          simp [Wc_seq, Wc_block, Wc_scope, Wc_skip, Wc_label, Wc_exit, Wc_ret, Wc_loop, Wc_region, Wc_cond, Nx_nil, Nx_seq, Nx_seq_exit, Nx_seq_ret, Nx_block, Nx_block_exit, Nx_block_ret, Rg_nil, Rg_cons, RgE, effA, calleeA, wantedA, enterN, ev, ofV, ofVn, putE, evalN, aBin, aInt_add, aInt_sub, aInt_mul, aInt_quo, aInt_rem, aInt_eql, aInt_neq, aInt_lss, aInt_leq, aInt_gtr, aInt_geq, aExtract, finQ_ret, resOf, extU, extEU, kq_eq, thenQ_normal, thenQ_exit, thenQ_ret, Sg_cons, Sg_nil, SgO, opA, isE, isRead]
          refine sgE_call (f := 16) (args := [.agg (res6 ((lookD M pf)).e ((lookD M pf)).data ((lookD M pf)).kind ((lookD M pf)).links ((lookD M pf)).size nv292), .agg (res6 ((lookD M pf)).e ((lookD M pf)).data ((lookD M pf)).kind ((lookD M pf)).links ((lookD M pf)).size (.sl x56 x57 x58 x59))]) (by rfl) (by rfl) (by rfl) (by simp [fn16]) (result_ret W h285 ((lookD M pf)) _ _ nm293.strS bx296.nm.strS hsh3) ?_
          rintro w h301 ⟨rfl, hk302⟩
          have hm303 := hm288.keeps hk302
          have hB304 : MStep h285 h301 R286 R286 := MStep.refl hk302
          have bx305 := bx294.step hB304
          have bx306 := bx295.step hB304
          have bx307 := bx296.step hB304
          have bx308 := bx297.step hB304
          have bx309 := bx298.step hB304
          have bx310 := bx299.step hB304
          have bx311 := bx300.step hB304
          refine ⟨?_, ?_⟩
          · simp [stayR_cons, stayR_nil, Wc_seq, Wc_block, Wc_scope, Wc_skip, Wc_label, Wc_exit, Wc_ret, Wc_loop, Wc_region, Wc_cond, Nx_nil, Nx_seq, Nx_seq_exit, Nx_seq_ret, Nx_block, Nx_block_exit, Nx_block_ret, Rg_nil, Rg_cons, RgE, effA, calleeA, wantedA, enterN, ev, ofV, ofVn, putE, evalN, aBin, aInt_add, aInt_sub, aInt_mul, aInt_quo, aInt_rem, aInt_eql, aInt_neq, aInt_lss, aInt_leq, aInt_gtr, aInt_geq, aExtract, finQ_ret, resOf, extU, extEU, kq_eq, thenQ_normal, thenQ_exit, thenQ_ret, opA, fa39_0, fa39_3, ld26, ld3, ld_bx bx305.g, cell_bx bx305.g, ld_bx bx306.g, cell_bx bx306.g, ld_bx bx307.g, cell_bx bx307.g, ld_bx bx308.g, cell_bx bx308.g, ld_bx bx309.g, cell_bx bx309.g, ld_bx bx310.g, cell_bx bx310.g, ld_bx bx311.g, cell_bx bx311.g]
          simp [Wc_seq, Wc_block, Wc_scope, Wc_skip, Wc_label, Wc_exit, Wc_ret, Wc_loop, Wc_region, Wc_cond, Nx_nil, Nx_seq, Nx_seq_exit, Nx_seq_ret, Nx_block, Nx_block_exit, Nx_block_ret, Rg_nil, Rg_cons, RgE, effA, calleeA, wantedA, enterN, ev, ofV, ofVn, putE, evalN, aBin, aInt_add, aInt_sub, aInt_mul, aInt_quo, aInt_rem, aInt_eql, aInt_neq, aInt_lss, aInt_leq, aInt_gtr, aInt_geq, aExtract, finQ_ret, resOf, extU, extEU, kq_eq, thenQ_normal, thenQ_exit, thenQ_ret, Sg_cons, Sg_nil, SgO, opA, isE, isRead]
          refine sgE_call (f := 15) (args := []) (by rfl) (by rfl) (by rfl) (by simp [fn15]) (speaks_ret W _) ?_
          rintro w hZ ⟨rfl, rfl⟩
          refine ⟨?_, ?_⟩
          · simp [stayR_cons, stayR_nil, Wc_seq, Wc_block, Wc_scope, Wc_skip, Wc_label, Wc_exit, Wc_ret, Wc_loop, Wc_region, Wc_cond, Nx_nil, Nx_seq, Nx_seq_exit, Nx_seq_ret, Nx_block, Nx_block_exit, Nx_block_ret, Rg_nil, Rg_cons, RgE, effA, calleeA, wantedA, enterN, ev, ofV, ofVn, putE, evalN, aBin, aInt_add, aInt_sub, aInt_mul, aInt_quo, aInt_rem, aInt_eql, aInt_neq, aInt_lss, aInt_leq, aInt_gtr, aInt_geq, aExtract, finQ_ret, resOf, extU, extEU, kq_eq, thenQ_normal, thenQ_exit, thenQ_ret, opA, fa39_0, fa39_3, ld26, ld3, ld_bx bx305.g, cell_bx bx305.g, ld_bx bx306.g, cell_bx bx306.g, ld_bx bx307.g, cell_bx bx307.g, ld_bx bx308.g, cell_bx bx308.g, ld_bx bx309.g, cell_bx bx309.g, ld_bx bx310.g, cell_bx bx310.g, ld_bx bx311.g, cell_bx bx311.g]
          · simp [Wc_seq, Wc_block, Wc_scope, Wc_skip, Wc_label, Wc_exit, Wc_ret, Wc_loop, Wc_region, Wc_cond, Nx_nil, Nx_seq, Nx_seq_exit, Nx_seq_ret, Nx_block, Nx_block_exit, Nx_block_ret, Rg_nil, Rg_cons, RgE, effA, calleeA, wantedA, enterN, ev, ofV, ofVn, putE, evalN, aBin, aInt_add, aInt_sub, aInt_mul, aInt_quo, aInt_rem, aInt_eql, aInt_neq, aInt_lss, aInt_leq, aInt_gtr, aInt_geq, aExtract, finQ_ret, resOf, extU, extEU, kq_eq, thenQ_normal, thenQ_exit, thenQ_ret, Sg_cons, Sg_nil, SgO, opA, isE, isRead]
        · have hMM := (hne159 hb0).symm
          subst hMM
          have hbb : (eb155 == 0) = false := by simpa using hb0
          have hdo312 := do_all W h169 R163 M2 hm172 _ hf158 (by omega) ⟨6, 0, 0, pf, [], []⟩ (show pf.length < _ by omega) (show ([] : List UInt8).length < _ by decide) (show (0 : Int) < _ by omega) (show _ ≤ (0 : Int) by omega)
          rw [do_looks, sm0.s] at hdo312
          simp only [opV, km175] at hdo312
          simp [Wc_seq, Wc_block, Wc_scope, Wc_skip, Wc_label, Wc_exit, Wc_ret, Wc_loop, Wc_region, Wc_cond, Nx_nil, Nx_seq, Nx_seq_exit, Nx_seq_ret, Nx_block, Nx_block_exit, Nx_block_ret, Rg_nil, Rg_cons, RgE, effA, calleeA, wantedA, enterN, ev, ofV, ofVn, putE, evalN, aBin, aInt_add, aInt_sub, aInt_mul, aInt_quo, aInt_rem, aInt_eql, aInt_neq, aInt_lss, aInt_leq, aInt_gtr, aInt_geq, aExtract, finQ_ret, resOf, extU, extEU, kq_eq, thenQ_normal, thenQ_exit, thenQ_ret, al170, st171, fa39_0, fa39_3, ld26, ld3, ld_bx bx174.g, cell_bx bx174.g, Res.err, hb0, hbb, build_op2]
          refine drawS [0, 1, 2, 4, 3, 5, 6, 7, 8, 9, 11, 10, 12, 13, 14, 15, 16, 17, 19, 18, 20, 21, 22, 23, 24, 25] (by kernel_rfl) (by kernel_rfl) ?_
          simp [Wc_seq, Wc_block, Wc_scope, Wc_skip, Wc_label, Wc_exit, Wc_ret, Wc_loop, Wc_region, Wc_cond, Nx_nil, Nx_seq, Nx_seq_exit, Nx_seq_ret, Nx_block, Nx_block_exit, Nx_block_ret, Rg_nil, Rg_cons, RgE, effA, calleeA, wantedA, enterN, ev, ofV, ofVn, putE, evalN, aBin, aInt_add, aInt_sub, aInt_mul, aInt_quo, aInt_rem, aInt_eql, aInt_neq, aInt_lss, aInt_leq, aInt_gtr, aInt_geq, aExtract, finQ_ret, resOf, extU, extEU, kq_eq, thenQ_normal, thenQ_exit, thenQ_ret, Sg_cons, Sg_nil, SgO, opA, isE, isRead, build_op2, ld_bx bx180.g, cell_bx bx180.g]
          refine sgE_call (f := 17) (args := [.ptr (some (.new R.km 0)), .agg [.int .i64 6, .int .i64 0, .int .i64 0, .str pf, .str [], .str []]]) (by rfl) (by rfl) (by rfl) (by simp [fn17]) hdo312 ?_
          rintro w h313 ⟨R314, hres315, hm316, hB317⟩
          obtain ⟨nv320, rfl, nm319⟩ := hres315
          have nm321 := nm319.nmB hm316
          have km318 := hB317.hds.1.trans km175
          have bx322 := bx180.step hB317
          have bx323 := bx181.step hB317
          have bx324 := bx182.step hB317
          have bx325 := bx183.step hB317
          have bx326 := bx184.step hB317
          have bx327 := bx185.step hB317
          have bx328 := bx174.step hB317
          refine ⟨?_, ?_⟩
          · simp [stayR_cons, stayR_nil, Wc_seq, Wc_block, Wc_scope, Wc_skip, Wc_label, Wc_exit, Wc_ret, Wc_loop, Wc_region, Wc_cond, Nx_nil, Nx_seq, Nx_seq_exit, Nx_seq_ret, Nx_block, Nx_block_exit, Nx_block_ret, Rg_nil, Rg_cons, RgE, effA, calleeA, wantedA, enterN, ev, ofV, ofVn, putE, evalN, aBin, aInt_add, aInt_sub, aInt_mul, aInt_quo, aInt_rem, aInt_eql, aInt_neq, aInt_lss, aInt_leq, aInt_gtr, aInt_geq, aExtract, finQ_ret, resOf, extU, extEU, kq_eq, thenQ_normal, thenQ_exit, thenQ_ret, opA, fa39_0, fa39_3, ld26, ld3, ld_bx bx322.g, cell_bx bx322.g, ld_bx bx323.g, cell_bx bx323.g, ld_bx bx324.g, cell_bx bx324.g, ld_bx bx325.g, cell_bx bx325.g, ld_bx bx326.g, cell_bx bx326.g, ld_bx bx327.g, cell_bx bx327.g, ld_bx bx328.g, cell_bx bx328.g]
          simp [Wc_seq, Wc_block, Wc_scope, Wc_skip, Wc_label, Wc_exit, Wc_ret, Wc_loop, Wc_region, Wc_cond, Nx_nil, Nx_seq, Nx_seq_exit, Nx_seq_ret, Nx_block, Nx_block_exit, Nx_block_ret, Rg_nil, Rg_cons, RgE, effA, calleeA, wantedA, enterN, ev, ofV, ofVn, putE, evalN, aBin, aInt_add, aInt_sub, aInt_mul, aInt_quo, aInt_rem, aInt_eql, aInt_neq, aInt_lss, aInt_leq, aInt_gtr, aInt_geq, aExtract, finQ_ret, resOf, extU, extEU, kq_eq, thenQ_normal, thenQ_exit, thenQ_ret, Sg_cons, Sg_nil, SgO, opA, isE, isRead]
          refine sgE_call (f := 16) (args := [.agg (res6 ((lookS M pf)).e ((lookS M pf)).data ((lookS M pf)).kind ((lookS M pf)).links ((lookS M pf)).size nv320), .agg (res6 ((lookS M pf)).e ((lookS M pf)).data ((lookS M pf)).kind ((lookS M pf)).links ((lookS M pf)).size (.sl x17 x18 x19 x20))]) (by rfl) (by rfl) (by rfl) (by simp [fn16]) (result_ret W h313 ((lookS M pf)) _ _ nm321.strS bx322.nm.strS hsh1) ?_
          rintro w h329 ⟨rfl, hk330⟩
          have hm331 := hm316.keeps hk330
          have hB332 : MStep h313 h329 R314 R314 := MStep.refl hk330
          have bx333 := bx322.step hB332
          have bx334 := bx323.step hB332
          have bx335 := bx324.step hB332
          have bx336 := bx325.step hB332
          have bx337 := bx326.step hB332
          have bx338 := bx327.step hB332
          have bx339 := bx328.step hB332
          refine ⟨?_, ?_⟩
          · simp [stayR_cons, stayR_nil, Wc_seq, Wc_block, Wc_scope, Wc_skip, Wc_label, Wc_exit, Wc_ret, Wc_loop, Wc_region, Wc_cond, Nx_nil, Nx_seq, Nx_seq_exit, Nx_seq_ret, Nx_block, Nx_block_exit, Nx_block_ret, Rg_nil, Rg_cons, RgE, effA, calleeA, wantedA, enterN, ev, ofV, ofVn, putE, evalN, aBin, aInt_add, aInt_sub, aInt_mul, aInt_quo, aInt_rem, aInt_eql, aInt_neq, aInt_lss, aInt_leq, aInt_gtr, aInt_geq, aExtract, finQ_ret, resOf, extU, extEU, kq_eq, thenQ_normal, thenQ_exit, thenQ_ret, opA, fa39_0, fa39_3, ld26, ld3, ld_bx bx333.g, cell_bx bx333.g, ld_bx bx334.g, cell_bx bx334.g, ld_bx bx335.g, cell_bx bx335.g, ld_bx bx336.g, cell_bx bx336.g, ld_bx bx337.g, cell_bx bx337.g, ld_bx bx338.g, cell_bx bx338.g, ld_bx bx339.g, cell_bx bx339.g]
          have hdo340 := do_all W h329 R314 M2 hm331 _ hf158 (by omega) ⟨7, 0, 0, pf, [], []⟩ (show pf.length < _ by omega) (show ([] : List UInt8).length < _ by decide) (show (0 : Int) < _ by omega) (show _ ≤ (0 : Int) by omega)
          rw [do_lookl, sm0.l] at hdo340
          simp only [opV, km318] at hdo340
          simp [Wc_seq, Wc_block, Wc_scope, Wc_skip, Wc_label, Wc_exit, Wc_ret, Wc_loop, Wc_region, Wc_cond, Nx_nil, Nx_seq, Nx_seq_exit, Nx_seq_ret, Nx_block, Nx_block_exit, Nx_block_ret, Rg_nil, Rg_cons, RgE, effA, calleeA, wantedA, enterN, ev, ofV, ofVn, putE, evalN, aBin, aInt_add, aInt_sub, aInt_mul, aInt_quo, aInt_rem, aInt_eql, aInt_neq, aInt_lss, aInt_leq, aInt_gtr, aInt_geq, aExtract, finQ_ret, resOf, extU, extEU, kq_eq, thenQ_normal, thenQ_exit, thenQ_ret, Sg_cons, Sg_nil, SgO, opA, isE, isRead, build_op2, ld_bx bx334.g, cell_bx bx334.g]
          refine sgE_call (f := 17) (args := [.ptr (some (.new R.km 0)), .agg [.int .i64 7, .int .i64 0, .int .i64 0, .str pf, .str [], .str []]]) (by rfl) (by rfl) (by rfl) (by simp [fn17]) hdo340 ?_
          rintro w h341 ⟨R342, hres343, hm344, hB345⟩
          obtain ⟨nv348, rfl, nm347⟩ := hres343
          have nm349 := nm347.nmB hm344
          have km346 := hB345.hds.1.trans km318
          have bx350 := bx333.step hB345
          have bx351 := bx334.step hB345
          have bx352 := bx335.step hB345
          have bx353 := bx336.step hB345
          have bx354 := bx337.step hB345
          have bx355 := bx338.step hB345
          have bx356 := bx339.step hB345
          refine ⟨?_, ?_⟩
          · simp [stayR_cons, stayR_nil, Wc_seq, Wc_block, Wc_scope, Wc_skip, Wc_label, Wc_exit, Wc_ret, Wc_loop, Wc_region, Wc_cond, Nx_nil, Nx_seq, Nx_seq_exit, Nx_seq_ret, Nx_block, Nx_block_exit, Nx_block_ret, Rg_nil, Rg_cons, RgE, effA, calleeA, wantedA, enterN, ev, ofV, ofVn, putE, evalN, aBin, aInt_add, aInt_sub, aInt_mul, aInt_quo, aInt_rem, aInt_eql, aInt_neq, aInt_lss, aInt_leq, aInt_gtr, aInt_geq, aExtract, finQ_ret, resOf, extU, extEU, kq_eq, thenQ_normal, thenQ_exit, thenQ_ret, opA, fa39_0, fa39_3, ld26, ld3, ld_bx bx350.g, cell_bx bx350.g, ld_bx bx351.g, cell_bx bx351.g, ld_bx bx352.g, cell_bx bx352.g, ld_bx bx353.g, cell_bx bx353.g, ld_bx bx354.g, cell_bx bx354.g, ld_bx bx355.g, cell_bx bx355.g, ld_bx bx356.g, cell_bx bx356.g]
          simp [Wc_seq, Wc_block, Wc_scope, Wc_skip, Wc_label, Wc_exit, Wc_ret, Wc_loop, Wc_region, Wc_cond, Nx_nil, Nx_seq, Nx_seq_exit, Nx_seq_ret, Nx_block, Nx_block_exit, Nx_block_ret, Rg_nil, Rg_cons, RgE, effA, calleeA, wantedA, enterN, ev, ofV, ofVn, putE, evalN, aBin, aInt_add, aInt_sub, aInt_mul, aInt_quo, aInt_rem, aInt_eql, aInt_neq, aInt_lss, aInt_leq, aInt_gtr, aInt_geq, aExtract, finQ_ret, resOf, extU, extEU, kq_eq, thenQ_normal, thenQ_exit, thenQ_ret, Sg_cons, Sg_nil, SgO, opA, isE, isRead]
          refine sgE_call (f := 16) (args := [.agg (res6 ((lookL M pf)).e ((lookL M pf)).data ((lookL M pf)).kind ((lookL M pf)).links ((lookL M pf)).size nv348), .agg (res6 ((lookL M pf)).e ((lookL M pf)).data ((lookL M pf)).kind ((lookL M pf)).links ((lookL M pf)).size (.sl x36 x37 x38 x39))]) (by rfl) (by rfl) (by rfl) (by simp [fn16]) (result_ret W h341 ((lookL M pf)) _ _ nm349.strS bx351.nm.strS hsh2) ?_
          rintro w h357 ⟨rfl, hk358⟩
          have hm359 := hm344.keeps hk358
          have hB360 : MStep h341 h357 R342 R342 := MStep.refl hk358
          have bx361 := bx350.step hB360
          have bx362 := bx351.step hB360
          have bx363 := bx352.step hB360
          have bx364 := bx353.step hB360
          have bx365 := bx354.step hB360
          have bx366 := bx355.step hB360
          have bx367 := bx356.step hB360
          refine ⟨?_, ?_⟩
          · simp [stayR_cons, stayR_nil, Wc_seq, Wc_block, Wc_scope, Wc_skip, Wc_label, Wc_exit, Wc_ret, Wc_loop, Wc_region, Wc_cond, Nx_nil, Nx_seq, Nx_seq_exit, Nx_seq_ret, Nx_block, Nx_block_exit, Nx_block_ret, Rg_nil, Rg_cons, RgE, effA, calleeA, wantedA, enterN, ev, ofV, ofVn, putE, evalN, aBin, aInt_add, aInt_sub, aInt_mul, aInt_quo, aInt_rem, aInt_eql, aInt_neq, aInt_lss, aInt_leq, aInt_gtr, aInt_geq, aExtract, finQ_ret, resOf, extU, extEU, kq_eq, thenQ_normal, thenQ_exit, thenQ_ret, opA, fa39_0, fa39_3, ld26, ld3, ld_bx bx361.g, cell_bx bx361.g, ld_bx bx362.g, cell_bx bx362.g, ld_bx bx363.g, cell_bx bx363.g, ld_bx bx364.g, cell_bx bx364.g, ld_bx bx365.g, cell_bx bx365.g, ld_bx bx366.g, cell_bx bx366.g, ld_bx bx367.g, cell_bx bx367.g]
          have hdo368 := do_all W h357 R342 M2 hm359 _ hf158 (by omega) ⟨5, 0, 1024, pf, [], []⟩ (show pf.length < _ by omega) (show ([] : List UInt8).length < _ by decide) (show (0 : Int) < _ by omega) (show _ ≤ (0 : Int) by omega)
          rw [do_lookd, sm0.d] at hdo368
          simp only [opV, km346] at hdo368
          simp [Wc_seq, Wc_block, Wc_scope, Wc_skip, Wc_label, Wc_exit, Wc_ret, Wc_loop, Wc_region, Wc_cond, Nx_nil, Nx_seq, Nx_seq_exit, Nx_seq_ret, Nx_block, Nx_block_exit, Nx_block_ret, Rg_nil, Rg_cons, RgE, effA, calleeA, wantedA, enterN, ev, ofV, ofVn, putE, evalN, aBin, aInt_add, aInt_sub, aInt_mul, aInt_quo, aInt_rem, aInt_eql, aInt_neq, aInt_lss, aInt_leq, aInt_gtr, aInt_geq, aExtract, finQ_ret, resOf, extU, extEU, kq_eq, thenQ_normal, thenQ_exit, thenQ_ret, Sg_cons, Sg_nil, SgO, opA, isE, isRead, build_opR, ld_bx bx363.g, cell_bx bx363.g]
          refine sgE_call (f := 17) (args := [.ptr (some (.new R.km 0)), .agg [.int .i64 5, .int .i64 0, .int .i64 1024, .str pf, .str [], .str []]]) (by rfl) (by rfl) (by rfl) (by simp [fn17]) hdo368 ?_
          rintro w h369 ⟨R370, hres371, hm372, hB373⟩
          obtain ⟨nv376, rfl, nm375⟩ := hres371
          have nm377 := nm375.nmB hm372
          have km374 := hB373.hds.1.trans km346
          have bx378 := bx361.step hB373
          have bx379 := bx362.step hB373
          have bx380 := bx363.step hB373
          have bx381 := bx364.step hB373
          have bx382 := bx365.step hB373
          have bx383 := bx366.step hB373
          have bx384 := bx367.step hB373
          refine ⟨?_, ?_⟩
          · simp [stayR_cons, stayR_nil, Wc_seq, Wc_block, Wc_scope, Wc_skip, Wc_label, Wc_exit, Wc_ret, Wc_loop, Wc_region, Wc_cond, Nx_nil, Nx_seq, Nx_seq_exit, Nx_seq_ret, Nx_block, Nx_block_exit, Nx_block_ret, Rg_nil, Rg_cons, RgE, effA, calleeA, wantedA, enterN, ev, ofV, ofVn, putE, evalN, aBin, aInt_add, aInt_sub, aInt_mul, aInt_quo, aInt_rem, aInt_eql, aInt_neq, aInt_lss, aInt_leq, aInt_gtr, aInt_geq, aExtract, finQ_ret, resOf, extU, extEU, kq_eq, thenQ_normal, thenQ_exit, thenQ_ret, opA, fa39_0, fa39_3, ld26, ld3, ld_bx bx378.g, cell_bx bx378.g, ld_bx bx379.g, cell_bx bx379.g, ld_bx bx380.g, cell_bx bx380.g, ld_bx bx381.g, cell_bx bx381.g, ld_bx bx382.g, cell_bx bx382.g, ld_bx bx383.g, cell_bx bx383.g, ld_bx bx384.g, cell_bx bx384.g]
          simp [Wc_seq, Wc_block, Wc_scope, Wc_skip, Wc_label, Wc_exit, Wc_ret, Wc_loop, Wc_region, Wc_cond, Nx_nil, Nx_seq, Nx_seq_exit, Nx_seq_ret, Nx_block, Nx_block_exit, Nx_block_ret, Rg_nil, Rg_cons, RgE, effA, calleeA, wantedA, enterN, ev, ofV, ofVn, putE, evalN, aBin, aInt_add, aInt_sub, aInt_mul, aInt_quo, aInt_rem, aInt_eql, aInt_neq, aInt_lss, aInt_leq, aInt_gtr, aInt_geq, aExtract, finQ_ret, resOf, extU, extEU, kq_eq, thenQ_normal, thenQ_exit, thenQ_ret, Sg_cons, Sg_nil, SgO, opA, isE, isRead]
          refine sgE_call (f := 16) (args := [.agg (res6 ((lookD M pf)).e ((lookD M pf)).data ((lookD M pf)).kind ((lookD M pf)).links ((lookD M pf)).size nv376), .agg (res6 ((lookD M pf)).e ((lookD M pf)).data ((lookD M pf)).kind ((lookD M pf)).links ((lookD M pf)).size (.sl x56 x57 x58 x59))]) (by rfl) (by rfl) (by rfl) (by simp [fn16]) (result_ret W h369 ((lookD M pf)) _ _ nm377.strS bx380.nm.strS hsh3) ?_
          rintro w h385 ⟨rfl, hk386⟩
          have hm387 := hm372.keeps hk386
          have hB388 : MStep h369 h385 R370 R370 := MStep.refl hk386
          have bx389 := bx378.step hB388
          have bx390 := bx379.step hB388
          have bx391 := bx380.step hB388
          have bx392 := bx381.step hB388
          have bx393 := bx382.step hB388
          have bx394 := bx383.step hB388
          have bx395 := bx384.step hB388
          refine ⟨?_, ?_⟩
          · simp [stayR_cons, stayR_nil, Wc_seq, Wc_block, Wc_scope, Wc_skip, Wc_label, Wc_exit, Wc_ret, Wc_loop, Wc_region, Wc_cond, Nx_nil, Nx_seq, Nx_seq_exit, Nx_seq_ret, Nx_block, Nx_block_exit, Nx_block_ret, Rg_nil, Rg_cons, RgE, effA, calleeA, wantedA, enterN, ev, ofV, ofVn, putE, evalN, aBin, aInt_add, aInt_sub, aInt_mul, aInt_quo, aInt_rem, aInt_eql, aInt_neq, aInt_lss, aInt_leq, aInt_gtr, aInt_geq, aExtract, finQ_ret, resOf, extU, extEU, kq_eq, thenQ_normal, thenQ_exit, thenQ_ret, opA, fa39_0, fa39_3, ld26, ld3, ld_bx bx389.g, cell_bx bx389.g, ld_bx bx390.g, cell_bx bx390.g, ld_bx bx391.g, cell_bx bx391.g, ld_bx bx392.g, cell_bx bx392.g, ld_bx bx393.g, cell_bx bx393.g, ld_bx bx394.g, cell_bx bx394.g, ld_bx bx395.g, cell_bx bx395.g]
          simp [Wc_seq, Wc_block, Wc_scope, Wc_skip, Wc_label, Wc_exit, Wc_ret, Wc_loop, Wc_region, Wc_cond, Nx_nil, Nx_seq, Nx_seq_exit, Nx_seq_ret, Nx_block, Nx_block_exit, Nx_block_ret, Rg_nil, Rg_cons, RgE, effA, calleeA, wantedA, enterN, ev, ofV, ofVn, putE, evalN, aBin, aInt_add, aInt_sub, aInt_mul, aInt_quo, aInt_rem, aInt_eql, aInt_neq, aInt_lss, aInt_leq, aInt_gtr, aInt_geq, aExtract, finQ_ret, resOf, extU, extEU, kq_eq, thenQ_normal, thenQ_exit, thenQ_ret, Sg_cons, Sg_nil, SgO, opA, isE, isRead]
          refine sgE_call (f := 15) (args := []) (by rfl) (by rfl) (by rfl) (by simp [fn15]) (speaks_ret W _) ?_
          rintro w hZ ⟨rfl, rfl⟩
          refine ⟨?_, ?_⟩
          · simp [stayR_cons, stayR_nil, Wc_seq, Wc_block, Wc_scope, Wc_skip, Wc_label, Wc_exit, Wc_ret, Wc_loop, Wc_region, Wc_cond, Nx_nil, Nx_seq, Nx_seq_exit, Nx_seq_ret, Nx_block, Nx_block_exit, Nx_block_ret, Rg_nil, Rg_cons, RgE, effA, calleeA, wantedA, enterN, ev, ofV, ofVn, putE, evalN, aBin, aInt_add, aInt_sub, aInt_mul, aInt_quo, aInt_rem, aInt_eql, aInt_neq, aInt_lss, aInt_leq, aInt_gtr, aInt_geq, aExtract, finQ_ret, resOf, extU, extEU, kq_eq, thenQ_normal, thenQ_exit, thenQ_ret, opA, fa39_0, fa39_3, ld26, ld3, ld_bx bx389.g, cell_bx bx389.g, ld_bx bx390.g, cell_bx bx390.g, ld_bx bx391.g, cell_bx bx391.g, ld_bx bx392.g, cell_bx bx392.g, ld_bx bx393.g, cell_bx bx393.g, ld_bx bx394.g, cell_bx bx394.g, ld_bx bx395.g, cell_bx bx395.g]
          · simp [Wc_seq, Wc_block, Wc_scope, Wc_skip, Wc_label, Wc_exit, Wc_ret, Wc_loop, Wc_region, Wc_cond, Nx_nil, Nx_seq, Nx_seq_exit, Nx_seq_ret, Nx_block, Nx_block_exit, Nx_block_ret, Rg_nil, Rg_cons, RgE, effA, calleeA, wantedA, enterN, ev, ofV, ofVn, putE, evalN, aBin, aInt_add, aInt_sub, aInt_mul, aInt_quo, aInt_rem, aInt_eql, aInt_neq, aInt_lss, aInt_leq, aInt_gtr, aInt_geq, aExtract, finQ_ret, resOf, extU, extEU, kq_eq, thenQ_normal, thenQ_exit, thenQ_ret, Sg_cons, Sg_nil, SgO, opA, isE, isRead]
      · have hMM := (hna ha0).symm
        subst hMM
        have hab : (ea == 0) = false := by simpa using ha0
        have sm0 : SameL M M pf := SameL.refl
        obtain ⟨eb396, M397, hdk398, hf399, hne400, heq401⟩ := moves_link hfa (by omega) pf pt
        have hdo402 := do_all W h70 R64 M hm73 _ hfa (by omega) ⟨8, 0, 0, pf, pt, []⟩ (show pf.length < _ by omega) (show pt.length < _ by omega) (show (0 : Int) < _ by omega) (show _ ≤ (0 : Int) by omega)
        rw [hdk398] at hdo402
        simp only [opV, km76] at hdo402
        simp [Wc_seq, Wc_block, Wc_scope, Wc_skip, Wc_label, Wc_exit, Wc_ret, Wc_loop, Wc_region, Wc_cond, Nx_nil, Nx_seq, Nx_seq_exit, Nx_seq_ret, Nx_block, Nx_block_exit, Nx_block_ret, Rg_nil, Rg_cons, RgE, effA, calleeA, wantedA, enterN, ev, ofV, ofVn, putE, evalN, aBin, aInt_add, aInt_sub, aInt_mul, aInt_quo, aInt_rem, aInt_eql, aInt_neq, aInt_lss, aInt_leq, aInt_gtr, aInt_geq, aExtract, finQ_ret, resOf, extU, extEU, kq_eq, thenQ_normal, thenQ_exit, thenQ_ret, al71, st72, fa39_0, fa39_3, ld26, ld3, ld_bx bx75.g, cell_bx bx75.g, Res.err, ha0, hab, build_op3]
        refine callK_ret (by simp [fn17]) hdo402 fun w h403 ⟨R404, hres405, hm406, hB407⟩ => ?_
        obtain ⟨k408, hp409, h410, x417, x418, x419, x420, rfl, al411, st412, hm413, hB414, bx415⟩ := box_doV (W := W) hres405 hm406 hB407
        simp only [Res.err] at st412
        have km416 := hB414.hds.1.trans km76
        have bx421 := bx81.step hB414
        have bx422 := bx82.step hB414
        have bx423 := bx83.step hB414
        have bx424 := bx75.step hB414
        by_cases hb0 : eb396 = 0
        · subst hb0
          obtain ⟨M425, hlk426, hl0427, hl1428, hdu429, hf430, sm431⟩ := heq401 rfl
          rw [sm0.s] at hlk426 hl0427 hl1428
          have sm432 := sm0.trans sm431
          have hdo433 := do_all W h410 R404 M397 hm413 _ hf399 (by omega) ⟨6, 0, 0, pt, [], []⟩ (show pt.length < _ by omega) (show ([] : List UInt8).length < _ by decide) (show (0 : Int) < _ by omega) (show _ ≤ (0 : Int) by omega)
          rw [do_looks] at hdo433
          simp only [opV, km416] at hdo433
          have wl : IntKind.i64.wrap ((lookS M pf).links + 1) = (lookS M pf).links + 1 := wrap64 (by omega) (by omega)
          simp [Wc_seq, Wc_block, Wc_scope, Wc_skip, Wc_label, Wc_exit, Wc_ret, Wc_loop, Wc_region, Wc_cond, Nx_nil, Nx_seq, Nx_seq_exit, Nx_seq_ret, Nx_block, Nx_block_exit, Nx_block_ret, Rg_nil, Rg_cons, RgE, effA, calleeA, wantedA, enterN, ev, ofV, ofVn, putE, evalN, aBin, aInt_add, aInt_sub, aInt_mul, aInt_quo, aInt_rem, aInt_eql, aInt_neq, aInt_lss, aInt_leq, aInt_gtr, aInt_geq, aExtract, finQ_ret, resOf, extU, extEU, kq_eq, thenQ_normal, thenQ_exit, thenQ_ret, al411, st412, fa39_0, fa39_3, ld26, ld3, ld_bx bx415.g, cell_bx bx415.g, Res.err]
          refine drawS [0, 1, 2, 5, 6, 7, 3, 4, 8, 9, 10, 11, 12, 13, 14, 15, 16] (by kernel_rfl) (by kernel_rfl) ?_
          simp [Wc_seq, Wc_block, Wc_scope, Wc_skip, Wc_label, Wc_exit, Wc_ret, Wc_loop, Wc_region, Wc_cond, Nx_nil, Nx_seq, Nx_seq_exit, Nx_seq_ret, Nx_block, Nx_block_exit, Nx_block_ret, Rg_nil, Rg_cons, RgE, effA, calleeA, wantedA, enterN, ev, ofV, ofVn, putE, evalN, aBin, aInt_add, aInt_sub, aInt_mul, aInt_quo, aInt_rem, aInt_eql, aInt_neq, aInt_lss, aInt_leq, aInt_gtr, aInt_geq, aExtract, finQ_ret, resOf, extU, extEU, kq_eq, thenQ_normal, thenQ_exit, thenQ_ret, Sg_cons, Sg_nil, SgO, opA, isE, isRead, build_op2, fa39_0, fa39_3, ld26, ld3, ld_bx bx421.g, cell_bx bx421.g, wl]
          refine sgE_call (f := 17) (args := [.ptr (some (.new R.km 0)), .agg [.int .i64 6, .int .i64 0, .int .i64 0, .str pt, .str [], .str []]]) (by rfl) (by rfl) (by rfl) (by simp [fn17]) hdo433 ?_
          rintro w h434 ⟨R435, hres436, hm437, hB438⟩
          obtain ⟨nv441, rfl, nm440⟩ := hres436
          have nm442 := nm440.nmB hm437
          have km439 := hB438.hds.1.trans km416
          have bx443 := bx421.step hB438
          have bx444 := bx422.step hB438
          have bx445 := bx423.step hB438
          have bx446 := bx424.step hB438
          have bx447 := bx415.step hB438
          refine ⟨?_, ?_⟩
          · simp [stayR_cons, stayR_nil, Wc_seq, Wc_block, Wc_scope, Wc_skip, Wc_label, Wc_exit, Wc_ret, Wc_loop, Wc_region, Wc_cond, Nx_nil, Nx_seq, Nx_seq_exit, Nx_seq_ret, Nx_block, Nx_block_exit, Nx_block_ret, Rg_nil, Rg_cons, RgE, effA, calleeA, wantedA, enterN, ev, ofV, ofVn, putE, evalN, aBin, aInt_add, aInt_sub, aInt_mul, aInt_quo, aInt_rem, aInt_eql, aInt_neq, aInt_lss, aInt_leq, aInt_gtr, aInt_geq, aExtract, finQ_ret, resOf, extU, extEU, kq_eq, thenQ_normal, thenQ_exit, thenQ_ret, opA, fa39_0, fa39_3, ld26, ld3, ld_bx bx443.g, cell_bx bx443.g, ld_bx bx444.g, cell_bx bx444.g, ld_bx bx445.g, cell_bx bx445.g, ld_bx bx446.g, cell_bx bx446.g, ld_bx bx447.g, cell_bx bx447.g]
          have hdo448 := do_all W h434 R435 M397 hm437 _ hf399 (by omega) ⟨9, 0, 0, pt, [], []⟩ (show pt.length < _ by omega) (show ([] : List UInt8).length < _ by decide) (show (0 : Int) < _ by omega) (show _ ≤ (0 : Int) by omega)
          rw [hdu429] at hdo448
          simp only [opV, km439] at hdo448
          simp [Wc_seq, Wc_block, Wc_scope, Wc_skip, Wc_label, Wc_exit, Wc_ret, Wc_loop, Wc_region, Wc_cond, Nx_nil, Nx_seq, Nx_seq_exit, Nx_seq_ret, Nx_block, Nx_block_exit, Nx_block_ret, Rg_nil, Rg_cons, RgE, effA, calleeA, wantedA, enterN, ev, ofV, ofVn, putE, evalN, aBin, aInt_add, aInt_sub, aInt_mul, aInt_quo, aInt_rem, aInt_eql, aInt_neq, aInt_lss, aInt_leq, aInt_gtr, aInt_geq, aExtract, finQ_ret, resOf, extU, extEU, kq_eq, thenQ_normal, thenQ_exit, thenQ_ret, Sg_cons, Sg_nil, SgO, opA, isE, isRead, field_links, hlk426, build_op2]
          refine sgE_call (f := 17) (args := [.ptr (some (.new R.km 0)), .agg [.int .i64 9, .int .i64 0, .int .i64 0, .str pt, .str [], .str []]]) (by rfl) (by rfl) (by rfl) (by simp [fn17]) hdo448 ?_
          rintro w h449 ⟨R450, hres451, hm452, hB453⟩
          obtain ⟨nv456, rfl, nm455⟩ := hres451
          have nm457 := nm455.nmB hm452
          have km454 := hB453.hds.1.trans km439
          have bx458 := bx443.step hB453
          have bx459 := bx444.step hB453
          have bx460 := bx445.step hB453
          have bx461 := bx446.step hB453
          have bx462 := bx447.step hB453
          refine ⟨?_, ?_⟩
          · simp [stayR_cons, stayR_nil, Wc_seq, Wc_block, Wc_scope, Wc_skip, Wc_label, Wc_exit, Wc_ret, Wc_loop, Wc_region, Wc_cond, Nx_nil, Nx_seq, Nx_seq_exit, Nx_seq_ret, Nx_block, Nx_block_exit, Nx_block_ret, Rg_nil, Rg_cons, RgE, effA, calleeA, wantedA, enterN, ev, ofV, ofVn, putE, evalN, aBin, aInt_add, aInt_sub, aInt_mul, aInt_quo, aInt_rem, aInt_eql, aInt_neq, aInt_lss, aInt_leq, aInt_gtr, aInt_geq, aExtract, finQ_ret, resOf, extU, extEU, kq_eq, thenQ_normal, thenQ_exit, thenQ_ret, opA, fa39_0, fa39_3, ld26, ld3, ld_bx bx458.g, cell_bx bx458.g, ld_bx bx459.g, cell_bx bx459.g, ld_bx bx460.g, cell_bx bx460.g, ld_bx bx461.g, cell_bx bx461.g, ld_bx bx462.g, cell_bx bx462.g]
          simp [Wc_seq, Wc_block, Wc_scope, Wc_skip, Wc_label, Wc_exit, Wc_ret, Wc_loop, Wc_region, Wc_cond, Nx_nil, Nx_seq, Nx_seq_exit, Nx_seq_ret, Nx_block, Nx_block_exit, Nx_block_ret, Rg_nil, Rg_cons, RgE, effA, calleeA, wantedA, enterN, ev, ofV, ofVn, putE, evalN, aBin, aInt_add, aInt_sub, aInt_mul, aInt_quo, aInt_rem, aInt_eql, aInt_neq, aInt_lss, aInt_leq, aInt_gtr, aInt_geq, aExtract, finQ_ret, resOf, extU, extEU, kq_eq, thenQ_normal, thenQ_exit, thenQ_ret, Sg_cons, Sg_nil, SgO, opA, isE, isRead, field_e, Res.err]
          have hdo463 := do_all W h449 R450 M425 hm452 _ hf430 (by omega) ⟨6, 0, 0, pf, [], []⟩ (show pf.length < _ by omega) (show ([] : List UInt8).length < _ by decide) (show (0 : Int) < _ by omega) (show _ ≤ (0 : Int) by omega)
          rw [do_looks, sm432.s] at hdo463
          simp only [opV, km454] at hdo463
          refine drawS [0, 1, 2, 4, 3, 5, 6, 7, 8, 9, 11, 10, 12, 13, 14, 15, 16, 17, 19, 18, 20, 21, 22, 23, 24, 25] (by kernel_rfl) (by kernel_rfl) ?_
          simp [Wc_seq, Wc_block, Wc_scope, Wc_skip, Wc_label, Wc_exit, Wc_ret, Wc_loop, Wc_region, Wc_cond, Nx_nil, Nx_seq, Nx_seq_exit, Nx_seq_ret, Nx_block, Nx_block_exit, Nx_block_ret, Rg_nil, Rg_cons, RgE, effA, calleeA, wantedA, enterN, ev, ofV, ofVn, putE, evalN, aBin, aInt_add, aInt_sub, aInt_mul, aInt_quo, aInt_rem, aInt_eql, aInt_neq, aInt_lss, aInt_leq, aInt_gtr, aInt_geq, aExtract, finQ_ret, resOf, extU, extEU, kq_eq, thenQ_normal, thenQ_exit, thenQ_ret, Sg_cons, Sg_nil, SgO, opA, isE, isRead, build_op2, ld_bx bx458.g, cell_bx bx458.g]
          refine sgE_call (f := 17) (args := [.ptr (some (.new R.km 0)), .agg [.int .i64 6, .int .i64 0, .int .i64 0, .str pf, .str [], .str []]]) (by rfl) (by rfl) (by rfl) (by simp [fn17]) hdo463 ?_
          rintro w h464 ⟨R465, hres466, hm467, hB468⟩
          obtain ⟨nv471, rfl, nm470⟩ := hres466
          have nm472 := nm470.nmB hm467
          have km469 := hB468.hds.1.trans km454
          have bx473 := bx458.step hB468
          have bx474 := bx459.step hB468
          have bx475 := bx460.step hB468
          have bx476 := bx461.step hB468
          have bx477 := bx462.step hB468
          refine ⟨?_, ?_⟩
          · simp [stayR_cons, stayR_nil, Wc_seq, Wc_block, Wc_scope, Wc_skip, Wc_label, Wc_exit, Wc_ret, Wc_loop, Wc_region, Wc_cond, Nx_nil, Nx_seq, Nx_seq_exit, Nx_seq_ret, Nx_block, Nx_block_exit, Nx_block_ret, Rg_nil, Rg_cons, RgE, effA, calleeA, wantedA, enterN, ev, ofV, ofVn, putE, evalN, aBin, aInt_add, aInt_sub, aInt_mul, aInt_quo, aInt_rem, aInt_eql, aInt_neq, aInt_lss, aInt_leq, aInt_gtr, aInt_geq, aExtract, finQ_ret, resOf, extU, extEU, kq_eq, thenQ_normal, thenQ_exit, thenQ_ret, opA, fa39_0, fa39_3, ld26, ld3, ld_bx bx473.g, cell_bx bx473.g, ld_bx bx474.g, cell_bx bx474.g, ld_bx bx475.g, cell_bx bx475.g, ld_bx bx476.g, cell_bx bx476.g, ld_bx bx477.g, cell_bx bx477.g]
          simp [Wc_seq, Wc_block, Wc_scope, Wc_skip, Wc_label, Wc_exit, Wc_ret, Wc_loop, Wc_region, Wc_cond, Nx_nil, Nx_seq, Nx_seq_exit, Nx_seq_ret, Nx_block, Nx_block_exit, Nx_block_ret, Rg_nil, Rg_cons, RgE, effA, calleeA, wantedA, enterN, ev, ofV, ofVn, putE, evalN, aBin, aInt_add, aInt_sub, aInt_mul, aInt_quo, aInt_rem, aInt_eql, aInt_neq, aInt_lss, aInt_leq, aInt_gtr, aInt_geq, aExtract, finQ_ret, resOf, extU, extEU, kq_eq, thenQ_normal, thenQ_exit, thenQ_ret, Sg_cons, Sg_nil, SgO, opA, isE, isRead]
          refine sgE_call (f := 16) (args := [.agg (res6 ((lookS M pf)).e ((lookS M pf)).data ((lookS M pf)).kind ((lookS M pf)).links ((lookS M pf)).size nv471), .agg (res6 ((lookS M pf)).e ((lookS M pf)).data ((lookS M pf)).kind ((lookS M pf)).links ((lookS M pf)).size (.sl x17 x18 x19 x20))]) (by rfl) (by rfl) (by rfl) (by simp [fn16]) (result_ret W h464 ((lookS M pf)) _ _ nm472.strS bx473.nm.strS hsh1) ?_
          rintro w h478 ⟨rfl, hk479⟩
          have hm480 := hm467.keeps hk479
          have hB481 : MStep h464 h478 R465 R465 := MStep.refl hk479
          have bx482 := bx473.step hB481
          have bx483 := bx474.step hB481
          have bx484 := bx475.step hB481
          have bx485 := bx476.step hB481
          have bx486 := bx477.step hB481
          refine ⟨?_, ?_⟩
          · simp [stayR_cons, stayR_nil, Wc_seq, Wc_block, Wc_scope, Wc_skip, Wc_label, Wc_exit, Wc_ret, Wc_loop, Wc_region, Wc_cond, Nx_nil, Nx_seq, Nx_seq_exit, Nx_seq_ret, Nx_block, Nx_block_exit, Nx_block_ret, Rg_nil, Rg_cons, RgE, effA, calleeA, wantedA, enterN, ev, ofV, ofVn, putE, evalN, aBin, aInt_add, aInt_sub, aInt_mul, aInt_quo, aInt_rem, aInt_eql, aInt_neq, aInt_lss, aInt_leq, aInt_gtr, aInt_geq, aExtract, finQ_ret, resOf, extU, extEU, kq_eq, thenQ_normal, thenQ_exit, thenQ_ret, opA, fa39_0, fa39_3, ld26, ld3, ld_bx bx482.g, cell_bx bx482.g, ld_bx bx483.g, cell_bx bx483.g, ld_bx bx484.g, cell_bx bx484.g, ld_bx bx485.g, cell_bx bx485.g, ld_bx bx486.g, cell_bx bx486.g]
          have hdo487 := do_all W h478 R465 M425 hm480 _ hf430 (by omega) ⟨7, 0, 0, pf, [], []⟩ (show pf.length < _ by omega) (show ([] : List UInt8).length < _ by decide) (show (0 : Int) < _ by omega) (show _ ≤ (0 : Int) by omega)
          rw [do_lookl, sm432.l] at hdo487
          simp only [opV, km469] at hdo487
          simp [Wc_seq, Wc_block, Wc_scope, Wc_skip, Wc_label, Wc_exit, Wc_ret, Wc_loop, Wc_region, Wc_cond, Nx_nil, Nx_seq, Nx_seq_exit, Nx_seq_ret, Nx_block, Nx_block_exit, Nx_block_ret, Rg_nil, Rg_cons, RgE, effA, calleeA, wantedA, enterN, ev, ofV, ofVn, putE, evalN, aBin, aInt_add, aInt_sub, aInt_mul, aInt_quo, aInt_rem, aInt_eql, aInt_neq, aInt_lss, aInt_leq, aInt_gtr, aInt_geq, aExtract, finQ_ret, resOf, extU, extEU, kq_eq, thenQ_normal, thenQ_exit, thenQ_ret, Sg_cons, Sg_nil, SgO, opA, isE, isRead, build_op2, ld_bx bx483.g, cell_bx bx483.g]
          refine sgE_call (f := 17) (args := [.ptr (some (.new R.km 0)), .agg [.int .i64 7, .int .i64 0, .int .i64 0, .str pf, .str [], .str []]]) (by rfl) (by rfl) (by rfl) (by simp [fn17]) hdo487 ?_
          rintro w h488 ⟨R489, hres490, hm491, hB492⟩
          obtain ⟨nv495, rfl, nm494⟩ := hres490
          have nm496 := nm494.nmB hm491
          have km493 := hB492.hds.1.trans km469
          have bx497 := bx482.step hB492
          have bx498 := bx483.step hB492
          have bx499 := bx484.step hB492
          have bx500 := bx485.step hB492
          have bx501 := bx486.step hB492
          refine ⟨?_, ?_⟩
          · simp [stayR_cons, stayR_nil, Wc_seq, Wc_block, Wc_scope, Wc_skip, Wc_label, Wc_exit, Wc_ret, Wc_loop, Wc_region, Wc_cond, Nx_nil, Nx_seq, Nx_seq_exit, Nx_seq_ret, Nx_block, Nx_block_exit, Nx_block_ret, Rg_nil, Rg_cons, RgE, effA, calleeA, wantedA, enterN, ev, ofV, ofVn, putE, evalN, aBin, aInt_add, aInt_sub, aInt_mul, aInt_quo, aInt_rem, aInt_eql, aInt_neq, aInt_lss, aInt_leq, aInt_gtr, aInt_geq, aExtract, finQ_ret, resOf, extU, extEU, kq_eq, thenQ_normal, thenQ_exit, thenQ_ret, opA, fa39_0, fa39_3, ld26, ld3, ld_bx bx497.g, cell_bx bx497.g, ld_bx bx498.g, cell_bx bx498.g, ld_bx bx499.g, cell_bx bx499.g, ld_bx bx500.g, cell_bx bx500.g, ld_bx bx501.g, cell_bx bx501.g]
          simp [Wc_seq, Wc_block, Wc_scope, Wc_skip, Wc_label, Wc_exit, Wc_ret, Wc_loop, Wc_region, Wc_cond, Nx_nil, Nx_seq, Nx_seq_exit, Nx_seq_ret, Nx_block, Nx_block_exit, Nx_block_ret, Rg_nil, Rg_cons, RgE, effA, calleeA, wantedA, enterN, ev, ofV, ofVn, putE, evalN, aBin, aInt_add, aInt_sub, aInt_mul, aInt_quo, aInt_rem, aInt_eql, aInt_neq, aInt_lss, aInt_leq, aInt_gtr, aInt_geq, aExtract, finQ_ret, resOf, extU, extEU, kq_eq, thenQ_normal, thenQ_exit, thenQ_ret, Sg_cons, Sg_nil, SgO, opA, isE, isRead]
          refine sgE_call (f := 16) (args := [.agg (res6 ((lookL M pf)).e ((lookL M pf)).data ((lookL M pf)).kind ((lookL M pf)).links ((lookL M pf)).size nv495), .agg (res6 ((lookL M pf)).e ((lookL M pf)).data ((lookL M pf)).kind ((lookL M pf)).links ((lookL M pf)).size (.sl x36 x37 x38 x39))]) (by rfl) (by rfl) (by rfl) (by simp [fn16]) (result_ret W h488 ((lookL M pf)) _ _ nm496.strS bx498.nm.strS hsh2) ?_
          rintro w h502 ⟨rfl, hk503⟩
          have hm504 := hm491.keeps hk503
          have hB505 : MStep h488 h502 R489 R489 := MStep.refl hk503
          have bx506 := bx497.step hB505
          have bx507 := bx498.step hB505
          have bx508 := bx499.step hB505
          have bx509 := bx500.step hB505
          have bx510 := bx501.step hB505
          refine ⟨?_, ?_⟩
          · simp [stayR_cons, stayR_nil, Wc_seq, Wc_block, Wc_scope, Wc_skip, Wc_label, Wc_exit, Wc_ret, Wc_loop, Wc_region, Wc_cond, Nx_nil, Nx_seq, Nx_seq_exit, Nx_seq_ret, Nx_block, Nx_block_exit, Nx_block_ret, Rg_nil, Rg_cons, RgE, effA, calleeA, wantedA, enterN, ev, ofV, ofVn, putE, evalN, aBin, aInt_add, aInt_sub, aInt_mul, aInt_quo, aInt_rem, aInt_eql, aInt_neq, aInt_lss, aInt_leq, aInt_gtr, aInt_geq, aExtract, finQ_ret, resOf, extU, extEU, kq_eq, thenQ_normal, thenQ_exit, thenQ_ret, opA, fa39_0, fa39_3, ld26, ld3, ld_bx bx506.g, cell_bx bx506.g, ld_bx bx507.g, cell_bx bx507.g, ld_bx bx508.g, cell_bx bx508.g, ld_bx bx509.g, cell_bx bx509.g, ld_bx bx510.g, cell_bx bx510.g]
          have hdo511 := do_all W h502 R489 M425 hm504 _ hf430 (by omega) ⟨5, 0, 1024, pf, [], []⟩ (show pf.length < _ by omega) (show ([] : List UInt8).length < _ by decide) (show (0 : Int) < _ by omega) (show _ ≤ (0 : Int) by omega)
          rw [do_lookd, sm432.d] at hdo511
          simp only [opV, km493] at hdo511
          simp [Wc_seq, Wc_block, Wc_scope, Wc_skip, Wc_label, Wc_exit, Wc_ret, Wc_loop, Wc_region, Wc_cond, Nx_nil, Nx_seq, Nx_seq_exit, Nx_seq_ret, Nx_block, Nx_block_exit, Nx_block_ret, Rg_nil, Rg_cons, RgE, effA, calleeA, wantedA, enterN, ev, ofV, ofVn, putE, evalN, aBin, aInt_add, aInt_sub, aInt_mul, aInt_quo, aInt_rem, aInt_eql, aInt_neq, aInt_lss, aInt_leq, aInt_gtr, aInt_geq, aExtract, finQ_ret, resOf, extU, extEU, kq_eq, thenQ_normal, thenQ_exit, thenQ_ret, Sg_cons, Sg_nil, SgO, opA, isE, isRead, build_opR, ld_bx bx508.g, cell_bx bx508.g]
          refine sgE_call (f := 17) (args := [.ptr (some (.new R.km 0)), .agg [.int .i64 5, .int .i64 0, .int .i64 1024, .str pf, .str [], .str []]]) (by rfl) (by rfl) (by rfl) (by simp [fn17]) hdo511 ?_
          rintro w h512 ⟨R513, hres514, hm515, hB516⟩
          obtain ⟨nv519, rfl, nm518⟩ := hres514
          have nm520 := nm518.nmB hm515
          have km517 := hB516.hds.1.trans km493
          have bx521 := bx506.step hB516
          have bx522 := bx507.step hB516
          have bx523 := bx508.step hB516
          have bx524 := bx509.step hB516
          have bx525 := bx510.step hB516
          refine ⟨?_, ?_⟩
          · simp [stayR_cons, stayR_nil, Wc_seq, Wc_block, Wc_scope, Wc_skip, Wc_label, Wc_exit, Wc_ret, Wc_loop, Wc_region, Wc_cond, Nx_nil, Nx_seq, Nx_seq_exit, Nx_seq_ret, Nx_block, Nx_block_exit, Nx_block_ret, Rg_nil, Rg_cons, RgE, effA, calleeA, wantedA, enterN, ev, ofV, ofVn, putE, evalN, aBin, aInt_add, aInt_sub, aInt_mul, aInt_quo, aInt_rem, aInt_eql, aInt_neq, aInt_lss, aInt_leq, aInt_gtr, aInt_geq, aExtract, finQ_ret, resOf, extU, extEU, kq_eq, thenQ_normal, thenQ_exit, thenQ_ret, opA, fa39_0, fa39_3, ld26, ld3, ld_bx bx521.g, cell_bx bx521.g, ld_bx bx522.g, cell_bx bx522.g, ld_bx bx523.g, cell_bx bx523.g, ld_bx bx524.g, cell_bx bx524.g, ld_bx bx525.g, cell_bx bx525.g]
          simp [Wc_seq, Wc_block, Wc_scope, Wc_skip, Wc_label, Wc_exit, Wc_ret, Wc_loop, Wc_region, Wc_cond, Nx_nil, Nx_seq, Nx_seq_exit, Nx_seq_ret, Nx_block, Nx_block_exit, Nx_block_ret, Rg_nil, Rg_cons, RgE, effA, calleeA, wantedA, enterN, ev, ofV, ofVn, putE, evalN, aBin, aInt_add, aInt_sub, aInt_mul, aInt_quo, aInt_rem, aInt_eql, aInt_neq, aInt_lss, aInt_leq, aInt_gtr, aInt_geq, aExtract, finQ_ret, resOf, extU, extEU, kq_eq, thenQ_normal, thenQ_exit, thenQ_ret, Sg_cons, Sg_nil, SgO, opA, isE, isRead]
          refine sgE_call (f := 16) (args := [.agg (res6 ((lookD M pf)).e ((lookD M pf)).data ((lookD M pf)).kind ((lookD M pf)).links ((lookD M pf)).size nv519), .agg (res6 ((lookD M pf)).e ((lookD M pf)).data ((lookD M pf)).kind ((lookD M pf)).links ((lookD M pf)).size (.sl x56 x57 x58 x59))]) (by rfl) (by rfl) (by rfl) (by simp [fn16]) (result_ret W h512 ((lookD M pf)) _ _ nm520.strS bx523.nm.strS hsh3) ?_
          rintro w h526 ⟨rfl, hk527⟩
          have hm528 := hm515.keeps hk527
          have hB529 : MStep h512 h526 R513 R513 := MStep.refl hk527
          have bx530 := bx521.step hB529
          have bx531 := bx522.step hB529
          have bx532 := bx523.step hB529
          have bx533 := bx524.step hB529
          have bx534 := bx525.step hB529
          refine ⟨?_, ?_⟩
          · simp [stayR_cons, stayR_nil, Wc_seq, Wc_block, Wc_scope, Wc_skip, Wc_label, Wc_exit, Wc_ret, Wc_loop, Wc_region, Wc_cond, Nx_nil, Nx_seq, Nx_seq_exit, Nx_seq_ret, Nx_block, Nx_block_exit, Nx_block_ret, Rg_nil, Rg_cons, RgE, effA, calleeA, wantedA, enterN, ev, ofV, ofVn, putE, evalN, aBin, aInt_add, aInt_sub, aInt_mul, aInt_quo, aInt_rem, aInt_eql, aInt_neq, aInt_lss, aInt_leq, aInt_gtr, aInt_geq, aExtract, finQ_ret, resOf, extU, extEU, kq_eq, thenQ_normal, thenQ_exit, thenQ_ret, opA, fa39_0, fa39_3, ld26, ld3, ld_bx bx530.g, cell_bx bx530.g, ld_bx bx531.g, cell_bx bx531.g, ld_bx bx532.g, cell_bx bx532.g, ld_bx bx533.g, cell_bx bx533.g, ld_bx bx534.g, cell_bx bx534.g]
          simp [Wc_seq, Wc_block, Wc_scope, Wc_skip, Wc_label, Wc_exit, Wc_ret, Wc_loop, Wc_region, Wc_cond, Nx_nil, Nx_seq, Nx_seq_exit, Nx_seq_ret, Nx_block, Nx_block_exit, Nx_block_ret, Rg_nil, Rg_cons, RgE, effA, calleeA, wantedA, enterN, ev, ofV, ofVn, putE, evalN, aBin, aInt_add, aInt_sub, aInt_mul, aInt_quo, aInt_rem, aInt_eql, aInt_neq, aInt_lss, aInt_leq, aInt_gtr, aInt_geq, aExtract, finQ_ret, resOf, extU, extEU, kq_eq, thenQ_normal, thenQ_exit, thenQ_ret, Sg_cons, Sg_nil, SgO, opA, isE, isRead]
          refine sgE_call (f := 15) (args := []) (by rfl) (by rfl) (by rfl) (by simp [fn15]) (speaks_ret W _) ?_
          rintro w hZ ⟨rfl, rfl⟩
          refine ⟨?_, ?_⟩
          · simp [stayR_cons, stayR_nil, Wc_seq, Wc_block, Wc_scope, Wc_skip, Wc_label, Wc_exit, Wc_ret, Wc_loop, Wc_region, Wc_cond, Nx_nil, Nx_seq, Nx_seq_exit, Nx_seq_ret, Nx_block, Nx_block_exit, Nx_block_ret, Rg_nil, Rg_cons, RgE, effA, calleeA, wantedA, enterN, ev, ofV, ofVn, putE, evalN, aBin, aInt_add, aInt_sub, aInt_mul, aInt_quo, aInt_rem, aInt_eql, aInt_neq, aInt_lss, aInt_leq, aInt_gtr, aInt_geq, aExtract, finQ_ret, resOf, extU, extEU, kq_eq, thenQ_normal, thenQ_exit, thenQ_ret, opA, fa39_0, fa39_3, ld26, ld3, ld_bx bx530.g, cell_bx bx530.g, ld_bx bx531.g, cell_bx bx531.g, ld_bx bx532.g, cell_bx bx532.g, ld_bx bx533.g, cell_bx bx533.g, ld_bx bx534.g, cell_bx bx534.g]
          · simp [Wc_seq, Wc_block, Wc_scope, Wc_skip, Wc_label, Wc_exit, Wc_ret, Wc_loop, Wc_region, Wc_cond, Nx_nil, Nx_seq, Nx_seq_exit, Nx_seq_ret, Nx_block, Nx_block_exit, Nx_block_ret, Rg_nil, Rg_cons, RgE, effA, calleeA, wantedA, enterN, ev, ofV, ofVn, putE, evalN, aBin, aInt_add, aInt_sub, aInt_mul, aInt_quo, aInt_rem, aInt_eql, aInt_neq, aInt_lss, aInt_leq, aInt_gtr, aInt_geq, aExtract, finQ_ret, resOf, extU, extEU, kq_eq, thenQ_normal, thenQ_exit, thenQ_ret, Sg_cons, Sg_nil, SgO, opA, isE, isRead]
        · have hMM := (hne400 hb0).symm
          subst hMM
          have hbb : (eb396 == 0) = false := by simpa using hb0
          have hdo535 := do_all W h410 R404 M hm413 _ hf399 (by omega) ⟨6, 0, 0, pf, [], []⟩ (show pf.length < _ by omega) (show ([] : List UInt8).length < _ by decide) (show (0 : Int) < _ by omega) (show _ ≤ (0 : Int) by omega)
          rw [do_looks, sm0.s] at hdo535
          simp only [opV, km416] at hdo535
          simp [Wc_seq, Wc_block, Wc_scope, Wc_skip, Wc_label, Wc_exit, Wc_ret, Wc_loop, Wc_region, Wc_cond, Nx_nil, Nx_seq, Nx_seq_exit, Nx_seq_ret, Nx_block, Nx_block_exit, Nx_block_ret, Rg_nil, Rg_cons, RgE, effA, calleeA, wantedA, enterN, ev, ofV, ofVn, putE, evalN, aBin, aInt_add, aInt_sub, aInt_mul, aInt_quo, aInt_rem, aInt_eql, aInt_neq, aInt_lss, aInt_leq, aInt_gtr, aInt_geq, aExtract, finQ_ret, resOf, extU, extEU, kq_eq, thenQ_normal, thenQ_exit, thenQ_ret, al411, st412, fa39_0, fa39_3, ld26, ld3, ld_bx bx415.g, cell_bx bx415.g, Res.err, hb0, hbb, build_op2]
          refine drawS [0, 1, 2, 4, 3, 5, 6, 7, 8, 9, 11, 10, 12, 13, 14, 15, 16, 17, 19, 18, 20, 21, 22, 23, 24, 25] (by kernel_rfl) (by kernel_rfl) ?_
          simp [Wc_seq, Wc_block, Wc_scope, Wc_skip, Wc_label, Wc_exit, Wc_ret, Wc_loop, Wc_region, Wc_cond, Nx_nil, Nx_seq, Nx_seq_exit, Nx_seq_ret, Nx_block, Nx_block_exit, Nx_block_ret, Rg_nil, Rg_cons, RgE, effA, calleeA, wantedA, enterN, ev, ofV, ofVn, putE, evalN, aBin, aInt_add, aInt_sub, aInt_mul, aInt_quo, aInt_rem, aInt_eql, aInt_neq, aInt_lss, aInt_leq, aInt_gtr, aInt_geq, aExtract, finQ_ret, resOf, extU, extEU, kq_eq, thenQ_normal, thenQ_exit, thenQ_ret, Sg_cons, Sg_nil, SgO, opA, isE, isRead, build_op2, ld_bx bx421.g, cell_bx bx421.g]
          refine sgE_call (f := 17) (args := [.ptr (some (.new R.km 0)), .agg [.int .i64 6, .int .i64 0, .int .i64 0, .str pf, .str [], .str []]]) (by rfl) (by rfl) (by rfl) (by simp [fn17]) hdo535 ?_
          rintro w h536 ⟨R537, hres538, hm539, hB540⟩
          obtain ⟨nv543, rfl, nm542⟩ := hres538
          have nm544 := nm542.nmB hm539
          have km541 := hB540.hds.1.trans km416
          have bx545 := bx421.step hB540
          have bx546 := bx422.step hB540
          have bx547 := bx423.step hB540
          have bx548 := bx424.step hB540
          have bx549 := bx415.step hB540
          refine ⟨?_, ?_⟩
          · simp [stayR_cons, stayR_nil, Wc_seq, Wc_block, Wc_scope, Wc_skip, Wc_label, Wc_exit, Wc_ret, Wc_loop, Wc_region, Wc_cond, Nx_nil, Nx_seq, Nx_seq_exit, Nx_seq_ret, Nx_block, Nx_block_exit, Nx_block_ret, Rg_nil, Rg_cons, RgE, effA, calleeA, wantedA, enterN, ev, ofV, ofVn, putE, evalN, aBin, aInt_add, aInt_sub, aInt_mul, aInt_quo, aInt_rem, aInt_eql, aInt_neq, aInt_lss, aInt_leq, aInt_gtr, aInt_geq, aExtract, finQ_ret, resOf, extU, extEU, kq_eq, thenQ_normal, thenQ_exit, thenQ_ret, opA, fa39_0, fa39_3, ld26, ld3, ld_bx bx545.g, cell_bx bx545.g, ld_bx bx546.g, cell_bx bx546.g, ld_bx bx547.g, cell_bx bx547.g, ld_bx bx548.g, cell_bx bx548.g, ld_bx bx549.g, cell_bx bx549.g]
          simp [Wc_seq, Wc_block, Wc_scope, Wc_skip, Wc_label, Wc_exit, Wc_ret, Wc_loop, Wc_region, Wc_cond, Nx_nil, Nx_seq, Nx_seq_exit, Nx_seq_ret, Nx_block, Nx_block_exit, Nx_block_ret, Rg_nil, Rg_cons, RgE, effA, calleeA, wantedA, enterN, ev, ofV, ofVn, putE, evalN, aBin, aInt_add, aInt_sub, aInt_mul, aInt_quo, aInt_rem, aInt_eql, aInt_neq, aInt_lss, aInt_leq, aInt_gtr, aInt_geq, aExtract, finQ_ret, resOf, extU, extEU, kq_eq, thenQ_normal, thenQ_exit, thenQ_ret, Sg_cons, Sg_nil, SgO, opA, isE, isRead]
          refine sgE_call (f := 16) (args := [.agg (res6 ((lookS M pf)).e ((lookS M pf)).data ((lookS M pf)).kind ((lookS M pf)).links ((lookS M pf)).size nv543), .agg (res6 ((lookS M pf)).e ((lookS M pf)).data ((lookS M pf)).kind ((lookS M pf)).links ((lookS M pf)).size (.sl x17 x18 x19 x20))]) (by rfl) (by rfl) (by rfl) (by simp [fn16]) (result_ret W h536 ((lookS M pf)) _ _ nm544.strS bx545.nm.strS hsh1) ?_
          rintro w h550 ⟨rfl, hk551⟩
          have hm552 := hm539.keeps hk551
          have hB553 : MStep h536 h550 R537 R537 := MStep.refl hk551
          have bx554 := bx545.step hB553
          have bx555 := bx546.step hB553
          have bx556 := bx547.step hB553
          have bx557 := bx548.step hB553
          have bx558 := bx549.step hB553
          refine ⟨?_, ?_⟩
          · simp [stayR_cons, stayR_nil, Wc_seq, Wc_block, Wc_scope, Wc_skip, Wc_label, Wc_exit, Wc_ret, Wc_loop, Wc_region, Wc_cond, Nx_nil, Nx_seq, Nx_seq_exit, Nx_seq_ret, Nx_block, Nx_block_exit, Nx_block_ret, Rg_nil, Rg_cons, RgE, effA, calleeA, wantedA, enterN, ev, ofV, ofVn, putE, evalN, aBin, aInt_add, aInt_sub, aInt_mul, aInt_quo, aInt_rem, aInt_eql, aInt_neq, aInt_lss, aInt_leq, aInt_gtr, aInt_geq, aExtract, finQ_ret, resOf, extU, extEU, kq_eq, thenQ_normal, thenQ_exit, thenQ_ret, opA, fa39_0, fa39_3, ld26, ld3, ld_bx bx554.g, cell_bx bx554.g, ld_bx bx555.g, cell_bx bx555.g, ld_bx bx556.g, cell_bx bx556.g, ld_bx bx557.g, cell_bx bx557.g, ld_bx bx558.g, cell_bx bx558.g]
          have hdo559 := do_all W h550 R537 M hm552 _ hf399 (by omega) ⟨7, 0, 0, pf, [], []⟩ (show pf.length < _ by omega) (show ([] : List UInt8).length < _ by decide) (show (0 : Int) < _ by omega) (show _ ≤ (0 : Int) by omega)
          rw [do_lookl, sm0.l] at hdo559
          simp only [opV, km541] at hdo559
          simp [Wc_seq, Wc_block, Wc_scope, Wc_skip, Wc_label, Wc_exit, Wc_ret, Wc_loop, Wc_region, Wc_cond, Nx_nil, Nx_seq, Nx_seq_exit, Nx_seq_ret, Nx_block, Nx_block_exit, Nx_block_ret, Rg_nil, Rg_cons, RgE, effA, calleeA, wantedA, enterN, ev, ofV, ofVn, putE, evalN, aBin, aInt_add, aInt_sub, aInt_mul, aInt_quo, aInt_rem, aInt_eql, aInt_neq, aInt_lss, aInt_leq, aInt_gtr, aInt_geq, aExtract, finQ_ret, resOf, extU, extEU, kq_eq, thenQ_normal, thenQ_exit, thenQ_ret, Sg_cons, Sg_nil, SgO, opA, isE, isRead, build_op2, ld_bx bx555.g, cell_bx bx555.g]
          refine sgE_call (f := 17) (args := [.ptr (some (.new R.km 0)), .agg [.int .i64 7, .int .i64 0, .int .i64 0, .str pf, .str [], .str []]]) (by rfl) (by rfl) (by rfl) (by simp [fn17]) hdo559 ?_
          rintro w h560 ⟨R561, hres562, hm563, hB564⟩
          obtain ⟨nv567, rfl, nm566⟩ := hres562
          have nm568 := nm566.nmB hm563
          have km565 := hB564.hds.1.trans km541
          have bx569 := bx554.step hB564
          have bx570 := bx555.step hB564
          have bx571 := bx556.step hB564
          have bx572 := bx557.step hB564
          have bx573 := bx558.step hB564
          refine ⟨?_, ?_⟩
          · simp [stayR_cons, stayR_nil, Wc_seq, Wc_block, Wc_scope, Wc_skip, Wc_label, Wc_exit, Wc_ret, Wc_loop, Wc_region, Wc_cond, Nx_nil, Nx_seq, Nx_seq_exit, Nx_seq_ret, Nx_block, Nx_block_exit, Nx_block_ret, Rg_nil, Rg_cons, RgE, effA, calleeA, wantedA, enterN, ev, ofV, ofVn, putE, evalN, aBin, aInt_add, aInt_sub, aInt_mul, aInt_quo, aInt_rem, aInt_eql, aInt_neq, aInt_lss, aInt_leq, aInt_gtr, aInt_geq, aExtract, finQ_ret, resOf, extU, extEU, kq_eq, thenQ_normal, thenQ_exit, thenQ_ret, opA, fa39_0, fa39_3, ld26, ld3, ld_bx bx569.g, cell_bx bx569.g, ld_bx bx570.g, cell_bx bx570.g, ld_bx bx571.g, cell_bx bx571.g, ld_bx bx572.g, cell_bx bx572.g, ld_bx bx573.g, cell_bx bx573.g]
          simp [Wc_seq, Wc_block, Wc_scope, Wc_skip, Wc_label, Wc_exit, Wc_ret, Wc_loop, Wc_region, Wc_cond, Nx_nil, Nx_seq, Nx_seq_exit, Nx_seq_ret, Nx_block, Nx_block_exit, Nx_block_ret, Rg_nil, Rg_cons, RgE, effA, calleeA, wantedA, enterN, ev, ofV, ofVn, putE, evalN, aBin, aInt_add, aInt_sub, aInt_mul, aInt_quo, aInt_rem, aInt_eql, aInt_neq, aInt_lss, aInt_leq, aInt_gtr, aInt_geq, aExtract, finQ_ret, resOf, extU, extEU, kq_eq, thenQ_normal, thenQ_exit, thenQ_ret, Sg_cons, Sg_nil, SgO, opA, isE, isRead]
          refine sgE_call (f := 16) (args := [.agg (res6 ((lookL M pf)).e ((lookL M pf)).data ((lookL M pf)).kind ((lookL M pf)).links ((lookL M pf)).size nv567), .agg (res6 ((lookL M pf)).e ((lookL M pf)).data ((lookL M pf)).kind ((lookL M pf)).links ((lookL M pf)).size (.sl x36 x37 x38 x39))]) (by rfl) (by rfl) (by rfl) (by simp [fn16]) (result_ret W h560 ((lookL M pf)) _ _ nm568.strS bx570.nm.strS hsh2) ?_
          rintro w h574 ⟨rfl, hk575⟩
          have hm576 := hm563.keeps hk575
          have hB577 : MStep h560 h574 R561 R561 := MStep.refl hk575
          have bx578 := bx569.step hB577
          have bx579 := bx570.step hB577
          have bx580 := bx571.step hB577
          have bx581 := bx572.step hB577
          have bx582 := bx573.step hB577
          refine ⟨?_, ?_⟩
          · simp [stayR_cons, stayR_nil, Wc_seq, Wc_block, Wc_scope, Wc_skip, Wc_label, Wc_exit, Wc_ret, Wc_loop, Wc_region, Wc_cond, Nx_nil, Nx_seq, Nx_seq_exit, Nx_seq_ret, Nx_block, Nx_block_exit, Nx_block_ret, Rg_nil, Rg_cons, RgE, effA, calleeA, wantedA, enterN, ev, ofV, ofVn, putE, evalN, aBin, aInt_add, aInt_sub, aInt_mul, aInt_quo, aInt_rem, aInt_eql, aInt_neq, aInt_lss, aInt_leq, aInt_gtr, aInt_geq, aExtract, finQ_ret, resOf, extU, extEU, kq_eq, thenQ_normal, thenQ_exit, thenQ_ret, opA, fa39_0, fa39_3, ld26, ld3, ld_bx bx578.g, cell_bx bx578.g, ld_bx bx579.g, cell_bx bx579.g, ld_bx bx580.g, cell_bx bx580.g, ld_bx bx581.g, cell_bx bx581.g, ld_bx bx582.g, cell_bx bx582.g]
          have hdo583 := do_all W h574 R561 M hm576 _ hf399 (by omega) ⟨5, 0, 1024, pf, [], []⟩ (show pf.length < _ by omega) (show ([] : List UInt8).length < _ by decide) (show (0 : Int) < _ by omega) (show _ ≤ (0 : Int) by omega)
          rw [do_lookd, sm0.d] at hdo583
          simp only [opV, km565] at hdo583
          simp [Wc_seq, Wc_block, Wc_scope, Wc_skip, Wc_label, Wc_exit, Wc_ret, Wc_loop, Wc_region, Wc_cond, Nx_nil, Nx_seq, Nx_seq_exit, Nx_seq_ret, Nx_block, Nx_block_exit, Nx_block_ret, Rg_nil, Rg_cons, RgE, effA, calleeA, wantedA, enterN, ev, ofV, ofVn, putE, evalN, aBin, aInt_add, aInt_sub, aInt_mul, aInt_quo, aInt_rem, aInt_eql, aInt_neq, aInt_lss, aInt_leq, aInt_gtr, aInt_geq, aExtract, finQ_ret, resOf, extU, extEU, kq_eq, thenQ_normal, thenQ_exit, thenQ_ret, Sg_cons, Sg_nil, SgO, opA, isE, isRead, build_opR, ld_bx bx580.g, cell_bx bx580.g]
          refine sgE_call (f := 17) (args := [.ptr (some (.new R.km 0)), .agg [.int .i64 5, .int .i64 0, .int .i64 1024, .str pf, .str [], .str []]]) (by rfl) (by rfl) (by rfl) (by simp [fn17]) hdo583 ?_
          rintro w h584 ⟨R585, hres586, hm587, hB588⟩
          obtain ⟨nv591, rfl, nm590⟩ := hres586
          have nm592 := nm590.nmB hm587
          have km589 := hB588.hds.1.trans km565
          have bx593 := bx578.step hB588
          have bx594 := bx579.step hB588
          have bx595 := bx580.step hB588
          have bx596 := bx581.step hB588
          have bx597 := bx582.step hB588
          refine ⟨?_, ?_⟩
          · simp [stayR_cons, stayR_nil, Wc_seq, Wc_block, Wc_scope, Wc_skip, Wc_label, Wc_exit, Wc_ret, Wc_loop, Wc_region, Wc_cond, Nx_nil, Nx_seq, Nx_seq_exit, Nx_seq_ret, Nx_block, Nx_block_exit, Nx_block_ret, Rg_nil, Rg_cons, RgE, effA, calleeA, wantedA, enterN, ev, ofV, ofVn, putE, evalN, aBin, aInt_add, aInt_sub, aInt_mul, aInt_quo, aInt_rem, aInt_eql, aInt_neq, aInt_lss, aInt_leq, aInt_gtr, aInt_geq, aExtract, finQ_ret, resOf, extU, extEU, kq_eq, thenQ_normal, thenQ_exit, thenQ_ret, opA, fa39_0, fa39_3, ld26, ld3, ld_bx bx593.g, cell_bx bx593.g, ld_bx bx594.g, cell_bx bx594.g, ld_bx bx595.g, cell_bx bx595.g, ld_bx bx596.g, cell_bx bx596.g, ld_bx bx597.g, cell_bx bx597.g]
          simp [Wc_seq, Wc_block, Wc_scope, Wc_skip, Wc_label, Wc_exit, Wc_ret, Wc_loop, Wc_region, Wc_cond, Nx_nil, Nx_seq, Nx_seq_exit, Nx_seq_ret, Nx_block, Nx_block_exit, Nx_block_ret, Rg_nil, Rg_cons, RgE, effA, calleeA, wantedA, enterN, ev, ofV, ofVn, putE, evalN, aBin, aInt_add, aInt_sub, aInt_mul, aInt_quo, aInt_rem, aInt_eql, aInt_neq, aInt_lss, aInt_leq, aInt_gtr, aInt_geq, aExtract, finQ_ret, resOf, extU, extEU, kq_eq, thenQ_normal, thenQ_exit, thenQ_ret, Sg_cons, Sg_nil, SgO, opA, isE, isRead]
          refine sgE_call (f := 16) (args := [.agg (res6 ((lookD M pf)).e ((lookD M pf)).data ((lookD M pf)).kind ((lookD M pf)).links ((lookD M pf)).size nv591), .agg (res6 ((lookD M pf)).e ((lookD M pf)).data ((lookD M pf)).kind ((lookD M pf)).links ((lookD M pf)).size (.sl x56 x57 x58 x59))]) (by rfl) (by rfl) (by rfl) (by simp [fn16]) (result_ret W h584 ((lookD M pf)) _ _ nm592.strS bx595.nm.strS hsh3) ?_
          rintro w h598 ⟨rfl, hk599⟩
          have hm600 := hm587.keeps hk599
          have hB601 : MStep h584 h598 R585 R585 := MStep.refl hk599
          have bx602 := bx593.step hB601
          have bx603 := bx594.step hB601
          have bx604 := bx595.step hB601
          have bx605 := bx596.step hB601
          have bx606 := bx597.step hB601
          refine ⟨?_, ?_⟩
          · simp [stayR_cons, stayR_nil, Wc_seq, Wc_block, Wc_scope, Wc_skip, Wc_label, Wc_exit, Wc_ret, Wc_loop, Wc_region, Wc_cond, Nx_nil, Nx_seq, Nx_seq_exit, Nx_seq_ret, Nx_block, Nx_block_exit, Nx_block_ret, Rg_nil, Rg_cons, RgE, effA, calleeA, wantedA, enterN, ev, ofV, ofVn, putE, evalN, aBin, aInt_add, aInt_sub, aInt_mul, aInt_quo, aInt_rem, aInt_eql, aInt_neq, aInt_lss, aInt_leq, aInt_gtr, aInt_geq, aExtract, finQ_ret, resOf, extU, extEU, kq_eq, thenQ_normal, thenQ_exit, thenQ_ret, opA, fa39_0, fa39_3, ld26, ld3, ld_bx bx602.g, cell_bx bx602.g, ld_bx bx603.g, cell_bx bx603.g, ld_bx bx604.g, cell_bx bx604.g, ld_bx bx605.g, cell_bx bx605.g, ld_bx bx606.g, cell_bx bx606.g]
          simp [Wc_seq, Wc_block, Wc_scope, Wc_skip, Wc_label, Wc_exit, Wc_ret, Wc_loop, Wc_region, Wc_cond, Nx_nil, Nx_seq, Nx_seq_exit, Nx_seq_ret, Nx_block, Nx_block_exit, Nx_block_ret, Rg_nil, Rg_cons, RgE, effA, calleeA, wantedA, enterN, ev, ofV, ofVn, putE, evalN, aBin, aInt_add, aInt_sub, aInt_mul, aInt_quo, aInt_rem, aInt_eql, aInt_neq, aInt_lss, aInt_leq, aInt_gtr, aInt_geq, aExtract, finQ_ret, resOf, extU, extEU, kq_eq, thenQ_normal, thenQ_exit, thenQ_ret, Sg_cons, Sg_nil, SgO, opA, isE, isRead]
          refine sgE_call (f := 15) (args := []) (by rfl) (by rfl) (by rfl) (by simp [fn15]) (speaks_ret W _) ?_
          rintro w hZ ⟨rfl, rfl⟩
          refine ⟨?_, ?_⟩
          · simp [stayR_cons, stayR_nil, Wc_seq, Wc_block, Wc_scope, Wc_skip, Wc_label, Wc_exit, Wc_ret, Wc_loop, Wc_region, Wc_cond, Nx_nil, Nx_seq, Nx_seq_exit, Nx_seq_ret, Nx_block, Nx_block_exit, Nx_block_ret, Rg_nil, Rg_cons, RgE, effA, calleeA, wantedA, enterN, ev, ofV, ofVn, putE, evalN, aBin, aInt_add, aInt_sub, aInt_mul, aInt_quo, aInt_rem, aInt_eql, aInt_neq, aInt_lss, aInt_leq, aInt_gtr, aInt_geq, aExtract, finQ_ret, resOf, extU, extEU, kq_eq, thenQ_normal, thenQ_exit, thenQ_ret, opA, fa39_0, fa39_3, ld26, ld3, ld_bx bx602.g, cell_bx bx602.g, ld_bx bx603.g, cell_bx bx603.g, ld_bx bx604.g, cell_bx bx604.g, ld_bx bx605.g, cell_bx bx605.g, ld_bx bx606.g, cell_bx bx606.g]
          · simp [Wc_seq, Wc_block, Wc_scope, Wc_skip, Wc_label, Wc_exit, Wc_ret, Wc_loop, Wc_region, Wc_cond, Nx_nil, Nx_seq, Nx_seq_exit, Nx_seq_ret, Nx_block, Nx_block_exit, Nx_block_ret, Rg_nil, Rg_cons, RgE, effA, calleeA, wantedA, enterN, ev, ofV, ofVn, putE, evalN, aBin, aInt_add, aInt_sub, aInt_mul, aInt_quo, aInt_rem, aInt_eql, aInt_neq, aInt_lss, aInt_leq, aInt_gtr, aInt_geq, aExtract, finQ_ret, resOf, extU, extEU, kq_eq, thenQ_normal, thenQ_exit, thenQ_ret, Sg_cons, Sg_nil, SgO, opA, isE, isRead]

/-- ModelMoves, where its argument is small. -/
theorem moves_law (W : World) (av : AV) {n : Nat} (hn : n ≤ 1048576) (h : n < 1000000000 → ∃ l : List Opn, OpsS W av l ∧ l.length ≤ n) (pf pt : List UInt8) (h1 : pf.length ≤ 1048576) (h2 : pt.length ≤ 1048576) :
    ACall (CC W) 8 [av, .str pf, .str pt] AH.empty (fun w _ => w = .bool true) (fun _ _ => False) := by
  obtain ⟨l, hv, hl⟩ := h (by omega)
  exact moves_ret W av l hv pf pt (by omega) (by omega) (by omega)
end Go.Proofs.YtbofhlifobjolaaGreatDoor.Ax
end
