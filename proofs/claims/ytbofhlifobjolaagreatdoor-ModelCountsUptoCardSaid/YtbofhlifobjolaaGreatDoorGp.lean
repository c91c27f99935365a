/- The texts Paths, Moves, EqRes, JoinM, TreeF, BelowT, TreeW, DeepM, ShortM, TreeL, TreeD, IntsEq, as one. -/
import Derived.Test.YtbofhlifobjolaaGreatDoorGi
import Derived.Test.YtbofhlifobjolaaGreatDoorGe
import Derived.Test.YtbofhlifobjolaaGreatDoorGg
import Derived.Test.YtbofhlifobjolaaGreatDoorGh
import Derived.Test.YtbofhlifobjolaaGreatDoorGf

/-! What paths name, where names are put and taken away: plain -/
section
set_option linter.unusedVariables false
set_option linter.unusedSimpArgs false
namespace Go.Proofs.YtbofhlifobjolaaGreatDoor.Ax
open Go.RowKit

abbrev Names := List (List UInt8)
/-- A path leads from an inode to another one. -/
def Path (M : MS) : Names → Nat → Nat → Prop
  | [], q, r => q = r
  | s :: l, q, r => ∃ nd x, M.nodes[q]? = some nd ∧ nd.kind = 2 ∧ x ∈ nd.slots ∧ x.nm = s ∧ Path M l x.ino.toNat r

def Good (l : Names) : Prop := ∀ x ∈ l, x ≠ []
theorem Good.tail {s : List UInt8} {l : Names} (h : Good (s :: l)) : Good l := fun x hx => h x (by simp [hx])
theorem Good.take {l : Names} (h : Good l) (k : Nat) : Good (l.take k) := fun x hx => h x (List.mem_of_mem_take hx)
theorem Good.drop {l : Names} (h : Good l) : Good l.dropLast := fun x hx => h x (List.dropLast_subset l hx)

theorem Inv.uniq {M : MS} {t : Nat} {w : Nat → Int} (h : Inv M t w) {q : Nat} {nd : Nd} (hn : M.nodes[q]? = some nd) (hk : nd.kind = 2) {x y : Slt} (hx : x ∈ nd.slots) (hy : y ∈ nd.slots) (he : x.nm = y.nm) (hne : x.nm ≠ []) : x = y := by
  obtain ⟨i, hi⟩ := List.getElem?_of_mem hx
  obtain ⟨j, hj⟩ := List.getElem?_of_mem hy
  have := ((h.at hn).dir hk).2.2.2.2.2 i j x y hi hj he hne
  subst this
  rw [hi] at hj; exact Option.some.inj hj

theorem path_of_find {M : MS} (ok : MOk M) : ∀ {l : Names} {q r : Nat}, findR M l q = ((r : Int), 0) → Path M l q r
  | [], q, r, h => by simp only [findR, Prod.mk.injEq, and_true] at h; show q = r; omega
  | s :: l, q, r, h => by
    rw [findR_cons, Int.toNat_natCast] at h
    split at h
    · simp at h
    · rename_i nd hnd
      by_cases hk : nd.kind = 2
      · rw [if_pos hk] at h
        by_cases hp : placeR nd.slots s < 0
        · rw [if_pos hp] at h; simp at h
        · rw [if_neg hp] at h
          obtain ⟨i, x, e, hx, hn⟩ := placeR_lt hp
          rw [e, Int.toNat_natCast, hx] at h
          simp only at h
          have hm := List.mem_of_getElem? hx
          have hi := ok.inos nd (List.mem_of_getElem? hnd) x hm
          rw [show x.ino = ((x.ino.toNat : Nat) : Int) by omega] at h
          exact ⟨nd, x, hnd, hk, hm, hn, path_of_find ok h⟩
      · rw [if_neg hk] at h; simp at h
theorem find_of_path {M : MS} {t : Nat} {w : Nat → Int} (h : Inv M t w) (ht : t < 1000000) : ∀ {l : Names} {q r : Nat}, Good l → Path M l q r → findR M l q = ((r : Int), 0)
  | [], q, r, _, hp => by have : q = r := hp; subst this; rfl
  | s :: l, q, r, hg, hp => by
    obtain ⟨nd, x, hnd, hk, hx, hn, hp⟩ := hp
    have hs : s ≠ [] := hg s (by simp)
    have hpl : ¬ placeR nd.slots s < 0 := fun hc => placeR_neg.1 hc x hx hn
    obtain ⟨i, y, e, hy, hyn⟩ := placeR_lt hpl
    have hxy := h.uniq hnd hk hx (List.mem_of_getElem? hy) (hn.trans hyn.symm) (by rw [hn]; exact hs)
    subst hxy
    have hi := (h.ok ht).inos nd (List.mem_of_getElem? hnd) x hx
    rw [findR_cons, Int.toNat_natCast, hnd]
    simp only [if_pos hk, if_neg hpl, e, Int.toNat_natCast, hy]
    rw [show x.ino = ((x.ino.toNat : Nat) : Int) by omega]
    exact find_of_path h ht hg.tail hp

theorem path_append {M : MS} : ∀ {a b : Names} {q r : Nat}, Path M (a ++ b) q r ↔ ∃ m, Path M a q m ∧ Path M b m r
  | [], b, q, r => by simp [Path]
  | s :: a, b, q, r => by
    simp only [List.cons_append, Path]
    constructor
    · rintro ⟨nd, x, h1, h2, h3, h4, h5⟩
      obtain ⟨m, h6, h7⟩ := path_append.1 h5
      exact ⟨m, ⟨nd, x, h1, h2, h3, h4, h6⟩, h7⟩
    · rintro ⟨m, ⟨nd, x, h1, h2, h3, h4, h6⟩, h7⟩
      exact ⟨nd, x, h1, h2, h3, h4, path_append.2 ⟨m, h6, h7⟩⟩
theorem path_fun {M : MS} {t : Nat} {w : Nat → Int} (h : Inv M t w) : ∀ {l : Names} {q r r' : Nat}, Good l → Path M l q r → Path M l q r' → r = r'
  | [], q, r, r', _, h1, h2 => by have e1 : q = r := h1; have e2 : q = r' := h2; omega
  | s :: l, q, r, r', hg, ⟨nd, x, a1, a2, a3, a4, a5⟩, ⟨nd', x', b1, b2, b3, b4, b5⟩ => by
    rw [a1] at b1; cases b1
    have := h.uniq a1 a2 a3 b3 (a4.trans b4.symm) (by rw [a4]; exact hg s (by simp))
    subst this
    exact path_fun h hg.tail a5 b5
theorem path_take {M : MS} {l : Names} {q r : Nat} (k : Nat) (h : Path M l q r) : ∃ m, Path M (l.take k) q m ∧ Path M (l.drop k) m r := by
  rw [← List.take_append_drop k l] at h
  exact path_append.1 h

/-- The last step of a path. -/
theorem path_last {M : MS} {l : Names} {q r : Nat} (hl : l ≠ []) (h : Path M l q r) : ∃ d nd x, Path M l.dropLast q d ∧ M.nodes[d]? = some nd ∧ nd.kind = 2 ∧ x ∈ nd.slots ∧ x.nm = l.getLast?.getD [] ∧ x.ino.toNat = r := by
  have hl2 : l = l.dropLast ++ [l.getLast?.getD []] := by
    rw [List.getLast?_eq_some_getLast hl]; exact (List.dropLast_concat_getLast hl).symm
  rw [hl2] at h
  obtain ⟨d, h1, nd, x, h2, h3, h4, h5, h6⟩ := path_append.1 h
  exact ⟨d, nd, x, h1, h2, h3, h4, h5, h6⟩
theorem path_step {M : MS} {l : Names} {q d : Nat} {nd : Nd} {x : Slt} (hl : l ≠ []) (h : Path M l.dropLast q d) (hn : M.nodes[d]? = some nd) (hk : nd.kind = 2) (hx : x ∈ nd.slots) (he : x.nm = l.getLast?.getD []) : Path M l q x.ino.toNat := by
  have hl2 : l = l.dropLast ++ [l.getLast?.getD []] := by
    rw [List.getLast?_eq_some_getLast hl]; exact (List.dropLast_concat_getLast hl).symm
  rw [hl2]
  exact path_append.2 ⟨d, h, nd, x, hn, hk, hx, he, rfl⟩

/-- Two slots that name an inode of one name are one. -/
theorem refs_one : ∀ {l : List Nd} {i d d' j j' : Nat} {nd nd' : Nd} {x x' : Slt}, refsL l i ≤ 1 → l[d]? = some nd → l[d']? = some nd' → nd.slots[j]? = some x → nd'.slots[j']? = some x' → live i x = true → live i x' = true → d = d' ∧ j = j'
  | [], i, d, d', j, j', nd, nd', x, x', _, h1, _, _, _, _, _ => by simp at h1
  | n :: l, i, d, d', j, j', nd, nd', x, x', hr, h1, h2, h3, h4, h5, h6 => by
    simp only [refsL] at hr
    have p1 := cnt_pos h3 h5
    have p2 := cnt_pos h4 h6
    cases d with
    | zero =>
      simp at h1; subst h1
      cases d' with
      | zero =>
        simp at h2; subst h2
        refine ⟨rfl, ?_⟩
        by_cases e : j = j'
        · exact e
        · exfalso
          have c1 := cnt_set (y := ⟨[], 0⟩) i h3
          have h4' : (n.slots.set j ⟨[], 0⟩)[j']? = some x' := by rw [List.getElem?_set_ne e]; exact h4
          have c2 := cnt_pos h4' h6
          rw [ind_none (i := i) (s := ⟨[], 0⟩) rfl] at c1
          simp only [ind, h5, if_true] at c1
          omega
      | succ d' =>
        have := refsL_ge i (show l[d']? = some nd' by simpa using h2)
        omega
    | succ d =>
      cases d' with
      | zero =>
        simp at h2; subst h2
        have := refsL_ge i (show l[d]? = some nd by simpa using h1)
        omega
      | succ d' =>
        obtain ⟨a, b⟩ := refs_one (show refsL l i ≤ 1 by omega) (show l[d]? = some nd by simpa using h1) (show l[d']? = some nd' by simpa using h2) h3 h4 h5 h6
        exact ⟨by omega, b⟩

/-- A directory has one path. -/
theorem path_dir {M : MS} {t : Nat} (h : Fine M t) (ht : t < 1000000) : ∀ (n : Nat) {a b : Names} {i : Nat} {nd : Nd}, a.length ≤ n → Good a → Good b → Path M a 0 i → Path M b 0 i → M.nodes[i]? = some nd → nd.kind = 2 → a = b := by
  have ok := h.ok ht
  have root : ∀ {b : Names}, Good b → Path M b 0 0 → b = [] := by
    intro b hb hp
    by_cases e : b = []
    · exact e
    · exfalso
      obtain ⟨d, nd, x, _, h2, h3, h4, h5, h6⟩ := path_last e hp
      obtain ⟨r, hr, hrk⟩ := h.root
      have hi := ok.inos nd (List.mem_of_getElem? h2) x h4
      obtain ⟨j, hj⟩ := List.getElem?_of_mem h4
      have hne : x.nm ≠ [] := by rw [h5]; exact last_ne e hb
      have c := cnt_pos (i := 0) hj (by simp [live, hne]; omega)
      have g := refsL_ge 0 h2
      have w := h.ref 0 h.pos
      simp only [wantM, hr, want, hrk] at w
      simp at w
      omega
  intro n
  induction n with
  | zero =>
    intro a b i nd hl ha hb p1 p2 hn hk
    have : a = [] := List.length_eq_zero_iff.1 (by omega)
    subst this
    have e : (0 : Nat) = i := p1
    subst e
    exact (root hb p2).symm
  | succ n ih =>
    intro a b i nd hl ha hb p1 p2 hn hk
    by_cases ea : a = []
    · subst ea
      have e : (0 : Nat) = i := p1
      subst e
      exact (root hb p2).symm
    · by_cases eb : b = []
      · subst eb
        have e : (0 : Nat) = i := p2
        subst e
        exact absurd (root ha p1) ea
      · obtain ⟨d, nda, x, q1, q2, q3, q4, q5, q6⟩ := path_last ea p1
        obtain ⟨d', ndb, y, r1, r2, r3, r4, r5, r6⟩ := path_last eb p2
        obtain ⟨j, hj⟩ := List.getElem?_of_mem q4
        obtain ⟨j', hj'⟩ := List.getElem?_of_mem r4
        have hx := ok.inos nda (List.mem_of_getElem? q2) x q4
        have hy := ok.inos ndb (List.mem_of_getElem? r2) y r4
        have hxn : x.nm ≠ [] := by rw [q5]; exact last_ne ea ha
        have hyn : y.nm ≠ [] := by rw [r5]; exact last_ne eb hb
        have hil := (List.getElem?_eq_some_iff.1 hn).1
        have w := h.ref i hil
        simp only [wantM, hn, want, hk] at w
        have hle : refsL M.nodes i ≤ 1 := by
          by_cases e : i = 0
          · simp [e] at w; rw [e]; omega
          · simp [e] at w; omega
        obtain ⟨e1, e2⟩ := refs_one hle q2 r2 hj hj' (by simp [live, hxn]; omega) (by simp [live, hyn]; omega)
        subst e1; subst e2
        rw [q2] at r2; cases r2
        rw [hj] at hj'; cases hj'
        have hd := ih (by simp; omega) ha.drop hb.drop q1 r1 q2 q3
        have hla : a = a.dropLast ++ [a.getLast?.getD []] := by
          rw [List.getLast?_eq_some_getLast ea]; exact (List.dropLast_concat_getLast ea).symm
        have hlb : b = b.dropLast ++ [b.getLast?.getD []] := by
          rw [List.getLast?_eq_some_getLast eb]; exact (List.dropLast_concat_getLast eb).symm
        rw [hla, hlb, hd, ← q5, ← r5]

theorem path_set {M : MS} {i : Nat} {nd nd' : Nd} (hn : M.nodes[i]? = some nd) (hk : nd'.kind = nd.kind) (hs : ∀ x ∈ nd.slots, x.nm ≠ [] → x ∈ nd'.slots) : ∀ {l : Names} {q r : Nat}, Good l → Path M l q r → Path (M.set i nd') l q r
  | [], q, r, _, h => h
  | s :: l, q, r, hg, ⟨n, x, h1, h2, h3, h4, h5⟩ => by
    have hil := (List.getElem?_eq_some_iff.1 hn).1
    have ih := path_set hn hk hs hg.tail h5
    by_cases e : i = q
    · subst e
      rw [hn] at h1; cases h1
      exact ⟨nd', x, by simp [MS.set, hil], by rw [hk]; exact h2, hs x h3 (by rw [h4]; exact hg s (by simp)), h4, ih⟩
    · exact ⟨n, x, by simp only [MS.set]; rw [List.getElem?_set_ne e]; exact h1, h2, h3, h4, ih⟩

/-- A slot that is taken: a path goes on as it was, or it went through it. -/
theorem path_taken {M : MS} {d j : Nat} {nd : Nd} {x0 : Slt} (hn : M.nodes[d]? = some nd) (hx0 : nd.slots[j]? = some x0) : ∀ {l : Names} {q r : Nat}, Path M l q r → Path (takeR M d j) l q r ∨ ∃ k, Path M (l.take k) q d ∧ l[k]? = some x0.nm
  | [], q, r, h => .inl h
  | s :: l, q, r, ⟨n, x, h1, h2, h3, h4, h5⟩ => by
    have hdl := (List.getElem?_eq_some_iff.1 hn).1
    by_cases e : d = q
    · subst e
      rw [hn] at h1; cases h1
      by_cases hs : s = x0.nm
      · exact .inr ⟨0, rfl, by simp [hs]⟩
      · rcases path_taken hn hx0 h5 with ih | ⟨k, ih1, ih2⟩
        · left
          refine ⟨{ nd with slots := nd.slots.set j ⟨[], 0⟩ }, x, by simp only [takeR, hn, MS.set]; rw [List.getElem?_set, if_pos rfl, if_pos hdl], h2, ?_, h4, ih⟩
          obtain ⟨i, hi⟩ := List.getElem?_of_mem h3
          have hij : j ≠ i := by
            rintro rfl; rw [hx0] at hi; cases hi; exact hs h4.symm
          exact List.mem_of_getElem? (show (nd.slots.set j ⟨[], 0⟩)[i]? = some x by rw [List.getElem?_set_ne hij]; exact hi)
        · exact .inr ⟨k + 1, ⟨nd, x, hn, h2, h3, h4, ih1⟩, by simpa using ih2⟩
    · rcases path_taken hn hx0 h5 with ih | ⟨k, ih1, ih2⟩
      · left
        exact ⟨n, x, by simp only [takeR, hn, MS.set]; rw [List.getElem?_set_ne e]; exact h1, h2, h3, h4, ih⟩
      · exact .inr ⟨k + 1, ⟨n, x, h1, h2, h3, h4, ih1⟩, by simpa using ih2⟩

theorem put_node {M : MS} {p : Nat} {nd : Nd} {nm : List UInt8} {a : Int} (hn : M.nodes[p]? = some nd) (hr : (putR M p nm a).1 = true) :
    ∃ sl sz, (putR M p nm a).2 = M.set p { nd with slots := sl, size := sz } ∧ (∀ x ∈ nd.slots, x.nm ≠ [] → x ∈ sl) ∧ (⟨nm, a⟩ : Slt) ∈ sl ∧ ∀ x ∈ sl, x ∈ nd.slots ∨ x = ⟨nm, a⟩ := by
  unfold putR at hr ⊢
  simp only [hn] at hr ⊢
  by_cases hf : 0 ≤ placeR nd.slots []
  · simp only [if_pos hf]
    obtain ⟨j, x, e, hx, hxn⟩ := placeR_lt (l := nd.slots) (s := []) (by omega)
    rw [e, Int.toNat_natCast]
    have hjl := (List.getElem?_eq_some_iff.1 hx).1
    refine ⟨_, _, rfl, fun y hy hyn => ?_, ?_, fun y hy => ?_⟩
    · obtain ⟨i, hi⟩ := List.getElem?_of_mem hy
      have hij : j ≠ i := by rintro rfl; rw [hx] at hi; cases hi; exact hyn hxn
      exact List.mem_of_getElem? (show (nd.slots.set j ⟨nm, a⟩)[i]? = some y by rw [List.getElem?_set_ne hij]; exact hi)
    · exact List.mem_of_getElem? (show (nd.slots.set j ⟨nm, a⟩)[j]? = some ⟨nm, a⟩ by simp [hjl])
    · rcases List.mem_or_eq_of_mem_set hy with h | h
      · exact .inl h
      · exact .inr h
  · simp only [if_neg hf] at hr ⊢
    split at hr
    · cases hr
    · rename_i hd
      rw [if_neg hd]
      exact ⟨_, _, rfl, fun y hy _ => by simp [hy], by simp, fun y hy => by simpa using hy⟩
end Go.Proofs.YtbofhlifobjolaaGreatDoor.Ax
end

/-! There and back: a name that is moved, and a link that is taken away again: plain -/
section
set_option linter.unusedVariables false
set_option linter.unusedSimpArgs false
namespace Go.Proofs.YtbofhlifobjolaaGreatDoor.Ax
open Go.RowKit

theorem getLast_concat {l : Names} (h : l ≠ []) : l = l.dropLast ++ [l.getLast?.getD []] := by
  rw [List.getLast?_eq_some_getLast h]; exact (List.dropLast_concat_getLast h).symm

/-- A node that a name was put into, or another one. -/
theorem set_node {M : MS} {p q : Nat} {nd' x : Nd} (h : (M.set p nd').nodes[q]? = some x) : (q = p ∧ x = nd') ∨ (q ≠ p ∧ M.nodes[q]? = some x) := getElem?_set' h
theorem set_other {M : MS} {p q : Nat} {nd' : Nd} (h : q ≠ p) : (M.set p nd').nodes[q]? = M.nodes[q]? := by
  simp only [MS.set]; exact List.getElem?_set_ne (Ne.symm h)
theorem set_at {M : MS} {p : Nat} {nd' : Nd} (h : p < M.nodes.length) : (M.set p nd').nodes[p]? = some nd' := by simp [MS.set, h]


/-- What is renamed. -/
structure Moved (M M1 : MS) (fl tl : Names) (i d p : Nat) (nd : Nd) : Prop where
  from_ : Path M fl 0 i
  node : M.nodes[i]? = some nd
  to : Path M1 tl 0 i
  node1 : M1.nodes[i]? = some nd

theorem renameR_ok {M : MS} {t : Nat} (h : Fine M t) (ht : t < 1000000) {pt tt : List UInt8} {fl tl : Names} (hf : Good fl) (hr : (renameR M pt tt fl tl).1 = 0) :
    fl ≠ [] ∧ tl ≠ [] ∧ ∃ i nd d ndd j x p ndp, findR M fl 0 = (((i : Nat) : Int), 0) ∧ M.nodes[i]? = some nd ∧ i ≠ 0 ∧ (nd.kind = 1 ∨ nd.kind = 2) ∧ findR M fl.dropLast 0 = (((d : Nat) : Int), 0) ∧ M.nodes[d]? = some ndd ∧ ndd.kind = 2 ∧ ndd.slots[j]? = some x ∧ x.ino = (i : Int) ∧ x.nm = fl.getLast?.getD [] ∧ x.nm ≠ [] ∧
      findR M tl.dropLast 0 = (((p : Nat) : Int), 0) ∧ M.nodes[p]? = some ndp ∧ ndp.kind = 2 ∧ placeR ndp.slots (tl.getLast?.getD []) < 0 ∧ ¬ ((belowR tt pt).1 = true ∧ nd.kind = 2) ∧
      (putR (takeR M d j) p (tl.getLast?.getD []) i).1 = true ∧ (renameR M pt tt fl tl).2 = (putR (takeR M d j) p (tl.getLast?.getD []) i).2 := by
  have ok := h.ok ht
  by_cases hl0 : fl = []
  · have e : renameR M pt tt fl tl = (309, M) := by simp only [renameR, if_pos hl0]
    rw [e] at hr; exact absurd hr (by simp)
  by_cases he : (findR M fl 0).2 = 0
  · obtain ⟨i, nd, d, ndd, j, x, hfd, hnd, hi0, hk, hd, hndd, hkd, hj, hxj, hxi, hxn, hxne⟩ := h.last ht hf hl0 he
    have e : renameR M pt tt fl tl = if (belowR tt pt).1 = true ∧ nd.kind = 2 then ((309 : Int), M)
        else if (parentR M tl).2 = 0 then
            if (putR (takeR M d j) (parentR M tl).1.toNat (tl.getLast?.getD []) i).1 = true then
              ((0 : Int), (putR (takeR M d j) (parentR M tl).1.toNat (tl.getLast?.getD []) i).2)
            else ((306 : Int), M)
        else ((parentR M tl).2, M) := by
      simp only [renameR, if_neg hl0, hfd, hd, Int.toNat_natCast, hnd, hndd, hj, if_true]
    rw [e] at hr ⊢
    by_cases hb : (belowR tt pt).1 = true ∧ nd.kind = 2
    · rw [if_pos hb] at hr; exact absurd hr (by simp)
    · rw [if_neg hb] at hr ⊢
      by_cases hp : (parentR M tl).2 = 0
      · obtain ⟨hl20, p, ndp, hp1, hndp, hkp, hplace, hpf⟩ := parentR_ok ok hp
        rw [if_pos hp, hp1, Int.toNat_natCast] at hr ⊢
        by_cases hpr : (putR (takeR M d j) p (tl.getLast?.getD []) (i : Int)).1 = true
        · rw [if_pos hpr]
          exact ⟨hl0, hl20, i, nd, d, ndd, j, x, p, ndp, hfd, hnd, hi0, hk, hd, hndd, hkd, hxj, hxi, hxn, hxne, hpf, hndp, hkp, hplace, hb, hpr, rfl⟩
        · rw [if_neg hpr] at hr; exact absurd hr (by simp)
      · rw [if_neg hp] at hr; exact absurd hr hp
  · have e : renameR M pt tt fl tl = ((findR M fl 0).2, M) := by simp only [renameR, if_neg hl0, if_neg he]
    rw [e] at hr; exact absurd hr he

theorem belowR_eq {p q : List UInt8} (hp : (splitR p).2 = 0) (hq : (splitR q).2 = 0) : (belowR p q).1 = true ↔ (splitR q).1.length < (splitR p).1.length ∧ (splitR p).1.take (splitR q).1.length = (splitR q).1 := by
  simp only [belowR]
  rw [if_neg (by simpa using hp), if_neg (by simpa using hq)]
  simp

theorem take_get_last {l : Names} {k : Nat} {s : List UInt8} (h : l[k]? = some s) : l.take (k + 1) = l.take k ++ [s] := by
  rw [List.take_add_one, h]; rfl


theorem rename_ill {M : MS} {t : Nat} (h : Fine M t) (ht : t < 1000000) {pt tt : List UInt8} {fl tl : Names} (hf : Good fl) (hr : (renameR M pt tt fl tl).1 ≠ 0) : (renameR M pt tt fl tl).2 = M := by
  have ok := h.ok ht
  by_cases hl0 : fl = []
  · simp only [renameR, if_pos hl0]
  by_cases he : (findR M fl 0).2 = 0
  · obtain ⟨i, nd, d, ndd, j, x, hfd, hnd, hi0, hk, hd, hndd, hkd, hj, hxj, hxi, hxn, hxne⟩ := h.last ht hf hl0 he
    have e : renameR M pt tt fl tl = if (belowR tt pt).1 = true ∧ nd.kind = 2 then ((309 : Int), M)
        else if (parentR M tl).2 = 0 then
            if (putR (takeR M d j) (parentR M tl).1.toNat (tl.getLast?.getD []) i).1 = true then
              ((0 : Int), (putR (takeR M d j) (parentR M tl).1.toNat (tl.getLast?.getD []) i).2)
            else ((306 : Int), M)
        else ((parentR M tl).2, M) := by
      simp only [renameR, if_neg hl0, hfd, hd, Int.toNat_natCast, hnd, hndd, hj, if_true]
    rw [e] at hr ⊢
    split
    · rfl
    · split
      · split
        · rename_i g1 g2 g3
          rw [if_neg g1, if_pos g2, if_pos g3] at hr
          exact absurd rfl hr
        · rfl
      · rfl
  · simp only [renameR, if_neg hl0, if_neg he]




end Go.Proofs.YtbofhlifobjolaaGreatDoor.Ax
end

/-! Answers that are the same; boxes of answers -/
section
set_option linter.unusedVariables false
set_option linter.unusedSimpArgs false
namespace Go.Proofs.YtbofhlifobjolaaGreatDoor.Ax
open Go.RowKit



/-- Names in a block beside a model, or none. -/
def NmB (h : AH) (R : MR) (nv : AV) (l : List (List UInt8)) : Prop := l = [] ∧ nv = .sl none 0 0 none ∨ ∃ k, k < h.next ∧ k ∉ R.ids ∧ h.get k = some (.cells (l.map .str) 9) ∧ nv = .sl (some (.new k 0)) l.length l.length (some 1)
theorem NmB.step {h h' : AH} {R R' : MR} {nv : AV} {l : List (List UInt8)} (hn : NmB h R nv l) (hB : MStep h h' R R') : NmB h' R' nv l := by
  rcases hn with ⟨rfl, rfl⟩ | ⟨k, h1, h2, h3, rfl⟩
  · exact .inl ⟨rfl, rfl⟩
  · obtain ⟨a, b, c⟩ := hB.box h3 h1 h2
    exact .inr ⟨k, b, c, a, rfl⟩
theorem NmB.strS {W : World} {h : AH} {R : MR} {nv : AV} {l : List (List UInt8)} (hn : NmB h R nv l) : StrS W h nv l := by
  rcases hn with ⟨rfl, rfl⟩ | ⟨k, h1, h2, h3, rfl⟩
  · exact StrS.nil
  · refine ⟨_, _, _, rfl, ⟨Nat.le_refl _, .inr rfl⟩, fun j x hx => ⟨_, rfl, h1, ?_, _, h3⟩⟩
    simp only [AA.add, aCell, h3, Nat.zero_add]
    simp [hx]
theorem NmB.isSl {h : AH} {R : MR} {nv : AV} {l : List (List UInt8)} (hn : NmB h R nv l) : ∃ p n c g, nv = .sl p n c g := by
  rcases hn with ⟨_, rfl⟩ | ⟨k, _, _, _, rfl⟩ <;> exact ⟨_, _, _, _, rfl⟩

/-- An answer in a box beside a model. -/
def BoxAt (h : AH) (R : MR) (k : Nat) (r : Res) : Prop := ∃ nv, h.get k = some (bxC r nv) ∧ k < h.next ∧ k ∉ R.ids ∧ NmB h R nv r.names
theorem BoxAt.step {h h' : AH} {R R' : MR} {k : Nat} {r : Res} (hb : BoxAt h R k r) (hB : MStep h h' R R') : BoxAt h' R' k r := by
  obtain ⟨nv, g, lt, ni, nm⟩ := hb
  obtain ⟨a, b, c⟩ := hB.box g lt ni
  exact ⟨nv, a, b, c, nm.step hB⟩




/-- An answer in a box beside a model, its names told. -/
structure BoxV (h : AH) (R : MR) (k : Nat) (r : Res) (nv : AV) : Prop where
  g : h.get k = some (bxC r nv)
  lt : k < h.next
  ni : k ∉ R.ids
  nm : NmB h R nv r.names
theorem BoxV.step {h h' : AH} {R R' : MR} {k : Nat} {r : Res} {nv : AV} (hb : BoxV h R k r nv) (hB : MStep h h' R R') : BoxV h' R' k r nv := by
  obtain ⟨a, b, c⟩ := hB.box hb.g hb.lt hb.ni
  exact ⟨a, b, c, hb.nm.step hB⟩

end Go.Proofs.YtbofhlifobjolaaGreatDoor.Ax
end

/-! strings.Join by a slash, and a slice's copy -/
section
set_option linter.unusedVariables false
set_option linter.unusedSimpArgs false
namespace Go.Proofs.YtbofhlifobjolaaGreatDoor.Ax
open Go.RowKit

theorem ARel.form {ρ : Rho} {a : AA} {A : Addr} (h : ARel ρ a A) : ∃ b o, A = ⟨b, o, none⟩ := by
  cases a with
  | base b o => exact ⟨b, o, h⟩
  | new k o => obtain ⟨r, _, hA⟩ := h; exact ⟨_, _, hA⟩

theorem cap_of {ρ : Rho} {a : AA} {len cap : Nat} {gr : Option Nat} {X : Value} (hx : VRel ρ (.sl (some a) len cap gr) X) (hl : 0 < len) (hc : len ≤ cap) : ∃ A cap', X = .slice (some A) len cap' ∧ ARel ρ a A ∧ len ≤ cap' := by
  cases a with
  | base b o => simp only [VRel] at hx; exact ⟨_, _, hx.2, rfl, hc⟩
  | new k o =>
    simp only [VRel] at hx
    obtain ⟨r, A, cap', hr, hX, h1, h2, h3, h4⟩ := hx
    rcases h4 with ⟨hA, _⟩ | h0
    · exact ⟨A, cap', hX, ⟨r, hr, hA⟩, h1⟩
    · omega

theorem sl_zero {ρ : Rho} {a : Option AA} {cap : Nat} {gr : Option Nat} {X : Value} (hx : VRel ρ (.sl a 0 cap gr) X) : ∃ A cap', X = .slice A 0 cap' := by
  cases a with
  | none => simp only [VRel] at hx; exact ⟨_, _, hx.2.2.2⟩
  | some a => cases a with
    | base b o => simp only [VRel] at hx; exact ⟨_, _, hx.2⟩
    | new k o => simp only [VRel] at hx; obtain ⟨r, A, cap', hr, hX, _⟩ := hx; exact ⟨_, _, hX⟩

theorem gojoin_ret (W : World) (h : AH) (v : AV) (l : List (List UInt8)) (hs : StrS W h v l) (hl : (Lib.join l [47]).length < 8796093022207) (hn : l.length < 8796093022207) :
    RetH (CC W) 97 [v, .str [47]] h (.str (Lib.join l [47])) := by
  refine ret_of_calls fun ρ W1 vs R hv => ?_
  obtain ⟨a, c, gr, rfl, ⟨hcl, _⟩, hc⟩ := hs
  simp only [VsRel] at hv
  obtain ⟨X, r1, e1, hX, Y, r2, e2, hY, e3⟩ := hv
  subst e3
  have eY := str_rel hY
  rw [e2] at e1
  by_cases h0 : l = []
  · subst h0
    obtain ⟨A, cap', rfl⟩ := sl_zero hX
    have ev : vs = #[.slice A 0 cap', .string ⟨#[47]⟩] := Array.toList_inj.1 (by rw [e1, eY])
    rw [ev]
    refine (Sh.strings_Join_none A cap' ⟨#[47]⟩ W1).mono fun e W' ⟨he, hw⟩ => ⟨⟨_, he, by simp [VRel, Lib.join_nil]⟩, hw ▸ Below.refl _ _⟩
  · have hpos : 0 < l.length := List.length_pos_iff.2 h0
    obtain ⟨a', ha, _, hc0, _⟩ := hc 0 l[0] (by simp [hpos])
    subst ha
    obtain ⟨A, cap', rfl, hA, hcap⟩ := cap_of hX hpos hcl
    obtain ⟨b, o, rfl⟩ := hA.form
    have hcells : ∀ (j : Nat) x, l[j]? = some x → W1.cell? ⟨b, o + j, none⟩ = some (.string ⟨x.toArray⟩) := by
      intro j x hx
      obtain ⟨a2, h2, _, hcell, _⟩ := hc j x hx
      cases h2
      obtain ⟨V, hV, hr⟩ := cell_rel R (hA.add j) hcell
      rw [add_addr] at hV
      rw [hV, str_rel hr]
    have ev : vs = #[.slice (some ⟨b, o, none⟩) l.length cap', .string ⟨#[47]⟩] := Array.toList_inj.1 (by rw [e1, eY])
    have hm : (l.map fun x => (⟨x.toArray⟩ : ByteArray)).map (·.data.toList) = l := by
      rw [List.map_map]; simp [Function.comp_def]
    have := Sh.strings_Join b o cap' (l.map fun x => (⟨x.toArray⟩ : ByteArray)) ⟨#[47]⟩ W1 (fun j x hx => by
        rw [List.getElem?_map, Option.map_eq_some_iff] at hx
        obtain ⟨y, hy, rfl⟩ := hx
        exact hcells j y hy)
      (World.block_lt_of_cell? _ _ (hcells 0 l[0] (by simp [hpos]))) (by simp; omega) (by simpa using hcap) (by rw [hm]; show (Lib.join l [47]).length ≤ _; omega)
    rw [hm, List.length_map] at this
    rw [ev]
    exact this.mono fun e W' ⟨he, hw⟩ => ⟨⟨_, he, by simp [VRel]⟩, hw⟩

/-- The names one behind the other, each behind a slash. -/
def catR (l : List (List UInt8)) : List UInt8 := (l.map fun x => 47 :: x).flatten

theorem join_cat (l : List (List UInt8)) (h : l ≠ []) : 47 :: Lib.join l [47] = catR l := by
  cases l with
  | nil => exact absurd rfl h
  | cons x r => rw [Lib.join_cons]; simp [catR, Lib.joinTail]


theorem build_none {W : World} {h : AH} : aBuildSlice (CC W) h 37 0 [] = some (.sl (some (.new h.next 0)) 0 0 none, h.push (.cells [] 9)) := by
  simp only [aBuildSlice, kind37, size9, zero9]
  rfl
theorem append_all {W : World} {h : AH} {k : Nat} {l : List (List UInt8)} (hk : k < h.next) (hg : h.get k = some (.cells (l.map .str) 9)) (hl : l.length < 8796093022207) (hpos : l ≠ []) :
    aAppend (CC W) (h.push (.cells [] 9)) #[37, 37] (.sl (some (.new h.next 0)) 0 0 none) (.sl (some (.new k 0)) l.length l.length (some 1)) =
      some (.sl (some (.new (h.next + 1) 0)) l.length l.length (some 1), (h.push (.cells [] 9)).push (.cells (l.map .str) 9)) := by
  have hb : (CC W).bytes 9 = 16 := _root_.id rfl
  have hni : niOK (CC W) #[37, 37] = true := _root_.id rfl
  have hne : k ≠ h.next := by omega
  have h0 : l.length ≠ 0 := fun e => hpos (List.length_eq_zero_iff.1 e)
  have hnews : aNews (CC W) (h.push (.cells [] 9)) 1 (.sl (some (.new k 0)) l.length l.length (some 1)) = some (l.length, l.map .str) := by
    simp [aNews, aCells, hne, hg, hpos, List.take_of_length_le]
  simp [aAppend, kind37, size9, zero9, hb, hni, hnews, hpos]
  first | omega | exact ⟨by omega, List.take_of_length_le (by simp)⟩ | exact List.take_of_length_le (by simp)

set_option maxHeartbeats 4000000 in
theorem cloneS_ret (W : World) (h0 h : AH) (v : AV) (l : List (List UInt8)) (ho : OwnS h0 h v l) (hv : l = [] → v = .sl none 0 0 none) (hl : l.length < 8796093022207) :
    RetQ (CC W) 98 [v] h (fun w h' => OwnS h h' w l) := by
  refine jj9 (cc_ok W) (fn98 W) (by simp only [Tryz.f98]; rfl) rfl rfl ?_
  obtain ⟨_, ⟨rfl, rfl⟩ | ⟨k, h1, h2, h3, rfl⟩⟩ := ho
  · simp [qa9, qb9, qc9, qd9, qe9, qf9, qg9, qh9, qi9, qj9, qk9, ql9, qm9, qn9, qo9, qp9, qq9, qr9, qs9, qt9, qu9, qv9, qw9, qx9, ev, qy9, qz9, za9, zb9, zc9, zd9, ze9, zf9, zg9, zh9, zi9, zj9, zk9, zl9, zm9, zn9, zo9, zp9, zq9, zr9, zs9, zt9, zu9, zv9, zw9, aEq, aEqIn, kind37]
    exact ⟨Keeps.refl _, OwnS.start h⟩
  · by_cases hp : l = []
    · exact absurd (hv hp) (by simp)
    · have hap := append_all (W := W) h2 h3 hl hp
      simp [qa9, qb9, qc9, qd9, qe9, qf9, qg9, qh9, qi9, qj9, qk9, ql9, qm9, qn9, qo9, qp9, qq9, qr9, qs9, qt9, qu9, qv9, qw9, qx9, ev, qy9, qz9, za9, zb9, zc9, zd9, ze9, zf9, zg9, zh9, zi9, zj9, zk9, zl9, zm9, zn9, zo9, zp9, zq9, zr9, zs9, zt9, zu9, zv9, zw9, aEq, aEqIn, kind37, build_none, hap]
      exact ⟨(Keeps.push _ _).trans (Keeps.push _ _), (Keeps.push _ _).trans (Keeps.push _ _), .inr ⟨h.next + 1, by omega, by simp, by simp, rfl⟩⟩
end Go.Proofs.YtbofhlifobjolaaGreatDoor.Ax
end

/-! A tree of files: the slice's cells -/
section
set_option linter.unusedVariables false
set_option linter.unusedSimpArgs false
namespace Go.Proofs.YtbofhlifobjolaaGreatDoor.Ax
open Go.RowKit

structure Fl where
  path : List UInt8
  ino : Int
  kind : Int
  links : Int
  size : Int
  blocks : List Int
  data : List UInt8
def flC (p : Fl × AV) : List AV := [.str p.1.path, .int .i64 p.1.ino, .int .i64 p.1.kind, .int .i64 p.1.links, .int .i64 p.1.size, p.2, .str p.1.data]
def flCs (ps : List (Fl × AV)) : List AV := ps.flatMap flC
theorem flCs_len : ∀ (ps : List (Fl × AV)), (flCs ps).length = ps.length * 7
  | [] => rfl
  | p :: ps => by
    show (flC p ++ flCs ps).length = _
    rw [List.length_append, flCs_len ps]; simp [flC]; omega
theorem flCs_append (a b : List (Fl × AV)) : flCs (a ++ b) = flCs a ++ flCs b := by simp [flCs]
theorem IntS.one {h : AH} {v : AV} {l : List Int} (hi : IntS h v l) : aOne v = true := by
  rcases hi with ⟨_, rfl⟩ | ⟨k, cap, gr, _, rfl, _⟩ <;> rfl
theorem flCs_one {h : AH} : ∀ {ps : List (Fl × AV)}, (∀ p ∈ ps, IntS h p.2 p.1.blocks) → (flCs ps).all aOne = true
  | [], _ => rfl
  | p :: ps, hp => by
    have h1 := (hp p (by simp)).one
    have h2 := flCs_one (ps := ps) fun q hq => hp q (by simp [hq])
    show (flC p ++ flCs ps).all aOne = true
    rw [List.all_append, h2]
    simp [flC, aOne, h1]
    cases hv : p.2 <;> simp_all [aOne]

/-- Files' blocks, if an own block of files ends. -/
theorem IntS.kill {h : AH} {v : AV} {l : List Int} {k : Nat} {p : Fl × AV} {ps : List (Fl × AV)} {t : TypeId} (hi : IntS h v l) (hg : h.get k = some (.cells (flCs (p :: ps)) t)) : IntS (h.kill k) v l := by
  rcases hi with h1 | ⟨j, cap, gr, h1, h2, h3⟩
  · exact .inl h1
  · have hne : j ≠ k := by
      rintro rfl
      rw [h3] at hg
      simp only [Option.some.injEq, AObj.cells.injEq] at hg
      cases l <;> simp [ints, flCs, flC] at hg
    exact .inr ⟨j, cap, gr, by rw [AH.next_kill']; exact h1, h2, by rw [AH.get_kill', if_neg hne]; exact h3⟩

/-- Files in an own block: as it was built, or an append's, behind a state. -/
def OwnF (h0 h : AH) (v : AV) (l : List Fl) : Prop :=
  Keeps h0 h ∧ ∃ k gr p ps, (p :: ps).map Prod.fst = l ∧ k < h.next ∧ h.get k = some (.cells (flCs (p :: ps)) 55) ∧ (∀ q ∈ p :: ps, IntS h q.2 q.1.blocks) ∧ v = .sl (some (.new k 0)) l.length l.length gr ∧ (gr = none ∨ gr = some 7 ∧ h0.next ≤ k)
theorem OwnF.keeps {h0 h h' : AH} {v : AV} {l : List Fl} (ho : OwnF h0 h v l) (hk : Keeps h h') : OwnF h0 h' v l := by
  obtain ⟨a, k, gr, p, ps, b, d, e, f, g⟩ := ho
  exact ⟨a.trans hk, k, gr, p, ps, b, Nat.lt_of_lt_of_le d hk.1, (hk.2 k d).trans e, fun q hq => (f q hq).keeps hk, g⟩
theorem OwnF.le {h00 h0 h : AH} {v : AV} {l : List Fl} (ho : OwnF h0 h v l) (hk : Keeps h00 h0) : OwnF h00 h v l := by
  obtain ⟨a, k, gr, p, ps, b, d, e, f, g, q⟩ := ho
  refine ⟨hk.trans a, k, gr, p, ps, b, d, e, f, g, ?_⟩
  rcases q with q | ⟨q, r⟩
  · exact .inl q
  · exact .inr ⟨q, Nat.le_trans hk.1 r⟩

theorem build_fl {W : World} {h : AH} {f : Fl} {bv : AV} {h2 : AH} (hb : IntS h2 bv f.blocks) : aBuildSlice (CC W) h 44 1 [(0, .agg (flC (f, bv)))] = some (.sl (some (.new h.next 0)) 1 1 none, h.push (.cells (flC (f, bv)) 55)) := by
  rcases hb with ⟨_, rfl⟩ | ⟨k, cap, gr, _, rfl, _⟩ <;> rfl
theorem own_fl {h0 h : AH} {f : Fl} {bv : AV} {k : Nat} (hk : Keeps h0 h) (hg : h.get k = some (.cells (flC (f, bv)) 55)) (hkn : k < h.next) (hb : IntS h bv f.blocks) : OwnF h0 h (.sl (some (.new k 0)) 1 1 none) [f] :=
  ⟨hk, k, none, (f, bv), [], rfl, hkn, by rw [hg]; simp [flCs], fun q hq => by rw [List.mem_singleton] at hq; subst hq; exact hb, rfl, .inl rfl⟩

theorem append_fls {W : World} {h0 h1 h : AH} {v w : AV} {l m : List Fl} (ho : OwnF h0 h1 v l) (hw : OwnF h1 h w m) (hn : l.length + m.length < 1000000000000) :
    ∃ v' h', aAppend (CC W) h #[44, 44] v w = some (v', h') ∧ OwnF h0 h' v' (l ++ m) := by
  have ho2 := ho.keeps hw.1
  obtain ⟨hk0, k, gr, p, ps, e1, h2n, h3, h4, rfl, hgr⟩ := ho2
  obtain ⟨_, k2, gr2, p2, ps2, e2, g2, g3, g4, rfl, _⟩ := hw
  have hb : (CC W).bytes 55 = 88 := _root_.id rfl
  have hni : niOK (CC W) #[44, 44] = true := _root_.id rfl
  have hl : l.length = ps.length + 1 := by rw [← e1]; simp
  have hm : m.length = ps2.length + 1 := by rw [← e2]; simp
  have hc1 : (flCs (p :: ps)).length = l.length * 7 := by rw [flCs_len, hl]; rfl
  have hc2 : (flCs (p2 :: ps2)).length = m.length * 7 := by rw [flCs_len, hm]; rfl
  have hone := flCs_one g4
  have hl0 : l.length ≠ 0 := by omega
  have hm0 : m.length ≠ 0 := by omega
  have hnews : aNews (CC W) h 7 (.sl (some (.new k2 0)) m.length m.length gr2) = some (m.length, flCs (p2 :: ps2)) := by
    simp only [aNews, if_neg hm0, aCells, g3]
    rw [Nat.zero_add, hc2]
    simp only [Nat.le_refl, if_true, List.drop_zero, ← hc2, List.take_length, Option.map]
  have e3 : (p :: (ps ++ p2 :: ps2)).map Prod.fst = l ++ m := by rw [← e1, ← e2]; simp
  have e4 : flCs (p :: (ps ++ p2 :: ps2)) = flCs (p :: ps) ++ flCs (p2 :: ps2) := by rw [← flCs_append]; rfl
  rcases hgr with rfl | ⟨rfl, h1n⟩
  · refine ⟨.sl (some (.new h.next 0)) (l.length + m.length) (l.length + m.length) (some 7), h.push (.cells (flCs (p :: ps) ++ flCs (p2 :: ps2)) 55), ?_, hk0.trans (Keeps.push _ _), h.next, some 7, p, ps ++ p2 :: ps2, e3, by simp, by simp [e4], fun q hq => ?_, by simp, .inr ⟨rfl, hk0.1⟩⟩
    · have hcs : aCells (CC W) h (.new k 0) (l.length * 7) = some (flCs (p :: ps)) := by
        simp only [aCells, h3]
        rw [Nat.zero_add, hc1]
        simp only [Nat.le_refl, if_true, List.drop_zero, ← hc1, List.take_length]
      generalize flCs (p2 :: ps2) = c2 at hnews hc2
      generalize flCs (p :: ps) = c1 at hcs
      simp [aAppend, kind44, size55, zero55, hb, hni, hnews, hl0, hm0, hcs]
      rw [if_neg (by omega), if_pos (by omega)]
    · have hq' : q ∈ (p :: ps) ∨ q ∈ p2 :: ps2 := by simpa [or_assoc] using hq
      rcases hq' with hq' | hq'
      · exact (h4 q hq').keeps (Keeps.push _ _)
      · exact (g4 q hq').keeps (Keeps.push _ _)
  · refine ⟨.sl (some (.new h.next 0)) (l.length + m.length) (l.length + m.length) (some 7), (h.kill k).push (.cells (flCs (p :: ps) ++ flCs (p2 :: ps2)) 55), ?_, ⟨?_, fun j hj => ?_⟩, h.next, some 7, p, ps ++ p2 :: ps2, e3, by simp [AH.next_kill'], ?_, fun q hq => ?_, by simp, .inr ⟨rfl, hk0.1⟩⟩
    · generalize flCs (p2 :: ps2) = c2 at hnews hone
      generalize flCs (p :: ps) = c1 at h3 hc1
      simp [aAppend, kind44, size55, zero55, hb, hni, hnews, hl0, hm0, h3, hc1, AH.next_kill']
      rw [if_neg (by omega), if_pos (by omega)]
      simpa using hone
    · simp [AH.next_kill']; have := hk0.1; omega
    · have := hk0.1
      rw [AH.get_push, AH.next_kill', if_neg (by omega), AH.get_kill', if_neg (by omega)]
      exact hk0.2 j hj
    · rw [AH.get_push, AH.next_kill', if_pos rfl, e4]
    · have hq' : q ∈ (p :: ps) ∨ q ∈ p2 :: ps2 := by simpa [or_assoc] using hq
      have hkp : Keeps (h.kill k) ((h.kill k).push (.cells (flCs (p :: ps) ++ flCs (p2 :: ps2)) 55)) := Keeps.push _ _
      rcases hq' with hq' | hq'
      · exact ((h4 q hq').kill h3).keeps hkp
      · exact ((g4 q hq').kill h3).keeps hkp

/-- A text of an elder block, appended. -/
theorem append_str1 {W : World} {h0 h : AH} {v : AV} {l : List (List UInt8)} {x : List UInt8} {j : Nat} (ho : OwnS h0 h v l) (hj : j < h0.next) (hg : h.get j = some (.cells [.str x] 9)) (hl : l.length < 8796093022207) :
    ∃ v' h', aAppend (CC W) h #[37, 37] v (.sl (some (.new j 0)) 1 1 none) = some (v', h') ∧ OwnS h0 h' v' (l ++ [x]) := by
  obtain ⟨hk, ho⟩ := ho
  have hb : (CC W).bytes 9 = 16 := _root_.id rfl
  have hni : niOK (CC W) #[37, 37] = true := _root_.id rfl
  have hnews : aNews (CC W) h 1 (.sl (some (.new j 0)) 1 1 none) = some (1, [.str x]) := by
    simp [aNews, aCells, hg]
  rcases ho with ⟨rfl, rfl⟩ | ⟨k, h1, h2, h3, rfl⟩
  · refine ⟨.sl (some (.new h.next 0)) 1 1 (some 1), h.push (.cells [.str x] 9), ?_, hk.trans (Keeps.push _ _), .inr ⟨h.next, hk.1, by simp, by simp, by simp⟩⟩
    simp [aAppend, kind37, size9, zero9, hb, hni, hnews]
  · refine ⟨.sl (some (.new h.next 0)) (l.length + 1) (l.length + 1) (some 1), (h.kill k).push (.cells (l.map .str ++ [.str x]) 9), ?_, ⟨?_, fun j hj => ?_⟩, .inr ⟨h.next, hk.1, by simp [AH.next_kill'], by simp [AH.next_kill'], by simp⟩⟩
    · simp [aAppend, kind37, size9, zero9, hb, hni, hnews, h3, AH.next_kill', aOne]
      rw [if_neg (by omega), if_pos (by omega)]
    · simp [AH.next_kill']; have := hk.1; omega
    · have := hk.1
      rw [AH.get_push, AH.next_kill', if_neg (by omega), AH.get_kill', if_neg (by omega)]
      exact hk.2 j hj

/-- A drawn region with some orders of its effects. -/
theorem drawSn {C : Cx} {Q : Post} {ops : Array Oper} {ks : List Fr} {e : Env} {h : AH} {id : Nat} (Ls : List (List Nat)) (hB : drawB C ops = true) (hc : canons C ops = Ls) (hw : ∀ L ∈ Ls, Sg C Q ops L [] ks e h) : Wc C Q (.region id ops true) ks e h := by
  refine ⟨⟨hB, fun c hcm => ?_⟩⟩
  rw [hc] at hcm
  exact (hw c hcm).out

/-! ### The tree, plain -/
def datR (b : Option Blk) (l : List Int) : List UInt8 := l.flatMap fun k => (blkAt b k).getD []
def flR (names : List (List UInt8)) (i : Nat) (nd : Nd) : Fl := ⟨47 :: Lib.join names [47], i, nd.kind, nd.links, nd.size, indR nd, if nd.kind = 1 then datR nd.blocks (indR nd) else []⟩
def childR (nd : Nd) (s : List UInt8) : Nat := match nd.slots[(placeR nd.slots s).toNat]? with
  | some x => x.ino.toNat
  | none => 0
def treeR (M : MS) : Nat → List (List UInt8) → Nat → List Fl
  | 0, _, _ => []
  | n + 1, names, i => match M.nodes[i]? with
    | none => []
    | some nd => flR names i nd :: (sortT (nmsR nd.slots)).flatMap fun s => treeR M n (names ++ [s]) (childR nd s)
/-- No way down from an inode is longer. -/
def Deep (M : MS) : Nat → Nat → Prop
  | 0, _ => False
  | n + 1, i => ∃ nd, M.nodes[i]? = some nd ∧ ∀ x ∈ nd.slots, x.nm ≠ [] → Deep M n x.ino.toNat
end Go.Proofs.YtbofhlifobjolaaGreatDoor.Ax
end

/-! below: the tree under an inode, the walk -/
section
set_option linter.unusedVariables false
set_option linter.unusedSimpArgs false
namespace Go.Proofs.YtbofhlifobjolaaGreatDoor.Ax
open Go.RowKit

def OwnN (h : AH) (nv : AV) (l : List (List UInt8)) : Prop := (∃ h0, OwnS h0 h nv l) ∧ (l = [] → nv = .sl none 0 0 none)
theorem OwnN.keeps {h h' : AH} {nv : AV} {l : List (List UInt8)} (ho : OwnN h nv l) (hk : Keeps h h') : OwnN h' nv l := by
  obtain ⟨⟨h0, a⟩, b⟩ := ho
  exact ⟨⟨h0, a.keeps hk⟩, b⟩

theorem alloc_file {W : World} {h : AH} : aAlloc (CC W) h 55 = some (.ptr (some (.new h.next 0)), h.push (.cells [.str [], .int .i64 0, .int .i64 0, .int .i64 0, .int .i64 0, .sl none 0 0 none, .str []] 55)) := rfl
theorem build_fileR {W : World} {p : List UInt8} {a b c d : Int} {bv : AV} {h2 : AH} {l : List Int} (hb : IntS h2 bv l) : aBuild (CC W) 55 [(0, .str p), (1, .int .i64 a), (2, .int .i64 b), (3, .int .i64 c), (4, .int .i64 d), (5, bv)] = some (.agg [.str p, .int .i64 a, .int .i64 b, .int .i64 c, .int .i64 d, bv, .str []]) := by
  rcases hb with ⟨_, rfl⟩ | ⟨k, cap, gr, _, rfl, _⟩ <;> rfl
theorem st_file {W : World} {h : AH} {k : Nat} {a b : List AV} (hg : h.get k = some (.cells a 55)) (ha : a.length = 7) (hb : b.length = 7) (hone : b.all aOne = true) : aStoreOp (CC W) h 55 (.ptr (some (.new k 0))) (.agg b) = some (h.set k (.cells b 55)) := by
  simp only [aStoreOp, aCellsOf, size55, aStore, hg]
  rw [if_pos hb, if_pos ⟨by omega, hone⟩]
  have : overlay a b 0 = b := by simp [overlay, ha, hb]
  rw [this]
theorem keeps_setN {h h' : AH} {k : Nat} {c : AObj} (hk : Keeps h h') (hn : h.next ≤ k) : Keeps h (h'.set k c) :=
  ⟨hk.1, fun j hj => by have : j ≠ k := by omega
                        simp [this]; exact hk.2 j hj⟩
/-- A file's block is another one than its numbers'. -/
theorem IntS.setF {h : AH} {v : AV} {l : List Int} {k : Nat} {x : List UInt8} {a : List AV} {t : TypeId} {c : AObj} (hi : IntS h v l) (hg : h.get k = some (.cells (.str x :: a) t)) : IntS (h.set k c) v l := by
  rcases hi with h1 | ⟨j, cap, gr, h1, h2, h3⟩
  · exact .inl h1
  · have hne : j ≠ k := by
      rintro rfl
      rw [h3] at hg
      simp only [Option.some.injEq, AObj.cells.injEq] at hg
      cases l <;> simp [ints] at hg
    exact .inr ⟨j, cap, gr, h1, h2, by simp [hne]; exact h3⟩
theorem flC_one {h : AH} {f : Fl} {bv : AV} (hb : IntS h bv f.blocks) : (flC (f, bv)).all aOne = true := by
  have := flCs_one (ps := [(f, bv)]) (h := h) fun q hq => by rw [List.mem_singleton] at hq; subst hq; exact hb
  simpa [flCs] using this
theorem text_add {x y : List UInt8} (h : x.length + y.length < 4611686018427387904) : aStr .add x y = some (.str (x ++ y)) := by
  have hm : IntKind.i64.max = 9223372036854775807 := by decide
  simp only [aStr, hm]
  rw [if_neg (by omega)]
theorem join_len : ∀ {l : List (List UInt8)}, (∀ x ∈ l, x.length ≤ 255) → (Lib.join l [47]).length ≤ 256 * l.length
  | [], _ => by simp [Lib.join_nil]
  | x :: l, h => by
    have hc : ∀ {l : List (List UInt8)}, (∀ x ∈ l, x.length ≤ 255) → (catR l).length ≤ 256 * l.length := by
      intro l
      induction l with
      | nil => intro _; simp [catR]
      | cons y r ih =>
        intro h
        have h1 := h y (by simp)
        have h2 := ih fun z hz => h z (by simp [hz])
        have e : catR (y :: r) = 47 :: y ++ catR r := by simp [catR]
        rw [e]; simp; omega
    have h1 := hc h
    rw [← join_cat (x :: l) (by simp)] at h1
    simp at h1 ⊢
    omega

def flD (names : List (List UInt8)) (i : Nat) (nd : Nd) (d : List UInt8) : Fl := ⟨47 :: Lib.join names [47], i, nd.kind, nd.links, nd.size, indR nd, d⟩
/-- A file's own block, and what else is held. -/
def FileA (h : AH) (mv nv pv : AV) (names : List (List UInt8)) (i : Nat) (nd : Nd) (d : List UInt8) (e' : Env) (h' : AH) : Prop :=
  e'.length = 93 ∧ Keeps h h' ∧ ∃ kf bv, h.next ≤ kf ∧ kf < h'.next ∧ h'.get kf = some (.cells (flC (flD names i nd d, bv)) 55) ∧ IntS h' bv (indR nd) ∧
    (e'.getD 0 .undef = mv ∧ e'.getD 2 .undef = nv ∧ e'.getD 7 .undef = pv ∧ e'.getD 8 .undef = .ptr (some (.new kf 0)))

theorem IntS.off {h h' : AH} {v : AV} {l : List Int} {k : Nat} {x : List UInt8} {a : List AV} {t : TypeId} (hi : IntS h v l) (hg : h.get k = some (.cells (.str x :: a) t)) (hoff : ∀ j, j ≠ k → h'.get j = h.get j) (hn : h.next ≤ h'.next) : IntS h' v l := by
  rcases hi with h1 | ⟨j, cap, gr, h1, h2, h3⟩
  · exact .inl h1
  · have hne : j ≠ k := by
      rintro rfl
      rw [h3] at hg
      simp only [Option.some.injEq, AObj.cells.injEq] at hg
      cases l <;> simp [ints] at hg
    exact .inr ⟨j, cap, gr, by omega, h2, by rw [hoff j hne]; exact h3⟩
theorem look_blkN {W : World} {h : AH} {v : AV} {m : Option Nat} {b : Option Blk} (hm : MapIs h v m b) (k : Int) :
    aLookup (CC W) h 90 v (.int .i64 k) false = some (.str ((blkAt b k).getD [])) := by
  have hkd : (CC W).kind 90 = .map 3 9 := rfl
  have hkey : aKey (CC W) 100 3 (.int .i64 k) = true := rfl
  cases m with
  | none =>
    cases b with
    | some _ => exact hm.elim
    | none =>
      have hv : v = .map none := hm
      subst hv
      simp only [aLookup, hkd, hkey, if_true]
      rfl
  | some km =>
    cases b with
    | none => exact hm.elim
    | some l =>
      obtain ⟨rfl, es, clock, hg, hok, hes⟩ := hm
      have hf := find_blk (W := W) (k := k) l es 0 hes
      simp only [aLookup, hkd, hkey, if_true, hg, hf, Option.bind, blkAt, Option.getD_some]
      cases fnd k l 0 with
      | none => rfl
      | some p => rfl
theorem datR_len {b : Option Blk} (h : ∀ x ∈ b.getD [], x.2.length = 128) : ∀ (l : List Int), (datR b l).length ≤ 128 * l.length
  | [] => by simp [datR]
  | k :: l => by
    have h1 := datR_len h l
    have h2 : ((blkAt b k).getD []).length ≤ 128 := by
      cases hb : blkAt b k with
      | none => simp
      | some s =>
        simp only [blkAt, Option.map_eq_some_iff] at hb
        obtain ⟨p, hp, rfl⟩ := hb
        have := h _ (fnd_mem hp)
        simp at this ⊢; omega
    have e : datR b (k :: l) = (blkAt b k).getD [] ++ datR b l := by simp [datR]
    rw [e]; simp; omega
theorem datR_snoc {b : Option Blk} {l : List Int} {k : Int} : datR b (l ++ [k]) = datR b l ++ (blkAt b k).getD [] := by simp [datR]
theorem st_f6 {W : World} {h : AH} {k : Nat} {a0 a1 a2 a3 a4 a5 : AV} {x y : List UInt8} {t : TypeId} (hg : h.get k = some (.cells [a0, a1, a2, a3, a4, a5, .str x] t)) :
    aStoreOp (CC W) h 9 (.ptr (some (.new k 6))) (.str y) = some (h.set k (.cells [a0, a1, a2, a3, a4, a5, .str y] t)) := by
  simp only [aStoreOp, aCellsOf, size9, aStore, hg]
  rfl
def DatI (h2 : AH) (mv nv pv bv : AV) (names : List (List UInt8)) (i : Nat) (nd : Nd) (kf : Nat) (m : Nat) (e' : Env) (h' : AH) : Prop :=
  e'.length = 93 ∧ ∃ j, j + m = (indR nd).length ∧ h'.next = h2.next ∧ (∀ k, k ≠ kf → h'.get k = h2.get k) ∧ h'.get kf = some (.cells (flC (flD names i nd (datR nd.blocks ((indR nd).take j)), bv)) 55) ∧
    (e'.getD 0 .undef = mv ∧ e'.getD 2 .undef = nv ∧ e'.getD 7 .undef = pv ∧ e'.getD 8 .undef = .ptr (some (.new kf 0)) ∧ e'.getD 46 .undef = bv ∧ e'.getD 47 .undef = .int .i64 (indR nd).length ∧ e'.getD 48 .undef = .int .i64 j)

theorem ld_file {W : World} {h : AH} {k : Nat} {f : Fl} {bv : AV} (hg : h.get k = some (.cells (flC (f, bv)) 55)) : aLoad (CC W) h 55 (.new k 0) = some (.agg (flC (f, bv))) := by
  unfold aLoad
  rw [ty55]
  show (aCells (CC W) h (.new k 0) 7).map AV.agg = _
  simp only [aCells, hg]
  rfl
def TreeI (M : MS) (n : Nat) (h5 : AH) (mv nv pv sv : AV) (names : List (List UInt8)) (i : Nat) (nd : Nd) (S : List (List UInt8)) (m : Nat) (e' : Env) (h' : AH) : Prop :=
  e'.length = 93 ∧ ∃ j, j + m = S.length ∧ OwnF h5 h' (e'.getD 11 .undef) (flR names i nd :: (S.take j).flatMap fun s => treeR M n (names ++ [s]) (childR nd s)) ∧
    (e'.getD 0 .undef = mv ∧ e'.getD 2 .undef = nv ∧ e'.getD 7 .undef = pv ∧ e'.getD 66 .undef = sv ∧ e'.getD 67 .undef = .int .i64 S.length ∧ e'.getD 68 .undef = .int .i64 j)

def TreeK (M : MS) (n : Nat) (h5 : AH) (mv nv pv sv : AV) (names : List (List UInt8)) (i : Nat) (nd : Nd) (S : List (List UInt8)) (j : Nat) (e' : Env) (h' : AH) : Prop :=
  e'.length = 93 ∧ OwnF h5 h' (e'.getD 11 .undef) (flR names i nd :: (S.take (j + 1)).flatMap fun s => treeR M n (names ++ [s]) (childR nd s)) ∧
    (e'.getD 0 .undef = mv ∧ e'.getD 2 .undef = nv ∧ e'.getD 7 .undef = pv ∧ e'.getD 66 .undef = sv ∧ e'.getD 67 .undef = .int .i64 S.length ∧ e'.getD 68 .undef = .int .i64 j)

abbrev fl0 : List AV := [.str [], .int .i64 0, .int .i64 0, .int .i64 0, .int .i64 0, .sl none 0 0 none, .str []]

set_option maxRecDepth 100000 in
set_option maxHeartbeats 8000000 in
theorem below_tree (W : World) (R : MR) (M : MS) (ok : MOk M) (h128 : ∀ nd ∈ M.nodes, ∀ x ∈ nd.blocks.getD [], x.2.length = 128) (hnm : ∀ nd ∈ M.nodes, ∀ x ∈ nd.slots, x.nm.length ≤ 255) :
    ∀ (n : Nat) (h : AH) (i : Nat) (names : List (List UInt8)) (nv : AV), MIs h R M → OwnN h nv names → Deep M n i → (treeR M n names i).length < 1000000000000 → (∀ x ∈ names, x.length ≤ 255) → names.length + n ≤ 1000 →
    RetQ (CC W) 55 [.ptr (some (.new R.km 0)), .int .i64 i, nv] h (fun w h' => OwnF h h' w (treeR M n names i)) := by
  intro n
  induction n with
  | zero => intro h i names nv _ _ hd; exact hd.elim
  | succ n ih =>
    intro h i names nv hm hn hdd hlen hns hdp
    obtain ⟨nd0, hnd0, hdeep⟩ := hdd
    refine jj9 (cc_ok W) (fn55 W) (by simp only [Tryz.f55]; rfl) rfl rfl ?_
    have hlt : i < M.nodes.length := (List.getElem?_eq_some_iff.1 hnd0).1
    obtain ⟨r, nd, hr, hnd, hnod⟩ := hm.node hlt
    rw [hnd0] at hnd; cases hnd
    have hcn := cell_nd (W := W) hm hr
    obtain ⟨mv, sv, hc, hmp, hsl⟩ := _root_.id hnod
    have hshort := ok.short nd0 (List.mem_of_getElem? hnd0)
    have hlow : ∀ k ∈ r.ids, k < h.next := fun k hk1 => hm.low k (mem_ids hr hk1)
    obtain ⟨⟨h00, hos⟩, hnil⟩ := _root_.id hn
    have hjl : (Lib.join names [47]).length < 1000000 := by have := join_len hns; omega
    have hjn := gojoin_ret W h nv names hos.strS (by omega) (by omega)
    have hadd : aStr .add [47] (Lib.join names [47]) = some (.str (47 :: Lib.join names [47])) := text_add (x := [47]) (by simp; omega)
    simp [qa9, qb9, qc9, qd9, qe9, qf9, qg9, qh9, qi9, qj9, qk9, ql9, qm9, qn9, qo9, qp9, qq9, qr9, qs9, qt9, qu9, qv9, qw9, qx9, ev, qy9, qz9, za9, zb9, zc9, zd9, ze9, zf9, zg9, zh9, zi9, zj9, zk9, zl9, zm9, zn9, zo9, zp9, zq9, zr9, zs9, zt9, zu9, zv9, zw9, fa88_0, ld85, ji9 hm.mod, jd9, idx_nd hlt, ld89, hcn]
    refine wc_cut (FileA h (.ptr (some (.new R.km 0))) nv (.ptr (some (.new r.k 0))) names i nd0 []) ?_ ?_
    · refine drawSn [[0,3,4,5,6,7,8,9,10,11,12,13,14,15,16,1,2,17,18,19,20], [0,3,4,5,6,7,8,9,10,11,12,13,14,15,16,1,2,19,17,18,20], [0,3,4,5,6,7,8,9,10,11,12,13,14,15,16,19,1,2,17,18,20]] (by kernel_rfl) (by kernel_rfl) ?_
      intro L hL
      simp only [List.mem_cons, List.not_mem_nil, or_false] at hL
      rcases hL with rfl | rfl | rfl
      · simp [qa9, qb9, qc9, qd9, qe9, qf9, qg9, qh9, qi9, qj9, qk9, ql9, qm9, qn9, qo9, qp9, qq9, qr9, qs9, qt9, qu9, qv9, qw9, qx9, ev, qy9, qz9, za9, zb9, zc9, zd9, ze9, zf9, zg9, zh9, zi9, zj9, zk9, zl9, zm9, zn9, zo9, zp9, zq9, zr9, zs9, zt9, zu9, zv9, zw9, zx9, zy9, SgO, opA, isE, isRead, fa93_0, fa93_1, fa93_2, ld3, ji9 hc, jd9]
        refine jb9 (f := 97) (args := [nv, .str [47]]) (by rfl) (by rfl) (by rfl) (by simp [fn97]) (gojoin_ret W h nv names (hos.keeps (Keeps.refl h)).strS (by omega) (by omega)) ?_
        rintro w hj ⟨rfl, hjj⟩
        rw [hjj]
        clear hjj hj
        refine ⟨?_, ?_⟩
        · simp [zz9, ja9, qa9, qb9, qc9, qd9, qe9, qf9, qg9, qh9, qi9, qj9, qk9, ql9, qm9, qn9, qo9, qp9, qq9, qr9, qs9, qt9, qu9, qv9, qw9, qx9, ev, qy9, qz9, za9, zb9, zc9, zd9, ze9, zf9, zg9, zh9, zi9, zj9, zk9, zl9, zm9, zn9, zo9, zp9, zq9, zr9, zs9, zt9, zu9, zv9, zw9, opA, fa93_0, fa93_1, fa93_2, ld3, ji9 hc, jd9]
        simp [qa9, qb9, qc9, qd9, qe9, qf9, qg9, qh9, qi9, qj9, qk9, ql9, qm9, qn9, qo9, qp9, qq9, qr9, qs9, qt9, qu9, qv9, qw9, qx9, ev, qy9, qz9, za9, zb9, zc9, zd9, ze9, zf9, zg9, zh9, zi9, zj9, zk9, zl9, zm9, zn9, zo9, zp9, zq9, zr9, zs9, zt9, zu9, zv9, zw9, zx9, zy9, SgO, opA, isE, isRead, hadd]
        refine jb9 (f := 96) (args := [.ptr (some (.new r.k 0))]) (by rfl) (by rfl) (by rfl) (by simp [fn96]) (ind_ret W h r nd0 (hnod.same fun k hk => (Keeps.refl h).2 k (hlow k hk)) (fun k hk => Nat.lt_of_lt_of_le (hlow k hk) (Keeps.refl h).1) hshort) ?_
        rintro bv hI ⟨hkI, hbv⟩
        have hkI2 := (Keeps.refl h).trans hkI
        have hcI := (hkI2.2 r.k (hlow r.k (by simp [NR.ids]))).trans hc
        refine ⟨?_, ?_⟩
        · simp [zz9, ja9, qa9, qb9, qc9, qd9, qe9, qf9, qg9, qh9, qi9, qj9, qk9, ql9, qm9, qn9, qo9, qp9, qq9, qr9, qs9, qt9, qu9, qv9, qw9, qx9, ev, qy9, qz9, za9, zb9, zc9, zd9, ze9, zf9, zg9, zh9, zi9, zj9, zk9, zl9, zm9, zn9, zo9, zp9, zq9, zr9, zs9, zt9, zu9, zv9, zw9, opA, fa93_0, fa93_1, fa93_2, ld3, ji9 hcI, jd9]
        simp [qa9, qb9, qc9, qd9, qe9, qf9, qg9, qh9, qi9, qj9, qk9, ql9, qm9, qn9, qo9, qp9, qq9, qr9, qs9, qt9, qu9, qv9, qw9, qx9, ev, qy9, qz9, za9, zb9, zc9, zd9, ze9, zf9, zg9, zh9, zi9, zj9, zk9, zl9, zm9, zn9, zo9, zp9, zq9, zr9, zs9, zt9, zu9, zv9, zw9, zx9, zy9, SgO, opA, isE, isRead, build_fileR hbv]
        have hkP := Keeps.push hI (.cells fl0 55)
        have hcP := ((hkI2.trans hkP).2 r.k (hlow r.k (by simp [NR.ids]))).trans hc
        have hkP2 := hkI2.trans hkP
        have hgP : (hI.push (.cells fl0 55)).get hI.next = some (.cells fl0 55) := by simp
        have hnP : hI.next < (hI.push (.cells fl0 55)).next := by simp
        refine jc9 (v := .ptr (some (.new hI.next 0))) (h' := hI.push (.cells fl0 55)) (by rfl) (by rfl) ?_
        generalize hI.push (.cells fl0 55) = hP at hkP hcP hkP2 hgP hnP ⊢
        generalize hkf : hI.next = kf at hgP hnP ⊢
        have hnI : h.next ≤ kf := by rw [← hkf]; exact hkI2.1
        refine ⟨?_, ?_⟩
        · simp [zz9, ja9, qa9, qb9, qc9, qd9, qe9, qf9, qg9, qh9, qi9, qj9, qk9, ql9, qm9, qn9, qo9, qp9, qq9, qr9, qs9, qt9, qu9, qv9, qw9, qx9, ev, qy9, qz9, za9, zb9, zc9, zd9, ze9, zf9, zg9, zh9, zi9, zj9, zk9, zl9, zm9, zn9, zo9, zp9, zq9, zr9, zs9, zt9, zu9, zv9, zw9, opA, fa93_0, fa93_1, fa93_2, ld3, ji9 hcP, jd9]
        simp [qa9, qb9, qc9, qd9, qe9, qf9, qg9, qh9, qi9, qj9, qk9, ql9, qm9, qn9, qo9, qp9, qq9, qr9, qs9, qt9, qu9, qv9, qw9, qx9, ev, qy9, qz9, za9, zb9, zc9, zd9, ze9, zf9, zg9, zh9, zi9, zj9, zk9, zl9, zm9, zn9, zo9, zp9, zq9, zr9, zs9, zt9, zu9, zv9, zw9, zx9, zy9, SgO, opA, isE, isRead]
        have hst := st_file (W := W) (h := hP) (b := flC (flD names i nd0 [], bv)) hgP (by rfl) (by rfl) (flC_one (h := hP) (f := flD names i nd0 []) (hbv.keeps hkP))
        refine jc9 (v := .undef) (h' := hP.set kf (.cells (flC (flD names i nd0 [], bv)) 55)) (by rfl) (by simp [qa9, qb9, qc9, qd9, qe9, qf9, qg9, qh9, qi9, qj9, qk9, ql9, qm9, qn9, qo9, qp9, qq9, qr9, qs9, qt9, qu9, qv9, qw9, qx9, ev, qy9, qz9, za9, zb9, zc9, zd9, ze9, zf9, zg9, zh9, zi9, zj9, zk9, zl9, zm9, zn9, zo9, zp9, zq9, zr9, zs9, zt9, zu9, zv9, zw9]; exact hst) ⟨?_, ?_⟩
        · repeat refine zz9 ▸ ⟨fun hc => absurd (hc.symm.trans (show _ = true by kernel_rfl)) (by decide), ?_⟩
          exact ja9 ▸ trivial
        simp [qa9, qb9, qc9, qd9, qe9, qf9, qg9, qh9, qi9, qj9, qk9, ql9, qm9, qn9, qo9, qp9, qq9, qr9, qs9, qt9, qu9, qv9, qw9, qx9, ev, qy9, qz9, za9, zb9, zc9, zd9, ze9, zf9, zg9, zh9, zi9, zj9, zk9, zl9, zm9, zn9, zo9, zp9, zq9, zr9, zs9, zt9, zu9, zv9, zw9, zy9, thenQ]
        exact ⟨by simp, keeps_setN hkP2 hnI, kf, bv, hnI, by simp; exact hnP, by simp, ((hbv.keeps hkP)).setF hgP, by simp⟩
      · simp [qa9, qb9, qc9, qd9, qe9, qf9, qg9, qh9, qi9, qj9, qk9, ql9, qm9, qn9, qo9, qp9, qq9, qr9, qs9, qt9, qu9, qv9, qw9, qx9, ev, qy9, qz9, za9, zb9, zc9, zd9, ze9, zf9, zg9, zh9, zi9, zj9, zk9, zl9, zm9, zn9, zo9, zp9, zq9, zr9, zs9, zt9, zu9, zv9, zw9, zx9, zy9, SgO, opA, isE, isRead, fa93_0, fa93_1, fa93_2, ld3, ji9 hc, jd9]
        refine jb9 (f := 97) (args := [nv, .str [47]]) (by rfl) (by rfl) (by rfl) (by simp [fn97]) (gojoin_ret W h nv names (hos.keeps (Keeps.refl h)).strS (by omega) (by omega)) ?_
        rintro w hj ⟨rfl, hjj⟩
        rw [hjj]
        clear hjj hj
        refine ⟨?_, ?_⟩
        · simp [zz9, ja9, qa9, qb9, qc9, qd9, qe9, qf9, qg9, qh9, qi9, qj9, qk9, ql9, qm9, qn9, qo9, qp9, qq9, qr9, qs9, qt9, qu9, qv9, qw9, qx9, ev, qy9, qz9, za9, zb9, zc9, zd9, ze9, zf9, zg9, zh9, zi9, zj9, zk9, zl9, zm9, zn9, zo9, zp9, zq9, zr9, zs9, zt9, zu9, zv9, zw9, opA, fa93_0, fa93_1, fa93_2, ld3, ji9 hc, jd9]
        simp [qa9, qb9, qc9, qd9, qe9, qf9, qg9, qh9, qi9, qj9, qk9, ql9, qm9, qn9, qo9, qp9, qq9, qr9, qs9, qt9, qu9, qv9, qw9, qx9, ev, qy9, qz9, za9, zb9, zc9, zd9, ze9, zf9, zg9, zh9, zi9, zj9, zk9, zl9, zm9, zn9, zo9, zp9, zq9, zr9, zs9, zt9, zu9, zv9, zw9, zx9, zy9, SgO, opA, isE, isRead, hadd]
        have hkP := Keeps.push h (.cells fl0 55)
        have hcP := (((Keeps.refl h).trans hkP).2 r.k (hlow r.k (by simp [NR.ids]))).trans hc
        have hkP2 := (Keeps.refl h).trans hkP
        have hgP : (h.push (.cells fl0 55)).get h.next = some (.cells fl0 55) := by simp
        have hnP : h.next < (h.push (.cells fl0 55)).next := by simp
        refine jc9 (v := .ptr (some (.new h.next 0))) (h' := h.push (.cells fl0 55)) (by rfl) (by rfl) ?_
        generalize h.push (.cells fl0 55) = hP at hkP hcP hkP2 hgP hnP ⊢
        generalize hkf : h.next = kf at hgP hnP ⊢
        have hnI : h.next ≤ kf := by rw [← hkf]; exact (Keeps.refl h).1
        refine ⟨?_, ?_⟩
        · simp [zz9, ja9, qa9, qb9, qc9, qd9, qe9, qf9, qg9, qh9, qi9, qj9, qk9, ql9, qm9, qn9, qo9, qp9, qq9, qr9, qs9, qt9, qu9, qv9, qw9, qx9, ev, qy9, qz9, za9, zb9, zc9, zd9, ze9, zf9, zg9, zh9, zi9, zj9, zk9, zl9, zm9, zn9, zo9, zp9, zq9, zr9, zs9, zt9, zu9, zv9, zw9, opA, fa93_0, fa93_1, fa93_2, ld3, ji9 hcP, jd9]
        simp [qa9, qb9, qc9, qd9, qe9, qf9, qg9, qh9, qi9, qj9, qk9, ql9, qm9, qn9, qo9, qp9, qq9, qr9, qs9, qt9, qu9, qv9, qw9, qx9, ev, qy9, qz9, za9, zb9, zc9, zd9, ze9, zf9, zg9, zh9, zi9, zj9, zk9, zl9, zm9, zn9, zo9, zp9, zq9, zr9, zs9, zt9, zu9, zv9, zw9, zx9, zy9, SgO, opA, isE, isRead]
        refine jb9 (f := 96) (args := [.ptr (some (.new r.k 0))]) (by rfl) (by rfl) (by rfl) (by simp [fn96]) (ind_ret W hP r nd0 (hnod.same fun k hk => hkP2.2 k (hlow k hk)) (fun k hk => Nat.lt_of_lt_of_le (hlow k hk) hkP2.1) hshort) ?_
        rintro bv hI ⟨hkI, hbv⟩
        have hkI2 := hkP2.trans hkI
        have hcI := (hkI2.2 r.k (hlow r.k (by simp [NR.ids]))).trans hc
        refine ⟨?_, ?_⟩
        · simp [zz9, ja9, qa9, qb9, qc9, qd9, qe9, qf9, qg9, qh9, qi9, qj9, qk9, ql9, qm9, qn9, qo9, qp9, qq9, qr9, qs9, qt9, qu9, qv9, qw9, qx9, ev, qy9, qz9, za9, zb9, zc9, zd9, ze9, zf9, zg9, zh9, zi9, zj9, zk9, zl9, zm9, zn9, zo9, zp9, zq9, zr9, zs9, zt9, zu9, zv9, zw9, opA, fa93_0, fa93_1, fa93_2, ld3, ji9 hcI, jd9]
        simp [qa9, qb9, qc9, qd9, qe9, qf9, qg9, qh9, qi9, qj9, qk9, ql9, qm9, qn9, qo9, qp9, qq9, qr9, qs9, qt9, qu9, qv9, qw9, qx9, ev, qy9, qz9, za9, zb9, zc9, zd9, ze9, zf9, zg9, zh9, zi9, zj9, zk9, zl9, zm9, zn9, zo9, zp9, zq9, zr9, zs9, zt9, zu9, zv9, zw9, zx9, zy9, SgO, opA, isE, isRead, build_fileR hbv]
        have hst := st_file (W := W) (h := hI) (b := flC (flD names i nd0 [], bv)) ((hkI.2 kf hnP).trans hgP) (by rfl) (by rfl) (flC_one (h := hI) (f := flD names i nd0 []) hbv)
        refine jc9 (v := .undef) (h' := hI.set kf (.cells (flC (flD names i nd0 [], bv)) 55)) (by rfl) (by simp [qa9, qb9, qc9, qd9, qe9, qf9, qg9, qh9, qi9, qj9, qk9, ql9, qm9, qn9, qo9, qp9, qq9, qr9, qs9, qt9, qu9, qv9, qw9, qx9, ev, qy9, qz9, za9, zb9, zc9, zd9, ze9, zf9, zg9, zh9, zi9, zj9, zk9, zl9, zm9, zn9, zo9, zp9, zq9, zr9, zs9, zt9, zu9, zv9, zw9]; exact hst) ⟨?_, ?_⟩
        · repeat refine zz9 ▸ ⟨fun hc => absurd (hc.symm.trans (show _ = true by kernel_rfl)) (by decide), ?_⟩
          exact ja9 ▸ trivial
        simp [qa9, qb9, qc9, qd9, qe9, qf9, qg9, qh9, qi9, qj9, qk9, ql9, qm9, qn9, qo9, qp9, qq9, qr9, qs9, qt9, qu9, qv9, qw9, qx9, ev, qy9, qz9, za9, zb9, zc9, zd9, ze9, zf9, zg9, zh9, zi9, zj9, zk9, zl9, zm9, zn9, zo9, zp9, zq9, zr9, zs9, zt9, zu9, zv9, zw9, zy9, thenQ]
        exact ⟨by simp, keeps_setN hkI2 hnI, kf, bv, hnI, by simp; exact (Nat.lt_of_lt_of_le hnP hkI.1), by simp, (hbv).setF ((hkI.2 kf hnP).trans hgP), by simp⟩
      · simp [qa9, qb9, qc9, qd9, qe9, qf9, qg9, qh9, qi9, qj9, qk9, ql9, qm9, qn9, qo9, qp9, qq9, qr9, qs9, qt9, qu9, qv9, qw9, qx9, ev, qy9, qz9, za9, zb9, zc9, zd9, ze9, zf9, zg9, zh9, zi9, zj9, zk9, zl9, zm9, zn9, zo9, zp9, zq9, zr9, zs9, zt9, zu9, zv9, zw9, zx9, zy9, SgO, opA, isE, isRead, fa93_0, fa93_1, fa93_2, ld3, ji9 hc, jd9]
        have hkP := Keeps.push h (.cells fl0 55)
        have hcP := (((Keeps.refl h).trans hkP).2 r.k (hlow r.k (by simp [NR.ids]))).trans hc
        have hkP2 := (Keeps.refl h).trans hkP
        have hgP : (h.push (.cells fl0 55)).get h.next = some (.cells fl0 55) := by simp
        have hnP : h.next < (h.push (.cells fl0 55)).next := by simp
        refine jc9 (v := .ptr (some (.new h.next 0))) (h' := h.push (.cells fl0 55)) (by rfl) (by rfl) ?_
        generalize h.push (.cells fl0 55) = hP at hkP hcP hkP2 hgP hnP ⊢
        generalize hkf : h.next = kf at hgP hnP ⊢
        have hnI : h.next ≤ kf := by rw [← hkf]; exact (Keeps.refl h).1
        refine ⟨?_, ?_⟩
        · simp [zz9, ja9, qa9, qb9, qc9, qd9, qe9, qf9, qg9, qh9, qi9, qj9, qk9, ql9, qm9, qn9, qo9, qp9, qq9, qr9, qs9, qt9, qu9, qv9, qw9, qx9, ev, qy9, qz9, za9, zb9, zc9, zd9, ze9, zf9, zg9, zh9, zi9, zj9, zk9, zl9, zm9, zn9, zo9, zp9, zq9, zr9, zs9, zt9, zu9, zv9, zw9, opA, fa93_0, fa93_1, fa93_2, ld3, ji9 hcP, jd9]
        simp [qa9, qb9, qc9, qd9, qe9, qf9, qg9, qh9, qi9, qj9, qk9, ql9, qm9, qn9, qo9, qp9, qq9, qr9, qs9, qt9, qu9, qv9, qw9, qx9, ev, qy9, qz9, za9, zb9, zc9, zd9, ze9, zf9, zg9, zh9, zi9, zj9, zk9, zl9, zm9, zn9, zo9, zp9, zq9, zr9, zs9, zt9, zu9, zv9, zw9, zx9, zy9, SgO, opA, isE, isRead]
        refine jb9 (f := 97) (args := [nv, .str [47]]) (by rfl) (by rfl) (by rfl) (by simp [fn97]) (gojoin_ret W hP nv names (hos.keeps hkP2).strS (by omega) (by omega)) ?_
        rintro w hj ⟨rfl, hjj⟩
        rw [hjj]
        clear hjj hj
        refine ⟨?_, ?_⟩
        · simp [zz9, ja9, qa9, qb9, qc9, qd9, qe9, qf9, qg9, qh9, qi9, qj9, qk9, ql9, qm9, qn9, qo9, qp9, qq9, qr9, qs9, qt9, qu9, qv9, qw9, qx9, ev, qy9, qz9, za9, zb9, zc9, zd9, ze9, zf9, zg9, zh9, zi9, zj9, zk9, zl9, zm9, zn9, zo9, zp9, zq9, zr9, zs9, zt9, zu9, zv9, zw9, opA, fa93_0, fa93_1, fa93_2, ld3, ji9 hcP, jd9]
        simp [qa9, qb9, qc9, qd9, qe9, qf9, qg9, qh9, qi9, qj9, qk9, ql9, qm9, qn9, qo9, qp9, qq9, qr9, qs9, qt9, qu9, qv9, qw9, qx9, ev, qy9, qz9, za9, zb9, zc9, zd9, ze9, zf9, zg9, zh9, zi9, zj9, zk9, zl9, zm9, zn9, zo9, zp9, zq9, zr9, zs9, zt9, zu9, zv9, zw9, zx9, zy9, SgO, opA, isE, isRead, hadd]
        refine jb9 (f := 96) (args := [.ptr (some (.new r.k 0))]) (by rfl) (by rfl) (by rfl) (by simp [fn96]) (ind_ret W hP r nd0 (hnod.same fun k hk => hkP2.2 k (hlow k hk)) (fun k hk => Nat.lt_of_lt_of_le (hlow k hk) hkP2.1) hshort) ?_
        rintro bv hI ⟨hkI, hbv⟩
        have hkI2 := hkP2.trans hkI
        have hcI := (hkI2.2 r.k (hlow r.k (by simp [NR.ids]))).trans hc
        refine ⟨?_, ?_⟩
        · simp [zz9, ja9, qa9, qb9, qc9, qd9, qe9, qf9, qg9, qh9, qi9, qj9, qk9, ql9, qm9, qn9, qo9, qp9, qq9, qr9, qs9, qt9, qu9, qv9, qw9, qx9, ev, qy9, qz9, za9, zb9, zc9, zd9, ze9, zf9, zg9, zh9, zi9, zj9, zk9, zl9, zm9, zn9, zo9, zp9, zq9, zr9, zs9, zt9, zu9, zv9, zw9, opA, fa93_0, fa93_1, fa93_2, ld3, ji9 hcI, jd9]
        simp [qa9, qb9, qc9, qd9, qe9, qf9, qg9, qh9, qi9, qj9, qk9, ql9, qm9, qn9, qo9, qp9, qq9, qr9, qs9, qt9, qu9, qv9, qw9, qx9, ev, qy9, qz9, za9, zb9, zc9, zd9, ze9, zf9, zg9, zh9, zi9, zj9, zk9, zl9, zm9, zn9, zo9, zp9, zq9, zr9, zs9, zt9, zu9, zv9, zw9, zx9, zy9, SgO, opA, isE, isRead, build_fileR hbv]
        have hst := st_file (W := W) (h := hI) (b := flC (flD names i nd0 [], bv)) ((hkI.2 kf hnP).trans hgP) (by rfl) (by rfl) (flC_one (h := hI) (f := flD names i nd0 []) hbv)
        refine jc9 (v := .undef) (h' := hI.set kf (.cells (flC (flD names i nd0 [], bv)) 55)) (by rfl) (by simp [qa9, qb9, qc9, qd9, qe9, qf9, qg9, qh9, qi9, qj9, qk9, ql9, qm9, qn9, qo9, qp9, qq9, qr9, qs9, qt9, qu9, qv9, qw9, qx9, ev, qy9, qz9, za9, zb9, zc9, zd9, ze9, zf9, zg9, zh9, zi9, zj9, zk9, zl9, zm9, zn9, zo9, zp9, zq9, zr9, zs9, zt9, zu9, zv9, zw9]; exact hst) ⟨?_, ?_⟩
        · repeat refine zz9 ▸ ⟨fun hc => absurd (hc.symm.trans (show _ = true by kernel_rfl)) (by decide), ?_⟩
          exact ja9 ▸ trivial
        simp [qa9, qb9, qc9, qd9, qe9, qf9, qg9, qh9, qi9, qj9, qk9, ql9, qm9, qn9, qo9, qp9, qq9, qr9, qs9, qt9, qu9, qv9, qw9, qx9, ev, qy9, qz9, za9, zb9, zc9, zd9, ze9, zf9, zg9, zh9, zi9, zj9, zk9, zl9, zm9, zn9, zo9, zp9, zq9, zr9, zs9, zt9, zu9, zv9, zw9, zy9, thenQ]
        exact ⟨by simp, keeps_setN hkI2 hnI, kf, bv, hnI, by simp; exact (Nat.lt_of_lt_of_le hnP hkI.1), by simp, (hbv).setF ((hkI.2 kf hnP).trans hgP), by simp⟩
    · rintro e2 h2 ⟨hlen2, hk2, kf, bv, hn1, hn2, hgf, hbv, hh2⟩
      obtain ⟨a0, a1, a2, a3, a4, a5, a6, a7, a8, a9, rS0, rfl, hS0⟩ := un10 hlen2
      obtain ⟨a10, a11, a12, a13, a14, a15, a16, a17, a18, a19, rS10, rfl, hS10⟩ := un10 hS0
      obtain ⟨a20, a21, a22, a23, a24, a25, a26, a27, a28, a29, rS20, rfl, hS20⟩ := un10 hS10
      obtain ⟨a30, a31, a32, a33, a34, a35, a36, a37, a38, a39, rS30, rfl, hS30⟩ := un10 hS20
      obtain ⟨a40, a41, a42, a43, a44, a45, a46, a47, a48, a49, rS40, rfl, hS40⟩ := un10 hS30
      obtain ⟨a50, a51, a52, a53, a54, a55, a56, a57, a58, a59, rS50, rfl, hS50⟩ := un10 hS40
      obtain ⟨a60, a61, a62, a63, a64, a65, a66, a67, a68, a69, rS60, rfl, hS60⟩ := un10 hS50
      obtain ⟨a70, a71, a72, a73, a74, a75, a76, a77, a78, a79, rS70, rfl, hS70⟩ := un10 hS60
      obtain ⟨a80, a81, a82, a83, a84, a85, a86, a87, a88, a89, rS80, rfl, hS80⟩ := un10 hS70
      obtain ⟨a90, rS90, rfl, hS90⟩ := un1 hS80
      obtain ⟨a91, rS91, rfl, hS91⟩ := un1 hS90
      obtain ⟨a92, rS92, rfl, hS92⟩ := un1 hS91
      obtain rfl := un0 hS92
      clear hlen2 hS0 hS10 hS20 hS30 hS40 hS50 hS60 hS70 hS80 hS90 hS91 hS92
      simp at hh2
      obtain ⟨rfl, e2v, rfl, rfl⟩ := hh2
      obtain rfl := e2v.symm
      have hrk := hlow r.k (by simp [NR.ids])
      have hc2 := (hk2.2 r.k hrk).trans hc
      have hmp2 : MapIs h2 mv r.m nd0.blocks := hmp.same fun k hk => hk2.2 k (hlow k (by simp [NR.ids, hk]))
      have hil := indR_len hnod hshort
      simp [qa9, qb9, qc9, qd9, qe9, qf9, qg9, qh9, qi9, qk9, ql9, qm9, qn9, qo9, qp9, qq9, qr9, qs9, qt9, qu9, qv9, qw9, qx9, ev, qy9, qz9, za9, zb9, zc9, zd9, ze9, zf9, zg9, zh9, zi9, zj9, zk9, zl9, zm9, zn9, zo9, zp9, zq9, zr9, zs9, zt9, zu9, zv9, zw9, fa93_0, ld3, ji9 hc2, jd9]
      refine wc_cut (FileA h (.ptr (some (.new R.km 0))) nv (.ptr (some (.new r.k 0))) names i nd0 (if nd0.kind = 1 then datR nd0.blocks (indR nd0) else [])) ?_ ?_
      · by_cases hkd : nd0.kind = 1
        · have hln := hbv.len (W := W)
          have hgf' := hgf
          simp only [flC, flD] at hgf'
          simp [qa9, qb9, qc9, qd9, qe9, qf9, qg9, qh9, qi9, qj9, qk9, ql9, qm9, qn9, qo9, qp9, qq9, qr9, qs9, qt9, qu9, qv9, qw9, qx9, ev, qy9, qz9, za9, zb9, zc9, zd9, ze9, zf9, zg9, zh9, zi9, zj9, zk9, zl9, zm9, zn9, zo9, zp9, zq9, zr9, zs9, zt9, zu9, zv9, zw9, hkd, fa55_5, ld53, ji9 hgf', hln]
          refine loopN (cc_ok W) (DatI h2 (.ptr (some (.new R.km 0))) nv (.ptr (some (.new r.k 0))) bv names i nd0 kf) (indR nd0).length ⟨by simp, 0, by simp, rfl, fun _ _ => rfl, by simp [datR]; exact hgf, by simp⟩ ?_
          rintro m e3 h3 ⟨hlen3, j, hjm, hnx, hoff, hg3, hh3⟩
          obtain ⟨a0, a1, a2, a3, a4, a5, a6, a7, a8, a9, rS0, rfl, hS0⟩ := un10 hlen3
          obtain ⟨a10, a11, a12, a13, a14, a15, a16, a17, a18, a19, rS10, rfl, hS10⟩ := un10 hS0
          obtain ⟨a20, a21, a22, a23, a24, a25, a26, a27, a28, a29, rS20, rfl, hS20⟩ := un10 hS10
          obtain ⟨a30, a31, a32, a33, a34, a35, a36, a37, a38, a39, rS30, rfl, hS30⟩ := un10 hS20
          obtain ⟨a40, a41, a42, a43, a44, a45, a46, a47, a48, a49, rS40, rfl, hS40⟩ := un10 hS30
          obtain ⟨a50, a51, a52, a53, a54, a55, a56, a57, a58, a59, rS50, rfl, hS50⟩ := un10 hS40
          obtain ⟨a60, a61, a62, a63, a64, a65, a66, a67, a68, a69, rS60, rfl, hS60⟩ := un10 hS50
          obtain ⟨a70, a71, a72, a73, a74, a75, a76, a77, a78, a79, rS70, rfl, hS70⟩ := un10 hS60
          obtain ⟨a80, a81, a82, a83, a84, a85, a86, a87, a88, a89, rS80, rfl, hS80⟩ := un10 hS70
          obtain ⟨a90, rS90, rfl, hS90⟩ := un1 hS80
          obtain ⟨a91, rS91, rfl, hS91⟩ := un1 hS90
          obtain ⟨a92, rS92, rfl, hS92⟩ := un1 hS91
          obtain rfl := un0 hS92
          clear hlen3 hS0 hS10 hS20 hS30 hS40 hS50 hS60 hS70 hS80 hS90 hS91 hS92
          simp at hh3
          obtain ⟨rfl, e2v, rfl, rfl, e46, rfl, rfl⟩ := hh3
          obtain rfl := e2v.symm
          obtain rfl := e46.symm
          by_cases hjl : j < (indR nd0).length
          · have hjl' : (j : Int) < ((indR nd0).length : Int) := by omega
            have hx : (indR nd0)[j]? = some (indR nd0)[j] := by simp [hjl]
            have htk : (indR nd0).take (j + 1) = (indR nd0).take j ++ [(indR nd0)[j]] := by rw [List.take_add_one, hx]; rfl
            generalize (indR nd0)[j] = x at hx htk
            have hb3 : IntS h3 bv (indR nd0) := hbv.off hgf' hoff (by omega)
            obtain ⟨a', hix, hld⟩ := hb3.at (W := W) hx
            have hld' := hld h3 (Keeps.refl _)
            have hc3 := (hoff r.k (by omega)).trans hc2
            have hmp3 : MapIs h3 mv r.m nd0.blocks := hmp2.same fun k hk => hoff k (by have := hlow k (by simp [NR.ids, hk]); omega)
            have hlk := look_blkN (W := W) hmp3 x
            have h128' := h128 nd0 (List.mem_of_getElem? hnd0)
            have d1 := datR_len h128' ((indR nd0).take j)
            have d2 := datR_len h128' ((indR nd0).take (j + 1))
            rw [htk, datR_snoc] at d2
            have hadd2 : aStr .add (datR nd0.blocks ((indR nd0).take j)) ((blkAt nd0.blocks x).getD []) = some (.str (datR nd0.blocks ((indR nd0).take j) ++ (blkAt nd0.blocks x).getD [])) := text_add (by simp at d2; omega)
            have wj : IntKind.i64.wrap ((j : Int) + 1) = (j : Int) + 1 := wrap64 (by omega) (by omega)
            have hg3' := hg3
            simp only [flC, flD] at hg3'
            have hst := st_f6 (W := W) (y := datR nd0.blocks ((indR nd0).take j) ++ (blkAt nd0.blocks x).getD []) hg3'
            obtain ⟨mq, hmq⟩ := hmp3.isMap
            simp [qa9, qb9, qc9, qd9, qe9, qf9, qg9, qh9, qi9, qj9, qk9, ql9, qm9, qn9, qo9, qp9, qq9, qr9, qs9, qt9, qu9, qv9, qw9, qx9, ev, qy9, qz9, za9, zb9, zc9, zd9, ze9, zf9, zg9, zh9, zi9, zj9, zk9, zl9, zm9, zn9, zo9, zp9, zq9, zr9, zs9, zt9, zu9, zv9, zw9, hjl, hjl', hix, hld']
            refine drawS [0, 1, 2, 3, 4, 5, 6, 7, 8, 9, 10] (by kernel_rfl) (by kernel_rfl) ?_
            simp [qa9, qb9, qc9, qd9, qe9, qf9, qg9, qh9, qi9, qj9, qk9, ql9, qm9, qn9, qo9, qp9, qq9, qr9, qs9, qt9, qu9, qv9, qw9, qx9, ev, qy9, qz9, za9, zb9, zc9, zd9, ze9, zf9, zg9, zh9, zi9, zj9, zk9, zl9, zm9, zn9, zo9, zp9, zq9, zr9, zs9, zt9, zu9, zv9, zw9, zx9, zy9, SgO, opA, isE, isRead, fa55_6, ld9, ji9 hg3', fa93_3, ld90, ji9 hc3, jd9, hlk, hadd2]
            refine jc9 (v := .undef) (by rfl) (by simp [qa9, qb9, qc9, qd9, qe9, qf9, qg9, qh9, qi9, qj9, qk9, ql9, qm9, qn9, qo9, qp9, qq9, qr9, qs9, qt9, qu9, qv9, qw9, qx9, ev, qy9, qz9, za9, zb9, zc9, zd9, ze9, zf9, zg9, zh9, zi9, zj9, zk9, zl9, zm9, zn9, zo9, zp9, zq9, zr9, zs9, zt9, zu9, zv9, zw9]; exact hst) ⟨?_, ?_⟩
            · repeat refine zz9 ▸ ⟨fun hc => absurd (hc.symm.trans (show _ = true by kernel_rfl)) (by decide), ?_⟩
              exact ja9 ▸ trivial
            · simp [qa9, qb9, qc9, qd9, qe9, qf9, qg9, qh9, qi9, qj9, qk9, ql9, qm9, qn9, qo9, qp9, qq9, qr9, qs9, qt9, qu9, qv9, qw9, qx9, ev, qy9, qz9, za9, zb9, zc9, zd9, ze9, zf9, zg9, zh9, zi9, zj9, zk9, zl9, zm9, zn9, zo9, zp9, zq9, zr9, zs9, zt9, zu9, zv9, zw9, zy9, wj]
              exact ⟨m - 1, by omega, by simp, j + 1, by omega, by simp [hnx], fun k hk => by simp [hk]; exact hoff k hk, by simp [htk, datR_snoc, flC, flD], by simp⟩
          · have hjl' : ¬ (j : Int) < ((indR nd0).length : Int) := by omega
            have htk : (indR nd0).take j = indR nd0 := List.take_of_length_le (by omega)
            rw [htk] at hg3
            simp [qa9, qb9, qc9, qd9, qe9, qf9, qg9, qh9, qi9, qj9, qk9, ql9, qm9, qn9, qo9, qp9, qq9, qr9, qs9, qt9, qu9, qv9, qw9, qx9, ev, qy9, qz9, za9, zb9, zc9, zd9, ze9, zf9, zg9, zh9, zi9, zj9, zk9, zl9, zm9, zn9, zo9, zp9, zq9, zr9, zs9, zt9, zu9, zv9, zw9, hjl, hjl', thenQ]
            exact ⟨by simp, ⟨by have := hk2.1; omega, fun q hq => (hoff q (by omega)).trans (hk2.2 q hq)⟩, kf, bv, hn1, by omega, hg3, hbv.off hgf' hoff (by omega), by simp⟩
        · simp [qa9, qb9, qc9, qd9, qe9, qf9, qg9, qh9, qi9, qj9, qk9, ql9, qm9, qn9, qo9, qp9, qq9, qr9, qs9, qt9, qu9, qv9, qw9, qx9, ev, qy9, qz9, za9, zb9, zc9, zd9, ze9, zf9, zg9, zh9, zi9, zj9, zk9, zl9, zm9, zn9, zo9, zp9, zq9, zr9, zs9, zt9, zu9, zv9, zw9, hkd, thenQ]
          exact ⟨by simp, hk2, kf, bv, hn1, hn2, hgf, hbv, by simp⟩
      · rintro e3 h3 ⟨hlen3, hk3, kf3, bv3, hn3, hn4, hg3, hbv3, hh3⟩
        obtain ⟨a0, a1, a2, a3, a4, a5, a6, a7, a8, a9, rS0, rfl, hS0⟩ := un10 hlen3
        obtain ⟨a10, a11, a12, a13, a14, a15, a16, a17, a18, a19, rS10, rfl, hS10⟩ := un10 hS0
        obtain ⟨a20, a21, a22, a23, a24, a25, a26, a27, a28, a29, rS20, rfl, hS20⟩ := un10 hS10
        obtain ⟨a30, a31, a32, a33, a34, a35, a36, a37, a38, a39, rS30, rfl, hS30⟩ := un10 hS20
        obtain ⟨a40, a41, a42, a43, a44, a45, a46, a47, a48, a49, rS40, rfl, hS40⟩ := un10 hS30
        obtain ⟨a50, a51, a52, a53, a54, a55, a56, a57, a58, a59, rS50, rfl, hS50⟩ := un10 hS40
        obtain ⟨a60, a61, a62, a63, a64, a65, a66, a67, a68, a69, rS60, rfl, hS60⟩ := un10 hS50
        obtain ⟨a70, a71, a72, a73, a74, a75, a76, a77, a78, a79, rS70, rfl, hS70⟩ := un10 hS60
        obtain ⟨a80, a81, a82, a83, a84, a85, a86, a87, a88, a89, rS80, rfl, hS80⟩ := un10 hS70
        obtain ⟨a90, rS90, rfl, hS90⟩ := un1 hS80
        obtain ⟨a91, rS91, rfl, hS91⟩ := un1 hS90
        obtain ⟨a92, rS92, rfl, hS92⟩ := un1 hS91
        obtain rfl := un0 hS92
        clear hlen3 hS0 hS10 hS20 hS30 hS40 hS50 hS60 hS70 hS80 hS90 hS91 hS92
        simp at hh3
        obtain ⟨rfl, e2v, rfl, rfl⟩ := hh3
        obtain rfl := e2v.symm
        have hfl : flD names i nd0 (if nd0.kind = 1 then datR nd0.blocks (indR nd0) else []) = flR names i nd0 := rfl
        rw [hfl] at hg3
        have hld3 := ld_file (W := W) hg3
        have hbs := build_fl (W := W) (h := h3) (f := flR names i nd0) hbv3
        simp [qa9, qb9, qc9, qd9, qe9, qf9, qg9, qh9, qi9, qj9, qk9, ql9, qm9, qn9, qo9, qp9, qq9, qr9, qs9, qt9, qu9, qv9, qw9, qx9, ev, qy9, qz9, za9, zb9, zc9, zd9, ze9, zf9, zg9, zh9, zi9, zj9, zk9, zl9, zm9, zn9, zo9, zp9, zq9, zr9, zs9, zt9, zu9, zv9, zw9, hld3, hbs]
        have hkP := Keeps.push h3 (.cells (flC (flR names i nd0, bv3)) 55)
        have hgP : (h3.push (.cells (flC (flR names i nd0, bv3)) 55)).get h3.next = some (.cells (flC (flR names i nd0, bv3)) 55) := by simp
        have hnP : h3.next < (h3.push (.cells (flC (flR names i nd0, bv3)) 55)).next := by simp
        generalize h3.push (.cells (flC (flR names i nd0, bv3)) 55) = h4 at hkP hgP hnP ⊢
        generalize h3.next = k4 at hgP hnP ⊢
        have hk4 := hk3.trans hkP
        refine jg9 (by simp [fn79]) (names_ret W h4 r nd0 (hnod.same fun k hk => hk4.2 k (hlow k hk)) (fun k hk => Nat.lt_of_lt_of_le (hlow k hk) hk4.1) hshort) fun sv5 h5 hk5 hos5 => ?_
        have hoF : OwnF h5 h5 (.sl (some (.new k4 0)) 1 1 none) [flR names i nd0] := own_fl (Keeps.refl h5) ((hk5.2 k4 hnP).trans hgP) (Nat.lt_of_lt_of_le hnP hk5.1) ((hbv3.keeps hkP).keeps hk5)
        have hkh5 := hk4.trans hk5
        clear hgP hnP
        have hst5 := hos5.strS (W := W)
        obtain ⟨na, nc, ng, hsv5⟩ := hos5.len
        have hmem : ∀ s ∈ sortT (nmsR nd0.slots), s ∈ nmsR nd0.slots := fun s hs => (List.mergeSort_perm _ _).mem_iff.1 hs
        have hS : (sortT (nmsR nd0.slots)).length < 1099511627776 := by rw [show (sortT (nmsR nd0.slots)).length = (nmsR nd0.slots).length from (List.mergeSort_perm _ _).length_eq]; have := nmsR_len nd0.slots; omega
        have htree : treeR M (n + 1) names i = flR names i nd0 :: (sortT (nmsR nd0.slots)).flatMap fun s => treeR M n (names ++ [s]) (childR nd0 s) := by simp only [treeR, hnd0]
        rw [htree] at hlen ⊢
        generalize sortT (nmsR nd0.slots) = S at hos5 hst5 hsv5 hmem hS hlen ⊢
        subst hsv5
        simp [qa9, qb9, qc9, qd9, qe9, qf9, qg9, qh9, qi9, qj9, qk9, ql9, qm9, qn9, qo9, qp9, qq9, qr9, qs9, qt9, qu9, qv9, qw9, qx9, ev, qy9, qz9, za9, zb9, zc9, zd9, ze9, zf9, zg9, zh9, zi9, zj9, zk9, zl9, zm9, zn9, zo9, zp9, zq9, zr9, zs9, zt9, zu9, zv9, zw9, aLen, kind37]
        refine loopN (cc_ok W) (TreeI M n h5 (.ptr (some (.new R.km 0))) nv (.ptr (some (.new r.k 0))) (.sl na S.length nc ng) names i nd0 S) S.length ⟨by simp, 0, by simp, by simpa using hoF, by simp⟩ ?_
        rintro m e4 h6 ⟨hlen4, j, hjm, hoj, hh4⟩
        obtain ⟨a0, a1, a2, a3, a4, a5, a6, a7, a8, a9, rS0, rfl, hS0⟩ := un10 hlen4
        obtain ⟨a10, a11, a12, a13, a14, a15, a16, a17, a18, a19, rS10, rfl, hS10⟩ := un10 hS0
        obtain ⟨a20, a21, a22, a23, a24, a25, a26, a27, a28, a29, rS20, rfl, hS20⟩ := un10 hS10
        obtain ⟨a30, a31, a32, a33, a34, a35, a36, a37, a38, a39, rS30, rfl, hS30⟩ := un10 hS20
        obtain ⟨a40, a41, a42, a43, a44, a45, a46, a47, a48, a49, rS40, rfl, hS40⟩ := un10 hS30
        obtain ⟨a50, a51, a52, a53, a54, a55, a56, a57, a58, a59, rS50, rfl, hS50⟩ := un10 hS40
        obtain ⟨a60, a61, a62, a63, a64, a65, a66, a67, a68, a69, rS60, rfl, hS60⟩ := un10 hS50
        obtain ⟨a70, a71, a72, a73, a74, a75, a76, a77, a78, a79, rS70, rfl, hS70⟩ := un10 hS60
        obtain ⟨a80, a81, a82, a83, a84, a85, a86, a87, a88, a89, rS80, rfl, hS80⟩ := un10 hS70
        obtain ⟨a90, rS90, rfl, hS90⟩ := un1 hS80
        obtain ⟨a91, rS91, rfl, hS91⟩ := un1 hS90
        obtain ⟨a92, rS92, rfl, hS92⟩ := un1 hS91
        obtain rfl := un0 hS92
        clear hlen4 hS0 hS10 hS20 hS30 hS40 hS50 hS60 hS70 hS80 hS90 hS91 hS92
        simp at hh4 hoj
        obtain ⟨rfl, e2v, rfl, rfl, rfl, rfl⟩ := hh4
        obtain rfl := e2v.symm
        by_cases hjl : j < S.length
        · have hjl' : (j : Int) < (S.length : Int) := by omega
          have wj : IntKind.i64.wrap ((j : Int) + 1) = (j : Int) + 1 := wrap64 (by omega) (by omega)
          have hx : S[j]? = some S[j] := by simp [hjl]
          have htk : S.take (j + 1) = S.take j ++ [S[j]] := by rw [List.take_add_one, hx]; rfl
          generalize S[j] = s at hx htk
          obtain ⟨a', hix, hld⟩ := (hst5.keeps hoj.1).at hx
          simp [qa9, qb9, qc9, qd9, qe9, qf9, qg9, qh9, qi9, qj9, qk9, ql9, qm9, qn9, qo9, qp9, qq9, qr9, qs9, qt9, qu9, qv9, qw9, qx9, ev, qy9, qz9, za9, zb9, zc9, zd9, ze9, zf9, zg9, zh9, zi9, zj9, zk9, zl9, zm9, zn9, zo9, zp9, zq9, zr9, zs9, zt9, zu9, zv9, zw9, hjl, hjl', hix, hld]
          have hrk6 := hkh5.trans hoj.1
          have hkh6 : Keeps h h6 := hrk6
          have hk6h6 : Keeps h6 h6 := Keeps.refl h6
          have hc6 := (hkh6.2 r.k hrk).trans hc
          have hsS := hmem s (List.mem_of_getElem? hx)
          obtain ⟨x0, hx0, hxs⟩ := List.mem_filterMap.1 hsS
          have hx0n : x0.nm = s ∧ s ≠ [] := by
            by_cases e : x0.nm = []
            · rw [if_pos e] at hxs; cases hxs
            · rw [if_neg e] at hxs; cases hxs; exact ⟨rfl, e⟩
          obtain ⟨hx0n, hsne⟩ := hx0n
          have hpl : ¬ placeR nd0.slots s < 0 := fun hc => placeR_neg.1 hc x0 hx0 hx0n
          obtain ⟨jj, x, hpe, hxj, hxn⟩ := placeR_lt hpl
          have hxm := List.mem_of_getElem? hxj
          have hsl255 : s.length ≤ 255 := by rw [← hxn]; exact hnm nd0 (List.mem_of_getElem? hnd0) x hxm
          have hjj : jj < nd0.slots.length := (List.getElem?_eq_some_iff.1 hxj).1
          obtain ⟨b0, b1⟩ := ok.inos nd0 (List.mem_of_getElem? hnd0) x hxm
          have hino : ((x.ino.toNat : Nat) : Int) = x.ino := by omega
          have hchd : childR nd0 s = x.ino.toNat := by simp only [childR, hpe, Int.toNat_natCast, hxj]
          obtain ⟨ks, hrs, cap, sp, hsv, hgs, hcap⟩ := SlotsIs.at hsl hxj
          rw [hsv] at hc hc6
          have hksl : ks < h.next := hlow ks (by simp [NR.ids, hrs])
          have hg6 := (hkh6.2 ks hksl).trans hgs
          have hch : (S.take (j + 1)).flatMap (fun s => treeR M n (names ++ [s]) (childR nd0 s)) = (S.take j).flatMap (fun s => treeR M n (names ++ [s]) (childR nd0 s)) ++ treeR M n (names ++ [s]) x.ino.toNat := by
            rw [htk, List.flatMap_append]; simp [hchd]
          have hlen6 : ((S.take (j + 1)).flatMap fun s => treeR M n (names ++ [s]) (childR nd0 s)).length < 999999999999 := by
            have e : S = S.take (j + 1) ++ S.drop (j + 1) := (List.take_append_drop _ _).symm
            rw [e, List.flatMap_append] at hlen
            simp only [List.length_cons, List.length_append] at hlen
            omega
          refine wc_cut (TreeK M n h5 (.ptr (some (.new R.km 0))) nv (.ptr (some (.new r.k 0))) (.sl na S.length nc ng) names i nd0 S j) ?_ ?_
          · refine drawSn [[0, 1, 2, 3, 4, 5, 6, 7, 12, 14, 8, 9, 10, 11, 13, 15, 16, 17, 18, 19], [0, 1, 2, 3, 4, 5, 6, 7, 12, 14, 8, 9, 10, 11, 15, 13, 16, 17, 18, 19], [0, 1, 2, 3, 4, 5, 6, 7, 12, 14, 15, 8, 9, 10, 11, 13, 16, 17, 18, 19]] (by kernel_rfl) (by kernel_rfl) ?_
            intro L hL
            simp only [List.mem_cons, List.not_mem_nil, or_false] at hL
            rcases hL with rfl | rfl | rfl
            · simp [qa9, qb9, qc9, qd9, qe9, qf9, qg9, qh9, qi9, qj9, qk9, ql9, qm9, qn9, qo9, qp9, qq9, qr9, qs9, qt9, qu9, qv9, qw9, qx9, ev, qy9, qz9, za9, zb9, zc9, zd9, ze9, zf9, zg9, zh9, zi9, zj9, zk9, zl9, zm9, zn9, zo9, zp9, zq9, zr9, zs9, zt9, zu9, zv9, zw9, zx9, zy9, SgO, opA, isE, isRead, fa93_4, ld91, jd9, ji9 hc6, hpe, idx_slt hjj, fa159_1, ld3, ji9 hg6, sltCells_ino hxj]
              refine jb9 (f := 82) (args := [.ptr (some (.new r.k 0)), .str s]) (by rfl) (by rfl) (by rfl) (by simp [fn82]) (place_ret W h6 r nd0 (hnod.same fun k hk => hkh6.2 k (hlow k hk)) (fun k hk => Nat.lt_of_lt_of_le (hlow k hk) hkh6.1) s hshort) ?_
              rintro w hP ⟨rfl, hkpP⟩
              have hkhP := hkh6.trans hkpP
              have hk6hP := hk6h6.trans hkpP
              have hchP := (hkhP.2 r.k hrk).trans hc
              have hghP := (hkhP.2 ks hksl).trans hgs
              refine ⟨?_, ?_⟩
              · simp [zz9, ja9, qa9, qb9, qc9, qd9, qe9, qf9, qg9, qh9, qi9, qj9, qk9, ql9, qm9, qn9, qo9, qp9, qq9, qr9, qs9, qt9, qu9, qv9, qw9, qx9, ev, qy9, qz9, za9, zb9, zc9, zd9, ze9, zf9, zg9, zh9, zi9, zj9, zk9, zl9, zm9, zn9, zo9, zp9, zq9, zr9, zs9, zt9, zu9, zv9, zw9, opA, fa93_4, ld91, jd9, fa159_1, ld3, ji9 hchP]
              simp [qa9, qb9, qc9, qd9, qe9, qf9, qg9, qh9, qi9, qj9, qk9, ql9, qm9, qn9, qo9, qp9, qq9, qr9, qs9, qt9, qu9, qv9, qw9, qx9, ev, qy9, qz9, za9, zb9, zc9, zd9, ze9, zf9, zg9, zh9, zi9, zj9, zk9, zl9, zm9, zn9, zo9, zp9, zq9, zr9, zs9, zt9, zu9, zv9, zw9, zx9, zy9, SgO, opA, isE, isRead, hpe, idx_slt hjj, fa159_1, ld3, ji9 hghP, sltCells_ino hxj]
              replace hkhP : Keeps h hP := hkhP
              have hkhPx := hkhP
              refine jb9 (f := 98) (args := [nv]) (by rfl) (by rfl) (by rfl) (by simp [fn98]) (cloneS_ret W h00 hP nv names (hos.keeps hkhP) hnil (by omega)) ?_
              rintro w hC ⟨hkpC, hoC⟩
              have hkhC := hkhP.trans hkpC
              have hk6hC := hk6hP.trans hkpC
              have hchC := (hkhC.2 r.k hrk).trans hc
              have hghC := (hkhC.2 ks hksl).trans hgs
              refine ⟨?_, ?_⟩
              · simp [zz9, ja9, qa9, qb9, qc9, qd9, qe9, qf9, qg9, qh9, qi9, qj9, qk9, ql9, qm9, qn9, qo9, qp9, qq9, qr9, qs9, qt9, qu9, qv9, qw9, qx9, ev, qy9, qz9, za9, zb9, zc9, zd9, ze9, zf9, zg9, zh9, zi9, zj9, zk9, zl9, zm9, zn9, zo9, zp9, zq9, zr9, zs9, zt9, zu9, zv9, zw9, opA, fa93_4, ld91, jd9, fa159_1, ld3, ji9 hchC, ji9 hghC, sltCells_ino hxj]
              simp [qa9, qb9, qc9, qd9, qe9, qf9, qg9, qh9, qi9, qj9, qk9, ql9, qm9, qn9, qo9, qp9, qq9, qr9, qs9, qt9, qu9, qv9, qw9, qx9, ev, qy9, qz9, za9, zb9, zc9, zd9, ze9, zf9, zg9, zh9, zi9, zj9, zk9, zl9, zm9, zn9, zo9, zp9, zq9, zr9, zs9, zt9, zu9, zv9, zw9, zx9, zy9, SgO, opA, isE, isRead]
              obtain ⟨v8, hA, hap, hoA⟩ := append_str (W := W) (x := s) hoC (by omega)
              have hkpD := Keeps.push hC (.cells [.str s] 9)
              refine jc9 (v := .sl (some (.new hC.next 0)) 1 1 none) (h' := hC.push (.cells [.str s] 9)) (by rfl) (by simp [qa9, qb9, qc9, qd9, qe9, qf9, qg9, qh9, qi9, qj9, qk9, ql9, qm9, qn9, qo9, qp9, qq9, qr9, qs9, qt9, qu9, qv9, qw9, qx9, ev, qy9, qz9, za9, zb9, zc9, zd9, ze9, zf9, zg9, zh9, zi9, zj9, zk9, zl9, zm9, zn9, zo9, zp9, zq9, zr9, zs9, zt9, zu9, zv9, zw9, build_str]) ?_
              generalize hC.push (.cells [.str s] 9) = hD at hkpD hap ⊢
              generalize hC.next = jb at hap ⊢
              have hkhD := hkhC.trans hkpD
              have hchD := (hkhD.2 r.k hrk).trans hc
              have hghD := (hkhD.2 ks hksl).trans hgs
              refine ⟨?_, ?_⟩
              · simp [zz9, ja9, qa9, qb9, qc9, qd9, qe9, qf9, qg9, qh9, qi9, qj9, qk9, ql9, qm9, qn9, qo9, qp9, qq9, qr9, qs9, qt9, qu9, qv9, qw9, qx9, ev, qy9, qz9, za9, zb9, zc9, zd9, ze9, zf9, zg9, zh9, zi9, zj9, zk9, zl9, zm9, zn9, zo9, zp9, zq9, zr9, zs9, zt9, zu9, zv9, zw9, opA, fa93_4, ld91, jd9, fa159_1, ld3, ji9 hchD, ji9 hghD, sltCells_ino hxj]
              simp [qa9, qb9, qc9, qd9, qe9, qf9, qg9, qh9, qi9, qj9, qk9, ql9, qm9, qn9, qo9, qp9, qq9, qr9, qs9, qt9, qu9, qv9, qw9, qx9, ev, qy9, qz9, za9, zb9, zc9, zd9, ze9, zf9, zg9, zh9, zi9, zj9, zk9, zl9, zm9, zn9, zo9, zp9, zq9, zr9, zs9, zt9, zu9, zv9, zw9, zx9, zy9, SgO, opA, isE, isRead]
              have hkhA := hkhP.trans hoA.1
              have hk6hA := hk6hP.trans hoA.1
              have hchA := (hkhA.2 r.k hrk).trans hc
              have hghA := (hkhA.2 ks hksl).trans hgs
              refine jc9 (v := v8) (h' := hA) (by rfl) (by simp [qa9, qb9, qc9, qd9, qe9, qf9, qg9, qh9, qi9, qj9, qk9, ql9, qm9, qn9, qo9, qp9, qq9, qr9, qs9, qt9, qu9, qv9, qw9, qx9, ev, qy9, qz9, za9, zb9, zc9, zd9, ze9, zf9, zg9, zh9, zi9, zj9, zk9, zl9, zm9, zn9, zo9, zp9, zq9, zr9, zs9, zt9, zu9, zv9, zw9, hap]) ⟨?_, ?_⟩
              · simp [zz9, ja9, qa9, qb9, qc9, qd9, qe9, qf9, qg9, qh9, qi9, qj9, qk9, ql9, qm9, qn9, qo9, qp9, qq9, qr9, qs9, qt9, qu9, qv9, qw9, qx9, ev, qy9, qz9, za9, zb9, zc9, zd9, ze9, zf9, zg9, zh9, zi9, zj9, zk9, zl9, zm9, zn9, zo9, zp9, zq9, zr9, zs9, zt9, zu9, zv9, zw9, opA, fa93_4, ld91, jd9, fa159_1, ld3, ji9 hchA, ji9 hghA, sltCells_ino hxj]
              simp [qa9, qb9, qc9, qd9, qe9, qf9, qg9, qh9, qi9, qj9, qk9, ql9, qm9, qn9, qo9, qp9, qq9, qr9, qs9, qt9, qu9, qv9, qw9, qx9, ev, qy9, qz9, za9, zb9, zc9, zd9, ze9, zf9, zg9, zh9, zi9, zj9, zk9, zl9, zm9, zn9, zo9, zp9, zq9, zr9, zs9, zt9, zu9, zv9, zw9, zx9, zy9, SgO, opA, isE, isRead]
              have hdo := ih hA x.ino.toNat (names ++ [s]) v8 (hm.keeps hkhA) ⟨⟨_, hoA⟩, by simp⟩ (hdeep x hxm (by rw [hxn]; exact hsne)) (by rw [hch, List.length_append] at hlen6; omega) (by intro y hy; rw [List.mem_append, List.mem_singleton] at hy; rcases hy with hy | rfl; exact hns y hy; exact hsl255) (by simp; omega)
              rw [hino] at hdo
              refine jb9 (f := 55) (args := [.ptr (some (.new R.km 0)), .int .i64 x.ino, v8]) (by rfl) (by rfl) (by rfl) (by simp [fn55]) hdo ?_
              rintro w7 hF ⟨hkpF, hoR⟩
              refine ⟨?_, ?_⟩
              · repeat refine zz9 ▸ ⟨fun hc => absurd (hc.symm.trans (show _ = true by kernel_rfl)) (by decide), ?_⟩
                exact ja9 ▸ trivial
              simp [qa9, qb9, qc9, qd9, qe9, qf9, qg9, qh9, qi9, qj9, qk9, ql9, qm9, qn9, qo9, qp9, qq9, qr9, qs9, qt9, qu9, qv9, qw9, qx9, ev, qy9, qz9, za9, zb9, zc9, zd9, ze9, zf9, zg9, zh9, zi9, zj9, zk9, zl9, zm9, zn9, zo9, zp9, zq9, zr9, zs9, zt9, zu9, zv9, zw9, zx9, zy9, SgO, opA, isE, isRead]
              obtain ⟨v9, hG, hap9, hoG⟩ := append_fls (W := W) (hoj.keeps hk6hA) hoR (by rw [hch, List.length_append] at hlen6; simp only [List.length_cons]; omega)
              refine jc9 (v := v9) (h' := hG) (by rfl) (by simp [qa9, qb9, qc9, qd9, qe9, qf9, qg9, qh9, qi9, qj9, qk9, ql9, qm9, qn9, qo9, qp9, qq9, qr9, qs9, qt9, qu9, qv9, qw9, qx9, ev, qy9, qz9, za9, zb9, zc9, zd9, ze9, zf9, zg9, zh9, zi9, zj9, zk9, zl9, zm9, zn9, zo9, zp9, zq9, zr9, zs9, zt9, zu9, zv9, zw9, hap9]) ⟨?_, ?_⟩
              · repeat refine zz9 ▸ ⟨fun hc => absurd (hc.symm.trans (show _ = true by kernel_rfl)) (by decide), ?_⟩
                exact ja9 ▸ trivial
              simp [qa9, qb9, qc9, qd9, qe9, qf9, qg9, qh9, qi9, qj9, qk9, ql9, qm9, qn9, qo9, qp9, qq9, qr9, qs9, qt9, qu9, qv9, qw9, qx9, ev, qy9, qz9, za9, zb9, zc9, zd9, ze9, zf9, zg9, zh9, zi9, zj9, zk9, zl9, zm9, zn9, zo9, zp9, zq9, zr9, zs9, zt9, zu9, zv9, zw9, zx9, zy9, SgO, opA, isE, isRead, thenQ]
              exact ⟨by simp, by rw [hch]; simpa using hoG, by simp⟩
            · simp [qa9, qb9, qc9, qd9, qe9, qf9, qg9, qh9, qi9, qj9, qk9, ql9, qm9, qn9, qo9, qp9, qq9, qr9, qs9, qt9, qu9, qv9, qw9, qx9, ev, qy9, qz9, za9, zb9, zc9, zd9, ze9, zf9, zg9, zh9, zi9, zj9, zk9, zl9, zm9, zn9, zo9, zp9, zq9, zr9, zs9, zt9, zu9, zv9, zw9, zx9, zy9, SgO, opA, isE, isRead, fa93_4, ld91, jd9, ji9 hc6, hpe, idx_slt hjj, fa159_1, ld3, ji9 hg6, sltCells_ino hxj]
              refine jb9 (f := 82) (args := [.ptr (some (.new r.k 0)), .str s]) (by rfl) (by rfl) (by rfl) (by simp [fn82]) (place_ret W h6 r nd0 (hnod.same fun k hk => hkh6.2 k (hlow k hk)) (fun k hk => Nat.lt_of_lt_of_le (hlow k hk) hkh6.1) s hshort) ?_
              rintro w hP ⟨rfl, hkpP⟩
              have hkhP := hkh6.trans hkpP
              have hk6hP := hk6h6.trans hkpP
              have hchP := (hkhP.2 r.k hrk).trans hc
              have hghP := (hkhP.2 ks hksl).trans hgs
              refine ⟨?_, ?_⟩
              · simp [zz9, ja9, qa9, qb9, qc9, qd9, qe9, qf9, qg9, qh9, qi9, qj9, qk9, ql9, qm9, qn9, qo9, qp9, qq9, qr9, qs9, qt9, qu9, qv9, qw9, qx9, ev, qy9, qz9, za9, zb9, zc9, zd9, ze9, zf9, zg9, zh9, zi9, zj9, zk9, zl9, zm9, zn9, zo9, zp9, zq9, zr9, zs9, zt9, zu9, zv9, zw9, opA, fa93_4, ld91, jd9, fa159_1, ld3, ji9 hchP]
              simp [qa9, qb9, qc9, qd9, qe9, qf9, qg9, qh9, qi9, qj9, qk9, ql9, qm9, qn9, qo9, qp9, qq9, qr9, qs9, qt9, qu9, qv9, qw9, qx9, ev, qy9, qz9, za9, zb9, zc9, zd9, ze9, zf9, zg9, zh9, zi9, zj9, zk9, zl9, zm9, zn9, zo9, zp9, zq9, zr9, zs9, zt9, zu9, zv9, zw9, zx9, zy9, SgO, opA, isE, isRead, hpe, idx_slt hjj, fa159_1, ld3, ji9 hghP, sltCells_ino hxj]
              replace hkhP : Keeps h hP := hkhP
              have hkhPx := hkhP
              have hkpB := Keeps.push hP (.cells [.str s] 9)
              have hgjB : (hP.push (.cells [.str s] 9)).get hP.next = some (.cells [.str s] 9) := by simp
              have hnjB : hP.next < (hP.push (.cells [.str s] 9)).next := by simp
              refine jc9 (v := .sl (some (.new hP.next 0)) 1 1 none) (h' := hP.push (.cells [.str s] 9)) (by rfl) (by simp [qa9, qb9, qc9, qd9, qe9, qf9, qg9, qh9, qi9, qj9, qk9, ql9, qm9, qn9, qo9, qp9, qq9, qr9, qs9, qt9, qu9, qv9, qw9, qx9, ev, qy9, qz9, za9, zb9, zc9, zd9, ze9, zf9, zg9, zh9, zi9, zj9, zk9, zl9, zm9, zn9, zo9, zp9, zq9, zr9, zs9, zt9, zu9, zv9, zw9, build_str]) ?_
              generalize hP.push (.cells [.str s] 9) = hB at hkpB hgjB hnjB ⊢
              generalize hP.next = jb at hgjB hnjB ⊢
              have hkhB := hkhP.trans hkpB
              have hk6hB := hk6hP.trans hkpB
              have hchB := (hkhB.2 r.k hrk).trans hc
              have hghB := (hkhB.2 ks hksl).trans hgs
              refine ⟨?_, ?_⟩
              · simp [zz9, ja9, qa9, qb9, qc9, qd9, qe9, qf9, qg9, qh9, qi9, qj9, qk9, ql9, qm9, qn9, qo9, qp9, qq9, qr9, qs9, qt9, qu9, qv9, qw9, qx9, ev, qy9, qz9, za9, zb9, zc9, zd9, ze9, zf9, zg9, zh9, zi9, zj9, zk9, zl9, zm9, zn9, zo9, zp9, zq9, zr9, zs9, zt9, zu9, zv9, zw9, opA, fa93_4, ld91, jd9, fa159_1, ld3, ji9 hchB, ji9 hghB, sltCells_ino hxj]
              simp [qa9, qb9, qc9, qd9, qe9, qf9, qg9, qh9, qi9, qj9, qk9, ql9, qm9, qn9, qo9, qp9, qq9, qr9, qs9, qt9, qu9, qv9, qw9, qx9, ev, qy9, qz9, za9, zb9, zc9, zd9, ze9, zf9, zg9, zh9, zi9, zj9, zk9, zl9, zm9, zn9, zo9, zp9, zq9, zr9, zs9, zt9, zu9, zv9, zw9, zx9, zy9, SgO, opA, isE, isRead]
              refine jb9 (f := 98) (args := [nv]) (by rfl) (by rfl) (by rfl) (by simp [fn98]) (cloneS_ret W h00 hB nv names (hos.keeps hkhB) hnil (by omega)) ?_
              rintro w hC ⟨hkpC, hoC⟩
              have hkhC := hkhB.trans hkpC
              have hk6hC := hk6hB.trans hkpC
              have hchC := (hkhC.2 r.k hrk).trans hc
              have hghC := (hkhC.2 ks hksl).trans hgs
              refine ⟨?_, ?_⟩
              · simp [zz9, ja9, qa9, qb9, qc9, qd9, qe9, qf9, qg9, qh9, qi9, qj9, qk9, ql9, qm9, qn9, qo9, qp9, qq9, qr9, qs9, qt9, qu9, qv9, qw9, qx9, ev, qy9, qz9, za9, zb9, zc9, zd9, ze9, zf9, zg9, zh9, zi9, zj9, zk9, zl9, zm9, zn9, zo9, zp9, zq9, zr9, zs9, zt9, zu9, zv9, zw9, opA, fa93_4, ld91, jd9, fa159_1, ld3, ji9 hchC, ji9 hghC, sltCells_ino hxj]
              simp [qa9, qb9, qc9, qd9, qe9, qf9, qg9, qh9, qi9, qj9, qk9, ql9, qm9, qn9, qo9, qp9, qq9, qr9, qs9, qt9, qu9, qv9, qw9, qx9, ev, qy9, qz9, za9, zb9, zc9, zd9, ze9, zf9, zg9, zh9, zi9, zj9, zk9, zl9, zm9, zn9, zo9, zp9, zq9, zr9, zs9, zt9, zu9, zv9, zw9, zx9, zy9, SgO, opA, isE, isRead]
              obtain ⟨v8, hA, hap, hoA⟩ := append_str1 (W := W) hoC hnjB ((hkpC.2 jb hnjB).trans hgjB) (by omega)
              have hkhA := hkhB.trans hoA.1
              have hk6hA := hk6hB.trans hoA.1
              have hchA := (hkhA.2 r.k hrk).trans hc
              have hghA := (hkhA.2 ks hksl).trans hgs
              refine jc9 (v := v8) (h' := hA) (by rfl) (by simp [qa9, qb9, qc9, qd9, qe9, qf9, qg9, qh9, qi9, qj9, qk9, ql9, qm9, qn9, qo9, qp9, qq9, qr9, qs9, qt9, qu9, qv9, qw9, qx9, ev, qy9, qz9, za9, zb9, zc9, zd9, ze9, zf9, zg9, zh9, zi9, zj9, zk9, zl9, zm9, zn9, zo9, zp9, zq9, zr9, zs9, zt9, zu9, zv9, zw9, hap]) ⟨?_, ?_⟩
              · simp [zz9, ja9, qa9, qb9, qc9, qd9, qe9, qf9, qg9, qh9, qi9, qj9, qk9, ql9, qm9, qn9, qo9, qp9, qq9, qr9, qs9, qt9, qu9, qv9, qw9, qx9, ev, qy9, qz9, za9, zb9, zc9, zd9, ze9, zf9, zg9, zh9, zi9, zj9, zk9, zl9, zm9, zn9, zo9, zp9, zq9, zr9, zs9, zt9, zu9, zv9, zw9, opA, fa93_4, ld91, jd9, fa159_1, ld3, ji9 hchA, ji9 hghA, sltCells_ino hxj]
              simp [qa9, qb9, qc9, qd9, qe9, qf9, qg9, qh9, qi9, qj9, qk9, ql9, qm9, qn9, qo9, qp9, qq9, qr9, qs9, qt9, qu9, qv9, qw9, qx9, ev, qy9, qz9, za9, zb9, zc9, zd9, ze9, zf9, zg9, zh9, zi9, zj9, zk9, zl9, zm9, zn9, zo9, zp9, zq9, zr9, zs9, zt9, zu9, zv9, zw9, zx9, zy9, SgO, opA, isE, isRead]
              have hdo := ih hA x.ino.toNat (names ++ [s]) v8 (hm.keeps hkhA) ⟨⟨_, hoA⟩, by simp⟩ (hdeep x hxm (by rw [hxn]; exact hsne)) (by rw [hch, List.length_append] at hlen6; omega) (by intro y hy; rw [List.mem_append, List.mem_singleton] at hy; rcases hy with hy | rfl; exact hns y hy; exact hsl255) (by simp; omega)
              rw [hino] at hdo
              refine jb9 (f := 55) (args := [.ptr (some (.new R.km 0)), .int .i64 x.ino, v8]) (by rfl) (by rfl) (by rfl) (by simp [fn55]) hdo ?_
              rintro w7 hF ⟨hkpF, hoR⟩
              refine ⟨?_, ?_⟩
              · repeat refine zz9 ▸ ⟨fun hc => absurd (hc.symm.trans (show _ = true by kernel_rfl)) (by decide), ?_⟩
                exact ja9 ▸ trivial
              simp [qa9, qb9, qc9, qd9, qe9, qf9, qg9, qh9, qi9, qj9, qk9, ql9, qm9, qn9, qo9, qp9, qq9, qr9, qs9, qt9, qu9, qv9, qw9, qx9, ev, qy9, qz9, za9, zb9, zc9, zd9, ze9, zf9, zg9, zh9, zi9, zj9, zk9, zl9, zm9, zn9, zo9, zp9, zq9, zr9, zs9, zt9, zu9, zv9, zw9, zx9, zy9, SgO, opA, isE, isRead]
              obtain ⟨v9, hG, hap9, hoG⟩ := append_fls (W := W) (hoj.keeps hk6hA) hoR (by rw [hch, List.length_append] at hlen6; simp only [List.length_cons]; omega)
              refine jc9 (v := v9) (h' := hG) (by rfl) (by simp [qa9, qb9, qc9, qd9, qe9, qf9, qg9, qh9, qi9, qj9, qk9, ql9, qm9, qn9, qo9, qp9, qq9, qr9, qs9, qt9, qu9, qv9, qw9, qx9, ev, qy9, qz9, za9, zb9, zc9, zd9, ze9, zf9, zg9, zh9, zi9, zj9, zk9, zl9, zm9, zn9, zo9, zp9, zq9, zr9, zs9, zt9, zu9, zv9, zw9, hap9]) ⟨?_, ?_⟩
              · repeat refine zz9 ▸ ⟨fun hc => absurd (hc.symm.trans (show _ = true by kernel_rfl)) (by decide), ?_⟩
                exact ja9 ▸ trivial
              simp [qa9, qb9, qc9, qd9, qe9, qf9, qg9, qh9, qi9, qj9, qk9, ql9, qm9, qn9, qo9, qp9, qq9, qr9, qs9, qt9, qu9, qv9, qw9, qx9, ev, qy9, qz9, za9, zb9, zc9, zd9, ze9, zf9, zg9, zh9, zi9, zj9, zk9, zl9, zm9, zn9, zo9, zp9, zq9, zr9, zs9, zt9, zu9, zv9, zw9, zx9, zy9, SgO, opA, isE, isRead, thenQ]
              exact ⟨by simp, by rw [hch]; simpa using hoG, by simp⟩
            · simp [qa9, qb9, qc9, qd9, qe9, qf9, qg9, qh9, qi9, qj9, qk9, ql9, qm9, qn9, qo9, qp9, qq9, qr9, qs9, qt9, qu9, qv9, qw9, qx9, ev, qy9, qz9, za9, zb9, zc9, zd9, ze9, zf9, zg9, zh9, zi9, zj9, zk9, zl9, zm9, zn9, zo9, zp9, zq9, zr9, zs9, zt9, zu9, zv9, zw9, zx9, zy9, SgO, opA, isE, isRead, fa93_4, ld91, jd9, ji9 hc6, hpe, idx_slt hjj, fa159_1, ld3, ji9 hg6, sltCells_ino hxj]
              have hkpB := Keeps.push h6 (.cells [.str s] 9)
              have hgjB : (h6.push (.cells [.str s] 9)).get h6.next = some (.cells [.str s] 9) := by simp
              have hnjB : h6.next < (h6.push (.cells [.str s] 9)).next := by simp
              refine jc9 (v := .sl (some (.new h6.next 0)) 1 1 none) (h' := h6.push (.cells [.str s] 9)) (by rfl) (by simp [qa9, qb9, qc9, qd9, qe9, qf9, qg9, qh9, qi9, qj9, qk9, ql9, qm9, qn9, qo9, qp9, qq9, qr9, qs9, qt9, qu9, qv9, qw9, qx9, ev, qy9, qz9, za9, zb9, zc9, zd9, ze9, zf9, zg9, zh9, zi9, zj9, zk9, zl9, zm9, zn9, zo9, zp9, zq9, zr9, zs9, zt9, zu9, zv9, zw9, build_str]) ?_
              generalize h6.push (.cells [.str s] 9) = hB at hkpB hgjB hnjB ⊢
              generalize h6.next = jb at hgjB hnjB ⊢
              have hkhB := hkh6.trans hkpB
              have hk6hB := hk6h6.trans hkpB
              have hchB := (hkhB.2 r.k hrk).trans hc
              have hghB := (hkhB.2 ks hksl).trans hgs
              refine ⟨?_, ?_⟩
              · simp [zz9, ja9, qa9, qb9, qc9, qd9, qe9, qf9, qg9, qh9, qi9, qj9, qk9, ql9, qm9, qn9, qo9, qp9, qq9, qr9, qs9, qt9, qu9, qv9, qw9, qx9, ev, qy9, qz9, za9, zb9, zc9, zd9, ze9, zf9, zg9, zh9, zi9, zj9, zk9, zl9, zm9, zn9, zo9, zp9, zq9, zr9, zs9, zt9, zu9, zv9, zw9, opA, fa93_4, ld91, jd9, fa159_1, ld3, ji9 hchB]
              simp [qa9, qb9, qc9, qd9, qe9, qf9, qg9, qh9, qi9, qj9, qk9, ql9, qm9, qn9, qo9, qp9, qq9, qr9, qs9, qt9, qu9, qv9, qw9, qx9, ev, qy9, qz9, za9, zb9, zc9, zd9, ze9, zf9, zg9, zh9, zi9, zj9, zk9, zl9, zm9, zn9, zo9, zp9, zq9, zr9, zs9, zt9, zu9, zv9, zw9, zx9, zy9, SgO, opA, isE, isRead]
              refine jb9 (f := 82) (args := [.ptr (some (.new r.k 0)), .str s]) (by rfl) (by rfl) (by rfl) (by simp [fn82]) (place_ret W hB r nd0 (hnod.same fun k hk => hkhB.2 k (hlow k hk)) (fun k hk => Nat.lt_of_lt_of_le (hlow k hk) hkhB.1) s hshort) ?_
              rintro w hP ⟨rfl, hkpP⟩
              have hkhP := hkhB.trans hkpP
              have hk6hP := hk6hB.trans hkpP
              have hchP := (hkhP.2 r.k hrk).trans hc
              have hghP := (hkhP.2 ks hksl).trans hgs
              refine ⟨?_, ?_⟩
              · simp [zz9, ja9, qa9, qb9, qc9, qd9, qe9, qf9, qg9, qh9, qi9, qj9, qk9, ql9, qm9, qn9, qo9, qp9, qq9, qr9, qs9, qt9, qu9, qv9, qw9, qx9, ev, qy9, qz9, za9, zb9, zc9, zd9, ze9, zf9, zg9, zh9, zi9, zj9, zk9, zl9, zm9, zn9, zo9, zp9, zq9, zr9, zs9, zt9, zu9, zv9, zw9, opA, fa93_4, ld91, jd9, fa159_1, ld3, ji9 hchP]
              simp [qa9, qb9, qc9, qd9, qe9, qf9, qg9, qh9, qi9, qj9, qk9, ql9, qm9, qn9, qo9, qp9, qq9, qr9, qs9, qt9, qu9, qv9, qw9, qx9, ev, qy9, qz9, za9, zb9, zc9, zd9, ze9, zf9, zg9, zh9, zi9, zj9, zk9, zl9, zm9, zn9, zo9, zp9, zq9, zr9, zs9, zt9, zu9, zv9, zw9, zx9, zy9, SgO, opA, isE, isRead, hpe, idx_slt hjj, fa159_1, ld3, ji9 hghP, sltCells_ino hxj]
              have hgjP := (hkpP.2 jb hnjB).trans hgjB
              have hnjP := Nat.lt_of_lt_of_le hnjB hkpP.1
              replace hkhP : Keeps h hP := hkhP
              have hkhPx := hkhP
              refine jb9 (f := 98) (args := [nv]) (by rfl) (by rfl) (by rfl) (by simp [fn98]) (cloneS_ret W h00 hP nv names (hos.keeps hkhP) hnil (by omega)) ?_
              rintro w hC ⟨hkpC, hoC⟩
              have hkhC := hkhP.trans hkpC
              have hk6hC := hk6hP.trans hkpC
              have hchC := (hkhC.2 r.k hrk).trans hc
              have hghC := (hkhC.2 ks hksl).trans hgs
              refine ⟨?_, ?_⟩
              · simp [zz9, ja9, qa9, qb9, qc9, qd9, qe9, qf9, qg9, qh9, qi9, qj9, qk9, ql9, qm9, qn9, qo9, qp9, qq9, qr9, qs9, qt9, qu9, qv9, qw9, qx9, ev, qy9, qz9, za9, zb9, zc9, zd9, ze9, zf9, zg9, zh9, zi9, zj9, zk9, zl9, zm9, zn9, zo9, zp9, zq9, zr9, zs9, zt9, zu9, zv9, zw9, opA, fa93_4, ld91, jd9, fa159_1, ld3, ji9 hchC, ji9 hghC, sltCells_ino hxj]
              simp [qa9, qb9, qc9, qd9, qe9, qf9, qg9, qh9, qi9, qj9, qk9, ql9, qm9, qn9, qo9, qp9, qq9, qr9, qs9, qt9, qu9, qv9, qw9, qx9, ev, qy9, qz9, za9, zb9, zc9, zd9, ze9, zf9, zg9, zh9, zi9, zj9, zk9, zl9, zm9, zn9, zo9, zp9, zq9, zr9, zs9, zt9, zu9, zv9, zw9, zx9, zy9, SgO, opA, isE, isRead]
              obtain ⟨v8, hA, hap, hoA⟩ := append_str1 (W := W) hoC hnjP ((hkpC.2 jb hnjP).trans hgjP) (by omega)
              have hkhA := hkhP.trans hoA.1
              have hk6hA := hk6hP.trans hoA.1
              have hchA := (hkhA.2 r.k hrk).trans hc
              have hghA := (hkhA.2 ks hksl).trans hgs
              refine jc9 (v := v8) (h' := hA) (by rfl) (by simp [qa9, qb9, qc9, qd9, qe9, qf9, qg9, qh9, qi9, qj9, qk9, ql9, qm9, qn9, qo9, qp9, qq9, qr9, qs9, qt9, qu9, qv9, qw9, qx9, ev, qy9, qz9, za9, zb9, zc9, zd9, ze9, zf9, zg9, zh9, zi9, zj9, zk9, zl9, zm9, zn9, zo9, zp9, zq9, zr9, zs9, zt9, zu9, zv9, zw9, hap]) ⟨?_, ?_⟩
              · simp [zz9, ja9, qa9, qb9, qc9, qd9, qe9, qf9, qg9, qh9, qi9, qj9, qk9, ql9, qm9, qn9, qo9, qp9, qq9, qr9, qs9, qt9, qu9, qv9, qw9, qx9, ev, qy9, qz9, za9, zb9, zc9, zd9, ze9, zf9, zg9, zh9, zi9, zj9, zk9, zl9, zm9, zn9, zo9, zp9, zq9, zr9, zs9, zt9, zu9, zv9, zw9, opA, fa93_4, ld91, jd9, fa159_1, ld3, ji9 hchA, ji9 hghA, sltCells_ino hxj]
              simp [qa9, qb9, qc9, qd9, qe9, qf9, qg9, qh9, qi9, qj9, qk9, ql9, qm9, qn9, qo9, qp9, qq9, qr9, qs9, qt9, qu9, qv9, qw9, qx9, ev, qy9, qz9, za9, zb9, zc9, zd9, ze9, zf9, zg9, zh9, zi9, zj9, zk9, zl9, zm9, zn9, zo9, zp9, zq9, zr9, zs9, zt9, zu9, zv9, zw9, zx9, zy9, SgO, opA, isE, isRead]
              have hdo := ih hA x.ino.toNat (names ++ [s]) v8 (hm.keeps hkhA) ⟨⟨_, hoA⟩, by simp⟩ (hdeep x hxm (by rw [hxn]; exact hsne)) (by rw [hch, List.length_append] at hlen6; omega) (by intro y hy; rw [List.mem_append, List.mem_singleton] at hy; rcases hy with hy | rfl; exact hns y hy; exact hsl255) (by simp; omega)
              rw [hino] at hdo
              refine jb9 (f := 55) (args := [.ptr (some (.new R.km 0)), .int .i64 x.ino, v8]) (by rfl) (by rfl) (by rfl) (by simp [fn55]) hdo ?_
              rintro w7 hF ⟨hkpF, hoR⟩
              refine ⟨?_, ?_⟩
              · repeat refine zz9 ▸ ⟨fun hc => absurd (hc.symm.trans (show _ = true by kernel_rfl)) (by decide), ?_⟩
                exact ja9 ▸ trivial
              simp [qa9, qb9, qc9, qd9, qe9, qf9, qg9, qh9, qi9, qj9, qk9, ql9, qm9, qn9, qo9, qp9, qq9, qr9, qs9, qt9, qu9, qv9, qw9, qx9, ev, qy9, qz9, za9, zb9, zc9, zd9, ze9, zf9, zg9, zh9, zi9, zj9, zk9, zl9, zm9, zn9, zo9, zp9, zq9, zr9, zs9, zt9, zu9, zv9, zw9, zx9, zy9, SgO, opA, isE, isRead]
              obtain ⟨v9, hG, hap9, hoG⟩ := append_fls (W := W) (hoj.keeps hk6hA) hoR (by rw [hch, List.length_append] at hlen6; simp only [List.length_cons]; omega)
              refine jc9 (v := v9) (h' := hG) (by rfl) (by simp [qa9, qb9, qc9, qd9, qe9, qf9, qg9, qh9, qi9, qj9, qk9, ql9, qm9, qn9, qo9, qp9, qq9, qr9, qs9, qt9, qu9, qv9, qw9, qx9, ev, qy9, qz9, za9, zb9, zc9, zd9, ze9, zf9, zg9, zh9, zi9, zj9, zk9, zl9, zm9, zn9, zo9, zp9, zq9, zr9, zs9, zt9, zu9, zv9, zw9, hap9]) ⟨?_, ?_⟩
              · repeat refine zz9 ▸ ⟨fun hc => absurd (hc.symm.trans (show _ = true by kernel_rfl)) (by decide), ?_⟩
                exact ja9 ▸ trivial
              simp [qa9, qb9, qc9, qd9, qe9, qf9, qg9, qh9, qi9, qj9, qk9, ql9, qm9, qn9, qo9, qp9, qq9, qr9, qs9, qt9, qu9, qv9, qw9, qx9, ev, qy9, qz9, za9, zb9, zc9, zd9, ze9, zf9, zg9, zh9, zi9, zj9, zk9, zl9, zm9, zn9, zo9, zp9, zq9, zr9, zs9, zt9, zu9, zv9, zw9, zx9, zy9, SgO, opA, isE, isRead, thenQ]
              exact ⟨by simp, by rw [hch]; simpa using hoG, by simp⟩
          · rintro e5 h7 ⟨hlen5, ho7, hh5⟩
            obtain ⟨a0, a1, a2, a3, a4, a5, a6, a7, a8, a9, rS0, rfl, hS0⟩ := un10 hlen5
            obtain ⟨a10, a11, a12, a13, a14, a15, a16, a17, a18, a19, rS10, rfl, hS10⟩ := un10 hS0
            obtain ⟨a20, a21, a22, a23, a24, a25, a26, a27, a28, a29, rS20, rfl, hS20⟩ := un10 hS10
            obtain ⟨a30, a31, a32, a33, a34, a35, a36, a37, a38, a39, rS30, rfl, hS30⟩ := un10 hS20
            obtain ⟨a40, a41, a42, a43, a44, a45, a46, a47, a48, a49, rS40, rfl, hS40⟩ := un10 hS30
            obtain ⟨a50, a51, a52, a53, a54, a55, a56, a57, a58, a59, rS50, rfl, hS50⟩ := un10 hS40
            obtain ⟨a60, a61, a62, a63, a64, a65, a66, a67, a68, a69, rS60, rfl, hS60⟩ := un10 hS50
            obtain ⟨a70, a71, a72, a73, a74, a75, a76, a77, a78, a79, rS70, rfl, hS70⟩ := un10 hS60
            obtain ⟨a80, a81, a82, a83, a84, a85, a86, a87, a88, a89, rS80, rfl, hS80⟩ := un10 hS70
            obtain ⟨a90, rS90, rfl, hS90⟩ := un1 hS80
            obtain ⟨a91, rS91, rfl, hS91⟩ := un1 hS90
            obtain ⟨a92, rS92, rfl, hS92⟩ := un1 hS91
            obtain rfl := un0 hS92
            clear hlen5 hS0 hS10 hS20 hS30 hS40 hS50 hS60 hS70 hS80 hS90 hS91 hS92
            simp at hh5 ho7
            obtain ⟨rfl, e2w, rfl, rfl, rfl, rfl⟩ := hh5
            obtain rfl := e2w.symm
            simp [qa9, qb9, qc9, qd9, qe9, qf9, qg9, qh9, qi9, qj9, qk9, ql9, qm9, qn9, qo9, qp9, qq9, qr9, qs9, qt9, qu9, qv9, qw9, qx9, ev, qy9, qz9, za9, zb9, zc9, zd9, ze9, zf9, zg9, zh9, zi9, zj9, zk9, zl9, zm9, zn9, zo9, zp9, zq9, zr9, zs9, zt9, zu9, zv9, zw9, wj]
            exact ⟨m - 1, by omega, by simp, j + 1, by omega, by simpa using ho7, by simp⟩
        · have hjl' : ¬ (j : Int) < (S.length : Int) := by omega
          have htk : S.take j = S := List.take_of_length_le (by omega)
          rw [htk] at hoj
          simp [qa9, qb9, qc9, qd9, qe9, qf9, qg9, qh9, qi9, qj9, qk9, ql9, qm9, qn9, qo9, qp9, qq9, qr9, qs9, qt9, qu9, qv9, qw9, qx9, ev, qy9, qz9, za9, zb9, zc9, zd9, ze9, zf9, zg9, zh9, zi9, zj9, zk9, zl9, zm9, zn9, zo9, zp9, zq9, zr9, zs9, zt9, zu9, zv9, zw9, hjl, hjl']
          exact ⟨hkh5.trans hoj.1, hoj.le hkh5⟩
end Go.Proofs.YtbofhlifobjolaaGreatDoor.Ax
end

/-! Tree, Used: the walks -/
section
set_option linter.unusedVariables false
set_option linter.unusedSimpArgs false
namespace Go.Proofs.YtbofhlifobjolaaGreatDoor.Ax
open Go.RowKit

set_option maxHeartbeats 4000000 in
theorem tree_ret (W : World) (R : MR) (M : MS) (ok : MOk M) (h128 : ∀ nd ∈ M.nodes, ∀ x ∈ nd.blocks.getD [], x.2.length = 128) (hnm : ∀ nd ∈ M.nodes, ∀ x ∈ nd.slots, x.nm.length ≤ 255)
    (n : Nat) (h : AH) (hm : MIs h R M) (hd : Deep M n 0) (hlen : (treeR M n [] 0).length < 1000000000000) (hn : n ≤ 1000) :
    RetQ (CC W) 21 [.ptr (some (.new R.km 0))] h (fun w h' => OwnF h h' w (treeR M n [] 0)) := by
  refine jj9 (cc_ok W) (fn21 W) (by simp only [Tryz.f21]; rfl) rfl rfl ?_
  have hb := below_tree W R M ok h128 hnm n h 0 [] (.sl none 0 0 none) hm ⟨⟨h, OwnS.start h⟩, fun _ => rfl⟩ hd hlen (by simp) (by simpa using hn)
  simp [qa9, qb9, qc9, qd9, qe9, qf9, qg9, qh9, qi9, qj9, qk9, ql9, qm9, qn9, qo9, qp9, qq9, qr9, qs9, qt9, qu9, qv9, qw9, qx9, ev, qy9, qz9, za9, zb9, zc9, zd9, ze9, zf9, zg9, zh9, zi9, zj9, zk9, zl9, zm9, zn9, zo9, zp9, zq9, zr9, zs9, zt9, zu9, zv9, zw9, aEq, kind25, kindEq1, aEq1]
  refine jg9 (by simp [fn55]) hb fun w h1 hk1 ho => ?_
  simp [qa9, qb9, qc9, qd9, qe9, qf9, qg9, qh9, qi9, qj9, qk9, ql9, qm9, qn9, qo9, qp9, qq9, qr9, qs9, qt9, qu9, qv9, qw9, qx9, ev, qy9, qz9, za9, zb9, zc9, zd9, ze9, zf9, zg9, zh9, zi9, zj9, zk9, zl9, zm9, zn9, zo9, zp9, zq9, zr9, zs9, zt9, zu9, zv9, zw9]
  exact ⟨hk1, ho⟩

/-- Inodes in use. -/
def liveR (l : List Nd) : Nat := l.countP fun nd => nd.kind != 0

def LiveI (h : AH) (mv sv : AV) (M : MS) (m : Nat) (e' : Env) (h' : AH) : Prop :=
  e'.length = 29 ∧ ∃ i : Nat, i + m = M.nodes.length ∧ h' = h ∧
    (e'.getD 0 .undef = mv ∧ e'.getD 4 .undef = .int .i64 (liveR (M.nodes.take i) : Nat) ∧ e'.getD 12 .undef = sv ∧ e'.getD 13 .undef = .int .i64 M.nodes.length ∧ e'.getD 14 .undef = .int .i64 i)

set_option maxRecDepth 100000 in
set_option maxHeartbeats 8000000 in
theorem usedB_ret (W : World) (h : AH) (R : MR) (M : MS) (hm : MIs h R M) (ok : MOk M) :
    RetQ (CC W) 19 [.ptr (some (.new R.km 0))] h (fun w _ => w = .tup [.int .i64 (usedR M), .int .i64 (liveR M.nodes : Nat)]) := by
  refine jj9 (cc_ok W) (fn19 W) (by simp only [Tryz.f19]; rfl) rfl rfl ?_
  have hlen : aLen (CC W) h 85 (.sl (some (.new R.kn 0)) M.nodes.length M.nodes.length none) = some (.int .i64 M.nodes.length) := by simp [aLen, kind85]
  have hfew := ok.few
  simp [qa9, qb9, qc9, qd9, qe9, qf9, qg9, qh9, qi9, qj9, qk9, ql9, qm9, qn9, qo9, qp9, qq9, qr9, qs9, qt9, qu9, qv9, qw9, qx9, ev, qy9, qz9, za9, zb9, zc9, zd9, ze9, zf9, zg9, zh9, zi9, zj9, zk9, zl9, zm9, zn9, zo9, zp9, zq9, zr9, zs9, zt9, zu9, zv9, zw9, aEq, kind25, kindEq1, aEq1, fa88_0, ld85, ji9 hm.mod, jd9, hlen]
  refine loopN (cc_ok W) (LiveI h (.ptr (some (.new R.km 0))) (.sl (some (.new R.kn 0)) M.nodes.length M.nodes.length none) M) M.nodes.length ⟨by simp, 0, by simp, rfl, by simp [liveR]⟩ ?_
  rintro m e' h' ⟨hlen', i, him, rfl, hh⟩
  match e', hlen' with
  | a0 :: a1 :: a2 :: a3 :: a4 :: a5 :: a6 :: a7 :: a8 :: a9 :: a10 :: a11 :: a12 :: a13 :: a14 :: a15 :: a16 :: a17 :: a18 :: a19 :: a20 :: a21 :: a22 :: a23 :: a24 :: a25 :: a26 :: a27 :: a28 :: [], _ =>
    simp at hh
    obtain ⟨rfl, rfl, rfl, rfl, rfl⟩ := hh
    by_cases hlt : i < M.nodes.length
    · have hlt' : (i : Int) < (M.nodes.length : Int) := by omega
      obtain ⟨r, nd, hr, hnd, hn⟩ := hm.node hlt
      have hcn := cell_nd (W := W) hm hr
      obtain ⟨mv, sv, hc, hmp, hsl⟩ := _root_.id hn
      have wi : IntKind.i64.wrap ((i : Int) + 1) = (i : Int) + 1 := wrap64 (by omega) (by omega)
      have htk : M.nodes.take (i + 1) = M.nodes.take i ++ [nd] := by
        rw [List.take_add_one, hnd]; rfl
      have hle : liveR (M.nodes.take i) ≤ 64 := Nat.le_trans (List.countP_le_length) (by simp; omega)
      have hstep : liveR (M.nodes.take (i + 1)) = liveR (M.nodes.take i) + if nd.kind = 0 then 0 else 1 := by
        rw [htk]; simp [liveR]
      obtain ⟨c, hcc⟩ : ∃ c, c = liveR (M.nodes.take i) := ⟨_, rfl⟩
      rw [← hcc] at hle hstep ⊢
      have wc : IntKind.i64.wrap ((c : Int) + 1) = (c : Int) + 1 := wrap64 (by omega) (by omega)
      by_cases hkd : nd.kind = 0
      · rw [if_pos hkd] at hstep
        simp [qa9, qb9, qc9, qd9, qe9, qf9, qg9, qh9, qi9, qj9, qk9, ql9, qm9, qn9, qo9, qp9, qq9, qr9, qs9, qt9, qu9, qv9, qw9, qx9, ev, qy9, qz9, za9, zb9, zc9, zd9, ze9, zf9, zg9, zh9, zi9, zj9, zk9, zl9, zm9, zn9, zo9, zp9, zq9, zr9, zs9, zt9, zu9, zv9, zw9, hlt, hlt', idx_nd hlt, ld89, hcn, jd9, fa93_0, ld3, ji9 hc, hkd, wi]
        exact ⟨m - 1, by omega, by simp, i + 1, by omega, rfl, by simp [hstep]⟩
      · rw [if_neg hkd] at hstep
        simp [qa9, qb9, qc9, qd9, qe9, qf9, qg9, qh9, qi9, qj9, qk9, ql9, qm9, qn9, qo9, qp9, qq9, qr9, qs9, qt9, qu9, qv9, qw9, qx9, ev, qy9, qz9, za9, zb9, zc9, zd9, ze9, zf9, zg9, zh9, zi9, zj9, zk9, zl9, zm9, zn9, zo9, zp9, zq9, zr9, zs9, zt9, zu9, zv9, zw9, hlt, hlt', idx_nd hlt, ld89, hcn, jd9, fa93_0, ld3, ji9 hc, hkd, wi, wc]
        exact ⟨m - 1, by omega, by simp, i + 1, by omega, rfl, by simp [hstep]⟩
    · have hlt' : ¬ (i : Int) < (M.nodes.length : Int) := by omega
      have hi : M.nodes.take i = M.nodes := List.take_of_length_le (by omega)
      rw [hi]
      simp [qa9, qb9, qc9, qd9, qe9, qf9, qg9, qh9, qi9, qj9, qk9, ql9, qm9, qn9, qo9, qp9, qq9, qr9, qs9, qt9, qu9, qv9, qw9, qx9, ev, qy9, qz9, za9, zb9, zc9, zd9, ze9, zf9, zg9, zh9, zi9, zj9, zk9, zl9, zm9, zn9, zo9, zp9, zq9, zr9, zs9, zt9, zu9, zv9, zw9, hlt, hlt']
      refine jf9 (by simp [fn54]) (used_ret W h' R M hm ok) fun h2 hk2 => ?_
      simp [qa9, qb9, qc9, qd9, qe9, qf9, qg9, qh9, qi9, qj9, qk9, ql9, qm9, qn9, qo9, qp9, qq9, qr9, qs9, qt9, qu9, qv9, qw9, qx9, ev, qy9, qz9, za9, zb9, zc9, zd9, ze9, zf9, zg9, zh9, zi9, zj9, zk9, zl9, zm9, zn9, zo9, zp9, zq9, zr9, zs9, zt9, zu9, zv9, zw9]
      exact hk2
end Go.Proofs.YtbofhlifobjolaaGreatDoor.Ax
end

/-! No way down is longer than the inodes are many: plain -/
section
set_option linter.unusedVariables false
set_option linter.unusedSimpArgs false
namespace Go.Proofs.YtbofhlifobjolaaGreatDoor.Ax
open Go.RowKit

theorem nodup_le : ∀ (N : Nat) (l : List Nat), l.Nodup → (∀ x ∈ l, x < N) → l.length ≤ N
  | 0, l, _, h => by
    cases l with
    | nil => simp
    | cons x r => have := h x (by simp); omega
  | N + 1, l, hn, h => by
    by_cases hm : N ∈ l
    · have h1 := nodup_le N (l.erase N) (hn.erase N) fun x hx => by
        have h2 := (hn.mem_erase_iff).1 hx
        have := h x h2.2
        omega
      rw [List.length_erase_of_mem hm] at h1
      omega
    · have := nodup_le N l hn fun x hx => by
        have h1 := h x hx
        have : x ≠ N := fun e => hm (e ▸ hx)
        omega
      omega

theorem path_node {M : MS} {t : Nat} (h : Fine M t) (ht : t < 1000000) {a : Names} {i : Nat} (hp : Path M a 0 i) : i < M.nodes.length := by
  by_cases ha : a = []
  · subst ha
    have e : (0 : Nat) = i := hp
    subst e; exact h.pos
  · obtain ⟨d, nd, x, _, h2, h3, h4, h5, h6⟩ := path_last ha hp
    have := (h.ok ht).inos nd (List.mem_of_getElem? h2) x h4
    omega

/-- Where a path stands on its way. -/
theorem path_mid {M : MS} {a : Names} {i k : Nat} (hp : Path M a 0 i) (hk : k < a.length) : ∃ m nd, Path M (a.take k) 0 m ∧ M.nodes[m]? = some nd ∧ nd.kind = 2 := by
  obtain ⟨m, h1, h2⟩ := path_take k hp
  have hd : a.drop k = a[k] :: a.drop (k + 1) := List.drop_eq_getElem_cons hk
  rw [hd] at h2
  obtain ⟨nd, x, h3, h4, _⟩ := h2
  exact ⟨m, nd, h1, h3, h4⟩

theorem path_short {M : MS} {t : Nat} (h : Fine M t) (ht : t < 1000000) {a : Names} {i : Nat} (hg : Good a) (hp : Path M a 0 i) : a.length ≤ M.nodes.length := by
  have hf : ∀ k, k < a.length → ∃ m nd, Path M (a.take k) 0 m ∧ M.nodes[m]? = some nd ∧ nd.kind = 2 ∧ findR M (a.take k) 0 = ((m : Int), 0) := fun k hk => by
    obtain ⟨m, nd, h1, h2, h3⟩ := path_mid hp hk
    exact ⟨m, nd, h1, h2, h3, find_of_path h ht (hg.take k) h1⟩
  have hn : ((List.range a.length).map fun k => (findR M (a.take k) 0).1.toNat).Nodup := by
    rw [List.nodup_iff_pairwise_ne, List.pairwise_map]
    refine List.Pairwise.imp_of_mem ?_ (List.pairwise_lt_range)
    intro k k' hk hk' hlt he
    rw [List.mem_range] at hk hk'
    obtain ⟨m, nd, h1, h2, h3, h4⟩ := hf k hk
    obtain ⟨m', nd', h1', h2', h3', h4'⟩ := hf k' hk'
    rw [h4, h4'] at he
    simp only [Int.toNat_natCast] at he
    subst he
    have := path_dir h ht (a.take k).length (Nat.le_refl _) (hg.take k) (hg.take k') h1 h1' h2 h3
    have := congrArg List.length this
    simp at this
    omega
  have := nodup_le M.nodes.length _ hn fun x hx => by
    obtain ⟨k, hk, rfl⟩ := List.mem_map.1 hx
    rw [List.mem_range] at hk
    obtain ⟨m, nd, _, h2, _, h4⟩ := hf k hk
    rw [h4]
    simp only [Int.toNat_natCast]
    exact (List.getElem?_eq_some_iff.1 h2).1
  simpa using this

theorem deep_of {M : MS} {t : Nat} (h : Fine M t) (ht : t < 1000000) : ∀ (n : Nat) (a : Names) (i : Nat), Good a → Path M a 0 i → a.length + n = M.nodes.length + 1 → Deep M n i := by
  intro n
  induction n with
  | zero => intro a i hg hp hl; exact absurd (path_short h ht hg hp) (by omega)
  | succ n ih =>
    intro a i hg hp hl
    have hi := path_node h ht hp
    refine ⟨M.nodes[i], by simp [hi], fun x hx hne => ?_⟩
    have hnd : M.nodes[i]? = some M.nodes[i] := by simp [hi]
    generalize M.nodes[i] = nd at hx hnd
    have hok := h.at hnd
    have hk : nd.kind = 2 := by
      rcases hok.kind with k | k | k
      · rw [hok.free k] at hx; simp [noNode] at hx
      · obtain ⟨b, _, _, e, _⟩ := hok.file k; rw [e] at hx; cases hx
      · exact k
    refine ih (a ++ [x.nm]) x.ino.toNat (fun y hy => ?_) (path_append.2 ⟨i, hp, nd, x, hnd, hk, hx, rfl, rfl⟩) (by simp; omega)
    rw [List.mem_append, List.mem_singleton] at hy
    rcases hy with hy | rfl
    · exact hg y hy
    · exact hne
theorem deep_root {M : MS} {t : Nat} (h : Fine M t) (ht : t < 1000000) : Deep M (M.nodes.length + 1) 0 := deep_of h ht _ [] 0 (fun x hx => by cases hx) rfl (by simp)
end Go.Proofs.YtbofhlifobjolaaGreatDoor.Ax
end

/-! Names are short: kept by all operations -/
section
set_option linter.unusedVariables false
set_option linter.unusedSimpArgs false
namespace Go.Proofs.YtbofhlifobjolaaGreatDoor.Ax
open Go.RowKit

def ShortM (M : MS) : Prop := ∀ nd ∈ M.nodes, ∀ x ∈ nd.slots, x.nm.length ≤ 24
theorem ShortM.set {M : MS} (h : ShortM M) {i : Nat} {nd : Nd} (hn : ∀ x ∈ nd.slots, x.nm.length ≤ 24) : ShortM (M.set i nd) := by
  intro y hy x hx
  rcases List.mem_or_eq_of_mem_set hy with hy | rfl
  · exact h y hy x hx
  · exact hn x hx
theorem ShortM.at {M : MS} (h : ShortM M) {i : Nat} {nd : Nd} (hn : M.nodes[i]? = some nd) : ∀ x ∈ nd.slots, x.nm.length ≤ 24 := h nd (List.mem_of_getElem? hn)
theorem putR_short {M : MS} (h : ShortM M) {i : Nat} {nm : List UInt8} {a : Int} (hn : nm.length ≤ 24) : ShortM (putR M i nm a).2 := by
  unfold putR
  split
  · exact h
  · rename_i nd hnd
    have h2 := h.at hnd
    split
    · refine h.set fun x hx => ?_
      rcases List.mem_or_eq_of_mem_set hx with hx | rfl
      · exact h2 x hx
      · exact hn
    · split
      · exact h
      · refine h.set fun x hx => ?_
        simp only [List.mem_append, List.mem_singleton] at hx
        rcases hx with hx | rfl
        · exact h2 x hx
        · exact hn
theorem takeR_short {M : MS} (h : ShortM M) {d j : Nat} : ShortM (takeR M d j) := by
  unfold takeR
  split
  · exact h
  · rename_i nd hnd
    refine h.set fun x hx => ?_
    rcases List.mem_or_eq_of_mem_set hx with hx | rfl
    · exact h.at hnd x hx
    · simp
theorem noNode_short : ∀ x ∈ noNode.slots, x.nm.length ≤ 24 := fun x hx => by simp [noNode] at hx
theorem create_short {M : MS} (h : ShortM M) {k : Int} {l : List (List UInt8)} (hn : (l.getLast?.getD []).length ≤ 24) : ShortM (createR M k l).2 := by
  unfold createR
  have hp := putR_short (i := (parentR M l).1.toNat) (a := freeR M) h hn
  split
  · split
    · exact h
    · split
      · rename_i M1 e; rw [e] at hp; exact hp
      · rename_i M1 e; rw [e] at hp
        refine hp.set fun x hx => ?_
        split at hx <;> simp [newDir, newFile] at hx
  · exact h
theorem write_short {M : MS} (h : ShortM M) {a : Int} {d : List UInt8} {l : List (List UInt8)} : ShortM (writeR M a d l).2 := by
  unfold writeR
  repeat' split
  all_goals first | exact h | (rename_i nd hnd _; have q := h.at hnd; exact h.set fun y hy => q y hy)
theorem trunc_short {M : MS} (h : ShortM M) {n : Int} {l : List (List UInt8)} : ShortM (truncR M n l).2 := by
  unfold truncR
  repeat' split
  all_goals first | exact h | (rename_i nd hnd; have q := h.at hnd; exact h.set fun y hy => q y hy)
theorem link_short {M : MS} (h : ShortM M) {l l2 : List (List UInt8)} (hn : (l2.getLast?.getD []).length ≤ 24) : ShortM (linkR M l l2).2 := by
  have hp := putR_short (i := (parentR M l2).1.toNat) (a := (fileR M l).1) h hn
  unfold linkR
  repeat' split
  all_goals first | exact h | exact hp | (rename_i x hx; have q := hp.at hx; exact hp.set fun y hy => q y hy)
theorem unlink_short {M : MS} (h : ShortM M) {l : List (List UInt8)} : ShortM (unlinkR M l).2 := by
  unfold unlinkR
  split
  · split
    · exact h
    · rename_i nd hnd
      have ht := takeR_short (d := (findR M l.dropLast 0).1.toNat) (j := (placeR nd.slots (l.getLast?.getD [])).toNat) h
      split
      · exact h
      · rename_i x hx
        split
        · have q := ht.at hx
          have q2 := ht.set (i := (fileR M l).1.toNat) (nd := { x with links := x.links - 1 }) fun y hy => q y hy
          exact q2.set noNode_short
        · have q := ht.at hx
          exact ht.set fun y hy => q y hy
  · exact h
theorem rmdir_short {M : MS} (h : ShortM M) {l : List (List UInt8)} : ShortM (rmdirR M l).2 := by
  unfold rmdirR
  repeat' split
  all_goals first | exact h | exact (takeR_short h).set noNode_short
theorem rename_short {M : MS} (h : ShortM M) {p t : List UInt8} {l l2 : List (List UInt8)} (hn : (l2.getLast?.getD []).length ≤ 24) : ShortM (renameR M p t l l2).2 := by
  unfold renameR
  repeat' split
  all_goals first | exact h | exact putR_short (takeR_short h) hn

theorem new_short {n : Nat} {c : Int} : ShortM (newM n c) := by
  intro nd hnd x hx
  simp only [newM, List.mem_cons, List.mem_replicate] at hnd
  rcases hnd with rfl | ⟨_, rfl⟩
  · simp [rootNd] at hx
  · exact noNode_short x hx

theorem split_last (p : List UInt8) : ((splitR p).1.getLast?.getD []).length ≤ 24 := by
  by_cases h : (splitR p).2 = 0
  · cases hl : (splitR p).1.getLast? with
    | none => simp
    | some x =>
      have hx := (splitR_ok h).1 x (List.mem_of_getLast? hl)
      unfold nameR at hx
      simp only [Option.getD_some]
      repeat' split at hx
      all_goals first | omega | simp at hx
  · rw [splitR_nil h]; simp
theorem do_short {M : MS} (h : ShortM M) (o : Opn) : ShortM (doR M o).2 := by
  have h1 := split_last o.p
  have h2 := split_last o.t
  unfold doR
  split
  · exact h
  · split
    · exact h
    · split
      · exact h
      · unfold opR
        split
        all_goals first | exact h | exact create_short h h1 | exact write_short h | exact trunc_short h | exact link_short h h2 | exact unlink_short h | exact rmdir_short h | exact rename_short h h2
end Go.Proofs.YtbofhlifobjolaaGreatDoor.Ax
end

/-! How many files a tree has: plain -/
section
set_option linter.unusedVariables false
set_option linter.unusedSimpArgs false
namespace Go.Proofs.YtbofhlifobjolaaGreatDoor.Ax
open Go.RowKit

/-- The paths of a tree. -/
def pathsR (M : MS) : Nat → Names → Nat → List Names
  | 0, _, _ => []
  | n + 1, names, i => match M.nodes[i]? with
    | none => []
    | some nd => names :: (sortT (nmsR nd.slots)).flatMap fun s => pathsR M n (names ++ [s]) (childR nd s)
theorem flatMap_len {α β γ : Type} {f : α → List β} {g : α → List γ} : ∀ (l : List α), (∀ x ∈ l, (f x).length = (g x).length) → (l.flatMap f).length = (l.flatMap g).length
  | [], _ => rfl
  | x :: l, h => by
    simp only [List.flatMap_cons, List.length_append]
    rw [h x (by simp), flatMap_len l fun y hy => h y (by simp [hy])]
theorem pathsR_len (M : MS) : ∀ (n : Nat) (names : Names) (i : Nat), (treeR M n names i).length = (pathsR M n names i).length := by
  intro n
  induction n with
  | zero => intro names i; rfl
  | succ n ih =>
    intro names i
    cases hnd : M.nodes[i]? with
    | none => simp only [treeR, pathsR, hnd]; rfl
    | some nd =>
      simp only [treeR, pathsR, hnd, List.length_cons]
      rw [flatMap_len _ fun s _ => ih (names ++ [s]) _]

theorem sort_mem {l : List Slt} {s : List UInt8} (h : s ∈ sortT (nmsR l)) : s ≠ [] ∧ ∃ x ∈ l, x.nm = s := by
  have h1 : s ∈ nmsR l := (List.mergeSort_perm _ _).mem_iff.1 h
  obtain ⟨x, hx, he⟩ := List.mem_filterMap.1 h1
  by_cases e : x.nm = []
  · rw [if_pos e] at he; cases he
  · rw [if_neg e] at he; cases he; exact ⟨e, x, hx, rfl⟩

theorem slots_dir {M : MS} {t : Nat} (h : Fine M t) {i : Nat} {nd : Nd} {x : Slt} (hnd : M.nodes[i]? = some nd) (hx : x ∈ nd.slots) : nd.kind = 2 := by
  have hok := h.at hnd
  rcases hok.kind with k | k | k
  · rw [hok.free k] at hx; simp [noNode] at hx
  · obtain ⟨b, _, _, e, _⟩ := hok.file k; rw [e] at hx; cases hx
  · exact k

theorem child_path {M : MS} {t : Nat} (h : Fine M t) {names : Names} {i : Nat} {nd : Nd} {s : List UInt8} (hp : Path M names 0 i) (hnd : M.nodes[i]? = some nd) (hs : s ∈ sortT (nmsR nd.slots)) : Path M (names ++ [s]) 0 (childR nd s) := by
  obtain ⟨hne, x0, hx0, hx0n⟩ := sort_mem hs
  have hpl : ¬ placeR nd.slots s < 0 := fun hc => placeR_neg.1 hc x0 hx0 hx0n
  obtain ⟨j, x, e, hx, hxn⟩ := placeR_lt hpl
  have hm := List.mem_of_getElem? hx
  refine path_append.2 ⟨i, hp, nd, x, hnd, slots_dir h hnd hm, hm, hxn, ?_⟩
  simp only [childR, e, Int.toNat_natCast, hx]
  rfl

theorem paths_mem {M : MS} {t : Nat} (h : Fine M t) : ∀ (n : Nat) (names : Names) (i : Nat), Good names → Path M names 0 i → ∀ p ∈ pathsR M n names i, Good p ∧ (∃ q, Path M p 0 q) ∧ names <+: p := by
  intro n
  induction n with
  | zero => intro names i _ _ p hp; cases hp
  | succ n ih =>
    intro names i hg hp p hpm
    simp only [pathsR] at hpm
    split at hpm
    · cases hpm
    · rename_i nd hnd
      rw [List.mem_cons] at hpm
      rcases hpm with rfl | hpm
      · exact ⟨hg, ⟨i, hp⟩, List.prefix_refl _⟩
      · obtain ⟨s, hs, hpm⟩ := List.mem_flatMap.1 hpm
        obtain ⟨a, b, c⟩ := ih (names ++ [s]) _ (fun y hy => by
          rw [List.mem_append, List.mem_singleton] at hy
          rcases hy with hy | rfl
          · exact hg y hy
          · exact (sort_mem hs).1) (child_path h hp hnd hs) p hpm
        exact ⟨a, b, (List.prefix_append _ _).trans c⟩

theorem nms_nodup {l : List Slt} (hu : Uniq l) : (sortT (nmsR l)).Nodup := by
  refine (List.mergeSort_perm _ _).nodup_iff.2 ?_
  rw [nmsR, List.nodup_iff_pairwise_ne, List.pairwise_filterMap]
  rw [List.pairwise_iff_getElem]
  intro i j hi hj hij a ha b hb he
  subst he
  by_cases e1 : l[i].nm = []
  · rw [if_pos e1] at ha; cases ha
  · by_cases e2 : l[j].nm = []
    · rw [if_pos e2] at hb; cases hb
    · rw [if_neg e1] at ha; rw [if_neg e2] at hb
      cases ha
      have := hu i j l[i] l[j] (by simp) (by simp) (by injection hb with hb; exact hb.symm) e1
      omega

theorem paths_nodup {M : MS} {t : Nat} (h : Fine M t) : ∀ (n : Nat) (names : Names) (i : Nat), Good names → Path M names 0 i → (pathsR M n names i).Nodup := by
  intro n
  induction n with
  | zero => intro names i _ _; exact List.nodup_nil
  | succ n ih =>
    intro names i hg hp
    simp only [pathsR]
    split
    · exact List.nodup_nil
    · rename_i nd hnd
      have hgood : ∀ s ∈ sortT (nmsR nd.slots), Good (names ++ [s]) := fun s hs y hy => by
        rw [List.mem_append, List.mem_singleton] at hy
        rcases hy with hy | rfl
        · exact hg y hy
        · exact (sort_mem hs).1
      have hpre : ∀ s ∈ sortT (nmsR nd.slots), ∀ p ∈ pathsR M n (names ++ [s]) (childR nd s), (names ++ [s]) <+: p := fun s hs p hpm => (paths_mem h n _ _ (hgood s hs) (child_path h hp hnd hs) p hpm).2.2
      rw [List.nodup_cons]
      refine ⟨fun hm => ?_, ?_⟩
      · obtain ⟨s, hs, hpm⟩ := List.mem_flatMap.1 hm
        have := (hpre s hs _ hpm).length_le
        simp at this
        omega
      · rw [List.nodup_iff_pairwise_ne, List.pairwise_flatMap]
        refine ⟨fun s hs => List.nodup_iff_pairwise_ne.1 (ih _ _ (hgood s hs) (child_path h hp hnd hs)), ?_⟩
        have hnd2 : (sortT (nmsR nd.slots)).Nodup := by
          by_cases hk : nd.kind = 2
          · exact nms_nodup ((h.at hnd).dir hk).2.2.2.2.2
          · have : nd.slots = [] := by
              cases hsl : nd.slots with
              | nil => rfl
              | cons x r => exact absurd (slots_dir h hnd (x := x) (by rw [hsl]; simp)) hk
            rw [this]; exact (List.mergeSort_perm _ _).nodup_iff.2 (by simp [nmsR])
        refine List.Pairwise.imp_of_mem ?_ (List.nodup_iff_pairwise_ne.1 hnd2)
        intro s s' hs hs' hne x hx y hy he
        subst he
        have h1 := hpre s hs x hx
        have h2 := hpre s' hs' x hy
        have := List.prefix_of_prefix_length_le h1 h2 (by simp)
        have := this.eq_of_length (by simp)
        simp at this
        exact hne this

/-- A path, told by the directory and the slot that name it. -/
noncomputable def codeR (M : MS) (T : Nat) (p : Names) : Nat :=
  if p = [] then 64 * T else match M.nodes[(findR M p.dropLast 0).1.toNat]? with
    | some nd => (findR M p.dropLast 0).1.toNat * T + (placeR nd.slots (p.getLast?.getD [])).toNat
    | none => 0
theorem code_at {M : MS} {t : Nat} (h : Fine M t) (ht : t < 1000000) {p : Names} {q : Nat} (hg : Good p) (hp : Path M p 0 q) (hne : p ≠ []) :
    ∃ d nd j x, Path M p.dropLast 0 d ∧ M.nodes[d]? = some nd ∧ nd.kind = 2 ∧ nd.slots[j]? = some x ∧ x.nm = p.getLast?.getD [] ∧ d < 64 ∧ j < t ∧ ∀ T, codeR M T p = d * T + j := by
  obtain ⟨d, nd, x, h1, h2, h3, h4, h5, h6⟩ := path_last hne hp
  have hf : findR M p.dropLast 0 = ((d : Int), 0) := find_of_path h ht hg.drop h1
  have hpl : ¬ placeR nd.slots (p.getLast?.getD []) < 0 := fun hc => placeR_neg.1 hc x h4 h5
  obtain ⟨j, y, e, hy, hyn⟩ := placeR_lt hpl
  have hd := (List.getElem?_eq_some_iff.1 h2).1
  have hj := (List.getElem?_eq_some_iff.1 hy).1
  have hfew := h.few
  have hsl := ((h.at h2).dir h3).2.2.1
  refine ⟨d, nd, j, y, h1, h2, h3, hy, hyn, by omega, by omega, fun T => ?_⟩
  simp only [codeR, if_neg hne, hf, Int.toNat_natCast, h2, e]
theorem tree_len {M : MS} {t : Nat} (h : Fine M t) (ht : t < 1000000) (n : Nat) : (treeR M n [] 0).length ≤ 64 * (t + 1) + 1 := by
  rw [pathsR_len]
  have hg0 : Good ([] : Names) := fun x hx => by cases hx
  have hp0 : Path M [] 0 0 := rfl
  have hmem := paths_mem h n [] 0 hg0 hp0
  have hnd := paths_nodup h n [] 0 hg0 hp0
  generalize pathsR M n [] 0 = L at hmem hnd
  have hlt : ∀ p ∈ L, p ≠ [] → ∃ d nd j x, Path M p.dropLast 0 d ∧ M.nodes[d]? = some nd ∧ nd.kind = 2 ∧ nd.slots[j]? = some x ∧ x.nm = p.getLast?.getD [] ∧ d < 64 ∧ j < t ∧ ∀ T, codeR M T p = d * T + j := fun p hp hne => by
    obtain ⟨a, ⟨q, b⟩, _⟩ := hmem p hp
    exact code_at h ht a b hne
  have hn : (L.map (codeR M (t + 1))).Nodup := by
    rw [List.nodup_iff_pairwise_ne, List.pairwise_map]
    refine List.Pairwise.imp_of_mem ?_ (List.nodup_iff_pairwise_ne.1 hnd)
    intro p p' hp hp' hne he
    apply hne
    by_cases e1 : p = []
    · by_cases e2 : p' = []
      · rw [e1, e2]
      · exfalso
        obtain ⟨d, nd, j, x, _, _, _, _, _, hd, hj, hc⟩ := hlt p' hp' e2
        rw [hc] at he
        simp only [codeR, if_pos e1] at he
        have : d * (t + 1) ≤ 63 * (t + 1) := Nat.mul_le_mul_right _ (by omega)
        omega
    · obtain ⟨d, nd, j, x, h1, h2, h3, h4, h5, hd, hj, hc⟩ := hlt p hp e1
      by_cases e2 : p' = []
      · exfalso
        rw [hc] at he
        simp only [codeR, if_pos e2] at he
        have : d * (t + 1) ≤ 63 * (t + 1) := Nat.mul_le_mul_right _ (by omega)
        omega
      · obtain ⟨d', nd', j', x', h1', h2', h3', h4', h5', hd', hj', hc'⟩ := hlt p' hp' e2
        rw [hc, hc'] at he
        have hdd : d = d' := by
          have a : (d * (t + 1) + j) / (t + 1) = (d' * (t + 1) + j') / (t + 1) := by rw [he]
          rw [Nat.mul_comm d, Nat.mul_comm d', Nat.mul_add_div (by omega), Nat.mul_add_div (by omega), Nat.div_eq_of_lt (by omega), Nat.div_eq_of_lt (by omega)] at a
          omega
        subst hdd
        have hjj : j = j' := by omega
        subst hjj
        rw [h2] at h2'; cases h2'
        rw [h4] at h4'; cases h4'
        have ga := (hmem p hp).1
        have gb := (hmem p' hp').1
        have e := path_dir h ht p.dropLast.length (Nat.le_refl _) ga.drop gb.drop h1 h1' h2 h3
        have l1 : p = p.dropLast ++ [p.getLast?.getD []] := by
          rw [List.getLast?_eq_some_getLast e1]; exact (List.dropLast_concat_getLast e1).symm
        have l2 : p' = p'.dropLast ++ [p'.getLast?.getD []] := by
          rw [List.getLast?_eq_some_getLast e2]; exact (List.dropLast_concat_getLast e2).symm
        rw [l1, l2, e, ← h5, ← h5']
  have := nodup_le (64 * (t + 1) + 1) _ hn fun c hc => by
    obtain ⟨p, hp, rfl⟩ := List.mem_map.1 hc
    by_cases e : p = []
    · simp only [codeR, if_pos e]; omega
    · obtain ⟨d, nd, j, x, _, _, _, _, _, hd, hj, hcc⟩ := hlt p hp e
      rw [hcc]
      have : d * (t + 1) ≤ 63 * (t + 1) := Nat.mul_le_mul_right _ (by omega)
      omega
  simpa using this
end Go.Proofs.YtbofhlifobjolaaGreatDoor.Ax
end

/-! Tree, whatever was done -/
section
set_option linter.unusedVariables false
set_option linter.unusedSimpArgs false
namespace Go.Proofs.YtbofhlifobjolaaGreatDoor.Ax
open Go.RowKit

/-- A model's tree. -/
def treeM (M : MS) : List Fl := treeR M (M.nodes.length + 1) [] 0
theorem fine128 {M : MS} {t : Nat} (h : Fine M t) : ∀ nd ∈ M.nodes, ∀ x ∈ nd.blocks.getD [], x.2.length = 128 := by
  intro nd hn x hx
  have hok := h.each nd hn
  rcases hok.kind with k | k | k
  · rw [hok.free k] at hx; simp [noNode] at hx
  · obtain ⟨b, e, hb, _⟩ := hok.file k
    rw [e] at hx
    exact (hb x hx).1
  · rw [(hok.dir k).1] at hx; simp at hx
theorem tree_fine (W : World) (R : MR) (M : MS) (t : Nat) (hf : Fine M t) (ht : t < 1000000) (hs : ShortM M) (h : AH) (hm : MIs h R M) :
    RetQ (CC W) 21 [.ptr (some (.new R.km 0))] h (fun w h' => OwnF h h' w (treeM M)) := by
  have hl := tree_len hf ht (M.nodes.length + 1)
  have hfew := hf.few
  exact tree_ret W R M (hf.ok ht) (fine128 hf) (fun nd hn x hx => by have := hs nd hn x hx; omega) _ h hm (deep_root hf ht) (by omega) (by omega)
theorem used_fine (W : World) (R : MR) (M : MS) (t : Nat) (hf : Fine M t) (ht : t < 1000000) (h : AH) (hm : MIs h R M) :
    RetQ (CC W) 19 [.ptr (some (.new R.km 0))] h (fun w _ => w = .tup [.int .i64 (usedR M), .int .i64 (liveR M.nodes : Nat)]) :=
  usedB_ret W h R M hm (hf.ok ht)
end Go.Proofs.YtbofhlifobjolaaGreatDoor.Ax
end

/-! Ints that are the same: the walk -/
section
set_option linter.unusedVariables false
set_option linter.unusedSimpArgs false
namespace Go.Proofs.YtbofhlifobjolaaGreatDoor.Ax
open Go.RowKit

theorem IntS.isSl {h : AH} {v : AV} {l : List Int} (hi : IntS h v l) : ∃ p c g, v = .sl p l.length c g := by
  rcases hi with ⟨rfl, rfl⟩ | ⟨k, cap, gr, _, rfl, _⟩ <;> exact ⟨_, _, _, rfl⟩
def EqJ (va vb : AV) (a b : List Int) (h : AH) (m : Nat) (e' : Env) (h' : AH) : Prop :=
  h' = h ∧ e'.length = 26 ∧ ∃ k : Nat, k + m = a.length ∧ a.take k = b.take k ∧ (e'.getD 0 .undef = va ∧ e'.getD 1 .undef = vb ∧ e'.getD 12 .undef = .int .i64 a.length ∧ e'.getD 13 .undef = .int .i64 k)



end Go.Proofs.YtbofhlifobjolaaGreatDoor.Ax
end
