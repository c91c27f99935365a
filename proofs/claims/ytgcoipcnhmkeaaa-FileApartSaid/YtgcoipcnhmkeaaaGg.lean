/- The texts DkA, DkB, DkC, DkD, DkE, DkF, DkG, as one. -/
import Init

/-! Files as blocks: bits, numbers and inodes as bytes, in plain words -/
section
set_option linter.unusedVariables false
set_option linter.unusedSimpArgs false
namespace Go.Proofs.Ytgcoipcnhmkeaaa.Ax

abbrev Bts := List UInt8
/-- A byte of a text; behind its end 0. -/
def Bts.at (b : Bts) (k : Nat) : Nat := (b.getD k 0).toNat
theorem Bts.at_lt (b : Bts) (k : Nat) : Bts.at b k < 256 := UInt8.toNat_lt _

/-! ### bits -/
def bit (b : Bts) (i : Nat) : Bool := (b.at (i / 8)).testBit (i % 8)
def clrN (x j : Nat) : Nat := if x.testBit j then x - 2 ^ j else x
def setN (x j : Nat) : Nat := if x.testBit j then x else x + 2 ^ j
def putN (x j : Nat) (on : Bool) : Nat := if on then setN x j else clrN x j
def setL (b : Bts) (i : Nat) (on : Bool) : Bts := b.set (i / 8) (UInt8.ofNat (putN (b.at (i / 8)) (i % 8) on))

theorem put_lt : ∀ (x : Fin 256) (j : Fin 8) (on : Bool), putN x.val j.val on < 256 := by decide +kernel
theorem putF : ∀ (x : Fin 256) (j k : Fin 8) (on : Bool), (putN x.val j.val on).testBit k.val = if k = j then on else x.val.testBit k.val := by decide +kernel

theorem setL_length (b : Bts) (i : Nat) (on : Bool) : (setL b i on).length = b.length := by simp [setL]
theorem at_set {b : Bts} {i k : Nat} {x : UInt8} (hi : i < b.length) : Bts.at (b.set i x) k = if k = i then x.toNat else Bts.at b k := by
  simp only [Bts.at, List.getD_eq_getElem?_getD, List.getElem?_set]
  by_cases h : k = i
  · subst h; simp [hi]
  · have : ¬ i = k := fun e => h e.symm
    simp [h, this]
theorem setL_bit {b : Bts} {i k : Nat} {on : Bool} (hb : b.length = 128) (hi : i < 1024) : bit (setL b i on) k = if k = i then on else bit b k := by
  have hlt := Bts.at_lt b (i / 8)
  have hp := put_lt ⟨b.at (i / 8), hlt⟩ ⟨i % 8, Nat.mod_lt _ (by decide)⟩ on
  have hf := putF ⟨b.at (i / 8), hlt⟩ ⟨i % 8, Nat.mod_lt _ (by decide)⟩ ⟨k % 8, Nat.mod_lt _ (by decide)⟩ on
  simp only [Fin.mk.injEq] at hf
  unfold bit setL
  rw [at_set (by omega)]
  by_cases hq : k / 8 = i / 8
  · rw [if_pos hq]
    have : (UInt8.ofNat (putN (b.at (i / 8)) (i % 8) on)).toNat = putN (b.at (i / 8)) (i % 8) on := by
      simp only [UInt8.toNat_ofNat']; exact Nat.mod_eq_of_lt hp
    rw [this, hf, hq]
    have : (k % 8 = i % 8) ↔ k = i := by omega
    simp only [this]
  · rw [if_neg hq, if_neg (by intro e; subst e; exact hq rfl)]

/-- How many of so many bits are set. -/
def cntB (b : Bts) (x : Nat) : Nat → Nat
  | 0 => 0
  | k + 1 => cntB b x k + if bit b (x + k) then 1 else 0
theorem cntB_le (b : Bts) (x : Nat) : ∀ k, cntB b x k ≤ k
  | 0 => Nat.le_refl _
  | k + 1 => by have := cntB_le b x k; simp only [cntB]; split <;> omega
theorem cntB_filter (b : Bts) (x : Nat) : ∀ k, cntB b x k = ((List.range k).filter fun j => bit b (x + j)).length
  | 0 => rfl
  | k + 1 => by
    simp only [cntB, List.range_succ, List.filter_append, List.length_append, cntB_filter b x k]
    cases h : bit b (x + k) <;> simp [h]

/-- The leastB bit from x on, of so many, that is not set. -/
def leastB (b : Bts) (x : Nat) : Nat → Option Nat
  | 0 => none
  | k + 1 => if bit b x then leastB b (x + 1) k else some x
theorem leastB_some {b : Bts} {y : Nat} : ∀ {x k : Nat}, leastB b x k = some y → x ≤ y ∧ y < x + k ∧ bit b y = false
  | x, 0, h => by cases h
  | x, k + 1, h => by
    unfold leastB at h
    split at h
    · have := leastB_some h; exact ⟨by omega, by omega, this.2.2⟩
    · rename_i hb
      cases h
      exact ⟨Nat.le_refl _, by omega, by simpa using hb⟩
theorem leastB_none {b : Bts} : ∀ {x k : Nat}, leastB b x k = none → ∀ y, x ≤ y → y < x + k → bit b y = true
  | x, 0, h, y, h1, h2 => by omega
  | x, k + 1, h, y, h1, h2 => by
    unfold leastB at h
    split at h
    · rename_i hb
      rcases Nat.eq_or_lt_of_le h1 with rfl | h3
      · exact hb
      · exact leastB_none h y (by omega) (by omega)
    · cases h

/-! ### numbers -/
def le (n : Nat) : Nat → Bts
  | 0 => []
  | k + 1 => UInt8.ofNat n :: le (n / 256) k
def ofLe : Bts → Nat
  | [] => 0
  | b :: l => b.toNat + 256 * ofLe l
theorem le_len (n : Nat) : ∀ k, (le n k).length = k := by
  intro k
  induction k generalizing n with
  | zero => rfl
  | succ k ih => simp [le, ih]
theorem ofLe_le : ∀ {k n : Nat}, n < 256 ^ k → ofLe (le n k) = n
  | 0, n, h => by simp at h; subst h; rfl
  | k + 1, n, h => by
    have h2 : n / 256 < 256 ^ k := by rw [Nat.pow_succ] at h; omega
    simp only [le, ofLe, ofLe_le h2, UInt8.toNat_ofNat']
    omega
theorem ofLe_lt : ∀ (l : Bts), ofLe l < 256 ^ l.length
  | [] => by simp [ofLe]
  | b :: l => by
    have := ofLe_lt l
    have hb := b.toNat_lt
    simp only [ofLe, List.length_cons, Nat.pow_succ]
    omega

/-! ### inodes -/
structure Ino where
  kd : Nat
  ln : Nat
  sz : Nat
  dr : List Nat
  sg : Nat
  db : Nat
  deriving DecidableEq
def Ino.zero : Ino := ⟨0, 0, 0, [0, 0, 0, 0, 0, 0], 0, 0⟩
def inoOk (n : Ino) : Bool :=
  decide (n.dr.length = 6) && (decide (n.sz ≤ 533248) && decide (n.sg < 1024) && decide (n.db < 1024) && n.dr.all fun b => decide (b < 1024)) &&
    (if n.kd = 0 then decide (n = .zero) else if n.kd = 1 then decide (1 ≤ n.ln) && decide (n.ln ≤ 100) else if n.kd = 2 then decide (n.ln = 1) else false)
def encI (n : Ino) : Bts := le n.kd 1 ++ le n.ln 1 ++ le n.sz 4 ++ n.dr.flatMap (le · 2) ++ le n.sg 2 ++ le n.db 2 ++ List.replicate 10 0
def numAt (s : Bts) (o k : Nat) : Nat := ofLe ((s.drop o).take k)
def rawI (s : Bts) : Ino := ⟨numAt s 0 1, numAt s 1 1, numAt s 2 4, [numAt s 6 2, numAt s 8 2, numAt s 10 2, numAt s 12 2, numAt s 14 2, numAt s 16 2], numAt s 18 2, numAt s 20 2⟩
def decI (s : Bts) : Option Ino := if inoOk (rawI s) = true ∧ encI (rawI s) = s then some (rawI s) else none

structure InoOK (n : Ino) : Prop where
  dr : ∃ a b c d e f, n.dr = [a, b, c, d, e, f] ∧ a < 1024 ∧ b < 1024 ∧ c < 1024 ∧ d < 1024 ∧ e < 1024 ∧ f < 1024
  sz : n.sz ≤ 533248
  sg : n.sg < 1024
  db : n.db < 1024
  kd : n.kd = 0 ∧ n = .zero ∨ n.kd = 1 ∧ 1 ≤ n.ln ∧ n.ln ≤ 100 ∨ n.kd = 2 ∧ n.ln = 1
theorem six {α : Type} {l : List α} (h : l.length = 6) : ∃ a b c d e f, l = [a, b, c, d, e, f] := by
  match l, h with
  | [a, b, c, d, e, f], _ => exact ⟨a, b, c, d, e, f, rfl⟩
theorem inoOk_iff {n : Ino} : inoOk n = true ↔ InoOK n := by
  constructor
  · intro h
    simp only [inoOk, Bool.and_eq_true, decide_eq_true_eq, List.all_eq_true] at h
    obtain ⟨⟨h1, ⟨⟨h2, h3⟩, h4⟩, h5⟩, h6⟩ := h
    obtain ⟨a, b, c, d, e, f, hd⟩ := six h1
    refine ⟨⟨a, b, c, d, e, f, hd, ?_⟩, h2, h3, h4, ?_⟩
    · rw [hd] at h5
      exact ⟨h5 _ (by simp), h5 _ (by simp), h5 _ (by simp), h5 _ (by simp), h5 _ (by simp), h5 _ (by simp)⟩
    · split at h6
      · rename_i hk; exact .inl ⟨hk, by simpa using h6⟩
      · split at h6
        · rename_i hk; simp only [Bool.and_eq_true, decide_eq_true_eq] at h6; exact .inr (.inl ⟨hk, h6⟩)
        · split at h6
          · rename_i hk; exact .inr (.inr ⟨hk, by simpa using h6⟩)
          · cases h6
  · intro h
    obtain ⟨⟨a, b, c, d, e, f, hd, h1, h2, h3, h4, h5, h6⟩, hs, hg, hb, hk⟩ := h
    simp only [inoOk, Bool.and_eq_true, decide_eq_true_eq, List.all_eq_true]
    refine ⟨⟨by rw [hd]; rfl, ⟨⟨hs, hg⟩, hb⟩, ?_⟩, ?_⟩
    · rw [hd]; simp; omega
    · rcases hk with ⟨k, e⟩ | ⟨k, e⟩ | ⟨k, e⟩
      · rw [if_pos k]; simpa using e
      · rw [if_neg (by omega), if_pos k]; simpa using e
      · rw [if_neg (by omega), if_neg (by omega), if_pos k]; simpa using e
theorem of2 (a b : UInt8) : ofLe [a, b] = a.toNat + 256 * b.toNat := by simp [ofLe]
theorem of2_le {n : Nat} (h : n < 1024) : ofLe [UInt8.ofNat n, UInt8.ofNat (n / 256)] = n := ofLe_le (k := 2) (by omega)
theorem raw_enc {n : Ino} (h : InoOK n) : rawI (encI n) = n := by
  obtain ⟨⟨a, b, c, d, e, f, hd, h1, h2, h3, h4, h5, h6⟩, hs, hg, hb, hk⟩ := h
  have k1 : n.kd < 256 := by omega
  have k2 : n.ln < 256 := by
    rcases hk with ⟨k, e⟩ | ⟨k, e⟩ | ⟨k, e⟩
    · rw [e]; decide
    · omega
    · omega
  obtain ⟨kd, ln, sz, dr, sg, db⟩ := n
  simp only at hd hs hg hb k1 k2
  subst hd
  have e1 : ofLe [UInt8.ofNat kd] = kd := ofLe_le (k := 1) (by omega)
  have e2 : ofLe [UInt8.ofNat ln] = ln := ofLe_le (k := 1) (by omega)
  have e3 : ofLe [UInt8.ofNat sz, UInt8.ofNat (sz / 256), UInt8.ofNat (sz / 256 / 256), UInt8.ofNat (sz / 256 / 256 / 256)] = sz := ofLe_le (k := 4) (by omega)
  simp only [encI, rawI, numAt, le, List.flatMap_cons, List.flatMap_nil, List.cons_append, List.nil_append, List.append_nil, List.drop, List.take, e1, e2, e3, of2_le h1, of2_le h2, of2_le h3, of2_le h4, of2_le h5, of2_le h6, of2_le hg, of2_le hb]
theorem enc_len {n : Ino} (h : n.dr.length = 6) : (encI n).length = 32 := by
  obtain ⟨a, b, c, d, e, f, hd⟩ := six h
  simp [encI, le_len, hd]
theorem dec_enc {n : Ino} (h : InoOK n) : decI (encI n) = some n := by
  simp only [decI, raw_enc h]
  rw [if_pos ⟨inoOk_iff.2 h, trivial⟩]
theorem dec_some {s : Bts} {n : Ino} (h : decI s = some n) : InoOK n ∧ encI n = s := by
  unfold decI at h
  split at h
  · rename_i hc
    cases h
    exact ⟨inoOk_iff.1 hc.1, hc.2⟩
  · cases h
theorem InoOK.len {n : Ino} (h : InoOK n) : n.dr.length = 6 := by
  obtain ⟨a, b, c, d, e, f, hd, _⟩ := h.dr
  rw [hd]; rfl
theorem InoOK.lt {n : Ino} (h : InoOK n) (a : Nat) : n.dr.getD a 0 < 1024 := by
  obtain ⟨x, b, c, d, e, f, hd, _⟩ := h.dr
  rw [hd]
  match a with
  | 0 => simp; omega
  | 1 => simp; omega
  | 2 => simp; omega
  | 3 => simp; omega
  | 4 => simp; omega
  | 5 => simp; omega
  | a + 6 => simp

/-- An inode of a table's block. -/
def getI (b : Bts) (k : Nat) : Option Ino := decI ((b.drop (32 * k)).take 32)
def putI (b : Bts) (k : Nat) (n : Ino) : Bts := b.take (32 * k) ++ encI n ++ b.drop (32 * (k + 1))
theorem putI_len {b : Bts} {k : Nat} {n : Ino} (hb : b.length = 128) (hk : k < 4) (hn : n.dr.length = 6) : (putI b k n).length = 128 := by
  simp [putI, enc_len hn, hb]; omega
theorem slot_put {b : Bts} {k j : Nat} {n : Ino} (hb : b.length = 128) (hk : k < 4) (hj : j < 4) (hn : n.dr.length = 6) :
    ((putI b k n).drop (32 * j)).take 32 = if j = k then encI n else (b.drop (32 * j)).take 32 := by
  have he := enc_len hn
  have ht : (b.take (32 * k)).length = 32 * k := by simp [hb]; omega
  by_cases h : j = k
  · subst h
    rw [if_pos rfl]
    unfold putI
    rw [List.append_assoc, List.drop_append_of_le_length (by omega), List.drop_of_length_le (by omega), List.nil_append, List.take_append_of_le_length (by omega), List.take_of_length_le (by omega)]
  · rw [if_neg h]
    apply List.ext_getElem?
    intro x
    simp only [List.getElem?_take, List.getElem?_drop]
    split
    · rename_i hx
      unfold putI
      rcases Nat.lt_or_ge j k with hlt | hge
      · rw [List.append_assoc, List.getElem?_append_left (by omega), List.getElem?_take, if_pos (by omega)]
      · rw [List.getElem?_append_right (by simp [he, ht]; omega), List.getElem?_drop]
        congr 1
        simp [he, ht]; omega
    · rfl
theorem get_put {b : Bts} {k j : Nat} {n : Ino} (hb : b.length = 128) (hk : k < 4) (hj : j < 4) (hn : InoOK n) : getI (putI b k n) j = if j = k then some n else getI b j := by
  unfold getI
  rw [slot_put hb hk hj hn.len]
  split
  · exact dec_enc hn
  · rfl

/-! ### blocks of names -/
def numR (b : Bts) (k : Nat) : Nat := b.at (2 * k) + 256 * b.at (2 * k + 1)
def renR (b : Bts) (k to : Nat) : Bts := b.take (2 * k) ++ [UInt8.ofNat to, UInt8.ofNat (to / 256)] ++ b.drop (2 * k + 2)
theorem ren_len {b : Bts} {k to : Nat} (hb : b.length = 128) (hk : k < 64) : (renR b k to).length = 128 := by
  simp [renR, hb]; omega
theorem name_ren {b : Bts} {k j to : Nat} (hb : b.length = 128) (hk : k < 64) (ht : to < 1024) : numR (renR b k to) j = if j = k then to else numR b j := by
  have hl : (b.take (2 * k)).length = 2 * k := by simp [hb]; omega
  have key : ∀ x, (renR b k to)[x]? = if x = 2 * k then some (UInt8.ofNat to) else if x = 2 * k + 1 then some (UInt8.ofNat (to / 256)) else b[x]? := by
    intro x
    unfold renR
    by_cases h1 : x < 2 * k
    · rw [if_neg (by omega), if_neg (by omega), List.append_assoc, List.getElem?_append_left (by omega), List.getElem?_take, if_pos h1]
    · by_cases h2 : x = 2 * k
      · subst h2
        rw [if_pos rfl, List.append_assoc, List.getElem?_append_right (by omega), hl, Nat.sub_self]; rfl
      · by_cases h3 : x = 2 * k + 1
        · subst h3
          rw [if_neg (by omega), if_pos rfl, List.append_assoc, List.getElem?_append_right (by omega), hl, show 2 * k + 1 - 2 * k = 1 by omega]; rfl
        · rw [if_neg h2, if_neg h3, List.getElem?_append_right (by simp [hl]; omega), List.getElem?_drop]
          congr 1
          simp [hl]; omega
  unfold numR Bts.at
  simp only [List.getD_eq_getElem?_getD, key]
  by_cases h : j = k
  · subst h
    rw [if_pos rfl, if_pos rfl, if_neg (by omega), if_pos rfl]
    have := of2_le ht
    rw [of2] at this
    simpa using this
  · rw [if_neg (by omega), if_neg (by omega), if_neg (by omega), if_neg (by omega), if_neg h]
def zeros (n : Nat) : Bts := List.replicate n 0
theorem at_zeros (n k : Nat) : Bts.at (zeros n) k = 0 := by
  simp only [Bts.at, zeros, List.getD_eq_getElem?_getD, List.getElem?_replicate]
  split <;> rfl
theorem name_zeros (n k : Nat) : numR (zeros n) k = 0 := by simp [numR, at_zeros]
theorem bit_zeros (n k : Nat) : bit (zeros n) k = false := by simp [bit, at_zeros]
end Go.Proofs.Ytgcoipcnhmkeaaa.Ax
end

/-! Files as blocks: what the view's functions answer, in plain words -/
section
set_option linter.unusedVariables false
set_option linter.unusedSimpArgs false
namespace Go.Proofs.Ytgcoipcnhmkeaaa.Ax

structure Cf where
  B : Nat
  J : Nat
  N : Nat
def Cf.bm (c : Cf) : Nat := 1 + c.J
def Cf.tb (c : Cf) : Nat := 2 + c.J
def Cf.dt (c : Cf) : Nat := 2 + c.J + (c.N + 3) / 4
structure Cf.OK (c : Cf) : Prop where
  b1 : 16 ≤ c.B
  b2 : c.B ≤ 1024
  j1 : 8 ≤ c.J
  j2 : c.J ≤ 256
  n1 : 1 ≤ c.N
  n2 : c.N ≤ 64
  d : c.dt + 4 ≤ c.B

/-- What each block holds. -/
abbrev Dsk := Nat → Bts
def upd (f : Dsk) (a : Nat) (b : Bts) : Dsk := fun x => if x = a then b else f x
theorem upd_at (f : Dsk) (a : Nat) (b : Bts) : upd f a b a = b := by simp [upd]
theorem upd_ne {f : Dsk} {a x : Nat} {b : Bts} (h : x ≠ a) : upd f a b x = f x := by simp [upd, h]

def vDat (c : Cf) (n : Nat) : Nat := if n < c.dt ∨ c.B ≤ n then 0 else n
def vNamed (c : Cf) (f : Dsk) (at_ k : Nat) : Nat := if at_ = 0 then 0 else vDat c (numR (f at_) k)
def vLook (c : Cf) (f : Dsk) (n : Ino) (x : Nat) : Nat :=
  if x < 6 then vDat c (n.dr.getD x 0)
  else if x < 70 then vNamed c f (vDat c n.sg) (x - 6)
  else vNamed c f (vNamed c f (vDat c n.db) ((x - 70) / 64)) ((x - 70) % 64)
def vMake (c : Cf) (f : Dsk) : Nat × Dsk :=
  match leastB (f c.bm) c.dt (c.B - c.dt) with
  | none => (0, f)
  | some a => (a, upd (upd f c.bm (setL (f c.bm) a true)) a (zeros 128))
def vDrop (c : Cf) (f : Dsk) (a : Nat) : Dsk := upd f c.bm (setL (f c.bm) a false)
def vName (f : Dsk) (at_ k to : Nat) : Dsk := upd f at_ (renR (f at_) k to)
def vEns (c : Cf) (f : Dsk) (p : Nat) : Nat × Dsk := if vDat c p = 0 then vMake c f else (vDat c p, f)
def vBelow (c : Cf) (f : Dsk) (at_ k : Nat) : Nat × Dsk :=
  if vNamed c f at_ k = 0 then (if (vMake c f).1 = 0 then (0, (vMake c f).2) else ((vMake c f).1, vName (vMake c f).2 at_ k (vMake c f).1)) else (vNamed c f at_ k, f)
def vGrow (c : Cf) (f : Dsk) (n : Ino) (x : Nat) : Nat × Ino × Dsk :=
  if x < 6 then ((vEns c f (n.dr.getD x 0)).1, { n with dr := n.dr.set x (vEns c f (n.dr.getD x 0)).1 }, (vEns c f (n.dr.getD x 0)).2)
  else if x < 70 then
    if (vEns c f n.sg).1 = 0 then (0, { n with sg := 0 }, (vEns c f n.sg).2)
    else ((vBelow c (vEns c f n.sg).2 (vEns c f n.sg).1 (x - 6)).1, { n with sg := (vEns c f n.sg).1 }, (vBelow c (vEns c f n.sg).2 (vEns c f n.sg).1 (x - 6)).2)
  else
    if (vEns c f n.db).1 = 0 then (0, { n with db := 0 }, (vEns c f n.db).2)
    else
      let q := vBelow c (vEns c f n.db).2 (vEns c f n.db).1 ((x - 70) / 64)
      if q.1 = 0 then (0, { n with db := (vEns c f n.db).1 }, q.2)
      else ((vBelow c q.2 q.1 ((x - 70) % 64)).1, { n with db := (vEns c f n.db).1 }, (vBelow c q.2 q.1 ((x - 70) % 64)).2)

/-- A block with what is written of it. -/
def splice (old : Bts) (k at_ : Nat) (data : Bts) : Bts :=
  old.take (max at_ (k * 128) - k * 128) ++ (data.drop (max at_ (k * 128) - at_)).take (min (at_ + data.length) ((k + 1) * 128) - max at_ (k * 128)) ++ old.drop (min (at_ + data.length) ((k + 1) * 128) - k * 128)
def vWr (c : Cf) (at_ : Nat) (data : Bts) : Nat → Nat → Ino → Dsk → Option (Ino × Dsk)
  | 0, _, n, f => some (n, f)
  | m + 1, k, n, f =>
    if (vGrow c f n k).1 = 0 then none
    else vWr c at_ data m (k + 1) (vGrow c f n k).2.1 (upd (vGrow c f n k).2.2 (vGrow c f n k).1 (splice ((vGrow c f n k).2.2 (vGrow c f n k).1) k at_ data))

def vIno (c : Cf) (f : Dsk) (i : Int) : Nat × Ino :=
  if i < 0 ∨ (c.N : Int) ≤ i then (6, .zero) else
  match getI (f (c.tb + i.toNat / 4)) (i.toNat % 4) with
  | none => (120, .zero)
  | some n => (0, n)
def vOpen (c : Cf) (f : Dsk) (i : Int) : Nat × Ino := if (vIno c f i).1 = 0 ∧ (vIno c f i).2.kd = 0 then (7, (vIno c f i).2) else vIno c f i
def vSetN (c : Cf) (f : Dsk) (i : Int) (n : Ino) : Nat × Dsk :=
  if i < 0 ∨ (c.N : Int) ≤ i then (6, f)
  else if inoOk n = true then (0, upd f (c.tb + i.toNat / 4) (putI (f (c.tb + i.toNat / 4)) (i.toNat % 4) n))
  else (120, f)
def wrCount (at_ len : Nat) : Nat := (at_ + len + 127) / 128 - at_ / 128
def vWrite (c : Cf) (f : Dsk) (i at_ : Int) (data : Bts) : Nat × Dsk :=
  if (vOpen c f i).1 ≠ 0 then ((vOpen c f i).1, f)
  else if at_ < 0 ∨ 1024 < data.length then (1, f)
  else if data = [] then (0, f)
  else if 533248 < at_ + data.length then (307, f)
  else match vWr c at_.toNat data (wrCount at_.toNat data.length) (at_.toNat / 128) (vOpen c f i).2 f with
    | none => (306, f)
    | some r => vSetN c r.2 i { r.1 with sz := max r.1.sz (at_.toNat + data.length) }

def vAt (c : Cf) (f : Dsk) (i x : Int) : Nat × Nat :=
  if (vIno c f i).1 ≠ 0 then ((vIno c f i).1, 0)
  else if x < 0 ∨ 4166 ≤ x then (1, 0)
  else (0, vLook c f (vIno c f i).2 x.toNat)

def vEmpty (c : Cf) (f : Dsk) (at_ : Nat) : Bool := (List.range 64).all fun k => decide (vNamed c f at_ k = 0)
def vForget (c : Cf) (s : Ino × Dsk) (x : Nat) : Ino × Dsk :=
  if vLook c s.2 s.1 x = 0 then s
  else if x < 6 then ({ s.1 with dr := s.1.dr.set x 0 }, vDrop c s.2 (vLook c s.2 s.1 x))
  else if x < 70 then (s.1, vName (vDrop c s.2 (vLook c s.2 s.1 x)) (vDat c s.1.sg) (x - 6) 0)
  else (s.1, vName (vDrop c s.2 (vLook c s.2 s.1 x)) (vNamed c (vDrop c s.2 (vLook c s.2 s.1 x)) (vDat c s.1.db) ((x - 70) / 64)) ((x - 70) % 64) 0)
def vLeave (c : Cf) (was f : Dsk) (a : Nat) : Dsk := upd (vDrop c f a) a (was a)
def vShedK (c : Cf) (was : Dsk) (d : Nat) (f : Dsk) (k : Nat) : Dsk :=
  if vNamed c f d k ≠ 0 ∧ vEmpty c f (vNamed c f d k) = true then vName (vLeave c was f (vNamed c f d k)) d k 0 else f
def vShedD (c : Cf) (was : Dsk) (d : Nat) (f : Dsk) : Dsk := if d = 0 then f else (List.range 64).foldl (vShedK c was d) f
/-- Of the block that a number names: whether it is let go, and the blocks. -/
def vShedP (c : Cf) (was : Dsk) (p : Nat) (f : Dsk) : Nat × Dsk := if vDat c p ≠ 0 ∧ vEmpty c f (vDat c p) = true then (0, vLeave c was f (vDat c p)) else (p, f)
def vShed (c : Cf) (was : Dsk) (s : Ino × Dsk) : Ino × Dsk :=
  let f1 := vShedD c was (vDat c s.1.db) s.2
  let a := vShedP c was s.1.sg f1
  let b := vShedP c was s.1.db a.2
  ({ s.1 with sg := a.1, db := b.1 }, b.2)
/-- The rest of a block behind a file's end is 0. -/
def vTail (c : Cf) (s : Ino × Dsk) (size : Nat) : Dsk :=
  if size % 128 ≠ 0 ∧ vLook c s.2 s.1 (size / 128) ≠ 0 then upd s.2 (vLook c s.2 s.1 (size / 128)) ((s.2 (vLook c s.2 s.1 (size / 128))).take (size % 128) ++ zeros (128 - size % 128)) else s.2
def vCutN (c : Cf) (f : Dsk) (n : Ino) (size : Nat) : Ino × Dsk :=
  let s := vShed c f ((List.range' ((size + 127) / 128) (4166 - (size + 127) / 128)).foldl (vForget c) (n, f))
  ({ s.1 with sz := size }, vTail c s size)
def vCut (c : Cf) (f : Dsk) (i size : Int) : Nat × Dsk :=
  if (vOpen c f i).1 ≠ 0 then ((vOpen c f i).1, f)
  else if size < 0 ∨ 533248 < size then (1, f)
  else vSetN c (vCutN c f (vOpen c f i).2 size.toNat).2 i (vCutN c f (vOpen c f i).2 size.toNat).1
def vFree (c : Cf) (f : Dsk) : Nat := c.B - c.dt - cntB (f c.bm) c.dt (c.B - c.dt)
end Go.Proofs.Ytgcoipcnhmkeaaa.Ax
end

/-! Files as blocks: where a file's blocks are named; what each number says -/
section
set_option linter.unusedVariables false
set_option linter.unusedSimpArgs false
namespace Go.Proofs.Ytgcoipcnhmkeaaa.Ax

inductive Pos where
  | d (a : Nat)
  | s
  | sa (a : Nat)
  | b
  | ba (a : Nat)
  | bb (a e : Nat)
  deriving DecidableEq
def Pos.ok : Pos → Prop
  | .d a => a < 6
  | .s => True
  | .sa a => a < 64
  | .b => True
  | .ba a => a < 64
  | .bb a e => a < 64 ∧ e < 64
/-- Where a block of names is named. -/
def Pos.inner : Pos → Prop
  | .d _ => False
  | .s => True
  | .sa _ => False
  | .b => True
  | .ba _ => True
  | .bb _ _ => False
def leaf (x : Nat) : Pos := if x < 6 then .d x else if x < 70 then .sa (x - 6) else .bb ((x - 70) / 64) ((x - 70) % 64)
def upto (x : Nat) : List Pos := if x < 6 then [.d x] else if x < 70 then [.s, .sa (x - 6)] else [.b, .ba ((x - 70) / 64), .bb ((x - 70) / 64) ((x - 70) % 64)]
def ptr (c : Cf) (f : Dsk) (n : Ino) : Pos → Nat
  | .d a => vDat c (n.dr.getD a 0)
  | .s => vDat c n.sg
  | .sa a => vNamed c f (vDat c n.sg) a
  | .b => vDat c n.db
  | .ba a => vNamed c f (vDat c n.db) a
  | .bb a e => vNamed c f (vNamed c f (vDat c n.db) a) e
theorem look_ptr (c : Cf) (f : Dsk) (n : Ino) (x : Nat) : vLook c f n x = ptr c f n (leaf x) := by
  unfold vLook leaf
  split
  · rfl
  · split <;> rfl
theorem leaf_ok {x : Nat} (h : x < 4166) : (leaf x).ok := by
  unfold leaf
  split
  · assumption
  · split
    · show x - 6 < 64; omega
    · refine ⟨?_, ?_⟩ <;> omega
theorem leaf_inner (x : Nat) : ¬ (leaf x).inner := by
  unfold leaf
  split
  · exact id
  · split <;> exact id
theorem leaf_1 {x : Nat} (h : x < 6) : leaf x = .d x := by simp [leaf, h]
theorem leaf_2 {x : Nat} (h : 6 ≤ x) (h2 : x < 70) : leaf x = .sa (x - 6) := by unfold leaf; rw [if_neg (by omega), if_pos h2]
theorem leaf_3 {x : Nat} (h : 70 ≤ x) : leaf x = .bb ((x - 70) / 64) ((x - 70) % 64) := by unfold leaf; rw [if_neg (by omega), if_neg (by omega)]
theorem leaf_inj {x y : Nat} (h : leaf x = leaf y) : x = y := by
  have three : ∀ z, z < 6 ∨ (6 ≤ z ∧ z < 70) ∨ 70 ≤ z := fun z => by omega
  rcases three x with h1 | ⟨h1, h2⟩ | h1 <;> rcases three y with h3 | ⟨h3, h4⟩ | h3
  · rw [leaf_1 h1, leaf_1 h3] at h; exact Pos.d.inj h
  · rw [leaf_1 h1, leaf_2 h3 h4] at h; cases h
  · rw [leaf_1 h1, leaf_3 h3] at h; cases h
  · rw [leaf_2 h1 h2, leaf_1 h3] at h; cases h
  · rw [leaf_2 h1 h2, leaf_2 h3 h4] at h; have := Pos.sa.inj h; omega
  · rw [leaf_2 h1 h2, leaf_3 h3] at h; cases h
  · rw [leaf_3 h1, leaf_1 h3] at h; cases h
  · rw [leaf_3 h1, leaf_2 h3 h4] at h; cases h
  · rw [leaf_3 h1, leaf_3 h3] at h; have := Pos.bb.inj h; omega
theorem leaf_upto (x : Nat) : leaf x ∈ upto x := by
  unfold leaf upto
  split
  · simp
  · split <;> simp
theorem upto_ok {x : Nat} (h : x < 4166) : ∀ q ∈ upto x, q.ok := by
  intro q hq
  unfold upto at hq
  split at hq
  · simp at hq; subst hq; assumption
  · split at hq
    · simp at hq
      rcases hq with rfl | rfl
      · trivial
      · show x - 6 < 64; omega
    · simp at hq
      rcases hq with rfl | rfl | rfl
      · trivial
      · show (x - 70) / 64 < 64; omega
      · refine ⟨?_, ?_⟩ <;> omega

theorem dat_rng {c : Cf} {n : Nat} (h : vDat c n ≠ 0) : c.dt ≤ vDat c n ∧ vDat c n < c.B := by
  unfold vDat at h ⊢
  split
  · rename_i hc; rw [if_pos hc] at h; exact absurd rfl h
  · omega
theorem dat_of {c : Cf} {n : Nat} (h1 : c.dt ≤ n) (h2 : n < c.B) : vDat c n = n := by
  unfold vDat; rw [if_neg (by omega)]
theorem dat_zero {c : Cf} : vDat c 0 = 0 := by unfold vDat; split <;> rfl
theorem dat_dat {c : Cf} {n : Nat} : vDat c (vDat c n) = vDat c n := by
  by_cases h : vDat c n = 0
  · rw [h, dat_zero]
  · exact dat_of (dat_rng h).1 (dat_rng h).2
theorem named_zero {c : Cf} {f : Dsk} {k : Nat} : vNamed c f 0 k = 0 := by simp [vNamed]
theorem named_dat {c : Cf} {f : Dsk} {a k : Nat} : vDat c (vNamed c f a k) = vNamed c f a k := by
  unfold vNamed
  split
  · exact dat_zero
  · exact dat_dat
theorem named_blank {c : Cf} {f : Dsk} {a k n : Nat} (h : f a = zeros n) : vNamed c f a k = 0 := by
  unfold vNamed
  split
  · rfl
  · rw [h, name_zeros, dat_zero]
theorem ptr_dat {c : Cf} {f : Dsk} {n : Ino} (q : Pos) : vDat c (ptr c f n q) = ptr c f n q := by
  cases q <;> simp only [ptr]
  · exact dat_dat
  · exact dat_dat
  · exact named_dat
  · exact dat_dat
  · exact named_dat
  · exact named_dat
theorem ptr_rng {c : Cf} {f : Dsk} {n : Ino} {q : Pos} (h : ptr c f n q ≠ 0) : c.dt ≤ ptr c f n q ∧ ptr c f n q < c.B := by
  rw [← ptr_dat] at h ⊢
  exact dat_rng h
/-- What names a block stands itself. -/
theorem upto_on {c : Cf} {f : Dsk} {n : Ino} {x : Nat} (h : ptr c f n (leaf x) ≠ 0) : ∀ q ∈ upto x, ptr c f n q ≠ 0 := by
  intro q hq
  unfold upto at hq
  unfold leaf at h
  split at hq
  · rename_i hx; rw [if_pos hx] at h; simp at hq; subst hq; exact h
  · rename_i hx
    rw [if_neg hx] at h
    split at hq
    · rename_i hy
      rw [if_pos hy] at h
      simp at hq
      rcases hq with rfl | rfl
      · intro e
        simp only [ptr] at e h
        rw [e, named_zero] at h
        exact h rfl
      · exact h
    · rename_i hy
      rw [if_neg hy] at h
      simp at hq
      simp only [ptr] at h
      have h2 : vNamed c f (vDat c n.db) ((x - 70) / 64) ≠ 0 := fun e => h (by rw [e, named_zero])
      rcases hq with rfl | rfl | rfl
      · exact fun e => h2 (by simp only [ptr] at e; rw [e, named_zero])
      · exact h2
      · exact h

/-- Blocks that hold no names of it may change. -/
theorem ptr_frame {c : Cf} {f f' : Dsk} {n : Ino} (h : ∀ q : Pos, q.ok → q.inner → ptr c f n q ≠ 0 → f' (ptr c f n q) = f (ptr c f n q)) : ∀ q : Pos, q.ok → ptr c f' n q = ptr c f n q := by
  have key : ∀ (q : Pos), q.ok → q.inner → ∀ k, vNamed c f' (ptr c f n q) k = vNamed c f (ptr c f n q) k := by
    intro q ho hi k
    unfold vNamed
    split
    · rfl
    · rename_i h0
      rw [h q ho hi h0]
  intro q ho
  cases q with
  | d a => rfl
  | s => rfl
  | sa a => exact key .s trivial trivial a
  | b => rfl
  | ba a => exact key .b trivial trivial a
  | bb a e =>
    have h1 : vNamed c f' (vDat c n.db) a = vNamed c f (vDat c n.db) a := key .b trivial trivial a
    simp only [ptr, h1]
    exact key (.ba a) ho.1 trivial e

theorem getD_set {l : List Nat} {a b x : Nat} (ha : a < l.length) : (l.set a x).getD b 0 = if b = a then x else l.getD b 0 := by
  simp only [List.getD_eq_getElem?_getD, List.getElem?_set]
  by_cases h : b = a
  · subst h; simp [ha]
  · have : ¬ a = b := fun e => h e.symm
    simp [h, this]
theorem ptr_d {c : Cf} {f : Dsk} {n : Ino} {a x : Nat} (ha : a < n.dr.length) (q : Pos) : ptr c f { n with dr := n.dr.set a x } q = if q = .d a then vDat c x else ptr c f n q := by
  cases q with
  | d e =>
    simp only [ptr, Pos.d.injEq]
    rw [getD_set ha]
    split <;> rfl
  | s => rfl
  | sa e => rfl
  | b => rfl
  | ba e => rfl
  | bb e g => rfl
theorem ptr_s {c : Cf} {f : Dsk} {n : Ino} {x : Nat} (h1 : ∀ k, k < 64 → vNamed c f (vDat c x) k = 0) (h2 : ∀ k, k < 64 → ptr c f n (.sa k) = 0) (q : Pos) (ho : q.ok) :
    ptr c f { n with sg := x } q = if q = .s then vDat c x else ptr c f n q := by
  cases q with
  | d e => rfl
  | s => rfl
  | sa e => rw [if_neg (by simp), h2 e ho]; exact h1 e ho
  | b => rfl
  | ba e => rfl
  | bb e g => rfl
theorem ptr_b {c : Cf} {f : Dsk} {n : Ino} {x : Nat} (h1 : ∀ k, k < 64 → vNamed c f (vDat c x) k = 0) (h2 : ∀ k, k < 64 → ptr c f n (.ba k) = 0) (q : Pos) (ho : q.ok) :
    ptr c f { n with db := x } q = if q = .b then vDat c x else ptr c f n q := by
  cases q with
  | d e => rfl
  | s => rfl
  | sa e => rfl
  | b => rfl
  | ba e => rw [if_neg (by simp), h2 e ho]; exact h1 e ho
  | bb e g =>
    have h3 : vNamed c f (vDat c n.db) e = 0 := h2 e ho.1
    rw [if_neg (by simp)]
    simp only [ptr, h1 e ho.1, h3]
theorem named_name {c : Cf} {f : Dsk} {a e k x : Nat} (hl : (f a).length = 128) (hk : k < 64) (hx : x < 1024) : vNamed c (vName f a k x) e k = if e = a then (if a = 0 then 0 else vDat c x) else vNamed c f e k := by
  unfold vNamed vName
  by_cases h : e = a
  · subst h
    rw [if_pos rfl, upd_at, name_ren hl hk hx, if_pos rfl]
  · rw [if_neg h, upd_ne h]
theorem named_name' {c : Cf} {f : Dsk} {a e k j x : Nat} (hl : (f a).length = 128) (hk : k < 64) (hx : x < 1024) (hj : j ≠ k) : vNamed c (vName f a k x) e j = vNamed c f e j := by
  unfold vNamed vName
  by_cases h : e = a
  · subst h
    rw [upd_at, name_ren hl hk hx, if_neg hj]
  · rw [upd_ne h]
theorem ptr_sa {c : Cf} {f : Dsk} {n : Ino} {a k x : Nat} (ha : ptr c f n .s = a) (h0 : a ≠ 0) (hl : (f a).length = 128) (hk : k < 64) (hx : x < 1024) (hd : ∀ q : Pos, q.ok → q.inner → ptr c f n q = a → q = .s) (q : Pos) (ho : q.ok) :
    ptr c (vName f a k x) n q = if q = .sa k then vDat c x else ptr c f n q := by
  by_cases hq : q = .sa k
  · subst hq
    rw [if_pos rfl]
    simp only [ptr] at ha ⊢
    rw [named_name hl hk hx, if_pos ha, if_neg h0]
  · rw [if_neg hq]
    cases q with
    | d e => rfl
    | s => rfl
    | sa e =>
      have : e ≠ k := fun e' => hq (by rw [e'])
      exact named_name' hl hk hx this
    | b => rfl
    | ba e =>
      have hb : vDat c n.db ≠ a := fun e' => by cases hd .b trivial trivial e'
      simp only [ptr]
      unfold vNamed vName
      rw [upd_ne hb]
    | bb e g =>
      have hb : vDat c n.db ≠ a := fun e' => by cases hd .b trivial trivial e'
      have hb2 : vNamed c f (vDat c n.db) e ≠ a := fun e' => by cases hd (.ba e) ho.1 trivial e'
      simp only [ptr]
      have : vNamed c (vName f a k x) (vDat c n.db) e = vNamed c f (vDat c n.db) e := by
        unfold vNamed vName
        rw [upd_ne hb]
      rw [this]
      generalize vNamed c f (vDat c n.db) e = z at hb2
      unfold vNamed vName
      rw [upd_ne hb2]
theorem ptr_ba {c : Cf} {f : Dsk} {n : Ino} {a k x : Nat} (ha : ptr c f n .b = a) (h0 : a ≠ 0) (hl : (f a).length = 128) (hk : k < 64) (hx : x < 1024) (hd : ∀ q : Pos, q.ok → q.inner → ptr c f n q = a → q = .b)
    (hz : ∀ e, e < 64 → ptr c f n (.bb k e) = 0) (hn : vDat c x ≠ a) (hw : ∀ e, e < 64 → vNamed c f (vDat c x) e = 0) (q : Pos) (ho : q.ok) :
    ptr c (vName f a k x) n q = if q = .ba k then vDat c x else ptr c f n q := by
  have hk' : vNamed c (vName f a k x) (vDat c n.db) k = vDat c x := by
    simp only [ptr] at ha
    rw [named_name hl hk hx, if_pos ha, if_neg h0]
  by_cases hq : q = .ba k
  · subst hq
    rw [if_pos rfl]
    exact hk'
  · rw [if_neg hq]
    cases q with
    | d e => rfl
    | s => rfl
    | sa e =>
      have hb : vDat c n.sg ≠ a := fun e' => by cases hd .s trivial trivial e'
      simp only [ptr]
      unfold vNamed vName
      rw [upd_ne hb]
    | b => rfl
    | ba e =>
      have : e ≠ k := fun e' => hq (by rw [e'])
      exact named_name' hl hk hx this
    | bb e g =>
      by_cases he : e = k
      · subst he
        rw [hz g ho.2]
        simp only [ptr, hk']
        rw [show vNamed c (vName f a e x) (vDat c x) g = vNamed c f (vDat c x) g from ?_]
        · exact hw g ho.2
        · unfold vNamed vName
          rw [upd_ne hn]
      · have hb2 : vNamed c f (vDat c n.db) e ≠ a := fun e' => by cases hd (.ba e) ho.1 trivial e'
        simp only [ptr]
        rw [named_name' hl hk hx he]
        generalize vNamed c f (vDat c n.db) e = z at hb2
        unfold vNamed vName
        rw [upd_ne hb2]
theorem ptr_bb {c : Cf} {f : Dsk} {n : Ino} {a m k x : Nat} (ha : ptr c f n (.ba m) = a) (h0 : a ≠ 0) (hl : (f a).length = 128) (hk : k < 64) (hx : x < 1024) (hd : ∀ q : Pos, q.ok → q.inner → ptr c f n q = a → q = .ba m) (q : Pos) (ho : q.ok) :
    ptr c (vName f a k x) n q = if q = .bb m k then vDat c x else ptr c f n q := by
  have hb : vDat c n.db ≠ a := fun e' => by cases hd .b trivial trivial e'
  have hba : ∀ e, vNamed c (vName f a k x) (vDat c n.db) e = vNamed c f (vDat c n.db) e := fun e => by
    unfold vNamed vName
    rw [upd_ne hb]
  by_cases hq : q = .bb m k
  · subst hq
    rw [if_pos rfl]
    simp only [ptr] at ha ⊢
    rw [hba, named_name hl hk hx, if_pos ha, if_neg h0]
  · rw [if_neg hq]
    cases q with
    | d e => rfl
    | s => rfl
    | sa e =>
      have hb : vDat c n.sg ≠ a := fun e' => by cases hd .s trivial trivial e'
      simp only [ptr]
      unfold vNamed vName
      rw [upd_ne hb]
    | b => rfl
    | ba e => exact hba e
    | bb e g =>
      simp only [ptr]
      rw [hba]
      by_cases he : e = m
      · subst he
        have : g ≠ k := fun e' => hq (by rw [e'])
        exact named_name' hl hk hx this
      · have hb2 : vNamed c f (vDat c n.db) e ≠ a := fun e' => by
          have := hd (.ba e) ho.1 trivial e'
          exact he (Pos.ba.inj this)
        generalize vNamed c f (vDat c n.db) e = z at hb2
        unfold vNamed vName
        rw [upd_ne hb2]
end Go.Proofs.Ytgcoipcnhmkeaaa.Ax
end

/-! Files as blocks: no block is of two places, and what is taken is what is named -/
section
set_option linter.unusedVariables false
set_option linter.unusedSimpArgs false
namespace Go.Proofs.Ytgcoipcnhmkeaaa.Ax

theorem Cf.OK.dt0 {c : Cf} (k : c.OK) : 0 < c.dt ∧ c.bm < c.tb ∧ c.tb < c.dt ∧ c.bm < c.dt ∧ c.dt < c.B ∧ c.B ≤ 1024 := by
  have := k.n1; have := k.d; have := k.b2
  unfold Cf.bm Cf.tb Cf.dt at *
  omega
theorem Cf.OK.tbl {c : Cf} (k : c.OK) {i : Nat} (h : i < c.N) : c.tb + i / 4 < c.dt := by
  have := k.n1; have := k.d
  unfold Cf.tb Cf.dt at *
  omega

structure PI (c : Cf) (P : Nat → Pos → Nat) (T : Nat → Bool) : Prop where
  inj : ∀ i j p q, i < c.N → j < c.N → p.ok → q.ok → P i p ≠ 0 → P i p = P j q → i = j ∧ p = q
  on : ∀ x, x < 1024 → (T x = true ↔ ∃ i p, i < c.N ∧ p.ok ∧ P i p = x ∧ x ≠ 0)

/-- What stands at one place of one inode, with another value. -/
def setP (P : Nat → Pos → Nat) (i : Nat) (p : Pos) (x : Nat) : Nat → Pos → Nat := fun j q => if j = i ∧ q = p then x else P j q

theorem PI.link {c : Cf} {P P' : Nat → Pos → Nat} {T T' : Nat → Bool} (h : PI c P T) {i x : Nat} {p : Pos} (hi : i < c.N) (hp : p.ok) (h0 : P i p = 0) (hx : x ≠ 0) (hx2 : x < 1024) (ht : T x = false)
    (hP : ∀ j q, j < c.N → q.ok → P' j q = setP P i p x j q) (hT : ∀ y, y < 1024 → T' y = if y = x then true else T y) : PI c P' T' := by
  have hno : ∀ j q, j < c.N → q.ok → P j q ≠ x := fun j q hj hq e => by
    have := (h.on x hx2).2 ⟨j, q, hj, hq, e, hx⟩
    rw [ht] at this; cases this
  refine ⟨fun a b q r ha hb hq hr hne he => ?_, fun y hy => ?_⟩
  · rw [hP a q ha hq] at hne he
    rw [hP b r hb hr] at he
    unfold setP at hne he
    split at he
    · rename_i h1
      split at he
      · rename_i h2
        exact ⟨h1.1.trans h2.1.symm, h1.2.trans h2.2.symm⟩
      · exact (hno b r hb hr he.symm).elim
    · rename_i h1
      rw [if_neg h1] at hne
      split at he
      · exact (hno a q ha hq he).elim
      · exact h.inj a b q r ha hb hq hr hne he
  · rw [hT y hy]
    by_cases hyx : y = x
    · subst hyx
      rw [if_pos rfl]
      refine ⟨fun _ => ⟨i, p, hi, hp, by rw [hP i p hi hp]; simp [setP], hx⟩, fun _ => rfl⟩
    · rw [if_neg hyx, h.on y hy]
      constructor
      · rintro ⟨j, q, hj, hq, e, hne⟩
        refine ⟨j, q, hj, hq, ?_, hne⟩
        rw [hP j q hj hq]
        unfold setP
        rw [if_neg (fun hc => by rw [hc.1, hc.2, h0] at e; exact hne e.symm)]
        exact e
      · rintro ⟨j, q, hj, hq, e, hne⟩
        rw [hP j q hj hq] at e
        unfold setP at e
        split at e
        · exact absurd e.symm hyx
        · exact ⟨j, q, hj, hq, e, hne⟩
theorem PI.unlink {c : Cf} {P P' : Nat → Pos → Nat} {T T' : Nat → Bool} (h : PI c P T) {i x : Nat} {p : Pos} (hi : i < c.N) (hp : p.ok) (h0 : P i p = x) (hx : x ≠ 0)
    (hP : ∀ j q, j < c.N → q.ok → P' j q = setP P i p 0 j q) (hT : ∀ y, y < 1024 → T' y = if y = x then false else T y) : PI c P' T' := by
  have huniq : ∀ j q, j < c.N → q.ok → P j q = x → j = i ∧ q = p := fun j q hj hq e => by
    obtain ⟨h1, h2⟩ := h.inj j i q p hj hi hq hp (by rw [e]; exact hx) (e.trans h0.symm)
    exact ⟨h1, h2⟩
  refine ⟨fun a b q r ha hb hq hr hne he => ?_, fun y hy => ?_⟩
  · rw [hP a q ha hq] at hne he
    rw [hP b r hb hr] at he
    unfold setP at hne he
    split at he
    · rename_i h1; rw [if_pos h1] at hne; exact (hne rfl).elim
    · rename_i h1
      rw [if_neg h1] at hne
      split at he
      · exact (hne he).elim
      · exact h.inj a b q r ha hb hq hr hne he
  · rw [hT y hy]
    by_cases hyx : y = x
    · subst hyx
      rw [if_pos rfl]
      refine ⟨fun e => (by cases e), ?_⟩
      rintro ⟨j, q, hj, hq, e, hne⟩
      rw [hP j q hj hq] at e
      unfold setP at e
      split at e
      · exact absurd e.symm hne
      · rename_i hc; exact absurd (huniq j q hj hq e) hc
    · rw [if_neg hyx, h.on y hy]
      constructor
      · rintro ⟨j, q, hj, hq, e, hne⟩
        refine ⟨j, q, hj, hq, ?_, hne⟩
        rw [hP j q hj hq]
        unfold setP
        rw [if_neg (fun hc => by rw [hc.1, hc.2, h0] at e; exact hyx e.symm)]
        exact e
      · rintro ⟨j, q, hj, hq, e, hne⟩
        rw [hP j q hj hq] at e
        unfold setP at e
        split at e
        · exact absurd e.symm hne
        · exact ⟨j, q, hj, hq, e, hne⟩

abbrev Nds := Nat → Ino
def updI (ns : Nds) (i : Nat) (n : Ino) : Nds := fun j => if j = i then n else ns j
theorem updI_at (ns : Nds) (i : Nat) (n : Ino) : updI ns i n i = n := by simp [updI]
theorem updI_ne {ns : Nds} {i j : Nat} {n : Ino} (h : j ≠ i) : updI ns i n j = ns j := by simp [updI, h]
theorem updI_self (ns : Nds) (i : Nat) : updI ns i (ns i) = ns := by
  funext j; unfold updI; split
  · rename_i h; rw [h]
  · rfl
theorem updI_updI (ns : Nds) (i : Nat) (n m : Ino) : updI (updI ns i n) i m = updI ns i m := by
  funext j; unfold updI; split <;> rfl

/-- A place's raw number is a data block's, or 0. -/
structure Raw (c : Cf) (f : Dsk) (n : Ino) : Prop where
  d : ∀ a, a < 6 → vDat c (n.dr.getD a 0) = n.dr.getD a 0
  s : vDat c n.sg = n.sg
  b : vDat c n.db = n.db
  nm : ∀ q : Pos, q.ok → q.inner → ptr c f n q ≠ 0 → ∀ k, k < 64 → vDat c (numR (f (ptr c f n q)) k) = numR (f (ptr c f n q)) k

structure DI (c : Cf) (ns : Nds) (f : Dsk) : Prop where
  len : ∀ x, x < c.B → (f x).length = 128
  ino : ∀ i, i < c.N → InoOK (ns i)
  pi : PI c (fun i => ptr c f (ns i)) (bit (f c.bm))
  raw : ∀ i, i < c.N → Raw c f (ns i)
  low : ∀ x, x < c.dt → bit (f c.bm) x = false

/-- What an inode says besides its blocks. -/
def Same (n m : Ino) : Prop := m.kd = n.kd ∧ m.ln = n.ln ∧ m.sz = n.sz
theorem Same.refl (n : Ino) : Same n n := ⟨rfl, rfl, rfl⟩
theorem Same.trans {a b e : Ino} (h : Same a b) (g : Same b e) : Same a e := ⟨g.1.trans h.1, g.2.1.trans h.2.1, g.2.2.trans h.2.2⟩

section
variable {c : Cf} {ns : Nds} {f : Dsk}
theorem DI.free_no (h : DI c ns f) {x : Nat} (hx : x < 1024) (ht : bit (f c.bm) x = false) (h0 : x ≠ 0) : ∀ j, j < c.N → ∀ q : Pos, q.ok → ptr c f (ns j) q ≠ x := fun j hj q hq e => by
  have := (h.pi.on x hx).2 ⟨j, q, hj, hq, e, h0⟩
  rw [ht] at this; cases this
theorem DI.on (h : DI c ns f) (k : c.OK) {j : Nat} (hj : j < c.N) {q : Pos} (hq : q.ok) (h0 : ptr c f (ns j) q ≠ 0) : bit (f c.bm) (ptr c f (ns j) q) = true :=
  (h.pi.on _ (by have := (ptr_rng h0).2; have := k.dt0; omega)).2 ⟨j, q, hj, hq, rfl, h0⟩
theorem DI.one (h : DI c ns f) {i j : Nat} (hi : i < c.N) (hj : j < c.N) {p q : Pos} (hp : p.ok) (hq : q.ok) (h0 : ptr c f (ns i) p ≠ 0) (e : ptr c f (ns j) q = ptr c f (ns i) p) : j = i ∧ q = p := by
  obtain ⟨h1, h2⟩ := h.pi.inj i j p q hi hj hp hq h0 e.symm
  exact ⟨h1.symm, h2.symm⟩

theorem bit_out {b : Bts} {x : Nat} (hb : b.length = 128) (hx : 1024 ≤ x) : bit b x = false := by
  have : Bts.at b (x / 8) = 0 := by
    simp only [Bts.at, List.getD_eq_getElem?_getD]
    rw [List.getElem?_eq_none (by omega)]
    rfl
  simp [bit, this]
theorem bm_dt (k : c.OK) {x : Nat} (h : c.dt ≤ x) : x ≠ c.bm := by have := k.dt0; omega

/-- A block that was free is made, and is not named yet. -/
theorem make_frame (k : c.OK) (h : DI c ns f) {x : Nat} (hx : c.dt ≤ x) (hx2 : x < c.B) (ht : bit (f c.bm) x = false) {j : Nat} (hj : j < c.N) :
    ∀ q : Pos, q.ok → ptr c (upd (upd f c.bm (setL (f c.bm) x true)) x (zeros 128)) (ns j) q = ptr c f (ns j) q := by
  have hk := k.dt0
  refine ptr_frame fun q hq _ h0 => ?_
  have h1 := ptr_rng h0
  have h2 := h.free_no (by omega) ht (by omega) j hj q hq
  rw [upd_ne h2, upd_ne (bm_dt k h1.1)]
theorem vMake_none {f : Dsk} (h : (vMake c f).1 = 0) (k : c.OK) : (vMake c f).2 = f ∧ ∀ y, c.dt ≤ y → y < c.B → bit (f c.bm) y = true := by
  unfold vMake at h ⊢
  cases hl : leastB (f c.bm) c.dt (c.B - c.dt) with
  | none =>
    refine ⟨rfl, fun y h1 h2 => leastB_none hl y h1 (by omega)⟩
  | some a =>
    rw [hl] at h
    have := (leastB_some hl).1
    have := k.dt0
    simp only at h
    omega
theorem vMake_some {f : Dsk} (h : (vMake c f).1 ≠ 0) : ∃ x, c.dt ≤ x ∧ x < c.B ∧ bit (f c.bm) x = false ∧ vMake c f = (x, upd (upd f c.bm (setL (f c.bm) x true)) x (zeros 128)) := by
  unfold vMake at h ⊢
  cases hl : leastB (f c.bm) c.dt (c.B - c.dt) with
  | none => rw [hl] at h; exact absurd rfl h
  | some a =>
    obtain ⟨h1, h2, h3⟩ := leastB_some hl
    exact ⟨a, h1, by omega, h3, rfl⟩

/-- What a step leaves of everything but one inode's places. -/
structure Grw (c : Cf) (i : Nat) (ns : Nds) (f : Dsk) (n' : Ino) (f' : Dsk) (l : List Pos) : Prop where
  di : DI c (updI ns i n') f'
  same : Same (ns i) n'
  low : ∀ x, x < c.dt → x ≠ c.bm → f' x = f x
  off : ∀ j, j < c.N → j ≠ i → ∀ q : Pos, q.ok → ptr c f' (ns j) q = ptr c f (ns j) q
  mono : ∀ q : Pos, q.ok → ptr c f (ns i) q ≠ 0 → ptr c f' n' q = ptr c f (ns i) q
  new : ∀ q : Pos, q.ok → ptr c f' n' q ≠ 0 → ptr c f (ns i) q = 0 → q ∈ l
  keep : ∀ x, c.dt ≤ x → bit (f c.bm) x = true → (∀ q : Pos, q.ok → q.inner → ptr c f (ns i) q ≠ x) → f' x = f x
  zero : ∀ q : Pos, q.ok → ¬ q.inner → ptr c f' n' q ≠ 0 → ptr c f (ns i) q = 0 → f' (ptr c f' n' q) = zeros 128
  on : ∀ x, x < 1024 → bit (f c.bm) x = true → bit (f' c.bm) x = true
theorem Grw.refl {i : Nat} (h : DI c ns f) : Grw c i ns f (ns i) f [] where
  di := by rw [updI_self]; exact h
  same := Same.refl _
  low := fun _ _ _ => rfl
  off := fun _ _ _ _ _ => rfl
  mono := fun _ _ _ => rfl
  new := fun _ _ h1 h2 => absurd h2 h1
  keep := fun _ _ _ _ => rfl
  zero := fun _ _ _ h1 h2 => absurd h2 h1
  on := fun _ _ h => h
theorem Grw.trans (k : c.OK) {i : Nat} (hi : i < c.N) {n1 n2 : Ino} {f1 f2 : Dsk} {l1 l2 : List Pos} (h : DI c ns f) (a : Grw c i ns f n1 f1 l1) (b : Grw c i (updI ns i n1) f1 n2 f2 l2) : Grw c i ns f n2 f2 (l1 ++ l2) where
  di := by have := b.di; rw [updI_updI] at this; exact this
  same := a.same.trans (by have := b.same; rw [updI_at] at this; exact this)
  low := fun x h1 h2 => (b.low x h1 h2).trans (a.low x h1 h2)
  off := fun j hj hne q hq => by
    have h1 := b.off j hj hne q hq
    rw [updI_ne hne] at h1
    exact h1.trans (a.off j hj hne q hq)
  mono := fun q hq h0 => by
    have h1 := a.mono q hq h0
    have h2 := b.mono q hq
    rw [updI_at] at h2
    rw [h2 (by rw [h1]; exact h0), h1]
  new := fun q hq h1 h2 => by
    have h3 := b.new q hq h1
    rw [updI_at] at h3
    rw [List.mem_append]
    by_cases h4 : ptr c f1 n1 q = 0
    · exact .inr (h3 h4)
    · exact .inl (a.new q hq h4 h2)
  keep := fun x hx ht hno => by
    have h1 := a.keep x hx ht hno
    have hx2 : x < 1024 := by
      rcases Nat.lt_or_ge x 1024 with h1 | h1
      · exact h1
      · have := bit_out (h.len c.bm (by have := k.dt0; omega)) h1
        rw [ht] at this; cases this
    refine (b.keep x hx (a.on x hx2 ht) fun q hq hin e => ?_).trans h1
    rw [updI_at] at e
    by_cases h4 : ptr c f (ns i) q = 0
    · -- the block was free, or another's
      have hne : ptr c f1 n1 q ≠ 0 := by rw [e]; have := k.dt0; omega
      obtain ⟨j, p, hj, hp, hjp, hx0⟩ := (h.pi.on x hx2).1 ht
      have hjp : ptr c f (ns j) p = x := hjp
      by_cases hji : j = i
      · subst hji
        have hm := a.mono p hp (by rw [hjp]; exact hx0)
        obtain ⟨_, rfl⟩ := a.di.one hi hi hq hp (by rw [updI_at]; exact hne) (by rw [updI_at, hm, hjp, e])
        rw [h4] at hjp
        exact hx0 hjp.symm
      · have hm := a.off j hj hji p hp
        obtain ⟨h6, _⟩ := a.di.one hi hj hq hp (by rw [updI_at]; exact hne) (by rw [updI_at, updI_ne hji, hm, hjp, e])
        exact hji h6
    · rw [a.mono q hq h4] at e
      exact hno q hq hin e
  zero := fun q hq hin h1 h2 => by
    by_cases h4 : ptr c f1 n1 q = 0
    · have := b.zero q hq hin h1
      rw [updI_at] at this
      exact this h4
    · have h5 := b.mono q hq
      rw [updI_at] at h5
      rw [h5 h4]
      have h6 := a.zero q hq hin h4 h2
      rw [← h6]
      have hd := a.di.on k hi hq (by rw [updI_at]; exact h4)
      rw [updI_at] at hd
      refine b.keep _ (ptr_rng h4).1 hd fun p hp hpin e => ?_
      rw [updI_at] at e
      obtain ⟨_, rfl⟩ := a.di.one hi hi hq hp (by rw [updI_at]; exact h4) (by rw [updI_at]; exact e)
      exact hin hpin
  on := fun x hx ht => b.on x hx (a.on x hx ht)
end
end Go.Proofs.Ytgcoipcnhmkeaaa.Ax
end

/-! Files as blocks: a block is made for an index -/
section
set_option linter.unusedVariables false
set_option linter.unusedSimpArgs false
namespace Go.Proofs.Ytgcoipcnhmkeaaa.Ax

section
variable {c : Cf} {ns : Nds} {f : Dsk}

theorem Grw.le {i : Nat} {n' : Ino} {f' : Dsk} {l l' : List Pos} (g : Grw c i ns f n' f' l) (h : ∀ q ∈ l, q ∈ l') : Grw c i ns f n' f' l' :=
  ⟨g.di, g.same, g.low, g.off, g.mono, fun q hq h1 h2 => h _ (g.new q hq h1 h2), g.keep, g.zero, g.on⟩

theorem Raw.frame {n : Ino} {f' : Dsk} (r : Raw c f n) (h : ∀ q : Pos, q.ok → q.inner → ptr c f n q ≠ 0 → f' (ptr c f n q) = f (ptr c f n q)) : Raw c f' n where
  d := r.d
  s := r.s
  b := r.b
  nm := fun q hq hin h0 k hk => by
    have e := ptr_frame h q hq
    rw [e] at h0 ⊢
    rw [h q hq hin h0]
    exact r.nm q hq hin h0 k hk


theorem link_grw (k : c.OK) (h : DI c ns f) {i : Nat} (hi : i < c.N) {p : Pos} (hp : p.ok) (h0 : ptr c f (ns i) p = 0) {x : Nat} (hx : c.dt ≤ x) (hx2 : x < c.B) (ht : bit (f c.bm) x = false) {n' : Ino} {f' : Dsk} {a : Nat}
    (hs : Same (ns i) n') (hino : InoOK n') (hP : ∀ q : Pos, q.ok → ptr c f' n' q = if q = p then x else ptr c f (ns i) q)
    (hf : ∀ y, y ≠ c.bm → y ≠ x → y ≠ a → f' y = f y) (hx0 : f' x = zeros 128) (hbm : f' c.bm = setL (f c.bm) x true)
    (ha : a = x ∨ (∃ q0 : Pos, q0.ok ∧ q0.inner ∧ ptr c f (ns i) q0 = a) ∧ a ≠ 0 ∧ (f' a).length = 128 ∧ ∀ k, k < 64 → vDat c (numR (f' a) k) = numR (f' a) k)
    (hr1 : ∀ a, a < 6 → vDat c (n'.dr.getD a 0) = n'.dr.getD a 0) (hr2 : vDat c n'.sg = n'.sg) (hr3 : vDat c n'.db = n'.db) : Grw c i ns f n' f' [p] := by
  have hk := k.dt0
  have hx1 : x < 1024 := by omega
  have hx00 : x ≠ 0 := by omega
  have hlb := h.len c.bm (by omega)
  have hno := h.free_no hx1 ht hx00
  have hbit : ∀ y, bit (f' c.bm) y = if y = x then true else bit (f c.bm) y := fun y => by rw [hbm]; exact setL_bit hlb hx1
  have hadt : c.dt ≤ a ∧ a < c.B := by
    rcases ha with rfl | ⟨⟨q0, _, _, e⟩, h1, _⟩
    · exact ⟨hx, hx2⟩
    · rw [← e]; exact ptr_rng (by rw [e]; exact h1)
  -- a block that others name is none of these
  have hoth : ∀ j, j < c.N → ∀ q : Pos, q.ok → ptr c f (ns j) q ≠ 0 → (j = i → ptr c f (ns j) q ≠ a) → f' (ptr c f (ns j) q) = f (ptr c f (ns j) q) := by
    intro j hj q hq hne hji
    refine hf _ (bm_dt k (ptr_rng hne).1) (hno j hj q hq) fun e => ?_
    rcases ha with rfl | ⟨⟨q0, ho, hin, e0⟩, h1, _⟩
    · exact hno j hj q hq e
    · have := h.one hi hj ho hq (by rw [e0]; exact h1) (e.trans e0.symm)
      exact hji this.1 e
  have hoff : ∀ j, j < c.N → j ≠ i → ∀ q : Pos, q.ok → ptr c f' (ns j) q = ptr c f (ns j) q := fun j hj hne =>
    ptr_frame fun q hq _ hq0 => hoth j hj q hq hq0 fun e => absurd e hne
  refine ⟨⟨fun y hy => ?_, fun j hj => ?_, ?_, fun j hj => ?_, fun y hy => ?_⟩, hs, fun y h1 h2 => hf y h2 (by omega) (by omega), hoff, fun q hq hq0 => ?_, fun q hq h1 h2 => ?_, fun y hy hty hyq => ?_, fun q hq hin h1 h2 => ?_, fun y hy hty => ?_⟩
  · by_cases e1 : y = c.bm
    · rw [e1, hbm, setL_length]; exact hlb
    · by_cases e2 : y = x
      · rw [e2, hx0]; simp [zeros]
      · by_cases e3 : y = a
        · rcases ha with rfl | ⟨_, _, h2, _⟩
          · exact absurd e3 e2
          · rw [e3]; exact h2
        · rw [hf y e1 e2 e3]; exact h.len y hy
  · by_cases e : j = i
    · subst e; rw [updI_at]; exact hino
    · rw [updI_ne e]; exact h.ino j hj
  · refine h.pi.link hi hp h0 hx00 hx1 ht (fun j q hj hq => ?_) fun y _ => hbit y
    unfold setP
    by_cases e : j = i
    · subst e
      simp only [updI_at, true_and]
      exact hP q hq
    · rw [if_neg (fun hc => e hc.1)]
      simp only [updI_ne e]
      exact hoff j hj e q hq
  · by_cases e : j = i
    · subst e
      rw [updI_at]
      refine ⟨hr1, hr2, hr3, fun q hq hin hne m hm => ?_⟩
      rw [hP q hq] at hne ⊢
      by_cases e1 : q = p
      · rw [if_pos e1, hx0, name_zeros, dat_zero]
      · rw [if_neg e1] at hne ⊢
        by_cases e2 : ptr c f (ns j) q = a
        · rcases ha with rfl | ⟨_, _, _, h2⟩
          · exact absurd e2 (hno j hj q hq)
          · rw [e2]; exact h2 m hm
        · rw [hoth j hj q hq hne fun _ => e2]
          exact (h.raw j hj).nm q hq hin hne m hm
    · rw [updI_ne e]
      exact (h.raw j hj).frame fun q hq _ hne => hoth j hj q hq hne fun e' => absurd e' e
  · rw [hbit, if_neg (by omega)]; exact h.low y hy
  · rw [hP q hq]
    split
    · rename_i e; rw [e] at hq0; exact absurd h0 hq0
    · rfl
  · rw [hP q hq] at h1
    split at h1
    · rename_i e; rw [e]; simp
    · exact absurd h2 h1
  · refine hf y (bm_dt k hy) (fun e => by rw [e, ht] at hty; cases hty) fun e => ?_
    rcases ha with rfl | ⟨⟨q0, ho, hin, e0⟩, _, _⟩
    · rw [e, ht] at hty; cases hty
    · exact hyq q0 ho hin (e0.trans e.symm)
  · rw [hP q hq] at h1 ⊢
    split at h1
    · rename_i e; rw [if_pos e]; exact hx0
    · exact absurd h2 h1
  · rw [hbit]; split
    · rfl
    · exact hty

theorem InoOK.setD {n : Ino} (h : InoOK n) (hk : n.kd ≠ 0) {a x : Nat} (hx : x < 1024) : InoOK { n with dr := n.dr.set a x } := by
  obtain ⟨⟨x0, x1, x2, x3, x4, x5, hd, h1, h2, h3, h4, h5, h6⟩, hs, hg, hb, hkk⟩ := h
  refine ⟨?_, hs, hg, hb, ?_⟩
  · simp only [hd]
    match a with
    | 0 => exact ⟨x, x1, x2, x3, x4, x5, rfl, hx, h2, h3, h4, h5, h6⟩
    | 1 => exact ⟨x0, x, x2, x3, x4, x5, rfl, h1, hx, h3, h4, h5, h6⟩
    | 2 => exact ⟨x0, x1, x, x3, x4, x5, rfl, h1, h2, hx, h4, h5, h6⟩
    | 3 => exact ⟨x0, x1, x2, x, x4, x5, rfl, h1, h2, h3, hx, h5, h6⟩
    | 4 => exact ⟨x0, x1, x2, x3, x, x5, rfl, h1, h2, h3, h4, hx, h6⟩
    | 5 => exact ⟨x0, x1, x2, x3, x4, x, rfl, h1, h2, h3, h4, h5, hx⟩
    | a + 6 => exact ⟨x0, x1, x2, x3, x4, x5, rfl, h1, h2, h3, h4, h5, h6⟩
  · rcases hkk with hc | hc
    · exact absurd hc.1 hk
    · exact .inr hc
theorem InoOK.setS {n : Ino} (h : InoOK n) (hk : n.kd ≠ 0) {x : Nat} (hx : x < 1024) : InoOK { n with sg := x } := by
  refine ⟨h.dr, h.sz, hx, h.db, ?_⟩
  rcases h.kd with hc | hc
  · exact absurd hc.1 hk
  · exact .inr hc
theorem InoOK.setB {n : Ino} (h : InoOK n) (hk : n.kd ≠ 0) {x : Nat} (hx : x < 1024) : InoOK { n with db := x } := by
  refine ⟨h.dr, h.sz, h.sg, hx, ?_⟩
  rcases h.kd with hc | hc
  · exact absurd hc.1 hk
  · exact .inr hc
theorem InoOK.setZ {n : Ino} (h : InoOK n) (hk : n.kd ≠ 0) {x : Nat} (hx : x ≤ 533248) : InoOK { n with sz := x } := by
  refine ⟨h.dr, hx, h.sg, h.db, ?_⟩
  rcases h.kd with hc | hc
  · exact absurd hc.1 hk
  · exact .inr hc

/-- What becomes of a place that is to have a block. -/
def Ens (c : Cf) (i : Nat) (ns : Nds) (f : Dsk) (p : Pos) (r : Nat) (n' : Ino) (f' : Dsk) : Prop :=
  (r = 0 ∧ f' = f ∧ ptr c f (ns i) p = 0 ∧ ∀ y, c.dt ≤ y → y < c.B → bit (f c.bm) y = true) ∨
  (r ≠ 0 ∧ Grw c i ns f n' f' [p] ∧ ptr c f' n' p = r)


theorem ens_d (k : c.OK) (h : DI c ns f) {i : Nat} (hi : i < c.N) (hk : (ns i).kd ≠ 0) {a : Nat} (ha : a < 6) :
    Ens c i ns f (.d a) (vEns c f ((ns i).dr.getD a 0)).1 { ns i with dr := (ns i).dr.set a (vEns c f ((ns i).dr.getD a 0)).1 } (vEns c f ((ns i).dr.getD a 0)).2 := by
  have hkd := k.dt0
  have hin := h.ino i hi
  have hr := h.raw i hi
  have hl := hin.len
  unfold vEns
  by_cases h0 : vDat c ((ns i).dr.getD a 0) = 0
  · rw [if_pos h0]
    by_cases hm : (vMake c f).1 = 0
    · exact .inl ⟨hm, (vMake_none hm k).1, h0, (vMake_none hm k).2⟩
    · obtain ⟨x, h1, h2, h3, h4⟩ := vMake_some hm
      rw [h4]
      have hfr := make_frame k h h1 h2 h3 hi
      refine .inr ⟨by omega, link_grw k h hi (p := .d a) ha h0 h1 h2 h3 (a := x) ⟨rfl, rfl, rfl⟩ (hin.setD hk (by omega)) (fun q hq => ?_) (fun y e1 e2 _ => ?_) (upd_at _ _ _) ?_ (.inl rfl) (fun e he => ?_) hr.s hr.b, ?_⟩
      · rw [ptr_d (by omega) q, dat_of h1 h2, hfr q hq]
      · dsimp only
        rw [upd_ne e2, upd_ne e1]
      · dsimp only
        rw [upd_ne (by omega), upd_at]
      · simp only
        rw [getD_set (by omega)]
        split
        · exact dat_of h1 h2
        · exact hr.d e he
      · rw [ptr_d (by omega), if_pos rfl, dat_of h1 h2]
  · rw [if_neg h0]
    have e : (ns i).dr.set a (vDat c ((ns i).dr.getD a 0)) = (ns i).dr := by
      rw [hr.d a ha]
      apply List.ext_getElem?
      intro j
      rw [List.getElem?_set]
      split
      · rename_i e
        subst e
        rw [if_pos (by omega), List.getD_eq_getElem?_getD]
        simp [show a < (ns i).dr.length by omega]
      · rfl
    rw [e]
    exact .inr ⟨h0, (Grw.refl h).le fun q hq => (List.not_mem_nil hq).elim, rfl⟩
theorem ens_s (k : c.OK) (h : DI c ns f) {i : Nat} (hi : i < c.N) (hk : (ns i).kd ≠ 0) :
    Ens c i ns f .s (vEns c f (ns i).sg).1 { ns i with sg := (vEns c f (ns i).sg).1 } (vEns c f (ns i).sg).2 := by
  have hkd := k.dt0
  have hin := h.ino i hi
  have hr := h.raw i hi
  unfold vEns
  by_cases h0 : vDat c (ns i).sg = 0
  · rw [if_pos h0]
    by_cases hm : (vMake c f).1 = 0
    · exact .inl ⟨hm, (vMake_none hm k).1, h0, (vMake_none hm k).2⟩
    · obtain ⟨x, h1, h2, h3, h4⟩ := vMake_some hm
      rw [h4]
      have hfr := make_frame k h h1 h2 h3 hi
      have hps := fun q (hq : Pos.ok q) => ptr_s (c := c) (f := upd (upd f c.bm (setL (f c.bm) x true)) x (zeros 128)) (n := ns i) (x := x) (fun j _ => by rw [dat_of h1 h2]; exact named_blank (n := 128) (upd_at _ _ _))
        (fun j hj => by rw [hfr (.sa j) hj]; simp only [ptr, h0, named_zero]) q hq
      refine .inr ⟨by omega, link_grw k h hi (p := .s) trivial h0 h1 h2 h3 (a := x) ⟨rfl, rfl, rfl⟩ (hin.setS hk (by omega)) (fun q hq => ?_) (fun y e1 e2 _ => ?_) (upd_at _ _ _) ?_ (.inl rfl) hr.d (dat_of h1 h2) hr.b, ?_⟩
      · rw [hps q hq, dat_of h1 h2, hfr q hq]
      · dsimp only
        rw [upd_ne e2, upd_ne e1]
      · dsimp only
        rw [upd_ne (by omega), upd_at]
      · rw [hps .s trivial, if_pos rfl, dat_of h1 h2]
  · rw [if_neg h0]
    have e : { ns i with sg := vDat c (ns i).sg } = ns i := by rw [hr.s]
    rw [e]
    exact .inr ⟨h0, (Grw.refl h).le fun q hq => (List.not_mem_nil hq).elim, rfl⟩
theorem ens_b (k : c.OK) (h : DI c ns f) {i : Nat} (hi : i < c.N) (hk : (ns i).kd ≠ 0) :
    Ens c i ns f .b (vEns c f (ns i).db).1 { ns i with db := (vEns c f (ns i).db).1 } (vEns c f (ns i).db).2 := by
  have hkd := k.dt0
  have hin := h.ino i hi
  have hr := h.raw i hi
  unfold vEns
  by_cases h0 : vDat c (ns i).db = 0
  · rw [if_pos h0]
    by_cases hm : (vMake c f).1 = 0
    · exact .inl ⟨hm, (vMake_none hm k).1, h0, (vMake_none hm k).2⟩
    · obtain ⟨x, h1, h2, h3, h4⟩ := vMake_some hm
      rw [h4]
      have hfr := make_frame k h h1 h2 h3 hi
      have hps := fun q (hq : Pos.ok q) => ptr_b (c := c) (f := upd (upd f c.bm (setL (f c.bm) x true)) x (zeros 128)) (n := ns i) (x := x) (fun j _ => by rw [dat_of h1 h2]; exact named_blank (n := 128) (upd_at _ _ _))
        (fun j hj => by rw [hfr (.ba j) hj]; simp only [ptr, h0, named_zero]) q hq
      refine .inr ⟨by omega, link_grw k h hi (p := .b) trivial h0 h1 h2 h3 (a := x) ⟨rfl, rfl, rfl⟩ (hin.setB hk (by omega)) (fun q hq => ?_) (fun y e1 e2 _ => ?_) (upd_at _ _ _) ?_ (.inl rfl) hr.d hr.s (dat_of h1 h2), ?_⟩
      · rw [hps q hq, dat_of h1 h2, hfr q hq]
      · dsimp only
        rw [upd_ne e2, upd_ne e1]
      · dsimp only
        rw [upd_ne (by omega), upd_at]
      · rw [hps .b trivial, if_pos rfl, dat_of h1 h2]
  · rw [if_neg h0]
    have e : { ns i with db := vDat c (ns i).db } = ns i := by rw [hr.b]
    rw [e]
    exact .inr ⟨h0, (Grw.refl h).le fun q hq => (List.not_mem_nil hq).elim, rfl⟩

/-- A place in a block of names. -/
theorem ens_nm (k : c.OK) (h : DI c ns f) {i : Nat} (hi : i < c.N) {p q0 : Pos} {m : Nat} (hp : p.ok) (ho : q0.ok) (hin0 : q0.inner) (hm : m < 64) (h0 : ptr c f (ns i) q0 ≠ 0)
    (hpv : ptr c f (ns i) p = vNamed c f (ptr c f (ns i) q0) m)
    (hset : ∀ (g : Dsk) (x : Nat), x < 1024 → (∀ q : Pos, q.ok → ptr c g (ns i) q = ptr c f (ns i) q) → (g (ptr c f (ns i) q0)).length = 128 → ptr c f (ns i) p = 0 → vDat c x ≠ ptr c f (ns i) q0 → (∀ e, e < 64 → vNamed c g (vDat c x) e = 0) →
      ∀ q : Pos, q.ok → ptr c (vName g (ptr c f (ns i) q0) m x) (ns i) q = if q = p then vDat c x else ptr c g (ns i) q) :
    Ens c i ns f p (vBelow c f (ptr c f (ns i) q0) m).1 (ns i) (vBelow c f (ptr c f (ns i) q0) m).2 := by
  have hkd := k.dt0
  have hin := h.ino i hi
  have hr := h.raw i hi
  unfold vBelow
  rw [← hpv]
  by_cases hz : ptr c f (ns i) p = 0
  · rw [if_pos hz]
    by_cases hmk : (vMake c f).1 = 0
    · rw [if_pos hmk]
      exact .inl ⟨rfl, (vMake_none hmk k).1, hz, (vMake_none hmk k).2⟩
    · rw [if_neg hmk]
      obtain ⟨x, h1, h2, h3, h4⟩ := vMake_some hmk
      rw [h4]
      have hfr := make_frame k h h1 h2 h3 hi
      have hrq := ptr_rng h0
      have hax : ptr c f (ns i) q0 ≠ x := h.free_no (by omega) h3 (by omega) i hi q0 ho
      have hlen : (f (ptr c f (ns i) q0)).length = 128 := h.len _ hrq.2
      have hga : upd (upd f c.bm (setL (f c.bm) x true)) x (zeros 128) (ptr c f (ns i) q0) = f (ptr c f (ns i) q0) := by rw [upd_ne hax, upd_ne (bm_dt k hrq.1)]
      have hps := hset _ x (by omega) hfr (by rw [hga]; exact hlen) hz (by rw [dat_of h1 h2]; exact fun e => hax e.symm) (fun e _ => by rw [dat_of h1 h2]; exact named_blank (n := 128) (upd_at _ _ _))
      refine .inr ⟨by show x ≠ 0; omega, link_grw k h hi hp hz h1 h2 h3 (a := ptr c f (ns i) q0) (Same.refl _) hin (fun q hq => ?_) (fun y e1 e2 e3 => ?_) ?_ ?_ (.inr ⟨⟨q0, ho, hin0, rfl⟩, h0, ?_, fun j hj => ?_⟩) hr.d hr.s hr.b, ?_⟩
      · rw [hps q hq, dat_of h1 h2, hfr q hq]
      · simp only [vName]
        rw [upd_ne e3, upd_ne e2, upd_ne e1]
      · simp only [vName]
        rw [upd_ne (fun e => hax e.symm), upd_at]
      · simp only [vName]
        rw [upd_ne (fun e => bm_dt k hrq.1 e.symm), upd_ne (by omega), upd_at]
      · simp only [vName]
        rw [upd_at, hga]
        exact ren_len hlen hm
      · simp only [vName]
        rw [upd_at, hga, name_ren hlen hm (by omega)]
        split
        · exact dat_of h1 h2
        · exact hr.nm q0 ho hin0 h0 j hj
      · rw [hps p hp, if_pos rfl, dat_of h1 h2]
  · rw [if_neg hz]
    exact .inr ⟨hz, (Grw.refl h).le fun q hq => (List.not_mem_nil hq).elim, rfl⟩
theorem ens_sa (k : c.OK) (h : DI c ns f) {i : Nat} (hi : i < c.N) {m : Nat} (hm : m < 64) (h0 : ptr c f (ns i) .s ≠ 0) :
    Ens c i ns f (.sa m) (vBelow c f (ptr c f (ns i) .s) m).1 (ns i) (vBelow c f (ptr c f (ns i) .s) m).2 :=
  ens_nm k h hi (p := .sa m) (q0 := .s) hm trivial trivial hm h0 rfl fun g x hx hg hl _ _ _ q hq =>
    ptr_sa (hg .s trivial) h0 hl hm hx (fun p hp hin e => (h.one hi hi (p := .s) trivial hp h0 (by rw [← hg p hp]; exact e)).2) q hq
theorem ens_ba (k : c.OK) (h : DI c ns f) {i : Nat} (hi : i < c.N) {m : Nat} (hm : m < 64) (h0 : ptr c f (ns i) .b ≠ 0) :
    Ens c i ns f (.ba m) (vBelow c f (ptr c f (ns i) .b) m).1 (ns i) (vBelow c f (ptr c f (ns i) .b) m).2 :=
  ens_nm k h hi (p := .ba m) (q0 := .b) hm trivial trivial hm h0 rfl fun g x hx hg hl hz hne hw q hq =>
    ptr_ba (hg .b trivial) h0 hl hm hx (fun p hp hin e => (h.one hi hi (p := .b) trivial hp h0 (by rw [← hg p hp]; exact e)).2)
      (fun e he => by
        rw [hg (.bb m e) ⟨hm, he⟩]
        have : vNamed c f (vDat c (ns i).db) m = 0 := hz
        simp only [ptr, this, named_zero]) hne hw q hq
theorem ens_bb (k : c.OK) (h : DI c ns f) {i : Nat} (hi : i < c.N) {a m : Nat} (ha : a < 64) (hm : m < 64) (h0 : ptr c f (ns i) (.ba a) ≠ 0) :
    Ens c i ns f (.bb a m) (vBelow c f (ptr c f (ns i) (.ba a)) m).1 (ns i) (vBelow c f (ptr c f (ns i) (.ba a)) m).2 :=
  ens_nm k h hi (p := .bb a m) (q0 := .ba a) ⟨ha, hm⟩ ha trivial hm h0 rfl fun g x hx hg hl _ _ _ q hq =>
    ptr_bb (hg (.ba a) ha) h0 hl hm hx (fun p hp hin e => (h.one hi hi (p := .ba a) ha hp h0 (by rw [← hg p hp]; exact e)).2) q hq

/-- What becomes of an index that is to have a block: it has one; or there is no room. -/
def Grown (c : Cf) (i : Nat) (ns : Nds) (f : Dsk) (x : Nat) (g : Nat × Ino × Dsk) : Prop :=
  (g.1 = 0 ∧ ∃ n' f', Grw c i ns f n' f' (upto x) ∧ (∃ q ∈ upto x, ptr c f' n' q = 0) ∧ ∀ y, c.dt ≤ y → y < c.B → bit (f' c.bm) y = true) ∨
  (g.1 ≠ 0 ∧ Grw c i ns f g.2.1 g.2.2 (upto x) ∧ ptr c g.2.2 g.2.1 (leaf x) = g.1)

theorem grow_spec (k : c.OK) (h : DI c ns f) {i : Nat} (hi : i < c.N) (hk : (ns i).kd ≠ 0) {x : Nat} (hx : x < 4166) : Grown c i ns f x (vGrow c f (ns i) x) := by
  unfold vGrow
  by_cases h6 : x < 6
  · rw [if_pos h6]
    have hu : upto x = [.d x] := by simp [upto, h6]
    have hlf := leaf_1 h6
    rcases ens_d k h hi hk h6 with ⟨h1, h2, h3, h4⟩ | ⟨h1, h2, h3⟩
    · refine .inl ⟨h1, ns i, f, (Grw.refl h).le fun q hq => (List.not_mem_nil hq).elim, ⟨.d x, by simp [hu], h3⟩, h4⟩
    · refine .inr ⟨h1, by rw [hu]; exact h2, by rw [hlf]; exact h3⟩
  · rw [if_neg h6]
    by_cases h70 : x < 70
    · rw [if_pos h70]
      have hu : upto x = [.s, .sa (x - 6)] := by simp [upto, h6, h70]
      have hlf := leaf_2 (by omega) h70
      rcases ens_s k h hi hk with ⟨h1, h2, h3, h4⟩ | ⟨h1, h2, h3⟩
      · rw [if_pos h1]
        exact .inl ⟨rfl, ns i, f, (Grw.refl h).le fun q hq => (List.not_mem_nil hq).elim, ⟨.s, by simp [hu], h3⟩, h4⟩
      · rw [if_neg h1]
        have hsa := ens_sa k h2.di hi (m := x - 6) (by omega) (by rw [updI_at, h3]; exact h1)
        rw [updI_at, h3] at hsa
        rcases hsa with ⟨g1, g2, g3, g4⟩ | ⟨g1, g2, g3⟩
        · rw [updI_at] at g3
          exact .inl ⟨g1, _, _, h2.le (by simp [hu]), ⟨.sa (x - 6), by simp [hu], g3⟩, g4⟩
        · exact .inr ⟨g1, (h2.trans k hi h g2).le (by simp [hu]), by rw [hlf]; exact g3⟩
    · rw [if_neg h70]
      have hu : upto x = [.b, .ba ((x - 70) / 64), .bb ((x - 70) / 64) ((x - 70) % 64)] := by simp [upto, h6, h70]
      have hlf := leaf_3 (x := x) (by omega)
      rcases ens_b k h hi hk with ⟨h1, h2, h3, h4⟩ | ⟨h1, h2, h3⟩
      · rw [if_pos h1]
        exact .inl ⟨rfl, ns i, f, (Grw.refl h).le fun q hq => (List.not_mem_nil hq).elim, ⟨.b, by simp [hu], h3⟩, h4⟩
      · rw [if_neg h1]
        have hba := ens_ba k h2.di hi (m := (x - 70) / 64) (by omega) (by rw [updI_at, h3]; exact h1)
        rw [updI_at, h3] at hba
        generalize hq : vBelow c (vEns c f (ns i).db).2 (vEns c f (ns i).db).1 ((x - 70) / 64) = q at hba
        simp only
        rcases hba with ⟨g1, g2, g3, g4⟩ | ⟨g1, g2, g3⟩
        · rw [if_pos g1]
          rw [updI_at] at g3
          exact .inl ⟨rfl, _, _, h2.le (by simp [hu]), ⟨.ba ((x - 70) / 64), by simp [hu], g3⟩, g4⟩
        · rw [if_neg g1]
          have g5 := h2.trans k hi h g2
          have hbb := ens_bb k g5.di hi (a := (x - 70) / 64) (m := (x - 70) % 64) (by omega) (by omega) (by rw [updI_at, g3]; exact g1)
          rw [updI_at, g3] at hbb
          rcases hbb with ⟨e1, e2, e3, e4⟩ | ⟨e1, e2, e3⟩
          · rw [updI_at] at e3
            exact .inl ⟨e1, _, _, g5.le (by simp [hu]), ⟨.bb ((x - 70) / 64) ((x - 70) % 64), by simp [hu], e3⟩, e4⟩
          · exact .inr ⟨e1, (g5.trans k hi h e2).le (by simp [hu]), by rw [hlf]; exact e3⟩
end
end Go.Proofs.Ytgcoipcnhmkeaaa.Ax
end

/-! Files as blocks: what a file holds; bytes are written -/
section
set_option linter.unusedVariables false
set_option linter.unusedSimpArgs false
namespace Go.Proofs.Ytgcoipcnhmkeaaa.Ax

/-- What an index's block holds; nothing: there is none. -/
def flc (c : Cf) (f : Dsk) (n : Ino) (x : Nat) : Option Bts := if vLook c f n x = 0 then none else some (f (vLook c f n x))
theorem flc_some {c : Cf} {f : Dsk} {n : Ino} {x : Nat} (h : ptr c f n (leaf x) ≠ 0) : flc c f n x = some (f (ptr c f n (leaf x))) := by
  unfold flc; rw [look_ptr, if_neg h]
theorem flc_none {c : Cf} {f : Dsk} {n : Ino} {x : Nat} (h : ptr c f n (leaf x) = 0) : flc c f n x = none := by
  unfold flc; rw [look_ptr, if_pos h]
theorem flc_iff {c : Cf} {f : Dsk} {n : Ino} {x : Nat} : flc c f n x = none ↔ ptr c f n (leaf x) = 0 := by
  unfold flc; rw [look_ptr]
  split
  · rename_i h; exact ⟨fun _ => h, fun _ => rfl⟩
  · rename_i h; exact ⟨fun e => (by cases e), fun e => absurd e h⟩
theorem leaf_in {x y : Nat} (h : leaf y ∈ upto x) : y = x := by
  have hi := leaf_inner y
  unfold upto at h
  split at h
  · rename_i h6
    simp at h
    exact leaf_inj (by rw [h, leaf_1 h6])
  · split at h
    · rename_i h6 h70
      simp at h
      rcases h with h | h
      · rw [h] at hi; exact (hi trivial).elim
      · exact leaf_inj (by rw [h, leaf_2 (by omega) h70])
    · rename_i h6 h70
      simp at h
      rcases h with h | h | h
      · rw [h] at hi; exact (hi trivial).elim
      · rw [h] at hi; exact (hi trivial).elim
      · exact leaf_inj (by rw [h, leaf_3 (by omega)])

/-- What a piece of writing leaves of all but one inode's indices. -/
structure Mov (c : Cf) (i : Nat) (ns : Nds) (f : Dsk) (n' : Ino) (f' : Dsk) (l : Nat → Prop) : Prop where
  di : DI c (updI ns i n') f'
  same : Same (ns i) n'
  low : ∀ x, x < c.dt → x ≠ c.bm → f' x = f x
  offp : ∀ j, j < c.N → j ≠ i → ∀ q : Pos, q.ok → ptr c f' (ns j) q = ptr c f (ns j) q
  offc : ∀ j, j < c.N → j ≠ i → ∀ y, y < 4166 → flc c f' (ns j) y = flc c f (ns j) y
  pos : ∀ q : Pos, q.ok → ptr c f' n' q ≠ 0 → ptr c f (ns i) q ≠ 0 ∨ ∃ y, l y ∧ q ∈ upto y
section
variable {c : Cf} {ns : Nds} {f : Dsk}
theorem Mov.refl {i : Nat} (h : DI c ns f) : Mov c i ns f (ns i) f (fun _ => False) where
  di := by rw [updI_self]; exact h
  same := Same.refl _
  low := fun _ _ _ => rfl
  offp := fun _ _ _ _ _ => rfl
  offc := fun _ _ _ _ _ => rfl
  pos := fun _ _ h => .inl h
theorem Mov.trans {i : Nat} {n1 n2 : Ino} {f1 f2 : Dsk} {l1 l2 : Nat → Prop} (a : Mov c i ns f n1 f1 l1) (b : Mov c i (updI ns i n1) f1 n2 f2 l2) : Mov c i ns f n2 f2 (fun y => l1 y ∨ l2 y) where
  di := by have := b.di; rw [updI_updI] at this; exact this
  same := a.same.trans (by have := b.same; rw [updI_at] at this; exact this)
  low := fun x h1 h2 => (b.low x h1 h2).trans (a.low x h1 h2)
  offp := fun j hj hne q hq => by
    have h1 := b.offp j hj hne q hq
    rw [updI_ne hne] at h1
    exact h1.trans (a.offp j hj hne q hq)
  offc := fun j hj hne q hq => by
    have h1 := b.offc j hj hne q hq
    rw [updI_ne hne] at h1
    exact h1.trans (a.offc j hj hne q hq)
  pos := fun q hq h0 => by
    have := b.pos q hq h0
    rw [updI_at] at this
    rcases this with h1 | ⟨y, h1, h2⟩
    · rcases a.pos q hq h1 with h3 | ⟨y, h3, h4⟩
      · exact .inl h3
      · exact .inr ⟨y, .inl h3, h4⟩
    · exact .inr ⟨y, .inr h1, h2⟩
theorem Mov.le {i : Nat} {n' : Ino} {f' : Dsk} {l l' : Nat → Prop} (m : Mov c i ns f n' f' l) (h : ∀ y, l y → l' y) : Mov c i ns f n' f' l' :=
  ⟨m.di, m.same, m.low, m.offp, m.offc, fun q hq h0 => (m.pos q hq h0).imp id fun ⟨y, h1, h2⟩ => ⟨y, h y h1, h2⟩⟩
theorem Grw.mov (k : c.OK) (h : DI c ns f) {i : Nat} (hi : i < c.N) {n' : Ino} {f' : Dsk} {x : Nat} (g : Grw c i ns f n' f' (upto x)) : Mov c i ns f n' f' (· = x) where
  di := g.di
  same := g.same
  low := g.low
  offp := g.off
  offc := fun j hj hne y hy => by
    have e := g.off j hj hne (leaf y) (leaf_ok hy)
    by_cases h0 : ptr c f (ns j) (leaf y) = 0
    · rw [flc_none h0, flc_none (by rw [e]; exact h0)]
    · rw [flc_some h0, flc_some (by rw [e]; exact h0), e]
      congr 1
      refine g.keep _ (ptr_rng h0).1 (h.on k hj (leaf_ok hy) h0) fun q hq _ e2 => ?_
      have := h.one hj hi (leaf_ok hy) hq h0 e2
      exact hne this.1.symm
  pos := fun q hq h0 => by
    by_cases h1 : ptr c f (ns i) q = 0
    · exact .inr ⟨x, rfl, g.new q hq h0 h1⟩
    · exact .inl h1
theorem Grw.mine (k : c.OK) (h : DI c ns f) {i : Nat} (hi : i < c.N) {n' : Ino} {f' : Dsk} {x : Nat} (g : Grw c i ns f n' f' (upto x)) (hx : ptr c f' n' (leaf x) ≠ 0) (hx4 : x < 4166) {y : Nat} (hy : y < 4166) :
    flc c f' n' y = if y = x then some ((flc c f (ns i) x).getD (zeros 128)) else flc c f (ns i) y := by
  have old : ∀ z, z < 4166 → ptr c f (ns i) (leaf z) ≠ 0 → flc c f' n' z = flc c f (ns i) z := by
    intro z hz h0
    have e := g.mono (leaf z) (leaf_ok hz) h0
    rw [flc_some h0, flc_some (by rw [e]; exact h0), e]
    congr 1
    refine g.keep _ (ptr_rng h0).1 (h.on k hi (leaf_ok hz) h0) fun q hq hin e2 => ?_
    have := h.one hi hi (leaf_ok hz) hq h0 e2
    rw [this.2] at hin
    exact leaf_inner z hin
  by_cases h0 : ptr c f (ns i) (leaf y) = 0
  · by_cases hyx : y = x
    · subst hyx
      rw [if_pos rfl, flc_none h0, flc_some hx, g.zero _ (leaf_ok hy) (leaf_inner y) hx h0]
      rfl
    · rw [if_neg hyx, flc_none h0]
      refine flc_none (Classical.byContradiction fun h1 => hyx ?_)
      exact leaf_in (g.new _ (leaf_ok hy) h1 h0)
  · rw [old y hy h0]
    split
    · rename_i e; subst e; rw [flc_some h0]; rfl
    · rfl

/-- A block of a file is written. -/
theorem put_leaf (k : c.OK) (h : DI c ns f) {i : Nat} (hi : i < c.N) {x : Nat} (hx : x < 4166) (h0 : ptr c f (ns i) (leaf x) ≠ 0) {b : Bts} (hb : b.length = 128) :
    Mov c i ns f (ns i) (upd f (ptr c f (ns i) (leaf x)) b) (fun _ => False) ∧
    ∀ y, y < 4166 → flc c (upd f (ptr c f (ns i) (leaf x)) b) (ns i) y = if y = x then some b else flc c f (ns i) y := by
  have hr := ptr_rng h0
  have hk := k.dt0
  have hin : ∀ j, j < c.N → ∀ q : Pos, q.ok → q.inner → ptr c f (ns j) q ≠ ptr c f (ns i) (leaf x) := fun j hj q hq hqi e => by
    have := h.one hi hj (leaf_ok hx) hq h0 e
    rw [this.2] at hqi
    exact leaf_inner x hqi
  have hbl : ∀ j, j < c.N → ∀ q : Pos, q.ok → q.inner → ptr c f (ns j) q ≠ 0 → upd f (ptr c f (ns i) (leaf x)) b (ptr c f (ns j) q) = f (ptr c f (ns j) q) := fun j hj q hq hqi _ => upd_ne (hin j hj q hq hqi)
  have hp : ∀ j, j < c.N → ∀ q : Pos, q.ok → ptr c (upd f (ptr c f (ns i) (leaf x)) b) (ns j) q = ptr c f (ns j) q := fun j hj => ptr_frame (hbl j hj)
  have hbm : upd f (ptr c f (ns i) (leaf x)) b c.bm = f c.bm := upd_ne (by omega)
  have hfl : ∀ j, j < c.N → ∀ y, y < 4166 → flc c (upd f (ptr c f (ns i) (leaf x)) b) (ns j) y = if j = i ∧ y = x then some b else flc c f (ns j) y := by
    intro j hj y hy
    have e := hp j hj (leaf y) (leaf_ok hy)
    by_cases h1 : ptr c f (ns j) (leaf y) = 0
    · rw [flc_none h1, flc_none (by rw [e]; exact h1), if_neg]
      rintro ⟨rfl, rfl⟩
      exact h0 h1
    · rw [flc_some h1, flc_some (by rw [e]; exact h1), e]
      by_cases hc : j = i ∧ y = x
      · obtain ⟨rfl, rfl⟩ := hc
        rw [if_pos ⟨rfl, rfl⟩, upd_at]
      · rw [if_neg hc, upd_ne]
        intro e2
        have := h.one hi hj (leaf_ok hx) (leaf_ok hy) h0 e2
        exact hc ⟨this.1, leaf_inj this.2⟩
  refine ⟨⟨?_, Same.refl _, fun y h1 h2 => upd_ne (by omega), fun j hj _ => hp j hj, fun j hj hne y hy => ?_, fun q hq h1 => .inl (by rw [hp i hi q hq] at h1; exact h1)⟩, fun y hy => ?_⟩
  · rw [updI_self]
    refine ⟨fun y hy => ?_, h.ino, ⟨fun a d q r ha hd hq hr2 hne he => ?_, fun y hy => ?_⟩, fun j hj => (h.raw j hj).frame (hbl j hj), fun y hy => ?_⟩
    · unfold upd
      split
      · exact hb
      · exact h.len y hy
    · simp only [hp a ha q hq, hp d hd r hr2] at hne he
      exact h.pi.inj a d q r ha hd hq hr2 hne he
    · rw [hbm, h.pi.on y hy]
      constructor
      · rintro ⟨j, q, h1, h2, h3, h4⟩
        exact ⟨j, q, h1, h2, by simp only [hp j h1 q h2]; exact h3, h4⟩
      · rintro ⟨j, q, h1, h2, h3, h4⟩
        exact ⟨j, q, h1, h2, by simp only [hp j h1 q h2] at h3; exact h3, h4⟩
    · rw [hbm]; exact h.low y hy
  · rw [hfl j hj y hy, if_neg (fun hc => hne hc.1)]
  · rw [hfl i hi y hy]
    simp only [true_and]

theorem splice_len {old data : Bts} {k at_ : Nat} (h : old.length = 128) (h1 : at_ < (k + 1) * 128) (h2 : k * 128 < at_ + data.length) : (splice old k at_ data).length = 128 := by
  simp only [splice, List.length_append, List.length_take, List.length_drop, h]
  omega

theorem wr_spec (k : c.OK) {i : Nat} (hi : i < c.N) (at_ : Nat) (data : Bts) : ∀ (m x : Nat) (ns : Nds) (f : Dsk), DI c ns f → (ns i).kd ≠ 0 → x + m ≤ 4166 → (∀ y, x ≤ y → y < x + m → at_ < (y + 1) * 128 ∧ y * 128 < at_ + data.length) →
    match vWr c at_ data m x (ns i) f with
    | some r => Mov c i ns f r.1 r.2 (fun y => x ≤ y ∧ y < x + m) ∧ ∀ y, y < 4166 → flc c r.2 r.1 y = if x ≤ y ∧ y < x + m then some (splice ((flc c f (ns i) y).getD (zeros 128)) y at_ data) else flc c f (ns i) y
    | none => ∃ n' f', Mov c i ns f n' f' (fun y => x ≤ y ∧ y < x + m) ∧ (∃ y, x ≤ y ∧ y < x + m ∧ ∃ q ∈ upto y, ptr c f' n' q = 0) ∧ ∀ y, c.dt ≤ y → y < c.B → bit (f' c.bm) y = true
  | 0, x, ns, f, h, hk, hm, hs => by
    simp only [vWr]
    refine ⟨(Mov.refl h).le fun y hy => hy.elim, fun y hy => ?_⟩
    rw [if_neg (by omega)]
  | m + 1, x, ns, f, h, hk, hm, hs => by
    have hx : x < 4166 := by omega
    simp only [vWr]
    rcases grow_spec k h hi hk hx with ⟨h1, n', f', h2, ⟨q, h3, h4⟩, h5⟩ | ⟨h1, h2, h3⟩
    · rw [if_pos h1]
      refine ⟨n', f', (h2.mov k h hi).le fun y hy => (by subst hy; omega), ⟨x, by omega, by omega, q, h3, h4⟩, h5⟩
    · rw [if_neg h1]
      have hne : ptr c (vGrow c f (ns i) x).2.2 (vGrow c f (ns i) x).2.1 (leaf x) ≠ 0 := by rw [h3]; exact h1
      have hmine := fun y (hy : y < 4166) => h2.mine k h hi hne hx hy
      have hmov := h2.mov k h hi
      generalize vGrow c f (ns i) x = g at h1 h2 h3 hne hmine hmov
      obtain ⟨b, n1, f1⟩ := g
      simp only at h1 h2 h3 hne hmine hmov ⊢
      have hlen : (f1 b).length = 128 := by rw [← h3]; exact h2.di.len _ (ptr_rng hne).2
      have hbb := hs x (by omega) (by omega)
      have hp := put_leaf k h2.di hi hx (b := splice (f1 b) x at_ data) (by rw [updI_at]; exact hne) (splice_len hlen hbb.1 hbb.2)
      rw [updI_at, h3] at hp
      obtain ⟨hp1, hp2⟩ := hp
      have hm1 := hmov.trans hp1
      have hfb : some (f1 b) = some ((flc c f (ns i) x).getD (zeros 128)) := by
        have h6 := hmine x hx
        rw [if_pos rfl, flc_some hne, h3] at h6
        exact h6
      have hfb := Option.some.inj hfb
      generalize upd f1 b (splice (f1 b) x at_ data) = f2 at hp1 hp2 hm1
      have ih := wr_spec k hi at_ data m (x + 1) (updI ns i n1) f2 hm1.di (by rw [updI_at, hmov.same.1]; exact hk) (by omega) fun y h4 h5 => hs y (by omega) (by omega)
      rw [updI_at] at ih
      split
      · rename_i r hr
        rw [hr] at ih
        simp only at ih
        refine ⟨(hm1.trans ih.1).le fun y hy => ?_, fun y hy => ?_⟩
        · rcases hy with (e | e) | ⟨e1, e2⟩
          · omega
          · exact e.elim
          · omega
        · rw [ih.2 y hy, hp2 y hy, hmine y hy]
          by_cases e : y = x
          · subst e
            rw [if_neg (by omega), if_pos rfl, if_pos (by omega), hfb]
          · rw [if_neg e, if_neg e]
            by_cases e2 : x ≤ y ∧ y < x + (m + 1)
            · rw [if_pos e2, if_pos (by omega)]
            · rw [if_neg e2, if_neg (by omega)]
      · rename_i hr
        rw [hr] at ih
        simp only at ih
        obtain ⟨n', f', g1, ⟨y, g2, g3, q, g4, g5⟩, g6⟩ := ih
        refine ⟨n', f', (hm1.trans g1).le fun y hy => ?_, ⟨y, by omega, by omega, q, g4, g5⟩, g6⟩
        rcases hy with (e | e) | ⟨e1, e2⟩
        · omega
        · exact e.elim
        · omega
end
end Go.Proofs.Ytgcoipcnhmkeaaa.Ax
end

/-! Files as blocks: a file is cut -/
section
set_option linter.unusedVariables false
set_option linter.unusedSimpArgs false
namespace Go.Proofs.Ytgcoipcnhmkeaaa.Ax

/-- What a piece of cutting leaves: these places are of no block any more. -/
structure Ctt (c : Cf) (i : Nat) (ns : Nds) (f : Dsk) (n' : Ino) (f' : Dsk) (K : Pos → Prop) : Prop where
  di : DI c (updI ns i n') f'
  same : Same (ns i) n'
  low : ∀ x, x < c.dt → x ≠ c.bm → f' x = f x
  offp : ∀ j, j < c.N → j ≠ i → ∀ q : Pos, q.ok → ptr c f' (ns j) q = ptr c f (ns j) q
  offc : ∀ j, j < c.N → j ≠ i → ∀ y, y < 4166 → flc c f' (ns j) y = flc c f (ns j) y
  gone : ∀ q : Pos, q.ok → K q → ptr c f' n' q = 0
  left : ∀ q : Pos, q.ok → ¬ K q → ptr c f' n' q = ptr c f (ns i) q
  mine : ∀ y, y < 4166 → ¬ K (leaf y) → flc c f' n' y = flc c f (ns i) y
section
variable {c : Cf} {ns : Nds} {f : Dsk}
theorem Ctt.refl {i : Nat} (h : DI c ns f) : Ctt c i ns f (ns i) f (fun _ => False) where
  di := by rw [updI_self]; exact h
  same := Same.refl _
  low := fun _ _ _ => rfl
  offp := fun _ _ _ _ _ => rfl
  offc := fun _ _ _ _ _ => rfl
  gone := fun _ _ h => h.elim
  left := fun _ _ _ => rfl
  mine := fun _ _ _ => rfl
theorem Ctt.trans {i : Nat} {n1 n2 : Ino} {f1 f2 : Dsk} {K1 K2 : Pos → Prop} (a : Ctt c i ns f n1 f1 K1) (b : Ctt c i (updI ns i n1) f1 n2 f2 K2) : Ctt c i ns f n2 f2 (fun q => K1 q ∨ K2 q) where
  di := by have := b.di; rw [updI_updI] at this; exact this
  same := a.same.trans (by have := b.same; rw [updI_at] at this; exact this)
  low := fun x h1 h2 => (b.low x h1 h2).trans (a.low x h1 h2)
  offp := fun j hj hne q hq => by
    have h1 := b.offp j hj hne q hq
    rw [updI_ne hne] at h1
    exact h1.trans (a.offp j hj hne q hq)
  offc := fun j hj hne q hq => by
    have h1 := b.offc j hj hne q hq
    rw [updI_ne hne] at h1
    exact h1.trans (a.offc j hj hne q hq)
  gone := fun q hq hk => by
    by_cases h2 : K2 q
    · exact b.gone q hq h2
    · have h3 := b.left q hq h2
      rw [updI_at] at h3
      rw [h3]
      exact a.gone q hq (hk.resolve_right h2)
  left := fun q hq hk => by
    have h3 := b.left q hq fun h => hk (.inr h)
    rw [updI_at] at h3
    rw [h3]
    exact a.left q hq fun h => hk (.inl h)
  mine := fun y hy hk => by
    have h3 := b.mine y hy fun h => hk (.inr h)
    rw [updI_at] at h3
    rw [h3]
    exact a.mine y hy fun h => hk (.inl h)
theorem Ctt.eqK {i : Nat} {n' : Ino} {f' : Dsk} {K K' : Pos → Prop} (m : Ctt c i ns f n' f' K) (h : ∀ q : Pos, q.ok → (K q ↔ K' q)) : Ctt c i ns f n' f' K' :=
  ⟨m.di, m.same, m.low, m.offp, m.offc, fun q hq hk => m.gone q hq ((h q hq).2 hk), fun q hq hk => m.left q hq fun e => hk ((h q hq).1 e), fun y hy hk => m.mine y hy fun e => hk ((h _ (leaf_ok hy)).1 e)⟩

theorem unlink_ctt (k : c.OK) (h : DI c ns f) {i : Nat} (hi : i < c.N) {p : Pos} (hp : p.ok) {x : Nat} (h0 : ptr c f (ns i) p = x) (hx : x ≠ 0) {n' : Ino} {f' : Dsk} {a : Nat}
    (hs : Same (ns i) n') (hino : InoOK n') (hP : ∀ q : Pos, q.ok → ptr c f' n' q = if q = p then 0 else ptr c f (ns i) q)
    (hf : ∀ y, y ≠ c.bm → y ≠ x → y ≠ a → f' y = f y) (hx0 : (f' x).length = 128) (hbm : f' c.bm = setL (f c.bm) x false)
    (ha : a = x ∨ (∃ q0 : Pos, q0.ok ∧ q0.inner ∧ ptr c f (ns i) q0 = a) ∧ a ≠ 0 ∧ a ≠ x ∧ (f' a).length = 128 ∧ ∀ k, k < 64 → vDat c (numR (f' a) k) = numR (f' a) k)
    (hr1 : ∀ a, a < 6 → vDat c (n'.dr.getD a 0) = n'.dr.getD a 0) (hr2 : vDat c n'.sg = n'.sg) (hr3 : vDat c n'.db = n'.db) : Ctt c i ns f n' f' (· = p) := by
  have hk := k.dt0
  have hrx := ptr_rng (by rw [h0]; exact hx)
  rw [h0] at hrx
  have hx1 : x < 1024 := by omega
  have hlb := h.len c.bm (by omega)
  have hbit : ∀ y, bit (f' c.bm) y = if y = x then false else bit (f c.bm) y := fun y => by rw [hbm]; exact setL_bit hlb hx1
  have hadt : c.dt ≤ a ∧ a < c.B := by
    rcases ha with rfl | ⟨⟨q0, _, _, e⟩, h1, _⟩
    · exact hrx
    · rw [← e]; exact ptr_rng (by rw [e]; exact h1)
  have hux : ∀ j, j < c.N → ∀ q : Pos, q.ok → ptr c f (ns j) q = x → j = i ∧ q = p := fun j hj q hq e => h.one hi hj hp hq (by rw [h0]; exact hx) (e.trans h0.symm)
  have hoth : ∀ j, j < c.N → ∀ q : Pos, q.ok → ptr c f (ns j) q ≠ 0 → ¬ (j = i ∧ q = p) → (j = i → ptr c f (ns j) q = a → a = x) → f' (ptr c f (ns j) q) = f (ptr c f (ns j) q) := by
    intro j hj q hq hne hjp hji
    have hqx : ptr c f (ns j) q ≠ x := fun e => hjp (hux j hj q hq e)
    refine hf _ (bm_dt k (ptr_rng hne).1) hqx fun e => ?_
    rcases ha with rfl | ⟨⟨q0, ho, hin, e0⟩, h1, h2, _⟩
    · exact hqx e
    · have := h.one hi hj ho hq (by rw [e0]; exact h1) (e.trans e0.symm)
      exact h2 (hji this.1 e)
  have hoff' : ∀ j, j < c.N → j ≠ i → ∀ q : Pos, q.ok → ptr c f (ns j) q ≠ 0 → f' (ptr c f (ns j) q) = f (ptr c f (ns j) q) := fun j hj hne q hq hq0 =>
    hoth j hj q hq hq0 (fun e => hne e.1) fun e => absurd e hne
  have hoff : ∀ j, j < c.N → j ≠ i → ∀ q : Pos, q.ok → ptr c f' (ns j) q = ptr c f (ns j) q := fun j hj hne =>
    ptr_frame fun q hq _ hq0 => hoff' j hj hne q hq hq0
  refine ⟨⟨fun y hy => ?_, fun j hj => ?_, ?_, fun j hj => ?_, fun y hy => ?_⟩, hs, fun y h1 h2 => hf y h2 (by omega) (by omega), hoff, fun j hj hne y hy => ?_, fun q hq e => by rw [hP q hq, if_pos e], fun q hq e => by rw [hP q hq, if_neg e], fun y hy e => ?_⟩
  · by_cases e1 : y = c.bm
    · rw [e1, hbm, setL_length]; exact hlb
    · by_cases e2 : y = x
      · rw [e2]; exact hx0
      · by_cases e3 : y = a
        · rcases ha with rfl | ⟨_, _, _, h2, _⟩
          · exact absurd e3 e2
          · rw [e3]; exact h2
        · rw [hf y e1 e2 e3]; exact h.len y hy
  · by_cases e : j = i
    · subst e; rw [updI_at]; exact hino
    · rw [updI_ne e]; exact h.ino j hj
  · refine h.pi.unlink hi hp h0 hx (fun j q hj hq => ?_) fun y _ => hbit y
    unfold setP
    by_cases e : j = i
    · subst e
      simp only [updI_at, true_and]
      exact hP q hq
    · rw [if_neg (fun hc => e hc.1)]
      simp only [updI_ne e]
      exact hoff j hj e q hq
  · by_cases e : j = i
    · subst e
      rw [updI_at]
      refine ⟨hr1, hr2, hr3, fun q hq hin hne m hm => ?_⟩
      rw [hP q hq] at hne ⊢
      by_cases e1 : q = p
      · rw [if_pos e1] at hne; exact absurd rfl hne
      · rw [if_neg e1] at hne ⊢
        by_cases e2 : ptr c f (ns j) q = a
        · rcases ha with rfl | ⟨_, _, _, _, h2⟩
          · exact absurd (hux j hj q hq e2).2 e1
          · rw [e2]; exact h2 m hm
        · rw [hoth j hj q hq hne (fun hc => e1 hc.2) fun _ e3 => absurd e3 e2]
          exact (h.raw j hj).nm q hq hin hne m hm
    · rw [updI_ne e]
      exact (h.raw j hj).frame fun q hq _ hne => hoff' j hj e q hq hne
  · rw [hbit, if_neg (by omega)]; exact h.low y hy
  · have e := hoff j hj hne (leaf y) (leaf_ok hy)
    by_cases h1 : ptr c f (ns j) (leaf y) = 0
    · rw [flc_none h1, flc_none (by rw [e]; exact h1)]
    · rw [flc_some h1, flc_some (by rw [e]; exact h1), e, hoff' j hj hne _ (leaf_ok hy) h1]
  · have e1 : ptr c f' n' (leaf y) = ptr c f (ns i) (leaf y) := by rw [hP _ (leaf_ok hy), if_neg e]
    by_cases h1 : ptr c f (ns i) (leaf y) = 0
    · rw [flc_none h1, flc_none (by rw [e1]; exact h1)]
    · rw [flc_some h1, flc_some (by rw [e1]; exact h1), e1]
      congr 1
      refine hoth i hi _ (leaf_ok hy) h1 (fun hc => e hc.2) fun _ e3 => ?_
      rcases ha with rfl | ⟨⟨q0, ho, hin, e0⟩, h2, _⟩
      · rfl
      · have := h.one hi hi ho (leaf_ok hy) (by rw [e0]; exact h2) (e3.trans e0.symm)
        rw [← this.2] at hin
        exact absurd hin (leaf_inner y)

/-- The bit of a block that is named goes; no number is another one. -/
theorem drop_frame (k : c.OK) {x : Nat} {n : Ino} : ∀ q : Pos, q.ok → ptr c (vDrop c f x) n q = ptr c f n q :=
  ptr_frame fun q _ _ h0 => upd_ne (bm_dt k (ptr_rng h0).1)
theorem leave_frame (k : c.OK) (h : DI c ns f) {i : Nat} (hi : i < c.N) {p : Pos} (hp : p.ok) {x : Nat} (h0 : ptr c f (ns i) p = x) (hx : x ≠ 0) {b : Bts} (hz : p.inner → ∀ m, m < 64 → vNamed c f x m = 0) {q : Pos} (hq : q.ok) (hqi : q.inner) (hqp : q ≠ p) (hq0 : ptr c f (ns i) q ≠ 0) :
    upd (vDrop c f x) x b (ptr c f (ns i) q) = f (ptr c f (ns i) q) := by
  have h1 : ptr c f (ns i) q ≠ x := fun e => hqp (h.one hi hi hp hq (by rw [h0]; exact hx) (e.trans h0.symm)).2
  rw [upd_ne h1]
  exact upd_ne (bm_dt k (ptr_rng hq0).1)

theorem forget_ctt (k : c.OK) (h : DI c ns f) {i : Nat} (hi : i < c.N) (hk : (ns i).kd ≠ 0) {x : Nat} (hx : x < 4166) : Ctt c i ns f (vForget c (ns i, f) x).1 (vForget c (ns i, f) x).2 (· = leaf x) := by
  have hkd := k.dt0
  have hin := h.ino i hi
  have hr := h.raw i hi
  unfold vForget
  simp only
  rw [look_ptr]
  by_cases h0 : ptr c f (ns i) (leaf x) = 0
  · rw [if_pos h0]
    have e := Ctt.refl (i := i) h
    exact ⟨e.di, e.same, e.low, e.offp, e.offc, fun q hq hqe => by rw [hqe]; exact h0, fun _ _ _ => rfl, fun _ _ _ => rfl⟩
  · rw [if_neg h0]
    have hrg := ptr_rng h0
    have hxl : (f (ptr c f (ns i) (leaf x))).length = 128 := h.len _ hrg.2
    have hdf := fun q (hq : Pos.ok q) => drop_frame (f := f) (n := ns i) (x := ptr c f (ns i) (leaf x)) k q hq
    by_cases h6 : x < 6
    · rw [if_pos h6]
      have hl := hin.len
      refine unlink_ctt k h hi (leaf_ok hx) rfl h0 (a := ptr c f (ns i) (leaf x)) ⟨rfl, rfl, rfl⟩ (hin.setD hk (by omega)) (fun q hq => ?_) (fun y e1 _ _ => upd_ne e1) ?_ (upd_at _ _ _) (.inl rfl) (fun e he => ?_) hr.s hr.b
      · rw [ptr_d (by omega) q, dat_zero, hdf q hq, leaf_1 h6]
      · dsimp only
        unfold vDrop; rw [upd_ne (bm_dt k hrg.1)]; exact hxl
      · simp only
        rw [getD_set (by omega)]
        split
        · exact dat_zero
        · exact hr.d e he
    · rw [if_neg h6]
      -- of a block of names
      have named : ∀ (q0 : Pos) (m : Nat), q0.ok → q0.inner → m < 64 → ptr c f (ns i) q0 ≠ 0 → ptr c f (ns i) q0 ≠ ptr c f (ns i) (leaf x) →
          (∀ q : Pos, q.ok → ptr c (vName (vDrop c f (ptr c f (ns i) (leaf x))) (ptr c f (ns i) q0) m 0) (ns i) q = if q = leaf x then vDat c 0 else ptr c (vDrop c f (ptr c f (ns i) (leaf x))) (ns i) q) →
          Ctt c i ns f (ns i) (vName (vDrop c f (ptr c f (ns i) (leaf x))) (ptr c f (ns i) q0) m 0) (· = leaf x) := by
        intro q0 m ho hqi hm hq0 hne hps
        have hr0 := ptr_rng hq0
        have hl0 : (f (ptr c f (ns i) q0)).length = 128 := h.len _ hr0.2
        have hdq : vDrop c f (ptr c f (ns i) (leaf x)) (ptr c f (ns i) q0) = f (ptr c f (ns i) q0) := upd_ne (bm_dt k hr0.1)
        refine unlink_ctt k h hi (leaf_ok hx) rfl h0 (a := ptr c f (ns i) q0) (Same.refl _) hin (fun q hq => ?_) (fun y e1 _ e3 => ?_) ?_ ?_ (.inr ⟨⟨q0, ho, hqi, rfl⟩, hq0, hne, ?_, fun j hj => ?_⟩) hr.d hr.s hr.b
        · rw [hps q hq, dat_zero, hdf q hq]
        · unfold vName
          rw [upd_ne e3]; exact upd_ne e1
        · unfold vName
          rw [upd_ne fun e => hne e.symm]
          unfold vDrop
          rw [upd_ne (bm_dt k hrg.1)]; exact hxl
        · unfold vName
          rw [upd_ne (fun e => bm_dt k hr0.1 e.symm)]
          exact upd_at _ _ _
        · unfold vName
          rw [upd_at, hdq]
          exact ren_len hl0 hm
        · unfold vName
          rw [upd_at, hdq, name_ren hl0 hm (by omega)]
          split
          · exact dat_zero
          · exact hr.nm q0 ho hqi hq0 j hj
      have hup := upto_on h0
      have hdl : ∀ q : Pos, q.ok → (f (ptr c f (ns i) q)).length = 128 → ptr c f (ns i) q ≠ 0 → (vDrop c f (ptr c f (ns i) (leaf x)) (ptr c f (ns i) q)).length = 128 := fun q _ hl hne => by
        unfold vDrop; rw [upd_ne (bm_dt k (ptr_rng hne).1)]; exact hl
      by_cases h70 : x < 70
      · rw [if_pos h70]
        have hlf := leaf_2 (by omega) h70
        have hs0 : ptr c f (ns i) .s ≠ 0 := hup .s (by simp [upto, h6, h70])
        refine named .s (x - 6) trivial trivial (by omega) hs0 (fun e => ?_) fun q hq => ?_
        · have := (h.one hi hi (leaf_ok hx) (q := .s) trivial h0 e).2
          rw [hlf] at this; cases this
        · have := ptr_sa (hdf .s trivial) hs0 (hdl .s trivial (h.len _ (ptr_rng hs0).2) hs0) (k := x - 6) (x := 0) (by omega) (by omega)
            (fun p hp hpi e => (h.one hi hi (p := .s) trivial hp hs0 (by rw [← hdf p hp]; exact e)).2) q hq
          rw [← hlf] at this
          exact this
      · rw [if_neg h70]
        have hlf := leaf_3 (x := x) (by omega)
        have hs0 : ptr c f (ns i) (.ba ((x - 70) / 64)) ≠ 0 := hup _ (by simp [upto, h6, h70])
        have hok : (Pos.ba ((x - 70) / 64)).ok := by show (x - 70) / 64 < 64; omega
        have hsame : vNamed c (vDrop c f (ptr c f (ns i) (leaf x))) (vDat c (ns i).db) ((x - 70) / 64) = ptr c f (ns i) (.ba ((x - 70) / 64)) := hdf (.ba ((x - 70) / 64)) hok
        rw [hsame]
        refine named (.ba ((x - 70) / 64)) ((x - 70) % 64) hok trivial (by omega) hs0 (fun e => ?_) fun q hq => ?_
        · have := (h.one hi hi (leaf_ok hx) hok h0 e).2
          rw [hlf] at this; cases this
        · have := ptr_bb (hdf _ hok) hs0 (hdl _ hok (h.len _ (ptr_rng hs0).2) hs0) (k := (x - 70) % 64) (x := 0) (by omega) (by omega)
            (fun p hp hpi e => (h.one hi hi hok hp hs0 (by rw [← hdf p hp]; exact e)).2) q hq
          rw [← hlf] at this
          exact this

theorem forgets_ctt (k : c.OK) {i : Nat} (hi : i < c.N) : ∀ (m x : Nat) (ns : Nds) (f : Dsk), DI c ns f → (ns i).kd ≠ 0 → x + m ≤ 4166 →
    Ctt c i ns f ((List.range' x m).foldl (vForget c) (ns i, f)).1 ((List.range' x m).foldl (vForget c) (ns i, f)).2 (fun q => ∃ y, x ≤ y ∧ y < x + m ∧ q = leaf y)
  | 0, x, ns, f, h, hk, hm => (Ctt.refl h).eqK fun q _ => ⟨fun e => e.elim, fun ⟨y, h1, h2, _⟩ => by omega⟩
  | m + 1, x, ns, f, h, hk, hm => by
    have h1 := forget_ctt k h hi hk (x := x) (by omega)
    rw [List.range'_succ, List.foldl_cons]
    generalize vForget c (ns i, f) x = s at h1
    obtain ⟨n1, f1⟩ := s
    have ih := forgets_ctt k hi m (x + 1) (updI ns i n1) f1 h1.di (by rw [updI_at, h1.same.1]; exact hk) (by omega)
    rw [updI_at] at ih
    refine (h1.trans ih).eqK fun q _ => ?_
    constructor
    · rintro (e | ⟨y, g1, g2, g3⟩)
      · exact ⟨x, by omega, by omega, e⟩
      · exact ⟨y, by omega, by omega, g3⟩
    · rintro ⟨y, g1, g2, g3⟩
      by_cases e : y = x
      · subst e; exact .inl g3
      · exact .inr ⟨y, by omega, by omega, g3⟩

theorem empty_iff {a : Nat} : vEmpty c f a = true ↔ ∀ m, m < 64 → vNamed c f a m = 0 := by
  simp [vEmpty, List.all_eq_true]

/-- A block of names that names none is let go. -/
theorem leave_s (k : c.OK) (h : DI c ns f) {i : Nat} (hi : i < c.N) (hk : (ns i).kd ≠ 0) {was : Dsk} (hw : ∀ x, x < c.B → (was x).length = 128) (h0 : ptr c f (ns i) .s ≠ 0) (he : ∀ m, m < 64 → ptr c f (ns i) (.sa m) = 0) :
    Ctt c i ns f { ns i with sg := 0 } (vLeave c was f (ptr c f (ns i) .s)) (· = .s) := by
  have hkd := k.dt0
  have hin := h.ino i hi
  have hr := h.raw i hi
  have hrg := ptr_rng h0
  have hfr : ∀ q : Pos, q.ok → q ≠ .s → ptr c (vLeave c was f (ptr c f (ns i) .s)) { ns i with sg := 0 } q = ptr c f (ns i) q := by
    intro q hq hqs
    have hb : ∀ p : Pos, p.ok → p.inner → p ≠ .s → ptr c f (ns i) p ≠ 0 → vLeave c was f (ptr c f (ns i) .s) (ptr c f (ns i) p) = f (ptr c f (ns i) p) := fun p hp hpi hps hp0 =>
      leave_frame k h hi (p := .s) trivial rfl h0 (fun _ m hm => he m hm) hp hpi hps hp0
    have nm : ∀ p : Pos, p.ok → p.inner → p ≠ .s → ∀ m, vNamed c (vLeave c was f (ptr c f (ns i) .s)) (ptr c f (ns i) p) m = vNamed c f (ptr c f (ns i) p) m := by
      intro p hp hpi hps m
      unfold vNamed
      split
      · rfl
      · rename_i hp0; rw [hb p hp hpi hps hp0]
    cases q with
    | d a => rfl
    | s => exact absurd rfl hqs
    | sa a => rw [he a hq]; simp only [ptr, dat_zero, named_zero]
    | b => rfl
    | ba a => exact nm .b trivial trivial (by simp) a
    | bb a e =>
      have h1 : vNamed c (vLeave c was f (ptr c f (ns i) .s)) (vDat c (ns i).db) a = vNamed c f (vDat c (ns i).db) a := nm .b trivial trivial (by simp) a
      simp only [ptr]
      rw [show vNamed c (vLeave c was f (vDat c (ns i).sg)) (vDat c (ns i).db) a = vNamed c f (vDat c (ns i).db) a from h1]
      exact nm (.ba a) hq.1 trivial (by simp) e
  refine unlink_ctt k h hi (p := .s) trivial rfl h0 (a := ptr c f (ns i) .s) ⟨rfl, rfl, rfl⟩ (hin.setS hk (by omega)) (fun q hq => ?_) (fun y e1 e2 _ => ?_) ?_ ?_ (.inl rfl) hr.d dat_zero hr.b
  · by_cases e : q = .s
    · subst e; rw [if_pos rfl]; exact dat_zero
    · rw [if_neg e, hfr q hq e]
  · unfold vLeave; rw [upd_ne e2]; exact upd_ne e1
  · unfold vLeave; rw [upd_at]; exact hw _ hrg.2
  · unfold vLeave; rw [upd_ne (fun e => bm_dt k hrg.1 e.symm)]; exact upd_at _ _ _
theorem leave_b (k : c.OK) (h : DI c ns f) {i : Nat} (hi : i < c.N) (hk : (ns i).kd ≠ 0) {was : Dsk} (hw : ∀ x, x < c.B → (was x).length = 128) (h0 : ptr c f (ns i) .b ≠ 0) (he : ∀ m, m < 64 → ptr c f (ns i) (.ba m) = 0) :
    Ctt c i ns f { ns i with db := 0 } (vLeave c was f (ptr c f (ns i) .b)) (· = .b) := by
  have hkd := k.dt0
  have hin := h.ino i hi
  have hr := h.raw i hi
  have hrg := ptr_rng h0
  have hfr : ∀ q : Pos, q.ok → q ≠ .b → ptr c (vLeave c was f (ptr c f (ns i) .b)) { ns i with db := 0 } q = ptr c f (ns i) q := by
    intro q hq hqs
    have nm : ∀ m, vNamed c (vLeave c was f (ptr c f (ns i) .b)) (ptr c f (ns i) .s) m = vNamed c f (ptr c f (ns i) .s) m := by
      intro m
      unfold vNamed
      split
      · rfl
      · rename_i hp0
        rw [show vLeave c was f (ptr c f (ns i) .b) (ptr c f (ns i) .s) = f (ptr c f (ns i) .s) from leave_frame k h hi (p := .b) trivial rfl h0 (fun _ m hm => he m hm) (q := .s) trivial trivial (by simp) hp0]
    cases q with
    | d a => rfl
    | s => rfl
    | sa a => exact nm a
    | b => exact absurd rfl hqs
    | ba a => rw [he a hq]; simp only [ptr, dat_zero, named_zero]
    | bb a e =>
      have h3 : vNamed c f (vDat c (ns i).db) a = 0 := he a hq.1
      simp only [ptr, dat_zero, named_zero, h3]
  refine unlink_ctt k h hi (p := .b) trivial rfl h0 (a := ptr c f (ns i) .b) ⟨rfl, rfl, rfl⟩ (hin.setB hk (by omega)) (fun q hq => ?_) (fun y e1 e2 _ => ?_) ?_ ?_ (.inl rfl) hr.d hr.s dat_zero
  · by_cases e : q = .b
    · subst e; rw [if_pos rfl]; exact dat_zero
    · rw [if_neg e, hfr q hq e]
  · unfold vLeave; rw [upd_ne e2]; exact upd_ne e1
  · unfold vLeave; rw [upd_at]; exact hw _ hrg.2
  · unfold vLeave; rw [upd_ne (fun e => bm_dt k hrg.1 e.symm)]; exact upd_at _ _ _
theorem leave_ba (k : c.OK) (h : DI c ns f) {i : Nat} (hi : i < c.N) {was : Dsk} (hw : ∀ x, x < c.B → (was x).length = 128) {m : Nat} (hm : m < 64) (h0 : ptr c f (ns i) (.ba m) ≠ 0) (he : ∀ e, e < 64 → ptr c f (ns i) (.bb m e) = 0) :
    Ctt c i ns f (ns i) (vName (vLeave c was f (ptr c f (ns i) (.ba m))) (ptr c f (ns i) .b) m 0) (· = .ba m) := by
  have hkd := k.dt0
  have hin := h.ino i hi
  have hr := h.raw i hi
  have hrg := ptr_rng h0
  have hb0 : ptr c f (ns i) .b ≠ 0 := fun e => h0 (by simp only [ptr] at e ⊢; rw [e, named_zero])
  have hrb := ptr_rng hb0
  have hbm : ptr c f (ns i) .b ≠ ptr c f (ns i) (.ba m) := fun e => by
    have := (h.one hi hi (p := .ba m) (q := .b) hm trivial h0 e).2
    cases this
  have hlv : ∀ q : Pos, q.ok → q.inner → q ≠ .ba m → ptr c f (ns i) q ≠ 0 → vLeave c was f (ptr c f (ns i) (.ba m)) (ptr c f (ns i) q) = f (ptr c f (ns i) q) := fun q hq hqi hqp hq0 =>
    leave_frame k h hi (p := .ba m) hm rfl h0 (fun _ e he' => he e he') hq hqi hqp hq0
  have hlb := hlv .b trivial trivial (by simp) hb0
  have hl0 : (f (ptr c f (ns i) .b)).length = 128 := h.len _ hrb.2
  have other : ∀ q : Pos, q.ok → q.inner → q ≠ .ba m → q ≠ .b → ∀ e, vNamed c (vName (vLeave c was f (ptr c f (ns i) (.ba m))) (ptr c f (ns i) .b) m 0) (ptr c f (ns i) q) e = vNamed c f (ptr c f (ns i) q) e := by
    intro q hq hqi hqm hqb e
    unfold vNamed
    split
    · rfl
    · rename_i hq0
      unfold vName
      rw [upd_ne (fun e2 => hqb (h.one hi hi (p := .b) trivial hq hb0 e2).2), hlv q hq hqi hqm hq0]
  have inb : ∀ e, vNamed c (vName (vLeave c was f (ptr c f (ns i) (.ba m))) (ptr c f (ns i) .b) m 0) (ptr c f (ns i) .b) e = if e = m then 0 else vNamed c f (ptr c f (ns i) .b) e := by
    intro e
    unfold vNamed
    rw [if_neg hb0, if_neg hb0]
    unfold vName
    rw [upd_at, hlb, name_ren hl0 hm (by omega)]
    split
    · exact dat_zero
    · rfl
  have hP : ∀ q : Pos, q.ok → ptr c (vName (vLeave c was f (ptr c f (ns i) (.ba m))) (ptr c f (ns i) .b) m 0) (ns i) q = if q = .ba m then 0 else ptr c f (ns i) q := by
    intro q hq
    cases q with
    | d a => rfl
    | s => rfl
    | sa a => exact other .s trivial trivial (by simp) (by simp) a
    | b => rfl
    | ba a =>
      have := inb a
      simp only [Pos.ba.injEq]
      exact this
    | bb a e =>
      have h1 := inb a
      rw [if_neg (by simp)]
      have h2 : ptr c (vName (vLeave c was f (ptr c f (ns i) (.ba m))) (ptr c f (ns i) .b) m 0) (ns i) (.bb a e) =
          vNamed c (vName (vLeave c was f (ptr c f (ns i) (.ba m))) (ptr c f (ns i) .b) m 0) (vNamed c (vName (vLeave c was f (ptr c f (ns i) (.ba m))) (ptr c f (ns i) .b) m 0) (ptr c f (ns i) .b) a) e := rfl
      rw [h2, h1]
      by_cases ea : a = m
      · subst ea
        rw [if_pos rfl, named_zero, he e hq.2]
      · rw [if_neg ea]
        exact other (.ba a) hq.1 trivial (by simp [ea]) (by simp) e
  refine unlink_ctt k h hi (p := .ba m) hm rfl h0 (a := ptr c f (ns i) .b) (Same.refl _) hin hP (fun y e1 e2 e3 => ?_) ?_ ?_ (.inr ⟨⟨.b, trivial, trivial, rfl⟩, hb0, hbm, ?_, fun j hj => ?_⟩) hr.d hr.s hr.b
  · unfold vName vLeave; rw [upd_ne e3, upd_ne e2]; exact upd_ne e1
  · unfold vName vLeave; rw [upd_ne fun e => hbm e.symm, upd_at]; exact hw _ hrg.2
  · unfold vName vLeave; rw [upd_ne (fun e => bm_dt k hrb.1 e.symm), upd_ne (fun e => bm_dt k hrg.1 e.symm)]; exact upd_at _ _ _
  · unfold vName; rw [upd_at, hlb]; exact ren_len hl0 hm
  · unfold vName; rw [upd_at, hlb, name_ren hl0 hm (by omega)]
    split
    · exact dat_zero
    · exact hr.nm .b trivial trivial hb0 j hj
end
end Go.Proofs.Ytgcoipcnhmkeaaa.Ax
end
