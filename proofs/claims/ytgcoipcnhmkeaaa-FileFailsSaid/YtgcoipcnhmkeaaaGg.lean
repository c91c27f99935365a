/- The texts DkA, DkB, DkC, DkD, DkE, DkF, DkG, as one. -/
import Init

/-! Files as blocks: bits, numbers and inodes as bytes, in plain words -/
section
set_option linter.unusedVariables false
set_option linter.unusedSimpArgs false
namespace Go.Proofs.Ytgcoipcnhmkeaaa.Ax

abbrev Bts := List UInt8
/-- A byte of a text; behind its end 0. -/
def Bts.at (b : Bts) (k : Nat) : Nat := (b.getD k 0).toNat

/-! ### bits -/
def bit (b : Bts) (i : Nat) : Bool := (b.at (i / 8)).testBit (i % 8)
def clrN (x j : Nat) : Nat := if x.testBit j then x - 2 ^ j else x
def setN (x j : Nat) : Nat := if x.testBit j then x else x + 2 ^ j
def putN (x j : Nat) (on : Bool) : Nat := if on then setN x j else clrN x j
def setL (b : Bts) (i : Nat) (on : Bool) : Bts := b.set (i / 8) (UInt8.ofNat (putN (b.at (i / 8)) (i % 8) on))

theorem put_lt : ∀ (x : Fin 256) (j : Fin 8) (on : Bool), putN x.val j.val on < 256 := by decide +kernel

theorem setL_length (b : Bts) (i : Nat) (on : Bool) : (setL b i on).length = b.length := by simp [setL]

/-- How many of so many bits are set. -/
def cntB (b : Bts) (x : Nat) : Nat → Nat
  | 0 => 0
  | k + 1 => cntB b x k + if bit b (x + k) then 1 else 0

/-- The leastB bit from x on, of so many, that is not set. -/
def leastB (b : Bts) (x : Nat) : Nat → Option Nat
  | 0 => none
  | k + 1 => if bit b x then leastB b (x + 1) k else some x
theorem leastB_some {b : Bts} {y : Nat} : ∀ {x k : Nat}, leastB b x k = some y → x ≤ y ∧ y < x + k ∧ bit b y = false
  | x, 0, h => by cases h
  | x, k + 1, h => by
    unfold leastB at h
    split at h
    · have := leastB_some h; exact ⟨by omega, by omega, this.2.2⟩
    · rename_i hb
      cases h
      exact ⟨Nat.le_refl _, by omega, by simpa using hb⟩

/-! ### numbers -/
def le (n : Nat) : Nat → Bts
  | 0 => []
  | k + 1 => UInt8.ofNat n :: le (n / 256) k
def ofLe : Bts → Nat
  | [] => 0
  | b :: l => b.toNat + 256 * ofLe l
theorem le_len (n : Nat) : ∀ k, (le n k).length = k := by
  intro k
  induction k generalizing n with
  | zero => rfl
  | succ k ih => simp [le, ih]
theorem ofLe_lt : ∀ (l : Bts), ofLe l < 256 ^ l.length
  | [] => by simp [ofLe]
  | b :: l => by
    have := ofLe_lt l
    have hb := b.toNat_lt
    simp only [ofLe, List.length_cons, Nat.pow_succ]
    omega

/-! ### inodes -/
structure Ino where
  kd : Nat
  ln : Nat
  sz : Nat
  dr : List Nat
  sg : Nat
  db : Nat
  deriving DecidableEq
def Ino.zero : Ino := ⟨0, 0, 0, [0, 0, 0, 0, 0, 0], 0, 0⟩
def inoOk (n : Ino) : Bool :=
  decide (n.dr.length = 6) && (decide (n.sz ≤ 533248) && decide (n.sg < 1024) && decide (n.db < 1024) && n.dr.all fun b => decide (b < 1024)) &&
    (if n.kd = 0 then decide (n = .zero) else if n.kd = 1 then decide (1 ≤ n.ln) && decide (n.ln ≤ 100) else if n.kd = 2 then decide (n.ln = 1) else false)
def encI (n : Ino) : Bts := le n.kd 1 ++ le n.ln 1 ++ le n.sz 4 ++ n.dr.flatMap (le · 2) ++ le n.sg 2 ++ le n.db 2 ++ List.replicate 10 0
def numAt (s : Bts) (o k : Nat) : Nat := ofLe ((s.drop o).take k)
def rawI (s : Bts) : Ino := ⟨numAt s 0 1, numAt s 1 1, numAt s 2 4, [numAt s 6 2, numAt s 8 2, numAt s 10 2, numAt s 12 2, numAt s 14 2, numAt s 16 2], numAt s 18 2, numAt s 20 2⟩
def decI (s : Bts) : Option Ino := if inoOk (rawI s) = true ∧ encI (rawI s) = s then some (rawI s) else none

structure InoOK (n : Ino) : Prop where
  dr : ∃ a b c d e f, n.dr = [a, b, c, d, e, f] ∧ a < 1024 ∧ b < 1024 ∧ c < 1024 ∧ d < 1024 ∧ e < 1024 ∧ f < 1024
  sz : n.sz ≤ 533248
  sg : n.sg < 1024
  db : n.db < 1024
  kd : n.kd = 0 ∧ n = .zero ∨ n.kd = 1 ∧ 1 ≤ n.ln ∧ n.ln ≤ 100 ∨ n.kd = 2 ∧ n.ln = 1
theorem six {α : Type} {l : List α} (h : l.length = 6) : ∃ a b c d e f, l = [a, b, c, d, e, f] := by
  match l, h with
  | [a, b, c, d, e, f], _ => exact ⟨a, b, c, d, e, f, rfl⟩
theorem inoOk_iff {n : Ino} : inoOk n = true ↔ InoOK n := by
  constructor
  · intro h
    simp only [inoOk, Bool.and_eq_true, decide_eq_true_eq, List.all_eq_true] at h
    obtain ⟨⟨h1, ⟨⟨h2, h3⟩, h4⟩, h5⟩, h6⟩ := h
    obtain ⟨a, b, c, d, e, f, hd⟩ := six h1
    refine ⟨⟨a, b, c, d, e, f, hd, ?_⟩, h2, h3, h4, ?_⟩
    · rw [hd] at h5
      exact ⟨h5 _ (by simp), h5 _ (by simp), h5 _ (by simp), h5 _ (by simp), h5 _ (by simp), h5 _ (by simp)⟩
    · split at h6
      · rename_i hk; exact .inl ⟨hk, by simpa using h6⟩
      · split at h6
        · rename_i hk; simp only [Bool.and_eq_true, decide_eq_true_eq] at h6; exact .inr (.inl ⟨hk, h6⟩)
        · split at h6
          · rename_i hk; exact .inr (.inr ⟨hk, by simpa using h6⟩)
          · cases h6
  · intro h
    obtain ⟨⟨a, b, c, d, e, f, hd, h1, h2, h3, h4, h5, h6⟩, hs, hg, hb, hk⟩ := h
    simp only [inoOk, Bool.and_eq_true, decide_eq_true_eq, List.all_eq_true]
    refine ⟨⟨by rw [hd]; rfl, ⟨⟨hs, hg⟩, hb⟩, ?_⟩, ?_⟩
    · rw [hd]; simp; omega
    · rcases hk with ⟨k, e⟩ | ⟨k, e⟩ | ⟨k, e⟩
      · rw [if_pos k]; simpa using e
      · rw [if_neg (by omega), if_pos k]; simpa using e
      · rw [if_neg (by omega), if_neg (by omega), if_pos k]; simpa using e
theorem enc_len {n : Ino} (h : n.dr.length = 6) : (encI n).length = 32 := by
  obtain ⟨a, b, c, d, e, f, hd⟩ := six h
  simp [encI, le_len, hd]
theorem dec_some {s : Bts} {n : Ino} (h : decI s = some n) : InoOK n ∧ encI n = s := by
  unfold decI at h
  split at h
  · rename_i hc
    cases h
    exact ⟨inoOk_iff.1 hc.1, hc.2⟩
  · cases h
theorem InoOK.len {n : Ino} (h : InoOK n) : n.dr.length = 6 := by
  obtain ⟨a, b, c, d, e, f, hd, _⟩ := h.dr
  rw [hd]; rfl
theorem InoOK.lt {n : Ino} (h : InoOK n) (a : Nat) : n.dr.getD a 0 < 1024 := by
  obtain ⟨x, b, c, d, e, f, hd, _⟩ := h.dr
  rw [hd]
  match a with
  | 0 => simp; omega
  | 1 => simp; omega
  | 2 => simp; omega
  | 3 => simp; omega
  | 4 => simp; omega
  | 5 => simp; omega
  | a + 6 => simp

/-- An inode of a table's block. -/
def getI (b : Bts) (k : Nat) : Option Ino := decI ((b.drop (32 * k)).take 32)
def putI (b : Bts) (k : Nat) (n : Ino) : Bts := b.take (32 * k) ++ encI n ++ b.drop (32 * (k + 1))
theorem putI_len {b : Bts} {k : Nat} {n : Ino} (hb : b.length = 128) (hk : k < 4) (hn : n.dr.length = 6) : (putI b k n).length = 128 := by
  simp [putI, enc_len hn, hb]; omega

/-! ### blocks of names -/
def numR (b : Bts) (k : Nat) : Nat := b.at (2 * k) + 256 * b.at (2 * k + 1)
def renR (b : Bts) (k to : Nat) : Bts := b.take (2 * k) ++ [UInt8.ofNat to, UInt8.ofNat (to / 256)] ++ b.drop (2 * k + 2)
theorem ren_len {b : Bts} {k to : Nat} (hb : b.length = 128) (hk : k < 64) : (renR b k to).length = 128 := by
  simp [renR, hb]; omega
def zeros (n : Nat) : Bts := List.replicate n 0
end Go.Proofs.Ytgcoipcnhmkeaaa.Ax
end

/-! Files as blocks: what the view's functions answer, in plain words -/
section
set_option linter.unusedVariables false
set_option linter.unusedSimpArgs false
namespace Go.Proofs.Ytgcoipcnhmkeaaa.Ax

structure Cf where
  B : Nat
  J : Nat
  N : Nat
def Cf.bm (c : Cf) : Nat := 1 + c.J
def Cf.tb (c : Cf) : Nat := 2 + c.J
def Cf.dt (c : Cf) : Nat := 2 + c.J + (c.N + 3) / 4
structure Cf.OK (c : Cf) : Prop where
  b1 : 16 ≤ c.B
  b2 : c.B ≤ 1024
  j1 : 8 ≤ c.J
  j2 : c.J ≤ 256
  n1 : 1 ≤ c.N
  n2 : c.N ≤ 64
  d : c.dt + 4 ≤ c.B

/-- What each block holds. -/
abbrev Dsk := Nat → Bts
def upd (f : Dsk) (a : Nat) (b : Bts) : Dsk := fun x => if x = a then b else f x

def vDat (c : Cf) (n : Nat) : Nat := if n < c.dt ∨ c.B ≤ n then 0 else n
def vNamed (c : Cf) (f : Dsk) (at_ k : Nat) : Nat := if at_ = 0 then 0 else vDat c (numR (f at_) k)
def vLook (c : Cf) (f : Dsk) (n : Ino) (x : Nat) : Nat :=
  if x < 6 then vDat c (n.dr.getD x 0)
  else if x < 70 then vNamed c f (vDat c n.sg) (x - 6)
  else vNamed c f (vNamed c f (vDat c n.db) ((x - 70) / 64)) ((x - 70) % 64)
def vMake (c : Cf) (f : Dsk) : Nat × Dsk :=
  match leastB (f c.bm) c.dt (c.B - c.dt) with
  | none => (0, f)
  | some a => (a, upd (upd f c.bm (setL (f c.bm) a true)) a (zeros 128))
def vDrop (c : Cf) (f : Dsk) (a : Nat) : Dsk := upd f c.bm (setL (f c.bm) a false)
def vName (f : Dsk) (at_ k to : Nat) : Dsk := upd f at_ (renR (f at_) k to)
def vEns (c : Cf) (f : Dsk) (p : Nat) : Nat × Dsk := if vDat c p = 0 then vMake c f else (vDat c p, f)
def vBelow (c : Cf) (f : Dsk) (at_ k : Nat) : Nat × Dsk :=
  if vNamed c f at_ k = 0 then (if (vMake c f).1 = 0 then (0, (vMake c f).2) else ((vMake c f).1, vName (vMake c f).2 at_ k (vMake c f).1)) else (vNamed c f at_ k, f)
def vGrow (c : Cf) (f : Dsk) (n : Ino) (x : Nat) : Nat × Ino × Dsk :=
  if x < 6 then ((vEns c f (n.dr.getD x 0)).1, { n with dr := n.dr.set x (vEns c f (n.dr.getD x 0)).1 }, (vEns c f (n.dr.getD x 0)).2)
  else if x < 70 then
    if (vEns c f n.sg).1 = 0 then (0, { n with sg := 0 }, (vEns c f n.sg).2)
    else ((vBelow c (vEns c f n.sg).2 (vEns c f n.sg).1 (x - 6)).1, { n with sg := (vEns c f n.sg).1 }, (vBelow c (vEns c f n.sg).2 (vEns c f n.sg).1 (x - 6)).2)
  else
    if (vEns c f n.db).1 = 0 then (0, { n with db := 0 }, (vEns c f n.db).2)
    else
      let q := vBelow c (vEns c f n.db).2 (vEns c f n.db).1 ((x - 70) / 64)
      if q.1 = 0 then (0, { n with db := (vEns c f n.db).1 }, q.2)
      else ((vBelow c q.2 q.1 ((x - 70) % 64)).1, { n with db := (vEns c f n.db).1 }, (vBelow c q.2 q.1 ((x - 70) % 64)).2)

/-- A block with what is written of it. -/
def splice (old : Bts) (k at_ : Nat) (data : Bts) : Bts :=
  old.take (max at_ (k * 128) - k * 128) ++ (data.drop (max at_ (k * 128) - at_)).take (min (at_ + data.length) ((k + 1) * 128) - max at_ (k * 128)) ++ old.drop (min (at_ + data.length) ((k + 1) * 128) - k * 128)
def vWr (c : Cf) (at_ : Nat) (data : Bts) : Nat → Nat → Ino → Dsk → Option (Ino × Dsk)
  | 0, _, n, f => some (n, f)
  | m + 1, k, n, f =>
    if (vGrow c f n k).1 = 0 then none
    else vWr c at_ data m (k + 1) (vGrow c f n k).2.1 (upd (vGrow c f n k).2.2 (vGrow c f n k).1 (splice ((vGrow c f n k).2.2 (vGrow c f n k).1) k at_ data))

def vIno (c : Cf) (f : Dsk) (i : Int) : Nat × Ino :=
  if i < 0 ∨ (c.N : Int) ≤ i then (6, .zero) else
  match getI (f (c.tb + i.toNat / 4)) (i.toNat % 4) with
  | none => (120, .zero)
  | some n => (0, n)
def vOpen (c : Cf) (f : Dsk) (i : Int) : Nat × Ino := if (vIno c f i).1 = 0 ∧ (vIno c f i).2.kd = 0 then (7, (vIno c f i).2) else vIno c f i
def vSetN (c : Cf) (f : Dsk) (i : Int) (n : Ino) : Nat × Dsk :=
  if i < 0 ∨ (c.N : Int) ≤ i then (6, f)
  else if inoOk n = true then (0, upd f (c.tb + i.toNat / 4) (putI (f (c.tb + i.toNat / 4)) (i.toNat % 4) n))
  else (120, f)
def wrCount (at_ len : Nat) : Nat := (at_ + len + 127) / 128 - at_ / 128
def vWrite (c : Cf) (f : Dsk) (i at_ : Int) (data : Bts) : Nat × Dsk :=
  if (vOpen c f i).1 ≠ 0 then ((vOpen c f i).1, f)
  else if at_ < 0 ∨ 1024 < data.length then (1, f)
  else if data = [] then (0, f)
  else if 533248 < at_ + data.length then (307, f)
  else match vWr c at_.toNat data (wrCount at_.toNat data.length) (at_.toNat / 128) (vOpen c f i).2 f with
    | none => (306, f)
    | some r => vSetN c r.2 i { r.1 with sz := max r.1.sz (at_.toNat + data.length) }


def vEmpty (c : Cf) (f : Dsk) (at_ : Nat) : Bool := (List.range 64).all fun k => decide (vNamed c f at_ k = 0)
def vForget (c : Cf) (s : Ino × Dsk) (x : Nat) : Ino × Dsk :=
  if vLook c s.2 s.1 x = 0 then s
  else if x < 6 then ({ s.1 with dr := s.1.dr.set x 0 }, vDrop c s.2 (vLook c s.2 s.1 x))
  else if x < 70 then (s.1, vName (vDrop c s.2 (vLook c s.2 s.1 x)) (vDat c s.1.sg) (x - 6) 0)
  else (s.1, vName (vDrop c s.2 (vLook c s.2 s.1 x)) (vNamed c (vDrop c s.2 (vLook c s.2 s.1 x)) (vDat c s.1.db) ((x - 70) / 64)) ((x - 70) % 64) 0)
def vLeave (c : Cf) (was f : Dsk) (a : Nat) : Dsk := upd (vDrop c f a) a (was a)
def vShedK (c : Cf) (was : Dsk) (d : Nat) (f : Dsk) (k : Nat) : Dsk :=
  if vNamed c f d k ≠ 0 ∧ vEmpty c f (vNamed c f d k) = true then vName (vLeave c was f (vNamed c f d k)) d k 0 else f
def vShedD (c : Cf) (was : Dsk) (d : Nat) (f : Dsk) : Dsk := if d = 0 then f else (List.range 64).foldl (vShedK c was d) f
/-- Of the block that a number names: whether it is let go, and the blocks. -/
def vShedP (c : Cf) (was : Dsk) (p : Nat) (f : Dsk) : Nat × Dsk := if vDat c p ≠ 0 ∧ vEmpty c f (vDat c p) = true then (0, vLeave c was f (vDat c p)) else (p, f)
def vShed (c : Cf) (was : Dsk) (s : Ino × Dsk) : Ino × Dsk :=
  let f1 := vShedD c was (vDat c s.1.db) s.2
  let a := vShedP c was s.1.sg f1
  let b := vShedP c was s.1.db a.2
  ({ s.1 with sg := a.1, db := b.1 }, b.2)
/-- The rest of a block behind a file's end is 0. -/
def vTail (c : Cf) (s : Ino × Dsk) (size : Nat) : Dsk :=
  if size % 128 ≠ 0 ∧ vLook c s.2 s.1 (size / 128) ≠ 0 then upd s.2 (vLook c s.2 s.1 (size / 128)) ((s.2 (vLook c s.2 s.1 (size / 128))).take (size % 128) ++ zeros (128 - size % 128)) else s.2
def vCutN (c : Cf) (f : Dsk) (n : Ino) (size : Nat) : Ino × Dsk :=
  let s := vShed c f ((List.range' ((size + 127) / 128) (4166 - (size + 127) / 128)).foldl (vForget c) (n, f))
  ({ s.1 with sz := size }, vTail c s size)
def vCut (c : Cf) (f : Dsk) (i size : Int) : Nat × Dsk :=
  if (vOpen c f i).1 ≠ 0 then ((vOpen c f i).1, f)
  else if size < 0 ∨ 533248 < size then (1, f)
  else vSetN c (vCutN c f (vOpen c f i).2 size.toNat).2 i (vCutN c f (vOpen c f i).2 size.toNat).1
def vChanges (c : Cf) (base f : Dsk) : List (Nat × Bts) := (List.range c.B).filterMap fun x => if f x = base x then none else some (x, f x)
end Go.Proofs.Ytgcoipcnhmkeaaa.Ax
end

/-! Files as blocks: where a file's blocks are named; what each number says -/
section
set_option linter.unusedVariables false
set_option linter.unusedSimpArgs false
namespace Go.Proofs.Ytgcoipcnhmkeaaa.Ax

inductive Pos where
  | d (a : Nat)
  | s
  | sa (a : Nat)
  | b
  | ba (a : Nat)
  | bb (a e : Nat)
  deriving DecidableEq
def Pos.ok : Pos → Prop
  | .d a => a < 6
  | .s => True
  | .sa a => a < 64
  | .b => True
  | .ba a => a < 64
  | .bb a e => a < 64 ∧ e < 64
def leaf (x : Nat) : Pos := if x < 6 then .d x else if x < 70 then .sa (x - 6) else .bb ((x - 70) / 64) ((x - 70) % 64)
def ptr (c : Cf) (f : Dsk) (n : Ino) : Pos → Nat
  | .d a => vDat c (n.dr.getD a 0)
  | .s => vDat c n.sg
  | .sa a => vNamed c f (vDat c n.sg) a
  | .b => vDat c n.db
  | .ba a => vNamed c f (vDat c n.db) a
  | .bb a e => vNamed c f (vNamed c f (vDat c n.db) a) e
theorem look_ptr (c : Cf) (f : Dsk) (n : Ino) (x : Nat) : vLook c f n x = ptr c f n (leaf x) := by
  unfold vLook leaf
  split
  · rfl
  · split <;> rfl

theorem dat_rng {c : Cf} {n : Nat} (h : vDat c n ≠ 0) : c.dt ≤ vDat c n ∧ vDat c n < c.B := by
  unfold vDat at h ⊢
  split
  · rename_i hc; rw [if_pos hc] at h; exact absurd rfl h
  · omega
theorem dat_of {c : Cf} {n : Nat} (h1 : c.dt ≤ n) (h2 : n < c.B) : vDat c n = n := by
  unfold vDat; rw [if_neg (by omega)]
theorem dat_zero {c : Cf} : vDat c 0 = 0 := by unfold vDat; split <;> rfl
theorem dat_dat {c : Cf} {n : Nat} : vDat c (vDat c n) = vDat c n := by
  by_cases h : vDat c n = 0
  · rw [h, dat_zero]
  · exact dat_of (dat_rng h).1 (dat_rng h).2
theorem named_dat {c : Cf} {f : Dsk} {a k : Nat} : vDat c (vNamed c f a k) = vNamed c f a k := by
  unfold vNamed
  split
  · exact dat_zero
  · exact dat_dat
theorem ptr_dat {c : Cf} {f : Dsk} {n : Ino} (q : Pos) : vDat c (ptr c f n q) = ptr c f n q := by
  cases q <;> simp only [ptr]
  · exact dat_dat
  · exact dat_dat
  · exact named_dat
  · exact dat_dat
  · exact named_dat
  · exact named_dat


end Go.Proofs.Ytgcoipcnhmkeaaa.Ax
end

/-! Files as blocks: no block is of two places, and what is taken is what is named -/
section
set_option linter.unusedVariables false
set_option linter.unusedSimpArgs false
namespace Go.Proofs.Ytgcoipcnhmkeaaa.Ax

theorem Cf.OK.dt0 {c : Cf} (k : c.OK) : 0 < c.dt ∧ c.bm < c.tb ∧ c.tb < c.dt ∧ c.bm < c.dt ∧ c.dt < c.B ∧ c.B ≤ 1024 := by
  have := k.n1; have := k.d; have := k.b2
  unfold Cf.bm Cf.tb Cf.dt at *
  omega
theorem Cf.OK.tbl {c : Cf} (k : c.OK) {i : Nat} (h : i < c.N) : c.tb + i / 4 < c.dt := by
  have := k.n1; have := k.d
  unfold Cf.tb Cf.dt at *
  omega




abbrev Nds := Nat → Ino




section
variable {c : Cf} {ns : Nds} {f : Dsk}


theorem vMake_some {f : Dsk} (h : (vMake c f).1 ≠ 0) : ∃ x, c.dt ≤ x ∧ x < c.B ∧ bit (f c.bm) x = false ∧ vMake c f = (x, upd (upd f c.bm (setL (f c.bm) x true)) x (zeros 128)) := by
  unfold vMake at h ⊢
  cases hl : leastB (f c.bm) c.dt (c.B - c.dt) with
  | none => rw [hl] at h; exact absurd rfl h
  | some a =>
    obtain ⟨h1, h2, h3⟩ := leastB_some hl
    exact ⟨a, h1, by omega, h3, rfl⟩

end
end Go.Proofs.Ytgcoipcnhmkeaaa.Ax
end

/-! Files as blocks: a block is made for an index -/
section
set_option linter.unusedVariables false
set_option linter.unusedSimpArgs false
namespace Go.Proofs.Ytgcoipcnhmkeaaa.Ax

section
variable {c : Cf} {ns : Nds} {f : Dsk}





theorem InoOK.setD {n : Ino} (h : InoOK n) (hk : n.kd ≠ 0) {a x : Nat} (hx : x < 1024) : InoOK { n with dr := n.dr.set a x } := by
  obtain ⟨⟨x0, x1, x2, x3, x4, x5, hd, h1, h2, h3, h4, h5, h6⟩, hs, hg, hb, hkk⟩ := h
  refine ⟨?_, hs, hg, hb, ?_⟩
  · simp only [hd]
    match a with
    | 0 => exact ⟨x, x1, x2, x3, x4, x5, rfl, hx, h2, h3, h4, h5, h6⟩
    | 1 => exact ⟨x0, x, x2, x3, x4, x5, rfl, h1, hx, h3, h4, h5, h6⟩
    | 2 => exact ⟨x0, x1, x, x3, x4, x5, rfl, h1, h2, hx, h4, h5, h6⟩
    | 3 => exact ⟨x0, x1, x2, x, x4, x5, rfl, h1, h2, h3, hx, h5, h6⟩
    | 4 => exact ⟨x0, x1, x2, x3, x, x5, rfl, h1, h2, h3, h4, hx, h6⟩
    | 5 => exact ⟨x0, x1, x2, x3, x4, x, rfl, h1, h2, h3, h4, h5, hx⟩
    | a + 6 => exact ⟨x0, x1, x2, x3, x4, x5, rfl, h1, h2, h3, h4, h5, h6⟩
  · rcases hkk with hc | hc
    · exact absurd hc.1 hk
    · exact .inr hc
theorem InoOK.setS {n : Ino} (h : InoOK n) (hk : n.kd ≠ 0) {x : Nat} (hx : x < 1024) : InoOK { n with sg := x } := by
  refine ⟨h.dr, h.sz, hx, h.db, ?_⟩
  rcases h.kd with hc | hc
  · exact absurd hc.1 hk
  · exact .inr hc
theorem InoOK.setB {n : Ino} (h : InoOK n) (hk : n.kd ≠ 0) {x : Nat} (hx : x < 1024) : InoOK { n with db := x } := by
  refine ⟨h.dr, h.sz, h.sg, hx, ?_⟩
  rcases h.kd with hc | hc
  · exact absurd hc.1 hk
  · exact .inr hc
theorem InoOK.setZ {n : Ino} (h : InoOK n) (hk : n.kd ≠ 0) {x : Nat} (hx : x ≤ 533248) : InoOK { n with sz := x } := by
  refine ⟨h.dr, hx, h.sg, h.db, ?_⟩
  rcases h.kd with hc | hc
  · exact absurd hc.1 hk
  · exact .inr hc






end
end Go.Proofs.Ytgcoipcnhmkeaaa.Ax
end

/-! Files as blocks: what a file holds; bytes are written -/
section
set_option linter.unusedVariables false
set_option linter.unusedSimpArgs false
namespace Go.Proofs.Ytgcoipcnhmkeaaa.Ax

/-- What an index's block holds; nothing: there is none. -/
def flc (c : Cf) (f : Dsk) (n : Ino) (x : Nat) : Option Bts := if vLook c f n x = 0 then none else some (f (vLook c f n x))

section
variable {c : Cf} {ns : Nds} {f : Dsk}


theorem splice_len {old data : Bts} {k at_ : Nat} (h : old.length = 128) (h1 : at_ < (k + 1) * 128) (h2 : k * 128 < at_ + data.length) : (splice old k at_ data).length = 128 := by
  simp only [splice, List.length_append, List.length_take, List.length_drop, h]
  omega

end
end Go.Proofs.Ytgcoipcnhmkeaaa.Ax
end

/-! Files as blocks: a file is cut -/
section
set_option linter.unusedVariables false
set_option linter.unusedSimpArgs false
namespace Go.Proofs.Ytgcoipcnhmkeaaa.Ax

section
variable {c : Cf} {ns : Nds} {f : Dsk}





theorem empty_iff {a : Nat} : vEmpty c f a = true ↔ ∀ m, m < 64 → vNamed c f a m = 0 := by
  simp [vEmpty, List.all_eq_true]

end
end Go.Proofs.Ytgcoipcnhmkeaaa.Ax
end
