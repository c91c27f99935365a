/- The texts DwS, DwT, DwU, DwV, DwX, as one. -/
import Derived.Test.YtgcoipcnhmkeaaaGia
import Derived.Test.YtgcoipcnhmkeaaaGf
import Derived.Test.YtgcoipcnhmkeaaaGe
import Derived.KernelRfl

/-! A shape, walked -/
section
set_option linter.unusedVariables false
set_option linter.unusedSimpArgs false
namespace Go.Proofs.Ytgcoipcnhmkeaaa.Ax
open Go.RowKit

def inB (x lo hi : Int) : Bool := decide (lo ≤ x) && decide (x ≤ hi)

set_option maxHeartbeats 4000000 in
theorem in_ret (W : World) (h : AH) (x lo hi : Int) : RetH (CC W) 64 [.int .i64 x, .int .i64 lo, .int .i64 hi] h (.bool (inB x lo hi)) := by
  refine jj9 (cc_ok W) (fn64 W) (by simp only [Try.f64]; rfl) rfl rfl ?_
  by_cases h1 : lo ≤ x
  · by_cases h2 : x ≤ hi
    · simp [push_cast, h1, h2, inB]
    · simp [push_cast, h1, h2, inB]
  · simp [push_cast, h1, inB]

/-- How many data blocks a shape has; none: it is no shape. -/
def dataR (b j n : Int) : Int := 2 + j + (n + 3) / 4
def shapeR (b j n : Int) : Option Int :=
  if inB b 16 1024 = true ∧ inB j 8 256 = true ∧ inB n 1 64 = true then if b - dataR b j n < 4 then none else some (b - dataR b j n) else none
def regV (j d c : Int) : AV := .agg [.int .i64 1, .int .i64 (1 + j), .int .i64 (2 + j), .int .i64 d, .int .i64 c]
def reg0 : List AV := [.int .i64 0, .int .i64 0, .int .i64 0, .int .i64 0, .int .i64 0]

section
variable {W : World} {h : AH} {k : Nat} {a b c d e : AV} {t : TypeId} {n : Int}
theorem box_shape {l : List AV} : aBox h 23 (.agg l) = some (.ptr (some (.new h.next 0)), h.push (.cells l 23)) := rfl
theorem alloc_reg : aAlloc (CC W) h 77 = some (.ptr (some (.new h.next 0)), h.push (.cells reg0 77)) := rfl
theorem build_reg0 : aBuild (CC W) 77 [] = some (.agg reg0) := rfl
theorem build_reg {x y z : Int} : aBuild (CC W) 77 [(0, .int .i64 x), (1, .int .i64 y), (2, .int .i64 z)] = some (.agg [.int .i64 x, .int .i64 y, .int .i64 z, .int .i64 0, .int .i64 0]) := rfl
theorem st_reg {x y z u v : Int} (hg : h.get k = some (.cells [a, b, c, d, e] t)) : aStoreOp (CC W) h 77 (.ptr (some (.new k 0))) (.agg [.int .i64 x, .int .i64 y, .int .i64 z, .int .i64 u, .int .i64 v]) = some (h.set k (.cells [.int .i64 x, .int .i64 y, .int .i64 z, .int .i64 u, .int .i64 v] t)) := by
  simp only [aStoreOp, aCellsOf, size77, aStore, hg]
  rfl
theorem st_reg3 (hg : h.get k = some (.cells [a, b, c, d, e] t)) : aStoreOp (CC W) h 3 (.ptr (some (.new k 3))) (.int .i64 n) = some (h.set k (.cells [a, b, c, .int .i64 n, e] t)) := by
  simp only [aStoreOp, aCellsOf, size3, aStore, hg]
  rfl
theorem st_reg4 (hg : h.get k = some (.cells [a, b, c, d, e] t)) : aStoreOp (CC W) h 3 (.ptr (some (.new k 4))) (.int .i64 n) = some (h.set k (.cells [a, b, c, d, .int .i64 n] t)) := by
  simp only [aStoreOp, aCellsOf, size3, aStore, hg]
  rfl
theorem ld_reg {h : AH} {k : Nat} {a b c d e : AV} {t : TypeId} (hg : h.get k = some (.cells [a, b, c, d, e] t)) : aLoad (CC W) h 77 (.new k 0) = some (.agg [a, b, c, d, e]) := by
  unfold aLoad
  rw [ty77]
  show (aCells (CC W) h (.new k 0) 5).map AV.agg = _
  simp [aCells, hg]
theorem ld_regS : aLoad (CC W) (h.set k (.cells [a, b, c, d, e] t)) 77 (.new k 0) = some (.agg [a, b, c, d, e]) := ld_reg (t := t) (by simp)
theorem ld_shape (hg : h.get k = some (.cells [a, b, c] t)) : aLoad (CC W) h 23 (.new k 0) = some (.agg [a, b, c]) := by
  unfold aLoad
  rw [ty23]
  show (aCells (CC W) h (.new k 0) 3).map AV.agg = _
  simp [aCells, hg]
end

def ofV' (b j n : Int) : AV := match shapeR b j n with
  | some c => .tup [regV j (dataR b j n) c, .int .i64 0]
  | none => .tup [.agg reg0, .int .i64 60]

set_option maxRecDepth 100000 in
set_option maxHeartbeats 8000000 in
theorem of_ret (W : World) (h : AH) (b j n : Int) : RetVk (CC W) 34 [.agg [.int .i64 b, .int .i64 j, .int .i64 n]] h (ofV' b j n) := by
  refine jj9 (cc_ok W) (fn34 W) (by simp only [Try.f34]; rfl) rfl rfl ?_
  have hbx := box_shape (h := h) (l := [.int .i64 b, .int .i64 j, .int .i64 n])
  have hal := alloc_reg (W := W) (h := h.push (.cells [.int .i64 b, .int .i64 j, .int .i64 n] 23))
  have hk2 : Keeps h ((h.push (.cells [.int .i64 b, .int .i64 j, .int .i64 n] 23)).push (.cells reg0 77)) := (Keeps.push _ _).trans (Keeps.push _ _)
  have hgb : ((h.push (.cells [.int .i64 b, .int .i64 j, .int .i64 n] 23)).push (.cells reg0 77)).get h.next = some (.cells [.int .i64 b, .int .i64 j, .int .i64 n] 23) := by simp
  have hg0 : ((h.push (.cells [.int .i64 b, .int .i64 j, .int .i64 n] 23)).push (.cells reg0 77)).get (h.push (.cells [.int .i64 b, .int .i64 j, .int .i64 n] 23)).next = some (.cells reg0 77) := by simp
  have hq0 : h.next ≤ (h.push (.cells [.int .i64 b, .int .i64 j, .int .i64 n] 23)).next ∧ (h.push (.cells [.int .i64 b, .int .i64 j, .int .i64 n] 23)).next < ((h.push (.cells [.int .i64 b, .int .i64 j, .int .i64 n] 23)).push (.cells reg0 77)).next ∧ h.next < (h.push (.cells [.int .i64 b, .int .i64 j, .int .i64 n] 23)).next := by simp
  generalize (h.push (.cells [.int .i64 b, .int .i64 j, .int .i64 n] 23)).push (.cells reg0 77) = h2 at hal hgb hg0 hk2 hq0
  generalize h.push (.cells [.int .i64 b, .int .i64 j, .int .i64 n] 23) = h1 at hbx hal hgb hg0 hq0
  generalize h1.next = k0 at hal hg0 hq0
  have hst0 := st_reg (W := W) (x := 0) (y := 0) (z := 0) (u := 0) (v := 0) hg0
  have hkz : ∀ c, Keeps h (h2.set k0 c) := fun c => hk2.set hq0.1 c
  simp [push_cast, hbx, hal, fa23_0, ld3, ji9 hgb]
  refine jh9 (by simp [fn64]) (in_ret W h2 _ _ _) ?_
  cases c1 : inB b 16 1024 with
  | false =>
    have hv : ofV' b j n = .tup [.agg reg0, .int .i64 60] := by simp [ofV', shapeR, c1]
    rw [hv]
    simp [push_cast, aUnN, build_reg0, reg0, hst0, ld_regS]
    exact hkz _
  | true =>
    simp [push_cast, aUnN, fa23_1, ld3, ji9 hgb]
    refine jh9 (by simp [fn64]) (in_ret W h2 _ _ _) ?_
    cases c2 : inB j 8 256 with
    | false =>
      have hv : ofV' b j n = .tup [.agg reg0, .int .i64 60] := by simp [ofV', shapeR, c2]
      rw [hv]
      simp [push_cast, aUnN, build_reg0, reg0, hst0, ld_regS]
      exact hkz _
    | true =>
      simp [push_cast, aUnN, fa23_2, ld3, ji9 hgb]
      refine jh9 (by simp [fn64]) (in_ret W h2 _ _ _) ?_
      cases c3 : inB n 1 64 with
      | false =>
        have hv : ofV' b j n = .tup [.agg reg0, .int .i64 60] := by simp [ofV', shapeR, c3]
        rw [hv]
        simp [push_cast, aUnN, build_reg0, reg0, hst0, ld_regS]
        exact hkz _
      | true =>
        have hb : 16 ≤ b ∧ b ≤ 1024 := by simpa [inB] using c1
        have hj : 8 ≤ j ∧ j ≤ 256 := by simpa [inB] using c2
        have hn : 1 ≤ n ∧ n ≤ 64 := by simpa [inB] using c3
        have w1 : IntKind.i64.wrap (1 + j) = 1 + j := wrap64 (by omega) (by omega)
        have w2 : IntKind.i64.wrap (2 + j) = 2 + j := wrap64 (by omega) (by omega)
        have w3 : IntKind.i64.wrap (n + 3) = n + 3 := wrap64 (by omega) (by omega)
        have w4 : IntKind.i64.wrap (Int.tdiv (n + 3) 4) = (n + 3) / 4 := by rw [Int.tdiv_eq_ediv_of_nonneg (by omega), wrap64 (by omega) (by omega)]
        have w5 : IntKind.i64.wrap (2 + j + (n + 3) / 4) = dataR b j n := by rw [wrap64 (by omega) (by omega)]; rfl
        have hdr : dataR b j n = 2 + j + (n + 3) / 4 := rfl
        have w6 : IntKind.i64.wrap (b - dataR b j n) = b - dataR b j n := wrap64 (by omega) (by omega)
        have hA := alloc_reg (W := W) (h := h2)
        have hgA : (h2.push (.cells reg0 77)).get h2.next = some (.cells reg0 77) := by simp
        have hkA : Keeps h2 (h2.push (.cells reg0 77)) := Keeps.push _ _
        have hnA : h2.next < (h2.push (.cells reg0 77)).next := by simp
        generalize h2.push (.cells reg0 77) = h3 at hA hgA hkA hnA
        generalize hkk : h2.next = k4 at hA hgA hnA hq0
        have hk04 : k0 ≠ k4 := by omega
        have hs1 := st_reg (W := W) (x := 1) (y := 1 + j) (z := 2 + j) (u := 0) (v := 0) hgA
        obtain ⟨h4, hh4⟩ : ∃ h4, h3.set k4 (.cells [.int .i64 1, .int .i64 (1 + j), .int .i64 (2 + j), .int .i64 0, .int .i64 0] 77) = h4 := ⟨_, rfl⟩
        have hg4 : h4.get k4 = some (.cells [.int .i64 1, .int .i64 (1 + j), .int .i64 (2 + j), .int .i64 0, .int .i64 0] 77) := by rw [← hh4]; simp
        have ho4 : ∀ k, k ≠ k4 → h4.get k = h3.get k := fun k hk => by rw [← hh4]; simp [hk]
        have hn4 : h4.next = h3.next := by rw [← hh4]; rfl
        rw [hh4] at hs1
        have hs3 := st_reg3 (W := W) (n := dataR b j n) hg4
        obtain ⟨h5, hh5⟩ : ∃ h5, h4.set k4 (.cells [.int .i64 1, .int .i64 (1 + j), .int .i64 (2 + j), .int .i64 (dataR b j n), .int .i64 0] 77) = h5 := ⟨_, rfl⟩
        have hg5 : h5.get k4 = some (.cells [.int .i64 1, .int .i64 (1 + j), .int .i64 (2 + j), .int .i64 (dataR b j n), .int .i64 0] 77) := by rw [← hh5]; simp
        have ho5 : ∀ k, k ≠ k4 → h5.get k = h3.get k := fun k hk => by rw [← hh5]; simp [hk, ho4 k hk]
        have hn5 : h5.next = h3.next := by rw [← hh5]; exact hn4
        rw [hh5] at hs3
        have hs4 := st_reg4 (W := W) (n := b - dataR b j n) hg5
        obtain ⟨h6, hh6⟩ : ∃ h6, h5.set k4 (.cells [.int .i64 1, .int .i64 (1 + j), .int .i64 (2 + j), .int .i64 (dataR b j n), .int .i64 (b - dataR b j n)] 77) = h6 := ⟨_, rfl⟩
        have hg6 : h6.get k4 = some (.cells [.int .i64 1, .int .i64 (1 + j), .int .i64 (2 + j), .int .i64 (dataR b j n), .int .i64 (b - dataR b j n)] 77) := by rw [← hh6]; simp
        have ho6 : ∀ k, k ≠ k4 → h6.get k = h3.get k := fun k hk => by rw [← hh6]; simp [hk, ho5 k hk]
        have hn6 : h6.next = h3.next := by rw [← hh6]; exact hn5
        rw [hh6] at hs4
        have hbk : h.next ≠ k4 := by omega
        have hgb3 := (hkA.2 h.next (by omega)).trans hgb
        have hgb4 := (ho4 h.next hbk).trans hgb3
        have hgb5 := (ho5 h.next hbk).trans hgb3
        have hg06 := ((ho6 k0 hk04).trans (hkA.2 k0 (by omega))).trans hg0
        have hK : ∀ c, Keeps h (h6.set k0 c) := fun c => ⟨by simp; have := hk2.1; have := hkA.1; omega, fun k hk => by
          have e1 : k ≠ k0 := by omega
          have e2 : k ≠ k4 := by have := hk2.1; omega
          simp [e1]
          rw [ho6 k e2, hkA.2 k (by have := hk2.1; omega)]
          exact hk2.2 k hk⟩
        by_cases hlt : b - dataR b j n < 4
        · have hv : ofV' b j n = .tup [.agg reg0, .int .i64 60] := by simp [ofV', shapeR, c1, c2, c3, hlt]
          have hst6 := st_reg (W := W) (x := 0) (y := 0) (z := 0) (u := 0) (v := 0) hg06
          rw [hv]
          simp [push_cast, aUnN, fa23_0, fa23_1, fa23_2, ld3, ji9 hgb, ji9 hgb3, ji9 hgb4, ji9 hgb5, w1, w2, build_reg, hA, hs1, fa77_2, fa77_3, fa77_4, ji9 hg4, ji9 hg5, ji9 hg6, w3, w4, w5, w6, hs3, hs4, hlt, build_reg0, reg0, hst6, ld_regS]
          exact hK _
        · have hv : ofV' b j n = .tup [regV j (dataR b j n) (b - dataR b j n), .int .i64 0] := by simp [ofV', shapeR, c1, c2, c3, hlt]
          have hst6 := st_reg (W := W) (x := 1) (y := 1 + j) (z := 2 + j) (u := dataR b j n) (v := b - dataR b j n) hg06
          rw [hv]
          simp [push_cast, aUnN, fa23_0, fa23_1, fa23_2, ld3, ji9 hgb, ji9 hgb3, ji9 hgb4, ji9 hgb5, w1, w2, build_reg, hA, hs1, fa77_2, fa77_3, fa77_4, ji9 hg4, ji9 hg5, ji9 hg6, w3, w4, w5, w6, hs3, hs4, hlt, ld_reg hg6, hst6, ld_regS, regV]
          exact hK _
end Go.Proofs.Ytgcoipcnhmkeaaa.Ax
end

/-! A list of texts that are blocks: is one of a wrong length, and the list copied -/
section
set_option linter.unusedVariables false
set_option linter.unusedSimpArgs false
namespace Go.Proofs.Ytgcoipcnhmkeaaa.Ax
open Go.RowKit

/-- A slice of texts, told at a state and at all that keep it. -/
def StrB (W : World) (h0 : AH) (v : AV) (l : List Bts) : Prop :=
  l = [] ∧ v = .sl none 0 0 none ∨ ∃ a c g, v = .sl (some a) l.length c g ∧ ∀ h, Keeps h0 h → (l ≠ [] → aCells (CC W) h a l.length = some (l.map .str)) ∧ ∀ (i : Nat) x, l[i]? = some x → aLoad (CC W) h 9 (a.add i) = some (.str x)

section
variable {W : World} {h0 : AH} {v : AV} {l : List Bts}
theorem StrB.mono {h1 : AH} (s : StrB W h0 v l) (hk : Keeps h0 h1) : StrB W h1 v l := by
  rcases s with s | ⟨a, c, g, e, s⟩
  · exact .inl s
  · exact .inr ⟨a, c, g, e, fun h h2 => s h (hk.trans h2)⟩
theorem StrB.lenA (s : StrB W h0 v l) (h2 : AH) : aLen (CC W) h2 24 v = some (.int .i64 l.length) := by
  rcases s with ⟨rfl, rfl⟩ | ⟨a, c, g, rfl, _⟩ <;> simp [aLen, kind24]
theorem StrB.at (s : StrB W h0 v l) {i : Nat} (hi : i < l.length) : ∃ a', aIndexAddr (CC W) 24 v (.int .i64 (i : Int)) = some (.ptr (some a')) ∧ ∀ h', Keeps h0 h' → aLoad (CC W) h' 9 a' = some (.str l[i]) := by
  rcases s with ⟨rfl, rfl⟩ | ⟨a, c, g, rfl, s⟩
  · simp at hi
  · refine ⟨a.add i, ?_, fun h' hk => (s h' hk).2 i _ (by simp [hi])⟩
    simp only [aIndexAddr, kind24, size9]
    rw [if_pos (by omega)]
    simp
end

/-- Are all blocks of 128 bytes? The first that is not, else -1. -/
def badAt (l : List Bts) : Int := match (List.range l.length).find? (fun i => decide ((l.getD i []).length ≠ 128)) with
  | some i => i
  | none => -1
theorem badAt_neg {l : List Bts} (h : ∀ i, i < l.length → (l.getD i []).length = 128) : badAt l = -1 := by
  unfold badAt
  have : (List.range l.length).find? (fun i => decide ((l.getD i []).length ≠ 128)) = none := by
    rw [List.find?_range_eq_none]
    intro j hj; have := h j hj; simpa using this
  rw [this]
theorem badAt_at {l : List Bts} {i : Nat} (hi : i < l.length) (hp : (l.getD i []).length ≠ 128) (hno : ∀ j, j < i → (l.getD j []).length = 128) : badAt l = i := by
  unfold badAt
  have : (List.range l.length).find? (fun i => decide ((l.getD i []).length ≠ 128)) = some i := by
    rw [List.find?_range_eq_some]
    refine ⟨by simpa using hp, by simpa using hi, fun j hj => by have := hno j hj; simpa using this⟩
  rw [this]
theorem badAt_iff {l : List Bts} : badAt l ≥ 0 ↔ ∃ x ∈ l, x.length ≠ 128 := by
  by_cases h : ∃ x ∈ l, x.length ≠ 128
  · constructor
    · intro _; exact h
    · intro _
      unfold badAt
      cases hf : (List.range l.length).find? (fun i => decide ((l.getD i []).length ≠ 128)) with
      | some i => simp
      | none =>
        obtain ⟨x, hx, hx2⟩ := h
        obtain ⟨i, hi, rfl⟩ := List.mem_iff_getElem.1 hx
        rw [List.find?_range_eq_none] at hf
        have := hf i hi
        simp [List.getD, hi] at this
        exact absurd this hx2
  · constructor
    · intro hb
      exfalso
      rw [badAt_neg] at hb
      · omega
      · intro i hi
        have hc : ¬ (l[i]).length ≠ 128 := fun hc => h ⟨l[i], List.getElem_mem hi, hc⟩
        simpa [List.getD, hi] using hc
    · intro h2; exact absurd h2 h

theorem newC_ret (W : World) (h : AH) (b : Bts) : RetH (CC W) 36 [.str b] h (.bool (decide (b.length ≠ 128))) := by
  refine jj9 (cc_ok W) (fn36 W) (by simp only [Try.f36]; rfl) rfl rfl ?_
  by_cases hb : b.length = 128
  · have : (b.length : Int) = 128 := by omega
    simp [push_cast, aLen, kind9, this, hb]
  · have : ¬ (b.length : Int) = 128 := by omega
    simp [push_cast, aLen, kind9, this, hb]

def idxBI (h : AH) (v f : AV) (l : List Bts) (m : Nat) (e' : Env) (h' : AH) : Prop :=
  h' = h ∧ e'.length = 19 ∧ ∃ i : Nat, i + m = l.length ∧ (∀ j, j < i → (l.getD j []).length = 128) ∧ (e'.getD 0 .undef = v ∧ e'.getD 1 .undef = f ∧ e'.getD 7 .undef = .int .i64 l.length ∧ e'.getD 8 .undef = .int .i64 i)

set_option maxHeartbeats 4000000 in
theorem idxB_ret (W : World) (h : AH) (v : AV) (l : List Bts) (s : StrB W h v l) (hn : l.length < 9223372036854775807) :
    RetH (CC W) 65 [v, .fn (.func 36) [] []] h (.int .i64 (badAt l)) := by
  refine jj9 (cc_ok W) (fn65 W) (by simp only [Try.f65]; rfl) rfl rfl ?_
  simp [push_cast, s.lenA]
  refine loopN (cc_ok W) (idxBI h v (.fn (.func 36) [] []) l) l.length ⟨rfl, by simp, 0, by simp, fun j hj => by omega, by simp⟩ ?_
  rintro m e' h' ⟨rfl, hlen, i, him, hno, hh⟩
  match e', hlen with
  | a0 :: a1 :: a2 :: a3 :: a4 :: a5 :: a6 :: a7 :: a8 :: a9 :: a10 :: a11 :: a12 :: a13 :: a14 :: a15 :: a16 :: a17 :: a18 :: [], _ =>
    simp at hh
    obtain ⟨rfl, rfl, rfl, rfl⟩ := hh
    by_cases hlt : i < l.length
    · have hlt' : (i : Int) < (l.length : Int) := by omega
      obtain ⟨a', hix, hld⟩ := s.at hlt
      have hld' := hld h' (Keeps.refl _)
      have hg : l.getD i [] = l[i] := by simp [List.getD, hlt]
      simp [push_cast, hlt, hlt', hix, hld']
      refine jh9 (by simp [fn36]) (newC_ret W h' _) ?_
      by_cases hp : (l[i]).length = 128
      · have wi : IntKind.i64.wrap ((i : Int) + 1) = (i : Int) + 1 := wrap64 (by omega) (by omega)
        simp [push_cast, wi, hp]
        exact ⟨m - 1, by omega, rfl, by simp, i + 1, by omega, fun j hj => by
          rcases Nat.lt_or_ge j i with h1 | h1
          · exact hno j h1
          · rw [show j = i by omega, hg]; exact hp, by simp⟩
      · simp [push_cast, hp]
        exact (badAt_at hlt (by rw [hg]; exact hp) hno).symm
    · have hlt' : ¬ (i : Int) < (l.length : Int) := by omega
      simp [push_cast, hlt, hlt']
      exact (badAt_neg fun j hj => hno j (by omega)).symm

theorem contB_ret (W : World) (h : AH) (v : AV) (l : List Bts) (s : StrB W h v l) (hn : l.length < 9223372036854775807) :
    RetH (CC W) 35 [v, .fn (.func 36) [] []] h (.bool (decide (0 ≤ badAt l))) := by
  refine jj9 (cc_ok W) (fn35 W) (by simp only [Try.f35]; rfl) rfl rfl ?_
  simp [push_cast]
  refine jh9 (by simp [fn65]) (idxB_ret W h v l s hn) ?_
  simp [push_cast]

def CloB (h : AH) (l : List Bts) (w : AV) (h' : AH) : Prop := ∃ k c g, w = .sl (some (.new k 0)) l.length c g ∧ h.next ≤ k ∧ k < h'.next ∧ Keeps h h' ∧ h'.get k = some (.cells (l.map .str) 9)
theorem build_noneB {W : World} {h : AH} : aBuildSlice (CC W) h 24 0 [] = some (.sl (some (.new h.next 0)) 0 0 none, h.push (.cells [] 9)) := by
  simp only [aBuildSlice, kind24, size9, zero9]
  rfl
theorem append_strB {W : World} {h0 h : AH} {a : AA} {c : Nat} {g : Option Nat} {l : List Bts} (hk : Keeps h0 (h.push (.cells [] 9))) (s : ∀ h, Keeps h0 h → (l ≠ [] → aCells (CC W) h a l.length = some (l.map .str))) (hl : l.length < 8796093022207) (hpos : l ≠ []) :
    aAppend (CC W) (h.push (.cells [] 9)) #[24, 24] (.sl (some (.new h.next 0)) 0 0 none) (.sl (some a) l.length c g) =
      some (.sl (some (.new (h.next + 1) 0)) l.length l.length (some 1), (h.push (.cells [] 9)).push (.cells (l.map .str) 9)) := by
  have hb : (CC W).bytes 9 = 16 := _root_.id rfl
  have hni : niOK (CC W) #[24, 24] = true := _root_.id rfl
  have h0 : l.length ≠ 0 := fun e => hpos (List.length_eq_zero_iff.1 e)
  have hnews : aNews (CC W) (h.push (.cells [] 9)) 1 (.sl (some a) l.length c g) = some (l.length, l.map .str) := by
    simp [aNews, s _ hk hpos, hpos]
  simp [aAppend, kind24, size9, zero9, hb, hni, hnews, hpos]
  first | omega | exact ⟨by omega, rfl⟩ | rfl

set_option maxHeartbeats 4000000 in
theorem cloneB_ret (W : World) (h : AH) (v : AV) (l : List Bts) (s : StrB W h v l) (hl : l.length < 8796093022207) (hpos : l ≠ []) :
    ACall (CC W) 37 [v] h (CloB h l) (fun _ _ => False) := by
  refine jj9 (cc_ok W) (fn37 W) (by simp only [Try.f37]; rfl) rfl rfl ?_
  rcases s with ⟨rfl, rfl⟩ | ⟨a, c, g, rfl, s⟩
  · exact absurd rfl hpos
  · have hap := append_strB (W := W) (h0 := h) (h := h) (a := a) (c := c) (g := g) (Keeps.push _ _) (fun h' hk => (s h' hk).1) hl hpos
    simp [push_cast, aEq, aEqIn, kind24, build_noneB, hap]
    exact ⟨h.next + 1, l.length, some 1, rfl, by omega, by simp, (Keeps.push _ _).trans (Keeps.push _ _), by simp⟩
end Go.Proofs.Ytgcoipcnhmkeaaa.Ax
end

/-! A new view: the walk -/
section
set_option linter.unusedVariables false
set_option linter.unusedSimpArgs false
namespace Go.Proofs.Ytgcoipcnhmkeaaa.Ax
open Go.RowKit
set_option maxRecDepth 100000

/-- A drawn region with some orders of its effects. -/
theorem drawSd {C : Cx} {Q : Post} {ops : Array Oper} {ks : List Fr} {e : Env} {h : AH} {id : Nat} (Ls : List (List Nat)) (hB : drawB C ops = true) (hc : canons C ops = Ls) (hw : ∀ L ∈ Ls, Sg C Q ops L [] ks e h) : Wc C Q (.region id ops true) ks e h := by
  refine ⟨⟨hB, fun c hcm => ?_⟩⟩
  rw [hc] at hcm
  exact (hw c hcm).out

def newF (b j n : Int) (l : List Bts) : Int := match shapeR b j n with
  | none => 60
  | some _ => if (l.length : Int) ≠ b ∨ 0 ≤ badAt l then 4 else 0
def cfOf (b j n : Int) : Cf := ⟨b.toNat, j.toNat, n.toNat⟩
def dskOf (l : List Bts) : Dsk := fun x => l.getD x []
def NewV (b j n : Int) (l : List Bts) (h : AH) (w : AV) (h' : AH) : Prop :=
  Keeps h h' ∧ if newF b j n l = 0 then (∃ R, w = .tup [.ptr (some (.new R.kv 0)), .int .i64 0] ∧ VIs h' R (cfOf b j n) (dskOf l) (dskOf l) none ∧ h.next ≤ R.kv ∧ h.next ≤ R.kb ∧ h.next ≤ R.ko) else w = .tup [.ptr none, .int .i64 (newF b j n l)]
theorem shapeR_ok {b j n c : Int} (h : shapeR b j n = some c) : (cfOf b j n).OK ∧ b = ((cfOf b j n).B : Int) ∧ j = ((cfOf b j n).J : Int) ∧ n = ((cfOf b j n).N : Int) ∧ dataR b j n = ((cfOf b j n).dt : Int) ∧ c = (((cfOf b j n).B - (cfOf b j n).dt : Nat) : Int) := by
  unfold shapeR at h
  split at h
  · rename_i hc
    simp only [inB, Bool.and_eq_true, decide_eq_true_eq] at hc
    obtain ⟨⟨b1, b2⟩, ⟨j1, j2⟩, n1, n2⟩ := hc
    split at h
    · cases h
    · rename_i hd
      simp only [Option.some.injEq] at h
      unfold dataR at hd h
      simp only [cfOf, Cf.dt, dataR]
      refine ⟨⟨by simp only; omega, by simp only; omega, by simp only; omega, by simp only; omega, by simp only; omega, by simp only; omega, by simp only [Cf.dt]; omega⟩, by omega, by omega, by omega, by omega, by omega⟩
  · cases h

def vw0 (c : Cf) (kb n cap : Nat) (g : Option Nat) (ko : Nat) : List AV := vwC c (.sl (some (.new kb 0)) n cap g) (.map (some ko)) (.map none)
theorem build_vw {W : World} {c : Cf} {kb n cap : Nat} {g : Option Nat} {ko : Nat} :
    aBuild (CC W) 85 [(0, .agg [.int .i64 c.B, .int .i64 c.J, .int .i64 c.N]), (1, .agg [.int .i64 1, .int .i64 c.bm, .int .i64 c.tb, .int .i64 c.dt, .int .i64 ((c.B - c.dt : Nat) : Int)]), (2, .sl (some (.new kb 0)) n cap g), (3, .map (some ko)), (4, .map none)] = some (.agg (vw0 c kb n cap g ko)) := rfl

theorem vis_new {h' : AH} {c : Cf} (ok : c.OK) {l : List Bts} {kv kb ko cap : Nat} {g : Option Nat} (hl : l.length = c.B) (hb : badAt l < 0) (hv : h'.get kv = some (.cells (vw0 c kb l.length cap g ko) 85)) (hB : h'.get kb = some (.cells (l.map .str) 9)) (ho : h'.get ko = some (.map [] 0))
    (lv : kv < h'.next) (lb : kb < h'.next) (lo : ko < h'.next) (n1 : kv ≠ kb) (n2 : kv ≠ ko) (n3 : kb ≠ ko) : VIs h' ⟨kv, kb, ko, none⟩ c (dskOf l) (dskOf l) none := by
  refine ⟨ok, ⟨cap, g, by rw [hv, ← hl]; rfl⟩, ⟨_, hB, fun x hx => ?_⟩, ⟨fun _ => none, ⟨lo, fun x b hb => by simp at hb, [], 0, ho, ?_, by simp, by simp⟩, fun x => rfl, fun x b hb => by simp at hb⟩, trivial, lv, lb, lo, n1, n2, n3⟩
  · have hx' : x < l.length := by omega
    have h128 : (l[x]).length = 128 := by
      refine Decidable.byContradiction fun hc => ?_
      have := badAt_iff.2 ⟨l[x], List.getElem_mem hx', hc⟩
      omega
    simp [dskOf, List.getD, hx', h128]
  · exact okEs_ok (by rfl)

set_option maxHeartbeats 8000000 in
theorem newV_ret (W : World) (h : AH) (b j n : Int) (v : AV) (l : List Bts) (s : StrB W h v l) :
    ACall (CC W) 11 [.agg [.int .i64 b, .int .i64 j, .int .i64 n], v] h (NewV b j n l h) (fun _ _ => False) := by
  refine jj9 (cc_ok W) (fn11 W) (by simp only [Try.f11]; rfl) rfl rfl ?_
  have hbx := box_shape (h := h) (l := [.int .i64 b, .int .i64 j, .int .i64 n])
  have hk1 : Keeps h (h.push (.cells [.int .i64 b, .int .i64 j, .int .i64 n] 23)) := Keeps.push _ _
  have hgb : (h.push (.cells [.int .i64 b, .int .i64 j, .int .i64 n] 23)).get h.next = some (.cells [.int .i64 b, .int .i64 j, .int .i64 n] 23) := by simp
  have hn1 : h.next < (h.push (.cells [.int .i64 b, .int .i64 j, .int .i64 n] 23)).next := by simp
  generalize h.push (.cells [.int .i64 b, .int .i64 j, .int .i64 n] 23) = h1 at hbx hk1 hgb hn1
  generalize hkb : h.next = kb at hbx hgb hn1
  simp [push_cast, hbx, ld_shape hgb]
  refine callK_RetVk (by simp [fn34]) (of_ret W h1 b j n) fun h2 hk2 => ?_
  have hgb2 := (hk2.2 kb hn1).trans hgb
  have hA := alloc_reg (W := W) (h := h2)
  have hgA : (h2.push (.cells reg0 77)).get h2.next = some (.cells reg0 77) := by simp
  have hK3 : Keeps h ((h2.push (.cells reg0 77))) := (hk1.trans hk2).trans (Keeps.push _ _)
  have hgb3 : (h2.push (.cells reg0 77)).get kb = some (.cells [.int .i64 b, .int .i64 j, .int .i64 n] 23) := by
    have : kb ≠ h2.next := by have := hk2.1; omega
    simp [this, hgb2]
  have hn3 : h2.next < (h2.push (.cells reg0 77)).next := by simp
  have hlow2 : h.next ≤ h2.next ∧ kb < h2.next := by have := hk1.1; have := hk2.1; omega
  generalize h2.push (.cells reg0 77) = h3 at hA hgA hK3 hgb3 hn3
  generalize h2.next = k4 at hA hgA hn3 hlow2
  have hk4b : kb ≠ k4 := by omega
  cases hsh : shapeR b j n with
  | none =>
    have hv : ofV' b j n = .tup [.agg reg0, .int .i64 60] := by simp [ofV', hsh]
    have hst := st_reg (W := W) (x := 0) (y := 0) (z := 0) (u := 0) (v := 0) hgA
    have hnf : newF b j n l = 60 := by simp [newF, hsh]
    rw [hv]
    simp [push_cast, hA, reg0, hst]
    exact ⟨hK3.set hlow2.1 _, by rw [hnf]; simp⟩
  | some d =>
    have hv : ofV' b j n = .tup [regV j (dataR b j n) d, .int .i64 0] := by simp [ofV', hsh]
    obtain ⟨hok, eb, ej, en, ed, ec⟩ := shapeR_ok hsh
    have hst := st_reg (W := W) (x := 1) (y := 1 + j) (z := 2 + j) (u := dataR b j n) (v := d) hgA
    have hK4 := hK3.set hlow2.1 (.cells [.int .i64 1, .int .i64 (1 + j), .int .i64 (2 + j), .int .i64 (dataR b j n), .int .i64 d] 77)
    have hg4 : (h3.set k4 (.cells [.int .i64 1, .int .i64 (1 + j), .int .i64 (2 + j), .int .i64 (dataR b j n), .int .i64 d] 77)).get k4 = some (.cells [.int .i64 1, .int .i64 (1 + j), .int .i64 (2 + j), .int .i64 (dataR b j n), .int .i64 d] 77) := by simp
    have hgb4 : (h3.set k4 (.cells [.int .i64 1, .int .i64 (1 + j), .int .i64 (2 + j), .int .i64 (dataR b j n), .int .i64 d] 77)).get kb = some (.cells [.int .i64 b, .int .i64 j, .int .i64 n] 23) := by simp [hk4b, hgb3]
    have hn4 : k4 < (h3.set k4 (.cells [.int .i64 1, .int .i64 (1 + j), .int .i64 (2 + j), .int .i64 (dataR b j n), .int .i64 d] 77)).next := by simp; exact hn3
    obtain ⟨h4, hh4⟩ : ∃ h4, h3.set k4 (.cells [.int .i64 1, .int .i64 (1 + j), .int .i64 (2 + j), .int .i64 (dataR b j n), .int .i64 d] 77) = h4 := ⟨_, rfl⟩
    rw [hh4] at hst hK4 hg4 hgb4 hn4
    have hs4 := s.mono hK4
    rw [hv]
    simp only [regV]
    generalize hcf : cfOf b j n = c at hok eb ej en ed ec
    have e1 : 1 + j = (c.bm : Int) := by rw [ej]; simp [Cf.bm]
    have e2 : 2 + j = (c.tb : Int) := by rw [ej]; simp [Cf.tb]
    by_cases hbd : (l.length : Int) ≠ b ∨ 0 ≤ badAt l
    · have hnf : newF b j n l = 4 := by simp [newF, hsh, hbd]
      by_cases hlb : (l.length : Int) = b
      · have hl : l.length < 8796093022207 := by have := hok.b2; omega
        have hb0 : 0 ≤ badAt l := by rcases hbd with h' | h'; exact absurd hlb h'; exact h'
        simp [push_cast, hA, hst, hs4.lenA, fa23_0, ld3, ji9 hgb4, hlb]
        refine jh9 (by simp [fn35]) (contB_ret W h4 v l hs4 (by omega)) ?_
        simp [push_cast, hb0]
        exact ⟨hK4, by rw [hnf]; simp⟩
      · have hne : ((l.length : Int) != b) = true := by simpa using hlb
        simp [push_cast, hA, hst, hs4.lenA, fa23_0, ld3, ji9 hgb4, hne]
        exact ⟨hK4, by rw [hnf]; simp⟩
    · have hnf : newF b j n l = 0 := by simp only [newF, hsh]; rw [if_neg hbd]
      have hlb : (l.length : Int) = b := Decidable.byContradiction fun hc => hbd (.inl hc)
      have hb0 : ¬ 0 ≤ badAt l := fun hc => hbd (.inr hc)
      have hll : l.length = c.B := by omega
      have hl : l.length < 8796093022207 := by have := hok.b2; omega
      have hpos : l ≠ [] := fun e => by subst e; have := hok.b1; simp at hlb; omega
      simp [push_cast, hA, hst, hs4.lenA, fa23_0, ld3, ji9 hgb4, hlb]
      refine jh9 (by simp [fn35]) (contB_ret W h4 v l hs4 (by omega)) ?_
      simp [push_cast, hb0]
      have hbv := fun kb' cap g ko => build_vw (W := W) (c := c) (kb := kb') (n := l.length) (cap := cap) (g := g) (ko := ko)
      rw [← eb, ← ej, ← en, ← e1, ← e2, ← ed, ← ec] at hbv
      refine drawSd [[0, 1, 2, 3, 4, 5, 6, 7, 8], [0, 1, 2, 4, 3, 5, 6, 7, 8]] (by kernel_rfl) (by kernel_rfl) ?_
      intro L hL
      simp only [List.mem_cons, List.not_mem_nil, or_false] at hL
      rcases hL with rfl | rfl
      · simp [push_cast, zx9, zy9, SgO, opA, isE, isRead, ld_shape hgb4, ld_reg hg4]
        refine jb9 (f := 37) (args := [v]) (by rfl) (by rfl) (by rfl) (by simp [fn37]) (cloneB_ret W h4 v l hs4 hl hpos) ?_
        rintro w h5 ⟨k5, cap, g, rfl, l5, m5, hk5, hg5⟩
        have hgb5 := (hk5.2 kb (by omega)).trans hgb4
        have hg45 := (hk5.2 k4 (by omega)).trans hg4
        refine ⟨?_, ?_⟩
        · simp [zz9, ja9, push_cast, opA, ld_shape hgb5, ld_reg hg45]
        simp [push_cast, zx9, zy9, SgO, opA, isE, isRead]
        refine jc9 (v := .map (some h5.next)) (h' := h5.push (.map [] 0)) (by rfl) (by rfl) ⟨?_, ?_⟩
        · have n1 : kb ≠ h5.next := by have := hk5.1; omega
          have n2 : k4 ≠ h5.next := by have := hk5.1; omega
          have hgb6 : (h5.push (.map [] 0)).get kb = _ := (by simp [n1] : (h5.push (.map [] 0)).get kb = h5.get kb).trans hgb5
          have hg46 : (h5.push (.map [] 0)).get k4 = _ := (by simp [n2] : (h5.push (.map [] 0)).get k4 = h5.get k4).trans hg45
          simp [zz9, ja9, push_cast, opA, ld_shape hgb6, ld_reg hg46]
        simp [push_cast, zx9, zy9, SgO, opA, isE, isRead, hbv]
        have hkF : Keeps h ((h5.push (.map [] 0)).push (.cells (vw0 c k5 l.length cap g h5.next) 85)) := ((hK4.trans hk5).trans (Keeps.push _ _)).trans (Keeps.push _ _)
        refine jc9 (v := .ptr (some (.new (h5.next + 1) 0))) (h' := (h5.push (.map [] 0)).push (.cells (vw0 c k5 l.length cap g h5.next) 85)) (by rfl) (by rfl) ⟨?_, ?_⟩
        · repeat refine zz9 ▸ ⟨fun hc => absurd (hc.symm.trans (show _ = true by kernel_rfl)) (by decide), ?_⟩
          exact ja9 ▸ trivial
        simp [push_cast, zy9, thenQ]
        have n1 : k5 ≠ h5.next := by omega
        have n2 : k5 ≠ h5.next + 1 := by omega
        have hh := hK4.1
        exact ⟨hkF, by rw [if_pos hnf]; exact ⟨⟨h5.next + 1, k5, h5.next, none⟩, rfl, by rw [hcf]; exact vis_new (cap := cap) (g := g) hok hll (by omega) (by simp) (by simp [n1, n2]; exact hg5) (by simp) (by simp) (by simp; omega) (by simp; omega) (by omega) (by omega) n1, by show h.next ≤ h5.next + 1; have := hk5.1; omega, by show h.next ≤ k5; omega, by show h.next ≤ h5.next; have := hk5.1; omega⟩⟩
      · simp [push_cast, zx9, zy9, SgO, opA, isE, isRead, ld_shape hgb4, ld_reg hg4]
        have hkM : Keeps h4 (h4.push (.map [] 0)) := Keeps.push _ _
        have hgM : (h4.push (.map [] 0)).get h4.next = some (.map [] 0) := by simp
        have hnM : h4.next < (h4.push (.map [] 0)).next := by simp
        refine jc9 (v := .map (some h4.next)) (h' := h4.push (.map [] 0)) (by rfl) (by rfl) ?_
        generalize h4.push (.map [] 0) = hM at hkM hgM hnM ⊢
        have hgbM := (hkM.2 kb (by omega)).trans hgb4
        have hg4M := (hkM.2 k4 (by omega)).trans hg4
        refine ⟨?_, ?_⟩
        · simp [zz9, ja9, push_cast, opA, ld_shape hgbM, ld_reg hg4M]
        simp [push_cast, zx9, zy9, SgO, opA, isE, isRead]
        refine jb9 (f := 37) (args := [v]) (by rfl) (by rfl) (by rfl) (by simp [fn37]) (cloneB_ret W hM v l (hs4.mono hkM) hl hpos) ?_
        rintro w h5 ⟨k5, cap, g, rfl, l5, m5, hk5, hg5⟩
        have hgb5 := (hk5.2 kb (by have := hkM.1; omega)).trans hgbM
        have hg45 := (hk5.2 k4 (by have := hkM.1; omega)).trans hg4M
        have hgm5 := (hk5.2 h4.next hnM).trans hgM
        refine ⟨?_, ?_⟩
        · simp [zz9, ja9, push_cast, opA, ld_shape hgb5, ld_reg hg45]
        simp [push_cast, zx9, zy9, SgO, opA, isE, isRead, hbv]
        have hkF : Keeps h (h5.push (.cells (vw0 c k5 l.length cap g h4.next) 85)) := ((hK4.trans hkM).trans hk5).trans (Keeps.push _ _)
        refine jc9 (v := .ptr (some (.new h5.next 0))) (h' := h5.push (.cells (vw0 c k5 l.length cap g h4.next) 85)) (by rfl) (by rfl) ⟨?_, ?_⟩
        · repeat refine zz9 ▸ ⟨fun hc => absurd (hc.symm.trans (show _ = true by kernel_rfl)) (by decide), ?_⟩
          exact ja9 ▸ trivial
        simp [push_cast, zy9, thenQ]
        have n1 : k5 ≠ h5.next := by omega
        have n2 : h4.next ≠ h5.next := by have := hk5.1; omega
        have hh := hK4.1
        have hh2 := hkM.1
        have hh3 := hk5.1
        exact ⟨hkF, by rw [if_pos hnf]; exact ⟨⟨h5.next, k5, h4.next, none⟩, rfl, by rw [hcf]; exact vis_new (cap := cap) (g := g) hok hll (by omega) (by simp) (by simp [n1]; exact hg5) (by simp [n2]; exact hgm5) (by simp) (by simp; omega) (by simp; omega) (by omega) (by omega) (by omega), by show h.next ≤ h5.next; omega, by show h.next ≤ k5; omega, by show h.next ≤ h4.next; omega⟩⟩
end Go.Proofs.Ytgcoipcnhmkeaaa.Ax
end

/-! A view's Changes: the walk -/
section
set_option linter.unusedVariables false
set_option linter.unusedSimpArgs false
namespace Go.Proofs.Ytgcoipcnhmkeaaa.Ax
open Go.RowKit



/-! ### lists of changes -/

/-! ### the walk -/


end Go.Proofs.Ytgcoipcnhmkeaaa.Ax
end

/-! Law 15's small case, in any world -/
section
set_option linter.unusedVariables false
set_option linter.unusedSimpArgs false
namespace Go.Proofs.Ytgcoipcnhmkeaaa.Ax
open Go.RowKit

def isTD (v : AV) (_ : AH) : Bool := match v with | .bool b => b | _ => false
theorem isTD_eq {v : AV} {h : AH} (hv : isTD v h = true) : v = .bool true := by
  unfold isTD at hv
  split at hv
  · rename_i b; rw [hv]
  · simp at hv
noncomputable def knownD : Known := sortedKn 38 68 3
theorem knownD_ok (W : World) : KnownOK (CC W) knownD := sorted_known W
/-- A closed run that gives true gives it anywhere. -/
theorem closedD_ret {f : FuncId} (hk : ∀ W, callKr (CC W) knownD 1000000 f [] AH.empty isTD = true) (W : World) (h : AH) : RetH (CC W) f [] h (.bool true) := by
  refine ret_of_calls fun ρ W1 vs R hv => ?_
  have hvs : vs = #[] := by
    simp only [VsRel] at hv
    exact Array.toList_inj.1 (by simpa using hv)
  subst hvs
  have := calls_of_acallE (C := CC W1) (P := (CC W).P) (W := W1) (args := []) (vs := #[]) rfl rfl (by simp [VsRel]) ((callKr_sound (cc_ok W1) (knownD_ok W1) (hk W1)).mono (fun _ _ hv => isTD_eq hv) fun _ _ h => h)
  exact this.mono fun e W' ⟨he, hb⟩ => ⟨⟨_, he, by simp [VRel]⟩, hb⟩
theorem speaks15_kr (W : World) : callKr (CC W) knownD 1000000 12 [] AH.empty isTD = true := by kernel_rfl
theorem speaks15_ret (W : World) (h : AH) : RetH (CC W) 12 [] h (.bool true) := closedD_ret speaks15_kr W h
end Go.Proofs.Ytgcoipcnhmkeaaa.Ax
end
