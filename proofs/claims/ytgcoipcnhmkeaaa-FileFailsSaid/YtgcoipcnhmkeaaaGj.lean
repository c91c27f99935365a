/- The texts DwS, DwT, DwU, DwV, DwX, as one. -/
import Derived.Test.YtgcoipcnhmkeaaaGia
import Derived.Test.YtgcoipcnhmkeaaaGf
import Derived.Test.YtgcoipcnhmkeaaaGe
import Derived.KernelRfl

/-! A shape, walked -/
section
set_option linter.unusedVariables false
set_option linter.unusedSimpArgs false
namespace Go.Proofs.Ytgcoipcnhmkeaaa.Ax
open Go.RowKit

def inB (x lo hi : Int) : Bool := decide (lo ≤ x) && decide (x ≤ hi)

set_option maxHeartbeats 4000000 in
theorem in_ret (W : World) (h : AH) (x lo hi : Int) : RetH (CC W) 64 [.int .i64 x, .int .i64 lo, .int .i64 hi] h (.bool (inB x lo hi)) := by
  refine jj9 (cc_ok W) (fn64 W) (by simp only [Try.f64]; rfl) rfl rfl ?_
  by_cases h1 : lo ≤ x
  · by_cases h2 : x ≤ hi
    · simp [push_cast, h1, h2, inB]
    · simp [push_cast, h1, h2, inB]
  · simp [push_cast, h1, inB]

/-- How many data blocks a shape has; none: it is no shape. -/
def dataR (b j n : Int) : Int := 2 + j + (n + 3) / 4
def shapeR (b j n : Int) : Option Int :=
  if inB b 16 1024 = true ∧ inB j 8 256 = true ∧ inB n 1 64 = true then if b - dataR b j n < 4 then none else some (b - dataR b j n) else none
def regV (j d c : Int) : AV := .agg [.int .i64 1, .int .i64 (1 + j), .int .i64 (2 + j), .int .i64 d, .int .i64 c]
def reg0 : List AV := [.int .i64 0, .int .i64 0, .int .i64 0, .int .i64 0, .int .i64 0]

section
variable {W : World} {h : AH} {k : Nat} {a b c d e : AV} {t : TypeId} {n : Int}
theorem box_shape {l : List AV} : aBox h 23 (.agg l) = some (.ptr (some (.new h.next 0)), h.push (.cells l 23)) := rfl
theorem alloc_reg : aAlloc (CC W) h 77 = some (.ptr (some (.new h.next 0)), h.push (.cells reg0 77)) := rfl
theorem build_reg0 : aBuild (CC W) 77 [] = some (.agg reg0) := rfl
theorem build_reg {x y z : Int} : aBuild (CC W) 77 [(0, .int .i64 x), (1, .int .i64 y), (2, .int .i64 z)] = some (.agg [.int .i64 x, .int .i64 y, .int .i64 z, .int .i64 0, .int .i64 0]) := rfl
theorem st_reg {x y z u v : Int} (hg : h.get k = some (.cells [a, b, c, d, e] t)) : aStoreOp (CC W) h 77 (.ptr (some (.new k 0))) (.agg [.int .i64 x, .int .i64 y, .int .i64 z, .int .i64 u, .int .i64 v]) = some (h.set k (.cells [.int .i64 x, .int .i64 y, .int .i64 z, .int .i64 u, .int .i64 v] t)) := by
  simp only [aStoreOp, aCellsOf, size77, aStore, hg]
  rfl
theorem st_reg3 (hg : h.get k = some (.cells [a, b, c, d, e] t)) : aStoreOp (CC W) h 3 (.ptr (some (.new k 3))) (.int .i64 n) = some (h.set k (.cells [a, b, c, .int .i64 n, e] t)) := by
  simp only [aStoreOp, aCellsOf, size3, aStore, hg]
  rfl
theorem st_reg4 (hg : h.get k = some (.cells [a, b, c, d, e] t)) : aStoreOp (CC W) h 3 (.ptr (some (.new k 4))) (.int .i64 n) = some (h.set k (.cells [a, b, c, d, .int .i64 n] t)) := by
  simp only [aStoreOp, aCellsOf, size3, aStore, hg]
  rfl
theorem ld_reg {h : AH} {k : Nat} {a b c d e : AV} {t : TypeId} (hg : h.get k = some (.cells [a, b, c, d, e] t)) : aLoad (CC W) h 77 (.new k 0) = some (.agg [a, b, c, d, e]) := by
  unfold aLoad
  rw [ty77]
  show (aCells (CC W) h (.new k 0) 5).map AV.agg = _
  simp [aCells, hg]
theorem ld_regS : aLoad (CC W) (h.set k (.cells [a, b, c, d, e] t)) 77 (.new k 0) = some (.agg [a, b, c, d, e]) := ld_reg (t := t) (by simp)
theorem ld_shape (hg : h.get k = some (.cells [a, b, c] t)) : aLoad (CC W) h 23 (.new k 0) = some (.agg [a, b, c]) := by
  unfold aLoad
  rw [ty23]
  show (aCells (CC W) h (.new k 0) 3).map AV.agg = _
  simp [aCells, hg]
end

def ofV' (b j n : Int) : AV := match shapeR b j n with
  | some c => .tup [regV j (dataR b j n) c, .int .i64 0]
  | none => .tup [.agg reg0, .int .i64 60]

set_option maxRecDepth 100000 in
set_option maxHeartbeats 8000000 in
theorem of_ret (W : World) (h : AH) (b j n : Int) : RetVk (CC W) 34 [.agg [.int .i64 b, .int .i64 j, .int .i64 n]] h (ofV' b j n) := by
  refine jj9 (cc_ok W) (fn34 W) (by simp only [Try.f34]; rfl) rfl rfl ?_
  have hbx := box_shape (h := h) (l := [.int .i64 b, .int .i64 j, .int .i64 n])
  have hal := alloc_reg (W := W) (h := h.push (.cells [.int .i64 b, .int .i64 j, .int .i64 n] 23))
  have hk2 : Keeps h ((h.push (.cells [.int .i64 b, .int .i64 j, .int .i64 n] 23)).push (.cells reg0 77)) := (Keeps.push _ _).trans (Keeps.push _ _)
  have hgb : ((h.push (.cells [.int .i64 b, .int .i64 j, .int .i64 n] 23)).push (.cells reg0 77)).get h.next = some (.cells [.int .i64 b, .int .i64 j, .int .i64 n] 23) := by simp
  have hg0 : ((h.push (.cells [.int .i64 b, .int .i64 j, .int .i64 n] 23)).push (.cells reg0 77)).get (h.push (.cells [.int .i64 b, .int .i64 j, .int .i64 n] 23)).next = some (.cells reg0 77) := by simp
  have hq0 : h.next ≤ (h.push (.cells [.int .i64 b, .int .i64 j, .int .i64 n] 23)).next ∧ (h.push (.cells [.int .i64 b, .int .i64 j, .int .i64 n] 23)).next < ((h.push (.cells [.int .i64 b, .int .i64 j, .int .i64 n] 23)).push (.cells reg0 77)).next ∧ h.next < (h.push (.cells [.int .i64 b, .int .i64 j, .int .i64 n] 23)).next := by simp
  generalize (h.push (.cells [.int .i64 b, .int .i64 j, .int .i64 n] 23)).push (.cells reg0 77) = h2 at hal hgb hg0 hk2 hq0
  generalize h.push (.cells [.int .i64 b, .int .i64 j, .int .i64 n] 23) = h1 at hbx hal hgb hg0 hq0
  generalize h1.next = k0 at hal hg0 hq0
  have hst0 := st_reg (W := W) (x := 0) (y := 0) (z := 0) (u := 0) (v := 0) hg0
  have hkz : ∀ c, Keeps h (h2.set k0 c) := fun c => hk2.set hq0.1 c
  simp [push_cast, hbx, hal, fa23_0, ld3, ji9 hgb]
  refine jh9 (by simp [fn64]) (in_ret W h2 _ _ _) ?_
  cases c1 : inB b 16 1024 with
  | false =>
    have hv : ofV' b j n = .tup [.agg reg0, .int .i64 60] := by simp [ofV', shapeR, c1]
    rw [hv]
    simp [push_cast, aUnN, build_reg0, reg0, hst0, ld_regS]
    exact hkz _
  | true =>
    simp [push_cast, aUnN, fa23_1, ld3, ji9 hgb]
    refine jh9 (by simp [fn64]) (in_ret W h2 _ _ _) ?_
    cases c2 : inB j 8 256 with
    | false =>
      have hv : ofV' b j n = .tup [.agg reg0, .int .i64 60] := by simp [ofV', shapeR, c2]
      rw [hv]
      simp [push_cast, aUnN, build_reg0, reg0, hst0, ld_regS]
      exact hkz _
    | true =>
      simp [push_cast, aUnN, fa23_2, ld3, ji9 hgb]
      refine jh9 (by simp [fn64]) (in_ret W h2 _ _ _) ?_
      cases c3 : inB n 1 64 with
      | false =>
        have hv : ofV' b j n = .tup [.agg reg0, .int .i64 60] := by simp [ofV', shapeR, c3]
        rw [hv]
        simp [push_cast, aUnN, build_reg0, reg0, hst0, ld_regS]
        exact hkz _
      | true =>
        have hb : 16 ≤ b ∧ b ≤ 1024 := by simpa [inB] using c1
        have hj : 8 ≤ j ∧ j ≤ 256 := by simpa [inB] using c2
        have hn : 1 ≤ n ∧ n ≤ 64 := by simpa [inB] using c3
        have w1 : IntKind.i64.wrap (1 + j) = 1 + j := wrap64 (by omega) (by omega)
        have w2 : IntKind.i64.wrap (2 + j) = 2 + j := wrap64 (by omega) (by omega)
        have w3 : IntKind.i64.wrap (n + 3) = n + 3 := wrap64 (by omega) (by omega)
        have w4 : IntKind.i64.wrap (Int.tdiv (n + 3) 4) = (n + 3) / 4 := by rw [Int.tdiv_eq_ediv_of_nonneg (by omega), wrap64 (by omega) (by omega)]
        have w5 : IntKind.i64.wrap (2 + j + (n + 3) / 4) = dataR b j n := by rw [wrap64 (by omega) (by omega)]; rfl
        have hdr : dataR b j n = 2 + j + (n + 3) / 4 := rfl
        have w6 : IntKind.i64.wrap (b - dataR b j n) = b - dataR b j n := wrap64 (by omega) (by omega)
        have hA := alloc_reg (W := W) (h := h2)
        have hgA : (h2.push (.cells reg0 77)).get h2.next = some (.cells reg0 77) := by simp
        have hkA : Keeps h2 (h2.push (.cells reg0 77)) := Keeps.push _ _
        have hnA : h2.next < (h2.push (.cells reg0 77)).next := by simp
        generalize h2.push (.cells reg0 77) = h3 at hA hgA hkA hnA
        generalize hkk : h2.next = k4 at hA hgA hnA hq0
        have hk04 : k0 ≠ k4 := by omega
        have hs1 := st_reg (W := W) (x := 1) (y := 1 + j) (z := 2 + j) (u := 0) (v := 0) hgA
        obtain ⟨h4, hh4⟩ : ∃ h4, h3.set k4 (.cells [.int .i64 1, .int .i64 (1 + j), .int .i64 (2 + j), .int .i64 0, .int .i64 0] 77) = h4 := ⟨_, rfl⟩
        have hg4 : h4.get k4 = some (.cells [.int .i64 1, .int .i64 (1 + j), .int .i64 (2 + j), .int .i64 0, .int .i64 0] 77) := by rw [← hh4]; simp
        have ho4 : ∀ k, k ≠ k4 → h4.get k = h3.get k := fun k hk => by rw [← hh4]; simp [hk]
        have hn4 : h4.next = h3.next := by rw [← hh4]; rfl
        rw [hh4] at hs1
        have hs3 := st_reg3 (W := W) (n := dataR b j n) hg4
        obtain ⟨h5, hh5⟩ : ∃ h5, h4.set k4 (.cells [.int .i64 1, .int .i64 (1 + j), .int .i64 (2 + j), .int .i64 (dataR b j n), .int .i64 0] 77) = h5 := ⟨_, rfl⟩
        have hg5 : h5.get k4 = some (.cells [.int .i64 1, .int .i64 (1 + j), .int .i64 (2 + j), .int .i64 (dataR b j n), .int .i64 0] 77) := by rw [← hh5]; simp
        have ho5 : ∀ k, k ≠ k4 → h5.get k = h3.get k := fun k hk => by rw [← hh5]; simp [hk, ho4 k hk]
        have hn5 : h5.next = h3.next := by rw [← hh5]; exact hn4
        rw [hh5] at hs3
        have hs4 := st_reg4 (W := W) (n := b - dataR b j n) hg5
        obtain ⟨h6, hh6⟩ : ∃ h6, h5.set k4 (.cells [.int .i64 1, .int .i64 (1 + j), .int .i64 (2 + j), .int .i64 (dataR b j n), .int .i64 (b - dataR b j n)] 77) = h6 := ⟨_, rfl⟩
        have hg6 : h6.get k4 = some (.cells [.int .i64 1, .int .i64 (1 + j), .int .i64 (2 + j), .int .i64 (dataR b j n), .int .i64 (b - dataR b j n)] 77) := by rw [← hh6]; simp
        have ho6 : ∀ k, k ≠ k4 → h6.get k = h3.get k := fun k hk => by rw [← hh6]; simp [hk, ho5 k hk]
        have hn6 : h6.next = h3.next := by rw [← hh6]; exact hn5
        rw [hh6] at hs4
        have hbk : h.next ≠ k4 := by omega
        have hgb3 := (hkA.2 h.next (by omega)).trans hgb
        have hgb4 := (ho4 h.next hbk).trans hgb3
        have hgb5 := (ho5 h.next hbk).trans hgb3
        have hg06 := ((ho6 k0 hk04).trans (hkA.2 k0 (by omega))).trans hg0
        have hK : ∀ c, Keeps h (h6.set k0 c) := fun c => ⟨by simp; have := hk2.1; have := hkA.1; omega, fun k hk => by
          have e1 : k ≠ k0 := by omega
          have e2 : k ≠ k4 := by have := hk2.1; omega
          simp [e1]
          rw [ho6 k e2, hkA.2 k (by have := hk2.1; omega)]
          exact hk2.2 k hk⟩
        by_cases hlt : b - dataR b j n < 4
        · have hv : ofV' b j n = .tup [.agg reg0, .int .i64 60] := by simp [ofV', shapeR, c1, c2, c3, hlt]
          have hst6 := st_reg (W := W) (x := 0) (y := 0) (z := 0) (u := 0) (v := 0) hg06
          rw [hv]
          simp [push_cast, aUnN, fa23_0, fa23_1, fa23_2, ld3, ji9 hgb, ji9 hgb3, ji9 hgb4, ji9 hgb5, w1, w2, build_reg, hA, hs1, fa77_2, fa77_3, fa77_4, ji9 hg4, ji9 hg5, ji9 hg6, w3, w4, w5, w6, hs3, hs4, hlt, build_reg0, reg0, hst6, ld_regS]
          exact hK _
        · have hv : ofV' b j n = .tup [regV j (dataR b j n) (b - dataR b j n), .int .i64 0] := by simp [ofV', shapeR, c1, c2, c3, hlt]
          have hst6 := st_reg (W := W) (x := 1) (y := 1 + j) (z := 2 + j) (u := dataR b j n) (v := b - dataR b j n) hg06
          rw [hv]
          simp [push_cast, aUnN, fa23_0, fa23_1, fa23_2, ld3, ji9 hgb, ji9 hgb3, ji9 hgb4, ji9 hgb5, w1, w2, build_reg, hA, hs1, fa77_2, fa77_3, fa77_4, ji9 hg4, ji9 hg5, ji9 hg6, w3, w4, w5, w6, hs3, hs4, hlt, ld_reg hg6, hst6, ld_regS, regV]
          exact hK _
end Go.Proofs.Ytgcoipcnhmkeaaa.Ax
end

/-! A list of texts that are blocks: is one of a wrong length, and the list copied -/
section
set_option linter.unusedVariables false
set_option linter.unusedSimpArgs false
namespace Go.Proofs.Ytgcoipcnhmkeaaa.Ax
open Go.RowKit

/-- A slice of texts, told at a state and at all that keep it. -/
def StrB (W : World) (h0 : AH) (v : AV) (l : List Bts) : Prop :=
  l = [] ∧ v = .sl none 0 0 none ∨ ∃ a c g, v = .sl (some a) l.length c g ∧ ∀ h, Keeps h0 h → (l ≠ [] → aCells (CC W) h a l.length = some (l.map .str)) ∧ ∀ (i : Nat) x, l[i]? = some x → aLoad (CC W) h 9 (a.add i) = some (.str x)

section
variable {W : World} {h0 : AH} {v : AV} {l : List Bts}
theorem StrB.mono {h1 : AH} (s : StrB W h0 v l) (hk : Keeps h0 h1) : StrB W h1 v l := by
  rcases s with s | ⟨a, c, g, e, s⟩
  · exact .inl s
  · exact .inr ⟨a, c, g, e, fun h h2 => s h (hk.trans h2)⟩
theorem StrB.lenA (s : StrB W h0 v l) (h2 : AH) : aLen (CC W) h2 24 v = some (.int .i64 l.length) := by
  rcases s with ⟨rfl, rfl⟩ | ⟨a, c, g, rfl, _⟩ <;> simp [aLen, kind24]
theorem StrB.at (s : StrB W h0 v l) {i : Nat} (hi : i < l.length) : ∃ a', aIndexAddr (CC W) 24 v (.int .i64 (i : Int)) = some (.ptr (some a')) ∧ ∀ h', Keeps h0 h' → aLoad (CC W) h' 9 a' = some (.str l[i]) := by
  rcases s with ⟨rfl, rfl⟩ | ⟨a, c, g, rfl, s⟩
  · simp at hi
  · refine ⟨a.add i, ?_, fun h' hk => (s h' hk).2 i _ (by simp [hi])⟩
    simp only [aIndexAddr, kind24, size9]
    rw [if_pos (by omega)]
    simp
end

/-- Are all blocks of 128 bytes? The first that is not, else -1. -/
def badAt (l : List Bts) : Int := match (List.range l.length).find? (fun i => decide ((l.getD i []).length ≠ 128)) with
  | some i => i
  | none => -1
theorem badAt_neg {l : List Bts} (h : ∀ i, i < l.length → (l.getD i []).length = 128) : badAt l = -1 := by
  unfold badAt
  have : (List.range l.length).find? (fun i => decide ((l.getD i []).length ≠ 128)) = none := by
    rw [List.find?_range_eq_none]
    intro j hj; have := h j hj; simpa using this
  rw [this]
theorem badAt_at {l : List Bts} {i : Nat} (hi : i < l.length) (hp : (l.getD i []).length ≠ 128) (hno : ∀ j, j < i → (l.getD j []).length = 128) : badAt l = i := by
  unfold badAt
  have : (List.range l.length).find? (fun i => decide ((l.getD i []).length ≠ 128)) = some i := by
    rw [List.find?_range_eq_some]
    refine ⟨by simpa using hp, by simpa using hi, fun j hj => by have := hno j hj; simpa using this⟩
  rw [this]
theorem badAt_iff {l : List Bts} : badAt l ≥ 0 ↔ ∃ x ∈ l, x.length ≠ 128 := by
  by_cases h : ∃ x ∈ l, x.length ≠ 128
  · constructor
    · intro _; exact h
    · intro _
      unfold badAt
      cases hf : (List.range l.length).find? (fun i => decide ((l.getD i []).length ≠ 128)) with
      | some i => simp
      | none =>
        obtain ⟨x, hx, hx2⟩ := h
        obtain ⟨i, hi, rfl⟩ := List.mem_iff_getElem.1 hx
        rw [List.find?_range_eq_none] at hf
        have := hf i hi
        simp [List.getD, hi] at this
        exact absurd this hx2
  · constructor
    · intro hb
      exfalso
      rw [badAt_neg] at hb
      · omega
      · intro i hi
        have hc : ¬ (l[i]).length ≠ 128 := fun hc => h ⟨l[i], List.getElem_mem hi, hc⟩
        simpa [List.getD, hi] using hc
    · intro h2; exact absurd h2 h

theorem newC_ret (W : World) (h : AH) (b : Bts) : RetH (CC W) 36 [.str b] h (.bool (decide (b.length ≠ 128))) := by
  refine jj9 (cc_ok W) (fn36 W) (by simp only [Try.f36]; rfl) rfl rfl ?_
  by_cases hb : b.length = 128
  · have : (b.length : Int) = 128 := by omega
    simp [push_cast, aLen, kind9, this, hb]
  · have : ¬ (b.length : Int) = 128 := by omega
    simp [push_cast, aLen, kind9, this, hb]

def idxBI (h : AH) (v f : AV) (l : List Bts) (m : Nat) (e' : Env) (h' : AH) : Prop :=
  h' = h ∧ e'.length = 19 ∧ ∃ i : Nat, i + m = l.length ∧ (∀ j, j < i → (l.getD j []).length = 128) ∧ (e'.getD 0 .undef = v ∧ e'.getD 1 .undef = f ∧ e'.getD 7 .undef = .int .i64 l.length ∧ e'.getD 8 .undef = .int .i64 i)

set_option maxHeartbeats 4000000 in
theorem idxB_ret (W : World) (h : AH) (v : AV) (l : List Bts) (s : StrB W h v l) (hn : l.length < 9223372036854775807) :
    RetH (CC W) 65 [v, .fn (.func 36) [] []] h (.int .i64 (badAt l)) := by
  refine jj9 (cc_ok W) (fn65 W) (by simp only [Try.f65]; rfl) rfl rfl ?_
  simp [push_cast, s.lenA]
  refine loopN (cc_ok W) (idxBI h v (.fn (.func 36) [] []) l) l.length ⟨rfl, by simp, 0, by simp, fun j hj => by omega, by simp⟩ ?_
  rintro m e' h' ⟨rfl, hlen, i, him, hno, hh⟩
  match e', hlen with
  | a0 :: a1 :: a2 :: a3 :: a4 :: a5 :: a6 :: a7 :: a8 :: a9 :: a10 :: a11 :: a12 :: a13 :: a14 :: a15 :: a16 :: a17 :: a18 :: [], _ =>
    simp at hh
    obtain ⟨rfl, rfl, rfl, rfl⟩ := hh
    by_cases hlt : i < l.length
    · have hlt' : (i : Int) < (l.length : Int) := by omega
      obtain ⟨a', hix, hld⟩ := s.at hlt
      have hld' := hld h' (Keeps.refl _)
      have hg : l.getD i [] = l[i] := by simp [List.getD, hlt]
      simp [push_cast, hlt, hlt', hix, hld']
      refine jh9 (by simp [fn36]) (newC_ret W h' _) ?_
      by_cases hp : (l[i]).length = 128
      · have wi : IntKind.i64.wrap ((i : Int) + 1) = (i : Int) + 1 := wrap64 (by omega) (by omega)
        simp [push_cast, wi, hp]
        exact ⟨m - 1, by omega, rfl, by simp, i + 1, by omega, fun j hj => by
          rcases Nat.lt_or_ge j i with h1 | h1
          · exact hno j h1
          · rw [show j = i by omega, hg]; exact hp, by simp⟩
      · simp [push_cast, hp]
        exact (badAt_at hlt (by rw [hg]; exact hp) hno).symm
    · have hlt' : ¬ (i : Int) < (l.length : Int) := by omega
      simp [push_cast, hlt, hlt']
      exact (badAt_neg fun j hj => hno j (by omega)).symm

theorem contB_ret (W : World) (h : AH) (v : AV) (l : List Bts) (s : StrB W h v l) (hn : l.length < 9223372036854775807) :
    RetH (CC W) 35 [v, .fn (.func 36) [] []] h (.bool (decide (0 ≤ badAt l))) := by
  refine jj9 (cc_ok W) (fn35 W) (by simp only [Try.f35]; rfl) rfl rfl ?_
  simp [push_cast]
  refine jh9 (by simp [fn65]) (idxB_ret W h v l s hn) ?_
  simp [push_cast]

def CloB (h : AH) (l : List Bts) (w : AV) (h' : AH) : Prop := ∃ k c g, w = .sl (some (.new k 0)) l.length c g ∧ h.next ≤ k ∧ k < h'.next ∧ Keeps h h' ∧ h'.get k = some (.cells (l.map .str) 9)
theorem build_noneB {W : World} {h : AH} : aBuildSlice (CC W) h 24 0 [] = some (.sl (some (.new h.next 0)) 0 0 none, h.push (.cells [] 9)) := by
  simp only [aBuildSlice, kind24, size9, zero9]
  rfl
theorem append_strB {W : World} {h0 h : AH} {a : AA} {c : Nat} {g : Option Nat} {l : List Bts} (hk : Keeps h0 (h.push (.cells [] 9))) (s : ∀ h, Keeps h0 h → (l ≠ [] → aCells (CC W) h a l.length = some (l.map .str))) (hl : l.length < 8796093022207) (hpos : l ≠ []) :
    aAppend (CC W) (h.push (.cells [] 9)) #[24, 24] (.sl (some (.new h.next 0)) 0 0 none) (.sl (some a) l.length c g) =
      some (.sl (some (.new (h.next + 1) 0)) l.length l.length (some 1), (h.push (.cells [] 9)).push (.cells (l.map .str) 9)) := by
  have hb : (CC W).bytes 9 = 16 := _root_.id rfl
  have hni : niOK (CC W) #[24, 24] = true := _root_.id rfl
  have h0 : l.length ≠ 0 := fun e => hpos (List.length_eq_zero_iff.1 e)
  have hnews : aNews (CC W) (h.push (.cells [] 9)) 1 (.sl (some a) l.length c g) = some (l.length, l.map .str) := by
    simp [aNews, s _ hk hpos, hpos]
  simp [aAppend, kind24, size9, zero9, hb, hni, hnews, hpos]
  first | omega | exact ⟨by omega, rfl⟩ | rfl

set_option maxHeartbeats 4000000 in
theorem cloneB_ret (W : World) (h : AH) (v : AV) (l : List Bts) (s : StrB W h v l) (hl : l.length < 8796093022207) (hpos : l ≠ []) :
    ACall (CC W) 37 [v] h (CloB h l) (fun _ _ => False) := by
  refine jj9 (cc_ok W) (fn37 W) (by simp only [Try.f37]; rfl) rfl rfl ?_
  rcases s with ⟨rfl, rfl⟩ | ⟨a, c, g, rfl, s⟩
  · exact absurd rfl hpos
  · have hap := append_strB (W := W) (h0 := h) (h := h) (a := a) (c := c) (g := g) (Keeps.push _ _) (fun h' hk => (s h' hk).1) hl hpos
    simp [push_cast, aEq, aEqIn, kind24, build_noneB, hap]
    exact ⟨h.next + 1, l.length, some 1, rfl, by omega, by simp, (Keeps.push _ _).trans (Keeps.push _ _), by simp⟩
end Go.Proofs.Ytgcoipcnhmkeaaa.Ax
end

/-! A new view: the walk -/
section
set_option linter.unusedVariables false
set_option linter.unusedSimpArgs false
namespace Go.Proofs.Ytgcoipcnhmkeaaa.Ax
open Go.RowKit
set_option maxRecDepth 100000

/-- A drawn region with some orders of its effects. -/
theorem drawSd {C : Cx} {Q : Post} {ops : Array Oper} {ks : List Fr} {e : Env} {h : AH} {id : Nat} (Ls : List (List Nat)) (hB : drawB C ops = true) (hc : canons C ops = Ls) (hw : ∀ L ∈ Ls, Sg C Q ops L [] ks e h) : Wc C Q (.region id ops true) ks e h := by
  refine ⟨⟨hB, fun c hcm => ?_⟩⟩
  rw [hc] at hcm
  exact (hw c hcm).out

def newF (b j n : Int) (l : List Bts) : Int := match shapeR b j n with
  | none => 60
  | some _ => if (l.length : Int) ≠ b ∨ 0 ≤ badAt l then 4 else 0
def cfOf (b j n : Int) : Cf := ⟨b.toNat, j.toNat, n.toNat⟩
def dskOf (l : List Bts) : Dsk := fun x => l.getD x []
def NewV (b j n : Int) (l : List Bts) (h : AH) (w : AV) (h' : AH) : Prop :=
  Keeps h h' ∧ if newF b j n l = 0 then (∃ R, w = .tup [.ptr (some (.new R.kv 0)), .int .i64 0] ∧ VIs h' R (cfOf b j n) (dskOf l) (dskOf l) none ∧ h.next ≤ R.kv ∧ h.next ≤ R.kb ∧ h.next ≤ R.ko) else w = .tup [.ptr none, .int .i64 (newF b j n l)]
theorem shapeR_ok {b j n c : Int} (h : shapeR b j n = some c) : (cfOf b j n).OK ∧ b = ((cfOf b j n).B : Int) ∧ j = ((cfOf b j n).J : Int) ∧ n = ((cfOf b j n).N : Int) ∧ dataR b j n = ((cfOf b j n).dt : Int) ∧ c = (((cfOf b j n).B - (cfOf b j n).dt : Nat) : Int) := by
  unfold shapeR at h
  split at h
  · rename_i hc
    simp only [inB, Bool.and_eq_true, decide_eq_true_eq] at hc
    obtain ⟨⟨b1, b2⟩, ⟨j1, j2⟩, n1, n2⟩ := hc
    split at h
    · cases h
    · rename_i hd
      simp only [Option.some.injEq] at h
      unfold dataR at hd h
      simp only [cfOf, Cf.dt, dataR]
      refine ⟨⟨by simp only; omega, by simp only; omega, by simp only; omega, by simp only; omega, by simp only; omega, by simp only; omega, by simp only [Cf.dt]; omega⟩, by omega, by omega, by omega, by omega, by omega⟩
  · cases h

def vw0 (c : Cf) (kb n cap : Nat) (g : Option Nat) (ko : Nat) : List AV := vwC c (.sl (some (.new kb 0)) n cap g) (.map (some ko)) (.map none)
theorem build_vw {W : World} {c : Cf} {kb n cap : Nat} {g : Option Nat} {ko : Nat} :
    aBuild (CC W) 85 [(0, .agg [.int .i64 c.B, .int .i64 c.J, .int .i64 c.N]), (1, .agg [.int .i64 1, .int .i64 c.bm, .int .i64 c.tb, .int .i64 c.dt, .int .i64 ((c.B - c.dt : Nat) : Int)]), (2, .sl (some (.new kb 0)) n cap g), (3, .map (some ko)), (4, .map none)] = some (.agg (vw0 c kb n cap g ko)) := rfl

theorem vis_new {h' : AH} {c : Cf} (ok : c.OK) {l : List Bts} {kv kb ko cap : Nat} {g : Option Nat} (hl : l.length = c.B) (hb : badAt l < 0) (hv : h'.get kv = some (.cells (vw0 c kb l.length cap g ko) 85)) (hB : h'.get kb = some (.cells (l.map .str) 9)) (ho : h'.get ko = some (.map [] 0))
    (lv : kv < h'.next) (lb : kb < h'.next) (lo : ko < h'.next) (n1 : kv ≠ kb) (n2 : kv ≠ ko) (n3 : kb ≠ ko) : VIs h' ⟨kv, kb, ko, none⟩ c (dskOf l) (dskOf l) none := by
  refine ⟨ok, ⟨cap, g, by rw [hv, ← hl]; rfl⟩, ⟨_, hB, fun x hx => ?_⟩, ⟨fun _ => none, ⟨lo, fun x b hb => by simp at hb, [], 0, ho, ?_, by simp, by simp⟩, fun x => rfl, fun x b hb => by simp at hb⟩, trivial, lv, lb, lo, n1, n2, n3⟩
  · have hx' : x < l.length := by omega
    have h128 : (l[x]).length = 128 := by
      refine Decidable.byContradiction fun hc => ?_
      have := badAt_iff.2 ⟨l[x], List.getElem_mem hx', hc⟩
      omega
    simp [dskOf, List.getD, hx', h128]
  · exact okEs_ok (by rfl)

set_option maxHeartbeats 8000000 in
theorem newV_ret (W : World) (h : AH) (b j n : Int) (v : AV) (l : List Bts) (s : StrB W h v l) :
    ACall (CC W) 11 [.agg [.int .i64 b, .int .i64 j, .int .i64 n], v] h (NewV b j n l h) (fun _ _ => False) := by
  refine jj9 (cc_ok W) (fn11 W) (by simp only [Try.f11]; rfl) rfl rfl ?_
  have hbx := box_shape (h := h) (l := [.int .i64 b, .int .i64 j, .int .i64 n])
  have hk1 : Keeps h (h.push (.cells [.int .i64 b, .int .i64 j, .int .i64 n] 23)) := Keeps.push _ _
  have hgb : (h.push (.cells [.int .i64 b, .int .i64 j, .int .i64 n] 23)).get h.next = some (.cells [.int .i64 b, .int .i64 j, .int .i64 n] 23) := by simp
  have hn1 : h.next < (h.push (.cells [.int .i64 b, .int .i64 j, .int .i64 n] 23)).next := by simp
  generalize h.push (.cells [.int .i64 b, .int .i64 j, .int .i64 n] 23) = h1 at hbx hk1 hgb hn1
  generalize hkb : h.next = kb at hbx hgb hn1
  simp [push_cast, hbx, ld_shape hgb]
  refine callK_RetVk (by simp [fn34]) (of_ret W h1 b j n) fun h2 hk2 => ?_
  have hgb2 := (hk2.2 kb hn1).trans hgb
  have hA := alloc_reg (W := W) (h := h2)
  have hgA : (h2.push (.cells reg0 77)).get h2.next = some (.cells reg0 77) := by simp
  have hK3 : Keeps h ((h2.push (.cells reg0 77))) := (hk1.trans hk2).trans (Keeps.push _ _)
  have hgb3 : (h2.push (.cells reg0 77)).get kb = some (.cells [.int .i64 b, .int .i64 j, .int .i64 n] 23) := by
    have : kb ≠ h2.next := by have := hk2.1; omega
    simp [this, hgb2]
  have hn3 : h2.next < (h2.push (.cells reg0 77)).next := by simp
  have hlow2 : h.next ≤ h2.next ∧ kb < h2.next := by have := hk1.1; have := hk2.1; omega
  generalize h2.push (.cells reg0 77) = h3 at hA hgA hK3 hgb3 hn3
  generalize h2.next = k4 at hA hgA hn3 hlow2
  have hk4b : kb ≠ k4 := by omega
  cases hsh : shapeR b j n with
  | none =>
    have hv : ofV' b j n = .tup [.agg reg0, .int .i64 60] := by simp [ofV', hsh]
    have hst := st_reg (W := W) (x := 0) (y := 0) (z := 0) (u := 0) (v := 0) hgA
    have hnf : newF b j n l = 60 := by simp [newF, hsh]
    rw [hv]
    simp [push_cast, hA, reg0, hst]
    exact ⟨hK3.set hlow2.1 _, by rw [hnf]; simp⟩
  | some d =>
    have hv : ofV' b j n = .tup [regV j (dataR b j n) d, .int .i64 0] := by simp [ofV', hsh]
    obtain ⟨hok, eb, ej, en, ed, ec⟩ := shapeR_ok hsh
    have hst := st_reg (W := W) (x := 1) (y := 1 + j) (z := 2 + j) (u := dataR b j n) (v := d) hgA
    have hK4 := hK3.set hlow2.1 (.cells [.int .i64 1, .int .i64 (1 + j), .int .i64 (2 + j), .int .i64 (dataR b j n), .int .i64 d] 77)
    have hg4 : (h3.set k4 (.cells [.int .i64 1, .int .i64 (1 + j), .int .i64 (2 + j), .int .i64 (dataR b j n), .int .i64 d] 77)).get k4 = some (.cells [.int .i64 1, .int .i64 (1 + j), .int .i64 (2 + j), .int .i64 (dataR b j n), .int .i64 d] 77) := by simp
    have hgb4 : (h3.set k4 (.cells [.int .i64 1, .int .i64 (1 + j), .int .i64 (2 + j), .int .i64 (dataR b j n), .int .i64 d] 77)).get kb = some (.cells [.int .i64 b, .int .i64 j, .int .i64 n] 23) := by simp [hk4b, hgb3]
    have hn4 : k4 < (h3.set k4 (.cells [.int .i64 1, .int .i64 (1 + j), .int .i64 (2 + j), .int .i64 (dataR b j n), .int .i64 d] 77)).next := by simp; exact hn3
    obtain ⟨h4, hh4⟩ : ∃ h4, h3.set k4 (.cells [.int .i64 1, .int .i64 (1 + j), .int .i64 (2 + j), .int .i64 (dataR b j n), .int .i64 d] 77) = h4 := ⟨_, rfl⟩
    rw [hh4] at hst hK4 hg4 hgb4 hn4
    have hs4 := s.mono hK4
    rw [hv]
    simp only [regV]
    generalize hcf : cfOf b j n = c at hok eb ej en ed ec
    have e1 : 1 + j = (c.bm : Int) := by rw [ej]; simp [Cf.bm]
    have e2 : 2 + j = (c.tb : Int) := by rw [ej]; simp [Cf.tb]
    by_cases hbd : (l.length : Int) ≠ b ∨ 0 ≤ badAt l
    · have hnf : newF b j n l = 4 := by simp [newF, hsh, hbd]
      by_cases hlb : (l.length : Int) = b
      · have hl : l.length < 8796093022207 := by have := hok.b2; omega
        have hb0 : 0 ≤ badAt l := by rcases hbd with h' | h'; exact absurd hlb h'; exact h'
        simp [push_cast, hA, hst, hs4.lenA, fa23_0, ld3, ji9 hgb4, hlb]
        refine jh9 (by simp [fn35]) (contB_ret W h4 v l hs4 (by omega)) ?_
        simp [push_cast, hb0]
        exact ⟨hK4, by rw [hnf]; simp⟩
      · have hne : ((l.length : Int) != b) = true := by simpa using hlb
        simp [push_cast, hA, hst, hs4.lenA, fa23_0, ld3, ji9 hgb4, hne]
        exact ⟨hK4, by rw [hnf]; simp⟩
    · have hnf : newF b j n l = 0 := by simp only [newF, hsh]; rw [if_neg hbd]
      have hlb : (l.length : Int) = b := Decidable.byContradiction fun hc => hbd (.inl hc)
      have hb0 : ¬ 0 ≤ badAt l := fun hc => hbd (.inr hc)
      have hll : l.length = c.B := by omega
      have hl : l.length < 8796093022207 := by have := hok.b2; omega
      have hpos : l ≠ [] := fun e => by subst e; have := hok.b1; simp at hlb; omega
      simp [push_cast, hA, hst, hs4.lenA, fa23_0, ld3, ji9 hgb4, hlb]
      refine jh9 (by simp [fn35]) (contB_ret W h4 v l hs4 (by omega)) ?_
      simp [push_cast, hb0]
      have hbv := fun kb' cap g ko => build_vw (W := W) (c := c) (kb := kb') (n := l.length) (cap := cap) (g := g) (ko := ko)
      rw [← eb, ← ej, ← en, ← e1, ← e2, ← ed, ← ec] at hbv
      refine drawSd [[0, 1, 2, 3, 4, 5, 6, 7, 8], [0, 1, 2, 4, 3, 5, 6, 7, 8]] (by kernel_rfl) (by kernel_rfl) ?_
      intro L hL
      simp only [List.mem_cons, List.not_mem_nil, or_false] at hL
      rcases hL with rfl | rfl
      · simp [push_cast, zx9, zy9, SgO, opA, isE, isRead, ld_shape hgb4, ld_reg hg4]
        refine jb9 (f := 37) (args := [v]) (by rfl) (by rfl) (by rfl) (by simp [fn37]) (cloneB_ret W h4 v l hs4 hl hpos) ?_
        rintro w h5 ⟨k5, cap, g, rfl, l5, m5, hk5, hg5⟩
        have hgb5 := (hk5.2 kb (by omega)).trans hgb4
        have hg45 := (hk5.2 k4 (by omega)).trans hg4
        refine ⟨?_, ?_⟩
        · simp [zz9, ja9, push_cast, opA, ld_shape hgb5, ld_reg hg45]
        simp [push_cast, zx9, zy9, SgO, opA, isE, isRead]
        refine jc9 (v := .map (some h5.next)) (h' := h5.push (.map [] 0)) (by rfl) (by rfl) ⟨?_, ?_⟩
        · have n1 : kb ≠ h5.next := by have := hk5.1; omega
          have n2 : k4 ≠ h5.next := by have := hk5.1; omega
          have hgb6 : (h5.push (.map [] 0)).get kb = _ := (by simp [n1] : (h5.push (.map [] 0)).get kb = h5.get kb).trans hgb5
          have hg46 : (h5.push (.map [] 0)).get k4 = _ := (by simp [n2] : (h5.push (.map [] 0)).get k4 = h5.get k4).trans hg45
          simp [zz9, ja9, push_cast, opA, ld_shape hgb6, ld_reg hg46]
        simp [push_cast, zx9, zy9, SgO, opA, isE, isRead, hbv]
        have hkF : Keeps h ((h5.push (.map [] 0)).push (.cells (vw0 c k5 l.length cap g h5.next) 85)) := ((hK4.trans hk5).trans (Keeps.push _ _)).trans (Keeps.push _ _)
        refine jc9 (v := .ptr (some (.new (h5.next + 1) 0))) (h' := (h5.push (.map [] 0)).push (.cells (vw0 c k5 l.length cap g h5.next) 85)) (by rfl) (by rfl) ⟨?_, ?_⟩
        · repeat refine zz9 ▸ ⟨fun hc => absurd (hc.symm.trans (show _ = true by kernel_rfl)) (by decide), ?_⟩
          exact ja9 ▸ trivial
        simp [push_cast, zy9, thenQ]
        have n1 : k5 ≠ h5.next := by omega
        have n2 : k5 ≠ h5.next + 1 := by omega
        have hh := hK4.1
        exact ⟨hkF, by rw [if_pos hnf]; exact ⟨⟨h5.next + 1, k5, h5.next, none⟩, rfl, by rw [hcf]; exact vis_new (cap := cap) (g := g) hok hll (by omega) (by simp) (by simp [n1, n2]; exact hg5) (by simp) (by simp) (by simp; omega) (by simp; omega) (by omega) (by omega) n1, by show h.next ≤ h5.next + 1; have := hk5.1; omega, by show h.next ≤ k5; omega, by show h.next ≤ h5.next; have := hk5.1; omega⟩⟩
      · simp [push_cast, zx9, zy9, SgO, opA, isE, isRead, ld_shape hgb4, ld_reg hg4]
        have hkM : Keeps h4 (h4.push (.map [] 0)) := Keeps.push _ _
        have hgM : (h4.push (.map [] 0)).get h4.next = some (.map [] 0) := by simp
        have hnM : h4.next < (h4.push (.map [] 0)).next := by simp
        refine jc9 (v := .map (some h4.next)) (h' := h4.push (.map [] 0)) (by rfl) (by rfl) ?_
        generalize h4.push (.map [] 0) = hM at hkM hgM hnM ⊢
        have hgbM := (hkM.2 kb (by omega)).trans hgb4
        have hg4M := (hkM.2 k4 (by omega)).trans hg4
        refine ⟨?_, ?_⟩
        · simp [zz9, ja9, push_cast, opA, ld_shape hgbM, ld_reg hg4M]
        simp [push_cast, zx9, zy9, SgO, opA, isE, isRead]
        refine jb9 (f := 37) (args := [v]) (by rfl) (by rfl) (by rfl) (by simp [fn37]) (cloneB_ret W hM v l (hs4.mono hkM) hl hpos) ?_
        rintro w h5 ⟨k5, cap, g, rfl, l5, m5, hk5, hg5⟩
        have hgb5 := (hk5.2 kb (by have := hkM.1; omega)).trans hgbM
        have hg45 := (hk5.2 k4 (by have := hkM.1; omega)).trans hg4M
        have hgm5 := (hk5.2 h4.next hnM).trans hgM
        refine ⟨?_, ?_⟩
        · simp [zz9, ja9, push_cast, opA, ld_shape hgb5, ld_reg hg45]
        simp [push_cast, zx9, zy9, SgO, opA, isE, isRead, hbv]
        have hkF : Keeps h (h5.push (.cells (vw0 c k5 l.length cap g h4.next) 85)) := ((hK4.trans hkM).trans hk5).trans (Keeps.push _ _)
        refine jc9 (v := .ptr (some (.new h5.next 0))) (h' := h5.push (.cells (vw0 c k5 l.length cap g h4.next) 85)) (by rfl) (by rfl) ⟨?_, ?_⟩
        · repeat refine zz9 ▸ ⟨fun hc => absurd (hc.symm.trans (show _ = true by kernel_rfl)) (by decide), ?_⟩
          exact ja9 ▸ trivial
        simp [push_cast, zy9, thenQ]
        have n1 : k5 ≠ h5.next := by omega
        have n2 : h4.next ≠ h5.next := by have := hk5.1; omega
        have hh := hK4.1
        have hh2 := hkM.1
        have hh3 := hk5.1
        exact ⟨hkF, by rw [if_pos hnf]; exact ⟨⟨h5.next, k5, h4.next, none⟩, rfl, by rw [hcf]; exact vis_new (cap := cap) (g := g) hok hll (by omega) (by simp) (by simp [n1]; exact hg5) (by simp [n2]; exact hgm5) (by simp) (by simp; omega) (by simp; omega) (by omega) (by omega) (by omega), by show h.next ≤ h5.next; omega, by show h.next ≤ k5; omega, by show h.next ≤ h4.next; omega⟩⟩
end Go.Proofs.Ytgcoipcnhmkeaaa.Ax
end

/-! A view's Changes: the walk -/
section
set_option linter.unusedVariables false
set_option linter.unusedSimpArgs false
namespace Go.Proofs.Ytgcoipcnhmkeaaa.Ax
open Go.RowKit

theorem okEs_ofD {es : List AEnt} {clock : Nat} (h : OkEs es clock) : okEs es clock = true := by
  simp only [okEs, Bool.and_eq_true, List.all_eq_true, decide_eq_true_eq, nodupN_iff, nodupI_iff]
  exact ⟨⟨⟨⟨h.ints, h.below⟩, h.borns⟩, h.keys⟩, h.few⟩
theorem box_mapD {h : AH} {x : Option Nat} : aBox h 83 (.map x) = some (.ptr (some (.new h.next 0)), h.push (.cells [.map x] 83)) := rfl
theorem keysD_ret (W : World) (h : AH) (x : Option Nat) :
    ACall (CC W) 39 [.map x] h (fun w h' => w = .fn (.func 68) [] [.ptr (some (.new h.next 0))] ∧ h' = h.push (.cells [.map x] 83)) (fun _ _ => False) := by
  refine jj9 (cc_ok W) (fn39 W) (by simp only [Try.f39]; rfl) rfl rfl ?_
  simp [push_cast, box_mapD]

/-- The numbers that a map knows, rising. -/
def keysG (g : Nat → Option Bts) : List Nat := (List.range 1024).filter fun x => (g x).isSome
theorem keysG_mem {g : Nat → Option Bts} {x : Nat} (hx : x ∈ keysG g) : x < 1024 ∧ ∃ b, g x = some b := by
  simp only [keysG, List.mem_filter, List.mem_range] at hx
  exact ⟨hx.1, Option.isSome_iff_exists.1 hx.2⟩
theorem keysG_len (g : Nat → Option Bts) : (keysG g).length ≤ 1024 := by
  have := List.length_filter_le (fun x => (g x).isSome) (List.range 1024)
  simpa [keysG] using this
theorem keys_sorted {g : Nat → Option Bts} {es : List AEnt} {clock : Nat} (ok : OkEs es clock) (h1 : ∀ e ∈ es, ∃ (x : Nat) (b : Bts), e.key = .int .i64 x ∧ e.val = .str b ∧ g x = some b) (h2 : ∀ x b, g x = some b → ∃ e ∈ es, e.key = .int .i64 (x : Int)) (h3 : ∀ x b, g x = some b → x < 1024 ∧ b.length = 128) :
    sortI (es.map intKey) = (keysG g).map Int.ofNat := by
  have hp : (es.map intKey).Perm ((keysG g).map Int.ofNat) := by
    refine (List.perm_ext_iff_of_nodup ok.keys ?_).2 fun z => ?_
    · refine List.Pairwise.map _ (R := fun a b : Nat => a ≠ b) (fun a b h e => h (Int.ofNat.inj e)) (List.Pairwise.filter _ List.nodup_range)
    · simp only [List.mem_map]
      constructor
      · rintro ⟨e, he, rfl⟩
        obtain ⟨x, b, k1, _, k3⟩ := h1 e he
        exact ⟨x, by simp [keysG, (h3 x b k3).1, k3], by rw [intKey_of k1]; rfl⟩
      · rintro ⟨x, hx, rfl⟩
        obtain ⟨_, b, hb⟩ := keysG_mem hx
        obtain ⟨e, he, hk⟩ := h2 x b hb
        exact ⟨e, he, by rw [intKey_of hk]; rfl⟩
  refine List.Perm.eq_of_pairwise (le := fun a b : Int => a ≤ b) (fun a b _ _ h1 h2 => Int.le_antisymm h1 h2) (sortI_sorted _) ?_ ((sortI_perm _).trans hp)
  refine List.Pairwise.map _ (R := fun a b : Nat => a ≤ b) (fun a b h => by show (a : Int) ≤ b; omega) ?_
  exact ((List.pairwise_lt_range (n := 1024)).imp fun h => Nat.le_of_lt h).filter _
theorem sortedG_ret (W : World) (h : AH) (ko : Nat) (g : Nat → Option Bts) (o : OvIs h ko g) :
    ACall (CC W) 38 [.fn (.func 68) [] [.ptr (some (.new h.next 0))]] (h.push (.cells [.map (some ko)] 83)) (fun w h' => Keeps h h' ∧ IntS h' w ((keysG g).map Int.ofNat)) (fun _ _ => False) := by
  have hbox : (h.push (.cells [.map (some ko)] 83)).get h.next = some (.cells [.map (some ko)] 83) := by simp
  obtain ⟨es, clock, hg, hok, h1, h2⟩ := o.map
  have hks := keys_sorted hok h1 h2 o.some_lt
  have hg' : (h.push (.cells [.map (some ko)] 83)).get ko = some (.map es clock) := by
    have := o.lt
    rw [AH.get_push, if_neg (by omega)]; exact hg
  rw [← hks]
  cases es with
  | nil =>
    have := sorted_known W 38 [.fn (.func 68) [] [.ptr (some (.new h.next 0))]] (h.push (.cells [.map (some ko)] 83)) (.sl none 0 0 none, h.push (.cells [.map (some ko)] 83)) (by simp [sortedKn, hg', okEs_ofD hok])
    exact this.mono (fun w h' hw => ⟨by rw [hw.2]; exact Keeps.push _ _, .inl ⟨rfl, hw.1⟩⟩) fun _ _ x => x
  | cons e es =>
    have := sorted_known W 38 [.fn (.func 68) [] [.ptr (some (.new h.next 0))]] (h.push (.cells [.map (some ko)] 83)) _ (by simp [sortedKn, hg', okEs_ofD hok]; rfl)
    refine this.mono (fun w h' hw => ⟨by rw [hw.2]; exact (Keeps.push _ _).trans (Keeps.push _ _), .inr ⟨(h.push (.cells [.map (some ko)] 83)).next, es.length + 1, some 1, ?_, ?_, ?_⟩⟩) fun _ _ x => x
    · rw [hw.2]; simp
    · rw [hw.1]
      have : (sortI ((e :: es).map intKey)).length = es.length + 1 := by
        rw [(sortI_perm _).length_eq]; simp
      simp only [List.map_cons] at this
      simp [this]
    · rw [hw.2]
      simp [ints]

/-! ### lists of changes -/
def chC (p : Nat × Bts) : List AV := [.int .i64 p.1, .str p.2]
def chCs (l : List (Nat × Bts)) : List AV := l.flatMap chC
theorem chCs_len (l : List (Nat × Bts)) : (chCs l).length = l.length * 2 := by
  induction l with
  | nil => rfl
  | cons p l ih => simp only [chCs, List.flatMap_cons, List.length_append, List.length_cons] at ih ⊢; rw [ih]; simp [chC]; omega
theorem chCs_at {l : List (Nat × Bts)} {i : Nat} {p : Nat × Bts} (hp : l[i]? = some p) : ((chCs l).drop (i * 2)).take 2 = chC p := by
  induction l generalizing i with
  | nil => simp at hp
  | cons q l ih =>
    cases i with
    | zero => simp at hp; subst hp; simp [chCs, chC]
    | succ i =>
      simp at hp
      have := ih hp
      rw [show (i + 1) * 2 = i * 2 + 2 by omega]
      simp only [chCs, List.flatMap_cons, chC, List.cons_append, List.nil_append, List.drop_succ_cons] at this ⊢
      exact this
/-- A list of changes in an own block, behind a state. -/
def OwnC (h0 h : AH) (v : AV) (l : List (Nat × Bts)) : Prop :=
  Keeps h0 h ∧ (l = [] ∧ v = .sl none 0 0 none ∨ ∃ k, h0.next ≤ k ∧ k < h.next ∧ h.get k = some (.cells (chCs l) 91) ∧ v = .sl (some (.new k 0)) l.length l.length (some 2))
theorem OwnC.start (h : AH) : OwnC h h (.sl none 0 0 none) [] := ⟨Keeps.refl _, .inl ⟨rfl, rfl⟩⟩
theorem build_ch {W : World} {x : Nat} {b : Bts} : aBuild (CC W) 91 [(0, .int .i64 x), (1, .str b)] = some (.agg (chC (x, b))) := rfl
theorem build_chs {W : World} {h : AH} {p : Nat × Bts} : aBuildSlice (CC W) h 36 1 [(0, .agg (chC p))] = some (.sl (some (.new h.next 0)) 1 1 none, h.push (.cells (chC p) 91)) := rfl
theorem append_ch {W : World} {h0 h : AH} {v : AV} {l : List (Nat × Bts)} {p : Nat × Bts} (ho : OwnC h0 h v l) (hl : l.length < 1000000000000) :
    ∃ v' h', aAppend (CC W) (h.push (.cells (chC p) 91)) #[36, 36] v (.sl (some (.new h.next 0)) 1 1 none) = some (v', h') ∧ OwnC h0 h' v' (l ++ [p]) := by
  obtain ⟨hk, ho⟩ := ho
  have hb : (CC W).bytes 91 = 24 := _root_.id rfl
  have hni : niOK (CC W) #[36, 36] = true := _root_.id rfl
  have hnews : aNews (CC W) (h.push (.cells (chC p) 91)) 2 (.sl (some (.new h.next 0)) 1 1 none) = some (1, chC p) := by
    simp [aNews, aCells, chC]
  have hone : (chC p).all aOne = true := by simp [chC, aOne]
  have h4 : chCs (l ++ [p]) = chCs l ++ chC p := by simp [chCs]
  rcases ho with ⟨rfl, rfl⟩ | ⟨k, h1, h2, h3, rfl⟩
  · refine ⟨.sl (some (.new (h.next + 1) 0)) 1 1 (some 2), (h.push (.cells (chC p) 91)).push (.cells (chC p) 91), ?_, (hk.trans (Keeps.push _ _)).trans (Keeps.push _ _), .inr ⟨h.next + 1, by have := hk.1; omega, by simp, by simp [chCs], by simp⟩⟩
    simp [aAppend, kind36, size91, zero91, hb, hni, hnews]
  · have hne : k ≠ h.next := by omega
    have hlen := chCs_len l
    refine ⟨.sl (some (.new (h.next + 1) 0)) (l.length + 1) (l.length + 1) (some 2), ((h.push (.cells (chC p) 91)).kill k).push (.cells (chCs l ++ chC p) 91), ?_, ⟨?_, fun j hj => ?_⟩, .inr ⟨h.next + 1, by have := hk.1; omega, by simp [AH.next_kill'], by simp [AH.next_kill', h4], by simp⟩⟩
    · generalize chCs l = cs at hlen h3
      generalize chC p = c1 at hnews hone
      have h3' : (h.push (.cells c1 91)).get k = some (.cells cs 91) := by simp [hne, h3]
      simp only [List.all_eq_true] at hone
      simp [aAppend, kind36, size91, zero91, hb, hni, hnews, hne, h3, AH.next_kill', hlen]
      rw [if_neg (by omega), if_pos (by omega)]
      rw [if_pos hone]
    · simp [AH.next_kill']; have := hk.1; omega
    · have := hk.1
      rw [AH.get_push, AH.next_kill', if_neg (by simp; omega), AH.get_kill', if_neg (by omega), AH.get_push, if_neg (by omega)]
      exact hk.2 j hj

/-! ### the walk -/
theorem OvIs.look1 {W : World} {h : AH} {ko : Nat} {g : Nat → Option Bts} (o : OvIs h ko g) {x : Nat} {b : Bts} (hg : g x = some b) :
    aLookup (CC W) h 83 (.map (some ko)) (.int .i64 (x : Int)) false = some (.str b) := by
  have hkd : (CC W).kind 83 = .map 3 9 := rfl
  have hkey : aKey (CC W) 100 3 (.int .i64 (x : Int)) = true := rfl
  have hz : (CC W).zero 9 = some [.str []] := rfl
  obtain ⟨es, clock, h1, h2, h3, h4⟩ := o.map
  have hk : ∀ e ∈ es, ∃ x : Nat, e.key = .int .i64 x := fun e he => by obtain ⟨y, b, h5, _⟩ := h3 e he; exact ⟨y, h5⟩
  obtain ⟨e, he, hx⟩ := h4 x b hg
  obtain ⟨l1, l2, rfl, h5, h6⟩ := ents_split h2 hk he hx
  obtain ⟨y, b', h7, h8, h9⟩ := h3 e (by simp)
  have hy : y = x := by rw [hx] at h7; have := AV.int.inj h7; omega
  rw [hy, hg] at h9
  have hf := find_at (W := W) (l2 := l2) (i := 0) h5 hx
  simp only [aLookup, hkd, hkey, if_true, h1, hf, Option.bind]
  rw [h8, Option.some.inj h9]
  rfl
def chgs (base f : Dsk) (ks : List Nat) : List (Nat × Bts) := ks.filterMap fun x => if f x = base x then none else some (x, f x)
theorem filterMap_same {α β : Type} {f g : α → Option β} : ∀ {l : List α}, (∀ x ∈ l, f x = g x) → l.filterMap f = l.filterMap g
  | [], _ => rfl
  | x :: l, h => by
    rw [List.filterMap_cons, List.filterMap_cons, h x (by simp), filterMap_same fun y hy => h y (by simp [hy])]
theorem chgs_keys {c : Cf} (hB : c.B ≤ 1024) {base f : Dsk} {g : Nat → Option Bts} (hf : ∀ x, f x = (g x).getD (base x)) (hg : ∀ x b, g x = some b → x < c.B) : chgs base f (keysG g) = vChanges c base f := by
  unfold chgs keysG vChanges
  rw [List.filterMap_filter]
  have e : List.range 1024 = List.range c.B ++ (List.range (1024 - c.B)).map (c.B + ·) := by
    rw [← List.range_add]; congr 1; omega
  rw [e, List.filterMap_append]
  have e2 : ((List.range (1024 - c.B)).map (c.B + ·)).filterMap (fun x => if (g x).isSome = true then (if f x = base x then none else some (x, f x)) else none) = [] := by
    rw [List.filterMap_eq_nil_iff]
    intro x hx
    obtain ⟨y, _, rfl⟩ := List.mem_map.1 hx
    cases hgx : g (c.B + y) with
    | none => simp
    | some b => have := hg _ _ hgx; omega
  rw [e2, List.append_nil]
  refine filterMap_same fun x _ => ?_
  cases hgx : g x with
  | none => have : f x = base x := by rw [hf, hgx]; rfl
            simp [this]
  | some b => simp

def ChI (h0 : AH) (base f : Dsk) (ks : List Nat) (R : VR) (kv : AV) (m : Nat) (e' : Env) (h' : AH) : Prop :=
  e'.length = 46 ∧ ∃ i : Nat, i + m = ks.length ∧ OwnC h0 h' (e'.getD 3 .undef) (chgs base f (ks.take i)) ∧ (e'.getD 0 .undef = .ptr (some (.new R.kv 0)) ∧ e'.getD 13 .undef = kv ∧ e'.getD 14 .undef = .int .i64 ks.length ∧ e'.getD 15 .undef = .int .i64 i)
theorem OwnC.le {h00 h0 h : AH} {v : AV} {l : List (Nat × Bts)} (ho : OwnC h0 h v l) (hk : Keeps h00 h0) : OwnC h00 h v l := by
  obtain ⟨a, b⟩ := ho
  refine ⟨hk.trans a, ?_⟩
  rcases b with b | ⟨k, b, d⟩
  · exact .inl b
  · exact .inr ⟨k, Nat.le_trans hk.1 b, d⟩

set_option maxRecDepth 100000 in
set_option maxHeartbeats 8000000 in
theorem vw_changes (W : World) {h : AH} {R : VR} {c : Cf} {base f : Dsk} {w : Option Dsk} (v : VIs h R c base f w) :
    ACall (CC W) 13 [.ptr (some (.new R.kv 0))] h (fun r h' => OwnC h h' r (vChanges c base f)) (fun _ _ => False) := by
  refine jj9 (cc_ok W) (fn13 W) (by simp only [Try.f13]; rfl) rfl rfl ?_
  obtain ⟨cap, gr, hv⟩ := v.v
  obtain ⟨g, ho, hf, hgB⟩ := v.o
  obtain ⟨cs, hb, hcs⟩ := v.b
  have hov := ld_map (W := W) (o := 9) hv rfl
  simp [push_cast, jd9, aEq, kindEq1, aEq1, fa85_3, hov, kind26]
  refine je9 (by simp [fn39]) (keysD_ret W h (some R.ko)) fun w1 h1 ⟨hw, hh1⟩ => ?_
  subst hw; subst hh1
  simp [push_cast]
  refine je9 (by simp [fn38]) (sortedG_ret W h R.ko g ho) fun kv h2 ⟨hk2, hks⟩ => ?_
  have hlen := hks.len (W := W)
  have hkl := keysG_len g
  have hkm := @keysG_mem g
  have hend := chgs_keys v.ok.b2 hf hgB
  simp only [List.length_map] at hlen
  generalize hkse : keysG g = ks at hks hlen hkl hkm hend
  simp [push_cast, hlen]
  refine loopN (cc_ok W) (ChI h2 base f ks R kv) ks.length ⟨by simp, 0, by simp, by simpa [chgs] using OwnC.start h2, by simp⟩ ?_
  rintro m e' h' ⟨hlen', i, him, hoc, hh⟩
  obtain ⟨a0, a1, a2, a3, a4, a5, a6, a7, a8, a9, rS0, rfl, hS0⟩ := un10 hlen'
  obtain ⟨a10, a11, a12, a13, a14, a15, a16, a17, a18, a19, rS10, rfl, hS10⟩ := un10 hS0
  obtain ⟨a20, a21, a22, a23, a24, a25, a26, a27, a28, a29, rS20, rfl, hS20⟩ := un10 hS10
  obtain ⟨a30, a31, a32, a33, a34, a35, a36, a37, a38, a39, rS30, rfl, hS30⟩ := un10 hS20
  obtain ⟨a40, rS40, rfl, hS40⟩ := un1 hS30
  obtain ⟨a41, rS41, rfl, hS41⟩ := un1 hS40
  obtain ⟨a42, rS42, rfl, hS42⟩ := un1 hS41
  obtain ⟨a43, rS43, rfl, hS43⟩ := un1 hS42
  obtain ⟨a44, rS44, rfl, hS44⟩ := un1 hS43
  obtain ⟨a45, rS45, rfl, hS45⟩ := un1 hS44
  obtain rfl := un0 hS45
  clear hlen' hS0 hS10 hS20 hS30 hS40 hS41 hS42 hS43 hS44 hS45
  simp at hh hoc
  obtain ⟨rfl, rfl, rfl, rfl⟩ := hh
  by_cases hlt : i < ks.length
  · have hlt' : (i : Int) < (ks.length : Int) := by omega
    obtain ⟨x, hx⟩ : ∃ x, ks[i]? = some x := ⟨ks[i], by simp [hlt]⟩
    obtain ⟨a', hix, hld⟩ := hks.at (W := W) (j := i) (x := (x : Int)) (by simp [hx])
    have hld' := hld h' hoc.1
    have hkk := hk2.trans hoc.1
    have hv' := v.keeps hkk
    obtain ⟨hx1, b, hgb⟩ := hkm (List.mem_of_getElem? hx)
    have hxB := hgB x b hgb
    have hgv := (hkk.2 R.kv v.lv).trans hv
    have hgbb := (hkk.2 R.kb v.lb).trans hb
    have hov' := ld_map (W := W) (o := 9) hgv rfl
    have hbv' := ld_strs (W := W) (o := 8) hgv rfl
    have hlk := (ho.same (h' := h') hkk.1 (hkk.2 R.ko v.lo)).look (W := W) x
    have hlk2 : aLookup (CC W) h' 83 (.map (some R.ko)) (.int .i64 (x : Int)) false = some (.str (f x)) := by
      have := (ho.same (h' := h') hkk.1 (hkk.2 R.ko v.lo)).look1 (W := W) hgb
      rw [this, hf x, hgb]; rfl
    have hbx := (hcs x hxB).1
    have hldb : aLoad (CC W) h' 9 (.new R.kb x) = some (.str (base x)) := ld_str hgbb hbx
    have hib := idx_strs (W := W) (k := R.kb) (n := c.B) (c := cap) (g := gr) hxB
    have wi : IntKind.i64.wrap ((i : Int) + 1) = (i : Int) + 1 := wrap64 (by omega) (by omega)
    have htk : ks.take (i + 1) = ks.take i ++ [x] := by rw [List.take_add_one, hx]; rfl
    by_cases hne : f x = base x
    · have hs : chgs base f (ks.take (i + 1)) = chgs base f (ks.take i) := by rw [htk]; simp [chgs, hne]
      have hq : (f x == base x) = true := by simpa using hne
      simp [push_cast, hlt, hlt', hix, hld']
      refine draw1 (cc_ok W) [0, 1, 2, 3, 4, 5, 6, 7, 8, 9, 10, 11, 12, 13] (by kernel_rfl) (by kernel_rfl) (by kernel_rfl) rfl ?_
      simp [push_cast, opA, isE, isRead, jd9, fa85_3, fa85_2, hov', hbv', hlk2, hib, hldb, hq, aStr, wi]
      exact ⟨m - 1, by omega, by simp, i + 1, by omega, by rw [hs]; exact hoc, by simp⟩
    · have hs : chgs base f (ks.take (i + 1)) = chgs base f (ks.take i) ++ [(x, f x)] := by rw [htk]; simp [chgs, hne]
      have hq : (f x == base x) = false := by simpa using hne
      have hbc := build_ch (W := W) (x := x) (b := f x)
      have hcl : (chgs base f (ks.take i)).length ≤ (ks.take i).length := List.length_filterMap_le _ _
      obtain ⟨v', h3, hap, ho2⟩ := append_ch (W := W) (p := (x, f x)) hoc (by simp at hcl; omega)
      simp [push_cast, hlt, hlt', hix, hld']
      refine draw1 (cc_ok W) [0, 1, 2, 3, 4, 5, 6, 7, 8, 9, 10, 11, 12, 13] (by kernel_rfl) (by kernel_rfl) (by kernel_rfl) rfl ?_
      simp [push_cast, opA, isE, isRead, jd9, fa85_3, fa85_2, hov', hbv', hlk2, hib, hldb, hq, aStr, wi, hbc, build_chs, hap]
      exact ⟨m - 1, by omega, by simp, i + 1, by omega, by rw [hs]; exact ho2, by simp⟩
  · have hlt' : ¬ (i : Int) < (ks.length : Int) := by omega
    simp [push_cast, hlt, hlt']
    have : ks.take i = ks := List.take_of_length_le (by omega)
    rw [this, hend] at hoc
    exact hoc.le hk2
end Go.Proofs.Ytgcoipcnhmkeaaa.Ax
end

/-! Law 15's small case, in any world -/
section
set_option linter.unusedVariables false
set_option linter.unusedSimpArgs false
namespace Go.Proofs.Ytgcoipcnhmkeaaa.Ax
open Go.RowKit

def isTD (v : AV) (_ : AH) : Bool := match v with | .bool b => b | _ => false
theorem isTD_eq {v : AV} {h : AH} (hv : isTD v h = true) : v = .bool true := by
  unfold isTD at hv
  split at hv
  · rename_i b; rw [hv]
  · simp at hv
noncomputable def knownD : Known := sortedKn 38 68 3
theorem knownD_ok (W : World) : KnownOK (CC W) knownD := sorted_known W
/-- A closed run that gives true gives it anywhere. -/
theorem closedD_ret {f : FuncId} (hk : ∀ W, callKr (CC W) knownD 1000000 f [] AH.empty isTD = true) (W : World) (h : AH) : RetH (CC W) f [] h (.bool true) := by
  refine ret_of_calls fun ρ W1 vs R hv => ?_
  have hvs : vs = #[] := by
    simp only [VsRel] at hv
    exact Array.toList_inj.1 (by simpa using hv)
  subst hvs
  have := calls_of_acallE (C := CC W1) (P := (CC W).P) (W := W1) (args := []) (vs := #[]) rfl rfl (by simp [VsRel]) ((callKr_sound (cc_ok W1) (knownD_ok W1) (hk W1)).mono (fun _ _ hv => isTD_eq hv) fun _ _ h => h)
  exact this.mono fun e W' ⟨he, hb⟩ => ⟨⟨_, he, by simp [VRel]⟩, hb⟩
theorem speaks15_kr (W : World) : callKr (CC W) knownD 1000000 12 [] AH.empty isTD = true := by kernel_rfl
theorem speaks15_ret (W : World) (h : AH) : RetH (CC W) 12 [] h (.bool true) := closedD_ret speaks15_kr W h
end Go.Proofs.Ytgcoipcnhmkeaaa.Ax
end
