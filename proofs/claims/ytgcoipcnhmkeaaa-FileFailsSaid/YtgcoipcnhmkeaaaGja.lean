/- The texts DwY, FrD, LwF, as one. -/
import Derived.Test.YtgcoipcnhmkeaaaGj
import Derived.Test.YtgcoipcnhmkeaaaGf

/-! Lists of changes are compared; a small shape, and a blank device -/
section
set_option linter.unusedVariables false
set_option linter.unusedSimpArgs false
namespace Go.Proofs.Ytgcoipcnhmkeaaa.Ax
open Go.RowKit

/-- A list of changes in an own block. -/
def ChS (h : AH) (v : AV) (l : List (Nat × Bts)) : Prop := l = [] ∧ v = .sl none 0 0 none ∨ ∃ k c g, k < h.next ∧ h.get k = some (.cells (chCs l) 91) ∧ v = .sl (some (.new k 0)) l.length c g
theorem OwnC.chS {h0 h : AH} {v : AV} {l : List (Nat × Bts)} (o : OwnC h0 h v l) : ChS h v l := by
  obtain ⟨_, ⟨a, b⟩ | ⟨k, h1, h2, h3, h4⟩⟩ := o
  · exact .inl ⟨a, b⟩
  · exact .inr ⟨k, _, _, h2, h3, h4⟩
theorem ChS.keeps {h h' : AH} {v : AV} {l : List (Nat × Bts)} (o : ChS h v l) (hk : Keeps h h') : ChS h' v l := by
  rcases o with o | ⟨k, c, g, h1, h2, h3⟩
  · exact .inl o
  · exact .inr ⟨k, c, g, Nat.lt_of_lt_of_le h1 hk.1, (hk.2 k h1).trans h2, h3⟩
theorem ChS.len {W : World} {h : AH} {v : AV} {l : List (Nat × Bts)} (o : ChS h v l) (h' : AH) : aLen (CC W) h' 36 v = some (.int .i64 l.length) := by
  rcases o with ⟨rfl, rfl⟩ | ⟨k, c, g, h1, h2, rfl⟩ <;> simp [aLen, kind36]
theorem ChS.at {W : World} {h : AH} {v : AV} {l : List (Nat × Bts)} (o : ChS h v l) {i : Nat} {p : Nat × Bts} (hp : l[i]? = some p) :
    ∃ a', aIndexAddr (CC W) 36 v (.int .i64 (i : Int)) = some (.ptr (some a')) ∧ aLoad (CC W) h 91 a' = some (.agg (chC p)) := by
  rcases o with ⟨rfl, rfl⟩ | ⟨k, c, g, h1, h2, rfl⟩
  · simp at hp
  · have hi := (List.getElem?_eq_some_iff.1 hp).1
    refine ⟨.new k (i * 2), ?_, ?_⟩
    · simp only [aIndexAddr, kind36, size91]
      rw [if_pos (by omega)]
      simp [AA.add]
    · have hl := chCs_len l
      have hat := chCs_at hp
      unfold aLoad
      rw [ty91]
      show (aCells (CC W) h (.new k (i * 2)) 2).map AV.agg = _
      simp only [aCells, h2]
      rw [if_pos (by omega), hat]
      rfl
theorem eq_ch {W : World} {ox oy : Operand} {p q : Nat × Bts} : aEq (CC W) ox oy 91 (.agg (chC p)) (.agg (chC q)) = some ((p.1 : Int) == (q.1 : Int) && p.2 == q.2) := by
  have hi : ∀ (x y : Int), aEqIn (CC W) 99 3 (.int .i64 x) (.int .i64 y) = some (x == y) := fun x y => rfl
  have hs : ∀ (x y : Bts), aEqIn (CC W) 99 9 (.str x) (.str y) = some (x == y) := fun x y => rfl
  have h0 : aEq (CC W) ox oy 91 (.agg (chC p)) (.agg (chC q)) = aEqG (CC W) (aEqIn (CC W) 99) [(0, 3), (1, 9)] (chC p) (chC q) := rfl
  have p0 : ∀ p, aPart (CC W) 3 (chC p) 0 = some (.int .i64 p.1) := fun _ => rfl
  have p1 : ∀ p, aPart (CC W) 9 (chC p) 1 = some (.str p.2) := fun _ => rfl
  rw [h0]
  simp only [aEqG, p0, p1, hi, hs]
  cases (p.1 : Int) == (q.1 : Int) <;> cases p.2 == q.2 <;> rfl

def EqI (h : AH) (va vb : AV) (a b : List (Nat × Bts)) (m : Nat) (e' : Env) (h' : AH) : Prop :=
  h' = h ∧ e'.length = 26 ∧ ∃ i : Nat, i + m = a.length ∧ a.take i = b.take i ∧ (e'.getD 0 .undef = va ∧ e'.getD 1 .undef = vb ∧ e'.getD 12 .undef = .int .i64 a.length ∧ e'.getD 13 .undef = .int .i64 i)

set_option maxRecDepth 100000 in
set_option maxHeartbeats 4000000 in
theorem chs_eq (W : World) (h : AH) (va vb : AV) (a b : List (Nat × Bts)) (ha : ChS h va a) (hb : ChS h vb b) (hla : a.length < 9223372036854775807) :
    RetH (CC W) 17 [va, vb] h (.bool (decide (a = b))) := by
  refine jj9 (cc_ok W) (fn17 W) (by simp only [Try.f17]; rfl) rfl rfl ?_
  by_cases hl : a.length = b.length
  · have hl' : (a.length : Int) = (b.length : Int) := by omega
    simp [push_cast, ha.len, hb.len, hl']
    rw [← hl']
    refine loopN (cc_ok W) (EqI h va vb a b) a.length ⟨rfl, by simp, 0, by simp, by simp, by simp⟩ ?_
    rintro m e' h' ⟨rfl, hlen, i, him, htk, hh⟩
    match e', hlen with
    | a0 :: a1 :: a2 :: a3 :: a4 :: a5 :: a6 :: a7 :: a8 :: a9 :: a10 :: a11 :: a12 :: a13 :: a14 :: a15 :: a16 :: a17 :: a18 :: a19 :: a20 :: a21 :: a22 :: a23 :: a24 :: a25 :: [], _ =>
      simp at hh
      obtain ⟨rfl, rfl, rfl, rfl⟩ := hh
      by_cases hlt : i < a.length
      · have hlt' : (i : Int) < (a.length : Int) := by omega
        obtain ⟨p, hp⟩ : ∃ p, a[i]? = some p := ⟨a[i], by simp [hlt]⟩
        obtain ⟨q, hq⟩ : ∃ q, b[i]? = some q := ⟨b[i]'(by omega), by simp [hl ▸ hlt]⟩
        obtain ⟨xa, ia, la⟩ := ha.at (W := W) hp
        obtain ⟨xb, ib, lb⟩ := hb.at (W := W) hq
        have wi : IntKind.i64.wrap ((i : Int) + 1) = (i : Int) + 1 := wrap64 (by omega) (by omega)
        have hec := fun ox oy => eq_ch (W := W) (ox := ox) (oy := oy) (p := p) (q := q)
        have htk2 : a.take (i + 1) = a.take i ++ [p] := by rw [List.take_add_one, hp]; rfl
        have htk3 : b.take (i + 1) = b.take i ++ [q] := by rw [List.take_add_one, hq]; rfl
        simp [push_cast, hlt, hlt']
        refine draw1 (cc_ok W) [0, 1, 2, 3, 4, 5, 6, 7, 8] (by kernel_rfl) (by kernel_rfl) (by kernel_rfl) rfl ?_
        by_cases hpq : p = q
        · have hev : ((p.1 : Int) == (q.1 : Int) && p.2 == q.2) = true := by subst hpq; simp
          rw [hev] at hec
          generalize chC p = cp at *
          generalize chC q = cq at *
          simp [push_cast, opA, isE, isRead, ia, ib, la, lb, hec, wi]
          exact ⟨m - 1, by omega, rfl, by simp, i + 1, by omega, by rw [htk2, htk3, htk, hpq], by simp⟩
        · have hev : ((p.1 : Int) == (q.1 : Int) && p.2 == q.2) = false := by
            refine Bool.eq_false_iff.2 fun hc => hpq ?_
            simp only [Bool.and_eq_true, beq_iff_eq] at hc
            exact Prod.ext (by omega) hc.2
          rw [hev] at hec
          have hab : a ≠ b := fun e => by subst e; rw [hp] at hq; exact hpq (Option.some.inj hq)
          generalize chC p = cp at *
          generalize chC q = cq at *
          simp [push_cast, opA, isE, isRead, ia, ib, la, lb, hec, wi, hab]
      · have hlt' : ¬ (i : Int) < (a.length : Int) := by omega
        have : a = b := by
          have h1 : a.take i = a := List.take_of_length_le (by omega)
          have h2 : b.take i = b := List.take_of_length_le (by omega)
          rw [← h1, htk, h2]
        simp [push_cast, hlt, hlt']
        exact this
  · have hl' : ((a.length : Int) != (b.length : Int)) = true := by simpa using (by omega : ¬ (a.length : Int) = (b.length : Int))
    have hab : a ≠ b := fun e => hl (by rw [e])
    simp [push_cast, ha.len, hb.len, hl', hab]




end Go.Proofs.Ytgcoipcnhmkeaaa.Ax
end

/-! Arguments: a shape, a list of blocks, a list of steps -/
section
set_option linter.unusedVariables false
set_option linter.unusedSimpArgs false
namespace Go.Proofs.Ytgcoipcnhmkeaaa.Ax
open Go.ChangeShapes Go.WideShapes Go.ChangeAt Go.RowKit
set_option maxRecDepth 100000

theorem cells_shape : Try.prog.cellsOf 23 = 3 := by kernel_rfl
theorem cells_9s : Try.prog.cellsOf 9 = 1 := by kernel_rfl
theorem cells_ino : Try.prog.cellsOf 33 = 11 := by kernel_rfl
theorem cells_six6 : Try.prog.cellsOf 31 = 6 := by kernel_rfl
theorem cells_stp : Try.prog.cellsOf 35 = 16 := by kernel_rfl

/-- A step. -/
structure Stp where
  kd : Int
  i : Int
  at_ : Int
  n : Int
  data : Bts
  a : Int
  b : Int
  c : Int
  d : Nat → Int
  e : Int
  f : Int
def Stp.cells (s : Stp) : List AV := [.int .i64 s.kd, .int .i64 s.i, .int .i64 s.at_, .int .i64 s.n, .str s.data] ++ zC s.a s.b s.c s.d s.e s.f
structure Stp.Ok (s : Stp) : Prop where
  i1 : -9223372036854775808 ≤ s.i
  i2 : s.i < 9223372036854775808
  a1 : -9223372036854775808 ≤ s.at_
  a2 : s.at_ < 9223372036854775808
  dl : s.data.length < 9223372036854775808
def StpP (_ : AH) (s : Stp) (u : AV) : Prop := u = .agg s.cells ∧ s.Ok

section
variable {H : Type} {enc : TypeId × Value → H} {W : World} {n : Nat} {cs : List Value} {y : DataW H × List MemPlace}
theorem int_rng {x : Int} (h : (Lit.int IntKind.i64 x).wf = true) : -9223372036854775808 ≤ x ∧ x < 9223372036854775808 := by
  simp only [Lit.wf, Bool.and_eq_true, decide_eq_true_eq] at h
  have h1 : IntKind.i64.min = -9223372036854775808 := by decide
  have h2 : IntKind.i64.max = 9223372036854775807 := by decide
  omega
theorem arr_data {m : Nat} {l : List Value} {z : DataW H × List MemPlace} (hl : l.length = 6) (h : DataW.trod enc Try.prog W 0 (fun _ => true) true m 31 l = some z) : ∃ d : Nat → Int, l = [.int .i64 (d 0), .int .i64 (d 1), .int .i64 (d 2), .int .i64 (d 3), .int .i64 (d 4), .int .i64 (d 5)] := by
  obtain ⟨xs, k, _, rfl, _, hx, hf⟩ := DataW.trod_array Try.underlying31 h
  match l, hl, xs, hx with
  | [c0, c1, c2, c3, c4, c5], _, [y0, y1, y2, y3, y4, y5], _ =>
    have f0 : DataW.trod enc Try.prog W 0 (fun _ => true) true k 3 [c0] = some y0 := by
      have := hf 0 (by decide)
      simp [cells_3] at this
      exact this
    have f1 : DataW.trod enc Try.prog W 0 (fun _ => true) true k 3 [c1] = some y1 := by
      have := hf 1 (by decide)
      simp [cells_3] at this
      exact this
    have f2 : DataW.trod enc Try.prog W 0 (fun _ => true) true k 3 [c2] = some y2 := by
      have := hf 2 (by decide)
      simp [cells_3] at this
      exact this
    have f3 : DataW.trod enc Try.prog W 0 (fun _ => true) true k 3 [c3] = some y3 := by
      have := hf 3 (by decide)
      simp [cells_3] at this
      exact this
    have f4 : DataW.trod enc Try.prog W 0 (fun _ => true) true k 3 [c4] = some y4 := by
      have := hf 4 (by decide)
      simp [cells_3] at this
      exact this
    have f5 : DataW.trod enc Try.prog W 0 (fun _ => true) true k 3 [c5] = some y5 := by
      have := hf 5 (by decide)
      simp [cells_3] at this
      exact this
    obtain ⟨a0, e0, _, _⟩ := DataW.trod_int Try.underlying3 f0
    obtain ⟨a1, e1, _, _⟩ := DataW.trod_int Try.underlying3 f1
    obtain ⟨a2, e2, _, _⟩ := DataW.trod_int Try.underlying3 f2
    obtain ⟨a3, e3, _, _⟩ := DataW.trod_int Try.underlying3 f3
    obtain ⟨a4, e4, _, _⟩ := DataW.trod_int Try.underlying3 f4
    obtain ⟨a5, e5, _, _⟩ := DataW.trod_int Try.underlying3 f5
    simp only [List.cons.injEq, and_true] at e0 e1 e2 e3 e4 e5
    subst e0 e1 e2 e3 e4 e5
    exact ⟨fun i => match i with | 0 => a0 | 1 => a1 | 2 => a2 | 3 => a3 | 4 => a4 | _ => a5, rfl⟩
theorem ino_data (h : DataW.trod enc Try.prog W 0 (fun _ => true) true n 33 cs = some y) : ∃ (a b c : Int) (d : Nat → Int) (e f : Int), cs.map qy9 = zC a b c d e f := by
  obtain ⟨xs, m, _, rfl, hl, hlen, hf⟩ := DataW.trod_struct Try.underlying33 h
  rw [cells_ino] at hl
  match cs, hl, xs, hlen with
  | [c0, c1, c2, c3, c4, c5, c6, c7, c8, c9, c10], _, [y0, y1, y2, y3, y4, y5], _ =>
    have f0 : DataW.trod enc Try.prog W 0 (fun _ => true) true m 3 [c0] = some y0 := by
      have := hf 0 _ rfl
      simp [cells_3] at this
      exact this
    have f1 : DataW.trod enc Try.prog W 0 (fun _ => true) true m 3 [c1] = some y1 := by
      have := hf 1 _ rfl
      simp [cells_3] at this
      exact this
    have f2 : DataW.trod enc Try.prog W 0 (fun _ => true) true m 3 [c2] = some y2 := by
      have := hf 2 _ rfl
      simp [cells_3] at this
      exact this
    have f3 : DataW.trod enc Try.prog W 0 (fun _ => true) true m 31 [c3, c4, c5, c6, c7, c8] = some y3 := by
      have := hf 3 _ rfl
      simp [cells_six6] at this
      exact this
    have f4 : DataW.trod enc Try.prog W 0 (fun _ => true) true m 3 [c9] = some y4 := by
      have := hf 4 _ rfl
      simp [cells_3] at this
      exact this
    have f5 : DataW.trod enc Try.prog W 0 (fun _ => true) true m 3 [c10] = some y5 := by
      have := hf 5 _ rfl
      simp [cells_3] at this
      exact this
    obtain ⟨a0, e0, _, _⟩ := DataW.trod_int Try.underlying3 f0
    obtain ⟨a1, e1, _, _⟩ := DataW.trod_int Try.underlying3 f1
    obtain ⟨a2, e2, _, _⟩ := DataW.trod_int Try.underlying3 f2
    obtain ⟨d, e3⟩ := arr_data rfl f3
    obtain ⟨a4, e4, _, _⟩ := DataW.trod_int Try.underlying3 f4
    obtain ⟨a5, e5, _, _⟩ := DataW.trod_int Try.underlying3 f5
    simp only [List.cons.injEq, and_true] at e0 e1 e2 e3 e4 e5
    obtain ⟨rfl, rfl, rfl, rfl, rfl, rfl⟩ := e3
    subst e0 e1 e2 e4 e5
    exact ⟨a0, a1, a2, d, a4, a5, rfl⟩
theorem stp_data (h : DataW.trod enc Try.prog W 0 (fun _ => true) true n 35 cs = some y) : ∃ s, ∀ h0, StpP h0 s (.agg (cs.map qy9)) := by
  obtain ⟨xs, m, _, rfl, hl, hlen, hf⟩ := DataW.trod_struct Try.underlying35 h
  rw [cells_stp] at hl
  match cs, hl, xs, hlen with
  | c0 :: c1 :: c2 :: c3 :: c4 :: r, hl, [y0, y1, y2, y3, y4, y5], _ =>
    have hr : r.length = 11 := by simpa using hl
    have f0 : DataW.trod enc Try.prog W 0 (fun _ => true) true m 3 [c0] = some y0 := by
      have := hf 0 _ rfl
      simp [cells_3] at this
      exact this
    have f1 : DataW.trod enc Try.prog W 0 (fun _ => true) true m 3 [c1] = some y1 := by
      have := hf 1 _ rfl
      simp [cells_3] at this
      exact this
    have f2 : DataW.trod enc Try.prog W 0 (fun _ => true) true m 3 [c2] = some y2 := by
      have := hf 2 _ rfl
      simp [cells_3] at this
      exact this
    have f3 : DataW.trod enc Try.prog W 0 (fun _ => true) true m 3 [c3] = some y3 := by
      have := hf 3 _ rfl
      simp [cells_3] at this
      exact this
    have f4 : DataW.trod enc Try.prog W 0 (fun _ => true) true m 9 [c4] = some y4 := by
      have := hf 4 _ rfl
      simp [cells_9s] at this
      exact this
    have f5 : DataW.trod enc Try.prog W 0 (fun _ => true) true m 33 r = some y5 := by
      have := hf 5 _ rfl
      simp [cells_ino] at this
      rw [List.take_of_length_le (by omega)] at this
      exact this
    obtain ⟨a0, e0, _, _⟩ := DataW.trod_int Try.underlying3 f0
    obtain ⟨a1, e1, _, w1⟩ := DataW.trod_int Try.underlying3 f1
    obtain ⟨a2, e2, _, w2⟩ := DataW.trod_int Try.underlying3 f2
    obtain ⟨a3, e3, _, _⟩ := DataW.trod_int Try.underlying3 f3
    obtain ⟨s, e4, z4, w4⟩ := DataW.trod_string Try.underlying9 f4
    obtain ⟨a, b, c, d, e, f, e5⟩ := ino_data f5
    simp only [List.cons.injEq, and_true] at e0 e1 e2 e3 e4
    subst e0 e1 e2 e3 e4
    have r1 := int_rng w1
    have r2 := int_rng w2
    have w5 : s.data.toList.length < 9223372036854775808 := by
      have : s.data.toList.length = s.size := by simp
      rw [this]
      unfold maxLen at w4
      omega
    exact ⟨⟨a0, a1, a2, a3, s.data.toList, a, b, c, d, e, f⟩, fun _ => ⟨by rw [List.map_cons, List.map_cons, List.map_cons, List.map_cons, List.map_cons, e5]; rfl, r1.1, r1.2, r2.1, r2.2, w5⟩⟩
end

theorem ld_stpB {W : World} {h : AH} {b o : Nat} : aLoad (CC W) h 35 (.base b o) = (aCells (CC W) h (.base b o) 16).map AV.agg := rfl
theorem agg_data {W : World} {sz : Nat} {E : TypeId} (hld : ∀ h b o, aLoad (CC W) h E (.base b o) = (aCells (CC W) h (.base b o) sz).map AV.agg) : ∀ h b o (cs : List Value), aCells (CC W) h (.base b o) sz = some (cs.map qy9) → aLoad (CC W) h E (.base b o) = some ((fun cs : List Value => .agg (cs.map qy9)) cs) := fun h b o cs hc => by
  rw [hld, hc]; rfl
/-- A shape. -/
theorem shape_arg {H : Type} {enc : TypeId × Value → H} {W : World} {base : Nat} {v : Value} {d : DataW H} {ps : List MemPlace} (hval : Value.okWide Try.prog W .any base 23 v) (h : DataW.Trod enc Try.prog W 0 (fun _ => true) true 23 v d ps) :
    ∃ av : AV, VRel [] av v ∧ ∃ a b c : Int, av = .agg [.int .i64 a, .int .i64 b, .int .i64 c] := by
  obtain ⟨cs, rfl, z⟩ := okWide_struct Try.underlying23 hval
  obtain ⟨fuel, hf⟩ := h
  obtain ⟨xs, m, _, _, hl, hlen, hf⟩ := DataW.trod_struct Try.underlying23 hf
  rw [cells_shape] at hl
  simp only [Value.cells] at hl hf
  have hcs : ∃ l, cs.toList = l := ⟨_, rfl⟩
  obtain ⟨l, hcs⟩ := hcs
  rw [hcs] at hl hf
  match l, hl, xs, hlen with
  | [c0, c1, c2], _, [y0, y1, y2], _ =>
    have f0 : DataW.trod enc Try.prog W 0 (fun _ => true) true m 3 [c0] = some y0 := by
      have := hf 0 _ rfl
      simp [cells_3] at this
      exact this
    have f1 : DataW.trod enc Try.prog W 0 (fun _ => true) true m 3 [c1] = some y1 := by
      have := hf 1 _ rfl
      simp [cells_3] at this
      exact this
    have f2 : DataW.trod enc Try.prog W 0 (fun _ => true) true m 3 [c2] = some y2 := by
      have := hf 2 _ rfl
      simp [cells_3] at this
      exact this
    obtain ⟨a, e0, _, _⟩ := DataW.trod_int Try.underlying3 f0
    obtain ⟨b, e1, _, _⟩ := DataW.trod_int Try.underlying3 f1
    obtain ⟨c, e2, _, _⟩ := DataW.trod_int Try.underlying3 f2
    simp only [List.cons.injEq, and_true] at e0 e1 e2
    subst e0 e1 e2
    refine ⟨_, ?_, a, b, c, rfl⟩
    simp only [VRel]
    exact ⟨cs, rfl, by rw [hcs]; simp [VsRel, VRel]⟩
/-- A list of steps. -/
theorem steps_arg {H : Type} {enc : TypeId × Value → H} {W : World} {base : Nat} {v : Value} {d : DataW H} {ps : List MemPlace} (hval : Value.okWide Try.prog W .any base 25 v) (h : DataW.Trod enc Try.prog W 0 (fun _ => true) true 25 v d ps) :
    ∃ av : AV, VRel [] av v ∧ ∃ l : List Stp, (∀ h0, BSl W h0 35 16 StpP av l) ∧ l.length ≤ maxLen :=
  bsl_arg (P := StpP) Try.underlying25 cells_stp (by decide) (agg_data fun h b o => ld_stpB) (fun n cs y ht => stp_data ht) hval h

def TxtP (_ : AH) (x : Bts) (u : AV) : Prop := u = .str x
theorem mapM_range {β : Type} {f : Nat → Option β} : ∀ (l : List β), (∀ (i : Nat) x, l[i]? = some x → f i = some x) → (List.range l.length).mapM f = some l := by
  intro l
  induction l generalizing f with
  | nil => intro _; rfl
  | cons x l ih =>
    intro h
    have h0 := h 0 x rfl
    have h1 := ih (f := fun i => f (i + 1)) fun i y hy => h (i + 1) y (by simpa using hy)
    rw [List.length_cons, List.range_succ_eq_map, List.mapM_cons, h0, List.mapM_map]
    show (do let r ← (List.range l.length).mapM (f ∘ Nat.succ); pure (x :: r) : Option (List β)) = _
    rw [show (f ∘ Nat.succ) = fun i => f (i + 1) from rfl, h1]
    rfl
theorem ofVn_oldD : ∀ (n : Nat) (v : Value) (k o m c : Nat) (g : Option Nat), qz9 n v ≠ .sl (some (.new k o)) m c g := by
  intro n v k o m c g h
  cases n with
  | zero => simp [qz9] at h
  | succ n =>
    cases v with
    | slice a len cap =>
      cases a with
      | none => cases len <;> cases cap <;> simp [qz9] at h
      | some a =>
        obtain ⟨b, p, sp⟩ := a
        cases sp <;> cases len <;> cases cap <;> simp [qz9] at h
    | pointer a =>
      cases a with
      | none => simp [qz9] at h
      | some a =>
        obtain ⟨b, p, sp⟩ := a
        cases sp <;> simp [qz9] at h
    | map r => cases r <;> simp [qz9] at h
    | _ => simp [qz9] at h
theorem ofV_oldD (v : Value) (k o m c : Nat) (g : Option Nat) : qy9 v ≠ .sl (some (.new k o)) m c g := ofVn_oldD 4 v k o m c g
theorem bsl_strB {W : World} {v : AV} {l : List Bts} (hb : ∀ h0, BSl W h0 9 1 TxtP v l) (hv : ∀ k o c n g, v = .sl (some (.new k o)) n c g → n = 0) (h : AH) : StrB W h v l := by
  rcases hb h with ⟨rfl, rfl⟩ | ⟨a, c, hc, rfl, _⟩
  · exact .inl ⟨rfl, rfl⟩
  · refine .inr ⟨a, c, none, rfl, fun h' hk => ?_⟩
    have hat : ∀ (i : Nat) x, l[i]? = some x → aLoad (CC W) h' 9 (a.add i) = some (.str x) := fun i x hx => by
      rcases hb h' with ⟨rfl, _⟩ | ⟨a2, c2, _, e, hel⟩
      · simp at hx
      · injection e with e1 e2 e3 e4
        injection e1 with e1
        subst e1
        obtain ⟨u, hu, hl⟩ := hel i x hx
        have := hl h' (Keeps.refl _)
        rw [Nat.mul_one] at this
        rw [this, hu]
    refine ⟨fun hne => ?_, hat⟩
    cases a with
    | new k o =>
      have := hv k o c l.length none rfl
      exact absurd (List.length_eq_zero_iff.1 this) hne
    | base b o =>
      have hcell : ∀ (i : Nat) x, l[i]? = some x → aCell (CC W) h' (AA.add (.base b o) i) = some (.str x) := fun i x hx => by
        have := hat i x hx
        simp only [aLoad, ty9] at this
        exact this
      simp only [aCells]
      have := mapM_range (f := fun i => aCell (CC W) h' (AA.add (.base b o) i)) (l.map AV.str) fun i x hx => by
        simp only [List.getElem?_map, Option.map_eq_some_iff] at hx
        obtain ⟨y, hy, rfl⟩ := hx
        exact hcell i y hy
      rw [List.length_map] at this
      exact this
/-- A list of blocks. -/
theorem strB_arg {H : Type} {enc : TypeId × Value → H} {W : World} {base : Nat} {v : Value} {d : DataW H} {ps : List MemPlace} (hval : Value.okWide Try.prog W .any base 24 v) (h : DataW.Trod enc Try.prog W 0 (fun _ => true) true 24 v d ps) :
    ∃ av : AV, VRel [] av v ∧ ∃ l : List Bts, (∀ h0, StrB W h0 av l) ∧ l.length ≤ maxLen := by
  obtain ⟨a0, len, cap, rfl⟩ := okWide_slice Try.underlying24 hval
  obtain ⟨fuel, hf⟩ := h
  refine ⟨qy9 (.slice a0 len cap), ofV_rel [] _, ?_⟩
  obtain ⟨cv, l, hcs, hl, hle, _⟩ := bsl_data (α := List UInt8) (P := TxtP) (U := fun cs => match cs with | [c] => qy9 c | _ => .bad) Try.underlying24 cells_9s (by decide) (fun h b o cs hc => by
    have h9 : aLoad (CC W) h 9 (.base b o) = aCell (CC W) h (.base b o) := by simp only [aLoad, ty9]; rfl
    rw [h9]
    simp only [aCells, List.range_one, List.mapM_cons, List.mapM_nil, AA.add, Nat.add_zero] at hc
    cases hx : aCell (CC W) h (.base b o) with
    | none => rw [hx] at hc; simp at hc
    | some u =>
      rw [hx] at hc
      simp at hc
      cases cs with
      | nil => simp at hc
      | cons c r =>
        cases r with
        | nil => simp at hc; simp [hc]
        | cons _ _ => simp at hc) (fun n cs y ht => by
    obtain ⟨s, rfl, _, _⟩ := DataW.trod_string Try.underlying9 ht
    exact ⟨s.data.toList, fun _ => rfl⟩) hf
  simp [Value.cells] at hcs
  subst hcs
  exact ⟨l, fun h0 => bsl_strB hl (fun k o c n g e => absurd e (ofV_oldD _ k o n c g)) h0, hle⟩
end Go.Proofs.Ytgcoipcnhmkeaaa.Ax
end

/-! FileFails: the law's walk -/
section
set_option linter.unusedVariables false
set_option linter.unusedSimpArgs false
namespace Go.Proofs.Ytgcoipcnhmkeaaa.Ax
open Go.RowKit
set_option maxRecDepth 100000

def stp0 : List AV := [.int .i64 0, .int .i64 0, .int .i64 0, .int .i64 0, .str []] ++ zC 0 0 0 (fun _ => 0) 0 0
theorem alloc_stp {W : World} {h : AH} : aAlloc (CC W) h 35 = some (.ptr (some (.new h.next 0)), h.push (.cells stp0 35)) := rfl
theorem st_stp {W : World} {h : AH} {k : Nat} {cs : List AV} {t : TypeId} {s : Stp} (hg : h.get k = some (.cells cs t)) (hl : cs.length = 16) : aStoreOp (CC W) h 35 (.ptr (some (.new k 0))) (.agg s.cells) = some (h.set k (.cells s.cells t)) := by
  have hsl : s.cells.length = 16 := rfl
  simp only [aStoreOp, aCellsOf, size35, aStore, hg]
  have ho : s.cells.all aOne = true := rfl
  rw [if_pos (by rw [hsl]), if_pos ⟨by simp [hsl, hl], ho⟩]
  congr 3
  simp [overlay, hsl, hl]
theorem ld_stpN {W : World} {h : AH} {k : Nat} {t : TypeId} {s : Stp} (hg : h.get k = some (.cells s.cells t)) : aLoad (CC W) h 33 (.new k 5) = some (.agg (zC s.a s.b s.c s.d s.e s.f)) := by
  unfold aLoad
  rw [ty33]
  show (aCells (CC W) h (.new k 5) 11).map AV.agg = _
  simp only [aCells, hg]
  rfl

theorem stp_lds {W : World} {h : AH} {k : Nat} {t : TypeId} {s : Stp} (hg : h.get k = some (.cells s.cells t)) :
    aLoad (CC W) h 3 (.new k 0) = some (.int .i64 s.kd) ∧ aLoad (CC W) h 3 (.new k 1) = some (.int .i64 s.i) ∧ aLoad (CC W) h 3 (.new k 2) = some (.int .i64 s.at_) ∧ aLoad (CC W) h 9 (.new k 4) = some (.str s.data) := by
  simp only [ld3, ld9, ji9 hg]
  exact ⟨rfl, rfl, rfl, rfl⟩
theorem OwnC.mov {h0 h h' : AH} {v : AV} {l : List (Nat × Bts)} {R R' : VR} (o : OwnC h0 h v l) (h1 : R.kv < h0.next) (h2 : R.ko < h0.next) (m : VMov R h R' h') : ChS h' v l := by
  obtain ⟨_, ⟨a, b⟩ | ⟨k, a, b, d, e⟩⟩ := o
  · exact .inl ⟨a, b⟩
  · exact .inr ⟨k, _, _, Nat.lt_of_lt_of_le b m.nx, (m.off k b (by omega) (by omega)).trans d, e⟩

/-- The loop. -/
def LfI (c : Cf) (base : Dsk) (v : AV) (l : List Stp) (m : Nat) (e' : Env) (h' : AH) : Prop :=
  e'.length = 86 ∧ ∃ (i : Nat) (R : VR) (f : Dsk) (w : Option Dsk), i + m = l.length ∧ VIs h' R c base f w ∧
    (e'.getD 7 .undef = .ptr (some (.new R.kv 0)) ∧ e'.getD 38 .undef = v ∧ e'.getD 39 .undef = .int .i64 l.length ∧ e'.getD 40 .undef = .int .i64 i)
/-- What a step does to a view: an error changes nothing. -/
def LfM (c : Cf) (base f : Dsk) (kv : Nat) (v : AV) (l : List Stp) (i : Nat) (e' : Env) (h' : AH) : Prop :=
  e'.length = 86 ∧ ∃ (R : VR) (f' : Dsk) (w : Option Dsk) (er : Int), VIs h' R c base f' w ∧ R.kv = kv ∧ (er ≠ 0 → f' = f) ∧ ChS h' (e'.getD 11 .undef) (vChanges c base f) ∧
    (e'.getD 7 .undef = .ptr (some (.new kv 0)) ∧ e'.getD 12 .undef = .int .i64 er ∧ e'.getD 38 .undef = v ∧ e'.getD 39 .undef = .int .i64 l.length ∧ e'.getD 40 .undef = .int .i64 i)
theorem vChanges_len (c : Cf) (base f : Dsk) : (vChanges c base f).length ≤ c.B := by
  have := List.length_filterMap_le (fun x => if f x = base x then none else some (x, f x)) (List.range c.B)
  simpa [vChanges] using this

theorem hideK {C : Cx} {Q : Post} {ops : Array Oper} {rest : List Oper} {ks : List Fr} {e : Env} {dst : Option Tmp} {f : FuncId} {args : List AV} {h : AH} (w : ∀ K, K = ks → CallK C Q ops rest K e dst f args h) : CallK C Q ops rest ks e dst f args h := w ks rfl
theorem hideW {C : Cx} {Q : Post} {c : Code} {ks : List Fr} {e : Env} {h : AH} (w : ∀ K, K = ks → Wc C Q c K e h) : Wc C Q c ks e h := w ks rfl

set_option maxHeartbeats 16000000 in
theorem fails_walk (W : World) (b j n : Int) (bv v : AV) (bl : List Bts) (l : List Stp) (hb : ∀ h0, StrB W h0 bv bl) (hv : ∀ h0, BSl W h0 35 16 StpP v l) :
    ACall (CC W) 3 [.agg [.int .i64 b, .int .i64 j, .int .i64 n], bv, v] AH.empty (fun w _ => w = .bool true) (fun _ _ => False) := by
  refine jj9 (cc_ok W) (fn3 W) (by simp only [Try.f3]; rfl) rfl rfl ?_
  generalize AH.empty = h
  have hbx := box_shape (h := h) (l := [.int .i64 b, .int .i64 j, .int .i64 n])
  have hgb : (h.push (.cells [.int .i64 b, .int .i64 j, .int .i64 n] 23)).get h.next = some (.cells [.int .i64 b, .int .i64 j, .int .i64 n] 23) := by simp
  generalize h.push (.cells [.int .i64 b, .int .i64 j, .int .i64 n] 23) = h1 at hbx hgb
  generalize h.next = kb at hbx hgb
  have hlen := fun h2 => (hv h).lenA (T := 25) (kind25 W) h2
  simp [push_cast, hbx, ld_shape hgb]
  refine je9 (by simp [fn11]) (newV_ret W h1 b j n bv bl (hb h1)) fun w h2 ⟨hk2, hw⟩ => ?_
  by_cases hnf : newF b j n bl = 0
  · rw [if_pos hnf] at hw
    obtain ⟨R, rfl, hvis, _, _, _⟩ := hw
    generalize cfOf b j n = c at hvis
    generalize dskOf bl = base at hvis
    by_cases hlong : 100 < l.length
    · have hl' : (100 : Int) < (l.length : Int) := by omega
      simp [push_cast, aEq, kind26, kindEq1, aEq1, hlen, hl']
      refine jh9 (by simp [fn12]) (speaks15_ret W h2) ?_
      simp [push_cast]
    · have hl' : ¬ (100 : Int) < (l.length : Int) := by omega
      simp [push_cast, aEq, kind26, kindEq1, aEq1, hlen, hl']
      refine loopN (cc_ok W) (LfI c base v l) l.length ⟨by simp, 0, R, base, none, by simp, hvis, by simp⟩ ?_
      clear hvis hk2 hbx hgb hnf
      rintro m e' h' ⟨hlen', i, R, f, w, him, hvis, hh⟩
      obtain ⟨a0, a1, a2, a3, a4, a5, a6, a7, a8, a9, rS0, rfl, hS0⟩ := un10 hlen'
      obtain ⟨a10, a11, a12, a13, a14, a15, a16, a17, a18, a19, rS10, rfl, hS10⟩ := un10 hS0
      obtain ⟨a20, a21, a22, a23, a24, a25, a26, a27, a28, a29, rS20, rfl, hS20⟩ := un10 hS10
      obtain ⟨a30, a31, a32, a33, a34, a35, a36, a37, a38, a39, rS30, rfl, hS30⟩ := un10 hS20
      obtain ⟨a40, a41, a42, a43, a44, a45, a46, a47, a48, a49, rS40, rfl, hS40⟩ := un10 hS30
      obtain ⟨a50, a51, a52, a53, a54, a55, a56, a57, a58, a59, rS50, rfl, hS50⟩ := un10 hS40
      obtain ⟨a60, a61, a62, a63, a64, a65, a66, a67, a68, a69, rS60, rfl, hS60⟩ := un10 hS50
      obtain ⟨a70, a71, a72, a73, a74, a75, a76, a77, a78, a79, rS70, rfl, hS70⟩ := un10 hS60
      obtain ⟨a80, rS80, rfl, hS80⟩ := un1 hS70
      obtain ⟨a81, rS81, rfl, hS81⟩ := un1 hS80
      obtain ⟨a82, rS82, rfl, hS82⟩ := un1 hS81
      obtain ⟨a83, rS83, rfl, hS83⟩ := un1 hS82
      obtain ⟨a84, rS84, rfl, hS84⟩ := un1 hS83
      obtain ⟨a85, rS85, rfl, hS85⟩ := un1 hS84
      obtain rfl := un0 hS85
      clear hlen' hS0 hS10 hS20 hS30 hS40 hS50 hS60 hS70 hS80 hS81 hS82 hS83 hS84 hS85
      simp at hh
      obtain ⟨rfl, rfl, rfl, rfl⟩ := hh
      by_cases hlt : i < l.length
      · have hlt' : (i : Int) < (l.length : Int) := by omega
        have wi : IntKind.i64.wrap ((i : Int) + 1) = (i : Int) + 1 := wrap64 (by omega) (by omega)
        obtain ⟨s, hs⟩ : ∃ s, l[i]? = some s := ⟨l[i], by simp [hlt]⟩
        obtain ⟨a', u, hix, ⟨rfl, hok⟩, hld⟩ := (hv h').at (T := 25) (kind25 W) (size35 W) hs
        have hld' := hld h' (Keeps.refl _)
        have hal := alloc_stp (W := W) (h := h')
        have hg2 : (h'.push (.cells stp0 35)).get h'.next = some (.cells stp0 35) := by simp
        have hk2 := Keeps.push h' (.cells stp0 35)
        have hn2 : h'.next < (h'.push (.cells stp0 35)).next := by simp
        generalize h'.push (.cells stp0 35) = h2' at hal hg2 hk2 hn2
        have hst := st_stp (W := W) (s := s) hg2 rfl
        have hk3 := hk2.set (Nat.le_refl _) (.cells s.cells 35)
        have hg3 : (h2'.set h'.next (.cells s.cells 35)).get h'.next = some (.cells s.cells 35) := by simp
        have hn3 : h'.next < (h2'.set h'.next (.cells s.cells 35)).next := by simpa using hn2
        generalize h2'.set h'.next (.cells s.cells 35) = h3 at hst hk3 hg3 hn3
        have v3 := hvis.keeps hk3
        have hlv := hvis.lv
        have hlo := hvis.lo
        generalize h'.next = k10 at *
        generalize hcs : AV.agg s.cells = cv at *
        simp [push_cast, hlt, hlt', hix, hld', hal, hst]
        refine hideK fun K hK => ?_
        refine je9 (by simp [fn13]) (vw_changes W v3) fun r1 h4 ho4 => ?_
        have v4 := v3.keeps ho4.1
        have hg4 := (ho4.1.2 k10 hn3).trans hg3
        obtain ⟨q0, q1, q2, q4⟩ := stp_lds (W := W) hg4
        have q5 := ld_stpN (W := W) hg4
        have hlv3 := v3.lv
        have hlo3 := v3.lo
        simp [push_cast]
        subst hK
        rw [ql9, qa9]
        refine hideW fun K hK => ?_
        simp [push_cast]
        subst hK
        rw [ql9, qa9]
        refine wc_cut (LfM c base f R.kv a38 l i) ?_ ?_
        · have hoc := fun (R' : VR) (h' : AH) (m : VMov R h4 R' h') => ho4.mov hlv3 hlo3 m
          have hch4 := ho4.chS
          obtain ⟨i1, i2, a1, a2, dl⟩ := hok
          generalize s.kd = kd at q0
          generalize s.i = si at q1 i1 i2
          generalize s.at_ = sa at q2 a1 a2
          generalize s.data = sd at q4 dl
          by_cases k0 : kd = 0 ∨ kd = 1
          · have hw := vw_write (W := W) v4 si sa sd a1 a2 dl
            have he := vWrite_err v4.ok f si sa sd
            rcases k0 with rfl | rfl
            · simp [push_cast, fa35_0, fa35_1, fa35_2, fa35_4, q0, q1, q2, q4]
              refine callK_Vm (by simp [fn14]) hw fun R5 w5 h5 v5 m5 => ?_
              simp [push_cast]
              exact ⟨by simp, R5, _, w5, ((vWrite c f si sa sd).1 : Int), v5, m5.kv, fun hc => he (by omega), hoc R5 h5 m5, by simp⟩
            · simp [push_cast, fa35_0, fa35_1, fa35_2, fa35_4, q0, q1, q2, q4]
              refine callK_Vm (by simp [fn14]) hw fun R5 w5 h5 v5 m5 => ?_
              simp [push_cast]
              exact ⟨by simp, R5, _, w5, ((vWrite c f si sa sd).1 : Int), v5, m5.kv, fun hc => he (by omega), hoc R5 h5 m5, by simp⟩
          · have k01 : ¬ kd = 0 := fun e => k0 (.inl e)
            have k02 : ¬ kd = 1 := fun e => k0 (.inr e)
            by_cases k2 : kd = 2
            · have hw := vw_cut (W := W) v4 si sa
              have he := vCut_err v4.ok f si sa
              subst k2
              simp [push_cast, fa35_0, fa35_1, fa35_2, q0, q1, q2]
              refine callK_Vm (by simp [fn15]) hw fun R5 w5 h5 v5 m5 => ?_
              simp [push_cast]
              exact ⟨by simp, R5, _, w5, ((vCut c f si sa).1 : Int), v5, m5.kv, fun hc => he (by omega), hoc R5 h5 m5, by simp⟩
            · by_cases k4 : kd = 4
              · obtain ⟨er, f', he, hw⟩ := vw_setAny (W := W) v4 si s.a s.b s.c s.d s.e s.f
                subst k4
                simp [push_cast, fa35_0, fa35_1, fa35_5, q0, q1, q5]
                refine callK_Vm (by simp [fn16]) hw.vm fun R5 w5 h5 v5 m5 => ?_
                simp [push_cast]
                exact ⟨by simp, R5, f', w5, er, v5, m5.kv, he, hoc R5 h5 m5, by simp⟩
              · simp [push_cast, fa35_0, q0, k01, k02, k2, k4]
                exact ⟨by simp, R, f, w, 0, v4, rfl, fun _ => rfl, hch4, by simp⟩
        · rintro e2 h5 ⟨hlen5, R5, f5, w5, er, v5, hkv, he, hch, hh⟩
          obtain ⟨a0, a1, a2, a3, a4, a5, a6, a7, a8, a9, rS0, rfl, hS0⟩ := un10 hlen5
          obtain ⟨a10, a11, a12, a13, a14, a15, a16, a17, a18, a19, rS10, rfl, hS10⟩ := un10 hS0
          obtain ⟨a20, a21, a22, a23, a24, a25, a26, a27, a28, a29, rS20, rfl, hS20⟩ := un10 hS10
          obtain ⟨a30, a31, a32, a33, a34, a35, a36, a37, a38, a39, rS30, rfl, hS30⟩ := un10 hS20
          obtain ⟨a40, a41, a42, a43, a44, a45, a46, a47, a48, a49, rS40, rfl, hS40⟩ := un10 hS30
          obtain ⟨a50, a51, a52, a53, a54, a55, a56, a57, a58, a59, rS50, rfl, hS50⟩ := un10 hS40
          obtain ⟨a60, a61, a62, a63, a64, a65, a66, a67, a68, a69, rS60, rfl, hS60⟩ := un10 hS50
          obtain ⟨a70, a71, a72, a73, a74, a75, a76, a77, a78, a79, rS70, rfl, hS70⟩ := un10 hS60
          obtain ⟨a80, rS80, rfl, hS80⟩ := un1 hS70
          obtain ⟨a81, rS81, rfl, hS81⟩ := un1 hS80
          obtain ⟨a82, rS82, rfl, hS82⟩ := un1 hS81
          obtain ⟨a83, rS83, rfl, hS83⟩ := un1 hS82
          obtain ⟨a84, rS84, rfl, hS84⟩ := un1 hS83
          obtain ⟨a85, rS85, rfl, hS85⟩ := un1 hS84
          obtain rfl := un0 hS85
          clear hlen5 hS0 hS10 hS20 hS30 hS40 hS50 hS60 hS70 hS80 hS81 hS82 hS83 hS84 hS85
          simp at hh hch
          obtain ⟨rfl, rfl, rfl, rfl, rfl⟩ := hh
          by_cases h0 : er = 0
          · subst h0
            simp [push_cast, wi]
            exact ⟨m - 1, by omega, by simp, i + 1, R5, f5, w5, by omega, v5, by simp [hkv]⟩
          · have hne : (er != 0) = true := by simpa using h0
            obtain rfl := he h0
            rw [← hkv]
            simp [push_cast, hne]
            refine je9 (by simp [fn13]) (vw_changes W v5) fun r2 h6 ho6 => ?_
            simp [push_cast]
            refine jh9 (by simp [fn17]) (chs_eq W h6 _ r2 _ _ (hch.keeps ho6.1) ho6.chS (by have := vChanges_len c base f5; have := v5.ok.b2; omega)) ?_
            simp [push_cast, wi, aUnN]
            exact ⟨m - 1, by omega, by simp, i + 1, R5, f5, w5, by omega, v5.keeps ho6.1, by simp⟩
      · have hlt' : ¬ (i : Int) < (l.length : Int) := by omega
        simp [push_cast, hlt, hlt']
        refine jh9 (by simp [fn12]) (speaks15_ret W h') ?_
        simp [push_cast]
  · rw [if_neg hnf] at hw
    subst hw
    have hne : ((newF b j n bl) != 0) = true := by simpa using hnf
    simp [push_cast, aEq, kind26, kindEq1, aEq1, hne, hnf]
    refine jh9 (by simp [fn12]) (speaks15_ret W h2) ?_
    simp [push_cast]

theorem fails_law15 (W : World) (sv bv v : AV) (hs : ∃ a b c : Int, sv = .agg [.int .i64 a, .int .i64 b, .int .i64 c]) (hb : ∃ l : List Bts, (∀ h0, StrB W h0 bv l) ∧ l.length ≤ maxLen) (hv : ∃ l : List Stp, (∀ h0, BSl W h0 35 16 StpP v l) ∧ l.length ≤ maxLen) :
    ACall (CC W) 3 [sv, bv, v] AH.empty (fun w _ => w = .bool true) (fun _ _ => False) := by
  obtain ⟨a, b, c, rfl⟩ := hs
  obtain ⟨bl, hb, _⟩ := hb
  obtain ⟨l, hv, _⟩ := hv
  exact fails_walk W a b c bv v bl l hb hv
end Go.Proofs.Ytgcoipcnhmkeaaa.Ax
end
