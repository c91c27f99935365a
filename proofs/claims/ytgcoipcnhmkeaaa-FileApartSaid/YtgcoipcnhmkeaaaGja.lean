/- The texts DwY, FrD, LwF, Lw0, as one. -/
import Derived.Test.YtgcoipcnhmkeaaaGj
import Derived.Test.YtgcoipcnhmkeaaaGf

/-! Lists of changes are compared; a small shape, and a blank device -/
section
set_option linter.unusedVariables false
set_option linter.unusedSimpArgs false
namespace Go.Proofs.Ytgcoipcnhmkeaaa.Ax
open Go.RowKit




theorem little_ret (W : World) (h : AH) : RetVk (CC W) 18 [] h (.agg [.int .i64 40, .int .i64 20, .int .i64 4]) := by
  refine jj9 (cc_ok W) (fn18 W) (by simp only [Try.f18]; rfl) rfl rfl ?_
  have hA : aAlloc (CC W) h 23 = some (.ptr (some (.new h.next 0)), h.push (.cells [.int .i64 0, .int .i64 0, .int .i64 0] 23)) := rfl
  have hg : (h.push (.cells [.int .i64 0, .int .i64 0, .int .i64 0] 23)).get h.next = some (.cells [.int .i64 0, .int .i64 0, .int .i64 0] 23) := by simp
  have hk := Keeps.push h (.cells [.int .i64 0, .int .i64 0, .int .i64 0] 23)
  have hb : aBuild (CC W) 23 [(0, .int .i64 40), (1, .int .i64 20), (2, .int .i64 4)] = some (.agg [.int .i64 40, .int .i64 20, .int .i64 4]) := rfl
  generalize h.push (.cells [.int .i64 0, .int .i64 0, .int .i64 0] 23) = h1 at hA hg hk
  have hst : aStoreOp (CC W) h1 23 (.ptr (some (.new h.next 0))) (.agg [.int .i64 40, .int .i64 20, .int .i64 4]) = some (h1.set h.next (.cells [.int .i64 40, .int .i64 20, .int .i64 4] 23)) := by
    simp only [aStoreOp, aCellsOf, size23, aStore, hg]
    rfl
  have hg2 : (h1.set h.next (.cells [.int .i64 40, .int .i64 20, .int .i64 4] 23)).get h.next = some (.cells [.int .i64 40, .int .i64 20, .int .i64 4] 23) := by simp
  have hk2 := hk.set (Nat.le_refl h.next) (.cells [.int .i64 40, .int .i64 20, .int .i64 4] 23)
  simp [push_cast, hA, hb, hst, ld_shape hg2]
  exact hk2

theorem OwnS.strB {W : World} {h0 h : AH} {v : AV} {l : List Bts} (o : OwnS h0 h v l) : StrB W h v l := by
  obtain ⟨_, ⟨rfl, rfl⟩ | ⟨k, h1, h2, h3, rfl⟩⟩ := o
  · exact .inl ⟨rfl, rfl⟩
  · refine .inr ⟨_, _, _, rfl, fun h' hk => ⟨fun _ => ?_, fun i x hx => ?_⟩⟩
    · simp [aCells, (hk.2 k h2).trans h3]
      exact List.take_of_length_le (by simp)
    · have hg := (hk.2 k h2).trans h3
      simp only [aLoad, ty9]
      show aCell (CC W) h' (AA.add (.new k 0) i) = _
      simp [aCell, AA.add, hg, hx]

def BlI (h : AH) (b kb : Nat) (s : AV) (m : Nat) (e' : Env) (h' : AH) : Prop :=
  e'.length = 21 ∧ ∃ i : Nat, i + m = b ∧ OwnS h h' (e'.getD 3 .undef) (List.replicate i (zeros 128)) ∧ (e'.getD 0 .undef = s ∧ e'.getD 1 .undef = .ptr (some (.new kb 0)) ∧ e'.getD 4 .undef = .int .i64 i)
theorem OwnS.leD {h00 h0 h : AH} {v : AV} {l : List Bts} (ho : OwnS h0 h v l) (hk : Keeps h00 h0) : OwnS h00 h v l := by
  obtain ⟨a, b⟩ := ho
  refine ⟨hk.trans a, ?_⟩
  rcases b with b | ⟨k, b, d⟩
  · exact .inl b
  · exact .inr ⟨k, Nat.le_trans hk.1 b, d⟩
theorem OwnS.keepsD {h0 h h' : AH} {v : AV} {l : List Bts} (ho : OwnS h0 h v l) (hk : Keeps h h') : OwnS h0 h' v l := by
  obtain ⟨a, b⟩ := ho
  refine ⟨a.trans hk, ?_⟩
  rcases b with b | ⟨k, b, d, e, f⟩
  · exact .inl b
  · exact .inr ⟨k, b, Nat.lt_of_lt_of_le d hk.1, (hk.2 k d).trans e, f⟩

set_option maxHeartbeats 4000000 in
theorem blank_ret (W : World) (h : AH) (b : Nat) (hb : b ≤ 1024) (j n : Int) :
    ACall (CC W) 19 [.agg [.int .i64 b, .int .i64 j, .int .i64 n]] h (fun w h' => OwnS h h' w (List.replicate b (zeros 128))) (fun _ _ => False) := by
  refine jj9 (cc_ok W) (fn19 W) (by simp only [Try.f19]; rfl) rfl rfl ?_
  have hbx := box_shape (h := h) (l := [.int .i64 b, .int .i64 j, .int .i64 n])
  have hk1 : Keeps h (h.push (.cells [.int .i64 b, .int .i64 j, .int .i64 n] 23)) := Keeps.push _ _
  have hgb : (h.push (.cells [.int .i64 b, .int .i64 j, .int .i64 n] 23)).get h.next = some (.cells [.int .i64 b, .int .i64 j, .int .i64 n] 23) := by simp
  have hn1 : h.next < (h.push (.cells [.int .i64 b, .int .i64 j, .int .i64 n] 23)).next := by simp
  generalize h.push (.cells [.int .i64 b, .int .i64 j, .int .i64 n] 23) = h1 at hbx hk1 hgb hn1
  generalize h.next = kb at hbx hgb hn1
  simp [push_cast, hbx]
  refine loopN (cc_ok W) (BlI h1 b kb (.agg [.int .i64 b, .int .i64 j, .int .i64 n])) b ⟨by simp, 0, by simp, OwnS.start h1, by simp⟩ ?_
  rintro m e' h' ⟨hlen, i, him, ho, hh⟩
  match e', hlen with
  | a0 :: a1 :: a2 :: a3 :: a4 :: a5 :: a6 :: a7 :: a8 :: a9 :: a10 :: a11 :: a12 :: a13 :: a14 :: a15 :: a16 :: a17 :: a18 :: a19 :: a20 :: [], _ =>
    simp at hh ho
    obtain ⟨rfl, rfl, rfl⟩ := hh
    have hgb' := (ho.1.2 kb hn1).trans hgb
    by_cases hlt : i < b
    · have hlt' : (i : Int) < (b : Int) := by omega
      have hlt2 : (i : Int) < 1024 := by omega
      have q1 : decide ((i : Int) < (b : Int)) = true := by simp; omega
      have wi : IntKind.i64.wrap ((i : Int) + 1) = (i : Int) + 1 := wrap64 (by omega) (by omega)
      have hm : aMakeSlice (CC W) h' 45 (.int .i64 128) (.int .i64 128) = some (.sl (some (.new h'.next 0)) 128 128 none, h'.push (.cells (bcells (zeros 128)) 5)) := mk_zeros (W := W) (h := h') (n := 128) (by omega)
      have hg : (h'.push (.cells (bcells (zeros 128)) 5)).get h'.next = some (.cells (bcells (zeros 128)) 5) := by simp
      have hK := Keeps.push h' (.cells (bcells (zeros 128)) 5)
      have hcv := bConv (W := W) (c := 128) (gr := none) (n := 128) hg (by simp [zeros])
      have ho1 := ho.keepsD hK
      generalize h'.push (.cells (bcells (zeros 128)) 5) = h2 at hm hg hK hcv ho1
      obtain ⟨v', h3, hap, ho2⟩ := append_str (W := W) (x := zeros 128) ho1 (by simp; omega)
      generalize hz : zeros 128 = z at *
      have hb1 := build_str (W := W) (h := h2) (x := z)
      simp [push_cast, fa23_0, ld3, ji9 hgb', hlt', hlt2, hm, hcv, hb1, hap, wi]
      exact ⟨m - 1, by omega, by simp, i + 1, by omega, by rw [List.replicate_succ', hz]; exact ho2, by simp⟩
    · have hlt' : ¬ (i : Int) < (b : Int) := by omega
      have q1 : decide ((i : Int) < (b : Int)) = false := by simp; omega
      have hi : i = b := by omega
      simp [push_cast, fa23_0, ld3, ji9 hgb', hlt']
      rw [← hi]
      exact ho.leD hk1
end Go.Proofs.Ytgcoipcnhmkeaaa.Ax
end

/-! Arguments: a shape, a list of blocks, a list of steps -/
section
set_option linter.unusedVariables false
set_option linter.unusedSimpArgs false
namespace Go.Proofs.Ytgcoipcnhmkeaaa.Ax
open Go.ChangeShapes Go.WideShapes Go.ChangeAt Go.RowKit
set_option maxRecDepth 100000

theorem cells_9s : Try.prog.cellsOf 9 = 1 := by kernel_rfl
theorem cells_ino : Try.prog.cellsOf 33 = 11 := by kernel_rfl
theorem cells_six6 : Try.prog.cellsOf 31 = 6 := by kernel_rfl
theorem cells_stp : Try.prog.cellsOf 35 = 16 := by kernel_rfl

/-- A step. -/
structure Stp where
  kd : Int
  i : Int
  at_ : Int
  n : Int
  data : Bts
  a : Int
  b : Int
  c : Int
  d : Nat → Int
  e : Int
  f : Int
def Stp.cells (s : Stp) : List AV := [.int .i64 s.kd, .int .i64 s.i, .int .i64 s.at_, .int .i64 s.n, .str s.data] ++ zC s.a s.b s.c s.d s.e s.f
structure Stp.Ok (s : Stp) : Prop where
  i1 : -9223372036854775808 ≤ s.i
  i2 : s.i < 9223372036854775808
  a1 : -9223372036854775808 ≤ s.at_
  a2 : s.at_ < 9223372036854775808
  dl : s.data.length < 9223372036854775808
def StpP (_ : AH) (s : Stp) (u : AV) : Prop := u = .agg s.cells ∧ s.Ok

section
variable {H : Type} {enc : TypeId × Value → H} {W : World} {n : Nat} {cs : List Value} {y : DataW H × List MemPlace}
theorem int_rng {x : Int} (h : (Lit.int IntKind.i64 x).wf = true) : -9223372036854775808 ≤ x ∧ x < 9223372036854775808 := by
  simp only [Lit.wf, Bool.and_eq_true, decide_eq_true_eq] at h
  have h1 : IntKind.i64.min = -9223372036854775808 := by decide
  have h2 : IntKind.i64.max = 9223372036854775807 := by decide
  omega
theorem arr_data {m : Nat} {l : List Value} {z : DataW H × List MemPlace} (hl : l.length = 6) (h : DataW.trod enc Try.prog W 0 (fun _ => true) true m 31 l = some z) : ∃ d : Nat → Int, l = [.int .i64 (d 0), .int .i64 (d 1), .int .i64 (d 2), .int .i64 (d 3), .int .i64 (d 4), .int .i64 (d 5)] := by
  obtain ⟨xs, k, _, rfl, _, hx, hf⟩ := DataW.trod_array Try.underlying31 h
  match l, hl, xs, hx with
  | [c0, c1, c2, c3, c4, c5], _, [y0, y1, y2, y3, y4, y5], _ =>
    have f0 : DataW.trod enc Try.prog W 0 (fun _ => true) true k 3 [c0] = some y0 := by
      have := hf 0 (by decide)
      simp [cells_3] at this
      exact this
    have f1 : DataW.trod enc Try.prog W 0 (fun _ => true) true k 3 [c1] = some y1 := by
      have := hf 1 (by decide)
      simp [cells_3] at this
      exact this
    have f2 : DataW.trod enc Try.prog W 0 (fun _ => true) true k 3 [c2] = some y2 := by
      have := hf 2 (by decide)
      simp [cells_3] at this
      exact this
    have f3 : DataW.trod enc Try.prog W 0 (fun _ => true) true k 3 [c3] = some y3 := by
      have := hf 3 (by decide)
      simp [cells_3] at this
      exact this
    have f4 : DataW.trod enc Try.prog W 0 (fun _ => true) true k 3 [c4] = some y4 := by
      have := hf 4 (by decide)
      simp [cells_3] at this
      exact this
    have f5 : DataW.trod enc Try.prog W 0 (fun _ => true) true k 3 [c5] = some y5 := by
      have := hf 5 (by decide)
      simp [cells_3] at this
      exact this
    obtain ⟨a0, e0, _, _⟩ := DataW.trod_int Try.underlying3 f0
    obtain ⟨a1, e1, _, _⟩ := DataW.trod_int Try.underlying3 f1
    obtain ⟨a2, e2, _, _⟩ := DataW.trod_int Try.underlying3 f2
    obtain ⟨a3, e3, _, _⟩ := DataW.trod_int Try.underlying3 f3
    obtain ⟨a4, e4, _, _⟩ := DataW.trod_int Try.underlying3 f4
    obtain ⟨a5, e5, _, _⟩ := DataW.trod_int Try.underlying3 f5
    simp only [List.cons.injEq, and_true] at e0 e1 e2 e3 e4 e5
    subst e0 e1 e2 e3 e4 e5
    exact ⟨fun i => match i with | 0 => a0 | 1 => a1 | 2 => a2 | 3 => a3 | 4 => a4 | _ => a5, rfl⟩
theorem ino_data (h : DataW.trod enc Try.prog W 0 (fun _ => true) true n 33 cs = some y) : ∃ (a b c : Int) (d : Nat → Int) (e f : Int), cs.map qy9 = zC a b c d e f := by
  obtain ⟨xs, m, _, rfl, hl, hlen, hf⟩ := DataW.trod_struct Try.underlying33 h
  rw [cells_ino] at hl
  match cs, hl, xs, hlen with
  | [c0, c1, c2, c3, c4, c5, c6, c7, c8, c9, c10], _, [y0, y1, y2, y3, y4, y5], _ =>
    have f0 : DataW.trod enc Try.prog W 0 (fun _ => true) true m 3 [c0] = some y0 := by
      have := hf 0 _ rfl
      simp [cells_3] at this
      exact this
    have f1 : DataW.trod enc Try.prog W 0 (fun _ => true) true m 3 [c1] = some y1 := by
      have := hf 1 _ rfl
      simp [cells_3] at this
      exact this
    have f2 : DataW.trod enc Try.prog W 0 (fun _ => true) true m 3 [c2] = some y2 := by
      have := hf 2 _ rfl
      simp [cells_3] at this
      exact this
    have f3 : DataW.trod enc Try.prog W 0 (fun _ => true) true m 31 [c3, c4, c5, c6, c7, c8] = some y3 := by
      have := hf 3 _ rfl
      simp [cells_six6] at this
      exact this
    have f4 : DataW.trod enc Try.prog W 0 (fun _ => true) true m 3 [c9] = some y4 := by
      have := hf 4 _ rfl
      simp [cells_3] at this
      exact this
    have f5 : DataW.trod enc Try.prog W 0 (fun _ => true) true m 3 [c10] = some y5 := by
      have := hf 5 _ rfl
      simp [cells_3] at this
      exact this
    obtain ⟨a0, e0, _, _⟩ := DataW.trod_int Try.underlying3 f0
    obtain ⟨a1, e1, _, _⟩ := DataW.trod_int Try.underlying3 f1
    obtain ⟨a2, e2, _, _⟩ := DataW.trod_int Try.underlying3 f2
    obtain ⟨d, e3⟩ := arr_data rfl f3
    obtain ⟨a4, e4, _, _⟩ := DataW.trod_int Try.underlying3 f4
    obtain ⟨a5, e5, _, _⟩ := DataW.trod_int Try.underlying3 f5
    simp only [List.cons.injEq, and_true] at e0 e1 e2 e3 e4 e5
    obtain ⟨rfl, rfl, rfl, rfl, rfl, rfl⟩ := e3
    subst e0 e1 e2 e4 e5
    exact ⟨a0, a1, a2, d, a4, a5, rfl⟩
theorem stp_data (h : DataW.trod enc Try.prog W 0 (fun _ => true) true n 35 cs = some y) : ∃ s, ∀ h0, StpP h0 s (.agg (cs.map qy9)) := by
  obtain ⟨xs, m, _, rfl, hl, hlen, hf⟩ := DataW.trod_struct Try.underlying35 h
  rw [cells_stp] at hl
  match cs, hl, xs, hlen with
  | c0 :: c1 :: c2 :: c3 :: c4 :: r, hl, [y0, y1, y2, y3, y4, y5], _ =>
    have hr : r.length = 11 := by simpa using hl
    have f0 : DataW.trod enc Try.prog W 0 (fun _ => true) true m 3 [c0] = some y0 := by
      have := hf 0 _ rfl
      simp [cells_3] at this
      exact this
    have f1 : DataW.trod enc Try.prog W 0 (fun _ => true) true m 3 [c1] = some y1 := by
      have := hf 1 _ rfl
      simp [cells_3] at this
      exact this
    have f2 : DataW.trod enc Try.prog W 0 (fun _ => true) true m 3 [c2] = some y2 := by
      have := hf 2 _ rfl
      simp [cells_3] at this
      exact this
    have f3 : DataW.trod enc Try.prog W 0 (fun _ => true) true m 3 [c3] = some y3 := by
      have := hf 3 _ rfl
      simp [cells_3] at this
      exact this
    have f4 : DataW.trod enc Try.prog W 0 (fun _ => true) true m 9 [c4] = some y4 := by
      have := hf 4 _ rfl
      simp [cells_9s] at this
      exact this
    have f5 : DataW.trod enc Try.prog W 0 (fun _ => true) true m 33 r = some y5 := by
      have := hf 5 _ rfl
      simp [cells_ino] at this
      rw [List.take_of_length_le (by omega)] at this
      exact this
    obtain ⟨a0, e0, _, _⟩ := DataW.trod_int Try.underlying3 f0
    obtain ⟨a1, e1, _, w1⟩ := DataW.trod_int Try.underlying3 f1
    obtain ⟨a2, e2, _, w2⟩ := DataW.trod_int Try.underlying3 f2
    obtain ⟨a3, e3, _, _⟩ := DataW.trod_int Try.underlying3 f3
    obtain ⟨s, e4, z4, w4⟩ := DataW.trod_string Try.underlying9 f4
    obtain ⟨a, b, c, d, e, f, e5⟩ := ino_data f5
    simp only [List.cons.injEq, and_true] at e0 e1 e2 e3 e4
    subst e0 e1 e2 e3 e4
    have r1 := int_rng w1
    have r2 := int_rng w2
    have w5 : s.data.toList.length < 9223372036854775808 := by
      have : s.data.toList.length = s.size := by simp
      rw [this]
      unfold maxLen at w4
      omega
    exact ⟨⟨a0, a1, a2, a3, s.data.toList, a, b, c, d, e, f⟩, fun _ => ⟨by rw [List.map_cons, List.map_cons, List.map_cons, List.map_cons, List.map_cons, e5]; rfl, r1.1, r1.2, r2.1, r2.2, w5⟩⟩
end

theorem ld_stpB {W : World} {h : AH} {b o : Nat} : aLoad (CC W) h 35 (.base b o) = (aCells (CC W) h (.base b o) 16).map AV.agg := rfl
theorem agg_data {W : World} {sz : Nat} {E : TypeId} (hld : ∀ h b o, aLoad (CC W) h E (.base b o) = (aCells (CC W) h (.base b o) sz).map AV.agg) : ∀ h b o (cs : List Value), aCells (CC W) h (.base b o) sz = some (cs.map qy9) → aLoad (CC W) h E (.base b o) = some ((fun cs : List Value => .agg (cs.map qy9)) cs) := fun h b o cs hc => by
  rw [hld, hc]; rfl
/-- A list of steps. -/
theorem steps_arg {H : Type} {enc : TypeId × Value → H} {W : World} {base : Nat} {v : Value} {d : DataW H} {ps : List MemPlace} (hval : Value.okWide Try.prog W .any base 25 v) (h : DataW.Trod enc Try.prog W 0 (fun _ => true) true 25 v d ps) :
    ∃ av : AV, VRel [] av v ∧ ∃ l : List Stp, (∀ h0, BSl W h0 35 16 StpP av l) ∧ l.length ≤ maxLen :=
  bsl_arg (P := StpP) Try.underlying25 cells_stp (by decide) (agg_data fun h b o => ld_stpB) (fun n cs y ht => stp_data ht) hval h

end Go.Proofs.Ytgcoipcnhmkeaaa.Ax
end

/-! FileFails: the law's walk -/
section
set_option linter.unusedVariables false
set_option linter.unusedSimpArgs false
namespace Go.Proofs.Ytgcoipcnhmkeaaa.Ax
open Go.RowKit
set_option maxRecDepth 100000

def stp0 : List AV := [.int .i64 0, .int .i64 0, .int .i64 0, .int .i64 0, .str []] ++ zC 0 0 0 (fun _ => 0) 0 0
theorem alloc_stp {W : World} {h : AH} : aAlloc (CC W) h 35 = some (.ptr (some (.new h.next 0)), h.push (.cells stp0 35)) := rfl
theorem st_stp {W : World} {h : AH} {k : Nat} {cs : List AV} {t : TypeId} {s : Stp} (hg : h.get k = some (.cells cs t)) (hl : cs.length = 16) : aStoreOp (CC W) h 35 (.ptr (some (.new k 0))) (.agg s.cells) = some (h.set k (.cells s.cells t)) := by
  have hsl : s.cells.length = 16 := rfl
  simp only [aStoreOp, aCellsOf, size35, aStore, hg]
  have ho : s.cells.all aOne = true := rfl
  rw [if_pos (by rw [hsl]), if_pos ⟨by simp [hsl, hl], ho⟩]
  congr 3
  simp [overlay, hsl, hl]

theorem stp_lds {W : World} {h : AH} {k : Nat} {t : TypeId} {s : Stp} (hg : h.get k = some (.cells s.cells t)) :
    aLoad (CC W) h 3 (.new k 0) = some (.int .i64 s.kd) ∧ aLoad (CC W) h 3 (.new k 1) = some (.int .i64 s.i) ∧ aLoad (CC W) h 3 (.new k 2) = some (.int .i64 s.at_) ∧ aLoad (CC W) h 9 (.new k 4) = some (.str s.data) := by
  simp only [ld3, ld9, ji9 hg]
  exact ⟨rfl, rfl, rfl, rfl⟩




end Go.Proofs.Ytgcoipcnhmkeaaa.Ax
end

/-! What the laws over a blank device share: the view at its start, files set -/
section
set_option linter.unusedVariables false
set_option linter.unusedSimpArgs false
namespace Go.Proofs.Ytgcoipcnhmkeaaa.Ax
open Go.RowKit
set_option maxRecDepth 100000

theorem VIs.rebase {h : AH} {R : VR} {c : Cf} {b1 b2 : Dsk} (v : VIs h R c b1 b1 none) (he : ∀ x, x < c.B → b2 x = b1 x) : VIs h R c b2 b2 none := by
  refine ⟨v.ok, v.v, ?_, ?_, (by have hw := v.w; revert hw; cases R.kw with | none => exact fun _ => trivial | some k => exact fun hw => hw.elim), v.lv, v.lb, v.lo, v.vb, v.vo, v.bo⟩
  · obtain ⟨cs, h1, h2⟩ := v.b
    exact ⟨cs, h1, fun x hx => by rw [he x hx]; exact h2 x hx⟩
  · obtain ⟨g, h1, h2, h3⟩ := v.o
    refine ⟨g, h1, fun x => ?_, h3⟩
    cases hg : g x with
    | none => rfl
    | some b =>
      have := h2 x
      rw [hg] at this
      rw [he x (h3 x b hg), this]
      rfl

theorem repl_getD {n i : Nat} {z : Bts} (hi : i < n) : (List.replicate n z).getD i [] = z := by
  simp [List.getD, List.getElem?_replicate, hi]
def c0 : Cf := ⟨40, 20, 4⟩
theorem c0_ok : c0.OK := ⟨by decide, by decide, by decide, by decide, by decide, by decide, by decide⟩
def base0 : Dsk := fun _ => zeros 128
theorem new0 : newF 40 20 4 (List.replicate 40 (zeros 128)) = 0 := by
  have h1 : shapeR 40 20 4 = some 17 := by decide
  have h2 : badAt (List.replicate 40 (zeros 128)) = -1 := badAt_neg fun i hi => by
    have hi' : i < 40 := by simpa using hi
    rw [repl_getD hi']; simp [zeros]
  unfold newF
  rw [h1, h2]
  simp
theorem base0_at {x : Nat} (hx : x < 40) : base0 x = dskOf (List.replicate 40 (zeros 128)) x := by
  unfold base0 dskOf; rw [repl_getD hx]

/-- What New gives over a blank device. -/
def New0 (h : AH) (w : AV) (h' : AH) : Prop := Keeps h h' ∧ ∃ R, w = .tup [.ptr (some (.new R.kv 0)), .int .i64 0] ∧ VIs h' R c0 base0 base0 none
theorem new0_ret (W : World) (h : AH) (v : AV) (s : StrB W h v (List.replicate 40 (zeros 128))) :
    ACall (CC W) 11 [.agg [.int .i64 40, .int .i64 20, .int .i64 4], v] h (New0 h) (fun _ _ => False) := by
  refine (newV_ret W h 40 20 4 v _ s).mono (fun w h' ⟨hk, hw⟩ => ?_) fun _ _ h => h
  rw [if_pos new0] at hw
  obtain ⟨R, e, hv, _⟩ := hw
  exact ⟨hk, R, e, VIs.rebase (show VIs h' R c0 _ _ none from hv) fun x hx => base0_at hx⟩

/-- The inodes of which those from 1 to below i are files. -/
def nsI (i : Nat) : Nds := fun j => if 1 ≤ j ∧ j < i then bare 1 1 else Ino.zero
theorem nsI_one : nsI 1 = fun _ => Ino.zero := by
  funext j; unfold nsI; rw [if_neg (by omega)]
theorem nsI_next {i : Nat} (h1 : 1 ≤ i) : updI (nsI i) i (bare 1 1) = nsI (i + 1) := by
  funext j
  unfold updI nsI
  by_cases h : j = i
  · rw [if_pos h, if_pos (by omega)]
  · rw [if_neg h]
    by_cases h2 : 1 ≤ j ∧ j < i
    · rw [if_pos h2, if_pos (by omega)]
    · rw [if_neg h2, if_neg (by omega)]
theorem nsI_at (i : Nat) : nsI i i = Ino.zero := by unfold nsI; rw [if_neg (by omega)]
theorem build_file1 {W : World} : aBuild (CC W) 33 [(0, .int .i64 1), (1, .int .i64 1)] = some (.agg (inoC (bare 1 1))) := rfl
theorem fi0 : FI c0 (nsI 1) base0 := by rw [nsI_one]; exact blank_fi c0_ok
theorem set_one {i : Nat} {f : Dsk} (h : FI c0 (nsI i) f) (h1 : 1 ≤ i) (h4 : i < 4) : ∃ f', vSetN c0 f i (bare 1 1) = (0, f') ∧ FI c0 (nsI (i + 1)) f' := by
  obtain ⟨f', e, h2, _⟩ := set_bare c0_ok h (i := i) h4 (nsI_at i) (kd := 1) (ln := 1) (.inl ⟨rfl, by decide, by decide⟩)
  exact ⟨f', e, nsI_next h1 ▸ h2⟩
theorem shape_alloc {W : World} {h : AH} : aAlloc (CC W) h 23 = some (.ptr (some (.new h.next 0)), h.push (.cells [.int .i64 0, .int .i64 0, .int .i64 0] 23)) := rfl
theorem shape_store {W : World} {h : AH} {k : Nat} {t : TypeId} (hg : h.get k = some (.cells [.int .i64 0, .int .i64 0, .int .i64 0] t)) : aStoreOp (CC W) h 23 (.ptr (some (.new k 0))) (.agg [.int .i64 40, .int .i64 20, .int .i64 4]) = some (h.set k (.cells [.int .i64 40, .int .i64 20, .int .i64 4] t)) := by
  simp only [aStoreOp, aCellsOf, size23, aStore, hg]
  rfl
end Go.Proofs.Ytgcoipcnhmkeaaa.Ax
end
