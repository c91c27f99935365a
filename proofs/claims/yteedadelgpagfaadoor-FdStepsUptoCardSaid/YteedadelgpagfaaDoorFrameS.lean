/- An argument that is a list of steps. -/
import Derived.Test.YteedadelgpagfaaDoorFrame
import Derived.Test.YteedadelgpagfaaDoorSteps
set_option linter.unusedVariables false
set_option linter.unusedSimpArgs false
namespace Go.Proofs.YteedadelgpagfaaDoor.Ax
open Go.ChangeShapes Go.WideShapes Go.ChangeAt Go.RowKit

theorem cells5 : Tryd.prog.cellsOf 27 = 5 := by kernel_rfl
theorem cells3 : Tryd.prog.cellsOf 3 = 1 := by kernel_rfl

/-- The step in a datum that is one. -/
def stpOf {H : Type} : DataW H → Stp
  | .agg [.lit (.int _ a), .lit (.int _ b), .lit (.int _ c), .lit (.int _ d), .lit (.string p)] => ⟨a, b, c, d, p⟩
  | _ => ⟨0, 0, 0, 0, []⟩

theorem cells_five {w : World} {base : Nat} {a : Addr} {c0 c1 c2 c3 c4 : Value} (h : w.cells? base a 5 = some [c0, c1, c2, c3, c4]) :
    w.cell? (a.add 0) = some c0 ∧ w.cell? (a.add 1) = some c1 ∧ w.cell? (a.add 2) = some c2 ∧ w.cell? (a.add 3) = some c3 ∧ w.cell? (a.add 4) = some c4 := by
  unfold World.cells? at h
  split at h
  · have hr : List.range 5 = [0, 1, 2, 3, 4] := rfl
    rw [hr] at h
    simp only [List.mapM_cons, List.mapM_nil, Option.bind_eq_bind, Option.bind_eq_some_iff, Option.pure_def, Option.some.injEq, List.cons.injEq] at h
    obtain ⟨x0, h0, r0, ⟨x1, h1, r1, ⟨x2, h2, r2, ⟨x3, h3, r3, ⟨x4, h4, r4, e4, e3⟩, e2⟩, e1⟩, e0⟩, e⟩ := h
    subst e4 e3 e2 e1 e0
    simp only [List.cons.injEq, and_true] at e
    obtain ⟨rfl, rfl, rfl, rfl, rfl⟩ := e
    exact ⟨h0, h1, h2, h3, h4⟩
  · simp at h

theorem step_data {H : Type} {enc : TypeId × Value → H} {w : World} {base : Nat} {spare : Nat → Bool} {held : Bool} {n : Nat} {cs : List Value} {y : DataW H × List MemPlace}
    (h : DataW.trod enc Tryd.prog w base spare held n 27 cs = some y) :
    ∃ (a b c d : Int) (s : ByteArray), cs = [.int .i64 a, .int .i64 b, .int .i64 c, .int .i64 d, .string s] ∧ y.1 = .agg [.lit (.int .i64 a), .lit (.int .i64 b), .lit (.int .i64 c), .lit (.int .i64 d), .lit (.string s.data.toList)] := by
  obtain ⟨xs, m, _, rfl, hl, hlen, hf⟩ := DataW.trod_struct Tryd.underlying27 h
  rw [cells5] at hl
  match cs, hl, xs, hlen with
  | [c0, c1, c2, c3, c4], _, [y0, y1, y2, y3, y4], _ =>
    have f0 : DataW.trod enc Tryd.prog w base spare held m 3 [c0] = some y0 := by
      have := hf 0 _ rfl
      simp [cells3] at this
      exact this
    have f1 : DataW.trod enc Tryd.prog w base spare held m 3 [c1] = some y1 := by
      have := hf 1 _ rfl
      simp [cells3] at this
      exact this
    have f2 : DataW.trod enc Tryd.prog w base spare held m 3 [c2] = some y2 := by
      have := hf 2 _ rfl
      simp [cells3] at this
      exact this
    have f3 : DataW.trod enc Tryd.prog w base spare held m 3 [c3] = some y3 := by
      have := hf 3 _ rfl
      simp [cells3] at this
      exact this
    have f4 : DataW.trod enc Tryd.prog w base spare held m 9 [c4] = some y4 := by
      have := hf 4 _ rfl
      simp [cells9] at this
      exact this
    obtain ⟨a, e0, z0, _⟩ := DataW.trod_int Tryd.underlying3 f0
    obtain ⟨b, e1, z1, _⟩ := DataW.trod_int Tryd.underlying3 f1
    obtain ⟨c, e2, z2, _⟩ := DataW.trod_int Tryd.underlying3 f2
    obtain ⟨d, e3, z3, _⟩ := DataW.trod_int Tryd.underlying3 f3
    obtain ⟨s, e4, z4, _⟩ := DataW.trod_string Tryd.underlying9 f4
    simp only [List.cons.injEq, and_true] at e0 e1 e2 e3 e4
    subst e0 e1 e2 e3 e4 z0 z1 z2 z3 z4
    exact ⟨a, b, c, d, s, rfl, rfl⟩

theorem bulk_mem {H : Type} {d : DataW H} {l : List (DataW H)} (h : d ∈ l) : Rows.uptoBulk d ≤ Rows.uptoBulkAll l := by
  induction l with
  | nil => cases h
  | cons x r ih =>
    simp only [Rows.uptoBulkAll]
    cases List.mem_cons.1 h with
    | inl e => subst e; omega
    | inr e => have := ih e; omega

theorem steps_arg {H : Type} {enc : TypeId × Value → H} {W : World} {base : Nat} {v : Value} {d : DataW H} {ps : List MemPlace} (hval : Value.okWide Tryd.prog W .any base 22 v) (h : DataW.Trod enc Tryd.prog W 0 (fun _ => true) true 22 v d ps) :
    ∃ (av : AV) (l : List Stp), VRel [] av v ∧ StpS W av l ∧ l.length ≤ Rows.uptoBulk d ∧ ∀ s ∈ l, s.p.length ≤ Rows.uptoBulk d := by
  obtain ⟨a0, len, cap, rfl⟩ := okWide_slice Tryd.underlying22 hval
  obtain ⟨fuel, hf⟩ := h
  rcases DataW.trod_slice Tryd.underlying22 hf with ⟨hcs, hx⟩ | ⟨a, len', cap', elems, rest, n, _, hcs, hx, hb, hl, hm, hlen, hel, hsp, hns⟩
  · simp [Value.cells] at hcs
    obtain ⟨rfl, rfl, rfl⟩ := hcs
    exact ⟨.sl none 0 0 none, [], by simp [VRel], ⟨none, 0, rfl, fun i s hs => by simp at hs⟩, by simp, by simp⟩
  · simp [Value.cells] at hcs
    obtain ⟨rfl, rfl, rfl⟩ := hcs
    simp only [Prod.mk.injEq] at hx
    obtain ⟨rfl, _⟩ := hx
    have hsp' : a.spot = none := by
      simp only [Value.okWide, Tryd.underlying22, Cell.okWide, Cell.ok, World.has] at hval
      exact hval.2.2.2.1
    obtain ⟨b, o, sp⟩ := a
    simp only at hsp'
    subst hsp'
    have each : ∀ (i : Nat) y, elems[i]? = some y → ∃ (a b' c d : Int) (s : ByteArray), (W.cell? ⟨b, o + i * 5 + 0, none⟩ = some (.int .i64 a) ∧ W.cell? ⟨b, o + i * 5 + 1, none⟩ = some (.int .i64 b') ∧ W.cell? ⟨b, o + i * 5 + 2, none⟩ = some (.int .i64 c) ∧ W.cell? ⟨b, o + i * 5 + 3, none⟩ = some (.int .i64 d) ∧ W.cell? ⟨b, o + i * 5 + 4, none⟩ = some (.string s)) ∧
        y.1 = .agg [.lit (.int .i64 a), .lit (.int .i64 b'), .lit (.int .i64 c), .lit (.int .i64 d), .lit (.string s.data.toList)] := by
      intro i y hy
      have hi : i < len := by rw [← hlen]; exact (List.getElem?_eq_some_iff.1 hy).1
      have hbd := hel i hi
      rw [hy, Option.bind_eq_some_iff, cells5] at hbd
      obtain ⟨cs, hc, ht⟩ := hbd
      obtain ⟨p, q, r, t, s, rfl, he⟩ := step_data ht
      have := cells_five hc
      simp only [add_addr] at this
      exact ⟨p, q, r, t, s, this, he⟩
    refine ⟨.sl (some (.base b o)) len cap none, elems.map fun y => stpOf y.1, by simp [VRel], ⟨some (.base b o), cap, by simp [hlen], fun i s hs => ?_⟩, ?_, fun s hs => ?_⟩
    · rw [List.getElem?_map, Option.map_eq_some_iff] at hs
      obtain ⟨y, hy, rfl⟩ := hs
      obtain ⟨p, q, r, t, u, hcell, he⟩ := each i y hy
      have hi : i < (elems.map fun y => stpOf y.1).length := by simpa using (List.getElem?_eq_some_iff.1 hy).1
      refine ⟨.base b (o + i * 5), ?_, fun h => ?_⟩
      · simp only [aIndexAddr, kind22, size27]
        rw [if_pos (by omega)]
        simp [AA.add]
      · have hw0 : (CC W).W0 = W := _root_.id rfl
        have hr : List.range 5 = [0, 1, 2, 3, 4] := rfl
        have hst : stpOf y.1 = ⟨p, q, r, t, u.data.toList⟩ := by rw [he]; rfl
        rw [hst]
        obtain ⟨h0, h1, h2, h3, h4⟩ := hcell
        simp only [aLoad, ty27, T27, AKind.isOther, AKind.isAgg, aCells, hr, List.mapM_cons, List.mapM_nil, AA.add, aCell, hw0, h0, h1, h2, h3, h4, Stp.cells]
        rfl
    · have := bulk_length (elems.map (·.1))
      simp only [Rows.uptoBulk, List.length_map] at this ⊢
      omega
    · obtain ⟨y, hy, rfl⟩ := List.mem_map.1 hs
      obtain ⟨i, hi⟩ := List.getElem?_of_mem hy
      obtain ⟨p, q, r, t, u, hcell, he⟩ := each i y hi
      have hst : stpOf y.1 = ⟨p, q, r, t, u.data.toList⟩ := by rw [he]; rfl
      rw [hst]
      have h1 := bulk_mem (List.mem_map_of_mem (f := (·.1)) hy)
      rw [he] at h1
      simp only [Rows.uptoBulk, Rows.uptoBulkAll] at h1 ⊢
      omega
end Go.Proofs.YteedadelgpagfaaDoor.Ax
