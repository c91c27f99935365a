/- The texts FrameB, FrameO, FrameS, as one. -/
import Derived.Test.YtbofhlifobjolaaGreatDoorCards
import Derived.Test.YtbofhlifobjolaaGreatDoorTie
import Derived.Test.YtbofhlifobjolaaGreatDoorGc
import Derived.WalkKit
import Derived.ProofKit
import Derived.OpenShut
import Derived.SliceStrings
import Derived.Carry
import Derived.Lay
import Derived.SizedLaws
import Derived.Deep.DeepHandedRow
import Derived.Test.YtbofhlifobjolaaGreatDoorGi

/-! What a law's claim needs behind its walk: arguments that are texts and numbers; a call that changes nothing that was there -/
section
set_option linter.unusedVariables false
set_option linter.unusedSimpArgs false
namespace Go.Proofs.YtbofhlifobjolaaGreatDoor.Ax
open Go.ChangeShapes Go.WideShapes Go.ChangeAt Go.RowKit
set_option maxRecDepth 100000

theorem own : ownKnob Tryz.prog.godebug = none := by kernel_rfl
theorem laidOut : laidOutB Tryz.prog = true := by kernel_rfl
theorem cells9 : Tryz.prog.cellsOf 9 = 1 := by kernel_rfl



/-- The end: one true result, all as it was. -/
theorem post_true {H : Type} {enc : TypeId × Value → H} {f : Func} {s : ChangeSpec} {W W' : World} {args : Array Value} {ds : List (DataW H)} {p : List MemPlace}
    (hW : DataW.Whole enc Tryz.prog f.params.toList s.vars false W args.toList ds [] p) (hv : s.vars = []) (hr : f.resultTypes = #[4])
    (hA : DataW.TrodAll enc Tryz.prog W 0 (fun _ => true) true f.params.toList args.toList ds p)
    (hread : ∀ t ∈ f.params.toList, Tryz.prog.readableRec t = true ∧ t < Tryz.prog.types.size)
    (hfn : s.fn H (ds ++ []) = { results := [.lit (.bool true)], args := ds })
    (hb : Below W.heap.size W W') : s.post enc Tryz.prog f false true false false W args (.bool true) W' := by
  have hlt : ∀ x ∈ p, x.block < W.heap.size := fun x hx => by simpa using hW.lt x hx
  have hargs : ∀ (ts : List TypeId) (vs : List Value) (ds : List (DataW H)) (p : List MemPlace), (∀ t ∈ ts, Tryz.prog.readableRec t = true ∧ t < Tryz.prog.types.size) → (∀ x ∈ p, x.block < W.heap.size) →
      DataW.TrodAll enc Tryz.prog W 0 (fun _ => true) true ts vs ds p → DataW.TrodAll enc Tryz.prog W' 0 (fun b => decide (b < W.heap.size)) true ts vs ds p := by
    intro ts
    induction ts with
    | nil => intro vs ds p _ _ h; obtain ⟨rfl, rfl, rfl⟩ := trodAll_nil h; simp [DataW.TrodAll]
    | cons t ts ih =>
      intro vs ds p hr hl h
      obtain ⟨v, vs', d, ds', p1, q1, rfl, rfl, rfl, h1, h2⟩ := trodAll_cons h
      obtain ⟨r1, r2⟩ := hr t (by simp)
      exact trodAll_cons_mk (Below.trod laidOut r1 r2 h1 hb fun x hx => hl x (by simp [hx])) (ih vs' ds' q1 (fun t ht => hr t (by simp [ht])) (fun x hx => hl x (by simp [hx])) h2)
  refine ⟨_, _, _, [] ++ [], p, [], hW, ?_, ?_, ?_, hb.frame _, fun h => by cases h⟩
  · rw [hfn, hr]; exact trodAll_mk1 (shut_bool Tryz.underlying4 true)
  · rw [hfn]; exact hargs _ _ _ _ hread hlt hA
  · rw [hv, hfn]; rfl


theorem bulk_one {H : Type} (d : DataW H) : 1 ≤ Rows.uptoBulk d := by
  cases d with
  | lit l => cases l <;> simp [Rows.uptoBulk]
  | nil => simp [Rows.uptoBulk]
  | ptr d => simp [Rows.uptoBulk]
  | slice elems spare => simp [Rows.uptoBulk]
  | agg parts => simp [Rows.uptoBulk]
  | iface t d => simp [Rows.uptoBulk]
  | map entries => simp [Rows.uptoBulk]
  | held h => simp [Rows.uptoBulk]

theorem bulk_length {H : Type} (l : List (DataW H)) : l.length ≤ Rows.uptoBulkAll l := by
  induction l with
  | nil => simp [Rows.uptoBulkAll]
  | cons x r ih => have := bulk_one x; simp only [Rows.uptoBulkAll, List.length_cons]; omega

theorem bads_rel {ρ : Rho} : ∀ (l : List Value) (n : Nat), l.length = n → VsRel ρ (List.replicate n .bad) l
  | [], n, h => by
    have : n = 0 := by simpa using h.symm
    subst this
    simp [VsRel]
  | x :: l, n, h => by
    cases n with
    | zero => simp at h
    | succ n =>
      simp only [List.replicate_succ, VsRel]
      exact ⟨x, l, rfl, by simp [VRel], bads_rel l n (by simpa using h)⟩
end Go.Proofs.YtbofhlifobjolaaGreatDoor.Ax
end

/-! An argument that is a list of operations -/
section
set_option linter.unusedVariables false
set_option linter.unusedSimpArgs false
namespace Go.Proofs.YtbofhlifobjolaaGreatDoor.Ax
open Go.ChangeShapes Go.WideShapes Go.ChangeAt Go.RowKit
set_option maxRecDepth 100000

theorem cells_op : Tryz.prog.cellsOf 35 = 6 := by kernel_rfl
theorem cells_3 : Tryz.prog.cellsOf 3 = 1 := by kernel_rfl

def opnOf {H : Type} : DataW H → Opn
  | .agg [.lit (.int _ a), .lit (.int _ b), .lit (.int _ c), .lit (.string p), .lit (.string t), .lit (.string d)] => ⟨a, b, c, p, t, d⟩
  | _ => ⟨0, 0, 0, [], [], []⟩

theorem cells_six {w : World} {base : Nat} {a : Addr} {c0 c1 c2 c3 c4 c5 : Value} (h : w.cells? base a 6 = some [c0, c1, c2, c3, c4, c5]) :
    w.cell? (a.add 0) = some c0 ∧ w.cell? (a.add 1) = some c1 ∧ w.cell? (a.add 2) = some c2 ∧ w.cell? (a.add 3) = some c3 ∧ w.cell? (a.add 4) = some c4 ∧ w.cell? (a.add 5) = some c5 := by
  unfold World.cells? at h
  split at h
  · have hr : List.range 6 = [0, 1, 2, 3, 4, 5] := rfl
    rw [hr] at h
    simp only [List.mapM_cons, List.mapM_nil, Option.bind_eq_bind, Option.bind_eq_some_iff, Option.pure_def, Option.some.injEq, List.cons.injEq] at h
    obtain ⟨x0, h0, r0, ⟨x1, h1, r1, ⟨x2, h2, r2, ⟨x3, h3, r3, ⟨x4, h4, r4, ⟨x5, h5, r5, e5, e4⟩, e3⟩, e2⟩, e1⟩, e0⟩, e⟩ := h
    subst e5 e4 e3 e2 e1 e0
    simp only [List.cons.injEq, and_true] at e
    obtain ⟨rfl, rfl, rfl, rfl, rfl, rfl⟩ := e
    exact ⟨h0, h1, h2, h3, h4, h5⟩
  · simp at h

theorem op_data {H : Type} {enc : TypeId × Value → H} {w : World} {base : Nat} {spare : Nat → Bool} {held : Bool} {n : Nat} {cs : List Value} {y : DataW H × List MemPlace}
    (h : DataW.trod enc Tryz.prog w base spare held n 35 cs = some y) :
    ∃ (a b c : Int) (s t d : ByteArray), cs = [.int .i64 a, .int .i64 b, .int .i64 c, .string s, .string t, .string d] ∧ (-9223372036854775808 ≤ b ∧ b < 9223372036854775808) ∧
      y.1 = .agg [.lit (.int .i64 a), .lit (.int .i64 b), .lit (.int .i64 c), .lit (.string s.data.toList), .lit (.string t.data.toList), .lit (.string d.data.toList)] := by
  obtain ⟨xs, m, _, rfl, hl, hlen, hf⟩ := DataW.trod_struct Tryz.underlying35 h
  rw [cells_op] at hl
  match cs, hl, xs, hlen with
  | [c0, c1, c2, c3, c4, c5], _, [y0, y1, y2, y3, y4, y5], _ =>
    have f0 : DataW.trod enc Tryz.prog w base spare held m 3 [c0] = some y0 := by
      have := hf 0 _ rfl
      simp [cells_3] at this
      exact this
    have f1 : DataW.trod enc Tryz.prog w base spare held m 3 [c1] = some y1 := by
      have := hf 1 _ rfl
      simp [cells_3] at this
      exact this
    have f2 : DataW.trod enc Tryz.prog w base spare held m 3 [c2] = some y2 := by
      have := hf 2 _ rfl
      simp [cells_3] at this
      exact this
    have f3 : DataW.trod enc Tryz.prog w base spare held m 9 [c3] = some y3 := by
      have := hf 3 _ rfl
      simp [cells9] at this
      exact this
    have f4 : DataW.trod enc Tryz.prog w base spare held m 9 [c4] = some y4 := by
      have := hf 4 _ rfl
      simp [cells9] at this
      exact this
    have f5 : DataW.trod enc Tryz.prog w base spare held m 9 [c5] = some y5 := by
      have := hf 5 _ rfl
      simp [cells9] at this
      exact this
    obtain ⟨a, e0, z0, _⟩ := DataW.trod_int Tryz.underlying3 f0
    obtain ⟨b, e1, z1, w1⟩ := DataW.trod_int Tryz.underlying3 f1
    obtain ⟨c, e2, z2, _⟩ := DataW.trod_int Tryz.underlying3 f2
    obtain ⟨s, e3, z3, _⟩ := DataW.trod_string Tryz.underlying9 f3
    obtain ⟨t, e4, z4, _⟩ := DataW.trod_string Tryz.underlying9 f4
    obtain ⟨d, e5, z5, _⟩ := DataW.trod_string Tryz.underlying9 f5
    simp only [List.cons.injEq, and_true] at e0 e1 e2 e3 e4 e5
    subst e0 e1 e2 e3 e4 e5 z0 z1 z2 z3 z4 z5
    have hb : -9223372036854775808 ≤ b ∧ b < 9223372036854775808 := by
      simp only [Lit.wf, Bool.and_eq_true, decide_eq_true_eq] at w1
      have h1 : IntKind.i64.min = -9223372036854775808 := by decide
      have h2 : IntKind.i64.max = 9223372036854775807 := by decide
      omega
    exact ⟨a, b, c, s, t, d, rfl, hb, rfl⟩

theorem bulk_mem {H : Type} {d : DataW H} {l : List (DataW H)} (h : d ∈ l) : Rows.uptoBulk d ≤ Rows.uptoBulkAll l := by
  induction l with
  | nil => cases h
  | cons x r ih =>
    simp only [Rows.uptoBulkAll]
    cases List.mem_cons.1 h with
    | inl e => subst e; omega
    | inr e => have := ih e; omega

/-- A list of operations; they can be done where they are no greater than a machine's memory. -/
theorem ops_arg {H : Type} {enc : TypeId × Value → H} {W : World} {base : Nat} {v : Value} {d : DataW H} {ps : List MemPlace} (hval : Value.okWide Tryz.prog W .any base 24 v) (h : DataW.Trod enc Tryz.prog W 0 (fun _ => true) true 24 v d ps) :
    ∃ (av : AV), VRel [] av v ∧ (Rows.uptoBulk d < 1000000000 → ∃ l : List Opn, OpsS W av l ∧ l.length ≤ Rows.uptoBulk d) := by
  obtain ⟨a0, len, cap, rfl⟩ := okWide_slice Tryz.underlying24 hval
  obtain ⟨fuel, hf⟩ := h
  rcases DataW.trod_slice Tryz.underlying24 hf with ⟨hcs, hx⟩ | ⟨a, len', cap', elems, rest, n, _, hcs, hx, hb, hl, hm, hlen, hel, hsp, hns⟩
  · simp [Value.cells] at hcs
    obtain ⟨rfl, rfl, rfl⟩ := hcs
    exact ⟨.sl none 0 0 none, by simp [VRel], fun _ => ⟨[], ⟨none, 0, rfl, fun i s hs => by simp at hs⟩, by simp⟩⟩
  · simp [Value.cells] at hcs
    obtain ⟨rfl, rfl, rfl⟩ := hcs
    simp only [Prod.mk.injEq] at hx
    obtain ⟨rfl, _⟩ := hx
    have hsp' : a.spot = none := by
      simp only [Value.okWide, Tryz.underlying24, Cell.okWide, Cell.ok, World.has] at hval
      exact hval.2.2.2.1
    obtain ⟨b, o, sp⟩ := a
    simp only at hsp'
    subst hsp'
    have each : ∀ (i : Nat) y, elems[i]? = some y → ∃ (a b' c : Int) (s t d : ByteArray), (W.cell? ⟨b, o + i * 6 + 0, none⟩ = some (.int .i64 a) ∧ W.cell? ⟨b, o + i * 6 + 1, none⟩ = some (.int .i64 b') ∧ W.cell? ⟨b, o + i * 6 + 2, none⟩ = some (.int .i64 c) ∧ W.cell? ⟨b, o + i * 6 + 3, none⟩ = some (.string s) ∧ W.cell? ⟨b, o + i * 6 + 4, none⟩ = some (.string t) ∧ W.cell? ⟨b, o + i * 6 + 5, none⟩ = some (.string d)) ∧
        (-9223372036854775808 ≤ b' ∧ b' < 9223372036854775808) ∧ y.1 = .agg [.lit (.int .i64 a), .lit (.int .i64 b'), .lit (.int .i64 c), .lit (.string s.data.toList), .lit (.string t.data.toList), .lit (.string d.data.toList)] := by
      intro i y hy
      have hi : i < len := by rw [← hlen]; exact (List.getElem?_eq_some_iff.1 hy).1
      have hbd := hel i hi
      rw [hy, Option.bind_eq_some_iff, cells_op] at hbd
      obtain ⟨cs, hc, ht⟩ := hbd
      obtain ⟨p, q, r, s, t, d, rfl, hr, he⟩ := op_data ht
      have := cells_six hc
      simp only [add_addr] at this
      exact ⟨p, q, r, s, t, d, this, hr, he⟩
    refine ⟨.sl (some (.base b o)) len cap none, by simp [VRel], fun hbig => ⟨elems.map fun y => opnOf y.1, ⟨some (.base b o), cap, by simp [hlen], fun i s hs => ?_⟩, ?_⟩⟩
    · rw [List.getElem?_map, Option.map_eq_some_iff] at hs
      obtain ⟨y, hy, rfl⟩ := hs
      obtain ⟨p, q, r, t, u, d, hcell, hrange, he⟩ := each i y hy
      have hi : i < (elems.map fun y => opnOf y.1).length := by simpa using (List.getElem?_eq_some_iff.1 hy).1
      have hst : opnOf y.1 = ⟨p, q, r, t.data.toList, u.data.toList, d.data.toList⟩ := by rw [he]; rfl
      have hbk := bulk_mem (List.mem_map_of_mem (f := (·.1)) (List.mem_of_getElem? hy))
      refine ⟨?_, .base b (o + i * 6), ?_, fun h => ?_⟩
      · rw [hst]
        rw [he] at hbk
        simp only [Rows.uptoBulk, Rows.uptoBulkAll] at hbk hbig
        exact ⟨by show t.data.toList.length < _; omega, by show u.data.toList.length < _; omega, hrange.2, hrange.1⟩
      · simp only [aIndexAddr, kind24, size35]
        rw [if_pos (by omega)]
        simp [AA.add]
      · have hw0 : (CC W).W0 = W := _root_.id rfl
        have hr : List.range 6 = [0, 1, 2, 3, 4, 5] := rfl
        rw [hst]
        obtain ⟨h0, h1, h2, h3, h4, h5⟩ := hcell
        simp only [aLoad, ty35, T35, AKind.isOther, AKind.isAgg, aCells, hr, List.mapM_cons, List.mapM_nil, AA.add, aCell, hw0, h0, h1, h2, h3, h4, h5, Opn.cells]
        rfl
    · have := bulk_length (elems.map (·.1))
      simp only [Rows.uptoBulk, List.length_map] at this ⊢
      omega
end Go.Proofs.YtbofhlifobjolaaGreatDoor.Ax
end

/-! Arguments that are a shape, and one operation -/
section
set_option linter.unusedVariables false
set_option linter.unusedSimpArgs false
namespace Go.Proofs.YtbofhlifobjolaaGreatDoor.Ax
open Go.ChangeShapes Go.WideShapes Go.ChangeAt Go.RowKit
set_option maxRecDepth 100000

theorem cells_shape : Tryz.prog.cellsOf 23 = 3 := by kernel_rfl

/-- A shape. -/
theorem shape_arg {H : Type} {enc : TypeId × Value → H} {W : World} {base : Nat} {v : Value} {d : DataW H} {ps : List MemPlace} (hval : Value.okWide Tryz.prog W .any base 23 v) (h : DataW.Trod enc Tryz.prog W 0 (fun _ => true) true 23 v d ps) :
    ∃ av : AV, VRel [] av v ∧ ∃ a b c : Int, av = .agg [.int .i64 a, .int .i64 b, .int .i64 c] := by
  obtain ⟨cs, rfl, z⟩ := okWide_struct Tryz.underlying23 hval
  obtain ⟨fuel, hf⟩ := h
  obtain ⟨xs, m, _, _, hl, hlen, hf⟩ := DataW.trod_struct Tryz.underlying23 hf
  rw [cells_shape] at hl
  simp only [Value.cells] at hl hf
  have hcs : ∃ l, cs.toList = l := ⟨_, rfl⟩
  obtain ⟨l, hcs⟩ := hcs
  rw [hcs] at hl hf
  match l, hl, xs, hlen with
  | [c0, c1, c2], _, [y0, y1, y2], _ =>
    have f0 : DataW.trod enc Tryz.prog W 0 (fun _ => true) true m 3 [c0] = some y0 := by
      have := hf 0 _ rfl
      simp [cells_3] at this
      exact this
    have f1 : DataW.trod enc Tryz.prog W 0 (fun _ => true) true m 3 [c1] = some y1 := by
      have := hf 1 _ rfl
      simp [cells_3] at this
      exact this
    have f2 : DataW.trod enc Tryz.prog W 0 (fun _ => true) true m 3 [c2] = some y2 := by
      have := hf 2 _ rfl
      simp [cells_3] at this
      exact this
    obtain ⟨a, e0, _, _⟩ := DataW.trod_int Tryz.underlying3 f0
    obtain ⟨b, e1, _, _⟩ := DataW.trod_int Tryz.underlying3 f1
    obtain ⟨c, e2, _, _⟩ := DataW.trod_int Tryz.underlying3 f2
    simp only [List.cons.injEq, and_true] at e0 e1 e2
    subst e0 e1 e2
    refine ⟨_, ?_, a, b, c, rfl⟩
    simp only [VRel]
    exact ⟨cs, rfl, by rw [hcs]; simp [VsRel, VRel]⟩

end Go.Proofs.YtbofhlifobjolaaGreatDoor.Ax
end
