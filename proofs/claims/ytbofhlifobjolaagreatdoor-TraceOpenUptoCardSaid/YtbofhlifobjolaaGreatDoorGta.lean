/- The texts FrameB, FrameO, EqRes, Paths, JoinM, TreeF, DeepM, ShortM, FailM, TraceB, TraceC, TraceW, TraceE, TraceF, TraceG, as one. -/
import Derived.Test.YtbofhlifobjolaaGreatDoorCards
import Derived.Test.YtbofhlifobjolaaGreatDoorTie
import Derived.Test.YtbofhlifobjolaaGreatDoorGc
import Derived.WalkKit
import Derived.ProofKit
import Derived.OpenShut
import Derived.SliceStrings
import Derived.Carry
import Derived.Lay
import Derived.SizedLaws
import Derived.Deep.DeepHandedRow
import Derived.Test.YtbofhlifobjolaaGreatDoorGi
import Derived.Test.YtbofhlifobjolaaGreatDoorGe
import Derived.Test.YtbofhlifobjolaaGreatDoorGg
import Derived.Test.YtbofhlifobjolaaGreatDoorGh

/-! What a law's claim needs behind its walk: arguments that are texts and numbers; a call that changes nothing that was there -/
section
set_option linter.unusedVariables false
set_option linter.unusedSimpArgs false
namespace Go.Proofs.YtbofhlifobjolaaGreatDoor.Ax
open Go.ChangeShapes Go.WideShapes Go.ChangeAt Go.RowKit
set_option maxRecDepth 100000

theorem own : ownKnob Tryz.prog.godebug = none := by kernel_rfl
theorem laidOut : laidOutB Tryz.prog = true := by kernel_rfl
theorem cells9 : Tryz.prog.cellsOf 9 = 1 := by kernel_rfl


/-- An argument that is a number. -/
theorem int_arg {H : Type} {enc : TypeId × Value → H} {W : World} {base : Nat} {v : Value} {d : DataW H} {ps : List MemPlace} (hval : Value.okWide Tryz.prog W .any base 3 v) (h : DataW.Trod enc Tryz.prog W 0 (fun _ => true) true 3 v d ps) :
    ∃ n : Int, v = .int .i64 n ∧ d = .lit (.int .i64 n) := by
  obtain ⟨n, h1, h2, _, _⟩ := open_int Tryz.underlying3 hval h
  exact ⟨n, h1, h2⟩

/-- The end: one true result, all as it was. -/
theorem post_true {H : Type} {enc : TypeId × Value → H} {f : Func} {s : ChangeSpec} {W W' : World} {args : Array Value} {ds : List (DataW H)} {p : List MemPlace}
    (hW : DataW.Whole enc Tryz.prog f.params.toList s.vars false W args.toList ds [] p) (hv : s.vars = []) (hr : f.resultTypes = #[4])
    (hA : DataW.TrodAll enc Tryz.prog W 0 (fun _ => true) true f.params.toList args.toList ds p)
    (hread : ∀ t ∈ f.params.toList, Tryz.prog.readableRec t = true ∧ t < Tryz.prog.types.size)
    (hfn : s.fn H (ds ++ []) = { results := [.lit (.bool true)], args := ds })
    (hb : Below W.heap.size W W') : s.post enc Tryz.prog f false true false false W args (.bool true) W' := by
  have hlt : ∀ x ∈ p, x.block < W.heap.size := fun x hx => by simpa using hW.lt x hx
  have hargs : ∀ (ts : List TypeId) (vs : List Value) (ds : List (DataW H)) (p : List MemPlace), (∀ t ∈ ts, Tryz.prog.readableRec t = true ∧ t < Tryz.prog.types.size) → (∀ x ∈ p, x.block < W.heap.size) →
      DataW.TrodAll enc Tryz.prog W 0 (fun _ => true) true ts vs ds p → DataW.TrodAll enc Tryz.prog W' 0 (fun b => decide (b < W.heap.size)) true ts vs ds p := by
    intro ts
    induction ts with
    | nil => intro vs ds p _ _ h; obtain ⟨rfl, rfl, rfl⟩ := trodAll_nil h; simp [DataW.TrodAll]
    | cons t ts ih =>
      intro vs ds p hr hl h
      obtain ⟨v, vs', d, ds', p1, q1, rfl, rfl, rfl, h1, h2⟩ := trodAll_cons h
      obtain ⟨r1, r2⟩ := hr t (by simp)
      exact trodAll_cons_mk (Below.trod laidOut r1 r2 h1 hb fun x hx => hl x (by simp [hx])) (ih vs' ds' q1 (fun t ht => hr t (by simp [ht])) (fun x hx => hl x (by simp [hx])) h2)
  refine ⟨_, _, _, [] ++ [], p, [], hW, ?_, ?_, ?_, hb.frame _, fun h => by cases h⟩
  · rw [hfn, hr]; exact trodAll_mk1 (shut_bool Tryz.underlying4 true)
  · rw [hfn]; exact hargs _ _ _ _ hread hlt hA
  · rw [hv, hfn]; rfl


theorem bulk_one {H : Type} (d : DataW H) : 1 ≤ Rows.uptoBulk d := by
  cases d with
  | lit l => cases l <;> simp [Rows.uptoBulk]
  | nil => simp [Rows.uptoBulk]
  | ptr d => simp [Rows.uptoBulk]
  | slice elems spare => simp [Rows.uptoBulk]
  | agg parts => simp [Rows.uptoBulk]
  | iface t d => simp [Rows.uptoBulk]
  | map entries => simp [Rows.uptoBulk]
  | held h => simp [Rows.uptoBulk]

theorem bulk_length {H : Type} (l : List (DataW H)) : l.length ≤ Rows.uptoBulkAll l := by
  induction l with
  | nil => simp [Rows.uptoBulkAll]
  | cons x r ih => have := bulk_one x; simp only [Rows.uptoBulkAll, List.length_cons]; omega

theorem bads_rel {ρ : Rho} : ∀ (l : List Value) (n : Nat), l.length = n → VsRel ρ (List.replicate n .bad) l
  | [], n, h => by
    have : n = 0 := by simpa using h.symm
    subst this
    simp [VsRel]
  | x :: l, n, h => by
    cases n with
    | zero => simp at h
    | succ n =>
      simp only [List.replicate_succ, VsRel]
      exact ⟨x, l, rfl, by simp [VRel], bads_rel l n (by simpa using h)⟩
end Go.Proofs.YtbofhlifobjolaaGreatDoor.Ax
end

/-! An argument that is a list of operations -/
section
set_option linter.unusedVariables false
set_option linter.unusedSimpArgs false
namespace Go.Proofs.YtbofhlifobjolaaGreatDoor.Ax
open Go.ChangeShapes Go.WideShapes Go.ChangeAt Go.RowKit
set_option maxRecDepth 100000

theorem cells_op : Tryz.prog.cellsOf 35 = 6 := by kernel_rfl
theorem cells_3 : Tryz.prog.cellsOf 3 = 1 := by kernel_rfl

def opnOf {H : Type} : DataW H → Opn
  | .agg [.lit (.int _ a), .lit (.int _ b), .lit (.int _ c), .lit (.string p), .lit (.string t), .lit (.string d)] => ⟨a, b, c, p, t, d⟩
  | _ => ⟨0, 0, 0, [], [], []⟩


theorem op_data {H : Type} {enc : TypeId × Value → H} {w : World} {base : Nat} {spare : Nat → Bool} {held : Bool} {n : Nat} {cs : List Value} {y : DataW H × List MemPlace}
    (h : DataW.trod enc Tryz.prog w base spare held n 35 cs = some y) :
    ∃ (a b c : Int) (s t d : ByteArray), cs = [.int .i64 a, .int .i64 b, .int .i64 c, .string s, .string t, .string d] ∧ (-9223372036854775808 ≤ b ∧ b < 9223372036854775808) ∧
      y.1 = .agg [.lit (.int .i64 a), .lit (.int .i64 b), .lit (.int .i64 c), .lit (.string s.data.toList), .lit (.string t.data.toList), .lit (.string d.data.toList)] := by
  obtain ⟨xs, m, _, rfl, hl, hlen, hf⟩ := DataW.trod_struct Tryz.underlying35 h
  rw [cells_op] at hl
  match cs, hl, xs, hlen with
  | [c0, c1, c2, c3, c4, c5], _, [y0, y1, y2, y3, y4, y5], _ =>
    have f0 : DataW.trod enc Tryz.prog w base spare held m 3 [c0] = some y0 := by
      have := hf 0 _ rfl
      simp [cells_3] at this
      exact this
    have f1 : DataW.trod enc Tryz.prog w base spare held m 3 [c1] = some y1 := by
      have := hf 1 _ rfl
      simp [cells_3] at this
      exact this
    have f2 : DataW.trod enc Tryz.prog w base spare held m 3 [c2] = some y2 := by
      have := hf 2 _ rfl
      simp [cells_3] at this
      exact this
    have f3 : DataW.trod enc Tryz.prog w base spare held m 9 [c3] = some y3 := by
      have := hf 3 _ rfl
      simp [cells9] at this
      exact this
    have f4 : DataW.trod enc Tryz.prog w base spare held m 9 [c4] = some y4 := by
      have := hf 4 _ rfl
      simp [cells9] at this
      exact this
    have f5 : DataW.trod enc Tryz.prog w base spare held m 9 [c5] = some y5 := by
      have := hf 5 _ rfl
      simp [cells9] at this
      exact this
    obtain ⟨a, e0, z0, _⟩ := DataW.trod_int Tryz.underlying3 f0
    obtain ⟨b, e1, z1, w1⟩ := DataW.trod_int Tryz.underlying3 f1
    obtain ⟨c, e2, z2, _⟩ := DataW.trod_int Tryz.underlying3 f2
    obtain ⟨s, e3, z3, _⟩ := DataW.trod_string Tryz.underlying9 f3
    obtain ⟨t, e4, z4, _⟩ := DataW.trod_string Tryz.underlying9 f4
    obtain ⟨d, e5, z5, _⟩ := DataW.trod_string Tryz.underlying9 f5
    simp only [List.cons.injEq, and_true] at e0 e1 e2 e3 e4 e5
    subst e0 e1 e2 e3 e4 e5 z0 z1 z2 z3 z4 z5
    have hb : -9223372036854775808 ≤ b ∧ b < 9223372036854775808 := by
      simp only [Lit.wf, Bool.and_eq_true, decide_eq_true_eq] at w1
      have h1 : IntKind.i64.min = -9223372036854775808 := by decide
      have h2 : IntKind.i64.max = 9223372036854775807 := by decide
      omega
    exact ⟨a, b, c, s, t, d, rfl, hb, rfl⟩

theorem bulk_mem {H : Type} {d : DataW H} {l : List (DataW H)} (h : d ∈ l) : Rows.uptoBulk d ≤ Rows.uptoBulkAll l := by
  induction l with
  | nil => cases h
  | cons x r ih =>
    simp only [Rows.uptoBulkAll]
    cases List.mem_cons.1 h with
    | inl e => subst e; omega
    | inr e => have := ih e; omega

end Go.Proofs.YtbofhlifobjolaaGreatDoor.Ax
end

/-! Answers that are the same; boxes of answers -/
section
set_option linter.unusedVariables false
set_option linter.unusedSimpArgs false
namespace Go.Proofs.YtbofhlifobjolaaGreatDoor.Ax
open Go.RowKit



/-- Names in a block beside a model, or none. -/
def NmB (h : AH) (R : MR) (nv : AV) (l : List (List UInt8)) : Prop := l = [] ∧ nv = .sl none 0 0 none ∨ ∃ k, k < h.next ∧ k ∉ R.ids ∧ h.get k = some (.cells (l.map .str) 9) ∧ nv = .sl (some (.new k 0)) l.length l.length (some 1)
theorem NmS.nmB {h0 h : AH} {R : MR} {M : MS} {nv : AV} {l : List (List UInt8)} (hm : MIs h R M) (hn : NmS h0 h nv l) : NmB h R nv l := by
  rcases hn with ⟨rfl, rfl⟩ | ⟨k, _, h2, h3, rfl⟩
  · exact .inl ⟨rfl, rfl⟩
  · exact .inr ⟨k, h2, fun hin => hm.notText hin h3, h3, rfl⟩
theorem NmB.step {h h' : AH} {R R' : MR} {nv : AV} {l : List (List UInt8)} (hn : NmB h R nv l) (hB : MStep h h' R R') : NmB h' R' nv l := by
  rcases hn with ⟨rfl, rfl⟩ | ⟨k, h1, h2, h3, rfl⟩
  · exact .inl ⟨rfl, rfl⟩
  · obtain ⟨a, b, c⟩ := hB.box h3 h1 h2
    exact .inr ⟨k, b, c, a, rfl⟩
theorem NmB.strS {W : World} {h : AH} {R : MR} {nv : AV} {l : List (List UInt8)} (hn : NmB h R nv l) : StrS W h nv l := by
  rcases hn with ⟨rfl, rfl⟩ | ⟨k, h1, h2, h3, rfl⟩
  · exact StrS.nil
  · refine ⟨_, _, _, rfl, ⟨Nat.le_refl _, .inr rfl⟩, fun j x hx => ⟨_, rfl, h1, ?_, _, h3⟩⟩
    simp only [AA.add, aCell, h3, Nat.zero_add]
    simp [hx]
theorem NmB.isSl {h : AH} {R : MR} {nv : AV} {l : List (List UInt8)} (hn : NmB h R nv l) : ∃ p n c g, nv = .sl p n c g := by
  rcases hn with ⟨_, rfl⟩ | ⟨k, _, _, _, rfl⟩ <;> exact ⟨_, _, _, _, rfl⟩

/-- An answer in a box beside a model. -/
def BoxAt (h : AH) (R : MR) (k : Nat) (r : Res) : Prop := ∃ nv, h.get k = some (bxC r nv) ∧ k < h.next ∧ k ∉ R.ids ∧ NmB h R nv r.names
theorem BoxAt.step {h h' : AH} {R R' : MR} {k : Nat} {r : Res} (hb : BoxAt h R k r) (hB : MStep h h' R R') : BoxAt h' R' k r := by
  obtain ⟨nv, g, lt, ni, nm⟩ := hb
  obtain ⟨a, b, c⟩ := hB.box g lt ni
  exact ⟨nv, a, b, c, nm.step hB⟩




/-- An answer in a box beside a model, its names told. -/
structure BoxV (h : AH) (R : MR) (k : Nat) (r : Res) (nv : AV) : Prop where
  g : h.get k = some (bxC r nv)
  lt : k < h.next
  ni : k ∉ R.ids
  nm : NmB h R nv r.names
theorem BoxV.step {h h' : AH} {R R' : MR} {k : Nat} {r : Res} {nv : AV} (hb : BoxV h R k r nv) (hB : MStep h h' R R') : BoxV h' R' k r nv := by
  obtain ⟨a, b, c⟩ := hB.box hb.g hb.lt hb.ni
  exact ⟨a, b, c, hb.nm.step hB⟩

end Go.Proofs.YtbofhlifobjolaaGreatDoor.Ax
end

/-! What paths name, where names are put and taken away: plain -/
section
set_option linter.unusedVariables false
set_option linter.unusedSimpArgs false
namespace Go.Proofs.YtbofhlifobjolaaGreatDoor.Ax
open Go.RowKit

abbrev Names := List (List UInt8)
/-- A path leads from an inode to another one. -/
def Path (M : MS) : Names → Nat → Nat → Prop
  | [], q, r => q = r
  | s :: l, q, r => ∃ nd x, M.nodes[q]? = some nd ∧ nd.kind = 2 ∧ x ∈ nd.slots ∧ x.nm = s ∧ Path M l x.ino.toNat r

def Good (l : Names) : Prop := ∀ x ∈ l, x ≠ []
theorem Good.tail {s : List UInt8} {l : Names} (h : Good (s :: l)) : Good l := fun x hx => h x (by simp [hx])
theorem Good.take {l : Names} (h : Good l) (k : Nat) : Good (l.take k) := fun x hx => h x (List.mem_of_mem_take hx)
theorem Good.drop {l : Names} (h : Good l) : Good l.dropLast := fun x hx => h x (List.dropLast_subset l hx)

theorem Inv.uniq {M : MS} {t : Nat} {w : Nat → Int} (h : Inv M t w) {q : Nat} {nd : Nd} (hn : M.nodes[q]? = some nd) (hk : nd.kind = 2) {x y : Slt} (hx : x ∈ nd.slots) (hy : y ∈ nd.slots) (he : x.nm = y.nm) (hne : x.nm ≠ []) : x = y := by
  obtain ⟨i, hi⟩ := List.getElem?_of_mem hx
  obtain ⟨j, hj⟩ := List.getElem?_of_mem hy
  have := ((h.at hn).dir hk).2.2.2.2.2 i j x y hi hj he hne
  subst this
  rw [hi] at hj; exact Option.some.inj hj

theorem path_of_find {M : MS} (ok : MOk M) : ∀ {l : Names} {q r : Nat}, findR M l q = ((r : Int), 0) → Path M l q r
  | [], q, r, h => by simp only [findR, Prod.mk.injEq, and_true] at h; show q = r; omega
  | s :: l, q, r, h => by
    rw [findR_cons, Int.toNat_natCast] at h
    split at h
    · simp at h
    · rename_i nd hnd
      by_cases hk : nd.kind = 2
      · rw [if_pos hk] at h
        by_cases hp : placeR nd.slots s < 0
        · rw [if_pos hp] at h; simp at h
        · rw [if_neg hp] at h
          obtain ⟨i, x, e, hx, hn⟩ := placeR_lt hp
          rw [e, Int.toNat_natCast, hx] at h
          simp only at h
          have hm := List.mem_of_getElem? hx
          have hi := ok.inos nd (List.mem_of_getElem? hnd) x hm
          rw [show x.ino = ((x.ino.toNat : Nat) : Int) by omega] at h
          exact ⟨nd, x, hnd, hk, hm, hn, path_of_find ok h⟩
      · rw [if_neg hk] at h; simp at h
theorem find_of_path {M : MS} {t : Nat} {w : Nat → Int} (h : Inv M t w) (ht : t < 1000000) : ∀ {l : Names} {q r : Nat}, Good l → Path M l q r → findR M l q = ((r : Int), 0)
  | [], q, r, _, hp => by have : q = r := hp; subst this; rfl
  | s :: l, q, r, hg, hp => by
    obtain ⟨nd, x, hnd, hk, hx, hn, hp⟩ := hp
    have hs : s ≠ [] := hg s (by simp)
    have hpl : ¬ placeR nd.slots s < 0 := fun hc => placeR_neg.1 hc x hx hn
    obtain ⟨i, y, e, hy, hyn⟩ := placeR_lt hpl
    have hxy := h.uniq hnd hk hx (List.mem_of_getElem? hy) (hn.trans hyn.symm) (by rw [hn]; exact hs)
    subst hxy
    have hi := (h.ok ht).inos nd (List.mem_of_getElem? hnd) x hx
    rw [findR_cons, Int.toNat_natCast, hnd]
    simp only [if_pos hk, if_neg hpl, e, Int.toNat_natCast, hy]
    rw [show x.ino = ((x.ino.toNat : Nat) : Int) by omega]
    exact find_of_path h ht hg.tail hp

theorem path_append {M : MS} : ∀ {a b : Names} {q r : Nat}, Path M (a ++ b) q r ↔ ∃ m, Path M a q m ∧ Path M b m r
  | [], b, q, r => by simp [Path]
  | s :: a, b, q, r => by
    simp only [List.cons_append, Path]
    constructor
    · rintro ⟨nd, x, h1, h2, h3, h4, h5⟩
      obtain ⟨m, h6, h7⟩ := path_append.1 h5
      exact ⟨m, ⟨nd, x, h1, h2, h3, h4, h6⟩, h7⟩
    · rintro ⟨m, ⟨nd, x, h1, h2, h3, h4, h6⟩, h7⟩
      exact ⟨nd, x, h1, h2, h3, h4, path_append.2 ⟨m, h6, h7⟩⟩
theorem path_fun {M : MS} {t : Nat} {w : Nat → Int} (h : Inv M t w) : ∀ {l : Names} {q r r' : Nat}, Good l → Path M l q r → Path M l q r' → r = r'
  | [], q, r, r', _, h1, h2 => by have e1 : q = r := h1; have e2 : q = r' := h2; omega
  | s :: l, q, r, r', hg, ⟨nd, x, a1, a2, a3, a4, a5⟩, ⟨nd', x', b1, b2, b3, b4, b5⟩ => by
    rw [a1] at b1; cases b1
    have := h.uniq a1 a2 a3 b3 (a4.trans b4.symm) (by rw [a4]; exact hg s (by simp))
    subst this
    exact path_fun h hg.tail a5 b5


/-- Two slots that name an inode of one name are one. -/
theorem refs_one : ∀ {l : List Nd} {i d d' j j' : Nat} {nd nd' : Nd} {x x' : Slt}, refsL l i ≤ 1 → l[d]? = some nd → l[d']? = some nd' → nd.slots[j]? = some x → nd'.slots[j']? = some x' → live i x = true → live i x' = true → d = d' ∧ j = j'
  | [], i, d, d', j, j', nd, nd', x, x', _, h1, _, _, _, _, _ => by simp at h1
  | n :: l, i, d, d', j, j', nd, nd', x, x', hr, h1, h2, h3, h4, h5, h6 => by
    simp only [refsL] at hr
    have p1 := cnt_pos h3 h5
    have p2 := cnt_pos h4 h6
    cases d with
    | zero =>
      simp at h1; subst h1
      cases d' with
      | zero =>
        simp at h2; subst h2
        refine ⟨rfl, ?_⟩
        by_cases e : j = j'
        · exact e
        · exfalso
          have c1 := cnt_set (y := ⟨[], 0⟩) i h3
          have h4' : (n.slots.set j ⟨[], 0⟩)[j']? = some x' := by rw [List.getElem?_set_ne e]; exact h4
          have c2 := cnt_pos h4' h6
          rw [ind_none (i := i) (s := ⟨[], 0⟩) rfl] at c1
          simp only [ind, h5, if_true] at c1
          omega
      | succ d' =>
        have := refsL_ge i (show l[d']? = some nd' by simpa using h2)
        omega
    | succ d =>
      cases d' with
      | zero =>
        simp at h2; subst h2
        have := refsL_ge i (show l[d]? = some nd by simpa using h1)
        omega
      | succ d' =>
        obtain ⟨a, b⟩ := refs_one (show refsL l i ≤ 1 by omega) (show l[d]? = some nd by simpa using h1) (show l[d']? = some nd' by simpa using h2) h3 h4 h5 h6
        exact ⟨by omega, b⟩


theorem path_set {M : MS} {i : Nat} {nd nd' : Nd} (hn : M.nodes[i]? = some nd) (hk : nd'.kind = nd.kind) (hs : ∀ x ∈ nd.slots, x.nm ≠ [] → x ∈ nd'.slots) : ∀ {l : Names} {q r : Nat}, Good l → Path M l q r → Path (M.set i nd') l q r
  | [], q, r, _, h => h
  | s :: l, q, r, hg, ⟨n, x, h1, h2, h3, h4, h5⟩ => by
    have hil := (List.getElem?_eq_some_iff.1 hn).1
    have ih := path_set hn hk hs hg.tail h5
    by_cases e : i = q
    · subst e
      rw [hn] at h1; cases h1
      exact ⟨nd', x, by simp [MS.set, hil], by rw [hk]; exact h2, hs x h3 (by rw [h4]; exact hg s (by simp)), h4, ih⟩
    · exact ⟨n, x, by simp only [MS.set]; rw [List.getElem?_set_ne e]; exact h1, h2, h3, h4, ih⟩

/-- A slot that is taken: a path goes on as it was, or it went through it. -/
theorem path_taken {M : MS} {d j : Nat} {nd : Nd} {x0 : Slt} (hn : M.nodes[d]? = some nd) (hx0 : nd.slots[j]? = some x0) : ∀ {l : Names} {q r : Nat}, Path M l q r → Path (takeR M d j) l q r ∨ ∃ k, Path M (l.take k) q d ∧ l[k]? = some x0.nm
  | [], q, r, h => .inl h
  | s :: l, q, r, ⟨n, x, h1, h2, h3, h4, h5⟩ => by
    have hdl := (List.getElem?_eq_some_iff.1 hn).1
    by_cases e : d = q
    · subst e
      rw [hn] at h1; cases h1
      by_cases hs : s = x0.nm
      · exact .inr ⟨0, rfl, by simp [hs]⟩
      · rcases path_taken hn hx0 h5 with ih | ⟨k, ih1, ih2⟩
        · left
          refine ⟨{ nd with slots := nd.slots.set j ⟨[], 0⟩ }, x, by simp only [takeR, hn, MS.set]; rw [List.getElem?_set, if_pos rfl, if_pos hdl], h2, ?_, h4, ih⟩
          obtain ⟨i, hi⟩ := List.getElem?_of_mem h3
          have hij : j ≠ i := by
            rintro rfl; rw [hx0] at hi; cases hi; exact hs h4.symm
          exact List.mem_of_getElem? (show (nd.slots.set j ⟨[], 0⟩)[i]? = some x by rw [List.getElem?_set_ne hij]; exact hi)
        · exact .inr ⟨k + 1, ⟨nd, x, hn, h2, h3, h4, ih1⟩, by simpa using ih2⟩
    · rcases path_taken hn hx0 h5 with ih | ⟨k, ih1, ih2⟩
      · left
        exact ⟨n, x, by simp only [takeR, hn, MS.set]; rw [List.getElem?_set_ne e]; exact h1, h2, h3, h4, ih⟩
      · exact .inr ⟨k + 1, ⟨n, x, h1, h2, h3, h4, ih1⟩, by simpa using ih2⟩

end Go.Proofs.YtbofhlifobjolaaGreatDoor.Ax
end

/-! strings.Join by a slash, and a slice's copy -/
section
set_option linter.unusedVariables false
set_option linter.unusedSimpArgs false
namespace Go.Proofs.YtbofhlifobjolaaGreatDoor.Ax
open Go.RowKit

theorem ARel.form {ρ : Rho} {a : AA} {A : Addr} (h : ARel ρ a A) : ∃ b o, A = ⟨b, o, none⟩ := by
  cases a with
  | base b o => exact ⟨b, o, h⟩
  | new k o => obtain ⟨r, _, hA⟩ := h; exact ⟨_, _, hA⟩




/-- The names one behind the other, each behind a slash. -/
def catR (l : List (List UInt8)) : List UInt8 := (l.map fun x => 47 :: x).flatten




end Go.Proofs.YtbofhlifobjolaaGreatDoor.Ax
end

/-! A tree of files: the slice's cells -/
section
set_option linter.unusedVariables false
set_option linter.unusedSimpArgs false
namespace Go.Proofs.YtbofhlifobjolaaGreatDoor.Ax
open Go.RowKit

structure Fl where
  path : List UInt8
  ino : Int
  kind : Int
  links : Int
  size : Int
  blocks : List Int
  data : List UInt8
def flC (p : Fl × AV) : List AV := [.str p.1.path, .int .i64 p.1.ino, .int .i64 p.1.kind, .int .i64 p.1.links, .int .i64 p.1.size, p.2, .str p.1.data]
def flCs (ps : List (Fl × AV)) : List AV := ps.flatMap flC
theorem flCs_len : ∀ (ps : List (Fl × AV)), (flCs ps).length = ps.length * 7
  | [] => rfl
  | p :: ps => by
    show (flC p ++ flCs ps).length = _
    rw [List.length_append, flCs_len ps]; simp [flC]; omega
theorem IntS.one {h : AH} {v : AV} {l : List Int} (hi : IntS h v l) : aOne v = true := by
  rcases hi with ⟨_, rfl⟩ | ⟨k, cap, gr, _, rfl, _⟩ <;> rfl
theorem flCs_one {h : AH} : ∀ {ps : List (Fl × AV)}, (∀ p ∈ ps, IntS h p.2 p.1.blocks) → (flCs ps).all aOne = true
  | [], _ => rfl
  | p :: ps, hp => by
    have h1 := (hp p (by simp)).one
    have h2 := flCs_one (ps := ps) fun q hq => hp q (by simp [hq])
    show (flC p ++ flCs ps).all aOne = true
    rw [List.all_append, h2]
    simp [flC, aOne, h1]
    cases hv : p.2 <;> simp_all [aOne]

/-- Files' blocks, if an own block of files ends. -/
theorem IntS.kill {h : AH} {v : AV} {l : List Int} {k : Nat} {p : Fl × AV} {ps : List (Fl × AV)} {t : TypeId} (hi : IntS h v l) (hg : h.get k = some (.cells (flCs (p :: ps)) t)) : IntS (h.kill k) v l := by
  rcases hi with h1 | ⟨j, cap, gr, h1, h2, h3⟩
  · exact .inl h1
  · have hne : j ≠ k := by
      rintro rfl
      rw [h3] at hg
      simp only [Option.some.injEq, AObj.cells.injEq] at hg
      cases l <;> simp [ints, flCs, flC] at hg
    exact .inr ⟨j, cap, gr, by rw [AH.next_kill']; exact h1, h2, by rw [AH.get_kill', if_neg hne]; exact h3⟩

/-- Files in an own block: as it was built, or an append's, behind a state. -/
def OwnF (h0 h : AH) (v : AV) (l : List Fl) : Prop :=
  Keeps h0 h ∧ ∃ k gr p ps, (p :: ps).map Prod.fst = l ∧ k < h.next ∧ h.get k = some (.cells (flCs (p :: ps)) 55) ∧ (∀ q ∈ p :: ps, IntS h q.2 q.1.blocks) ∧ v = .sl (some (.new k 0)) l.length l.length gr ∧ (gr = none ∨ gr = some 7 ∧ h0.next ≤ k)
theorem OwnF.keeps {h0 h h' : AH} {v : AV} {l : List Fl} (ho : OwnF h0 h v l) (hk : Keeps h h') : OwnF h0 h' v l := by
  obtain ⟨a, k, gr, p, ps, b, d, e, f, g⟩ := ho
  exact ⟨a.trans hk, k, gr, p, ps, b, Nat.lt_of_lt_of_le d hk.1, (hk.2 k d).trans e, fun q hq => (f q hq).keeps hk, g⟩
theorem OwnF.le {h00 h0 h : AH} {v : AV} {l : List Fl} (ho : OwnF h0 h v l) (hk : Keeps h00 h0) : OwnF h00 h v l := by
  obtain ⟨a, k, gr, p, ps, b, d, e, f, g, q⟩ := ho
  refine ⟨hk.trans a, k, gr, p, ps, b, d, e, f, g, ?_⟩
  rcases q with q | ⟨q, r⟩
  · exact .inl q
  · exact .inr ⟨q, Nat.le_trans hk.1 r⟩





/-! ### The tree, plain -/
def datR (b : Option Blk) (l : List Int) : List UInt8 := l.flatMap fun k => (blkAt b k).getD []
def flR (names : List (List UInt8)) (i : Nat) (nd : Nd) : Fl := ⟨47 :: Lib.join names [47], i, nd.kind, nd.links, nd.size, indR nd, if nd.kind = 1 then datR nd.blocks (indR nd) else []⟩
def childR (nd : Nd) (s : List UInt8) : Nat := match nd.slots[(placeR nd.slots s).toNat]? with
  | some x => x.ino.toNat
  | none => 0
def treeR (M : MS) : Nat → List (List UInt8) → Nat → List Fl
  | 0, _, _ => []
  | n + 1, names, i => match M.nodes[i]? with
    | none => []
    | some nd => flR names i nd :: (sortT (nmsR nd.slots)).flatMap fun s => treeR M n (names ++ [s]) (childR nd s)
/-- No way down from an inode is longer. -/
def Deep (M : MS) : Nat → Nat → Prop
  | 0, _ => False
  | n + 1, i => ∃ nd, M.nodes[i]? = some nd ∧ ∀ x ∈ nd.slots, x.nm ≠ [] → Deep M n x.ino.toNat
end Go.Proofs.YtbofhlifobjolaaGreatDoor.Ax
end

/-! No way down is longer than the inodes are many: plain -/
section
set_option linter.unusedVariables false
set_option linter.unusedSimpArgs false
namespace Go.Proofs.YtbofhlifobjolaaGreatDoor.Ax
open Go.RowKit

theorem nodup_le : ∀ (N : Nat) (l : List Nat), l.Nodup → (∀ x ∈ l, x < N) → l.length ≤ N
  | 0, l, _, h => by
    cases l with
    | nil => simp
    | cons x r => have := h x (by simp); omega
  | N + 1, l, hn, h => by
    by_cases hm : N ∈ l
    · have h1 := nodup_le N (l.erase N) (hn.erase N) fun x hx => by
        have h2 := (hn.mem_erase_iff).1 hx
        have := h x h2.2
        omega
      rw [List.length_erase_of_mem hm] at h1
      omega
    · have := nodup_le N l hn fun x hx => by
        have h1 := h x hx
        have : x ≠ N := fun e => hm (e ▸ hx)
        omega
      omega




end Go.Proofs.YtbofhlifobjolaaGreatDoor.Ax
end

/-! Names are short: kept by all operations -/
section
set_option linter.unusedVariables false
set_option linter.unusedSimpArgs false
namespace Go.Proofs.YtbofhlifobjolaaGreatDoor.Ax
open Go.RowKit

def ShortM (M : MS) : Prop := ∀ nd ∈ M.nodes, ∀ x ∈ nd.slots, x.nm.length ≤ 24
theorem ShortM.set {M : MS} (h : ShortM M) {i : Nat} {nd : Nd} (hn : ∀ x ∈ nd.slots, x.nm.length ≤ 24) : ShortM (M.set i nd) := by
  intro y hy x hx
  rcases List.mem_or_eq_of_mem_set hy with hy | rfl
  · exact h y hy x hx
  · exact hn x hx
theorem ShortM.at {M : MS} (h : ShortM M) {i : Nat} {nd : Nd} (hn : M.nodes[i]? = some nd) : ∀ x ∈ nd.slots, x.nm.length ≤ 24 := h nd (List.mem_of_getElem? hn)


end Go.Proofs.YtbofhlifobjolaaGreatDoor.Ax
end

/-! What fails changes nothing: plain -/
section
set_option linter.unusedVariables false
set_option linter.unusedSimpArgs false
namespace Go.Proofs.YtbofhlifobjolaaGreatDoor.Ax
open Go.RowKit


end Go.Proofs.YtbofhlifobjolaaGreatDoor.Ax
end

/-! A trace in memory that was there: what an argument holds -/
section
set_option linter.unusedVariables false
set_option linter.unusedSimpArgs false
namespace Go.Proofs.YtbofhlifobjolaaGreatDoor.Ax
open Go.ChangeShapes Go.WideShapes Go.ChangeAt Go.RowKit
set_option maxRecDepth 100000

/-- A slice whose elements are told, at a state and at all that keep it. -/
def BSl {α : Type} (W : World) (h0 : AH) (E : TypeId) (sz : Nat) (P : AH → α → AV → Prop) (v : AV) (l : List α) : Prop :=
  l = [] ∧ v = .sl none 0 0 none ∨ ∃ a c, l.length ≤ c ∧ v = .sl (some a) l.length c none ∧ ∀ (i : Nat) x, l[i]? = some x → ∃ u, P h0 x u ∧ ∀ h, Keeps h0 h → aLoad (CC W) h E (a.add (i * sz)) = some u

section
variable {α : Type} {W : World} {h0 : AH} {T E : TypeId} {sz : Nat} {P : AH → α → AV → Prop} {v : AV} {l : List α}
theorem BSl.isSl (h : BSl W h0 E sz P v l) : ∃ a c, v = .sl a l.length c none := by
  rcases h with ⟨rfl, rfl⟩ | ⟨a, c, _, rfl, _⟩ <;> exact ⟨_, _, rfl⟩
theorem BSl.at (h : BSl W h0 E sz P v l) (hk : (CC W).kind T = .slice E) (hs : (CC W).size E = some sz) {i : Nat} {x : α} (hx : l[i]? = some x) :
    ∃ a u, aIndexAddr (CC W) T v (.int .i64 (i : Int)) = some (.ptr (some a)) ∧ P h0 x u ∧ ∀ h, Keeps h0 h → aLoad (CC W) h E a = some u := by
  rcases h with ⟨rfl, rfl⟩ | ⟨a, c, _, rfl, h⟩
  · simp at hx
  · have hi := (List.getElem?_eq_some_iff.1 hx).1
    obtain ⟨u, h1, h2⟩ := h i x hx
    refine ⟨_, u, ?_, h1, h2⟩
    simp only [aIndexAddr, hk, hs]
    rw [if_pos (by omega)]
    simp
theorem BSl.lenA (h : BSl W h0 E sz P v l) (hk : (CC W).kind T = .slice E) (h2 : AH) : aLen (CC W) h2 T v = some (.int .i64 l.length) := by
  obtain ⟨a, c, rfl⟩ := h.isSl
  simp [aLen, hk]
theorem BSl.take (h : BSl W h0 E sz P v l) (hk : (CC W).kind T = .slice E) (hs : (CC W).size E = some sz) {k : Nat} (hkl : k ≤ l.length) :
    ∃ v', aSlice (CC W) T v none (some (.int .i64 (k : Int))) none = some v' ∧ BSl W h0 E sz P v' (l.take k) := by
  have hl : (l.take k).length = k := by simp; omega
  rcases h with ⟨rfl, rfl⟩ | ⟨a, c, hc, rfl, h⟩
  · obtain rfl : k = 0 := by simpa using hkl
    refine ⟨.sl none 0 0 none, ?_, .inl ⟨rfl, rfl⟩⟩
    have := aBounds_hi (len := 0) (cap := 0) (n := 0) (Nat.le_refl _)
    simp only [aSlice, hk, hs, this, Option.map]
  · have ha0 : a.add 0 = a := by cases a <;> rfl
    refine ⟨.sl (some a) k c none, ?_, .inr ⟨a, c, by omega, by rw [hl], fun i x hx => ?_⟩⟩
    · simp only [aSlice, hk, hs, aBounds_hi (len := l.length) (show k ≤ c by omega), Option.map]
      simp [ha0]
    · rw [List.getElem?_take] at hx
      split at hx
      · exact h i x hx
      · cases hx
theorem BSl.mono {h1 : AH} (h : BSl W h0 E sz P v l) (hk : Keeps h0 h1) (hP : ∀ x u, P h0 x u → P h1 x u) : BSl W h1 E sz P v l := by
  rcases h with h | ⟨a, c, hc, hv, h⟩
  · exact .inl h
  · exact .inr ⟨a, c, hc, hv, fun i x hx => by
      obtain ⟨u, h1, h2⟩ := h i x hx
      exact ⟨u, hP x u h1, fun h' hk' => h2 h' (hk.trans hk')⟩⟩
end

/-! ### Out of the memory that an argument has -/
theorem mapM_same {α β γ : Type} {f : α → Option γ} {g : α → Option β} {φ : β → γ} (hf : ∀ i, f i = (g i).map φ) : ∀ (l : List α), l.mapM f = (l.mapM g).map (List.map φ)
  | [] => by simp
  | x :: l => by
    simp only [List.mapM_cons, hf, mapM_same hf l]
    cases g x with
    | none => rfl
    | some y =>
      cases l.mapM g with
      | none => rfl
      | some ys => rfl
theorem load_base {W : World} {h : AH} {b o sz : Nat} {base : Nat} {cs : List Value} (hc : W.cells? base ⟨b, o, none⟩ sz = some cs) : aCells (CC W) h (.base b o) sz = some (cs.map qy9) := by
  unfold World.cells? at hc
  split at hc
  · have hw0 : (CC W).W0 = W := _root_.id rfl
    simp only [aCells]
    rw [mapM_same (g := fun i => W.cell? (Addr.add ⟨b, o, none⟩ i)) (φ := qy9) (fun i => by
      simp only [AA.add, aCell, hw0, add_addr]), hc]
    rfl
  · cases hc
theorem spot_of {W : World} {base : Nat} {a : Addr} {sz : Nat} {cs : List Value} (h0 : 0 < sz) (hc : W.cells? base (a.add 0) sz = some cs) : a.spot = none := by
  have ha : a.add 0 = a := by simp [Addr.add]
  rw [ha] at hc
  unfold World.cells? at hc
  split at hc
  · obtain ⟨n, rfl⟩ : ∃ n, sz = n + 1 := ⟨sz - 1, by omega⟩
    rw [List.range_succ_eq_map, List.mapM_cons] at hc
    have h1 : ∃ x, W.cell? a = some x := by
      cases hx : W.cell? a with
      | some x => exact ⟨x, rfl⟩
      | none => rw [ha, hx] at hc; simp at hc
    obtain ⟨x, hx⟩ := h1
    unfold World.cell? at hx
    split at hx
    · split at hx
      · cases hx
      · rename_i h; simpa using h
    · cases hx
  · cases hc
theorem lists_of {α : Type} {Q : Nat → α → Prop} : ∀ (n : Nat), (∀ i, i < n → ∃ x, Q i x) → ∃ l : List α, l.length = n ∧ ∀ i x, l[i]? = some x → Q i x
  | 0, _ => ⟨[], rfl, fun i x hx => by simp at hx⟩
  | n + 1, h => by
    obtain ⟨l, hl, hq⟩ := lists_of n fun i hi => h i (by omega)
    obtain ⟨x, hx⟩ := h n (by omega)
    refine ⟨l ++ [x], by simp [hl], fun i y hy => ?_⟩
    rw [List.getElem?_append] at hy
    split at hy
    · exact hq i y hy
    · rename_i hi
      have e : i = n := by
        have := (List.getElem?_eq_some_iff.1 hy).1
        simp at this; omega
      subst e
      simp [hl] at hy
      rw [← hy]; exact hx

theorem bsl_data {α H : Type} {enc : TypeId × Value → H} {W : World} {T E : TypeId} {sz : Nat} {P : AH → α → AV → Prop} (hT : Tryz.prog.underlying T = some (.slice E)) (hsz : Tryz.prog.cellsOf E = sz) (h0 : 0 < sz)
    {U : List Value → AV} (hld : ∀ h b o cs, aCells (CC W) h (.base b o) sz = some (cs.map qy9) → aLoad (CC W) h E (.base b o) = some (U cs))
    (he : ∀ n cs y, DataW.trod enc Tryz.prog W 0 (fun _ => true) true n E cs = some y → Rows.uptoBulk y.1 < 1000000000 → ∃ x, ∀ h0, P h0 x (U cs))
    {fuel : Nat} {cs : List Value} {y : DataW H × List MemPlace} (h : DataW.trod enc Tryz.prog W 0 (fun _ => true) true fuel T cs = some y) (hb : Rows.uptoBulk y.1 < 1000000000) :
    ∃ cv l, cs = [cv] ∧ (∀ h0, BSl W h0 E sz P (qy9 cv) l) ∧ l.length ≤ Rows.uptoBulk y.1 ∧ (∀ a len cap, cv = .slice a len cap → a = none → l = []) := by
  rcases DataW.trod_slice hT h with ⟨rfl, _⟩ | ⟨a, len, cap, elems, rest, n, _, rfl, hx, _, hl, _, hlen, hel, hsp, _⟩
  · exact ⟨_, [], rfl, fun _ => .inl ⟨rfl, rfl⟩, by simp, fun _ _ _ _ _ => rfl⟩
  · rw [hsz] at hel hsp
    subst hx
    obtain ⟨b, o, sp⟩ := a
    have hv : qy9 (.slice (some ⟨b, o, sp⟩) len cap) = .sl (some (.base b o)) len cap none := by
      have key : sp = none ∨ len = 0 ∧ cap = 0 := by
        by_cases hl0 : 0 < len
        · left
          have h1 := hel 0 hl0
          have h2 : elems[0]? = some (elems[0]'(by omega)) := by simp
          rw [h2, Option.bind_eq_some_iff] at h1
          obtain ⟨cs, hc, _⟩ := h1
          rw [Nat.zero_mul] at hc
          exact spot_of h0 hc
        · by_cases hc0 : 0 < cap
          · left
            obtain ⟨hrl, hr⟩ := hsp rfl
            have h1 := hr 0 (by omega)
            have h2 : rest[0]? = some (rest[0]'(by omega)) := by simp
            rw [h2, Option.bind_eq_some_iff] at h1
            obtain ⟨cs, hc, _⟩ := h1
            rw [show (len + 0) * sz = 0 by rw [show len = 0 by omega]; simp] at hc
            exact spot_of h0 hc
          · right; omega
      rcases key with rfl | ⟨rfl, rfl⟩
      · cases len <;> cases cap <;> rfl
      · rfl
    have each : ∀ i, i < len → ∃ x, ∃ u, (∀ h0, P h0 x u) ∧ ∀ h, aLoad (CC W) h E (.base b (o + i * sz)) = some u := fun i hi => by
      have h1 := hel i hi
      have h2 : elems[i]? = some (elems[i]'(by omega)) := by simp
      rw [h2, Option.bind_eq_some_iff] at h1
      obtain ⟨cs, hc, ht⟩ := h1
      have hsn : sp = none := by
        have h3 := hel 0 (by omega)
        have h4 : elems[0]? = some (elems[0]'(by omega)) := by simp
        rw [h4, Option.bind_eq_some_iff] at h3
        obtain ⟨cs', hc', _⟩ := h3
        rw [Nat.zero_mul] at hc'
        exact spot_of h0 hc'
      subst hsn
      have hbk := bulk_mem (List.mem_map_of_mem (f := (·.1)) (List.mem_of_getElem? h2))
      simp only [Rows.uptoBulk] at hb
      obtain ⟨x, hx⟩ := he n cs _ ht (by omega)
      rw [add_addr] at hc
      exact ⟨x, _, hx, fun h => hld _ _ _ _ (load_base hc)⟩
    obtain ⟨l, hll, hq⟩ := lists_of len each
    refine ⟨_, l, rfl, ?_, ?_, fun _ _ _ e1 e2 => by cases e1; cases e2⟩
    · rw [hv]
      exact fun h0 => .inr ⟨.base b o, cap, by omega, by rw [hll], fun i x hx => by
        obtain ⟨u, h1, h2⟩ := hq i x hx
        exact ⟨u, h1 h0, fun h _ => h2 h⟩⟩
    · have := bulk_length (elems.map (·.1))
      simp only [Rows.uptoBulk, List.length_map] at this ⊢
      omega
/-- The same of an argument. -/
theorem bsl_arg {α H : Type} {enc : TypeId × Value → H} {W : World} {base : Nat} {T E : TypeId} {sz : Nat} {P : AH → α → AV → Prop} (hT : Tryz.prog.underlying T = some (.slice E)) (hsz : Tryz.prog.cellsOf E = sz) (h0 : 0 < sz)
    {U : List Value → AV} (hld : ∀ h b o cs, aCells (CC W) h (.base b o) sz = some (cs.map qy9) → aLoad (CC W) h E (.base b o) = some (U cs))
    (he : ∀ n cs y, DataW.trod enc Tryz.prog W 0 (fun _ => true) true n E cs = some y → Rows.uptoBulk y.1 < 1000000000 → ∃ x, ∀ h0, P h0 x (U cs))
    {v : Value} {d : DataW H} {ps : List MemPlace} (hval : Value.okWide Tryz.prog W .any base T v) (h : DataW.Trod enc Tryz.prog W 0 (fun _ => true) true T v d ps) :
    ∃ av : AV, VRel [] av v ∧ (Rows.uptoBulk d < 1000000000 → ∃ l : List α, (∀ h0, BSl W h0 E sz P av l) ∧ l.length ≤ Rows.uptoBulk d) := by
  obtain ⟨a0, len, cap, rfl⟩ := okWide_slice hT hval
  obtain ⟨fuel, hf⟩ := h
  refine ⟨qy9 (.slice a0 len cap), ofV_rel [] _, fun hb => ?_⟩
  obtain ⟨cv, l, hcs, hl, hle, _⟩ := bsl_data hT hsz h0 hld he hf hb
  simp [Value.cells] at hcs
  subst hcs
  exact ⟨l, hl, hle⟩
end Go.Proofs.YtbofhlifobjolaaGreatDoor.Ax
end

/-! A trace in memory that was there: steps, replies, entries -/
section
set_option linter.unusedVariables false
set_option linter.unusedSimpArgs false
namespace Go.Proofs.YtbofhlifobjolaaGreatDoor.Ax
open Go.ChangeShapes Go.WideShapes Go.ChangeAt Go.RowKit
set_option maxRecDepth 100000

structure Ent where
  view : Int
  client : Int
  req : Int
  op : Opn
structure Rep where
  node : Int
  client : Int
  req : Int
  res : Res
structure Cho where
  kind : Int
  node : Int
  n : Int
  torn : Int
  client : Int
  req : Int
  op : Opn
structure See where
  c : Cho
  reps : List Rep
  h : List Ent
def Ent.cells (e : Ent) : List AV := .int .i64 e.view :: .int .i64 e.client :: .int .i64 e.req :: e.op.cells
def Cho.cells (c : Cho) : List AV := .int .i64 c.kind :: .int .i64 c.node :: .int .i64 c.n :: .int .i64 c.torn :: .int .i64 c.client :: .int .i64 c.req :: c.op.cells
def Rep.cells (r : Rep) (nv : AV) : List AV := [.int .i64 r.node, .int .i64 r.client, .int .i64 r.req, .int .i64 r.res.e, .str r.res.data, .int .i64 r.res.kind, .int .i64 r.res.links, .int .i64 r.res.size, nv]

def TxtP (_ : AH) (s : List UInt8) (u : AV) : Prop := u = .str s
def TxtB (W : World) (h0 : AH) (v : AV) (l : List (List UInt8)) : Prop := ∀ h, Keeps h0 h → StrS W h v l
def EntP (_ : AH) (e : Ent) (u : AV) : Prop := OpnOk e.op ∧ u = .agg e.cells
def EntS (W : World) (h0 : AH) (v : AV) (l : List Ent) : Prop := BSl W h0 78 9 EntP v l
def RepP (W : World) (h0 : AH) (r : Rep) (u : AV) : Prop := ∃ nv, u = .agg (r.cells nv) ∧ TxtB W h0 nv r.res.names ∧ r.res.names.length < 1000000000
def RepS (W : World) (h0 : AH) (v : AV) (l : List Rep) : Prop := BSl W h0 75 9 (RepP W) v l
def SeeP (W : World) (h0 : AH) (s : See) (u : AV) : Prop := ∃ rv hv, u = .agg (s.c.cells ++ [rv, hv]) ∧ OpnOk s.c.op ∧ RepS W h0 rv s.reps ∧ EntS W h0 hv s.h ∧ s.reps.length < 1000000000 ∧ s.h.length < 1000000000
def SeeS (W : World) (h0 : AH) (v : AV) (l : List See) : Prop := BSl W h0 73 14 (SeeP W) v l
theorem TxtB.mono {W : World} {h0 h1 : AH} {v : AV} {l : List (List UInt8)} (h : TxtB W h0 v l) (hk : Keeps h0 h1) : TxtB W h1 v l := fun h2 hk2 => h h2 (hk.trans hk2)
theorem EntS.mono {W : World} {h0 h1 : AH} {v : AV} {l : List Ent} (h : EntS W h0 v l) (hk : Keeps h0 h1) : EntS W h1 v l := BSl.mono h hk fun _ _ h => h
theorem RepS.mono {W : World} {h0 h1 : AH} {v : AV} {l : List Rep} (h : RepS W h0 v l) (hk : Keeps h0 h1) : RepS W h1 v l := BSl.mono h hk fun x u ⟨nv, a, b, c⟩ => ⟨nv, a, b.mono hk, c⟩
theorem SeeS.mono {W : World} {h0 h1 : AH} {v : AV} {l : List See} (h : SeeS W h0 v l) (hk : Keeps h0 h1) : SeeS W h1 v l := BSl.mono h hk fun x u ⟨rv, hv, a, b, c, d, e⟩ => ⟨rv, hv, a, b, c.mono hk, d.mono hk, e⟩

theorem bsl_strS {W : World} {v : AV} {l : List (List UInt8)} (hb : ∀ h0, BSl W h0 9 1 TxtP v l) (hv : ∀ k o c n g, v = .sl (some (.new k o)) n c g → n = 0) (h : AH) : StrS W h v l := by
  rcases hb h with ⟨rfl, rfl⟩ | ⟨a, c, hc, rfl, hq⟩
  · exact StrS.nil
  · refine ⟨_, c, none, rfl, ⟨hc, .inl rfl⟩, fun k x hx => ⟨_, rfl, ?_⟩⟩
    obtain ⟨u, hu, hl⟩ := hq k x hx
    have hu : u = .str x := hu
    subst hu
    have := hl h (Keeps.refl h)
    rw [ld9, Nat.mul_one] at this
    cases a with
    | base b o => exact ⟨trivial, this, trivial⟩
    | new k2 o =>
      have h0 := hv k2 o c l.length none rfl
      have hl := (List.getElem?_eq_some_iff.1 hx).1
      omega
theorem ofVn_old : ∀ (n : Nat) (v : Value) (k o m c : Nat) (g : Option Nat), qz9 n v ≠ .sl (some (.new k o)) m c g := by
  intro n v k o m c g h
  cases n with
  | zero => simp [qz9] at h
  | succ n =>
    cases v with
    | slice a len cap =>
      cases a with
      | none => cases len <;> cases cap <;> simp [qz9] at h
      | some a =>
        obtain ⟨b, p, sp⟩ := a
        cases sp <;> cases len <;> cases cap <;> simp [qz9] at h
    | pointer a =>
      cases a with
      | none => simp [qz9] at h
      | some a =>
        obtain ⟨b, p, sp⟩ := a
        cases sp <;> simp [qz9] at h
    | map r => cases r <;> simp [qz9] at h
    | _ => simp [qz9] at h
theorem ofV_old (v : Value) (k o m c : Nat) (g : Option Nat) : qy9 v ≠ .sl (some (.new k o)) m c g := ofVn_old 4 v k o m c g

theorem cells_9s : Tryz.prog.cellsOf 9 = 1 := by kernel_rfl
theorem cells_ent : Tryz.prog.cellsOf 78 = 9 := by kernel_rfl
theorem cells_rep : Tryz.prog.cellsOf 75 = 9 := by kernel_rfl
theorem cells_res : Tryz.prog.cellsOf 39 = 6 := by kernel_rfl
theorem cells_cho : Tryz.prog.cellsOf 69 = 12 := by kernel_rfl
theorem cells_see : Tryz.prog.cellsOf 73 = 14 := by kernel_rfl
theorem cells_errno : Tryz.prog.cellsOf 26 = 1 := by kernel_rfl
theorem cells_txs : Tryz.prog.cellsOf 37 = 1 := by kernel_rfl
theorem cells_reps : Tryz.prog.cellsOf 70 = 1 := by kernel_rfl
theorem cells_ents : Tryz.prog.cellsOf 71 = 1 := by kernel_rfl

section
variable {H : Type} {enc : TypeId × Value → H} {W : World} {n : Nat} {cs : List Value} {y : DataW H × List MemPlace}
theorem txts_data (h : DataW.trod enc Tryz.prog W 0 (fun _ => true) true n 37 cs = some y) (hb : Rows.uptoBulk y.1 < 1000000000) : ∃ cv l, cs = [cv] ∧ (∀ h0, TxtB W h0 (qy9 cv) l) ∧ l.length < 1000000000 := by
  obtain ⟨cv, l, h1, h2, h3, _⟩ := bsl_data (α := List UInt8) (P := TxtP) (U := fun cs => match cs with | [c] => qy9 c | _ => .bad) Tryz.underlying37 cells_9s (by decide) (fun h b o cs hc => by
    rw [ld9]
    simp only [aCells, List.range_one, List.mapM_cons, List.mapM_nil, AA.add, Nat.add_zero] at hc
    cases hx : aCell (CC W) h (.base b o) with
    | none => rw [hx] at hc; simp at hc
    | some u =>
      rw [hx] at hc
      simp at hc
      cases cs with
      | nil => simp at hc
      | cons c r =>
        cases r with
        | nil => simp at hc; simp [hc]
        | cons _ _ => simp at hc) (fun n cs y ht _ => by
    obtain ⟨s, rfl, _, _⟩ := DataW.trod_string Tryz.underlying9 ht
    exact ⟨s.data.toList, fun _ => rfl⟩) h hb
  refine ⟨cv, l, h1, fun h0 h' _ => bsl_strS h2 (fun k o c n g e => ?_) h', by omega⟩
  exact absurd e (ofV_old cv k o n c g)
theorem agg_data {sz : Nat} {E : TypeId} (hld : ∀ h b o, aLoad (CC W) h E (.base b o) = (aCells (CC W) h (.base b o) sz).map AV.agg) : ∀ h b o (cs : List Value), aCells (CC W) h (.base b o) sz = some (cs.map qy9) → aLoad (CC W) h E (.base b o) = some ((fun cs : List Value => .agg (cs.map qy9)) cs) := fun h b o cs hc => by
  rw [hld, hc]; rfl
theorem ent_data (h : DataW.trod enc Tryz.prog W 0 (fun _ => true) true n 78 cs = some y) (hb : Rows.uptoBulk y.1 < 1000000000) : ∃ e, ∀ h0, EntP h0 e (.agg (cs.map qy9)) := by
  obtain ⟨xs, m, _, rfl, hl, hlen, hf⟩ := DataW.trod_struct Tryz.underlying78 h
  rw [cells_ent] at hl
  match cs, hl, xs, hlen with
  | [c0, c1, c2, c3, c4, c5, c6, c7, c8], _, [y0, y1, y2, y3], _ =>
    have f0 : DataW.trod enc Tryz.prog W 0 (fun _ => true) true m 3 [c0] = some y0 := by
      have := hf 0 _ rfl
      simp [cells_3] at this
      exact this
    have f1 : DataW.trod enc Tryz.prog W 0 (fun _ => true) true m 3 [c1] = some y1 := by
      have := hf 1 _ rfl
      simp [cells_3] at this
      exact this
    have f2 : DataW.trod enc Tryz.prog W 0 (fun _ => true) true m 3 [c2] = some y2 := by
      have := hf 2 _ rfl
      simp [cells_3] at this
      exact this
    have f3 : DataW.trod enc Tryz.prog W 0 (fun _ => true) true m 35 [c3, c4, c5, c6, c7, c8] = some y3 := by
      have := hf 3 _ rfl
      simp [cells_op] at this
      exact this
    obtain ⟨a, e0, _, _⟩ := DataW.trod_int Tryz.underlying3 f0
    obtain ⟨b, e1, _, _⟩ := DataW.trod_int Tryz.underlying3 f1
    obtain ⟨c, e2, _, _⟩ := DataW.trod_int Tryz.underlying3 f2
    obtain ⟨p, q, r, s, t, d, e3, hr, he⟩ := op_data f3
    simp only [List.cons.injEq, and_true] at e0 e1 e2 e3
    obtain ⟨rfl, rfl, rfl, rfl, rfl, rfl⟩ := e3
    subst e0 e1 e2
    simp only [List.map_cons, List.map_nil, Rows.uptoBulk, Rows.uptoBulkAll, he] at hb
    exact ⟨⟨a, b, c, ⟨p, q, r, s.data.toList, t.data.toList, d.data.toList⟩⟩, fun _ => ⟨⟨by show s.data.toList.length < _; omega, by show t.data.toList.length < _; omega, hr.2, hr.1⟩, rfl⟩⟩
theorem res_data (h : DataW.trod enc Tryz.prog W 0 (fun _ => true) true n 39 cs = some y) (hb : Rows.uptoBulk y.1 < 1000000000) : ∃ (r : Res) (nv : Value), cs.map qy9 = res6 r.e r.data r.kind r.links r.size (qy9 nv) ∧ (∀ h0, TxtB W h0 (qy9 nv) r.names) ∧ r.names.length < 1000000000 := by
  obtain ⟨xs, m, _, rfl, hl, hlen, hf⟩ := DataW.trod_struct Tryz.underlying39 h
  rw [cells_res] at hl
  match cs, hl, xs, hlen with
  | [c0, c1, c2, c3, c4, c5], _, [y0, y1, y2, y3, y4, y5], _ =>
    have f0 : DataW.trod enc Tryz.prog W 0 (fun _ => true) true m 26 [c0] = some y0 := by
      have := hf 0 _ rfl
      simp [cells_errno] at this
      exact this
    have f1 : DataW.trod enc Tryz.prog W 0 (fun _ => true) true m 9 [c1] = some y1 := by
      have := hf 1 _ rfl
      simp [cells9] at this
      exact this
    have f2 : DataW.trod enc Tryz.prog W 0 (fun _ => true) true m 3 [c2] = some y2 := by
      have := hf 2 _ rfl
      simp [cells_3] at this
      exact this
    have f3 : DataW.trod enc Tryz.prog W 0 (fun _ => true) true m 3 [c3] = some y3 := by
      have := hf 3 _ rfl
      simp [cells_3] at this
      exact this
    have f4 : DataW.trod enc Tryz.prog W 0 (fun _ => true) true m 3 [c4] = some y4 := by
      have := hf 4 _ rfl
      simp [cells_3] at this
      exact this
    have f5 : DataW.trod enc Tryz.prog W 0 (fun _ => true) true m 37 [c5] = some y5 := by
      have := hf 5 _ rfl
      simp [cells_txs] at this
      exact this
    simp only [List.map_cons, List.map_nil, Rows.uptoBulk, Rows.uptoBulkAll] at hb
    obtain ⟨e, e0, _, _⟩ := DataW.trod_int Tryz.underlying26 f0
    obtain ⟨s, e1, _, _⟩ := DataW.trod_string Tryz.underlying9 f1
    obtain ⟨a, e2, _, _⟩ := DataW.trod_int Tryz.underlying3 f2
    obtain ⟨b, e3, _, _⟩ := DataW.trod_int Tryz.underlying3 f3
    obtain ⟨c, e4, _, _⟩ := DataW.trod_int Tryz.underlying3 f4
    obtain ⟨cv, l, e5, hl, hll⟩ := txts_data f5 (by omega)
    simp only [List.cons.injEq, and_true] at e0 e1 e2 e3 e4 e5
    subst e0 e1 e2 e3 e4 e5
    exact ⟨⟨e, s.data.toList, a, b, c, l⟩, _, rfl, hl, hll⟩
theorem rep_data (h : DataW.trod enc Tryz.prog W 0 (fun _ => true) true n 75 cs = some y) (hb : Rows.uptoBulk y.1 < 1000000000) : ∃ r, ∀ h0, RepP W h0 r (.agg (cs.map qy9)) := by
  obtain ⟨xs, m, _, rfl, hl, hlen, hf⟩ := DataW.trod_struct Tryz.underlying75 h
  rw [cells_rep] at hl
  match cs, hl, xs, hlen with
  | [c0, c1, c2, c3, c4, c5, c6, c7, c8], _, [y0, y1, y2, y3], _ =>
    have f0 : DataW.trod enc Tryz.prog W 0 (fun _ => true) true m 3 [c0] = some y0 := by
      have := hf 0 _ rfl
      simp [cells_3] at this
      exact this
    have f1 : DataW.trod enc Tryz.prog W 0 (fun _ => true) true m 3 [c1] = some y1 := by
      have := hf 1 _ rfl
      simp [cells_3] at this
      exact this
    have f2 : DataW.trod enc Tryz.prog W 0 (fun _ => true) true m 3 [c2] = some y2 := by
      have := hf 2 _ rfl
      simp [cells_3] at this
      exact this
    have f3 : DataW.trod enc Tryz.prog W 0 (fun _ => true) true m 39 [c3, c4, c5, c6, c7, c8] = some y3 := by
      have := hf 3 _ rfl
      simp [cells_res] at this
      exact this
    simp only [List.map_cons, List.map_nil, Rows.uptoBulk, Rows.uptoBulkAll] at hb
    obtain ⟨a, e0, _, _⟩ := DataW.trod_int Tryz.underlying3 f0
    obtain ⟨b, e1, _, _⟩ := DataW.trod_int Tryz.underlying3 f1
    obtain ⟨c, e2, _, _⟩ := DataW.trod_int Tryz.underlying3 f2
    obtain ⟨r, nv, e3, hr, hrl⟩ := res_data f3 (by omega)
    simp only [List.cons.injEq, and_true] at e0 e1 e2
    subst e0 e1 e2
    refine ⟨⟨a, b, c, r⟩, fun h0 => ⟨qy9 nv, ?_, hr h0, hrl⟩⟩
    rw [List.map_cons, List.map_cons, List.map_cons, e3]
    rfl
theorem cho_data (h : DataW.trod enc Tryz.prog W 0 (fun _ => true) true n 69 cs = some y) (hb : Rows.uptoBulk y.1 < 1000000000) : ∃ c : Cho, OpnOk c.op ∧ cs.map qy9 = c.cells := by
  obtain ⟨xs, m, _, rfl, hl, hlen, hf⟩ := DataW.trod_struct Tryz.underlying69 h
  rw [cells_cho] at hl
  match cs, hl, xs, hlen with
  | [c0, c1, c2, c3, c4, c5, c6, c7, c8, c9, c10, c11], _, [y0, y1, y2, y3, y4, y5, y6], _ =>
    have f0 : DataW.trod enc Tryz.prog W 0 (fun _ => true) true m 3 [c0] = some y0 := by
      have := hf 0 _ rfl
      simp [cells_3] at this
      exact this
    have f1 : DataW.trod enc Tryz.prog W 0 (fun _ => true) true m 3 [c1] = some y1 := by
      have := hf 1 _ rfl
      simp [cells_3] at this
      exact this
    have f2 : DataW.trod enc Tryz.prog W 0 (fun _ => true) true m 3 [c2] = some y2 := by
      have := hf 2 _ rfl
      simp [cells_3] at this
      exact this
    have f3 : DataW.trod enc Tryz.prog W 0 (fun _ => true) true m 3 [c3] = some y3 := by
      have := hf 3 _ rfl
      simp [cells_3] at this
      exact this
    have f4 : DataW.trod enc Tryz.prog W 0 (fun _ => true) true m 3 [c4] = some y4 := by
      have := hf 4 _ rfl
      simp [cells_3] at this
      exact this
    have f5 : DataW.trod enc Tryz.prog W 0 (fun _ => true) true m 3 [c5] = some y5 := by
      have := hf 5 _ rfl
      simp [cells_3] at this
      exact this
    have f6 : DataW.trod enc Tryz.prog W 0 (fun _ => true) true m 35 [c6, c7, c8, c9, c10, c11] = some y6 := by
      have := hf 6 _ rfl
      simp [cells_op] at this
      exact this
    obtain ⟨a0, e0, _, _⟩ := DataW.trod_int Tryz.underlying3 f0
    obtain ⟨a1, e1, _, _⟩ := DataW.trod_int Tryz.underlying3 f1
    obtain ⟨a2, e2, _, _⟩ := DataW.trod_int Tryz.underlying3 f2
    obtain ⟨a3, e3, _, _⟩ := DataW.trod_int Tryz.underlying3 f3
    obtain ⟨a4, e4, _, _⟩ := DataW.trod_int Tryz.underlying3 f4
    obtain ⟨a5, e5, _, _⟩ := DataW.trod_int Tryz.underlying3 f5
    obtain ⟨p, q, r, s, t, d, e6, hr, he⟩ := op_data f6
    simp only [List.cons.injEq, and_true] at e0 e1 e2 e3 e4 e5 e6
    obtain ⟨rfl, rfl, rfl, rfl, rfl, rfl⟩ := e6
    subst e0 e1 e2 e3 e4 e5
    simp only [List.map_cons, List.map_nil, Rows.uptoBulk, Rows.uptoBulkAll, he] at hb
    exact ⟨⟨a0, a1, a2, a3, a4, a5, ⟨p, q, r, s.data.toList, t.data.toList, d.data.toList⟩⟩, ⟨by show s.data.toList.length < _; omega, by show t.data.toList.length < _; omega, hr.2, hr.1⟩, rfl⟩

theorem ld_entB {h : AH} {b o : Nat} : aLoad (CC W) h 78 (.base b o) = (aCells (CC W) h (.base b o) 9).map AV.agg := by
  unfold aLoad; rw [ty78]; rfl
theorem ld_repB {h : AH} {b o : Nat} : aLoad (CC W) h 75 (.base b o) = (aCells (CC W) h (.base b o) 9).map AV.agg := by
  unfold aLoad; rw [ty75]; rfl
theorem ld_seeB {h : AH} {b o : Nat} : aLoad (CC W) h 73 (.base b o) = (aCells (CC W) h (.base b o) 14).map AV.agg := by
  unfold aLoad; rw [ty73]; rfl
theorem ents_data (h : DataW.trod enc Tryz.prog W 0 (fun _ => true) true n 71 cs = some y) (hb : Rows.uptoBulk y.1 < 1000000000) : ∃ cv l, cs = [cv] ∧ (∀ h0, EntS W h0 (qy9 cv) l) ∧ l.length < 1000000000 := by
  obtain ⟨cv, l, h1, h2, h3, _⟩ := bsl_data (P := EntP) Tryz.underlying71 cells_ent (by decide) (agg_data fun h b o => ld_entB) (fun n cs y ht hb => ent_data ht hb) h hb
  exact ⟨cv, l, h1, h2, by omega⟩
theorem reps_data (h : DataW.trod enc Tryz.prog W 0 (fun _ => true) true n 70 cs = some y) (hb : Rows.uptoBulk y.1 < 1000000000) : ∃ cv l, cs = [cv] ∧ (∀ h0, RepS W h0 (qy9 cv) l) ∧ l.length < 1000000000 := by
  obtain ⟨cv, l, h1, h2, h3, _⟩ := bsl_data (P := RepP W) Tryz.underlying70 cells_rep (by decide) (agg_data fun h b o => ld_repB) (fun n cs y ht hb => rep_data ht hb) h hb
  exact ⟨cv, l, h1, h2, by omega⟩
theorem see_data (h : DataW.trod enc Tryz.prog W 0 (fun _ => true) true n 73 cs = some y) (hb : Rows.uptoBulk y.1 < 1000000000) : ∃ s, ∀ h0, SeeP W h0 s (.agg (cs.map qy9)) := by
  obtain ⟨xs, m, _, rfl, hl, hlen, hf⟩ := DataW.trod_struct Tryz.underlying73 h
  rw [cells_see] at hl
  match cs, hl, xs, hlen with
  | [c0, c1, c2, c3, c4, c5, c6, c7, c8, c9, c10, c11, c12, c13], _, [y0, y1, y2], _ =>
    have f0 : DataW.trod enc Tryz.prog W 0 (fun _ => true) true m 69 [c0, c1, c2, c3, c4, c5, c6, c7, c8, c9, c10, c11] = some y0 := by
      have := hf 0 _ rfl
      simp [cells_cho] at this
      exact this
    have f1 : DataW.trod enc Tryz.prog W 0 (fun _ => true) true m 70 [c12] = some y1 := by
      have := hf 1 _ rfl
      simp [cells_reps] at this
      exact this
    have f2 : DataW.trod enc Tryz.prog W 0 (fun _ => true) true m 71 [c13] = some y2 := by
      have := hf 2 _ rfl
      simp [cells_ents] at this
      exact this
    simp only [List.map_cons, List.map_nil, Rows.uptoBulk, Rows.uptoBulkAll] at hb
    obtain ⟨c, ok, e0⟩ := cho_data f0 (by omega)
    obtain ⟨rv, rl, e1, h1, l1⟩ := reps_data f1 (by omega)
    obtain ⟨hv, hl, e2, h2, l2⟩ := ents_data f2 (by omega)
    simp only [List.cons.injEq, and_true] at e1 e2
    subst e1 e2
    refine ⟨⟨c, rl, hl⟩, fun h0 => ⟨qy9 _, qy9 _, ?_, ok, h1 h0, h2 h0, l1, l2⟩⟩
    rw [← e0]
    rfl
end
/-- A trace. -/
theorem seen_arg {H : Type} {enc : TypeId × Value → H} {W : World} {base : Nat} {v : Value} {d : DataW H} {ps : List MemPlace} (hval : Value.okWide Tryz.prog W .any base 63 v) (h : DataW.Trod enc Tryz.prog W 0 (fun _ => true) true 63 v d ps) :
    ∃ av : AV, VRel [] av v ∧ (Rows.uptoBulk d < 1000000000 → ∃ l : List See, (∀ h0, SeeS W h0 av l) ∧ l.length ≤ Rows.uptoBulk d) :=
  bsl_arg (P := SeeP W) Tryz.underlying63 cells_see (by decide) (agg_data fun h b o => ld_seeB) (fun n cs y ht hb => see_data ht hb) hval h
end Go.Proofs.YtbofhlifobjolaaGreatDoor.Ax
end

/-! The trace's small functions: the walks -/
section
set_option linter.unusedVariables false
set_option linter.unusedSimpArgs false
namespace Go.Proofs.YtbofhlifobjolaaGreatDoor.Ax
open Go.RowKit

def opQ (a b : Opn) : Bool := a.kd == b.kd && (a.at_ == b.at_ && (a.n == b.n && (a.p == b.p && (a.t == b.t && a.d == b.d))))
def entQ (a b : Ent) : Bool := a.view == b.view && (a.client == b.client && (a.req == b.req && opQ a.op b.op))
theorem opQ_iff {a b : Opn} : opQ a b = true ↔ a = b := by
  cases a; cases b
  simp [opQ]
theorem entQ_iff {a b : Ent} : entQ a b = true ↔ a = b := by
  cases a; cases b
  simp [entQ, opQ_iff]

section
variable {W : World}
theorem eq_op {n : Nat} {a b : Opn} : aEqIn (CC W) (n + 2) 35 (.agg a.cells) (.agg b.cells) = some (opQ a b) := by
  have hi : ∀ (x y : Int), aEqIn (CC W) (n + 1) 3 (.int .i64 x) (.int .i64 y) = some (x == y) := fun x y => rfl
  have hs : ∀ (x y : List UInt8), aEqIn (CC W) (n + 1) 9 (.str x) (.str y) = some (x == y) := fun x y => rfl
  have h0 : aEqIn (CC W) (n + 2) 35 (.agg a.cells) (.agg b.cells) = aEqG (CC W) (aEqIn (CC W) (n + 1)) [(0, 3), (1, 3), (2, 3), (3, 9), (4, 9), (5, 9)] a.cells b.cells := rfl
  have p0 : ∀ (a : Opn), aPart (CC W) 3 a.cells 0 = some (.int .i64 a.kd) := fun a => rfl
  have p1 : ∀ (a : Opn), aPart (CC W) 3 a.cells 1 = some (.int .i64 a.at_) := fun a => rfl
  have p2 : ∀ (a : Opn), aPart (CC W) 3 a.cells 2 = some (.int .i64 a.n) := fun a => rfl
  have p3 : ∀ (a : Opn), aPart (CC W) 9 a.cells 3 = some (.str a.p) := fun a => rfl
  have p4 : ∀ (a : Opn), aPart (CC W) 9 a.cells 4 = some (.str a.t) := fun a => rfl
  have p5 : ∀ (a : Opn), aPart (CC W) 9 a.cells 5 = some (.str a.d) := fun a => rfl
  rw [h0]
  simp only [aEqG, p0, p1, p2, p3, p4, p5, hi, hs, opQ]
  cases (a.kd == b.kd) <;> cases (a.at_ == b.at_) <;> cases (a.n == b.n) <;> cases (a.p == b.p) <;> cases (a.t == b.t) <;> cases (a.d == b.d) <;> rfl
theorem eq_ent {n : Nat} {a b : Ent} : aEqIn (CC W) (n + 3) 78 (.agg a.cells) (.agg b.cells) = some (entQ a b) := by
  have hi : ∀ (x y : Int), aEqIn (CC W) (n + 2) 3 (.int .i64 x) (.int .i64 y) = some (x == y) := fun x y => rfl
  have h0 : aEqIn (CC W) (n + 3) 78 (.agg a.cells) (.agg b.cells) = aEqG (CC W) (aEqIn (CC W) (n + 2)) [(0, 3), (1, 3), (2, 3), (3, 35)] a.cells b.cells := rfl
  have p0 : ∀ (a : Ent), aPart (CC W) 3 a.cells 0 = some (.int .i64 a.view) := fun a => rfl
  have p1 : ∀ (a : Ent), aPart (CC W) 3 a.cells 1 = some (.int .i64 a.client) := fun a => rfl
  have p2 : ∀ (a : Ent), aPart (CC W) 3 a.cells 2 = some (.int .i64 a.req) := fun a => rfl
  have p3 : ∀ (a : Ent), aPart (CC W) 35 a.cells 3 = some (.agg a.op.cells) := fun a => rfl
  rw [h0]
  simp only [aEqG, p0, p1, p2, p3, hi, eq_op, entQ]
  cases (a.view == b.view) <;> cases (a.client == b.client) <;> cases (a.req == b.req) <;> cases (opQ a.op b.op) <;> rfl
theorem neq_ent {ox oy : Operand} {a b : Ent} : aEq (CC W) ox oy 78 (.agg a.cells) (.agg b.cells) = some (entQ a b) := by
  have : aEq (CC W) ox oy 78 (.agg a.cells) (.agg b.cells) = aEqIn (CC W) 100 78 (.agg a.cells) (.agg b.cells) := rfl
  rw [this]; exact eq_ent
theorem box_rep {h : AH} {l : List AV} : aBox h 75 (.agg l) = some (.ptr (some (.new h.next 0)), h.push (.cells l 75)) := rfl
theorem box_ent {h : AH} {l : List AV} : aBox h 78 (.agg l) = some (.ptr (some (.new h.next 0)), h.push (.cells l 78)) := rfl
theorem box_see {h : AH} {l : List AV} : aBox h 73 (.agg l) = some (.ptr (some (.new h.next 0)), h.push (.cells l 73)) := rfl
theorem box_cho {h : AH} {l : List AV} : aBox h 69 (.agg l) = some (.ptr (some (.new h.next 0)), h.push (.cells l 69)) := rfl
theorem box_resT {h : AH} {l : List AV} : aBox h 39 (.agg l) = some (.ptr (some (.new h.next 0)), h.push (.cells l 39)) := rfl
end

/-- Is a reply a refusal? -/
def refB (r : Rep) : Bool := r.res.e == 1 || (r.res.e == 5 || r.res.e == 7)
set_option maxHeartbeats 4000000 in
theorem refusal_ret (W : World) (h : AH) (r : Rep) (nv : AV) : RetK (CC W) 109 [.agg (r.cells nv)] h (.bool (refB r)) := by
  refine jj9 (cc_ok W) (fn109 W) (by simp only [Tryz.f109]; rfl) rfl rfl ?_
  have hbx := box_rep (h := h) (l := r.cells nv)
  have hk1 := Keeps.push h (.cells (r.cells nv) 75)
  have hg : (h.push (.cells (r.cells nv) 75)).get h.next = some (.cells (r.cells nv) 75) := by simp
  generalize h.push (.cells (r.cells nv) 75) = h1 at hbx hk1 hg
  generalize h.next = k at hbx hg
  simp only [Rep.cells] at hg hbx
  have b1 := hk1
  simp only [refB]
  by_cases e1 : r.res.e = 1
  · simp only [e1] at hbx hg
    simp [push_cast, Rep.cells, hbx, fa75_3, fa39_0, ld26, ji9 hg, jd9, e1, hk1]
  · have f1 : (r.res.e == 1) = false := by simpa using e1
    by_cases e5 : r.res.e = 5
    · simp only [e5] at hbx hg
      simp [push_cast, Rep.cells, hbx, fa75_3, fa39_0, ld26, ji9 hg, jd9, e5, hk1]
    · have f5 : (r.res.e == 5) = false := by simpa using e5
      by_cases e7 : r.res.e = 7
      · simp only [e7] at hbx hg
        simp [push_cast, Rep.cells, hbx, fa75_3, fa39_0, ld26, ji9 hg, jd9, e7, hk1]
      · have f7 : (r.res.e == 7) = false := by simpa using e7
        simp [push_cast, Rep.cells, hbx, fa75_3, fa39_0, ld26, ji9 hg, jd9, f1, f5, f7, hk1]
set_option maxHeartbeats 4000000 in
theorem refusal26_ret (W : World) (h : AH) (r : Rep) (nv : AV) : RetK (CC W) 31 [.agg (r.cells nv)] h (.bool (refB r)) := by
  refine jj9 (cc_ok W) (fn31 W) (by simp only [Tryz.f31]; rfl) rfl rfl ?_
  have hbx := box_rep (h := h) (l := r.cells nv)
  have hk1 := Keeps.push h (.cells (r.cells nv) 75)
  have hg : (h.push (.cells (r.cells nv) 75)).get h.next = some (.cells (r.cells nv) 75) := by simp
  generalize h.push (.cells (r.cells nv) 75) = h1 at hbx hk1 hg
  generalize h.next = k at hbx hg
  simp only [Rep.cells] at hg hbx
  simp only [refB]
  by_cases e1 : r.res.e = 1
  · simp only [e1] at hbx hg
    simp [push_cast, Rep.cells, hbx, fa75_3, fa39_0, ld26, ji9 hg, jd9, e1, hk1]
  · have f1 : (r.res.e == 1) = false := by simpa using e1
    by_cases e5 : r.res.e = 5
    · simp only [e5] at hbx hg
      simp [push_cast, Rep.cells, hbx, fa75_3, fa39_0, ld26, ji9 hg, jd9, e5, hk1]
    · have f5 : (r.res.e == 5) = false := by simpa using e5
      by_cases e7 : r.res.e = 7
      · simp only [e7] at hbx hg
        simp [push_cast, Rep.cells, hbx, fa75_3, fa39_0, ld26, ji9 hg, jd9, e7, hk1]
      · have f7 : (r.res.e == 7) = false := by simpa using e7
        simp [push_cast, Rep.cells, hbx, fa75_3, fa39_0, ld26, ji9 hg, jd9, f1, f5, f7, hk1]

/-! ### a request -/
theorem alloc_req {W : World} {h : AH} : aAlloc (CC W) h 128 = some (.ptr (some (.new h.next 0)), h.push (.cells [.int .i64 0, .int .i64 0] 128)) := rfl
theorem build_req {W : World} {a b : Int} : aBuild (CC W) 128 [(0, .int .i64 a), (1, .int .i64 b)] = some (.agg [.int .i64 a, .int .i64 b]) := rfl
theorem st_req {W : World} {h : AH} {k : Nat} {a b : AV} {x y : Int} (hg : h.get k = some (.cells [a, b] 128)) : aStoreOp (CC W) h 128 (.ptr (some (.new k 0))) (.agg [.int .i64 x, .int .i64 y]) = some (h.set k (.cells [.int .i64 x, .int .i64 y] 128)) := by
  simp only [aStoreOp, aCellsOf, size128, aStore, hg]
  rfl
theorem ld_req {W : World} {h : AH} {k : Nat} {a b : AV} {t : TypeId} (hg : h.get k = some (.cells [a, b] t)) : aLoad (CC W) h 128 (.new k 0) = some (.agg [a, b]) := by
  unfold aLoad
  rw [ty128]
  show (aCells (CC W) h (.new k 0) 2).map AV.agg = _
  simp [aCells, hg]
set_option maxHeartbeats 4000000 in
theorem reqof_ret (W : World) (h : AH) (e : Ent) : RetK (CC W) 137 [.agg e.cells] h (.agg [.int .i64 e.client, .int .i64 e.req]) := by
  refine jj9 (cc_ok W) (fn137 W) (by simp only [Tryz.f137]; rfl) rfl rfl ?_
  have hbx := box_ent (h := h) (l := e.cells)
  have hk1 := Keeps.push h (.cells e.cells 78)
  have hg : (h.push (.cells e.cells 78)).get h.next = some (.cells e.cells 78) := by simp
  have hn1 : h.next < (h.push (.cells e.cells 78)).next := by simp
  generalize h.push (.cells e.cells 78) = h1 at hbx hk1 hg hn1
  generalize h.next = k at hbx hg hn1
  have hal := alloc_req (W := W) (h := h1)
  have hg2 : (h1.push (.cells [.int .i64 0, .int .i64 0] 128)).get k = some (.cells e.cells 78) := by rw [AH.get_push, if_neg (by omega)]; exact hg
  have hst := st_req (W := W) (x := e.client) (y := e.req) (h := h1.push (.cells [.int .i64 0, .int .i64 0] 128)) (k := h1.next) (a := .int .i64 0) (b := .int .i64 0) (by simp)
  have hld := ld_req (W := W) (h := (h1.push (.cells [.int .i64 0, .int .i64 0] 128)).set h1.next (.cells [.int .i64 e.client, .int .i64 e.req] 128)) (k := h1.next) (a := .int .i64 e.client) (b := .int .i64 e.req) (t := 128) (by simp)
  have hkk : Keeps h ((h1.push (.cells [.int .i64 0, .int .i64 0] 128)).set h1.next (.cells [.int .i64 e.client, .int .i64 e.req] 128)) := hk1.trans ((Keeps.push _ _).set (Nat.le_refl _) _)
  generalize (h1.push (.cells [.int .i64 0, .int .i64 0] 128)).set h1.next (.cells [.int .i64 e.client, .int .i64 e.req] 128) = h3 at hst hld hkk
  generalize h1.push (.cells [.int .i64 0, .int .i64 0] 128) = h2 at hal hg2 hst
  generalize h1.next = k2 at hal hst hld
  simp only [Ent.cells, Opn.cells] at hbx hg2
  simp [push_cast, Ent.cells, Opn.cells, hbx, hal, fa78_1, fa78_2, ld3, ji9 hg2, jd9, build_req, hst, hld, hkk]

/-! ### slices that are compared -/
def EqT (va vb : AV) (n : Nat) (P : Nat → Prop) (h : AH) (m : Nat) (e' : Env) (h' : AH) : Prop :=
  h' = h ∧ e'.length = 26 ∧ ∃ k : Nat, k + m = n ∧ P k ∧ (e'.getD 0 .undef = va ∧ e'.getD 1 .undef = vb ∧ e'.getD 12 .undef = .int .i64 n ∧ e'.getD 13 .undef = .int .i64 k)

theorem take_nx {α : Type} {a b : List α} {k : Nat} {x : α} (h : a.take k = b.take k) (hx : a[k]? = some x) (hy : b[k]? = some x) : a.take (k + 1) = b.take (k + 1) := by
  rw [List.take_add_one, List.take_add_one, h, hx, hy]

open Classical in
set_option maxHeartbeats 4000000 in
set_option maxRecDepth 20000 in
theorem ents_ret (W : World) (f : FuncId) (hf : f = 135 ∨ f = 32) (h : AH) (va vb : AV) (a b : List Ent)
    (ha : ∀ (i : Nat) (x : Ent), a[i]? = some x → ∃ p, aIndexAddr (CC W) 71 va (.int .i64 (i : Int)) = some (.ptr (some p)) ∧ aLoad (CC W) h 78 p = some (.agg x.cells))
    (hb : ∀ (i : Nat) (x : Ent), b[i]? = some x → ∃ p, aIndexAddr (CC W) 71 vb (.int .i64 (i : Int)) = some (.ptr (some p)) ∧ aLoad (CC W) h 78 p = some (.agg x.cells))
    (hla : aLen (CC W) h 71 va = some (.int .i64 a.length)) (hlb : aLen (CC W) h 71 vb = some (.int .i64 b.length)) (hn : a.length < 1000000000000) :
    RetH (CC W) f [va, vb] h (.bool (decide (a = b))) := by
  rcases hf with rfl | rfl
  case inl =>
    refine jj9 (cc_ok W) (fn135 W) (by simp only [Tryz.f135]; rfl) rfl rfl ?_
    by_cases hlen : a.length = b.length
    · have hlen' : ((a.length : Int) != (b.length : Int)) = false := by simp [hlen]
      simp [push_cast, hla, hlb, hlen']
      refine loopN (cc_ok W) (EqT va vb a.length (fun k => a.take k = b.take k) h) a.length ⟨rfl, by simp, 0, by simp, by simp, by simp⟩ ?_
      rintro m e' h' ⟨rfl, hl, k, hkm, htk, hh⟩
      match e', hl with
      | a0 :: a1 :: a2 :: a3 :: a4 :: a5 :: a6 :: a7 :: a8 :: a9 :: a10 :: a11 :: a12 :: a13 :: a14 :: a15 :: a16 :: a17 :: a18 :: a19 :: a20 :: a21 :: a22 :: a23 :: a24 :: a25 :: [], _ =>
        simp at hh
        obtain ⟨rfl, rfl, rfl, rfl⟩ := hh
        by_cases hlt : k < a.length
        · have hlt' : (k : Int) < (a.length : Int) := by omega
          have hx : a[k]? = some a[k] := by simp [hlt]
          have hy : b[k]? = some (b[k]'(by omega)) := by simp [show k < b.length by omega]
          generalize a[k] = x at hx
          generalize b[k]'(by omega) = y at hy
          obtain ⟨p, hix, hld⟩ := ha k x hx
          obtain ⟨q, hiy, hldy⟩ := hb k y hy
          have wk : IntKind.i64.wrap ((k : Int) + 1) = (k : Int) + 1 := wrap64 (by omega) (by omega)
          simp [push_cast, hlt, hlt']
          refine draw1 (cc_ok W) [0, 1, 2, 3, 4, 5, 6, 7, 8] (by kernel_rfl) (by kernel_rfl) (by kernel_rfl) rfl ?_
          cases hxy : entQ x y with
          | true =>
            have := entQ_iff.1 hxy
            subst this
            simp [push_cast, hix, hld, hiy, hldy, neq_ent, hxy, wk]
            exact ⟨m - 1, by omega, rfl, by simp, k + 1, by omega, take_nx htk hx hy, by simp⟩
          | false =>
            have hne : a ≠ b := by
              rintro rfl
              rw [hx] at hy
              have := Option.some.inj hy
              have := entQ_iff.2 this
              rw [hxy] at this; cases this
            simp [push_cast, hix, hld, hiy, hldy, neq_ent, hxy, hne]
        · have hlt' : ¬ (k : Int) < (a.length : Int) := by omega
          have he : a = b := by
            have h1 : a.take k = a := List.take_of_length_le (by omega)
            have h2 : b.take k = b := List.take_of_length_le (by omega)
            rw [← h1, htk, h2]
          rw [decide_eq_true he]
          simp [push_cast, hlt, hlt']
    · have hlen' : ((a.length : Int) != (b.length : Int)) = true := by rw [bne_iff_ne]; omega
      have hne : a ≠ b := by intro e; exact hlen (by rw [e])
      simp [push_cast, hla, hlb, hlen', hne]
  case inr =>
    refine jj9 (cc_ok W) (fn32 W) (by simp only [Tryz.f32]; rfl) rfl rfl ?_
    by_cases hlen : a.length = b.length
    · have hlen' : ((a.length : Int) != (b.length : Int)) = false := by simp [hlen]
      simp [push_cast, hla, hlb, hlen']
      refine loopN (cc_ok W) (EqT va vb a.length (fun k => a.take k = b.take k) h) a.length ⟨rfl, by simp, 0, by simp, by simp, by simp⟩ ?_
      rintro m e' h' ⟨rfl, hl, k, hkm, htk, hh⟩
      match e', hl with
      | a0 :: a1 :: a2 :: a3 :: a4 :: a5 :: a6 :: a7 :: a8 :: a9 :: a10 :: a11 :: a12 :: a13 :: a14 :: a15 :: a16 :: a17 :: a18 :: a19 :: a20 :: a21 :: a22 :: a23 :: a24 :: a25 :: [], _ =>
        simp at hh
        obtain ⟨rfl, rfl, rfl, rfl⟩ := hh
        by_cases hlt : k < a.length
        · have hlt' : (k : Int) < (a.length : Int) := by omega
          have hx : a[k]? = some a[k] := by simp [hlt]
          have hy : b[k]? = some (b[k]'(by omega)) := by simp [show k < b.length by omega]
          generalize a[k] = x at hx
          generalize b[k]'(by omega) = y at hy
          obtain ⟨p, hix, hld⟩ := ha k x hx
          obtain ⟨q, hiy, hldy⟩ := hb k y hy
          have wk : IntKind.i64.wrap ((k : Int) + 1) = (k : Int) + 1 := wrap64 (by omega) (by omega)
          simp [push_cast, hlt, hlt']
          refine draw1 (cc_ok W) [0, 1, 2, 3, 4, 5, 6, 7, 8] (by kernel_rfl) (by kernel_rfl) (by kernel_rfl) rfl ?_
          cases hxy : entQ x y with
          | true =>
            have := entQ_iff.1 hxy
            subst this
            simp [push_cast, hix, hld, hiy, hldy, neq_ent, hxy, wk]
            exact ⟨m - 1, by omega, rfl, by simp, k + 1, by omega, take_nx htk hx hy, by simp⟩
          | false =>
            have hne : a ≠ b := by
              rintro rfl
              rw [hx] at hy
              have := Option.some.inj hy
              have := entQ_iff.2 this
              rw [hxy] at this; cases this
            simp [push_cast, hix, hld, hiy, hldy, neq_ent, hxy, hne]
        · have hlt' : ¬ (k : Int) < (a.length : Int) := by omega
          have he : a = b := by
            have h1 : a.take k = a := List.take_of_length_le (by omega)
            have h2 : b.take k = b := List.take_of_length_le (by omega)
            rw [← h1, htk, h2]
          rw [decide_eq_true he]
          simp [push_cast, hlt, hlt']
    · have hlen' : ((a.length : Int) != (b.length : Int)) = true := by rw [bne_iff_ne]; omega
      have hne : a ≠ b := by intro e; exact hlen (by rw [e])
      simp [push_cast, hla, hlb, hlen', hne]
end Go.Proofs.YtbofhlifobjolaaGreatDoor.Ax
end

/-! An entry's bytes: the walks (only whether they can be written counts) -/
section
set_option linter.unusedVariables false
set_option linter.unusedSimpArgs false
namespace Go.Proofs.YtbofhlifobjolaaGreatDoor.Ax
open Go.RowKit

def inM (n least : Int) : Bool := decide (least ≤ n) && decide (n ≤ 1099511627776)
set_option maxHeartbeats 4000000 in
theorem rin_ret (W : World) (h : AH) (n least : Int) : RetH (CC W) 180 [.int .i64 n, .int .i64 least] h (.bool (inM n least)) := by
  refine jj9 (cc_ok W) (fn180 W) (by simp only [Tryz.f180]; rfl) rfl rfl ?_
  by_cases h1 : least ≤ n
  · by_cases h2 : n ≤ 1099511627776
    · simp [push_cast, h1, h2, inM]
    · simp [push_cast, h1, h2, inM]
  · simp [push_cast, h1, inM]

/-- Is an entry one that can be written? -/
def rightB (e : Ent) : Bool := inM e.view 0 && (inM e.client 0 && (inM e.req 1 && (decide (e.op.p.length ≤ 4096) && (decide (e.op.t.length ≤ 4096) && decide (e.op.d.length ≤ 4096)))))
set_option maxRecDepth 100000 in
set_option maxHeartbeats 8000000 in
theorem right_ent_ret (W : World) (h : AH) (e : Ent) : RetK (CC W) 155 [.agg e.cells] h (.bool (rightB e)) := by
  refine jj9 (cc_ok W) (fn155 W) (by simp only [Tryz.f155]; rfl) rfl rfl ?_
  have hbx := box_ent (h := h) (l := e.cells)
  have hk1 := Keeps.push h (.cells e.cells 78)
  have hg : (h.push (.cells e.cells 78)).get h.next = some (.cells e.cells 78) := by simp
  generalize h.push (.cells e.cells 78) = h1 at hbx hk1 hg
  generalize h.next = k at hbx hg
  simp only [Ent.cells, Opn.cells] at hbx hg
  have r1 := rin_ret W h1 e.view 0
  have r2 := rin_ret W h1 e.client 0
  have r3 := rin_ret W h1 e.req 1
  simp [push_cast, Ent.cells, Opn.cells, hbx, fa78_0, ld3, ji9 hg, jd9]
  refine jh9 (by simp [fn180]) r1 ?_
  cases b1 : inM e.view 0 with
  | false => simp [push_cast, rightB, b1, hk1]
  | true =>
    simp [push_cast, fa78_1, ld3, ji9 hg, jd9]
    refine jh9 (by simp [fn180]) r2 ?_
    cases b2 : inM e.client 0 with
    | false => simp [push_cast, rightB, b1, b2, hk1]
    | true =>
      simp [push_cast, fa78_2, ld3, ji9 hg, jd9]
      refine jh9 (by simp [fn180]) r3 ?_
      cases b3 : inM e.req 1 with
      | false => simp [push_cast, rightB, b1, b2, b3, hk1]
      | true =>
        by_cases b4 : e.op.p.length ≤ 4096
        · have b4' : (e.op.p.length : Int) ≤ 4096 := by omega
          by_cases b5 : e.op.t.length ≤ 4096
          · have b5' : (e.op.t.length : Int) ≤ 4096 := by omega
            by_cases b6 : e.op.d.length ≤ 4096
            · have b6' : (e.op.d.length : Int) ≤ 4096 := by omega
              simp [push_cast, fa78_3, fa35_3, fa35_4, fa35_5, ld9, ji9 hg, jd9, aLen, kind9, rightB, b1, b2, b3, b4, b5, b6, b4', b5', b6', hk1]
            · have b6' : ¬ (e.op.d.length : Int) ≤ 4096 := by omega
              simp [push_cast, fa78_3, fa35_3, fa35_4, fa35_5, ld9, ji9 hg, jd9, aLen, kind9, rightB, b1, b2, b3, b4, b5, b6, b4', b5', b6', hk1]
          · have b5' : ¬ (e.op.t.length : Int) ≤ 4096 := by omega
            simp [push_cast, fa78_3, fa35_3, fa35_4, fa35_5, ld9, ji9 hg, jd9, aLen, kind9, rightB, b1, b2, b3, b4, b5, b4', b5', hk1]
        · have b4' : ¬ (e.op.p.length : Int) ≤ 4096 := by omega
          simp [push_cast, fa78_3, fa35_3, fa35_4, fa35_5, ld9, ji9 hg, jd9, aLen, kind9, rightB, b1, b2, b3, b4, b4', hk1]

/-! ### A writer -/
/-- Bytes in an own block, or none. -/
def BytV (h : AH) (ko : Option Nat) (bv : AV) (l : List UInt8) : Prop := match ko with
  | none => l = [] ∧ bv = .sl none 0 0 none
  | some k => l ≠ [] ∧ k < h.next ∧ h.get k = some (.cells (bcells l) 5) ∧ bv = .sl (some (.new k 0)) l.length l.length (some 1)
/-- A writer, where its bytes are, and its bytes. -/
def WS (h : AH) (kb : Nat) (ko : Option Nat) (l : List UInt8) : Prop :=
  kb < h.next ∧ ko ≠ some kb ∧ ∃ bv, h.get kb = some (.cells [bv] 248) ∧ BytV h ko bv l
/-- What a writer may change. -/
def WF (kb : Nat) (ko : Option Nat) (h : AH) (ko' : Option Nat) (h' : AH) : Prop :=
  h.next ≤ h'.next ∧ (∀ j, j < h.next → j ≠ kb → ko ≠ some j → h'.get j = h.get j) ∧ (ko' = ko ∨ ∃ k, ko' = some k ∧ h.next ≤ k)
theorem WF.refl {kb : Nat} {ko : Option Nat} {h : AH} : WF kb ko h ko h := ⟨Nat.le_refl _, fun _ _ _ _ => rfl, .inl rfl⟩
theorem WF.trans {kb : Nat} {k1 k2 k3 : Option Nat} {h1 h2 h3 : AH} (a : WF kb k1 h1 k2 h2) (b : WF kb k2 h2 k3 h3) : WF kb k1 h1 k3 h3 := by
  obtain ⟨a1, a2, a3⟩ := a
  obtain ⟨b1, b2, b3⟩ := b
  refine ⟨Nat.le_trans a1 b1, fun j hj hk ho => ?_, ?_⟩
  · rw [b2 j (by omega) hk, a2 j hj hk ho]
    rcases a3 with rfl | ⟨k, rfl, hk2⟩
    · exact ho
    · intro e; have := Option.some.inj e; omega
  · rcases b3 with rfl | ⟨k, rfl, hk2⟩
    · exact a3
    · exact .inr ⟨k, rfl, by omega⟩
theorem WF.keeps {kb : Nat} {ko : Option Nat} {h h' : AH} (hk : Keeps h h') : WF kb ko h ko h' := ⟨hk.1, fun j hj _ _ => hk.2 j hj, .inl rfl⟩
theorem WS.keeps {h h' : AH} {kb : Nat} {ko : Option Nat} {l : List UInt8} (hw : WS h kb ko l) (hk : Keeps h h') : WS h' kb ko l := by
  obtain ⟨a, b, bv, c, d⟩ := hw
  refine ⟨Nat.lt_of_lt_of_le a hk.1, b, bv, (hk.2 kb a).trans c, ?_⟩
  cases ko with
  | none => exact d
  | some k => obtain ⟨d1, d2, d3, d4⟩ := d; exact ⟨d1, Nat.lt_of_lt_of_le d2 hk.1, (hk.2 k d2).trans d3, d4⟩

section
variable {W : World} {h : AH} {k : Nat} {a : AV} {t : TypeId}
theorem st_wrt {p : Option AA} {n c : Nat} {g : Option Nat} (hg : h.get k = some (.cells [a] t)) : aStoreOp (CC W) h 51 (.ptr (some (.new k 0))) (.sl p n c g) = some (h.set k (.cells [.sl p n c g] t)) := by
  simp only [aStoreOp, aCellsOf, size51, aStore, hg]
  rfl
theorem build_wrt : aBuild (CC W) 248 [] = some (.agg [.sl none 0 0 none]) := rfl
theorem box_wrt {l : List AV} : aBox h 248 (.agg l) = some (.ptr (some (.new h.next 0)), h.push (.cells l 248)) := rfl
theorem conv_u8 {n : Int} : aConv (CC W) h 239 5 (.int .u64 n) = some (.int .u8 (IntKind.u8.wrap n)) := rfl
theorem conv_i64 {n : Int} : aConv (CC W) h 3 239 (.int .i64 n) = some (.int .u64 (IntKind.u64.wrap n)) := rfl
end
theorem u8_of (z : Int) : ∃ x : UInt8, IntKind.u8.wrap z = x.toNat := by
  have h1 : IntKind.u8.wrap z = z % 256 := rfl
  refine ⟨UInt8.ofNat (z % 256).toNat, ?_⟩
  rw [h1]
  have : (UInt8.ofNat (z % 256).toNat).toNat = (z % 256).toNat := by
    simp only [UInt8.toNat_ofNat']
    omega
  rw [this]; omega
theorem u64_range (z : Int) : 0 ≤ IntKind.u64.wrap z ∧ IntKind.u64.wrap z < 18446744073709551616 := by
  have h1 : IntKind.u64.wrap z = z % 18446744073709551616 := rfl
  rw [h1]; omega

/-- What is appended to a writer's bytes. -/
theorem BytV.app {W : World} {h : AH} {ko : Option Nat} {bv : AV} {l : List UInt8} {T2 : TypeId} {x : AV} (s : List UInt8) (hb : BytV h ko bv l) (hl : l.length + s.length < 8796093022207) (hni : niOK (CC W) #[51, T2] = true) (hnews : aNews (CC W) h 1 x = some (s.length, bcells s)) :
    ∃ p n c g ko' h', aAppend (CC W) h #[51, T2] bv x = some (.sl p n c g, h') ∧ BytV h' ko' (.sl p n c g) (l ++ s) ∧ h.next ≤ h'.next ∧ (∀ j, j < h.next → ko ≠ some j → h'.get j = h.get j) ∧ (ko' = ko ∨ ∃ k, ko' = some k ∧ h.next ≤ k) := by
  have hb' : (CC W).bytes 5 = 1 := _root_.id rfl
  have hone : (bcells s).all aOne = true := by
    rw [List.all_eq_true]
    intro x hx
    obtain ⟨b, _, rfl⟩ := List.mem_map.1 hx
    rfl
  have hsl : (bcells s).length = s.length := bcells_length s
  cases ko with
  | none =>
    obtain ⟨rfl, rfl⟩ := hb
    by_cases hs : s = []
    · subst hs
      refine ⟨none, 0, 0, none, none, h, ?_, ⟨rfl, rfl⟩, Nat.le_refl _, fun _ _ _ => rfl, .inl rfl⟩
      simp [aAppend, kind51, size5, zero5, hb', hni, hnews]
    · have hpos : 0 < s.length := List.length_pos_iff.2 hs
      refine ⟨some (.new h.next 0), s.length, s.length, some 1, some h.next, h.push (.cells (bcells s) 5), ?_, ⟨by simpa using hs, by simp, by simp, by simp⟩, by simp, fun j hj _ => ?_, .inr ⟨_, rfl, Nat.le_refl _⟩⟩
      · simp [aAppend, kind51, size5, zero5, hb', hni, hnews, hs]
        omega
      · rw [AH.get_push, if_neg (by omega)]
  | some k =>
    obtain ⟨hne, h2, h4, rfl⟩ := hb
    have hpl : 0 < l.length := List.length_pos_iff.2 hne
    have hbl : (bcells l).length = l.length := bcells_length l
    by_cases hs : s = []
    · subst hs
      refine ⟨some (.new k 0), l.length, l.length, some 1, some k, h, ?_, ⟨by simpa using hne, h2, by simpa using h4, by simp⟩, Nat.le_refl _, fun _ _ _ => rfl, .inl rfl⟩
      simp [aAppend, kind51, size5, zero5, hb', hni, hnews]
    · have hpos : 0 < s.length := List.length_pos_iff.2 hs
      have hap : bcells l ++ bcells s = bcells (l ++ s) := by simp [bcells]
      refine ⟨some (.new h.next 0), l.length + s.length, l.length + s.length, some 1, some h.next, (h.kill k).push (.cells (bcells l ++ bcells s) 5), ?_, ⟨by simp [hne], by simp [AH.next_kill'], ?_, by simp⟩, by simp [AH.next_kill'], fun j hj hk => ?_, .inr ⟨_, rfl, Nat.le_refl _⟩⟩
      · generalize bcells s = c2 at hnews hone
        generalize bcells l = c1 at h4 hbl
        simp [aAppend, kind51, size5, zero5, hb', hni, hnews, h4, hbl, hs, AH.next_kill']
        rw [if_neg (by omega), if_pos (by omega), if_pos (by simpa using hone)]
      · rw [AH.get_push, AH.next_kill', if_pos rfl, hap]
      · have : j ≠ k := fun e => hk (by rw [e])
        rw [AH.get_push, AH.next_kill', if_neg (by omega), AH.get_kill', if_neg this]

/-- A writer that bytes are appended to, whatever they are made of. -/
theorem WS.app {W : World} {h hx : AH} {kb : Nat} {ko : Option Nat} {l : List UInt8} {T2 : TypeId} {x : AV} (s : List UInt8) (hw : WS h kb ko l) (hk : Keeps h hx) (hl : l.length + s.length < 8796093022207) (hni : niOK (CC W) #[51, T2] = true) (hnews : aNews (CC W) hx 1 x = some (s.length, bcells s)) :
    ∃ bv p n c g h1 h2 ko', h.get kb = some (.cells [bv] 248) ∧ aAppend (CC W) hx #[51, T2] bv x = some (.sl p n c g, h1) ∧ aStoreOp (CC W) h1 51 (.ptr (some (.new kb 0))) (.sl p n c g) = some h2 ∧ WS h2 kb ko' (l ++ s) ∧ WF kb ko h ko' h2 := by
  obtain ⟨a, b, bv, c, d⟩ := hw.keeps hk
  obtain ⟨p, n, q, g, ko', h1, e1, e2, e3, e4, e5⟩ := BytV.app (W := W) s d hl hni hnews
  have hgk := (e4 kb a b).trans c
  have hkb : kb < h.next := hw.1
  have hko : ko' ≠ some kb := by
    rcases e5 with rfl | ⟨k, rfl, hk2⟩
    · exact b
    · intro e; have := Option.some.inj e; omega
  refine ⟨bv, p, n, q, g, h1, _, ko', (hk.2 kb hkb).symm.trans c, e1, st_wrt hgk, ⟨by simp; omega, hko, _, by simp; rfl, ?_⟩, by simp; have := hk.1; omega, fun j hj hjk hjo => ?_, ?_⟩
  · cases ko' with
    | none => exact e2
    | some k =>
      obtain ⟨d1, d2, d3, d4⟩ := e2
      have : k ≠ kb := fun e => hko (by rw [e])
      exact ⟨d1, by simp; exact d2, by simp [this]; exact d3, d4⟩
  · have hj2 := Nat.lt_of_lt_of_le hj hk.1
    simp [hjk]
    rw [e4 j hj2 hjo, hk.2 j hj]
  · rcases e5 with rfl | ⟨k, rfl, hk2⟩
    · exact .inl rfl
    · exact .inr ⟨k, rfl, by have := hk.1; omega⟩
theorem news_byte {W : World} {h : AH} {x : UInt8} : aNews (CC W) (h.push (.cells [.int .u8 x.toNat] 5)) 1 (.sl (some (.new h.next 0)) 1 1 none) = some ([x].length, bcells [x]) := by
  simp [aNews, aCells, bcells]

def PutI (h0 : AH) (kb : Nat) (ko : Option Nat) (b : Nat) (m : Nat) (e' : Env) (h' : AH) : Prop :=
  e'.length = 31 ∧ ∃ (n : Int) (ko' : Option Nat) (l : List UInt8) (j : Nat), n = (m : Int) ∧ WS h' kb ko' l ∧ WF kb ko h0 ko' h' ∧ l.length + j ≤ b ∧ 1 ≤ j ∧ n < 128 ^ j ∧ (e'.getD 0 .undef = .ptr (some (.new kb 0)) ∧ e'.getD 1 .undef = .int .u64 n)
/-- A writer of so many bytes at most, behind what it may change. -/
def WLe (kb : Nat) (ko : Option Nat) (h : AH) (b : Nat) (h' : AH) : Prop := ∃ ko' l, WS h' kb ko' l ∧ l.length ≤ b ∧ WF kb ko h ko' h'

set_option maxRecDepth 100000 in
set_option maxHeartbeats 8000000 in
theorem wput_ret (W : World) (h : AH) (kb : Nat) (ko : Option Nat) (l : List UInt8) (n : Int) (hw : WS h kb ko l) (hl : l.length < 1000000000) (h0n : 0 ≤ n) (hn : n < 18446744073709551616) :
    ACall (CC W) 181 [.ptr (some (.new kb 0)), .int .u64 n] h (fun w h' => w = .tup [] ∧ WLe kb ko h (l.length + 10) h') (fun _ _ => False) := by
  refine jj9 (cc_ok W) (fn181 W) (by simp only [Tryz.f181]; rfl) rfl rfl ?_
  obtain ⟨N, rfl⟩ := Int.eq_ofNat_of_zero_le h0n
  have hni : niOK (CC W) #[51, 51] = true := _root_.id rfl
  simp [push_cast]
  refine loopN (cc_ok W) (PutI h kb ko (l.length + 10)) N ⟨by simp, (N : Int), ko, l, 10, rfl, hw, WF.refl, by omega, by omega, by omega, by simp⟩ ?_
  rintro m e' h' ⟨hlen', _, ko2, l2, j, rfl, hw2, hf2, hlj, hj, hmj, hh⟩
  match e', hlen' with
  | a0 :: a1 :: a2 :: a3 :: a4 :: a5 :: a6 :: a7 :: a8 :: a9 :: a10 :: a11 :: a12 :: a13 :: a14 :: a15 :: a16 :: a17 :: a18 :: a19 :: a20 :: a21 :: a22 :: a23 :: a24 :: a25 :: a26 :: a27 :: a28 :: a29 :: a30 :: [], _ =>
    simp at hh
    obtain ⟨rfl, rfl⟩ := hh
    by_cases hc : (127 : Int) < (m : Int)
    · have hor : aInt .or .u8 (IntKind.u8.wrap (m : Int)) 128 = some (.int .u8 (IntKind.u8.wrap ((BitVec.ofInt 8 (IntKind.u8.wrap (m : Int)) ||| BitVec.ofInt 8 128).toNat : Int))) := rfl
      obtain ⟨x, hx⟩ := u8_of ((BitVec.ofInt 8 (IntKind.u8.wrap (m : Int)) ||| BitVec.ofInt 8 128).toNat : Int)
      rw [hx] at hor
      clear hx
      obtain ⟨bv, p, q, c, g, h5, h6, ko6, hg, hap, hst, hw6, hf6⟩ := hw2.app (W := W) [x] (Keeps.push h' (.cells [.int .u8 x.toNat] 5)) (by simp; omega) hni news_byte
      have hbs := build_byte (W := W) (h := h') (n := x.toNat)
      have hsh : aShift .shr .u64 (m : Int) 7 = some (.int .u64 ((m / 128 : Nat) : Int)) := by
        simp only [aShift]
        rw [if_neg (by omega)]
        show some (AV.int IntKind.u64 ((m : Int).fdiv (2 ^ 7))) = _
        rw [Int.fdiv_eq_ediv_of_nonneg _ (by omega)]
        rfl
      simp [push_cast, hc, fa248_0, ld51, ji9 hg, jd9, conv_u8, hor, hbs, hap, hst, hsh]
      have hj2 : 2 ≤ j := by
        rcases Nat.lt_or_ge j 2 with h | h
        · have : j = 1 := by omega
          subst this; omega
        · exact h
      obtain ⟨j', rfl⟩ : ∃ j', j = j' + 1 := ⟨j - 1, by omega⟩
      refine ⟨m / 128, by omega, by simp, ((m / 128 : Nat) : Int), ko6, l2 ++ [x], j', rfl, hw6, hf2.trans hf6, by simp; omega, by omega, ?_, by simp⟩
      have : (m : Int) < 128 ^ j' * 128 := by rw [← Int.pow_succ]; exact hmj
      omega
    · obtain ⟨x, hx⟩ := u8_of (m : Int)
      obtain ⟨bv, p, q, c, g, h5, h6, ko6, hg, hap, hst, hw6, hf6⟩ := hw2.app (W := W) [x] (Keeps.push h' (.cells [.int .u8 x.toNat] 5)) (by simp; omega) hni news_byte
      have hbs := build_byte (W := W) (h := h') (n := x.toNat)
      simp [push_cast, hc, fa248_0, ld51, ji9 hg, jd9, conv_u8, hx, hbs, hap, hst]
      exact ⟨rfl, ko6, l2 ++ [x], hw6, by simp; omega, hf2.trans hf6⟩

set_option maxHeartbeats 8000000 in
theorem wuint_ret (W : World) (h : AH) (kb : Nat) (ko : Option Nat) (l : List UInt8) (n : Int) (hw : WS h kb ko l) (hl : l.length < 1000000000) (h0n : 0 ≤ n) :
    ACall (CC W) 157 [.ptr (some (.new kb 0)), .int .i64 n] h (fun w h' => w = .int .i64 0 ∧ WLe kb ko h (l.length + 10) h') (fun _ _ => False) := by
  refine jj9 (cc_ok W) (fn157 W) (by simp only [Tryz.f157]; rfl) rfl rfl ?_
  have hneg : ¬ n < 0 := by omega
  obtain ⟨u0, u1⟩ := u64_range n
  simp [push_cast, hneg, aEq, kind224, kindEq1, aEq1, conv_i64]
  refine je9 (by simp [fn181]) (wput_ret W h kb ko l _ hw hl u0 u1) fun w h1 ⟨_, hw1⟩ => ?_
  simp [push_cast]
  exact hw1
set_option maxHeartbeats 8000000 in
theorem wint_ret (W : World) (h : AH) (kb : Nat) (ko : Option Nat) (l : List UInt8) (n : Int) (hw : WS h kb ko l) (hl : l.length < 1000000000) :
    ACall (CC W) 158 [.ptr (some (.new kb 0)), .int .i64 n] h (fun w h' => w = .int .i64 0 ∧ WLe kb ko h (l.length + 10) h') (fun _ _ => False) := by
  refine jj9 (cc_ok W) (fn158 W) (by simp only [Tryz.f158]; rfl) rfl rfl ?_
  have h1 : ∃ z, aShift .shl .u64 (IntKind.u64.wrap n) 1 = some (.int .u64 z) := ⟨_, rfl⟩
  have h2 : ∃ z, aShift .shr .i64 n 63 = some (.int .i64 z) := ⟨_, rfl⟩
  obtain ⟨z1, h1⟩ := h1
  obtain ⟨z2, h2⟩ := h2
  have h3 : ∃ z, aInt .xor .u64 z1 (IntKind.u64.wrap z2) = some (.int .u64 (IntKind.u64.wrap z)) := ⟨_, rfl⟩
  obtain ⟨z3, h3⟩ := h3
  obtain ⟨u0, u1⟩ := u64_range z3
  simp [push_cast, aEq, kind224, kindEq1, aEq1, conv_i64, h1, h2, h3]
  refine je9 (by simp [fn181]) (wput_ret W h kb ko l _ hw hl u0 u1) fun w h1 ⟨_, hw1⟩ => ?_
  simp [push_cast]
  exact hw1
set_option maxHeartbeats 8000000 in
theorem wtext_ret (W : World) (h : AH) (kb : Nat) (ko : Option Nat) (l : List UInt8) (s : List UInt8) (hw : WS h kb ko l) (hl : l.length < 100000000) (hs : s.length ≤ 4096) :
    ACall (CC W) 159 [.ptr (some (.new kb 0)), .str s] h (fun w h' => w = .int .i64 0 ∧ WLe kb ko h (l.length + 5000) h') (fun _ _ => False) := by
  refine jj9 (cc_ok W) (fn159 W) (by simp only [Tryz.f159]; rfl) rfl rfl ?_
  have hc : ¬ (65535 : Int) < (s.length : Int) := by omega
  simp [push_cast, aLen, kind9, hc]
  refine je9 (by simp [fn157]) (wuint_ret W h kb ko l _ hw (by omega) (by omega)) fun w h1 ⟨hw0, ko1, l1, hw1, hl1, hf1⟩ => ?_
  subst hw0
  have hni : niOK (CC W) #[51, 9] = true := _root_.id rfl
  obtain ⟨bv, p, q, c, g, h5, h6, ko6, hg, hap, hst, hw6, hf6⟩ := hw1.app (W := W) (T2 := 9) (x := .str s) s (Keeps.refl h1) (by omega) hni (by simp [aNews, bcells])
  simp [push_cast, fa248_0, ld51, ji9 hg, jd9, hap, hst]
  exact ⟨ko6, l1 ++ s, hw6, by simp; omega, hf1.trans hf6⟩
theorem conv_bytes {W : World} {h : AH} {ko : Option Nat} {bv : AV} {l : List UInt8} (hb : BytV h ko bv l) : aConv (CC W) h 51 9 bv = some (.str l) := by
  cases ko with
  | none => obtain ⟨rfl, rfl⟩ := hb; rfl
  | some k =>
    obtain ⟨hne, _, h4, rfl⟩ := hb
    have hpl : 0 < l.length := List.length_pos_iff.2 hne
    have hbl : (bcells l).length = l.length := bcells_length l
    have ht : (bcells l).take l.length = bcells l := List.take_of_length_le (by omega)
    simp only [aConv, kind51, kind9, kind5]
    rw [if_neg (by omega)]
    simp [aCells, h4, hbl, ht, bcells_read]
set_option maxHeartbeats 8000000 in
theorem wout_ret (W : World) (h : AH) (kb : Nat) (ko : Option Nat) (l : List UInt8) (hw : WS h kb ko l) :
    RetH (CC W) 160 [.ptr (some (.new kb 0))] h (.str l) := by
  refine jj9 (cc_ok W) (fn160 W) (by simp only [Tryz.f160]; rfl) rfl rfl ?_
  obtain ⟨k1, k2, bv, hg, hbv⟩ := hw
  have hcv := conv_bytes (W := W) hbv
  simp [push_cast, aEq, kind224, kindEq1, aEq1, fa248_0, ld51, ji9 hg, jd9, hcv]
set_option maxHeartbeats 8000000 in
theorem wnew_ret (W : World) (h : AH) : ACall (CC W) 156 [] h (fun w h' => ∃ kb, w = .ptr (some (.new kb 0)) ∧ h.next ≤ kb ∧ Keeps h h' ∧ WS h' kb none []) (fun _ _ => False) := by
  refine jj9 (cc_ok W) (fn156 W) (by simp only [Tryz.f156]; rfl) rfl rfl ?_
  simp [push_cast, build_wrt, box_wrt]
  exact ⟨Keeps.push _ _, by simp, by simp, .sl none 0 0 none, by simp, rfl, rfl⟩

/-! ### Encode -/
def EncI (hs : AH) (kb : Nat) (ko : Option Nat) (n1 n2 n3 : Nat) (sv : AV) (b : Nat) (m : Nat) (e' : Env) (h' : AH) : Prop :=
  e'.length = 71 ∧ ∃ (i : Nat) (ko' : Option Nat) (l : List UInt8), i + m = 3 ∧ WS h' kb ko' l ∧ WF kb ko hs ko' h' ∧ l.length ≤ b + i * 5000 ∧ (e'.getD n1 .undef = sv ∧ e'.getD n2 .undef = .int .i64 3 ∧ e'.getD n3 .undef = .int .i64 i)
theorem build_ints3 {W : World} {h : AH} {a b c : Int} : aBuildSlice (CC W) h 53 3 [(0, .int .i64 a), (1, .int .i64 b), (2, .int .i64 c)] = some (.sl (some (.new h.next 0)) 3 3 none, h.push (.cells [.int .i64 a, .int .i64 b, .int .i64 c] 3)) := by
  simp only [aBuildSlice, kind53, size3, zero3]
  rfl
theorem build_txts3 {W : World} {h : AH} {a b c : List UInt8} : aBuildSlice (CC W) h 37 3 [(0, .str a), (1, .str b), (2, .str c)] = some (.sl (some (.new h.next 0)) 3 3 none, h.push (.cells [.str a, .str b, .str c] 9)) := by
  simp only [aBuildSlice, kind37, size9, zero9]
  rfl
end Go.Proofs.YtbofhlifobjolaaGreatDoor.Ax
end

/-! replog.Encode: the walk -/
section
set_option linter.unusedVariables false
set_option linter.unusedSimpArgs false
namespace Go.Proofs.YtbofhlifobjolaaGreatDoor.Ax
open Go.RowKit

def EncJ (hs : AH) (k1 kb : Nat) (ko : Option Nat) (n1 n2 n3 : Nat) (sv : AV) (b : Nat) (m : Nat) (e' : Env) (h' : AH) : Prop :=
  e'.length = 71 ∧ ∃ (i : Nat) (ko' : Option Nat) (l : List UInt8), i + m = 3 ∧ WS h' kb ko' l ∧ WF kb ko hs ko' h' ∧ l.length ≤ b + i * 5000 ∧ (e'.getD 1 .undef = .ptr (some (.new k1 0)) ∧ e'.getD 4 .undef = .ptr (some (.new kb 0)) ∧ e'.getD n1 .undef = sv ∧ e'.getD n2 .undef = .int .i64 3 ∧ e'.getD n3 .undef = .int .i64 i)

theorem idx3 {W : World} {T E : TypeId} {ks i : Nat} (hk : (CC W).kind T = .slice E) (hs : (CC W).size E = some 1) (hi : i < 3) : aIndexAddr (CC W) T (.sl (some (.new ks 0)) 3 3 none) (.int .i64 (i : Int)) = some (.ptr (some (.new ks i))) := by
  simp only [aIndexAddr, hk, hs]
  rw [if_pos (by omega)]
  simp [AA.add]

theorem cell3 {W : World} {h : AH} {k i : Nat} {a b c : AV} {t : TypeId} (hg : h.get k = some (.cells [a, b, c] t)) (hi : i < 3) (P : AV → Prop) (pa : P a) (pb : P b) (pc : P c) : ∃ x, aCell (CC W) h (.new k i) = some x ∧ P x := by
  simp only [aCell, hg]
  have : i = 0 ∨ i = 1 ∨ i = 2 := by omega
  rcases this with rfl | rfl | rfl
  · exact ⟨_, rfl, pa⟩
  · exact ⟨_, rfl, pb⟩
  · exact ⟨_, rfl, pc⟩

set_option maxRecDepth 100000 in
set_option maxHeartbeats 16000000 in
theorem encode_ret (W : World) (h : AH) (e : Ent) :
    RetQ (CC W) 136 [.agg e.cells] h (fun w _ => ∃ s, w = .tup [.str s, .int .i64 (if rightB e = true then 0 else 4)]) := by
  refine jj9 (cc_ok W) (fn136 W) (by simp only [Tryz.f136]; rfl) rfl rfl ?_
  have hbx := box_ent (h := h) (l := e.cells)
  have hk1 := Keeps.push h (.cells e.cells 78)
  have hg1 : (h.push (.cells e.cells 78)).get h.next = some (.cells e.cells 78) := by simp
  have hn1 : h.next < (h.push (.cells e.cells 78)).next := by simp
  generalize h.push (.cells e.cells 78) = h1 at hbx hk1 hg1 hn1
  generalize hkk1 : h.next = k1 at hbx hg1 hn1
  have hld : ∀ h', h'.get k1 = some (.cells e.cells 78) → aLoad (CC W) h' 78 (.new k1 0) = some (.agg e.cells) := fun h' hg => by
    unfold aLoad
    rw [ty78]
    show (aCells (CC W) h' (.new k1 0) 9).map AV.agg = _
    simp only [aCells, hg]
    rfl
  simp [push_cast, hbx, hld h1 hg1]
  refine jf9 (by simp [fn155]) (right_ent_ret W h1 e) fun h2 hk2 => ?_
  have hg2 := (hk2.2 k1 hn1).trans hg1
  have hn2 := Nat.lt_of_lt_of_le hn1 hk2.1
  cases hr : rightB e with
  | false =>
    simp [push_cast, aUn_not']
    exact hk1.trans hk2
  | true =>
    have hpos : 0 ≤ e.view ∧ 0 ≤ e.client ∧ 0 ≤ e.req ∧ e.op.p.length ≤ 4096 ∧ e.op.t.length ≤ 4096 ∧ e.op.d.length ≤ 4096 := by
      simp only [rightB, inM, Bool.and_eq_true, decide_eq_true_eq] at hr
      omega
    obtain ⟨p1, p2, p3, p4, p5, p6⟩ := hpos
    simp [push_cast, aUn_not']
    refine je9 (by simp [fn156]) (wnew_ret W h2) fun w h3 ⟨kb, hw, hkb, hk3, hws⟩ => ?_
    subst hw
    have hg3 := (hk3.2 k1 hn2).trans hg2
    have hn3 := Nat.lt_of_lt_of_le hn2 hk3.1
    have hkb1 : k1 ≠ kb := by omega
    have hgc := hg3
    simp only [Ent.cells, Opn.cells] at hgc
    have hbs := build_ints3 (W := W) (h := h3) (a := e.view) (b := e.client) (c := e.req)
    have hk4 := Keeps.push h3 (.cells [.int .i64 e.view, .int .i64 e.client, .int .i64 e.req] 3)
    have hg4 := (hk4.2 k1 hn3).trans hg3
    have hn4 := Nat.lt_of_lt_of_le hn3 hk4.1
    have hws4 := hws.keeps hk4
    have hgs : (h3.push (.cells [.int .i64 e.view, .int .i64 e.client, .int .i64 e.req] 3)).get h3.next = some (.cells [.int .i64 e.view, .int .i64 e.client, .int .i64 e.req] 3) := by simp
    have hns : h3.next < (h3.push (.cells [.int .i64 e.view, .int .i64 e.client, .int .i64 e.req] 3)).next := by simp
    have hkbs : h3.next ≠ kb := by have := hws.1; omega
    generalize h3.push (.cells [.int .i64 e.view, .int .i64 e.client, .int .i64 e.req] 3) = h4 at hbs hk4 hg4 hn4 hws4 hgs hns
    generalize h3.next = ks at hbs hgs hns hkbs
    simp [push_cast, fa78_0, fa78_1, fa78_2, ld3, ji9 hgc, jd9, hbs, aLen, kind53]
    refine loopN (cc_ok W) (EncJ h4 k1 kb none 21 22 23 (.sl (some (.new ks 0)) 3 3 none) 0) 3 ⟨by simp, 0, none, [], rfl, hws4, WF.refl, by simp, by simp⟩ ?_
    rintro m e' h' ⟨hlen', i, ko, l, him, hw', hf', hl', hh⟩
    obtain ⟨a0, a1, a2, a3, a4, a5, a6, a7, a8, a9, rS0, rfl, hS0⟩ := un10 hlen'
    obtain ⟨a10, a11, a12, a13, a14, a15, a16, a17, a18, a19, rS10, rfl, hS10⟩ := un10 hS0
    obtain ⟨a20, a21, a22, a23, a24, a25, a26, a27, a28, a29, rS20, rfl, hS20⟩ := un10 hS10
    obtain ⟨a30, a31, a32, a33, a34, a35, a36, a37, a38, a39, rS30, rfl, hS30⟩ := un10 hS20
    obtain ⟨a40, a41, a42, a43, a44, a45, a46, a47, a48, a49, rS40, rfl, hS40⟩ := un10 hS30
    obtain ⟨a50, a51, a52, a53, a54, a55, a56, a57, a58, a59, rS50, rfl, hS50⟩ := un10 hS40
    obtain ⟨a60, a61, a62, a63, a64, a65, a66, a67, a68, a69, rS60, rfl, hS60⟩ := un10 hS50
    obtain ⟨a70, rS70, rfl, hS70⟩ := un1 hS60
    obtain rfl := un0 hS70
    clear hlen' hS0 hS10 hS20 hS30 hS40 hS50 hS60 hS70
    simp at hh
    obtain ⟨rfl, rfl, rfl, rfl, rfl⟩ := hh
    by_cases hi : i < 3
    · have hi' : (i : Int) < 3 := by omega
      have wi : IntKind.i64.wrap ((i : Int) + 1) = (i : Int) + 1 := wrap64 (by omega) (by omega)
      have hix := idx3 (W := W) (ks := ks) (kind53 W) (size3 W) hi
      have hgs' := (hf'.2.1 ks hns hkbs (by simp)).trans hgs
      obtain ⟨_, hx, x, rfl, hx0⟩ := cell3 (W := W) hgs' hi (fun u => ∃ x : Int, u = .int .i64 x ∧ 0 ≤ x) ⟨_, rfl, p1⟩ ⟨_, rfl, p2⟩ ⟨_, rfl, p3⟩
      simp [push_cast, hi, hi', hix, ld3, hx]
      refine je9 (by simp [fn157]) (wuint_ret W h' kb ko l x hw' (by omega) hx0) fun w h5 ⟨hw0, ko5, l5, hw5, hl5, hf5⟩ => ?_
      subst hw0
      simp [push_cast, wi]
      exact ⟨m - 1, by omega, by simp, i + 1, ko5, l5, by omega, hw5, hf'.trans hf5, by omega, by simp⟩
    · have hi' : ¬ (i : Int) < 3 := by omega
      have hg5 := (hf'.2.1 k1 hn4 hkb1 (by simp)).trans hg4
      have hn5 := Nat.lt_of_lt_of_le hn4 hf'.1
      have hgc := hg5
      simp only [Ent.cells, Opn.cells] at hgc
      have hbs := build_ints3 (W := W) (h := h') (a := e.op.kd) (b := e.op.at_) (c := e.op.n)
      have hk6 := Keeps.push h' (.cells [.int .i64 e.op.kd, .int .i64 e.op.at_, .int .i64 e.op.n] 3)
      have hg6 := (hk6.2 k1 hn5).trans hg5
      have hn6 := Nat.lt_of_lt_of_le hn5 hk6.1
      have hw6 := hw'.keeps hk6
      have hgs6 : (h'.push (.cells [.int .i64 e.op.kd, .int .i64 e.op.at_, .int .i64 e.op.n] 3)).get h'.next = some (.cells [.int .i64 e.op.kd, .int .i64 e.op.at_, .int .i64 e.op.n] 3) := by simp
      have hns6 : h'.next < (h'.push (.cells [.int .i64 e.op.kd, .int .i64 e.op.at_, .int .i64 e.op.n] 3)).next := by simp
      have hkbs6 : h'.next ≠ kb := by have := hw'.1; omega
      have hko6 : ko ≠ some h'.next := by
        intro e; subst e
        obtain ⟨_, _, bv, _, d⟩ := hw'
        have := d.2.1; omega
      have hko1 : ko ≠ some k1 := by
        rcases hf'.2.2 with rfl | ⟨q, rfl, hq⟩
        · simp
        · intro e; have := Option.some.inj e; omega
      have hF := hf'.trans (WF.keeps hk6)
      generalize h'.push (.cells [.int .i64 e.op.kd, .int .i64 e.op.at_, .int .i64 e.op.n] 3) = h6 at hbs hk6 hg6 hn6 hw6 hgs6 hns6 hF
      generalize h'.next = ks2 at hbs hgs6 hns6 hkbs6 hko6
      simp [push_cast, hi, hi', fa78_3, fa35_0, fa35_1, fa35_2, ld3, ji9 hgc, jd9, hbs, aLen, kind53]
      refine loopN (cc_ok W) (EncJ h6 k1 kb ko 40 41 42 (.sl (some (.new ks2 0)) 3 3 none) 15000) 3 ⟨by simp, 0, ko, l, rfl, hw6, WF.refl, by omega, by simp⟩ ?_
      rintro m2 e' h7 ⟨hlen', j, ko7, l7, hjm, hw7, hf7, hl7, hh⟩
      obtain ⟨a0, a1, a2, a3, a4, a5, a6, a7, a8, a9, rS0, rfl, hS0⟩ := un10 hlen'
      obtain ⟨a10, a11, a12, a13, a14, a15, a16, a17, a18, a19, rS10, rfl, hS10⟩ := un10 hS0
      obtain ⟨a20, a21, a22, a23, a24, a25, a26, a27, a28, a29, rS20, rfl, hS20⟩ := un10 hS10
      obtain ⟨a30, a31, a32, a33, a34, a35, a36, a37, a38, a39, rS30, rfl, hS30⟩ := un10 hS20
      obtain ⟨a40, a41, a42, a43, a44, a45, a46, a47, a48, a49, rS40, rfl, hS40⟩ := un10 hS30
      obtain ⟨a50, a51, a52, a53, a54, a55, a56, a57, a58, a59, rS50, rfl, hS50⟩ := un10 hS40
      obtain ⟨a60, a61, a62, a63, a64, a65, a66, a67, a68, a69, rS60, rfl, hS60⟩ := un10 hS50
      obtain ⟨a70, rS70, rfl, hS70⟩ := un1 hS60
      obtain rfl := un0 hS70
      clear hlen' hS0 hS10 hS20 hS30 hS40 hS50 hS60 hS70
      simp at hh
      obtain ⟨rfl, rfl, rfl, rfl, rfl⟩ := hh
      by_cases hj : j < 3
      · have hj' : (j : Int) < 3 := by omega
        have wj : IntKind.i64.wrap ((j : Int) + 1) = (j : Int) + 1 := wrap64 (by omega) (by omega)
        have hix := idx3 (W := W) (ks := ks2) (kind53 W) (size3 W) hj
        have hgs' := (hf7.2.1 ks2 hns6 hkbs6 hko6).trans hgs6
        obtain ⟨_, hx, x, rfl⟩ := cell3 (W := W) hgs' hj (fun u => ∃ x : Int, u = .int .i64 x) ⟨_, rfl⟩ ⟨_, rfl⟩ ⟨_, rfl⟩
        simp [push_cast, hj, hj', hix, ld3, hx]
        refine je9 (by simp [fn158]) (wint_ret W h7 kb ko7 l7 x hw7 (by omega)) fun w h8 ⟨hw0, ko8, l8, hw8, hl8, hf8⟩ => ?_
        subst hw0
        simp [push_cast, wj]
        exact ⟨m2 - 1, by omega, by simp, j + 1, ko8, l8, by omega, hw8, hf7.trans hf8, by omega, by simp⟩
      · have hj' : ¬ (j : Int) < 3 := by omega
        have hg8 := (hf7.2.1 k1 hn6 hkb1 hko1).trans hg6
        have hn8 := Nat.lt_of_lt_of_le hn6 hf7.1
        have hgc := hg8
        simp only [Ent.cells, Opn.cells] at hgc
        have hbs := build_txts3 (W := W) (h := h7) (a := e.op.p) (b := e.op.t) (c := e.op.d)
        have hk9 := Keeps.push h7 (.cells [.str e.op.p, .str e.op.t, .str e.op.d] 9)
        have hw9 := hw7.keeps hk9
        have hgs9 : (h7.push (.cells [.str e.op.p, .str e.op.t, .str e.op.d] 9)).get h7.next = some (.cells [.str e.op.p, .str e.op.t, .str e.op.d] 9) := by simp
        have hns9 : h7.next < (h7.push (.cells [.str e.op.p, .str e.op.t, .str e.op.d] 9)).next := by simp
        have hkbs9 : h7.next ≠ kb := by have := hw7.1; omega
        have hko9 : ko7 ≠ some h7.next := by
          intro e; subst e
          obtain ⟨_, _, bv, _, d⟩ := hw7
          have := d.2.1; omega
        have hF9 := (hF.trans hf7).trans (WF.keeps hk9)
        generalize h7.push (.cells [.str e.op.p, .str e.op.t, .str e.op.d] 9) = h9 at hbs hk9 hw9 hgs9 hns9 hF9
        generalize h7.next = ks3 at hbs hgs9 hns9 hkbs9 hko9
        simp [push_cast, hj, hj', fa78_3, fa35_3, fa35_4, fa35_5, ld9, ji9 hgc, jd9, hbs, aLen, kind37]
        refine loopN (cc_ok W) (EncJ h9 k1 kb ko7 59 60 61 (.sl (some (.new ks3 0)) 3 3 none) 30000) 3 ⟨by simp, 0, ko7, l7, rfl, hw9, WF.refl, by omega, by simp⟩ ?_
        rintro m3 e' h10 ⟨hlen', q, ko10, l10, hqm, hw10, hf10, hl10, hh⟩
        obtain ⟨a0, a1, a2, a3, a4, a5, a6, a7, a8, a9, rS0, rfl, hS0⟩ := un10 hlen'
        obtain ⟨a10, a11, a12, a13, a14, a15, a16, a17, a18, a19, rS10, rfl, hS10⟩ := un10 hS0
        obtain ⟨a20, a21, a22, a23, a24, a25, a26, a27, a28, a29, rS20, rfl, hS20⟩ := un10 hS10
        obtain ⟨a30, a31, a32, a33, a34, a35, a36, a37, a38, a39, rS30, rfl, hS30⟩ := un10 hS20
        obtain ⟨a40, a41, a42, a43, a44, a45, a46, a47, a48, a49, rS40, rfl, hS40⟩ := un10 hS30
        obtain ⟨a50, a51, a52, a53, a54, a55, a56, a57, a58, a59, rS50, rfl, hS50⟩ := un10 hS40
        obtain ⟨a60, a61, a62, a63, a64, a65, a66, a67, a68, a69, rS60, rfl, hS60⟩ := un10 hS50
        obtain ⟨a70, rS70, rfl, hS70⟩ := un1 hS60
        obtain rfl := un0 hS70
        clear hlen' hS0 hS10 hS20 hS30 hS40 hS50 hS60 hS70
        simp at hh
        obtain ⟨rfl, rfl, rfl, rfl, rfl⟩ := hh
        by_cases hq : q < 3
        · have hq' : (q : Int) < 3 := by omega
          have wq : IntKind.i64.wrap ((q : Int) + 1) = (q : Int) + 1 := wrap64 (by omega) (by omega)
          have hix := idx3 (W := W) (ks := ks3) (kind37 W) (size9 W) hq
          have hgs' := (hf10.2.1 ks3 hns9 hkbs9 hko9).trans hgs9
          obtain ⟨_, hx, x, rfl, hx0⟩ := cell3 (W := W) hgs' hq (fun u => ∃ x : List UInt8, u = .str x ∧ x.length ≤ 4096) ⟨_, rfl, p4⟩ ⟨_, rfl, p5⟩ ⟨_, rfl, p6⟩
          simp [push_cast, hq, hq', hix, ld9, hx]
          refine je9 (by simp [fn159]) (wtext_ret W h10 kb ko10 l10 x hw10 (by omega) hx0) fun w h11 ⟨hw0, ko11, l11, hw11, hl11, hf11⟩ => ?_
          subst hw0
          simp [push_cast, wq]
          exact ⟨m3 - 1, by omega, by simp, q + 1, ko11, l11, by omega, hw11, hf10.trans hf11, by omega, by simp⟩
        · have hq' : ¬ (q : Int) < 3 := by omega
          simp [push_cast, hq, hq']
          refine jh9 (by simp [fn160]) (wout_ret W h10 kb ko10 l10 hw10) ?_
          simp [push_cast]
          have hFF := hF9.trans hf10
          have hk14 := (hk1.trans hk2).trans (hk3.trans hk4)
          refine ⟨Nat.le_trans hk14.1 hFF.1, fun j hj => ?_⟩
          rw [hFF.2.1 j (Nat.lt_of_lt_of_le hj hk14.1) (by have := hk1.1; have := hk2.1; omega) (by simp)]
          exact hk14.2 j hj
end Go.Proofs.YtbofhlifobjolaaGreatDoor.Ax
end

/-! The trace's small functions, on -/
section
set_option linter.unusedVariables false
set_option linter.unusedSimpArgs false
namespace Go.Proofs.YtbofhlifobjolaaGreatDoor.Ax
open Go.RowKit

set_option maxHeartbeats 4000000 in
set_option maxRecDepth 20000 in
theorem texts_eq (W : World) (h : AH) (va vb : AV) (a b : List (List UInt8)) (ha : StrS W h va a) (hb : StrS W h vb b) (hla : a.length < 9223372036854775808) :
    RetH (CC W) 114 [va, vb] h (.bool (decide (a = b))) := by
  refine jj9 (cc_ok W) (fn114 W) (by simp only [Tryz.f114]; rfl) rfl rfl ?_
  obtain ⟨pa, ca, ga, rfl⟩ := ha.len
  obtain ⟨pb, cb, gb, rfl⟩ := hb.len
  by_cases hlen : a.length = b.length
  · have hlen' : ((a.length : Int) != (b.length : Int)) = false := by simp [hlen]
    simp [push_cast, aLen, kind37, hlen']
    refine loopN (cc_ok W) (EqI (.sl pa a.length ca ga) (.sl pb b.length cb gb) a b h) a.length ⟨rfl, by simp, 0, by simp, by simp, by simp⟩ ?_
    rintro m e' h' ⟨rfl, hl, k, hkm, htk, hh⟩
    match e', hl with
    | a0 :: a1 :: a2 :: a3 :: a4 :: a5 :: a6 :: a7 :: a8 :: a9 :: a10 :: a11 :: a12 :: a13 :: a14 :: a15 :: a16 :: a17 :: a18 :: a19 :: a20 :: a21 :: a22 :: a23 :: a24 :: a25 :: [], _ =>
      simp at hh
      obtain ⟨rfl, rfl, rfl, rfl, rfl⟩ := hh
      by_cases hlt : k < a.length
      · have hlt' : (k : Int) < (a.length : Int) := by omega
        have hx : a[k]? = some a[k] := by simp [hlt]
        obtain ⟨a', hix, hld⟩ := ha.at hx
        have hy : b[k]? = some (b[k]'(by omega)) := by simp [show k < b.length by omega]
        obtain ⟨b', hiy, hldy⟩ := hb.at hy
        have wk : IntKind.i64.wrap ((k : Int) + 1) = (k : Int) + 1 := wrap64 (by omega) (by omega)
        generalize a[k] = x at hx hld
        generalize b[k]'(by omega) = y at hy hldy
        by_cases hxy : x = y
        · subst hxy
          have hb1 : (x == x) = true := by simp
          simp [push_cast, hlt, hlt']
          refine draw1 (cc_ok W) [0, 1, 2, 3, 4, 5, 6, 7, 8] (by kernel_rfl) (by kernel_rfl) (by kernel_rfl) rfl ?_
          simp [push_cast, hix, hld, hiy, hldy, aStr, hb1, wk]
          exact ⟨m - 1, by omega, rfl, by simp, k + 1, by omega, take_next htk hx hy, by simp⟩
        · have hb1 : (x == y) = false := by rw [beq_eq_false_iff_ne]; exact hxy
          have hne : a ≠ b := by intro e; subst e; rw [hx] at hy; exact hxy (Option.some.inj hy)
          simp [push_cast, hlt, hlt']
          refine draw1 (cc_ok W) [0, 1, 2, 3, 4, 5, 6, 7, 8] (by kernel_rfl) (by kernel_rfl) (by kernel_rfl) rfl ?_
          simp [push_cast, hix, hld, hiy, hldy, aStr, hb1, hne]
      · have hlt' : ¬ (k : Int) < (a.length : Int) := by omega
        have he : a = b := by
          have h1 : a.take k = a := List.take_of_length_le (by omega)
          have h2 : b.take k = b := List.take_of_length_le (by omega)
          rw [← h1, htk, h2]
        rw [decide_eq_true he]
        simp [push_cast, hlt, hlt']
  · have hlen' : ((a.length : Int) != (b.length : Int)) = true := by rw [bne_iff_ne]; omega
    have hne : a ≠ b := by intro e; exact hlen (by rw [e])
    simp [push_cast, aLen, kind37, hlen', hne]



/-! ### answers -/
def bareB (r : Res) : Bool := r.data == [] && (r.kind == 0 && (r.links == 0 && (r.size == 0 && decide (r.names.length = 0))))
def res6V (r : Res) (nv : AV) : AV := .agg (res6 r.e r.data r.kind r.links r.size nv)
set_option maxHeartbeats 8000000 in
theorem bare_ret (W : World) (h : AH) (r : Res) (nv : AV) (hn : StrS W h nv r.names) : RetK (CC W) 139 [res6V r nv] h (.bool (bareB r)) := by
  refine jj9 (cc_ok W) (fn139 W) (by simp only [Tryz.f139]; rfl) rfl rfl ?_
  have hbx := box_resT (h := h) (l := res6 r.e r.data r.kind r.links r.size nv)
  have hk1 := Keeps.push h (.cells (res6 r.e r.data r.kind r.links r.size nv) 39)
  have hg : (h.push (.cells (res6 r.e r.data r.kind r.links r.size nv) 39)).get h.next = some (.cells (res6 r.e r.data r.kind r.links r.size nv) 39) := by simp
  generalize h.push (.cells (res6 r.e r.data r.kind r.links r.size nv) 39) = h1 at hbx hk1 hg
  generalize h.next = k at hbx hg
  obtain ⟨pa, ca, ga, rfl⟩ := hn.len
  have hla : aLen (CC W) h1 37 (.sl pa r.names.length ca ga) = some (.int .i64 r.names.length) := by simp [aLen, kind37]
  clear hn
  obtain ⟨e, data, kind, links, size, names⟩ := r
  simp only [res6] at hbx hg hla
  simp only [res6V, res6, bareB]
  generalize names.length = N at hbx hg hla
  have hN : ((N : Int) == 0) = decide (N = 0) := by
    by_cases h0 : N = 0
    · simp [h0]
    · have : ¬ (N : Int) = 0 := by omega
      simp [h0, this]
  by_cases e1 : data = []
  · subst e1
    by_cases e2 : kind = 0
    · subst e2
      by_cases e3 : links = 0
      · subst e3
        by_cases e4 : size = 0
        · subst e4
          simp [push_cast, hbx, fa39_1, fa39_2, fa39_3, fa39_4, fa39_5, ld3, ld9, ld37, ji9 hg, jd9, aStr, hla, hk1, hN]
        · have f4 : (size == 0) = false := by simpa using e4
          simp [push_cast, hbx, fa39_1, fa39_2, fa39_3, fa39_4, fa39_5, ld3, ld9, ld37, ji9 hg, jd9, aStr, hla, hk1, f4]
      · have f3 : (links == 0) = false := by simpa using e3
        simp [push_cast, hbx, fa39_1, fa39_2, fa39_3, fa39_4, fa39_5, ld3, ld9, ld37, ji9 hg, jd9, aStr, hla, hk1, f3]
    · have f2 : (kind == 0) = false := by simpa using e2
      simp [push_cast, hbx, fa39_1, fa39_2, fa39_3, fa39_4, fa39_5, ld3, ld9, ld37, ji9 hg, jd9, aStr, hla, hk1, f2]
  · have f1 : (data == []) = false := by simpa using e1
    simp [push_cast, hbx, fa39_1, fa39_2, fa39_3, fa39_4, fa39_5, ld3, ld9, ld37, ji9 hg, jd9, aStr, hla, hk1, f1]

/-! ### a number among others -/
def IxI (v : AV) (x : Int) (h : AH) (l : List Int) (m : Nat) (e' : Env) (h' : AH) : Prop :=
  h' = h ∧ e'.length = 19 ∧ ∃ k : Nat, k + m = l.length ∧ (∀ y ∈ l.take k, y ≠ x) ∧ (e'.getD 0 .undef = v ∧ e'.getD 1 .undef = .int .i64 x ∧ e'.getD 7 .undef = .int .i64 l.length ∧ e'.getD 8 .undef = .int .i64 k)
set_option maxHeartbeats 4000000 in
set_option maxRecDepth 20000 in
theorem indexI_ret (W : World) (h : AH) (v : AV) (l : List Int) (x : Int) (hv : IntS h v l) (hl : l.length < 1000000000) :
    ACall (CC W) 161 [v, .int .i64 x] h (fun w h' => h' = h ∧ ∃ n : Int, w = .int .i64 n ∧ (0 ≤ n ↔ x ∈ l)) (fun _ _ => False) := by
  refine jj9 (cc_ok W) (fn161 W) (by simp only [Tryz.f161]; rfl) rfl rfl ?_
  have hln := hv.len (W := W)
  simp [push_cast, hln]
  refine loopN (cc_ok W) (IxI v x h l) l.length ⟨rfl, by simp, 0, by simp, by simp, by simp⟩ ?_
  rintro m e' h' ⟨rfl, hlen', k, hkm, hno, hh⟩
  match e', hlen' with
  | a0 :: a1 :: a2 :: a3 :: a4 :: a5 :: a6 :: a7 :: a8 :: a9 :: a10 :: a11 :: a12 :: a13 :: a14 :: a15 :: a16 :: a17 :: a18 :: [], _ =>
    simp at hh
    obtain ⟨rfl, rfl, rfl, rfl⟩ := hh
    by_cases hlt : k < l.length
    · have hlt' : (k : Int) < (l.length : Int) := by omega
      have wk : IntKind.i64.wrap ((k : Int) + 1) = (k : Int) + 1 := wrap64 (by omega) (by omega)
      have hy : l[k]? = some l[k] := by simp [hlt]
      generalize l[k] = y at hy
      obtain ⟨a', hix, hld⟩ := hv.at (W := W) hy
      have hld := hld h' (Keeps.refl _)
      by_cases hxy : x = y
      · subst hxy
        simp [push_cast, hlt, hlt', hix, hld]
        exact List.mem_of_getElem? hy
      · have hb : (x == y) = false := by rw [beq_eq_false_iff_ne]; exact hxy
        simp [push_cast, hlt, hlt', hix, hld, hb, wk]
        refine ⟨m - 1, by omega, rfl, by simp, k + 1, by omega, fun z hz => ?_, by simp⟩
        rw [List.take_add_one, hy, List.mem_append] at hz
        rcases hz with hz | hz
        · exact hno z hz
        · simp at hz; subst hz; exact fun e => hxy e.symm
    · have hlt' : ¬ (k : Int) < (l.length : Int) := by omega
      have htk : l.take k = l := List.take_of_length_le (by omega)
      rw [htk] at hno
      have hnm : x ∉ l := fun hm => hno x hm rfl
      simp [push_cast, hlt, hlt']
      exact hnm
set_option maxHeartbeats 4000000 in
theorem contains_ret (W : World) (h : AH) (v : AV) (l : List Int) (x : Int) (hv : IntS h v l) (hl : l.length < 1000000000) :
    RetH (CC W) 138 [v, .int .i64 x] h (.bool (decide (x ∈ l))) := by
  refine jj9 (cc_ok W) (fn138 W) (by simp only [Tryz.f138]; rfl) rfl rfl ?_
  simp [push_cast]
  refine je9 (by simp [fn161]) (indexI_ret W h v l x hv hl) fun w h1 ⟨hh, n, hw, hn⟩ => ?_
  subst hw; subst hh
  by_cases hx : x ∈ l
  · have := hn.2 hx
    simp [push_cast, this, hx]
  · have : ¬ 0 ≤ n := fun h => hx (hn.1 h)
    simp [push_cast, this, hx]

/-! ### shapes -/
theorem alloc_reg2 {W : World} {h : AH} : aAlloc (CC W) h 82 = some (.ptr (some (.new h.next 0)), h.push (.cells reg0 82)) := rfl
theorem st_regs {W : World} {h : AH} {k : Nat} {a b c d e : AV} {x y z u v : Int} {t : TypeId} (hg : h.get k = some (.cells [a, b, c, d, e] t)) : aStoreOp (CC W) h 82 (.ptr (some (.new k 0))) (.agg [.int .i64 x, .int .i64 y, .int .i64 z, .int .i64 u, .int .i64 v]) = some (h.set k (.cells [.int .i64 x, .int .i64 y, .int .i64 z, .int .i64 u, .int .i64 v] t)) := by
  simp only [aStoreOp, aCellsOf, size82, aStore, hg]
  rfl
set_option maxHeartbeats 4000000 in
theorem scheck_ret (W : World) (h : AH) (b j n : Int) : RetK (CC W) 61 [.agg [.int .i64 b, .int .i64 j, .int .i64 n]] h (.int .i64 (match shapeR b j n with | some _ => 0 | none => 60)) := by
  refine jj9 (cc_ok W) (fn61 W) (by simp only [Tryz.f61]; rfl) rfl rfl ?_
  have hbx := box_shape (h := h) (l := [.int .i64 b, .int .i64 j, .int .i64 n])
  have hk1 := Keeps.push h (.cells [.int .i64 b, .int .i64 j, .int .i64 n] 23)
  have hgb : (h.push (.cells [.int .i64 b, .int .i64 j, .int .i64 n] 23)).get h.next = some (.cells [.int .i64 b, .int .i64 j, .int .i64 n] 23) := by simp
  generalize h.push (.cells [.int .i64 b, .int .i64 j, .int .i64 n] 23) = h1 at hbx hk1 hgb
  generalize h.next = kb at hbx hgb
  simp [push_cast, hbx, ld_shape hgb]
  refine jf9 (by simp [fn34]) (of_ret W h1 b j n) fun h2 hk2 => ?_
  obtain ⟨hp, kq, hal, hst⟩ : ∃ hp kq, aAlloc (CC W) h2 82 = some (.ptr (some (.new kq 0)), hp) ∧ ∀ x y z u v : Int, ∃ h5, aStoreOp (CC W) hp 82 (.ptr (some (.new kq 0))) (.agg [.int .i64 x, .int .i64 y, .int .i64 z, .int .i64 u, .int .i64 v]) = some h5 ∧ Keeps h h5 := by
    refine ⟨_, _, alloc_reg2, fun x y z u v => ⟨_, st_regs (a := .int .i64 0) (b := .int .i64 0) (c := .int .i64 0) (d := .int .i64 0) (e := .int .i64 0) (t := 82) (by simp; rfl), (hk1.trans hk2).trans ((Keeps.push _ _).set (Nat.le_refl _) _)⟩⟩
  cases hs : shapeR b j n with
  | none =>
    obtain ⟨h5, e1, e2⟩ := hst 0 0 0 0 0
    simp [push_cast, ofV', hs, reg0, hal, e1, e2]
  | some c =>
    obtain ⟨h5, e1, e2⟩ := hst 1 (1 + j) (2 + j) (dataR b j n) c
    simp [push_cast, ofV', hs, regV, hal, e1, e2]
end Go.Proofs.YtbofhlifobjolaaGreatDoor.Ax
end
