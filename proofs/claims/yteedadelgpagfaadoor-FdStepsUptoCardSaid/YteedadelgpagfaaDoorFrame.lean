/- What a law's claim needs behind its walk: arguments that are texts and lists of texts; a call that changes nothing that was there. -/
import Derived.Test.YteedadelgpagfaaDoorCards
import Derived.Test.YteedadelgpagfaaDoorTie
import Derived.Test.YteedadelgpagfaaDoorSl
import Derived.WalkKit
import Derived.ProofKit
import Derived.OpenShut
import Derived.SliceStrings
import Derived.Carry
import Derived.Lay
import Derived.SizedLaws
import Derived.Deep.DeepHandedRow
set_option linter.unusedVariables false
set_option linter.unusedSimpArgs false
namespace Go.Proofs.YteedadelgpagfaaDoor.Ax
open Go.ChangeShapes Go.WideShapes Go.ChangeAt Go.RowKit

theorem own : ownKnob Tryd.prog.godebug = none := by kernel_rfl
theorem laidOut : laidOutB Tryd.prog = true := by kernel_rfl
theorem cells9 : Tryd.prog.cellsOf 9 = 1 := by kernel_rfl

/-- An argument that is a text. -/
theorem text_arg {H : Type} {enc : TypeId × Value → H} {W : World} {base : Nat} {v : Value} {d : DataW H} {ps : List MemPlace} (hval : Value.okWide Tryd.prog W .any base 9 v) (h : DataW.Trod enc Tryd.prog W 0 (fun _ => true) true 9 v d ps) :
    ∃ s : ByteArray, v = .string s ∧ d = .lit (.string s.data.toList) := by
  obtain ⟨s, h1, h2, _, _⟩ := Go.ChangeMaps.open_string Tryd.underlying9 hval h
  exact ⟨s, h1, h2⟩

/-- An argument that is a number. -/
theorem int_arg {H : Type} {enc : TypeId × Value → H} {W : World} {base : Nat} {v : Value} {d : DataW H} {ps : List MemPlace} (hval : Value.okWide Tryd.prog W .any base 3 v) (h : DataW.Trod enc Tryd.prog W 0 (fun _ => true) true 3 v d ps) :
    ∃ n : Int, v = .int .i64 n ∧ d = .lit (.int .i64 n) := by
  obtain ⟨n, h1, h2, _, _⟩ := open_int Tryd.underlying3 hval h
  exact ⟨n, h1, h2⟩

/-- An argument that is a list of texts. -/
theorem texts_arg {H : Type} {enc : TypeId × Value → H} {W : World} {base : Nat} {v : Value} {d : DataW H} {ps : List MemPlace} (hval : Value.okWide Tryd.prog W .any base 31 v) (h : DataW.Trod enc Tryd.prog W 0 (fun _ => true) true 31 v d ps) :
    ∃ (av : AV) (l : List (List UInt8)), VRel [] av v ∧ StrS W AH.empty av l ∧ (∀ x ∈ l, x.length < 9223372036854775808) ∧ l.length < 9223372036854775808 ∧
      (d = .nil ∧ l = [] ∨ ∃ (ss : List ByteArray) (n : Nat), d = .slice (strs (ss.take n)) (strs (ss.drop n)) ∧ l = (ss.take n).map (·.data.toList)) := by
  obtain ⟨a0, len, cap, rfl⟩ := okWide_slice Tryd.underlying31 hval
  obtain ⟨fuel, hf⟩ := h
  rcases open_strings Tryd.underlying31 Tryd.underlying9 cells9 hf with ⟨hcs, hx⟩ | ⟨a, len', cap', ss, hcs, _, hl, hm, hz, hx, hcell, hws⟩
  · simp [Value.cells] at hcs
    obtain ⟨rfl, rfl, rfl⟩ := hcs
    simp only [Prod.mk.injEq] at hx
    exact ⟨.sl none 0 0 none, [], by simp [VRel], StrS.nil, by simp, by decide, .inl ⟨hx.1, rfl⟩⟩
  · simp [Value.cells] at hcs
    obtain ⟨rfl, rfl, rfl⟩ := hcs
    simp only [Prod.mk.injEq] at hx
    simp only [if_true] at hz
    have hml : maxLen = 9223372036854775807 := rfl
    have hsp : a.spot = none := by
      simp only [Value.okWide, Tryd.underlying31, Cell.okWide, Cell.ok, World.has] at hval
      exact hval.2.2.2.1
    obtain ⟨b, o, sp⟩ := a
    simp only at hsp
    subst hsp
    have hlen : (ss.take len).length = len := by simp; omega
    have hll : ((ss.take len).map (·.data.toList)).length = len := by simpa using hlen
    refine ⟨.sl (some (.base b o)) len cap none, (ss.take len).map (·.data.toList), by simp [VRel], ⟨some (.base b o), cap, none, by rw [hll], ⟨by omega, .inl rfl⟩, fun k x hx => ⟨_, rfl, trivial, ?_⟩⟩, fun x hx => ?_, by omega, .inr ⟨ss, len, hx.1, rfl⟩⟩
    · rw [List.getElem?_map, Option.map_eq_some_iff] at hx
      obtain ⟨y, hy, rfl⟩ := hx
      rw [List.getElem?_take] at hy
      split at hy
      · have hk : k < ss.length := (List.getElem?_eq_some_iff.1 hy).1
        have hc := hcell k hk
        rw [add_addr] at hc
        have hg : ss.getD k ByteArray.empty = y := by simp [List.getD, hy]
        rw [hg] at hc
        simp only [AA.add, aCell]
        show (W.cell? ⟨b, o + k, none⟩).map ofV = _
        rw [hc]; rfl
      · simp at hy
    · obtain ⟨y, hy, rfl⟩ := List.mem_map.1 hx
      have := hws y (List.mem_of_mem_take hy)
      have e : y.size = y.data.toList.length := Array.length_toList.symm
      omega

/-- The end: one true result, all as it was. -/
theorem post_true {H : Type} {enc : TypeId × Value → H} {f : Func} {s : ChangeSpec} {W W' : World} {args : Array Value} {ds : List (DataW H)} {p : List MemPlace}
    (hW : DataW.Whole enc Tryd.prog f.params.toList s.vars false W args.toList ds [] p) (hv : s.vars = []) (hr : f.resultTypes = #[4])
    (hA : DataW.TrodAll enc Tryd.prog W 0 (fun _ => true) true f.params.toList args.toList ds p)
    (hread : ∀ t ∈ f.params.toList, Tryd.prog.readableRec t = true ∧ t < Tryd.prog.types.size)
    (hfn : s.fn H (ds ++ []) = { results := [.lit (.bool true)], args := ds })
    (hb : Below W.heap.size W W') : s.post enc Tryd.prog f false true false false W args (.bool true) W' := by
  have hlt : ∀ x ∈ p, x.block < W.heap.size := fun x hx => by simpa using hW.lt x hx
  have hargs : ∀ (ts : List TypeId) (vs : List Value) (ds : List (DataW H)) (p : List MemPlace), (∀ t ∈ ts, Tryd.prog.readableRec t = true ∧ t < Tryd.prog.types.size) → (∀ x ∈ p, x.block < W.heap.size) →
      DataW.TrodAll enc Tryd.prog W 0 (fun _ => true) true ts vs ds p → DataW.TrodAll enc Tryd.prog W' 0 (fun b => decide (b < W.heap.size)) true ts vs ds p := by
    intro ts
    induction ts with
    | nil => intro vs ds p _ _ h; obtain ⟨rfl, rfl, rfl⟩ := trodAll_nil h; simp [DataW.TrodAll]
    | cons t ts ih =>
      intro vs ds p hr hl h
      obtain ⟨v, vs', d, ds', p1, q1, rfl, rfl, rfl, h1, h2⟩ := trodAll_cons h
      obtain ⟨r1, r2⟩ := hr t (by simp)
      exact trodAll_cons_mk (Below.trod laidOut r1 r2 h1 hb fun x hx => hl x (by simp [hx])) (ih vs' ds' q1 (fun t ht => hr t (by simp [ht])) (fun x hx => hl x (by simp [hx])) h2)
  refine ⟨_, _, _, [] ++ [], p, [], hW, ?_, ?_, ?_, hb.frame _, fun h => by cases h⟩
  · rw [hfn, hr]; exact trodAll_mk1 (shut_bool Tryd.underlying4 true)
  · rw [hfn]; exact hargs _ _ _ _ hread hlt hA
  · rw [hv, hfn]; rfl

theorem bulk_text {H : Type} (s : ByteArray) : Rows.uptoBulk (DataW.lit (H := H) (.string s.data.toList)) = s.data.toList.length + 1 := by
  simp [Rows.uptoBulk]

theorem bulk_one {H : Type} (d : DataW H) : 1 ≤ Rows.uptoBulk d := by
  cases d with
  | lit l => cases l <;> simp [Rows.uptoBulk]
  | nil => simp [Rows.uptoBulk]
  | ptr d => simp [Rows.uptoBulk]
  | slice elems spare => simp [Rows.uptoBulk]
  | agg parts => simp [Rows.uptoBulk]
  | iface t d => simp [Rows.uptoBulk]
  | map entries => simp [Rows.uptoBulk]
  | held h => simp [Rows.uptoBulk]

theorem bulk_length {H : Type} (l : List (DataW H)) : l.length ≤ Rows.uptoBulkAll l := by
  induction l with
  | nil => simp [Rows.uptoBulkAll]
  | cons x r ih => have := bulk_one x; simp only [Rows.uptoBulkAll, List.length_cons]; omega

theorem bulk_texts {H : Type} {d : DataW H} {l : List (List UInt8)} (h : d = .nil ∧ l = [] ∨ ∃ (ss : List ByteArray) (n : Nat), d = .slice (strs (ss.take n)) (strs (ss.drop n)) ∧ l = (ss.take n).map (·.data.toList)) : l.length ≤ Rows.uptoBulk d := by
  rcases h with ⟨rfl, rfl⟩ | ⟨ss, n, rfl, rfl⟩
  · simp
  · have h1 := bulk_length (H := H) (strs (ss.take n))
    have h2 : (strs (H := H) (ss.take n)).length = (ss.take n).length := by simp [strs]
    have h3 : ((ss.take n).map (·.data.toList)).length = (ss.take n).length := by simp
    rw [h3]
    simp only [Rows.uptoBulk]
    omega

theorem bytes9 : Tryd.prog.bytesOf 9 = 16 := by kernel_rfl
theorem texts_room {H : Type} {ts : List TypeId} {ds : List (DataW H)} {d : DataW H} {l : List (List UInt8)} (hsz : (DataW.weightsEach Tryd.prog ts ds).all (· ≤ reachBytes) = true) {j : Nat} (ht : ts[j]? = some 31) (hd : ds[j]? = some d)
    (h : d = .nil ∧ l = [] ∨ ∃ (ss : List ByteArray) (n : Nat), d = .slice (strs (ss.take n)) (strs (ss.drop n)) ∧ l = (ss.take n).map (·.data.toList)) : l.length < 8796093022207 := by
  rcases h with ⟨rfl, rfl⟩ | ⟨ss, n, rfl, rfl⟩
  · simp
  · have := sized_slice hsz ht hd Tryd.underlying31
    rw [bytes9] at this
    simp only [strs, List.length_map, List.length_take, List.length_drop, reachBytes] at this
    simp only [List.length_map, List.length_take]
    omega
end Go.Proofs.YteedadelgpagfaaDoor.Ax
