/- The texts Sl, MapIt, EnvS, Ints, FrameP, FrB, as one. -/
import Derived.Test.YtgcoipcnhmkeaaaGc
import Derived.Test.YtgcoipcnhmkeaaaGe
import Derived.Test.YtgcoipcnhmkeaaaGd
import Derived.Test.YtgcoipcnhmkeaaaGbb
import Derived.KernelRfl
import Derived.Test.YtgcoipcnhmkeaaaRows
import Derived.WalkKit
import Derived.ProofKit
import Derived.OpenShut
import Derived.SliceStrings
import Derived.Carry
import Derived.Lay
import Derived.SizedLaws
import Derived.Deep.DeepHandedRow

/-! Slices of texts in memory -/
section
set_option linter.unusedVariables false
set_option linter.unusedSimpArgs false
namespace Go.Proofs.Ytgcoipcnhmkeaaa.Ax
open Go.RowKit


theorem aBound_nat {n d y : Nat} (h : n ≤ y) : aBound (some (.int .i64 (n : Int))) d y = some n := by
  simp only [aBound]
  rw [if_pos (by omega)]
  simp
theorem aBound_none {d y : Nat} : aBound none d y = some d := rfl
theorem aBounds_hi {len cap n : Nat} (h : n ≤ cap) : aBounds len cap none (some (.int .i64 (n : Int))) none = some (0, n, cap) := by
  unfold aBounds
  simp only [aBound_none, aBound_nat h]
theorem aBounds_lo {len cap n : Nat} (h : n ≤ len) : aBounds len cap (some (.int .i64 (n : Int))) none none = some (n, len, cap) := by
  unfold aBounds
  simp only [aBound_none, aBound_nat h]
theorem aBounds_lohi {len cap n m : Nat} (h : n ≤ m) (hm : m ≤ cap) : aBounds len cap (some (.int .i64 (n : Int))) (some (.int .i64 (m : Int))) none = some (n, m, cap) := by
  unfold aBounds
  simp only [aBound_none, aBound_nat h, aBound_nat hm]

theorem slice_hi {W : World} {r : List UInt8} {q : Nat} (h : q ≤ r.length) : aSlice (CC W) 9 (.str r) none (some (.int .i64 (q : Int))) none = some (.str (r.take q)) := by
  simp only [aSlice, kind9, aBounds_hi h, Option.map, List.drop_zero]
theorem slice_lo {W : World} {r : List UInt8} {q : Nat} (h : q ≤ r.length) : aSlice (CC W) 9 (.str r) (some (.int .i64 (q : Int))) none none = some (.str (r.drop q)) := by
  simp only [aSlice, kind9, aBounds_lo h, Option.map, List.take_length]
theorem slice_lohi {W : World} {r : List UInt8} {q m : Nat} (h : q ≤ m) (hm : m ≤ r.length) : aSlice (CC W) 9 (.str r) (some (.int .i64 (q : Int))) (some (.int .i64 (m : Int))) none = some (.str ((r.take m).drop q)) := by
  simp only [aSlice, kind9, aBounds_lohi h hm, Option.map]














/-- A call that changes no memory, in a state. -/
def RetH (C : Cx) (f : FuncId) (args : List AV) (h : AH) (v : AV) : Prop := ACall C f args h (fun w h' => w = v ∧ h' = h) (fun _ _ => False)
theorem jh9 {C : Cx} {Q : Post} {ks : List Fr} {e : Env} {h : AH} {ops : Array Oper} {rest : List Oper} {dst : Option Tmp} {f : FuncId} {args : List AV} {v : AV} (hf : (C.fn f).isSome = true) (hc : RetH C f args h v)
    (hk : Rg C Q ops rest ks (za9 e dst v) h) : CallK C Q ops rest ks e dst f args h :=
  je9 hf hc fun w h' hw => by rw [hw.1, hw.2]; exact hk






/-- Texts that were appended one by one, behind a state. -/
def OwnS (h0 h : AH) (v : AV) (l : List (List UInt8)) : Prop :=
  Keeps h0 h ∧ (l = [] ∧ v = .sl none 0 0 none ∨ ∃ k, h0.next ≤ k ∧ k < h.next ∧ h.get k = some (.cells (l.map .str) 9) ∧ v = .sl (some (.new k 0)) l.length l.length (some 1))

theorem OwnS.start (h : AH) : OwnS h h (.sl none 0 0 none) [] := ⟨Keeps.refl _, .inl ⟨rfl, rfl⟩⟩



theorem AH.get_kill' (h : AH) (k m : Nat) : (h.kill k).get m = if m = k then none else h.get m := by simp [AH.get, AH.kill, Tr.get_set]
theorem AH.next_kill' (h : AH) (k : Nat) : (h.kill k).next = h.next := rfl

theorem build_str {W : World} {h : AH} {x : List UInt8} : aBuildSlice (CC W) h 24 1 [(0, .str x)] = some (.sl (some (.new h.next 0)) 1 1 none, h.push (.cells [.str x] 9)) := by
  simp only [aBuildSlice, kind24, size9, zero9]
  rfl

theorem append_str {W : World} {h0 h : AH} {v : AV} {l : List (List UInt8)} {x : List UInt8} (ho : OwnS h0 h v l) (hl : l.length < 8796093022207) :
    ∃ v' h', aAppend (CC W) (h.push (.cells [.str x] 9)) #[24, 24] v (.sl (some (.new h.next 0)) 1 1 none) = some (v', h') ∧ OwnS h0 h' v' (l ++ [x]) := by
  obtain ⟨hk, ho⟩ := ho
  have hb : (CC W).bytes 9 = 16 := _root_.id rfl
  have hni : niOK (CC W) #[24, 24] = true := _root_.id rfl
  have hnews : aNews (CC W) (h.push (.cells [.str x] 9)) 1 (.sl (some (.new h.next 0)) 1 1 none) = some (1, [.str x]) := by
    simp [aNews, aCells]
  rcases ho with ⟨rfl, rfl⟩ | ⟨k, h1, h2, h3, rfl⟩
  · refine ⟨.sl (some (.new (h.next + 1) 0)) 1 1 (some 1), (h.push (.cells [.str x] 9)).push (.cells [.str x] 9), ?_, (hk.trans (Keeps.push _ _)).trans (Keeps.push _ _), .inr ⟨h.next + 1, by have := hk.1; omega, by simp, by simp, by simp⟩⟩
    simp [aAppend, kind24, size9, zero9, hb, hni, hnews]
  · have hne : k ≠ h.next := by omega
    refine ⟨.sl (some (.new (h.next + 1) 0)) (l.length + 1) (l.length + 1) (some 1), ((h.push (.cells [.str x] 9)).kill k).push (.cells (l.map .str ++ [.str x]) 9), ?_, ⟨?_, fun j hj => ?_⟩, .inr ⟨h.next + 1, by have := hk.1; omega, by simp [AH.next_kill'], by simp [AH.next_kill'], by simp⟩⟩
    · simp [aAppend, kind24, size9, zero9, hb, hni, hnews, hne, h3, AH.next_kill', aOne]
      rw [if_neg (by omega), if_pos (by omega)]
    · simp [AH.next_kill']; have := hk.1; omega
    · have := hk.1
      rw [AH.get_push, AH.next_kill', if_neg (by simp; omega), AH.get_kill', if_neg (by omega), AH.get_push, if_neg (by omega)]
      exact hk.2 j hj


end Go.Proofs.Ytgcoipcnhmkeaaa.Ax
end

/-! A range over a map: the next entry, any of them; a map with int keys -/
section
set_option linter.unusedVariables false
set_option linter.unusedSimpArgs false
namespace Go.Proofs.Ytgcoipcnhmkeaaa.Ax
open Go.RowKit





theorem eq_int' {W : World} {a b : Int} : aEqIn (CC W) 100 3 (.int .i64 a) (.int .i64 b) = some (a == b) := rfl

/-- The place of a key. -/
theorem find_at {W : World} {k : Int} : ∀ {l1 l2 : List AEnt} {e : AEnt} {i : Nat}, (∀ x ∈ l1, ∃ n, x.key = .int .i64 n ∧ n ≠ k) → e.key = .int .i64 k → aFind (CC W) 3 (.int .i64 k) (l1 ++ e :: l2) i = some (some (i + l1.length, e.val))
  | [], l2, e, i, _, he => by
    simp only [List.nil_append, aFind, he, eq_int', BEq.rfl, List.length_nil, Nat.add_zero]
  | x :: l1, l2, e, i, h, he => by
    obtain ⟨n, hn, hne⟩ := h x (by simp)
    have hb : (k == n) = false := by simpa using fun h => hne h.symm
    have ih := find_at (W := W) (l1 := l1) (l2 := l2) (i := i + 1) (fun y hy => h y (by simp [hy])) he
    simp only [List.cons_append, aFind, hn, eq_int', hb, ih, List.length_cons]
    congr 3
    omega
theorem find_none {W : World} {k : Int} : ∀ {l : List AEnt} {i : Nat}, (∀ x ∈ l, ∃ n, x.key = .int .i64 n ∧ n ≠ k) → aFind (CC W) 3 (.int .i64 k) l i = some none
  | [], _, _ => rfl
  | x :: l, i, h => by
    obtain ⟨n, hn, hne⟩ := h x (by simp)
    have hb : (k == n) = false := by simpa using fun h => hne h.symm
    have ih := find_none (W := W) (l := l) (i := i + 1) (fun y hy => h y (by simp [hy]))
    simp only [aFind, hn, eq_int', hb, ih]

theorem map_upd {W : World} {h : AH} {km clock : Nat} {l1 l2 : List AEnt} {e : AEnt} {k : Int} {x : AV} (hM : h.get km = some (.map (l1 ++ e :: l2) clock)) (hl : ∀ x ∈ l1, ∃ n, x.key = .int .i64 n ∧ n ≠ k) (he : e.key = .int .i64 k) :
    aMapSet (CC W) h 83 (.map (some km)) (.int .i64 k) x = some (h.set km (.map (l1 ++ { e with val := x } :: l2) clock)) := by
  have hkd : (CC W).kind 83 = .map 3 9 := rfl
  have hkey : aKey (CC W) 100 3 (.int .i64 k) = true := rfl
  have hf := find_at (W := W) (l2 := l2) (i := 0) hl he
  have h1 : (l1 ++ e :: l2)[0 + l1.length]? = some e := by simp
  have hs : aSame e.key (.int .i64 k) = true := by rw [he]; simp [aSame]
  simp only [aMapSet, hkd, hM, hkey, if_true, hf, h1, hs]
  simp
theorem map_new {W : World} {h : AH} {km clock : Nat} {l : List AEnt} {k : Int} {x : AV} (hM : h.get km = some (.map l clock)) (hl : ∀ x ∈ l, ∃ n, x.key = .int .i64 n ∧ n ≠ k) :
    aMapSet (CC W) h 83 (.map (some km)) (.int .i64 k) x = some (h.set km (.map (l ++ [⟨.int .i64 k, x, clock⟩]) (clock + 1))) := by
  have hkd : (CC W).kind 83 = .map 3 9 := rfl
  have hkey : aKey (CC W) 100 3 (.int .i64 k) = true := rfl
  have hf := find_none (W := W) (i := 0) hl
  simp only [aMapSet, hkd, hM, hkey, if_true, hf]
end Go.Proofs.Ytgcoipcnhmkeaaa.Ax
end

/-! An environment, taken apart -/
section
set_option linter.unusedVariables false
set_option linter.unusedSimpArgs false
namespace Go.Proofs.Ytgcoipcnhmkeaaa.Ax
open Go.RowKit

theorem un1 {n : Nat} {l : List AV} (h : l.length = n + 1) : ∃ a r, l = a :: r ∧ r.length = n := by
  cases l with
  | nil => cases h
  | cons a r => exact ⟨a, r, rfl, by simpa using h⟩
theorem un10 {n : Nat} {l : List AV} (h : l.length = n + 10) : ∃ a0 a1 a2 a3 a4 a5 a6 a7 a8 a9 r, l = a0 :: a1 :: a2 :: a3 :: a4 :: a5 :: a6 :: a7 :: a8 :: a9 :: r ∧ r.length = n := by
  obtain ⟨a0, r0, rfl, h0⟩ := un1 h
  obtain ⟨a1, r1, rfl, h1⟩ := un1 h0
  obtain ⟨a2, r2, rfl, h2⟩ := un1 h1
  obtain ⟨a3, r3, rfl, h3⟩ := un1 h2
  obtain ⟨a4, r4, rfl, h4⟩ := un1 h3
  obtain ⟨a5, r5, rfl, h5⟩ := un1 h4
  obtain ⟨a6, r6, rfl, h6⟩ := un1 h5
  obtain ⟨a7, r7, rfl, h7⟩ := un1 h6
  obtain ⟨a8, r8, rfl, h8⟩ := un1 h7
  obtain ⟨a9, r9, rfl, h9⟩ := un1 h8
  exact ⟨a0, a1, a2, a3, a4, a5, a6, a7, a8, a9, r9, rfl, h9⟩
theorem un0 {l : List AV} (h : l.length = 0) : l = [] := List.length_eq_zero_iff.1 h
end Go.Proofs.Ytgcoipcnhmkeaaa.Ax
end

/-! Slices of ints in own blocks -/
section
set_option linter.unusedVariables false
set_option linter.unusedSimpArgs false
namespace Go.Proofs.Ytgcoipcnhmkeaaa.Ax
open Go.RowKit

def ints (l : List Int) : List AV := l.map (AV.int .i64)





end Go.Proofs.Ytgcoipcnhmkeaaa.Ax
end

/-! What a law's claim needs behind its walk: arguments that are texts and numbers; a call that changes nothing that was there -/
section
set_option linter.unusedVariables false
set_option linter.unusedSimpArgs false
namespace Go.Proofs.Ytgcoipcnhmkeaaa.Ax
open Go.ChangeShapes Go.WideShapes Go.ChangeAt Go.RowKit
set_option maxRecDepth 100000

theorem own : ownKnob Try.prog.godebug = none := by kernel_rfl
theorem laidOut : laidOutB Try.prog = true := by kernel_rfl



/-- The end: one true result, all as it was. -/
theorem post_true {H : Type} {enc : TypeId × Value → H} {f : Func} {s : ChangeSpec} {W W' : World} {args : Array Value} {ds : List (DataW H)} {p : List MemPlace}
    (hW : DataW.Whole enc Try.prog f.params.toList s.vars false W args.toList ds [] p) (hv : s.vars = []) (hr : f.resultTypes = #[4])
    (hA : DataW.TrodAll enc Try.prog W 0 (fun _ => true) true f.params.toList args.toList ds p)
    (hread : ∀ t ∈ f.params.toList, Try.prog.readableRec t = true ∧ t < Try.prog.types.size)
    (hfn : s.fn H (ds ++ []) = { results := [.lit (.bool true)], args := ds })
    (hb : Below W.heap.size W W') : s.post enc Try.prog f false true false false W args (.bool true) W' := by
  have hlt : ∀ x ∈ p, x.block < W.heap.size := fun x hx => by simpa using hW.lt x hx
  have hargs : ∀ (ts : List TypeId) (vs : List Value) (ds : List (DataW H)) (p : List MemPlace), (∀ t ∈ ts, Try.prog.readableRec t = true ∧ t < Try.prog.types.size) → (∀ x ∈ p, x.block < W.heap.size) →
      DataW.TrodAll enc Try.prog W 0 (fun _ => true) true ts vs ds p → DataW.TrodAll enc Try.prog W' 0 (fun b => decide (b < W.heap.size)) true ts vs ds p := by
    intro ts
    induction ts with
    | nil => intro vs ds p _ _ h; obtain ⟨rfl, rfl, rfl⟩ := trodAll_nil h; simp [DataW.TrodAll]
    | cons t ts ih =>
      intro vs ds p hr hl h
      obtain ⟨v, vs', d, ds', p1, q1, rfl, rfl, rfl, h1, h2⟩ := trodAll_cons h
      obtain ⟨r1, r2⟩ := hr t (by simp)
      exact trodAll_cons_mk (Below.trod laidOut r1 r2 h1 hb fun x hx => hl x (by simp [hx])) (ih vs' ds' q1 (fun t ht => hr t (by simp [ht])) (fun x hx => hl x (by simp [hx])) h2)
  refine ⟨_, _, _, [] ++ [], p, [], hW, ?_, ?_, ?_, hb.frame _, fun h => by cases h⟩
  · rw [hfn, hr]; exact trodAll_mk1 (shut_bool Try.underlying4 true)
  · rw [hfn]; exact hargs _ _ _ _ hread hlt hA
  · rw [hv, hfn]; rfl




end Go.Proofs.Ytgcoipcnhmkeaaa.Ax
end

/-! A trace in memory that was there: what an argument holds -/
section
set_option linter.unusedVariables false
set_option linter.unusedSimpArgs false
namespace Go.Proofs.Ytgcoipcnhmkeaaa.Ax
open Go.ChangeShapes Go.WideShapes Go.ChangeAt Go.RowKit
set_option maxRecDepth 100000

theorem cells_3 : Try.prog.cellsOf 3 = 1 := by kernel_rfl

/-- A slice whose elements are told, at a state and at all that keep it. -/
def BSl {α : Type} (W : World) (h0 : AH) (E : TypeId) (sz : Nat) (P : AH → α → AV → Prop) (v : AV) (l : List α) : Prop :=
  l = [] ∧ v = .sl none 0 0 none ∨ ∃ a c, l.length ≤ c ∧ v = .sl (some a) l.length c none ∧ ∀ (i : Nat) x, l[i]? = some x → ∃ u, P h0 x u ∧ ∀ h, Keeps h0 h → aLoad (CC W) h E (a.add (i * sz)) = some u

section
variable {α : Type} {W : World} {h0 : AH} {T E : TypeId} {sz : Nat} {P : AH → α → AV → Prop} {v : AV} {l : List α}
theorem BSl.isSl (h : BSl W h0 E sz P v l) : ∃ a c, v = .sl a l.length c none := by
  rcases h with ⟨rfl, rfl⟩ | ⟨a, c, _, rfl, _⟩ <;> exact ⟨_, _, rfl⟩
theorem BSl.at (h : BSl W h0 E sz P v l) (hk : (CC W).kind T = .slice E) (hs : (CC W).size E = some sz) {i : Nat} {x : α} (hx : l[i]? = some x) :
    ∃ a u, aIndexAddr (CC W) T v (.int .i64 (i : Int)) = some (.ptr (some a)) ∧ P h0 x u ∧ ∀ h, Keeps h0 h → aLoad (CC W) h E a = some u := by
  rcases h with ⟨rfl, rfl⟩ | ⟨a, c, _, rfl, h⟩
  · simp at hx
  · have hi := (List.getElem?_eq_some_iff.1 hx).1
    obtain ⟨u, h1, h2⟩ := h i x hx
    refine ⟨_, u, ?_, h1, h2⟩
    simp only [aIndexAddr, hk, hs]
    rw [if_pos (by omega)]
    simp
theorem BSl.lenA (h : BSl W h0 E sz P v l) (hk : (CC W).kind T = .slice E) (h2 : AH) : aLen (CC W) h2 T v = some (.int .i64 l.length) := by
  obtain ⟨a, c, rfl⟩ := h.isSl
  simp [aLen, hk]
end

/-! ### Out of the memory that an argument has -/
theorem mapM_same {α β γ : Type} {f : α → Option γ} {g : α → Option β} {φ : β → γ} (hf : ∀ i, f i = (g i).map φ) : ∀ (l : List α), l.mapM f = (l.mapM g).map (List.map φ)
  | [] => by simp
  | x :: l => by
    simp only [List.mapM_cons, hf, mapM_same hf l]
    cases g x with
    | none => rfl
    | some y =>
      cases l.mapM g with
      | none => rfl
      | some ys => rfl
theorem load_base {W : World} {h : AH} {b o sz : Nat} {base : Nat} {cs : List Value} (hc : W.cells? base ⟨b, o, none⟩ sz = some cs) : aCells (CC W) h (.base b o) sz = some (cs.map qy9) := by
  unfold World.cells? at hc
  split at hc
  · have hw0 : (CC W).W0 = W := _root_.id rfl
    simp only [aCells]
    rw [mapM_same (g := fun i => W.cell? (Addr.add ⟨b, o, none⟩ i)) (φ := qy9) (fun i => by
      simp only [AA.add, aCell, hw0, add_addr]), hc]
    rfl
  · cases hc
theorem spot_of {W : World} {base : Nat} {a : Addr} {sz : Nat} {cs : List Value} (h0 : 0 < sz) (hc : W.cells? base (a.add 0) sz = some cs) : a.spot = none := by
  have ha : a.add 0 = a := by simp [Addr.add]
  rw [ha] at hc
  unfold World.cells? at hc
  split at hc
  · obtain ⟨n, rfl⟩ : ∃ n, sz = n + 1 := ⟨sz - 1, by omega⟩
    rw [List.range_succ_eq_map, List.mapM_cons] at hc
    have h1 : ∃ x, W.cell? a = some x := by
      cases hx : W.cell? a with
      | some x => exact ⟨x, rfl⟩
      | none => rw [ha, hx] at hc; simp at hc
    obtain ⟨x, hx⟩ := h1
    unfold World.cell? at hx
    split at hx
    · split at hx
      · cases hx
      · rename_i h; simpa using h
    · cases hx
  · cases hc
theorem lists_of {α : Type} {Q : Nat → α → Prop} : ∀ (n : Nat), (∀ i, i < n → ∃ x, Q i x) → ∃ l : List α, l.length = n ∧ ∀ i x, l[i]? = some x → Q i x
  | 0, _ => ⟨[], rfl, fun i x hx => by simp at hx⟩
  | n + 1, h => by
    obtain ⟨l, hl, hq⟩ := lists_of n fun i hi => h i (by omega)
    obtain ⟨x, hx⟩ := h n (by omega)
    refine ⟨l ++ [x], by simp [hl], fun i y hy => ?_⟩
    rw [List.getElem?_append] at hy
    split at hy
    · exact hq i y hy
    · rename_i hi
      have e : i = n := by
        have := (List.getElem?_eq_some_iff.1 hy).1
        simp at this; omega
      subst e
      simp [hl] at hy
      rw [← hy]; exact hx

theorem bsl_data {α H : Type} {enc : TypeId × Value → H} {W : World} {T E : TypeId} {sz : Nat} {P : AH → α → AV → Prop} (hT : Try.prog.underlying T = some (.slice E)) (hsz : Try.prog.cellsOf E = sz) (h0 : 0 < sz)
    {U : List Value → AV} (hld : ∀ h b o cs, aCells (CC W) h (.base b o) sz = some (cs.map qy9) → aLoad (CC W) h E (.base b o) = some (U cs))
    (he : ∀ n cs y, DataW.trod enc Try.prog W 0 (fun _ => true) true n E cs = some y → ∃ x, ∀ h0, P h0 x (U cs))
    {fuel : Nat} {cs : List Value} {y : DataW H × List MemPlace} (h : DataW.trod enc Try.prog W 0 (fun _ => true) true fuel T cs = some y) :
    ∃ cv l, cs = [cv] ∧ (∀ h0, BSl W h0 E sz P (qy9 cv) l) ∧ l.length ≤ maxLen ∧ (∀ a len cap, cv = .slice a len cap → a = none → l = []) := by
  rcases DataW.trod_slice hT h with ⟨rfl, _⟩ | ⟨a, len, cap, elems, rest, n, _, rfl, hx, _, hl, hml, hlen, hel, hsp, _⟩
  · exact ⟨_, [], rfl, fun _ => .inl ⟨rfl, rfl⟩, by simp, fun _ _ _ _ _ => rfl⟩
  · rw [hsz] at hel hsp
    subst hx
    obtain ⟨b, o, sp⟩ := a
    have hv : qy9 (.slice (some ⟨b, o, sp⟩) len cap) = .sl (some (.base b o)) len cap none := by
      have key : sp = none ∨ len = 0 ∧ cap = 0 := by
        by_cases hl0 : 0 < len
        · left
          have h1 := hel 0 hl0
          have h2 : elems[0]? = some (elems[0]'(by omega)) := by simp
          rw [h2, Option.bind_eq_some_iff] at h1
          obtain ⟨cs, hc, _⟩ := h1
          rw [Nat.zero_mul] at hc
          exact spot_of h0 hc
        · by_cases hc0 : 0 < cap
          · left
            obtain ⟨hrl, hr⟩ := hsp rfl
            have h1 := hr 0 (by omega)
            have h2 : rest[0]? = some (rest[0]'(by omega)) := by simp
            rw [h2, Option.bind_eq_some_iff] at h1
            obtain ⟨cs, hc, _⟩ := h1
            rw [show (len + 0) * sz = 0 by rw [show len = 0 by omega]; simp] at hc
            exact spot_of h0 hc
          · right; omega
      rcases key with rfl | ⟨rfl, rfl⟩
      · cases len <;> cases cap <;> rfl
      · rfl
    have each : ∀ i, i < len → ∃ x, ∃ u, (∀ h0, P h0 x u) ∧ ∀ h, aLoad (CC W) h E (.base b (o + i * sz)) = some u := fun i hi => by
      have h1 := hel i hi
      have h2 : elems[i]? = some (elems[i]'(by omega)) := by simp
      rw [h2, Option.bind_eq_some_iff] at h1
      obtain ⟨cs, hc, ht⟩ := h1
      have hsn : sp = none := by
        have h3 := hel 0 (by omega)
        have h4 : elems[0]? = some (elems[0]'(by omega)) := by simp
        rw [h4, Option.bind_eq_some_iff] at h3
        obtain ⟨cs', hc', _⟩ := h3
        rw [Nat.zero_mul] at hc'
        exact spot_of h0 hc'
      subst hsn
      obtain ⟨x, hx⟩ := he n cs _ ht
      rw [add_addr] at hc
      exact ⟨x, _, hx, fun h => hld _ _ _ _ (load_base hc)⟩
    obtain ⟨l, hll, hq⟩ := lists_of len each
    refine ⟨_, l, rfl, ?_, ?_, fun _ _ _ e1 e2 => by cases e1; cases e2⟩
    · rw [hv]
      exact fun h0 => .inr ⟨.base b o, cap, by omega, by rw [hll], fun i x hx => by
        obtain ⟨u, h1, h2⟩ := hq i x hx
        exact ⟨u, h1 h0, fun h _ => h2 h⟩⟩
    · omega
/-- The same of an argument. -/
theorem bsl_arg {α H : Type} {enc : TypeId × Value → H} {W : World} {base : Nat} {T E : TypeId} {sz : Nat} {P : AH → α → AV → Prop} (hT : Try.prog.underlying T = some (.slice E)) (hsz : Try.prog.cellsOf E = sz) (h0 : 0 < sz)
    {U : List Value → AV} (hld : ∀ h b o cs, aCells (CC W) h (.base b o) sz = some (cs.map qy9) → aLoad (CC W) h E (.base b o) = some (U cs))
    (he : ∀ n cs y, DataW.trod enc Try.prog W 0 (fun _ => true) true n E cs = some y → ∃ x, ∀ h0, P h0 x (U cs))
    {v : Value} {d : DataW H} {ps : List MemPlace} (hval : Value.okWide Try.prog W .any base T v) (h : DataW.Trod enc Try.prog W 0 (fun _ => true) true T v d ps) :
    ∃ av : AV, VRel [] av v ∧ ∃ l : List α, (∀ h0, BSl W h0 E sz P av l) ∧ l.length ≤ maxLen := by
  obtain ⟨a0, len, cap, rfl⟩ := okWide_slice hT hval
  obtain ⟨fuel, hf⟩ := h
  refine ⟨qy9 (.slice a0 len cap), ofV_rel [] _, ?_⟩
  obtain ⟨cv, l, hcs, hl, hle, _⟩ := bsl_data hT hsz h0 hld he hf
  simp [Value.cells] at hcs
  subst hcs
  exact ⟨l, hl, hle⟩
end Go.Proofs.Ytgcoipcnhmkeaaa.Ax
end
