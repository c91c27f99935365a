/- Slices of texts in memory. -/
import Derived.Test.YteedadelgpagfaaDoorTab
set_option linter.unusedVariables false
set_option linter.unusedSimpArgs false
namespace Go.Proofs.YteedadelgpagfaaDoor.Ax
open Go.RowKit

def AA.below (n : Nat) : AA → Prop
  | .base _ _ => True
  | .new k _ => k < n

theorem aBound_nat {n d y : Nat} (h : n ≤ y) : aBound (some (.int .i64 (n : Int))) d y = some n := by
  simp only [aBound]
  rw [if_pos (by omega)]
  simp
theorem aBound_none {d y : Nat} : aBound none d y = some d := rfl
theorem aBounds_hi {len cap n : Nat} (h : n ≤ cap) : aBounds len cap none (some (.int .i64 (n : Int))) none = some (0, n, cap) := by
  unfold aBounds
  simp only [aBound_none, aBound_nat h]
theorem aBounds_lo {len cap n : Nat} (h : n ≤ len) : aBounds len cap (some (.int .i64 (n : Int))) none none = some (n, len, cap) := by
  unfold aBounds
  simp only [aBound_none, aBound_nat h]
theorem aBounds_lohi {len cap n m : Nat} (h : n ≤ m) (hm : m ≤ cap) : aBounds len cap (some (.int .i64 (n : Int))) (some (.int .i64 (m : Int))) none = some (n, m, cap) := by
  unfold aBounds
  simp only [aBound_none, aBound_nat h, aBound_nat hm]

theorem slice_hi {W : World} {r : List UInt8} {q : Nat} (h : q ≤ r.length) : aSlice (CC W) 9 (.str r) none (some (.int .i64 (q : Int))) none = some (.str (r.take q)) := by
  simp only [aSlice, kind9, aBounds_hi h, Option.map, List.drop_zero]
theorem slice_lo {W : World} {r : List UInt8} {q : Nat} (h : q ≤ r.length) : aSlice (CC W) 9 (.str r) (some (.int .i64 (q : Int))) none none = some (.str (r.drop q)) := by
  simp only [aSlice, kind9, aBounds_lo h, Option.map, List.take_length]
theorem slice_lohi {W : World} {r : List UInt8} {q m : Nat} (h : q ≤ m) (hm : m ≤ r.length) : aSlice (CC W) 9 (.str r) (some (.int .i64 (q : Int))) (some (.int .i64 (m : Int))) none = some (.str ((r.take m).drop q)) := by
  simp only [aSlice, kind9, aBounds_lohi h hm, Option.map]

/-- A slice that holds texts. -/
def StrS (W : World) (h : AH) (v : AV) (l : List (List UInt8)) : Prop :=
  ∃ a c gr, v = .sl a l.length c gr ∧ (l.length ≤ c ∧ (gr = none ∨ gr = some 1)) ∧ ∀ k x, l[k]? = some x → ∃ a', a = some a' ∧ a'.below h.next ∧ aCell (CC W) h (a'.add k) = some (.str x)

theorem cell_keeps {C : Cx} {h h' : AH} {a : AA} {v : AV} (hk : Keeps h h') (ha : a.below h.next) (hc : aCell C h a = some v) : aCell C h' a = some v := by
  cases a with
  | base b o => exact hc
  | new k o => simp only [aCell] at hc ⊢; rw [hk.2 k ha]; exact hc

theorem AA.below_mono {a : AA} {n m : Nat} (h : a.below n) (hm : n ≤ m) : a.below m := by
  cases a with
  | base b o => trivial
  | new k o => exact Nat.lt_of_lt_of_le h hm
theorem AA.below_add {a : AA} {n : Nat} (h : a.below n) (k : Nat) : (a.add k).below n := by
  cases a with
  | base b o => trivial
  | new k o => exact h

theorem StrS.keeps {W : World} {h h' : AH} {v : AV} {l : List (List UInt8)} (hs : StrS W h v l) (hk : Keeps h h') : StrS W h' v l := by
  obtain ⟨a, c, gr, hv, hcl, hc⟩ := hs
  refine ⟨a, c, gr, hv, hcl, fun k x hx => ?_⟩
  obtain ⟨a', ha, hb, hcell⟩ := hc k x hx
  exact ⟨a', ha, AA.below_mono hb hk.1, cell_keeps hk (AA.below_add hb k) hcell⟩

theorem aLoad_str {W : World} {h : AH} {a : AA} {x : List UInt8} (hc : aCell (CC W) h a = some (.str x)) : aLoad (CC W) h 9 a = some (.str x) := by
  simp only [aLoad, ty9]
  exact hc

theorem idx_str {W : World} {a : AA} {n c : Nat} {gr : Option Nat} {k : Nat} (hk : k < n) : aIndexAddr (CC W) 31 (.sl (some a) n c gr) (.int .i64 k) = some (.ptr (some (a.add k))) := by
  simp only [aIndexAddr, kind31, size9]
  rw [if_pos (by omega)]
  simp

/-- What a text of a slice is. -/
theorem StrS.at {W : World} {h : AH} {l : List (List UInt8)} {a : Option AA} {n c : Nat} {gr : Option Nat} (hs : StrS W h (.sl a n c gr) l) {k : Nat} {x : List UInt8} (hk : l[k]? = some x) :
    ∃ a', aIndexAddr (CC W) 31 (.sl a n c gr) (.int .i64 k) = some (.ptr (some a')) ∧ aLoad (CC W) h 9 a' = some (.str x) := by
  obtain ⟨a0, c0, g0, hv, _, hc⟩ := hs
  simp only [AV.sl.injEq] at hv
  obtain ⟨rfl, rfl, rfl, rfl⟩ := hv
  obtain ⟨a', rfl, hb, hcell⟩ := hc k x hk
  exact ⟨_, idx_str (List.getElem?_eq_some_iff.1 hk).1, aLoad_str hcell⟩

theorem StrS.len {W : World} {h : AH} {v : AV} {l : List (List UInt8)} (hs : StrS W h v l) : ∃ a c gr, v = .sl a l.length c gr := by
  obtain ⟨a, c, gr, hv, _⟩ := hs; exact ⟨a, c, gr, hv⟩

theorem StrS.nil {W : World} {h : AH} {a : Option AA} {c : Nat} : StrS W h (.sl a 0 c none) [] := ⟨a, c, none, rfl, ⟨Nat.zero_le _, .inl rfl⟩, fun k x hx => by simp at hx⟩

/-- A call that keeps what was our own, and what its value is. -/
def RetQ (C : Cx) (f : FuncId) (args : List AV) (h : AH) (Q : AV → AH → Prop) : Prop := ACall C f args h (fun v h' => Keeps h h' ∧ Q v h') (fun _ _ => False)

theorem callK_RetQ {C : Cx} {R : Post} {ks : List Fr} {e : Env} {h : AH} {ops : Array Oper} {rest : List Oper} {dst : Option Tmp} {f : FuncId} {args : List AV} {Q : AV → AH → Prop} (hf : (C.fn f).isSome = true) (hc : RetQ C f args h Q)
    (hk : ∀ v h', Keeps h h' → Q v h' → Rg C R ops rest ks (putE e dst v) h') : CallK C R ops rest ks e dst f args h :=
  callK_ret hf hc fun w h' hw => hk w h' hw.1 hw.2

/-- A call that changes no memory, in a state. -/
def RetH (C : Cx) (f : FuncId) (args : List AV) (h : AH) (v : AV) : Prop := ACall C f args h (fun w h' => w = v ∧ h' = h) (fun _ _ => False)
theorem callK_RetH {C : Cx} {Q : Post} {ks : List Fr} {e : Env} {h : AH} {ops : Array Oper} {rest : List Oper} {dst : Option Tmp} {f : FuncId} {args : List AV} {v : AV} (hf : (C.fn f).isSome = true) (hc : RetH C f args h v)
    (hk : Rg C Q ops rest ks (putE e dst v) h) : CallK C Q ops rest ks e dst f args h :=
  callK_ret hf hc fun w h' hw => by rw [hw.1, hw.2]; exact hk

/-- The cells of texts, and room for others. -/
def scells (l : List (List UInt8)) (n : Nat) : List AV := l.map .str ++ List.replicate (n - l.length) (.str [])

theorem scells_length {l : List (List UInt8)} {n : Nat} (h : l.length ≤ n) : (scells l n).length = n := by simp [scells]; omega
theorem scells_get {l : List (List UInt8)} {n k : Nat} {x : List UInt8} (h : l[k]? = some x) : (scells l n)[k]? = some (.str x) := by
  have hk := (List.getElem?_eq_some_iff.1 h).1
  rw [scells, List.getElem?_append_left (by simpa using hk)]
  simp [h]
theorem scells_put {l : List (List UInt8)} {n : Nat} {x : List UInt8} (h : l.length < n) : overlay (scells l n) [.str x] l.length = scells (l ++ [x]) n := by
  have e : n - l.length = (n - (l.length + 1)) + 1 := by omega
  simp only [overlay, scells, List.length_append, List.length_singleton, List.map_append, List.map_cons, List.map_nil]
  rw [e, List.replicate_succ]
  have h1 : (List.map AV.str l ++ AV.str [] :: List.replicate (n - (l.length + 1)) (AV.str [])).take l.length = List.map AV.str l := by
    rw [List.take_append, List.take_of_length_le (by simp)]; simp
  have h2 : (List.map AV.str l ++ AV.str [] :: List.replicate (n - (l.length + 1)) (AV.str [])).drop (l.length + 1) = List.replicate (n - (l.length + 1)) (AV.str []) := by
    rw [List.drop_append]
    simp
  simp only [h1, h2]

theorem store_str {W : World} {h : AH} {k n : Nat} {l : List (List UInt8)} {x : List UInt8} {t : TypeId} (hg : h.get k = some (.cells (scells l n) t)) (hl : l.length < n) :
    aStoreOp (CC W) h 9 (.ptr (some (.new k l.length))) (.str x) = some (h.set k (.cells (scells (l ++ [x]) n) t)) := by
  have h1 : l.length + [AV.str x].length ≤ (scells l n).length := by rw [scells_length (by omega)]; simp; omega
  simp only [aStoreOp, aCellsOf, size9, aStore, hg]
  rw [if_pos (by rfl), if_pos ⟨h1, by rfl⟩, scells_put hl]

/-- Texts in an own block. -/
theorem StrS.new {W : World} {h : AH} {k n c : Nat} {l m : List (List UInt8)} {t : TypeId} (hg : h.get k = some (.cells (scells m n) t)) (hk : k < h.next) (hl : l.length = c) (hm : ∀ (j : Nat) x, l[j]? = some x → m[j]? = some x) {cap : Nat} (hcap : c ≤ cap) : StrS W h (.sl (some (.new k 0)) c cap none) l := by
  subst hl
  refine ⟨_, _, _, rfl, ⟨hcap, .inl rfl⟩, fun j x hx => ⟨_, rfl, hk, ?_⟩⟩
  simp only [AA.add, aCell, hg, Nat.zero_add]
  exact scells_get (hm j x hx)


/-- Texts that were appended one by one, behind a state. -/
def OwnS (h0 h : AH) (v : AV) (l : List (List UInt8)) : Prop :=
  Keeps h0 h ∧ (l = [] ∧ v = .sl none 0 0 none ∨ ∃ k, h0.next ≤ k ∧ k < h.next ∧ h.get k = some (.cells (l.map .str) 9) ∧ v = .sl (some (.new k 0)) l.length l.length (some 1))

theorem OwnS.start (h : AH) : OwnS h h (.sl none 0 0 none) [] := ⟨Keeps.refl _, .inl ⟨rfl, rfl⟩⟩

theorem OwnS.strS {W : World} {h0 h : AH} {v : AV} {l : List (List UInt8)} (ho : OwnS h0 h v l) : StrS W h v l := by
  obtain ⟨_, ⟨rfl, rfl⟩ | ⟨k, h1, h2, h3, rfl⟩⟩ := ho
  · exact StrS.nil
  · refine ⟨_, _, _, rfl, ⟨Nat.le_refl _, .inr rfl⟩, fun j x hx => ⟨_, rfl, h2, ?_⟩⟩
    simp only [AA.add, aCell, h3, Nat.zero_add]
    simp [hx]

theorem OwnS.len {h0 h : AH} {v : AV} {l : List (List UInt8)} (ho : OwnS h0 h v l) : ∃ a c gr, v = .sl a l.length c gr := by
  obtain ⟨_, ⟨rfl, rfl⟩ | ⟨k, h1, h2, h3, rfl⟩⟩ := ho <;> exact ⟨_, _, _, rfl⟩

theorem AH.get_kill' (h : AH) (k m : Nat) : (h.kill k).get m = if m = k then none else h.get m := by simp [AH.get, AH.kill, Tr.get_set]
theorem AH.next_kill' (h : AH) (k : Nat) : (h.kill k).next = h.next := rfl

theorem build_str {W : World} {h : AH} {x : List UInt8} : aBuildSlice (CC W) h 31 1 [(0, .str x)] = some (.sl (some (.new h.next 0)) 1 1 none, h.push (.cells [.str x] 9)) := by
  simp only [aBuildSlice, kind31, size9, zero9]
  rfl

theorem append_str {W : World} {h0 h : AH} {v : AV} {l : List (List UInt8)} {x : List UInt8} (ho : OwnS h0 h v l) (hl : l.length < 8796093022207) :
    ∃ v' h', aAppend (CC W) (h.push (.cells [.str x] 9)) #[31, 31] v (.sl (some (.new h.next 0)) 1 1 none) = some (v', h') ∧ OwnS h0 h' v' (l ++ [x]) := by
  obtain ⟨hk, ho⟩ := ho
  have hb : (CC W).bytes 9 = 16 := _root_.id rfl
  have hni : niOK (CC W) #[31, 31] = true := _root_.id rfl
  have hnews : aNews (CC W) (h.push (.cells [.str x] 9)) 1 (.sl (some (.new h.next 0)) 1 1 none) = some (1, [.str x]) := by
    simp [aNews, aCells]
  rcases ho with ⟨rfl, rfl⟩ | ⟨k, h1, h2, h3, rfl⟩
  · refine ⟨.sl (some (.new (h.next + 1) 0)) 1 1 (some 1), (h.push (.cells [.str x] 9)).push (.cells [.str x] 9), ?_, (hk.trans (Keeps.push _ _)).trans (Keeps.push _ _), .inr ⟨h.next + 1, by have := hk.1; omega, by simp, by simp, by simp⟩⟩
    simp [aAppend, kind31, size9, zero9, hb, hni, hnews]
  · have hne : k ≠ h.next := by omega
    refine ⟨.sl (some (.new (h.next + 1) 0)) (l.length + 1) (l.length + 1) (some 1), ((h.push (.cells [.str x] 9)).kill k).push (.cells (l.map .str ++ [.str x]) 9), ?_, ⟨?_, fun j hj => ?_⟩, .inr ⟨h.next + 1, by have := hk.1; omega, by simp [AH.next_kill'], by simp [AH.next_kill'], by simp⟩⟩
    · simp [aAppend, kind31, size9, zero9, hb, hni, hnews, hne, h3, AH.next_kill', aOne]
      rw [if_neg (by omega), if_pos (by omega)]
    · simp [AH.next_kill']; have := hk.1; omega
    · have := hk.1
      rw [AH.get_push, AH.next_kill', if_neg (by simp; omega), AH.get_kill', if_neg (by omega), AH.get_push, if_neg (by omega)]
      exact hk.2 j hj

/-- A slice's first texts. -/
theorem StrS.slice {W : World} {h : AH} {l : List (List UInt8)} {a : Option AA} {n c : Nat} {gr : Option Nat} (hs : StrS W h (.sl a n c gr) l) {k : Nat} (hk : k ≤ l.length) :
    ∃ v, aSlice (CC W) 31 (.sl a n c gr) none (some (.int .i64 (k : Int))) none = some v ∧ StrS W h v (l.take k) := by
  obtain ⟨a0, c0, g0, hv, ⟨hcl, hgr⟩, hc⟩ := hs
  simp only [AV.sl.injEq] at hv
  obtain ⟨rfl, rfl, rfl, rfl⟩ := hv
  have hl : (l.take k).length = k := by simp; omega
  cases a with
  | none =>
    have h0 : l = [] := by
      cases l with
      | nil => rfl
      | cons x r => obtain ⟨a', ha, _⟩ := hc 0 x rfl; cases ha
    subst h0
    obtain rfl : k = 0 := by simpa using hk
    refine ⟨.sl none 0 0 none, ?_, StrS.nil⟩
    have := aBounds_hi (len := 0) (cap := 0) (n := 0) (Nat.le_refl _)
    simp only [aSlice, kind31, size9, this, Option.map]
  | some a =>
    refine ⟨.sl (some (a.add 0)) k c gr, ?_, some (a.add 0), c, gr, by rw [hl], ⟨by omega, hgr⟩, fun j x hx => ?_⟩
    · have ha0 : a.add 0 = a := by cases a <;> rfl
      simp only [aSlice, kind31, size9, aBounds_hi (len := l.length) (show k ≤ c by omega), Option.map, if_pos hgr]
      simp [ha0]
    · rw [List.getElem?_take] at hx
      split at hx
      · obtain ⟨a', ha, hb, hcell⟩ := hc j x hx
        cases ha
        have ha0 : a.add 0 = a := by cases a <;> rfl
        exact ⟨_, rfl, by rw [ha0]; exact hb, by rw [ha0]; exact hcell⟩
      · simp at hx

theorem slice_part {W : World} {p : List UInt8} {a b : Nat} (h : a ≤ b) (hb : b ≤ p.length) : aSlice (CC W) 9 (.str p) (some (.int .i64 (a : Int))) (some (.int .i64 (b : Int))) none = some (.str ((p.take b).drop a)) := slice_lohi h hb
end Go.Proofs.YteedadelgpagfaaDoor.Ax
