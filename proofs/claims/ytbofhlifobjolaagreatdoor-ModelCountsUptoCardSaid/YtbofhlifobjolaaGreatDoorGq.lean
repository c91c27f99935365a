/- The texts FailM, KeepF, FailsW, as one. -/
import Derived.Test.YtbofhlifobjolaaGreatDoorGp
import Derived.Test.YtbofhlifobjolaaGreatDoorGh
import Derived.Test.YtbofhlifobjolaaGreatDoorGi

/-! What fails changes nothing: plain -/
section
set_option linter.unusedVariables false
set_option linter.unusedSimpArgs false
namespace Go.Proofs.YtbofhlifobjolaaGreatDoor.Ax
open Go.RowKit


end Go.Proofs.YtbofhlifobjolaaGreatDoor.Ax
end

/-! A tree that was told stays, whatever the model does -/
section
set_option linter.unusedVariables false
set_option linter.unusedSimpArgs false
namespace Go.Proofs.YtbofhlifobjolaaGreatDoor.Ax
open Go.RowKit

theorem MIs.notTag {h : AH} {R : MR} {M : MS} (hm : MIs h R M) {q : Nat} {cs : List AV} {T : TypeId} (hT : T = 55 ∨ T = 3) (hq : q ∈ R.ids) (hg : h.get q = some (.cells cs T)) : False := by
  simp only [MR.ids, List.mem_cons, List.mem_flatMap] at hq
  rcases hq with rfl | rfl | rfl | ⟨r, hr, hk⟩
  · have := hg.symm.trans hm.mod; rcases hT with rfl | rfl <;> simp at this
  · have := hg.symm.trans hm.ptrs; rcases hT with rfl | rfl <;> simp at this
  · have := hg.symm.trans hm.rows; rcases hT with rfl | rfl <;> simp at this
  · obtain ⟨i, hi, he⟩ := List.getElem_of_mem hr
    have hr' : R.nd[i]? = some r := by rw [List.getElem?_eq_getElem hi, he]
    have hnd : M.nodes[i]? = some (M.nodes[i]'(by rw [← hm.len]; exact hi)) := by simp [← hm.len, hi]
    obtain ⟨mv, sv, hc, hmp, hsl⟩ := hm.each i r _ hr' hnd
    simp only [NR.ids, List.mem_cons, List.mem_append, Option.mem_toList] at hk
    rcases hk with rfl | hk | hk
    · have := hg.symm.trans hc; rcases hT with rfl | rfl <;> simp at this
    · rw [hk] at hmp
      cases hb : (M.nodes[i]'(by rw [← hm.len]; exact hi)).blocks with
      | none => rw [hb] at hmp; exact hmp.elim
      | some l => rw [hb] at hmp; obtain ⟨_, es, cl, h2, _⟩ := hmp; have := hg.symm.trans h2; simp at this
    · rw [hk] at hsl
      obtain ⟨cap, sp, _, h2, _⟩ := hsl
      have := hg.symm.trans h2; rcases hT with rfl | rfl <;> simp at this

/-- Numbers beside a model. -/
def IntH (h : AH) (R : MR) (v : AV) (l : List Int) : Prop :=
  l = [] ∧ v = .sl none 0 0 none ∨ ∃ k cap gr, k < h.next ∧ k ∉ R.ids ∧ v = .sl (some (.new k 0)) l.length cap gr ∧ h.get k = some (.cells (ints l) 3)
def FlsB (h : AH) (R : MR) (v : AV) (l : List Fl) : Prop :=
  ∃ k gr ps, ps.map Prod.fst = l ∧ k < h.next ∧ k ∉ R.ids ∧ h.get k = some (.cells (flCs ps) 55) ∧ (∀ q ∈ ps, IntH h R q.2 q.1.blocks) ∧ v = .sl (some (.new k 0)) l.length l.length gr
theorem IntH.step {h h' : AH} {R R' : MR} {v : AV} {l : List Int} (hi : IntH h R v l) (hB : MStep h h' R R') : IntH h' R' v l := by
  rcases hi with h1 | ⟨k, cap, gr, h1, h2, h3, h4⟩
  · exact .inl h1
  · refine .inr ⟨k, cap, gr, Nat.lt_of_lt_of_le h1 hB.nx, fun hc => ?_, h3, (hB.off k h1 h2).trans h4⟩
    rcases hB.ids k hc with h6 | h6
    · exact h2 h6
    · omega
theorem FlsB.step {h h' : AH} {R R' : MR} {v : AV} {l : List Fl} (hi : FlsB h R v l) (hB : MStep h h' R R') : FlsB h' R' v l := by
  obtain ⟨k, gr, ps, e, h1, h2, h3, h4, h5⟩ := hi
  refine ⟨k, gr, ps, e, Nat.lt_of_lt_of_le h1 hB.nx, fun hc => ?_, (hB.off k h1 h2).trans h3, fun q hq => (h4 q hq).step hB, h5⟩
  rcases hB.ids k hc with h6 | h6
  · exact h2 h6
  · omega
theorem FlsB.keeps {h h' : AH} {R : MR} {v : AV} {l : List Fl} (hi : FlsB h R v l) (hk : Keeps h h') : FlsB h' R v l := hi.step (MStep.refl hk)

theorem IntS.intH {h : AH} {R : MR} {M : MS} (hm : MIs h R M) {v : AV} {l : List Int} (hi : IntS h v l) : IntH h R v l := by
  rcases hi with h1 | ⟨k, cap, gr, h1, h2, h3⟩
  · exact .inl h1
  · exact .inr ⟨k, cap, gr, h1, fun hq => hm.notTag (.inr rfl) hq h3, h2, h3⟩
theorem IntH.intS {h : AH} {R : MR} {v : AV} {l : List Int} (hi : IntH h R v l) : IntS h v l := by
  rcases hi with h1 | ⟨k, cap, gr, h1, _, h2, h3⟩
  · exact .inl h1
  · exact .inr ⟨k, cap, gr, h1, h2, h3⟩
theorem OwnF.flsB {h0 h : AH} {R : MR} {M : MS} (hm : MIs h R M) {v : AV} {l : List Fl} (ho : OwnF h0 h v l) : FlsB h R v l := by
  obtain ⟨_, k, gr, p, ps, e, h1, h2, h3, h4, _⟩ := ho
  exact ⟨k, gr, p :: ps, e, h1, fun hq => hm.notTag (.inl rfl) hq h2, h2, fun q hq => (h3 q hq).intH hm, h4⟩
end Go.Proofs.YtbofhlifobjolaaGreatDoor.Ax
end

/-! ModelFails: the walk -/
section
set_option linter.unusedVariables false
set_option linter.unusedSimpArgs false
namespace Go.Proofs.YtbofhlifobjolaaGreatDoor.Ax
open Go.RowKit


theorem fls_at {W : World} {h : AH} {R : MR} {v : AV} {l : List Fl} (hf : FlsB h R v l) {i : Nat} {f : Fl} (hi : l[i]? = some f) :
    ∃ bv a', aIndexAddr (CC W) 44 v (.int .i64 (i : Int)) = some (.ptr (some a')) ∧ aLoad (CC W) h 55 a' = some (.agg (flC (f, bv))) ∧ IntH h R bv f.blocks := by
  obtain ⟨k, gr, ps, rfl, h1, h2, h3, h4, rfl⟩ := hf
  rw [List.getElem?_map, Option.map_eq_some_iff] at hi
  obtain ⟨q, hq, rfl⟩ := hi
  have hil := (List.getElem?_eq_some_iff.1 hq).1
  have hlen := flCs_len ps
  refine ⟨q.2, .new k (i * 7), ?_, ?_, h4 q (List.mem_of_getElem? hq)⟩
  · simp only [aIndexAddr, kind44, size55]
    rw [if_pos (by simp; omega)]
    simp [AA.add]
  · unfold aLoad
    rw [ty55]
    show (aCells (CC W) h (.new k (i * 7)) 7).map AV.agg = _
    simp only [aCells, h3]
    rw [if_pos (by omega)]
    have hd : (flCs ps).drop (i * 7) = flCs (ps.drop i) := by
      have e : ps = ps.take i ++ ps.drop i := (List.take_append_drop i ps).symm
      have hl : (flCs (ps.take i)).length = i * 7 := by rw [flCs_len, List.length_take]; congr 1; omega
      conv => lhs; rw [e, flCs_append]
      rw [← hl, List.drop_left]
    rw [hd, List.drop_eq_getElem_cons hil]
    have hg : ps[i] = q := by rw [List.getElem?_eq_getElem hil] at hq; exact Option.some.inj hq
    rw [hg]
    rfl

theorem FlsB.len {W : World} {h h2 : AH} {R : MR} {v : AV} {l : List Fl} (hf : FlsB h R v l) : aLen (CC W) h2 44 v = some (.int .i64 l.length) := by
  obtain ⟨k, gr, ps, rfl, h1, h2, h3, h4, rfl⟩ := hf
  simp [aLen, kind44]
theorem hideK {C : Cx} {Q : Post} {ops : Array Oper} {rest : List Oper} {ks : List Fr} {e : Env} {dst : Option Tmp} {f : FuncId} {args : List AV} {h : AH} (w : ∀ K, K = ks → CallK C Q ops rest K e dst f args h) : CallK C Q ops rest ks e dst f args h := w ks rfl
theorem hideW {C : Cx} {Q : Post} {c : Code} {ks : List Fr} {e : Env} {h : AH} (w : ∀ K, K = ks → Wc C Q c K e h) : Wc C Q c ks e h := w ks rfl

def FailI (v : AV) (o : Opn) (k5 : Nat) (km : Nat) (l : List Opn) (m : Nat) (e' : Env) (h' : AH) : Prop :=
  e'.length = 193 ∧ ∃ (i : Nat) (R : MR) (M : MS), i + m = l.length ∧ MIs h' R M ∧ Fine M i ∧ ShortM M ∧ R.km = km ∧ (h'.get k5 = some (.cells o.cells 35) ∧ k5 < h'.next ∧ k5 ∉ R.ids) ∧
    (e'.getD 5 .undef = .ptr (some (.new k5 0)) ∧ e'.getD 7 .undef = .ptr (some (.new km 0)) ∧ e'.getD 45 .undef = v ∧ e'.getD 46 .undef = .int .i64 l.length ∧ e'.getD 47 .undef = .int .i64 i)

def CmpI (h0 : AH) (va vb : AV) (n : Nat) (m : Nat) (e' : Env) (h' : AH) : Prop :=
  e'.length = 193 ∧ Keeps h0 h' ∧ ∃ i : Nat, i + m = n ∧
    (e'.getD 11 .undef = va ∧ e'.getD 15 .undef = vb ∧ e'.getD 138 .undef = .int .i64 n ∧ e'.getD 139 .undef = .int .i64 i)

/-- What stands behind the last operation. -/
def BehI (o : Opn) (r : Res) (M M' : MS) (t : Nat) (e' : Env) (h' : AH) : Prop :=
  e'.length = 193 ∧ ∃ (R : MR) (va vb : AV) (k nv : _) (bk : Bool), (bk = true → o.kd = 5 ∨ o.kd = 6 ∨ o.kd = 7) ∧ MIs h' R M' ∧ FlsB h' R va (treeM M) ∧ FlsB h' R vb (treeM M') ∧ BoxV h' R k r nv ∧ 
    (e'.getD 11 .undef = va ∧ e'.getD 12 .undef = .int .i64 (usedR M) ∧ e'.getD 13 .undef = .int .i64 (liveR M.nodes : Nat) ∧ e'.getD 14 .undef = .ptr (some (.new k 0)) ∧
      e'.getD 15 .undef = vb ∧ e'.getD 16 .undef = .int .i64 (usedR M') ∧ e'.getD 17 .undef = .int .i64 (liveR M'.nodes : Nat) ∧ e'.getD 18 .undef = .bool bk)


end Go.Proofs.YtbofhlifobjolaaGreatDoor.Ax
end
