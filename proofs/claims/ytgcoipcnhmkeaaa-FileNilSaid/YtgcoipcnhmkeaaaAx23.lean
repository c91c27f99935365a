/- AX, part 23: calls that keep what was our own. -/
import Derived.Test.YtgcoipcnhmkeaaaAx22
set_option linter.unusedVariables false
set_option linter.unusedSimpArgs false
namespace Go.Proofs.Ytgcoipcnhmkeaaa.Ax
open Go.RowKit

/-- The heap has at most new objects. -/
def Keeps (h h' : AH) : Prop := h.next ≤ h'.next ∧ ∀ k, k < h.next → h'.get k = h.get k

theorem Keeps.refl (h : AH) : Keeps h h := ⟨Nat.le_refl _, fun _ _ => rfl⟩
theorem Keeps.trans {a b c : AH} (h1 : Keeps a b) (h2 : Keeps b c) : Keeps a c := ⟨Nat.le_trans h1.1 h2.1, fun k hk => (h2.2 k (Nat.lt_of_lt_of_le hk h1.1)).trans (h1.2 k hk)⟩
theorem Keeps.push (h : AH) (o : AObj) : Keeps h (h.push o) := ⟨by simp, fun k hk => by rw [AH.get_push, if_neg (by omega)]⟩
theorem Keeps.set {h h' : AH} (hx : Keeps h h') {k : Nat} (hk : h.next ≤ k) (o : AObj) : Keeps h (h'.set k o) := ⟨by simpa using hx.1, fun j hj => by rw [AH.get_set, if_neg (by omega)]; exact hx.2 j hj⟩

/-- A call that gives one value and keeps what was our own. -/
def RetX (C : Cx) (f : FuncId) (args : List AV) (v : AV) : Prop := ∀ h, ACall C f args h (fun w h' => w = v ∧ Keeps h h') (fun _ _ => False)

theorem Ret.retX {C : Cx} {f : FuncId} {args : List AV} {v : AV} (hr : Ret C f args v) : RetX C f args v := fun h => (hr h).mono (fun _ _ hh => ⟨hh.1, hh.2 ▸ Keeps.refl _⟩) fun _ _ h => h
theorem RetX.retA {C : Cx} {f : FuncId} {args : List AV} {v : AV} (hr : RetX C f args v) : RetA C f args v := fun h => (hr h).mono (fun _ _ hh => hh.1) fun _ _ h => h

theorem callK_RetX {C : Cx} {Q : Post} {ks : List Fr} {e : Env} {h : AH} {ops : Array Oper} {rest : List Oper} {dst : Option Tmp} {f : FuncId} {args : List AV} {v : AV} (hf : (C.fn f).isSome = true) (hc : RetX C f args v)
    (hk : ∀ h', Keeps h h' → Rg C Q ops rest ks (putE e dst v) h') : CallK C Q ops rest ks e dst f args h :=
  callK_ret hf (hc h) fun w h' hw => by rw [hw.1]; exact hk h' hw.2
end Go.Proofs.Ytgcoipcnhmkeaaa.Ax
