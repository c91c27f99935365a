/- AX, part 24: conditions may be weakened; a cut between two pieces of code. -/
import Derived.Test.YtgcoipcnhmkeaaaAx23
set_option linter.unusedVariables false
set_option linter.unusedSimpArgs false
namespace Go.Proofs.Ytgcoipcnhmkeaaa.Ax
open Go.RowKit

theorem opsWp_le {C : Cx} {ops : Array Oper} {Q Q' : Post} (hq : ∀ x e h, Q x e h → Q' x e h) : ∀ (l : List Oper) (e : Env) (h : AH), opsWp C ops Q l e h → opsWp C ops Q' l e h
  | [], e, h, hw => hq _ _ _ hw
  | o :: rest, e, h, hw => by
    simp only [opsWp] at hw ⊢
    split at hw
    · exact opWp_mono hw (fun v h' hk => opsWp_le hq rest _ _ hk) fun v h' hk => hq _ _ _ hk
    · exact opsWp_le hq rest _ _ hw
    · exact hw

theorem schedWp_le {C : Cx} {ops : Array Oper} {Q Q' : Post} (hq : ∀ x e h, Q x e h → Q' x e h) : ∀ (l : List Nat) (rs : List (Nat × AV × Env)) (e : Env) (h : AH), schedWp C ops Q l rs e h → schedWp C ops Q' l rs e h
  | [], rs, e, h, hw => hq _ _ _ hw
  | i :: rest, rs, e, h, hw => by
    simp only [schedWp] at hw ⊢
    cases hwa : wantedA ops e (opA ops i) with
    | none => rw [hwa] at hw; exact hw
    | some b =>
      rw [hwa] at hw
      cases b with
      | false =>
        simp only at hw ⊢
        split at hw
        · rename_i hi; rw [if_pos hi]; exact schedWp_le hq rest _ _ _ hw
        · rename_i hi; rw [if_neg hi]; exact schedWp_le hq rest _ _ _ hw
      | true =>
        simp only at hw ⊢
        split at hw
        · rename_i hi; rw [if_pos hi]
          exact opWp_mono hw (fun v h' hk => ⟨hk.1, schedWp_le hq rest _ _ _ hk.2⟩) fun v h' hk => hq _ _ _ hk
        · rename_i hi; rw [if_neg hi]
          cases hv : evalN C (opA ops i) (ev e) h with
          | none => rw [hv] at hw; exact hw
          | some v => rw [hv] at hw; exact schedWp_le hq rest _ _ _ hw

theorem wpc_le {C : Cx} : ∀ (c : Code) {Q Q' : Post}, (∀ x e h, Q x e h → Q' x e h) → ∀ e h, wpc C c e h Q → wpc C c e h Q'
  | .skip, _, _, hq, e, h, hw => hq _ _ _ hw
  | .label _, _, _, hq, e, h, hw => hq _ _ _ hw
  | .region _ ops false, _, _, hq, e, h, hw => opsWp_le hq _ _ _ hw
  | .region _ ops true, _, _, hq, e, h, hw => ⟨hw.1, fun c hc => schedWp_le hq _ _ _ _ (hw.2 c hc)⟩
  | .seq a b, Q, Q', hq, e, h, hw => by
    simp only [wpc] at hw ⊢
    refine wpc_le a (fun x e h hx => ?_) e h hw
    cases x with
    | normal => exact wpc_le b hq e h hx
    | _ => exact hq _ _ _ hx
  | .cond c a b, _, _, hq, e, h, hw => by
    simp only [wpc, condP] at hw ⊢
    split at hw
    · rename_i b' hb
      exact ⟨fun h1 => wpc_le a hq e h (hw.1 h1), fun h1 => wpc_le b hq e h (hw.2 h1)⟩
    · exact hw.elim
  | .block id b, _, _, hq, e, h, hw => by
    simp only [wpc] at hw ⊢
    refine wpc_le b (fun x e h hx => ?_) e h hw
    cases x with
    | exit id' => simp only [blockQ] at hx ⊢; split at hx
                  · rename_i hi; rw [if_pos hi]; exact hq _ _ _ hx
                  · rename_i hi; rw [if_neg hi]; exact hq _ _ _ hx
    | _ => exact hq _ _ _ hx
  | .loop b, _, _, hq, e, h, hw => Exec.mono hw hq
  | .exit id, _, _, hq, e, h, hw => hq _ _ _ hw
  | .ret, _, _, hq, e, h, hw => hq _ _ _ hw
  | .scope b, _, _, hq, e, h, hw => wpc_le b hq e h hw
  | .goto _, _, _, _, _, _, hw => hw.elim

/-- A cut: what holds behind a piece of code. -/
theorem wc_cut {C : Cx} {Q : Post} {c : Code} {ks : List Fr} {e : Env} {h : AH} (R : Env → AH → Prop) (h1 : Wc C (thenQ R (kq C Q ks)) c [] e h) (h2 : ∀ e h, R e h → Nx C Q .normal ks e h) : Wc C Q c ks e h := by
  refine ⟨wpc_le c (fun x e h hx => ?_) e h h1.out⟩
  cases x with
  | normal => exact (h2 e h hx).out
  | _ => exact hx
end Go.Proofs.Ytgcoipcnhmkeaaa.Ax
