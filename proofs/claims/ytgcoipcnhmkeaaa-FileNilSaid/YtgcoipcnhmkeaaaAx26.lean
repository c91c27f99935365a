/- AX, part 26: what a contract of the kit's leaves behind, as own blocks. -/
import Derived.Test.YtgcoipcnhmkeaaaAx25
set_option linter.unusedVariables false
set_option linter.unusedSimpArgs false
namespace Go.Proofs.Ytgcoipcnhmkeaaa.Ax
open Go.RowKit

/-- What grows behind the own blocks changes nothing. -/
theorem Rel.belowEnd {W0 W W' : World} {ρ : Rho} {h : AH} (R : Rel W0 ρ h W) (hb : Below W.heap.size W W') : Rel W0 ρ h W' where
  below := R.below.trans (hb.mono R.below.size)
  len := R.len
  live := fun k o hk => by
    obtain ⟨r, h1, h2, h3⟩ := R.live k o hk
    exact ⟨r, h1, h2, h3.world (hb.block _ h3.lt)⟩
  inj := R.inj
  home := R.home

/-- A new block, wherever it has come to lie. -/
theorem Rel.pushB {W0 W W' : World} {ρ : Rho} {h : AH} (R : Rel W0 ρ h W) (hb : Below W.heap.size W W') {g z : Nat} (hg : W.heap.size ≤ g) (o : AObj)
    (ho : ORel W' (ρ ++ [⟨g, 0, z⟩]) ⟨g, 0, z⟩ o) : Rel W0 (ρ ++ [⟨g, 0, z⟩]) (h.push o) W' := by
  have hp : ρ <+: ρ ++ [⟨g, 0, z⟩] := List.prefix_append _ _
  have R' := R.belowEnd hb
  have hs : W0.heap.size ≤ W.heap.size := R.below.size
  have key : ∀ (k : Nat) (o : AObj) (r : RE), h.get k = some o → (ρ ++ [⟨g, 0, z⟩])[k]? = some r → ρ[k]? = some r ∧ r.b < W.heap.size := by
    intro k o r hk hr
    obtain ⟨r', hr', _, hO⟩ := R.live k o hk
    have := get?_prefix hp hr'
    rw [hr] at this; cases this
    exact ⟨hr', hO.lt⟩
  have last : ∀ (r : RE), (ρ ++ [⟨g, 0, z⟩])[h.next]? = some r → r = ⟨g, 0, z⟩ := by
    intro r hr
    rw [← R.len] at hr
    simp at hr
    exact hr.symm
  refine ⟨R'.below, by simp [R.len], fun k o' hk => ?_, fun k k' o1 o2 r r' hk hk' hr hr' hbb => ?_, fun r hr => ?_⟩
  · rw [AH.get_push] at hk
    split at hk
    · rename_i e
      cases hk
      exact ⟨⟨g, 0, z⟩, by rw [e, ← R.len]; simp, Nat.le_trans hs hg, ho⟩
    · obtain ⟨r, hr, hb2, hO⟩ := R'.live k o' hk
      exact ⟨r, get?_prefix hp hr, hb2, ORel.mono hp hO⟩
  · rw [AH.get_push] at hk hk'
    split at hk <;> split at hk'
    · omega
    · rename_i e1 e2
      subst e1
      have := (key k' o2 r' hk' hr').2
      rw [last r hr] at hbb
      simp only at hbb
      omega
    · rename_i e1 e2
      subst e2
      have := (key k o1 r hk hr).2
      rw [last r' hr'] at hbb
      simp only at hbb
      omega
    · exact R.inj k k' o1 o2 r r' hk hk' (key k o1 r hk hr).1 (key k' o2 r' hk' hr').1 hbb
  · rcases List.mem_append.1 hr with hr | hr
    · exact R.home r hr
    · simp only [List.mem_singleton] at hr; rw [hr]

/-- A call whose contract is the kit's. -/
theorem ret_of_calls {C : Cx} {f : FuncId} {args : List AV} {h : AH} {v : AV} (hc : ∀ ρ W (vs : Array Value), Rel C.W0 ρ h W → VsRel ρ args vs.toList → Calls C.P f vs W fun e W' => (∃ V, e = .returned V ∧ VRel ρ v V) ∧ Below W.heap.size W W') :
    ACall C f args h (fun w h' => w = v ∧ h' = h) (fun _ _ => False) := by
  intro ρ W vs R hv
  refine (hc ρ W vs R hv).mono fun e W' ⟨⟨V, he, hV⟩, hb⟩ => ?_
  subst he
  exact ⟨ρ, v, h, List.prefix_refl _, R.belowEnd hb, hV, rfl, rfl⟩
end Go.Proofs.Ytgcoipcnhmkeaaa.Ax
