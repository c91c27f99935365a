/- What is known of strings.Join. -/
import Derived.Test.YtbofhlifobjolaaGreatDoorKnown
import Derived.Test.YtbofhlifobjolaaGreatDoorShelfJ
set_option linter.unusedVariables false
set_option linter.unusedSimpArgs false
namespace Go.Proofs.YtbofhlifobjolaaGreatDoor.Ax
open Go.RowKit

def textOf : AV → Option (List UInt8)
  | .str s => some s
  | _ => none

theorem texts_rel {ρ : Rho} : ∀ {vs : List AV} {l : List (List UInt8)} {Vs : List Value}, vs.mapM textOf = some l → VsRel ρ vs Vs → Vs = l.map fun x => Value.string ⟨x.toArray⟩
  | [], l, Vs, h, hr => by simp at h; subst h; simpa [VsRel] using hr
  | v :: vs, l, Vs, h, hr => by
    simp only [List.mapM_cons, bind, Option.bind_eq_some_iff] at h
    obtain ⟨y, hy, ys, hys, hp⟩ := h
    simp [pure] at hp; subst hp
    simp only [VsRel] at hr
    obtain ⟨X, Xs, rfl, h1, h2⟩ := hr
    rw [texts_rel hys h2]
    unfold textOf at hy
    split at hy
    · simp at hy; subst hy
      rw [str_rel h1]; rfl
    · simp at hy

def joinKn (C : Cx) (f0 : Nat) : Known := fun f args h =>
  if f = f0 then match args with
    | [.sl a len cap _, .str sep] =>
      if len = 0 then match a with
        | none => some (.str [], h)
        | some _ => none
      else match a with
        | some a => match (aCells C h a len).bind fun vs => vs.mapM textOf with
          | some l => if len ≤ cap ∧ len ≤ 1000000 ∧ (Lib.join l sep).length ≤ 1000000 then some (.str (Lib.join l sep), h) else none
          | none => none
        | none => none
    | _ => none
  else none

theorem join_known (W : World) : KnownOK (CC W) (joinKn (CC W) 97) := by
  intro f args h r hr
  unfold joinKn at hr
  split at hr
  case isFalse => simp at hr
  rename_i hf
  subst hf
  split at hr
  case h_2 => simp at hr
  rename_i a len cap gr sep
  split at hr
  · rename_i h0
    subst h0
    split at hr
    case h_2 => simp at hr
    simp at hr
    subst hr
    refine ret_of_calls fun ρ W1 vs R hv => ?_
    simp only [VsRel, VRel] at hv
    obtain ⟨X, xs, e1, ⟨_, _, _, rfl⟩, Y, ys, e2, rfl, rfl⟩ := hv
    have ev : vs = #[.slice none 0 0, .string ⟨sep.toArray⟩] := Array.toList_inj.1 (by rw [e1, e2])
    rw [ev]
    exact (Sh.strings_Join_none none 0 ⟨sep.toArray⟩ W1).mono fun e W' ⟨he, hw⟩ => ⟨⟨_, he, by simp [VRel]⟩, hw ▸ Below.refl _ _⟩
  · rename_i h0
    split at hr
    case h_2 => simp at hr
    rename_i a
    split at hr
    case h_2 => simp at hr
    rename_i l hl
    split at hr
    case isFalse => simp at hr
    rename_i hc
    obtain ⟨hc1, hc2, hc3⟩ := hc
    simp at hr
    subst hr
    simp only [Option.bind_eq_some_iff] at hl
    obtain ⟨cs, hcs, htx⟩ := hl
    refine ret_of_calls fun ρ W1 vs R hv => ?_
    simp only [VsRel] at hv
    obtain ⟨X, xs, e1, hX, Y, ys, e2, hY, rfl⟩ := hv
    have eY := str_rel hY
    obtain ⟨A, cap', rfl, hA⟩ := sl_addr hX (by omega)
    have hcap : len ≤ cap' := by
      cases a with
      | base b o => simp only [VRel, Value.slice.injEq] at hX; omega
      | new k o =>
        simp only [VRel] at hX
        obtain ⟨r, A2, c2, _, e3, h4, _⟩ := hX
        simp only [Value.slice.injEq] at e3
        omega
    obtain ⟨bo, oo, rfl⟩ : ∃ b o, A = ⟨b, o, none⟩ := by
      cases a with
      | base b o => exact ⟨b, o, hA⟩
      | new k o => obtain ⟨r, _, hA⟩ := hA; exact ⟨_, _, hA⟩
    obtain ⟨hcl, hcg⟩ := aCells_get hcs
    have hll : l.length = len := by
      have : ∀ (vs : List AV) (l : List (List UInt8)), vs.mapM textOf = some l → l.length = vs.length := by
        intro vs
        induction vs with
        | nil => intro l h; simp at h; subst h; rfl
        | cons v vs ih =>
          intro l h
          simp only [List.mapM_cons, bind, Option.bind_eq_some_iff] at h
          obtain ⟨y, hy, ys, hys, hp⟩ := h
          simp [pure] at hp; subst hp
          simp [ih ys hys]
      rw [this cs l htx, hcl]
    have hcells : ∀ (j : Nat) x, l[j]? = some x → W1.cell? ⟨bo, oo + j, none⟩ = some (.string ⟨x.toArray⟩) := by
      intro j x hx
      have hj := (List.getElem?_eq_some_iff.1 hx).1
      have hcj : cs[j]? = some cs[j] := by simp [hcl, ← hll, hj]
      have h1 := (hcg j (by omega)).trans hcj
      obtain ⟨V, hV, hr⟩ := cell_rel R (hA.add j) h1
      rw [add_addr] at hV
      rw [hV]
      have : ∀ (vs : List AV) (l : List (List UInt8)), vs.mapM textOf = some l → ∀ (j : Nat) (x : List UInt8), l[j]? = some x → vs[j]? = some (AV.str x) := by
        intro vs
        induction vs with
        | nil => intro l h; simp at h; subst h; simp
        | cons v vs ih =>
          intro l h j x hx
          simp only [List.mapM_cons, bind, Option.bind_eq_some_iff] at h
          obtain ⟨y, hy, ys, hys, hp⟩ := h
          simp [pure] at hp; subst hp
          cases j with
          | zero =>
            simp at hx; subst hx
            unfold textOf at hy
            split at hy
            · simp at hy; subst hy; simp
            · simp at hy
          | succ j => simpa using ih ys hys j x (by simpa using hx)
      have h2 := this cs l htx j x hx
      rw [hcj] at h2
      simp at h2
      rw [h2] at hr
      rw [str_rel hr]
    have ev : vs = #[.slice (some ⟨bo, oo, none⟩) len cap', .string ⟨sep.toArray⟩] := Array.toList_inj.1 (by rw [e1, e2, eY])
    have hm : (l.map fun x => (⟨x.toArray⟩ : ByteArray)).map (·.data.toList) = l := by
      rw [List.map_map]; simp [Function.comp_def]
    have := Sh.strings_Join bo oo cap' (l.map fun x => (⟨x.toArray⟩ : ByteArray)) ⟨sep.toArray⟩ W1 (fun j x hx => by
        rw [List.getElem?_map, Option.map_eq_some_iff] at hx
        obtain ⟨y, hy, rfl⟩ := hx
        exact hcells j y hy)
      (World.block_lt_of_cell? _ _ (hcells 0 _ (List.getElem?_eq_getElem (show 0 < l.length by omega)))) (by simp; omega) (by simp; omega) (by rw [hm]; show (Lib.join l sep).length ≤ _; omega)
    rw [hm, List.length_map, hll] at this
    rw [ev]
    exact this.mono fun e W' ⟨he, hw⟩ => ⟨⟨_, he, by simp [VRel]⟩, hw⟩
end Go.Proofs.YtbofhlifobjolaaGreatDoor.Ax
