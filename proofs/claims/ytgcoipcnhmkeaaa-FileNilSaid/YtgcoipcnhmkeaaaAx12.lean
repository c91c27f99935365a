/- AX, part 12: append (run), copy, a string's bytes. -/
import Derived.Test.YtgcoipcnhmkeaaaAx11
set_option linter.unusedVariables false
set_option linter.unusedSimpArgs false
namespace Go.Proofs.Ytgcoipcnhmkeaaa.Ax
open Go.RowKit

section
variable {C : Cx} {ρ : Rho} {h : AH} {W : World}

theorem drewCells (R : Rel C.W0 ρ h W) {a : AA} {A : Addr} (hA : ARel ρ a A) {n : Nat} {vs : List AV} (hv : aCells C h a n = some vs) :
    ∃ Vs, (loadCells A n).run C.P W.drew = .ok Vs W.drew ∧ VsRel ρ vs Vs.toList := loadCells_rel R.drew hA hv

theorem drew_size (W : World) : W.drew.heap.size = W.heap.size := rfl

/-- Behind a new row: the result. -/
theorem append_new (R : Rel C.W0 ρ h W) {cs : List AV} {c : Array Value} {el : TypeId} {sz m nc : Nat} (hm : m ≤ nc) (hc : c.size = nc * sz) (hl : cs.length = m * sz) (hr : VsRel ρ cs (c.toList.take (m * sz))) :
    ∃ ρ', ρ <+: ρ' ∧ Rel C.W0 ρ' (h.push (.cells cs el)) (W.drew.alloc (.cells c el)) ∧ VRel ρ' (.sl (some (.new h.next 0)) m m (some sz)) (.slice (some ⟨W.heap.size, 0, none⟩) m nc) := by
  have hle : m * sz ≤ c.size := by rw [hc]; exact Nat.mul_le_mul_right _ hm
  obtain ⟨hR, hp, hg⟩ := R.drew.newPrefix (m * sz) hl.symm hr hle el
  refine ⟨_, hp, hR, ?_⟩
  simp only [VRel]
  refine ⟨_, ⟨W.heap.size, 0, none⟩, nc, hg, rfl, hm, hm, fun e => by simp at e, .inl ⟨by simp, fun n hn => ?_⟩⟩
  simp at hn; subst hn
  show 0 + 0 + nc * sz ≤ c.size
  omega

theorem run_aAppend (ok : C.OK) (R : Rel C.W0 ρ h W) {ts : Array TypeId} {ty : TypeId} {s x v : AV} {S X : Value} {h' : AH} (hs : aAppend C h ts s x = some (v, h')) (hS : VRel ρ s S) (hx : VRel ρ x X) :
    ∃ V W' ρ', (Builtin.append_ ts ty #[S, X]).run C.P W = .ok V W' ∧ ρ <+: ρ' ∧ Rel C.W0 ρ' h' W' ∧ VRel ρ' v V := by
  unfold aAppend at hs
  split at hs
  · simp at hs
  rename_i st hts
  split at hs
  case h_2 => simp at hs
  rename_i el base len cap gr hk
  split at hs
  case h_2 => simp at hs
  rename_i sz zs hsz hz
  split at hs
  case isFalse => simp at hs
  rename_i hcond
  obtain ⟨hni, hp, hb⟩ := hcond
  split at hs
  · simp at hs
  rename_i n news hn
  obtain ⟨hlen, hnl, hfirst⟩ := run_aNews R hn hx hp
  -- the slice as the machine has it
  have hform : ∃ base' cap', S = .slice base' len cap' ∧ cap ≤ cap' ∧ (gr = none → cap' = cap) := by
    cases base with
    | none => simp only [VRel] at hS; obtain ⟨rfl, rfl, _, rfl⟩ := hS; exact ⟨_, _, rfl, Nat.le_refl _, fun _ => rfl⟩
    | some a => cases a with
      | base b o => simp only [VRel] at hS; obtain ⟨_, rfl⟩ := hS; exact ⟨_, _, rfl, Nat.le_refl _, fun _ => rfl⟩
      | new k o => simp only [VRel] at hS; obtain ⟨r, A, c, _, rfl, _, h2, h3, _⟩ := hS; exact ⟨_, _, rfl, h2, h3⟩
  obtain ⟨base', cap', rfl, hcc, hex⟩ := hform
  split at hs
  · -- within the capacity
    rename_i hle
    rw [run_append_in ok R hts hk hsz hni hp hx hn (by omega)]
    obtain ⟨Vs, hV, hVr⟩ := hfirst W (fun _ _ h => h)
    split at hs
    · rename_i h0
      subst h0
      simp at hs
      obtain ⟨rfl, rfl⟩ := hs
      have hVs : Vs = #[] := by
        have := hVr.length
        simp [hnl] at this
        exact this
      subst hVs
      refine ⟨.slice base' len cap', W, ρ, ?_, List.prefix_refl _, R, hS⟩
      cases base' <;> simp [hV, storeCells]
    · rename_i h0
      cases base with
      | none => simp at hs
      | some a =>
        simp only [Option.map_eq_some_iff, Prod.mk.injEq] at hs
        obtain ⟨h2, hst, rfl, rfl⟩ := hs
        -- the place behind the last
        cases a with
        | base b o => simp [AA.add, aStore] at hst
        | new k o =>
          have hS' := hS
          simp only [VRel] at hS
          obtain ⟨r, A, c', hr, he, h5, h6, h7, h8⟩ := hS
          simp only [Value.slice.injEq] at he
          obtain ⟨rfl, _, rfl⟩ := he
          rcases h8 with ⟨hA, hbd⟩ | h8
          · have hAr : ARel ρ (AA.new k o) A := ⟨r, hr, hA⟩
            obtain ⟨W', hrun, hR'⟩ := run_aStore R (hAr.add (len * sz)) hVr hst
            refine ⟨.slice (some A) (len + n) cap', W', ρ, by simp [hV, hrun], List.prefix_refl _, hR', ?_⟩
            simp only [VRel]
            exact ⟨r, A, cap', hr, rfl, by omega, h6, h7, .inl ⟨hA, hbd⟩⟩
          · omega
  · rename_i hgt
    split at hs
    case isFalse => simp at hs
    rename_i hbd
    -- the two ways behind the capacity
    have copy : ∀ (old : List AV) (h1 : AH) (R1 : Rel C.W0 ρ h1 W), cap' < len + n → old.length = len * sz →
        (∃ Os, (Builtin.firstCells sz len (.slice base' len cap')).run C.P W.drew = .ok Os W.drew ∧ VsRel ρ old Os.toList) →
        ∃ V W' ρ', (Builtin.append_ ts ty #[.slice base' len cap', X]).run C.P W = .ok V W' ∧ ρ <+: ρ' ∧ Rel C.W0 ρ' (h1.push (.cells (old ++ news) el)) W' ∧ VRel ρ' (.sl (some (.new h1.next 0)) (len + n) (len + n) (some sz)) V := by
      intro old h1 R1 hlt hol hold
      obtain ⟨c, nc, hrun, hnc, hcs, hll, hrel⟩ := run_append_out (ty := ty) ok R hts hk hsz hz hni hp hb hx hn hlt hbd hol hold
      obtain ⟨ρ', hp', hR', hv'⟩ := append_new R1 (el := el) hnc hcs hll hrel
      exact ⟨_, _, ρ', hrun, hp', hR', hv'⟩
    split at hs
    · -- the capacity is known
      have hce := hex rfl
      have hlt : cap' < len + n := by omega
      split at hs
      · simp at hs
        obtain ⟨rfl, rfl⟩ := hs
        simp only [VRel] at hS
        obtain ⟨rfl, _, _, he⟩ := hS
        simp only [Value.slice.injEq] at he
        obtain ⟨rfl, _, rfl⟩ := he
        exact copy [] h R hlt (by simp) ⟨#[], by simp [Builtin.firstCells], by simp [VsRel]⟩
      · rename_i a
        split at hs
        · rename_i h0
          subst h0
          simp at hs
          obtain ⟨rfl, rfl⟩ := hs
          have := copy [] h R hlt (by simp) ⟨#[], by cases base' <;> simp [Builtin.firstCells, loadCells, loadCellsFrom], by simp [VsRel]⟩
          simpa using this
        · rename_i h0
          simp only [Option.map_eq_some_iff, Prod.mk.injEq] at hs
          obtain ⟨old, hold, rfl, rfl⟩ := hs
          obtain ⟨A, c2, he, hA⟩ := sl_addr hS (by omega)
          simp only [Value.slice.injEq] at he
          obtain ⟨rfl, _, rfl⟩ := he
          obtain ⟨Os, hO, hOr⟩ := drewCells R hA hold
          exact copy old h R hlt (aCells_get hold).1 ⟨Os, by simpa [Builtin.firstCells] using hO, hOr⟩
    · -- it isn't
      rename_i gg
      split at hs
      case h_2 => simp at hs
      rename_i k o
      split at hs
      case h_2 => simp at hs
      rename_i cs t hk1
      split at hs
      case isFalse => simp at hs
      rename_i hc1
      obtain ⟨rfl, hgs, htail, hones, ho0⟩ := hc1
      simp at hgs; subst hgs
      simp at hs
      obtain ⟨rfl, rfl⟩ := hs
      have hS' := hS
      simp only [VRel] at hS
      obtain ⟨r, A, c2, hr, he, h5, h6, h7, h8⟩ := hS
      simp only [Value.slice.injEq] at he
      obtain ⟨rfl, _, rfl⟩ := he
      obtain ⟨r', hr', hb0, c, fr, hbk, hz1, hlen1, hall, hfr⟩ := R.live k _ hk1
      rw [hr] at hr'; cases hr'
      have hold : aCells C h (.new k o) (len * gg) = some (cs.drop o) := by
        simp only [aCells, hk1]
        rw [if_pos (by omega), List.take_of_length_le (by simp; omega)]
      by_cases hroom : len + n ≤ cap'
      · -- in its own place
        rcases h8 with ⟨hA, hbnd⟩ | h8
        case inr => omega
        have hbnd' := hbnd gg rfl
        rw [run_append_in ok R hts hk hsz hni hp hx hn hroom]
        obtain ⟨Vs, hV, hVr⟩ := hfirst W (fun _ _ h => h)
        have hVl := hVr.length
        have hsum : (len + n) * gg ≤ cap' * gg := Nat.mul_le_mul_right _ hroom
        rw [Nat.add_mul] at hsum
        have hVl2 : Vs.toList.length = n * gg := by omega
        have hVl3 : Vs.size = n * gg := by simpa using hVl2
        obtain ⟨W', c', hrun, hw, hb', hc'⟩ := run_storeCells C.P r.b (r.s + o + len * gg) Vs.toList 0 W c t fr hbk (by omega) hfr (ones_rel hones hVr)
        subst hA
        have hcsz : c'.size = c.size := by
          have := congrArg List.length hc'
          simp only [Array.length_toList] at this
          rw [this]
          unfold overV; simp; omega
        have hdrop : (cs.drop o).length = len * gg := by simp; omega
        refine ⟨.slice (some ⟨r.b, r.s + o, none⟩) (len + n) cap', W', ρ ++ [⟨r.b, r.s + o, r.z⟩], ?_, List.prefix_append _ _, R.move hk1 (.cells (cs.drop o ++ news) t) hr (r.s + o) hw.other hw.size hw.os hw.tape hw.output ?_ (by rw [R.home r (List.mem_of_getElem? hr), ho0]), ?_⟩
        · simp only [Sem.run_bind, hV, Result.andThen_ok]
          rw [add_addr]
          simp only [hrun, Result.andThen_ok, Sem.run_pure]
        · have hpf : ρ <+: ρ ++ [(⟨r.b, r.s + o, r.z⟩ : RE)] := List.prefix_append _ _
          refine ⟨c', fr, hb', by show c'.size = r.z; omega, by show r.s + o + (cs.drop o ++ news).length ≤ r.z; simp only [List.length_append, hdrop, hnl]; omega, fun i v hi => ?_, by rw [hcsz]; exact hfr⟩
          have hget : c'[r.s + o + i]? = (overV c.toList Vs.toList (r.s + o + len * gg + 0))[r.s + o + i]? := by rw [← hc']; simp
          rw [hget, overV_get _ _ _ _ (by simp; omega)]
          rw [List.getElem?_append] at hi
          rw [hdrop] at hi
          simp only [Nat.add_zero]
          split at hi
          · rename_i h1
            rw [if_pos (by omega)]
            rw [List.getElem?_drop] at hi
            obtain ⟨V, hV1, hV2⟩ := hall (o + i) v hi
            exact ⟨V, by rw [show r.s + o + i = r.s + (o + i) by omega]; simpa using hV1, hV2.mono hpf⟩
          · rename_i h1
            have h2 := (List.getElem?_eq_some_iff.1 hi).1
            rw [if_neg (by omega), if_pos (by omega)]
            obtain ⟨V, hV1, hV2⟩ := hVr.get _ v hi
            exact ⟨V, by rw [show r.s + o + i - (r.s + o + len * gg) = i - len * gg by omega]; exact hV1, hV2.mono hpf⟩
        · simp only [VRel]
          refine ⟨⟨r.b, r.s + o, r.z⟩, _, cap', by rw [← R.len]; simp, rfl, hroom, hroom, fun e => by simp at e, .inl ⟨by simp, fun m hm => ?_⟩⟩
          simp at hm; subst hm
          simp only [Nat.add_zero]
          omega
      · have hlt : cap' < len + n := by omega
        have := copy (cs.drop o) (h.kill k) (R.kill k) hlt (aCells_get hold).1 (by
          by_cases hl0 : len = 0
          · subst hl0
            have : cs.drop o = [] := by apply List.eq_nil_of_length_eq_zero; simp; omega
            rw [this]
            exact ⟨#[], by simp [Builtin.firstCells, loadCells, loadCellsFrom], by simp [VsRel]⟩
          · rcases h8 with ⟨hA, _⟩ | h8
            · have hAr : ARel ρ (AA.new k o) A := ⟨r, hr, hA⟩
              obtain ⟨Os, hO, hOr⟩ := drewCells R hAr hold
              exact ⟨Os, by simpa [Builtin.firstCells] using hO, hOr⟩
            · omega)
        simpa using this

end
end Go.Proofs.Ytgcoipcnhmkeaaa.Ax
