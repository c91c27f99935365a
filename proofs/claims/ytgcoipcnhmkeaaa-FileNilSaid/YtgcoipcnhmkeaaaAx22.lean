/- AX, part 22: drawn regions of one order, by steps; bytes in memory. -/
import Derived.Test.YtgcoipcnhmkeaaaAx21
set_option linter.unusedVariables false
set_option linter.unusedSimpArgs false
namespace Go.Proofs.Ytgcoipcnhmkeaaa.Ax
open Go.RowKit

theorem opWp_pure {C : Cx} {o : Oper} {g : Operand → AV} {h : AH} {K Kp : AV → AH → Prop} (hE : isE C o = false) (hw : opWp C o g h K Kp) : ∃ v, evalN C o g h = some v ∧ K v h := by
  unfold opWp at hw
  cases hv : evalN C o g h with
  | some v => rw [hv] at hw; exact ⟨v, rfl, hw⟩
  | none =>
    rw [hv] at hw
    exfalso
    simp only at hw
    unfold isE at hE
    have hf : effA C o g h = none := by
      unfold effA
      split
      all_goals first
        | rfl
        | (rename_i heq; rw [heq] at hE; simp at hE; done)
        | skip
      · rename_i s d x heq
        rw [heq] at hE
        unfold aConvE
        split
        · rfl
        · rename_i hk _ _; simp [hk] at hE
        · rfl
      · rename_i c heq
        rw [heq] at hE
        split
        all_goals first
          | rfl
          | (rename_i hc; simp [hc] at hE; done)
    have hc : calleeA C o g = none := by
      unfold calleeA
      split
      · rename_i c heq
        rw [heq] at hE
        split <;> rename_i hc <;> simp [hc] at hE <;> rfl
      · rfl
    rw [hf, hc] at hw
    simp only at hw
    split at hw
    · rename_i heq; rw [heq] at hE; simp at hE
    · rename_i heq; rw [heq] at hE; simp at hE
    · exact hw

def readsReach (C : Cx) (ops : Array Oper) : List Nat → List Nat → Bool
  | [], _ => true
  | i :: rest, rs => (!isE C (opA ops i) || rs.all fun r => reach ops ops.size i r) && readsReach C ops rest (if !isE C (opA ops i) && isRead (opA ops i) then i :: rs else rs)

theorem sched_of_ops {C : Cx} {ops : Array Oper} {Q : Post} : ∀ (L : List Nat) (rs : List (Nat × AV × Env)) (rn : List Nat) (e : Env) (h : AH), (∀ r ∈ rs, r.1 ∈ rn) → readsReach C ops L rn = true → opsWp C ops Q (L.map (opA ops)) e h → schedWp C ops Q L rs e h
  | [], rs, rn, e, h, hr, hb, hw => hw
  | i :: rest, rs, rn, e, h, hr, hb, hw => by
    simp only [readsReach, Bool.and_eq_true] at hb
    simp only [List.map_cons, opsWp] at hw
    simp only [schedWp]
    split at hw
    · rename_i hwa
      simp only [hwa]
      cases hE : isE C (opA ops i) with
      | true =>
        simp only [if_true]
        simp only [hE, Bool.not_true, Bool.false_or, Bool.false_and, Bool.false_eq_true, if_false, List.all_eq_true] at hb
        refine opWp_mono hw (fun v h' hk => ⟨fun r hrm hrr => ?_, sched_of_ops rest rs rn _ h' hr hb.2 hk⟩) fun v h' hk => hk
        rw [hb.1 _ (hr r hrm)] at hrr; simp at hrr
      | false =>
        simp only [Bool.false_eq_true, if_false]
        obtain ⟨v, hv, hk⟩ := opWp_pure hE hw
        simp only [hv]
        simp only [hE, Bool.not_false, Bool.true_and, true_and] at hb
        refine sched_of_ops rest _ _ _ h (fun r hrm => ?_) hb.2 hk
        split at hrm
        · rename_i hR; rw [if_pos hR]
          simp only [List.mem_cons] at hrm ⊢
          rcases hrm with rfl | hrm
          · left; rfl
          · right; exact hr r hrm
        · rename_i hR; rw [if_neg hR]; exact hr r hrm
    · rename_i hwa
      simp only [hwa]
      have hrn : ∀ (x : List Nat), readsReach C ops rest x = true → (∀ r ∈ rs, r.1 ∈ x) → schedWp C ops Q rest rs (putE e (opA ops i).dst .undef) h := fun x hx hrx => sched_of_ops rest rs x _ h hrx hx hw
      have := hrn _ hb.2 (fun r hrm => by
        have := hr r hrm
        split
        · exact List.mem_cons_of_mem _ this
        · exact this)
      split <;> exact this
    · exact hw.elim

/-- A drawn region with one order of its effects. -/
theorem draw1 {C : Cx} (ok : C.OK) {Q : Post} {ks : List Fr} {e : Env} {h : AH} {id : Nat} {ops : Array Oper} (L : List Nat) (hB : drawB C ops = true) (hc : canons C ops = [L]) (hv : readsReach C ops L [] = true)
    (hL : L.map (opA ops) = ops.toList) (hw : Rg C Q ops ops.toList ks e h) : Wc C Q (.region id ops true) ks e h := by
  refine ⟨⟨hB, fun c hcm => ?_⟩⟩
  rw [hc, List.mem_singleton] at hcm
  subst hcm
  exact sched_of_ops c [] [] e h (fun r hr => by simp at hr) hv (by rw [hL]; exact hw.out)

/-- The cells of bytes. -/
def bcells (l : List UInt8) : List AV := l.map fun b => .int .u8 b.toNat
theorem bcells_fold (l : List UInt8) : (l.map fun b => AV.int .u8 b.toNat) = bcells l := rfl
theorem bcells_length (l : List UInt8) : (bcells l).length = l.length := by simp [bcells]
theorem bcells_get {l : List UInt8} {k : Nat} {x : UInt8} (h : l[k]? = some x) : (bcells l)[k]? = some (.int .u8 x.toNat) := by simp [bcells, h]
theorem bcells_put {l : List UInt8} {k : Nat} {n : Nat} (hk : k < l.length) (hn : n < 256) : overlay (bcells l) [.int .u8 (n : Int)] k = bcells (l.set k (UInt8.ofNat n)) := by
  have h1 : bcells (l.set k (UInt8.ofNat n)) = (bcells l).set k (.int .u8 (n : Int)) := by
    simp only [bcells, List.map_set]
    congr 2
    simp [Nat.mod_eq_of_lt hn]
  rw [h1, List.set_eq_take_append_cons_drop, if_pos (by rw [bcells_length]; exact hk)]
  simp [overlay]
theorem bcells_read (l : List UInt8) : (bcells l).mapM byteOf1 = some l := by
  induction l with
  | nil => rfl
  | cons b l ih =>
    simp only [bcells, List.map_cons, List.mapM_cons, byteOf1] at ih ⊢
    rw [ih]
    simp
end Go.Proofs.Ytgcoipcnhmkeaaa.Ax
