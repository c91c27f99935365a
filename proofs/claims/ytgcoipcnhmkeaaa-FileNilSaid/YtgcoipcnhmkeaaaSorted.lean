/- The contract of slices.Sorted over maps.Keys, among own blocks. -/
import Derived.Test.YtgcoipcnhmkeaaaKnown
set_option linter.unusedVariables false
set_option linter.unusedSimpArgs false
namespace Go.Proofs.Ytgcoipcnhmkeaaa.Ax
open Go.RowKit Go.Maps Go.Sort Go.Shelf

theorem sorts_wide (m : Nat) : AnyZI.SortsIn Try.prog Sh.sortedI_ren Fence.wide m :=
  ⟨fun blk off cap ss W hH hblk hsz => callsIn_wide.2 (AnyM.slices_Sort_int Sh.sortI blk off cap ss W hH hblk hsz),
   fun p cap W => callsIn_wide.2 (AnyM.slices_Sort_int_none Sh.sortI p cap W)⟩

theorem sorted_calls (B b nn : Nat) (D0 : DataW Unit) (W : World) (hB : B < W.heap.size) (hm : W.cell? ⟨B, 0, none⟩ = some (.map (some b))) (hown : W.ownsMap Try.prog 3 RU b nn D0) (hmax : Maps.size D0 ≤ 1000000) :
    Calls Try.prog 38 #[.func (.func 68) #[] #[.pointer (some ⟨B, 0, none⟩)]] W fun e w' => ∃ (v : Value) (ss : List Int), e = .returned v ∧ ss.Perm (intKeys D0) ∧
      w'.ownsRow W.heap.size 3 1 v ss.length ((ss.mergeSort (fun x y => decide (x ≤ y))).map encZ) ∧ (v = .slice none 0 0 ↔ ss = []) ∧ Below W.heap.size W w' := by
  have hseq : SeqGives Fence.wide 2 Try.prog 68 #[.pointer (some ⟨B, 0, none⟩)] encZ (fun ss => ss.Perm (intKeys D0)) (Maps.size D0) W :=
    AnyZI.keys_gives (ρ := Sh.keysI_ren) { Sh.keysI with } Fence.wide _ trivial rfl (by omega) B b nn D0 W hB hm hown
  have cS := AnyZI.sorted_in Sh.sortedI Fence.wide 5 trivial trivial trivial trivial rfl (by omega) (sorts_wide _) (enters_of Try.func67 (by kernel_rfl) rfl) 68 #[.pointer (some ⟨B, 0, none⟩)] trivial
    (enters_of Try.func68 (by kernel_rfl) rfl) _ _ (by unfold maxLen; omega) (by omega) _ hseq
  exact callsIn_wide.1 cS

theorem sorted_calls_nil (B : Nat) (W : World) (hB : B < W.heap.size) (hm : W.cell? ⟨B, 0, none⟩ = some (.map none)) :
    Calls Try.prog 38 #[.func (.func 68) #[] #[.pointer (some ⟨B, 0, none⟩)]] W fun e w' => ∃ (v : Value) (ss : List Int), e = .returned v ∧ ss = [] ∧
      w'.ownsRow W.heap.size 3 1 v ss.length ((ss.mergeSort (fun x y => decide (x ≤ y))).map encZ) ∧ (v = .slice none 0 0 ↔ ss = []) ∧ Below W.heap.size W w' := by
  have hseq : SeqGives Fence.wide 2 Try.prog 68 #[.pointer (some ⟨B, 0, none⟩)] encZ (fun ss : List Int => ss = []) 0 W :=
    AnyZI.keys_gives_nil (ρ := Sh.keysI_ren) { Sh.keysI with } Fence.wide _ trivial rfl B W hB hm
  have cS := AnyZI.sorted_in Sh.sortedI Fence.wide 5 trivial trivial trivial trivial rfl (by omega) (sorts_wide _) (enters_of Try.func67 (by kernel_rfl) rfl) 68 #[.pointer (some ⟨B, 0, none⟩)] trivial
    (enters_of Try.func68 (by kernel_rfl) rfl) _ 0 (Nat.zero_le _) (by omega) _ hseq
  exact callsIn_wide.1 cS

theorem sorted_known (W : World) : KnownOK (CC W) (sortedKn 38 68 3) := by
  intro f args h r hr
  unfold sortedKn at hr
  split at hr
  case isFalse => simp at hr
  rename_i hf
  subst hf
  split at hr
  case h_2 => simp at hr
  rename_i g' k
  split at hr
  case isFalse => simp at hr
  rename_i hg
  subst hg
  intro ρ W1 vs R hv
  simp only [VsRel, VRel] at hv
  obtain ⟨X, xs, e1, ⟨us, ws, rfl, hus, hws⟩, rfl⟩ := hv
  obtain ⟨Y, ys, e2, ⟨A, ⟨r1, hr1, rfl⟩, rfl⟩, rfl⟩ := hws
  have ev : vs = #[.func (.func 68) #[] #[.pointer (some ⟨r1.b, 0, none⟩)]] := by
    have h0 := R.home r1 (List.mem_of_getElem? hr1)
    refine Array.toList_inj.1 ?_
    rw [e1]
    congr 2
    · exact Array.toList_inj.1 hus
    · exact Array.toList_inj.1 (by rw [e2, h0])
  split at hr
  case h_3 => simp at hr
  · rename_i t hk
    obtain ⟨r1', hr1', _, c, fr, hb1, hz1, hl1, hall1, _⟩ := R.live k _ hk
    rw [hr1] at hr1'; cases hr1'
    have h0 := R.home r1 (List.mem_of_getElem? hr1)
    obtain ⟨V, hV, hVr⟩ := hall1 0 _ rfl
    rw [h0] at hV
    simp only [VRel] at hVr
    subst hVr
    simp at hr
    subst hr
    have hB : r1.b < W1.heap.size := (Array.getElem?_eq_some_iff.1 hb1).1
    have hm : W1.cell? ⟨r1.b, 0, none⟩ = some (.map none) := by
      have hc : c[0]? = some (.map none) := by simpa using hV
      simp [World.cell?, hb1, hc]
    rw [ev]
    refine (sorted_calls_nil r1.b W1 hB hm).mono fun e W' ⟨v, ss, he, hss, hrow, hnil, hbel⟩ => ?_
    subst he
    rw [hnil.2 hss]
    exact ⟨ρ, _, h, List.prefix_refl _, R.belowEnd hbel, by simp [VRel], rfl, rfl⟩
  rename_i j t hk
  split at hr
  case h_2 => simp at hr
  rename_i es clock hj
  split at hr
  case isFalse => simp at hr
  rename_i hok
  have ok := okEs_ok hok
  obtain ⟨r1', hr1', _, c, fr, hb1, hz1, hl1, hall1, _⟩ := R.live k _ hk
  rw [hr1] at hr1'; cases hr1'
  have h0 := R.home r1 (List.mem_of_getElem? hr1)
  obtain ⟨V, hV, hVr⟩ := hall1 0 _ rfl
  rw [h0] at hV
  simp only [VRel] at hVr
  obtain ⟨r2, hr2, rfl⟩ := hVr
  obtain ⟨r2', hr2', _, es', hb2, hes⟩ := R.live j _ hj
  rw [hr2] at hr2'; cases hr2'
  obtain ⟨D0, hown, hsize, hperm⟩ := owns_of_ents (P := Try.prog) (K := 3) Try.underlying3 hb2 hes ok
  have hB : r1.b < W1.heap.size := (Array.getElem?_eq_some_iff.1 hb1).1
  have hm : W1.cell? ⟨r1.b, 0, none⟩ = some (.map (some r2.b)) := by
    have hc : c[0]? = some (.map (some r2.b)) := by simpa using hV
    simp [World.cell?, hb1, hc]
  rw [ev]
  refine (sorted_calls r1.b r2.b _ D0 W1 hB hm hown (by rw [hsize]; exact ok.few)).mono fun e W' ⟨v, ss, he, hss, hrow, hnil, hbel⟩ => ?_
  subst he
  have hss2 := hss.trans hperm
  have hsort := sortI_eq hss2
  have hlen : ss.length = es.length := by rw [hss2.length_eq]; simp
  rw [hsort] at hrow
  split at hr
  · simp at hr
    subst hr
    have : ss = [] := List.eq_nil_of_length_eq_zero (by simpa using hlen)
    rw [hnil.2 this]
    exact ⟨ρ, _, h, List.prefix_refl _, R.belowEnd hbel, by simp [VRel], rfl, rfl⟩
  · rename_i hne
    simp at hr
    subst hr
    have hne' : es ≠ [] := fun h => hne h
    rcases hrow.2 with ⟨rfl, hz⟩ | ⟨g, cap, cur, rfl, hbase, hgb, hc1, hc2, hc3, hc4⟩
    · have : ss = [] := List.eq_nil_of_length_eq_zero hz
      rw [this] at hlen
      exact absurd (List.eq_nil_of_length_eq_zero hlen.symm) hne'
    · have hsl : (sortI (es.map intKey)).length = es.length := by rw [(sortI_perm _).length_eq]; simp
      refine ⟨ρ ++ [⟨g, 0, cur.size⟩], _, _, List.prefix_append _ _, R.pushB hbel hbase (.cells ((sortI (es.map intKey)).map fun n => .int .i64 n) 3) ?_, ?_, rfl, rfl⟩
      · refine ⟨cur, (0, 0), hgb, rfl, ?_, fun i v hi => ?_, fun j _ => by simp⟩
        · simp only [List.length_map, hsl, Nat.zero_add]
          omega
        · simp only [List.getElem?_map, Option.map_eq_some_iff] at hi
          obtain ⟨n, hn, rfl⟩ := hi
          have hlt := (List.getElem?_eq_some_iff.1 hn).1
          refine ⟨.int .i64 n, ?_, by simp [VRel]⟩
          have h4 : (cur.toList.take (ss.length * 1))[i]? = some (encZ n) := by
            rw [hc4, List.getElem?_map, hn]; rfl
          rw [List.getElem?_take] at h4
          split at h4
          · simpa using h4
          · simp at h4
      · simp only [VRel]
        refine ⟨⟨g, 0, cur.size⟩, ⟨g, 0, none⟩, cap, by rw [← R.len]; simp, by rw [hlen], by omega, by omega, fun h => by simp at h, .inl ⟨by simp, fun n hn => ?_⟩⟩
        simp at hn
        subst hn
        simp only [Nat.zero_add]
        omega
end Go.Proofs.Ytgcoipcnhmkeaaa.Ax
