/- The texts ShelfK, Known, Sorted, as one. -/
import Derived.Shelf.SlIterI.Nil
import Derived.Shelf.SortM.Plain
import Derived.Shelf.SortM.SortNone
import Derived.Test.YtgcoipcnhmkeaaaProg
import Derived.Test.YtgcoipcnhmkeaaaGc
import Derived.Test.YtgcoipcnhmkeaaaGbb

/-! The contracts of slices.Sorted over maps.Keys at this program (written by the kit's own tool) -/
section
namespace Go.Proofs.Ytgcoipcnhmkeaaa
open Go.Shelf
def Sh.keysI_ren : Go.Shelf.Ren := ⟨fun | 10 => 68 | n => n, fun | 33 => 126 | 23 => 83 | 0 => 0 | 4 => 4 | 26 => 3 | 3 => 9 | n => n, fun | n => n⟩
theorem Sh.keysI : Go.Proofs.SlLaysZI.n10 Try.prog Sh.keysI_ren := {
  mixed := by kernel_rfl
  f10 := ⟨Try.f68.name, by decide, Try.func68.trans (congrArg some (by kernel_rfl))⟩
  t0 := Try.underlying0
  a0 := Try.isAgg0
  z0 := Try.sizeOf0
  v0 := Try.zeroValue0
  t4 := Try.underlying4
  a4 := Try.isAgg4
  z4 := Try.sizeOf4
  v4 := Try.zeroValue4
  t23 := Try.underlying83
  a23 := Try.isAgg83
  z23 := Try.sizeOf83
  v23 := Try.zeroValue83
  t26 := Try.underlying3
  a26 := Try.isAgg3
  z26 := Try.sizeOf3
  v26 := Try.zeroValue3
  t33 := Try.underlying126
  a33 := Try.isAgg126
  z33 := Try.sizeOf126
  v33 := Try.zeroValue126 }
def Sh.sortedI_ren : Go.Shelf.Ren := ⟨fun | 6 => 38 | 8 => 66 | 9 => 67 | 11 => 88 | 13 => 86 | 12 => 89 | 23 => 108 | 24 => 109 | 14 => 111 | 15 => 112 | 16 => 113 | 17 => 114 | 18 => 115 | 19 => 116 | 20 => 117 | 21 => 118 | 22 => 119 | 25 => 131 | 26 => 127 | 27 => 128 | 28 => 132 | 29 => 133 | 30 => 134 | 31 => 137 | n => n, fun | 26 => 3 | 28 => 88 | 24 => 57 | 0 => 0 | 3 => 3 | 37 => 116 | 48 => 163 | 50 => 165 | 4 => 4 | 40 => 156 | 39 => 155 | 45 => 160 | 5 => 5 | 9 => 9 | 51 => 180 | 55 => 129 | 57 => 188 | 58 => 58 | 33 => 126 | n => n, fun | n => n⟩
theorem Sh.sortedI : Go.Proofs.SlLaysZI.n6 Try.prog Sh.sortedI_ren := {
  mixed := by kernel_rfl
  f6 := ⟨Try.f38.name, by decide, Try.func38.trans (congrArg some (by kernel_rfl))⟩
  f8 := ⟨Try.f66.name, by decide, Try.func66.trans (congrArg some (by kernel_rfl))⟩
  f11 := ⟨Try.f88.name, by decide, Try.func88.trans (congrArg some (by kernel_rfl))⟩
  t0 := Try.underlying0
  a0 := Try.isAgg0
  z0 := Try.sizeOf0
  v0 := Try.zeroValue0
  t24 := Try.underlying57
  a24 := Try.isAgg57
  z24 := Try.sizeOf57
  v24 := Try.zeroValue57
  t26 := Try.underlying3
  a26 := Try.isAgg3
  z26 := Try.sizeOf3
  v26 := Try.zeroValue3
  t28 := Try.underlying88
  a28 := Try.isAgg88
  z28 := Try.sizeOf88
  v28 := Try.zeroValue88
  i26 := by kernel_rfl }
def Sh.sortI_ren : Go.Shelf.Ren := ⟨fun | 5 => 67 | 8 => 86 | 7 => 89 | 19 => 108 | 20 => 109 | 10 => 111 | 11 => 112 | 12 => 113 | 13 => 114 | 14 => 115 | 15 => 116 | 16 => 117 | 17 => 118 | 18 => 119 | 30 => 131 | 31 => 127 | 32 => 128 | 33 => 132 | 34 => 133 | 35 => 134 | 40 => 137 | n => n, fun | 23 => 57 | 25 => 3 | 3 => 3 | 32 => 116 | 22 => 57 | 0 => 0 | 44 => 163 | 46 => 165 | 4 => 4 | 36 => 156 | 35 => 155 | 41 => 160 | 5 => 5 | 9 => 9 | 53 => 180 | 57 => 129 | 63 => 188 | 64 => 58 | n => n, fun | n => n⟩
theorem Sh.sortI : Go.Proofs.SlLaysM.n5 Try.prog Sh.sortI_ren := {
  mixed := by kernel_rfl
  f5 := ⟨Try.f67.name, by decide, Try.func67.trans (congrArg some (by kernel_rfl))⟩
  f7 := ⟨Try.f89.name, by decide, Try.func89.trans (congrArg some (by kernel_rfl))⟩
  f8 := Try.func86.trans (congrArg some (by kernel_rfl))
  f10 := ⟨Try.f111.name, by decide, Try.func111.trans (congrArg some (by kernel_rfl))⟩
  f11 := ⟨Try.f112.name, by decide, Try.func112.trans (congrArg some (by kernel_rfl))⟩
  f12 := ⟨Try.f113.name, by decide, Try.func113.trans (congrArg some (by kernel_rfl))⟩
  f13 := ⟨Try.f114.name, by decide, Try.func114.trans (congrArg some (by kernel_rfl))⟩
  f14 := ⟨Try.f115.name, by decide, Try.func115.trans (congrArg some (by kernel_rfl))⟩
  f15 := ⟨Try.f116.name, by decide, Try.func116.trans (congrArg some (by kernel_rfl))⟩
  f16 := ⟨Try.f117.name, by decide, Try.func117.trans (congrArg some (by kernel_rfl))⟩
  f17 := ⟨Try.f118.name, by decide, Try.func118.trans (congrArg some (by kernel_rfl))⟩
  f18 := ⟨Try.f119.name, by decide, Try.func119.trans (congrArg some (by kernel_rfl))⟩
  f19 := Try.func108.trans (congrArg some (by kernel_rfl))
  f20 := Try.func109.trans (congrArg some (by kernel_rfl))
  f30 := ⟨Try.f131.name, by decide, Try.func131.trans (congrArg some (by kernel_rfl))⟩
  f31 := Try.func127.trans (congrArg some (by kernel_rfl))
  f32 := Try.func128.trans (congrArg some (by kernel_rfl))
  f33 := ⟨Try.f132.name, by decide, Try.func132.trans (congrArg some (by kernel_rfl))⟩
  f34 := ⟨Try.f133.name, by decide, Try.func133.trans (congrArg some (by kernel_rfl))⟩
  f35 := ⟨Try.f134.name, by decide, Try.func134.trans (congrArg some (by kernel_rfl))⟩
  f40 := ⟨Try.f137.name, by decide, Try.func137.trans (congrArg some (by kernel_rfl))⟩
  t0 := Try.underlying0
  a0 := Try.isAgg0
  z0 := Try.sizeOf0
  v0 := Try.zeroValue0
  t3 := Try.underlying3
  a3 := Try.isAgg3
  z3 := Try.sizeOf3
  v3 := Try.zeroValue3
  t4 := Try.underlying4
  a4 := Try.isAgg4
  z4 := Try.sizeOf4
  v4 := Try.zeroValue4
  t5 := Try.underlying5
  a5 := Try.isAgg5
  z5 := Try.sizeOf5
  v5 := Try.zeroValue5
  t9 := Try.underlying9
  a9 := Try.isAgg9
  z9 := Try.sizeOf9
  v9 := Try.zeroValue9
  t22 := Try.underlying57
  a22 := Try.isAgg57
  z22 := Try.sizeOf57
  v22 := Try.zeroValue57
  t23 := Try.underlying57
  a23 := Try.isAgg57
  z23 := Try.sizeOf57
  v23 := Try.zeroValue57
  t25 := Try.underlying3
  a25 := Try.isAgg3
  z25 := Try.sizeOf3
  v25 := Try.zeroValue3
  t32 := Try.underlying116
  a32 := Try.isAgg116
  z32 := Try.sizeOf116
  v32 := Try.zeroValue116
  t35 := Try.underlying155
  a35 := Try.isAgg155
  z35 := Try.sizeOf155
  v35 := Try.zeroValue155
  t36 := Try.underlying156
  a36 := Try.isAgg156
  z36 := Try.sizeOf156
  v36 := Try.zeroValue156
  t41 := Try.underlying160
  a41 := Try.isAgg160
  z41 := Try.sizeOf160
  v41 := Try.zeroValue160
  t44 := Try.underlying163
  a44 := Try.isAgg163
  z44 := Try.sizeOf163
  v44 := Try.zeroValue163
  t46 := Try.underlying165
  a46 := Try.isAgg165
  z46 := Try.sizeOf165
  v46 := Try.zeroValue165
  t53 := Try.underlying180
  a53 := Try.isAgg180
  z53 := Try.sizeOf180
  v53 := Try.zeroValue180
  t57 := Try.underlying129
  a57 := Try.isAgg129
  z57 := Try.sizeOf129
  v57 := Try.zeroValue129
  t63 := Try.underlying188
  a63 := Try.isAgg188
  z63 := Try.sizeOf188
  v63 := Try.zeroValue188
  t64 := Try.underlying58
  a64 := Try.isAgg58
  z64 := Try.sizeOf58
  v64 := Try.zeroValue58 }
end Go.Proofs.Ytgcoipcnhmkeaaa
end

/-! What is known of library calls that no walk enters: the keys of a map, sorted -/
section
set_option linter.unusedVariables false
set_option linter.unusedSimpArgs false
namespace Go.Proofs.Ytgcoipcnhmkeaaa.Ax
open Go.RowKit


def insI (x : Int) : List Int → List Int
  | [] => [x]
  | y :: l => if x ≤ y then x :: y :: l else y :: insI x l
def sortI : List Int → List Int
  | [] => []
  | x :: l => insI x (sortI l)

theorem insI_perm (x : Int) : ∀ l, (insI x l).Perm (x :: l)
  | [] => List.Perm.refl _
  | y :: l => by
    simp only [insI]
    split
    · exact List.Perm.refl _
    · exact ((insI_perm x l).cons y).trans (List.Perm.swap x y l)
theorem sortI_perm : ∀ l, (sortI l).Perm l
  | [] => List.Perm.refl _
  | x :: l => (insI_perm x _).trans ((sortI_perm l).cons x)
theorem insI_sorted (x : Int) : ∀ l, l.Pairwise (· ≤ ·) → (insI x l).Pairwise (· ≤ ·)
  | [], _ => by simp [insI]
  | y :: l, h => by
    simp only [insI]
    split
    · rename_i hxy
      refine List.pairwise_cons.2 ⟨fun z hz => ?_, h⟩
      rcases List.mem_cons.1 hz with rfl | hz
      · exact hxy
      · exact Int.le_trans hxy ((List.pairwise_cons.1 h).1 z hz)
    · rename_i hxy
      have h2 := List.pairwise_cons.1 h
      refine List.pairwise_cons.2 ⟨fun z hz => ?_, insI_sorted x l h2.2⟩
      have := (insI_perm x l).mem_iff.1 hz
      rcases List.mem_cons.1 this with rfl | hz
      · omega
      · exact h2.1 z hz
theorem sortI_sorted : ∀ l, (sortI l).Pairwise (· ≤ ·)
  | [] => List.Pairwise.nil
  | x :: l => insI_sorted x _ (sortI_sorted l)
theorem sortI_eq {l ss : List Int} (h : ss.Perm l) : ss.mergeSort (fun x y => decide (x ≤ y)) = sortI l := by
  have tr : ∀ a b c : Int, decide (a ≤ b) = true → decide (b ≤ c) = true → decide (a ≤ c) = true := fun a b c h1 h2 => by simp only [decide_eq_true_eq] at *; exact Int.le_trans h1 h2
  have to : ∀ a b : Int, (decide (a ≤ b) || decide (b ≤ a)) = true := fun a b => by simp only [Bool.or_eq_true, decide_eq_true_eq]; exact Int.le_total a b
  refine List.Perm.eq_of_pairwise (le := fun a b : Int => a ≤ b) (fun a b _ _ h1 h2 => Int.le_antisymm h1 h2) ?_ (sortI_sorted l) (((List.mergeSort_perm ss _).trans h).trans (sortI_perm l).symm)
  exact (List.pairwise_mergeSort tr to ss).imp fun h => by simpa using h

def intKey (e : AEnt) : Int := match e.key with
  | .int _ n => n
  | _ => 0
def isIntKey (e : AEnt) : Bool := match e.key with
  | .int .i64 n => decide (-9223372036854775808 ≤ n) && decide (n < 9223372036854775808)
  | _ => false
def nodupN : List Nat → Bool
  | [] => true
  | x :: l => !l.contains x && nodupN l
def nodupI : List Int → Bool
  | [] => true
  | x :: l => !l.contains x && nodupI l
theorem nodupN_iff : ∀ l, nodupN l = true ↔ l.Nodup
  | [] => by simp [nodupN]
  | x :: l => by simp [nodupN, nodupN_iff l]
theorem nodupI_iff : ∀ l, nodupI l = true ↔ l.Nodup
  | [] => by simp [nodupI]
  | x :: l => by simp [nodupI, nodupI_iff l]

/-- A map's entries: ints for keys, none twice, each stamp below the clock and none twice. -/
structure OkEs (es : List AEnt) (clock : Nat) : Prop where
  ints : ∀ e ∈ es, isIntKey e = true
  below : ∀ e ∈ es, e.born < clock
  borns : (es.map (·.born)).Nodup
  keys : (es.map intKey).Nodup
  few : es.length ≤ 1000000
def okEs (es : List AEnt) (clock : Nat) : Bool :=
  es.all isIntKey && es.all (fun e => decide (e.born < clock)) && nodupN (es.map (·.born)) && nodupI (es.map intKey) && decide (es.length ≤ 1000000)
theorem okEs_ok {es : List AEnt} {clock : Nat} (h : okEs es clock = true) : OkEs es clock := by
  simp only [okEs, Bool.and_eq_true, List.all_eq_true, decide_eq_true_eq, nodupN_iff, nodupI_iff] at h
  exact ⟨h.1.1.1.1, h.1.1.1.2, h.1.1.2, h.1.2, h.2⟩

/-- slices.Sorted over what maps.Keys gave: a new slice of the keys. -/
def sortedKn (fS g E : Nat) : Known := fun f args h =>
  if f = fS then match args with
    | [.fn (.func g') [] [.ptr (some (.new k 0))]] =>
      if g' = g then match h.get k with
        | some (.cells [.map none] _) => some (.sl none 0 0 none, h)
        | some (.cells [.map (some j)] _) => match h.get j with
          | some (.map es clock) =>
            if okEs es clock then match es with
              | [] => some (.sl none 0 0 none, h)
              | _ => some (.sl (some (.new h.next 0)) es.length es.length (some 1), h.push (.cells ((sortI (es.map intKey)).map fun n => .int .i64 n) E))
            else none
          | _ => none
        | _ => none
      else none
    | _ => none
  else none

/-! ### the machine's map -/
open Go.Maps Go.Sort Go.Shelf

def RU : Value → Option (DataW Unit × List MemPlace) := fun _ => some (.lit (.bool true), [])

theorem insert_perm {H : Type} (x : Lit × DataW H) : ∀ l, (DataW.insert x l).Perm (x :: l)
  | [] => List.Perm.refl _
  | y :: l => by
    simp only [DataW.insert]
    split
    · exact List.Perm.refl _
    · exact ((insert_perm x l).cons y).trans (List.Perm.swap x y l)
theorem foldr_insert_perm {H : Type} : ∀ l : List (Lit × DataW H), (l.foldr DataW.insert []).Perm l
  | [] => List.Perm.refl _
  | x :: l => (insert_perm x _).trans ((foldr_insert_perm l).cons x)

theorem keyOf_int {P : Program} {K : TypeId} (hK : P.underlying K = some (.int .i64)) {n : Int} (h1 : -9223372036854775808 ≤ n) (h2 : n < 9223372036854775808) : keyOf P K (.int .i64 n) = some (.int .i64 n) := by
  have hw : (Lit.int .i64 n).wf = true := by
    have e1 : IntKind.i64.min = -9223372036854775808 := by decide +kernel
    have e2 : IntKind.i64.max = 9223372036854775807 := by decide +kernel
    simp [Lit.wf, e1, e2]
    omega
  simp [keyOf, hK, mapKey, hw]

def entKey (x : MapEntry) : Int := match x.key with
  | .int _ n => n
  | _ => 0

theorem ents_int {ρ : Rho} : ∀ {es : List AEnt} {xs : List MapEntry}, EntsRel ρ es xs → (∀ e ∈ es, isIntKey e = true) →
    xs.map entKey = es.map intKey ∧ xs.map (·.born) = es.map (·.born) ∧ ∀ x ∈ xs, ∃ n, x.key = .int .i64 n ∧ -9223372036854775808 ≤ n ∧ n < 9223372036854775808
  | [], xs, h, _ => by simp only [EntsRel] at h; subst h; simp
  | e :: es, xs, h, hi => by
    simp only [EntsRel] at h
    obtain ⟨x, xs', rfl, ⟨h1, _, h3⟩, h4⟩ := h
    obtain ⟨a, b, c⟩ := ents_int h4 fun e he => hi e (by simp [he])
    have he := hi e (by simp)
    unfold isIntKey at he
    split at he
    · rename_i n hk
      simp only [Bool.and_eq_true, decide_eq_true_eq] at he
      rw [hk] at h1
      have hx := int_rel h1
      refine ⟨by simp [a, entKey, intKey, hk, hx], by simp [b, h3], fun y hy => ?_⟩
      rcases List.mem_cons.1 hy with rfl | hy
      · exact ⟨n, hx, he.1, he.2⟩
      · exact c y hy
    · simp at he

theorem nodup_of_map {α β : Type} (f : α → β) : ∀ {l : List α}, (l.map f).Nodup → l.Nodup
  | [], _ => List.nodup_nil
  | x :: l, h => by
    rw [List.map_cons, List.nodup_cons] at h
    exact List.nodup_cons.2 ⟨fun hx => h.1 (List.mem_map.2 ⟨x, hx, rfl⟩), nodup_of_map f h.2⟩

/-- The machine's block is a map of int keys: as the kit says it. -/
theorem owns_of_ents {P : Program} {K : TypeId} (hK : P.underlying K = some (.int .i64)) {W : World} {b clock : Nat} {es' : Array MapEntry} {es : List AEnt} {ρ : Rho} (hb : W.heap[b]? = some (.map es' clock)) (hr : EntsRel ρ es es'.toList) (ok : OkEs es clock) :
    ∃ D0 : DataW Unit, W.ownsMap P K RU b es'.size D0 ∧ Maps.size D0 = es.length ∧ (intKeys D0).Perm (es.map intKey) := by
  obtain ⟨h1, h2, h3⟩ := ents_int hr ok.ints
  have hlen : es'.size = es.length := by have := hr.length; simpa using this
  have hrd : ∀ x ∈ es'.toList, Go.WideElems.rd P K RU x = some (.int .i64 (entKey x), .lit (.bool true)) := by
    intro x hx
    obtain ⟨n, hn, a, b⟩ := h3 x hx
    simp [Go.WideElems.rd, hn, keyOf_int hK a b, RU, entKey]
  refine ⟨_, ⟨es', clock, hb, ⟨?_, ⟨fun x hx => ?_, ?_, ?_⟩, fun x hx => ⟨_, hrd x hx⟩⟩, Nat.le_refl _, rfl⟩, ?_, ?_⟩
  · have := ok.few; unfold maxLen; omega
  · have : x.born ∈ es'.toList.map (·.born) := List.mem_map.2 ⟨x, hx, rfl⟩
    rw [h2] at this
    obtain ⟨e, he, h4⟩ := List.mem_map.1 this
    have := ok.below e he
    omega
  · rw [h2]; exact ok.borns
  · have hk : (es'.toList.map (·.key)).map (fun v => match v with | Value.int _ n => n | _ => 0) = es'.toList.map entKey := by
      rw [List.map_map]; rfl
    refine nodup_of_map (fun v => match v with | Value.int _ n => n | _ => 0) ?_
    rw [hk, h1]; exact ok.keys
  · show (List.foldr DataW.insert [] (es'.toList.map (Go.WideElems.rg P K RU))).length = _
    rw [(foldr_insert_perm _).length_eq]
    simp [hlen]
  · refine ((foldr_insert_perm _).map (fun p : Lit × DataW Unit => Go.intOf p.1)).trans ?_
    rw [List.map_map, ← h1]
    refine List.Perm.of_eq (List.map_congr_left fun x hx => ?_)
    simp [Go.WideElems.rg, hrd x hx]
    rfl
end Go.Proofs.Ytgcoipcnhmkeaaa.Ax
end

/-! The contract of slices.Sorted over maps.Keys, among own blocks -/
section
set_option linter.unusedVariables false
set_option linter.unusedSimpArgs false
namespace Go.Proofs.Ytgcoipcnhmkeaaa.Ax
open Go.RowKit Go.Maps Go.Sort Go.Shelf

theorem sorts_wide (m : Nat) : AnyZI.SortsIn Try.prog Sh.sortedI_ren Fence.wide m :=
  ⟨fun blk off cap ss W hH hblk hsz => callsIn_wide.2 (AnyM.slices_Sort_int Sh.sortI blk off cap ss W hH hblk hsz),
   fun p cap W => callsIn_wide.2 (AnyM.slices_Sort_int_none Sh.sortI p cap W)⟩

theorem sorted_calls (B b nn : Nat) (D0 : DataW Unit) (W : World) (hB : B < W.heap.size) (hm : W.cell? ⟨B, 0, none⟩ = some (.map (some b))) (hown : W.ownsMap Try.prog 3 RU b nn D0) (hmax : Maps.size D0 ≤ 1000000) :
    Calls Try.prog 38 #[.func (.func 68) #[] #[.pointer (some ⟨B, 0, none⟩)]] W fun e w' => ∃ (v : Value) (ss : List Int), e = .returned v ∧ ss.Perm (intKeys D0) ∧
      w'.ownsRow W.heap.size 3 1 v ss.length ((ss.mergeSort (fun x y => decide (x ≤ y))).map encZ) ∧ (v = .slice none 0 0 ↔ ss = []) ∧ Below W.heap.size W w' := by
  have hseq : SeqGives Fence.wide 2 Try.prog 68 #[.pointer (some ⟨B, 0, none⟩)] encZ (fun ss => ss.Perm (intKeys D0)) (Maps.size D0) W :=
    AnyZI.keys_gives (ρ := Sh.keysI_ren) { Sh.keysI with } Fence.wide _ trivial rfl (by omega) B b nn D0 W hB hm hown
  have cS := AnyZI.sorted_in Sh.sortedI Fence.wide 5 trivial trivial trivial trivial rfl (by omega) (sorts_wide _) (enters_of Try.func67 (by kernel_rfl) rfl) 68 #[.pointer (some ⟨B, 0, none⟩)] trivial
    (enters_of Try.func68 (by kernel_rfl) rfl) _ _ (by unfold maxLen; omega) (by omega) _ hseq
  exact callsIn_wide.1 cS

theorem sorted_calls_nil (B : Nat) (W : World) (hB : B < W.heap.size) (hm : W.cell? ⟨B, 0, none⟩ = some (.map none)) :
    Calls Try.prog 38 #[.func (.func 68) #[] #[.pointer (some ⟨B, 0, none⟩)]] W fun e w' => ∃ (v : Value) (ss : List Int), e = .returned v ∧ ss = [] ∧
      w'.ownsRow W.heap.size 3 1 v ss.length ((ss.mergeSort (fun x y => decide (x ≤ y))).map encZ) ∧ (v = .slice none 0 0 ↔ ss = []) ∧ Below W.heap.size W w' := by
  have hseq : SeqGives Fence.wide 2 Try.prog 68 #[.pointer (some ⟨B, 0, none⟩)] encZ (fun ss : List Int => ss = []) 0 W :=
    AnyZI.keys_gives_nil (ρ := Sh.keysI_ren) { Sh.keysI with } Fence.wide _ trivial rfl B W hB hm
  have cS := AnyZI.sorted_in Sh.sortedI Fence.wide 5 trivial trivial trivial trivial rfl (by omega) (sorts_wide _) (enters_of Try.func67 (by kernel_rfl) rfl) 68 #[.pointer (some ⟨B, 0, none⟩)] trivial
    (enters_of Try.func68 (by kernel_rfl) rfl) _ 0 (Nat.zero_le _) (by omega) _ hseq
  exact callsIn_wide.1 cS

theorem sorted_known (W : World) : KnownOK (CC W) (sortedKn 38 68 3) := by
  intro f args h r hr
  unfold sortedKn at hr
  split at hr
  case isFalse => simp at hr
  rename_i hf
  subst hf
  split at hr
  case h_2 => simp at hr
  rename_i g' k
  split at hr
  case isFalse => simp at hr
  rename_i hg
  subst hg
  intro ρ W1 vs R hv
  simp only [VsRel, VRel] at hv
  obtain ⟨X, xs, e1, ⟨us, ws, rfl, hus, hws⟩, rfl⟩ := hv
  obtain ⟨Y, ys, e2, ⟨A, ⟨r1, hr1, rfl⟩, rfl⟩, rfl⟩ := hws
  have ev : vs = #[.func (.func 68) #[] #[.pointer (some ⟨r1.b, 0, none⟩)]] := by
    have h0 := R.home r1 (List.mem_of_getElem? hr1)
    refine Array.toList_inj.1 ?_
    rw [e1]
    congr 2
    · exact Array.toList_inj.1 hus
    · exact Array.toList_inj.1 (by rw [e2, h0])
  split at hr
  case h_3 => simp at hr
  · rename_i t hk
    obtain ⟨r1', hr1', _, c, fr, hb1, hz1, hl1, hall1, _⟩ := R.live k _ hk
    rw [hr1] at hr1'; cases hr1'
    have h0 := R.home r1 (List.mem_of_getElem? hr1)
    obtain ⟨V, hV, hVr⟩ := hall1 0 _ rfl
    rw [h0] at hV
    simp only [VRel] at hVr
    subst hVr
    simp at hr
    subst hr
    have hB : r1.b < W1.heap.size := (Array.getElem?_eq_some_iff.1 hb1).1
    have hm : W1.cell? ⟨r1.b, 0, none⟩ = some (.map none) := by
      have hc : c[0]? = some (.map none) := by simpa using hV
      simp [World.cell?, hb1, hc]
    rw [ev]
    refine (sorted_calls_nil r1.b W1 hB hm).mono fun e W' ⟨v, ss, he, hss, hrow, hnil, hbel⟩ => ?_
    subst he
    rw [hnil.2 hss]
    exact ⟨ρ, _, h, List.prefix_refl _, R.belowEnd hbel, by simp [VRel], rfl, rfl⟩
  rename_i j t hk
  split at hr
  case h_2 => simp at hr
  rename_i es clock hj
  split at hr
  case isFalse => simp at hr
  rename_i hok
  have ok := okEs_ok hok
  obtain ⟨r1', hr1', _, c, fr, hb1, hz1, hl1, hall1, _⟩ := R.live k _ hk
  rw [hr1] at hr1'; cases hr1'
  have h0 := R.home r1 (List.mem_of_getElem? hr1)
  obtain ⟨V, hV, hVr⟩ := hall1 0 _ rfl
  rw [h0] at hV
  simp only [VRel] at hVr
  obtain ⟨r2, hr2, rfl⟩ := hVr
  obtain ⟨r2', hr2', _, es', hb2, hes⟩ := R.live j _ hj
  rw [hr2] at hr2'; cases hr2'
  obtain ⟨D0, hown, hsize, hperm⟩ := owns_of_ents (P := Try.prog) (K := 3) Try.underlying3 hb2 hes ok
  have hB : r1.b < W1.heap.size := (Array.getElem?_eq_some_iff.1 hb1).1
  have hm : W1.cell? ⟨r1.b, 0, none⟩ = some (.map (some r2.b)) := by
    have hc : c[0]? = some (.map (some r2.b)) := by simpa using hV
    simp [World.cell?, hb1, hc]
  rw [ev]
  refine (sorted_calls r1.b r2.b _ D0 W1 hB hm hown (by rw [hsize]; exact ok.few)).mono fun e W' ⟨v, ss, he, hss, hrow, hnil, hbel⟩ => ?_
  subst he
  have hss2 := hss.trans hperm
  have hsort := sortI_eq hss2
  have hlen : ss.length = es.length := by rw [hss2.length_eq]; simp
  rw [hsort] at hrow
  split at hr
  · simp at hr
    subst hr
    have : ss = [] := List.eq_nil_of_length_eq_zero (by simpa using hlen)
    rw [hnil.2 this]
    exact ⟨ρ, _, h, List.prefix_refl _, R.belowEnd hbel, by simp [VRel], rfl, rfl⟩
  · rename_i hne
    simp at hr
    subst hr
    have hne' : es ≠ [] := fun h => hne h
    rcases hrow.2 with ⟨rfl, hz⟩ | ⟨g, cap, cur, rfl, hbase, hgb, hc1, hc2, hc3, hc4⟩
    · have : ss = [] := List.eq_nil_of_length_eq_zero hz
      rw [this] at hlen
      exact absurd (List.eq_nil_of_length_eq_zero hlen.symm) hne'
    · have hsl : (sortI (es.map intKey)).length = es.length := by rw [(sortI_perm _).length_eq]; simp
      refine ⟨ρ ++ [⟨g, 0, cur.size⟩], _, _, List.prefix_append _ _, R.pushB hbel hbase (.cells ((sortI (es.map intKey)).map fun n => .int .i64 n) 3) ?_, ?_, rfl, rfl⟩
      · refine ⟨cur, (0, 0), hgb, rfl, ?_, fun i v hi => ?_, fun j _ => by simp⟩
        · simp only [List.length_map, hsl, Nat.zero_add]
          omega
        · simp only [List.getElem?_map, Option.map_eq_some_iff] at hi
          obtain ⟨n, hn, rfl⟩ := hi
          have hlt := (List.getElem?_eq_some_iff.1 hn).1
          refine ⟨.int .i64 n, ?_, by simp [VRel]⟩
          have h4 : (cur.toList.take (ss.length * 1))[i]? = some (encZ n) := by
            rw [hc4, List.getElem?_map, hn]; rfl
          rw [List.getElem?_take] at h4
          split at h4
          · simpa using h4
          · simp at h4
      · simp only [VRel]
        refine ⟨⟨g, 0, cur.size⟩, ⟨g, 0, none⟩, cap, by rw [← R.len]; simp, by rw [hlen], by omega, by omega, fun h => by simp at h, .inl ⟨by simp, fun n hn => ?_⟩⟩
        simp at hn
        subst hn
        simp only [Nat.zero_add]
        omega
end Go.Proofs.Ytgcoipcnhmkeaaa.Ax
end
