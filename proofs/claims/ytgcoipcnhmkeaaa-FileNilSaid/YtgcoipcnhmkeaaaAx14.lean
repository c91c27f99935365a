/- AX, part 14: one operation, whatever it is; calls. -/
import Derived.Test.YtgcoipcnhmkeaaaAx13
set_option linter.unusedVariables false
set_option linter.unusedSimpArgs false
namespace Go.Proofs.Ytgcoipcnhmkeaaa.Ax
open Go.RowKit

section
variable {C : Cx} {ρ : Rho} {h : AH} {W : World}

/-! ### unsafe.String: the bytes, which nobody will write any more -/
def byteOf2 : AV → Option UInt8
  | .int .u8 n => if 0 ≤ n ∧ n < 256 then some (UInt8.ofNat n.toNat) else none
  | _ => none

def aUnsafeStr (C : Cx) (h : AH) (ts : Array TypeId) (p n : AV) : Option (AV × AH) :=
  match p, n with
  | .ptr p, .int .i64 m =>
    if m = 0 then match ts.toList with
      | [_, _] => some (.str [], h)
      | _ => none
    else match p, ts.toList with
      | some (.new k 0), [pt, _] => match h.get k, C.kind pt with
        | some (.cells cs t), .ptr e => match C.size t, (cs.take m.toNat).mapM byteOf2 with
          | some sz, some l => if e = t ∧ sz = 1 ∧ 0 < m ∧ m ≤ cs.length ∧ m ≤ 9223372036854775807 then some (.str l, h.kill k) else none
          | _, _ => none
        | _, _ => none
      | _, _ => none
  | _, _ => none

theorem bytes2_of : ∀ (vs : List AV) (l : List UInt8), vs.mapM byteOf2 = some l → l.length = vs.length ∧ ∀ (i : Nat) (x : UInt8), l[i]? = some x → vs[i]? = some (.int .u8 x.toNat)
  | [], l, h => by simp at h; subst h; simp
  | v :: vs, l, h => by
    simp only [List.mapM_cons, bind, Option.bind_eq_some_iff] at h
    obtain ⟨y, hy, ys, hys, hp⟩ := h
    simp [pure] at hp; subst hp
    obtain ⟨h1, h2⟩ := bytes2_of vs ys hys
    refine ⟨by simp [h1], fun i x hx => ?_⟩
    cases i with
    | zero =>
      simp at hx; subst hx
      unfold byteOf2 at hy
      split at hy
      · rename_i n
        split at hy
        · rename_i hn
          simp at hy; subst hy
          have : n.toNat % 256 = n.toNat := Nat.mod_eq_of_lt (by omega)
          simp [this]
          omega
        · simp at hy
      · simp at hy
    | succ i => simpa using h2 i x (by simpa using hx)

/-- An own block is no more looked at, and its cells' freezing seen by none. -/
theorem Rel.killW {W0 W' : World} (R : Rel W0 ρ h W) {k : Nat} {o0 : AObj} (hk : h.get k = some o0) {r : RE} (hr : ρ[k]? = some r)
    (hW : ∀ j, j ≠ r.b → W'.heap[j]? = W.heap[j]?) (hs : W'.heap.size = W.heap.size) (h1 : W'.os = W.os) (h2 : W'.tape = W.tape) (h3 : W'.output = W.output) : Rel W0 ρ (h.kill k) W' := by
  obtain ⟨r0, hr0, hb0, hO⟩ := R.live k o0 hk
  rw [hr] at hr0; cases hr0
  have sub : ∀ j o, (h.kill k).get j = some o → h.get j = some o ∧ j ≠ k := by
    intro j o hj
    rw [AH.get_kill] at hj
    split at hj
    · cases hj
    · rename_i e; exact ⟨hj, e⟩
  refine ⟨R.below.trans ⟨h1, h2, h3, by omega, fun j hj => hW j (by omega)⟩, R.len, fun j o hj => ?_, fun k1 k2 o1 o2 r1 r2 hk1 hk2 => R.inj k1 k2 o1 o2 r1 r2 (sub _ _ hk1).1 (sub _ _ hk2).1, R.home⟩
  obtain ⟨hj', hne⟩ := sub j o hj
  obtain ⟨r', hr', hb', hO'⟩ := R.live j o hj'
  exact ⟨r', hr', hb', hO'.world (hW _ fun he => hne (R.inj j k o o0 r' r hj' hk hr' hr he))⟩

theorem run_aUnsafeStr (ok : C.OK) (R : Rel C.W0 ρ h W) {ts : Array TypeId} {p n v : AV} {X Y : Value} {h' : AH} (hv : aUnsafeStr C h ts p n = some (v, h')) (hx : VRel ρ p X) (hy : VRel ρ n Y) (ty : TypeId) :
    ∃ V W', (Builtin.unsafeString_ ts ty #[X, Y]).run C.P W = .ok V W' ∧ Rel C.W0 ρ h' W' ∧ VRel ρ v V := by
  unfold aUnsafeStr at hv
  split at hv
  case h_2 => simp at hv
  rename_i q m
  rw [int_rel hy]
  split at hv
  · rename_i hm
    subst hm
    split at hv
    case h_2 => simp at hv
    rename_i pt it hts
    simp at hv
    obtain ⟨rfl, rfl⟩ := hv
    have ets : ts = #[pt, it] := by rw [← Array.toArray_toList (xs := ts), hts]
    rw [ets]
    have : ∃ q', X = .pointer q' := by
      cases q with
      | none => simp only [VRel] at hx; exact ⟨_, hx⟩
      | some a => simp only [VRel] at hx; obtain ⟨A, _, e⟩ := hx; exact ⟨_, e⟩
    obtain ⟨q', rfl⟩ := this
    exact ⟨_, W, Lib.run_unsafeString_none W pt it ty q', R, by simp only [VRel]; rfl⟩
  · rename_i hm
    split at hv
    case h_2 => simp at hv
    rename_i k pt it hts
    split at hv
    case h_2 => simp at hv
    rename_i cs t e hg hkp
    split at hv
    case h_2 => simp at hv
    rename_i sz l hsz hl
    split at hv
    case isFalse => simp at hv
    rename_i hc
    obtain ⟨rfl, rfl, hm0, hmc, hmm⟩ := hc
    simp at hv
    obtain ⟨rfl, rfl⟩ := hv
    have ets : ts = #[pt, it] := by rw [← Array.toArray_toList (xs := ts), hts]
    rw [ets]
    obtain ⟨D, hD, hr1⟩ := kind_und ok hkp (by simp)
    simp only [KindRel] at hr1; subst hr1
    obtain ⟨j, hj, hjn⟩ := info_size ok hsz
    simp only [VRel] at hx
    obtain ⟨A, ⟨r, hr, rfl⟩, rfl⟩ := hx
    obtain ⟨r', hr', hb0, c, fr, hb, hz, hlen, hall, hfr⟩ := R.live k _ hg
    rw [hr] at hr'; cases hr'
    have h0 := R.home r (List.mem_of_getElem? hr)
    obtain ⟨h1, h2⟩ := bytes2_of _ _ hl
    have hll : l.length = m.toNat := by rw [h1, List.length_take]; omega
    have hcell : ∀ j x, l[j]? = some x → W.cell? ((⟨r.b, 0, none⟩ : Addr).add j) = some (.int .u8 x.toNat) := by
      intro j x hx
      have h3 := h2 j x hx
      rw [List.getElem?_take] at h3
      split at h3
      · obtain ⟨V, hV, hVr⟩ := hall j _ h3
        rw [h0, Nat.zero_add] at hV
        rw [add_addr]
        have e1 := int_rel hVr
        simp [World.cell?, hb, hV, e1]
      · simp at h3
    have hrun := Lib.run_unsafeString_row W pt it ty e hD (by simp [Program.cellsOf, hj, hjn]) r.b c.size (show W.shape? r.b = some (e, c.size) by simp [World.shape?, hb]) l (by intro he; rw [he] at hll; simp at hll; omega)
      (by omega) (by omega) hcell
    rw [hll, Int.toNat_of_nonneg (by omega)] at hrun
    rw [h0]
    refine ⟨_, _, hrun, R.killW hg hr (fun j hj => ?_) ?_ ?_ ?_ ?_, by simp only [VRel]⟩
    · unfold World.freeze
      split
      · rfl
      · simp only [Array.getElem?_modify]
        rw [if_neg (fun e => hj e.symm)]
    · unfold World.freeze
      split
      · rfl
      · simp
    · unfold World.freeze; split <;> rfl
    · unfold World.freeze; split <;> rfl
    · unfold World.freeze; split <;> rfl

/-- An operation that changes memory and calls no Go function, at a valuation of its operands. -/
def effA (C : Cx) (o : Oper) (g : Operand → AV) (h : AH) : Option (AV × AH) :=
  match o.op with
  | .alloc t => aAlloc C h t
  | .box t x => aBox h t (g x)
  | .buildSlice t len ps => aBuildSlice C h t len (ps.toList.map fun p => (p.1, g p.2))
  | .store t a x => (aStoreOp C h t (g a) (g x)).map fun h' => (.undef, h')
  | .convert s d x => aConvE C h s d (g x)
  | .makeMap _ r => aMakeMap h (r.map g)
  | .makeSlice t l c => aMakeSlice C h t (g l) (g c)
  | .mapUpdate t m k x => (aMapSet C h t (g m) (g k) (g x)).map fun h' => (.undef, h')
  | .insert t m k x => (aMapSet C h t (g m) (g k) (g x)).map fun h' => (.undef, h')
  | .range t x => aRange C h t (g x)
  | .next it true => aNextS h (g it)
  | .call c => match c.callee with
    | .builtin .append => match c.args.toList with
      | [s, x] => aAppend C h c.argTypes (g s) (g x)
      | _ => none
    | .builtin .copy => match c.args.toList with
      | [d, x] => aCopy C h c.argTypes (g d) (g x)
      | _ => none
    | .builtin .unsafeString => match c.args.toList with
      | [p, n] => aUnsafeStr C h c.argTypes (g p) (g n)
      | _ => none
    | .builtin .delete => match c.args.toList with
      | [m, k] => (aDelete C h c.argTypes (g m) (g k)).map fun h' => (.tup [], h')
      | _ => none
    | .builtin .clear => match c.args.toList with
      | [m] => (aClear C h c.argTypes (g m)).map fun h' => (.tup [], h')
      | _ => none
    | .value f => match g f with
      | .fn (.func fid) xs ys => C.extE fid (xs ++ c.args.toList.map g ++ ys) h
      | _ => none
    | _ => none
  | _ => none

theorem args2 {c : Call} {s x : Operand} (h : c.args.toList = [s, x]) (A : Operand → Value) : c.args.map A = #[A s, A x] := by
  have : c.args = #[s, x] := by rw [← Array.toArray_toList (xs := c.args), h]
  rw [this]; simp
theorem args1 {c : Call} {s : Operand} (h : c.args.toList = [s]) (A : Operand → Value) : c.args.map A = #[A s] := by
  have : c.args = #[s] := by rw [← Array.toArray_toList (xs := c.args), h]
  rw [this]; simp

theorem effA_sound (ok : C.OK) (R : Rel C.W0 ρ h W) {o : Oper} {g : Operand → AV} {A : Operand → Value} {v : AV} {h' : AH} (hg : ∀ x ∈ o.op.operands.toList, VRel ρ (g x) (A x)) (hv : effA C o g h = some (v, h')) :
    EffOK C ρ W (execOp A o) v h' := by
  have val : ∀ (s : Sem Value), (∃ V W' ρ', s.run C.P W = .ok V W' ∧ ρ <+: ρ' ∧ Rel C.W0 ρ' h' W' ∧ VRel ρ' v V) → EffOK C ρ W (s >>= fun x => pure (Next.value x)) v h' := by
    intro s ⟨V, W', ρ', h1, h2, h3, h4⟩
    exact ⟨V, .value V, W', ρ', by simp [h1], .inl rfl, h2, h3, h4⟩
  have skp : ∀ (s : Sem Unit), v = .undef → (∃ W', s.run C.P W = .ok () W' ∧ Rel C.W0 ρ h' W') → EffOK C ρ W (s >>= fun _ => pure Next.skip) v h' := by
    intro s e ⟨W', h1, h2⟩
    subst e
    exact ⟨undef, .skip, W', ρ, by simp [h1], .inr ⟨rfl, rfl⟩, List.prefix_refl _, h2, undef_rel ρ⟩
  unfold effA at hv
  split at hv
  all_goals first | (rename_i heq; rw [heq] at hg) | skip
  · rename_i t
    rw [show execOp A o = ((Instr.alloc t true (.tuple #[])) >>= fun x => pure (Next.value x)) from by simp only [execOp, heq]]
    exact val (Instr.alloc t true (.tuple #[])) (run_aAlloc ok R hv)
  · rename_i t x
    rw [show execOp A o = ((Instr.box t (A x)) >>= fun x => pure (Next.value x)) from by simp only [execOp, heq]]
    exact val (Instr.box t (A x)) (run_aBox R (hg _ (by simp [Op.operands])) hv)
  · rename_i t len ps
    have hpp := VsRel.map_ops (ρ := ρ) (g := g) (A := A) (ps.toList.map (·.2)) (fun x hx => hg x (by simpa [Op.operands] using hx))
    obtain ⟨V, W', ρ', h1, h2, h3, h4⟩ := run_aBuildSlice (parts' := ps.map fun p => (p.1, A p.2)) ok R hv (by simp [Function.comp_def]) (by simpa [Function.comp_def] using hpp)
    exact ⟨V, .value V, W', ρ', by simp [execOp, heq, h1], .inl rfl, h2, h3, h4⟩
  · rename_i t a x
    simp only [Option.map_eq_some_iff, Prod.mk.injEq] at hv
    obtain ⟨h2, hs, rfl, rfl⟩ := hv
    rw [show execOp A o = ((Instr.storeAt t (A a) (A x)) >>= fun _ => pure Next.skip) from by simp only [execOp, heq]]
    exact skp (Instr.storeAt t (A a) (A x)) rfl (run_aStoreOp ok R (hg a (by simp [Op.operands])) (hg x (by simp [Op.operands])) hs)
  · rename_i s d x
    rw [show execOp A o = ((convert s d (A x)) >>= fun x => pure (Next.value x)) from by simp only [execOp, heq]]
    exact val (convert s d (A x)) (run_aConvE ok R hv (hg _ (by simp [Op.operands])))
  · rename_i t r
    rw [show execOp A o = ((Instr.makeMap t (r.map A)) >>= fun x => pure (Next.value x)) from by simp only [execOp, heq]]
    exact val (Instr.makeMap t (r.map A)) (run_aMakeMap R hv (optRel_map r fun y hy => hg y (by subst hy; simp [Op.operands])))
  · rename_i t l c
    rw [show execOp A o = ((Instr.makeSlice t (A l) (A c)) >>= fun x => pure (Next.value x)) from by simp only [execOp, heq]]
    exact val (Instr.makeSlice t (A l) (A c)) (run_aMakeSlice ok R hv (hg _ (by simp [Op.operands])) (hg _ (by simp [Op.operands])))
  · rename_i t m k x
    simp only [Option.map_eq_some_iff, Prod.mk.injEq] at hv
    obtain ⟨h2, hs, rfl, rfl⟩ := hv
    rw [show execOp A o = ((Instr.mapUpdate t (A m) (A k) (A x)) >>= fun _ => pure Next.skip) from by simp only [execOp, heq]]
    exact skp (Instr.mapUpdate t (A m) (A k) (A x)) rfl (run_aMapSet ok R hs (hg m (by simp [Op.operands])) (hg k (by simp [Op.operands])) (hg x (by simp [Op.operands])))
  · rename_i t m k x
    simp only [Option.map_eq_some_iff, Prod.mk.injEq] at hv
    obtain ⟨h2, hs, rfl, rfl⟩ := hv
    rw [show execOp A o = ((Instr.mapUpdate t (A m) (A k) (A x)) >>= fun _ => pure Next.skip) from by simp only [execOp, heq]]
    exact skp (Instr.mapUpdate t (A m) (A k) (A x)) rfl (run_aMapSet ok R hs (hg m (by simp [Op.operands])) (hg k (by simp [Op.operands])) (hg x (by simp [Op.operands])))
  · rename_i t x
    rw [show execOp A o = ((Instr.range t (A x)) >>= fun x => pure (Next.value x)) from by simp only [execOp, heq]]
    exact val (Instr.range t (A x)) (run_aRange ok R hv (hg _ (by simp [Op.operands])))
  · rename_i it
    obtain ⟨V, W', h1, h2, h3⟩ := run_aNextS (C := C) (ty := o.type) R hv (hg it (by simp [Op.operands]))
    rw [show execOp A o = ((Instr.next (A it) true o.type) >>= fun x => pure (Next.value x)) from by simp only [execOp, heq]]
    exact val (Instr.next (A it) true o.type) ⟨V, W', ρ, h1, List.prefix_refl _, h2, h3⟩
  · rename_i c
    have hops : ∀ x ∈ c.args.toList, VRel ρ (g x) (A x) := fun x hx => hg x (by simp [Op.operands, Call.operands]; right; simpa using hx)
    split at hv
    · rename_i hcal
      split at hv
      · rename_i s x hargs
        have := run_aAppend (ty := o.type) ok R hv (hops s (by rw [hargs]; simp)) (hops x (by rw [hargs]; simp))
        rw [show execOp A o = ((Builtin.append_ c.argTypes o.type #[A s, A x]) >>= fun x => pure (Next.value x)) from by simp only [execOp, heq, resolve, hcal, pure_bind, invoke, builtin, args2 hargs A]]
        exact val (Builtin.append_ c.argTypes o.type #[A s, A x]) this
      · simp at hv
    · rename_i hcal
      split at hv
      · rename_i d x hargs
        obtain ⟨V, W', h1, h2, h3⟩ := run_aCopy (ty := o.type) ok R hv (hops d (by rw [hargs]; simp)) (hops x (by rw [hargs]; simp))
        rw [show execOp A o = ((Builtin.copy_ c.argTypes o.type #[A d, A x]) >>= fun x => pure (Next.value x)) from by simp only [execOp, heq, resolve, hcal, pure_bind, invoke, builtin, args2 hargs A]]
        exact val (Builtin.copy_ c.argTypes o.type #[A d, A x]) ⟨V, W', ρ, h1, List.prefix_refl _, h2, h3⟩
      · simp at hv
    · rename_i hcal
      split at hv
      · rename_i p n hargs
        obtain ⟨V, W', h1, h2, h3⟩ := run_aUnsafeStr ok R hv (hops p (by rw [hargs]; simp)) (hops n (by rw [hargs]; simp)) o.type
        rw [show execOp A o = ((Builtin.unsafeString_ c.argTypes o.type #[A p, A n]) >>= fun x => pure (Next.value x)) from by simp only [execOp, heq, resolve, hcal, pure_bind, invoke, builtin, args2 hargs A]]
        exact val (Builtin.unsafeString_ c.argTypes o.type #[A p, A n]) ⟨V, W', ρ, h1, List.prefix_refl _, h2, h3⟩
      · simp at hv
    · rename_i hcal
      split at hv
      · rename_i m k hargs
        simp only [Option.map_eq_some_iff, Prod.mk.injEq] at hv
        obtain ⟨h2, hs, rfl, rfl⟩ := hv
        obtain ⟨W', h1, hR⟩ := run_aDelete (ty := o.type) ok R hs (hops m (by rw [hargs]; simp)) (hops k (by rw [hargs]; simp))
        rw [show execOp A o = ((Builtin.delete_ c.argTypes o.type #[A m, A k]) >>= fun x => pure (Next.value x)) from by simp only [execOp, heq, resolve, hcal, pure_bind, invoke, builtin, args2 hargs A]]
        exact val (Builtin.delete_ c.argTypes o.type #[A m, A k]) ⟨_, W', ρ, h1, List.prefix_refl _, hR, undef_rel ρ⟩
      · simp at hv
    · rename_i hcal
      split at hv
      · rename_i m hargs
        simp only [Option.map_eq_some_iff, Prod.mk.injEq] at hv
        obtain ⟨h2, hs, rfl, rfl⟩ := hv
        obtain ⟨W', h1, hR⟩ := run_aClear (ty := o.type) ok R hs (hops m (by rw [hargs]; simp))
        rw [show execOp A o = ((Builtin.clear_ c.argTypes o.type #[A m]) >>= fun x => pure (Next.value x)) from by simp only [execOp, heq, resolve, hcal, pure_bind, invoke, builtin, args1 hargs A]]
        exact val (Builtin.clear_ c.argTypes o.type #[A m]) ⟨_, W', ρ, h1, List.prefix_refl _, hR, undef_rel ρ⟩
      · simp at hv
    · rename_i fo hcal
      split at hv
      · rename_i fid xs ys hgf
        have hargs := VsRel.map_ops (ρ := ρ) (g := g) (A := A) c.args.toList hops
        have hfo := hg fo (by simp [Op.operands, Call.operands, hcal])
        rw [hgf] at hfo
        simp only [VRel] at hfo
        obtain ⟨us, ws, hA, h1, h2⟩ := hfo
        obtain ⟨V, W', ρ', hV, hp, hR, hr⟩ := ok.extE _ _ _ _ _ hv ρ (us ++ c.args.map A ++ ws) W R (by
          simp only [Array.toList_append]
          have := (h1.append (show VsRel ρ (c.args.toList.map g) (c.args.map A).toList by simpa using hargs)).append h2
          simpa using this)
        rw [Array.append_assoc] at hV
        exact ⟨V, .value V, W', ρ', by simp [execOp, heq, resolve, hcal, hA, Deferred.ofValue, invoke, hV], .inl rfl, hp, hR, hr⟩
      · simp at hv
    · simp at hv
  · simp at hv

/-! ### calls -/
/-- What a call comes to. -/
def CR (C : Cx) (ρ : Rho) (K Kp : AV → AH → Prop) : Ending → World → Prop
  | .returned V, W' => ∃ ρ' v h', ρ <+: ρ' ∧ Rel C.W0 ρ' h' W' ∧ VRel ρ' v V ∧ K v h'
  | .panicked chain, W' => ∃ ρ' v V h', chain = [{ v := V, recovered := false }] ∧ ρ <+: ρ' ∧ Rel C.W0 ρ' h' W' ∧ VRel ρ' v V ∧ Kp v h'
  | .outgrown, _ => False

/-- A call at arguments, in whatever world lies behind the heap. -/
def ACall (C : Cx) (f : FuncId) (args : List AV) (h : AH) (K Kp : AV → AH → Prop) : Prop :=
  ∀ ρ W (vs : Array Value), Rel C.W0 ρ h W → VsRel ρ args vs.toList → Calls C.P f vs W (CR C ρ K Kp)

theorem CR.mono {K Kp K' Kp' : AV → AH → Prop} (h1 : ∀ v h, K v h → K' v h) (h2 : ∀ v h, Kp v h → Kp' v h) : ∀ e w, CR C ρ K Kp e w → CR C ρ K' Kp' e w
  | .returned V, w, h => by
    obtain ⟨ρ', v, h', a, b, c, d⟩ := h
    exact ⟨ρ', v, h', a, b, c, h1 _ _ d⟩
  | .panicked chain, w, h => by
    obtain ⟨ρ', v, V, h', e, a, b, c, d⟩ := h
    exact ⟨ρ', v, V, h', e, a, b, c, h2 _ _ d⟩
  | .outgrown, w, h => h

theorem ACall.mono {f : FuncId} {args : List AV} {K Kp K' Kp' : AV → AH → Prop} (hc : ACall C f args h K Kp) (h1 : ∀ v h, K v h → K' v h) (h2 : ∀ v h, Kp v h → Kp' v h) : ACall C f args h K' Kp' :=
  fun ρ W vs R hv => (hc ρ W vs R hv).mono (CR.mono h1 h2)

/-- The function that a call names, and all its arguments. -/
def calleeA (C : Cx) (o : Oper) (g : Operand → AV) : Option (FuncId × List AV) :=
  match o.op with
  | .call c => match c.callee with
    | .value f => match g f with
      | .fn (.func fid) xs ys => some (fid, xs ++ c.args.toList.map g ++ ys)
      | _ => none
    | .invoke r name => match g r with
      | .ifc t v => (C.meth t name).map fun f => (f, v :: c.args.toList.map g)
      | _ => none
    | _ => none
  | _ => none

theorem callee_sound (ok : C.OK) {o : Oper} {g : Operand → AV} {A : Operand → Value} {f : FuncId} {args : List AV} (hg : ∀ x ∈ o.op.operands.toList, VRel ρ (g x) (A x)) (hc : calleeA C o g = some (f, args))
    (hf : (C.fn f).isSome = true) (w : World) : ∃ vs, (execOp A o).run C.P w = .ok (.enter f vs) w ∧ VsRel ρ args vs.toList := by
  obtain ⟨F, hF⟩ := Option.isSome_iff_exists.1 hf
  obtain ⟨hPF, hbody, hname⟩ := ok.fn f F hF
  have hcall : ∀ vs : Array Value, (callFunc f vs).run C.P w = .ok (.enter f vs) w := by
    intro vs
    have hb : F.body ≠ none := by intro e; rw [e] at hbody; simp at hbody
    have hn : F.name ≠ "runtime.NumGoroutine" := by simpa using hname
    simp [callFunc, hPF, hn, hb]
  unfold calleeA at hc
  split at hc
  · rename_i c heq
    rw [heq] at hg
    have hops : VsRel ρ (c.args.toList.map g) (c.args.map A).toList := by
      have := VsRel.map_ops (ρ := ρ) (g := g) (A := A) c.args.toList (fun x hx => hg x (by simp [Op.operands, Call.operands]; right; simpa using hx))
      simpa using this
    split at hc
    · rename_i fo hcal
      have hfo := hg fo (by simp [Op.operands, Call.operands, hcal])
      split at hc
      · rename_i fid xs ys hgf
        simp at hc
        obtain ⟨rfl, rfl⟩ := hc
        rw [hgf] at hfo
        simp only [VRel] at hfo
        obtain ⟨us, ws, hA, h1, h2⟩ := hfo
        refine ⟨us ++ c.args.map A ++ ws, ?_, ?_⟩
        · simp [execOp, heq, resolve, hcal, hA, Deferred.ofValue, invoke, hcall]
        · simp only [Array.toList_append]
          have := (h1.append hops).append h2
          simpa using this
      · simp at hc
    · rename_i r name hcal
      have hfo := hg r (by simp [Op.operands, Call.operands, hcal])
      split at hc
      · rename_i t v hgf
        simp only [Option.map_eq_some_iff, Prod.mk.injEq] at hc
        obtain ⟨f', hm, rfl, rfl⟩ := hc
        rw [hgf] at hfo
        simp only [VRel] at hfo
        obtain ⟨V, hA, hV⟩ := hfo
        refine ⟨#[V] ++ c.args.map A, ?_, ?_⟩
        · have hmm := ok.meth t name f' hm V w
          have e0 : (#[Value.iface t V] ++ Array.map A c.args)[0]? = some (.iface t V) := by simp [Array.getElem?_append]
          have e1 : (Array.map A c.args).extract 0 c.args.size = Array.map A c.args := by
            rw [show c.args.size = (Array.map A c.args).size by simp]; simp
          simp [execOp, heq, resolve, hcal, hA, invoke, callMethod, e0, e1, hmm, hcall]
        · simp only [VsRel]
          exact ⟨V, (c.args.map A).toList, by simp, hV, hops⟩
      · simp at hc
    · simp at hc
  · simp at hc

/-! ### a map's next entry: any -/
def nextM (h : AH) (it : AV) (K : AV → AH → Prop) : Prop :=
  match it with
  | .ptr (some (.new k 0)) => match h.get k with
    | some (.miter none _ _ _) => K (.tup [.bool false]) h
    | some (.miter (some m) since seen last) => match h.get m with
      | some (.map es clock) =>
        ¬ ((!seen.isEmpty && !es.isEmpty && es.all fun e => decide (e.born ≥ last)) = true) ∧
        ((es.filter fun e => !seen.contains e.born && decide (e.born < since)) = [] → K (.tup [.bool false]) h) ∧
        ∀ e ∈ es, seen.contains e.born = false → K (.tup [.bool true, e.key, e.val]) (h.set k (.miter (some m) since (seen ++ [e.born]) clock))
      | _ => False
    | _ => False
  | _ => False

/-- One operation: what must hold of its outcome. -/
def opWp (C : Cx) (o : Oper) (g : Operand → AV) (h : AH) (K Kp : AV → AH → Prop) : Prop :=
  match evalN C o g h with
  | some v => K v h
  | none => match effA C o g h with
    | some r => K r.1 r.2
    | none => match calleeA C o g with
      | some r => (C.fn r.1).isSome = true ∧ ACall C r.1 r.2 h K Kp
      | none => match o.op with
        | .panic x => match g x with
          | .ifc t v => Kp (.ifc t v) h
          | _ => False
        | .next it false => nextM h (g it) K
        | _ => False

theorem EntsRel.mem {as : List AEnt} : ∀ {es : List MapEntry}, EntsRel ρ as es → ∀ a ∈ as, ∃ e ∈ es, EntRel ρ a e := by
  induction as with
  | nil => intro es h a ha; simp at ha
  | cons b as ih =>
    intro es h a ha
    simp only [EntsRel] at h
    obtain ⟨e, es', rfl, h1, h2⟩ := h
    simp only [List.mem_cons] at ha
    rcases ha with rfl | ha
    · exact ⟨e, by simp, h1⟩
    · obtain ⟨e', he', hr⟩ := ih h2 a ha
      exact ⟨e', by simp [he'], hr⟩

theorem EntsRel.mem' {as : List AEnt} : ∀ {es : List MapEntry}, EntsRel ρ as es → ∀ e ∈ es, ∃ a ∈ as, EntRel ρ a e := by
  induction as with
  | nil => intro es h e he; simp only [EntsRel] at h; subst h; simp at he
  | cons b as ih =>
    intro es h e he
    simp only [EntsRel] at h
    obtain ⟨e0, es', rfl, h1, h2⟩ := h
    simp only [List.mem_cons] at he
    rcases he with rfl | he
    · exact ⟨b, by simp, h1⟩
    · obtain ⟨a, ha, hr⟩ := ih h2 e he
      exact ⟨a, by simp [ha], hr⟩

/-- The machine's step at a map's iterator, its choice told. -/
theorem run_nextMap (P : Program) (W : World) (b mb since last clock : Nat) (seen : Array Nat) (es : Array MapEntry) (ty : TypeId) (hi : W.heap[b]? = some (.mapIter (some mb) since seen last)) (hm : W.heap[mb]? = some (.map es clock))
    (hbad : (!seen.isEmpty && !es.isEmpty && es.all (fun e => decide (e.born ≥ last))) = false) :
    ∃ W', (W' = W ∨ W' = W.drew) ∧
      (((Instr.next (.pointer (some ⟨b, 0, none⟩)) false ty).run P W = .ok (.tuple #[.bool false]) W' ∧ ((es.filter fun e => !seen.contains e.born).filter (fun e => decide (e.born < since))).isEmpty = true) ∨
       ∃ e ∈ es.toList, seen.contains e.born = false ∧ (Instr.next (.pointer (some ⟨b, 0, none⟩)) false ty).run P W =
          .ok (.tuple #[.bool true, e.key, e.val]) { W' with heap := W'.heap.setIfInBounds b (.mapIter (some mb) since (seen.push e.born) clock) }) := by
  let left := es.filter fun e => !seen.contains e.born
  let old := left.filter (fun e => decide (e.born < since))
  let new := left.filter (fun e => decide (e.born ≥ since))
  let cand : Array (Option MapEntry) := (if old.isEmpty then #[none] else #[]) ++ (old ++ new).map some
  have hpos : 0 < cand.size := by
    show 0 < ((if old.isEmpty then #[none] else #[]) ++ (old ++ new).map some : Array (Option MapEntry)).size
    cases ho : old.isEmpty with
    | true => simp; omega
    | false =>
      have : old.size ≠ 0 := by intro h; simp [Array.isEmpty, h] at ho
      simp; omega
  obtain ⟨j, W', hj, hch, hW'⟩ : ∃ j W', j < cand.size ∧ (choose (.mapNext cand.size)).run P W = .ok j W' ∧ (W' = W ∨ W' = W.drew) := by
    by_cases hf : cand.size ≤ 1
    · exact ⟨0, W, hpos, by simp [Question.forced, hf], .inl rfl⟩
    · exact ⟨(Question.mapNext cand.size).cut (W.tape W.drawn (.mapNext cand.size)), W.drew, Nat.mod_lt _ hpos, by simp [Question.forced, hf], .inr rfl⟩
  have hrun : (Instr.next (.pointer (some ⟨b, 0, none⟩)) false ty).run P W = ((match cand[j]? with
      | some (some e) => do
        setObj b (.mapIter (some mb) since (seen.push e.born) clock)
        pure (.tuple #[.bool true, e.key, e.val])
      | some none => pure (.tuple #[.bool false])
      | none => stuck "Next: no such candidate" : Sem Value)).run P W' := by
    have g1 : (getObj b).run P W = .ok (.mapIter (some mb) since seen last) W := by simp [getObj, Sem.run, hi]
    have g2 : (getObj mb).run P W = .ok (.map es clock) W := by simp [getObj, Sem.run, hm]
    simp only [Instr.next, Sem.run_bind, g1, Result.andThen_ok, g2, hbad, Bool.false_eq_true, if_false]
    show ((choose (.mapNext cand.size)).run P W).andThen _ = _
    rw [hch]
    rfl
  have hset : ∀ o, (setObj b o).run P W' = .ok () { W' with heap := W'.heap.setIfInBounds b o } := by
    intro o
    have : W'.heap[b]? = some (.mapIter (some mb) since seen last) := by rcases hW' with rfl | rfl <;> exact hi
    simp [setObj, Sem.run, this]
  refine ⟨W', hW', ?_⟩
  have hget : cand[j]? = some cand[j] := by simp [hj]
  cases hc : cand[j] with
  | none =>
    left
    refine ⟨by rw [hrun, hget, hc]; rfl, ?_⟩
    show old.isEmpty = true
    cases ho : old.isEmpty with
    | true => rfl
    | false =>
      exfalso
      have hmem : (none : Option MapEntry) ∈ cand := by rw [← hc]; exact Array.getElem_mem hj
      simp [cand, ho] at hmem
  | some e =>
    right
    have hmem : some e ∈ cand := by rw [← hc]; exact Array.getElem_mem hj
    have hl : e ∈ left := by
      have h2 : e ∈ old ∨ e ∈ new := by
        cases ho : old.isEmpty <;> simp [cand, ho] at hmem <;> exact hmem
      rcases h2 with h2 | h2
      · exact (Array.mem_filter.1 h2).1
      · exact (Array.mem_filter.1 h2).1
    have hl2 := Array.mem_filter.1 hl
    refine ⟨e, by simpa using hl2.1, by simpa using hl2.2, ?_⟩
    rw [hrun, hget, hc]
    simp only [Sem.run_bind, hset, Result.andThen_ok, Sem.run_pure]

theorem nextM_sound (ok : C.OK) (R : Rel C.W0 ρ h W) {it : AV} {I : Value} {K : AV → AH → Prop} (hi : VRel ρ it I) (hn : nextM h it K) (ty : TypeId) :
    ∃ V W' v h', (Instr.next I false ty).run C.P W = .ok V W' ∧ Rel C.W0 ρ h' W' ∧ VRel ρ v V ∧ K v h' := by
  unfold nextM at hn
  split at hn
  case h_2 => exact hn.elim
  rename_i k
  split at hn
  case h_3 => exact hn.elim
  · rename_i a b c hg
    simp only [VRel] at hi
    obtain ⟨A, ⟨r, hr, rfl⟩, rfl⟩ := hi
    obtain ⟨r', hr', hb0, hs0, m', hob, hm⟩ := R.live k _ hg
    rw [hr] at hr'; cases hr'
    simp only at hm
    subst hm
    rw [hs0]
    exact ⟨.tuple #[.bool false], W, _, _, by simp [Instr.next, getObj, Sem.run, hob], R, by simp only [VRel]; exact ⟨_, rfl, by simp [VsRel, VRel]⟩, hn⟩
  · rename_i m since seen last hg
    split at hn
    case h_2 => exact hn.elim
    rename_i es clock hgm
    obtain ⟨hbad, hend, hstep⟩ := hn
    simp only [VRel] at hi
    obtain ⟨A, ⟨r, hr, rfl⟩, rfl⟩ := hi
    obtain ⟨r', hr', hb0, hs0, m', hob, r2, hr2, rfl⟩ := R.live k _ hg
    rw [hr] at hr'; cases hr'
    obtain ⟨es', hrun, hrel, hbk⟩ := run_getMap R hgm hr2
    have hall : es'.all (fun e => decide (e.born ≥ last)) = es.all fun e => decide (e.born ≥ last) := by
      rw [Bool.eq_iff_iff, Array.all_eq_true_iff_forall_mem, List.all_eq_true]
      constructor
      · intro hA a ha
        obtain ⟨e, he, hr3⟩ := hrel.mem a ha
        have := hA e (by simpa using he)
        rw [hr3.2.2]; exact this
      · intro hA e he
        obtain ⟨a, ha, hr3⟩ := hrel.mem' e (by simpa using he)
        have := hA a ha
        rw [hr3.2.2] at this; exact this
    have hemp : es'.isEmpty = es.isEmpty := by
      have := hrel.length
      simp only [Array.length_toList] at this
      cases es with
      | nil => simp at this; simp [this]
      | cons x xs => simp at this; simp [Array.isEmpty, this]
    have hbad' : (!seen.toArray.isEmpty && !es'.isEmpty && es'.all (fun e => decide (e.born ≥ last))) = false := by
      rw [hall, hemp]
      have : seen.toArray.isEmpty = seen.isEmpty := by cases seen <;> simp
      rw [this]
      simpa using hbad
    obtain ⟨W', hW', hcase⟩ := run_nextMap C.P W r.b r2.b since last clock seen.toArray es' ty hob hbk hbad'
    have R' : Rel C.W0 ρ h W' := by
      rcases hW' with rfl | rfl
      · exact R
      · exact R.drew
    rw [hs0]
    rcases hcase with ⟨hr3, hold⟩ | ⟨e, he, hns, hr3⟩
    · refine ⟨_, W', _, h, hr3, R', ?_, hend ?_⟩
      · simp only [VRel]; exact ⟨_, rfl, by simp [VsRel, VRel]⟩
      · rw [List.filter_eq_nil_iff]
        intro a ha
        obtain ⟨e, he, hr4⟩ := hrel.mem a ha
        intro hcon
        simp only [Bool.and_eq_true] at hcon
        have hmem : e ∈ (es'.filter fun e => !seen.toArray.contains e.born).filter (fun e => decide (e.born < since)) := by
          rw [Array.mem_filter, Array.mem_filter]
          refine ⟨⟨by simpa using he, ?_⟩, ?_⟩
          · rw [← hr4.2.2]; simpa using hcon.1
          · rw [← hr4.2.2]; exact hcon.2
        have : ((es'.filter fun e => !seen.toArray.contains e.born).filter (fun e => decide (e.born < since))) = #[] := by simpa using hold
        rw [this] at hmem
        simp at hmem
    · obtain ⟨a, ha, hr4⟩ := hrel.mem' e he
      have hlt : r.b < W'.heap.size := by
        have hob' : W'.heap[r.b]? = some (.mapIter (some r2.b) since seen.toArray last) := by rcases hW' with rfl | rfl <;> exact hob
        rcases Nat.lt_or_ge r.b W'.heap.size with h | h
        · exact h
        · rw [Array.getElem?_eq_none h] at hob'; cases hob'
      refine ⟨_, _, _, _, hr3, R'.set hg (.miter (some m) since (seen ++ [a.born]) clock) hr (fun j hj => by simp only [Array.getElem?_setIfInBounds]; rw [if_neg (by omega)]) (by simp) rfl rfl rfl
        ⟨hs0, some r2.b, by simp [hlt, hr4.2.2], r2, hr2, rfl⟩, ?_, hstep a ha ?_⟩
      · simp only [VRel]; exact ⟨_, rfl, by simp only [VsRel]; exact ⟨_, _, rfl, by simp [VRel], _, _, rfl, hr4.1, _, _, rfl, hr4.2.1, rfl⟩⟩
      · rw [hr4.2.2]; simpa using hns

theorem opWp_sound (ok : C.OK) (R : Rel C.W0 ρ h W) {o : Oper} {g : Operand → AV} {a : Act} {K Kp : AV → AH → Prop} {next : Act → World → Prop} {Q : Exit → Act → World → Prop}
    (hg : ∀ x ∈ o.op.operands.toList, VRel ρ (g x) (a.eval x)) (hw : opWp C o g h K Kp)
    (hN : ∀ ρ' v h' V W', ρ <+: ρ' → Rel C.W0 ρ' h' W' → VRel ρ' v V → K v h' → next (a.put o.dst V) W')
    (hP : ∀ ρ' v h' V W', ρ <+: ρ' → Rel C.W0 ρ' h' W' → VRel ρ' v V → Kp v h' → Q (.panic [{ v := V, recovered := false }]) a W') : o.wp C.P a W next Q := by
  unfold opWp at hw
  split at hw
  · rename_i v hv
    obtain ⟨V, hrun, hr⟩ := evalN_sound ok R hg hv
    rw [Oper.wp, hrun, Oper.upon_value]
    exact hN ρ v h V W (List.prefix_refl _) R hr hw
  · split at hw
    · rename_i r hr0
      obtain ⟨v, h'⟩ := r
      obtain ⟨V, N, W', ρ', hrun, hNN, hp, hR, hr⟩ := effA_sound ok R hg hr0
      rw [Oper.wp, hrun]
      rcases hNN with rfl | ⟨rfl, rfl⟩
      · rw [Oper.upon_value]; exact hN ρ' v h' V W' hp hR hr hw
      · rw [Oper.upon_skip]; exact hN ρ' v h' undef W' hp hR hr hw
    · split at hw
      · rename_i r hc
        obtain ⟨f, args⟩ := r
        obtain ⟨hf, hcall⟩ := hw
        obtain ⟨vs, hrun, hargs⟩ := callee_sound ok hg hc hf W
        rw [Oper.wp, hrun, Oper.upon_enter]
        refine (hcall ρ W vs R hargs).mono fun e w' he => ?_
        cases e with
        | returned V =>
          obtain ⟨ρ', v, h', hp, hR, hr, hk⟩ := he
          exact hN ρ' v h' V w' hp hR hr hk
        | panicked chain =>
          obtain ⟨ρ', v, V, h', rfl, hp, hR, hr, hk⟩ := he
          exact hP ρ' v h' V w' hp hR hr hk
        | outgrown => exact he.elim
      · split at hw
        · rename_i x heq
          rw [heq] at hg
          have hx := hg x (by simp [Op.operands])
          split at hw
          · rename_i t v hgx
            rw [hgx] at hx
            have hx' := hx
            simp only [VRel] at hx
            obtain ⟨V, hA, _⟩ := hx
            rw [hA] at hx'
            have hrun : (execOp a.eval o).run C.P W = .halt (.panic (.iface t V)) W := by
              simp [execOp, heq, Instr.panic, hA, Result.andThen]
            rw [Oper.wp, hrun, Oper.upon_panic]
            exact hP ρ _ h _ W (List.prefix_refl _) R hx' hw
          · exact hw.elim
        · rename_i it heq
          rw [heq] at hg
          obtain ⟨V, W', v, h', hrun, hR, hr, hk⟩ := nextM_sound ok R (hg it (by simp [Op.operands])) hw o.type
          have hrun' : (execOp a.eval o).run C.P W = .ok (.value V) W' := by simp [execOp, heq, hrun]
          rw [Oper.wp, hrun', Oper.upon_value]
          exact hN ρ v h' V W' (List.prefix_refl _) hR hr hk
        · exact hw.elim

end
end Go.Proofs.Ytgcoipcnhmkeaaa.Ax
