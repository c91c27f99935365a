/- The document's table in memory; Find. -/
import Derived.Test.YteedadelgpagfaaDoorOnce
set_option linter.unusedVariables false
set_option linter.unusedSimpArgs false
namespace Go.Proofs.YteedadelgpagfaaDoor.Ax
open Go.RowKit

structure Fe where
  fd : Int
  at' : Int
  path : List UInt8

def Fe.cells (x : Fe) : List AV := [.int .i64 x.fd, .int .i64 x.at', .str x.path]
def fcells (F : List Fe) : List AV := F.flatMap Fe.cells

theorem fcells_length (F : List Fe) : (fcells F).length = 3 * F.length := by
  induction F with
  | nil => rfl
  | cons x F ih =>
    have e : fcells (x :: F) = x.cells ++ fcells F := rfl
    rw [e, List.length_append, ih]; simp [Fe.cells]; omega

theorem fcells_at {F : List Fe} {i : Nat} {x : Fe} (h : F[i]? = some x) : ((fcells F).drop (3 * i)).take 3 = x.cells := by
  induction F generalizing i with
  | nil => simp at h
  | cons y F ih =>
    have e : fcells (y :: F) = y.cells ++ fcells F := rfl
    cases i with
    | zero => simp at h; subst h; rw [e]; simp [Fe.cells]
    | succ i =>
      have := ih (i := i) (by simpa using h)
      rw [e, show 3 * (i + 1) = 3 + 3 * i by omega, ← List.drop_drop]
      simpa [Fe.cells] using this

/-- The document's table lies in own block kw, its list in block kl. -/
def RefIs (h : AH) (kw kl : Nat) (F : List Fe) : Prop :=
  kw < h.next ∧ ∃ sv, h.get kw = some (.cells [sv] 51) ∧ (F = [] ∧ sv = .sl none 0 0 none ∨ kl < h.next ∧ kl ≠ kw ∧ h.get kl = some (.cells (fcells F) 54) ∧ sv = .sl (some (.new kl 0)) F.length F.length (some 3))

theorem RefIs.keeps {h h' : AH} {kw kl : Nat} {F : List Fe} (hr : RefIs h kw kl F) (hk : Keeps h h') : RefIs h' kw kl F := by
  obtain ⟨h1, sv, h2, h3⟩ := hr
  refine ⟨Nat.lt_of_lt_of_le h1 hk.1, sv, (hk.2 kw h1).trans h2, ?_⟩
  rcases h3 with h3 | ⟨a, b, c, d⟩
  · exact .inl h3
  · exact .inr ⟨Nat.lt_of_lt_of_le a hk.1, b, (hk.2 kl a).trans c, d⟩

section
variable {W : World} {h : AH} {kw kl i : Nat} {F : List Fe} {x : Fe}
theorem fa_L : aFieldAddr (CC W) 51 (.ptr (some (.new kw 0))) 0 = some (.ptr (some (.new kw 0))) := by
  simp only [aFieldAddr, aOff, kind51]; rfl
theorem ld_L {sv : AV} (hg : h.get kw = some (.cells [sv] 51)) : aLoad (CC W) h 49 (.new kw 0) = some sv := by
  have : aLoad (CC W) h 49 (.new kw 0) = aCell (CC W) h (.new kw 0) := by unfold aLoad; rw [ty49]; rfl
  rw [this]
  simp only [aCell, hg]
  rfl
theorem idx_f {n c : Nat} {g : Option Nat} (hi : i < n) : aIndexAddr (CC W) 49 (.sl (some (.new kl 0)) n c g) (.int .i64 (i : Int)) = some (.ptr (some (.new kl (3 * i)))) := by
  simp only [aIndexAddr, kind49, size54]
  rw [if_pos (by omega)]
  simp [AA.add, Nat.mul_comm]
theorem ld_f {t : TypeId} (hg : h.get kl = some (.cells (fcells F) t)) (hx : F[i]? = some x) : aLoad (CC W) h 54 (.new kl (3 * i)) = some (.agg x.cells) := by
  have hi := (List.getElem?_eq_some_iff.1 hx).1
  have hl := fcells_length F
  unfold aLoad
  rw [ty54]
  show (aCells (CC W) h (.new kl (3 * i)) 3).map AV.agg = _
  simp only [aCells, hg]
  rw [if_pos (by omega), fcells_at hx]
  rfl
theorem alloc_f : aAlloc (CC W) h 54 = some (.ptr (some (.new h.next 0)), h.push (.cells [.int .i64 0, .int .i64 0, .str []] 54)) := by
  simp only [aAlloc, zero54, size54]
theorem store_f : aStoreOp (CC W) (h.push (.cells [.int .i64 0, .int .i64 0, .str []] 54)) 54 (.ptr (some (.new h.next 0))) (.agg x.cells) = some ((h.push (.cells [.int .i64 0, .int .i64 0, .str []] 54)).set h.next (.cells x.cells 54)) := by
  have hg : (h.push (.cells [.int .i64 0, .int .i64 0, .str []] 54)).get h.next = some (.cells [.int .i64 0, .int .i64 0, .str []] 54) := by simp
  simp only [aStoreOp, aCellsOf, size54, aStore, hg, Fe.cells]
  rfl
theorem fa_f0 {j o : Nat} : aFieldAddr (CC W) 54 (.ptr (some (.new j o))) 0 = some (.ptr (some (.new j o))) := by
  simp only [aFieldAddr, aOff, kind54]; rfl
theorem fa_f1 {j o : Nat} : aFieldAddr (CC W) 54 (.ptr (some (.new j o))) 1 = some (.ptr (some (.new j (o + 1)))) := by
  simp only [aFieldAddr, aOff, kind54]; rfl
theorem fa_f2 {j o : Nat} : aFieldAddr (CC W) 54 (.ptr (some (.new j o))) 2 = some (.ptr (some (.new j (o + 2)))) := by
  simp only [aFieldAddr, aOff, kind54]; rfl
end

/-- Where a descriptor stands; -1: it is not open. -/
def findR : List Fe → Int → Int
  | [], _ => -1
  | x :: F, fd => if x.fd = fd then 0 else if findR F fd = -1 then -1 else findR F fd + 1

theorem findR_miss {F : List Fe} {fd : Int} (h : ∀ x ∈ F, x.fd ≠ fd) : findR F fd = -1 := by
  induction F with
  | nil => rfl
  | cons y F ih =>
    unfold findR
    rw [if_neg (h y (by simp)), if_pos (ih fun x hx => h x (by simp [hx]))]
theorem findR_hit {F : List Fe} {fd : Int} {i : Nat} {x : Fe} (hx : F[i]? = some x) (hf : x.fd = fd) (hno : ∀ (j : Nat) y, j < i → F[j]? = some y → y.fd ≠ fd) : findR F fd = i := by
  induction F generalizing i with
  | nil => simp at hx
  | cons y F ih =>
    unfold findR
    cases i with
    | zero => simp at hx; subst hx; rw [if_pos hf]; rfl
    | succ i =>
      have h0 := hno 0 y (by omega) rfl
      have := ih (i := i) (by simpa using hx) fun j z hj hz => hno (j + 1) z (by omega) (by simpa using hz)
      rw [if_neg h0, this, if_neg (by omega)]
      omega

def FnI (h : AH) (F : List Fe) (fd : Int) (sv : AV) (m : Nat) (e' : Env) (h' : AH) : Prop :=
  Keeps h h' ∧ e'.length = 23 ∧ ∃ i : Nat, i + m = F.length ∧ (∀ (j : Nat) y, j < i → F[j]? = some y → y.fd ≠ fd) ∧ (e'.getD 1 .undef = .int .i64 fd ∧ e'.getD 10 .undef = sv ∧ e'.getD 11 .undef = .int .i64 F.length ∧ e'.getD 12 .undef = .int .i64 i)

set_option maxHeartbeats 4000000 in
set_option maxRecDepth 20000 in
theorem find_ret (W : World) (kw kl : Nat) (F : List Fe) (h : AH) (hr : RefIs h kw kl F) (hl : F.length < 1099511627776) (fd : Int) : RetQ (CC W) 19 [.ptr (some (.new kw 0)), .int .i64 fd] h fun v _ => v = .int .i64 (findR F fd) := by
  refine acall_fin (cc_ok W) (fn19 W) (by simp only [Tryd.f19]; rfl) rfl rfl ?_
  obtain ⟨h1, sv, h2, h3⟩ := hr
  have hld := ld_L (W := W) h2
  have hlen : aLen (CC W) h 49 sv = some (.int .i64 F.length) := by
    rcases h3 with ⟨rfl, rfl⟩ | ⟨_, _, _, rfl⟩ <;> simp [aLen, kind49]
  simp [Wc_seq, Wc_block, Wc_scope, Wc_skip, Wc_label, Wc_exit, Wc_ret, Wc_loop, Wc_region, Wc_cond, Nx_nil, Nx_seq, Nx_seq_exit, Nx_seq_ret, Nx_block, Nx_block_exit, Nx_block_ret, Rg_nil, Rg_cons, RgE, effA, calleeA, wantedA, enterN, ev, ofV, ofVn, putE, evalN, aBin, aInt_add, aInt_sub, aInt_mul, aInt_quo, aInt_rem, aInt_eql, aInt_neq, aInt_lss, aInt_leq, aInt_gtr, aInt_geq, aExtract, finQ_ret, resOf, extU, kq_eq, thenQ_normal, thenQ_exit, thenQ_ret, aNilCheck, fa_L, hld, hlen]
  refine loopN (cc_ok W) (FnI h F fd sv) F.length ⟨Keeps.refl _, by simp, 0, by simp, fun j y hj => by omega, by simp⟩ ?_
  rintro m e' h' ⟨hk, hl', i, him, hno, hh⟩
  match e', hl' with
  | a0 :: a1 :: a2 :: a3 :: a4 :: a5 :: a6 :: a7 :: a8 :: a9 :: a10 :: a11 :: a12 :: a13 :: a14 :: a15 :: a16 :: a17 :: a18 :: a19 :: a20 :: a21 :: a22 :: [], _ =>
    simp at hh
    obtain ⟨rfl, rfl, rfl, rfl⟩ := hh
    by_cases hlt : i < F.length
    · have hlt' : (i : Int) < (F.length : Int) := by omega
      have hx : F[i]? = some F[i] := by simp [hlt]
      generalize F[i] = x at hx
      have wi : IntKind.i64.wrap ((i : Int) + 1) = (i : Int) + 1 := wrap64 (by omega) (by omega)
      rcases h3 with ⟨rfl, rfl⟩ | ⟨a, b, c, hsv⟩
      · simp at hlt
      · subst hsv
        have c' : h'.get kl = some (.cells (fcells F) 54) := (hk.2 kl a).trans c
        have lf := ld_f (W := W) c' hx
        have hkf : Keeps h ((h'.push (.cells [.int .i64 0, .int .i64 0, .str []] 54)).set h'.next (.cells x.cells 54)) := hk.trans keeps_new
        have l0 : aLoad (CC W) ((h'.push (.cells [.int .i64 0, .int .i64 0, .str []] 54)).set h'.next (.cells x.cells 54)) 3 (.new h'.next 0) = some (.int .i64 x.fd) := by
          rw [ld_int]; simp [aCell, Fe.cells]
        by_cases hfd : x.fd = fd
        · have hf := findR_hit hx hfd hno
          have b1 : (x.fd == fd) = true := by rw [beq_iff_eq]; exact hfd
          rw [hf]
          simp [Wc_seq, Wc_block, Wc_scope, Wc_skip, Wc_label, Wc_exit, Wc_ret, Wc_loop, Wc_region, Wc_cond, Nx_nil, Nx_seq, Nx_seq_exit, Nx_seq_ret, Nx_block, Nx_block_exit, Nx_block_ret, Rg_nil, Rg_cons, RgE, effA, calleeA, wantedA, enterN, ev, ofV, ofVn, putE, evalN, aBin, aInt_add, aInt_sub, aInt_mul, aInt_quo, aInt_rem, aInt_eql, aInt_neq, aInt_lss, aInt_leq, aInt_gtr, aInt_geq, aExtract, finQ_ret, resOf, extU, kq_eq, thenQ_normal, thenQ_exit, thenQ_ret, hlt, hlt', idx_f hlt, lf, alloc_f, store_f, fa_f0, l0, b1, hkf]
        · have b1 : (x.fd == fd) = false := by rw [beq_eq_false_iff_ne]; exact hfd
          simp [Wc_seq, Wc_block, Wc_scope, Wc_skip, Wc_label, Wc_exit, Wc_ret, Wc_loop, Wc_region, Wc_cond, Nx_nil, Nx_seq, Nx_seq_exit, Nx_seq_ret, Nx_block, Nx_block_exit, Nx_block_ret, Rg_nil, Rg_cons, RgE, effA, calleeA, wantedA, enterN, ev, ofV, ofVn, putE, evalN, aBin, aInt_add, aInt_sub, aInt_mul, aInt_quo, aInt_rem, aInt_eql, aInt_neq, aInt_lss, aInt_leq, aInt_gtr, aInt_geq, aExtract, finQ_ret, resOf, extU, kq_eq, thenQ_normal, thenQ_exit, thenQ_ret, hlt, hlt', idx_f hlt, lf, alloc_f, store_f, fa_f0, l0, b1, wi]
          refine ⟨m - 1, by omega, hkf, by simp, i + 1, by omega, fun j y hj hy => ?_, by simp⟩
          rcases Nat.lt_or_ge j i with h | h
          · exact hno j y h hy
          · obtain rfl : j = i := by omega
            rw [hx] at hy; simp at hy; subst hy; exact hfd
    · have hlt' : ¬ (i : Int) < (F.length : Int) := by omega
      have hm : findR F fd = -1 := findR_miss fun x hx => by
        obtain ⟨j, hj⟩ := List.getElem?_of_mem hx
        exact hno j x (by have := (List.getElem?_eq_some_iff.1 hj).1; omega) hj
      rw [hm]
      simp [Wc_seq, Wc_block, Wc_scope, Wc_skip, Wc_label, Wc_exit, Wc_ret, Wc_loop, Wc_region, Wc_cond, Nx_nil, Nx_seq, Nx_seq_exit, Nx_seq_ret, Nx_block, Nx_block_exit, Nx_block_ret, Rg_nil, Rg_cons, RgE, effA, calleeA, wantedA, enterN, ev, ofV, ofVn, putE, evalN, aBin, aInt_add, aInt_sub, aInt_mul, aInt_quo, aInt_rem, aInt_eql, aInt_neq, aInt_lss, aInt_leq, aInt_gtr, aInt_geq, aExtract, finQ_ret, resOf, extU, kq_eq, thenQ_normal, thenQ_exit, thenQ_ret, hlt, hlt', hk]
end Go.Proofs.YteedadelgpagfaaDoor.Ax
