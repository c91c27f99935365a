/- The texts DwB, DwC, DwD, DwE, as one. -/
import Derived.Test.YtgcoipcnhmkeaaaGd
import Derived.Test.YtgcoipcnhmkeaaaGf
import Derived.Test.YtgcoipcnhmkeaaaGg

/-! Bitmaps: what the bitmap's functions answer of a block and a range that are right -/
section
set_option linter.unusedVariables false
set_option linter.unusedSimpArgs false
namespace Go.Proofs.Ytgcoipcnhmkeaaa.Ax
open Go.RowKit

/-- A call that keeps what was our own, and gives this. -/
def RetVk (C : Cx) (f : FuncId) (args : List AV) (h : AH) (v : AV) : Prop := ACall C f args h (fun w h' => w = v ∧ Keeps h h') (fun _ _ => False)
theorem callK_RetVk {C : Cx} {Q : Post} {ks : List Fr} {e : Env} {h : AH} {ops : Array Oper} {rest : List Oper} {dst : Option Tmp} {f : FuncId} {args : List AV} {v : AV} (hf : (C.fn f).isSome = true) (hc : RetVk C f args h v)
    (hk : ∀ h', Keeps h h' → Rg C Q ops rest ks (za9 e dst v) h') : CallK C Q ops rest ks e dst f args h :=
  je9 hf hc fun w h' hw => by rw [hw.1]; exact hk h' hw.2

def shrB (x : UInt8) (j : Nat) : Int := ((x.toNat >>> j : Nat) : Int)
theorem shr8 {x : UInt8} {i : Nat} : aShift .shr .u8 (x.toNat : Int) ((i : Int) % 8) = some (.int .u8 (shrB x (i % 8))) := by
  have h1 : ¬ ((i : Int) % 8 < 0) := by omega
  have h2 : min (i % 8) IntKind.u8.bits = i % 8 := by simp only [IntKind.bits]; omega
  have h3 : ((i : Int) % 8).toNat = i % 8 := by omega
  simp only [aShift, h1, if_false, h3, h2, shrB]
  congr 2
  rw [Nat.shiftRight_eq_div_pow, show ((2 : Int) ^ (i % 8)) = ((2 ^ (i % 8) : Nat) : Int) from by simp, Int.fdiv_eq_ediv_of_nonneg _ (Int.natCast_nonneg _)]
  rfl
theorem and1 {x : UInt8} {j : Nat} : aInt .and .u8 (shrB x j) 1 = some (.int .u8 (if x.toNat.testBit j then 1 else 0)) := by
  have : ∀ m : Fin 256, IntKind.u8.wrap ((BitVec.ofInt IntKind.u8.bits ((m.val : Nat) : Int) &&& BitVec.ofInt IntKind.u8.bits 1).toNat : Int) = ((m.val % 2 : Nat) : Int) := by decide +kernel
  have hlt : x.toNat >>> j < 256 := by
    have := x.toNat_lt
    rw [Nat.shiftRight_eq_div_pow]
    exact Nat.lt_of_le_of_lt (Nat.div_le_self _ _) this
  simp only [aInt, shrB]
  rw [this ⟨_, hlt⟩]
  simp only [Nat.testBit_eq_decide_div_mod_eq, Nat.shiftRight_eq_div_pow, decide_eq_true_eq]
  congr 2
  split <;> omega
theorem cdiv8 (i : Nat) : Int.tdiv (i : Int) 8 = (i : Int) / 8 := _root_.id rfl
theorem cmod8 (i : Nat) : Int.tmod (i : Int) 8 = (i : Int) % 8 := _root_.id rfl
theorem nn8 (i : Nat) : 0 ≤ (i : Int) / 8 := by omega
theorem tn8 (i : Nat) : ((i : Int) / 8).toNat = i / 8 := by omega
theorem bit_at {b : List UInt8} {i : Nat} (hi : i / 8 < b.length) : ∃ x, b[i / 8]? = some x ∧ Bts.at b (i / 8) = x.toNat := by
  refine ⟨b[i / 8], by simp [hi], by simp [Bts.at, hi]⟩

theorem bt_taken (W : World) (h : AH) (b : List UInt8) (i : Nat) (hb : b.length = 128) (hi : i < 1024) : RetH (CC W) 81 [.str b, .int .i64 i] h (.bool (bit b i)) := by
  refine jj9 (cc_ok W) (fn81 W) (by simp only [Try.f81]; rfl) rfl rfl ?_
  have h8 : i % 8 < 8 := Nat.mod_lt _ (by decide)
  have hw : IntKind.i64.wrap ((i : Int) / 8) = (i : Int) / 8 := wrap64 (by omega) (by omega)
  obtain ⟨x, hx, hbx⟩ := bit_at (b := b) (i := i) (by omega)
  simp [push_cast, aIndex, kind9, cdiv8, cmod8, hw, nn8, tn8, hx, shr8, and1, bit, hbx]
  cases x.toNat.testBit (i % 8) <;> rfl
theorem bt_asked (W : World) (h : AH) (b : List UInt8) (p n : Nat) (hb : b.length = 128) (hn : p + n ≤ 1024) : RetH (CC W) 80 [.str b, .int .i64 p, .int .i64 ((p : Int) + (n : Int))] h (.int .i64 0) := by
  refine jj9 (cc_ok W) (fn80 W) (by simp only [Try.f80]; rfl) rfl rfl ?_
  have h0 : (b.length : Int) = 128 := by omega
  have h1 : ¬ (p : Int) < 0 := by omega
  have h2 : ¬ ((p : Int) + (n : Int) < (p : Int)) := by omega
  have h3 : ¬ (1024 < (p : Int) + (n : Int)) := by omega
  simp [push_cast, aLen, kind9, h0, h1, h2, h3]
theorem bt_has (W : World) (h : AH) (b : List UInt8) (i : Nat) (hb : b.length = 128) (hi : i < 1024) : RetH (CC W) 121 [.str b, .int .i64 i] h (.tup [.bool (bit b i), .int .i64 0]) := by
  refine jj9 (cc_ok W) (fn121 W) (by simp only [Try.f121]; rfl) rfl rfl ?_
  have h0 : (b.length : Int) = 128 := by omega
  have h1 : ¬ (i : Int) < 0 := by omega
  have h2 : ¬ (1024 ≤ (i : Int)) := by omega
  have h2' : ¬ 1024 ≤ i := by omega
  simp [push_cast, aLen, kind9, h0, h1, h2, h2']
  refine jh9 (by simp [fn81]) (bt_taken W h b i hb hi) ?_
  simp [push_cast]

def BtI (b : List UInt8) (p n : Nat) (h : AH) (m : Nat) (e' : Env) (h' : AH) : Prop :=
  h' = h ∧ e'.length = 42 ∧ ∃ k : Nat, k + m = n ∧ leastB b p n = leastB b (p + k) (n - k) ∧
        (e'.getD 0 .undef = .str b ∧ e'.getD 2 .undef = .int .i64 ((p : Int) + (n : Int)) ∧ e'.getD 3 .undef = .int .i64 1 ∧ e'.getD 11 .undef = .int .i64 0 ∧ e'.getD 12 .undef = .int .i64 ((p : Int) + (k : Int)))
def lstV : Option Nat → AV
  | none => .tup [.int .i64 0, .int .i64 5]
  | some a => .tup [.int .i64 a, .int .i64 0]
set_option maxRecDepth 20000 in
set_option maxHeartbeats 2000000 in
theorem bt_run (W : World) (h : AH) (b : List UInt8) (p n : Nat) (hb : b.length = 128) (hn : p + n ≤ 1024) :
    RetH (CC W) 135 [.str b, .int .i64 p, .int .i64 ((p : Int) + (n : Int)), .int .i64 1] h (lstV (leastB b p n)) := by
  refine jj9 (cc_ok W) (fn135 W) (by simp only [Try.f135]; rfl) rfl rfl ?_
  simp [push_cast]
  refine jh9 (by simp [fn80]) (bt_asked W h b p n hb hn) ?_
  simp [push_cast]
  refine loopN (cc_ok W) (BtI b p n h) n ⟨rfl, by simp, 0, by simp, by simp, by simp⟩ ?_
  rintro m e' h' ⟨rfl, hl, k, hk, hle, hh⟩
  match e', hl with
  | a0 :: a1 :: a2 :: a3 :: a4 :: a5 :: a6 :: a7 :: a8 :: a9 :: a10 :: a11 :: a12 :: a13 :: a14 :: a15 :: a16 :: a17 :: a18 :: a19 :: a20 :: a21 :: a22 :: a23 :: a24 :: a25 :: a26 :: a27 :: a28 :: a29 :: a30 :: a31 :: a32 :: a33 :: a34 :: a35 :: a36 :: a37 :: a38 :: a39 :: a40 :: a41 :: [], _ =>
    simp at hh
    obtain ⟨rfl, rfl, rfl, rfl, rfl⟩ := hh
    have hwk : IntKind.i64.wrap ((p : Int) + (k : Int) + 1) = (p : Int) + (k : Int) + 1 := wrap64 (by omega) (by omega)
    by_cases hlt : k < n
    · obtain ⟨q, hq⟩ : ∃ q, n - k = q + 1 := ⟨n - k - 1, by omega⟩
      rw [hq] at hle
      simp [push_cast, hlt]
      have ht := bt_taken W h' b (p + k) hb (by omega)
      rw [Int.natCast_add] at ht
      refine jh9 (by simp [fn81]) ht ?_
      conv at hle => rhs; unfold leastB
      cases hbit : bit b (p + k)
      · rw [hbit] at hle
        simp only [Bool.false_eq_true, if_false] at hle
        have hw1 : IntKind.i64.wrap ((p : Int) + (k : Int) - 1) = (p : Int) + (k : Int) - 1 := wrap64 (by omega) (by omega)
        have hw2 : IntKind.i64.wrap ((p : Int) + (k : Int) - 1 + 1) = (p : Int) + (k : Int) := by rw [Int.sub_add_cancel]; exact wrap64 (by omega) (by omega)
        have hw3 : IntKind.i64.wrap 1 = 1 := wrap64 (by omega) (by omega)
        have hw4 : IntKind.i64.wrap ((p : Int) + (k : Int)) = (p : Int) + (k : Int) := wrap64 (by omega) (by omega)
        rw [hle]
        simp [push_cast, hw1, hw2, hw3, hw4, lstV]
      · rw [hbit] at hle
        simp only [if_true] at hle
        simp [push_cast, hwk]
        refine ⟨m - 1, by omega, rfl, by simp, k + 1, by omega, ?_, by simp; omega⟩
        rw [hle, show n - (k + 1) = q by omega]
        rfl
    · obtain rfl : k = n := by omega
      have : leastB b p k = none := by rw [hle, Nat.sub_self]; rfl
      simp [push_cast, this, lstV]
theorem bt_least (W : World) (h : AH) (b : List UInt8) (p n : Nat) (hb : b.length = 128) (hn : p + n ≤ 1024) :
    RetH (CC W) 120 [.str b, .int .i64 p, .int .i64 ((p : Int) + (n : Int))] h (lstV (leastB b p n)) := by
  refine jj9 (cc_ok W) (fn120 W) (by simp only [Try.f120]; rfl) rfl rfl ?_
  simp [push_cast]
  refine jh9 (by simp [fn135]) (bt_run W h b p n hb hn) ?_
  cases leastB b p n <;> simp [push_cast, lstV]

def BcI (b : List UInt8) (p n : Nat) (h : AH) (m : Nat) (e' : Env) (h' : AH) : Prop :=
  h' = h ∧ e'.length = 33 ∧ ∃ k : Nat, k + m = n ∧ (e'.getD 0 .undef = .str b ∧ e'.getD 1 .undef = .int .i64 p ∧ e'.getD 9 .undef = .int .i64 (cntB b p k) ∧ e'.getD 20 .undef = .int .i64 n ∧ e'.getD 21 .undef = .int .i64 k)
set_option maxRecDepth 20000 in
set_option maxHeartbeats 2000000 in
theorem bt_count (W : World) (h : AH) (b : List UInt8) (p n : Nat) (hb : b.length = 128) (hn : p + n ≤ 1024) :
    RetH (CC W) 50 [.str b, .int .i64 p, .int .i64 ((p : Int) + (n : Int))] h (.tup [.int .i64 (cntB b p n), .int .i64 0]) := by
  refine jj9 (cc_ok W) (fn50 W) (by simp only [Try.f50]; rfl) rfl rfl ?_
  have hws : IntKind.i64.wrap ((p : Int) + (n : Int) - (p : Int)) = (n : Int) := by rw [show (p : Int) + (n : Int) - (p : Int) = n by omega]; exact wrap64 (by omega) (by omega)
  simp [push_cast]
  refine jh9 (by simp [fn80]) (bt_asked W h b p n hb hn) ?_
  simp [push_cast, hws]
  refine loopN (cc_ok W) (BcI b p n h) n ⟨rfl, by simp, 0, by simp, by simp [cntB]⟩ ?_
  rintro m e' h' ⟨rfl, hl, k, hk, hh⟩
  match e', hl with
  | a0 :: a1 :: a2 :: a3 :: a4 :: a5 :: a6 :: a7 :: a8 :: a9 :: a10 :: a11 :: a12 :: a13 :: a14 :: a15 :: a16 :: a17 :: a18 :: a19 :: a20 :: a21 :: a22 :: a23 :: a24 :: a25 :: a26 :: a27 :: a28 :: a29 :: a30 :: a31 :: a32 :: [], _ =>
    simp at hh
    obtain ⟨rfl, rfl, rfl, rfl, rfl⟩ := hh
    by_cases hlt : k < n
    · have hwa : IntKind.i64.wrap ((p : Int) + (k : Int)) = (p : Int) + (k : Int) := wrap64 (by omega) (by omega)
      have hwk : IntKind.i64.wrap ((k : Int) + 1) = (k : Int) + 1 := wrap64 (by omega) (by omega)
      have hcl := cntB_le b p k
      have hwc : IntKind.i64.wrap ((cntB b p k : Int) + 1) = (cntB b p k : Int) + 1 := wrap64 (by omega) (by omega)
      simp [push_cast, hlt, hwa]
      have ht := bt_taken W h' b (p + k) hb (by omega)
      rw [Int.natCast_add] at ht
      refine jh9 (by simp [fn81]) ht ?_
      cases hbit : bit b (p + k)
      · simp [push_cast, hwk]
        refine ⟨m - 1, by omega, rfl, by simp, k + 1, by omega, by simp [cntB, hbit]⟩
      · simp [push_cast, hwk, hwc]
        refine ⟨m - 1, by omega, rfl, by simp, k + 1, by omega, by simp [cntB, hbit]⟩
    · obtain rfl : k = n := by omega
      simp [push_cast]

/-! ### a bit is set -/
def one8 (j : Nat) : Int := ((2 ^ j : Nat) : Int)
theorem andNotF : ∀ (x : Fin 256) (j : Fin 8), IntKind.u8.wrap (BitVec.ofInt IntKind.u8.bits ((x.val : Nat) : Int) &&& ~~~ BitVec.ofInt IntKind.u8.bits (one8 j.val)).toNat = ((clrN x.val j.val : Nat) : Int) := by decide +kernel
theorem orF : ∀ (x : Fin 256) (j : Fin 8), IntKind.u8.wrap (BitVec.ofInt IntKind.u8.bits ((clrN x.val j.val : Nat) : Int) ||| BitVec.ofInt IntKind.u8.bits (one8 j.val)).toNat = ((setN x.val j.val : Nat) : Int) := by decide +kernel
theorem oneF : ∀ (j : Fin 8), IntKind.u8.wrap (1 * 2 ^ j.val) = one8 j.val := by decide +kernel
theorem shl8 {i : Nat} : aShift .shl .u8 1 ((i : Int) % 8) = some (.int .u8 (one8 (i % 8))) := by
  have h1 : ¬ ((i : Int) % 8 < 0) := by omega
  have h2 : min (i % 8) IntKind.u8.bits = i % 8 := by simp only [IntKind.bits]; omega
  have h3 : ((i : Int) % 8).toNat = i % 8 := by omega
  simp only [aShift, h1, if_false, h3, h2]
  rw [oneF ⟨i % 8, Nat.mod_lt _ (by decide)⟩]
theorem andNot8 {x : Nat} {i : Nat} (hx : x < 256) : aInt .andNot .u8 (x : Int) (one8 (i % 8)) = some (.int .u8 (clrN x (i % 8) : Nat)) := by
  simp only [aInt]
  rw [andNotF ⟨x, hx⟩ ⟨i % 8, Nat.mod_lt _ (by decide)⟩]
theorem or8 {x : Nat} {i : Nat} (hx : x < 256) : aInt .or .u8 (clrN x (i % 8) : Nat) (one8 (i % 8)) = some (.int .u8 (setN x (i % 8) : Nat)) := by
  simp only [aInt]
  rw [orF ⟨x, hx⟩ ⟨i % 8, Nat.mod_lt _ (by decide)⟩]
theorem bLoad {W : World} {h : AH} {k o : Nat} {l : List UInt8} {t : TypeId} {x : UInt8} (hk : h.get k = some (.cells (bcells l) t)) (hx : l[o]? = some x) : aLoad (CC W) h 5 (.new k o) = some (.int .u8 x.toNat) := by
  have : aLoad (CC W) h 5 (.new k o) = aCell (CC W) h (.new k o) := by
    unfold aLoad; rw [ty5]; rfl
  rw [this]
  simp only [aCell, hk]
  exact bcells_get hx
theorem bStore {W : World} {h : AH} {k o n : Nat} {l : List UInt8} {t : TypeId} (hk : h.get k = some (.cells (bcells l) t)) (ho : o < l.length) (hn : n < 256) :
    aStoreOp (CC W) h 5 (.ptr (some (.new k o))) (.int .u8 (n : Int)) = some (h.set k (.cells (bcells (l.set o (UInt8.ofNat n))) t)) := by
  simp only [aStoreOp, aCellsOf, size5, List.length_singleton, if_true, aStore, hk, bcells_length]
  rw [if_pos ⟨by omega, by simp [aOne]⟩, bcells_put ho hn]
theorem bConv {W : World} {h : AH} {k : Nat} {l : List UInt8} {t : TypeId} {gr : Option Nat} {n c : Nat} (hk : h.get k = some (.cells (bcells l) t)) (hl : l.length = n) :
    aConv (CC W) h 45 9 (.sl (some (.new k 0)) n c gr) = some (.str l) := by
  simp only [aConv, kind45, kind9, kind5]
  have h2 : (bcells l).take n = bcells l := List.take_of_length_le (by rw [bcells_length]; omega)
  by_cases h0 : n = 0
  · subst h0
    have : l = [] := List.length_eq_zero_iff.1 hl
    subst this
    simp
  · simp [aCells, hk, bcells_length, hl, h2, bcells_read, h0]
theorem bMk {W : World} {h : AH} {b : List UInt8} : aConvE (CC W) h 9 45 (.str b) = some (.sl (some (.new h.next 0)) b.length b.length (some 1), h.push (.cells (bcells b) 5)) := by
  simp only [aConvE, kind45, kind9, kind5]; rfl
theorem bMkN {W : World} {h : AH} {b : List UInt8} : aConv (CC W) h 9 45 (.str b) = none := by
  simp only [aConv, kind45, kind9]
theorem bIdx8 {W : World} {k : Nat} {i : Nat} {gr : Option Nat} (hi : i < 1024) : aIndexAddr (CC W) 45 (.sl (some (.new k 0)) 128 128 gr) (.int .i64 ((i : Int) / 8)) = some (.ptr (some (.new k (i / 8)))) := by
  simp only [aIndexAddr, kind45, size5]
  rw [if_pos (by omega), tn8]
  simp [AA.add]
set_option maxRecDepth 20000 in
set_option maxHeartbeats 2000000 in
theorem bt_set (W : World) (h : AH) (b : List UInt8) (i : Nat) (on : Bool) (hb : b.length = 128) (hi : i < 1024) : RetVk (CC W) 91 [.str b, .int .i64 i, .bool on] h (.tup [.str (setL b i on), .int .i64 0]) := by
  refine jj9 (cc_ok W) (fn91 W) (by simp only [Try.f91]; rfl) rfl rfl ?_
  simp [push_cast]
  refine jh9 (by simp [fn121]) (bt_has W h b i hb hi) ?_
  have hw : IntKind.i64.wrap ((i : Int) / 8) = (i : Int) / 8 := wrap64 (by omega) (by omega)
  obtain ⟨x, hx, hbx⟩ := bit_at (b := b) (i := i) (by omega)
  have hj : i % 8 < 8 := Nat.mod_lt _ (by decide)
  have hx2 := x.toNat_lt
  have hclr : clrN x.toNat (i % 8) < 256 := put_lt ⟨x.toNat, hx2⟩ ⟨i % 8, hj⟩ false
  have hset : setN x.toNat (i % 8) < 256 := put_lt ⟨x.toNat, hx2⟩ ⟨i % 8, hj⟩ true
  have hg : (h.push (.cells (bcells b) 5)).get h.next = some (.cells (bcells b) 5) := by simp
  have hK := Keeps.push h (.cells (bcells b) 5)
  have hmk := bMk (W := W) (h := h) (b := b)
  have hkn : h.next ≤ h.next := Nat.le_refl _
  generalize h.push (.cells (bcells b) 5) = h1 at hg hK hmk
  generalize hkk : h.next = k at hg hmk hkn
  simp [push_cast, bMkN, hmk, hb]
  refine draw1 (cc_ok W) [0, 1, 2, 3, 4, 5, 6, 7, 8, 9, 10] (by kernel_rfl) (by kernel_rfl) (by kernel_rfl) rfl ?_
  simp [push_cast, cdiv8, cmod8, hw, bIdx8 hi, bLoad hg hx, shl8, andNot8 hx2, bStore hg (show i / 8 < b.length by omega) hclr]
  have hl1 : (b.set (i / 8) (UInt8.ofNat (clrN x.toNat (i % 8)))).length = 128 := by simp [hb]
  have hg2 : (h1.set k (.cells (bcells (b.set (i / 8) (UInt8.ofNat (clrN x.toNat (i % 8))))) 5)).get k = some (.cells (bcells (b.set (i / 8) (UInt8.ofNat (clrN x.toNat (i % 8))))) 5) := by simp
  have hK2 : Keeps h (h1.set k (.cells (bcells (b.set (i / 8) (UInt8.ofNat (clrN x.toNat (i % 8))))) 5)) := hK.set (by omega) _
  generalize h1.set k (.cells (bcells (b.set (i / 8) (UInt8.ofNat (clrN x.toNat (i % 8))))) 5) = h2 at hg2 hK2
  have hset1 : setL b i on = b.set (i / 8) (UInt8.ofNat (putN x.toNat (i % 8) on)) := by simp only [setL, hbx]
  rw [hset1]
  cases on with
  | false =>
    simp [push_cast, bConv hg2 hl1, putN]
    exact hK2
  | true =>
    have hx1 : (b.set (i / 8) (UInt8.ofNat (clrN x.toNat (i % 8))))[i / 8]? = some (UInt8.ofNat (clrN x.toNat (i % 8))) := by
      rw [List.getElem?_set]; simp; omega
    have hld : aLoad (CC W) h2 5 (.new k (i / 8)) = some (.int .u8 (clrN x.toNat (i % 8) : Nat)) := by
      rw [bLoad hg2 hx1]
      simp [Nat.mod_eq_of_lt hclr]
    have hst := bStore (W := W) (n := setN x.toNat (i % 8)) hg2 (show i / 8 < (b.set (i / 8) (UInt8.ofNat (clrN x.toNat (i % 8)))).length by omega) hset
    rw [List.set_set] at hst
    have hg3 : (h2.set k (.cells (bcells (b.set (i / 8) (UInt8.ofNat (setN x.toNat (i % 8))))) 5)).get k = some (.cells (bcells (b.set (i / 8) (UInt8.ofNat (setN x.toNat (i % 8))))) 5) := by simp
    have hK3 : Keeps h (h2.set k (.cells (bcells (b.set (i / 8) (UInt8.ofNat (setN x.toNat (i % 8))))) 5)) := hK2.set (by omega) _
    generalize h2.set k (.cells (bcells (b.set (i / 8) (UInt8.ofNat (setN x.toNat (i % 8))))) 5) = h3 at hg3 hK3 hst
    rw [if_pos rfl]
    refine draw1 (cc_ok W) [0, 1, 2, 3, 4, 5, 6, 7, 8, 9, 10] (by kernel_rfl) (by kernel_rfl) (by kernel_rfl) rfl ?_
    simp [push_cast, cdiv8, cmod8, hw, bIdx8 hi, hld, shl8, or8 hx2, hst]
    simp [push_cast, bConv hg3 (show (b.set (i / 8) (UInt8.ofNat (setN x.toNat (i % 8)))).length = 128 by simp [hb]), putN]
    exact hK3
end Go.Proofs.Ytgcoipcnhmkeaaa.Ax
end

/-! Numbers as bytes: the writer and the reader -/
section
set_option linter.unusedVariables false
set_option linter.unusedSimpArgs false
namespace Go.Proofs.Ytgcoipcnhmkeaaa.Ax
open Go.RowKit

/-! ### A writer -/
/-- Bytes in an own block, or none. -/
def BytVD (h : AH) (ko : Option Nat) (bv : AV) (l : List UInt8) : Prop := match ko with
  | none => l = [] ∧ bv = .sl none 0 0 none
  | some k => l ≠ [] ∧ k < h.next ∧ h.get k = some (.cells (bcells l) 5) ∧ bv = .sl (some (.new k 0)) l.length l.length (some 1)
/-- A writer, where its bytes are, and its bytes. -/
def WSD (h : AH) (kb : Nat) (ko : Option Nat) (l : List UInt8) : Prop :=
  kb < h.next ∧ ko ≠ some kb ∧ ∃ bv, h.get kb = some (.cells [bv] 175) ∧ BytVD h ko bv l
/-- What a writer may change. -/
def WFD (kb : Nat) (ko : Option Nat) (h : AH) (ko' : Option Nat) (h' : AH) : Prop :=
  h.next ≤ h'.next ∧ (∀ j, j < h.next → j ≠ kb → ko ≠ some j → h'.get j = h.get j) ∧ (ko' = ko ∨ ∃ k, ko' = some k ∧ h.next ≤ k)
theorem WFD.refl {kb : Nat} {ko : Option Nat} {h : AH} : WFD kb ko h ko h := ⟨Nat.le_refl _, fun _ _ _ _ => rfl, .inl rfl⟩
theorem WFD.trans {kb : Nat} {k1 k2 k3 : Option Nat} {h1 h2 h3 : AH} (a : WFD kb k1 h1 k2 h2) (b : WFD kb k2 h2 k3 h3) : WFD kb k1 h1 k3 h3 := by
  obtain ⟨a1, a2, a3⟩ := a
  obtain ⟨b1, b2, b3⟩ := b
  refine ⟨Nat.le_trans a1 b1, fun j hj hk ho => ?_, ?_⟩
  · rw [b2 j (by omega) hk, a2 j hj hk ho]
    rcases a3 with rfl | ⟨k, rfl, hk2⟩
    · exact ho
    · intro e; have := Option.some.inj e; omega
  · rcases b3 with rfl | ⟨k, rfl, hk2⟩
    · exact a3
    · exact .inr ⟨k, rfl, by omega⟩
theorem WSD.keeps {h h' : AH} {kb : Nat} {ko : Option Nat} {l : List UInt8} (hw : WSD h kb ko l) (hk : Keeps h h') : WSD h' kb ko l := by
  obtain ⟨a, b, bv, c, d⟩ := hw
  refine ⟨Nat.lt_of_lt_of_le a hk.1, b, bv, (hk.2 kb a).trans c, ?_⟩
  cases ko with
  | none => exact d
  | some k => obtain ⟨d1, d2, d3, d4⟩ := d; exact ⟨d1, Nat.lt_of_lt_of_le d2 hk.1, (hk.2 k d2).trans d3, d4⟩

section
variable {W : World} {h : AH} {k : Nat} {a : AV} {t : TypeId}
theorem st_wrtD {p : Option AA} {n c : Nat} {g : Option Nat} (hg : h.get k = some (.cells [a] t)) : aStoreOp (CC W) h 45 (.ptr (some (.new k 0))) (.sl p n c g) = some (h.set k (.cells [.sl p n c g] t)) := by
  simp only [aStoreOp, aCellsOf, size45, aStore, hg]
  rfl
theorem build_wrtD : aBuild (CC W) 175 [] = some (.agg [.sl none 0 0 none]) := rfl
theorem box_wrtD {l : List AV} : aBox h 175 (.agg l) = some (.ptr (some (.new h.next 0)), h.push (.cells l 175)) := rfl
end
/-- What is appended to a writer's bytes. -/
theorem BytVD.app {W : World} {h : AH} {ko : Option Nat} {bv : AV} {l : List UInt8} {T2 : TypeId} {x : AV} (s : List UInt8) (hb : BytVD h ko bv l) (hl : l.length + s.length < 8796093022207) (hni : niOK (CC W) #[45, T2] = true) (hnews : aNews (CC W) h 1 x = some (s.length, bcells s)) :
    ∃ p n c g ko' h', aAppend (CC W) h #[45, T2] bv x = some (.sl p n c g, h') ∧ BytVD h' ko' (.sl p n c g) (l ++ s) ∧ h.next ≤ h'.next ∧ (∀ j, j < h.next → ko ≠ some j → h'.get j = h.get j) ∧ (ko' = ko ∨ ∃ k, ko' = some k ∧ h.next ≤ k) := by
  have hb' : (CC W).bytes 5 = 1 := _root_.id rfl
  have hone : (bcells s).all aOne = true := by
    rw [List.all_eq_true]
    intro x hx
    obtain ⟨b, _, rfl⟩ := List.mem_map.1 hx
    rfl
  have hsl : (bcells s).length = s.length := bcells_length s
  cases ko with
  | none =>
    obtain ⟨rfl, rfl⟩ := hb
    by_cases hs : s = []
    · subst hs
      refine ⟨none, 0, 0, none, none, h, ?_, ⟨rfl, rfl⟩, Nat.le_refl _, fun _ _ _ => rfl, .inl rfl⟩
      simp [aAppend, kind45, size5, zero5, hb', hni, hnews]
    · have hpos : 0 < s.length := List.length_pos_iff.2 hs
      refine ⟨some (.new h.next 0), s.length, s.length, some 1, some h.next, h.push (.cells (bcells s) 5), ?_, ⟨by simpa using hs, by simp, by simp, by simp⟩, by simp, fun j hj _ => ?_, .inr ⟨_, rfl, Nat.le_refl _⟩⟩
      · simp [aAppend, kind45, size5, zero5, hb', hni, hnews, hs]
        omega
      · rw [AH.get_push, if_neg (by omega)]
  | some k =>
    obtain ⟨hne, h2, h4, rfl⟩ := hb
    have hpl : 0 < l.length := List.length_pos_iff.2 hne
    have hbl : (bcells l).length = l.length := bcells_length l
    by_cases hs : s = []
    · subst hs
      refine ⟨some (.new k 0), l.length, l.length, some 1, some k, h, ?_, ⟨by simpa using hne, h2, by simpa using h4, by simp⟩, Nat.le_refl _, fun _ _ _ => rfl, .inl rfl⟩
      simp [aAppend, kind45, size5, zero5, hb', hni, hnews]
    · have hpos : 0 < s.length := List.length_pos_iff.2 hs
      have hap : bcells l ++ bcells s = bcells (l ++ s) := by simp [bcells]
      refine ⟨some (.new h.next 0), l.length + s.length, l.length + s.length, some 1, some h.next, (h.kill k).push (.cells (bcells l ++ bcells s) 5), ?_, ⟨by simp [hne], by simp [AH.next_kill'], ?_, by simp⟩, by simp [AH.next_kill'], fun j hj hk => ?_, .inr ⟨_, rfl, Nat.le_refl _⟩⟩
      · generalize bcells s = c2 at hnews hone
        generalize bcells l = c1 at h4 hbl
        simp [aAppend, kind45, size5, zero5, hb', hni, hnews, h4, hbl, hs, AH.next_kill']
        rw [if_neg (by omega), if_pos (by omega), if_pos (by simpa using hone)]
      · rw [AH.get_push, AH.next_kill', if_pos rfl, hap]
      · have : j ≠ k := fun e => hk (by rw [e])
        rw [AH.get_push, AH.next_kill', if_neg (by omega), AH.get_kill', if_neg this]

/-- A writer that bytes are appended to, whatever they are made of. -/
theorem WSD.app {W : World} {h hx : AH} {kb : Nat} {ko : Option Nat} {l : List UInt8} {T2 : TypeId} {x : AV} (s : List UInt8) (hw : WSD h kb ko l) (hk : Keeps h hx) (hl : l.length + s.length < 8796093022207) (hni : niOK (CC W) #[45, T2] = true) (hnews : aNews (CC W) hx 1 x = some (s.length, bcells s)) :
    ∃ bv p n c g h1 h2 ko', h.get kb = some (.cells [bv] 175) ∧ aAppend (CC W) hx #[45, T2] bv x = some (.sl p n c g, h1) ∧ aStoreOp (CC W) h1 45 (.ptr (some (.new kb 0))) (.sl p n c g) = some h2 ∧ WSD h2 kb ko' (l ++ s) ∧ WFD kb ko h ko' h2 := by
  obtain ⟨a, b, bv, c, d⟩ := hw.keeps hk
  obtain ⟨p, n, q, g, ko', h1, e1, e2, e3, e4, e5⟩ := BytVD.app (W := W) s d hl hni hnews
  have hgk := (e4 kb a b).trans c
  have hkb : kb < h.next := hw.1
  have hko : ko' ≠ some kb := by
    rcases e5 with rfl | ⟨k, rfl, hk2⟩
    · exact b
    · intro e; have := Option.some.inj e; omega
  refine ⟨bv, p, n, q, g, h1, _, ko', (hk.2 kb hkb).symm.trans c, e1, st_wrtD hgk, ⟨by simp; omega, hko, _, by simp; rfl, ?_⟩, by simp; have := hk.1; omega, fun j hj hjk hjo => ?_, ?_⟩
  · cases ko' with
    | none => exact e2
    | some k =>
      obtain ⟨d1, d2, d3, d4⟩ := e2
      have : k ≠ kb := fun e => hko (by rw [e])
      exact ⟨d1, by simp; exact d2, by simp [this]; exact d3, d4⟩
  · have hj2 := Nat.lt_of_lt_of_le hj hk.1
    simp [hjk]
    rw [e4 j hj2 hjo, hk.2 j hj]
  · rcases e5 with rfl | ⟨k, rfl, hk2⟩
    · exact .inl rfl
    · exact .inr ⟨k, rfl, by have := hk.1; omega⟩
theorem news_byteD {W : World} {h : AH} {x : UInt8} : aNews (CC W) (h.push (.cells [.int .u8 x.toNat] 5)) 1 (.sl (some (.new h.next 0)) 1 1 none) = some ([x].length, bcells [x]) := by
  simp [aNews, aCells, bcells]

theorem build_byteD {W : World} {h : AH} {n : Int} : aBuildSlice (CC W) h 45 1 [(0, .int .u8 n)] = some (.sl (some (.new h.next 0)) 1 1 none, h.push (.cells [.int .u8 n] 5)) := by
  simp only [aBuildSlice, kind45, size5, zero5]
  rfl

theorem conv_bytesD {W : World} {h : AH} {ko : Option Nat} {bv : AV} {l : List UInt8} (hb : BytVD h ko bv l) : aConv (CC W) h 45 9 bv = some (.str l) := by
  cases ko with
  | none => obtain ⟨rfl, rfl⟩ := hb; rfl
  | some k =>
    obtain ⟨hne, _, h4, rfl⟩ := hb
    have hpl : 0 < l.length := List.length_pos_iff.2 hne
    have hbl : (bcells l).length = l.length := bcells_length l
    have ht : (bcells l).take l.length = bcells l := List.take_of_length_le (by omega)
    simp only [aConv, kind45, kind9, kind5]
    rw [if_neg (by omega)]
    simp [aCells, h4, hbl, ht, bcells_read]
set_option maxHeartbeats 8000000 in
theorem wout_retD (W : World) (h : AH) (kb : Nat) (ko : Option Nat) (l : List UInt8) (hw : WSD h kb ko l) :
    RetH (CC W) 97 [.ptr (some (.new kb 0))] h (.str l) := by
  refine jj9 (cc_ok W) (fn97 W) (by simp only [Try.f97]; rfl) rfl rfl ?_
  obtain ⟨k1, k2, bv, hg, hbv⟩ := hw
  have hcv := conv_bytesD (W := W) hbv
  simp [push_cast, aEq, kind148, kindEq1, aEq1, fa175_0, ld45, ji9 hg, jd9, hcv]
set_option maxHeartbeats 8000000 in
theorem wnew_retD (W : World) (h : AH) : ACall (CC W) 95 [] h (fun w h' => ∃ kb, w = .ptr (some (.new kb 0)) ∧ h.next ≤ kb ∧ Keeps h h' ∧ WSD h' kb none []) (fun _ _ => False) := by
  refine jj9 (cc_ok W) (fn95 W) (by simp only [Try.f95]; rfl) rfl rfl ?_
  simp [push_cast, build_wrtD, box_wrtD]
  exact ⟨Keeps.push _ _, by simp, by simp, .sl none 0 0 none, by simp, rfl, rfl⟩


theorem aUnN {b : Bool} : aUn .not (.bool b) = some (.bool (!b)) := _root_.id rfl

/-! ### numbers -/
theorem le_succ (n : Nat) : ∀ k, le n (k + 1) = le n k ++ [UInt8.ofNat (n / 256 ^ k)] := by
  intro k
  induction k generalizing n with
  | zero => simp [le]
  | succ k ih =>
    rw [le, ih (n / 256), le]
    simp only [List.cons_append]
    rw [Nat.div_div_eq_div_mul, Nat.pow_succ, Nat.mul_comm]
theorem cd_sized (W : World) (h : AH) (k : Nat) (hk : k = 1 ∨ k = 2 ∨ k = 4) : RetH (CC W) 123 [.int .i64 k] h (.bool true) := by
  refine jj9 (cc_ok W) (fn123 W) (by simp only [Try.f123]; rfl) rfl rfl ?_
  rcases hk with rfl | rfl | rfl <;> simp [push_cast]
theorem pow_256 (j : Nat) : (2 : Nat) ^ (8 * j) = 256 ^ j := by rw [Nat.pow_mul]
theorem shr_nat {n j : Nat} (hj : j ≤ 8) : aShift .shr .i64 (n : Int) (8 * (j : Int)) = some (.int .i64 ((n / 256 ^ j : Nat) : Int)) := by
  simp only [aShift]
  rw [if_neg (by omega)]
  have h1 : min (8 * (j : Int)).toNat IntKind.i64.bits = 8 * j := by simp only [IntKind.bits]; omega
  rw [h1, show ((2 : Int) ^ (8 * j)) = ((256 ^ j : Nat) : Int) from by rw [← pow_256]; simp, Int.fdiv_eq_ediv_of_nonneg _ (Int.natCast_nonneg _)]
  rfl
theorem conv_8 {W : World} {h : AH} {n : Int} : aConv (CC W) h 3 5 (.int .i64 n) = some (.int .u8 (IntKind.u8.wrap n)) := rfl
theorem conv_83 {W : World} {h : AH} {n : Int} : aConv (CC W) h 5 3 (.int .u8 n) = some (.int .i64 (IntKind.i64.wrap n)) := rfl
theorem wrap_u8 (n : Nat) : IntKind.u8.wrap (n : Int) = ((UInt8.ofNat n).toNat : Int) := by
  have h1 : IntKind.u8.wrap (n : Int) = (n : Int) % 256 := rfl
  rw [h1]
  simp only [UInt8.toNat_ofNat']
  omega

def FixI (h0 : AH) (kb : Nat) (ko : Option Nat) (l : List UInt8) (n k : Nat) (m : Nat) (e' : Env) (h' : AH) : Prop :=
  e'.length = 49 ∧ ∃ (i : Nat) (ko' : Option Nat), i + m = k ∧ WSD h' kb ko' (l ++ le n i) ∧ WFD kb ko h0 ko' h' ∧ (e'.getD 0 .undef = .ptr (some (.new kb 0)) ∧ e'.getD 1 .undef = .int .i64 n ∧ e'.getD 30 .undef = .int .i64 k ∧ e'.getD 31 .undef = .int .i64 i)
set_option maxRecDepth 100000 in
set_option maxHeartbeats 8000000 in
theorem cd_fixed (W : World) (h : AH) (kb : Nat) (ko : Option Nat) (l : List UInt8) (n k : Nat) (hk : k = 1 ∨ k = 2 ∨ k = 4) (hn : n < 256 ^ k) (hw : WSD h kb ko l) (hl : l.length < 1000000) :
    ACall (CC W) 96 [.ptr (some (.new kb 0)), .int .i64 n, .int .i64 k] h (fun w h' => w = .int .i64 0 ∧ ∃ ko', WSD h' kb ko' (l ++ le n k) ∧ WFD kb ko h ko' h') (fun _ _ => False) := by
  refine jj9 (cc_ok W) (fn96 W) (by simp only [Try.f96]; rfl) rfl rfl ?_
  have hni : niOK (CC W) #[45, 45] = true := _root_.id rfl
  have hneg : ¬ (n : Int) < 0 := by omega
  have hk8 : (k : Int) < 8 := by omega
  have hk4 : k ≤ 4 := by omega
  have hw8 : IntKind.i64.wrap (8 * (k : Int)) = 8 * (k : Int) := wrap64 (by omega) (by omega)
  have hsh := shr_nat (n := n) (j := k) (by omega)
  have hz : n / 256 ^ k = 0 := Nat.div_eq_of_lt hn
  rw [hz] at hsh
  simp [push_cast]
  refine jh9 (by simp [fn123]) (cd_sized W h k hk) ?_
  simp [push_cast, hneg, hk8, hw8, hsh, aUnN, aEq, kind148, kindEq1, aEq1]
  refine loopN (cc_ok W) (FixI h kb ko l n k) k ⟨by simp, 0, ko, by simp, by simpa [le] using hw, WFD.refl, by simp⟩ ?_
  rintro m e' h' ⟨hlen', i, ko2, hik, hw2, hf2, hh⟩
  obtain ⟨a0, a1, a2, a3, a4, a5, a6, a7, a8, a9, rS0, rfl, hS0⟩ := un10 hlen'
  obtain ⟨a10, a11, a12, a13, a14, a15, a16, a17, a18, a19, rS10, rfl, hS10⟩ := un10 hS0
  obtain ⟨a20, a21, a22, a23, a24, a25, a26, a27, a28, a29, rS20, rfl, hS20⟩ := un10 hS10
  obtain ⟨a30, a31, a32, a33, a34, a35, a36, a37, a38, a39, rS30, rfl, hS30⟩ := un10 hS20
  obtain ⟨a40, rS40, rfl, hS40⟩ := un1 hS30
  obtain ⟨a41, rS41, rfl, hS41⟩ := un1 hS40
  obtain ⟨a42, rS42, rfl, hS42⟩ := un1 hS41
  obtain ⟨a43, rS43, rfl, hS43⟩ := un1 hS42
  obtain ⟨a44, rS44, rfl, hS44⟩ := un1 hS43
  obtain ⟨a45, rS45, rfl, hS45⟩ := un1 hS44
  obtain ⟨a46, rS46, rfl, hS46⟩ := un1 hS45
  obtain ⟨a47, rS47, rfl, hS47⟩ := un1 hS46
  obtain ⟨a48, rS48, rfl, hS48⟩ := un1 hS47
  obtain rfl := un0 hS48
  clear hlen' hS0 hS10 hS20 hS30 hS40 hS41 hS42 hS43 hS44 hS45 hS46 hS47 hS48
  simp at hh
  obtain ⟨rfl, rfl, rfl, rfl⟩ := hh
  by_cases hlt : i < k
  · have hw9 : IntKind.i64.wrap (8 * (i : Int)) = 8 * (i : Int) := wrap64 (by omega) (by omega)
    have hsi := shr_nat (n := n) (j := i) (by omega)
    have hwi : IntKind.i64.wrap ((i : Int) + 1) = (i : Int) + 1 := wrap64 (by omega) (by omega)
    have hll := le_len n i
    obtain ⟨bv, p, q, c, g, h5, h6, ko6, hg, hap, hst, hw6, hf6⟩ := hw2.app (W := W) [UInt8.ofNat (n / 256 ^ i)] (Keeps.push h' (.cells [.int .u8 (UInt8.ofNat (n / 256 ^ i)).toNat] 5)) (by simp; omega) hni news_byteD
    have hbs := build_byteD (W := W) (h := h') (n := (UInt8.ofNat (n / 256 ^ i)).toNat)
    have hx := wrap_u8 (n / 256 ^ i)
    rw [List.append_assoc, ← le_succ] at hw6
    generalize n / 256 ^ i = d at *
    generalize UInt8.ofNat d = x at *
    simp [push_cast, hlt]
    have hgp : (h'.push (.cells [.int .u8 x.toNat] 5)).get kb = some (.cells [bv] 175) := ((Keeps.push h' _).2 kb hw2.1).trans hg
    refine drawS [0, 1, 2, 3, 4, 5, 6, 7, 8, 9, 10, 11, 12, 13, 14] (by kernel_rfl) (by kernel_rfl) ?_
    simp [push_cast, zx9, zy9, SgO, opA, isE, isRead, fa175_0, ld45, ji9 hg, jd9, hw9, hsi, conv_8, hx]
    refine jc9 (v := .sl (some (.new h'.next 0)) 1 1 none) (h' := h'.push (.cells [.int .u8 x.toNat] 5)) (by rfl) (by simp [push_cast, hbs]) ⟨by simp only [zz9, ja9]; refine ⟨fun _ => ?_, fun _ => ?_, trivial⟩ <;> simp [push_cast, opA, jd9, fa175_0, ld45, ji9 hgp, conv_8, hx], ?_⟩
    simp [push_cast, zx9, zy9, SgO, opA, isE, isRead]
    refine jc9 (v := .sl p q c g) (h' := h5) (by rfl) (by simp [push_cast, hap]) ⟨by simp only [zz9, ja9]; exact ⟨fun hr => absurd hr (by decide), fun hr => absurd hr (by decide), trivial⟩, ?_⟩
    simp [push_cast, zx9, zy9, SgO, opA, isE, isRead, fa175_0, jd9]
    refine jc9 (v := .undef) (h' := h6) (by rfl) (by simp [push_cast, hst]) ⟨by simp only [zz9, ja9]; exact ⟨fun hr => absurd hr (by decide), fun hr => absurd hr (by decide), trivial⟩, ?_⟩
    simp [push_cast, zx9, zy9, SgO, opA, isE, isRead, hwi]
    exact ⟨m - 1, by omega, by simp, i + 1, ko6, by omega, hw6, hf2.trans hf6, by simp⟩
  · obtain rfl : i = k := by omega
    simp [push_cast]
    exact ⟨ko2, hw2, hf2⟩

/-! ### the reader -/
/-- A reader with these bytes left. -/
def RS (h : AH) (kb : Nat) (s : List UInt8) : Prop := kb < h.next ∧ h.get kb = some (.cells [.str s, .int .i64 0] 177)
theorem build_rd {W : World} {s : List UInt8} : aBuild (CC W) 177 [(0, .str s)] = some (.agg [.str s, .int .i64 0]) := rfl
theorem box_rd {h : AH} {l : List AV} : aBox h 177 (.agg l) = some (.ptr (some (.new h.next 0)), h.push (.cells l 177)) := rfl
theorem rd_of (W : World) (h : AH) (s : List UInt8) : ACall (CC W) 98 [.str s] h (fun w h' => w = .ptr (some (.new h.next 0)) ∧ Keeps h h' ∧ RS h' h.next s) (fun _ _ => False) := by
  refine jj9 (cc_ok W) (fn98 W) (by simp only [Try.f98]; rfl) rfl rfl ?_
  simp [push_cast, build_rd, box_rd]
  exact ⟨Keeps.push _ _, by simp, by simp⟩
theorem rd_failed (W : World) (h : AH) (kb : Nat) (s : List UInt8) (hr : RS h kb s) : RetH (CC W) 124 [.ptr (some (.new kb 0))] h (.int .i64 0) := by
  refine jj9 (cc_ok W) (fn124 W) (by simp only [Try.f124]; rfl) rfl rfl ?_
  have hg := hr.2
  simp [push_cast, aEq, kind151, kindEq1, aEq1, fa177_1, ld27, ji9 hg, jd9]
theorem st_rd {W : World} {h : AH} {k : Nat} {a b : AV} {t : TypeId} {s : List UInt8} (hg : h.get k = some (.cells [a, b] t)) : aStoreOp (CC W) h 9 (.ptr (some (.new k 0))) (.str s) = some (h.set k (.cells [.str s, b] t)) := by
  simp only [aStoreOp, aCellsOf, size9, aStore, hg]
  rfl
theorem shl_nat {x : UInt8} {j : Nat} (hj : j < 4) : aShift .shl .i64 (x.toNat : Int) (8 * (j : Int)) = some (.int .i64 ((x.toNat * 256 ^ j : Nat) : Int)) := by
  simp only [aShift]
  rw [if_neg (by omega)]
  have h1 : min (8 * (j : Int)).toNat IntKind.i64.bits = 8 * j := by simp only [IntKind.bits]; omega
  have h2 := x.toNat_lt
  have h3 : 256 ^ j ≤ 256 ^ 3 := Nat.pow_le_pow_right (by decide) (by omega)
  have h4 : x.toNat * 256 ^ j ≤ 255 * 256 ^ 3 := Nat.mul_le_mul (by omega) h3
  rw [h1, show ((2 : Int) ^ (8 * j)) = ((256 ^ j : Nat) : Int) from by rw [← pow_256]; simp]
  have e : (x.toNat : Int) * ((256 ^ j : Nat) : Int) = ((x.toNat * 256 ^ j : Nat) : Int) := by simp
  rw [e, wrap64 (by omega) (by omega)]
theorem or_nat {a b : Nat} (ha : a < 2 ^ 40) (hb : b < 2 ^ 40) : aInt .or .i64 (a : Int) (b : Int) = some (.int .i64 ((a ||| b : Nat) : Int)) := by
  have hlt : a ||| b < 2 ^ 40 := Nat.or_lt_two_pow ha hb
  simp only [aInt]
  congr 2
  have h1 : BitVec.ofInt IntKind.i64.bits (a : Int) = BitVec.ofNat 64 a := by simp [IntKind.bits]
  have h2 : BitVec.ofInt IntKind.i64.bits (b : Int) = BitVec.ofNat 64 b := by simp [IntKind.bits]
  rw [h1, h2]
  have h3 : (BitVec.ofNat 64 a ||| BitVec.ofNat 64 b).toNat = a ||| b := by
    rw [BitVec.toNat_or, BitVec.toNat_ofNat, BitVec.toNat_ofNat, Nat.mod_eq_of_lt (by omega), Nat.mod_eq_of_lt (by omega)]
  have h4 : ((BitVec.ofNat 64 a ||| BitVec.ofNat 64 b).toNat : Int) = ((a ||| b : Nat) : Int) := by rw [h3]
  refine (congrArg IntKind.i64.wrap h4).trans (wrap64 (by omega) (by omega))
theorem or_add {a x j : Nat} (ha : a < 256 ^ j) : a ||| x * 256 ^ j = a + 256 ^ j * x := by
  rw [← pow_256] at ha ⊢
  rw [Nat.mul_comm, Nat.or_comm, ← Nat.two_pow_add_eq_or_of_lt ha, Nat.add_comm]
theorem ofLe_snoc : ∀ (l : Bts) (x : UInt8), ofLe (l ++ [x]) = ofLe l + 256 ^ l.length * x.toNat
  | [], x => by simp [ofLe]
  | b :: l, x => by
    simp only [List.cons_append, ofLe, ofLe_snoc l x, List.length_cons, Nat.pow_succ]
    rw [Nat.mul_add, Nat.mul_comm (256 ^ l.length) 256, Nat.mul_assoc]
    omega
def RdI (h : AH) (kb : Nat) (s : List UInt8) (k : Nat) (m : Nat) (e' : Env) (h' : AH) : Prop :=
  h' = h ∧ e'.length = 57 ∧ ∃ i : Nat, i + m = k ∧ (e'.getD 0 .undef = .ptr (some (.new kb 0)) ∧ e'.getD 1 .undef = .int .i64 k ∧ e'.getD 7 .undef = .int .i64 (ofLe (s.take i)) ∧ e'.getD 26 .undef = .int .i64 k ∧ e'.getD 27 .undef = .int .i64 i)
set_option maxRecDepth 100000 in
set_option maxHeartbeats 8000000 in
theorem rd_fixed (W : World) (h : AH) (kb : Nat) (s : List UInt8) (k : Nat) (hk : k = 1 ∨ k = 2 ∨ k = 4) (hr : RS h kb s) (hs : k ≤ s.length) (hl : s.length < 1000000) :
    ACall (CC W) 99 [.ptr (some (.new kb 0)), .int .i64 k] h (fun w h' => w = .tup [.int .i64 (ofLe (s.take k)), .int .i64 0] ∧ h' = h.set kb (.cells [.str (s.drop k), .int .i64 0] 177)) (fun _ _ => False) := by
  refine jj9 (cc_ok W) (fn99 W) (by simp only [Try.f99]; rfl) rfl rfl ?_
  have hg := hr.2
  have hlt : ¬ (s.length : Int) < (k : Int) := by omega
  have hk4 : k ≤ 4 := by omega
  simp [push_cast]
  refine jh9 (by simp [fn123]) (cd_sized W h k hk) ?_
  simp [push_cast, aUnN]
  refine jh9 (by simp [fn124]) (rd_failed W h kb s hr) ?_
  simp [push_cast, fa177_0, ld9, ji9 hg, jd9, aLen, kind9, hlt]
  refine loopN (cc_ok W) (RdI h kb s k) k ⟨rfl, by simp, 0, by simp, by simp [ofLe]⟩ ?_
  rintro m e' h' ⟨rfl, hlen', i, hik, hh⟩
  obtain ⟨a0, a1, a2, a3, a4, a5, a6, a7, a8, a9, rS0, rfl, hS0⟩ := un10 hlen'
  obtain ⟨a10, a11, a12, a13, a14, a15, a16, a17, a18, a19, rS10, rfl, hS10⟩ := un10 hS0
  obtain ⟨a20, a21, a22, a23, a24, a25, a26, a27, a28, a29, rS20, rfl, hS20⟩ := un10 hS10
  obtain ⟨a30, a31, a32, a33, a34, a35, a36, a37, a38, a39, rS30, rfl, hS30⟩ := un10 hS20
  obtain ⟨a40, a41, a42, a43, a44, a45, a46, a47, a48, a49, rS40, rfl, hS40⟩ := un10 hS30
  obtain ⟨a50, rS50, rfl, hS50⟩ := un1 hS40
  obtain ⟨a51, rS51, rfl, hS51⟩ := un1 hS50
  obtain ⟨a52, rS52, rfl, hS52⟩ := un1 hS51
  obtain ⟨a53, rS53, rfl, hS53⟩ := un1 hS52
  obtain ⟨a54, rS54, rfl, hS54⟩ := un1 hS53
  obtain ⟨a55, rS55, rfl, hS55⟩ := un1 hS54
  obtain ⟨a56, rS56, rfl, hS56⟩ := un1 hS55
  obtain rfl := un0 hS56
  clear hlen' hS0 hS10 hS20 hS30 hS40 hS50 hS51 hS52 hS53 hS54 hS55 hS56
  simp at hh
  obtain ⟨rfl, rfl, rfl, rfl, rfl⟩ := hh
  have htl : (s.take i).length = i := by simp; omega
  have hv := ofLe_lt (s.take i)
  rw [htl] at hv
  by_cases hlt : i < k
  · obtain ⟨x, hx⟩ : ∃ x, s[i]? = some x := ⟨s[i], by simp⟩
    have hw9 : IntKind.i64.wrap (8 * (i : Int)) = 8 * (i : Int) := wrap64 (by omega) (by omega)
    have hwi : IntKind.i64.wrap ((i : Int) + 1) = (i : Int) + 1 := wrap64 (by omega) (by omega)
    have hwx : IntKind.i64.wrap (x.toNat : Int) = x.toNat := by have := x.toNat_lt; exact wrap64 (by omega) (by omega)
    have hsl := shl_nat (x := x) (j := i) (by omega)
    have h3 : 256 ^ i ≤ 256 ^ 3 := Nat.pow_le_pow_right (by decide) (by omega)
    have h4 : x.toNat * 256 ^ i ≤ 255 * 256 ^ 3 := Nat.mul_le_mul (by have := x.toNat_lt; omega) h3
    have hor := or_nat (a := ofLe (s.take i)) (b := x.toNat * 256 ^ i) (by omega) (by omega)
    rw [or_add hv] at hor
    have hnx : ofLe (s.take (i + 1)) = ofLe (s.take i) + 256 ^ i * x.toNat := by
      rw [List.take_add_one, hx, Option.toList_some, ofLe_snoc, htl]
    rw [← hnx] at hor
    generalize x.toNat * 256 ^ i = y at *
    simp [push_cast, hlt, fa177_0, ld9, ji9 hg, jd9, aIndex, kind9, hx, conv_83, hwx, hw9, hsl, hor, hwi]
    exact ⟨m - 1, by omega, rfl, by simp, i + 1, by omega, by simp⟩
  · obtain rfl : i = k := by omega
    have hng : ¬ (ofLe (s.take i) : Int) < 0 := by omega
    have hst := st_rd (W := W) (s := s.drop i) hg
    simp [push_cast, hng, fa177_0, ld9, ji9 hg, jd9, slice_lo hs, hst]
end Go.Proofs.Ytgcoipcnhmkeaaa.Ax
end

/-! Inodes as bytes: the walks -/
section
set_option linter.unusedVariables false
set_option linter.unusedSimpArgs false
namespace Go.Proofs.Ytgcoipcnhmkeaaa.Ax
open Go.RowKit

def blkZ (n : Int) : Bool := decide (0 ≤ n) && decide (n < 1024)
theorem nd_block (W : World) (h : AH) (n : Int) : RetH (CC W) 122 [.int .i64 n] h (.bool (blkZ n)) := by
  refine jj9 (cc_ok W) (fn122 W) (by simp only [Try.f122]; rfl) rfl rfl ?_
  by_cases h1 : 0 ≤ n
  · by_cases h2 : n < 1024 <;> simp [push_cast, h1, h2, blkZ]
  · simp [push_cast, h1, blkZ]
theorem nd_asked (W : World) (h : AH) (b : List UInt8) (k m : Nat) (hb : b.length = 128) (hk : k < m) : RetH (CC W) 78 [.str b, .int .i64 k, .int .i64 m] h (.int .i64 0) := by
  refine jj9 (cc_ok W) (fn78 W) (by simp only [Try.f78]; rfl) rfl rfl ?_
  have h0 : (b.length : Int) = 128 := by omega
  have h1 : ¬ (k : Int) < 0 := by omega
  have h2 : ¬ ((m : Int) ≤ (k : Int)) := by omega
  have h2' : ¬ m ≤ k := by omega
  simp [push_cast, aLen, kind9, h0, h1, h2, h2']
theorem byte_at {b : List UInt8} {i : Nat} (hi : i < b.length) : ∃ x, b[i]? = some x ∧ Bts.at b i = x.toNat := ⟨b[i], by simp [hi], by simp [Bts.at, hi]⟩
theorem shl_8 {x : UInt8} : aShift .shl .i64 (x.toNat : Int) 8 = some (.int .i64 ((x.toNat * 256 : Nat) : Int)) := by
  have := shl_nat (x := x) (j := 1) (by decide)
  simpa using this
set_option maxRecDepth 20000 in
set_option maxHeartbeats 2000000 in
theorem nd_name (W : World) (h : AH) (b : List UInt8) (k : Nat) (hb : b.length = 128) (hk : k < 64) : RetH (CC W) 93 [.str b, .int .i64 k] h (.tup [.int .i64 (numR b k), .int .i64 0]) := by
  refine jj9 (cc_ok W) (fn93 W) (by simp only [Try.f93]; rfl) rfl rfl ?_
  simp [push_cast]
  refine jh9 (by simp [fn78]) (nd_asked W h b k 64 hb hk) ?_
  obtain ⟨x, hx, hbx⟩ := byte_at (b := b) (i := 2 * k) (by omega)
  obtain ⟨y, hy, hby⟩ := byte_at (b := b) (i := 2 * k + 1) (by omega)
  have hw1 : IntKind.i64.wrap (2 * (k : Int)) = ((2 * k : Nat) : Int) := by rw [show 2 * (k : Int) = ((2 * k : Nat) : Int) by omega]; exact wrap64 (by omega) (by omega)
  have hw2 : IntKind.i64.wrap (((2 * k : Nat) : Int) + 1) = ((2 * k + 1 : Nat) : Int) := by rw [show ((2 * k : Nat) : Int) + 1 = ((2 * k + 1 : Nat) : Int) by omega]; exact wrap64 (by omega) (by omega)
  have hx2 := x.toNat_lt
  have hy2 := y.toNat_lt
  have hwx : IntKind.i64.wrap (x.toNat : Int) = x.toNat := wrap64 (by omega) (by omega)
  have hwy : IntKind.i64.wrap (y.toNat : Int) = y.toNat := wrap64 (by omega) (by omega)
  have hor := or_nat (a := x.toNat) (b := y.toNat * 256) (by omega) (by omega)
  have h2 := or_add (a := x.toNat) (x := y.toNat) (j := 1) (by omega)
  rw [Nat.pow_one] at h2
  rw [h2] at hor
  have hnum : numR b k = x.toNat + 256 * y.toNat := by simp only [numR, hbx, hby]
  rw [hnum]
  have hsy := shl_8 (x := y)
  generalize y.toNat * 256 = z at *
  generalize hq : 2 * k = q at *
  generalize hr : q + 1 = r at *
  simp [push_cast]
  refine draw1 (cc_ok W) [0, 1, 2, 3, 4, 5, 6, 7, 8, 9, 10, 11, 12, 13, 14] (by kernel_rfl) (by kernel_rfl) (by kernel_rfl) rfl ?_
  simp [push_cast, aIndex, kind9, hw1, hw2, hx, hy, conv_83, hwx, hwy, hsy, hor]
theorem build_two {W : World} {h : AH} {a b : Int} : aBuildSlice (CC W) h 45 2 [(0, .int .u8 a), (1, .int .u8 b)] = some (.sl (some (.new h.next 0)) 2 2 none, h.push (.cells [.int .u8 a, .int .u8 b] 5)) := by
  simp only [aBuildSlice, kind45, size5, zero5]
  rfl
theorem strAdd {x y : List UInt8} (h : x.length + y.length < 1000000) : aStr .add x y = some (.str (x ++ y)) := by
  simp only [aStr]
  rw [if_neg]
  have : IntKind.i64.max = 9223372036854775807 := rfl
  omega
set_option maxRecDepth 20000 in
set_option maxHeartbeats 4000000 in
theorem nd_rename (W : World) (h : AH) (b : List UInt8) (k to : Nat) (hb : b.length = 128) (hk : k < 64) (ht : to < 1024) : RetVk (CC W) 92 [.str b, .int .i64 k, .int .i64 to] h (.tup [.str (renR b k to), .int .i64 0]) := by
  refine jj9 (cc_ok W) (fn92 W) (by simp only [Try.f92]; rfl) rfl rfl ?_
  have hbz : blkZ to = true := by unfold blkZ; simp; omega
  simp [push_cast]
  refine jh9 (by simp [fn78]) (nd_asked W h b k 64 hb hk) ?_
  simp [push_cast]
  refine jh9 (by simp [fn122]) (nd_block W h to) ?_
  have hw1 : IntKind.i64.wrap (2 * (k : Int)) = ((2 * k : Nat) : Int) := by rw [show 2 * (k : Int) = ((2 * k : Nat) : Int) by omega]; exact wrap64 (by omega) (by omega)
  have hw2 : IntKind.i64.wrap (((2 * k : Nat) : Int) + 2) = ((2 * k + 2 : Nat) : Int) := by rw [show ((2 * k : Nat) : Int) + 2 = ((2 * k + 2 : Nat) : Int) by omega]; exact wrap64 (by omega) (by omega)
  have hsh : aShift .shr .i64 (to : Int) 8 = some (.int .i64 ((to / 256 : Nat) : Int)) := by
    have := shr_nat (n := to) (j := 1) (by decide)
    simpa using this
  have hx := wrap_u8 to
  have hy := wrap_u8 (to / 256)
  have hs1 : ∀ (q : Nat), q ≤ 128 → aSlice (CC W) 9 (.str b) none (some (.int .i64 (q : Int))) none = some (.str (b.take q)) := fun q hq => slice_hi (by omega)
  have hs2 : ∀ (q : Nat), q ≤ 128 → aSlice (CC W) 9 (.str b) (some (.int .i64 (q : Int))) none none = some (.str (b.drop q)) := fun q hq => slice_lo (by omega)
  have hs1 := hs1 (2 * k) (by omega)
  have hs2 := hs2 (2 * k + 2) (by omega)
  have hren : renR b k to = b.take (2 * k) ++ [UInt8.ofNat to, UInt8.ofNat (to / 256)] ++ b.drop (2 * k + 2) := rfl
  rw [hren]
  have hl1 : (b.take (2 * k)).length ≤ 128 := by simp; omega
  have hl2 : (b.drop (2 * k + 2)).length ≤ 128 := by simp; omega
  generalize b.take (2 * k) = b1 at *
  generalize b.drop (2 * k + 2) = b2 at *
  generalize 2 * k + 2 = r at *
  generalize 2 * k = q at *
  generalize to / 256 = t2 at *
  generalize UInt8.ofNat to = x at *
  generalize UInt8.ofNat t2 = y at *
  have ha1 := strAdd (x := b1) (y := [x, y]) (by simp; omega)
  have ha2 := strAdd (x := b1 ++ [x, y]) (y := b2) (by simp; omega)
  have hbs := build_two (W := W) (h := h) (a := x.toNat) (b := y.toNat)
  have hcv : aConv (CC W) (h.push (.cells [.int .u8 x.toNat, .int .u8 y.toNat] 5)) 45 9 (.sl (some (.new h.next 0)) 2 2 none) = some (.str [x, y]) := bConv (l := [x, y]) (t := 5) (by simp [bcells]) rfl
  have hK := Keeps.push h (.cells [.int .u8 x.toNat, .int .u8 y.toNat] 5)
  generalize h.push (.cells [.int .u8 x.toNat, .int .u8 y.toNat] 5) = h1 at *
  simp [push_cast, aUnN, hbz]
  refine drawS [0, 1, 2, 3, 4, 5, 6, 7, 8, 12, 13, 14, 15, 16, 9, 10, 11, 17, 18, 19] (by kernel_rfl) (by kernel_rfl) ?_
  simp [push_cast, zx9, zy9, SgO, opA, isE, isRead, hw1, hw2, hsh, conv_8, hx, hy, hs1, hs2]
  refine jc9 (v := .sl (some (.new h.next 0)) 2 2 none) (h' := h1) (by rfl) (by simp [push_cast, hbs]) ⟨?_, ?_⟩
  · simp only [zz9, ja9]
    refine ⟨fun _ => ?_, fun _ => ?_, trivial⟩ <;> simp [push_cast, opA, conv_8, hx, hy]
  simp [push_cast, zx9, zy9, SgO, opA, isE, isRead, hcv, ha1, ha2]
  exact hK

def plcV (x : Nat) : AV := if x < 6 then .tup [.int .i64 0, .int .i64 x, .int .i64 0, .int .i64 0] else if x < 70 then .tup [.int .i64 1, .int .i64 ((x - 6 : Nat) : Int), .int .i64 0, .int .i64 0] else .tup [.int .i64 2, .int .i64 (((x - 70) / 64 : Nat) : Int), .int .i64 (((x - 70) % 64 : Nat) : Int), .int .i64 0]
set_option maxRecDepth 20000 in
set_option maxHeartbeats 2000000 in
theorem nd_place (W : World) (h : AH) (x : Nat) (hx : x < 4166) : RetH (CC W) 51 [.int .i64 x] h (plcV x) := by
  refine jj9 (cc_ok W) (fn51 W) (by simp only [Try.f51]; rfl) rfl rfl ?_
  have h1 : ¬ (x : Int) < 0 := by omega
  have h2 : ¬ (4166 ≤ (x : Int)) := by omega
  have h2' : ¬ 4166 ≤ x := by omega
  unfold plcV
  by_cases h3 : x < 6
  · have h3' : (x : Int) < 6 := by omega
    simp [push_cast, h1, h2, h2', h3, h3']
  · have h3' : ¬ (x : Int) < 6 := by omega
    by_cases h4 : x < 70
    · have h4' : (x : Int) < 70 := by omega
      have hw : IntKind.i64.wrap ((x : Int) - 6) = ((x - 6 : Nat) : Int) := by rw [show (x : Int) - 6 = ((x - 6 : Nat) : Int) by omega]; exact wrap64 (by omega) (by omega)
      generalize x - 6 = y at *
      simp [push_cast, h1, h2, h2', h3, h3', h4, h4', hw]
    · have h4' : ¬ (x : Int) < 70 := by omega
      have hw : IntKind.i64.wrap ((x : Int) - 70) = ((x - 70 : Nat) : Int) := by rw [show (x : Int) - 70 = ((x - 70 : Nat) : Int) by omega]; exact wrap64 (by omega) (by omega)
      have hy : x - 70 < 4096 := by omega
      rw [if_neg h3, if_neg h4]
      generalize x - 70 = y at *
      have hq : IntKind.i64.wrap ((y : Int) / 64) = ((y / 64 : Nat) : Int) := wrap64 (by omega) (by omega)
      have hr : Int.tmod (y : Int) 64 = ((y % 64 : Nat) : Int) := rfl
      have hr2 : (y : Int) % 64 = ((y % 64 : Nat) : Int) := by omega
      have ht : Int.tdiv (y : Int) 64 = (y : Int) / 64 := rfl
      generalize y / 64 = q at *
      generalize y % 64 = r at *
      simp [push_cast, h1, h2, h2', h3, h3', h4, h4', hw, hq, hr, hr2, ht]
theorem nd_placeN (W : World) (h : AH) (x : Int) (hx : x < 0 ∨ 4166 ≤ x) : RetH (CC W) 51 [.int .i64 x] h (.tup [.int .i64 0, .int .i64 0, .int .i64 0, .int .i64 1]) := by
  refine jj9 (cc_ok W) (fn51 W) (by simp only [Try.f51]; rfl) rfl rfl ?_
  by_cases h1 : x < 0
  · simp [push_cast, h1]
  · have h2 : 4166 ≤ x := by omega
    simp [push_cast, h1, h2]
end Go.Proofs.Ytgcoipcnhmkeaaa.Ax
end

/-! Inodes as bytes: whether an inode is right; its bytes -/
section
set_option linter.unusedVariables false
set_option linter.unusedSimpArgs false
namespace Go.Proofs.Ytgcoipcnhmkeaaa.Ax
open Go.RowKit

/-- An inode's cells. -/
def zC (kd ln sz : Int) (d : Nat → Int) (sg db : Int) : List AV := [.int .i64 kd, .int .i64 ln, .int .i64 sz, .int .i64 (d 0), .int .i64 (d 1), .int .i64 (d 2), .int .i64 (d 3), .int .i64 (d 4), .int .i64 (d 5), .int .i64 sg, .int .i64 db]
def inoD (n : Ino) (i : Nat) : Int := (n.dr.getD i 0 : Nat)
def inoC (n : Ino) : List AV := zC n.kd n.ln n.sz (inoD n) n.sg n.db
def dZ (d : Nat → Int) : List AV := [.int .i64 (d 0), .int .i64 (d 1), .int .i64 (d 2), .int .i64 (d 3), .int .i64 (d 4), .int .i64 (d 5)]

def allZ (d : Nat → Int) (k : Nat) : Bool := (List.range k).all fun i => blkZ (d i)
def chkZ (kd ln sz : Int) (d : Nat → Int) (sg db : Int) : Bool :=
  if kd = 0 then decide (ln = 0) && decide (sz = 0) && (List.range 6).all (fun i => decide (d i = 0)) && decide (sg = 0) && decide (db = 0)
  else
    let ok := decide (0 ≤ sz) && decide (sz ≤ 533248) && blkZ sg && blkZ db && allZ d 6
    if kd = 1 then ok && decide (1 ≤ ln) && decide (ln ≤ 100) else if kd = 2 then ok && decide (ln = 1) else false

section
variable {W : World} {h : AH}
theorem box_ino {l : List AV} : aBox h 33 (.agg l) = some (.ptr (some (.new h.next 0)), h.push (.cells l 33)) := rfl
theorem build_ino0 : aBuild (CC W) 33 [] = some (.agg (zC 0 0 0 (fun _ => 0) 0 0)) := rfl
theorem alloc_ino : aAlloc (CC W) h 33 = some (.ptr (some (.new h.next 0)), h.push (.cells (zC 0 0 0 (fun _ => 0) 0 0) 33)) := rfl
theorem ld_ino {k : Nat} {kd ln sz : Int} {d : Nat → Int} {sg db : Int} {t : TypeId} (hg : h.get k = some (.cells (zC kd ln sz d sg db) t)) : aLoad (CC W) h 33 (.new k 0) = some (.agg (zC kd ln sz d sg db)) := by
  unfold aLoad
  rw [ty33]
  show (aCells (CC W) h (.new k 0) 11).map AV.agg = _
  simp only [aCells, hg]
  rfl
theorem ld_six {k : Nat} {kd ln sz : Int} {d : Nat → Int} {sg db : Int} {t : TypeId} (hg : h.get k = some (.cells (zC kd ln sz d sg db) t)) : aLoad (CC W) h 31 (.new k 3) = some (.agg (dZ d)) := by
  unfold aLoad
  rw [ty31]
  show (aCells (CC W) h (.new k 3) 6).map AV.agg = _
  simp only [aCells, hg]
  rfl
theorem cell_ino {k o : Nat} {kd ln sz : Int} {d : Nat → Int} {sg db : Int} {t : TypeId} {v : AV} (hg : h.get k = some (.cells (zC kd ln sz d sg db) t)) (hv : (zC kd ln sz d sg db)[o]? = some v) : aLoad (CC W) h 3 (.new k o) = some v := by
  rw [ld3]
  simp only [aCell, hg]
  exact hv
theorem idx_six {d : Nat → Int} {i : Nat} (hi : i < 6) : aIndex (CC W) 31 (.agg (dZ d)) (.int .i64 (i : Int)) = some (.int .i64 (d i)) := by
  match i, hi with
  | 0, _ => rfl
  | 1, _ => rfl
  | 2, _ => rfl
  | 3, _ => rfl
  | 4, _ => rfl
  | 5, _ => rfl
theorem eq_six {n : Nat} {d e : Nat → Int} : aEqIn (CC W) (n + 2) 31 (.agg (dZ d)) (.agg (dZ e)) = some ((List.range 6).all fun i => d i == e i) := by
  have hi : ∀ (x y : Int), aEqIn (CC W) (n + 1) 3 (.int .i64 x) (.int .i64 y) = some (x == y) := fun x y => rfl
  have h0 : aEqIn (CC W) (n + 2) 31 (.agg (dZ d)) (.agg (dZ e)) = aEqG (CC W) (aEqIn (CC W) (n + 1)) [(0, 3), (1, 3), (2, 3), (3, 3), (4, 3), (5, 3)] (dZ d) (dZ e) := rfl
  have p0 : ∀ d, aPart (CC W) 3 (dZ d) 0 = some (.int .i64 (d 0)) := fun _ => rfl
  have p1 : ∀ d, aPart (CC W) 3 (dZ d) 1 = some (.int .i64 (d 1)) := fun _ => rfl
  have p2 : ∀ d, aPart (CC W) 3 (dZ d) 2 = some (.int .i64 (d 2)) := fun _ => rfl
  have p3 : ∀ d, aPart (CC W) 3 (dZ d) 3 = some (.int .i64 (d 3)) := fun _ => rfl
  have p4 : ∀ d, aPart (CC W) 3 (dZ d) 4 = some (.int .i64 (d 4)) := fun _ => rfl
  have p5 : ∀ d, aPart (CC W) 3 (dZ d) 5 = some (.int .i64 (d 5)) := fun _ => rfl
  have hr : (List.range 6).all (fun i => d i == e i) = (d 0 == e 0 && (d 1 == e 1 && (d 2 == e 2 && (d 3 == e 3 && (d 4 == e 4 && (d 5 == e 5 && true)))))) := rfl
  rw [h0, hr]
  simp only [aEqG, p0, p1, p2, p3, p4, p5, hi]
  cases d 0 == e 0 <;> cases d 1 == e 1 <;> cases d 2 == e 2 <;> cases d 3 == e 3 <;> cases d 4 == e 4 <;> cases d 5 == e 5 <;> rfl
theorem eq_ino {ox oy : Operand} {kd ln sz kd' ln' sz' : Int} {d d' : Nat → Int} {sg db sg' db' : Int} : aEq (CC W) ox oy 33 (.agg (zC kd ln sz d sg db)) (.agg (zC kd' ln' sz' d' sg' db')) =
    some (kd == kd' && (ln == ln' && (sz == sz' && ((List.range 6).all (fun i => d i == d' i) && (sg == sg' && db == db'))))) := by
  have hi : ∀ (x y : Int), aEqIn (CC W) 99 3 (.int .i64 x) (.int .i64 y) = some (x == y) := fun x y => rfl
  have h0 : aEq (CC W) ox oy 33 (.agg (zC kd ln sz d sg db)) (.agg (zC kd' ln' sz' d' sg' db')) = aEqG (CC W) (aEqIn (CC W) 99) [(0, 3), (1, 3), (2, 3), (3, 31), (9, 3), (10, 3)] (zC kd ln sz d sg db) (zC kd' ln' sz' d' sg' db') := rfl
  have p0 : ∀ a b c d s e, aPart (CC W) 3 (zC a b c d s e) 0 = some (.int .i64 a) := fun _ _ _ _ _ _ => rfl
  have p1 : ∀ a b c d s e, aPart (CC W) 3 (zC a b c d s e) 1 = some (.int .i64 b) := fun _ _ _ _ _ _ => rfl
  have p2 : ∀ a b c d s e, aPart (CC W) 3 (zC a b c d s e) 2 = some (.int .i64 c) := fun _ _ _ _ _ _ => rfl
  have p3 : ∀ a b c d s e, aPart (CC W) 31 (zC a b c d s e) 3 = some (.agg (dZ d)) := fun _ _ _ _ _ _ => rfl
  have p4 : ∀ a b c d s e, aPart (CC W) 3 (zC a b c d s e) 9 = some (.int .i64 s) := fun _ _ _ _ _ _ => rfl
  have p5 : ∀ a b c d s e, aPart (CC W) 3 (zC a b c d s e) 10 = some (.int .i64 e) := fun _ _ _ _ _ _ => rfl
  have h6 := eq_six (W := W) (n := 97) (d := d) (e := d')
  rw [h0]
  simp only [aEqG, p0, p1, p2, p3, p4, p5, hi, h6]
  cases kd == kd' <;> cases ln == ln' <;> cases sz == sz' <;> cases (List.range 6).all (fun i => d i == d' i) <;> cases sg == sg' <;> cases db == db' <;> rfl
end

def ChkI (k : Nat) (h1 : AH) (d : Nat → Int) (a : Bool) (m : Nat) (e' : Env) (h' : AH) : Prop :=
  h' = h1 ∧ e'.length = 65 ∧ ∃ i : Nat, i + m = 6 ∧ (e'.getD 1 .undef = .ptr (some (.new k 0)) ∧ e'.getD 3 .undef = .bool (a && allZ d i) ∧ e'.getD 25 .undef = .agg (dZ d) ∧ e'.getD 26 .undef = .int .i64 i)
theorem allZ_succ {d : Nat → Int} {i : Nat} : allZ d (i + 1) = (allZ d i && blkZ (d i)) := by
  simp [allZ, List.range_succ]
set_option maxRecDepth 100000 in
set_option maxHeartbeats 8000000 in
theorem nd_check (W : World) (h : AH) (kd ln sz : Int) (d : Nat → Int) (sg db : Int) : RetVk (CC W) 94 [.agg (zC kd ln sz d sg db)] h (.int .i64 (if chkZ kd ln sz d sg db = true then 0 else 120)) := by
  refine jj9 (cc_ok W) (fn94 W) (by simp only [Try.f94]; rfl) rfl rfl ?_
  have hbx := box_ino (h := h) (l := zC kd ln sz d sg db)
  have hK := Keeps.push h (.cells (zC kd ln sz d sg db) 33)
  have hg : (h.push (.cells (zC kd ln sz d sg db) 33)).get h.next = some (.cells (zC kd ln sz d sg db) 33) := by simp
  generalize h.push (.cells (zC kd ln sz d sg db) 33) = h1 at hbx hK hg
  generalize h.next = k at hbx hg
  have c0 := cell_ino (W := W) (o := 0) hg rfl
  have c1 := cell_ino (W := W) (o := 1) hg rfl
  have c2 := cell_ino (W := W) (o := 2) hg rfl
  have c9 := cell_ino (W := W) (o := 9) hg rfl
  have c10 := cell_ino (W := W) (o := 10) hg rfl
  have hl := ld_ino (W := W) hg
  have h6 := ld_six (W := W) hg
  have hq := eq_ino (W := W) (ox := .tmp 39) (oy := .tmp 40) (kd := kd) (ln := ln) (sz := sz) (d := d) (sg := sg) (db := db) (kd' := 0) (ln' := 0) (sz' := 0) (d' := fun _ => 0) (sg' := 0) (db' := 0)
  have hb0 := build_ino0 (W := W)
  rw [qa9]
  refine wc_cut (fun e' h' => h' = h1 ∧ e' = .agg (zC kd ln sz d sg db) :: .ptr (some (.new k 0)) :: .int .i64 0 :: List.replicate 62 .undef) ?_ ?_
  · simp [push_cast, hbx, qx9]
  rintro e' h' ⟨rfl, rfl⟩
  rw [ql9, qa9]
  obtain ⟨A, hA⟩ : ∃ A, A = (decide (0 ≤ sz) && decide (sz ≤ 533248) && blkZ sg && blkZ db) := ⟨_, rfl⟩
  refine wc_cut (fun e2 h2 => h2 = h' ∧ e2.length = 65 ∧ (e2.getD 1 .undef = .ptr (some (.new k 0)) ∧ e2.getD 3 .undef = .bool A)) ?_ ?_
  · by_cases a1 : 0 ≤ sz
    · by_cases a2 : sz ≤ 533248
      · simp [push_cast, fa33_2, fa33_4, fa33_5, c2, c9, c10, a1, a2, List.replicate]
        refine jh9 (by simp [fn122]) (nd_block W h' sg) ?_
        cases a3 : blkZ sg with
        | true =>
          simp [push_cast, fa33_2, fa33_4, fa33_5, c2, c9, c10, a1, a2]
          refine jh9 (by simp [fn122]) (nd_block W h' db) ?_
          simp [push_cast, hA, a1, a2, a3]
        | false => simp [push_cast, hA, a1, a2, a3]
      · simp [push_cast, fa33_2, c2, a1, a2, List.replicate, hA]
    · simp [push_cast, fa33_2, c2, a1, List.replicate, hA]
  rintro e2 h2 ⟨rfl, hlen, hh⟩
  obtain ⟨a0, a1, a2, a3, a4, a5, a6, a7, a8, a9, rS0, rfl, hS0⟩ := un10 hlen
  obtain ⟨a10, a11, a12, a13, a14, a15, a16, a17, a18, a19, rS10, rfl, hS10⟩ := un10 hS0
  obtain ⟨a20, a21, a22, a23, a24, a25, a26, a27, a28, a29, rS20, rfl, hS20⟩ := un10 hS10
  obtain ⟨a30, a31, a32, a33, a34, a35, a36, a37, a38, a39, rS30, rfl, hS30⟩ := un10 hS20
  obtain ⟨a40, a41, a42, a43, a44, a45, a46, a47, a48, a49, rS40, rfl, hS40⟩ := un10 hS30
  obtain ⟨a50, a51, a52, a53, a54, a55, a56, a57, a58, a59, rS50, rfl, hS50⟩ := un10 hS40
  obtain ⟨a60, rS60, rfl, hS60⟩ := un1 hS50
  obtain ⟨a61, rS61, rfl, hS61⟩ := un1 hS60
  obtain ⟨a62, rS62, rfl, hS62⟩ := un1 hS61
  obtain ⟨a63, rS63, rfl, hS63⟩ := un1 hS62
  obtain ⟨a64, rS64, rfl, hS64⟩ := un1 hS63
  obtain rfl := un0 hS64
  clear hlen hS0 hS10 hS20 hS30 hS40 hS50 hS60 hS61 hS62 hS63 hS64
  simp at hh
  obtain ⟨rfl, rfl⟩ := hh
  rw [ql9]
  simp [push_cast, fa33_3, h6]
  refine loopN (cc_ok W) (ChkI k h2 d A) 6 ⟨rfl, by simp, 0, by simp, by simp [allZ]⟩ ?_
  rintro m e3 h3 ⟨rfl, hlen', i, him, hh⟩
  obtain ⟨a0, a1, a2, a3, a4, a5, a6, a7, a8, a9, rS0, rfl, hS0⟩ := un10 hlen'
  obtain ⟨a10, a11, a12, a13, a14, a15, a16, a17, a18, a19, rS10, rfl, hS10⟩ := un10 hS0
  obtain ⟨a20, a21, a22, a23, a24, a25, a26, a27, a28, a29, rS20, rfl, hS20⟩ := un10 hS10
  obtain ⟨a30, a31, a32, a33, a34, a35, a36, a37, a38, a39, rS30, rfl, hS30⟩ := un10 hS20
  obtain ⟨a40, a41, a42, a43, a44, a45, a46, a47, a48, a49, rS40, rfl, hS40⟩ := un10 hS30
  obtain ⟨a50, a51, a52, a53, a54, a55, a56, a57, a58, a59, rS50, rfl, hS50⟩ := un10 hS40
  obtain ⟨a60, rS60, rfl, hS60⟩ := un1 hS50
  obtain ⟨a61, rS61, rfl, hS61⟩ := un1 hS60
  obtain ⟨a62, rS62, rfl, hS62⟩ := un1 hS61
  obtain ⟨a63, rS63, rfl, hS63⟩ := un1 hS62
  obtain ⟨a64, rS64, rfl, hS64⟩ := un1 hS63
  obtain rfl := un0 hS64
  clear hlen' hS0 hS10 hS20 hS30 hS40 hS50 hS60 hS61 hS62 hS63 hS64
  simp at hh
  obtain ⟨rfl, rfl, rfl, rfl⟩ := hh
  by_cases hlt : i < 6
  · have hlt' : (i : Int) < 6 := by omega
    have hix := idx_six (W := W) (d := d) hlt
    have hwi : IntKind.i64.wrap ((i : Int) + 1) = (i : Int) + 1 := wrap64 (by omega) (by omega)
    have hsu := allZ_succ (d := d) (i := i)
    cases hz : (A && allZ d i) with
    | true =>
      simp [push_cast, hlt', hix, hz]
      refine jh9 (by simp [fn122]) (nd_block W h3 (d i)) ?_
      simp [push_cast, hwi]
      refine ⟨m - 1, by omega, rfl, by simp, i + 1, by omega, by simp [hsu, ← Bool.and_assoc, hz]⟩
    | false =>
      simp [push_cast, hlt', hix, hz, hwi]
      refine ⟨m - 1, by omega, rfl, by simp, i + 1, by omega, by simp [hsu, ← Bool.and_assoc, hz]⟩
  · obtain rfl : i = 6 := by omega
    have hch : chkZ kd ln sz d sg db = if kd = 0 then (kd == 0 && (ln == 0 && (sz == 0 && ((List.range 6).all (fun i => d i == 0) && (sg == 0 && db == 0))))) else if kd = 1 then (A && allZ d 6) && decide (1 ≤ ln) && decide (ln ≤ 100) else if kd = 2 then (A && allZ d 6) && decide (ln = 1) else false := by
      unfold chkZ
      rw [hA]
      by_cases e : kd = 0
      · subst e
        simp [Bool.and_assoc]
        rfl
      · rw [if_neg e, if_neg e]
    rw [hch]
    generalize (A && allZ d 6) = B at *
    generalize (kd == 0 && (ln == 0 && (sz == 0 && ((List.range 6).all (fun i => d i == 0) && (sg == 0 && db == 0))))) = Z at *
    by_cases k0 : kd = 0
    · subst k0
      cases Z <;> simp [push_cast, fa33_0, c0, hl, hb0, hq, aUnN, hK]
    · by_cases k1 : kd = 1
      · by_cases l1 : 1 ≤ ln <;> by_cases l2 : ln ≤ 100 <;> cases B <;> simp [push_cast, fa33_0, fa33_1, c0, c1, k0, k1, l1, l2, aUnN, hK]
      · by_cases k2 : kd = 2
        · by_cases l1 : ln = 1 <;> cases B <;> simp [push_cast, fa33_0, fa33_1, c0, c1, k0, k1, k2, l1, aUnN, hK]
        · simp [push_cast, fa33_0, c0, k0, k1, k2, aUnN, hK]
end Go.Proofs.Ytgcoipcnhmkeaaa.Ax
end
