/- Names: the program's Name. -/
import Derived.Test.YteedadelgpagfaaDoorRefName
set_option linter.unusedVariables false
set_option linter.unusedSimpArgs false
namespace Go.Proofs.YteedadelgpagfaaDoor.Ax
open Go.RowKit

theorem get_byte (s : List UInt8) (i : Nat) (x : UInt8) (h : s[i]? = some x) : (ByteArray.mk s.toArray).get! i = x := by
  obtain ⟨hi, rfl⟩ := List.getElem?_eq_some_iff.1 h
  simp [ByteArray.get!, hi]

theorem dec_small (s : List UInt8) (i : Nat) (x : UInt8) (h : s[i]? = some x) (hx : x.toNat < 128) : Utf8.decode ⟨s.toArray⟩ i = (x.toNat, 1) := by
  have := get_byte s i x h
  simp [Utf8.decode, this, hx]

theorem dec_big (s : List UInt8) (i : Nat) (x : UInt8) (h : s[i]? = some x) (hx : 128 ≤ x.toNat) :
    128 ≤ (Utf8.decode ⟨s.toArray⟩ i).1 ∧ 1 ≤ (Utf8.decode ⟨s.toArray⟩ i).2 ∧ ∀ j, j < (Utf8.decode ⟨s.toArray⟩ i).2 → ∃ y, s[i + j]? = some y ∧ 128 ≤ y.toNat := by
  have g0 := get_byte s i x h
  have hsz : (ByteArray.mk s.toArray).size = s.length := by simp [ByteArray.size]
  have one : ∀ j, j < 1 → ∃ y, s[i + j]? = some y ∧ 128 ≤ y.toNat := by
    intro j hj; obtain rfl : j = 0 := by omega
    exact ⟨x, by simpa using h, hx⟩
  have cont : ∀ k, (decide (i + k < (ByteArray.mk s.toArray).size) && ((ByteArray.mk s.toArray).get! (i + k)).toNat / 64 == 2) = true → ∃ y, s[i + k]? = some y ∧ 128 ≤ y.toNat := by
    intro k hk
    rw [hsz] at hk
    simp only [Bool.and_eq_true, decide_eq_true_eq, beq_iff_eq] at hk
    have hy : s[i + k]? = some s[i + k] := by simp [hk.1]
    refine ⟨_, hy, ?_⟩
    rw [get_byte s _ _ hy] at hk
    omega
  unfold Utf8.decode
  simp only [Nat.add_zero, g0]
  rw [if_neg (by omega)]
  split
  · rename_i hc
    simp only [Bool.and_eq_true] at hc
    split
    · rename_i hge
      refine ⟨hge, by simp, fun j hj => ?_⟩
      simp only at hj
      have : j = 0 ∨ j = 1 := by omega
      rcases this with rfl | rfl
      · exact one 0 (by omega)
      · exact cont 1 (by simpa using hc.2)
    · exact ⟨by simp [Utf8.runeError], by simp, one⟩
  · split
    · rename_i hc
      simp only [Bool.and_eq_true] at hc
      split
      · rename_i hge
        simp only [Bool.and_eq_true, decide_eq_true_eq] at hge
        refine ⟨by simp only; omega, by simp, fun j hj => ?_⟩
        simp only at hj
        have : j = 0 ∨ j = 1 ∨ j = 2 := by omega
        rcases this with rfl | rfl | rfl
        · exact one 0 (by omega)
        · exact cont 1 (by simpa using hc.1.2)
        · exact cont 2 (by simpa using hc.2)
      · exact ⟨by simp [Utf8.runeError], by simp, one⟩
    · split
      · rename_i hc
        simp only [Bool.and_eq_true] at hc
        split
        · rename_i hge
          simp only [Bool.and_eq_true, decide_eq_true_eq] at hge
          refine ⟨by simp only; omega, by simp, fun j hj => ?_⟩
          simp only at hj
          have : j = 0 ∨ j = 1 ∨ j = 2 ∨ j = 3 := by omega
          rcases this with rfl | rfl | rfl | rfl
          · exact one 0 (by omega)
          · exact cont 1 (by simpa using hc.1.1.2)
          · exact cont 2 (by simpa using hc.1.2)
          · exact cont 3 (by simpa using hc.2)
        · exact ⟨by simp [Utf8.runeError], by simp, one⟩
      · exact ⟨by simp [Utf8.runeError], by simp, one⟩

/-- What a rune tells of the bytes that it is made of. -/
theorem dec_bad (s : List UInt8) (i : Nat) (hi : i < s.length) : ∃ r w, Utf8.decode ⟨s.toArray⟩ i = (r, w) ∧ 1 ≤ w ∧ i + w ≤ s.length ∧ ((r : Int) == 47) = (s[i] == 47) ∧ ((r : Int) == 0) = (s[i] == 0) ∧
    (badByte s[i] = false → ∀ j x, j < i + w → i ≤ j → s[j]? = some x → badByte x = false) := by
  have h : s[i]? = some s[i] := by simp [hi]
  rcases Nat.lt_or_ge s[i].toNat 128 with hx | hx
  · refine ⟨_, _, dec_small s i _ h hx, by omega, by omega, byte_eq s[i] 47, byte_eq s[i] 0, fun hb j x hj hj2 hs => ?_⟩
    obtain rfl : j = i := by omega
    rw [h] at hs; simp at hs; subst hs; exact hb
  · obtain ⟨h1, h2, h3⟩ := dec_big s i _ h hx
    generalize Utf8.decode ⟨s.toArray⟩ i = d at h1 h2 h3 ⊢
    obtain ⟨r, w⟩ := d
    simp only at h1 h2 h3
    refine ⟨r, w, rfl, h2, ?_, ?_, ?_, fun hb j x hj hj2 hs => ?_⟩
    · obtain ⟨y, hy, _⟩ := h3 (w - 1) (by omega)
      have := (List.getElem?_eq_some_iff.1 hy).1
      omega
    · have e1 : (s[i] == 47) = false := by rw [beq_eq_false_iff_ne]; intro e; rw [e] at hx; simp at hx
      rw [e1, beq_eq_false_iff_ne]; omega
    · have e1 : (s[i] == 0) = false := by rw [beq_eq_false_iff_ne]; intro e; rw [e] at hx; simp at hx
      rw [e1, beq_eq_false_iff_ne]; omega
    · obtain ⟨y, hy, hy2⟩ := h3 (j - i) (by omega)
      rw [show i + (j - i) = j by omega, hs] at hy
      simp at hy; subst hy
      unfold badByte
      simp only [Bool.or_eq_false_iff, beq_eq_false_iff_ne]
      constructor <;> (intro e; rw [e] at hy2; simp at hy2)

def NameJ (s : List UInt8) (h : AH) (m : Nat) (e' : Env) (h' : AH) : Prop :=
  (h'.next = h.next + 1 ∧ ∀ k, k < h.next → h'.get k = h.get k) ∧ e'.length = 29 ∧ ∃ k : Nat, k + m = s.length ∧ h'.get h.next = some (.siter s k) ∧ (∀ j x, j < k → s[j]? = some x → badByte x = false) ∧ (e'.getD 0 .undef = .str s ∧ e'.getD 16 .undef = .ptr (some (.new h.next 0)))

set_option maxHeartbeats 2000000 in
set_option maxRecDepth 20000 in
theorem name_ret (W : World) (s : List UInt8) : RetX (CC W) 32 [.str s] (.int .i64 (nameR s)) := by
  intro h
  refine acall_fin (cc_ok W) (fn32 W) (by simp only [Tryd.f32]; rfl) rfl rfl ?_
  by_cases h1 : s = []
  · simp [Wc_seq, Wc_block, Wc_scope, Wc_skip, Wc_label, Wc_exit, Wc_ret, Wc_loop, Wc_region, Wc_cond, Nx_nil, Nx_seq, Nx_seq_exit, Nx_seq_ret, Nx_block, Nx_block_exit, Nx_block_ret, Rg_nil, Rg_cons, RgE, effA, calleeA, wantedA, enterN, ev, ofV, ofVn, putE, evalN, aBin, aInt_add, aInt_sub, aInt_mul, aInt_quo, aInt_rem, aInt_eql, aInt_neq, aInt_lss, aInt_leq, aInt_gtr, aInt_geq, aExtract, finQ_ret, resOf, extU, kq_eq, thenQ_normal, thenQ_exit, thenQ_ret, aStr, h1, nameR, Keeps.refl]
  · by_cases h2 : s = [46]
    · simp [Wc_seq, Wc_block, Wc_scope, Wc_skip, Wc_label, Wc_exit, Wc_ret, Wc_loop, Wc_region, Wc_cond, Nx_nil, Nx_seq, Nx_seq_exit, Nx_seq_ret, Nx_block, Nx_block_exit, Nx_block_ret, Rg_nil, Rg_cons, RgE, effA, calleeA, wantedA, enterN, ev, ofV, ofVn, putE, evalN, aBin, aInt_add, aInt_sub, aInt_mul, aInt_quo, aInt_rem, aInt_eql, aInt_neq, aInt_lss, aInt_leq, aInt_gtr, aInt_geq, aExtract, finQ_ret, resOf, extU, kq_eq, thenQ_normal, thenQ_exit, thenQ_ret, aStr, h2, nameR, Keeps.refl]
    · by_cases h3 : s = [46, 46]
      · simp [Wc_seq, Wc_block, Wc_scope, Wc_skip, Wc_label, Wc_exit, Wc_ret, Wc_loop, Wc_region, Wc_cond, Nx_nil, Nx_seq, Nx_seq_exit, Nx_seq_ret, Nx_block, Nx_block_exit, Nx_block_ret, Rg_nil, Rg_cons, RgE, effA, calleeA, wantedA, enterN, ev, ofV, ofVn, putE, evalN, aBin, aInt_add, aInt_sub, aInt_mul, aInt_quo, aInt_rem, aInt_eql, aInt_neq, aInt_lss, aInt_leq, aInt_gtr, aInt_geq, aExtract, finQ_ret, resOf, extU, kq_eq, thenQ_normal, thenQ_exit, thenQ_ret, aStr, h3, nameR, Keeps.refl]
      · have b1 : (s == []) = false := by rw [beq_eq_false_iff_ne]; exact h1
        have b2 : (s == [46]) = false := by rw [beq_eq_false_iff_ne]; exact h2
        have b3 : (s == [46, 46]) = false := by rw [beq_eq_false_iff_ne]; exact h3
        simp [Wc_seq, Wc_block, Wc_scope, Wc_skip, Wc_label, Wc_exit, Wc_ret, Wc_loop, Wc_region, Wc_cond, Nx_nil, Nx_seq, Nx_seq_exit, Nx_seq_ret, Nx_block, Nx_block_exit, Nx_block_ret, Rg_nil, Rg_cons, RgE, effA, calleeA, wantedA, enterN, ev, ofV, ofVn, putE, evalN, aBin, aInt_add, aInt_sub, aInt_mul, aInt_quo, aInt_rem, aInt_eql, aInt_neq, aInt_lss, aInt_leq, aInt_gtr, aInt_geq, aExtract, finQ_ret, resOf, extU, kq_eq, thenQ_normal, thenQ_exit, thenQ_ret, aStr, b1, b2, b3, h1, h2, h3, aRange, kind9]
        refine loopN (cc_ok W) (NameJ s h) s.length ⟨⟨by simp, fun k hk => by rw [AH.get_push, if_neg (by omega)]⟩, by simp, 0, by simp, by simp, fun j x hj => by omega, by simp⟩ ?_
        rintro m e' h' ⟨⟨hn, hkeep⟩, hl, k, hk, hit, hno, hh⟩
        have hK : Keeps h h' := ⟨by omega, hkeep⟩
        match e', hl with
        | a0 :: a1 :: a2 :: a3 :: a4 :: a5 :: a6 :: a7 :: a8 :: a9 :: a10 :: a11 :: a12 :: a13 :: a14 :: a15 :: a16 :: a17 :: a18 :: a19 :: a20 :: a21 :: a22 :: a23 :: a24 :: a25 :: a26 :: a27 :: a28 :: [], _ =>
          simp at hh
          obtain ⟨rfl, rfl⟩ := hh
          by_cases hlt : k < s.length
          · obtain ⟨r, w, hd, hw1, hw2, c1, c2, hnb⟩ := dec_bad s k hlt
            cases hb : badByte s[k] with
            | true =>
              have hany : s.any badByte = true := by
                rw [List.any_eq_true]; exact ⟨s[k], List.getElem_mem hlt, hb⟩
              have hres : nameR s = 309 := by simp [nameR, h1, h2, h3, hany]
              unfold badByte at hb
              have hK2 : Keeps h (h'.set h.next (.siter s (k + w))) := hK.set (Nat.le_refl _) _
              cases d1 : (s[k] == 47) <;> cases d2 : (s[k] == 0) <;> simp [d1, d2] at hb <;> simp [Wc_seq, Wc_block, Wc_scope, Wc_skip, Wc_label, Wc_exit, Wc_ret, Wc_loop, Wc_region, Wc_cond, Nx_nil, Nx_seq, Nx_seq_exit, Nx_seq_ret, Nx_block, Nx_block_exit, Nx_block_ret, Rg_nil, Rg_cons, RgE, effA, calleeA, wantedA, enterN, ev, ofV, ofVn, putE, evalN, aBin, aInt_add, aInt_sub, aInt_mul, aInt_quo, aInt_rem, aInt_eql, aInt_neq, aInt_lss, aInt_leq, aInt_gtr, aInt_geq, aExtract, finQ_ret, resOf, extU, kq_eq, thenQ_normal, thenQ_exit, thenQ_ret, aNextS, hit, hlt, hd, c1, c2, d1, d2, hres, hK2]
            | false =>
              have hb' := hb
              unfold badByte at hb'
              simp only [Bool.or_eq_false_iff] at hb'
              simp [Wc_seq, Wc_block, Wc_scope, Wc_skip, Wc_label, Wc_exit, Wc_ret, Wc_loop, Wc_region, Wc_cond, Nx_nil, Nx_seq, Nx_seq_exit, Nx_seq_ret, Nx_block, Nx_block_exit, Nx_block_ret, Rg_nil, Rg_cons, RgE, effA, calleeA, wantedA, enterN, ev, ofV, ofVn, putE, evalN, aBin, aInt_add, aInt_sub, aInt_mul, aInt_quo, aInt_rem, aInt_eql, aInt_neq, aInt_lss, aInt_leq, aInt_gtr, aInt_geq, aExtract, finQ_ret, resOf, extU, kq_eq, thenQ_normal, thenQ_exit, thenQ_ret, aNextS, hit, hlt, hd, c1, c2, hb'.1, hb'.2]
              refine ⟨m - w, by omega, ⟨by simpa using hn, fun j hj => by rw [AH.get_set, if_neg (by omega)]; exact hkeep j hj⟩, by simp, k + w, by omega, by simp, fun j y hj hy => ?_, by simp⟩
              rcases Nat.lt_or_ge j k with h | h
              · exact hno j y h hy
              · exact hnb hb j y hj h hy
          · have hany : s.any badByte = false := by
              rw [List.any_eq_false]
              intro x hx
              obtain ⟨j, hj⟩ := List.getElem?_of_mem hx
              have hjl : j < s.length := by
                rcases Nat.lt_or_ge j s.length with h | h
                · exact h
                · rw [List.getElem?_eq_none h] at hj; simp at hj
              have := hno j x (by omega) hj
              simp [this]
            by_cases hlen : 24 < s.length
            · have hres : nameR s = 308 := by simp [nameR, h1, h2, h3, hany, hlen]
              simp [Wc_seq, Wc_block, Wc_scope, Wc_skip, Wc_label, Wc_exit, Wc_ret, Wc_loop, Wc_region, Wc_cond, Nx_nil, Nx_seq, Nx_seq_exit, Nx_seq_ret, Nx_block, Nx_block_exit, Nx_block_ret, Rg_nil, Rg_cons, RgE, effA, calleeA, wantedA, enterN, ev, ofV, ofVn, putE, evalN, aBin, aInt_add, aInt_sub, aInt_mul, aInt_quo, aInt_rem, aInt_eql, aInt_neq, aInt_lss, aInt_leq, aInt_gtr, aInt_geq, aExtract, finQ_ret, resOf, extU, kq_eq, thenQ_normal, thenQ_exit, thenQ_ret, aNextS, hit, hlt, aLen, kind9, hlen, hres, hK]
              try omega
            · have hres : nameR s = 0 := by simp [nameR, h1, h2, h3, hany, hlen]
              simp [Wc_seq, Wc_block, Wc_scope, Wc_skip, Wc_label, Wc_exit, Wc_ret, Wc_loop, Wc_region, Wc_cond, Nx_nil, Nx_seq, Nx_seq_exit, Nx_seq_ret, Nx_block, Nx_block_exit, Nx_block_ret, Rg_nil, Rg_cons, RgE, effA, calleeA, wantedA, enterN, ev, ofV, ofVn, putE, evalN, aBin, aInt_add, aInt_sub, aInt_mul, aInt_quo, aInt_rem, aInt_eql, aInt_neq, aInt_lss, aInt_leq, aInt_gtr, aInt_geq, aExtract, finQ_ret, resOf, extU, kq_eq, thenQ_normal, thenQ_exit, thenQ_ret, aNextS, hit, hlt, aLen, kind9, hlen, hres, hK]
              try omega
end Go.Proofs.YteedadelgpagfaaDoor.Ax
