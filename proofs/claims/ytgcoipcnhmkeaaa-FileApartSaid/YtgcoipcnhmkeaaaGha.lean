/- The texts DwF, DwG, DwH, DwI, as one. -/
import Derived.Test.YtgcoipcnhmkeaaaGh
import Derived.Test.YtgcoipcnhmkeaaaGga
import Derived.Test.YtgcoipcnhmkeaaaGf

/-! Inodes as bytes: the bytes, and back; an inode of a table's block -/
section
set_option linter.unusedVariables false
set_option linter.unusedSimpArgs false
namespace Go.Proofs.Ytgcoipcnhmkeaaa.Ax
open Go.RowKit

theorem rep_one {v : AV} : ∀ n, repZ n [v] = List.replicate n v
  | 0 => rfl
  | n + 1 => by simp [repZ, rep_one n, List.replicate_succ]
theorem mk_zeros {W : World} {h : AH} {n : Nat} (hn : n ≤ 1024) : aMakeSlice (CC W) h 45 (.int .i64 (n : Int)) (.int .i64 (n : Int)) = some (.sl (some (.new h.next 0)) n n none, h.push (.cells (bcells (zeros n)) 5)) := by
  have h1 : bcells (zeros n) = List.replicate n (.int .u8 0) := by simp [bcells, zeros]
  have hb : (CC W).bytes 5 = 1 := _root_.id rfl
  simp [aMakeSlice, kind45, size5, zero5, hb, h1, rep_one]
  omega
theorem nd_zeros (W : World) (h : AH) (n : Nat) (hn : n ≤ 1024) : RetVk (CC W) 48 [.int .i64 n] h (.str (zeros n)) := by
  refine jj9 (cc_ok W) (fn48 W) (by simp only [Try.f48]; rfl) rfl rfl ?_
  have hm := mk_zeros (W := W) (h := h) hn
  have hg : (h.push (.cells (bcells (zeros n)) 5)).get h.next = some (.cells (bcells (zeros n)) 5) := by simp
  have hK := Keeps.push h (.cells (bcells (zeros n)) 5)
  have hcv := bConv (W := W) (c := n) (gr := none) (n := n) hg (by simp [zeros])
  generalize h.push (.cells (bcells (zeros n)) 5) = h1 at *
  simp [push_cast, hm, hcv]
  exact hK

theorem chk_of {n : Ino} (h : InoOK n) : chkZ n.kd n.ln n.sz (inoD n) n.sg n.db = true := by
  obtain ⟨⟨a, b, c, d, e, f, hd, h1, h2, h3, h4, h5, h6⟩, hs, hg, hb, hk⟩ := h
  have hall : allZ (inoD n) 6 = true := by
    unfold allZ inoD
    rw [hd]
    simp only [List.all_eq_true, List.mem_range]
    intro i hi
    match i, hi with
    | 0, _ => simp [blkZ]; omega
    | 1, _ => simp [blkZ]; omega
    | 2, _ => simp [blkZ]; omega
    | 3, _ => simp [blkZ]; omega
    | 4, _ => simp [blkZ]; omega
    | 5, _ => simp [blkZ]; omega
  have hgz : blkZ n.sg = true := by simp [blkZ]; omega
  have hbz : blkZ n.db = true := by simp [blkZ]; omega
  unfold chkZ
  rcases hk with ⟨k, e⟩ | ⟨k, e⟩ | ⟨k, e⟩
  · subst e
    decide
  · simp [k, hall, hgz, hbz]; omega
  · simp [k, hall, hgz, hbz, e]; omega
theorem chk_is {kd ln sz : Int} {d : Nat → Int} {sg db : Int} (h : chkZ kd ln sz d sg db = true) : ∃ n : Ino, InoOK n ∧ zC kd ln sz d sg db = inoC n := by
  have cells : ∀ (n : Ino), kd = n.kd → ln = n.ln → sz = n.sz → (∀ i, i < 6 → d i = inoD n i) → sg = n.sg → db = n.db → zC kd ln sz d sg db = inoC n := by
    intro n e1 e2 e3 e4 e5 e6
    simp only [zC, inoC, e1, e2, e3, e5, e6, e4 0 (by decide), e4 1 (by decide), e4 2 (by decide), e4 3 (by decide), e4 4 (by decide), e4 5 (by decide)]
  unfold chkZ at h
  by_cases k0 : kd = 0
  · rw [if_pos k0] at h
    simp only [Bool.and_eq_true, decide_eq_true_eq, List.all_eq_true, List.mem_range] at h
    obtain ⟨⟨⟨⟨h1, h2⟩, h3⟩, h4⟩, h5⟩ := h
    refine ⟨Ino.zero, ⟨⟨0, 0, 0, 0, 0, 0, rfl, by decide, by decide, by decide, by decide, by decide, by decide⟩, by decide, by decide, by decide, .inl ⟨rfl, rfl⟩⟩, cells _ k0 h1 h2 (fun i hi => ?_) h4 h5⟩
    rw [h3 i hi]
    match i, hi with
    | 0, _ => rfl
    | 1, _ => rfl
    | 2, _ => rfl
    | 3, _ => rfl
    | 4, _ => rfl
    | 5, _ => rfl
  · rw [if_neg k0] at h
    simp only at h
    have hok : (decide (0 ≤ sz) && decide (sz ≤ 533248) && blkZ sg && blkZ db && allZ d 6) = true ∧ (kd = 1 ∧ 1 ≤ ln ∧ ln ≤ 100 ∨ kd = 2 ∧ ln = 1) := by
      split at h
      · rename_i k1
        simp only [Bool.and_eq_true, decide_eq_true_eq] at h ⊢
        exact ⟨h.1.1, .inl ⟨k1, h.1.2, h.2⟩⟩
      · split at h
        · rename_i k2
          simp only [Bool.and_eq_true, decide_eq_true_eq] at h ⊢
          exact ⟨h.1, .inr ⟨k2, h.2⟩⟩
        · cases h
    obtain ⟨hok, hk⟩ := hok
    simp only [Bool.and_eq_true, decide_eq_true_eq, blkZ, allZ, List.all_eq_true, List.mem_range] at hok
    obtain ⟨⟨⟨⟨s1, s2⟩, g1, g2⟩, b1, b2⟩, hd⟩ := hok
    have hd0 := hd 0 (by decide); have hd1 := hd 1 (by decide); have hd2 := hd 2 (by decide); have hd3 := hd 3 (by decide); have hd4 := hd 4 (by decide); have hd5 := hd 5 (by decide)
    refine ⟨⟨kd.toNat, ln.toNat, sz.toNat, [(d 0).toNat, (d 1).toNat, (d 2).toNat, (d 3).toNat, (d 4).toNat, (d 5).toNat], sg.toNat, db.toNat⟩, ⟨⟨_, _, _, _, _, _, rfl, by omega, by omega, by omega, by omega, by omega, by omega⟩, by simp only; omega, by simp only; omega, by simp only; omega, .inr ?_⟩, cells _ (by simp only; omega) (by simp only; omega) (by simp only; omega) (fun i hi => ?_) (by simp only; omega) (by simp only; omega)⟩
    · rcases hk with ⟨k1, k2, k3⟩ | ⟨k1, k2⟩
      · exact .inl ⟨by simp only; omega, by simp only; omega, by simp only; omega⟩
      · exact .inr ⟨by simp only; omega, by simp only; omega⟩
    · match i, hi with
      | 0, _ => show d 0 = ((d 0).toNat : Int); omega
      | 1, _ => show d 1 = ((d 1).toNat : Int); omega
      | 2, _ => show d 2 = ((d 2).toNat : Int); omega
      | 3, _ => show d 3 = ((d 3).toNat : Int); omega
      | 4, _ => show d 4 = ((d 4).toNat : Int); omega
      | 5, _ => show d 5 = ((d 5).toNat : Int); omega
theorem inoC_inj {n m : Ino} (hn : n.dr.length = 6) (hm : m.dr.length = 6) (h : inoC n = inoC m) : n = m := by
  obtain ⟨a, b, c, d, e, f, h1⟩ := six hn
  obtain ⟨a', b', c', d', e', f', h2⟩ := six hm
  obtain ⟨kd, ln, sz, dr, sg, db⟩ := n
  obtain ⟨kd', ln', sz', dr', sg', db'⟩ := m
  simp only at h1 h2
  subst h1 h2
  simp [inoC, zC, inoD] at h
  simp only [Ino.mk.injEq, List.cons.injEq, and_true]
  omega
theorem chk_ino {n : Ino} (h6 : n.dr.length = 6) : chkZ n.kd n.ln n.sz (inoD n) n.sg n.db = inoOk n := by
  rw [Bool.eq_iff_iff, inoOk_iff]
  constructor
  · intro h
    obtain ⟨m, h1, h2⟩ := chk_is h
    have := inoC_inj h6 h1.len h2
    rw [this]; exact h1
  · exact chk_of

def EncJ (h0 : AH) (kb k : Nat) (d : Nat → Int) (l : List UInt8) (dr : List Nat) (m : Nat) (e' : Env) (h' : AH) : Prop :=
  e'.length = 53 ∧ ∃ (i : Nat) (ko : Option Nat), i + m = 6 ∧ WSD h' kb ko (l ++ (dr.take i).flatMap (le · 2)) ∧ WFD kb none h0 ko h' ∧ (e'.getD 1 .undef = .ptr (some (.new k 0)) ∧ e'.getD 5 .undef = .ptr (some (.new kb 0)) ∧ e'.getD 28 .undef = .agg (dZ d) ∧ e'.getD 29 .undef = .int .i64 i)
theorem WFD.at {kb : Nat} {h0 h' : AH} {ko : Option Nat} (w : WFD kb none h0 ko h') {k : Nat} (hk : k < h0.next) (hne : k ≠ kb) : h'.get k = h0.get k := w.2.1 k hk hne (by simp)
theorem WFD.keepsOf {kb : Nat} {h h0 h' : AH} {ko : Option Nat} (w : WFD kb none h0 ko h') (hK : Keeps h h0) (hkb : h.next ≤ kb) : Keeps h h' := ⟨Nat.le_trans hK.1 w.1, fun j hj => (w.at (Nat.lt_of_lt_of_le hj hK.1) (by omega)).trans (hK.2 j hj)⟩
set_option maxRecDepth 100000 in
set_option maxHeartbeats 16000000 in
theorem nd_encode (W : World) (h : AH) (n : Ino) (hd6 : n.dr.length = 6) : RetVk (CC W) 79 [.agg (inoC n)] h (.tup (if inoOk n = true then [.str (encI n), .int .i64 0] else [.str [], .int .i64 120])) := by
  refine jj9 (cc_ok W) (fn79 W) (by simp only [Try.f79]; rfl) rfl rfl ?_
  have hbx := box_ino (h := h) (l := inoC n)
  have hK := Keeps.push h (.cells (inoC n) 33)
  have hg : (h.push (.cells (inoC n) 33)).get h.next = some (.cells (inoC n) 33) := by simp
  have hlt : h.next < (h.push (.cells (inoC n) 33)).next := by simp
  have hkk : h.next ≤ h.next := Nat.le_refl _
  generalize h.push (.cells (inoC n) 33) = h1 at hbx hK hg hlt
  generalize h.next = k at hbx hg hlt
  have hl := ld_ino (W := W) hg
  have hchk := nd_check W h1 n.kd n.ln n.sz (inoD n) n.sg n.db
  rw [chk_ino hd6] at hchk
  simp only [inoC] at hbx hg hl
  simp [push_cast, inoC, hbx, hl]
  refine callK_RetVk (by simp [fn94]) hchk fun h2 hk2 => ?_
  have hg2 := (hk2.2 k hlt).trans hg
  have hlt2 : k < h2.next := Nat.lt_of_lt_of_le hlt hk2.1
  cases hok : inoOk n with
  | false =>
    simp [push_cast]
    exact hK.trans hk2
  | true =>
    have hI := inoOk_iff.1 hok
    have hlen32 := enc_len hd6
    obtain ⟨kd, ln, sz, dr, sg, db⟩ := n
    simp only at *
    have b1 : kd < 256 ^ 1 := by have := hI.kd; simp only at this; omega
    have b2 : ln < 256 ^ 1 := by
      have := hI.kd
      simp only at this
      rcases this with ⟨_, e⟩ | e | e
      · have : ln = 0 := by have := congrArg Ino.ln e; exact this
        omega
      · omega
      · omega
    have b3 : sz < 256 ^ 4 := by have := hI.sz; simp only at this; omega
    have b4 : sg < 256 ^ 2 := by have := hI.sg; simp only at this; omega
    have b5 : db < 256 ^ 2 := by have := hI.db; simp only at this; omega
    simp [push_cast]
    refine je9 (by simp [fn95]) (wnew_retD W h2) fun w h3 ⟨kb, hw, hkb, hk3, hw0⟩ => ?_
    subst hw
    have hne : k ≠ kb := by omega
    have hlt3 : k < h3.next := Nat.lt_of_lt_of_le hlt2 hk3.1
    have hg3 := (hk3.2 k hlt2).trans hg2
    have hK3 : Keeps h h3 := (hK.trans hk2).trans hk3
    have hkb0 : h.next ≤ kb := Nat.le_trans (Nat.le_trans hK.1 hk2.1) hkb
    simp [push_cast, fa33_0, cell_ino (W := W) (o := 0) hg3 rfl]
    refine je9 (by simp [fn96]) (cd_fixed W h3 kb none [] kd 1 (by omega) b1 hw0 (by simp)) fun w h4 ⟨hw, k4, hw4, hf4⟩ => ?_
    subst hw
    have hg4 := (hf4.at hlt3 hne).trans hg3
    simp [push_cast, fa33_1, cell_ino (W := W) (o := 1) hg4 rfl]
    refine je9 (by simp [fn96]) (cd_fixed W h4 kb k4 _ ln 1 (by omega) b2 hw4 (by simp [le_len])) fun w h5 ⟨hw, k5, hw5, hf5⟩ => ?_
    subst hw
    have hf5 := hf4.trans hf5
    have hg5 := (hf5.at hlt3 hne).trans hg3
    simp [push_cast, fa33_2, cell_ino (W := W) (o := 2) hg5 rfl]
    refine je9 (by simp [fn96]) (cd_fixed W h5 kb k5 _ sz 4 (by omega) b3 hw5 (by simp [le_len])) fun w h6 ⟨hw, k6, hw6, hf6⟩ => ?_
    subst hw
    have hf6 := hf5.trans hf6
    have hg6 := (hf6.at hlt3 hne).trans hg3
    have hll : ([] ++ le kd 1 ++ le ln 1 ++ le sz 4).length = 6 := by simp [le_len]
    have hsix := ld_six (W := W) hg6
    obtain ⟨L, hL⟩ : ∃ L, L = [] ++ le kd 1 ++ le ln 1 ++ le sz 4 := ⟨_, rfl⟩
    have henc : encI ⟨kd, ln, sz, dr, sg, db⟩ = L ++ dr.flatMap (le · 2) ++ le sg 2 ++ le db 2 ++ zeros 10 := by rw [hL]; rfl
    rw [← hL] at hw6 hll
    clear hL
    simp [push_cast, fa33_3, hsix]
    refine loopN (cc_ok W) (EncJ h3 kb k (inoD ⟨kd, ln, sz, dr, sg, db⟩) L dr) 6 ⟨by simp, 0, k6, by simp, by simpa using hw6, hf6, by simp⟩ ?_
    rintro m e' h7 ⟨hlen', i, k7, him, hw7, hf7, hh⟩
    obtain ⟨a0, a1, a2, a3, a4, a5, a6, a7, a8, a9, rS0, rfl, hS0⟩ := un10 hlen'
    obtain ⟨a10, a11, a12, a13, a14, a15, a16, a17, a18, a19, rS10, rfl, hS10⟩ := un10 hS0
    obtain ⟨a20, a21, a22, a23, a24, a25, a26, a27, a28, a29, rS20, rfl, hS20⟩ := un10 hS10
    obtain ⟨a30, a31, a32, a33, a34, a35, a36, a37, a38, a39, rS30, rfl, hS30⟩ := un10 hS20
    obtain ⟨a40, a41, a42, a43, a44, a45, a46, a47, a48, a49, rS40, rfl, hS40⟩ := un10 hS30
    obtain ⟨a50, rS50, rfl, hS50⟩ := un1 hS40
    obtain ⟨a51, rS51, rfl, hS51⟩ := un1 hS50
    obtain ⟨a52, rS52, rfl, hS52⟩ := un1 hS51
    obtain rfl := un0 hS52
    clear hlen' hS0 hS10 hS20 hS30 hS40 hS50 hS51 hS52
    simp at hh
    obtain ⟨rfl, rfl, rfl, rfl⟩ := hh
    have hfl : ∀ i, i ≤ 6 → ((dr.take i).flatMap (le · 2)).length = 2 * i := by
      intro i hi
      have : ∀ l : List Nat, (l.flatMap (le · 2)).length = 2 * l.length := by
        intro l
        induction l with
        | nil => rfl
        | cons a l ih => simp only [List.flatMap_cons, List.length_append, le_len, ih, List.length_cons]; omega
      rw [this, List.length_take, hd6]
      omega
    by_cases hlt6 : i < 6
    · have hlt' : (i : Int) < 6 := by omega
      have hix := idx_six (W := W) (d := inoD ⟨kd, ln, sz, dr, sg, db⟩) hlt6
      have hwi : IntKind.i64.wrap ((i : Int) + 1) = (i : Int) + 1 := wrap64 (by omega) (by omega)
      have hdi : dr.getD i 0 < 256 ^ 2 := by have := hI.lt i; simp only at this; omega
      have hv : inoD ⟨kd, ln, sz, dr, sg, db⟩ i = ((dr.getD i 0 : Nat) : Int) := rfl
      rw [hv] at hix
      have hstep : (dr.take (i + 1)).flatMap (le · 2) = (dr.take i).flatMap (le · 2) ++ le (dr.getD i 0) 2 := by
        have hx : dr[i]? = some dr[i] := by simp
        rw [List.take_add_one, hx, List.flatMap_append]
        simp [List.getD_eq_getElem?_getD, hx]
      have hfi := hfl i (by omega)
      generalize dr.getD i 0 = x at *
      simp [push_cast, hlt', hix]
      refine je9 (by simp [fn96]) (cd_fixed W h7 kb k7 _ x 2 (by omega) hdi hw7 (by simp [hfi, hll]; omega)) fun w h8 ⟨hw, k8, hw8, hf8⟩ => ?_
      subst hw
      rw [List.append_assoc, ← hstep] at hw8
      simp [push_cast, hwi]
      exact ⟨m - 1, by omega, by simp, i + 1, k8, by omega, hw8, hf7.trans hf8, by simp⟩
    · obtain rfl : i = 6 := by omega
      have hf66 := hfl 6 (by omega)
      rw [List.take_of_length_le (by omega)] at hw7 hf66
      have hg7 := (hf7.at hlt3 hne).trans hg3
      simp [push_cast, fa33_4, cell_ino (W := W) (o := 9) hg7 rfl]
      refine je9 (by simp [fn96]) (cd_fixed W h7 kb k7 _ sg 2 (by omega) b4 hw7 (by simp [hf66, hll])) fun w h8 ⟨hw, k8, hw8, hf8⟩ => ?_
      subst hw
      have hf8 := hf7.trans hf8
      have hg8 := (hf8.at hlt3 hne).trans hg3
      simp [push_cast, fa33_5, cell_ino (W := W) (o := 10) hg8 rfl]
      refine je9 (by simp [fn96]) (cd_fixed W h8 kb k8 _ db 2 (by omega) b5 hw8 (by simp [hf66, hll, le_len])) fun w h9 ⟨hw, k9, hw9, hf9⟩ => ?_
      subst hw
      have hf9 := hf8.trans hf9
      have hK9 := hf9.keepsOf hK3 hkb0
      simp [push_cast]
      refine jh9 (by simp [fn97]) (wout_retD W h9 kb k9 _ hw9) ?_
      rw [henc]
      have hl22 : (L ++ dr.flatMap (le · 2) ++ le sg 2 ++ le db 2).length = 22 := by simp [hf66, hll, le_len]
      generalize L ++ dr.flatMap (le · 2) ++ le sg 2 ++ le db 2 = s at *
      have hsl : (s.length : Int) = 22 := by omega
      have hw32 : IntKind.i64.wrap 10 = 10 := wrap64 (by omega) (by omega)
      have hm : aMakeSlice (CC W) h9 45 (.int .i64 10) (.int .i64 10) = some (.sl (some (.new h9.next 0)) 10 10 none, h9.push (.cells (bcells (zeros 10)) 5)) := mk_zeros (W := W) (h := h9) (n := 10) (by omega)
      have hgz : (h9.push (.cells (bcells (zeros 10)) 5)).get h9.next = some (.cells (bcells (zeros 10)) 5) := by simp
      have hKz := Keeps.push h9 (.cells (bcells (zeros 10)) 5)
      have hcv := bConv (W := W) (c := 10) (gr := none) (n := 10) hgz (by simp [zeros])
      have had := strAdd (x := s) (y := zeros 10) (by simp [zeros]; omega)
      generalize h9.push (.cells (bcells (zeros 10)) 5) = h10 at *
      simp [push_cast, aLen, kind9, hsl, hw32, hm, hcv, had]
      exact hK9.trans hKz
end Go.Proofs.Ytgcoipcnhmkeaaa.Ax
end

/-! Inodes as bytes: back from the bytes; an inode of a table's block -/
section
set_option linter.unusedVariables false
set_option linter.unusedSimpArgs false
namespace Go.Proofs.Ytgcoipcnhmkeaaa.Ax
open Go.RowKit

structure DecS (h0 h : AH) (k1 k2 kr : Nat) (s : List UInt8) (cs : List AV) : Prop where
  keep : Keeps h0 h
  l1 : h0.next ≤ k1
  l2 : h0.next ≤ k2
  lr : h0.next ≤ kr
  n12 : k1 ≠ k2
  n1r : k1 ≠ kr
  n2r : k2 ≠ kr
  u1 : k1 < h.next
  u2 : k2 < h.next
  rd : RS h kr s
  c1 : h.get k1 = some (.cells (zC 0 0 0 (fun _ => 0) 0 0) 33)
  c2 : h.get k2 = some (.cells cs 33)
theorem DecS.read {h0 h : AH} {k1 k2 kr : Nat} {s : List UInt8} {cs : List AV} (d : DecS h0 h k1 k2 kr s cs) (k : Nat) : DecS h0 (h.set kr (.cells [.str (s.drop k), .int .i64 0] 177)) k1 k2 kr (s.drop k) cs where
  keep := d.keep.set d.lr _
  l1 := d.l1
  l2 := d.l2
  lr := d.lr
  n12 := d.n12
  n1r := d.n1r
  n2r := d.n2r
  u1 := by simpa using d.u1
  u2 := by simpa using d.u2
  rd := ⟨by simpa using d.rd.1, by simp⟩
  c1 := by rw [AH.get_set, if_neg d.n1r]; exact d.c1
  c2 := by rw [AH.get_set, if_neg d.n2r]; exact d.c2
theorem DecS.put {h0 h : AH} {k1 k2 kr : Nat} {s : List UInt8} {cs : List AV} (d : DecS h0 h k1 k2 kr s cs) (cs' : List AV) : DecS h0 (h.set k2 (.cells cs' 33)) k1 k2 kr s cs' where
  keep := d.keep.set d.l2 _
  l1 := d.l1
  l2 := d.l2
  lr := d.lr
  n12 := d.n12
  n1r := d.n1r
  n2r := d.n2r
  u1 := by simpa using d.u1
  u2 := by simpa using d.u2
  rd := ⟨by simpa using d.rd.1, by rw [AH.get_set, if_neg fun e => d.n2r e.symm]; exact d.rd.2⟩
  c1 := by rw [AH.get_set, if_neg d.n12]; exact d.c1
  c2 := by simp
theorem DecS.keeps {h0 h h' : AH} {k1 k2 kr : Nat} {s : List UInt8} {cs : List AV} (d : DecS h0 h k1 k2 kr s cs) (hK : Keeps h h') : DecS h0 h' k1 k2 kr s cs where
  keep := d.keep.trans hK
  l1 := d.l1
  l2 := d.l2
  lr := d.lr
  n12 := d.n12
  n1r := d.n1r
  n2r := d.n2r
  u1 := Nat.lt_of_lt_of_le d.u1 hK.1
  u2 := Nat.lt_of_lt_of_le d.u2 hK.1
  rd := ⟨Nat.lt_of_lt_of_le d.rd.1 hK.1, (hK.2 _ d.rd.1).trans d.rd.2⟩
  c1 := (hK.2 _ d.u1).trans d.c1
  c2 := (hK.2 _ d.u2).trans d.c2

theorem overlay_1 {cs : List AV} {v : AV} {i : Nat} (hi : i < cs.length) : overlay cs [v] i = cs.set i v := by
  rw [List.set_eq_take_append_cons_drop, if_pos hi]
  simp [overlay]
theorem st_cell {W : World} {h : AH} {k o : Nat} {cs : List AV} {t : TypeId} {n : Int} (hg : h.get k = some (.cells cs t)) (ho : o < cs.length) : aStoreOp (CC W) h 3 (.ptr (some (.new k o))) (.int .i64 n) = some (h.set k (.cells (cs.set o (.int .i64 n)) t)) := by
  simp only [aStoreOp, aCellsOf, size3, aStore, hg, List.length_singleton, if_true]
  rw [if_pos ⟨by omega, by rfl⟩, overlay_1 ho]
theorem zC_len {kd ln sz : Int} {d : Nat → Int} {sg db : Int} : (zC kd ln sz d sg db).length = 11 := rfl
def updD (d : Nat → Int) (i : Nat) (v : Int) : Nat → Int := fun j => if j = i then v else d j
theorem zC_set3 {kd ln sz : Int} {d : Nat → Int} {sg db : Int} {i : Nat} {v : Int} (hi : i < 6) : (zC kd ln sz d sg db).set (3 + i) (.int .i64 v) = zC kd ln sz (updD d i v) sg db := by
  match i, hi with
  | 0, _ => rfl
  | 1, _ => rfl
  | 2, _ => rfl
  | 3, _ => rfl
  | 4, _ => rfl
  | 5, _ => rfl
theorem idxa_six {W : World} {k i : Nat} (hi : i < 6) : aIndexAddr (CC W) 31 (.ptr (some (.new k 3))) (.int .i64 (i : Int)) = some (.ptr (some (.new k (3 + i)))) := by
  match i, hi with
  | 0, _ => rfl
  | 1, _ => rfl
  | 2, _ => rfl
  | 3, _ => rfl
  | 4, _ => rfl
  | 5, _ => rfl
theorem st_ino {W : World} {h : AH} {k : Nat} {cs : List AV} {t : TypeId} {kd ln sz : Int} {d : Nat → Int} {sg db : Int} (hg : h.get k = some (.cells cs t)) (hc : cs.length = 11) : aStoreOp (CC W) h 33 (.ptr (some (.new k 0))) (.agg (zC kd ln sz d sg db)) = some (h.set k (.cells (zC kd ln sz d sg db) t)) := by
  have hsz : (CC W).size 33 = some 11 := rfl
  simp only [aStoreOp, aCellsOf, hsz, aStore, hg]
  rw [if_pos (by rfl), if_pos ⟨by rw [zC_len]; omega, by rfl⟩]
  congr 3
  simp [overlay, zC_len, hc]

def rawD (s : Bts) (i : Nat) : Int := (numAt s (6 + 2 * i) 2 : Nat)
def DecI (h0 : AH) (k1 k2 kr : Nat) (s : List UInt8) (v0 v1 v2 : Nat) (m : Nat) (e' : Env) (h' : AH) : Prop :=
  e'.length = 67 ∧ ∃ (i : Nat) (d : Nat → Int), i + m = 6 ∧ DecS h0 h' k1 k2 kr (s.drop (6 + 2 * i)) (zC v0 v1 v2 d 0 0) ∧ (∀ j, j < i → d j = rawD s j) ∧
    (e'.getD 0 .undef = .str s ∧ e'.getD 2 .undef = .ptr (some (.new k1 0)) ∧ e'.getD 4 .undef = .ptr (some (.new k2 0)) ∧ e'.getD 5 .undef = .ptr (some (.new kr 0)) ∧ e'.getD 29 .undef = .int .i64 i)
def decV (s : Bts) : AV := match decI s with
  | some n => .tup [.agg (inoC n), .int .i64 0]
  | none => .tup [.agg (inoC .zero), .int .i64 120]
set_option maxRecDepth 100000 in
set_option maxHeartbeats 16000000 in
theorem nd_decode (W : World) (h : AH) (s : List UInt8) (hs : s.length = 32) : RetVk (CC W) 82 [.str s] h (decV s) := by
  refine jj9 (cc_ok W) (fn82 W) (by simp only [Try.f82]; rfl) rfl rfl ?_
  have ha1 := alloc_ino (W := W) (h := h)
  have ha2 := alloc_ino (W := W) (h := h.push (.cells (zC 0 0 0 (fun _ => 0) 0 0) 33))
  have hS : ∀ h2 k3, Keeps ((h.push (.cells (zC 0 0 0 (fun _ => 0) 0 0) 33)).push (.cells (zC 0 0 0 (fun _ => 0) 0 0) 33)) h2 → ((h.push (.cells (zC 0 0 0 (fun _ => 0) 0 0) 33)).push (.cells (zC 0 0 0 (fun _ => 0) 0 0) 33)).next ≤ k3 → RS h2 k3 s →
      DecS h h2 h.next (h.push (.cells (zC 0 0 0 (fun _ => 0) 0 0) 33)).next k3 s (zC 0 0 0 (fun _ => 0) 0 0) := by
    intro h2 k3 hK hk hr
    have k0 := Keeps.push h (.cells (zC 0 0 0 (fun _ => 0) 0 0) 33)
    have k1 := Keeps.push (h.push (.cells (zC 0 0 0 (fun _ => 0) 0 0) 33)) (.cells (zC 0 0 0 (fun _ => 0) 0 0) 33)
    have hn := hK.1
    simp only [AH.next_push] at hk hn ⊢
    refine ⟨(k0.trans k1).trans hK, Nat.le_refl _, by omega, by omega, by omega, by omega, by omega, by omega, by omega, hr, ?_, ?_⟩
    · rw [hK.2 _ (by simp only [AH.next_push]; omega), AH.get_push, if_neg (by simp), AH.get_push, if_pos rfl]
    · have := hK.2 (h.next + 1) (by simp only [AH.next_push]; omega)
      rw [this, AH.get_push, if_pos (by simp)]
  generalize h.push (.cells (zC 0 0 0 (fun _ => 0) 0 0) 33) = h1 at ha1 ha2 hS
  generalize h.next = k1 at ha1 hS
  generalize h1.push (.cells (zC 0 0 0 (fun _ => 0) 0 0) 33) = h2 at ha2 hS
  generalize h1.next = k2 at ha2 hS
  simp [push_cast, ha1, ha2]
  refine je9 (by simp [fn98]) (rd_of W _ s) fun w h3 ⟨hw, hK3, hr3⟩ => ?_
  subst hw
  have hd := hS h3 _ hK3 (Nat.le_refl _) hr3
  generalize h2.next = kr at *
  clear hS hK3 hr3 ha1 ha2
  obtain ⟨s0, hs0⟩ : ∃ z, z = s.drop 0 := ⟨_, rfl⟩
  have hz0 : s0.length = 32 := by rw [hs0, List.length_drop, hs]
  have e0 : DecS h h3 k1 k2 kr (s.drop 0) (zC 0 0 0 (fun _ => 0) 0 0) := hd
  rw [← hs0] at e0
  have hd := e0
  simp [push_cast]
  refine je9 (by simp [fn99]) (rd_fixed W _ kr s0 1 (by omega) hd.rd (by omega) (by omega)) fun w h4 ⟨hw, hh⟩ => ?_
  subst hw hh
  have hd := hd.read 1
  generalize AH.set _ kr _ = hx at hd ⊢
  have hv : ofLe (s0.take 1) = numAt s 0 1 := by rw [hs0]; rfl
  rw [hs0, List.drop_drop] at hd
  obtain ⟨s1, hs1⟩ : ∃ z, z = s.drop 1 := ⟨_, rfl⟩
  have hz1 : s1.length = 31 := by rw [hs1, List.length_drop, hs]
  change DecS h hx k1 k2 kr (s.drop 1) _ at hd
  rw [← hs1] at hd
  obtain ⟨v0, hn0⟩ : ∃ v, v = numAt s 0 1 := ⟨_, rfl⟩
  rw [← hn0] at hv
  have hst : aStoreOp (CC W) hx 3 (.ptr (some (.new k2 0))) (.int .i64 ((v0 : Nat) : Int)) = some (hx.set k2 (.cells (zC v0 0 0 (fun _ => 0) 0 0) 33)) := st_cell hd.c2 (by rw [zC_len]; omega)
  have hd := hd.put (zC v0 0 0 (fun _ => 0) 0 0)
  simp [push_cast, fa33_0, hv, hst]
  generalize AH.set hx k2 _ = hy at hd ⊢
  clear hst hv
  refine je9 (by simp [fn99]) (rd_fixed W _ kr s1 1 (by omega) hd.rd (by omega) (by omega)) fun w h4 ⟨hw, hh⟩ => ?_
  subst hw hh
  have hd := hd.read 1
  generalize AH.set _ kr _ = hx at hd ⊢
  have hv : ofLe (s1.take 1) = numAt s 1 1 := by rw [hs1]; rfl
  rw [hs1, List.drop_drop] at hd
  obtain ⟨s2, hs2⟩ : ∃ z, z = s.drop 2 := ⟨_, rfl⟩
  have hz2 : s2.length = 30 := by rw [hs2, List.length_drop, hs]
  change DecS h hx k1 k2 kr (s.drop 2) _ at hd
  rw [← hs2] at hd
  obtain ⟨v1, hn1⟩ : ∃ v, v = numAt s 1 1 := ⟨_, rfl⟩
  rw [← hn1] at hv
  have hst : aStoreOp (CC W) hx 3 (.ptr (some (.new k2 1))) (.int .i64 ((v1 : Nat) : Int)) = some (hx.set k2 (.cells (zC v0 v1 0 (fun _ => 0) 0 0) 33)) := st_cell hd.c2 (by rw [zC_len]; omega)
  have hd := hd.put (zC v0 v1 0 (fun _ => 0) 0 0)
  simp [push_cast, fa33_1, hv, hst]
  generalize AH.set hx k2 _ = hy at hd ⊢
  clear hst hv
  refine je9 (by simp [fn99]) (rd_fixed W _ kr s2 4 (by omega) hd.rd (by omega) (by omega)) fun w h4 ⟨hw, hh⟩ => ?_
  subst hw hh
  have hd := hd.read 4
  generalize AH.set _ kr _ = hx at hd ⊢
  have hv : ofLe (s2.take 4) = numAt s 2 4 := by rw [hs2]; rfl
  rw [hs2, List.drop_drop] at hd
  obtain ⟨s6, hs6⟩ : ∃ z, z = s.drop 6 := ⟨_, rfl⟩
  have hz6 : s6.length = 26 := by rw [hs6, List.length_drop, hs]
  change DecS h hx k1 k2 kr (s.drop 6) _ at hd
  rw [← hs6] at hd
  obtain ⟨v2, hn2⟩ : ∃ v, v = numAt s 2 4 := ⟨_, rfl⟩
  rw [← hn2] at hv
  have hst : aStoreOp (CC W) hx 3 (.ptr (some (.new k2 2))) (.int .i64 ((v2 : Nat) : Int)) = some (hx.set k2 (.cells (zC v0 v1 v2 (fun _ => 0) 0 0) 33)) := st_cell hd.c2 (by rw [zC_len]; omega)
  have hd := hd.put (zC v0 v1 v2 (fun _ => 0) 0 0)
  simp [push_cast, fa33_2, hv, hst]
  generalize AH.set hx k2 _ = hy at hd ⊢
  clear hst hv
  refine loopN (cc_ok W) (DecI h k1 k2 kr s v0 v1 v2) 6 ⟨by simp, 0, fun _ => 0, by simp, by rw [hs6] at hd; exact hd, fun j hj => by omega, by simp⟩ ?_
  clear hd
  rintro m e' h5 ⟨hlen', i, d, him, hd, hdr, hh⟩
  obtain ⟨a0, a1, a2, a3, a4, a5, a6, a7, a8, a9, rS0, rfl, hS0⟩ := un10 hlen'
  obtain ⟨a10, a11, a12, a13, a14, a15, a16, a17, a18, a19, rS10, rfl, hS10⟩ := un10 hS0
  obtain ⟨a20, a21, a22, a23, a24, a25, a26, a27, a28, a29, rS20, rfl, hS20⟩ := un10 hS10
  obtain ⟨a30, a31, a32, a33, a34, a35, a36, a37, a38, a39, rS30, rfl, hS30⟩ := un10 hS20
  obtain ⟨a40, a41, a42, a43, a44, a45, a46, a47, a48, a49, rS40, rfl, hS40⟩ := un10 hS30
  obtain ⟨a50, a51, a52, a53, a54, a55, a56, a57, a58, a59, rS50, rfl, hS50⟩ := un10 hS40
  obtain ⟨a60, rS60, rfl, hS60⟩ := un1 hS50
  obtain ⟨a61, rS61, rfl, hS61⟩ := un1 hS60
  obtain ⟨a62, rS62, rfl, hS62⟩ := un1 hS61
  obtain ⟨a63, rS63, rfl, hS63⟩ := un1 hS62
  obtain ⟨a64, rS64, rfl, hS64⟩ := un1 hS63
  obtain ⟨a65, rS65, rfl, hS65⟩ := un1 hS64
  obtain ⟨a66, rS66, rfl, hS66⟩ := un1 hS65
  obtain rfl := un0 hS66
  clear hlen' hS0 hS10 hS20 hS30 hS40 hS50 hS60 hS61 hS62 hS63 hS64 hS65 hS66
  simp at hh
  obtain ⟨rfl, rfl, rfl, rfl, rfl⟩ := hh
  by_cases hlt : i < 6
  · have hlt' : (i : Int) < 6 := by omega
    have hwi : IntKind.i64.wrap ((i : Int) + 1) = (i : Int) + 1 := wrap64 (by omega) (by omega)
    obtain ⟨sx, hsx⟩ : ∃ z, z = s.drop (6 + 2 * i) := ⟨_, rfl⟩
    have hzx : sx.length = 32 - (6 + 2 * i) := by rw [hsx, List.length_drop, hs]
    rw [← hsx] at hd
    simp [push_cast, hlt']
    refine je9 (by simp [fn99]) (rd_fixed W _ kr sx 2 (by omega) hd.rd (by omega) (by omega)) fun w h4 ⟨hw, hh⟩ => ?_
    subst hw hh
    have hd := hd.read 2
    generalize AH.set _ kr _ = hx at hd ⊢
    have hv : ofLe (sx.take 2) = numAt s (6 + 2 * i) 2 := by rw [hsx]; rfl
    rw [hsx, List.drop_drop] at hd
    have hix := idxa_six (W := W) (k := k2) hlt
    have hst : aStoreOp (CC W) hx 3 (.ptr (some (.new k2 (3 + i)))) (.int .i64 ((numAt s (6 + 2 * i) 2 : Nat) : Int)) = some (hx.set k2 (.cells (zC v0 v1 v2 (updD d i (numAt s (6 + 2 * i) 2 : Nat)) 0 0) 33)) := by
      rw [← zC_set3 hlt]
      exact st_cell hd.c2 (by rw [zC_len]; omega)
    have hd := hd.put (zC v0 v1 v2 (updD d i (numAt s (6 + 2 * i) 2 : Nat)) 0 0)
    simp [push_cast, fa33_3, hv, hix, hst, hwi]
    generalize AH.set hx k2 _ = hy at hd ⊢
    refine ⟨m - 1, by omega, by simp, i + 1, updD d i (numAt s (6 + 2 * i) 2 : Nat), by omega, by rw [show 6 + 2 * (i + 1) = 6 + 2 * i + 2 by omega]; exact hd, fun j hj => ?_, by simp⟩
    unfold updD
    split
    · rename_i e; subst e; rfl
    · exact hdr j (by omega)
  · obtain rfl : i = 6 := by omega
    obtain ⟨s18, hs18⟩ : ∃ z, z = s.drop 18 := ⟨_, rfl⟩
    have hz18 : s18.length = 14 := by rw [hs18, List.length_drop, hs]
    change DecS h h5 k1 k2 kr (s.drop 18) _ at hd
    rw [← hs18] at hd
    simp [push_cast]
    refine je9 (by simp [fn99]) (rd_fixed W _ kr s18 2 (by omega) hd.rd (by omega) (by omega)) fun w h4 ⟨hw, hh⟩ => ?_
    subst hw hh
    have hd := hd.read 2
    generalize AH.set _ kr _ = hx at hd ⊢
    have hv : ofLe (s18.take 2) = numAt s 18 2 := by rw [hs18]; rfl
    rw [hs18, List.drop_drop] at hd
    obtain ⟨s20, hs20⟩ : ∃ z, z = s.drop 20 := ⟨_, rfl⟩
    have hz20 : s20.length = 12 := by rw [hs20, List.length_drop, hs]
    change DecS h hx k1 k2 kr (s.drop 20) _ at hd
    rw [← hs20] at hd
    obtain ⟨v18, hn18⟩ : ∃ v, v = numAt s 18 2 := ⟨_, rfl⟩
    rw [← hn18] at hv
    have hst : aStoreOp (CC W) hx 3 (.ptr (some (.new k2 9))) (.int .i64 ((v18 : Nat) : Int)) = some (hx.set k2 (.cells (zC v0 v1 v2 d v18 0) 33)) := st_cell hd.c2 (by rw [zC_len]; omega)
    have hd := hd.put (zC v0 v1 v2 d v18 0)
    simp [push_cast, fa33_4, hv, hst]
    generalize AH.set hx k2 _ = hy at hd ⊢
    clear hst hv
    refine je9 (by simp [fn99]) (rd_fixed W _ kr s20 2 (by omega) hd.rd (by omega) (by omega)) fun w h4 ⟨hw, hh⟩ => ?_
    subst hw hh
    have hd := hd.read 2
    generalize AH.set _ kr _ = hx at hd ⊢
    have hv : ofLe (s20.take 2) = numAt s 20 2 := by rw [hs20]; rfl
    rw [hs20, List.drop_drop] at hd
    obtain ⟨s22, hs22⟩ : ∃ z, z = s.drop 22 := ⟨_, rfl⟩
    have hz22 : s22.length = 10 := by rw [hs22, List.length_drop, hs]
    change DecS h hx k1 k2 kr (s.drop 22) _ at hd
    rw [← hs22] at hd
    obtain ⟨v20, hn20⟩ : ∃ v, v = numAt s 20 2 := ⟨_, rfl⟩
    rw [← hn20] at hv
    have hst : aStoreOp (CC W) hx 3 (.ptr (some (.new k2 10))) (.int .i64 ((v20 : Nat) : Int)) = some (hx.set k2 (.cells (zC v0 v1 v2 d v18 v20) 33)) := st_cell hd.c2 (by rw [zC_len]; omega)
    have hd := hd.put (zC v0 v1 v2 d v18 v20)
    simp [push_cast, fa33_5, hv, hst]
    generalize AH.set hx k2 _ = hy at hd ⊢
    clear hst hv
    have hcs : zC v0 v1 v2 d v18 v20 = inoC (rawI s) := by
      rw [hn0, hn1, hn2, hn18, hn20]
      simp only [zC, inoC, rawI, inoD, hdr 0 (by decide), hdr 1 (by decide), hdr 2 (by decide), hdr 3 (by decide), hdr 4 (by decide), hdr 5 (by decide), rawD]
      rfl
    rw [hcs] at hd
    have hl := ld_ino (W := W) hd.c2
    simp [push_cast, hl]
    refine callK_RetVk (by simp [fn79]) (nd_encode W _ (rawI s) rfl) fun h6 hk6 => ?_
    have hd := hd.keeps hk6
    have hl := ld_ino (W := W) hd.c2
    have hst0 : aStoreOp (CC W) h6 33 (.ptr (some (.new k1 0))) (.agg (inoC .zero)) = some (h6.set k1 (.cells (inoC .zero) 33)) := st_ino (W := W) (kd := 0) (ln := 0) (sz := 0) (d := fun _ => 0) (sg := 0) (db := 0) hd.c1 rfl
    have hsr := st_ino (W := W) (kd := (rawI s).kd) (ln := (rawI s).ln) (sz := (rawI s).sz) (d := inoD (rawI s)) (sg := (rawI s).sg) (db := (rawI s).db) hd.c1 rfl
    have hb0 : aBuild (CC W) 33 [] = some (.agg (inoC .zero)) := build_ino0 (W := W)
    have hK := hd.keep
    have hl1 := hd.l1
    have g0 : aLoad (CC W) (h6.set k1 (.cells (inoC .zero) 33)) 33 (.new k1 0) = some (.agg (inoC .zero)) := ld_ino (t := 33) (kd := 0) (ln := 0) (sz := 0) (d := fun _ => 0) (sg := 0) (db := 0) (by simp; rfl)
    have gr : aLoad (CC W) (h6.set k1 (.cells (inoC (rawI s)) 33)) 33 (.new k1 0) = some (.agg (inoC (rawI s))) := ld_ino (t := 33) (by simp [inoC])
    have hKs : ∀ o, Keeps h (h6.set k1 o) := fun o => hK.set hl1 o
    change aStoreOp (CC W) h6 33 (.ptr (some (.new k1 0))) (.agg (inoC (rawI s))) = some (h6.set k1 (.cells (inoC (rawI s)) 33)) at hsr
    change aLoad (CC W) h6 33 (.new k2 0) = some (.agg (inoC (rawI s))) at hl
    unfold decV decI
    cases hok : inoOk (rawI s) with
    | false =>
      simp [push_cast, hb0, hst0, g0, hKs]
    | true =>
      by_cases he : encI (rawI s) = s
      · have he' : (encI (rawI s) == s) = true := by simp [he]
        simp [push_cast, aStr, he, he', hl, hsr, gr, hKs]
      · have he' : (encI (rawI s) == s) = false := by simp [he]
        simp [push_cast, aStr, he, he', hb0, hst0, g0, hKs]
end Go.Proofs.Ytgcoipcnhmkeaaa.Ax
end

/-! Inodes of a table's block: the walks -/
section
set_option linter.unusedVariables false
set_option linter.unusedSimpArgs false
namespace Go.Proofs.Ytgcoipcnhmkeaaa.Ax
open Go.RowKit

set_option maxRecDepth 100000 in
set_option maxHeartbeats 8000000 in
theorem nd_encode_bad (W : World) (h : AH) (kd ln sz : Int) (d : Nat → Int) (sg db : Int) (hc : chkZ kd ln sz d sg db = false) : RetVk (CC W) 79 [.agg (zC kd ln sz d sg db)] h (.tup [.str [], .int .i64 120]) := by
  refine jj9 (cc_ok W) (fn79 W) (by simp only [Try.f79]; rfl) rfl rfl ?_
  have hbx := box_ino (h := h) (l := zC kd ln sz d sg db)
  have hK := Keeps.push h (.cells (zC kd ln sz d sg db) 33)
  have hg : (h.push (.cells (zC kd ln sz d sg db) 33)).get h.next = some (.cells (zC kd ln sz d sg db) 33) := by simp
  generalize h.push (.cells (zC kd ln sz d sg db) 33) = h1 at hbx hK hg
  generalize h.next = k at hbx hg
  have hl := ld_ino (W := W) hg
  have hchk := nd_check W h1 kd ln sz d sg db
  rw [hc] at hchk
  simp [push_cast, hbx, hl]
  refine callK_RetVk (by simp [fn94]) hchk fun h2 hk2 => ?_
  simp [push_cast]
  exact hK.trans hk2

/-- An inode of a table's block, as Get tells. -/
def getV (b : Bts) (k : Nat) : AV := match getI b k with
  | some n => .tup [.agg (inoC n), .int .i64 0]
  | none => .tup [.agg (inoC .zero), .int .i64 120]
set_option maxRecDepth 100000 in
set_option maxHeartbeats 8000000 in
theorem nd_get (W : World) (h : AH) (b : List UInt8) (k : Nat) (hb : b.length = 128) (hk : k < 4) : RetVk (CC W) 52 [.str b, .int .i64 k] h (getV b k) := by
  refine jj9 (cc_ok W) (fn52 W) (by simp only [Try.f52]; rfl) rfl rfl ?_
  have ha := alloc_ino (W := W) (h := h)
  have hK := Keeps.push h (.cells (zC 0 0 0 (fun _ => 0) 0 0) 33)
  have hg : (h.push (.cells (zC 0 0 0 (fun _ => 0) 0 0) 33)).get h.next = some (.cells (zC 0 0 0 (fun _ => 0) 0 0) 33) := by simp
  have hlt : h.next < (h.push (.cells (zC 0 0 0 (fun _ => 0) 0 0) 33)).next := by simp
  have hkk : h.next ≤ h.next := Nat.le_refl _
  generalize h.push (.cells (zC 0 0 0 (fun _ => 0) 0 0) 33) = h1 at ha hK hg hlt
  generalize hkn : h.next = kn at ha hg hlt hkk
  have hw1 : IntKind.i64.wrap (32 * (k : Int)) = ((32 * k : Nat) : Int) := by rw [show 32 * (k : Int) = ((32 * k : Nat) : Int) by omega]; exact wrap64 (by omega) (by omega)
  have hw2 : IntKind.i64.wrap ((k : Int) + 1) = ((k + 1 : Nat) : Int) := by rw [show (k : Int) + 1 = ((k + 1 : Nat) : Int) by omega]; exact wrap64 (by omega) (by omega)
  have hw3 : IntKind.i64.wrap (32 * ((k + 1 : Nat) : Int)) = ((32 * (k + 1) : Nat) : Int) := by rw [show 32 * ((k + 1 : Nat) : Int) = ((32 * (k + 1) : Nat) : Int) by omega]; exact wrap64 (by omega) (by omega)
  have hsl : aSlice (CC W) 9 (.str b) (some (.int .i64 ((32 * k : Nat) : Int))) (some (.int .i64 ((32 * (k + 1) : Nat) : Int))) none = some (.str ((b.drop (32 * k)).take 32)) := by
    rw [slice_lohi (by omega) (by omega), List.drop_take, show 32 * (k + 1) - 32 * k = 32 by omega]
  have hdl : ((b.drop (32 * k)).take 32).length = 32 := by simp [hb]; omega
  have hgv : getV b k = decV ((b.drop (32 * k)).take 32) := rfl
  rw [hgv]
  generalize (b.drop (32 * k)).take 32 = s at *
  generalize hq3 : 32 * (k + 1) = q3 at *
  generalize hq2 : k + 1 = q2 at *
  generalize hq1 : 32 * k = q1 at *
  simp [push_cast, ha]
  refine jh9 (by simp [fn78]) (nd_asked W h1 b k 4 hb hk) ?_
  simp [push_cast, hw1, hw2, hw3, hsl]
  refine callK_RetVk (by simp [fn82]) (nd_decode W h1 s hdl) fun h2 hk2 => ?_
  have hg2 := (hk2.2 kn hlt).trans hg
  have hK2 := hK.trans hk2
  have key : ∀ n : Ino, aStoreOp (CC W) h2 33 (.ptr (some (.new kn 0))) (.agg (inoC n)) = some (h2.set kn (.cells (inoC n) 33)) ∧ aLoad (CC W) (h2.set kn (.cells (inoC n) 33)) 33 (.new kn 0) = some (.agg (inoC n)) ∧ Keeps h (h2.set kn (.cells (inoC n) 33)) := fun n =>
    ⟨st_ino hg2 rfl, ld_ino (t := 33) (kd := n.kd) (ln := n.ln) (sz := n.sz) (d := inoD n) (sg := n.sg) (db := n.db) (by simp; rfl), hK2.set (by omega) _⟩
  unfold decV
  cases decI s with
  | none =>
    obtain ⟨e1, e2, e3⟩ := key .zero
    simp [push_cast, e1, e2, e3]
  | some n =>
    obtain ⟨e1, e2, e3⟩ := key n
    simp [push_cast, e1, e2, e3]

set_option maxRecDepth 100000 in
set_option maxHeartbeats 8000000 in
theorem nd_put (W : World) (h : AH) (b : List UInt8) (k : Nat) (hb : b.length = 128) (hk : k < 4) (n : Ino) (hn : InoOK n) : RetVk (CC W) 49 [.str b, .int .i64 k, .agg (inoC n)] h (.tup [.str (putI b k n), .int .i64 0]) := by
  refine jj9 (cc_ok W) (fn49 W) (by simp only [Try.f49]; rfl) rfl rfl ?_
  have hbx := box_ino (h := h) (l := inoC n)
  have hK := Keeps.push h (.cells (inoC n) 33)
  have hg : (h.push (.cells (inoC n) 33)).get h.next = some (.cells (inoC n) 33) := by simp
  generalize h.push (.cells (inoC n) 33) = h1 at hbx hK hg
  generalize h.next = kn at hbx hg
  have hl : aLoad (CC W) h1 33 (.new kn 0) = some (.agg (inoC n)) := ld_ino (W := W) hg
  have hw1 : IntKind.i64.wrap (32 * (k : Int)) = ((32 * k : Nat) : Int) := by rw [show 32 * (k : Int) = ((32 * k : Nat) : Int) by omega]; exact wrap64 (by omega) (by omega)
  have hw2 : IntKind.i64.wrap ((k : Int) + 1) = ((k + 1 : Nat) : Int) := by rw [show (k : Int) + 1 = ((k + 1 : Nat) : Int) by omega]; exact wrap64 (by omega) (by omega)
  have hw3 : IntKind.i64.wrap (32 * ((k + 1 : Nat) : Int)) = ((32 * (k + 1) : Nat) : Int) := by rw [show 32 * ((k + 1 : Nat) : Int) = ((32 * (k + 1) : Nat) : Int) by omega]; exact wrap64 (by omega) (by omega)
  have hs1 : aSlice (CC W) 9 (.str b) none (some (.int .i64 ((32 * k : Nat) : Int))) none = some (.str (b.take (32 * k))) := slice_hi (by omega)
  have hs2 : aSlice (CC W) 9 (.str b) (some (.int .i64 ((32 * (k + 1) : Nat) : Int))) none none = some (.str (b.drop (32 * (k + 1)))) := slice_lo (by omega)
  have hel := enc_len hn.len
  have hpv : putI b k n = b.take (32 * k) ++ encI n ++ b.drop (32 * (k + 1)) := rfl
  have hl1 : (b.take (32 * k)).length ≤ 128 := by simp; omega
  have hl2 : (b.drop (32 * (k + 1))).length ≤ 128 := by simp; omega
  rw [hpv]
  generalize b.take (32 * k) = b1 at *
  generalize b.drop (32 * (k + 1)) = b2 at *
  generalize hq3 : 32 * (k + 1) = q3 at *
  generalize hq2 : k + 1 = q2 at *
  generalize hq1 : 32 * k = q1 at *
  have ha1 := strAdd (x := b1) (y := encI n) (by omega)
  have ha2 := strAdd (x := b1 ++ encI n) (y := b2) (by simp; omega)
  have henc := nd_encode W h1 n hn.len
  rw [inoOk_iff.2 hn] at henc
  simp only [if_true] at henc
  simp [push_cast, hbx]
  refine jh9 (by simp [fn78]) (nd_asked W h1 b k 4 hb hk) ?_
  simp [push_cast, hl]
  refine callK_RetVk (by simp [fn79]) henc fun h2 hk2 => ?_
  simp [push_cast]
  refine draw1 (cc_ok W) [0, 1, 2, 3, 4, 5, 6, 7, 8, 9, 10, 11, 12, 13] (by kernel_rfl) (by kernel_rfl) (by kernel_rfl) rfl ?_
  simp [push_cast, hw1, hw2, hw3, hs1, hs2, ha1, ha2]
  exact hK.trans hk2
set_option maxRecDepth 100000 in
set_option maxHeartbeats 8000000 in
theorem nd_put_bad (W : World) (h : AH) (b : List UInt8) (k : Nat) (hb : b.length = 128) (hk : k < 4) (kd ln sz : Int) (d : Nat → Int) (sg db : Int) (hc : chkZ kd ln sz d sg db = false) : RetVk (CC W) 49 [.str b, .int .i64 k, .agg (zC kd ln sz d sg db)] h (.tup [.str [], .int .i64 120]) := by
  refine jj9 (cc_ok W) (fn49 W) (by simp only [Try.f49]; rfl) rfl rfl ?_
  have hbx := box_ino (h := h) (l := zC kd ln sz d sg db)
  have hK := Keeps.push h (.cells (zC kd ln sz d sg db) 33)
  have hg : (h.push (.cells (zC kd ln sz d sg db) 33)).get h.next = some (.cells (zC kd ln sz d sg db) 33) := by simp
  generalize h.push (.cells (zC kd ln sz d sg db) 33) = h1 at hbx hK hg
  generalize h.next = kn at hbx hg
  have hl := ld_ino (W := W) hg
  simp [push_cast, hbx]
  refine jh9 (by simp [fn78]) (nd_asked W h1 b k 4 hb hk) ?_
  simp [push_cast, hl]
  refine callK_RetVk (by simp [fn79]) (nd_encode_bad W h1 kd ln sz d sg db hc) fun h2 hk2 => ?_
  simp [push_cast]
  exact hK.trans hk2
end Go.Proofs.Ytgcoipcnhmkeaaa.Ax
end

/-! A view, as it lies among the own blocks; a block is had, and changed -/
section
set_option linter.unusedVariables false
set_option linter.unusedSimpArgs false
namespace Go.Proofs.Ytgcoipcnhmkeaaa.Ax
open Go.RowKit

/-! ### a map of blocks -/
/-- A map in an own block: what it says of each number. -/
structure OvIs (h : AH) (ko : Nat) (g : Nat → Option Bts) : Prop where
  lt : ko < h.next
  some_lt : ∀ x b, g x = some b → x < 1024 ∧ b.length = 128
  map : ∃ es clock, h.get ko = some (.map es clock) ∧ OkEs es clock ∧ (∀ e ∈ es, ∃ (x : Nat) (b : Bts), e.key = .int .i64 x ∧ e.val = .str b ∧ g x = some b) ∧ (∀ x b, g x = some b → ∃ e ∈ es, e.key = .int .i64 (x : Int))
theorem OvIs.same {h h' : AH} {ko : Nat} {g : Nat → Option Bts} (o : OvIs h ko g) (hn : h.next ≤ h'.next) (hg : h'.get ko = h.get ko) : OvIs h' ko g := by
  obtain ⟨es, clock, h1, h2⟩ := o.map
  exact ⟨Nat.lt_of_lt_of_le o.lt hn, o.some_lt, es, clock, hg.trans h1, h2⟩

theorem intKey_of {e : AEnt} {x : Int} (h : e.key = .int .i64 x) : intKey e = x := by unfold intKey; rw [h]
/-- The entry of a number, and that none ahead of it is of the same. -/
theorem ents_split {es : List AEnt} {clock : Nat} (ok : OkEs es clock) (hk : ∀ e ∈ es, ∃ x : Nat, e.key = .int .i64 x) {e : AEnt} {x : Nat} (he : e ∈ es) (hx : e.key = .int .i64 (x : Int)) :
    ∃ l1 l2, es = l1 ++ e :: l2 ∧ (∀ y ∈ l1, ∃ n, y.key = .int .i64 n ∧ n ≠ (x : Int)) ∧ (∀ y ∈ l2, ∃ n, y.key = .int .i64 n ∧ n ≠ (x : Int)) := by
  obtain ⟨l1, l2, rfl⟩ := List.append_of_mem he
  have hnd := ok.keys
  rw [List.map_append, List.map_cons, List.nodup_append] at hnd
  obtain ⟨_, h2, h3⟩ := hnd
  rw [List.nodup_cons] at h2
  have e0 := intKey_of hx
  refine ⟨l1, l2, rfl, fun y hy => ?_, fun y hy => ?_⟩
  · obtain ⟨n, hn⟩ := hk y (by simp [hy])
    refine ⟨n, hn, fun e2 => ?_⟩
    exact h3 (intKey y) (List.mem_map.2 ⟨y, hy, rfl⟩) (intKey e) (by simp) (by rw [intKey_of hn, e0]; exact e2)
  · obtain ⟨n, hn⟩ := hk y (by simp [hy])
    refine ⟨n, hn, fun e2 => ?_⟩
    exact h2.1 (List.mem_map.2 ⟨y, hy, by rw [intKey_of hn, e0]; exact e2⟩)
theorem OvIs.look {W : World} {h : AH} {ko : Nat} {g : Nat → Option Bts} (o : OvIs h ko g) (x : Nat) :
    aLookup (CC W) h 83 (.map (some ko)) (.int .i64 (x : Int)) true = some (match g x with | some s => .tup [.str s, .bool true] | none => .tup [.str [], .bool false]) := by
  have hkd : (CC W).kind 83 = .map 3 9 := rfl
  have hkey : aKey (CC W) 100 3 (.int .i64 (x : Int)) = true := rfl
  have hz : (CC W).zero 9 = some [.str []] := rfl
  obtain ⟨es, clock, h1, h2, h3, h4⟩ := o.map
  have hk : ∀ e ∈ es, ∃ x : Nat, e.key = .int .i64 x := fun e he => by obtain ⟨y, b, h5, _⟩ := h3 e he; exact ⟨y, h5⟩
  cases hg : g x with
  | none =>
    have hf := find_none (W := W) (k := (x : Int)) (l := es) (i := 0) fun e he => by
      obtain ⟨y, b, h5, h6, h7⟩ := h3 e he
      refine ⟨y, h5, fun e2 => ?_⟩
      have : y = x := by omega
      rw [this, hg] at h7; cases h7
    simp only [aLookup, hkd, hkey, if_true, h1, hf, Option.bind]
    rfl
  | some b =>
    obtain ⟨e, he, hx⟩ := h4 x b hg
    obtain ⟨l1, l2, rfl, h5, h6⟩ := ents_split h2 hk he hx
    obtain ⟨y, b', h7, h8, h9⟩ := h3 e (by simp)
    have hy : y = x := by rw [hx] at h7; have := AV.int.inj h7; omega
    rw [hy, hg] at h9
    have hf := find_at (W := W) (l2 := l2) (i := 0) h5 hx
    simp only [aLookup, hkd, hkey, if_true, h1, hf, Option.bind]
    rw [h8, Option.some.inj h9]
    rfl
theorem OvIs.put {W : World} {h : AH} {ko : Nat} {g : Nat → Option Bts} (o : OvIs h ko g) {x : Nat} (hx : x < 1024) {b : Bts} (hb : b.length = 128) :
    ∃ h', aMapSet (CC W) h 83 (.map (some ko)) (.int .i64 (x : Int)) (.str b) = some h' ∧ OvIs h' ko (fun y => if y = x then some b else g y) ∧ h'.next = h.next ∧ ∀ j, j ≠ ko → h'.get j = h.get j := by
  obtain ⟨es, clock, h1, h2, h3, h4⟩ := o.map
  have hk : ∀ e ∈ es, ∃ x : Nat, e.key = .int .i64 x := fun e he => by obtain ⟨y, b, h5, _⟩ := h3 e he; exact ⟨y, h5⟩
  have hsl : ∀ y b', (if y = x then some b else g y) = some b' → y < 1024 ∧ b'.length = 128 := by
    intro y b' he
    split at he
    · rename_i e; cases he; exact ⟨by omega, hb⟩
    · exact o.some_lt y b' he
  cases hg : g x with
  | none =>
    have hno : ∀ e ∈ es, ∃ n, e.key = .int .i64 n ∧ n ≠ (x : Int) := fun e he => by
      obtain ⟨y, b, h5, h6, h7⟩ := h3 e he
      refine ⟨y, h5, fun e2 => ?_⟩
      have : y = x := by omega
      rw [this, hg] at h7; cases h7
    have hm := map_new (W := W) (x := .str b) h1 hno
    refine ⟨h.set ko (.map (es ++ [⟨.int .i64 (x : Int), .str b, clock⟩]) (clock + 1)), hm, ⟨by simpa using o.lt, hsl, es ++ [⟨.int .i64 (x : Int), .str b, clock⟩], clock + 1, by simp, ⟨fun e he => ?_, fun e he => ?_, ?_, ?_, ?_⟩, fun e he => ?_, fun y b' he => ?_⟩, by simp, fun j hj => by simp [hj]⟩
    · rcases List.mem_append.1 he with he | he
      · exact h2.ints e he
      · simp only [List.mem_singleton] at he; subst he; simp [isIntKey]; omega
    · rcases List.mem_append.1 he with he | he
      · exact Nat.lt_succ_of_lt (h2.below e he)
      · simp only [List.mem_singleton] at he; subst he; exact Nat.lt_succ_self _
    · rw [List.map_append, List.nodup_append]
      refine ⟨h2.borns, by simp, fun a ha b hb e => ?_⟩
      obtain ⟨e1, he1, rfl⟩ := List.mem_map.1 ha
      simp at hb
      have := h2.below e1 he1
      omega
    · rw [List.map_append, List.nodup_append]
      refine ⟨h2.keys, by simp, fun a ha b hb e => ?_⟩
      obtain ⟨e1, he1, rfl⟩ := List.mem_map.1 ha
      obtain ⟨n, hn, hne⟩ := hno e1 he1
      simp only [List.map_cons, List.map_nil, List.mem_singleton] at hb
      rw [intKey_of hn] at e
      subst hb
      exact hne e
    · have hle : ((es ++ [(⟨.int .i64 (x : Int), .str b, clock⟩ : AEnt)]).map intKey).length ≤ ((List.range 1024).map fun n : Nat => (n : Int)).length := by
        refine List.Nodup.length_le_of_subset ?_ fun z hz => ?_
        · rw [List.map_append, List.nodup_append]
          refine ⟨h2.keys, by simp, fun a ha b hb e => ?_⟩
          obtain ⟨e1, he1, rfl⟩ := List.mem_map.1 ha
          obtain ⟨n, hn, hne⟩ := hno e1 he1
          simp only [List.map_cons, List.map_nil, List.mem_singleton] at hb
          rw [intKey_of hn] at e
          subst hb
          exact hne e
        · obtain ⟨e1, he1, rfl⟩ := List.mem_map.1 hz
          rcases List.mem_append.1 he1 with he1 | he1
          · obtain ⟨y, b', h5, _, h7⟩ := h3 e1 he1
            rw [intKey_of h5]
            exact List.mem_map.2 ⟨y, by simpa using (o.some_lt y b' h7).1, rfl⟩
          · simp only [List.mem_singleton] at he1; subst he1
            exact List.mem_map.2 ⟨x, by simpa using hx, rfl⟩
      simp only [List.length_map, List.length_range] at hle
      omega
    · rcases List.mem_append.1 he with he | he
      · obtain ⟨y, b', h5, h6, h7⟩ := h3 e he
        refine ⟨y, b', h5, h6, ?_⟩
        rw [if_neg]
        · exact h7
        · intro e2; rw [e2, hg] at h7; cases h7
      · simp only [List.mem_singleton] at he; subst he
        exact ⟨x, b, rfl, rfl, by simp⟩
    · split at he
      · rename_i e; subst e; exact ⟨_, by simp; right; rfl, rfl⟩
      · obtain ⟨e, h5, h6⟩ := h4 y b' he
        exact ⟨e, by simp [h5], h6⟩
  | some b0 =>
    obtain ⟨e, he, hxe⟩ := h4 x b0 hg
    obtain ⟨l1, l2, rfl, h5, h6⟩ := ents_split h2 hk he hxe
    have hm := map_upd (W := W) (x := .str b) h1 h5 hxe
    refine ⟨h.set ko (.map (l1 ++ { e with val := .str b } :: l2) clock), hm, ⟨by simpa using o.lt, hsl, l1 ++ { e with val := .str b } :: l2, clock, by simp, ⟨fun e' he' => ?_, fun e' he' => ?_, ?_, ?_, ?_⟩, fun e' he' => ?_, fun y b' he' => ?_⟩, by simp, fun j hj => by simp [hj]⟩
    · rcases List.mem_append.1 he' with he' | he'
      · exact h2.ints e' (by simp [he'])
      · rcases List.mem_cons.1 he' with rfl | he'
        · exact (h2.ints e (by simp) : isIntKey e = true)
        · exact h2.ints e' (by simp [he'])
    · rcases List.mem_append.1 he' with he' | he'
      · exact h2.below e' (by simp [he'])
      · rcases List.mem_cons.1 he' with rfl | he'
        · exact h2.below e (by simp)
        · exact h2.below e' (by simp [he'])
    · have := h2.borns
      simp only [List.map_append, List.map_cons] at this ⊢
      exact this
    · have := h2.keys
      simp only [List.map_append, List.map_cons] at this ⊢
      exact this
    · have := h2.few
      simp only [List.length_append, List.length_cons] at this ⊢
      exact this
    · have old : ∀ e' ∈ l1 ++ l2, ∃ (y : Nat) (b' : Bts), e'.key = .int .i64 y ∧ e'.val = .str b' ∧ (if y = x then some b else g y) = some b' := by
        intro e' he'
        have hne : ∃ n, e'.key = .int .i64 n ∧ n ≠ (x : Int) := by
          rcases List.mem_append.1 he' with he' | he'
          · exact h5 e' he'
          · exact h6 e' he'
        obtain ⟨n, hn, hnx⟩ := hne
        have hmem : e' ∈ l1 ++ e :: l2 := by
          rcases List.mem_append.1 he' with he' | he'
          · simp [he']
          · simp [he']
        obtain ⟨y, b', h7, h8, h9⟩ := h3 e' hmem
        refine ⟨y, b', h7, h8, ?_⟩
        rw [if_neg]
        · exact h9
        · intro e2
          rw [hn] at h7
          have := AV.int.inj h7
          omega
      rcases List.mem_append.1 he' with he' | he'
      · exact old e' (by simp [he'])
      · rcases List.mem_cons.1 he' with rfl | he'
        · exact ⟨x, b, hxe, rfl, by simp⟩
        · exact old e' (by simp [he'])
    · split at he'
      · rename_i e2; subst e2
        exact ⟨{ e with val := .str b }, by simp, hxe⟩
      · rename_i hyx
        obtain ⟨e2, h7, h8⟩ := h4 y b' he'
        rcases List.mem_append.1 h7 with h7 | h7
        · exact ⟨e2, by simp [h7], h8⟩
        · rcases List.mem_cons.1 h7 with rfl | h7
          · rw [hxe] at h8
            have := AV.int.inj h8
            omega
          · exact ⟨e2, by simp [h7], h8⟩
end Go.Proofs.Ytgcoipcnhmkeaaa.Ax
end
