/- The texts WritesW, FrameB, FrameO, as one. -/
import Derived.Test.YtbofhlifobjolaaGreatDoorGi
import Derived.Test.YtbofhlifobjolaaGreatDoorCards
import Derived.Test.YtbofhlifobjolaaGreatDoorTie
import Derived.Test.YtbofhlifobjolaaGreatDoorGc
import Derived.WalkKit
import Derived.ProofKit
import Derived.OpenShut
import Derived.SliceStrings
import Derived.Carry
import Derived.Lay
import Derived.SizedLaws
import Derived.Deep.DeepHandedRow

/-! ModelWrites: the walk -/
section
set_option linter.unusedVariables false
set_option linter.unusedSimpArgs false
namespace Go.Proofs.YtbofhlifobjolaaGreatDoor.Ax
open Go.RowKit

def runR (M : MS) : List Opn → MS
  | [] => M
  | o :: l => runR (doR M o).2 l

def DoI (h0 : AH) (v : AV) (A : Int) (d : List UInt8) (km : Nat) (l : List Opn) (m : Nat) (e' : Env) (h' : AH) : Prop :=
  e'.length = 195 ∧ ∃ (i : Nat) (R : MR) (M : MS), i + m = l.length ∧ MIs h' R M ∧ Fine M i ∧ R.km = km ∧
    (e'.getD 0 .undef = v ∧ e'.getD 1 .undef = .int .i64 A ∧ e'.getD 2 .undef = .str d ∧ e'.getD 7 .undef = .ptr (some (.new km 0)) ∧ e'.getD 57 .undef = v ∧ e'.getD 58 .undef = .int .i64 l.length ∧ e'.getD 59 .undef = .int .i64 i)

def ChkI (h6 : AH) (A : Nat) (d : List UInt8) (km k1 k3 : Nat) (n : Nat) (m : Nat) (e' : Env) (h' : AH) : Prop :=
  h' = h6 ∧ e'.length = 195 ∧ ∃ i : Nat, i + m = n ∧
    (e'.getD 1 .undef = .int .i64 A ∧ e'.getD 2 .undef = .str d ∧ e'.getD 7 .undef = .ptr (some (.new km 0)) ∧ e'.getD 11 .undef = .ptr (some (.new k1 0)) ∧ e'.getD 13 .undef = .ptr (some (.new k3 0)) ∧ e'.getD 15 .undef = .int .i64 i)

theorem ReadIdx {W : World} {s : List UInt8} {i : Nat} {x : UInt8} (hx : s[i]? = some x) : aIndex (CC W) 9 (.str s) (.int .i64 (i : Int)) = some (.int .u8 x.toNat) := by
  simp only [aIndex, kind9, Int.toNat_natCast, hx, Option.map_some]
  rw [if_pos (by omega)]

set_option maxRecDepth 100000 in
set_option maxHeartbeats 16000000 in
theorem writes_ret (W : World) (v : AV) (l : List Opn) (hv : OpsS W v l) (at_ : Int) (d : List UInt8) (hd : d.length < 8796093022207) (hl : l.length < 8796093022207) :
    ACall (CC W) 4 [v, .int .i64 at_, .str d] AH.empty (fun w _ => w = .bool true) (fun _ _ => False) := by
  obtain ⟨va, vc, rfl, hops⟩ := hv
  refine acall_fin (cc_ok W) (fn4 W) (by simp only [Tryz.f4]; rfl) rfl rfl ?_
  simp [Wc_seq, Wc_block, Wc_scope, Wc_skip, Wc_label, Wc_exit, Wc_ret, Wc_loop, Wc_region, Wc_cond, Nx_nil, Nx_seq, Nx_seq_exit, Nx_seq_ret, Nx_block, Nx_block_exit, Nx_block_ret, Rg_nil, Rg_cons, RgE, effA, calleeA, wantedA, enterN, ev, ofV, ofVn, putE, evalN, aBin, aInt_add, aInt_sub, aInt_mul, aInt_quo, aInt_rem, aInt_eql, aInt_neq, aInt_lss, aInt_leq, aInt_gtr, aInt_geq, aExtract, finQ_ret, resOf, extU, extEU, kq_eq, thenQ_normal, thenQ_exit, thenQ_ret]
  refine callK_RetK (by simp [fn25]) (little_ret W _) fun h1 hk1 => ?_
  simp [Wc_seq, Wc_block, Wc_scope, Wc_skip, Wc_label, Wc_exit, Wc_ret, Wc_loop, Wc_region, Wc_cond, Nx_nil, Nx_seq, Nx_seq_exit, Nx_seq_ret, Nx_block, Nx_block_exit, Nx_block_ret, Rg_nil, Rg_cons, RgE, effA, calleeA, wantedA, enterN, ev, ofV, ofVn, putE, evalN, aBin, aInt_add, aInt_sub, aInt_mul, aInt_quo, aInt_rem, aInt_eql, aInt_neq, aInt_lss, aInt_leq, aInt_gtr, aInt_geq, aExtract, finQ_ret, resOf, extU, extEU, kq_eq, thenQ_normal, thenQ_exit, thenQ_ret]
  refine callK_ret (by simp [fn12]) (new_ret W h1 64 20 6) fun w h2 hw => ?_
  rw [shape_little] at hw
  obtain ⟨R, rfl, hk2, hm, hR⟩ := hw
  have hfine : Fine (newM 6 40) 0 := new_fine (by decide) (by decide)
  rw [show (6 : Int).toNat = 6 from rfl] at hm
  generalize newM 6 40 = M0 at hm hfine
  have hlen : ∀ h, aLen (CC W) h 24 (.sl va l.length vc none) = some (.int .i64 l.length) := fun h => by simp [aLen, kind24]
  simp [Wc_seq, Wc_block, Wc_scope, Wc_skip, Wc_label, Wc_exit, Wc_ret, Wc_loop, Wc_region, Wc_cond, Nx_nil, Nx_seq, Nx_seq_exit, Nx_seq_ret, Nx_block, Nx_block_exit, Nx_block_ret, Rg_nil, Rg_cons, RgE, effA, calleeA, wantedA, enterN, ev, ofV, ofVn, putE, evalN, aBin, aInt_add, aInt_sub, aInt_mul, aInt_quo, aInt_rem, aInt_eql, aInt_neq, aInt_lss, aInt_leq, aInt_gtr, aInt_geq, aExtract, finQ_ret, resOf, extU, extEU, kq_eq, thenQ_normal, thenQ_exit, thenQ_ret, aEq, kind25, kindEq1, aEq1]
  refine callK_RetH (by simp [fn14]) (heavy_ret W h2 va l.length vc none) ?_
  by_cases c1 : (200 : Int) < (l.length : Int)
  · have c1' : 200 < l.length := by omega
    simp [Wc_seq, Wc_block, Wc_scope, Wc_skip, Wc_label, Wc_exit, Wc_ret, Wc_loop, Wc_region, Wc_cond, Nx_nil, Nx_seq, Nx_seq_exit, Nx_seq_ret, Nx_block, Nx_block_exit, Nx_block_ret, Rg_nil, Rg_cons, RgE, effA, calleeA, wantedA, enterN, ev, ofV, ofVn, putE, evalN, aBin, aInt_add, aInt_sub, aInt_mul, aInt_quo, aInt_rem, aInt_eql, aInt_neq, aInt_lss, aInt_leq, aInt_gtr, aInt_geq, aExtract, finQ_ret, resOf, extU, extEU, kq_eq, thenQ_normal, thenQ_exit, thenQ_ret, aEq, kind25, kindEq1, aEq1, c1, c1', aLen, kind9]
    refine callK_RetH (by simp [fn15]) (speaks_ret W _) ?_
    simp [Wc_seq, Wc_block, Wc_scope, Wc_skip, Wc_label, Wc_exit, Wc_ret, Wc_loop, Wc_region, Wc_cond, Nx_nil, Nx_seq, Nx_seq_exit, Nx_seq_ret, Nx_block, Nx_block_exit, Nx_block_ret, Rg_nil, Rg_cons, RgE, effA, calleeA, wantedA, enterN, ev, ofV, ofVn, putE, evalN, aBin, aInt_add, aInt_sub, aInt_mul, aInt_quo, aInt_rem, aInt_eql, aInt_neq, aInt_lss, aInt_leq, aInt_gtr, aInt_geq, aExtract, finQ_ret, resOf, extU, extEU, kq_eq, thenQ_normal, thenQ_exit, thenQ_ret]
  · have c1' : ¬ 200 < l.length := by omega
    by_cases c2 : (300 : Int) < (d.length : Int)
    · have c2' : 300 < d.length := by omega
      simp [Wc_seq, Wc_block, Wc_scope, Wc_skip, Wc_label, Wc_exit, Wc_ret, Wc_loop, Wc_region, Wc_cond, Nx_nil, Nx_seq, Nx_seq_exit, Nx_seq_ret, Nx_block, Nx_block_exit, Nx_block_ret, Rg_nil, Rg_cons, RgE, effA, calleeA, wantedA, enterN, ev, ofV, ofVn, putE, evalN, aBin, aInt_add, aInt_sub, aInt_mul, aInt_quo, aInt_rem, aInt_eql, aInt_neq, aInt_lss, aInt_leq, aInt_gtr, aInt_geq, aExtract, finQ_ret, resOf, extU, extEU, kq_eq, thenQ_normal, thenQ_exit, thenQ_ret, aEq, kind25, kindEq1, aEq1, c1, c1', aLen, kind9, c2, c2']
      refine callK_RetH (by simp [fn15]) (speaks_ret W _) ?_
      simp [Wc_seq, Wc_block, Wc_scope, Wc_skip, Wc_label, Wc_exit, Wc_ret, Wc_loop, Wc_region, Wc_cond, Nx_nil, Nx_seq, Nx_seq_exit, Nx_seq_ret, Nx_block, Nx_block_exit, Nx_block_ret, Rg_nil, Rg_cons, RgE, effA, calleeA, wantedA, enterN, ev, ofV, ofVn, putE, evalN, aBin, aInt_add, aInt_sub, aInt_mul, aInt_quo, aInt_rem, aInt_eql, aInt_neq, aInt_lss, aInt_leq, aInt_gtr, aInt_geq, aExtract, finQ_ret, resOf, extU, extEU, kq_eq, thenQ_normal, thenQ_exit, thenQ_ret]
    · have c2' : ¬ 300 < d.length := by omega
      by_cases c3 : at_ < 0
      · simp [Wc_seq, Wc_block, Wc_scope, Wc_skip, Wc_label, Wc_exit, Wc_ret, Wc_loop, Wc_region, Wc_cond, Nx_nil, Nx_seq, Nx_seq_exit, Nx_seq_ret, Nx_block, Nx_block_exit, Nx_block_ret, Rg_nil, Rg_cons, RgE, effA, calleeA, wantedA, enterN, ev, ofV, ofVn, putE, evalN, aBin, aInt_add, aInt_sub, aInt_mul, aInt_quo, aInt_rem, aInt_eql, aInt_neq, aInt_lss, aInt_leq, aInt_gtr, aInt_geq, aExtract, finQ_ret, resOf, extU, extEU, kq_eq, thenQ_normal, thenQ_exit, thenQ_ret, aEq, kind25, kindEq1, aEq1, c1, c1', aLen, kind9, c2, c2', c3]
        refine callK_RetH (by simp [fn15]) (speaks_ret W _) ?_
        simp [Wc_seq, Wc_block, Wc_scope, Wc_skip, Wc_label, Wc_exit, Wc_ret, Wc_loop, Wc_region, Wc_cond, Nx_nil, Nx_seq, Nx_seq_exit, Nx_seq_ret, Nx_block, Nx_block_exit, Nx_block_ret, Rg_nil, Rg_cons, RgE, effA, calleeA, wantedA, enterN, ev, ofV, ofVn, putE, evalN, aBin, aInt_add, aInt_sub, aInt_mul, aInt_quo, aInt_rem, aInt_eql, aInt_neq, aInt_lss, aInt_leq, aInt_gtr, aInt_geq, aExtract, finQ_ret, resOf, extU, extEU, kq_eq, thenQ_normal, thenQ_exit, thenQ_ret]
      · by_cases c4 : 2000 < at_
        · simp [Wc_seq, Wc_block, Wc_scope, Wc_skip, Wc_label, Wc_exit, Wc_ret, Wc_loop, Wc_region, Wc_cond, Nx_nil, Nx_seq, Nx_seq_exit, Nx_seq_ret, Nx_block, Nx_block_exit, Nx_block_ret, Rg_nil, Rg_cons, RgE, effA, calleeA, wantedA, enterN, ev, ofV, ofVn, putE, evalN, aBin, aInt_add, aInt_sub, aInt_mul, aInt_quo, aInt_rem, aInt_eql, aInt_neq, aInt_lss, aInt_leq, aInt_gtr, aInt_geq, aExtract, finQ_ret, resOf, extU, extEU, kq_eq, thenQ_normal, thenQ_exit, thenQ_ret, aEq, kind25, kindEq1, aEq1, c1, c1', aLen, kind9, c2, c2', c3, c4]
          refine callK_RetH (by simp [fn15]) (speaks_ret W _) ?_
          simp [Wc_seq, Wc_block, Wc_scope, Wc_skip, Wc_label, Wc_exit, Wc_ret, Wc_loop, Wc_region, Wc_cond, Nx_nil, Nx_seq, Nx_seq_exit, Nx_seq_ret, Nx_block, Nx_block_exit, Nx_block_ret, Rg_nil, Rg_cons, RgE, effA, calleeA, wantedA, enterN, ev, ofV, ofVn, putE, evalN, aBin, aInt_add, aInt_sub, aInt_mul, aInt_quo, aInt_rem, aInt_eql, aInt_neq, aInt_lss, aInt_leq, aInt_gtr, aInt_geq, aExtract, finQ_ret, resOf, extU, extEU, kq_eq, thenQ_normal, thenQ_exit, thenQ_ret]
        · simp [Wc_seq, Wc_block, Wc_scope, Wc_skip, Wc_label, Wc_exit, Wc_ret, Wc_loop, Wc_region, Wc_cond, Nx_nil, Nx_seq, Nx_seq_exit, Nx_seq_ret, Nx_block, Nx_block_exit, Nx_block_ret, Rg_nil, Rg_cons, RgE, effA, calleeA, wantedA, enterN, ev, ofV, ofVn, putE, evalN, aBin, aInt_add, aInt_sub, aInt_mul, aInt_quo, aInt_rem, aInt_eql, aInt_neq, aInt_lss, aInt_leq, aInt_gtr, aInt_geq, aExtract, finQ_ret, resOf, extU, extEU, kq_eq, thenQ_normal, thenQ_exit, thenQ_ret, aEq, kind25, kindEq1, aEq1, c1, c1', aLen, kind9, c2, c2', c3, c4, hlen, kind24]
          obtain ⟨A, rfl⟩ := Int.eq_ofNat_of_zero_le (show 0 ≤ at_ by omega)
          refine loopN (cc_ok W) (DoI h2 (.sl va l.length vc none) A d R.km l) l.length ⟨by simp, 0, R, M0, by simp, hm, hfine, rfl, by simp⟩ ?_
          clear hm hfine
          generalize R.km = km at *
          rintro m e' h' ⟨hlen', i, R, M, him, hm, hfine, rfl, hh⟩
          obtain ⟨a0, a1, a2, a3, a4, a5, a6, a7, a8, a9, rS0, rfl, hS0⟩ := un10 hlen'
          obtain ⟨a10, a11, a12, a13, a14, a15, a16, a17, a18, a19, rS10, rfl, hS10⟩ := un10 hS0
          obtain ⟨a20, a21, a22, a23, a24, a25, a26, a27, a28, a29, rS20, rfl, hS20⟩ := un10 hS10
          obtain ⟨a30, a31, a32, a33, a34, a35, a36, a37, a38, a39, rS30, rfl, hS30⟩ := un10 hS20
          obtain ⟨a40, a41, a42, a43, a44, a45, a46, a47, a48, a49, rS40, rfl, hS40⟩ := un10 hS30
          obtain ⟨a50, a51, a52, a53, a54, a55, a56, a57, a58, a59, rS50, rfl, hS50⟩ := un10 hS40
          obtain ⟨a60, a61, a62, a63, a64, a65, a66, a67, a68, a69, rS60, rfl, hS60⟩ := un10 hS50
          obtain ⟨a70, a71, a72, a73, a74, a75, a76, a77, a78, a79, rS70, rfl, hS70⟩ := un10 hS60
          obtain ⟨a80, a81, a82, a83, a84, a85, a86, a87, a88, a89, rS80, rfl, hS80⟩ := un10 hS70
          obtain ⟨a90, a91, a92, a93, a94, a95, a96, a97, a98, a99, rS90, rfl, hS90⟩ := un10 hS80
          obtain ⟨a100, a101, a102, a103, a104, a105, a106, a107, a108, a109, rS100, rfl, hS100⟩ := un10 hS90
          obtain ⟨a110, a111, a112, a113, a114, a115, a116, a117, a118, a119, rS110, rfl, hS110⟩ := un10 hS100
          obtain ⟨a120, a121, a122, a123, a124, a125, a126, a127, a128, a129, rS120, rfl, hS120⟩ := un10 hS110
          obtain ⟨a130, a131, a132, a133, a134, a135, a136, a137, a138, a139, rS130, rfl, hS130⟩ := un10 hS120
          obtain ⟨a140, a141, a142, a143, a144, a145, a146, a147, a148, a149, rS140, rfl, hS140⟩ := un10 hS130
          obtain ⟨a150, a151, a152, a153, a154, a155, a156, a157, a158, a159, rS150, rfl, hS150⟩ := un10 hS140
          obtain ⟨a160, a161, a162, a163, a164, a165, a166, a167, a168, a169, rS160, rfl, hS160⟩ := un10 hS150
          obtain ⟨a170, a171, a172, a173, a174, a175, a176, a177, a178, a179, rS170, rfl, hS170⟩ := un10 hS160
          obtain ⟨a180, a181, a182, a183, a184, a185, a186, a187, a188, a189, rS180, rfl, hS180⟩ := un10 hS170
          obtain ⟨a190, rS190, rfl, hS190⟩ := un1 hS180
          obtain ⟨a191, rS191, rfl, hS191⟩ := un1 hS190
          obtain ⟨a192, rS192, rfl, hS192⟩ := un1 hS191
          obtain ⟨a193, rS193, rfl, hS193⟩ := un1 hS192
          obtain ⟨a194, rS194, rfl, hS194⟩ := un1 hS193
          obtain rfl := un0 hS194
          clear hlen' hS0 hS10 hS20 hS30 hS40 hS50 hS60 hS70 hS80 hS90 hS100 hS110 hS120 hS130 hS140 hS150 hS160 hS170 hS180 hS190 hS191 hS192 hS193 hS194
          · simp at hh
            obtain ⟨rfl, rfl, rfl, rfl, rfl, rfl, rfl⟩ := hh
            have hi200 : i < 1000000 := by omega
            by_cases hlt : i < l.length
            · have hlt' : (i : Int) < (l.length : Int) := by omega
              have wi : IntKind.i64.wrap ((i : Int) + 1) = (i : Int) + 1 := wrap64 (by omega) (by omega)
              have hx : l[i]? = some l[i] := by simp [hlt]
              generalize l[i] = o at hx
              obtain ⟨hok, a', hix, hld⟩ := hops i o hx
              have hld' := hld h'
              simp only [Opn.cells] at hld'
              have hst := st_op (W := W) (o := o) (h := h'.push (.cells [.int .i64 0, .int .i64 0, .int .i64 0, .str [], .str [], .str []] 35)) (k := h'.next) (a := .int .i64 0) (b := .int .i64 0) (c := .int .i64 0) (d := .str []) (e := .str []) (f := .str []) (by simp)
              have hK : Keeps h' ((h'.push (.cells [.int .i64 0, .int .i64 0, .int .i64 0, .str [], .str [], .str []] 35)).set h'.next (.cells o.cells 35)) := (Keeps.push _ _).set (Nat.le_refl _) _
              have hld2 := ld_op (W := W) (h := (h'.push (.cells [.int .i64 0, .int .i64 0, .int .i64 0, .str [], .str [], .str []] 35)).set h'.next (.cells o.cells 35)) (k := h'.next) (a := .int .i64 o.kd) (b := .int .i64 o.at_) (c := .int .i64 o.n) (d := .str o.p) (e := .str o.t) (f := .str o.d) (by simp [Opn.cells])
              generalize (h'.push (.cells [.int .i64 0, .int .i64 0, .int .i64 0, .str [], .str [], .str []] 35)).set h'.next (.cells o.cells 35) = h3 at hst hK hld2
              have hm3 := hm.keeps hK
              simp [Wc_seq, Wc_block, Wc_scope, Wc_skip, Wc_label, Wc_exit, Wc_ret, Wc_loop, Wc_region, Wc_cond, Nx_nil, Nx_seq, Nx_seq_exit, Nx_seq_ret, Nx_block, Nx_block_exit, Nx_block_ret, Rg_nil, Rg_cons, RgE, effA, calleeA, wantedA, enterN, ev, ofV, ofVn, putE, evalN, aBin, aInt_add, aInt_sub, aInt_mul, aInt_quo, aInt_rem, aInt_eql, aInt_neq, aInt_lss, aInt_leq, aInt_gtr, aInt_geq, aExtract, finQ_ret, resOf, extU, extEU, kq_eq, thenQ_normal, thenQ_exit, thenQ_ret, hlt, hlt', hix, hld', alloc_op, hst, hld2]
              have hdo := do_all W h3 R M hm3 i hfine hi200 o hok.p hok.t hok.a hok.a'
              simp only [opV] at hdo
              refine callK_ret (by simp [fn17]) hdo fun w h4 ⟨R4, hres, hm4, hB4⟩ => ?_
              have hf4 := do_fine hfine hi200 o
              simp [Wc_seq, Wc_block, Wc_scope, Wc_skip, Wc_label, Wc_exit, Wc_ret, Wc_loop, Wc_region, Wc_cond, Nx_nil, Nx_seq, Nx_seq_exit, Nx_seq_ret, Nx_block, Nx_block_exit, Nx_block_ret, Rg_nil, Rg_cons, RgE, effA, calleeA, wantedA, enterN, ev, ofV, ofVn, putE, evalN, aBin, aInt_add, aInt_sub, aInt_mul, aInt_quo, aInt_rem, aInt_eql, aInt_neq, aInt_lss, aInt_leq, aInt_gtr, aInt_geq, aExtract, finQ_ret, resOf, extU, extEU, kq_eq, thenQ_normal, thenQ_exit, thenQ_ret, wi]
              exact ⟨m - 1, by omega, by simp, i + 1, R4, _, by omega, hm4, hf4, hB4.hds.1, by simp⟩
            · have hlt' : ¬ (i : Int) < (l.length : Int) := by omega
              have ho1 : OpnOk ⟨5, 0, 1024, pA, [], []⟩ := ⟨by decide, by decide, by decide, by decide⟩
              have hdo1 := do_all W h' R M hm i hfine hi200 ⟨5, 0, 1024, pA, [], []⟩ ho1.p ho1.t ho1.a ho1.a'
              rw [do_read] at hdo1
              simp only [opV, pA] at hdo1
              simp [Wc_seq, Wc_block, Wc_scope, Wc_skip, Wc_label, Wc_exit, Wc_ret, Wc_loop, Wc_region, Wc_cond, Nx_nil, Nx_seq, Nx_seq_exit, Nx_seq_ret, Nx_block, Nx_block_exit, Nx_block_ret, Rg_nil, Rg_cons, RgE, effA, calleeA, wantedA, enterN, ev, ofV, ofVn, putE, evalN, aBin, aInt_add, aInt_sub, aInt_mul, aInt_quo, aInt_rem, aInt_eql, aInt_neq, aInt_lss, aInt_leq, aInt_gtr, aInt_geq, aExtract, finQ_ret, resOf, extU, extEU, kq_eq, thenQ_normal, thenQ_exit, thenQ_ret, hlt, hlt', build_opR]
              refine callK_ret (by simp [fn17]) hdo1 fun w h3 ⟨R3, hres, hm3, hB3⟩ => ?_
              obtain ⟨nv1, rfl, hnm1⟩ := hres
              obtain ⟨x1, x2, x3, x4, rfl⟩ := hnm1.isSl
              obtain ⟨ma, mb, mc, md⟩ := bx_all (r := readR M 0 1024 [[97]]) (nv := .sl x1 x2 x3 x4) hm3
              have g1 := bx_get (h := h3) (r := readR M 0 1024 [[97]]) (nv := .sl x1 x2 x3 x4)
              have st1 := st_bx (W := W) (h := h3) (r := readR M 0 1024 [[97]]) (p := x1) (n := x2) (q := x3) (g := x4)
              have km3 := hB3.hds.1
              generalize bxH h3 (readR M 0 1024 [[97]]) (.sl x1 x2 x3 x4) = h4 at ma mb mc md g1 st1
              have hal1 := alloc_res (W := W) (h := h3)
              generalize h3.push (.cells res0 39) = h3p at hal1 st1
              generalize h3.next = k1 at md mc g1 hal1 st1
              have ho2 : OpnOk ⟨3, A, 0, pA, [], d⟩ := ⟨by show pA.length < _; decide, by show ([] : List UInt8).length < _; decide, by show (A : Int) < _; omega, by show _ ≤ (A : Int); omega⟩
              have hdo2 := do_all W h4 R3 M ma i hfine hi200 ⟨3, A, 0, pA, [], d⟩ ho2.p ho2.t ho2.a ho2.a'
              have hfine2 := do_fine hfine hi200 ⟨3, A, 0, pA, [], d⟩
              rw [do_write] at hdo2 hfine2
              simp only [opV, pA, errM, km3] at hdo2 hfine2
              simp [Wc_seq, Wc_block, Wc_scope, Wc_skip, Wc_label, Wc_exit, Wc_ret, Wc_loop, Wc_region, Wc_cond, Nx_nil, Nx_seq, Nx_seq_exit, Nx_seq_ret, Nx_block, Nx_block_exit, Nx_block_ret, Rg_nil, Rg_cons, RgE, effA, calleeA, wantedA, enterN, ev, ofV, ofVn, putE, evalN, aBin, aInt_add, aInt_sub, aInt_mul, aInt_quo, aInt_rem, aInt_eql, aInt_neq, aInt_lss, aInt_leq, aInt_gtr, aInt_geq, aExtract, finQ_ret, resOf, extU, extEU, kq_eq, thenQ_normal, thenQ_exit, thenQ_ret, hal1, st1, build_opW]
              refine callK_ret (by simp [fn17]) hdo2 fun w h5 ⟨R5, hres, hm5, hB5⟩ => ?_
              obtain ⟨nv2, rfl, hnm2⟩ := hres
              obtain ⟨y1, y2, y3, y4, rfl⟩ := hnm2.isSl
              obtain ⟨g1, mc, md⟩ := hB5.box g1 mc md
              generalize hM2 : (writeR M A d [[97]]).2 = M2 at hm5 hfine2
              generalize he2 : (writeR M A d [[97]]).1 = e2
              obtain ⟨na, nb, nc, nd'⟩ := bx_all (r := Res.err e2) (nv := .sl y1 y2 y3 y4) hm5
              have g2 := bx_get (h := h5) (r := Res.err e2) (nv := .sl y1 y2 y3 y4)
              have st2 := st_bx (W := W) (h := h5) (r := Res.err e2) (p := y1) (n := y2) (q := y3) (g := y4)
              obtain ⟨g1, mc, md⟩ := nb.box g1 mc md
              have km5 := hB5.hds.1.trans km3
              generalize bxH h5 (Res.err e2) (.sl y1 y2 y3 y4) = h6 at na nb nc nd' g2 st2 g1 mc
              have hal2 := alloc_res (W := W) (h := h5)
              generalize h5.push (.cells res0 39) = h5p at hal2 st2
              generalize h5.next = k2 at nd' nc g2 hal2 st2
              have hdo3 := do_all W h6 R5 M2 na (i + 1) hfine2 (by omega) ⟨5, 0, 1024, pA, [], []⟩ ho1.p ho1.t ho1.a ho1.a'
              rw [do_read] at hdo3
              simp only [opV, pA, km5] at hdo3
              simp [Wc_seq, Wc_block, Wc_scope, Wc_skip, Wc_label, Wc_exit, Wc_ret, Wc_loop, Wc_region, Wc_cond, Nx_nil, Nx_seq, Nx_seq_exit, Nx_seq_ret, Nx_block, Nx_block_exit, Nx_block_ret, Rg_nil, Rg_cons, RgE, effA, calleeA, wantedA, enterN, ev, ofV, ofVn, putE, evalN, aBin, aInt_add, aInt_sub, aInt_mul, aInt_quo, aInt_rem, aInt_eql, aInt_neq, aInt_lss, aInt_leq, aInt_gtr, aInt_geq, aExtract, finQ_ret, resOf, extU, extEU, kq_eq, thenQ_normal, thenQ_exit, thenQ_ret, hal2, st2, build_opR]
              refine callK_ret (by simp [fn17]) hdo3 fun w h7 ⟨R7, hres, hm7, hB7⟩ => ?_
              obtain ⟨nv3, rfl, hnm3⟩ := hres
              obtain ⟨z1, z2, z3, z4, rfl⟩ := hnm3.isSl
              obtain ⟨g1, mc, md⟩ := hB7.box g1 mc md
              obtain ⟨g2, nc, nd'⟩ := hB7.box g2 nc nd'
              obtain ⟨pa, pb, pc, pd⟩ := bx_all (r := readR M2 0 1024 [[97]]) (nv := .sl z1 z2 z3 z4) hm7
              have g3 := bx_get (h := h7) (r := readR M2 0 1024 [[97]]) (nv := .sl z1 z2 z3 z4)
              have st3 := st_bx (W := W) (h := h7) (r := readR M2 0 1024 [[97]]) (p := z1) (n := z2) (q := z3) (g := z4)
              obtain ⟨g1, mc, md⟩ := pb.box g1 mc md
              obtain ⟨g2, nc, nd'⟩ := pb.box g2 nc nd'
              have km7 := hB7.hds.1.trans km5
              generalize bxH h7 (readR M2 0 1024 [[97]]) (.sl z1 z2 z3 z4) = h8 at pa pb pc pd g3 st3 g1 mc g2 nc
              have hal3 := alloc_res (W := W) (h := h7)
              generalize h7.push (.cells res0 39) = h7p at hal3 st3
              generalize h7.next = k3 at pd pc g3 hal3 st3
              have ho4 : OpnOk ⟨5, A, d.length, pA, [], []⟩ := ⟨by show pA.length < _; decide, by show ([] : List UInt8).length < _; decide, by show (A : Int) < _; omega, by show _ ≤ (A : Int); omega⟩
              have hdo4 := do_all W h8 R7 M2 pa (i + 1) hfine2 (by omega) ⟨5, A, d.length, pA, [], []⟩ ho4.p ho4.t ho4.a ho4.a'
              rw [do_read] at hdo4
              simp only [opV, pA, km7] at hdo4
              simp [Wc_seq, Wc_block, Wc_scope, Wc_skip, Wc_label, Wc_exit, Wc_ret, Wc_loop, Wc_region, Wc_cond, Nx_nil, Nx_seq, Nx_seq_exit, Nx_seq_ret, Nx_block, Nx_block_exit, Nx_block_ret, Rg_nil, Rg_cons, RgE, effA, calleeA, wantedA, enterN, ev, ofV, ofVn, putE, evalN, aBin, aInt_add, aInt_sub, aInt_mul, aInt_quo, aInt_rem, aInt_eql, aInt_neq, aInt_lss, aInt_leq, aInt_gtr, aInt_geq, aExtract, finQ_ret, resOf, extU, extEU, kq_eq, thenQ_normal, thenQ_exit, thenQ_ret, hal3, st3, build_opRA, aLen, kind9]
              refine callK_ret (by simp [fn17]) hdo4 fun w h9 ⟨R9, hres, hm9, hB9⟩ => ?_
              obtain ⟨nv4, rfl, hnm4⟩ := hres
              obtain ⟨u1, u2, u3, u4, rfl⟩ := hnm4.isSl
              obtain ⟨g1, mc, md⟩ := hB9.box g1 mc md
              obtain ⟨g2, nc, nd'⟩ := hB9.box g2 nc nd'
              obtain ⟨g3, pc, pd⟩ := hB9.box g3 pc pd
              obtain ⟨qa, qb, qc, qd⟩ := bx_all (r := readR M2 A d.length [[97]]) (nv := .sl u1 u2 u3 u4) hm9
              have g4 := bx_get (h := h9) (r := readR M2 A d.length [[97]]) (nv := .sl u1 u2 u3 u4)
              have st4 := st_bx (W := W) (h := h9) (r := readR M2 A d.length [[97]]) (p := u1) (n := u2) (q := u3) (g := u4)
              obtain ⟨g1, mc, md⟩ := qb.box g1 mc md
              obtain ⟨g2, nc, nd'⟩ := qb.box g2 nc nd'
              obtain ⟨g3, pc, pd⟩ := qb.box g3 pc pd
              have km9 := hB9.hds.1.trans km7
              generalize bxH h9 (readR M2 A d.length [[97]]) (.sl u1 u2 u3 u4) = h10 at qa qb qc qd g4 st4 g1 mc g2 nc g3 pc
              have hal4 := alloc_res (W := W) (h := h9)
              generalize h9.push (.cells res0 39) = h9p at hal4 st4
              generalize h9.next = k4 at qd qc g4 hal4 st4
              by_cases he0 : e2 = 0
              · subst he0
                obtain ⟨fi, fn1, fb, fn2, fb2, f1, f2, hs1, hs2, hs3, hby⟩ := write_well (a := A) hfine hi200 (l := [[97]]) (by simp) (by omega) he2
                rw [hM2] at f2
                have r1 : readR M 0 1024 [[97]] = ⟨0, bytesAt (some fb) 0 (min 1024 (fn1.size.toNat - 0)), 0, 0, 0, []⟩ := f1.read (a := 0) (n := 1024) (by omega)
                have r3 : readR M2 0 1024 [[97]] = ⟨0, bytesAt (some fb2) 0 (min 1024 (fn2.size.toNat - 0)), 0, 0, 0, []⟩ := f2.read (a := 0) (n := 1024) (by omega)
                have r4 := f2.read (a := A) (n := d.length) (by omega)
                have hbk := back_plain (nd2 := fn2) (b2 := fb2) (by
                  by_cases h0 : d = []
                  · exact .inr h0
                  · left; have := hs1 h0; omega) hby
                rw [hbk] at r4
                have hchk := writes_plain (A := A) (d := d) (nd2 := fn2) f1.zero hby
                generalize hD1 : bytesAt (some fb) 0 (min 1024 (fn1.size.toNat - 0)) = D1 at r1 hchk
                generalize hD3 : bytesAt (some fb2) 0 (min 1024 (fn2.size.toNat - 0)) = D3 at r3 hchk
                rw [r1] at g1
                rw [r3] at g3
                rw [r4] at g4
                simp [Wc_seq, Wc_block, Wc_scope, Wc_skip, Wc_label, Wc_exit, Wc_ret, Wc_loop, Wc_region, Wc_cond, Nx_nil, Nx_seq, Nx_seq_exit, Nx_seq_ret, Nx_block, Nx_block_exit, Nx_block_ret, Rg_nil, Rg_cons, RgE, effA, calleeA, wantedA, enterN, ev, ofV, ofVn, putE, evalN, aBin, aInt_add, aInt_sub, aInt_mul, aInt_quo, aInt_rem, aInt_eql, aInt_neq, aInt_lss, aInt_leq, aInt_gtr, aInt_geq, aExtract, finQ_ret, resOf, extU, extEU, kq_eq, thenQ_normal, thenQ_exit, thenQ_ret, hal4, st4, fa39_0, fa39_1, ld26, ld9, cell_bx g1, cell_bx g2, cell_bx g3, cell_bx g4, Res.err, aStr]
                refine loopN (cc_ok W) (ChkI h10 A d R.km k1 k3 D3.length) D3.length ⟨rfl, by simp, 0, by simp, by simp⟩ ?_
                rintro m2 e' h' ⟨hh10, hlen', k, hkm, hh⟩
                subst hh10
                obtain ⟨a0, a1, a2, a3, a4, a5, a6, a7, a8, a9, rS0, rfl, hS0⟩ := un10 hlen'
                obtain ⟨a10, a11, a12, a13, a14, a15, a16, a17, a18, a19, rS10, rfl, hS10⟩ := un10 hS0
                obtain ⟨a20, a21, a22, a23, a24, a25, a26, a27, a28, a29, rS20, rfl, hS20⟩ := un10 hS10
                obtain ⟨a30, a31, a32, a33, a34, a35, a36, a37, a38, a39, rS30, rfl, hS30⟩ := un10 hS20
                obtain ⟨a40, a41, a42, a43, a44, a45, a46, a47, a48, a49, rS40, rfl, hS40⟩ := un10 hS30
                obtain ⟨a50, a51, a52, a53, a54, a55, a56, a57, a58, a59, rS50, rfl, hS50⟩ := un10 hS40
                obtain ⟨a60, a61, a62, a63, a64, a65, a66, a67, a68, a69, rS60, rfl, hS60⟩ := un10 hS50
                obtain ⟨a70, a71, a72, a73, a74, a75, a76, a77, a78, a79, rS70, rfl, hS70⟩ := un10 hS60
                obtain ⟨a80, a81, a82, a83, a84, a85, a86, a87, a88, a89, rS80, rfl, hS80⟩ := un10 hS70
                obtain ⟨a90, a91, a92, a93, a94, a95, a96, a97, a98, a99, rS90, rfl, hS90⟩ := un10 hS80
                obtain ⟨a100, a101, a102, a103, a104, a105, a106, a107, a108, a109, rS100, rfl, hS100⟩ := un10 hS90
                obtain ⟨a110, a111, a112, a113, a114, a115, a116, a117, a118, a119, rS110, rfl, hS110⟩ := un10 hS100
                obtain ⟨a120, a121, a122, a123, a124, a125, a126, a127, a128, a129, rS120, rfl, hS120⟩ := un10 hS110
                obtain ⟨a130, a131, a132, a133, a134, a135, a136, a137, a138, a139, rS130, rfl, hS130⟩ := un10 hS120
                obtain ⟨a140, a141, a142, a143, a144, a145, a146, a147, a148, a149, rS140, rfl, hS140⟩ := un10 hS130
                obtain ⟨a150, a151, a152, a153, a154, a155, a156, a157, a158, a159, rS150, rfl, hS150⟩ := un10 hS140
                obtain ⟨a160, a161, a162, a163, a164, a165, a166, a167, a168, a169, rS160, rfl, hS160⟩ := un10 hS150
                obtain ⟨a170, a171, a172, a173, a174, a175, a176, a177, a178, a179, rS170, rfl, hS170⟩ := un10 hS160
                obtain ⟨a180, a181, a182, a183, a184, a185, a186, a187, a188, a189, rS180, rfl, hS180⟩ := un10 hS170
                obtain ⟨a190, rS190, rfl, hS190⟩ := un1 hS180
                obtain ⟨a191, rS191, rfl, hS191⟩ := un1 hS190
                obtain ⟨a192, rS192, rfl, hS192⟩ := un1 hS191
                obtain ⟨a193, rS193, rfl, hS193⟩ := un1 hS192
                obtain ⟨a194, rS194, rfl, hS194⟩ := un1 hS193
                obtain rfl := un0 hS194
                clear hlen' hS0 hS10 hS20 hS30 hS40 hS50 hS60 hS70 hS80 hS90 hS100 hS110 hS120 hS130 hS140 hS150 hS160 hS170 hS180 hS190 hS191 hS192 hS193 hS194
                simp at hh
                obtain ⟨rfl, rfl, rfl, rfl, rfl, rfl⟩ := hh
                by_cases hk : k < D3.length
                · have hD3l : D3.length ≤ 1024 := by rw [← hD3, bytesAt_len]; omega
                  have hk' : (k : Int) < (D3.length : Int) := by omega
                  have wk : IntKind.i64.wrap ((k : Int) + 1) = (k : Int) + 1 := wrap64 (by omega) (by omega)
                  obtain ⟨x, hx3, hin, hlo, hzz⟩ := hchk k hk
                  have ix3 := ReadIdx (W := W) hx3
                  by_cases hA : A ≤ k
                  · obtain ⟨q, hq⟩ : ∃ q : Nat, q = k - A := ⟨_, rfl⟩
                    have wq : IntKind.i64.wrap ((k : Int) - (A : Int)) = (q : Int) := by rw [wrap64 (by omega) (by omega)]; omega
                    have hA' : (A : Int) ≤ (k : Int) := by omega
                    rw [← hq] at hin hlo hzz
                    by_cases hd2 : q < d.length
                    · have hd2' : (q : Int) < (d.length : Int) := by omega
                      have ixd := ReadIdx (W := W) (hin hA hd2)
                      by_cases hb1 : k < D1.length
                      · have hb1' : (k : Int) < (D1.length : Int) := by omega
                        have hy : D1[k]? = some D1[k] := by simp [hb1]
                        have ix1 := ReadIdx (W := W) hy
                        simp [Wc_seq, Wc_block, Wc_scope, Wc_skip, Wc_label, Wc_exit, Wc_ret, Wc_loop, Wc_region, Wc_cond, Nx_nil, Nx_seq, Nx_seq_exit, Nx_seq_ret, Nx_block, Nx_block_exit, Nx_block_ret, Rg_nil, Rg_cons, RgE, effA, calleeA, wantedA, enterN, ev, ofV, ofVn, putE, evalN, aBin, aInt_add, aInt_sub, aInt_mul, aInt_quo, aInt_rem, aInt_eql, aInt_neq, aInt_lss, aInt_leq, aInt_gtr, aInt_geq, aExtract, finQ_ret, resOf, extU, extEU, kq_eq, thenQ_normal, thenQ_exit, thenQ_ret, hk, hk', hb1, hb1', hA, hA', hd2, hd2', wq, wk, ix1, ix3, ixd, fa39_1, ld9, cell_bx g1, cell_bx g3, aLen, kind9]
                        exact ⟨m2 - 1, by omega, rfl, by simp, k + 1, by omega, by simp⟩
                      · have hb1' : ¬ (k : Int) < (D1.length : Int) := by omega
                        simp [Wc_seq, Wc_block, Wc_scope, Wc_skip, Wc_label, Wc_exit, Wc_ret, Wc_loop, Wc_region, Wc_cond, Nx_nil, Nx_seq, Nx_seq_exit, Nx_seq_ret, Nx_block, Nx_block_exit, Nx_block_ret, Rg_nil, Rg_cons, RgE, effA, calleeA, wantedA, enterN, ev, ofV, ofVn, putE, evalN, aBin, aInt_add, aInt_sub, aInt_mul, aInt_quo, aInt_rem, aInt_eql, aInt_neq, aInt_lss, aInt_leq, aInt_gtr, aInt_geq, aExtract, finQ_ret, resOf, extU, extEU, kq_eq, thenQ_normal, thenQ_exit, thenQ_ret, hk, hk', hb1, hb1', hA, hA', hd2, hd2', wq, wk, ix3, ixd, fa39_1, ld9, cell_bx g1, cell_bx g3, aLen, kind9]
                        exact ⟨m2 - 1, by omega, rfl, by simp, k + 1, by omega, by simp⟩
                    · have hd2' : ¬ (q : Int) < (d.length : Int) := by omega
                      by_cases hb1 : k < D1.length
                      · have hb1' : (k : Int) < (D1.length : Int) := by omega
                        have ix1 := ReadIdx (W := W) (hlo (fun hc => hd2 hc.2) hb1)
                        simp [Wc_seq, Wc_block, Wc_scope, Wc_skip, Wc_label, Wc_exit, Wc_ret, Wc_loop, Wc_region, Wc_cond, Nx_nil, Nx_seq, Nx_seq_exit, Nx_seq_ret, Nx_block, Nx_block_exit, Nx_block_ret, Rg_nil, Rg_cons, RgE, effA, calleeA, wantedA, enterN, ev, ofV, ofVn, putE, evalN, aBin, aInt_add, aInt_sub, aInt_mul, aInt_quo, aInt_rem, aInt_eql, aInt_neq, aInt_lss, aInt_leq, aInt_gtr, aInt_geq, aExtract, finQ_ret, resOf, extU, extEU, kq_eq, thenQ_normal, thenQ_exit, thenQ_ret, hk, hk', hb1, hb1', hA, hA', hd2, hd2', wq, wk, ix1, ix3, fa39_1, ld9, cell_bx g1, cell_bx g3, aLen, kind9]
                        exact ⟨m2 - 1, by omega, rfl, by simp, k + 1, by omega, by simp⟩
                      · have hb1' : ¬ (k : Int) < (D1.length : Int) := by omega
                        have hx0 := hzz (fun hc => hd2 hc.2) hb1
                        subst hx0
                        simp [Wc_seq, Wc_block, Wc_scope, Wc_skip, Wc_label, Wc_exit, Wc_ret, Wc_loop, Wc_region, Wc_cond, Nx_nil, Nx_seq, Nx_seq_exit, Nx_seq_ret, Nx_block, Nx_block_exit, Nx_block_ret, Rg_nil, Rg_cons, RgE, effA, calleeA, wantedA, enterN, ev, ofV, ofVn, putE, evalN, aBin, aInt_add, aInt_sub, aInt_mul, aInt_quo, aInt_rem, aInt_eql, aInt_neq, aInt_lss, aInt_leq, aInt_gtr, aInt_geq, aExtract, finQ_ret, resOf, extU, extEU, kq_eq, thenQ_normal, thenQ_exit, thenQ_ret, hk, hk', hb1, hb1', hA, hA', hd2, hd2', wq, wk, ix3, fa39_1, ld9, cell_bx g1, cell_bx g3, aLen, kind9]
                        exact ⟨m2 - 1, by omega, rfl, by simp, k + 1, by omega, by simp⟩
                  · have hA' : ¬ (A : Int) ≤ (k : Int) := by omega
                    by_cases hb1 : k < D1.length
                    · have hb1' : (k : Int) < (D1.length : Int) := by omega
                      have ix1 := ReadIdx (W := W) (hlo (fun hc => hA hc.1) hb1)
                      simp [Wc_seq, Wc_block, Wc_scope, Wc_skip, Wc_label, Wc_exit, Wc_ret, Wc_loop, Wc_region, Wc_cond, Nx_nil, Nx_seq, Nx_seq_exit, Nx_seq_ret, Nx_block, Nx_block_exit, Nx_block_ret, Rg_nil, Rg_cons, RgE, effA, calleeA, wantedA, enterN, ev, ofV, ofVn, putE, evalN, aBin, aInt_add, aInt_sub, aInt_mul, aInt_quo, aInt_rem, aInt_eql, aInt_neq, aInt_lss, aInt_leq, aInt_gtr, aInt_geq, aExtract, finQ_ret, resOf, extU, extEU, kq_eq, thenQ_normal, thenQ_exit, thenQ_ret, hk, hk', hb1, hb1', hA, hA', wk, ix1, ix3, fa39_1, ld9, cell_bx g1, cell_bx g3, aLen, kind9]
                      exact ⟨m2 - 1, by omega, rfl, by simp, k + 1, by omega, by simp⟩
                    · have hb1' : ¬ (k : Int) < (D1.length : Int) := by omega
                      have hx0 := hzz (fun hc => hA hc.1) hb1
                      subst hx0
                      simp [Wc_seq, Wc_block, Wc_scope, Wc_skip, Wc_label, Wc_exit, Wc_ret, Wc_loop, Wc_region, Wc_cond, Nx_nil, Nx_seq, Nx_seq_exit, Nx_seq_ret, Nx_block, Nx_block_exit, Nx_block_ret, Rg_nil, Rg_cons, RgE, effA, calleeA, wantedA, enterN, ev, ofV, ofVn, putE, evalN, aBin, aInt_add, aInt_sub, aInt_mul, aInt_quo, aInt_rem, aInt_eql, aInt_neq, aInt_lss, aInt_leq, aInt_gtr, aInt_geq, aExtract, finQ_ret, resOf, extU, extEU, kq_eq, thenQ_normal, thenQ_exit, thenQ_ret, hk, hk', hb1, hb1', hA, hA', wk, ix3, fa39_1, ld9, cell_bx g1, cell_bx g3, aLen, kind9]
                      exact ⟨m2 - 1, by omega, rfl, by simp, k + 1, by omega, by simp⟩
                · have hk' : ¬ (k : Int) < (D3.length : Int) := by omega
                  obtain ⟨t3, f3⟩ := f2.trunc (n := A) (by omega)
                  obtain ⟨B, hB⟩ : ∃ B : Nat, B = A + 300 := ⟨_, rfl⟩
                  have wB : IntKind.i64.wrap ((A : Int) + 300) = (B : Int) := by rw [wrap64 (by omega) (by omega)]; omega
                  obtain ⟨t4, f4⟩ := f3.trunc (n := B) (by omega)
                  have r7 := f4.read (a := A) (n := 300) (by omega)
                  have hz := zeros_plain (A := A) f2.ok
                  rw [← hB] at hz
                  have hmin : min 300 ((B : Int).toNat - A) = 300 := by omega
                  simp only [hmin, hz] at r7
                  have ho5 : OpnOk ⟨4, 0, A, pA, [], []⟩ := ⟨by show pA.length < _; decide, by show ([] : List UInt8).length < _; decide, by show (0 : Int) < _; omega, by show _ ≤ (0 : Int); omega⟩
                  have hdo5 := do_all W h' R9 M2 qa (i + 1) hfine2 (by omega) ⟨4, 0, A, pA, [], []⟩ ho5.p ho5.t ho5.a ho5.a'
                  have hfine3 := do_fine hfine2 (by omega) ⟨4, 0, A, pA, [], []⟩
                  rw [do_trunc, t3] at hdo5 hfine3
                  simp only [opV, pA, errM, km9] at hdo5 hfine3
                  simp [Wc_seq, Wc_block, Wc_scope, Wc_skip, Wc_label, Wc_exit, Wc_ret, Wc_loop, Wc_region, Wc_cond, Nx_nil, Nx_seq, Nx_seq_exit, Nx_seq_ret, Nx_block, Nx_block_exit, Nx_block_ret, Rg_nil, Rg_cons, RgE, effA, calleeA, wantedA, enterN, ev, ofV, ofVn, putE, evalN, aBin, aInt_add, aInt_sub, aInt_mul, aInt_quo, aInt_rem, aInt_eql, aInt_neq, aInt_lss, aInt_leq, aInt_gtr, aInt_geq, aExtract, finQ_ret, resOf, extU, extEU, kq_eq, thenQ_normal, thenQ_exit, thenQ_ret, hk, hk', fa39_1, ld9, cell_bx g3, aLen, kind9, build_opT]
                  refine callK_ret (by simp [fn17]) hdo5 fun w h11 ⟨R11, hres, hm11, hB11⟩ => ?_
                  obtain ⟨nv5, rfl, hnm5⟩ := hres
                  obtain ⟨v1, v2, v3, v4, rfl⟩ := hnm5.isSl
                  obtain ⟨ra, rb, rc, rd⟩ := bx_all (r := Res.err 0) (nv := .sl v1 v2 v3 v4) hm11
                  have g5 := bx_get (h := h11) (r := Res.err 0) (nv := .sl v1 v2 v3 v4)
                  have st5 := st_bx (W := W) (h := h11) (r := Res.err 0) (p := v1) (n := v2) (q := v3) (g := v4)
                  have km11 := hB11.hds.1.trans km9
                  generalize bxH h11 (Res.err 0) (.sl v1 v2 v3 v4) = h12 at ra rb rc rd g5 st5
                  have hal5 := alloc_res (W := W) (h := h11)
                  generalize h11.push (.cells res0 39) = h11p at hal5 st5
                  generalize h11.next = k5 at rd rc g5 hal5 st5
                  generalize hM3 : M2.set fi { fn2 with size := (A : Int), blocks := some (trB A fb2) } = M3 at *
                  have ho6 : OpnOk ⟨4, 0, B, pA, [], []⟩ := ⟨by show pA.length < _; decide, by show ([] : List UInt8).length < _; decide, by show (0 : Int) < _; omega, by show _ ≤ (0 : Int); omega⟩
                  have hdo6 := do_all W h12 R11 M3 ra (i + 1 + 1) hfine3 (by omega) ⟨4, 0, B, pA, [], []⟩ ho6.p ho6.t ho6.a ho6.a'
                  have hfine4 := do_fine hfine3 (by omega) ⟨4, 0, B, pA, [], []⟩
                  rw [do_trunc, t4] at hdo6 hfine4
                  simp only [opV, pA, errM, km11] at hdo6 hfine4
                  simp [Wc_seq, Wc_block, Wc_scope, Wc_skip, Wc_label, Wc_exit, Wc_ret, Wc_loop, Wc_region, Wc_cond, Nx_nil, Nx_seq, Nx_seq_exit, Nx_seq_ret, Nx_block, Nx_block_exit, Nx_block_ret, Rg_nil, Rg_cons, RgE, effA, calleeA, wantedA, enterN, ev, ofV, ofVn, putE, evalN, aBin, aInt_add, aInt_sub, aInt_mul, aInt_quo, aInt_rem, aInt_eql, aInt_neq, aInt_lss, aInt_leq, aInt_gtr, aInt_geq, aExtract, finQ_ret, resOf, extU, extEU, kq_eq, thenQ_normal, thenQ_exit, thenQ_ret, hal5, st5, build_opT, wB]
                  refine callK_ret (by simp [fn17]) hdo6 fun w h13 ⟨R13, hres, hm13, hB13⟩ => ?_
                  obtain ⟨nv6, rfl, hnm6⟩ := hres
                  obtain ⟨v1, v2, v3, v4, rfl⟩ := hnm6.isSl
                  obtain ⟨g5, rc, rd⟩ := hB13.box g5 rc rd
                  obtain ⟨sa, sb, sc, sd⟩ := bx_all (r := Res.err 0) (nv := .sl v1 v2 v3 v4) hm13
                  have g6 := bx_get (h := h13) (r := Res.err 0) (nv := .sl v1 v2 v3 v4)
                  have st6 := st_bx (W := W) (h := h13) (r := Res.err 0) (p := v1) (n := v2) (q := v3) (g := v4)
                  obtain ⟨g5, rc, rd⟩ := sb.box g5 rc rd
                  have km13 := hB13.hds.1.trans km11
                  generalize bxH h13 (Res.err 0) (.sl v1 v2 v3 v4) = h14 at sa sb sc sd g6 st6 g5 rc
                  have hal6 := alloc_res (W := W) (h := h13)
                  generalize h13.push (.cells res0 39) = h13p at hal6 st6
                  generalize h13.next = k6 at sd sc g6 hal6 st6
                  have ho7 : OpnOk ⟨5, A, 300, pA, [], []⟩ := ⟨by show pA.length < _; decide, by show ([] : List UInt8).length < _; decide, by show (A : Int) < _; omega, by show _ ≤ (A : Int); omega⟩
                  have hdo7 := do_all W h14 R13 _ sa (i + 1 + 1 + 1) hfine4 (by omega) ⟨5, A, 300, pA, [], []⟩ ho7.p ho7.t ho7.a ho7.a'
                  rw [do_read] at hdo7
                  have r7' : readR (M3.set fi { fn2 with size := (B : Int), blocks := some (trB B (trB A fb2)) }) A 300 [[97]] = ⟨0, z300, 0, 0, 0, []⟩ := r7
                  simp only [r7'] at hdo7
                  simp only [opV, pA, km13] at hdo7
                  simp [Wc_seq, Wc_block, Wc_scope, Wc_skip, Wc_label, Wc_exit, Wc_ret, Wc_loop, Wc_region, Wc_cond, Nx_nil, Nx_seq, Nx_seq_exit, Nx_seq_ret, Nx_block, Nx_block_exit, Nx_block_ret, Rg_nil, Rg_cons, RgE, effA, calleeA, wantedA, enterN, ev, ofV, ofVn, putE, evalN, aBin, aInt_add, aInt_sub, aInt_mul, aInt_quo, aInt_rem, aInt_eql, aInt_neq, aInt_lss, aInt_leq, aInt_gtr, aInt_geq, aExtract, finQ_ret, resOf, extU, extEU, kq_eq, thenQ_normal, thenQ_exit, thenQ_ret, hal6, st6, build_opRA]
                  refine callK_ret (by simp [fn17]) hdo7 fun w h15 ⟨R15, hres, hm15, hB15⟩ => ?_
                  obtain ⟨nv7, rfl, hnm7⟩ := hres
                  obtain ⟨v1, v2, v3, v4, rfl⟩ := hnm7.isSl
                  obtain ⟨g5, rc, rd⟩ := hB15.box g5 rc rd
                  obtain ⟨g6, sc, sd⟩ := hB15.box g6 sc sd
                  obtain ⟨ua, ub, uc, ud⟩ := bx_all (r := ⟨0, z300, 0, 0, 0, []⟩) (nv := .sl v1 v2 v3 v4) hm15
                  have g7 := bx_get (h := h15) (r := ⟨0, z300, 0, 0, 0, []⟩) (nv := .sl v1 v2 v3 v4)
                  have st7 := st_bx (W := W) (h := h15) (r := ⟨0, z300, 0, 0, 0, []⟩) (p := v1) (n := v2) (q := v3) (g := v4)
                  simp only at st7
                  obtain ⟨g5, rc, rd⟩ := ub.box g5 rc rd
                  obtain ⟨g6, sc, sd⟩ := ub.box g6 sc sd
                  generalize bxH h15 ⟨0, z300, 0, 0, 0, []⟩ (.sl v1 v2 v3 v4) = h16 at ua ub uc ud g7 st7 g5 rc g6 sc
                  have hal7 := alloc_res (W := W) (h := h15)
                  generalize h15.push (.cells res0 39) = h15p at hal7 st7
                  generalize h15.next = k7 at ud uc g7 hal7 st7
                  obtain ⟨g5P, _, _⟩ := (MStep.refl (R := R15) (Keeps.push h16 (.cells (bcells z300) 5))).box g5 rc rd
                  obtain ⟨g6P, _, _⟩ := (MStep.refl (R := R15) (Keeps.push h16 (.cells (bcells z300) 5))).box g6 sc sd
                  obtain ⟨g7P, _, _⟩ := (MStep.refl (R := R15) (Keeps.push h16 (.cells (bcells z300) 5))).box g7 uc ud
                  have hmk := mk_z300 (W := W) (h := h16)
                  have hcv := conv_z300 (W := W) (h := h16)
                  generalize h16.push (.cells (bcells z300) 5) = h17 at g7P g5P g6P hmk hcv
                  simp only [res6] at st7
                  simp [Wc_seq, Wc_block, Wc_scope, Wc_skip, Wc_label, Wc_exit, Wc_ret, Wc_loop, Wc_region, Wc_cond, Nx_nil, Nx_seq, Nx_seq_exit, Nx_seq_ret, Nx_block, Nx_block_exit, Nx_block_ret, Rg_nil, Rg_cons, RgE, effA, calleeA, wantedA, enterN, ev, ofV, ofVn, putE, evalN, aBin, aInt_add, aInt_sub, aInt_mul, aInt_quo, aInt_rem, aInt_eql, aInt_neq, aInt_lss, aInt_leq, aInt_gtr, aInt_geq, aExtract, finQ_ret, resOf, extU, extEU, kq_eq, thenQ_normal, thenQ_exit, thenQ_ret, hal7, st7, res6]
                  refine drawS [0, 1, 2, 3, 4, 5, 6, 7, 8, 9, 10, 11, 12, 13, 14, 15, 16, 17, 18, 19, 20, 21, 22, 23] (by kernel_rfl) (by kernel_rfl) ?_
                  simp [Wc_seq, Wc_block, Wc_scope, Wc_skip, Wc_label, Wc_exit, Wc_ret, Wc_loop, Wc_region, Wc_cond, Nx_nil, Nx_seq, Nx_seq_exit, Nx_seq_ret, Nx_block, Nx_block_exit, Nx_block_ret, Rg_nil, Rg_cons, RgE, effA, calleeA, wantedA, enterN, ev, ofV, ofVn, putE, evalN, aBin, aInt_add, aInt_sub, aInt_mul, aInt_quo, aInt_rem, aInt_eql, aInt_neq, aInt_lss, aInt_leq, aInt_gtr, aInt_geq, aExtract, finQ_ret, resOf, extU, extEU, kq_eq, thenQ_normal, thenQ_exit, thenQ_ret, Sg_cons, Sg_nil, SgO, opA, isE, isRead, fa39_0, fa39_1, ld26, ld9, cell_bx g5, cell_bx g6, cell_bx g7, Res.err]
                  refine sgE_eff (h' := h17) (v := .sl (some (.new h16.next 0)) 300 300 none) (by rfl) (by simp [Wc_seq, Wc_block, Wc_scope, Wc_skip, Wc_label, Wc_exit, Wc_ret, Wc_loop, Wc_region, Wc_cond, Nx_nil, Nx_seq, Nx_seq_exit, Nx_seq_ret, Nx_block, Nx_block_exit, Nx_block_ret, Rg_nil, Rg_cons, RgE, effA, calleeA, wantedA, enterN, ev, ofV, ofVn, putE, evalN, aBin, aInt_add, aInt_sub, aInt_mul, aInt_quo, aInt_rem, aInt_eql, aInt_neq, aInt_lss, aInt_leq, aInt_gtr, aInt_geq, aExtract, finQ_ret, resOf, extU, extEU, kq_eq, thenQ_normal, thenQ_exit, thenQ_ret, hmk]) ⟨?_, ?_⟩
                  · simp [stayR_cons, stayR_nil, Wc_seq, Wc_block, Wc_scope, Wc_skip, Wc_label, Wc_exit, Wc_ret, Wc_loop, Wc_region, Wc_cond, Nx_nil, Nx_seq, Nx_seq_exit, Nx_seq_ret, Nx_block, Nx_block_exit, Nx_block_ret, Rg_nil, Rg_cons, RgE, effA, calleeA, wantedA, enterN, ev, ofV, ofVn, putE, evalN, aBin, aInt_add, aInt_sub, aInt_mul, aInt_quo, aInt_rem, aInt_eql, aInt_neq, aInt_lss, aInt_leq, aInt_gtr, aInt_geq, aExtract, finQ_ret, resOf, extU, extEU, kq_eq, thenQ_normal, thenQ_exit, thenQ_ret, opA, ld26, ld9, cell_bx g5P, cell_bx g6P, cell_bx g7P, Res.err]
                  simp [Wc_seq, Wc_block, Wc_scope, Wc_skip, Wc_label, Wc_exit, Wc_ret, Wc_loop, Wc_region, Wc_cond, Nx_nil, Nx_seq, Nx_seq_exit, Nx_seq_ret, Nx_block, Nx_block_exit, Nx_block_ret, Rg_nil, Rg_cons, RgE, effA, calleeA, wantedA, enterN, ev, ofV, ofVn, putE, evalN, aBin, aInt_add, aInt_sub, aInt_mul, aInt_quo, aInt_rem, aInt_eql, aInt_neq, aInt_lss, aInt_leq, aInt_gtr, aInt_geq, aExtract, finQ_ret, resOf, extU, extEU, kq_eq, thenQ_normal, thenQ_exit, thenQ_ret, Sg_cons, Sg_nil, SgO, opA, isE, isRead, hcv, aStr]
                  refine sgE_call (f := 15) (args := []) (by rfl) (by rfl) (by rfl) (by simp [fn15]) (speaks_ret W _) ?_
                  rintro w h18 ⟨rfl, rfl⟩
                  refine ⟨?_, ?_⟩
                  · repeat refine stayR_cons ▸ ⟨fun hc => absurd (hc.symm.trans (show _ = true by kernel_rfl)) (by decide), ?_⟩
                    exact stayR_nil ▸ trivial
                  · simp [Wc_seq, Wc_block, Wc_scope, Wc_skip, Wc_label, Wc_exit, Wc_ret, Wc_loop, Wc_region, Wc_cond, Nx_nil, Nx_seq, Nx_seq_exit, Nx_seq_ret, Nx_block, Nx_block_exit, Nx_block_ret, Rg_nil, Rg_cons, RgE, effA, calleeA, wantedA, enterN, ev, ofV, ofVn, putE, evalN, aBin, aInt_add, aInt_sub, aInt_mul, aInt_quo, aInt_rem, aInt_eql, aInt_neq, aInt_lss, aInt_leq, aInt_gtr, aInt_geq, aExtract, finQ_ret, resOf, extU, extEU, kq_eq, thenQ_normal, thenQ_exit, thenQ_ret, Sg_cons, Sg_nil, SgO, opA, isE, isRead]
              · have hMM : M2 = M := by rw [← hM2]; exact write_ill (by rw [he2]; exact he0)
                subst hMM
                have hb : (e2 != 0) = true := by simpa using he0
                simp [Wc_seq, Wc_block, Wc_scope, Wc_skip, Wc_label, Wc_exit, Wc_ret, Wc_loop, Wc_region, Wc_cond, Nx_nil, Nx_seq, Nx_seq_exit, Nx_seq_ret, Nx_block, Nx_block_exit, Nx_block_ret, Rg_nil, Rg_cons, RgE, effA, calleeA, wantedA, enterN, ev, ofV, ofVn, putE, evalN, aBin, aInt_add, aInt_sub, aInt_mul, aInt_quo, aInt_rem, aInt_eql, aInt_neq, aInt_lss, aInt_leq, aInt_gtr, aInt_geq, aExtract, finQ_ret, resOf, extU, extEU, kq_eq, thenQ_normal, thenQ_exit, thenQ_ret, hal4, st4, fa39_0, fa39_1, ld26, ld9, cell_bx g1, cell_bx g2, cell_bx g3, Res.err, hb, he0, aStr]
                refine callK_RetH (by simp [fn15]) (speaks_ret W _) ?_
                simp [Wc_seq, Wc_block, Wc_scope, Wc_skip, Wc_label, Wc_exit, Wc_ret, Wc_loop, Wc_region, Wc_cond, Nx_nil, Nx_seq, Nx_seq_exit, Nx_seq_ret, Nx_block, Nx_block_exit, Nx_block_ret, Rg_nil, Rg_cons, RgE, effA, calleeA, wantedA, enterN, ev, ofV, ofVn, putE, evalN, aBin, aInt_add, aInt_sub, aInt_mul, aInt_quo, aInt_rem, aInt_eql, aInt_neq, aInt_lss, aInt_leq, aInt_gtr, aInt_geq, aExtract, finQ_ret, resOf, extU, extEU, kq_eq, thenQ_normal, thenQ_exit, thenQ_ret]

/-- ModelWrites, where its argument is small. -/
theorem writes_law (W : World) (av : AV) {n : Nat} (hn : n ≤ 1048576) (h : n < 1000000000 → ∃ l : List Opn, OpsS W av l ∧ l.length ≤ n) (at_ : Int) (d : List UInt8) (hd : d.length ≤ 1048576) :
    ACall (CC W) 4 [av, .int .i64 at_, .str d] AH.empty (fun w _ => w = .bool true) (fun _ _ => False) := by
  obtain ⟨l, hv, hl⟩ := h (by omega)
  exact writes_ret W av l hv at_ d (by omega) (by omega)
end Go.Proofs.YtbofhlifobjolaaGreatDoor.Ax
end

/-! What a law's claim needs behind its walk: arguments that are texts and numbers; a call that changes nothing that was there -/
section
set_option linter.unusedVariables false
set_option linter.unusedSimpArgs false
namespace Go.Proofs.YtbofhlifobjolaaGreatDoor.Ax
open Go.ChangeShapes Go.WideShapes Go.ChangeAt Go.RowKit
set_option maxRecDepth 100000

theorem own : ownKnob Tryz.prog.godebug = none := by kernel_rfl
theorem laidOut : laidOutB Tryz.prog = true := by kernel_rfl
theorem cells9 : Tryz.prog.cellsOf 9 = 1 := by kernel_rfl

/-- An argument that is a text. -/
theorem text_arg {H : Type} {enc : TypeId × Value → H} {W : World} {base : Nat} {v : Value} {d : DataW H} {ps : List MemPlace} (hval : Value.okWide Tryz.prog W .any base 9 v) (h : DataW.Trod enc Tryz.prog W 0 (fun _ => true) true 9 v d ps) :
    ∃ s : ByteArray, v = .string s ∧ d = .lit (.string s.data.toList) := by
  obtain ⟨s, h1, h2, _, _⟩ := Go.ChangeMaps.open_string Tryz.underlying9 hval h
  exact ⟨s, h1, h2⟩

/-- An argument that is a number. -/
theorem int_arg {H : Type} {enc : TypeId × Value → H} {W : World} {base : Nat} {v : Value} {d : DataW H} {ps : List MemPlace} (hval : Value.okWide Tryz.prog W .any base 3 v) (h : DataW.Trod enc Tryz.prog W 0 (fun _ => true) true 3 v d ps) :
    ∃ n : Int, v = .int .i64 n ∧ d = .lit (.int .i64 n) := by
  obtain ⟨n, h1, h2, _, _⟩ := open_int Tryz.underlying3 hval h
  exact ⟨n, h1, h2⟩

/-- The end: one true result, all as it was. -/
theorem post_true {H : Type} {enc : TypeId × Value → H} {f : Func} {s : ChangeSpec} {W W' : World} {args : Array Value} {ds : List (DataW H)} {p : List MemPlace}
    (hW : DataW.Whole enc Tryz.prog f.params.toList s.vars false W args.toList ds [] p) (hv : s.vars = []) (hr : f.resultTypes = #[4])
    (hA : DataW.TrodAll enc Tryz.prog W 0 (fun _ => true) true f.params.toList args.toList ds p)
    (hread : ∀ t ∈ f.params.toList, Tryz.prog.readableRec t = true ∧ t < Tryz.prog.types.size)
    (hfn : s.fn H (ds ++ []) = { results := [.lit (.bool true)], args := ds })
    (hb : Below W.heap.size W W') : s.post enc Tryz.prog f false true false false W args (.bool true) W' := by
  have hlt : ∀ x ∈ p, x.block < W.heap.size := fun x hx => by simpa using hW.lt x hx
  have hargs : ∀ (ts : List TypeId) (vs : List Value) (ds : List (DataW H)) (p : List MemPlace), (∀ t ∈ ts, Tryz.prog.readableRec t = true ∧ t < Tryz.prog.types.size) → (∀ x ∈ p, x.block < W.heap.size) →
      DataW.TrodAll enc Tryz.prog W 0 (fun _ => true) true ts vs ds p → DataW.TrodAll enc Tryz.prog W' 0 (fun b => decide (b < W.heap.size)) true ts vs ds p := by
    intro ts
    induction ts with
    | nil => intro vs ds p _ _ h; obtain ⟨rfl, rfl, rfl⟩ := trodAll_nil h; simp [DataW.TrodAll]
    | cons t ts ih =>
      intro vs ds p hr hl h
      obtain ⟨v, vs', d, ds', p1, q1, rfl, rfl, rfl, h1, h2⟩ := trodAll_cons h
      obtain ⟨r1, r2⟩ := hr t (by simp)
      exact trodAll_cons_mk (Below.trod laidOut r1 r2 h1 hb fun x hx => hl x (by simp [hx])) (ih vs' ds' q1 (fun t ht => hr t (by simp [ht])) (fun x hx => hl x (by simp [hx])) h2)
  refine ⟨_, _, _, [] ++ [], p, [], hW, ?_, ?_, ?_, hb.frame _, fun h => by cases h⟩
  · rw [hfn, hr]; exact trodAll_mk1 (shut_bool Tryz.underlying4 true)
  · rw [hfn]; exact hargs _ _ _ _ hread hlt hA
  · rw [hv, hfn]; rfl

theorem bulk_text {H : Type} (s : ByteArray) : Rows.uptoBulk (DataW.lit (H := H) (.string s.data.toList)) = s.data.toList.length + 1 := by
  simp [Rows.uptoBulk]

theorem bulk_one {H : Type} (d : DataW H) : 1 ≤ Rows.uptoBulk d := by
  cases d with
  | lit l => cases l <;> simp [Rows.uptoBulk]
  | nil => simp [Rows.uptoBulk]
  | ptr d => simp [Rows.uptoBulk]
  | slice elems spare => simp [Rows.uptoBulk]
  | agg parts => simp [Rows.uptoBulk]
  | iface t d => simp [Rows.uptoBulk]
  | map entries => simp [Rows.uptoBulk]
  | held h => simp [Rows.uptoBulk]

theorem bulk_length {H : Type} (l : List (DataW H)) : l.length ≤ Rows.uptoBulkAll l := by
  induction l with
  | nil => simp [Rows.uptoBulkAll]
  | cons x r ih => have := bulk_one x; simp only [Rows.uptoBulkAll, List.length_cons]; omega

theorem bads_rel {ρ : Rho} : ∀ (l : List Value) (n : Nat), l.length = n → VsRel ρ (List.replicate n .bad) l
  | [], n, h => by
    have : n = 0 := by simpa using h.symm
    subst this
    simp [VsRel]
  | x :: l, n, h => by
    cases n with
    | zero => simp at h
    | succ n =>
      simp only [List.replicate_succ, VsRel]
      exact ⟨x, l, rfl, by simp [VRel], bads_rel l n (by simpa using h)⟩
/-- A struct of whatever cells. -/
theorem bad_rel {ρ : Rho} {n m : Nat} (cs : Array Value) (h : cs.size = m) (hm : m = n) : VRel ρ (.agg (List.replicate n .bad)) (.agg cs) := by
  simp only [VRel]
  exact ⟨cs, rfl, bads_rel cs.toList n (by simp [h, hm])⟩
end Go.Proofs.YtbofhlifobjolaaGreatDoor.Ax
end

/-! An argument that is a list of operations -/
section
set_option linter.unusedVariables false
set_option linter.unusedSimpArgs false
namespace Go.Proofs.YtbofhlifobjolaaGreatDoor.Ax
open Go.ChangeShapes Go.WideShapes Go.ChangeAt Go.RowKit
set_option maxRecDepth 100000

theorem cells_op : Tryz.prog.cellsOf 35 = 6 := by kernel_rfl
theorem cells_3 : Tryz.prog.cellsOf 3 = 1 := by kernel_rfl

def opnOf {H : Type} : DataW H → Opn
  | .agg [.lit (.int _ a), .lit (.int _ b), .lit (.int _ c), .lit (.string p), .lit (.string t), .lit (.string d)] => ⟨a, b, c, p, t, d⟩
  | _ => ⟨0, 0, 0, [], [], []⟩

theorem cells_six {w : World} {base : Nat} {a : Addr} {c0 c1 c2 c3 c4 c5 : Value} (h : w.cells? base a 6 = some [c0, c1, c2, c3, c4, c5]) :
    w.cell? (a.add 0) = some c0 ∧ w.cell? (a.add 1) = some c1 ∧ w.cell? (a.add 2) = some c2 ∧ w.cell? (a.add 3) = some c3 ∧ w.cell? (a.add 4) = some c4 ∧ w.cell? (a.add 5) = some c5 := by
  unfold World.cells? at h
  split at h
  · have hr : List.range 6 = [0, 1, 2, 3, 4, 5] := rfl
    rw [hr] at h
    simp only [List.mapM_cons, List.mapM_nil, Option.bind_eq_bind, Option.bind_eq_some_iff, Option.pure_def, Option.some.injEq, List.cons.injEq] at h
    obtain ⟨x0, h0, r0, ⟨x1, h1, r1, ⟨x2, h2, r2, ⟨x3, h3, r3, ⟨x4, h4, r4, ⟨x5, h5, r5, e5, e4⟩, e3⟩, e2⟩, e1⟩, e0⟩, e⟩ := h
    subst e5 e4 e3 e2 e1 e0
    simp only [List.cons.injEq, and_true] at e
    obtain ⟨rfl, rfl, rfl, rfl, rfl, rfl⟩ := e
    exact ⟨h0, h1, h2, h3, h4, h5⟩
  · simp at h

theorem op_data {H : Type} {enc : TypeId × Value → H} {w : World} {base : Nat} {spare : Nat → Bool} {held : Bool} {n : Nat} {cs : List Value} {y : DataW H × List MemPlace}
    (h : DataW.trod enc Tryz.prog w base spare held n 35 cs = some y) :
    ∃ (a b c : Int) (s t d : ByteArray), cs = [.int .i64 a, .int .i64 b, .int .i64 c, .string s, .string t, .string d] ∧ (-9223372036854775808 ≤ b ∧ b < 9223372036854775808) ∧
      y.1 = .agg [.lit (.int .i64 a), .lit (.int .i64 b), .lit (.int .i64 c), .lit (.string s.data.toList), .lit (.string t.data.toList), .lit (.string d.data.toList)] := by
  obtain ⟨xs, m, _, rfl, hl, hlen, hf⟩ := DataW.trod_struct Tryz.underlying35 h
  rw [cells_op] at hl
  match cs, hl, xs, hlen with
  | [c0, c1, c2, c3, c4, c5], _, [y0, y1, y2, y3, y4, y5], _ =>
    have f0 : DataW.trod enc Tryz.prog w base spare held m 3 [c0] = some y0 := by
      have := hf 0 _ rfl
      simp [cells_3] at this
      exact this
    have f1 : DataW.trod enc Tryz.prog w base spare held m 3 [c1] = some y1 := by
      have := hf 1 _ rfl
      simp [cells_3] at this
      exact this
    have f2 : DataW.trod enc Tryz.prog w base spare held m 3 [c2] = some y2 := by
      have := hf 2 _ rfl
      simp [cells_3] at this
      exact this
    have f3 : DataW.trod enc Tryz.prog w base spare held m 9 [c3] = some y3 := by
      have := hf 3 _ rfl
      simp [cells9] at this
      exact this
    have f4 : DataW.trod enc Tryz.prog w base spare held m 9 [c4] = some y4 := by
      have := hf 4 _ rfl
      simp [cells9] at this
      exact this
    have f5 : DataW.trod enc Tryz.prog w base spare held m 9 [c5] = some y5 := by
      have := hf 5 _ rfl
      simp [cells9] at this
      exact this
    obtain ⟨a, e0, z0, _⟩ := DataW.trod_int Tryz.underlying3 f0
    obtain ⟨b, e1, z1, w1⟩ := DataW.trod_int Tryz.underlying3 f1
    obtain ⟨c, e2, z2, _⟩ := DataW.trod_int Tryz.underlying3 f2
    obtain ⟨s, e3, z3, _⟩ := DataW.trod_string Tryz.underlying9 f3
    obtain ⟨t, e4, z4, _⟩ := DataW.trod_string Tryz.underlying9 f4
    obtain ⟨d, e5, z5, _⟩ := DataW.trod_string Tryz.underlying9 f5
    simp only [List.cons.injEq, and_true] at e0 e1 e2 e3 e4 e5
    subst e0 e1 e2 e3 e4 e5 z0 z1 z2 z3 z4 z5
    have hb : -9223372036854775808 ≤ b ∧ b < 9223372036854775808 := by
      simp only [Lit.wf, Bool.and_eq_true, decide_eq_true_eq] at w1
      have h1 : IntKind.i64.min = -9223372036854775808 := by decide
      have h2 : IntKind.i64.max = 9223372036854775807 := by decide
      omega
    exact ⟨a, b, c, s, t, d, rfl, hb, rfl⟩

theorem bulk_mem {H : Type} {d : DataW H} {l : List (DataW H)} (h : d ∈ l) : Rows.uptoBulk d ≤ Rows.uptoBulkAll l := by
  induction l with
  | nil => cases h
  | cons x r ih =>
    simp only [Rows.uptoBulkAll]
    cases List.mem_cons.1 h with
    | inl e => subst e; omega
    | inr e => have := ih e; omega

/-- A list of operations; they can be done where they are no greater than a machine's memory. -/
theorem ops_arg {H : Type} {enc : TypeId × Value → H} {W : World} {base : Nat} {v : Value} {d : DataW H} {ps : List MemPlace} (hval : Value.okWide Tryz.prog W .any base 24 v) (h : DataW.Trod enc Tryz.prog W 0 (fun _ => true) true 24 v d ps) :
    ∃ (av : AV), VRel [] av v ∧ (Rows.uptoBulk d < 1000000000 → ∃ l : List Opn, OpsS W av l ∧ l.length ≤ Rows.uptoBulk d) := by
  obtain ⟨a0, len, cap, rfl⟩ := okWide_slice Tryz.underlying24 hval
  obtain ⟨fuel, hf⟩ := h
  rcases DataW.trod_slice Tryz.underlying24 hf with ⟨hcs, hx⟩ | ⟨a, len', cap', elems, rest, n, _, hcs, hx, hb, hl, hm, hlen, hel, hsp, hns⟩
  · simp [Value.cells] at hcs
    obtain ⟨rfl, rfl, rfl⟩ := hcs
    exact ⟨.sl none 0 0 none, by simp [VRel], fun _ => ⟨[], ⟨none, 0, rfl, fun i s hs => by simp at hs⟩, by simp⟩⟩
  · simp [Value.cells] at hcs
    obtain ⟨rfl, rfl, rfl⟩ := hcs
    simp only [Prod.mk.injEq] at hx
    obtain ⟨rfl, _⟩ := hx
    have hsp' : a.spot = none := by
      simp only [Value.okWide, Tryz.underlying24, Cell.okWide, Cell.ok, World.has] at hval
      exact hval.2.2.2.1
    obtain ⟨b, o, sp⟩ := a
    simp only at hsp'
    subst hsp'
    have each : ∀ (i : Nat) y, elems[i]? = some y → ∃ (a b' c : Int) (s t d : ByteArray), (W.cell? ⟨b, o + i * 6 + 0, none⟩ = some (.int .i64 a) ∧ W.cell? ⟨b, o + i * 6 + 1, none⟩ = some (.int .i64 b') ∧ W.cell? ⟨b, o + i * 6 + 2, none⟩ = some (.int .i64 c) ∧ W.cell? ⟨b, o + i * 6 + 3, none⟩ = some (.string s) ∧ W.cell? ⟨b, o + i * 6 + 4, none⟩ = some (.string t) ∧ W.cell? ⟨b, o + i * 6 + 5, none⟩ = some (.string d)) ∧
        (-9223372036854775808 ≤ b' ∧ b' < 9223372036854775808) ∧ y.1 = .agg [.lit (.int .i64 a), .lit (.int .i64 b'), .lit (.int .i64 c), .lit (.string s.data.toList), .lit (.string t.data.toList), .lit (.string d.data.toList)] := by
      intro i y hy
      have hi : i < len := by rw [← hlen]; exact (List.getElem?_eq_some_iff.1 hy).1
      have hbd := hel i hi
      rw [hy, Option.bind_eq_some_iff, cells_op] at hbd
      obtain ⟨cs, hc, ht⟩ := hbd
      obtain ⟨p, q, r, s, t, d, rfl, hr, he⟩ := op_data ht
      have := cells_six hc
      simp only [add_addr] at this
      exact ⟨p, q, r, s, t, d, this, hr, he⟩
    refine ⟨.sl (some (.base b o)) len cap none, by simp [VRel], fun hbig => ⟨elems.map fun y => opnOf y.1, ⟨some (.base b o), cap, by simp [hlen], fun i s hs => ?_⟩, ?_⟩⟩
    · rw [List.getElem?_map, Option.map_eq_some_iff] at hs
      obtain ⟨y, hy, rfl⟩ := hs
      obtain ⟨p, q, r, t, u, d, hcell, hrange, he⟩ := each i y hy
      have hi : i < (elems.map fun y => opnOf y.1).length := by simpa using (List.getElem?_eq_some_iff.1 hy).1
      have hst : opnOf y.1 = ⟨p, q, r, t.data.toList, u.data.toList, d.data.toList⟩ := by rw [he]; rfl
      have hbk := bulk_mem (List.mem_map_of_mem (f := (·.1)) (List.mem_of_getElem? hy))
      refine ⟨?_, .base b (o + i * 6), ?_, fun h => ?_⟩
      · rw [hst]
        rw [he] at hbk
        simp only [Rows.uptoBulk, Rows.uptoBulkAll] at hbk hbig
        exact ⟨by show t.data.toList.length < _; omega, by show u.data.toList.length < _; omega, hrange.2, hrange.1⟩
      · simp only [aIndexAddr, kind24, size35]
        rw [if_pos (by omega)]
        simp [AA.add]
      · have hw0 : (CC W).W0 = W := _root_.id rfl
        have hr : List.range 6 = [0, 1, 2, 3, 4, 5] := rfl
        rw [hst]
        obtain ⟨h0, h1, h2, h3, h4, h5⟩ := hcell
        simp only [aLoad, ty35, T35, AKind.isOther, AKind.isAgg, aCells, hr, List.mapM_cons, List.mapM_nil, AA.add, aCell, hw0, h0, h1, h2, h3, h4, h5, Opn.cells]
        rfl
    · have := bulk_length (elems.map (·.1))
      simp only [Rows.uptoBulk, List.length_map] at this ⊢
      omega
end Go.Proofs.YtbofhlifobjolaaGreatDoor.Ax
end
