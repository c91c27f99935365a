/- For every bitmap and range the law BitmapRow returns true; no condition. -/
import Derived.Test.YtoioomplhebadaaFrame
import Derived.Test.YtoioomplhebadaaLawRow
set_option linter.unusedVariables false
set_option linter.unusedSimpArgs false
namespace Go.Proofs.Ytoioomplhebadaa.bitmapRow
open Go.ChangeShapes Go.WideShapes Go.ChangeAt Go.RowKit Go.Joins Ax
open Go.ChangeMaps (open_string shut_string)

theorem walk (s0 : ByteArray) (x1 y1 z1 : Int) (W : World) : Calls Try.prog 6 #[.string s0, .agg #[.int .i64 x1, .int .i64 y1, .int .i64 z1]] W fun e W' => e = .returned (.bool true) ∧ Below W.heap.size W W' := by
  exact calls_cc (VsRel.map [.string s0, .agg #[.int .i64 x1, .int .i64 y1, .int .i64 z1]] fun x _ => ofV_rel [] x) (row_ret W s0.data.toList x1 y1 z1)

set_option maxRecDepth 100000 in
theorem lifted (os : Os) (started : os.Started) (H : Type) (enc : TypeId × Value → H) :
    ReturnsInHanded {} Try.checked os 6 .any (Rows.bitmapRowSpec.pre6 enc Try.prog Try.f6 Rows.bitmapRowRow.domain false) (Rows.bitmapRowSpec.post enc Try.prog Try.f6 false true false false) := by
  refine returnsInHanded_of_change (C := Try.checked) own started (by kernel_rfl) Try.func6
    (ChangeSpec.witness6 (enc := enc) (C := Try.checked) false ⟨#[], #[.string ⟨#[]⟩, .agg #[.int .i64 0, .int .i64 0, .int .i64 0]], []⟩ 8 (by kernel_rfl) (by kernel_rfl) (by kernel_rfl) (by kernel_rfl)) ?_
  intro W base args ds gs before hval0 hW hcnd _
  have hval : ∀ (j : Nat) t v, Try.f6.params[j]? = some t → args[j]? = some v → Value.okWide Try.prog W .any base t v := hval0
  have hW' := hW
  obtain ⟨p, q, hA0, hV, rfl, hfz, hnd⟩ := hW
  have hA : DataW.TrodAll enc Try.prog W 0 (fun _ => true) true Try.f6.params.toList args.toList ds p := hA0
  rw [Try.params6] at hA hval
  obtain ⟨v0, vs0, d0, ds0, p0, q0, hargs, rfl, rfl, h0, r0⟩ := trodAll_cons hA
  obtain ⟨v1, vs1, d1, ds1, p1, q1, rfl, rfl, rfl, h1, r1⟩ := trodAll_cons r0
  obtain ⟨rfl, rfl, rfl⟩ := trodAll_nil r1
  obtain rfl : args = #[v0, v1] := by cases args; simp_all
  obtain ⟨rfl, rfl⟩ := trodVars_none hV
  obtain ⟨s0, rfl, rfl, rfl, w0⟩ := open_string Try.underlying9 (hval 0 9 v0 rfl rfl) h0
  obtain ⟨c1, c1a, c1b, u1, u1a, u1b, m1, rfl, rfl, rfl, hu1, hu1a, hu1b⟩ := open_agg3 Try.underlying34 (by kernel_rfl) cells34 (hval 1 34 v1 rfl rfl) h1
  obtain ⟨x1, ex1, rfl, wx1⟩ := DataW.trod_int Try.underlying3 hu1
  obtain ⟨y1, ey1, rfl, wy1⟩ := DataW.trod_int Try.underlying3 hu1a
  obtain ⟨z1, ez1, rfl, wz1⟩ := DataW.trod_int Try.underlying3 hu1b
  simp at ex1 ey1 ez1
  subst ex1 ey1 ez1
  clear hA0 hval0
  simp only [List.append_nil, List.nil_append] at hW'
  refine (walk s0 x1 y1 z1 W).mono fun e W' ⟨he, hg⟩ => ?_
  subst he
  exact ⟨_, rfl, post_below hW' (fun _ _ _ => (trodAll_cons_mk (shut_bool Try.underlying4 _) trodAll_mk0)) (fun sp => (trodAll_cons_mk (shut_string Try.underlying9 w0) (trodAll_cons_mk (rangeReads _ _ _ _ x1 y1 z1 wx1 wy1 wz1) trodAll_mk0))) (fun _ => rfl) hg (ok_one (by kernel_rfl) rfl (okWide_bool_mk Try.underlying4 _))⟩

theorem over : Rows.bitmapRowRow.holds Try.pinned (OpenSpec.ofChange Rows.bitmapRowSpec) :=
  OpenClaim.holds_of_wide 6 Try.f6 rfl rfl rfl rfl rfl rfl rfl ⟨rfl, rfl, rfl, rfl, rfl⟩ rfl rfl rfl rfl rfl (by kernel_rfl) Try.func6 (by kernel_rfl)
    (of_decide_eq_true (by kernel_rfl)) (by unfold Func.isWrapper; first | (rw [if_pos (by decide +kernel)]; kernel_rfl) | (rw [if_neg (by decide +kernel)]; exact ⟨rfl, rfl⟩))
    (fun os started H enc _ => lifted os started H enc)

/-- The statement. -/
theorem proved : Rows.BitmapRowSaid := over

end Go.Proofs.Ytoioomplhebadaa.bitmapRow
