/- The row of TopFreed: the law returns true whatever the input, and the input reads as it did. -/
import Derived.Test.YtngelilffleimaaRows
import Derived.Test.YtngelilffleimaaJ6
namespace Go.Proofs.Ytngelilffleimaa
open Go Go.ChangeShapes Go.WideShapes Go.ChangeAt Go.RowKit
namespace TopFreed
theorem own_ : ownKnob Try.prog.godebug = none := by kernel_rfl
theorem laid_ : laidOutB Try.prog = true := by kernel_rfl
set_option maxRecDepth 100000 in
theorem lifted (os : Os) (started : os.Started) (H : Type) (enc : TypeId × Value → H) :
    ReturnsInHanded {} Try.checked os 4 .any (Rows.topFreedSpec.pre6 enc Try.prog Try.f4 Rows.topFreedRow.domain false) (Rows.topFreedSpec.post enc Try.prog Try.f4 false true false false) := by
  refine returnsInHanded_of_change (C := Try.checked) own_ started (by kernel_rfl) Try.func4
    (ChangeSpec.witness6 (enc := enc) (C := Try.checked) false ⟨#[], #[.agg #[.slice none 0 0, .int .i64 0, .slice none 0 0], .agg #[.int .i64 0, .int .i64 0, .int .i64 0, .int .i64 0, .slice none 0 0, .slice none 0 0], .agg #[.slice none 0 0, .slice none 0 0, .int .i64 0, .int .i64 0, .int .i64 0]], []⟩ 8 (by kernel_rfl) (by kernel_rfl) (by kernel_rfl) (by kernel_rfl)) ?_
  intro W base args ds gs before hval0 hW hcnd _
  have hval : ∀ (j : Nat) t v, Try.f4.params[j]? = some t → args[j]? = some v → Value.okWide Try.prog W .any base t v := hval0
  have hW' := hW
  obtain ⟨p, q, hA0, hV, hpq, hfz, hnd⟩ := hW
  have hA : DataW.TrodAll enc Try.prog W 0 (fun _ => true) true Try.f4.params.toList args.toList ds p := hA0
  rw [Try.params4] at hA hval
  obtain ⟨w0, r0, d0, e0, _, _, hargs, rfl, h0, hA⟩ := trodAll_out hA
  obtain ⟨w1, r1, d1, e1, _, _, rfl, rfl, h1, hA⟩ := trodAll_out hA
  obtain ⟨w2, r2, d2, e2, _, _, rfl, rfl, h2, hA⟩ := trodAll_out hA
  obtain ⟨rfl, rfl⟩ := trodAll_end hA
  obtain rfl : args = #[w0, w1, w2] := by cases args; simp_all
  obtain ⟨rfl, rfl⟩ := trodVars_none hV
  obtain ⟨c0, rfl, m0⟩ := arg_agg (ss := progSp) 8 (by kernel_rfl) (by kernel_rfl) (hval 0 _ _ rfl rfl) h0
  obtain ⟨c1, rfl, m1⟩ := arg_agg (ss := queueSp) 8 (by kernel_rfl) (by kernel_rfl) (hval 1 _ _ rfl rfl) h1
  obtain ⟨c2, rfl, m2⟩ := arg_agg (ss := endsSp) 8 (by kernel_rfl) (by kernel_rfl) (hval 2 _ _ rfl rfl) h2
  obtain ⟨p0, g0, hr0⟩ := prog_open m0
  obtain ⟨q1, a1, g1, hr1, hn1⟩ := queue_open m1
  obtain ⟨x2, g2, hr2⟩ := ends_open m2
  have hw := (K_TopFreed p0 q1 a1 x2 W hr0 hr1 hr2).out
  rw [← g0, ← g1, ← g2] at hw
  refine Calls.mono hw fun e W' ⟨he, hS⟩ => ?_
  subst he
  exact ⟨_, rfl, post_true hW' rfl (by kernel_rfl) (bt := 4) (by kernel_rfl) rfl rfl rfl hS.below.b laid_ (by kernel_rfl)⟩

theorem holds : Rows.TopFreedSaid :=
  OpenClaim.holds_of_wide 4 Try.f4 rfl rfl rfl rfl rfl rfl rfl ⟨rfl, rfl, rfl, rfl, rfl⟩ rfl rfl rfl rfl rfl (by kernel_rfl) Try.func4 (by kernel_rfl)
    (of_decide_eq_true (by kernel_rfl)) (by unfold Func.isWrapper; rw [if_neg (by decide +kernel)]; exact ⟨rfl, rfl⟩)
    (fun os started H enc _ => lifted os started H enc)
end TopFreed
end Go.Proofs.Ytngelilffleimaa
