/- The row of TopGoesOn: the law returns true whatever the input, and the input reads as it did. -/
import Derived.Test.YtmlhnajgiopfgaaGreatRows
import Derived.Test.YtmlhnajgiopfgaaGreatJ6
namespace Go.Proofs.YtmlhnajgiopfgaaGreat
open Go Go.ChangeShapes Go.WideShapes Go.ChangeAt Go.RowKit
namespace TopGoesOn
theorem own_ : ownKnob Tryz.prog.godebug = none := by kernel_rfl
theorem laid_ : laidOutB Tryz.prog = true := by kernel_rfl
set_option maxRecDepth 100000 in
theorem lifted (os : Os) (started : os.Started) (H : Type) (enc : TypeId × Value → H) :
    ReturnsInHanded {} Tryz.checked os 3 .any (Rows.topGoesOnSpec.pre6 enc Tryz.prog Tryz.f3 Rows.topGoesOnRow.domain false) (Rows.topGoesOnSpec.post enc Tryz.prog Tryz.f3 false true false false) := by
  refine returnsInHanded_of_change (C := Tryz.checked) own_ started (by kernel_rfl) Tryz.func3
    (ChangeSpec.witness6 (enc := enc) (C := Tryz.checked) false ⟨#[], #[.agg #[.int .i64 0, .slice none 0 0], .slice none 0 0, .agg #[.slice none 0 0, .int .i64 0, .slice none 0 0, .int .i64 0]], []⟩ 8 (by kernel_rfl) (by kernel_rfl) (by kernel_rfl) (by kernel_rfl)) ?_
  intro W base args ds gs before hval0 hW hcnd _
  have hval : ∀ (j : Nat) t v, Tryz.f3.params[j]? = some t → args[j]? = some v → Value.okWide Tryz.prog W .any base t v := hval0
  have hW' := hW
  obtain ⟨p, q, hA0, hV, hpq, hfz, hnd⟩ := hW
  have hA : DataW.TrodAll enc Tryz.prog W 0 (fun _ => true) true Tryz.f3.params.toList args.toList ds p := hA0
  rw [Tryz.params3] at hA hval
  obtain ⟨w0, r0, d0, e0, _, _, hargs, rfl, h0, hA⟩ := trodAll_out hA
  obtain ⟨w1, r1, d1, e1, _, _, rfl, rfl, h1, hA⟩ := trodAll_out hA
  obtain ⟨w2, r2, d2, e2, _, _, rfl, rfl, h2, hA⟩ := trodAll_out hA
  obtain ⟨rfl, rfl⟩ := trodAll_end hA
  obtain rfl : args = #[w0, w1, w2] := by cases args; simp_all
  obtain ⟨rfl, rfl⟩ := trodVars_none hV
  obtain ⟨c0, rfl, m0⟩ := arg_agg (ss := treeG) 8 (by kernel_rfl) (by kernel_rfl) (hval 0 _ _ rfl rfl) h0
  have m1 := arg_cell (ss := [.sl slipG]) 8 (by kernel_rfl) (by kernel_rfl) (hval 1 _ _ rfl rfl) h1
  obtain ⟨c2, rfl, m2⟩ := arg_agg (ss := winG) 8 (by kernel_rfl) (by kernel_rfl) (hval 2 _ _ rfl rfl) h2
  obtain ⟨t0, g0, hr0, hc0, hn0⟩ := tree_open m0
  obtain ⟨l1, A1, c1, g1, hr1, hn1⟩ := slips_open m1
  subst g1
  obtain ⟨x2, g2, hr2⟩ := winning_open m2
  have hw := (K_TopGoesOn t0 l1 A1 c1 x2 _ hr0 hc0 hn0 hr1 hn1 hr2).out
  rw [← g0, ← g2] at hw
  refine Calls.mono hw fun e W' ⟨he, hS⟩ => ?_
  subst he
  exact ⟨_, rfl, post_true hW' rfl (by kernel_rfl) (bt := 4) (by kernel_rfl) rfl rfl rfl hS.below.b laid_ (by kernel_rfl)⟩

theorem holds : Rows.TopGoesOnSaid :=
  OpenClaim.holds_of_wide 3 Tryz.f3 rfl rfl rfl rfl rfl rfl rfl ⟨rfl, rfl, rfl, rfl, rfl⟩ rfl rfl rfl rfl rfl (by kernel_rfl) Tryz.func3 (by kernel_rfl)
    (of_decide_eq_true (by kernel_rfl)) (by unfold Func.isWrapper; rw [if_neg (by decide +kernel)]; exact ⟨rfl, rfl⟩)
    (fun os started H enc _ => lifted os started H enc)
end TopGoesOn
end Go.Proofs.YtmlhnajgiopfgaaGreat
