/- The law NumPowers answers true at every input, and what it is given reads behind the call as it read before: no condition. -/
import Derived.Test.YtafjapndilbfcaaRows
import Derived.Test.YtafjapndilbfcaaV3
import Derived.Test.YtafjapndilbfcaaS2
set_option linter.unusedVariables false
set_option linter.unusedSimpArgs false
namespace Go.Proofs.Ytafjapndilbfcaa
open Go.ChangeShapes Go.WideShapes Go.ChangeAt Go.RowKit Go.VM Go.Proofs.Pf

theorem Try.own : ownKnob Try.prog.godebug = none := by kernel_rfl
theorem Try.laidOut : laidOutB Try.prog = true := by kernel_rfl

set_option maxRecDepth 100000 in
theorem numPowers_lifted (os : Os) (started : os.Started) (H : Type) (enc : TypeId × Value → H) :
    ReturnsInHanded {} Try.checked os 3 .any (Rows.numPowersSpec.pre6 enc Try.prog Try.f3 Rows.numPowersRow.domain false) (Rows.numPowersSpec.post enc Try.prog Try.f3 false true false false) := by
  refine returnsInHanded_of_change (C := Try.checked) Try.own started (by kernel_rfl) Try.func3
    (ChangeSpec.witness6 (enc := enc) (C := Try.checked) false ⟨#[], #[.agg #[.int .i64 0, .int .i64 0], .int .i64 0, .int .i64 0], []⟩ 8 (by kernel_rfl) (by kernel_rfl) (by kernel_rfl) (by kernel_rfl)) ?_
  intro W base args ds gs before hval0 hW _ _
  have hval : ∀ (j : Nat) t v, Try.f3.params[j]? = some t → args[j]? = some v → Value.okWide Try.prog W .any base t v := hval0
  have hW' := hW
  obtain ⟨p, q, hA0, hV, hp, _, _⟩ := hW
  have hA : DataW.TrodAll enc Try.prog W 0 (fun _ => true) true Try.f3.params.toList args.toList ds p := hA0
  rw [Try.params3] at hA hval
  obtain ⟨v0, v1, v2, d0, d1, d2, p0, p1, p2, rfl, rfl, rfl, h0, h1, h2⟩ := trodAll_three hA
  obtain ⟨rfl, rfl⟩ := trodVars_none hV
  obtain ⟨a, ra, _⟩ := arg_flat (F := fun b => b < W.heap.size) (ι := noRef) (n := 4) (ty := tNum) (by kernel_rfl) (hval 0 23 v0 rfl rfl) h0
  obtain ⟨m, rm, _⟩ := arg_flat (F := fun b => b < W.heap.size) (ι := noRef) (n := 4) (ty := tI) (by kernel_rfl) (hval 1 3 v1 rfl rfl) h1
  obtain ⟨n, rn, _⟩ := arg_flat (F := fun b => b < W.heap.size) (ι := noRef) (n := 4) (ty := tI) (by kernel_rfl) (hval 2 3 v2 rfl rfl) h2
  refine ((s_NumPowers a m n).2.2 W (fun b => b < W.heap.size) [v0, v1, v2] (fun _ h => h) ⟨ra, rm, rn, trivial⟩).mono ?_
  rintro e W' ⟨v, r, rfl, hr, rfl, hb⟩
  rw [vrep_bool] at hr
  subst hr
  exact ⟨_, rfl, law_post hW' rfl Try.laidOut (by kernel_rfl) rfl rfl Try.underlying4 hb⟩

theorem numPowers_holds : Rows.NumPowersSaid :=
  OpenClaim.holds_of_wide 3 Try.f3 rfl rfl rfl rfl rfl rfl rfl ⟨rfl, rfl, rfl, rfl, rfl⟩ rfl rfl rfl rfl rfl (by kernel_rfl) Try.func3 (by kernel_rfl)
    (of_decide_eq_true (by kernel_rfl)) (by unfold Func.isWrapper; rw [if_neg (of_decide_eq_false (by kernel_rfl))]; exact ⟨rfl, rfl⟩)
    (fun os started H enc _ => numPowers_lifted os started H enc)

end Go.Proofs.Ytafjapndilbfcaa

