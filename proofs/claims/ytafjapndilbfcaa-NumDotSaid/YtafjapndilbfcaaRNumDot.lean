/- The law NumDot answers true at every input, and what it is given reads behind the call as it read before: no condition. -/
import Derived.Test.YtafjapndilbfcaaRows
import Derived.Test.YtafjapndilbfcaaV3
import Derived.Test.YtafjapndilbfcaaT
set_option linter.unusedVariables false
set_option linter.unusedSimpArgs false
namespace Go.Proofs.Ytafjapndilbfcaa
open Go.ChangeShapes Go.WideShapes Go.ChangeAt Go.RowKit Go.VM Go.Proofs.Pf

theorem Try.own : ownKnob Try.prog.godebug = none := by kernel_rfl
theorem Try.laidOut : laidOutB Try.prog = true := by kernel_rfl

set_option maxRecDepth 100000 in
theorem numDot_lifted (os : Os) (started : os.Started) (H : Type) (enc : TypeId × Value → H) :
    ReturnsInHanded {} Try.checked os 6 .any (Rows.numDotSpec.pre6 enc Try.prog Try.f6 Rows.numDotRow.domain false) (Rows.numDotSpec.post enc Try.prog Try.f6 false true false false) := by
  refine returnsInHanded_of_change (C := Try.checked) Try.own started (by kernel_rfl) Try.func6
    (ChangeSpec.witness6 (enc := enc) (C := Try.checked) false ⟨#[], #[.slice none 0 0, .slice none 0 0], []⟩ 8 (by kernel_rfl) (by kernel_rfl) (by kernel_rfl) (by kernel_rfl)) ?_
  intro W base args ds gs before hval0 hW _ _
  have hval : ∀ (j : Nat) t v, Try.f6.params[j]? = some t → args[j]? = some v → Value.okWide Try.prog W .any base t v := hval0
  have hW' := hW
  obtain ⟨p, q, hA0, hV, hp, _, _⟩ := hW
  have hA : DataW.TrodAll enc Try.prog W 0 (fun _ => true) true Try.f6.params.toList args.toList ds p := hA0
  rw [Try.params6] at hA hval
  obtain ⟨v0, v1, d0, d1, p0, p1, rfl, rfl, rfl, h0, h1⟩ := trodAll_two hA
  obtain ⟨rfl, rfl⟩ := trodVars_none hV
  obtain ⟨x0, r0⟩ := arg_slice (F := fun b => b < W.heap.size) (ι := noRef) (n := 4) (e := 23) (ty := tNum) (fun _ h => h) (by kernel_rfl) (by kernel_rfl) (by kernel_rfl) (hval 0 33 v0 rfl rfl) h0
  obtain ⟨x1, r1⟩ := arg_slice (F := fun b => b < W.heap.size) (ι := noRef) (n := 4) (e := 23) (ty := tNum) (fun _ h => h) (by kernel_rfl) (by kernel_rfl) (by kernel_rfl) (hval 1 33 v1 rfl rfl) h1
  refine ((B.s_NumDot x0 x1).run W (fun b => b < W.heap.size) [v0, v1] (fun _ h => h) ⟨r0, r1, trivial⟩).mono ?_
  rintro e W' ⟨v, r, rfl, hr, rfl, hb⟩
  rw [vrep_bool] at hr
  subst hr
  exact ⟨_, rfl, law_post hW' rfl Try.laidOut (by kernel_rfl) rfl rfl Try.underlying4 hb⟩

theorem numDot_holds : Rows.NumDotSaid :=
  OpenClaim.holds_of_wide 6 Try.f6 rfl rfl rfl rfl rfl rfl rfl ⟨rfl, rfl, rfl, rfl, rfl⟩ rfl rfl rfl rfl rfl (by kernel_rfl) Try.func6 (by kernel_rfl)
    (of_decide_eq_true (by kernel_rfl)) (by unfold Func.isWrapper; rw [if_neg (of_decide_eq_false (by kernel_rfl))]; exact ⟨rfl, rfl⟩)
    (fun os started H enc _ => numDot_lifted os started H enc)

end Go.Proofs.Ytafjapndilbfcaa

