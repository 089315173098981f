/- The law NumLeast answers true at every input, and what it is given reads behind the call as it read before: no condition. -/
import Derived.Test.YtafjapndilbfcaaRows
import Derived.Test.YtafjapndilbfcaaV3
import Derived.Test.YtafjapndilbfcaaT
set_option linter.unusedVariables false
set_option linter.unusedSimpArgs false
namespace Go.Proofs.Ytafjapndilbfcaa
open Go.ChangeShapes Go.WideShapes Go.ChangeAt Go.RowKit Go.VM Go.Proofs.Pf

theorem Try.own : ownKnob Try.prog.godebug = none := by kernel_rfl
theorem Try.laidOut : laidOutB Try.prog = true := by kernel_rfl

set_option maxRecDepth 100000 in
theorem numLeast_lifted (os : Os) (started : os.Started) (H : Type) (enc : TypeId × Value → H) :
    ReturnsInHanded {} Try.checked os 9 .any (Rows.numLeastSpec.pre6 enc Try.prog Try.f9 Rows.numLeastRow.domain false) (Rows.numLeastSpec.post enc Try.prog Try.f9 false true false false) := by
  refine returnsInHanded_of_change (C := Try.checked) Try.own started (by kernel_rfl) Try.func9
    (ChangeSpec.witness6 (enc := enc) (C := Try.checked) false ⟨#[], #[.agg #[.int .i64 0, .int .i64 0], .agg #[.int .i64 0, .int .i64 0], .agg #[.int .i64 0, .int .i64 0]], []⟩ 8 (by kernel_rfl) (by kernel_rfl) (by kernel_rfl) (by kernel_rfl)) ?_
  intro W base args ds gs before hval0 hW _ _
  have hval : ∀ (j : Nat) t v, Try.f9.params[j]? = some t → args[j]? = some v → Value.okWide Try.prog W .any base t v := hval0
  have hW' := hW
  obtain ⟨p, q, hA0, hV, hp, _, _⟩ := hW
  have hA : DataW.TrodAll enc Try.prog W 0 (fun _ => true) true Try.f9.params.toList args.toList ds p := hA0
  rw [Try.params9] at hA hval
  obtain ⟨v0, v1, v2, d0, d1, d2, p0, p1, p2, rfl, rfl, rfl, h0, h1, h2⟩ := trodAll_three hA
  obtain ⟨rfl, rfl⟩ := trodVars_none hV
  obtain ⟨x0, r0, w0⟩ := arg_flat (F := fun b => b < W.heap.size) (ι := noRef) (n := 4) (ty := tNum) (by kernel_rfl) (hval 0 23 v0 rfl rfl) h0
  obtain ⟨x1, r1, w1⟩ := arg_flat (F := fun b => b < W.heap.size) (ι := noRef) (n := 4) (ty := tNum) (by kernel_rfl) (hval 1 23 v1 rfl rfl) h1
  obtain ⟨x2, r2, w2⟩ := arg_flat (F := fun b => b < W.heap.size) (ι := noRef) (n := 4) (ty := tNum) (by kernel_rfl) (hval 2 23 v2 rfl rfl) h2
  refine ((B.s_NumLeast x0 x1 x2).run W (fun b => b < W.heap.size) [v0, v1, v2] (fun _ h => h) ⟨r0, r1, r2, trivial⟩).mono ?_
  rintro e W' ⟨v, r, rfl, hr, rfl, hb⟩
  rw [vrep_bool] at hr
  subst hr
  exact ⟨_, rfl, law_post hW' rfl Try.laidOut (by kernel_rfl) rfl rfl Try.underlying4 hb⟩

theorem numLeast_holds : Rows.NumLeastSaid :=
  OpenClaim.holds_of_wide 9 Try.f9 rfl rfl rfl rfl rfl rfl rfl ⟨rfl, rfl, rfl, rfl, rfl⟩ rfl rfl rfl rfl rfl (by kernel_rfl) Try.func9 (by kernel_rfl)
    (of_decide_eq_true (by kernel_rfl)) (by unfold Func.isWrapper; rw [if_neg (of_decide_eq_false (by kernel_rfl))]; exact ⟨rfl, rfl⟩)
    (fun os started H enc _ => numLeast_lifted os started H enc)

end Go.Proofs.Ytafjapndilbfcaa

