/- The law NumMakes answers true at every input, and what it is given reads behind the call as it read before: no condition. -/
import Derived.Test.YtafjapndilbfcaaRows
import Derived.Test.YtafjapndilbfcaaV3
import Derived.Test.YtafjapndilbfcaaT
set_option linter.unusedVariables false
set_option linter.unusedSimpArgs false
namespace Go.Proofs.Ytafjapndilbfcaa
open Go.ChangeShapes Go.WideShapes Go.ChangeAt Go.RowKit Go.VM Go.Proofs.Pf

theorem Try.own : ownKnob Try.prog.godebug = none := by kernel_rfl
theorem Try.laidOut : laidOutB Try.prog = true := by kernel_rfl

set_option maxRecDepth 100000 in
theorem numMakes_lifted (os : Os) (started : os.Started) (H : Type) (enc : TypeId × Value → H) :
    ReturnsInHanded {} Try.checked os 4 .any (Rows.numMakesSpec.pre6 enc Try.prog Try.f4 Rows.numMakesRow.domain false) (Rows.numMakesSpec.post enc Try.prog Try.f4 false true false false) := by
  refine returnsInHanded_of_change (C := Try.checked) Try.own started (by kernel_rfl) Try.func4
    (ChangeSpec.witness6 (enc := enc) (C := Try.checked) false ⟨#[], #[.int .i64 0, .int .i64 0, .agg #[.int .i64 0, .int .i64 0], .int .i64 0], []⟩ 8 (by kernel_rfl) (by kernel_rfl) (by kernel_rfl) (by kernel_rfl)) ?_
  intro W base args ds gs before hval0 hW _ _
  have hval : ∀ (j : Nat) t v, Try.f4.params[j]? = some t → args[j]? = some v → Value.okWide Try.prog W .any base t v := hval0
  have hW' := hW
  obtain ⟨p, q, hA0, hV, hp, _, _⟩ := hW
  have hA : DataW.TrodAll enc Try.prog W 0 (fun _ => true) true Try.f4.params.toList args.toList ds p := hA0
  rw [Try.params4] at hA hval
  obtain ⟨v0, v1, v2, v3, d0, d1, d2, d3, p0, p1, p2, p3, rfl, rfl, rfl, h0, h1, h2, h3⟩ := trodAll_four hA
  obtain ⟨rfl, rfl⟩ := trodVars_none hV
  obtain ⟨x0, r0, w0⟩ := arg_flat (F := fun b => b < W.heap.size) (ι := noRef) (n := 4) (ty := tI) (by kernel_rfl) (hval 0 3 v0 rfl rfl) h0
  obtain ⟨x1, r1, w1⟩ := arg_flat (F := fun b => b < W.heap.size) (ι := noRef) (n := 4) (ty := tI) (by kernel_rfl) (hval 1 3 v1 rfl rfl) h1
  obtain ⟨x2, r2, w2⟩ := arg_flat (F := fun b => b < W.heap.size) (ι := noRef) (n := 4) (ty := tNum) (by kernel_rfl) (hval 2 23 v2 rfl rfl) h2
  obtain ⟨x3, r3, w3⟩ := arg_flat (F := fun b => b < W.heap.size) (ι := noRef) (n := 4) (ty := tI) (by kernel_rfl) (hval 3 3 v3 rfl rfl) h3
  refine ((B.s_NumMakes x0 x1 x2 x3 w0.1 (Int.lt_of_le_of_lt w0.2 (by decide)) w1.1 (Int.lt_of_le_of_lt w1.2 (by decide)) w3.1 (Int.lt_of_le_of_lt w3.2 (by decide))).run W (fun b => b < W.heap.size) [v0, v1, v2, v3] (fun _ h => h) ⟨r0, r1, r2, r3, trivial⟩).mono ?_
  rintro e W' ⟨v, r, rfl, hr, rfl, hb⟩
  rw [vrep_bool] at hr
  subst hr
  exact ⟨_, rfl, law_post hW' rfl Try.laidOut (by kernel_rfl) rfl rfl Try.underlying4 hb⟩

theorem numMakes_holds : Rows.NumMakesSaid :=
  OpenClaim.holds_of_wide 4 Try.f4 rfl rfl rfl rfl rfl rfl rfl ⟨rfl, rfl, rfl, rfl, rfl⟩ rfl rfl rfl rfl rfl (by kernel_rfl) Try.func4 (by kernel_rfl)
    (of_decide_eq_true (by kernel_rfl)) (by unfold Func.isWrapper; rw [if_neg (of_decide_eq_false (by kernel_rfl))]; exact ⟨rfl, rfl⟩)
    (fun os started H enc _ => numMakes_lifted os started H enc)

end Go.Proofs.Ytafjapndilbfcaa

