/- The law ModelMeans answers true at every input, and what it is given reads behind the call as it read before; the tables of the library that its row lists hold what the program's text lays (the card ties them): no other condition. -/
import Derived.Test.YthdhckgmbfkglaaDoorRows
import Derived.Test.YthdhckgmbfkglaaDoorTie
import Derived.Test.YthdhckgmbfkglaaDoorCards
import Derived.ProofKit
import Derived.LaidMore
import Derived.OpenShut
import Derived.Stop.Joined
import Derived.SevenTiedAt
import Derived.Test.YthdhckgmbfkglaaDoorA6
import Derived.Test.YthdhckgmbfkglaaDoorA14
set_option linter.unusedVariables false
namespace Go.Proofs.YthdhckgmbfkglaaDoor
open Go.ChangeShapes Go.WideShapes Go.ChangeAt Go.RowKit Go.VM Go.Proofs.Pf

theorem Tryd.own : ownKnob Tryd.prog.godebug = none := by kernel_rfl
theorem Tryd.laidOut : laidOutB Tryd.prog = true := by kernel_rfl

def laidL : List (String × DataW Unit) := Rows.modelMeansRow.laid

/-- The door's own heap meets the condition. -/
theorem door_met (os : Os) (args : Array Value) : laidMetH Tryd.prog laidL ((World.doorLaid Tryd.prog 400 os).forCall (fun _ _ => 0) ⟨#[], args, []⟩).memory :=
  laidMetH_of_parts3 (fuel := 80) (laidMet_of_run' 80 (by kernel_rfl) (by kernel_rfl)) (by kernel_rfl) (by kernel_rfl)

theorem tab_type : ∃ g t n e, Tryd.prog.globalNamed "internal/strconv.uint64pow10" = some g ∧ (Tryd.prog.globals[g]?).map (·.type) = some t ∧ Tryd.prog.underlying t = some (.array n e) ∧
    Tryd.prog.underlying e = some (.int .u64) ∧ Tryd.prog.cellsOf e = 1 ∧ Tryd.prog.cellsOf t = n :=
  ⟨1, 134, 20, 90, by kernel_rfl, by kernel_rfl, by kernel_rfl, by kernel_rfl, by kernel_rfl, by kernel_rfl⟩

/-- The tables are as the text says. -/
theorem laid_gl {W : World} (h : laidMetH Tryd.prog laidL W) : Gl Tryd.prog W := by
  rw [MakeChecks.laidMetH_plain _ _ _ (by kernel_rfl)] at h
  obtain ⟨ps, ⟨g0, t0, cs0, f0, p0, q0, hg0, ht0, hv0, hd0, ⟨g1, t1, cs1, f1, p1, q1, hg1, ht1, hv1, hd1, ⟨g2, t2, cs2, f2, p2, q2, hg2, ht2, hv2, hd2, _, _⟩, _⟩, _⟩, _, _⟩ := h
  obtain ⟨g, t, n, e, hg, hty, ht, he, hce, hct⟩ := tab_type
  obtain rfl := Option.some.inj (hg.symm.trans hg2)
  obtain rfl := Option.some.inj (hty.symm.trans ht2)
  intro g hg'
  unfold Lib.TabIs
  rw [hv2, ← Lib.cells_of_tab (k := .u64) (zs := Lib.pow10Tab) ht he hce hct hd2]

set_option maxRecDepth 100000 in
theorem modelMeans_lifted (os : Os) (started : os.Started) (H : Type) (enc : TypeId × Value → H) :
    ReturnsInHanded {} Tryd.checked os 3 .any (fun w args => (Rows.modelMeansSpec.pre enc Tryd.prog Tryd.f3 [] false w args ∧ laidMetH Tryd.prog laidL w) ∧ sizedMet enc Tryd.prog Tryd.f3 (OpenSpec.ofChange Rows.modelMeansSpec) false w args)
      (Rows.modelMeansSpec.post enc Tryd.prog Tryd.f3 false true false false) := by
  refine returnsInHanded_of_change_and (C := Tryd.checked) (X := fun w _ => laidMetH Tryd.prog laidL w) (fun _ _ _ hh h => h.of_heap hh) Tryd.own started (by kernel_rfl) Tryd.func3
    (ChangeSpec.witness_shaped (enc := enc) (C := Tryd.checked) (os := os) (X := fun w _ => laidMetH Tryd.prog laidL w) false (World.doorLaid Tryd.prog 400 os) #[.agg #[.slice none 0 0], .slice none 0 0, .int .i64 0, .int .i64 0, .int .i64 0] 80 rfl (World.shaped_of_RefB (by kernel_rfl) (by kernel_rfl)) (by kernel_rfl) (by kernel_rfl) (by kernel_rfl) (door_met os _)) ?_
  intro W base args ds gs before hval0 hW _ _ hL _
  have hval : ∀ (j : Nat) t v, Tryd.f3.params[j]? = some t → args[j]? = some v → Value.okWide Tryd.prog W .any base t v := hval0
  have hW' := hW
  obtain ⟨p, q, hA0, hV, hp, _, _⟩ := hW
  have hA : DataW.TrodAll enc Tryd.prog W 0 (fun _ => true) true Tryd.f3.params.toList args.toList ds p := hA0
  rw [Tryd.params3] at hA hval
  obtain ⟨v0, v1, v2, v3, v4, d0, d1, d2, d3, d4, p0, p1, p2, p3, p4, rfl, rfl, rfl, h0, h1, h2, h3, h4⟩ := trodAll_five hA
  obtain ⟨rfl, rfl⟩ := trodVars_none hV
  obtain ⟨x0, r0, w0⟩ := arg_any (F := fun b => b < W.heap.size) (ι := noRef) (n := 12) (ty := tMo) (fun _ h => h) (by kernel_rfl) (hval 0 24 v0 rfl rfl) h0
  obtain ⟨x1, r1, w1⟩ := arg_any (F := fun b => b < W.heap.size) (ι := noRef) (n := 4) (ty := tL) (fun _ h => h) (by kernel_rfl) (hval 1 25 v1 rfl rfl) h1
  obtain ⟨x2, r2, w2⟩ := arg_flat (F := fun b => b < W.heap.size) (ι := noRef) (n := 4) (ty := .int .i64) (by kernel_rfl) (hval 2 3 v2 rfl rfl) h2
  obtain ⟨x3, r3, w3⟩ := arg_flat (F := fun b => b < W.heap.size) (ι := noRef) (n := 4) (ty := .int .i64) (by kernel_rfl) (hval 3 3 v3 rfl rfl) h3
  obtain ⟨x4, r4, w4⟩ := arg_flat (F := fun b => b < W.heap.size) (ι := noRef) (n := 4) (ty := .int .i64) (by kernel_rfl) (hval 4 3 v4 rfl rfl) h4
  refine ((B.s_ModelMeans x0 x1 x2 x3 x4 w2.1 (Int.lt_of_le_sub_one w2.2) w3.1 (Int.lt_of_le_sub_one w3.2) w4.1 (Int.lt_of_le_sub_one w4.2)).run W (fun b => b < W.heap.size) [v0, v1, v2, v3, v4] (fun _ h => h) (laid_gl hL) ⟨r0, r1, r2, r3, r4, trivial⟩).mono ?_
  rintro e W' ⟨v, r, rfl, hr, rfl, hb⟩
  rw [vrep_bool] at hr
  subst hr
  exact ⟨_, rfl, law_post hW' rfl Tryd.laidOut (by kernel_rfl) rfl rfl Tryd.underlying4 hb⟩

theorem modelMeans_row : Rows.ModelMeansSaid :=
  OpenClaim.holds_of_wide 3 Tryd.f3 rfl rfl rfl rfl rfl rfl rfl ⟨rfl, rfl, rfl, rfl, rfl⟩ rfl rfl rfl rfl rfl (by kernel_rfl) Tryd.func3 (by kernel_rfl)
    (of_decide_eq_true (by kernel_rfl)) (by unfold Func.isWrapper; rw [if_neg (of_decide_eq_false (by kernel_rfl))]; exact ⟨rfl, rfl⟩)
    (fun os started H enc _ => modelMeans_lifted os started H enc)

/-- No parameter wants a stand-in. -/
theorem no_stand (f : FuncId) (fn : Func) (hf : Rows.modelMeansCard.stood.row.func = Rows.modelMeansRow.func ∧ Tryd.prog.funcNamed Rows.modelMeansRow.func = some f) (hfn : Tryd.prog.funcs[f]? = some fn) :
    false = Tryd.prog.looks [] ∧ ∀ (j : Nat) t, fn.params[j]? = some t → Tryd.prog.wantsStandIn t = false := by
  obtain rfl : f = 3 := (Option.some.inj ((show Tryd.prog.funcNamed Rows.modelMeansRow.func = some 3 by kernel_rfl).symm.trans hf.2)).symm
  obtain rfl : fn = Tryd.f3 := (Option.some.inj (Tryd.func3.symm.trans hfn)).symm
  refine ⟨by kernel_rfl, fun j t ht => ?_⟩
  have hall : (Tryd.f3.params.toList.all fun t => !Tryd.prog.wantsStandIn t) = true := by kernel_rfl
  have hm : t ∈ Tryd.f3.params.toList := by
    rw [← Array.getElem?_toList] at ht
    exact List.mem_of_getElem? ht
  simpa using List.all_eq_true.1 hall t hm

theorem modelMeans_holds : Rows.ModelMeansCardSaid :=
  Claim7.holds_tied_plain_at .later [] [.data, .data, .data] true Rows.modelMeansCard.stood.harness false
    modelMeans_row (fun _ h => by cases h) (by kernel_rfl) (fun _ h => by cases h) modelMeans_row_tie rfl ⟨rfl, rfl⟩ (by kernel_rfl) rfl
    (fun f fn hf hfn => no_stand f fn ⟨rfl, hf⟩ hfn) (by kernel_rfl)

#print axioms modelMeans_holds
end Go.Proofs.YthdhckgmbfkglaaDoor
