/- The law WatchCoin answers true at every input, and what it is given reads behind the call as it read before: no condition. -/
import Derived.Test.YthdhckgmbfkglaaGreatRows
import Derived.Test.YthdhckgmbfkglaaGreatA7
import Derived.Test.YthdhckgmbfkglaaGreatA13
set_option linter.unusedVariables false
namespace Go.Proofs.YthdhckgmbfkglaaGreat
open Go.ChangeShapes Go.WideShapes Go.ChangeAt Go.RowKit Go.VM Go.Proofs.Pf
theorem Tryz.own:ownKnob Tryz.prog.godebug=none:=by kernel_rfl
theorem Tryz.laidOut:laidOutB Tryz.prog=true:=by kernel_rfl
theorem no_tab:Tryz.prog.globalNamed "internal/strconv.uint64pow10" = none:=by kernel_rfl
set_option maxRecDepth 100000 in
theorem watchCoin_lifted (os:Os) (started:os.Started) (H:Type) (enc:TypeId×Value->H):
 ReturnsInHanded {} Tryz.checked os 5 .any (Rows.watchCoinSpec.pre6 enc Tryz.prog Tryz.f5 Rows.watchCoinRow.domain false) (Rows.watchCoinSpec.post enc Tryz.prog Tryz.f5 false true false false):=by
 refine returnsInHanded_of_change (C:=Tryz.checked) Tryz.own started (by kernel_rfl) Tryz.func5
  (ChangeSpec.witness6 (enc:=enc) (C:=Tryz.checked) false ⟨#[],#[.int .i64 0,.int .i64 0],[]⟩ 8 (by kernel_rfl) (by kernel_rfl) (by kernel_rfl) (by kernel_rfl)) ?_
 intro W base args ds gs before hval0 hW _ _
 have hval:∀ (j:Nat) t v,Tryz.f5.params[j]?=some t->args[j]?=some v->Value.okWide Tryz.prog W .any base t v:=hval0
 have hW':=hW
 obtain⟨p,q,hA0,hV,hp,_,_⟩:=hW
 have hA:DataW.TrodAll enc Tryz.prog W 0 (fun _=>true) true Tryz.f5.params.toList args.toList ds p:=hA0
 rw[Tryz.params5] at hA hval
 obtain⟨v0,v1,d0,d1,p0,p1,rfl,rfl,rfl,h0,h1⟩:=trodAll_two hA
 obtain⟨rfl,rfl⟩:=trodVars_none hV
 obtain⟨x0,r0,w0⟩:=arg_flat (F:=fun b=>b<W.heap.size) (ι:=noRef) (n:=4) (ty:=.int .i64) (by kernel_rfl) (hval 0 3 v0 rfl rfl) h0
 obtain⟨x1,r1,w1⟩:=arg_flat (F:=fun b=>b<W.heap.size) (ι:=noRef) (n:=4) (ty:=.int .i64) (by kernel_rfl) (hval 1 3 v1 rfl rfl) h1
 refine ((B.s_WatchCoin x0 x1 w0.1 (Int.lt_of_le_of_lt w0.2 (by decide))).run W (fun b=>b<W.heap.size) [v0,v1] (fun _ h=>h) (Gl.none no_tab W) ⟨r0,r1,trivial⟩).mono ?_
 rintro e W' ⟨v,r,rfl,hr,rfl,hb⟩
 rw[q0q] at hr
 subst hr
 exact⟨_,rfl,law_post hW' rfl Tryz.laidOut (by kernel_rfl) rfl rfl Tryz.underlying4 hb⟩
theorem watchCoin_holds:Rows.WatchCoinSaid:=
 OpenClaim.holds_of_wide 5 Tryz.f5 rfl rfl rfl rfl rfl rfl rfl ⟨rfl,rfl,rfl,rfl,rfl⟩ rfl rfl rfl rfl rfl (by kernel_rfl) Tryz.func5 (by kernel_rfl)
  (of_decide_eq_true (by kernel_rfl)) (by unfold Func.isWrapper;rw[if_neg (of_decide_eq_false (by kernel_rfl))];exact⟨rfl,rfl⟩)
  (fun os started H enc _=>watchCoin_lifted os started H enc)
end Go.Proofs.YthdhckgmbfkglaaGreat
