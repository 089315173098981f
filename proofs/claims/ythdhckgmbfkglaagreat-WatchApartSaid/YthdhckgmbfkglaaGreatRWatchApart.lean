/- The law WatchApart answers true at every input, and what it is given reads behind the call as it read before: no condition. -/
import Derived.Test.YthdhckgmbfkglaaGreatRows
import Derived.Test.YthdhckgmbfkglaaGreatA7
import Derived.Test.YthdhckgmbfkglaaGreatA14
set_option linter.unusedVariables false
namespace Go.Proofs.YthdhckgmbfkglaaGreat
open Go.ChangeShapes Go.WideShapes Go.ChangeAt Go.RowKit Go.VM Go.Proofs.Pf
theorem Tryz.own:ownKnob Tryz.prog.godebug=none:=by kernel_rfl
theorem Tryz.laidOut:laidOutB Tryz.prog=true:=by kernel_rfl
theorem no_tab:Tryz.prog.globalNamed "internal/strconv.uint64pow10" = none:=by kernel_rfl
set_option maxRecDepth 100000 in
theorem watchApart_lifted (os:Os) (started:os.Started) (H:Type) (enc:TypeId×Value->H):
 ReturnsInHanded {} Tryz.checked os 4 .any (Rows.watchApartSpec.pre6 enc Tryz.prog Tryz.f4 Rows.watchApartRow.domain false) (Rows.watchApartSpec.post enc Tryz.prog Tryz.f4 false true false false):=by
 refine returnsInHanded_of_change (C:=Tryz.checked) Tryz.own started (by kernel_rfl) Tryz.func4
  (ChangeSpec.witness6 (enc:=enc) (C:=Tryz.checked) false ⟨#[],#[.agg #[.slice none 0 0],.int .i64 0,.int .i64 0],[]⟩ 8 (by kernel_rfl) (by kernel_rfl) (by kernel_rfl) (by kernel_rfl)) ?_
 intro W base args ds gs before hval0 hW _ _
 have hval:∀ (j:Nat) t v,Tryz.f4.params[j]?=some t->args[j]?=some v->Value.okWide Tryz.prog W .any base t v:=hval0
 have hW':=hW
 obtain⟨p,q,hA0,hV,hp,_,_⟩:=hW
 have hA:DataW.TrodAll enc Tryz.prog W 0 (fun _=>true) true Tryz.f4.params.toList args.toList ds p:=hA0
 rw[Tryz.params4] at hA hval
 obtain⟨v0,v1,v2,d0,d1,d2,p0,p1,p2,rfl,rfl,rfl,h0,h1,h2⟩:=trodAll_three hA
 obtain⟨rfl,rfl⟩:=trodVars_none hV
 obtain⟨x0,r0,w0⟩:=arg_any (F:=fun b=>b<W.heap.size) (ι:=noRef) (n:=12) (ty:=tMo) (fun _ h=>h) (by kernel_rfl) (hval 0 24 v0 rfl rfl) h0
 obtain⟨x1,r1,w1⟩:=arg_flat (F:=fun b=>b<W.heap.size) (ι:=noRef) (n:=4) (ty:=.int .i64) (by kernel_rfl) (hval 1 3 v1 rfl rfl) h1
 obtain⟨x2,r2,w2⟩:=arg_flat (F:=fun b=>b<W.heap.size) (ι:=noRef) (n:=4) (ty:=.int .i64) (by kernel_rfl) (hval 2 3 v2 rfl rfl) h2
 refine ((B.s_WatchApart x0 x1 x2).run W (fun b=>b<W.heap.size) [v0,v1,v2] (fun _ h=>h) (Gl.none no_tab W) ⟨r0,r1,r2,trivial⟩).mono ?_
 rintro e W' ⟨v,r,rfl,hr,rfl,hb⟩
 rw[q0r] at hr
 subst hr
 exact⟨_,rfl,law_post hW' rfl Tryz.laidOut (by kernel_rfl) rfl rfl Tryz.underlying4 hb⟩
theorem watchApart_holds:Rows.WatchApartSaid:=
 OpenClaim.holds_of_wide 4 Tryz.f4 rfl rfl rfl rfl rfl rfl rfl ⟨rfl,rfl,rfl,rfl,rfl⟩ rfl rfl rfl rfl rfl (by kernel_rfl) Tryz.func4 (by kernel_rfl)
  (of_decide_eq_true (by kernel_rfl)) (by unfold Func.isWrapper;rw[if_neg (of_decide_eq_false (by kernel_rfl))];exact⟨rfl,rfl⟩)
  (fun os started H enc _=>watchApart_lifted os started H enc)
end Go.Proofs.YthdhckgmbfkglaaGreat
