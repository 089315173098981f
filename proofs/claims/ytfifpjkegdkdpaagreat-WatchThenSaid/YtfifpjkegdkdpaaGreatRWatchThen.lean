/- The law WatchThen answers true at every input, and what it is given reads behind the call as it read before: no condition. -/
import Derived.Test.YtfifpjkegdkdpaaGreatRows
import Derived.Test.YtfifpjkegdkdpaaGreatA7
import Derived.Test.YtfifpjkegdkdpaaGreatA14
set_option linter.unusedVariables false
namespace Go.Proofs.YtfifpjkegdkdpaaGreat
open Go.ChangeShapes Go.WideShapes Go.ChangeAt Go.RowKit Go.VM Go.Proofs.Pf
theorem Tryz.own:ownKnob Tryz.prog.godebug=none:=by kernel_rfl
theorem Tryz.laidOut:laidOutB Tryz.prog=true:=by kernel_rfl
theorem no_tab:Tryz.prog.globalNamed "internal/strconv.uint64pow10" = none:=by kernel_rfl
set_option maxRecDepth 100000 in
theorem watchThen_lifted (os:Os) (started:os.Started) (H:Type) (enc:TypeId×Value->H):
 ReturnsInHanded {} Tryz.checked os 4 .any (Rows.watchThenSpec.pre6 enc Tryz.prog Tryz.f4 Rows.watchThenRow.domain false) (Rows.watchThenSpec.post enc Tryz.prog Tryz.f4 false true false false):=by
 refine returnsInHanded_of_change (C:=Tryz.checked) Tryz.own started (by kernel_rfl) Tryz.func4
  (ChangeSpec.witness6 (enc:=enc) (C:=Tryz.checked) false ⟨#[],#[.agg #[.slice none 0 0],.slice none 0 0,.slice none 0 0,.int .i64 0],[]⟩ 8 (by kernel_rfl) (by kernel_rfl) (by kernel_rfl) (by kernel_rfl)) ?_
 intro W base args ds gs before hval0 hW _ _
 have hval:∀ (j:Nat) t v,Tryz.f4.params[j]?=some t->args[j]?=some v->Value.okWide Tryz.prog W .any base t v:=hval0
 have hW':=hW
 obtain⟨p,q,hA0,hV,hp,_,_⟩:=hW
 have hA:DataW.TrodAll enc Tryz.prog W 0 (fun _=>true) true Tryz.f4.params.toList args.toList ds p:=hA0
 rw[Tryz.params4] at hA hval
 obtain⟨v0,v1,v2,v3,d0,d1,d2,d3,p0,p1,p2,p3,rfl,rfl,rfl,h0,h1,h2,h3⟩:=trodAll_four hA
 obtain⟨rfl,rfl⟩:=trodVars_none hV
 obtain⟨x0,r0,w0⟩:=arg_any (F:=fun b=>b<W.heap.size) (ι:=noRef) (n:=12) (ty:=tMo) (fun _ h=>h) (by kernel_rfl) (hval 0 24 v0 rfl rfl) h0
 obtain⟨x1,r1,w1⟩:=arg_any (F:=fun b=>b<W.heap.size) (ι:=noRef) (n:=8) (ty:=.sl tNum) (fun _ h=>h) (by kernel_rfl) (hval 1 25 v1 rfl rfl) h1
 obtain⟨x2,r2,w2⟩:=arg_any (F:=fun b=>b<W.heap.size) (ι:=noRef) (n:=4) (ty:=tL) (fun _ h=>h) (by kernel_rfl) (hval 2 26 v2 rfl rfl) h2
 obtain⟨x3,r3,w3⟩:=arg_flat (F:=fun b=>b<W.heap.size) (ι:=noRef) (n:=4) (ty:=.int .i64) (by kernel_rfl) (hval 3 3 v3 rfl rfl) h3
 refine ((B.s_WatchThen x0 x1 x2 x3).run W (fun b=>b<W.heap.size) [v0,v1,v2,v3] (fun _ h=>h) (Gl.none no_tab W) ⟨r0,r1,r2,r3,trivial⟩).mono ?_
 rintro e W' ⟨v,r,rfl,hr,rfl,hb⟩
 rw[q0t] at hr
 subst hr
 exact⟨_,rfl,law_post hW' rfl Tryz.laidOut (by kernel_rfl) rfl rfl Tryz.underlying4 hb⟩
theorem watchThen_holds:Rows.WatchThenSaid:=
 OpenClaim.holds_of_wide 4 Tryz.f4 rfl rfl rfl rfl rfl rfl rfl ⟨rfl,rfl,rfl,rfl,rfl⟩ rfl rfl rfl rfl rfl (by kernel_rfl) Tryz.func4 (by kernel_rfl)
  (of_decide_eq_true (by kernel_rfl)) (by unfold Func.isWrapper;rw[if_neg (of_decide_eq_false (by kernel_rfl))];exact⟨rfl,rfl⟩)
  (fun os started H enc _=>watchThen_lifted os started H enc)
end Go.Proofs.YtfifpjkegdkdpaaGreat
