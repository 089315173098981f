/- The law WatchOwn answers true at every input, and what it is given reads behind the call as it read before: no condition. -/
import Derived.Test.YtfifpjkegdkdpaaGreatRows
import Derived.Test.YtfifpjkegdkdpaaGreatA7
import Derived.Test.YtfifpjkegdkdpaaGreatA13
set_option linter.unusedVariables false
namespace Go.Proofs.YtfifpjkegdkdpaaGreat
open Go.ChangeShapes Go.WideShapes Go.ChangeAt Go.RowKit Go.VM Go.Proofs.Pf
theorem Tryz.own:ownKnob Tryz.prog.godebug=none:=by kernel_rfl
theorem Tryz.laidOut:laidOutB Tryz.prog=true:=by kernel_rfl
theorem no_tab:Tryz.prog.globalNamed "internal/strconv.uint64pow10" = none:=by kernel_rfl
set_option maxRecDepth 100000 in
theorem watchOwn_lifted (os:Os) (started:os.Started) (H:Type) (enc:TypeId×Value->H):
 ReturnsInHanded {} Tryz.checked os 5 .any (Rows.watchOwnSpec.pre6 enc Tryz.prog Tryz.f5 Rows.watchOwnRow.domain false) (Rows.watchOwnSpec.post enc Tryz.prog Tryz.f5 false true false false):=by
 refine returnsInHanded_of_change (C:=Tryz.checked) Tryz.own started (by kernel_rfl) Tryz.func5
  (ChangeSpec.witness6 (enc:=enc) (C:=Tryz.checked) false ⟨#[],#[.agg #[.slice none 0 0],.slice none 0 0,.slice none 0 0,.int .i64 0,.int .i64 0,.int .i64 0],[]⟩ 8 (by kernel_rfl) (by kernel_rfl) (by kernel_rfl) (by kernel_rfl)) ?_
 intro W base args ds gs before hval0 hW _ _
 have hval:∀ (j:Nat) t v,Tryz.f5.params[j]?=some t->args[j]?=some v->Value.okWide Tryz.prog W .any base t v:=hval0
 have hW':=hW
 obtain⟨p,q,hA0,hV,hp,_,_⟩:=hW
 have hA:DataW.TrodAll enc Tryz.prog W 0 (fun _=>true) true Tryz.f5.params.toList args.toList ds p:=hA0
 rw[Tryz.params5] at hA hval
 obtain⟨v0,v1,v2,v3,v4,v5,d0,d1,d2,d3,d4,d5,p0,p1,p2,p3,p4,p5,rfl,rfl,rfl,h0,h1,h2,h3,h4,h5⟩:=trodAll_six hA
 obtain⟨rfl,rfl⟩:=trodVars_none hV
 obtain⟨x0,r0,w0⟩:=arg_any (F:=fun b=>b<W.heap.size) (ι:=noRef) (n:=12) (ty:=tMo) (fun _ h=>h) (by kernel_rfl) (hval 0 24 v0 rfl rfl) h0
 obtain⟨x1,r1,w1⟩:=arg_any (F:=fun b=>b<W.heap.size) (ι:=noRef) (n:=8) (ty:=.sl tNum) (fun _ h=>h) (by kernel_rfl) (hval 1 25 v1 rfl rfl) h1
 obtain⟨x2,r2,w2⟩:=arg_any (F:=fun b=>b<W.heap.size) (ι:=noRef) (n:=4) (ty:=tL) (fun _ h=>h) (by kernel_rfl) (hval 2 26 v2 rfl rfl) h2
 obtain⟨x3,r3,w3⟩:=arg_flat (F:=fun b=>b<W.heap.size) (ι:=noRef) (n:=4) (ty:=.int .i64) (by kernel_rfl) (hval 3 3 v3 rfl rfl) h3
 obtain⟨x4,r4,w4⟩:=arg_flat (F:=fun b=>b<W.heap.size) (ι:=noRef) (n:=4) (ty:=.int .i64) (by kernel_rfl) (hval 4 3 v4 rfl rfl) h4
 obtain⟨x5,r5,w5⟩:=arg_flat (F:=fun b=>b<W.heap.size) (ι:=noRef) (n:=4) (ty:=.int .i64) (by kernel_rfl) (hval 5 3 v5 rfl rfl) h5
 refine ((B.s_WatchOwn x0 x1 x2 x3 x4 x5).run W (fun b=>b<W.heap.size) [v0,v1,v2,v3,v4,v5] (fun _ h=>h) (Gl.none no_tab W) ⟨r0,r1,r2,r3,r4,r5,trivial⟩).mono ?_
 rintro e W' ⟨v,r,rfl,hr,rfl,hb⟩
 rw[q0l] at hr
 subst hr
 exact⟨_,rfl,law_post hW' rfl Tryz.laidOut (by kernel_rfl) rfl rfl Tryz.underlying4 hb⟩
theorem watchOwn_holds:Rows.WatchOwnSaid:=
 OpenClaim.holds_of_wide 5 Tryz.f5 rfl rfl rfl rfl rfl rfl rfl ⟨rfl,rfl,rfl,rfl,rfl⟩ rfl rfl rfl rfl rfl (by kernel_rfl) Tryz.func5 (by kernel_rfl)
  (of_decide_eq_true (by kernel_rfl)) (by unfold Func.isWrapper;rw[if_neg (of_decide_eq_false (by kernel_rfl))];exact⟨rfl,rfl⟩)
  (fun os started H enc _=>watchOwn_lifted os started H enc)
end Go.Proofs.YtfifpjkegdkdpaaGreat
