/- The law ModelRenames answers true at every input, and what it is given reads behind the call as it read before; the tables of the library that its row lists hold what the program's text lays (the card ties them): no other condition. -/
import Derived.Test.YtackcicjgkfefaaGreatDoorRows
import Derived.Test.YtackcicjgkfefaaGreatDoorTie
import Derived.Test.YtackcicjgkfefaaGreatDoorCards
import Derived.ProofKit
import Derived.LaidMore
import Derived.OpenShut
import Derived.Stop.Joined
import Derived.SevenTiedAt
import Derived.Test.YtackcicjgkfefaaGreatDoorA7
import Derived.Test.YtackcicjgkfefaaGreatDoorA16
set_option linter.unusedVariables false
namespace Go.Proofs.YtackcicjgkfefaaGreatDoor
open Go.ChangeShapes Go.WideShapes Go.ChangeAt Go.RowKit Go.VM Go.Proofs.Pf
theorem Tryz.own:ownKnob Tryz.prog.godebug=none:=by kernel_rfl
theorem Tryz.laidOut:laidOutB Tryz.prog=true:=by kernel_rfl
def laidL:List (String×DataW Unit):=Rows.modelRenamesRow.laid
theorem door_met (os:Os) (args:Array Value):laidMetH Tryz.prog laidL ((World.doorLaid Tryz.prog 400 os).forCall (fun _ _=>0) ⟨#[],args,[]⟩).memory:=
 laidMetH_of_parts3 (fuel:=80) (laidMet_of_run' 80 (by kernel_rfl) (by kernel_rfl)) (by kernel_rfl) (by kernel_rfl)
theorem tab_type:∃ g t n e,Tryz.prog.globalNamed "internal/strconv.uint64pow10" = some g/\(Tryz.prog.globals[g]?).map (·.type)=some t/\Tryz.prog.underlying t=some (.array n e) /\
 Tryz.prog.underlying e=some (.int .u64)/\Tryz.prog.cellsOf e=1/\Tryz.prog.cellsOf t=n:=
 ⟨0,154,20,105,by kernel_rfl,by kernel_rfl,by kernel_rfl,by kernel_rfl,by kernel_rfl,by kernel_rfl⟩
theorem laid_gl {W:World} (h:laidMetH Tryz.prog laidL W):Gl Tryz.prog W:=by
 rw[MakeChecks.laidMetH_plain _ _ _ (by kernel_rfl)] at h
 obtain⟨ps,⟨g0,t0,cs0,f0,p0,q0,hg0,ht0,hv0,hd0,⟨g1,t1,cs1,f1,p1,q1,hg1,ht1,hv1,hd1,⟨g2,t2,cs2,f2,p2,q2,hg2,ht2,hv2,hd2,_,_⟩,_⟩,_⟩,_,_⟩:=h
 obtain⟨g,t,n,e,hg,hty,ht,he,hce,hct⟩:=tab_type
 obtain rfl:=Option.some.inj (hg.symm.trans hg2)
 obtain rfl:=Option.some.inj (hty.symm.trans ht2)
 intro g hg'
 unfold Lib.TabIs
 rw[hv2,<-Lib.cells_of_tab (k:=.u64) (zs:=Lib.pow10Tab) ht he hce hct hd2]
set_option maxRecDepth 100000 in
theorem modelRenames_lifted (os:Os) (started:os.Started) (H:Type) (enc:TypeId×Value->H):
 ReturnsInHanded {} Tryz.checked os 3 .any (fun w args=>(Rows.modelRenamesSpec.pre enc Tryz.prog Tryz.f3 [] false w args/\laidMetH Tryz.prog laidL w)/\sizedMet enc Tryz.prog Tryz.f3 (OpenSpec.ofChange Rows.modelRenamesSpec) false w args)
  (Rows.modelRenamesSpec.post enc Tryz.prog Tryz.f3 false true false false):=by
 refine returnsInHanded_of_change_and (C:=Tryz.checked) (X:=fun w _=>laidMetH Tryz.prog laidL w) (fun _ _ _ hh h=>h.of_heap hh) Tryz.own started (by kernel_rfl) Tryz.func3
  (ChangeSpec.witness_shaped (enc:=enc) (C:=Tryz.checked) (os:=os) (X:=fun w _=>laidMetH Tryz.prog laidL w) false (World.doorLaid Tryz.prog 400 os) #[.agg #[.slice none 0 0],.slice none 0 0] 80 rfl (World.shaped_of_RefB (by kernel_rfl) (by kernel_rfl)) (by kernel_rfl) (by kernel_rfl) (by kernel_rfl) (door_met os _)) ?_
 intro W base args ds gs before hval0 hW _ _ hL _
 have hval:∀ (j:Nat) t v,Tryz.f3.params[j]?=some t->args[j]?=some v->Value.okWide Tryz.prog W .any base t v:=hval0
 have hW':=hW
 obtain⟨p,q,hA0,hV,hp,_,_⟩:=hW
 have hA:DataW.TrodAll enc Tryz.prog W 0 (fun _=>true) true Tryz.f3.params.toList args.toList ds p:=hA0
 rw[Tryz.params3] at hA hval
 obtain⟨v0,v1,d0,d1,p0,p1,rfl,rfl,rfl,h0,h1⟩:=trodAll_two hA
 obtain⟨rfl,rfl⟩:=trodVars_none hV
 obtain⟨x0,r0,w0⟩:=arg_any (F:=fun b=>b<W.heap.size) (ι:=noRef) (n:=12) (ty:=tMo) (fun _ h=>h) (by kernel_rfl) (hval 0 24 v0 rfl rfl) h0
 obtain⟨x1,r1,w1⟩:=arg_any (F:=fun b=>b<W.heap.size) (ι:=noRef) (n:=4) (ty:=tL) (fun _ h=>h) (by kernel_rfl) (hval 1 25 v1 rfl rfl) h1
 refine ((B.s_ModelRenames x0 x1).run W (fun b=>b<W.heap.size) [v0,v1] (fun _ h=>h) (laid_gl hL) ⟨r0,r1,trivial⟩).mono ?_
 rintro e W' ⟨v,r,rfl,hr,rfl,hb⟩
 rw[q0o] at hr
 subst hr
 exact⟨_,rfl,law_post hW' rfl Tryz.laidOut (by kernel_rfl) rfl rfl Tryz.underlying4 hb⟩
theorem modelRenames_row:Rows.ModelRenamesSaid:=
 OpenClaim.holds_of_wide 3 Tryz.f3 rfl rfl rfl rfl rfl rfl rfl ⟨rfl,rfl,rfl,rfl,rfl⟩ rfl rfl rfl rfl rfl (by kernel_rfl) Tryz.func3 (by kernel_rfl)
  (of_decide_eq_true (by kernel_rfl)) (by unfold Func.isWrapper;rw[if_neg (of_decide_eq_false (by kernel_rfl))];exact⟨rfl,rfl⟩)
  (fun os started H enc _=>modelRenames_lifted os started H enc)
theorem no_stand (f:FuncId) (fn:Func) (hf:Rows.modelRenamesCard.stood.row.func=Rows.modelRenamesRow.func/\Tryz.prog.funcNamed Rows.modelRenamesRow.func=some f) (hfn:Tryz.prog.funcs[f]?=some fn):
 false=Tryz.prog.looks []/\∀ (j:Nat) t,fn.params[j]?=some t->Tryz.prog.wantsStandIn t=false:=by
 obtain rfl:f=3:=(Option.some.inj ((show Tryz.prog.funcNamed Rows.modelRenamesRow.func=some 3 by kernel_rfl).symm.trans hf.2)).symm
 obtain rfl:fn=Tryz.f3:=(Option.some.inj (Tryz.func3.symm.trans hfn)).symm
 refine⟨by kernel_rfl,fun j t ht=>?_⟩
 have hall:(Tryz.f3.params.toList.all fun t=>!Tryz.prog.wantsStandIn t)=true:=by kernel_rfl
 have hm:t∈Tryz.f3.params.toList:=by
  rw[<-Array.getElem?_toList] at ht
  exact List.mem_of_getElem? ht
 simpa using List.all_eq_true.1 hall t hm
theorem modelRenames_holds:Rows.ModelRenamesCardSaid:=
 Claim7.holds_tied_plain_at .later [] [.data,.data,.data] true Rows.modelRenamesCard.stood.harness false
  modelRenames_row (fun _ h=>by cases h) (by kernel_rfl) (fun _ h=>by cases h) modelRenames_row_tie rfl ⟨rfl,rfl⟩ (by kernel_rfl) rfl
  (fun f fn hf hfn=>no_stand f fn ⟨rfl,hf⟩ hfn) (by kernel_rfl)
#print axioms modelRenames_holds
end Go.Proofs.YtackcicjgkfefaaGreatDoor
