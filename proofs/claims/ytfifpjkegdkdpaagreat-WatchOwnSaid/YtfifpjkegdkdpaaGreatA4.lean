/- Typed pure data, a condition on code that says what a call gives, what the code of each function comes to, and what each function gives. -/
import Derived.Lib.LaidTab
import Derived.Lib.ItoaNum
import Derived.Test.YtfifpjkegdkdpaaGreatA3
set_option linter.unusedVariables false
set_option linter.unusedSimpArgs false
set_option linter.unnecessarySimpa false
namespace Go.VM
open Go Go.RowKit
def noRef:Nat->Option Ref:=fun _=>none
def vreps (w:World) (F:Nat->Prop):List V->List Value->Prop
 | [],[]=>True
 | v :: vs,x :: xs=>vrep w F noRef v.t v.x x/\vreps w F vs xs
 | _,_=>False
def Gl (P:Program) (w:World):Prop:=∀ g,P.globalNamed "internal/strconv.uint64pow10" = some g->Lib.TabIs P w "internal/strconv.uint64pow10" .u64 Lib.pow10Tab
theorem Gl.below {P:Program} {w w':World} (h:Gl P w) (hb:Below w.heap.size w w'):Gl P w':=by
 intro g hg
 have h1:=h g hg
 unfold Lib.TabIs World.var? at h1 ⊢
 rw[hg] at h1 ⊢
 simp only[Option.bind_some] at h1 ⊢
 have hlt:g<w.heap.size:=by
  rcases Nat.lt_or_ge g w.heap.size with h' | h'
  . exact h'
  . rw[Array.getElem?_eq_none h'] at h1;cases h1
 rw[hb.block g hlt]
 exact h1
theorem Gl.none {P:Program} (h:P.globalNamed "internal/strconv.uint64pow10" = none) (w:World):Gl P w:=by
 intro g hg;rw[h] at hg;cases hg
structure callV (P:Program) (f:FuncId) (xs:List V) (rt:Ty) (Q:den rt->Prop):Prop where
 call:∀ args w,(callFunc f args).run P w=.ok (.enter f args) w
 ex:∃ r,Q r
 run:∀ (w:World) (F:Nat->Prop) (vals:List Value),(∀ b,F b->b<w.heap.size)->Gl P w->vreps w F xs vals->
  Calls P f vals.toArray w fun e w'=>∃ v r,e=.returned v/\vrep w' (fun k=>F k∨w.heap.size<=k) noRef rt r v/\Q r/\Below w.heap.size w w'
theorem callV.mono {P:Program} {f:FuncId} {xs:List V} {rt:Ty} {Q Q':den rt->Prop} (h:callV P f xs rt Q) (hq:∀ r,Q r->Q' r):callV P f xs rt Q':=
 ⟨h.call,let ⟨r,hr⟩:=h.ex;⟨r,hq r hr⟩,fun w F vals hF hg hv=>(h.run w F vals hF hg hv).mono fun _ _ ⟨v,r,h1,h2,h3,h4⟩=>⟨v,r,h1,h2,hq r h3,h4⟩⟩
def capsV:(t:Ty)->den t->Option (List V)
 | .unit,_=>some []
 | .pair a b,x=>match capsV b x.2 with
  | some l=>bif cellT a && frozen a then some (⟨a,x.1⟩ :: l) else none
  | none=>none
 | _,_=>none
def calleeOf (v:V):Option (FuncId×List V):=
 match v with
 | ⟨.cst (.fn f),_⟩=>some (f,[])
 | ⟨.clo f c,x⟩=>match capsV c x with
  | some l=>some (f,l)
  | none=>none
 | _=>none
theorem q6n {w:World} {F F':Nat->Prop} (hF:∀ b,F b->F' b):∀ {xs:List V} {l:List Value},vreps w F xs l->vreps w F' xs l
 | [],[],_=>trivial
 | [],_ :: _,h=>by simp[vreps] at h
 | x :: xs,[],h=>by simp[vreps] at h
 | x :: xs,v :: l,h=>⟨vrep_mono hF (fun _ _ h=>h) (fun _ _=>rfl) h.1,q6n hF h.2⟩
theorem vreps_append {w:World} {F:Nat->Prop}:∀ {xs ys:List V} {l1 l2:List Value},vreps w F xs l1->vreps w F ys l2->vreps w F (xs ++ ys) (l1 ++ l2)
 | [],ys,[],l2,_,h=>h
 | [],ys,_ :: _,l2,h,_=>by simp[vreps] at h
 | x :: xs,ys,[],l2,h,_=>by simp[vreps] at h
 | x :: xs,ys,v :: l1,l2,h,h2=>⟨h.1,vreps_append h.2 h2⟩
theorem q6F {w:World} {F:Nat->Prop} {ι:Nat->Option Ref}:∀ (t:Ty) (x:den t) (cs:List Value) (l:List V),rep w F ι t x cs->capsV t x=some l->vreps w F l cs
 | .unit,_,cs,l,h,hl=>by
  simp only[capsV,Option.some.injEq] at hl;subst hl
  simp only[rep] at h;subst h;trivial
 | .pair a b,x,cs,l,h,hl=>by
  simp only[capsV] at hl
  split at hl<;>try (simp at hl;done)
  rename_i l' hl'
  obtain⟨hc,rfl⟩:=bif_some hl
  simp only[Bool.and_eq_true] at hc
  simp only[rep] at h
  obtain⟨c1,c2,rfl,h1,h2⟩:=h
  have hlen:=rep_length _ _ _ h1
  have hw:width a=1:=by revert hc;cases a<;>simp[cellT,width]
  match c1,hlen with
  | [v],_=>
   exact⟨(vrep_cell hc.1).2 (rep_frozen _ _ _ hc.2 h1),q6F b x.2 c2 l' h2 hl'⟩
  | [],hlen=>simp[hw] at hlen
  | _ :: _ :: _,hlen=>simp[hw] at hlen
 | .int _,_,_,_,_,h | .bool,_,_,_,_,h | .str,_,_,_,_,h | .cst _,_,_,_,_,h | .sl _,_,_,_,_,h | .agg _,_,_,_,_,h | .arr _ _,_,_,_,_,h | .tup _,_,_,_,_,h
 | .ref _ _,_,_,_,_,h | .own _,_,_,_,_,h | .eref _ _,_,_,_,_,h | .fref _,_,_,_,_,h | .vw _,_,_,_,_,h | .clo _ _,_,_,_,_,h | .hd _,_,_,_,_,h | .her _ _,_,_,_,_,h | .bref _ _ _,_,_,_,_,h | .nul,_,_,_,_,h=>by simp[capsV] at h
theorem qag {w:World} {F:Nat->Prop} {ι:Nat->Option Ref} {v:V} {f:FuncId} {l:List V} {x:Value} (hv:vrep w F ι v.t v.x x) (h:calleeOf v=some (f,l)):
 ∃ caps:Array Value,x=.func (.func f) #[] caps/\vreps w F l caps.toList:=by
 obtain⟨t,y⟩:=v
 unfold calleeOf at h
 split at h<;>try (simp at h;done)
 . rename_i g _ e
   cases e
   simp only[Option.some.injEq,Prod.mk.injEq] at h
   obtain⟨rfl,rfl⟩:=h
   rw[q0r] at hv
   exact⟨#[],hv,trivial⟩
 . rename_i g c z e
   cases e
   split at h<;>try (simp at h;done)
   rename_i l' hl
   simp only[Option.some.injEq,Prod.mk.injEq] at h
   obtain⟨rfl,rfl⟩:=h
   rw[vrep_cell rfl] at hv
   simp only[rep] at hv
   obtain⟨caps,e,hr⟩:=hv
   simp only[List.cons.injEq,and_true] at e
   exact⟨caps,e,q6F _ _ _ _ hr hl⟩
def flat:Ty->Bool
 | .int _ | .bool | .str | .cst _ | .unit=>true
 | .pair a b=>flat a && flat b
 | .agg c=>flat c
 | .tup c=>flat c
 | .arr _ t=>flat t
 | _=>false
theorem q2o {w w':World} {F F':Nat->Prop} {ι ι':Nat->Option Ref}:∀ (t:Ty) (x:den t) (cs:List Value),flat t=true->rep w F ι t x cs->rep w' F' ι' t x cs
 | .int _,_,_,_,h | .bool,_,_,_,h | .str,_,_,_,h | .cst _,_,_,_,h | .unit,_,_,_,h=>by simpa only[rep] using h
 | .pair a b,x,_,hf,h=>by
  simp only[flat,Bool.and_eq_true] at hf
  simp only[rep] at h ⊢
  obtain⟨c1,c2,rfl,h1,h2⟩:=h
  exact⟨c1,c2,rfl,q2o a _ _ hf.1 h1,q2o b _ _ hf.2 h2⟩
 | .agg c,x,cs,hf,h=>by simp only[rep] at h ⊢;exact q2o c x cs hf h
 | .arr _ t,_,_,hf,h=>by simp only[rep] at h ⊢;exact⟨h.1,h.2.1,fun i y hy=>q2o t y _ hf (h.2.2 i y hy)⟩
 | .tup _,_,_,_,h=>by simp only[rep] at h
 | .sl _,_,_,hf,_ | .ref _ _,_,_,hf,_ | .own _,_,_,hf,_ | .eref _ _,_,_,hf,_ | .fref _,_,_,hf,_ | .vw _,_,_,hf,_ | .clo _ _,_,_,hf,_ | .hd _,_,_,hf,_ | .her _ _,_,_,hf,_ | .bref _ _ _,_,_,hf,_ | .nul,_,_,hf,_=>by simp[flat] at hf
theorem q1q {w:World} {F:Nat->Prop} {ι:Nat->Option Ref}:∀ (t:Ty) (x:den t) (cs:List Value),rep w F ι t x cs->rep w (fun k=>F k/\k<w.heap.size) ι t x cs
 | .int _,_,_,h | .bool,_,_,h | .str,_,_,h | .cst _,_,_,h | .unit,_,_,h=>by simpa only[rep] using h
 | .sl _,none,_,h=>by simpa only[rep] using h
 | .sl t,some l,_,h=>by
  simp only[rep] at h ⊢
  obtain⟨a,cap,rfl,hl,hr⟩:=h
  refine⟨a,cap,rfl,hl,fun hn=>?_⟩
  obtain⟨cells,el,fz,hs,hf',hb,hr⟩:=hr hn
  exact⟨cells,el,fz,hs,⟨hf',heap_lt hb⟩,hb,fun i y hy=>q1q t y _ (hr i y hy)⟩
 | .pair a b,x,_,h=>by
  simp only[rep] at h ⊢
  obtain⟨c1,c2,rfl,h1,h2⟩:=h
  exact⟨c1,c2,rfl,q1q a _ _ h1,q1q b _ _ h2⟩
 | .agg c,x,cs,h=>by simp only[rep] at h ⊢;exact q1q c x cs h
 | .arr _ t,_,_,h=>by simp only[rep] at h ⊢;exact⟨h.1,h.2.1,fun i y hy=>q1q t y _ (h.2.2 i y hy)⟩
 | .tup _,_,_,h=>by simp only[rep] at h
 | .ref _ _,_,_,h | .own _,_,_,h | .eref _ _,_,_,h | .vw _,_,_,h | .hd _,none,_,h | .hd _,some _,_,h | .her _ _,_,_,h | .bref _ _ _,_,_,h | .nul,_,_,h=>by simpa only[rep] using h
 | .clo _ c,_,_,h=>by simp only[rep] at h ⊢;obtain⟨caps,e,h⟩:=h;exact⟨caps,e,q1q c _ _ h⟩
 | .fref t,_,_,h=>by
  simp only[rep] at h ⊢
  obtain⟨blk,off,cells,el,fz,rfl,hf',hb,hr⟩:=h
  exact⟨blk,off,cells,el,fz,rfl,⟨hf',heap_lt hb⟩,hb,q1q t _ _ hr⟩
theorem q6m {w w':World} {F F':Nat->Prop} {ι ι':Nat->Option Ref} {ok:Ty->Bool} (hp:∀ a b,ok (.pair a b)=true->ok a=true/\ok b=true) (ht:∀ c,ok (.tup c)=true->ok c=true)
 (h:∀ (t:Ty) (x:den t) (cs:List Value),ok t=true->rep w F ι t x cs->rep w' F' ι' t x cs):∀ (t:Ty) (x:den t) (v:Value),ok t=true->vrep w F ι t x v->vrep w' F' ι' t x v:=by
 have h1:∀ (t:Ty) (x:den t) (v:Value),ok t=true->vrep1 w F ι t x v->vrep1 w' F' ι' t x v:=by
  intro t x v ho hv
  unfold vrep1 at hv ⊢
  cases ha:isAggT t<;>rw[ha] at hv
  . exact⟨hv.1,h _ _ _ ho hv.2⟩
  . obtain⟨cs,e,hv⟩:=hv;exact⟨cs,e,h _ _ _ ho hv⟩
 have h2:∀ (t:Ty) (x:den t) (vs:List Value),ok t=true->trep w F ι t x vs->trep w' F' ι' t x vs:=by
  intro t
  induction t with
  | unit=>intro x vs _ hv;simpa only[trep] using hv
  | pair a b _ ihb=>
   intro x vs ho hv
   simp only[trep] at hv ⊢
   obtain⟨v,vs',rfl,q1,q2⟩:=hv
   exact⟨v,vs',rfl,h1 _ _ _ (hp _ _ ho).1 q1,ihb _ _ (hp _ _ ho).2 q2⟩
  | _=>intro x vs _ hv;simp only[trep] at hv
 intro t x v ho hv
 cases t<;>simp only[vrep] at hv ⊢<;>first
  | exact h1 _ _ _ ho hv
  | (obtain⟨vs,e,hv⟩:=hv;exact⟨vs,e,h2 _ _ _ (ht _ ho) hv⟩)
def argV (hp:Nat->Option Blk) (pt:Ty) (v:V):Option V:=
 match pt with
 | .cst _=>match v with
  | ⟨.cst c,_⟩=>some ⟨.cst c,()⟩
  | ⟨.clo f c,x⟩=>bif frozen c then some ⟨.clo f c,x⟩ else none
  | _=>none
 | pt=>match coe hp pt v.t v.x with
  | some x=>bif valT pt && frozen pt then some ⟨pt,x⟩ else none
  | none=>none
def argsV (P:Program) (g:Operand->Option V) (hp:Nat->Option Blk):List Operand->List TypeId->Option (List V)
 | [],[]=>some []
 | x :: xs,t :: ts=>match tyOf P 12 t with
  | some pt=>match g x with
   | some v=>match argV hp pt v with
    | some u=>match argsV P g hp xs ts with
     | some us=>some (u :: us)
     | none=>none
    | none=>none
   | none=>none
  | none=>none
 | _,_=>none
def resT (P:Program) (t:TypeId):Option Ty:=
 match tyOf P 12 t with
 | some rt=>bif frozen rt then some rt else none
 | none=>none
structure ownV (P:Program) (f:FuncId) (xs:List V) (t:Ty) (Q:Option (List (den t))->Prop):Prop where
 call:∀ args w,(callFunc f args).run P w=.ok (.enter f args) w
 ex:∃ r,Q r
 run:∀ (w:World) (F:Nat->Prop) (vals:List Value),(∀ b,F b->b<w.heap.size)->Gl P w->vreps w F xs vals->
  Calls P f vals.toArray w fun e w'=>∃ (r:Ref) (l:Option (List (den t))),e=.returned r.val/\(∃ F':Nat->Prop,(∀ k,F k->F' k)/\(∀ k,F' k->(F k∨w.heap.size<=k)/\k<w'.heap.size)/\brep w' (freshM (u8of P) w.heap.size) F' noRef r (.arr t l))/\Q l/\Below w.heap.size w w'
theorem ownV.mono {P:Program} {f:FuncId} {xs:List V} {t:Ty} {Q Q':Option (List (den t))->Prop} (h:ownV P f xs t Q) (hq:∀ r,Q r->Q' r):ownV P f xs t Q':=
 ⟨h.call,let ⟨r,hr⟩:=h.ex;⟨r,hq r hr⟩,fun w F vals hF hg hv=>(h.run w F vals hF hg hv).mono fun _ _ ⟨v,r,h1,h2,h3,h4⟩=>⟨v,r,h1,h2,hq r h3,h4⟩⟩
def ownT (P:Program) (t:TypeId):Option Ty:=
 match resT P t with
 | some (.sl t)=>bif frozen t then some t else none
 | _=>none
def cutS:Ty->Ty×List Ty
 | .sl t=>(.own 0,[t])
 | .pair a b=>(.pair (cutS a).1 (cutS b).1,(cutS a).2 ++ (cutS b).2)
 | .agg c=>(.agg (cutS c).1,(cutS c).2)
 | t=>(t,[])
def q1N:Ty->Bool
 | .own c=>Nat.beq c 0
 | .pair a b=>q1N a && q1N b
 | .agg c=>q1N c
 | t=>frozen t
def ownAT (P:Program) (t:TypeId):Option (Ty×Ty):=
 match resT P t with
 | some (.agg c)=>match (cutS c).2 with
  | [u]=>bif frozen u && q1N (cutS c).1 then some (.agg (cutS c).1,u) else none
  | _=>none
 | _=>none
def holeT (d:Nat):Ty->Ty
 | .own _=>.own d
 | .pair a b=>.pair (holeT d a) (holeT d b)
 | .agg c=>.agg (holeT d c)
 | t=>t
def holeX (d:Nat):(t:Ty)->den t->den (holeT d t)
 | .own _,x=>x
 | .pair a b,x=>(holeX d a x.1,holeX d b x.2)
 | .agg c,x=>holeX d c x
 | .int _,x=>x
 | .bool,x=>x
 | .str,x=>x
 | .cst _,x=>x
 | .sl _,x=>x
 | .unit,x=>x
 | .arr _ _,x=>x
 | .tup _,x=>x
 | .ref _ _,x=>x
 | .eref _ _,x=>x
 | .fref _,x=>x
 | .vw _,x=>x
 | .clo _ _,x=>x
 | .hd _,x=>x
 | .her _ _,x=>x
 | .bref _ _ _,x=>x
 | .nul,x=>x
theorem hole_rep {w:World} {F:Nat->Prop} {ι ι':Nat->Option Ref} {d:Nat} (h0:∀ r,ι 0=some r->ι' d=some r):∀ (t:Ty) (x:den t) (cs:List Value),q1N t=true->rep w F ι t x cs->rep w F ι' (holeT d t) (holeX d t x) cs/\rep w F (upd (fun _=>none) 0 (ι 0)) t x cs:=by
 intro t
 induction t with
 | own c=>
  intro x cs ho h
  have:c=0:=Nat.eq_of_beq_eq_true ho
  subst this
  simp only[rep] at h
  obtain⟨r,hr,e⟩:=h
  exact⟨⟨r,h0 r hr,e⟩,⟨r,by rw[hr];rfl,e⟩⟩
 | pair a b iha ihb=>
  intro x cs ho h
  simp only[q1N,Bool.and_eq_true] at ho
  simp only[rep] at h
  obtain⟨c1,c2,rfl,h1,h2⟩:=h
  obtain⟨a1,a2⟩:=iha _ _ ho.1 h1
  obtain⟨b1,b2⟩:=ihb _ _ ho.2 h2
  exact⟨⟨c1,c2,rfl,a1,b1⟩,⟨c1,c2,rfl,a2,b2⟩⟩
 | agg c ih=>intro x cs ho h;exact ih _ _ ho h
 | _=>intro x cs ho h;exact⟨rep_frozen _ _ _ ho h,rep_frozen _ _ _ ho h⟩
structure ownA (P:Program) (f:FuncId) (xs:List V) (rt t:Ty) (Q:den rt->Option (List (den t))->Prop):Prop where
 call:∀ args w,(callFunc f args).run P w=.ok (.enter f args) w
 ex:∃ x r,Q x r
 run:∀ (w:World) (F:Nat->Prop) (vals:List Value),(∀ b,F b->b<w.heap.size)->Gl P w->vreps w F xs vals->
  Calls P f vals.toArray w fun e w'=>∃ (v:Value) (r:Ref) (x:den rt) (l:Option (List (den t))),e=.returned v/\(∃ F':Nat->Prop,(∀ k,F k->F' k)/\(∀ k,F' k->(F k∨w.heap.size<=k)/\k<w'.heap.size)/\brep w' (freshM (u8of P) w.heap.size) F' noRef r (.arr t l)/\vrep w' F' (upd (fun _=>none) 0 (some r)) rt x v)/\Q x l/\Below w.heap.size w w'
theorem ownA.mono {P:Program} {f:FuncId} {xs:List V} {rt t:Ty} {Q Q':den rt->Option (List (den t))->Prop} (h:ownA P f xs rt t Q) (hq:∀ x r,Q x r->Q' x r):ownA P f xs rt t Q':=
 ⟨h.call,let ⟨x,r,hr⟩:=h.ex;⟨x,r,hq x r hr⟩,fun w F vals hF hg hv=>(h.run w F vals hF hg hv).mono fun _ _ ⟨v,r,x,l,h1,h2,h3,h4⟩=>⟨v,r,x,l,h1,h2,hq x l h3,h4⟩⟩
def ids:Ty->List Nat
 | .pair a b=>ids a ++ ids b
 | .agg c=>ids c
 | .tup c=>ids c
 | .arr _ t=>ids t
 | .sl t=>ids t
 | .fref t=>ids t
 | .ref b _=>[b]
 | .own b=>[b]
 | .eref b _=>[b]
 | .vw b=>[b]
 | .clo _ c=>ids c
 | .hd p=>[p]
 | .her p _=>[p]
 | .bref b _ _=>[b]
 | _=>[]
def memN (n:Nat):List Nat->Bool
 | []=>false
 | m :: l=>Nat.beq n m || memN n l
def okIds (bad:List Nat) (g:Operand->Option V):List Operand->Bool
 | []=>true
 | x :: xs=>(match g x with
  | some v=>(ids v.t).all fun b=>!memN b bad
  | none=>true) && okIds bad g xs
def okSt (bad:List Nat) (g:Operand->Option V):Op->Bool
 | .store _ (.tmp t) _=>bif memN 4294967295 bad then (match g (.tmp t) with
  | some ⟨.ref b _,_⟩=>Nat.beq b t
  | _=>false) else true
 | _=>true
def q1o:Option V->Bool
 | some ⟨.nul,_⟩=>true
 | _=>false
def ownS (g:Operand->Option V):Operand->Bool
 | .tmp n=>match g (.tmp n) with
  | some ⟨.own m,_⟩=>Nat.beq m n || Nat.beq m (n+500000)
  | _=>false
 | _=>false
def okAp (bad:List Nat) (g:Operand->Option V):Op->Bool
 | .call ⟨.builtin .append,args,_⟩=>(bif memN 4294967296 bad then (match args.toList with
  | s :: _=>q1o (g s)
  | []=>false) else true) && (bif memN 4294967297 bad then (match args.toList with
  | s :: _=>ownS g s
  | []=>false) else true)
 | _=>true
def okOp (bad:List Nat) (g:Operand->Option V) (op:Op):Bool:=okIds bad g op.operands.toList && (okSt bad g op && okAp bad g op)
def isEmp (P:Program):Op->Bool
 | .buildSlice t 0 ps=>ps.toList.isEmpty && (elemV P t).isSome
 | _=>false
def gvn (P:Program) (g:Operand->Option V) (hp:Nat->Option Blk) (op:Op):Option V:=
 bif isEmp P op then some ⟨.nul,()⟩ else match op with
  | .buildSlice _ _ _=>match evP P g hp op with
   | some (.new (.arr u l))=>bif frozen u then some ⟨.sl u,l⟩ else none
   | _=>none
  | _=>none
theorem gvn_lit {P:Program} {g:Operand->Option V} {hp:Nat->Option Blk} {op:Op} {v:V} (h:gvn P g hp op=some v) (he:isEmp P op=false):
 ∃ t len parts u l,op=.buildSlice t len parts/\evP P g hp op=some (.new (.arr u l))/\v=⟨.sl u,l⟩:=by
 unfold gvn at h
 rw[he] at h
 simp only[cond_false] at h
 cases op<;>try (simp at h;done)
 rename_i t len parts
 simp only at h
 split at h<;>try (simp at h;done)
 rename_i u l e
 obtain⟨_,h⟩:=bif_some h
 exact⟨t,len,parts,u,l,rfl,e,h.symm⟩
def appN (P:Program) (hp:Nat->Option Blk) (t t1:TypeId) (x:V):Option (Prop×V):=
 match elemV P t with
 | some (z,bytes)=>match srcV P hp z.t t1 x with
  | some ys=>bif frozen z.t then some (appC bytes (some ([]:List (den z.t))) (lst ys),⟨.sl z.t,appL (some []) (lst ys)⟩) else none
  | none=>none
 | none=>none
def frz (b:Nat) (tl:Ty) (l:Option (List (den tl))):(t:Ty)->den t->V
 | .own c,_=>bif Nat.beq c b then ⟨.sl tl,l⟩ else ⟨.own c,()⟩
 | .pair x y,p=>⟨.pair (frz b tl l x p.1).t (frz b tl l y p.2).t,((frz b tl l x p.1).x,(frz b tl l y p.2).x)⟩
 | .agg c,p=>⟨.agg (frz b tl l c p).t,(frz b tl l c p).x⟩
 | .int k,x=>⟨.int k,x⟩
 | .bool,x=>⟨.bool,x⟩
 | .str,x=>⟨.str,x⟩
 | .cst c,x=>⟨.cst c,x⟩
 | .sl t,x=>⟨.sl t,x⟩
 | .unit,x=>⟨.unit,x⟩
 | .arr n t,x=>⟨.arr n t,x⟩
 | .tup c,x=>⟨.tup c,x⟩
 | .ref c o,x=>⟨.ref c o,x⟩
 | .eref c o,x=>⟨.eref c o,x⟩
 | .fref t,x=>⟨.fref t,x⟩
 | .vw c,x=>bif Nat.beq c b then ⟨.sl tl,slcS l (x:Int×Int).1 (x:Int×Int).2⟩ else ⟨.vw c,x⟩
 | .clo f c,x=>⟨.clo f c,x⟩
 | .hd p,x=>⟨.hd p,x⟩
 | .her p o,x=>⟨.her p o,x⟩
 | .bref b w n,x=>⟨.bref b w n,x⟩
 | .nul,x=>⟨.nul,x⟩
theorem frz_hd (b:Nat) (tl:Ty) (l:Option (List (den tl))) (t:Ty) (x:den t):hdT (frz b tl l t x).t=hdT t:=by
 cases t with
 | own c=>simp only[frz];cases Nat.beq c b<;>rfl
 | vw c=>simp only[frz];cases Nat.beq c b<;>rfl
 | _=>rfl
theorem frz_hd2 (b:Nat) (tl:Ty) (l:Option (List (den tl))) (t:Ty) (x:den t):hd2 (frz b tl l t x).t=hd2 t:=by
 cases t with
 | own c=>simp only[frz];cases Nat.beq c b<;>rfl
 | vw c=>simp only[frz];cases Nat.beq c b<;>rfl
 | agg c=>cases c with
  | pair u v=>
   show (hdT (frz b tl l u (x:den u×den v).1).t,hdT (frz b tl l v (x:den u×den v).2).t)=(hdT u,hdT v)
   rw[frz_hd,frz_hd]
  | own c=>simp only[frz];cases Nat.beq c b<;>rfl
  | vw c=>simp only[frz];cases Nat.beq c b<;>rfl
  | _=>rfl
 | _=>rfl
def frzE (b:Nat) (t:Ty) (l:Option (List (den t))):Option V->Option V
 | some v=>some (frz b t l v.t v.x)
 | none=>none
def frzB (b:Nat) (t:Ty) (l:Option (List (den t))):Option Blk->Option Blk
 | some (.box u x)=>some (.box (frz b t l u x).t (frz b t l u x).x)
 | k=>k
def frx (b:Nat) (tb:Ty) (y:den tb):(t:Ty)->den t->V
 | .ref c o,_=>bif Nat.beq c b && Nat.beq o 0 then ⟨.fref tb,y⟩ else ⟨.ref c o,()⟩
 | .pair u v,p=>⟨.pair (frx b tb y u p.1).t (frx b tb y v p.2).t,((frx b tb y u p.1).x,(frx b tb y v p.2).x)⟩
 | .agg c,p=>⟨.agg (frx b tb y c p).t,(frx b tb y c p).x⟩
 | .clo f c,p=>⟨.clo f (frx b tb y c p).t,(frx b tb y c p).x⟩
 | .own c,x=>⟨.own c,x⟩
 | .int k,x=>⟨.int k,x⟩
 | .bool,x=>⟨.bool,x⟩
 | .str,x=>⟨.str,x⟩
 | .cst c,x=>⟨.cst c,x⟩
 | .sl t,x=>⟨.sl t,x⟩
 | .unit,x=>⟨.unit,x⟩
 | .arr n t,x=>⟨.arr n t,x⟩
 | .tup c,x=>⟨.tup c,x⟩
 | .eref c o,x=>⟨.eref c o,x⟩
 | .fref t,x=>⟨.fref t,x⟩
 | .vw c,x=>⟨.vw c,x⟩
 | .hd p,x=>⟨.hd p,x⟩
 | .her p o,x=>⟨.her p o,x⟩
 | .bref b w n,x=>⟨.bref b w n,x⟩
 | .nul,x=>⟨.nul,x⟩
theorem frx_hd (b:Nat) (tl:Ty) (l:den tl) (t:Ty) (x:den t):hdT (frx b tl l t x).t=hdT t:=by
 cases t with
 | ref c o=>simp only[frx];cases (Nat.beq c b && Nat.beq o 0)<;>rfl
 | _=>rfl
theorem frx_hd2 (b:Nat) (tl:Ty) (l:den tl) (t:Ty) (x:den t):hd2 (frx b tl l t x).t=hd2 t:=by
 cases t with
 | ref c o=>simp only[frx];cases (Nat.beq c b && Nat.beq o 0)<;>rfl
 | agg c=>cases c with
  | pair u v=>
   show (hdT (frx b tl l u (x:den u×den v).1).t,hdT (frx b tl l v (x:den u×den v).2).t)=(hdT u,hdT v)
   rw[frx_hd,frx_hd]
  | ref c o=>simp only[frx];cases (Nat.beq c b && Nat.beq o 0)<;>rfl
  | _=>rfl
 | _=>rfl
def frxE (b:Nat) (t:Ty) (y:den t):Option V->Option V
 | some v=>some (frx b t y v.t v.x)
 | none=>none
def frxB (b:Nat) (t:Ty) (y:den t):Option Blk->Option Blk
 | some (.box u x)=>some (.box (frx b t y u x).t (frx b t y u x).x)
 | k=>k
def St.freeze (st:St) (b:Nat):Option St:=
 match st.heap b with
 | some (.box t y)=>bif frozen t then some ⟨fun s=>frxE b t y (st.env s),fun c=>bif Nat.beq c b then none else frxB b t y (st.heap c),st.used⟩ else none
 | some (.arr t l)=>some ⟨fun s=>frzE b t l (st.env s),fun c=>bif Nat.beq c b then none else frzB b t l (st.heap c),st.used⟩
 | _=>none
def opW (P:Program) (N:Nat) (ow:Bool) (o:Oper) (K:St->Prop) (st:St):Prop:=
 match o.dst with
 | none=>match o.op with
  | .store t x v=>match tinf P t with
   | some (_,n)=>match st.val x with
    | some vx=>match st.val v with
     | some vv=>match storeV st.heap n vx vv with
      | some (b,k)=>K { st with heap:=upd st.heap b (some k) }
      | none=>False
     | none=>False
    | none=>False
   | none=>False
  | .call ⟨.builtin .clear,args,ts⟩=>match args.toList,ts.toList with
   | [x],[t]=>match st.val x with
    | some vx=>match clearV P st.heap t vx with
     | some (b,k)=>K { st with heap:=upd st.heap b (some k) }
     | none=>False
    | none=>False
   | _,_=>False
  | _=>False
 | some d=>bif Nat.blt d N then match o.op with
  | .call ⟨.value f,args,ts⟩=>match st.val f with
   | some fv=>match calleeOf fv with
    | some (f,caps)=>bif ow then match ownT P o.type with
     | some t=>match argsV P st.val (bif flat t then st.heap else q0e) args.toList ts.toList with
      | some xs=>bif st.used d then False else ownV P f (xs ++ caps) t fun l=>K ((st.new d (.arr t l)).put d (some ⟨.own d,()⟩))
      | none=>False
     | none=>match ownAT P o.type with
      | some z=>match argsV P st.val q0e args.toList ts.toList with
       | some xs=>bif st.used d then False else ownA P f (xs ++ caps) z.1 z.2 fun x l=>K ((st.new d (.arr z.2 l)).put d (some ⟨holeT d z.1,holeX d z.1 x⟩))
       | none=>False
      | none=>False
     else match resT P o.type with
     | some rt=>match argsV P st.val (bif flat rt then st.heap else q0e) args.toList ts.toList with
      | some xs=>callV P f (xs ++ caps) rt fun r=>K (st.put d (some ⟨rt,r⟩))
      | none=>False
     | none=>False
    | none=>False
   | none=>False
  | .call ⟨.builtin .append,args,ts⟩=>match args.toList,ts.toList with
   | [s,x],[t,t1]=>match st.val s with
    | some vs=>bif q1o (some vs) then (match st.val x with
     | some vx=>match appN P st.heap t t1 vx with
      | some (c,v)=>c/\K (st.put d (some v))
      | none=>False
     | none=>False) else match st.val x with
     | some vx=>match q0X P st.heap t t1 vs vx with
      | some (b,c,k)=>bif st.used d then False else bif ow
       then match k with
        | .arr u l=>c/\K ((((st.killO b).new d k).kill d).put d (some ⟨.sl u,l⟩))
        | _=>False
       else c/\K (((st.killO b).new d k).put d (some ⟨.own d,()⟩))
      | none=>False
     | none=>False
    | none=>False
   | _,_=>False
  | .call ⟨.builtin .copy,args,ts⟩=>match args.toList,ts.toList with
   | [s,x],[t,_]=>match st.val s with
    | some vs=>match st.val x with
     | some vx=>match copyV P st.heap t vs vx with
      | some (b,k,n)=>K (St.put { st with heap:=upd st.heap b (some k) } d (some ⟨.int .i64,n⟩))
      | none=>False
     | none=>False
    | none=>False
   | _,_=>False
  | .call ⟨.builtin .unsafeString,args,ts⟩=>match args.toList,ts.toList with
   | [x,n],[pt,_]=>match st.val x with
    | some vx=>match st.val n with
     | some vn=>match ustrV P st.heap pt vx vn with
      | some (b,c,s)=>c/\K ((st.kill b).put d (some ⟨.str,s⟩))
      | none=>False
     | none=>False
    | none=>False
   | _,_=>False
  | op=>bif ow then (match gvn P st.val st.heap op with
   | some v=>K (st.put d (some v))
   | none=>False) else match evP P st.val st.heap op with
   | some (.val v)=>K (st.put d (some v))
   | some (.cond c v)=>c/\K (st.put d (some v))
   | some (.new k)=>bif st.used d then False else K ((st.new d k).put d (some (tagV k d)))
   | some (.newc c k)=>bif st.used d then False else c/\K ((st.new d k).put d (some (tagV k d)))
   | none=>False
  else False
def brV (b:Bool) (A B:Prop):Prop:=
 match b with
 | true=>A
 | false=>B
theorem q01 {b:Bool} {A B:Prop}:brV b A B↔(b=true->A)/\(b=false->B):=by cases b<;>simp[brV]
def St.skip (st:St) (d:Option Nat):St:=
 match d with
 | some d=>st.put d (some ⟨.tup .unit,()⟩)
 | none=>st
def dstOf (ops:Array Oper) (j:Nat):Option Nat:=
 match ops.toList[j]? with
 | some o=>o.dst
 | none=>none
def regW (P:Program) (N:Nat) (ad:Nat->Bool) (ops:Array Oper) (bad:Nat->List Nat):List Nat->(St->Prop)->St->Prop
 | [],K,st=>K st
 | i :: r,K,st=>match ops.toList[i]? with
  | none=>regW P N ad ops bad r K st
  | some o=>bif okOp (bad i) st.val o.op then match o.guard with
   | none=>opW P N (ad i) o (regW P N ad ops bad r K) st
   | some (j,want)=>match dstOf ops j with
    | some dj=>match st.env dj with
     | some ⟨.bool,b⟩=>brV b
      (bif want then opW P N (ad i) o (regW P N ad ops bad r K) (st.put dj (some ⟨.bool,true⟩)) else regW P N ad ops bad r K ((st.put dj (some ⟨.bool,true⟩)).skip o.dst))
      (bif want then regW P N ad ops bad r K ((st.put dj (some ⟨.bool,false⟩)).skip o.dst) else opW P N (ad i) o (regW P N ad ops bad r K) (st.put dj (some ⟨.bool,false⟩)))
     | some ⟨.tup .unit,_⟩=>regW P N ad ops bad r K (st.skip o.dst)
     | _=>False
    | none=>False
   else False
end Go.VM
namespace Go.VM
open Go Go.RowKit
section
variable {P:Program} {base:Mine} {w0 w:World} {F0:Nat->Prop} {N:Nat} {st:St} {a:Act}
def Ok (base:Mine) (w0:World) (F0:Nat->Prop) (N:Nat) (st:St) (a:Act) (w:World):Prop:=
 a.tmps.size=N/\∃ F ι,Sim base w0 F0 F ι st a w
theorem Sim.called {F:Nat->Prop} {ι:Nat->Option Ref} (h:Sim base w0 F0 F ι st a w) {w':World} (hb:Below w.heap.size w w') {F':Nat->Prop} (hF:∀ b,F b->F' b) (hF':∀ b,F' b->b<w'.heap.size/\(F b∨w.heap.size<=b)):
 Sim base w0 F0 F' ι st a w':=by
 have hblk:∀ b,b<w.heap.size->w'.heap[b]?=w.heap[b]?:=hb.block
 have hFb:∀ b,F b->w'.heap[b]?=w.heap[b]?:=fun b h'=>hblk b (h.fsize b h')
 refine⟨fun s v hv=>vrep_mono hF (fun _ _ h=>h) hFb (h.env s v hv),?_,h.used,h.apart,fun b hb'=>(hF' b hb').1,?_,?_,Nat.le_trans h.size hb.size,h.upin,h.pools,h.pin,h.defers⟩
 . intro b k hk
   obtain⟨r,hr,q⟩:=h.heap b k hk
   refine⟨r,hr,?_⟩
   cases k with
   | box t x=>
    obtain⟨q1,q2,q3,q4,q5,cells,el,qb,q6,q7⟩:=q
    have hlt:=heap_lt q6
    exact⟨q1,q2,q3,fun hf=>by rcases (hF' _ hf).2 with h1 | h1;exact q4 h1;omega,q5,cells,el,qb,(hblk _ hlt).trans q6,rep_mono hF (fun _ _ h=>h) hFb _ _ _ q7⟩
   | arr t l=>
    obtain⟨q0,q⟩:=q
    refine⟨q0,?_⟩
    cases l with
    | none=>exact q
    | some l=>
     obtain⟨q1,q2,q3,q4,q5,q6,cells,el,qe,q7,q8,q9⟩:=q
     have hlt:=heap_lt q7
     exact⟨q1,q2,q3,q4,q5,fun hf=>by rcases (hF' _ hf).2 with h1 | h1;exact q6 h1;omega,cells,el,qe,(hblk _ hlt).trans q7,q8,fun i y hy=>rep_mono hF (fun _ _ h=>h) hFb _ _ _ (q9 i y hy)⟩
   | pool p t ls=>exact q3f (fun _ _ h=>h) (fun _ h=>h) q hF hFb fun n l s _ _ h1 h2=>⟨fun hf=>by rcases (hF' _ hf).2 with h3 | h3;exact h1 h3;omega,hblk _ h2⟩
 . intro b hb'
   rcases (hF' b hb').2 with h1 | h1
   . exact h.fin b h1
   . exact .inr (.inl (Nat.le_trans h.size h1))
 . refine h.below.trans ⟨hb.os,hb.tape,hb.output,hb.size,fun k hk _=>hblk k (Nat.lt_of_lt_of_le hk h.size)⟩
theorem argV_ok {F F':Nat->Prop} {ι:Nat->Option Ref} {hp:Nat->Option Blk} (hF:∀ b,F b->F' b) (hh:Holds w F' ι hp) {pt:Ty} {v u:V} {x:Value} (hv:vrep w F ι v.t v.x x) (h:argV hp pt v=some u):vrep w F' noRef u.t u.x x:=by
 have key:∀ pt,(match coe hp pt v.t v.x with
  | some x=>bif valT pt && frozen pt then some (⟨pt,x⟩:V) else none
  | none=>none)=some u->vrep w F' noRef u.t u.x x:=by
  intro pt h
  split at h<;>try (simp at h;done)
  rename_i y hy
  obtain⟨hc,rfl⟩:=bif_some h
  simp only[Bool.and_eq_true] at hc
  obtain⟨hval,hfr⟩:=hc
  have htags:=q3Z _ _ _ _ hy
  have hval':valT v.t=true:=by simp only[valT,htags.1,htags.2.2];exact hval
  have hr:=coe_rep hF hh _ _ _ _ _ (vrep_cells (valT_or hval') hv) hy
  have hr':=rep_frozen (ι':=noRef) _ _ _ hfr hr
  rcases valT_or hval with ha | hc
  . rw[vrep_agg ha]
    have ha':isAggT v.t=true:=by rw[htags.1];exact ha
    rw[vrep_agg ha'] at hv
    obtain⟨cs,rfl,_⟩:=hv
    exact⟨cs,rfl,hr'⟩
  . rw[vrep_cell hc]
    have hc':cellT v.t=true:=by rw[htags.2.2];exact hc
    rw[vrep_cell hc'] at hv
    rw[q6I hc' hv] at hr';exact hr'
 unfold argV at h
 split at h
 . split at h<;>try (simp at h;done)
   . simp only[Option.some.injEq] at h;subst h
     rw[q0r] at hv ⊢;exact hv
   . rename_i f c y
     obtain⟨hfz,rfl⟩:=bif_some h
     rw[vrep_cell rfl] at hv ⊢
     have h1:=rep_mono (w':=w) (ι':=ι) hF (fun _ _ h=>h) (fun _ _=>rfl) (.clo f c) y _ hv
     exact rep_frozen (.clo f c) y _ hfz h1
 . exact key _ h
theorem q1Y {F F':Nat->Prop} {ι:Nat->Option Ref} (hs:Sim base w0 F0 F ι st a w) {hp:Nat->Option Blk} (hF:∀ b,F b->F' b) (hh:Holds w F' ι hp):
 ∀ (xs:List Operand) (ts:List TypeId) (us:List V),argsV P st.val hp xs ts=some us->vreps w F' us (xs.map a.eval)
 | [],[],us,h=>by simp only[argsV,Option.some.injEq] at h;subst h;trivial
 | x :: xs,t :: ts,us,h=>by
  simp only[argsV] at h
  split at h<;>try (simp at h;done)
  split at h<;>try (simp at h;done)
  rename_i v hv
  split at h<;>try (simp at h;done)
  rename_i u hu
  split at h<;>try (simp at h;done)
  rename_i us' hus
  simp only[Option.some.injEq] at h;subst h
  exact⟨argV_ok hF hh (hs.val hv) hu,q1Y hs hF hh xs ts us' hus⟩
 | [],_ :: _,_,h=>by simp[argsV] at h
 | _ :: _,[],_,h=>by simp[argsV] at h
theorem vrep_flat {w':World} {F F':Nat->Prop} {ι ι':Nat->Option Ref} {t:Ty} {x:den t} {v:Value} (hf:flat t=true) (h:vrep w F ι t x v):vrep w' F' ι' t x v:=
 q6m (ok:=flat) (fun a b h=>by simpa[flat] using h) (fun c h=>h) (fun t x cs ho h=>q2o t x cs ho h) t x v hf h
theorem vrep_frozen {F:Nat->Prop} {ι ι':Nat->Option Ref} {t:Ty} {x:den t} {v:Value} (hf:frozen t=true) (h:vrep w F ι t x v):vrep w F ι' t x v:=
 q6m (ok:=frozen) (fun a b h=>by simpa[frozen] using h) (fun c h=>h) (fun t x cs ho h=>rep_frozen t x cs ho h) t x v hf h
theorem vrep_lt {F:Nat->Prop} {ι:Nat->Option Ref} {t:Ty} {x:den t} {v:Value} (h:vrep w F ι t x v):vrep w (fun k=>F k/\k<w.heap.size) ι t x v:=
 q6m (ok:=fun _=>true) (fun _ _ _=>⟨rfl,rfl⟩) (fun _ _=>rfl) (fun t x cs _ h=>q1q t x cs h) t x v rfl h
theorem q0d {a:Act} {d:Option Nat} {v:Value}:(a.put d v).tmps.size=a.tmps.size:=by cases d<;>simp[Act.put]
variable {next:Act->World->Prop} {Q:Exit->Act->World->Prop} {K:St->Prop}
theorem emp_run {t:TypeId} {z:V} {bytes:Nat} (he:elemV P t=some (z,bytes)) (w:World):∃ o,(Instr.buildSlice t 0 #[]).run P w=.ok (.slice (some ⟨w.heap.size,0,none⟩) 0 0) (w.alloc o):=by
 obtain⟨e,i,zv,ht,hi,hz,e1,e2,p1,p2,e3,hval,hu8,hrep⟩:=q1I he
 have hsize:(sizeOf e).run P w=.ok (width z.t) w:=by simp[sizeOf,q1R hi,e1]
 have hr:∀ f:Nat->Value,Array.map f (Array.range 0) = #[]:=fun f=>by simp[Array.range]
 exact⟨_,by simp[Instr.buildSlice,run_underlying ht,hsize,hr,newRow];rfl⟩
theorem qav {op:Op} (h:isEmp P op=true):∃ t z bytes,op=.buildSlice t 0 #[]/\elemV P t=some (z,bytes):=by
 unfold isEmp at h
 split at h
 . rename_i t ps
   simp only[Bool.and_eq_true,List.isEmpty_iff] at h
   obtain⟨hps,hel⟩:=h
   cases he:elemV P t with
   | none=>rw[he] at hel;simp at hel
   | some zb=>exact⟨t,zb.1,zb.2,by rw[<-Array.toArray_toList (xs:=ps),hps],he⟩
 . simp at h
theorem q6x (w:World) (o:Obj):Below w.heap.size w (w.alloc o):=⟨rfl,rfl,rfl,by simp,fun k hk=>q1z w o k hk⟩
theorem qa5 (w:World) (o:Obj):Below w.heap.size w (w.drew.alloc o):=⟨rfl,rfl,rfl,by simp,fun k hk=>q1z w.drew o k hk⟩
theorem lit_give {F:Nat->Prop} {ι:Nat->Option Ref} (hs:Sim base w0 F0 F ι st a w) {t:TypeId} {len:Nat} {parts:List (Nat×V)} {vals:List (Nat×Value)} {u:Ty} {l:Option (List (den u))} (hl:parts.length=vals.length)
 (hv:∀ (k:Nat) (p:Nat×V) (q:Nat×Value),parts[k]?=some p->vals[k]?=some q->p.1=q.1/\vrep w F ι p.2.t p.2.x q.2) (h:litV P t len parts=some (.new (.arr u l))):
 ∃ r w' F',(Instr.buildSlice t len vals.toArray).run P w=.ok r w'/\Sim base w0 F0 F' ι st a w'/\vrep w' F' ι (.sl u) l r:=by
 obtain⟨ty,l',cells,e,hr,hval,hc,hx,hu8,hrun⟩:=lit_run hl hv h
 simp only[Res.new.injEq,Blk.arr.injEq] at hr
 obtain⟨rfl,hr⟩:=hr
 rw[heq_eq_eq] at hr
 subst hr
 let F':Nat->Prop:=fun k=>F k∨k=w.heap.size
 have hbel:=q6x w (.cells cells e)
 refine⟨_,_,F',hrun,hs.called hbel (fun b h=>.inl h) (fun b hb=>?_),(vrep_cell rfl).2 ?_⟩
 . rcases hb with hb | rfl
   . exact⟨Nat.lt_of_lt_of_le (hs.fsize b hb) hbel.size,.inl hb⟩
   . exact⟨by show w.heap.size<(w.alloc (.cells cells e)).heap.size;simp,.inr (Nat.le_refl _)⟩
 . simp only[rep]
   refine⟨⟨w.heap.size,0,none⟩,_,rfl,Nat.le_refl _,fun _=>⟨_,e,(0,0),rfl,.inr rfl,heap_alloc_new w _,fun j y hy=>?_⟩⟩
   exact rep_mono (fun _ h=>.inl h) (fun _ _ h=>h) (fun b hb=>hbel.block b (hs.fsize b hb)) _ _ _ (hx j y hy)
theorem nul_app {F:Nat->Prop} {ι:Nat->Option Ref} (hs:Sim base w0 F0 F ι st a w) {t t1 ty:TypeId} {x:V} {vx s:Value} {c:Prop} {v:V} (hx:vrep w F ι x.t x.x vx) (hsv:vrep w F ι .nul () s) (h:appN P st.heap t t1 x=some (c,v)) (hc:c):
 ∃ r w' F',(Builtin.append_ #[t,t1] ty #[s,vx]).run P w=.ok r w'/\Sim base w0 F0 F' ι st a w'/\vrep w' F' ι v.t v.x r:=by
 unfold appN at h
 split at h<;>try (simp at h;done)
 rename_i z bytes he
 split at h<;>try (simp at h;done)
 rename_i ys hys
 obtain⟨hfz,h⟩:=bif_some h
 simp only[Prod.mk.injEq] at h
 obtain⟨rfl,rfl⟩:=h
 obtain⟨e,i,zv,ht,hi,hz,e1,e2,p1,p2,e3,hval,hu8,hrep⟩:=q1I he
 obtain⟨hsrc,ds,ht1,hd1⟩:=q6f (P:=P) hs.heap p1 hx hys
 obtain⟨news,hn1,hn2,hn3⟩:=hsrc.full
 obtain⟨hlen,hfst⟩:=hn1 w (fun _=>rfl)
 rw[<-e1] at hfst
 rw[vrep_cell rfl] at hsv
 simp only[rep,List.cons.injEq,and_true] at hsv
 obtain⟨ad,rfl⟩:=hsv
 simp only[appC,Option.getD_some,List.length_nil,Nat.zero_add,lst] at hc
 rcases Nat.eq_zero_or_pos (ys.getD []).length with h0 | h0
 . have hnil:ys.getD []=[]:=List.eq_nil_of_length_eq_zero h0
   have hnews:news=[]:=List.eq_nil_of_length_eq_zero (by rw[hn2,h0];simp)
   refine⟨.slice (some ad) 0 0,w,F,?_,hs,(vrep_cell rfl).2 ?_⟩
   . rw[h0] at hlen hfst
     simp[Builtin.append_,run_underlying ht,run_underlying ht1,sizeOf,typeInfo,hi,hlen,hfst,hnews,storeCells]
   . simp only[lst,hnil,appL,appS,List.nil_append,rep]
     exact⟨ad,0,rfl,Nat.le_refl _,fun hn=>absurd rfl hn⟩
 . have hle:(ys.getD []).length<=140737488355328:=by
    have:(ys.getD []).length*1<=(ys.getD []).length*bytes:=Nat.mul_le_mul_left _ p2
    omega
   have hfit:Builtin.nextslicecap (0+(ys.getD []).length) 0*i.bytes<=281474976710656:=by
    rw[e2];exact growslice_fits (by omega) (by rw[Nat.zero_add];exact hc)
   obtain⟨_,hfst'⟩:=hn1 w.drew (fun _=>rfl)
   rw[<-e1] at hfst'
   have hrun:=q4w (P:=P) (w:=w) (ty:=ty) ht ht1 hd1 hi hz (b:=some ad) (sLen:=0) (sCap:=0) (olds:=[]) hlen (by simp[Builtin.firstCells,loadCells,loadCellsFrom]) hfst' (by omega) (by omega) hfit
   let F':Nat->Prop:=fun k=>F k∨k=w.heap.size
   let o:Obj:=.cells ([].toArray ++ news.toArray ++ Builtin.zeroCells zv.cells (grownCap w (0+(ys.getD []).length) 0 e - (0+(ys.getD []).length))) e
   have hbel:=qa5 w o
   refine⟨_,_,F',hrun,hs.called hbel (fun b h=>.inl h) (fun b hb=>?_),(vrep_cell rfl).2 ?_⟩
   . rcases hb with hb | rfl
     . exact⟨Nat.lt_of_lt_of_le (hs.fsize b hb) hbel.size,.inl hb⟩
     . exact⟨by show w.heap.size<(w.drew.alloc o).heap.size;simp,.inr (Nat.le_refl _)⟩
   . simp only[lst,appL,appS,List.nil_append,rep]
     have hge:=grownCap_ge w (0+(ys.getD []).length) 0 e
     refine⟨⟨w.heap.size,0,none⟩,_,by rw[Nat.zero_add],by rw[Nat.zero_add] at hge;exact hge,fun _=>⟨_,e,(0,0),rfl,.inr rfl,heap_alloc_new w.drew _,fun j y hy=>?_⟩⟩
     have hj:j<(ys.getD []).length:=by
      rcases Nat.lt_or_ge j (ys.getD []).length with q | q
      . exact q
      . rw[List.getElem?_eq_none q] at hy;simp at hy
     have hle:j*width z.t+width z.t<=(ys.getD []).length*width z.t:=by rw[<-Nat.succ_mul];exact Nat.mul_le_mul_right _ hj
     have h1:=hn3 j y hy
     simp only[Array.toList_append,List.nil_append]
     rw[q1u _ _ _ _ (by simp[hn2];omega)]
     exact rep_mono (fun _ h=>.inl h) (fun _ _ h=>h) (fun b hb=>hbel.block b (hs.fsize b hb)) _ _ _ h1
theorem Sim.adopt2 {F:Nat->Prop} {ι:Nat->Option Ref} (h:Sim base w0 F0 F ι st a w) (h8:base.u8=u8of P) {n0:Nat} (hn0:base.n<=n0)
 (hold:∀ b k r',st.heap b=some k->ι b=some r'->r'.nil=false->r'.blk<n0) (holdR:∀ c k r',prow st.heap c=some k->ι c=some r'->r'.blk<n0)
 {t:Ty} {l:Option (List (den t))} {r:Ref} {d:Nat} (hd:st.used d=false) (hfr:frozen t=true)
 (hr:brep w (freshM (u8of P) n0) F noRef r (.arr t l)):Sim base w0 F0 F (upd ι d (some r)) (st.new d (.arr t l)) a w:=by
 obtain⟨hnone,_,_⟩:=h.unused hd
 have hι:∀ b r',ι b=some r'->upd ι d (some r) b=some r':=by
  intro b r' e
  by_cases hb:b=d
  . subst hb;rw[hnone] at e;simp at e
  . rw[upd_other _ _ _ _ hb];exact e
 have hblk:r.nil=false->n0<=r.blk:=by
  intro hn
  obtain⟨_,q⟩:=hr
  cases l with
  | none=>simp only at q;rw[q] at hn;simp at hn
  | some l=>exact q.2.2.2.2.1.resolve_right fun h=>h
 refine h.change (w':=w) (g:=none) (b0:=d) (k0:=.arr t l) (r0:=r) (fun k hk _=>rfl) rfl rfl rfl (Nat.le_refl _) (by simp) (fun n hn=>upd_other _ _ _ _ (pin_ne h hn hd)) (fun n hn=>by
  show upd st.used d true n=true
  rw[upd_other _ _ _ _ (pin_ne h hn hd)];exact h.upin n hn) hι ?_ (upd_same _ _ _) ?_ (upd_same _ _ _) ?_ ?_ ?_ (fun _ _ _ _ _ _ _ _=>by simp)
 . intro b r' hb
   rcases upd_some hb with ⟨rfl,_⟩ | ⟨hne,hb⟩
   . exact upd_same _ _ _
   . rw[upd_other _ _ _ _ hne];exact h.used _ _ hb
 . obtain⟨q0,q⟩:=hr
   refine⟨q0,?_⟩
   cases l with
   | none=>exact q
   | some l=>
    obtain⟨q1,q2,q3,q4,q5,q6,cells,el,qe,q7,q8,q9⟩:=q
    exact⟨q1,q2,q3,q4,.inl (Nat.le_trans hn0 (q5.resolve_right fun h=>h)),q6,cells,el,(fun h=>(qe h).trans (congrArg Prod.fst h8.symm)),q7,q8,fun i y hy=>rep_frozen _ _ _ hfr (q9 i y hy)⟩
 . intro b k' hne hb'
   rw[upd_other _ _ _ _ hne] at hb'
   refine⟨hb',fun r' hr' hn=>⟨by simp,fun hn1=>?_⟩⟩
   have:=hold b k' r' hb' hr' hn
   have:=hblk hn1
   omega
 . refine h.pools.put (h.unused hd).2.2 (by rw[(h.unused hd).2.1];rfl) rfl (fun c hc=>upd_other _ _ _ _ hc) (upd_same _ _ _) (fun c hc=>upd_other _ _ _ _ hc) (upd_same _ _ _) fun c k' r' e1 e2 hn1=>?_
   have:=holdR c k' r' e1 e2
   have:=hblk hn1
   omega
 . exact h.newH hd
theorem Sim.adopt {F:Nat->Prop} {ι:Nat->Option Ref} (h:Sim base w0 F0 F ι st a w) (h8:base.u8=u8of P) {w':World} (hb:Below w.heap.size w w') {t:Ty} {l:Option (List (den t))} {r:Ref} {d:Nat} (hd:st.used d=false) (hfl:flat t=true) {F':Nat->Prop} (hF':∀ k,F k->F' k)
 (hr:brep w' (freshM (u8of P) w.heap.size) F' noRef r (.arr t l)):Sim base w0 F0 F (upd ι d (some r)) (st.new d (.arr t l)) a w':=by
 have hnone:ι d=none:=by
  cases e:ι d with
  | none=>rfl
  | some r=>have:=h.used d r e;rw[hd] at this;simp at this
 have hι:∀ b r',ι b=some r'->upd ι d (some r) b=some r':=by
  intro b r' e
  by_cases hb:b=d
  . subst hb;rw[hnone] at e;simp at e
  . rw[upd_other _ _ _ _ hb];exact e
 have hblk:r.nil=false->w.heap.size<=r.blk:=by
  intro hn
  obtain⟨_,q⟩:=hr
  cases l with
  | none=>simp only at q;rw[q] at hn;simp at hn
  | some l=>exact q.2.2.2.2.1.resolve_right fun h=>h
 refine h.change (w':=w') (g:=none) (b0:=d) (k0:=.arr t l) (r0:=r) (fun k hk _=>hb.block k hk) hb.os hb.tape hb.output hb.size (by simp) (fun n hn=>upd_other _ _ _ _ (pin_ne h hn hd)) (fun n hn=>by
  show upd st.used d true n=true
  rw[upd_other _ _ _ _ (pin_ne h hn hd)];exact h.upin n hn) hι ?_ (upd_same _ _ _) ?_ (upd_same _ _ _) ?_ ?_ ?_ (fun _ _ _ _ _ _ _ _=>by simp)
 . intro b r' hb
   rcases upd_some hb with ⟨rfl,_⟩ | ⟨hne,hb⟩
   . exact upd_same _ _ _
   . rw[upd_other _ _ _ _ hne];exact h.used _ _ hb
 . obtain⟨q0,q⟩:=hr
   refine⟨q0,?_⟩
   cases l with
   | none=>exact q
   | some l=>
    obtain⟨q1,q2,q3,q4,q5,q6,cells,el,qe,q7,q8,q9⟩:=q
    exact⟨q1,q2,q3,q4,.inl (Nat.le_trans h.size (q5.resolve_right fun h=>h)),fun hf=>q6 (hF' _ hf),cells,el,(fun h=>(qe h).trans (congrArg Prod.fst h8.symm)),q7,q8,fun i y hy=>q2o _ _ _ hfl (q9 i y hy)⟩
 . intro b k' hne hb'
   rw[upd_other _ _ _ _ hne] at hb'
   refine⟨hb',fun r' hr' hn=>⟨by simp,fun hn0=>?_⟩⟩
   obtain⟨r'',hr'',q⟩:=h.heap b k' hb'
   rw[hr'] at hr'';cases hr''
   have:=brep_lt q hn
   have:=hblk hn0
   omega
 . exact h.poolsNew hd rfl hblk
 . exact h.newH hd
theorem q72 (b:Nat) (tl:Ty) (l:Option (List (den tl))) (t:Ty) (x:den t):isAggT (frz b tl l t x).t=isAggT t/\cellT (frz b tl l t x).t=cellT t:=by
 cases t with
 | own c=>simp only[frz];cases Nat.beq c b<;>exact⟨rfl,rfl⟩
 | vw c=>simp only[frz];cases Nat.beq c b<;>exact⟨rfl,rfl⟩
 | _=>exact⟨rfl,rfl⟩
theorem q5s {w:World} {F F':Nat->Prop} {ι:Nat->Option Ref} {b:Nat} {tl:Ty} {l:Option (List (den tl))} {r:Ref} (hF:∀ k,F k->F' k) (hb:ι b=some r) (hr:rep w F' ι (.sl tl) l [r.val]) (hwd:r.nil=false->r.wd=width tl):
 ∀ (t:Ty) (x:den t) (cs:List Value),rep w F ι t x cs->rep w F' ι (frz b tl l t x).t (frz b tl l t x).x cs:=by
 have same:∀ (t:Ty) (x:den t) (cs:List Value),rep w F ι t x cs->rep w F' ι t x cs:=fun t x cs h=>rep_mono hF (fun _ _ h=>h) (fun _ _=>rfl) t x cs h
 intro t
 induction t with
 | own c=>
  intro x cs h
  cases e:Nat.beq c b
  . have e2:frz b tl l (.own c) x=⟨.own c,()⟩:=by show (bif Nat.beq c b then _ else _)=_;rw[e];rfl
    rw[e2];exact same _ _ _ h
  . have e2:frz b tl l (.own c) x=⟨.sl tl,l⟩:=by show (bif Nat.beq c b then _ else _)=_;rw[e];rfl
    rw[Nat.beq_eq] at e;subst e
    rw[e2]
    simp only[rep] at h
    obtain⟨r',hr',rfl⟩:=h
    rw[hb] at hr';cases hr'
    exact hr
 | vw c=>
  intro x cs h
  cases e:Nat.beq c b
  . have e2:frz b tl l (.vw c) x=⟨.vw c,x⟩:=by show (bif Nat.beq c b then _ else _)=_;rw[e];rfl
    rw[e2];exact same _ _ _ h
  . have e2:frz b tl l (.vw c) x=⟨.sl tl,slcS l (x:Int×Int).1 (x:Int×Int).2⟩:=by show (bif Nat.beq c b then _ else _)=_;rw[e];rfl
    rw[Nat.beq_eq] at e;subst e
    rw[e2]
    simp only[rep] at h
    obtain⟨r',hr',hn,h0,h1,h2,rfl⟩:=h
    rw[hb] at hr';cases hr'
    exact q7y hr hn (hwd hn) h0 h1 h2
 | pair a c iha ihb=>
  intro x cs h
  simp only[rep] at h
  obtain⟨c1,c2,rfl,h1,h2⟩:=h
  simp only[frz,rep]
  exact⟨c1,c2,rfl,iha _ _ h1,ihb _ _ h2⟩
 | agg c ih=>
  intro x cs h
  simp only[rep] at h
  simp only[frz,rep]
  exact ih _ _ h
 | _=>intro x cs h;exact same _ _ _ h
theorem frz_vrep {F:Nat->Prop} {ι:Nat->Option Ref} {F':Nat->Prop} {b:Nat} {tl:Ty} {l:Option (List (den tl))} {r:Ref} (hF:∀ k,F k->F' k) (hb:ι b=some r) (hr:rep w F' ι (.sl tl) l [r.val]) (hwd:r.nil=false->r.wd=width tl) {t:Ty} {x:den t} {v:Value} (h:vrep w F ι t x v):
 vrep w F' ι (frz b tl l t x).t (frz b tl l t x).x v:=by
 have same:vrep w F' ι t x v:=vrep_mono hF (fun _ _ h=>h) (fun _ _=>rfl) h
 have htag:=q72 b tl l t x
 by_cases hv:valT t=true
 . rcases valT_or hv with h1 | h1
   . rw[vrep_agg (htag.1.trans h1)]
     rw[vrep_agg h1] at h
     obtain⟨cs,rfl,h⟩:=h
     exact⟨cs,rfl,q5s hF hb hr hwd _ _ _ h⟩
   . rw[vrep_cell (htag.2.trans h1)]
     rw[vrep_cell h1] at h
     exact q5s hF hb hr hwd _ _ _ h
 . cases t<;>first
    | exact same
    | exact absurd rfl hv
    | (simp[vrep,vrep1,isAggT,cellT] at h)
theorem q71 (b:Nat) (tb:Ty) (y:den tb) (t:Ty) (x:den t):isAggT (frx b tb y t x).t=isAggT t/\cellT (frx b tb y t x).t=cellT t:=by
 cases t with
 | ref c o=>simp only[frx];cases (Nat.beq c b && Nat.beq o 0)<;>exact⟨rfl,rfl⟩
 | _=>exact⟨rfl,rfl⟩
theorem q5r {w:World} {F F':Nat->Prop} {ι:Nat->Option Ref} {b:Nat} {tb:Ty} {y:den tb} {r:Ref} (hF:∀ k,F k->F' k) (hb:ι b=some r) (hr:rep w F' ι (.fref tb) y [.pointer (some ⟨r.blk,r.off+0,none⟩)]):
 ∀ (t:Ty) (x:den t) (cs:List Value),rep w F ι t x cs->rep w F' ι (frx b tb y t x).t (frx b tb y t x).x cs:=by
 have same:∀ (t:Ty) (x:den t) (cs:List Value),rep w F ι t x cs->rep w F' ι t x cs:=fun t x cs h=>rep_mono hF (fun _ _ h=>h) (fun _ _=>rfl) t x cs h
 intro t
 induction t with
 | ref c o=>
  intro x cs h
  cases e:(Nat.beq c b && Nat.beq o 0)
  . have e2:frx b tb y (.ref c o) x=⟨.ref c o,()⟩:=by show (bif (Nat.beq c b && Nat.beq o 0) then _ else _)=_;rw[e];rfl
    rw[e2];exact same _ _ _ h
  . have e2:frx b tb y (.ref c o) x=⟨.fref tb,y⟩:=by show (bif (Nat.beq c b && Nat.beq o 0) then _ else _)=_;rw[e];rfl
    simp only[Bool.and_eq_true,Nat.beq_eq] at e
    obtain⟨rfl,rfl⟩:=e
    rw[e2]
    simp only[rep] at h
    obtain⟨r',hr',rfl⟩:=h
    rw[hb] at hr';cases hr'
    exact hr
 | pair a c iha ihb=>
  intro x cs h
  simp only[rep] at h
  obtain⟨c1,c2,rfl,h1,h2⟩:=h
  simp only[frx,rep]
  exact⟨c1,c2,rfl,iha _ _ h1,ihb _ _ h2⟩
 | agg c ih=>
  intro x cs h
  simp only[rep] at h
  simp only[frx,rep]
  exact ih _ _ h
 | clo f c ih=>
  intro x cs h
  simp only[rep] at h
  obtain⟨caps,e,h⟩:=h
  simp only[frx,rep]
  exact⟨caps,e,ih _ _ h⟩
 | _=>intro x cs h;exact same _ _ _ h
theorem frx_vrep {F:Nat->Prop} {ι:Nat->Option Ref} {F':Nat->Prop} {b:Nat} {tb:Ty} {y:den tb} {r:Ref} (hF:∀ k,F k->F' k) (hb:ι b=some r) (hr:rep w F' ι (.fref tb) y [.pointer (some ⟨r.blk,r.off+0,none⟩)]) {t:Ty} {x:den t} {v:Value} (h:vrep w F ι t x v):
 vrep w F' ι (frx b tb y t x).t (frx b tb y t x).x v:=by
 have same:vrep w F' ι t x v:=vrep_mono hF (fun _ _ h=>h) (fun _ _=>rfl) h
 have htag:=q71 b tb y t x
 by_cases hv:valT t=true
 . rcases valT_or hv with h1 | h1
   . rw[vrep_agg (htag.1.trans h1)]
     rw[vrep_agg h1] at h
     obtain⟨cs,rfl,h⟩:=h
     exact⟨cs,rfl,q5r hF hb hr _ _ _ h⟩
   . rw[vrep_cell (htag.2.trans h1)]
     rw[vrep_cell h1] at h
     exact q5r hF hb hr _ _ _ h
 . cases t<;>first
    | exact same
    | exact absurd rfl hv
    | (simp[vrep,vrep1,isAggT,cellT] at h)
theorem Ok.freezeX (h:Ok base w0 F0 N st a w) {b:Nat} {t:Ty} {y:den t} (hb:st.heap b=some (.box t y)) (hfz:frozen t=true):
 Ok base w0 F0 N ⟨fun s=>frxE b t y (st.env s),fun c=>bif Nat.beq c b then none else frxB b t y (st.heap c),st.used⟩ a w:=by
 obtain⟨hN,F,ι,hs⟩:=h
 obtain⟨r,hr,hk⟩:=hs.heap _ _ hb
 obtain⟨q1,q2,q3,q4,q5,cells,el,_,q6,q7⟩:=hk
 let F':Nat->Prop:=fun k=>F k∨k=r.blk
 have hF:∀ k,F k->F' k:=fun k h=>.inl h
 have hrep:rep w F' ι (.fref t) y [.pointer (some ⟨r.blk,r.off+0,none⟩)]:=by
  simp only[rep]
  refine⟨r.blk,r.off+0,cells,el,(0,0),rfl,.inr rfl,q6,?_⟩
  rw[q2,q18 _ _ (rep_length _ _ _ q7)]
  exact rep_mono hF (fun _ _ h=>h) (fun _ _=>rfl) _ _ _ q7
 refine⟨hN,F',ι,⟨?_,?_,hs.used,?_,?_,?_,hs.below,hs.size,hs.upin,?_,hs.pin,hs.defers⟩⟩
 . intro s v hv
   simp only[frxE] at hv
   split at hv<;>try (simp at hv;done)
   rename_i u hu
   simp only[Option.some.injEq] at hv;subst hv
   exact frx_vrep hF hr hrep (hs.env _ _ hu)
 . intro c k hc
   simp only at hc
   cases e:Nat.beq c b<;>rw[e] at hc<;>simp only[cond_true,cond_false,reduceCtorEq] at hc
   have hne:c≠b:=by rintro rfl;simp at e
   unfold frxB at hc
   split at hc<;>try (simp at hc;done)
   . rename_i u x hu
     simp only[Option.some.injEq] at hc;subst hc
     obtain⟨s,hs',p⟩:=hs.heap _ _ hu
     obtain⟨p1,p2,p3,p4,p5,cells,el,pb,p6,p7⟩:=p
     have htag:=q71 b t y u x
     refine⟨s,hs',p1,p2,p3,?_,by simp only[valT,htag.1,htag.2];exact p5,cells,el,fun h=>pb ((bld_hd (frx_hd2 b t y u x)).symm.trans h),p6,q5r hF hr hrep _ _ _ p7⟩
     rintro (h1 | h1)
     . exact p4 h1
     . exact hs.apart c b _ _ s r hne hu hb hs' hr p1 q1 h1
   . have hu:st.heap c=some k:=hc
     obtain⟨s,hs',p⟩:=hs.heap _ _ hu
     refine⟨s,hs',?_⟩
     cases k with
     | box u x=>rename_i hno;exact (hno _ _ hu).elim
     | arr u x=>
      obtain⟨p0,p⟩:=p
      refine⟨p0,?_⟩
      cases x with
      | none=>exact p
      | some x=>
       obtain⟨p1,p2,p3,p4,p5,p6,cells,el,pe,p7,p8,p9⟩:=p
       refine⟨p1,p2,p3,p4,p5,?_,cells,el,pe,p7,p8,fun i y hy=>rep_mono hF (fun _ _ h=>h) (fun _ _=>rfl) _ _ _ (p9 i y hy)⟩
       rintro (h1 | h1)
       . exact p6 h1
       . exact hs.apart c b _ _ s r hne hu hb hs' hr p1 q1 h1
     | pool q u ls=>
      refine q3f (fun _ _ h=>h) (fun _ h=>h) p hF (fun _ _=>rfl) fun n l z hl hz hnF _=>⟨?_,rfl⟩
      have e:=hs.pools.self _ _ _ _ hu
      subst e
      rintro (h1 | h1)
      . exact hnF h1
      . exact hs.pools.apart (hnm q n) b _ _ z r (fun e=>by rw[<-e,hs.pools.noH _ (isH_hn _ _)] at hb;cases hb) (by rw[q08 p.2.1,hu];simp only[rowB,hl];rfl) (.inr hb) hz hr q1 h1
 . have aux:∀ c k,(bif Nat.beq c b then none else frxB b t y (st.heap c))=some k->∃ k',st.heap c=some k':=by
    intro c k h
    cases e:Nat.beq c b<;>rw[e] at h<;>simp only[cond_true,cond_false,reduceCtorEq] at h
    cases e2:st.heap c with
    | none=>rw[e2] at h;cases h
    | some k'=>exact⟨k',rfl⟩
   intro c d k k' s s' hcd hc hd
   obtain⟨k1,h1⟩:=aux c k hc
   obtain⟨k2,h2⟩:=aux d k' hd
   exact hs.apart c d k1 k2 s s' hcd h1 h2
 . rintro k (h | rfl)
   . exact hs.fsize _ h
   . exact heap_lt q6
 . rintro k (h | rfl)
   . exact hs.fin _ h
   . exact .inr q3
 . refine hs.pools.sub (fun c k e=>?_) fun c q u ls e=>?_
   . cases e2:Nat.beq c b<;>simp only[e2,cond_true,cond_false,reduceCtorEq] at e
     cases e3:st.heap c with
     | none=>rw[e3] at e;cases e
     | some k0=>exact⟨k0,rfl⟩
   . cases e2:Nat.beq c b<;>simp only[e2,cond_true,cond_false,reduceCtorEq] at e
     cases e3:st.heap c with
     | none=>rw[e3] at e;cases e
     | some k0=>
      rw[e3] at e
      cases k0<;>cases e
      exact⟨u,ls,rfl,Nat.le_refl _⟩
theorem Ok.freeze (h:Ok base w0 F0 N st a w) {b:Nat} {st':St} (hf:st.freeze b=some st'):Ok base w0 F0 N st' a w:=by
 unfold St.freeze at hf
 split at hf
 . rename_i t y hb
   obtain⟨hfz,rfl⟩:=bif_some hf
   exact h.freezeX hb hfz
 rotate_left
 . simp at hf
 obtain⟨hN,F,ι,hs⟩:=h
 rename_i t l hb
 simp only[Option.some.injEq] at hf;subst hf
 obtain⟨r,hr,hk⟩:=hs.heap _ _ hb
 have hk':=hk
 obtain⟨q0,q⟩:=hk
 have hwd:r.nil=false->r.wd=width t:=by
  intro hn
  cases l with
  | none=>simp only at q;rw[q] at hn;simp at hn
  | some l=>exact q.2.1
 let F':Nat->Prop:=fun k=>F k∨(r.nil=false/\k=r.blk)
 have hF:∀ k,F k->F' k:=fun k h=>.inl h
 have hrep:rep w F' ι (.sl t) l [r.val]:=by
  cases l with
  | none=>simp only at q;simp only[rep,Ref.val,q,if_true]
  | some l=>
   obtain⟨q1,q2,q3,q4,q5,q6,cells,el,qe,q7,q8,q9⟩:=q
   simp only[rep,Ref.val,q1,if_false,Bool.false_eq_true,q3]
   exact⟨⟨r.blk,r.off,none⟩,r.cap,rfl,by omega,fun _=>⟨cells,el,(0,0),rfl,.inr ⟨q1,rfl⟩,q7,fun i y hy=>rep_mono hF (fun _ _ h=>h) (fun _ _=>rfl) _ _ _ (q9 i y hy)⟩⟩
 refine⟨hN,F',ι,⟨?_,?_,hs.used,?_,?_,?_,hs.below,hs.size,hs.upin,?_,hs.pin,hs.defers⟩⟩
 . intro s v hv
   simp only[frzE] at hv
   split at hv<;>try (simp at hv;done)
   rename_i u hu
   simp only[Option.some.injEq] at hv;subst hv
   exact frz_vrep hF hr hrep hwd (hs.env _ _ hu)
 . intro c k hc
   simp only at hc
   cases e:Nat.beq c b<;>rw[e] at hc<;>simp only[cond_true,cond_false,reduceCtorEq] at hc
   have hne:c≠b:=by rintro rfl;simp at e
   unfold frzB at hc
   split at hc<;>try (simp at hc;done)
   . rename_i u x hu
     simp only[Option.some.injEq] at hc;subst hc
     obtain⟨s,hs',p⟩:=hs.heap _ _ hu
     obtain⟨p1,p2,p3,p4,p5,cells,el,pb,p6,p7⟩:=p
     have htag:=q72 b t l u x
     refine⟨s,hs',p1,p2,p3,?_,by simp only[valT,htag.1,htag.2];exact p5,cells,el,fun h=>pb ((bld_hd (frz_hd2 b t l u x)).symm.trans h),p6,q5s hF hr hrep hwd _ _ _ p7⟩
     rintro (h1 | ⟨hn,h1⟩)
     . exact p4 h1
     . exact hs.apart c b _ _ s r hne hu hb hs' hr p1 hn h1
   . have hu:st.heap c=some k:=hc
     obtain⟨s,hs',p⟩:=hs.heap _ _ hu
     refine⟨s,hs',?_⟩
     cases k with
     | box u x=>rename_i hno;exact (hno _ _ hu).elim
     | arr u x=>
      obtain⟨p0,p⟩:=p
      refine⟨p0,?_⟩
      cases x with
      | none=>exact p
      | some x=>
       obtain⟨p1,p2,p3,p4,p5,p6,cells,el,pe,p7,p8,p9⟩:=p
       refine⟨p1,p2,p3,p4,p5,?_,cells,el,pe,p7,p8,fun i y hy=>rep_mono hF (fun _ _ h=>h) (fun _ _=>rfl) _ _ _ (p9 i y hy)⟩
       rintro (h1 | ⟨hn',h1⟩)
       . exact p6 h1
       . exact hs.apart c b _ _ s r hne hu hb hs' hr p1 hn' h1
     | pool q u ls=>
      refine q3f (fun _ _ h=>h) (fun _ h=>h) p hF (fun _ _=>rfl) fun n l z hl hz hnF _=>⟨?_,rfl⟩
      have e:=hs.pools.self _ _ _ _ hu
      subst e
      rintro (h1 | ⟨hn',h1⟩)
      . exact hnF h1
      . exact hs.pools.apart (hnm q n) b _ _ z r (fun e=>by rw[<-e,hs.pools.noH _ (isH_hn _ _)] at hb;cases hb) (by rw[q08 p.2.1,hu];simp only[rowB,hl];rfl) (.inr hb) hz hr hn' h1
 . have aux:∀ c k,(bif Nat.beq c b then none else frzB b t l (st.heap c))=some k->∃ k',st.heap c=some k':=by
    intro c k h
    cases e:Nat.beq c b<;>rw[e] at h<;>simp only[cond_true,cond_false,reduceCtorEq] at h
    cases e2:st.heap c with
    | none=>rw[e2] at h;cases h
    | some k'=>exact⟨k',rfl⟩
   intro c d k k' s s' hcd hc hd
   obtain⟨k1,h1⟩:=aux c k hc
   obtain⟨k2,h2⟩:=aux d k' hd
   exact hs.apart c d k1 k2 s s' hcd h1 h2
 . rintro k (h | ⟨hn,rfl⟩)
   . exact hs.fsize _ h
   . exact brep_lt hk' hn
 . rintro k (h | ⟨hn,rfl⟩)
   . exact hs.fin _ h
   . right
     cases l with
     | none=>simp only at q;rw[q] at hn;simp at hn
     | some l=>exact q.2.2.2.2.1
 . refine hs.pools.sub (fun c k e=>?_) fun c q u ls e=>?_
   . cases e2:Nat.beq c b<;>simp only[e2,cond_true,cond_false,reduceCtorEq] at e
     cases e3:st.heap c with
     | none=>rw[e3] at e;cases e
     | some k0=>exact⟨k0,rfl⟩
   . cases e2:Nat.beq c b<;>simp only[e2,cond_true,cond_false,reduceCtorEq] at e
     cases e3:st.heap c with
     | none=>rw[e3] at e;cases e
     | some k0=>
      rw[e3] at e
      cases k0<;>cases e
      exact⟨u,ls,rfl,Nat.le_refl _⟩
theorem Sim.give {F:Nat->Prop} {ι:Nat->Option Ref} (hs:Sim base w0 F0 F ι st a w) {d:Nat} {t:Ty} {l:Option (List (den t))} {v:Value} (hb:st.heap d=some (.arr t l)) (hv:vrep w F ι (.own d) () v):
 ∃ F',Sim base w0 F0 F' ι (st.kill d) a w/\vrep w F' ι (.sl t) l v:=by
 obtain⟨r,hr,hk⟩:=hs.heap _ _ hb
 have hk':=hk
 obtain⟨q0,q⟩:=hk
 let F':Nat->Prop:=fun k=>F k∨(r.nil=false/\k=r.blk)
 have hF:∀ k,F k->F' k:=fun k h=>.inl h
 have hrep:rep w F' ι (.sl t) l [r.val]:=by
  cases l with
  | none=>simp only at q;simp only[rep,Ref.val,q,if_true]
  | some l=>
   obtain⟨q1,q2,q3,q4,q5,q6,cells,el,qe,q7,q8,q9⟩:=q
   simp only[rep,Ref.val,q1,if_false,Bool.false_eq_true,q3]
   exact⟨⟨r.blk,r.off,none⟩,r.cap,rfl,by omega,fun _=>⟨cells,el,(0,0),rfl,.inr ⟨q1,rfl⟩,q7,fun i y hy=>rep_mono hF (fun _ _ h=>h) (fun _ _=>rfl) _ _ _ (q9 i y hy)⟩⟩
 have hold:∀ c k,(st.kill d).heap c=some k->c≠d/\st.heap c=some k:=by
  intro c k e
  rcases upd_some (show upd st.heap d none c=some k from e) with ⟨_,e2⟩ | ⟨h1,e2⟩
  . cases e2
  . exact⟨h1,e2⟩
 refine⟨F',⟨?_,?_,hs.used,?_,?_,?_,hs.below,hs.size,hs.upin,?_,hs.pin,hs.defers⟩,?_⟩
 . intro s v hv
   exact vrep_mono hF (fun _ _ h=>h) (fun _ _=>rfl) (hs.env s v hv)
 . intro c k hc
   obtain⟨hne,hu⟩:=hold c k hc
   obtain⟨s,hs',p⟩:=hs.heap _ _ hu
   refine⟨s,hs',?_⟩
   cases k with
   | box u x=>
    obtain⟨p1,p2,p3,p4,p5,cells,el,pb,p6,p7⟩:=p
    refine⟨p1,p2,p3,?_,p5,cells,el,pb,p6,rep_mono hF (fun _ _ h=>h) (fun _ _=>rfl) _ _ _ p7⟩
    rintro (h1 | ⟨hn',h1⟩)
    . exact p4 h1
    . exact hs.apart c d _ _ s r hne hu hb hs' hr p1 hn' h1
   | arr u x=>
    obtain⟨p0,p⟩:=p
    refine⟨p0,?_⟩
    cases x with
    | none=>exact p
    | some x=>
     obtain⟨p1,p2,p3,p4,p5,p6,cells,el,pe,p7,p8,p9⟩:=p
     refine⟨p1,p2,p3,p4,p5,?_,cells,el,pe,p7,p8,fun i y hy=>rep_mono hF (fun _ _ h=>h) (fun _ _=>rfl) _ _ _ (p9 i y hy)⟩
     rintro (h1 | ⟨hn',h1⟩)
     . exact p6 h1
     . exact hs.apart c d _ _ s r hne hu hb hs' hr p1 hn' h1
   | pool q u ls=>
    refine q3f (fun _ _ h=>h) (fun _ h=>h) p hF (fun _ _=>rfl) fun n l z hl hz hnF _=>⟨?_,rfl⟩
    have e:=hs.pools.self _ _ _ _ hu
    subst e
    rintro (h1 | ⟨hn',h1⟩)
    . exact hnF h1
    . exact hs.pools.apart (hnm q n) d _ _ z r (fun e=>by rw[<-e,hs.pools.noH _ (isH_hn _ _)] at hb;cases hb) (by rw[q08 p.2.1,hu];simp only[rowB,hl];rfl) (.inr hb) hz hr hn' h1
 . intro c e k k' s s' hcd hc hd
   exact hs.apart c e k k' s s' hcd (hold c k hc).2 (hold e k' hd).2
 . rintro k (h | ⟨hn,rfl⟩)
   . exact hs.fsize _ h
   . exact brep_lt hk' hn
 . rintro k (h | ⟨hn,rfl⟩)
   . exact hs.fin _ h
   . right
     cases l with
     | none=>simp only at q;rw[q] at hn;simp at hn
     | some l=>exact q.2.2.2.2.1
 . refine hs.pools.sub (fun c k e=>⟨k,(hold c k e).2⟩) fun c q u ls e=>⟨u,ls,(hold _ _ e).2,Nat.le_refl _⟩
 . rw[vrep_cell rfl] at hv
   simp only[rep,List.cons.injEq,and_true] at hv
   obtain⟨r',hr',rfl⟩:=hv
   rw[hr] at hr';cases hr'
   rw[vrep_cell rfl]
   exact hrep
variable (hG:base.u8=u8of P/\∀ w:World,Keep base w0 w->Gl P w)
include hG
theorem opW_sound (hn:∀ st a w,K st->Ok base w0 F0 N st a w->next a w) {ow:Bool} {o:Oper} (h:opW P N ow o K st) (hok:Ok base w0 F0 N st a w):o.wp P a w next Q:=by
 obtain⟨hN,F,ι,hs⟩:=hok
 obtain⟨dst,op,ty,pos,aft,grd⟩:=o
 unfold opW at h
 cases dst with
 | none=>
  simp only at h
  split at h<;>try exact h.elim
  rotate_left
  . rename_i args ts
    split at h<;>try exact h.elim
    rename_i x t hargs hts
    split at h<;>try exact h.elim
    rename_i vx hvx
    split at h<;>try exact h.elim
    rename_i b k hcl
    have e1:args = #[x]:=by rw[<-Array.toArray_toList (xs:=args),hargs]
    have e2:ts = #[t]:=by rw[<-Array.toArray_toList (xs:=ts),hts]
    subst e1;subst e2
    obtain⟨w',q1,q2⟩:=clearV_ok (P:=P) (ty:=ty) hs (hs.val hvx) hcl
    have hrun:(execOp a.eval ⟨none,.call ⟨.builtin .clear,#[x],#[t]⟩,ty,pos,aft,grd⟩).run P w=.ok (.value (.tuple #[])) w':=by
     simp[execOp,resolve,invoke,builtin,q1]
    simp only[Oper.wp,hrun]
    exact hn _ _ _ h ⟨hN,F,ι,q2⟩
  rename_i t x v
  split at h<;>try exact h.elim
  rename_i ag n ht
  split at h<;>try exact h.elim
  rename_i vx hx
  split at h<;>try exact h.elim
  rename_i vv hv
  split at h<;>try exact h.elim
  rename_i b k hst
  obtain⟨w',q1,q2⟩:=storeV_ok hs ht (hs.val hx) (hs.val hv) hst
  have hrun:(execOp a.eval ⟨none,.store t x v,ty,pos,aft,grd⟩).run P w=.ok .skip w':=by simp[execOp,q1]
  simp only[Oper.wp,hrun]
  exact hn _ _ _ h ⟨hN,F,ι,q2⟩
 | some d=>
  simp only at h
  cases hd:Nat.blt d N<;>rw[hd] at h
  . exact h.elim
  simp only[cond_true] at h
  replace hd:d<a.tmps.size:=by rw[hN];exact Nat.le_of_ble_eq_true hd
  have pure:∀ r,evP P st.val st.heap op=some r->(match r with
   | .val v=>K (st.put d (some v))
   | .cond c v=>c/\K (st.put d (some v))
   | .new k=>bif st.used d then False else K ((st.new d k).put d (some (tagV k d)))
   | .newc c k=>bif st.used d then False else c/\K ((st.new d k).put d (some (tagV k d))))->Oper.wp P ⟨some d,op,ty,pos,aft,grd⟩ a w next Q:=by
   intro r he hK
   have hused:r.plain=false->st.used d=false:=by
    intro hp
    cases r with
    | val v=>simp[Res.plain] at hp
    | cond c v=>simp[Res.plain] at hp
    | new k=>cases e:st.used d;rfl;rw[e] at hK;exact hK.elim
    | newc c k=>cases e:st.used d;rfl;rw[e] at hK;exact hK.elim
   have hr:=evP_runs hG.1 (o:=⟨some d,op,ty,pos,aft,grd⟩) hs he hused
   cases r with
   | val v=>
    obtain⟨val,q1,q2⟩:=hr
    simp only[Oper.wp,q1]
    exact hn _ _ _ hK ⟨by rw[q0d];exact hN,F,ι,hs.put hd q2⟩
   | cond c v=>
    obtain⟨val,q1,q2⟩:=hr hK.1
    simp only[Oper.wp,q1]
    exact hn _ _ _ hK.2 ⟨by rw[q0d];exact hN,F,ι,hs.put hd q2⟩
   | new k=>
    obtain⟨val,w',ι',q1,q2,q3⟩:=hr
    rw[hused rfl] at hK
    simp only[Oper.wp,q1]
    exact hn _ _ _ hK ⟨by rw[q0d];exact hN,F,ι',q2.put hd q3⟩
   | newc c k=>
    rw[hused rfl] at hK
    obtain⟨val,w',ι',q1,q2,q3⟩:=hr hK.1
    simp only[Oper.wp,q1]
    exact hn _ _ _ hK.2 ⟨by rw[q0d];exact hN,F,ι',q2.put hd q3⟩
  split at h
  . rename_i f args ts
    split at h<;>try exact h.elim
    rename_i fv hf
    split at h<;>try exact h.elim
    rename_i fn caps hcal
    obtain⟨cv,hfv,hcv⟩:=qag (hs.val hf) hcal
    have hargs:args.map a.eval ++ cv=(args.toList.map a.eval ++ cv.toList).toArray:=by
     rw[<-q39];simp
    cases ow with
    | true=>
     simp only[cond_true] at h
     split at h
     rotate_left
     . split at h<;>try exact h.elim
       rename_i z hz
       split at h<;>try exact h.elim
       rename_i xs hxs
       cases hu:st.used d<;>rw[hu] at h
       case true=>exact h.elim
       simp only[cond_false] at h
       obtain⟨ho,hfr,c,hc0⟩:q1N z.1=true/\frozen z.2=true/\∃ c,z.1=.agg c:=by
        unfold ownAT at hz
        split at hz<;>try (simp at hz;done)
        split at hz<;>try (simp at hz;done)
        obtain⟨h1,rfl⟩:=bif_some hz
        simp only[Bool.and_eq_true] at h1
        exact⟨h1.2,h1.1,_,rfl⟩
       obtain⟨rt,t⟩:=z
       simp only at h ho hfr hc0
       subst hc0
       obtain⟨hc1,_,hc2⟩:=h
       have hrun:(execOp a.eval ⟨some d,.call ⟨.value f,args,ts⟩,ty,pos,aft,grd⟩).run P w=.ok (.enter fn (args.map a.eval ++ cv)) w:=by
        simp[execOp,resolve,hfv,Deferred.ofValue,invoke,hc1]
       simp only[Oper.wp,hrun]
       rw[Oper.upon_enter]
       rw[hargs]
       have hv:=q1Y (P:=P) hs (F':=F) (fun _ h=>h) q2i _ _ _ hxs
       refine (hc2 w F _ hs.fsize (hG.2 _ hs.below) (vreps_append hv hcv)).mono ?_
       rintro e w' ⟨v,r,x,l,rfl,⟨F',f1,f2,hr,hvr⟩,hK,hb⟩
       refine hn _ _ _ hK ⟨by rw[q0d];exact hN,F',upd ι d (some r),?_⟩
       have hs':=hs.called hb f1 (fun b hb=>⟨(f2 b hb).2,(f2 b hb).1⟩)
       refine (hs'.adopt2 hG.1 hs.size (fun b k r' e1 e2 e3=>?_) (fun c k r' e1 e2=>hs.row_lt e1 e2) hu hfr hr).put hd ?_
       . obtain⟨r'',hr'',q⟩:=hs.heap b k e1
         rw[e2] at hr'';cases hr''
         exact brep_lt q e3
       . rw[vrep_agg rfl] at hvr
         obtain⟨cs,rfl,hvr⟩:=hvr
         exact (vrep_agg (t:=holeT d (.agg c)) rfl).2 ⟨cs,rfl,(hole_rep (fun r' e=>by rw[upd_same] at e;cases e;exact upd_same _ _ _) _ _ _ ho hvr).1⟩
     rename_i t ht
     split at h<;>try exact h.elim
     rename_i xs hxs
     cases hu:st.used d<;>rw[hu] at h
     case true=>exact h.elim
     simp only[cond_false] at h
     have hfr:frozen t=true:=by
      unfold ownT at ht
      split at ht<;>try (simp at ht;done)
      obtain⟨h1,rfl⟩:=bif_some ht;exact h1
     obtain⟨hc1,_,hc2⟩:=h
     have hrun:(execOp a.eval ⟨some d,.call ⟨.value f,args,ts⟩,ty,pos,aft,grd⟩).run P w=.ok (.enter fn (args.map a.eval ++ cv)) w:=by
      simp[execOp,resolve,hfv,Deferred.ofValue,invoke,hc1]
     simp only[Oper.wp,hrun]
     rw[Oper.upon_enter]
     rw[hargs]
     have hcv':=q6n (F':=fun k=>k<w.heap.size) hs.fsize hcv
     cases hfl:flat t with
     | true=>
      rw[hfl] at hxs
      simp only[cond_true] at hxs
      have hv:=q1Y (P:=P) hs (F':=fun k=>k<w.heap.size) hs.fsize (hs.heap.holds hs.fsize) _ _ _ hxs
      refine (hc2 w _ _ (fun b h=>h) (hG.2 _ hs.below) (vreps_append hv hcv')).mono ?_
      rintro e w' ⟨r,l,rfl,⟨F',f1,_,hr⟩,hK,hb⟩
      refine hn _ _ _ hK ⟨by rw[q0d];exact hN,F,upd ι d (some r),?_⟩
      refine (hs.adopt hG.1 hb hu hfl (fun k hk=>f1 k (hs.fsize k hk)) hr).put hd ?_
      rw[vrep_cell rfl]
      exact⟨r,upd_same _ _ _,rfl⟩
     | false=>
      rw[hfl] at hxs
      simp only[cond_false] at hxs
      have hv:=q1Y (P:=P) hs (F':=F) (fun _ h=>h) q2i _ _ _ hxs
      refine (hc2 w F _ hs.fsize (hG.2 _ hs.below) (vreps_append hv hcv)).mono ?_
      rintro e w' ⟨r,l,rfl,⟨F',f1,f2,hr⟩,hK,hb⟩
      refine hn _ _ _ hK ⟨by rw[q0d];exact hN,F',upd ι d (some r),?_⟩
      have hs':=hs.called hb f1 (fun b hb=>⟨(f2 b hb).2,(f2 b hb).1⟩)
      refine (hs'.adopt2 hG.1 hs.size (fun b k r' e1 e2 e3=>?_) (fun c k r' e1 e2=>hs.row_lt e1 e2) hu hfr hr).put hd ?_
      . obtain⟨r'',hr'',q⟩:=hs.heap b k e1
        rw[e2] at hr'';cases hr''
        exact brep_lt q e3
      . rw[vrep_cell rfl]
        exact⟨r,upd_same _ _ _,rfl⟩
    | false=>
    simp only[cond_false] at h
    split at h<;>try exact h.elim
    rename_i rt hrt
    split at h<;>try exact h.elim
    rename_i xs hxs
    have hfro:frozen rt=true:=by
     unfold resT at hrt
     split at hrt<;>try (simp at hrt;done)
     obtain⟨h1,rfl⟩:=bif_some hrt;exact h1
    obtain⟨hc1,_,hc2⟩:=h
    have hrun:(execOp a.eval ⟨some d,.call ⟨.value f,args,ts⟩,ty,pos,aft,grd⟩).run P w=.ok (.enter fn (args.map a.eval ++ cv)) w:=by
     simp[execOp,resolve,hfv,Deferred.ofValue,invoke,hc1]
    simp only[Oper.wp,hrun]
    rw[Oper.upon_enter]
    rw[hargs]
    have hcv':=q6n (F':=fun k=>k<w.heap.size) hs.fsize hcv
    cases hfl:flat rt with
    | true=>
     rw[hfl] at hxs
     simp only[cond_true] at hxs
     have hv:=q1Y (P:=P) hs (F':=fun k=>k<w.heap.size) hs.fsize (hs.heap.holds hs.fsize) _ _ _ hxs
     refine (hc2 w _ _ (fun b h=>h) (hG.2 _ hs.below) (vreps_append hv hcv')).mono ?_
     rintro e w' ⟨v,r,rfl,hr,hK,hb⟩
     refine hn _ _ _ hK ⟨by rw[q0d];exact hN,F,ι,?_⟩
     exact (hs.called hb (fun _ h=>h) (fun b h=>⟨Nat.lt_of_lt_of_le (hs.fsize b h) hb.size,.inl h⟩)).put hd (vrep_flat hfl hr)
    | false=>
     rw[hfl] at hxs
     simp only[cond_false] at hxs
     have hv:=q1Y (P:=P) hs (F':=F) (fun _ h=>h) q2i _ _ _ hxs
     refine (hc2 w F _ hs.fsize (hG.2 _ hs.below) (vreps_append hv hcv)).mono ?_
     rintro e w' ⟨v,r,rfl,hr,hK,hb⟩
     refine hn _ _ _ hK ⟨by rw[q0d];exact hN,fun k=>(F k∨w.heap.size<=k)/\k<w'.heap.size,ι,?_⟩
     exact (hs.called hb (fun b h=>⟨.inl h,Nat.lt_of_lt_of_le (hs.fsize b h) hb.size⟩) (fun b h=>⟨h.2,h.1⟩)).put hd (vrep_frozen hfro (vrep_lt hr))
  . rename_i args ts
    split at h<;>try exact h.elim
    rename_i s x t t1 hargs hts
    split at h<;>try exact h.elim
    rename_i vs hvs
    cases hnul:q1o (some vs)<;>rw[hnul] at h
    case true=>
     simp only[cond_true] at h
     split at h<;>try exact h.elim
     rename_i vx hvx
     split at h<;>try exact h.elim
     rename_i c v happ
     have e1:args = #[s,x]:=by rw[<-Array.toArray_toList (xs:=args),hargs]
     have e2:ts = #[t,t1]:=by rw[<-Array.toArray_toList (xs:=ts),hts]
     subst e1;subst e2
     have hsv:=hs.val hvs
     obtain⟨vt,vv⟩:=vs
     cases vt<;>simp[q1o] at hnul
     obtain⟨r,w',F',q1,q2,q3⟩:=nul_app (P:=P) (ty:=ty) hs (hs.val hvx) hsv happ h.1
     have hrun:(execOp a.eval ⟨some d,.call ⟨.builtin .append,#[s,x],#[t,t1]⟩,ty,pos,aft,grd⟩).run P w=.ok (.value r) w':=by
      simp[execOp,resolve,invoke,builtin,q1]
     simp only[Oper.wp,hrun]
     exact hn _ _ _ h.2 ⟨by rw[q0d];exact hN,F',ι,q2.put hd q3⟩
    simp only[cond_false] at h
    split at h<;>try exact h.elim
    rename_i vx hvx
    split at h<;>try exact h.elim
    rename_i b c k happ
    have e1:args = #[s,x]:=by rw[<-Array.toArray_toList (xs:=args),hargs]
    have e2:ts = #[t,t1]:=by rw[<-Array.toArray_toList (xs:=ts),hts]
    subst e1;subst e2
    cases hu:st.used d<;>rw[hu] at h
    case true=>exact h.elim
    simp only[cond_false] at h
    have hc:c:=by
     cases ow with
     | false=>exact h.1
     | true=>
      simp only[cond_true] at h
      split at h
      . exact h.1
      . exact h.elim
    have main:∃ r w' ι',(Builtin.append_ #[t,t1] ty #[a.eval s,a.eval x]).run P w=.ok r w'/\Sim base w0 F0 F ι' ((st.killO b).new d k) a w'/\vrep w' F ι' (.own d) () r:=by
     unfold q0X at happ
     split at happ<;>try (simp at happ;done)
     rename_i z bytes he
     have he:=elemV_as he
     split at happ
     rotate_left
     . split at happ<;>try (simp at happ;done)
       rename_i b' _
       split at happ<;>try (simp at happ;done)
       rename_i t' l0 hb
       obtain⟨hlk,happ⟩:=q1A happ
       split at happ<;>try (simp at happ;done)
       rename_i ys hys
       simp only[Option.some.injEq,Prod.mk.injEq] at happ
       obtain⟨rfl,rfl,rfl⟩:=happ
       have he:=he.like hlk
       have he0:=he
       obtain⟨_,_,_,_,_,_,_,_,p1,_⟩:=he0
       obtain⟨hsrc,ds,ht1,hd1⟩:=q6f (P:=P) hs.heap p1 (hs.val hvx) hys
       have hv:=hs.val hvs
       cases l0 with
       | some l=>exact own_app hG.1 hs he ht1 hd1 hu hb hv hsrc hc
       | none=>
        obtain⟨r,hr,_,q⟩:=hs.heap _ _ hb
        rw[vrep_cell rfl] at hv;simp only[rep] at hv
        obtain⟨r',hr',e⟩:=hv
        rw[hr] at hr';cases hr'
        simp only[List.cons.injEq,and_true] at e
        simp only at q
        have e':a.eval s=.slice none 0 0:=by rw[e];simp[Ref.val,q]
        rw[e']
        exact q45 hG.1 (hs.kill b') he ht1 hd1 hu hsrc hc
     rename_i ys hys
     have he0:=he
     obtain⟨_,_,_,_,_,_,_,_,p1,_⟩:=he0
     obtain⟨hsrc,ds,ht1,hd1⟩:=q6f (P:=P) hs.heap p1 (hs.val hvx) hys
     have hv:=hs.val hvs
     split at happ
     . rename_i b' _
       split at happ<;>try (simp at happ;done)
       rename_i t' l0 hb
       split at happ<;>try (simp at happ;done)
       rename_i l hl
       simp only[Option.some.injEq,Prod.mk.injEq] at happ
       obtain⟨rfl,rfl,rfl⟩:=happ
       obtain⟨e,hl'⟩:=castT_some hl
       cases e
       cases hl'
       cases l0 with
       | some l=>exact own_app hG.1 hs he ht1 hd1 hu hb hv hsrc hc
       | none=>
        obtain⟨r,hr,_,q⟩:=hs.heap _ _ hb
        rw[vrep_cell rfl] at hv;simp only[rep] at hv
        obtain⟨r',hr',e⟩:=hv
        rw[hr] at hr';cases hr'
        simp only[List.cons.injEq,and_true] at e
        simp only at q
        have e':a.eval s=.slice none 0 0:=by rw[e];simp[Ref.val,q]
        rw[e']
        exact q45 hG.1 (hs.kill b') he ht1 hd1 hu hsrc hc
     . simp only[Option.some.injEq,Prod.mk.injEq] at happ
       obtain⟨rfl,rfl,rfl⟩:=happ
       rw[q0r] at hv
       rw[hv]
       exact q45 hG.1 hs he ht1 hd1 hu hsrc hc
     . simp only[Option.some.injEq,Prod.mk.injEq] at happ
       obtain⟨rfl,rfl,rfl⟩:=happ
       rw[vrep_cell rfl] at hv
       simp only[rep,List.cons.injEq,and_true] at hv
       rw[hv]
       exact q45 hG.1 hs he ht1 hd1 hu hsrc hc
     . simp at happ
    obtain⟨r,w',ι',q1,q2,q3⟩:=main
    have hrun:(execOp a.eval ⟨some d,.call ⟨.builtin .append,#[s,x],#[t,t1]⟩,ty,pos,aft,grd⟩).run P w=.ok (.value r) w':=by
     simp[execOp,resolve,invoke,builtin,q1]
    simp only[Oper.wp,hrun]
    cases ow with
    | false=>exact hn _ _ _ h.2 ⟨by rw[q0d];exact hN,F,ι',q2.put hd q3⟩
    | true=>
     simp only[cond_true] at h
     split at h<;>try exact h.elim
     obtain⟨F',q4,q5⟩:=q2.give (upd_same _ _ _) q3
     exact hn _ _ _ h.2 ⟨by rw[q0d];exact hN,F',ι',q4.put hd q5⟩
  . rename_i args ts
    split at h<;>try exact h.elim
    rename_i s x t t1 ha hts
    split at h<;>try exact h.elim
    rename_i vs hvs
    split at h<;>try exact h.elim
    rename_i vx hvx
    split at h<;>try exact h.elim
    rename_i b k n hcp
    obtain⟨w',q1,q2⟩:=copyV_ok (t1:=t1) (ty:=ty) hs (hs.val hvs) (hs.val hvx) hcp
    have hrun:(execOp a.eval ⟨some d,.call ⟨.builtin .copy,args,ts⟩,ty,pos,aft,grd⟩).run P w=.ok (.value (.int .i64 n)) w':=by
     have e1:args = #[s,x]:=by rw[<-Array.toArray_toList (xs:=args),ha]
     have e2:ts = #[t,t1]:=by rw[<-Array.toArray_toList (xs:=ts),hts]
     subst e1 e2
     simp[execOp,resolve,invoke,builtin,q1]
    simp only[Oper.wp,hrun]
    exact hn _ _ _ h ⟨by rw[q0d];exact hN,F,ι,q2.put hd (q03.2 rfl)⟩
  . rename_i args ts
    split at h<;>try exact h.elim
    rename_i x n pt it ha hts
    split at h<;>try exact h.elim
    rename_i vx hvx
    split at h<;>try exact h.elim
    rename_i vn hvn
    split at h<;>try exact h.elim
    rename_i b c s hus
    have e1:args = #[x,n]:=by rw[<-Array.toArray_toList (xs:=args),ha]
    have e2:ts = #[pt,it]:=by rw[<-Array.toArray_toList (xs:=ts),hts]
    subst e1 e2
    obtain⟨w',q1,q2⟩:=ustrV_ok (it:=it) (ty:=ty) hG.1 hs (hs.val hvx) (hs.val hvn) hus h.1
    have hrun:(execOp a.eval ⟨some d,.call ⟨.builtin .unsafeString,#[x,n],#[pt,it]⟩,ty,pos,aft,grd⟩).run P w=.ok (.value (.string s)) w':=by
     simp[execOp,resolve,invoke,builtin,q1]
    simp only[Oper.wp,hrun]
    exact hn _ _ _ h.2 ⟨by rw[q0d];exact hN,F,ι,q2.put hd (by rw[q0s])⟩
  . cases ow with
    | true=>
     simp only[cond_true] at h
     split at h<;>try exact h.elim
     rename_i v hv
     cases hemp:isEmp P op
     . obtain⟨t,len,parts,u,l,rfl,he,rfl⟩:=gvn_lit hv hemp
       simp only[evP] at he
       split at he<;>try (simp at he;done)
       rename_i ps hps
       obtain⟨g1,g2⟩:=q41 hs _ _ hps
       obtain⟨r,w',F',q1,q2,q3⟩:=lit_give (P:=P) hs g1 g2 he
       rw[q39] at q1
       have hrun:(execOp a.eval ⟨some d,.buildSlice t len parts,ty,pos,aft,grd⟩).run P w=.ok (.value r) w':=by
        simp only[execOp,Sem.run_bind,q1,Result.andThen_ok,Sem.run_pure]
       simp only[Oper.wp,hrun]
       exact hn _ _ _ h ⟨by rw[q0d];exact hN,F',ι,q2.put hd q3⟩
     . have hv2:gvn P st.val st.heap op=some ⟨.nul,()⟩:=by unfold gvn;rw[hemp];rfl
       rw[hv2] at hv
       simp only[Option.some.injEq] at hv
       subst hv
       obtain⟨t,z,bytes,rfl,he⟩:=qav hemp
       obtain⟨o,q1⟩:=emp_run he w
       have hrun:(execOp a.eval ⟨some d,.buildSlice t 0 #[],ty,pos,aft,grd⟩).run P w=.ok (.value (.slice (some ⟨w.heap.size,0,none⟩) 0 0)) (w.alloc o):=by
        simp[execOp,q1]
       simp only[Oper.wp,hrun]
       have hbel:=q6x w o
       have h2:=hs.called hbel (F':=F) (fun _ h=>h) fun b hb=>⟨Nat.lt_of_lt_of_le (hs.fsize b hb) hbel.size,.inl hb⟩
       exact hn _ _ _ h ⟨by rw[q0d];exact hN,F,ι,h2.put hd ((vrep_cell rfl).2 ⟨_,rfl⟩)⟩
    | false=>
    simp only[cond_false] at h
    split at h
    . rename_i v he;exact pure _ he h
    . rename_i c v he;exact pure _ he h
    . rename_i k he;exact pure _ he h
    . rename_i c k he;exact pure _ he h
    . exact h.elim
end
end Go.VM
namespace Go.VM
open Go Go.RowKit
section
variable {P:Program} {base:Mine} {w0 w:World} {F0:Nat->Prop} {N:Nat} {st:St} {a:Act}
theorem Sim.relabel {F:Nat->Prop} {ι:Nat->Option Ref} (h:Sim base w0 F0 F ι st a w) {d:Nat} {v:V} (hv:vrep w F ι v.t v.x (a.tmps.getD d undef)):Sim base w0 F0 F ι (st.put d (some v)) a w:=by
 refine { h with env:=?_,defers:=h.defers }
 intro s u hu
 rcases upd_some hu with ⟨rfl,e⟩ | ⟨hs,e⟩
 . cases e;exact hv
 . exact h.env _ _ e
theorem Ok.relabel (h:Ok base w0 F0 N st a w) {d:Nat} {v u:V} (hu:st.env d=some u) (hv:∀ F ι,vrep w F ι u.t u.x (a.tmps.getD d undef)->vrep w F ι v.t v.x (a.tmps.getD d undef)):Ok base w0 F0 N (st.put d (some v)) a w:=by
 obtain⟨hN,F,ι,hs⟩:=h
 exact⟨hN,F,ι,hs.relabel (hv F ι (hs.env d u hu))⟩
theorem Ok.skip (h:Ok base w0 F0 N st a w) (d:Option Nat):Ok base w0 F0 N (st.skip d) (a.put d undef) w:=by
 obtain⟨hN,F,ι,hs⟩:=h
 refine⟨by rw[q0d];exact hN,F,ι,?_⟩
 cases d with
 | none=>exact hs
 | some d=>
  have hu:∀ t,vrep t F ι (.tup .unit) () undef:=fun t=>⟨#[],rfl,rfl⟩
  rcases Nat.lt_or_ge d a.tmps.size with hd | hd
  . exact hs.put hd (hu w)
  . have e:a.put (some d) undef=a:=by
     simp only[Act.put]
     rw[Array.setIfInBounds,dif_neg (by omega)]
    rw[e]
    refine hs.relabel (d:=d) (v:=⟨.tup .unit,()⟩) ?_
    rw[Array.getD,dif_neg (by omega)];exact hu w
variable {Q:Exit->Act->World->Prop}
variable (hG:base.u8=u8of P/\∀ w:World,Keep base w0 w->Gl P w)
include hG
theorem q6h {ad:Nat->Bool} {ops:Array Oper} {bad:Nat->List Nat} {i:Nat} {r:List Nat} {K:St->Prop} {st:St} {a:Act} {w:World} (ih:∀ st a w,K st->Ok base w0 F0 N st a w->wpOps P ops Q r a w)
 (h:regW P N ad ops bad [i] K st) (hok:Ok base w0 F0 N st a w):wpOps P ops Q (i :: r) a w:=by
 simp only[regW] at h
 simp only[wpOps]
 rw[Array.getElem?_toList] at h
 cases ho:ops[i]? with
 | none=>rw[ho] at h;exact ih _ _ _ h hok
 | some o=>
  rw[ho] at h
  simp only at h ⊢
  cases hids:okOp (bad i) st.val o.op<;>rw[hids] at h
  . exact h.elim
  simp only[cond_true] at h
  have run:∀ st a w,opW P N (ad i) o K st->Ok base w0 F0 N st a w->o.wp P a w (wpOps P ops Q r) Q:=fun st a w h hok=>opW_sound hG (fun st a w h hok=>ih st a w h hok) h hok
  cases hg:o.guard with
  | none=>
   rw[hg] at h
   rw[if_pos (by simp[Region.wanted,hg])]
   exact .inl (run _ _ _ h hok)
  | some jw=>
   obtain⟨j,want⟩:=jw
   rw[hg] at h
   simp only at h
   split at h<;>try exact h.elim
   rename_i dj hdj
   have hd:((ops[j]?).bind (·.dst))=some dj:=by
    unfold dstOf at hdj
    rw[Array.getElem?_toList] at hdj
    cases e:ops[j]? with
    | none=>rw[e] at hdj;simp at hdj
    | some o'=>rw[e] at hdj;simpa using hdj
   have hy:∀ b,a.tmps.getD dj undef=.bool b->yielded ops a.tmps j=some b:=by
    intro b hb
    unfold yielded
    rw[hd]
    simp only[Option.bind_some]
    rw[Array.getD_eq_getD_getElem?] at hb
    cases e:a.tmps[dj]? with
    | none=>rw[e] at hb;simp[undef] at hb
    | some v=>rw[e] at hb;simp at hb;rw[hb]
   have hyu:a.tmps.getD dj undef=undef->yielded ops a.tmps j=none:=by
    intro hb
    unfold yielded
    rw[hd]
    simp only[Option.bind_some]
    rw[Array.getD_eq_getD_getElem?] at hb
    cases e:a.tmps[dj]? with
    | none=>rfl
    | some v=>rw[e] at hb;simp at hb;rw[hb];rfl
   split at h
   . rename_i b hb
     obtain⟨hN,F,ι,hs⟩:=hok
     have hv:=hs.env _ _ hb
     rw[q0l] at hv
     have hyb:=hy _ hv
     have hok':Ok base w0 F0 N (st.put dj (some ⟨.bool,b⟩)) a w:=⟨hN,F,ι,hs.relabel (q0l.2 hv)⟩
     cases b with
     | true=>
      simp only[brV] at h
      cases want with
      | true=>
       rw[if_pos (by simp[Region.wanted,hg,hyb])]
       exact .inl (run _ _ _ h hok')
      | false=>
       rw[if_neg (by simp[Region.wanted,hg,hyb])]
       exact ih _ _ _ h (hok'.skip _)
     | false=>
      simp only[brV] at h
      cases want with
      | true=>
       rw[if_neg (by simp[Region.wanted,hg,hyb])]
       exact ih _ _ _ h (hok'.skip _)
      | false=>
       rw[if_pos (by simp[Region.wanted,hg,hyb])]
       exact .inl (run _ _ _ h hok')
   . rename_i x hb
     have hok':=hok
     obtain⟨hN,F,ι,hs⟩:=hok
     have hv:=hs.env _ _ hb
     simp only[vrep] at hv
     obtain⟨vs,hv,ht⟩:=hv
     simp only[trep] at ht
     have hvs:vs = #[]:=by apply Array.ext';simpa using ht
     subst hvs
     rw[if_neg (by simp[Region.wanted,hg,hyu hv])]
     exact ih _ _ _ h (hok'.skip _)
   . exact h.elim
end
end Go.VM
namespace Go.VM
open Go Go.RowKit
abbrev Ren:=List (Nat×Option Nat)
def look:Ren->Nat->Option (Option Nat)
 | [],_=>none
 | (k,v) :: l,n=>bif Nat.beq n k then some v else look l n
def sameO:Option Nat->Option Nat->Bool
 | none,none=>true
 | some a,some b=>Nat.beq a b
 | _,_=>false
theorem sameO_eq {a b:Option Nat} (h:sameO a b=true):a=b:=by
 cases a<;>cases b<;>simp_all [sameO]
def addR (ρ:Ren):Ren->Option Ren
 | []=>some ρ
 | (k,v) :: l=>match look ρ k with
  | some v'=>bif sameO v v' then addR ρ l else none
  | none=>addR (ρ ++ [(k,v)]) l
theorem look_append {ρ:Ren} {k n:Nat} {v:Option Nat} {u:Option Nat} (h:look ρ n=some u):look (ρ ++ [(k,v)]) n=some u:=by
 induction ρ with
 | nil=>simp[look] at h
 | cons p l ih=>
  obtain⟨k',v'⟩:=p
  simp only[look,List.cons_append] at h ⊢
  cases e:Nat.beq n k'<;>rw[e] at h
  . exact ih h
  . exact h
theorem look_new {ρ:Ren} {k:Nat} {v:Option Nat} (h:look ρ k=none):look (ρ ++ [(k,v)]) k=some v:=by
 induction ρ with
 | nil=>simp[look]
 | cons p l ih=>
  obtain⟨k',v'⟩:=p
  simp only[look,List.cons_append] at h ⊢
  cases e:Nat.beq k k'<;>rw[e] at h
  . exact ih h
  . simp at h
theorem q1y:∀ (l ρ ρ':Ren),addR ρ l=some ρ'->(∀ n u,look ρ n=some u->look ρ' n=some u)/\∀ k v,(k,v)∈l->look ρ' k=some v
 | [],ρ,ρ',h=>by simp only[addR,Option.some.injEq] at h;subst h;simp
 | (k,v) :: l,ρ,ρ',h=>by
  simp only[addR] at h
  split at h
  . rename_i v' hv
    cases e:sameO v v'<;>rw[e] at h
    . simp at h
    have:=sameO_eq e;subst this
    obtain⟨h1,h2⟩:=q1y l ρ ρ' h
    refine⟨h1,fun k' v' hm=>?_⟩
    rcases List.mem_cons.1 hm with hm | hm
    . cases hm;exact h1 _ _ hv
    . exact h2 _ _ hm
  . rename_i hn
    obtain⟨h1,h2⟩:=q1y l _ ρ' h
    refine⟨fun n u hu=>h1 _ _ (look_append hu),fun k' v' hm=>?_⟩
    rcases List.mem_cons.1 hm with hm | hm
    . cases hm;exact h1 _ _ (look_new hn)
    . exact h2 _ _ hm
def frozH:Ty->Bool
 | .pair a b=>frozH a && frozH b
 | .agg c=>frozH c
 | .hd _=>true
 | .sl t=>frozH t
 | t=>frozen t
def hdRen:Ty->Ren
 | .pair a b=>hdRen a ++ hdRen b
 | .agg c=>hdRen c
 | .hd p=>[(p,some p)]
 | .sl t=>hdRen t
 | _=>[]
def mtF (t u:Ty) (x:den u):Option (den t×Ren):=
 bif frozen t then match coe q0e t u x with
  | some y=>some (y,[])
  | none=>none
 else bif frozH t then match castT t u x with
  | some y=>some (y,hdRen t)
  | none=>none
 else none
def mtO (b:Nat):(u:Ty)->den u->Option (Unit×Ren)
 | .own c=>fun _=>some ((),[(b,some c)])
 | .cst c=>fun _=>bif q16 c then some ((),[(b,none)]) else none
 | .sl _=>fun x=>match x with
  | none=>some ((),[(b,none)])
  | some _=>none
 | _=>fun _=>none
def mtR (b o:Nat):(u:Ty)->den u->Option (Unit×Ren)
 | .ref c o'=>fun _=>bif Nat.beq o o' then some ((),[(b,some c)]) else none
 | _=>fun _=>none
def mtV (b:Nat):(u:Ty)->den u->Option ((Int×Int)×Ren)
 | .vw c=>fun x=>some (x,[(b,some c)])
 | _=>fun _=>none
def mtH (p:Nat):(u:Ty)->den u->Option (Option Nat×Ren)
 | .hd q=>fun x=>bif Nat.beq p q then some (x,[(p,some p)]) else none
 | .cst c=>fun _=>bif q16 c then some (none,[]) else none
 | _=>fun _=>none
def mtP {α β:Type} (f:(u:Ty)->den u->Option (α×Ren)) (g:(u:Ty)->den u->Option (β×Ren)):(u:Ty)->den u->Option ((α×β)×Ren)
 | .pair a b=>fun x=>match f a x.1 with
  | some (y,c)=>match g b x.2 with
   | some (z,d)=>some ((y,z),c ++ d)
   | none=>none
  | none=>none
 | _=>fun _=>none
def mtA {α:Type} (f:(u:Ty)->den u->Option (α×Ren)):(u:Ty)->den u->Option (α×Ren)
 | .agg c=>f c
 | _=>fun _=>none
def mt:(t u:Ty)->den u->Option (den t×Ren)
 | .own b=>mtO b
 | .ref b o=>mtR b o
 | .pair a b=>mtP (mt a) (mt b)
 | .agg c=>mtA (mt c)
 | .int k=>mtF (.int k)
 | .bool=>mtF .bool
 | .str=>mtF .str
 | .cst c=>mtF (.cst c)
 | .sl t=>mtF (.sl t)
 | .unit=>mtF .unit
 | .arr n t=>mtF (.arr n t)
 | .tup _=>fun _ _=>none
 | .eref _ _=>fun _ _=>none
 | .fref t=>mtF (.fref t)
 | .vw b=>mtV b
 | .clo f c=>mtF (.clo f c)
 | .hd p=>mtH p
 | .her _ _=>fun _ _=>none
 | .bref _ _ _=>fun _ _=>none
 | .nul=>mtF .nul
def nilRef:Ref:=⟨0,0,0,true,0,0⟩
def renamed (ρ:Ren) (ι:Nat->Option Ref):Nat->Option Ref:=fun k=>match look ρ k with
 | some (some b)=>ι b
 | some none=>some nilRef
 | none=>bif isH k then (match look ρ (k % hbase) with
  | some (some c)=>bif Nat.beq c (k % hbase) then ι k else none
  | _=>none) else none
def Stat (ρ:Ren):Prop:=∀ k v,look ρ k=some v->isH k=false
theorem hSame {ρ:Ren} {ι:Nat->Option Ref} {p:Nat} (hst:Stat ρ) (hl:look ρ p=some (some p)) (n:Nat):p<hbase/\renamed ρ ι (hnm p n)=ι (hnm p n):=by
 have hp:p<hbase:=by
  have:=hst _ _ hl
  unfold isH at this
  rcases Nat.lt_or_ge p hbase with h | h
  . exact h
  . rw[show Nat.ble hbase p=true by rw[Nat.ble_eq];exact h] at this;cases this
 refine⟨hp,?_⟩
 unfold renamed
 cases e:look ρ (hnm p n) with
 | some v=>have:=hst _ _ e;rw[isH_hn] at this;cases this
 | none=>simp only[isH_hn,q0Q hp,hl,Nat.beq_refl,cond_true]
theorem frozH_rep {w:World} {F:Nat->Prop} {ι:Nat->Option Ref} {ρ:Ren} (hst:Stat ρ):∀ (t:Ty) (x:den t) (cs:List Value),frozH t=true->(∀ k v,(k,v)∈hdRen t->look ρ k=some v)->rep w F ι t x cs->rep w F (renamed ρ ι) t x cs:=by
 intro t
 induction t with
 | pair a b iha ihb=>
  intro x cs hf hc h
  simp only[frozH,Bool.and_eq_true] at hf
  simp only[rep] at h ⊢
  obtain⟨c1,c2,rfl,h1,h2⟩:=h
  exact⟨c1,c2,rfl,iha _ _ hf.1 (fun k v hm=>hc k v (List.mem_append_left _ hm)) h1,ihb _ _ hf.2 (fun k v hm=>hc k v (List.mem_append_right _ hm)) h2⟩
 | agg c ih=>intro x cs hf hc h;simp only[rep] at h ⊢;exact ih _ _ hf hc h
 | hd p=>
  intro x cs _ hc h
  cases x with
  | none=>simpa only[rep] using h
  | some n=>
   simp only[rep] at h ⊢
   obtain⟨r,hr,e⟩:=h
   exact⟨r,(hSame hst (hc p (some p) (by simp[hdRen])) n).2.trans hr,e⟩
 | sl t ih=>
  intro x cs hf hc h
  cases x with
  | none=>simpa only[rep] using h
  | some l=>
   simp only[rep] at h ⊢
   obtain⟨a,cap,rfl,hl,hr⟩:=h
   refine⟨a,cap,rfl,hl,fun hn=>?_⟩
   obtain⟨cells,el,fz,hs,hf',hb,hr⟩:=hr hn
   exact⟨cells,el,fz,hs,hf',hb,fun i y hy=>ih y _ hf hc (hr i y hy)⟩
 | _=>intro x cs hf _ h;exact rep_frozen _ _ _ hf h
theorem mtF_ok {w:World} {F:Nat->Prop} {ι:Nat->Option Ref} {ρ:Ren} {t u:Ty} {x:den u} {y:den t} {c:Ren} {cs:List Value} (hc:∀ k v,(k,v)∈c->look ρ k=some v) (hst:Stat ρ) (hr:rep w F ι u x cs) (h:mtF t u x=some (y,c)):
 rep w F (renamed ρ ι) t y cs/\isAggT u=isAggT t/\cellT u=cellT t:=by
 unfold mtF at h
 cases e:frozen t<;>rw[e] at h
 . simp only[cond_false] at h
   cases e2:frozH t<;>rw[e2] at h
   . simp at h
   simp only[cond_true] at h
   split at h<;>try (simp at h;done)
   rename_i z hz
   simp only[Option.some.injEq,Prod.mk.injEq] at h
   obtain⟨rfl,rfl⟩:=h
   obtain⟨rfl,rfl⟩:=castT_some hz
   exact⟨frozH_rep hst _ _ _ e2 hc hr,rfl,rfl⟩
 simp only[cond_true] at h
 split at h<;>try (simp at h;done)
 rename_i z hz
 simp only[Option.some.injEq,Prod.mk.injEq] at h
 obtain⟨rfl,rfl⟩:=h
 have htag:=q3Z _ _ _ _ hz
 exact⟨rep_frozen _ _ _ e (coe_rep (fun _ h=>h) q2i _ _ _ _ _ hr hz),htag.1,htag.2.2⟩
theorem mt_ok {w:World} {F:Nat->Prop} {ι:Nat->Option Ref} {ρ:Ren}:∀ (t u:Ty) (x:den u) (y:den t) (c:Ren) (cs:List Value),(∀ k v,(k,v)∈c->look ρ k=some v)->Stat ρ->rep w F ι u x cs->mt t u x=some (y,c)->
 rep w F (renamed ρ ι) t y cs/\isAggT u=isAggT t/\cellT u=cellT t:=by
 intro t
 induction t with
 | own b=>
  intro u x y c cs hc hst hr h
  change mtO b u x=some (y,c) at h
  cases u with
  | own d=>
   simp only[mtO,Option.some.injEq,Prod.mk.injEq] at h
   obtain⟨_,rfl⟩:=h
   simp only[rep] at hr ⊢
   obtain⟨r,hr,rfl⟩:=hr
   exact⟨⟨r,by simp[renamed,hc b (some d) (by simp),hr],rfl⟩,rfl,rfl⟩
  | cst d=>
   change (bif q16 d then some ((),[(b,none)]) else none)=some (y,c) at h
   cases d<;>simp[q16] at h
   obtain⟨_,rfl⟩:=h
   simp only[rep,Cst.val] at hr ⊢
   subst hr
   exact⟨⟨nilRef,by simp[renamed,hc b none (by simp)],rfl⟩,rfl,rfl⟩
  | sl d=>
   cases x with
   | none=>
    change some ((),[(b,none)])=some (y,c) at h
    simp only[Option.some.injEq,Prod.mk.injEq] at h
    obtain⟨_,rfl⟩:=h
    simp only[rep] at hr ⊢
    subst hr
    exact⟨⟨nilRef,by simp[renamed,hc b none (by simp)],rfl⟩,rfl,rfl⟩
   | some l=>exact absurd h (by intro h;cases h)
  | _=>exact absurd h (by intro h;cases h)
 | ref b o=>
  intro u x y c cs hc hst hr h
  change mtR b o u x=some (y,c) at h
  cases u with
  | ref d o'=>
   change (bif Nat.beq o o' then some ((),[(b,some d)]) else none)=some (y,c) at h
   obtain⟨ho,h2⟩:=bif_some h
   clear h
   rw[Nat.beq_eq] at ho;subst ho
   have hc2:c=[(b,some d)]:=(congrArg Prod.snd h2).symm
   subst hc2
   simp only[rep] at hr ⊢
   obtain⟨r,hr,rfl⟩:=hr
   exact⟨⟨r,by simp[renamed,hc b (some d) (by simp),hr],rfl⟩,rfl,rfl⟩
  | _=>exact absurd h (by intro h;cases h)
 | pair a b iha ihb=>
  intro u x y c cs hc hst hr h
  change mtP (mt a) (mt b) u x=some (y,c) at h
  cases u with
  | pair a' b'=>
   simp only[mtP] at h
   split at h<;>try (simp at h;done)
   rename_i y1 c1 h1
   split at h<;>try (simp at h;done)
   rename_i y2 c2 h2
   simp only[Option.some.injEq,Prod.mk.injEq] at h
   obtain⟨rfl,rfl⟩:=h
   simp only[rep] at hr ⊢
   obtain⟨s1,s2,rfl,q1,q2⟩:=hr
   exact⟨⟨s1,s2,rfl,(iha _ _ _ _ _ (fun k v hm=>hc k v (List.mem_append_left _ hm)) hst q1 h1).1,(ihb _ _ _ _ _ (fun k v hm=>hc k v (List.mem_append_right _ hm)) hst q2 h2).1⟩,rfl,rfl⟩
  | _=>exact absurd h (by intro h;cases h)
 | agg c0 ih=>
  intro u x y c cs hc hst hr h
  change mtA (mt c0) u x=some (y,c) at h
  cases u with
  | agg c'=>
   simp only[mtA] at h
   simp only[rep] at hr ⊢
   exact⟨(ih _ _ _ _ _ hc hst hr h).1,rfl,rfl⟩
  | _=>exact absurd h (by intro h;cases h)
 | vw b=>
  intro u x y c cs hc hst hr h
  change mtV b u x=some (y,c) at h
  cases u with
  | vw d=>
   change some (x,[(b,some d)])=some (y,c) at h
   have hc2:c=[(b,some d)]:=(congrArg Prod.snd (Option.some.inj h)).symm
   have hx:x=y:=congrArg Prod.fst (Option.some.inj h)
   subst hc2 hx
   simp only[rep] at hr ⊢
   obtain⟨r,hr,h1⟩:=hr
   exact⟨⟨r,by simp[renamed,hc b (some d) (by simp),hr],h1⟩,rfl,rfl⟩
  | _=>exact absurd h (by intro h;cases h)
 | hd p=>
  intro u x y c cs hc hst hr h
  change mtH p u x=some (y,c) at h
  cases u with
  | hd q=>
   change (bif Nat.beq p q then some (x,[(p,some p)]) else none)=some (y,c) at h
   obtain⟨ho,h2⟩:=bif_some h
   clear h
   rw[Nat.beq_eq] at ho;subst ho
   have hc2:c=[(p,some p)]:=(congrArg Prod.snd h2).symm
   have hx:x=y:=congrArg Prod.fst h2
   subst hc2 hx
   refine⟨?_,rfl,rfl⟩
   simp only[rep] at hr ⊢
   cases x with
   | none=>exact hr
   | some n=>
    obtain⟨r,hr,e⟩:=hr
    exact⟨r,(hSame hst (hc p (some p) (by simp)) n).2.trans hr,e⟩
  | cst d=>
   change (bif q16 d then some (none,[]) else none)=some (y,c) at h
   cases d<;>simp[q16] at h
   obtain⟨rfl,rfl⟩:=h
   refine⟨?_,rfl,rfl⟩
   simp only[rep,Cst.val] at hr ⊢
   exact hr
  | _=>exact absurd h (by intro h;cases h)
 | her p o=>intro u x y c cs _ _ _ h;exact absurd h (by intro h;cases h)
 | tup c0 _=>intro u x y c cs _ _ _ h;exact absurd h (by intro h;cases h)
 | eref b o=>intro u x y c cs _ _ _ h;exact absurd h (by intro h;cases h)
 | _=>intro u x y c cs hc hst hr h;exact mtF_ok hc hst hr h
theorem mtF_tags {t u:Ty} {x:den u} {y:den t} {c:Ren} (h:mtF t u x=some (y,c)):isAggT u=isAggT t/\cellT u=cellT t:=by
 unfold mtF at h
 cases e:frozen t<;>rw[e] at h
 . simp only[cond_false] at h
   cases e2:frozH t<;>rw[e2] at h
   . simp at h
   simp only[cond_true] at h
   split at h<;>try (simp at h;done)
   rename_i z hz
   obtain⟨rfl,_⟩:=castT_some hz
   exact⟨rfl,rfl⟩
 simp only[cond_true] at h
 split at h<;>try (simp at h;done)
 rename_i z hz
 have htag:=q3Z _ _ _ _ hz
 exact⟨htag.1,htag.2.2⟩
theorem mt_tags {t u:Ty} {x:den u} {y:den t} {c:Ren} (h:mt t u x=some (y,c)):isAggT u=isAggT t/\cellT u=cellT t:=by
 cases t with
 | own b=>
  change mtO b u x=some (y,c) at h
  cases u<;>first | exact⟨rfl,rfl⟩ | exact absurd h (by intro h;cases h)
 | hd p=>
  change mtH p u x=some (y,c) at h
  cases u<;>first | exact⟨rfl,rfl⟩ | exact absurd h (by intro h;cases h)
 | her p o=>exact absurd h (by intro h;cases h)
 | bref b w n=>exact absurd h (by intro h;cases h)
 | ref b o=>
  change mtR b o u x=some (y,c) at h
  cases u<;>first | exact⟨rfl,rfl⟩ | exact absurd h (by intro h;cases h)
 | pair a b=>
  change mtP (mt a) (mt b) u x=some (y,c) at h
  cases u<;>first | exact⟨rfl,rfl⟩ | exact absurd h (by intro h;cases h)
 | agg c0=>
  change mtA (mt c0) u x=some (y,c) at h
  cases u<;>first | exact⟨rfl,rfl⟩ | exact absurd h (by intro h;cases h)
 | tup c0=>exact absurd h (by intro h;cases h)
 | eref b o=>exact absurd h (by intro h;cases h)
 | vw b=>
  change mtV b u x=some (y,c) at h
  cases u<;>first | exact⟨rfl,rfl⟩ | exact absurd h (by intro h;cases h)
 | _=>exact mtF_tags h
theorem q3X {t u:Ty} {x:den u} {y:den t} (h:castT t u x=some y):u=t:=(castT_some h).1
theorem coe_hd {hp:Nat->Option Blk} {t u:Ty} {x:den u} {y:den t} (h:coe hp t u x=some y):hdT u=hdT t:=by
 cases t with
 | sl c=>
  rw[q13] at h
  rcases coeS_some h with ⟨rfl,_⟩ | ⟨b,l,rfl,_,_⟩ | ⟨rfl,_⟩ | ⟨b,l,rfl,_,_⟩ | ⟨_,_,rfl,_,_⟩<;>rfl
 | pair a b=>rw[q1G] at h;obtain⟨_,_,rfl,_⟩:=q30 h;rfl
 | agg c=>rw[q1j] at h;obtain⟨_,rfl,_⟩:=q2d h;rfl
 | tup c=>rw[q1k] at h;obtain⟨_,rfl,_⟩:=q2e h;rfl
 | _=>rw[q3X h]
theorem coe_hd2 {hp:Nat->Option Blk} {t u:Ty} {x:den u} {y:den t} (h:coe hp t u x=some y):hd2 u=hd2 t:=by
 cases t with
 | agg c=>
  rw[q1j] at h
  obtain⟨d,rfl,h⟩:=q2d h
  cases c with
  | pair a b=>
   rw[q1G] at h
   obtain⟨a',b',rfl,y1,y2,h1,h2,_⟩:=q30 h
   show (hdT a',hdT b')=(hdT a,hdT b)
   rw[coe_hd h1,coe_hd h2]
  | sl c=>
   rw[q13] at h
   rcases coeS_some h with ⟨rfl,_⟩ | ⟨b,l,rfl,_,_⟩ | ⟨rfl,_⟩ | ⟨b,l,rfl,_,_⟩ | ⟨_,_,rfl,_,_⟩<;>rfl
  | agg c=>rw[q1j] at h;obtain⟨_,rfl,_⟩:=q2d h;rfl
  | tup c=>rw[q1k] at h;obtain⟨_,rfl,_⟩:=q2e h;rfl
  | _=>rw[q3X h]
 | sl c=>
  rw[q13] at h
  rcases coeS_some h with ⟨rfl,_⟩ | ⟨b,l,rfl,_,_⟩ | ⟨rfl,_⟩ | ⟨b,l,rfl,_,_⟩ | ⟨_,_,rfl,_,_⟩<;>rfl
 | pair a b=>rw[q1G] at h;obtain⟨_,_,rfl,_⟩:=q30 h;rfl
 | tup c=>rw[q1k] at h;obtain⟨_,rfl,_⟩:=q2e h;rfl
 | _=>rw[q3X h]
theorem mtF_hd {t u:Ty} {x:den u} {y:den t} {c:Ren} (h:mtF t u x=some (y,c)):hdT u=hdT t/\hd2 u=hd2 t:=by
 unfold mtF at h
 cases e:frozen t<;>rw[e] at h
 . simp only[cond_false] at h
   cases e2:frozH t<;>rw[e2] at h
   . simp at h
   simp only[cond_true] at h
   split at h<;>try (simp at h;done)
   rename_i z hz
   obtain⟨rfl,_⟩:=castT_some hz
   exact⟨rfl,rfl⟩
 simp only[cond_true] at h
 split at h<;>try (simp at h;done)
 rename_i z hz
 exact⟨coe_hd hz,coe_hd2 hz⟩
theorem mt_hd {t u:Ty} {x:den u} {y:den t} {c:Ren} (h:mt t u x=some (y,c)):hdT u=hdT t:=by
 cases t with
 | own b=>
  change mtO b u x=some (y,c) at h
  cases u with
  | cst d=>cases d<;>first | rfl | exact absurd h (by intro h;cases h)
  | _=>first | rfl | exact absurd h (by intro h;cases h)
 | hd p=>
  change mtH p u x=some (y,c) at h
  cases u with
  | cst d=>cases d<;>first | rfl | exact absurd h (by intro h;cases h)
  | _=>first | rfl | exact absurd h (by intro h;cases h)
 | her p o=>exact absurd h (by intro h;cases h)
 | bref b w n=>exact absurd h (by intro h;cases h)
 | ref b o=>
  change mtR b o u x=some (y,c) at h
  cases u<;>first | rfl | exact absurd h (by intro h;cases h)
 | pair a b=>
  change mtP (mt a) (mt b) u x=some (y,c) at h
  cases u<;>first | rfl | exact absurd h (by intro h;cases h)
 | agg c0=>
  change mtA (mt c0) u x=some (y,c) at h
  cases u<;>first | rfl | exact absurd h (by intro h;cases h)
 | tup c0=>exact absurd h (by intro h;cases h)
 | eref b o=>exact absurd h (by intro h;cases h)
 | vw b=>
  change mtV b u x=some (y,c) at h
  cases u<;>first | rfl | exact absurd h (by intro h;cases h)
 | _=>exact (mtF_hd h).1
theorem coe_pr {hp:Nat->Option Blk} {t a b:Ty} {x:den (.pair a b)} {y:den t} (h:coe hp t (.pair a b) x=some y):∃ a' b',t=.pair a' b':=by
 cases t with
 | pair a' b'=>exact⟨a',b',rfl⟩
 | sl c=>rw[q13] at h;rcases coeS_some h with ⟨e,_⟩ | ⟨_,_,e,_⟩ | ⟨e,_⟩ | ⟨_,_,e,_⟩ | ⟨_,_,e,_⟩<;>cases e
 | agg c=>rw[q1j] at h;obtain⟨_,e,_⟩:=q2d h;cases e
 | tup c=>rw[q1k] at h;obtain⟨_,e,_⟩:=q2e h;cases e
 | _=>have e:=q3X h;cases e
theorem mtF_pr {t a b:Ty} {x:den (.pair a b)} {y:den t} {c:Ren} (h:mtF t (.pair a b) x=some (y,c)):∃ a' b',t=.pair a' b':=by
 unfold mtF at h
 cases e:frozen t<;>rw[e] at h
 . simp only[cond_false] at h
   cases e2:frozH t<;>rw[e2] at h
   . simp at h
   simp only[cond_true] at h
   split at h<;>try (simp at h;done)
   rename_i z hz
   obtain⟨rfl,_⟩:=castT_some hz
   exact⟨_,_,rfl⟩
 simp only[cond_true] at h
 split at h<;>try (simp at h;done)
 rename_i z hz
 exact coe_pr hz
theorem mt_hd2 {t u:Ty} {x:den u} {y:den t} {c:Ren} (h:mt t u x=some (y,c)):hd2 u=hd2 t:=by
 cases t with
 | own b=>
  change mtO b u x=some (y,c) at h
  cases u<;>first | rfl | exact absurd h (by intro h;cases h)
 | hd p=>
  change mtH p u x=some (y,c) at h
  cases u with
  | cst d=>cases d<;>first | rfl | exact absurd h (by intro h;cases h)
  | _=>first | rfl | exact absurd h (by intro h;cases h)
 | her p o=>exact absurd h (by intro h;cases h)
 | bref b w n=>exact absurd h (by intro h;cases h)
 | ref b o=>
  change mtR b o u x=some (y,c) at h
  cases u<;>first | rfl | exact absurd h (by intro h;cases h)
 | pair a b=>
  change mtP (mt a) (mt b) u x=some (y,c) at h
  cases u<;>first | rfl | exact absurd h (by intro h;cases h)
 | agg c0=>
  change mtA (mt c0) u x=some (y,c) at h
  cases u with
  | agg c1=>
   change mt c0 c1 x=some (y,c) at h
   cases c0 with
   | pair a b=>
    change mtP (mt a) (mt b) c1 x=some (y,c) at h
    cases c1 with
    | pair a' b'=>
     simp only[mtP] at h
     split at h<;>try (simp at h;done)
     rename_i y1 c1 h1
     split at h<;>try (simp at h;done)
     rename_i y2 c2 h2
     show (hdT a',hdT b')=(hdT a,hdT b)
     rw[mt_hd h1,mt_hd h2]
    | _=>exact absurd h (by intro h;cases h)
   | _=>
    cases c1 with
    | pair a' b'=>
     exfalso
     first
      | exact absurd h (by intro h;cases h)
      | (obtain⟨_,_,e⟩:=mtF_pr h;cases e)
    | _=>rfl
  | _=>exact absurd h (by intro h;cases h)
 | tup c0=>exact absurd h (by intro h;cases h)
 | eref b o=>exact absurd h (by intro h;cases h)
 | vw b=>
  change mtV b u x=some (y,c) at h
  cases u<;>first | rfl | exact absurd h (by intro h;cases h)
 | _=>exact (mtF_hd h).2
inductive Ent where
 | var (n:Nat) (t:Ty)
 | box (b:Nat) (t:Ty)
 | arr (b:Nat) (t:Ty)
 | pool (b:Nat) (t:Ty)
@[reducible] def denE:Ent->Type
 | .var _ t=>den t
 | .box _ t=>den t
 | .arr _ t=>Option (List (den t))
 | .pool _ t=>List (List (den t))
@[reducible] def Pay:List Ent->Type
 | []=>Unit
 | [e]=>denE e
 | e :: e' :: l=>denE e×Pay (e' :: l)
structure Shape where
 csts:List (Nat×Ty)
 ents:List Ent
def unitT:Ty->Bool
 | .own _=>true
 | .ref _ _=>true
 | .cst _=>true
 | _=>false
theorem unitT_ok {t:Ty} (h:unitT t=true) (x y:den t):x=y:=by
 cases t<;>simp[unitT] at h<;>rfl
def castP (t u:Ty) (x:List (List (den u))):Option (List (List (den t))):=if h:u=t then some (h ▸ x) else none
theorem qah {t u:Ty} {x:List (List (den u))} {y:List (List (den t))} (h:castP t u x=some y):∃ e:u=t,e ▸ x=y:=by
 unfold castP at h
 split at h
 . rename_i e;exact⟨e,by simpa using h⟩
 . simp at h
def getC (st:St):List (Nat×Ty)->Ren->Option Ren
 | [],ρ=>some ρ
 | (n,t) :: l,ρ=>match st.env n with
  | some v=>match mt t v.t v.x with
   | some (_,c)=>bif valT t && unitT t then match addR ρ c with
    | some ρ=>getC st l ρ
    | none=>none else none
   | none=>none
  | none=>none
def getE (st:St) (ρ:Ren):(e:Ent)->Option (denE e×Ren)
 | .var n t=>match st.env n with
  | some v=>match mt t v.t v.x with
   | some (y,c)=>bif valT t then match addR ρ c with
    | some ρ=>some (y,ρ)
    | none=>none else none
   | none=>none
  | none=>none
 | .box b t=>match look ρ b with
  | some (some d)=>match st.heap d with
   | some (.box u x)=>match mt t u x with
    | some (y,c)=>match addR ρ c with
     | some ρ=>some (y,ρ)
     | none=>none
    | none=>none
   | _=>none
  | _=>none
 | .arr b t=>match look ρ b with
  | some (some d)=>match st.heap d with
   | some (.arr u l)=>match castT (.sl t) (.sl u) l with
    | some y=>bif frozH t then match addR ρ (hdRen t) with
     | some ρ=>some (y,ρ)
     | none=>none else none
    | none=>none
   | _=>none
  | some none=>bif valT t then some (none,ρ) else none
  | none=>none
 | .pool b t=>match st.heap b with
  | some (.pool q u ls)=>match castP t u ls with
   | some y=>bif frozH t && Nat.beq q b then match addR ρ ((b,some b) :: hdRen t) with
    | some ρ=>some (y,ρ)
    | none=>none else none
   | none=>none
  | _=>none
def getL (st:St):(l:List Ent)->Ren->Option (Pay l×Ren)
 | [],ρ=>some ((),ρ)
 | [e],ρ=>getE st ρ e
 | e :: e' :: l,ρ=>match getE st ρ e with
  | some (x,ρ)=>match getL st (e' :: l) ρ with
   | some (p,ρ)=>some ((x,p),ρ)
   | none=>none
  | none=>none
def hasV (n:Nat):Ren->Bool
 | []=>false
 | (_,some m) :: l=>Nat.beq n m || hasV n l
 | (_,none) :: l=>hasV n l
def injR:Ren->Bool
 | []=>true
 | (_,some m) :: l=>!hasV m l && injR l
 | (_,none) :: l=>injR l
def q0h:List Ent->List Nat
 | []=>[]
 | .var _ t :: l=>ids t ++ q0h l
 | .box b t :: l=>b :: (ids t ++ q0h l)
 | .arr b t :: l=>b :: (ids t ++ q0h l)
 | .pool b t :: l=>b :: (ids t ++ q0h l)
def q3b:List (Nat×Ty)->List Nat
 | []=>[]
 | (_,t) :: l=>ids t ++ q3b l
def Shape.names (sh:Shape):List Nat:=q3b sh.csts ++ q0h sh.ents
def q38 (l:List Nat):Ren->Bool
 | []=>true
 | (k,_) :: ρ=>memN k l && q38 l ρ
def q1O:Ren->Bool
 | []=>true
 | (k,some m) :: l=>(!pinned k || Nat.beq k m) && q1O l
 | (k,none) :: l=>!pinned k && q1O l
theorem q5M:∀ {ρ:Ren},q1O ρ=true->∀ {n:Nat} {v:Option Nat},pinned n=true->look ρ n=some v->v=some n
 | [],_,n,v,_,h=>by simp[look] at h
 | (k,some m) :: l,hp,n,v,hn,h=>by
  simp only[q1O,Bool.and_eq_true] at hp
  simp only[look] at h
  cases e:Nat.beq n k<;>rw[e] at h
  . exact q5M hp.2 hn h
  . simp only[cond_true,Option.some.injEq] at h
    have e1:n=k:=Nat.eq_of_beq_eq_true e
    subst e1
    rw[hn] at hp
    simp only[Bool.not_true,Bool.false_or] at hp
    rw[<-h,<-Nat.eq_of_beq_eq_true hp.1]
 | (k,none) :: l,hp,n,v,hn,h=>by
  simp only[q1O,Bool.and_eq_true] at hp
  simp only[look] at h
  cases e:Nat.beq n k<;>rw[e] at h
  . exact q5M hp.2 hn h
  . have e1:n=k:=Nat.eq_of_beq_eq_true e
    subst e1
    rw[hn] at hp;simp at hp
def statN:List Nat->Bool
 | []=>true
 | n :: l=>Nat.blt n hbase && statN l
def unpack (sh:Shape) (st:St):Option (Pay sh.ents):=
 match getC st sh.csts [] with
 | some ρ=>match getL st sh.ents ρ with
  | some (p,ρ)=>bif injR ρ && q38 sh.names ρ && statN sh.names && q1O ρ then some p else none
  | none=>none
 | none=>none
def q0W (sh:Shape) (st:St):Option (Pay sh.ents×Ren):=
 match getC st sh.csts [] with
 | some ρ=>match getL st sh.ents ρ with
  | some (p,ρ)=>bif injR ρ && q38 sh.names ρ && statN sh.names then some (p,ρ) else none
  | none=>none
 | none=>none
def packC:List (Nat×Ty)->St->St
 | [],st=>st
 | (n,t) :: l,st=>packC l (st.put n (some ⟨t,dflt t⟩))
def packE1:(e:Ent)->denE e->St->St
 | .var n t,x,st=>st.put n (some ⟨t,x⟩)
 | .box b t,x,st=>{ st with heap:=upd st.heap b (some (.box t x)) }
 | .arr b t,x,st=>{ st with heap:=upd st.heap b (some (.arr t x)) }
 | .pool b t,x,st=>{ st with heap:=upd st.heap b (some (.pool b t x)) }
def packL:(l:List Ent)->Pay l->St->St
 | [],_,st=>st
 | [e],x,st=>packE1 e x st
 | e :: e' :: l,p,st=>packL (e' :: l) p.2 (packE1 e p.1 st)
def pack (sh:Shape) (p:Pay sh.ents):St:=packL sh.ents p (packC sh.csts ⟨fun _=>none,fun _=>none,fun n=>memN n sh.names || resv n⟩)
end Go.VM
namespace Go.VM
open Go Go.RowKit
section
variable {P:Program} {base:Mine} {w0 w:World} {F0 F:Nat->Prop} {ι:Nat->Option Ref} {N:Nat} {st:St} {a:Act}
theorem q75 {ρ:Ren} {k n:Nat} (h:look ρ k=some (some n)):hasV n ρ=true:=by
 induction ρ with
 | nil=>simp[look] at h
 | cons p l ih=>
  obtain⟨k',v⟩:=p
  simp only[look] at h
  cases e:Nat.beq k k'<;>rw[e] at h
  . have:=ih h
    cases v<;>simp[hasV,this]
  . simp only[cond_true,Option.some.injEq] at h;subst h
    simp[hasV]
theorem injR_ok {ρ:Ren} (h:injR ρ=true) {k k' n:Nat} (h1:look ρ k=some (some n)) (h2:look ρ k'=some (some n)):k=k':=by
 induction ρ with
 | nil=>simp[look] at h1
 | cons p l ih=>
  obtain⟨q,v⟩:=p
  have hl:injR l=true:=by cases v<;>simp[injR] at h<;>first | exact h | exact h.2
  simp only[look] at h1 h2
  cases e1:Nat.beq k q<;>rw[e1] at h1<;>cases e2:Nat.beq k' q<;>rw[e2] at h2<;>simp only[cond_true,cond_false,Option.some.injEq] at h1 h2
  . exact ih hl h1 h2
  . subst h2
    simp only[injR,Bool.and_eq_true,Bool.not_eq_true'] at h
    rw[q75 h1] at h;simp at h
  . subst h1
    simp only[injR,Bool.and_eq_true,Bool.not_eq_true'] at h
    rw[q75 h2] at h;simp at h
  . rw[Nat.beq_eq] at e1 e2;rw[e1,e2]
theorem keysIn_ok {l:List Nat} {ρ:Ren} (h:q38 l ρ=true) {k:Nat} {v:Option Nat} (hk:look ρ k=some v):memN k l=true:=by
 induction ρ with
 | nil=>simp[look] at hk
 | cons p ρ ih=>
  obtain⟨q,u⟩:=p
  simp only[q38,Bool.and_eq_true] at h
  simp only[look] at hk
  cases e:Nat.beq k q<;>rw[e] at hk
  . exact ih h.2 hk
  . rw[Nat.beq_eq] at e;subst e;exact h.1
theorem q6g {n:Nat}:∀ {l:List Nat},statN l=true->memN n l=true->isH n=false
 | [],_,h=>by simp[memN] at h
 | m :: l,hs,h=>by
  simp only[statN,Bool.and_eq_true] at hs
  simp only[memN,Bool.or_eq_true,Nat.beq_eq] at h
  rcases h with rfl | h
  . unfold isH
    cases e:Nat.ble hbase n with
    | false=>rfl
    | true=>have:=Nat.le_of_ble_eq_true e;have:=Nat.le_of_ble_eq_true hs.1;omega
  . exact q6g hs.2 h
def Grows (ρ ρ':Ren):Prop:=∀ n u,look ρ n=some u->look ρ' n=some u
def EnvOk (w:World) (F:Nat->Prop) (ι:Nat->Option Ref) (a:Act) (env:Nat->Option V):Prop:=∀ s v,env s=some v->vrep w F ι v.t v.x (a.tmps.getD s undef)
def q1b (w:World) (base:Mine) (F:Nat->Prop) (ρ:Ren) (ι:Nat->Option Ref) (st:St) (hp:Nat->Option Blk):Prop:=
 ∀ k blk,hp k=some blk->(∃ d k0 r,look ρ k=some (some d)/\st.heap d=some k0/\ι d=some r/\brep w base F (renamed ρ ι) r blk/\(isPool blk=true->k0=blk/\d=k/\∃ t ls,blk=.pool k t ls))∨(look ρ k=some none/\∃ t,valT t=true/\blk=.arr t none)
theorem qb8 {t u:Ty} {x:den u} {y:den t} {ι':Nat->Option Ref} {v:Value} (ht:valT t=true) (ha:isAggT u=isAggT t) (hc:cellT u=cellT t) (hv:vrep w F ι u x v) (h:∀ cs,rep w F ι u x cs->rep w F ι' t y cs):vrep w F ι' t y v:=by
 rcases valT_or ht with h1 | h1
 . rw[vrep_agg h1]
   rw[vrep_agg (ha.trans h1)] at hv
   obtain⟨cs,rfl,hv⟩:=hv
   exact⟨cs,rfl,h _ hv⟩
 . rw[vrep_cell h1]
   rw[vrep_cell (hc.trans h1)] at hv
   exact h _ hv
theorem mt_vrep {ρ:Ren} {t u:Ty} {x:den u} {y:den t} {c:Ren} {v:Value} (ht:valT t=true) (hc:∀ k v,(k,v)∈c->look ρ k=some v) (hst:Stat ρ) (hv:vrep w F ι u x v) (h:mt t u x=some (y,c)):vrep w F (renamed ρ ι) t y v:=by
 have htag:=mt_tags h
 exact qb8 ht htag.1 htag.2 hv fun cs hr=>(mt_ok _ _ _ _ _ _ hc hst hr h).1
theorem getC_ok:∀ (l:List (Nat×Ty)) (ρ ρ':Ren),getC st l ρ=some ρ'->Grows ρ ρ' /\
 ∀ ρ₂,Grows ρ' ρ₂->Stat ρ₂->Sim base w0 F0 F ι st a w->∀ st',EnvOk w F (renamed ρ₂ ι) a st'.env->EnvOk w F (renamed ρ₂ ι) a (packC l st').env/\(packC l st').heap=st'.heap/\(packC l st').used=st'.used
 | [],ρ,ρ',h=>by
  simp only[getC,Option.some.injEq] at h;subst h
  exact⟨fun _ _ h=>h,fun ρ₂ _ _ _ st' he=>⟨he,rfl,rfl⟩⟩
 | (n,t) :: l,ρ,ρ',h=>by
  simp only[getC] at h
  split at h<;>try (simp at h;done)
  rename_i v hv
  split at h<;>try (simp at h;done)
  rename_i y c hm
  cases hvu:(valT t && unitT t)<;>rw[hvu] at h<;>simp only[cond_true,cond_false,reduceCtorEq] at h
  simp only[Bool.and_eq_true] at hvu
  obtain⟨hval,hun⟩:=hvu
  split at h<;>try (simp at h;done)
  rename_i ρ1 hadd
  obtain⟨g1,g2⟩:=q1y _ _ _ hadd
  obtain⟨k1,k2⟩:=getC_ok l ρ1 ρ' h
  refine⟨fun n u hu=>k1 _ _ (g1 _ _ hu),fun ρ₂ hρ hst hs st' he=>?_⟩
  have hy:y=dflt t:=unitT_ok hun _ _
  have hnew:EnvOk w F (renamed ρ₂ ι) a (st'.put n (some ⟨t,dflt t⟩)).env:=by
   intro s u hu
   rcases upd_some hu with ⟨rfl,e⟩ | ⟨_,e⟩
   . cases e
     rw[<-hy]
     exact mt_vrep hval (fun k v hm=>hρ _ _ (k1 _ _ (g2 k v hm))) hst (hs.env _ _ hv) hm
   . exact he _ _ e
  obtain⟨q1,q2,q3⟩:=k2 ρ₂ hρ hst hs _ hnew
  exact⟨q1,q2,q3⟩
theorem getE_ok {e:Ent} {ρ ρ':Ren} {x:denE e} (h:getE st ρ e=some (x,ρ')):Grows ρ ρ' /\
 ∀ ρ₂,Grows ρ' ρ₂->Stat ρ₂->Sim base w0 F0 F ι st a w->∀ st',EnvOk w F (renamed ρ₂ ι) a st'.env->q1b w base F ρ₂ ι st st'.heap->
  EnvOk w F (renamed ρ₂ ι) a (packE1 e x st').env/\q1b w base F ρ₂ ι st (packE1 e x st').heap/\(packE1 e x st').used=st'.used:=by
 cases e with
 | var n t=>
  simp only[getE] at h
  split at h<;>try (simp at h;done)
  rename_i v hv
  split at h<;>try (simp at h;done)
  rename_i y c hm
  cases hval:valT t<;>rw[hval] at h<;>simp only[cond_true,cond_false,reduceCtorEq] at h
  split at h<;>try (simp at h;done)
  rename_i ρ1 hadd
  simp only[Option.some.injEq,Prod.mk.injEq] at h
  obtain⟨rfl,rfl⟩:=h
  obtain⟨g1,g2⟩:=q1y _ _ _ hadd
  refine⟨g1,fun ρ₂ hρ hst hs st' he hh=>⟨?_,hh,rfl⟩⟩
  intro s u hu
  rcases upd_some hu with ⟨rfl,e⟩ | ⟨_,e⟩
  . cases e
    exact mt_vrep hval (fun k v hm=>hρ _ _ (g2 k v hm)) hst (hs.env _ _ hv) hm
  . exact he _ _ e
 | box b t=>
  simp only[getE] at h
  split at h<;>try (simp at h;done)
  rename_i d hd
  split at h<;>try (simp at h;done)
  rename_i u z hb
  split at h<;>try (simp at h;done)
  rename_i y c hm
  split at h<;>try (simp at h;done)
  rename_i ρ1 hadd
  simp only[Option.some.injEq,Prod.mk.injEq] at h
  obtain⟨rfl,rfl⟩:=h
  obtain⟨g1,g2⟩:=q1y _ _ _ hadd
  refine⟨g1,fun ρ₂ hρ hst hs st' he hh=>⟨he,?_,rfl⟩⟩
  intro k blk hk
  rcases upd_some hk with ⟨rfl,e⟩ | ⟨_,e⟩
  . cases e
    obtain⟨r,hr,q⟩:=hs.heap _ _ hb
    refine .inl ⟨d,_,r,hρ _ _ (g1 _ _ hd),hb,hr,?_,fun e=>by cases e⟩
    obtain⟨q1,q2,q3,q4,q5,cells,el,qb,q6,q7⟩:=q
    have htag:=mt_tags hm
    exact⟨q1,q2,q3,q4,by simp only[valT,<-htag.1,<-htag.2];exact q5,cells,el,fun h=>qb ((bld_hd (mt_hd2 hm)).trans h),q6,(mt_ok _ _ _ _ _ _ (fun k v hm=>hρ _ _ (g2 k v hm)) hst q7 hm).1⟩
  . exact hh _ _ e
 | arr b t=>
  simp only[getE] at h
  split at h
  . rename_i d hd
    split at h<;>try (simp at h;done)
    rename_i u l hb
    split at h<;>try (simp at h;done)
    rename_i y hy
    cases hfr:frozH t<;>rw[hfr] at h<;>simp only[cond_true,cond_false,reduceCtorEq] at h
    split at h<;>try (simp at h;done)
    rename_i ρ1 hadd
    simp only[Option.some.injEq,Prod.mk.injEq] at h
    obtain⟨rfl,rfl⟩:=h
    obtain⟨e,rfl⟩:=castT_some hy
    cases e
    obtain⟨g1,g2⟩:=q1y _ _ _ hadd
    refine⟨g1,fun ρ₂ hρ hst hs st' he hh=>⟨he,?_,rfl⟩⟩
    intro k blk hk
    rcases upd_some hk with ⟨rfl,e⟩ | ⟨_,e⟩
    . cases e
      obtain⟨r,hr,q0,q⟩:=hs.heap _ _ hb
      refine .inl ⟨d,_,r,hρ _ _ (g1 _ _ hd),hb,hr,⟨q0,?_⟩,fun e=>by cases e⟩
      cases l with
      | none=>exact q
      | some l=>
       obtain⟨q1,q2,q3,q4,q5,q6,cells,el,qe,q7,q8,q9⟩:=q
       exact⟨q1,q2,q3,q4,q5,q6,cells,el,qe,q7,q8,fun i y hy=>frozH_rep hst _ _ _ hfr (fun k v hm=>hρ _ _ (g2 k v hm)) (q9 i y hy)⟩
    . exact hh _ _ e
  . rename_i hd
    obtain⟨hval,h⟩:=bif_some h
    simp only[Prod.mk.injEq] at h
    obtain⟨rfl,rfl⟩:=h
    refine⟨fun _ _ h=>h,fun ρ₂ hρ hst hs st' he hh=>⟨he,?_,rfl⟩⟩
    intro k blk hk
    rcases upd_some hk with ⟨rfl,e⟩ | ⟨_,e⟩
    . cases e
      exact .inr ⟨hρ _ _ hd,t,hval,rfl⟩
    . exact hh _ _ e
  . simp at h
 | pool b t=>
  simp only[getE] at h
  split at h<;>try (simp at h;done)
  rename_i q u ls hb
  split at h<;>try (simp at h;done)
  rename_i y hy
  cases hfq:(frozH t && Nat.beq q b)<;>rw[hfq] at h<;>simp only[cond_true,cond_false,reduceCtorEq] at h
  simp only[Bool.and_eq_true,Nat.beq_eq] at hfq
  obtain⟨hfr,rfl⟩:=hfq
  split at h<;>try (simp at h;done)
  rename_i ρ1 hadd
  simp only[Option.some.injEq,Prod.mk.injEq] at h
  obtain⟨rfl,rfl⟩:=h
  obtain⟨e,rfl⟩:=qah hy
  cases e
  obtain⟨g1,g2⟩:=q1y _ _ _ hadd
  refine⟨g1,fun ρ₂ hρ hst hs st' he hh=>⟨he,?_,rfl⟩⟩
  intro k blk hk
  rcases upd_some hk with ⟨rfl,e⟩ | ⟨_,e⟩
  . cases e
    obtain⟨r,hr,q1,q2,q3,q4,q5⟩:=hs.heap _ _ hb
    have hself:=hρ _ _ (g2 k (some k) (by simp))
    refine .inl ⟨k,_,r,hself,hb,hr,⟨q1,q2,q3,fun n hn=>(hSame hst hself n).2.trans (q4 n hn),fun n l hl=>?_⟩,fun _=>⟨rfl,rfl,_,_,rfl⟩⟩
    obtain⟨s,hs',a1,a2,a3,a4,a5,a6,cells,el,ae,a7,a8,a9⟩:=q5 n l hl
    exact⟨s,(hSame hst hself n).2.trans hs',a1,a2,a3,a4,a5,a6,cells,el,ae,a7,a8,fun i y hy=>frozH_rep hst _ _ _ hfr (fun k v hm=>hρ _ _ (g2 k v (List.mem_cons_of_mem _ hm))) (a9 i y hy)⟩
  . exact hh _ _ e
theorem getL_ok:∀ (l:List Ent) (ρ ρ':Ren) (p:Pay l),getL st l ρ=some (p,ρ')->Grows ρ ρ' /\
 ∀ ρ₂,Grows ρ' ρ₂->Stat ρ₂->Sim base w0 F0 F ι st a w->∀ st',EnvOk w F (renamed ρ₂ ι) a st'.env->q1b w base F ρ₂ ι st st'.heap->
  EnvOk w F (renamed ρ₂ ι) a (packL l p st').env/\q1b w base F ρ₂ ι st (packL l p st').heap/\(packL l p st').used=st'.used
 | [],ρ,ρ',p,h=>by
  simp only[getL,Option.some.injEq,Prod.mk.injEq] at h
  obtain⟨_,rfl⟩:=h
  exact⟨fun _ _ h=>h,fun _ _ _ _ st' he hh=>⟨he,hh,rfl⟩⟩
 | [e],ρ,ρ',p,h=>getE_ok h
 | e :: e' :: l,ρ,ρ',p,h=>by
  simp only[getL] at h
  split at h<;>try (simp at h;done)
  rename_i x ρ1 h1
  split at h<;>try (simp at h;done)
  rename_i q ρ2 h2
  simp only[Option.some.injEq,Prod.mk.injEq] at h
  obtain⟨rfl,rfl⟩:=h
  obtain⟨a1,a2⟩:=getE_ok (base:=base) (w0:=w0) (w:=w) (F0:=F0) (F:=F) (ι:=ι) (a:=a) h1
  obtain⟨b1,b2⟩:=getL_ok (e' :: l) ρ1 ρ2 q h2
  refine⟨fun n u hu=>b1 _ _ (a1 _ _ hu),fun ρ₂ hρ hst hs st' he hh=>?_⟩
  obtain⟨c1,c2,c3⟩:=a2 ρ₂ (fun n u hu=>hρ _ _ (b1 _ _ hu)) hst hs st' he hh
  obtain⟨d1,d2,d3⟩:=b2 ρ₂ hρ hst hs _ c1 c2
  exact⟨d1,d2,d3.trans c3⟩
theorem unpackR_sim {sh:Shape} {p:Pay sh.ents} {ρ:Ren} (h:q0W sh st=some (p,ρ)) (hs:Sim base w0 F0 F ι st a w):
 (∀ pn:Nat->Option Ref,(∀ n r r',pinned n=true->pn n=some r'->renamed ρ ι n=some r->r=r')->Sim { base with pin:=pn } w0 F0 F (renamed ρ ι) (pack sh p) a w)/\q1b w base F ρ ι st (pack sh p).heap:=by
 unfold q0W at h
 split at h<;>try (simp at h;done)
 rename_i ρ1 h1
 split at h<;>try (simp at h;done)
 rename_i q ρ h2
 obtain⟨hc,e0⟩:=bif_some h
 cases e0
 simp only[Bool.and_eq_true] at hc
 obtain⟨⟨hinj,hkeys⟩,hstat⟩:=hc
 have hst:Stat ρ:=fun k v hk=>q6g hstat (keysIn_ok hkeys hk)
 obtain⟨a1,a2⟩:=getC_ok (base:=base) (w0:=w0) (w:=w) (F0:=F0) (F:=F) (ι:=ι) (a:=a) _ _ _ h1
 obtain⟨b1,b2⟩:=getL_ok (base:=base) (w0:=w0) (w:=w) (F0:=F0) (F:=F) (ι:=ι) (a:=a) _ _ _ _ h2
 obtain⟨c1,c2,c3⟩:=a2 ρ b1 hst hs ⟨fun _=>none,fun _=>none,fun n=>memN n sh.names || resv n⟩ (by intro s v hv;simp at hv)
 obtain⟨d1,d2,d3⟩:=b2 ρ (fun _ _ h=>h) hst hs _ c1 (by rw[c2];intro k blk hk;simp at hk)
 refine⟨fun pn hpn=>⟨d1,?_,?_,?_,hs.fsize,hs.fin,⟨hs.below.os,hs.below.tape,hs.below.output,hs.below.size,hs.below.block⟩,hs.size,?_,?_,hpn,hs.defers⟩,d2⟩
 . intro k blk hk
   rcases d2 k blk hk with ⟨d,k0,r,e1,e2,e3,e4,_⟩ | ⟨e1,t,ht,rfl⟩
   . exact⟨r,by simp only[renamed,e1];exact e3,e4⟩
   . exact⟨nilRef,by simp only[renamed,e1],ht,rfl⟩
 . intro b r hb
   have hu:(pack sh p).used=fun n=>memN n sh.names || resv n:=by show (packL _ _ _).used=_;rw[d3,c3]
   rw[hu]
   show (memN b sh.names || resv b)=true
   simp only[renamed] at hb
   split at hb
   . rename_i e;rw[keysIn_ok hkeys e];rfl
   . rename_i e;rw[keysIn_ok hkeys e];rfl
   . cases eh:isH b with
     | true=>simp[resv,eh]
     | false=>rw[eh] at hb;simp at hb
 . intro b c k k' r r' hbc hb hc' hr hr' hn hn'
   rcases d2 b k hb with ⟨d,k0,s,e1,e2,e3,e4,_⟩ | ⟨e1,t,ht,rfl⟩
   . rcases d2 c k' hc' with ⟨d',k0',s',f1,f2,f3,f4,_⟩ | ⟨f1,t',ht',rfl⟩
     . have hdd:d≠d':=by
        rintro rfl
        exact hbc (injR_ok hinj e1 f1)
       simp only[renamed,e1] at hr
       simp only[renamed,f1] at hr'
       exact hs.apart d d' k0 k0' r r' hdd e2 f2 hr hr' hn hn'
     . simp only[renamed,f1,Option.some.injEq] at hr'
       subst hr'
       simp[nilRef] at hn'
   . simp only[renamed,e1,Option.some.injEq] at hr
     subst hr
     simp[nilRef] at hn
 . intro n hn
   have hu:(pack sh p).used=fun n=>memN n sh.names || resv n:=by show (packL _ _ _).used=_;rw[d3,c3]
   rw[hu]
   show (memN n sh.names || resv n)=true
   simp[resv,hn]
 . have hu:(pack sh p).used=fun n=>memN n sh.names || resv n:=by show (packL _ _ _).used=_;rw[d3,c3]
   have hkey:∀ c k,(pack sh p).heap c=some k->isH c=false:=by
    intro c k e
    rcases d2 c k e with ⟨d,k0,r,e1,_⟩ | ⟨e1,_⟩<;>exact hst _ _ e1
   have hpool:∀ c q t ls,(pack sh p).heap c=some (.pool q t ls)->q=c/\look ρ c=some (some c)/\st.heap c=some (.pool c t ls):=by
    intro c q t ls e
    rcases d2 c _ e with ⟨d,k0,r,e1,e2,_,_,e4⟩ | ⟨_,_,_,e1⟩
    . obtain⟨rfl,rfl,t',ls',e5⟩:=e4 rfl
      cases e5
      exact⟨rfl,e1,e2⟩
    . cases e1
   have hrow:∀ c k,prow (pack sh p).heap c=some k->prow st.heap c=some k/\renamed ρ ι c=ι c:=by
    intro c k e
    obtain⟨q,n,q',t,ls,l,hq,rfl,hb,hl,rfl⟩:=q0a e
    obtain⟨rfl,h1,h2⟩:=hpool _ _ _ _ hb
    exact⟨by rw[q08 hq,h2];simp only[rowB,hl],(hSame hst h1 n).2⟩
   refine⟨fun b hb=>?_,fun b hb=>by rw[hu];simp[resv,hb],fun b q t ls e=>(hpool _ _ _ _ e).1,fun b c k k' r r' hbc hb hc' hr hr' hn=>?_,fun q n hq hf=>?_⟩
   . cases e:(pack sh p).heap b with
     | none=>rfl
     | some k=>have:=hkey _ _ e;rw[hb] at this;cases this
   . obtain⟨b1,b2⟩:=hrow _ _ hb
     rw[b2] at hr
     rcases hc' with hc' | hc'
     . obtain⟨c1',c2'⟩:=hrow _ _ hc'
       rw[c2'] at hr'
       exact hs.pools.apart b c k k' r r' hbc b1 (.inl c1') hr hr' hn
     . rcases d2 c k' hc' with ⟨d,k0,s,e1,e2,e3,_⟩ | ⟨e1,t,ht,rfl⟩
       . simp only[renamed,e1] at hr'
         exact hs.pools.apart b d k k0 r r' (fun e=>by rw[e] at b1;exact (hs.row_static b1 e2).elim) b1 (.inr e2) hr hr' hn
       . simp only[renamed,e1,Option.some.injEq] at hr'
         subst hr'
         simp[nilRef] at hn
   . rw[hu] at hf
     simp only[Bool.or_eq_false_iff] at hf
     unfold renamed
     cases e:look ρ (hnm q n) with
     | some v=>have:=hst _ _ e;rw[isH_hn] at this;cases this
     | none=>
      simp only[isH_hn,q0Q hq,cond_true]
      cases e2:look ρ q with
      | none=>rfl
      | some v=>have:=keysIn_ok hkeys e2;rw[hf.1] at this;cases this
theorem unpack_R {sh:Shape} {p:Pay sh.ents} (h:unpack sh st=some p):∃ ρ,q0W sh st=some (p,ρ)/\q1O ρ=true:=by
 unfold unpack at h
 unfold q0W
 split at h<;>try (simp at h;done)
 rename_i ρ1 h1
 split at h<;>try (simp at h;done)
 rename_i q ρ h2
 obtain⟨hc,rfl⟩:=bif_some h
 simp only[Bool.and_eq_true] at hc
 exact⟨ρ,by simp only[hc.1.1.1,hc.1.1.2,hc.1.2,Bool.and_self,cond_true],hc.2⟩
theorem unpack_ok {sh:Shape} {p:Pay sh.ents} (h:unpack sh st=some p) (hok:Ok base w0 F0 N st a w):Ok base w0 F0 N (pack sh p) a w:=by
 obtain⟨hN,F,ι,hs⟩:=hok
 obtain⟨ρ,h,hpins⟩:=unpack_R h
 refine⟨hN,F,renamed ρ ι,(unpackR_sim h hs).1 base.pin fun n r r' hn hp hr=>?_⟩
 simp only[renamed] at hr
 cases e:look ρ n with
 | none=>
  rw[e] at hr
  cases eh:isH n<;>rw[eh] at hr<;>simp only[cond_true,cond_false,reduceCtorEq] at hr
  split at hr<;>try (simp at hr;done)
  rename_i c _
  cases eb:Nat.beq c (n % hbase)<;>rw[eb] at hr<;>simp only[cond_true,cond_false,reduceCtorEq] at hr
  exact hs.pin n r r' hn hp hr
 | some v=>
  have:=q5M hpins hn e
  subst this
  rw[e] at hr
  exact hs.pin n r r' hn hp hr
end
end Go.VM
namespace Go.VM
open Go Go.RowKit
inductive Pre where
 | frz (b:Nat)
 | opn (b p:Nat)
 | giv (d p:Nat)
 | frp (p:Nat)
 | cut (t d:Nat)
 | new (p:Nat) (t:Ty)
instance (n:Nat):OfNat Pre n:=⟨.frz n⟩
abbrev nilAll {α:Type} (l:Option (List (Option α))):Prop:=∀ y,y∈lst l->Option.isNone y=true
abbrev hdL {α:Type} (l:Option (List (Option α))):Option (List (Option Nat)):=l.map fun l=>l.map fun _=>none
abbrev gvH {α:Type} (l:Option α) (n:Nat):Option Nat:=l.map fun _=>n
abbrev gvL {α:Type} (ls:List (List α)) (l:Option (List α)):List (List α):=ls ++ l.toList
abbrev lenL {α:Type} (ls:List α):Nat:=ls.length
abbrev mapL {α β:Type} (f:α->β) (l:Option (List α)):Option (List β):=l.map fun l=>l.map f
def opnV (st:St) (b p:Nat):(t:Ty)->Option (List (den t))->Option (Prop×St)
 | .sl t,l=>bif !st.used p && Nat.blt p hbase && valT t && Nat.blt b hbase then some (nilAll l,⟨st.env,upd (upd st.heap b (some (.arr (.hd p) (hdL l)))) p (some (.pool p t [])),upd st.used p true⟩) else none
 | _,_=>none
def niV (st:St) (b p:Nat):(t:Ty)->Option (List (den t))->Option (Prop×St)
 | .agg (.pair (.sl t) v),l=>some (nilAll (mapL (fun y:Option (List (den t))×den v=>y.1) l),⟨st.env,upd st.heap b (some (.arr (.agg (.pair (.hd p) v)) (mapL (fun y:Option (List (den t))×den v=>((none:Option Nat),y.2)) l))),st.used⟩)
 | _,_=>none
def St.opn (st:St) (b p:Nat):Option (Prop×St):=
 match st.heap b with
 | some (.arr t l)=>bif st.used p then niV st b p t l else opnV st b p t l
 | _=>none
def gv (d p:Nat) (x:Option Nat):(t:Ty)->den t->V
 | .own c,_=>bif Nat.beq c d then ⟨.hd p,x⟩ else ⟨.own c,()⟩
 | .pair a b,y=>⟨.pair (gv d p x a y.1).t (gv d p x b y.2).t,((gv d p x a y.1).x,(gv d p x b y.2).x)⟩
 | .agg c,y=>⟨.agg (gv d p x c y).t,(gv d p x c y).x⟩
 | t,y=>⟨t,y⟩
def hasO (d:Nat):Ty->Bool
 | .own c=>Nat.beq c d
 | .pair a b=>hasO d a || hasO d b
 | .agg c=>hasO d c
 | _=>false
def gvT (d p:Nat):Ty->Ty
 | .own c=>bif Nat.beq c d then .hd p else .own c
 | .pair a b=>.pair (gvT d p a) (gvT d p b)
 | .agg c=>.agg (gvT d p c)
 | t=>t
def gvO (p c:Nat) (X:Option Nat):(b:Bool)->den (bif b then .hd p else .own c)
 | true=>X
 | false=>()
def gvX (d p:Nat) (X:Option Nat):(t:Ty)->den t->den (gvT d p t)
 | .own c,_=>gvO p c X (Nat.beq c d)
 | .pair a b,x=>(gvX d p X a x.1,gvX d p X b x.2)
 | .agg c,x=>gvX d p X c x
 | .int _,x=>x
 | .bool,x=>x
 | .str,x=>x
 | .cst _,x=>x
 | .sl _,x=>x
 | .unit,x=>x
 | .arr _ _,x=>x
 | .tup _,x=>x
 | .ref _ _,x=>x
 | .eref _ _,x=>x
 | .fref _,x=>x
 | .vw _,x=>x
 | .clo _ _,x=>x
 | .hd _,x=>x
 | .her _ _,x=>x
 | .bref _ _ _,x=>x
 | .nul,x=>x
def gvE (d p:Nat) (x:Option Nat):Option V->Option V
 | some v=>some (gv d p x v.t v.x)
 | none=>none
def gvB (d p:Nat) (x:Option Nat):Option Blk->Option Blk
 | some (.box t y)=>some (.box (gv d p x t y).t (gv d p x t y).x)
 | some (.arr t l)=>bif hasO d t then some (.arr (gvT d p t) (mapL (gvX d p x t) l)) else some (.arr t l)
 | k=>k
def St.giv (st:St) (d p:Nat):Option St:=
 match st.heap d with
 | some (.arr t l)=>match st.heap p with
  | some (.pool q u ls)=>match castT (.sl u) (.sl t) l with
   | some l'=>bif Nat.beq p q && !pinned p then some ⟨fun s=>gvE d p (gvH l' (lenL ls)) (st.env s),fun c=>bif Nat.beq c d then none else bif Nat.beq c p then some (.pool p u (gvL ls l')) else gvB d p (gvH l' (lenL ls)) (st.heap c),st.used⟩ else none
   | none=>none
  | _=>none
 | _=>none
def hasP (p:Nat):Ty->Bool
 | .hd q=>Nat.beq q p
 | .pair a b=>hasP p a || hasP p b
 | .agg c=>hasP p c
 | .sl t=>hasP p t
 | _=>false
def unT (p:Nat) (u:Ty):Ty->Ty
 | .hd q=>bif Nat.beq q p then .sl u else .hd q
 | .pair a b=>.pair (unT p u a) (unT p u b)
 | .agg c=>.agg (unT p u c)
 | .sl t=>bif hasP p t then .sl (unT p u t) else .sl t
 | t=>t
def unB (u:Ty) (q:Nat) (ls:List (List (den u))):(b:Bool)->Option Nat->den (bif b then .sl u else .hd q)
 | true,x=>unH ls x
 | false,x=>x
def unS {t s:Ty} (f:den t->den s):(b:Bool)->Option (List (den t))->den (bif b then .sl s else .sl t)
 | true,x=>mapL f x
 | false,x=>x
def unX (p:Nat) (u:Ty) (ls:List (List (den u))):(t:Ty)->den t->den (unT p u t)
 | .hd q,x=>unB u q ls (Nat.beq q p) x
 | .pair a b,x=>(unX p u ls a x.1,unX p u ls b x.2)
 | .agg c,x=>unX p u ls c x
 | .int _,x=>x
 | .bool,x=>x
 | .str,x=>x
 | .cst _,x=>x
 | .sl t,x=>unS (unX p u ls t) (hasP p t) x
 | .unit,x=>x
 | .arr _ _,x=>x
 | .tup _,x=>x
 | .ref _ _,x=>x
 | .own _,x=>x
 | .eref _ _,x=>x
 | .fref _,x=>x
 | .vw _,x=>x
 | .clo _ _,x=>x
 | .her _ _,x=>x
 | .bref _ _ _,x=>x
 | .nul,x=>x
def unE (p:Nat) (u:Ty) (ls:List (List (den u))):Option V->Option V
 | some v=>some ⟨unT p u v.t,unX p u ls v.t v.x⟩
 | none=>none
def unK (p:Nat) (u:Ty) (ls:List (List (den u))):Option Blk->Option Blk
 | some (.box t x)=>some (.box (unT p u t) (unX p u ls t x))
 | some (.arr t l)=>some (.arr (unT p u t) (mapL (unX p u ls t) l))
 | some (.pool q t l)=>some (.pool q (unT p u t) (l.map (List.map (unX p u ls t))))
 | none=>none
def St.frp (st:St) (p:Nat):Option St:=
 match st.heap p with
 | some (.pool q u ls)=>bif Nat.beq p q && frozen u then some ⟨fun s=>unE p u ls (st.env s),fun c=>bif Nat.beq c p then none else unK p u ls (st.heap c),st.used⟩ else none
 | _=>none
def St.cut (st:St) (t d:Nat):Option St:=
 match st.env t with
 | some ⟨.vw b,x⟩=>match st.heap b with
  | some (.arr u l)=>bif st.used d then none else some ⟨upd st.env t (some ⟨.own d,()⟩),upd (upd st.heap b none) d (some (.arr u (slcS l (x:Int×Int).1 (x:Int×Int).2))),upd st.used d true⟩
  | _=>none
 | some ⟨.own b,_⟩=>match st.heap b with
  | some (.arr u l)=>bif st.used d then none else some ⟨upd st.env t (some ⟨.own d,()⟩),upd (upd st.heap b none) d (some (.arr u l)),upd st.used d true⟩
  | _=>none
 | _=>none
def St.newp (st:St) (p:Nat) (t:Ty):Option St:=bif !st.used p && Nat.blt p hbase && valT t then some ⟨st.env,upd st.heap p (some (.pool p t [])),upd st.used p true⟩ else none
def preK:List Pre->(St->Prop)->St->Prop
 | [],K,st=>K st
 | .frz b :: l,K,st=>match st.freeze b with
  | some st=>preK l K st
  | none=>preK l K st
 | .opn b p :: l,K,st=>match st.opn b p with
  | some (c,st)=>c/\preK l K st
  | none=>False
 | .giv d p :: l,K,st=>match st.giv d p with
  | some st=>preK l K st
  | none=>False
 | .frp p :: l,K,st=>match st.frp p with
  | some st=>preK l K st
  | none=>False
 | .cut t d :: l,K,st=>match st.cut t d with
  | some st=>preK l K st
  | none=>False
 | .new p t :: l,K,st=>match st.newp p t with
  | some st=>preK l K st
  | none=>False
section
variable {P:Program} {base:Mine} {w0 w:World} {F0 F:Nat->Prop} {ι:Nat->Option Ref} {N:Nat} {st:St} {a:Act}
theorem below_isH {b:Nat} (h:Nat.blt b hbase=true):isH b=false:=by
 have h:=Nat.le_of_ble_eq_true h
 unfold isH
 cases e:Nat.ble hbase b with
 | false=>rfl
 | true=>have:=Nat.le_of_ble_eq_true e;omega
theorem Ok.niV (h:Ok base w0 F0 N st a w) {b p:Nat} {t:Ty} {l:Option (List (den t))} (hb:st.heap b=some (.arr t l)) {c:Prop} {st':St} (ho:niV st b p t l=some (c,st')) (hc:c):Ok base w0 F0 N st' a w:=by
 obtain⟨hN,F,ι,hs⟩:=h
 unfold Go.VM.niV at ho
 split at ho<;>try (simp at ho;done)
 rename_i t v l
 simp only[Option.some.injEq,Prod.mk.injEq] at ho
 obtain⟨rfl,rfl⟩:=ho
 have hheap:∀ c k,upd st.heap b (some (Blk.arr (.agg (.pair (.hd p) v)) (mapL (fun y:Option (List (den t))×den v=>((none:Option Nat),y.2)) l))) c=some k->(c=b/\k=.arr (.agg (.pair (.hd p) v)) (mapL (fun y:Option (List (den t))×den v=>((none:Option Nat),y.2)) l))∨(c≠b/\st.heap c=some k):=by
  intro c k e
  rcases upd_some e with ⟨h1,e⟩ | ⟨h1,e⟩
  . exact .inl ⟨h1,(Option.some.inj e).symm⟩
  . exact .inr ⟨h1,e⟩
 have hold:∀ c k,upd st.heap b (some (Blk.arr (.agg (.pair (.hd p) v)) (mapL (fun y:Option (List (den t))×den v=>((none:Option Nat),y.2)) l))) c=some k->∃ k0,st.heap c=some k0:=by
  intro c k e
  rcases hheap _ _ e with ⟨rfl,_⟩ | ⟨_,e⟩
  . exact⟨_,hb⟩
  . exact⟨_,e⟩
 refine⟨hN,F,ι,⟨hs.env,?_,hs.used,?_,hs.fsize,hs.fin,hs.below,hs.size,hs.upin,hs.pools.sub (fun c k e=>hold c k e) (fun c q u m e=>?_),hs.pin,hs.defers⟩⟩
 . intro c k hk
   rcases hheap _ _ hk with ⟨rfl,rfl⟩ | ⟨h1,e⟩
   . obtain⟨r,hr,q0,q⟩:=hs.heap _ _ hb
     refine⟨r,hr,rfl,?_⟩
     cases l with
     | none=>exact q
     | some l=>
      obtain⟨q1,q2,q3,q4,q5,q6,cells,el,qe,q7,q8,q9⟩:=q
      refine⟨q1,q2,by simpa using q3,q4,q5,q6,cells,el,(fun e=>by cases e),q7,q8,fun i y hy=>?_⟩
      simp only[List.getElem?_map,Option.map_eq_some_iff] at hy
      obtain⟨z,hz,rfl⟩:=hy
      have h9:=q9 i z hz
      have hzn:=hc z.1 (List.mem_map.2 ⟨z,List.mem_of_getElem? hz,rfl⟩)
      obtain⟨z1,z2⟩:=z
      cases z1 with
      | some z=>cases hzn
      | none=>exact h9
   . exact hs.heap _ _ e
 . intro c d k k' r r' hcd hc' hd hr hr' hn hn'
   obtain⟨k0,f1⟩:=hold _ _ hc'
   obtain⟨k1,f2⟩:=hold _ _ hd
   exact hs.apart c d k0 k1 r r' hcd f1 f2 hr hr' hn hn'
 . rcases hheap _ _ e with ⟨_,e⟩ | ⟨_,e⟩
   . cases e
   . exact⟨u,m,e,Nat.le_refl _⟩
theorem Ok.opn (h:Ok base w0 F0 N st a w) {b p:Nat} {c:Prop} {st':St} (ho:st.opn b p=some (c,st')) (hc:c):Ok base w0 F0 N st' a w:=by
 unfold St.opn at ho
 split at ho<;>try (simp at ho;done)
 rename_i t l hb
 cases hup:st.used p<;>rw[hup] at ho
 rotate_left
 . exact h.niV hb ho hc
 simp only[cond_false] at ho
 obtain⟨hN,F,ι,hs⟩:=h
 unfold opnV at ho
 split at ho<;>try (simp at ho;done)
 rename_i t l
 obtain⟨hq,ho⟩:=bif_some ho
 simp only[Prod.mk.injEq] at ho
 obtain⟨rfl,rfl⟩:=ho
 simp only[Bool.and_eq_true,Bool.not_eq_true'] at hq
 obtain⟨⟨⟨hu,hp⟩,hval⟩,hbs⟩:=hq
 obtain⟨hip,hhp,hH⟩:=hs.unused hu
 have hp':p<hbase:=Nat.le_of_ble_eq_true hp
 have hne:b≠p:=by rintro rfl;rw[hb] at hhp;cases hhp
 have hι:∀ c r,ι c=some r->upd ι p (some nilRef) c=some r:=by
  intro c r e
  by_cases hc:c=p
  . subst hc;rw[hip] at e;cases e
  . rw[upd_other _ _ _ _ hc];exact e
 have hHι:∀ c,isH c=true->upd ι p (some nilRef) c=ι c:=fun c hc=>upd_other _ _ _ _ fun e=>by rw[e,hH] at hc;cases hc
 have hheap:∀ c k,upd (upd st.heap b (some (.arr (.hd p) (hdL l)))) p (some (.pool p t [])) c=some k->(c=p/\k=.pool p t [])∨(c=b/\k=.arr (.hd p) (hdL l))∨(c≠p/\c≠b/\st.heap c=some k):=by
  intro c k e
  rcases upd_some e with ⟨rfl,e⟩ | ⟨h1,e⟩
  . exact .inl ⟨rfl,(Option.some.inj e).symm⟩
  . rcases upd_some e with ⟨h2,e2⟩ | ⟨h2,e2⟩
    . exact .inr (.inl ⟨h2,(Option.some.inj e2).symm⟩)
    . exact .inr (.inr ⟨h1,h2,e2⟩)
 have hrow:∀ c k,prow (upd (upd st.heap b (some (.arr (.hd p) (hdL l)))) p (some (.pool p t []))) c=some k->prow st.heap c=some k:=by
  intro c k e
  obtain⟨q,n,q',u,ls,m,hq,rfl,h1,h2,rfl⟩:=q0a e
  rcases hheap _ _ h1 with ⟨_,e⟩ | ⟨_,e⟩ | ⟨_,_,e⟩
  . cases e;simp at h2
  . cases e
  . rw[q08 hq,e];simp only[rowB,h2]
 have hold:∀ c k,upd (upd st.heap b (some (.arr (.hd p) (hdL l)))) p (some (.pool p t [])) c=some k->c≠p->∃ k0,st.heap c=some k0:=by
  intro c k e hc
  rcases hheap _ _ e with ⟨e,_⟩ | ⟨rfl,_⟩ | ⟨_,_,e⟩
  . exact absurd e hc
  . exact⟨_,hb⟩
  . exact⟨_,e⟩
 have hnil:∀ r,upd ι p (some nilRef) p=some r->r.nil=true:=by intro r e;rw[upd_same] at e;cases e;rfl
 refine⟨hN,F,upd ι p (some nilRef),⟨fun s v hv=>vrep_mono (fun _ h=>h) hι (fun _ _=>rfl) (hs.env s v hv),?_,?_,?_,hs.fsize,hs.fin,hs.below,hs.size,?_,?_,?_,hs.defers⟩⟩
 . intro c k hk
   rcases hheap _ _ hk with ⟨rfl,rfl⟩ | ⟨rfl,rfl⟩ | ⟨h1,h2,e⟩
   . exact⟨nilRef,upd_same _ _ _,rfl,hp',hval,fun n _=>(hHι _ (isH_hn _ _)).trans (hs.pools.free _ n hp' hu),fun n m hm=>by simp at hm⟩
   . obtain⟨r,hr,q0,q⟩:=hs.heap _ _ hb
     refine⟨r,hι _ _ hr,rfl,?_⟩
     cases l with
     | none=>exact q
     | some l=>
      obtain⟨q1,q2,q3,q4,q5,q6,cells,el,qe,q7,q8,q9⟩:=q
      refine⟨q1,q2,by simpa using q3,q4,q5,q6,cells,el,(fun e=>by cases e),q7,q8,fun i y hy=>?_⟩
      simp only[List.getElem?_map,Option.map_eq_some_iff] at hy
      obtain⟨z,hz,rfl⟩:=hy
      have h9:=q9 i z hz
      have hzn:=hc z (List.mem_of_getElem? hz)
      cases z with
      | some z=>cases hzn
      | none=>exact h9
   . obtain⟨r,hr,q⟩:=hs.heap _ _ e
     exact⟨r,hι _ _ hr,q1e hι (fun c hc hn=>(hHι c hc).trans hn) (fun _ _ _ _ _ _ _ _ _=>rfl) (fun _ _=>rfl) (fun _=>rfl) q⟩
 . intro c r hr
   rcases upd_some hr with ⟨rfl,_⟩ | ⟨h1,e⟩
   . exact upd_same _ _ _
   . show upd st.used p true c=true
     rw[upd_other _ _ _ _ h1];exact hs.used _ _ e
 . intro c d k k' r r' hcd hc' hd hr hr' hn hn'
   by_cases e1:c=p
   . subst e1;rw[hnil r hr] at hn;cases hn
   by_cases e2:d=p
   . subst e2;rw[hnil r' hr'] at hn';cases hn'
   obtain⟨k0,f1⟩:=hold _ _ hc' e1
   obtain⟨k1,f2⟩:=hold _ _ hd e2
   rw[upd_other _ _ _ _ e1] at hr
   rw[upd_other _ _ _ _ e2] at hr'
   exact hs.apart c d k0 k1 r r' hcd f1 f2 hr hr' hn hn'
 . intro n hn
   show upd st.used p true n=true
   by_cases e:n=p
   . subst e;exact upd_same _ _ _
   . rw[upd_other _ _ _ _ e];exact hs.upin n hn
 . refine⟨fun c hc'=>?_,fun c hc'=>?_,fun c q u ls e=>?_,fun c d k k' r r' hcd hc' hd hr hr' hn=>?_,fun q n hq hf=>?_⟩
   . show upd (upd st.heap b _) p _ c=none
     rw[upd_other _ _ _ _ (fun e=>by rw[e,hH] at hc';cases hc'),upd_other _ _ _ _ (fun e=>by rw[e,below_isH hbs] at hc';cases hc')]
     exact hs.pools.noH c hc'
   . show upd st.used p true c=true
     rw[upd_other _ _ _ _ (fun e=>by rw[e,hH] at hc';cases hc')];exact hs.pools.uH c hc'
   . rcases hheap _ _ e with ⟨rfl,e⟩ | ⟨_,e⟩ | ⟨_,_,e⟩
     . cases e;rfl
     . cases e
     . exact hs.pools.self _ _ _ _ e
   . have hcH:isH c=true:=by obtain⟨_,_,_,_,_,_,_,e,_⟩:=q0a hc';rw[e];exact isH_hn _ _
     rw[hHι c hcH] at hr
     rcases hd with hd | hd
     . have hdH:isH d=true:=by obtain⟨_,_,_,_,_,_,_,e,_⟩:=q0a hd;rw[e];exact isH_hn _ _
       rw[hHι d hdH] at hr'
       exact hs.pools.apart c d _ _ r r' hcd (hrow _ _ hc') (.inl (hrow _ _ hd)) hr hr' hn
     . by_cases e2:d=p
       . subst e2;rw[hnil r' hr'] at hn;cases hn
       rw[upd_other _ _ _ _ e2] at hr'
       obtain⟨k1,f2⟩:=hold _ _ hd e2
       exact hs.pools.apart c d _ _ r r' hcd (hrow _ _ hc') (.inr f2) hr hr' hn
   . have hqp:q≠p:=by rintro rfl;have:=upd_same st.used q true;rw[show upd st.used q true q=false from hf] at this;cases this
     rw[hHι _ (isH_hn _ _)]
     refine hs.pools.free q n hq ?_
     have hf:upd st.used p true q=false:=hf
     rw[upd_other _ _ _ _ hqp] at hf;exact hf
 . intro n r r' hn hp1 hr
   by_cases e:n=p
   . subst e
     have:=hs.upin n hn
     rw[hu] at this;cases this
   . rw[upd_other _ _ _ _ e] at hr
     exact hs.pin n r r' hn hp1 hr
theorem gv_hd (d p:Nat) (X:Option Nat) (t:Ty) (x:den t):hdT (gv d p X t x).t=hdT t:=by
 cases t with
 | own c=>simp only[gv];cases Nat.beq c d<;>rfl
 | _=>rfl
theorem gv_hd2 (d p:Nat) (X:Option Nat) (t:Ty) (x:den t):hd2 (gv d p X t x).t=hd2 t:=by
 cases t with
 | own c=>simp only[gv];cases Nat.beq c d<;>rfl
 | agg c=>cases c with
  | pair u v=>
   show (hdT (gv d p X u (x:den u×den v).1).t,hdT (gv d p X v (x:den u×den v).2).t)=(hdT u,hdT v)
   rw[gv_hd,gv_hd]
  | own c=>simp only[gv];cases Nat.beq c d<;>rfl
  | _=>rfl
 | _=>rfl
theorem gv_tags (d p:Nat) (X:Option Nat) (t:Ty) (x:den t):isAggT (gv d p X t x).t=isAggT t/\cellT (gv d p X t x).t=cellT t:=by
 cases t with
 | own c=>simp only[gv];cases Nat.beq c d<;>exact⟨rfl,rfl⟩
 | _=>exact⟨rfl,rfl⟩
theorem gv_rep {ι':Nat->Option Ref} {d p:Nat} {X:Option Nat} {r:Ref} (hι:∀ b r,ι b=some r->ι' b=some r) (hd:ι d=some r) (hown:rep w F ι' (.hd p) X [r.val]):
 ∀ (t:Ty) (x:den t) (cs:List Value),rep w F ι t x cs->rep w F ι' (gv d p X t x).t (gv d p X t x).x cs:=by
 have same:∀ (t:Ty) (x:den t) (cs:List Value),rep w F ι t x cs->rep w F ι' t x cs:=fun t x cs h=>rep_mono (fun _ h=>h) hι (fun _ _=>rfl) t x cs h
 intro t
 induction t with
 | own c=>
  intro x cs h
  cases e:Nat.beq c d
  . have e2:gv d p X (.own c) x=⟨.own c,()⟩:=by show (bif Nat.beq c d then _ else _)=_;rw[e];rfl
    rw[e2];exact same _ _ _ h
  . have e2:gv d p X (.own c) x=⟨.hd p,X⟩:=by show (bif Nat.beq c d then _ else _)=_;rw[e];rfl
    rw[Nat.beq_eq] at e;subst e
    rw[e2]
    simp only[rep] at h
    obtain⟨r',hr',rfl⟩:=h
    rw[hd] at hr';cases hr'
    exact hown
 | pair a c iha ihb=>
  intro x cs h
  simp only[rep] at h
  obtain⟨c1,c2,rfl,h1,h2⟩:=h
  simp only[gv,rep]
  exact⟨c1,c2,rfl,iha _ _ h1,ihb _ _ h2⟩
 | agg c ih=>
  intro x cs h
  simp only[rep] at h
  simp only[gv,rep]
  exact ih _ _ h
 | _=>intro x cs h;exact same _ _ _ h
theorem gvX_rep {ι':Nat->Option Ref} {d p:Nat} {X:Option Nat} {r:Ref} (hι:∀ b r,ι b=some r->ι' b=some r) (hd:ι d=some r) (hown:rep w F ι' (.hd p) X [r.val]):
 ∀ (t:Ty) (x:den t) (cs:List Value),rep w F ι t x cs->rep w F ι' (gvT d p t) (gvX d p X t x) cs:=by
 have same:∀ (t:Ty) (x:den t) (cs:List Value),rep w F ι t x cs->rep w F ι' t x cs:=fun t x cs h=>rep_mono (fun _ h=>h) hι (fun _ _=>rfl) t x cs h
 intro t
 induction t with
 | own c=>
  intro x cs h
  have key:∀ b:Bool,(b=true->c=d)->rep w F ι' (bif b then .hd p else .own c) (gvO p c X b) cs:=by
   intro b hb
   cases b with
   | false=>exact same _ _ _ h
   | true=>
    have:=hb rfl
    subst this
    simp only[rep] at h
    obtain⟨r',hr',rfl⟩:=h
    rw[hd] at hr';cases hr'
    exact hown
  exact key (Nat.beq c d) fun e=>Nat.eq_of_beq_eq_true e
 | pair a c iha ihb=>
  intro x cs h
  simp only[rep] at h
  obtain⟨c1,c2,rfl,h1,h2⟩:=h
  exact⟨c1,c2,rfl,iha _ _ h1,ihb _ _ h2⟩
 | agg c ih=>intro x cs h;exact ih _ _ h
 | _=>intro x cs h;exact same _ _ _ h
theorem gvT_tags (d p:Nat) (t:Ty):isAggT (gvT d p t)=isAggT t/\cellT (gvT d p t)=cellT t/\(gvT d p t=.int .u8->t=.int .u8):=by
 cases t with
 | own c=>simp only[gvT];cases Nat.beq c d<;>exact⟨rfl,rfl,fun e=>by cases e⟩
 | pair a b=>exact⟨rfl,rfl,fun e=>by cases e⟩
 | agg c=>exact⟨rfl,rfl,fun e=>by cases e⟩
 | _=>exact⟨rfl,rfl,id⟩
theorem gvT_width (d p:Nat) (t:Ty):width (gvT d p t)=width t:=by
 induction t with
 | own c=>simp only[gvT];cases Nat.beq c d<;>rfl
 | pair x y ih1 ih2=>show width (gvT d p x)+width (gvT d p y)=_;rw[ih1,ih2];rfl
 | agg c ih=>exact ih
 | _=>rfl
theorem gv_vrep {ι':Nat->Option Ref} {d p:Nat} {X:Option Nat} {r:Ref} (hι:∀ b r,ι b=some r->ι' b=some r) (hd:ι d=some r) (hown:rep w F ι' (.hd p) X [r.val]) {t:Ty} {x:den t} {v:Value} (h:vrep w F ι t x v):
 vrep w F ι' (gv d p X t x).t (gv d p X t x).x v:=by
 have same:vrep w F ι' t x v:=vrep_mono (fun _ h=>h) hι (fun _ _=>rfl) h
 have htag:=gv_tags d p X t x
 by_cases hv:valT t=true
 . rcases valT_or hv with h1 | h1
   . rw[vrep_agg (htag.1.trans h1)]
     rw[vrep_agg h1] at h
     obtain⟨cs,rfl,h⟩:=h
     exact⟨cs,rfl,gv_rep hι hd hown _ _ _ h⟩
   . rw[vrep_cell (htag.2.trans h1)]
     rw[vrep_cell h1] at h
     exact gv_rep hι hd hown _ _ _ h
 . cases t<;>first
    | exact same
    | exact absurd rfl hv
    | (simp[vrep,vrep1,isAggT,cellT] at h)
theorem prow_H {hp:Nat->Option Blk} {b:Nat} {k:Blk} (h:prow hp b=some k):isH b=true:=by
 obtain⟨_,_,_,_,_,_,_,e,_⟩:=q0a h
 rw[e];exact isH_hn _ _
theorem gvL_get {α:Type} {ls:List (List α)} {l:Option (List α)} {n:Nat} {m:List α} (h:(gvL ls l)[n]?=some m):ls[n]?=some m∨(n=ls.length/\l=some m):=by
 unfold gvL at h
 rcases Nat.lt_or_ge n ls.length with h1 | h1
 . rw[List.getElem?_append_left h1] at h;exact .inl h
 . rw[List.getElem?_append_right h1] at h
   cases l with
   | none=>simp at h
   | some l=>
    refine .inr ?_
    cases h2:n - ls.length with
    | zero=>rw[h2] at h;simp at h;exact⟨by omega,by rw[h]⟩
    | succ k=>rw[h2] at h;simp at h
theorem Ok.giv (h:Ok base w0 F0 N st a w) {d p:Nat} {st':St} (hg:st.giv d p=some st'):Ok base w0 F0 N st' a w:=by
 obtain⟨hN,F,ι,hs⟩:=h
 unfold St.giv at hg
 split at hg<;>try (simp at hg;done)
 rename_i t l hb
 split at hg<;>try (simp at hg;done)
 rename_i q u ls hp
 split at hg<;>try (simp at hg;done)
 rename_i l' hl
 obtain⟨hpq,e0⟩:=bif_some hg
 subst e0
 clear hg
 simp only[Bool.and_eq_true,Nat.beq_eq,Bool.not_eq_true'] at hpq
 obtain⟨hpq,hpin⟩:=hpq
 subst hpq
 obtain⟨e,hl⟩:=castT_some hl
 cases e
 have hl:l=l':=hl
 subst hl
 obtain⟨r,hr,hk⟩:=hs.heap _ _ hb
 obtain⟨r0,hr0,q1,q2,q3,q4,q5⟩:=hs.heap _ _ hp
 let ι':Nat->Option Ref:=match l with
  | none=>ι
  | some _=>upd ι (hnm p ls.length) (some r)
 have hst:∀ c,c≠hnm p ls.length->ι' c=ι c:=by
  intro c hc
  cases l with
  | none=>rfl
  | some m=>exact upd_other _ _ _ _ hc
 have hnew:∀ c r',ι' c=some r'->ι c=some r'∨(c=hnm p ls.length/\r'=r/\∃ m,l=some m):=by
  intro c r' e
  by_cases hc:c=hnm p ls.length
  . cases l with
    | none=>exact .inl e
    | some m=>
     refine .inr ⟨hc,?_,m,rfl⟩
     have e:upd ι (hnm p ls.length) (some r) c=some r':=e
     rw[hc,upd_same] at e
     exact (Option.some.inj e).symm
  . rw[hst c hc] at e;exact .inl e
 have hι:∀ c r,ι c=some r->ι' c=some r:=by
  intro c r e
  rw[hst c (fun hc=>by rw[hc,q4 _ (Nat.le_refl _)] at e;cases e)];exact e
 have hne:∀ c k,st.heap c=some k->c≠hnm p ls.length:=fun c k e hc=>by rw[hc,hs.pools.noH _ (isH_hn _ _)] at e;cases e
 have hdp:d≠p:=by rintro rfl;rw[hb] at hp;cases hp
 have hown:rep w F ι' (.hd p) (gvH l (lenL ls)) [r.val]:=by
  cases l with
  | none=>
   have hn:r.nil=true:=hk.2
   simp only[gvH,Option.map_none,rep,Ref.val,hn,if_true]
  | some m=>
   have hn:r.nil=false:=hk.2.1
   simp only[gvH,Option.map_some,rep]
   exact⟨r,upd_same _ _ _,hn,rfl⟩
 have hheap:∀ c k,(bif Nat.beq c d then none else bif Nat.beq c p then some (Blk.pool p t (gvL ls l)) else gvB d p (gvH l (lenL ls)) (st.heap c))=some k->
  (c=p/\k=.pool p t (gvL ls l))∨(c≠d/\c≠p/\∃ k0,st.heap c=some k0/\((∃ u x,k0=.box u x/\k=.box (gv d p (gvH l (lenL ls)) u x).t (gv d p (gvH l (lenL ls)) u x).x)∨(∃ u x,k0=.arr u x/\k=.arr (gvT d p u) (mapL (gvX d p (gvH l (lenL ls)) u) x))∨((∀ u x,k0≠.box u x)/\k=k0))):=by
  intro c k e
  cases e1:Nat.beq c d<;>rw[e1] at e<;>simp only[cond_true,cond_false,reduceCtorEq] at e
  have n1:c≠d:=fun h=>by rw[h,Nat.beq_refl] at e1;cases e1
  cases e2:Nat.beq c p<;>rw[e2] at e<;>simp only[cond_true,cond_false] at e
  . have n2:c≠p:=fun h=>by rw[h,Nat.beq_refl] at e2;cases e2
    refine .inr ⟨n1,n2,?_⟩
    cases h0:st.heap c with
    | none=>rw[h0] at e;cases e
    | some k0=>
     rw[h0] at e
     refine⟨k0,rfl,?_⟩
     cases k0 with
     | box u x=>exact .inl ⟨u,x,rfl,(Option.some.inj e).symm⟩
     | arr u x=>
      simp only[gvB] at e
      cases ho:hasO d u<;>rw[ho] at e
      . exact .inr (.inr ⟨fun _ _ h=>(by cases h),(Option.some.inj e).symm⟩)
      . exact .inr (.inl ⟨u,x,rfl,(Option.some.inj e).symm⟩)
     | pool q u x=>exact .inr (.inr ⟨fun _ _ h=>(by cases h),(Option.some.inj e).symm⟩)
  . rw[Nat.beq_eq] at e2
    exact .inl ⟨e2,(Option.some.inj e).symm⟩
 have hold:∀ c k,(bif Nat.beq c d then none else bif Nat.beq c p then some (Blk.pool p t (gvL ls l)) else gvB d p (gvH l (lenL ls)) (st.heap c))=some k->c≠d/\∃ k0,st.heap c=some k0:=by
  intro c k e
  rcases hheap c k e with ⟨rfl,_⟩ | ⟨h1,_,k0,h2,_⟩
  . exact⟨fun e=>hdp e.symm,_,hp⟩
  . exact⟨h1,_,h2⟩
 have hrow:∀ c k r',prow (fun c=>bif Nat.beq c d then none else bif Nat.beq c p then some (Blk.pool p t (gvL ls l)) else gvB d p (gvH l (lenL ls)) (st.heap c)) c=some k->ι' c=some r'->
  (∃ k0,prow st.heap c=some k0/\ι c=some r')∨(c=hnm p ls.length/\r'=r/\r.nil=false):=by
  intro c k r' e er
  obtain⟨x,n,q',u',ls',m,hx,rfl,h1,h2,rfl⟩:=q0a e
  rcases hheap _ _ h1 with ⟨rfl,e1⟩ | ⟨_,hxp,k0,e0,h3⟩
  . cases e1
    rcases gvL_get h2 with h3 | ⟨rfl,h3⟩
    . have hn:n<ls.length:=by
       rcases Nat.lt_or_ge n ls.length with h4 | h4
       . exact h4
       . rw[List.getElem?_eq_none h4] at h3;cases h3
      rw[hst _ (fun e=>by have:=(hnm_inj q2 q2 e).2;omega)] at er
      exact .inl ⟨_,by rw[q08 q2,hp];simp only[rowB,h3];rfl,er⟩
    . rcases hnew _ _ er with h4 | ⟨_,h4,_⟩
      . rw[q4 _ (Nat.le_refl _)] at h4;cases h4
      . subst h3
        exact .inr ⟨rfl,h4,hk.2.1⟩
  . rcases h3 with ⟨_,_,_,e1⟩ | ⟨_,_,_,e1⟩ | ⟨_,e1⟩
    . cases e1
    . cases e1
    . subst e1
      rw[hst _ (fun e=>hxp (hnm_inj hx q2 e).1)] at er
      exact .inl ⟨_,by rw[q08 hx,e0];simp only[rowB,h2];rfl,er⟩
 refine⟨hN,F,ι',⟨?_,?_,?_,?_,hs.fsize,hs.fin,hs.below,hs.size,hs.upin,?_,?_,hs.defers⟩⟩
 . intro s v hv
   simp only[gvE] at hv
   split at hv<;>try (simp at hv;done)
   rename_i v0 hv0
   simp only[Option.some.injEq] at hv;subst hv
   exact gv_vrep hι hr hown (hs.env _ _ hv0)
 . intro c k hc
   rcases hheap c k hc with ⟨rfl,rfl⟩ | ⟨h1,h2,k0,h3,h4⟩
   . refine⟨r0,hι _ _ hr0,q1,q2,q3,fun n hn=>?_,fun n m hm=>?_⟩
     . have hlen:ls.length<=n:=Nat.le_trans (by simp[gvL]) hn
       cases hx:ι' (hnm c n) with
       | none=>rfl
       | some r'=>
        rcases hnew _ _ hx with h5 | ⟨h5,_,m,h6⟩
        . rw[q4 n hlen] at h5;cases h5
        . have:=(hnm_inj q2 q2 h5).2
          subst h6
          simp[gvL] at hn
          omega
     . rcases gvL_get hm with h5 | ⟨rfl,h5⟩
       . obtain⟨s,hs',a1,a2,a3,a4,a5,a6,cells,el,ae,a7,a8,a9⟩:=q5 n m h5
         exact⟨s,hι _ _ hs',a1,a2,a3,a4,a5,a6,cells,el,ae,a7,a8,fun i y hy=>rep_mono (fun _ h=>h) hι (fun _ _=>rfl) _ _ _ (a9 i y hy)⟩
       . subst h5
         obtain⟨_,a1,a2,a3,a4,a5,a6,cells,el,ae,a7,a8,a9⟩:=hk
         exact⟨r,upd_same _ _ _,a1,a2,a3,a4,a5,a6,cells,el,ae,a7,a8,fun i y hy=>rep_mono (fun _ h=>h) hι (fun _ _=>rfl) _ _ _ (a9 i y hy)⟩
   . obtain⟨s,hs',hq⟩:=hs.heap _ _ h3
     refine⟨s,hι _ _ hs',?_⟩
     rcases h4 with ⟨u,x,rfl,rfl⟩ | ⟨u,x,rfl,rfl⟩ | ⟨_,rfl⟩
     . obtain⟨p1,p2,p3,p4,p5,cells,el,pb,p6,p7⟩:=hq
       have htag:=gv_tags d p (gvH l (lenL ls)) u x
       exact⟨p1,p2,p3,p4,by simp only[valT,htag.1,htag.2];exact p5,cells,el,fun h=>pb ((bld_hd (gv_hd2 _ _ _ u x)).symm.trans h),p6,gv_rep hι hr hown _ _ _ p7⟩
     . obtain⟨p0,hq⟩:=hq
       have htag:=gvT_tags d p u
       refine⟨by simp only[valT,htag.1,htag.2.1];exact p0,?_⟩
       cases x with
       | none=>exact hq
       | some x=>
        obtain⟨p1,p2,p3,p4,p5,p6,cells,el,pe,p7,p8,p9⟩:=hq
        refine⟨p1,p2.trans (gvT_width d p u).symm,by simpa using p3,p4,p5,p6,cells,el,fun e=>pe (htag.2.2 e),p7,p8,fun i y hy=>?_⟩
        simp only[List.getElem?_map,Option.map_eq_some_iff] at hy
        obtain⟨z,hz,rfl⟩:=hy
        rw[gvT_width]
        exact gvX_rep hι hr hown _ _ _ (p9 i z hz)
     . cases k with
       | pool q u ls2=>
        have e:=hs.pools.self _ _ _ _ h3
        subst e
        obtain⟨z1,z2,z3,z4,z5⟩:=hq
        refine⟨z1,z2,z3,fun n hn=>?_,fun n m hm=>?_⟩
        . rw[hst _ (fun e=>h2 (hnm_inj z2 q2 e).1)];exact z4 n hn
        . obtain⟨s,hs',a1,a2,a3,a4,a5,a6,cells,el,ae,a7,a8,a9⟩:=z5 n m hm
          exact⟨s,hι _ _ hs',a1,a2,a3,a4,a5,a6,cells,el,ae,a7,a8,fun i y hy=>rep_mono (fun _ h=>h) hι (fun _ _=>rfl) _ _ _ (a9 i y hy)⟩
       | box u x=>
        obtain⟨p1,p2,p3,p4,p5,cells,el,pb,p6,p7⟩:=hq
        exact⟨p1,p2,p3,p4,p5,cells,el,pb,p6,rep_mono (fun _ h=>h) hι (fun _ _=>rfl) _ _ _ p7⟩
       | arr u x=>
        obtain⟨p0,hq⟩:=hq
        refine⟨p0,?_⟩
        cases x with
        | none=>exact hq
        | some x=>
         obtain⟨p1,p2,p3,p4,p5,p6,cells,el,pe,p7,p8,p9⟩:=hq
         exact⟨p1,p2,p3,p4,p5,p6,cells,el,pe,p7,p8,fun i y hy=>rep_mono (fun _ h=>h) hι (fun _ _=>rfl) _ _ _ (p9 i y hy)⟩
 . intro c r' e
   rcases hnew _ _ e with h1 | ⟨rfl,_⟩
   . exact hs.used _ _ h1
   . exact hs.pools.uH _ (isH_hn _ _)
 . intro c e k k' r1 r2 hce hc he h1 h2 n1 n2
   obtain⟨_,k0,f1⟩:=hold c k hc
   obtain⟨_,k1,f2⟩:=hold e k' he
   rw[hst _ (hne _ _ f1)] at h1
   rw[hst _ (hne _ _ f2)] at h2
   exact hs.apart c e k0 k1 r1 r2 hce f1 f2 h1 h2 n1 n2
 . have hdrow:∀ c k0 r',prow st.heap c=some k0->ι c=some r'->r.nil=false->r'.blk≠r.blk:=fun c k0 r' e1 e2 hn=>
    hs.pools.apart c d _ _ r' r (fun e=>by rw[e] at e1;exact (hs.row_static e1 hb).elim) e1 (.inr hb) e2 hr hn
   refine⟨fun c hc=>?_,hs.pools.uH,fun c q' u' ls' e=>?_,fun c e k k' r1 r2 hce hc he h1 h2 n2=>?_,fun x n hx hu=>?_⟩
   . cases e:(bif Nat.beq c d then none else bif Nat.beq c p then some (Blk.pool p t (gvL ls l)) else gvB d p (gvH l (lenL ls)) (st.heap c)) with
     | none=>exact e
     | some k=>obtain⟨_,k0,f1⟩:=hold c k e;rw[hs.pools.noH c hc] at f1;cases f1
   . rcases hheap _ _ e with ⟨rfl,e1⟩ | ⟨_,_,k0,e0,h3⟩
     . cases e1;rfl
     . rcases h3 with ⟨_,_,_,e1⟩ | ⟨_,_,_,e1⟩ | ⟨_,e1⟩
       . cases e1
       . cases e1
       . subst e1;exact hs.pools.self _ _ _ _ e0
   . rcases he with he | he
     . rcases hrow _ _ _ hc h1 with ⟨k0,f1,g1⟩ | ⟨f1,g1,m1⟩<;>rcases hrow _ _ _ he h2 with ⟨k1,f2,g2⟩ | ⟨f2,g2,m2⟩
       . exact hs.pools.apart c e _ _ r1 r2 hce f1 (.inl f2) g1 g2 n2
       . rw[g2];exact hdrow _ _ _ f1 g1 m2
       . rw[g1];exact fun e=>hdrow _ _ _ f2 g2 m1 e.symm
       . exact absurd (f1.trans f2.symm) hce
     . obtain⟨hed,k1,f2⟩:=hold e k' he
       rw[hst _ (hne _ _ f2)] at h2
       rcases hrow _ _ _ hc h1 with ⟨k0,f1,g1⟩ | ⟨f1,g1,m1⟩
       . exact hs.pools.apart c e _ _ r1 r2 hce f1 (.inr f2) g1 h2 n2
       . rw[g1];exact hs.apart d e _ _ r r2 (fun e=>hed e.symm) hb f2 hr h2 m1 n2
   . have h0:=hs.pools.free x n hx hu
     cases hx2:ι' (hnm x n) with
     | none=>rfl
     | some r'=>
      rcases hnew _ _ hx2 with h5 | ⟨h5,_⟩
      . rw[h0] at h5;cases h5
      . have e:=(hnm_inj hx q2 h5).1
        subst e
        have:=hs.used _ _ hr0
        rw[show st.used x=false from hu] at this;cases this
 . intro n r1 r2 hn h1 h2
   rcases hnew _ _ h2 with h3 | ⟨rfl,_⟩
   . exact hs.pin n r1 r2 hn h1 h3
   . unfold pinned at hn hpin
     rw[q0Q q2] at hn
     rw[Nat.mod_eq_of_lt q2,hn] at hpin;cases hpin
theorem unT_hd (p:Nat) (u t:Ty):hdT (unT p u t)=hdT t:=by
 cases t with
 | sl t=>show hdT (bif hasP p t then _ else _)=_;cases hasP p t<;>rfl
 | hd q=>show hdT (bif Nat.beq q p then _ else _)=_;cases Nat.beq q p<;>rfl
 | _=>rfl
theorem unT_hd2 (p:Nat) (u t:Ty):hd2 (unT p u t)=hd2 t:=by
 cases t with
 | sl t=>show hd2 (bif hasP p t then _ else _)=_;cases hasP p t<;>rfl
 | hd q=>show hd2 (bif Nat.beq q p then _ else _)=_;cases Nat.beq q p<;>rfl
 | agg c=>cases c with
  | pair x y=>
   show (hdT (unT p u x),hdT (unT p u y))=(hdT x,hdT y)
   rw[unT_hd,unT_hd]
  | hd q=>show hd2 (.agg (bif Nat.beq q p then _ else _))=_;cases Nat.beq q p<;>rfl
  | sl t=>show hd2 (.agg (bif hasP p t then _ else _))=_;cases hasP p t<;>rfl
  | _=>rfl
 | _=>rfl
theorem q7X (p:Nat) (u t:Ty):isAggT (unT p u t)=isAggT t/\cellT (unT p u t)=cellT t:=by
 cases t with
 | hd q=>show isAggT (bif Nat.beq q p then _ else _)=_/\cellT (bif Nat.beq q p then _ else _)=_;cases Nat.beq q p<;>exact⟨rfl,rfl⟩
 | sl t=>show isAggT (bif hasP p t then _ else _)=_/\cellT (bif hasP p t then _ else _)=_;cases hasP p t<;>exact⟨rfl,rfl⟩
 | _=>exact⟨rfl,rfl⟩
theorem unT_width (p:Nat) (u t:Ty):width (unT p u t)=width t:=by
 induction t with
 | hd q=>show width (bif Nat.beq q p then _ else _)=_;cases Nat.beq q p<;>rfl
 | sl t _=>show width (bif hasP p t then _ else _)=_;cases hasP p t<;>rfl
 | pair x y ih1 ih2=>show width (unT p u x)+width (unT p u y)=_;rw[ih1,ih2];rfl
 | agg c ih=>exact ih
 | _=>rfl
theorem unT_val (p:Nat) (u t:Ty):valT (unT p u t)=valT t:=by
 have h:=q7X p u t
 simp only[valT,h.1,h.2]
theorem unT_u8 {p:Nat} {u t:Ty} (h:unT p u t=.int .u8):t=.int .u8:=by
 cases t with
 | hd q=>
  have h:(bif Nat.beq q p then Ty.sl u else Ty.hd q)=.int .u8:=h
  cases e:Nat.beq q p<;>rw[e] at h<;>cases h
 | sl t=>
  have h:(bif hasP p t then Ty.sl (unT p u t) else Ty.sl t)=.int .u8:=h
  cases e:hasP p t<;>rw[e] at h<;>cases h
 | pair x y=>cases h
 | agg c=>cases h
 | _=>exact h
theorem q3o {F':Nat->Prop} {p:Nat} {u:Ty} {ls:List (List (den u))} (hF:∀ k,F k->F' k) (hrow:∀ n r,ι (hnm p n)=some r->r.nil=false->rep w F' ι (.sl u) (unH ls (some n)) [r.val]):
 ∀ (t:Ty) (x:den t) (cs:List Value),rep w F ι t x cs->rep w F' ι (unT p u t) (unX p u ls t x) cs:=by
 have same:∀ (t:Ty) (x:den t) (cs:List Value),rep w F ι t x cs->rep w F' ι t x cs:=fun t x cs h=>rep_mono hF (fun _ _ h=>h) (fun _ _=>rfl) t x cs h
 intro t
 induction t with
 | hd q=>
  intro x cs h
  have key:∀ b:Bool,(b=true->q=p)->rep w F' ι (bif b then .sl u else .hd q) (unB u q ls b x) cs:=by
   intro b hb
   cases b with
   | false=>exact same _ _ _ h
   | true=>
    have:=hb rfl
    subst this
    cases x with
    | none=>exact h
    | some n=>
     simp only[rep] at h
     obtain⟨r,hr,hn,rfl⟩:=h
     exact hrow n r hr hn
  exact key (Nat.beq q p) fun e=>Nat.eq_of_beq_eq_true e
 | pair a c iha ihb=>
  intro x cs h
  simp only[rep] at h
  obtain⟨c1,c2,rfl,h1,h2⟩:=h
  exact⟨c1,c2,rfl,iha _ _ h1,ihb _ _ h2⟩
 | agg c ih=>intro x cs h;exact ih _ _ h
 | sl t ih=>
  intro x cs h
  have key:∀ b:Bool,rep w F' ι (bif b then .sl (unT p u t) else .sl t) (unS (unX p u ls t) b x) cs:=by
   intro b
   cases b with
   | false=>exact same _ _ _ h
   | true=>
    cases x with
    | none=>exact h
    | some l=>
     simp only[rep] at h
     obtain⟨a,cap,rfl,hl,hr⟩:=h
     show rep w F' ι (.sl (unT p u t)) (some (l.map (unX p u ls t))) _
     simp only[rep]
     refine⟨a,cap,by simp,by simpa using hl,fun hn=>?_⟩
     obtain⟨cells,el,fz,hs,hf',hb,hr⟩:=hr (by intro e;subst e;simp at hn)
     refine⟨cells,el,fz,hs,hF _ hf',hb,fun i y hy=>?_⟩
     simp only[List.getElem?_map,Option.map_eq_some_iff] at hy
     obtain⟨z,hz,rfl⟩:=hy
     rw[unT_width]
     exact ih _ _ (hr i z hz)
  exact key (hasP p t)
 | _=>intro x cs h;exact same _ _ _ h
theorem unX_vrep {F':Nat->Prop} {p:Nat} {u:Ty} {ls:List (List (den u))} (hF:∀ k,F k->F' k) (hrow:∀ n r,ι (hnm p n)=some r->r.nil=false->rep w F' ι (.sl u) (unH ls (some n)) [r.val]) {t:Ty} {x:den t} {v:Value} (h:vrep w F ι t x v):
 vrep w F' ι (unT p u t) (unX p u ls t x) v:=by
 have same:vrep w F' ι t x v:=vrep_mono hF (fun _ _ h=>h) (fun _ _=>rfl) h
 have htag:=q7X p u t
 by_cases hv:valT t=true
 . rcases valT_or hv with h1 | h1
   . rw[vrep_agg (htag.1.trans h1)]
     rw[vrep_agg h1] at h
     obtain⟨cs,rfl,h⟩:=h
     exact⟨cs,rfl,q3o hF hrow _ _ _ h⟩
   . rw[vrep_cell (htag.2.trans h1)]
     rw[vrep_cell h1] at h
     exact q3o hF hrow _ _ _ h
 . cases t<;>first
    | exact same
    | exact absurd rfl hv
    | (simp[vrep,vrep1,isAggT,cellT] at h)
theorem Ok.frp (h:Ok base w0 F0 N st a w) {p:Nat} {st':St} (hg:st.frp p=some st'):Ok base w0 F0 N st' a w:=by
 obtain⟨hN,F,ι,hs⟩:=h
 unfold St.frp at hg
 split at hg<;>try (simp at hg;done)
 rename_i q u ls hp
 obtain⟨hpq,e0⟩:=bif_some hg
 subst e0
 clear hg
 simp only[Bool.and_eq_true,Nat.beq_eq] at hpq
 obtain⟨rfl,hfz⟩:=hpq
 obtain⟨r0,hr0,q1,q2,q3,q4,q5⟩:=hs.heap _ _ hp
 let F':Nat->Prop:=fun k=>F k∨∃ n l r,ls[n]?=some l/\ι (hnm p n)=some r/\k=r.blk
 have hF:∀ k,F k->F' k:=fun k h=>.inl h
 have hpr:∀ n l,ls[n]?=some l->prow st.heap (hnm p n)=some (.arr u (some l)):=by
  intro n l e
  rw[q08 q2,hp];simp only[rowB,e]
 have hrow:∀ n r,ι (hnm p n)=some r->r.nil=false->rep w F' ι (.sl u) (unH ls (some n)) [r.val]:=by
  intro n r hr hn
  have hlt:n<ls.length:=by
   rcases Nat.lt_or_ge n ls.length with h1 | h1
   . exact h1
   . rw[q4 n h1] at hr;cases hr
  obtain⟨s,hs',a1,a2,a3,a4,a5,a6,cells,el,ae,a7,a8,a9⟩:=q5 n _ (List.getElem?_eq_getElem hlt)
  rw[hr] at hs';cases hs'
  have e:ls.getD n []=ls[n]:=by simp[List.getD,List.getElem?_eq_getElem hlt]
  simp only[unH,Option.map_some,e,rep,Ref.val,a1,if_false,Bool.false_eq_true,a3]
  exact⟨⟨r.blk,r.off,none⟩,r.cap,rfl,by omega,fun _=>⟨cells,el,(0,0),rfl,.inr ⟨n,_,r,List.getElem?_eq_getElem hlt,hr,rfl⟩,a7,fun i y hy=>rep_mono hF (fun _ _ h=>h) (fun _ _=>rfl) _ _ _ (a9 i y hy)⟩⟩
 have hheap:∀ c k,(bif Nat.beq c p then none else unK p u ls (st.heap c))=some k->c≠p/\∃ k0,st.heap c=some k0/\unK p u ls (some k0)=some k:=by
  intro c k e
  cases e1:Nat.beq c p<;>rw[e1] at e<;>simp only[cond_true,cond_false,reduceCtorEq] at e
  refine⟨(fun h=>by rw[h,Nat.beq_refl] at e1;cases e1),?_⟩
  cases h0:st.heap c with
  | none=>rw[h0] at e;cases e
  | some k0=>rw[h0] at e;exact⟨k0,rfl,e⟩
 have hstat:∀ c k r,c≠p->st.heap c=some k->ι c=some r->r.nil=false->¬ F r.blk->¬ F' r.blk:=by
  rintro c k r hc hk hr hn hnF (h1 | ⟨n,l,s,h1,h2,h3⟩)
  . exact hnF h1
  . exact hs.pools.apart (hnm p n) c _ _ s r (fun e=>by rw[<-e,hs.pools.noH _ (isH_hn _ _)] at hk;cases hk) (hpr n l h1) (.inr hk) h2 hr hn h3.symm
 refine⟨hN,F',ι,⟨?_,?_,hs.used,?_,?_,?_,hs.below,hs.size,hs.upin,?_,hs.pin,hs.defers⟩⟩
 . intro s v hv
   simp only[unE] at hv
   split at hv<;>try (simp at hv;done)
   rename_i v0 hv0
   simp only[Option.some.injEq] at hv;subst hv
   exact unX_vrep hF hrow (hs.env _ _ hv0)
 . intro c k hc
   obtain⟨hne,k0,h0,hk⟩:=hheap c k hc
   obtain⟨r,hr,hq⟩:=hs.heap _ _ h0
   refine⟨r,hr,?_⟩
   cases k0 with
   | box t x=>
    simp only[unK,Option.some.injEq] at hk;subst hk
    obtain⟨p1,p2,p3,p4,p5,cells,el,pb,p6,p7⟩:=hq
    exact⟨p1,p2,p3,hstat c _ r hne h0 hr p1 p4,(unT_val p u t).trans p5,cells,el,fun h=>pb ((bld_hd (unT_hd2 p u t)).symm.trans h),p6,q3o hF hrow _ _ _ p7⟩
   | arr t l=>
    simp only[unK,Option.some.injEq] at hk;subst hk
    obtain⟨p0,hq⟩:=hq
    refine⟨(unT_val p u t).trans p0,?_⟩
    cases l with
    | none=>exact hq
    | some l=>
     obtain⟨p1,p2,p3,p4,p5,p6,cells,el,pe,p7,p8,p9⟩:=hq
     refine⟨p1,p2.trans (unT_width p u t).symm,by simpa using p3,p4,p5,hstat c _ r hne h0 hr p1 p6,cells,el,fun e=>pe (unT_u8 e),p7,p8,fun i y hy=>?_⟩
     rw[unT_width]
     simp only[List.getElem?_map,Option.map_eq_some_iff] at hy
     obtain⟨z,hz,rfl⟩:=hy
     exact q3o hF hrow _ _ _ (p9 i z hz)
   | pool q t l=>
    simp only[unK,Option.some.injEq] at hk;subst hk
    have e:=hs.pools.self _ _ _ _ h0
    subst e
    obtain⟨z1,z2,z3,z4,z5⟩:=hq
    refine⟨z1,z2,(unT_val p u t).trans z3,fun n hn=>z4 n (by simpa using hn),fun n m hm=>?_⟩
    simp only[List.getElem?_map,Option.map_eq_some_iff] at hm
    obtain⟨m0,hm0,rfl⟩:=hm
    obtain⟨s,hs',a1,a2,a3,a4,a5,a6,cells,el,ae,a7,a8,a9⟩:=z5 n m0 hm0
    refine⟨s,hs',a1,a2.trans (unT_width p u t).symm,by simpa using a3,a4,a5,?_,cells,el,fun e=>ae (unT_u8 e),a7,a8,fun i y hy=>?_⟩
    . rintro (h1 | ⟨n',l',s',h1,h2,h3⟩)
      . exact a6 h1
      . exact hs.pools.apart (hnm p n') (hnm q n) _ _ s' s (fun e=>hne (hnm_inj q2 z2 e).1.symm) (hpr n' l' h1) (.inl (by rw[q08 z2,h0];simp only[rowB,hm0];rfl)) h2 hs' a1 h3.symm
    . rw[unT_width]
      simp only[List.getElem?_map,Option.map_eq_some_iff] at hy
      obtain⟨z,hz,rfl⟩:=hy
      exact q3o hF hrow _ _ _ (a9 i z hz)
 . intro c d k k' r r' hcd hc hd
   obtain⟨_,k0,f1,_⟩:=hheap c k hc
   obtain⟨_,k1,f2,_⟩:=hheap d k' hd
   exact hs.apart c d k0 k1 r r' hcd f1 f2
 . rintro k (h | ⟨n,l,r,h1,h2,rfl⟩)
   . exact hs.fsize _ h
   . exact hs.row_lt (hpr n l h1) h2
 . rintro k (h | ⟨n,l,r,h1,h2,rfl⟩)
   . exact hs.fin _ h
   . obtain⟨s,hs',_,_,_,_,a5,_⟩:=q5 n l h1
     rw[h2] at hs';cases hs'
     exact .inr a5
 . refine hs.pools.sub (fun c k e=>?_) fun c q t l e=>?_
   . obtain⟨_,k0,f1,_⟩:=hheap c k e
     exact⟨k0,f1⟩
   . obtain⟨_,k0,f1,f2⟩:=hheap _ _ e
     cases k0 with
     | box t x=>cases f2
     | arr t x=>cases f2
     | pool q' t' l'=>cases f2;exact⟨t',l',f1,by simp⟩
theorem q6y {α:Type} {b:Bool} {x y:α} (h:(bif b then none else some x)=some y):b=false/\x=y:=by
 cases b<;>simp_all
theorem Sim.rebase (hN:a.tmps.size=N) (hs:Sim base w0 F0 F ι st a w) {t d b:Nat} {u:Ty} {l l':Option (List (den u))} {r r':Ref} (hb:st.heap b=some (.arr u l)) (hr:ι b=some r) (hu:st.used d=false) (hv:a.tmps.getD t undef=r'.val)
 (hbr:brep w base F (upd ι d (some r')) r (.arr u l)->brep w base F (upd ι d (some r')) r' (.arr u l')) (hn:r'.nil=false->r.nil=false/\r'.blk=r.blk):
 Ok base w0 F0 N ⟨upd st.env t (some ⟨.own d,()⟩),upd (upd st.heap b none) d (some (.arr u l')),upd st.used d true⟩ a w:=by
 obtain⟨hip,hhp,hH⟩:=hs.unused hu
 have hbd:b≠d:=by rintro rfl;rw[hb] at hhp;cases hhp
 have hι:∀ c q,ι c=some q->upd ι d (some r') c=some q:=by
  intro c q e
  rw[upd_other _ _ _ _ (fun e'=>by rw[e',hip] at e;cases e)];exact e
 have hHι:∀ c,isH c=true->upd ι d (some r') c=ι c:=fun c hc=>upd_other _ _ _ _ fun e=>by rw[e,hH] at hc;cases hc
 have hheap:∀ c k,upd (upd st.heap b none) d (some (.arr u l')) c=some k->(c=d/\k=.arr u l')∨(c≠d/\c≠b/\st.heap c=some k):=by
  intro c k e
  rcases upd_some e with ⟨h1,e1⟩ | ⟨h1,e1⟩
  . exact .inl ⟨h1,(Option.some.inj e1).symm⟩
  . rcases upd_some e1 with ⟨_,e2⟩ | ⟨h2,e2⟩
    . cases e2
    . exact .inr ⟨h1,h2,e2⟩
 have hrow:∀ c k,prow (upd (upd st.heap b none) d (some (.arr u l'))) c=some k->prow st.heap c=some k:=by
  intro c k e
  obtain⟨q,n,q',u',ls,m,hq,rfl,h1,h2,rfl⟩:=q0a e
  rcases hheap _ _ h1 with ⟨_,e⟩ | ⟨_,_,e⟩
  . cases e
  . rw[q08 hq,e];simp only[rowB,h2]
 refine⟨hN,F,upd ι d (some r'),⟨?_,?_,?_,?_,hs.fsize,hs.fin,hs.below,hs.size,?_,?_,?_,hs.defers⟩⟩
 . intro s v hv'
   rcases upd_some hv' with ⟨rfl,e⟩ | ⟨_,e⟩
   . cases e
     refine⟨rfl,?_⟩
     simp only[rep,List.cons.injEq,and_true]
     exact⟨r',upd_same _ _ _,hv⟩
   . exact vrep_mono (fun _ h=>h) hι (fun _ _=>rfl) (hs.env s v e)
 . intro c k hk
   rcases hheap _ _ hk with ⟨rfl,rfl⟩ | ⟨h1',h2',e⟩
   . refine⟨r',upd_same _ _ _,hbr ?_⟩
     obtain⟨r0,hr0,q⟩:=hs.heap _ _ hb
     rw[hr] at hr0;cases hr0
     exact q1e hι (fun c hc hn=>(hHι c hc).trans hn) (fun _ _ _ _ _ _ _ _ _=>rfl) (fun _ _=>rfl) (fun _=>rfl) q
   . obtain⟨q0,hr0,q⟩:=hs.heap _ _ e
     exact⟨q0,hι _ _ hr0,q1e hι (fun c hc hn=>(hHι c hc).trans hn) (fun _ _ _ _ _ _ _ _ _=>rfl) (fun _ _=>rfl) (fun _=>rfl) q⟩
 . intro c q hq
   rcases upd_some hq with ⟨rfl,_⟩ | ⟨h1',e⟩
   . exact upd_same _ _ _
   . show upd st.used d true c=true
     rw[upd_other _ _ _ _ h1'];exact hs.used _ _ e
 . have key:∀ c k q q',c≠d->c≠b->st.heap c=some k->upd ι d (some r') c=some q->upd ι d (some r') d=some q'->q.nil=false->q'.nil=false->q.blk≠q'.blk:=by
    intro c k q q' e1 e2 e hq hq' hn1 hn2
    rw[upd_same] at hq';cases hq'
    rw[upd_other _ _ _ _ e1] at hq
    obtain⟨g1,g2⟩:=hn hn2
    rw[g2]
    exact hs.apart c b _ _ q r e2 e hb hq hr hn1 g1
   intro c e k k' q q' hce hc he hq hq' hn1 hn2
   rcases hheap _ _ hc with ⟨g1,_⟩ | ⟨c1,c2,g2⟩<;>rcases hheap _ _ he with ⟨g3,_⟩ | ⟨c3,c4,g4⟩
   . exact absurd (g1.trans g3.symm) hce
   . subst g1;exact fun e'=>key _ _ _ _ c3 c4 g4 hq' hq hn2 hn1 e'.symm
   . subst g3;exact key _ _ _ _ c1 c2 g2 hq hq' hn1 hn2
   . rw[upd_other _ _ _ _ c1] at hq
     rw[upd_other _ _ _ _ c3] at hq'
     exact hs.apart c e k k' q q' hce g2 g4 hq hq' hn1 hn2
 . intro n hn'
   show upd st.used d true n=true
   by_cases e:n=d
   . subst e;exact upd_same _ _ _
   . rw[upd_other _ _ _ _ e];exact hs.upin n hn'
 . refine⟨fun c hc'=>?_,fun c hc'=>?_,fun c q u' ls e=>?_,fun c e k k' q q' hcd hc' hd hq hq' hn1=>?_,fun q n hq hf=>?_⟩
   . show upd (upd st.heap b none) d _ c=none
     rw[upd_other _ _ _ _ (fun e=>by rw[e,hH] at hc';cases hc')]
     by_cases e:c=b
     . subst e;exact upd_same _ _ _
     . rw[upd_other _ _ _ _ e];exact hs.pools.noH c hc'
   . show upd st.used d true c=true
     rw[upd_other _ _ _ _ (fun e=>by rw[e,hH] at hc';cases hc')];exact hs.pools.uH c hc'
   . rcases hheap _ _ e with ⟨_,e⟩ | ⟨_,_,e⟩
     . cases e
     . exact hs.pools.self _ _ _ _ e
   . have hcH:isH c=true:=by obtain⟨_,_,_,_,_,_,_,e,_⟩:=q0a hc';rw[e];exact isH_hn _ _
     rw[hHι c hcH] at hq
     rcases hd with hd | hd
     . have hdH:isH e=true:=by obtain⟨_,_,_,_,_,_,_,e,_⟩:=q0a hd;rw[e];exact isH_hn _ _
       rw[hHι e hdH] at hq'
       exact hs.pools.apart c e _ _ q q' hcd (hrow _ _ hc') (.inl (hrow _ _ hd)) hq hq' hn1
     . rcases hheap _ _ hd with ⟨rfl,_⟩ | ⟨c3,_,hd⟩
       . rw[upd_same] at hq';cases hq'
         have hcb:c≠b:=by rintro rfl;exact (hs.row_static (hrow _ _ hc') hb).elim
         obtain⟨g1,g2⟩:=hn hn1
         rw[g2]
         exact hs.pools.apart c b _ _ q r hcb (hrow _ _ hc') (.inr hb) hq hr g1
       . rw[upd_other _ _ _ _ c3] at hq'
         exact hs.pools.apart c e _ _ q q' hcd (hrow _ _ hc') (.inr hd) hq hq' hn1
   . have hqp:q≠d:=by rintro rfl;have:=upd_same st.used q true;rw[show upd st.used q true q=false from hf] at this;cases this
     rw[hHι _ (isH_hn _ _)]
     refine hs.pools.free q n hq ?_
     have hf:upd st.used d true q=false:=hf
     rw[upd_other _ _ _ _ hqp] at hf;exact hf
 . intro n q q' hn' hp1 hq
   by_cases e:n=d
   . subst e
     have:=hs.upin n hn'
     rw[hu] at this;cases this
   . rw[upd_other _ _ _ _ e] at hq
     exact hs.pin n q q' hn' hp1 hq
theorem Ok.cut (h:Ok base w0 F0 N st a w) {t d:Nat} {st':St} (hg:st.cut t d=some st'):Ok base w0 F0 N st' a w:=by
 obtain⟨hN,F,ι,hs⟩:=h
 unfold St.cut at hg
 split at hg<;>try (simp at hg;done)
 . rename_i b x hx
   split at hg<;>try (simp at hg;done)
   rename_i u l hb
   obtain⟨hu,e0⟩:=q6y hg
   subst e0
   clear hg
   obtain⟨lo,hi⟩:Int×Int:=x
   have hv:=hs.env _ _ hx
   simp only[vrep,vrep1,isAggT,rep,List.cons.injEq,and_true] at hv
   obtain⟨_,r,hr,hn,h0,h1,h2,hv⟩:=hv
   let r':Ref:=⟨r.blk,if r.cap=lo.toNat then r.off else r.off+lo.toNat*r.wd,r.wd,false,hi.toNat - lo.toNat,r.cap - lo.toNat⟩
   have hrv:r'.val=r.view lo hi:=by simp only[Ref.val,Ref.view,r',if_false,Bool.false_eq_true]
   refine hs.rebase hN (r':=r') hb hr hu (hv.trans hrv.symm) (fun hk=>?_) fun _=>⟨hn,rfl⟩
   obtain⟨p0,q⟩:=hk
   cases l with
   | none=>rw[show r.nil=true from q] at hn;cases hn
   | some l=>
    obtain⟨_,q2,q3,q4,q5,q6,cells,el,qe,q7,q8,q9⟩:=q
    refine⟨p0,rfl,q2,?_,?_,q5,q6,cells,el,qe,q7,?_,fun i y hy=>?_⟩
    . show hi.toNat - lo.toNat=((l.take hi.toNat).drop lo.toNat).length
      simp only[List.length_drop,List.length_take];omega
    . show hi.toNat - lo.toNat<=r.cap - lo.toNat
      omega
    . show (if r.cap=lo.toNat then r.off else r.off+lo.toNat*r.wd)+(r.cap - lo.toNat)*r.wd<=cells.size
      split
      . rename_i e;rw[e,Nat.sub_self,Nat.zero_mul];have:=Nat.zero_le (r.cap*r.wd);omega
      . have e:lo.toNat*r.wd+(r.cap - lo.toNat)*r.wd=r.cap*r.wd:=by rw[<-Nat.add_mul];congr 1;omega
        omega
    . have hy:((l.take hi.toNat).drop lo.toNat)[i]?=some y:=hy
      rw[List.getElem?_drop,List.getElem?_take] at hy
      split at hy<;>try (cases hy;done)
      rename_i hlt
      have hne:¬ r.cap=lo.toNat:=by omega
      show rep w F _ u y (seg cells.toList ((if r.cap=lo.toNat then r.off else r.off+lo.toNat*r.wd)+i*width u) (width u))
      rw[if_neg hne]
      have h9:=q9 _ y hy
      have e:r.off+lo.toNat*r.wd+i*width u=r.off+(lo.toNat+i)*width u:=by rw[q2,Nat.add_mul];omega
      rw[e]
      exact h9
 . rename_i b x hx
   split at hg<;>try (simp at hg;done)
   rename_i u l hb
   obtain⟨hu,e0⟩:=q6y hg
   subst e0
   clear hg
   have hv:=hs.env _ _ hx
   simp only[vrep,vrep1,isAggT,rep,List.cons.injEq,and_true] at hv
   obtain⟨_,r,hr,hv⟩:=hv
   exact hs.rebase hN (r':=r) hb hr hu hv (fun hk=>hk) fun h=>⟨h,rfl⟩
theorem Ok.newp (h:Ok base w0 F0 N st a w) {p:Nat} {t:Ty} {st':St} (ho:st.newp p t=some st'):Ok base w0 F0 N st' a w:=by
 obtain⟨hN,F,ι,hs⟩:=h
 unfold St.newp at ho
 obtain⟨hq,rfl⟩:=bif_some ho
 simp only[Bool.and_eq_true,Bool.not_eq_true'] at hq
 obtain⟨⟨hu,hp⟩,hval⟩:=hq
 obtain⟨hip,hhp,hH⟩:=hs.unused hu
 have hp':p<hbase:=Nat.le_of_ble_eq_true hp
 have hι:∀ c r,ι c=some r->upd ι p (some nilRef) c=some r:=fun c r e=>by
  rw[upd_other _ _ _ _ (fun e'=>by rw[e',hip] at e;cases e)];exact e
 have hHι:∀ c,isH c=true->upd ι p (some nilRef) c=ι c:=fun c hc=>upd_other _ _ _ _ fun e=>by rw[e,hH] at hc;cases hc
 have hnil:∀ r,upd ι p (some nilRef) p=some r->r.nil=true:=by intro r e;rw[upd_same] at e;cases e;rfl
 have hrow:∀ c k,prow (upd st.heap p (some (.pool p t []))) c=some k->prow st.heap c=some k:=by
  intro c k e
  obtain⟨q,n,q',u,ls,m,hq,rfl,h1,h2,rfl⟩:=q0a e
  rcases upd_some h1 with ⟨_,e⟩ | ⟨_,e⟩
  . cases e;simp at h2
  . rw[q08 hq,e];simp only[rowB,h2]
 refine⟨hN,F,upd ι p (some nilRef),⟨fun s v hv=>vrep_mono (fun _ h=>h) hι (fun _ _=>rfl) (hs.env s v hv),?_,?_,?_,hs.fsize,hs.fin,hs.below,hs.size,?_,?_,?_,hs.defers⟩⟩
 . intro c k hk
   rcases upd_some hk with ⟨rfl,e⟩ | ⟨_,e⟩
   . cases e
     exact⟨nilRef,upd_same _ _ _,rfl,hp',hval,fun n _=>(hHι _ (isH_hn _ _)).trans (hs.pools.free _ n hp' hu),fun n m hm=>by simp at hm⟩
   . obtain⟨r,hr,q⟩:=hs.heap _ _ e
     exact⟨r,hι _ _ hr,q1e hι (fun c hc hn=>(hHι c hc).trans hn) (fun _ _ _ _ _ _ _ _ _=>rfl) (fun _ _=>rfl) (fun _=>rfl) q⟩
 . intro c r hr
   show upd st.used p true c=true
   rcases upd_some hr with ⟨rfl,_⟩ | ⟨h1,e⟩
   . exact upd_same _ _ _
   . rw[upd_other _ _ _ _ h1];exact hs.used _ _ e
 . intro c d k k' r r' hcd hc' hd hr hr' hn hn'
   rcases upd_some hc' with ⟨rfl,_⟩ | ⟨h1,e1⟩
   . rw[hnil r hr] at hn;cases hn
   rcases upd_some hd with ⟨rfl,_⟩ | ⟨h2,e2⟩
   . rw[hnil r' hr'] at hn';cases hn'
   rw[upd_other _ _ _ _ h1] at hr
   rw[upd_other _ _ _ _ h2] at hr'
   exact hs.apart c d k k' r r' hcd e1 e2 hr hr' hn hn'
 . intro n hn
   show upd st.used p true n=true
   by_cases e:n=p
   . subst e;exact upd_same _ _ _
   . rw[upd_other _ _ _ _ e];exact hs.upin n hn
 . refine⟨fun c hc'=>?_,fun c hc'=>?_,fun c q u ls e=>?_,fun c d k k' r r' hcd hc' hd hr hr' hn=>?_,fun q n hq hf=>?_⟩
   . show upd st.heap p _ c=none
     rw[upd_other _ _ _ _ (fun e=>by rw[e,hH] at hc';cases hc')]
     exact hs.pools.noH c hc'
   . show upd st.used p true c=true
     rw[upd_other _ _ _ _ (fun e=>by rw[e,hH] at hc';cases hc')];exact hs.pools.uH c hc'
   . rcases upd_some e with ⟨rfl,e⟩ | ⟨_,e⟩
     . cases e;rfl
     . exact hs.pools.self _ _ _ _ e
   . rw[hHι c (prow_H hc')] at hr
     rcases hd with hd | hd
     . rw[hHι d (prow_H hd)] at hr'
       exact hs.pools.apart c d _ _ r r' hcd (hrow _ _ hc') (.inl (hrow _ _ hd)) hr hr' hn
     . rcases upd_some hd with ⟨rfl,_⟩ | ⟨h2,e2⟩
       . rw[hnil r' hr'] at hn;cases hn
       rw[upd_other _ _ _ _ h2] at hr'
       exact hs.pools.apart c d _ _ r r' hcd (hrow _ _ hc') (.inr e2) hr hr' hn
   . have hqp:q≠p:=by rintro rfl;have:=upd_same st.used q true;rw[show upd st.used q true q=false from hf] at this;cases this
     rw[hHι _ (isH_hn _ _)]
     refine hs.pools.free q n hq ?_
     have hf:upd st.used p true q=false:=hf
     rw[upd_other _ _ _ _ hqp] at hf;exact hf
 . intro n r r' hn hp1 hr
   by_cases e:n=p
   . subst e
     have:=hs.upin n hn
     rw[hu] at this;cases this
   . rw[upd_other _ _ _ _ e] at hr
     exact hs.pin n r r' hn hp1 hr
theorem q0p {K:St->Prop}:∀ (l:List Pre) (st:St),preK l K st->Ok base w0 F0 N st a w->∃ st',Ok base w0 F0 N st' a w/\K st'
 | [],st,h,hok=>⟨st,hok,h⟩
 | .frz b :: l,st,h,hok=>by
  simp only[preK] at h
  split at h
  . rename_i s hs
    exact q0p l _ h (hok.freeze hs)
  . exact q0p l _ h hok
 | .opn b p :: l,st,h,hok=>by
  simp only[preK] at h
  split at h<;>try exact h.elim
  rename_i c s hs
  exact q0p l _ h.2 (hok.opn hs h.1)
 | .giv d p :: l,st,h,hok=>by
  simp only[preK] at h
  split at h<;>try exact h.elim
  rename_i s hs
  exact q0p l _ h (hok.giv hs)
 | .frp p :: l,st,h,hok=>by
  simp only[preK] at h
  split at h<;>try exact h.elim
  rename_i s hs
  exact q0p l _ h (hok.frp hs)
 | .cut t d :: l,st,h,hok=>by
  simp only[preK] at h
  split at h<;>try exact h.elim
  rename_i s hs
  exact q0p l _ h (hok.cut hs)
 | .new p t :: l,st,h,hok=>by
  simp only[preK] at h
  split at h<;>try exact h.elim
  rename_i s hs
  exact q0p l _ h (hok.newp hs)
end
end Go.VM
namespace Go.VM
open Go Go.RowKit
structure Lend where
 inn:Shape
 out:Shape
 k:Nat
def resVal (k:Nat) (tmps:Array Value):Value:=if k=1 then tmps.getD 0 undef else .tuple ((List.range k).map fun i=>tmps.getD i undef).toArray
structure lendV (P:Program) (f:FuncId) (n:Nat) (L:Lend) (p:Pay L.inn.ents) (Q:Pay L.out.ents->Prop):Prop where
 call:∀ args w,(callFunc f args).run P w=.ok (.enter f args) w
 ex:∃ q,Q q
 run:∀ (base:Mine) (w:World) (F:Nat->Prop) (ι:Nat->Option Ref) (a:Act),base.n=w.heap.size->base.u8=u8of P->a.tmps.size=n->Sim base w F F ι (pack L.inn p) a w->(∀ w':World,Keep base w w'->Gl P w')->
  Calls P f a.tmps w fun e w'=>∃ q F' ι' a',e=.returned (resVal L.k a'.tmps)/\Q q/\Sim base w F F' ι' (pack L.out q) a' w'
theorem lendV.mono {P:Program} {f:FuncId} {n:Nat} {L:Lend} {p:Pay L.inn.ents} {Q Q':Pay L.out.ents->Prop} (h:lendV P f n L p Q) (hq:∀ q,Q q->Q' q):lendV P f n L p Q':=
 ⟨h.call,let ⟨q,hr⟩:=h.ex;⟨q,hq q hr⟩,fun base w F ι a h1 h2 h3 h4 h5=>(h.run base w F ι a h1 h2 h3 h4 h5).mono fun _ _ ⟨q,F',ι',a',e1,e2,e3⟩=>⟨q,F',ι',a',e1,hq q e2,e3⟩⟩
def rn (g:Nat->Nat):(t:Ty)->den t->V
 | .own c,_=>⟨.own (g c),()⟩
 | .ref c o,_=>⟨.ref (g c) o,()⟩
 | .pair x y,p=>⟨.pair (rn g x p.1).t (rn g y p.2).t,((rn g x p.1).x,(rn g y p.2).x)⟩
 | .agg c,p=>⟨.agg (rn g c p).t,(rn g c p).x⟩
 | .int k,x=>⟨.int k,x⟩
 | .bool,x=>⟨.bool,x⟩
 | .str,x=>⟨.str,x⟩
 | .cst c,x=>⟨.cst c,x⟩
 | .sl t,x=>⟨.sl t,x⟩
 | .unit,x=>⟨.unit,x⟩
 | .arr n t,x=>⟨.arr n t,x⟩
 | .tup c,x=>⟨.tup c,x⟩
 | .eref c o,x=>⟨.eref c o,x⟩
 | .fref t,x=>⟨.fref t,x⟩
 | .vw c,x=>⟨.vw c,x⟩
 | .clo f c,x=>⟨.clo f c,x⟩
 | .hd p,x=>⟨.hd p,x⟩
 | .her p o,x=>⟨.her p o,x⟩
 | .bref b w n,x=>⟨.bref b w n,x⟩
 | .nul,x=>⟨.nul,x⟩
def hdIn (ps:List Nat):Ty->Bool
 | .pair a b=>hdIn ps a && hdIn ps b
 | .agg c=>hdIn ps c
 | .hd p=>memN p ps
 | .sl t=>hdIn ps t
 | t=>frozen t
theorem q76 {ps:List Nat} {w:World} {F:Nat->Prop} {ι ι':Nat->Option Ref} (hP:∀ p n r,memN p ps=true->ι (hnm p n)=some r->ι' (hnm p n)=some r):∀ (t:Ty) (x:den t) (cs:List Value),hdIn ps t=true->rep w F ι t x cs->rep w F ι' t x cs:=by
 intro t
 induction t with
 | pair a b iha ihb=>
  intro x cs hf h
  simp only[hdIn,Bool.and_eq_true] at hf
  simp only[rep] at h ⊢
  obtain⟨c1,c2,rfl,h1,h2⟩:=h
  exact⟨c1,c2,rfl,iha _ _ hf.1 h1,ihb _ _ hf.2 h2⟩
 | agg c ih=>intro x cs hf h;simp only[rep] at h ⊢;exact ih _ _ hf h
 | hd p=>
  intro x cs hf h
  cases x with
  | none=>simpa only[rep] using h
  | some n=>
   simp only[rep] at h ⊢
   obtain⟨r,hr,e⟩:=h
   exact⟨r,hP p n r hf hr,e⟩
 | sl t ih=>
  intro x cs hf h
  cases x with
  | none=>simpa only[rep] using h
  | some l=>
   simp only[rep] at h ⊢
   obtain⟨a,cap,rfl,hl,hr⟩:=h
   refine⟨a,cap,rfl,hl,fun hn=>?_⟩
   obtain⟨cells,el,fz,hs,hf',hb,hr⟩:=hr hn
   exact⟨cells,el,fz,hs,hf',hb,fun i y hy=>ih y _ hf (hr i y hy)⟩
 | _=>intro x cs hf h;exact rep_frozen _ _ _ hf h
def rnOk (ps:List Nat):Ty->Bool
 | .own _ | .ref _ _=>true
 | .pair x y=>rnOk ps x && rnOk ps y
 | .agg c=>rnOk ps c
 | t=>hdIn ps t
theorem rn_hd (g:Nat->Nat) (t:Ty) (x:den t):hdT (rn g t x).t=hdT t:=by cases t<;>rfl
theorem rn_hd2 (g:Nat->Nat) (t:Ty) (x:den t):hd2 (rn g t x).t=hd2 t:=by
 cases t with
 | agg c=>cases c with
  | pair u v=>
   show (hdT (rn g u (x:den u×den v).1).t,hdT (rn g v (x:den u×den v).2).t)=(hdT u,hdT v)
   rw[rn_hd,rn_hd]
  | _=>rfl
 | _=>rfl
theorem q5T (g:Nat->Nat) (t:Ty) (x:den t):isAggT (rn g t x).t=isAggT t/\cellT (rn g t x).t=cellT t:=by
 cases t<;>exact⟨rfl,rfl⟩
theorem rn_rep {ps:List Nat} {w:World} {F:Nat->Prop} {ι ι':Nat->Option Ref} {g:Nat->Nat} (hP:∀ p n r,memN p ps=true->ι (hnm p n)=some r->ι' (hnm p n)=some r):∀ (t:Ty) (x:den t) (cs:List Value),(∀ b,b∈ids t->∀ r,ι b=some r->ι' (g b)=some r)->rnOk ps t=true->rep w F ι t x cs->rep w F ι' (rn g t x).t (rn g t x).x cs
 | .own c,x,cs,hι,_,h=>by simp only[rep,rn] at h ⊢;obtain⟨r,hr,e⟩:=h;exact⟨r,hι _ (by simp[ids]) _ hr,e⟩
 | .ref c o,x,cs,hι,_,h=>by simp only[rep,rn] at h ⊢;obtain⟨r,hr,e⟩:=h;exact⟨r,hι _ (by simp[ids]) _ hr,e⟩
 | .pair a b,x,cs,hι,ho,h=>by
  simp only[rnOk,Bool.and_eq_true] at ho
  simp only[rep,rn] at h ⊢
  obtain⟨c1,c2,e,h1,h2⟩:=h
  exact⟨c1,c2,e,rn_rep hP a _ _ (fun n hn=>hι n (by simp[ids,hn])) ho.1 h1,rn_rep hP b _ _ (fun n hn=>hι n (by simp[ids,hn])) ho.2 h2⟩
 | .agg c,x,cs,hι,ho,h=>by simp only[rnOk] at ho;simp only[rep,rn] at h ⊢;exact rn_rep hP c _ _ hι ho h
 | .int k,x,cs,_,ho,h | .bool,x,cs,_,ho,h | .str,x,cs,_,ho,h | .cst c,x,cs,_,ho,h | .sl t,x,cs,_,ho,h | .unit,x,cs,_,ho,h | .arr n t,x,cs,_,ho,h | .tup c,x,cs,_,ho,h
 | .eref c o,x,cs,_,ho,h | .fref t,x,cs,_,ho,h | .vw c,x,cs,_,ho,h | .clo f c,x,cs,_,ho,h | .hd p,x,cs,_,ho,h | .her p o,x,cs,_,ho,h | .bref p o q',x,cs,_,ho,h | .nul,x,cs,_,ho,h=>q76 (ι':=ι') hP _ _ _ ho h
theorem rn_vrep {ps:List Nat} {w:World} {F:Nat->Prop} {ι ι':Nat->Option Ref} {g:Nat->Nat} {t:Ty} {x:den t} {v:Value} (hP:∀ p n r,memN p ps=true->ι (hnm p n)=some r->ι' (hnm p n)=some r) (hι:∀ b,b∈ids t->∀ r,ι b=some r->ι' (g b)=some r) (ho:rnOk ps t=true) (hv:valT t=true) (h:vrep w F ι t x v):vrep w F ι' (rn g t x).t (rn g t x).x v:=by
 have htag:=q5T g t x
 rcases valT_or hv with ha | hc
 . rw[vrep_agg ha] at h
   obtain⟨cs,rfl,h⟩:=h
   exact (vrep_agg (by rw[htag.1];exact ha)).2 ⟨cs,rfl,rn_rep hP _ _ _ hι ho h⟩
 . rw[vrep_cell hc] at h
   exact (vrep_cell (by rw[htag.2];exact hc)).2 (rn_rep hP _ _ _ hι ho h)
def backName (d:Nat) (ρ:Ren) (n:Nat):Nat:=
 bif pinned n then match look ρ n with
  | some (some b)=>b
  | _=>n
 else (d+1)*100000+n
def killR:Ren->St->St
 | [],st=>st
 | (_,some b) :: l,st=>killR l (st.kill b)
 | (_,none) :: l,st=>killR l st
theorem killR_ok:∀ (ρ:Ren) (st:St) {c:Nat} {k:Blk},(killR ρ st).heap c=some k->st.heap c=some k/\∀ n,(n,some c)∉ρ
 | [],st,c,k,h=>⟨h,by simp⟩
 | (m,some b) :: l,st,c,k,h=>by
  obtain⟨h1,h2⟩:=killR_ok l (st.kill b) h
  rcases upd_some h1 with ⟨_,h1⟩ | ⟨hne,h1⟩
  . simp at h1
  refine⟨h1,fun n hn=>?_⟩
  rcases List.mem_cons.1 hn with e | hn
  . simp only[Prod.mk.injEq,Option.some.injEq] at e;exact hne e.2
  . exact h2 n hn
 | (m,none) :: l,st,c,k,h=>by
  obtain⟨h1,h2⟩:=killR_ok l st h
  refine⟨h1,fun n hn=>?_⟩
  rcases List.mem_cons.1 hn with e | hn
  . simp at e
  . exact h2 n hn
theorem look_mem:∀ {ρ:Ren} {n:Nat} {v:Option Nat},look ρ n=some v->(n,v)∈ρ
 | [],n,v,h=>by simp[look] at h
 | (k,u) :: l,n,v,h=>by
  simp only[look] at h
  cases e:Nat.beq n k<;>rw[e] at h
  . exact List.mem_cons_of_mem _ (look_mem h)
  . simp only[cond_true,Option.some.injEq] at h
    have:n=k:=Nat.eq_of_beq_eq_true e
    subst this;subst h;exact List.mem_cons_self
def rnB (g:Nat->Nat):Blk->Blk
 | .box t x=>.box (rn g t x).t (rn g t x).x
 | k=>k
def backE (g:Nat->Nat) (ps:List Nat):(e:Ent)->denE e->(Nat->Option Blk)->Option (Nat->Option Blk)
 | .var _ _,_,hp=>some hp
 | .box n t,x,hp=>bif rnOk ps t then some (upd hp (g n) (some (.box (rn g t x).t (rn g t x).x))) else none
 | .arr n t,x,hp=>bif hdIn ps t then some (upd hp (g n) (some (.arr t x))) else none
 | .pool n t,x,hp=>bif frozen t && memN n ps then some (upd hp n (some (.pool n t x))) else none
def backL (g:Nat->Nat) (ps:List Nat):(l:List Ent)->Pay l->(Nat->Option Blk)->Option (Nat->Option Blk)
 | [],_,hp=>some hp
 | [e],x,hp=>backE g ps e x hp
 | e :: e' :: l,p,hp=>match backE g ps e p.1 hp with
  | some hp=>backL g ps (e' :: l) p.2 hp
  | none=>none
def boxesE:List Ent->List Nat
 | []=>[]
 | .box n _ :: l=>n :: boxesE l
 | .arr n _ :: l=>n :: boxesE l
 | _ :: l=>boxesE l
def poolsE:List Ent->List Nat
 | []=>[]
 | .pool n _ :: l=>n :: poolsE l
 | _ :: l=>poolsE l
def isSS:Option (Option Nat)->Bool
 | some (some _)=>true
 | _=>false
def q3c (d:Nat) (st:St) (ρ:Ren) (inn:List Ent):List Nat->Bool
 | []=>true
 | n :: l=>(bif pinned n then memN n (boxesE inn) && isSS (look ρ n) else !st.used ((d+1)*100000+n)) && q3c d st ρ inn l
theorem q7c {n:Nat}:∀ {l:List Nat},memN n l=true↔n∈l
 | []=>by simp[memN]
 | m :: l=>by simp only[memN,Bool.or_eq_true,Nat.beq_eq,List.mem_cons,q7c]
theorem q7g {d:Nat} {st:St} {ρ:Ren} {inn:List Ent}:∀ {l:List Nat},q3c d st ρ inn l=true->∀ n,n∈l->(pinned n=true->memN n (boxesE inn)=true/\∃ b,look ρ n=some (some b))/\(pinned n=false->st.used ((d+1)*100000+n)=false)
 | [],_,n,hn=>by simp at hn
 | m :: l,h,n,hn=>by
  simp only[q3c,Bool.and_eq_true] at h
  rcases List.mem_cons.1 hn with rfl | hn
  . refine⟨fun hp=>?_,fun hp=>?_⟩
    . have:=h.1;rw[hp] at this
      simp only[cond_true,Bool.and_eq_true] at this
      refine⟨this.1,?_⟩
      cases e:look ρ n with
      | none=>rw[e] at this;simp[isSS] at this
      | some v=>
       cases v with
       | none=>rw[e] at this;simp[isSS] at this
       | some b=>exact⟨b,rfl⟩
    . have:=h.1;rw[hp] at this;simpa using this
  . exact q7g h.2 n hn
def isBack (d:Nat) (names:List Nat) (c:Nat):Bool:=Nat.ble ((d+1)*100000) c && !pinned (c - (d+1)*100000) && memN (c - (d+1)*100000) names
def res1 (g:Nat->Nat) (ps:List Nat) (so:St) (i:Nat):Option V:=
 match so.env i with
 | some v=>bif rnOk ps v.t && valT v.t then some (rn g v.t v.x) else none
 | none=>none
def resTs (g:Nat->Nat) (ps:List Nat) (so:St):Nat->Nat->Option V
 | _,0=>some ⟨.unit,()⟩
 | i,n+1=>match res1 g ps so i with
  | some v=>match resTs g ps so (i+1) n with
   | some u=>some ⟨.pair v.t u.t,(v.x,u.x)⟩
   | none=>none
  | none=>none
def resOut (g:Nat->Nat) (ps:List Nat) (so:St) (k:Nat):Option V:=
 bif Nat.beq k 1 then res1 g ps so 0 else match resTs g ps so 0 k with
  | some v=>some ⟨.tup v.t,v.x⟩
  | none=>none
def argSt (st:St) (args:List Operand):St:=⟨fun i=>match args[i]? with
 | some x=>st.val x
 | none=>none,st.heap,st.used⟩
def q2F (ps:List Nat):List Nat->Bool
 | []=>true
 | n :: l=>!memN n ps && q2F ps l
theorem apartN_mem {ps:List Nat}:∀ {l:List Nat},q2F ps l=true->∀ n,n∈l->memN n ps=false
 | [],_,n,h=>by simp at h
 | m :: l,h,n,hn=>by
  simp only[q2F,Bool.and_eq_true,Bool.not_eq_true'] at h
  rcases List.mem_cons.1 hn with rfl | hn
  . exact h.1
  . exact apartN_mem h.2 n hn
def poolFresh (d:Nat) (st:St) (names:List Nat):List Nat->Bool
 | []=>true
 | p :: l=>!st.used p && Nat.blt p hbase && !isBack d names p && poolFresh d st names l
theorem q7u {d:Nat} {st:St} {names:List Nat}:∀ {l:List Nat},poolFresh d st names l=true->∀ p,memN p l=true->st.used p=false/\p<hbase/\isBack d names p=false
 | [],_,p,h=>by cases h
 | m :: l,h,p,hp=>by
  simp only[poolFresh,Bool.and_eq_true,Bool.not_eq_true'] at h
  simp only[memN,Bool.or_eq_true,Nat.beq_eq] at hp
  rcases hp with rfl | hp
  . exact⟨h.1.1.1,Nat.le_of_ble_eq_true h.1.1.2,h.1.2⟩
  . exact q7u h.2 p hp
def q3C (d:Nat) (ρ:Ren) (st:St) (L:Lend) (q:Pay L.out.ents):Option St:=
 bif q3c d st ρ L.inn.ents L.out.names && (poolFresh d st L.out.names (poolsE L.out.ents) && q2F (poolsE L.out.ents) (boxesE L.out.ents)) then match backL (backName d ρ) (poolsE L.out.ents) L.out.ents q (killR ρ st).heap with
  | some hp=>match resOut (backName d ρ) (poolsE L.out.ents) (pack L.out q) L.k with
   | some v=>some (St.put ⟨st.env,hp,fun c=>st.used c || isBack d L.out.names c || memN c (poolsE L.out.ents)⟩ d (some v))
   | none=>none
  | none=>none
 else none
def q0R:List Ent->Bool
 | []=>true
 | .pool _ _ :: _=>false
 | _ :: l=>q0R l
def rowOf (st:St):List Operand->Option (Nat×Option Nat)
 | x :: _=>match st.val x with
  | some ⟨.hd p,n⟩=>some (p,n)
  | _=>none
 | []=>none
abbrev rowD:Nat:=999999999
def rowSt (st:St) (args:List Operand) (t:Ty) (l:Option (List (den t))):St:=
 ⟨fun i=>bif Nat.beq i 0 then some ⟨.own rowD,()⟩ else (argSt st args).env i,fun c=>bif Nat.beq c rowD then some (.arr t l) else none,upd st.used rowD true⟩
def isD (ρ:Ren):Bool:=match look ρ 1000000000 with
 | some (some c)=>Nat.beq c rowD
 | _=>false
def rowW (P:Program) (f:FuncId) (args:Array Operand) (d:Nat) (K:St->Prop) (st:St) (p:Nat) (x:Option Nat):Lend->Prop
 | ⟨inn,⟨cs,[.arr b u]⟩,k⟩=>match st.heap p with
  | some (.pool q t ls)=>bif Nat.beq b 1000000000 && Nat.beq k 0 && frozen t && !st.used rowD && q0R inn.ents then
   match q0W inn (rowSt st args.toList t (unH ls x)) with
   | some (pay,ρ)=>bif isD ρ then lendV P f args.size ⟨inn,⟨cs,[.arr b u]⟩,k⟩ pay fun y=>match castT (.sl t) (.sl u) y with
    | some y=>brV (Option.isNone x) (K (St.put st d (some ⟨.tup .unit,()⟩))) (K (St.put ⟨st.env,upd st.heap p (some (.pool q t (ls.set (x.getD 0) (lst y)))),st.used⟩ d (some ⟨.tup .unit,()⟩)))
    | none=>False
    else False
   | none=>False
   else False
  | _=>False
 | _=>False
def flatR:Ty->Bool
 | .int _ | .bool | .unit | .own _ | .hd _=>true
 | .pair a b=>flatR a && flatR b
 | .agg c=>flatR c
 | _=>false
def flatE:List Ent->Bool
 | []=>true
 | .var _ t :: l=>flatR t && flatE l
 | .box _ t :: l=>flatR t && flatE l
 | .arr _ t :: l=>flatR t && flatE l
 | .pool _ t :: l=>flatR t && flatE l
def flatC:List (Nat×Ty)->Bool
 | []=>true
 | (_,t) :: l=>flatR t && flatC l
def flatS (s:Shape):Bool:=flatC s.csts && flatE s.ents
def varsE:List Ent->Bool
 | []=>true
 | .var _ _ :: l=>varsE l
 | _=>false
def q3E (st:St) (L:Lend):List Operand->Option St
 | x :: _=>match st.val x with
  | some ⟨.own b,_⟩=>match st.heap b with
   | some (.arr (.hd p) _)=>bif varsE L.inn.ents then match st.frp p with
    | some st1=>st1.freeze b
    | none=>none
    else none
   | _=>none
  | some ⟨.hd p,_⟩=>bif varsE L.inn.ents then st.frp p else none
  | _=>none
 | []=>none
def lendW (P:Program) (N:Nat) (L:Lend) (o:Oper) (K:St->Prop) (st:St):Prop:=
 match o.guard with
 | some _=>False
 | none=>match o.dst with
  | none=>False
  | some d=>bif Nat.blt d N then match o.op with
   | .call ⟨.value f,args,_⟩=>match st.val f with
    | some ⟨.cst (.fn f),_⟩=>match q3E st L args.toList with
     | some st1=>match q0W L.inn (argSt st1 args.toList) with
      | some (p,[])=>bif flatS L.out then lendV P f args.size L p fun q=>match q3C d [] st L q with
       | some st'=>K st'
       | none=>False
       else False
      | _=>False
     | none=>match rowOf st args.toList with
      | some r=>rowW P f args d K st r.1 r.2 L
      | none=>match q0W L.inn (argSt st args.toList) with
       | some (p,ρ)=>lendV P f args.size L p fun q=>match q3C d ρ st L q with
        | some st'=>K st'
        | none=>False
       | none=>False
    | _=>False
   | _=>False
   else False
end Go.VM
namespace Go.VM
open Go Go.RowKit
theorem q5k {hp hp':Nat->Option Blk}:∀ (t u:Ty) (x:den u),(∀ b,b∈ids u->hp b=hp' b)->coe hp t u x=coe hp' t u x:=by
 intro t
 induction t with
 | pair a b iha ihb=>
  intro u x h
  rw[q1G,q1G]
  cases u with
  | pair a' b'=>
   simp only[coeP]
   rw[iha a' x.1 (fun b hb=>h b (by simp[ids,hb])),ihb b' x.2 (fun b hb=>h b (by simp[ids,hb]))]
  | _=>rfl
 | agg c ih=>
  intro u x h
  rw[q1j,q1j]
  cases u with
  | agg c'=>exact ih c' x (fun b hb=>h b (by simpa[ids] using hb))
  | _=>rfl
 | tup c ih=>
  intro u x h
  rw[q1k,q1k]
  cases u with
  | tup c'=>exact ih c' x (fun b hb=>h b (by simpa[ids] using hb))
  | _=>rfl
 | sl t _=>
  intro u x h
  rw[q13,q13]
  cases u with
  | own b=>
   show coeB t (hp b)=coeB t (hp' b)
   rw[h b (by simp[ids])]
  | vw b=>
   show coeW t (hp b) _ _=coeW t (hp' b) _ _
   rw[h b (by simp[ids])]
  | hd b=>
   show coeH t b (hp b) _=coeH t b (hp' b) _
   rw[h b (by simp[ids])]
  | _=>rfl
 | _=>intro u x h;rfl
section
variable {P:Program} {g g':Operand->Option V} {hp hp':Nat->Option Blk}
def Agree (g:Operand->Option V) (hp hp':Nat->Option Blk) (xs:List Operand):Prop:=∀ x,x∈xs->∀ v,g x=some v->∀ b,b∈ids v.t->hp b=hp' b
theorem q5t:∀ (l:List (Nat×Operand)),(∀ x,x∈l.map (·.2)->g x=g' x)->gather g l=gather g' l
 | [],_=>rfl
 | (i,x) :: l,h=>by
  simp only[gather]
  rw[h x (by simp),q5t l (fun x hx=>h x (by simp at hx ⊢;exact .inr hx))]
theorem qaZ {t:TypeId} {v:V} {l h:Option V} (hv:∀ b,b∈ids v.t->hp b=hp' b):q1v P hp t v l h=q1v P hp' t v l h:=by
 obtain⟨u,x⟩:=v
 unfold q1v
 cases P.underlying t with
 | none=>rfl
 | some d=>
  cases d with
  | slice e=>
   simp only
   cases tinf P e with
   | none=>rfl
   | some p=>
    obtain⟨_,n⟩:=p
    cases u with
    | own b=>simp only;rw[hv _ (by simp[ids])]
    | _=>rfl
  | _=>rfl
theorem q7m {x:Option Operand} (h:∀ y,y∈x.toArray.toList->g y=g' y):optV g x=optV g' x:=by
 cases x with
 | none=>rfl
 | some x=>simp only[optV];rw[h x (by simp)]
theorem qaE {ag:Bool} {n:Nat} {v:V} (h:∀ b,b∈ids v.t->hp b=hp' b):loadV hp ag n v=loadV hp' ag n v:=by
 obtain⟨t,x⟩:=v
 cases t<;>first | rfl | (simp only[loadV];rw[h _ (by simp[ids])])
theorem qay {t:TypeId} {v:V} (h:∀ b,b∈ids v.t->hp b=hp' b):lenV P hp t v=lenV P hp' t v:=by
 obtain⟨u,x⟩:=v
 unfold lenV
 cases P.underlying t with
 | none=>rfl
 | some d=>
  cases d with
  | slice e=>
   cases u with
   | own b=>simp only;rw[h _ (by simp[ids])]
   | hd p=>simp only;rw[h _ (by simp[ids])]
   | cst c=>cases c<;>rfl
   | _=>rfl
  | _=>rfl
theorem qai {v:V} (h:∀ b,b∈ids v.t->hp b=hp' b):dataV hp v=dataV hp' v:=by
 obtain⟨u,x⟩:=v
 unfold dataV
 cases u with
 | own b=>simp only;rw[h _ (by simp[ids])]
 | _=>rfl
theorem q7i {v:V} (h:∀ b,b∈ids v.t->hp b=hp' b):nilV hp v=nilV hp' v:=by
 obtain⟨u,x⟩:=v
 cases u with
 | own b=>simp only[nilV];rw[h _ (by simp[ids])]
 | cst c=>cases c<;>rfl
 | _=>rfl
theorem q6S {t:TypeId} {v1 v2:V} (h1:∀ b,b∈ids v1.t->hp b=hp' b) (h2:∀ b,b∈ids v2.t->hp b=hp' b):eqW P hp t v1 v2=eqW P hp' t v1 v2:=by
 unfold eqW
 rw[q7i h1,q7i h2]
theorem qa6 {op:BinOp} {t:TypeId} {v1 v2:V} (h1:∀ b,b∈ids v1.t->hp b=hp' b) (h2:∀ b,b∈ids v2.t->hp b=hp' b):binV P hp op t v1 v2=binV P hp' op t v1 v2:=by
 unfold binV
 split
 . rfl
 . rfl
 . split
   . rw[q6S h1 h2]
   . rw[q6S h1 h2]
   . rfl
theorem qau {n:Nat} {v1 v2:V} (h:∀ b,b∈ids v1.t->hp b=hp' b):q15 hp n v1 v2=q15 hp' n v1 v2:=by
 obtain⟨t,x⟩:=v1
 obtain⟨u,y⟩:=v2
 cases t<;>first | rfl | (cases u<;>first | rfl | (simp only[q15];rw[h _ (by simp[ids])]))
theorem qax {len n:Nat} {v1 v2:V} (h:∀ b,b∈ids v1.t->hp b=hp' b):ixArr hp len n v1 v2=ixArr hp' len n v1 v2:=by
 unfold ixArr
 split<;>try rfl
 rw[h _ (by simp[ids])]
theorem q6G:∀ (l:List Operand),(∀ x,x∈l->g x=g' x)->caught g l=caught g' l
 | [],_=>rfl
 | x :: l,h=>by
  simp only[caught]
  rw[h x (by simp),q6G l fun y hy=>h y (by simp[hy])]
theorem q6T {op:Op} (hg:∀ x,x∈op.operands.toList->g x=g' x) (hh:Agree g hp hp' op.operands.toList):evP P g hp op=evP P g' hp' op:=by
 cases op with
 | move x=>simp only[evP];rw[hg x (by simp[Op.operands])]
 | assign x=>simp only[evP];rw[hg x (by simp[Op.operands])]
 | pick c a b=>simp only[evP];rw[hg c (by simp[Op.operands]),hg a (by simp[Op.operands]),hg b (by simp[Op.operands])]
 | alloc e=>rfl
 | box e x=>simp only[evP];rw[hg x (by simp[Op.operands])]
 | build t ps=>simp only[evP];rw[q5t ps.toList (fun x hx=>hg x (by simpa[Op.operands] using hx))]
 | buildSlice t n ps=>simp only[evP];rw[q5t ps.toList (fun x hx=>hg x (by simpa[Op.operands] using hx))]
 | load t x=>
  have hx:x∈(Op.load t x).operands.toList:=by simp[Op.operands]
  simp only[evP];rw[<-hg x hx]
  cases e:g x with
  | none=>rfl
  | some v=>
   have e2:∀ ag n,loadV hp ag n v=loadV hp' ag n v:=fun ag n=>qaE (hh x hx v e)
   simp only[e2]
 | binOp o t x y t'=>
  have hx:x∈(Op.binOp o t x y t').operands.toList:=by simp[Op.operands]
  have hy:y∈(Op.binOp o t x y t').operands.toList:=by simp[Op.operands]
  simp only[evP];rw[<-hg x hx,<-hg y hy]
  cases e:g x with
  | none=>rfl
  | some v=>
   cases e':g y with
   | none=>rfl
   | some u=>exact qa6 (hh x hx v e) (hh y hy u e')
 | unOp o t x=>simp only[evP];rw[hg x (by simp[Op.operands])]
 | convert s d x=>simp only[evP];rw[hg x (by simp[Op.operands])]
 | makeSlice t l c=>simp only[evP];rw[hg l (by simp[Op.operands]),hg c (by simp[Op.operands])]
 | slice t x lo hi mx=>
  cases mx with
  | some m=>rfl
  | none=>
   simp only[evP]
   have hs:∀ v,g' x=some v->∀ l h,q1v P hp t v l h=q1v P hp' t v l h:=fun v hv l h=>qaZ (hh x (by simp[Op.operands]) v (by rw[hg x (by simp[Op.operands])];exact hv))
   rw[hg x (by simp[Op.operands]),q7m (x:=lo) (fun y hy=>hg y (by simp only[Op.operands];simp at hy ⊢;exact .inr (.inl hy))),q7m (x:=hi) (fun y hy=>hg y (by simp only[Op.operands];simp at hy ⊢;exact .inr (.inr hy)))]
   cases e:g' x with
   | none=>rfl
   | some v=>simp only[hs v e]
 | fieldAddr s x f=>simp only[evP];rw[hg x (by simp[Op.operands])]
 | field s x f=>simp only[evP];rw[hg x (by simp[Op.operands])]
 | indexAddr t x i=>
  have hx:x∈(Op.indexAddr t x i).operands.toList:=by simp[Op.operands]
  have hi:i∈(Op.indexAddr t x i).operands.toList:=by simp[Op.operands]
  simp only[evP];rw[<-hg x hx,<-hg i hi]
  cases e:g x with
  | none=>rfl
  | some v=>
   cases e':g i with
   | none=>rfl
   | some u=>
    have e2:∀ n,q15 hp n v u=q15 hp' n v u:=fun n=>qau (hh x hx v e)
    have e3:∀ l n,ixArr hp l n v u=ixArr hp' l n v u:=fun l n=>qax (hh x hx v e)
    simp only[e2,e3]
 | index t x i=>simp only[evP];rw[hg x (by simp[Op.operands]),hg i (by simp[Op.operands])]
 | extract x i=>simp only[evP];rw[hg x (by simp[Op.operands])]
 | nilCheck x=>simp only[evP];rw[hg x (by simp[Op.operands])]
 | makeFunc fn first caps=>
  simp only[evP]
  rw[q6G caps.toList fun x hx=>hg x (by simp only[Op.operands,Array.toList_append,List.mem_append];exact .inr hx)]
 | call c=>
  obtain⟨cal,args,ts⟩:=c
  cases cal with
  | value f=>rfl
  | invoke x m=>rfl
  | builtin b=>
   have ho:(Op.call ⟨.builtin b,args,ts⟩).operands.toList=args.toList:=by simp[Op.operands,Call.operands]
   rw[ho] at hg
   unfold Agree at hh
   rw[ho] at hh
   simp only[evP]
   generalize args.toList=l at hg hh
   generalize ts.toList=m
   unfold q4C
   split
   . rename_i x t
     rw[<-hg x (by simp)]
     cases e:g x with
     | none=>rfl
     | some v=>simp only;rw[qay (hh x (by simp) v e)]
   . rename_i x
     rw[<-hg x (by simp)]
     cases e:g x with
     | none=>rfl
     | some v=>simp only;rw[qai (hh x (by simp) v e)]
   . rename_i x y
     rw[hg x (by simp),hg y (by simp)]
   . rename_i x y
     rw[hg x (by simp),hg y (by simp)]
   . rfl
 | _=>rfl
theorem qa4 {pt:Ty} {v:V} (h:∀ b,b∈ids v.t->hp b=hp' b):argV hp pt v=argV hp' pt v:=by
 unfold argV
 split
 . rfl
 . rw[q5k _ _ _ h]
theorem q3B:∀ (xs:List Operand) (ts:List TypeId),(∀ x,x∈xs->g x=g' x)->Agree g hp hp' xs->argsV P g hp xs ts=argsV P g' hp' xs ts
 | [],[],_,_=>rfl
 | [],_ :: _,_,_=>rfl
 | _ :: _,[],_,_=>rfl
 | x :: xs,t :: ts,hg,hh=>by
  simp only[argsV]
  rw[<-hg x (by simp)]
  cases e:g x with
  | none=>rfl
  | some v=>
   have e2:∀ pt,argV hp pt v=argV hp' pt v:=fun pt=>qa4 (hh x (by simp) v e)
   have e3:=q3B xs ts (fun y hy=>hg y (by simp[hy])) (fun y hy=>hh y (by simp[hy]))
   simp only[e2,e3]
inductive CallK where
 | val (f:FuncId) (xs:List V) (rt:Ty)
 | own (f:FuncId) (xs:List V) (t:Ty)
 | oag (f:FuncId) (xs:List V) (rt t:Ty)
def CallK.wp (P:Program) (d:Nat) (Q:V->Option Blk->Prop):CallK->Prop
 | .val f xs rt=>callV P f xs rt fun r=>Q ⟨rt,r⟩ none
 | .own f xs t=>ownV P f xs t fun l=>Q ⟨.own d,()⟩ (some (.arr t l))
 | .oag f xs rt t=>ownA P f xs rt t fun x l=>Q ⟨holeT d rt,holeX d rt x⟩ (some (.arr t l))
theorem CallK.mono {P:Program} {d:Nat} {Q Q':V->Option Blk->Prop} {c:CallK} (h:c.wp P d Q) (hq:∀ v k,Q v k->Q' v k):c.wp P d Q':=by
 cases c with
 | val f xs rt=>exact callV.mono h fun r hr=>hq _ _ hr
 | own f xs t=>exact ownV.mono h fun r hr=>hq _ _ hr
 | oag f xs rt t=>exact ownA.mono h fun x r hr=>hq _ _ hr
theorem CallK.ex {P:Program} {d:Nat} {Q:V->Option Blk->Prop} {c:CallK} (h:c.wp P d Q):∃ v k,Q v k:=by
 cases c with
 | val f xs rt=>
  have h:callV P f xs rt fun r=>Q ⟨rt,r⟩ none:=h
  obtain⟨r,hr⟩:=h.ex
  exact⟨_,_,hr⟩
 | own f xs t=>
  have h:ownV P f xs t fun l=>Q ⟨.own d,()⟩ (some (.arr t l)):=h
  obtain⟨r,hr⟩:=h.ex
  exact⟨_,_,hr⟩
 | oag f xs rt t=>
  have h:ownA P f xs rt t fun x l=>Q ⟨holeT d rt,holeX d rt x⟩ (some (.arr t l)):=h
  obtain⟨x,r,hr⟩:=h.ex
  exact⟨_,_,hr⟩
inductive Deed where
 | put (c:Prop) (d:Option Nat) (v:V) (k:Option Blk)
 | call (c:CallK) (d:Nat)
def St.does (st:St) (d:Option Nat) (v:V) (k:Option Blk):St:=
 match d with
 | none=>st
 | some d=>match k with
  | none=>st.put d (some v)
  | some k=>(st.new d k).put d (some v)
def Deed.wp (P:Program) (K:St->Prop) (st:St):Deed->Prop
 | .put c d v k=>c/\K (st.does d v k)
 | .call c d=>c.wp P d fun v k=>K (st.does (some d) v k)
def deedR (st:St) (d:Nat):Res->Option Deed
 | .val v=>some (.put True (some d) v none)
 | .cond c v=>some (.put c (some d) v none)
 | .new k=>bif st.used d then none else some (.put True (some d) (tagV k d) (some k))
 | .newc c k=>bif st.used d then none else some (.put c (some d) (tagV k d) (some k))
def quiet:Op->Bool
 | .store _ _ _=>false
 | .call ⟨.builtin .append,_,_⟩=>false
 | .call ⟨.builtin .copy,_,_⟩=>false
 | .call ⟨.builtin .clear,_,_⟩=>false
 | .call ⟨.builtin .unsafeString,_,_⟩=>false
 | _=>true
def isApp:Op->Bool
 | .call ⟨.builtin .append,_,_⟩=>true
 | _=>false
def q1p (g:Operand->Option V):Op->Bool
 | .call ⟨.builtin .append,args,_⟩=>match args.toList with
  | s :: _=>q1o (g s)
  | []=>false
 | _=>false
def isCall:Op->Bool
 | .call ⟨.value _,_,_⟩=>true
 | _=>false
def deed (P:Program) (N:Nat) (ow:Bool) (o:Oper) (st:St):Option Deed:=
 match o.dst with
 | none=>none
 | some d=>bif Nat.blt d N then match o.op with
  | .call ⟨.value f,args,ts⟩=>match st.val f with
   | some fv=>match calleeOf fv with
    | some (f,caps)=>bif ow then match ownT P o.type with
     | some t=>match argsV P st.val (bif flat t then st.heap else q0e) args.toList ts.toList with
      | some xs=>bif st.used d then none else some (.call (.own f (xs ++ caps) t) d)
      | none=>none
     | none=>match ownAT P o.type with
      | some z=>match argsV P st.val q0e args.toList ts.toList with
       | some xs=>bif st.used d then none else some (.call (.oag f (xs ++ caps) z.1 z.2) d)
       | none=>none
      | none=>none
     else match resT P o.type with
     | some rt=>match argsV P st.val (bif flat rt then st.heap else q0e) args.toList ts.toList with
      | some xs=>some (.call (.val f (xs ++ caps) rt) d)
      | none=>none
     | none=>none
    | none=>none
   | none=>none
  | .call ⟨.builtin .append,args,ts⟩=>match args.toList,ts.toList with
   | [s,x],[t,t1]=>bif q1o (st.val s) then (match st.val x with
    | some vx=>match appN P st.heap t t1 vx with
     | some (c,v)=>some (.put c (some d) v none)
     | none=>none
    | none=>none) else none
   | _,_=>none
  | op=>bif ow then (match gvn P st.val st.heap op with
   | some v=>some (.put True (some d) v none)
   | none=>none) else match evP P st.val st.heap op with
   | some r=>deedR st d r
   | none=>none
  else none
def Deed.wpO (P:Program) (K:St->Prop) (st:St):Option Deed->Prop
 | some x=>x.wp P K st
 | none=>False
theorem q7l {N:Nat} {ow:Bool} {o:Oper} (st:St) (hq:quiet o.op=true∨q1p st.val o.op=true) (K:St->Prop):opW P N ow o K st↔Deed.wpO P K st (deed P N ow o st):=by
 obtain⟨dst,op,ty,pos,aft,grd⟩:=o
 unfold opW deed
 cases dst with
 | none=>
  simp only
  cases op<;>first
   | exact Iff.rfl
   | (simp[quiet,q1p] at hq;done)
   | (rename_i c
      obtain⟨cal,args,ts⟩:=c
      cases cal<;>first
       | exact Iff.rfl
       | (rename_i b
          cases b<;>first
           | exact Iff.rfl
           | (simp[quiet,q1p] at hq;done)))
 | some d=>
  simp only
  cases Nat.blt d N with
  | false=>exact Iff.rfl
  | true=>
   simp only[cond_true]
   have pure:(bif ow then (match gvn P st.val st.heap op with
    | some v=>K (st.put d (some v))
    | none=>False) else match evP P st.val st.heap op with
    | some (.val v)=>K (st.put d (some v))
    | some (.cond c v)=>c/\K (st.put d (some v))
    | some (.new k)=>bif st.used d then False else K ((st.new d k).put d (some (tagV k d)))
    | some (.newc c k)=>bif st.used d then False else c/\K ((st.new d k).put d (some (tagV k d)))
    | none=>False)↔Deed.wpO P K st (bif ow then (match gvn P st.val st.heap op with
    | some v=>some (.put True (some d) v none)
    | none=>none) else match evP P st.val st.heap op with
    | some r=>deedR st d r
    | none=>none):=by
    cases ow with
    | true=>
     simp only[cond_true]
     cases gvn P st.val st.heap op with
     | none=>exact Iff.rfl
     | some v=>simp[Deed.wpO,Deed.wp,St.does]
    | false=>
    simp only[cond_false]
    cases evP P st.val st.heap op with
    | none=>exact Iff.rfl
    | some r=>
     cases r with
     | val v=>simp[deedR,Deed.wpO,Deed.wp,St.does]
     | cond c v=>simp[deedR,Deed.wpO,Deed.wp,St.does]
     | new k=>simp only[deedR];cases st.used d<;>simp[Deed.wpO,Deed.wp,St.does]
     | newc c k=>simp only[deedR];cases st.used d<;>simp[Deed.wpO,Deed.wp,St.does]
   cases op with
   | call c=>
    obtain⟨cal,args,ts⟩:=c
    cases cal with
    | value f=>
     simp only
     cases st.val f with
     | none=>exact Iff.rfl
     | some v=>
      simp only
      cases calleeOf v with
      | none=>exact Iff.rfl
      | some fc=>
       obtain⟨f,caps⟩:=fc
       simp only
       cases ow with
       | true=>
        simp only[cond_true]
        cases ownT P ty with
        | none=>
         simp only
         cases ownAT P ty with
         | none=>exact Iff.rfl
         | some z=>
          simp only
          cases argsV P st.val q0e args.toList ts.toList with
          | none=>exact Iff.rfl
          | some xs=>
           simp only
           cases st.used d<;>exact Iff.rfl
        | some t=>
         simp only
         cases argsV P st.val (bif flat t then st.heap else q0e) args.toList ts.toList with
         | none=>exact Iff.rfl
         | some xs=>
          simp only
          cases st.used d<;>exact Iff.rfl
       | false=>
       simp only[cond_false]
       cases resT P ty with
       | none=>exact Iff.rfl
       | some rt=>
        simp only
        cases argsV P st.val (bif flat rt then st.heap else q0e) args.toList ts.toList<;>exact Iff.rfl
    | invoke x m=>exact pure
    | builtin b=>
     cases b with
     | append=>
      have hq:q1p st.val (.call ⟨.builtin .append,args,ts⟩)=true:=hq.resolve_left (by simp[quiet])
      simp only[q1p] at hq
      simp only
      cases ha:args.toList with
      | nil=>rw[ha] at hq;cases hq
      | cons s l=>
       rw[ha] at hq
       simp only at hq
       cases l with
       | nil=>exact Iff.rfl
       | cons x l=>
        cases l with
        | cons y l=>exact Iff.rfl
        | nil=>
         cases ts.toList with
         | nil=>exact Iff.rfl
         | cons t l=>
          cases l with
          | nil=>exact Iff.rfl
          | cons t1 l=>
           cases l with
           | cons y l=>exact Iff.rfl
           | nil=>
            simp only[hq,cond_true]
            cases hs:st.val s with
            | none=>rw[hs] at hq;cases hq
            | some vs=>
             rw[hs] at hq
             simp only[hq,cond_true]
             cases st.val x with
             | none=>exact Iff.rfl
             | some vx=>
              simp only
              cases appN P st.heap t t1 vx<;>exact Iff.rfl
     | copy=>simp[quiet,q1p] at hq
     | unsafeString=>simp[quiet,q1p] at hq
     | _=>exact pure
   | _=>exact pure
end
end Go.VM
