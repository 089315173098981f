/- Typed pure data, a condition on code that says what a call gives, what the code of each function comes to, and what each function gives. -/
import Derived.Test.YtackcicjgkfefaaGreatDoorA4
set_option linter.unusedVariables false
set_option linter.unusedSimpArgs false
set_option linter.unnecessarySimpa false
namespace Go.VM
open Go Go.RowKit
def stepW (P:Program) (N:Nat) (ad:Nat->Bool) (ops:Array Oper) (bad:Nat->List Nat) (i:Nat) (K:St->Prop) (st:St):Prop:=regW P N ad ops bad [i] K st
def skipV:V:=⟨.tup .unit,()⟩
def sdeed (P:Program) (N:Nat) (ad:Nat->Bool) (ops:Array Oper) (bad:Nat->List Nat) (i:Nat) (st:St):Option Deed:=
 match ops.toList[i]? with
 | none=>some (.put True none skipV none)
 | some o=>bif okOp (bad i) st.val o.op then match o.guard with
  | none=>deed P N (ad i) o st
  | some (j,want)=>match dstOf ops j with
   | some dj=>match st.env dj with
    | some ⟨.bool,b⟩=>bif (b == want) then deed P N (ad i) o st else some (.put True o.dst skipV none)
    | some ⟨.tup .unit,_⟩=>some (.put True o.dst skipV none)
    | _=>none
   | none=>none
  else none
theorem put_self {st:St} {d:Nat} {v:Option V} (h:st.env d=v):st.put d v=st:=by
 have:upd st.env d v=st.env:=by
  funext m
  by_cases e:m=d
  . subst e;rw[upd_same,h]
  . rw[upd_other _ _ _ _ e]
 simp only[St.put,this]
theorem q70 (st:St) (d:Option Nat):st.skip d=st.does d skipV none:=by cases d<;>rfl
def qOk (bad:List Nat) (op:Op):Bool:=quiet op || (isApp op && memN 4294967296 bad)
theorem qOk_ok {bad:List Nat} {g:Operand->Option V} {op:Op} (h:qOk bad op=true) (hok:okOp bad g op=true):quiet op=true∨q1g g op=true:=by
 simp only[qOk,Bool.or_eq_true,Bool.and_eq_true] at h
 rcases h with h | ⟨h1,h2⟩
 . exact .inl h
 . right
   simp only[okOp,Bool.and_eq_true] at hok
   have h3:=hok.2.2
   unfold isApp at h1
   split at h1
   . simp only[okAp,h2,cond_true,Bool.and_eq_true] at h3
     exact h3.1
   . cases h1
theorem q09 {P:Program} {N:Nat} {ad:Nat->Bool} {ops:Array Oper} {bad:Nat->List Nat} {i:Nat} (hq:∀ o,ops.toList[i]?=some o->qOk (bad i) o.op=true) (K:St->Prop) (st:St):
 stepW P N ad ops bad i K st↔Deed.wpO P K st (sdeed P N ad ops bad i st):=by
 unfold stepW sdeed
 simp only[regW]
 cases ho:ops.toList[i]? with
 | none=>simp[Deed.wpO,Deed.wp,St.does]
 | some o=>
  have hq:=hq o ho
  simp only
  cases hok:okOp (bad i) st.val o.op with
  | false=>exact Iff.rfl
  | true=>
   have hq:=qOk_ok hq hok
   simp only[cond_true]
   cases o.guard with
   | none=>exact q6u st hq K
   | some jw=>
    obtain⟨j,want⟩:=jw
    simp only
    cases dstOf ops j with
    | none=>exact Iff.rfl
    | some dj=>
     simp only
     cases he:st.env dj with
     | none=>exact Iff.rfl
     | some v=>
      obtain⟨t,x⟩:=v
      cases t with
      | bool=>
       have hp:st.put dj (some ⟨.bool,x⟩)=st:=put_self he
       cases x<;>cases want<;>simp only[brV,hp,cond_true,cond_false]<;>first
        | exact q6u st hq K
        | (simp[Deed.wpO,Deed.wp,q70])
      | tup c=>
       cases c<;>first | exact Iff.rfl | (simp[Deed.wpO,Deed.wp,q70])
      | _=>exact Iff.rfl
def q0M:List Operand->List Nat
 | []=>[]
 | .tmp t :: l=>t :: q0M l
 | _ :: l=>q0M l
def readsOf (ops:Array Oper) (o:Oper):List Nat:=
 q0M o.op.operands.toList ++ match o.guard with
  | some (j,_)=>match dstOf ops j with
   | some d=>[d]
   | none=>[]
  | none=>[]
theorem q2P {st st':St}:∀ (l:List Operand),(∀ t,t∈q0M l->st.env t=st'.env t)->∀ x,x∈l->st.val x=st'.val x
 | [],_,x,hx=>by simp at hx
 | y :: l,h,x,hx=>by
  have ih:=q2P (st:=st) (st':=st') l
  cases y with
  | tmp t=>
   simp only[q0M] at h
   rcases List.mem_cons.1 hx with rfl | hx
   . exact h t (by simp)
   . exact ih (fun u hu=>h u (by simp[hu])) x hx
  | _=>
   simp only[q0M] at h
   rcases List.mem_cons.1 hx with rfl | hx
   . rfl
   . exact ih h x hx
theorem q5d {bad:List Nat} {g g':Operand->Option V}:∀ (l:List Operand),(∀ x,x∈l->g x=g' x)->okIds bad g l=okIds bad g' l
 | [],_=>rfl
 | x :: l,h=>by simp only[okIds];rw[h x (by simp),q5d l (fun y hy=>h y (by simp[hy]))]
theorem okIds_mem {bad:List Nat} {g:Operand->Option V}:∀ (l:List Operand),okIds bad g l=true->∀ x,x∈l->∀ v,g x=some v->∀ b,b∈ids v.t->memN b bad=false
 | [],_,x,hx=>by simp at hx
 | y :: l,h,x,hx=>by
  simp only[okIds,Bool.and_eq_true] at h
  rcases List.mem_cons.1 hx with rfl | hx
  . intro v hv b hb
    rw[hv] at h
    have:=List.all_eq_true.1 h.1 b hb
    simpa using this
  . exact okIds_mem l h.2 x hx
theorem q5e {bad:List Nat} {g g':Operand->Option V} {op:Op} (h:∀ x,x∈op.operands.toList->g x=g' x):okOp bad g op=okOp bad g' op:=by
 have h1:okSt bad g op=okSt bad g' op:=by
  cases op with
  | store t x v=>
   cases x with
   | tmp s=>simp only[okSt];rw[h (.tmp s) (by simp[Op.operands])]
   | _=>rfl
  | _=>rfl
 have h2:okAp bad g op=okAp bad g' op:=by
  cases op with
  | call c=>
   obtain⟨cal,args,ts⟩:=c
   cases cal with
   | builtin b=>
    cases b<;>first | rfl | (
     simp only[okAp]
     cases ha:args.toList with
     | nil=>rfl
     | cons s l=>
      simp only
      have hm:s∈args.toList:=by rw[ha];simp
      have e1:g s=g' s:=h s (by simpa[Op.operands,Call.operands] using hm)
      have e2:ownS g s=ownS g' s:=by
       cases s with
       | tmp n=>simp only[ownS,e1]
       | _=>rfl
      rw[e1,e2])
   | _=>rfl
  | _=>rfl
 unfold okOp
 rw[q5d _ h,h1,h2]
theorem okOp_ids {bad:List Nat} {g:Operand->Option V} {op:Op} (h:okOp bad g op=true):okIds bad g op.operands.toList=true:=by
 unfold okOp at h;rw[Bool.and_eq_true] at h;exact h.1
theorem q8J {P:Program} {hp hp':Nat->Option Blk} {t t1:TypeId} {x:V} (h:∀ b,b∈ids x.t->hp b=hp' b):appN P hp t t1 x=appN P hp' t t1 x:=by
 have e:∀ z,srcV P hp z t1 x=srcV P hp' z t1 x:=by
  intro z
  unfold srcV
  rw[q4R _ _ _ h]
 unfold appN
 simp only[e]
theorem gvn_congr {P:Program} {g g':Operand->Option V} {hp hp':Nat->Option Blk} {op:Op} (hg:∀ x,x∈op.operands.toList->g x=g' x) (hh:Agree g hp hp' op.operands.toList):gvn P g hp op=gvn P g' hp' op:=by
 unfold gvn
 rw[q65 hg hh]
theorem q90 {P:Program} {N:Nat} {ow:Bool} {o:Oper} {st st':St} (hv:∀ x,x∈o.op.operands.toList->st.val x=st'.val x) (hh:Agree st.val st.heap st'.heap o.op.operands.toList) (hu:∀ d,o.dst=some d->st.used d=st'.used d):
 deed P N ow o st=deed P N ow o st':=by
 obtain⟨dst,op,ty,pos,aft,grd⟩:=o
 unfold deed
 cases dst with
 | none=>rfl
 | some d=>
  simp only
  cases Nat.blt d N with
  | false=>rfl
  | true=>
   simp only[cond_true]
   have hu:=hu d rfl
   have hr:∀ r,deedR st d r=deedR st' d r:=by
    intro r
    cases r<;>simp only[deedR,hu]
   have pure:(bif ow then (match gvn P st.val st.heap op with
    | some v=>some (Deed.put True (some d) v none)
    | none=>none) else match evP P st.val st.heap op with
    | some r=>deedR st d r
    | none=>none)=(bif ow then (match gvn P st'.val st'.heap op with
    | some v=>some (Deed.put True (some d) v none)
    | none=>none) else match evP P st'.val st'.heap op with
    | some r=>deedR st' d r
    | none=>none):=by
    rw[q65 hv hh,gvn_congr hv hh]
    simp only[hr]
   cases op with
   | call c=>
    obtain⟨cal,args,ts⟩:=c
    cases cal with
    | value f=>
     have ho:(Op.call ⟨.value f,args,ts⟩).operands.toList=f :: args.toList:=by simp[Op.operands,Call.operands]
     simp only[ho] at hv hh
     simp only
     rw[<-hv f (by simp)]
     have e2:∀ rt,argsV P st.val (bif flat rt then st.heap else q0i) args.toList ts.toList=argsV P st'.val (bif flat rt then st'.heap else q0i) args.toList ts.toList:=by
      intro rt
      refine q30 _ _ (fun x hx=>hv x (by simp at hx ⊢;exact .inr hx)) (fun x hx v hv b hb=>?_)
      cases flat rt
      . rfl
      . exact hh x (by simp at hx ⊢;exact .inr hx) v hv b hb
     have e3:argsV P st.val st.heap args.toList ts.toList=argsV P st'.val st'.heap args.toList ts.toList:=
      q30 _ _ (fun x hx=>hv x (by simp at hx ⊢;exact .inr hx)) (fun x hx v hv b hb=>hh x (by simp at hx ⊢;exact .inr hx) v hv b hb)
     have e4:argsV P st.val q0i args.toList ts.toList=argsV P st'.val q0i args.toList ts.toList:=
      q30 _ _ (fun x hx=>hv x (by simp at hx ⊢;exact .inr hx)) (fun x hx v hv b hb=>rfl)
     simp only[e2,e3,e4,hu]
    | invoke x m=>exact pure
    | builtin b=>
     cases b with
     | append=>
      have ho:(Op.call ⟨.builtin .append,args,ts⟩).operands.toList=args.toList:=by simp[Op.operands,Call.operands]
      simp only[ho] at hv hh
      simp only
      cases ha:args.toList with
      | nil=>rfl
      | cons s l=>
       cases l with
       | nil=>rfl
       | cons x l=>
        cases l with
        | cons y l=>rfl
        | nil=>
         rw[ha] at hv hh
         cases ts.toList with
         | nil=>rfl
         | cons t l=>
          cases l with
          | nil=>rfl
          | cons t1 l=>
           cases l with
           | cons y l=>rfl
           | nil=>
            simp only
            rw[<-hv s (by simp),<-hv x (by simp)]
            cases hx:st.val x with
            | none=>rfl
            | some vx=>
             simp only
             rw[q8J (hh x (by simp) vx hx)]
     | _=>exact pure
   | _=>exact pure
theorem sdeed_congr {P:Program} {N:Nat} {ad:Nat->Bool} {ops:Array Oper} {bad:Nat->List Nat} {i:Nat} {o:Oper} {st st':St} (ho:ops.toList[i]?=some o) (he:∀ t,t∈readsOf ops o->st.env t=st'.env t)
 (hh:∀ b,memN b (bad i)=false->st.heap b=st'.heap b) (hu:∀ d,o.dst=some d->st.used d=st'.used d):sdeed P N ad ops bad i st=sdeed P N ad ops bad i st':=by
 unfold sdeed
 rw[ho]
 simp only
 have hv:∀ x,x∈o.op.operands.toList->st.val x=st'.val x:=q2P _ (fun t ht=>he t (by simp[readsOf,ht]))
 rw[<-q5e hv]
 cases hok:okOp (bad i) st.val o.op with
 | false=>rfl
 | true=>
  simp only[cond_true]
  have hd:=q90 (P:=P) (N:=N) (ow:=ad i) hv (fun x hx v hv b hb=>hh b (okIds_mem _ (okOp_ids hok) x hx v hv b hb)) hu
  cases hg:o.guard with
  | none=>exact hd
  | some jw=>
   obtain⟨j,want⟩:=jw
   simp only
   cases hj:dstOf ops j with
   | none=>rfl
   | some dj=>
    simp only
    rw[<-he dj (by simp[readsOf,hg,hj]),hd]
def Deed.of (o:Oper):Deed->Prop
 | .put _ d _ _=>d=o.dst
 | .call _ d=>o.dst=some d/\isCall o.op=true
theorem q61 {P:Program} {N:Nat} {ow:Bool} {o:Oper} {st:St} {x:Deed} (h:deed P N ow o st=some x):x.of o:=by
 unfold deed at h
 split at h<;>try (simp at h;done)
 rename_i d hd
 cases e:Nat.blt d N<;>rw[e] at h
 . simp at h
 simp only[cond_true] at h
 split at h
 . rename_i f args ts hop
   split at h<;>try (simp at h;done)
   split at h<;>try (simp at h;done)
   cases ow with
   | true=>
    simp only[cond_true] at h
    split at h
    . split at h<;>try (simp at h;done)
      cases e2:st.used d<;>rw[e2] at h<;>simp at h
      subst h
      exact⟨hd,by rw[hop];rfl⟩
    split at h<;>try (simp at h;done)
    split at h<;>try (simp at h;done)
    cases e2:st.used d<;>rw[e2] at h<;>simp at h
    subst h
    exact⟨hd,by rw[hop];rfl⟩
   | false=>
   simp only[cond_false] at h
   split at h<;>try (simp at h;done)
   split at h<;>try (simp at h;done)
   simp only[Option.some.injEq] at h;subst h
   exact⟨hd,by rw[hop];rfl⟩
 . split at h<;>try (simp at h;done)
   rename_i s x t t1 _ _
   cases hn:q1e (st.val s)<;>rw[hn] at h<;>simp only[cond_true,cond_false,reduceCtorEq] at h
   split at h<;>try (simp at h;done)
   split at h<;>try (simp at h;done)
   simp only[Option.some.injEq] at h;subst h;exact hd.symm
 . cases ow<;>simp only[cond_true,cond_false] at h
   case true=>
    split at h<;>try (simp at h;done)
    simp only[Option.some.injEq] at h;subst h;exact hd.symm
   split at h<;>try (simp at h;done)
   rename_i r _
   cases r with
   | val v=>simp only[deedR,Option.some.injEq] at h;subst h;exact hd.symm
   | cond c v=>simp only[deedR,Option.some.injEq] at h;subst h;exact hd.symm
   | new k=>simp only[deedR] at h;cases e:st.used d<;>rw[e] at h<;>simp at h;subst h;exact hd.symm
   | newc c k=>simp only[deedR] at h;cases e:st.used d<;>rw[e] at h<;>simp at h;subst h;exact hd.symm
theorem q2K {P:Program} {N:Nat} {ad:Nat->Bool} {ops:Array Oper} {bad:Nat->List Nat} {i:Nat} {o:Oper} {st:St} (ho:ops.toList[i]?=some o) {x:Deed} (h:sdeed P N ad ops bad i st=some x):x.of o:=by
 unfold sdeed at h
 rw[ho] at h
 simp only at h
 cases hok:okOp (bad i) st.val o.op<;>rw[hok] at h
 . simp at h
 simp only[cond_true] at h
 split at h
 . exact q61 h
 . rename_i j want _
   split at h<;>try (simp at h;done)
   split at h<;>try (simp at h;done)
   . rename_i b _
     cases e:(b == want)<;>rw[e] at h
     . simp only[cond_false,Option.some.injEq] at h;subst h;rfl
     . exact q61 h
   . simp only[Option.some.injEq] at h;subst h;rfl
theorem q1n {α:Type} (f:Nat->α) {a b:Nat} (x y:α) (h:a≠b):upd (upd f a x) b y=upd (upd f b y) a x:=by
 funext m
 by_cases e1:m=a
 . subst e1;rw[upd_same,upd_other _ _ _ _ h,upd_same]
 . by_cases e2:m=b
   . subst e2;rw[upd_same,upd_other _ _ _ _ e1,upd_same]
   . rw[upd_other _ _ _ _ e2,upd_other _ _ _ _ e1,upd_other _ _ _ _ e1,upd_other _ _ _ _ e2]
theorem q4S (st:St) {d d':Option Nat} {v v':V} {k k':Option Blk} (h:∀ x,d=some x->d'=some x->False):(st.does d v k).does d' v' k'=(st.does d' v' k').does d v k:=by
 cases d with
 | none=>rfl
 | some d=>
  cases d' with
  | none=>rfl
  | some d'=>
   have hne:d≠d':=fun e=>h d rfl (by rw[e])
   cases k<;>cases k'<;>simp only[St.does,St.put,St.new]<;>congr 1<;>first
    | exact q1n _ _ _ hne
    | rfl
theorem does_env {st:St} {d:Option Nat} {v:V} {k:Option Blk} {t:Nat} (h:d≠some t):(st.does d v k).env t=st.env t/\(st.does d v k).heap t=st.heap t/\(st.does d v k).used t=st.used t:=by
 cases d with
 | none=>exact⟨rfl,rfl,rfl⟩
 | some d=>
  have hne:t≠d:=fun e=>h (by rw[e])
  cases k with
  | none=>exact⟨upd_other _ _ _ _ hne,rfl,rfl⟩
  | some k=>exact⟨upd_other _ _ _ _ hne,upd_other _ _ _ _ hne,upd_other _ _ _ _ hne⟩
structure Free (ops:Array Oper) (bad:Nat->List Nat) (i j:Nat) (o o':Oper):Prop where
 hi:ops.toList[i]?=some o
 hj:ops.toList[j]?=some o'
 qi:qOk (bad i) o.op=true
 qj:qOk (bad j) o'.op=true
 calls:¬ (isCall o.op=true/\isCall o'.op=true)
 ri:∀ t,t∈readsOf ops o->o'.dst≠some t
 rj:∀ t,t∈readsOf ops o'->o.dst≠some t
 dd:∀ x,o.dst=some x->o'.dst=some x->False
 bi:∀ d,o'.dst=some d->memN d (bad i)=true
 bj:∀ d,o.dst=some d->memN d (bad j)=true
theorem swap {P:Program} {N:Nat} {ad:Nat->Bool} {ops:Array Oper} {bad:Nat->List Nat} {i j:Nat} {o o':Oper} (h:Free ops bad i j o o') {K:St->Prop} {st:St} (hw:stepW P N ad ops bad i (stepW P N ad ops bad j K) st):
 stepW P N ad ops bad j (stepW P N ad ops bad i K) st:=by
 have qi:∀ x,ops.toList[i]?=some x->qOk (bad i) x.op=true:=by intro x hx;rw[h.hi] at hx;cases hx;exact h.qi
 have qj:∀ x,ops.toList[j]?=some x->qOk (bad j) x.op=true:=by intro x hx;rw[h.hj] at hx;cases hx;exact h.qj
 have ci:∀ v k,sdeed P N ad ops bad i (st.does o'.dst v k)=sdeed P N ad ops bad i st:=fun v k=>
  (sdeed_congr h.hi (fun t ht=>(does_env (h.ri t ht)).1.symm) (fun b hb=>(does_env (fun e=>by have:=h.bi b e;rw[hb] at this;simp at this)).2.1.symm)
   (fun d hd=>(does_env (fun e=>h.dd d hd e)).2.2.symm)).symm
 have cj:∀ v k,sdeed P N ad ops bad j (st.does o.dst v k)=sdeed P N ad ops bad j st:=fun v k=>
  (sdeed_congr h.hj (fun t ht=>(does_env (h.rj t ht)).1.symm) (fun b hb=>(does_env (fun e=>by have:=h.bj b e;rw[hb] at this;simp at this)).2.1.symm)
   (fun d hd=>(does_env (fun e=>h.dd d e hd)).2.2.symm)).symm
 rw[q09 qi] at hw
 rw[q09 qj]
 cases hdi:sdeed P N ad ops bad i st with
 | none=>rw[hdi] at hw;exact hw.elim
 | some x=>
  rw[hdi] at hw
  have hxi:=q2K h.hi hdi
  cases hdj:sdeed P N ad ops bad j st with
  | none=>
   exfalso
   cases x with
   | put c d v k=>
    simp only[Deed.of] at hxi;subst hxi
    obtain⟨_,hw⟩:=hw
    rw[q09 qj,cj,hdj] at hw;exact hw
   | call c d=>
    obtain⟨hd,_⟩:=hxi
    have hw:c.wp P d fun v k=>stepW P N ad ops bad j K (st.does (some d) v k):=hw
    obtain⟨v,k,hr⟩:=CallK.ex hw
    rw[<-hd,q09 qj,cj,hdj] at hr;exact hr
  | some y=>
   have hxj:=q2K h.hj hdj
   cases x with
   | put c d v k=>
    simp only[Deed.of] at hxi;subst hxi
    obtain⟨hc,hw⟩:=hw
    rw[q09 qj,cj,hdj] at hw
    cases y with
    | put c' d' v' k'=>
     simp only[Deed.of] at hxj;subst hxj
     obtain⟨hc',hw⟩:=hw
     refine⟨hc',?_⟩
     rw[q09 qi,ci,hdi]
     exact⟨hc,by rw[q4S _ (fun x a b=>h.dd x b a)];exact hw⟩
    | call c' d'=>
     obtain⟨hd',_⟩:=hxj
     have hw:c'.wp P d' fun v' k'=>K ((st.does o.dst v k).does (some d') v' k'):=hw
     show c'.wp P d' fun v' k'=>stepW P N ad ops bad i K (st.does (some d') v' k')
     refine CallK.mono hw fun v' k' hr=>?_
     rw[<-hd',q09 qi,ci,hdi]
     refine⟨hc,?_⟩
     rw[q4S _ (fun x a b=>h.dd x b a),hd'];exact hr
   | call c d=>
    obtain⟨hd,hcall⟩:=hxi
    have hw:c.wp P d fun v k=>stepW P N ad ops bad j K (st.does (some d) v k):=hw
    cases y with
    | put c' d' v' k'=>
     simp only[Deed.of] at hxj;subst hxj
     have key:∀ v k,stepW P N ad ops bad j K (st.does (some d) v k)->c'/\K ((st.does o'.dst v' k').does (some d) v k):=by
      intro v k hr
      rw[<-hd,q09 qj,cj,hdj] at hr
      obtain⟨hc',hr⟩:=hr
      refine⟨hc',?_⟩
      rw[q4S _ (fun x a b=>h.dd x a b),hd] at hr;exact hr
     obtain⟨v,k,hr⟩:=CallK.ex hw
     refine⟨(key v k hr).1,?_⟩
     rw[q09 qi,ci,hdi]
     show c.wp P d fun v k=>K ((st.does o'.dst v' k').does (some d) v k)
     exact CallK.mono hw fun v k hr=>(key v k hr).2
    | call c' d'=>exact (h.calls ⟨hcall,hxj.2⟩).elim
structure FreeS (ops:Array Oper) (bad:Nat->List Nat) (i j:Nat) (o o':Oper):Prop where
 hi:ops.toList[i]?=some o
 hj:ops.toList[j]?=some o'
 gi:o.guard=none
 gj:o'.guard=none
 di:o.dst=none
 dj:o'.dst=none
 st:∃ a s v a' s' v',o.op=.store a (.tmp s) v/\o'.op=.store a' (.tmp s') v'/\s≠s'
 bi:memN 4294967295 (bad i)=true
 bj:memN 4294967295 (bad j)=true
theorem q9u {hp:Nat->Option Blk} {n b o:Nat} {u:den (.ref b o)} {x:V} {c:Nat} {k:Blk} (h:storeV hp n ⟨.ref b o,u⟩ x=some (c,k)):c=b:=by
 unfold storeV at h
 cases e:(Nat.beq n (width x.t) && valT x.t && Nat.blt 0 n)<;>rw[e] at h
 . simp at h
 simp only[cond_true] at h
 split at h<;>try (simp at h;done)
 split at h<;>try (simp at h;done)
 rename_i ty y _ _ u _
 cases e:(bldT u.t && !(bldT ty))<;>rw[e] at h<;>simp at h
 exact h.1.symm
theorem q5B {hp hp':Nat->Option Blk} {n b o:Nat} {u:den (.ref b o)} {x:V} (h:hp b=hp' b):storeV hp n ⟨.ref b o,u⟩ x=storeV hp' n ⟨.ref b o,u⟩ x:=by
 unfold storeV
 simp only[h]
theorem stepS {P:Program} {N:Nat} {ad:Nat->Bool} {ops:Array Oper} {bad:Nat->List Nat} {i:Nat} {o:Oper} {a:TypeId} {s:Nat} {v:Operand} (ho:ops.toList[i]?=some o) (hg:o.guard=none) (hd:o.dst=none) (hop:o.op=.store a (.tmp s) v)
 (hb:memN 4294967295 (bad i)=true) (K:St->Prop) (st:St):
 stepW P N ad ops bad i K st↔okIds (bad i) st.val o.op.operands.toList=true/\∃ f u g n vv k,st.env s=some ⟨.ref s f,u⟩/\tinf P a=some (g,n)/\st.val v=some vv/\storeV st.heap n ⟨.ref s f,u⟩ vv=some (s,k)/\K { st with heap:=upd st.heap s (some k) }:=by
 obtain⟨dst,op,ty,pos,aft,grd⟩:=o
 simp only at hg hd hop;subst hg hd hop
 unfold stepW
 simp only[regW]
 rw[ho]
 simp only[okOp,okSt,okAp,Bool.and_true,hb,cond_true,opW]
 have hsv:st.val (.tmp s)=st.env s:=rfl
 rw[hsv]
 cases h1:okIds (bad i) st.val (Op.store a (.tmp s) v).operands.toList with
 | false=>simp
 | true=>
  simp only[Bool.true_and,true_and]
  cases h2:st.env s with
  | none=>simp
  | some w=>
   obtain⟨t,u⟩:=w
   cases t with
   | ref b f=>
    simp only
    cases h3:Nat.beq b s with
    | false=>
     simp only[cond_false]
     constructor
     . exact False.elim
     . rintro⟨f',u',g,n,vv,k,e,_⟩
       simp only[Option.some.injEq,V.mk.injEq,Ty.ref.injEq] at e
       rw[e.1.1] at h3;simp at h3
    | true=>
     rw[Nat.beq_eq] at h3;subst h3
     simp only[cond_true]
     constructor
     . intro h
       split at h<;>try exact h.elim
       rename_i g n ht
       split at h<;>try exact h.elim
       rename_i vv hv
       split at h<;>try exact h.elim
       rename_i c k hs
       have:=q9u hs;subst this
       exact⟨f,u,g,n,vv,k,rfl,ht,hv,hs,h⟩
     . rintro⟨f',u',g,n,vv,k,e,ht,hv,hs,hk⟩
       simp only[Option.some.injEq,V.mk.injEq,Ty.ref.injEq,true_and] at e
       obtain⟨rfl,e2⟩:=e
       have e3:u=u':=rfl
       subst e3
       rw[ht];simp only[hv]
       rw[hs];exact hk
   | _=>
    simp only[cond_false]
    constructor
    . exact False.elim
    . rintro⟨f',u',g,n,vv,k,e,_⟩
      simp at e
theorem swapS {P:Program} {N:Nat} {ad:Nat->Bool} {ops:Array Oper} {bad:Nat->List Nat} {i j:Nat} {o o':Oper} (h:FreeS ops bad i j o o') {K:St->Prop} {st:St} (hw:stepW P N ad ops bad i (stepW P N ad ops bad j K) st):
 stepW P N ad ops bad j (stepW P N ad ops bad i K) st:=by
 obtain⟨a,s,v,a',s',v',e,e',hne⟩:=h.st
 rw[stepS h.hi h.gi h.di e h.bi] at hw
 obtain⟨q1,f,u,g,n,vv,k,q2,q3,q4,q5,hw⟩:=hw
 rw[stepS h.hj h.gj h.dj e' h.bj] at hw
 obtain⟨p1,f',u',g',n',vv',k',p2,p3,p4,p5,hw⟩:=hw
 have hval:∀ (st:St) (hp:Nat->Option Blk),St.val { st with heap:=hp }=st.val:=by intro st hp;funext x;cases x<;>rfl
 rw[hval] at p1
 rw[stepS h.hj h.gj h.dj e' h.bj]
 refine⟨p1,f',u',g',n',vv',k',p2,p3,by rw[hval] at p4;exact p4,?_,?_⟩
 . rw[q5B (hp':=upd st.heap s (some k)) (upd_other _ _ _ _ (fun e=>hne e.symm)).symm];exact p5
 . rw[stepS h.hi h.gi h.di e h.bi]
   refine⟨by rw[hval];exact q1,f,u,g,n,vv,k,q2,q3,by rw[hval];exact q4,?_,?_⟩
   . rw[q5B (hp':=st.heap) (upd_other _ _ _ _ hne)];exact q5
   . show K { st with heap:=upd (upd st.heap s' (some k')) s (some k) }
     rw[q1n _ _ _ (fun e=>hne e.symm)];exact hw
structure FreeQ (ops:Array Oper) (bad:Nat->List Nat) (i j:Nat) (o o':Oper) (s:Nat):Prop where
 hi:ops.toList[i]?=some o
 hj:ops.toList[j]?=some o'
 gi:o.guard=none
 di:o.dst=none
 st:∃ a v,o.op=.store a (.tmp s) v
 qj:qOk (bad j) o'.op=true
 rj:∀ t,t∈readsOf ops o->o'.dst≠some t
 bi:memN 4294967295 (bad i)=true
 bj:memN s (bad j)=true
def St.wr (st:St) (s:Nat) (k:Blk):St:={ st with heap:=upd st.heap s (some k) }
theorem q3U (st:St) {s:Nat} {k:Blk} {d:Option Nat} {v:V} {k':Option Blk} (h:d≠some s):(st.wr s k).does d v k'=(st.does d v k').wr s k:=by
 cases d with
 | none=>rfl
 | some d=>
  have hne:d≠s:=fun e=>h (by rw[e])
  cases k' with
  | none=>rfl
  | some k'=>
   simp only[St.does,St.put,St.new,St.wr]
   congr 1
   exact q1n _ _ _ (fun e=>hne e.symm)
section
variable {P:Program} {N:Nat} {ad:Nat->Bool} {ops:Array Oper} {bad:Nat->List Nat} {i j:Nat} {o o':Oper} {s:Nat}
theorem store_does (h:FreeQ ops bad i j o o' s) {a:TypeId} {v:Operand} (e:o.op=.store a (.tmp s) v) (st:St) (x:V) (kk:Option Blk) (K:St->Prop):
 stepW P N ad ops bad i K (st.does o'.dst x kk)↔okIds (bad i) st.val o.op.operands.toList=true/\∃ f u g n vv k,st.env s=some ⟨.ref s f,u⟩/\tinf P a=some (g,n)/\st.val v=some vv/\storeV st.heap n ⟨.ref s f,u⟩ vv=some (s,k)/\K ((st.does o'.dst x kk).wr s k):=by
 rw[stepS h.hi h.gi h.di e h.bi]
 have hv:∀ y,y∈o.op.operands.toList->(st.does o'.dst x kk).val y=st.val y:=q2P _ (fun t ht=>(does_env (h.rj t (by simp[readsOf,ht]))).1)
 have hs:s∈readsOf ops o:=by simp[readsOf,e,Op.operands,q0M]
 have h1:=does_env (v:=x) (k:=kk) (st:=st) (h.rj s hs)
 have h2:(st.does o'.dst x kk).val v=st.val v:=hv v (by simp[e,Op.operands])
 rw[q5d _ hv,h1.1,h2]
 have h3:∀ f u n vv,storeV (st.does o'.dst x kk).heap n ⟨.ref s f,u⟩ vv=storeV st.heap n ⟨.ref s f,u⟩ vv:=fun f u n vv=>q5B h1.2.1
 simp only[h3]
 exact Iff.rfl
theorem q5s (h:FreeQ ops bad i j o o' s) (st:St) (k:Blk):sdeed P N ad ops bad j (st.wr s k)=sdeed P N ad ops bad j st:=
 sdeed_congr h.hj (fun _ _=>rfl) (fun b hb=>upd_other _ _ _ _ (fun e=>by rw[e,h.bj] at hb;simp at hb)) (fun _ _=>rfl)
theorem q63 (st:St) {a:TypeId} {v:Operand} (h:FreeQ ops bad i j o o' s) (e:o.op=.store a (.tmp s) v) (K:St->Prop):
 stepW P N ad ops bad i K st↔okIds (bad i) st.val o.op.operands.toList=true/\∃ f u g n vv k,st.env s=some ⟨.ref s f,u⟩/\tinf P a=some (g,n)/\st.val v=some vv/\storeV st.heap n ⟨.ref s f,u⟩ vv=some (s,k)/\K (st.wr s k):=
 stepS h.hi h.gi h.di e h.bi K st
theorem swapQ (h:FreeQ ops bad i j o o' s) {K:St->Prop} {st:St} (hw:stepW P N ad ops bad i (stepW P N ad ops bad j K) st):stepW P N ad ops bad j (stepW P N ad ops bad i K) st:=by
 obtain⟨a,v,e⟩:=h.st
 have qj:∀ x,ops.toList[j]?=some x->qOk (bad j) x.op=true:=by intro x hx;rw[h.hj] at hx;cases hx;exact h.qj
 have hs:s∈readsOf ops o:=by simp[readsOf,e,Op.operands,q0M]
 rw[q63 st h e] at hw
 obtain⟨q1,f,u,g,n,vv,k,q2,q3,q4,q5,hw⟩:=hw
 rw[q09 qj,q5s h] at hw
 rw[q09 qj]
 cases hd:sdeed P N ad ops bad j st with
 | none=>rw[hd] at hw;exact hw.elim
 | some x=>
  rw[hd] at hw
  have hx:=q2K h.hj hd
  cases x with
  | put c d v' k'=>
   simp only[Deed.of] at hx;subst hx
   refine⟨hw.1,(store_does h e st v' k' K).2 ⟨q1,f,u,g,n,vv,k,q2,q3,q4,q5,?_⟩⟩
   rw[<-q3U st (h.rj s hs)];exact hw.2
  | call c d=>
   obtain⟨hd',_⟩:=hx
   have hw:c.wp P d fun v' k'=>K ((st.wr s k).does (some d) v' k'):=hw
   show c.wp P d fun v' k'=>stepW P N ad ops bad i K (st.does (some d) v' k')
   refine CallK.mono hw fun v' k' hr=>?_
   rw[<-hd']
   refine (store_does h e st _ k' K).2 ⟨q1,f,u,g,n,vv,k,q2,q3,q4,q5,?_⟩
   rw[<-q3U st (h.rj s hs),hd'];exact hr
theorem swapQ' (h:FreeQ ops bad i j o o' s) {K:St->Prop} {st:St} (hw:stepW P N ad ops bad j (stepW P N ad ops bad i K) st):stepW P N ad ops bad i (stepW P N ad ops bad j K) st:=by
 obtain⟨a,v,e⟩:=h.st
 have qj:∀ x,ops.toList[j]?=some x->qOk (bad j) x.op=true:=by intro x hx;rw[h.hj] at hx;cases hx;exact h.qj
 have hs:s∈readsOf ops o:=by simp[readsOf,e,Op.operands,q0M]
 rw[q09 qj] at hw
 rw[q63 st h e]
 cases hd:sdeed P N ad ops bad j st with
 | none=>rw[hd] at hw;exact hw.elim
 | some x=>
  rw[hd] at hw
  have hx:=q2K h.hj hd
  cases x with
  | put c d v' k'=>
   simp only[Deed.of] at hx;subst hx
   obtain⟨hc,hw⟩:=hw
   obtain⟨q1,f,u,g,n,vv,k,q2,q3,q4,q5,hw⟩:=(store_does h e st v' k' K).1 hw
   refine⟨q1,f,u,g,n,vv,k,q2,q3,q4,q5,?_⟩
   rw[q09 qj,q5s h,hd]
   refine⟨hc,?_⟩
   rw[q3U st (h.rj s hs)];exact hw
  | call c d=>
   obtain⟨hd',_⟩:=hx
   have hw1:c.wp P d fun v' k'=>stepW P N ad ops bad i K (st.does (some d) v' k'):=hw
   obtain⟨v',k',hr⟩:=CallK.ex hw1
   rw[<-hd'] at hr
   obtain⟨q1,f,u,g,n,vv,k,q2,q3,q4,q5,_⟩:=(store_does h e st _ k' K).1 hr
   refine⟨q1,f,u,g,n,vv,k,q2,q3,q4,q5,?_⟩
   rw[q09 qj,q5s h,hd]
   show c.wp P d fun v' k'=>K ((st.wr s k).does (some d) v' k')
   refine CallK.mono hw1 fun v' k' hr=>?_
   rw[<-hd'] at hr
   obtain⟨_,f',u',g',n',vv',k2,p2,p3,p4,p5,hk⟩:=(store_does h e st _ k' K).1 hr
   rw[q2] at p2
   simp only[Option.some.injEq,V.mk.injEq,Ty.ref.injEq,true_and] at p2
   obtain⟨rfl,e3⟩:=p2
   have e4:u=u':=rfl
   subst e4
   rw[q3] at p3;cases p3
   rw[q4] at p4;cases p4
   rw[q5] at p5;cases p5
   show K ((st.wr s k).does (some d) v' k')
   rw[<-hd',q3U st (h.rj s hs)];exact hk
end
def noMem:Op->Bool
 | .move _ | .assign _ | .pick _ _ _ | .unOp _ _ _ | .convert _ _ _ | .field _ _ _ | .extract _ _=>true
 | .binOp op _ _ _ _=>match op with
  | .eql | .neq=>false
  | _=>true
 | _=>false
theorem q6r {op:Op} (h:noMem op=true):quiet op=true:=by
 cases op<;>first | rfl | (simp[noMem] at h)
theorem vOf_val {x:Option V} {r:Res} (h:vOf x=some r):∃ v,r=.val v:=by
 cases x with
 | none=>simp[vOf] at h
 | some v=>simp only[vOf,Option.some.injEq] at h;exact⟨v,h.symm⟩
theorem bif_opt {α:Type} {b:Bool} {o:Option α} {y:α} (h:(bif b then o else none)=some y):o=some y:=by
 cases b
 . simp at h
 . exact h
theorem q42 {op:BinOp} {k:IntKind} {a b:Int} {r:Res} (h:binI op k a b=some r):(∃ v,r=.val v)∨∃ c v,r=.cond c v:=by
 cases op<;>simp only[binI,Option.some.injEq] at h<;>subst h<;>first | exact .inl ⟨_,rfl⟩ | exact .inr ⟨_,_,rfl⟩
theorem noMem_evP {P:Program} {g:Operand->Option V} {hp hp':Nat->Option Blk} {op:Op} (h:noMem op=true):evP P g hp op=evP P g hp' op:=by
 cases op with
 | binOp b t x y z=>
  simp only[evP]
  cases g x with
  | none=>rfl
  | some v1=>
   cases g y with
   | none=>rfl
   | some v2=>
    simp only[binV]
    split
    . rfl
    . rfl
    . cases b<;>first | rfl | (simp[noMem] at h)
 | _=>first | rfl | (simp[noMem] at h)
theorem noMem_plain {P:Program} {g:Operand->Option V} {hp:Nat->Option Blk} {op:Op} {r:Res} (h:noMem op=true) (he:evP P g hp op=some r):(∃ v,r=.val v)∨∃ c v,r=.cond c v:=by
 cases op with
 | binOp b t x y z=>
  simp only[evP] at he
  split at he<;>try (simp at he;done)
  split at he<;>try (simp at he;done)
  unfold binV at he
  split at he
  . split at he
    . exact q42 he
    . exact q42 he
    . exact q42 (bif_opt he)
  . cases b<;>simp only[strI,Option.some.injEq,reduceCtorEq] at he<;>subst he<;>first | exact .inl ⟨_,rfl⟩ | exact .inr ⟨_,_,rfl⟩
  . split at he<;>simp[noMem] at h he
 | pick c a b=>
  simp only[evP] at he
  split at he<;>try (simp at he;done)
  split at he<;>exact .inl (vOf_val he)
 | _=>
  first
   | (simp[noMem] at h;done)
   | exact .inl (vOf_val he)
   | (simp only[evP] at he;split at he<;>first | (simp at he;done) | exact .inl (vOf_val he))
theorem q91 {P:Program} {N:Nat} {ow:Bool} {o:Oper} (h:noMem o.op=true) (st:St) (b:Nat) (k:Blk):
 deed P N ow o (st.wr b k)=deed P N ow o st/\∀ x,deed P N ow o st=some x->∃ c v,x=.put c o.dst v none:=by
 obtain⟨dst,op,ty,pos,aft,grd⟩:=o
 have hval:(st.wr b k).val=st.val:=by funext x;cases x<;>rfl
 have hgv:∀ g hp,gvn P g hp op=none:=by
  intro g hp
  cases op<;>first | rfl | (simp[noMem] at h;done)
 have hev:∀ d,(bif ow then (match gvn P (st.wr b k).val (st.wr b k).heap op with
  | some v=>some (Deed.put True (some d) v none)
  | none=>none) else match evP P (st.wr b k).val (st.wr b k).heap op with
  | some r=>deedR (st.wr b k) d r
  | none=>none)=(bif ow then (match gvn P st.val st.heap op with
   | some v=>some (Deed.put True (some d) v none)
   | none=>none) else match evP P st.val st.heap op with
  | some r=>deedR st d r
  | none=>none):=by
  intro d
  rw[hgv,hgv]
  rw[hval,noMem_evP (hp:=(st.wr b k).heap) (hp':=st.heap) h]
  cases evP P st.val st.heap op with
  | none=>rfl
  | some r=>cases r<;>rfl
 have hpl:∀ d x,(bif ow then (match gvn P st.val st.heap op with
  | some v=>some (Deed.put True (some d) v none)
  | none=>none) else match evP P st.val st.heap op with
  | some r=>deedR st d r
  | none=>none)=some x->∃ c v,x=.put c (some d) v none:=by
  intro d x hx
  rw[hgv] at hx
  cases ow with
  | true=>cases hx
  | false=>
  simp only[cond_false] at hx
  cases e:evP P st.val st.heap op with
  | none=>rw[e] at hx;simp at hx
  | some r=>
   rw[e] at hx
   rcases noMem_plain h e with ⟨v,rfl⟩ | ⟨c,v,rfl⟩
   . simp only[deedR,Option.some.injEq] at hx;exact⟨_,_,hx.symm⟩
   . simp only[deedR,Option.some.injEq] at hx;exact⟨_,_,hx.symm⟩
 unfold deed
 cases dst with
 | none=>exact⟨rfl,fun x hx=>by simp at hx⟩
 | some d=>
  simp only
  cases Nat.blt d N with
  | false=>exact⟨rfl,fun x hx=>by simp at hx⟩
  | true=>
   simp only[cond_true]
   cases op<;>first | (simp[noMem] at h;done) | exact⟨hev d,hpl d⟩
theorem sdeed_noMem {P:Program} {N:Nat} {ad:Nat->Bool} {ops:Array Oper} {bad:Nat->List Nat} {j:Nat} {o:Oper} (hj:ops.toList[j]?=some o) (h:noMem o.op=true) (st:St) (b:Nat) (k:Blk):
 sdeed P N ad ops bad j (st.wr b k)=sdeed P N ad ops bad j st/\∀ x,sdeed P N ad ops bad j st=some x->∃ c v,x=.put c o.dst v none:=by
 have hval:(st.wr b k).val=st.val:=by funext x;cases x<;>rfl
 obtain⟨h1,h2⟩:=q91 (P:=P) (N:=N) (ow:=ad j) h st b k
 unfold sdeed
 rw[hj]
 simp only[hval,h1]
 refine⟨rfl,fun x hx=>?_⟩
 cases hok:okOp (bad j) st.val o.op<;>rw[hok] at hx
 . simp at hx
 simp only[cond_true] at hx
 split at hx
 . exact h2 x hx
 . rename_i j' want _
   split at hx<;>try (simp at hx;done)
   split at hx<;>try (simp at hx;done)
   . rename_i v _
     cases e:(v == want)<;>rw[e] at hx
     . simp only[cond_false,Option.some.injEq] at hx;exact⟨_,_,hx.symm⟩
     . exact h2 x hx
   . simp only[Option.some.injEq] at hx;exact⟨_,_,hx.symm⟩
def stoV (P:Program) (bad:List Nat) (o:Oper) (st:St):Option (Nat×Blk):=
 bif okOp bad st.val o.op then match o.op with
  | .store t x v=>match tinf P t with
   | some (_,n)=>match st.val x with
    | some vx=>match st.val v with
     | some vv=>storeV st.heap n vx vv
     | none=>none
    | none=>none
   | none=>none
  | _=>none
 else none
theorem stepW_sto {P:Program} {N:Nat} {ad:Nat->Bool} {ops:Array Oper} {bad:Nat->List Nat} {i:Nat} {o:Oper} (hi:ops.toList[i]?=some o) (hg:o.guard=none) (hd:o.dst=none) (hs:∃ a s v,o.op=.store a (.tmp s) v) (K:St->Prop) (st:St):
 stepW P N ad ops bad i K st↔∃ b k,stoV P (bad i) o st=some (b,k)/\K (st.wr b k):=by
 obtain⟨a,s,v,hop⟩:=hs
 obtain⟨dst,op,ty,pos,aft,grd⟩:=o
 simp only at hg hd hop;subst hg hd hop
 unfold stepW stoV
 simp only[regW]
 rw[hi]
 simp only
 cases okOp (bad i) st.val (Op.store a (.tmp s) v) with
 | false=>simp
 | true=>
  simp only[cond_true,opW]
  cases tinf P a with
  | none=>simp
  | some p=>
   obtain⟨_,n⟩:=p
   simp only
   cases st.val (.tmp s) with
   | none=>simp
   | some vx=>
    simp only
    cases st.val v with
    | none=>simp
    | some vv=>
     simp only
     cases storeV st.heap n vx vv with
     | none=>simp
     | some p=>
      obtain⟨b,k⟩:=p
      constructor
      . intro h;exact⟨b,k,rfl,h⟩
      . rintro⟨b',k',e,h⟩;cases e;exact h
structure FreeN (ops:Array Oper) (i j:Nat) (o o':Oper):Prop where
 hi:ops.toList[i]?=some o
 hj:ops.toList[j]?=some o'
 gi:o.guard=none
 di:o.dst=none
 st:∃ a s v,o.op=.store a (.tmp s) v
 nj:noMem o'.op=true
 rj:∀ t,t∈readsOf ops o->o'.dst≠some t
section
variable {P:Program} {N:Nat} {ad:Nat->Bool} {ops:Array Oper} {bad:Nat->List Nat} {i j:Nat} {o o':Oper}
theorem q73 (h:FreeN ops i j o o') (st:St) (v:V):stoV P (bad i) o (st.does o'.dst v none)=stoV P (bad i) o st:=by
 have hv:∀ y,y∈o.op.operands.toList->(st.does o'.dst v none).val y=st.val y:=q2P _ (fun t ht=>(does_env (h.rj t (by simp[readsOf,ht]))).1)
 have hh:(st.does o'.dst v none).heap=st.heap:=by cases o'.dst<;>rfl
 obtain⟨a,s,x,e⟩:=h.st
 unfold stoV
 rw[q5e hv,hh]
 rw[e] at hv ⊢
 simp only
 rw[hv (.tmp s) (by simp[Op.operands]),hv x (by simp[Op.operands])]
theorem q7a (st:St) (b:Nat) (k:Blk) (d:Option Nat) (v:V):(st.wr b k).does d v none=(st.does d v none).wr b k:=by cases d<;>rfl
theorem swapN (h:FreeN ops i j o o') {K:St->Prop} {st:St} (hw:stepW P N ad ops bad i (stepW P N ad ops bad j K) st):stepW P N ad ops bad j (stepW P N ad ops bad i K) st:=by
 have qj:∀ x,ops.toList[j]?=some x->qOk (bad j) x.op=true:=by intro x hx;rw[h.hj] at hx;cases hx;simp[qOk,q6r h.nj]
 rw[stepW_sto h.hi h.gi h.di h.st] at hw
 obtain⟨b,k,hs,hw⟩:=hw
 rw[q09 qj,(sdeed_noMem h.hj h.nj st b k).1] at hw
 rw[q09 qj]
 cases hd:sdeed P N ad ops bad j st with
 | none=>rw[hd] at hw;exact hw.elim
 | some x=>
  rw[hd] at hw
  obtain⟨c,v,rfl⟩:=(sdeed_noMem h.hj h.nj st b k).2 x hd
  refine⟨hw.1,(stepW_sto h.hi h.gi h.di h.st _ _).2 ⟨b,k,by rw[q73 h];exact hs,?_⟩⟩
  rw[<-q7a];exact hw.2
theorem swapN' (h:FreeN ops i j o o') {K:St->Prop} {st:St} (hw:stepW P N ad ops bad j (stepW P N ad ops bad i K) st):stepW P N ad ops bad i (stepW P N ad ops bad j K) st:=by
 have qj:∀ x,ops.toList[j]?=some x->qOk (bad j) x.op=true:=by intro x hx;rw[h.hj] at hx;cases hx;simp[qOk,q6r h.nj]
 rw[q09 qj] at hw
 cases hd:sdeed P N ad ops bad j st with
 | none=>rw[hd] at hw;exact hw.elim
 | some x=>
  rw[hd] at hw
  obtain⟨c,v,rfl⟩:=(sdeed_noMem h.hj h.nj st 0 (.box .unit ())).2 x hd
  obtain⟨hc,hw⟩:=hw
  rw[stepW_sto h.hi h.gi h.di h.st] at hw
  obtain⟨b,k,hs,hw⟩:=hw
  rw[q73 h] at hs
  refine (stepW_sto h.hi h.gi h.di h.st _ _).2 ⟨b,k,hs,?_⟩
  rw[q09 qj,(sdeed_noMem h.hj h.nj st b k).1,hd]
  refine⟨hc,?_⟩
  rw[q7a];exact hw
end
def St.ap (st:St) (s d:Nat) (k:Option Blk) (v:V):St:=⟨upd st.env d (some v),upd (upd st.heap s none) d k,upd st.used d true⟩
def apV (P:Program) (N:Nat) (ow:Bool) (bad:List Nat) (o:Oper) (s d:Nat) (st:St):Option (Prop×V×Option Blk):=
 bif okOp bad st.val o.op && Nat.blt d N then match o.op with
  | .call ⟨.builtin .append,args,ts⟩=>match args.toList,ts.toList with
   | [_,x],[t,t1]=>match st.val (.tmp s) with
    | some vs=>match st.val x with
     | some vx=>match q0T P st.heap t t1 vs vx with
      | some (_,c,k)=>bif st.used d then none else bif ow then match k with
       | .arr u l=>some (c,⟨.sl u,l⟩,none)
       | _=>none
       else some (c,⟨.own d,()⟩,some k)
      | none=>none
     | none=>none
    | none=>none
   | _,_=>none
  | _=>none
 else none
structure FreeA (ops:Array Oper) (bad:Nat->List Nat) (i j:Nat) (o o':Oper) (s d:Nat):Prop where
 hi:ops.toList[i]?=some o
 hj:ops.toList[j]?=some o'
 gi:o.guard=none
 di:o.dst=some d
 st:∃ args ts l,o.op=.call ⟨.builtin .append,args,ts⟩/\args.toList=.tmp s :: l
 mi:memN 4294967297 (bad i)=true
 qj:quiet o'.op=true
 cj:isCall o'.op=false
 ri:∀ t,t∈readsOf ops o->o'.dst≠some t
 rj:∀ t,t∈readsOf ops o'->o.dst≠some t
 dd:o'.dst≠some d
 bi:∀ x,o'.dst=some x->memN x (bad i)=true
 bj:memN d (bad j)=true
 sj:memN s (bad j)=true
 sj2:memN (s+500000) (bad j)=true
 dx:o'.dst≠some (s+500000)
def ownB (st:St) (s:Nat):Nat:=match st.env s with
 | some ⟨.own b,_⟩=>b
 | _=>s
theorem q8L {P:Program} {hp:Nat->Option Blk} {t t1:TypeId} {s:Nat} {u:den (.own s)} {x:V} {b:Option Nat} {c:Prop} {k:Blk} (h:q0T P hp t t1 ⟨.own s,u⟩ x=some (b,c,k)):b=some s:=by
 simp only[q0T] at h
 split at h<;>try (simp at h;done)
 split at h
 . split at h<;>try (simp at h;done)
   split at h<;>try (simp at h;done)
   simp only[Option.some.injEq,Prod.mk.injEq] at h
   exact h.1.symm
 . split at h<;>try (simp at h;done)
   obtain⟨_,h⟩:=q5Q h
   split at h<;>try (simp at h;done)
   simp only[Option.some.injEq,Prod.mk.injEq] at h
   exact h.1.symm
theorem q8K {P:Program} {hp hp':Nat->Option Blk} {t t1:TypeId} {s:Nat} {u:den (.own s)} {x:V} (hs:hp s=hp' s) (h:∀ b,b∈ids x.t->hp b=hp' b):q0T P hp t t1 ⟨.own s,u⟩ x=q0T P hp' t t1 ⟨.own s,u⟩ x:=by
 have e:∀ z,srcV P hp z t1 x=srcV P hp' z t1 x:=by
  intro z
  unfold srcV
  rw[q4R _ _ _ h]
 simp only[q0T,e,hs]
section
variable {P:Program} {N:Nat} {ad:Nat->Bool} {ops:Array Oper} {bad:Nat->List Nat} {i j:Nat} {o o':Oper} {s d:Nat}
theorem upd_upd {α:Type} (f:Nat->α) (a:Nat) (x y:α):upd (upd f a x) a y=upd f a y:=by
 funext m
 by_cases e:m=a
 . subst e;rw[upd_same,upd_same]
 . rw[upd_other _ _ _ _ e,upd_other _ _ _ _ e,upd_other _ _ _ _ e]
theorem FreeA.own (h:FreeA ops bad i j o o' s d) {st:St} (hok:okOp (bad i) st.val o.op=true):∃ b u,(b=s∨b=s+500000)/\st.env s=some ⟨.own b,u⟩/\ownB st s=b:=by
 obtain⟨args,ts,l,e1,e2⟩:=h.st
 rw[e1] at hok
 simp only[okOp,Bool.and_eq_true,okAp,h.mi,cond_true,e2] at hok
 have h3:=hok.2.2.2
 simp only[ownS,St.val] at h3
 cases hv:st.env s with
 | none=>rw[hv] at h3;cases h3
 | some v=>
  rw[hv] at h3
  obtain⟨t,x⟩:=v
  cases t<;>simp at h3
  rename_i m
  exact⟨m,x,h3,rfl,by simp only[ownB,hv]⟩
theorem stepW_app (h:FreeA ops bad i j o o' s d) (K:St->Prop) (st:St):
 stepW P N ad ops bad i K st↔∃ c v k,apV P N (ad i) (bad i) o s d st=some (c,v,k)/\c/\K (st.ap (ownB st s) d k v):=by
 have hown:okOp (bad i) st.val o.op=true->_:=h.own (st:=st)
 obtain⟨args,ts,l,hop,hargs⟩:=h.st
 have hg:=h.gi
 have hd:=h.di
 have hi:=h.hi
 obtain⟨dst,op,ty,pos,aft,grd⟩:=o
 simp only at hg hd hop;subst hg hd hop
 unfold stepW apV
 simp only[regW]
 rw[hi]
 simp only
 cases hok:okOp (bad i) st.val (Op.call ⟨.builtin .append,args,ts⟩) with
 | false=>simp
 | true=>
  obtain⟨bb,u,hbb,hsv,hob⟩:=hown hok
  rw[hob]
  simp only[cond_true,opW,Bool.true_and]
  cases Nat.blt d N with
  | false=>simp
  | true=>
   simp only[cond_true,hargs]
   have hval:st.val (.tmp s)=some ⟨.own bb,u⟩:=hsv
   cases l with
   | nil=>simp
   | cons x l=>cases l with
    | cons y l=>simp
    | nil=>
     cases htl:ts.toList with
     | nil=>simp
     | cons t tl=>cases tl with
      | nil=>simp
      | cons t1 tl=>cases tl with
       | cons t2 tl=>simp
       | nil=>
        simp only[hval,q1e,cond_false]
        cases st.val x with
        | none=>simp
        | some vx=>
         simp only
         cases happ:q0T P st.heap t t1 ⟨.own bb,u⟩ vx with
         | none=>simp
         | some p=>
          obtain⟨b,c,k⟩:=p
          have hb:=q8L happ
          subst hb
          simp only
          cases st.used d with
          | true=>simp
          | false=>
           simp only[cond_false]
           cases ad i with
           | false=>
            simp only[cond_false]
            constructor
            . intro hh;exact⟨_,_,_,rfl,hh.1,hh.2⟩
            . rintro⟨c',v',k',e,h1,h2⟩;cases e;exact⟨h1,h2⟩
           | true=>
            simp only[cond_true]
            cases k with
            | arr u l=>
             simp only
             have e:(((st.killO (some bb)).new d (.arr u l)).kill d).put d (some ⟨.sl u,l⟩)=st.ap bb d none ⟨.sl u,l⟩:=by
              simp only[St.killO,St.kill,St.new,St.put,St.ap,upd_upd]
             rw[e]
             constructor
             . intro hh;exact⟨_,_,_,rfl,hh.1,hh.2⟩
             . rintro⟨c',v',k',e,h1,h2⟩;cases e;exact⟨h1,h2⟩
            | box _ _=>simp
            | pool _ _ _=>simp
theorem ap_does (h:FreeA ops bad i j o o' s d) {b:Nat} (hb:b=s∨b=s+500000) (st:St) (k kk:Option Blk) (v vv:V):(st.does o'.dst v k).ap b d kk vv=(st.ap b d kk vv).does o'.dst v k:=by
 have hs0:o'.dst≠some s:=h.ri s (by
  obtain⟨args,ts,l,e1,e2⟩:=h.st
  simp[readsOf,e1,Op.operands,Call.operands,e2,q0M])
 have hs:o'.dst≠some b:=by
  rcases hb with rfl | rfl
  . exact hs0
  . exact h.dx
 have hd:=h.dd
 cases e:o'.dst with
 | none=>rfl
 | some x=>
  rw[e] at hs hd
  have h1:x≠b:=fun e=>hs (by rw[e])
  have h2:x≠d:=fun e=>hd (by rw[e])
  cases k with
  | none=>simp only[St.does,St.put,St.ap,q1n _ _ _ h2]
  | some k=>
   simp only[St.does,St.put,St.new,St.ap]
   rw[q1n st.env _ _ h2,q1n st.heap _ _ h1,q1n _ _ _ h2,q1n st.used _ _ h2]
theorem q6w (h:FreeA ops bad i j o o' s d) (st:St) (v:V) (k:Option Blk):ownB (st.does o'.dst v k) s=ownB st s:=by
 have hs:o'.dst≠some s:=h.ri s (by
  obtain⟨args,ts,l,e1,e2⟩:=h.st
  simp[readsOf,e1,Op.operands,Call.operands,e2,q0M])
 simp only[ownB,(does_env hs).1]
theorem apV_own (h:FreeA ops bad i j o o' s d) {ow:Bool} {st:St} {x:Prop×V×Option Blk} (e:apV P N ow (bad i) o s d st=some x):ownB st s=s∨ownB st s=s+500000:=by
 unfold apV at e
 cases hk:okOp (bad i) st.val o.op with
 | false=>rw[hk] at e;cases e
 | true=>
  obtain⟨b,u,hb,_,ho⟩:=h.own hk
  rw[ho];exact hb
theorem q5K (h:FreeA ops bad i j o o' s d) (ow:Bool) (st:St) (v:V) (k:Option Blk):apV P N ow (bad i) o s d (st.does o'.dst v k)=apV P N ow (bad i) o s d st:=by
 have hv:∀ y,y∈o.op.operands.toList->(st.does o'.dst v k).val y=st.val y:=q2P _ (fun t ht=>(does_env (h.ri t (by simp[readsOf,ht]))).1)
 have hok:=q5e (bad:=bad i) hv
 have hu:(st.does o'.dst v k).used d=st.used d:=(does_env h.dd).2.2
 unfold apV
 rw[hok]
 cases hk:okOp (bad i) st.val o.op with
 | false=>rfl
 | true=>
  obtain⟨bb,u,hbb,hsv,_⟩:=h.own hk
  have hids:=okOp_ids hk
  obtain⟨args,ts,l,e1,e2⟩:=h.st
  have hmem:∀ y,y∈args.toList->y∈o.op.operands.toList:=by
   intro y hy;rw[e1];simpa[Op.operands,Call.operands] using hy
  have hsm:(.tmp s:Operand)∈o.op.operands.toList:=hmem _ (by rw[e2];simp)
  have hs1:=hv _ hsm
  have hs2:st.val (.tmp s)=some ⟨.own bb,u⟩:=hsv
  have hheap:∀ b,memN b (bad i)=false->(st.does o'.dst v k).heap b=st.heap b:=fun b hb=>(does_env (fun e=>by have:=h.bi b e;rw[hb] at this;cases this)).2.1
  have hheaps:(st.does o'.dst v k).heap bb=st.heap bb:=hheap bb (okIds_mem _ hids _ hsm _ hs2 bb (by simp[ids]))
  rw[hu]
  simp only[e1,e2,hs1,hs2]
  cases l with
  | nil=>rfl
  | cons x l=>cases l with
   | cons y l=>rfl
   | nil=>
    have hxm:=hmem x (by rw[e2];simp)
    cases ts.toList with
    | nil=>rfl
    | cons t tl=>cases tl with
     | nil=>rfl
     | cons t1 tl=>cases tl with
      | cons t2 tl=>rfl
      | nil=>
       simp only[hv x hxm]
       cases hx:st.val x with
       | none=>rfl
       | some vx=>
        simp only
        rw[q8K (t:=t) (t1:=t1) (u:=u) hheaps fun b hb=>hheap b (okIds_mem _ hids x hxm vx hx b hb)]
theorem q6V (h:FreeA ops bad i j o o' s d) {bb:Nat} (hbb:bb=s∨bb=s+500000) (st:St) (k:Option Blk) (v:V):sdeed P N ad ops bad j (st.ap bb d k v)=sdeed P N ad ops bad j st:=by
 have hne:∀ t,t∈readsOf ops o'->t≠d:=fun t ht e=>h.rj t ht (by rw[h.di,e])
 refine (sdeed_congr h.hj (fun t ht=>?_) (fun b hb=>?_) fun x hx=>?_).symm
 . exact (upd_other _ _ _ _ (hne t ht)).symm
 . have h1:b≠d:=by rintro rfl;rw[h.bj] at hb;cases hb
   have h2:b≠bb:=by
    rintro rfl
    rcases hbb with e | e
    . rw[e,h.sj] at hb;cases hb
    . rw[e,h.sj2] at hb;cases hb
   exact ((upd_other _ _ _ _ h1).trans (upd_other _ _ _ _ h2)).symm
 . exact (upd_other _ _ _ _ (fun e=>h.dd (by rw[hx,e]))).symm
theorem q6W (h:FreeA ops bad i j o o' s d) {st:St} {x:Deed} (hx:sdeed P N ad ops bad j st=some x):∃ c v k,x=.put c o'.dst v k:=by
 have hd:=q2K h.hj hx
 cases x with
 | put c d v k=>simp only[Deed.of] at hd;subst hd;exact⟨_,_,_,rfl⟩
 | call c d=>have:=hd.2;rw[h.cj] at this;cases this
theorem swapA (h:FreeA ops bad i j o o' s d) {K:St->Prop} {st:St} (hw:stepW P N ad ops bad i (stepW P N ad ops bad j K) st):stepW P N ad ops bad j (stepW P N ad ops bad i K) st:=by
 have qj:∀ x,ops.toList[j]?=some x->qOk (bad j) x.op=true:=by intro x hx;rw[h.hj] at hx;cases hx;simp[qOk,h.qj]
 rw[stepW_app h] at hw
 obtain⟨c,v,k,hs,hc,hw⟩:=hw
 have ho:=apV_own h hs
 rw[q09 qj,q6V h ho] at hw
 rw[q09 qj]
 cases hd:sdeed P N ad ops bad j st with
 | none=>rw[hd] at hw;exact hw.elim
 | some x=>
  rw[hd] at hw
  obtain⟨c',v',k',rfl⟩:=q6W h hd
  exact⟨hw.1,(stepW_app h _ _).2 ⟨c,v,k,by rw[q5K h];exact hs,hc,by rw[q6w h,ap_does h ho];exact hw.2⟩⟩
theorem swapA' (h:FreeA ops bad i j o o' s d) {K:St->Prop} {st:St} (hw:stepW P N ad ops bad j (stepW P N ad ops bad i K) st):stepW P N ad ops bad i (stepW P N ad ops bad j K) st:=by
 have qj:∀ x,ops.toList[j]?=some x->qOk (bad j) x.op=true:=by intro x hx;rw[h.hj] at hx;cases hx;simp[qOk,h.qj]
 rw[q09 qj] at hw
 cases hd:sdeed P N ad ops bad j st with
 | none=>rw[hd] at hw;exact hw.elim
 | some x=>
  rw[hd] at hw
  obtain⟨c',v',k',rfl⟩:=q6W h hd
  obtain⟨hc',hw⟩:=hw
  rw[stepW_app h] at hw
  obtain⟨c,v,k,hs,hc,hw⟩:=hw
  rw[q5K h] at hs
  have ho:=apV_own h hs
  refine (stepW_app h _ _).2 ⟨c,v,k,hs,hc,?_⟩
  rw[q09 qj,q6V h ho,hd]
  rw[q6w h] at hw
  exact⟨hc',by rw[<-ap_does h ho];exact hw⟩
end
theorem bif_mono {b:Bool} {A B A' B':Prop} (h1:A->A') (h2:B->B'):(bif b then A else B)->(bif b then A' else B'):=by
 cases b
 . exact h2
 . exact h1
theorem opW_mono {P:Program} {N:Nat} {ow:Bool} {o:Oper} {K K':St->Prop} (h:∀ st,K st->K' st) {st:St}:opW P N ow o K st->opW P N ow o K' st:=by
 obtain⟨dst,op,ty,pos,aft,grd⟩:=o
 unfold opW
 cases dst with
 | none=>
  simp only
  repeat' split
  all_goals first
   | exact id
   | exact h _
 | some d=>
  simp only
  repeat' first
   | exact id
   | exact h _
   | exact fun hw=>⟨hw.1,h _ hw.2⟩
   | exact fun hw=>callV.mono hw fun r hr=>h _ hr
   | exact fun hw=>ownV.mono hw fun r hr=>h _ hr
   | exact fun hw=>ownA.mono hw fun x r hr=>h _ hr
   | refine bif_mono ?_ ?_
   | split
theorem q9t {P:Program} {N:Nat} {ad:Nat->Bool} {ops:Array Oper} {bad:Nat->List Nat} {i:Nat} {K K':St->Prop} (h:∀ st,K st->K' st) {st:St}:stepW P N ad ops bad i K st->stepW P N ad ops bad i K' st:=by
 unfold stepW
 simp only[regW]
 split
 . exact h _
 . rename_i o _
   cases okOp (bad i) st.val o.op with
   | false=>exact id
   | true=>
    simp only[cond_true]
    have hop:∀ st,opW P N (ad i) o K st->opW P N (ad i) o K' st:=fun st=>opW_mono h
    repeat' split
    all_goals first
     | exact id
     | exact hop _
     | exact h _
     | (rename_i b _;cases b<;>rename_i want _ _ _ _ _ _<;>simp only[brV]<;>cases want<;>first | exact hop _ | exact h _)
end Go.VM
namespace Go.VM
open Go Go.RowKit
def q1a (o:Oper):List Nat:=(o.after.toList.filter fun e=>Region.binds .any e).map (·.on)
def edges (ops:Array Oper) (i:Nat):List Nat:=
 match ops.toList[i]? with
 | some o=>q1a o
 | none=>[]
def rowsOf:List (List Nat)->List Nat->List Nat
 | [],acc=>acc
 | es :: r,acc=>rowsOf r (acc ++ [es.foldl (fun s e=>s ||| (2 ^ e ||| acc.getD e 0)) 0])
def rowsA (ops:Array Oper):List Nat:=rowsOf (ops.toList.map q1a) []
def rowBit (rows:List Nat) (i j:Nat):Bool:=(rows.getD i 0).testBit j
theorem fold_bit (f:Nat->Nat) (j:Nat):∀ (es:List Nat) (s:Nat),(es.foldl (fun s e=>s ||| (2 ^ e ||| f e)) s).testBit j=true->s.testBit j=true∨∃ e,e∈es/\(j=e∨(f e).testBit j=true)
 | [],s,h=>.inl h
 | e :: es,s,h=>by
  simp only[List.foldl_cons] at h
  rcases fold_bit f j es _ h with h | ⟨e',h1,h2⟩
  . simp only[Nat.testBit_or,Bool.or_eq_true] at h
    rcases h with h | h | h
    . exact .inl h
    . rw[Nat.testBit_two_pow] at h
      exact .inr ⟨e,by simp,.inl (by simpa using (of_decide_eq_true h).symm)⟩
    . exact .inr ⟨e,by simp,.inr h⟩
  . exact .inr ⟨e',by simp[h1],h2⟩
theorem q5p:∀ (es:List (List Nat)) (acc:List Nat) (i:Nat),i<acc.length->(rowsOf es acc).getD i 0=acc.getD i 0
 | [],acc,i,_=>rfl
 | e :: es,acc,i,h=>by
  simp only[rowsOf]
  rw[q5p es _ i (by simp;omega)]
  simp[List.getD,List.getElem?_append_left h]
theorem q6N:∀ (es:List (List Nat)) (acc:List Nat) (i j:Nat),(∀ k,k<es.length->∀ e,e∈es.getD k []->e<acc.length+k)->i<es.length->((rowsOf es acc).getD (acc.length+i) 0).testBit j=true->
 ∃ e,e∈es.getD i []/\(j=e∨((rowsOf es acc).getD e 0).testBit j=true)
 | [],_,i,_,_,hi,_=>by simp at hi
 | e0 :: es,acc,0,j,hlt,_,h=>by
  simp only[rowsOf] at h ⊢
  rw[q5p _ _ _ (by simp)] at h
  have hg:(acc ++ [e0.foldl (fun s e=>s ||| (2 ^ e ||| acc.getD e 0)) 0]).getD (acc.length+0) 0=e0.foldl (fun s e=>s ||| (2 ^ e ||| acc.getD e 0)) 0:=by
   simp[List.getD]
  rw[hg] at h
  rcases fold_bit (fun e=>acc.getD e 0) j e0 0 h with h | ⟨e,h1,h2⟩
  . simp at h
  . have he:=hlt 0 (by simp) e (by simpa using h1)
    refine⟨e,by simpa using h1,h2.imp id fun h2=>?_⟩
    rw[q5p _ _ _ (by simp;omega)]
    simpa[List.getD,List.getElem?_append_left (show e<acc.length by omega)] using h2
 | e0 :: es,acc,i+1,j,hlt,hi,h=>by
  simp only[rowsOf] at h ⊢
  have:=q6N es (acc ++ [e0.foldl (fun s e=>s ||| (2 ^ e ||| acc.getD e 0)) 0]) i j
   (fun k hk e he=>by have:=hlt (k+1) (by simp;omega) e (by simpa using he);simp;omega) (by simpa using hi) (by simpa[Nat.add_assoc,Nat.add_comm 1 i] using h)
  simpa using this
def VF (E:Nat->List Nat):List Nat->List Nat->Prop
 | _,[]=>True
 | C,x :: l=>(∀ e,e∈E x->e∈C)/\VF E (x :: C) l
theorem VF_mono {E:Nat->List Nat}:∀ (l C C':List Nat),(∀ e,e∈C->e∈C')->VF E C l->VF E C' l
 | [],_,_,_,_=>trivial
 | x :: l,C,C',h,hv=>⟨fun e he=>h e (hv.1 e he),VF_mono l _ _ (fun e he=>by
  rcases List.mem_cons.1 he with rfl | he
  . simp
  . exact List.mem_cons_of_mem _ (h e he)) hv.2⟩
theorem VF_move {E:Nat->List Nat} {x:Nat} {B:List Nat}:∀ (A C:List Nat),(∀ e,e∈E x->e∈C)->VF E C (A ++ x :: B)->VF E (x :: C) (A ++ B)
 | [],_,_,hv=>hv.2
 | a :: A,C,hx,hv=>by
  refine⟨fun e he=>List.mem_cons_of_mem _ (hv.1 e he),?_⟩
  have:=VF_move A (a :: C) (fun e he=>List.mem_cons_of_mem _ (hx e he)) hv.2
  exact VF_mono _ _ _ (fun e he=>by simp at he ⊢;rcases he with h | h | h<;>simp[h]) this
theorem VF_at {E:Nat->List Nat} {i:Nat} {B:List Nat}:∀ (A C:List Nat),VF E C (A ++ i :: B)->∀ e,e∈E i->e∈C∨e∈A
 | [],C,hv,e,he=>.inl (hv.1 e he)
 | a :: A,C,hv,e,he=>by
  rcases VF_at A (a :: C) hv.2 e he with h | h
  . rcases List.mem_cons.1 h with rfl | h
    . exact .inr (by simp)
    . exact .inl h
  . exact .inr (by simp[h])
section
variable {ops:Array Oper}
def q19 (ops:Array Oper):Bool:=(List.range ops.size).all fun i=>(edges ops i).all fun e=>Nat.blt e i
theorem row_step (hd:q19 ops=true) {i j:Nat} (h:rowBit (rowsA ops) i j=true):∃ e,e∈edges ops i/\e<i/\(j=e∨rowBit (rowsA ops) e j=true):=by
 have hlt:∀ k,k<(ops.toList.map q1a).length->∀ e,e∈(ops.toList.map q1a).getD k []->e<k:=by
  intro k hk e he
  simp only[List.length_map,Array.length_toList] at hk
  have h1:=List.all_eq_true.1 hd k (by simpa using hk)
  have h2:=List.all_eq_true.1 h1 e (by
   unfold edges
   simp only[List.getD,List.getElem?_map] at he
   cases ho:ops.toList[k]? with
   | none=>rw[ho] at he;simp at he
   | some o=>rw[ho] at he;simpa using he)
  exact Nat.le_of_ble_eq_true h2
 rcases Nat.lt_or_ge i (ops.toList.map q1a).length with hi | hi
 . have:=q6N (ops.toList.map q1a) [] i j (fun k hk e he=>by have:=hlt k hk e he;simpa using this) hi (by simpa[rowBit,rowsA] using h)
   obtain⟨e,he,hj⟩:=this
   have he':=hlt i hi e he
   refine⟨e,?_,he',hj⟩
   unfold edges
   simp only[List.getD,List.getElem?_map] at he
   cases ho:ops.toList[i]? with
   | none=>rw[ho] at he;simp at he
   | some o=>rw[ho] at he;simpa using he
 . exfalso
   have hlen:∀ (es:List (List Nat)) (acc:List Nat),(rowsOf es acc).length=acc.length+es.length:=by
    intro es
    induction es with
    | nil=>intro acc;rfl
    | cons e es ih=>intro acc;simp only[rowsOf,ih];simp;omega
   have:(rowsA ops).getD i 0=0:=by
    rw[List.getD,List.getElem?_eq_none (by rw[rowsA,hlen];simpa using hi)];rfl
   unfold rowBit at h;rw[this] at h;simp at h
theorem prec (hd:q19 ops=true) {C l:List Nat} (hC:∀ e,e∈C->∀ j,rowBit (rowsA ops) e j=true->j∈C) (hv:VF (edges ops) C l):
 ∀ (i:Nat) (A B:List Nat),l=A ++ i :: B->∀ j,rowBit (rowsA ops) i j=true->j∈C∨j∈A:=by
 intro i
 induction i using Nat.strongRecOn with
 | _ i ih=>
  intro A B hl j hj
  obtain⟨e,he,hlt,hje⟩:=row_step hd hj
  rcases VF_at A C (hl ▸ hv) e he with h | h
  . left
    rcases hje with rfl | hje
    . exact h
    . exact hC e h j hje
  . rcases hje with rfl | hje
    . exact .inr h
    . obtain⟨A1,A2,rfl⟩:=List.append_of_mem h
      rcases ih e hlt A1 (A2 ++ i :: B) (by simp[hl]) j hje with h | h
      . exact .inl h
      . exact .inr (by simp[h])
def baseOf (o:Oper):Option Nat:=
 match o.op with
 | .call ⟨.builtin .append,args,_⟩=>match args.toList with
  | .tmp s :: _=>some s
  | _=>none
 | _=>none
def isMv:Op->Bool
 | .move (.tmp _)=>true
 | _=>false
def isBld:Op->Bool
 | .buildSlice _ _ _=>true
 | _=>false
def moreApp (ops:Array Oper) (o:Oper):Bool:=ops.toList.any fun q=>match baseOf q,o.dst with
 | some b,some d=>Nat.beq b d
 | _,_=>false
def ownArg (ops:Array Oper) (o:Oper):Option Nat:=
 match o.op with
 | .call ⟨.builtin .append,args,_⟩=>match args.toList with
  | .tmp s :: _=>bif ops.toList.any (fun p=>(match p.dst with
   | some d=>Nat.beq d s
   | none=>false) && (isCall p.op || isApp p.op || isMv p.op || (isBld p.op && moreApp ops o))) then some s else none
  | _=>none
 | _=>none
def q2E (ops:Array Oper) (o:Oper):Bool:=quiet o.op || (isApp o.op && (ownArg ops o).isNone)
def appQ (ops:Array Oper) (o o':Oper):Bool:=
 (match o'.dst with
  | some d=>Nat.blt d 500000
  | none=>true) && (ownArg ops o).isSome && o.guard.isNone && quiet o'.op && !isCall o'.op && (match o'.dst with
  | some d=>!memN d (readsOf ops o)
  | none=>true) && (match o.dst with
  | some d=>!memN d (readsOf ops o') && (match o'.dst with
   | some d'=>!Nat.beq d' d
   | none=>true)
  | none=>false)
def freeOk (ops:Array Oper) (o o':Oper):Bool:=
 q2E ops o && q2E ops o' && !(isCall o.op && isCall o'.op) && (match o'.dst with
  | some d=>!memN d (readsOf ops o)
  | none=>true) && (match o.dst with
  | some d=>!memN d (readsOf ops o')
  | none=>true) && (match o.dst,o'.dst with
  | some d,some d'=>!Nat.beq d d'
  | _,_=>true)
def isSt (o:Oper):Bool:=
 match o.op,o.guard,o.dst with
 | .store _ (.tmp _) _,none,none=>true
 | _,_,_=>false
def storesOk (o o':Oper):Bool:=isSt o && isSt o' && (match o.op,o'.op with
 | .store _ (.tmp t) _,.store _ (.tmp t') _=>!Nat.beq t t'
 | _,_=>false)
def q2Y (o:Oper):Option Nat:=
 match o.op with
 | .store _ (.tmp s) _=>some s
 | _=>none
def storeQ (ops:Array Oper) (o o':Oper):Bool:=isSt o && q2E ops o' && (match o'.dst with
 | some d=>!memN d (readsOf ops o)
 | none=>true)
def pairOk (ops:Array Oper) (rows:List Nat) (i j:Nat):Bool:=
 Nat.beq i j || rowBit rows i j || rowBit rows j i || (match ops.toList[i]?,ops.toList[j]? with
  | some o,some o'=>freeOk ops o o' || storesOk o o' || storeQ ops o o' || storeQ ops o' o || appQ ops o o' || appQ ops o' o
  | _,_=>false)
def q4T (ops:Array Oper) (rows:List Nat):Bool:=q19 ops && (List.range ops.size).all fun i=>(List.range ops.size).all fun j=>Nat.ble j i || pairOk ops rows i j
def drawOk (ops:Array Oper):Bool:=q4T ops (rowsA ops)
def q3x (ops:Array Oper) (i:Nat):Bool:=
 match ops.toList[i]? with
 | some o=>isSt o
 | none=>false
def q5b (ops:Array Oper) (i:Nat):Bool:=
 match ops.toList[i]? with
 | some o=>noMem o.op
 | none=>false
def lonely (ops:Array Oper) (rows:List Nat) (i:Nat):Bool:=
 q3x ops i && (List.range ops.size).any fun j=>!Nat.beq i j && !rowBit rows i j && !rowBit rows j i && !q5b ops j
def isAppAt (ops:Array Oper) (i:Nat):Bool:=
 match ops.toList[i]? with
 | some o=>isApp o.op && (ownArg ops o).isNone
 | none=>false
def ownArgAt (ops:Array Oper) (i:Nat):Option Nat:=
 match ops.toList[i]? with
 | some o=>ownArg ops o
 | none=>none
def q59 (ops:Array Oper) (rows:List Nat) (i:Nat):Bool:=
 (ownArgAt ops i).isSome && (List.range ops.size).any fun j=>!Nat.beq i j && !rowBit rows i j && !rowBit rows j i
def q58 (ops:Array Oper) (rows:List Nat) (i:Nat):Bool:=
 isAppAt ops i && (List.range ops.size).any fun j=>!Nat.beq i j && !rowBit rows i j && !rowBit rows j i
def badW (ops:Array Oper) (rows:List Nat) (i:Nat):List Nat:=
 ((List.range ops.size).filterMap fun j=>bif rowBit rows i j then none else dstOf ops j) ++ ((bif lonely ops rows i then [4294967295] else []) ++ ((bif q58 ops rows i then [4294967296] else []) ++ (bif q59 ops rows i then [4294967297] else []))) ++
  (((List.range ops.size).filterMap fun j=>bif q3x ops j && !Nat.beq i j && !rowBit rows i j && !rowBit rows j i then (match ops.toList[j]? with
    | some o=>q2Y o
    | none=>none) else none) ++
  (((List.range ops.size).filterMap fun j=>bif !Nat.beq i j && !rowBit rows i j && !rowBit rows j i then ownArgAt ops j else none) ++
  (List.range ops.size).filterMap fun j=>bif !Nat.beq i j && !rowBit rows i j && !rowBit rows j i then (ownArgAt ops j).map (· + 500000) else none))
def badOf (ops:Array Oper) (i:Nat):List Nat:=badW ops (rowsA ops) i
theorem memN_ok {n:Nat}:∀ {l:List Nat},memN n l=true↔n∈l
 | []=>by simp[memN]
 | m :: l=>by simp[memN,memN_ok (l:=l),Nat.beq_eq]
theorem freeOk_symm {o o':Oper} (h:freeOk ops o o'=true):freeOk ops o' o=true:=by
 unfold freeOk at *
 simp only[Bool.and_eq_true,Bool.not_eq_true',Bool.and_eq_false_iff] at *
 obtain⟨⟨⟨⟨⟨h1,h2⟩,h3⟩,h4⟩,h5⟩,h6⟩:=h
 refine⟨⟨⟨⟨⟨h2,h1⟩,h3.symm⟩,h5⟩,h4⟩,?_⟩
 cases e1:o.dst<;>cases e2:o'.dst<;>simp_all
 rename_i a b
 cases e:Nat.beq b a
 . rfl
 . rw[Nat.beq_eq] at e;subst e;simp at h6
theorem q31 {i j d:Nat} (hj:j<ops.size) (hr:rowBit (rowsA ops) i j=false) (hd:dstOf ops j=some d):memN d (badOf ops i)=true:=by
 rw[memN_ok]
 simp only[badOf,badW,List.mem_append,List.mem_filterMap,List.mem_range]
 exact .inl (.inl ⟨j,hj,by rw[hr];exact hd⟩)
theorem bad_st {i j:Nat} {o o':Oper} (hi:ops.toList[i]?=some o) (hj:ops.toList[j]?=some o') (hij:i≠j) (h1:rowBit (rowsA ops) i j=false) (h2:rowBit (rowsA ops) j i=false) (ho:isSt o=true) (hm:noMem o'.op=false):
 memN 4294967295 (badOf ops i)=true:=by
 rw[memN_ok]
 simp only[badOf,badW,List.mem_append]
 left;right;left
 have hl:lonely ops (rowsA ops) i=true:=by
  simp only[lonely,q3x,hi,ho,Bool.true_and,List.any_eq_true,List.mem_range]
  refine⟨j,?_,?_⟩
  . rcases Nat.lt_or_ge j ops.toList.length with h | h
    . simpa using h
    . rw[List.getElem?_eq_none h] at hj;simp at hj
  . have hb:Nat.beq i j=false:=by cases e:Nat.beq i j;rfl;rw[Nat.beq_eq] at e;exact absurd e hij
    have hn:q5b ops j=false:=by simp[q5b,hj,hm]
    simp[hb,h1,h2,hn]
 rw[hl];simp
theorem q41 {i j:Nat} {o:Oper} (hi:ops.toList[i]?=some o) (hj:j<ops.size) (hij:i≠j) (h1:rowBit (rowsA ops) i j=false) (h2:rowBit (rowsA ops) j i=false) (ho:q2E ops o=true):
 qOk (badOf ops i) o.op=true:=by
 simp only[q2E,Bool.or_eq_true,Bool.and_eq_true] at ho
 simp only[qOk,Bool.or_eq_true,Bool.and_eq_true]
 rcases ho with ho | ho
 . exact .inl ho
 refine .inr ⟨ho.1,?_⟩
 rw[memN_ok]
 simp only[badOf,badW,List.mem_append]
 left;right;right;left
 have hl:q58 ops (rowsA ops) i=true:=by
  simp only[q58,isAppAt,hi,ho.1,ho.2,Bool.true_and,List.any_eq_true,List.mem_range]
  refine⟨j,hj,?_⟩
  have hb:Nat.beq i j=false:=by cases e:Nat.beq i j;rfl;rw[Nat.beq_eq] at e;exact absurd e hij
  simp[hb,h1,h2]
 rw[hl];simp
theorem bad_addr {i j:Nat} {o o':Oper} {s:Nat} (hi:ops.toList[i]?=some o) (hj:ops.toList[j]?=some o') (hij:i≠j) (h1:rowBit (rowsA ops) i j=false) (h2:rowBit (rowsA ops) j i=false) (ho:isSt o=true) (hs:q2Y o=some s):
 memN s (badOf ops j)=true:=by
 rw[memN_ok]
 simp only[badOf,badW,List.mem_append,List.mem_filterMap,List.mem_range]
 right;left
 refine⟨i,?_,?_⟩
 . rcases Nat.lt_or_ge i ops.toList.length with h | h
   . simpa using h
   . rw[List.getElem?_eq_none h] at hi;simp at hi
 . have hb:Nat.beq j i=false:=by cases e:Nat.beq j i;rfl;rw[Nat.beq_eq] at e;exact absurd e.symm hij
   simp only[q3x,hi,ho,hb,h1,h2,Bool.not_false,Bool.and_true,cond_true]
   exact hs
theorem bad_own {i j s:Nat} {o:Oper} (hi:ops.toList[i]?=some o) (hj:j<ops.size) (hij:i≠j) (h1:rowBit (rowsA ops) i j=false) (h2:rowBit (rowsA ops) j i=false) (ho:ownArg ops o=some s):
 memN 4294967297 (badOf ops i)=true/\memN s (badOf ops j)=true/\memN (s+500000) (badOf ops j)=true:=by
 have hi':i<ops.size:=by
  rcases Nat.lt_or_ge i ops.toList.length with h | h
  . simpa using h
  . rw[List.getElem?_eq_none h] at hi;simp at hi
 have hb:Nat.beq i j=false:=by cases e:Nat.beq i j;rfl;rw[Nat.beq_eq] at e;exact absurd e hij
 have hb2:Nat.beq j i=false:=by cases e:Nat.beq j i;rfl;rw[Nat.beq_eq] at e;exact absurd e.symm hij
 constructor
 . rw[memN_ok]
   simp only[badOf,badW,List.mem_append]
   left;right;right;right
   have hl:q59 ops (rowsA ops) i=true:=by
    simp only[q59,ownArgAt,hi,ho,Option.isSome_some,Bool.true_and,List.any_eq_true,List.mem_range]
    exact⟨j,hj,by simp[hb,h1,h2]⟩
   rw[hl];simp
 refine⟨?_,?_⟩
 . rw[memN_ok]
   simp only[badOf,badW,List.mem_append,List.mem_filterMap,List.mem_range]
   right;right;left
   exact⟨i,hi',by simp[hb2,h1,h2,ownArgAt,hi,ho]⟩
 . rw[memN_ok]
   simp only[badOf,badW,List.mem_append,List.mem_filterMap,List.mem_range]
   right;right;right
   exact⟨i,hi',by simp[hb2,h1,h2,ownArgAt,hi,ho]⟩
theorem storesOk_symm {o o':Oper} (h:storesOk o o'=true):storesOk o' o=true:=by
 unfold storesOk at *
 simp only[Bool.and_eq_true] at *
 refine⟨⟨h.1.2,h.1.1⟩,?_⟩
 have h3:=h.2
 split at h3<;>try (simp at h3;done)
 rename_i t _ _ t' _ e1 e2
 rw[e1,e2]
 simp only[Bool.not_eq_true'] at h3 ⊢
 cases e:Nat.beq t' t with
 | false=>rfl
 | true=>rw[Nat.beq_eq] at e;subst e;simp at h3
def Swp (ops:Array Oper) (bad:Nat->List Nat) (i j:Nat):Prop:=(∃ o o',Free ops bad i j o o')∨(∃ o o',FreeS ops bad i j o o')∨(∃ o o' s,FreeQ ops bad i j o o' s)∨(∃ o o' s,FreeQ ops bad j i o o' s)∨(∃ o o',FreeN ops i j o o')∨(∃ o o',FreeN ops j i o o')∨(∃ o o' s d,FreeA ops bad i j o o' s d)∨∃ o o' s d,FreeA ops bad j i o o' s d
theorem swap2 {P:Program} {N:Nat} {ad:Nat->Bool} {bad:Nat->List Nat} {i j:Nat} (h:Swp ops bad i j) {K:St->Prop} {st:St} (hw:stepW P N ad ops bad i (stepW P N ad ops bad j K) st):stepW P N ad ops bad j (stepW P N ad ops bad i K) st:=by
 rcases h with ⟨o,o',h⟩ | ⟨o,o',h⟩ | ⟨o,o',s,h⟩ | ⟨o,o',s,h⟩ | ⟨o,o',h⟩ | ⟨o,o',h⟩ | ⟨o,o',s,d,h⟩ | ⟨o,o',s,d,h⟩
 . exact swap h hw
 . exact swapS h hw
 . exact swapQ h hw
 . exact swapQ' h hw
 . exact swapN h hw
 . exact swapN' h hw
 . exact swapA h hw
 . exact swapA' h hw
theorem q69 {i j:Nat} {o o':Oper} (hi:ops.toList[i]?=some o) (hj:ops.toList[j]?=some o') (hij:i≠j) (h1:rowBit (rowsA ops) i j=false) (h2:rowBit (rowsA ops) j i=false) (h:appQ ops o o'=true):
 ∃ s d,FreeA ops (badOf ops) i j o o' s d:=by
 unfold appQ at h
 simp only[Bool.and_eq_true,Bool.not_eq_true'] at h
 obtain⟨⟨⟨⟨⟨⟨a0,a1⟩,a2⟩,a3⟩,a4⟩,a5⟩,a6⟩:=h
 have hil:i<ops.size:=by
  rcases Nat.lt_or_ge i ops.toList.length with h | h
  . simpa using h
  . rw[List.getElem?_eq_none h] at hi;simp at hi
 have hjl:j<ops.size:=by
  rcases Nat.lt_or_ge j ops.toList.length with h | h
  . simpa using h
  . rw[List.getElem?_eq_none h] at hj;simp at hj
 cases hs:ownArg ops o with
 | none=>rw[hs] at a1;cases a1
 | some s=>
  cases hd:o.dst with
  | none=>rw[hd] at a6;cases a6
  | some d=>
   rw[hd] at a6
   simp only[Bool.and_eq_true,Bool.not_eq_true'] at a6
   obtain⟨b1,b2,b3⟩:=bad_own hi hjl hij h1 h2 hs
   have hst:∃ args ts l,o.op=.call ⟨.builtin .append,args,ts⟩/\args.toList=.tmp s :: l:=by
    unfold ownArg at hs
    split at hs<;>try (cases hs;done)
    rename_i args ts e
    split at hs<;>try (cases hs;done)
    rename_i s' l e2
    obtain⟨_,rfl⟩:=bif_some hs
    exact⟨_,_,_,e,e2⟩
   refine⟨s,d,hi,hj,by simpa using a2,hd,hst,b1,a3,a4,?_,?_,?_,?_,?_,b2,b3,fun e=>?_⟩
   . intro t ht e
     rw[e] at a5
     have:=(memN_ok (n:=t)).2 ht
     simp[this] at a5
   . intro t ht e
     rw[hd] at e;cases e
     have:=(memN_ok (n:=d)).2 ht
     rw[this] at a6;cases a6.1
   . intro e
     rw[e] at a6
     simp at a6
   . intro x hx
     exact q31 hjl h1 (by simp[dstOf,hj,hx])
   . exact q31 hil h2 (by simp[dstOf,hi,hd])
   . rw[e] at a0
     have a0:=Nat.le_of_ble_eq_true a0
     omega
theorem q6b {i j:Nat} {o o':Oper} (hi:ops.toList[i]?=some o) (hj:ops.toList[j]?=some o') (hij:i≠j) (h1:rowBit (rowsA ops) i j=false) (h2:rowBit (rowsA ops) j i=false) (h:storeQ ops o o'=true) (hm:noMem o'.op=false):
 ∃ s,FreeQ ops (badOf ops) i j o o' s:=by
 unfold storeQ at h
 simp only[Bool.and_eq_true] at h
 obtain⟨⟨s1,s2⟩,s3⟩:=h
 have b1:=bad_st hi hj hij h1 h2 s1 hm
 have s1':=s1
 unfold isSt at s1'
 split at s1'<;>try (simp at s1';done)
 rename_i a s v e g d
 have ha:q2Y o=some s:=by simp[q2Y,e]
 have hil:i<ops.size:=by
  rcases Nat.lt_or_ge i ops.toList.length with h | h
  . simpa using h
  . rw[List.getElem?_eq_none h] at hi;simp at hi
 refine⟨s,hi,hj,g,d,⟨a,v,e⟩,q41 hj hil (fun e=>hij e.symm) h2 h1 s2,?_,b1,bad_addr hi hj hij h1 h2 s1 ha⟩
 intro t ht hd
 rw[hd] at s3
 have:=(memN_ok (n:=t)).2 ht
 simp[this] at s3
theorem q6a {i j:Nat} {o o':Oper} (hi:ops.toList[i]?=some o) (hj:ops.toList[j]?=some o') (h:storeQ ops o o'=true) (hm:noMem o'.op=true):FreeN ops i j o o':=by
 unfold storeQ at h
 simp only[Bool.and_eq_true] at h
 obtain⟨⟨s1,s2⟩,s3⟩:=h
 unfold isSt at s1
 split at s1<;>try (simp at s1;done)
 rename_i a s v e g d
 refine⟨hi,hj,g,d,⟨a,s,v,e⟩,hm,?_⟩
 intro t ht hd
 rw[hd] at s3
 have:=(memN_ok (n:=t)).2 ht
 simp[this] at s3
theorem store_noMem {o:Oper} (h:isSt o=true):noMem o.op=false:=by
 unfold isSt at h
 split at h<;>try (simp at h;done)
 rename_i e _ _
 rw[e];rfl
theorem free_of (h:drawOk ops=true) {i j:Nat} (hi:i<ops.size) (hj:j<ops.size) (hij:i≠j) (h1:rowBit (rowsA ops) i j=false) (h2:rowBit (rowsA ops) j i=false):
 Swp ops (badOf ops) i j:=by
 simp only[drawOk,q4T,Bool.and_eq_true,List.all_eq_true,List.mem_range] at h
 obtain⟨_,h⟩:=h
 have hp:∃ o o',ops.toList[i]?=some o/\ops.toList[j]?=some o'/\(freeOk ops o o'=true∨storesOk o o'=true∨storeQ ops o o'=true∨storeQ ops o' o=true∨appQ ops o o'=true∨appQ ops o' o=true):=by
  rcases Nat.lt_or_gt_of_ne hij with hlt | hgt
  . have:=h i hi j hj
    have hb:Nat.ble j i=false:=by cases e:Nat.ble j i;rfl;have:=Nat.le_of_ble_eq_true e;omega
    have hb2:Nat.beq i j=false:=by cases e:Nat.beq i j;rfl;rw[Nat.beq_eq] at e;exact absurd e hij
    simp only[hb,Bool.false_or,pairOk,hb2,h1,h2] at this
    split at this
    . rename_i o o' e1 e2;exact⟨o,o',e1,e2,by simpa[or_assoc] using this⟩
    . simp at this
  . have:=h j hj i hi
    have hb:Nat.ble i j=false:=by cases e:Nat.ble i j;rfl;have:=Nat.le_of_ble_eq_true e;omega
    have hb2:Nat.beq j i=false:=by cases e:Nat.beq j i;rfl;rw[Nat.beq_eq] at e;exact absurd e.symm hij
    simp only[hb,Bool.false_or,pairOk,hb2,h1,h2] at this
    split at this
    . rename_i o o' e1 e2;exact⟨o',o,e2,e1,by rcases (by simpa[or_assoc] using this:freeOk ops o o'=true∨storesOk o o'=true∨storeQ ops o o'=true∨storeQ ops o' o=true∨appQ ops o o'=true∨appQ ops o' o=true) with q | q | q | q | q | q;exact .inl (freeOk_symm q);exact .inr (.inl (storesOk_symm q));exact .inr (.inr (.inr (.inl q)));exact .inr (.inr (.inl q));exact .inr (.inr (.inr (.inr (.inr q))));exact .inr (.inr (.inr (.inr (.inl q))))⟩
    . simp at this
 obtain⟨o,o',e1,e2,hf | hs | hs | hs | hs | hs⟩:=hp
 case inr.inr.inr.inr.inl=>
  obtain⟨s,d,hs⟩:=q69 e1 e2 hij h1 h2 hs
  exact .inr (.inr (.inr (.inr (.inr (.inr (.inl ⟨o,o',s,d,hs⟩))))))
 case inr.inr.inr.inr.inr=>
  obtain⟨s,d,hs⟩:=q69 e2 e1 (fun e=>hij e.symm) h2 h1 hs
  exact .inr (.inr (.inr (.inr (.inr (.inr (.inr ⟨o',o,s,d,hs⟩))))))
 case inr.inr.inl=>
  cases hm:noMem o'.op with
  | true=>exact .inr (.inr (.inr (.inr (.inl ⟨o,o',q6a e1 e2 hs hm⟩))))
  | false=>
  obtain⟨s,hs⟩:=q6b e1 e2 hij h1 h2 hs hm
  exact .inr (.inr (.inl ⟨o,o',s,hs⟩))
 case inr.inr.inr.inl=>
  cases hm:noMem o.op with
  | true=>exact .inr (.inr (.inr (.inr (.inr (.inl ⟨o',o,q6a e2 e1 hs hm⟩)))))
  | false=>
  obtain⟨s,hs⟩:=q6b e2 e1 (fun e=>hij e.symm) h2 h1 hs hm
  exact .inr (.inr (.inr (.inl ⟨o',o,s,hs⟩)))
 case inr.inl=>
  right;left
  unfold storesOk at hs
  simp only[Bool.and_eq_true] at hs
  obtain⟨⟨s1,s2⟩,s3⟩:=hs
  have b1:=bad_st e1 e2 hij h1 h2 s1 (store_noMem s2)
  have b2:=bad_st e2 e1 (fun e=>hij e.symm) h2 h1 s2 (store_noMem s1)
  split at s3<;>try (simp at s3;done)
  rename_i a t v a' t' v' p1 p2
  unfold isSt at s1 s2
  split at s1<;>try (simp at s1;done)
  rename_i _ _ _ g1 g2 g3
  split at s2<;>try (simp at s2;done)
  rename_i _ _ _ k1 k2 k3
  refine⟨o,o',e1,e2,g2,k2,g3,k3,⟨a,t,v,a',t',v',p1,p2,?_⟩,b1,b2⟩
  rintro rfl
  simp at s3
 left
 unfold freeOk at hf
 simp only[Bool.and_eq_true,Bool.not_eq_true',Bool.and_eq_false_iff] at hf
 obtain⟨⟨⟨⟨⟨f1,f2⟩,f3⟩,f4⟩,f5⟩,f6⟩:=hf
 refine⟨o,o',e1,e2,q41 e1 hj hij h1 h2 f1,q41 e2 hi (fun e=>hij e.symm) h2 h1 f2,?_,?_,?_,?_,?_,?_⟩
 . rintro⟨q1,q2⟩;rcases f3 with f | f<;>simp_all
 . intro t ht e
   rw[e] at f4
   have:=(memN_ok (n:=t)).2 ht
   simp[this] at f4
 . intro t ht e
   rw[e] at f5
   have:=(memN_ok (n:=t)).2 ht
   simp[this] at f5
 . intro x a b
   rw[a,b] at f6
   simp at f6
 . intro d hd
   exact q31 hj h1 (by simp[dstOf,e2,hd])
 . intro d hd
   exact q31 hi h2 (by simp[dstOf,e1,hd])
def foldS (step:Nat->(St->Prop)->St->Prop):List Nat->(St->Prop)->St->Prop
 | [],K=>K
 | i :: r,K=>step i (foldS step r K)
def Swap (step:Nat->(St->Prop)->St->Prop) (i j:Nat):Prop:=∀ K st,step i (step j K) st->step j (step i K) st
theorem q68 {step:Nat->(St->Prop)->St->Prop} (mono:∀ i (K K':St->Prop) st,(∀ st,K st->K' st)->step i K st->step i K' st) {x:Nat} {B:List Nat} {K:St->Prop}:∀ (A:List Nat) (st:St),(∀ y,y∈A->Swap step y x)->foldS step (A ++ x :: B) K st->foldS step (x :: (A ++ B)) K st
 | [],st,_,h=>h
 | a :: A,st,hf,h=>by
  have h2:step a (foldS step (x :: (A ++ B)) K) st:=mono _ _ _ _ (fun st hs=>q68 mono A st (fun y hy=>hf y (by simp[hy])) hs) h
  exact hf a (by simp) _ _ h2
theorem reorderG (hd:q19 ops=true) {step:Nat->(St->Prop)->St->Prop} (mono:∀ i (K K':St->Prop) st,(∀ st,K st->K' st)->step i K st->step i K' st)
 (hsw:∀ i j,i<ops.size->j<ops.size->i≠j->rowBit (rowsA ops) i j=false->rowBit (rowsA ops) j i=false->Swap step i j) {K:St->Prop}:∀ (l2 l1 C:List Nat),(∀ e,e∈C->∀ j,rowBit (rowsA ops) e j=true->j∈C)->VF (edges ops) C l1->VF (edges ops) C l2->
 (C ++ l1).Nodup->(∀ x,x∈l1↔x∈l2)->l2.Nodup->(∀ x,x∈l1->x<ops.size)->∀ st,foldS step l1 K st->foldS step l2 K st:=by
 intro l2
 induction l2 with
 | nil=>
  intro l1 C _ _ _ _ hm _ _ st hw
  cases l1 with
  | nil=>exact hw
  | cons y l=>have:=(hm y).1 (by simp);simp at this
 | cons x l2 ih=>
  intro l1 C hC hv1 hv2 hn hm hn2 hlt st hw
  obtain⟨A,B,rfl⟩:=List.append_of_mem ((hm x).2 (by simp))
  have hxC:x∉C:=by
   intro hx
   rw[List.nodup_append] at hn
   exact hn.2.2 x hx x (by simp) rfl
  have hfree:∀ y,y∈A->Swap step y x:=by
   intro y hy
   have hyl:y∈A ++ x :: B:=by simp[hy]
   have hyC:y∉C:=by
    intro hx
    rw[List.nodup_append] at hn
    exact hn.2.2 y hx y hyl rfl
   have hne:y≠x:=by
    rintro rfl
    rw[List.nodup_append] at hn
    have:=hn.2.1
    rw[List.nodup_append] at this
    exact this.2.2 y hy y (by simp) rfl
   refine hsw y x (hlt y hyl) (hlt x (by simp)) hne ?_ ?_
   . cases e:rowBit (rowsA ops) y x with
     | false=>rfl
     | true=>
      exfalso
      obtain⟨A1,A2,rfl⟩:=List.append_of_mem hy
      rcases prec hd hC hv1 y A1 (A2 ++ x :: B) (by simp) x e with q | q
      . exact hxC q
      . rw[List.nodup_append] at hn
        have:=hn.2.1
        rw[List.nodup_append] at this
        exact this.2.2 x (by simp[q]) x (by simp) rfl
   . cases e:rowBit (rowsA ops) x y with
     | false=>rfl
     | true=>
      exfalso
      rcases prec hd hC hv2 x [] l2 rfl y e with q | q
      . exact hyC q
      . simp at q
  have h1:=q68 mono A st hfree hw
  refine mono _ _ _ _ (fun st hs=>ih (A ++ B) (x :: C) ?_ (VF_move A C hv2.1 hv1) hv2.2 ?_ ?_ ?_ ?_ st hs) h1
  . intro e he j hj
    rcases List.mem_cons.1 he with rfl | he
    . rcases prec hd hC hv2 e [] l2 rfl j hj with q | q
      . simp[q]
      . simp at q
    . simp[hC e he j hj]
  . have:(C ++ (A ++ x :: B)).Perm (x :: C ++ (A ++ B)):=by
     refine (List.Perm.append_left C (List.perm_middle (a:=x) (l₁:=A) (l₂:=B))).trans ?_
     exact List.perm_middle
    exact this.nodup_iff.1 hn
  . intro z
    have hnA:(A ++ x :: B).Nodup:=by rw[List.nodup_append] at hn;exact hn.2.1
    have hx2:x∉l2:=(List.nodup_cons.1 hn2).1
    have hxAB:x∉A ++ B:=by
     have:=(List.perm_middle (a:=x) (l₁:=A) (l₂:=B)).nodup_iff.1 hnA
     exact (List.nodup_cons.1 this).1
    have:=hm z
    constructor
    . intro hz
      have hne:z≠x:=by rintro rfl;exact hxAB hz
      have hz':z∈A ++ x :: B:=by simp at hz ⊢;rcases hz with q | q<;>simp[q]
      have:=this.1 hz'
      simpa[hne] using this
    . intro hz
      have hne:z≠x:=by rintro rfl;exact hx2 hz
      have:=this.2 (by simp[hz])
      simpa[hne] using this
  . exact (List.nodup_cons.1 hn2).2
  . intro z hz
    exact hlt z (by simp at hz ⊢;rcases hz with q | q<;>simp[q])
theorem q3X {E:Nat->List Nat}:∀ (l C:List Nat) (x:Nat),VF E C l->(∀ e,e∈E x->e∈C∨e∈l)->VF E C (l ++ [x])
 | [],C,x,_,h=>⟨fun e he=>by rcases h e he with q | q;exact q;simp at q,trivial⟩
 | y :: l,C,x,hv,h=>⟨hv.1,q3X l (y :: C) x hv.2 (fun e he=>by
  rcases h e he with q | q
  . exact .inl (by simp[q])
  . rcases List.mem_cons.1 q with q | q
    . exact .inl (by simp[q])
    . exact .inr q)⟩
theorem q66 {α:Type} {p q:α->Bool} (hpq:∀ x,q x=true->p x=true):∀ (l:List α) (i:α),i∈l->p i=true->q i=false->(l.filter q).length<(l.filter p).length
 | [],i,hi,_,_=>by simp at hi
 | x :: l,i,hi,hp,hq=>by
  have hle:(l.filter q).length<=(l.filter p).length:=by
   clear hi
   induction l with
   | nil=>simp
   | cons y l ih=>
    simp only[List.filter_cons]
    cases e:q y with
    | true=>rw[hpq y e];simpa using ih
    | false=>cases p y<;>simp<;>omega
  simp only[List.filter_cons]
  rcases List.mem_cons.1 hi with rfl | hi
  . rw[hp,hq];simp;omega
  . have:=q66 hpq l i hi hp hq
    cases e:q x with
    | true=>rw[hpq x e];simpa using this
    | false=>cases p x<;>simp<;>omega
theorem q9f (hd:q19 ops=true) (t:Nat):(Region.linearise .any ops t).Nodup/\(∀ i,i∈Region.linearise .any ops t↔i<ops.size)/\VF (edges ops) [] (Region.linearise .any ops t):=by
 have key:∀ (fuel t:Nat) (listed:Array Bool) (acc:List Nat),listed.size=ops.size->acc.reverse.Nodup->(∀ i,i∈acc↔listed.getD i false=true)->(∀ i,i∈acc->i<ops.size)->VF (edges ops) [] acc.reverse->
  ((List.range ops.size).filter fun i=>!listed.getD i false).length<=fuel->
  (Region.linearise.go .any ops fuel t listed acc).Nodup/\(∀ i,i∈Region.linearise.go .any ops fuel t listed acc↔i<ops.size)/\VF (edges ops) [] (Region.linearise.go .any ops fuel t listed acc):=by
  intro fuel
  induction fuel with
  | zero=>
   intro t listed acc hs hn hm hlt hv hf
   simp only[Region.linearise.go]
   refine⟨hn,fun i=>⟨fun hi=>hlt i (by simpa using hi),fun hi=>?_⟩,hv⟩
   have he:((List.range ops.size).filter fun i=>!listed.getD i false)=[]:=List.eq_nil_of_length_eq_zero (by omega)
   have:=List.filter_eq_nil_iff.1 he i (by simpa using hi)
   simp only[Bool.not_eq_true',Bool.not_eq_false] at this
   simpa using (hm i).2 this
  | succ fuel ih=>
   intro t listed acc hs hn hm hlt hv hf
   simp only[Region.linearise.go]
   generalize hrs:(List.range ops.size).filter (fun i=>!listed.getD i true && ((ops[i]?).map (·.after.all fun e=>!Region.binds .any e || listed.getD e.on false)).getD false)=rs
   have hd':∀ i b,i<ops.size->listed.getD i b=listed.getD i false:=by
    intro i b hi
    simp[Array.getD_eq_getD_getElem?,Array.getElem?_eq_getElem (show i<listed.size by omega)]
   have hmem:∀ i,i∈rs↔i<ops.size/\listed.getD i false=false/\∀ e,e∈edges ops i->listed.getD e false=true:=by
    intro i
    rw[<-hrs,List.mem_filter,List.mem_range,Bool.and_eq_true,Bool.not_eq_true']
    constructor
    . rintro⟨h1,h2,h3⟩
      rw[hd' i true h1] at h2
      refine⟨h1,h2,fun e he=>?_⟩
      unfold edges q1a at he
      rw[Array.getElem?_toList] at he
      cases ho:ops[i]? with
      | none=>rw[ho] at he;simp at he
      | some o=>
       rw[ho] at he h3
       simp only[Option.map_some,Option.getD_some,List.mem_map,List.mem_filter] at he h3
       obtain⟨ed,⟨q1,q2⟩,rfl⟩:=he
       rw[Array.all_eq_true] at h3
       obtain⟨k,hk,hke⟩:=List.mem_iff_getElem.1 q1
       have:=h3 k (by simpa using hk)
       simp only[Array.getElem_toList] at hke
       rw[hke,q2] at this
       simpa using this
    . rintro⟨h1,h2,h3⟩
      refine⟨h1,by rw[hd' i true h1];exact h2,?_⟩
      rw[Array.getElem?_eq_getElem h1]
      simp only[Option.map_some,Option.getD_some]
      rw[Array.all_eq_true]
      intro k hk
      cases hb:Region.binds .any ops[i].after[k] with
      | false=>simp
      | true=>
       have:=h3 ops[i].after[k].on (by
        unfold edges q1a
        rw[Array.getElem?_toList,Array.getElem?_eq_getElem h1]
        simp only[List.mem_map,List.mem_filter]
        exact⟨_,⟨by simp,hb⟩,rfl⟩)
       simpa using this
   cases hg:rs[t % rs.length]? with
   | none=>
    have hnil:rs=[]:=by
     cases rs with
     | nil=>rfl
     | cons x rs=>rw[List.getElem?_eq_getElem (Nat.mod_lt _ (by simp))] at hg;simp at hg
    have hall:∀ i,i<ops.size->listed.getD i false=true:=by
     intro i
     induction i using Nat.strongRecOn with
     | _ i ihi=>
      intro hi
      cases e:listed.getD i false with
      | true=>rfl
      | false=>
       exfalso
       have:i∈rs:=(hmem i).2 ⟨hi,e,fun e' he'=>by
        have h1:=List.all_eq_true.1 hd i (by simpa using hi)
        have h2:=Nat.le_of_ble_eq_true (List.all_eq_true.1 h1 e' he')
        exact ihi e' h2 (Nat.lt_trans h2 hi)⟩
       rw[hnil] at this;simp at this
    exact⟨hn,fun i=>⟨fun hi=>hlt i (by simpa using hi),fun hi=>by simpa using (hm i).2 (hall i hi)⟩,hv⟩
   | some i=>
    have hi:i∈rs:=List.mem_of_getElem? hg
    obtain⟨h1,h2,h3⟩:=(hmem i).1 hi
    have hnot:i∉acc:=fun h=>by rw[(hm i).1 h] at h2;simp at h2
    have hset:∀ k,(listed.setIfInBounds i true).getD k false=(if k=i then true else listed.getD k false):=by
     intro k
     simp only[Array.getD_eq_getD_getElem?,Array.getElem?_setIfInBounds]
     by_cases e:i=k
     . subst e;simp[hs,h1]
     . rw[if_neg e,if_neg (fun e'=>e e'.symm)]
    refine ih _ _ _ (by simpa using hs) ?_ ?_ ?_ ?_ ?_
    . rw[List.reverse_cons,List.nodup_append]
      refine⟨hn,by simp,?_⟩
      intro a ha b hb e
      simp at hb ha
      rw[e,hb] at ha
      exact hnot ha
    . intro k
      rw[hset]
      by_cases e:k=i
      . subst e;simp
      . rw[if_neg e];simp[e,hm k]
    . intro k hk
      rcases List.mem_cons.1 hk with rfl | hk
      . exact h1
      . exact hlt k hk
    . rw[List.reverse_cons]
      exact q3X _ _ _ hv (fun e he=>.inr (by simpa using (hm e).2 (h3 e he)))
    . have:=q66 (p:=fun k=>!listed.getD k false) (q:=fun k=>!(listed.setIfInBounds i true).getD k false)
       (by intro k hk;simp only[hset] at hk;by_cases e:k=i<;>simp_all) (List.range ops.size) i (by simpa using h1) (by simp only[h2];rfl) (by simp only[hset];simp)
      omega
 refine key ops.size t (Array.replicate ops.size false) [] (by simp) (by simp) ?_ (by simp) trivial ?_
 . intro i
   simp only[List.not_mem_nil,false_iff]
   rw[Array.getD_eq_getD_getElem?,Array.getElem?_replicate]
   split<;>simp
 . exact Nat.le_trans (List.length_filter_le _ _) (by simp)
theorem VF_range (hd:q19 ops=true):VF (edges ops) [] (List.range ops.size):=by
 have key:∀ n,n<=ops.size->VF (edges ops) [] (List.range n):=by
  intro n
  induction n with
  | zero=>intro _;trivial
  | succ n ih=>
   intro hn
   rw[List.range_succ]
   refine q3X _ _ _ (ih (by omega)) (fun e he=>.inr ?_)
   have h1:=List.all_eq_true.1 hd n (by simp;omega)
   have h2:=Nat.le_of_ble_eq_true (List.all_eq_true.1 h1 e he)
   have h3:e<n:=h2
   simpa using h3
 exact key _ (Nat.le_refl _)
theorem drawnG {m:Bool} (hd:q19 ops=true) {step:Nat->(St->Prop)->St->Prop} (mono:∀ i (K K':St->Prop) st,(∀ st,K st->K' st)->step i K st->step i K' st)
 (hsw:∀ i j,i<ops.size->j<ops.size->i≠j->rowBit (rowsA ops) i j=false->rowBit (rowsA ops) j i=false->Swap step i j) {K:St->Prop} (hm:(m || !Region.departs ops)=true) {st:St}
 (hw:foldS step (List.range ops.size) K st) (t:Nat):foldS step (Region.schedule m ops t) K st:=by
 have hs:Region.schedule m ops t=Region.linearise .any ops t:=by
  unfold Region.schedule;rw[if_pos hm]
 rw[hs]
 obtain⟨h1,h2,h3⟩:=q9f hd t
 exact reorderG hd mono hsw (Region.linearise .any ops t) (List.range ops.size) [] (by simp) (VF_range hd) h3 (by simpa using List.nodup_range) (by intro x;rw[h2 x];simp) h1 (by simp) st hw
end
end Go.VM
namespace Go.VM
open Go Go.RowKit
def St.freezes (st:St):List Nat->Option St
 | []=>some st
 | b :: l=>match st.freeze b with
  | some st=>st.freezes l
  | none=>none
section
variable {P:Program} {base:Mine} {w0 w:World} {F0 F:Nat->Prop} {ι:Nat->Option Ref} {N:Nat} {st:St} {a:Act}
theorem Ok.drew (h:Ok base w0 F0 N st a w):Ok base w0 F0 N st a { w with drawn:=w.drawn+1 }:=by
 obtain⟨hN,F,ι,hs⟩:=h
 have hF:∀ b,F b->w.drew.heap[b]?=w.heap[b]?:=fun _ _=>rfl
 refine⟨hN,F,ι,⟨fun s v hv=>vrep_mono (w':=w.drew) (fun _ h=>h) (fun _ _ h=>h) hF (hs.env s v hv),?_,hs.used,hs.apart,hs.fsize,hs.fin,hs.below.drew,hs.size,hs.upin,hs.pools,hs.pin,hs.defers⟩⟩
 intro b k hb
 obtain⟨r,hr,q⟩:=hs.heap b k hb
 exact⟨r,hr,q1r (w:=w) (w':=w.drew) (fun _ _ h=>h) (fun _ _ h=>h) (fun _ _ _ _ _ _ _ _ _=>rfl) hF (fun _=>rfl) q⟩
theorem Ok.freezes:∀ (l:List Nat) {st st':St},Ok base w0 F0 N st a w->st.freezes l=some st'->Ok base w0 F0 N st' a w
 | [],st,st',h,hf=>by simp only[St.freezes,Option.some.injEq] at hf;subst hf;exact h
 | b :: l,st,st',h,hf=>by
  simp only[St.freezes] at hf
  split at hf<;>try (simp at hf;done)
  rename_i s hs
  exact Ok.freezes l (h.freeze hs) hf
end
end Go.VM
namespace Go.VM
open Go Go.RowKit
inductive Pre where
 | frz (b:Nat)
 | opn (b p:Nat)
 | giv (d p:Nat)
 | frp (p:Nat)
 | cut (t d:Nat)
 | new (p:Nat) (t:Ty)
instance (n:Nat):OfNat Pre n:=⟨.frz n⟩
abbrev nilAll {α:Type} (l:Option (List (Option α))):Prop:=∀ y,y∈lst l->Option.isNone y=true
abbrev hdL {α:Type} (l:Option (List (Option α))):Option (List (Option Nat)):=l.map fun l=>l.map fun _=>none
abbrev gvH {α:Type} (l:Option α) (n:Nat):Option Nat:=l.map fun _=>n
abbrev gvL {α:Type} (ls:List (List α)) (l:Option (List α)):List (List α):=ls ++ l.toList
abbrev lenL {α:Type} (ls:List α):Nat:=ls.length
abbrev unH {α:Type} (ls:List (List α)) (x:Option Nat):Option (List α):=x.map fun n=>ls.getD n []
abbrev mapL {α β:Type} (f:α->β) (l:Option (List α)):Option (List β):=l.map fun l=>l.map f
def opnV (st:St) (b p:Nat):(t:Ty)->Option (List (den t))->Option (Prop×St)
 | .sl t,l=>bif !st.used p && Nat.blt p hbase && valT t && Nat.blt b hbase then some (nilAll l,⟨st.env,upd (upd st.heap b (some (.arr (.hd p) (hdL l)))) p (some (.pool p t [])),upd st.used p true⟩) else none
 | _,_=>none
def St.opn (st:St) (b p:Nat):Option (Prop×St):=
 match st.heap b with
 | some (.arr t l)=>opnV st b p t l
 | _=>none
def gv (d p:Nat) (x:Option Nat):(t:Ty)->den t->V
 | .own c,_=>bif Nat.beq c d then ⟨.hd p,x⟩ else ⟨.own c,()⟩
 | .pair a b,y=>⟨.pair (gv d p x a y.1).t (gv d p x b y.2).t,((gv d p x a y.1).x,(gv d p x b y.2).x)⟩
 | .agg c,y=>⟨.agg (gv d p x c y).t,(gv d p x c y).x⟩
 | t,y=>⟨t,y⟩
def hasO (d:Nat):Ty->Bool
 | .own c=>Nat.beq c d
 | .pair a b=>hasO d a || hasO d b
 | .agg c=>hasO d c
 | _=>false
def gvT (d p:Nat):Ty->Ty
 | .own c=>bif Nat.beq c d then .hd p else .own c
 | .pair a b=>.pair (gvT d p a) (gvT d p b)
 | .agg c=>.agg (gvT d p c)
 | t=>t
def gvO (p c:Nat) (X:Option Nat):(b:Bool)->den (bif b then .hd p else .own c)
 | true=>X
 | false=>()
def gvX (d p:Nat) (X:Option Nat):(t:Ty)->den t->den (gvT d p t)
 | .own c,_=>gvO p c X (Nat.beq c d)
 | .pair a b,x=>(gvX d p X a x.1,gvX d p X b x.2)
 | .agg c,x=>gvX d p X c x
 | .int _,x=>x
 | .bool,x=>x
 | .str,x=>x
 | .cst _,x=>x
 | .sl _,x=>x
 | .unit,x=>x
 | .arr _ _,x=>x
 | .tup _,x=>x
 | .ref _ _,x=>x
 | .eref _ _,x=>x
 | .fref _,x=>x
 | .vw _,x=>x
 | .clo _ _,x=>x
 | .hd _,x=>x
 | .her _ _,x=>x
 | .bref _ _ _,x=>x
 | .nul,x=>x
def gvE (d p:Nat) (x:Option Nat):Option V->Option V
 | some v=>some (gv d p x v.t v.x)
 | none=>none
def gvB (d p:Nat) (x:Option Nat):Option Blk->Option Blk
 | some (.box t y)=>some (.box (gv d p x t y).t (gv d p x t y).x)
 | some (.arr t l)=>bif hasO d t then some (.arr (gvT d p t) (mapL (gvX d p x t) l)) else some (.arr t l)
 | k=>k
def St.giv (st:St) (d p:Nat):Option St:=
 match st.heap d with
 | some (.arr t l)=>match st.heap p with
  | some (.pool q u ls)=>match castT (.sl u) (.sl t) l with
   | some l'=>bif Nat.beq p q && !pinned p then some ⟨fun s=>gvE d p (gvH l' (lenL ls)) (st.env s),fun c=>bif Nat.beq c d then none else bif Nat.beq c p then some (.pool p u (gvL ls l')) else gvB d p (gvH l' (lenL ls)) (st.heap c),st.used⟩ else none
   | none=>none
  | _=>none
 | _=>none
def hasP (p:Nat):Ty->Bool
 | .hd q=>Nat.beq q p
 | .pair a b=>hasP p a || hasP p b
 | .agg c=>hasP p c
 | .sl t=>hasP p t
 | _=>false
def unT (p:Nat) (u:Ty):Ty->Ty
 | .hd q=>bif Nat.beq q p then .sl u else .hd q
 | .pair a b=>.pair (unT p u a) (unT p u b)
 | .agg c=>.agg (unT p u c)
 | .sl t=>bif hasP p t then .sl (unT p u t) else .sl t
 | t=>t
def unB (u:Ty) (q:Nat) (ls:List (List (den u))):(b:Bool)->Option Nat->den (bif b then .sl u else .hd q)
 | true,x=>unH ls x
 | false,x=>x
def unS {t s:Ty} (f:den t->den s):(b:Bool)->Option (List (den t))->den (bif b then .sl s else .sl t)
 | true,x=>mapL f x
 | false,x=>x
def unX (p:Nat) (u:Ty) (ls:List (List (den u))):(t:Ty)->den t->den (unT p u t)
 | .hd q,x=>unB u q ls (Nat.beq q p) x
 | .pair a b,x=>(unX p u ls a x.1,unX p u ls b x.2)
 | .agg c,x=>unX p u ls c x
 | .int _,x=>x
 | .bool,x=>x
 | .str,x=>x
 | .cst _,x=>x
 | .sl t,x=>unS (unX p u ls t) (hasP p t) x
 | .unit,x=>x
 | .arr _ _,x=>x
 | .tup _,x=>x
 | .ref _ _,x=>x
 | .own _,x=>x
 | .eref _ _,x=>x
 | .fref _,x=>x
 | .vw _,x=>x
 | .clo _ _,x=>x
 | .her _ _,x=>x
 | .bref _ _ _,x=>x
 | .nul,x=>x
def unE (p:Nat) (u:Ty) (ls:List (List (den u))):Option V->Option V
 | some v=>some ⟨unT p u v.t,unX p u ls v.t v.x⟩
 | none=>none
def unK (p:Nat) (u:Ty) (ls:List (List (den u))):Option Blk->Option Blk
 | some (.box t x)=>some (.box (unT p u t) (unX p u ls t x))
 | some (.arr t l)=>some (.arr (unT p u t) (mapL (unX p u ls t) l))
 | some (.pool q t l)=>some (.pool q (unT p u t) (l.map (List.map (unX p u ls t))))
 | none=>none
def St.frp (st:St) (p:Nat):Option St:=
 match st.heap p with
 | some (.pool q u ls)=>bif Nat.beq p q && frozen u then some ⟨fun s=>unE p u ls (st.env s),fun c=>bif Nat.beq c p then none else unK p u ls (st.heap c),st.used⟩ else none
 | _=>none
def St.cut (st:St) (t d:Nat):Option St:=
 match st.env t with
 | some ⟨.vw b,x⟩=>match st.heap b with
  | some (.arr u l)=>bif st.used d then none else some ⟨upd st.env t (some ⟨.own d,()⟩),upd (upd st.heap b none) d (some (.arr u (slcS l (x:Int×Int).1 (x:Int×Int).2))),upd st.used d true⟩
  | _=>none
 | some ⟨.own b,_⟩=>match st.heap b with
  | some (.arr u l)=>bif st.used d then none else some ⟨upd st.env t (some ⟨.own d,()⟩),upd (upd st.heap b none) d (some (.arr u l)),upd st.used d true⟩
  | _=>none
 | _=>none
def St.newp (st:St) (p:Nat) (t:Ty):Option St:=bif !st.used p && Nat.blt p hbase && valT t then some ⟨st.env,upd st.heap p (some (.pool p t [])),upd st.used p true⟩ else none
def preK:List Pre->(St->Prop)->St->Prop
 | [],K,st=>K st
 | .frz b :: l,K,st=>match st.freeze b with
  | some st=>preK l K st
  | none=>preK l K st
 | .opn b p :: l,K,st=>match st.opn b p with
  | some (c,st)=>c/\preK l K st
  | none=>False
 | .giv d p :: l,K,st=>match st.giv d p with
  | some st=>preK l K st
  | none=>False
 | .frp p :: l,K,st=>match st.frp p with
  | some st=>preK l K st
  | none=>False
 | .cut t d :: l,K,st=>match st.cut t d with
  | some st=>preK l K st
  | none=>False
 | .new p t :: l,K,st=>match st.newp p t with
  | some st=>preK l K st
  | none=>False
section
variable {P:Program} {base:Mine} {w0 w:World} {F0 F:Nat->Prop} {ι:Nat->Option Ref} {N:Nat} {st:St} {a:Act}
theorem below_isH {b:Nat} (h:Nat.blt b hbase=true):isH b=false:=by
 have h:=Nat.le_of_ble_eq_true h
 unfold isH
 cases e:Nat.ble hbase b with
 | false=>rfl
 | true=>have:=Nat.le_of_ble_eq_true e;omega
theorem Ok.opn (h:Ok base w0 F0 N st a w) {b p:Nat} {c:Prop} {st':St} (ho:st.opn b p=some (c,st')) (hc:c):Ok base w0 F0 N st' a w:=by
 obtain⟨hN,F,ι,hs⟩:=h
 unfold St.opn at ho
 split at ho<;>try (simp at ho;done)
 rename_i t l hb
 unfold opnV at ho
 split at ho<;>try (simp at ho;done)
 rename_i t l
 obtain⟨hq,ho⟩:=bif_some ho
 simp only[Prod.mk.injEq] at ho
 obtain⟨rfl,rfl⟩:=ho
 simp only[Bool.and_eq_true,Bool.not_eq_true'] at hq
 obtain⟨⟨⟨hu,hp⟩,hval⟩,hbs⟩:=hq
 obtain⟨hip,hhp,hH⟩:=hs.unused hu
 have hp':p<hbase:=Nat.le_of_ble_eq_true hp
 have hne:b≠p:=by rintro rfl;rw[hb] at hhp;cases hhp
 have hι:∀ c r,ι c=some r->upd ι p (some nilRef) c=some r:=by
  intro c r e
  by_cases hc:c=p
  . subst hc;rw[hip] at e;cases e
  . rw[upd_other _ _ _ _ hc];exact e
 have hHι:∀ c,isH c=true->upd ι p (some nilRef) c=ι c:=fun c hc=>upd_other _ _ _ _ fun e=>by rw[e,hH] at hc;cases hc
 have hheap:∀ c k,upd (upd st.heap b (some (.arr (.hd p) (hdL l)))) p (some (.pool p t [])) c=some k->(c=p/\k=.pool p t [])∨(c=b/\k=.arr (.hd p) (hdL l))∨(c≠p/\c≠b/\st.heap c=some k):=by
  intro c k e
  rcases upd_some e with ⟨rfl,e⟩ | ⟨h1,e⟩
  . exact .inl ⟨rfl,(Option.some.inj e).symm⟩
  . rcases upd_some e with ⟨h2,e2⟩ | ⟨h2,e2⟩
    . exact .inr (.inl ⟨h2,(Option.some.inj e2).symm⟩)
    . exact .inr (.inr ⟨h1,h2,e2⟩)
 have hrow:∀ c k,prow (upd (upd st.heap b (some (.arr (.hd p) (hdL l)))) p (some (.pool p t []))) c=some k->prow st.heap c=some k:=by
  intro c k e
  obtain⟨q,n,q',u,ls,m,hq,rfl,h1,h2,rfl⟩:=q0k e
  rcases hheap _ _ h1 with ⟨_,e⟩ | ⟨_,e⟩ | ⟨_,_,e⟩
  . cases e;simp at h2
  . cases e
  . rw[q0b hq,e];simp only[rowB,h2]
 have hold:∀ c k,upd (upd st.heap b (some (.arr (.hd p) (hdL l)))) p (some (.pool p t [])) c=some k->c≠p->∃ k0,st.heap c=some k0:=by
  intro c k e hc
  rcases hheap _ _ e with ⟨e,_⟩ | ⟨rfl,_⟩ | ⟨_,_,e⟩
  . exact absurd e hc
  . exact⟨_,hb⟩
  . exact⟨_,e⟩
 have hnil:∀ r,upd ι p (some nilRef) p=some r->r.nil=true:=by intro r e;rw[upd_same] at e;cases e;rfl
 refine⟨hN,F,upd ι p (some nilRef),⟨fun s v hv=>vrep_mono (fun _ h=>h) hι (fun _ _=>rfl) (hs.env s v hv),?_,?_,?_,hs.fsize,hs.fin,hs.below,hs.size,?_,?_,?_,hs.defers⟩⟩
 . intro c k hk
   rcases hheap _ _ hk with ⟨rfl,rfl⟩ | ⟨rfl,rfl⟩ | ⟨h1,h2,e⟩
   . exact⟨nilRef,upd_same _ _ _,rfl,hp',hval,fun n _=>(hHι _ (isH_hn _ _)).trans (hs.pools.free _ n hp' hu),fun n m hm=>by simp at hm⟩
   . obtain⟨r,hr,q0,q⟩:=hs.heap _ _ hb
     refine⟨r,hι _ _ hr,rfl,?_⟩
     cases l with
     | none=>exact q
     | some l=>
      obtain⟨q1,q2,q3,q4,q5,q6,cells,el,qe,q7,q8,q9⟩:=q
      refine⟨q1,q2,by simpa using q3,q4,q5,q6,cells,el,(fun e=>by cases e),q7,q8,fun i y hy=>?_⟩
      simp only[List.getElem?_map,Option.map_eq_some_iff] at hy
      obtain⟨z,hz,rfl⟩:=hy
      have h9:=q9 i z hz
      have hzn:=hc z (List.mem_of_getElem? hz)
      cases z with
      | some z=>cases hzn
      | none=>exact h9
   . obtain⟨r,hr,q⟩:=hs.heap _ _ e
     exact⟨r,hι _ _ hr,q1r hι (fun c hc hn=>(hHι c hc).trans hn) (fun _ _ _ _ _ _ _ _ _=>rfl) (fun _ _=>rfl) (fun _=>rfl) q⟩
 . intro c r hr
   rcases upd_some hr with ⟨rfl,_⟩ | ⟨h1,e⟩
   . exact upd_same _ _ _
   . show upd st.used p true c=true
     rw[upd_other _ _ _ _ h1];exact hs.used _ _ e
 . intro c d k k' r r' hcd hc' hd hr hr' hn hn'
   by_cases e1:c=p
   . subst e1;rw[hnil r hr] at hn;cases hn
   by_cases e2:d=p
   . subst e2;rw[hnil r' hr'] at hn';cases hn'
   obtain⟨k0,f1⟩:=hold _ _ hc' e1
   obtain⟨k1,f2⟩:=hold _ _ hd e2
   rw[upd_other _ _ _ _ e1] at hr
   rw[upd_other _ _ _ _ e2] at hr'
   exact hs.apart c d k0 k1 r r' hcd f1 f2 hr hr' hn hn'
 . intro n hn
   show upd st.used p true n=true
   by_cases e:n=p
   . subst e;exact upd_same _ _ _
   . rw[upd_other _ _ _ _ e];exact hs.upin n hn
 . refine⟨fun c hc'=>?_,fun c hc'=>?_,fun c q u ls e=>?_,fun c d k k' r r' hcd hc' hd hr hr' hn=>?_,fun q n hq hf=>?_⟩
   . show upd (upd st.heap b _) p _ c=none
     rw[upd_other _ _ _ _ (fun e=>by rw[e,hH] at hc';cases hc'),upd_other _ _ _ _ (fun e=>by rw[e,below_isH hbs] at hc';cases hc')]
     exact hs.pools.noH c hc'
   . show upd st.used p true c=true
     rw[upd_other _ _ _ _ (fun e=>by rw[e,hH] at hc';cases hc')];exact hs.pools.uH c hc'
   . rcases hheap _ _ e with ⟨rfl,e⟩ | ⟨_,e⟩ | ⟨_,_,e⟩
     . cases e;rfl
     . cases e
     . exact hs.pools.self _ _ _ _ e
   . have hcH:isH c=true:=by obtain⟨_,_,_,_,_,_,_,e,_⟩:=q0k hc';rw[e];exact isH_hn _ _
     rw[hHι c hcH] at hr
     rcases hd with hd | hd
     . have hdH:isH d=true:=by obtain⟨_,_,_,_,_,_,_,e,_⟩:=q0k hd;rw[e];exact isH_hn _ _
       rw[hHι d hdH] at hr'
       exact hs.pools.apart c d _ _ r r' hcd (hrow _ _ hc') (.inl (hrow _ _ hd)) hr hr' hn
     . by_cases e2:d=p
       . subst e2;rw[hnil r' hr'] at hn;cases hn
       rw[upd_other _ _ _ _ e2] at hr'
       obtain⟨k1,f2⟩:=hold _ _ hd e2
       exact hs.pools.apart c d _ _ r r' hcd (hrow _ _ hc') (.inr f2) hr hr' hn
   . have hqp:q≠p:=by rintro rfl;have:=upd_same st.used q true;rw[show upd st.used q true q=false from hf] at this;cases this
     rw[hHι _ (isH_hn _ _)]
     refine hs.pools.free q n hq ?_
     have hf:upd st.used p true q=false:=hf
     rw[upd_other _ _ _ _ hqp] at hf;exact hf
 . intro n r r' hn hp1 hr
   by_cases e:n=p
   . subst e
     have:=hs.upin n hn
     rw[hu] at this;cases this
   . rw[upd_other _ _ _ _ e] at hr
     exact hs.pin n r r' hn hp1 hr
theorem gv_hd (d p:Nat) (X:Option Nat) (t:Ty) (x:den t):hdT (gv d p X t x).t=hdT t:=by
 cases t with
 | own c=>simp only[gv];cases Nat.beq c d<;>rfl
 | _=>rfl
theorem gv_hd2 (d p:Nat) (X:Option Nat) (t:Ty) (x:den t):hd2 (gv d p X t x).t=hd2 t:=by
 cases t with
 | own c=>simp only[gv];cases Nat.beq c d<;>rfl
 | agg c=>cases c with
  | pair u v=>
   show (hdT (gv d p X u (x:den u×den v).1).t,hdT (gv d p X v (x:den u×den v).2).t)=(hdT u,hdT v)
   rw[gv_hd,gv_hd]
  | own c=>simp only[gv];cases Nat.beq c d<;>rfl
  | _=>rfl
 | _=>rfl
theorem gv_tags (d p:Nat) (X:Option Nat) (t:Ty) (x:den t):isAggT (gv d p X t x).t=isAggT t/\cellT (gv d p X t x).t=cellT t:=by
 cases t with
 | own c=>simp only[gv];cases Nat.beq c d<;>exact⟨rfl,rfl⟩
 | _=>exact⟨rfl,rfl⟩
theorem gv_rep {ι':Nat->Option Ref} {d p:Nat} {X:Option Nat} {r:Ref} (hι:∀ b r,ι b=some r->ι' b=some r) (hd:ι d=some r) (hown:rep w F ι' (.hd p) X [r.val]):
 ∀ (t:Ty) (x:den t) (cs:List Value),rep w F ι t x cs->rep w F ι' (gv d p X t x).t (gv d p X t x).x cs:=by
 have same:∀ (t:Ty) (x:den t) (cs:List Value),rep w F ι t x cs->rep w F ι' t x cs:=fun t x cs h=>rep_mono (fun _ h=>h) hι (fun _ _=>rfl) t x cs h
 intro t
 induction t with
 | own c=>
  intro x cs h
  cases e:Nat.beq c d
  . have e2:gv d p X (.own c) x=⟨.own c,()⟩:=by show (bif Nat.beq c d then _ else _)=_;rw[e];rfl
    rw[e2];exact same _ _ _ h
  . have e2:gv d p X (.own c) x=⟨.hd p,X⟩:=by show (bif Nat.beq c d then _ else _)=_;rw[e];rfl
    rw[Nat.beq_eq] at e;subst e
    rw[e2]
    simp only[rep] at h
    obtain⟨r',hr',rfl⟩:=h
    rw[hd] at hr';cases hr'
    exact hown
 | pair a c iha ihb=>
  intro x cs h
  simp only[rep] at h
  obtain⟨c1,c2,rfl,h1,h2⟩:=h
  simp only[gv,rep]
  exact⟨c1,c2,rfl,iha _ _ h1,ihb _ _ h2⟩
 | agg c ih=>
  intro x cs h
  simp only[rep] at h
  simp only[gv,rep]
  exact ih _ _ h
 | _=>intro x cs h;exact same _ _ _ h
theorem gvX_rep {ι':Nat->Option Ref} {d p:Nat} {X:Option Nat} {r:Ref} (hι:∀ b r,ι b=some r->ι' b=some r) (hd:ι d=some r) (hown:rep w F ι' (.hd p) X [r.val]):
 ∀ (t:Ty) (x:den t) (cs:List Value),rep w F ι t x cs->rep w F ι' (gvT d p t) (gvX d p X t x) cs:=by
 have same:∀ (t:Ty) (x:den t) (cs:List Value),rep w F ι t x cs->rep w F ι' t x cs:=fun t x cs h=>rep_mono (fun _ h=>h) hι (fun _ _=>rfl) t x cs h
 intro t
 induction t with
 | own c=>
  intro x cs h
  have key:∀ b:Bool,(b=true->c=d)->rep w F ι' (bif b then .hd p else .own c) (gvO p c X b) cs:=by
   intro b hb
   cases b with
   | false=>exact same _ _ _ h
   | true=>
    have:=hb rfl
    subst this
    simp only[rep] at h
    obtain⟨r',hr',rfl⟩:=h
    rw[hd] at hr';cases hr'
    exact hown
  exact key (Nat.beq c d) fun e=>Nat.eq_of_beq_eq_true e
 | pair a c iha ihb=>
  intro x cs h
  simp only[rep] at h
  obtain⟨c1,c2,rfl,h1,h2⟩:=h
  exact⟨c1,c2,rfl,iha _ _ h1,ihb _ _ h2⟩
 | agg c ih=>intro x cs h;exact ih _ _ h
 | _=>intro x cs h;exact same _ _ _ h
theorem gvT_tags (d p:Nat) (t:Ty):isAggT (gvT d p t)=isAggT t/\cellT (gvT d p t)=cellT t/\(gvT d p t=.int .u8->t=.int .u8):=by
 cases t with
 | own c=>simp only[gvT];cases Nat.beq c d<;>exact⟨rfl,rfl,fun e=>by cases e⟩
 | pair a b=>exact⟨rfl,rfl,fun e=>by cases e⟩
 | agg c=>exact⟨rfl,rfl,fun e=>by cases e⟩
 | _=>exact⟨rfl,rfl,id⟩
theorem gvT_width (d p:Nat) (t:Ty):width (gvT d p t)=width t:=by
 induction t with
 | own c=>simp only[gvT];cases Nat.beq c d<;>rfl
 | pair x y ih1 ih2=>show width (gvT d p x)+width (gvT d p y)=_;rw[ih1,ih2];rfl
 | agg c ih=>exact ih
 | _=>rfl
theorem gv_vrep {ι':Nat->Option Ref} {d p:Nat} {X:Option Nat} {r:Ref} (hι:∀ b r,ι b=some r->ι' b=some r) (hd:ι d=some r) (hown:rep w F ι' (.hd p) X [r.val]) {t:Ty} {x:den t} {v:Value} (h:vrep w F ι t x v):
 vrep w F ι' (gv d p X t x).t (gv d p X t x).x v:=by
 have same:vrep w F ι' t x v:=vrep_mono (fun _ h=>h) hι (fun _ _=>rfl) h
 have htag:=gv_tags d p X t x
 by_cases hv:valT t=true
 . rcases valT_or hv with h1 | h1
   . rw[vrep_agg (htag.1.trans h1)]
     rw[vrep_agg h1] at h
     obtain⟨cs,rfl,h⟩:=h
     exact⟨cs,rfl,gv_rep hι hd hown _ _ _ h⟩
   . rw[vrep_cell (htag.2.trans h1)]
     rw[vrep_cell h1] at h
     exact gv_rep hι hd hown _ _ _ h
 . cases t<;>first
    | exact same
    | exact absurd rfl hv
    | (simp[vrep,vrep1,isAggT,cellT] at h)
theorem prow_H {hp:Nat->Option Blk} {b:Nat} {k:Blk} (h:prow hp b=some k):isH b=true:=by
 obtain⟨_,_,_,_,_,_,_,e,_⟩:=q0k h
 rw[e];exact isH_hn _ _
theorem gvL_get {α:Type} {ls:List (List α)} {l:Option (List α)} {n:Nat} {m:List α} (h:(gvL ls l)[n]?=some m):ls[n]?=some m∨(n=ls.length/\l=some m):=by
 unfold gvL at h
 rcases Nat.lt_or_ge n ls.length with h1 | h1
 . rw[List.getElem?_append_left h1] at h;exact .inl h
 . rw[List.getElem?_append_right h1] at h
   cases l with
   | none=>simp at h
   | some l=>
    refine .inr ?_
    cases h2:n - ls.length with
    | zero=>rw[h2] at h;simp at h;exact⟨by omega,by rw[h]⟩
    | succ k=>rw[h2] at h;simp at h
theorem Ok.giv (h:Ok base w0 F0 N st a w) {d p:Nat} {st':St} (hg:st.giv d p=some st'):Ok base w0 F0 N st' a w:=by
 obtain⟨hN,F,ι,hs⟩:=h
 unfold St.giv at hg
 split at hg<;>try (simp at hg;done)
 rename_i t l hb
 split at hg<;>try (simp at hg;done)
 rename_i q u ls hp
 split at hg<;>try (simp at hg;done)
 rename_i l' hl
 obtain⟨hpq,e0⟩:=bif_some hg
 subst e0
 clear hg
 simp only[Bool.and_eq_true,Nat.beq_eq,Bool.not_eq_true'] at hpq
 obtain⟨hpq,hpin⟩:=hpq
 subst hpq
 obtain⟨e,hl⟩:=castT_some hl
 cases e
 have hl:l=l':=hl
 subst hl
 obtain⟨r,hr,hk⟩:=hs.heap _ _ hb
 obtain⟨r0,hr0,q1,q2,q3,q4,q5⟩:=hs.heap _ _ hp
 let ι':Nat->Option Ref:=match l with
  | none=>ι
  | some _=>upd ι (hnm p ls.length) (some r)
 have hst:∀ c,c≠hnm p ls.length->ι' c=ι c:=by
  intro c hc
  cases l with
  | none=>rfl
  | some m=>exact upd_other _ _ _ _ hc
 have hnew:∀ c r',ι' c=some r'->ι c=some r'∨(c=hnm p ls.length/\r'=r/\∃ m,l=some m):=by
  intro c r' e
  by_cases hc:c=hnm p ls.length
  . cases l with
    | none=>exact .inl e
    | some m=>
     refine .inr ⟨hc,?_,m,rfl⟩
     have e:upd ι (hnm p ls.length) (some r) c=some r':=e
     rw[hc,upd_same] at e
     exact (Option.some.inj e).symm
  . rw[hst c hc] at e;exact .inl e
 have hι:∀ c r,ι c=some r->ι' c=some r:=by
  intro c r e
  rw[hst c (fun hc=>by rw[hc,q4 _ (Nat.le_refl _)] at e;cases e)];exact e
 have hne:∀ c k,st.heap c=some k->c≠hnm p ls.length:=fun c k e hc=>by rw[hc,hs.pools.noH _ (isH_hn _ _)] at e;cases e
 have hdp:d≠p:=by rintro rfl;rw[hb] at hp;cases hp
 have hown:rep w F ι' (.hd p) (gvH l (lenL ls)) [r.val]:=by
  cases l with
  | none=>
   have hn:r.nil=true:=hk.2
   simp only[gvH,Option.map_none,rep,Ref.val,hn,if_true]
  | some m=>
   have hn:r.nil=false:=hk.2.1
   simp only[gvH,Option.map_some,rep]
   exact⟨r,upd_same _ _ _,hn,rfl⟩
 have hheap:∀ c k,(bif Nat.beq c d then none else bif Nat.beq c p then some (Blk.pool p t (gvL ls l)) else gvB d p (gvH l (lenL ls)) (st.heap c))=some k->
  (c=p/\k=.pool p t (gvL ls l))∨(c≠d/\c≠p/\∃ k0,st.heap c=some k0/\((∃ u x,k0=.box u x/\k=.box (gv d p (gvH l (lenL ls)) u x).t (gv d p (gvH l (lenL ls)) u x).x)∨(∃ u x,k0=.arr u x/\k=.arr (gvT d p u) (mapL (gvX d p (gvH l (lenL ls)) u) x))∨((∀ u x,k0≠.box u x)/\k=k0))):=by
  intro c k e
  cases e1:Nat.beq c d<;>rw[e1] at e<;>simp only[cond_true,cond_false,reduceCtorEq] at e
  have n1:c≠d:=fun h=>by rw[h,Nat.beq_refl] at e1;cases e1
  cases e2:Nat.beq c p<;>rw[e2] at e<;>simp only[cond_true,cond_false] at e
  . have n2:c≠p:=fun h=>by rw[h,Nat.beq_refl] at e2;cases e2
    refine .inr ⟨n1,n2,?_⟩
    cases h0:st.heap c with
    | none=>rw[h0] at e;cases e
    | some k0=>
     rw[h0] at e
     refine⟨k0,rfl,?_⟩
     cases k0 with
     | box u x=>exact .inl ⟨u,x,rfl,(Option.some.inj e).symm⟩
     | arr u x=>
      simp only[gvB] at e
      cases ho:hasO d u<;>rw[ho] at e
      . exact .inr (.inr ⟨fun _ _ h=>(by cases h),(Option.some.inj e).symm⟩)
      . exact .inr (.inl ⟨u,x,rfl,(Option.some.inj e).symm⟩)
     | pool q u x=>exact .inr (.inr ⟨fun _ _ h=>(by cases h),(Option.some.inj e).symm⟩)
  . rw[Nat.beq_eq] at e2
    exact .inl ⟨e2,(Option.some.inj e).symm⟩
 have hold:∀ c k,(bif Nat.beq c d then none else bif Nat.beq c p then some (Blk.pool p t (gvL ls l)) else gvB d p (gvH l (lenL ls)) (st.heap c))=some k->c≠d/\∃ k0,st.heap c=some k0:=by
  intro c k e
  rcases hheap c k e with ⟨rfl,_⟩ | ⟨h1,_,k0,h2,_⟩
  . exact⟨fun e=>hdp e.symm,_,hp⟩
  . exact⟨h1,_,h2⟩
 have hrow:∀ c k r',prow (fun c=>bif Nat.beq c d then none else bif Nat.beq c p then some (Blk.pool p t (gvL ls l)) else gvB d p (gvH l (lenL ls)) (st.heap c)) c=some k->ι' c=some r'->
  (∃ k0,prow st.heap c=some k0/\ι c=some r')∨(c=hnm p ls.length/\r'=r/\r.nil=false):=by
  intro c k r' e er
  obtain⟨x,n,q',u',ls',m,hx,rfl,h1,h2,rfl⟩:=q0k e
  rcases hheap _ _ h1 with ⟨rfl,e1⟩ | ⟨_,hxp,k0,e0,h3⟩
  . cases e1
    rcases gvL_get h2 with h3 | ⟨rfl,h3⟩
    . have hn:n<ls.length:=by
       rcases Nat.lt_or_ge n ls.length with h4 | h4
       . exact h4
       . rw[List.getElem?_eq_none h4] at h3;cases h3
      rw[hst _ (fun e=>by have:=(hnm_inj q2 q2 e).2;omega)] at er
      exact .inl ⟨_,by rw[q0b q2,hp];simp only[rowB,h3];rfl,er⟩
    . rcases hnew _ _ er with h4 | ⟨_,h4,_⟩
      . rw[q4 _ (Nat.le_refl _)] at h4;cases h4
      . subst h3
        exact .inr ⟨rfl,h4,hk.2.1⟩
  . rcases h3 with ⟨_,_,_,e1⟩ | ⟨_,_,_,e1⟩ | ⟨_,e1⟩
    . cases e1
    . cases e1
    . subst e1
      rw[hst _ (fun e=>hxp (hnm_inj hx q2 e).1)] at er
      exact .inl ⟨_,by rw[q0b hx,e0];simp only[rowB,h2];rfl,er⟩
 refine⟨hN,F,ι',⟨?_,?_,?_,?_,hs.fsize,hs.fin,hs.below,hs.size,hs.upin,?_,?_,hs.defers⟩⟩
 . intro s v hv
   simp only[gvE] at hv
   split at hv<;>try (simp at hv;done)
   rename_i v0 hv0
   simp only[Option.some.injEq] at hv;subst hv
   exact gv_vrep hι hr hown (hs.env _ _ hv0)
 . intro c k hc
   rcases hheap c k hc with ⟨rfl,rfl⟩ | ⟨h1,h2,k0,h3,h4⟩
   . refine⟨r0,hι _ _ hr0,q1,q2,q3,fun n hn=>?_,fun n m hm=>?_⟩
     . have hlen:ls.length<=n:=Nat.le_trans (by simp[gvL]) hn
       cases hx:ι' (hnm c n) with
       | none=>rfl
       | some r'=>
        rcases hnew _ _ hx with h5 | ⟨h5,_,m,h6⟩
        . rw[q4 n hlen] at h5;cases h5
        . have:=(hnm_inj q2 q2 h5).2
          subst h6
          simp[gvL] at hn
          omega
     . rcases gvL_get hm with h5 | ⟨rfl,h5⟩
       . obtain⟨s,hs',a1,a2,a3,a4,a5,a6,cells,el,ae,a7,a8,a9⟩:=q5 n m h5
         exact⟨s,hι _ _ hs',a1,a2,a3,a4,a5,a6,cells,el,ae,a7,a8,fun i y hy=>rep_mono (fun _ h=>h) hι (fun _ _=>rfl) _ _ _ (a9 i y hy)⟩
       . subst h5
         obtain⟨_,a1,a2,a3,a4,a5,a6,cells,el,ae,a7,a8,a9⟩:=hk
         exact⟨r,upd_same _ _ _,a1,a2,a3,a4,a5,a6,cells,el,ae,a7,a8,fun i y hy=>rep_mono (fun _ h=>h) hι (fun _ _=>rfl) _ _ _ (a9 i y hy)⟩
   . obtain⟨s,hs',hq⟩:=hs.heap _ _ h3
     refine⟨s,hι _ _ hs',?_⟩
     rcases h4 with ⟨u,x,rfl,rfl⟩ | ⟨u,x,rfl,rfl⟩ | ⟨_,rfl⟩
     . obtain⟨p1,p2,p3,p4,p5,cells,el,pb,p6,p7⟩:=hq
       have htag:=gv_tags d p (gvH l (lenL ls)) u x
       exact⟨p1,p2,p3,p4,by simp only[valT,htag.1,htag.2];exact p5,cells,el,fun h=>pb ((bld_hd (gv_hd2 _ _ _ u x)).symm.trans h),p6,gv_rep hι hr hown _ _ _ p7⟩
     . obtain⟨p0,hq⟩:=hq
       have htag:=gvT_tags d p u
       refine⟨by simp only[valT,htag.1,htag.2.1];exact p0,?_⟩
       cases x with
       | none=>exact hq
       | some x=>
        obtain⟨p1,p2,p3,p4,p5,p6,cells,el,pe,p7,p8,p9⟩:=hq
        refine⟨p1,p2.trans (gvT_width d p u).symm,by simpa using p3,p4,p5,p6,cells,el,fun e=>pe (htag.2.2 e),p7,p8,fun i y hy=>?_⟩
        simp only[List.getElem?_map,Option.map_eq_some_iff] at hy
        obtain⟨z,hz,rfl⟩:=hy
        rw[gvT_width]
        exact gvX_rep hι hr hown _ _ _ (p9 i z hz)
     . cases k with
       | pool q u ls2=>
        have e:=hs.pools.self _ _ _ _ h3
        subst e
        obtain⟨z1,z2,z3,z4,z5⟩:=hq
        refine⟨z1,z2,z3,fun n hn=>?_,fun n m hm=>?_⟩
        . rw[hst _ (fun e=>h2 (hnm_inj z2 q2 e).1)];exact z4 n hn
        . obtain⟨s,hs',a1,a2,a3,a4,a5,a6,cells,el,ae,a7,a8,a9⟩:=z5 n m hm
          exact⟨s,hι _ _ hs',a1,a2,a3,a4,a5,a6,cells,el,ae,a7,a8,fun i y hy=>rep_mono (fun _ h=>h) hι (fun _ _=>rfl) _ _ _ (a9 i y hy)⟩
       | box u x=>
        obtain⟨p1,p2,p3,p4,p5,cells,el,pb,p6,p7⟩:=hq
        exact⟨p1,p2,p3,p4,p5,cells,el,pb,p6,rep_mono (fun _ h=>h) hι (fun _ _=>rfl) _ _ _ p7⟩
       | arr u x=>
        obtain⟨p0,hq⟩:=hq
        refine⟨p0,?_⟩
        cases x with
        | none=>exact hq
        | some x=>
         obtain⟨p1,p2,p3,p4,p5,p6,cells,el,pe,p7,p8,p9⟩:=hq
         exact⟨p1,p2,p3,p4,p5,p6,cells,el,pe,p7,p8,fun i y hy=>rep_mono (fun _ h=>h) hι (fun _ _=>rfl) _ _ _ (p9 i y hy)⟩
 . intro c r' e
   rcases hnew _ _ e with h1 | ⟨rfl,_⟩
   . exact hs.used _ _ h1
   . exact hs.pools.uH _ (isH_hn _ _)
 . intro c e k k' r1 r2 hce hc he h1 h2 n1 n2
   obtain⟨_,k0,f1⟩:=hold c k hc
   obtain⟨_,k1,f2⟩:=hold e k' he
   rw[hst _ (hne _ _ f1)] at h1
   rw[hst _ (hne _ _ f2)] at h2
   exact hs.apart c e k0 k1 r1 r2 hce f1 f2 h1 h2 n1 n2
 . have hdrow:∀ c k0 r',prow st.heap c=some k0->ι c=some r'->r.nil=false->r'.blk≠r.blk:=fun c k0 r' e1 e2 hn=>
    hs.pools.apart c d _ _ r' r (fun e=>by rw[e] at e1;exact (hs.row_static e1 hb).elim) e1 (.inr hb) e2 hr hn
   refine⟨fun c hc=>?_,hs.pools.uH,fun c q' u' ls' e=>?_,fun c e k k' r1 r2 hce hc he h1 h2 n2=>?_,fun x n hx hu=>?_⟩
   . cases e:(bif Nat.beq c d then none else bif Nat.beq c p then some (Blk.pool p t (gvL ls l)) else gvB d p (gvH l (lenL ls)) (st.heap c)) with
     | none=>exact e
     | some k=>obtain⟨_,k0,f1⟩:=hold c k e;rw[hs.pools.noH c hc] at f1;cases f1
   . rcases hheap _ _ e with ⟨rfl,e1⟩ | ⟨_,_,k0,e0,h3⟩
     . cases e1;rfl
     . rcases h3 with ⟨_,_,_,e1⟩ | ⟨_,_,_,e1⟩ | ⟨_,e1⟩
       . cases e1
       . cases e1
       . subst e1;exact hs.pools.self _ _ _ _ e0
   . rcases he with he | he
     . rcases hrow _ _ _ hc h1 with ⟨k0,f1,g1⟩ | ⟨f1,g1,m1⟩<;>rcases hrow _ _ _ he h2 with ⟨k1,f2,g2⟩ | ⟨f2,g2,m2⟩
       . exact hs.pools.apart c e _ _ r1 r2 hce f1 (.inl f2) g1 g2 n2
       . rw[g2];exact hdrow _ _ _ f1 g1 m2
       . rw[g1];exact fun e=>hdrow _ _ _ f2 g2 m1 e.symm
       . exact absurd (f1.trans f2.symm) hce
     . obtain⟨hed,k1,f2⟩:=hold e k' he
       rw[hst _ (hne _ _ f2)] at h2
       rcases hrow _ _ _ hc h1 with ⟨k0,f1,g1⟩ | ⟨f1,g1,m1⟩
       . exact hs.pools.apart c e _ _ r1 r2 hce f1 (.inr f2) g1 h2 n2
       . rw[g1];exact hs.apart d e _ _ r r2 (fun e=>hed e.symm) hb f2 hr h2 m1 n2
   . have h0:=hs.pools.free x n hx hu
     cases hx2:ι' (hnm x n) with
     | none=>rfl
     | some r'=>
      rcases hnew _ _ hx2 with h5 | ⟨h5,_⟩
      . rw[h0] at h5;cases h5
      . have e:=(hnm_inj hx q2 h5).1
        subst e
        have:=hs.used _ _ hr0
        rw[show st.used x=false from hu] at this;cases this
 . intro n r1 r2 hn h1 h2
   rcases hnew _ _ h2 with h3 | ⟨rfl,_⟩
   . exact hs.pin n r1 r2 hn h1 h3
   . unfold pinned at hn hpin
     rw[q0Q q2] at hn
     rw[Nat.mod_eq_of_lt q2,hn] at hpin;cases hpin
theorem unT_hd (p:Nat) (u t:Ty):hdT (unT p u t)=hdT t:=by
 cases t with
 | sl t=>show hdT (bif hasP p t then _ else _)=_;cases hasP p t<;>rfl
 | hd q=>show hdT (bif Nat.beq q p then _ else _)=_;cases Nat.beq q p<;>rfl
 | _=>rfl
theorem unT_hd2 (p:Nat) (u t:Ty):hd2 (unT p u t)=hd2 t:=by
 cases t with
 | sl t=>show hd2 (bif hasP p t then _ else _)=_;cases hasP p t<;>rfl
 | hd q=>show hd2 (bif Nat.beq q p then _ else _)=_;cases Nat.beq q p<;>rfl
 | agg c=>cases c with
  | pair x y=>
   show (hdT (unT p u x),hdT (unT p u y))=(hdT x,hdT y)
   rw[unT_hd,unT_hd]
  | hd q=>show hd2 (.agg (bif Nat.beq q p then _ else _))=_;cases Nat.beq q p<;>rfl
  | sl t=>show hd2 (.agg (bif hasP p t then _ else _))=_;cases hasP p t<;>rfl
  | _=>rfl
 | _=>rfl
theorem q76 (p:Nat) (u t:Ty):isAggT (unT p u t)=isAggT t/\cellT (unT p u t)=cellT t:=by
 cases t with
 | hd q=>show isAggT (bif Nat.beq q p then _ else _)=_/\cellT (bif Nat.beq q p then _ else _)=_;cases Nat.beq q p<;>exact⟨rfl,rfl⟩
 | sl t=>show isAggT (bif hasP p t then _ else _)=_/\cellT (bif hasP p t then _ else _)=_;cases hasP p t<;>exact⟨rfl,rfl⟩
 | _=>exact⟨rfl,rfl⟩
theorem unT_width (p:Nat) (u t:Ty):width (unT p u t)=width t:=by
 induction t with
 | hd q=>show width (bif Nat.beq q p then _ else _)=_;cases Nat.beq q p<;>rfl
 | sl t _=>show width (bif hasP p t then _ else _)=_;cases hasP p t<;>rfl
 | pair x y ih1 ih2=>show width (unT p u x)+width (unT p u y)=_;rw[ih1,ih2];rfl
 | agg c ih=>exact ih
 | _=>rfl
theorem unT_val (p:Nat) (u t:Ty):valT (unT p u t)=valT t:=by
 have h:=q76 p u t
 simp only[valT,h.1,h.2]
theorem unT_u8 {p:Nat} {u t:Ty} (h:unT p u t=.int .u8):t=.int .u8:=by
 cases t with
 | hd q=>
  have h:(bif Nat.beq q p then Ty.sl u else Ty.hd q)=.int .u8:=h
  cases e:Nat.beq q p<;>rw[e] at h<;>cases h
 | sl t=>
  have h:(bif hasP p t then Ty.sl (unT p u t) else Ty.sl t)=.int .u8:=h
  cases e:hasP p t<;>rw[e] at h<;>cases h
 | pair x y=>cases h
 | agg c=>cases h
 | _=>exact h
theorem q2O {F':Nat->Prop} {p:Nat} {u:Ty} {ls:List (List (den u))} (hF:∀ k,F k->F' k) (hrow:∀ n r,ι (hnm p n)=some r->r.nil=false->rep w F' ι (.sl u) (unH ls (some n)) [r.val]):
 ∀ (t:Ty) (x:den t) (cs:List Value),rep w F ι t x cs->rep w F' ι (unT p u t) (unX p u ls t x) cs:=by
 have same:∀ (t:Ty) (x:den t) (cs:List Value),rep w F ι t x cs->rep w F' ι t x cs:=fun t x cs h=>rep_mono hF (fun _ _ h=>h) (fun _ _=>rfl) t x cs h
 intro t
 induction t with
 | hd q=>
  intro x cs h
  have key:∀ b:Bool,(b=true->q=p)->rep w F' ι (bif b then .sl u else .hd q) (unB u q ls b x) cs:=by
   intro b hb
   cases b with
   | false=>exact same _ _ _ h
   | true=>
    have:=hb rfl
    subst this
    cases x with
    | none=>exact h
    | some n=>
     simp only[rep] at h
     obtain⟨r,hr,hn,rfl⟩:=h
     exact hrow n r hr hn
  exact key (Nat.beq q p) fun e=>Nat.eq_of_beq_eq_true e
 | pair a c iha ihb=>
  intro x cs h
  simp only[rep] at h
  obtain⟨c1,c2,rfl,h1,h2⟩:=h
  exact⟨c1,c2,rfl,iha _ _ h1,ihb _ _ h2⟩
 | agg c ih=>intro x cs h;exact ih _ _ h
 | sl t ih=>
  intro x cs h
  have key:∀ b:Bool,rep w F' ι (bif b then .sl (unT p u t) else .sl t) (unS (unX p u ls t) b x) cs:=by
   intro b
   cases b with
   | false=>exact same _ _ _ h
   | true=>
    cases x with
    | none=>exact h
    | some l=>
     simp only[rep] at h
     obtain⟨a,cap,rfl,hl,hr⟩:=h
     show rep w F' ι (.sl (unT p u t)) (some (l.map (unX p u ls t))) _
     simp only[rep]
     refine⟨a,cap,by simp,by simpa using hl,fun hn=>?_⟩
     obtain⟨cells,el,fz,hs,hf',hb,hr⟩:=hr (by intro e;subst e;simp at hn)
     refine⟨cells,el,fz,hs,hF _ hf',hb,fun i y hy=>?_⟩
     simp only[List.getElem?_map,Option.map_eq_some_iff] at hy
     obtain⟨z,hz,rfl⟩:=hy
     rw[unT_width]
     exact ih _ _ (hr i z hz)
  exact key (hasP p t)
 | _=>intro x cs h;exact same _ _ _ h
theorem unX_vrep {F':Nat->Prop} {p:Nat} {u:Ty} {ls:List (List (den u))} (hF:∀ k,F k->F' k) (hrow:∀ n r,ι (hnm p n)=some r->r.nil=false->rep w F' ι (.sl u) (unH ls (some n)) [r.val]) {t:Ty} {x:den t} {v:Value} (h:vrep w F ι t x v):
 vrep w F' ι (unT p u t) (unX p u ls t x) v:=by
 have same:vrep w F' ι t x v:=vrep_mono hF (fun _ _ h=>h) (fun _ _=>rfl) h
 have htag:=q76 p u t
 by_cases hv:valT t=true
 . rcases valT_or hv with h1 | h1
   . rw[vrep_agg (htag.1.trans h1)]
     rw[vrep_agg h1] at h
     obtain⟨cs,rfl,h⟩:=h
     exact⟨cs,rfl,q2O hF hrow _ _ _ h⟩
   . rw[vrep_cell (htag.2.trans h1)]
     rw[vrep_cell h1] at h
     exact q2O hF hrow _ _ _ h
 . cases t<;>first
    | exact same
    | exact absurd rfl hv
    | (simp[vrep,vrep1,isAggT,cellT] at h)
theorem Ok.frp (h:Ok base w0 F0 N st a w) {p:Nat} {st':St} (hg:st.frp p=some st'):Ok base w0 F0 N st' a w:=by
 obtain⟨hN,F,ι,hs⟩:=h
 unfold St.frp at hg
 split at hg<;>try (simp at hg;done)
 rename_i q u ls hp
 obtain⟨hpq,e0⟩:=bif_some hg
 subst e0
 clear hg
 simp only[Bool.and_eq_true,Nat.beq_eq] at hpq
 obtain⟨rfl,hfz⟩:=hpq
 obtain⟨r0,hr0,q1,q2,q3,q4,q5⟩:=hs.heap _ _ hp
 let F':Nat->Prop:=fun k=>F k∨∃ n l r,ls[n]?=some l/\ι (hnm p n)=some r/\k=r.blk
 have hF:∀ k,F k->F' k:=fun k h=>.inl h
 have hpr:∀ n l,ls[n]?=some l->prow st.heap (hnm p n)=some (.arr u (some l)):=by
  intro n l e
  rw[q0b q2,hp];simp only[rowB,e]
 have hrow:∀ n r,ι (hnm p n)=some r->r.nil=false->rep w F' ι (.sl u) (unH ls (some n)) [r.val]:=by
  intro n r hr hn
  have hlt:n<ls.length:=by
   rcases Nat.lt_or_ge n ls.length with h1 | h1
   . exact h1
   . rw[q4 n h1] at hr;cases hr
  obtain⟨s,hs',a1,a2,a3,a4,a5,a6,cells,el,ae,a7,a8,a9⟩:=q5 n _ (List.getElem?_eq_getElem hlt)
  rw[hr] at hs';cases hs'
  have e:ls.getD n []=ls[n]:=by simp[List.getD,List.getElem?_eq_getElem hlt]
  simp only[unH,Option.map_some,e,rep,Ref.val,a1,if_false,Bool.false_eq_true,a3]
  exact⟨⟨r.blk,r.off,none⟩,r.cap,rfl,by omega,fun _=>⟨cells,el,(0,0),rfl,.inr ⟨n,_,r,List.getElem?_eq_getElem hlt,hr,rfl⟩,a7,fun i y hy=>rep_mono hF (fun _ _ h=>h) (fun _ _=>rfl) _ _ _ (a9 i y hy)⟩⟩
 have hheap:∀ c k,(bif Nat.beq c p then none else unK p u ls (st.heap c))=some k->c≠p/\∃ k0,st.heap c=some k0/\unK p u ls (some k0)=some k:=by
  intro c k e
  cases e1:Nat.beq c p<;>rw[e1] at e<;>simp only[cond_true,cond_false,reduceCtorEq] at e
  refine⟨(fun h=>by rw[h,Nat.beq_refl] at e1;cases e1),?_⟩
  cases h0:st.heap c with
  | none=>rw[h0] at e;cases e
  | some k0=>rw[h0] at e;exact⟨k0,rfl,e⟩
 have hstat:∀ c k r,c≠p->st.heap c=some k->ι c=some r->r.nil=false->¬ F r.blk->¬ F' r.blk:=by
  rintro c k r hc hk hr hn hnF (h1 | ⟨n,l,s,h1,h2,h3⟩)
  . exact hnF h1
  . exact hs.pools.apart (hnm p n) c _ _ s r (fun e=>by rw[<-e,hs.pools.noH _ (isH_hn _ _)] at hk;cases hk) (hpr n l h1) (.inr hk) h2 hr hn h3.symm
 refine⟨hN,F',ι,⟨?_,?_,hs.used,?_,?_,?_,hs.below,hs.size,hs.upin,?_,hs.pin,hs.defers⟩⟩
 . intro s v hv
   simp only[unE] at hv
   split at hv<;>try (simp at hv;done)
   rename_i v0 hv0
   simp only[Option.some.injEq] at hv;subst hv
   exact unX_vrep hF hrow (hs.env _ _ hv0)
 . intro c k hc
   obtain⟨hne,k0,h0,hk⟩:=hheap c k hc
   obtain⟨r,hr,hq⟩:=hs.heap _ _ h0
   refine⟨r,hr,?_⟩
   cases k0 with
   | box t x=>
    simp only[unK,Option.some.injEq] at hk;subst hk
    obtain⟨p1,p2,p3,p4,p5,cells,el,pb,p6,p7⟩:=hq
    exact⟨p1,p2,p3,hstat c _ r hne h0 hr p1 p4,(unT_val p u t).trans p5,cells,el,fun h=>pb ((bld_hd (unT_hd2 p u t)).symm.trans h),p6,q2O hF hrow _ _ _ p7⟩
   | arr t l=>
    simp only[unK,Option.some.injEq] at hk;subst hk
    obtain⟨p0,hq⟩:=hq
    refine⟨(unT_val p u t).trans p0,?_⟩
    cases l with
    | none=>exact hq
    | some l=>
     obtain⟨p1,p2,p3,p4,p5,p6,cells,el,pe,p7,p8,p9⟩:=hq
     refine⟨p1,p2.trans (unT_width p u t).symm,by simpa using p3,p4,p5,hstat c _ r hne h0 hr p1 p6,cells,el,fun e=>pe (unT_u8 e),p7,p8,fun i y hy=>?_⟩
     rw[unT_width]
     simp only[List.getElem?_map,Option.map_eq_some_iff] at hy
     obtain⟨z,hz,rfl⟩:=hy
     exact q2O hF hrow _ _ _ (p9 i z hz)
   | pool q t l=>
    simp only[unK,Option.some.injEq] at hk;subst hk
    have e:=hs.pools.self _ _ _ _ h0
    subst e
    obtain⟨z1,z2,z3,z4,z5⟩:=hq
    refine⟨z1,z2,(unT_val p u t).trans z3,fun n hn=>z4 n (by simpa using hn),fun n m hm=>?_⟩
    simp only[List.getElem?_map,Option.map_eq_some_iff] at hm
    obtain⟨m0,hm0,rfl⟩:=hm
    obtain⟨s,hs',a1,a2,a3,a4,a5,a6,cells,el,ae,a7,a8,a9⟩:=z5 n m0 hm0
    refine⟨s,hs',a1,a2.trans (unT_width p u t).symm,by simpa using a3,a4,a5,?_,cells,el,fun e=>ae (unT_u8 e),a7,a8,fun i y hy=>?_⟩
    . rintro (h1 | ⟨n',l',s',h1,h2,h3⟩)
      . exact a6 h1
      . exact hs.pools.apart (hnm p n') (hnm q n) _ _ s' s (fun e=>hne (hnm_inj q2 z2 e).1.symm) (hpr n' l' h1) (.inl (by rw[q0b z2,h0];simp only[rowB,hm0];rfl)) h2 hs' a1 h3.symm
    . rw[unT_width]
      simp only[List.getElem?_map,Option.map_eq_some_iff] at hy
      obtain⟨z,hz,rfl⟩:=hy
      exact q2O hF hrow _ _ _ (a9 i z hz)
 . intro c d k k' r r' hcd hc hd
   obtain⟨_,k0,f1,_⟩:=hheap c k hc
   obtain⟨_,k1,f2,_⟩:=hheap d k' hd
   exact hs.apart c d k0 k1 r r' hcd f1 f2
 . rintro k (h | ⟨n,l,r,h1,h2,rfl⟩)
   . exact hs.fsize _ h
   . exact hs.row_lt (hpr n l h1) h2
 . rintro k (h | ⟨n,l,r,h1,h2,rfl⟩)
   . exact hs.fin _ h
   . obtain⟨s,hs',_,_,_,_,a5,_⟩:=q5 n l h1
     rw[h2] at hs';cases hs'
     exact .inr a5
 . refine hs.pools.sub (fun c k e=>?_) fun c q t l e=>?_
   . obtain⟨_,k0,f1,_⟩:=hheap c k e
     exact⟨k0,f1⟩
   . obtain⟨_,k0,f1,f2⟩:=hheap _ _ e
     cases k0 with
     | box t x=>cases f2
     | arr t x=>cases f2
     | pool q' t' l'=>cases f2;exact⟨t',l',f1,by simp⟩
theorem q5P {α:Type} {b:Bool} {x y:α} (h:(bif b then none else some x)=some y):b=false/\x=y:=by
 cases b<;>simp_all
theorem Sim.rebase (hN:a.tmps.size=N) (hs:Sim base w0 F0 F ι st a w) {t d b:Nat} {u:Ty} {l l':Option (List (den u))} {r r':Ref} (hb:st.heap b=some (.arr u l)) (hr:ι b=some r) (hu:st.used d=false) (hv:a.tmps.getD t undef=r'.val)
 (hbr:brep w base F (upd ι d (some r')) r (.arr u l)->brep w base F (upd ι d (some r')) r' (.arr u l')) (hn:r'.nil=false->r.nil=false/\r'.blk=r.blk):
 Ok base w0 F0 N ⟨upd st.env t (some ⟨.own d,()⟩),upd (upd st.heap b none) d (some (.arr u l')),upd st.used d true⟩ a w:=by
 obtain⟨hip,hhp,hH⟩:=hs.unused hu
 have hbd:b≠d:=by rintro rfl;rw[hb] at hhp;cases hhp
 have hι:∀ c q,ι c=some q->upd ι d (some r') c=some q:=by
  intro c q e
  rw[upd_other _ _ _ _ (fun e'=>by rw[e',hip] at e;cases e)];exact e
 have hHι:∀ c,isH c=true->upd ι d (some r') c=ι c:=fun c hc=>upd_other _ _ _ _ fun e=>by rw[e,hH] at hc;cases hc
 have hheap:∀ c k,upd (upd st.heap b none) d (some (.arr u l')) c=some k->(c=d/\k=.arr u l')∨(c≠d/\c≠b/\st.heap c=some k):=by
  intro c k e
  rcases upd_some e with ⟨h1,e1⟩ | ⟨h1,e1⟩
  . exact .inl ⟨h1,(Option.some.inj e1).symm⟩
  . rcases upd_some e1 with ⟨_,e2⟩ | ⟨h2,e2⟩
    . cases e2
    . exact .inr ⟨h1,h2,e2⟩
 have hrow:∀ c k,prow (upd (upd st.heap b none) d (some (.arr u l'))) c=some k->prow st.heap c=some k:=by
  intro c k e
  obtain⟨q,n,q',u',ls,m,hq,rfl,h1,h2,rfl⟩:=q0k e
  rcases hheap _ _ h1 with ⟨_,e⟩ | ⟨_,_,e⟩
  . cases e
  . rw[q0b hq,e];simp only[rowB,h2]
 refine⟨hN,F,upd ι d (some r'),⟨?_,?_,?_,?_,hs.fsize,hs.fin,hs.below,hs.size,?_,?_,?_,hs.defers⟩⟩
 . intro s v hv'
   rcases upd_some hv' with ⟨rfl,e⟩ | ⟨_,e⟩
   . cases e
     refine⟨rfl,?_⟩
     simp only[rep,List.cons.injEq,and_true]
     exact⟨r',upd_same _ _ _,hv⟩
   . exact vrep_mono (fun _ h=>h) hι (fun _ _=>rfl) (hs.env s v e)
 . intro c k hk
   rcases hheap _ _ hk with ⟨rfl,rfl⟩ | ⟨h1',h2',e⟩
   . refine⟨r',upd_same _ _ _,hbr ?_⟩
     obtain⟨r0,hr0,q⟩:=hs.heap _ _ hb
     rw[hr] at hr0;cases hr0
     exact q1r hι (fun c hc hn=>(hHι c hc).trans hn) (fun _ _ _ _ _ _ _ _ _=>rfl) (fun _ _=>rfl) (fun _=>rfl) q
   . obtain⟨q0,hr0,q⟩:=hs.heap _ _ e
     exact⟨q0,hι _ _ hr0,q1r hι (fun c hc hn=>(hHι c hc).trans hn) (fun _ _ _ _ _ _ _ _ _=>rfl) (fun _ _=>rfl) (fun _=>rfl) q⟩
 . intro c q hq
   rcases upd_some hq with ⟨rfl,_⟩ | ⟨h1',e⟩
   . exact upd_same _ _ _
   . show upd st.used d true c=true
     rw[upd_other _ _ _ _ h1'];exact hs.used _ _ e
 . have key:∀ c k q q',c≠d->c≠b->st.heap c=some k->upd ι d (some r') c=some q->upd ι d (some r') d=some q'->q.nil=false->q'.nil=false->q.blk≠q'.blk:=by
    intro c k q q' e1 e2 e hq hq' hn1 hn2
    rw[upd_same] at hq';cases hq'
    rw[upd_other _ _ _ _ e1] at hq
    obtain⟨g1,g2⟩:=hn hn2
    rw[g2]
    exact hs.apart c b _ _ q r e2 e hb hq hr hn1 g1
   intro c e k k' q q' hce hc he hq hq' hn1 hn2
   rcases hheap _ _ hc with ⟨g1,_⟩ | ⟨c1,c2,g2⟩<;>rcases hheap _ _ he with ⟨g3,_⟩ | ⟨c3,c4,g4⟩
   . exact absurd (g1.trans g3.symm) hce
   . subst g1;exact fun e'=>key _ _ _ _ c3 c4 g4 hq' hq hn2 hn1 e'.symm
   . subst g3;exact key _ _ _ _ c1 c2 g2 hq hq' hn1 hn2
   . rw[upd_other _ _ _ _ c1] at hq
     rw[upd_other _ _ _ _ c3] at hq'
     exact hs.apart c e k k' q q' hce g2 g4 hq hq' hn1 hn2
 . intro n hn'
   show upd st.used d true n=true
   by_cases e:n=d
   . subst e;exact upd_same _ _ _
   . rw[upd_other _ _ _ _ e];exact hs.upin n hn'
 . refine⟨fun c hc'=>?_,fun c hc'=>?_,fun c q u' ls e=>?_,fun c e k k' q q' hcd hc' hd hq hq' hn1=>?_,fun q n hq hf=>?_⟩
   . show upd (upd st.heap b none) d _ c=none
     rw[upd_other _ _ _ _ (fun e=>by rw[e,hH] at hc';cases hc')]
     by_cases e:c=b
     . subst e;exact upd_same _ _ _
     . rw[upd_other _ _ _ _ e];exact hs.pools.noH c hc'
   . show upd st.used d true c=true
     rw[upd_other _ _ _ _ (fun e=>by rw[e,hH] at hc';cases hc')];exact hs.pools.uH c hc'
   . rcases hheap _ _ e with ⟨_,e⟩ | ⟨_,_,e⟩
     . cases e
     . exact hs.pools.self _ _ _ _ e
   . have hcH:isH c=true:=by obtain⟨_,_,_,_,_,_,_,e,_⟩:=q0k hc';rw[e];exact isH_hn _ _
     rw[hHι c hcH] at hq
     rcases hd with hd | hd
     . have hdH:isH e=true:=by obtain⟨_,_,_,_,_,_,_,e,_⟩:=q0k hd;rw[e];exact isH_hn _ _
       rw[hHι e hdH] at hq'
       exact hs.pools.apart c e _ _ q q' hcd (hrow _ _ hc') (.inl (hrow _ _ hd)) hq hq' hn1
     . rcases hheap _ _ hd with ⟨rfl,_⟩ | ⟨c3,_,hd⟩
       . rw[upd_same] at hq';cases hq'
         have hcb:c≠b:=by rintro rfl;exact (hs.row_static (hrow _ _ hc') hb).elim
         obtain⟨g1,g2⟩:=hn hn1
         rw[g2]
         exact hs.pools.apart c b _ _ q r hcb (hrow _ _ hc') (.inr hb) hq hr g1
       . rw[upd_other _ _ _ _ c3] at hq'
         exact hs.pools.apart c e _ _ q q' hcd (hrow _ _ hc') (.inr hd) hq hq' hn1
   . have hqp:q≠d:=by rintro rfl;have:=upd_same st.used q true;rw[show upd st.used q true q=false from hf] at this;cases this
     rw[hHι _ (isH_hn _ _)]
     refine hs.pools.free q n hq ?_
     have hf:upd st.used d true q=false:=hf
     rw[upd_other _ _ _ _ hqp] at hf;exact hf
 . intro n q q' hn' hp1 hq
   by_cases e:n=d
   . subst e
     have:=hs.upin n hn'
     rw[hu] at this;cases this
   . rw[upd_other _ _ _ _ e] at hq
     exact hs.pin n q q' hn' hp1 hq
theorem Ok.cut (h:Ok base w0 F0 N st a w) {t d:Nat} {st':St} (hg:st.cut t d=some st'):Ok base w0 F0 N st' a w:=by
 obtain⟨hN,F,ι,hs⟩:=h
 unfold St.cut at hg
 split at hg<;>try (simp at hg;done)
 . rename_i b x hx
   split at hg<;>try (simp at hg;done)
   rename_i u l hb
   obtain⟨hu,e0⟩:=q5P hg
   subst e0
   clear hg
   obtain⟨lo,hi⟩:Int×Int:=x
   have hv:=hs.env _ _ hx
   simp only[vrep,vrep1,isAggT,rep,List.cons.injEq,and_true] at hv
   obtain⟨_,r,hr,hn,h0,h1,h2,hv⟩:=hv
   let r':Ref:=⟨r.blk,if r.cap=lo.toNat then r.off else r.off+lo.toNat*r.wd,r.wd,false,hi.toNat - lo.toNat,r.cap - lo.toNat⟩
   have hrv:r'.val=r.view lo hi:=by simp only[Ref.val,Ref.view,r',if_false,Bool.false_eq_true]
   refine hs.rebase hN (r':=r') hb hr hu (hv.trans hrv.symm) (fun hk=>?_) fun _=>⟨hn,rfl⟩
   obtain⟨p0,q⟩:=hk
   cases l with
   | none=>rw[show r.nil=true from q] at hn;cases hn
   | some l=>
    obtain⟨_,q2,q3,q4,q5,q6,cells,el,qe,q7,q8,q9⟩:=q
    refine⟨p0,rfl,q2,?_,?_,q5,q6,cells,el,qe,q7,?_,fun i y hy=>?_⟩
    . show hi.toNat - lo.toNat=((l.take hi.toNat).drop lo.toNat).length
      simp only[List.length_drop,List.length_take];omega
    . show hi.toNat - lo.toNat<=r.cap - lo.toNat
      omega
    . show (if r.cap=lo.toNat then r.off else r.off+lo.toNat*r.wd)+(r.cap - lo.toNat)*r.wd<=cells.size
      split
      . rename_i e;rw[e,Nat.sub_self,Nat.zero_mul];have:=Nat.zero_le (r.cap*r.wd);omega
      . have e:lo.toNat*r.wd+(r.cap - lo.toNat)*r.wd=r.cap*r.wd:=by rw[<-Nat.add_mul];congr 1;omega
        omega
    . have hy:((l.take hi.toNat).drop lo.toNat)[i]?=some y:=hy
      rw[List.getElem?_drop,List.getElem?_take] at hy
      split at hy<;>try (cases hy;done)
      rename_i hlt
      have hne:¬ r.cap=lo.toNat:=by omega
      show rep w F _ u y (seg cells.toList ((if r.cap=lo.toNat then r.off else r.off+lo.toNat*r.wd)+i*width u) (width u))
      rw[if_neg hne]
      have h9:=q9 _ y hy
      have e:r.off+lo.toNat*r.wd+i*width u=r.off+(lo.toNat+i)*width u:=by rw[q2,Nat.add_mul];omega
      rw[e]
      exact h9
 . rename_i b x hx
   split at hg<;>try (simp at hg;done)
   rename_i u l hb
   obtain⟨hu,e0⟩:=q5P hg
   subst e0
   clear hg
   have hv:=hs.env _ _ hx
   simp only[vrep,vrep1,isAggT,rep,List.cons.injEq,and_true] at hv
   obtain⟨_,r,hr,hv⟩:=hv
   exact hs.rebase hN (r':=r) hb hr hu hv (fun hk=>hk) fun h=>⟨h,rfl⟩
theorem Ok.newp (h:Ok base w0 F0 N st a w) {p:Nat} {t:Ty} {st':St} (ho:st.newp p t=some st'):Ok base w0 F0 N st' a w:=by
 obtain⟨hN,F,ι,hs⟩:=h
 unfold St.newp at ho
 obtain⟨hq,rfl⟩:=bif_some ho
 simp only[Bool.and_eq_true,Bool.not_eq_true'] at hq
 obtain⟨⟨hu,hp⟩,hval⟩:=hq
 obtain⟨hip,hhp,hH⟩:=hs.unused hu
 have hp':p<hbase:=Nat.le_of_ble_eq_true hp
 have hι:∀ c r,ι c=some r->upd ι p (some nilRef) c=some r:=fun c r e=>by
  rw[upd_other _ _ _ _ (fun e'=>by rw[e',hip] at e;cases e)];exact e
 have hHι:∀ c,isH c=true->upd ι p (some nilRef) c=ι c:=fun c hc=>upd_other _ _ _ _ fun e=>by rw[e,hH] at hc;cases hc
 have hnil:∀ r,upd ι p (some nilRef) p=some r->r.nil=true:=by intro r e;rw[upd_same] at e;cases e;rfl
 have hrow:∀ c k,prow (upd st.heap p (some (.pool p t []))) c=some k->prow st.heap c=some k:=by
  intro c k e
  obtain⟨q,n,q',u,ls,m,hq,rfl,h1,h2,rfl⟩:=q0k e
  rcases upd_some h1 with ⟨_,e⟩ | ⟨_,e⟩
  . cases e;simp at h2
  . rw[q0b hq,e];simp only[rowB,h2]
 refine⟨hN,F,upd ι p (some nilRef),⟨fun s v hv=>vrep_mono (fun _ h=>h) hι (fun _ _=>rfl) (hs.env s v hv),?_,?_,?_,hs.fsize,hs.fin,hs.below,hs.size,?_,?_,?_,hs.defers⟩⟩
 . intro c k hk
   rcases upd_some hk with ⟨rfl,e⟩ | ⟨_,e⟩
   . cases e
     exact⟨nilRef,upd_same _ _ _,rfl,hp',hval,fun n _=>(hHι _ (isH_hn _ _)).trans (hs.pools.free _ n hp' hu),fun n m hm=>by simp at hm⟩
   . obtain⟨r,hr,q⟩:=hs.heap _ _ e
     exact⟨r,hι _ _ hr,q1r hι (fun c hc hn=>(hHι c hc).trans hn) (fun _ _ _ _ _ _ _ _ _=>rfl) (fun _ _=>rfl) (fun _=>rfl) q⟩
 . intro c r hr
   show upd st.used p true c=true
   rcases upd_some hr with ⟨rfl,_⟩ | ⟨h1,e⟩
   . exact upd_same _ _ _
   . rw[upd_other _ _ _ _ h1];exact hs.used _ _ e
 . intro c d k k' r r' hcd hc' hd hr hr' hn hn'
   rcases upd_some hc' with ⟨rfl,_⟩ | ⟨h1,e1⟩
   . rw[hnil r hr] at hn;cases hn
   rcases upd_some hd with ⟨rfl,_⟩ | ⟨h2,e2⟩
   . rw[hnil r' hr'] at hn';cases hn'
   rw[upd_other _ _ _ _ h1] at hr
   rw[upd_other _ _ _ _ h2] at hr'
   exact hs.apart c d k k' r r' hcd e1 e2 hr hr' hn hn'
 . intro n hn
   show upd st.used p true n=true
   by_cases e:n=p
   . subst e;exact upd_same _ _ _
   . rw[upd_other _ _ _ _ e];exact hs.upin n hn
 . refine⟨fun c hc'=>?_,fun c hc'=>?_,fun c q u ls e=>?_,fun c d k k' r r' hcd hc' hd hr hr' hn=>?_,fun q n hq hf=>?_⟩
   . show upd st.heap p _ c=none
     rw[upd_other _ _ _ _ (fun e=>by rw[e,hH] at hc';cases hc')]
     exact hs.pools.noH c hc'
   . show upd st.used p true c=true
     rw[upd_other _ _ _ _ (fun e=>by rw[e,hH] at hc';cases hc')];exact hs.pools.uH c hc'
   . rcases upd_some e with ⟨rfl,e⟩ | ⟨_,e⟩
     . cases e;rfl
     . exact hs.pools.self _ _ _ _ e
   . rw[hHι c (prow_H hc')] at hr
     rcases hd with hd | hd
     . rw[hHι d (prow_H hd)] at hr'
       exact hs.pools.apart c d _ _ r r' hcd (hrow _ _ hc') (.inl (hrow _ _ hd)) hr hr' hn
     . rcases upd_some hd with ⟨rfl,_⟩ | ⟨h2,e2⟩
       . rw[hnil r' hr'] at hn;cases hn
       rw[upd_other _ _ _ _ h2] at hr'
       exact hs.pools.apart c d _ _ r r' hcd (hrow _ _ hc') (.inr e2) hr hr' hn
   . have hqp:q≠p:=by rintro rfl;have:=upd_same st.used q true;rw[show upd st.used q true q=false from hf] at this;cases this
     rw[hHι _ (isH_hn _ _)]
     refine hs.pools.free q n hq ?_
     have hf:upd st.used p true q=false:=hf
     rw[upd_other _ _ _ _ hqp] at hf;exact hf
 . intro n r r' hn hp1 hr
   by_cases e:n=p
   . subst e
     have:=hs.upin n hn
     rw[hu] at this;cases this
   . rw[upd_other _ _ _ _ e] at hr
     exact hs.pin n r r' hn hp1 hr
theorem q0w {K:St->Prop}:∀ (l:List Pre) (st:St),preK l K st->Ok base w0 F0 N st a w->∃ st',Ok base w0 F0 N st' a w/\K st'
 | [],st,h,hok=>⟨st,hok,h⟩
 | .frz b :: l,st,h,hok=>by
  simp only[preK] at h
  split at h
  . rename_i s hs
    exact q0w l _ h (hok.freeze hs)
  . exact q0w l _ h hok
 | .opn b p :: l,st,h,hok=>by
  simp only[preK] at h
  split at h<;>try exact h.elim
  rename_i c s hs
  exact q0w l _ h.2 (hok.opn hs h.1)
 | .giv d p :: l,st,h,hok=>by
  simp only[preK] at h
  split at h<;>try exact h.elim
  rename_i s hs
  exact q0w l _ h (hok.giv hs)
 | .frp p :: l,st,h,hok=>by
  simp only[preK] at h
  split at h<;>try exact h.elim
  rename_i s hs
  exact q0w l _ h (hok.frp hs)
 | .cut t d :: l,st,h,hok=>by
  simp only[preK] at h
  split at h<;>try exact h.elim
  rename_i s hs
  exact q0w l _ h (hok.cut hs)
 | .new p t :: l,st,h,hok=>by
  simp only[preK] at h
  split at h<;>try exact h.elim
  rename_i s hs
  exact q0w l _ h (hok.newp hs)
end
end Go.VM
namespace Go.VM
open Go Go.RowKit
def stepOf:List (Nat×List Pre×Bool)->Nat->List Pre×Bool
 | [],_=>([],false)
 | (j,s) :: l,i=>bif Nat.beq i j then s else stepOf l i
def q0z:List (Nat×Lend)->Nat->Option Lend
 | [],_=>none
 | (j,s) :: l,i=>bif Nat.beq i j then some s else q0z l i
structure joinV (T:Type) (k:T->Prop) (body:(T->Prop)->Prop):Prop where
 run:body k
def q0E (sh:Shape) (st:St) (k:Pay sh.ents->Prop):Prop:=
 match unpack sh st with
 | some p=>k p
 | none=>False
def regF (P:Program) (N:Nat) (ops:Array Oper) (fi:List (Nat×List Pre×Bool)) (le:List (Nat×Lend)):List Nat->(St->Prop)->St->Prop
 | [],K,st=>preK (stepOf fi 4095).1 K st
 | i :: r,K,st=>match q0z le i with
  | none=>preK (stepOf fi i).1 (regW P N (fun i=>(stepOf fi i).2) ops (fun _=>[]) [i] (regF P N ops fi le r K)) st
  | some L=>bif Nat.beq L.k 1000
   then joinV (Pay L.inn.ents) (fun p=>preK (stepOf fi i).1 (regW P N (fun i=>(stepOf fi i).2) ops (fun _=>[]) [i] (regF P N ops fi le r K)) (pack L.inn p)) fun k=>q0E L.inn st k
   else match ops.toList[i]? with
   | some o=>preK (stepOf fi i).1 (lendW P N L o (regF P N ops fi le r K)) st
   | none=>False
def stepL (P:Program) (N:Nat) (ad:Nat->Bool) (ops:Array Oper) (bad:Nat->List Nat) (fi:List (Nat×List Pre×Bool)) (le:List (Nat×Lend)) (i:Nat) (K:St->Prop) (st:St):Prop:=
 match (stepOf fi i).1 with
 | []=>match q0z le i with
  | none=>regW P N ad ops bad [i] K st
  | some L=>match ops.toList[i]? with
   | some o=>lendW P N L o K st
   | none=>False
 | l=>preK l (fun st=>match q0z le i with
  | none=>regW P N ad ops bad [i] K st
  | some L=>match ops.toList[i]? with
   | some o=>lendW P N L o K st
   | none=>False) st
def q1A (ops:Array Oper):List (Nat×List Pre×Bool)->Bool
 | []=>true
 | (i,l,_) :: r=>(l.isEmpty || (Nat.beq i 4095 && Nat.ble ops.size 4095) || (List.range ops.size).all fun j=>Nat.beq i j || rowBit (rowsA ops) i j || rowBit (rowsA ops) j i) && q1A ops r
theorem q5j {ops:Array Oper}:∀ {fi:List (Nat×List Pre×Bool)} {i j:Nat},q1A ops fi=true->i<ops.size->j<ops.size->i≠j->rowBit (rowsA ops) i j=false->rowBit (rowsA ops) j i=false->(stepOf fi i).1=[]
 | [],_,_,_,_,_,_,_,_=>rfl
 | (k,l,s) :: r,i,j,h,hi,hj,hij,h1,h2=>by
  simp only[q1A,Bool.and_eq_true,Bool.or_eq_true,List.all_eq_true,List.mem_range] at h
  simp only[stepOf]
  cases e:Nat.beq i k
  . exact q5j h.2 hi hj hij h1 h2
  . rw[Nat.beq_eq] at e;subst e
    simp only[cond_true]
    rcases h.1 with (h3 | h3) | h3
    . simpa using h3
    . have e1:=Nat.eq_of_beq_eq_true h3.1
      have e2:=Nat.le_of_ble_eq_true h3.2
      omega
    . have:=h3 j hj
      rw[h1,h2] at this
      simp at this
      exact absurd this hij
def q1w (ops:Array Oper):List (Nat×Lend)->Bool
 | []=>true
 | (i,_) :: l=>((List.range ops.size).all fun j=>Nat.beq i j || rowBit (rowsA ops) i j || rowBit (rowsA ops) j i) && q1w ops l
theorem lendsOk_ok {ops:Array Oper}:∀ {le:List (Nat×Lend)} {i j:Nat} {L:Lend},q1w ops le=true->q0z le i=some L->j<ops.size->i≠j->rowBit (rowsA ops) i j=false->rowBit (rowsA ops) j i=false->False
 | [],_,_,_,_,h,_,_,_,_=>by simp[q0z] at h
 | (k,s) :: l,i,j,L,hl,h,hj,hij,h1,h2=>by
  simp only[q1w,Bool.and_eq_true,List.all_eq_true,List.mem_range] at hl
  simp only[q0z] at h
  cases e:Nat.beq i k<;>rw[e] at h
  . exact lendsOk_ok hl.2 h hj hij h1 h2
  . rw[Nat.beq_eq] at e;subst e
    have:=hl.1 j hj
    rw[h1,h2] at this
    simp at this
    exact hij this
theorem q9c {P:Program} {N:Nat} {L:Lend} {o:Oper} {K K':St->Prop} {st:St} (h:∀ st,K st->K' st):lendW P N L o K st->lendW P N L o K' st:=by
 unfold lendW
 intro hw
 split at hw<;>try exact hw.elim
 split at hw<;>try exact hw.elim
 rename_i d _
 cases e:Nat.blt d N<;>rw[e] at hw
 . exact hw.elim
 simp only[cond_true] at hw ⊢
 split at hw<;>try exact hw.elim
 split at hw<;>try exact hw.elim
 split at hw
 . obtain⟨inn,⟨cs,es⟩,k⟩:=L
   simp only[rowW] at hw ⊢
   split at hw<;>try exact hw.elim
   rename_i L0 inn cs b u k e
   cases e
   split at hw<;>try exact hw.elim
   rename_i q t ls hb
   cases hc:(Nat.beq b 1000000000 && Nat.beq k 0 && frozen t && !st.used rowD && q0u inn.ents)<;>rw[hc] at hw
   . exact hw.elim
   simp only[cond_true] at hw ⊢
   split at hw<;>try exact hw.elim
   rename_i pay ρ hu
   cases hd:isD ρ<;>rw[hd] at hw
   . exact hw.elim
   simp only[cond_true] at hw ⊢
   refine⟨hw.1,hw.2.mono fun y hy=>?_⟩
   split at hy<;>try exact hy.elim
   exact h _ hy
 cases hnp:q0u L.inn.ents<;>rw[hnp] at hw
 . exact hw.elim
 simp only[cond_true] at hw ⊢
 split at hw<;>try exact hw.elim
 refine lendV.mono hw fun q hq=>?_
 split at hq<;>try exact hq.elim
 exact h _ hq
theorem q1z {K K':St->Prop} (h:∀ st,K st->K' st):∀ (l:List Pre) (st:St),preK l K st->preK l K' st
 | [],st,hw=>h st hw
 | .frz b :: l,st,hw=>by
  simp only[preK] at hw ⊢
  split at hw<;>exact q1z h l _ hw
 | .opn b p :: l,st,hw=>by
  simp only[preK] at hw ⊢
  split at hw<;>try exact hw.elim
  exact⟨hw.1,q1z h l _ hw.2⟩
 | .giv d p :: l,st,hw=>by
  simp only[preK] at hw ⊢
  split at hw<;>try exact hw.elim
  exact q1z h l _ hw
 | .frp p :: l,st,hw=>by
  simp only[preK] at hw ⊢
  split at hw<;>try exact hw.elim
  exact q1z h l _ hw
 | .cut t d :: l,st,hw=>by
  simp only[preK] at hw ⊢
  split at hw<;>try exact hw.elim
  exact q1z h l _ hw
 | .new p t :: l,st,hw=>by
  simp only[preK] at hw ⊢
  split at hw<;>try exact hw.elim
  exact q1z h l _ hw
theorem q9r {P:Program} {N:Nat} {ad:Nat->Bool} {ops:Array Oper} {bad:Nat->List Nat} {fi:List (Nat×List Pre×Bool)} {le:List (Nat×Lend)} (i:Nat) (K K':St->Prop) (st:St) (h:∀ st,K st->K' st):stepL P N ad ops bad fi le i K st->stepL P N ad ops bad fi le i K' st:=by
 have key:∀ st,(match q0z le i with
  | none=>regW P N ad ops bad [i] K st
  | some L=>match ops.toList[i]? with
   | some o=>lendW P N L o K st
   | none=>False)->(match q0z le i with
  | none=>regW P N ad ops bad [i] K' st
  | some L=>match ops.toList[i]? with
   | some o=>lendW P N L o K' st
   | none=>False):=by
  intro st
  split
  . exact q9t h
  . split
    . exact q9c h
    . exact id
 unfold stepL
 split
 . exact key st
 . exact q1z key _ st
theorem q9s {P:Program} {N:Nat} {ad:Nat->Bool} {ops:Array Oper} {fi:List (Nat×List Pre×Bool)} {le:List (Nat×Lend)} (h:drawOk ops=true) (hl:q1w ops le=true) (hp:q1A ops fi=true) (i j:Nat) (hi:i<ops.size) (hj:j<ops.size) (hij:i≠j) (h1:rowBit (rowsA ops) i j=false) (h2:rowBit (rowsA ops) j i=false):
 Swap (stepL P N ad ops (badOf ops) fi le) i j:=by
 intro K st hw
 have pi:=q5j hp hi hj hij h1 h2
 have pj:=q5j hp hj hi (fun e=>hij e.symm) h2 h1
 unfold stepL at hw ⊢
 rw[pi] at hw ⊢
 simp only[pj] at hw ⊢
 cases ei:q0z le i with
 | some L=>exact (lendsOk_ok hl ei hj hij h1 h2).elim
 | none=>
  cases ej:q0z le j with
  | some L=>exact (lendsOk_ok hl ej hi (fun e=>hij e.symm) h2 h1).elim
  | none=>
   rw[ei] at hw
   simp only[ej] at hw
   simp only[ei]
   exact swap2 (free_of h hi hj hij h1 h2) hw
def regD (P:Program) (N:Nat) (ad:Nat->Bool) (ops:Array Oper) (bad:Nat->List Nat) (fi:List (Nat×List Pre×Bool)) (le:List (Nat×Lend)) (l:List Nat) (K:St->Prop) (st:St):Prop:=foldS (stepL P N ad ops bad fi le) l K st
theorem drawn_ok {P:Program} {N:Nat} {ad:Nat->Bool} {ops:Array Oper} {fi:List (Nat×List Pre×Bool)} {le:List (Nat×Lend)} {K:St->Prop} (h:drawOk ops=true) (hl:q1w ops le=true) (hp:q1A ops fi=true) (hm:(P.follows .mixedOrders || !Region.departs ops)=true) {st:St}
 (hw:regD P N ad ops (badOf ops) fi le (List.range ops.size) K st) (t:Nat):regD P N ad ops (badOf ops) fi le (Region.schedule (P.follows .mixedOrders) ops t) K st:=by
 have hd:q19 ops=true:=by simp only[drawOk,q4T,Bool.and_eq_true] at h;exact h.1
 exact drawnG hd (fun i K K' st h=>q9r i K K' st h) (fun i j hi hj hij h1 h2=>q9s h hl hp i j hi hj hij h1 h2) hm hw t
section
variable {P:Program} {base:Mine} {w0 w:World} {F0 F:Nat->Prop} {ι:Nat->Option Ref} {N:Nat} {st:St} {a:Act}
variable {next:Act->World->Prop} {Q:Exit->Act->World->Prop} {K:St->Prop}
variable (hG:base.u8=u8of P/\∀ w:World,Keep base w0 w->Gl P w)
include hG
theorem regF_sound {ops:Array Oper} {fi:List (Nat×List Pre×Bool)} {le:List (Nat×Lend)}:∀ (l:List Nat) (K:St->Prop) (st:St) (a:Act) (w:World),(∀ st a w,K st->Ok base w0 F0 N st a w->Q .normal a w)->regF P N ops fi le l K st->Ok base w0 F0 N st a w->
 wpOps P ops Q l a w
 | [],K,st,a,w,hn,h,hok=>by
  obtain⟨s,h1,h2⟩:=q0w _ _ h hok
  exact hn _ _ _ h2 h1
 | i :: r,K,st,a,w,hn,h,hok=>by
  have ih:∀ st a w,regF P N ops fi le r K st->Ok base w0 F0 N st a w->wpOps P ops Q r a w:=fun st a w h hok=>regF_sound r K st a w hn h hok
  simp only[regF] at h
  split at h
  . obtain⟨s,h1,h2⟩:=q0w _ _ h hok
    exact q5A hG ih h2 h1
  . rename_i L _
    cases hk:Nat.beq L.k 1000<;>rw[hk] at h<;>simp only[cond_true,cond_false] at h
    case true=>
     have h:=h.run
     unfold q0E at h
     split at h<;>try exact h.elim
     rename_i p hp
     obtain⟨s,h1,h2⟩:=q0w _ _ h (unpack_ok hp hok)
     exact q5A hG ih h2 h1
    split at h<;>try exact h.elim
    rename_i o ho
    obtain⟨s,h1,h2⟩:=q0w _ _ h hok
    obtain⟨hg,hw⟩:=q6i (Q:=Q) hG (fun st a w h hok=>ih st a w h hok) h2 h1
    simp only[wpOps]
    rw[Array.getElem?_toList] at ho
    rw[ho]
    simp only
    rw[if_pos (by simp[Region.wanted,hg])]
    exact .inl hw
theorem q6G {ad:Nat->Bool} {ops:Array Oper} {bad:Nat->List Nat} {fi:List (Nat×List Pre×Bool)} {le:List (Nat×Lend)}:∀ (l:List Nat) (K:St->Prop) (st:St) (a:Act) (w:World),(∀ st a w,K st->Ok base w0 F0 N st a w->Q .normal a w)->regD P N ad ops bad fi le l K st->Ok base w0 F0 N st a w->
 wpOps P ops Q l a w
 | [],K,st,a,w,hn,h,hok=>hn _ _ _ h hok
 | i :: r,K,st,a,w,hn,h,hok=>by
  have ih:∀ st a w,foldS (stepL P N ad ops bad fi le) r K st->Ok base w0 F0 N st a w->wpOps P ops Q r a w:=fun st a w h hok=>q6G r K st a w hn h hok
  have key:∀ st a w,(match q0z le i with
   | none=>regW P N ad ops bad [i] (foldS (stepL P N ad ops bad fi le) r K) st
   | some L=>match ops.toList[i]? with
    | some o=>lendW P N L o (foldS (stepL P N ad ops bad fi le) r K) st
    | none=>False)->Ok base w0 F0 N st a w->wpOps P ops Q (i :: r) a w:=by
   intro st a w h hok
   split at h
   . exact q5A hG ih h hok
   . split at h<;>try exact h.elim
     rename_i o ho
     obtain⟨hg,hw⟩:=q6i (Q:=Q) hG (fun st a w h hok=>ih st a w h hok) h hok
     simp only[wpOps]
     rw[Array.getElem?_toList] at ho
     rw[ho]
     simp only
     rw[if_pos (by simp[Region.wanted,hg])]
     exact .inl hw
  replace h:stepL P N ad ops bad fi le i (foldS (stepL P N ad ops bad fi le) r K) st:=h
  unfold stepL at h
  split at h
  . exact key _ _ _ h hok
  . obtain⟨s,h1,h2⟩:=q0w _ _ h hok
    exact key _ _ _ h2 h1
end
end Go.VM
