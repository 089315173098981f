/- Typed pure data, a condition on code that says what a call gives, what the code of each function comes to, and what each function gives. -/
import Derived.ProofKit
import Derived.Test.YtfifpjkegdkdpaaGreatA6
set_option linter.unusedVariables false
set_option linter.unusedSimpArgs false
set_option linter.unnecessarySimpa false
namespace Go.VM
open Go Go.RowKit Go.WideShapes Go.ChangeShapes Go.ChangeAt
def wfT:(t:Ty)->den t->Prop
 | .int k,n=>k.min<=n/\n<=k.max
 | .str,s=>s.size<=maxLen
 | .sl t,x=>∀ l,x=some l->l.length<=maxLen/\∀ y∈l,wfT t y
 | .pair a b,x=>wfT a x.1/\wfT b x.2
 | .agg c,x=>wfT c x
 | .arr _ t,(l:List (den t))=>∀ y∈l,wfT t y
 | _,_=>True
def fitL (P:Program) (f:TypeId->Option Ty):Nat->List Field->Option Ty
 | _,[]=>some .unit
 | off,x :: xs=>bif Nat.beq x.offset off
  then match f x.type with
   | some a=>bif Nat.beq (P.cellsOf x.type) (width a)
    then match xs with
     | []=>some a
     | xs=>match fitL P f (off+width a) xs with
      | some b=>some (.pair a b)
      | none=>none
    else none
   | none=>none
  else none
def fitT (P:Program):Nat->TypeId->Option Ty
 | 0,_=>none
 | n+1,t=>match P.underlying t with
  | some (.int k)=>some (.int k)
  | some .bool=>some .bool
  | some .string=>some .str
  | some (.struct fs)=>match fitL P (fitT P n) 0 fs.toList with
   | some a=>bif Nat.beq (P.cellsOf t) (width a) then some (.agg a) else none
   | none=>none
  | _=>none
theorem mapM_mem {α β:Type} {f:α->Option β}:∀ {l:List α} {ys:List β},l.mapM f=some ys->∀ x∈l,∃ y,f x=some y
 | [],_,_,x,hx=>by simp at hx
 | a :: l,ys,h,x,hx=>by
  rw[List.mapM_cons] at h
  cases ha:f a with
  | none=>rw[ha] at h;simp at h
  | some b=>
   rw[ha] at h
   simp only[Option.pure_def,Option.bind_eq_bind,Option.bind_some] at h
   cases hl:l.mapM f with
   | none=>rw[hl] at h;simp at h
   | some zs=>
    rcases List.mem_cons.1 hx with rfl | hx
    . exact⟨b,ha⟩
    . exact mapM_mem hl x hx
theorem wf_has {k:IntKind} {n:Int} (h:(Lit.int k n).wf=true):k.min<=n/\n<=k.max:=by
 simpa[Lit.wf] using h
section
variable {H:Type} {enc:TypeId×Value->H} {P:Program} {w:World} {base:Nat} {spare:Nat->Bool} {held:Bool} {F:Nat->Prop} {ι:Nat->Option Ref}
theorem q5o {f:TypeId->Option Ty} {g:TypeId->List Value->Option (DataW H×List MemPlace)}
 (hf:∀ t ty,f t=some ty->∀ cs y,g t cs=some y->∃ x,rep w F ι ty x cs/\wfT ty x) (cs:List Value):
 ∀ (l:List Field) (off:Nat) (a:Ty),fitL P f off l=some a->(∀ x∈l,∃ y,g x.type ((cs.drop x.offset).take (P.cellsOf x.type))=some y)->
  ∃ x,rep w F ι a x (seg cs off (width a))/\wfT a x
 | [],off,a,h,_=>by
  simp only[fitL,Option.some.injEq] at h;subst h
  exact⟨(),by simp[rep,seg,width],trivial⟩
 | [x],off,a,h,hx=>by
  simp only[fitL] at h
  obtain⟨y,hy⟩:=hx x (by simp)
  cases ho:Nat.beq x.offset off<;>rw[ho] at h<;>simp only[cond_false,cond_true,reduceCtorEq] at h
  rw[Nat.beq_eq] at ho
  split at h<;>try (simp at h;done)
  rename_i b hb
  cases hw:Nat.beq (P.cellsOf x.type) (width b)<;>rw[hw] at h<;>simp only[cond_false,cond_true,reduceCtorEq,Option.some.injEq] at h
  rw[Nat.beq_eq] at hw
  subst h
  rw[ho,hw] at hy
  exact hf _ _ hb _ _ hy
 | x :: x2 :: xs,off,a,h,hx=>by
  rw[fitL] at h
  obtain⟨y,hy⟩:=hx x (by simp)
  cases ho:Nat.beq x.offset off<;>rw[ho] at h<;>simp only[cond_false,cond_true,reduceCtorEq] at h
  rw[Nat.beq_eq] at ho
  split at h<;>try (simp at h;done)
  rename_i b hb
  cases hw:Nat.beq (P.cellsOf x.type) (width b)<;>rw[hw] at h<;>simp only[cond_false,cond_true,reduceCtorEq] at h
  rw[Nat.beq_eq] at hw
  split at h<;>try (simp at h;done)
  rename_i c hc
  simp only[Option.some.injEq] at h;subst h
  rw[ho,hw] at hy
  obtain⟨u,h1,h2⟩:=hf _ _ hb _ _ hy
  obtain⟨v,h3,h4⟩:=q5o hf cs (x2 :: xs) (off+width b) c hc (fun z hz=>hx z (by simp[hz]))
  refine⟨(u,v),?_,h2,h4⟩
  simp only[rep]
  refine⟨_,_,?_,h1,h3⟩
  simp only[seg,width]
  rw[List.take_add,List.drop_drop]
theorem q6V:∀ (n:Nat) (t:TypeId) (ty:Ty),fitT P n t=some ty->∀ (fuel:Nat) (cs:List Value) (y:DataW H×List MemPlace),DataW.trod enc P w base spare held fuel t cs=some y->
 ∃ x,rep w F ι ty x cs/\wfT ty x
 | 0,_,_,h,_,_,_,_=>by simp[fitT] at h
 | n+1,t,ty,h,0,cs,y,hy=>by simp[DataW.trod] at hy
 | n+1,t,ty,h,fuel+1,cs,y,hy=>by
  simp only[fitT] at h
  split at h<;>try (simp at h;done)
  . rename_i k hk
    simp only[Option.some.injEq] at h;subst h
    simp only[DataW.trod,hk] at hy
    split at hy<;>try (simp at hy;done)
    all_goals (rename_i heq;try cases heq)
    split at hy<;>try (simp at hy;done)
    rename_i hc
    obtain⟨rfl,hc⟩:=hc
    exact⟨_,by simp only[rep],wf_has hc⟩
  . rename_i hk
    simp only[Option.some.injEq] at h;subst h
    simp only[DataW.trod,hk] at hy
    split at hy<;>try (simp at hy;done)
    all_goals (rename_i heq;try cases heq)
    exact⟨_,by simp only[rep];rfl,trivial⟩
  . rename_i hk
    simp only[Option.some.injEq] at h;subst h
    simp only[DataW.trod,hk] at hy
    split at hy<;>try (simp at hy;done)
    all_goals (rename_i heq;try cases heq)
    split at hy<;>try (simp at hy;done)
    rename_i hc
    exact⟨_,by simp only[rep],hc⟩
  . rename_i fs hk
    split at h<;>try (simp at h;done)
    rename_i a ha
    cases hw:Nat.beq (P.cellsOf t) (width a)<;>rw[hw] at h<;>simp only[cond_false,cond_true,reduceCtorEq,Option.some.injEq] at h
    rw[Nat.beq_eq] at hw
    subst h
    simp only[DataW.trod,hk] at hy
    split at hy<;>try (simp at hy;done)
    rename_i hl
    simp only[Option.map_eq_some_iff] at hy
    obtain⟨xs,hxs,_⟩:=hy
    obtain⟨x,h1,h2⟩:=q5o (P:=P) (f:=fitT P n) (g:=DataW.trod enc P w base spare held fuel) (fun t ty ht cs y hy=>q6V n t ty ht fuel cs y hy) cs _ 0 a ha (mapM_mem hxs)
    rw[<-hw,<-hl,q18 _ _ rfl] at h1
    exact⟨x,by simp only[rep];exact h1,h2⟩
theorem arg_flat {r:Reach} {b0:Nat} {n:Nat} {t:TypeId} {ty:Ty} {v:Value} {d:DataW H} {p:List MemPlace} (hf:fitT P n t=some ty) (hok:Value.okWide P w r b0 t v) (h:DataW.Trod enc P w base spare held t v d p):
 ∃ x:den ty,vrep w F ι ty x v/\wfT ty x:=by
 obtain⟨fuel,h⟩:=h
 obtain⟨x,h1,h2⟩:=q6V (F:=F) (ι:=ι) n t ty hf fuel _ _ h
 refine⟨x,?_,h2⟩
 cases n with
 | zero=>simp[fitT] at hf
 | succ n=>
  simp only[fitT] at hf
  unfold Value.okWide at hok
  split at hf<;>try (simp at hf;done)
  . rename_i k hk
    simp only[Option.some.injEq] at hf;subst hf
    rw[hk] at hok
    simp only[Cell.okWide,Cell.ok,hk] at hok
    split at hok<;>(try exact hok.elim)<;>rename_i heq<;>(try cases heq)
    rw[vrep_cell rfl];simpa[Value.cells] using h1
  . rename_i hk
    simp only[Option.some.injEq] at hf;subst hf
    rw[hk] at hok
    simp only[Cell.okWide,Cell.ok,hk] at hok
    split at hok<;>(try exact hok.elim)<;>rename_i heq<;>(try cases heq)
    rw[vrep_cell rfl];simpa[Value.cells] using h1
  . rename_i hk
    simp only[Option.some.injEq] at hf;subst hf
    rw[hk] at hok
    simp only[Cell.okWide,Cell.ok,hk] at hok
    split at hok<;>(try exact hok.elim)<;>rename_i heq<;>(try cases heq)
    rw[vrep_cell rfl];simpa[Value.cells] using h1
  . rename_i fs hk
    split at hf<;>try (simp at hf;done)
    rename_i a ha
    obtain⟨_,hf⟩:=bif_some hf
    subst hf
    rw[hk] at hok
    obtain⟨cs,rfl,_,_⟩:=hok
    exact q1W rfl (by simpa[Value.cells] using h1)
theorem mapM_at {α β:Type} {f:α->Option β}:∀ {l:List α} {ys:List β},l.mapM f=some ys->ys.length=l.length/\∀ i (h:i<l.length),f l[i]=ys[i]?
 | [],ys,h=>by simp at h;subst h;exact⟨rfl,fun i h=>by simp at h⟩
 | a :: l,ys,h=>by
  rw[List.mapM_cons] at h
  cases ha:f a with
  | none=>rw[ha] at h;simp at h
  | some b=>
   rw[ha] at h
   simp only[Option.pure_def,Option.bind_eq_bind,Option.bind_some] at h
   cases hl:l.mapM f with
   | none=>rw[hl] at h;simp at h
   | some zs=>
    rw[hl] at h
    simp only[Option.bind_some,Option.some.injEq] at h
    subst h
    obtain⟨q1,q2⟩:=mapM_at hl
    refine⟨by simp[q1],fun i hi=>?_⟩
    cases i with
    | zero=>simpa using ha
    | succ i=>simpa using q2 i (by simpa using hi)
theorem list_of {α:Type} {Q:Nat->α->Prop}:∀ (n:Nat),(∀ i,i<n->∃ x,Q i x)->∃ l:List α,l.length=n/\∀ (i:Nat) (y:α),l[i]?=some y->Q i y
 | 0,_=>⟨[],rfl,fun i y h=>by simp at h⟩
 | n+1,h=>by
  obtain⟨l,h1,h2⟩:=list_of n fun i hi=>h i (by omega)
  obtain⟨x,hx⟩:=h n (by omega)
  refine⟨l ++ [x],by simp[h1],fun i y hy=>?_⟩
  rcases Nat.lt_or_ge i n with hi | hi
  . rw[List.getElem?_append_left (by omega)] at hy;exact h2 i y hy
  . rw[List.getElem?_append_right (by omega)] at hy
    have:i=n:=by
     rcases Nat.eq_or_lt_of_le hi with e | e
     . exact e.symm
     . rw[List.getElem?_eq_none (by simp;omega)] at hy;simp at hy
    subst this
    rw[h1,Nat.sub_self] at hy
    simp at hy;subst hy;exact hx
theorem cells_seg {b off n:Nat} {cells:Array Value} {el:TypeId} {fz:Nat×Nat} {cs:List Value} (hb:w.heap[b]?=some (.cells cells el fz)) (h:w.cells? base ⟨b,off,none⟩ n=some cs):cs=seg cells.toList off n:=by
 unfold World.cells? at h
 split at h
 case isFalse=>simp at h
 obtain⟨q1,q2⟩:=mapM_at h
 simp only[List.length_range] at q1 q2
 have q3:∀ i,i<n->cs[i]?=cells.toList[off+i]?:=fun i hi=>by
  have:=q2 i hi
  rw[List.getElem_range,q0m,q1F hb] at this
  exact this.symm
 apply List.ext_getElem?
 intro i
 rcases Nat.lt_or_ge i n with hi | hi
 . rw[q3 i hi,q0y _ _ _ _ hi]
 . rw[List.getElem?_eq_none (by omega),List.getElem?_eq_none (by simp only[seg,List.length_take];omega)]
def fitN (P:Program):Nat->TypeId->Option Ty
 | 0,_=>none
 | n+1,t=>match P.underlying t with
  | some (.int k)=>some (.int k)
  | some .bool=>some .bool
  | some .string=>some .str
  | some (.slice e)=>match fitN P n e with
   | some a=>bif Nat.beq (P.cellsOf e) (width a) && Nat.blt 0 (width a) then some (.sl a) else none
   | none=>none
  | some (.struct fs)=>match fitL P (fitN P n) 0 fs.toList with
   | some a=>bif Nat.beq (P.cellsOf t) (width a) then some (.agg a) else none
   | none=>none
  | _=>none
theorem cells_row {a:Addr} {n:Nat} {cs:List Value} (hn:0<n) (h:w.cells? base a n=some cs):a.spot=none/\∃ cells el fz,w.heap[a.block]?=some (.cells cells el fz):=by
 unfold World.cells? at h
 split at h
 case isFalse=>simp at h
 obtain⟨y,hy⟩:=mapM_mem h 0 (List.mem_range.2 hn)
 obtain⟨b,off,sp⟩:=a
 have e:(⟨b,off,sp⟩:Addr).add 0=⟨b,off,sp⟩:=by simp[Addr.add]
 rw[e] at hy
 unfold World.cell? at hy
 split at hy<;>try (simp at hy;done)
 rename_i c el fz hh
 split at hy
 . simp at hy
 . rename_i hs
   exact⟨by simpa using hs,c,el,fz,hh⟩
theorem q5p (hF:∀ b,b<w.heap.size->F b):∀ (n:Nat) (t:TypeId) (ty:Ty),fitN P n t=some ty->∀ (fuel:Nat) (cs:List Value) (y:DataW H×List MemPlace),DataW.trod enc P w base spare held fuel t cs=some y->
 ∃ x,rep w F ι ty x cs/\wfT ty x
 | 0,_,_,h,_,_,_,_=>by simp[fitN] at h
 | n+1,t,ty,h,0,cs,y,hy=>by simp[DataW.trod] at hy
 | n+1,t,ty,h,fuel+1,cs,y,hy=>by
  simp only[fitN] at h
  split at h<;>try (simp at h;done)
  . rename_i k hk
    simp only[Option.some.injEq] at h;subst h
    simp only[DataW.trod,hk] at hy
    split at hy<;>try (simp at hy;done)
    all_goals (rename_i heq;try cases heq)
    split at hy<;>try (simp at hy;done)
    rename_i hc
    obtain⟨rfl,hc⟩:=hc
    exact⟨_,by simp only[rep],wf_has hc⟩
  . rename_i hk
    simp only[Option.some.injEq] at h;subst h
    simp only[DataW.trod,hk] at hy
    split at hy<;>try (simp at hy;done)
    all_goals (rename_i heq;try cases heq)
    exact⟨_,by simp only[rep];rfl,trivial⟩
  . rename_i hk
    simp only[Option.some.injEq] at h;subst h
    simp only[DataW.trod,hk] at hy
    split at hy<;>try (simp at hy;done)
    all_goals (rename_i heq;try cases heq)
    split at hy<;>try (simp at hy;done)
    rename_i hc
    exact⟨_,by simp only[rep],hc⟩
  . rename_i e hk
    split at h<;>try (simp at h;done)
    rename_i a ha
    obtain⟨hw,rfl⟩:=bif_some h
    simp only[Bool.and_eq_true] at hw
    obtain⟨hw,hpos⟩:=hw
    replace hw:=Nat.eq_of_beq_eq_true hw
    replace hpos:0<width a:=Nat.le_of_ble_eq_true hpos
    simp only[DataW.trod,hk] at hy
    split at hy<;>try (simp at hy;done)
    all_goals (rename_i heq;try cases heq)
    . exact⟨none,by simp only[rep],fun l hl=>by simp at hl⟩
    . rename_i ad len cap
      split at hy<;>try (simp at hy;done)
      rename_i hc
      simp only[Option.bind_eq_some_iff] at hy
      obtain⟨elems,he,_⟩:=hy
      have hx:∀ i,i<len->∃ x,(∀ cells el fz,ad.spot=none->w.heap[ad.block]?=some (.cells cells el fz)->rep w F ι a x (seg cells.toList (ad.off+i*width a) (width a)))/\wfT a x:=by
       intro i hi
       obtain⟨y,hy⟩:=mapM_mem he i (List.mem_range.2 hi)
       rw[Option.bind_eq_some_iff] at hy
       obtain⟨cs,hcs,hy⟩:=hy
       obtain⟨x,h1,h2⟩:=q5p hF n e a ha fuel cs y hy
       refine⟨x,fun cells el fz hs hb=>?_,h2⟩
       obtain⟨b,off,sp⟩:=ad
       dsimp only at hs hb
       subst hs
       rw[q0m,hw] at hcs
       rw[<-cells_seg hb hcs]
       exact h1
      obtain⟨l,hl,hq⟩:=list_of len hx
      refine⟨some l,?_,fun l' hl'=>?_⟩
      . simp only[rep]
        refine⟨ad,cap,by rw[hl],by omega,fun hne=>?_⟩
        have hlen:0<len:=by rw[<-hl];exact List.length_pos_iff.2 hne
        obtain⟨y,hy⟩:=mapM_mem he 0 (List.mem_range.2 hlen)
        rw[Option.bind_eq_some_iff] at hy
        obtain⟨cs,hcs,_⟩:=hy
        have e0:ad.add (0*P.cellsOf e)=ad:=by simp[Addr.add]
        rw[e0] at hcs
        obtain⟨hs,cells,el,fz,hb⟩:=cells_row (by rw[hw];exact hpos) hcs
        exact⟨cells,el,fz,hs,hF _ (heap_lt hb),hb,fun i y hy=>(hq i y hy).1 cells el fz hs hb⟩
      . simp only[Option.some.injEq] at hl'
        subst hl'
        refine⟨by omega,fun y hy=>?_⟩
        obtain⟨i,hi,rfl⟩:=List.mem_iff_getElem.1 hy
        exact (hq i _ (List.getElem?_eq_getElem hi)).2
  . rename_i fs hk
    split at h<;>try (simp at h;done)
    rename_i a ha
    obtain⟨hw,rfl⟩:=bif_some h
    rw[Nat.beq_eq] at hw
    simp only[DataW.trod,hk] at hy
    split at hy<;>try (simp at hy;done)
    rename_i hl
    simp only[Option.map_eq_some_iff] at hy
    obtain⟨xs,hxs,_⟩:=hy
    obtain⟨x,h1,h2⟩:=q5o (P:=P) (f:=fitN P n) (g:=DataW.trod enc P w base spare held fuel) (fun t ty ht cs y hy=>q5p hF n t ty ht fuel cs y hy) cs _ 0 a ha (mapM_mem hxs)
    rw[<-hw,<-hl,q18 _ _ rfl] at h1
    exact⟨x,by simp only[rep];exact h1,h2⟩
theorem arg_any {r:Reach} {b0:Nat} {n:Nat} {t:TypeId} {ty:Ty} {v:Value} {d:DataW H} {p:List MemPlace} (hF:∀ b,b<w.heap.size->F b) (hf:fitN P n t=some ty) (hok:Value.okWide P w r b0 t v) (h:DataW.Trod enc P w base spare held t v d p):
 ∃ x:den ty,vrep w F ι ty x v/\wfT ty x:=by
 obtain⟨fuel,h⟩:=h
 obtain⟨x,h1,h2⟩:=q5p (F:=F) (ι:=ι) hF n t ty hf fuel _ _ h
 refine⟨x,?_,h2⟩
 cases n with
 | zero=>simp[fitN] at hf
 | succ n=>
  simp only[fitN] at hf
  unfold Value.okWide at hok
  split at hf<;>try (simp at hf;done)
  . rename_i k hk
    simp only[Option.some.injEq] at hf;subst hf
    rw[hk] at hok
    simp only[Cell.okWide,Cell.ok,hk] at hok
    split at hok<;>(try exact hok.elim)<;>rename_i heq<;>(try cases heq)
    rw[vrep_cell rfl];simpa[Value.cells] using h1
  . rename_i hk
    simp only[Option.some.injEq] at hf;subst hf
    rw[hk] at hok
    simp only[Cell.okWide,Cell.ok,hk] at hok
    split at hok<;>(try exact hok.elim)<;>rename_i heq<;>(try cases heq)
    rw[vrep_cell rfl];simpa[Value.cells] using h1
  . rename_i hk
    simp only[Option.some.injEq] at hf;subst hf
    rw[hk] at hok
    simp only[Cell.okWide,Cell.ok,hk] at hok
    split at hok<;>(try exact hok.elim)<;>rename_i heq<;>(try cases heq)
    rw[vrep_cell rfl];simpa[Value.cells] using h1
  . rename_i e hk
    split at hf<;>try (simp at hf;done)
    obtain⟨_,hf⟩:=bif_some hf
    subst hf
    rw[hk] at hok
    simp only[Cell.okWide,Cell.ok,hk] at hok
    split at hok<;>(try exact hok.elim)<;>rename_i heq<;>(try cases heq)
    all_goals (rw[vrep_cell rfl];simpa[Value.cells] using h1)
  . rename_i fs hk
    split at hf<;>try (simp at hf;done)
    rename_i a ha
    obtain⟨_,hf⟩:=bif_some hf
    subst hf
    rw[hk] at hok
    obtain⟨cs,rfl,_,_⟩:=hok
    exact q1W rfl (by simpa[Value.cells] using h1)
theorem q6v {W W':World} (hl:laidOutB P=true) (hb:Below W.heap.size W W'):∀ (ts:List TypeId) (vs:List Value) (ds:List (DataW H)) (ps:List MemPlace),
 ts.all (fun t=>P.readableRec t && decide (t<P.types.size))=true->(∀ x∈ps,x.block<W.heap.size)->
 DataW.TrodAll enc P W 0 (fun _=>true) true ts vs ds ps->DataW.TrodAll enc P W' 0 (fun b=>decide (b<W.heap.size)) true ts vs ds ps
 | [],[],[],ps,_,_,h=>h
 | t :: ts,v :: vs,d :: ds,ps,hr,hlt,h=>by
  obtain⟨p,q,h1,h2,rfl⟩:=h
  simp only[List.all_cons,Bool.and_eq_true,decide_eq_true_eq] at hr
  exact⟨p,q,Below.trod hl hr.1.1 hr.1.2 h1 hb (fun x hx=>hlt x (by simp[hx])),q6v hl hb ts vs ds q hr.2 (fun x hx=>hlt x (by simp[hx])) h2,rfl⟩
 | [],_ :: _,_,_,_,_,h | [],[],_ :: _,_,_,_,h | _ :: _,[],_,_,_,_,h | _ :: _,_ :: _,[],_,_,_,h=>by simp[DataW.TrodAll] at h
theorem law_post {fn:Func} {s:ChangeSpec} {W W':World} {args:Array Value} {ds gs:List (DataW H)} {before:List MemPlace} {tb:TypeId}
 (hW:DataW.Whole enc P fn.params.toList s.vars false W args.toList ds gs before) (hvars:s.vars=[]) (hl:laidOutB P=true)
 (hread:fn.params.toList.all (fun t=>P.readableRec t && decide (t<P.types.size))=true)
 (hspec:s.fn H (ds ++ gs)={ results:=[.lit (.bool true)],args:=ds }) (hres:fn.resultTypes = #[tb]) (hb:P.underlying tb=some .bool) (hbl:Below W.heap.size W W'):
 s.post enc P fn false true false false W args (.bool true) W':=by
 have hW':=hW
 have hlt:∀ p∈before,p.block<W.heap.size:=fun p hp=>hW.lt p hp
 obtain⟨p,q,hA,hV,rfl,_,_⟩:=hW
 rw[hvars] at hV
 obtain⟨rfl,rfl⟩:=trodVars_none hV
 refine⟨ds,[],p ++ [],[],p,[],hW',?_,?_,?_,hbl.frame _,fun h=>by cases h⟩
 . rw[hspec,hres]
   exact trodAll_mk1 (shut_bool hb true)
 . rw[hspec]
   exact q6v hl hbl _ _ _ _ hread (fun x hx=>hlt x (by simp[hx])) hA
 . rw[hspec,hvars]
   rfl
end
end Go.VM
namespace Go.VM
open Go Go.RowKit Go.ChangeShapes
section
variable {H:Type} {enc:TypeId×Value->H} {P:Program} {w:World} {base:Nat} {spare:Nat->Bool} {held:Bool}
theorem trodAll_six {t0 t1 t2 t3 t4 t5:TypeId} {args:Array Value} {ds:List (DataW H)} {ps:List MemPlace} (h:DataW.TrodAll enc P w base spare held [t0,t1,t2,t3,t4,t5] args.toList ds ps):
 ∃ v0 v1 v2 v3 v4 v5 d0 d1 d2 d3 d4 d5 p0 p1 p2 p3 p4 p5,args = #[v0,v1,v2,v3,v4,v5]/\ds=[d0,d1,d2,d3,d4,d5]/\ps=p0 ++ p1 ++ p2 ++ p3 ++ p4 ++ p5/\DataW.Trod enc P w base spare held t0 v0 d0 p0/\DataW.Trod enc P w base spare held t1 v1 d1 p1/\DataW.Trod enc P w base spare held t2 v2 d2 p2/\DataW.Trod enc P w base spare held t3 v3 d3 p3/\DataW.Trod enc P w base spare held t4 v4 d4 p4/\DataW.Trod enc P w base spare held t5 v5 d5 p5:=by
 obtain⟨v0,vs0,d0,ds0,p0,q0,hargs,rfl,rfl,h0,h⟩:=trodAll_cons h
 obtain⟨v1,vs1,d1,ds1,p1,q1,rfl,rfl,rfl,h1,h⟩:=trodAll_cons h
 obtain⟨v2,vs2,d2,ds2,p2,q2,rfl,rfl,rfl,h2,h⟩:=trodAll_cons h
 obtain⟨v3,vs3,d3,ds3,p3,q3,rfl,rfl,rfl,h3,h⟩:=trodAll_cons h
 obtain⟨v4,vs4,d4,ds4,p4,q4,rfl,rfl,rfl,h4,h⟩:=trodAll_cons h
 obtain⟨v5,vs5,d5,ds5,p5,q5,rfl,rfl,rfl,h5,h⟩:=trodAll_cons h
 obtain⟨rfl,rfl,rfl⟩:=trodAll_nil h
 exact⟨v0,v1,v2,v3,v4,v5,d0,d1,d2,d3,d4,d5,p0,p1,p2,p3,p4,p5,by cases args;simp_all,rfl,by simp,h0,h1,h2,h3,h4,h5⟩
end
end Go.VM
