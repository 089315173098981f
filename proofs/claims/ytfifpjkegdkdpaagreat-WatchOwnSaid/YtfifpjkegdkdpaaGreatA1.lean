/- Typed pure data, a condition on code that says what a call gives, what the code of each function comes to, and what each function gives. -/
import Derived.Laws.StructEq
import Derived.Laws.Small
import Derived.Tactics
import Derived.Test.YtfifpjkegdkdpaaGreatA0
set_option linter.unusedVariables false
set_option linter.unusedSimpArgs false
set_option linter.unnecessarySimpa false
namespace Go.VM
open Go Go.RowKit
section vreps
variable {w:World} {F:Nat->Prop} {ι:Nat->Option Ref}
theorem q03 {k:IntKind} {n:den (.int k)} {v:Value}:vrep w F ι (.int k) n v↔v=.int k n:=by simp[vrep,vrep1,isAggT,cellT,rep]
theorem q0l {n:den .bool} {v:Value}:vrep w F ι .bool n v↔v=.bool n:=by simp[vrep,vrep1,isAggT,cellT,rep]
theorem q0s {n:den .str} {v:Value}:vrep w F ι .str n v↔v=.string n:=by simp[vrep,vrep1,isAggT,cellT,rep]
theorem q0r {c:Cst} {n:den (.cst c)} {v:Value}:vrep w F ι (.cst c) n v↔v=c.val:=by simp[vrep,vrep1,isAggT,cellT,rep]
theorem vrep_cell {t:Ty} {x:den t} {v:Value} (h:cellT t=true):vrep w F ι t x v↔rep w F ι t x [v]:=by
 cases t<;>simp_all [vrep,vrep1,isAggT,cellT]
theorem vrep_agg {t:Ty} {x:den t} {v:Value} (h:isAggT t=true):vrep w F ι t x v↔∃ cs,v=.agg cs/\rep w F ι t x cs.toList:=by
 cases t<;>simp_all [vrep,vrep1,isAggT,cellT]
theorem vrep_cells {t:Ty} {x:den t} {v:Value} (ht:isAggT t=true∨cellT t=true) (h:vrep w F ι t x v):rep w F ι t x v.cells.toList:=by
 rcases ht with ht | ht
 . rw[vrep_agg ht] at h;obtain⟨cs,rfl,h⟩:=h;exact h
 . rw[vrep_cell ht] at h;rw[q6I ht h];exact h
theorem q1W {t:Ty} {x:den t} {cs:Array Value} (ht:isAggT t=true) (h:rep w F ι t x cs.toList):vrep w F ι t x (.agg cs):=
 (vrep_agg ht).2 ⟨cs,rfl,h⟩
end vreps
def valT (t:Ty):Bool:=isAggT t || cellT t
def q3d {α:Type} (f:List Value->Option (α×List Value)):Nat->List Value->Option (List α×List Value)
 | 0,cs=>some ([],cs)
 | n+1,cs=>match f cs with
  | some (x,r)=>match q3d f n r with
   | some (xs,r')=>some (x :: xs,r')
   | none=>none
  | none=>none
def ofCst:Cst->Value->Bool
 | .nilSl,.slice none 0 0=>true
 | .nilFn,.nilFunc=>true
 | .nilPtr,.pointer none=>true
 | .nilIf,.nilIface=>true
 | _,_=>false
def ofI (k:IntKind):Value->Option Int
 | .int k' n=>if k'=k then some n else none
 | _=>none
def ofB:Value->Option Bool
 | .bool b=>some b
 | _=>none
def ofS:Value->Option ByteArray
 | .string b=>some b
 | _=>none
def ofNil:Value->Bool
 | .slice none 0 0=>true
 | _=>false
theorem ofI_val {k:IntKind} {v:Value} {n:Int} (h:ofI k v=some n):v=.int k n:=by
 unfold ofI at h
 split at h
 . split at h
   . rename_i e;simp at h;rw[e,h]
   . simp at h
 . simp at h
theorem ofB_val {v:Value} {n:Bool} (h:ofB v=some n):v=.bool n:=by unfold ofB at h;split at h<;>simp_all
theorem ofS_val {v:Value} {n:ByteArray} (h:ofS v=some n):v=.string n:=by unfold ofS at h;split at h<;>simp_all
theorem ofNil_val {v:Value} (h:ofNil v=true):v=.slice none 0 0:=by unfold ofNil at h;split at h<;>simp_all
def head1 {α:Type} (f:Value->Option α):List Value->Option (α×List Value)
 | []=>none
 | v :: r=>match f v with
  | some x=>some (x,r)
  | none=>none
theorem q37 {α:Type} {f:Value->Option α} {cs r:List Value} {x:α} (h:head1 f cs=some (x,r)):∃ v,cs=v :: r/\f v=some x:=by
 unfold head1 at h
 split at h
 . simp at h
 . split at h
   . rename_i e;simp at h;obtain⟨rfl,rfl⟩:=h;exact⟨_,rfl,e⟩
   . simp at h
def ofCells:(t:Ty)->List Value->Option (den t×List Value)
 | .int k=>head1 (ofI k)
 | .bool=>head1 ofB
 | .str=>head1 ofS
 | .cst c=>head1 (fun v=>bif ofCst c v then some () else none)
 | .sl _=>head1 (fun v=>bif ofNil v then some none else none)
 | .unit=>fun r=>some ((),r)
 | .pair a b=>fun r=>match ofCells a r with
  | some (x,r1)=>match ofCells b r1 with
   | some (y,r2)=>some ((x,y),r2)
   | none=>none
  | none=>none
 | .agg c=>ofCells c
 | .arr n t=>q3d (ofCells t) n
 | .tup _=>fun _=>none
 | .ref _ _=>fun _=>none
 | .own _=>fun _=>none
 | .eref _ _=>fun _=>none
 | .fref _=>fun _=>none
 | .vw _=>fun _=>none
 | .clo _ _=>fun _=>none
 | .hd _=>fun _=>none
 | .her _ _=>fun _=>none
 | .bref _ _ _=>fun _=>none
 | .nul=>fun _=>none
theorem ofCst_val {c:Cst} {v:Value} (h:ofCst c v=true):v=c.val:=by
 unfold ofCst at h
 split at h<;>simp_all [Cst.val]
theorem bif_some {α:Type} {b:Bool} {x y:α} (h:(bif b then some x else none)=some y):b=true/\x=y:=by
 cases b<;>simp_all
theorem q1A {α:Type} {b:Bool} {x:Option α} {y:α} (h:(bif b then x else none)=some y):b=true/\x=some y:=by
 cases b with
 | true=>exact⟨rfl,h⟩
 | false=>cases h
theorem q2l {w:World} {F:Nat->Prop} {ι:Nat->Option Ref}:∀ (t:Ty) (cs:List Value) (x:den t) (r:List Value),
 ofCells t cs=some (x,r)->∃ c,cs=c ++ r/\rep w F ι t x c
 | .int k,cs,x,r,h=>by obtain⟨v,rfl,e⟩:=q37 h;exact⟨[v],rfl,by simp[rep,ofI_val e]⟩
 | .bool,cs,x,r,h=>by obtain⟨v,rfl,e⟩:=q37 h;exact⟨[v],rfl,by simp[rep,ofB_val e]⟩
 | .str,cs,x,r,h=>by obtain⟨v,rfl,e⟩:=q37 h;exact⟨[v],rfl,by simp[rep,ofS_val e]⟩
 | .cst c,cs,x,r,h=>by obtain⟨v,rfl,e⟩:=q37 h;exact⟨[v],rfl,by simp[rep,ofCst_val (bif_some e).1]⟩
 | .sl t,cs,x,r,h=>by
  obtain⟨v,rfl,e⟩:=q37 h
  obtain⟨e1,e2⟩:=bif_some e
  have e2:x=(none:Option (List (den t))):=e2.symm
  subst e2
  exact⟨[v],rfl,by simp[rep,ofNil_val e1]⟩
 | .unit,cs,x,r,h=>by simp only[ofCells,Option.some.injEq,Prod.mk.injEq] at h;obtain⟨_,rfl⟩:=h;exact⟨[],rfl,rfl⟩
 | .pair a b,cs,x,r',h=>by
  simp only[ofCells] at h
  split at h
  case h_2=>simp at h
  case h_1 x1 r1 h1=>
   split at h
   case h_2=>simp at h
   case h_1 y r2 h2=>
    simp only[Option.some.injEq,Prod.mk.injEq] at h
    obtain⟨rfl,rfl⟩:=h
    obtain⟨c1,rfl,q1⟩:=q2l (w:=w) (F:=F) (ι:=ι) a cs x1 r1 h1
    obtain⟨c2,rfl,q2⟩:=q2l (w:=w) (F:=F) (ι:=ι) b _ y _ h2
    exact⟨c1 ++ c2,by simp,by simp only[rep];exact⟨c1,c2,rfl,q1,q2⟩⟩
 | .agg c,cs,x,r,h=>by simp only[ofCells] at h;simp only[rep];exact q2l c cs x r h
 | .arr n t,cs,x,r,h=>by
  simp only[ofCells] at h
  have key:∀ (n:Nat) (cs:List Value) (xs:List (den t)) (r:List Value),q3d (ofCells t) n cs=some (xs,r)->
   ∃ c,cs=c ++ r/\xs.length=n/\c.length=n*width t/\∀ i y,xs[i]?=some y->rep w F ι t y (seg c (i*width t) (width t)):=by
   intro n
   induction n with
   | zero=>intro cs xs r h;simp only[q3d,Option.some.injEq,Prod.mk.injEq] at h;obtain⟨rfl,rfl⟩:=h;exact⟨[],rfl,rfl,by simp,by simp⟩
   | succ n ih=>
    intro cs xs r h
    simp only[q3d] at h
    split at h
    case h_2=>simp at h
    case h_1 x1 r1 h1=>
     split at h
     case h_2=>simp at h
     case h_1 ys r2 h2=>
      simp only[Option.some.injEq,Prod.mk.injEq] at h
      obtain⟨rfl,rfl⟩:=h
      obtain⟨c1,rfl,q1⟩:=q2l (w:=w) (F:=F) (ι:=ι) t cs x1 r1 h1
      obtain⟨c2,rfl,e1,e2,q2⟩:=ih _ _ _ h2
      have hl:=rep_length _ _ _ q1
      refine⟨c1 ++ c2,by simp,by simp[e1],by simp[hl,e2,Nat.add_mul];omega,?_⟩
      intro i y hy
      cases i with
      | zero=>
       simp only[List.getElem?_cons_zero,Option.some.injEq] at hy;subst hy
       rw[Nat.zero_mul,q1u _ _ _ _ (by omega),q18 _ _ hl];exact q1
      | succ i=>
       simp only[List.getElem?_cons_succ] at hy
       have hh:c1.length<=(i+1)*width t:=by rw[hl,Nat.add_mul];omega
       rw[q2t _ _ _ _ hh,hl,Nat.add_mul,Nat.one_mul,Nat.add_sub_cancel]
       exact q2 i y hy
  obtain⟨c,q0,q1,q2,q3⟩:=key n cs x r h
  exact⟨c,q0,by simp only[rep];exact⟨q1,q2,q3⟩⟩
 | .tup _,_,_,_,h | .ref _ _,_,_,_,h | .own _,_,_,_,h | .eref _ _,_,_,_,h | .fref _,_,_,_,h | .vw _,_,_,_,h | .clo _ _,_,_,_,h | .hd _,_,_,_,h | .her _ _,_,_,_,h | .bref _ _ _,_,_,_,h | .nul,_,_,_,h=>by simp[ofCells] at h
def tyList (f:TypeId->Option Ty):List TypeId->Option Ty
 | []=>some .unit
 | [t]=>f t
 | t :: ts=>match f t with
  | some a=>match tyList f ts with
   | some b=>some (.pair a b)
   | none=>none
  | none=>none
def tyTup (f:TypeId->Option Ty):List TypeId->Option Ty
 | []=>some .unit
 | t :: ts=>match f t with
  | some a=>match tyTup f ts with
   | some b=>some (.pair a b)
   | none=>none
  | none=>none
def tyOf (P:Program):Nat->TypeId->Option Ty
 | 0,_=>none
 | n+1,t=>match P.underlying t with
  | some (.int k)=>some (.int k)
  | some .bool=>some .bool
  | some .string=>some .str
  | some (.slice e)=>match tyOf P n e with | some a=>some (.sl a) | none=>none
  | some (.struct fs)=>match tyList (tyOf P n) (fs.toList.map (·.type)) with | some a=>some (.agg a) | none=>none
  | some (.array m e)=>match tyOf P n e with | some a=>some (.arr m a) | none=>none
  | some (.pointer _)=>some (.cst .nilPtr)
  | some (.func _ _ _)=>some (.cst .nilFn)
  | some (.interface _)=>some (.cst .nilIf)
  | some (.tuple ts)=>match tyTup (tyOf P n) ts.toList with | some a=>some (.tup a) | none=>none
  | _=>none
def zeroV (P:Program) (t:TypeId):Option V:=
 match tyOf P 12 t with
 | some ty=>match P.info? t with
  | some i=>match i.zero with
   | some z=>match ofCells ty z.cells.toList with
    | some (x,[])=>bif valT ty then some ⟨ty,x⟩ else none
    | _=>none
   | none=>none
  | none=>none
 | none=>none
theorem q1R {P:Program} {t:TypeId} {i:TypeInfo} (h:P.info? t=some i) (w:World):(typeInfo t).run P w=.ok i w:=by
 simp[typeInfo,run_program,h]
theorem q6p {P:Program} {t:TypeId} {v:V} (h:zeroV P t=some v) (w:World):∃ z,(zeroValue t).run P w=.ok z w/\valT v.t=true /\
 ∀ F ι,rep w F ι v.t v.x z.cells.toList:=by
 unfold zeroV at h
 split at h<;>try simp at h
 split at h<;>try simp at h
 rename_i ty _ _ i hi
 split at h<;>try simp at h
 rename_i z hz
 split at h<;>try simp at h
 rename_i x hx
 cases hv:valT ty<;>rw[hv] at h<;>simp at h
 subst h
 refine⟨z,?_,hv,fun F ι=>?_⟩
 . simp[zeroValue,q1R hi,hz]
 . obtain⟨c,e,q⟩:=q2l (w:=w) (F:=F) (ι:=ι) _ _ _ _ hx
   simp at e;rw[e];exact q
end Go.VM
namespace Go.VM
open Go Go.RowKit
def castT (t u:Ty) (x:den u):Option (den t):=if h:u=t then some (h ▸ x) else none
def coeP {α β:Type} (f:(u:Ty)->den u->Option α) (g:(u:Ty)->den u->Option β):(u:Ty)->den u->Option (α×β)
 | .pair a b=>fun x=>match f a x.1 with
  | some y=>match g b x.2 with
   | some z=>some (y,z)
   | none=>none
  | none=>none
 | _=>fun _=>none
def coeA {α:Type} (f:(u:Ty)->den u->Option α):(u:Ty)->den u->Option α
 | .agg c=>f c
 | _=>fun _=>none
def coeT {α:Type} (f:(u:Ty)->den u->Option α):(u:Ty)->den u->Option α
 | .tup c=>f c
 | _=>fun _=>none
def q16:Cst->Bool
 | .nilSl=>true
 | _=>false
def coeB (t:Ty):Option Blk->Option (den (.sl t))
 | some (.arr t' l)=>castT (.sl t) (.sl t') l
 | _=>none
def coeW (t:Ty) (k:Option Blk) (l h:Int):Option (den (.sl t)):=
 match k with
 | some (.arr t' y)=>castT (.sl t) (.sl t') (slcS y l h)
 | _=>none
def coeH (t:Ty) (p:Nat) (k:Option Blk) (x:Option Nat):Option (den (.sl t)):=
 match k with
 | some (.pool q t' ls)=>bif Nat.beq p q then castT (.sl t) (.sl t') (unH ls x) else none
 | _=>none
def coeS (hp:Nat->Option Blk) (t:Ty):(u:Ty)->den u->Option (den (.sl t))
 | .cst c=>fun _=>bif q16 c then some (dflt (.sl t)) else none
 | .own b=>fun _=>coeB t (hp b)
 | .vw b=>fun x=>coeW t (hp b) x.1 x.2
 | .sl t'=>castT (.sl t) (.sl t')
 | .hd p=>fun x=>coeH t p (hp p) x
 | _=>fun _=>none
theorem coeS_some {hp:Nat->Option Blk} {t:Ty}:∀ {u:Ty} {x:den u} {y:den (.sl t)},coeS hp t u x=some y->
 (u=.cst .nilSl/\y=dflt (.sl t))∨(∃ b l,u=.own b/\hp b=some (.arr t l)/\y=l)∨(∃ e:u=.sl t,e ▸ x=y) ∨
  (∃ b l,∃ e:u=.vw b,hp b=some (.arr t l)/\y=slcS l (e ▸ x:den (.vw b)).1 (e ▸ x:den (.vw b)).2) ∨
  (∃ p ls,∃ e:u=.hd p,hp p=some (.pool p t ls)/\y=unH ls (e ▸ x:den (.hd p))):=by
 intro u x y h
 cases u with
 | cst c=>
  change (bif q16 c then some (dflt (.sl t)) else none)=some y at h
  cases c<;>simp[q16] at h
  exact .inl ⟨rfl,h.symm⟩
 | own b=>
  change coeB t (hp b)=some y at h
  unfold coeB at h
  split at h
  . rename_i t' l hb
    unfold castT at h
    split at h
    . rename_i e;cases e;simp at h;exact .inr (.inl ⟨b,l,rfl,hb,h.symm⟩)
    . simp at h
  . simp at h
 | sl t'=>
  change castT (.sl t) (.sl t') x=some y at h
  unfold castT at h
  split at h
  . rename_i e;simp at h;exact .inr (.inr (.inl ⟨e,h⟩))
  . simp at h
 | vw b=>
  change coeW t (hp b) (x:Int×Int).1 (x:Int×Int).2=some y at h
  unfold coeW at h
  split at h
  . rename_i t' l hb
    unfold castT at h
    split at h
    . rename_i e;cases e;simp only[Option.some.injEq] at h;exact .inr (.inr (.inr (.inl ⟨b,l,rfl,hb,h.symm⟩)))
    . simp at h
  . simp at h
 | hd p=>
  change coeH t p (hp p) x=some y at h
  unfold coeH at h
  split at h
  . rename_i q t' ls hb
    cases e:Nat.beq p q<;>rw[e] at h
    . cases h
    have e:=Nat.eq_of_beq_eq_true e
    subst e
    simp only[cond_true] at h
    unfold castT at h
    split at h
    . rename_i e;cases e;simp only[Option.some.injEq] at h;exact .inr (.inr (.inr (.inr ⟨p,ls,rfl,hb,h.symm⟩)))
    . simp at h
  . simp at h
 | _=>exact absurd h (by intro h;cases h)
theorem q30 {α β:Type} {f:(u:Ty)->den u->Option α} {g:(u:Ty)->den u->Option β}:∀ {u:Ty} {x:den u} {y:α×β},coeP f g u x=some y->
 ∃ a b,∃ e:u=.pair a b,∃ y1 y2,f a (e ▸ x:den (.pair a b)).1=some y1/\g b (e ▸ x:den (.pair a b)).2=some y2/\y=(y1,y2):=by
 intro u x y h
 cases u with
 | pair a b=>
  change (match f a x.1 with
  | some y=>match g b x.2 with
   | some z=>some (y,z)
   | none=>none
  | none=>none)=some y at h
  split at h
  . split at h
    . rename_i h1 _ _ h2;simp at h;exact⟨a,b,rfl,_,_,h1,h2,h.symm⟩
    . simp at h
  . simp at h
 | _=>exact absurd h (by intro h;cases h)
theorem q2d {α:Type} {f:(u:Ty)->den u->Option α}:∀ {u:Ty} {x:den u} {y:α},coeA f u x=some y->∃ c,∃ e:u=.agg c,f c (e ▸ x:den (.agg c))=some y:=by
 intro u x y h
 cases u with
 | agg c=>exact⟨c,rfl,h⟩
 | _=>exact absurd h (by intro h;cases h)
theorem q2e {α:Type} {f:(u:Ty)->den u->Option α}:∀ {u:Ty} {x:den u} {y:α},coeT f u x=some y->∃ c,∃ e:u=.tup c,f c (e ▸ x:den (.tup c))=some y:=by
 intro u x y h
 cases u with
 | tup c=>exact⟨c,rfl,h⟩
 | _=>exact absurd h (by intro h;cases h)
def coe (hp:Nat->Option Blk):(t u:Ty)->den u->Option (den t)
 | .pair a b=>coeP (coe hp a) (coe hp b)
 | .agg c=>coeA (coe hp c)
 | .tup c=>coeT (coe hp c)
 | .sl t=>coeS hp t
 | .int k=>castT (.int k)
 | .bool=>castT .bool
 | .str=>castT .str
 | .cst c=>castT (.cst c)
 | .unit=>castT .unit
 | .arr n t=>castT (.arr n t)
 | .ref b o=>castT (.ref b o)
 | .own b=>castT (.own b)
 | .eref b o=>castT (.eref b o)
 | .fref t=>castT (.fref t)
 | .vw b=>castT (.vw b)
 | .clo f c=>castT (.clo f c)
 | .hd p=>castT (.hd p)
 | .her p o=>castT (.her p o)
 | .bref b w n=>castT (.bref b w n)
 | .nul=>castT .nul
section
variable (hp:Nat->Option Blk)
theorem q1G (a b u:Ty) (x:den u):coe hp (.pair a b) u x=coeP (coe hp a) (coe hp b) u x:=rfl
theorem q1j (c u:Ty) (x:den u):coe hp (.agg c) u x=coeA (coe hp c) u x:=rfl
theorem q1k (c u:Ty) (x:den u):coe hp (.tup c) u x=coeT (coe hp c) u x:=rfl
theorem q13 (c u:Ty) (x:den u):coe hp (.sl c) u x=coeS hp c u x:=rfl
end
theorem castT_some {t u:Ty} {x:den u} {y:den t} (h:castT t u x=some y):∃ e:u=t,e ▸ x=y:=by
 unfold castT at h
 split at h
 . rename_i e;exact⟨e,by simpa using h⟩
 . simp at h
def Holds (w:World) (F:Nat->Prop) (ι:Nat->Option Ref) (hp:Nat->Option Blk):Prop:=
 (∀ b t l,hp b=some (.arr t l)->∃ r,ι b=some r/\rep w F ι (.sl t) l [r.val]/\(r.nil=false->r.wd=width t)) /\
  ∀ p t ls,hp p=some (.pool p t ls)->∀ n r,ι (hnm p n)=some r->r.nil=false->rep w F ι (.sl t) (unH ls (some n)) [r.val]
theorem q7y {w:World} {F:Nat->Prop} {ι:Nat->Option Ref} {t:Ty} {l:Option (List (den t))} {r:Ref} {i j:Int} (h:rep w F ι (.sl t) l [r.val]) (hn:r.nil=false) (hw:r.wd=width t)
 (h0:0<=i) (h1:i<=j) (h2:j<=(r.len:Int)):rep w F ι (.sl t) (slcS l i j) [r.view i j]:=by
 cases l with
 | none=>simp only[rep,Ref.val,hn,Bool.false_eq_true,if_false] at h;simp at h
 | some y=>
  simp only[rep,Ref.val,hn,Bool.false_eq_true,if_false] at h
  obtain⟨a,cap,e,hl,hr⟩:=h
  simp only[List.cons.injEq,and_true,Value.slice.injEq,Option.some.injEq] at e
  obtain⟨rfl,e3,e4⟩:=e
  simp only[Option.map_some,rep,Ref.view,e4,hw]
  have e5:((y.take j.toNat).drop i.toNat).length=j.toNat - i.toNat:=by simp;omega
  refine⟨_,_,by rw[e5],by rw[e5];omega,fun hne=>?_⟩
  obtain⟨cells,el,fz,_,hf,hb,hr⟩:=hr (by rintro rfl;simp at hne)
  dsimp only at hf hb hr
  refine⟨cells,el,fz,rfl,hf,hb,?_⟩
  intro k z hz
  have hk:k<j.toNat - i.toNat:=by
   rcases Nat.lt_or_ge k (j.toNat - i.toNat) with q | q
   . exact q
   . rw[List.getElem?_eq_none (by omega)] at hz;simp at hz
  rw[if_neg (by omega)]
  have:=hr (i.toNat+k) z (by rw[<-hz];simp[List.getElem?_take];omega)
  rw[Nat.add_mul,<-Nat.add_assoc] at this
  exact this
theorem coe_rep {w:World} {F F':Nat->Prop} {ι:Nat->Option Ref} {hp:Nat->Option Blk} (hF:∀ b,F b->F' b) (hh:Holds w F' ι hp):
 ∀ (t u:Ty) (x:den u) (y:den t) (cs:List Value),rep w F ι u x cs->coe hp t u x=some y->rep w F' ι t y cs:=by
 have cast:∀ (t u:Ty) (x:den u) (y:den t) (cs:List Value),rep w F ι u x cs->castT t u x=some y->rep w F' ι t y cs:=by
  intro t u x y cs hr h
  obtain⟨rfl,rfl⟩:=castT_some h
  exact rep_mono hF (fun _ _ h=>h) (fun _ _=>rfl) _ _ _ hr
 intro t
 induction t with
 | pair a b iha ihb=>
  intro u x y cs hr h
  rw[q1G] at h
  obtain⟨a',b',rfl,y1,y2,h1,h2,rfl⟩:=q30 h
  simp only[rep] at hr ⊢
  obtain⟨c1,c2,rfl,q1,q2⟩:=hr
  exact⟨c1,c2,rfl,iha _ _ _ _ q1 h1,ihb _ _ _ _ q2 h2⟩
 | agg c ih=>
  intro u x y cs hr h
  rw[q1j] at h
  obtain⟨c',rfl,h⟩:=q2d h
  simp only[rep] at hr ⊢
  exact ih _ _ _ _ hr h
 | tup c ih=>
  intro u x y cs hr h
  rw[q1k] at h
  obtain⟨c',rfl,h⟩:=q2e h
  simp only[rep] at hr
 | sl t ih=>
  intro u x y cs hr h
  rw[q13] at h
  rcases coeS_some h with ⟨rfl,rfl⟩ | ⟨b,l,rfl,hb,rfl⟩ | ⟨rfl,rfl⟩ | ⟨b,l,rfl,hb,rfl⟩ | ⟨p,ls,rfl,hb,rfl⟩
  . simp only[rep,Cst.val] at hr;subst hr;rfl
  . simp only[rep] at hr
    obtain⟨r,hr,rfl⟩:=hr
    obtain⟨r',hr',q,_⟩:=hh.1 _ _ _ hb
    rw[hr] at hr'
    cases hr'
    exact q
  . exact rep_mono hF (fun _ _ h=>h) (fun _ _=>rfl) _ _ _ hr
  . simp only[rep] at hr
    obtain⟨r,hr,hn,h0,h1,h2,rfl⟩:=hr
    obtain⟨r',hr',q,hw⟩:=hh.1 _ _ _ hb
    rw[hr] at hr'
    cases hr'
    exact q7y q hn (hw hn) h0 h1 h2
  . cases x with
    | none=>simp only[rep] at hr;subst hr;rfl
    | some n=>
     simp only[rep] at hr
     obtain⟨r,hr,hn,rfl⟩:=hr
     exact hh.2 _ _ _ hb n r hr hn
 | _=>intro u x y cs hr h;exact cast _ _ _ _ _ hr h
def q0e:Nat->Option Blk:=fun _=>none
theorem q2i {w:World} {F:Nat->Prop} {ι:Nat->Option Ref}:Holds w F ι q0e:=⟨by intro b t l h;simp[q0e] at h,by intro b t l h;simp[q0e] at h⟩
theorem q3Z {hp:Nat->Option Blk}:∀ (t u:Ty) (x:den u) (y:den t),coe hp t u x=some y->isAggT u=isAggT t/\(t≠u->cellT u=cellT t)/\(cellT u=cellT t):=by
 have cast:∀ (t u:Ty) (x:den u) (y:den t),castT t u x=some y->isAggT u=isAggT t/\(t≠u->cellT u=cellT t)/\(cellT u=cellT t):=by
  intro t u x y h;obtain⟨rfl,rfl⟩:=castT_some h;simp
 intro t u x y h
 cases t with
 | pair a b=>rw[q1G] at h;obtain⟨a',b',rfl,_⟩:=q30 h;simp[isAggT,cellT]
 | agg c=>rw[q1j] at h;obtain⟨c',rfl,_⟩:=q2d h;simp[isAggT,cellT]
 | tup c=>rw[q1k] at h;obtain⟨c',rfl,_⟩:=q2e h;simp[isAggT,cellT]
 | sl t=>
  rw[q13] at h
  rcases coeS_some h with ⟨rfl,rfl⟩ | ⟨b,l,rfl,hb,rfl⟩ | ⟨rfl,rfl⟩ | ⟨b,l,rfl,hb,rfl⟩ | ⟨p,ls,rfl,hb,rfl⟩<;>simp[isAggT,cellT]
 | _=>exact cast _ _ _ _ h
def frozen:Ty->Bool
 | .pair a b=>frozen a && frozen b
 | .agg c=>frozen c
 | .tup c=>frozen c
 | .arr _ t=>frozen t
 | .sl t=>frozen t
 | .fref t=>frozen t
 | .ref _ _ | .own _ | .eref _ _ | .vw _ | .hd _ | .her _ _ | .bref _ _ _=>false
 | .clo _ c=>frozen c
 | _=>true
theorem rep_frozen {w:World} {F:Nat->Prop} {ι ι':Nat->Option Ref}:∀ (t:Ty) (x:den t) (cs:List Value),frozen t=true->rep w F ι t x cs->rep w F ι' t x cs
 | .int _,_,_,_,h | .bool,_,_,_,h | .str,_,_,_,h | .cst _,_,_,_,h | .unit,_,_,_,h | .nul,_,_,_,h=>by simpa only[rep] using h
 | .sl _,none,_,_,h=>by simpa only[rep] using h
 | .sl t,some l,_,hf,h=>by
  simp only[rep] at h ⊢
  obtain⟨a,cap,rfl,hl,hr⟩:=h
  refine⟨a,cap,rfl,hl,fun hn=>?_⟩
  obtain⟨cells,el,fz,hs,hf',hb,hr⟩:=hr hn
  exact⟨cells,el,fz,hs,hf',hb,fun i y hy=>rep_frozen t y _ hf (hr i y hy)⟩
 | .pair a b,x,_,hf,h=>by
  simp only[frozen,Bool.and_eq_true] at hf
  simp only[rep] at h ⊢
  obtain⟨c1,c2,rfl,h1,h2⟩:=h
  exact⟨c1,c2,rfl,rep_frozen a _ _ hf.1 h1,rep_frozen b _ _ hf.2 h2⟩
 | .agg c,x,cs,hf,h=>by simp only[rep] at h ⊢;exact rep_frozen c x cs hf h
 | .arr _ t,_,_,hf,h=>by simp only[rep] at h ⊢;exact⟨h.1,h.2.1,fun i y hy=>rep_frozen t y _ hf (h.2.2 i y hy)⟩
 | .tup _,_,_,_,h=>by simp only[rep] at h
 | .ref _ _,_,_,hf,_ | .own _,_,_,hf,_ | .eref _ _,_,_,hf,_ | .vw _,_,_,hf,_ | .hd _,_,_,hf,_ | .her _ _,_,_,hf,_ | .bref _ _ _,_,_,hf,_=>by simp[frozen] at hf
 | .clo _ c,_,_,hf,h=>by simp only[frozen] at hf;simp only[rep] at h ⊢;obtain⟨caps,e,h⟩:=h;exact⟨caps,e,rep_frozen c _ _ hf h⟩
 | .fref t,_,_,hf,h=>by
  simp only[rep] at h ⊢
  obtain⟨blk,off,cells,el,fz,rfl,hf',hb,hr⟩:=h
  exact⟨blk,off,cells,el,fz,rfl,hf',hb,rep_frozen t _ _ hf hr⟩
theorem vrep_vrep1 {w:World} {F:Nat->Prop} {ι:Nat->Option Ref} {t:Ty} {x:den t} {v:Value} (ht:valT t=true):vrep w F ι t x v↔vrep1 w F ι t x v:=by
 cases t<;>simp_all [valT,isAggT,cellT,vrep]
def bitI (op:BinOp) (k:IntKind) (a b:Int):Int:=
 k.wrap ((match op with
  | .and=>BitVec.ofInt k.bits a &&& BitVec.ofInt k.bits b
  | .or=>BitVec.ofInt k.bits a ||| BitVec.ofInt k.bits b
  | .xor=>BitVec.ofInt k.bits a ^^^ BitVec.ofInt k.bits b
  | _=>BitVec.ofInt k.bits a &&& ~~~(BitVec.ofInt k.bits b):BitVec k.bits).toNat:Int)
def shlI (k:IntKind) (a b:Int):Int:=k.wrap (a*2 ^ (min b.toNat k.bits))
def shrI (k:IntKind) (a b:Int):Int:=a.fdiv (2 ^ (min b.toNat k.bits))
def binI (op:BinOp) (k:IntKind) (a b:Int):Option Res:=
 match op with
 | .add=>some (.val ⟨.int k,k.wrap (a+b)⟩)
 | .sub=>some (.val ⟨.int k,k.wrap (a - b)⟩)
 | .mul=>some (.val ⟨.int k,k.wrap (a*b)⟩)
 | .quo=>some (.cond (b≠0) ⟨.int k,k.wrap (a.tdiv b)⟩)
 | .rem=>some (.cond (b≠0) ⟨.int k,a.tmod b⟩)
 | .and=>some (.val ⟨.int k,bitI .and k a b⟩)
 | .or=>some (.val ⟨.int k,bitI .or k a b⟩)
 | .xor=>some (.val ⟨.int k,bitI .xor k a b⟩)
 | .andNot=>some (.val ⟨.int k,bitI .andNot k a b⟩)
 | .eql=>some (.val ⟨.bool,decide (a=b)⟩)
 | .neq=>some (.val ⟨.bool,notB (decide (a=b))⟩)
 | .lss=>some (.val ⟨.bool,decide (a<b)⟩)
 | .leq=>some (.val ⟨.bool,decide (a<=b)⟩)
 | .gtr=>some (.val ⟨.bool,decide (b<a)⟩)
 | .geq=>some (.val ⟨.bool,decide (b<=a)⟩)
 | .shl=>some (.cond (0<=b) ⟨.int k,shlI k a b⟩)
 | .shr=>some (.cond (0<=b) ⟨.int k,shrI k a b⟩)
def Res.ok (w:World) (F:Nat->Prop) (ι:Nat->Option Ref) (P:Program) (s:Sem Value):Res->Prop
 | .val v=>∃ val,s.run P w=.ok val w/\vrep w F ι v.t v.x val
 | .cond c v=>c->∃ val,s.run P w=.ok val w/\vrep w F ι v.t v.x val
 | .new _=>True
 | .newc _ _=>True
theorem binI_ok {P:Program} {w:World} {F:Nat->Prop} {ι:Nat->Option Ref} {op:BinOp} {ty:TypeId} {x y:Operand} {k:IntKind} {a b:Int} {r:Res}
 (h:binI op k a b=some r):r.ok w F ι P (do eqGuard op ty x y (.int k a) (.int k b);binOp op ty (.int k a) (.int k b)):=by
 have hg:(eqGuard op ty x y (.int k a) (.int k b)).run P w=.ok () w:=by cases op<;>simp[eqGuard]
 have e1:(a == b)=decide (a=b):=by by_cases h:a=b<;>simp[h]
 have e2:(a != b)=!decide (a=b):=by by_cases h:a=b<;>simp[h]
 cases op<;>simp only[binI,Option.some.injEq] at h<;>subst h <;>
  simp only[Res.ok]<;>try intro hc
 all_goals refine⟨_,?_,by first | exact q03.2 rfl | exact q0l.2 rfl⟩
 all_goals simp only[Sem.run_bind,hg,Result.andThen_ok]
 all_goals simp[binOp,Op.intArith,Op.intDiv,Op.intBits,Op.intCmp,Op.shift,bitI,shlI,shrI, *]
 all_goals (intros;omega)
theorem binS_ok {P:Program} {w:World} {F:Nat->Prop} {ι:Nat->Option Ref} {op:BinOp} {ty:TypeId} {x y:Operand} {k k':IntKind} {a b:Int} {r:Res}
 (ho:op=.shl∨op=.shr) (h:binI op k a b=some r):r.ok w F ι P (do eqGuard op ty x y (.int k a) (.int k' b);binOp op ty (.int k a) (.int k' b)):=by
 have hg:(eqGuard op ty x y (.int k a) (.int k' b)).run P w=.ok () w:=by cases op<;>simp[eqGuard]
 rcases ho with rfl | rfl<;>simp only[binI,Option.some.injEq] at h<;>subst h<;>simp only[Res.ok]<;>intro hc
 all_goals refine⟨_,?_,q03.2 rfl⟩
 all_goals simp only[Sem.run_bind,hg,Result.andThen_ok]
 all_goals simp[binOp,Op.shift,shlI,shrI]
 all_goals (intros;omega)
end Go.VM
namespace Go.VM
open Go Go.RowKit
def pinned (n:Nat):Bool:=Nat.ble 1000000000 (n % hbase)
def resv (n:Nat):Bool:=pinned n || isH n
structure Mine where
 n:Nat
 lent:Nat->Prop
 pin:Nat->Option Ref
 u8:TypeId×TypeId
def byteT (P:Program):TypeId:=((List.range P.types.size).find? fun t=>match P.underlying t with
 | some (.int .u8)=>true
 | _=>false).getD 0
def selfT (P:Program):TypeId:=((List.range P.types.size).find? fun t=>match P.underlying t with
 | some (.struct fs)=>match fs.toList with
  | [f,g]=>match P.underlying f.type with
   | some (.pointer e)=>match P.underlying g.type with
    | some (.slice _)=>Nat.beq e t
    | _=>false
   | _=>false
  | _=>false
 | _=>false).getD 0
def u8of (P:Program):TypeId×TypeId:=(byteT P,selfT P)
def hdT:Ty->Nat
 | .own _ | .sl _ | .vw _ | .hd _ | .nul | .cst .nilSl=>1
 | .ref _ _ | .eref _ _ | .her _ _ | .fref _ | .bref _ _ _ | .cst .nilPtr=>2
 | _=>0
def bldT:Ty->Bool
 | .agg (.pair a b)=>Nat.beq (hdT a) 2 && Nat.beq (hdT b) 1
 | _=>false
def hd2:Ty->Nat×Nat
 | .agg (.pair a b)=>(hdT a,hdT b)
 | _=>(0,0)
theorem bld_hd {t u:Ty} (h:hd2 t=hd2 u):bldT t=bldT u:=by
 have e:∀ t,bldT t=(Nat.beq (hd2 t).1 2 && Nat.beq (hd2 t).2 1):=by
  intro t
  unfold bldT hd2
  split<;>simp_all
 rw[e,e,h]
def Mine.own (M:Mine) (k:Nat):Prop:=M.n<=k∨M.lent k
def freshM (u:TypeId×TypeId) (n:Nat):Mine:=⟨n,fun _=>False,fun _=>none,u⟩
structure Keep (M:Mine) (w0 w:World):Prop where
 os:w.os=w0.os
 tape:w.tape=w0.tape
 output:w.output=w0.output
 size:w0.heap.size<=w.heap.size
 block:∀ k,k<M.n->¬ M.lent k->w.heap[k]?=w0.heap[k]?
theorem Keep.refl (M:Mine) (w:World):Keep M w w:=⟨rfl,rfl,rfl,Nat.le_refl _,fun _ _ _=>rfl⟩
theorem Keep.trans {M:Mine} {a b c:World} (h:Keep M a b) (g:Keep M b c):Keep M a c:=
 ⟨g.os.trans h.os,g.tape.trans h.tape,g.output.trans h.output,Nat.le_trans h.size g.size,fun k h1 h2=>(g.block k h1 h2).trans (h.block k h1 h2)⟩
theorem Keep.drew {M:Mine} {a b:World} (h:Keep M a b):Keep M a b.drew:=⟨h.os,h.tape,h.output,h.size,h.block⟩
theorem freshM_own {u:TypeId×TypeId} {n k:Nat} (h:(freshM u n).own k):n<=k:=h.resolve_right fun h=>h
theorem Keep.below {u:TypeId×TypeId} {n:Nat} {a b:World} (h:Keep (freshM u n) a b):Below n a b:=⟨h.os,h.tape,h.output,h.size,fun k hk=>h.block k hk (fun h=>h)⟩
def arep (w:World) (base:Mine) (F:Nat->Prop) (ι:Nat->Option Ref) (r:Ref) (t:Ty) (l:List (den t)):Prop:=
 r.nil=false/\r.wd=width t/\r.len=l.length/\r.len<=r.cap/\base.own r.blk/\¬ F r.blk /\
  ∃ cells el,(t=.int .u8->el=base.u8.1)/\w.heap[r.blk]?=some (.cells cells el (0,0))/\r.off+r.cap*r.wd<=cells.size /\
   ∀ i y,l[i]?=some y->rep w F ι t y (seg cells.toList (r.off+i*width t) (width t))
def brep (w:World) (base:Mine) (F:Nat->Prop) (ι:Nat->Option Ref) (r:Ref):Blk->Prop
 | .box t x=>r.nil=false/\r.off=0/\base.own r.blk/\¬ F r.blk/\valT t=true/\∃ cells el,(bldT t=true->el=base.u8.2)/\w.heap[r.blk]?=some (.cells cells el (0,0))/\rep w F ι t x cells.toList
 | .arr t l=>valT t=true/\match l with
  | none=>r.nil=true
  | some l=>r.nil=false/\r.wd=width t/\r.len=l.length/\r.len<=r.cap/\base.own r.blk/\¬ F r.blk /\
   ∃ cells el,(t=.int .u8->el=base.u8.1)/\w.heap[r.blk]?=some (.cells cells el (0,0))/\r.off+r.cap*r.wd<=cells.size /\
    ∀ i y,l[i]?=some y->rep w F ι t y (seg cells.toList (r.off+i*width t) (width t))
 | .pool p t ls=>r.nil=true/\p<hbase/\valT t=true/\(∀ n,ls.length<=n->ι (hnm p n)=none)/\∀ n l,ls[n]?=some l->∃ s,ι (hnm p n)=some s/\arep w base F ι s t l
def q0f (w:World) (base:Mine) (F:Nat->Prop) (ι:Nat->Option Ref) (hp:Nat->Option Blk):Prop:=
 ∀ b k,hp b=some k->∃ r,ι b=some r/\brep w base F ι r k
theorem heap_lt {w:World} {b:Nat} {o:Obj} (h:w.heap[b]?=some o):b<w.heap.size:=by
 rcases Nat.lt_or_ge b w.heap.size with h' | h'
 . exact h'
 . simp[Array.getElem?_eq_none h'] at h
theorem row_rep {w:World} {base:Mine} {F F':Nat->Prop} {ι:Nat->Option Ref} {p n:Nat} {t:Ty} {ls:List (List (den t))} {r:Ref} (hF:∀ (y:den t) cs,rep w F ι t y cs->rep w F' ι t y cs)
 (hown:∀ k,k<w.heap.size->base.own k->F' k) (q4:∀ n,ls.length<=n->ι (hnm p n)=none) (q5:∀ n l,ls[n]?=some l->∃ s,ι (hnm p n)=some s/\arep w base F ι s t l) (hr:ι (hnm p n)=some r):
 rep w F' ι (.sl t) (unH ls (some n)) [r.val]:=by
 have hlt:n<ls.length:=by
  rcases Nat.lt_or_ge n ls.length with h1 | h1
  . exact h1
  . rw[q4 n h1] at hr;cases hr
 obtain⟨s,hs',a1,a2,a3,a4,a5,a6,cells,el,ae,a7,a8,a9⟩:=q5 n _ (List.getElem?_eq_getElem hlt)
 rw[hr] at hs';cases hs'
 have e:ls.getD n []=ls[n]:=by simp[List.getD,List.getElem?_eq_getElem hlt]
 simp only[unH,Option.map_some,e,rep,Ref.val,a1,if_false,Bool.false_eq_true,a3]
 exact⟨⟨r.blk,r.off,none⟩,r.cap,rfl,by omega,fun _=>⟨cells,el,(0,0),rfl,hown _ (heap_lt a7) a5,a7,fun i y hy=>hF _ _ (a9 i y hy)⟩⟩
theorem q0f.holds {w:World} {base:Mine} {F:Nat->Prop} {ι:Nat->Option Ref} {hp:Nat->Option Blk} (h:q0f w base F ι hp) (hF:∀ b,F b->b<w.heap.size):
 Holds w (fun k=>k<w.heap.size) ι hp:=by
 refine⟨fun b t l hb=>?_,fun p t ls hb n r hr hn=>?_⟩
 case refine_2=>
  obtain⟨_,_,_,_,_,q4,q5⟩:=h _ _ hb
  exact row_rep (fun _ _ h=>rep_mono hF (fun _ _ h=>h) (fun _ _=>rfl) _ _ _ h) (fun _ h _=>h) q4 q5 hr
 obtain⟨r,hr,q⟩:=h _ _ hb
 refine⟨r,hr,?_⟩
 obtain⟨hv,q⟩:=q
 cases l with
 | none=>simp only[rep,Ref.val];simp only at q;rw[if_pos q];exact⟨rfl,fun hn=>by rw[q] at hn;simp at hn⟩
 | some l=>
  obtain⟨q1,q2,q3,q4,q5,q6,cells,el,qe,q7,q8,q9⟩:=q
  refine⟨?_,fun _=>q2⟩
  simp only[rep,Ref.val,q1,if_false,Bool.false_eq_true,q3]
  exact⟨⟨r.blk,r.off,none⟩,r.cap,rfl,by omega,fun _=>⟨cells,el,(0,0),rfl,heap_lt q7,q7,fun i y hy=>rep_mono hF (fun _ _ h=>h) (fun _ _=>rfl) _ _ _ (q9 i y hy)⟩⟩
def tinf (P:Program) (t:TypeId):Option (Bool×Nat):=
 match P.underlying t with
 | some d=>match P.info? t with
  | some i=>some (match d with | .struct _=>true | .array _ _=>true | _=>false,i.size)
  | none=>none
 | none=>none
theorem tinf_run {P:Program} {t:TypeId} {ag:Bool} {n:Nat} (h:tinf P t=some (ag,n)) (w:World):(isAgg t).run P w=.ok ag w/\(sizeOf t).run P w=.ok n w:=by
 unfold tinf at h
 split at h<;>try simp at h
 rename_i d hd
 split at h<;>try simp at h
 rename_i i hi
 obtain⟨rfl,rfl⟩:=h
 constructor
 . simp only[isAgg,Sem.run_bind,run_underlying hd,Result.andThen_ok]
   cases d<;>rfl
 . simp[sizeOf,q1R hi]
theorem q0y (cs:List Value) (o n j:Nat) (h:j<n):(seg cs o n)[j]?=cs[o+j]?:=by
 simp[seg,h]
theorem q1F {w:World} {b:Nat} {cells:Array Value} {el:TypeId} {fz:Nat×Nat} (h:w.heap[b]?=some (.cells cells el fz)) (o:Nat):w.cell? ⟨b,o,none⟩=cells.toList[o]?:=by
 simp[World.cell?,h]
theorem q0m (b o n:Nat):(⟨b,o,none⟩:Addr).add n=⟨b,o+n,none⟩:=by
 unfold Addr.add;split
 . subst_vars;simp
 . rfl
theorem q4b {P:Program} {w:World} {t:TypeId} {ag:Bool} {n b o:Nat} {cells:Array Value} {el:TypeId} {fz:Nat×Nat} {F:Nat->Prop} {ι:Nat->Option Ref} {u:V}
 (ht:tinf P t=some (ag,n)) (hb:w.heap[b]?=some (.cells cells el fz)) (hr:rep w F ι u.t u.x (seg cells.toList o n)) (hl:(seg cells.toList o n).length=n)
 (ha:isAggT u.t=ag) (hc:ag=false->cellT u.t=true/\n=1):∃ val,(loadVar t ⟨b,o,none⟩).run P w=.ok val w/\vrep w F ι u.t u.x val:=by
 obtain⟨h1,h2⟩:=tinf_run ht w
 cases ag with
 | true=>
  have hlen:=hl
  refine⟨.agg (seg cells.toList o n).toArray,?_,q1W ha (by simpa using hr)⟩
  simp only[loadVar,Sem.run_bind,h1,Result.andThen_ok,if_true,h2]
  have:=run_loadCells_list (P:=P) w ⟨b,o,none⟩ (seg cells.toList o n) (by
   intro j v hj
   have hj':j<n:=by
    rcases Nat.lt_or_ge j n with h | h
    . exact h
    . rw[List.getElem?_eq_none (by omega)] at hj;simp at hj
   rw[q0m,q1F hb,<-q0y _ _ _ _ hj'];exact hj)
  rw[hlen] at this
  rw[this];rfl
 | false=>
  obtain⟨hc1,rfl⟩:=hc rfl
  have ho:o<cells.toList.length:=by simp only[seg,List.length_take,List.length_drop] at hl;omega
  have hs:seg cells.toList o 1=[cells.toList[o]]:=by
   unfold seg;rw[List.drop_eq_getElem_cons ho];simp
  rw[hs] at hr
  refine⟨cells.toList[o],?_,(vrep_cell hc1).2 hr⟩
  simp only[loadVar,Sem.run_bind,h1,Result.andThen_ok,Bool.false_eq_true,if_false]
  simp[load,Sem.run,q1F hb,List.getElem?_eq_getElem ho]
abbrev rowE {α:Type} (d:α) (ls:List (List α)) (n i:Nat):α:=(ls.getD n []).getD i d
theorem q6u {P:Program} {w:World} {base:Mine} {F:Nat->Prop} {ι:Nat->Option Ref} {t:TypeId} {ag:Bool} {n o i:Nat} {u:V} {ty:Ty} {l:List (den ty)} {r:Ref}
 (ht:tinf P t=some (ag,n)) (q:arep w base F ι r ty l) (e2:i<r.len) (h:sub ag ty (l.getD i (dflt ty)) o n=some u):
 ∃ x,(Instr.loadAt t (.pointer (some ⟨r.blk,r.off+i*r.wd+o,none⟩))).run P w=.ok x w/\vrep w F ι u.t u.x x:=by
 obtain⟨q1,q2,q3,q4,q5,q6,cells,el,qe,q7,q8,q9⟩:=q
 have hi:i<l.length:=by rw[<-q3];exact e2
 have hg:l[i]?=some (l.getD i (dflt ty)):=by simp[List.getD,List.getElem?_eq_getElem hi]
 obtain⟨s1,s2,s3,s4⟩:=q0I _ _ _ _ _ _ (q9 i _ hg) h
 have hlen:=rep_length _ _ _ (q9 i _ hg)
 rw[hlen] at s2
 have hsz:r.off+(i+1)*width ty<=cells.size:=by
  have:(i+1)*width ty<=r.cap*width ty:=Nat.mul_le_mul_right _ (by omega)
  rw[q2] at q8;omega
 rw[q2u _ _ _ _ _ s2] at s1
 simp only[Instr.loadAt,Instr.sureAddr,Sem.run_bind,Sem.run_pure,Result.andThen_ok,q2]
 refine q4b ht q7 s1 ?_ s3 s4
 rw[Nat.add_mul] at hsz
 simp only[seg,List.length_take,List.length_drop,Array.length_toList];omega
def noU8:Ty->Bool
 | .int .u8=>false
 | _=>true
theorem box_arep {w:World} {base:Mine} {F:Nat->Prop} {ι:Nat->Option Ref} {r:Ref} {k:Nat} {t:Ty} {l:List (den t)} (h:brep w base F ι r (.box (.arr k t) l)) (hu:noU8 t=true):
 arep w base F ι ⟨r.blk,0,width t,false,k,k⟩ t l:=by
 obtain⟨q1,q2,q3,q4,q5,cells,el,_,q6,q7⟩:=h
 simp only[rep] at q7
 obtain⟨g1,g2,g3⟩:=q7
 refine⟨rfl,rfl,g1.symm,Nat.le_refl _,q3,q4,cells,el,?_,q6,?_,fun i y hy=>?_⟩
 . rintro rfl;cases hu
 . show 0+k*width t<=cells.size
   rw[Nat.zero_add,<-g2,Array.length_toList];exact Nat.le_refl _
 . show rep w F ι t y (seg cells.toList (0+i*width t) (width t))
   rw[Nat.zero_add];exact g3 i y hy
def loadV (hp:Nat->Option Blk) (ag:Bool) (n:Nat):V->Option V
 | ⟨.ref b o,_⟩=>match hp b with
  | some (.box t x)=>sub ag t x o n
  | _=>none
 | ⟨.eref b o,i⟩=>match hp b with
  | some (.arr t l)=>sub ag t (eltN (dflt t) l i) o n
  | _=>none
 | ⟨.fref t,x⟩=>sub ag t x 0 n
 | ⟨.her p o,x⟩=>match hp p with
  | some (.pool q t ls)=>bif Nat.beq p q then sub ag t (rowE (dflt t) ls x.1 x.2) o n else none
  | _=>none
 | ⟨.bref b wd m,i⟩=>match hp b with
  | some (.box (.arr k t) l)=>bif Nat.beq k m && Nat.beq wd (width t) && noU8 t then sub ag t (List.getD (α:=den t) l i (dflt t)) 0 n else none
  | _=>none
 | _=>none
theorem q5A {P:Program} {w:World} {base:Mine} {F:Nat->Prop} {ι:Nat->Option Ref} {hp:Nat->Option Blk} (hh:q0f w base F ι hp) {t:TypeId} {ag:Bool} {n:Nat} {v u:V} {val:Value}
 (ht:tinf P t=some (ag,n)) (hv:vrep w F ι v.t v.x val) (h:loadV hp ag n v=some u):∃ r,(Instr.loadAt t val).run P w=.ok r w/\vrep w F ι u.t u.x r:=by
 unfold loadV at h
 split at h
 . rename_i b o x
   split at h<;>try simp at h
   rename_i ty x hb
   obtain⟨r,hr,q1,q2,q3,q4,q5,cells,el,_,q6,q7⟩:=hh _ _ hb
   obtain⟨s1,s2,s3,s4⟩:=q0I _ _ _ _ _ _ q7 h
   rw[vrep_cell rfl] at hv
   simp only[rep] at hv
   obtain⟨r',hr',e⟩:=hv
   rw[hr] at hr';cases hr'
   simp only[List.cons.injEq,and_true] at e
   subst e
   rw[q2,Nat.zero_add]
   simp only[Instr.loadAt,Instr.sureAddr,Sem.run_bind,Sem.run_pure,Result.andThen_ok]
   exact q4b ht q6 s1 (by simp only[seg,List.length_take,List.length_drop];omega) s3 s4
 . rename_i b o i
   change Nat at i
   split at h<;>try simp at h
   rename_i ty l hb
   obtain⟨r,hr,q0,q⟩:=hh _ _ hb
   rw[vrep_cell rfl] at hv
   simp only[rep] at hv
   obtain⟨r',hr',e1,e2,e⟩:=hv
   rw[hr] at hr';cases hr'
   simp only[List.cons.injEq,and_true] at e
   subst e
   cases l with
   | none=>simp only at q;rw[q] at e1;simp at e1
   | some l=>
    obtain⟨q1,q2,q3,q4,q5,q6,cells,el,qe,q7,q8,q9⟩:=q
    have hi:i<l.length:=by rw[<-q3];exact e2
    simp only[Option.getD_some] at h
    have hg:l[i]?=some (l.getD i (dflt ty)):=by simp[List.getD,List.getElem?_eq_getElem hi]
    obtain⟨s1,s2,s3,s4⟩:=q0I _ _ _ _ _ _ (q9 i _ hg) h
    have hlen:=rep_length _ _ _ (q9 i _ hg)
    rw[hlen] at s2
    have hsz:r.off+(i+1)*width ty<=cells.size:=by
     have:(i+1)*width ty<=r.cap*width ty:=Nat.mul_le_mul_right _ (by omega)
     rw[q2] at q8;omega
    rw[q2u _ _ _ _ _ s2] at s1
    simp only[Instr.loadAt,Instr.sureAddr,Sem.run_bind,Sem.run_pure,Result.andThen_ok,q2]
    refine q4b ht q7 s1 ?_ s3 s4
    rw[Nat.add_mul] at hsz
    simp only[seg,List.length_take,List.length_drop,Array.length_toList];omega
 . rename_i ty x
   rw[vrep_cell rfl] at hv
   simp only[rep] at hv
   obtain⟨blk,off,cells,el,fz,e,hf,hb,hr⟩:=hv
   simp only[List.cons.injEq,and_true] at e
   subst e
   obtain⟨s1,s2,s3,s4⟩:=q0I _ _ _ _ _ _ hr h
   have hlen:=rep_length _ _ _ hr
   rw[hlen] at s2
   rw[q2u _ _ _ _ _ s2] at s1
   simp only[Instr.loadAt,Instr.sureAddr,Sem.run_bind,Sem.run_pure,Result.andThen_ok]
   refine q4b ht hb s1 ?_ s3 s4
   simp only[seg,List.length_take,List.length_drop] at hlen ⊢
   omega
 . rename_i p o x
   change Nat×Nat at x
   split at h<;>try simp at h
   rename_i q ty ls hb
   cases hpq:Nat.beq p q<;>rw[hpq] at h
   . simp at h
   rw[Nat.beq_eq] at hpq;subst hpq
   simp only[cond_true] at h
   obtain⟨_,_,_,_,_,hfree,hrow⟩:=hh _ _ hb
   rw[vrep_cell rfl] at hv
   simp only[rep] at hv
   obtain⟨r',hr',e1,e2,e⟩:=hv
   simp only[List.cons.injEq,and_true] at e
   subst e
   have hlt:x.1<ls.length:=by
    rcases Nat.lt_or_ge x.1 ls.length with h1 | h1
    . exact h1
    . rw[hfree _ h1] at hr';cases hr'
   obtain⟨s,hs,q⟩:=hrow x.1 _ (List.getElem?_eq_getElem hlt)
   rw[hr'] at hs;cases hs
   refine q6u ht q e2 ?_
   simpa only[rowE,List.getD,List.getElem?_eq_getElem hlt,Option.getD_some] using h
 . rename_i b wd m i
   change Nat at i
   split at h<;>try simp at h
   rename_i k ty l hb
   change List (den ty) at l
   cases hc:(Nat.beq k m && Nat.beq wd (width ty) && noU8 ty)<;>rw[hc] at h<;>simp only[cond_true,cond_false,reduceCtorEq] at h
   simp only[Bool.and_eq_true,Nat.beq_eq] at hc
   obtain⟨⟨rfl,rfl⟩,hno⟩:=hc
   obtain⟨r,hr,hk⟩:=hh _ _ hb
   rw[vrep_cell rfl] at hv
   simp only[rep] at hv
   obtain⟨r',hr',e1,e2,e⟩:=hv
   rw[hr] at hr';cases hr'
   simp only[List.cons.injEq,and_true] at e
   subst e
   rw[hk.2.1]
   exact q6u (l:=l) (o:=0) ht (box_arep hk hno) e2 h
 . simp at h
end Go.VM
namespace Go.VM
open Go Go.RowKit
section
variable {P:Program} {w:World} {base:Mine} {F:Nat->Prop} {ι:Nat->Option Ref} {hp:Nat->Option Blk}
def fieldV (P:Program) (s:TypeId) (f:Nat) (v:V):Option V:=
 match P.underlying s with
 | some (.struct fs)=>match fs[f]? with
  | some fd=>match tinf P fd.type with
   | some (_,0)=>none
   | some (ag,n+1)=>match v with
    | ⟨.ref b o,_⟩=>some ⟨.ref b (o+fd.offset),()⟩
    | ⟨.eref b o,i⟩=>some ⟨.eref b (o+fd.offset),i⟩
    | ⟨.her b o,i⟩=>some ⟨.her b (o+fd.offset),i⟩
    | ⟨.fref t,x⟩=>match sub ag t x fd.offset (n+1) with
     | some u=>some ⟨.fref u.t,u.x⟩
     | none=>none
    | _=>none
   | none=>none
  | none=>none
 | _=>none
theorem fieldV_ok {s:TypeId} {f:Nat} {v u:V} {val:Value} (hv:vrep w F ι v.t v.x val) (h:fieldV P s f v=some u):
 ∃ r,(Instr.fieldAt s val f).run P w=.ok r w/\vrep w F ι u.t u.x r:=by
 unfold fieldV at h
 split at h<;>try (simp at h;done)
 rename_i fs hs
 split at h<;>try (simp at h;done)
 rename_i fd hf
 split at h<;>try (simp at h;done)
 rename_i ag n ht
 obtain⟨h1,h2⟩:=tinf_run ht w
 have run:∀ b o,(Instr.fieldAt s (.pointer (some ⟨b,o,none⟩)) f).run P w=.ok (.pointer (some ⟨b,o+fd.offset,none⟩)) w:=by
  intro b o
  simp[Instr.fieldAt,run_underlying hs,hf,Instr.sureAddr,fieldPlace,h2,q0m]
 split at h
 . rename_i b o x
   simp only[Option.some.injEq] at h;subst h
   rw[vrep_cell rfl] at hv;simp only[rep] at hv
   obtain⟨r,hr,e⟩:=hv
   simp only[List.cons.injEq,and_true] at e;subst e
   exact⟨_,run _ _,(vrep_cell rfl).2 ⟨r,hr,by rw[Nat.add_assoc]⟩⟩
 . rename_i b o i
   simp only[Option.some.injEq] at h;subst h
   change Nat at i
   rw[vrep_cell rfl] at hv;simp only[rep] at hv
   obtain⟨r,hr,h1,h2,e⟩:=hv
   simp only[List.cons.injEq,and_true] at e;subst e
   exact⟨_,run _ _,(vrep_cell rfl).2 ⟨r,hr,h1,h2,by rw[Nat.add_assoc]⟩⟩
 . rename_i b o i
   simp only[Option.some.injEq] at h;subst h
   change Nat×Nat at i
   rw[vrep_cell rfl] at hv;simp only[rep] at hv
   obtain⟨r,hr,h1,h2,e⟩:=hv
   simp only[List.cons.injEq,and_true] at e;subst e
   exact⟨_,run _ _,(vrep_cell rfl).2 ⟨r,hr,h1,h2,by rw[Nat.add_assoc]⟩⟩
 . rename_i t x
   split at h<;>try (simp at h;done)
   rename_i u' hu
   simp only[Option.some.injEq] at h;subst h
   rw[vrep_cell rfl] at hv;simp only[rep] at hv
   obtain⟨blk,off,cells,el,fz,e,hf',hb,hr⟩:=hv
   simp only[List.cons.injEq,and_true] at e;subst e
   obtain⟨s1,s2,s3,s4⟩:=q0I _ _ _ _ _ _ hr hu
   have hl:=rep_length _ _ _ hr
   rw[hl] at s2
   rw[q2u _ _ _ _ _ s2] at s1
   have hw:=rep_length _ _ _ s1
   refine⟨_,run _ _,(vrep_cell rfl).2 ⟨blk,off+fd.offset,cells,el,fz,rfl,hf',hb,?_⟩⟩
   rw[show width u'.t=n+1 by rw[<-hw];simp only[seg,List.length_take,List.length_drop] at hl ⊢;omega]
   exact s1
 . simp at h
def partV (P:Program) (s:TypeId) (f:Nat) (v:V):Option V:=
 match P.underlying s with
 | some (.struct fs)=>match fs[f]? with
  | some fd=>match tinf P fd.type with
   | some (ag,n)=>bif isAggT v.t then sub ag v.t v.x fd.offset n else none
   | none=>none
  | none=>none
 | _=>none
theorem q3e {t:TypeId} {ag:Bool} {n o:Nat} {cs:Array Value} {u:V} (ht:tinf P t=some (ag,n)) (hr:rep w F ι u.t u.x (seg cs.toList o n)) (hl:o+n<=cs.toList.length)
 (ha:isAggT u.t=ag) (hc:ag=false->cellT u.t=true/\n=1):∃ val,(part t cs o).run P w=.ok val w/\vrep w F ι u.t u.x val:=by
 obtain⟨h1,h2⟩:=tinf_run ht w
 cases ag with
 | true=>
  refine⟨.agg (cs.extract o (o+n)),?_,q1W ha ?_⟩
  . simp[part,h1,h2]
  . have:(cs.extract o (o+n)).toList=seg cs.toList o n:=by
     simp[seg,List.extract_eq_take_drop]
    rw[this];exact hr
 | false=>
  obtain⟨hc1,rfl⟩:=hc rfl
  have ho:o<cs.toList.length:=by omega
  have hs:seg cs.toList o 1=[cs.toList[o]]:=by
   unfold seg;rw[List.drop_eq_getElem_cons ho];simp
  rw[hs] at hr
  refine⟨cs.toList[o],?_,(vrep_cell hc1).2 hr⟩
  have:cs[o]?=some cs.toList[o]:=by simp
  simp[part,h1,this]
theorem partV_ok {s:TypeId} {f:Nat} {v u:V} {val:Value} (hv:vrep w F ι v.t v.x val) (h:partV P s f v=some u):
 ∃ r,(Instr.field s val f).run P w=.ok r w/\vrep w F ι u.t u.x r:=by
 unfold partV at h
 split at h<;>try (simp at h;done)
 rename_i fs hs
 split at h<;>try (simp at h;done)
 rename_i fd hf
 split at h<;>try (simp at h;done)
 rename_i ag n ht
 cases ha:isAggT v.t<;>rw[ha] at h<;>simp only[cond_false,cond_true] at h
 . simp at h
 rw[vrep_agg ha] at hv
 obtain⟨cs,rfl,hr⟩:=hv
 obtain⟨s1,s2,s3,s4⟩:=q0I _ _ _ _ _ _ hr h
 obtain⟨r,q1,q2⟩:=q3e ht s1 s2 s3 s4
 exact⟨r,by simp[Instr.field,run_underlying hs,hf,asAgg,q1],q2⟩
def idxOwn (b:Nat) (t:Ty) (l:Option (List (den t))) (i:Int):Res:=.cond (inS l i) ⟨.eref b 0,toN i⟩
def idxFr (t:Ty) (l:Option (List (den t))) (i:Int):Res:=.cond (inS l i) ⟨.fref t,eltS (dflt t) l i⟩
def idxRow (p:Nat) (t:Ty) (ls:List (List (den t))) (x:Option Nat) (i:Int):Res:=.cond (inH ls x i) ⟨.her p 0,(x.getD 0,toN i)⟩
abbrev inV (x:Int×Int) (i:Int):Prop:=0<=i/\i<x.2 - x.1
def idxVw (b:Nat) (x:Int×Int) (i:Int):Res:=.cond (inV x i) ⟨.eref b 0,toN (x.1+i)⟩
def q15 (hp:Nat->Option Blk) (n:Nat):V->V->Option Res
 | ⟨.own b,_⟩,⟨.int _,i⟩=>match hp b with
  | some (.arr t l)=>bif Nat.beq n (width t) then some (idxOwn b t l i) else none
  | _=>none
 | ⟨.sl t,l⟩,⟨.int _,i⟩=>bif Nat.beq n (width t) then some (idxFr t l i) else none
 | ⟨.hd p,x⟩,⟨.int _,i⟩=>match hp p with
  | some (.pool q t ls)=>bif Nat.beq n (width t) && Nat.beq p q then some (idxRow p t ls x i) else none
  | _=>none
 | ⟨.vw b,x⟩,⟨.int _,i⟩=>match hp b with
  | some (.arr t _)=>bif Nat.beq n (width t) then some (idxVw b x i) else none
  | _=>none
 | _,_=>none
theorem q4a {t e:TypeId} {ag:Bool} {n b o len cap:Nat} {k:IntKind} {i:Int} (ht:P.underlying t=some (.slice e)) (he:tinf P e=some (ag,n)) (h0:0<=i) (h1:i<len):
 (Instr.indexAt t (.slice (some ⟨b,o,none⟩) len cap) (.int k i)).run P w=.ok (.pointer (some ⟨b,o+i.toNat*n,none⟩)) w:=by
 simp[Instr.indexAt,asIntOf,run_underlying ht,(tinf_run he w).2,h0,h1,q0m]
theorem idxOwn_ok (hh:q0f w base F ι hp) {t e:TypeId} {ag:Bool} {b:Nat} {ty:Ty} {l:Option (List (den ty))} {k:IntKind} {i:Int} {val:Value}
 (ht:P.underlying t=some (.slice e)) (he:tinf P e=some (ag,width ty)) (hv:vrep w F ι (.own b) () val) (hb:hp b=some (.arr ty l)):
 (idxOwn b ty l i).ok w F ι P (Instr.indexAt t val (.int k i)):=by
 intro ⟨h0,h1⟩
 obtain⟨r,hr,q0,q⟩:=hh _ _ hb
 rw[vrep_cell rfl] at hv;simp only[rep] at hv
 obtain⟨r',hr',e'⟩:=hv
 rw[hr] at hr';cases hr'
 simp only[List.cons.injEq,and_true] at e';subst e'
 cases l with
 | none=>simp at h1;omega
 | some l=>
  obtain⟨q1,q2,q3,q4,q5,q6,_⟩:=q
  simp only[Option.getD_some] at h1
  refine⟨_,?_,(vrep_cell rfl).2 ⟨r,hr,q1,(by omega:i.toNat<r.len),rfl⟩⟩
  simp only[Ref.val,q1,Bool.false_eq_true,if_false,Nat.add_zero,q2]
  exact q4a ht he h0 (by omega)
theorem idxRow_ok (hh:q0f w base F ι hp) {t e:TypeId} {ag:Bool} {p:Nat} {ty:Ty} {ls:List (List (den ty))} {x:Option Nat} {k:IntKind} {i:Int} {val:Value}
 (ht:P.underlying t=some (.slice e)) (he:tinf P e=some (ag,width ty)) (hv:vrep w F ι (.hd p) x val) (hb:hp p=some (.pool p ty ls)):
 (idxRow p ty ls x i).ok w F ι P (Instr.indexAt t val (.int k i)):=by
 intro ⟨h0,h1⟩
 obtain⟨_,_,_,_,_,_,hrow⟩:=hh _ _ hb
 rw[vrep_cell rfl] at hv;simp only[rep] at hv
 cases x with
 | none=>simp at h1;omega
 | some n=>
  obtain⟨r',hr',hnil,e'⟩:=hv
  simp only[List.cons.injEq,and_true] at e';subst e'
  have hlt:n<ls.length:=by
   rcases Nat.lt_or_ge n ls.length with h2 | h2
   . exact h2
   . exfalso;simp[List.getD,List.getElem?_eq_none h2] at h1;omega
  obtain⟨s,hs,q1,q2,q3,q4,q5,q6,_⟩:=hrow n _ (List.getElem?_eq_getElem hlt)
  rw[hr'] at hs;cases hs
  have e9:rowS ls (some n)=ls[n]:=by simp[List.getD,List.getElem?_eq_getElem hlt]
  rw[e9] at h1
  refine⟨_,?_,(vrep_cell rfl).2 ⟨r',hr',q1,(by omega:i.toNat<r'.len),rfl⟩⟩
  simp only[Ref.val,q1,Bool.false_eq_true,if_false,Nat.add_zero,q2]
  exact q4a ht he h0 (by omega)
theorem idxFr_ok {t e:TypeId} {ag:Bool} {ty:Ty} {l:Option (List (den ty))} {k:IntKind} {i:Int} {val:Value}
 (ht:P.underlying t=some (.slice e)) (he:tinf P e=some (ag,width ty)) (hv:vrep w F ι (.sl ty) l val):
 (idxFr ty l i).ok w F ι P (Instr.indexAt t val (.int k i)):=by
 intro ⟨h0,h1⟩
 rw[vrep_cell rfl] at hv
 cases l with
 | none=>simp at h1;omega
 | some l=>
  simp only[rep] at hv
  simp only[Option.getD_some] at h1
  obtain⟨⟨blk,off,sp⟩,cap,e',hl,hr⟩:=hv
  replace hr:=hr (by rintro rfl;simp at h1;omega)
  obtain⟨cells,el,fz,hs,hf,hb,hr⟩:=hr
  dsimp only at hs hf hb hr
  subst hs
  simp only[List.cons.injEq,and_true] at e';subst e'
  refine⟨_,q4a ht he h0 h1,(vrep_cell rfl).2 ?_⟩
  have hj:i.toNat<l.length:=by omega
  exact⟨blk,_,cells,el,fz,rfl,hf,hb,hr _ _ (by simp[List.getD,List.getElem?_eq_getElem hj])⟩
theorem idxVw_ok (hh:q0f w base F ι hp) {t e:TypeId} {ag:Bool} {b:Nat} {ty:Ty} {l:Option (List (den ty))} {x:Int×Int} {k:IntKind} {i:Int} {val:Value}
 (ht:P.underlying t=some (.slice e)) (he:tinf P e=some (ag,width ty)) (hv:vrep w F ι (.vw b) x val) (hb:hp b=some (.arr ty l)):
 (idxVw b x i).ok w F ι P (Instr.indexAt t val (.int k i)):=by
 intro ⟨h0,h1⟩
 obtain⟨r,hr,q0,q⟩:=hh _ _ hb
 rw[vrep_cell rfl] at hv;simp only[rep] at hv
 obtain⟨r',hr',hn,g0,g1,g2,e'⟩:=hv
 rw[hr] at hr';cases hr'
 simp only[List.cons.injEq,and_true] at e';subst e'
 cases l with
 | none=>rw[show r.nil=true from q] at hn;cases hn
 | some l=>
  obtain⟨q1,q2,q3,q4,q5,q6,_⟩:=q
  have hne:¬ r.cap=x.1.toNat:=by omega
  have e2:(x.1+i).toNat=x.1.toNat+i.toNat:=by omega
  refine⟨_,?_,(vrep_cell rfl).2 ⟨r,hr,q1,(by omega:(x.1+i).toNat<r.len),rfl⟩⟩
  simp only[Ref.view,hne,if_false,Nat.add_zero,e2]
  have e3:r.off+(x.1.toNat+i.toNat)*r.wd=(r.off+x.1.toNat*r.wd)+i.toNat*width ty:=by rw[q2,Nat.add_mul];omega
  rw[e3]
  exact q4a ht he h0 (by omega)
theorem indexV_ok (hh:q0f w base F ι hp) {t e:TypeId} {ag:Bool} {n:Nat} {v i:V} {val vi:Value} {r:Res} (ht:P.underlying t=some (.slice e)) (he:tinf P e=some (ag,n))
 (hv:vrep w F ι v.t v.x val) (hi:vrep w F ι i.t i.x vi) (h:q15 hp n v i=some r):r.ok w F ι P (Instr.indexAt t val vi):=by
 unfold q15 at h
 split at h
 . split at h<;>try (simp at h;done)
   rename_i ty l hb
   obtain⟨hn,h⟩:=bif_some h
   subst h
   rw[Nat.beq_eq] at hn;subst hn
   rw[q03] at hi;subst hi
   exact idxOwn_ok hh ht he hv hb
 . obtain⟨hn,h⟩:=bif_some h
   subst h
   rw[Nat.beq_eq] at hn;subst hn
   rw[q03] at hi;subst hi
   exact idxFr_ok ht he hv
 . split at h<;>try (simp at h;done)
   rename_i q ty ls hb
   obtain⟨hn',h⟩:=bif_some h
   subst h
   simp only[Bool.and_eq_true,Nat.beq_eq] at hn'
   obtain⟨rfl,rfl⟩:=hn'
   rw[q03] at hi;subst hi
   exact idxRow_ok hh ht he hv hb
 . split at h<;>try (simp at h;done)
   rename_i ty l hb
   obtain⟨hn,h⟩:=bif_some h
   subst h
   rw[Nat.beq_eq] at hn;subst hn
   rw[q03] at hi;subst hi
   exact idxVw_ok hh ht he hv hb
 . simp at h
def ixArr (hp:Nat->Option Blk) (len n:Nat):V->V->Option Res
 | ⟨.ref b 0,_⟩,⟨.int _,i⟩=>match hp b with
  | some (.box (.arr k t) _)=>bif Nat.beq k len && Nat.beq n (width t) then some (.cond (0<=i/\i<(len:Int)) ⟨.bref b n len,toN i⟩) else none
  | _=>none
 | _,_=>none
theorem ixArr_ok (hh:q0f w base F ι hp) {t e:TypeId} {ag:Bool} {len n:Nat} {v i:V} {val vi:Value} {r:Res} (ht:P.underlying t=some (.array len e)) (he:tinf P e=some (ag,n))
 (hv:vrep w F ι v.t v.x val) (hi:vrep w F ι i.t i.x vi) (h:ixArr hp len n v i=some r):r.ok w F ι P (Instr.indexAt t val vi):=by
 unfold ixArr at h
 split at h<;>try (simp at h;done)
 rename_i b x k j
 split at h<;>try (simp at h;done)
 rename_i k0 ty l hb
 obtain⟨hc,h⟩:=bif_some h
 subst h
 simp only[Bool.and_eq_true,Nat.beq_eq] at hc
 obtain⟨rfl,rfl⟩:=hc
 rw[q03] at hi;subst hi
 change Int at j
 rintro⟨h0,h1⟩
 have h0:(0:Int)<=j:=h0
 have h1:j<(k0:Int):=h1
 obtain⟨r,hr,q1,q2,_⟩:=hh _ _ hb
 rw[vrep_cell rfl] at hv;simp only[rep] at hv
 obtain⟨r',hr',e⟩:=hv
 rw[hr] at hr';cases hr'
 simp only[List.cons.injEq,and_true] at e;subst e
 refine⟨.pointer (some ⟨r.blk,r.off+j.toNat*width ty,none⟩),?_,(vrep_cell rfl).2 ⟨r,hr,q1,(by omega:j.toNat<k0),rfl⟩⟩
 simp[Instr.indexAt,asIntOf,run_underlying ht,(tinf_run he w).2,h0,h1,q0m,Instr.sureAddr]
def q1d (d:Int):Option V->Option Int
 | none=>some d
 | some ⟨.int _,i⟩=>some i
 | _=>none
def slcStr (s:ByteArray) (l h:Int):Res:=.cond (inStr s l h) ⟨.str,subStr s l h⟩
def slcFr (t:Ty) (x:Option (List (den t))) (l h:Int):Res:=.cond (inR x l h) ⟨.sl t,slcS x l h⟩
def q4k (lo hi:Option V):V->Option Res
 | ⟨.str,s⟩=>match q1d 0 lo,q1d (szStr s) hi with
  | some l,some h=>some (slcStr s l h)
  | _,_=>none
 | ⟨.sl t,x⟩=>match q1d 0 lo,q1d (szSl (α:=den t) x) hi with
  | some l,some h=>some (slcFr t x l h)
  | _,_=>none
 | _=>none
theorem boundV_ok {d i:Int} {v:Option V} {val:Option Value} (hv:∀ u,v=some u->∃ x,val=some x/\vrep w F ι u.t u.x x) (hn:v=none->val=none) (h:q1d d v=some i):
 (val=none/\i=d)∨∃ k,val=some (.int k i):=by
 unfold q1d at h
 split at h
 . simp at h;exact .inl ⟨hn rfl,h.symm⟩
 . rename_i k j
   simp at h;subst h
   obtain⟨x,rfl,hx⟩:=hv _ rfl
   exact .inr ⟨k,congrArg some (q03.1 hx)⟩
 . simp at h
theorem q4c {k:IntKind} {i:Int} {y:Nat} {c:BoundsCode} (h0:0<=i) (h1:i<=y):(Instr.sliceBound (.int k i) y c).run P w=.ok i.toNat w:=by
 simp[Instr.sliceBound,asIntOf,h0,h1]
theorem q4d {s:Bool} {len cap:Nat} {lo hi:Option Value} {l h:Int} (hc:len<=cap) (hlo:(lo=none/\l=0)∨∃ k,lo=some (.int k l)) (hhi:(hi=none/\h=len)∨∃ k,hi=some (.int k h))
 (h0:0<=l) (h1:l<=h) (h2:h<=len):(Instr.sliceBounds s len cap lo hi none).run P w=.ok (l.toNat,h.toNat,cap) w:=by
 rcases hlo with ⟨rfl,rfl⟩ | ⟨k,rfl⟩<;>rcases hhi with ⟨rfl,rfl⟩ | ⟨k',rfl⟩ <;>
  simp only[Instr.sliceBounds,Sem.run_bind,Sem.run_pure,Result.andThen_ok,Option.isSome_none,Bool.false_eq_true,if_false]
 . rfl
 . rw[q4c (by omega) (by omega)];rfl
 . rw[q4c h0 (by omega)];rfl
 . rw[q4c (by omega) (by omega)]
   simp only[Result.andThen_ok]
   rw[q4c h0 (by omega)];rfl
theorem slcStr_ok {t:TypeId} {s:ByteArray} {l h:Int} {lo hi:Option Value} (ht:P.underlying t=some .string)
 (hlo:(lo=none/\l=0)∨∃ k,lo=some (.int k l)) (hhi:(hi=none/\h=szStr s)∨∃ k,hi=some (.int k h)):
 (slcStr s l h).ok w F ι P (Instr.sliceAt t (.string s) lo hi none):=by
 intro ⟨h0,h1,h2⟩
 refine⟨_,?_,q0s.2 rfl⟩
 simp only[Instr.sliceAt,Instr.slice,Sem.run_bind,run_underlying ht,Result.andThen_ok,Option.isSome_none,Bool.false_eq_true,if_false,
  q4d (P:=P) (w:=w) (s:=false) (Nat.le_refl s.size) hlo hhi h0 h1 h2,Sem.run_pure]
theorem slcW_ok {base:Mine} {hp:Nat->Option Blk} (hh:q0f w base F ι hp) {t e:TypeId} {ag:Bool} {ty:Ty} {x:Option (List (den ty))} {b:Nat} {l h:Int} {val:Value} {lo hi:Option Value} (ht:P.underlying t=some (.slice e)) (he:tinf P e=some (ag,width ty))
 (hb:hp b=some (.arr ty x)) (hv:vrep w F ι (.own b) () val) (hlo:(lo=none/\l=0)∨∃ k,lo=some (.int k l)) (hhi:(hi=none/\h=szSl x)∨∃ k,hi=some (.int k h)):
 (Res.cond (inW x l h) ⟨.vw b,(l,h)⟩).ok w F ι P (Instr.sliceAt t val lo hi none):=by
 intro ⟨hs,h0,h1,h2⟩
 obtain⟨r,hr,q0,q⟩:=hh _ _ hb
 rw[vrep_cell rfl] at hv;simp only[rep] at hv
 obtain⟨r',hr',e⟩:=hv
 rw[hr] at hr';cases hr'
 simp only[List.cons.injEq,and_true] at e;subst e
 cases x with
 | none=>simp at hs
 | some y=>
  obtain⟨q1,q2,q3,q4,q5,q6,cells,el,qe,q7,q8,q9⟩:=q
  simp only[Option.getD_some] at h2
  have hhi':(hi=none/\h=(r.len:Int))∨∃ k,hi=some (.int k h):=by rw[q3];exact hhi
  have hbd:=q4d (P:=P) (w:=w) (s:=true) q4 hlo hhi' h0 h1 (by rw[q3];exact h2)
  refine⟨r.view l h,?_,(vrep_cell rfl).2 ?_⟩
  . simp only[Ref.val,q1,Bool.false_eq_true,if_false,Instr.sliceAt,Instr.slice,Sem.run_bind,run_underlying ht,Result.andThen_ok,hbd,(tinf_run he w).2,Sem.run_pure,Ref.view,q2]
    split<;>simp[q0m]
  . simp only[rep]
    exact⟨r,hr,q1,h0,h1,by rw[q3];exact h2,rfl⟩
theorem slcFr_ok {t e:TypeId} {ag:Bool} {ty:Ty} {x:Option (List (den ty))} {l h:Int} {val:Value} {lo hi:Option Value} (ht:P.underlying t=some (.slice e)) (he:tinf P e=some (ag,width ty))
 (hv:vrep w F ι (.sl ty) x val) (hlo:(lo=none/\l=0)∨∃ k,lo=some (.int k l)) (hhi:(hi=none/\h=szSl x)∨∃ k,hi=some (.int k h)):
 (slcFr ty x l h).ok w F ι P (Instr.sliceAt t val lo hi none):=by
 intro ⟨h0,h1,h2⟩
 rw[vrep_cell rfl] at hv
 cases x with
 | none=>
  simp only[rep,List.cons.injEq,and_true] at hv
  subst hv
  simp only[Option.getD_none,List.length_nil] at h2
  refine⟨.slice none 0 0,?_,(vrep_cell rfl).2 rfl⟩
  have hb:=q4d (P:=P) (w:=w) (s:=true) (len:=0) (cap:=0) (Nat.le_refl 0) hlo hhi h0 h1 h2
  simp only[Instr.sliceAt,Instr.slice,Sem.run_bind,run_underlying ht,Result.andThen_ok,hb,(tinf_run he w).2,Sem.run_pure]
  have:l=0:=by omega
  subst this
  have:h=0:=by omega
  subst this
  rfl
 | some y=>
  simp only[rep] at hv
  obtain⟨a,cap,e',hl,hr⟩:=hv
  simp only[List.cons.injEq,and_true] at e';subst e'
  simp only[Option.getD_some] at h2
  have hb:=q4d (P:=P) (w:=w) (s:=true) hl hlo hhi h0 h1 h2
  refine⟨.slice (some (if cap=l.toNat then a else a.add (l.toNat*width ty))) (h.toNat - l.toNat) (cap - l.toNat),?_,(vrep_cell rfl).2 ?_⟩
  . simp only[Instr.sliceAt,Instr.slice,Sem.run_bind,run_underlying ht,Result.andThen_ok,hb,(tinf_run he w).2,Sem.run_pure]
    split<;>simp
  . simp only[Option.map_some,rep]
    have e3:((y.take h.toNat).drop l.toNat).length=h.toNat - l.toNat:=by simp;omega
    refine⟨_,_,by rw[e3],by rw[e3];omega,fun hne=>?_⟩
    replace hr:=hr (by rintro rfl;simp at hne)
    obtain⟨cells,el,fz,hs,hf,hb',hr⟩:=hr
    obtain⟨blk,off,sp⟩:=a
    dsimp only at hs hf hb' hr
    subst hs
    have hcl:¬ cap=l.toNat:=by
     have:((y.take h.toNat).drop l.toNat).length≠0:=fun e=>hne (List.eq_nil_of_length_eq_zero e)
     omega
    rw[if_neg hcl,q0m]
    refine⟨cells,el,fz,rfl,hf,hb',?_⟩
    intro i z hz
    have hi:i<h.toNat - l.toNat:=by
     rcases Nat.lt_or_ge i (h.toNat - l.toNat) with q | q
     . exact q
     . rw[List.getElem?_eq_none (by omega)] at hz;simp at hz
    dsimp only
    have:=hr (l.toNat+i) z (by rw[<-hz];simp[List.getElem?_take];omega)
    rw[Nat.add_mul,<-Nat.add_assoc] at this
    exact this
end
end Go.VM
