/- Typed pure data, a condition on code that says what a call gives, what the code of each function comes to, and what each function gives. -/
import Derived.Calls
import Derived.Below
import Derived.KernelRfl
import Derived.Laws.Cells
set_option linter.unusedVariables false
set_option linter.unusedSimpArgs false
set_option linter.unnecessarySimpa false
namespace Go.VM
open Go Go.RowKit
inductive Cst where
 | nilSl | nilFn | nilPtr | nilIf
 | fn (f:Nat)
 deriving DecidableEq
def Cst.val:Cst->Value
 | .nilSl=>.slice none 0 0
 | .nilFn=>.nilFunc
 | .nilPtr=>.pointer none
 | .nilIf=>.nilIface
 | .fn f=>.func (.func f) #[] #[]
inductive Ty where
 | int (k:IntKind)
 | bool
 | str
 | cst (c:Cst)
 | sl (t:Ty)
 | unit
 | pair (a b:Ty)
 | agg (c:Ty)
 | arr (n:Nat) (t:Ty)
 | tup (c:Ty)
 | ref (b o:Nat)
 | own (b:Nat)
 | eref (b o:Nat)
 | fref (t:Ty)
 | vw (b:Nat)
 | clo (f:Nat) (c:Ty)
 | hd (p:Nat)
 | her (p o:Nat)
 | nul
 | bref (b w n:Nat)
 deriving DecidableEq
@[reducible] def den:Ty->Type
 | .int _=>Int
 | .bool=>Bool
 | .str=>ByteArray
 | .cst _=>Unit
 | .sl t=>Option (List (den t))
 | .unit=>Unit
 | .pair a b=>den a×den b
 | .agg c=>den c
 | .arr _ t=>List (den t)
 | .tup c=>den c
 | .ref _ _=>Unit
 | .own _=>Unit
 | .eref _ _=>Nat
 | .fref t=>den t
 | .vw _=>Int×Int
 | .clo _ c=>den c
 | .hd _=>Option Nat
 | .her _ _=>Nat×Nat
 | .bref _ _ _=>Nat
 | .nul=>Unit
structure V where
 t:Ty
 x:den t
def width:Ty->Nat
 | .unit=>0
 | .pair a b=>width a+width b
 | .agg c=>width c
 | .arr n t=>n*width t
 | _=>1
def dflt:(t:Ty)->den t
 | .int _=>(0:Int)
 | .bool=>false
 | .str=>ByteArray.empty
 | .cst _=>()
 | .sl _=>none
 | .unit=>()
 | .pair a b=>(dflt a,dflt b)
 | .agg c=>dflt c
 | .arr n t=>List.replicate n (dflt t)
 | .tup c=>dflt c
 | .ref _ _=>()
 | .own _=>()
 | .eref _ _=>(0:Nat)
 | .fref t=>dflt t
 | .vw _=>((0:Int),(0:Int))
 | .clo _ c=>dflt c
 | .hd _=>(none:Option Nat)
 | .her _ _=>((0:Nat),(0:Nat))
 | .bref _ _ _=>(0:Nat)
 | .nul=>()
structure Ref where
 blk:Nat
 off:Nat
 wd:Nat
 nil:Bool
 len:Nat
 cap:Nat
def Ref.val (r:Ref):Value:=if r.nil then .slice none 0 0 else .slice (some ⟨r.blk,r.off,none⟩) r.len r.cap
def Ref.view (r:Ref) (l h:Int):Value:=.slice (some ⟨r.blk,if r.cap=l.toNat then r.off else r.off+l.toNat*r.wd,none⟩) (h.toNat - l.toNat) (r.cap - l.toNat)
def seg (cs:List Value) (o n:Nat):List Value:=(cs.drop o).take n
abbrev hbase:Nat:=1099511627776
def isH (b:Nat):Bool:=Nat.ble hbase b
def hnm (p n:Nat):Nat:=hbase*(n+1)+p
def rep (w:World) (F:Nat->Prop) (ι:Nat->Option Ref):(t:Ty)->den t->List Value->Prop
 | .int k,n,cs=>cs=[.int k n]
 | .bool,b,cs=>cs=[.bool b]
 | .str,s,cs=>cs=[.string s]
 | .cst c,_,cs=>cs=[c.val]
 | .sl t,x,cs=>match x with
  | none=>cs=[.slice none 0 0]
  | some l=>∃ a cap,cs=[.slice (some a) l.length cap]/\l.length<=cap/\(l≠[]->∃ cells el fz,a.spot=none/\F a.block /\
   w.heap[a.block]?=some (.cells cells el fz) /\
   ∀ i y,l[i]?=some y->rep w F ι t y (seg cells.toList (a.off+i*width t) (width t)))
 | .unit,_,cs=>cs=[]
 | .pair a b,x,cs=>∃ c1 c2,cs=c1 ++ c2/\rep w F ι a x.1 c1/\rep w F ι b x.2 c2
 | .agg c,x,cs=>rep w F ι c x cs
 | .arr n t,(l:List (den t)),cs=>l.length=n/\cs.length=n*width t/\∀ i y,l[i]?=some y->rep w F ι t y (seg cs (i*width t) (width t))
 | .tup _,_,_=>False
 | .ref b o,_,cs=>∃ r,ι b=some r/\cs=[.pointer (some ⟨r.blk,r.off+o,none⟩)]
 | .own b,_,cs=>∃ r,ι b=some r/\cs=[r.val]
 | .eref b o,(i:Nat),cs=>∃ r,ι b=some r/\r.nil=false/\i<r.len/\cs=[.pointer (some ⟨r.blk,r.off+i*r.wd+o,none⟩)]
 | .fref t,x,cs=>∃ blk off cells el fz,cs=[.pointer (some ⟨blk,off,none⟩)]/\F blk/\w.heap[blk]?=some (.cells cells el fz) /\
  rep w F ι t x (seg cells.toList off (width t))
 | .vw b,(x:Int×Int),cs=>∃ r,ι b=some r/\r.nil=false/\0<=x.1/\x.1<=x.2/\x.2<=(r.len:Int)/\cs=[r.view x.1 x.2]
 | .clo f c,x,cs=>∃ caps:Array Value,cs=[.func (.func f) #[] caps]/\rep w F ι c x caps.toList
 | .hd p,(x:Option Nat),cs=>match x with
  | none=>cs=[.slice none 0 0]
  | some n=>∃ r,ι (hnm p n)=some r/\r.nil=false/\cs=[r.val]
 | .her p o,(x:Nat×Nat),cs=>∃ r,ι (hnm p x.1)=some r/\r.nil=false/\x.2<r.len/\cs=[.pointer (some ⟨r.blk,r.off+x.2*r.wd+o,none⟩)]
 | .nul,_,cs=>∃ a:Addr,cs=[.slice (some a) 0 0]
 | .bref b wd n,(i:Nat),cs=>∃ r,ι b=some r/\r.nil=false/\i<n/\cs=[.pointer (some ⟨r.blk,r.off+i*wd,none⟩)]
theorem rep_length {w:World} {F:Nat->Prop} {ι:Nat->Option Ref}:∀ (t:Ty) (x:den t) (cs:List Value),rep w F ι t x cs->cs.length=width t
 | .int _,_,_,h | .bool,_,_,h | .str,_,_,h | .cst _,_,_,h=>by simp only[rep] at h;subst h;rfl
 | .sl _,none,_,h=>by simp only[rep] at h;subst h;rfl
 | .sl _,some _,_,h=>by simp only[rep] at h;obtain⟨_,_,rfl,_⟩:=h;rfl
 | .unit,_,_,h=>by simp only[rep] at h;subst h;rfl
 | .pair a b,x,_,h=>by
  simp only[rep] at h
  obtain⟨c1,c2,rfl,h1,h2⟩:=h
  simp[width,rep_length a _ _ h1,rep_length b _ _ h2]
 | .agg c,x,cs,h=>by simp only[rep] at h;simp only[width];exact rep_length c x cs h
 | .arr _ _,_,_,h=>by simp only[rep] at h;exact h.2.1
 | .tup _,_,_,h=>by simp only[rep] at h
 | .ref _ _,_,_,h=>by simp only[rep] at h;obtain⟨_,_,rfl⟩:=h;rfl
 | .own _,_,_,h=>by simp only[rep] at h;obtain⟨_,_,rfl⟩:=h;rfl
 | .eref _ _,_,_,h=>by simp only[rep] at h;obtain⟨_,_,_,_,rfl⟩:=h;rfl
 | .fref _,_,_,h=>by simp only[rep] at h;obtain⟨_,_,_,_,_,rfl,_⟩:=h;rfl
 | .vw _,_,_,h=>by simp only[rep] at h;obtain⟨_,_,_,_,_,_,rfl⟩:=h;rfl
 | .clo _ _,_,_,h=>by simp only[rep] at h;obtain⟨_,rfl,_⟩:=h;rfl
 | .hd _,none,_,h=>by simp only[rep] at h;subst h;rfl
 | .hd _,some _,_,h=>by simp only[rep] at h;obtain⟨_,_,_,rfl⟩:=h;rfl
 | .her _ _,_,_,h=>by simp only[rep] at h;obtain⟨_,_,_,_,rfl⟩:=h;rfl
 | .bref _ _ _,_,_,h=>by simp only[rep] at h;obtain⟨_,_,_,_,rfl⟩:=h;rfl
 | .nul,_,_,h=>by simp only[rep] at h;obtain⟨_,rfl⟩:=h;rfl
theorem rep_mono {w w':World} {F F':Nat->Prop} {ι ι':Nat->Option Ref} (hF:∀ b,F b->F' b) (hι:∀ b r,ι b=some r->ι' b=some r)
 (hw:∀ b,F b->w'.heap[b]?=w.heap[b]?):∀ (t:Ty) (x:den t) (cs:List Value),rep w F ι t x cs->rep w' F' ι' t x cs
 | .int _,_,_,h | .bool,_,_,h | .str,_,_,h | .cst _,_,_,h=>by simpa only[rep] using h
 | .sl _,none,_,h=>by simpa only[rep] using h
 | .sl t,some l,_,h=>by
  simp only[rep] at h ⊢
  obtain⟨a,cap,rfl,hl,hr⟩:=h
  refine⟨a,cap,rfl,hl,fun hn=>?_⟩
  obtain⟨cells,el,fz,hs,hf,hb,hr⟩:=hr hn
  exact⟨cells,el,fz,hs,hF _ hf,(hw _ hf).trans hb,fun i y hy=>rep_mono hF hι hw t y _ (hr i y hy)⟩
 | .unit,_,_,h=>by simpa only[rep] using h
 | .pair a b,x,_,h=>by
  simp only[rep] at h ⊢
  obtain⟨c1,c2,rfl,h1,h2⟩:=h
  exact⟨c1,c2,rfl,rep_mono hF hι hw a _ _ h1,rep_mono hF hι hw b _ _ h2⟩
 | .agg c,x,cs,h=>by simp only[rep] at h ⊢;exact rep_mono hF hι hw c x cs h
 | .arr _ t,_,_,h=>by simp only[rep] at h ⊢;exact⟨h.1,h.2.1,fun i y hy=>rep_mono hF hι hw t y _ (h.2.2 i y hy)⟩
 | .tup _,_,_,h=>by simp only[rep] at h
 | .ref _ _,_,_,h=>by simp only[rep] at h ⊢;obtain⟨r,hr,rfl⟩:=h;exact⟨r,hι _ _ hr,rfl⟩
 | .own _,_,_,h=>by simp only[rep] at h ⊢;obtain⟨r,hr,rfl⟩:=h;exact⟨r,hι _ _ hr,rfl⟩
 | .eref _ _,_,_,h=>by simp only[rep] at h ⊢;obtain⟨r,hr,h1,h2,rfl⟩:=h;exact⟨r,hι _ _ hr,h1,h2,rfl⟩
 | .fref t,_,_,h=>by
  simp only[rep] at h ⊢
  obtain⟨blk,off,cells,el,fz,rfl,hf,hb,hr⟩:=h
  exact⟨blk,off,cells,el,fz,rfl,hF _ hf,(hw _ hf).trans hb,rep_mono hF hι hw t _ _ hr⟩
 | .vw _,_,_,h=>by simp only[rep] at h ⊢;obtain⟨r,hr,h1,h2⟩:=h;exact⟨r,hι _ _ hr,h1,h2⟩
 | .clo _ c,_,_,h=>by simp only[rep] at h ⊢;obtain⟨caps,e,h⟩:=h;exact⟨caps,e,rep_mono hF hι hw c _ _ h⟩
 | .hd _,none,_,h=>by simpa only[rep] using h
 | .hd _,some _,_,h=>by simp only[rep] at h ⊢;obtain⟨r,hr,h⟩:=h;exact⟨r,hι _ _ hr,h⟩
 | .her _ _,_,_,h=>by simp only[rep] at h ⊢;obtain⟨r,hr,h⟩:=h;exact⟨r,hι _ _ hr,h⟩
 | .bref _ _ _,_,_,h=>by simp only[rep] at h ⊢;obtain⟨r,hr,h⟩:=h;exact⟨r,hι _ _ hr,h⟩
 | .nul,_,_,h=>by simpa only[rep] using h
def isAggT:Ty->Bool
 | .agg _=>true
 | .arr _ _=>true
 | _=>false
def cellT:Ty->Bool
 | .unit | .pair _ _ | .agg _ | .arr _ _ | .tup _=>false
 | _=>true
def vrep1 (w:World) (F:Nat->Prop) (ι:Nat->Option Ref) (t:Ty) (x:den t) (v:Value):Prop:=
 match isAggT t with
 | true=>∃ cs,v=.agg cs/\rep w F ι t x cs.toList
 | false=>cellT t=true/\rep w F ι t x [v]
def trep (w:World) (F:Nat->Prop) (ι:Nat->Option Ref):(t:Ty)->den t->List Value->Prop
 | .unit,_,vs=>vs=[]
 | .pair a b,x,vs=>∃ v vs',vs=v :: vs'/\vrep1 w F ι a x.1 v/\trep w F ι b x.2 vs'
 | _,_,_=>False
def vrep (w:World) (F:Nat->Prop) (ι:Nat->Option Ref):(t:Ty)->den t->Value->Prop
 | .tup c,x,v=>∃ vs,v=.tuple vs/\trep w F ι c x vs.toList
 | t,x,v=>vrep1 w F ι t x v
section mono
variable {w w':World} {F F':Nat->Prop} {ι ι':Nat->Option Ref} (hF:∀ b,F b->F' b) (hι:∀ b r,ι b=some r->ι' b=some r)
 (hw:∀ b,F b->w'.heap[b]?=w.heap[b]?)
include hF hι hw
theorem q7Y {t:Ty} {x:den t} {v:Value} (h:vrep1 w F ι t x v):vrep1 w' F' ι' t x v:=by
 unfold vrep1 at h ⊢
 cases ht:isAggT t<;>rw[ht] at h
 . exact⟨h.1,rep_mono hF hι hw _ _ _ h.2⟩
 . obtain⟨cs,e,h⟩:=h;exact⟨cs,e,rep_mono hF hι hw _ _ _ h⟩
theorem q7V:∀ (t:Ty) (x:den t) (vs:List Value),trep w F ι t x vs->trep w' F' ι' t x vs
 | .unit,_,_,h=>by simpa only[trep] using h
 | .pair a b,x,_,h=>by
  simp only[trep] at h ⊢
  obtain⟨v,vs',rfl,h1,h2⟩:=h
  exact⟨v,vs',rfl,q7Y hF hι hw h1,q7V b _ _ h2⟩
 | .int _,_,_,h | .bool,_,_,h | .str,_,_,h | .cst _,_,_,h | .sl _,_,_,h | .agg _,_,_,h | .arr _ _,_,_,h | .tup _,_,_,h
 | .ref _ _,_,_,h | .own _,_,_,h | .eref _ _,_,_,h | .fref _,_,_,h | .vw _,_,_,h | .clo _ _,_,_,h | .hd _,_,_,h | .her _ _,_,_,h | .bref _ _ _,_,_,h | .nul,_,_,h=>by simp only[trep] at h
theorem vrep_mono {t:Ty} {x:den t} {v:Value} (h:vrep w F ι t x v):vrep w' F' ι' t x v:=by
 cases t<;>simp only[vrep] at h ⊢<;>first
  | exact q7Y hF hι hw h
  | (obtain⟨vs,e,h⟩:=h;exact⟨vs,e,q7V hF hι hw _ _ _ h⟩)
end mono
theorem q6I {w:World} {F:Nat->Prop} {ι:Nat->Option Ref}:∀ {t:Ty} {x:den t} {v:Value},cellT t=true->rep w F ι t x [v]->v.cells = #[v]
 | .int _,_,_,_,h | .bool,_,_,_,h | .str,_,_,_,h=>by simp only[rep,List.cons.injEq,and_true] at h;subst h;rfl
 | .cst c,_,_,_,h=>by simp only[rep,List.cons.injEq,and_true] at h;subst h;cases c<;>rfl
 | .sl _,none,_,_,h=>by simp only[rep,List.cons.injEq,and_true] at h;subst h;rfl
 | .sl _,some _,_,_,h=>by simp only[rep,List.cons.injEq,and_true] at h;obtain⟨_,_,rfl,_⟩:=h;rfl
 | .ref _ _,_,_,_,h=>by simp only[rep,List.cons.injEq,and_true] at h;obtain⟨_,_,rfl⟩:=h;rfl
 | .own _,_,_,_,h=>by simp only[rep,List.cons.injEq,and_true] at h;obtain⟨r,_,rfl⟩:=h;unfold Ref.val;split<;>rfl
 | .eref _ _,_,_,_,h=>by simp only[rep,List.cons.injEq,and_true] at h;obtain⟨_,_,_,_,rfl⟩:=h;rfl
 | .fref _,_,_,_,h=>by simp only[rep,List.cons.injEq,and_true] at h;obtain⟨_,_,_,_,_,rfl,_⟩:=h;rfl
 | .vw _,_,_,_,h=>by simp only[rep,List.cons.injEq,and_true] at h;obtain⟨_,_,_,_,_,_,rfl⟩:=h;rfl
 | .clo _ _,_,_,_,h=>by simp only[rep,List.cons.injEq,and_true] at h;obtain⟨_,rfl,_⟩:=h;rfl
 | .hd _,none,_,_,h=>by simp only[rep,List.cons.injEq,and_true] at h;subst h;rfl
 | .hd _,some _,_,_,h=>by simp only[rep,List.cons.injEq,and_true] at h;obtain⟨r,_,_,rfl⟩:=h;unfold Ref.val;split<;>rfl
 | .her _ _,_,_,_,h=>by simp only[rep,List.cons.injEq,and_true] at h;obtain⟨_,_,_,_,rfl⟩:=h;rfl
 | .bref _ _ _,_,_,_,h=>by simp only[rep,List.cons.injEq,and_true] at h;obtain⟨_,_,_,_,rfl⟩:=h;rfl
 | .nul,_,_,_,h=>by simp only[rep,List.cons.injEq,and_true] at h;obtain⟨_,rfl⟩:=h;rfl
 | .unit,_,_,h,_ | .pair _ _,_,_,h,_ | .agg _,_,_,h,_ | .arr _ _,_,_,h,_ | .tup _,_,_,h,_=>by simp[cellT] at h
end Go.VM
namespace Go.VM
open Go Go.RowKit
inductive Blk where
 | box (t:Ty) (x:den t)
 | arr (t:Ty) (l:Option (List (den t)))
 | pool (p:Nat) (t:Ty) (ls:List (List (den t)))
structure St where
 env:Nat->Option V
 heap:Nat->Option Blk
 used:Nat->Bool
def rowB (k:Option Blk) (n:Nat):Option Blk:=
 match k with
 | some (.pool _ t ls)=>match ls[n]? with
  | some l=>some (.arr t (some l))
  | none=>none
 | _=>none
def prow (hp:Nat->Option Blk) (b:Nat):Option Blk:=bif isH b then rowB (hp (b % hbase)) (b / hbase - 1) else none
def upd {α:Type} (f:Nat->α) (n:Nat) (v:α):Nat->α:=fun m=>bif Nat.beq m n then v else f m
def constV:Value->Option V
 | .int k n=>some ⟨.int k,n⟩
 | .bool b=>some ⟨.bool,b⟩
 | .string s=>some ⟨.str,s⟩
 | .slice none 0 0=>some ⟨.cst .nilSl,()⟩
 | .nilFunc=>some ⟨.cst .nilFn,()⟩
 | .pointer none=>some ⟨.cst .nilPtr,()⟩
 | .nilIface=>some ⟨.cst .nilIf,()⟩
 | _=>none
def St.val (st:St):Operand->Option V
 | .tmp t=>st.env t
 | .const v=>constV v
 | .func f=>some ⟨.cst (.fn f),()⟩
 | .global _=>none
abbrev notB (b:Bool):Bool:=!b
abbrev andB (a b:Bool):Bool:=a && b
abbrev eqB (a b:Bool):Bool:=Bool.xor (!a) b
abbrev lst {α:Type} (l:Option (List α)):List α:=l.getD []
abbrev szStr (s:ByteArray):Int:=s.size
abbrev szSl {α:Type} (x:Option (List α)):Int:=(x.getD []).length
abbrev inS {α:Type} (l:Option (List α)) (i:Int):Prop:=0<=i/\i<(l.getD []).length
abbrev eltS {α:Type} (d:α) (l:Option (List α)) (i:Int):α:=(l.getD []).getD i.toNat d
abbrev eltN {α:Type} (d:α) (l:Option (List α)) (i:Nat):α:=(l.getD []).getD i d
abbrev unH {α:Type} (ls:List (List α)) (x:Option Nat):Option (List α):=x.map fun n=>ls.getD n []
abbrev rowS {α:Type} (ls:List (List α)) (x:Option Nat):List α:=ls.getD (x.getD ls.length) []
abbrev szH {α:Type} (ls:List (List α)) (x:Option Nat):Int:=(rowS ls x).length
abbrev inH {α:Type} (ls:List (List α)) (x:Option Nat) (i:Int):Prop:=0<=i/\i<(rowS ls x).length
abbrev inR {α:Type} (x:Option (List α)) (l h:Int):Prop:=0<=l/\l<=h/\h<=((x.getD []).length:Int)
abbrev inW {α:Type} (x:Option (List α)) (l h:Int):Prop:=x.isSome=true/\inR x l h
abbrev slcS {α:Type} (x:Option (List α)) (l h:Int):Option (List α):=x.map (fun y=>(y.take h.toNat).drop l.toNat)
abbrev inStr (s:ByteArray) (l h:Int):Prop:=0<=l/\l<=h/\h<=(s.size:Int)
abbrev subStr (s:ByteArray) (l h:Int):ByteArray:=s.extract l.toNat h.toNat
abbrev repS {α:Type} (n:Int) (x:α):List α:=List.replicate n.toNat x
abbrev appS {α:Type} (a b:List α):List α:=a ++ b
abbrev toN (i:Int):Nat:=i.toNat
abbrev mkC (bytes:Nat) (l c:Int):Prop:=0<=l/\l<=c/\c*bytes<=281474976710656
abbrev catC (a b:ByteArray):Prop:=a.size+b.size<=9223372036854775807
abbrev catS (a b:ByteArray):ByteArray:=a ++ b
def sameK (a b:IntKind):Bool:=if a=b then true else false
theorem q3l {a b:IntKind} (h:sameK a b=true):a=b:=by unfold sameK at h;split at h<;>simp_all
inductive Res where
 | val (v:V)
 | cond (c:Prop) (v:V)
 | new (k:Blk)
 | newc (c:Prop) (k:Blk)
def sub (ag:Bool):(t:Ty)->den t->(o n:Nat)->Option V
 | .pair a b,x,o,n=>bif Nat.ble (o+n) (width a) then sub ag a x.1 o n else bif Nat.ble (width a) o then sub ag b x.2 (o - width a) n else none
 | .agg c,x,o,n=>bif ag && Nat.beq o 0 && Nat.beq n (width c) then some ⟨.agg c,x⟩ else sub ag c x o n
 | .arr m t,l,o,n=>bif ag && Nat.beq o 0 && Nat.beq n (m*width t) then some ⟨.arr m t,l⟩ else none
 | .unit,_,_,_=>none
 | .tup _,_,_,_=>none
 | t,x,o,n=>bif !ag && Nat.beq o 0 && Nat.beq n 1 then some ⟨t,x⟩ else none
theorem q2u (cs:List Value) (o n p m:Nat) (h:p+m<=n):seg (seg cs o n) p m=seg cs (o+p) m:=by
 simp only[seg,List.drop_take,List.take_take,List.drop_drop]
 congr 1
 omega
theorem q18 (cs:List Value) (n:Nat) (h:cs.length=n):seg cs 0 n=cs:=by
 simp[seg,<-h]
theorem q1u (c1 c2:List Value) (o n:Nat) (h:o+n<=c1.length):seg (c1 ++ c2) o n=seg c1 o n:=by
 unfold seg
 rw[List.drop_append_of_le_length (by omega),List.take_append_of_le_length (by simp;omega)]
theorem q2t (c1 c2:List Value) (o n:Nat) (h:c1.length<=o):seg (c1 ++ c2) o n=seg c2 (o - c1.length) n:=by
 unfold seg
 rw[List.drop_append,List.drop_of_length_le h];simp
theorem sub_cell {w:World} {F:Nat->Prop} {ι:Nat->Option Ref} {ag:Bool} {t:Ty} {x:den t} {cs:List Value} {o n:Nat} {u:V}
 (hc:cellT t=true) (hr:rep w F ι t x cs) (h:(bif !ag && Nat.beq o 0 && Nat.beq n 1 then some (⟨t,x⟩:V) else none)=some u):
 rep w F ι u.t u.x (seg cs o n)/\o+n<=cs.length/\isAggT u.t=ag/\(ag=false->cellT u.t=true/\n=1):=by
 cases hb:(!ag && Nat.beq o 0 && Nat.beq n 1)<;>rw[hb] at h
 . simp at h
 . simp only[cond_true,Option.some.injEq] at h
   subst h
   simp only[Bool.and_eq_true,Bool.not_eq_true',Nat.beq_eq] at hb
   obtain⟨⟨h1,rfl⟩,rfl⟩:=hb
   subst h1
   have hl:=rep_length t x cs hr
   have hw:width t=1:=by cases t<;>simp_all [cellT,width]
   refine⟨by rw[q18 _ _ (by omega)];exact hr,by omega,?_,fun _=>⟨hc,rfl⟩⟩
   cases t<;>simp_all [cellT,isAggT]
theorem q0I {w:World} {F:Nat->Prop} {ι:Nat->Option Ref} {ag:Bool}:∀ (t:Ty) (x:den t) (cs:List Value) (o n:Nat) (u:V),
 rep w F ι t x cs->sub ag t x o n=some u->
 rep w F ι u.t u.x (seg cs o n)/\o+n<=cs.length/\isAggT u.t=ag/\(ag=false->cellT u.t=true/\n=1)
 | .pair a b,x,cs,o,n,u,hr,h=>by
  simp only[rep] at hr
  obtain⟨c1,c2,rfl,h1,h2⟩:=hr
  have hl1:=rep_length _ _ _ h1
  simp only[sub] at h
  cases hb:Nat.ble (o+n) (width a)<;>rw[hb] at h
  . simp only[cond_false] at h
    cases hb2:Nat.ble (width a) o<;>rw[hb2] at h
    . simp at h
    . simp only[cond_true] at h
      rw[Nat.ble_eq] at hb2
      obtain⟨q1,q2,q3,q4⟩:=q0I b x.2 c2 _ n u h2 h
      refine⟨?_,by simp;omega,q3,q4⟩
      rw[q2t _ _ _ _ (by omega),hl1];exact q1
  . simp only[cond_true] at h
    rw[Nat.ble_eq] at hb
    obtain⟨q1,q2,q3,q4⟩:=q0I a x.1 c1 o n u h1 h
    refine⟨?_,by simp;omega,q3,q4⟩
    rw[q1u _ _ _ _ (by omega)];exact q1
 | .agg c,x,cs,o,n,u,hr,h=>by
  simp only[sub] at h
  cases hb:(ag && Nat.beq o 0 && Nat.beq n (width c))<;>rw[hb] at h
  . simp only[rep] at hr
    exact q0I c x cs o n u hr h
  . simp only[cond_true,Option.some.injEq] at h
    subst h
    simp only[Bool.and_eq_true,Nat.beq_eq] at hb
    obtain⟨⟨rfl,rfl⟩,rfl⟩:=hb
    have hl:=rep_length _ _ _ hr
    simp only[width] at hl
    exact⟨by rw[q18 _ _ hl];exact hr,by omega,rfl,fun h=>by simp at h⟩
 | .arr m t,x,cs,o,n,u,hr,h=>by
  simp only[sub] at h
  cases hb:(ag && Nat.beq o 0 && Nat.beq n (m*width t))<;>rw[hb] at h
  . simp at h
  . simp only[cond_true,Option.some.injEq] at h
    subst h
    simp only[Bool.and_eq_true,Nat.beq_eq] at hb
    obtain⟨⟨rfl,rfl⟩,rfl⟩:=hb
    have hl:=rep_length _ _ _ hr
    simp only[width] at hl
    exact⟨by rw[q18 _ _ hl];exact hr,by omega,rfl,fun h=>by simp at h⟩
 | .unit,_,_,_,_,_,_,h | .tup _,_,_,_,_,_,_,h=>by simp[sub] at h
 | .int _,_,_,_,_,_,hr,h | .bool,_,_,_,_,_,hr,h | .str,_,_,_,_,_,hr,h | .cst _,_,_,_,_,_,hr,h | .sl _,_,_,_,_,_,hr,h
 | .ref _ _,_,_,_,_,_,hr,h | .own _,_,_,_,_,_,hr,h | .eref _ _,_,_,_,_,_,hr,h | .fref _,_,_,_,_,_,hr,h | .vw _,_,_,_,_,_,hr,h | .clo _ _,_,_,_,_,_,hr,h | .hd _,_,_,_,_,_,hr,h | .her _ _,_,_,_,_,_,hr,h | .bref _ _ _,_,_,_,_,_,hr,h | .nul,_,_,_,_,_,hr,h=>
  sub_cell rfl hr (by simpa only[sub] using h)
def put (v:V):(t:Ty)->den t->(o:Nat)->Option V
 | .pair a b,x,o=>bif Nat.ble (o+width v.t) (width a)
  then match put v a x.1 o with | some u=>some ⟨.pair u.t b,(u.x,x.2)⟩ | none=>none
  else bif Nat.ble (width a) o then match put v b x.2 (o - width a) with | some u=>some ⟨.pair a u.t,(x.1,u.x)⟩ | none=>none else none
 | .agg c,x,o=>bif isAggT v.t && Nat.beq o 0 && Nat.beq (width v.t) (width c) then some v
  else match put v c x o with | some u=>some ⟨.agg u.t,u.x⟩ | none=>none
 | .arr m t,_,o=>bif isAggT v.t && Nat.beq o 0 && Nat.beq (width v.t) (m*width t) then some v else none
 | .unit,_,_=>none
 | .tup _,_,_=>none
 | _,_,o=>bif cellT v.t && Nat.beq o 0 then some v else none
def splice (cs:List Value) (o:Nat) (vs:List Value):List Value:=cs.take o ++ vs ++ cs.drop (o+vs.length)
theorem q2n {w:World} {F:Nat->Prop} {ι:Nat->Option Ref} {v:V} {vs:List Value} (hv:rep w F ι v.t v.x vs):∀ (t:Ty) (x:den t) (cs:List Value) (o:Nat) (u:V),
 rep w F ι t x cs->put v t x o=some u->rep w F ι u.t u.x (splice cs o vs)/\o+vs.length<=cs.length/\isAggT u.t=isAggT t/\cellT u.t=cellT t
 | .pair a b,x,cs,o,u,hr,h=>by
  have hlv:=rep_length _ _ _ hv
  simp only[rep] at hr
  obtain⟨c1,c2,rfl,h1,h2⟩:=hr
  have hl1:=rep_length _ _ _ h1
  have hl2:=rep_length _ _ _ h2
  simp only[put] at h
  cases hb:Nat.ble (o+width v.t) (width a)<;>rw[hb] at h
  . simp only[cond_false] at h
    cases hb2:Nat.ble (width a) o<;>rw[hb2] at h
    . simp at h
    . simp only[cond_true] at h
      rw[Nat.ble_eq] at hb2
      split at h
      case h_2=>simp at h
      case h_1 u' hu=>
       simp only[Option.some.injEq] at h
       subst h
       obtain⟨q1,q2,_,_⟩:=q2n hv b x.2 c2 _ u' h2 hu
       refine⟨?_,by simp;omega,rfl,rfl⟩
       simp only[rep]
       refine⟨c1,splice c2 (o - width a) vs,?_,h1,q1⟩
       simp only[splice,List.take_append,List.drop_append,hl1]
       rw[List.take_of_length_le (by omega:c1.length<=o),List.drop_of_length_le (by omega:c1.length<=o+vs.length)]
       simp only[List.nil_append,List.append_assoc]
       rw[show o+vs.length - width a=o - width a+vs.length by omega]
  . simp only[cond_true] at h
    rw[Nat.ble_eq] at hb
    split at h
    case h_2=>simp at h
    case h_1 u' hu=>
     simp only[Option.some.injEq] at h
     subst h
     obtain⟨q1,q2,_,_⟩:=q2n hv a x.1 c1 o u' h1 hu
     refine⟨?_,by simp;omega,rfl,rfl⟩
     simp only[rep]
     refine⟨splice c1 o vs,c2,?_,q1,h2⟩
     simp only[splice]
     rw[List.take_append_of_le_length (by omega),List.drop_append_of_le_length (by omega)]
     simp only[List.append_assoc]
 | .agg c,x,cs,o,u,hr,h=>by
  have hlv:=rep_length _ _ _ hv
  have hlc:=rep_length _ _ _ hr
  simp only[put] at h
  cases hb:(isAggT v.t && Nat.beq o 0 && Nat.beq (width v.t) (width c))<;>rw[hb] at h
  . simp only[cond_false] at h
    split at h
    case h_2=>simp at h
    case h_1 u' hu=>
     simp only[Option.some.injEq] at h
     subst h
     simp only[rep] at hr ⊢
     obtain⟨q1,q2,_,_⟩:=q2n hv c x cs o u' hr hu
     exact⟨q1,q2,rfl,rfl⟩
  . simp only[cond_true,Option.some.injEq] at h
    subst h
    simp only[Bool.and_eq_true,Nat.beq_eq] at hb
    obtain⟨⟨h1,rfl⟩,h2⟩:=hb
    simp only[width] at hlc
    refine⟨?_,by omega,h1,?_⟩
    . have:splice cs 0 vs=vs:=by simp only[splice,List.take_zero,List.nil_append];rw[List.drop_of_length_le (by omega)];simp
      rw[this];exact hv
    . revert h1;cases v.t<;>simp[isAggT,cellT]
 | .arr m t,x,cs,o,u,hr,h=>by
  have hlv:=rep_length _ _ _ hv
  have hlc:=rep_length _ _ _ hr
  simp only[put] at h
  cases hb:(isAggT v.t && Nat.beq o 0 && Nat.beq (width v.t) (m*width t))<;>rw[hb] at h
  . simp at h
  . simp only[cond_true,Option.some.injEq] at h
    subst h
    simp only[Bool.and_eq_true,Nat.beq_eq] at hb
    obtain⟨⟨h1,rfl⟩,h2⟩:=hb
    simp only[width] at hlc
    refine⟨?_,by omega,h1,?_⟩
    . have:splice cs 0 vs=vs:=by simp only[splice,List.take_zero,List.nil_append];rw[List.drop_of_length_le (by omega)];simp
      rw[this];exact hv
    . revert h1;cases v.t<;>simp[isAggT,cellT]
 | .unit,_,_,_,_,_,h | .tup _,_,_,_,_,_,h=>by simp[put] at h
 | .int _,_,cs,o,u,hr,h | .bool,_,cs,o,u,hr,h | .str,_,cs,o,u,hr,h | .cst _,_,cs,o,u,hr,h | .sl _,_,cs,o,u,hr,h
 | .ref _ _,_,cs,o,u,hr,h | .own _,_,cs,o,u,hr,h | .eref _ _,_,cs,o,u,hr,h | .fref _,_,cs,o,u,hr,h | .vw _,_,cs,o,u,hr,h | .clo _ _,_,cs,o,u,hr,h | .hd _,_,cs,o,u,hr,h | .her _ _,_,cs,o,u,hr,h | .bref _ _ _,_,cs,o,u,hr,h | .nul,_,cs,o,u,hr,h=>by
  have hlv:=rep_length _ _ _ hv
  have hlc:=rep_length _ _ _ hr
  simp only[width] at hlc
  simp only[put] at h
  cases hb:(cellT v.t && Nat.beq o 0)<;>rw[hb] at h
  . simp at h
  . simp only[cond_true,Option.some.injEq] at h
    subst h
    simp only[Bool.and_eq_true,Nat.beq_eq] at hb
    obtain⟨h1,rfl⟩:=hb
    have hw:width v.t=1:=by revert h1;cases v.t<;>simp[cellT,width]
    refine⟨?_,by omega,?_,?_⟩
    . have:splice cs 0 vs=vs:=by simp only[splice,List.take_zero,List.nil_append];rw[List.drop_of_length_le (by omega)];simp
      rw[this];exact hv
    all_goals (revert h1;cases v.t<;>simp[isAggT,cellT])
end Go.VM
