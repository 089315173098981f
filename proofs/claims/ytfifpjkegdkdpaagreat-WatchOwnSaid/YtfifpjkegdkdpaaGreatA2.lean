/- Typed pure data, a condition on code that says what a call gives, what the code of each function comes to, and what each function gives. -/
import Derived.Laws.BytesString
import Derived.ChangeKeysEq
import Derived.Test.YtfifpjkegdkdpaaGreatA1
set_option linter.unusedVariables false
set_option linter.unusedSimpArgs false
set_option linter.unnecessarySimpa false
namespace Go.VM
open Go Go.RowKit
section
variable {P:Program} {w:World} {base:Mine} {F:Nat->Prop} {ι:Nat->Option Ref} {hp:Nat->Option Blk}
def lenV (P:Program) (hp:Nat->Option Blk) (t:TypeId) (v:V):Option V:=
 match P.underlying t with
 | some .string=>match v with
  | ⟨.str,s⟩=>some ⟨.int .i64,szStr s⟩
  | _=>none
 | some (.slice _)=>match v with
  | ⟨.sl _,x⟩=>some ⟨.int .i64,szSl x⟩
  | ⟨.own b,_⟩=>match hp b with
   | some (.arr _ x)=>some ⟨.int .i64,szSl x⟩
   | _=>none
  | ⟨.cst .nilSl,_⟩=>some ⟨.int .i64,(0:Int)⟩
  | ⟨.hd p,x⟩=>match hp p with
   | some (.pool q _ ls)=>bif Nat.beq p q then some ⟨.int .i64,szH ls x⟩ else none
   | _=>none
  | ⟨.vw _,x⟩=>some ⟨.int .i64,(x:Int×Int).2 - (x:Int×Int).1⟩
  | _=>none
 | _=>none
theorem lenV_ok (hh:q0f w base F ι hp) {t ty:TypeId} {v u:V} {val:Value} (hv:vrep w F ι v.t v.x val) (h:lenV P hp t v=some u):
 ∃ r,(Builtin.len_ #[t] ty #[val]).run P w=.ok r w/\vrep w F ι u.t u.x r:=by
 unfold lenV at h
 split at h<;>try (simp at h;done)
 . rename_i ht
   split at h<;>try (simp at h;done)
   simp only[Option.some.injEq] at h;subst h
   rw[q0s] at hv;subst hv
   exact⟨_,by simp[Builtin.len_,run_underlying ht,goInt]<;>rfl,q03.2 rfl⟩
 . rename_i e ht
   split at h<;>try (simp at h;done)
   . rename_i t' x
     simp only[Option.some.injEq] at h;subst h
     rw[vrep_cell rfl] at hv
     cases x with
     | none=>
      simp only[rep,List.cons.injEq,and_true] at hv;subst hv
      exact⟨_,by simp[Builtin.len_,run_underlying ht,goInt];rfl,q03.2 rfl⟩
     | some l=>
      simp only[rep] at hv
      obtain⟨a,cap,e',_⟩:=hv
      simp only[List.cons.injEq,and_true] at e';subst e'
      exact⟨_,by simp[Builtin.len_,run_underlying ht,goInt];rfl,q03.2 rfl⟩
   . rename_i b _
     split at h<;>try (simp at h;done)
     rename_i t' x hb
     simp only[Option.some.injEq] at h;subst h
     obtain⟨r,hr,q0,q⟩:=hh _ _ hb
     rw[vrep_cell rfl] at hv;simp only[rep] at hv
     obtain⟨r',hr',e'⟩:=hv
     rw[hr] at hr';cases hr'
     simp only[List.cons.injEq,and_true] at e';subst e'
     cases x with
     | none=>
      simp only at q
      exact⟨_,by simp[Builtin.len_,run_underlying ht,goInt,Ref.val,q];rfl,q03.2 rfl⟩
     | some l=>
      obtain⟨q1,q2,q3,_⟩:=q
      exact⟨_,by simp[Builtin.len_,run_underlying ht,goInt,Ref.val,q1,q3];rfl,q03.2 rfl⟩
   . simp only[Option.some.injEq] at h;subst h
     rw[q0r] at hv;subst hv
     exact⟨_,by simp[Builtin.len_,run_underlying ht,goInt,Cst.val]<;>rfl,q03.2 rfl⟩
   . rename_i p x
     split at h<;>try (simp at h;done)
     rename_i q t' ls hb
     obtain⟨hpq,hu⟩:=bif_some h
     rw[Nat.beq_eq] at hpq;subst hpq
     subst hu
     obtain⟨_,_,_,_,_,hfree,hrow⟩:=hh _ _ hb
     rw[vrep_cell rfl] at hv;simp only[rep] at hv
     cases x with
     | none=>
      simp only[List.cons.injEq,and_true] at hv;subst hv
      exact⟨_,by simp[Builtin.len_,run_underlying ht,goInt];rfl,q03.2 (by simp[szH,List.getD])⟩
     | some n=>
      obtain⟨r',hr',hnil,e'⟩:=hv
      simp only[List.cons.injEq,and_true] at e';subst e'
      have hlt:n<ls.length:=by
       rcases Nat.lt_or_ge n ls.length with h1 | h1
       . exact h1
       . rw[hfree _ h1] at hr';cases hr'
      obtain⟨s,hs,q1,q2,q3,_⟩:=hrow n _ (List.getElem?_eq_getElem hlt)
      rw[hr'] at hs;cases hs
      refine⟨_,by simp[Builtin.len_,run_underlying ht,goInt,Ref.val,q1,q3];rfl,q03.2 ?_⟩
      simp[szH,List.getD,List.getElem?_eq_getElem hlt]
   . rename_i b x
     simp only[Option.some.injEq] at h;subst h
     rw[vrep_cell rfl] at hv;simp only[rep] at hv
     obtain⟨r,hr,hn,g0,g1,g2,e'⟩:=hv
     simp only[List.cons.injEq,and_true] at e';subst e'
     obtain⟨lo,hi⟩:Int×Int:=x
     replace g0:0<=lo:=g0
     replace g1:lo<=hi:=g1
     have e2:((hi.toNat - lo.toNat:Nat):Int)=hi - lo:=by omega
     exact⟨_,by simp[Builtin.len_,run_underlying ht,goInt,Ref.view];rfl,q03.2 (by rw[e2])⟩
def compV:(t:Ty)->den t->Nat->Option V
 | .pair a _,x,0=>some ⟨a,x.1⟩
 | .pair _ b,x,n+1=>compV b x.2 n
 | _,_,_=>none
def extractV (v:V) (n:Nat):Option V:=
 match v with
 | ⟨.tup c,x⟩=>compV c x n
 | _=>none
theorem qb7 {t:Ty} {x:den t} {v:Value} (h:vrep1 w F ι t x v):vrep w F ι t x v:=by
 cases t<;>simp only[vrep]<;>first | exact h | (simp[vrep1,isAggT,cellT] at h)
theorem q6M:∀ (t:Ty) (x:den t) (n:Nat) (vs:List Value) (u:V),trep w F ι t x vs->compV t x n=some u->∃ r,vs[n]?=some r/\vrep w F ι u.t u.x r
 | .pair a b,x,0,vs,u,h,hc=>by
  simp only[trep] at h
  obtain⟨v,vs',rfl,h1,h2⟩:=h
  simp only[compV,Option.some.injEq] at hc;subst hc
  exact⟨v,rfl,qb7 h1⟩
 | .pair a b,x,n+1,vs,u,h,hc=>by
  simp only[trep] at h
  obtain⟨v,vs',rfl,h1,h2⟩:=h
  obtain⟨r,q1,q2⟩:=q6M b x.2 n vs' u h2 hc
  exact⟨r,by simpa using q1,q2⟩
 | .unit,_,_,_,_,_,hc | .int _,_,_,_,_,_,hc | .bool,_,_,_,_,_,hc | .str,_,_,_,_,_,hc | .cst _,_,_,_,_,_,hc | .sl _,_,_,_,_,_,hc | .agg _,_,_,_,_,_,hc
 | .arr _ _,_,_,_,_,_,hc | .tup _,_,_,_,_,_,hc | .ref _ _,_,_,_,_,_,hc | .own _,_,_,_,_,_,hc | .eref _ _,_,_,_,_,_,hc | .fref _,_,_,_,_,_,hc=>by simp[compV] at hc
theorem qao {v u:V} {n:Nat} {val:Value} (hv:vrep w F ι v.t v.x val) (h:extractV v n=some u):∃ r,(Instr.extract val n).run P w=.ok r w/\vrep w F ι u.t u.x r:=by
 unfold extractV at h
 split at h
 . simp only[vrep] at hv
   obtain⟨vs,rfl,hv⟩:=hv
   obtain⟨r,q1,q2⟩:=q6M _ _ _ _ _ hv h
   rw[Array.getElem?_toList] at q1
   exact⟨r,by simp[Instr.extract,q1],q2⟩
 . simp at h
def onesI (k:IntKind):Int:=
 match k.signed with
 | true=>-1
 | false=>k.max
def unV (op:UnOp) (v:V):Option V:=
 match op,v with
 | .neg,⟨.int k,n⟩=>some ⟨.int k,k.wrap (0 - n)⟩
 | .not,⟨.bool,b⟩=>some ⟨.bool,notB b⟩
 | .xor,⟨.int k,n⟩=>some ⟨.int k,bitI .xor k (onesI k) n⟩
 | _,_=>none
theorem unV_ok {op:UnOp} {v u:V} {val:Value} (hv:vrep w F ι v.t v.x val) (h:unV op v=some u):∃ r,(Op.unary op val).run P w=.ok r w/\vrep w F ι u.t u.x r:=by
 unfold unV at h
 split at h
 . simp only[Option.some.injEq] at h;subst h
   rw[q03] at hv;subst hv
   exact⟨_,by simp[Op.unary,Op.intArith]<;>rfl,q03.2 rfl⟩
 . simp only[Option.some.injEq] at h;subst h
   rw[q0l] at hv;subst hv
   exact⟨_,by simp[Op.unary]<;>rfl,q0l.2 rfl⟩
 . simp only[Option.some.injEq] at h;subst h
   rw[q03] at hv;subst hv
   rename_i k n
   refine⟨.int k (bitI .xor k (onesI k) n),?_,q03.2 rfl⟩
   cases k<;>simp[Op.unary,Op.intBits,bitI,onesI,IntKind.signed]
 . simp at h
def strOf (y:Option (List Int)):ByteArray:=⟨((y.getD []).map fun n=>UInt8.ofNat n.toNat).toArray⟩
def isBytes (P:Program) (s:TypeId):Bool:=
 match P.underlying s with
 | some (.slice e)=>match P.underlying e with
  | some (.int .u8)=>true
  | _=>false
 | _=>false
def convV (P:Program) (s d:TypeId) (v:V):Option V:=
 match P.underlying s with
 | some _=>match P.underlying d with
  | some (.int k')=>match v with
   | ⟨.int _,n⟩=>some ⟨.int k',k'.wrap n⟩
   | _=>none
  | some .string=>match v with
   | ⟨.str,x⟩=>some ⟨.str,x⟩
   | ⟨.sl (.int .u8),y⟩=>bif isBytes P s then some ⟨.str,strOf y⟩ else none
   | _=>none
  | _=>none
 | none=>none
theorem qb4 (l:List Int):∀ (acc:ByteArray),l.foldl (fun r n=>r.push (UInt8.ofNat n.toNat)) acc=⟨(acc.data.toList ++ l.map fun n=>UInt8.ofNat n.toNat).toArray⟩:=by
 induction l with
 | nil=>intro acc;simp
 | cons n l ih=>intro acc;rw[List.foldl_cons,ih];simp[ByteArray.push]
theorem bytes_ok {y:Option (List Int)} {val:Value} {s d e:TypeId} (hs:P.underlying s=some (.slice e)) (he:P.underlying e=some (.int .u8)) (hd:P.underlying d=some .string)
 (hv:rep w F ι (.sl (.int .u8)) y [val]):(convert s d val).run P w=.ok (.string (strOf y)) w:=by
 cases y with
 | none=>
  simp only[rep,List.cons.injEq,and_true] at hv;subst hv
  rw[run_convert_bytes_string w s d e none 0 0 hs he hd]
  rfl
 | some l=>
  simp only[rep] at hv
  obtain⟨a,cap,e',hl,hr⟩:=hv
  simp only[List.cons.injEq,and_true] at e';subst e'
  rw[run_convert_bytes_string w s d e _ _ _ hs he hd]
  have hload:(loadCells a l.length).run P w=.ok (l.map (Value.int .u8)).toArray w:=by
   by_cases hne:l=[]
   . subst hne;rfl
   obtain⟨cells,el,fz,hsp,hf,hb,hr⟩:=hr hne
   have:=run_loadCells_list (P:=P) w a (l.map (Value.int .u8)) (by
    intro j v hj
    simp only[List.getElem?_map,Option.map_eq_some_iff] at hj
    obtain⟨n,hn,rfl⟩:=hj
    have h1:=hr j n hn
    simp only[width,Nat.mul_one] at h1
    obtain⟨ab,ao,asp⟩:=a
    dsimp only at hsp hb h1
    subst hsp
    rw[q0m,q1F hb]
    have h2:=q0y cells.toList (ao+j) 1 0 (by omega)
    rw[h1] at h2
    simpa using h2.symm)
   simpa using this
  rw[run_bytesToString w a l.length cap l hload,qb4]
  simp[strOf]
theorem convV_ok {s d:TypeId} {v u:V} {val:Value} (hv:vrep w F ι v.t v.x val) (h:convV P s d v=some u):∃ r,(convert s d val).run P w=.ok r w/\vrep w F ι u.t u.x r:=by
 unfold convV at h
 split at h<;>try (simp at h;done)
 rename_i ds hs
 split at h<;>try (simp at h;done)
 . rename_i k' hd
   split at h<;>try (simp at h;done)
   simp only[Option.some.injEq] at h;subst h
   rw[q03] at hv;subst hv
   exact⟨_,by simp[convert,run_underlying hs,run_underlying hd,Conv.intToInt]<;>rfl,q03.2 rfl⟩
 . rename_i hd
   split at h<;>try (simp at h;done)
   . simp only[Option.some.injEq] at h;subst h
     rw[q0s] at hv;subst hv
     exact⟨_,by simp[convert,run_underlying hs,run_underlying hd]<;>rfl,q0s.2 rfl⟩
   . obtain⟨hb,rfl⟩:=bif_some h
     unfold isBytes at hb
     split at hb<;>try (simp at hb;done)
     rename_i e he
     split at hb<;>try (simp at hb;done)
     rename_i he8
     exact⟨_,bytes_ok he he8 hd ((vrep_cell rfl).1 hv),q0s.2 rfl⟩
def byteAt (s:ByteArray) (i:Int):Int:=(s.data.toList.getD i.toNat 0).toNat
def idxStr (s:ByteArray) (i:Int):Res:=.cond (0<=i/\i<szStr s) ⟨.int .u8,byteAt s i⟩
def arrV (P:Program) (m:Nat) (e:TypeId) (v i:V):Option Res:=
 match v,i with
 | ⟨.arr n ty,l⟩,⟨.int _,i⟩=>match tinf P e with
  | some (ag,k)=>bif Nat.beq m n && Nat.beq k (width ty) && eqB ag (isAggT ty) && (ag || (cellT ty && Nat.beq k 1)) then
   some (.cond (0<=i/\i<(n:Int)) ⟨ty,eltS (dflt ty) (some l) i⟩) else none
  | none=>none
 | _,_=>none
def charV (P:Program) (t:TypeId) (v i:V):Option Res:=
 match P.underlying t with
 | some .string=>match v,i with
  | ⟨.str,s⟩,⟨.int _,i⟩=>some (idxStr s i)
  | _,_=>none
 | some (.array m e)=>arrV P m e v i
 | _=>none
theorem run_part {t:TypeId} {ag:Bool} {n o:Nat} {cs:Array Value} {u:V} (ht:tinf P t=some (ag,n)) (hr:rep w F ι u.t u.x (seg cs.toList o n)) (hl:(seg cs.toList o n).length=n)
 (ha:isAggT u.t=ag) (hc:ag=false->cellT u.t=true/\n=1):∃ val,(part t cs o).run P w=.ok val w/\vrep w F ι u.t u.x val:=by
 obtain⟨h1,h2⟩:=tinf_run ht w
 cases ag with
 | true=>
  refine⟨.agg (cs.extract o (o+n)),by simp only[part,Sem.run_bind,h1,Result.andThen_ok,if_true,h2,Sem.run_pure],q1W ha ?_⟩
  have e:(cs.extract o (o+n)).toList=seg cs.toList o n:=by simp[seg,List.extract]
  rw[e];exact hr
 | false=>
  obtain⟨hc1,rfl⟩:=hc rfl
  have ho:o<cs.toList.length:=by simp only[seg,List.length_take,List.length_drop] at hl;omega
  have hs:seg cs.toList o 1=[cs.toList[o]]:=by
   unfold seg;rw[List.drop_eq_getElem_cons ho];simp
  rw[hs] at hr
  have e:cs[o]?=some cs.toList[o]:=by simp
  refine⟨cs.toList[o],?_,(vrep_cell hc1).2 hr⟩
  simp only[part,Sem.run_bind,h1,Result.andThen_ok,Bool.false_eq_true,if_false,e,Sem.run_pure]
theorem idxArr_ok {t e:TypeId} {m:Nat} {ag:Bool} {ty:Ty} {l:List (den ty)} {i:Int} {k:IntKind} {cs:Array Value} (ht:P.underlying t=some (.array m e)) (hti:tinf P e=some (ag,width ty)) (hag:isAggT ty=ag)
 (hcell:ag=false->cellT ty=true/\width ty=1) (q1:l.length=m) (q2:cs.toList.length=m*width ty) (q3:∀ i y,l[i]?=some y->rep w F ι ty y (seg cs.toList (i*width ty) (width ty))):
 Res.ok w F ι P (Instr.index t (.agg cs) (.int k i)) (.cond (0<=i/\i<(m:Int)) ⟨ty,eltS (dflt ty) (some l) i⟩):=by
 rintro⟨h0,h1⟩
 have hlt:i.toNat<l.length:=by omega
 have hle:i.toNat*width ty+width ty<=m*width ty:=by rw[<-Nat.succ_mul];exact Nat.mul_le_mul_right _ (by omega)
 have hy:=q3 i.toNat _ (List.getElem?_eq_getElem hlt)
 have ey:eltS (dflt ty) (some l) i=l[i.toNat]:=by simp[eltS,List.getD,hlt]
 obtain⟨z,z1,z2⟩:=run_part (P:=P) (w:=w) (F:=F) (ι:=ι) (cs:=cs) (o:=i.toNat*width ty) (u:=⟨ty,l[i.toNat]⟩) hti hy (by simp only[seg,List.length_take,List.length_drop];omega) hag hcell
 refine⟨z,?_,by rw[ey];exact z2⟩
 simp only[Instr.index,asIntOf,Sem.run_bind,Sem.run_pure,Result.andThen_ok,run_underlying ht,if_pos (And.intro h0 h1),(tinf_run hti w).2]
 exact z1
theorem arrV_ok {t e:TypeId} {m:Nat} {v i:V} {val vi:Value} {r:Res} (ht:P.underlying t=some (.array m e)) (hv:vrep w F ι v.t v.x val) (hi:vrep w F ι i.t i.x vi) (h:arrV P m e v i=some r):r.ok w F ι P (Instr.index t val vi):=by
 unfold arrV at h
 split at h<;>try (simp at h;done)
 rename_i n ty l k i
 split at h<;>try (simp at h;done)
 rename_i ag sz hti
 cases hc:(Nat.beq m n && Nat.beq sz (width ty) && eqB ag (isAggT ty) && (ag || (cellT ty && Nat.beq sz 1)))<;>rw[hc] at h<;>simp only[cond_true,cond_false,reduceCtorEq,Option.some.injEq] at h
 subst h
 simp only[Bool.and_eq_true,Nat.beq_eq] at hc
 obtain⟨⟨⟨rfl,rfl⟩,hag⟩,hcell⟩:=hc
 have hag:isAggT ty=ag:=by revert hag;cases ag<;>cases isAggT ty<;>simp[eqB]
 rw[q03] at hi;subst hi
 obtain⟨cs,rfl,hr⟩:=(vrep_agg rfl).1 hv
 simp only[rep] at hr
 obtain⟨q1,q2,q3⟩:=hr
 exact idxArr_ok ht hti hag (by intro e;rw[e] at hcell;simpa using hcell) q1 q2 q3
theorem idxStr_ok {t:TypeId} {s:ByteArray} {k:IntKind} {i:Int} (ht:P.underlying t=some .string):(idxStr s i).ok w F ι P (Instr.index t (.string s) (.int k i)):=by
 intro ⟨h0,h1⟩
 refine⟨_,?_,q03.2 rfl⟩
 simp only[szStr] at h1
 have hi:i.toNat<s.size:=by omega
 have e1:s[i.toNat]?=some s[i.toNat]:=by simp[hi]
 have e2:(s[i.toNat]).toNat=byteAt s i:=by
  have:i.toNat<s.data.toList.length:=by simpa using hi
  simp[byteAt,List.getD,List.getElem?_eq_getElem this];rfl
 simp only[Instr.index,asIntOf,Sem.run_bind,Sem.run_pure,Result.andThen_ok,run_underlying ht,if_pos h0,e1,e2]
theorem charV_ok {t:TypeId} {v i:V} {val vi:Value} {r:Res} (hv:vrep w F ι v.t v.x val) (hi:vrep w F ι i.t i.x vi) (h:charV P t v i=some r):r.ok w F ι P (Instr.index t val vi):=by
 unfold charV at h
 split at h<;>try (simp at h;done)
 . rename_i ht
   split at h<;>try (simp at h;done)
   simp only[Option.some.injEq] at h;subst h
   rw[q0s] at hv;subst hv
   rw[q03] at hi;subst hi
   exact idxStr_ok ht
 . rename_i ht
   exact arrV_ok ht hv hi h
def nilV (hp:Nat->Option Blk):V->Option Bool
 | ⟨.sl _,x⟩=>some (Option.isNone x)
 | ⟨.own b,_⟩=>match hp b with
  | some (.arr _ x)=>some x.isNone
  | _=>none
 | ⟨.cst .nilSl,_⟩=>some true
 | ⟨.hd _,x⟩=>some (Option.isNone x)
 | _=>none
theorem nilV_ok (hh:q0f w base F ι hp) {v:V} {b:Bool} {val:Value} (hv:vrep w F ι v.t v.x val) (h:nilV hp v=some b):∃ a l c,val=.slice a l c/\a.isNone=b:=by
 unfold nilV at h
 split at h
 . rename_i t x
   simp only[Option.some.injEq] at h;subst h
   rw[vrep_cell rfl] at hv
   cases x with
   | none=>simp only[rep,List.cons.injEq,and_true] at hv;subst hv;exact⟨_,_,_,rfl,rfl⟩
   | some l=>
    simp only[rep] at hv
    obtain⟨a,cap,e',_⟩:=hv
    simp only[List.cons.injEq,and_true] at e';subst e'
    exact⟨_,_,_,rfl,rfl⟩
 . split at h<;>try (simp at h;done)
   rename_i t' x hb
   simp only[Option.some.injEq] at h;subst h
   obtain⟨r,hr,q0,q⟩:=hh _ _ hb
   rw[vrep_cell rfl] at hv;simp only[rep] at hv
   obtain⟨r',hr',e'⟩:=hv
   rw[hr] at hr';cases hr'
   simp only[List.cons.injEq,and_true] at e';subst e'
   cases x with
   | none=>simp only at q;exact⟨none,0,0,by simp[Ref.val,q],rfl⟩
   | some l=>exact⟨_,_,_,by simp[Ref.val,q.1];exact⟨rfl,rfl,rfl⟩,rfl⟩
 . simp only[Option.some.injEq] at h;subst h
   rw[q0r] at hv;subst hv
   exact⟨none,0,0,rfl,rfl⟩
 . rename_i p x
   simp only[Option.some.injEq] at h;subst h
   rw[vrep_cell rfl] at hv;simp only[rep] at hv
   cases x with
   | none=>simp only[List.cons.injEq,and_true] at hv;subst hv;exact⟨_,_,_,rfl,rfl⟩
   | some n=>
    obtain⟨r',hr',hnil,e'⟩:=hv
    simp only[List.cons.injEq,and_true] at e';subst e'
    exact⟨_,_,_,by simp[Ref.val,hnil];exact⟨rfl,rfl,rfl⟩,rfl⟩
 . simp at h
def eqStr (a b:ByteArray):Bool:=a.toList == b.toList
def eqIs (a b:List Int):Bool:=a == b
def eqAr (P:Program) (m:Nat) (e:TypeId) (v1 v2:V):Option Bool:=
 match P.underlying e with
 | some (.int _)=>match v1,v2 with
  | ⟨.arr n (.int k),l⟩,⟨.arr n' (.int k'),l'⟩=>match tinf P e with
   | some (ag,c)=>bif sameK k k' && (Nat.beq n m && (Nat.beq n' m && (Nat.beq c 1 && !ag))) then some (eqIs l l') else none
   | none=>none
  | _,_=>none
 | _=>none
def eqV (P:Program):Nat->TypeId->V->V->Option Bool
 | 0,_,_,_=>none
 | n+1,t,v1,v2=>match P.underlying t with
  | some (.int _)=>match v1,v2 with
   | ⟨.int k,a⟩,⟨.int k',b⟩=>bif sameK k k' then some (decide ((a:Int)=b)) else none
   | _,_=>none
  | some .bool=>match v1,v2 with
   | ⟨.bool,a⟩,⟨.bool,b⟩=>some (eqB a b)
   | _,_=>none
  | some .string=>match v1,v2 with
   | ⟨.str,a⟩,⟨.str,b⟩=>some (eqStr a b)
   | _,_=>none
  | some (.struct fs)=>bif isAggT v1.t && isAggT v2.t && !P.stoodInHeld t then eqL (eqV P n) fs.toList v1 v2 else none
  | some (.array m e)=>bif Nat.blt 0 n then eqAr P m e v1 v2 else none
  | _=>none
where
 eqL (f:TypeId->V->V->Option Bool):List Field->V->V->Option Bool
  | [],_,_=>some true
  | fd :: fs,v1,v2=>match tinf P fd.type with
   | some (ag,k)=>match sub ag v1.t v1.x fd.offset k,sub ag v2.t v2.x fd.offset k with
    | some u1,some u2=>match f fd.type u1 u2 with
     | some b=>bif fd.name != "_" then match eqL f fs v1 v2 with
      | some c=>some (andB b c)
      | none=>none else none
     | none=>none
    | _,_=>none
   | none=>none
theorem eqV_ok:∀ (n d:Nat) (t:TypeId) (v1 v2:V) (x1 x2:Value) (b:Bool),n<=d->vrep w F ι v1.t v1.x x1->vrep w F ι v2.t v2.x x2->eqV P n t v1 v2=some b->
 (Op.equalIn d t x1 x2).run P w=.ok b w:=by
 intro n
 induction n with
 | zero=>intro d t v1 v2 x1 x2 b _ _ _ h;simp[eqV] at h
 | succ n ih=>
  intro d t v1 v2 x1 x2 b hd h1 h2 h
  obtain⟨d,rfl⟩:∃ m,d=m+1:=⟨d - 1,by omega⟩
  unfold eqV at h
  split at h<;>try (simp at h;done)
  . rename_i ht
    split at h<;>try (simp at h;done)
    obtain⟨hk,rfl⟩:=bif_some h
    have hk:=q3l hk;subst hk
    rw[q03] at h1 h2;subst h1;subst h2
    rw[run_equalIn_int w d t _ _ _ _ ht]
    congr 1
  . rename_i ht
    split at h<;>try (simp at h;done)
    simp only[Option.some.injEq] at h;subst h
    rw[q0l] at h1 h2;subst h1;subst h2
    rw[run_equalIn_bool' w d t _ _ ht]
    congr 1
    rename_i a b;revert a b;intro (a:Bool) (b:Bool);cases a<;>cases b<;>rfl
  . rename_i ht
    split at h<;>try (simp at h;done)
    simp only[Option.some.injEq] at h;subst h
    rw[q0s] at h1 h2;subst h1;subst h2
    rw[run_equalIn_string w d t _ _ ht];rfl
  . rename_i fs ht
    cases hc:(isAggT v1.t && isAggT v2.t && !P.stoodInHeld t)<;>rw[hc] at h<;>simp only[cond_true,cond_false] at h
    . simp at h
    simp only[Bool.and_eq_true,Bool.not_eq_true'] at hc
    obtain⟨⟨a1,a2⟩,hs⟩:=hc
    rw[vrep_agg a1] at h1;rw[vrep_agg a2] at h2
    obtain⟨c1,rfl,r1⟩:=h1
    obtain⟨c2,rfl,r2⟩:=h2
    have hfs:P.fieldsOf t=fs:=by simp[Program.fieldsOf,ht]
    rw[run_equalIn_struct w d t _ _ (by rw[hfs];exact ht) hs,hfs]
    have key:∀ (l:List Field) (b:Bool),eqV.eqL P (eqV P n) l v1 v2=some b->(Op.eqFields d c1 c2 l).run P w=.ok b w:=by
     intro l
     induction l with
     | nil=>intro b h;simp only[eqV.eqL,Option.some.injEq] at h;subst h;simp[Op.eqFields]
     | cons fd l ihl=>
      intro b h
      simp only[eqV.eqL] at h
      split at h<;>try (simp at h;done)
      rename_i ag k ht
      split at h<;>try (simp at h;done)
      rename_i u1 u2 hu1 hu2
      split at h<;>try (simp at h;done)
      rename_i e he
      cases hn:(fd.name != "_")<;>rw[hn] at h<;>simp only[cond_true,cond_false] at h
      . simp at h
      split at h<;>try (simp at h;done)
      rename_i c hc
      simp only[Option.some.injEq] at h;subst h
      obtain⟨s1,s2,s3,s4⟩:=q0I _ _ _ _ _ _ r1 hu1
      obtain⟨t1,t2,t3,t4⟩:=q0I _ _ _ _ _ _ r2 hu2
      obtain⟨y1,p1,p2⟩:=q3e (P:=P) ht s1 s2 s3 s4
      obtain⟨y2,p3,p4⟩:=q3e (P:=P) ht t1 t2 t3 t4
      have:=ih d fd.type u1 u2 y1 y2 e (by omega) p2 p4 he
      have hn':fd.name ≠ "_":=by simpa using hn
      simp only[Op.eqFields,if_pos hn',Sem.run_bind,p1,p3,this,Result.andThen_ok]
      cases e
      . simp
      . simp[ihl c hc]
    exact key _ _ h
  . rename_i m e ht
    have hb:=q1A h
    clear h
    obtain⟨hn0,h⟩:=hb
    replace hn0:0<n:=by simpa using hn0
    obtain⟨d,rfl⟩:∃ m,d=m+1:=⟨d - 1,by omega⟩
    unfold eqAr at h
    split at h<;>try (simp at h;done)
    rename_i _ he
    split at h<;>try (simp at h;done)
    rename_i n k l n' k' l'
    split at h<;>try (simp at h;done)
    rename_i ag c hti
    obtain⟨hc,rfl⟩:=bif_some h
    simp only[Bool.and_eq_true,Nat.beq_eq,Bool.not_eq_true'] at hc
    obtain⟨hk,hn1,hn2,hc1,hag⟩:=hc
    have hk:=q3l hk
    subst hk hn1 hn2 hc1 hag
    rw[vrep_agg rfl] at h1 h2
    obtain⟨c1,rfl,r1,r2,r3⟩:=h1
    obtain⟨c2,rfl,q1,q2,q3⟩:=h2
    obtain⟨i,hi,hsz⟩:∃ i,P.info? e=some i/\P.cellsOf e=1:=by
     unfold tinf at hti
     split at hti<;>try (simp at hti;done)
     split at hti<;>try (simp at hti;done)
     rename_i i hi
     simp only[Option.some.injEq,Prod.mk.injEq] at hti
     exact⟨i,hi,by simp[Program.cellsOf,hi,hti.2]⟩
    rw[run_equalIn_array w (d+1) _ _ ht hi,hsz]
    simp only[width,Nat.mul_one] at r2 q2 r3 q3
    replace r1:List.length (α:=Int) l=n':=r1
    replace q1:List.length (α:=Int) l'=n':=q1
    have key:∀ is:List Nat,(∀ j,j∈is->j<n')->(Op.eqItems (d+1) e 1 c1 c2 is).run P w=.ok (is.all fun j=>(l:List Int)[j]? == (l':List Int)[j]?) w:=by
     intro is
     induction is with
     | nil=>intro _;simp[Op.eqItems]
     | cons j is ihl=>
      intro hj
      have hj0:=hj j List.mem_cons_self
      have e1:(l:List Int)[j]?=some ((l:List Int)[j]'(by omega)):=List.getElem?_eq_getElem (by omega)
      have e2:(l':List Int)[j]?=some ((l':List Int)[j]'(by omega)):=List.getElem?_eq_getElem (by omega)
      rw[List.all_cons,e1,e2]
      generalize (l:List Int)[j]'(by omega)=x at *
      generalize (l':List Int)[j]'(by omega)=y at *
      obtain⟨y1,p1,p2⟩:=q3e (P:=P) (u:=⟨.int k,x⟩) hti (r3 j _ e1) (by omega) rfl (fun _=>⟨rfl,rfl⟩)
      obtain⟨y2,p3,p4⟩:=q3e (P:=P) (u:=⟨.int k,y⟩) hti (q3 j _ e2) (by omega) rfl (fun _=>⟨rfl,rfl⟩)
      rw[q03] at p2 p4
      subst p2 p4
      simp only[Op.eqItems,Nat.mul_one,Sem.run_bind,p1,p3,run_equalIn_int w d e _ _ _ _ he,Result.andThen_ok]
      have eb:(some x == some y)=(x == y):=rfl
      rw[eb]
      cases x == y
      . simp
      . simp[ihl fun i hi=>hj i (List.mem_cons_of_mem _ hi)]
    rw[key _ fun j hj=>List.mem_range.1 hj]
    congr 1
    show _=((l:List Int) == (l':List Int))
    rw[Bool.eq_iff_iff,List.all_eq_true,beq_iff_eq]
    refine⟨fun g=>List.ext_getElem? fun j=>?_,fun g j _=>by rw[g];exact beq_self_eq_true _⟩
    rcases Nat.lt_or_ge j n' with hj | hj
    . exact eq_of_beq (g j (List.mem_range.2 hj))
    . rw[List.getElem?_eq_none (by omega),List.getElem?_eq_none (by omega)]
end
end Go.VM
