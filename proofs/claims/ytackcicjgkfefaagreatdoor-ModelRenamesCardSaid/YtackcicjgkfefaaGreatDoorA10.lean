/- Typed pure data, a condition on code that says what a call gives, what the code of each function comes to, and what each function gives. -/
import Derived.Test.YtackcicjgkfefaaGreatDoorA6
import Derived.Test.YtackcicjgkfefaaGreatDoorA8
import Derived.Test.YtackcicjgkfefaaGreatDoorA9
set_option linter.unusedVariables false
set_option linter.unusedSimpArgs false
set_option linter.unnecessarySimpa false
namespace Go.Proofs.Pf.B
open Go Go.VM
theorem eqB_t {a b:Bool} (h:eqB a b=true):a=b:=by revert h;cases a<;>cases b<;>simp[eqB]
theorem eqB_f {a b:Bool} (h:eqB a b=false):a≠b:=by revert h;cases a<;>cases b<;>simp[eqB]
theorem q0K {n:Int}:sgn n<0↔n<0:=by
 rcases sgn3 n with ⟨e,h⟩ | ⟨e,h⟩ | ⟨e,h⟩<;>rw[e]<;>constructor<;>intro<;>omega
theorem sg_dec {P:Prop} [Decidable P] {v n:Int} (h1:P->n = -v) (h2:¬ P->n=v):sg (decide P) v=n:=by
 by_cases h:P
 . rw[h1 h];simp[sg,h]
 . rw[h2 h];simp[sg,h]
theorem r_Plus {x y:Int×Bool×Option (List Int)} {n m:Int} {k j:Nat} (hx:RIV x n) (hy:RIV y m) (fx:Fit k n) (fy:Fit j m) (hk:k<=1073741824) (hj:j<=1073741824):callV Pg q3i [⟨tRI,x⟩,⟨tRI,y⟩] tRI fun r=>RIV r (n+m):=by
 refine qat x y (RIV_ex _) (joinR (fun p=>∃ c:Bool,p=(c,x,y,((0:Int),false,none))/\(c=true->x.2.2.getD []=[]/\y.2.2.getD []=[])) ?_ ?_)
 . rintro _ ⟨c,rfl,hc⟩
   refine q00.2 ⟨fun h=>?_,fun _=>?_⟩
   . obtain⟨h1,h2⟩:=hc h
     rcases hx with ⟨_,q2,q3,q4⟩ | ⟨q1,_⟩
     case inr=>exact absurd h1 q1
     rcases hy with ⟨_,p2,p3,p4⟩ | ⟨q1,_⟩
     case inr=>exact absurd h2 q1
     dsimp only
     rw[q2,p2,wi64 (by omega) (by omega)]
     exact r_Of (by omega) (by omega)
   . dsimp only
     refine (q21 hx).mono ?_
     rintro X ⟨d1,t1,v1⟩
     refine (q21 hy).mono ?_
     rintro Y ⟨d2,t2,v2⟩
     refine (q0B hx).mono ?_
     rintro _ rfl
     refine (q0B hy).mono ?_
     rintro _ rfl
     have l1:=t1.fit d1 fx v1
     have l2:=t2.fit d2 fy v2
     refine q00.2 ⟨fun h=>?_,fun h=>?_⟩
     . have h:=eqB_t h
       rw[decide_eq_decide,q0K,q0K] at h
       refine (r_sum d1 d2 (by omega) (by omega)).mono ?_
       rintro S ⟨dS,vS,lS⟩
       refine (q22 dS (by omega)).mono ?_
       intro r hr
       rw[vS,v1,v2,sg_dec (n:=n+m) (by rw[q0K];omega) (by rw[q0K];omega)] at hr
       exact hr
     . have h:=eqB_f h
       simp only[ne_eq,decide_eq_decide,q0K] at h
       refine (q5l d1 d2 t1 t2 (by omega)).mono ?_
       rintro _ rfl
       refine q00.2 ⟨fun h2=>?_,fun h2=>?_⟩
       . have h2:0<=cmpI (nv (X.getD [])) (nv (Y.getD [])):=dec_t h2
         rw[q3r] at h2
         have hl:(Y.getD []).length<=(X.getD []).length:=by
          rcases Nat.lt_or_ge (X.getD []).length (Y.getD []).length with hl | hl
          . have:=q0I d1 d2 t2 hl;omega
          . exact hl
         refine (q5m d1 d2 h2 hl (by omega)).val.mono ?_
         rintro S ⟨dS,vS,lS⟩
         refine (q22 dS (by omega)).mono ?_
         intro r hr
         rw[vS,v1,v2,sg_dec (n:=n+m) (by rw[q0K];omega) (by rw[q0K];omega)] at hr
         exact hr
       . have h2:nv (X.getD [])<nv (Y.getD []):=cmpI_lt (dec_f h2)
         have hl:(X.getD []).length<=(Y.getD []).length:=by
          rcases Nat.lt_or_ge (Y.getD []).length (X.getD []).length with hl | hl
          . have:=q0I d2 d1 t1 hl;omega
          . exact hl
         refine (q5m d2 d1 (by omega) hl (by omega)).val.mono ?_
         rintro S ⟨dS,vS,lS⟩
         refine (q22 dS (by omega)).mono ?_
         intro r hr
         rw[vS,v1,v2,sg_dec (n:=n+m) (by rw[q0K];omega) (by rw[q0K];omega)] at hr
         exact hr
 . intro k hk
   refine q00.2 ⟨fun h=>hk _ ⟨_,rfl,fun h2=>?_⟩,fun h=>hk _ ⟨false,rfl,fun h2=>by simp at h2⟩⟩
   have h:szSl x.2.2=0:=dec_t h
   have h2:szSl y.2.2=0:=dec_t h2
   simp only[szSl] at h h2
   exact⟨List.eq_nil_of_length_eq_zero (by omega),List.eq_nil_of_length_eq_zero (by omega)⟩
theorem r_Less {x y:Int×Bool×Option (List Int)} {n m:Int} {k j:Nat} (hx:RIV x n) (hy:RIV y m) (fx:Fit k n) (fy:Fit j m) (hk:k<=1073741824) (hj:j<=1073741824):callV Pg q4w [⟨tRI,x⟩,⟨tRI,y⟩] tRI fun r=>RIV r (n - m):=by
 refine qaq x y (RIV_ex _) ((q2F hy).mono fun p h=>(r_Plus hx h fx fy.neg hk hj).mono fun r hr=>?_)
 rw[Int.sub_eq_add_neg];exact hr
theorem q6D {x y:Int×Bool×Option (List Int)} {n m:Int} {k j:Nat} (hx:RIV x n) (hy:RIV y m) (fx:Fit k n) (fy:Fit j m) (hk:k<=1073741824) (hj:j<=1073741824):callV Pg q3h [⟨tRI,x⟩,⟨tRI,y⟩] tI fun r=>r=sgn (n - m):=
 qap x y ⟨_,rfl⟩ ((r_Less hx hy fx fy hk hj).mono fun p h=>q0B h)
theorem r_Over {x y:Int×Bool×Option (List Int)} {n m:Int} {k:Nat} (hx:RIV x n) (hy:RIV y m) (hm:m≠0) (fx:Fit k n) (hk:k<=1073741824):callV Pg q2p [⟨tRI,x⟩,⟨tRI,y⟩] (.tup (.pair tRI (.pair tRI .unit))) fun r=>RIV r.1 (n.tdiv m)/\RIV r.2.1 (n.tmod m):=by
 obtain⟨y1,y2⟩:=quo_sgn n m hm
 refine qas x y ?_ (joinR (fun p=>∃ c:Bool,p=(c,x,y,((0:Int),false,none),((0:Int),false,none))/\(c=true->x.2.2.getD []=[]/\y.2.2.getD []=[])) ?_ ?_)
 . obtain⟨a,ha⟩:=RIV_ex (n.tdiv m)
   obtain⟨b,hb⟩:=RIV_ex (n.tmod m)
   exact⟨(a,b,()),ha,hb⟩
 . rintro _ ⟨c,rfl,hc⟩
   refine q00.2 ⟨fun h=>?_,fun _=>?_⟩
   . obtain⟨h1,h2⟩:=hc h
     rcases hx with ⟨_,q2,q3,q4⟩ | ⟨q1,_⟩
     case inr=>exact absurd h1 q1
     rcases hy with ⟨_,p2,p3,p4⟩ | ⟨q1,_⟩
     case inr=>exact absurd h2 q1
     dsimp only
     rw[q2,p2]
     have g1:(n.tdiv m).natAbs<=n.natAbs:=by rw[Int.natAbs_tdiv];exact Nat.div_le_self _ _
     have g2:(n.tmod m).natAbs<=n.natAbs:=by rw[Int.natAbs_tmod];exact Nat.mod_le _ _
     rw[wi64 (by omega) (by omega)]
     exact⟨hm,hm,RIV.small rfl (by omega) (by omega),RIV.small rfl (by omega) (by omega)⟩
   . dsimp only
     refine (q21 hx).mono ?_
     rintro X ⟨d1,t1,v1⟩
     refine (q21 hy).mono ?_
     rintro Y ⟨d2,t2,v2⟩
     have l1:=t1.fit d1 fx v1
     have hY:Y.getD []≠[]:=by intro e;rw[e] at v2;simp only[nv] at v2;omega
     refine (r_divided d1 d2 t1 t2 hY (by omega)).mono ?_
     rintro⟨q,r,_⟩ ⟨⟨dq,vq,lq⟩,dr,vr,lr⟩
     dsimp only at dq vq lq dr vr lr ⊢
     rw[v1,v2] at vq vr
     refine (q0B hx).mono ?_
     rintro _ rfl
     refine (q0B hy).mono ?_
     rintro _ rfl
     refine (q22 dq (by omega)).mono ?_
     intro p hp
     refine (q0B hx).mono ?_
     rintro _ rfl
     refine (q22 dr (by omega)).mono ?_
     intro p2 hp2
     have z:n=0->((n.natAbs:Int) / m.natAbs=0):=by rintro rfl;simp
     have e1:sg (notB (decide (sgn n=sgn m))) (nv (q.getD []))=n.tdiv m:=by
      rw[vq,<-y1]
      rcases sgn3 n with ⟨e1,h1⟩ | ⟨e1,h1⟩ | ⟨e1,h1⟩<;>rcases sgn3 m with ⟨e2,h2⟩ | ⟨e2,h2⟩ | ⟨e2,h2⟩<;>rw[e1,e2]
      . simp[sg]
      . simp[sg]
      . exact absurd h2 hm
      . simp[sg]
      . simp[sg]
      . exact absurd h2 hm
      all_goals (rw[z h1];simp[sg])
     have e2:sg (decide (sgn n<0)) (nv (r.getD []))=n.tmod m:=by
      rw[vr,<-y2]
      rcases sgn3 n with ⟨e1,h1⟩ | ⟨e1,h1⟩ | ⟨e1,h1⟩<;>rw[e1]
      . simp[sg]
      . simp[sg]
      . rw[h1];simp[sg]
     rw[e1] at hp
     rw[e2] at hp2
     exact⟨hp,hp2⟩
 . intro k hk
   refine q00.2 ⟨fun h=>hk _ ⟨_,rfl,fun h2=>?_⟩,fun h=>hk _ ⟨false,rfl,fun h2=>by simp at h2⟩⟩
   have h:szSl x.2.2=0:=dec_t h
   have h2:szSl y.2.2=0:=dec_t h2
   simp only[szSl] at h h2
   exact⟨List.eq_nil_of_length_eq_zero (by omega),List.eq_nil_of_length_eq_zero (by omega)⟩
def rval (x:Int×Bool×Option (List Int)):Int:=if x.2.2.getD []=[] then x.1 else if x.2.1=true then -nv (x.2.2.getD []) else nv (x.2.2.getD [])
theorem RIV.val {x:Int×Bool×Option (List Int)} {n:Int} (h:RIV x n):rval x=n:=by
 rcases h with ⟨h1,h2,_⟩ | ⟨h1,_,_,_,_,h2⟩
 . rw[rval,if_pos h1,h2]
 . rw[rval,if_neg h1,h2]
theorem r_Gcd {x y:Int×Bool×Option (List Int)} {n m:Int} {k:Nat} (hx:RIV x n) (hy:RIV y m) (fx:Fit k n) (fy:Fit k m) (hk:k<=1073741824):callV Pg q3g [⟨tRI,x⟩,⟨tRI,y⟩] tRI fun r=>RIV r (Int.gcd n m:Int):=by
 refine qan x y (RIV_ex _) ?_
 refine loopE (fun p=>∃ a b:Int,RIV p.1 a/\RIV p.2.1 b/\Int.gcd a b=Int.gcd n m/\Fit k a/\Fit k b) (fun p=>(rval p.2.1).natAbs) ⟨n,m,hx,hy,rfl,fx,fy⟩ ?_
 rintro⟨A,B,z⟩ ⟨a,b,ha,hb,hg,fa,fb⟩
 dsimp only at ha hb ⊢
 refine (q0B hb).mono ?_
 rintro _ rfl
 refine q00.2 ⟨fun h=>?_,fun h=>?_⟩
 . have h:¬ sgn b=0:=not_t h
   have hb0:b≠0:=by rintro rfl;exact h rfl
   refine (r_Over ha hb hb0 fa hk).mono ?_
   rintro⟨q,r,_⟩ ⟨_,hr⟩
   dsimp only at hr ⊢
   have hlt:(a.tmod b).natAbs<b.natAbs:=by rw[Int.natAbs_tmod];exact Nat.mod_lt _ (by omega)
   refine⟨⟨b,a.tmod b,hb,hr,?_,fb,fb.of (by omega)⟩,?_⟩
   . rw[<-hg];unfold Int.gcd;rw[Int.natAbs_tmod,Nat.gcd_comm b.natAbs,<-Nat.gcd_rec b.natAbs a.natAbs,Nat.gcd_comm]
   . rw[hr.val,hb.val];exact hlt
 . have h:sgn b=0:=not_f h
   have hb0:b=0:=sgn_z h
   subst hb0
   refine (r_Abs ha).mono fun r hr=>?_
   rw[<-hg];unfold Int.gcd
   rw[Int.natAbs_zero,Nat.gcd_zero_right];exact hr
end Go.Proofs.Pf.B
namespace Go.Proofs.Pf.B
open Go Go.VM
theorem q2y {p q z c:Int} (hp:0<=p) (hp':p<1073741824) (hq:0<=q) (hq':q<1073741824) (hz:0<=z) (hz':z<1073741824) (hc:0<=c) (hc':c<1073741824):
 0<=p*q+z+c/\p*q+z+c<1152921504606846976/\IntKind.wrap IntKind.i64 (c+IntKind.wrap IntKind.i64 (z+IntKind.wrap IntKind.i64 (p*q)))=p*q+z+c:=by
 have h0:0<=p*q:=Int.mul_nonneg hp hq
 have h1:p*q<=1073741823*1073741823:=Int.mul_le_mul (by omega) (by omega) hq (by omega)
 generalize p*q=m at *
 rw[wi64 (x:=m) (by omega) (by omega),wi64 (x:=z+m) (by omega) (by omega),wi64 (by omega) (by omega)]
 omega
structure MInv (x y:List Int) (i:Nat) (o:List Int):Prop where
 len:o.length=x.length+y.length
 dig:Dig o
 val:nv o=nv (x.take i)*nv y
 zero:∀ j,i+y.length<=j->o.getD j 0=0
structure MIn (x y:List Int) (i k:Nat) (c:Int) (o:List Int):Prop where
 len:o.length=x.length+y.length
 dig:Dig o
 c0:0<=c
 c1:c<1073741824
 val:nv o+1073741824 ^ (i+k)*c=nv (x.take i)*nv y+1073741824 ^ i*x.getD i 0*nv (y.take k)
 zero:∀ j,i+y.length<=j->o.getD j 0=0
theorem MIn.start {x y:List Int} {i:Nat} {o:List Int} (h:MInv x y i o):MIn x y i 0 0 o:=⟨h.len,h.dig,Int.le_refl _,by decide,by simp[nv,h.val],h.zero⟩
theorem MIn.step {x y:List Int} {i k:Nat} {c:Int} {o:List Int} (hx:Dig x) (hy:Dig y) (hi:i<x.length) (hk:k<y.length) (h:MIn x y i k c o):
 MIn x y i (k+1) ((x.getD i 0*y.getD k 0+o.getD (i+k) 0+c) / 1073741824) (o.set (i+k) ((x.getD i 0*y.getD k 0+o.getD (i+k) 0+c) % 1073741824)):=by
 have gx:=hx.get i
 have gy:=hy.get k
 have go:=h.dig.get (i+k)
 have hl:=h.len
 obtain⟨m1,m2,_⟩:=q2y gx.1 gx.2 gy.1 gy.2 go.1 go.2 h.c0 h.c1
 refine⟨by simp[hl],h.dig.set _ (by omega) (by omega),by omega,by omega,?_,fun j hj=>?_⟩
 . rw[q0A _ _ _ (by omega),q0d]
   have hv:=h.val
   have hdm:=Int.emod_add_mul_ediv (x.getD i 0*y.getD k 0+o.getD (i+k) 0+c) 1073741824
   generalize (x.getD i 0*y.getD k 0+o.getD (i+k) 0+c) % 1073741824=d at *
   generalize (x.getD i 0*y.getD k 0+o.getD (i+k) 0+c) / 1073741824=e at *
   have e1:(1073741824:Int) ^ (i+(k+1))=1073741824 ^ (i+k)*1073741824:=by rw[<-Nat.add_assoc,Int.pow_succ]
   have e2:(1073741824:Int) ^ (i+k)=1073741824 ^ i*1073741824 ^ k:=Int.pow_add ..
   rw[e1]
   rw[e2] at hv ⊢
   generalize (1073741824:Int) ^ i=bi at *
   generalize (1073741824:Int) ^ k=bk at *
   grind
 . rw[q0X (by omega)];exact h.zero j hj
theorem MIn.fin {x y:List Int} {i:Nat} {c:Int} {o:List Int} (hi:i<x.length) (h:MIn x y i y.length c o):MInv x y (i+1) (o.set (i+y.length) c):=by
 have hl:=h.len
 refine⟨by simp[hl],h.dig.set _ h.c0 h.c1,?_,fun j hj=>?_⟩
 . rw[q0A _ _ _ (by omega),h.zero _ (Nat.le_refl _),q0d]
   have hv:=h.val
   rw[List.take_length] at hv
   grind
 . rw[q0X (by omega)];exact h.zero j (by omega)
theorem q5k {x y:Int×Bool×Option (List Int)} {n m:Int} {k j:Nat} (hx:RIV x n) (hy:RIV y m) (fx:Fit k n) (fy:Fit j m) (hk:k<=1073741824) (hj:j<=1073741824):callV Pg q2q [⟨tRI,x⟩,⟨tRI,y⟩] tRI fun r=>RIV r (n*m):=by
 refine qav x y (RIV_ex _) (joinR (fun p=>∃ c:Bool,p=(c,x,y,((0:Int),false,none))/\(c=true->x.2.2.getD []=[]/\y.2.2.getD []=[] /\ -1073741824<x.1/\x.1<1073741824 /\ -1073741824<y.1/\y.1<1073741824)) ?_ ?_)
 . rintro _ ⟨c,rfl,hc⟩
   refine q00.2 ⟨fun h=>?_,fun _=>?_⟩
   . obtain⟨h1,h2,b1,b2,b3,b4⟩:=hc h
     rcases hx with ⟨_,q2,q3,q4⟩ | ⟨q1,_⟩
     case inr=>exact absurd h1 q1
     rcases hy with ⟨_,p2,p3,p4⟩ | ⟨q1,_⟩
     case inr=>exact absurd h2 q1
     dsimp only
     rw[q2] at b1 b2
     rw[p2] at b3 b4
     have g:(n*m).natAbs<=1073741823*1073741823:=by rw[Int.natAbs_mul];exact Nat.mul_le_mul (by omega) (by omega)
     rw[q2,p2,wi64 (by omega) (by omega)]
     exact RIV.small rfl (by omega) (by omega)
   . dsimp only
     refine (q21 hx).mono ?_
     rintro X' ⟨d1,t1,v1⟩
     refine (q21 hy).mono ?_
     rintro Y' ⟨d2,t2,v2⟩
     have l1:=t1.fit d1 fx v1
     have l2:=t2.fit d2 fy v2
     obtain⟨X,hX⟩:∃ X:List Int,X=X'.getD []:=⟨_,rfl⟩
     obtain⟨Y,hY⟩:∃ Y:List Int,Y=Y'.getD []:=⟨_,rfl⟩
     rw[<-hX] at d1 t1 v1 l1
     rw[<-hY] at d2 t2 v2 l2
     have sX:szSl X'=(X.length:Int):=by simp only[szSl,hX]
     have sY:szSl Y'=(Y.length:Int):=by simp only[szSl,hY]
     have el:IntKind.wrap IntKind.i64 ((X.length:Int)+(Y.length:Int))=((X.length+Y.length:Nat):Int):=by rw[wi64 (by omega) (by omega)];omega
     rw[sX,sY,el]
     refine⟨by simp only[mkC];omega,?_⟩
     refine loopE (fun p=>∃ (i:Nat) (o:List Int),i<=X.length/\MInv X Y i o/\p=(X',Y',(X.length:Int),(i:Int),x,y,((0:Int),false,none),some o)) (fun p=>((X.length:Int) - p.2.2.2.1).toNat) ⟨0,List.replicate (X.length+Y.length) 0,by omega,⟨by simp,Dig.rep _,by rw[q1U];simp[nv],fun j _=>?_⟩,?_⟩ ?_
     . simp only[List.getD,List.getElem?_replicate];split<;>rfl
     . simp only[repS,Int.toNat_natCast];rfl
     rintro _ ⟨i,o,hi,hI,rfl⟩
     refine q00.2 ⟨fun hb=>?_,fun hb=>?_⟩
     . have hb:(i:Int)<(X.length:Int):=dec_t hb
       dsimp only
       rw[sY]
       refine loopE (fun p=>∃ (k:Nat) (c:Int) (o:List Int),k<=Y.length/\MIn X Y i k c o/\p=(X',Y',(i:Int),c,(X.length:Int),(i:Int),(Y.length:Int),(k:Int),x,y,((0:Int),false,none),some o)) (fun p=>((Y.length:Int) - p.2.2.2.2.2.2.2.1).toNat) ⟨0,0,o,by omega,MIn.start hI,rfl⟩ ?_
       rintro _ ⟨k,c,o,hk',hM,rfl⟩
       have hl:=hM.len
       dsimp only
       refine q00.2 ⟨fun hc=>?_,fun hc=>?_⟩
       . have hc:(k:Int)<(Y.length:Int):=dec_t hc
         have ei:IntKind.wrap IntKind.i64 ((i:Int)+(k:Int))=((i+k:Nat):Int):=by rw[wi64 (by omega) (by omega)];omega
         have ek:IntKind.wrap IntKind.i64 ((k:Int)+1)=((k+1:Nat):Int):=by rw[wi64 (by omega) (by omega)];omega
         have gx:=d1.get i
         have gy:=d2.get k
         have go:=hM.dig.get (i+k)
         obtain⟨m1,m2,m3⟩:=q2y gx.1 gx.2 gy.1 gy.2 go.1 go.2 hM.c0 hM.c1
         have hst:=hM.step d1 d2 (by omega) (by omega)
         simp only[inS,eltN,eltS,toN,Option.getD_some,Int.toNat_natCast,ei,ek,<-hX,<-hY,m3]
         rw[Int.tdiv_eq_ediv_of_nonneg m1,Int.tmod_eq_emod_of_nonneg m1,wi64 (by omega) (by omega)]
         refine⟨⟨by omega,by omega⟩,⟨by omega,by omega⟩,⟨by omega,by omega⟩,by decide,⟨by omega,by omega⟩,by decide,⟨k+1,_,_,by omega,hst,rfl⟩,by omega⟩
       . have hc:¬ (k:Int)<(Y.length:Int):=dec_f hc
         have:k=Y.length:=by omega
         subst this
         have ei:IntKind.wrap IntKind.i64 ((i:Int)+(Y.length:Int))=((i+Y.length:Nat):Int):=by rw[wi64 (by omega) (by omega)];omega
         have ek:IntKind.wrap IntKind.i64 ((i:Int)+1)=((i+1:Nat):Int):=by rw[wi64 (by omega) (by omega)];omega
         have hf:=hM.fin (by omega)
         simp only[inS,toN,Option.getD_some,Int.toNat_natCast,sY,ei,ek]
         refine⟨⟨by omega,by omega⟩,⟨i+1,_,by omega,hf,rfl⟩,by omega⟩
     . have hb:¬ (i:Int)<(X.length:Int):=dec_f hb
       have:i=X.length:=by omega
       subst this
       have hv:=hI.val
       rw[List.take_length,v1,v2] at hv
       dsimp only
       refine (q0B hx).mono ?_
       rintro _ rfl
       refine (q0B hy).mono ?_
       rintro _ rfl
       have hln:=hI.len
       refine (q22 (b:=some o) hI.dig (by simp only[Option.getD_some];omega)).mono ?_
       intro r hr
       have e1:sg (notB (decide (sgn n=sgn m))) (nv o)=n*m:=by
        rw[hv]
        rcases sgn3 n with ⟨e1,h1⟩ | ⟨e1,h1⟩ | ⟨e1,h1⟩<;>rcases sgn3 m with ⟨e2,h2⟩ | ⟨e2,h2⟩ | ⟨e2,h2⟩<;>rw[e1,e2]
        . rw[show (n.natAbs:Int)=n by omega,show (m.natAbs:Int)=m by omega];simp[sg]
        . rw[show (n.natAbs:Int)=n by omega,show (m.natAbs:Int) = -m by omega];simp[sg,Int.mul_neg]
        . subst h2;simp[sg]
        . rw[show (n.natAbs:Int) = -n by omega,show (m.natAbs:Int)=m by omega];simp[sg,Int.neg_mul]
        . rw[show (n.natAbs:Int) = -n by omega,show (m.natAbs:Int) = -m by omega];simp[sg,Int.neg_mul_neg]
        . subst h2;simp[sg]
        all_goals (subst h1;simp[sg])
       simp only[Option.getD_some] at hr
       rw[e1] at hr
       exact hr
 . intro k hk
   have nf:=hk (false,x,y,((0:Int),false,none)) ⟨false,rfl,fun h2=>by simp at h2⟩
   refine q00.2 ⟨fun h1=>q00.2 ⟨fun h2=>q00.2 ⟨fun h3=>q00.2 ⟨fun h4=>q00.2 ⟨fun h5=>hk _ ⟨_,rfl,fun h6=>?_⟩,fun _=>nf⟩,fun _=>nf⟩,fun _=>nf⟩,fun _=>nf⟩,fun _=>nf⟩
   have h1:szSl x.2.2=0:=dec_t h1
   have h2:szSl y.2.2=0:=dec_t h2
   simp only[szSl] at h1 h2
   exact⟨List.eq_nil_of_length_eq_zero (by omega),List.eq_nil_of_length_eq_zero (by omega),dec_t h3,dec_t h4,dec_t h5,dec_t h6⟩
end Go.Proofs.Pf.B
namespace Go.Proofs.Pf
open Go Go.VM
theorem q5v (n:Int):sgn n=n.sign:=by
 rcases sgn3 n with ⟨e,h⟩ | ⟨e,h⟩ | ⟨e,h⟩
 . rw[e,Int.sign_eq_one_of_pos h]
 . rw[e,Int.sign_eq_neg_one_of_neg h]
 . rw[e,h];rfl
theorem q3D (n m:Int) (hm:m≠0):(Rat.divInt n m).num=sgn m*n.tdiv (Int.gcd n m):=by
 rw[Rat.num_divInt,q5v,Int.gcd_comm m n]
 have hd:((Int.gcd n m:Nat):Int) ∣ n:=Int.gcd_dvd_left ..
 rw[Int.mul_ediv_assoc _ hd,Int.tdiv_eq_ediv_of_dvd hd]
theorem q3C (n m:Int) (hm:m≠0):((Rat.divInt n m).den:Int)=sgn m*m.tdiv (Int.gcd n m):=by
 rw[Rat.den_divInt,if_neg hm,q5v,Int.gcd_comm m n]
 have hd:((Int.gcd n m:Nat):Int) ∣ m:=Int.gcd_dvd_right ..
 have e:m.sign*m=(m.natAbs:Int):=by
  rw[<-q5v]
  rcases sgn3 m with ⟨e,h⟩ | ⟨e,h⟩ | ⟨e,h⟩<;>rw[e]<;>omega
 rw[Int.tdiv_eq_ediv_of_dvd hd,<-Int.mul_ediv_assoc _ hd,e]
 simp
def LowV (y:Int×Option (List Int)) (d:Int):Prop:=IV y d∨(IV y 0/\d=1)
def RV (x:(Int×Option (List Int))×(Int×Option (List Int))) (q:Rat):Prop:=IV x.1 q.num/\LowV x.2 (q.den:Int)
theorem RV_ex (q:Rat):∃ r,RV r q:=by
 obtain⟨a,ha⟩:=IV_ex q.num
 obtain⟨b,hb⟩:=IV_ex (q.den:Int)
 exact⟨(a,b),ha,.inl hb⟩
theorem s_Ratio (hlong:LongS) {x y:Int×Option (List Int)} {n m:Int} {k:Nat} (hx:IV x n) (hy:IV y m) (hm:m≠0) (fx:Fit k n) (fy:Fit k m) (hk:k<=1073741824):callV Pg q39 [⟨tEI,x⟩,⟨tEI,y⟩] tER fun r=>RV r (Rat.divInt n m):=by
 refine q9O x y (RV_ex _) ((s_Gcd hlong hx hy fx fy hk).mono fun g hg=>?_)
 have hgp:Int.gcd n m≠0:=fun e=>hm (Int.gcd_eq_zero_iff.1 e).2
 have fin:∀ p:(Int×Option (List Int))×(Int×Option (List Int)),IV p.1 (sgn m*n.tdiv (Int.gcd n m))->IV p.2 (sgn m*m.tdiv (Int.gcd n m))->RV p (Rat.divInt n m):=by
  intro p h1 h2
  rw[<-q3D n m hm] at h1
  rw[<-q3C n m hm] at h2
  exact⟨h1,.inl h2⟩
 have dd:((Int.gcd n m:Nat):Int) ∣ m:=Int.gcd_dvd_right ..
 have sq:sgn (m.tdiv (Int.gcd n m))=sgn m:=by
  have h1:=Int.mul_tdiv_cancel' dd
  have:sgn ((Int.gcd n m:Nat):Int)=1:=if_pos (by omega)
  have h2:sgn m=sgn (((Int.gcd n m:Nat):Int)*m.tdiv (Int.gcd n m)):=by rw[h1]
  rw[h2,q5u,this];omega
 refine joinR (fun p=>∃ b:Bool,p=(b,x,y,(((0:Int),none),((0:Int),none)),g)/\(b=false->Int.gcd n m=1)) ?_ ?_
 . rintro _ ⟨b,rfl,hb⟩
   refine joinR (fun p=>IV p.1 (n.tdiv (Int.gcd n m))/\IV p.2.1 (m.tdiv (Int.gcd n m))) ?_ ?_
   . rintro⟨p,q,z⟩ ⟨h1,h2⟩
     dsimp only at h1 h2 ⊢
     refine (q1C h2).mono ?_
     rintro _ rfl
     refine joinR (fun p=>IV p.1 (sgn m*n.tdiv (Int.gcd n m))/\IV p.2.1 (sgn m*m.tdiv (Int.gcd n m))) ?_ ?_
     . rintro⟨p,q,z⟩ ⟨h1,h2⟩
       exact fin (p,q) h1 h2
     . intro k' hk'
       rw[sq]
       refine q00.2 ⟨fun h=>?_,fun h=>?_⟩
       . have h:sgn m<0:=dec_t h
         have em:sgn m = -1:=by rcases sgn3 m with ⟨e,_⟩ | ⟨e,_⟩ | ⟨e,_⟩<;>omega
         refine (s_Neg h1).mono fun p5 h5=>(s_Neg h2).mono fun p6 h6=>hk' _ ⟨?_,?_⟩
         . rw[em,Int.neg_mul,Int.one_mul];exact h5
         . rw[em,Int.neg_mul,Int.one_mul];exact h6
       . have h:¬ sgn m<0:=dec_f h
         have em:sgn m=1:=by rcases sgn3 m with ⟨e,_⟩ | ⟨e,_⟩ | ⟨e,h0⟩<;>omega
         refine hk' _ ⟨?_,?_⟩
         . rw[em,Int.one_mul];exact h1
         . rw[em,Int.one_mul];exact h2
   . intro k' hk'
     refine q00.2 ⟨fun h=>?_,fun h=>?_⟩
     . (try dsimp only)
       refine (s_Quo hlong hx hg (by omega) fx hk).mono ?_
       rintro⟨q,r,_⟩ ⟨h1,_⟩
       refine (s_Quo hlong hy hg (by omega) fy hk).mono ?_
       rintro⟨q2,r2,_⟩ ⟨h2,_⟩
       exact hk' _ ⟨h1,h2⟩
     . have e:=hb h
       refine hk' _ ?_
       rw[e]
       simp only[Int.natCast_one,Int.tdiv_one]
       exact⟨hx,hy⟩
 . intro k' hk'
   refine q00.2 ⟨fun h=>hk' _ ⟨true,rfl,fun h=>by simp at h⟩,fun h=>hk' _ ⟨_,rfl,fun h2=>?_⟩⟩
   have h:g.1=1:=not_f h
   obtain⟨v,d⟩:=g
   cases d with
   | some l=>simp[notB] at h2
   | none=>have e:v=((Int.gcd n m:Nat):Int):=hg.1;have h:v=1:=h;have e2:(1:Int)=((Int.gcd n m:Nat):Int):=(Eq.symm h).trans e;omega
end Go.Proofs.Pf
namespace Go.Proofs.Pf
open Go Go.VM
def RFit (k:Nat) (q:Rat):Prop:=Fit k q.num/\Fit k (q.den:Int)
theorem RFit.mono {k j:Nat} {q:Rat} (h:RFit k q) (hj:k<=j):RFit j q:=⟨h.1.mono hj,h.2.mono hj⟩
theorem s_one:callV Pg q4e [] tEI fun r=>IV r 1:=q9U ⟨((1:Int),none),rfl,by decide,by decide⟩ ⟨rfl,by decide,by decide⟩
theorem s_Low {x:(Int×Option (List Int))×(Int×Option (List Int))} {q:Rat} (hx:RV x q):callV Pg q1J [⟨tER,x⟩] tEI fun r=>IV r (q.den:Int):=by
 have hd:q.den≠0:=q.den_nz
 refine q9J x (IV_ex _) ?_
 rcases hx.2 with h | ⟨h,h1⟩
 . refine (q1C h).mono ?_
   rintro _ rfl
   refine q00.2 ⟨fun h2=>?_,fun h2=>h⟩
   have h2:sgn (q.den:Int)=0:=dec_t h2
   have:=sgn_z h2;omega
 . refine (q1C h).mono ?_
   rintro _ rfl
   refine q00.2 ⟨fun h2=>?_,fun h2=>?_⟩
   . rw[h1];exact s_one.mono fun r hr=>hr
   . exact absurd (rfl:sgn 0=0) (dec_f h2)
theorem s_whole {x:(Int×Option (List Int))×(Int×Option (List Int))} {q:Rat} (hx:RV x q):callV Pg q38 [⟨tER,x⟩] .bool fun b=>b=true->q.den=1:=by
 have hd:q.den≠0:=q.den_nz
 obtain⟨t,v,d⟩:=x
 refine q9N _ ⟨false,fun h=>by simp at h⟩ (joinR (fun b=>b=true->q.den=1) (fun _ h=>h) fun k hk=>?_)
 refine q00.2 ⟨fun h=>hk _ fun h2=>?_,fun _=>hk _ fun h=>by simp at h⟩
 have hv1:v<=1:=dec_t h2
 cases d with
 | some l=>simp at h
 | none=>
  rcases hx.2 with h | ⟨_,h1⟩
  . have e:v=(q.den:Int):=h.1
    have e2:(q.den:Int)<=1:=by rw[<-e];exact hv1
    omega
  . omega
theorem s_RSign {x:(Int×Option (List Int))×(Int×Option (List Int))} {q:Rat} (hx:RV x q):callV Pg q4a [⟨tER,x⟩] tI fun r=>r=sgn q.num:=
 q9L x ⟨_,rfl⟩ ((q1C hx.1).mono fun _ h=>h)
theorem s_RNeg {x:(Int×Option (List Int))×(Int×Option (List Int))} {q:Rat} (hx:RV x q):callV Pg q49 [⟨tER,x⟩] tER fun r=>RV r (-q):=
 q9K x (RV_ex _) ((s_Neg hx.1).mono fun _ h=>⟨h,hx.2⟩)
theorem s_Whole {n:Int} (h1:-9223372036854775808<=n) (h2:n<9223372036854775808):callV Pg q4c [⟨tI,n⟩] tER fun r=>RV r (n:Rat):=
 q9P n (RV_ex _) ((s_Of h1 h2).mono fun _ h=>⟨h,.inr ⟨⟨rfl,by decide,by decide⟩,rfl⟩⟩)
end Go.Proofs.Pf
namespace Go.Proofs.Pf
open Go Go.VM
set_option maxRecDepth 100000
def q80:Ann:=.nil
theorem w_num_Rat {Q:DR->Prop} (a:(Int×Int)) (hQ:∃ r,Q r) (h:
 (callV Pg q14 [⟨tI,a.1⟩] tEI (fun p0=>callV Pg q14 [⟨tI,a.2⟩] tEI (fun p1=>callV Pg q39 [⟨tEI,p0⟩,⟨tEI,p1⟩] tER (fun p2=>Q p2))))):
 callV Pg q4u [⟨tNum,a⟩] tER Q:=
 q02 (c:=q01 Tryz.f40) (ann:=q80) Tryz.func40 rfl Tryz.call40 rfl rfl hQ (kcast (by kernel_rfl) h)
def q81:Ann:=(.s (.seq (.seq (.reg [] [] (some ⟨[(1,.ref 1 0)],[.var 22 .bool,.box 1 tNum]⟩)) .nil) .nil))
theorem qam {Q:Bool->Prop} (a:(Int×Int)) (hQ:∃ r,Q r) (h:
 (joinV (Bool×Int×Int) (fun (i,j,k)=>brV i (Q false) (callV Pg q14 [⟨tI,j⟩] tEI (fun p1=>callV Pg q14 [⟨tI,k⟩] tEI (fun p2=>callV Pg q34 [⟨tEI,p1⟩,⟨tEI,p2⟩] tEI (fun p3=>callV Pg q47 [⟨tEI,p3⟩,⟨tI,(1152921504606846976:Int)⟩] (.tup (.pair tI (.pair .bool .unit))) (fun p4=>Q (decide (p4.1=(1:Int))))))))) (fun k0=>brV (decide (a.2<(1:Int))) (k0 (true,a)) (brV (decide ((1152921504606846976:Int)<a.2)) (k0 (true,a)) (brV (decide ((1152921504606846976:Int)<a.1)) (k0 (true,a)) (k0 (decide (a.1<(-(1152921504606846976:Int))),a))))))):
 callV Pg q2o [⟨tNum,a⟩] .bool Q:=
 q02 (c:=q01 Tryz.f33) (ann:=q81) Tryz.func33 rfl Tryz.call33 rfl rfl hQ (kcast (by kernel_rfl) h)
end Go.Proofs.Pf
namespace Go.Proofs.Pf
open Go Go.VM
abbrev OL:=Option (List Int)
structure LInv (n:Nat) (v u0:List Int) (p:Int×OL×Int×Int×OL×OL) (K:Nat) (u o:List Int):Prop where
 en:p.1=n
 ev:p.2.1=some v
 em:p.2.2.1=(v.length:Int)
 ek:p.2.2.2.1=(K:Int) - 1
 eu:p.2.2.2.2.1=some u
 eo:p.2.2.2.2.2=some o
 ul:u.length=u0.length
 ud:Dig u
 ol:o.length=u0.length - v.length
 od:Dig o
 oz:∀ j,j<K->o.getD j 0=0
 kl:K<=u0.length - v.length
 val:nv u0=nv o*nv v+nv u
 lt:nv u<nv v*4294967296 ^ K
theorem len_of {l:List Int} (hd:Dig l) (ht:Trm l) {k:Nat} (h1:4294967296 ^ k<=nv l) (h2:nv l<4294967296 ^ (k+1)):l.length=k+1:=by
 have hne:l≠[]:=by rintro rfl;simp only[nv] at h1;have:=pow_pos32 k;omega
 have h3:=ht.ge hd hne
 have h4:=nv_lt hd
 have h5:l.length≠0:=fun e=>hne (List.eq_nil_of_length_eq_zero e)
 rcases Nat.lt_or_ge l.length (k+1) with h | h
 . have:=pow_mono32 (show l.length<=k by omega);omega
 . rcases Nat.lt_or_ge (k+1) l.length with h' | h'
   . have:=pow_mono32 (show k+1<=l.length - 1 by omega);omega
   . omega
theorem long_ex {x y:List Int} (dx:Dig x) (dy:Dig y) (hy:0<nv y):∃ r,LongOf x y r:=by
 have hx:=nv_nonneg dx
 obtain⟨a,a1,a2,a3⟩:=nv_ex ((nv x / nv y).toNat+1) (nv x / nv y).toNat (by omega)
 obtain⟨b,b1,b2,b3⟩:=nv_ex ((nv x % nv y).toNat+1) (nv x % nv y).toNat (by omega)
 have h0:0<=nv x / nv y:=Int.ediv_nonneg hx (by omega)
 have h1:=Int.emod_nonneg (nv x) (show nv y≠0 by omega)
 have h2:=Int.emod_lt_of_pos (nv x) hy
 have h3:nv x / nv y<=nv x:=Int.ediv_le_self _ hx
 have e1:nv a=nv x / nv y:=by omega
 have e2:nv b=nv x % nv y:=by omega
 refine⟨(some a,some b,()),⟨a,rfl,a1,e1,?_⟩,b,rfl,b1,e2,?_⟩
 . have:=a2.fit a1 (k:=x.length) (n:=nv a) ((fit_nv dx).of (by omega)) (by omega);omega
 . exact b2.fit b1 (k:=y.length) (n:=nv b) ((fit_nv dy).of (by omega)) (by omega)
theorem getLast_getD {l:List Int} (h:l≠[]):l.getLast?=some (l.getD (l.length - 1) 0):=by
 rw[List.getLast?_eq_some_getLast h,List.getLast_eq_getElem]
 have:0<l.length:=List.length_pos_iff.2 h
 simp[List.getD,show l.length - 1<l.length by omega]
set_option maxHeartbeats 4000000 in
theorem longS:LongS:=by
 intro x y dx dy ty hy hxy hl
 have hyn:y≠[]:=by rintro rfl;simp at hy
 have gy:=dy.get (y.length - 1)
 have gy0:y.getD (y.length - 1) 0≠0:=ty _ (getLast_getD hyn)
 have hyp:0<nv y:=by have:=ty.ge dy hyn;have:=pow_pos32 (y.length - 1);omega
 have ew:IntKind.wrap IntKind.i64 (szSl (some y) - 1)=((y.length - 1:Nat):Int):=by
  simp only[szSl,Option.getD_some];rw[wi64 (by omega) (by omega)];omega
 refine q9R (some x) (some y) (long_ex dx dy hyp) ?_
 rw[ew]
 refine⟨by simp only[inS,Option.getD_some];omega,?_⟩
 have ee:eltS (0:Int) (some y) ((y.length - 1:Nat):Int)=y.getD (y.length - 1) 0:=by simp only[eltS,Option.getD_some,Int.toNat_natCast]
 rw[ee]
 refine (q9m (by omega) gy.2).mono ?_
 rintro _ ⟨n,rfl,hn,s1,s2⟩
 refine (q6U (x:=some x) (n:=n) dx hn (by simp only[Option.getD_some];omega)).mono ?_
 rintro _ ⟨u0,rfl,du,vu,lu⟩
 refine (q6U (x:=some y) (n:=n) dy hn (by simp only[Option.getD_some];omega)).mono ?_
 rintro _ ⟨v0,rfl,dv0,vv0,lv0⟩
 simp only[Option.getD_some] at vu lu vv0 lv0
 refine (s_trim (a:=some v0) (by simp only[Option.getD_some];omega)).mono ?_
 obtain⟨v,hv⟩:∃ v,v=trim v0:=⟨_,rfl⟩
 intro p3 hp3
 obtain rfl:p3=some v:=by rw[hp3,hv];rfl
 clear hp3
 have dv:Dig v:=hv ▸ dv0.trim
 have tv:Trm v:=hv ▸ trm_trim v0
 have vv:nv v=nv y*2 ^ n:=by rw[hv,q0S,vv0]
 clear hv vv0 lv0 dv0
 obtain⟨m,hm⟩:∃ m,y.length=m+2:=⟨y.length - 2,by omega⟩
 have hp2:(0:Int)<2 ^ n:=Int.pow_pos (by decide)
 have hP:=pow_pos32 m
 have n31:(2:Int) ^ n<=2147483648:=by
  have e:(2147483648:Int)=2 ^ (31 - n)*2 ^ n:=by rw[<-Int.pow_add,show 31 - n+n=31 by omega];rfl
  have:(0:Int)<2 ^ (31 - n):=Int.pow_pos (by decide)
  have:1*(2:Int) ^ n<=2 ^ (31 - n)*2 ^ n:=Int.mul_le_mul_of_nonneg_right (by omega) (by omega)
  omega
 obtain⟨wy,wy0,wy1,wy2⟩:∃ w,0<=w/\w<4294967296 ^ (m+1)/\nv y=w+4294967296 ^ (m+1)*y.getD (m+1) 0:=by
  refine⟨nv (y.take (m+1)),(take_lt dy _).1,(take_lt dy _).2,?_⟩
  rw[q0c y (m+1),q0m y (m+1),List.drop_of_length_le (by omega)];simp[nv]
 have ely:y.length - 1=m+1:=by omega
 rw[ely] at gy gy0 s1 s2
 have vlow:4294967296 ^ (m+1)*2147483648<=nv v:=by
  have h1:4294967296 ^ (m+1)*2147483648<=4294967296 ^ (m+1)*(y.getD (m+1) 0*2 ^ n):=Int.mul_le_mul_of_nonneg_left s2 (by have:=pow_pos32 (m+1);omega)
  have h2:nv y*2 ^ n=wy*2 ^ n+4294967296 ^ (m+1)*(y.getD (m+1) 0*2 ^ n):=by rw[wy2];grind
  have h3:0<=wy*2 ^ n:=Int.mul_nonneg wy0 (by omega)
  omega
 have vhigh:nv v<4294967296 ^ (m+2):=by
  have h2:nv y*2 ^ n=wy*2 ^ n+4294967296 ^ (m+1)*(y.getD (m+1) 0*2 ^ n):=by rw[wy2];grind
  have h3:(wy+1)*2 ^ n<=4294967296 ^ (m+1)*2 ^ n:=Int.mul_le_mul_of_nonneg_right (by omega) (by omega)
  have h4:4294967296 ^ (m+1)*(y.getD (m+1) 0*2 ^ n+2 ^ n)<=4294967296 ^ (m+1)*4294967296:=by
   refine Int.mul_le_mul_of_nonneg_left ?_ (by have:=pow_pos32 (m+1);omega)
   have e:(4294967296:Int)=2 ^ (32 - n)*2 ^ n:=by rw[<-Int.pow_add,show 32 - n+n=32 by omega];rfl
   rw[e] at s1
   have s3:=Int.lt_of_mul_lt_mul_right s1 (by omega)
   have:(y.getD (m+1) 0+1)*2 ^ n<=2 ^ (32 - n)*2 ^ n:=Int.mul_le_mul_of_nonneg_right (by omega) (by omega)
   rw[<-e] at this
   have e2:(y.getD (m+1) 0+1)*2 ^ n=y.getD (m+1) 0*2 ^ n+2 ^ n:=by grind
   omega
  rw[Int.mul_add] at h4
  rw[show m+2=m+1+1 by omega,Int.pow_succ]
  have e3:(wy+1)*2 ^ n=wy*2 ^ n+2 ^ n:=by grind
  omega
 have hlv:v.length=m+2:=len_of dv tv (by omega) vhigh
 have vpos:0<nv v:=by have:=pow_pos32 (m+1);omega
 obtain⟨wv,wv0,wv1,wv2⟩:=win2 dv hlv
 have gv1:=dv.get (m+1)
 have gv2:=dv.get m
 have v1l:2147483648<=v.getD (m+1) 0:=by
  rw[Int.pow_succ] at vlow
  have h1:4294967296 ^ m*(v.getD m 0+1)<=4294967296 ^ m*4294967296:=Int.mul_le_mul_of_nonneg_left (by omega) (by omega)
  have h2:4294967296 ^ m*4294967296*2147483648<4294967296 ^ m*4294967296*(v.getD (m+1) 0+1):=by
   rw[wv2] at vlow
   generalize v.getD (m+1) 0=a at *
   generalize v.getD m 0=b at *
   generalize (4294967296:Int) ^ m=P at *
   have e1:P*(b+4294967296*a)=P*b+P*4294967296*a:=by grind
   have e2:P*4294967296*(a+1)=P*4294967296*a+P*4294967296:=by grind
   have e3:P*(b+1)=P*b+P:=by grind
   omega
  have:=Int.lt_of_mul_lt_mul_left h2 (by omega)
  omega
 have hlu:u0.length=x.length+1:=lu
 have esz:IntKind.wrap IntKind.i64 (szSl (some u0) - szSl (some v))=((u0.length - v.length:Nat):Int):=by
  simp only[szSl,Option.getD_some];rw[wi64 (by omega) (by omega)];omega
 have esz1:IntKind.wrap IntKind.i64 (((u0.length - v.length:Nat):Int) - 1)=((u0.length - v.length:Nat):Int) - 1:=wi64 (by omega) (by omega)
 rw[esz,esz1]
 refine⟨by simp only[mkC];omega,?_⟩
 refine loopE (fun p=>∃ K u o,LInv n v u0 p K u o) (fun p=>(p.2.2.2.1+1).toNat) ⟨u0.length - v.length,u0,List.replicate (u0.length - v.length) 0,⟨rfl,rfl,rfl,rfl,rfl,?_,rfl,du,by simp,Dig.rep _,fun j hj=>by simp[List.getD,hj],Nat.le_refl _,by rw[q1U];omega,?_⟩⟩ ?_
 . simp only[repS,Int.toNat_natCast]
 . have h1:=nv_lt dx
   have e:x.length=(u0.length - v.length)+(m+1):=by omega
   rw[vu]
   have h2:(nv x+1)*2 ^ n<=4294967296 ^ x.length*2 ^ n:=Int.mul_le_mul_of_nonneg_right (by omega) (by omega)
   have h3:(4294967296:Int) ^ x.length*2 ^ n<=4294967296 ^ x.length*2147483648:=Int.mul_le_mul_of_nonneg_left n31 (by have:=pow_pos32 x.length;omega)
   have h4:(4294967296:Int) ^ x.length*2147483648=4294967296 ^ (m+1)*2147483648*4294967296 ^ (u0.length - v.length):=by rw[e,Int.pow_add];grind
   have h5:4294967296 ^ (m+1)*2147483648*4294967296 ^ (u0.length - v.length)<=nv v*4294967296 ^ (u0.length - v.length):=Int.mul_le_mul_of_nonneg_right vlow (by have:=pow_pos32 (u0.length - v.length);omega)
   have h6:(nv x+1)*2 ^ n=nv x*2 ^ n+2 ^ n:=by grind
   omega
 rintro⟨n',v',m',k',u',o'⟩ ⟨K,u,o,h⟩
 obtain rfl:n'=(n:Int):=h.en
 obtain rfl:v'=some v:=h.ev
 obtain rfl:m'=(v.length:Int):=h.em
 obtain rfl:k'=(K:Int) - 1:=h.ek
 obtain rfl:u'=some u:=h.eu
 obtain rfl:o'=some o:=h.eo
 obtain⟨_,_,_,_,_,_,ul,ud,ol,od,oz,kl,val,lt⟩:=h
 dsimp only
 refine q00.2 ⟨fun hb=>?_,fun hb=>?_⟩
 ·
  have hb:(0:Int)<=(K:Int) - 1:=dec_t hb
  obtain⟨k,rfl⟩:∃ k,K=k+1:=⟨K - 1,by omega⟩
  have ek:((k+1:Nat):Int) - 1=(k:Int):=by omega
  rw[ek,hlv]
  have hkm:k+m+3<=u0.length:=by omega
  have e1:IntKind.wrap IntKind.i64 ((k:Int)+((m+2:Nat):Int))=((k+m+2:Nat):Int):=by rw[wi64 (by omega) (by omega)];omega
  have e2:IntKind.wrap IntKind.i64 (((k+m+2:Nat):Int) - 1)=((k+m+1:Nat):Int):=by rw[wi64 (by omega) (by omega)];omega
  have e3:IntKind.wrap IntKind.i64 (((k+m+2:Nat):Int) - 2)=((k+m:Nat):Int):=by rw[wi64 (by omega) (by omega)];omega
  have e4:IntKind.wrap IntKind.i64 (((m+2:Nat):Int) - 1)=((m+1:Nat):Int):=by rw[wi64 (by omega) (by omega)];omega
  have e5:IntKind.wrap IntKind.i64 (((m+2:Nat):Int) - 2)=((m:Nat):Int):=by rw[wi64 (by omega) (by omega)];omega
  have gu0:=ud.get (k+m+2)
  have gu1:=ud.get (k+m+1)
  have gu2:=ud.get (k+m)
  have x1:eltS (0:Int) (some v) ((m+1:Nat):Int)=v.getD (m+1) 0:=by simp only[eltS,Option.getD_some,Int.toNat_natCast]
  have x2:eltS (0:Int) (some v) ((m:Nat):Int)=v.getD m 0:=by simp only[eltS,Option.getD_some,Int.toNat_natCast]
  have x3:eltN (0:Int) (some u) (toN ((k+m+2:Nat):Int))=u.getD (k+m+2) 0:=by simp only[eltN,toN,Option.getD_some,Int.toNat_natCast]
  have x4:eltN (0:Int) (some u) (toN ((k+m+1:Nat):Int))=u.getD (k+m+1) 0:=by simp only[eltN,toN,Option.getD_some,Int.toNat_natCast]
  have x5:eltN (0:Int) (some u) (toN ((k+m:Nat):Int))=u.getD (k+m) 0:=by simp only[eltN,toN,Option.getD_some,Int.toNat_natCast]
  have y1:IntKind.wrap IntKind.u64 (v.getD (m+1) 0)=v.getD (m+1) 0:=wu64 gv1.1 (by omega)
  have y2:IntKind.wrap IntKind.u64 (v.getD m 0)=v.getD m 0:=wu64 gv2.1 (by omega)
  have y3:IntKind.wrap IntKind.u64 (u.getD (k+m+2) 0)=u.getD (k+m+2) 0:=wu64 gu0.1 (by omega)
  have y4:IntKind.wrap IntKind.u64 (u.getD (k+m+1) 0)=u.getD (k+m+1) 0:=wu64 gu1.1 (by omega)
  have y5:IntKind.wrap IntKind.u64 (u.getD (k+m) 0)=u.getD (k+m) 0:=wu64 gu2.1 (by omega)
  have etop:bitI BinOp.or IntKind.u64 (shlI IntKind.u64 (u.getD (k+m+2) 0) 32) (u.getD (k+m+1) 0)=u.getD (k+m+2) 0*4294967296+u.getD (k+m+1) 0:=by
   rw[q3P,Int.emod_eq_of_lt (by omega) (by omega),q5f gu1.1 gu1.2 gu0.1 gu0.2,Int.add_comm]
  have uz:q04 u (k+m+3):=by
   refine lt_zeroFrom ud (Int.lt_of_lt_of_le lt ?_)
   have:nv v*4294967296 ^ (k+1)<=4294967296 ^ (m+2)*4294967296 ^ (k+1):=Int.mul_le_mul_of_nonneg_right (by omega) (by have:=pow_pos32 (k+1);omega)
   rw[<-Int.pow_add,show m+2+(k+1)=k+m+3 by omega] at this
   exact this
  obtain⟨wu,wu0,wu1,wu2⟩:=win3 ud uz
  have uV:nv (u.drop k)<nv v*4294967296:=by
   rw[q0c u k,Int.pow_succ] at lt
   have t:=take_lt ud k
   have:4294967296 ^ k*nv (u.drop k)<4294967296 ^ k*(nv v*4294967296):=by
    have e:nv v*(4294967296 ^ k*4294967296)=4294967296 ^ k*(nv v*4294967296):=by grind
    omega
   exact Int.lt_of_mul_lt_mul_left this (by have:=pow_pos32 k;omega)
  have est:Est (nv (u.drop k)) (nv v) (v.getD (m+1) 0) (v.getD m 0) (u.getD (k+m) 0) (u.getD (k+m+2) 0*4294967296+u.getD (k+m+1) 0) (4294967296 ^ m):=
   est_mk hP wu2 wv2 wu0 wu1 wv0 wv1 v1l gv1.2 gv2.1 gv2.2 gu2.1 gu2.2 gu1.1 gu0.1 uV
  have uz':q04 u (k+v.length+1):=by rw[hlv];exact uz
  have hkl:k+v.length<u.length:=by omega
  simp only[e1,e2,e3,e4,e5,x1,x2,x3,x4,x5,y1,y2,y3,y4,y5,etop]
  have gtop:0<=u.getD (k+m+2) 0*4294967296+u.getD (k+m+1) 0/\u.getD (k+m+2) 0*4294967296+u.getD (k+m+1) 0<18446744073709551616:=by omega
  have hq0:=est.q0
  have hqB:=est.qB
  refine⟨by simp only[inS,Option.getD_some];omega,by first | trivial | omega,by simp only[inS,Option.getD_some];omega,by simp only[inS,Option.getD_some];omega,by omega,by simp only[inS,Option.getD_some];omega,by omega,?_⟩
  refine joinR (fun p=>∃ q,p=((n:Int),some v,((m+2:Nat):Int),(k:Int),q,some u,some o)/\0<=q/\q<4294967296/\nv (u.drop k) / nv v<=q/\q - 1<=nv (u.drop k) / nv v) ?_ ?_
  ·
   rintro _ ⟨q,rfl,q0,qB,ql,qh⟩
   dsimp only
   refine loopE (fun p=>∃ (i:Nat) (w:List Int) (b c:Int),p=((n:Int),some v,((m+2:Nat):Int),(k:Int),q,b,c,some v,((m+2:Nat):Int),(i:Int),some w,some o)/\i<=m+2/\SubInv u v q k i w b c) (fun p=>(((m+2:Nat):Int) - p.2.2.2.2.2.2.2.2.2.1).toNat) ⟨0,u,0,0,?_,by omega,⟨rfl,ud,uz',by omega,by omega,by omega,by omega,by simp[nv]⟩⟩ ?_
   . simp only[szSl,Option.getD_some,hlv];rfl
   rintro _ ⟨i,w,b,c,rfl,hi,hs⟩
   dsimp only
   have hwl:w.length=u0.length:=hs.len.trans ul
   have b0:=hs.b0
   have b1:=hs.b1
   have c0:=hs.c0
   have c1:=hs.c1
   refine q00.2 ⟨fun hb=>?_,fun hb=>?_⟩
   . have hb:(i:Int)<((m+2:Nat):Int):=dec_t hb
     have f1:IntKind.wrap IntKind.i64 ((k:Int)+(i:Int))=((k+i:Nat):Int):=by rw[wi64 (by omega) (by omega)];omega
     have f2:IntKind.wrap IntKind.i64 ((i:Int)+1)=((i+1:Nat):Int):=by rw[wi64 (by omega) (by omega)];omega
     have hst:=hs.step dv (by omega) (by omega) q0 qB
     have gv:=dv.get i
     have gw:=hs.dig.get (k+i)
     have hbd:=q5C q0 qB gv.1 gv.2 hs.c0 hs.c1
     obtain⟨r1,r2,r3⟩:=sub_words gw.1 gw.2 hbd.1 hs.c0 hbd.2 hs.b0 hs.b1
     have y6:IntKind.wrap IntKind.u64 (v.getD i 0)=v.getD i 0:=wu64 gv.1 (by omega)
     simp only[f1,f2,inS,eltS,eltN,toN,Option.getD_some,Int.toNat_natCast,y6,r1,r2,r3,setO,Option.map_some]
     exact⟨by omega,by first | trivial | omega,by omega,by omega,by first | trivial | omega,⟨i+1,_,_,_,rfl,by omega,hst⟩,by omega⟩
   . have hb:¬ (i:Int)<((m+2:Nat):Int):=dec_f hb
     obtain rfl:i=m+2:=by omega
     have hs':SubInv u v q k v.length w b c:=by rw[hlv];exact hs
     have hend:=hs'.fin hkl
     have hr:=hend.right ud uz' vpos dv ql qh
     rw[hlv,<-Nat.add_assoc] at hend hr
     have gw:=hs.dig.get (k+m+2)
     have et:shrI IntKind.u64 (IntKind.wrap IntKind.u64 (IntKind.wrap IntKind.u64 (IntKind.wrap IntKind.u64 (w.getD (k+m+2) 0) - c) - b)) 63=if w.getD (k+m+2) 0<c+b then 1 else 0:=by
      rw[q6Z,wu64m,wu64m,wu64m];split<;>omega
     have ed:IntKind.wrap IntKind.u32 (IntKind.wrap IntKind.u64 (IntKind.wrap IntKind.u64 (IntKind.wrap IntKind.u64 (w.getD (k+m+2) 0) - c) - b))=(w.getD (k+m+2) 0 - c - b) % 4294967296:=by
      rw[wu32m,wu64m,wu64m,wu64m];omega
     simp only[e1,inS,eltN,toN,Option.getD_some,Int.toNat_natCast,et,ed,setO,Option.map_some]
     refine⟨by omega,by omega,by first | trivial | omega,?_⟩
     refine joinR (fun p=>∃ u',p=((n:Int),some v,((m+2:Nat):Int),(k:Int),nv (u.drop k) / nv v,some u',some o)/\Left u v k u') ?_ ?_
     . rintro _ ⟨u',rfl,hL⟩
       dsimp only
       have f3:IntKind.wrap IntKind.u32 (nv (u.drop k) / nv v)=nv (u.drop k) / nv v:=wu32 hq0 (by omega)
       have f4:IntKind.wrap IntKind.i64 ((k:Int) - 1)=(k:Int) - 1:=wi64 (by omega) (by omega)
       simp only[f3,f4,inS,toN,Option.getD_some,Int.toNat_natCast,setO,Option.map_some]
       refine⟨by omega,⟨k,u',o.set k (nv (u.drop k) / nv v),⟨rfl,rfl,by rw[hlv],rfl,rfl,rfl,hL.len.trans ul,hL.dig,by rw[List.length_set];exact ol,od.set _ hq0 (by omega),?_,by omega,out_step hL val (oz k (by omega)) (by omega),left_lt hL ud vpos⟩⟩,by omega⟩
       intro j hj;rw[q0X (by omega)];exact oz j (by omega)
     . intro k9 hk9
       generalize (if w.getD (k+m+2) 0<c+b then (1:Int) else 0)=t at *
       refine q00.2 ⟨fun hb2=>?_,fun hb2=>?_⟩
       . have ht1:t=1:=dec_t hb2
         have hq:=hr.2 ht1
         have f5:IntKind.wrap IntKind.u64 (q - 1)=nv (u.drop k) / nv v:=by rw[wu64 (by omega) (by omega)];omega
         refine loopE (fun p=>∃ (i:Nat) (z:List Int) (c':Int),p=((n:Int),some v,((m+2:Nat):Int),(k:Int),nv (u.drop k) / nv v,c',some v,((m+2:Nat):Int),(i:Int),some z,some o)/\i<=m+2/\AddInv (w.set (k+m+2) ((w.getD (k+m+2) 0 - c - b) % 4294967296)) v k i z c') (fun p=>(((m+2:Nat):Int) - p.2.2.2.2.2.2.2.2.1).toNat) ⟨0,_,0,?_,by omega,⟨rfl,hend.dig,hend.zero,by omega,by omega,by simp[nv]⟩⟩ ?_
         . simp only[f5,szSl,Option.getD_some,hlv];rfl
         rintro _ ⟨i,z,c',rfl,hi',ha⟩
         dsimp only
         have hzl:z.length=u0.length:=ha.len.trans (hend.len.trans ul)
         have c0':=ha.c0
         have c1':=ha.c1
         refine q00.2 ⟨fun hb=>?_,fun hb=>?_⟩
         . have hb:(i:Int)<((m+2:Nat):Int):=dec_t hb
           have f1:IntKind.wrap IntKind.i64 ((k:Int)+(i:Int))=((k+i:Nat):Int):=by rw[wi64 (by omega) (by omega)];omega
           have f2:IntKind.wrap IntKind.i64 ((i:Int)+1)=((i+1:Nat):Int):=by rw[wi64 (by omega) (by omega)];omega
           have gv:=dv.get i
           have gz:=ha.dig.get (k+i)
           have hst:=ha.step dv (by omega) (by rw[hend.len];omega)
           simp only[f1,f2,inS,eltS,eltN,toN,Option.getD_some,Int.toNat_natCast]
           refine⟨by omega,by omega,(s_Add32 gz.1 gz.2 gv.1 gv.2 c0' (by omega)).mono ?_⟩
           rintro _ rfl
           simp only[setO,Option.map_some]
           exact⟨by omega,⟨i+1,_,_,rfl,by omega,hst⟩,by omega⟩
         . have hb:¬ (i:Int)<((m+2:Nat):Int):=dec_f hb
           obtain rfl:i=m+2:=by omega
           have gz:=ha.dig.get (k+m+2)
           simp only[e1,inS,eltN,toN,Option.getD_some,Int.toNat_natCast,setO,Option.map_some]
           refine⟨by omega,by omega,hk9 _ ⟨_,rfl,?_⟩⟩
           rw[wu32m]
           have ha':AddInv (w.set (k+m+2) ((w.getD (k+m+2) 0 - c - b) % 4294967296)) v k v.length z c':=by rw[hlv];exact ha
           have:=AddInv.left hend ht1 hq ha' ud uz' hkl vpos
           rw[hlv,<-Nat.add_assoc] at this
           exact this
       . have ht1:¬ t=1:=dec_f hb2
         have ht0:t=0:=hend.t01.resolve_right ht1
         have hq:=hr.1 ht0
         exact hk9 _ ⟨_,by rw[hq],hend.left ht0 hq⟩
  ·
   intro k6 hk6
   generalize u.getD (k+m+2) 0*4294967296+u.getD (k+m+1) 0=top at *
   refine loopE (fun p=>∃ q r:Int,p=((n:Int),some v,((m+2:Nat):Int),(k:Int),q,r,some u,some o)/\nv (u.drop k) / nv v<=q/\0<=r/\r<4294967296/\q*v.getD (m+1) 0+r=top/\q<17179869184) (fun p=>p.2.2.2.2.1.toNat) ⟨top / v.getD (m+1) 0,top % v.getD (m+1) 0,?_,est.init,Int.emod_nonneg _ (by omega),?_,?_,?_⟩ ?_
   . have hq:top / v.getD (m+1) 0<17179869184:=Int.ediv_lt_of_lt_mul (by omega) (by omega)
     have hq':0<=top / v.getD (m+1) 0:=Int.ediv_nonneg (by omega) (by omega)
     rw[Int.tdiv_eq_ediv_of_nonneg gtop.1,Int.tmod_eq_emod_of_nonneg gtop.1,wu64 hq' (by omega)]
   . have:=Int.emod_lt_of_pos top (show 0<v.getD (m+1) 0 by omega);omega
   . have:=Int.mul_ediv_add_emod top (v.getD (m+1) 0);rw[Int.mul_comm];exact this
   . exact Int.ediv_lt_of_lt_mul (by omega) (by omega)
   rintro _ ⟨q,r,rfl,ql,r0,rB,he,qB⟩
   dsimp only
   refine joinR (fun p=>p=((n:Int),some v,((m+2:Nat):Int),(k:Int),q,r,decide (4294967296<=q∨r*4294967296+u.getD (k+m) 0<q*v.getD m 0),some u,some o)) ?_ ?_
   . rintro _ rfl
     simp only[e4,x1,y1]
     refine q00.2 ⟨fun hb=>?_,fun hb=>?_⟩
     . have hb:=dec_t hb
       have hnx:=est.next ql he hb
       have f6:IntKind.wrap IntKind.u64 (q - 1)=q - 1:=wu64 (by omega) (by omega)
       have f7:IntKind.wrap IntKind.u64 (r+v.getD (m+1) 0)=r+v.getD (m+1) 0:=wu64 (by omega) (by omega)
       have he':(q - 1)*v.getD (m+1) 0+(r+v.getD (m+1) 0)=top:=by rw[<-he,Int.sub_mul];omega
       simp only[f6,f7]
       refine⟨by simp only[inS,Option.getD_some];omega,q00.2 ⟨fun h2=>?_,fun h2=>?_⟩⟩
       . have h2:4294967296<=r+v.getD (m+1) 0:=dec_t h2
         obtain⟨w1,w2⟩:=est.brk (by omega) he' h2
         exact hk6 _ ⟨q - 1,rfl,by omega,w1,hnx,est.done hnx he' w1 w2⟩
       . have h2:¬ 4294967296<=r+v.getD (m+1) 0:=dec_f h2
         exact⟨⟨q - 1,r+v.getD (m+1) 0,rfl,hnx,by omega,by omega,he',by omega⟩,by omega⟩
     . have hb:=dec_f hb
       exact hk6 _ ⟨q,rfl,by omega,by omega,ql,est.done ql he (by omega) (by omega)⟩
   . intro k9 hk9
     refine q00.2 ⟨fun h2=>?_,fun h2=>?_⟩
     . have h2:4294967296<=q:=dec_t h2
       exact hk9 _ (by rw[decide_eq_true (Or.inl h2)])
     . have h2:¬ 4294967296<=q:=dec_f h2
       have eo:bitI BinOp.or IntKind.u64 (shlI IntKind.u64 r 32) (u.getD (k+m) 0)=r*4294967296+u.getD (k+m) 0:=by
        rw[q3P,Int.emod_eq_of_lt (by omega) (by omega),q5f gu2.1 gu2.2 r0 rB,Int.add_comm]
       have hb:=q5C (q:=q) (d:=v.getD m 0) (carry:=0) (by omega) (by omega) gv2.1 gv2.2 (by omega) (by omega)
       have em:IntKind.wrap IntKind.u64 (q*v.getD m 0)=q*v.getD m 0:=wu64 hb.1 (by omega)
       simp only[e1,e3,e5,x2,x5,y2,y5,eo,em]
       refine⟨by simp only[inS,Option.getD_some];omega,by first | trivial | omega,by simp only[inS,Option.getD_some];omega,hk9 _ ?_⟩
       have:decide (r*4294967296+u.getD (k+m) 0<q*v.getD m 0)=decide (4294967296<=q∨r*4294967296+u.getD (k+m) 0<q*v.getD m 0):=decide_eq_decide.2 ⟨Or.inr,fun h=>h.resolve_left h2⟩
       rw[this]
 ·
  have hb:¬ (0:Int)<=(K:Int) - 1:=dec_f hb
  obtain rfl:K=0:=by omega
  simp only[Int.pow_zero,Int.mul_one] at lt
  rw[vu,vv] at val
  rw[vv] at lt
  have hR:nv u=(nv x - nv o*nv y)*2 ^ n:=by rw[Int.sub_mul,val];grind
  have hu0:=nv_nonneg ud
  have hR0:0<=nv x - nv o*nv y:=by
   rw[hR] at hu0
   rcases Int.lt_or_le (nv x - nv o*nv y) 0 with h | h
   . have:(nv x - nv o*nv y)*2 ^ n<0:=Int.mul_neg_of_neg_of_pos h hp2
     omega
   . exact h
  have hR1:nv x - nv o*nv y<nv y:=by
   rw[hR] at lt
   exact Int.lt_of_mul_lt_mul_right lt (by omega)
  obtain⟨d1,d2⟩:=q3u (show nv o*nv y+(nv x - nv o*nv y)=nv x by omega) hR0 hR1
  have hyB:=nv_lt dy
  refine⟨by simp only[mkC];omega,?_⟩
  refine loopE (fun p=>∃ (i:Nat) (rl:List Int),p=((n:Int),(v.length:Int),(i:Int),some u,some o,some rl)/\i<=v.length/\rl.length=v.length/\Dig rl/\(∀ j,i<=j->rl.getD j 0=0)/\nv rl=(nv x - nv o*nv y) % 4294967296 ^ i) (fun p=>((v.length:Int) - p.2.2.1).toNat) ⟨0,List.replicate v.length 0,?_,by omega,by simp,Dig.rep _,?_,?_⟩ ?_
  . simp only[repS,szSl,Int.toNat_natCast,Option.getD_some,List.length_replicate];rfl
  . intro j _
    rcases Nat.lt_or_ge j v.length with h | h
    . simp[List.getD,h]
    . simp[List.getD,Nat.not_lt.2 h]
  . rw[q1U];simp[Int.emod_one]
  rintro _ ⟨i,rl,rfl,hi,hrl,drl,zrl,vrl⟩
  dsimp only
  refine q00.2 ⟨fun hb=>?_,fun hb=>?_⟩
  . have hb:(i:Int)<(v.length:Int):=dec_t hb
    have f2:IntKind.wrap IntKind.i64 ((i:Int)+1)=((i+1:Nat):Int):=by rw[wi64 (by omega) (by omega)];omega
    have g0:=ud.get i
    have g1:=ud.get (i+1)
    have es:shlI IntKind.u64 (u.getD (i+1) 0) 32=u.getD (i+1) 0*4294967296:=by rw[q3P,Int.emod_eq_of_lt (by omega) (by omega)]
    have eo:bitI BinOp.or IntKind.u64 (u.getD i 0) (u.getD (i+1) 0*4294967296)=u.getD i 0+u.getD (i+1) 0*4294967296:=or64 32 g0.1 (by omega) g1.1 (by omega)
    have ew:IntKind.wrap IntKind.u32 (shrI IntKind.u64 (u.getD i 0+u.getD (i+1) 0*4294967296) (n:Int))=(nv x - nv o*nv y) / 4294967296 ^ i % 4294967296:=by
     rw[wu32m,shr64 _ _ (by omega),Int.mul_comm (u.getD (i+1) 0)]
     exact q9j ud hn _ hR
    have h64a:IntKind.wrap IntKind.u64 (u.getD i 0)=u.getD i 0:=wu64 g0.1 (by omega)
    have h64b:IntKind.wrap IntKind.u64 (u.getD (i+1) 0)=u.getD (i+1) 0:=wu64 g1.1 (by omega)
    simp only[f2,inS,eltN,toN,Option.getD_some,Int.toNat_natCast,h64a,h64b,es,eo,ew,setO,Option.map_some]
    refine⟨by omega,by omega,by first | trivial | omega,by omega,by omega,⟨i+1,_,rfl,by omega,by rw[List.length_set];exact hrl,drl.set i (by omega) (by omega),?_,rest_step (by omega) (zrl i (Nat.le_refl _)) vrl rfl⟩,by omega⟩
    intro j hj;rw[q0X (by omega)];exact zrl j (by omega)
  . have hb:¬ (i:Int)<(v.length:Int):=dec_f hb
    obtain rfl:i=v.length:=by omega
    rw[hlv,<-hm,Int.emod_eq_of_lt hR0 (by omega)] at vrl
    refine⟨⟨o,rfl,od,d1,by omega⟩,rl,rfl,drl,by rw[vrl,d2],by omega⟩
end Go.Proofs.Pf
namespace Go.Proofs.Pf
open Go Go.VM
set_option maxRecDepth 100000
def q8c:Ann:=let x:Shape:=⟨[(2,.ref 2 0),(3,.ref 3 0),(4,.ref 4 0)],[.box 2 tRI,.box 3 tRI,.box 4 tRR]⟩;(.s (.seq (.s (.cond (some x) .nil .nil)) (.s (.seq (.s (.cond (some x) .nil .nil)) .nil))))
theorem qax {Q:DRR->Prop} (a:DRI) (b:DRI) (hQ:∃ r,Q r) (h:
 (callV Pg q0n [⟨tRI,b⟩] tI (fun p0=>joinV (DRI×DRI×DRR) (fun (i,j,k)=>callV Pg q3g [⟨tRI,i⟩,⟨tRI,j⟩] tRI (fun p2=>callV Pg q0F [⟨tI,(1:Int)⟩] tRI (fun p3=>callV Pg q3h [⟨tRI,p2⟩,⟨tRI,p3⟩] tI (fun p4=>joinV (DRI×DRI×DRR) (fun (l,m,_)=>Q (l,m)) (fun k5=>brV (notB (decide (p4=(0:Int)))) (callV Pg q2p [⟨tRI,i⟩,⟨tRI,p2⟩] (.tup (.pair tRI (.pair tRI .unit))) (fun p6=>callV Pg q2p [⟨tRI,j⟩,⟨tRI,p2⟩] (.tup (.pair tRI (.pair tRI .unit))) (fun p7=>k5 (p6.1,p7.1,k)))) (k5 (i,j,k))))))) (fun k1=>brV (decide (p0<(0:Int))) (callV Pg q1s [⟨tRI,a⟩] tRI (fun p2=>callV Pg q1s [⟨tRI,b⟩] tRI (fun p3=>k1 (p2,p3,z0)))) (k1 (a,b,z0)))))):
 callV Pg q4x [⟨tRI,a⟩,⟨tRI,b⟩] tRR Q:=
 q02 (c:=q01 Tryz.f62) (ann:=q8c) Tryz.func62 rfl Tryz.call62 rfl rfl hQ (kcast (by kernel_rfl) h)
def q8e:Ann:=.nil
theorem qaz {Q:Int->Prop} (a:DRR) (b:DRR) (hQ:∃ r,Q r) (h:
 (callV Pg q4z [⟨tRR,a⟩,⟨tRR,b⟩] tRR (fun p0=>callV Pg q4B [⟨tRR,p0⟩] tI (fun p1=>Q p1)))):
 callV Pg q4y [⟨tRR,a⟩,⟨tRR,b⟩] tI Q:=
 q02 (c:=q01 Tryz.f38) (ann:=q8e) Tryz.func38 rfl Tryz.call38 rfl rfl hQ (kcast (by kernel_rfl) h)
def q8f:Ann:=.nil
theorem qaA {Q:DRR->Prop} (a:DRR) (b:DRR) (hQ:∃ r,Q r) (h:
 (callV Pg q4A [⟨tRR,b⟩] tRR (fun p0=>callV Pg q3j [⟨tRR,a⟩,⟨tRR,p0⟩] tRR (fun p1=>Q p1)))):
 callV Pg q4z [⟨tRR,a⟩,⟨tRR,b⟩] tRR Q:=
 q02 (c:=q01 Tryz.f65) (ann:=q8f) Tryz.func65 rfl Tryz.call65 rfl rfl hQ (kcast (by kernel_rfl) h)
def q8g:Ann:=.nil
theorem qaB {Q:DRR->Prop} (a:DRR) (hQ:∃ r,Q r) (h:
 (callV Pg q1s [⟨tRI,a.1⟩] tRI (fun p0=>Q (p0,a.2)))):
 callV Pg q4A [⟨tRR,a⟩] tRR Q:=
 q02 (c:=q01 Tryz.f97) (ann:=q8g) Tryz.func97 rfl Tryz.call97 rfl rfl hQ (kcast (by kernel_rfl) h)
def q8h:Ann:=.nil
theorem qaC {Q:DRR->Prop} (a:DRR) (b:DRR) (hQ:∃ r,Q r) (h:
 (callV Pg q2q [⟨tRI,a.1⟩,⟨tRI,b.2⟩] tRI (fun p0=>callV Pg q2q [⟨tRI,b.1⟩,⟨tRI,a.2⟩] tRI (fun p1=>callV Pg q3i [⟨tRI,p0⟩,⟨tRI,p1⟩] tRI (fun p2=>callV Pg q2q [⟨tRI,a.2⟩,⟨tRI,b.2⟩] tRI (fun p3=>callV Pg q4x [⟨tRI,p2⟩,⟨tRI,p3⟩] tRR (fun p4=>Q p4))))))):
 callV Pg q3j [⟨tRR,a⟩,⟨tRR,b⟩] tRR Q:=
 q02 (c:=q01 Tryz.f36) (ann:=q8h) Tryz.func36 rfl Tryz.call36 rfl rfl hQ (kcast (by kernel_rfl) h)
def q8i:Ann:=.nil
theorem qaD {Q:Int->Prop} (a:DRR) (hQ:∃ r,Q r) (h:
 (callV Pg q0n [⟨tRI,a.1⟩] tI (fun p0=>Q p0))):
 callV Pg q4B [⟨tRR,a⟩] tI Q:=
 q02 (c:=q01 Tryz.f66) (ann:=q8i) Tryz.func66 rfl Tryz.call66 rfl rfl hQ (kcast (by kernel_rfl) h)
def q8j:Ann:=.nil
theorem qaE {Q:DRR->Prop} (a:(Int×Int)) (hQ:∃ r,Q r) (h:
 (callV Pg q0F [⟨tI,a.1⟩] tRI (fun p0=>callV Pg q0F [⟨tI,a.2⟩] tRI (fun p1=>Q (p0,p1))))):
 callV Pg q4C [⟨tNum,a⟩] tRR Q:=
 q02 (c:=q01 Tryz.f37) (ann:=q8j) Tryz.func37 rfl Tryz.call37 rfl rfl hQ (kcast (by kernel_rfl) h)
def q8k:Ann:=(.s (.seq (.seq (.reg [] [] (some ⟨[(1,.ref 1 0)],[.var 20 .bool,.box 1 tNum]⟩)) .nil) .nil))
theorem qaF {Q:Bool->Prop} (a:(Int×Int)) (hQ:∃ r,Q r) (h:
 (joinV (Bool×Int×Int) (fun (i,j,k)=>brV i (Q false) (callV Pg q0F [⟨tI,j⟩] tRI (fun p1=>callV Pg q0F [⟨tI,k⟩] tRI (fun p2=>callV Pg q3g [⟨tRI,p1⟩,⟨tRI,p2⟩] tRI (fun p3=>callV Pg q0F [⟨tI,(1:Int)⟩] tRI (fun p4=>callV Pg q3h [⟨tRI,p3⟩,⟨tRI,p4⟩] tI (fun p5=>Q (decide (p5=(0:Int)))))))))) (fun k0=>brV (decide (a.2<(1:Int))) (k0 (true,a)) (brV (decide ((1152921504606846976:Int)<a.2)) (k0 (true,a)) (brV (decide ((1152921504606846976:Int)<a.1)) (k0 (true,a)) (k0 (decide (a.1<(-(1152921504606846976:Int))),a))))))):
 callV Pg q1M [⟨tNum,a⟩] .bool Q:=
 q02 (c:=q01 Tryz.f34) (ann:=q8k) Tryz.func34 rfl Tryz.call34 rfl rfl hQ (kcast (by kernel_rfl) h)
def q8l:Ann:=.nil
theorem qaG {Q:DRR->Prop} (a:Int) (hQ:∃ r,Q r) (h:
 (callV Pg q0F [⟨tI,a⟩] tRI (fun p0=>callV Pg q0F [⟨tI,(1:Int)⟩] tRI (fun p1=>Q (p0,p1))))):
 callV Pg q3k [⟨tI,a⟩] tRR Q:=
 q02 (c:=q01 Tryz.f35) (ann:=q8l) Tryz.func35 rfl Tryz.call35 rfl rfl hQ (kcast (by kernel_rfl) h)
end Go.Proofs.Pf
namespace Go.Proofs.Pf
open Go Go.VM
set_option maxRecDepth 100000
def q7X:Ann:=(.s (.s (.seq (.seq (.reg [] [] (some ⟨[(1,.ref 1 0)],[.var 3 tI,.var 16 .bool,.box 1 tMo]⟩)) .nil) (.seq (.s (.blk none (.loop ⟨[],[.var 3 tI,.var 18 (.sl tSt),.var 19 tI,.var 20 tI]⟩ (.s (.s (.seq (.blk none (.s (.seq (.seq (.reg [] [] (some ⟨[(5,.ref 5 0)],[.var 3 tI,.var 18 (.sl tSt),.var 19 tI,.var 20 tI,.var 53 .bool,.box 5 tSt]⟩)) .nil) (.s (.blk none (.loop ⟨[],[.var 3 tI,.var 18 (.sl tSt),.var 19 tI,.var 20 tI,.var 55 (.sl tCh),.var 56 tI,.var 57 tI]⟩ .nil)))))) .nil)))))) .nil))))
theorem qaj {Q:Bool->Prop} (a:DMo) (hQ:∃ r,Q r) (h:
 (joinV (Int×Bool×DMo) (fun (i,j,k)=>brV j (Q false) (loopV (Int×DMo×Int×Int) (fun k1  (l,m,n,o)=>brV (decide (o<n)) (inS m o/\joinV (Int×DMo×Int×Int×Bool×DSt) (fun (p,q,r,s,t,u)=>brV t (Q false) (loopV (Int×DMo×Int×Int×Option (List DCh)×Int×Int) (fun k4  (v,w,x,y,z,e,f)=>brV (decide (f<e)) (inS z f/\callV Pg q4t [⟨tI,v⟩,⟨tCh,eltS (((0:Int),(0:Int)),none) z f⟩] .bool (fun p6=>brV (notB p6) (Q false) (k4 (v,w,x,y,z,e,IntKind.wrap IntKind.i64 (f+(1:Int)))))) (k1 (v,w,x,IntKind.wrap IntKind.i64 (y+(1:Int))))) (p,q,r,s,u.2.2,szSl u.2.2,(0:Int)))) (fun k3=>brV (decide ((eltS ((0:Int),(0:Int),none) m o).1<(0:Int))) (k3 (l,m,n,o,true,eltS ((0:Int),(0:Int),none) m o)) (brV (decide ((1:Int)<(eltS ((0:Int),(0:Int),none) m o).1)) (k3 (l,m,n,o,true,eltS ((0:Int),(0:Int),none) m o)) (brV (decide ((eltS ((0:Int),(0:Int),none) m o).2.1<(0:Int))) (k3 (l,m,n,o,true,eltS ((0:Int),(0:Int),none) m o)) (brV (decide ((63:Int)<(eltS ((0:Int),(0:Int),none) m o).2.1)) (k3 (l,m,n,o,true,eltS ((0:Int),(0:Int),none) m o)) (brV (decide ((szSl (eltS ((0:Int),(0:Int),none) m o).2.2)<(1:Int))) (k3 (l,m,n,o,true,eltS ((0:Int),(0:Int),none) m o)) (k3 (l,m,n,o,decide ((8:Int)<(szSl (eltS ((0:Int),(0:Int),none) m o).2.2)),eltS ((0:Int),(0:Int),none) m o)))))))) (Q true)) (i,k,szSl k,(0:Int)))) (fun k0=>brV (decide ((szSl a)<(1:Int))) (k0 (szSl a,true,a)) (k0 (szSl a,decide ((40:Int)<(szSl a)),a))))):
 callV Pg q3e [⟨tMo,a⟩] .bool Q:=
 q02 (c:=q01 Tryz.f15) (ann:=q7X) Tryz.func15 rfl Tryz.call15 rfl rfl hQ (kcast (by kernel_rfl) h)
def q7Y:Ann:=(.s (.seq (.seq (.reg [] [] (some ⟨[(3,.ref 3 0)],[.var 0 tI,.var 24 .bool,.box 3 tCh]⟩)) .nil) (.s (.s (.seq (.s (.blk none (.loop ⟨[(5,.ref 5 0)],[.var 0 tI,.var 6 tI,.var 26 (.sl tBr),.var 27 tI,.var 28 tI,.box 5 tER]⟩ (.s (.s (.seq (.blk none (.s (.seq (.seq (.reg [] [] (some ⟨[(5,.ref 5 0),(8,.ref 8 0)],[.var 0 tI,.var 26 (.sl tBr),.var 27 tI,.var 28 tI,.var 53 .bool,.box 5 tER,.box 8 tBr]⟩)) .nil) .nil))) .nil)))))) .nil)))))
theorem qak {Q:Bool->Prop} (a:Int) (b:DCh) (hQ:∃ r,Q r) (h:
 (joinV (Int×Bool×DCh) (fun (i,j,k)=>brV j (Q false) (loopV (Int×Int×Option (List DBr)×Int×Int×DR) (fun k1  (l,m,n,o,p,q)=>brV (decide (p<o)) (inS n p/\joinV (Int×Option (List DBr)×Int×Int×Bool×DR×DBr) (fun (r,s,t,u,v,w,x)=>brV v (Q false) (callV Pg q4u [⟨tNum,x.2⟩] tER (fun p4=>callV Pg q37 [⟨tER,w⟩,⟨tER,p4⟩] tER (fun p5=>k1 (r,x.1,s,t,IntKind.wrap IntKind.i64 (u+(1:Int)),p5))))) (fun k3=>brV (decide ((eltS ((0:Int),(0:Int),(0:Int)) n p).1<=m)) (k3 (l,n,o,p,true,q,eltS ((0:Int),(0:Int),(0:Int)) n p)) (brV (decide (l<=(eltS ((0:Int),(0:Int),(0:Int)) n p).1)) (k3 (l,n,o,p,true,q,eltS ((0:Int),(0:Int),(0:Int)) n p)) (callV Pg q2o [⟨tNum,(eltS ((0:Int),(0:Int),(0:Int)) n p).2⟩] .bool (fun p4=>brV (notB p4) (k3 (l,n,o,p,true,q,eltS ((0:Int),(0:Int),(0:Int)) n p)) (k3 (l,n,o,p,decide ((eltS ((0:Int),(0:Int),(0:Int)) n p).2.1<=(0:Int)),q,eltS ((0:Int),(0:Int),(0:Int)) n p))))))) (callV Pg q4c [⟨tI,(1:Int)⟩] tER (fun p3=>callV Pg q48 [⟨tER,q⟩,⟨tER,p3⟩] tI (fun p4=>Q (decide (p4=(0:Int))))))) (i,-(1:Int),k.2,szSl k.2,(0:Int),r0))) (fun k0=>callV Pg q2o [⟨tNum,b.1⟩] .bool (fun p1=>brV (notB p1) (k0 (a,true,b)) (brV (decide ((szSl b.2)<(1:Int))) (k0 (a,true,b)) (k0 (a,decide ((8:Int)<(szSl b.2)),b))))))):
 callV Pg q4t [⟨tI,a⟩,⟨tCh,b⟩] .bool Q:=
 q02 (c:=q01 Tryz.f26) (ann:=q7Y) Tryz.func26 rfl Tryz.call26 rfl rfl hQ (kcast (by kernel_rfl) h)
end Go.Proofs.Pf
namespace Go.Proofs.Pf
open Go Go.VM
set_option maxRecDepth 100000
def q8z:Ann:=(.s (.seq (.seq (.reg [] [] (some ⟨[(1,.ref 1 0)],[.var 16 .bool,.box 1 tMo]⟩)) .nil) (.seq (.s (.blk none (.loop ⟨[(1,.ref 1 0)],[.var 18 (.sl tSt),.var 19 tI,.var 20 tI,.box 1 tMo]⟩ (.s (.s (.seq (.blk none (.s (.seq (.seq (.reg [] [] (some ⟨[(1,.ref 1 0),(4,.ref 4 0)],[.var 18 (.sl tSt),.var 19 tI,.var 20 tI,.var 53 .bool,.box 1 tMo,.box 4 tSt]⟩)) .nil) (.s (.blk none (.loop ⟨[(1,.ref 1 0)],[.var 18 (.sl tSt),.var 19 tI,.var 20 tI,.var 55 (.sl tCh),.var 56 tI,.var 57 tI,.box 1 tMo]⟩ .nil)))))) .nil)))))) .nil)))
theorem qaU {Q:Bool->Prop} (a:DMo) (hQ:∃ r,Q r) (h:
 (joinV (Bool×DMo) (fun (i,j)=>brV i (Q false) (loopV (DMo×Int×Int×DMo) (fun k1  (k,l,m,n)=>brV (decide (m<l)) (inS k m/\joinV (DMo×Int×Int×Bool×DMo×DSt) (fun (o,p,q,r,s,t)=>brV r (Q false) (loopV (DMo×Int×Int×Option (List DCh)×Int×Int×DMo) (fun k4  (u,v,w,x,y,z,e)=>brV (decide (z<y)) (inS x z/\callV Pg q4K [⟨tCh,eltS (((0:Int),(0:Int)),none) x z⟩,⟨tI,szSl e⟩] .bool (fun p6=>brV (notB p6) (Q false) (k4 (u,v,w,x,y,IntKind.wrap IntKind.i64 (z+(1:Int)),e)))) (k1 (u,v,IntKind.wrap IntKind.i64 (w+(1:Int)),e))) (o,p,q,t.2.2,szSl t.2.2,(0:Int),s))) (fun k3=>brV (decide ((eltS ((0:Int),(0:Int),none) k m).1<(0:Int))) (k3 (k,l,m,true,n,eltS ((0:Int),(0:Int),none) k m)) (brV (decide ((1:Int)<(eltS ((0:Int),(0:Int),none) k m).1)) (k3 (k,l,m,true,n,eltS ((0:Int),(0:Int),none) k m)) (brV (decide ((eltS ((0:Int),(0:Int),none) k m).2.1<(0:Int))) (k3 (k,l,m,true,n,eltS ((0:Int),(0:Int),none) k m)) (brV (decide ((63:Int)<(eltS ((0:Int),(0:Int),none) k m).2.1)) (k3 (k,l,m,true,n,eltS ((0:Int),(0:Int),none) k m)) (brV (decide ((szSl (eltS ((0:Int),(0:Int),none) k m).2.2)<(1:Int))) (k3 (k,l,m,true,n,eltS ((0:Int),(0:Int),none) k m)) (k3 (k,l,m,decide ((8:Int)<(szSl (eltS ((0:Int),(0:Int),none) k m).2.2)),n,eltS ((0:Int),(0:Int),none) k m)))))))) (Q true)) (j,szSl j,(0:Int),j))) (fun k0=>brV (decide ((szSl a)<(1:Int))) (k0 (true,a)) (k0 (decide ((40:Int)<(szSl a)),a))))):
 callV Pg q4J [⟨tMo,a⟩] .bool Q:=
 q02 (c:=q01 Tryz.f12) (ann:=q8z) Tryz.func12 rfl Tryz.call12 rfl rfl hQ (kcast (by kernel_rfl) h)
def q8A:Ann:=(.s (.seq (.seq (.reg [] [] (some ⟨[(2,.ref 2 0)],[.var 1 tI,.var 23 .bool,.box 2 tCh]⟩)) .nil) (.s (.seq (.s (.blk none (.loop ⟨[(2,.ref 2 0),(5,.ref 5 0)],[.var 1 tI,.var 26 (.sl tBr),.var 27 tI,.var 28 tI,.box 2 tCh,.box 5 tRR]⟩ (.s (.s (.seq (.blk none (.s (.seq (.seq (.reg [] [] (some ⟨[(2,.ref 2 0),(5,.ref 5 0),(7,.ref 7 0)],[.var 1 tI,.var 26 (.sl tBr),.var 27 tI,.var 28 tI,.var 69 .bool,.box 2 tCh,.box 5 tRR,.box 7 tBr]⟩)) .nil) .nil))) .nil)))))) .nil))))
theorem qaV {Q:Bool->Prop} (a:DCh) (b:Int) (hQ:∃ r,Q r) (h:
 (joinV (Int×Bool×DCh) (fun (i,j,k)=>brV j (Q false) (callV Pg q3k [⟨tI,(0:Int)⟩] tRR (fun p1=>loopV (Int×Option (List DBr)×Int×Int×DCh×DRR) (fun k2  (l,m,n,o,p,q)=>brV (decide (o<n)) (inS m o/\joinV (Int×Option (List DBr)×Int×Int×Bool×DCh×DRR×DBr) (fun (r,s,t,u,v,w,x,y)=>brV v (Q false) (callV Pg q4C [⟨tNum,y.2⟩] tRR (fun p5=>callV Pg q3j [⟨tRR,x⟩,⟨tRR,p5⟩] tRR (fun p6=>k2 (r,s,t,IntKind.wrap IntKind.i64 (u+(1:Int)),w,p6))))) (fun k4=>brV (decide ((eltS ((0:Int),(0:Int),(0:Int)) m o).1<(0:Int))) (k4 (l,m,n,o,true,p,q,eltS ((0:Int),(0:Int),(0:Int)) m o)) (brV (decide (l<=(eltS ((0:Int),(0:Int),(0:Int)) m o).1)) (k4 (l,m,n,o,true,p,q,eltS ((0:Int),(0:Int),(0:Int)) m o)) (brV (decide ((0:Int)<o)) (inS p.2 (IntKind.wrap IntKind.i64 (o - (1:Int)))/\brV (decide ((eltS ((0:Int),(0:Int),(0:Int)) m o).1<=(eltS ((0:Int),(0:Int),(0:Int)) p.2 (IntKind.wrap IntKind.i64 (o - (1:Int)))).1)) (k4 (l,m,n,o,true,p,q,eltS ((0:Int),(0:Int),(0:Int)) m o)) (callV Pg q1M [⟨tNum,(eltS ((0:Int),(0:Int),(0:Int)) m o).2⟩] .bool (fun p5=>brV (notB p5) (k4 (l,m,n,o,true,p,q,eltS ((0:Int),(0:Int),(0:Int)) m o)) (k4 (l,m,n,o,decide ((eltS ((0:Int),(0:Int),(0:Int)) m o).2.1<=(0:Int)),p,q,eltS ((0:Int),(0:Int),(0:Int)) m o))))) (callV Pg q1M [⟨tNum,(eltS ((0:Int),(0:Int),(0:Int)) m o).2⟩] .bool (fun p5=>brV (notB p5) (k4 (l,m,n,o,true,p,q,eltS ((0:Int),(0:Int),(0:Int)) m o)) (k4 (l,m,n,o,decide ((eltS ((0:Int),(0:Int),(0:Int)) m o).2.1<=(0:Int)),p,q,eltS ((0:Int),(0:Int),(0:Int)) m o)))))))) (callV Pg q3k [⟨tI,(1:Int)⟩] tRR (fun p4=>callV Pg q4y [⟨tRR,q⟩,⟨tRR,p4⟩] tI (fun p5=>Q (decide (p5=(0:Int))))))) (i,k.2,szSl k.2,(0:Int),k,p1)))) (fun k0=>callV Pg q1M [⟨tNum,a.1⟩] .bool (fun p1=>brV (notB p1) (k0 (b,true,a)) (brV (decide ((szSl a.2)<(1:Int))) (k0 (b,true,a)) (k0 (b,decide ((8:Int)<(szSl a.2)),a))))))):
 callV Pg q4K [⟨tCh,a⟩,⟨tI,b⟩] .bool Q:=
 q02 (c:=q01 Tryz.f25) (ann:=q8A) Tryz.func25 rfl Tryz.call25 rfl rfl hQ (kcast (by kernel_rfl) h)
end Go.Proofs.Pf
namespace Go.Proofs.Pf
open Go Go.VM
def q2g:Lend:=⟨⟨[(0,.ref 1000000000 0)],[.box 1000000000 (.agg (.pair (.cst .nilPtr) (.own 700000))),.arr 700000 (.int .u8)]⟩,⟨[(1000,.ref 1000000000 0)],[.box 1000000000 (.agg (.pair (.ref 1000000000 0) (.own 700000))),.arr 700000 (.int .u8)]⟩,0⟩
def q2X:Lend:=⟨⟨[(0,.ref 1000000000 0)],[.box 1000000000 (.agg (.pair (.ref 1000000000 0) (.own 700000))),.arr 700000 (.int .u8)]⟩,⟨[(1000,.ref 1000000000 0)],[.box 1000000000 (.agg (.pair (.ref 1000000000 0) (.own 700000))),.arr 700000 (.int .u8)]⟩,0⟩
def q2Q:Lend:=⟨⟨[],[.var 0 tMo]⟩,⟨[],[.var 0 (.agg (.own 1000)),.arr 1000 (.agg (.pair tI (.pair tI (.sl (.agg (.pair tNum (.hd 80001))))))),.pool 80001 tBr]⟩,1⟩
def q2R:Lend:=⟨⟨[(1,.cst (.fn q1L))],[.var 0 tMo]⟩,⟨[],[.var 0 (.agg (.own 1000)),.arr 1000 (.agg (.pair tI (.pair tI (.sl (.agg (.pair tNum (.hd 80001))))))),.pool 80001 tBr]⟩,1⟩
def q2S:Lend:=⟨⟨[(0,.own 1000000000),(1,.cst (.fn q06))],[.arr 1000000000 tBr]⟩,⟨[(1000,.own 1000000000)],[.arr 1000000000 tBr]⟩,0⟩
def q2T:Lend:=⟨⟨[(0,.own 1000000000),(3,.cst (.fn q06))],[.var 1 tI,.var 2 tI,.arr 1000000000 tBr]⟩,⟨[(1000,.own 1000000000)],[.arr 1000000000 tBr]⟩,0⟩
def q3V:Lend:=⟨⟨[(0,.own 1000000000),(4,.cst (.fn q06))],[.var 1 tI,.var 2 tI,.var 3 tI,.arr 1000000000 tBr]⟩,⟨[(1000,.own 1000000000)],[.arr 1000000000 tBr]⟩,0⟩
def q2U:Lend:=⟨⟨[(0,.ref 1000000000 0)],[.box 1000000000 (.agg (.pair (.ref 1000000000 0) (.own 700000))),.arr 700000 (.int .u8)]⟩,⟨[(1000,.ref 1000000000 0)],[.var 0 tI,.box 1000000000 (.agg (.pair (.ref 1000000000 0) (.own 501000))),.arr 501000 (.int .u8)]⟩,1⟩
def q2V:Lend:=⟨⟨[(0,.ref 1000000000 0)],[.box 1000000000 (.agg (.pair (.ref 1000000000 0) (.own 700000))),.arr 700000 (.int .u8)]⟩,⟨[(1000,.ref 1000000000 0)],[.var 0 (.str),.box 1000000000 (.agg (.pair (.ref 1000000000 0) (.own 700000)))]⟩,1⟩
def q2W:Lend:=⟨⟨[(0,.ref 1000000000 0)],[.var 1 (.str),.box 1000000000 (.agg (.pair (.cst .nilPtr) (.own 700000))),.arr 700000 (.int .u8)]⟩,⟨[(1,.cst .nilIf),(1000,.ref 1000000000 0)],[.var 0 tI,.box 1000000000 (.agg (.pair (.ref 1000000000 0) (.own 501000))),.arr 501000 (.int .u8)]⟩,2⟩
def q0y:Lend:=⟨⟨[(0,.ref 1000000000 0)],[.var 1 (.str),.box 1000000000 (.agg (.pair (.ref 1000000000 0) (.own 700000))),.arr 700000 (.int .u8)]⟩,⟨[(1,.cst .nilIf),(1000,.ref 1000000000 0)],[.var 0 tI,.box 1000000000 (.agg (.pair (.ref 1000000000 0) (.own 501000))),.arr 501000 (.int .u8)]⟩,2⟩
end Go.Proofs.Pf
namespace Go.Proofs.Pf
open Go Go.VM
set_option maxRecDepth 100000
def q8H:Ann:=(.s (.seq (.regL [] [] [(1,q2g)] none) .nil))
theorem qb2 {Q:(Int×((Unit×Unit)×DL))->Prop} (a:ByteArray) (b:(Unit×Unit)) (c:DL) (hQ:∃ r,Q r) (h:
 (lendV Pg q3p 1 q2g ((b.1,()),c) (fun p0=>appC 1 p0.2 (lst (some (bytesI a)))/\Q (szStr a,((),()),appL p0.2 (lst (some (bytesI a))))))):
 lendV Pg q0O 2 q2W (a,b,c) Q:=
 q10 (c:=q01 Tryz.f19) (ann:=q8H) Tryz.func19 rfl Tryz.call19 rfl hQ rfl (kcast (by kernel_rfl) h)
def q8I:Ann:=(.s (.seq (.regL [] [] [(1,q2X)] none) .nil))
theorem qb3 {Q:(Int×((Unit×Unit)×DL))->Prop} (a:ByteArray) (b:(Unit×Unit)) (c:DL) (hQ:∃ r,Q r) (h:
 (lendV Pg q3p 1 q2X (((),()),c) (fun p0=>appC 1 p0.2 (lst (some (bytesI a)))/\Q (szStr a,((),()),appL p0.2 (lst (some (bytesI a))))))):
 lendV Pg q0O 2 q0y (a,b,c) Q:=
 q10 (c:=q01 Tryz.f19) (ann:=q8I) Tryz.func19 rfl Tryz.call19 rfl hQ rfl (kcast (by kernel_rfl) h)
def q8F:Ann:=.nil
theorem qb0 {Q:(Int×((Unit×Unit)×DL))->Prop} (a:(Unit×Unit)) (b:DL) (hQ:∃ r,Q r) (h:
 (Q (szSl b,((),()),b))):
 lendV Pg q4O 1 q2U (a,b) Q:=
 q10 (c:=q01 Tryz.f22) (ann:=q8F) Tryz.func22 rfl Tryz.call22 rfl hQ rfl (kcast (by kernel_rfl) h)
def q8G:Ann:=.nil
theorem qb1 {Q:(ByteArray×(Unit×Unit))->Prop} (a:(Unit×Unit)) (b:DL) (hQ:∃ r,Q r) (h:
 (((0:Int)<(szSl b))/\ustrC b 0 (szSl b)/\Q (strOf b,(),()))):
 lendV Pg q4P 1 q2V (a,b) Q:=
 q10 (c:=q01 Tryz.f23) (ann:=q8G) Tryz.func23 rfl Tryz.call23 rfl hQ rfl (kcast (by kernel_rfl) h)
def q7U:Ann:=(.s (.s (.s (.seq (.regL [] [] [(6,q2W)] none) (.seq (.s (.blk none (.loop ⟨[(4,.ref 4 0)],[.var 26 (.sl tSt),.var 27 tI,.var 28 tI,.box 4 (.agg (.pair (.ref 4 0) (.own 1004))),.arr 1004 (.int .u8)]⟩ (.s (.s (.seq (.blk none (.s (.seq (.regL [] [] [(10,q0y)] none) (.s (.blk none (.loop ⟨[(4,.ref 4 0)],[.var 26 (.sl tSt),.var 27 tI,.var 28 tI,.var 44 (.sl tCh),.var 45 tI,.var 46 tI,.box 4 (.agg (.pair (.ref 4 0) (.own 1004))),.arr 1004 (.int .u8)]⟩ (.s (.s (.seq (.blk none (.s (.s (.seq (.regL [] [] [(3,q0y)] none) (.seq (.s (.blk none (.loop ⟨[(4,.ref 4 0)],[.var 26 (.sl tSt),.var 27 tI,.var 28 tI,.var 44 (.sl tCh),.var 45 tI,.var 46 tI,.var 61 (.sl tBr),.var 62 tI,.var 63 tI,.box 4 (.agg (.pair (.ref 4 0) (.own 1004))),.arr 1004 (.int .u8)]⟩ (.s (.s (.seq (.blk none (.s (.seq (.s (.cond (some ⟨[(4,.ref 4 0),(12,.ref 12 0)],[.var 26 (.sl tSt),.var 27 tI,.var 28 tI,.var 44 (.sl tCh),.var 45 tI,.var 46 tI,.var 61 (.sl tBr),.var 62 tI,.var 63 tI,.box 4 (.agg (.pair (.ref 4 0) (.own 1004))),.box 12 tBr,.arr 1004 (.int .u8)]⟩) (.regL [] [] [(0,q0y)] none) .nil)) (.s (.regL [] [] [(7,q0y)] none))))) .nil)))))) (.regL [] [] [(0,q0y)] none)))))) .nil))))))))) .nil)))))) (.seq (.seq (.regL [] [] [(0,q2U)] none) .nil) (.seq (.regL [] [] [(0,q2V)] none) .nil)))))))
theorem qag {Q:(ByteArray×(Int×Unit))->Prop} (a:DMo) (hQ:∃ r,Q r) (h:
 (callV Pg q3e [⟨tMo,a⟩] .bool (fun p0=>brV (notB p0) (Q (bytesL [],(1:Int),())) (callV Pg q1t [⟨tI,szSl a⟩] .str (fun p1=>catC (bytesL [109,111,100,101,108,32]) p1/\catC (catS (bytesL [109,111,100,101,108,32]) p1) (bytesL [10])/\lendV Pg q0O 2 q2W (catS (catS (bytesL [109,111,100,101,108,32]) p1) (bytesL [10]),((),()),none) (fun p2=>loopV (DMo×Int×Int×(Unit×Unit)×DL) (fun k3  (i,j,k,_,l)=>brV (decide (k<j)) (inS i k/\callV Pg q1t [⟨tI,(eltS ((0:Int),(0:Int),none) i k).1⟩] .str (fun p5=>catC (bytesL [115,116,97,116,101,32]) p5/\catC (catS (bytesL [115,116,97,116,101,32]) p5) (bytesL [32])/\callV Pg q1t [⟨tI,(eltS ((0:Int),(0:Int),none) i k).2.1⟩] .str (fun p6=>catC (catS (catS (bytesL [115,116,97,116,101,32]) p5) (bytesL [32])) p6/\catC (catS (catS (catS (bytesL [115,116,97,116,101,32]) p5) (bytesL [32])) p6) (bytesL [10])/\lendV Pg q0O 2 q0y (catS (catS (catS (catS (bytesL [115,116,97,116,101,32]) p5) (bytesL [32])) p6) (bytesL [10]),((),()),l) (fun p7=>loopV (DMo×Int×Int×Option (List DCh)×Int×Int×(Unit×Unit)×DL) (fun k8  (m,n,o,p,q,r,_,s)=>brV (decide (r<q)) (inS p r/\callV Pg q3f [⟨tNum,(eltS (((0:Int),(0:Int)),none) p r).1⟩] (.tup (.pair .str (.pair tI .unit))) (fun p10=>catC (bytesL [99,104,111,105,99,101,32]) p10.1/\catC (catS (bytesL [99,104,111,105,99,101,32]) p10.1) (bytesL [58])/\lendV Pg q0O 2 q0y (catS (catS (bytesL [99,104,111,105,99,101,32]) p10.1) (bytesL [58]),((),()),s) (fun p11=>loopV (DMo×Int×Int×Option (List DCh)×Int×Int×Option (List DBr)×Int×Int×(Unit×Unit)×DL) (fun k12  (t,u,v,w,x,y,z,e,f,_,g)=>brV (decide (f<e)) (inS z f/\joinV (DMo×Int×Int×Option (List DCh)×Int×Int×Option (List DBr)×Int×Int×(Unit×Unit)×DBr×DL) (fun (b,c,d,A,B,C,D,E,F,_,G,H)=>callV Pg q3f [⟨tNum,G.2⟩] (.tup (.pair .str (.pair tI .unit))) (fun p15=>callV Pg q1t [⟨tI,G.1⟩] .str (fun p16=>catC (bytesL [32]) p16/\catC (catS (bytesL [32]) p16) (bytesL [32])/\catC (catS (catS (bytesL [32]) p16) (bytesL [32])) p15.1/\lendV Pg q0O 2 q0y (catS (catS (catS (bytesL [32]) p16) (bytesL [32])) p15.1,((),()),H) (fun p17=>k12 (b,c,d,A,B,C,D,E,IntKind.wrap IntKind.i64 (F+(1:Int)),((),()),p17.2.2))))) (fun k14=>brV (decide ((0:Int)<f)) (lendV Pg q0O 2 q0y (bytesL [44],((),()),g) (fun p15=>k14 (t,u,v,w,x,y,z,e,f,((),()),eltS ((0:Int),(0:Int),(0:Int)) z f,p15.2.2))) (k14 (t,u,v,w,x,y,z,e,f,((),()),eltS ((0:Int),(0:Int),(0:Int)) z f,g)))) (lendV Pg q0O 2 q0y (bytesL [10],((),()),g) (fun p14=>k8 (t,u,v,w,x,IntKind.wrap IntKind.i64 (y+(1:Int)),((),()),p14.2.2)))) (m,n,o,p,q,r,(eltS (((0:Int),(0:Int)),none) p r).2,szSl (eltS (((0:Int),(0:Int)),none) p r).2,(0:Int),((),()),p11.2.2)))) (k3 (m,n,IntKind.wrap IntKind.i64 (o+(1:Int)),((),()),s))) (i,j,k,(eltS ((0:Int),(0:Int),none) i k).2.2,szSl (eltS ((0:Int),(0:Int),none) i k).2.2,(0:Int),((),()),p7.2.2))))) (lendV Pg q4O 1 q2U (((),()),l) (fun p5=>brV (decide ((32768:Int)<p5.1)) (Q (bytesL [],(3:Int),())) (lendV Pg q4P 1 q2V (((),()),p5.2.2) (fun p6=>Q (p6.1,(0:Int),())))))) (a,szSl a,(0:Int),((),()),p2.2.2))))))):
 callV Pg q4s [⟨tMo,a⟩] (.tup (.pair .str (.pair tI .unit))) Q:=
 q02 (c:=q01 Tryz.f10) (ann:=q7U) Tryz.func10 rfl Tryz.call10 rfl rfl hQ (kcast (by kernel_rfl) h)
end Go.Proofs.Pf
namespace Go.Proofs.Pf
open Go Go.VM
set_option maxRecDepth 100000
def q7F:Ann:=let x:Shape:=⟨[],[]⟩;(.s (.seq (.regL [] [(16,([6,15],false)),(23,([22],false)),(30,([29],false)),(32,([17,24,31],false))] [(4,⟨⟨[(0,.ref 0 0)],[.var 1 tNum,.var 3 tBr,.var 4 tNum,.box 0 tMo]⟩,x,1000⟩),(8,⟨⟨[(0,.ref 0 0)],[.var 7 (.agg (.pair tNum (.own 6))),.var 8 tNum,.box 0 tMo,.arr 6 tBr]⟩,x,1000⟩),(12,⟨⟨[(0,.ref 0 0)],[.var 7 (.agg (.pair tNum (.own 6))),.var 8 tNum,.var 10 tBr,.var 12 tBr,.box 0 tMo,.arr 6 tBr]⟩,x,1000⟩),(16,⟨⟨[(0,.ref 0 0)],[.var 7 (.agg (.pair tNum (.own 6))),.var 16 (.agg (.pair tNum (.own 15))),.box 0 tMo,.arr 6 tBr,.arr 15 tBr]⟩,x,1000⟩),(20,⟨⟨[(0,.ref 0 0)],[.var 18 (.agg (.pair tI (.pair tI (.own 17)))),.var 19 tNum,.var 20 tNum,.box 0 tMo,.arr 17 tCh]⟩,x,1000⟩),(24,⟨⟨[(0,.ref 0 0),(24,.own 24)],[.var 18 (.agg (.pair tI (.pair tI (.own 17)))),.box 0 tMo,.arr 17 tCh,.arr 24 tCh]⟩,x,1000⟩),(28,⟨⟨[(0,.ref 0 0)],[.var 18 (.agg (.pair tI (.pair tI (.own 17)))),.var 25 (.agg (.pair tI (.pair tI (.own 24)))),.var 26 tNum,.var 28 tBr,.box 0 tMo,.arr 17 tCh,.arr 24 tCh]⟩,x,1000⟩),(32,⟨⟨[(0,.ref 0 0)],[.var 18 (.agg (.pair tI (.pair tI (.own 17)))),.var 25 (.agg (.pair tI (.pair tI (.own 24)))),.var 32 (.agg (.pair tI (.pair tI (.own 31)))),.box 0 tMo,.arr 17 tCh,.arr 24 tCh,.arr 31 tCh]⟩,x,1000⟩)] none) .nil))
theorem qa1 {Q:DMo->Prop} (hQ:∃ r,Q r) (h:
 (callV Pg q0t [⟨tI,(0:Int)⟩,⟨tI,(1:Int)⟩] tNum (fun p0=>callV Pg q0t [⟨tI,(2:Int)⟩,⟨tI,(3:Int)⟩] tNum (fun p1=>callV Pg q0t [⟨tI,(1:Int)⟩,⟨tI,(3:Int)⟩] tNum (fun p2=>joinV ((Int×Int)×DBr×(Int×Int)×DMo) (fun (i,j,k,l)=>callV Pg q0t [⟨tI,(0:Int)⟩,⟨tI,(1:Int)⟩] tNum (fun p4=>joinV (((Int×Int)×Unit)×(Int×Int)×DMo×Option (List DBr)) (fun (m,n,o)=>callV Pg q0t [⟨tI,(1:Int)⟩,⟨tI,(2:Int)⟩] tNum (fun p6=>callV Pg q0t [⟨tI,(1:Int)⟩,⟨tI,(4:Int)⟩] tNum (fun p7=>joinV (((Int×Int)×Unit)×(Int×Int)×DBr×DBr×DMo×Option (List DBr)) (fun (p,q,r,s,t,u)=>callV Pg q0t [⟨tI,(1:Int)⟩,⟨tI,(4:Int)⟩] tNum (fun p9=>joinV (((Int×Int)×Unit)×((Int×Int)×Unit)×DMo×Option (List DBr)×Option (List DBr)) (fun (v,w,x,y,z)=>callV Pg q0t [⟨tI,(0:Int)⟩,⟨tI,(1:Int)⟩] tNum (fun p11=>callV Pg q0t [⟨tI,(1:Int)⟩,⟨tI,(1:Int)⟩] tNum (fun p12=>joinV ((Int×Int×Unit)×(Int×Int)×(Int×Int)×DMo×Option (List DCh)) (fun (e,f,g,a,b)=>joinV ((Int×Int×Unit)×DMo×Option (List DCh)×Option (List DCh)) (fun (c,d)=>callV Pg q0t [⟨tI,(0:Int)⟩,⟨tI,(1:Int)⟩] tNum (fun p15=>callV Pg q0t [⟨tI,(1:Int)⟩,⟨tI,(1:Int)⟩] tNum (fun p16=>joinV ((Int×Int×Unit)×(Int×Int×Unit)×(Int×Int)×DBr×DMo×Option (List DCh)×Option (List DCh)) (fun (A,B,C,D,E,F,G)=>joinV ((Int×Int×Unit)×(Int×Int×Unit)×(Int×Int×Unit)×DMo×Option (List DCh)×Option (List DCh)×Option (List DCh)) (fun (H,I,J,_,K,L,M)=>Q (some [(H.1,H.2.1,K),(I.1,I.2.1,L),(J.1,J.2.1,M)])) (fun k18=>k18 ((A.1,A.2.1,()),(B.1,B.2.1,()),((0:Int),(1:Int),()),E,F,G,some [(C,some [D])]))) (fun k17=>k17 ((c.1,c.2.1,()),((0:Int),(0:Int),()),p15,((2:Int),p16),d))))) (fun k14=>k14 ((e.1,e.2.1,()),a,b,some [(f,some [((1:Int),g)])]))) (fun k13=>k13 (((0:Int),(0:Int),()),p11,p12,x,some [(v.1,y),(w.1,z)]))))) (fun k10=>k10 ((p.1,()),(q,()),t,u,some [r,s,((2:Int),p9)])))) (fun k8=>k8 ((m.1,()),n,((0:Int),p6),((1:Int),p7),o))))) (fun k5=>k5 ((i,()),p4,l,some [j,((2:Int),k)])))) (fun k3=>k3 (p0,((1:Int),p1),p2,none))))))):
 callV Pg q4g [] tMo Q:=
 q02 (c:=q01 Tryz.f11) (ann:=q7F) Tryz.func11 rfl Tryz.call11 rfl rfl hQ (kcast (by kernel_rfl) h)
def q7E:Ann:=(.s (.s (.seq (.reg [] [] (some ⟨[],[.var 0 .bool]⟩)) .nil)))
theorem qa0 {Q:Bool->Prop} (hQ:∃ r,Q r) (h:
 (callV Pg q4g [] tMo (fun p0=>callV Pg q4s [⟨tMo,p0⟩] (.tup (.pair .str (.pair tI .unit))) (fun p1=>joinV Bool (fun p2=>Q p2) (fun k2=>brV (decide (p1.2.1=(0:Int))) (k2 (eqStr p1.1 (bytesL [109,111,100,101,108,32,51,10,115,116,97,116,101,32,48,32,48,10,99,104,111,105,99,101,32,48,58,32,49,32,50,47,51,44,32,50,32,49,47,51,10,99,104,111,105,99,101,32,48,58,32,48,32,49,47,50,44,32,49,32,49,47,52,44,32,50,32,49,47,52,10,115,116,97,116,101,32,48,32,48,10,99,104,111,105,99,101,32,48,58,32,49,32,49,10,115,116,97,116,101,32,48,32,49,10,99,104,111,105,99,101,32,48,58,32,50,32,49,10]))) (k2 false)))))):
 callV Pg q2n [] .bool Q:=
 q02 (c:=q01 Tryz.f5) (ann:=q7E) Tryz.func5 rfl Tryz.call5 rfl rfl hQ (kcast (by kernel_rfl) h)
def q7H:Ann:=.nil
theorem qa3 {Q:(Int×Int)->Prop} (a:Int) (b:Int) (hQ:∃ r,Q r) (h:
 (Q (a,b))):
 callV Pg q0t [⟨tI,a⟩,⟨tI,b⟩] tNum Q:=
 q02 (c:=q01 Tryz.f24) (ann:=q7H) Tryz.func24 rfl Tryz.call24 rfl rfl hQ (kcast (by kernel_rfl) h)
def q7G:Ann:=(.s (.seq (.s (.blk none (.loop ⟨[],[.var 5 (.sl tMo),.var 6 tI,.var 7 tI]⟩ .nil))) .nil))
theorem qa2 {Q:Bool->Prop} (a:(Option (List DMo))) (hQ:∃ r,Q r) (h:
 (loopV (Option (List DMo)×Int×Int) (fun k0  (i,j,k)=>brV (decide (k<j)) (inS i k/\callV Pg q4F [⟨tI,(40:Int)⟩,⟨tMo,eltS none i k⟩] .bool (fun p2=>brV (notB p2) (Q false) (k0 (i,j,IntKind.wrap IntKind.i64 (k+(1:Int)))))) (Q true)) (a,szSl a,(0:Int)))):
 callV Pg q4h [⟨(.sl tMo),a⟩] .bool Q:=
 q02 (c:=q01 Tryz.f4) (ann:=q7G) Tryz.func4 rfl Tryz.call4 rfl rfl hQ (kcast (by kernel_rfl) h)
def q8u:Ann:=(.s (.seq (.seq (.reg [] [] (some ⟨[(3,.ref 3 0)],[.var 25 .bool,.box 3 tMo]⟩)) .nil) (.seq (.s (.blk none (.loop ⟨[],[.var 27 (.sl tSt),.var 28 tI,.var 29 tI]⟩ (.s (.s (.seq (.blk none (.s (.s (.s (.blk none (.loop ⟨[],[.var 27 (.sl tSt),.var 28 tI,.var 29 tI,.var 38 (.sl tCh),.var 39 tI,.var 40 tI]⟩ .nil)))))) .nil)))))) .nil)))
theorem qaP {Q:Bool->Prop} (a:Int) (b:DMo) (hQ:∃ r,Q r) (h:
 (joinV (Bool×DMo) (fun (i,j)=>brV i (Q false) (loopV (DMo×Int×Int) (fun k1  (k,l,m)=>brV (decide (m<l)) (inS k m/\brV (decide ((10:Int)<(szSl (eltS ((0:Int),(0:Int),none) k m).2.2))) (Q false) (loopV (DMo×Int×Int×Option (List DCh)×Int×Int) (fun k3  (n,o,p,q,r,s)=>brV (decide (s<r)) (inS q s/\brV (decide ((10:Int)<(szSl (eltS (((0:Int),(0:Int)),none) q s).2))) (Q false) (k3 (n,o,p,q,r,IntKind.wrap IntKind.i64 (s+(1:Int))))) (k1 (n,o,IntKind.wrap IntKind.i64 (p+(1:Int))))) (k,l,m,(eltS ((0:Int),(0:Int),none) k m).2.2,szSl (eltS ((0:Int),(0:Int),none) k m).2.2,(0:Int)))) (Q true)) (j,szSl j,(0:Int)))) (fun k0=>brV (decide (a<(szSl b))) (brV (decide ((szSl b)<=(40:Int))) (k0 (true,b)) (k0 (decide ((45:Int)<(szSl b)),b))) (k0 (decide ((45:Int)<(szSl b)),b))))):
 callV Pg q4F [⟨tI,a⟩,⟨tMo,b⟩] .bool Q:=
 q02 (c:=q01 Tryz.f9) (ann:=q8u) Tryz.func9 rfl Tryz.call9 rfl rfl hQ (kcast (by kernel_rfl) h)
end Go.Proofs.Pf
namespace Go.Proofs.Pf
open Go Go.VM
set_option maxRecDepth 100000
def q8v:Ann:=(.s (.s (.seq (.s (.blk none (.loop ⟨[(3,.ref 3 0)],[.var 21 (.sl tSt),.var 22 tI,.var 23 tI,.box 3 tMo]⟩ (.s (.s (.seq (.blk none (.s (.s (.seq (.seq (.reg [] [] (some ⟨[(3,.ref 3 0),(6,.ref 6 0),(7,.ref 7 0)],[.var 21 (.sl tSt),.var 22 tI,.var 23 tI,.var 53 .bool,.box 3 tMo,.box 6 tSt,.box 7 tSt]⟩)) .nil) (.s (.blk none (.loop ⟨[(3,.ref 3 0),(7,.ref 7 0)],[.var 21 (.sl tSt),.var 22 tI,.var 23 tI,.var 55 (.sl tCh),.var 56 tI,.var 57 tI,.box 3 tMo,.box 7 tSt]⟩ (.s (.s (.seq (.blk none (.s (.s (.seq (.seq (.reg [] [] (some ⟨[(3,.ref 3 0),(7,.ref 7 0),(9,.ref 9 0),(10,.ref 10 0)],[.var 21 (.sl tSt),.var 22 tI,.var 23 tI,.var 55 (.sl tCh),.var 56 tI,.var 57 tI,.var 80 .bool,.box 3 tMo,.box 7 tSt,.box 9 tCh,.box 10 tCh]⟩)) .nil) (.s (.blk none (.loop ⟨[(3,.ref 3 0),(7,.ref 7 0),(10,.ref 10 0)],[.var 21 (.sl tSt),.var 22 tI,.var 23 tI,.var 55 (.sl tCh),.var 56 tI,.var 57 tI,.var 82 (.sl tBr),.var 83 tI,.var 84 tI,.box 3 tMo,.box 7 tSt,.box 10 tCh]⟩ .nil))))))) .nil)))))))))) .nil)))))) .nil)))
theorem qaQ {Q:Bool->Prop} (a:DMo) (b:DMo) (hQ:∃ r,Q r) (h:
 (brV (notB (decide ((szSl a)=(szSl b)))) (Q false) (loopV (DMo×Int×Int×DMo) (fun k0  (i,j,k,l)=>brV (decide (k<j)) (inS i k/\inS l k/\joinV (DMo×Int×Int×Bool×DMo×DSt×DSt) (fun (m,n,o,p,q,r,s)=>brV p (Q false) (loopV (DMo×Int×Int×Option (List DCh)×Int×Int×DMo×DSt) (fun k3  (t,u,v,w,x,y,z,e)=>brV (decide (y<x)) (inS w y/\inS e.2.2 y/\joinV (DMo×Int×Int×Option (List DCh)×Int×Int×Bool×DMo×DSt×DCh×DCh) (fun (f,g,c,d,A,B,C,D,E,F,G)=>brV C (Q false) (loopV (DMo×Int×Int×Option (List DCh)×Int×Int×Option (List DBr)×Int×Int×DMo×DSt×DCh) (fun k6  (H,I,J,K,L,M,N,O,P,R,S,T)=>brV (decide (P<O)) (inS N P/\inS T.2 P/\brV (notB (andB (decide ((eltS ((0:Int),(0:Int),(0:Int)) N P).1=(eltS ((0:Int),(0:Int),(0:Int)) T.2 P).1)) (andB (andB (decide ((eltS ((0:Int),(0:Int),(0:Int)) N P).2.1=(eltS ((0:Int),(0:Int),(0:Int)) T.2 P).2.1)) (andB (decide ((eltS ((0:Int),(0:Int),(0:Int)) N P).2.2=(eltS ((0:Int),(0:Int),(0:Int)) T.2 P).2.2)) true)) true))) (Q false) (k6 (H,I,J,K,L,M,N,O,IntKind.wrap IntKind.i64 (P+(1:Int)),R,S,T))) (k3 (H,I,J,K,L,IntKind.wrap IntKind.i64 (M+(1:Int)),R,S))) (f,g,c,d,A,B,F.2,szSl F.2,(0:Int),D,E,G))) (fun k5=>brV (notB (andB (decide ((eltS (((0:Int),(0:Int)),none) w y).1.1=(eltS (((0:Int),(0:Int)),none) e.2.2 y).1.1)) (andB (decide ((eltS (((0:Int),(0:Int)),none) w y).1.2=(eltS (((0:Int),(0:Int)),none) e.2.2 y).1.2)) true))) (k5 (t,u,v,w,x,y,true,z,e,eltS (((0:Int),(0:Int)),none) w y,eltS (((0:Int),(0:Int)),none) e.2.2 y)) (k5 (t,u,v,w,x,y,notB (decide ((szSl (eltS (((0:Int),(0:Int)),none) w y).2)=(szSl (eltS (((0:Int),(0:Int)),none) e.2.2 y).2))),z,e,eltS (((0:Int),(0:Int)),none) w y,eltS (((0:Int),(0:Int)),none) e.2.2 y)))) (k0 (t,u,IntKind.wrap IntKind.i64 (v+(1:Int)),z))) (m,n,o,r.2.2,szSl r.2.2,(0:Int),q,s))) (fun k2=>brV (notB (decide ((eltS ((0:Int),(0:Int),none) i k).1=(eltS ((0:Int),(0:Int),none) l k).1))) (k2 (i,j,k,true,l,eltS ((0:Int),(0:Int),none) i k,eltS ((0:Int),(0:Int),none) l k)) (brV (notB (decide ((eltS ((0:Int),(0:Int),none) i k).2.1=(eltS ((0:Int),(0:Int),none) l k).2.1))) (k2 (i,j,k,true,l,eltS ((0:Int),(0:Int),none) i k,eltS ((0:Int),(0:Int),none) l k)) (k2 (i,j,k,notB (decide ((szSl (eltS ((0:Int),(0:Int),none) i k).2.2)=(szSl (eltS ((0:Int),(0:Int),none) l k).2.2))),l,eltS ((0:Int),(0:Int),none) i k,eltS ((0:Int),(0:Int),none) l k))))) (Q true)) (a,szSl a,(0:Int),b)))):
 callV Pg q3n [⟨tMo,a⟩,⟨tMo,b⟩] .bool Q:=
 q02 (c:=q01 Tryz.f8) (ann:=q8v) Tryz.func8 rfl Tryz.call8 rfl rfl hQ (kcast (by kernel_rfl) h)
end Go.Proofs.Pf
namespace Go.Proofs.Pf
open Go Go.VM
theorem rangeB {T S:Type} {step:(T->Prop)->T->Prop} {p0:T} {n:Nat} (f:Nat->S->T) (Inv:Nat->S->Prop) {B:(T->Prop)->Nat->S->Prop} {E:(T->Prop)->Nat->S->Prop} (s0:S) (h0:p0=f 0 s0) (hI:Inv 0 s0)
 (ix:T->Nat) (hix:∀ i s,ix (f i s)=i) (hs:∀ k i s,step k (f i s)=brV (decide ((i:Int)<(n:Int))) (B k i s) (E k i s))
 (hb:∀ k i s,i<n->Inv i s->(∀ s',Inv (i+1) s'->k (f (i+1) s'))->B k i s) (he:∀ k s,Inv n s->E k n s):loopV T step p0:=by
 refine loopE (fun p=>∃ i s,p=f i s/\i<=n/\Inv i s) (fun p=>n - ix p) ⟨0,s0,h0,Nat.zero_le _,hI⟩ ?_
 rintro _ ⟨i,s,rfl,hi,hx⟩
 rw[hs]
 refine q00.2 ⟨fun hc=>?_,fun hc=>?_⟩
 . have hc:(i:Int)<(n:Int):=dec_t hc
   have hc:i<n:=by omega
   refine hb _ i s hc hx fun s' h'=>⟨⟨i+1,s',rfl,hc,h'⟩,?_⟩
   rw[hix,hix];omega
 . have hc:¬ (i:Int)<(n:Int):=dec_f hc
   obtain rfl:i=n:=by omega
   exact he _ s hx
theorem br_t {b:Bool} {A B:Prop} (h:b=true) (hA:A):brV b A B:=by subst h;exact hA
theorem br_f {b:Bool} {A B:Prop} (h:b=false) (hB:B):brV b A B:=by subst h;exact hB
theorem br_c {b:Bool} {A B:Prop} (h1:b=true->A) (h2:b=false->B):brV b A B:=q00.2 ⟨h1,h2⟩
def optL {α:Type} (l:List α):Option (List α):=bif l.isEmpty then none else some l
theorem q0e {α:Type} (l:List α):(optL l).getD []=l:=by cases l<;>rfl
theorem q1X {α:Type} (l:List α) (x:α):appL (optL l) [x]=optL (l ++ [x]):=by cases l<;>rfl
theorem optL_some {α:Type} {l:List α} (h:l≠[]):optL l=some l:=by cases l;exact absurd rfl h;rfl
theorem in_s {α:Type} {l:Option (List α)} {i:Nat} (h:i<(l.getD []).length):inS l (i:Int):=⟨by omega,by omega⟩
theorem wi1 {i n:Nat} (h:i<n) (hn:n<=4611686018427387904):IntKind.wrap IntKind.i64 ((i:Int)+1)=((i+1:Nat):Int):=by rw[wi64 (by omega) (by omega)];rfl
abbrev tab {α:Type} (f:Nat->α) (n:Nat):List α:=(List.range n).map f
theorem q2c {α:Type} (f:Nat->α) (n:Nat):tab f (n+1)=tab f n ++ [f n]:=by simp[tab,List.range_succ]
theorem q07 {α:Type} (f:Nat->α) (n:Nat):(tab f n).length=n:=by simp[tab]
theorem q0D {α:Type} (f:Nat->α) (n i:Nat) (d:α) (h:i<n):(tab f n).getD i d=f i:=by
 simp[tab,List.getD,List.getElem?_range h]
end Go.Proofs.Pf
namespace Go.Proofs.Pf
open Go Go.VM
set_option maxRecDepth 100000
def q7Q:Ann:=.nil
theorem qac {Q:Bool->Prop} (a:Int) (b:Int) (hQ:∃ r,Q r) (h:
 (Q true)):
 callV Pg q1L [⟨tI,a⟩,⟨tI,b⟩] .bool Q:=
 q02 (c:=q01 Tryz.f28) (ann:=q7Q) Tryz.func28 rfl Tryz.call28 rfl rfl hQ (kcast (by kernel_rfl) h)
end Go.Proofs.Pf
namespace Go.Proofs.Pf
open Go Go.VM
set_option maxRecDepth 100000
def q8B:Ann:=.nil
theorem qaW {Q:(Option (List DBr))->Prop} (a:(Option (List DBr))) (hQ:∃ r,Q r) (h:
 (brV (Option.isNone a) (Q none) (appC 24 (some []) (lst a)/\Q (appL (some []) (lst a))))):
 ownV Pg q4L [⟨(.sl tBr),a⟩] tBr Q:=
 q3A (c:=q01 Tryz.f74) (ann:=q8B) Tryz.func74 rfl Tryz.call74 rfl rfl hQ (kcast (by kernel_rfl) h)
def q7T:Ann:=(.s (.seq (.reg [] [(4,([],true))] none) .nil))
theorem qaf {Q:((Int×Int)×Unit)->(Option (List DBr))->Prop} (a:DCh) (hQ:∃ x r,Q x r) (h:
 (ownV Pg q4L [⟨.sl tBr,a.2⟩] tBr (fun p0=>Q (a.1,()) p0))):
 ownA Pg q4r [⟨tCh,a⟩] (.agg (.pair tNum (.own 0))) tBr Q:=
 ownA_of (c:=q01 Tryz.f43) (ann:=q7T) Tryz.func43 rfl Tryz.call43 rfl rfl hQ (kcast (by kernel_rfl) h)
def q7S:Ann:=let x:Shape:=⟨[(1,.cst (.fn q1L)),(4,.ref 4 0),(5,.ref 5 0),(8,.ref 8 0)],[.var 6 tI,.var 12 (.sl tSt),.var 13 tI,.var 14 tI,.var 25 (.sl tCh),.var 26 tI,.var 27 tI,.box 4 tMo,.box 5 (.agg (.own 1005)),.box 8 (.agg (.pair tI (.pair tI (.own 1008)))),.arr 1005 (.agg (.pair tI (.pair tI (.sl (.agg (.pair tNum (.hd 80001))))))),.arr 1008 (.agg (.pair tNum (.hd 80001))),.pool 80001 tBr]⟩;(.s (.seq (.reg [] [(4095,([.new 80001 tBr],false))] none) (.seq (.s (.blk none (.loop ⟨[(1,.cst (.fn q1L)),(4,.ref 4 0),(5,.ref 5 0)],[.var 12 (.sl tSt),.var 13 tI,.var 14 tI,.box 4 tMo,.box 5 (.agg (.own 1005)),.arr 1005 (.agg (.pair tI (.pair tI (.sl (.agg (.pair tNum (.hd 80001))))))),.pool 80001 tBr]⟩ (.s (.s (.seq (.blk none (.s (.s (.seq (.s (.blk none (.loop x (.s (.s (.seq (.blk none (.s (.s (.cond (some x) (.reg [] [(3,([],true)),(5,([.giv 39 80001],false))] none) .nil)))) .nil)))))) (.reg [] [(3,([1008],false))] none))))) .nil)))))) .nil)))
theorem qae {Q:(Unit×((Option (List (Int×(Int×(Option (List ((Int×Int)×(Option Nat))))))))×(List (List DBr))))->Prop} (a:DMo) (hQ:∃ r,Q r) (h:
 (loopV (DMo×Int×Int×DMo×Unit×Option (List (Int×Int×Option (List ((Int×Int)×Option Nat))))×List (List DBr)) (fun k0  (i,j,k,l,_,m,n)=>brV (decide (k<j)) (inS i k/\loopV (Int×DMo×Int×Int×Option (List DCh)×Int×Int×DMo×Unit×(Int×Int×Unit)×Option (List (Int×Int×Option (List ((Int×Int)×Option Nat))))×Option (List ((Int×Int)×Option Nat))×List (List DBr)) (fun k2  (o,p,q,r,s,t,u,v,_,w,x,y,z)=>brV (decide (u<t)) (inS s u/\callV Pg q1L [⟨tI,o⟩,⟨tI,u⟩] .bool (fun p4=>joinV (Int×DMo×Int×Int×Option (List DCh)×Int×Int×DMo×Unit×(Int×Int×Unit)×Option (List (Int×Int×Option (List ((Int×Int)×Option Nat))))×Option (List ((Int×Int)×Option Nat))×List (List DBr)) (fun (e,f,g,b,c,d,A,B,_,C,D)=>k2 (e,f,g,b,c,d,IntKind.wrap IntKind.i64 (A+(1:Int)),B,(),(C.1,C.2.1,()),D)) (fun k5=>brV p4 (ownA Pg q4r [⟨tCh,eltS (((0:Int),(0:Int)),none) s u⟩] (.agg (.pair tNum (.own 0))) tBr (fun x6  p7=>appC 40 y (lst (mapL (fun x8=>(x8.1,gvH (α:=(List DBr)) p7 (lenL z))) (some [x6])))/\k5 (o,p,q,r,s,t,u,v,(),(w.1,w.2.1,()),x,appL y (lst (mapL (fun x8=>(x8.1,gvH (α:=(List DBr)) p7 (lenL z))) (some [x6]))),gvL z p7))) (k5 (o,p,q,r,s,t,u,v,(),(w.1,w.2.1,()),x,y,z))))) (appC 40 x (lst (some [(w.1,w.2.1,y)]))/\k0 (p,q,IntKind.wrap IntKind.i64 (r+(1:Int)),v,(),appL x (lst (some [(w.1,w.2.1,y)])),z))) (k,i,j,k,(eltS ((0:Int),(0:Int),none) i k).2.2,szSl (eltS ((0:Int),(0:Int),none) i k).2.2,(0:Int),l,(),((eltS ((0:Int),(0:Int),none) i k).1,(eltS ((0:Int),(0:Int),none) i k).2.1,()),m,none,n)) (Q ((),m,n))) (a,szSl a,(0:Int),none,(),none,[]))):
 lendV Pg q4q 2 q2R (a) Q:=
 q10 (c:=q01 Tryz.f27) (ann:=q7S) Tryz.func27 rfl Tryz.call27 rfl hQ rfl (kcast (by kernel_rfl) h)
def q7R:Ann:=(.s (.seq (.regL [] [] [(1,q2R)] none) .nil))
theorem qad {Q:(Unit×((Option (List (Int×(Int×(Option (List ((Int×Int)×(Option Nat))))))))×(List (List DBr))))->Prop} (a:DMo) (hQ:∃ r,Q r) (h:
 (lendV Pg q4q 2 q2R a (fun p0=>Q ((),p0.2)))):
 lendV Pg q4p 1 q2Q (a) Q:=
 q10 (c:=q01 Tryz.f16) (ann:=q7R) Tryz.func16 rfl Tryz.call16 rfl hQ rfl (kcast (by kernel_rfl) h)
def q7W:Ann:=.nil
theorem qai {Q:Int->Prop} (a:DBr) (b:DBr) (hQ:∃ r,Q r) (h:
 (Q (IntKind.wrap IntKind.i64 (a.1 - b.1)))):
 callV Pg q06 [⟨tBr,a⟩,⟨tBr,b⟩] tI Q:=
 q02 (c:=q01 Tryz.f18) (ann:=q7W) Tryz.func18 rfl Tryz.call18 rfl rfl hQ (kcast (by kernel_rfl) h)
def q8D:Ann:=(.s (.blk none (.loop ⟨[(0,.own 1000000000),(3,.cst (.fn q06))],[.var 1 tI,.var 2 tI,.var 8 tI,.arr 1000000000 tBr]⟩ (.s (.seq (.blk none (.s (.blk none (.loop ⟨[(0,.own 1000000000),(3,.cst (.fn q06))],[.var 1 tI,.var 2 tI,.var 8 tI,.var 9 tI,.arr 1000000000 tBr]⟩ (.seq (.seq (.reg [] [] (some ⟨[(0,.own 1000000000),(3,.cst (.fn q06))],[.var 1 tI,.var 2 tI,.var 8 tI,.var 9 tI,.var 34 .bool,.arr 1000000000 tBr]⟩)) .nil) .nil))))) .nil)))))
theorem qaY {Q:(Option (List DBr))->Prop} (a:Int) (b:Int) (c:(Option (List DBr))) (hQ:∃ r,Q r) (h:
 (loopV (Int×Int×Int×Option (List DBr)) (fun k0  (i,j,k,l)=>brV (decide (k<j)) (loopV (Int×Int×Int×Int×Option (List DBr)) (fun k2  (m,n,o,p,q)=>joinV (Int×Int×Int×Int×Bool×Option (List DBr)) (fun (r,s,t,u,v,w)=>brV v (inS w (IntKind.wrap IntKind.i64 (u - (1:Int)))/\inS w u/\inS w u/\inS (setO w (toN u) (eltN ((0:Int),(0:Int),(0:Int)) w (toN (IntKind.wrap IntKind.i64 (u - (1:Int)))))) (IntKind.wrap IntKind.i64 (u - (1:Int)))/\k2 (r,s,t,IntKind.wrap IntKind.i64 (u - (1:Int)),setO (setO w (toN u) (eltN ((0:Int),(0:Int),(0:Int)) w (toN (IntKind.wrap IntKind.i64 (u - (1:Int)))))) (toN (IntKind.wrap IntKind.i64 (u - (1:Int)))) (eltN ((0:Int),(0:Int),(0:Int)) w (toN u)))) (k0 (r,s,IntKind.wrap IntKind.i64 (t+(1:Int)),w))) (fun k4=>brV (decide (m<p)) (inS q p/\inS q (IntKind.wrap IntKind.i64 (p - (1:Int)))/\callV Pg q06 [⟨tBr,eltN ((0:Int),(0:Int),(0:Int)) q (toN p)⟩,⟨tBr,eltN ((0:Int),(0:Int),(0:Int)) q (toN (IntKind.wrap IntKind.i64 (p - (1:Int))))⟩] tI (fun p5=>k4 (m,n,o,p,decide (p5<(0:Int)),q))) (k4 (m,n,o,p,false,q)))) (i,j,k,k,l)) (Q l)) (a,b,IntKind.wrap IntKind.i64 (a+(1:Int)),c))):
 lendV Pg q4N 4 q2T (a,b,c) Q:=
 q10 (c:=q01 Tryz.f44) (ann:=q8D) Tryz.func44 rfl Tryz.call44 rfl hQ rfl (kcast (by kernel_rfl) h)
def q8E:Ann:=let x:Shape:=⟨[(0,.own 1000000000),(4,.cst (.fn q06))],[.var 1 tI,.var 2 tI,.var 3 tI,.var 10 .bool,.var 11 .bool,.arr 1000000000 tBr]⟩;(.s (.s (.blk none (.loop x (.blk (some x) (.s (.seq (.s (.cond none (.seq (.regL [] [] [(4,q2T)] none) .nil) .nil)) (.s (.seq (.s (.cond (some ⟨[(0,.own 1000000000),(4,.cst (.fn q06))],[.var 1 tI,.var 2 tI,.var 3 tI,.var 10 .bool,.var 11 .bool,.var 12 tI,.arr 1000000000 tBr]⟩) .nil .nil)) (.s (.seq (.s (.cond (some ⟨[(0,.own 1000000000),(4,.cst (.fn q06))],[.var 1 tI,.var 2 tI,.var 3 tI,.var 10 .bool,.var 11 .bool,.var 12 tI,.var 13 tI,.var 14 tI,.arr 1000000000 tBr]⟩) .nil .nil)) (.seq (.seq (.reg [] [] (some ⟨[(0,.own 1000000000),(4,.cst (.fn q06))],[.var 1 tI,.var 2 tI,.var 3 tI,.var 10 .bool,.var 11 .bool,.var 12 tI,.var 13 tI,.var 75 .bool,.arr 1000000000 tBr]⟩)) (.cond (some ⟨[(0,.own 1000000000),(4,.cst (.fn q06))],[.var 1 tI,.var 2 tI,.var 3 tI,.var 10 .bool,.var 11 .bool,.var 12 tI,.var 13 tI,.arr 1000000000 tBr]⟩) .nil .nil)) (.seq (.seq (.reg [] [] (some ⟨[(0,.own 1000000000),(4,.cst (.fn q06))],[.var 1 tI,.var 2 tI,.var 3 tI,.var 10 .bool,.var 11 .bool,.var 12 tI,.var 13 tI,.var 97 .bool,.arr 1000000000 tBr]⟩)) .nil) (.s (.s (.s (.s (.s (.cond (some x) .nil .nil)))))))))))))))))))
theorem qaZ {Q:(Option (List DBr))->Prop} (a:Int) (b:Int) (c:Int) (d:(Option (List DBr))) (hQ:∃ r,Q r) (h:
 (loopV (Int×Int×Int×Bool×Bool×Option (List DBr)) (fun k0  (i,j,k,l,m,n)=>joinV (Int×Int×Int×Bool×Bool×Option (List DBr)) (fun o=>k0 o) (fun k2=>brV (decide ((IntKind.wrap IntKind.i64 (j - i))<=(12:Int))) (lendV Pg q4N 4 q2T (i,j,n) (fun p3=>Q p3)) (brV (decide (k=(0:Int))) (callV Pg q8S [⟨.sl tBr,n⟩,⟨tI,i⟩,⟨tI,j⟩,⟨.cst (.fn q06),()⟩] (.tup .unit) (fun p3=>Q n)) (joinV (Int×Int×Int×Bool×Bool×Int×Option (List DBr)) (fun (o,p,q,r,s,t,u)=>callV Pg q8R [⟨.sl tBr,u⟩,⟨tI,o⟩,⟨tI,p⟩,⟨.cst (.fn q06),()⟩] (.tup (.pair tI (.pair tI .unit))) (fun p4=>joinV (Int×Int×Int×Bool×Bool×Int×Int×Int×Option (List DBr)) (fun (v,w,x,y,z,e,f,g,A)=>joinV (Int×Int×Int×Bool×Bool×Int×Int×Bool×Option (List DBr)) (fun (B,C,D,E,F,G,H,I,J)=>joinV (Int×Int×Int×Bool×Bool×Int×Int×Option (List DBr)) (fun (K,L,M,N,O,P,R,S)=>joinV (Int×Int×Int×Bool×Bool×Int×Int×Bool×Option (List DBr)) (fun (T,U,V,W,X,Y,Z,ii,ij)=>brV ii (callV Pg q8V [⟨.sl tBr,ij⟩,⟨tI,T⟩,⟨tI,U⟩,⟨tI,Z⟩,⟨.cst (.fn q06),()⟩] tI (fun p9=>k2 (p9,U,V,W,X,ij))) (callV Pg q8U [⟨.sl tBr,ij⟩,⟨tI,T⟩,⟨tI,U⟩,⟨tI,Z⟩,⟨.cst (.fn q06),()⟩] (.tup (.pair tI (.pair .bool .unit))) (fun p9=>((8:Int)≠(0:Int))/\joinV (Int×Int×Int×Bool×Bool×Option (List DBr)) (fun ik=>k2 ik) (fun k10=>brV (decide ((IntKind.wrap IntKind.i64 (p9.1 - T))<(IntKind.wrap IntKind.i64 (U - p9.1)))) (callV Pg q3o [⟨.sl tBr,ij⟩,⟨tI,T⟩,⟨tI,p9.1⟩,⟨tI,V⟩,⟨.cst (.fn q06),()⟩] (.tup .unit) (fun p11=>k10 (IntKind.wrap IntKind.i64 (p9.1+(1:Int)),U,V,decide ((IntKind.wrap IntKind.i64 (Int.tdiv Y (8:Int)))<=(IntKind.wrap IntKind.i64 (p9.1 - T))),p9.2.1,ij))) (callV Pg q3o [⟨.sl tBr,ij⟩,⟨tI,IntKind.wrap IntKind.i64 (p9.1+(1:Int))⟩,⟨tI,U⟩,⟨tI,V⟩,⟨.cst (.fn q06),()⟩] (.tup .unit) (fun p11=>k10 (T,p9.1,V,decide ((IntKind.wrap IntKind.i64 (Int.tdiv Y (8:Int)))<=(IntKind.wrap IntKind.i64 (U - p9.1))),p9.2.1,ij))))))) (fun k8=>brV (decide ((0:Int)<K)) (inS S (IntKind.wrap IntKind.i64 (K - (1:Int)))/\inS S R/\callV Pg q06 [⟨tBr,eltN ((0:Int),(0:Int),(0:Int)) S (toN (IntKind.wrap IntKind.i64 (K - (1:Int))))⟩,⟨tBr,eltN ((0:Int),(0:Int),(0:Int)) S (toN R)⟩] tI (fun p9=>k8 (K,L,M,N,O,P,R,notB (decide (p9<(0:Int))),S))) (k8 (K,L,M,N,O,P,R,false,S)))) (fun k7=>brV I (callV Pg q8T [⟨.sl tBr,J⟩,⟨tI,B⟩,⟨tI,C⟩,⟨.cst (.fn q06),()⟩] .bool (fun p8=>brV p8 (Q J) (k7 (B,C,D,E,F,G,H,J)))) (k7 (B,C,D,E,F,G,H,J)))) (fun k6=>brV y (brV z (k6 (v,w,x,y,z,e,f,decide (g=(1:Int)),A)) (k6 (v,w,x,y,z,e,f,false,A))) (k6 (v,w,x,y,z,e,f,false,A)))) (fun k5=>brV (decide (p4.2.1=(2:Int))) (callV Pg q8W [⟨.sl tBr,u⟩,⟨tI,o⟩,⟨tI,p⟩,⟨.cst (.fn q06),()⟩] (.tup .unit) (fun p6=>k5 (o,p,q,r,s,t,IntKind.wrap IntKind.i64 ((IntKind.wrap IntKind.i64 (p - (1:Int))) - (IntKind.wrap IntKind.i64 (p4.1 - o))),(1:Int),u))) (k5 (o,p,q,r,s,t,p4.1,p4.2.1,u))))) (fun k3=>brV (notB l) (callV Pg q8Q [⟨.sl tBr,n⟩,⟨tI,i⟩,⟨tI,j⟩,⟨.cst (.fn q06),()⟩] (.tup .unit) (fun p4=>k3 (i,j,IntKind.wrap IntKind.i64 (k - (1:Int)),l,m,IntKind.wrap IntKind.i64 (j - i),n))) (k3 (i,j,k,l,m,IntKind.wrap IntKind.i64 (j - i),n))))))) (a,b,c,true,true,d))):
 lendV Pg q3o 5 q3V (a,b,c,d) Q:=
 q10 (c:=q01 Tryz.f29) (ann:=q8E) Tryz.func29 rfl Tryz.call29 rfl hQ rfl (kcast (by kernel_rfl) h)
def q8C:Ann:=(.s (.regL [] [] [(6,q3V)] none))
theorem qaX {Q:(Option (List DBr))->Prop} (a:(Option (List DBr))) (hQ:∃ r,Q r) (h:
 (callV Pg q4k [⟨.int .u64,IntKind.wrap IntKind.u64 (szSl a)⟩] tI (fun p0=>lendV Pg q3o 5 q3V ((0:Int),szSl a,p0,a) (fun p1=>Q p1)))):
 lendV Pg q4M 2 q2S (a) Q:=
 q10 (c:=q01 Tryz.f17) (ann:=q8C) Tryz.func17 rfl Tryz.call17 rfl hQ rfl (kcast (by kernel_rfl) h)
def q7V:Ann:=(.s (.s (.s (.s (.seq (.s (.blk none (.loop ⟨[(2,.ref 2 0),(4,.ref 4 0),(6,.own 26),(7,.own 30)],[.var 1 tL,.var 31 tL,.var 32 tI,.var 33 tI,.box 2 tMo,.box 4 tMo,.arr 26 tI,.arr 30 .bool]⟩ (.s (.s (.seq (.blk none (.s (.seq (.seq (.reg [] [] (some ⟨[(2,.ref 2 0),(4,.ref 4 0),(6,.own 26),(7,.own 30)],[.var 1 tL,.var 8 tI,.var 9 tI,.var 31 tL,.var 32 tI,.var 33 tI,.var 52 .bool,.box 2 tMo,.box 4 tMo,.arr 26 tI,.arr 30 .bool]⟩)) .nil) .nil))) .nil)))))) (.s (.seq (.regL [] [] [(1,q2Q)] none) (.s (.seq (.s (.blk none (.loop ⟨[(4,.ref 4 0),(6,.own 26),(10,.ref 10 0),(11,.ref 11 0)],[.var 71 tL,.var 72 tI,.var 73 tI,.box 4 tMo,.box 10 (.agg (.own 7101000)),.box 11 (.agg (.own 1011)),.arr 26 tI,.arr 7101000 (.agg (.pair tI (.pair tI (.sl (.agg (.pair tNum (.hd 80001))))))),.arr 1011 (.agg (.pair tI (.pair tI (.sl (.agg (.pair tNum (.hd 80001))))))),.pool 80001 tBr]⟩ .nil))) (.seq (.s (.blk none (.loop ⟨[(4,.ref 4 0),(6,.own 26),(11,.ref 11 0),(89,.own 1011)],[.var 90 tI,.var 91 tI,.box 4 tMo,.box 11 (.agg (.own 1011)),.arr 26 tI,.arr 1011 (.agg (.pair tI (.pair tI (.sl (.agg (.pair tNum (.hd 80001))))))),.pool 80001 tBr]⟩ (.s (.s (.seq (.blk none (.s (.s (.blk none (.loop ⟨[(4,.ref 4 0),(6,.own 26),(11,.ref 11 0),(89,.own 1011)],[.var 90 tI,.var 91 tI,.var 96 (.sl (.agg (.pair tNum (.hd 80001)))),.var 97 tI,.var 98 tI,.box 4 tMo,.box 11 (.agg (.own 1011)),.arr 26 tI,.arr 1011 (.agg (.pair tI (.pair tI (.sl (.agg (.pair tNum (.hd 80001))))))),.pool 80001 tBr]⟩ (.s (.s (.seq (.blk none (.s (.seq (.s (.blk none (.loop ⟨[(4,.ref 4 0),(6,.own 26),(11,.ref 11 0),(17,.ref 17 0),(89,.own 1011)],[.var 90 tI,.var 91 tI,.var 96 (.sl (.agg (.pair tNum (.hd 80001)))),.var 97 tI,.var 98 tI,.var 104 tI,.var 105 tI,.box 4 tMo,.box 11 (.agg (.own 1011)),.box 17 (.agg (.pair tNum (.hd 80001))),.arr 26 tI,.arr 1011 (.agg (.pair tI (.pair tI (.sl (.agg (.pair tNum (.hd 80001))))))),.pool 80001 tBr]⟩ .nil))) (.regL [] [] [(2,q2S)] none)))) .nil)))))))) .nil)))))) (.seq (.reg [] [(4095,([.frp 80001],false))] none) .nil)))))))))))
theorem qah {Q:(DMo×(Int×Unit))->Prop} (a:DMo) (b:DL) (hQ:∃ r,Q r) (h:
 (callV Pg q3e [⟨tMo,a⟩] .bool (fun p0=>brV (notB p0) (Q (none,(1:Int),())) (mkC 8 (szSl a) (szSl a)/\mkC 1 (szSl a) (szSl a)/\loopV (DL×DL×Int×Int×DMo×DMo×DL×Option (List Bool)) (fun k1  (i,j,k,l,m,n,o,p)=>brV (decide (l<k)) (inS j l/\joinV (DL×Int×Int×DL×Int×Int×Bool×DMo×DMo×DL×Option (List Bool)) (fun (q,r,s,t,u,v,w,x,y,z,e)=>brV w (Q (none,(6:Int),())) (inS e s/\inS z s/\k1 (q,t,u,IntKind.wrap IntKind.i64 (v+(1:Int)),x,y,setO z (toN s) r,setO e (toN s) true))) (fun k3=>brV (decide ((eltS (0:Int) j l)<(0:Int))) (k3 (i,l,eltS (0:Int) j l,j,k,l,true,m,n,o,p)) (brV (decide ((szSl m)<=(eltS (0:Int) j l))) (k3 (i,l,eltS (0:Int) j l,j,k,l,true,m,n,o,p)) (inS p (eltS (0:Int) j l)/\k3 (i,l,eltS (0:Int) j l,j,k,l,eltN false p (toN (eltS (0:Int) j l)),m,n,o,p))))) (brV (notB (decide ((szSl i)=(szSl m)))) (Q (none,(6:Int),())) (lendV Pg q4p 1 q2Q m (fun p3=>loopV (DL×Int×Int×DMo×Unit×Unit×DL×Option (List (Int×Int×Option (List ((Int×Int)×Option Nat))))×Option (List (Int×Int×Option (List ((Int×Int)×Option Nat))))×List (List DBr)) (fun k4  (q,r,s,t,_,_,u,v,w,x)=>brV (decide (s<r)) (inS q s/\inS v (eltS (0:Int) q s)/\appC 40 w (lst (some [(eltN ((0:Int),(0:Int),none) v (toN (eltS (0:Int) q s)))]))/\k4 (q,r,IntKind.wrap IntKind.i64 (s+(1:Int)),t,(),(),u,v,appL w (lst (some [(eltN ((0:Int),(0:Int),none) v (toN (eltS (0:Int) q s)))])),x)) (loopV (Int×Int×DMo×Unit×DL×Option (List (Int×Int×Option (List ((Int×Int)×Option Nat))))×List (List DBr)) (fun k6  (y,z,e,_,f,g,c)=>brV (decide (z<y)) (inS g z/\loopV (Int×Int×Option (List ((Int×Int)×Option Nat))×Int×Int×DMo×Unit×DL×Option (List (Int×Int×Option (List ((Int×Int)×Option Nat))))×List (List DBr)) (fun k8  (d,A,B,C,D,E,_,F,G,H)=>brV (decide (D<C)) (inS B D/\loopV (Int×Int×Option (List ((Int×Int)×Option Nat))×Int×Int×Int×Int×DMo×Unit×((Int×Int)×Option Nat)×DL×Option (List (Int×Int×Option (List ((Int×Int)×Option Nat))))×List (List DBr)) (fun k10  (I,J,K,L,M,N,O,P,_,R,S,T,U)=>brV (decide (O<N)) (inH U R.2 O/\inS S (rowE ((0:Int),(0:Int),(0:Int)) U (Option.getD R.2 0) (toN O)).1/\inH U R.2 O/\k10 (I,J,K,L,M,N,IntKind.wrap IntKind.i64 (O+(1:Int)),P,(),R,S,T,setR U (Option.getD R.2 0) (toN O) (eltN (0:Int) S (toN (rowE ((0:Int),(0:Int),(0:Int)) U (Option.getD R.2 0) (toN O)).1),(rowE ((0:Int),(0:Int),(0:Int)) U (Option.getD R.2 0) (toN O)).2))) (((Option.isNone R.2)=false)/\lendV Pg q4M 2 q2S (some (rowS U R.2)) (fun p12=>k8 (I,J,K,L,IntKind.wrap IntKind.i64 (M+(1:Int)),P,(),S,T,List.set U (Option.getD R.2 0) (lst p12))))) (d,A,B,C,D,szH H (eltS (((0:Int),(0:Int)),none) B D).2,(0:Int),E,(),eltS (((0:Int),(0:Int)),none) B D,F,G,H)) (k6 (d,IntKind.wrap IntKind.i64 (A+(1:Int)),E,(),F,G,H))) (y,z,(eltN ((0:Int),(0:Int),none) g (toN z)).2.2,szSl (eltN ((0:Int),(0:Int),none) g (toN z)).2.2,(0:Int),e,(),f,g,c)) (Q (mapL (fun x8=>(x8.1,x8.2.1,mapL (fun x9=>(x9.1,unH c x9.2)) x8.2.2)) g,(0:Int),()))) (szSl w,(0:Int),t,(),u,w,x))) (i,szSl i,(0:Int),n,(),(),o,p3.2.1,none,p3.2.2))))) (b,b,szSl b,(0:Int),a,none,some (repS (szSl a) (0:Int)),some (repS (szSl a) false)))))):
 callV Pg q3d [⟨tMo,a⟩,⟨tL,b⟩] (.tup (.pair tMo (.pair tI .unit))) Q:=
 q02 (c:=q01 Tryz.f7) (ann:=q7V) Tryz.func7 rfl Tryz.call7 rfl rfl hQ (kcast (by kernel_rfl) h)
end Go.Proofs.Pf
namespace Go.Proofs.Pf
open Go Go.VM
set_option maxRecDepth 100000
def q7N:Ann:=let x:Shape:=⟨[],[.var 0 (.int .u64),.var 2 tI]⟩;(.s (.seq (.s (.cond (some x) .nil .nil)) (.seq (.s (.cond (some x) .nil .nil)) (.seq (.s (.cond (some x) .nil .nil)) .nil))))
theorem qa9 {Q:Int->Prop} (a:Int) (hQ:∃ r,Q r) (h:
 (joinV (Int×Int) (fun (i,j)=>joinV (Int×Int) (fun (k,l)=>joinV (Int×Int) (fun (m,n)=>(((0:Int)<=(IntKind.wrap IntKind.u8 m))/\((IntKind.wrap IntKind.u8 m)<(szStr (bytesL [0,1,2,2,3,3,3,3,4,4,4,4,4,4,4,4,5,5,5,5,5,5,5,5,5,5,5,5,5,5,5,5,6,6,6,6,6,6,6,6,6,6,6,6,6,6,6,6,6,6,6,6,6,6,6,6,6,6,6,6,6,6,6,6,7,7,7,7,7,7,7,7,7,7,7,7,7,7,7,7,7,7,7,7,7,7,7,7,7,7,7,7,7,7,7,7,7,7,7,7,7,7,7,7,7,7,7,7,7,7,7,7,7,7,7,7,7,7,7,7,7,7,7,7,7,7,7,7,8,8,8,8,8,8,8,8,8,8,8,8,8,8,8,8,8,8,8,8,8,8,8,8,8,8,8,8,8,8,8,8,8,8,8,8,8,8,8,8,8,8,8,8,8,8,8,8,8,8,8,8,8,8,8,8,8,8,8,8,8,8,8,8,8,8,8,8,8,8,8,8,8,8,8,8,8,8,8,8,8,8,8,8,8,8,8,8,8,8,8,8,8,8,8,8,8,8,8,8,8,8,8,8,8,8,8,8,8,8,8,8,8,8,8,8,8,8,8,8,8,8,8,8,8,8,8,8]))))/\Q (IntKind.wrap IntKind.i64 (n+(IntKind.wrap IntKind.i64 (byteAt (bytesL [0,1,2,2,3,3,3,3,4,4,4,4,4,4,4,4,5,5,5,5,5,5,5,5,5,5,5,5,5,5,5,5,6,6,6,6,6,6,6,6,6,6,6,6,6,6,6,6,6,6,6,6,6,6,6,6,6,6,6,6,6,6,6,6,7,7,7,7,7,7,7,7,7,7,7,7,7,7,7,7,7,7,7,7,7,7,7,7,7,7,7,7,7,7,7,7,7,7,7,7,7,7,7,7,7,7,7,7,7,7,7,7,7,7,7,7,7,7,7,7,7,7,7,7,7,7,7,7,8,8,8,8,8,8,8,8,8,8,8,8,8,8,8,8,8,8,8,8,8,8,8,8,8,8,8,8,8,8,8,8,8,8,8,8,8,8,8,8,8,8,8,8,8,8,8,8,8,8,8,8,8,8,8,8,8,8,8,8,8,8,8,8,8,8,8,8,8,8,8,8,8,8,8,8,8,8,8,8,8,8,8,8,8,8,8,8,8,8,8,8,8,8,8,8,8,8,8,8,8,8,8,8,8,8,8,8,8,8,8,8,8,8,8,8,8,8,8,8,8,8,8,8,8,8,8,8]) (IntKind.wrap IntKind.u8 m)))))) (fun k2=>brV (decide ((256:Int)<=k)) (((0:Int)<=(8:Int))/\k2 (shrI IntKind.u64 k (8:Int),IntKind.wrap IntKind.i64 (l+(8:Int)))) (k2 (k,l)))) (fun k1=>brV (decide ((65536:Int)<=i)) (((0:Int)<=(16:Int))/\k1 (shrI IntKind.u64 i (16:Int),IntKind.wrap IntKind.i64 (j+(16:Int)))) (k1 (i,j)))) (fun k0=>brV (decide ((4294967296:Int)<=a)) (((0:Int)<=(32:Int))/\k0 (shrI IntKind.u64 a (32:Int),(32:Int))) (k0 (a,(0:Int)))))):
 callV Pg q4m [⟨(.int .u64),a⟩] tI Q:=
 q02 (c:=q01 Tryz.f53) (ann:=q7N) Tryz.func53 rfl Tryz.call53 rfl rfl hQ (kcast (by kernel_rfl) h)
def q7L:Ann:=.nil
theorem qa7 {Q:Int->Prop} (a:Int) (hQ:∃ r,Q r) (h:
 (callV Pg q4m [⟨.int .u64,a⟩] tI (fun p0=>Q p0))):
 callV Pg q4k [⟨(.int .u64),a⟩] tI Q:=
 q02 (c:=q01 Tryz.f30) (ann:=q7L) Tryz.func30 rfl Tryz.call30 rfl rfl hQ (kcast (by kernel_rfl) h)
end Go.Proofs.Pf
namespace Go.Proofs.Pf
open Go Go.VM
set_option maxRecDepth 100000
def q8w:Ann:=(.s (.s (.seq (.s (.blk none (.loop ⟨[(5,.own 11)],[.var 1 tL,.var 12 tL,.var 13 tI,.var 14 tI,.arr 11 .bool]⟩ (.s (.s (.seq (.blk none (.s (.seq (.seq (.reg [] [] (some ⟨[(5,.own 11)],[.var 1 tL,.var 7 tI,.var 12 tL,.var 13 tI,.var 14 tI,.var 31 .bool,.arr 11 .bool]⟩)) .nil) .nil))) .nil)))))) .nil)))
theorem qaR {Q:Bool->Prop} (a:DMo) (b:DL) (hQ:∃ r,Q r) (h:
 (mkC 1 (szSl a) (szSl a)/\loopV (DL×DL×Int×Int×Option (List Bool)) (fun k0  (i,j,k,l,m)=>brV (decide (l<k)) (inS j l/\joinV (DL×Int×DL×Int×Int×Bool×Option (List Bool)) (fun (n,o,p,q,r,s,t)=>brV s (Q false) (inS t o/\k0 (n,p,q,IntKind.wrap IntKind.i64 (r+(1:Int)),setO t (toN o) true))) (fun k2=>brV (decide ((eltS (0:Int) j l)<(0:Int))) (k2 (i,eltS (0:Int) j l,j,k,l,true,m)) (brV (decide ((szSl m)<=(eltS (0:Int) j l))) (k2 (i,eltS (0:Int) j l,j,k,l,true,m)) (inS m (eltS (0:Int) j l)/\k2 (i,eltS (0:Int) j l,j,k,l,eltN false m (toN (eltS (0:Int) j l)),m))))) (Q (decide ((szSl i)=(szSl m))))) (b,b,szSl b,(0:Int),some (repS (szSl a) false)))):
 callV Pg q4G [⟨tMo,a⟩,⟨tL,b⟩] .bool Q:=
 q02 (c:=q01 Tryz.f13) (ann:=q8w) Tryz.func13 rfl Tryz.call13 rfl rfl hQ (kcast (by kernel_rfl) h)
def q8y:Ann:=let x:Shape:=⟨[(2,.ref 2 0),(4,.ref 4 0),(5,.own 20),(8,.ref 8 0),(11,.ref 11 0),(13,.ref 13 0),(14,.ref 14 0)],[.var 1 tL,.var 15 tI,.var 34 tL,.var 35 tI,.var 36 tI,.var 58 (.sl tCh),.var 59 tI,.var 60 tI,.var 68 tI,.var 69 tI,.var 73 (.sl tBr),.var 74 tI,.var 75 tI,.box 2 tMo,.box 4 tMo,.box 8 (.agg (.own 1008)),.box 11 (.agg (.pair tI (.pair tI (.own 1011)))),.box 13 tCh,.box 14 (.agg (.pair tNum (.own 1014))),.arr 20 tI,.arr 1008 tSt,.arr 1011 tCh,.arr 1014 tBr]⟩;(.s (.s (.seq (.s (.blk none (.loop ⟨[(2,.ref 2 0),(4,.ref 4 0),(5,.own 20)],[.var 1 tL,.var 21 tL,.var 22 tI,.var 23 tI,.box 2 tMo,.box 4 tMo,.arr 20 tI]⟩ .nil))) (.s (.seq (.s (.blk none (.loop ⟨[(2,.ref 2 0),(4,.ref 4 0),(5,.own 20),(8,.ref 8 0)],[.var 1 tL,.var 34 tL,.var 35 tI,.var 36 tI,.box 2 tMo,.box 4 tMo,.box 8 (.agg (.own 1008)),.arr 20 tI,.arr 1008 tSt]⟩ (.s (.s (.seq (.blk none (.s (.s (.seq (.s (.blk none (.loop ⟨[(2,.ref 2 0),(4,.ref 4 0),(5,.own 20),(8,.ref 8 0),(11,.ref 11 0)],[.var 1 tL,.var 34 tL,.var 35 tI,.var 36 tI,.var 58 (.sl tCh),.var 59 tI,.var 60 tI,.box 2 tMo,.box 4 tMo,.box 8 (.agg (.own 1008)),.box 11 (.agg (.pair tI (.pair tI (.own 1011)))),.arr 20 tI,.arr 1008 tSt,.arr 1011 tCh]⟩ (.s (.s (.seq (.blk none (.s (.s (.seq (.s (.blk none (.loop ⟨[(2,.ref 2 0),(4,.ref 4 0),(5,.own 20),(8,.ref 8 0),(11,.ref 11 0),(13,.ref 13 0),(14,.ref 14 0)],[.var 1 tL,.var 34 tL,.var 35 tI,.var 36 tI,.var 58 (.sl tCh),.var 59 tI,.var 60 tI,.var 68 tI,.var 69 tI,.box 2 tMo,.box 4 tMo,.box 8 (.agg (.own 1008)),.box 11 (.agg (.pair tI (.pair tI (.own 1011)))),.box 13 tCh,.box 14 (.agg (.pair tNum (.own 1014))),.arr 20 tI,.arr 1008 tSt,.arr 1011 tCh,.arr 1014 tBr]⟩ (.s (.s (.seq (.blk none (.s (.s (.blk none (.loop x (.s (.s (.seq (.blk none (.s (.s (.cond (some x) .nil .nil)))) .nil)))))))) .nil)))))) (.reg [] [(3,([1014],false))] none))))) .nil)))))) (.reg [] [(3,([1011],false))] none))))) .nil)))))) .nil)))))
theorem qaT {Q:DMo->Prop} (a:DMo) (b:DL) (hQ:∃ r,Q r) (h:
 (mkC 8 (szSl b) (szSl b)/\loopV (DL×DL×Int×Int×DMo×DMo×DL) (fun k0  (i,j,k,l,m,n,o)=>brV (decide (l<k)) (inS j l/\inS o (eltS (0:Int) j l)/\k0 (i,j,k,IntKind.wrap IntKind.i64 (l+(1:Int)),m,n,setO o (toN (eltS (0:Int) j l)) l)) (loopV (DL×DL×Int×Int×DMo×DMo×Unit×DL×DMo) (fun k2  (p,q,r,s,t,u,_,v,w)=>brV (decide (s<r)) (inS q s/\inS t (eltS (0:Int) q s)/\inS t (eltS (0:Int) q s)/\inS t (eltS (0:Int) q s)/\loopV (DL×DL×Int×Int×Option (List DCh)×Int×Int×DMo×DMo×Unit×(Int×Int×Unit)×DL×DMo×Option (List DCh)) (fun k4  (x,y,z,e,f,g,c,d,A,_,B,C,D,E)=>brV (decide (c<g)) (inS f c/\loopV (DL×DL×Int×Int×Option (List DCh)×Int×Int×Int×Int×DMo×DMo×Unit×(Int×Int×Unit)×DCh×((Int×Int)×Unit)×DL×DMo×Option (List DCh)×Option (List DBr)) (fun k6  (F,G,H,I,J,K,L,M,N,O,P,_,R,S,T,U,V,W,X)=>brV (decide (N<M)) (loopV (DL×Int×DL×Int×Int×Option (List DCh)×Int×Int×Int×Int×Option (List DBr)×Int×Int×DMo×DMo×Unit×(Int×Int×Unit)×DCh×((Int×Int)×Unit)×DL×DMo×Option (List DCh)×Option (List DBr)) (fun k8  (Y,Z,ii,ij,ik,il,im,io,ip,iq,ir,it,iu,iv,iw,_,ix,iy,iz,ji,jj,jk,jl)=>brV (decide (iu<it)) (inS ir iu/\inS ji (eltS ((0:Int),(0:Int),(0:Int)) ir iu).1/\joinV (DL×Int×DL×Int×Int×Option (List DCh)×Int×Int×Int×Int×Option (List DBr)×Int×Int×DMo×DMo×Unit×(Int×Int×Unit)×DCh×((Int×Int)×Unit)×DL×DMo×Option (List DCh)×Option (List DBr)) (fun (jm,jn,jo,jp,jq,jr,js,jt,ju,jv,jw,jx,jy,jz,ki,_,kj,kk,kl,km)=>k8 (jm,jn,jo,jp,jq,jr,js,jt,ju,jv,jw,jx,IntKind.wrap IntKind.i64 (jy+(1:Int)),jz,ki,(),(kj.1,kj.2.1,()),kk,(kl.1,()),km)) (fun k10=>brV (decide ((eltN (0:Int) ji (toN (eltS ((0:Int),(0:Int),(0:Int)) ir iu).1))=Z)) (appC 24 jl (lst (some [(Z,(eltS ((0:Int),(0:Int),(0:Int)) ir iu).2)]))/\k10 (Y,Z,ii,ij,ik,il,im,io,ip,iq,ir,it,iu,iv,iw,(),(ix.1,ix.2.1,()),iy,(iz.1,()),ji,jj,jk,appL jl (lst (some [(Z,(eltS ((0:Int),(0:Int),(0:Int)) ir iu).2)])))) (k10 (Y,Z,ii,ij,ik,il,im,io,ip,iq,ir,it,iu,iv,iw,(),(ix.1,ix.2.1,()),iy,(iz.1,()),ji,jj,jk,jl)))) (k6 (Y,ii,ij,ik,il,im,io,ip,IntKind.wrap IntKind.i64 (iq+(1:Int)),iv,iw,(),(ix.1,ix.2.1,()),iy,(iz.1,()),ji,jj,jk,jl))) (F,N,G,H,I,J,K,L,M,N,S.2,szSl S.2,(0:Int),O,P,(),(R.1,R.2.1,()),S,(T.1,()),U,V,W,X)) (appC 40 W (lst (some [(T.1,X)]))/\k4 (F,G,H,I,J,K,IntKind.wrap IntKind.i64 (L+(1:Int)),O,P,(),(R.1,R.2.1,()),U,V,appL W (lst (some [(T.1,X)]))))) (x,y,z,e,f,g,c,szSl x,(0:Int),d,A,(),(B.1,B.2.1,()),eltS (((0:Int),(0:Int)),none) f c,((eltS (((0:Int),(0:Int)),none) f c).1,()),C,D,E,none)) (appC 40 D (lst (some [(B.1,B.2.1,E)]))/\k2 (x,y,z,IntKind.wrap IntKind.i64 (e+(1:Int)),d,A,(),C,appL D (lst (some [(B.1,B.2.1,E)]))))) (p,q,r,s,(eltS ((0:Int),(0:Int),none) t (eltS (0:Int) q s)).2.2,szSl (eltS ((0:Int),(0:Int),none) t (eltS (0:Int) q s)).2.2,(0:Int),t,u,(),((eltS ((0:Int),(0:Int),none) t (eltS (0:Int) q s)).1,(eltS ((0:Int),(0:Int),none) t (eltS (0:Int) q s)).2.1,()),v,w,none)) (Q w)) (i,i,szSl i,(0:Int),m,n,(),o,none))) (b,b,szSl b,(0:Int),a,none,some (repS (szSl b) (0:Int))))):
 callV Pg q4I [⟨tMo,a⟩,⟨tL,b⟩] tMo Q:=
 q02 (c:=q01 Tryz.f14) (ann:=q8y) Tryz.func14 rfl Tryz.call14 rfl rfl hQ (kcast (by kernel_rfl) h)
def q8x:Ann:=.nil
theorem qaS {Q:(DMo×(Int×Unit))->Prop} (a:DMo) (b:DL) (hQ:∃ r,Q r) (h:
 (callV Pg q4J [⟨tMo,a⟩] .bool (fun p0=>brV (notB p0) (Q (none,(1:Int),())) (callV Pg q4G [⟨tMo,a⟩,⟨tL,b⟩] .bool (fun p1=>brV (notB p1) (Q (none,(6:Int),())) (callV Pg q4I [⟨tMo,a⟩,⟨tL,b⟩] tMo (fun p2=>Q (p2,(0:Int),())))))))):
 callV Pg q4H [⟨tMo,a⟩,⟨tL,b⟩] (.tup (.pair tMo (.pair tI .unit))) Q:=
 q02 (c:=q01 Tryz.f6) (ann:=q8x) Tryz.func6 rfl Tryz.call6 rfl rfl hQ (kcast (by kernel_rfl) h)
def q7D:Ann:=(.s (.seq (.seq (.reg [] [] (some ⟨[(2,.ref 2 0)],[.var 1 tL,.var 22 .bool,.box 2 tMo]⟩)) .nil) (.s (.s (.seq (.seq (.reg [] [] (some ⟨[(2,.ref 2 0),(7,.ref 7 0)],[.var 1 tL,.var 8 tI,.var 44 .bool,.box 2 tMo,.box 7 tMo]⟩)) .nil) (.s (.s (.seq (.s (.blk none (.loop ⟨[(2,.ref 2 0),(7,.ref 7 0),(9,.own 50)],[.var 51 tL,.var 52 tI,.var 53 tI,.box 2 tMo,.box 7 tMo,.arr 50 tI]⟩ .nil))) (.seq (.reg [] [(2,([50],false))] none) (.seq (.reg [] [] (some ⟨[],[.var 4 .bool]⟩)) .nil))))))))))
theorem q9Z {Q:Bool->Prop} (a:DMo) (b:DL) (hQ:∃ r,Q r) (h:
 (joinV (DL×Bool×DMo) (fun (i,j,k)=>brV j (callV Pg q2n [] .bool (fun p1=>Q p1)) (callV Pg q4H [⟨tMo,k⟩,⟨tL,i⟩] (.tup (.pair tMo (.pair tI .unit))) (fun p1=>callV Pg q3d [⟨tMo,k⟩,⟨tL,i⟩] (.tup (.pair tMo (.pair tI .unit))) (fun p2=>joinV (DL×Int×Bool×DMo×DMo) (fun (l,m,n,o,p)=>brV n (Q false) (brV (notB (decide (m=(0:Int)))) (callV Pg q2n [] .bool (fun p4=>Q p4)) (mkC 8 (szSl l) (szSl l)/\loopV (DL×Int×Int×DMo×DMo×DL) (fun k4  (q,r,s,t,u,v)=>brV (decide (s<r)) (inS q s/\inS v (eltS (0:Int) q s)/\k4 (q,r,IntKind.wrap IntKind.i64 (s+(1:Int)),t,u,setO v (toN (eltS (0:Int) q s)) s)) (callV Pg q3d [⟨tMo,u⟩,⟨tL,v⟩] (.tup (.pair tMo (.pair tI .unit))) (fun p6=>joinV Bool (fun p7=>Q p7) (fun k7=>brV (decide (p6.2.1=(0:Int))) (callV Pg q3n [⟨tMo,p6.1⟩,⟨tMo,t⟩] .bool (fun p8=>brV p8 (callV Pg q2n [] .bool (fun p9=>k7 p9)) (k7 false))) (k7 false))))) (l,szSl l,(0:Int),o,p,some (repS (szSl l) (0:Int)))))) (fun k3=>brV (notB (decide (p2.2.1=p1.2.1))) (k3 (i,p2.2.1,true,k,p2.1)) (callV Pg q3n [⟨tMo,p2.1⟩,⟨tMo,p1.1⟩] .bool (fun p4=>k3 (i,p2.2.1,notB p4,k,p2.1)))))))) (fun k0=>callV Pg q4h [⟨.sl tMo,some [a]⟩] .bool (fun p1=>brV (notB p1) (k0 (b,true,a)) (k0 (b,decide ((60:Int)<(szSl b)),a)))))):
 callV Pg q5T [⟨tMo,a⟩,⟨tL,b⟩] .bool Q:=
 q02 (c:=q01 Tryz.f3) (ann:=q7D) Tryz.func3 rfl Tryz.call3 rfl rfl hQ (kcast (by kernel_rfl) h)
end Go.Proofs.Pf
