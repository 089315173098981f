/- Typed pure data, a condition on code that says what a call gives, what the code of each function comes to, and what each function gives. -/
import Derived.Test.YtfifpjkegdkdpaaGreatA8
import Derived.Test.YtfifpjkegdkdpaaGreatA9
set_option linter.unusedVariables false
set_option linter.unusedSimpArgs false
set_option linter.unnecessarySimpa false
namespace Go.Proofs.Pf.B
open Go Go.VM
theorem q4N {a b:List Int} (ha:Dig a) (hb:Dig b) {k:Nat} (hl:a.length=b.length) (hk:k<a.length) (heq:nv (a.drop (k+1))=nv (b.drop (k+1))) (hlt:a.getD k 0<b.getD k 0):nv a<nv b:=by
 rw[q2S a k (by omega),q2S b k (by omega),q0z a k hk,q0z b k (by omega),heq]
 have h1:=nv_lt (ha.take k)
 have h2:=nv_nonneg (hb.take k)
 rw[List.length_take,Nat.min_eq_left (by omega)] at h1
 have hp:=pow_posB k
 have:1073741824 ^ k*(a.getD k 0+1073741824*nv (b.drop (k+1))+1)<=(1073741824:Int) ^ k*(b.getD k 0+1073741824*nv (b.drop (k+1))):=Int.mul_le_mul_of_nonneg_left (by omega) (by omega)
 rw[Int.mul_add _ _ 1] at this
 omega
theorem q12 {a b:List Int} (ha:Dig a) (hb:Dig b) (tb:Trm b) (h:a.length<b.length):nv a<nv b:=by
 have h1:=nv_lt ha
 have hne:b≠[]:=by rintro rfl;simp at h
 have h2:=tb.ge hb hne
 have h3:=pow_monoB (show a.length<=b.length - 1 by omega)
 omega
theorem q6D {a b:Option (List Int)} (ha:Dig (a.getD [])) (hb:Dig (b.getD [])) (ta:Trm (a.getD [])) (tb:Trm (b.getD [])) (la:(a.getD []).length<=1099511627776):
 callV Pg q1X [⟨tL,a⟩,⟨tL,b⟩] tI fun r=>r=cmpI (nv (a.getD [])) (nv (b.getD [])):=by
 refine ql4 a b ⟨_,rfl⟩ (q00.2 ⟨fun h=>q00.2 ⟨fun h2=>?_,fun h2=>?_⟩,fun h=>?_⟩)
 . have h2:=dec_t h2
   simp only[szSl] at h2
   have:=q12 ha hb tb (by omega)
   rw[cmpI,if_pos this]
 . have h2:=dec_f h2
   have h:=not_t h
   simp only[szSl] at h h2
   have:=q12 hb ha ta (by omega)
   rw[cmpI,if_neg (by omega),if_pos this]
 . have h:=not_f h
   simp only[szSl] at h
   refine loopE (fun p=>p.1=a/\p.2.1=b/\∃ k:Nat,p.2.2=(k:Int) - 1/\k<=(a.getD []).length/\nv ((a.getD []).drop k)=nv ((b.getD []).drop k)) (fun p=>(p.2.2+1).toNat) ⟨rfl,rfl,(a.getD []).length,?_,Nat.le_refl _,?_⟩ ?_
   . simp only[szSl];exact wi64 (by omega) (by omega)
   . rw[List.drop_length,show (a.getD []).length=(b.getD []).length by omega,List.drop_length]
   . rintro⟨A,B,i⟩ ⟨e1,e2,k,e3,h1,h2⟩
     simp only at e1 e2 e3;subst e1 e2 e3
     refine q00.2 ⟨fun hc=>?_,fun hc=>?_⟩
     . have hc:=dec_t hc
       (try simp only at hc)
       obtain⟨k,rfl⟩:∃ j,k=j+1:=⟨k - 1,by omega⟩
       have ek:(((k+1:Nat):Int) - 1).toNat=k:=by omega
       have i1:inS A (((k+1:Nat):Int) - 1):=⟨by omega,by omega⟩
       have i2:inS B (((k+1:Nat):Int) - 1):=⟨by omega,by omega⟩
       refine⟨i1,i2,q00.2 ⟨fun hd=>?_,fun hd=>⟨i1,i2,q00.2 ⟨fun hd2=>?_,fun hd2=>?_⟩⟩⟩⟩
       . have hd:=dec_t hd
         simp only[eltS,ek] at hd
         have:=q4N ha hb (by omega) (by omega) h2 hd
         rw[cmpI,if_pos this]
       . have hd2:=dec_t hd2
         simp only[eltS,ek] at hd2
         have:=q4N hb ha (by omega) (by omega) h2.symm hd2
         rw[cmpI,if_neg (by omega),if_pos this]
       . have hd:=dec_f hd
         have hd2:=dec_f hd2
         simp only[eltS,ek] at hd hd2
         have hd3:(A.getD []).getD k 0=(B.getD []).getD k 0:=by omega
         refine⟨⟨rfl,rfl,k,?_,by omega,?_⟩,?_⟩
         . show IntKind.wrap IntKind.i64 (((k+1:Nat):Int) - 1 - 1)=(k:Int) - 1;rw[wi64 (by omega) (by omega)];omega
         . rw[q0z (A.getD []) k (by omega),q0z (B.getD []) k (by omega),hd3,h2]
         . show (IntKind.wrap IntKind.i64 (((k+1:Nat):Int) - 1 - 1)+1).toNat<(((k+1:Nat):Int) - 1+1).toNat;rw[wi64 (by omega) (by omega)];omega
     . have hc:=dec_f hc
       (try simp only at hc)
       have:k=0:=by omega
       subst this
       simp only[List.drop_zero] at h2
       rw[cmpI,if_neg (by omega),if_neg (by omega)]
theorem r_trim {a:Option (List Int)} (ha:(a.getD []).length<4611686018427387904):
 callV Pg q2I [⟨tL,a⟩] tL fun r=>r=a.map trim:=by
 refine qlb a ⟨_,rfl⟩ (loopE (fun p=>p.map trim=a.map trim/\(p.getD []).length<=(a.getD []).length) (fun p=>(p.getD []).length) ⟨rfl,Nat.le_refl _⟩ ?_)
 rintro p ⟨h1,h2⟩
 refine joinR (fun q=>q.1=p/\(q.2=true->∃ l',p=some (l' ++ [0]))/\(q.2=false->p=a.map trim)) ?_ ?_
 . rintro⟨q,c⟩ ⟨e,hc1,hc2⟩
   simp only at e;subst e
   refine q00.2 ⟨fun h=>?_,fun h=>hc2 h⟩
   obtain⟨l',rfl⟩:=hc1 h
   simp only[szSl,Option.getD_some,List.length_append,List.length_cons,List.length_nil] at h2 ⊢
   rw[wi64 (by omega) (by omega)]
   have e:(((l'.length+(0+1):Nat):Int) - 1).toNat=l'.length:=by omega
   refine⟨⟨by omega,by omega,by simp;omega⟩,?_⟩
   simp only[slcS,Option.map_some,e]
   have e2:((l' ++ [0]).take l'.length).drop (0:Int).toNat=l':=by simp
   rw[e2]
   refine⟨⟨?_,by simp only[Option.getD_some];omega⟩,by simp⟩
   rw[<-h1];simp[q4w]
 . intro k hk
   refine q00.2 ⟨fun hb=>?_,fun hb=>hk _ ⟨rfl,fun h=>by simp at h,fun _=>?_⟩⟩
   . have hb:=of_decide_eq_true hb
     simp only[szSl] at hb ⊢
     rw[wi64 (by omega) (by omega)]
     cases p with
     | none=>simp at hb
     | some l=>
      simp only[Option.getD_some] at *
      rcases List.eq_nil_or_concat l with rfl | ⟨l',x,rfl⟩
      . simp at hb
      . simp only[List.concat_eq_append] at *
        have e:(((l' ++ [x]).length:Int) - 1).toNat=l'.length:=by simp
        have ex:eltS (0:Int) (some (l' ++ [x])) (((l' ++ [x]).length:Int) - 1)=x:=by simp only[eltS,Option.getD_some,e];simp[List.getD]
        refine⟨⟨by omega,by simp only[Option.getD_some];omega⟩,hk _ ⟨rfl,fun h=>?_,fun h=>?_⟩⟩
        . rw[ex] at h
          have h:x=0:=of_decide_eq_true h
          exact⟨l',by rw[h]⟩
        . rw[ex] at h
          have h:x≠0:=of_decide_eq_false h
          rw[<-h1];simp[q4v _ _ h]
   . have hb:=of_decide_eq_false hb
     cases p with
     | none=>simpa using h1
     | some l=>
      simp only[szSl,Option.getD_some] at hb
      have:l=[]:=by apply List.eq_nil_of_length_eq_zero;omega
      subst this
      rw[<-h1];rfl
def RIV (x:Int×Bool×Option (List Int)) (n:Int):Prop:=
 (x.2.2.getD []=[]/\x.1=n /\ -2305843009213693952<n/\n<2305843009213693952) ∨
 (x.2.2.getD []≠[]/\Dig (x.2.2.getD [])/\Trm (x.2.2.getD [])/\2305843009213693952<=nv (x.2.2.getD [])/\x.1=0/\n=if x.2.1=true then -nv (x.2.2.getD []) else nv (x.2.2.getD []))
theorem RIV.small {v n:Int} {b:Bool} (h:v=n) (h1:-2305843009213693952<n) (h2:n<2305843009213693952):RIV (v,b,none) n:=.inl ⟨rfl,h,h1,h2⟩
theorem nv_ex:∀ (k:Nat) (a:Nat),a<k->∃ l,Dig l/\Trm l/\nv l=(a:Int)
 | 0,a,h=>by omega
 | k+1,a,h=>by
  by_cases h0:a=0
  . exact⟨[],Dig.nil,fun d hd=>by simp at hd,by rw[h0];rfl⟩
  . by_cases h1:a<1073741824
    . exact⟨[(a:Int)],Dig.cons (by omega) (by omega) Dig.nil,fun d hd=>by simp at hd;omega,by simp[nv]⟩
    . obtain⟨l,q1,q2,q3⟩:=nv_ex k (a / 1073741824) (by omega)
      refine⟨((a % 1073741824:Nat):Int) :: l,Dig.cons (by omega) (by omega) q1,?_,by simp only[nv,q3];omega⟩
      intro d hd
      rcases List.eq_nil_or_concat l with rfl | ⟨l',x,rfl⟩
      . simp only[nv] at q3;omega
      . refine q2 d ?_
        simp only[List.concat_eq_append] at hd ⊢
        rw[<-List.cons_append,List.getLast?_concat] at hd
        rw[List.getLast?_concat];exact hd
theorem RIV_ex (n:Int):∃ r,RIV r n:=by
 by_cases h:-2305843009213693952<n/\n<2305843009213693952
 . exact⟨(n,false,none),.inl ⟨rfl,rfl,h.1,h.2⟩⟩
 . obtain⟨l,q1,q2,q3⟩:=nv_ex (n.natAbs+1) n.natAbs (by omega)
   refine⟨(0,decide (n<0),some l),.inr ⟨?_,q1,q2,?_,rfl,?_⟩⟩
   . rintro rfl;simp only[Option.getD_some,nv] at q3;omega
   . simp only[Option.getD_some,q3];omega
   . simp only[Option.getD_some,q3,decide_eq_true_eq];split<;>omega
theorem q1n {l:Option (List Int)}:(0<szSl l)↔l.getD []≠[]:=by
 simp only[szSl]
 constructor
 . intro h e;rw[e] at h;simp at h
 . intro h;have:=List.length_pos_iff.2 h;omega
theorem q0P {x:Int×Bool×Option (List Int)} {n:Int} (h:RIV x n):callV Pg q0g [⟨tRI,x⟩] tI fun r=>r=sgn n:=by
 refine qkL x ⟨_,rfl⟩ (joinR (fun p=>p=(decide (n<0),x)) ?_ ?_)
 . rintro _ rfl
   refine q00.2 ⟨fun h1=>?_,fun h1=>joinR (fun c=>c=decide (0<n)) ?_ ?_⟩
   . have h1:n<0:=dec_t h1
     rw[sgn,if_neg (by omega),if_pos h1]
   . rintro _ rfl
     have h1:¬ n<0:=dec_f h1
     refine q00.2 ⟨fun h2=>?_,fun h2=>?_⟩
     . have h2:=dec_t h2
       rw[sgn,if_pos h2]
     . have h2:=dec_f h2
       rw[sgn,if_neg h2,if_neg h1]
   . intro k hk
     have h1:¬ n<0:=dec_f h1
     refine q00.2 ⟨fun h2=>hk _ ?_,fun h2=>hk _ ?_⟩
     . have h2:=q1n.1 (dec_t h2)
       rcases h with ⟨q,_⟩ | ⟨q1,q2,q3,q4,q5,q6⟩
       . exact absurd q h2
       . symm;apply decide_eq_true;split at q6<;>omega
     . have h2:¬ 0<szSl x.2.2:=dec_f h2
       rw[q1n] at h2
       rcases h with ⟨q,q2,_⟩ | ⟨q1,_⟩
       . exact decide_eq_decide.2 (by rw[q2])
       . exact absurd q1 h2
 . intro k hk
   refine q00.2 ⟨fun h2=>?_,fun h2=>hk _ ?_⟩
   . have h2:=q1n.1 (dec_t h2)
     rcases h with ⟨q,_⟩ | ⟨q1,q2,q3,q4,q5,q6⟩
     . exact absurd q h2
     . refine q00.2 ⟨fun h3=>hk _ ?_,fun h3=>hk _ ?_⟩
       . rw[if_pos h3] at q6
         have:decide (n<0)=true:=decide_eq_true (by omega)
         rw[this]
       . rw[if_neg (by rw[h3];simp)] at q6
         have e1:decide (n<0)=false:=decide_eq_false (by omega)
         have e2:decide (x.1<0)=false:=decide_eq_false (by omega)
         rw[e1,e2]
   . have h2:¬ 0<szSl x.2.2:=dec_f h2
     rw[q1n] at h2
     rcases h with ⟨q,q2,_⟩ | ⟨q1,_⟩
     . show (decide (x.1<0),x)=_
       rw[q2]
     . exact absurd q1 h2
theorem q4R {x:Int×Bool×Option (List Int)} {n:Int} (h:RIV x n):callV Pg q1a [⟨tRI,x⟩] tRI fun r=>RIV r (-n):=by
 refine qkI x (RIV_ex _) (joinR (fun p=>RIV p (-n)) (fun p hp=>hp) ?_)
 intro k hk
 refine q00.2 ⟨fun h2=>hk _ ?_,fun h2=>hk _ ?_⟩
 . have h2:=q1n.1 (dec_t h2)
   rcases h with ⟨q,_⟩ | ⟨q1,q2,q3,q4,q5,q6⟩
   . exact absurd q h2
   . refine .inr ⟨q1,q2,q3,q4,?_,?_⟩
     . show IntKind.wrap IntKind.i64 (0 - x.1)=0;rw[q5];rfl
     . show -n=if notB x.2.1=true then _ else _
       cases hx:x.2.1<;>rw[hx] at q6<;>simp[notB] at q6 ⊢<;>omega
 . have h2:¬ 0<szSl x.2.2:=dec_f h2
   rw[q1n] at h2
   rcases h with ⟨q,q2,q3,q4⟩ | ⟨q1,_⟩
   . refine .inl ⟨q,?_,by omega,by omega⟩
     show IntKind.wrap IntKind.i64 (0 - x.1) = -n
     rw[q2,wi64 (by omega) (by omega)];omega
   . exact absurd q1 h2
theorem r_Abs {x:Int×Bool×Option (List Int)} {n:Int} (h:RIV x n):callV Pg q3p [⟨tRI,x⟩] tRI fun r=>RIV r n.natAbs:=by
 refine qkF x (RIV_ex _) ((q0P h).mono ?_)
 rintro _ rfl
 refine q00.2 ⟨fun hb=>?_,fun hb=>?_⟩
 . have hb:sgn n<0:=dec_t hb
   have:n<0:=by rcases sgn3 n with ⟨e,_⟩ | ⟨e,_⟩ | ⟨e,_⟩<;>omega
   refine (q4R h).mono fun r hr=>?_
   rw[show (n.natAbs:Int) = -n by omega];exact hr
 . have hb:¬ sgn n<0:=dec_f hb
   have:¬ n<0:=by rcases sgn3 n with ⟨e,_⟩ | ⟨e,_⟩ | ⟨e,_⟩<;>omega
   rw[show (n.natAbs:Int)=n by omega];exact h
theorem r_Small {x:Int×Bool×Option (List Int)} {n:Int} (h:RIV x n):callV Pg q2F [⟨tRI,x⟩] (.tup (.pair tI (.pair .bool .unit))) fun r=>r=smallI n 1152921504606846976:=by
 refine qkM x ⟨_,rfl⟩ (joinR (fun p=>∃ c:Bool,p=(c,x)/\(c=true->¬ (n<=1152921504606846976 /\ -1152921504606846976<=n))/\(c=false->n<=1152921504606846976 /\ -1152921504606846976<=n/\x.1=n)) ?_ ?_)
 . rintro _ ⟨c,rfl,h1,h2⟩
   refine q00.2 ⟨fun hb=>?_,fun hb=>?_⟩
   . rw[smallI,if_neg (h1 hb)]
   . obtain⟨q1,q2,q3⟩:=h2 hb
     rw[smallI,if_pos ⟨q1,q2⟩,<-q3]
 . intro k hk
   refine q00.2 ⟨fun h2=>hk _ ⟨true,rfl,fun _=>?_,fun h=>by simp at h⟩,fun h2=>?_⟩
   . have h2:=q1n.1 (dec_t h2)
     rcases h with ⟨q,_⟩ | ⟨q1,q2,q3,q4,q5,q6⟩
     . exact absurd q h2
     . split at q6<;>omega
   . have h2:¬ 0<szSl x.2.2:=dec_f h2
     rw[q1n] at h2
     rcases h with ⟨q,q2,q3,q4⟩ | ⟨q1,_⟩
     . refine q00.2 ⟨fun h3=>hk _ ⟨true,rfl,fun _=>?_,fun h=>by simp at h⟩,fun h3=>hk _ ⟨_,rfl,fun h4=>?_,fun h4=>?_⟩⟩
       . have h3:1152921504606846976<x.1:=dec_t h3
         omega
       . have h4:x.1 < -1152921504606846976:=dec_t h4
         omega
       . have h3:¬ 1152921504606846976<x.1:=dec_f h3
         have h4:¬ x.1 < -1152921504606846976:=dec_f h4
         omega
     . exact absurd q1 h2
def ListOf (n:Int) (r:Option (List Int)):Prop:=Dig (r.getD [])/\Trm (r.getD [])/\nv (r.getD [])=n.natAbs
theorem q0d {l:Option (List Int)} {x:Int}:(appL l (lst (some [x]))).getD []=l.getD [] ++ [x]:=by cases l<;>rfl
theorem q4k {x:Int×Bool×Option (List Int)} {n:Int} (h:RIV x n):callV Pg q0U [⟨tRI,x⟩] tL fun r=>ListOf n r:=by
 refine qkO x ?_ (q00.2 ⟨fun h2=>?_,fun h2=>?_⟩)
 . obtain⟨l,q1,q2,q3⟩:=nv_ex (n.natAbs+1) n.natAbs (by omega)
   exact⟨some l,q1,q2,q3⟩
 . have h2:=q1n.1 (dec_t h2)
   rcases h with ⟨q,_⟩ | ⟨q1,q2,q3,q4,q5,q6⟩
   . exact absurd q h2
   . exact⟨q2,q3,by split at q6<;>omega⟩
 . have h2:¬ 0<szSl x.2.2:=dec_f h2
   rw[q1n] at h2
   rcases h with ⟨q,q2,q3,q4⟩ | ⟨q1,_⟩
   case inr=>exact absurd q1 h2
   have em:maxI x.1 (IntKind.wrap IntKind.i64 (0 - x.1))=n.natAbs:=by
    rw[q2,wi64 (by omega) (by omega),maxI];split<;>omega
   rw[em]
   refine loopE (fun p=>0<=p.1/\p.1<2305843009213693952/\Dig (p.2.getD [])/\nv (p.2.getD [])+1073741824 ^ (p.2.getD []).length*p.1=n.natAbs/\(p.1=0->Trm (p.2.getD []))) (fun p=>p.1.toNat) ⟨by omega,by omega,Dig.nil,by simp[nv],fun _ d hd=>by simp at hd⟩ ?_
   rintro⟨m,o⟩ ⟨m0,m1,hd,hv,ht⟩
   dsimp only at m0 m1 hd hv ht ⊢
   refine q00.2 ⟨fun h3=>?_,fun h3=>?_⟩
   . have h3:0<m:=dec_t h3
     have hlen:(o.getD []).length<=2:=by
      rcases Nat.lt_or_ge 2 (o.getD []).length with hl | hl
      . exfalso
        have h4:=pow_monoB (show 3<=(o.getD []).length by omega)
        have h5:(1073741824:Int) ^ (o.getD []).length*1<=1073741824 ^ (o.getD []).length*m:=Int.mul_le_mul_of_nonneg_left (by omega) (by have:=pow_posB (o.getD []).length;omega)
        have h6:=nv_nonneg hd
        have:(1073741824:Int) ^ 3=1237940039285380274899124224:=by decide
        omega
      . exact hl
     rw[Int.tdiv_eq_ediv_of_nonneg m0,Int.tmod_eq_emod_of_nonneg m0,wi64 (by omega) (by omega)]
     refine⟨by decide,?_,by decide,⟨by omega,by omega,?_,?_,?_⟩,by omega⟩
     . show ((o.getD []).length+1)*8<=140737488355328;omega
     . rw[q0d];exact hd.app (Dig.cons (by omega) (by omega) Dig.nil)
     . rw[q0d,q0f,List.length_append,List.length_singleton,Int.pow_succ,<-hv]
       have:=Int.emod_add_mul_ediv m 1073741824
       generalize m % 1073741824=u at *
       generalize m / 1073741824=v at *
       generalize (1073741824:Int) ^ (o.getD []).length=K
       rw[<-this];grind
     . intro e d hd2
       rw[q0d] at hd2
       simp at hd2;omega
   . have h3:¬ 0<m:=dec_f h3
     have:m=0:=by omega
     subst this
     exact⟨hd,ht rfl,by rw[<-hv];simp⟩
end Go.Proofs.Pf.B
namespace Go.Proofs.Pf.B
open Go Go.VM
def sg (b:Bool) (n:Int):Int:=if b=true then -n else n
theorem q2d {b:Option (List Int)}:(b.map trim).getD []=trim (b.getD []):=by cases b<;>rfl
theorem qao {l:List Int} (h:Dig l) (k:Nat):0<=nv (l.drop k)/\nv (l.drop k)<=nv l:=by
 have h1:=nv_nonneg (h.drop k)
 have h2:=(take_lt h k).1
 have h3:=q0b l k
 have h4:=pow_posB k
 have h5:1*nv (l.drop k)<=1073741824 ^ k*nv (l.drop k):=Int.mul_le_mul_of_nonneg_right (by omega) h1
 omega
theorem three {t:List Int} (hd:Dig t) (ht:Trm t):(3<t.length->2305843009213693952<=nv t)/\(t.length=3->(2<=t.getD 2 0↔2305843009213693952<=nv t))/\(t.length<3->nv t<2305843009213693952):=by
 refine⟨fun h=>?_,fun h=>?_,fun h=>?_⟩
 . have h1:=ht.ge hd (by rintro rfl;simp at h)
   have h2:=pow_monoB (show 3<=t.length - 1 by omega)
   have:(1073741824:Int) ^ 3=1237940039285380274899124224:=by decide
   omega
 . have h1:=take_lt hd 2
   have h2:=q0b t 2
   rw[q0p t 2,List.drop_of_length_le (by omega)] at h2
   have:(1073741824:Int) ^ 2=1152921504606846976:=by decide
   rw[this] at h1 h2
   simp only[nv] at h2
   constructor<;>intro<;>omega
 . have h1:=nv_lt hd
   have h2:=pow_monoB (show t.length<=2 by omega)
   have:(1073741824:Int) ^ 2=1152921504606846976:=by decide
   omega
theorem q4l {c:Bool} {b:Option (List Int)} (hl:Dig (b.getD [])) (hlen:(b.getD []).length<=1099511627776):
 callV Pg q0X [⟨.bool,c⟩,⟨tL,b⟩] tRI fun r=>RIV r (sg c (nv (b.getD []))):=by
 have hd:=hl.trim
 have ht:=trm_trim (b.getD [])
 have hv:=q1j (b.getD [])
 have hn:=nv_nonneg hl
 have hll:=q6l (b.getD [])
 obtain⟨g1,g2,g3⟩:=three hd ht
 refine ql7 c b (RIV_ex _) (loopE (fun p=>p.1=c/\p.2.1.map trim=b.map trim/\(p.2.1.getD []).length<=(b.getD []).length) (fun p=>(p.2.1.getD []).length) ⟨rfl,rfl,Nat.le_refl _⟩ ?_)
 rintro⟨c',p,j1,j2,j3⟩ ⟨hc',h1,h2⟩
 obtain rfl:c=c':=hc'.symm
 dsimp only at h1 h2 ⊢
 refine joinR (fun q=>∃ e:Bool,q=(c,p,e,j1,j2,j3)/\(e=true->∃ l',p=some (l' ++ [0]))/\(e=false->p=b.map trim)) ?_ ?_
 . rintro _ ⟨e,rfl,hc1,hc2⟩
   refine q00.2 ⟨fun h=>?_,fun h=>?_⟩
   . obtain⟨l',rfl⟩:=hc1 h
     simp only[szSl,Option.getD_some,List.length_append,List.length_cons,List.length_nil] at h2 ⊢
     rw[wi64 (by omega) (by omega)]
     have e:(((l'.length+(0+1):Nat):Int) - 1).toNat=l'.length:=by omega
     refine⟨⟨by omega,by omega,by simp;omega⟩,?_⟩
     simp only[slcS,Option.map_some,e]
     have e2:((l' ++ [0]).take l'.length).drop (0:Int).toNat=l':=by simp
     rw[e2]
     refine⟨⟨by trivial,?_,by simp only[Option.getD_some];omega⟩,by simp⟩
     rw[<-h1];simp[q4w]
   . obtain rfl:=hc2 h
     have et:(b.map trim).getD []=trim (b.getD []):=q2d
     refine joinR (fun q=>∃ e:Bool,q=(c,b.map trim,e,j1,j2,j3)/\(e=true↔2305843009213693952<=nv (trim (b.getD [])))) ?_ ?_
     . rintro _ ⟨e,rfl,he⟩
       refine q00.2 ⟨fun h=>?_,fun h=>?_⟩
       . have h5:=he.1 h
         refine .inr ⟨?_,?_⟩
         . show (b.map trim).getD []≠[]
           rw[et];intro e;rw[e] at h5;simp[nv] at h5
         . show Dig ((b.map trim).getD [])/\Trm ((b.map trim).getD [])/\2305843009213693952<=nv ((b.map trim).getD [])/\(0:Int)=0/\sg c (nv (b.getD []))=if c=true then -nv ((b.map trim).getD []) else nv ((b.map trim).getD [])
           rw[et]
           exact⟨hd,ht,h5,rfl,by rw[hv];rfl⟩
       . have h5:¬ 2305843009213693952<=nv (trim (b.getD [])):=fun h6=>by have:=he.2 h6;dsimp only at h;rw[h] at this;simp at this
         refine loopE (fun q=>∃ k:Nat,q=(c,b.map trim,nv ((trim (b.getD [])).drop k),(k:Int) - 1,j1,j2,j3)/\k<=(trim (b.getD [])).length) (fun q=>(q.2.2.2.1+1).toNat) ⟨(trim (b.getD [])).length,?_,Nat.le_refl _⟩ ?_
         . simp only[szSl,et]
           rw[wi64 (by omega) (by omega),List.drop_length];rfl
         rintro _ ⟨k,rfl,hk⟩
         dsimp only
         refine q00.2 ⟨fun h=>?_,fun h=>?_⟩
         . have h:(0:Int)<=(k:Int) - 1:=dec_t h
           obtain⟨k,rfl⟩:∃ j,k=j+1:=⟨k - 1,by omega⟩
           have ek:((k+1:Nat):Int) - 1=(k:Int):=by omega
           have b1:=qao hd (k+1)
           have b2:=qao hd k
           have b3:=q0p (trim (b.getD [])) k
           have g:=hd.get k
           have e1:eltS (0:Int) (b.map trim) (k:Int)=(trim (b.getD [])).getD k 0:=by simp only[eltS,et,Int.toNat_natCast]
           rw[ek,e1,wi64 (x:=nv ((trim (b.getD [])).drop (k+1))*1073741824) (by omega) (by omega),wi64 (x:=nv ((trim (b.getD [])).drop (k+1))*1073741824+_) (by omega) (by omega),wi64 (x:=(k:Int) - 1) (by omega) (by omega)]
           refine⟨⟨by omega,by rw[et];omega⟩,⟨k,?_,by omega⟩,by omega⟩
           rw[b3,Int.mul_comm,Int.add_comm]
         . have h:¬ (0:Int)<=(k:Int) - 1:=dec_f h
           obtain rfl:k=0:=by omega
           simp only[List.drop_zero,hv] at h5 ⊢
           refine joinR (fun q=>q.1=sg c (nv (b.getD []))) (fun q hq=>?_) ?_
           . exact RIV.small hq (by unfold sg;split<;>omega) (by unfold sg;split<;>omega)
           . intro k hk
             refine q00.2 ⟨fun h=>hk _ ?_,fun h=>hk _ ?_⟩
             . have h:c=true:=h
               show IntKind.wrap IntKind.i64 (0 - nv (b.getD []))=_
               rw[wi64 (by omega) (by omega),sg,if_pos h];omega
             . have h:c=false:=h
               show nv (b.getD [])=_
               rw[sg,h];simp
     . intro k hk
       dsimp only
       refine q00.2 ⟨fun h=>hk _ ⟨true,rfl,?_⟩,fun h=>q00.2 ⟨fun h2=>?_,fun h2=>hk _ ⟨false,rfl,?_⟩⟩⟩
       . have h:=dec_t h
         simp only[szSl,et] at h
         have:=g1 (by omega)
         simp[this]
       . have h2:=dec_t h2
         simp only[szSl,et] at h2
         refine⟨⟨by omega,by rw[et];omega⟩,hk _ ⟨_,rfl,?_⟩⟩
         have e1:eltS (0:Int) (b.map trim) (2:Int)=(trim (b.getD [])).getD 2 0:=by simp only[eltS,et];rfl
         rw[e1,decide_eq_true_eq]
         exact g2 (by omega)
       . have h:=dec_f h
         have h2:=dec_f h2
         simp only[szSl,et] at h h2
         have:=g3 (by omega)
         simp;omega
 . intro k hk
   refine q00.2 ⟨fun hb=>?_,fun hb=>hk _ ⟨false,rfl,fun h=>by simp at h,fun _=>?_⟩⟩
   . have hb:=of_decide_eq_true hb
     simp only[szSl] at hb ⊢
     rw[wi64 (by omega) (by omega)]
     cases p with
     | none=>simp at hb
     | some l=>
      simp only[Option.getD_some] at *
      rcases List.eq_nil_or_concat l with rfl | ⟨l',x,rfl⟩
      . simp at hb
      . simp only[List.concat_eq_append] at *
        have e:(((l' ++ [x]).length:Int) - 1).toNat=l'.length:=by simp
        have ex:eltS (0:Int) (some (l' ++ [x])) (((l' ++ [x]).length:Int) - 1)=x:=by simp only[eltS,Option.getD_some,e];simp[List.getD]
        refine⟨⟨by omega,by simp only[Option.getD_some];omega⟩,hk _ ⟨_,rfl,fun h=>?_,fun h=>?_⟩⟩
        . rw[ex] at h
          have h:x=0:=of_decide_eq_true h
          exact⟨l',by rw[h]⟩
        . rw[ex] at h
          have h:x≠0:=of_decide_eq_false h
          rw[<-h1];simp[q4v _ _ h]
   . have hb:=of_decide_eq_false hb
     cases p with
     | none=>simpa using h1
     | some l=>
      simp only[szSl,Option.getD_some] at hb
      have:l=[]:=by apply List.eq_nil_of_length_eq_zero;omega
      subst this
      rw[<-h1];rfl
theorem absI {a:Int} (h1:-9223372036854775808<a) (h2:a<9223372036854775808):maxI a (IntKind.wrap IntKind.i64 (0 - a))=a.natAbs:=by
 rw[wi64 (by omega) (by omega),maxI];split<;>omega
theorem q73 (a:Int):((a.tmod 1073741824).natAbs:Int)=(a.natAbs:Int) % 1073741824/\((a.tdiv 1073741824).natAbs:Int)=(a.natAbs:Int) / 1073741824:=by
 rw[Int.natAbs_tmod,Int.natAbs_tdiv];exact⟨by simp,by show ((a.natAbs / 1073741824:Nat):Int)=_;simp⟩
theorem r_Of {n:Int} (n1:-9223372036854775808<=n) (n2:n<9223372036854775808):callV Pg q0r [⟨tI,n⟩] tRI fun r=>RIV r n:=by
 refine qkS n (RIV_ex _) (joinR (fun p=>∃ c:Bool,p=(n,c,(0:Int),false,none)/\(c=true ↔ -2305843009213693952<n/\n<2305843009213693952)) ?_ ?_)
 . rintro _ ⟨c,rfl,hc⟩
   refine q00.2 ⟨fun h=>?_,fun h=>?_⟩
   . obtain⟨q1,q2⟩:=hc.1 h
     exact RIV.small rfl q1 q2
   . have hbig:¬ (-2305843009213693952<n/\n<2305843009213693952):=fun h3=>by have:=hc.2 h3;(try dsimp only at h);rw[h] at this;simp at this
     have t0:=q73 n
     have a0:n.tmod 1073741824=n.tmod 1073741824:=rfl
     refine⟨by decide,by decide,?_⟩
     dsimp only
     rw[absI (by omega) (by omega),wi64 (by omega) (by omega)]
     refine loopE (fun p=>p.1=n/\(p.2.1.natAbs:Int)<9223372036854775808/\Dig (p.2.2.2.getD [])/\p.2.2.2.getD []≠[]/\nv (p.2.2.2.getD [])+1073741824 ^ (p.2.2.2.getD []).length*p.2.1.natAbs=n.natAbs/\(p.2.1=0->Trm (p.2.2.2.getD []))) (fun p=>p.2.1.natAbs) ⟨rfl,by dsimp only;omega,?_,by simp,?_,?_⟩ ?_
     . exact Dig.cons (by omega) (by omega) Dig.nil
     . simp only[Option.getD_some,nv,List.length_singleton,Int.pow_one,Int.mul_zero,Int.add_zero];omega
     . intro e d hd
       simp at hd
       have e:n.tdiv 1073741824=0:=e
       have:((n.tdiv 1073741824).natAbs:Int)=0:=by rw[e];rfl
       omega
     rintro⟨n',m,⟨k1,k2,k3⟩,o⟩ ⟨hn',m1,hd,hne,hv,ht⟩
     obtain rfl:n=n':=hn'.symm
     dsimp only at m1 hd hne hv ht ⊢
     refine q00.2 ⟨fun h3=>?_,fun h3=>?_⟩
     . have h3:¬ m=0:=not_t h3
       have t1:=q73 m
       have hlen:(o.getD []).length<=2:=by
        rcases Nat.lt_or_ge 2 (o.getD []).length with hl | hl
        . exfalso
          have h4:=pow_monoB (show 3<=(o.getD []).length by omega)
          have h5:(1073741824:Int) ^ (o.getD []).length*1<=1073741824 ^ (o.getD []).length*m.natAbs:=Int.mul_le_mul_of_nonneg_left (by omega) (by have:=pow_posB (o.getD []).length;omega)
          have h6:=nv_nonneg hd
          have:(1073741824:Int) ^ 3=1237940039285380274899124224:=by decide
          omega
        . exact hl
       rw[absI (by omega) (by omega),wi64 (by omega) (by omega)]
       refine⟨by decide,by decide,?_,⟨rfl,by omega,?_,?_,?_,?_⟩,by omega⟩
       . show ((o.getD []).length+1)*8<=140737488355328;omega
       . rw[q0d];exact hd.app (Dig.cons (by omega) (by omega) Dig.nil)
       . rw[q0d];simp
       . rw[q0d,q0f,List.length_append,List.length_singleton,Int.pow_succ,<-hv,t1.1,t1.2]
         have:=Int.emod_add_mul_ediv (m.natAbs:Int) 1073741824
         generalize (m.natAbs:Int) % 1073741824=u at *
         generalize (m.natAbs:Int) / 1073741824=v at *
         generalize (1073741824:Int) ^ (o.getD []).length=K
         rw[<-this];grind
       . intro e d hd2
         rw[q0d,List.getLast?_concat] at hd2
         have:((m.tdiv 1073741824).natAbs:Int)=0:=by rw[e];rfl
         simp at hd2;omega
     . have h3:m=0:=not_f h3
       subst h3
       simp only[Int.natAbs_zero,Int.natCast_zero,Int.mul_zero,Int.add_zero] at hv
       refine .inr ⟨hne,hd,ht rfl,by show 2305843009213693952<=nv (o.getD []);omega,rfl,?_⟩
       show n=if decide (n<0)=true then -nv (o.getD []) else nv (o.getD [])
       rw[hv]
       by_cases hn0:n<0<;>simp[hn0]<;>omega
 . intro k hk
   refine q00.2 ⟨fun h=>hk _ ⟨_,rfl,?_⟩,fun h=>hk _ ⟨false,rfl,?_⟩⟩
   . have h:-2305843009213693952<n:=dec_t h
     rw[decide_eq_true_eq]
     exact⟨fun h2=>⟨h,h2⟩,fun h2=>h2.2⟩
   . have h:¬ -2305843009213693952<n:=dec_f h
     simp;omega
theorem q2a {l:Option (List Int)} {i:Nat} (h:¬ i<(l.getD []).length):(l.getD []).getD i 0=0:=by
 simp[List.getD,Nat.le_of_not_lt h]
theorem q0c (l:List Int) (i:Nat):nv (l.take (i+1))=nv (l.take i)+1073741824 ^ i*l.getD i 0:=by
 rcases Nat.lt_or_ge i l.length with h | h
 . exact q4d l i h
 . rw[List.take_of_length_le (by omega),List.take_of_length_le h]
   have:l.getD i 0=0:=by simp[List.getD,h]
   rw[this];omega
def SumOf (a b:List Int) (r:Option (List Int)):Prop:=Dig (r.getD [])/\nv (r.getD [])=nv a+nv b/\(r.getD []).length<=max a.length b.length+1
theorem plus_ex {a b:List Int} (ha:Dig a) (hb:Dig b):∃ r,SumOf a b r:=by
 have h1:=nv_lt ha
 have h2:=nv_lt hb
 have h3:=nv_nonneg ha
 have h4:=nv_nonneg hb
 have h5:=pow_monoB (show a.length<=max a.length b.length by omega)
 have h6:=pow_monoB (show b.length<=max a.length b.length by omega)
 obtain⟨l,q1,q2,q3⟩:=q1g (max a.length b.length+1) (nv a+nv b) (by omega) (by rw[Int.pow_succ];omega)
 exact⟨some l,q1,q2,by simp only[Option.getD_some];omega⟩
theorem r_sum {a b:Option (List Int)} (ha:Dig (a.getD [])) (hb:Dig (b.getD [])) (la:(a.getD []).length<=1099511627776) (lb:(b.getD []).length<=1099511627776):
 callV Pg q3w [⟨tL,a⟩,⟨tL,b⟩] tL fun r=>SumOf (a.getD []) (b.getD []) r:=by
 refine qla a b (plus_ex ha hb) ?_
 refine loopE (fun p=>∃ (k:Nat) (c:Int) (o:Option (List Int)),p=(a,b,c,(k:Int),o)/\k<=max (a.getD []).length (b.getD []).length+1/\0<=c/\c<=1/\(k=max (a.getD []).length (b.getD []).length+1->c=0)/\Dig (o.getD [])/\(o.getD []).length=k/\nv (o.getD [])+1073741824 ^ k*c=nv ((a.getD []).take k)+nv ((b.getD []).take k))
  (fun p=>(max (a.getD []).length (b.getD []).length+2 - p.2.2.2.1.toNat)) ⟨0,0,none,rfl,by omega,by omega,by omega,fun _=>rfl,Dig.nil,rfl,by simp[nv]⟩ ?_
 rintro _ ⟨k,c,o,rfl,hk,c0,c1,cz,hd,hl,hv⟩
 dsimp only
 have ga:=ha.get k
 have gb:=hb.get k
 refine joinR (fun q=>∃ e:Bool,q=(a,b,c,(k:Int),e,o)/\(e=true↔(k<(a.getD []).length∨k<(b.getD []).length∨0<c))) ?_ ?_
 . rintro _ ⟨e,rfl,he⟩
   refine q00.2 ⟨fun h=>?_,fun h=>?_⟩
   . have h:=he.1 h
     refine joinR (fun q=>q=(a,b,c+(a.getD []).getD k 0,(k:Int),o)) ?_ ?_
     . rintro _ rfl
       refine joinR (fun q=>q=(a,b,c+(a.getD []).getD k 0+(b.getD []).getD k 0,(k:Int),o)) ?_ ?_
       . rintro _ rfl
         dsimp only
         have hk':k<=max (a.getD []).length (b.getD []).length:=by
          rcases Nat.lt_or_ge (max (a.getD []).length (b.getD []).length) k with hh | hh
          . have:=cz (by omega);omega
          . exact hh
         rw[Int.tdiv_eq_ediv_of_nonneg (by omega),Int.tmod_eq_emod_of_nonneg (by omega),wi64 (by omega) (by omega),wi64 (x:=(k:Int)+1) (by omega) (by omega)]
         refine⟨by decide,?_,by decide,⟨k+1,_,_,rfl,by omega,by omega,by omega,?_,?_,?_,?_⟩,by omega⟩
         . show ((o.getD []).length+1)*8<=140737488355328;omega
         . intro hkk
           have:(a.getD []).getD k 0=0:=q2a (by omega)
           have:(b.getD []).getD k 0=0:=q2a (by omega)
           omega
         . rw[q0d];exact hd.app (Dig.cons (by omega) (by omega) Dig.nil)
         . rw[q0d];simp[hl]
         . rw[q0d,q0f,q0c,q0c,hl,Int.pow_succ]
           have:=Int.emod_add_mul_ediv (c+(a.getD []).getD k 0+(b.getD []).getD k 0) 1073741824
           generalize (c+(a.getD []).getD k 0+(b.getD []).getD k 0) % 1073741824=x at *
           generalize (c+(a.getD []).getD k 0+(b.getD []).getD k 0) / 1073741824=y at *
           generalize (a.getD []).getD k 0=u at *
           generalize (b.getD []).getD k 0=v at *
           grind
       . intro k' hk'
         refine q00.2 ⟨fun h3=>?_,fun h3=>hk' _ ?_⟩
         . have h3:=dec_t h3
           simp only[szSl] at h3
           refine⟨⟨by dsimp only;omega,by dsimp only;omega⟩,hk' _ ?_⟩
           simp only[eltS,Int.toNat_natCast]
           rw[wi64 (by omega) (by omega)]
         . have h3:=dec_f h3
           simp only[szSl] at h3
           have:(b.getD []).getD k 0=0:=q2a (by omega)
           rw[this,Int.add_zero]
     . intro k' hk'
       refine q00.2 ⟨fun h3=>?_,fun h3=>hk' _ ?_⟩
       . have h3:=dec_t h3
         simp only[szSl] at h3
         refine⟨⟨by dsimp only;omega,by dsimp only;omega⟩,hk' _ ?_⟩
         simp only[eltS,Int.toNat_natCast]
         rw[wi64 (by omega) (by omega)]
       . have h3:=dec_f h3
         simp only[szSl] at h3
         have:(a.getD []).getD k 0=0:=q2a (by omega)
         rw[this,Int.add_zero]
   . have h:¬ (k<(a.getD []).length∨k<(b.getD []).length∨0<c):=fun h3=>by have:=he.2 h3;dsimp only at h;rw[h] at this;simp at this
     have:c=0:=by omega
     subst this
     rw[List.take_of_length_le (by omega),List.take_of_length_le (by omega)] at hv
     exact⟨hd,by rw[<-hv];simp,by show (o.getD []).length<=_;omega⟩
 . intro k' hk'
   refine q00.2 ⟨fun h=>hk' _ ⟨true,rfl,?_⟩,fun h=>q00.2 ⟨fun h2=>hk' _ ⟨true,rfl,?_⟩,fun h2=>hk' _ ⟨_,rfl,?_⟩⟩⟩
   . have h:=dec_t h
     simp only[szSl] at h
     simp;omega
   . have h2:=dec_t h2
     simp only[szSl] at h2
     simp;omega
   . have h:=dec_f h
     have h2:=dec_f h2
     simp only[szSl] at h h2
     rw[decide_eq_true_eq];omega
end Go.Proofs.Pf.B
namespace Go.Proofs.Pf.B
open Go Go.VM
def DiffOf (a b:List Int) (r:Option (List Int)):Prop:=Dig (r.getD [])/\nv (r.getD [])=nv a - nv b/\(r.getD []).length=a.length
theorem diff_ex {a b:List Int} (ha:Dig a) (hb:Dig b) (hle:nv b<=nv a):∃ r,DiffOf a b r:=by
 have h1:=nv_lt ha
 have h2:=nv_nonneg hb
 obtain⟨l,q1,q2,q3⟩:=q1g a.length (nv a - nv b) (by omega) (by omega)
 exact⟨some l,q1,q2,q3⟩
theorem q6E {a b:Option (List Int)} (ha:Dig (a.getD [])) (hb:Dig (b.getD [])) (hle:nv (b.getD [])<=nv (a.getD [])) (hlen:(b.getD []).length<=(a.getD []).length) (la:(a.getD []).length<=1099511627776):
 ownV Pg q1Y [⟨tL,a⟩,⟨tL,b⟩] tI fun r=>DiffOf (a.getD []) (b.getD []) r:=by
 refine ql5 a b (diff_ex ha hb hle) ?_
 refine loopE (fun p=>∃ (k:Nat) (c:Int) (o:Option (List Int)),p=(a,b,c,((a.getD []).length:Int),(k:Int),o)/\k<=(a.getD []).length /\ -1<=c/\c<=0/\Dig (o.getD [])/\(o.getD []).length=k/\nv (o.getD [])+1073741824 ^ k*c=nv ((a.getD []).take k) - nv ((b.getD []).take k))
  (fun p=>((a.getD []).length - p.2.2.2.2.1.toNat)) ⟨0,0,none,rfl,by omega,by omega,by omega,Dig.nil,rfl,by simp[nv]⟩ ?_
 rintro _ ⟨k,c,o,rfl,hk,c0,c1,hd,hl,hv⟩
 dsimp only
 have ga:=ha.get k
 have gb:=hb.get k
 refine q00.2 ⟨fun h=>?_,fun h=>?_⟩
 . have h:(k:Int)<((a.getD []).length:Int):=dec_t h
   have ea:eltS (0:Int) a (k:Int)=(a.getD []).getD k 0:=by simp only[eltS,Int.toNat_natCast]
   have eb:eltS (0:Int) b (k:Int)=(b.getD []).getD k 0:=by simp only[eltS,Int.toNat_natCast]
   rw[ea,eb,wi64 (x:=c+(a.getD []).getD k 0) (by omega) (by omega),wi64 (x:=c+(a.getD []).getD k 0 - (b.getD []).getD k 0) (by omega) (by omega)]
   refine⟨⟨by omega,by omega⟩,?_⟩
   have step:∀ (x c':Int),0<=x->x<1073741824->-1<=c'->c'<=0->x+1073741824*c'=c+(a.getD []).getD k 0 - (b.getD []).getD k 0->
    appC 8 o (lst (some [x]))/\(∃ (k1:Nat) (c1:Int) (o1:Option (List Int)),(a,b,c',((a.getD []).length:Int),IntKind.wrap IntKind.i64 ((k:Int)+1),appL o (lst (some [x])))=(a,b,c1,((a.getD []).length:Int),(k1:Int),o1)/\k1<=(a.getD []).length /\ -1<=c1/\c1<=0/\Dig (o1.getD [])/\(o1.getD []).length=k1/\nv (o1.getD [])+1073741824 ^ k1*c1=nv ((a.getD []).take k1) - nv ((b.getD []).take k1)) /\
     (a.getD []).length - (IntKind.wrap IntKind.i64 ((k:Int)+1)).toNat<(a.getD []).length - ((k:Int)).toNat:=by
    intro x c' x0 x1 y0 y1 e
    rw[wi64 (x:=(k:Int)+1) (by omega) (by omega)]
    refine⟨?_,⟨k+1,c',_,rfl,by omega,y0,y1,?_,?_,?_⟩,by omega⟩
    . show ((o.getD []).length+1)*8<=140737488355328;omega
    . rw[q0d];exact hd.app (Dig.cons x0 x1 Dig.nil)
    . rw[q0d];simp[hl]
    . rw[q0d,q0f,q0c,q0c,hl,Int.pow_succ]
      generalize (a.getD []).getD k 0=u at *
      generalize (b.getD []).getD k 0=v at *
      have:x=c+u - v - 1073741824*c':=by omega
      rw[this];grind
   refine joinR (fun q=>q=(a,b,c+(a.getD []).getD k 0 - (b.getD []).getD k 0,((a.getD []).length:Int),(k:Int),o)) ?_ ?_
   . rintro _ rfl
     dsimp only
     refine joinR (fun q=>∃ x c':Int,q=(a,b,c',((a.getD []).length:Int),(k:Int),appL o (lst (some [x])))/\0<=x/\x<1073741824 /\ -1<=c'/\c'<=0/\x+1073741824*c'=c+(a.getD []).getD k 0 - (b.getD []).getD k 0) ?_ ?_
     . rintro _ ⟨x,c',rfl,x0,x1,y0,y1,e⟩
       exact (step x c' x0 x1 y0 y1 e).2
     . intro k' hk'
       have hap:∀ x:Int,appC 8 o (lst (some [x])):=fun x=>by show ((o.getD []).length+1)*8<=140737488355328;omega
       refine q00.2 ⟨fun h3=>⟨hap _,hk' _ ⟨_,_,rfl,?_,?_,?_,?_,?_⟩⟩,fun h3=>⟨hap _,hk' _ ⟨_,_,rfl,?_,?_,?_,?_,?_⟩⟩⟩
       all_goals first
        | have h3:c+(a.getD []).getD k 0 - (b.getD []).getD k 0<0:=dec_t h3
        | have h3:¬ c+(a.getD []).getD k 0 - (b.getD []).getD k 0<0:=dec_f h3
       all_goals try rw[wi64 (by omega) (by omega)]
       all_goals omega
   . intro k' hk'
     refine q00.2 ⟨fun h3=>?_,fun h3=>hk' _ ?_⟩
     . have h3:=dec_t h3
       simp only[szSl] at h3
       exact⟨⟨by omega,by omega⟩,hk' _ rfl⟩
     . have h3:=dec_f h3
       simp only[szSl] at h3
       have:(b.getD []).getD k 0=0:=q2a (by omega)
       rw[this,Int.sub_zero]
 . have h:¬ (k:Int)<((a.getD []).length:Int):=dec_f h
   have hk':k=(a.getD []).length:=by omega
   rw[List.take_of_length_le (by omega),List.take_of_length_le (by omega)] at hv
   have h1:=nv_lt hd
   rw[hl] at h1
   rcases (show c=0∨c = -1 by omega) with rfl | rfl
   . exact⟨hd,by rw[<-hv];simp,by rw[hl,hk']⟩
   . exfalso
     have:=nv_nonneg hd
     omega
def ScaleOf (a:List Int) (f:Int) (r:Option (List Int)):Prop:=Dig (r.getD [])/\nv (r.getD [])=nv a*f/\(r.getD []).length=a.length+1/\r.isSome=true
theorem scale_ex {a:List Int} {f:Int} (ha:Dig a) (f0:0<=f) (f1:f<1073741824):∃ r,ScaleOf a f r:=by
 have h1:=nv_lt ha
 have h2:=nv_nonneg ha
 obtain⟨l,q1,q2,q3⟩:=q1g (a.length+1) (nv a*f) (Int.mul_nonneg h2 f0) (by
  rw[Int.pow_succ]
  exact Int.mul_lt_mul' (Int.le_of_lt h1) f1 f0 (pow_posB _))
 exact⟨some l,q1,q2,q3,rfl⟩
theorem dig_mul {d f c:Int} (d0:0<=d) (d1:d<1073741824) (f0:0<=f) (f1:f<1073741824) (c0:0<=c) (c1:c<1073741824):0<=d*f/\d*f+c<1152921504606846976:=by
 refine⟨Int.mul_nonneg d0 f0,?_⟩
 have:d*f<=1073741823*1073741823:=Int.mul_le_mul (by omega) (by omega) f0 (by omega)
 omega
theorem q6G {a:Option (List Int)} {f:Int} (ha:Dig (a.getD [])) (f0:0<=f) (f1:f<1073741824) (la:(a.getD []).length<=1099511627776):
 ownV Pg q1Z [⟨tL,a⟩,⟨tI,f⟩] tI fun r=>ScaleOf (a.getD []) f r:=by
 refine ql8 a f (scale_ex ha f0 f1) ?_
 refine loopE (fun p=>∃ (k:Nat) (c:Int) (o:Option (List Int)),p=(f,c,a,((a.getD []).length:Int),(k:Int),o)/\k<=(a.getD []).length/\0<=c/\c<1073741824/\Dig (o.getD [])/\(o.getD []).length=k/\nv (o.getD [])+1073741824 ^ k*c=nv ((a.getD []).take k)*f)
  (fun p=>((a.getD []).length - p.2.2.2.2.1.toNat)) ⟨0,0,none,rfl,by omega,by omega,by omega,Dig.nil,rfl,by simp[nv]⟩ ?_
 rintro _ ⟨k,c,o,rfl,hk,c0,c1,hd,hl,hv⟩
 dsimp only
 have ga:=ha.get k
 have hm:=dig_mul ga.1 ga.2 f0 f1 c0 c1
 refine q00.2 ⟨fun h=>?_,fun h=>?_⟩
 . have h:(k:Int)<((a.getD []).length:Int):=dec_t h
   have ea:eltS (0:Int) a (k:Int)=(a.getD []).getD k 0:=by simp only[eltS,Int.toNat_natCast]
   rw[ea,wi64 (x:=(a.getD []).getD k 0*f) (by omega) (by omega),wi64 (x:=c+(a.getD []).getD k 0*f) (by omega) (by omega),Int.tdiv_eq_ediv_of_nonneg (by omega),Int.tmod_eq_emod_of_nonneg (by omega),wi64 (x:=(c+(a.getD []).getD k 0*f) / 1073741824) (by omega) (by omega),wi64 (x:=(k:Int)+1) (by omega) (by omega)]
   refine⟨⟨by omega,by omega⟩,by decide,?_,by decide,⟨k+1,_,_,rfl,by omega,by omega,by omega,?_,?_,?_⟩,by omega⟩
   . show ((o.getD []).length+1)*8<=140737488355328;omega
   . rw[q0d];exact hd.app (Dig.cons (by omega) (by omega) Dig.nil)
   . rw[q0d];simp[hl]
   . rw[q0d,q0f,q0c,hl,Int.pow_succ,Int.add_mul,<-hv]
     have:=Int.emod_add_mul_ediv (c+(a.getD []).getD k 0*f) 1073741824
     generalize (c+(a.getD []).getD k 0*f) % 1073741824=x at *
     generalize (c+(a.getD []).getD k 0*f) / 1073741824=y at *
     generalize (a.getD []).getD k 0=u at *
     have e:x=c+u*f - 1073741824*y:=by omega
     rw[e];grind
 . have h:¬ (k:Int)<((a.getD []).length:Int):=dec_f h
   have hk':k=(a.getD []).length:=by omega
   rw[List.take_of_length_le (by omega)] at hv
   refine⟨?_,?_,?_,?_,?_⟩
   . show ((o.getD []).length+1)*8<=140737488355328;omega
   . rw[q0d];exact hd.app (Dig.cons c0 c1 Dig.nil)
   . rw[q0d,q0f,hl,hv]
   . rw[q0d];simp[hl,hk']
   . cases o<;>rfl
def q5P (x:List Int) (y:Int) (r:Option (List Int)×Int×Unit):Prop:=Dig (r.1.getD [])/\nv (r.1.getD [])=nv x / y/\(r.1.getD []).length=x.length/\r.2.1=nv x % y
theorem q66 {l:List Int} {i:Nat} {x:Int} (h:i<l.length):(l.set i x).drop i=x :: l.drop (i+1):=by
 rw[List.drop_eq_getElem_cons (by simp;omega)]
 simp
 rw[List.drop_set_of_lt (by omega)]
theorem qaB {x:Option (List Int)} {y:Int} (hx:Dig (x.getD [])) (h0:0<y) (h1:y<1073741824) (hl:(x.getD []).length<=1099511627776):
 callV Pg q2H [⟨tL,x⟩,⟨tI,y⟩] (.tup (.pair tL (.pair tI .unit))) fun r=>q5P (x.getD []) y r:=by
 have hn:=nv_nonneg hx
 refine ql9 x y ?_ ⟨by simp only[mkC,szSl];omega,?_⟩
 . have h2:=nv_lt hx
   have h3:nv (x.getD []) / y<=nv (x.getD []):=Int.ediv_le_self _ hn
   obtain⟨l,q1,q2,q3⟩:=q1g (x.getD []).length (nv (x.getD []) / y) (Int.ediv_nonneg hn (by omega)) (by omega)
   exact⟨(some l,nv (x.getD []) % y,()),q1,q2,q3,rfl⟩
 refine loopE (fun p=>∃ (k:Nat) (r:Int) (o:List Int),p=(x,y,r,(k:Int) - 1,some o)/\k<=(x.getD []).length/\0<=r/\r<y/\Dig o/\o.length=(x.getD []).length/\nv (o.drop k)*y+r=nv ((x.getD []).drop k))
  (fun p=>(p.2.2.2.1+1).toNat) ⟨(x.getD []).length,0,List.replicate (x.getD []).length 0,?_,Nat.le_refl _,by omega,h0,Dig.rep _,by simp,?_⟩ ?_
 . simp only[szSl,repS,Int.toNat_natCast];rw[wi64 (by omega) (by omega)]
 . rw[List.drop_of_length_le (by simp),List.drop_length];simp[nv]
 rintro _ ⟨k,r,o,rfl,hk,r0,r1,hd,hlo,hv⟩
 dsimp only
 refine q00.2 ⟨fun hb=>?_,fun hb=>?_⟩
 . have hb:(0:Int)<=(k:Int) - 1:=dec_t hb
   obtain⟨j,rfl⟩:∃ j,k=j+1:=⟨k - 1,by omega⟩
   have ek:((j+1:Nat):Int) - 1=(j:Int):=by omega
   have g:=hx.get j
   have ex:eltS (0:Int) x (j:Int)=(x.getD []).getD j 0:=by simp only[eltS,Int.toNat_natCast]
   have hz0:0<=r*1073741824+(x.getD []).getD j 0:=by omega
   have hz1:r*1073741824+(x.getD []).getD j 0<1152921504606846976:=by omega
   have hm:=Int.mul_ediv_add_emod (r*1073741824+(x.getD []).getD j 0) y
   have hr0:=Int.emod_nonneg (r*1073741824+(x.getD []).getD j 0) (show y≠0 by omega)
   have hr1:=Int.emod_lt_of_pos (r*1073741824+(x.getD []).getD j 0) h0
   have hq0:0<=(r*1073741824+(x.getD []).getD j 0) / y:=Int.ediv_nonneg hz0 (by omega)
   have hq1:(r*1073741824+(x.getD []).getD j 0) / y<1073741824:=by
    refine Int.ediv_lt_of_lt_mul h0 ?_
    have:(r+1)*1073741824<=y*1073741824:=by omega
    rw[Int.mul_comm 1073741824 y];omega
   rw[ek,ex,wi64 (x:=r*1073741824) (by omega) (by omega),wi64 (x:=r*1073741824+_) (by omega) (by omega),Int.tdiv_eq_ediv_of_nonneg hz0,Int.tmod_eq_emod_of_nonneg hz0,wi64 (x:=_ / y) (by omega) (by omega),wi64 (x:=(j:Int) - 1) (by omega) (by omega)]
   refine⟨⟨by omega,by omega⟩,by omega,by omega,⟨by omega,by simp only[Option.getD_some];omega⟩,⟨j,_,o.set j ((r*1073741824+(x.getD []).getD j 0) / y),rfl,by omega,hr0,hr1,hd.set j hq0 hq1,by simp[hlo],?_⟩,by omega⟩
   rw[q66 (by omega),q0z (x.getD []) j (by omega),<-hv]
   simp only[nv]
   generalize (r*1073741824+(x.getD []).getD j 0) / y=q at *
   generalize (r*1073741824+(x.getD []).getD j 0) % y=s at *
   generalize nv (o.drop (j+1))=z at *
   grind
 . have hb:¬ (0:Int)<=(k:Int) - 1:=dec_f hb
   obtain rfl:k=0:=by omega
   simp only[List.drop_zero] at hv
   obtain⟨q1,q2⟩:=q5i hv r0 r1
   exact⟨hd,q1,hlo,q2⟩
end Go.Proofs.Pf.B
namespace Go.Proofs.Pf.B
open Go Go.VM
def DivOf (x y:List Int) (r:Option (List Int)×Option (List Int)×Unit):Prop:=
 (Dig (r.1.getD [])/\nv (r.1.getD [])=nv x / nv y/\(r.1.getD []).length<=x.length+1)/\Dig (r.2.1.getD [])/\nv (r.2.1.getD [])=nv x % nv y/\(r.2.1.getD []).length<=x.length+1
theorem div_ex {x y:List Int} (dx:Dig x) (hy:0<nv y):∃ r,DivOf x y r:=by
 have hx:=nv_nonneg dx
 have h1:=nv_lt dx
 have h0:0<=nv x / nv y:=Int.ediv_nonneg hx (by omega)
 have h3:nv x / nv y<=nv x:=Int.ediv_le_self _ hx
 have h4:=Int.emod_nonneg (nv x) (show nv y≠0 by omega)
 have h5:nv x % nv y<=nv x:=by
  have:=Int.mul_ediv_add_emod (nv x) (nv y)
  have:0<=nv y*(nv x / nv y):=Int.mul_nonneg (by omega) h0
  omega
 obtain⟨a,a1,a2,a3⟩:=q1g x.length (nv x / nv y) h0 (by omega)
 obtain⟨b,b1,b2,b3⟩:=q1g x.length (nv x % nv y) h4 (by omega)
 exact⟨(some a,some b,()),⟨a1,a2,by simp only[Option.getD_some];omega⟩,b1,b2,by simp only[Option.getD_some];omega⟩
structure DInv (V:Int) (u0:List Int) (K:Nat) (u o:List Int) (n:Nat):Prop where
 ul:u.length=u0.length
 ud:Dig u
 ol:o.length=u0.length - n
 od:Dig o
 oz:∀ j,j<K->o.getD j 0=0
 kl:K<=u0.length - n
 val:nv u0=nv o*V+nv u
 lt:nv u<V*1073741824 ^ K
theorem q1F {l:List Int} {i j:Nat} {x:Int} (h:i≠j):(l.set i x).getD j 0=l.getD j 0:=by
 simp[List.getD,List.getElem?_set_ne h]
theorem DInv.step {V:Int} {u0 u o d:List Int} {k n:Nat} (h:DInv V u0 (k+1) u o n) (hV:0<V) (hVn:V<1073741824 ^ n) (hd:Dig d) (hdl:d.length=n+1) (hn:n<=u0.length)
 (hdv:nv d=nv ((u.drop k).take (n+1)) - V*(nv ((u.drop k).take (n+1)) / V)):
 0<=nv ((u.drop k).take (n+1)) / V/\nv ((u.drop k).take (n+1)) / V<1073741824 /\
 DInv V u0 k (u.take k ++ d ++ u.drop (k+(n+1))) (o.set k (nv ((u.drop k).take (n+1)) / V)) n:=by
 obtain⟨ul,ud,ol,od,oz,kl,val,lt⟩:=h
 have hz:q04 u (k+(n+1)):=by
  refine lt_zeroFrom ud (Int.lt_of_lt_of_le lt ?_)
  have:V*1073741824 ^ (k+1)<=1073741824 ^ n*1073741824 ^ (k+1):=Int.mul_le_mul_of_nonneg_right (by omega) (by have:=pow_posB (k+1);omega)
  rw[<-Int.pow_add,show n+(k+1)=k+(n+1) by omega] at this
  exact this
 have hW:nv (u.drop k)=nv ((u.drop k).take (n+1)):=by
  rw[q0b (u.drop k) (n+1),List.drop_drop,q04.drop ud hz];simp
 have hlow:=take_lt ud k
 have hsp:=q0b u k
 have hW0:=nv_nonneg (ud.drop k)
 have hWV:nv (u.drop k)<V*1073741824:=by
  rw[hsp,Int.pow_succ] at lt
  have:1073741824 ^ k*nv (u.drop k)<1073741824 ^ k*(V*1073741824):=by
   have e:V*(1073741824 ^ k*1073741824)=1073741824 ^ k*(V*1073741824):=by grind
   omega
  exact Int.lt_of_mul_lt_mul_left this (by have:=pow_posB k;omega)
 rw[<-hW] at hdv ⊢
 have hq0:0<=nv (u.drop k) / V:=Int.ediv_nonneg hW0 (by omega)
 have hq1:nv (u.drop k) / V<1073741824:=Int.ediv_lt_of_lt_mul hV (by rw[Int.mul_comm];exact hWV)
 refine⟨hq0,hq1,?_,?_,by rw[List.length_set];exact ol,od.set k hq0 hq1,?_,by omega,?_,?_⟩
 . simp;omega
 . exact ((ud.take k).app hd).app (ud.drop _)
 . intro j hj;rw[q1F (by omega)];exact oz j (by omega)
 . rw[q0N o k _ (by omega),oz k (by omega),q11,q11,q04.drop ud hz,List.length_take,Nat.min_eq_left (by omega),hdv,val,hsp]
   generalize nv (u.drop k) / V=Q
   generalize nv (u.drop k)=W
   generalize nv (u.take k)=L
   generalize (1073741824:Int) ^ k=K
   simp only[Int.mul_zero,Int.add_zero]
   grind
 . rw[q11,q11,q04.drop ud hz,List.length_take,Nat.min_eq_left (by omega),hdv]
   have hr1:=Int.emod_lt_of_pos (nv (u.drop k)) hV
   have hr2:=Int.mul_ediv_add_emod (nv (u.drop k)) V
   have e:nv (u.drop k) - V*(nv (u.drop k) / V)=nv (u.drop k) % V:=by omega
   rw[e]
   have h4:1073741824 ^ k*(nv (u.drop k) % V+1)<=1073741824 ^ k*V:=Int.mul_le_mul_of_nonneg_left (by omega) (by have:=pow_posB k;omega)
   rw[Int.mul_add,Int.mul_one,Int.mul_comm _ V] at h4
   simp only[Int.mul_zero,Int.add_zero]
   omega
theorem est_win {V v1 wv:Int} {u:List Int} {k n:Nat} (ud:Dig u) (hz:q04 u (k+(n+1+1))) (hv1:1<=v1) (hV:V=wv+1073741824 ^ n*v1) (w0:0<=wv):
 nv (u.drop k) / V<=(u.getD (k+n+1) 0*1073741824+u.getD (k+n) 0) / v1:=by
 have hP:=pow_posB n
 refine est_ge (P:=1073741824 ^ n) hP ?_ ?_ (by omega) (nv_nonneg (ud.drop k))
 . rw[hV,Int.mul_comm];omega
 . rw[q0b (u.drop k) n,List.drop_drop,q0p u (k+n),q0p u (k+n+1)]
   have e:nv (u.drop (k+n+1+1))=0:=by
    have:=q04.drop ud hz
    rwa [show k+(n+1+1)=k+n+1+1 by omega] at this
   rw[e]
   have t:=take_lt (ud.drop k) n
   have e2:(u.getD (k+n+1) 0*1073741824+u.getD (k+n) 0+1)*1073741824 ^ n=1073741824 ^ n*(u.getD (k+n) 0+1073741824*(u.getD (k+n+1) 0+1073741824*0))+1073741824 ^ n:=by grind
   omega
set_option maxHeartbeats 2000000 in
theorem r_divided {x y:Option (List Int)} (dx:Dig (x.getD [])) (dy:Dig (y.getD [])) (tx:Trm (x.getD [])) (ty:Trm (y.getD [])) (hy:y.getD []≠[]) (hl:(x.getD []).length<=1073741824):
 callV Pg q3v [⟨tL,x⟩,⟨tL,y⟩] (.tup (.pair tL (.pair tL .unit))) fun r=>DivOf (x.getD []) (y.getD []) r:=by
 have hx0:=nv_nonneg dx
 have hyge:=ty.ge dy hy
 have hyl:0<(y.getD []).length:=List.length_pos_iff.2 hy
 have hyp:0<nv (y.getD []):=by have:=pow_posB ((y.getD []).length - 1);omega
 refine ql6 x y (div_ex dx hyp) (q00.2 ⟨fun h=>?_,fun h=>?_⟩)
 . have h:szSl y=1:=dec_t h
   simp only[szSl] at h
   obtain⟨y0,hy0⟩:∃ y0,y.getD []=[y0]:=by
    rcases e:y.getD [] with _ | ⟨y0,_ | ⟨_,_⟩⟩
    . exact absurd e hy
    . exact⟨y0,rfl⟩
    . rw[e] at h;simp at h;omega
   have e0:eltS (0:Int) y 0=y0:=by simp only[eltS,hy0];rfl
   have g:=dy y0 (by rw[hy0];simp)
   have ny:nv (y.getD [])=y0:=by rw[hy0];simp[nv]
   rw[e0]
   refine⟨⟨by omega,by omega⟩,(qaB dx (by omega) g.2 (by omega)).mono ?_⟩
   rintro⟨q,r,_⟩ ⟨q1,q2,q3,q4⟩
   dsimp only at q1 q2 q3 q4
   have q4:r=nv (x.getD []) % y0:=q4
   subst q4
   have hr0:=Int.emod_nonneg (nv (x.getD [])) (show y0≠0 by omega)
   have hr1:=Int.emod_lt_of_pos (nv (x.getD [])) (show 0<y0 by omega)
   refine⟨⟨q1,by rw[ny];exact q2,by show (q.getD []).length<=_;omega⟩,Dig.cons hr0 (by show nv (x.getD []) % y0<_;omega) Dig.nil,?_,?_⟩
   . show nv [nv (x.getD []) % y0]=_;rw[ny];simp[nv]
   . show ([nv (x.getD []) % y0]:List Int).length<=_;simp
 . refine (q6D dx dy tx ty (by omega)).mono ?_
   rintro _ rfl
   refine q00.2 ⟨fun h2=>?_,fun h2=>?_⟩
   . have h2:cmpI (nv (x.getD [])) (nv (y.getD []))<0:=dec_t h2
     rw[q5f] at h2
     refine⟨⟨Dig.nil,?_,by simp⟩,dx,?_,by dsimp only;omega⟩
     . show (0:Int)=_;rw[Int.ediv_eq_zero_of_lt hx0 h2]
     . show nv (x.getD [])=_;rw[Int.emod_eq_of_lt hx0 h2]
   have h2:¬ cmpI (nv (x.getD [])) (nv (y.getD []))<0:=dec_f h2
   rw[q5f] at h2
   have h:¬ szSl y=1:=dec_f h
   simp only[szSl] at h
   have hle:(y.getD []).length<=(x.getD []).length:=by
    rcases Nat.lt_or_ge (x.getD []).length (y.getD []).length with hl2 | hl2
    . have:=q12 dx dy ty hl2;omega
    . exact hl2
   obtain⟨m,hm⟩:∃ m,(y.getD []).length=m+1:=⟨(y.getD []).length - 1,by omega⟩
   have hm1:1<=m:=by omega
   have ew:IntKind.wrap IntKind.i64 (szSl y - 1)=(m:Int):=by simp only[szSl];rw[wi64 (by omega) (by omega)];omega
   have gy:=dy.get m
   have gy0:(y.getD []).getD m 0≠0:=by
    have hlast:(y.getD []).getLast?=some ((y.getD []).getD m 0):=by
     rw[List.getLast?_eq_some_getLast hy,List.getLast_eq_getElem]
     simp[List.getD,hm]
    exact ty _ hlast
   have ee:eltS (0:Int) y (m:Int)=(y.getD []).getD m 0:=by simp only[eltS,Int.toNat_natCast]
   rw[ew,ee,wi64 (x:=(y.getD []).getD m 0+1) (by omega) (by omega),Int.tdiv_eq_ediv_of_nonneg (by decide)]
   obtain⟨f,hf⟩:∃ f,f=1073741824 / ((y.getD []).getD m 0+1):=⟨_,rfl⟩
   have f1:1<=f:=by rw[hf];exact Int.le_ediv_of_mul_le (by omega) (by omega)
   have f2:f*((y.getD []).getD m 0+1)<=1073741824:=by rw[hf];exact Int.ediv_mul_le _ (by omega)
   have f3:f<1073741824:=by
    have:f*2<=f*((y.getD []).getD m 0+1):=Int.mul_le_mul_of_nonneg_left (by omega) (by omega)
    omega
   rw[<-hf,wi64 (x:=f) (by omega) (by omega)]
   refine⟨⟨by omega,by omega⟩,by omega,?_⟩
   refine (q6G dx (by omega) f3 (by omega)).mono ?_
   rintro u0' ⟨du,vu,lu,su⟩
   obtain⟨u0,rfl⟩:∃ u0:List Int,u0'=some u0:=by cases u0' with | none=>simp at su | some l=>exact⟨l,rfl⟩
   simp only[Option.getD_some] at du vu lu
   refine (q6G dy (by omega) f3 (by omega)).val.mono ?_
   rintro v0' ⟨dv0,vv0,lv0,sv⟩
   obtain⟨v0,rfl⟩:∃ v0:List Int,v0'=some v0:=by cases v0' with | none=>simp at sv | some l=>exact⟨l,rfl⟩
   simp only[Option.getD_some] at dv0 vv0 lv0
   have hPm:=pow_posB m
   have ysp:nv (y.getD [])=nv ((y.getD []).take m)+1073741824 ^ m*(y.getD []).getD m 0:=by
    rw[q0b (y.getD []) m,q0p (y.getD []) m,List.drop_of_length_le (by omega)];simp[nv]
   have ytk:=take_lt dy m
   have vhigh:nv v0<1073741824 ^ (m+1):=by
    rw[vv0,Int.pow_succ]
    have a1:nv (y.getD [])<1073741824 ^ m*((y.getD []).getD m 0+1):=by rw[Int.mul_add,Int.mul_one];omega
    have a2:nv (y.getD [])*f<1073741824 ^ m*((y.getD []).getD m 0+1)*f:=Int.mul_lt_mul_of_pos_right a1 (by omega)
    have a3:1073741824 ^ m*((y.getD []).getD m 0+1)*f=1073741824 ^ m*(f*((y.getD []).getD m 0+1)):=by grind
    have a4:1073741824 ^ m*(f*((y.getD []).getD m 0+1))<=1073741824 ^ m*1073741824:=Int.mul_le_mul_of_nonneg_left f2 (by omega)
    omega
   have vlow:1073741824 ^ m<=nv v0:=by
    rw[vv0]
    have a1:1073741824 ^ m*1<=1073741824 ^ m*(y.getD []).getD m 0:=Int.mul_le_mul_of_nonneg_left (by omega) (by omega)
    have a2:nv (y.getD [])*1<=nv (y.getD [])*f:=Int.mul_le_mul_of_nonneg_left f1 (by omega)
    omega
   obtain⟨v,hv⟩:∃ v:List Int,v=v0.take (m+1):=⟨_,rfl⟩
   have esl:slcS (some v0) 0 (szSl y)=some v:=by
    simp only[slcS,szSl,Option.map_some,hm,hv,Int.toNat_natCast];simp
   have dv:Dig v:=hv ▸ dv0.take _
   have hvl:v.length=m+1:=by rw[hv,List.length_take];omega
   have vv:nv v=nv (y.getD [])*f:=by
    rw[hv,<-vv0,q0b v0 (m+1),q04.drop dv0 (lt_zeroFrom dv0 vhigh)];simp
   have hvv:nv v=nv v0:=by rw[vv,vv0]
   rw[<-hvv] at vhigh vlow
   have vpos:0<nv v:=by omega
   have vsp:nv v=nv (v.take m)+1073741824 ^ m*v.getD m 0:=by
    rw[q0b v m,q0p v m,List.drop_of_length_le (by omega)];simp[nv]
   have vtk:=take_lt dv m
   have gv:=dv.get m
   have v1:1<=v.getD m 0:=by
    rcases Int.lt_or_le (v.getD m 0) 1 with h3 | h3
    . have:v.getD m 0=0:=by omega
      rw[this] at vsp;omega
    . exact h3
   refine⟨⟨by omega,by simp only[szSl];omega,by simp only[szSl,Option.getD_some];omega⟩,?_⟩
   rw[esl]
   have esz:IntKind.wrap IntKind.i64 (szSl (some u0) - szSl (some v))=((u0.length - (m+1):Nat):Int):=by
    simp only[szSl,Option.getD_some,hvl];rw[wi64 (by omega) (by omega)];omega
   rw[esz,wi64 (x:=((u0.length - (m+1):Nat):Int) - 1) (by omega) (by omega)]
   refine⟨by simp only[mkC];omega,?_⟩
   refine loopE (fun p=>∃ (K:Nat) (u o:List Int),p=(f,some v,((m+1:Nat):Int),(K:Int) - 1,some o,some u)/\DInv (nv v) u0 K u o (m+1)) (fun p=>(p.2.2.2.1+1).toNat) ⟨u0.length - (m+1),u0,List.replicate (u0.length - (m+1)) 0,?_,⟨rfl,du,by simp,Dig.rep _,fun j hj=>by simp[List.getD,hj],Nat.le_refl _,by rw[q4c];omega,?_⟩⟩ ?_
   . simp only[szSl,Option.getD_some,hvl,repS,Int.toNat_natCast]
   . have h1:=nv_lt du
     have e:u0.length=(u0.length - (m+1))+(m+1):=by omega
     have a1:=nv_lt dx
     have a2:nv (x.getD [])*f<1073741824 ^ (x.getD []).length*f:=Int.mul_lt_mul_of_pos_right a1 (by omega)
     have e2:(x.getD []).length=(u0.length - (m+1))+m:=by omega
     have a3:(1073741824:Int) ^ (x.getD []).length*f=(1073741824 ^ m*f)*1073741824 ^ (u0.length - (m+1)):=by rw[e2,Int.pow_add];grind
     have a4:1073741824 ^ m*f<=nv v:=by
      rw[vv]
      have b1:1073741824 ^ m*1<=1073741824 ^ m*(y.getD []).getD m 0:=Int.mul_le_mul_of_nonneg_left (by omega) (by omega)
      exact Int.mul_le_mul_of_nonneg_right (by omega) (by omega)
     have a5:(1073741824 ^ m*f)*1073741824 ^ (u0.length - (m+1))<=nv v*1073741824 ^ (u0.length - (m+1)):=Int.mul_le_mul_of_nonneg_right a4 (by have:=pow_posB (u0.length - (m+1));omega)
     rw[vu];omega
   rintro _ ⟨K,u,o,rfl,hI⟩
   dsimp only
   have hI':=hI
   obtain⟨ul,ud,ol,od,oz,kl,val,lt⟩:=hI'
   refine q00.2 ⟨fun hb=>?_,fun hb=>?_⟩
   . have hb:(0:Int)<=(K:Int) - 1:=dec_t hb
     obtain⟨k,rfl⟩:∃ k,K=k+1:=⟨K - 1,by omega⟩
     have ek:((k+1:Nat):Int) - 1=(k:Int):=by omega
     have e1:IntKind.wrap IntKind.i64 ((k:Int)+((m+1:Nat):Int))=((k+m+1:Nat):Int):=by rw[wi64 (by omega) (by omega)];omega
     have e2:IntKind.wrap IntKind.i64 (((k+m+1:Nat):Int) - 1)=((k+m:Nat):Int):=by rw[wi64 (by omega) (by omega)];omega
     have e3:IntKind.wrap IntKind.i64 (((m+1:Nat):Int) - 1)=(m:Int):=by rw[wi64 (by omega) (by omega)];omega
     have e4:IntKind.wrap IntKind.i64 (((k+m+1:Nat):Int)+1)=((k+(m+1+1):Nat):Int):=by rw[wi64 (by omega) (by omega)];omega
     have gu0:=ud.get (k+m+1)
     have gu1:=ud.get (k+m)
     have x1:eltS (0:Int) (some v) (m:Int)=v.getD m 0:=by simp only[eltS,Option.getD_some,Int.toNat_natCast]
     have x2:eltN (0:Int) (some u) (toN ((k+m+1:Nat):Int))=u.getD (k+m+1) 0:=by simp only[eltN,toN,Option.getD_some,Int.toNat_natCast]
     have x3:eltN (0:Int) (some u) (toN ((k+m:Nat):Int))=u.getD (k+m) 0:=by simp only[eltN,toN,Option.getD_some,Int.toNat_natCast]
     have y1:IntKind.wrap IntKind.i64 (u.getD (k+m+1) 0*1073741824)=u.getD (k+m+1) 0*1073741824:=wi64 (by omega) (by omega)
     have y2:IntKind.wrap IntKind.i64 (u.getD (k+m+1) 0*1073741824+u.getD (k+m) 0)=u.getD (k+m+1) 0*1073741824+u.getD (k+m) 0:=wi64 (by omega) (by omega)
     have y3:Int.tdiv (u.getD (k+m+1) 0*1073741824+u.getD (k+m) 0) (v.getD m 0)=(u.getD (k+m+1) 0*1073741824+u.getD (k+m) 0) / v.getD m 0:=Int.tdiv_eq_ediv_of_nonneg (by omega)
     have hest0:0<=(u.getD (k+m+1) 0*1073741824+u.getD (k+m) 0) / v.getD m 0:=Int.ediv_nonneg (by omega) (by omega)
     have hest1:(u.getD (k+m+1) 0*1073741824+u.getD (k+m) 0) / v.getD m 0<=u.getD (k+m+1) 0*1073741824+u.getD (k+m) 0:=Int.ediv_le_self _ (by omega)
     have y4:IntKind.wrap IntKind.i64 ((u.getD (k+m+1) 0*1073741824+u.getD (k+m) 0) / v.getD m 0)=(u.getD (k+m+1) 0*1073741824+u.getD (k+m) 0) / v.getD m 0:=wi64 (by omega) (by omega)
     have hz:q04 u (k+(m+1+1)):=by
      refine lt_zeroFrom ud (Int.lt_of_lt_of_le lt ?_)
      have:nv v*1073741824 ^ (k+1)<=1073741824 ^ (m+1)*1073741824 ^ (k+1):=Int.mul_le_mul_of_nonneg_right (by omega) (by have:=pow_posB (k+1);omega)
      rw[<-Int.pow_add,show m+1+(k+1)=k+(m+1+1) by omega] at this
      exact this
     have hW:nv (u.drop k)=nv ((u.drop k).take (m+1+1)):=by
      rw[q0b (u.drop k) (m+1+1),List.drop_drop,q04.drop ud hz];simp
     have hest:=est_win (V:=nv v) (wv:=nv (v.take m)) ud hz v1 vsp vtk.1
     rw[hW] at hest
     have hlk:k+m+2<=u.length:=by omega
     have hwl:((u.drop k).take (m+1+1)).length=m+1+1:=by simp;omega
     have dW:Dig ((u.drop k).take (m+1+1)):=(ud.drop k).take _
     have hW0:=nv_nonneg dW
     have hq0:0<=nv ((u.drop k).take (m+1+1)) / nv v:=Int.ediv_nonneg hW0 (by omega)
     have hqB:nv ((u.drop k).take (m+1+1)) / nv v<1073741824:=by
      rw[<-hW]
      refine Int.ediv_lt_of_lt_mul vpos ?_
      rw[Int.mul_comm]
      have hsp:=q0b u k
      have hlow:=take_lt ud k
      rw[hsp,Int.pow_succ] at lt
      have:1073741824 ^ k*nv (u.drop k)<1073741824 ^ k*(nv v*1073741824):=by
       have e:nv v*(1073741824 ^ k*1073741824)=1073741824 ^ k*(nv v*1073741824):=by grind
       omega
      exact Int.lt_of_mul_lt_mul_left this (by have:=pow_posB k;omega)
     rw[ek]
     simp only[e1,e2,e3,e4,x1,x2,x3,y1,y2,y3,y4]
     refine⟨⟨by omega,by simp only[Option.getD_some];omega⟩,⟨by omega,by simp only[Option.getD_some];omega⟩,⟨by omega,by simp only[Option.getD_some];omega⟩,by omega,?_⟩
     refine loopE (fun p=>∃ e:Int,p=(f,some v,((m+1:Nat):Int),(k:Int),e,some o,some u)/\nv ((u.drop k).take (m+1+1)) / nv v<=e/\e<1073741824) (fun p=>p.2.2.2.2.1.toNat) ⟨_,rfl,?_,?_⟩ ?_
     . unfold minI;split<;>omega
     . unfold minI;split<;>omega
     rintro _ ⟨e,rfl,q1,q2⟩
     dsimp only
     have esw:slcS (some u) (k:Int) ((k+(m+1+1):Nat):Int)=some ((u.drop k).take (m+1+1)):=by
      simp only[slcS,Option.map_some,Int.toNat_natCast]
      rw[List.drop_take];simp
     have eap:appL (some []) (lst (some ((u.drop k).take (m+1+1))))=some ((u.drop k).take (m+1+1)):=by simp[appL,lst,appS]
     have iw:inW (some u) (k:Int) ((k+(m+1+1):Nat):Int):=⟨rfl,by omega,by omega,by simp only[Option.getD_some];omega⟩
     refine (q6G (a:=some v) dv (by omega) q2 (by simp only[Option.getD_some];omega)).val.mono ?_
     rintro p' ⟨dp,vp,lp,sp⟩
     simp only[Option.getD_some] at vp lp
     refine (r_trim (a:=p') (by omega)).mono ?_
     rintro _ rfl
     simp only[e1,e4,esw,eap]
     refine⟨iw,?_,(r_trim (a:=some ((u.drop k).take (m+1+1))) (by simp only[Option.getD_some];omega)).mono ?_⟩
     . show (0+((u.drop k).take (m+1+1)).length)*8<=140737488355328;omega
     rintro _ rfl
     refine (q6D (by rw[q2d];exact dp.trim) (by rw[q2d];exact dW.trim) (by rw[q2d];exact trm_trim _) (by rw[q2d];exact trm_trim _) (by rw[q2d];have:=q6l (p'.getD []);omega)).mono ?_
     rintro _ rfl
     rw[q2d,q2d,q1j,q1j,vp]
     simp only[Option.getD_some]
     refine q00.2 ⟨fun hc=>?_,fun hc=>?_⟩
     . have hc:cmpI (nv v*e) (nv ((u.drop k).take (m+1+1)))<=0:=dec_t hc
       have hle:nv v*e<=nv ((u.drop k).take (m+1+1)):=by
        unfold cmpI at hc
        split at hc
        . omega
        . split at hc<;>omega
       have heq:e=nv ((u.drop k).take (m+1+1)) / nv v:=by
        have:e<=nv ((u.drop k).take (m+1+1)) / nv v:=Int.le_ediv_of_mul_le vpos (by rw[Int.mul_comm];exact hle)
        omega
       refine⟨iw,(q6E (a:=some ((u.drop k).take (m+1+1))) (b:=p') dW dp (by rw[vp];exact hle) (by simp only[Option.getD_some];omega) (by simp only[Option.getD_some];omega)).mono ?_⟩
       rintro d ⟨dd,vd,ld⟩
       simp only[Option.getD_some] at vd ld
       rw[vp,heq] at vd
       obtain⟨r0,r1,hnext⟩:=hI.step vpos vhigh dd (by omega) (by omega) vd
       have hcp:cpyS (some u) (k:Int) (szSl (some u)) d=some (u.take k ++ d.getD [] ++ u.drop (k+(m+1+1))):=by
        simp only[cpyS,Option.map_some,szSl,Option.getD_some,Int.toNat_natCast,ld,hwl]
        rw[Nat.min_eq_right (by omega),List.take_of_length_le (l:=d.getD []) (by omega)]
       rw[hcp]
       refine⟨⟨rfl,by omega,by simp only[szSl,Option.getD_some];omega,by simp only[szSl,Option.getD_some];omega⟩,⟨by omega,by simp only[Option.getD_some];omega⟩,⟨k,_,_,?_,hnext⟩,?_⟩
       . rw[wi64 (by omega) (by omega),heq];simp only[setO,toN,Option.map_some,Int.toNat_natCast]
       . rw[wi64 (by omega) (by omega)];omega
     . have hc:¬ cmpI (nv v*e) (nv ((u.drop k).take (m+1+1)))<=0:=dec_f hc
       have hgt:nv ((u.drop k).take (m+1+1))<nv v*e:=by
        unfold cmpI at hc
        split at hc
        . omega
        . split at hc<;>omega
       have hne:nv ((u.drop k).take (m+1+1)) / nv v<e:=Int.ediv_lt_of_lt_mul vpos (by rw[Int.mul_comm];exact hgt)
       rw[wi64 (x:=e - 1) (by omega) (by omega)]
       exact⟨⟨e - 1,rfl,by omega,by omega⟩,by omega⟩
   . have hb:¬ (0:Int)<=(K:Int) - 1:=dec_f hb
     obtain rfl:K=0:=by omega
     simp only[Int.pow_zero,Int.mul_one] at lt
     have hu0:=nv_nonneg ud
     have htk:nv (u.take (m+1))=nv u:=by
      rw[q0b u (m+1),q04.drop ud (lt_zeroFrom ud (show nv u<1073741824 ^ (m+1) by omega))];simp
     rw[vu,vv] at val
     have hR:nv u=(nv (x.getD []) - nv o*nv (y.getD []))*f:=by rw[Int.sub_mul,val];grind
     have hR0:0<=nv (x.getD []) - nv o*nv (y.getD []):=by
      rw[hR] at hu0
      rcases Int.lt_or_le (nv (x.getD []) - nv o*nv (y.getD [])) 0 with h | h
      . have:(nv (x.getD []) - nv o*nv (y.getD []))*f<0:=Int.mul_neg_of_neg_of_pos h (by omega)
        omega
      . exact h
     have hR1:nv (x.getD []) - nv o*nv (y.getD [])<nv (y.getD []):=by
      rw[hR,vv] at lt
      exact Int.lt_of_mul_lt_mul_right lt (by omega)
     obtain⟨d1,d2⟩:=q5i (show nv o*nv (y.getD [])+(nv (x.getD []) - nv o*nv (y.getD []))=nv (x.getD []) by omega) hR0 hR1
     have esw:slcS (some u) (0:Int) ((m+1:Nat):Int)=some (u.take (m+1)):=by simp only[slcS,Option.map_some,Int.toNat_natCast];simp
     rw[esw]
     refine⟨⟨rfl,by omega,by omega,by simp only[Option.getD_some];omega⟩,(qaB (x:=some (u.take (m+1))) (ud.take _) (by omega) f3 (by simp;omega)).mono ?_⟩
     rintro⟨q,r,_⟩ ⟨s1,s2,s3,s4⟩
     simp only[Option.getD_some] at s2 s3
     rw[htk,hR,Int.mul_ediv_cancel _ (by omega)] at s2
     refine⟨⟨od,d1,by simp only[Option.getD_some];omega⟩,s1,by rw[<-d2];exact s2,?_⟩
     show (q.getD []).length<=_
     rw[s3,List.length_take];omega
end Go.Proofs.Pf.B
namespace Go.Proofs.Pf.B
open Go Go.VM
theorem eqB_t {a b:Bool} (h:eqB a b=true):a=b:=by revert h;cases a<;>cases b<;>simp[eqB]
theorem eqB_f {a b:Bool} (h:eqB a b=false):a≠b:=by revert h;cases a<;>cases b<;>simp[eqB]
theorem q16 {n:Int}:sgn n<0↔n<0:=by
 rcases sgn3 n with ⟨e,h⟩ | ⟨e,h⟩ | ⟨e,h⟩<;>rw[e]<;>constructor<;>intro<;>omega
theorem sg_dec {P:Prop} [Decidable P] {v n:Int} (h1:P->n = -v) (h2:¬ P->n=v):sg (decide P) v=n:=by
 by_cases h:P
 . rw[h1 h];simp[sg,h]
 . rw[h2 h];simp[sg,h]
theorem r_Plus {x y:Int×Bool×Option (List Int)} {n m:Int} {k j:Nat} (hx:RIV x n) (hy:RIV y m) (fx:Fit k n) (fy:Fit j m) (hk:k<=1073741824) (hj:j<=1073741824):callV Pg q2E [⟨tRI,x⟩,⟨tRI,y⟩] tRI fun r=>RIV r (n+m):=by
 refine qkK x y (RIV_ex _) (joinR (fun p=>∃ c:Bool,p=(c,x,y,((0:Int),false,none))/\(c=true->x.2.2.getD []=[]/\y.2.2.getD []=[])) ?_ ?_)
 . rintro _ ⟨c,rfl,hc⟩
   refine q00.2 ⟨fun h=>?_,fun _=>?_⟩
   . obtain⟨h1,h2⟩:=hc h
     rcases hx with ⟨_,q2,q3,q4⟩ | ⟨q1,_⟩
     case inr=>exact absurd h1 q1
     rcases hy with ⟨_,p2,p3,p4⟩ | ⟨q1,_⟩
     case inr=>exact absurd h2 q1
     dsimp only
     rw[q2,p2,wi64 (by omega) (by omega)]
     exact r_Of (by omega) (by omega)
   . dsimp only
     refine (q4k hx).mono ?_
     rintro X ⟨d1,t1,v1⟩
     refine (q4k hy).mono ?_
     rintro Y ⟨d2,t2,v2⟩
     refine (q0P hx).mono ?_
     rintro _ rfl
     refine (q0P hy).mono ?_
     rintro _ rfl
     have l1:=t1.fit d1 fx v1
     have l2:=t2.fit d2 fy v2
     refine q00.2 ⟨fun h=>?_,fun h=>?_⟩
     . have h:=eqB_t h
       rw[decide_eq_decide,q16,q16] at h
       refine (r_sum d1 d2 (by omega) (by omega)).mono ?_
       rintro S ⟨dS,vS,lS⟩
       refine (q4l dS (by omega)).mono ?_
       intro r hr
       rw[vS,v1,v2,sg_dec (n:=n+m) (by rw[q16];omega) (by rw[q16];omega)] at hr
       exact hr
     . have h:=eqB_f h
       simp only[ne_eq,decide_eq_decide,q16] at h
       refine (q6D d1 d2 t1 t2 (by omega)).mono ?_
       rintro _ rfl
       refine q00.2 ⟨fun h2=>?_,fun h2=>?_⟩
       . have h2:0<=cmpI (nv (X.getD [])) (nv (Y.getD [])):=dec_t h2
         rw[q5e] at h2
         have hl:(Y.getD []).length<=(X.getD []).length:=by
          rcases Nat.lt_or_ge (X.getD []).length (Y.getD []).length with hl | hl
          . have:=q12 d1 d2 t2 hl;omega
          . exact hl
         refine (q6E d1 d2 h2 hl (by omega)).val.mono ?_
         rintro S ⟨dS,vS,lS⟩
         refine (q4l dS (by omega)).mono ?_
         intro r hr
         rw[vS,v1,v2,sg_dec (n:=n+m) (by rw[q16];omega) (by rw[q16];omega)] at hr
         exact hr
       . have h2:nv (X.getD [])<nv (Y.getD []):=cmpI_lt (dec_f h2)
         have hl:(X.getD []).length<=(Y.getD []).length:=by
          rcases Nat.lt_or_ge (Y.getD []).length (X.getD []).length with hl | hl
          . have:=q12 d2 d1 t1 hl;omega
          . exact hl
         refine (q6E d2 d1 (by omega) hl (by omega)).val.mono ?_
         rintro S ⟨dS,vS,lS⟩
         refine (q4l dS (by omega)).mono ?_
         intro r hr
         rw[vS,v1,v2,sg_dec (n:=n+m) (by rw[q16];omega) (by rw[q16];omega)] at hr
         exact hr
 . intro k hk
   refine q00.2 ⟨fun h=>hk _ ⟨_,rfl,fun h2=>?_⟩,fun h=>hk _ ⟨false,rfl,fun h2=>by simp at h2⟩⟩
   have h:szSl x.2.2=0:=dec_t h
   have h2:szSl y.2.2=0:=dec_t h2
   simp only[szSl] at h h2
   exact⟨List.eq_nil_of_length_eq_zero (by omega),List.eq_nil_of_length_eq_zero (by omega)⟩
theorem r_Less {x y:Int×Bool×Option (List Int)} {n m:Int} {k j:Nat} (hx:RIV x n) (hy:RIV y m) (fx:Fit k n) (fy:Fit j m) (hk:k<=1073741824) (hj:j<=1073741824):callV Pg q3q [⟨tRI,x⟩,⟨tRI,y⟩] tRI fun r=>RIV r (n - m):=by
 refine qkH x y (RIV_ex _) ((q4R hy).mono fun p h=>(r_Plus hx h fx fy.neg hk hj).mono fun r hr=>?_)
 rw[Int.sub_eq_add_neg];exact hr
theorem qaz {x y:Int×Bool×Option (List Int)} {n m:Int} {k j:Nat} (hx:RIV x n) (hy:RIV y m) (fx:Fit k n) (fy:Fit j m) (hk:k<=1073741824) (hj:j<=1073741824):callV Pg q2D [⟨tRI,x⟩,⟨tRI,y⟩] tI fun r=>r=sgn (n - m):=
 qkG x y ⟨_,rfl⟩ ((r_Less hx hy fx fy hk hj).mono fun p h=>q0P h)
theorem r_Over {x y:Int×Bool×Option (List Int)} {n m:Int} {k:Nat} (hx:RIV x n) (hy:RIV y m) (hm:m≠0) (fx:Fit k n) (hk:k<=1073741824):callV Pg q1T [⟨tRI,x⟩,⟨tRI,y⟩] (.tup (.pair tRI (.pair tRI .unit))) fun r=>RIV r.1 (n.tdiv m)/\RIV r.2.1 (n.tmod m):=by
 obtain⟨y1,y2⟩:=quo_sgn n m hm
 refine qkJ x y ?_ (joinR (fun p=>∃ c:Bool,p=(c,x,y,((0:Int),false,none),((0:Int),false,none))/\(c=true->x.2.2.getD []=[]/\y.2.2.getD []=[])) ?_ ?_)
 . obtain⟨a,ha⟩:=RIV_ex (n.tdiv m)
   obtain⟨b,hb⟩:=RIV_ex (n.tmod m)
   exact⟨(a,b,()),ha,hb⟩
 . rintro _ ⟨c,rfl,hc⟩
   refine q00.2 ⟨fun h=>?_,fun _=>?_⟩
   . obtain⟨h1,h2⟩:=hc h
     rcases hx with ⟨_,q2,q3,q4⟩ | ⟨q1,_⟩
     case inr=>exact absurd h1 q1
     rcases hy with ⟨_,p2,p3,p4⟩ | ⟨q1,_⟩
     case inr=>exact absurd h2 q1
     dsimp only
     rw[q2,p2]
     have g1:(n.tdiv m).natAbs<=n.natAbs:=by rw[Int.natAbs_tdiv];exact Nat.div_le_self _ _
     have g2:(n.tmod m).natAbs<=n.natAbs:=by rw[Int.natAbs_tmod];exact Nat.mod_le _ _
     rw[wi64 (by omega) (by omega)]
     exact⟨hm,hm,RIV.small rfl (by omega) (by omega),RIV.small rfl (by omega) (by omega)⟩
   . dsimp only
     refine (q4k hx).mono ?_
     rintro X ⟨d1,t1,v1⟩
     refine (q4k hy).mono ?_
     rintro Y ⟨d2,t2,v2⟩
     have l1:=t1.fit d1 fx v1
     have hY:Y.getD []≠[]:=by intro e;rw[e] at v2;simp only[nv] at v2;omega
     refine (r_divided d1 d2 t1 t2 hY (by omega)).mono ?_
     rintro⟨q,r,_⟩ ⟨⟨dq,vq,lq⟩,dr,vr,lr⟩
     dsimp only at dq vq lq dr vr lr ⊢
     rw[v1,v2] at vq vr
     refine (q0P hx).mono ?_
     rintro _ rfl
     refine (q0P hy).mono ?_
     rintro _ rfl
     refine (q4l dq (by omega)).mono ?_
     intro p hp
     refine (q0P hx).mono ?_
     rintro _ rfl
     refine (q4l dr (by omega)).mono ?_
     intro p2 hp2
     have z:n=0->((n.natAbs:Int) / m.natAbs=0):=by rintro rfl;simp
     have e1:sg (notB (decide (sgn n=sgn m))) (nv (q.getD []))=n.tdiv m:=by
      rw[vq,<-y1]
      rcases sgn3 n with ⟨e1,h1⟩ | ⟨e1,h1⟩ | ⟨e1,h1⟩<;>rcases sgn3 m with ⟨e2,h2⟩ | ⟨e2,h2⟩ | ⟨e2,h2⟩<;>rw[e1,e2]
      . simp[sg]
      . simp[sg]
      . exact absurd h2 hm
      . simp[sg]
      . simp[sg]
      . exact absurd h2 hm
      all_goals (rw[z h1];simp[sg])
     have e2:sg (decide (sgn n<0)) (nv (r.getD []))=n.tmod m:=by
      rw[vr,<-y2]
      rcases sgn3 n with ⟨e1,h1⟩ | ⟨e1,h1⟩ | ⟨e1,h1⟩<;>rw[e1]
      . simp[sg]
      . simp[sg]
      . rw[h1];simp[sg]
     rw[e1] at hp
     rw[e2] at hp2
     exact⟨hp,hp2⟩
 . intro k hk
   refine q00.2 ⟨fun h=>hk _ ⟨_,rfl,fun h2=>?_⟩,fun h=>hk _ ⟨false,rfl,fun h2=>by simp at h2⟩⟩
   have h:szSl x.2.2=0:=dec_t h
   have h2:szSl y.2.2=0:=dec_t h2
   simp only[szSl] at h h2
   exact⟨List.eq_nil_of_length_eq_zero (by omega),List.eq_nil_of_length_eq_zero (by omega)⟩
def rval (x:Int×Bool×Option (List Int)):Int:=if x.2.2.getD []=[] then x.1 else if x.2.1=true then -nv (x.2.2.getD []) else nv (x.2.2.getD [])
theorem RIV.val {x:Int×Bool×Option (List Int)} {n:Int} (h:RIV x n):rval x=n:=by
 rcases h with ⟨h1,h2,_⟩ | ⟨h1,_,_,_,_,h2⟩
 . rw[rval,if_pos h1,h2]
 . rw[rval,if_neg h1,h2]
theorem r_Gcd {x y:Int×Bool×Option (List Int)} {n m:Int} {k:Nat} (hx:RIV x n) (hy:RIV y m) (fx:Fit k n) (fy:Fit k m) (hk:k<=1073741824):callV Pg q2C [⟨tRI,x⟩,⟨tRI,y⟩] tRI fun r=>RIV r (Int.gcd n m:Int):=by
 refine qkE x y (RIV_ex _) ?_
 refine loopE (fun p=>∃ a b:Int,RIV p.1 a/\RIV p.2.1 b/\Int.gcd a b=Int.gcd n m/\Fit k a/\Fit k b) (fun p=>(rval p.2.1).natAbs) ⟨n,m,hx,hy,rfl,fx,fy⟩ ?_
 rintro⟨A,B,z⟩ ⟨a,b,ha,hb,hg,fa,fb⟩
 dsimp only at ha hb ⊢
 refine (q0P hb).mono ?_
 rintro _ rfl
 refine q00.2 ⟨fun h=>?_,fun h=>?_⟩
 . have h:¬ sgn b=0:=not_t h
   have hb0:b≠0:=by rintro rfl;exact h rfl
   refine (r_Over ha hb hb0 fa hk).mono ?_
   rintro⟨q,r,_⟩ ⟨_,hr⟩
   dsimp only at hr ⊢
   have hlt:(a.tmod b).natAbs<b.natAbs:=by rw[Int.natAbs_tmod];exact Nat.mod_lt _ (by omega)
   refine⟨⟨b,a.tmod b,hb,hr,?_,fb,fb.of (by omega)⟩,?_⟩
   . rw[<-hg];unfold Int.gcd;rw[Int.natAbs_tmod,Nat.gcd_comm b.natAbs,<-Nat.gcd_rec b.natAbs a.natAbs,Nat.gcd_comm]
   . rw[hr.val,hb.val];exact hlt
 . have h:sgn b=0:=not_f h
   have hb0:b=0:=sgn_z h
   subst hb0
   refine (r_Abs ha).mono fun r hr=>?_
   rw[<-hg];unfold Int.gcd
   rw[Int.natAbs_zero,Nat.gcd_zero_right];exact hr
end Go.Proofs.Pf.B
namespace Go.Proofs.Pf.B
open Go Go.VM
theorem q4K {p q z c:Int} (hp:0<=p) (hp':p<1073741824) (hq:0<=q) (hq':q<1073741824) (hz:0<=z) (hz':z<1073741824) (hc:0<=c) (hc':c<1073741824):
 0<=p*q+z+c/\p*q+z+c<1152921504606846976/\IntKind.wrap IntKind.i64 (c+IntKind.wrap IntKind.i64 (z+IntKind.wrap IntKind.i64 (p*q)))=p*q+z+c:=by
 have h0:0<=p*q:=Int.mul_nonneg hp hq
 have h1:p*q<=1073741823*1073741823:=Int.mul_le_mul (by omega) (by omega) hq (by omega)
 generalize p*q=m at *
 rw[wi64 (x:=m) (by omega) (by omega),wi64 (x:=z+m) (by omega) (by omega),wi64 (by omega) (by omega)]
 omega
structure MInv (x y:List Int) (i:Nat) (o:List Int):Prop where
 len:o.length=x.length+y.length
 dig:Dig o
 val:nv o=nv (x.take i)*nv y
 zero:∀ j,i+y.length<=j->o.getD j 0=0
structure MIn (x y:List Int) (i k:Nat) (c:Int) (o:List Int):Prop where
 len:o.length=x.length+y.length
 dig:Dig o
 c0:0<=c
 c1:c<1073741824
 val:nv o+1073741824 ^ (i+k)*c=nv (x.take i)*nv y+1073741824 ^ i*x.getD i 0*nv (y.take k)
 zero:∀ j,i+y.length<=j->o.getD j 0=0
theorem MIn.start {x y:List Int} {i:Nat} {o:List Int} (h:MInv x y i o):MIn x y i 0 0 o:=⟨h.len,h.dig,Int.le_refl _,by decide,by simp[nv,h.val],h.zero⟩
theorem MIn.step {x y:List Int} {i k:Nat} {c:Int} {o:List Int} (hx:Dig x) (hy:Dig y) (hi:i<x.length) (hk:k<y.length) (h:MIn x y i k c o):
 MIn x y i (k+1) ((x.getD i 0*y.getD k 0+o.getD (i+k) 0+c) / 1073741824) (o.set (i+k) ((x.getD i 0*y.getD k 0+o.getD (i+k) 0+c) % 1073741824)):=by
 have gx:=hx.get i
 have gy:=hy.get k
 have go:=h.dig.get (i+k)
 have hl:=h.len
 obtain⟨m1,m2,_⟩:=q4K gx.1 gx.2 gy.1 gy.2 go.1 go.2 h.c0 h.c1
 refine⟨by simp[hl],h.dig.set _ (by omega) (by omega),by omega,by omega,?_,fun j hj=>?_⟩
 . rw[q0N _ _ _ (by omega),q0c]
   have hv:=h.val
   have hdm:=Int.emod_add_mul_ediv (x.getD i 0*y.getD k 0+o.getD (i+k) 0+c) 1073741824
   generalize (x.getD i 0*y.getD k 0+o.getD (i+k) 0+c) % 1073741824=d at *
   generalize (x.getD i 0*y.getD k 0+o.getD (i+k) 0+c) / 1073741824=e at *
   have e1:(1073741824:Int) ^ (i+(k+1))=1073741824 ^ (i+k)*1073741824:=by rw[<-Nat.add_assoc,Int.pow_succ]
   have e2:(1073741824:Int) ^ (i+k)=1073741824 ^ i*1073741824 ^ k:=Int.pow_add ..
   rw[e1]
   rw[e2] at hv ⊢
   generalize (1073741824:Int) ^ i=bi at *
   generalize (1073741824:Int) ^ k=bk at *
   grind
 . rw[q1F (by omega)];exact h.zero j hj
theorem MIn.fin {x y:List Int} {i:Nat} {c:Int} {o:List Int} (hi:i<x.length) (h:MIn x y i y.length c o):MInv x y (i+1) (o.set (i+y.length) c):=by
 have hl:=h.len
 refine⟨by simp[hl],h.dig.set _ h.c0 h.c1,?_,fun j hj=>?_⟩
 . rw[q0N _ _ _ (by omega),h.zero _ (Nat.le_refl _),q0c]
   have hv:=h.val
   rw[List.take_length] at hv
   grind
 . rw[q1F (by omega)];exact h.zero j (by omega)
theorem q2V {x y:Int×Bool×Option (List Int)} {n m:Int} {k j:Nat} (hx:RIV x n) (hy:RIV y m) (fx:Fit k n) (fy:Fit j m) (hk:k<=1073741824) (hj:j<=1073741824):callV Pg q0I [⟨tRI,x⟩,⟨tRI,y⟩] tRI fun r=>RIV r (n*m):=by
 refine qkN x y (RIV_ex _) (joinR (fun p=>∃ c:Bool,p=(c,x,y,((0:Int),false,none))/\(c=true->x.2.2.getD []=[]/\y.2.2.getD []=[] /\ -1073741824<x.1/\x.1<1073741824 /\ -1073741824<y.1/\y.1<1073741824)) ?_ ?_)
 . rintro _ ⟨c,rfl,hc⟩
   refine q00.2 ⟨fun h=>?_,fun _=>?_⟩
   . obtain⟨h1,h2,b1,b2,b3,b4⟩:=hc h
     rcases hx with ⟨_,q2,q3,q4⟩ | ⟨q1,_⟩
     case inr=>exact absurd h1 q1
     rcases hy with ⟨_,p2,p3,p4⟩ | ⟨q1,_⟩
     case inr=>exact absurd h2 q1
     dsimp only
     rw[q2] at b1 b2
     rw[p2] at b3 b4
     have g:(n*m).natAbs<=1073741823*1073741823:=by rw[Int.natAbs_mul];exact Nat.mul_le_mul (by omega) (by omega)
     rw[q2,p2,wi64 (by omega) (by omega)]
     exact RIV.small rfl (by omega) (by omega)
   . dsimp only
     refine (q4k hx).mono ?_
     rintro X' ⟨d1,t1,v1⟩
     refine (q4k hy).mono ?_
     rintro Y' ⟨d2,t2,v2⟩
     have l1:=t1.fit d1 fx v1
     have l2:=t2.fit d2 fy v2
     obtain⟨X,hX⟩:∃ X:List Int,X=X'.getD []:=⟨_,rfl⟩
     obtain⟨Y,hY⟩:∃ Y:List Int,Y=Y'.getD []:=⟨_,rfl⟩
     rw[<-hX] at d1 t1 v1 l1
     rw[<-hY] at d2 t2 v2 l2
     have sX:szSl X'=(X.length:Int):=by simp only[szSl,hX]
     have sY:szSl Y'=(Y.length:Int):=by simp only[szSl,hY]
     have el:IntKind.wrap IntKind.i64 ((X.length:Int)+(Y.length:Int))=((X.length+Y.length:Nat):Int):=by rw[wi64 (by omega) (by omega)];omega
     rw[sX,sY,el]
     refine⟨by simp only[mkC];omega,?_⟩
     refine loopE (fun p=>∃ (i:Nat) (o:List Int),i<=X.length/\MInv X Y i o/\p=(X',Y',(X.length:Int),(i:Int),x,y,((0:Int),false,none),some o)) (fun p=>((X.length:Int) - p.2.2.2.1).toNat) ⟨0,List.replicate (X.length+Y.length) 0,by omega,⟨by simp,Dig.rep _,by rw[q4c];simp[nv],fun j _=>?_⟩,?_⟩ ?_
     . simp only[List.getD,List.getElem?_replicate];split<;>rfl
     . simp only[repS,Int.toNat_natCast];rfl
     rintro _ ⟨i,o,hi,hI,rfl⟩
     refine q00.2 ⟨fun hb=>?_,fun hb=>?_⟩
     . have hb:(i:Int)<(X.length:Int):=dec_t hb
       dsimp only
       rw[sY]
       refine loopE (fun p=>∃ (k:Nat) (c:Int) (o:List Int),k<=Y.length/\MIn X Y i k c o/\p=(X',Y',(i:Int),c,(X.length:Int),(i:Int),(Y.length:Int),(k:Int),x,y,((0:Int),false,none),some o)) (fun p=>((Y.length:Int) - p.2.2.2.2.2.2.2.1).toNat) ⟨0,0,o,by omega,MIn.start hI,rfl⟩ ?_
       rintro _ ⟨k,c,o,hk',hM,rfl⟩
       have hl:=hM.len
       dsimp only
       refine q00.2 ⟨fun hc=>?_,fun hc=>?_⟩
       . have hc:(k:Int)<(Y.length:Int):=dec_t hc
         have ei:IntKind.wrap IntKind.i64 ((i:Int)+(k:Int))=((i+k:Nat):Int):=by rw[wi64 (by omega) (by omega)];omega
         have ek:IntKind.wrap IntKind.i64 ((k:Int)+1)=((k+1:Nat):Int):=by rw[wi64 (by omega) (by omega)];omega
         have gx:=d1.get i
         have gy:=d2.get k
         have go:=hM.dig.get (i+k)
         obtain⟨m1,m2,m3⟩:=q4K gx.1 gx.2 gy.1 gy.2 go.1 go.2 hM.c0 hM.c1
         have hst:=hM.step d1 d2 (by omega) (by omega)
         simp only[inS,eltN,eltS,toN,Option.getD_some,Int.toNat_natCast,ei,ek,<-hX,<-hY,m3]
         rw[Int.tdiv_eq_ediv_of_nonneg m1,Int.tmod_eq_emod_of_nonneg m1,wi64 (by omega) (by omega)]
         refine⟨⟨by omega,by omega⟩,⟨by omega,by omega⟩,⟨by omega,by omega⟩,by decide,⟨by omega,by omega⟩,by decide,⟨k+1,_,_,by omega,hst,rfl⟩,by omega⟩
       . have hc:¬ (k:Int)<(Y.length:Int):=dec_f hc
         have:k=Y.length:=by omega
         subst this
         have ei:IntKind.wrap IntKind.i64 ((i:Int)+(Y.length:Int))=((i+Y.length:Nat):Int):=by rw[wi64 (by omega) (by omega)];omega
         have ek:IntKind.wrap IntKind.i64 ((i:Int)+1)=((i+1:Nat):Int):=by rw[wi64 (by omega) (by omega)];omega
         have hf:=hM.fin (by omega)
         simp only[inS,toN,Option.getD_some,Int.toNat_natCast,sY,ei,ek]
         refine⟨⟨by omega,by omega⟩,⟨i+1,_,by omega,hf,rfl⟩,by omega⟩
     . have hb:¬ (i:Int)<(X.length:Int):=dec_f hb
       have:i=X.length:=by omega
       subst this
       have hv:=hI.val
       rw[List.take_length,v1,v2] at hv
       dsimp only
       refine (q0P hx).mono ?_
       rintro _ rfl
       refine (q0P hy).mono ?_
       rintro _ rfl
       have hln:=hI.len
       refine (q4l (b:=some o) hI.dig (by simp only[Option.getD_some];omega)).mono ?_
       intro r hr
       have e1:sg (notB (decide (sgn n=sgn m))) (nv o)=n*m:=by
        rw[hv]
        rcases sgn3 n with ⟨e1,h1⟩ | ⟨e1,h1⟩ | ⟨e1,h1⟩<;>rcases sgn3 m with ⟨e2,h2⟩ | ⟨e2,h2⟩ | ⟨e2,h2⟩<;>rw[e1,e2]
        . rw[show (n.natAbs:Int)=n by omega,show (m.natAbs:Int)=m by omega];simp[sg]
        . rw[show (n.natAbs:Int)=n by omega,show (m.natAbs:Int) = -m by omega];simp[sg,Int.mul_neg]
        . subst h2;simp[sg]
        . rw[show (n.natAbs:Int) = -n by omega,show (m.natAbs:Int)=m by omega];simp[sg,Int.neg_mul]
        . rw[show (n.natAbs:Int) = -n by omega,show (m.natAbs:Int) = -m by omega];simp[sg,Int.neg_mul_neg]
        . subst h2;simp[sg]
        all_goals (subst h1;simp[sg])
       simp only[Option.getD_some] at hr
       rw[e1] at hr
       exact hr
 . intro k hk
   have nf:=hk (false,x,y,((0:Int),false,none)) ⟨false,rfl,fun h2=>by simp at h2⟩
   refine q00.2 ⟨fun h1=>q00.2 ⟨fun h2=>q00.2 ⟨fun h3=>q00.2 ⟨fun h4=>q00.2 ⟨fun h5=>hk _ ⟨_,rfl,fun h6=>?_⟩,fun _=>nf⟩,fun _=>nf⟩,fun _=>nf⟩,fun _=>nf⟩,fun _=>nf⟩
   have h1:szSl x.2.2=0:=dec_t h1
   have h2:szSl y.2.2=0:=dec_t h2
   simp only[szSl] at h1 h2
   exact⟨List.eq_nil_of_length_eq_zero (by omega),List.eq_nil_of_length_eq_zero (by omega),dec_t h3,dec_t h4,dec_t h5,dec_t h6⟩
end Go.Proofs.Pf.B
namespace Go.Proofs.Pf
open Go Go.VM
abbrev OL:=Option (List Int)
structure LInv (n:Nat) (v u0:List Int) (p:Int×OL×Int×Int×OL×OL) (K:Nat) (u o:List Int):Prop where
 en:p.1=n
 ev:p.2.1=some v
 em:p.2.2.1=(v.length:Int)
 ek:p.2.2.2.1=(K:Int) - 1
 eu:p.2.2.2.2.1=some u
 eo:p.2.2.2.2.2=some o
 ul:u.length=u0.length
 ud:Dig u
 ol:o.length=u0.length - v.length
 od:Dig o
 oz:∀ j,j<K->o.getD j 0=0
 kl:K<=u0.length - v.length
 val:nv u0=nv o*nv v+nv u
 lt:nv u<nv v*4294967296 ^ K
theorem len_of {l:List Int} (hd:Dig l) (ht:Trm l) {k:Nat} (h1:4294967296 ^ k<=nv l) (h2:nv l<4294967296 ^ (k+1)):l.length=k+1:=by
 have hne:l≠[]:=by rintro rfl;simp only[nv] at h1;have:=pow_pos32 k;omega
 have h3:=ht.ge hd hne
 have h4:=nv_lt hd
 have h5:l.length≠0:=fun e=>hne (List.eq_nil_of_length_eq_zero e)
 rcases Nat.lt_or_ge l.length (k+1) with h | h
 . have:=pow_mono32 (show l.length<=k by omega);omega
 . rcases Nat.lt_or_ge (k+1) l.length with h' | h'
   . have:=pow_mono32 (show k+1<=l.length - 1 by omega);omega
   . omega
theorem long_ex {x y:List Int} (dx:Dig x) (dy:Dig y) (hy:0<nv y):∃ r,LongOf x y r:=by
 have hx:=nv_nonneg dx
 obtain⟨a,a1,a2,a3⟩:=nv_ex ((nv x / nv y).toNat+1) (nv x / nv y).toNat (by omega)
 obtain⟨b,b1,b2,b3⟩:=nv_ex ((nv x % nv y).toNat+1) (nv x % nv y).toNat (by omega)
 have h0:0<=nv x / nv y:=Int.ediv_nonneg hx (by omega)
 have h1:=Int.emod_nonneg (nv x) (show nv y≠0 by omega)
 have h2:=Int.emod_lt_of_pos (nv x) hy
 have h3:nv x / nv y<=nv x:=Int.ediv_le_self _ hx
 have e1:nv a=nv x / nv y:=by omega
 have e2:nv b=nv x % nv y:=by omega
 refine⟨(some a,some b,()),⟨a,rfl,a1,e1,?_⟩,b,rfl,b1,e2,?_⟩
 . have:=a2.fit a1 (k:=x.length) (n:=nv a) ((fit_nv dx).of (by omega)) (by omega);omega
 . exact b2.fit b1 (k:=y.length) (n:=nv b) ((fit_nv dy).of (by omega)) (by omega)
theorem getLast_getD {l:List Int} (h:l≠[]):l.getLast?=some (l.getD (l.length - 1) 0):=by
 rw[List.getLast?_eq_some_getLast h,List.getLast_eq_getElem]
 have:0<l.length:=List.length_pos_iff.2 h
 simp[List.getD,show l.length - 1<l.length by omega]
set_option maxHeartbeats 4000000 in
theorem longS:LongS:=by
 intro x y dx dy ty hy hxy hl
 have hyn:y≠[]:=by rintro rfl;simp at hy
 have gy:=dy.get (y.length - 1)
 have gy0:y.getD (y.length - 1) 0≠0:=ty _ (getLast_getD hyn)
 have hyp:0<nv y:=by have:=ty.ge dy hyn;have:=pow_pos32 (y.length - 1);omega
 have ew:IntKind.wrap IntKind.i64 (szSl (some y) - 1)=((y.length - 1:Nat):Int):=by
  simp only[szSl,Option.getD_some];rw[wi64 (by omega) (by omega)];omega
 refine qk4 (some x) (some y) (long_ex dx dy hyp) ?_
 rw[ew]
 refine⟨by simp only[inS,Option.getD_some];omega,?_⟩
 have ee:eltS (0:Int) (some y) ((y.length - 1:Nat):Int)=y.getD (y.length - 1) 0:=by simp only[eltS,Option.getD_some,Int.toNat_natCast]
 rw[ee]
 refine (qjs (by omega) gy.2).mono ?_
 rintro _ ⟨n,rfl,hn,s1,s2⟩
 refine (qaQ (x:=some x) (n:=n) dx hn (by simp only[Option.getD_some];omega)).mono ?_
 rintro _ ⟨u0,rfl,du,vu,lu⟩
 refine (qaQ (x:=some y) (n:=n) dy hn (by simp only[Option.getD_some];omega)).mono ?_
 rintro _ ⟨v0,rfl,dv0,vv0,lv0⟩
 simp only[Option.getD_some] at vu lu vv0 lv0
 refine (s_trim (a:=some v0) (by simp only[Option.getD_some];omega)).mono ?_
 obtain⟨v,hv⟩:∃ v,v=trim v0:=⟨_,rfl⟩
 intro p3 hp3
 obtain rfl:p3=some v:=by rw[hp3,hv];rfl
 clear hp3
 have dv:Dig v:=hv ▸ dv0.trim
 have tv:Trm v:=hv ▸ trm_trim v0
 have vv:nv v=nv y*2 ^ n:=by rw[hv,q1j,vv0]
 clear hv vv0 lv0 dv0
 obtain⟨m,hm⟩:∃ m,y.length=m+2:=⟨y.length - 2,by omega⟩
 have hp2:(0:Int)<2 ^ n:=Int.pow_pos (by decide)
 have hP:=pow_pos32 m
 have n31:(2:Int) ^ n<=2147483648:=by
  have e:(2147483648:Int)=2 ^ (31 - n)*2 ^ n:=by rw[<-Int.pow_add,show 31 - n+n=31 by omega];rfl
  have:(0:Int)<2 ^ (31 - n):=Int.pow_pos (by decide)
  have:1*(2:Int) ^ n<=2 ^ (31 - n)*2 ^ n:=Int.mul_le_mul_of_nonneg_right (by omega) (by omega)
  omega
 obtain⟨wy,wy0,wy1,wy2⟩:∃ w,0<=w/\w<4294967296 ^ (m+1)/\nv y=w+4294967296 ^ (m+1)*y.getD (m+1) 0:=by
  refine⟨nv (y.take (m+1)),(take_lt dy _).1,(take_lt dy _).2,?_⟩
  rw[q0b y (m+1),q0p y (m+1),List.drop_of_length_le (by omega)];simp[nv]
 have ely:y.length - 1=m+1:=by omega
 rw[ely] at gy gy0 s1 s2
 have vlow:4294967296 ^ (m+1)*2147483648<=nv v:=by
  have h1:4294967296 ^ (m+1)*2147483648<=4294967296 ^ (m+1)*(y.getD (m+1) 0*2 ^ n):=Int.mul_le_mul_of_nonneg_left s2 (by have:=pow_pos32 (m+1);omega)
  have h2:nv y*2 ^ n=wy*2 ^ n+4294967296 ^ (m+1)*(y.getD (m+1) 0*2 ^ n):=by rw[wy2];grind
  have h3:0<=wy*2 ^ n:=Int.mul_nonneg wy0 (by omega)
  omega
 have vhigh:nv v<4294967296 ^ (m+2):=by
  have h2:nv y*2 ^ n=wy*2 ^ n+4294967296 ^ (m+1)*(y.getD (m+1) 0*2 ^ n):=by rw[wy2];grind
  have h3:(wy+1)*2 ^ n<=4294967296 ^ (m+1)*2 ^ n:=Int.mul_le_mul_of_nonneg_right (by omega) (by omega)
  have h4:4294967296 ^ (m+1)*(y.getD (m+1) 0*2 ^ n+2 ^ n)<=4294967296 ^ (m+1)*4294967296:=by
   refine Int.mul_le_mul_of_nonneg_left ?_ (by have:=pow_pos32 (m+1);omega)
   have e:(4294967296:Int)=2 ^ (32 - n)*2 ^ n:=by rw[<-Int.pow_add,show 32 - n+n=32 by omega];rfl
   rw[e] at s1
   have s3:=Int.lt_of_mul_lt_mul_right s1 (by omega)
   have:(y.getD (m+1) 0+1)*2 ^ n<=2 ^ (32 - n)*2 ^ n:=Int.mul_le_mul_of_nonneg_right (by omega) (by omega)
   rw[<-e] at this
   have e2:(y.getD (m+1) 0+1)*2 ^ n=y.getD (m+1) 0*2 ^ n+2 ^ n:=by grind
   omega
  rw[Int.mul_add] at h4
  rw[show m+2=m+1+1 by omega,Int.pow_succ]
  have e3:(wy+1)*2 ^ n=wy*2 ^ n+2 ^ n:=by grind
  omega
 have hlv:v.length=m+2:=len_of dv tv (by omega) vhigh
 have vpos:0<nv v:=by have:=pow_pos32 (m+1);omega
 obtain⟨wv,wv0,wv1,wv2⟩:=win2 dv hlv
 have gv1:=dv.get (m+1)
 have gv2:=dv.get m
 have v1l:2147483648<=v.getD (m+1) 0:=by
  rw[Int.pow_succ] at vlow
  have h1:4294967296 ^ m*(v.getD m 0+1)<=4294967296 ^ m*4294967296:=Int.mul_le_mul_of_nonneg_left (by omega) (by omega)
  have h2:4294967296 ^ m*4294967296*2147483648<4294967296 ^ m*4294967296*(v.getD (m+1) 0+1):=by
   rw[wv2] at vlow
   generalize v.getD (m+1) 0=a at *
   generalize v.getD m 0=b at *
   generalize (4294967296:Int) ^ m=P at *
   have e1:P*(b+4294967296*a)=P*b+P*4294967296*a:=by grind
   have e2:P*4294967296*(a+1)=P*4294967296*a+P*4294967296:=by grind
   have e3:P*(b+1)=P*b+P:=by grind
   omega
  have:=Int.lt_of_mul_lt_mul_left h2 (by omega)
  omega
 have hlu:u0.length=x.length+1:=lu
 have esz:IntKind.wrap IntKind.i64 (szSl (some u0) - szSl (some v))=((u0.length - v.length:Nat):Int):=by
  simp only[szSl,Option.getD_some];rw[wi64 (by omega) (by omega)];omega
 have esz1:IntKind.wrap IntKind.i64 (((u0.length - v.length:Nat):Int) - 1)=((u0.length - v.length:Nat):Int) - 1:=wi64 (by omega) (by omega)
 rw[esz,esz1]
 refine⟨by simp only[mkC];omega,?_⟩
 refine loopE (fun p=>∃ K u o,LInv n v u0 p K u o) (fun p=>(p.2.2.2.1+1).toNat) ⟨u0.length - v.length,u0,List.replicate (u0.length - v.length) 0,⟨rfl,rfl,rfl,rfl,rfl,?_,rfl,du,by simp,Dig.rep _,fun j hj=>by simp[List.getD,hj],Nat.le_refl _,by rw[q4c];omega,?_⟩⟩ ?_
 . simp only[repS,Int.toNat_natCast]
 . have h1:=nv_lt dx
   have e:x.length=(u0.length - v.length)+(m+1):=by omega
   rw[vu]
   have h2:(nv x+1)*2 ^ n<=4294967296 ^ x.length*2 ^ n:=Int.mul_le_mul_of_nonneg_right (by omega) (by omega)
   have h3:(4294967296:Int) ^ x.length*2 ^ n<=4294967296 ^ x.length*2147483648:=Int.mul_le_mul_of_nonneg_left n31 (by have:=pow_pos32 x.length;omega)
   have h4:(4294967296:Int) ^ x.length*2147483648=4294967296 ^ (m+1)*2147483648*4294967296 ^ (u0.length - v.length):=by rw[e,Int.pow_add];grind
   have h5:4294967296 ^ (m+1)*2147483648*4294967296 ^ (u0.length - v.length)<=nv v*4294967296 ^ (u0.length - v.length):=Int.mul_le_mul_of_nonneg_right vlow (by have:=pow_pos32 (u0.length - v.length);omega)
   have h6:(nv x+1)*2 ^ n=nv x*2 ^ n+2 ^ n:=by grind
   omega
 rintro⟨n',v',m',k',u',o'⟩ ⟨K,u,o,h⟩
 obtain rfl:n'=(n:Int):=h.en
 obtain rfl:v'=some v:=h.ev
 obtain rfl:m'=(v.length:Int):=h.em
 obtain rfl:k'=(K:Int) - 1:=h.ek
 obtain rfl:u'=some u:=h.eu
 obtain rfl:o'=some o:=h.eo
 obtain⟨_,_,_,_,_,_,ul,ud,ol,od,oz,kl,val,lt⟩:=h
 dsimp only
 refine q00.2 ⟨fun hb=>?_,fun hb=>?_⟩
 ·
  have hb:(0:Int)<=(K:Int) - 1:=dec_t hb
  obtain⟨k,rfl⟩:∃ k,K=k+1:=⟨K - 1,by omega⟩
  have ek:((k+1:Nat):Int) - 1=(k:Int):=by omega
  rw[ek,hlv]
  have hkm:k+m+3<=u0.length:=by omega
  have e1:IntKind.wrap IntKind.i64 ((k:Int)+((m+2:Nat):Int))=((k+m+2:Nat):Int):=by rw[wi64 (by omega) (by omega)];omega
  have e2:IntKind.wrap IntKind.i64 (((k+m+2:Nat):Int) - 1)=((k+m+1:Nat):Int):=by rw[wi64 (by omega) (by omega)];omega
  have e3:IntKind.wrap IntKind.i64 (((k+m+2:Nat):Int) - 2)=((k+m:Nat):Int):=by rw[wi64 (by omega) (by omega)];omega
  have e4:IntKind.wrap IntKind.i64 (((m+2:Nat):Int) - 1)=((m+1:Nat):Int):=by rw[wi64 (by omega) (by omega)];omega
  have e5:IntKind.wrap IntKind.i64 (((m+2:Nat):Int) - 2)=((m:Nat):Int):=by rw[wi64 (by omega) (by omega)];omega
  have gu0:=ud.get (k+m+2)
  have gu1:=ud.get (k+m+1)
  have gu2:=ud.get (k+m)
  have x1:eltS (0:Int) (some v) ((m+1:Nat):Int)=v.getD (m+1) 0:=by simp only[eltS,Option.getD_some,Int.toNat_natCast]
  have x2:eltS (0:Int) (some v) ((m:Nat):Int)=v.getD m 0:=by simp only[eltS,Option.getD_some,Int.toNat_natCast]
  have x3:eltN (0:Int) (some u) (toN ((k+m+2:Nat):Int))=u.getD (k+m+2) 0:=by simp only[eltN,toN,Option.getD_some,Int.toNat_natCast]
  have x4:eltN (0:Int) (some u) (toN ((k+m+1:Nat):Int))=u.getD (k+m+1) 0:=by simp only[eltN,toN,Option.getD_some,Int.toNat_natCast]
  have x5:eltN (0:Int) (some u) (toN ((k+m:Nat):Int))=u.getD (k+m) 0:=by simp only[eltN,toN,Option.getD_some,Int.toNat_natCast]
  have y1:IntKind.wrap IntKind.u64 (v.getD (m+1) 0)=v.getD (m+1) 0:=wu64 gv1.1 (by omega)
  have y2:IntKind.wrap IntKind.u64 (v.getD m 0)=v.getD m 0:=wu64 gv2.1 (by omega)
  have y3:IntKind.wrap IntKind.u64 (u.getD (k+m+2) 0)=u.getD (k+m+2) 0:=wu64 gu0.1 (by omega)
  have y4:IntKind.wrap IntKind.u64 (u.getD (k+m+1) 0)=u.getD (k+m+1) 0:=wu64 gu1.1 (by omega)
  have y5:IntKind.wrap IntKind.u64 (u.getD (k+m) 0)=u.getD (k+m) 0:=wu64 gu2.1 (by omega)
  have etop:bitI BinOp.or IntKind.u64 (shlI IntKind.u64 (u.getD (k+m+2) 0) 32) (u.getD (k+m+1) 0)=u.getD (k+m+2) 0*4294967296+u.getD (k+m+1) 0:=by
   rw[q5J,Int.emod_eq_of_lt (by omega) (by omega),q6x gu1.1 gu1.2 gu0.1 gu0.2,Int.add_comm]
  have uz:q04 u (k+m+3):=by
   refine lt_zeroFrom ud (Int.lt_of_lt_of_le lt ?_)
   have:nv v*4294967296 ^ (k+1)<=4294967296 ^ (m+2)*4294967296 ^ (k+1):=Int.mul_le_mul_of_nonneg_right (by omega) (by have:=pow_pos32 (k+1);omega)
   rw[<-Int.pow_add,show m+2+(k+1)=k+m+3 by omega] at this
   exact this
  obtain⟨wu,wu0,wu1,wu2⟩:=win3 ud uz
  have uV:nv (u.drop k)<nv v*4294967296:=by
   rw[q0b u k,Int.pow_succ] at lt
   have t:=take_lt ud k
   have:4294967296 ^ k*nv (u.drop k)<4294967296 ^ k*(nv v*4294967296):=by
    have e:nv v*(4294967296 ^ k*4294967296)=4294967296 ^ k*(nv v*4294967296):=by grind
    omega
   exact Int.lt_of_mul_lt_mul_left this (by have:=pow_pos32 k;omega)
  have est:Est (nv (u.drop k)) (nv v) (v.getD (m+1) 0) (v.getD m 0) (u.getD (k+m) 0) (u.getD (k+m+2) 0*4294967296+u.getD (k+m+1) 0) (4294967296 ^ m):=
   est_mk hP wu2 wv2 wu0 wu1 wv0 wv1 v1l gv1.2 gv2.1 gv2.2 gu2.1 gu2.2 gu1.1 gu0.1 uV
  have uz':q04 u (k+v.length+1):=by rw[hlv];exact uz
  have hkl:k+v.length<u.length:=by omega
  simp only[e1,e2,e3,e4,e5,x1,x2,x3,x4,x5,y1,y2,y3,y4,y5,etop]
  have gtop:0<=u.getD (k+m+2) 0*4294967296+u.getD (k+m+1) 0/\u.getD (k+m+2) 0*4294967296+u.getD (k+m+1) 0<18446744073709551616:=by omega
  have hq0:=est.q0
  have hqB:=est.qB
  refine⟨by simp only[inS,Option.getD_some];omega,by first | trivial | omega,by simp only[inS,Option.getD_some];omega,by simp only[inS,Option.getD_some];omega,by omega,by simp only[inS,Option.getD_some];omega,by omega,?_⟩
  refine joinR (fun p=>∃ q,p=((n:Int),some v,((m+2:Nat):Int),(k:Int),q,some u,some o)/\0<=q/\q<4294967296/\nv (u.drop k) / nv v<=q/\q - 1<=nv (u.drop k) / nv v) ?_ ?_
  ·
   rintro _ ⟨q,rfl,q0,qB,ql,qh⟩
   dsimp only
   refine loopE (fun p=>∃ (i:Nat) (w:List Int) (b c:Int),p=((n:Int),some v,((m+2:Nat):Int),(k:Int),q,b,c,some v,((m+2:Nat):Int),(i:Int),some w,some o)/\i<=m+2/\SubInv u v q k i w b c) (fun p=>(((m+2:Nat):Int) - p.2.2.2.2.2.2.2.2.2.1).toNat) ⟨0,u,0,0,?_,by omega,⟨rfl,ud,uz',by omega,by omega,by omega,by omega,by simp[nv]⟩⟩ ?_
   . simp only[szSl,Option.getD_some,hlv];rfl
   rintro _ ⟨i,w,b,c,rfl,hi,hs⟩
   dsimp only
   have hwl:w.length=u0.length:=hs.len.trans ul
   have b0:=hs.b0
   have b1:=hs.b1
   have c0:=hs.c0
   have c1:=hs.c1
   refine q00.2 ⟨fun hb=>?_,fun hb=>?_⟩
   . have hb:(i:Int)<((m+2:Nat):Int):=dec_t hb
     have f1:IntKind.wrap IntKind.i64 ((k:Int)+(i:Int))=((k+i:Nat):Int):=by rw[wi64 (by omega) (by omega)];omega
     have f2:IntKind.wrap IntKind.i64 ((i:Int)+1)=((i+1:Nat):Int):=by rw[wi64 (by omega) (by omega)];omega
     have hst:=hs.step dv (by omega) (by omega) q0 qB
     have gv:=dv.get i
     have gw:=hs.dig.get (k+i)
     have hbd:=q6W q0 qB gv.1 gv.2 hs.c0 hs.c1
     obtain⟨r1,r2,r3⟩:=sub_words gw.1 gw.2 hbd.1 hs.c0 hbd.2 hs.b0 hs.b1
     have y6:IntKind.wrap IntKind.u64 (v.getD i 0)=v.getD i 0:=wu64 gv.1 (by omega)
     simp only[f1,f2,inS,eltS,eltN,toN,Option.getD_some,Int.toNat_natCast,y6,r1,r2,r3,setO,Option.map_some]
     exact⟨by omega,by first | trivial | omega,by omega,by omega,by first | trivial | omega,⟨i+1,_,_,_,rfl,by omega,hst⟩,by omega⟩
   . have hb:¬ (i:Int)<((m+2:Nat):Int):=dec_f hb
     obtain rfl:i=m+2:=by omega
     have hs':SubInv u v q k v.length w b c:=by rw[hlv];exact hs
     have hend:=hs'.fin hkl
     have hr:=hend.right ud uz' vpos dv ql qh
     rw[hlv,<-Nat.add_assoc] at hend hr
     have gw:=hs.dig.get (k+m+2)
     have et:shrI IntKind.u64 (IntKind.wrap IntKind.u64 (IntKind.wrap IntKind.u64 (IntKind.wrap IntKind.u64 (w.getD (k+m+2) 0) - c) - b)) 63=if w.getD (k+m+2) 0<c+b then 1 else 0:=by
      rw[qaX,wu64m,wu64m,wu64m];split<;>omega
     have ed:IntKind.wrap IntKind.u32 (IntKind.wrap IntKind.u64 (IntKind.wrap IntKind.u64 (IntKind.wrap IntKind.u64 (w.getD (k+m+2) 0) - c) - b))=(w.getD (k+m+2) 0 - c - b) % 4294967296:=by
      rw[wu32m,wu64m,wu64m,wu64m];omega
     simp only[e1,inS,eltN,toN,Option.getD_some,Int.toNat_natCast,et,ed,setO,Option.map_some]
     refine⟨by omega,by omega,by first | trivial | omega,?_⟩
     refine joinR (fun p=>∃ u',p=((n:Int),some v,((m+2:Nat):Int),(k:Int),nv (u.drop k) / nv v,some u',some o)/\Left u v k u') ?_ ?_
     . rintro _ ⟨u',rfl,hL⟩
       dsimp only
       have f3:IntKind.wrap IntKind.u32 (nv (u.drop k) / nv v)=nv (u.drop k) / nv v:=wu32 hq0 (by omega)
       have f4:IntKind.wrap IntKind.i64 ((k:Int) - 1)=(k:Int) - 1:=wi64 (by omega) (by omega)
       simp only[f3,f4,inS,toN,Option.getD_some,Int.toNat_natCast,setO,Option.map_some]
       refine⟨by omega,⟨k,u',o.set k (nv (u.drop k) / nv v),⟨rfl,rfl,by rw[hlv],rfl,rfl,rfl,hL.len.trans ul,hL.dig,by rw[List.length_set];exact ol,od.set _ hq0 (by omega),?_,by omega,out_step hL val (oz k (by omega)) (by omega),left_lt hL ud vpos⟩⟩,by omega⟩
       intro j hj;rw[q1F (by omega)];exact oz j (by omega)
     . intro k9 hk9
       generalize (if w.getD (k+m+2) 0<c+b then (1:Int) else 0)=t at *
       refine q00.2 ⟨fun hb2=>?_,fun hb2=>?_⟩
       . have ht1:t=1:=dec_t hb2
         have hq:=hr.2 ht1
         have f5:IntKind.wrap IntKind.u64 (q - 1)=nv (u.drop k) / nv v:=by rw[wu64 (by omega) (by omega)];omega
         refine loopE (fun p=>∃ (i:Nat) (z:List Int) (c':Int),p=((n:Int),some v,((m+2:Nat):Int),(k:Int),nv (u.drop k) / nv v,c',some v,((m+2:Nat):Int),(i:Int),some z,some o)/\i<=m+2/\AddInv (w.set (k+m+2) ((w.getD (k+m+2) 0 - c - b) % 4294967296)) v k i z c') (fun p=>(((m+2:Nat):Int) - p.2.2.2.2.2.2.2.2.1).toNat) ⟨0,_,0,?_,by omega,⟨rfl,hend.dig,hend.zero,by omega,by omega,by simp[nv]⟩⟩ ?_
         . simp only[f5,szSl,Option.getD_some,hlv];rfl
         rintro _ ⟨i,z,c',rfl,hi',ha⟩
         dsimp only
         have hzl:z.length=u0.length:=ha.len.trans (hend.len.trans ul)
         have c0':=ha.c0
         have c1':=ha.c1
         refine q00.2 ⟨fun hb=>?_,fun hb=>?_⟩
         . have hb:(i:Int)<((m+2:Nat):Int):=dec_t hb
           have f1:IntKind.wrap IntKind.i64 ((k:Int)+(i:Int))=((k+i:Nat):Int):=by rw[wi64 (by omega) (by omega)];omega
           have f2:IntKind.wrap IntKind.i64 ((i:Int)+1)=((i+1:Nat):Int):=by rw[wi64 (by omega) (by omega)];omega
           have gv:=dv.get i
           have gz:=ha.dig.get (k+i)
           have hst:=ha.step dv (by omega) (by rw[hend.len];omega)
           simp only[f1,f2,inS,eltS,eltN,toN,Option.getD_some,Int.toNat_natCast]
           refine⟨by omega,by omega,(s_Add32 gz.1 gz.2 gv.1 gv.2 c0' (by omega)).mono ?_⟩
           rintro _ rfl
           simp only[setO,Option.map_some]
           exact⟨by omega,⟨i+1,_,_,rfl,by omega,hst⟩,by omega⟩
         . have hb:¬ (i:Int)<((m+2:Nat):Int):=dec_f hb
           obtain rfl:i=m+2:=by omega
           have gz:=ha.dig.get (k+m+2)
           simp only[e1,inS,eltN,toN,Option.getD_some,Int.toNat_natCast,setO,Option.map_some]
           refine⟨by omega,by omega,hk9 _ ⟨_,rfl,?_⟩⟩
           rw[wu32m]
           have ha':AddInv (w.set (k+m+2) ((w.getD (k+m+2) 0 - c - b) % 4294967296)) v k v.length z c':=by rw[hlv];exact ha
           have:=AddInv.left hend ht1 hq ha' ud uz' hkl vpos
           rw[hlv,<-Nat.add_assoc] at this
           exact this
       . have ht1:¬ t=1:=dec_f hb2
         have ht0:t=0:=hend.t01.resolve_right ht1
         have hq:=hr.1 ht0
         exact hk9 _ ⟨_,by rw[hq],hend.left ht0 hq⟩
  ·
   intro k6 hk6
   generalize u.getD (k+m+2) 0*4294967296+u.getD (k+m+1) 0=top at *
   refine loopE (fun p=>∃ q r:Int,p=((n:Int),some v,((m+2:Nat):Int),(k:Int),q,r,some u,some o)/\nv (u.drop k) / nv v<=q/\0<=r/\r<4294967296/\q*v.getD (m+1) 0+r=top/\q<17179869184) (fun p=>p.2.2.2.2.1.toNat) ⟨top / v.getD (m+1) 0,top % v.getD (m+1) 0,?_,est.init,Int.emod_nonneg _ (by omega),?_,?_,?_⟩ ?_
   . have hq:top / v.getD (m+1) 0<17179869184:=Int.ediv_lt_of_lt_mul (by omega) (by omega)
     have hq':0<=top / v.getD (m+1) 0:=Int.ediv_nonneg (by omega) (by omega)
     rw[Int.tdiv_eq_ediv_of_nonneg gtop.1,Int.tmod_eq_emod_of_nonneg gtop.1,wu64 hq' (by omega)]
   . have:=Int.emod_lt_of_pos top (show 0<v.getD (m+1) 0 by omega);omega
   . have:=Int.mul_ediv_add_emod top (v.getD (m+1) 0);rw[Int.mul_comm];exact this
   . exact Int.ediv_lt_of_lt_mul (by omega) (by omega)
   rintro _ ⟨q,r,rfl,ql,r0,rB,he,qB⟩
   dsimp only
   refine joinR (fun p=>p=((n:Int),some v,((m+2:Nat):Int),(k:Int),q,r,decide (4294967296<=q∨r*4294967296+u.getD (k+m) 0<q*v.getD m 0),some u,some o)) ?_ ?_
   . rintro _ rfl
     simp only[e4,x1,y1]
     refine q00.2 ⟨fun hb=>?_,fun hb=>?_⟩
     . have hb:=dec_t hb
       have hnx:=est.next ql he hb
       have f6:IntKind.wrap IntKind.u64 (q - 1)=q - 1:=wu64 (by omega) (by omega)
       have f7:IntKind.wrap IntKind.u64 (r+v.getD (m+1) 0)=r+v.getD (m+1) 0:=wu64 (by omega) (by omega)
       have he':(q - 1)*v.getD (m+1) 0+(r+v.getD (m+1) 0)=top:=by rw[<-he,Int.sub_mul];omega
       simp only[f6,f7]
       refine⟨by simp only[inS,Option.getD_some];omega,q00.2 ⟨fun h2=>?_,fun h2=>?_⟩⟩
       . have h2:4294967296<=r+v.getD (m+1) 0:=dec_t h2
         obtain⟨w1,w2⟩:=est.brk (by omega) he' h2
         exact hk6 _ ⟨q - 1,rfl,by omega,w1,hnx,est.done hnx he' w1 w2⟩
       . have h2:¬ 4294967296<=r+v.getD (m+1) 0:=dec_f h2
         exact⟨⟨q - 1,r+v.getD (m+1) 0,rfl,hnx,by omega,by omega,he',by omega⟩,by omega⟩
     . have hb:=dec_f hb
       exact hk6 _ ⟨q,rfl,by omega,by omega,ql,est.done ql he (by omega) (by omega)⟩
   . intro k9 hk9
     refine q00.2 ⟨fun h2=>?_,fun h2=>?_⟩
     . have h2:4294967296<=q:=dec_t h2
       exact hk9 _ (by rw[decide_eq_true (Or.inl h2)])
     . have h2:¬ 4294967296<=q:=dec_f h2
       have eo:bitI BinOp.or IntKind.u64 (shlI IntKind.u64 r 32) (u.getD (k+m) 0)=r*4294967296+u.getD (k+m) 0:=by
        rw[q5J,Int.emod_eq_of_lt (by omega) (by omega),q6x gu2.1 gu2.2 r0 rB,Int.add_comm]
       have hb:=q6W (q:=q) (d:=v.getD m 0) (carry:=0) (by omega) (by omega) gv2.1 gv2.2 (by omega) (by omega)
       have em:IntKind.wrap IntKind.u64 (q*v.getD m 0)=q*v.getD m 0:=wu64 hb.1 (by omega)
       simp only[e1,e3,e5,x2,x5,y2,y5,eo,em]
       refine⟨by simp only[inS,Option.getD_some];omega,by first | trivial | omega,by simp only[inS,Option.getD_some];omega,hk9 _ ?_⟩
       have:decide (r*4294967296+u.getD (k+m) 0<q*v.getD m 0)=decide (4294967296<=q∨r*4294967296+u.getD (k+m) 0<q*v.getD m 0):=decide_eq_decide.2 ⟨Or.inr,fun h=>h.resolve_left h2⟩
       rw[this]
 ·
  have hb:¬ (0:Int)<=(K:Int) - 1:=dec_f hb
  obtain rfl:K=0:=by omega
  simp only[Int.pow_zero,Int.mul_one] at lt
  rw[vu,vv] at val
  rw[vv] at lt
  have hR:nv u=(nv x - nv o*nv y)*2 ^ n:=by rw[Int.sub_mul,val];grind
  have hu0:=nv_nonneg ud
  have hR0:0<=nv x - nv o*nv y:=by
   rw[hR] at hu0
   rcases Int.lt_or_le (nv x - nv o*nv y) 0 with h | h
   . have:(nv x - nv o*nv y)*2 ^ n<0:=Int.mul_neg_of_neg_of_pos h hp2
     omega
   . exact h
  have hR1:nv x - nv o*nv y<nv y:=by
   rw[hR] at lt
   exact Int.lt_of_mul_lt_mul_right lt (by omega)
  obtain⟨d1,d2⟩:=q5i (show nv o*nv y+(nv x - nv o*nv y)=nv x by omega) hR0 hR1
  have hyB:=nv_lt dy
  refine⟨by simp only[mkC];omega,?_⟩
  refine loopE (fun p=>∃ (i:Nat) (rl:List Int),p=((n:Int),(v.length:Int),(i:Int),some u,some o,some rl)/\i<=v.length/\rl.length=v.length/\Dig rl/\(∀ j,i<=j->rl.getD j 0=0)/\nv rl=(nv x - nv o*nv y) % 4294967296 ^ i) (fun p=>((v.length:Int) - p.2.2.1).toNat) ⟨0,List.replicate v.length 0,?_,by omega,by simp,Dig.rep _,?_,?_⟩ ?_
  . simp only[repS,szSl,Int.toNat_natCast,Option.getD_some,List.length_replicate];rfl
  . intro j _
    rcases Nat.lt_or_ge j v.length with h | h
    . simp[List.getD,h]
    . simp[List.getD,Nat.not_lt.2 h]
  . rw[q4c];simp[Int.emod_one]
  rintro _ ⟨i,rl,rfl,hi,hrl,drl,zrl,vrl⟩
  dsimp only
  refine q00.2 ⟨fun hb=>?_,fun hb=>?_⟩
  . have hb:(i:Int)<(v.length:Int):=dec_t hb
    have f2:IntKind.wrap IntKind.i64 ((i:Int)+1)=((i+1:Nat):Int):=by rw[wi64 (by omega) (by omega)];omega
    have g0:=ud.get i
    have g1:=ud.get (i+1)
    have es:shlI IntKind.u64 (u.getD (i+1) 0) 32=u.getD (i+1) 0*4294967296:=by rw[q5J,Int.emod_eq_of_lt (by omega) (by omega)]
    have eo:bitI BinOp.or IntKind.u64 (u.getD i 0) (u.getD (i+1) 0*4294967296)=u.getD i 0+u.getD (i+1) 0*4294967296:=or64 32 g0.1 (by omega) g1.1 (by omega)
    have ew:IntKind.wrap IntKind.u32 (shrI IntKind.u64 (u.getD i 0+u.getD (i+1) 0*4294967296) (n:Int))=(nv x - nv o*nv y) / 4294967296 ^ i % 4294967296:=by
     rw[wu32m,shr64 _ _ (by omega),Int.mul_comm (u.getD (i+1) 0)]
     exact qjn ud hn _ hR
    have h64a:IntKind.wrap IntKind.u64 (u.getD i 0)=u.getD i 0:=wu64 g0.1 (by omega)
    have h64b:IntKind.wrap IntKind.u64 (u.getD (i+1) 0)=u.getD (i+1) 0:=wu64 g1.1 (by omega)
    simp only[f2,inS,eltN,toN,Option.getD_some,Int.toNat_natCast,h64a,h64b,es,eo,ew,setO,Option.map_some]
    refine⟨by omega,by omega,by first | trivial | omega,by omega,by omega,⟨i+1,_,rfl,by omega,by rw[List.length_set];exact hrl,drl.set i (by omega) (by omega),?_,rest_step (by omega) (zrl i (Nat.le_refl _)) vrl rfl⟩,by omega⟩
    intro j hj;rw[q1F (by omega)];exact zrl j (by omega)
  . have hb:¬ (i:Int)<(v.length:Int):=dec_f hb
    obtain rfl:i=v.length:=by omega
    rw[hlv,<-hm,Int.emod_eq_of_lt hR0 (by omega)] at vrl
    refine⟨⟨o,rfl,od,d1,by omega⟩,rl,rfl,drl,by rw[vrl,d2],by omega⟩
end Go.Proofs.Pf
namespace Go.Proofs.Pf
open Go Go.VM
set_option maxRecDepth 100000
def qcb:Ann:=(.s (.seq (.s (.blk none (.loop ⟨[],[.var 5 (.sl tNum),.var 6 tI,.var 7 tI]⟩ .nil))) .nil))
theorem qkC {Q:Bool->Prop} (a:(Option (List (Int×Int)))) (hQ:∃ r,Q r) (h:
 (loopV (Option (List (Int×Int))×Int×Int) (fun k0  (i,j,k)=>brV (decide (k<j)) (inS i k/\callV Pg q1c [⟨tNum,eltS ((0:Int),(0:Int)) i k⟩] .bool (fun p2=>brV (notB p2) (Q false) (k0 (i,j,IntKind.wrap IntKind.i64 (k+(1:Int)))))) (Q true)) (a,szSl a,(0:Int)))):
 callV Pg q3o [⟨(.sl tNum),a⟩] .bool Q:=
 q02 (c:=q01 q8u) (ann:=qcb) qf4 rfl qhS rfl rfl hQ (kcast (by kernel_rfl) h)
def qcc:Ann:=(.s (.s (.s (.seq (.seq (.reg [] [] (some ⟨[(2,.ref 2 0)],[.var 4 tI,.var 6 tI,.var 25 .bool,.box 2 tNum]⟩)) .nil) .nil))))
theorem qkD {Q:((Int×Int)×(Bool×Unit))->Prop} (a:DRR) (hQ:∃ r,Q r) (h:
 (callV Pg q2F [⟨tRI,a.1⟩] (.tup (.pair tI (.pair .bool .unit))) (fun p0=>callV Pg q2F [⟨tRI,a.2⟩] (.tup (.pair tI (.pair .bool .unit))) (fun p1=>joinV (Int×Int×Bool×Int×Int) (fun (i,j,k,_)=>brV k (Q (((0:Int),(0:Int)),false,())) (Q ((i,j),true,()))) (fun k2=>brV (notB p0.2.1) (k2 (p0.1,p1.1,true,(0:Int),(0:Int))) (k2 (p0.1,p1.1,notB p1.2.1,(0:Int),(0:Int)))))))):
 callV Pg q2B [⟨tRR,a⟩] (.tup (.pair tNum (.pair .bool .unit))) Q:=
 q02 (c:=q01 q8v) (ann:=qcc) qf5 rfl qhT rfl rfl hQ (kcast (by kernel_rfl) h)
def qcp:Ann:=let x:Shape:=⟨[(2,.ref 2 0),(3,.ref 3 0),(4,.ref 4 0)],[.box 2 tRI,.box 3 tRI,.box 4 tRR]⟩;(.s (.seq (.s (.cond (some x) .nil .nil)) (.s (.seq (.s (.cond (some x) .nil .nil)) .nil))))
theorem qkQ {Q:DRR->Prop} (a:DRI) (b:DRI) (hQ:∃ r,Q r) (h:
 (callV Pg q0g [⟨tRI,b⟩] tI (fun p0=>joinV (DRI×DRI×DRR) (fun (i,j,k)=>callV Pg q2C [⟨tRI,i⟩,⟨tRI,j⟩] tRI (fun p2=>callV Pg q0r [⟨tI,(1:Int)⟩] tRI (fun p3=>callV Pg q2D [⟨tRI,p2⟩,⟨tRI,p3⟩] tI (fun p4=>joinV (DRI×DRI×DRR) (fun (l,m,_)=>Q (l,m)) (fun k5=>brV (notB (decide (p4=(0:Int)))) (callV Pg q1T [⟨tRI,i⟩,⟨tRI,p2⟩] (.tup (.pair tRI (.pair tRI .unit))) (fun p6=>callV Pg q1T [⟨tRI,j⟩,⟨tRI,p2⟩] (.tup (.pair tRI (.pair tRI .unit))) (fun p7=>k5 (p6.1,p7.1,k)))) (k5 (i,j,k))))))) (fun k1=>brV (decide (p0<(0:Int))) (callV Pg q1a [⟨tRI,a⟩] tRI (fun p2=>callV Pg q1a [⟨tRI,b⟩] tRI (fun p3=>k1 (p2,p3,z0)))) (k1 (a,b,z0)))))):
 callV Pg q1V [⟨tRI,a⟩,⟨tRI,b⟩] tRR Q:=
 q02 (c:=q01 q8I) (ann:=qcp) qfi rfl qi6 rfl rfl hQ (kcast (by kernel_rfl) h)
def qcq:Ann:=.nil
theorem qkR {Q:((Int×Int)×(Int×Unit))->Prop} (a:DRR) (hQ:∃ r,Q r) (h:
 (callV Pg q2B [⟨tRR,a⟩] (.tup (.pair tNum (.pair .bool .unit))) (fun p0=>brV (notB p0.2.1) (Q (((0:Int),(0:Int)),(3:Int),())) (Q (p0.1,(0:Int),()))))):
 callV Pg q3r [⟨tRR,a⟩] (.tup (.pair tNum (.pair tI .unit))) Q:=
 q02 (c:=q01 q8J) (ann:=qcq) qfj rfl qi7 rfl rfl hQ (kcast (by kernel_rfl) h)
def qcs:Ann:=.nil
theorem qkT {Q:Int->Prop} (a:DRR) (b:DRR) (hQ:∃ r,Q r) (h:
 (callV Pg q3s [⟨tRR,a⟩,⟨tRR,b⟩] tRR (fun p0=>callV Pg q1W [⟨tRR,p0⟩] tI (fun p1=>Q p1)))):
 callV Pg q1b [⟨tRR,a⟩,⟨tRR,b⟩] tI Q:=
 q02 (c:=q01 q8L) (ann:=qcs) qfl rfl qi9 rfl rfl hQ (kcast (by kernel_rfl) h)
def qct:Ann:=.nil
theorem qkU {Q:DRR->Prop} (a:DRR) (b:DRR) (hQ:∃ r,Q r) (h:
 (callV Pg q3t [⟨tRR,b⟩] tRR (fun p0=>callV Pg q0V [⟨tRR,a⟩,⟨tRR,p0⟩] tRR (fun p1=>Q p1)))):
 callV Pg q3s [⟨tRR,a⟩,⟨tRR,b⟩] tRR Q:=
 q02 (c:=q01 q8M) (ann:=qct) qfm rfl qia rfl rfl hQ (kcast (by kernel_rfl) h)
def qcu:Ann:=.nil
theorem qkV {Q:DRR->Prop} (a:DRR) (hQ:∃ r,Q r) (h:
 (callV Pg q1a [⟨tRI,a.1⟩] tRI (fun p0=>Q (p0,a.2)))):
 callV Pg q3t [⟨tRR,a⟩] tRR Q:=
 q02 (c:=q01 q8N) (ann:=qcu) qfn rfl qib rfl rfl hQ (kcast (by kernel_rfl) h)
def qcv:Ann:=.nil
theorem qkW {Q:DRR->Prop} (a:DRR) (b:DRR) (hQ:∃ r,Q r) (h:
 (callV Pg q0I [⟨tRI,a.1⟩,⟨tRI,b.2⟩] tRI (fun p0=>callV Pg q0I [⟨tRI,a.2⟩,⟨tRI,b.1⟩] tRI (fun p1=>callV Pg q1V [⟨tRI,p0⟩,⟨tRI,p1⟩] tRR (fun p2=>Q p2))))):
 callV Pg q3u [⟨tRR,a⟩,⟨tRR,b⟩] tRR Q:=
 q02 (c:=q01 q8O) (ann:=qcv) qfo rfl qic rfl rfl hQ (kcast (by kernel_rfl) h)
def qcw:Ann:=.nil
theorem qkX {Q:DRR->Prop} (a:DRR) (b:DRR) (hQ:∃ r,Q r) (h:
 (callV Pg q0I [⟨tRI,a.1⟩,⟨tRI,b.2⟩] tRI (fun p0=>callV Pg q0I [⟨tRI,b.1⟩,⟨tRI,a.2⟩] tRI (fun p1=>callV Pg q2E [⟨tRI,p0⟩,⟨tRI,p1⟩] tRI (fun p2=>callV Pg q0I [⟨tRI,a.2⟩,⟨tRI,b.2⟩] tRI (fun p3=>callV Pg q1V [⟨tRI,p2⟩,⟨tRI,p3⟩] tRR (fun p4=>Q p4))))))):
 callV Pg q0V [⟨tRR,a⟩,⟨tRR,b⟩] tRR Q:=
 q02 (c:=q01 q8P) (ann:=qcw) qfp rfl qid rfl rfl hQ (kcast (by kernel_rfl) h)
def qcx:Ann:=.nil
theorem qkY {Q:Int->Prop} (a:DRR) (hQ:∃ r,Q r) (h:
 (callV Pg q0g [⟨tRI,a.1⟩] tI (fun p0=>Q p0))):
 callV Pg q1W [⟨tRR,a⟩] tI Q:=
 q02 (c:=q01 q8Q) (ann:=qcx) qfq rfl qie rfl rfl hQ (kcast (by kernel_rfl) h)
def qcy:Ann:=.nil
theorem qkZ {Q:DRR->Prop} (a:DRR) (b:DRR) (hQ:∃ r,Q r) (h:
 (callV Pg q0I [⟨tRI,a.1⟩,⟨tRI,b.1⟩] tRI (fun p0=>callV Pg q0I [⟨tRI,a.2⟩,⟨tRI,b.2⟩] tRI (fun p1=>callV Pg q1V [⟨tRI,p0⟩,⟨tRI,p1⟩] tRR (fun p2=>Q p2))))):
 callV Pg q0W [⟨tRR,a⟩,⟨tRR,b⟩] tRR Q:=
 q02 (c:=q01 q8R) (ann:=qcy) qfr rfl qif rfl rfl hQ (kcast (by kernel_rfl) h)
def qcz:Ann:=(.s (.s (.seq (.s (.blk none (.loop ⟨[],[.var 0 (.sl tNum),.var 1 (.sl tNum),.var 12 tI,.var 13 tI]⟩ .nil))) .nil)))
theorem ql0 {Q:Bool->Prop} (a:(Option (List (Int×Int)))) (b:(Option (List (Int×Int)))) (hQ:∃ r,Q r) (h:
 (brV (notB (decide ((szSl a)=(szSl b)))) (Q false) (loopV (Option (List (Int×Int))×Option (List (Int×Int))×Int×Int) (fun k0  (i,j,k,l)=>brV (decide (l<k)) (inS i l/\inS j l/\brV (notB (andB (decide ((eltS ((0:Int),(0:Int)) i l).1=(eltS ((0:Int),(0:Int)) j l).1)) (andB (decide ((eltS ((0:Int),(0:Int)) i l).2=(eltS ((0:Int),(0:Int)) j l).2)) true))) (Q false) (k0 (i,j,k,IntKind.wrap IntKind.i64 (l+(1:Int))))) (Q true)) (a,b,szSl a,(0:Int))))):
 callV Pg q2G [⟨(.sl tNum),a⟩,⟨(.sl tNum),b⟩] .bool Q:=
 q02 (c:=q01 q8S) (ann:=qcz) qfs rfl qig rfl rfl hQ (kcast (by kernel_rfl) h)
def qcA:Ann:=.nil
theorem ql1 {Q:DRR->Prop} (a:(Int×Int)) (hQ:∃ r,Q r) (h:
 (callV Pg q0r [⟨tI,a.1⟩] tRI (fun p0=>callV Pg q0r [⟨tI,a.2⟩] tRI (fun p1=>Q (p0,p1))))):
 callV Pg q0J [⟨tNum,a⟩] tRR Q:=
 q02 (c:=q01 q8T) (ann:=qcA) qft rfl qih rfl rfl hQ (kcast (by kernel_rfl) h)
def qcB:Ann:=(.s (.seq (.seq (.reg [] [] (some ⟨[(1,.ref 1 0)],[.var 20 .bool,.box 1 tNum]⟩)) .nil) .nil))
theorem ql2 {Q:Bool->Prop} (a:(Int×Int)) (hQ:∃ r,Q r) (h:
 (joinV (Bool×Int×Int) (fun (i,j,k)=>brV i (Q false) (callV Pg q0r [⟨tI,j⟩] tRI (fun p1=>callV Pg q0r [⟨tI,k⟩] tRI (fun p2=>callV Pg q2C [⟨tRI,p1⟩,⟨tRI,p2⟩] tRI (fun p3=>callV Pg q0r [⟨tI,(1:Int)⟩] tRI (fun p4=>callV Pg q2D [⟨tRI,p3⟩,⟨tRI,p4⟩] tI (fun p5=>Q (decide (p5=(0:Int)))))))))) (fun k0=>brV (decide (a.2<(1:Int))) (k0 (true,a)) (brV (decide ((1152921504606846976:Int)<a.2)) (k0 (true,a)) (brV (decide ((1152921504606846976:Int)<a.1)) (k0 (true,a)) (k0 (decide (a.1<(-(1152921504606846976:Int))),a))))))):
 callV Pg q1c [⟨tNum,a⟩] .bool Q:=
 q02 (c:=q01 q8U) (ann:=qcB) qfu rfl qii rfl rfl hQ (kcast (by kernel_rfl) h)
def qcC:Ann:=.nil
theorem ql3 {Q:DRR->Prop} (a:Int) (hQ:∃ r,Q r) (h:
 (callV Pg q0r [⟨tI,a⟩] tRI (fun p0=>callV Pg q0r [⟨tI,(1:Int)⟩] tRI (fun p1=>Q (p0,p1))))):
 callV Pg q0k [⟨tI,a⟩] tRR Q:=
 q02 (c:=q01 q8V) (ann:=qcC) qfv rfl qij rfl rfl hQ (kcast (by kernel_rfl) h)
end Go.Proofs.Pf
namespace Go.Proofs.Pf
open Go Go.VM
set_option maxRecDepth 100000
def qc9:Ann:=(.s (.s (.seq (.s (.blk none (.loop ⟨[(3,.own 1003)],[.var 6 (.sl tNum),.var 7 tI,.var 8 tI,.arr 1003 tER]⟩ .nil))) .nil)))
theorem qkA {Q:(Option (List DR))->Prop} (a:(Option (List (Int×Int)))) (hQ:∃ r,Q r) (h:
 (loopV (Option (List (Int×Int))×Int×Int×Option (List DR)) (fun k0  (i,j,k,l)=>brV (decide (k<j)) (inS i k/\callV Pg q1y [⟨tNum,eltS ((0:Int),(0:Int)) i k⟩] tER (fun p2=>appC 64 l (lst (some [p2]))/\k0 (i,j,IntKind.wrap IntKind.i64 (k+(1:Int)),appL l (lst (some [p2]))))) (Q l)) (a,szSl a,(0:Int),none))):
 callV Pg q19 [⟨(.sl tNum),a⟩] (.sl tER) Q:=
 q02 (c:=q01 q8s) (ann:=qc9) qf2 rfl qhQ rfl rfl hQ (kcast (by kernel_rfl) h)
def qc7:Ann:=(.s (.s (.seq (.s (.blk none (.loop ⟨[(4,.own 1004)],[.var 9 (.sl tER),.var 10 tI,.var 11 tI,.arr 1004 tNum]⟩ .nil))) .nil)))
theorem qkz {Q:((Option (List (Int×Int)))×(Int×Unit))->Prop} (a:(Option (List DR))) (hQ:∃ r,Q r) (h:
 (loopV (Option (List DR)×Int×Int×Option (List (Int×Int))) (fun k0  (i,j,k,l)=>brV (decide (k<j)) (inS i k/\callV Pg q1R [⟨tER,eltS r0 i k⟩] (.tup (.pair tNum (.pair tI .unit))) (fun p2=>brV (notB (decide (p2.2.1=(0:Int)))) (Q (none,p2.2.1,())) (appC 16 l (lst (some [p2.1]))/\k0 (i,j,IntKind.wrap IntKind.i64 (k+(1:Int)),appL l (lst (some [p2.1])))))) (Q (l,(0:Int),()))) (a,szSl a,(0:Int),none))):
 callV Pg q3n [⟨(.sl tER),a⟩] (.tup (.pair (.sl tNum) (.pair tI .unit))) Q:=
 q02 (c:=q01 q8q) (ann:=qc7) qf1 rfl qhP rfl rfl hQ (kcast (by kernel_rfl) h)
def qbb:Ann:=(.s (.s (.seq (.reg [] [(2,([.opn 12 90012],false))] none) (.seq (.s (.blk none (.loop ⟨[(1,.ref 1 0),(4,.own 12)],[.var 3 tI,.var 13 tI,.var 14 tI,.box 1 tMo,.arr 12 (.hd 90012),.pool 90012 tER]⟩ (.s (.s (.seq (.blk none (.s (.seq (.reg [] [(5,([.giv 20 90012],false))] none) (.s (.blk none (.loop ⟨[(1,.ref 1 0),(4,.own 12)],[.var 3 tI,.var 5 tI,.var 13 tI,.var 14 tI,.var 30 (.sl tBr),.var 31 tI,.var 32 tI,.box 1 tMo,.arr 12 (.hd 90012),.pool 90012 tER]⟩ .nil)))))) .nil)))))) (.seq (.reg [] [(4095,([.frp 90012],false))] none) .nil)))))
theorem qjF {Q:(Option (List (Option (List DR))))->Prop} (a:DMo) (hQ:∃ r,Q r) (h:
 (mkC 24 (szSl a) (szSl a)/\nilAll (α:=(List DR)) (some (repS (szSl a) none))/\loopV (Int×Int×Int×DMo×Option (List (Option Nat))×List (List DR)) (fun k0  (i,j,k,l,m,n)=>brV (decide (k<j)) (mkC 64 i i/\inS m k/\inS l k/\inS (eltS ((0:Int),(0:Int),none) l k).2.2 (0:Int)/\loopV (Int×Int×Int×Int×Option (List DBr)×Int×Int×DMo×Option (List (Option Nat))×List (List DR)) (fun k2  (o,p,q,r,s,t,u,v,w,x)=>brV (decide (u<t)) (inS s u/\inS w p/\callV Pg q1y [⟨tNum,(eltS ((0:Int),(0:Int),(0:Int)) s u).2⟩] tER (fun p4=>inH x (eltN none w (toN p)) (eltS ((0:Int),(0:Int),(0:Int)) s u).1/\k2 (o,p,q,r,s,t,IntKind.wrap IntKind.i64 (u+(1:Int)),v,w,setR x (Option.getD (eltN none w (toN p)) 0) (toN (eltS ((0:Int),(0:Int),(0:Int)) s u).1) p4))) (k0 (o,q,IntKind.wrap IntKind.i64 (r+(1:Int)),v,w,x))) (i,k,j,k,(eltS (((0:Int),(0:Int)),none) (eltS ((0:Int),(0:Int),none) l k).2.2 (0:Int)).2,szSl (eltS (((0:Int),(0:Int)),none) (eltS ((0:Int),(0:Int),none) l k).2.2 (0:Int)).2,(0:Int),l,setO m (toN k) (gvH (α:=(List DR)) (some (repS i r0)) (lenL n)),gvL n (some (repS i r0)))) (Q (mapL (fun x2=>unH n x2) m))) (szSl a,szSl a,(0:Int),a,hdL (α:=(List DR)) (some (repS (szSl a) none)),[]))):
 callV Pg q0E [⟨tMo,a⟩] (.sl (.sl tER)) Q:=
 q02 (c:=q01 q7u) (ann:=qbb) qe6 rfl qgU rfl rfl hQ (kcast (by kernel_rfl) h)
def qdH:Ann:=.nil
theorem qm8 {Q:DR->Prop} (hQ:∃ r,Q r) (h:
 (callV Pg q1u [⟨tI,(1:Int)⟩] tER (fun p0=>Q p0))):
 callV Pg q0Z [] tER Q:=
 q02 (c:=q01 q9T) (ann:=qdH) qgt rfl qjh rfl rfl hQ (kcast (by kernel_rfl) h)
def qdL:Ann:=.nil
theorem qmc {Q:DR->Prop} (a:DR) (b:DR) (c:DR) (hQ:∃ r,Q r) (h:
 (callV Pg q0G [⟨tER,b⟩,⟨tER,c⟩] tER (fun p0=>callV Pg q0F [⟨tER,a⟩,⟨tER,p0⟩] tER (fun p1=>Q p1)))):
 callV Pg q0a [⟨tER,a⟩,⟨tER,b⟩,⟨tER,c⟩] tER Q:=
 q02 (c:=q01 q9X) (ann:=qdL) qgx rfl qjl rfl rfl hQ (kcast (by kernel_rfl) h)
def qdF:Ann:=let x:Shape:=⟨[(3,.cst (.fn q0a)),(9,.own 15)],[.var 0 (.sl (.sl tER)),.var 1 (.sl tER),.var 2 .bool,.var 10 tI,.var 17 tI,.var 18 tI,.var 24 (.sl tER),.var 25 tI,.var 26 tI,.arr 15 tER]⟩;(.s (.s (.seq (.s (.blk none (.loop ⟨[(3,.cst (.fn q0a)),(9,.own 15)],[.var 0 (.sl (.sl tER)),.var 1 (.sl tER),.var 2 .bool,.var 17 tI,.var 18 tI,.arr 15 tER]⟩ (.s (.s (.seq (.blk none (.s (.s (.blk none (.loop x (.s (.s (.seq (.blk none (.s (.blk none (.s (.cond (some x) .nil (.s (.cond (some x) .nil .nil))))))) .nil)))))))) .nil)))))) .nil)))
theorem qm6 {Q:(Option (List DR))->Prop} (a:(Option (List (Option (List DR))))) (b:(Option (List DR))) (c:Bool) (d:Unit) (hQ:∃ r,Q r) (h:
 (mkC 64 (szSl b) (szSl b)/\loopV (Option (List (Option (List DR)))×Option (List DR)×Bool×Int×Int×Option (List DR)) (fun k0  (i,j,k,l,m,n)=>brV (decide (m<l)) (inS i m/\loopV (Option (List (Option (List DR)))×Option (List DR)×Bool×Int×Int×Int×Option (List DR)×Int×Int×Option (List DR)) (fun k2  (o,p,q,r,s,t,u,v,w,x)=>brV (decide (w<v)) (inS u w/\callV Pg q0i [⟨tER,eltS r0 u w⟩] tI (fun p4=>joinV (Option (List (Option (List DR)))×Option (List DR)×Bool×Int×Int×Int×Option (List DR)×Int×Int×Option (List DR)) (fun (y,z,e,f,g,d,A,B,C,D)=>k2 (y,z,e,f,g,d,A,B,IntKind.wrap IntKind.i64 (C+(1:Int)),D)) (fun k5=>brV (decide (p4=(0:Int))) (k5 (o,p,q,r,s,t,u,v,w,x)) (joinV (Option (List (Option (List DR)))×Option (List DR)×Bool×Int×Int×Int×Option (List DR)×Int×Int×Option (List DR)) (fun y=>k5 y) (fun k6=>brV q (inS x r/\inS p w/\callV Pg q0a [⟨tER,eltN r0 x (toN r)⟩,⟨tER,eltS r0 p w⟩,⟨tER,eltS r0 u w⟩] tER (fun p7=>inS x r/\k6 (o,p,q,r,s,t,u,v,w,setO x (toN r) p7))) (inS x w/\inS p r/\callV Pg q0a [⟨tER,eltN r0 x (toN w)⟩,⟨tER,eltS r0 p r⟩,⟨tER,eltS r0 u w⟩] tER (fun p7=>inS x w/\k6 (o,p,q,r,s,t,u,v,w,setO x (toN w) p7)))))))) (k0 (o,p,q,s,IntKind.wrap IntKind.i64 (t+(1:Int)),x))) (i,j,k,m,l,m,eltS none i m,szSl (eltS none i m),(0:Int),n)) (Q n)) (a,b,c,szSl a,(0:Int),some (repS (szSl b) r0)))):
 callV Pg q1f [⟨(.sl (.sl tER)),a⟩,⟨(.sl tER),b⟩,⟨.bool,c⟩,⟨(.cst (.fn q0a)),d⟩] (.sl tER) Q:=
 q02 (c:=q01 q6a) (ann:=qdF) q7q rfl qaC rfl rfl hQ (kcast (by kernel_rfl) h)
def qdJ:Ann:=let x:Shape:=⟨[(7,.own 12)],[.var 1 (.sl tER),.var 2 tI,.var 14 (.sl tSt),.var 15 tI,.var 16 tI,.arr 12 tER]⟩;(.s (.s (.seq (.s (.blk none (.loop x (.s (.s (.seq (.blk none (.s (.s (.cond (some x) .nil .nil)))) .nil)))))) .nil)))
theorem qma {Q:(Option (List DR))->Prop} (a:DMo) (b:(Option (List DR))) (c:Int) (hQ:∃ r,Q r) (h:
 (mkC 64 (szSl b) (szSl b)/\loopV (Option (List DR)×Int×DMo×Int×Int×Option (List DR)) (fun k0  (i,j,k,l,m,n)=>brV (decide (m<l)) (inS k m/\joinV (Option (List DR)×Int×DMo×Int×Int×Option (List DR)) (fun (o,p,q,r,s,t)=>k0 (o,p,q,r,IntKind.wrap IntKind.i64 (s+(1:Int)),t)) (fun k2=>brV (decide ((eltS ((0:Int),(0:Int),none) k m).2.1=j)) (inS i m/\inS n m/\k2 (i,j,k,l,m,setO n (toN m) (eltS r0 i m))) (k2 (i,j,k,l,m,n)))) (Q n)) (b,c,a,szSl a,(0:Int),some (repS (szSl b) r0)))):
 callV Pg q1B [⟨tMo,a⟩,⟨(.sl tER),b⟩,⟨tI,c⟩] (.sl tER) Q:=
 q02 (c:=q01 q9V) (ann:=qdJ) qgv rfl qjj rfl rfl hQ (kcast (by kernel_rfl) h)
def qdw:Ann:=(.s (.s (.s (.s (.seq (.s (.blk none (.loop ⟨[(3,.ref 3 0),(8,.own 1008)],[.var 7 (.sl (.sl tER)),.var 9 (.sl tER),.var 15 tL,.var 16 tI,.var 17 tI,.box 3 tMo,.arr 1008 (.sl tER)]⟩ (.s (.s (.seq (.blk none (.s (.seq (.s (.cond (some ⟨[(3,.ref 3 0),(8,.own 1008)],[.var 7 (.sl (.sl tER)),.var 9 (.sl tER),.var 11 tI,.var 15 tL,.var 16 tI,.var 17 tI,.box 3 tMo,.arr 1008 (.sl tER)]⟩) .nil .nil)) .nil))) .nil)))))) .nil)))))
theorem qlX {Q:(Option (List (Option (List DR))))->Prop} (a:DMo) (b:(Option (List DR))) (c:DL) (hQ:∃ r,Q r) (h:
 (callV Pg q0E [⟨tMo,a⟩] (.sl (.sl tER)) (fun p0=>loopV (Option (List (Option (List DR)))×Option (List DR)×DL×Int×Int×DMo×Option (List (Option (List DR)))) (fun k1  (i,j,k,l,m,n,o)=>brV (decide (m<l)) (inS k m/\joinV (Option (List (Option (List DR)))×Option (List DR)×Int×DL×Int×Int×DMo×Option (List (Option (List DR)))) (fun (p,q,r,s,t,u,v,w)=>callV Pg q1B [⟨tMo,v⟩,⟨.sl tER,q⟩,⟨tI,r⟩] (.sl tER) (fun p4=>appC 24 w (lst (some [p4]))/\k1 (p,p4,s,t,IntKind.wrap IntKind.i64 (u+(1:Int)),v,appL w (lst (some [p4]))))) (fun k3=>brV (decide ((0:Int)<m)) (callV Pg q1f [⟨.sl (.sl tER),i⟩,⟨.sl tER,j⟩,⟨.bool,false⟩,⟨.cst (.fn q0a),()⟩] (.sl tER) (fun p4=>k3 (i,p4,eltS (0:Int) k m,k,l,m,n,o))) (k3 (i,j,eltS (0:Int) k m,k,l,m,n,o)))) (Q o)) (p0,b,c,szSl c,(0:Int),a,none)))):
 callV Pg q2M [⟨tMo,a⟩,⟨(.sl tER),b⟩,⟨tL,c⟩] (.sl (.sl tER)) Q:=
 q02 (c:=q01 q9K) (ann:=qdw) qgk rfl qj8 rfl rfl hQ (kcast (by kernel_rfl) h)
def qdK:Ann:=(.s (.s (.seq (.s (.blk none (.loop ⟨[(2,.ref 2 0),(3,.ref 3 0)],[.var 6 (.sl tER),.var 7 tI,.var 8 tI,.box 2 tER,.box 3 tER]⟩ .nil))) .nil)))
theorem qmb {Q:DR->Prop} (a:(Option (List DR))) (hQ:∃ r,Q r) (h:
 (loopV (Option (List DR)×Int×Int×DR×DR) (fun k0  (i,j,k,l,m)=>brV (decide (k<j)) (inS i k/\callV Pg q0F [⟨tER,m⟩,⟨tER,eltS r0 i k⟩] tER (fun p2=>k0 (i,j,IntKind.wrap IntKind.i64 (k+(1:Int)),l,p2))) (Q m)) (a,szSl a,(0:Int),r0,r0))):
 callV Pg q1C [⟨(.sl tER),a⟩] tER Q:=
 q02 (c:=q01 q9W) (ann:=qdK) qgw rfl qjk rfl rfl hQ (kcast (by kernel_rfl) h)
def qdC:Ann:=.nil
theorem qm3 {Q:(Option (List DR))->Prop} (a:DMo) (b:(Option (List DR))) (c:DL) (hQ:∃ r,Q r) (h:
 (brV (decide ((szSl c)=(0:Int))) (Q b) (callV Pg q2M [⟨tMo,a⟩,⟨.sl tER,b⟩,⟨tL,c⟩] (.sl (.sl tER)) (fun p0=>inS p0 (IntKind.wrap IntKind.i64 ((szSl c) - (1:Int)))/\Q (eltS none p0 (IntKind.wrap IntKind.i64 ((szSl c) - (1:Int)))))))):
 callV Pg q22 [⟨tMo,a⟩,⟨(.sl tER),b⟩,⟨tL,c⟩] (.sl tER) Q:=
 q02 (c:=q01 q9Q) (ann:=qdC) qgq rfl qje rfl rfl hQ (kcast (by kernel_rfl) h)
def qdx:Ann:=(.s (.s (.s (.s (.seq (.s (.blk none (.loop ⟨[(4,.ref 4 0),(5,.own 1005)],[.var 13 (.sl tER),.var 14 tI,.var 15 tI,.box 4 tER,.arr 1005 tER]⟩ .nil))) (.seq (.reg [] [(1,([1005],false))] none) .nil))))))
theorem qlY {Q:((Option (List (Int×Int)))×(Int×Unit))->Prop} (a:(Option (List DR))) (hQ:∃ r,Q r) (h:
 (callV Pg q1C [⟨.sl tER,a⟩] tER (fun p0=>callV Pg q0i [⟨tER,p0⟩] tI (fun p1=>brV (decide (p1=(0:Int))) (Q (none,(5:Int),())) (loopV (Option (List DR)×Int×Int×DR×Option (List DR)) (fun k2  (i,j,k,l,m)=>brV (decide (k<j)) (inS i k/\callV Pg q2s [⟨tER,eltS r0 i k⟩,⟨tER,l⟩] tER (fun p4=>appC 64 m (lst (some [p4]))/\k2 (i,j,IntKind.wrap IntKind.i64 (k+(1:Int)),l,appL m (lst (some [p4]))))) (callV Pg q3n [⟨.sl tER,m⟩] (.tup (.pair (.sl tNum) (.pair tI .unit))) (fun p4=>Q (p4.1,p4.2.1,())))) (a,szSl a,(0:Int),p0,none)))))):
 callV Pg q2N [⟨(.sl tER),a⟩] (.tup (.pair (.sl tNum) (.pair tI .unit))) Q:=
 q02 (c:=q01 q9L) (ann:=qdx) qgl rfl qj9 rfl rfl hQ (kcast (by kernel_rfl) h)
def qdB:Ann:=(.s (.seq (.reg [] [] (some ⟨[],[.var 2 .bool]⟩)) .nil))
theorem qm2 {Q:Bool->Prop} (a:Int) (hQ:∃ r,Q r) (h:
 (joinV Bool (fun p0=>Q p0) (fun k0=>brV (decide (a<(0:Int))) (k0 true) (k0 (decide ((64:Int)<=a)))))):
 callV Pg q0L [⟨tI,a⟩] .bool Q:=
 q02 (c:=q01 q9P) (ann:=qdB) qgp rfl qjd rfl rfl hQ (kcast (by kernel_rfl) h)
def qdi:Ann:=(.s (.seq (.s (.blk none (.loop ⟨[(1,.cst (.fn q0L))],[.var 0 tL,.var 7 tI,.var 8 tI]⟩ .nil))) .nil))
theorem qlJ {Q:Int->Prop} (a:DL) (b:Unit) (hQ:∃ r,Q r) (h:
 (loopV (DL×Int×Int) (fun k0  (i,j,k)=>brV (decide (k<j)) (inS i k/\callV Pg q0L [⟨tI,eltS (0:Int) i k⟩] .bool (fun p2=>brV p2 (Q k) (k0 (i,j,IntKind.wrap IntKind.i64 (k+(1:Int)))))) (Q (-(1:Int)))) (a,szSl a,(0:Int)))):
 callV Pg q3S [⟨tL,a⟩,⟨(.cst (.fn q0L)),b⟩] tI Q:=
 q02 (c:=q01 q9w) (ann:=qdi) qg6 rfl qiU rfl rfl hQ (kcast (by kernel_rfl) h)
def qdg:Ann:=.nil
theorem qlH {Q:Bool->Prop} (a:DL) (b:Unit) (hQ:∃ r,Q r) (h:
 (callV Pg q3S [⟨tL,a⟩,⟨.cst (.fn q0L),()⟩] tI (fun p0=>Q (decide ((0:Int)<=p0))))):
 callV Pg q4B [⟨tL,a⟩,⟨(.cst (.fn q0L)),b⟩] .bool Q:=
 q02 (c:=q01 q9u) (ann:=qdg) qg4 rfl qiS rfl rfl hQ (kcast (by kernel_rfl) h)
def qdA:Ann:=(.s (.seq (.reg [] [] (some ⟨[],[.var 2 .bool]⟩)) .nil))
theorem qm1 {Q:Bool->Prop} (a:DL) (hQ:∃ r,Q r) (h:
 (joinV Bool (fun p0=>Q p0) (fun k0=>brV (decide ((szSl a)<=(200:Int))) (callV Pg q4B [⟨tL,a⟩,⟨.cst (.fn q0L),()⟩] .bool (fun p1=>k0 (notB p1))) (k0 false)))):
 callV Pg q43 [⟨tL,a⟩] .bool Q:=
 q02 (c:=q01 q9O) (ann:=qdA) qgo rfl qjc rfl rfl hQ (kcast (by kernel_rfl) h)
def qdz:Ann:=(.s (.s (.seq (.s (.blk none (.loop ⟨[(2,.ref 2 0),(5,.ref 5 0)],[.var 1 (.sl tNum),.var 8 (.sl tNum),.var 9 tI,.var 10 tI,.box 2 tMo,.box 5 tER]⟩ (.s (.s (.seq (.blk none (.s (.seq (.seq (.reg [] [] (some ⟨[(2,.ref 2 0),(5,.ref 5 0),(7,.ref 7 0)],[.var 1 (.sl tNum),.var 8 (.sl tNum),.var 9 tI,.var 10 tI,.var 21 .bool,.box 2 tMo,.box 5 tER,.box 7 tNum]⟩)) .nil) .nil))) .nil)))))) (.seq (.reg [] [] (some ⟨[],[.var 4 .bool]⟩)) .nil))))
theorem qm0 {Q:Bool->Prop} (a:DMo) (b:(Option (List (Int×Int)))) (hQ:∃ r,Q r) (h:
 (loopV (Option (List (Int×Int))×Option (List (Int×Int))×Int×Int×DMo×DR) (fun k0  (i,j,k,l,m,n)=>brV (decide (l<k)) (inS j l/\joinV (Option (List (Int×Int))×Option (List (Int×Int))×Int×Int×Bool×DMo×DR×Int×Int) (fun (o,p,q,r,s,t,u,v)=>brV s (Q false) (callV Pg q1y [⟨tNum,v⟩] tER (fun p3=>callV Pg q0F [⟨tER,u⟩,⟨tER,p3⟩] tER (fun p4=>k0 (o,p,q,IntKind.wrap IntKind.i64 (r+(1:Int)),t,p4))))) (fun k2=>callV Pg q1S [⟨tNum,eltS ((0:Int),(0:Int)) j l⟩] .bool (fun p3=>brV (notB p3) (k2 (i,j,k,l,true,m,n,eltS ((0:Int),(0:Int)) j l)) (k2 (i,j,k,l,decide ((eltS ((0:Int),(0:Int)) j l).1<(0:Int)),m,n,eltS ((0:Int),(0:Int)) j l))))) (joinV Bool (fun p2=>Q p2) (fun k2=>brV (decide ((szSl i)=(szSl m))) (callV Pg q0Z [] tER (fun p3=>callV Pg q1r [⟨tER,n⟩,⟨tER,p3⟩] tI (fun p4=>k2 (decide (p4=(0:Int)))))) (k2 false)))) (b,b,szSl b,(0:Int),a,r0))):
 callV Pg q42 [⟨tMo,a⟩,⟨(.sl tNum),b⟩] .bool Q:=
 q02 (c:=q01 q9N) (ann:=qdz) qgn rfl qjb rfl rfl hQ (kcast (by kernel_rfl) h)
def qdu:Ann:=(.s (.seq (.blk none (.seq (.reg [] [] (some ⟨[(3,.ref 3 0)],[.var 7 .bool,.box 3 tMo]⟩)) .nil)) .nil))
theorem qlV {Q:Int->Prop} (a:DMo) (b:(Option (List (Int×Int)))) (c:DL) (hQ:∃ r,Q r) (h:
 (joinV (Bool×DMo) (fun (i,j)=>brV i (Q (1:Int)) (callV Pg q2z [⟨tMo,j⟩] .bool (fun p1=>brV (notB p1) (Q (7:Int)) (Q (0:Int))))) (fun k0=>callV Pg q2A [⟨tMo,a⟩] .bool (fun p1=>brV (notB p1) (k0 (true,a)) (callV Pg q42 [⟨tMo,a⟩,⟨.sl tNum,b⟩] .bool (fun p2=>brV (notB p2) (k0 (true,a)) (callV Pg q43 [⟨tL,c⟩] .bool (fun p3=>k0 (notB p3,a))))))))):
 callV Pg q1e [⟨tMo,a⟩,⟨(.sl tNum),b⟩,⟨tL,c⟩] tI Q:=
 q02 (c:=q01 q9I) (ann:=qdu) qgi rfl qj6 rfl rfl hQ (kcast (by kernel_rfl) h)
def qdn:Ann:=.nil
theorem qlO {Q:((Int×Int)×(Int×Unit))->Prop} (a:DMo) (b:(Option (List (Int×Int)))) (c:DL) (hQ:∃ r,Q r) (h:
 (callV Pg q1e [⟨tMo,a⟩,⟨.sl tNum,b⟩,⟨tL,c⟩] tI (fun p0=>brV (notB (decide (p0=(0:Int)))) (Q (((0:Int),(0:Int)),p0,())) (callV Pg q19 [⟨.sl tNum,b⟩] (.sl tER) (fun p1=>callV Pg q22 [⟨tMo,a⟩,⟨.sl tER,p1⟩,⟨tL,c⟩] (.sl tER) (fun p2=>callV Pg q1C [⟨.sl tER,p2⟩] tER (fun p3=>callV Pg q1R [⟨tER,p3⟩] (.tup (.pair tNum (.pair tI .unit))) (fun p4=>Q (p4.1,p4.2.1,()))))))))):
 callV Pg q3W [⟨tMo,a⟩,⟨(.sl tNum),b⟩,⟨tL,c⟩] (.tup (.pair tNum (.pair tI .unit))) Q:=
 q02 (c:=q01 q9B) (ann:=qdn) qgb rfl qiZ rfl rfl hQ (kcast (by kernel_rfl) h)
def qdp:Ann:=.nil
theorem qlQ {Q:((Option (List (Int×Int)))×(Int×Unit))->Prop} (a:DMo) (b:(Option (List (Int×Int)))) (c:DL) (hQ:∃ r,Q r) (h:
 (callV Pg q1e [⟨tMo,a⟩,⟨.sl tNum,b⟩,⟨tL,c⟩] tI (fun p0=>brV (notB (decide (p0=(0:Int)))) (Q (none,p0,())) (callV Pg q19 [⟨.sl tNum,b⟩] (.sl tER) (fun p1=>callV Pg q22 [⟨tMo,a⟩,⟨.sl tER,p1⟩,⟨tL,c⟩] (.sl tER) (fun p2=>callV Pg q2N [⟨.sl tER,p2⟩] (.tup (.pair (.sl tNum) (.pair tI .unit))) (fun p3=>Q (p3.1,p3.2.1,())))))))):
 callV Pg q3Y [⟨tMo,a⟩,⟨(.sl tNum),b⟩,⟨tL,c⟩] (.tup (.pair (.sl tNum) (.pair tI .unit))) Q:=
 q02 (c:=q01 q9D) (ann:=qdp) qgd rfl qj1 rfl rfl hQ (kcast (by kernel_rfl) h)
end Go.Proofs.Pf
namespace Go.Proofs.Pf
open Go Go.VM
set_option maxRecDepth 100000
def qc4:Ann:=(.s (.s (.seq (.seq (.reg [] [] (some ⟨[(1,.ref 1 0)],[.var 3 tI,.var 16 .bool,.box 1 tMo]⟩)) .nil) (.seq (.s (.blk none (.loop ⟨[],[.var 3 tI,.var 18 (.sl tSt),.var 19 tI,.var 20 tI]⟩ (.s (.s (.seq (.blk none (.s (.seq (.seq (.reg [] [] (some ⟨[(5,.ref 5 0)],[.var 3 tI,.var 18 (.sl tSt),.var 19 tI,.var 20 tI,.var 53 .bool,.box 5 tSt]⟩)) .nil) (.s (.blk none (.loop ⟨[],[.var 3 tI,.var 18 (.sl tSt),.var 19 tI,.var 20 tI,.var 55 (.sl tCh),.var 56 tI,.var 57 tI]⟩ .nil)))))) .nil)))))) .nil))))
theorem qkx {Q:Bool->Prop} (a:DMo) (hQ:∃ r,Q r) (h:
 (joinV (Int×Bool×DMo) (fun (i,j,k)=>brV j (Q false) (loopV (Int×DMo×Int×Int) (fun k1  (l,m,n,o)=>brV (decide (o<n)) (inS m o/\joinV (Int×DMo×Int×Int×Bool×DSt) (fun (p,q,r,s,t,u)=>brV t (Q false) (loopV (Int×DMo×Int×Int×Option (List DCh)×Int×Int) (fun k4  (v,w,x,y,z,e,f)=>brV (decide (f<e)) (inS z f/\callV Pg q3m [⟨tI,v⟩,⟨tCh,eltS (((0:Int),(0:Int)),none) z f⟩] .bool (fun p6=>brV (notB p6) (Q false) (k4 (v,w,x,y,z,e,IntKind.wrap IntKind.i64 (f+(1:Int)))))) (k1 (v,w,x,IntKind.wrap IntKind.i64 (y+(1:Int))))) (p,q,r,s,u.2.2,szSl u.2.2,(0:Int)))) (fun k3=>brV (decide ((eltS ((0:Int),(0:Int),none) m o).1<(0:Int))) (k3 (l,m,n,o,true,eltS ((0:Int),(0:Int),none) m o)) (brV (decide ((1:Int)<(eltS ((0:Int),(0:Int),none) m o).1)) (k3 (l,m,n,o,true,eltS ((0:Int),(0:Int),none) m o)) (brV (decide ((eltS ((0:Int),(0:Int),none) m o).2.1<(0:Int))) (k3 (l,m,n,o,true,eltS ((0:Int),(0:Int),none) m o)) (brV (decide ((63:Int)<(eltS ((0:Int),(0:Int),none) m o).2.1)) (k3 (l,m,n,o,true,eltS ((0:Int),(0:Int),none) m o)) (brV (decide ((szSl (eltS ((0:Int),(0:Int),none) m o).2.2)<(1:Int))) (k3 (l,m,n,o,true,eltS ((0:Int),(0:Int),none) m o)) (k3 (l,m,n,o,decide ((8:Int)<(szSl (eltS ((0:Int),(0:Int),none) m o).2.2)),eltS ((0:Int),(0:Int),none) m o)))))))) (Q true)) (i,k,szSl k,(0:Int)))) (fun k0=>brV (decide ((szSl a)<(1:Int))) (k0 (szSl a,true,a)) (k0 (szSl a,decide ((40:Int)<(szSl a)),a))))):
 callV Pg q2A [⟨tMo,a⟩] .bool Q:=
 q02 (c:=q01 q8n) (ann:=qc4) qeZ rfl qhN rfl rfl hQ (kcast (by kernel_rfl) h)
def qc5:Ann:=(.s (.seq (.seq (.reg [] [] (some ⟨[(3,.ref 3 0)],[.var 0 tI,.var 24 .bool,.box 3 tCh]⟩)) .nil) (.s (.s (.seq (.s (.blk none (.loop ⟨[(5,.ref 5 0)],[.var 0 tI,.var 6 tI,.var 26 (.sl tBr),.var 27 tI,.var 28 tI,.box 5 tER]⟩ (.s (.s (.seq (.blk none (.s (.seq (.seq (.reg [] [] (some ⟨[(5,.ref 5 0),(8,.ref 8 0)],[.var 0 tI,.var 26 (.sl tBr),.var 27 tI,.var 28 tI,.var 53 .bool,.box 5 tER,.box 8 tBr]⟩)) .nil) .nil))) .nil)))))) .nil)))))
theorem qky {Q:Bool->Prop} (a:Int) (b:DCh) (hQ:∃ r,Q r) (h:
 (joinV (Int×Bool×DCh) (fun (i,j,k)=>brV j (Q false) (loopV (Int×Int×Option (List DBr)×Int×Int×DR) (fun k1  (l,m,n,o,p,q)=>brV (decide (p<o)) (inS n p/\joinV (Int×Option (List DBr)×Int×Int×Bool×DR×DBr) (fun (r,s,t,u,v,w,x)=>brV v (Q false) (callV Pg q1y [⟨tNum,x.2⟩] tER (fun p4=>callV Pg q0F [⟨tER,w⟩,⟨tER,p4⟩] tER (fun p5=>k1 (r,x.1,s,t,IntKind.wrap IntKind.i64 (u+(1:Int)),p5))))) (fun k3=>brV (decide ((eltS ((0:Int),(0:Int),(0:Int)) n p).1<=m)) (k3 (l,n,o,p,true,q,eltS ((0:Int),(0:Int),(0:Int)) n p)) (brV (decide (l<=(eltS ((0:Int),(0:Int),(0:Int)) n p).1)) (k3 (l,n,o,p,true,q,eltS ((0:Int),(0:Int),(0:Int)) n p)) (callV Pg q1S [⟨tNum,(eltS ((0:Int),(0:Int),(0:Int)) n p).2⟩] .bool (fun p4=>brV (notB p4) (k3 (l,n,o,p,true,q,eltS ((0:Int),(0:Int),(0:Int)) n p)) (k3 (l,n,o,p,decide ((eltS ((0:Int),(0:Int),(0:Int)) n p).2.1<=(0:Int)),q,eltS ((0:Int),(0:Int),(0:Int)) n p))))))) (callV Pg q1u [⟨tI,(1:Int)⟩] tER (fun p3=>callV Pg q1r [⟨tER,q⟩,⟨tER,p3⟩] tI (fun p4=>Q (decide (p4=(0:Int))))))) (i,-(1:Int),k.2,szSl k.2,(0:Int),r0))) (fun k0=>callV Pg q1S [⟨tNum,b.1⟩] .bool (fun p1=>brV (notB p1) (k0 (a,true,b)) (brV (decide ((szSl b.2)<(1:Int))) (k0 (a,true,b)) (k0 (a,decide ((8:Int)<(szSl b.2)),b))))))):
 callV Pg q3m [⟨tI,a⟩,⟨tCh,b⟩] .bool Q:=
 q02 (c:=q01 q8o) (ann:=qc5) qf0 rfl qhO rfl rfl hQ (kcast (by kernel_rfl) h)
end Go.Proofs.Pf
namespace Go.Proofs.Pf
open Go Go.VM
set_option maxRecDepth 100000
def qcQ:Ann:=(.s (.seq (.seq (.reg [] [] (some ⟨[(1,.ref 1 0)],[.var 16 .bool,.box 1 tMo]⟩)) .nil) (.seq (.s (.blk none (.loop ⟨[(1,.ref 1 0)],[.var 18 (.sl tSt),.var 19 tI,.var 20 tI,.box 1 tMo]⟩ (.s (.s (.seq (.blk none (.s (.seq (.seq (.reg [] [] (some ⟨[(1,.ref 1 0),(4,.ref 4 0)],[.var 18 (.sl tSt),.var 19 tI,.var 20 tI,.var 53 .bool,.box 1 tMo,.box 4 tSt]⟩)) .nil) (.s (.blk none (.loop ⟨[(1,.ref 1 0)],[.var 18 (.sl tSt),.var 19 tI,.var 20 tI,.var 55 (.sl tCh),.var 56 tI,.var 57 tI,.box 1 tMo]⟩ .nil)))))) .nil)))))) .nil)))
theorem qlh {Q:Bool->Prop} (a:DMo) (hQ:∃ r,Q r) (h:
 (joinV (Bool×DMo) (fun (i,j)=>brV i (Q false) (loopV (DMo×Int×Int×DMo) (fun k1  (k,l,m,n)=>brV (decide (m<l)) (inS k m/\joinV (DMo×Int×Int×Bool×DMo×DSt) (fun (o,p,q,r,s,t)=>brV r (Q false) (loopV (DMo×Int×Int×Option (List DCh)×Int×Int×DMo) (fun k4  (u,v,w,x,y,z,e)=>brV (decide (z<y)) (inS x z/\callV Pg q3B [⟨tCh,eltS (((0:Int),(0:Int)),none) x z⟩,⟨tI,szSl e⟩] .bool (fun p6=>brV (notB p6) (Q false) (k4 (u,v,w,x,y,IntKind.wrap IntKind.i64 (z+(1:Int)),e)))) (k1 (u,v,IntKind.wrap IntKind.i64 (w+(1:Int)),e))) (o,p,q,t.2.2,szSl t.2.2,(0:Int),s))) (fun k3=>brV (decide ((eltS ((0:Int),(0:Int),none) k m).1<(0:Int))) (k3 (k,l,m,true,n,eltS ((0:Int),(0:Int),none) k m)) (brV (decide ((1:Int)<(eltS ((0:Int),(0:Int),none) k m).1)) (k3 (k,l,m,true,n,eltS ((0:Int),(0:Int),none) k m)) (brV (decide ((eltS ((0:Int),(0:Int),none) k m).2.1<(0:Int))) (k3 (k,l,m,true,n,eltS ((0:Int),(0:Int),none) k m)) (brV (decide ((63:Int)<(eltS ((0:Int),(0:Int),none) k m).2.1)) (k3 (k,l,m,true,n,eltS ((0:Int),(0:Int),none) k m)) (brV (decide ((szSl (eltS ((0:Int),(0:Int),none) k m).2.2)<(1:Int))) (k3 (k,l,m,true,n,eltS ((0:Int),(0:Int),none) k m)) (k3 (k,l,m,decide ((8:Int)<(szSl (eltS ((0:Int),(0:Int),none) k m).2.2)),n,eltS ((0:Int),(0:Int),none) k m)))))))) (Q true)) (j,szSl j,(0:Int),j))) (fun k0=>brV (decide ((szSl a)<(1:Int))) (k0 (true,a)) (k0 (decide ((40:Int)<(szSl a)),a))))):
 callV Pg q3A [⟨tMo,a⟩] .bool Q:=
 q02 (c:=q01 q99) (ann:=qcQ) qfJ rfl qix rfl rfl hQ (kcast (by kernel_rfl) h)
def qcR:Ann:=(.s (.seq (.seq (.reg [] [] (some ⟨[(2,.ref 2 0)],[.var 1 tI,.var 23 .bool,.box 2 tCh]⟩)) .nil) (.s (.seq (.s (.blk none (.loop ⟨[(2,.ref 2 0),(5,.ref 5 0)],[.var 1 tI,.var 26 (.sl tBr),.var 27 tI,.var 28 tI,.box 2 tCh,.box 5 tRR]⟩ (.s (.s (.seq (.blk none (.s (.seq (.seq (.reg [] [] (some ⟨[(2,.ref 2 0),(5,.ref 5 0),(7,.ref 7 0)],[.var 1 tI,.var 26 (.sl tBr),.var 27 tI,.var 28 tI,.var 69 .bool,.box 2 tCh,.box 5 tRR,.box 7 tBr]⟩)) .nil) .nil))) .nil)))))) .nil))))
theorem qli {Q:Bool->Prop} (a:DCh) (b:Int) (hQ:∃ r,Q r) (h:
 (joinV (Int×Bool×DCh) (fun (i,j,k)=>brV j (Q false) (callV Pg q0k [⟨tI,(0:Int)⟩] tRR (fun p1=>loopV (Int×Option (List DBr)×Int×Int×DCh×DRR) (fun k2  (l,m,n,o,p,q)=>brV (decide (o<n)) (inS m o/\joinV (Int×Option (List DBr)×Int×Int×Bool×DCh×DRR×DBr) (fun (r,s,t,u,v,w,x,y)=>brV v (Q false) (callV Pg q0J [⟨tNum,y.2⟩] tRR (fun p5=>callV Pg q0V [⟨tRR,x⟩,⟨tRR,p5⟩] tRR (fun p6=>k2 (r,s,t,IntKind.wrap IntKind.i64 (u+(1:Int)),w,p6))))) (fun k4=>brV (decide ((eltS ((0:Int),(0:Int),(0:Int)) m o).1<(0:Int))) (k4 (l,m,n,o,true,p,q,eltS ((0:Int),(0:Int),(0:Int)) m o)) (brV (decide (l<=(eltS ((0:Int),(0:Int),(0:Int)) m o).1)) (k4 (l,m,n,o,true,p,q,eltS ((0:Int),(0:Int),(0:Int)) m o)) (brV (decide ((0:Int)<o)) (inS p.2 (IntKind.wrap IntKind.i64 (o - (1:Int)))/\brV (decide ((eltS ((0:Int),(0:Int),(0:Int)) m o).1<=(eltS ((0:Int),(0:Int),(0:Int)) p.2 (IntKind.wrap IntKind.i64 (o - (1:Int)))).1)) (k4 (l,m,n,o,true,p,q,eltS ((0:Int),(0:Int),(0:Int)) m o)) (callV Pg q1c [⟨tNum,(eltS ((0:Int),(0:Int),(0:Int)) m o).2⟩] .bool (fun p5=>brV (notB p5) (k4 (l,m,n,o,true,p,q,eltS ((0:Int),(0:Int),(0:Int)) m o)) (k4 (l,m,n,o,decide ((eltS ((0:Int),(0:Int),(0:Int)) m o).2.1<=(0:Int)),p,q,eltS ((0:Int),(0:Int),(0:Int)) m o))))) (callV Pg q1c [⟨tNum,(eltS ((0:Int),(0:Int),(0:Int)) m o).2⟩] .bool (fun p5=>brV (notB p5) (k4 (l,m,n,o,true,p,q,eltS ((0:Int),(0:Int),(0:Int)) m o)) (k4 (l,m,n,o,decide ((eltS ((0:Int),(0:Int),(0:Int)) m o).2.1<=(0:Int)),p,q,eltS ((0:Int),(0:Int),(0:Int)) m o)))))))) (callV Pg q0k [⟨tI,(1:Int)⟩] tRR (fun p4=>callV Pg q1b [⟨tRR,q⟩,⟨tRR,p4⟩] tI (fun p5=>Q (decide (p5=(0:Int))))))) (i,k.2,szSl k.2,(0:Int),k,p1)))) (fun k0=>callV Pg q1c [⟨tNum,a.1⟩] .bool (fun p1=>brV (notB p1) (k0 (b,true,a)) (brV (decide ((szSl a.2)<(1:Int))) (k0 (b,true,a)) (k0 (b,decide ((8:Int)<(szSl a.2)),a))))))):
 callV Pg q3B [⟨tCh,a⟩,⟨tI,b⟩] .bool Q:=
 q02 (c:=q01 q9a) (ann:=qcR) qfK rfl qiy rfl rfl hQ (kcast (by kernel_rfl) h)
def qco:Ann:=(.s (.s (.seq (.s (.blk none (.loop ⟨[],[.var 0 tL,.var 1 tL,.var 12 tI,.var 13 tI]⟩ .nil))) .nil)))
theorem qkP {Q:Bool->Prop} (a:DL) (b:DL) (hQ:∃ r,Q r) (h:
 (brV (notB (decide ((szSl a)=(szSl b)))) (Q false) (loopV (DL×DL×Int×Int) (fun k0  (i,j,k,l)=>brV (decide (l<k)) (inS i l/\inS j l/\brV (notB (decide ((eltS (0:Int) i l)=(eltS (0:Int) j l)))) (Q false) (k0 (i,j,k,IntKind.wrap IntKind.i64 (l+(1:Int))))) (Q true)) (a,b,szSl a,(0:Int))))):
 callV Pg q1U [⟨tL,a⟩,⟨tL,b⟩] .bool Q:=
 q02 (c:=q01 q8H) (ann:=qco) qfh rfl qi5 rfl rfl hQ (kcast (by kernel_rfl) h)
end Go.Proofs.Pf
namespace Go.Proofs.Pf
open Go Go.VM
set_option maxRecDepth 100000
def qc2:Ann:=.nil
theorem qkv {Q:Bool->Prop} (a:DMo) (hQ:∃ r,Q r) (h:
 (callV Pg q4A [⟨.sl tSt,a⟩,⟨.cst (.fn q0H),()⟩] .bool (fun p0=>Q (notB p0)))):
 callV Pg q2z [⟨tMo,a⟩] .bool Q:=
 q02 (c:=q01 q8l) (ann:=qc2) qeX rfl qhL rfl rfl hQ (kcast (by kernel_rfl) h)
def qc3:Ann:=.nil
theorem qkw {Q:Bool->Prop} (a:DSt) (hQ:∃ r,Q r) (h:
 (Q (decide ((1:Int)<(szSl a.2.2))))):
 callV Pg q0H [⟨tSt,a⟩] .bool Q:=
 q02 (c:=q01 q8m) (ann:=qc3) qeY rfl qhM rfl rfl hQ (kcast (by kernel_rfl) h)
def qdh:Ann:=(.s (.seq (.s (.blk none (.loop ⟨[(1,.cst (.fn q0H))],[.var 0 (.sl tSt),.var 7 tI,.var 8 tI]⟩ .nil))) .nil))
theorem qlI {Q:Int->Prop} (a:DMo) (b:Unit) (hQ:∃ r,Q r) (h:
 (loopV (DMo×Int×Int) (fun k0  (i,j,k)=>brV (decide (k<j)) (inS i k/\callV Pg q0H [⟨tSt,eltS ((0:Int),(0:Int),none) i k⟩] .bool (fun p2=>brV p2 (Q k) (k0 (i,j,IntKind.wrap IntKind.i64 (k+(1:Int)))))) (Q (-(1:Int)))) (a,szSl a,(0:Int)))):
 callV Pg q3R [⟨(.sl tSt),a⟩,⟨(.cst (.fn q0H)),b⟩] tI Q:=
 q02 (c:=q01 q9v) (ann:=qdh) qg5 rfl qiT rfl rfl hQ (kcast (by kernel_rfl) h)
def qdf:Ann:=.nil
theorem qlG {Q:Bool->Prop} (a:DMo) (b:Unit) (hQ:∃ r,Q r) (h:
 (callV Pg q3R [⟨.sl tSt,a⟩,⟨.cst (.fn q0H),()⟩] tI (fun p0=>Q (decide ((0:Int)<=p0))))):
 callV Pg q4A [⟨(.sl tSt),a⟩,⟨(.cst (.fn q0H)),b⟩] .bool Q:=
 q02 (c:=q01 q9t) (ann:=qdf) qg3 rfl qiR rfl rfl hQ (kcast (by kernel_rfl) h)
end Go.Proofs.Pf
namespace Go.Proofs.Pf
open Go Go.VM
set_option maxRecDepth 100000
def qcV:Ann:=(.s (.s (.seq (.s (.blk none (.loop ⟨[(3,.own 6)],[.var 8 tI,.var 9 tI,.arr 6 tRR]⟩ .nil))) .nil)))
theorem qlm {Q:(Option (List DRR))->Prop} (a:Int) (hQ:∃ r,Q r) (h:
 (mkC 80 a a/\loopV (Int×Int×Option (List DRR)) (fun k0  (i,j,k)=>brV (decide (j<i)) (callV Pg q0k [⟨tI,(0:Int)⟩] tRR (fun p2=>inS k j/\k0 (i,IntKind.wrap IntKind.i64 (j+(1:Int)),setO k (toN j) p2))) (Q k)) (szSl (some (repS (α:=DRR) a z0)),(0:Int),some (repS (α:=DRR) a z0)))):
 ownV Pg q0Y [⟨tI,a⟩] tRR Q:=
 q1l (c:=q01 q9e) (ann:=qcV) qfO rfl qiC rfl rfl hQ (kcast (by kernel_rfl) h)
def qcU:Ann:=.nil
theorem qll {Q:DCh->Prop} (a:DMo) (b:Int) (hQ:∃ r,Q r) (h:
 (inS a b/\inS (eltS ((0:Int),(0:Int),none) a b).2.2 (0:Int)/\Q (eltS (((0:Int),(0:Int)),none) (eltS ((0:Int),(0:Int),none) a b).2.2 (0:Int)))):
 callV Pg q1z [⟨tMo,a⟩,⟨tI,b⟩] tCh Q:=
 q02 (c:=q01 q9d) (ann:=qcU) qfN rfl qiB rfl rfl hQ (kcast (by kernel_rfl) h)
def qcS:Ann:=(.s (.seq (.seq (.reg [] [] (some ⟨[],[.var 1 (.sl tNum),.var 18 .bool]⟩)) .nil) (.s (.seq (.s (.blk none (.loop ⟨[(5,.ref 5 0)],[.var 20 (.sl tNum),.var 21 tI,.var 22 tI,.box 5 tRR]⟩ .nil))) .nil))))
theorem qlj {Q:Bool->Prop} (a:DMo) (b:(Option (List (Int×Int)))) (hQ:∃ r,Q r) (h:
 (joinV (Option (List (Int×Int))×Bool) (fun (i,j)=>brV j (Q false) (callV Pg q0k [⟨tI,(0:Int)⟩] tRR (fun p1=>loopV (Option (List (Int×Int))×Int×Int×DRR) (fun k2  (k,l,m,n)=>brV (decide (m<l)) (inS k m/\brV (decide ((eltS ((0:Int),(0:Int)) k m).1<(0:Int))) (Q false) (callV Pg q0J [⟨tNum,eltS ((0:Int),(0:Int)) k m⟩] tRR (fun p4=>callV Pg q0V [⟨tRR,n⟩,⟨tRR,p4⟩] tRR (fun p5=>k2 (k,l,IntKind.wrap IntKind.i64 (m+(1:Int)),p5))))) (callV Pg q0k [⟨tI,(1:Int)⟩] tRR (fun p4=>callV Pg q1b [⟨tRR,n⟩,⟨tRR,p4⟩] tI (fun p5=>Q (decide (p5=(0:Int))))))) (i,szSl i,(0:Int),p1)))) (fun k0=>brV (notB (decide ((szSl b)=(szSl a)))) (k0 (b,true)) (callV Pg q3o [⟨.sl tNum,b⟩] .bool (fun p1=>k0 (b,notB p1)))))):
 callV Pg q3C [⟨tMo,a⟩,⟨(.sl tNum),b⟩] .bool Q:=
 q02 (c:=q01 q9b) (ann:=qcS) qfL rfl qiz rfl rfl hQ (kcast (by kernel_rfl) h)
def qd5:Ann:=(.s (.seq (.s (.blk none (.loop ⟨[],[.var 0 tL,.var 5 tL,.var 6 tI,.var 7 tI]⟩ (.s (.s (.seq (.blk none (.s (.seq (.reg [] [] (some ⟨[],[.var 0 tL,.var 5 tL,.var 6 tI,.var 7 tI,.var 16 .bool]⟩)) .nil))) .nil)))))) .nil))
theorem qlw {Q:Bool->Prop} (a:DL) (hQ:∃ r,Q r) (h:
 (loopV (DL×DL×Int×Int) (fun k0  (i,j,k,l)=>brV (decide (l<k)) (inS j l/\joinV (DL×DL×Int×Int×Bool) (fun (m,n,o,p,q)=>brV q (Q false) (k0 (m,n,o,IntKind.wrap IntKind.i64 (p+(1:Int))))) (fun k2=>brV (decide ((eltS (0:Int) j l)<(0:Int))) (k2 (i,j,k,l,true)) (k2 (i,j,k,l,decide ((63:Int)<(eltS (0:Int) j l)))))) (Q (decide ((szSl i)<=(200:Int))))) (a,a,szSl a,(0:Int)))):
 callV Pg q3L [⟨tL,a⟩] .bool Q:=
 q02 (c:=q01 q9m) (ann:=qd5) qfW rfl qiK rfl rfl hQ (kcast (by kernel_rfl) h)
def qcW:Ann:=(.s (.seq (.blk none (.seq (.reg [] [] (some ⟨[(3,.ref 3 0)],[.var 7 .bool,.box 3 tMo]⟩)) .nil)) .nil))
theorem qln {Q:Int->Prop} (a:DMo) (b:(Option (List (Int×Int)))) (c:DL) (hQ:∃ r,Q r) (h:
 (joinV (Bool×DMo) (fun (i,j)=>brV i (Q (1:Int)) (callV Pg q3z [⟨tMo,j⟩] .bool (fun p1=>brV (notB p1) (Q (7:Int)) (Q (0:Int))))) (fun k0=>callV Pg q3A [⟨tMo,a⟩] .bool (fun p1=>brV (notB p1) (k0 (true,a)) (callV Pg q3C [⟨tMo,a⟩,⟨.sl tNum,b⟩] .bool (fun p2=>brV (notB p2) (k0 (true,a)) (callV Pg q3L [⟨tL,c⟩] .bool (fun p3=>k0 (notB p3,a))))))))):
 callV Pg q3E [⟨tMo,a⟩,⟨(.sl tNum),b⟩,⟨tL,c⟩] tI Q:=
 q02 (c:=q01 q9f) (ann:=qcW) qfP rfl qiD rfl rfl hQ (kcast (by kernel_rfl) h)
def qd6:Ann:=let x:Shape:=⟨[(3,.ref 3 0),(7,.own 11)],[.var 1 (.sl tRR),.var 2 tI,.var 13 tI,.var 14 tI,.box 3 tMo,.arr 11 tRR]⟩;(.s (.seq (.reg [] [(2,([],true))] none) (.seq (.s (.blk none (.loop x (.s (.s (.seq (.blk none (.s (.s (.cond (some x) .nil .nil)))) .nil)))))) .nil)))
theorem qlx {Q:(Option (List DRR))->Prop} (a:DMo) (b:(Option (List DRR))) (c:Int) (hQ:∃ r,Q r) (h:
 (ownV Pg q0Y [⟨tI,szSl b⟩] tRR (fun p0=>loopV (Option (List DRR)×Int×Int×Int×DMo×Option (List DRR)) (fun k1  (i,j,k,l,m,n)=>brV (decide (l<k)) (inS m l/\joinV (Option (List DRR)×Int×Int×Int×DMo×Option (List DRR)) (fun (o,p,q,r,s)=>k1 (o,p,q,IntKind.wrap IntKind.i64 (r+(1:Int)),s)) (fun k3=>brV (decide ((eltS ((0:Int),(0:Int),none) m l).2.1=j)) (inS i l/\inS n l/\k3 (i,j,k,l,m,setO n (toN l) (eltS z0 i l))) (k3 (i,j,k,l,m,n)))) (Q n)) (b,c,szSl b,(0:Int),a,p0)))):
 callV Pg q0x [⟨tMo,a⟩,⟨(.sl tRR),b⟩,⟨tI,c⟩] (.sl tRR) Q:=
 q02 (c:=q01 q5j) (ann:=qd6) q67 rfl q6F rfl rfl hQ (kcast (by kernel_rfl) h)
def qda:Ann:=(.s (.seq (.reg [] [(2,([],true))] none) (.seq (.s (.blk none (.loop ⟨[(2,.ref 2 0),(5,.own 11)],[.var 1 (.sl tRR),.var 13 tI,.var 14 tI,.box 2 tMo,.arr 11 tRR]⟩ (.s (.s (.seq (.blk none (.s (.s (.blk none (.loop ⟨[(2,.ref 2 0),(5,.own 11)],[.var 1 (.sl tRR),.var 6 tI,.var 13 tI,.var 14 tI,.var 20 (.sl tBr),.var 21 tI,.var 22 tI,.box 2 tMo,.arr 11 tRR]⟩ .nil))))) .nil)))))) .nil)))
theorem qlB {Q:(Option (List DRR))->Prop} (a:DMo) (b:(Option (List DRR))) (hQ:∃ r,Q r) (h:
 (ownV Pg q0Y [⟨tI,szSl b⟩] tRR (fun p0=>loopV (Option (List DRR)×Int×Int×DMo×Option (List DRR)) (fun k1  (i,j,k,l,m)=>brV (decide (k<j)) (callV Pg q1z [⟨tMo,l⟩,⟨tI,k⟩] tCh (fun p3=>loopV (Option (List DRR)×Int×Int×Int×Option (List DBr)×Int×Int×DMo×Option (List DRR)) (fun k4  (n,o,p,q,r,s,t,u,v)=>brV (decide (t<s)) (inS r t/\inS v (eltS ((0:Int),(0:Int),(0:Int)) r t).1/\inS n o/\callV Pg q0J [⟨tNum,(eltS ((0:Int),(0:Int),(0:Int)) r t).2⟩] tRR (fun p6=>callV Pg q0W [⟨tRR,eltS z0 n o⟩,⟨tRR,p6⟩] tRR (fun p7=>callV Pg q0V [⟨tRR,eltN z0 v (toN (eltS ((0:Int),(0:Int),(0:Int)) r t).1)⟩,⟨tRR,p7⟩] tRR (fun p8=>inS v (eltS ((0:Int),(0:Int),(0:Int)) r t).1/\k4 (n,o,p,q,r,s,IntKind.wrap IntKind.i64 (t+(1:Int)),u,setO v (toN (eltS ((0:Int),(0:Int),(0:Int)) r t).1) p8))))) (k1 (n,p,IntKind.wrap IntKind.i64 (q+(1:Int)),u,v))) (i,k,j,k,p3.2,szSl p3.2,(0:Int),l,m))) (Q m)) (b,szSl b,(0:Int),a,p0)))):
 callV Pg q21 [⟨tMo,a⟩,⟨(.sl tRR),b⟩] (.sl tRR) Q:=
 q02 (c:=q01 q9o) (ann:=qda) qfY rfl qiM rfl rfl hQ (kcast (by kernel_rfl) h)
def qcY:Ann:=(.s (.s (.seq (.s (.blk none (.loop ⟨[(3,.ref 3 0)],[.var 7 (.sl tRR),.var 11 tL,.var 12 tI,.var 13 tI,.box 3 tMo]⟩ (.s (.s (.seq (.blk none (.s (.seq (.s (.cond (some ⟨[(3,.ref 3 0)],[.var 7 (.sl tRR),.var 9 tI,.var 11 tL,.var 12 tI,.var 13 tI,.box 3 tMo]⟩) .nil .nil)) .nil))) .nil)))))) .nil)))
theorem qlp {Q:(Option (List DRR))->Prop} (a:DMo) (b:(Option (List DRR))) (c:DL) (hQ:∃ r,Q r) (h:
 (loopV (Option (List DRR)×DL×Int×Int×DMo) (fun k0  (i,j,k,l,m)=>brV (decide (l<k)) (inS j l/\joinV (Option (List DRR)×Int×DL×Int×Int×DMo) (fun (n,o,p,q,r,s)=>callV Pg q0x [⟨tMo,s⟩,⟨.sl tRR,n⟩,⟨tI,o⟩] (.sl tRR) (fun p3=>k0 (p3,p,q,IntKind.wrap IntKind.i64 (r+(1:Int)),s))) (fun k2=>brV (decide ((0:Int)<l)) (callV Pg q21 [⟨tMo,m⟩,⟨.sl tRR,i⟩] (.sl tRR) (fun p3=>k2 (p3,eltS (0:Int) j l,j,k,l,m))) (k2 (i,eltS (0:Int) j l,j,k,l,m)))) (Q i)) (b,c,szSl c,(0:Int),a))):
 callV Pg q1A [⟨tMo,a⟩,⟨(.sl tRR),b⟩,⟨tL,c⟩] (.sl tRR) Q:=
 q02 (c:=q01 q69) (ann:=qcY) q7p rfl qaA rfl rfl hQ (kcast (by kernel_rfl) h)
def qd3:Ann:=(.s (.s (.seq (.s (.blk none (.loop ⟨[(2,.ref 2 0),(3,.ref 3 0)],[.var 7 (.sl tRR),.var 8 tI,.var 9 tI,.box 2 tRR,.box 3 tRR]⟩ .nil))) .nil)))
theorem qlu {Q:DRR->Prop} (a:(Option (List DRR))) (hQ:∃ r,Q r) (h:
 (callV Pg q0k [⟨tI,(0:Int)⟩] tRR (fun p0=>loopV (Option (List DRR)×Int×Int×DRR×DRR) (fun k1  (i,j,k,l,m)=>brV (decide (k<j)) (inS i k/\callV Pg q0V [⟨tRR,m⟩,⟨tRR,eltS z0 i k⟩] tRR (fun p3=>k1 (i,j,IntKind.wrap IntKind.i64 (k+(1:Int)),l,p3))) (Q m)) (a,szSl a,(0:Int),z0,p0)))):
 callV Pg q3J [⟨(.sl tRR),a⟩] tRR Q:=
 q02 (c:=q01 q9k) (ann:=qd3) qfU rfl qiI rfl rfl hQ (kcast (by kernel_rfl) h)
def qd9:Ann:=(.s (.s (.s (.s (.seq (.s (.blk none (.loop ⟨[(4,.ref 4 0),(5,.own 1005)],[.var 13 (.sl tRR),.var 14 tI,.var 15 tI,.box 4 tRR,.arr 1005 tRR]⟩ .nil))) .nil)))))
theorem qlA {Q:((Option (List DRR))×(Bool×Unit))->Prop} (a:(Option (List DRR))) (hQ:∃ r,Q r) (h:
 (callV Pg q3J [⟨.sl tRR,a⟩] tRR (fun p0=>callV Pg q1W [⟨tRR,p0⟩] tI (fun p1=>brV (decide (p1=(0:Int))) (Q (none,false,())) (loopV (Option (List DRR)×Int×Int×DRR×Option (List DRR)) (fun k2  (i,j,k,l,m)=>brV (decide (k<j)) (inS i k/\callV Pg q3u [⟨tRR,eltS z0 i k⟩,⟨tRR,l⟩] tRR (fun p4=>appC 80 m (lst (some [p4]))/\k2 (i,j,IntKind.wrap IntKind.i64 (k+(1:Int)),l,appL m (lst (some [p4]))))) (Q (m,true,()))) (a,szSl a,(0:Int),p0,none)))))):
 callV Pg q3M [⟨(.sl tRR),a⟩] (.tup (.pair (.sl tRR) (.pair .bool .unit))) Q:=
 q02 (c:=q01 q9n) (ann:=qd9) qfX rfl qiL rfl rfl hQ (kcast (by kernel_rfl) h)
def qd1:Ann:=(.s (.s (.seq (.s (.blk none (.loop ⟨[(5,.own 1005)],[.var 1 tI,.var 8 tI,.var 9 tI,.arr 1005 tNum]⟩ (.s (.s (.seq (.blk none (.s (.s (.seq (.s (.cond (some ⟨[(5,.own 1005),(7,.ref 7 0)],[.var 1 tI,.var 8 tI,.var 9 tI,.box 7 tNum,.arr 1005 tNum]⟩) .nil .nil)) .nil)))) .nil)))))) .nil)))
theorem qls {Q:(Option (List (Int×Int)))->Prop} (a:Int) (b:Int) (hQ:∃ r,Q r) (h:
 (loopV (Int×Int×Int×Option (List (Int×Int))) (fun k0  (i,j,k,l)=>brV (decide (k<j)) (joinV (Int×Int×Int×(Int×Int)×Option (List (Int×Int))) (fun (m,n,o,p,q)=>appC 16 q (lst (some [p]))/\k0 (m,n,IntKind.wrap IntKind.i64 (o+(1:Int)),appL q (lst (some [p])))) (fun k2=>brV (decide (k=i)) (k2 (i,j,k,((1:Int),(1:Int)),l)) (k2 (i,j,k,((0:Int),(1:Int)),l)))) (Q l)) (b,a,(0:Int),none))):
 callV Pg q3H [⟨tI,a⟩,⟨tI,b⟩] (.sl tNum) Q:=
 q02 (c:=q01 q9i) (ann:=qd1) qfS rfl qiG rfl rfl hQ (kcast (by kernel_rfl) h)
def qcM:Ann:=(.s (.s (.seq (.s (.blk none (.loop ⟨[(3,.own 1003)],[.var 6 (.sl tNum),.var 7 tI,.var 8 tI,.arr 1003 tRR]⟩ .nil))) .nil)))
theorem qld {Q:(Option (List DRR))->Prop} (a:(Option (List (Int×Int)))) (hQ:∃ r,Q r) (h:
 (loopV (Option (List (Int×Int))×Int×Int×Option (List DRR)) (fun k0  (i,j,k,l)=>brV (decide (k<j)) (inS i k/\callV Pg q0J [⟨tNum,eltS ((0:Int),(0:Int)) i k⟩] tRR (fun p2=>appC 80 l (lst (some [p2]))/\k0 (i,j,IntKind.wrap IntKind.i64 (k+(1:Int)),appL l (lst (some [p2]))))) (Q l)) (a,szSl a,(0:Int),none))):
 callV Pg q20 [⟨(.sl tNum),a⟩] (.sl tRR) Q:=
 q02 (c:=q01 q95) (ann:=qcM) qfF rfl qit rfl rfl hQ (kcast (by kernel_rfl) h)
def qcL:Ann:=(.s (.s (.seq (.s (.blk none (.loop ⟨[(4,.own 1004)],[.var 9 (.sl tRR),.var 10 tI,.var 11 tI,.arr 1004 tNum]⟩ .nil))) .nil)))
theorem qlc {Q:((Option (List (Int×Int)))×(Int×Unit))->Prop} (a:(Option (List DRR))) (hQ:∃ r,Q r) (h:
 (loopV (Option (List DRR)×Int×Int×Option (List (Int×Int))) (fun k0  (i,j,k,l)=>brV (decide (k<j)) (inS i k/\callV Pg q2B [⟨tRR,eltS z0 i k⟩] (.tup (.pair tNum (.pair .bool .unit))) (fun p2=>brV (notB p2.2.1) (Q (none,(3:Int),())) (appC 16 l (lst (some [p2.1]))/\k0 (i,j,IntKind.wrap IntKind.i64 (k+(1:Int)),appL l (lst (some [p2.1])))))) (Q (l,(0:Int),()))) (a,szSl a,(0:Int),none))):
 callV Pg q3x [⟨(.sl tRR),a⟩] (.tup (.pair (.sl tNum) (.pair tI .unit))) Q:=
 q02 (c:=q01 q94) (ann:=qcL) qfE rfl qis rfl rfl hQ (kcast (by kernel_rfl) h)
end Go.Proofs.Pf
namespace Go.Proofs.Pf
open Go Go.VM
set_option maxRecDepth 100000
def qbL:Ann:=.nil
theorem qke {Q:(Int×Int)->Prop} (a:Int) (b:Int) (hQ:∃ r,Q r) (h:
 (Q (a,b))):
 callV Pg q1w [⟨tI,a⟩,⟨tI,b⟩] tNum Q:=
 q02 (c:=q01 q84) (ann:=qbL) qeG rfl qhu rfl rfl hQ (kcast (by kernel_rfl) h)
def qbK:Ann:=let x:Shape:=⟨[],[]⟩;(.s (.seq (.regL [] [(9,([8],false)),(17,([10,13,16],false))] [(4,⟨⟨[(0,.ref 0 0)],[.var 1 tNum,.var 3 tBr,.var 4 tNum,.box 0 tMo]⟩,x,1000⟩),(8,⟨⟨[(0,.ref 0 0),(8,.own 8)],[.var 1 tNum,.box 0 tMo,.arr 8 tBr]⟩,x,1000⟩),(12,⟨⟨[(0,.ref 0 0)],[.var 11 (.agg (.pair tI (.pair tI (.own 10)))),.var 12 tCh,.box 0 tMo,.arr 10 tCh]⟩,x,1000⟩),(16,⟨⟨[(0,.ref 0 0),(16,.own 16)],[.var 11 (.agg (.pair tI (.pair tI (.own 10)))),.var 14 (.agg (.pair tI (.pair tI (.own 13)))),.box 0 tMo,.arr 10 tCh,.arr 13 tCh,.arr 16 tCh]⟩,x,1000⟩)] none) .nil))
theorem qkd {Q:DMo->Prop} (hQ:∃ r,Q r) (h:
 (callV Pg q1w [⟨tI,(0:Int)⟩,⟨tI,(1:Int)⟩] tNum (fun p0=>callV Pg q1w [⟨tI,(1:Int)⟩,⟨tI,(2:Int)⟩] tNum (fun p1=>callV Pg q1w [⟨tI,(1:Int)⟩,⟨tI,(4:Int)⟩] tNum (fun p2=>joinV ((Int×Int)×DBr×(Int×Int)×DMo) (fun (i,j,k,l)=>callV Pg q1w [⟨tI,(1:Int)⟩,⟨tI,(4:Int)⟩] tNum (fun p4=>joinV ((Int×Int)×DMo×Option (List DBr)) (fun (m,n,o)=>callV Pg q2J [⟨tI,(1:Int)⟩] tCh (fun p6=>joinV ((Int×Int×Unit)×DCh×DMo×Option (List DCh)) (fun (p,q,r,s)=>callV Pg q2J [⟨tI,(2:Int)⟩] tCh (fun p8=>joinV ((Int×Int×Unit)×(Int×Int×Unit)×DMo×Option (List DCh)×Option (List DCh)×Option (List DCh)) (fun (t,u,_,v,w,x)=>Q (some [(t.1,t.2.1,v),(u.1,u.2.1,w),((0:Int),(1:Int),x)])) (fun k9=>k9 ((p.1,p.2.1,()),((0:Int),(0:Int),()),r,s,some [q],some [p8])))) (fun k7=>k7 (((0:Int),(0:Int),()),p6,n,some [(m,o)])))) (fun k5=>k5 (i,l,some [j,((1:Int),k),((2:Int),p4)])))) (fun k3=>k3 (p0,((0:Int),p1),p2,none))))))):
 callV Pg q1Q [] tMo Q:=
 q02 (c:=q01 q83) (ann:=qbK) qeF rfl qht rfl rfl hQ (kcast (by kernel_rfl) h)
def qbP:Ann:=.nil
theorem qki {Q:(Int×Int)->Prop} (a:Int) (b:Int) (hQ:∃ r,Q r) (h:
 (Q (a,b))):
 callV Pg q1x [⟨tI,a⟩,⟨tI,b⟩] tNum Q:=
 q02 (c:=q01 q88) (ann:=qbP) qeK rfl qhy rfl rfl hQ (kcast (by kernel_rfl) h)
def qbO:Ann:=(.s (.seq (.reg [] [] (some ⟨[],[.var 6 .bool]⟩)) .nil))
theorem qkh {Q:Bool->Prop} (a:DMo) (b:(Option (List (Int×Int)))) (c:DL) (hQ:∃ r,Q r) (h:
 (joinV Bool (fun p0=>Q p0) (fun k0=>callV Pg q3y [⟨tI,(7:Int)⟩,⟨tMo,a⟩] .bool (fun p1=>brV p1 (brV (decide ((szSl b)<=(60:Int))) (brV (decide ((szSl c)<=(12:Int))) (k0 true) (brV (decide ((200:Int)<(szSl c))) (k0 (decide ((szSl c)<=(260:Int)))) (k0 false))) (k0 false)) (k0 false))))):
 callV Pg q3b [⟨tMo,a⟩,⟨(.sl tNum),b⟩,⟨tL,c⟩] .bool Q:=
 q02 (c:=q01 q87) (ann:=qbO) qeJ rfl qhx rfl rfl hQ (kcast (by kernel_rfl) h)
def qbN:Ann:=(.s (.s (.s (.seq (.reg [] [(3,([19],false))] none) (.s (.seq (.reg [] [] (some ⟨[],[.var 0 .bool]⟩)) .nil))))))
theorem qkg {Q:Bool->Prop} (hQ:∃ r,Q r) (h:
 (callV Pg q3H [⟨tI,(3:Int)⟩,⟨tI,(0:Int)⟩] (.sl tNum) (fun p0=>callV Pg q1Q [] tMo (fun p1=>callV Pg q3W [⟨tMo,p1⟩,⟨.sl tNum,p0⟩,⟨tL,some [(0:Int),(0:Int),(1:Int)]⟩] (.tup (.pair tNum (.pair tI .unit))) (fun p2=>callV Pg q1Q [] tMo (fun p3=>callV Pg q3Y [⟨tMo,p3⟩,⟨.sl tNum,p0⟩,⟨tL,some [(0:Int),(0:Int)]⟩] (.tup (.pair (.sl tNum) (.pair tI .unit))) (fun p4=>callV Pg q1Q [] tMo (fun p5=>callV Pg q3V [⟨tMo,p5⟩,⟨tI,(0:Int)⟩,⟨tI,(1:Int)⟩] (.tup (.pair tL (.pair tI .unit))) (fun p6=>joinV Bool (fun p7=>Q p7) (fun k7=>brV (decide (p2.2.1=(0:Int))) (callV Pg q1x [⟨tI,(1:Int)⟩,⟨tI,(8:Int)⟩] tNum (fun p8=>brV (andB (decide (p2.1.1=p8.1)) (andB (decide (p2.1.2=p8.2)) true)) (brV (decide (p4.2.1=(0:Int))) (callV Pg q1x [⟨tI,(2:Int)⟩,⟨tI,(3:Int)⟩] tNum (fun p9=>callV Pg q1x [⟨tI,(1:Int)⟩,⟨tI,(3:Int)⟩] tNum (fun p10=>callV Pg q1x [⟨tI,(0:Int)⟩,⟨tI,(1:Int)⟩] tNum (fun p11=>callV Pg q2G [⟨.sl tNum,p4.1⟩,⟨.sl tNum,some [p9,p10,p11]⟩] .bool (fun p12=>brV p12 (brV (decide (p6.2.1=(0:Int))) (callV Pg q1U [⟨tL,p6.1⟩,⟨tL,some [(0:Int),(0:Int)]⟩] .bool (fun p13=>k7 p13)) (k7 false)) (k7 false)))))) (k7 false)) (k7 false))) (k7 false))))))))))):
 callV Pg q2w [] .bool Q:=
 q02 (c:=q01 q86) (ann:=qbN) qeI rfl qhw rfl rfl hQ (kcast (by kernel_rfl) h)
end Go.Proofs.Pf
namespace Go.Proofs.Pf
open Go Go.VM
set_option maxRecDepth 100000
def qbZ:Ann:=let x:Shape:=⟨[(4,.ref 4 0),(7,.own 11)],[.var 0 (.sl tER),.var 2 (.sl tER),.var 13 tI,.var 14 tI,.box 4 tER,.arr 11 tER]⟩;(.s (.s (.seq (.s (.blk none (.loop x (.s (.s (.seq (.blk none (.s (.s (.s (.cond (some x) .nil .nil))))) .nil)))))) .nil)))
theorem qks {Q:(Option (List DR))->Prop} (a:(Option (List DR))) (b:DR) (c:(Option (List DR))) (hQ:∃ r,Q r) (h:
 (mkC 64 (szSl a) (szSl a)/\loopV (Option (List DR)×Option (List DR)×Int×Int×DR×Option (List DR)) (fun k0  (i,j,k,l,m,n)=>brV (decide (l<k)) (inS i l/\inS n l/\inS j l/\callV Pg q0i [⟨tER,eltS r0 j l⟩] tI (fun p2=>joinV (Option (List DR)×Option (List DR)×Int×Int×DR×Option (List DR)) (fun (o,p,q,r,s)=>k0 (o,p,q,IntKind.wrap IntKind.i64 (r+(1:Int)),s)) (fun k3=>brV (notB (decide (p2=(0:Int)))) (inS i l/\inS j l/\callV Pg q0G [⟨tER,m⟩,⟨tER,eltS r0 j l⟩] tER (fun p4=>callV Pg q0F [⟨tER,eltS r0 i l⟩,⟨tER,p4⟩] tER (fun p5=>inS (setO n (toN l) (eltS r0 i l)) l/\k3 (i,j,k,l,m,setO (setO n (toN l) (eltS r0 i l)) (toN l) p5)))) (k3 (i,j,k,l,m,setO n (toN l) (eltS r0 i l)))))) (Q n)) (a,c,szSl a,(0:Int),b,some (repS (szSl a) r0)))):
 callV Pg q2y [⟨(.sl tER),a⟩,⟨tER,b⟩,⟨(.sl tER),c⟩] (.sl tER) Q:=
 q02 (c:=q01 q8i) (ann:=qbZ) qeU rfl qhI rfl rfl hQ (kcast (by kernel_rfl) h)
def qc1:Ann:=(.s (.seq (.reg [] [(5,([7],false))] none) .nil))
theorem qku {Q:(Option (List DR))->Prop} (a:(Option (List DR))) (b:DR) (hQ:∃ r,Q r) (h:
 (mkC 64 (szSl a) (szSl a)/\callV Pg q2y [⟨.sl tER,some (repS (szSl a) r0)⟩,⟨tER,b⟩,⟨.sl tER,a⟩] (.sl tER) (fun p0=>Q p0))):
 callV Pg q3l [⟨(.sl tER),a⟩,⟨tER,b⟩] (.sl tER) Q:=
 q02 (c:=q01 q8k) (ann:=qc1) qeW rfl qhK rfl rfl hQ (kcast (by kernel_rfl) h)
def qdb:Ann:=.nil
theorem qlC {Q:(Option (List DR))->Prop} (a:(Option (List DR))) (hQ:∃ r,Q r) (h:
 (brV (Option.isNone a) (Q none) (appC 64 (some []) (lst a)/\Q (appL (some []) (lst a))))):
 ownV Pg q3N [⟨(.sl tER),a⟩] tER Q:=
 q1l (c:=q01 q9p) (ann:=qdb) qfZ rfl qiN rfl rfl hQ (kcast (by kernel_rfl) h)
def qdc:Ann:=.nil
theorem qlD {Q:(Option (List (Option (List DR))))->Prop} (a:(Option (List (Option (List DR))))) (hQ:∃ r,Q r) (h:
 (brV (Option.isNone a) (Q none) (appC 24 (some []) (lst a)/\Q (appL (some []) (lst a))))):
 ownV Pg q3O [⟨(.sl (.sl tER)),a⟩] (.sl tER) Q:=
 q1l (c:=q01 q9q) (ann:=qdc) qg0 rfl qiO rfl rfl hQ (kcast (by kernel_rfl) h)
def qc0:Ann:=let x:Shape:=⟨[(6,.ref 6 0),(7,.own 16),(8,.ref 8 0),(9,.own 1009)],[.var 10 tI,.var 11 tI,.var 18 tI,.var 19 tI,.var 87 tI,.var 88 tI,.box 6 tER,.box 8 tER,.arr 16 (.sl tER),.arr 1009 tI]⟩;let y:Shape:=⟨[(6,.ref 6 0),(7,.own 16),(8,.ref 8 0),(9,.own 1009)],[.var 18 tI,.var 19 tI,.box 6 tER,.box 8 tER,.arr 16 (.sl tER),.arr 1009 tI]⟩;(.s (.seq (.reg [] [(1,([],true))] none) (.s (.s (.seq (.s (.blk none (.loop y (.s (.s (.seq (.blk (some y) (.s (.s (.s (.seq (.blk none (.loop ⟨[(6,.ref 6 0),(7,.own 16),(8,.ref 8 0),(9,.own 1009)],[.var 10 tI,.var 11 tI,.var 12 tI,.var 18 tI,.var 19 tI,.box 6 tER,.box 8 tER,.arr 16 (.sl tER),.arr 1009 tI]⟩ (.seq (.seq (.reg [] [] (some ⟨[(6,.ref 6 0),(7,.own 16),(8,.ref 8 0),(9,.own 1009)],[.var 10 tI,.var 11 tI,.var 12 tI,.var 18 tI,.var 19 tI,.var 39 .bool,.box 6 tER,.box 8 tER,.arr 16 (.sl tER),.arr 1009 tI]⟩)) .nil) .nil))) (.s (.seq (.s (.cond (some ⟨[(6,.ref 6 0),(7,.own 16),(8,.ref 8 0),(9,.own 1009)],[.var 10 tI,.var 11 tI,.var 18 tI,.var 19 tI,.box 6 tER,.box 8 tER,.arr 16 (.sl tER),.arr 1009 tI]⟩) .nil .nil)) (.s (.s (.s (.seq (.s (.blk none (.loop x (.s (.s (.seq (.blk none (.s (.seq (.reg [] [] (some ⟨[(6,.ref 6 0),(7,.own 16),(8,.ref 8 0),(9,.own 1009)],[.var 10 tI,.var 11 tI,.var 14 tI,.var 18 tI,.var 19 tI,.var 87 tI,.var 88 tI,.var 104 .bool,.box 6 tER,.box 8 tER,.arr 16 (.sl tER),.arr 1009 tI]⟩)) (.cond (some x) .nil .nil)))) .nil)))))) .nil))))))))))) .nil)))))) .nil)))))
theorem qkt {Q:((Option (List (Option (List DR))))×(DL×(DR×Unit)))->Prop} (a:(Option (List (Option (List DR))))) (b:Int) (hQ:∃ r,Q r) (h:
 (ownV Pg q3O [⟨.sl (.sl tER),a⟩] (.sl tER) (fun p0=>callV Pg q1u [⟨tI,(1:Int)⟩] tER (fun p1=>loopV (Int×Int×DR×DR×Option (List (Option (List DR)))×DL) (fun k2  (i,j,k,l,m,n)=>brV (decide (j<i)) (joinV (Int×Int×DR×DR×Option (List (Option (List DR)))×DL) (fun (o,p,q)=>k2 (o,IntKind.wrap IntKind.i64 (p+(1:Int)),q)) (fun k4=>loopV (Int×Int×Int×Int×Int×DR×DR×Option (List (Option (List DR)))×DL) (fun k5  (o,p,q,r,s,t,u,v,w)=>joinV (Int×Int×Int×Int×Int×Bool×DR×DR×Option (List (Option (List DR)))×DL) (fun (x,y,z,e,f,g,c,d,A,B)=>brV g (k5 (x,y,IntKind.wrap IntKind.i64 (z+(1:Int)),e,f,c,d,A,B)) (brV (decide (z=(szSl A))) (k4 (e,f,c,d,A,B)) (joinV (Int×Int×Int×Int×DR×DR×Option (List (Option (List DR)))×DL) (fun (C,D,E,F,G,H,I,J)=>inS I D/\inS (eltN none I (toN D)) C/\callV Pg q0G [⟨tER,H⟩,⟨tER,eltS r0 (eltN none I (toN D)) C⟩] tER (fun p9=>inS I D/\callV Pg q1u [⟨tI,(1:Int)⟩] tER (fun p10=>callV Pg q2s [⟨tER,p10⟩,⟨tER,eltS r0 (eltN none I (toN D)) C⟩] tER (fun p11=>callV Pg q3l [⟨.sl tER,eltN none I (toN D)⟩,⟨tER,p11⟩] (.sl tER) (fun p12=>inS I D/\loopV (Int×Int×Int×Int×Int×Int×DR×DR×Option (List (Option (List DR)))×DL) (fun k13  (K,L,M,N,O,P,R,S,T,U)=>brV (decide (P<O)) (joinV (Int×Int×Int×Int×Int×Int×Int×Bool×DR×DR×Option (List (Option (List DR)))×DL) (fun (V,W,X,Y,Z,ii,ij,ik,il,im,io,ip)=>joinV (Int×Int×Int×Int×Int×Int×DR×DR×Option (List (Option (List DR)))×DL) (fun (iq,ir,it,iu,iv,iw,ix)=>k13 (iq,ir,it,iu,iv,IntKind.wrap IntKind.i64 (iw+(1:Int)),ix)) (fun k16=>brV ik (inS io X/\inS io X/\inS (eltN none io (toN X)) V/\callV Pg q1N [⟨tER,eltS r0 (eltN none io (toN X)) V⟩] tER (fun p17=>inS io W/\callV Pg q2y [⟨.sl tER,eltN none io (toN X)⟩,⟨tER,p17⟩,⟨.sl tER,eltN none io (toN W)⟩] (.sl tER) (fun p18=>inS io X/\k16 (V,W,Y,Z,ii,ij,il,im,setO io (toN X) p18,ip)))) (k16 (V,W,Y,Z,ii,ij,il,im,io,ip)))) (fun k15=>brV (notB (decide (P=L))) (inS T P/\inS (eltN none T (toN P)) K/\callV Pg q0i [⟨tER,eltS r0 (eltN none T (toN P)) K⟩] tI (fun p16=>k15 (K,L,P,M,N,O,P,notB (decide (p16=(0:Int))),R,S,T,U))) (k15 (K,L,P,M,N,O,P,false,R,S,T,U)))) (appC 8 U (lst (some [K]))/\k4 (M,N,R,S,T,appL U (lst (some [K]))))) (C,D,E,F,szSl (setO I (toN D) p12),(0:Int),G,p9,setO I (toN D) p12,J)))))) (fun k8=>brV (notB (decide (z=y))) (inS A y/\inS A z/\inS A z/\inS (setO A (toN z) (eltN none A (toN y))) y/\callV Pg q1N [⟨tER,d⟩] tER (fun p9=>k8 (x,y,e,f,c,p9,setO (setO A (toN z) (eltN none A (toN y))) (toN y) (eltN none A (toN z)),B))) (k8 (x,y,e,f,c,d,A,B)))))) (fun k7=>brV (decide (q<(szSl v))) (inS v q/\inS (eltN none v (toN q)) o/\callV Pg q0i [⟨tER,eltS r0 (eltN none v (toN q)) o⟩] tI (fun p8=>k7 (o,p,q,r,s,decide (p8=(0:Int)),t,u,v,w))) (k7 (o,p,q,r,s,false,t,u,v,w)))) (j,szSl n,szSl n,i,j,k,l,m,n))) (Q (m,n,l,()))) (b,(0:Int),r0,p1,p0,none))))):
 callV Pg q3k [⟨(.sl (.sl tER)),a⟩,⟨tI,b⟩] (.tup (.pair (.sl (.sl tER)) (.pair tL (.pair tER .unit)))) Q:=
 q02 (c:=q01 q8j) (ann:=qc0) qeV rfl qhJ rfl rfl hQ (kcast (by kernel_rfl) h)
def qbY:Ann:=(.s (.s (.seq (.s (.blk none (.loop ⟨[(8,.own 1008)],[.var 1 (.sl tER),.var 2 tI,.var 19 (.sl (.sl tER)),.var 20 tI,.var 21 tI,.arr 1008 (.sl tER)]⟩ (.s (.s (.seq (.blk none (.s (.reg [] [(2,([],true)),(8,([],true))] none))) .nil)))))) (.seq (.reg [] [(2,([1008],false))] none) (.seq (.s (.blk none (.loop ⟨[],[.var 2 tI,.var 11 (.sl (.sl tER)),.var 12 tL,.var 48 (.sl (.sl tER)),.var 49 tI,.var 50 tI]⟩ .nil))) (.s (.seq (.s (.blk none (.loop ⟨[(16,.own 62)],[.var 2 tI,.var 11 (.sl (.sl tER)),.var 12 tL,.var 63 tL,.var 64 tI,.var 65 tI,.arr 62 tER]⟩ .nil))) .nil)))))))
theorem qkr {Q:(Int×((Option (List DR))×Unit))->Prop} (a:(Option (List (Option (List DR))))) (b:(Option (List DR))) (c:Int) (hQ:∃ r,Q r) (h:
 (loopV (Option (List DR)×Int×Option (List (Option (List DR)))×Int×Int×Option (List (Option (List DR)))) (fun k0  (i,j,k,l,m,n)=>brV (decide (m<l)) (inS k m/\ownV Pg q3N [⟨.sl tER,eltS none k m⟩] tER (fun p2=>inS i m/\appC 64 p2 (lst (some [(eltS r0 i m)]))/\appC 24 n (lst (some [(appL p2 (lst (some [(eltS r0 i m)])))]))/\k0 (i,j,k,l,IntKind.wrap IntKind.i64 (m+(1:Int)),appL n (lst (some [(appL p2 (lst (some [(eltS r0 i m)])))]))))) (callV Pg q3k [⟨.sl (.sl tER),n⟩,⟨tI,j⟩] (.tup (.pair (.sl (.sl tER)) (.pair tL (.pair tER .unit)))) (fun p2=>inR p2.1 (szSl p2.2.1) (szSl p2.1)/\loopV (Int×Option (List (Option (List DR)))×DL×Option (List (Option (List DR)))×Int×Int) (fun k3  (o,p,q,r,s,t)=>brV (decide (t<s)) (inS r t/\inS (eltS none r t) o/\callV Pg q0i [⟨tER,eltS r0 (eltS none r t) o⟩] tI (fun p5=>brV (notB (decide (p5=(0:Int)))) (Q ((0:Int),none,())) (k3 (o,p,q,r,s,IntKind.wrap IntKind.i64 (t+(1:Int)))))) (mkC 64 o o/\loopV (Int×Option (List (Option (List DR)))×DL×DL×Int×Int×Option (List DR)) (fun k5  (u,v,w,x,y,z,e)=>brV (decide (z<y)) (inS x z/\inS v z/\inS (eltS none v z) u/\inS e (eltS (0:Int) x z)/\k5 (u,v,w,x,y,IntKind.wrap IntKind.i64 (z+(1:Int)),setO e (toN (eltS (0:Int) x z)) (eltS r0 (eltS none v z) u))) (brV (decide ((szSl w)<u)) (Q ((2:Int),e,())) (Q ((1:Int),e,())))) (o,p,q,q,szSl q,(0:Int),some (repS o r0)))) (j,p2.1,p2.2.1,slcS p2.1 (szSl p2.2.1) (szSl p2.1),szSl (slcS p2.1 (szSl p2.2.1) (szSl p2.1)),(0:Int))))) (b,c,a,szSl a,(0:Int),none))):
 callV Pg q3j [⟨(.sl (.sl tER)),a⟩,⟨(.sl tER),b⟩,⟨tI,c⟩] (.tup (.pair tI (.pair (.sl tER) .unit))) Q:=
 q02 (c:=q01 q8h) (ann:=qbY) qeT rfl qhH rfl rfl hQ (kcast (by kernel_rfl) h)
def qdy:Ann:=(.s (.seq (.reg [] [(3,([.opn 13 90013],false))] none) (.seq (.s (.blk none (.loop ⟨[(5,.own 13)],[.var 0 (.sl (.sl tER)),.var 1 (.sl tER),.var 15 tI,.var 16 tI,.arr 13 (.hd 90013),.pool 90013 tER]⟩ (.s (.s (.seq (.blk none (.s (.seq (.reg [] [(6,([.giv 23 90013],false))] none) (.s (.blk none (.loop ⟨[(5,.own 13)],[.var 0 (.sl (.sl tER)),.var 1 (.sl tER),.var 6 tI,.var 15 tI,.var 16 tI,.var 25 (.sl (.sl tER)),.var 26 tI,.var 27 tI,.arr 13 (.hd 90013),.pool 90013 tER]⟩ .nil)))))) .nil)))))) (.seq (.reg [] [(4,([.frp 90013,13],false))] none) .nil))))
theorem qlZ {Q:Bool->Prop} (a:(Option (List (Option (List DR))))) (b:(Option (List DR))) (hQ:∃ r,Q r) (h:
 (mkC 24 (szSl b) (szSl b)/\nilAll (α:=(List DR)) (some (repS (szSl b) none))/\loopV (Option (List (Option (List DR)))×Option (List DR)×Int×Int×Option (List (Option Nat))×List (List DR)) (fun k0  (i,j,k,l,m,n)=>brV (decide (l<k)) (mkC 64 (szSl i) (szSl i)/\inS m l/\loopV (Option (List (Option (List DR)))×Option (List DR)×Int×Int×Int×Option (List (Option (List DR)))×Int×Int×Option (List (Option Nat))×List (List DR)) (fun k2  (o,p,q,r,s,t,u,v,w,x)=>brV (decide (v<u)) (inS t v/\inS w q/\inS (eltS none t v) q/\inH x (eltN none w (toN q)) v/\k2 (o,p,q,r,s,t,u,IntKind.wrap IntKind.i64 (v+(1:Int)),w,setR x (Option.getD (eltN none w (toN q)) 0) (toN v) (eltS r0 (eltS none t v) q))) (k0 (o,p,r,IntKind.wrap IntKind.i64 (s+(1:Int)),w,x))) (i,j,l,k,l,i,szSl i,(0:Int),setO m (toN l) (gvH (α:=(List DR)) (some (repS (szSl i) r0)) (lenL n)),gvL n (some (repS (szSl i) r0)))) (callV Pg q3j [⟨.sl (.sl tER),mapL (fun x2=>unH n x2) m⟩,⟨.sl tER,j⟩,⟨tI,szSl i⟩] (.tup (.pair tI (.pair (.sl tER) .unit))) (fun p2=>Q (decide (p2.1=(0:Int)))))) (a,b,szSl (hdL (α:=(List DR)) (some (repS (szSl b) none))),(0:Int),hdL (α:=(List DR)) (some (repS (szSl b) none)),[]))):
 callV Pg q41 [⟨(.sl (.sl tER)),a⟩,⟨(.sl tER),b⟩] .bool Q:=
 q02 (c:=q01 q9M) (ann:=qdy) qgm rfl qja rfl rfl hQ (kcast (by kernel_rfl) h)
end Go.Proofs.Pf
namespace Go.Proofs.Pf
open Go Go.VM
set_option maxRecDepth 100000
def qbd:Ann:=.nil
theorem qjH {Q:Bool->Prop} (a:Int) (hQ:∃ r,Q r) (h:
 (Q (notB (decide (a=a))))):
 callV Pg q35 [⟨tI,a⟩] .bool Q:=
 q02 (c:=q01 q7w) (ann:=qbd) qe8 rfl qgW rfl rfl hQ (kcast (by kernel_rfl) h)
def qbc:Ann:=(.s (.seq (.reg [] [] (some ⟨[],[.var 4 .bool]⟩)) .nil))
theorem qjG {Q:Bool->Prop} (a:Int) (b:Int) (hQ:∃ r,Q r) (h:
 (joinV Bool (fun p0=>Q p0) (fun k0=>callV Pg q35 [⟨tI,a⟩] .bool (fun p1=>brV p1 (callV Pg q35 [⟨tI,b⟩] .bool (fun p2=>brV (notB p2) (k0 true) (k0 (decide (a<b))))) (k0 (decide (a<b))))))):
 callV Pg q2o [⟨tI,a⟩,⟨tI,b⟩] .bool Q:=
 q02 (c:=q01 q7v) (ann:=qbc) qe7 rfl qgV rfl rfl hQ (kcast (by kernel_rfl) h)
def qdk:Ann:=(.s (.blk none (.loop ⟨[(0,.own 1000000000)],[.var 1 tI,.var 2 tI,.var 6 tI,.arr 1000000000 tI]⟩ (.s (.seq (.blk none (.s (.blk none (.loop ⟨[(0,.own 1000000000)],[.var 1 tI,.var 2 tI,.var 6 tI,.var 7 tI,.arr 1000000000 tI]⟩ (.seq (.seq (.reg [] [] (some ⟨[(0,.own 1000000000)],[.var 1 tI,.var 2 tI,.var 6 tI,.var 7 tI,.var 30 .bool,.arr 1000000000 tI]⟩)) .nil) .nil))))) .nil)))))
theorem qlL {Q:DL->Prop} (a:Int) (b:Int) (c:DL) (hQ:∃ r,Q r) (h:
 (loopV (Int×Int×DE) (fun k0  (i,j,k)=>brV (decide (k.1<j)) (loopV (Int×Int×Int×DE) (fun k2  (l,m,n,o)=>joinV (Int×Int×Int×DRI) (fun (p,q,r,s)=>brV s.2.1 (inS s.2.2 (IntKind.wrap IntKind.i64 (s.1 - (1:Int)))/\inS s.2.2 s.1/\inS s.2.2 s.1/\inS (setO s.2.2 (toN s.1) (eltN (0:Int) s.2.2 (toN (IntKind.wrap IntKind.i64 (s.1 - (1:Int)))))) (IntKind.wrap IntKind.i64 (s.1 - (1:Int)))/\k2 (p,q,r,IntKind.wrap IntKind.i64 (s.1 - (1:Int)),setO (setO s.2.2 (toN s.1) (eltN (0:Int) s.2.2 (toN (IntKind.wrap IntKind.i64 (s.1 - (1:Int)))))) (toN (IntKind.wrap IntKind.i64 (s.1 - (1:Int)))) (eltN (0:Int) s.2.2 (toN s.1)))) (k0 (p,q,IntKind.wrap IntKind.i64 (r+(1:Int)),s.2.2))) (fun k4=>brV (decide (l<o.1)) (inS o.2 o.1/\inS o.2 (IntKind.wrap IntKind.i64 (o.1 - (1:Int)))/\callV Pg q2o [⟨tI,eltN (0:Int) o.2 (toN o.1)⟩,⟨tI,eltN (0:Int) o.2 (toN (IntKind.wrap IntKind.i64 (o.1 - (1:Int))))⟩] .bool (fun p5=>k4 (l,m,n,o.1,p5,o.2))) (k4 (l,m,n,o.1,false,o.2)))) (i,j,k.1,k)) (Q k.2)) (a,b,IntKind.wrap IntKind.i64 (a+(1:Int)),c))):
 lendV Pg q3U 3 q57 (a,b,c) Q:=
 q4I (c:=q01 q9y) (ann:=qdk) qg8 rfl qiW rfl hQ rfl (kcast (by kernel_rfl) h)
def qdl:Ann:=let x:Shape:=⟨[(0,.own 1000000000)],[.var 1 tI,.var 2 tI,.var 3 tI,.var 8 .bool,.var 9 .bool,.arr 1000000000 tI]⟩;(.s (.s (.blk none (.loop x (.blk (some x) (.s (.seq (.s (.cond none (.seq (.regL [] [] [(3,q57)] none) .nil) .nil)) (.s (.seq (.s (.cond (some ⟨[(0,.own 1000000000)],[.var 1 tI,.var 2 tI,.var 3 tI,.var 8 .bool,.var 9 .bool,.var 10 tI,.arr 1000000000 tI]⟩) .nil .nil)) (.s (.seq (.s (.cond (some ⟨[(0,.own 1000000000)],[.var 1 tI,.var 2 tI,.var 3 tI,.var 8 .bool,.var 9 .bool,.var 10 tI,.var 11 tI,.var 12 tI,.arr 1000000000 tI]⟩) .nil .nil)) (.seq (.seq (.reg [] [] (some ⟨[(0,.own 1000000000)],[.var 1 tI,.var 2 tI,.var 3 tI,.var 8 .bool,.var 9 .bool,.var 10 tI,.var 11 tI,.var 68 .bool,.arr 1000000000 tI]⟩)) (.cond (some ⟨[(0,.own 1000000000)],[.var 1 tI,.var 2 tI,.var 3 tI,.var 8 .bool,.var 9 .bool,.var 10 tI,.var 11 tI,.arr 1000000000 tI]⟩) .nil .nil)) (.seq (.seq (.reg [] [] (some ⟨[(0,.own 1000000000)],[.var 1 tI,.var 2 tI,.var 3 tI,.var 8 .bool,.var 9 .bool,.var 10 tI,.var 11 tI,.var 87 .bool,.arr 1000000000 tI]⟩)) .nil) (.s (.s (.s (.s (.s (.cond (some x) .nil .nil)))))))))))))))))))
theorem qlM {Q:DL->Prop} (a:Int) (b:Int) (c:Int) (d:DL) (hQ:∃ r,Q r) (h:
 (loopV (Int×Int×Int×Bool×Bool×DL) (fun k0  (i,j,k,l,m,n)=>joinV (Int×Int×Int×Bool×Bool×DL) (fun o=>k0 o) (fun k2=>brV (decide ((IntKind.wrap IntKind.i64 (j - i))<=(12:Int))) (lendV Pg q3U 3 q57 (i,j,n) (fun p3=>Q p3)) (brV (decide (k=(0:Int))) (callV Pg qdV [⟨tL,n⟩,⟨tI,i⟩,⟨tI,j⟩] (.tup .unit) (fun p3=>Q n)) (joinV (Int×Int×Int×Bool×Bool×DE) (fun (o,p,q,r,s,t)=>callV Pg qdU [⟨tL,t.2⟩,⟨tI,o⟩,⟨tI,p⟩] (.tup (.pair tI (.pair tI .unit))) (fun p4=>joinV (Int×Int×Int×Bool×Bool×Int×Int×DE) (fun (u,v,w,x,y,z,e,f)=>joinV (Int×Int×Int×Bool×Bool×Int×DRI) (fun (g,A,B,C,D,E,F)=>joinV (Int×Int×Int×Bool×Bool×Int×DE) (fun (G,H,I,J,K,L,M)=>joinV (Int×Int×Int×Bool×Bool×Int×DRI) (fun (N,O,P,R,S,T,U)=>brV U.2.1 (callV Pg qdX [⟨tL,U.2.2⟩,⟨tI,N⟩,⟨tI,O⟩,⟨tI,U.1⟩] tI (fun p9=>k2 (p9,O,P,R,S,U.2.2))) (callV Pg qdY [⟨tL,U.2.2⟩,⟨tI,N⟩,⟨tI,O⟩,⟨tI,U.1⟩] (.tup (.pair tI (.pair .bool .unit))) (fun p9=>((8:Int)≠(0:Int))/\joinV (Int×Int×Int×Bool×Bool×DL) (fun V=>k2 V) (fun k10=>brV (decide ((IntKind.wrap IntKind.i64 (p9.1 - N))<(IntKind.wrap IntKind.i64 (O - p9.1)))) (callV Pg q2K [⟨tL,U.2.2⟩,⟨tI,N⟩,⟨tI,p9.1⟩,⟨tI,P⟩] (.tup .unit) (fun p11=>k10 (IntKind.wrap IntKind.i64 (p9.1+(1:Int)),O,P,decide ((IntKind.wrap IntKind.i64 (Int.tdiv T (8:Int)))<=(IntKind.wrap IntKind.i64 (p9.1 - N))),p9.2.1,U.2.2))) (callV Pg q2K [⟨tL,U.2.2⟩,⟨tI,IntKind.wrap IntKind.i64 (p9.1+(1:Int))⟩,⟨tI,O⟩,⟨tI,P⟩] (.tup .unit) (fun p11=>k10 (N,p9.1,P,decide ((IntKind.wrap IntKind.i64 (Int.tdiv T (8:Int)))<=(IntKind.wrap IntKind.i64 (O - p9.1))),p9.2.1,U.2.2))))))) (fun k8=>brV (decide ((0:Int)<G)) (inS M.2 (IntKind.wrap IntKind.i64 (G - (1:Int)))/\inS M.2 M.1/\callV Pg q2o [⟨tI,eltN (0:Int) M.2 (toN (IntKind.wrap IntKind.i64 (G - (1:Int))))⟩,⟨tI,eltN (0:Int) M.2 (toN M.1)⟩] .bool (fun p9=>k8 (G,H,I,J,K,L,M.1,notB p9,M.2))) (k8 (G,H,I,J,K,L,M.1,false,M.2)))) (fun k7=>brV F.2.1 (callV Pg qdW [⟨tL,F.2.2⟩,⟨tI,g⟩,⟨tI,A⟩] .bool (fun p8=>brV p8 (Q F.2.2) (k7 (g,A,B,C,D,E,F.1,F.2.2)))) (k7 (g,A,B,C,D,E,F.1,F.2.2)))) (fun k6=>brV x (brV y (k6 (u,v,w,x,y,z,e,decide (f.1=(1:Int)),f.2)) (k6 (u,v,w,x,y,z,e,false,f.2))) (k6 (u,v,w,x,y,z,e,false,f.2)))) (fun k5=>brV (decide (p4.2.1=(2:Int))) (callV Pg qdZ [⟨tL,t.2⟩,⟨tI,o⟩,⟨tI,p⟩] (.tup .unit) (fun p6=>k5 (o,p,q,r,s,t.1,IntKind.wrap IntKind.i64 ((IntKind.wrap IntKind.i64 (p - (1:Int))) - (IntKind.wrap IntKind.i64 (p4.1 - o))),(1:Int),t.2))) (k5 (o,p,q,r,s,t.1,p4.1,p4.2.1,t.2))))) (fun k3=>brV (notB l) (callV Pg qdT [⟨tL,n⟩,⟨tI,i⟩,⟨tI,j⟩] (.tup .unit) (fun p4=>k3 (i,j,IntKind.wrap IntKind.i64 (k - (1:Int)),l,m,IntKind.wrap IntKind.i64 (j - i),n))) (k3 (i,j,k,l,m,IntKind.wrap IntKind.i64 (j - i),n))))))) (a,b,c,true,true,d))):
 lendV Pg q2K 4 q5O (a,b,c,d) Q:=
 q4I (c:=q01 q9z) (ann:=qdl) qg9 rfl qiX rfl hQ rfl (kcast (by kernel_rfl) h)
def qbV:Ann:=let x:Shape:=⟨[],[.var 0 (.int .u64),.var 2 tI]⟩;(.s (.seq (.s (.cond (some x) .nil .nil)) (.seq (.s (.cond (some x) .nil .nil)) (.seq (.s (.cond (some x) .nil .nil)) .nil))))
theorem qko {Q:Int->Prop} (a:Int) (hQ:∃ r,Q r) (h:
 (joinV (Int×Int) (fun (i,j)=>joinV (Int×Int) (fun (k,l)=>joinV (Int×Int) (fun (m,n)=>(((0:Int)<=(IntKind.wrap IntKind.u8 m))/\((IntKind.wrap IntKind.u8 m)<(szStr (bytesL [0,1,2,2,3,3,3,3,4,4,4,4,4,4,4,4,5,5,5,5,5,5,5,5,5,5,5,5,5,5,5,5,6,6,6,6,6,6,6,6,6,6,6,6,6,6,6,6,6,6,6,6,6,6,6,6,6,6,6,6,6,6,6,6,7,7,7,7,7,7,7,7,7,7,7,7,7,7,7,7,7,7,7,7,7,7,7,7,7,7,7,7,7,7,7,7,7,7,7,7,7,7,7,7,7,7,7,7,7,7,7,7,7,7,7,7,7,7,7,7,7,7,7,7,7,7,7,7,8,8,8,8,8,8,8,8,8,8,8,8,8,8,8,8,8,8,8,8,8,8,8,8,8,8,8,8,8,8,8,8,8,8,8,8,8,8,8,8,8,8,8,8,8,8,8,8,8,8,8,8,8,8,8,8,8,8,8,8,8,8,8,8,8,8,8,8,8,8,8,8,8,8,8,8,8,8,8,8,8,8,8,8,8,8,8,8,8,8,8,8,8,8,8,8,8,8,8,8,8,8,8,8,8,8,8,8,8,8,8,8,8,8,8,8,8,8,8,8,8,8,8,8,8,8,8,8]))))/\Q (IntKind.wrap IntKind.i64 (n+(IntKind.wrap IntKind.i64 (byteAt (bytesL [0,1,2,2,3,3,3,3,4,4,4,4,4,4,4,4,5,5,5,5,5,5,5,5,5,5,5,5,5,5,5,5,6,6,6,6,6,6,6,6,6,6,6,6,6,6,6,6,6,6,6,6,6,6,6,6,6,6,6,6,6,6,6,6,7,7,7,7,7,7,7,7,7,7,7,7,7,7,7,7,7,7,7,7,7,7,7,7,7,7,7,7,7,7,7,7,7,7,7,7,7,7,7,7,7,7,7,7,7,7,7,7,7,7,7,7,7,7,7,7,7,7,7,7,7,7,7,7,8,8,8,8,8,8,8,8,8,8,8,8,8,8,8,8,8,8,8,8,8,8,8,8,8,8,8,8,8,8,8,8,8,8,8,8,8,8,8,8,8,8,8,8,8,8,8,8,8,8,8,8,8,8,8,8,8,8,8,8,8,8,8,8,8,8,8,8,8,8,8,8,8,8,8,8,8,8,8,8,8,8,8,8,8,8,8,8,8,8,8,8,8,8,8,8,8,8,8,8,8,8,8,8,8,8,8,8,8,8,8,8,8,8,8,8,8,8,8,8,8,8,8,8,8,8,8,8]) (IntKind.wrap IntKind.u8 m)))))) (fun k2=>brV (decide ((256:Int)<=k)) (((0:Int)<=(8:Int))/\k2 (shrI IntKind.u64 k (8:Int),IntKind.wrap IntKind.i64 (l+(8:Int)))) (k2 (k,l)))) (fun k1=>brV (decide ((65536:Int)<=i)) (((0:Int)<=(16:Int))/\k1 (shrI IntKind.u64 i (16:Int),IntKind.wrap IntKind.i64 (j+(16:Int)))) (k1 (i,j)))) (fun k0=>brV (decide ((4294967296:Int)<=a)) (((0:Int)<=(32:Int))/\k0 (shrI IntKind.u64 a (32:Int),(32:Int))) (k0 (a,(0:Int)))))):
 callV Pg q3g [⟨(.int .u64),a⟩] tI Q:=
 q02 (c:=q01 q8e) (ann:=qbV) qeQ rfl qhE rfl rfl hQ (kcast (by kernel_rfl) h)
def qbT:Ann:=.nil
theorem qkm {Q:Int->Prop} (a:Int) (hQ:∃ r,Q r) (h:
 (callV Pg q3g [⟨.int .u64,a⟩] tI (fun p0=>Q p0))):
 callV Pg q3e [⟨(.int .u64),a⟩] tI Q:=
 q02 (c:=q01 q8c) (ann:=qbT) qeO rfl qhC rfl rfl hQ (kcast (by kernel_rfl) h)
def qdj:Ann:=(.s (.regL [] [] [(5,q5O)] none))
theorem qlK {Q:DL->Prop} (a:DL) (hQ:∃ r,Q r) (h:
 (callV Pg q3e [⟨.int .u64,IntKind.wrap IntKind.u64 (szSl a)⟩] tI (fun p0=>lendV Pg q2K 4 q5O ((0:Int),szSl a,p0,a) (fun p1=>Q p1)))):
 lendV Pg q3T 1 q56 (a) Q:=
 q4I (c:=q01 q9x) (ann:=qdj) qg7 rfl qiV rfl hQ rfl (kcast (by kernel_rfl) h)
def qde:Ann:=let x:Shape:=⟨[(0,.own 700000)],[.var 3 tI,.var 4 (.vw 700000),.var 5 tI,.arr 700000 tI]⟩;(.s (.s (.seq (.s (.blk none (.loop ⟨[(0,.own 700000)],[.var 3 tI,.arr 700000 tI]⟩ (.s (.seq (.blk none (.s (.cond none (.s (.seq (.s (.blk none (.loop x (.s (.seq (.blk none (.s (.cond (some x) .nil .nil))) .nil))))) (.s (.seq (.reg [] [(3,([.cut 59 59],false))] none) .nil)))) .nil))) .nil))))) .nil)))
theorem qlF {Q:DL->Prop} (a:DL) (hQ:∃ r,Q r) (h:
 (brV (decide ((szSl a)<(2:Int))) (Q a) (loopV DE (fun k0  p1=>brV (decide (p1.1<(szSl p1.2))) (inS p1.2 p1.1/\inS p1.2 (IntKind.wrap IntKind.i64 (p1.1 - (1:Int)))/\brV (decide ((eltN (0:Int) p1.2 (toN p1.1))=(eltN (0:Int) p1.2 (toN (IntKind.wrap IntKind.i64 (p1.1 - (1:Int))))))) (inW p1.2 p1.1 (szSl p1.2)/\loopV (Int×(Int×Int)×DE) (fun k2  (i,j,k)=>brV (decide (k.1<(j.2 - j.1))) (inV j k.1/\inV j (IntKind.wrap IntKind.i64 (k.1 - (1:Int)))/\joinV (Int×(Int×Int)×DE) (fun (l,m,n)=>k2 (l,m,IntKind.wrap IntKind.i64 (n.1+(1:Int)),n.2)) (fun k4=>brV (notB (decide ((eltN (0:Int) k.2 (toN (j.1+k.1)))=(eltN (0:Int) k.2 (toN (j.1+(IntKind.wrap IntKind.i64 (k.1 - (1:Int))))))))) (inV j k.1/\inS k.2 i/\k4 (IntKind.wrap IntKind.i64 (i+(1:Int)),j,k.1,setO k.2 (toN i) (eltN (0:Int) k.2 (toN (j.1+k.1))))) (k4 (i,j,k)))) (inW k.2 i (szSl k.2)/\inW (clrS k.2 i (szSl k.2) (0:Int)) (0:Int) i/\Q (slcS (clrS k.2 i (szSl k.2) (0:Int)) (0:Int) i))) (p1.1,(p1.1,szSl p1.2),(1:Int),p1.2)) (k0 (IntKind.wrap IntKind.i64 (p1.1+(1:Int)),p1.2))) (Q p1.2)) ((1:Int),a)))):
 lendV Pg q3Q 1 q55 (a) Q:=
 q4I (c:=q01 q9s) (ann:=qde) qg2 rfl qiQ rfl hQ rfl (kcast (by kernel_rfl) h)
def qdD:Ann:=(.s (.s (.seq (.s (.blk none (.loop ⟨[(3,.own 1003)],[.var 7 (.sl tSt),.var 8 tI,.var 9 tI,.arr 1003 tI]⟩ .nil))) (.seq (.regL [] [] [(1,q56)] none) (.seq (.regL [] [] [(1,q55)] none) .nil)))))
theorem qm4 {Q:DL->Prop} (a:DMo) (hQ:∃ r,Q r) (h:
 (loopV (DMo×Int×DE) (fun k0  (i,j,k)=>brV (decide (k.1<j)) (inS i k.1/\appC 8 k.2 (lst (some [(eltS ((0:Int),(0:Int),none) i k.1).2.1]))/\k0 (i,j,IntKind.wrap IntKind.i64 (k.1+(1:Int)),appL k.2 (lst (some [(eltS ((0:Int),(0:Int),none) i k.1).2.1])))) (lendV Pg q3T 1 q56 k.2 (fun p2=>lendV Pg q3Q 1 q55 p2 (fun p3=>Q p3)))) (a,szSl a,(0:Int),none))):
 callV Pg q44 [⟨tMo,a⟩] tL Q:=
 q02 (c:=q01 q9R) (ann:=qdD) qgr rfl qjf rfl rfl hQ (kcast (by kernel_rfl) h)
def qdd:Ann:=.nil
theorem qlE {Q:DL->Prop} (a:DL) (hQ:∃ r,Q r) (h:
 (brV (Option.isNone a) (Q none) (appC 8 (some []) (lst a)/\Q (appL (some []) (lst a))))):
 ownV Pg q3P [⟨tL,a⟩] tI Q:=
 q1l (c:=q01 q9r) (ann:=qdd) qg1 rfl qiP rfl rfl hQ (kcast (by kernel_rfl) h)
def qdm:Ann:=let x:Shape:=⟨[(3,.ref 3 0),(10,.own 1010),(11,.own 1011)],[.var 8 (.sl (.sl tER)),.box 3 tMo,.arr 1010 (.agg (.pair tL (.sl tER))),.arr 1011 (.sl tER)]⟩;(.s (.s (.s (.seq (.seq (.reg [] [] (some ⟨[(3,.ref 3 0)],[.var 1 tI,.var 2 tI,.var 36 .bool,.box 3 tMo]⟩)) .nil) (.s (.s (.s (.s (.seq (.reg [] [(2,([42],false))] none) (.s (.s (.seq (.blk none (.loop x (.s (.blk (some x) (.s (.seq (.reg [] [(2,([.cut 71 71],false))] none) (.s (.seq (.s (.cond (some ⟨[(3,.ref 3 0),(10,.own 71),(11,.own 1011),(12,.ref 12 0)],[.var 8 (.sl (.sl tER)),.box 3 tMo,.box 12 (.agg (.pair tL (.sl tER))),.arr 71 (.agg (.pair tL (.sl tER))),.arr 1011 (.sl tER)]⟩) .nil .nil)) (.s (.seq (.s (.cond (some ⟨[(3,.ref 3 0),(10,.own 71),(11,.own 1011),(12,.ref 12 0)],[.var 8 (.sl (.sl tER)),.var 13 (.sl tER),.box 3 tMo,.box 12 (.agg (.pair tL (.sl tER))),.arr 71 (.agg (.pair tL (.sl tER))),.arr 1011 (.sl tER)]⟩) .nil .nil)) (.s (.blk none (.loop ⟨[(3,.ref 3 0),(10,.own 1010),(11,.own 1011),(12,.ref 12 0)],[.var 8 (.sl (.sl tER)),.var 13 (.sl tER),.var 103 tL,.var 104 tI,.var 105 tI,.box 3 tMo,.box 12 (.agg (.pair tL (.sl tER))),.arr 1010 (.agg (.pair tL (.sl tER))),.arr 1011 (.sl tER)]⟩ (.s (.s (.seq (.blk none (.s (.reg [] [(3,([],true)),(6,([],true))] none))) .nil)))))))))))))))) .nil))))))))))))
theorem qlN {Q:(DL×(Int×Unit))->Prop} (a:DMo) (b:Int) (c:Int) (hQ:∃ r,Q r) (h:
 (callV Pg q2A [⟨tMo,a⟩] .bool (fun p0=>brV (notB p0) (Q (none,(1:Int),())) (callV Pg q2z [⟨tMo,a⟩] .bool (fun p1=>brV (notB p1) (Q (none,(7:Int),())) (joinV (Int×Int×Bool×DMo) (fun (i,j,k,l)=>brV k (Q (none,(6:Int),())) (callV Pg q0E [⟨tMo,l⟩] (.sl (.sl tER)) (fun p3=>mkC 64 (szSl l) (szSl l)/\inS (some (repS (α:=DR) (szSl l) r0)) i/\callV Pg q0Z [] tER (fun p4=>callV Pg q0F [⟨tER,eltN r0 (some (repS (α:=DR) (szSl l) r0)) (toN i)⟩,⟨tER,p4⟩] tER (fun p5=>inS (some (repS (α:=DR) (szSl l) r0)) i/\inS (setO (some (repS (α:=DR) (szSl l) r0)) (toN i) p5) j/\callV Pg q0Z [] tER (fun p6=>callV Pg q2t [⟨tER,eltN r0 (setO (some (repS (α:=DR) (szSl l) r0)) (toN i) p5) (toN j)⟩,⟨tER,p6⟩] tER (fun p7=>inS (setO (some (repS (α:=DR) (szSl l) r0)) (toN i) p5) j/\loopV (Option (List (Option (List DR)))×DMo×Option (List (DL×Option (List DR)))×Option (List (Option (List DR)))) (fun k8  (m,n,o,p)=>brV (decide ((0:Int)<(szSl o))) (joinV (Option (List (Option (List DR)))×DMo×Option (List (DL×Option (List DR)))×Option (List (Option (List DR)))) (fun q=>k8 q) (fun k10=>inS o (0:Int)/\inW o (1:Int) (szSl o)/\callV Pg q1C [⟨.sl tER,(eltN (none,none) o (toN (0:Int))).2⟩] tER (fun p11=>callV Pg q0i [⟨tER,p11⟩] tI (fun p12=>brV (notB (decide (p12=(0:Int)))) (Q ((eltN (none,none) o (toN (0:Int))).1,(0:Int),())) (joinV (Option (List (Option (List DR)))×DMo×(DL×Option (List DR))×Option (List (DL×Option (List DR)))×Option (List (Option (List DR)))) (fun (q,r,s,t)=>joinV (Option (List (Option (List DR)))×Option (List DR)×DMo×(DL×Option (List DR))×Option (List (DL×Option (List DR)))×Option (List (Option (List DR)))) (fun (u,v,w,x)=>callV Pg q44 [⟨tMo,w⟩] tL (fun p15=>loopV (Option (List (Option (List DR)))×Option (List DR)×DL×Int×Int×DMo×(DL×Option (List DR))×Option (List (DL×Option (List DR)))×Option (List (Option (List DR)))) (fun k16  (y,z,e,f,g,d,A,B,C)=>brV (decide (g<f)) (inS e g/\ownV Pg q3P [⟨tL,A.1⟩] tI (fun p18=>appC 8 p18 (lst (some [(eltS (0:Int) e g)]))/\callV Pg q1B [⟨tMo,d⟩,⟨.sl tER,z⟩,⟨tI,eltS (0:Int) e g⟩] (.sl tER) (fun p19=>appC 48 B (lst (some [(appL p18 (lst (some [(eltS (0:Int) e g)])),p19)]))/\k16 (y,z,e,f,IntKind.wrap IntKind.i64 (g+(1:Int)),d,A,appL B (lst (some [(appL p18 (lst (some [(eltS (0:Int) e g)])),p19)])),C)))) (k10 (y,d,B,C))) (u,v,p15,szSl p15,(0:Int),w,x))) (fun k14=>brV (decide ((0:Int)<(szSl s.1))) (callV Pg q1f [⟨.sl (.sl tER),q⟩,⟨.sl tER,s.2⟩,⟨.bool,false⟩,⟨.cst (.fn q0a),()⟩] (.sl tER) (fun p15=>k14 (q,p15,r,s,t))) (k14 (q,s.2,r,s,t)))) (fun k13=>brV (decide ((0:Int)<(szSl (eltN (none,none) o (toN (0:Int))).1))) (callV Pg q41 [⟨.sl (.sl tER),p⟩,⟨.sl tER,(eltN (none,none) o (toN (0:Int))).2⟩] .bool (fun p14=>brV (notB p14) (k10 (m,n,slcS o (1:Int) (szSl o),p)) (appC 24 p (lst (some [(eltN (none,none) o (toN (0:Int))).2]))/\k13 (m,n,eltN (none,none) o (toN (0:Int)),slcS o (1:Int) (szSl o),appL p (lst (some [(eltN (none,none) o (toN (0:Int))).2])))))) (k13 (m,n,eltN (none,none) o (toN (0:Int)),slcS o (1:Int) (szSl o),p)))))))) (Q (none,(5:Int),()))) (p3,l,some [(none,setO (setO (some (repS (α:=DR) (szSl l) r0)) (toN i) p5) (toN j) p7)],none)))))))) (fun k2=>brV (decide (b<(0:Int))) (k2 (b,c,true,a)) (brV (decide (c<(0:Int))) (k2 (b,c,true,a)) (k2 (b,c,decide ((szSl a)<=(maxI b c)),a)))))))))):
 callV Pg q3V [⟨tMo,a⟩,⟨tI,b⟩,⟨tI,c⟩] (.tup (.pair tL (.pair tI .unit))) Q:=
 q02 (c:=q01 q9A) (ann:=qdm) qga rfl qiY rfl rfl hQ (kcast (by kernel_rfl) h)
end Go.Proofs.Pf
namespace Go.Proofs.Pf
open Go Go.VM
set_option maxRecDepth 100000
def qcO:Ann:=.nil
theorem qlf {Q:DCh->Prop} (a:Int) (hQ:∃ r,Q r) (h:
 (Q (((0:Int),(1:Int)),some [(a,(1:Int),(1:Int))]))):
 callV Pg q2J [⟨tI,a⟩] tCh Q:=
 q02 (c:=q01 q97) (ann:=qcO) qfH rfl qiv rfl rfl hQ (kcast (by kernel_rfl) h)
end Go.Proofs.Pf
namespace Go.Proofs.Pf
open Go Go.VM
set_option maxRecDepth 100000
def qdv:Ann:=let x:Shape:=⟨[(2,.ref 2 0),(7,.own 19),(9,.own 29)],[.var 1 tL,.var 5 (.sl (.sl tER)),.var 6 tI,.var 8 tI,.var 10 tI,.var 31 tI,.var 32 tI,.var 46 (.sl tER),.var 47 tI,.var 48 tI,.box 2 tMo,.arr 19 (.sl tER),.arr 29 tER]⟩;let y:Shape:=⟨[(2,.ref 2 0),(7,.own 19),(9,.own 29)],[.var 1 tL,.var 5 (.sl (.sl tER)),.var 6 tI,.var 8 tI,.var 31 tI,.var 32 tI,.box 2 tMo,.arr 19 (.sl tER),.arr 29 tER]⟩;(.s (.s (.s (.s (.seq (.s (.blk none (.loop ⟨[(2,.ref 2 0),(7,.own 19)],[.var 1 tL,.var 5 (.sl (.sl tER)),.var 6 tI,.var 8 tI,.box 2 tMo,.arr 19 (.sl tER)]⟩ (.s (.seq (.blk none (.s (.seq (.s (.blk none (.loop y (.s (.s (.seq (.blk (some y) (.s (.s (.s (.blk none (.loop x (.s (.s (.seq (.blk none (.s (.s (.s (.cond (some x) .nil .nil))))) .nil))))))))) .nil)))))) (.reg [29] [] none)))) .nil))))) .nil)))))
theorem qlW {Q:(Option (List (Option (List DR))))->Prop} (a:DMo) (b:DL) (hQ:∃ r,Q r) (h:
 (callV Pg q0E [⟨tMo,a⟩] (.sl (.sl tER)) (fun p0=>mkC 24 (szSl b) (szSl b)/\loopV (DL×Option (List (Option (List DR)))×Int×Int×DMo×Option (List (Option (List DR)))) (fun k1  (i,j,k,l,m,n)=>brV (decide ((0:Int)<=l)) (mkC 64 (szSl m) (szSl m)/\loopV (DL×Option (List (Option (List DR)))×Int×Int×Int×Int×DMo×Option (List (Option (List DR)))×Option (List DR)) (fun k3  (o,p,q,r,s,t,u,v,w)=>brV (decide (t<s)) (joinV (DL×Option (List (Option (List DR)))×Int×Int×Int×Int×DMo×Option (List (Option (List DR)))×Option (List DR)) (fun (x,y,z,e,f,g,c)=>k3 (x,y,z,e,f,IntKind.wrap IntKind.i64 (g+(1:Int)),c)) (fun k5=>brV (decide (r=(IntKind.wrap IntKind.i64 (q - (1:Int))))) (callV Pg q0Z [] tER (fun p6=>inS w t/\k5 (o,p,q,r,s,t,u,v,setO w (toN t) p6))) (inS p t/\loopV (DL×Option (List (Option (List DR)))×Int×Int×Int×Int×Int×Option (List DR)×Int×Int×DMo×Option (List (Option (List DR)))×Option (List DR)) (fun k6  (x,y,z,e,f,g,c,d,A,B,C,D,E)=>brV (decide (B<A)) (inS d B/\inS D (IntKind.wrap IntKind.i64 (e+(1:Int)))/\inS (eltN none D (toN (IntKind.wrap IntKind.i64 (e+(1:Int))))) B/\callV Pg q0G [⟨tER,eltS r0 d B⟩,⟨tER,eltS r0 (eltN none D (toN (IntKind.wrap IntKind.i64 (e+(1:Int))))) B⟩] tER (fun p8=>inS E f/\callV Pg q1r [⟨tER,p8⟩,⟨tER,eltN r0 E (toN f)⟩] tI (fun p9=>joinV (DL×Option (List (Option (List DR)))×Int×Int×Int×Int×Int×Option (List DR)×Int×Int×DMo×Option (List (Option (List DR)))×Option (List DR)) (fun (F,G,H,I,J,K,L,M,N,O,P)=>k6 (F,G,H,I,J,K,L,M,N,IntKind.wrap IntKind.i64 (O+(1:Int)),P)) (fun k10=>brV (decide ((0:Int)<p9)) (inS E f/\k10 (x,y,z,e,f,g,c,d,A,B,C,D,setO E (toN f) p8)) (k10 (x,y,z,e,f,g,c,d,A,B,C,D,E)))))) (k5 (x,y,z,e,g,c,C,D,E))) (o,p,q,r,t,s,t,eltS none p t,szSl (eltS none p t),(0:Int),u,v,w)))) (inS o r/\callV Pg q1B [⟨tMo,u⟩,⟨.sl tER,w⟩,⟨tI,eltS (0:Int) o r⟩] (.sl tER) (fun p5=>inS v r/\k1 (o,p,q,IntKind.wrap IntKind.i64 (r - (1:Int)),u,setO v (toN r) p5)))) (i,j,k,l,szSl (some (repS (α:=DR) (szSl m) r0)),(0:Int),m,n,some (repS (α:=DR) (szSl m) r0))) (Q n)) (b,p0,szSl b,IntKind.wrap IntKind.i64 ((szSl b) - (1:Int)),a,some (repS (α:=(Option (List DR))) (szSl b) none))))):
 callV Pg q2L [⟨tMo,a⟩,⟨tL,b⟩] (.sl (.sl tER)) Q:=
 q02 (c:=q01 q9J) (ann:=qdv) qgj rfl qj7 rfl rfl hQ (kcast (by kernel_rfl) h)
def qdo:Ann:=let x:Shape:=⟨[(7,.ref 7 0),(10,.own 1010),(11,.ref 11 0),(17,.ref 17 0)],[.var 12 (.sl (.sl tER)),.var 13 (.sl (.sl tER)),.var 14 (.sl tER),.var 15 tI,.var 16 tI,.var 43 tI,.var 44 tI,.var 48 (.sl tER),.var 49 tI,.var 50 tI,.box 7 tNum,.box 11 tER,.box 17 tER,.arr 1010 tI]⟩;(.s (.s (.s (.s (.seq (.s (.cond (some ⟨[(7,.ref 7 0),(10,.own 1010),(11,.ref 11 0)],[.box 7 tNum,.box 11 tER,.arr 1010 tI]⟩) (.s (.s (.s (.blk none (.loop ⟨[(7,.ref 7 0),(10,.own 1010),(11,.ref 11 0)],[.var 12 (.sl (.sl tER)),.var 13 (.sl (.sl tER)),.var 14 (.sl tER),.var 43 tI,.var 44 tI,.box 7 tNum,.box 11 tER,.arr 1010 tI]⟩ (.s (.s (.seq (.blk none (.s (.s (.seq (.s (.blk none (.loop x (.s (.s (.seq (.blk none (.s (.s (.s (.cond (some x) .nil .nil))))) .nil)))))) (.s (.seq (.reg [] [(4095,([.cut 10 500081],false))] none) .nil)))))) .nil)))))))) .nil)) .nil)))))
theorem qlP {Q:(DL×((Int×Int)×(Int×Unit)))->Prop} (a:DMo) (b:(Option (List (Int×Int)))) (c:DL) (hQ:∃ r,Q r) (h:
 (callV Pg q1e [⟨tMo,a⟩,⟨.sl tNum,b⟩,⟨tL,c⟩] tI (fun p0=>brV (notB (decide (p0=(0:Int)))) (Q (none,((0:Int),(0:Int)),p0,())) (callV Pg q0Z [] tER (fun p1=>joinV ((Int×Int)×DR×DL) (fun (_,i,j)=>callV Pg q1R [⟨tER,i⟩] (.tup (.pair tNum (.pair tI .unit))) (fun p3=>brV (notB (decide (p3.2.1=(0:Int)))) (Q (none,((0:Int),(0:Int)),p3.2.1,())) (Q (j,p3.1,(0:Int),())))) (fun k2=>brV (decide ((0:Int)<(szSl c))) (callV Pg q0E [⟨tMo,a⟩] (.sl (.sl tER)) (fun p3=>callV Pg q2L [⟨tMo,a⟩,⟨tL,c⟩] (.sl (.sl tER)) (fun p4=>callV Pg q19 [⟨.sl tNum,b⟩] (.sl tER) (fun p5=>loopV (Option (List (Option (List DR)))×Option (List (Option (List DR)))×Option (List DR)×Int×Int×(Int×Int)×DR×DL) (fun k6  (i,j,k,l,m,n,o,p)=>brV (decide (m<l)) (loopV (Option (List (Option (List DR)))×Option (List (Option (List DR)))×Option (List DR)×Int×Int×Int×Int×Option (List DR)×Int×Int×(Int×Int)×DR×DR×DL) (fun k8  (q,r,s,t,u,v,w,x,y,z,e,f,g,d)=>brV (decide (z<y)) (inS x z/\inS r t/\inS (eltS none r t) z/\callV Pg q0G [⟨tER,eltS r0 x z⟩,⟨tER,eltS r0 (eltS none r t) z⟩] tER (fun p10=>callV Pg q1r [⟨tER,p10⟩,⟨tER,g⟩] tI (fun p11=>joinV (Option (List (Option (List DR)))×Option (List (Option (List DR)))×Option (List DR)×Int×Int×Int×Int×Option (List DR)×Int×Int×(Int×Int)×DR×DR×DL) (fun (A,B,C,D,E,F,G,H,I,J,K)=>k8 (A,B,C,D,E,F,G,H,I,IntKind.wrap IntKind.i64 (J+(1:Int)),K)) (fun k12=>brV (decide ((0:Int)<p11)) (k12 (q,r,s,t,z,v,w,x,y,z,e,f,p10,d)) (k12 (q,r,s,t,u,v,w,x,y,z,e,f,g,d)))))) (callV Pg q0i [⟨tER,g⟩] tI (fun p10=>brV (decide (p10=(0:Int))) (Q (none,((0:Int),(0:Int)),(5:Int),())) (inS s u/\callV Pg q0G [⟨tER,f⟩,⟨tER,eltS r0 s u⟩] tER (fun p11=>appC 8 d (lst (some [u]))/\inS q u/\k6 (q,r,eltS none q u,v,IntKind.wrap IntKind.i64 (w+(1:Int)),e,p11,appL d (lst (some [u])))))))) (i,j,k,m,(0:Int),l,m,k,szSl k,(0:Int),n,o,r0,p)) (k2 (n,o,p))) (p3,p4,p5,szSl c,(0:Int),((0:Int),(0:Int)),p1,none))))) (k2 (((0:Int),(0:Int)),p1,none)))))))):
 callV Pg q3X [⟨tMo,a⟩,⟨(.sl tNum),b⟩,⟨tL,c⟩] (.tup (.pair tL (.pair tNum (.pair tI .unit)))) Q:=
 q02 (c:=q01 q9C) (ann:=qdo) qgc rfl qj0 rfl rfl hQ (kcast (by kernel_rfl) h)
end Go.Proofs.Pf
