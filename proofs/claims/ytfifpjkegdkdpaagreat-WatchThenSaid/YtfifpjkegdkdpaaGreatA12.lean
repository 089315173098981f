/- Typed pure data, a condition on code that says what a call gives, what the code of each function comes to, and what each function gives. -/
import Derived.Scope
import Derived.Lib.LaidTab
import Derived.Lib.ItoaNum
import Derived.Laws.CopyRow
import Derived.Laws.AppendOwn
import Derived.Laws.MakeOwn
import Derived.Laws.BytesString
import Derived.Laws.StructEq
import Derived.Laws.Small
import Derived.Tactics
import Derived.Calls
import Derived.Below
import Derived.KernelRfl
import Derived.Laws.Cells
import Derived.Test.YtfifpjkegdkdpaaGreatProg
import Derived.Test.YtfifpjkegdkdpaaGreatA9
import Derived.Test.YtfifpjkegdkdpaaGreatA10
import Derived.Test.YtfifpjkegdkdpaaGreatA11
set_option linter.unusedVariables false
set_option linter.unusedSimpArgs false
set_option linter.unnecessarySimpa false
namespace Go.Proofs.Pf
open Go Go.VM
variable {x y:(Int×Option (List Int))×(Int×Option (List Int))} {q r:Rat} {k:Nat}
theorem q72 {a:Int×Option (List Int)} {n:Int} (h:IV a n):RV (a,((0:Int),none)) (Rat.divInt n 1):=by
 obtain⟨h1,h2⟩:=qe5 n
 refine⟨by rw[h1];exact h,.inr ⟨⟨rfl,by decide,by decide⟩,by rw[h2];rfl⟩⟩
theorem q2X (hlong:LongS) (hx:RV x q) (hy:RV y r) (fx:RFit k q) (fy:RFit k r) (hk:k+k<=1073741824):callV Pg q0G [⟨tER,x⟩,⟨tER,y⟩] tER fun z=>RV z (q*r):=by
 have hq:=q.den_nz
 have hr:=r.den_nz
 refine qjV x y (RV_ex _) (joinR (fun p=>∃ b:Bool,p=(b,x,y,((0:Int),none),((0:Int),none))/\(b=true->q.den=1/\r.den=1)) ?_ ?_)
 . rintro _ ⟨b,rfl,hb⟩
   have hm:=s_Mul hx.1 hy.1 fx.1 fy.1 (by omega) (by omega)
   refine q00.2 ⟨fun h=>?_,fun _=>?_⟩
   . obtain⟨h1,h2⟩:=hb h
     refine hm.mono fun p hp=>?_
     rw[q6H,h1,h2]
     exact q72 hp
   . refine hm.mono fun p1 h1=>(s_Low hx).mono fun p2 h2=>(s_Low hy).mono fun p3 h3=>(s_Mul h2 h3 fx.2 fy.2 (by omega) (by omega)).mono fun p4 h4=>?_
     refine (q5B hlong h1 h4 ?_ (fx.1.mul fy.1 (Nat.le_refl _)) (fx.2.mul fy.2 (Nat.le_refl _)) hk).mono fun p5 h5=>?_
     . exact Int.mul_ne_zero (by omega) (by omega)
     . rw[q6H];exact h5
 . intro k' hk'
   refine (q5H hx).mono fun b hb=>q00.2 ⟨fun h=>?_,fun _=>hk' _ ⟨false,rfl,fun h=>by simp at h⟩⟩
   refine (q5H hy).mono fun c hc=>hk' _ ⟨c,rfl,fun h2=>⟨hb h,hc h2⟩⟩
theorem q2W (hlong:LongS) (hx:RV x q) (hy:RV y r) (fx:RFit k q) (fy:RFit k r) (hk:k+k+1<=1073741824):callV Pg q0F [⟨tER,x⟩,⟨tER,y⟩] tER fun z=>RV z (q+r):=by
 have hq:=q.den_nz
 have hr:=r.den_nz
 refine qjR x y (RV_ex _) (joinR (fun p=>∃ b:Bool,p=(b,x,y,((0:Int),none),((0:Int),none))/\(b=true->q.den=1/\r.den=1)) ?_ ?_)
 . rintro _ ⟨b,rfl,hb⟩
   refine q00.2 ⟨fun h=>?_,fun _=>?_⟩
   . obtain⟨h1,h2⟩:=hb h
     refine (s_Add hx.1 hy.1 fx.1 fy.1 (by omega)).mono fun p hp=>?_
     rw[q4T,h1,h2]
     have e:q.num*((1:Nat):Int)+r.num*((1:Nat):Int)=q.num+r.num:=by omega
     rw[e]
     exact q72 hp
   . refine (s_Low hy).mono fun p1 h1=>(s_Mul hx.1 h1 fx.1 fy.2 (by omega) (by omega)).mono fun p2 h2=>?_
     refine (s_Low hx).mono fun p3 h3=>(s_Mul hy.1 h3 fy.1 fx.2 (by omega) (by omega)).mono fun p4 h4=>?_
     refine (s_Add h2 h4 (fx.1.mul fy.2 (Nat.le_refl _)) (fy.1.mul fx.2 (Nat.le_refl _)) (by omega)).mono fun p5 h5=>?_
     refine (s_Low hx).mono fun p6 h6=>(s_Low hy).mono fun p7 h7=>(s_Mul h6 h7 fx.2 fy.2 (by omega) (by omega)).mono fun p8 h8=>?_
     refine (q5B hlong h5 h8 ?_ ((fx.1.mul fy.2 (Nat.le_refl _)).add (fy.1.mul fx.2 (Nat.le_refl _)) (Nat.lt_succ_self _)) ((fx.2.mul fy.2 (Nat.le_refl _)).mono (Nat.le_succ _)) hk).mono fun p9 h9=>?_
     . exact Int.mul_ne_zero (by omega) (by omega)
     . rw[q4T];exact h9
 . intro k' hk'
   refine (q5H hx).mono fun b hb=>q00.2 ⟨fun h=>?_,fun _=>hk' _ ⟨false,rfl,fun h=>by simp at h⟩⟩
   refine (q5H hy).mono fun c hc=>hk' _ ⟨c,rfl,fun h2=>⟨hb h,hc h2⟩⟩
theorem s_RSub (hlong:LongS) (hx:RV x q) (hy:RV y r) (fx:RFit k q) (fy:RFit k r) (hk:k+k+1<=1073741824):callV Pg q2t [⟨tER,x⟩,⟨tER,y⟩] tER fun z=>RV z (q - r):=by
 refine qjY x y (RV_ex _) ((s_RNeg hy).mono fun p h=>?_)
 rw[Rat.sub_eq_add_neg]
 exact (q2W hlong hx h fx ⟨fy.1.neg,fy.2⟩ hk).mono fun z hz=>hz
theorem s_RDiv (hlong:LongS) (hx:RV x q) (hy:RV y r) (fx:RFit k q) (fy:RFit k r) (hk:k+k<=1073741824) (h0:r≠0):callV Pg q2s [⟨tER,x⟩,⟨tER,y⟩] tER fun z=>RV z (q / r):=by
 have hq:=q.den_nz
 refine qjT x y (RV_ex _) ((s_Low hy).mono fun p0 h1=>(s_Mul hx.1 h1 fx.1 fy.2 (by omega) (by omega)).mono fun p1 h2=>?_)
 refine (s_Low hx).mono fun p2 h3=>(s_Mul h3 hy.1 fx.2 fy.1 (by omega) (by omega)).mono fun p3 h4=>?_
 refine (q5B hlong h2 h4 ?_ (fx.1.mul fy.2 (Nat.le_refl _)) (fx.2.mul fy.1 (Nat.le_refl _)) hk).mono fun p4 h5=>?_
 . exact Int.mul_ne_zero (by omega) (fun e=>h0 (Rat.num_eq_zero.1 e))
 . rw[rat_div];exact h5
end Go.Proofs.Pf
namespace Go.Proofs.Pf
open Go Go.VM
def NumOk (a:Int×Int):Prop:=1<=a.2/\a.2<=1152921504606846976/\a.1<=1152921504606846976 /\ -1152921504606846976<=a.1/\Int.gcd a.1 a.2=1
instance (a:Int×Int):Decidable (NumOk a):=by unfold NumOk;infer_instance
def numQ (a:Int×Int):Rat:=Rat.divInt a.1 a.2
theorem NumOk.q {a:Int×Int} (h:NumOk a):(numQ a).num=a.1/\((numQ a).den:Int)=a.2:=by
 obtain⟨h1,h2,h3,h4,h5⟩:=h
 have e:sgn a.2=1:=if_pos (by omega)
 rw[numQ,q5s _ _ (by omega),q5r _ _ (by omega),e,h5]
 simp
def outQ (q:Rat):(Int×Int)×Int×Unit:=if q.num<=1152921504606846976 /\ -1152921504606846976<=q.num/\(q.den:Int)<=1152921504606846976 then ((q.num,(q.den:Int)),0,()) else ((0,0),3,())
theorem s_Out {x:(Int×Option (List Int))×(Int×Option (List Int))} {q:Rat} (hx:RV x q):callV Pg q1R [⟨tER,x⟩] (.tup (.pair tNum (.pair tI .unit))) fun r=>r=outQ q:=by
 refine w_num_Out x ⟨_,rfl⟩ ((s_Top hx).mono fun p0 h0=>(s_Int h0 (by decide) (by decide)).mono ?_)
 rintro _ rfl
 refine (s_Low hx).mono fun p2 h2=>(s_Int h2 (by decide) (by decide)).mono ?_
 rintro _ rfl
 have hd:=q.den_nz
 have e1:(smallI q.num 1152921504606846976).2.1=decide (q.num<=1152921504606846976 /\ -1152921504606846976<=q.num):=by unfold smallI;split<;>simp_all
 have e2:(smallI (q.den:Int) 1152921504606846976).2.1=decide ((q.den:Int)<=1152921504606846976):=by
  unfold smallI;split
  . rename_i h;simp[h.1]
  . rename_i h;simp;omega
 have e3:(q.num<=1152921504606846976 /\ -1152921504606846976<=q.num)->(smallI q.num 1152921504606846976).1=q.num:=by intro h;rw[smallI,if_pos h]
 have e4:((q.den:Int)<=1152921504606846976)->(smallI (q.den:Int) 1152921504606846976).1=(q.den:Int):=by intro h;rw[smallI,if_pos ⟨h,by omega⟩]
 refine joinR (fun p=>∃ b:Bool,p=((smallI q.num 1152921504606846976).1,(smallI (q.den:Int) 1152921504606846976).1,b,(0:Int),(0:Int))/\(b=true↔¬ (q.num<=1152921504606846976 /\ -1152921504606846976<=q.num/\(q.den:Int)<=1152921504606846976))) ?_ ?_
 . rintro _ ⟨b,rfl,hb⟩
   refine q00.2 ⟨fun h=>?_,fun h=>?_⟩
   . rw[outQ,if_neg (hb.1 h)]
   . have h3:q.num<=1152921504606846976 /\ -1152921504606846976<=q.num/\(q.den:Int)<=1152921504606846976:=by
      refine Classical.byContradiction fun hn=>?_
      have:=hb.2 hn
      (try dsimp only at h)
      rw[h] at this;simp at this
     rw[outQ,if_pos h3]
     (try dsimp only)
     rw[e3 ⟨h3.1,h3.2.1⟩,e4 h3.2.2]
 . intro k hk
   rw[e1]
   refine q00.2 ⟨fun h=>hk _ ⟨true,rfl,?_⟩,fun h=>hk _ ⟨_,rfl,?_⟩⟩
   . have h:=not_t h
     simp only[true_iff]
     exact fun h2=>h ⟨h2.1,h2.2.1⟩
   . have h:=not_f h
     rw[e2]
     simp only[notB,Bool.not_eq_true',decide_eq_false_iff_not]
     constructor
     . exact fun h1 h2=>h1 h2.2.2
     . exact fun h1 h2=>h1 ⟨h.1,h.2,h2⟩
theorem fit_i64 {n:Int} (h1:-9223372036854775808<=n) (h2:n<9223372036854775808):Fit 2 n:=by
 unfold Fit
 rw[show (4294967296:Int) ^ 2=18446744073709551616 from rfl]
 omega
theorem q6L (hlong:LongS) (a:Int×Int):callV Pg q1S [⟨tNum,a⟩] .bool fun r=>r=decide (NumOk a):=by
 refine qkB a ⟨_,rfl⟩ (joinR (fun p=>∃ b:Bool,p=(b,a)/\(b=true->¬ NumOk a)/\(b=false->1<=a.2/\a.2<=1152921504606846976/\a.1<=1152921504606846976 /\ -1152921504606846976<=a.1)) ?_ ?_)
 . rintro _ ⟨b,rfl,h1,h2⟩
   refine q00.2 ⟨fun h=>?_,fun h=>?_⟩
   . exact (decide_eq_false (h1 h)).symm
   . obtain⟨q1,q2,q3,q4⟩:=h2 h
     refine (s_Of (n:=a.1) (by omega) (by omega)).mono fun p1 e1=>(s_Of (n:=a.2) (by omega) (by omega)).mono fun p2 e2=>?_
     refine (s_Gcd hlong e1 e2 (fit_i64 (by omega) (by omega)) (fit_i64 (by omega) (by omega)) (by omega)).mono fun p3 e3=>(s_Int e3 (by decide) (by decide)).mono ?_
     rintro _ rfl
     refine decide_eq_decide.2 ?_
     unfold smallI NumOk
     split
     . constructor
       . intro h;have h:((Int.gcd a.1 a.2:Nat):Int)=1:=h;exact⟨q1,q2,q3,q4,by omega⟩
       . rintro⟨_,_,_,_,h⟩;show ((Int.gcd a.1 a.2:Nat):Int)=1;omega
     . rename_i hn
       constructor
       . intro h;simp at h
       . rintro⟨_,_,_,_,h⟩;exact absurd ⟨by omega,by omega⟩ hn
 . intro k hk
   refine q00.2 ⟨fun h=>hk _ ⟨true,rfl,fun _ hN=>?_,fun h=>by simp at h⟩,fun h=>q00.2 ⟨fun h2=>hk _ ⟨true,rfl,fun _ hN=>?_,fun h=>by simp at h⟩,fun h2=>q00.2 ⟨fun h3=>hk _ ⟨true,rfl,fun _ hN=>?_,fun h=>by simp at h⟩,fun h3=>hk _ ⟨_,rfl,fun h4 hN=>?_,fun h4=>?_⟩⟩⟩⟩
   . have h:a.2<1:=dec_t h
     have:=hN.1;omega
   . have h2:1152921504606846976<a.2:=dec_t h2
     have:=hN.2.1;omega
   . have h3:1152921504606846976<a.1:=dec_t h3
     have:=hN.2.2.1;omega
   . have h4:a.1 < -1152921504606846976:=dec_t h4
     have:=hN.2.2.2.1;omega
   . have h:¬ a.2<1:=dec_f h
     have h2:¬ 1152921504606846976<a.2:=dec_f h2
     have h3:¬ 1152921504606846976<a.1:=dec_f h3
     have h4:¬ a.1 < -1152921504606846976:=dec_f h4
     omega
theorem s_Rat (hlong:LongS) {a:Int×Int} (h:NumOk a):callV Pg q1y [⟨tNum,a⟩] tER fun r=>RV r (numQ a):=by
 obtain⟨q1,q2,q3,q4,_⟩:=h
 refine w_num_Rat a (RV_ex _) ((s_Of (n:=a.1) (by omega) (by omega)).mono fun p1 e1=>(s_Of (n:=a.2) (by omega) (by omega)).mono fun p2 e2=>?_)
 exact (q5B hlong e1 e2 (by omega) (fit_i64 (by omega) (by omega)) (fit_i64 (by omega) (by omega)) (by omega)).mono fun p h=>h
theorem NumOk.fit {a:Int×Int} (h:NumOk a):RFit 2 (numQ a):=by
 obtain⟨e1,e2⟩:=h.q
 obtain⟨q1,q2,q3,q4,_⟩:=h
 exact⟨by rw[e1];exact fit_i64 (by omega) (by omega),by rw[e2];exact fit_i64 (by omega) (by omega)⟩
end Go.Proofs.Pf
namespace Go.Proofs.Pf
open Go Go.VM
def makeQ (n m:Int):(Int×Int)×Int×Unit:=if m=0 then ((0,0),6,()) else outQ (Rat.divInt n m)
end Go.Proofs.Pf
namespace Go.Proofs.Pf
open Go Go.VM
theorem eqNum (x y:Int×Int):andB (decide (x.1=y.1)) (andB (decide (x.2=y.2)) true)=decide (x=y):=by
 obtain⟨a,b⟩:=x
 obtain⟨c,d⟩:=y
 by_cases h1:a=c<;>by_cases h2:b=d<;>simp[andB,h1,h2]
end Go.Proofs.Pf
namespace Go.Proofs.Pf.B
open Go Go.VM
def RRV (x:(Int×Bool×Option (List Int))×(Int×Bool×Option (List Int))) (q:Rat):Prop:=RIV x.1 q.num/\RIV x.2 (q.den:Int)
theorem RRV_ex (q:Rat):∃ r,RRV r q:=by
 obtain⟨a,ha⟩:=RIV_ex q.num
 obtain⟨b,hb⟩:=RIV_ex (q.den:Int)
 exact⟨(a,b),ha,hb⟩
def RFit (k:Nat) (q:Rat):Prop:=Fit k q.num/\Fit k (q.den:Int)
theorem RFit.mono {k j:Nat} {q:Rat} (h:RFit k q) (hj:k<=j):RFit j q:=⟨h.1.mono hj,h.2.mono hj⟩
theorem fit_i64 {n:Int} (h1:-9223372036854775808<=n) (h2:n<9223372036854775808):Fit 3 n:=by
 unfold Fit
 rw[show (1073741824:Int) ^ 3=1237940039285380274899124224 from rfl]
 omega
theorem r_Make {x y:Int×Bool×Option (List Int)} {n m:Int} {k:Nat} (hx:RIV x n) (hy:RIV y m) (hm:m≠0) (fx:Fit k n) (fy:Fit k m) (hk:k<=1073741824):callV Pg q1V [⟨tRI,x⟩,⟨tRI,y⟩] tRR fun r=>RRV r (Rat.divInt n m):=by
 refine qkQ x y (RRV_ex _) ((q0P hy).mono ?_)
 rintro _ rfl
 refine joinR (fun p=>∃ n' m':Int,RIV p.1 n'/\RIV p.2.1 m'/\0<m'/\Rat.divInt n m=Rat.divInt n' m'/\Fit k n'/\Fit k m') ?_ ?_
 . rintro⟨p,q,z⟩ ⟨n',m',h1,h2,hm',e,f1,f2⟩
   rw[e]
   dsimp only at h1 h2 ⊢
   have hg0:Int.gcd n' m'≠0:=fun e=>by have:=(Int.gcd_eq_zero_iff.1 e).2;omega
   have es:sgn m'=1:=if_pos hm'
   have hn:=q5s n' m' (by omega)
   have hd:=q5r n' m' (by omega)
   rw[es,Int.one_mul] at hn hd
   have hgle:Int.gcd n' m'<=m'.natAbs:=Nat.le_of_dvd (by omega) (Nat.gcd_dvd_right ..)
   refine (r_Gcd h1 h2 f1 f2 hk).mono fun g hg=>(r_Of (n:=1) (by decide) (by decide)).mono fun o ho=>?_
   refine (qaz hg ho (f2.of (by omega)) (fit_i64 (by decide) (by decide)) hk (by decide)).mono ?_
   rintro _ rfl
   refine joinR (fun p=>RIV p.1 (n'.tdiv (Int.gcd n' m'))/\RIV p.2.1 (m'.tdiv (Int.gcd n' m'))) ?_ ?_
   . rintro⟨p,q,z⟩ ⟨h3,h4⟩
     rw[<-hn] at h3
     rw[<-hd] at h4
     exact⟨h3,h4⟩
   . intro k' hk'
     refine q00.2 ⟨fun _=>?_,fun h=>?_⟩
     . refine (r_Over h1 hg (by omega) f1 hk).mono ?_
       rintro⟨q,r,_⟩ ⟨h3,_⟩
       refine (r_Over h2 hg (by omega) f2 hk).mono ?_
       rintro⟨q2,r2,_⟩ ⟨h4,_⟩
       exact hk' _ ⟨h3,h4⟩
     . have h:=sgn_z (not_f h)
       have e:((Int.gcd n' m':Nat):Int)=1:=by omega
       refine hk' _ ?_
       rw[e]
       simp only[Int.tdiv_one]
       exact⟨h1,h2⟩
 . intro k' hk'
   refine q00.2 ⟨fun h=>?_,fun h=>?_⟩
   . have h:=dec_t h
     rw[q16] at h
     refine (q4R hx).mono fun p h1=>(q4R hy).mono fun q h2=>hk' _ ⟨-n,-m,h1,h2,by omega,?_,fx.neg,fy.neg⟩
     exact (Rat.neg_divInt_neg ..).symm
   . have h:=dec_f h
     rw[q16] at h
     exact hk' _ ⟨n,m,hx,hy,by omega,rfl,fx,fy⟩
variable {x y:(Int×Bool×Option (List Int))×(Int×Bool×Option (List Int))} {q r:Rat} {k:Nat}
theorem q13 {n:Int} (h1:-9223372036854775808<=n) (h2:n<9223372036854775808):callV Pg q0k [⟨tI,n⟩] tRR fun r=>RRV r (n:Rat):=
 ql3 n (RRV_ex _) ((r_Of h1 h2).mono fun _ h=>(r_Of (n:=1) (by decide) (by decide)).mono fun _ h'=>⟨h,h'⟩)
theorem q4h (hx:RRV x q) (hy:RRV y r) (fx:RFit k q) (fy:RFit k r) (hk:k+k+1<=1073741824):callV Pg q0V [⟨tRR,x⟩,⟨tRR,y⟩] tRR fun z=>RRV z (q+r):=by
 have hq:=q.den_nz
 have hr:=r.den_nz
 refine qkX x y (RRV_ex _) ((q2V hx.1 hy.2 fx.1 fy.2 (by omega) (by omega)).mono fun p1 h1=>(q2V hy.1 hx.2 fy.1 fx.2 (by omega) (by omega)).mono fun p2 h2=>?_)
 refine (r_Plus h1 h2 (fx.1.mul fy.2 (Nat.le_refl _)) (fy.1.mul fx.2 (Nat.le_refl _)) (by omega) (by omega)).mono fun p3 h3=>(q2V hx.2 hy.2 fx.2 fy.2 (by omega) (by omega)).mono fun p4 h4=>?_
 refine (r_Make h3 h4 ?_ ((fx.1.mul fy.2 (Nat.le_refl _)).add (fy.1.mul fx.2 (Nat.le_refl _)) (Nat.lt_succ_self _)) ((fx.2.mul fy.2 (Nat.le_refl _)).mono (Nat.le_succ _)) hk).mono fun p9 h9=>?_
 . exact Int.mul_ne_zero (by omega) (by omega)
 . rw[q4T];exact h9
theorem r_RMinus (hx:RRV x q):callV Pg q3t [⟨tRR,x⟩] tRR fun r=>RRV r (-q):=
 qkV x (RRV_ex _) ((q4R hx.1).mono fun _ h=>⟨h,hx.2⟩)
theorem r_RLess (hx:RRV x q) (hy:RRV y r) (fx:RFit k q) (fy:RFit k r) (hk:k+k+1<=1073741824):callV Pg q3s [⟨tRR,x⟩,⟨tRR,y⟩] tRR fun z=>RRV z (q - r):=by
 refine qkU x y (RRV_ex _) ((r_RMinus hy).mono fun p h=>?_)
 rw[Rat.sub_eq_add_neg]
 exact (q4h hx h fx ⟨fy.1.neg,fy.2⟩ hk).mono fun z hz=>hz
theorem q4i (hx:RRV x q) (hy:RRV y r) (fx:RFit k q) (fy:RFit k r) (hk:k+k<=1073741824):callV Pg q0W [⟨tRR,x⟩,⟨tRR,y⟩] tRR fun z=>RRV z (q*r):=by
 have hq:=q.den_nz
 have hr:=r.den_nz
 refine qkZ x y (RRV_ex _) ((q2V hx.1 hy.1 fx.1 fy.1 (by omega) (by omega)).mono fun p1 h1=>(q2V hx.2 hy.2 fx.2 fy.2 (by omega) (by omega)).mono fun p2 h2=>?_)
 refine (r_Make h1 h2 ?_ (fx.1.mul fy.1 (Nat.le_refl _)) (fx.2.mul fy.2 (Nat.le_refl _)) hk).mono fun p9 h9=>?_
 . exact Int.mul_ne_zero (by omega) (by omega)
 . rw[q6H];exact h9
theorem r_ROver (hx:RRV x q) (hy:RRV y r) (fx:RFit k q) (fy:RFit k r) (hk:k+k<=1073741824) (h0:r≠0):callV Pg q3u [⟨tRR,x⟩,⟨tRR,y⟩] tRR fun z=>RRV z (q / r):=by
 have hq:=q.den_nz
 refine qkW x y (RRV_ex _) ((q2V hx.1 hy.2 fx.1 fy.2 (by omega) (by omega)).mono fun p1 h1=>(q2V hx.2 hy.1 fx.2 fy.1 (by omega) (by omega)).mono fun p2 h2=>?_)
 refine (r_Make h1 h2 ?_ (fx.1.mul fy.2 (Nat.le_refl _)) (fx.2.mul fy.1 (Nat.le_refl _)) hk).mono fun p9 h9=>?_
 . exact Int.mul_ne_zero (by omega) (fun e=>h0 (Rat.num_eq_zero.1 e))
 . rw[rat_div];exact h9
theorem q6B (hx:RRV x q):callV Pg q1W [⟨tRR,x⟩] tI fun r=>r=sgn q.num:=
 qkY x ⟨_,rfl⟩ ((q0P hx.1).mono fun _ h=>h)
theorem q4S (hx:RRV x q) (hy:RRV y r) (fx:RFit k q) (fy:RFit k r) (hk:k+k+1<=1073741824):callV Pg q1b [⟨tRR,x⟩,⟨tRR,y⟩] tI fun z=>z=sgn (q - r).num:=
 qkT x y ⟨_,rfl⟩ ((r_RLess hx hy fx fy hk).mono fun _ h=>q6B h)
theorem r_To {a:Int×Int} (h:NumOk a):callV Pg q0J [⟨tNum,a⟩] tRR fun r=>RRV r (numQ a):=by
 obtain⟨e1,e2⟩:=h.q
 obtain⟨q1,q2,q3,q4,_⟩:=h
 refine ql1 a (RRV_ex _) ((r_Of (n:=a.1) (by omega) (by omega)).mono fun p1 h1=>(r_Of (n:=a.2) (by omega) (by omega)).mono fun p2 h2=>⟨?_,?_⟩)
 . rw[e1];exact h1
 . rw[e2];exact h2
theorem ok_fit {a:Int×Int} (h:NumOk a):RFit 3 (numQ a):=by
 obtain⟨e1,e2⟩:=h.q
 obtain⟨q1,q2,q3,q4,_⟩:=h
 exact⟨by rw[e1];exact fit_i64 (by omega) (by omega),by rw[e2];exact fit_i64 (by omega) (by omega)⟩
def fromQ (q:Rat):(Int×Int)×Bool×Unit:=if q.num<=1152921504606846976 /\ -1152921504606846976<=q.num/\(q.den:Int)<=1152921504606846976 then ((q.num,(q.den:Int)),true,()) else ((0,0),false,())
theorem r_From (hx:RRV x q):callV Pg q2B [⟨tRR,x⟩] (.tup (.pair tNum (.pair .bool .unit))) fun r=>r=fromQ q:=by
 refine qkD x ⟨_,rfl⟩ ((r_Small hx.1).mono ?_)
 rintro _ rfl
 refine (r_Small hx.2).mono ?_
 rintro _ rfl
 have hd:=q.den_nz
 have e1:(smallI q.num 1152921504606846976).2.1=decide (q.num<=1152921504606846976 /\ -1152921504606846976<=q.num):=by unfold smallI;split<;>simp_all
 have e2:(smallI (q.den:Int) 1152921504606846976).2.1=decide ((q.den:Int)<=1152921504606846976):=by
  unfold smallI;split
  . rename_i h;simp[h.1]
  . rename_i h;simp;omega
 have e3:(q.num<=1152921504606846976 /\ -1152921504606846976<=q.num)->(smallI q.num 1152921504606846976).1=q.num:=by intro h;rw[smallI,if_pos h]
 have e4:((q.den:Int)<=1152921504606846976)->(smallI (q.den:Int) 1152921504606846976).1=(q.den:Int):=by intro h;rw[smallI,if_pos ⟨h,by omega⟩]
 refine joinR (fun p=>∃ b:Bool,p=((smallI q.num 1152921504606846976).1,(smallI (q.den:Int) 1152921504606846976).1,b,(0:Int),(0:Int))/\(b=true↔¬ (q.num<=1152921504606846976 /\ -1152921504606846976<=q.num/\(q.den:Int)<=1152921504606846976))) ?_ ?_
 . rintro _ ⟨b,rfl,hb⟩
   refine q00.2 ⟨fun h=>?_,fun h=>?_⟩
   . rw[fromQ,if_neg (hb.1 h)]
   . have h3:q.num<=1152921504606846976 /\ -1152921504606846976<=q.num/\(q.den:Int)<=1152921504606846976:=by
      refine Classical.byContradiction fun hn=>?_
      have:=hb.2 hn
      (try dsimp only at h)
      rw[h] at this;simp at this
     rw[fromQ,if_pos h3]
     (try dsimp only)
     rw[e3 ⟨h3.1,h3.2.1⟩,e4 h3.2.2]
 . intro k hk
   rw[e1]
   refine q00.2 ⟨fun h=>hk _ ⟨true,rfl,?_⟩,fun h=>hk _ ⟨_,rfl,?_⟩⟩
   . have h:=not_t h
     simp only[true_iff]
     exact fun h2=>h ⟨h2.1,h2.2.1⟩
   . have h:=not_f h
     rw[e2]
     simp only[notB,Bool.not_eq_true',decide_eq_false_iff_not]
     constructor
     . exact fun h1 h2=>h1 h2.2.2
     . exact fun h1 h2=>h1 ⟨h.1,h.2,h2⟩
theorem r_Num (hx:RRV x q):callV Pg q3r [⟨tRR,x⟩] (.tup (.pair tNum (.pair tI .unit))) fun r=>r=outQ q:=by
 refine qkR x ⟨_,rfl⟩ ((r_From hx).mono ?_)
 rintro _ rfl
 unfold fromQ outQ
 split
 . exact q00.2 ⟨fun h=>by simp[notB] at h,fun _=>rfl⟩
 . exact q00.2 ⟨fun _=>rfl,fun h=>by simp[notB] at h⟩
theorem q6C (a:Int×Int):callV Pg q1c [⟨tNum,a⟩] .bool fun r=>r=decide (NumOk a):=by
 refine ql2 a ⟨_,rfl⟩ (joinR (fun p=>∃ b:Bool,p=(b,a)/\(b=true->¬ NumOk a)/\(b=false->1<=a.2/\a.2<=1152921504606846976/\a.1<=1152921504606846976 /\ -1152921504606846976<=a.1)) ?_ ?_)
 . rintro _ ⟨b,rfl,h1,h2⟩
   refine q00.2 ⟨fun h=>?_,fun h=>?_⟩
   . exact (decide_eq_false (h1 h)).symm
   . obtain⟨q1,q2,q3,q4⟩:=h2 h
     refine (r_Of (n:=a.1) (by omega) (by omega)).mono fun p1 e1=>(r_Of (n:=a.2) (by omega) (by omega)).mono fun p2 e2=>?_
     have hgle:Int.gcd a.1 a.2<=a.2.natAbs:=Nat.le_of_dvd (by omega) (Nat.gcd_dvd_right ..)
     refine (r_Gcd e1 e2 (fit_i64 (by omega) (by omega)) (fit_i64 (by omega) (by omega)) (by omega)).mono fun p3 e3=>(r_Of (n:=1) (by decide) (by decide)).mono fun p4 e4=>?_
     refine (qaz e3 e4 (fit_i64 (by omega) (by omega)) (fit_i64 (by omega) (by omega)) (by omega) (by omega)).mono ?_
     rintro _ rfl
     refine decide_eq_decide.2 ?_
     unfold NumOk
     constructor
     . intro h;have h:=sgn_z h;exact⟨q1,q2,q3,q4,by omega⟩
     . rintro⟨_,_,_,_,h⟩;rw[h];rfl
 . intro k hk
   refine q00.2 ⟨fun h=>hk _ ⟨true,rfl,fun _ hN=>?_,fun h=>by simp at h⟩,fun h=>q00.2 ⟨fun h2=>hk _ ⟨true,rfl,fun _ hN=>?_,fun h=>by simp at h⟩,fun h2=>q00.2 ⟨fun h3=>hk _ ⟨true,rfl,fun _ hN=>?_,fun h=>by simp at h⟩,fun h3=>hk _ ⟨_,rfl,fun h4 hN=>?_,fun h4=>?_⟩⟩⟩⟩
   . have h:a.2<1:=dec_t h
     have:=hN.1;omega
   . have h2:1152921504606846976<a.2:=dec_t h2
     have:=hN.2.1;omega
   . have h3:1152921504606846976<a.1:=dec_t h3
     have:=hN.2.2.1;omega
   . have h4:a.1 < -1152921504606846976:=dec_t h4
     have:=hN.2.2.2.1;omega
   . have h:¬ a.2<1:=dec_f h
     have h2:¬ 1152921504606846976<a.2:=dec_f h2
     have h3:¬ 1152921504606846976<a.1:=dec_f h3
     have h4:¬ a.1 < -1152921504606846976:=dec_f h4
     omega
theorem r_All (l:Option (List (Int×Int))) (hl:(l.getD []).length<4611686018427387904):callV Pg q3o [⟨(.sl tNum),l⟩] .bool fun r=>r=decide (∀ a∈l.getD [],NumOk a):=by
 refine qkC l ⟨_,rfl⟩ (loopE (fun p=>∃ k:Nat,p=(l,((l.getD []).length:Int),(k:Int))/\k<=(l.getD []).length/\∀ a∈(l.getD []).take k,NumOk a) (fun p=>((l.getD []).length:Nat) - p.2.2.toNat) ⟨0,rfl,by omega,fun a h=>by simp at h⟩ ?_)
 rintro _ ⟨k,rfl,hk,hall⟩
 dsimp only
 refine q00.2 ⟨fun h=>?_,fun h=>?_⟩
 . have h:(k:Int)<((l.getD []).length:Int):=dec_t h
   have e:eltS ((0:Int),(0:Int)) l (k:Int)=(l.getD [])[k]'(by omega):=by simp only[eltS,Int.toNat_natCast];simp[List.getD,show k<(l.getD []).length by omega]
   rw[e]
   refine⟨⟨by omega,by omega⟩,(q6C _).mono ?_⟩
   rintro _ rfl
   refine q00.2 ⟨fun h2=>?_,fun h2=>?_⟩
   . have h2:=not_t h2
     exact (decide_eq_false fun h3=>h2 (h3 _ (List.getElem_mem _))).symm
   . have h2:=not_f h2
     rw[wi64 (by omega) (by omega)]
     refine⟨⟨k+1,rfl,by omega,?_⟩,by omega⟩
     rw[List.take_succ_eq_append_getElem (by omega)]
     intro a ha
     rcases List.mem_append.1 ha with ha | ha
     . exact hall a ha
     . rw[List.mem_singleton.1 ha];exact h2
 . have h:¬ (k:Int)<((l.getD []).length:Int):=dec_f h
   rw[List.take_of_length_le (by omega)] at hall
   exact (decide_eq_true hall).symm
end Go.Proofs.Pf.B
namespace Go.Proofs.Pf.B
open Go Go.VM
theorem q5A {x y:(Int×Option (List Int))×(Int×Option (List Int))} {q r:Rat} {k:Nat} (hx:RV x q) (hy:RV y r) (fx:Pf.RFit k q) (fy:Pf.RFit k r) (hk:k+k+1<=1073741824):callV Pg q1r [⟨tER,x⟩,⟨tER,y⟩] tI fun z=>z=sgn (q - r).num:=
 qjS x y ⟨_,rfl⟩ ((s_RSub longS hx hy fx fy hk).mono fun _ h=>q14 h)
end Go.Proofs.Pf.B
namespace Go.Proofs.Pf
open Go Go.VM
theorem q6t (q:Rat):q=(q.num:Rat) / ((q.den:Int):Rat):=by
 rw[<-Rat.divInt_eq_div,Rat.num_divInt_den]
def QD (D B:Nat) (q:Rat):Prop:=∃ n:Int,q*((D:Int):Rat)=((n:Int):Rat)/\n.natAbs<=B
theorem QD.mono {D B C:Nat} {q:Rat} (h:QD D B q) (hc:B<=C):QD D C q:=let ⟨n,h1,h2⟩:=h;⟨n,h1,Nat.le_trans h2 hc⟩
theorem QD.zero (D B:Nat):QD D B 0:=⟨0,by simp,by simp⟩
theorem QD.add {D B C:Nat} {q r:Rat} (h:QD D B q) (g:QD D C r):QD D (B+C) (q+r):=by
 obtain⟨n,h1,h2⟩:=h
 obtain⟨m,g1,g2⟩:=g
 refine⟨n+m,?_,by omega⟩
 rw[Rat.add_mul,h1,g1,Rat.intCast_add]
theorem QD.neg {D B:Nat} {q:Rat} (h:QD D B q):QD D B (-q):=by
 obtain⟨n,h1,h2⟩:=h
 refine⟨-n,?_,by omega⟩
 rw[Rat.neg_mul,h1,Rat.intCast_neg]
theorem QD.sub {D B C:Nat} {q r:Rat} (h:QD D B q) (g:QD D C r):QD D (B+C) (q - r):=by
 rw[Rat.sub_eq_add_neg];exact h.add g.neg
theorem QD.mul {D E B C:Nat} {q r:Rat} (h:QD D B q) (g:QD E C r):QD (D*E) (B*C) (q*r):=by
 obtain⟨n,h1,h2⟩:=h
 obtain⟨m,g1,g2⟩:=g
 refine⟨n*m,?_,by rw[Int.natAbs_mul];exact Nat.mul_le_mul h2 g2⟩
 have e:(((D*E:Nat):Int):Rat)=((D:Int):Rat)*((E:Int):Rat):=by rw[<-Rat.intCast_mul];congr 1
 rw[e,Rat.intCast_mul,<-h1,<-g1]
 grind
theorem QD.scale {D B:Nat} (E:Nat) {q:Rat} (h:QD D B q):QD (D*E) (B*E) q:=by
 have h1:=h.mul (E:=E) (C:=E) (r:=1) ⟨E,by rw[Rat.one_mul],by omega⟩
 rwa [Rat.mul_one] at h1
theorem QD.one (D:Nat):QD D D 1:=⟨D,by rw[Rat.one_mul],by omega⟩
theorem QD.int {D B:Nat} {q:Rat} (h:QD D B q):∃ n:Int,q.num*D=n*q.den/\n.natAbs<=B:=by
 obtain⟨n,h1,h2⟩:=h
 refine⟨n,?_,h2⟩
 have hd:((q.den:Int):Rat)≠0:=by
  intro e
  rw[<-Rat.intCast_zero,Rat.intCast_inj] at e
  have:=q.den_nz
  omega
 have hq:q=(q.num:Rat) / ((q.den:Int):Rat):=q6t q
 rw[hq] at h1
 have e:((q.num*D:Int):Rat)=((n*q.den:Int):Rat):=by
  rw[Rat.intCast_mul,Rat.intCast_mul,<-h1,Rat.div_def]
  rw[Rat.mul_assoc,Rat.mul_assoc,Rat.mul_comm (((q.den:Int):Rat)⁻¹),Rat.mul_assoc,Rat.mul_inv_cancel _ hd,Rat.mul_one]
 exact Rat.intCast_inj.1 e
theorem QD.div {D B:Nat} {q:Rat} (hD:0<D) (h:QD D B q):q.num.natAbs<=B/\q.den<=D:=by
 obtain⟨n,h1,h2⟩:=h.int
 have hc:Nat.Coprime q.num.natAbs q.den:=q.reduced
 have h3:q.num.natAbs*D=n.natAbs*q.den:=by
  have:=congrArg Int.natAbs h1
  simpa[Int.natAbs_mul] using this
 have hdvd:q.den ∣ D:=hc.symm.dvd_of_dvd_mul_left ⟨n.natAbs,by rw[h3,Nat.mul_comm]⟩
 refine⟨?_,Nat.le_of_dvd hD hdvd⟩
 obtain⟨m,rfl⟩:=hdvd
 have hm:0<m:=Nat.pos_of_mul_pos_left hD |> fun _=>by
  rcases Nat.eq_zero_or_pos m with e | e
  . subst e;simp at hD
  . exact e
 have h4:q.num.natAbs*m=n.natAbs:=by
  have hp:0<q.den:=q.den_pos
  refine Nat.eq_of_mul_eq_mul_right hp ?_
  rw[<-h3,Nat.mul_assoc,Nat.mul_comm m]
 have:q.num.natAbs<=q.num.natAbs*m:=Nat.le_mul_of_pos_right _ hm
 omega
theorem QD.common {K:Nat} (f:Nat->Rat):∀ n:Nat,(∀ i,i<n->(f i).num.natAbs<=K/\(f i).den<=K)->∃ D,0<D/\D<=K ^ n/\∀ i,i<n->QD D (K*D) (f i):=by
 intro n
 induction n with
 | zero=>intro _;exact⟨1,by omega,by simp,fun i hi=>absurd hi (by omega)⟩
 | succ n ih=>
  intro h
  obtain⟨D,d1,d2,d3⟩:=ih fun i hi=>h i (by omega)
  obtain⟨k1,k2⟩:=h n (by omega)
  have hp:0<(f n).den:=(f n).den_pos
  refine⟨D*(f n).den,Nat.mul_pos d1 hp,by rw[Nat.pow_succ];exact Nat.mul_le_mul d2 k2,fun i hi=>?_⟩
  rcases Nat.lt_or_ge i n with hlt | hge
  . have:=(d3 i hlt).scale (f n).den
    rwa [Nat.mul_assoc] at this
  . obtain rfl:i=n:=by omega
    have h0:QD (f i).den K (f i):=⟨(f i).num,by
     have hd:(((f i).den:Int):Rat)≠0:=by
      intro e
      rw[<-Rat.intCast_zero,Rat.intCast_inj] at e
      omega
     have hq:f i=((f i).num:Rat) / (((f i).den:Int):Rat):=q6t (f i)
     conv=>lhs;lhs;rw[hq]
     rw[Rat.div_def,Rat.mul_assoc,Rat.inv_mul_cancel _ hd,Rat.mul_one],k1⟩
    have:=h0.scale D
    rw[Nat.mul_comm (f i).den D] at this
    exact this.mono (by rw[<-Nat.mul_assoc];exact Nat.le_mul_of_pos_right _ hp)
theorem QD.fit {D B k:Nat} {q:Rat} (hD:0<D) (h:QD D B q) (h1:D<1073741824 ^ k) (h2:B<1073741824 ^ k):RFit k q/\Pf.B.RFit k q:=by
 obtain⟨g1,g2⟩:=h.div hD
 have hp:1073741824 ^ k<=4294967296 ^ k:=Nat.pow_le_pow_left (by decide) k
 have e1:((1073741824:Int) ^ k)=((1073741824 ^ k:Nat):Int):=by simp
 have e2:((4294967296:Int) ^ k)=((4294967296 ^ k:Nat):Int):=by simp
 have hd:=q.den_pos
 constructor
 . constructor
   . unfold Fit;rw[e2];omega
   . unfold Fit;rw[e2];omega
 . constructor
   . unfold Pf.B.Fit;rw[e1];omega
   . unfold Pf.B.Fit;rw[e1];omega
def sumQ (f:Nat->Rat):Nat->Rat
 | 0=>0
 | n+1=>sumQ f n+f n
theorem q06 {f g:Nat->Rat}:∀ n,(∀ i,i<n->f i=g i)->sumQ f n=sumQ g n
 | 0,_=>rfl
 | n+1,h=>by simp only[sumQ];rw[q06 n (fun i hi=>h i (by omega)),h n (by omega)]
theorem QD.sum {D B:Nat} {f:Nat->Rat}:∀ n,(∀ i,i<n->QD D B (f i))->QD D (n*B) (sumQ f n)
 | 0,_=>(QD.zero D 0).mono (by omega)
 | n+1,h=>by
  have:=(QD.sum n (fun i hi=>h i (by omega))).add (h n (by omega))
  rw[Nat.succ_mul];exact this
end Go.Proofs.Pf
namespace Go.Proofs.Pf
open Go Go.VM
theorem RV_r0:RV r0 0:=⟨⟨by decide,by decide,by decide⟩,.inr ⟨⟨by decide,by decide,by decide⟩,rfl⟩⟩
def RL (l:Option (List DR)) (f:Nat->Rat) (n:Nat):Prop:=(l.getD []).length=n/\∀ i,i<n->RV ((l.getD []).getD i r0) (f i)
theorem q05 {l:Option (List DR)} {i:Nat}:eltS r0 l (i:Int)=(l.getD []).getD i r0:=by simp only[eltS,Int.toNat_natCast]
theorem qaR {a b c:DR} {q r s:Rat} {k:Nat} (ha:RV a q) (hb:RV b r) (hc:RV c s) (f1:RFit k q) (f2:RFit k r) (f3:RFit k s) (f4:RFit k (r*s)) (hk:k+k+1<=1073741824):
 callV Pg q0a [⟨tER,a⟩,⟨tER,b⟩,⟨tER,c⟩] tER fun z=>RV z (q+r*s):=
 qmc a b c (RV_ex _) ((q2X longS hb hc f2 f3 (by omega)).mono fun _ h=>q2W longS ha h f1 f4 hk)
theorem s_sum {l:Option (List DR)} {f:Nat->Rat} {n k:Nat} (hl:RL l f n) (hn:n<=4611686018427387904) (f1:∀ i,i<n->RFit k (f i)) (f2:∀ i,i<=n->RFit k (sumQ f i)) (hk:k+k+1<=1073741824):
 callV Pg q1C [⟨(.sl tER),l⟩] tER fun z=>RV z (sumQ f n):=by
 obtain⟨h1,h2⟩:=hl
 refine qmb l (RV_ex _) (rangeB (n:=n) (fun i (x:DR×DR)=>(l,((n:Int),((i:Int),x)))) (fun i x=>RV x.2 (sumQ f i)) (r0,r0) (by subst h1;rfl) RV_r0 (fun p=>p.2.2.1.toNat) (fun _ _=>rfl) (fun _ _ _=>rfl) ?_ ?_)
 . intro k' i x hi hx hk'
   (try dsimp only)
   refine⟨in_s (by omega),?_⟩
   rw[q05]
   refine (q2W longS hx (h2 i hi) (f2 i (by omega)) (f1 i hi) hk).mono fun z hz=>?_
   rw[wi1 hi hn]
   exact hk' (x.1,z) hz
 . intro _ x hx
   exact hx
theorem RL.set {l:Option (List DR)} {f g:Nat->Rat} {n i:Nat} {z:DR} (h:RL l f n) (hi:i<n) (hz:RV z (g i)) (hg:∀ j,j<n->j≠i->g j=f j):RL (setO l i z) g n:=by
 obtain⟨h1,h2⟩:=h
 cases l with
 | none=>simp at h1;omega
 | some l=>
  have h1:l.length=n:=h1
  have h2:∀ i,i<n->RV (l.getD i r0) (f i):=h2
  refine⟨by show (l.set i z).length=n;simpa using h1,fun j hj=>?_⟩
  show RV ((l.set i z).getD j r0) (g j)
  by_cases e:j=i
  . subst e
    rw[List.getD_eq_getElem?_getD,List.getElem?_set_self (by omega)];exact hz
  . rw[List.getD_eq_getElem?_getD,List.getElem?_set_ne (fun h=>e h.symm),<-List.getD_eq_getElem?_getD,hg j hj e]
    exact h2 j hj
theorem RL.zero (n:Nat):RL (some (repS (n:Int) r0)) (fun _=>0) n:=by
 refine⟨by show (List.replicate (n:Int).toNat r0).length=n;simp,fun i hi=>?_⟩
 show RV ((List.replicate (n:Int).toNat r0).getD i r0) 0
 rw[List.getD_eq_getElem?_getD,List.getElem?_replicate,if_pos (by simpa using hi)]
 exact RV_r0
theorem RL.congr {l:Option (List DR)} {f g:Nat->Rat} {n:Nat} (h:RL l f n) (hg:∀ j,j<n->g j=f j):RL l g n:=⟨h.1,fun i hi=>by rw[hg i hi];exact h.2 i hi⟩
theorem RL.nil (f:Nat->Rat):RL none f 0:=⟨rfl,fun i hi=>absurd hi (by omega)⟩
theorem RL.app {l:Option (List DR)} {f:Nat->Rat} {n:Nat} {z:DR} (h:RL l f n) (hz:RV z (f n)):RL (appL l [z]) f (n+1):=by
 obtain⟨h1,h2⟩:=h
 have e:(appL l [z]).getD []=l.getD [] ++ [z]:=by cases l<;>rfl
 refine⟨by rw[e,List.length_append,h1];rfl,fun i hi=>?_⟩
 rw[e]
 rcases Nat.lt_or_ge i n with hlt | hge
 . rw[List.getD_eq_getElem?_getD,List.getElem?_append_left (by omega),<-List.getD_eq_getElem?_getD];exact h2 i hlt
 . obtain rfl:i=n:=by omega
   rw[List.getD_eq_getElem?_getD,List.getElem?_append_right (by omega),h1,Nat.sub_self];exact hz
theorem RL.ex (f:Nat->Rat) (n:Nat):∃ r,RL r f n:=by
 refine⟨some (tab (fun i=>(RV_ex (f i)).choose) n),tab_len _ _,fun i hi=>?_⟩
 show RV ((tab _ _).getD i r0) _
 rw[tab_get _ _ _ _ hi]
 exact (RV_ex (f i)).choose_spec
theorem RL.c8 {l:Option (List DR)} {f:Nat->Rat} {n:Nat} {z:DR} (h:RL l f n) (hn:n<=100000):appC 64 l (lst (some [z])):=by
 show ((l.getD []).length+1)*64<=140737488355328
 rw[h.1];omega
end Go.Proofs.Pf
namespace Go.Proofs.Pf
structure SPre (p q r s:Int):Prop where
 p0:0<p
 q0:0<q
 r0:0<r
 s0:0<s
 le:p*s<=r*q
theorem SPre.next {p q r s:Int} (h:SPre p q r s) (h1:¬ p % q=0) (h2:¬ (p / q+1)*s<=r):
 SPre s (r - p / q*s) q (p - p / q*q)/\r - p / q*s<s/\p - p / q*q<q:=by
 obtain⟨p0,q0,r0,s0,le⟩:=h
 have hd:=Int.mul_ediv_add_emod p q
 have hm0:=Int.emod_nonneg p (show q≠0 by omega)
 have hm1:=Int.emod_lt_of_pos p q0
 generalize p / q=n at *
 generalize p % q=m at *
 have e:p - n*q=m:=by rw[Int.mul_comm n q];omega
 have hr:0<r - n*s:=by
  have h3:q*(n*s)<q*r:=by
   have h4:p*s=q*(n*s)+m*s:=by rw[<-hd,Int.add_mul,Int.mul_assoc]
   have h5:0<m*s:=Int.mul_pos (by omega) s0
   rw[Int.mul_comm q r];omega
  have:=Int.lt_of_mul_lt_mul_left h3 (by omega)
  omega
 rw[e]
 refine⟨⟨s0,hr,q0,by omega,?_⟩,?_,hm1⟩
 . rw[Int.mul_sub,<-e];grind
 . rw[Int.add_mul,Int.one_mul] at h2;omega
theorem q7n (n:Int) {m:Int} (hm:0<m):(Rat.divInt n m).num*m=n*((Rat.divInt n m).den:Int)/\(Rat.divInt n m).num.natAbs<=n.natAbs/\(Rat.divInt n m).den<=m.natAbs:=by
 have e:sgn m=1:=if_pos hm
 have h1:=q5s n m (by omega)
 have h2:=q5r n m (by omega)
 rw[e,Int.one_mul] at h1 h2
 have d1:((Int.gcd n m:Nat):Int) ∣ n:=Int.gcd_dvd_left ..
 have d2:((Int.gcd n m:Nat):Int) ∣ m:=Int.gcd_dvd_right ..
 have c1:=Int.mul_tdiv_cancel' d1
 have c2:=Int.mul_tdiv_cancel' d2
 refine⟨?_,?_,?_⟩
 . rw[h1,h2]
   generalize ((Int.gcd n m:Nat):Int)=g at *
   conv=>lhs;rw[<-c2]
   conv=>rhs;rw[<-c1]
   grind
 . rw[h1,Int.natAbs_tdiv];exact Nat.div_le_self _ _
 . have:((Rat.divInt n m).den:Int).natAbs<=m.natAbs:=by rw[h2,Int.natAbs_tdiv];exact Nat.div_le_self _ _
   omega
end Go.Proofs.Pf
namespace Go.Proofs.Pf.B
open Go Go.VM
theorem sgn_pos {n:Int}:0<sgn n↔0<n:=by
 rcases sgn3 n with ⟨e,h⟩ | ⟨e,h⟩ | ⟨e,h⟩<;>rw[e]<;>constructor<;>intro<;>omega
end Go.Proofs.Pf.B
namespace Go.Proofs.Pf.B
open Go Go.VM
theorem pfit_add {q r:Rat} {k j:Nat} (h:Pf.RFit k q) (g:Pf.RFit j r):Pf.RFit (k+j+1) (q+r):=by
 have hq:=q.den_nz
 have hr:=r.den_nz
 rw[q4T]
 obtain⟨_,h1,h2⟩:=q7n (q.num*(r.den:Int)+r.num*(q.den:Int)) (show 0<(q.den:Int)*(r.den:Int) from Int.mul_pos (by omega) (by omega))
 exact⟨((h.1.mul g.2 (Nat.le_refl _)).add (g.1.mul h.2 (Nat.le_of_eq (Nat.add_comm _ _))) (Nat.lt_succ_self _)).of h1,((h.2.mul g.2 (Nat.le_refl _)).mono (Nat.le_succ _)).of (by omega)⟩
theorem rfit_add {q r:Rat} {k j:Nat} (h:RFit k q) (g:RFit j r):RFit (k+j+1) (q+r):=by
 have hq:=q.den_nz
 have hr:=r.den_nz
 rw[q4T]
 obtain⟨_,h1,h2⟩:=q7n (q.num*(r.den:Int)+r.num*(q.den:Int)) (show 0<(q.den:Int)*(r.den:Int) from Int.mul_pos (by omega) (by omega))
 exact⟨((h.1.mul g.2 (Nat.le_refl _)).add (g.1.mul h.2 (Nat.le_of_eq (Nat.add_comm _ _))) (Nat.lt_succ_self _)).of h1,((h.2.mul g.2 (Nat.le_refl _)).mono (Nat.le_succ _)).of (by omega)⟩
theorem zero_rv:RV (((0:Int),none),((0:Int),none)) (0:Rat):=⟨⟨rfl,by decide,by decide⟩,.inr ⟨⟨rfl,by decide,by decide⟩,rfl⟩⟩
theorem zero_pfit:Pf.RFit 1 (0:Rat):=by unfold Pf.RFit Pf.Fit;decide
theorem zero_rfit:RFit 1 (0:Rat):=by unfold RFit Fit;decide
theorem r_Same (l m:Option (List (Int×Int))) (he:m.getD []=l.getD []) (hl:(l.getD []).length<=200):callV Pg q2G [⟨(.sl tNum),l⟩,⟨(.sl tNum),m⟩] .bool fun r=>r=true:=by
 refine ql0 l m ⟨_,rfl⟩ (q00.2 ⟨fun h=>?_,fun _=>?_⟩)
 . have h:¬ ((l.getD []).length:Int)=((m.getD []).length:Int):=not_t h
   rw[he] at h;exact absurd rfl h
 refine loopE (fun p=>∃ j:Nat,p=(l,m,((l.getD []).length:Int),(j:Int))/\j<=(l.getD []).length) (fun p=>(l.getD []).length - p.2.2.2.toNat) ⟨0,rfl,by omega⟩ ?_
 rintro _ ⟨j,rfl,hj⟩
 dsimp only
 refine q00.2 ⟨fun hc=>?_,fun _=>rfl⟩
 have hc:(j:Int)<((l.getD []).length:Int):=dec_t hc
 have e:eltS ((0:Int),(0:Int)) m (j:Int)=eltS ((0:Int),(0:Int)) l (j:Int):=by simp only[eltS,he]
 refine⟨⟨by omega,by omega⟩,⟨by omega,by rw[he];omega⟩,?_⟩
 rw[e,eqNum]
 refine q00.2 ⟨fun h=>absurd rfl (not_t h),fun _=>?_⟩
 rw[wi64 (by omega) (by omega)]
 exact⟨⟨j+1,rfl,by omega⟩,by omega⟩
end Go.Proofs.Pf.B
namespace Go.Proofs.Pf.B
open Go Go.VM
abbrev br (l:List DBr) (i:Nat):DBr:=l.getD i (0,(0,0))
def preTo (l:List DBr):Nat->Int
 | 0=>-1
 | i+1=>(br l i).1
def brOk (n:Int) (l:List DBr) (i:Nat):Prop:=preTo l i<(br l i).1/\(br l i).1<n/\NumOk (br l i).2/\0<(br l i).2.1
instance (n:Int) (l:List DBr) (i:Nat):Decidable (brOk n l i):=by unfold brOk;infer_instance
def sumR (l:List DBr):Nat->Rat
 | 0=>0
 | i+1=>sumR l i+numQ (br l i).2
def chOk (n:Int) (c:DCh):Prop:=NumOk c.1/\(1<=(c.2.getD []).length/\(c.2.getD []).length<=8)/\(∀ i,i<(c.2.getD []).length->brOk n (c.2.getD []) i)/\sumR (c.2.getD []) (c.2.getD []).length=1
instance (n:Int) (c:DCh):Decidable (chOk n c):=by unfold chOk;infer_instance
theorem pre_le {n:Int} {l:List DBr}:∀ {i:Nat},(∀ j,j<i->brOk n l j)->-1<=preTo l i
 | 0,_=>by simp[preTo]
 | i+1,h=>by
  have h1:=(h i (by omega)).1
  have h2:=pre_le (i:=i) fun j hj=>h j (by omega)
  show -1<=(br l i).1
  omega
theorem qaW {q:Rat}:sgn (q - 1).num=0↔q=1:=by
 constructor
 . intro h
   have h0:(q - 1).num=0:=by
    unfold sgn at h
    repeat' split at h
    all_goals omega
   have h1:q - 1=0:=Rat.num_eq_zero.1 h0
   have h2:q - 1+1=0+1:=by rw[h1]
   rwa [Rat.sub_add_cancel,Rat.zero_add] at h2
 . rintro rfl
   rw[Rat.sub_self];rfl
theorem q29 {l:Option (List DBr)} {i:Nat}:eltS ((0:Int),((0:Int),(0:Int))) l (i:Int)=br (l.getD []) i:=by simp only[eltS,Int.toNat_natCast]
theorem qap:Pf.RFit 1 (1:Rat):=by unfold Pf.RFit Pf.Fit;decide
theorem s_choice (n:Int) (c:DCh):callV Pg q3m [⟨tI,n⟩,⟨tCh,c⟩] .bool fun r=>r=decide (chOk n c):=by
 refine qky n c ⟨_,rfl⟩ (joinR (fun p=>∃ b:Bool,p=(n,(b,c))/\(b=true->¬ chOk n c)/\(b=false->NumOk c.1/\(1<=(c.2.getD []).length/\(c.2.getD []).length<=8))) ?_ ?_)
 . rintro _ ⟨b,rfl,h1,h2⟩
   dsimp only
   refine q00.2 ⟨fun h=>(decide_eq_false (h1 h)).symm,fun h=>?_⟩
   obtain⟨g1,g2,g3⟩:=h2 h
   refine loopE (fun p=>∃ (i:Nat) (x:_),p=(n,(preTo (c.2.getD []) i,(c.2,(((c.2.getD []).length:Int),((i:Int),x)))))/\i<=(c.2.getD []).length/\(∀ j,j<i->brOk n (c.2.getD []) j)/\RV x (sumR (c.2.getD []) i)/\Pf.RFit (3*i+1) (sumR (c.2.getD []) i)) (fun p=>(c.2.getD []).length - p.2.2.2.2.1.toNat)
    ⟨0,(((0:Int),none),((0:Int),none)),rfl,by omega,fun j h=>by omega,zero_rv,zero_pfit⟩ ?_
   rintro _ ⟨i,x,rfl,hi,hall,hx,fx⟩
   dsimp only
   refine q00.2 ⟨fun hc=>?_,fun hc=>?_⟩
   . have hc:(i:Int)<((c.2.getD []).length:Int):=dec_t hc
     rw[q29]
     refine⟨⟨by omega,by omega⟩,?_⟩
     refine joinR (fun p=>∃ b:Bool,p=(n,(c.2,(((c.2.getD []).length:Int),((i:Int),(b,(x,br (c.2.getD []) i))))))/\(b=true->¬ brOk n (c.2.getD []) i)/\(b=false->brOk n (c.2.getD []) i)) ?_ ?_
     . rintro _ ⟨b,rfl,k1,k2⟩
       dsimp only
       refine q00.2 ⟨fun h=>(decide_eq_false fun hq=>k1 h (hq.2.2.1 i (by omega))).symm,fun h=>?_⟩
       have hb:=k2 h
       have o1:=hb.2.2.1
       refine (s_Rat longS o1).mono fun p4 h4=>?_
       refine (q2W longS hx h4 (fx.mono (show 3*i+1<=100 by omega)) (o1.fit.mono (by decide)) (by decide)).mono fun p5 h5=>?_
       rw[wi64 (by omega) (by omega)]
       refine⟨⟨i+1,p5,rfl,by omega,fun j hj=>?_,h5,(pfit_add fx o1.fit).mono (by omega)⟩,by omega⟩
       rcases Nat.lt_or_ge j i with q | q
       . exact hall j q
       . obtain rfl:j=i:=by omega
         exact hb
     . intro k hk
       refine q00.2 ⟨fun h=>hk _ ⟨true,rfl,fun _ hq=>?_,fun h=>by cases h⟩,fun h=>?_⟩
       . have h:=dec_t h;have:=hq.1;omega
       have e1:=dec_f h
       refine q00.2 ⟨fun h=>hk _ ⟨true,rfl,fun _ hq=>?_,fun h=>by cases h⟩,fun h=>?_⟩
       . have h:=dec_t h;have:=hq.2.1;omega
       have e2:=dec_f h
       refine (q6L longS _).mono ?_
       rintro _ rfl
       refine q00.2 ⟨fun h=>hk _ ⟨true,rfl,fun _ hq=>not_t h hq.2.2.1,fun h=>by cases h⟩,fun h=>?_⟩
       have e3:=not_f h
       refine hk _ ⟨_,rfl,fun h hq=>?_,fun h=>⟨by omega,by omega,e3,?_⟩⟩
       . have h:=dec_t h;have:=hq.2.2.2;omega
       . have h:=dec_f h;omega
   . have hc:¬ (i:Int)<((c.2.getD []).length:Int):=dec_f hc
     obtain rfl:i=(c.2.getD []).length:=by omega
     refine (q5D (n:=1) (by decide) (by decide)).mono fun p3 h3=>?_
     refine (q5A hx h3 (fx.mono (show 3*(c.2.getD []).length+1<=100 by omega)) (qap.mono (by decide)) (by decide)).mono ?_
     rintro _ rfl
     have e:decide (sgn (sumR (c.2.getD []) (c.2.getD []).length - ((1:Int):Rat)).num=(0:Int))=decide (chOk n c):=by
      rw[decide_eq_decide]
      exact qaW.trans ⟨fun h=>⟨g1,⟨g2,g3⟩,hall,h⟩,fun h=>h.2.2.2⟩
     exact e
 . intro k hk
   refine (q6L longS _).mono ?_
   rintro _ rfl
   refine q00.2 ⟨fun h=>hk _ ⟨true,rfl,fun _ hq=>not_t h hq.1,fun h=>by cases h⟩,fun h=>?_⟩
   have e1:=not_f h
   refine q00.2 ⟨fun h=>hk _ ⟨true,rfl,fun _ hq=>?_,fun h=>by cases h⟩,fun h=>?_⟩
   . have h:((c.2.getD []).length:Int)<1:=dec_t h
     have:=hq.2.1.1;omega
   have e2:¬ ((c.2.getD []).length:Int)<1:=dec_f h
   refine hk _ ⟨_,rfl,fun h hq=>?_,fun h=>⟨e1,by omega,?_⟩⟩
   . have h:(8:Int)<((c.2.getD []).length:Int):=dec_t h
     have:=hq.2.1.2;omega
   . have h:¬ (8:Int)<((c.2.getD []).length:Int):=dec_f h
     omega
end Go.Proofs.Pf.B
namespace Go.Proofs.Pf.B
open Go Go.VM
theorem one_rrf:RFit 1 (1:Rat):=by unfold RFit Fit;decide
theorem r_choice (n:Int) (c:DCh) (hn0:0<=n):callV Pg q3B [⟨tCh,c⟩,⟨tI,n⟩] .bool fun r=>r=decide (chOk n c):=by
 refine qli c n ⟨_,rfl⟩ (joinR (fun p=>∃ b:Bool,p=(n,(b,c))/\(b=true->¬ chOk n c)/\(b=false->NumOk c.1/\(1<=(c.2.getD []).length/\(c.2.getD []).length<=8))) ?_ ?_)
 . rintro _ ⟨b,rfl,h1,h2⟩
   dsimp only
   refine q00.2 ⟨fun h=>(decide_eq_false (h1 h)).symm,fun h=>?_⟩
   obtain⟨g1,g2,g3⟩:=h2 h
   refine (q13 (n:=0) (by decide) (by decide)).mono fun p1 hp1=>?_
   refine loopE (fun p=>∃ (i:Nat) (x:_),p=(n,(c.2,(((c.2.getD []).length:Int),((i:Int),(c,x)))))/\i<=(c.2.getD []).length/\(∀ j,j<i->brOk n (c.2.getD []) j)/\RRV x (sumR (c.2.getD []) i)/\RFit (4*i+1) (sumR (c.2.getD []) i)) (fun p=>(c.2.getD []).length - p.2.2.2.1.toNat)
    ⟨0,p1,rfl,by omega,fun j h=>by omega,hp1,zero_rfit⟩ ?_
   rintro _ ⟨i,x,rfl,hi,hall,hx,fx⟩
   dsimp only
   refine q00.2 ⟨fun hc=>?_,fun hc=>?_⟩
   . have hc:(i:Int)<((c.2.getD []).length:Int):=dec_t hc
     rw[q29]
     refine⟨⟨by omega,by omega⟩,?_⟩
     refine joinR (fun p=>∃ b:Bool,p=(n,(c.2,(((c.2.getD []).length:Int),((i:Int),(b,(c,(x,br (c.2.getD []) i)))))))/\(b=true->¬ brOk n (c.2.getD []) i)/\(b=false->brOk n (c.2.getD []) i)) ?_ ?_
     . rintro _ ⟨b,rfl,k1,k2⟩
       dsimp only
       refine q00.2 ⟨fun h=>(decide_eq_false fun hq=>k1 h (hq.2.2.1 i (by omega))).symm,fun h=>?_⟩
       have hb:=k2 h
       have o1:=hb.2.2.1
       refine (r_To o1).mono fun p5 h5=>?_
       refine (q4h hx h5 (fx.mono (show 4*i+1<=100 by omega)) ((ok_fit o1).mono (by decide)) (by decide)).mono fun p6 h6=>?_
       rw[wi64 (by omega) (by omega)]
       refine⟨⟨i+1,p6,rfl,by omega,fun j hj=>?_,h6,(rfit_add fx (ok_fit o1)).mono (by omega)⟩,by omega⟩
       rcases Nat.lt_or_ge j i with q | q
       . exact hall j q
       . obtain rfl:j=i:=by omega
         exact hb
     . intro k hk
       have hpre:=pre_le hall
       refine q00.2 ⟨fun h=>hk _ ⟨true,rfl,fun _ hq=>?_,fun h=>by cases h⟩,fun h=>?_⟩
       . have h:=dec_t h;have:=hq.1;omega
       have e1:=dec_f h
       refine q00.2 ⟨fun h=>hk _ ⟨true,rfl,fun _ hq=>?_,fun h=>by cases h⟩,fun h=>?_⟩
       . have h:=dec_t h;have:=hq.2.1;omega
       have e2:=dec_f h
       have fin:preTo (c.2.getD []) i<(br (c.2.getD []) i).1->callV Pg q1c [⟨tNum,(br (c.2.getD []) i).2⟩] .bool (fun p5=>(brV (notB p5) (k (n,(c.2,(((c.2.getD []).length:Int),((i:Int),(true,(c,(x,br (c.2.getD []) i)))))))) (k (n,(c.2,(((c.2.getD []).length:Int),((i:Int),(decide ((br (c.2.getD []) i).2.1<=(0:Int)),(c,(x,br (c.2.getD []) i)))))))))):=by
        intro hlt
        refine (q6C _).mono ?_
        rintro _ rfl
        refine q00.2 ⟨fun h=>hk _ ⟨true,rfl,fun _ hq=>not_t h hq.2.2.1,fun h=>by cases h⟩,fun h=>?_⟩
        have e3:=not_f h
        refine hk _ ⟨_,rfl,fun h hq=>?_,fun h=>⟨hlt,by omega,e3,?_⟩⟩
        . have h:=dec_t h;have:=hq.2.2.2;omega
        . have h:=dec_f h;omega
       refine q00.2 ⟨fun h=>?_,fun h=>?_⟩
       . have h:=dec_t h
         obtain⟨j,rfl⟩:∃ j,i=j+1:=⟨i - 1,by omega⟩
         rw[wi64 (by omega) (by omega),show ((j+1:Nat):Int) - 1=(j:Int) by omega,q29]
         refine⟨⟨by omega,by omega⟩,q00.2 ⟨fun h'=>hk _ ⟨true,rfl,fun _ hq=>?_,fun h=>by cases h⟩,fun h'=>?_⟩⟩
         . have h':=dec_t h';have:(br (c.2.getD []) j).1<_:=hq.1;omega
         . have h':=dec_f h'
           exact fin (show (br (c.2.getD []) j).1<_ by omega)
       . have h:=dec_f h
         obtain rfl:i=0:=by omega
         exact fin (show (-1:Int)<_ by omega)
   . have hc:¬ (i:Int)<((c.2.getD []).length:Int):=dec_f hc
     obtain rfl:i=(c.2.getD []).length:=by omega
     refine (q13 (n:=1) (by decide) (by decide)).mono fun p3 h3=>?_
     refine (q4S hx h3 (fx.mono (show 4*(c.2.getD []).length+1<=100 by omega)) (one_rrf.mono (by decide)) (by decide)).mono ?_
     rintro _ rfl
     have e:decide (sgn (sumR (c.2.getD []) (c.2.getD []).length - ((1:Int):Rat)).num=(0:Int))=decide (chOk n c):=by
      rw[decide_eq_decide]
      exact qaW.trans ⟨fun h=>⟨g1,⟨g2,g3⟩,hall,h⟩,fun h=>h.2.2.2⟩
     exact e
 . intro k hk
   refine (q6C _).mono ?_
   rintro _ rfl
   refine q00.2 ⟨fun h=>hk _ ⟨true,rfl,fun _ hq=>not_t h hq.1,fun h=>by cases h⟩,fun h=>?_⟩
   have e1:=not_f h
   refine q00.2 ⟨fun h=>hk _ ⟨true,rfl,fun _ hq=>?_,fun h=>by cases h⟩,fun h=>?_⟩
   . have h:((c.2.getD []).length:Int)<1:=dec_t h
     have:=hq.2.1.1;omega
   have e2:¬ ((c.2.getD []).length:Int)<1:=dec_f h
   refine hk _ ⟨_,rfl,fun h hq=>?_,fun h=>⟨e1,by omega,?_⟩⟩
   . have h:(8:Int)<((c.2.getD []).length:Int):=dec_t h
     have:=hq.2.1.2;omega
   . have h:¬ (8:Int)<((c.2.getD []).length:Int):=dec_f h
     omega
abbrev ch (l:List DCh) (i:Nat):DCh:=l.getD i (((0,0),none))
abbrev stt (l:List DSt) (i:Nat):DSt:=l.getD i (0,(0,none))
def stHead (s:DSt):Prop:=(0<=s.1/\s.1<=1)/\(0<=s.2.1/\s.2.1<=63)/\(1<=(s.2.2.getD []).length/\(s.2.2.getD []).length<=8)
instance (s:DSt):Decidable (stHead s):=by unfold stHead;infer_instance
def stOk (n:Int) (s:DSt):Prop:=stHead s/\∀ j,j<(s.2.2.getD []).length->chOk n (ch (s.2.2.getD []) j)
instance (n:Int) (s:DSt):Decidable (stOk n s):=by unfold stOk;infer_instance
def moOk (m:DMo):Prop:=(1<=(m.getD []).length/\(m.getD []).length<=40)/\∀ i,i<(m.getD []).length->stOk (m.getD []).length (stt (m.getD []) i)
instance (m:DMo):Decidable (moOk m):=by unfold moOk;infer_instance
theorem q0s {l:Option (List DSt)} {i:Nat}:eltS ((0:Int),((0:Int),none)) l (i:Int)=stt (l.getD []) i:=by simp only[eltS,Int.toNat_natCast]
theorem q68 {l:Option (List DCh)} {i:Nat}:eltS (((0:Int),(0:Int)),none) l (i:Int)=ch (l.getD []) i:=by simp only[eltS,Int.toNat_natCast]
theorem qaM (m:DMo):callV Pg q2A [⟨tMo,m⟩] .bool fun r=>r=decide (moOk m):=by
 refine qkx m ⟨_,rfl⟩ (joinR (fun p=>∃ b:Bool,p=(((m.getD []).length:Int),(b,m))/\(b=true->¬ moOk m)/\(b=false->1<=(m.getD []).length/\(m.getD []).length<=40)) ?_ ?_)
 . rintro _ ⟨b,rfl,h1,h2⟩
   dsimp only
   refine q00.2 ⟨fun h=>(decide_eq_false (h1 h)).symm,fun h=>?_⟩
   obtain⟨g1,g2⟩:=h2 h
   refine loopE (fun p=>∃ i:Nat,p=(((m.getD []).length:Int),(m,(((m.getD []).length:Int),(i:Int))))/\i<=(m.getD []).length/\(∀ j,j<i->stOk (m.getD []).length (stt (m.getD []) j))) (fun p=>(m.getD []).length - p.2.2.2.toNat)
    ⟨0,rfl,by omega,fun j h=>by omega⟩ ?_
   rintro _ ⟨i,rfl,hi,hall⟩
   dsimp only
   refine q00.2 ⟨fun hc=>?_,fun hc=>?_⟩
   . have hc:(i:Int)<((m.getD []).length:Int):=dec_t hc
     rw[q0s]
     have no:¬ stHead (stt (m.getD []) i)->¬ moOk m:=fun h hq=>h (hq.2 i (by omega)).1
     refine⟨⟨by omega,by omega⟩,joinR (fun p=>∃ b:Bool,p=(((m.getD []).length:Int),(m,(((m.getD []).length:Int),((i:Int),(b,stt (m.getD []) i)))))/\(b=true->¬ moOk m)/\(b=false->stHead (stt (m.getD []) i))) ?_ ?_⟩
     . rintro _ ⟨b,rfl,k1,k2⟩
       dsimp only
       refine q00.2 ⟨fun h=>(decide_eq_false (k1 h)).symm,fun h=>?_⟩
       have hh:=k2 h
       obtain⟨_,_,c1,c2⟩:=id hh
       refine loopE (fun p=>∃ j:Nat,p=(((m.getD []).length:Int),(m,(((m.getD []).length:Int),((i:Int),((stt (m.getD []) i).2.2,((((stt (m.getD []) i).2.2.getD []).length:Int),(j:Int)))))))/\j<=((stt (m.getD []) i).2.2.getD []).length/\(∀ k,k<j->chOk (m.getD []).length (ch ((stt (m.getD []) i).2.2.getD []) k)))
        (fun p=>((stt (m.getD []) i).2.2.getD []).length - p.2.2.2.2.2.2.toNat) ⟨0,rfl,by omega,fun j h=>by omega⟩ ?_
       rintro _ ⟨j,rfl,hj,hch⟩
       dsimp only
       refine q00.2 ⟨fun hd=>?_,fun hd=>?_⟩
       . have hd:(j:Int)<(((stt (m.getD []) i).2.2.getD []).length:Int):=dec_t hd
         rw[q68]
         refine⟨⟨by omega,by omega⟩,(s_choice _ _).mono ?_⟩
         rintro _ rfl
         refine q00.2 ⟨fun h=>(decide_eq_false fun hq=>not_t h ((hq.2 i (by omega)).2 j (by omega))).symm,fun h=>?_⟩
         have h3:=not_f h
         rw[wi64 (by omega) (by omega)]
         refine⟨⟨j+1,rfl,by omega,fun k hk=>?_⟩,by omega⟩
         rcases Nat.lt_or_ge k j with q | q
         . exact hch k q
         . obtain rfl:k=j:=by omega
           exact h3
       . have hd:¬ (j:Int)<(((stt (m.getD []) i).2.2.getD []).length:Int):=dec_f hd
         obtain rfl:j=((stt (m.getD []) i).2.2.getD []).length:=by omega
         rw[wi64 (by omega) (by omega)]
         refine⟨⟨i+1,rfl,by omega,fun k hk=>?_⟩,by omega⟩
         rcases Nat.lt_or_ge k i with q | q
         . exact hall k q
         . obtain rfl:k=i:=by omega
           exact⟨hh,hch⟩
     . intro k hk
       refine q00.2 ⟨fun h=>hk _ ⟨true,rfl,fun _=>no fun hq=>?_,fun h=>by cases h⟩,fun h=>?_⟩
       . have h:=dec_t h;have:=hq.1;omega
       have e1:=dec_f h
       refine q00.2 ⟨fun h=>hk _ ⟨true,rfl,fun _=>no fun hq=>?_,fun h=>by cases h⟩,fun h=>?_⟩
       . have h:=dec_t h;have:=hq.1;omega
       have e2:=dec_f h
       refine q00.2 ⟨fun h=>hk _ ⟨true,rfl,fun _=>no fun hq=>?_,fun h=>by cases h⟩,fun h=>?_⟩
       . have h:=dec_t h;have:=hq.2.1;omega
       have e3:=dec_f h
       refine q00.2 ⟨fun h=>hk _ ⟨true,rfl,fun _=>no fun hq=>?_,fun h=>by cases h⟩,fun h=>?_⟩
       . have h:=dec_t h;have:=hq.2.1;omega
       have e4:=dec_f h
       refine q00.2 ⟨fun h=>hk _ ⟨true,rfl,fun _=>no fun hq=>?_,fun h=>by cases h⟩,fun h=>?_⟩
       . have h:(((stt (m.getD []) i).2.2.getD []).length:Int)<1:=dec_t h
         have:=hq.2.2;omega
       have e5:¬ (((stt (m.getD []) i).2.2.getD []).length:Int)<1:=dec_f h
       refine hk _ ⟨_,rfl,fun h=>no fun hq=>?_,fun h=>⟨⟨by omega,by omega⟩,⟨by omega,by omega⟩,⟨by omega,?_⟩⟩⟩
       . have h:(8:Int)<(((stt (m.getD []) i).2.2.getD []).length:Int):=dec_t h
         have:=hq.2.2;omega
       . have h:¬ (8:Int)<(((stt (m.getD []) i).2.2.getD []).length:Int):=dec_f h
         omega
   . have hc:¬ (i:Int)<((m.getD []).length:Int):=dec_f hc
     obtain rfl:i=(m.getD []).length:=by omega
     exact (decide_eq_true ⟨⟨g1,g2⟩,hall⟩).symm
 . intro k hk
   refine q00.2 ⟨fun h=>hk _ ⟨true,rfl,fun _ hq=>?_,fun h=>by cases h⟩,fun h=>?_⟩
   . have h:((m.getD []).length:Int)<1:=dec_t h
     have:=hq.1;omega
   have e5:¬ ((m.getD []).length:Int)<1:=dec_f h
   refine hk _ ⟨_,rfl,fun h hq=>?_,fun h=>⟨by omega,?_⟩⟩
   . have h:(40:Int)<((m.getD []).length:Int):=dec_t h
     have:=hq.1;omega
   . have h:¬ (40:Int)<((m.getD []).length:Int):=dec_f h
     omega
theorem r_MValid (m:DMo):callV Pg q3A [⟨tMo,m⟩] .bool fun r=>r=decide (moOk m):=by
 refine qlh m ⟨_,rfl⟩ (joinR (fun p=>∃ b:Bool,p=(b,m)/\(b=true->¬ moOk m)/\(b=false->1<=(m.getD []).length/\(m.getD []).length<=40)) ?_ ?_)
 . rintro _ ⟨b,rfl,h1,h2⟩
   dsimp only
   refine q00.2 ⟨fun h=>(decide_eq_false (h1 h)).symm,fun h=>?_⟩
   obtain⟨g1,g2⟩:=h2 h
   refine loopE (fun p=>∃ i:Nat,p=(m,(((m.getD []).length:Int),((i:Int),m)))/\i<=(m.getD []).length/\(∀ j,j<i->stOk (m.getD []).length (stt (m.getD []) j))) (fun p=>(m.getD []).length - p.2.2.1.toNat)
    ⟨0,rfl,by omega,fun j h=>by omega⟩ ?_
   rintro _ ⟨i,rfl,hi,hall⟩
   dsimp only
   refine q00.2 ⟨fun hc=>?_,fun hc=>?_⟩
   . have hc:(i:Int)<((m.getD []).length:Int):=dec_t hc
     rw[q0s]
     have no:¬ stHead (stt (m.getD []) i)->¬ moOk m:=fun h hq=>h (hq.2 i (by omega)).1
     refine⟨⟨by omega,by omega⟩,joinR (fun p=>∃ b:Bool,p=(m,(((m.getD []).length:Int),((i:Int),(b,(m,stt (m.getD []) i)))))/\(b=true->¬ moOk m)/\(b=false->stHead (stt (m.getD []) i))) ?_ ?_⟩
     . rintro _ ⟨b,rfl,k1,k2⟩
       dsimp only
       refine q00.2 ⟨fun h=>(decide_eq_false (k1 h)).symm,fun h=>?_⟩
       have hh:=k2 h
       obtain⟨_,_,c1,c2⟩:=id hh
       refine loopE (fun p=>∃ j:Nat,p=(m,(((m.getD []).length:Int),((i:Int),((stt (m.getD []) i).2.2,((((stt (m.getD []) i).2.2.getD []).length:Int),((j:Int),m))))))/\j<=((stt (m.getD []) i).2.2.getD []).length/\(∀ k,k<j->chOk (m.getD []).length (ch ((stt (m.getD []) i).2.2.getD []) k)))
        (fun p=>((stt (m.getD []) i).2.2.getD []).length - p.2.2.2.2.2.1.toNat) ⟨0,rfl,by omega,fun j h=>by omega⟩ ?_
       rintro _ ⟨j,rfl,hj,hch⟩
       dsimp only
       refine q00.2 ⟨fun hd=>?_,fun hd=>?_⟩
       . have hd:(j:Int)<(((stt (m.getD []) i).2.2.getD []).length:Int):=dec_t hd
         rw[q68]
         refine⟨⟨by omega,by omega⟩,(r_choice ((m.getD []).length:Int) _ (by omega)).mono ?_⟩
         rintro _ rfl
         refine q00.2 ⟨fun h=>(decide_eq_false fun hq=>not_t h ((hq.2 i (by omega)).2 j (by omega))).symm,fun h=>?_⟩
         have h3:=not_f h
         rw[wi64 (by omega) (by omega)]
         refine⟨⟨j+1,rfl,by omega,fun k hk=>?_⟩,by omega⟩
         rcases Nat.lt_or_ge k j with q | q
         . exact hch k q
         . obtain rfl:k=j:=by omega
           exact h3
       . have hd:¬ (j:Int)<(((stt (m.getD []) i).2.2.getD []).length:Int):=dec_f hd
         obtain rfl:j=((stt (m.getD []) i).2.2.getD []).length:=by omega
         rw[wi64 (by omega) (by omega)]
         refine⟨⟨i+1,rfl,by omega,fun k hk=>?_⟩,by omega⟩
         rcases Nat.lt_or_ge k i with q | q
         . exact hall k q
         . obtain rfl:k=i:=by omega
           exact⟨hh,hch⟩
     . intro k hk
       refine q00.2 ⟨fun h=>hk _ ⟨true,rfl,fun _=>no fun hq=>?_,fun h=>by cases h⟩,fun h=>?_⟩
       . have h:=dec_t h;have:=hq.1;omega
       have e1:=dec_f h
       refine q00.2 ⟨fun h=>hk _ ⟨true,rfl,fun _=>no fun hq=>?_,fun h=>by cases h⟩,fun h=>?_⟩
       . have h:=dec_t h;have:=hq.1;omega
       have e2:=dec_f h
       refine q00.2 ⟨fun h=>hk _ ⟨true,rfl,fun _=>no fun hq=>?_,fun h=>by cases h⟩,fun h=>?_⟩
       . have h:=dec_t h;have:=hq.2.1;omega
       have e3:=dec_f h
       refine q00.2 ⟨fun h=>hk _ ⟨true,rfl,fun _=>no fun hq=>?_,fun h=>by cases h⟩,fun h=>?_⟩
       . have h:=dec_t h;have:=hq.2.1;omega
       have e4:=dec_f h
       refine q00.2 ⟨fun h=>hk _ ⟨true,rfl,fun _=>no fun hq=>?_,fun h=>by cases h⟩,fun h=>?_⟩
       . have h:(((stt (m.getD []) i).2.2.getD []).length:Int)<1:=dec_t h
         have:=hq.2.2;omega
       have e5:¬ (((stt (m.getD []) i).2.2.getD []).length:Int)<1:=dec_f h
       refine hk _ ⟨_,rfl,fun h=>no fun hq=>?_,fun h=>⟨⟨by omega,by omega⟩,⟨by omega,by omega⟩,⟨by omega,?_⟩⟩⟩
       . have h:(8:Int)<(((stt (m.getD []) i).2.2.getD []).length:Int):=dec_t h
         have:=hq.2.2;omega
       . have h:¬ (8:Int)<(((stt (m.getD []) i).2.2.getD []).length:Int):=dec_f h
         omega
   . have hc:¬ (i:Int)<((m.getD []).length:Int):=dec_f hc
     obtain rfl:i=(m.getD []).length:=by omega
     exact (decide_eq_true ⟨⟨g1,g2⟩,hall⟩).symm
 . intro k hk
   refine q00.2 ⟨fun h=>hk _ ⟨true,rfl,fun _ hq=>?_,fun h=>by cases h⟩,fun h=>?_⟩
   . have h:((m.getD []).length:Int)<1:=dec_t h
     have:=hq.1;omega
   have e5:¬ ((m.getD []).length:Int)<1:=dec_f h
   refine hk _ ⟨_,rfl,fun h hq=>?_,fun h=>⟨by omega,?_⟩⟩
   . have h:(40:Int)<((m.getD []).length:Int):=dec_t h
     have:=hq.1;omega
   . have h:¬ (40:Int)<((m.getD []).length:Int):=dec_f h
     omega
end Go.Proofs.Pf.B
namespace Go.Proofs.Pf.B
open Go Go.VM
def seenQ (m:DMo) (x:Nat->Rat) (mark:Int) (s:Nat):Rat:=if (stt (m.getD []) s).2.1=mark then x s else 0
theorem q5G {m:DMo} {l:Option (List DR)} {f:Nat->Rat} {mark:Int} (hl:RL l f (m.getD []).length) (hn:(m.getD []).length<=1000):
 callV Pg q1B [⟨tMo,m⟩,⟨(.sl tER),l⟩,⟨tI,mark⟩] (.sl tER) fun r=>RL r (seenQ m f mark) (m.getD []).length:=by
 obtain⟨h1,h2⟩:=hl
 refine qma m l mark ⟨some (tab (fun i=>((RV_ex (seenQ m f mark i)).choose)) (m.getD []).length),?_,?_⟩ ⟨?_,?_⟩
 . exact tab_len _ _
 . intro i hi
   show RV ((tab _ _).getD i r0) _
   rw[tab_get _ _ _ _ hi]
   exact (RV_ex (seenQ m f mark i)).choose_spec
 . have:((l.getD []).length:Int)=((m.getD []).length:Int):=by rw[h1]
   show 0<=((l.getD []).length:Int)/\((l.getD []).length:Int)<=((l.getD []).length:Int)/\((l.getD []).length:Int)*64<=281474976710656
   omega
 . refine rangeB (n:=(m.getD []).length) (fun i x=>(l,(mark,(m,(((m.getD []).length:Int),((i:Int),x)))))) (fun i x=>RL x (fun s=>if s<i then seenQ m f mark s else 0) (m.getD []).length) (some (repS ((m.getD []).length:Int) r0)) (by show (_,_)=(_,_);rw[show szSl l=((m.getD []).length:Int) by show ((l.getD []).length:Int)=_;rw[h1]];rfl) ((RL.zero _).congr fun j _=>if_neg (by omega)) (fun p=>p.2.2.2.2.1.toNat) (fun _ _=>rfl) (fun _ _ _=>rfl) ?_ ?_
   . intro k i x hi hx hk
     try dsimp only
     rw[q0s,q05]
     refine⟨in_s hi,joinE (br_c (fun hb=>?_) fun hb=>?_)⟩
     . refine⟨in_s (by omega),in_s (by rw[hx.1];exact hi),?_⟩
       try dsimp only
       rw[wi1 hi (by omega),show toN (i:Int)=i from Int.toNat_natCast i]
       refine hk _ (RL.set hx hi (g:=fun s=>if s<i+1 then seenQ m f mark s else 0) ?_ fun j _ hj=>?_)
       . rw[if_pos (by omega)]
         show RV _ (seenQ m f mark i)
         rw[seenQ,if_pos (dec_t hb)]
         exact h2 i hi
       . try dsimp only
         by_cases hji:j<i
         . rw[if_pos hji,if_pos (by omega)]
         . rw[if_neg hji,if_neg (by omega)]
     . try dsimp only
       rw[wi1 hi (by omega)]
       refine hk _ (hx.congr fun j _=>?_)
       try dsimp only
       by_cases hji:j<i
       . rw[if_pos hji,if_pos (by omega)]
       . rw[if_neg hji]
         by_cases e:j<i+1
         . obtain rfl:j=i:=by omega
           rw[if_pos e,seenQ,if_neg (dec_f hb)]
         . rw[if_neg e]
   . intro _ x hx
     exact hx.congr fun j hj=>by rw[if_pos hj]
def RM (p:Option (List (Option (List DR)))) (P:Nat->Nat->Rat) (n:Nat):Prop:=(p.getD []).length=n/\∀ s,s<n->RL ((p.getD []).getD s none) (P s) n
theorem q10 {p:Option (List (Option (List DR)))} {i:Nat}:eltS none p (i:Int)=(p.getD []).getD i none:=by simp only[eltS,Int.toNat_natCast]
def stepQ (P:Nat->Nat->Rat) (x:Nat->Rat) (a t:Nat):Rat:=sumQ (fun s=>x s*P s t) a
theorem rv_zero {x:DR} {q:Rat} (h:RV x q):sgn q.num=0->q=0:=by
 intro h
 have:q.num=0:=by
  rcases sgn3 q.num with ⟨e,h'⟩ | ⟨e,h'⟩ | ⟨e,h'⟩
  . rw[e] at h;cases h
  . rw[e] at h;cases h
  . exact h'
 exact Rat.num_eq_zero.1 this
theorem s_moved {p:Option (List (Option (List DR)))} {l:Option (List DR)} {P:Nat->Nat->Rat} {x:Nat->Rat} {n k:Nat} (hp:RM p P n) (hl:RL l x n) (hn:n<=1000)
 (f1:∀ s t,s<n->t<n->Pf.RFit k (P s t)) (f2:∀ s,s<n->Pf.RFit k (x s)) (f3:∀ s t,s<n->t<n->Pf.RFit k (x s*P s t)) (f4:∀ a t,a<=n->t<n->Pf.RFit k (stepQ P x a t)) (hk:k+k+1<=1073741824):
 callV Pg q1f [⟨(.sl (.sl tER)),p⟩,⟨(.sl tER),l⟩,⟨.bool,false⟩,⟨(.cst (.fn q0a)),()⟩] (.sl tER) fun r=>RL r (stepQ P x n) n:=by
 obtain⟨h1,h2⟩:=hl
 obtain⟨p1,p2⟩:=hp
 have e1:szSl l=(n:Int):=by show ((l.getD []).length:Int)=n;rw[h1]
 have e2:szSl p=(n:Int):=by show ((p.getD []).length:Int)=n;rw[p1]
 refine qm6 p l false () ⟨some (tab (fun i=>((RV_ex (stepQ P x n i)).choose)) n),?_,?_⟩ ⟨?_,?_⟩
 . exact tab_len _ _
 . intro i hi
   show RV ((tab _ _).getD i r0) _
   rw[tab_get _ _ _ _ hi]
   exact (RV_ex (stepQ P x n i)).choose_spec
 . rw[e1]
   show 0<=(n:Int)/\(n:Int)<=n/\(n:Int)*64<=281474976710656
   omega
 . rw[e1,e2]
   refine rangeB (n:=n) (fun i y=>(p,(l,(false,((n:Int),((i:Int),y)))))) (fun i y=>RL y (stepQ P x i) n) (some (repS (n:Int) r0)) rfl (RL.zero n) (fun p=>p.2.2.2.2.1.toNat) (fun _ _=>rfl) (fun _ _ _=>rfl) ?_ ?_
   . intro k0 i y hi hy hk0
     try dsimp only
     obtain⟨r1,r2⟩:=p2 i hi
     refine⟨in_s (by omega),?_⟩
     rw[q10]
     generalize hr:(p.getD []).getD i none=r at *
     have e3:szSl r=(n:Int):=by show ((r.getD []).length:Int)=n;rw[r1]
     rw[e3]
     refine rangeB (n:=n) (fun j z=>(p,(l,(false,((i:Int),((n:Int),((i:Int),(r,((n:Int),((j:Int),z)))))))))) (fun j z=>RL z (fun t=>stepQ P x (if t<j then i+1 else i) t) n) y rfl (hy.congr fun j _=>by rw[if_neg (by omega)]) (fun p=>p.2.2.2.2.2.2.2.2.1.toNat) (fun _ _=>rfl) (fun _ _ _=>rfl) ?_ ?_
     . intro k1 j z hj hz hk1
       try dsimp only
       refine⟨in_s (by omega),?_⟩
       rw[q05]
       have hc:=r2 j hj
       refine (q14 hc).mono fun sg hsg=>?_
       subst hsg
       refine joinE (br_c (fun hb=>?_) fun hb=>?_)
       . try dsimp only
         rw[wi1 hj (by omega)]
         refine hk1 _ (hz.congr fun t _=>?_)
         try dsimp only
         by_cases htj:t<j
         . rw[if_pos htj,if_pos (by omega)]
         . rw[if_neg htj]
           by_cases e:t<j+1
           . obtain rfl:t=j:=by omega
             rw[if_pos e]
             simp only[stepQ,sumQ]
             rw[rv_zero hc (dec_t hb),Rat.mul_zero,Rat.add_zero]
           . rw[if_neg e]
       . refine joinE (br_f rfl ⟨in_s (by rw[hz.1];exact hj),in_s (by omega),?_⟩)
         have e4:eltN r0 z (toN (j:Int))=(z.getD []).getD j r0:=by simp only[eltN,toN,Int.toNat_natCast]
         rw[e4,q05]
         have hzj:=hz.2 j hj
         dsimp only at hzj
         rw[if_neg (by omega)] at hzj
         refine (qaR hzj (h2 i hi) hc (f4 i j (by omega) hj) (f2 i hi) (f1 i j hi hj) (f3 i j hi hj) hk).mono fun w hw=>⟨in_s (by rw[hz.1];exact hj),?_⟩
         try dsimp only
         rw[wi1 hj (by omega),show toN (j:Int)=j from Int.toNat_natCast j]
         refine hk1 _ (RL.set hz hj (g:=fun t=>stepQ P x (if t<j+1 then i+1 else i) t) ?_ fun t _ ht=>?_)
         . rw[if_pos (by omega)];exact hw
         . try dsimp only
           by_cases htj:t<j
           . rw[if_pos htj,if_pos (by omega)]
           . rw[if_neg htj,if_neg (by omega)]
     . intro _ z hz
       try dsimp only
       rw[wi1 hi (by omega)]
       refine hk0 _ (hz.congr fun t ht=>?_)
       try dsimp only
       rw[if_pos ht]
   . intro _ y hy
     exact hy
end Go.Proofs.Pf.B
namespace Go.Proofs.Pf.B
open Go Go.VM
abbrev nth2 (l:List (Int×Int)) (i:Nat):Int×Int:=l.getD i (0,0)
theorem q4E {l:Option (List (Int×Int))} {i:Nat}:eltS ((0:Int),(0:Int)) l (i:Int)=nth2 (l.getD []) i:=by simp only[eltS,Int.toNat_natCast]
theorem q5C {l:Option (List (Int×Int))} (h:∀ i,i<(l.getD []).length->NumOk (nth2 (l.getD []) i)) (hn:(l.getD []).length<=1000):
 callV Pg q19 [⟨(.sl tNum),l⟩] (.sl tER) fun r=>RL r (fun i=>numQ (nth2 (l.getD []) i)) (l.getD []).length:=by
 refine qkA l (RL.ex _ _) (rangeB (n:=(l.getD []).length) (fun i x=>(l,(((l.getD []).length:Int),((i:Int),x)))) (fun i x=>RL x (fun i=>numQ (nth2 (l.getD []) i)) i) none rfl (RL.nil _) (fun p=>p.2.2.1.toNat) (fun _ _=>rfl) (fun _ _ _=>rfl) ?_ ?_)
 . intro k i x hi hx hk
   (try dsimp only)
   refine⟨in_s hi,?_⟩
   rw[q4E]
   refine (s_Rat longS (h i hi)).mono fun z hz=>⟨hx.c8 (by omega),?_⟩
   rw[wi1 hi (by omega)]
   exact hk _ (hx.app hz)
 . intro _ x hx
   exact hx
def outsQ (f:Nat->Rat) (n:Nat):Option (List (Int×Int))×Int×Unit:=if ∀ i,i<n->(outQ (f i)).2.1=0 then (optL (tab (fun i=>(outQ (f i)).1) n),0,()) else (none,3,())
theorem outQ_err (q:Rat):(outQ q).2.1=0∨(outQ q).2.1=3:=by
 unfold outQ;split
 . exact .inl rfl
 . exact .inr rfl
theorem s_Outs {l:Option (List DR)} {f:Nat->Rat} {n:Nat} (hl:RL l f n) (hn:n<=1000):
 callV Pg q3n [⟨(.sl tER),l⟩] (.tup (.pair (.sl tNum) (.pair tI .unit))) fun r=>r=outsQ f n:=by
 have e1:szSl l=(n:Int):=by show ((l.getD []).length:Int)=n;rw[hl.1]
 refine qkz l ⟨_,rfl⟩ ?_
 rw[e1]
 refine rangeB (n:=n) (fun i x=>(l,((n:Int),((i:Int),x)))) (fun i x=>(∀ j,j<i->(outQ (f j)).2.1=0)/\x=optL (tab (fun i=>(outQ (f i)).1) i)) none rfl ⟨fun j hj=>absurd hj (by omega),rfl⟩ (fun p=>p.2.2.1.toNat) (fun _ _=>rfl) (fun _ _ _=>rfl) ?_ ?_
 . intro k i x hi hx hk
   obtain⟨hx,rfl⟩:=hx
   (try dsimp only)
   refine⟨in_s (by rw[hl.1];exact hi),?_⟩
   rw[q05]
   refine (s_Out (hl.2 i hi)).mono ?_
   rintro _ rfl
   refine br_c (fun hb=>?_) fun hb=>⟨?_,?_⟩
   . have hb:¬ (outQ (f i)).2.1=0:=by simpa[notB] using hb
     have e3:=(outQ_err (f i)).resolve_left hb
     rw[e3,outsQ,if_neg (fun h=>hb (h i hi))]
   . show ((((optL (tab (fun i=>(outQ (f i)).1) i))).getD []).length+1)*16<=140737488355328
     rw[q07,tab_len];omega
   . have hb:(outQ (f i)).2.1=0:=by simpa[notB] using hb
     rw[wi1 hi (by omega)]
     refine hk _ ⟨fun j hj=>?_,?_⟩
     . rcases Nat.lt_or_ge j i with hlt | hge
       . exact hx j hlt
       . obtain rfl:j=i:=by omega
         exact hb
     . show appL _ [_]=_
       rw[q1k,q31]
 . intro _ x hx
   obtain⟨hx,rfl⟩:=hx
   show (_,_)=_
   rw[outsQ,if_pos hx]
end Go.Proofs.Pf.B
namespace Go.Proofs.Pf.B
open Go Go.VM
def bs_ (m:DMo) (s:Nat):List DBr:=(ch ((stt (m.getD []) s).2.2.getD []) 0).2.getD []
def brQ (l:List DBr):Nat->Nat->Rat
 | 0,_=>0
 | j+1,t=>if (br l j).1=(t:Int) then numQ (br l j).2 else brQ l j t
def rowQ (m:DMo) (s t:Nat):Rat:=brQ (bs_ m s) (bs_ m s).length t
def hds (n i:Nat):Option (List (Option Nat)):=some (tab (fun s=>if s<i then some s else none) n)
theorem q4F (n i:Nat):((hds n i).getD []).length=n:=tab_len _ _
theorem hds_get {n i s:Nat} (h:s<n):eltN none (hds n i) s=if s<i then some s else none:=tab_get _ _ _ _ h
theorem qad (n:Nat):hdL (α:=List DR) (some (repS (n:Int) none))=hds n 0:=by
 simp only[hdL,hds,repS,Option.map_some,Int.toNat_natCast,List.map_replicate]
 congr 1
 rw[List.eq_replicate_iff.2 ⟨tab_len _ _,fun b hb=>?_⟩]
 simp only[tab,List.mem_map,List.mem_range] at hb
 obtain⟨a,_,rfl⟩:=hb
 exact if_neg (by omega)
theorem hds_set {n i:Nat} (h:i<n):setO (hds n i) i (some i)=hds n (i+1):=by
 show some ((tab _ n).set i (some i))=some (tab _ n)
 congr 1
 apply List.ext_getElem
 . simp[tab]
 . intro j h1 h2
   rw[List.getElem_set]
   simp only[tab,List.getElem_map,List.getElem_range]
   by_cases e:i=j
   . subst e;rw[if_pos rfl,if_pos (by omega)]
   . rw[if_neg e]
     by_cases hji:j<i
     . rw[if_pos hji,if_pos (by omega)]
     . rw[if_neg hji,if_neg (by omega)]
theorem moOk.bs {m:DMo} (h:moOk m) {s:Nat} (hs:s<(m.getD []).length):(bs_ m s).length<=8/\(1<=((stt (m.getD []) s).2.2.getD []).length)/\∀ k,k<(bs_ m s).length->0<=(br (bs_ m s) k).1/\(br (bs_ m s) k).1<((m.getD []).length:Int)/\NumOk (br (bs_ m s) k).2:=by
 obtain⟨h1,h2⟩:=h.2 s hs
 have h3:=h2 0 (by have:=h1.2.2.1;omega)
 refine⟨h3.2.1.2,h1.2.2.1,fun k hk=>?_⟩
 have h4:=h3.2.2.1 k hk
 have h5:-1<=preTo (bs_ m s) k:=pre_le (i:=k) (fun j hj=>h3.2.2.1 j (by have:k<(bs_ m s).length:=hk;exact Nat.lt_trans hj this))
 have h6:preTo (bs_ m s) k<(br (bs_ m s) k).1:=h4.1
 exact⟨by omega,h4.2.1,h4.2.2.1⟩
theorem RM.ex (P:Nat->Nat->Rat) (n:Nat):∃ r,RM r P n:=by
 refine⟨some (tab (fun i=>(RL.ex (P i) n).choose) n),tab_len _ _,fun i hi=>?_⟩
 show RL ((tab _ _).getD i none) _ _
 rw[tab_get _ _ _ _ hi]
 exact (RL.ex (P i) n).choose_spec
def RowsOk (m:DMo) (n i:Nat) (ls:List (List DR)):Prop:=ls.length=i/\∀ s,s<i->RL (some (ls.getD s [])) (rowQ m s) n
theorem q4p {m:DMo} (h:moOk m):callV Pg q0E [⟨tMo,m⟩] (.sl (.sl tER)) fun r=>RM r (rowQ m) (m.getD []).length:=by
 have hn:=h.1.2
 refine qjF m (RM.ex _ _) ⟨?_,?_,?_⟩
 . show 0<=((m.getD []).length:Int)/\((m.getD []).length:Int)<=((m.getD []).length:Int)/\((m.getD []).length:Int)*24<=281474976710656
   omega
 . intro y hy
   have hy:y∈List.replicate _ none:=hy
   rw[List.eq_of_mem_replicate hy];rfl
 generalize hN:(m.getD []).length=n at *
 have e0:szSl m=(n:Int):=by show ((m.getD []).length:Int)=n;rw[hN]
 rw[e0,qad]
 refine rangeB (n:=n) (fun i (x:Option (List (Option Nat))×List (List DR))=>((n:Int),((n:Int),((i:Int),(m,x))))) (fun i x=>x.1=hds n i/\RowsOk m n i x.2) (hds n 0,[]) rfl ⟨rfl,rfl,fun s hs=>absurd hs (by omega)⟩ (fun p=>p.2.2.1.toNat) (fun _ _=>rfl) (fun _ _ _=>rfl) ?_ ?_
 . rintro k0 i ⟨hd,ls⟩ hi ⟨hx1,hx2⟩ hk0
   have hx1:hd=hds n i:=hx1
   have hx2:RowsOk m n i ls:=hx2
   subst hx1
   obtain⟨b1,b2,b3⟩:=h.bs (s:=i) (by rw[hN];exact hi)
   dsimp only
   refine⟨⟨by omega,by omega,by omega⟩,in_s (by rw[q4F];exact hi),in_s (by omega),?_⟩
   rw[q0s]
   refine⟨in_s (i:=0) (by omega),?_⟩
   have e1:(eltS (((0:Int),(0:Int)),none) (stt (m.getD []) i).2.2 (0:Int)).2.getD []=bs_ m i:=rfl
   have e2:szSl (eltS (((0:Int),(0:Int)),none) (stt (m.getD []) i).2.2 (0:Int)).2=((bs_ m i).length:Int):=rfl
   rw[e2]
   generalize (eltS (((0:Int),(0:Int)),none) (stt (m.getD []) i).2.2 (0:Int)).2=bl at *
   have e3:gvH (α:=List DR) (some (repS (n:Int) r0)) (lenL ls)=some i:=by show some ls.length=some i;rw[hx2.1]
   rw[e3,show toN (i:Int)=i from Int.toNat_natCast i,hds_set hi]
   refine rangeB (n:=(bs_ m i).length) (fun k (x:List (List DR))=>((n:Int),((i:Int),((n:Int),((i:Int),(bl,(((bs_ m i).length:Int),((k:Int),(m,(hds n (i+1),x)))))))))) (fun k x=>x.length=i+1/\(∀ s,s<i->RL (some (x.getD s [])) (rowQ m s) n)/\RL (some (x.getD i [])) (brQ (bs_ m i) k) n) (gvL ls (some (repS (n:Int) r0))) rfl ⟨?_,fun s hs=>?_,?_⟩ (fun p=>p.2.2.2.2.2.2.1.toNat) (fun _ _=>rfl) (fun _ _ _=>rfl) ?_ ?_
   . show (ls ++ [_]).length=i+1
     rw[List.length_append,hx2.1];rfl
   . show RL (some ((ls ++ [_]).getD s [])) _ _
     rw[List.getD_eq_getElem?_getD,List.getElem?_append_left (by rw[hx2.1];exact hs),<-List.getD_eq_getElem?_getD]
     exact hx2.2 s hs
   . show RL (some ((ls ++ [_]).getD i [])) _ _
     rw[List.getD_eq_getElem?_getD,List.getElem?_append_right (by rw[hx2.1];omega),hx2.1,Nat.sub_self]
     exact RL.zero n
   . rintro k1 k x hk hx hk1
     obtain⟨x1,x2,x3⟩:=hx
     dsimp only
     obtain⟨c1,c2,c3⟩:=b3 k hk
     refine⟨in_s (by rw[e1];exact hk),in_s (by rw[q4F];exact hi),?_⟩
     rw[q29,e1]
     refine (s_Rat longS c3).mono fun z hz=>?_
     generalize hB:br (bs_ m i) k=b at *
     obtain⟨t,ht⟩:∃ t:Nat,b.1=(t:Int):=⟨b.1.toNat,by omega⟩
     have htn:t<n:=by omega
     rw[show toN (i:Int)=i from Int.toNat_natCast i,hds_get hi,if_pos (by omega)]
     have hlen:(x.getD i []).length=n:=x3.1
     refine⟨⟨by omega,?_⟩,?_⟩
     . show b.1<(((x.getD ((some i).getD x.length) []).length:Nat):Int)
       rw[show (some i).getD x.length=i from rfl,hlen];omega
     . rw[ht,show toN (t:Int)=t from Int.toNat_natCast t,wi1 hk (by omega)]
       refine hk1 _ ⟨?_,fun s hs=>?_,?_⟩
       . show (x.set i _).length=i+1
         simpa using x1
       . show RL (some ((x.set i _).getD s [])) _ _
         rw[List.getD_eq_getElem?_getD,List.getElem?_set_ne (by omega),<-List.getD_eq_getElem?_getD]
         exact x2 s hs
       . show RL (some ((x.set i _).getD i [])) _ _
         rw[List.getD_eq_getElem?_getD,List.getElem?_set_self (by omega)]
         refine RL.set (l:=some (x.getD i [])) x3 htn ?_ fun j hj hne=>?_
         . show RV z (brQ (bs_ m i) (k+1) t)
           simp only[brQ,hB,ht,if_true];exact hz
         . simp only[brQ,hB,ht]
           rw[if_neg (by omega)]
   . rintro k1 x ⟨x1,x2,x3⟩
     dsimp only
     rw[wi1 hi (by omega)]
     refine hk0 (_,_) ⟨rfl,x1,fun s hs=>?_⟩
     rcases Nat.lt_or_ge s i with hlt | hge
     . exact x2 s hlt
     . obtain rfl:s=i:=by omega
       exact x3
 . rintro _ ⟨hd,ls⟩ ⟨hx1,hx2⟩
   have hx1:hd=hds n n:=hx1
   have hx2:RowsOk m n n ls:=hx2
   subst hx1
   refine⟨?_,fun s hs=>?_⟩
   . show ((tab _ n).map _).length=n
     simp[tab]
   . show RL (((tab _ n).map _).getD s none) _ _
     rw[List.getD_eq_getElem?_getD,List.getElem?_map]
     simp only[tab,List.getElem?_map,List.getElem?_range hs,Option.map_some,Option.getD_some,if_pos hs,unH]
     exact hx2.2 s hs
end Go.Proofs.Pf.B
namespace Go.Proofs.Pf.B
open Go Go.VM
abbrev KK:Nat:=1152921504606846976
theorem kk_pow (e:Nat):KK ^ e=1073741824 ^ (2*e):=by rw[Nat.pow_mul]
theorem kk_lt {a e:Nat} (h:a<=KK ^ e):a<1073741824 ^ (2*e+1):=by
 rw[kk_pow] at h
 have h2:0<1073741824 ^ (2*e):=Nat.pow_pos (by decide)
 rw[Nat.pow_succ]
 generalize 1073741824 ^ (2*e)=x at *
 omega
theorem kk_pos (e:Nat):0<KK ^ e:=Nat.pow_pos (by decide)
theorem kk_le {a b:Nat} (h:a<=b):KK ^ a<=KK ^ b:=Nat.pow_le_pow_right (by decide) h
theorem kk_mul {a b x y:Nat} (h:x<=KK ^ a) (g:y<=KK ^ b):x*y<=KK ^ (a+b):=by rw[Nat.pow_add];exact Nat.mul_le_mul h g
def FB (n e:Nat) (x:Nat->Rat):Prop:=∃ D,0<D/\D<=KK ^ e/\∀ s,s<n->QD D (KK ^ e) (x s)
theorem FB.fit {n e:Nat} {x:Nat->Rat} (h:FB n e x) {s:Nat} (hs:s<n):Pf.RFit (2*e+1) (x s)/\RFit (2*e+1) (x s):=by
 obtain⟨D,h1,h2,h3⟩:=h
 exact (h3 s hs).fit h1 (kk_lt h2) (kk_lt (Nat.le_refl _))
theorem FB.mono {n e e':Nat} {x:Nat->Rat} (h:FB n e x) (he:e<=e'):FB n e' x:=by
 obtain⟨D,h1,h2,h3⟩:=h
 exact⟨D,h1,Nat.le_trans h2 (kk_le he),fun s hs=>(h3 s hs).mono (kk_le he)⟩
theorem FB.pick {n e:Nat} {x:Nat->Rat} (h:FB n e x) (c:Nat->Bool):FB n e fun s=>if c s=true then x s else 0:=by
 obtain⟨D,h1,h2,h3⟩:=h
 refine⟨D,h1,h2,fun s hs=>?_⟩
 dsimp only
 split
 . exact h3 s hs
 . exact QD.zero _ _
theorem FB.congr {n e:Nat} {x y:Nat->Rat} (h:FB n e x) (g:∀ s,s<n->y s=x s):FB n e y:=by
 obtain⟨D,h1,h2,h3⟩:=h
 exact⟨D,h1,h2,fun s hs=>by rw[g s hs];exact h3 s hs⟩
theorem FB.seen {m:DMo} {e:Nat} {x:Nat->Rat} {n:Nat} (h:FB n e x) (mark:Int):FB n e (seenQ m x mark):=
 (h.pick fun s=>decide ((stt (m.getD []) s).2.1=mark)).congr fun s _=>by simp only[seenQ,decide_eq_true_eq]
theorem FB.of {n:Nat} {x:Nat->Rat} (h:∀ s,s<n->(x s).num.natAbs<=KK/\(x s).den<=KK):FB n (n+1) x:=by
 obtain⟨D,h1,h2,h3⟩:=QD.common x n h
 exact⟨D,h1,Nat.le_trans h2 (kk_le (by omega)),fun s hs=>(h3 s hs).mono (by rw[Nat.pow_succ,Nat.mul_comm];exact Nat.mul_le_mul_right _ h2)⟩
def MB (n e:Nat) (P:Nat->Nat->Rat):Prop:=∃ D,0<D/\D<=KK ^ e/\∀ s t,s<n->t<n->QD D (KK ^ e) (P s t)
theorem MB.of {n:Nat} {P:Nat->Nat->Rat} (h:∀ s t,s<n->t<n->(P s t).num.natAbs<=KK/\(P s t).den<=KK):MB n (n*n+1) P:=by
 rcases Nat.eq_zero_or_pos n with h0 | h0
 . subst h0;exact⟨1,by omega,by decide,fun s t hs=>absurd hs (by omega)⟩
 obtain⟨D,h1,h2,h3⟩:=FB.of (n:=n*n) (x:=fun i=>P (i / n) (i % n)) fun i hi=>h _ _ (Nat.div_lt_of_lt_mul hi) (Nat.mod_lt _ h0)
 refine⟨D,h1,h2,fun s t hs ht=>?_⟩
 have h4:=h3 (t+n*s) (by
  have:n*s+n<=n*n:=by rw[<-Nat.mul_succ];exact Nat.mul_le_mul_left _ hs
  omega)
 dsimp only at h4
 rw[Nat.add_mul_div_left _ _ h0,Nat.div_eq_of_lt ht,Nat.zero_add,Nat.add_mul_mod_self_left,Nat.mod_eq_of_lt ht] at h4
 exact h4
theorem MB.fit {n e:Nat} {P:Nat->Nat->Rat} (h:MB n e P) {s t:Nat} (hs:s<n) (ht:t<n):Pf.RFit (2*e+1) (P s t)/\RFit (2*e+1) (P s t):=by
 obtain⟨D,h1,h2,h3⟩:=h
 exact (h3 s t hs ht).fit h1 (kk_lt h2) (kk_lt (Nat.le_refl _))
theorem FB.prod {n a b:Nat} {x:Nat->Rat} {P:Nat->Nat->Rat} (h:FB n a x) (g:MB n b P) {s t:Nat} (hs:s<n) (ht:t<n):Pf.RFit (2*(a+b)+1) (x s*P s t)/\RFit (2*(a+b)+1) (x s*P s t):=by
 obtain⟨D,h1,h2,h3⟩:=h
 obtain⟨E,g1,g2,g3⟩:=g
 exact ((h3 s hs).mul (g3 s t hs ht)).fit (Nat.mul_pos h1 g1) (kk_lt (kk_mul h2 g2)) (kk_lt (kk_mul (Nat.le_refl _) (Nat.le_refl _)))
theorem FB.step {n a b c:Nat} {x:Nat->Rat} {P:Nat->Nat->Rat} (h:FB n a x) (g:MB n b P) (hn:n<=KK) (hc:c<=n):FB n (a+b+1) (stepQ P x c):=by
 obtain⟨D,h1,h2,h3⟩:=h
 obtain⟨E,g1,g2,g3⟩:=g
 refine⟨D*E,Nat.mul_pos h1 g1,Nat.le_trans (kk_mul h2 g2) (kk_le (by omega)),fun t ht=>?_⟩
 refine (QD.sum c fun s hs=>(h3 s (by omega)).mul (g3 s t (by omega) ht)).mono ?_
 rw[Nat.pow_succ,Nat.mul_comm,Nat.pow_add]
 exact Nat.mul_le_mul_left _ (by omega)
end Go.Proofs.Pf.B
namespace Go.Proofs.Pf.B
open Go Go.VM
abbrev cntL (s:DSt):Int:=((s.2.2.getD []).length:Int)
end Go.Proofs.Pf.B
namespace Go.Proofs.Pf
open Go Go.VM
set_option maxRecDepth 100000
def qcT:Ann:=(.s (.s (.seq (.s (.blk none (.loop ⟨[(4,.ref 4 0),(5,.ref 5 0)],[.var 1 (.sl tRR),.var 10 (.sl tBr),.var 11 tI,.var 12 tI,.box 4 tRR,.box 5 tRR]⟩ .nil))) .nil)))
theorem qlk {Q:DRR->Prop} (a:DCh) (b:(Option (List DRR))) (hQ:∃ r,Q r) (h:
 (callV Pg q0k [⟨tI,(0:Int)⟩] tRR (fun p0=>loopV (Option (List DRR)×Option (List DBr)×Int×Int×DRR×DRR) (fun k1  (i,j,k,l,m,n)=>brV (decide (l<k)) (inS j l/\callV Pg q0J [⟨tNum,(eltS ((0:Int),(0:Int),(0:Int)) j l).2⟩] tRR (fun p3=>inS i (eltS ((0:Int),(0:Int),(0:Int)) j l).1/\callV Pg q0W [⟨tRR,p3⟩,⟨tRR,eltS z0 i (eltS ((0:Int),(0:Int),(0:Int)) j l).1⟩] tRR (fun p4=>callV Pg q0V [⟨tRR,n⟩,⟨tRR,p4⟩] tRR (fun p5=>k1 (i,j,k,IntKind.wrap IntKind.i64 (l+(1:Int)),m,p5))))) (Q n)) (b,a.2,szSl a.2,(0:Int),z0,p0)))):
 callV Pg q3D [⟨tCh,a⟩,⟨(.sl tRR),b⟩] tRR Q:=
 q02 (c:=q01 q9c) (ann:=qcT) qfM rfl qiA rfl rfl hQ (kcast (by kernel_rfl) h)
def qd7:Ann:=let x:Shape:=⟨[(3,.ref 3 0),(7,.own 11)],[.var 1 (.sl tRR),.var 2 tI,.var 13 tI,.var 14 tI,.box 3 tMo,.arr 11 tRR]⟩;(.s (.seq (.reg [] [(2,([],true))] none) (.seq (.s (.blk none (.loop x (.s (.s (.seq (.blk none (.s (.s (.cond (some x) .nil .nil)))) .nil)))))) .nil)))
theorem qly {Q:(Option (List DRR))->Prop} (a:DMo) (b:(Option (List DRR))) (c:Int) (hQ:∃ r,Q r) (h:
 (ownV Pg q0Y [⟨tI,szSl b⟩] tRR (fun p0=>loopV (Option (List DRR)×Int×Int×Int×DMo×Option (List DRR)) (fun k1  (i,j,k,l,m,n)=>brV (decide (l<k)) (inS m l/\joinV (Option (List DRR)×Int×Int×Int×DMo×Option (List DRR)) (fun (o,p,q,r,s)=>k1 (o,p,q,IntKind.wrap IntKind.i64 (r+(1:Int)),s)) (fun k3=>brV (decide ((eltS ((0:Int),(0:Int),none) m l).2.1=j)) (inS i l/\inS n l/\k3 (i,j,k,l,m,setO n (toN l) (eltS z0 i l))) (k3 (i,j,k,l,m,n)))) (Q n)) (b,c,szSl b,(0:Int),a,p0)))):
 ownV Pg q0x [⟨tMo,a⟩,⟨(.sl tRR),b⟩,⟨tI,c⟩] tRR Q:=
 q1l (c:=q01 q5j) (ann:=qd7) q67 rfl q6F rfl rfl hQ (kcast (by kernel_rfl) h)
def qd8:Ann:=let x:Shape:=⟨[(1,.own 1000000001),(3,.ref 3 0),(7,.own 11)],[.var 2 tI,.var 13 tI,.var 14 tI,.box 3 tMo,.arr 1000000001 tRR,.arr 11 tRR]⟩;(.s (.seq (.reg [] [(2,([],true))] none) (.seq (.s (.blk none (.loop x (.s (.s (.seq (.blk none (.s (.s (.cond (some x) .nil .nil)))) .nil)))))) .nil)))
theorem qlz {Q:((Option (List DRR))×(Option (List DRR)))->Prop} (a:DMo) (b:Int) (c:(Option (List DRR))) (hQ:∃ r,Q r) (h:
 (ownV Pg q0Y [⟨tI,szSl c⟩] tRR (fun p0=>loopV (Int×Int×Int×DMo×Option (List DRR)×Option (List DRR)) (fun k1  (i,j,k,l,m,n)=>brV (decide (k<j)) (inS l k/\joinV (Int×Int×Int×DMo×Option (List DRR)×Option (List DRR)) (fun (o,p,q,r)=>k1 (o,p,IntKind.wrap IntKind.i64 (q+(1:Int)),r)) (fun k3=>brV (decide ((eltS ((0:Int),(0:Int),none) l k).2.1=i)) (inS m k/\inS n k/\k3 (i,j,k,l,m,setO n (toN k) (eltN z0 m (toN k)))) (k3 (i,j,k,l,m,n)))) (Q (n,m))) (b,szSl c,(0:Int),a,c,p0)))):
 lendV Pg q0x 3 q54 (a,b,c) Q:=
 q4I (c:=q01 q5j) (ann:=qd8) q67 rfl q6F rfl hQ rfl (kcast (by kernel_rfl) h)
def qcZ:Ann:=let x:Shape:=⟨[(3,.ref 3 0)],[.var 7 (.sl tRR),.var 9 tI,.var 11 tL,.var 12 tI,.var 13 tI,.box 3 tMo]⟩;(.s (.s (.seq (.s (.blk none (.seq (.s (.s (.seq (.blk none (.s (.seq (.s (.cond (some x) .nil .nil)) (.reg [] [(3,([],true))] none)))) .nil))) (.loop ⟨[(3,.ref 3 0),(7,.own 1007)],[.var 11 tL,.var 12 tI,.var 13 tI,.box 3 tMo,.arr 1007 tRR]⟩ (.s (.s (.seq (.blk none (.s (.seq (.seq (.reg [] [(4095,([1007],false))] none) (.cond (some x) .nil .nil)) (.reg [] [(3,([],true))] none)))) .nil))))))) .nil)))
theorem qlq {Q:(Option (List DRR))->Prop} (a:DMo) (b:(Option (List DRR))) (c:DL) (hQ:∃ r,Q r) (h:
 (brV (decide ((0:Int)<(szSl c))) (inS c (0:Int)/\joinV (Option (List DRR)×Int×DL×Int×Int×DMo) (fun (i,j,k,l,m,n)=>ownV Pg q0x [⟨tMo,n⟩,⟨.sl tRR,i⟩,⟨tI,j⟩] tRR (fun p1=>loopV (DL×Int×Int×DMo×Option (List DRR)) (fun k2  (o,p,q,r,s)=>brV (decide (q<p)) (inS o q/\joinV (Option (List DRR)×Int×DL×Int×Int×DMo) (fun (t,u,v,w,x,y)=>ownV Pg q0x [⟨tMo,y⟩,⟨.sl tRR,t⟩,⟨tI,u⟩] tRR (fun p5=>k2 (v,w,IntKind.wrap IntKind.i64 (x+(1:Int)),y,p5))) (fun k4=>brV (decide ((0:Int)<q)) (callV Pg q21 [⟨tMo,r⟩,⟨.sl tRR,s⟩] (.sl tRR) (fun p5=>k4 (p5,eltS (0:Int) o q,o,p,q,r))) (k4 (s,eltS (0:Int) o q,o,p,q,r)))) (Q s)) (k,l,IntKind.wrap IntKind.i64 (m+(1:Int)),n,p1))) (fun k0=>brV (decide ((0:Int)<(0:Int))) (callV Pg q21 [⟨tMo,a⟩,⟨.sl tRR,b⟩] (.sl tRR) (fun p1=>k0 (p1,eltS (0:Int) c (0:Int),c,szSl c,(0:Int),a))) (k0 (b,eltS (0:Int) c (0:Int),c,szSl c,(0:Int),a)))) False)):
 ownV Pg q1A [⟨tMo,a⟩,⟨(.sl tRR),b⟩,⟨tL,c⟩] tRR Q:=
 q1l (c:=q01 q69) (ann:=qcZ) q7p rfl qaA rfl rfl hQ (kcast (by kernel_rfl) h)
def qcX:Ann:=(.s (.seq (.reg [] [(3,([],true))] none) (.seq (.s (.blk none (.loop ⟨[(2,.ref 2 0),(5,.own 13)],[.var 1 tL,.var 15 tI,.var 16 tI,.box 2 tMo,.arr 13 tRR]⟩ .nil))) (.seq (.s (.blk none (.loop ⟨[(2,.ref 2 0),(5,.own 13)],[.var 1 tL,.var 7 tI,.box 2 tMo,.arr 13 tRR]⟩ (.s (.seq (.blk none (.seq (.regL [] [(4095,([3801000],false))] [(6,q54)] none) (.s (.blk none (.loop ⟨[(2,.ref 2 0),(5,.own 13)],[.var 1 tL,.var 7 tI,.var 8 (.sl tRR),.var 39 tI,.var 40 tI,.box 2 tMo,.arr 13 tRR]⟩ .nil))))) .nil))))) .nil))))
theorem qlo {Q:(Option (List DRR))->Prop} (a:DMo) (b:DL) (hQ:∃ r,Q r) (h:
 (ownV Pg q0Y [⟨tI,szSl a⟩] tRR (fun p0=>loopV (DL×Int×Int×DMo×Option (List DRR)) (fun k1  (i,j,k,l,m)=>brV (decide (k<j)) (callV Pg q0k [⟨tI,(1:Int)⟩] tRR (fun p3=>inS m k/\k1 (i,j,IntKind.wrap IntKind.i64 (k+(1:Int)),l,setO m (toN k) p3))) (loopV (DL×Int×DMo×Option (List DRR)) (fun k3  (n,o,p,q)=>brV (decide ((0:Int)<=o)) (inS n o/\lendV Pg q0x 3 q54 (p,eltS (0:Int) n o,q) (fun p5=>loopV (DL×Int×Option (List DRR)×Int×Int×DMo×Option (List DRR)) (fun k6  (r,s,t,u,v,w,x)=>brV (decide (v<u)) (callV Pg q1z [⟨tMo,w⟩,⟨tI,v⟩] tCh (fun p8=>callV Pg q3D [⟨tCh,p8⟩,⟨.sl tRR,t⟩] tRR (fun p9=>inS x v/\k6 (r,s,t,u,IntKind.wrap IntKind.i64 (v+(1:Int)),w,setO x (toN v) p9)))) (k3 (r,IntKind.wrap IntKind.i64 (s - (1:Int)),w,x))) (n,o,p5.1,szSl p5.2,(0:Int),p,p5.2))) (Q q)) (i,IntKind.wrap IntKind.i64 ((szSl i) - (1:Int)),l,m))) (b,szSl p0,(0:Int),a,p0)))):
 callV Pg q3F [⟨tMo,a⟩,⟨tL,b⟩] (.sl tRR) Q:=
 q02 (c:=q01 q9g) (ann:=qcX) qfQ rfl qiE rfl rfl hQ (kcast (by kernel_rfl) h)
def qd4:Ann:=(.s (.seq (.reg [] [(6,([],true))] none) (.seq (.s (.blk none (.loop ⟨[(10,.own 19)],[.var 11 (.sl tRR),.var 27 tI,.var 28 tI,.arr 19 tRR]⟩ .nil))) (.seq (.reg [] [(1,([19],false))] none) .nil))))
theorem qlv {Q:((Option (List DRR))×(Bool×Unit))->Prop} (a:DMo) (b:(Option (List DRR))) (c:DL) (d:Int) (hQ:∃ r,Q r) (h:
 (inR c (0:Int) (IntKind.wrap IntKind.i64 (d+(1:Int)))/\ownV Pg q1A [⟨tMo,a⟩,⟨.sl tRR,b⟩,⟨tL,slcS c (0:Int) (IntKind.wrap IntKind.i64 (d+(1:Int)))⟩] tRR (fun p0=>inR c (IntKind.wrap IntKind.i64 (d+(1:Int))) (szSl c)/\callV Pg q3F [⟨tMo,a⟩,⟨tL,slcS c (IntKind.wrap IntKind.i64 (d+(1:Int))) (szSl c)⟩] (.sl tRR) (fun p1=>loopV (Option (List DRR)×Int×Int×Option (List DRR)) (fun k2  (i,j,k,l)=>brV (decide (k<j)) (inS l k/\inS i k/\callV Pg q0W [⟨tRR,eltN z0 l (toN k)⟩,⟨tRR,eltS z0 i k⟩] tRR (fun p4=>inS l k/\k2 (i,j,IntKind.wrap IntKind.i64 (k+(1:Int)),setO l (toN k) p4))) (callV Pg q3M [⟨.sl tRR,l⟩] (.tup (.pair (.sl tRR) (.pair .bool .unit))) (fun p4=>Q (p4.1,p4.2.1,())))) (p1,szSl p0,(0:Int),p0))))):
 callV Pg q3K [⟨tMo,a⟩,⟨(.sl tRR),b⟩,⟨tL,c⟩,⟨tI,d⟩] (.tup (.pair (.sl tRR) (.pair .bool .unit))) Q:=
 q02 (c:=q01 q9l) (ann:=qd4) qfV rfl qiJ rfl rfl hQ (kcast (by kernel_rfl) h)
def qd2:Ann:=let x:Shape:=⟨[(7,.own 1007)],[.var 13 (.sl tRR),.var 14 tI,.var 15 tI,.arr 1007 tI]⟩;(.s (.s (.seq (.s (.blk none (.loop x (.s (.s (.seq (.blk none (.s (.s (.cond (some x) .nil .nil)))) .nil)))))) .nil)))
theorem qlt {Q:DL->Prop} (a:DMo) (b:(Option (List DRR))) (c:DL) (hQ:∃ r,Q r) (h:
 (callV Pg q1A [⟨tMo,a⟩,⟨.sl tRR,b⟩,⟨tL,c⟩] (.sl tRR) (fun p0=>loopV (Option (List DRR)×Int×DE) (fun k1  (i,j,k)=>brV (decide (k.1<j)) (inS i k.1/\callV Pg q1W [⟨tRR,eltS z0 i k.1⟩] tI (fun p3=>joinV (Option (List DRR)×Int×DE) (fun (l,m,n)=>k1 (l,m,IntKind.wrap IntKind.i64 (n.1+(1:Int)),n.2)) (fun k4=>brV (decide ((0:Int)<p3)) (appC 8 k.2 (lst (some [k.1]))/\k4 (i,j,k.1,appL k.2 (lst (some [k.1])))) (k4 (i,j,k))))) (Q k.2)) (p0,szSl p0,(0:Int),none)))):
 callV Pg q3I [⟨tMo,a⟩,⟨(.sl tRR),b⟩,⟨tL,c⟩] tL Q:=
 q02 (c:=q01 q9j) (ann:=qd2) qfT rfl qiH rfl rfl hQ (kcast (by kernel_rfl) h)
def qd0:Ann:=let x:Shape:=⟨[(3,.ref 3 0),(7,.ref 7 0),(10,.own 31)],[.var 1 (.sl tRR),.var 2 tL,.var 9 tI,.var 11 tI,.var 12 tI,.var 46 (.sl tSt),.var 47 tI,.var 48 tI,.var 74 (.sl tBr),.var 75 tI,.var 76 tI,.box 3 tMo,.box 7 tRR,.arr 31 (.hd 90031),.pool 90031 tRR]⟩;let y:Shape:=⟨[(3,.ref 3 0),(7,.ref 7 0),(10,.own 31),(18,.ref 18 0)],[.var 1 (.sl tRR),.var 9 tI,.var 17 tI,.var 115 tI,.var 116 tI,.box 3 tMo,.box 7 tRR,.box 18 tRR,.arr 31 (.hd 90031),.pool 90031 tRR]⟩;let z:Shape:=⟨[(3,.ref 3 0),(7,.ref 7 0),(10,.own 31),(18,.ref 18 0),(21,.own 1021)],[.var 9 tI,.var 17 tI,.var 22 tI,.box 3 tMo,.box 7 tRR,.box 18 tRR,.arr 31 (.hd 90031),.arr 1021 tI,.pool 90031 tRR]⟩;let u:Shape:=⟨[(3,.ref 3 0),(7,.ref 7 0),(10,.own 31)],[.var 1 (.sl tRR),.var 2 tL,.var 9 tI,.var 11 tI,.var 46 (.sl tSt),.var 47 tI,.var 48 tI,.box 3 tMo,.box 7 tRR,.arr 31 (.hd 90031),.pool 90031 tRR]⟩;(.s (.s (.s (.seq (.reg [] [(2,([.opn 31 90031],false))] none) (.seq (.s (.blk none (.loop ⟨[(3,.ref 3 0),(7,.ref 7 0),(10,.own 31)],[.var 1 (.sl tRR),.var 2 tL,.var 9 tI,.var 11 tI,.box 3 tMo,.box 7 tRR,.arr 31 (.hd 90031),.pool 90031 tRR]⟩ (.s (.seq (.blk none (.seq (.reg [] [(5,([],true)),(7,([.giv 43 90031],false))] none) (.s (.blk none (.loop u (.s (.s (.seq (.blk (some u) (.s (.s (.s (.s (.blk none (.loop x (.s (.s (.seq (.blk none (.s (.s (.s (.cond (some x) .nil .nil))))) .nil)))))))))) .nil)))))))) .nil))))) (.s (.seq (.s (.blk none (.loop y (.s (.s (.seq (.blk none (.s (.s (.s (.cond (some y) .nil .nil))))) .nil)))))) (.s (.s (.seq (.s (.blk none (.loop z (.s (.seq (.blk none (.seq (.s (.blk (some z) (.loop ⟨[(3,.ref 3 0),(7,.ref 7 0),(10,.own 31),(18,.ref 18 0),(21,.own 1021)],[.var 9 tI,.var 17 tI,.var 22 tI,.var 150 (.sl tBr),.var 151 tI,.var 152 tI,.box 3 tMo,.box 7 tRR,.box 18 tRR,.arr 31 (.hd 90031),.arr 1021 tI,.pool 90031 tRR]⟩ .nil))) .nil)) .nil))))) .nil))))))))))
theorem qlr {Q:(DL×(DRR×(Bool×Unit)))->Prop} (a:DMo) (b:(Option (List DRR))) (c:DL) (hQ:∃ r,Q r) (h:
 (brV (decide ((szSl c)=(0:Int))) (callV Pg q0k [⟨tI,(1:Int)⟩] tRR (fun p0=>Q (none,p0,true,()))) (mkC 24 (szSl c) (szSl c)/\nilAll (α:=(List DRR)) (some (repS (α:=(Option (List DRR))) (szSl c) none))/\loopV (Option (List DRR)×DL×Int×Int×DMo×DRR×Option (List (Option Nat))×List (List DRR)) (fun k0  (i,j,k,l,m,n,o,p)=>brV (decide ((0:Int)<=l)) (ownV Pg q0Y [⟨tI,szSl m⟩] tRR (fun p2=>inS o l/\loopV (Option (List DRR)×DL×Int×Int×DMo×Int×Int×DMo×DRR×Option (List (Option Nat))×List (List DRR)) (fun k3  (q,r,s,t,u,v,w,x,y,z,e)=>brV (decide (w<v)) (joinV (Option (List DRR)×DL×Int×Int×DMo×Int×Int×DMo×DRR×Option (List (Option Nat))×List (List DRR)) (fun (f,g,d,A,B,C,D,E)=>k3 (f,g,d,A,B,C,IntKind.wrap IntKind.i64 (D+(1:Int)),E)) (fun k5=>inS u w/\inS r t/\brV (notB (decide ((eltS ((0:Int),(0:Int),none) u w).2.1=(eltS (0:Int) r t)))) (k5 (q,r,s,t,u,v,w,x,y,z,e)) (brV (decide (t=(IntKind.wrap IntKind.i64 (s - (1:Int))))) (inS z t/\callV Pg q0k [⟨tI,(1:Int)⟩] tRR (fun p6=>inH e (eltN none z (toN t)) w/\k5 (q,r,s,t,u,v,w,x,y,z,setR e (Option.getD (eltN none z (toN t)) 0) (toN w) p6))) (callV Pg q1z [⟨tMo,x⟩,⟨tI,w⟩] tCh (fun p6=>loopV (Option (List DRR)×DL×Int×Int×Int×DMo×Int×Int×Option (List DBr)×Int×Int×DMo×DRR×Option (List (Option Nat))×List (List DRR)) (fun k7  (f,g,d,A,B,C,D,E,F,G,H,I,J,K,L)=>brV (decide (H<G)) (inS F H/\callV Pg q0J [⟨tNum,(eltS ((0:Int),(0:Int),(0:Int)) F H).2⟩] tRR (fun p9=>inS K (IntKind.wrap IntKind.i64 (A+(1:Int)))/\inH L (eltN none K (toN (IntKind.wrap IntKind.i64 (A+(1:Int))))) (eltS ((0:Int),(0:Int),(0:Int)) F H).1/\callV Pg q0W [⟨tRR,p9⟩,⟨tRR,rowE z0 L (Option.getD (eltN none K (toN (IntKind.wrap IntKind.i64 (A+(1:Int))))) 0) (toN (eltS ((0:Int),(0:Int),(0:Int)) F H).1)⟩] tRR (fun p10=>inS K A/\inH L (eltN none K (toN A)) B/\callV Pg q1b [⟨tRR,p10⟩,⟨tRR,rowE z0 L (Option.getD (eltN none K (toN A)) 0) (toN B)⟩] tI (fun p11=>joinV (Option (List DRR)×DL×Int×Int×Int×DMo×Int×Int×Option (List DBr)×Int×Int×DMo×DRR×Option (List (Option Nat))×List (List DRR)) (fun (M,N,O,P,R,S,T,U,V,W,X,Y)=>k7 (M,N,O,P,R,S,T,U,V,W,IntKind.wrap IntKind.i64 (X+(1:Int)),Y)) (fun k12=>brV (decide ((0:Int)<p11)) (inS K A/\inH L (eltN none K (toN A)) B/\k12 (f,g,d,A,B,C,D,E,F,G,H,I,J,K,setR L (Option.getD (eltN none K (toN A)) 0) (toN B) p10)) (k12 (f,g,d,A,B,C,D,E,F,G,H,I,J,K,L))))))) (k5 (f,g,d,A,C,D,E,I,J,K,L))) (q,r,s,t,w,u,v,w,p6.2,szSl p6.2,(0:Int),x,y,z,e)))))) (k0 (q,r,s,IntKind.wrap IntKind.i64 (t - (1:Int)),x,y,z,e))) (i,j,k,l,m,szSl m,(0:Int),m,n,setO o (toN l) (gvH (α:=(List DRR)) p2 (lenL p)),gvL p p2))) (callV Pg q0k [⟨tI,(0:Int)⟩] tRR (fun p2=>loopV (Option (List DRR)×Int×Int×Int×Int×DMo×DRR×DRR×Option (List (Option Nat))×List (List DRR)) (fun k3  (q,r,s,t,u,v,w,x,y,z)=>brV (decide (u<t)) (inS q u/\inS y (0:Int)/\inH z (eltN none y (toN (0:Int))) u/\callV Pg q0W [⟨tRR,eltS z0 q u⟩,⟨tRR,rowE z0 z (Option.getD (eltN none y (toN (0:Int))) 0) (toN u)⟩] tRR (fun p5=>callV Pg q1b [⟨tRR,p5⟩,⟨tRR,x⟩] tI (fun p6=>joinV (Option (List DRR)×Int×Int×Int×Int×DMo×DRR×DRR×Option (List (Option Nat))×List (List DRR)) (fun (e,f,g,d,A,B)=>k3 (e,f,g,d,IntKind.wrap IntKind.i64 (A+(1:Int)),B)) (fun k7=>brV (decide ((0:Int)<p6)) (k7 (q,r,u,t,u,v,w,p5,y,z)) (k7 (q,r,s,t,u,v,w,x,y,z)))))) (brV (decide (s<(0:Int))) (Q (none,x,false,())) (loopV (Int×Int×Int×DMo×DRR×DRR×Option (List (Option Nat))×DL×List (List DRR)) (fun k5  (e,f,g,d,A,B,C,D,E)=>brV (decide (g<e)) (callV Pg q1z [⟨tMo,d⟩,⟨tI,f⟩] tCh (fun p7=>joinV (Int×Int×Int×DMo×DRR×DRR×Option (List (Option Nat))×DL×List (List DRR)) (fun (F,G,H,I,J,K,L,M,N)=>appC 8 M (lst (some [G]))/\k5 (F,G,IntKind.wrap IntKind.i64 (H+(1:Int)),I,J,K,L,appL M (lst (some [G])),N)) (fun k8=>loopV (Int×Int×Int×Option (List DBr)×Int×Int×DMo×DRR×DRR×Option (List (Option Nat))×DL×List (List DRR)) (fun k9  (F,G,H,I,J,K,L,M,N,O,P,R)=>brV (decide (K<J)) (inS I K/\callV Pg q0J [⟨tNum,(eltS ((0:Int),(0:Int),(0:Int)) I K).2⟩] tRR (fun p11=>inS O H/\inH R (eltN none O (toN H)) (eltS ((0:Int),(0:Int),(0:Int)) I K).1/\callV Pg q0W [⟨tRR,p11⟩,⟨tRR,rowE z0 R (Option.getD (eltN none O (toN H)) 0) (toN (eltS ((0:Int),(0:Int),(0:Int)) I K).1)⟩] tRR (fun p12=>inS O (IntKind.wrap IntKind.i64 (H - (1:Int)))/\inH R (eltN none O (toN (IntKind.wrap IntKind.i64 (H - (1:Int))))) G/\callV Pg q1b [⟨tRR,p12⟩,⟨tRR,rowE z0 R (Option.getD (eltN none O (toN (IntKind.wrap IntKind.i64 (H - (1:Int))))) 0) (toN G)⟩] tI (fun p13=>brV (decide (p13=(0:Int))) (k8 (F,(eltS ((0:Int),(0:Int),(0:Int)) I K).1,H,L,M,N,O,P,R)) (k9 (F,G,H,I,J,IntKind.wrap IntKind.i64 (K+(1:Int)),L,M,N,O,P,R)))))) (k8 (F,G,H,L,M,N,O,P,R))) (e,f,g,p7.2,szSl p7.2,(0:Int),d,A,B,C,D,E)))) (Q (D,B,true,()))) (r,s,(1:Int),v,w,x,y,some [s],z)))) (i,k,-(1:Int),szSl m,(0:Int),m,n,p2,o,p)))) (b,c,szSl c,IntKind.wrap IntKind.i64 ((szSl c) - (1:Int)),a,z0,hdL (α:=(List DRR)) (some (repS (α:=(Option (List DRR))) (szSl c) none)),[])))):
 callV Pg q3G [⟨tMo,a⟩,⟨(.sl tRR),b⟩,⟨tL,c⟩] (.tup (.pair tL (.pair tRR (.pair .bool .unit)))) Q:=
 q02 (c:=q01 q9h) (ann:=qd0) qfR rfl qiF rfl rfl hQ (kcast (by kernel_rfl) h)
def qbM:Ann:=let x:Shape:=⟨[(4,.ref 4 0),(15,.ref 15 0)],[.var 1 (.sl tNum),.var 2 tL,.var 3 tI,.var 9 tI,.var 10 tI,.var 11 tI,.var 12 (.sl tNum),.var 13 tL,.var 14 tL,.box 4 tMo,.box 15 tNum]⟩;let y:Shape:=⟨[(4,.ref 4 0),(12,.cst .nilSl),(15,.ref 15 0)],[.var 1 (.sl tNum),.var 2 tL,.var 3 tI,.var 10 tI,.var 11 tI,.var 13 tL,.var 14 tL,.box 4 tMo,.box 15 tNum]⟩;(.s (.s (.s (.s (.s (.s (.s (.seq (.s (.cond (some x) (.s (.s (.seq (.s (.s (.cond (some y) (.s (.s (.cond (some y) .nil .nil))) .nil))) (.blk none (.seq (.reg [] [] (some ⟨[(4,.ref 4 0),(12,.cst .nilSl),(15,.ref 15 0)],[.var 1 (.sl tNum),.var 2 tL,.var 3 tI,.var 10 tI,.var 11 tI,.var 13 tL,.var 14 tL,.var 81 .bool,.box 4 tMo,.box 15 tNum]⟩)) (.cond (some x) .nil (.s (.s (.s (.cond (some x) .nil .nil)))))))))) .nil)) (.s (.s (.s (.seq (.reg [] [] (some ⟨[],[.var 8 .bool]⟩)) .nil))))))))))))
theorem qkf {Q:Bool->Prop} (a:DMo) (b:(Option (List (Int×Int)))) (c:DL) (d:Int) (hQ:∃ r,Q r) (h:
 (callV Pg q3b [⟨tMo,a⟩,⟨.sl tNum,b⟩,⟨tL,c⟩] .bool (fun p0=>brV (notB p0) (callV Pg q2w [] .bool (fun p1=>Q p1)) (callV Pg q3E [⟨tMo,a⟩,⟨.sl tNum,b⟩,⟨tL,c⟩] tI (fun p1=>joinV (Option (List (Int×Int))×DL×Int×Int×Int×Int×Option (List (Int×Int))×DL×DL×DMo×Int×Int) (fun (i,j,k,l,m,n,o,p,q,r,s,t)=>callV Pg q40 [⟨tMo,r⟩,⟨.sl tNum,i⟩,⟨tL,j⟩,⟨tI,k⟩] (.tup (.pair (.sl tNum) (.pair tI .unit))) (fun p3=>callV Pg q3X [⟨tMo,r⟩,⟨.sl tNum,i⟩,⟨tL,j⟩] (.tup (.pair tL (.pair tNum (.pair tI .unit)))) (fun p4=>callV Pg q3Z [⟨tMo,r⟩,⟨.sl tNum,i⟩,⟨tL,j⟩] (.tup (.pair tL (.pair tI .unit))) (fun p5=>joinV Bool (fun p6=>Q p6) (fun k6=>brV (decide (p3.2.1=l)) (callV Pg q2G [⟨.sl tNum,p3.1⟩,⟨.sl tNum,o⟩] .bool (fun p7=>brV p7 (brV (decide (p4.2.2.1=m)) (callV Pg q1U [⟨tL,p4.1⟩,⟨tL,p⟩] .bool (fun p8=>brV p8 (brV (andB (decide (p4.2.1.1=s)) (andB (decide (p4.2.1.2=t)) true)) (brV (decide (p5.2.1=n)) (callV Pg q1U [⟨tL,p5.1⟩,⟨tL,q⟩] .bool (fun p9=>brV p9 (callV Pg q2w [] .bool (fun p10=>k6 p10)) (k6 false))) (k6 false)) (k6 false)) (k6 false))) (k6 false)) (k6 false))) (k6 false)))))) (fun k2=>brV (decide (p1=(0:Int))) (callV Pg q20 [⟨.sl tNum,b⟩] (.sl tRR) (fun p3=>callV Pg q3I [⟨tMo,a⟩,⟨.sl tRR,p3⟩,⟨tL,c⟩] tL (fun p4=>callV Pg q20 [⟨.sl tNum,b⟩] (.sl tRR) (fun p5=>callV Pg q3G [⟨tMo,a⟩,⟨.sl tRR,p5⟩,⟨tL,c⟩] (.tup (.pair tL (.pair tRR (.pair .bool .unit)))) (fun p6=>joinV (Option (List (Int×Int))×DL×Int×Int×Int×DL×DL×DMo×Int×Int) (fun (i,j,k,l,m,n,o,p)=>joinV (Option (List (Int×Int))×DL×Int×Int×Int×DL×DL×Bool×DMo×Int×Int) (fun (q,r,s,t,u,v,w,x,y,z)=>joinV (Option (List (Int×Int))×DL×Int×Int×Int×Int×Option (List (Int×Int))×DL×DL×DMo×Int×Int) (fun e=>k2 e) (fun k9=>brV x (k9 (q,r,s,(6:Int),t,u,none,v,w,y,z)) (callV Pg q20 [⟨.sl tNum,q⟩] (.sl tRR) (fun p10=>callV Pg q3K [⟨tMo,y⟩,⟨.sl tRR,p10⟩,⟨tL,r⟩,⟨tI,s⟩] (.tup (.pair (.sl tRR) (.pair .bool .unit))) (fun p11=>callV Pg q3x [⟨.sl tRR,p11.1⟩] (.tup (.pair (.sl tNum) (.pair tI .unit))) (fun p12=>joinV (Option (List (Int×Int))×DL×Int×Int×Int×Int×Option (List (Int×Int))×DL×DL×DMo×Int×Int) (fun e=>k9 e) (fun k13=>brV (notB p11.2.1) (k13 (q,r,s,(5:Int),t,u,p12.1,v,w,y,z)) (k13 (q,r,s,p12.2.1,t,u,p12.1,v,w,y,z))))))))) (fun k8=>brV (decide (k<(0:Int))) (k8 (i,j,k,l,m,n,o,true,p)) (k8 (i,j,k,l,m,n,o,decide ((szSl j)<=k),p)))) (fun k7=>brV p6.2.2.1 (callV Pg q3r [⟨tRR,p6.2.1⟩] (.tup (.pair tNum (.pair tI .unit))) (fun p8=>joinV (Option (List (Int×Int))×DL×Int×Int×Int×DL×DL×DMo×Int×Int) (fun i=>k7 i) (fun k9=>brV (notB (decide (p8.2.1=(0:Int)))) (k9 (b,c,d,p8.2.1,p1,none,p4,a,p8.1)) (k9 (b,c,d,p8.2.1,p1,p6.1,p4,a,p8.1))))) (k7 (b,c,d,(5:Int),p1,p6.1,p4,a,(0:Int),(0:Int))))))))) (k2 (b,c,d,p1,p1,p1,none,none,none,a,(0:Int),(0:Int))))))))):
 callV Pg q4z [⟨tMo,a⟩,⟨(.sl tNum),b⟩,⟨tL,c⟩,⟨tI,d⟩] .bool Q:=
 q02 (c:=q01 q85) (ann:=qbM) qeH rfl qhv rfl rfl hQ (kcast (by kernel_rfl) h)
end Go.Proofs.Pf
namespace Go.Proofs.Pf
open Go Go.VM
set_option maxRecDepth 100000
def qdr:Ann:=(.s (.seq (.reg [] [] (some ⟨[],[.var 6 .bool]⟩)) .nil))
theorem qlS {Q:Bool->Prop} (a:Bool) (b:Bool) (c:DR) (hQ:∃ r,Q r) (h:
 (joinV Bool (fun p0=>Q p0) (fun k0=>brV a (k0 true) (k0 b)))):
 callV Pg q0K [⟨.bool,a⟩,⟨.bool,b⟩,⟨tER,c⟩] .bool Q:=
 q02 (c:=q01 q9F) (ann:=qdr) qgf rfl qj3 rfl rfl hQ (kcast (by kernel_rfl) h)
def qdE:Ann:=let x:Shape:=⟨[(3,.cst (.fn q0K)),(9,.own 15)],[.var 0 (.sl (.sl tER)),.var 1 (.sl .bool),.var 2 .bool,.var 10 tI,.var 17 tI,.var 18 tI,.var 24 (.sl tER),.var 25 tI,.var 26 tI,.arr 15 .bool]⟩;(.s (.s (.seq (.s (.blk none (.loop ⟨[(3,.cst (.fn q0K)),(9,.own 15)],[.var 0 (.sl (.sl tER)),.var 1 (.sl .bool),.var 2 .bool,.var 17 tI,.var 18 tI,.arr 15 .bool]⟩ (.s (.s (.seq (.blk none (.s (.s (.blk none (.loop x (.s (.s (.seq (.blk none (.s (.blk none (.s (.cond (some x) .nil (.s (.cond (some x) .nil .nil))))))) .nil)))))))) .nil)))))) .nil)))
theorem qm5 {Q:(Option (List Bool))->Prop} (a:(Option (List (Option (List DR))))) (b:(Option (List Bool))) (c:Bool) (d:Unit) (hQ:∃ r,Q r) (h:
 (mkC 1 (szSl b) (szSl b)/\loopV (Option (List (Option (List DR)))×Option (List Bool)×Bool×Int×Int×Option (List Bool)) (fun k0  (i,j,k,l,m,n)=>brV (decide (m<l)) (inS i m/\loopV (Option (List (Option (List DR)))×Option (List Bool)×Bool×Int×Int×Int×Option (List DR)×Int×Int×Option (List Bool)) (fun k2  (o,p,q,r,s,t,u,v,w,x)=>brV (decide (w<v)) (inS u w/\callV Pg q0i [⟨tER,eltS r0 u w⟩] tI (fun p4=>joinV (Option (List (Option (List DR)))×Option (List Bool)×Bool×Int×Int×Int×Option (List DR)×Int×Int×Option (List Bool)) (fun (y,z,e,f,g,d,A,B,C,D)=>k2 (y,z,e,f,g,d,A,B,IntKind.wrap IntKind.i64 (C+(1:Int)),D)) (fun k5=>brV (decide (p4=(0:Int))) (k5 (o,p,q,r,s,t,u,v,w,x)) (joinV (Option (List (Option (List DR)))×Option (List Bool)×Bool×Int×Int×Int×Option (List DR)×Int×Int×Option (List Bool)) (fun y=>k5 y) (fun k6=>brV q (inS x r/\inS p w/\callV Pg q0K [⟨.bool,eltN false x (toN r)⟩,⟨.bool,eltS false p w⟩,⟨tER,eltS r0 u w⟩] .bool (fun p7=>inS x r/\k6 (o,p,q,r,s,t,u,v,w,setO x (toN r) p7))) (inS x w/\inS p r/\callV Pg q0K [⟨.bool,eltN false x (toN w)⟩,⟨.bool,eltS false p r⟩,⟨tER,eltS r0 u w⟩] .bool (fun p7=>inS x w/\k6 (o,p,q,r,s,t,u,v,w,setO x (toN w) p7)))))))) (k0 (o,p,q,s,IntKind.wrap IntKind.i64 (t+(1:Int)),x))) (i,j,k,m,l,m,eltS none i m,szSl (eltS none i m),(0:Int),n)) (Q n)) (a,b,c,szSl a,(0:Int),some (repS (szSl b) false)))):
 callV Pg q45 [⟨(.sl (.sl tER)),a⟩,⟨(.sl .bool),b⟩,⟨.bool,c⟩,⟨(.cst (.fn q0K)),d⟩] (.sl .bool) Q:=
 q02 (c:=q01 q9S) (ann:=qdE) qgs rfl qjg rfl rfl hQ (kcast (by kernel_rfl) h)
def qdI:Ann:=let x:Shape:=⟨[(7,.own 12)],[.var 1 (.sl .bool),.var 2 tI,.var 14 (.sl tSt),.var 15 tI,.var 16 tI,.arr 12 .bool]⟩;(.s (.s (.seq (.s (.blk none (.loop x (.s (.s (.seq (.blk none (.s (.s (.cond (some x) .nil .nil)))) .nil)))))) .nil)))
theorem qm9 {Q:(Option (List Bool))->Prop} (a:DMo) (b:(Option (List Bool))) (c:Int) (hQ:∃ r,Q r) (h:
 (mkC 1 (szSl b) (szSl b)/\loopV (Option (List Bool)×Int×DMo×Int×Int×Option (List Bool)) (fun k0  (i,j,k,l,m,n)=>brV (decide (m<l)) (inS k m/\joinV (Option (List Bool)×Int×DMo×Int×Int×Option (List Bool)) (fun (o,p,q,r,s,t)=>k0 (o,p,q,r,IntKind.wrap IntKind.i64 (s+(1:Int)),t)) (fun k2=>brV (decide ((eltS ((0:Int),(0:Int),none) k m).2.1=j)) (inS i m/\inS n m/\k2 (i,j,k,l,m,setO n (toN m) (eltS false i m))) (k2 (i,j,k,l,m,n)))) (Q n)) (b,c,a,szSl a,(0:Int),some (repS (szSl b) false)))):
 callV Pg q46 [⟨tMo,a⟩,⟨(.sl .bool),b⟩,⟨tI,c⟩] (.sl .bool) Q:=
 q02 (c:=q01 q9U) (ann:=qdI) qgu rfl qji rfl rfl hQ (kcast (by kernel_rfl) h)
def qds:Ann:=.nil
theorem qlT {Q:Bool->Prop} (a:Int) (b:(Option (List Bool))) (hQ:∃ r,Q r) (h:
 (inS b a/\Q (eltS false b a))):
 callV Pg q1d [⟨tI,a⟩,⟨(.fref (.sl .bool)),b⟩] .bool Q:=
 q02 (c:=q01 q9G) (ann:=qds) qgg rfl qj4 rfl rfl hQ (kcast (by kernel_rfl) h)
def qbJ:Ann:=let x:Shape:=⟨[(5,.own 1005)],[.var 1 (.clo q1d (.pair (.fref (.sl .bool)) .unit)),.var 7 tI,.var 8 tI,.arr 1005 tI]⟩;(.s (.s (.seq (.s (.blk none (.loop x (.s (.s (.seq (.blk none (.s (.s (.cond (some x) .nil .nil)))) .nil)))))) .nil)))
theorem qkc {Q:DL->Prop} (a:Int) (b:((Option (List Bool))×Unit)) (hQ:∃ r,Q r) (h:
 (loopV ((Option (List Bool)×Unit)×Int×DE) (fun k0  (i,j,k)=>brV (decide (k.1<j)) (callV Pg q1d [⟨tI,k.1⟩,⟨.fref (.sl .bool),i.1⟩] .bool (fun p2=>joinV ((Option (List Bool)×Unit)×Int×DE) (fun (l,m,n)=>k0 (l,m,IntKind.wrap IntKind.i64 (n.1+(1:Int)),n.2)) (fun k3=>brV p2 (appC 8 k.2 (lst (some [k.1]))/\k3 (i,j,k.1,appL k.2 (lst (some [k.1])))) (k3 (i,j,k))))) (Q k.2)) (b,a,(0:Int),none))):
 callV Pg q3a [⟨tI,a⟩,⟨(.clo q1d (.pair (.fref (.sl .bool)) .unit)),b⟩] tL Q:=
 q02 (c:=q01 q82) (ann:=qbJ) qeE rfl qhs rfl rfl hQ (kcast (by kernel_rfl) h)
def qdq:Ann:=(.s (.s (.s (.s (.seq (.s (.blk none (.loop ⟨[(3,.ref 3 0),(10,.ref 10 0)],[.var 2 tL,.var 9 (.sl (.sl tER)),.var 28 (.sl tNum),.var 29 tI,.var 30 tI,.box 3 tMo,.box 10 (.own 27),.arr 27 .bool]⟩ .nil))) (.seq (.seq (.reg [] [(4095,([27],false))] none) (.blk none (.loop ⟨[(3,.ref 3 0),(10,.ref 10 0)],[.var 9 (.sl (.sl tER)),.var 42 tL,.var 43 tI,.var 44 tI,.box 3 tMo,.box 10 (.sl .bool)]⟩ (.s (.s (.seq (.blk none (.s (.seq (.s (.cond (some ⟨[(3,.ref 3 0),(10,.ref 10 0)],[.var 9 (.sl (.sl tER)),.var 14 tI,.var 42 tL,.var 43 tI,.var 44 tI,.box 3 tMo,.box 10 (.sl .bool)]⟩) .nil .nil)) .nil))) .nil)))))) (.seq (.reg [] [(3,([10],false))] none) .nil)))))))
theorem qlR {Q:(DL×(Int×Unit))->Prop} (a:DMo) (b:(Option (List (Int×Int)))) (c:DL) (hQ:∃ r,Q r) (h:
 (callV Pg q1e [⟨tMo,a⟩,⟨.sl tNum,b⟩,⟨tL,c⟩] tI (fun p0=>brV (notB (decide (p0=(0:Int)))) (Q (none,p0,())) (callV Pg q0E [⟨tMo,a⟩] (.sl (.sl tER)) (fun p1=>mkC 1 (szSl a) (szSl a)/\loopV (DL×Option (List (Option (List DR)))×Option (List (Int×Int))×Int×Int×DMo×Unit×Option (List Bool)) (fun k2  (i,j,k,l,m,n,_,o)=>brV (decide (m<l)) (inS k m/\inS o m/\k2 (i,j,k,l,IntKind.wrap IntKind.i64 (m+(1:Int)),n,(),setO o (toN m) (decide ((0:Int)<(eltS ((0:Int),(0:Int)) k m).1)))) (loopV (Option (List (Option (List DR)))×DL×Int×Int×DMo×Option (List Bool)) (fun k4  (p,q,r,s,t,u)=>brV (decide (s<r)) (inS q s/\joinV (Option (List (Option (List DR)))×Int×DL×Int×Int×DMo×Option (List Bool)) (fun (v,w,x,y,z,e,f)=>callV Pg q46 [⟨tMo,e⟩,⟨.sl .bool,f⟩,⟨tI,w⟩] (.sl .bool) (fun p7=>k4 (v,x,y,IntKind.wrap IntKind.i64 (z+(1:Int)),e,p7))) (fun k6=>brV (decide ((0:Int)<s)) (callV Pg q45 [⟨.sl (.sl tER),p⟩,⟨.sl .bool,u⟩,⟨.bool,false⟩,⟨.cst (.fn q0K),()⟩] (.sl .bool) (fun p7=>k6 (p,eltS (0:Int) q s,q,r,s,t,p7))) (k6 (p,eltS (0:Int) q s,q,r,s,t,u)))) (callV Pg q3a [⟨tI,szSl u⟩,⟨.clo q1d (.pair (.fref (.sl .bool)) .unit),(u,())⟩] tL (fun p6=>Q (p6,(0:Int),())))) (j,i,szSl i,(0:Int),n,o))) (c,p1,b,szSl b,(0:Int),a,(),some (repS (szSl a) false))))))):
 callV Pg q3Z [⟨tMo,a⟩,⟨(.sl tNum),b⟩,⟨tL,c⟩] (.tup (.pair tL (.pair tI .unit))) Q:=
 q02 (c:=q01 q9E) (ann:=qdq) qge rfl qj2 rfl rfl hQ (kcast (by kernel_rfl) h)
def qdG:Ann:=let x:Shape:=⟨[(3,.cst (.fn q0a)),(9,.own 15)],[.var 0 (.sl (.sl tER)),.var 1 (.sl tER),.var 2 .bool,.var 10 tI,.var 17 tI,.var 18 tI,.var 24 (.sl tER),.var 25 tI,.var 26 tI,.arr 15 tER]⟩;(.s (.s (.seq (.s (.blk none (.loop ⟨[(3,.cst (.fn q0a)),(9,.own 15)],[.var 0 (.sl (.sl tER)),.var 1 (.sl tER),.var 2 .bool,.var 17 tI,.var 18 tI,.arr 15 tER]⟩ (.s (.s (.seq (.blk none (.s (.s (.blk none (.loop x (.s (.s (.seq (.blk none (.s (.blk none (.s (.cond (some x) .nil (.s (.cond (some x) .nil .nil))))))) .nil)))))))) .nil)))))) .nil)))
theorem qm7 {Q:(Option (List DR))->Prop} (a:(Option (List (Option (List DR))))) (b:(Option (List DR))) (c:Bool) (d:Unit) (hQ:∃ r,Q r) (h:
 (mkC 64 (szSl b) (szSl b)/\loopV (Option (List (Option (List DR)))×Option (List DR)×Bool×Int×Int×Option (List DR)) (fun k0  (i,j,k,l,m,n)=>brV (decide (m<l)) (inS i m/\loopV (Option (List (Option (List DR)))×Option (List DR)×Bool×Int×Int×Int×Option (List DR)×Int×Int×Option (List DR)) (fun k2  (o,p,q,r,s,t,u,v,w,x)=>brV (decide (w<v)) (inS u w/\callV Pg q0i [⟨tER,eltS r0 u w⟩] tI (fun p4=>joinV (Option (List (Option (List DR)))×Option (List DR)×Bool×Int×Int×Int×Option (List DR)×Int×Int×Option (List DR)) (fun (y,z,e,f,g,d,A,B,C,D)=>k2 (y,z,e,f,g,d,A,B,IntKind.wrap IntKind.i64 (C+(1:Int)),D)) (fun k5=>brV (decide (p4=(0:Int))) (k5 (o,p,q,r,s,t,u,v,w,x)) (joinV (Option (List (Option (List DR)))×Option (List DR)×Bool×Int×Int×Int×Option (List DR)×Int×Int×Option (List DR)) (fun y=>k5 y) (fun k6=>brV q (inS x r/\inS p w/\callV Pg q0a [⟨tER,eltN r0 x (toN r)⟩,⟨tER,eltS r0 p w⟩,⟨tER,eltS r0 u w⟩] tER (fun p7=>inS x r/\k6 (o,p,q,r,s,t,u,v,w,setO x (toN r) p7))) (inS x w/\inS p r/\callV Pg q0a [⟨tER,eltN r0 x (toN w)⟩,⟨tER,eltS r0 p r⟩,⟨tER,eltS r0 u w⟩] tER (fun p7=>inS x w/\k6 (o,p,q,r,s,t,u,v,w,setO x (toN w) p7)))))))) (k0 (o,p,q,s,IntKind.wrap IntKind.i64 (t+(1:Int)),x))) (i,j,k,m,l,m,eltS none i m,szSl (eltS none i m),(0:Int),n)) (Q n)) (a,b,c,szSl a,(0:Int),some (repS (α:=DR) (szSl b) r0)))):
 ownV Pg q1f [⟨(.sl (.sl tER)),a⟩,⟨(.sl tER),b⟩,⟨.bool,c⟩,⟨(.cst (.fn q0a)),d⟩] tER Q:=
 q1l (c:=q01 q6a) (ann:=qdG) q7q rfl qaC rfl rfl hQ (kcast (by kernel_rfl) h)
def qdt:Ann:=(.s (.s (.seq (.seq (.reg [] [] (some ⟨[(4,.ref 4 0)],[.var 1 (.sl tNum),.var 2 tL,.var 3 tI,.var 31 .bool,.box 4 tMo]⟩)) .nil) (.s (.s (.seq (.s (.blk none (.loop ⟨[(4,.ref 4 0),(12,.own 37)],[.var 1 (.sl tNum),.var 2 tL,.var 3 tI,.var 11 (.sl (.sl tER)),.var 39 tI,.var 40 tI,.box 4 tMo,.arr 37 tER]⟩ .nil))) (.seq (.s (.blk none (.loop ⟨[(4,.ref 4 0),(12,.own 1012)],[.var 1 (.sl tNum),.var 2 tL,.var 3 tI,.var 11 (.sl (.sl tER)),.var 14 tI,.box 4 tMo,.arr 1012 tER]⟩ (.s (.seq (.blk none (.reg [1012] [(8,([],true)),(4095,([.cut 12 37],false))] none)) .nil))))) (.seq (.s (.blk none (.loop ⟨[(12,.own 1012)],[.var 72 (.sl tER),.var 73 tI,.var 74 tI,.arr 1012 tER]⟩ .nil))) (.seq (.reg [] [(1,([1012],false))] none) .nil)))))))))
theorem qlU {Q:((Option (List (Int×Int)))×(Int×Unit))->Prop} (a:DMo) (b:(Option (List (Int×Int)))) (c:DL) (d:Int) (hQ:∃ r,Q r) (h:
 (callV Pg q1e [⟨tMo,a⟩,⟨.sl tNum,b⟩,⟨tL,c⟩] tI (fun p0=>brV (notB (decide (p0=(0:Int)))) (Q (none,p0,())) (joinV (Option (List (Int×Int))×DL×Int×Bool×DMo) (fun (i,j,k,l,m)=>brV l (Q (none,(6:Int),())) (callV Pg q0E [⟨tMo,m⟩] (.sl (.sl tER)) (fun p2=>mkC 64 (szSl m) (szSl m)/\loopV (Option (List (Int×Int))×DL×Int×Option (List (Option (List DR)))×Int×Int×DMo×Option (List DR)) (fun k3  (n,o,p,q,r,s,t,u)=>brV (decide (s<r)) (callV Pg q0Z [] tER (fun p5=>inS u s/\k3 (n,o,p,q,r,IntKind.wrap IntKind.i64 (s+(1:Int)),t,setO u (toN s) p5))) (loopV (Option (List (Int×Int))×DL×Int×Option (List (Option (List DR)))×Int×DMo×Option (List DR)) (fun k5  (v,w,x,y,z,e,f)=>brV (decide (x<z)) (inS w z/\callV Pg q1B [⟨tMo,e⟩,⟨.sl tER,f⟩,⟨tI,eltS (0:Int) w z⟩] (.sl tER) (fun p7=>ownV Pg q1f [⟨.sl (.sl tER),y⟩,⟨.sl tER,p7⟩,⟨.bool,true⟩,⟨.cst (.fn q0a),()⟩] tER (fun p8=>k5 (v,w,x,y,IntKind.wrap IntKind.i64 (z - (1:Int)),e,p8)))) (callV Pg q19 [⟨.sl tNum,v⟩] (.sl tER) (fun p7=>callV Pg q2M [⟨tMo,e⟩,⟨.sl tER,p7⟩,⟨tL,w⟩] (.sl (.sl tER)) (fun p8=>inS p8 x/\loopV (Option (List DR)×Int×Int×Option (List DR)) (fun k9  (g,A,B,C)=>brV (decide (B<A)) (inS g B/\inS C B/\callV Pg q0G [⟨tER,eltN r0 C (toN B)⟩,⟨tER,eltS r0 g B⟩] tER (fun p11=>inS C B/\k9 (g,A,IntKind.wrap IntKind.i64 (B+(1:Int)),setO C (toN B) p11))) (callV Pg q2N [⟨.sl tER,C⟩] (.tup (.pair (.sl tNum) (.pair tI .unit))) (fun p11=>Q (p11.1,p11.2.1,())))) (eltS none p8 x,szSl (eltS none p8 x),(0:Int),f))))) (n,o,p,q,IntKind.wrap IntKind.i64 ((szSl o) - (1:Int)),t,u))) (i,j,k,p2,szSl (some (repS (α:=DR) (szSl m) r0)),(0:Int),m,some (repS (α:=DR) (szSl m) r0))))) (fun k1=>brV (decide (d<(0:Int))) (k1 (b,c,d,true,a)) (k1 (b,c,d,decide ((szSl c)<=d),a))))))):
 callV Pg q40 [⟨tMo,a⟩,⟨(.sl tNum),b⟩,⟨tL,c⟩,⟨tI,d⟩] (.tup (.pair (.sl tNum) (.pair tI .unit))) Q:=
 q02 (c:=q01 q9H) (ann:=qdt) qgh rfl qj5 rfl rfl hQ (kcast (by kernel_rfl) h)
end Go.Proofs.Pf
