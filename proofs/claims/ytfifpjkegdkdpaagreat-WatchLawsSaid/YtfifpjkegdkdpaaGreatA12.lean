/- Typed pure data, a condition on code that says what a call gives, what the code of each function comes to, and what each function gives. -/
import Derived.Scope
import Derived.Lib.LaidTab
import Derived.Lib.ItoaNum
import Derived.Laws.CopyRow
import Derived.Laws.AppendOwn
import Derived.Laws.MakeOwn
import Derived.Laws.BytesString
import Derived.Laws.StructEq
import Derived.Laws.Small
import Derived.Tactics
import Derived.Calls
import Derived.Below
import Derived.KernelRfl
import Derived.Laws.Cells
import Derived.Test.YtfifpjkegdkdpaaGreatProg
import Derived.Test.YtfifpjkegdkdpaaGreatA9
import Derived.Test.YtfifpjkegdkdpaaGreatA10
import Derived.Test.YtfifpjkegdkdpaaGreatA11
set_option linter.unusedVariables false
set_option linter.unusedSimpArgs false
set_option linter.unnecessarySimpa false
namespace Go.Proofs.Pf
open Go Go.VM
variable {x y:(Int×Option (List Int))×(Int×Option (List Int))} {q r:Rat} {k:Nat}
theorem q6n {a:Int×Option (List Int)} {n:Int} (h:IV a n):RV (a,((0:Int),none)) (Rat.divInt n 1):=by
 obtain⟨h1,h2⟩:=qco n
 refine⟨by rw[h1];exact h,.inr ⟨⟨rfl,by decide,by decide⟩,by rw[h2];rfl⟩⟩
theorem q2F (hlong:LongS) (hx:RV x q) (hy:RV y r) (fx:RFit k q) (fy:RFit k r) (hk:k+k<=1073741824):callV Pg q0E [⟨tER,x⟩,⟨tER,y⟩] tER fun z=>RV z (q*r):=by
 have hq:=q.den_nz
 have hr:=r.den_nz
 refine qhk x y (RV_ex _) (joinR (fun p=>∃ b:Bool,p=(b,x,y,((0:Int),none),((0:Int),none))/\(b=true->q.den=1/\r.den=1)) ?_ ?_)
 . rintro _ ⟨b,rfl,hb⟩
   have hm:=s_Mul hx.1 hy.1 fx.1 fy.1 (by omega) (by omega)
   refine q00.2 ⟨fun h=>?_,fun _=>?_⟩
   . obtain⟨h1,h2⟩:=hb h
     refine hm.mono fun p hp=>?_
     rw[q60,h1,h2]
     exact q6n hp
   . refine hm.mono fun p1 h1=>(s_Low hx).mono fun p2 h2=>(s_Low hy).mono fun p3 h3=>(s_Mul h2 h3 fx.2 fy.2 (by omega) (by omega)).mono fun p4 h4=>?_
     refine (q4V hlong h1 h4 ?_ (fx.1.mul fy.1 (Nat.le_refl _)) (fx.2.mul fy.2 (Nat.le_refl _)) hk).mono fun p5 h5=>?_
     . exact Int.mul_ne_zero (by omega) (by omega)
     . rw[q60];exact h5
 . intro k' hk'
   refine (q51 hx).mono fun b hb=>q00.2 ⟨fun h=>?_,fun _=>hk' _ ⟨false,rfl,fun h=>by simp at h⟩⟩
   refine (q51 hy).mono fun c hc=>hk' _ ⟨c,rfl,fun h2=>⟨hb h,hc h2⟩⟩
theorem q1W (hlong:LongS) (hx:RV x q) (hy:RV y r) (fx:RFit k q) (fy:RFit k r) (hk:k+k+1<=1073741824):callV Pg q0x [⟨tER,x⟩,⟨tER,y⟩] tER fun z=>RV z (q+r):=by
 have hq:=q.den_nz
 have hr:=r.den_nz
 refine qhg x y (RV_ex _) (joinR (fun p=>∃ b:Bool,p=(b,x,y,((0:Int),none),((0:Int),none))/\(b=true->q.den=1/\r.den=1)) ?_ ?_)
 . rintro _ ⟨b,rfl,hb⟩
   refine q00.2 ⟨fun h=>?_,fun _=>?_⟩
   . obtain⟨h1,h2⟩:=hb h
     refine (s_Add hx.1 hy.1 fx.1 fy.1 (by omega)).mono fun p hp=>?_
     rw[q4K,h1,h2]
     have e:q.num*((1:Nat):Int)+r.num*((1:Nat):Int)=q.num+r.num:=by omega
     rw[e]
     exact q6n hp
   . refine (s_Low hy).mono fun p1 h1=>(s_Mul hx.1 h1 fx.1 fy.2 (by omega) (by omega)).mono fun p2 h2=>?_
     refine (s_Low hx).mono fun p3 h3=>(s_Mul hy.1 h3 fy.1 fx.2 (by omega) (by omega)).mono fun p4 h4=>?_
     refine (s_Add h2 h4 (fx.1.mul fy.2 (Nat.le_refl _)) (fy.1.mul fx.2 (Nat.le_refl _)) (by omega)).mono fun p5 h5=>?_
     refine (s_Low hx).mono fun p6 h6=>(s_Low hy).mono fun p7 h7=>(s_Mul h6 h7 fx.2 fy.2 (by omega) (by omega)).mono fun p8 h8=>?_
     refine (q4V hlong h5 h8 ?_ ((fx.1.mul fy.2 (Nat.le_refl _)).add (fy.1.mul fx.2 (Nat.le_refl _)) (Nat.lt_succ_self _)) ((fx.2.mul fy.2 (Nat.le_refl _)).mono (Nat.le_succ _)) hk).mono fun p9 h9=>?_
     . exact Int.mul_ne_zero (by omega) (by omega)
     . rw[q4K];exact h9
 . intro k' hk'
   refine (q51 hx).mono fun b hb=>q00.2 ⟨fun h=>?_,fun _=>hk' _ ⟨false,rfl,fun h=>by simp at h⟩⟩
   refine (q51 hy).mono fun c hc=>hk' _ ⟨c,rfl,fun h2=>⟨hb h,hc h2⟩⟩
theorem s_RSub (hlong:LongS) (hx:RV x q) (hy:RV y r) (fx:RFit k q) (fy:RFit k r) (hk:k+k+1<=1073741824):callV Pg q2a [⟨tER,x⟩,⟨tER,y⟩] tER fun z=>RV z (q - r):=by
 refine qhn x y (RV_ex _) ((s_RNeg hy).mono fun p h=>?_)
 rw[Rat.sub_eq_add_neg]
 exact (q1W hlong hx h fx ⟨fy.1.neg,fy.2⟩ hk).mono fun z hz=>hz
theorem s_RDiv (hlong:LongS) (hx:RV x q) (hy:RV y r) (fx:RFit k q) (fy:RFit k r) (hk:k+k<=1073741824) (h0:r≠0):callV Pg q29 [⟨tER,x⟩,⟨tER,y⟩] tER fun z=>RV z (q / r):=by
 have hq:=q.den_nz
 refine qhi x y (RV_ex _) ((s_Low hy).mono fun p0 h1=>(s_Mul hx.1 h1 fx.1 fy.2 (by omega) (by omega)).mono fun p1 h2=>?_)
 refine (s_Low hx).mono fun p2 h3=>(s_Mul h3 hy.1 fx.2 fy.1 (by omega) (by omega)).mono fun p3 h4=>?_
 refine (q4V hlong h2 h4 ?_ (fx.1.mul fy.2 (Nat.le_refl _)) (fx.2.mul fy.1 (Nat.le_refl _)) hk).mono fun p4 h5=>?_
 . exact Int.mul_ne_zero (by omega) (fun e=>h0 (Rat.num_eq_zero.1 e))
 . rw[rat_div];exact h5
end Go.Proofs.Pf
namespace Go.Proofs.Pf
open Go Go.VM
def NumOk (a:Int×Int):Prop:=1<=a.2/\a.2<=1152921504606846976/\a.1<=1152921504606846976 /\ -1152921504606846976<=a.1/\Int.gcd a.1 a.2=1
instance (a:Int×Int):Decidable (NumOk a):=by unfold NumOk;infer_instance
def numQ (a:Int×Int):Rat:=Rat.divInt a.1 a.2
theorem NumOk.q {a:Int×Int} (h:NumOk a):(numQ a).num=a.1/\((numQ a).den:Int)=a.2:=by
 obtain⟨h1,h2,h3,h4,h5⟩:=h
 have e:sgn a.2=1:=if_pos (by omega)
 rw[numQ,q4M _ _ (by omega),q4L _ _ (by omega),e,h5]
 simp
def outQ (q:Rat):(Int×Int)×Int×Unit:=if q.num<=1152921504606846976 /\ -1152921504606846976<=q.num/\(q.den:Int)<=1152921504606846976 then ((q.num,(q.den:Int)),0,()) else ((0,0),3,())
theorem s_Out {x:(Int×Option (List Int))×(Int×Option (List Int))} {q:Rat} (hx:RV x q):callV Pg q1D [⟨tER,x⟩] (.tup (.pair tNum (.pair tI .unit))) fun r=>r=outQ q:=by
 refine w_num_Out x ⟨_,rfl⟩ ((s_Top hx).mono fun p0 h0=>(s_Int h0 (by decide) (by decide)).mono ?_)
 rintro _ rfl
 refine (s_Low hx).mono fun p2 h2=>(s_Int h2 (by decide) (by decide)).mono ?_
 rintro _ rfl
 have hd:=q.den_nz
 have e1:(smallI q.num 1152921504606846976).2.1=decide (q.num<=1152921504606846976 /\ -1152921504606846976<=q.num):=by unfold smallI;split<;>simp_all
 have e2:(smallI (q.den:Int) 1152921504606846976).2.1=decide ((q.den:Int)<=1152921504606846976):=by
  unfold smallI;split
  . rename_i h;simp[h.1]
  . rename_i h;simp;omega
 have e3:(q.num<=1152921504606846976 /\ -1152921504606846976<=q.num)->(smallI q.num 1152921504606846976).1=q.num:=by intro h;rw[smallI,if_pos h]
 have e4:((q.den:Int)<=1152921504606846976)->(smallI (q.den:Int) 1152921504606846976).1=(q.den:Int):=by intro h;rw[smallI,if_pos ⟨h,by omega⟩]
 refine joinR (fun p=>∃ b:Bool,p=((smallI q.num 1152921504606846976).1,(smallI (q.den:Int) 1152921504606846976).1,b,(0:Int),(0:Int))/\(b=true↔¬ (q.num<=1152921504606846976 /\ -1152921504606846976<=q.num/\(q.den:Int)<=1152921504606846976))) ?_ ?_
 . rintro _ ⟨b,rfl,hb⟩
   refine q00.2 ⟨fun h=>?_,fun h=>?_⟩
   . rw[outQ,if_neg (hb.1 h)]
   . have h3:q.num<=1152921504606846976 /\ -1152921504606846976<=q.num/\(q.den:Int)<=1152921504606846976:=by
      refine Classical.byContradiction fun hn=>?_
      have:=hb.2 hn
      dsimp only at h
      rw[h] at this;simp at this
     rw[outQ,if_pos h3]
     dsimp only
     rw[e3 ⟨h3.1,h3.2.1⟩,e4 h3.2.2]
 . intro k hk
   rw[e1]
   refine q00.2 ⟨fun h=>hk _ ⟨true,rfl,?_⟩,fun h=>hk _ ⟨_,rfl,?_⟩⟩
   . have h:=not_t h
     simp only[true_iff]
     exact fun h2=>h ⟨h2.1,h2.2.1⟩
   . have h:=not_f h
     rw[e2]
     simp only[notB,Bool.not_eq_true',decide_eq_false_iff_not]
     constructor
     . exact fun h1 h2=>h1 h2.2.2
     . exact fun h1 h2=>h1 ⟨h.1,h.2,h2⟩
theorem fit_i64 {n:Int} (h1:-9223372036854775808<=n) (h2:n<9223372036854775808):Fit 2 n:=by
 unfold Fit
 rw[show (4294967296:Int) ^ 2=18446744073709551616 from rfl]
 omega
theorem q65 (hlong:LongS) (a:Int×Int):callV Pg q1E [⟨tNum,a⟩] .bool fun r=>r=decide (NumOk a):=by
 refine qi1 a ⟨_,rfl⟩ (joinR (fun p=>∃ b:Bool,p=(b,a)/\(b=true->¬ NumOk a)/\(b=false->1<=a.2/\a.2<=1152921504606846976/\a.1<=1152921504606846976 /\ -1152921504606846976<=a.1)) ?_ ?_)
 . rintro _ ⟨b,rfl,h1,h2⟩
   refine q00.2 ⟨fun h=>?_,fun h=>?_⟩
   . exact (decide_eq_false (h1 h)).symm
   . obtain⟨q1,q2,q3,q4⟩:=h2 h
     refine (s_Of (n:=a.1) (by omega) (by omega)).mono fun p1 e1=>(s_Of (n:=a.2) (by omega) (by omega)).mono fun p2 e2=>?_
     refine (s_Gcd hlong e1 e2 (fit_i64 (by omega) (by omega)) (fit_i64 (by omega) (by omega)) (by omega)).mono fun p3 e3=>(s_Int e3 (by decide) (by decide)).mono ?_
     rintro _ rfl
     refine decide_eq_decide.2 ?_
     unfold smallI NumOk
     split
     . constructor
       . intro h;have h:((Int.gcd a.1 a.2:Nat):Int)=1:=h;exact⟨q1,q2,q3,q4,by omega⟩
       . rintro⟨_,_,_,_,h⟩;show ((Int.gcd a.1 a.2:Nat):Int)=1;omega
     . rename_i hn
       constructor
       . intro h;simp at h
       . rintro⟨_,_,_,_,h⟩;exact absurd ⟨by omega,by omega⟩ hn
 . intro k hk
   refine q00.2 ⟨fun h=>hk _ ⟨true,rfl,fun _ hN=>?_,fun h=>by simp at h⟩,fun h=>q00.2 ⟨fun h2=>hk _ ⟨true,rfl,fun _ hN=>?_,fun h=>by simp at h⟩,fun h2=>q00.2 ⟨fun h3=>hk _ ⟨true,rfl,fun _ hN=>?_,fun h=>by simp at h⟩,fun h3=>hk _ ⟨_,rfl,fun h4 hN=>?_,fun h4=>?_⟩⟩⟩⟩
   . have h:a.2<1:=dec_t h
     have:=hN.1;omega
   . have h2:1152921504606846976<a.2:=dec_t h2
     have:=hN.2.1;omega
   . have h3:1152921504606846976<a.1:=dec_t h3
     have:=hN.2.2.1;omega
   . have h4:a.1 < -1152921504606846976:=dec_t h4
     have:=hN.2.2.2.1;omega
   . have h:¬ a.2<1:=dec_f h
     have h2:¬ 1152921504606846976<a.2:=dec_f h2
     have h3:¬ 1152921504606846976<a.1:=dec_f h3
     have h4:¬ a.1 < -1152921504606846976:=dec_f h4
     omega
theorem s_Rat (hlong:LongS) {a:Int×Int} (h:NumOk a):callV Pg q1m [⟨tNum,a⟩] tER fun r=>RV r (numQ a):=by
 obtain⟨q1,q2,q3,q4,_⟩:=h
 refine w_num_Rat a (RV_ex _) ((s_Of (n:=a.1) (by omega) (by omega)).mono fun p1 e1=>(s_Of (n:=a.2) (by omega) (by omega)).mono fun p2 e2=>?_)
 exact (q4V hlong e1 e2 (by omega) (fit_i64 (by omega) (by omega)) (fit_i64 (by omega) (by omega)) (by omega)).mono fun p h=>h
theorem NumOk.fit {a:Int×Int} (h:NumOk a):RFit 2 (numQ a):=by
 obtain⟨e1,e2⟩:=h.q
 obtain⟨q1,q2,q3,q4,_⟩:=h
 exact⟨by rw[e1];exact fit_i64 (by omega) (by omega),by rw[e2];exact fit_i64 (by omega) (by omega)⟩
end Go.Proofs.Pf
namespace Go.Proofs.Pf
open Go Go.VM
def makeQ (n m:Int):(Int×Int)×Int×Unit:=if m=0 then ((0,0),6,()) else outQ (Rat.divInt n m)
theorem q5T {q:Rat} (h:(outQ q).2.1=0):NumOk (outQ q).1/\numQ (outQ q).1=q:=by
 unfold outQ at h ⊢
 split at h
 . rename_i h2
   rw[if_pos h2]
   have hd:=q.den_nz
   refine⟨⟨by dsimp only;omega,h2.2.2,h2.1,h2.2.1,?_⟩,?_⟩
   . have:=q.reduced;unfold Nat.Coprime at this;exact this
   . exact Rat.num_divInt_den q
 . simp at h
end Go.Proofs.Pf
namespace Go.Proofs.Pf
open Go Go.VM
theorem eqNum (x y:Int×Int):andB (decide (x.1=y.1)) (andB (decide (x.2=y.2)) true)=decide (x=y):=by
 obtain⟨a,b⟩:=x
 obtain⟨c,d⟩:=y
 by_cases h1:a=c<;>by_cases h2:b=d<;>simp[andB,h1,h2]
end Go.Proofs.Pf
namespace Go.Proofs.Pf.B
open Go Go.VM
def RRV (x:(Int×Bool×Option (List Int))×(Int×Bool×Option (List Int))) (q:Rat):Prop:=RIV x.1 q.num/\RIV x.2 (q.den:Int)
theorem RRV_ex (q:Rat):∃ r,RRV r q:=by
 obtain⟨a,ha⟩:=RIV_ex q.num
 obtain⟨b,hb⟩:=RIV_ex (q.den:Int)
 exact⟨(a,b),ha,hb⟩
def RFit (k:Nat) (q:Rat):Prop:=Fit k q.num/\Fit k (q.den:Int)
theorem RFit.mono {k j:Nat} {q:Rat} (h:RFit k q) (hj:k<=j):RFit j q:=⟨h.1.mono hj,h.2.mono hj⟩
theorem fit_i64 {n:Int} (h1:-9223372036854775808<=n) (h2:n<9223372036854775808):Fit 3 n:=by
 unfold Fit
 rw[show (1073741824:Int) ^ 3=1237940039285380274899124224 from rfl]
 omega
theorem r_Make {x y:Int×Bool×Option (List Int)} {n m:Int} {k:Nat} (hx:RIV x n) (hy:RIV y m) (hm:m≠0) (fx:Fit k n) (fy:Fit k m) (hk:k<=1073741824):callV Pg q2j [⟨tRI,x⟩,⟨tRI,y⟩] tRR fun r=>RRV r (Rat.divInt n m):=by
 refine qid x y (RRV_ex _) ((q0L hy).mono ?_)
 rintro _ rfl
 refine joinR (fun p=>∃ n' m':Int,RIV p.1 n'/\RIV p.2.1 m'/\0<m'/\Rat.divInt n m=Rat.divInt n' m'/\Fit k n'/\Fit k m') ?_ ?_
 . rintro⟨p,q,z⟩ ⟨n',m',h1,h2,hm',e,f1,f2⟩
   rw[e]
   dsimp only at h1 h2 ⊢
   have hg0:Int.gcd n' m'≠0:=fun e=>by have:=(Int.gcd_eq_zero_iff.1 e).2;omega
   have es:sgn m'=1:=if_pos hm'
   have hn:=q4M n' m' (by omega)
   have hd:=q4L n' m' (by omega)
   rw[es,Int.one_mul] at hn hd
   have hgle:Int.gcd n' m'<=m'.natAbs:=Nat.le_of_dvd (by omega) (Nat.gcd_dvd_right ..)
   refine (r_Gcd h1 h2 f1 f2 hk).mono fun g hg=>(r_Of (n:=1) (by decide) (by decide)).mono fun o ho=>?_
   refine (qeJ hg ho (f2.of (by omega)) (fit_i64 (by decide) (by decide)) hk (by decide)).mono ?_
   rintro _ rfl
   refine joinR (fun p=>RIV p.1 (n'.tdiv (Int.gcd n' m'))/\RIV p.2.1 (m'.tdiv (Int.gcd n' m'))) ?_ ?_
   . rintro⟨p,q,z⟩ ⟨h3,h4⟩
     rw[<-hn] at h3
     rw[<-hd] at h4
     exact⟨h3,h4⟩
   . intro k' hk'
     refine q00.2 ⟨fun _=>?_,fun h=>?_⟩
     . refine (r_Over h1 hg (by omega) f1 hk).mono ?_
       rintro⟨q,r,_⟩ ⟨h3,_⟩
       refine (r_Over h2 hg (by omega) f2 hk).mono ?_
       rintro⟨q2,r2,_⟩ ⟨h4,_⟩
       exact hk' _ ⟨h3,h4⟩
     . have h:=sgn_z (not_f h)
       have e:((Int.gcd n' m':Nat):Int)=1:=by omega
       refine hk' _ ?_
       rw[e]
       simp only[Int.tdiv_one]
       exact⟨h1,h2⟩
 . intro k' hk'
   refine q00.2 ⟨fun h=>?_,fun h=>?_⟩
   . have h:=dec_t h
     rw[q0Z] at h
     refine (q4e hx).mono fun p h1=>(q4e hy).mono fun q h2=>hk' _ ⟨-n,-m,h1,h2,by omega,?_,fx.neg,fy.neg⟩
     exact (Rat.neg_divInt_neg ..).symm
   . have h:=dec_f h
     rw[q0Z] at h
     exact hk' _ ⟨n,m,hx,hy,by omega,rfl,fx,fy⟩
variable {x y:(Int×Bool×Option (List Int))×(Int×Bool×Option (List Int))} {q r:Rat} {k:Nat}
theorem q3F {n:Int} (h1:-9223372036854775808<=n) (h2:n<9223372036854775808):callV Pg q0n [⟨tI,n⟩] tRR fun r=>RRV r (n:Rat):=
 qin n (RRV_ex _) ((r_Of h1 h2).mono fun _ h=>(r_Of (n:=1) (by decide) (by decide)).mono fun _ h'=>⟨h,h'⟩)
theorem r_RPlus (hx:RRV x q) (hy:RRV y r) (fx:RFit k q) (fy:RFit k r) (hk:k+k+1<=1073741824):callV Pg q2k [⟨tRR,x⟩,⟨tRR,y⟩] tRR fun z=>RRV z (q+r):=by
 have hq:=q.den_nz
 have hr:=r.den_nz
 refine qii x y (RRV_ex _) ((q4f hx.1 hy.2 fx.1 fy.2 (by omega) (by omega)).mono fun p1 h1=>(q4f hy.1 hx.2 fy.1 fx.2 (by omega) (by omega)).mono fun p2 h2=>?_)
 refine (r_Plus h1 h2 (fx.1.mul fy.2 (Nat.le_refl _)) (fy.1.mul fx.2 (Nat.le_refl _)) (by omega) (by omega)).mono fun p3 h3=>(q4f hx.2 hy.2 fx.2 fy.2 (by omega) (by omega)).mono fun p4 h4=>?_
 refine (r_Make h3 h4 ?_ ((fx.1.mul fy.2 (Nat.le_refl _)).add (fy.1.mul fx.2 (Nat.le_refl _)) (Nat.lt_succ_self _)) ((fx.2.mul fy.2 (Nat.le_refl _)).mono (Nat.le_succ _)) hk).mono fun p9 h9=>?_
 . exact Int.mul_ne_zero (by omega) (by omega)
 . rw[q4K];exact h9
theorem r_RMinus (hx:RRV x q):callV Pg q3a [⟨tRR,x⟩] tRR fun r=>RRV r (-q):=
 qih x (RRV_ex _) ((q4e hx.1).mono fun _ h=>⟨h,hx.2⟩)
theorem r_RLess (hx:RRV x q) (hy:RRV y r) (fx:RFit k q) (fy:RFit k r) (hk:k+k+1<=1073741824):callV Pg q39 [⟨tRR,x⟩,⟨tRR,y⟩] tRR fun z=>RRV z (q - r):=by
 refine qig x y (RRV_ex _) ((r_RMinus hy).mono fun p h=>?_)
 rw[Rat.sub_eq_add_neg]
 exact (r_RPlus hx h fx ⟨fy.1.neg,fy.2⟩ hk).mono fun z hz=>hz
theorem q9q (hx:RRV x q) (hy:RRV y r) (fx:RFit k q) (fy:RFit k r) (hk:k+k<=1073741824):callV Pg q2m [⟨tRR,x⟩,⟨tRR,y⟩] tRR fun z=>RRV z (q*r):=by
 have hq:=q.den_nz
 have hr:=r.den_nz
 refine qik x y (RRV_ex _) ((q4f hx.1 hy.1 fx.1 fy.1 (by omega) (by omega)).mono fun p1 h1=>(q4f hx.2 hy.2 fx.2 fy.2 (by omega) (by omega)).mono fun p2 h2=>?_)
 refine (r_Make h1 h2 ?_ (fx.1.mul fy.1 (Nat.le_refl _)) (fx.2.mul fy.2 (Nat.le_refl _)) hk).mono fun p9 h9=>?_
 . exact Int.mul_ne_zero (by omega) (by omega)
 . rw[q60];exact h9
theorem r_RSign (hx:RRV x q):callV Pg q2l [⟨tRR,x⟩] tI fun r=>r=sgn q.num:=
 qij x ⟨_,rfl⟩ ((q0L hx.1).mono fun _ h=>h)
theorem q2E (hx:RRV x q) (hy:RRV y r) (fx:RFit k q) (fy:RFit k r) (hk:k+k+1<=1073741824):callV Pg q0r [⟨tRR,x⟩,⟨tRR,y⟩] tI fun z=>z=sgn (q - r).num:=
 qif x y ⟨_,rfl⟩ ((r_RLess hx hy fx fy hk).mono fun _ h=>r_RSign h)
theorem r_To {a:Int×Int} (h:NumOk a):callV Pg q0g [⟨tNum,a⟩] tRR fun r=>RRV r (numQ a):=by
 obtain⟨e1,e2⟩:=h.q
 obtain⟨q1,q2,q3,q4,_⟩:=h
 refine qim a (RRV_ex _) ((r_Of (n:=a.1) (by omega) (by omega)).mono fun p1 h1=>(r_Of (n:=a.2) (by omega) (by omega)).mono fun p2 h2=>⟨?_,?_⟩)
 . rw[e1];exact h1
 . rw[e2];exact h2
end Go.Proofs.Pf.B
namespace Go.Proofs.Pf.B
open Go Go.VM
theorem q4U {x y:(Int×Option (List Int))×(Int×Option (List Int))} {q r:Rat} {k:Nat} (hx:RV x q) (hy:RV y r) (fx:Pf.RFit k q) (fy:Pf.RFit k r) (hk:k+k+1<=1073741824):callV Pg q1e [⟨tER,x⟩,⟨tER,y⟩] tI fun z=>z=sgn (q - r).num:=
 qhh x y ⟨_,rfl⟩ ((s_RSub longS hx hy fx fy hk).mono fun _ h=>q19 h)
end Go.Proofs.Pf.B
namespace Go.Proofs.Pf
open Go Go.VM
theorem q5O (q:Rat):q=(q.num:Rat) / ((q.den:Int):Rat):=by
 rw[<-Rat.divInt_eq_div,Rat.num_divInt_den]
def QD (D B:Nat) (q:Rat):Prop:=∃ n:Int,q*((D:Int):Rat)=((n:Int):Rat)/\n.natAbs<=B
theorem QD.mono {D B C:Nat} {q:Rat} (h:QD D B q) (hc:B<=C):QD D C q:=let ⟨n,h1,h2⟩:=h;⟨n,h1,Nat.le_trans h2 hc⟩
theorem QD.zero (D B:Nat):QD D B 0:=⟨0,by simp,by simp⟩
theorem QD.add {D B C:Nat} {q r:Rat} (h:QD D B q) (g:QD D C r):QD D (B+C) (q+r):=by
 obtain⟨n,h1,h2⟩:=h
 obtain⟨m,g1,g2⟩:=g
 refine⟨n+m,?_,by omega⟩
 rw[Rat.add_mul,h1,g1,Rat.intCast_add]
theorem QD.neg {D B:Nat} {q:Rat} (h:QD D B q):QD D B (-q):=by
 obtain⟨n,h1,h2⟩:=h
 refine⟨-n,?_,by omega⟩
 rw[Rat.neg_mul,h1,Rat.intCast_neg]
theorem QD.sub {D B C:Nat} {q r:Rat} (h:QD D B q) (g:QD D C r):QD D (B+C) (q - r):=by
 rw[Rat.sub_eq_add_neg];exact h.add g.neg
theorem QD.mul {D E B C:Nat} {q r:Rat} (h:QD D B q) (g:QD E C r):QD (D*E) (B*C) (q*r):=by
 obtain⟨n,h1,h2⟩:=h
 obtain⟨m,g1,g2⟩:=g
 refine⟨n*m,?_,by rw[Int.natAbs_mul];exact Nat.mul_le_mul h2 g2⟩
 have e:(((D*E:Nat):Int):Rat)=((D:Int):Rat)*((E:Int):Rat):=by rw[<-Rat.intCast_mul];congr 1
 rw[e,Rat.intCast_mul,<-h1,<-g1]
 grind
theorem QD.scale {D B:Nat} (E:Nat) {q:Rat} (h:QD D B q):QD (D*E) (B*E) q:=by
 have h1:=h.mul (E:=E) (C:=E) (r:=1) ⟨E,by rw[Rat.one_mul],by omega⟩
 rwa [Rat.mul_one] at h1
theorem QD.one (D:Nat):QD D D 1:=⟨D,by rw[Rat.one_mul],by omega⟩
theorem QD.int {D B:Nat} {q:Rat} (h:QD D B q):∃ n:Int,q.num*D=n*q.den/\n.natAbs<=B:=by
 obtain⟨n,h1,h2⟩:=h
 refine⟨n,?_,h2⟩
 have hd:((q.den:Int):Rat)≠0:=by
  intro e
  rw[<-Rat.intCast_zero,Rat.intCast_inj] at e
  have:=q.den_nz
  omega
 have hq:q=(q.num:Rat) / ((q.den:Int):Rat):=q5O q
 rw[hq] at h1
 have e:((q.num*D:Int):Rat)=((n*q.den:Int):Rat):=by
  rw[Rat.intCast_mul,Rat.intCast_mul,<-h1,Rat.div_def]
  rw[Rat.mul_assoc,Rat.mul_assoc,Rat.mul_comm (((q.den:Int):Rat)⁻¹),Rat.mul_assoc,Rat.mul_inv_cancel _ hd,Rat.mul_one]
 exact Rat.intCast_inj.1 e
theorem QD.div {D B:Nat} {q:Rat} (hD:0<D) (h:QD D B q):q.num.natAbs<=B/\q.den<=D:=by
 obtain⟨n,h1,h2⟩:=h.int
 have hc:Nat.Coprime q.num.natAbs q.den:=q.reduced
 have h3:q.num.natAbs*D=n.natAbs*q.den:=by
  have:=congrArg Int.natAbs h1
  simpa[Int.natAbs_mul] using this
 have hdvd:q.den ∣ D:=hc.symm.dvd_of_dvd_mul_left ⟨n.natAbs,by rw[h3,Nat.mul_comm]⟩
 refine⟨?_,Nat.le_of_dvd hD hdvd⟩
 obtain⟨m,rfl⟩:=hdvd
 have hm:0<m:=Nat.pos_of_mul_pos_left hD |> fun _=>by
  rcases Nat.eq_zero_or_pos m with e | e
  . subst e;simp at hD
  . exact e
 have h4:q.num.natAbs*m=n.natAbs:=by
  have hp:0<q.den:=q.den_pos
  refine Nat.eq_of_mul_eq_mul_right hp ?_
  rw[<-h3,Nat.mul_assoc,Nat.mul_comm m]
 have:q.num.natAbs<=q.num.natAbs*m:=Nat.le_mul_of_pos_right _ hm
 omega
theorem QD.common {K:Nat} (f:Nat->Rat):∀ n:Nat,(∀ i,i<n->(f i).num.natAbs<=K/\(f i).den<=K)->∃ D,0<D/\D<=K ^ n/\∀ i,i<n->QD D (K*D) (f i):=by
 intro n
 induction n with
 | zero=>intro _;exact⟨1,by omega,by simp,fun i hi=>absurd hi (by omega)⟩
 | succ n ih=>
  intro h
  obtain⟨D,d1,d2,d3⟩:=ih fun i hi=>h i (by omega)
  obtain⟨k1,k2⟩:=h n (by omega)
  have hp:0<(f n).den:=(f n).den_pos
  refine⟨D*(f n).den,Nat.mul_pos d1 hp,by rw[Nat.pow_succ];exact Nat.mul_le_mul d2 k2,fun i hi=>?_⟩
  rcases Nat.lt_or_ge i n with hlt | hge
  . have:=(d3 i hlt).scale (f n).den
    rwa [Nat.mul_assoc] at this
  . obtain rfl:i=n:=by omega
    have h0:QD (f i).den K (f i):=⟨(f i).num,by
     have hd:(((f i).den:Int):Rat)≠0:=by
      intro e
      rw[<-Rat.intCast_zero,Rat.intCast_inj] at e
      omega
     have hq:f i=((f i).num:Rat) / (((f i).den:Int):Rat):=q5O (f i)
     conv=>lhs;lhs;rw[hq]
     rw[Rat.div_def,Rat.mul_assoc,Rat.inv_mul_cancel _ hd,Rat.mul_one],k1⟩
    have:=h0.scale D
    rw[Nat.mul_comm (f i).den D] at this
    exact this.mono (by rw[<-Nat.mul_assoc];exact Nat.le_mul_of_pos_right _ hp)
theorem QD.fit {D B k:Nat} {q:Rat} (hD:0<D) (h:QD D B q) (h1:D<1073741824 ^ k) (h2:B<1073741824 ^ k):RFit k q/\Pf.B.RFit k q:=by
 obtain⟨g1,g2⟩:=h.div hD
 have hp:1073741824 ^ k<=4294967296 ^ k:=Nat.pow_le_pow_left (by decide) k
 have e1:((1073741824:Int) ^ k)=((1073741824 ^ k:Nat):Int):=by simp
 have e2:((4294967296:Int) ^ k)=((4294967296 ^ k:Nat):Int):=by simp
 have hd:=q.den_pos
 constructor
 . constructor
   . unfold Fit;rw[e2];omega
   . unfold Fit;rw[e2];omega
 . constructor
   . unfold Pf.B.Fit;rw[e1];omega
   . unfold Pf.B.Fit;rw[e1];omega
def sumQ (f:Nat->Rat):Nat->Rat
 | 0=>0
 | n+1=>sumQ f n+f n
theorem sumQ_congr {f g:Nat->Rat}:∀ n,(∀ i,i<n->f i=g i)->sumQ f n=sumQ g n
 | 0,_=>rfl
 | n+1,h=>by simp only[sumQ];rw[sumQ_congr n (fun i hi=>h i (by omega)),h n (by omega)]
theorem QD.sum {D B:Nat} {f:Nat->Rat}:∀ n,(∀ i,i<n->QD D B (f i))->QD D (n*B) (sumQ f n)
 | 0,_=>(QD.zero D 0).mono (by omega)
 | n+1,h=>by
  have:=(QD.sum n (fun i hi=>h i (by omega))).add (h n (by omega))
  rw[Nat.succ_mul];exact this
end Go.Proofs.Pf
namespace Go.Proofs.Pf
open Go Go.VM
abbrev r0:DR:=(((0:Int),none),((0:Int),none))
theorem RV_r0:RV r0 0:=⟨⟨by decide,by decide,by decide⟩,.inr ⟨⟨by decide,by decide,by decide⟩,rfl⟩⟩
def RL (l:Option (List DR)) (f:Nat->Rat) (n:Nat):Prop:=(l.getD []).length=n/\∀ i,i<n->RV ((l.getD []).getD i r0) (f i)
theorem q06 {l:Option (List DR)} {i:Nat}:eltS r0 l (i:Int)=(l.getD []).getD i r0:=by simp only[eltS,Int.toNat_natCast]
theorem q9I {a b c:DR} {q r s:Rat} {k:Nat} (ha:RV a q) (hb:RV b r) (hc:RV c s) (f1:RFit k q) (f2:RFit k r) (f3:RFit k s) (f4:RFit k (r*s)) (hk:k+k+1<=1073741824):
 callV Pg q05 [⟨tER,a⟩,⟨tER,b⟩,⟨tER,c⟩] tER fun z=>RV z (q+r*s):=
 qj5 a b c (RV_ex _) ((q2F longS hb hc f2 f3 (by omega)).mono fun _ h=>q1W longS ha h f1 f4 hk)
theorem s_sum {l:Option (List DR)} {f:Nat->Rat} {n k:Nat} (hl:RL l f n) (hn:n<=4611686018427387904) (f1:∀ i,i<n->RFit k (f i)) (f2:∀ i,i<=n->RFit k (sumQ f i)) (hk:k+k+1<=1073741824):
 callV Pg q1p [⟨(.sl tER),l⟩] tER fun z=>RV z (sumQ f n):=by
 obtain⟨h1,h2⟩:=hl
 refine qj4 l (RV_ex _) (rangeB (n:=n) (fun i (x:DR×DR)=>(l,((n:Int),((i:Int),x)))) (fun i x=>RV x.2 (sumQ f i)) (r0,r0) (by subst h1;rfl) RV_r0 (fun p=>p.2.2.1.toNat) (fun _ _=>rfl) (fun _ _ _=>rfl) ?_ ?_)
 . intro k' i x hi hx hk'
   dsimp only
   refine⟨in_s (by omega),?_⟩
   rw[q06]
   refine (q1W longS hx (h2 i hi) (f2 i (by omega)) (f1 i hi) hk).mono fun z hz=>?_
   rw[wi1 hi hn]
   exact hk' (x.1,z) hz
 . intro _ x hx
   exact hx
theorem RL.set {l:Option (List DR)} {f g:Nat->Rat} {n i:Nat} {z:DR} (h:RL l f n) (hi:i<n) (hz:RV z (g i)) (hg:∀ j,j<n->j≠i->g j=f j):RL (setO l i z) g n:=by
 obtain⟨h1,h2⟩:=h
 cases l with
 | none=>simp at h1;omega
 | some l=>
  have h1:l.length=n:=h1
  have h2:∀ i,i<n->RV (l.getD i r0) (f i):=h2
  refine⟨by show (l.set i z).length=n;simpa using h1,fun j hj=>?_⟩
  show RV ((l.set i z).getD j r0) (g j)
  by_cases e:j=i
  . subst e
    rw[List.getD_eq_getElem?_getD,List.getElem?_set_self (by omega)];exact hz
  . rw[List.getD_eq_getElem?_getD,List.getElem?_set_ne (fun h=>e h.symm),<-List.getD_eq_getElem?_getD,hg j hj e]
    exact h2 j hj
theorem RL.zero (n:Nat):RL (some (repS (n:Int) r0)) (fun _=>0) n:=by
 refine⟨by show (List.replicate (n:Int).toNat r0).length=n;simp,fun i hi=>?_⟩
 show RV ((List.replicate (n:Int).toNat r0).getD i r0) 0
 rw[List.getD_eq_getElem?_getD,List.getElem?_replicate,if_pos (by simpa using hi)]
 exact RV_r0
theorem RL.congr {l:Option (List DR)} {f g:Nat->Rat} {n:Nat} (h:RL l f n) (hg:∀ j,j<n->g j=f j):RL l g n:=⟨h.1,fun i hi=>by rw[hg i hi];exact h.2 i hi⟩
theorem RL.nil (f:Nat->Rat):RL none f 0:=⟨rfl,fun i hi=>absurd hi (by omega)⟩
theorem RL.app {l:Option (List DR)} {f:Nat->Rat} {n:Nat} {z:DR} (h:RL l f n) (hz:RV z (f n)):RL (appL l [z]) f (n+1):=by
 obtain⟨h1,h2⟩:=h
 have e:(appL l [z]).getD []=l.getD [] ++ [z]:=by cases l<;>rfl
 refine⟨by rw[e,List.length_append,h1];rfl,fun i hi=>?_⟩
 rw[e]
 rcases Nat.lt_or_ge i n with hlt | hge
 . rw[List.getD_eq_getElem?_getD,List.getElem?_append_left (by omega),<-List.getD_eq_getElem?_getD];exact h2 i hlt
 . obtain rfl:i=n:=by omega
   rw[List.getD_eq_getElem?_getD,List.getElem?_append_right (by omega),h1,Nat.sub_self];exact hz
theorem RL.ex (f:Nat->Rat) (n:Nat):∃ r,RL r f n:=by
 refine⟨some (tab (fun i=>(RV_ex (f i)).choose) n),tab_len _ _,fun i hi=>?_⟩
 show RV ((tab _ _).getD i r0) _
 rw[tab_get _ _ _ _ hi]
 exact (RV_ex (f i)).choose_spec
theorem RL.c8 {l:Option (List DR)} {f:Nat->Rat} {n:Nat} {z:DR} (h:RL l f n) (hn:n<=100000):appC 64 l (lst (some [z])):=by
 show ((l.getD []).length+1)*64<=140737488355328
 rw[h.1];omega
end Go.Proofs.Pf
namespace Go.Proofs.Pf
structure SPre (p q r s:Int):Prop where
 p0:0<p
 q0:0<q
 r0:0<r
 s0:0<s
 le:p*s<=r*q
theorem SPre.next {p q r s:Int} (h:SPre p q r s) (h1:¬ p % q=0) (h2:¬ (p / q+1)*s<=r):
 SPre s (r - p / q*s) q (p - p / q*q)/\r - p / q*s<s/\p - p / q*q<q:=by
 obtain⟨p0,q0,r0,s0,le⟩:=h
 have hd:=Int.mul_ediv_add_emod p q
 have hm0:=Int.emod_nonneg p (show q≠0 by omega)
 have hm1:=Int.emod_lt_of_pos p q0
 generalize p / q=n at *
 generalize p % q=m at *
 have e:p - n*q=m:=by rw[Int.mul_comm n q];omega
 have hr:0<r - n*s:=by
  have h3:q*(n*s)<q*r:=by
   have h4:p*s=q*(n*s)+m*s:=by rw[<-hd,Int.add_mul,Int.mul_assoc]
   have h5:0<m*s:=Int.mul_pos (by omega) s0
   rw[Int.mul_comm q r];omega
  have:=Int.lt_of_mul_lt_mul_left h3 (by omega)
  omega
 rw[e]
 refine⟨⟨s0,hr,q0,by omega,?_⟩,?_,hm1⟩
 . rw[Int.mul_sub,<-e];grind
 . rw[Int.add_mul,Int.one_mul] at h2;omega
theorem qcp (n:Int) {m:Int} (hm:0<m):(Rat.divInt n m).num*m=n*((Rat.divInt n m).den:Int)/\(Rat.divInt n m).num.natAbs<=n.natAbs/\(Rat.divInt n m).den<=m.natAbs:=by
 have e:sgn m=1:=if_pos hm
 have h1:=q4M n m (by omega)
 have h2:=q4L n m (by omega)
 rw[e,Int.one_mul] at h1 h2
 have d1:((Int.gcd n m:Nat):Int) ∣ n:=Int.gcd_dvd_left ..
 have d2:((Int.gcd n m:Nat):Int) ∣ m:=Int.gcd_dvd_right ..
 have c1:=Int.mul_tdiv_cancel' d1
 have c2:=Int.mul_tdiv_cancel' d2
 refine⟨?_,?_,?_⟩
 . rw[h1,h2]
   generalize ((Int.gcd n m:Nat):Int)=g at *
   conv=>lhs;rw[<-c2]
   conv=>rhs;rw[<-c1]
   grind
 . rw[h1,Int.natAbs_tdiv];exact Nat.div_le_self _ _
 . have:((Rat.divInt n m).den:Int).natAbs<=m.natAbs:=by rw[h2,Int.natAbs_tdiv];exact Nat.div_le_self _ _
   omega
end Go.Proofs.Pf
namespace Go.Proofs.Pf.B
open Go Go.VM
theorem sgn_pos {n:Int}:0<sgn n↔0<n:=by
 rcases sgn3 n with ⟨e,h⟩ | ⟨e,h⟩ | ⟨e,h⟩<;>rw[e]<;>constructor<;>intro<;>omega
end Go.Proofs.Pf.B
namespace Go.Proofs.Pf.B
open Go Go.VM
theorem pfit_add {q r:Rat} {k j:Nat} (h:Pf.RFit k q) (g:Pf.RFit j r):Pf.RFit (k+j+1) (q+r):=by
 have hq:=q.den_nz
 have hr:=r.den_nz
 rw[q4K]
 obtain⟨_,h1,h2⟩:=qcp (q.num*(r.den:Int)+r.num*(q.den:Int)) (show 0<(q.den:Int)*(r.den:Int) from Int.mul_pos (by omega) (by omega))
 exact⟨((h.1.mul g.2 (Nat.le_refl _)).add (g.1.mul h.2 (Nat.le_of_eq (Nat.add_comm _ _))) (Nat.lt_succ_self _)).of h1,((h.2.mul g.2 (Nat.le_refl _)).mono (Nat.le_succ _)).of (by omega)⟩
theorem zero_rv:RV (((0:Int),none),((0:Int),none)) (0:Rat):=⟨⟨rfl,by decide,by decide⟩,.inr ⟨⟨rfl,by decide,by decide⟩,rfl⟩⟩
theorem zero_pfit:Pf.RFit 1 (0:Rat):=by unfold Pf.RFit Pf.Fit;decide
theorem r_Same (l m:Option (List (Int×Int))) (he:m.getD []=l.getD []) (hl:(l.getD []).length<=200):callV Pg q2n [⟨(.sl tNum),l⟩,⟨(.sl tNum),m⟩] .bool fun r=>r=true:=by
 refine qil l m ⟨_,rfl⟩ (q00.2 ⟨fun h=>?_,fun _=>?_⟩)
 . have h:¬ ((l.getD []).length:Int)=((m.getD []).length:Int):=not_t h
   rw[he] at h;exact absurd rfl h
 refine loopE (fun p=>∃ j:Nat,p=(l,m,((l.getD []).length:Int),(j:Int))/\j<=(l.getD []).length) (fun p=>(l.getD []).length - p.2.2.2.toNat) ⟨0,rfl,by omega⟩ ?_
 rintro _ ⟨j,rfl,hj⟩
 dsimp only
 refine q00.2 ⟨fun hc=>?_,fun _=>rfl⟩
 have hc:(j:Int)<((l.getD []).length:Int):=dec_t hc
 have e:eltS ((0:Int),(0:Int)) m (j:Int)=eltS ((0:Int),(0:Int)) l (j:Int):=by simp only[eltS,he]
 refine⟨⟨by omega,by omega⟩,⟨by omega,by rw[he];omega⟩,?_⟩
 rw[e,eqNum]
 refine q00.2 ⟨fun h=>absurd rfl (not_t h),fun _=>?_⟩
 rw[wi64 (by omega) (by omega)]
 exact⟨⟨j+1,rfl,by omega⟩,by omega⟩
end Go.Proofs.Pf.B
namespace Go.Proofs.Pf.B
open Go Go.VM
abbrev br (l:List DBr) (i:Nat):DBr:=l.getD i (0,(0,0))
def preTo (l:List DBr):Nat->Int
 | 0=>-1
 | i+1=>(br l i).1
def brOk (n:Int) (l:List DBr) (i:Nat):Prop:=preTo l i<(br l i).1/\(br l i).1<n/\NumOk (br l i).2/\0<(br l i).2.1
instance (n:Int) (l:List DBr) (i:Nat):Decidable (brOk n l i):=by unfold brOk;infer_instance
def sumR (l:List DBr):Nat->Rat
 | 0=>0
 | i+1=>sumR l i+numQ (br l i).2
def chOk (n:Int) (c:DCh):Prop:=NumOk c.1/\(1<=(c.2.getD []).length/\(c.2.getD []).length<=8)/\(∀ i,i<(c.2.getD []).length->brOk n (c.2.getD []) i)/\sumR (c.2.getD []) (c.2.getD []).length=1
instance (n:Int) (c:DCh):Decidable (chOk n c):=by unfold chOk;infer_instance
theorem pre_le {n:Int} {l:List DBr}:∀ {i:Nat},(∀ j,j<i->brOk n l j)->-1<=preTo l i
 | 0,_=>by simp[preTo]
 | i+1,h=>by
  have h1:=(h i (by omega)).1
  have h2:=pre_le (i:=i) fun j hj=>h j (by omega)
  show -1<=(br l i).1
  omega
theorem qgU {q:Rat}:sgn (q - 1).num=0↔q=1:=by
 constructor
 . intro h
   have h0:(q - 1).num=0:=by
    unfold sgn at h
    repeat' split at h
    all_goals omega
   have h1:q - 1=0:=Rat.num_eq_zero.1 h0
   have h2:q - 1+1=0+1:=by rw[h1]
   rwa [Rat.sub_add_cancel,Rat.zero_add] at h2
 . rintro rfl
   rw[Rat.sub_self];rfl
theorem q5u {l:Option (List DBr)} {i:Nat}:eltS ((0:Int),((0:Int),(0:Int))) l (i:Int)=br (l.getD []) i:=by simp only[eltS,Int.toNat_natCast]
theorem q9g:Pf.RFit 1 (1:Rat):=by unfold Pf.RFit Pf.Fit;decide
theorem s_choice (n:Int) (c:DCh):callV Pg q32 [⟨tI,n⟩,⟨tCh,c⟩] .bool fun r=>r=decide (chOk n c):=by
 refine qhY n c ⟨_,rfl⟩ (joinR (fun p=>∃ b:Bool,p=(n,(b,c))/\(b=true->¬ chOk n c)/\(b=false->NumOk c.1/\(1<=(c.2.getD []).length/\(c.2.getD []).length<=8))) ?_ ?_)
 . rintro _ ⟨b,rfl,h1,h2⟩
   dsimp only
   refine q00.2 ⟨fun h=>(decide_eq_false (h1 h)).symm,fun h=>?_⟩
   obtain⟨g1,g2,g3⟩:=h2 h
   refine loopE (fun p=>∃ (i:Nat) (x:_),p=(n,(preTo (c.2.getD []) i,(c.2,(((c.2.getD []).length:Int),((i:Int),x)))))/\i<=(c.2.getD []).length/\(∀ j,j<i->brOk n (c.2.getD []) j)/\RV x (sumR (c.2.getD []) i)/\Pf.RFit (3*i+1) (sumR (c.2.getD []) i)) (fun p=>(c.2.getD []).length - p.2.2.2.2.1.toNat)
    ⟨0,(((0:Int),none),((0:Int),none)),rfl,by omega,fun j h=>by omega,zero_rv,zero_pfit⟩ ?_
   rintro _ ⟨i,x,rfl,hi,hall,hx,fx⟩
   dsimp only
   refine q00.2 ⟨fun hc=>?_,fun hc=>?_⟩
   . have hc:(i:Int)<((c.2.getD []).length:Int):=dec_t hc
     rw[q5u]
     refine⟨⟨by omega,by omega⟩,?_⟩
     refine joinR (fun p=>∃ b:Bool,p=(n,(c.2,(((c.2.getD []).length:Int),((i:Int),(b,(x,br (c.2.getD []) i))))))/\(b=true->¬ brOk n (c.2.getD []) i)/\(b=false->brOk n (c.2.getD []) i)) ?_ ?_
     . rintro _ ⟨b,rfl,k1,k2⟩
       dsimp only
       refine q00.2 ⟨fun h=>(decide_eq_false fun hq=>k1 h (hq.2.2.1 i (by omega))).symm,fun h=>?_⟩
       have hb:=k2 h
       have o1:=hb.2.2.1
       refine (s_Rat longS o1).mono fun p4 h4=>?_
       refine (q1W longS hx h4 (fx.mono (show 3*i+1<=100 by omega)) (o1.fit.mono (by decide)) (by decide)).mono fun p5 h5=>?_
       rw[wi64 (by omega) (by omega)]
       refine⟨⟨i+1,p5,rfl,by omega,fun j hj=>?_,h5,(pfit_add fx o1.fit).mono (by omega)⟩,by omega⟩
       rcases Nat.lt_or_ge j i with q | q
       . exact hall j q
       . obtain rfl:j=i:=by omega
         exact hb
     . intro k hk
       refine q00.2 ⟨fun h=>hk _ ⟨true,rfl,fun _ hq=>?_,fun h=>by cases h⟩,fun h=>?_⟩
       . have h:=dec_t h;have:=hq.1;omega
       have e1:=dec_f h
       refine q00.2 ⟨fun h=>hk _ ⟨true,rfl,fun _ hq=>?_,fun h=>by cases h⟩,fun h=>?_⟩
       . have h:=dec_t h;have:=hq.2.1;omega
       have e2:=dec_f h
       refine (q65 longS _).mono ?_
       rintro _ rfl
       refine q00.2 ⟨fun h=>hk _ ⟨true,rfl,fun _ hq=>not_t h hq.2.2.1,fun h=>by cases h⟩,fun h=>?_⟩
       have e3:=not_f h
       refine hk _ ⟨_,rfl,fun h hq=>?_,fun h=>⟨by omega,by omega,e3,?_⟩⟩
       . have h:=dec_t h;have:=hq.2.2.2;omega
       . have h:=dec_f h;omega
   . have hc:¬ (i:Int)<((c.2.getD []).length:Int):=dec_f hc
     obtain rfl:i=(c.2.getD []).length:=by omega
     refine (q4W (n:=1) (by decide) (by decide)).mono fun p3 h3=>?_
     refine (q4U hx h3 (fx.mono (show 3*(c.2.getD []).length+1<=100 by omega)) (q9g.mono (by decide)) (by decide)).mono ?_
     rintro _ rfl
     have e:decide (sgn (sumR (c.2.getD []) (c.2.getD []).length - ((1:Int):Rat)).num=(0:Int))=decide (chOk n c):=by
      rw[decide_eq_decide]
      exact qgU.trans ⟨fun h=>⟨g1,⟨g2,g3⟩,hall,h⟩,fun h=>h.2.2.2⟩
     exact e
 . intro k hk
   refine (q65 longS _).mono ?_
   rintro _ rfl
   refine q00.2 ⟨fun h=>hk _ ⟨true,rfl,fun _ hq=>not_t h hq.1,fun h=>by cases h⟩,fun h=>?_⟩
   have e1:=not_f h
   refine q00.2 ⟨fun h=>hk _ ⟨true,rfl,fun _ hq=>?_,fun h=>by cases h⟩,fun h=>?_⟩
   . have h:((c.2.getD []).length:Int)<1:=dec_t h
     have:=hq.2.1.1;omega
   have e2:¬ ((c.2.getD []).length:Int)<1:=dec_f h
   refine hk _ ⟨_,rfl,fun h hq=>?_,fun h=>⟨e1,by omega,?_⟩⟩
   . have h:(8:Int)<((c.2.getD []).length:Int):=dec_t h
     have:=hq.2.1.2;omega
   . have h:¬ (8:Int)<((c.2.getD []).length:Int):=dec_f h
     omega
end Go.Proofs.Pf.B
namespace Go.Proofs.Pf.B
open Go Go.VM
abbrev ch (l:List DCh) (i:Nat):DCh:=l.getD i (((0,0),none))
abbrev stt (l:List DSt) (i:Nat):DSt:=l.getD i (0,(0,none))
def stHead (s:DSt):Prop:=(0<=s.1/\s.1<=1)/\(0<=s.2.1/\s.2.1<=63)/\(1<=(s.2.2.getD []).length/\(s.2.2.getD []).length<=8)
instance (s:DSt):Decidable (stHead s):=by unfold stHead;infer_instance
def stOk (n:Int) (s:DSt):Prop:=stHead s/\∀ j,j<(s.2.2.getD []).length->chOk n (ch (s.2.2.getD []) j)
instance (n:Int) (s:DSt):Decidable (stOk n s):=by unfold stOk;infer_instance
def moOk (m:DMo):Prop:=(1<=(m.getD []).length/\(m.getD []).length<=40)/\∀ i,i<(m.getD []).length->stOk (m.getD []).length (stt (m.getD []) i)
instance (m:DMo):Decidable (moOk m):=by unfold moOk;infer_instance
theorem q1r {l:Option (List DSt)} {i:Nat}:eltS ((0:Int),((0:Int),none)) l (i:Int)=stt (l.getD []) i:=by simp only[eltS,Int.toNat_natCast]
theorem eltS_ch {l:Option (List DCh)} {i:Nat}:eltS (((0:Int),(0:Int)),none) l (i:Int)=ch (l.getD []) i:=by simp only[eltS,Int.toNat_natCast]
theorem q9E (m:DMo):callV Pg q2h [⟨tMo,m⟩] .bool fun r=>r=decide (moOk m):=by
 refine qhX m ⟨_,rfl⟩ (joinR (fun p=>∃ b:Bool,p=(((m.getD []).length:Int),(b,m))/\(b=true->¬ moOk m)/\(b=false->1<=(m.getD []).length/\(m.getD []).length<=40)) ?_ ?_)
 . rintro _ ⟨b,rfl,h1,h2⟩
   dsimp only
   refine q00.2 ⟨fun h=>(decide_eq_false (h1 h)).symm,fun h=>?_⟩
   obtain⟨g1,g2⟩:=h2 h
   refine loopE (fun p=>∃ i:Nat,p=(((m.getD []).length:Int),(m,(((m.getD []).length:Int),(i:Int))))/\i<=(m.getD []).length/\(∀ j,j<i->stOk (m.getD []).length (stt (m.getD []) j))) (fun p=>(m.getD []).length - p.2.2.2.toNat)
    ⟨0,rfl,by omega,fun j h=>by omega⟩ ?_
   rintro _ ⟨i,rfl,hi,hall⟩
   dsimp only
   refine q00.2 ⟨fun hc=>?_,fun hc=>?_⟩
   . have hc:(i:Int)<((m.getD []).length:Int):=dec_t hc
     rw[q1r]
     have no:¬ stHead (stt (m.getD []) i)->¬ moOk m:=fun h hq=>h (hq.2 i (by omega)).1
     refine⟨⟨by omega,by omega⟩,joinR (fun p=>∃ b:Bool,p=(((m.getD []).length:Int),(m,(((m.getD []).length:Int),((i:Int),(b,stt (m.getD []) i)))))/\(b=true->¬ moOk m)/\(b=false->stHead (stt (m.getD []) i))) ?_ ?_⟩
     . rintro _ ⟨b,rfl,k1,k2⟩
       dsimp only
       refine q00.2 ⟨fun h=>(decide_eq_false (k1 h)).symm,fun h=>?_⟩
       have hh:=k2 h
       obtain⟨_,_,c1,c2⟩:=id hh
       refine loopE (fun p=>∃ j:Nat,p=(((m.getD []).length:Int),(m,(((m.getD []).length:Int),((i:Int),((stt (m.getD []) i).2.2,((((stt (m.getD []) i).2.2.getD []).length:Int),(j:Int)))))))/\j<=((stt (m.getD []) i).2.2.getD []).length/\(∀ k,k<j->chOk (m.getD []).length (ch ((stt (m.getD []) i).2.2.getD []) k)))
        (fun p=>((stt (m.getD []) i).2.2.getD []).length - p.2.2.2.2.2.2.toNat) ⟨0,rfl,by omega,fun j h=>by omega⟩ ?_
       rintro _ ⟨j,rfl,hj,hch⟩
       dsimp only
       refine q00.2 ⟨fun hd=>?_,fun hd=>?_⟩
       . have hd:(j:Int)<(((stt (m.getD []) i).2.2.getD []).length:Int):=dec_t hd
         rw[eltS_ch]
         refine⟨⟨by omega,by omega⟩,(s_choice _ _).mono ?_⟩
         rintro _ rfl
         refine q00.2 ⟨fun h=>(decide_eq_false fun hq=>not_t h ((hq.2 i (by omega)).2 j (by omega))).symm,fun h=>?_⟩
         have h3:=not_f h
         rw[wi64 (by omega) (by omega)]
         refine⟨⟨j+1,rfl,by omega,fun k hk=>?_⟩,by omega⟩
         rcases Nat.lt_or_ge k j with q | q
         . exact hch k q
         . obtain rfl:k=j:=by omega
           exact h3
       . have hd:¬ (j:Int)<(((stt (m.getD []) i).2.2.getD []).length:Int):=dec_f hd
         obtain rfl:j=((stt (m.getD []) i).2.2.getD []).length:=by omega
         rw[wi64 (by omega) (by omega)]
         refine⟨⟨i+1,rfl,by omega,fun k hk=>?_⟩,by omega⟩
         rcases Nat.lt_or_ge k i with q | q
         . exact hall k q
         . obtain rfl:k=i:=by omega
           exact⟨hh,hch⟩
     . intro k hk
       refine q00.2 ⟨fun h=>hk _ ⟨true,rfl,fun _=>no fun hq=>?_,fun h=>by cases h⟩,fun h=>?_⟩
       . have h:=dec_t h;have:=hq.1;omega
       have e1:=dec_f h
       refine q00.2 ⟨fun h=>hk _ ⟨true,rfl,fun _=>no fun hq=>?_,fun h=>by cases h⟩,fun h=>?_⟩
       . have h:=dec_t h;have:=hq.1;omega
       have e2:=dec_f h
       refine q00.2 ⟨fun h=>hk _ ⟨true,rfl,fun _=>no fun hq=>?_,fun h=>by cases h⟩,fun h=>?_⟩
       . have h:=dec_t h;have:=hq.2.1;omega
       have e3:=dec_f h
       refine q00.2 ⟨fun h=>hk _ ⟨true,rfl,fun _=>no fun hq=>?_,fun h=>by cases h⟩,fun h=>?_⟩
       . have h:=dec_t h;have:=hq.2.1;omega
       have e4:=dec_f h
       refine q00.2 ⟨fun h=>hk _ ⟨true,rfl,fun _=>no fun hq=>?_,fun h=>by cases h⟩,fun h=>?_⟩
       . have h:(((stt (m.getD []) i).2.2.getD []).length:Int)<1:=dec_t h
         have:=hq.2.2;omega
       have e5:¬ (((stt (m.getD []) i).2.2.getD []).length:Int)<1:=dec_f h
       refine hk _ ⟨_,rfl,fun h=>no fun hq=>?_,fun h=>⟨⟨by omega,by omega⟩,⟨by omega,by omega⟩,⟨by omega,?_⟩⟩⟩
       . have h:(8:Int)<(((stt (m.getD []) i).2.2.getD []).length:Int):=dec_t h
         have:=hq.2.2;omega
       . have h:¬ (8:Int)<(((stt (m.getD []) i).2.2.getD []).length:Int):=dec_f h
         omega
   . have hc:¬ (i:Int)<((m.getD []).length:Int):=dec_f hc
     obtain rfl:i=(m.getD []).length:=by omega
     exact (decide_eq_true ⟨⟨g1,g2⟩,hall⟩).symm
 . intro k hk
   refine q00.2 ⟨fun h=>hk _ ⟨true,rfl,fun _ hq=>?_,fun h=>by cases h⟩,fun h=>?_⟩
   . have h:((m.getD []).length:Int)<1:=dec_t h
     have:=hq.1;omega
   have e5:¬ ((m.getD []).length:Int)<1:=dec_f h
   refine hk _ ⟨_,rfl,fun h hq=>?_,fun h=>⟨by omega,?_⟩⟩
   . have h:(40:Int)<((m.getD []).length:Int):=dec_t h
     have:=hq.1;omega
   . have h:¬ (40:Int)<((m.getD []).length:Int):=dec_f h
     omega
end Go.Proofs.Pf.B
namespace Go.Proofs.Pf.B
open Go Go.VM
def seenQ (m:DMo) (x:Nat->Rat) (mark:Int) (s:Nat):Rat:=if (stt (m.getD []) s).2.1=mark then x s else 0
theorem q50 {m:DMo} {l:Option (List DR)} {f:Nat->Rat} {mark:Int} (hl:RL l f (m.getD []).length) (hn:(m.getD []).length<=1000):
 callV Pg q1o [⟨tMo,m⟩,⟨(.sl tER),l⟩,⟨tI,mark⟩] (.sl tER) fun r=>RL r (seenQ m f mark) (m.getD []).length:=by
 obtain⟨h1,h2⟩:=hl
 refine qj3 m l mark ⟨some (tab (fun i=>((RV_ex (seenQ m f mark i)).choose)) (m.getD []).length),?_,?_⟩ ⟨?_,?_⟩
 . exact tab_len _ _
 . intro i hi
   show RV ((tab _ _).getD i r0) _
   rw[tab_get _ _ _ _ hi]
   exact (RV_ex (seenQ m f mark i)).choose_spec
 . have:((l.getD []).length:Int)=((m.getD []).length:Int):=by rw[h1]
   show 0<=((l.getD []).length:Int)/\((l.getD []).length:Int)<=((l.getD []).length:Int)/\((l.getD []).length:Int)*64<=281474976710656
   omega
 . refine rangeB (n:=(m.getD []).length) (fun i x=>(l,(mark,(m,(((m.getD []).length:Int),((i:Int),x)))))) (fun i x=>RL x (fun s=>if s<i then seenQ m f mark s else 0) (m.getD []).length) (some (repS ((m.getD []).length:Int) r0)) (by show (_,_)=(_,_);rw[show szSl l=((m.getD []).length:Int) by show ((l.getD []).length:Int)=_;rw[h1]];rfl) ((RL.zero _).congr fun j _=>if_neg (by omega)) (fun p=>p.2.2.2.2.1.toNat) (fun _ _=>rfl) (fun _ _ _=>rfl) ?_ ?_
   . intro k i x hi hx hk
     try dsimp only
     rw[q1r,q06]
     refine⟨in_s hi,joinE (br_c (fun hb=>?_) fun hb=>?_)⟩
     . refine⟨in_s (by omega),in_s (by rw[hx.1];exact hi),?_⟩
       try dsimp only
       rw[wi1 hi (by omega),show toN (i:Int)=i from Int.toNat_natCast i]
       refine hk _ (RL.set hx hi (g:=fun s=>if s<i+1 then seenQ m f mark s else 0) ?_ fun j _ hj=>?_)
       . rw[if_pos (by omega)]
         show RV _ (seenQ m f mark i)
         rw[seenQ,if_pos (dec_t hb)]
         exact h2 i hi
       . try dsimp only
         by_cases hji:j<i
         . rw[if_pos hji,if_pos (by omega)]
         . rw[if_neg hji,if_neg (by omega)]
     . try dsimp only
       rw[wi1 hi (by omega)]
       refine hk _ (hx.congr fun j _=>?_)
       try dsimp only
       by_cases hji:j<i
       . rw[if_pos hji,if_pos (by omega)]
       . rw[if_neg hji]
         by_cases e:j<i+1
         . obtain rfl:j=i:=by omega
           rw[if_pos e,seenQ,if_neg (dec_f hb)]
         . rw[if_neg e]
   . intro _ x hx
     exact hx.congr fun j hj=>by rw[if_pos hj]
def RM (p:Option (List (Option (List DR)))) (P:Nat->Nat->Rat) (n:Nat):Prop:=(p.getD []).length=n/\∀ s,s<n->RL ((p.getD []).getD s none) (P s) n
theorem q16 {p:Option (List (Option (List DR)))} {i:Nat}:eltS none p (i:Int)=(p.getD []).getD i none:=by simp only[eltS,Int.toNat_natCast]
def stepQ (P:Nat->Nat->Rat) (x:Nat->Rat) (a t:Nat):Rat:=sumQ (fun s=>x s*P s t) a
theorem rv_zero {x:DR} {q:Rat} (h:RV x q):sgn q.num=0->q=0:=by
 intro h
 have:q.num=0:=by
  rcases sgn3 q.num with ⟨e,h'⟩ | ⟨e,h'⟩ | ⟨e,h'⟩
  . rw[e] at h;cases h
  . rw[e] at h;cases h
  . exact h'
 exact Rat.num_eq_zero.1 this
theorem q68 {p:Option (List (Option (List DR)))} {l:Option (List DR)} {P:Nat->Nat->Rat} {x:Nat->Rat} {n k:Nat} (hp:RM p P n) (hl:RL l x n) (hn:n<=1000)
 (f1:∀ s t,s<n->t<n->Pf.RFit k (P s t)) (f2:∀ s,s<n->Pf.RFit k (x s)) (f3:∀ s t,s<n->t<n->Pf.RFit k (x s*P s t)) (f4:∀ a t,a<=n->t<n->Pf.RFit k (stepQ P x a t)) (hk:k+k+1<=1073741824):
 callV Pg q0U [⟨(.sl (.sl tER)),p⟩,⟨(.sl tER),l⟩,⟨.bool,false⟩,⟨(.cst (.fn q05)),()⟩] (.sl tER) fun r=>RL r (stepQ P x n) n:=by
 obtain⟨h1,h2⟩:=hl
 obtain⟨p1,p2⟩:=hp
 have e1:szSl l=(n:Int):=by show ((l.getD []).length:Int)=n;rw[h1]
 have e2:szSl p=(n:Int):=by show ((p.getD []).length:Int)=n;rw[p1]
 refine qj0 p l false () ⟨some (tab (fun i=>((RV_ex (stepQ P x n i)).choose)) n),?_,?_⟩ ⟨?_,?_⟩
 . exact tab_len _ _
 . intro i hi
   show RV ((tab _ _).getD i r0) _
   rw[tab_get _ _ _ _ hi]
   exact (RV_ex (stepQ P x n i)).choose_spec
 . rw[e1]
   show 0<=(n:Int)/\(n:Int)<=n/\(n:Int)*64<=281474976710656
   omega
 . rw[e1,e2]
   refine rangeB (n:=n) (fun i y=>(p,(l,(false,((n:Int),((i:Int),y)))))) (fun i y=>RL y (stepQ P x i) n) (some (repS (n:Int) r0)) rfl (RL.zero n) (fun p=>p.2.2.2.2.1.toNat) (fun _ _=>rfl) (fun _ _ _=>rfl) ?_ ?_
   . intro k0 i y hi hy hk0
     try dsimp only
     obtain⟨r1,r2⟩:=p2 i hi
     refine⟨in_s (by omega),?_⟩
     rw[q16]
     generalize hr:(p.getD []).getD i none=r at *
     have e3:szSl r=(n:Int):=by show ((r.getD []).length:Int)=n;rw[r1]
     rw[e3]
     refine rangeB (n:=n) (fun j z=>(p,(l,(false,((i:Int),((n:Int),((i:Int),(r,((n:Int),((j:Int),z)))))))))) (fun j z=>RL z (fun t=>stepQ P x (if t<j then i+1 else i) t) n) y rfl (hy.congr fun j _=>by rw[if_neg (by omega)]) (fun p=>p.2.2.2.2.2.2.2.2.1.toNat) (fun _ _=>rfl) (fun _ _ _=>rfl) ?_ ?_
     . intro k1 j z hj hz hk1
       try dsimp only
       refine⟨in_s (by omega),?_⟩
       rw[q06]
       have hc:=r2 j hj
       refine (q19 hc).mono fun sg hsg=>?_
       subst hsg
       refine joinE (br_c (fun hb=>?_) fun hb=>?_)
       . try dsimp only
         rw[wi1 hj (by omega)]
         refine hk1 _ (hz.congr fun t _=>?_)
         try dsimp only
         by_cases htj:t<j
         . rw[if_pos htj,if_pos (by omega)]
         . rw[if_neg htj]
           by_cases e:t<j+1
           . obtain rfl:t=j:=by omega
             rw[if_pos e]
             simp only[stepQ,sumQ]
             rw[rv_zero hc (dec_t hb),Rat.mul_zero,Rat.add_zero]
           . rw[if_neg e]
       . refine joinE (br_f rfl ⟨in_s (by rw[hz.1];exact hj),in_s (by omega),?_⟩)
         have e4:eltN r0 z (toN (j:Int))=(z.getD []).getD j r0:=by simp only[eltN,toN,Int.toNat_natCast]
         rw[e4,q06]
         have hzj:=hz.2 j hj
         dsimp only at hzj
         rw[if_neg (by omega)] at hzj
         refine (q9I hzj (h2 i hi) hc (f4 i j (by omega) hj) (f2 i hi) (f1 i j hi hj) (f3 i j hi hj) hk).mono fun w hw=>⟨in_s (by rw[hz.1];exact hj),?_⟩
         try dsimp only
         rw[wi1 hj (by omega),show toN (j:Int)=j from Int.toNat_natCast j]
         refine hk1 _ (RL.set hz hj (g:=fun t=>stepQ P x (if t<j+1 then i+1 else i) t) ?_ fun t _ ht=>?_)
         . rw[if_pos (by omega)];exact hw
         . try dsimp only
           by_cases htj:t<j
           . rw[if_pos htj,if_pos (by omega)]
           . rw[if_neg htj,if_neg (by omega)]
     . intro _ z hz
       try dsimp only
       rw[wi1 hi (by omega)]
       refine hk0 _ (hz.congr fun t ht=>?_)
       try dsimp only
       rw[if_pos ht]
   . intro _ y hy
     exact hy
end Go.Proofs.Pf.B
namespace Go.Proofs.Pf.B
open Go Go.VM
abbrev nth2 (l:List (Int×Int)) (i:Nat):Int×Int:=l.getD i (0,0)
theorem q41 {l:Option (List (Int×Int))} {i:Nat}:eltS ((0:Int),(0:Int)) l (i:Int)=nth2 (l.getD []) i:=by simp only[eltS,Int.toNat_natCast]
theorem q4i {l:Option (List (Int×Int))} (h:∀ i,i<(l.getD []).length->NumOk (nth2 (l.getD []) i)) (hn:(l.getD []).length<=1000):
 callV Pg q0Q [⟨(.sl tNum),l⟩] (.sl tER) fun r=>RL r (fun i=>numQ (nth2 (l.getD []) i)) (l.getD []).length:=by
 refine qi0 l (RL.ex _ _) (rangeB (n:=(l.getD []).length) (fun i x=>(l,(((l.getD []).length:Int),((i:Int),x)))) (fun i x=>RL x (fun i=>numQ (nth2 (l.getD []) i)) i) none rfl (RL.nil _) (fun p=>p.2.2.1.toNat) (fun _ _=>rfl) (fun _ _ _=>rfl) ?_ ?_)
 . intro k i x hi hx hk
   dsimp only
   refine⟨in_s hi,?_⟩
   rw[q41]
   refine (s_Rat longS (h i hi)).mono fun z hz=>⟨hx.c8 (by omega),?_⟩
   rw[wi1 hi (by omega)]
   exact hk _ (hx.app hz)
 . intro _ x hx
   exact hx
def outsQ (f:Nat->Rat) (n:Nat):Option (List (Int×Int))×Int×Unit:=if ∀ i,i<n->(outQ (f i)).2.1=0 then (optL (tab (fun i=>(outQ (f i)).1) n),0,()) else (none,3,())
theorem outQ_err (q:Rat):(outQ q).2.1=0∨(outQ q).2.1=3:=by
 unfold outQ;split
 . exact .inl rfl
 . exact .inr rfl
theorem s_Outs {l:Option (List DR)} {f:Nat->Rat} {n:Nat} (hl:RL l f n) (hn:n<=1000):
 callV Pg q33 [⟨(.sl tER),l⟩] (.tup (.pair (.sl tNum) (.pair tI .unit))) fun r=>r=outsQ f n:=by
 have e1:szSl l=(n:Int):=by show ((l.getD []).length:Int)=n;rw[hl.1]
 refine qhZ l ⟨_,rfl⟩ ?_
 rw[e1]
 refine rangeB (n:=n) (fun i x=>(l,((n:Int),((i:Int),x)))) (fun i x=>(∀ j,j<i->(outQ (f j)).2.1=0)/\x=optL (tab (fun i=>(outQ (f i)).1) i)) none rfl ⟨fun j hj=>absurd hj (by omega),rfl⟩ (fun p=>p.2.2.1.toNat) (fun _ _=>rfl) (fun _ _ _=>rfl) ?_ ?_
 . intro k i x hi hx hk
   obtain⟨hx,rfl⟩:=hx
   dsimp only
   refine⟨in_s (by rw[hl.1];exact hi),?_⟩
   rw[q06]
   refine (s_Out (hl.2 i hi)).mono ?_
   rintro _ rfl
   refine br_c (fun hb=>?_) fun hb=>⟨?_,?_⟩
   . have hb:¬ (outQ (f i)).2.1=0:=by simpa[notB] using hb
     have e3:=(outQ_err (f i)).resolve_left hb
     rw[e3,outsQ,if_neg (fun h=>hb (h i hi))]
   . show ((((optL (tab (fun i=>(outQ (f i)).1) i))).getD []).length+1)*16<=140737488355328
     rw[q0e,tab_len];omega
   . have hb:(outQ (f i)).2.1=0:=by simpa[notB] using hb
     rw[wi1 hi (by omega)]
     refine hk _ ⟨fun j hj=>?_,?_⟩
     . rcases Nat.lt_or_ge j i with hlt | hge
       . exact hx j hlt
       . obtain rfl:j=i:=by omega
         exact hb
     . show appL _ [_]=_
       rw[q3C,q4n]
 . intro _ x hx
   obtain⟨hx,rfl⟩:=hx
   show (_,_)=_
   rw[outsQ,if_pos hx]
end Go.Proofs.Pf.B
namespace Go.Proofs.Pf.B
open Go Go.VM
def bs_ (m:DMo) (s:Nat):List DBr:=(ch ((stt (m.getD []) s).2.2.getD []) 0).2.getD []
def brQ (l:List DBr):Nat->Nat->Rat
 | 0,_=>0
 | j+1,t=>if (br l j).1=(t:Int) then numQ (br l j).2 else brQ l j t
def rowQ (m:DMo) (s t:Nat):Rat:=brQ (bs_ m s) (bs_ m s).length t
def hds (n i:Nat):Option (List (Option Nat)):=some (tab (fun s=>if s<i then some s else none) n)
theorem q42 (n i:Nat):((hds n i).getD []).length=n:=tab_len _ _
theorem hds_get {n i s:Nat} (h:s<n):eltN none (hds n i) s=if s<i then some s else none:=tab_get _ _ _ _ h
theorem q94 (n:Nat):hdL (α:=List DR) (some (repS (n:Int) none))=hds n 0:=by
 simp only[hdL,hds,repS,Option.map_some,Int.toNat_natCast,List.map_replicate]
 congr 1
 rw[List.eq_replicate_iff.2 ⟨tab_len _ _,fun b hb=>?_⟩]
 simp only[tab,List.mem_map,List.mem_range] at hb
 obtain⟨a,_,rfl⟩:=hb
 exact if_neg (by omega)
theorem hds_set {n i:Nat} (h:i<n):setO (hds n i) i (some i)=hds n (i+1):=by
 show some ((tab _ n).set i (some i))=some (tab _ n)
 congr 1
 apply List.ext_getElem
 . simp[tab]
 . intro j h1 h2
   rw[List.getElem_set]
   simp only[tab,List.getElem_map,List.getElem_range]
   by_cases e:i=j
   . subst e;rw[if_pos rfl,if_pos (by omega)]
   . rw[if_neg e]
     by_cases hji:j<i
     . rw[if_pos hji,if_pos (by omega)]
     . rw[if_neg hji,if_neg (by omega)]
theorem moOk.bs {m:DMo} (h:moOk m) {s:Nat} (hs:s<(m.getD []).length):(bs_ m s).length<=8/\(1<=((stt (m.getD []) s).2.2.getD []).length)/\∀ k,k<(bs_ m s).length->0<=(br (bs_ m s) k).1/\(br (bs_ m s) k).1<((m.getD []).length:Int)/\NumOk (br (bs_ m s) k).2:=by
 obtain⟨h1,h2⟩:=h.2 s hs
 have h3:=h2 0 (by have:=h1.2.2.1;omega)
 refine⟨h3.2.1.2,h1.2.2.1,fun k hk=>?_⟩
 have h4:=h3.2.2.1 k hk
 have h5:-1<=preTo (bs_ m s) k:=pre_le (i:=k) (fun j hj=>h3.2.2.1 j (by have:k<(bs_ m s).length:=hk;exact Nat.lt_trans hj this))
 have h6:preTo (bs_ m s) k<(br (bs_ m s) k).1:=h4.1
 exact⟨by omega,h4.2.1,h4.2.2.1⟩
theorem RM.ex (P:Nat->Nat->Rat) (n:Nat):∃ r,RM r P n:=by
 refine⟨some (tab (fun i=>(RL.ex (P i) n).choose) n),tab_len _ _,fun i hi=>?_⟩
 show RL ((tab _ _).getD i none) _ _
 rw[tab_get _ _ _ _ hi]
 exact (RL.ex (P i) n).choose_spec
def RowsOk (m:DMo) (n i:Nat) (ls:List (List DR)):Prop:=ls.length=i/\∀ s,s<i->RL (some (ls.getD s [])) (rowQ m s) n
theorem q3M {m:DMo} (h:moOk m):callV Pg q0D [⟨tMo,m⟩] (.sl (.sl tER)) fun r=>RM r (rowQ m) (m.getD []).length:=by
 have hn:=h.1.2
 refine qh4 m (RM.ex _ _) ⟨?_,?_,?_⟩
 . show 0<=((m.getD []).length:Int)/\((m.getD []).length:Int)<=((m.getD []).length:Int)/\((m.getD []).length:Int)*24<=281474976710656
   omega
 . intro y hy
   have hy:y∈List.replicate _ none:=hy
   rw[List.eq_of_mem_replicate hy];rfl
 generalize hN:(m.getD []).length=n at *
 have e0:szSl m=(n:Int):=by show ((m.getD []).length:Int)=n;rw[hN]
 rw[e0,q94]
 refine rangeB (n:=n) (fun i (x:Option (List (Option Nat))×List (List DR))=>((n:Int),((n:Int),((i:Int),(m,x))))) (fun i x=>x.1=hds n i/\RowsOk m n i x.2) (hds n 0,[]) rfl ⟨rfl,rfl,fun s hs=>absurd hs (by omega)⟩ (fun p=>p.2.2.1.toNat) (fun _ _=>rfl) (fun _ _ _=>rfl) ?_ ?_
 . rintro k0 i ⟨hd,ls⟩ hi ⟨hx1,hx2⟩ hk0
   have hx1:hd=hds n i:=hx1
   have hx2:RowsOk m n i ls:=hx2
   subst hx1
   obtain⟨b1,b2,b3⟩:=h.bs (s:=i) (by rw[hN];exact hi)
   dsimp only
   refine⟨⟨by omega,by omega,by omega⟩,in_s (by rw[q42];exact hi),in_s (by omega),?_⟩
   rw[q1r]
   refine⟨in_s (i:=0) (by omega),?_⟩
   have e1:(eltS (((0:Int),(0:Int)),none) (stt (m.getD []) i).2.2 (0:Int)).2.getD []=bs_ m i:=rfl
   have e2:szSl (eltS (((0:Int),(0:Int)),none) (stt (m.getD []) i).2.2 (0:Int)).2=((bs_ m i).length:Int):=rfl
   rw[e2]
   generalize (eltS (((0:Int),(0:Int)),none) (stt (m.getD []) i).2.2 (0:Int)).2=bl at *
   have e3:gvH (α:=List DR) (some (repS (n:Int) r0)) (lenL ls)=some i:=by show some ls.length=some i;rw[hx2.1]
   rw[e3,show toN (i:Int)=i from Int.toNat_natCast i,hds_set hi]
   refine rangeB (n:=(bs_ m i).length) (fun k (x:List (List DR))=>((n:Int),((i:Int),((n:Int),((i:Int),(bl,(((bs_ m i).length:Int),((k:Int),(m,(hds n (i+1),x)))))))))) (fun k x=>x.length=i+1/\(∀ s,s<i->RL (some (x.getD s [])) (rowQ m s) n)/\RL (some (x.getD i [])) (brQ (bs_ m i) k) n) (gvL ls (some (repS (n:Int) r0))) rfl ⟨?_,fun s hs=>?_,?_⟩ (fun p=>p.2.2.2.2.2.2.1.toNat) (fun _ _=>rfl) (fun _ _ _=>rfl) ?_ ?_
   . show (ls ++ [_]).length=i+1
     rw[List.length_append,hx2.1];rfl
   . show RL (some ((ls ++ [_]).getD s [])) _ _
     rw[List.getD_eq_getElem?_getD,List.getElem?_append_left (by rw[hx2.1];exact hs),<-List.getD_eq_getElem?_getD]
     exact hx2.2 s hs
   . show RL (some ((ls ++ [_]).getD i [])) _ _
     rw[List.getD_eq_getElem?_getD,List.getElem?_append_right (by rw[hx2.1];omega),hx2.1,Nat.sub_self]
     exact RL.zero n
   . rintro k1 k x hk hx hk1
     obtain⟨x1,x2,x3⟩:=hx
     dsimp only
     obtain⟨c1,c2,c3⟩:=b3 k hk
     refine⟨in_s (by rw[e1];exact hk),in_s (by rw[q42];exact hi),?_⟩
     rw[q5u,e1]
     refine (s_Rat longS c3).mono fun z hz=>?_
     generalize hB:br (bs_ m i) k=b at *
     obtain⟨t,ht⟩:∃ t:Nat,b.1=(t:Int):=⟨b.1.toNat,by omega⟩
     have htn:t<n:=by omega
     rw[show toN (i:Int)=i from Int.toNat_natCast i,hds_get hi,if_pos (by omega)]
     have hlen:(x.getD i []).length=n:=x3.1
     refine⟨⟨by omega,?_⟩,?_⟩
     . show b.1<(((x.getD ((some i).getD x.length) []).length:Nat):Int)
       rw[show (some i).getD x.length=i from rfl,hlen];omega
     . rw[ht,show toN (t:Int)=t from Int.toNat_natCast t,wi1 hk (by omega)]
       refine hk1 _ ⟨?_,fun s hs=>?_,?_⟩
       . show (x.set i _).length=i+1
         simpa using x1
       . show RL (some ((x.set i _).getD s [])) _ _
         rw[List.getD_eq_getElem?_getD,List.getElem?_set_ne (by omega),<-List.getD_eq_getElem?_getD]
         exact x2 s hs
       . show RL (some ((x.set i _).getD i [])) _ _
         rw[List.getD_eq_getElem?_getD,List.getElem?_set_self (by omega)]
         refine RL.set (l:=some (x.getD i [])) x3 htn ?_ fun j hj hne=>?_
         . show RV z (brQ (bs_ m i) (k+1) t)
           simp only[brQ,hB,ht,if_true];exact hz
         . simp only[brQ,hB,ht]
           rw[if_neg (by omega)]
   . rintro k1 x ⟨x1,x2,x3⟩
     dsimp only
     rw[wi1 hi (by omega)]
     refine hk0 (_,_) ⟨rfl,x1,fun s hs=>?_⟩
     rcases Nat.lt_or_ge s i with hlt | hge
     . exact x2 s hlt
     . obtain rfl:s=i:=by omega
       exact x3
 . rintro _ ⟨hd,ls⟩ ⟨hx1,hx2⟩
   have hx1:hd=hds n n:=hx1
   have hx2:RowsOk m n n ls:=hx2
   subst hx1
   refine⟨?_,fun s hs=>?_⟩
   . show ((tab _ n).map _).length=n
     simp[tab]
   . show RL (((tab _ n).map _).getD s none) _ _
     rw[List.getD_eq_getElem?_getD,List.getElem?_map]
     simp only[tab,List.getElem?_map,List.getElem?_range hs,Option.map_some,Option.getD_some,if_pos hs,unH]
     exact hx2.2 s hs
end Go.Proofs.Pf.B
namespace Go.Proofs.Pf.B
open Go Go.VM
abbrev KK:Nat:=1152921504606846976
theorem kk_pow (e:Nat):KK ^ e=1073741824 ^ (2*e):=by rw[Nat.pow_mul]
theorem kk_lt {a e:Nat} (h:a<=KK ^ e):a<1073741824 ^ (2*e+1):=by
 rw[kk_pow] at h
 have h2:0<1073741824 ^ (2*e):=Nat.pow_pos (by decide)
 rw[Nat.pow_succ]
 generalize 1073741824 ^ (2*e)=x at *
 omega
theorem kk_pos (e:Nat):0<KK ^ e:=Nat.pow_pos (by decide)
theorem kk_le {a b:Nat} (h:a<=b):KK ^ a<=KK ^ b:=Nat.pow_le_pow_right (by decide) h
theorem kk_mul {a b x y:Nat} (h:x<=KK ^ a) (g:y<=KK ^ b):x*y<=KK ^ (a+b):=by rw[Nat.pow_add];exact Nat.mul_le_mul h g
def FB (n e:Nat) (x:Nat->Rat):Prop:=∃ D,0<D/\D<=KK ^ e/\∀ s,s<n->QD D (KK ^ e) (x s)
theorem FB.fit {n e:Nat} {x:Nat->Rat} (h:FB n e x) {s:Nat} (hs:s<n):Pf.RFit (2*e+1) (x s)/\RFit (2*e+1) (x s):=by
 obtain⟨D,h1,h2,h3⟩:=h
 exact (h3 s hs).fit h1 (kk_lt h2) (kk_lt (Nat.le_refl _))
theorem FB.mono {n e e':Nat} {x:Nat->Rat} (h:FB n e x) (he:e<=e'):FB n e' x:=by
 obtain⟨D,h1,h2,h3⟩:=h
 exact⟨D,h1,Nat.le_trans h2 (kk_le he),fun s hs=>(h3 s hs).mono (kk_le he)⟩
theorem FB.pick {n e:Nat} {x:Nat->Rat} (h:FB n e x) (c:Nat->Bool):FB n e fun s=>if c s=true then x s else 0:=by
 obtain⟨D,h1,h2,h3⟩:=h
 refine⟨D,h1,h2,fun s hs=>?_⟩
 dsimp only
 split
 . exact h3 s hs
 . exact QD.zero _ _
theorem FB.congr {n e:Nat} {x y:Nat->Rat} (h:FB n e x) (g:∀ s,s<n->y s=x s):FB n e y:=by
 obtain⟨D,h1,h2,h3⟩:=h
 exact⟨D,h1,h2,fun s hs=>by rw[g s hs];exact h3 s hs⟩
theorem FB.seen {m:DMo} {e:Nat} {x:Nat->Rat} {n:Nat} (h:FB n e x) (mark:Int):FB n e (seenQ m x mark):=
 (h.pick fun s=>decide ((stt (m.getD []) s).2.1=mark)).congr fun s _=>by simp only[seenQ,decide_eq_true_eq]
theorem FB.of {n:Nat} {x:Nat->Rat} (h:∀ s,s<n->(x s).num.natAbs<=KK/\(x s).den<=KK):FB n (n+1) x:=by
 obtain⟨D,h1,h2,h3⟩:=QD.common x n h
 exact⟨D,h1,Nat.le_trans h2 (kk_le (by omega)),fun s hs=>(h3 s hs).mono (by rw[Nat.pow_succ,Nat.mul_comm];exact Nat.mul_le_mul_right _ h2)⟩
def MB (n e:Nat) (P:Nat->Nat->Rat):Prop:=∃ D,0<D/\D<=KK ^ e/\∀ s t,s<n->t<n->QD D (KK ^ e) (P s t)
theorem MB.of {n:Nat} {P:Nat->Nat->Rat} (h:∀ s t,s<n->t<n->(P s t).num.natAbs<=KK/\(P s t).den<=KK):MB n (n*n+1) P:=by
 rcases Nat.eq_zero_or_pos n with h0 | h0
 . subst h0;exact⟨1,by omega,by decide,fun s t hs=>absurd hs (by omega)⟩
 obtain⟨D,h1,h2,h3⟩:=FB.of (n:=n*n) (x:=fun i=>P (i / n) (i % n)) fun i hi=>h _ _ (Nat.div_lt_of_lt_mul hi) (Nat.mod_lt _ h0)
 refine⟨D,h1,h2,fun s t hs ht=>?_⟩
 have h4:=h3 (t+n*s) (by
  have:n*s+n<=n*n:=by rw[<-Nat.mul_succ];exact Nat.mul_le_mul_left _ hs
  omega)
 dsimp only at h4
 rw[Nat.add_mul_div_left _ _ h0,Nat.div_eq_of_lt ht,Nat.zero_add,Nat.add_mul_mod_self_left,Nat.mod_eq_of_lt ht] at h4
 exact h4
theorem MB.fit {n e:Nat} {P:Nat->Nat->Rat} (h:MB n e P) {s t:Nat} (hs:s<n) (ht:t<n):Pf.RFit (2*e+1) (P s t)/\RFit (2*e+1) (P s t):=by
 obtain⟨D,h1,h2,h3⟩:=h
 exact (h3 s t hs ht).fit h1 (kk_lt h2) (kk_lt (Nat.le_refl _))
theorem FB.prod {n a b:Nat} {x:Nat->Rat} {P:Nat->Nat->Rat} (h:FB n a x) (g:MB n b P) {s t:Nat} (hs:s<n) (ht:t<n):Pf.RFit (2*(a+b)+1) (x s*P s t)/\RFit (2*(a+b)+1) (x s*P s t):=by
 obtain⟨D,h1,h2,h3⟩:=h
 obtain⟨E,g1,g2,g3⟩:=g
 exact ((h3 s hs).mul (g3 s t hs ht)).fit (Nat.mul_pos h1 g1) (kk_lt (kk_mul h2 g2)) (kk_lt (kk_mul (Nat.le_refl _) (Nat.le_refl _)))
theorem FB.step {n a b c:Nat} {x:Nat->Rat} {P:Nat->Nat->Rat} (h:FB n a x) (g:MB n b P) (hn:n<=KK) (hc:c<=n):FB n (a+b+1) (stepQ P x c):=by
 obtain⟨D,h1,h2,h3⟩:=h
 obtain⟨E,g1,g2,g3⟩:=g
 refine⟨D*E,Nat.mul_pos h1 g1,Nat.le_trans (kk_mul h2 g2) (kk_le (by omega)),fun t ht=>?_⟩
 refine (QD.sum c fun s hs=>(h3 s (by omega)).mul (g3 s t (by omega) ht)).mono ?_
 rw[Nat.pow_succ,Nat.mul_comm,Nat.pow_add]
 exact Nat.mul_le_mul_left _ (by omega)
end Go.Proofs.Pf.B
namespace Go.Proofs.Pf.B
open Go Go.VM
abbrev cntL (s:DSt):Int:=((s.2.2.getD []).length:Int)
end Go.Proofs.Pf.B
namespace Go.Proofs.Pf
open Go Go.VM
set_option maxRecDepth 100000
def qbR:Ann:=(.seq .nil (.seq .nil (.seq .nil (.seq .nil (.seq (.seq .nil (.blk none (.loop ⟨[(2,.ref 2 0),(7,.own 19)],[.var 1 tL,.var 5 (.sl (.sl tER)),.var 6 tI,.var 8 tI,.box 2 tMo,.arr 19 (.sl tER)]⟩ (.seq .nil (.seq (.blk none (.seq .nil (.seq (.seq .nil (.blk none (.loop ⟨[(2,.ref 2 0),(7,.own 19),(9,.own 29)],[.var 1 tL,.var 5 (.sl (.sl tER)),.var 6 tI,.var 8 tI,.var 31 tI,.var 32 tI,.box 2 tMo,.arr 19 (.sl tER),.arr 29 tER]⟩ (.seq .nil (.seq .nil (.seq (.blk (some ⟨[(2,.ref 2 0),(7,.own 19),(9,.own 29)],[.var 1 tL,.var 5 (.sl (.sl tER)),.var 6 tI,.var 8 tI,.var 31 tI,.var 32 tI,.box 2 tMo,.arr 19 (.sl tER),.arr 29 tER]⟩) (.seq .nil (.seq .nil (.seq .nil (.blk none (.loop ⟨[(2,.ref 2 0),(7,.own 19),(9,.own 29)],[.var 1 tL,.var 5 (.sl (.sl tER)),.var 6 tI,.var 8 tI,.var 10 tI,.var 31 tI,.var 32 tI,.var 46 (.sl tER),.var 47 tI,.var 48 tI,.box 2 tMo,.arr 19 (.sl tER),.arr 29 tER]⟩ (.seq .nil (.seq .nil (.seq (.blk none (.seq .nil (.seq .nil (.seq .nil (.cond (some ⟨[(2,.ref 2 0),(7,.own 19),(9,.own 29)],[.var 1 tL,.var 5 (.sl (.sl tER)),.var 6 tI,.var 8 tI,.var 10 tI,.var 31 tI,.var 32 tI,.var 46 (.sl tER),.var 47 tI,.var 48 tI,.box 2 tMo,.arr 19 (.sl tER),.arr 29 tER]⟩) .nil .nil))))) .nil))))))))) .nil)))))) (.reg [29] [] none)))) .nil))))) .nil)))))
theorem qiR {Q:(Option (List (Option (List DR))))->Prop} (a:DMo) (b:DL) (hQ:∃ r,Q r) (h:
 (callV Pg q0D [⟨tMo,a⟩] (.sl (.sl tER)) (fun p0=>((mkC 24 (szSl b) (szSl b))/\(loopV (DL×((Option (List (Option (List DR))))×(Int×(Int×(DMo×(Option (List (Option (List DR))))))))) (fun k1=>(fun p2=>(brV (decide ((0:Int)<=p2.2.2.2.1)) ((mkC 64 (szSl p2.2.2.2.2.1) (szSl p2.2.2.2.2.1))/\(loopV (DL×((Option (List (Option (List DR))))×(Int×(Int×(Int×(Int×(DMo×((Option (List (Option (List DR))))×(Option (List DR)))))))))) (fun k3=>(fun p4=>(brV (decide (p4.2.2.2.2.2.1<p4.2.2.2.2.1)) (joinV (DL×((Option (List (Option (List DR))))×(Int×(Int×(Int×(Int×(DMo×((Option (List (Option (List DR))))×(Option (List DR)))))))))) (fun p5=>(k3 (p5.1,(p5.2.1,(p5.2.2.1,(p5.2.2.2.1,(p5.2.2.2.2.1,((IntKind.wrap IntKind.i64 (p5.2.2.2.2.2.1+(1:Int))),(p5.2.2.2.2.2.2.1,p5.2.2.2.2.2.2.2))))))))) (fun k5=>(brV (decide (p4.2.2.2.1=(IntKind.wrap IntKind.i64 (p4.2.2.1 - (1:Int))))) (callV Pg q0V [] tER (fun p6=>((inS p4.2.2.2.2.2.2.2.2 p4.2.2.2.2.2.1)/\(k5 (p4.1,(p4.2.1,(p4.2.2.1,(p4.2.2.2.1,(p4.2.2.2.2.1,(p4.2.2.2.2.2.1,(p4.2.2.2.2.2.2.1,(p4.2.2.2.2.2.2.2.1,(setO p4.2.2.2.2.2.2.2.2 (toN p4.2.2.2.2.2.1) (p6.1,p6.2)))))))))))))) ((inS p4.2.1 p4.2.2.2.2.2.1)/\(loopV (DL×((Option (List (Option (List DR))))×(Int×(Int×(Int×(Int×(Int×((Option (List DR))×(Int×(Int×(DMo×((Option (List (Option (List DR))))×(Option (List DR)))))))))))))) (fun k6=>(fun p7=>(brV (decide (p7.2.2.2.2.2.2.2.2.2.1<p7.2.2.2.2.2.2.2.2.1)) ((inS p7.2.2.2.2.2.2.2.1 p7.2.2.2.2.2.2.2.2.2.1)/\((inS p7.2.2.2.2.2.2.2.2.2.2.2.1 (IntKind.wrap IntKind.i64 (p7.2.2.2.1+(1:Int))))/\((inS (eltN none p7.2.2.2.2.2.2.2.2.2.2.2.1 (toN (IntKind.wrap IntKind.i64 (p7.2.2.2.1+(1:Int))))) p7.2.2.2.2.2.2.2.2.2.1)/\(callV Pg q0E [⟨tER,((eltS (((0:Int),none),((0:Int),none)) p7.2.2.2.2.2.2.2.1 p7.2.2.2.2.2.2.2.2.2.1).1,(eltS (((0:Int),none),((0:Int),none)) p7.2.2.2.2.2.2.2.1 p7.2.2.2.2.2.2.2.2.2.1).2)⟩,⟨tER,((eltS (((0:Int),none),((0:Int),none)) (eltN none p7.2.2.2.2.2.2.2.2.2.2.2.1 (toN (IntKind.wrap IntKind.i64 (p7.2.2.2.1+(1:Int))))) p7.2.2.2.2.2.2.2.2.2.1).1,(eltS (((0:Int),none),((0:Int),none)) (eltN none p7.2.2.2.2.2.2.2.2.2.2.2.1 (toN (IntKind.wrap IntKind.i64 (p7.2.2.2.1+(1:Int))))) p7.2.2.2.2.2.2.2.2.2.1).2)⟩] tER (fun p8=>((inS p7.2.2.2.2.2.2.2.2.2.2.2.2 p7.2.2.2.2.1)/\(callV Pg q1e [⟨tER,(p8.1,p8.2)⟩,⟨tER,((eltN (((0:Int),none),((0:Int),none)) p7.2.2.2.2.2.2.2.2.2.2.2.2 (toN p7.2.2.2.2.1)).1,(eltN (((0:Int),none),((0:Int),none)) p7.2.2.2.2.2.2.2.2.2.2.2.2 (toN p7.2.2.2.2.1)).2)⟩] tI (fun p9=>(joinV (DL×((Option (List (Option (List DR))))×(Int×(Int×(Int×(Int×(Int×((Option (List DR))×(Int×(Int×(DMo×((Option (List (Option (List DR))))×(Option (List DR)))))))))))))) (fun p10=>(k6 (p10.1,(p10.2.1,(p10.2.2.1,(p10.2.2.2.1,(p10.2.2.2.2.1,(p10.2.2.2.2.2.1,(p10.2.2.2.2.2.2.1,(p10.2.2.2.2.2.2.2.1,(p10.2.2.2.2.2.2.2.2.1,((IntKind.wrap IntKind.i64 (p10.2.2.2.2.2.2.2.2.2.1+(1:Int))),(p10.2.2.2.2.2.2.2.2.2.2.1,p10.2.2.2.2.2.2.2.2.2.2.2))))))))))))) (fun k10=>(brV (decide ((0:Int)<p9)) ((inS p7.2.2.2.2.2.2.2.2.2.2.2.2 p7.2.2.2.2.1)/\(k10 (p7.1,(p7.2.1,(p7.2.2.1,(p7.2.2.2.1,(p7.2.2.2.2.1,(p7.2.2.2.2.2.1,(p7.2.2.2.2.2.2.1,(p7.2.2.2.2.2.2.2.1,(p7.2.2.2.2.2.2.2.2.1,(p7.2.2.2.2.2.2.2.2.2.1,(p7.2.2.2.2.2.2.2.2.2.2.1,(p7.2.2.2.2.2.2.2.2.2.2.2.1,(setO p7.2.2.2.2.2.2.2.2.2.2.2.2 (toN p7.2.2.2.2.1) (p8.1,p8.2)))))))))))))))) (k10 (p7.1,(p7.2.1,(p7.2.2.1,(p7.2.2.2.1,(p7.2.2.2.2.1,(p7.2.2.2.2.2.1,(p7.2.2.2.2.2.2.1,(p7.2.2.2.2.2.2.2.1,(p7.2.2.2.2.2.2.2.2.1,(p7.2.2.2.2.2.2.2.2.2.1,(p7.2.2.2.2.2.2.2.2.2.2.1,p7.2.2.2.2.2.2.2.2.2.2.2))))))))))))))))))))))) (k5 (p7.1,(p7.2.1,(p7.2.2.1,(p7.2.2.2.1,(p7.2.2.2.2.2.1,(p7.2.2.2.2.2.2.1,(p7.2.2.2.2.2.2.2.2.2.2.1,p7.2.2.2.2.2.2.2.2.2.2.2))))))))))) (p4.1,(p4.2.1,(p4.2.2.1,(p4.2.2.2.1,(p4.2.2.2.2.2.1,(p4.2.2.2.2.1,(p4.2.2.2.2.2.1,((eltS none p4.2.1 p4.2.2.2.2.2.1),((szSl (eltS none p4.2.1 p4.2.2.2.2.2.1)),((0:Int),(p4.2.2.2.2.2.2.1,p4.2.2.2.2.2.2.2)))))))))))))))) ((inS p4.1 p4.2.2.2.1)/\(callV Pg q1o [⟨tMo,p4.2.2.2.2.2.2.1⟩,⟨(.sl tER),p4.2.2.2.2.2.2.2.2⟩,⟨tI,(eltS (0:Int) p4.1 p4.2.2.2.1)⟩] (.sl tER) (fun p5=>((inS p4.2.2.2.2.2.2.2.1 p4.2.2.2.1)/\(k1 (p4.1,(p4.2.1,(p4.2.2.1,((IntKind.wrap IntKind.i64 (p4.2.2.2.1 - (1:Int))),(p4.2.2.2.2.2.2.1,(setO p4.2.2.2.2.2.2.2.1 (toN p4.2.2.2.1) p5)))))))))))))) (p2.1,(p2.2.1,(p2.2.2.1,(p2.2.2.2.1,((szSl (some (repS (α:=DR) (szSl p2.2.2.2.2.1) (((0:Int),none),((0:Int),none))))),((0:Int),(p2.2.2.2.2.1,(p2.2.2.2.2.2,(some (repS (α:=DR) (szSl p2.2.2.2.2.1) (((0:Int),none),((0:Int),none)))))))))))))) (Q p2.2.2.2.2.2)))) (b,(p0,((szSl b),((IntKind.wrap IntKind.i64 ((szSl b) - (1:Int))),(a,(some (repS (α:=(Option (List DR))) (szSl b) none)))))))))))):
 callV Pg q2t [⟨tMo,a⟩,⟨tL,b⟩] (.sl (.sl tER)) Q:=
 q02 (c:=q01 q8C) (ann:=qbR) qee rfl qgy rfl rfl hQ (kcast (by kernel_rfl) h)
def qbM:Ann:=(.seq .nil (.seq .nil (.seq .nil (.seq .nil (.seq (.seq .nil (.cond (some ⟨[(7,.ref 7 0),(10,.own 1010),(11,.ref 11 0)],[.box 7 tNum,.box 11 tER,.arr 1010 tI]⟩) (.seq .nil (.seq .nil (.seq .nil (.blk none (.loop ⟨[(7,.ref 7 0),(10,.own 1010),(11,.ref 11 0)],[.var 12 (.sl (.sl tER)),.var 13 (.sl (.sl tER)),.var 14 (.sl tER),.var 43 tI,.var 44 tI,.box 7 tNum,.box 11 tER,.arr 1010 tI]⟩ (.seq .nil (.seq .nil (.seq (.blk none (.seq .nil (.seq .nil (.seq (.seq .nil (.blk none (.loop ⟨[(7,.ref 7 0),(10,.own 1010),(11,.ref 11 0),(17,.ref 17 0)],[.var 12 (.sl (.sl tER)),.var 13 (.sl (.sl tER)),.var 14 (.sl tER),.var 15 tI,.var 16 tI,.var 43 tI,.var 44 tI,.var 48 (.sl tER),.var 49 tI,.var 50 tI,.box 7 tNum,.box 11 tER,.box 17 tER,.arr 1010 tI]⟩ (.seq .nil (.seq .nil (.seq (.blk none (.seq .nil (.seq .nil (.seq .nil (.cond (some ⟨[(7,.ref 7 0),(10,.own 1010),(11,.ref 11 0),(17,.ref 17 0)],[.var 12 (.sl (.sl tER)),.var 13 (.sl (.sl tER)),.var 14 (.sl tER),.var 15 tI,.var 16 tI,.var 43 tI,.var 44 tI,.var 48 (.sl tER),.var 49 tI,.var 50 tI,.box 7 tNum,.box 11 tER,.box 17 tER,.arr 1010 tI]⟩) .nil .nil))))) .nil)))))) (.seq .nil (.seq (.reg [] [(4095,([.cut 10 500081],false))] none) .nil)))))) .nil)))))))) .nil)) .nil)))))
theorem qiM {Q:(DL×((Int×Int)×(Int×Unit)))->Prop} (a:DMo) (b:(Option (List (Int×Int)))) (c:DL) (hQ:∃ r,Q r) (h:
 (callV Pg q14 [⟨tMo,a⟩,⟨(.sl tNum),b⟩,⟨tL,c⟩] tI (fun p0=>(brV (notB (decide (p0=(0:Int)))) (Q (none,(((0:Int),(0:Int)),(p0,())))) (callV Pg q0V [] tER (fun p1=>(joinV ((Int×Int)×(DR×DL)) (fun p2=>(callV Pg q1D [⟨tER,(p2.2.1.1,p2.2.1.2)⟩] (.tup (.pair tNum (.pair tI .unit))) (fun p3=>(brV (notB (decide (p3.2.1=(0:Int)))) (Q (none,(((0:Int),(0:Int)),(p3.2.1,())))) (Q (p2.2.2,(p3.1,((0:Int),())))))))) (fun k2=>(brV (decide ((0:Int)<(szSl c))) (callV Pg q0D [⟨tMo,a⟩] (.sl (.sl tER)) (fun p3=>(callV Pg q2t [⟨tMo,a⟩,⟨tL,c⟩] (.sl (.sl tER)) (fun p4=>(callV Pg q0Q [⟨(.sl tNum),b⟩] (.sl tER) (fun p5=>(loopV ((Option (List (Option (List DR))))×((Option (List (Option (List DR))))×((Option (List DR))×(Int×(Int×((Int×Int)×(DR×DL))))))) (fun k6=>(fun p7=>(brV (decide (p7.2.2.2.2.1<p7.2.2.2.1)) (loopV ((Option (List (Option (List DR))))×((Option (List (Option (List DR))))×((Option (List DR))×(Int×(Int×(Int×(Int×((Option (List DR))×(Int×(Int×((Int×Int)×(DR×(DR×DL))))))))))))) (fun k8=>(fun p9=>(brV (decide (p9.2.2.2.2.2.2.2.2.2.1<p9.2.2.2.2.2.2.2.2.1)) ((inS p9.2.2.2.2.2.2.2.1 p9.2.2.2.2.2.2.2.2.2.1)/\((inS p9.2.1 p9.2.2.2.1)/\((inS (eltS none p9.2.1 p9.2.2.2.1) p9.2.2.2.2.2.2.2.2.2.1)/\(callV Pg q0E [⟨tER,((eltS (((0:Int),none),((0:Int),none)) p9.2.2.2.2.2.2.2.1 p9.2.2.2.2.2.2.2.2.2.1).1,(eltS (((0:Int),none),((0:Int),none)) p9.2.2.2.2.2.2.2.1 p9.2.2.2.2.2.2.2.2.2.1).2)⟩,⟨tER,((eltS (((0:Int),none),((0:Int),none)) (eltS none p9.2.1 p9.2.2.2.1) p9.2.2.2.2.2.2.2.2.2.1).1,(eltS (((0:Int),none),((0:Int),none)) (eltS none p9.2.1 p9.2.2.2.1) p9.2.2.2.2.2.2.2.2.2.1).2)⟩] tER (fun p10=>(callV Pg q1e [⟨tER,(p10.1,p10.2)⟩,⟨tER,(p9.2.2.2.2.2.2.2.2.2.2.2.2.1.1,p9.2.2.2.2.2.2.2.2.2.2.2.2.1.2)⟩] tI (fun p11=>(joinV ((Option (List (Option (List DR))))×((Option (List (Option (List DR))))×((Option (List DR))×(Int×(Int×(Int×(Int×((Option (List DR))×(Int×(Int×((Int×Int)×(DR×(DR×DL))))))))))))) (fun p12=>(k8 (p12.1,(p12.2.1,(p12.2.2.1,(p12.2.2.2.1,(p12.2.2.2.2.1,(p12.2.2.2.2.2.1,(p12.2.2.2.2.2.2.1,(p12.2.2.2.2.2.2.2.1,(p12.2.2.2.2.2.2.2.2.1,((IntKind.wrap IntKind.i64 (p12.2.2.2.2.2.2.2.2.2.1+(1:Int))),(p12.2.2.2.2.2.2.2.2.2.2.1,((p12.2.2.2.2.2.2.2.2.2.2.2.1.1,p12.2.2.2.2.2.2.2.2.2.2.2.1.2),((p12.2.2.2.2.2.2.2.2.2.2.2.2.1.1,p12.2.2.2.2.2.2.2.2.2.2.2.2.1.2),p12.2.2.2.2.2.2.2.2.2.2.2.2.2))))))))))))))) (fun k12=>(brV (decide ((0:Int)<p11)) (k12 (p9.1,(p9.2.1,(p9.2.2.1,(p9.2.2.2.1,(p9.2.2.2.2.2.2.2.2.2.1,(p9.2.2.2.2.2.1,(p9.2.2.2.2.2.2.1,(p9.2.2.2.2.2.2.2.1,(p9.2.2.2.2.2.2.2.2.1,(p9.2.2.2.2.2.2.2.2.2.1,(p9.2.2.2.2.2.2.2.2.2.2.1,((p9.2.2.2.2.2.2.2.2.2.2.2.1.1,p9.2.2.2.2.2.2.2.2.2.2.2.1.2),((p10.1,p10.2),p9.2.2.2.2.2.2.2.2.2.2.2.2.2)))))))))))))) (k12 (p9.1,(p9.2.1,(p9.2.2.1,(p9.2.2.2.1,(p9.2.2.2.2.1,(p9.2.2.2.2.2.1,(p9.2.2.2.2.2.2.1,(p9.2.2.2.2.2.2.2.1,(p9.2.2.2.2.2.2.2.2.1,(p9.2.2.2.2.2.2.2.2.2.1,(p9.2.2.2.2.2.2.2.2.2.2.1,((p9.2.2.2.2.2.2.2.2.2.2.2.1.1,p9.2.2.2.2.2.2.2.2.2.2.2.1.2),((p9.2.2.2.2.2.2.2.2.2.2.2.2.1.1,p9.2.2.2.2.2.2.2.2.2.2.2.2.1.2),p9.2.2.2.2.2.2.2.2.2.2.2.2.2)))))))))))))))))))))))) (callV Pg q0m [⟨tER,(p9.2.2.2.2.2.2.2.2.2.2.2.2.1.1,p9.2.2.2.2.2.2.2.2.2.2.2.2.1.2)⟩] tI (fun p10=>(brV (decide (p10=(0:Int))) (Q (none,(((0:Int),(0:Int)),((5:Int),())))) ((inS p9.2.2.1 p9.2.2.2.2.1)/\(callV Pg q0E [⟨tER,(p9.2.2.2.2.2.2.2.2.2.2.2.1.1,p9.2.2.2.2.2.2.2.2.2.2.2.1.2)⟩,⟨tER,((eltS (((0:Int),none),((0:Int),none)) p9.2.2.1 p9.2.2.2.2.1).1,(eltS (((0:Int),none),((0:Int),none)) p9.2.2.1 p9.2.2.2.2.1).2)⟩] tER (fun p11=>((appC 8 p9.2.2.2.2.2.2.2.2.2.2.2.2.2 (lst (some [p9.2.2.2.2.1])))/\((inS p9.1 p9.2.2.2.2.1)/\(k6 (p9.1,(p9.2.1,((eltS none p9.1 p9.2.2.2.2.1),(p9.2.2.2.2.2.1,((IntKind.wrap IntKind.i64 (p9.2.2.2.2.2.2.1+(1:Int))),(p9.2.2.2.2.2.2.2.2.2.2.1,((p11.1,p11.2),(appL p9.2.2.2.2.2.2.2.2.2.2.2.2.2 (lst (some [p9.2.2.2.2.1])))))))))))))))))))))) (p7.1,(p7.2.1,(p7.2.2.1,(p7.2.2.2.2.1,((0:Int),(p7.2.2.2.1,(p7.2.2.2.2.1,(p7.2.2.1,((szSl p7.2.2.1),((0:Int),(p7.2.2.2.2.2.1,((p7.2.2.2.2.2.2.1.1,p7.2.2.2.2.2.2.1.2),((((0:Int),none),((0:Int),none)),p7.2.2.2.2.2.2.2)))))))))))))) (k2 (p7.2.2.2.2.2.1,((p7.2.2.2.2.2.2.1.1,p7.2.2.2.2.2.2.1.2),p7.2.2.2.2.2.2.2)))))) (p3,(p4,(p5,((szSl c),((0:Int),(((0:Int),(0:Int)),((p1.1,p1.2),none)))))))))))))) (k2 (((0:Int),(0:Int)),((p1.1,p1.2),none)))))))))))):
 callV Pg q3o [⟨tMo,a⟩,⟨(.sl tNum),b⟩,⟨tL,c⟩] (.tup (.pair tL (.pair tNum (.pair tI .unit)))) Q:=
 q02 (c:=q01 q8x) (ann:=qbM) qe9 rfl qgt rfl rfl hQ (kcast (by kernel_rfl) h)
end Go.Proofs.Pf
namespace Go.Proofs.Pf
open Go Go.VM
set_option maxRecDepth 100000
def qaG:Ann:=(.seq .nil (.seq .nil (.seq (.seq .nil (.blk none (.loop ⟨[(2,.ref 2 0),(3,.ref 3 0)],[.var 7 (.sl tNum),.var 8 tI,.var 9 tI,.box 2 (.agg (.pair (.agg (.pair tI (.pair (.bool) tL))) (.agg (.pair tI (.pair (.bool) tL))))),.box 3 (.agg (.pair (.agg (.pair tI (.pair (.bool) tL))) (.agg (.pair tI (.pair (.bool) tL)))))]⟩ .nil))) .nil)))
theorem qhI {Q:DRR->Prop} (a:(Option (List (Int×Int)))) (hQ:∃ r,Q r) (h:
 (callV Pg q0n [⟨tI,(0:Int)⟩] tRR (fun p0=>(loopV ((Option (List (Int×Int)))×(Int×(Int×(DRR×DRR)))) (fun k1=>(fun p2=>(brV (decide (p2.2.2.1<p2.2.1)) ((inS p2.1 p2.2.2.1)/\(callV Pg q0g [⟨tNum,(eltS ((0:Int),(0:Int)) p2.1 p2.2.2.1)⟩] tRR (fun p3=>(callV Pg q2k [⟨tRR,((p2.2.2.2.2.1.1,p2.2.2.2.2.1.2),(p2.2.2.2.2.2.1,p2.2.2.2.2.2.2))⟩,⟨tRR,((p3.1.1,p3.1.2),(p3.2.1,p3.2.2))⟩] tRR (fun p4=>(k1 (p2.1,(p2.2.1,((IntKind.wrap IntKind.i64 (p2.2.2.1+(1:Int))),(((p2.2.2.2.1.1.1,p2.2.2.2.1.1.2),(p2.2.2.2.1.2.1,p2.2.2.2.1.2.2)),((p4.1.1,p4.1.2),(p4.2.1,p4.2.2)))))))))))) (Q ((p2.2.2.2.2.1.1,p2.2.2.2.2.1.2),(p2.2.2.2.2.2.1,p2.2.2.2.2.2.2)))))) (a,((szSl a),((0:Int),((((0:Int),(false,none)),((0:Int),(false,none))),((p0.1.1,p0.1.2),(p0.2.1,p0.2.2)))))))))):
 callV Pg q1l [⟨(.sl tNum),a⟩] tRR Q:=
 q02 (c:=q01 q7r) (ann:=qaG) qd5 rfl qfp rfl rfl hQ (kcast (by kernel_rfl) h)
def qaF:Ann:=(.seq .nil (.seq (.seq (.reg [] [] (some ⟨[(4,.ref 4 0),(8,.ref 8 0)],[.var 1 (.sl tNum),.var 2 tL,.var 3 tL,.var 25 (.bool),.box 4 tMo,.box 8 (.agg (.pair (.agg (.pair tI (.pair (.bool) tL))) (.agg (.pair tI (.pair (.bool) tL)))))]⟩)) .nil) (.seq .nil (.seq (.seq .nil (.blk none (.loop ⟨[(4,.ref 4 0),(8,.ref 8 0),(10,.ref 10 0)],[.var 1 (.sl tNum),.var 2 tL,.var 3 tL,.var 28 tL,.var 29 tI,.var 30 tI,.box 4 tMo,.box 8 (.agg (.pair (.agg (.pair tI (.pair (.bool) tL))) (.agg (.pair tI (.pair (.bool) tL))))),.box 10 (.agg (.pair (.agg (.pair tI (.pair (.bool) tL))) (.agg (.pair tI (.pair (.bool) tL)))))]⟩ (.seq .nil (.seq .nil (.seq (.blk (some ⟨[(4,.ref 4 0),(8,.ref 8 0),(10,.ref 10 0)],[.var 1 (.sl tNum),.var 2 tL,.var 3 tL,.var 28 tL,.var 29 tI,.var 30 tI,.box 4 tMo,.box 8 (.agg (.pair (.agg (.pair tI (.pair (.bool) tL))) (.agg (.pair tI (.pair (.bool) tL))))),.box 10 (.agg (.pair (.agg (.pair tI (.pair (.bool) tL))) (.agg (.pair tI (.pair (.bool) tL)))))]⟩) (.seq .nil (.seq (.seq (.reg [] [] (some ⟨[(4,.ref 4 0),(8,.ref 8 0),(10,.ref 10 0)],[.var 1 (.sl tNum),.var 2 tL,.var 3 tL,.var 11 tI,.var 12 tI,.var 28 tL,.var 29 tI,.var 30 tI,.var 56 (.bool),.box 4 tMo,.box 8 (.agg (.pair (.agg (.pair tI (.pair (.bool) tL))) (.agg (.pair tI (.pair (.bool) tL))))),.box 10 (.agg (.pair (.agg (.pair tI (.pair (.bool) tL))) (.agg (.pair tI (.pair (.bool) tL)))))]⟩)) .nil) (.seq .nil (.seq .nil (.seq (.seq .nil (.blk none (.loop ⟨[(4,.ref 4 0),(8,.ref 8 0),(10,.ref 10 0),(13,.ref 13 0)],[.var 1 (.sl tNum),.var 2 tL,.var 3 tL,.var 12 tI,.var 28 tL,.var 29 tI,.var 30 tI,.var 78 (.sl tBr),.var 79 tI,.var 80 tI,.box 4 tMo,.box 8 (.agg (.pair (.agg (.pair tI (.pair (.bool) tL))) (.agg (.pair tI (.pair (.bool) tL))))),.box 10 (.agg (.pair (.agg (.pair tI (.pair (.bool) tL))) (.agg (.pair tI (.pair (.bool) tL))))),.box 13 (.agg (.pair (.agg (.pair tI (.pair (.bool) tL))) (.agg (.pair tI (.pair (.bool) tL)))))]⟩ (.seq .nil (.seq .nil (.seq (.blk none (.seq .nil (.seq .nil (.cond (some ⟨[(4,.ref 4 0),(8,.ref 8 0),(10,.ref 10 0),(13,.ref 13 0)],[.var 1 (.sl tNum),.var 2 tL,.var 3 tL,.var 12 tI,.var 28 tL,.var 29 tI,.var 30 tI,.var 78 (.sl tBr),.var 79 tI,.var 80 tI,.box 4 tMo,.box 8 (.agg (.pair (.agg (.pair tI (.pair (.bool) tL))) (.agg (.pair tI (.pair (.bool) tL))))),.box 10 (.agg (.pair (.agg (.pair tI (.pair (.bool) tL))) (.agg (.pair tI (.pair (.bool) tL))))),.box 13 (.agg (.pair (.agg (.pair tI (.pair (.bool) tL))) (.agg (.pair tI (.pair (.bool) tL)))))]⟩) .nil .nil)))) .nil)))))) .nil)))))) .nil)))))) .nil))))
theorem qhH {Q:(DRR×(Bool×Unit))->Prop} (a:DMo) (b:(Option (List (Int×Int)))) (c:DL) (d:DL) (hQ:∃ r,Q r) (h:
 (joinV ((Option (List (Int×Int)))×(DL×(DL×(Bool×(DMo×DRR))))) (fun p0=>(brV p0.2.2.2.1 (callV Pg q0n [⟨tI,(0:Int)⟩] tRR (fun p1=>(Q (((p1.1.1,p1.1.2),(p1.2.1,p1.2.2)),(false,()))))) (callV Pg q0n [⟨tI,(1:Int)⟩] tRR (fun p1=>(loopV ((Option (List (Int×Int)))×(DL×(DL×(DL×(Int×(Int×(DMo×(DRR×DRR)))))))) (fun k2=>(fun p3=>(brV (decide (p3.2.2.2.2.2.1<p3.2.2.2.2.1)) (joinV ((Option (List (Int×Int)))×(DL×(DL×(DL×(Int×(Int×(DMo×(DRR×DRR)))))))) (fun p4=>(k2 (p4.1,(p4.2.1,(p4.2.2.1,(p4.2.2.2.1,(p4.2.2.2.2.1,((IntKind.wrap IntKind.i64 (p4.2.2.2.2.2.1+(1:Int))),(p4.2.2.2.2.2.2.1,(((p4.2.2.2.2.2.2.2.1.1.1,p4.2.2.2.2.2.2.2.1.1.2),(p4.2.2.2.2.2.2.2.1.2.1,p4.2.2.2.2.2.2.2.1.2.2)),((p4.2.2.2.2.2.2.2.2.1.1,p4.2.2.2.2.2.2.2.2.1.2),(p4.2.2.2.2.2.2.2.2.2.1,p4.2.2.2.2.2.2.2.2.2.2)))))))))))) (fun k4=>((inS p3.2.2.2.1 p3.2.2.2.2.2.1)/\(joinV ((Option (List (Int×Int)))×(DL×(DL×(Int×(Int×(DL×(Int×(Int×(Bool×(DMo×(DRR×DRR))))))))))) (fun p5=>(brV p5.2.2.2.2.2.2.2.2.1 (callV Pg q0n [⟨tI,(0:Int)⟩] tRR (fun p6=>(Q (((p6.1.1,p6.1.2),(p6.2.1,p6.2.2)),(false,()))))) (brV (decide (p5.2.2.2.1=(0:Int))) ((inS p5.1 p5.2.2.2.2.1)/\(callV Pg q0g [⟨tNum,(eltS ((0:Int),(0:Int)) p5.1 p5.2.2.2.2.1)⟩] tRR (fun p6=>(k4 (p5.1,(p5.2.1,(p5.2.2.1,(p5.2.2.2.2.2.1,(p5.2.2.2.2.2.2.1,(p5.2.2.2.2.2.2.2.1,(p5.2.2.2.2.2.2.2.2.2.1,(((p5.2.2.2.2.2.2.2.2.2.2.1.1.1,p5.2.2.2.2.2.2.2.2.2.2.1.1.2),(p5.2.2.2.2.2.2.2.2.2.2.1.2.1,p5.2.2.2.2.2.2.2.2.2.2.1.2.2)),((p6.1.1,p6.1.2),(p6.2.1,p6.2.2)))))))))))))) (callV Pg q0n [⟨tI,(0:Int)⟩] tRR (fun p6=>((inS p5.2.2.1 (IntKind.wrap IntKind.i64 (p5.2.2.2.1 - (1:Int))))/\((inS p5.2.2.2.2.2.2.2.2.2.1 (eltS (0:Int) p5.2.2.1 (IntKind.wrap IntKind.i64 (p5.2.2.2.1 - (1:Int)))))/\((inS (eltS ((0:Int),((0:Int),none)) p5.2.2.2.2.2.2.2.2.2.1 (eltS (0:Int) p5.2.2.1 (IntKind.wrap IntKind.i64 (p5.2.2.2.1 - (1:Int))))).2.2 (0:Int))/\(loopV ((Option (List (Int×Int)))×(DL×(DL×(Int×(DL×(Int×(Int×((Option (List DBr))×(Int×(Int×(DMo×(DRR×(DRR×DRR))))))))))))) (fun k7=>(fun p8=>(brV (decide (p8.2.2.2.2.2.2.2.2.2.1<p8.2.2.2.2.2.2.2.2.1)) ((inS p8.2.2.2.2.2.2.2.1 p8.2.2.2.2.2.2.2.2.2.1)/\(joinV ((Option (List (Int×Int)))×(DL×(DL×(Int×(DL×(Int×(Int×((Option (List DBr))×(Int×(Int×(DMo×(DRR×(DRR×DRR))))))))))))) (fun p9=>(k7 (p9.1,(p9.2.1,(p9.2.2.1,(p9.2.2.2.1,(p9.2.2.2.2.1,(p9.2.2.2.2.2.1,(p9.2.2.2.2.2.2.1,(p9.2.2.2.2.2.2.2.1,(p9.2.2.2.2.2.2.2.2.1,((IntKind.wrap IntKind.i64 (p9.2.2.2.2.2.2.2.2.2.1+(1:Int))),(p9.2.2.2.2.2.2.2.2.2.2.1,(((p9.2.2.2.2.2.2.2.2.2.2.2.1.1.1,p9.2.2.2.2.2.2.2.2.2.2.2.1.1.2),(p9.2.2.2.2.2.2.2.2.2.2.2.1.2.1,p9.2.2.2.2.2.2.2.2.2.2.2.1.2.2)),(((p9.2.2.2.2.2.2.2.2.2.2.2.2.1.1.1,p9.2.2.2.2.2.2.2.2.2.2.2.2.1.1.2),(p9.2.2.2.2.2.2.2.2.2.2.2.2.1.2.1,p9.2.2.2.2.2.2.2.2.2.2.2.2.1.2.2)),((p9.2.2.2.2.2.2.2.2.2.2.2.2.2.1.1,p9.2.2.2.2.2.2.2.2.2.2.2.2.2.1.2),(p9.2.2.2.2.2.2.2.2.2.2.2.2.2.2.1,p9.2.2.2.2.2.2.2.2.2.2.2.2.2.2.2))))))))))))))))) (fun k9=>(brV (decide ((eltS ((0:Int),((0:Int),(0:Int))) p8.2.2.2.2.2.2.2.1 p8.2.2.2.2.2.2.2.2.2.1).1=p8.2.2.2.1)) (callV Pg q0g [⟨tNum,(eltS ((0:Int),((0:Int),(0:Int))) p8.2.2.2.2.2.2.2.1 p8.2.2.2.2.2.2.2.2.2.1).2⟩] tRR (fun p10=>(k9 (p8.1,(p8.2.1,(p8.2.2.1,(p8.2.2.2.1,(p8.2.2.2.2.1,(p8.2.2.2.2.2.1,(p8.2.2.2.2.2.2.1,(p8.2.2.2.2.2.2.2.1,(p8.2.2.2.2.2.2.2.2.1,(p8.2.2.2.2.2.2.2.2.2.1,(p8.2.2.2.2.2.2.2.2.2.2.1,(((p8.2.2.2.2.2.2.2.2.2.2.2.1.1.1,p8.2.2.2.2.2.2.2.2.2.2.2.1.1.2),(p8.2.2.2.2.2.2.2.2.2.2.2.1.2.1,p8.2.2.2.2.2.2.2.2.2.2.2.1.2.2)),(((p8.2.2.2.2.2.2.2.2.2.2.2.2.1.1.1,p8.2.2.2.2.2.2.2.2.2.2.2.2.1.1.2),(p8.2.2.2.2.2.2.2.2.2.2.2.2.1.2.1,p8.2.2.2.2.2.2.2.2.2.2.2.2.1.2.2)),((p10.1.1,p10.1.2),(p10.2.1,p10.2.2)))))))))))))))))) (k9 (p8.1,(p8.2.1,(p8.2.2.1,(p8.2.2.2.1,(p8.2.2.2.2.1,(p8.2.2.2.2.2.1,(p8.2.2.2.2.2.2.1,(p8.2.2.2.2.2.2.2.1,(p8.2.2.2.2.2.2.2.2.1,(p8.2.2.2.2.2.2.2.2.2.1,(p8.2.2.2.2.2.2.2.2.2.2.1,(((p8.2.2.2.2.2.2.2.2.2.2.2.1.1.1,p8.2.2.2.2.2.2.2.2.2.2.2.1.1.2),(p8.2.2.2.2.2.2.2.2.2.2.2.1.2.1,p8.2.2.2.2.2.2.2.2.2.2.2.1.2.2)),(((p8.2.2.2.2.2.2.2.2.2.2.2.2.1.1.1,p8.2.2.2.2.2.2.2.2.2.2.2.2.1.1.2),(p8.2.2.2.2.2.2.2.2.2.2.2.2.1.2.1,p8.2.2.2.2.2.2.2.2.2.2.2.2.1.2.2)),((p8.2.2.2.2.2.2.2.2.2.2.2.2.2.1.1,p8.2.2.2.2.2.2.2.2.2.2.2.2.2.1.2),(p8.2.2.2.2.2.2.2.2.2.2.2.2.2.2.1,p8.2.2.2.2.2.2.2.2.2.2.2.2.2.2.2)))))))))))))))))))) (callV Pg q2m [⟨tRR,((p8.2.2.2.2.2.2.2.2.2.2.2.2.1.1.1,p8.2.2.2.2.2.2.2.2.2.2.2.2.1.1.2),(p8.2.2.2.2.2.2.2.2.2.2.2.2.1.2.1,p8.2.2.2.2.2.2.2.2.2.2.2.2.1.2.2))⟩,⟨tRR,((p8.2.2.2.2.2.2.2.2.2.2.2.2.2.1.1,p8.2.2.2.2.2.2.2.2.2.2.2.2.2.1.2),(p8.2.2.2.2.2.2.2.2.2.2.2.2.2.2.1,p8.2.2.2.2.2.2.2.2.2.2.2.2.2.2.2))⟩] tRR (fun p9=>(k4 (p8.1,(p8.2.1,(p8.2.2.1,(p8.2.2.2.2.1,(p8.2.2.2.2.2.1,(p8.2.2.2.2.2.2.1,(p8.2.2.2.2.2.2.2.2.2.2.1,(((p8.2.2.2.2.2.2.2.2.2.2.2.1.1.1,p8.2.2.2.2.2.2.2.2.2.2.2.1.1.2),(p8.2.2.2.2.2.2.2.2.2.2.2.1.2.1,p8.2.2.2.2.2.2.2.2.2.2.2.1.2.2)),((p9.1.1,p9.1.2),(p9.2.1,p9.2.2)))))))))))))))) (p5.1,(p5.2.1,(p5.2.2.1,(p5.2.2.2.2.1,(p5.2.2.2.2.2.1,(p5.2.2.2.2.2.2.1,(p5.2.2.2.2.2.2.2.1,((eltS (((0:Int),(0:Int)),none) (eltS ((0:Int),((0:Int),none)) p5.2.2.2.2.2.2.2.2.2.1 (eltS (0:Int) p5.2.2.1 (IntKind.wrap IntKind.i64 (p5.2.2.2.1 - (1:Int))))).2.2 (0:Int)).2,((szSl (eltS (((0:Int),(0:Int)),none) (eltS ((0:Int),((0:Int),none)) p5.2.2.2.2.2.2.2.2.2.1 (eltS (0:Int) p5.2.2.1 (IntKind.wrap IntKind.i64 (p5.2.2.2.1 - (1:Int))))).2.2 (0:Int)).2),((0:Int),(p5.2.2.2.2.2.2.2.2.2.1,(((p5.2.2.2.2.2.2.2.2.2.2.1.1.1,p5.2.2.2.2.2.2.2.2.2.2.1.1.2),(p5.2.2.2.2.2.2.2.2.2.2.1.2.1,p5.2.2.2.2.2.2.2.2.2.2.1.2.2)),(((p5.2.2.2.2.2.2.2.2.2.2.2.1.1,p5.2.2.2.2.2.2.2.2.2.2.2.1.2),(p5.2.2.2.2.2.2.2.2.2.2.2.2.1,p5.2.2.2.2.2.2.2.2.2.2.2.2.2)),((p6.1.1,p6.1.2),(p6.2.1,p6.2.2)))))))))))))))))))))))) (fun k5=>(brV (decide ((eltS (0:Int) p3.2.2.2.1 p3.2.2.2.2.2.1)<(0:Int))) (k5 (p3.1,(p3.2.1,(p3.2.2.1,(p3.2.2.2.2.2.1,((eltS (0:Int) p3.2.2.2.1 p3.2.2.2.2.2.1),(p3.2.2.2.1,(p3.2.2.2.2.1,(p3.2.2.2.2.2.1,(true,(p3.2.2.2.2.2.2.1,(((p3.2.2.2.2.2.2.2.1.1.1,p3.2.2.2.2.2.2.2.1.1.2),(p3.2.2.2.2.2.2.2.1.2.1,p3.2.2.2.2.2.2.2.1.2.2)),((p3.2.2.2.2.2.2.2.2.1.1,p3.2.2.2.2.2.2.2.2.1.2),(p3.2.2.2.2.2.2.2.2.2.1,p3.2.2.2.2.2.2.2.2.2.2)))))))))))))) (brV (decide ((szSl p3.2.2.2.2.2.2.1)<=(eltS (0:Int) p3.2.2.2.1 p3.2.2.2.2.2.1))) (k5 (p3.1,(p3.2.1,(p3.2.2.1,(p3.2.2.2.2.2.1,((eltS (0:Int) p3.2.2.2.1 p3.2.2.2.2.2.1),(p3.2.2.2.1,(p3.2.2.2.2.1,(p3.2.2.2.2.2.1,(true,(p3.2.2.2.2.2.2.1,(((p3.2.2.2.2.2.2.2.1.1.1,p3.2.2.2.2.2.2.2.1.1.2),(p3.2.2.2.2.2.2.2.1.2.1,p3.2.2.2.2.2.2.2.1.2.2)),((p3.2.2.2.2.2.2.2.2.1.1,p3.2.2.2.2.2.2.2.2.1.2),(p3.2.2.2.2.2.2.2.2.2.1,p3.2.2.2.2.2.2.2.2.2.2)))))))))))))) ((inS p3.2.2.2.2.2.2.1 (eltS (0:Int) p3.2.2.2.1 p3.2.2.2.2.2.1))/\((inS p3.2.1 p3.2.2.2.2.2.1)/\(k5 (p3.1,(p3.2.1,(p3.2.2.1,(p3.2.2.2.2.2.1,((eltS (0:Int) p3.2.2.2.1 p3.2.2.2.2.2.1),(p3.2.2.2.1,(p3.2.2.2.2.1,(p3.2.2.2.2.2.1,((notB (decide ((eltS ((0:Int),((0:Int),none)) p3.2.2.2.2.2.2.1 (eltS (0:Int) p3.2.2.2.1 p3.2.2.2.2.2.1)).2.1=(eltS (0:Int) p3.2.1 p3.2.2.2.2.2.1)))),(p3.2.2.2.2.2.2.1,(((p3.2.2.2.2.2.2.2.1.1.1,p3.2.2.2.2.2.2.2.1.1.2),(p3.2.2.2.2.2.2.2.1.2.1,p3.2.2.2.2.2.2.2.1.2.2)),((p3.2.2.2.2.2.2.2.2.1.1,p3.2.2.2.2.2.2.2.2.1.2),(p3.2.2.2.2.2.2.2.2.2.1,p3.2.2.2.2.2.2.2.2.2.2))))))))))))))))))))))) (callV Pg q2l [⟨tRR,((p3.2.2.2.2.2.2.2.2.1.1,p3.2.2.2.2.2.2.2.2.1.2),(p3.2.2.2.2.2.2.2.2.2.1,p3.2.2.2.2.2.2.2.2.2.2))⟩] tI (fun p4=>(Q (((p3.2.2.2.2.2.2.2.2.1.1,p3.2.2.2.2.2.2.2.2.1.2),(p3.2.2.2.2.2.2.2.2.2.1,p3.2.2.2.2.2.2.2.2.2.2)),((decide ((0:Int)<p4)),())))))))) (p0.1,(p0.2.1,(p0.2.2.1,(p0.2.2.1,((szSl p0.2.2.1),((0:Int),(p0.2.2.2.2.1,(((p0.2.2.2.2.2.1.1,p0.2.2.2.2.2.1.2),(p0.2.2.2.2.2.2.1,p0.2.2.2.2.2.2.2)),((p1.1.1,p1.1.2),(p1.2.1,p1.2.2))))))))))))))) (fun k0=>(brV (notB (decide ((szSl d)=(szSl c)))) (k0 (b,(c,(d,(true,(a,(((0:Int),(false,none)),((0:Int),(false,none))))))))) (k0 (b,(c,(d,((decide ((szSl d)=(0:Int))),(a,(((0:Int),(false,none)),((0:Int),(false,none))))))))))))):
 callV Pg q2d [⟨tMo,a⟩,⟨(.sl tNum),b⟩,⟨tL,c⟩,⟨tL,d⟩] (.tup (.pair tRR (.pair .bool .unit))) Q:=
 q02 (c:=q01 q7q) (ann:=qaF) qd4 rfl qfo rfl rfl hQ (kcast (by kernel_rfl) h)
def qaB:Ann:=(.seq .nil (.seq (.seq (.reg [] [] (some ⟨[(5,.ref 5 0)],[.var 1 (.sl tNum),.var 2 tL,.var 3 tI,.var 4 tL,.var 38 (.bool),.box 5 tMo]⟩)) .nil) (.seq .nil (.seq .nil (.seq .nil (.seq .nil (.seq (.seq (.reg [] [] (some ⟨[(5,.ref 5 0),(11,.ref 11 0)],[.var 1 (.sl tNum),.var 2 tL,.var 3 tI,.var 4 tL,.var 13 (.sl tNum),.var 14 tI,.var 15 (.sl tNum),.var 16 tI,.var 88 (.bool),.box 5 tMo,.box 11 tNum]⟩)) .nil) (.seq .nil (.seq (.seq (.reg [] [] (some ⟨[(5,.ref 5 0),(11,.ref 11 0)],[.var 1 (.sl tNum),.var 2 tL,.var 3 tI,.var 4 tL,.var 13 (.sl tNum),.var 14 tI,.var 15 (.sl tNum),.var 104 (.bool),.box 5 tMo,.box 11 tNum]⟩)) (.cond (some ⟨[(5,.ref 5 0),(11,.ref 11 0)],[.var 1 (.sl tNum),.var 2 tL,.var 4 tL,.var 13 (.sl tNum),.var 14 tI,.box 5 tMo,.box 11 tNum]⟩) (.seq .nil (.seq (.reg [] [] (some ⟨[(5,.ref 5 0),(11,.ref 11 0)],[.var 1 (.sl tNum),.var 2 tL,.var 4 tL,.var 13 (.sl tNum),.var 14 tI,.var 132 (.bool),.box 5 tMo,.box 11 tNum]⟩)) .nil)) .nil)) (.seq (.seq .nil (.seq (.reg [] [] (some ⟨[(5,.ref 5 0),(11,.ref 11 0)],[.var 1 (.sl tNum),.var 2 tL,.var 4 tL,.var 13 (.sl tNum),.var 19 tI,.var 140 (.bool),.box 5 tMo,.box 11 tNum]⟩)) (.cond (some ⟨[(5,.ref 5 0),(11,.ref 11 0)],[.var 1 (.sl tNum),.var 2 tL,.var 4 tL,.box 5 tMo,.box 11 tNum]⟩) (.seq .nil (.seq (.reg [] [] (some ⟨[(5,.ref 5 0),(11,.ref 11 0)],[.var 1 (.sl tNum),.var 2 tL,.var 4 tL,.var 157 (.bool),.box 5 tMo,.box 11 tNum]⟩)) .nil)) .nil))) (.seq .nil (.seq .nil (.seq .nil (.seq .nil (.seq (.seq (.reg [] [] (some ⟨[(23,.ref 23 0),(27,.ref 27 0)],[.var 2 tL,.var 28 (.bool),.var 206 (.bool),.box 23 tNum,.box 27 (.agg (.pair (.agg (.pair tI (.pair (.bool) tL))) (.agg (.pair tI (.pair (.bool) tL)))))]⟩)) .nil) (.seq (.reg [] [] (some ⟨[],[.var 10 (.bool)]⟩)) .nil))))))))))))))))
theorem qhD {Q:Bool->Prop} (a:DMo) (b:(Option (List (Int×Int)))) (c:DL) (d:Int) (e:DL) (hQ:∃ r,Q r) (h:
 (joinV ((Option (List (Int×Int)))×(DL×(Int×(DL×(Bool×DMo))))) (fun p0=>(brV p0.2.2.2.2.1 (callV Pg q0F [] .bool (fun p1=>(Q p1))) (callV Pg q1J [⟨tMo,p0.2.2.2.2.2⟩,⟨(.sl tNum),p0.1⟩,⟨tL,p0.2.1⟩] (.tup (.pair tNum (.pair tI .unit))) (fun p1=>(brV (notB (decide (p1.2.1=(0:Int)))) (callV Pg q0F [] .bool (fun p2=>(Q p2))) (callV Pg q2s [⟨tMo,p0.2.2.2.2.2⟩,⟨(.sl tNum),p0.1⟩,⟨tL,p0.2.1⟩] (.tup (.pair (.sl tNum) (.pair tI .unit))) (fun p2=>(callV Pg q3p [⟨tMo,p0.2.2.2.2.2⟩,⟨(.sl tNum),p0.1⟩,⟨tL,p0.2.1⟩] (.tup (.pair (.sl tNum) (.pair tI .unit))) (fun p3=>(joinV ((Option (List (Int×Int)))×(DL×(Int×(DL×((Option (List (Int×Int)))×(Int×((Option (List (Int×Int)))×(Int×(Bool×(DMo×(Int×Int))))))))))) (fun p4=>(brV p4.2.2.2.2.2.2.2.2.1 (Q false) (brV (notB (eqB (decide (p4.2.2.2.2.2.1=(5:Int))) (decide (p4.2.2.2.2.2.2.2.2.2.2.1=(0:Int))))) (Q false) (joinV ((Option (List (Int×Int)))×(DL×(Int×(DL×((Option (List (Int×Int)))×(Int×((Option (List (Int×Int)))×(Bool×(DMo×(Int×Int)))))))))) (fun p5=>(joinV ((Option (List (Int×Int)))×(DL×(DL×((Option (List (Int×Int)))×(Int×(DMo×(Int×Int))))))) (fun p6=>(joinV ((Option (List (Int×Int)))×(DL×(DL×((Option (List (Int×Int)))×(Int×(Bool×(DMo×(Int×Int)))))))) (fun p7=>(joinV ((Option (List (Int×Int)))×(DL×(DL×(DMo×(Int×Int))))) (fun p8=>(callV Pg q3o [⟨tMo,p8.2.2.2.1⟩,⟨(.sl tNum),p8.1⟩,⟨tL,p8.2.1⟩] (.tup (.pair tL (.pair tNum (.pair tI .unit)))) (fun p9=>(brV (notB (decide (p9.2.2.1=(0:Int)))) (callV Pg q0F [] .bool (fun p10=>(Q p10))) (callV Pg q2d [⟨tMo,p8.2.2.2.1⟩,⟨(.sl tNum),p8.1⟩,⟨tL,p8.2.1⟩,⟨tL,p9.1⟩] (.tup (.pair tRR (.pair .bool .unit))) (fun p10=>(callV Pg q2d [⟨tMo,p8.2.2.2.1⟩,⟨(.sl tNum),p8.1⟩,⟨tL,p8.2.1⟩,⟨tL,p8.2.2.1⟩] (.tup (.pair tRR (.pair .bool .unit))) (fun p11=>(joinV (DL×(Bool×(Bool×((Int×Int)×DRR)))) (fun p12=>(brV p12.2.2.1 (Q false) (joinV Bool (fun p13=>(Q p13)) (fun k13=>(brV (notB p12.2.1) (callV Pg q0F [] .bool (fun p14=>(k13 p14))) (brV (decide ((szSl p12.1)=(0:Int))) (callV Pg q0F [] .bool (fun p14=>(k13 p14))) (callV Pg q0g [⟨tNum,p12.2.2.2.1⟩] tRR (fun p14=>(callV Pg q0r [⟨tRR,((p12.2.2.2.2.1.1,p12.2.2.2.2.1.2),(p12.2.2.2.2.2.1,p12.2.2.2.2.2.2))⟩,⟨tRR,((p14.1.1,p14.1.2),(p14.2.1,p14.2.2))⟩] tI (fun p15=>(brV (decide (p15<=(0:Int))) (callV Pg q0F [] .bool (fun p16=>(k13 p16))) (k13 false)))))))))))) (fun k12=>(brV (decide ((0:Int)<(szSl p8.2.1))) (brV (notB p10.2.1) (k12 (p8.2.1,(p11.2.1,(true,(p9.2.1,((p11.1.1.1,p11.1.1.2),(p11.1.2.1,p11.1.2.2))))))) (callV Pg q0g [⟨tNum,p9.2.1⟩] tRR (fun p13=>(callV Pg q0r [⟨tRR,((p10.1.1.1,p10.1.1.2),(p10.1.2.1,p10.1.2.2))⟩,⟨tRR,((p13.1.1,p13.1.2),(p13.2.1,p13.2.2))⟩] tI (fun p14=>(brV (notB (decide (p14=(0:Int)))) (k12 (p8.2.1,(p11.2.1,(true,(p9.2.1,((p11.1.1.1,p11.1.1.2),(p11.1.2.1,p11.1.2.2))))))) (callV Pg q0g [⟨tNum,p9.2.1⟩] tRR (fun p15=>(callV Pg q0g [⟨tNum,p8.2.2.2.2⟩] tRR (fun p16=>(callV Pg q0r [⟨tRR,((p15.1.1,p15.1.2),(p15.2.1,p15.2.2))⟩,⟨tRR,((p16.1.1,p16.1.2),(p16.2.1,p16.2.2))⟩] tI (fun p17=>(k12 (p8.2.1,(p11.2.1,((decide ((0:Int)<p17)),(p9.2.1,((p11.1.1.1,p11.1.1.2),(p11.1.2.1,p11.1.2.2))))))))))))))))))) (callV Pg q0g [⟨tNum,p9.2.1⟩] tRR (fun p13=>(callV Pg q0g [⟨tNum,p8.2.2.2.2⟩] tRR (fun p14=>(callV Pg q0r [⟨tRR,((p13.1.1,p13.1.2),(p13.2.1,p13.2.2))⟩,⟨tRR,((p14.1.1,p14.1.2),(p14.2.1,p14.2.2))⟩] tI (fun p15=>(k12 (p8.2.1,(p11.2.1,((decide ((0:Int)<p15)),(p9.2.1,((p11.1.1.1,p11.1.1.2),(p11.1.2.1,p11.1.2.2)))))))))))))))))))))))) (fun k8=>(brV p7.2.2.2.2.2.1 (callV Pg q3q [⟨tMo,p7.2.2.2.2.2.2.1⟩,⟨(.sl tNum),p7.1⟩,⟨tL,p7.2.1⟩,⟨tI,(IntKind.wrap IntKind.i64 (p7.2.2.2.2.1 - (1:Int)))⟩] (.tup (.pair (.sl tNum) (.pair tI .unit))) (fun p9=>(joinV ((Option (List (Int×Int)))×(DL×(DL×(Bool×(DMo×(Int×Int)))))) (fun p10=>(brV p10.2.2.2.1 (Q false) (k8 (p10.1,(p10.2.1,(p10.2.2.1,(p10.2.2.2.2.1,p10.2.2.2.2.2))))))) (fun k10=>(brV (decide (p9.2.1=(0:Int))) (callV Pg q2n [⟨(.sl tNum),p9.1⟩,⟨(.sl tNum),p7.2.2.2.1⟩] .bool (fun p11=>(k10 (p7.1,(p7.2.1,(p7.2.2.1,((notB p11),(p7.2.2.2.2.2.2.1,p7.2.2.2.2.2.2.2)))))))) (k10 (p7.1,(p7.2.1,(p7.2.2.1,(false,(p7.2.2.2.2.2.2.1,p7.2.2.2.2.2.2.2))))))))))) (k8 (p7.1,(p7.2.1,(p7.2.2.1,(p7.2.2.2.2.2.2.1,p7.2.2.2.2.2.2.2))))))))) (fun k7=>(brV (decide ((0:Int)<(szSl p6.2.1))) (k7 (p6.1,(p6.2.1,(p6.2.2.1,(p6.2.2.2.1,((szSl p6.2.1),((decide (p6.2.2.2.2.1=(0:Int))),(p6.2.2.2.2.2.1,p6.2.2.2.2.2.2)))))))) (k7 (p6.1,(p6.2.1,(p6.2.2.1,(p6.2.2.2.1,((szSl p6.2.1),(false,(p6.2.2.2.2.2.1,p6.2.2.2.2.2.2)))))))))))) (fun k6=>(brV p5.2.2.2.2.2.2.2.1 ((appC 8 (some []) (lst p5.2.1))/\((appC 8 (appL (some []) (lst p5.2.1)) (lst (some [p5.2.2.1])))/\(callV Pg q1J [⟨tMo,p5.2.2.2.2.2.2.2.2.1⟩,⟨(.sl tNum),p5.1⟩,⟨tL,(appL (appL (some []) (lst p5.2.1)) (lst (some [p5.2.2.1])))⟩] (.tup (.pair tNum (.pair tI .unit))) (fun p7=>(joinV ((Option (List (Int×Int)))×(DL×(DL×((Option (List (Int×Int)))×(Int×(Bool×(DMo×(Int×Int)))))))) (fun p8=>(brV p8.2.2.2.2.2.1 (Q false) (k6 (p8.1,(p8.2.1,(p8.2.2.1,(p8.2.2.2.1,(p8.2.2.2.2.1,(p8.2.2.2.2.2.2.1,p8.2.2.2.2.2.2.2))))))))) (fun k8=>(brV (decide (p7.2.1=(0:Int))) (callV Pg q0g [⟨tNum,p5.2.2.2.2.2.2.2.2.2⟩] tRR (fun p9=>((inS p5.2.2.2.2.2.2.1 p5.2.2.1)/\(callV Pg q0g [⟨tNum,(eltS ((0:Int),(0:Int)) p5.2.2.2.2.2.2.1 p5.2.2.1)⟩] tRR (fun p10=>(callV Pg q2m [⟨tRR,((p9.1.1,p9.1.2),(p9.2.1,p9.2.2))⟩,⟨tRR,((p10.1.1,p10.1.2),(p10.2.1,p10.2.2))⟩] tRR (fun p11=>(callV Pg q0g [⟨tNum,p7.1⟩] tRR (fun p12=>(callV Pg q0r [⟨tRR,((p11.1.1,p11.1.2),(p11.2.1,p11.2.2))⟩,⟨tRR,((p12.1.1,p12.1.2),(p12.2.1,p12.2.2))⟩] tI (fun p13=>(k8 (p5.1,(p5.2.1,(p5.2.2.2.1,(p5.2.2.2.2.1,(p5.2.2.2.2.2.1,((notB (decide (p13=(0:Int)))),(p5.2.2.2.2.2.2.2.2.1,p5.2.2.2.2.2.2.2.2.2))))))))))))))))))) (k8 (p5.1,(p5.2.1,(p5.2.2.2.1,(p5.2.2.2.2.1,(p5.2.2.2.2.2.1,(false,(p5.2.2.2.2.2.2.2.2.1,p5.2.2.2.2.2.2.2.2.2))))))))))))))) (k6 (p5.1,(p5.2.1,(p5.2.2.2.1,(p5.2.2.2.2.1,(p5.2.2.2.2.2.1,(p5.2.2.2.2.2.2.2.2.1,p5.2.2.2.2.2.2.2.2.2))))))))))) (fun k5=>(brV (decide ((0:Int)<=p4.2.2.1)) (brV (decide (p4.2.2.1<(64:Int))) (k5 (p4.1,(p4.2.1,(p4.2.2.1,(p4.2.2.2.1,(p4.2.2.2.2.1,(p4.2.2.2.2.2.1,(p4.2.2.2.2.2.2.1,((decide (p4.2.2.2.2.2.2.2.1=(0:Int))),(p4.2.2.2.2.2.2.2.2.2.1,p4.2.2.2.2.2.2.2.2.2.2)))))))))) (k5 (p4.1,(p4.2.1,(p4.2.2.1,(p4.2.2.2.1,(p4.2.2.2.2.1,(p4.2.2.2.2.2.1,(p4.2.2.2.2.2.2.1,(false,(p4.2.2.2.2.2.2.2.2.2.1,p4.2.2.2.2.2.2.2.2.2.2))))))))))) (k5 (p4.1,(p4.2.1,(p4.2.2.1,(p4.2.2.2.1,(p4.2.2.2.2.1,(p4.2.2.2.2.2.1,(p4.2.2.2.2.2.2.1,(false,(p4.2.2.2.2.2.2.2.2.2.1,p4.2.2.2.2.2.2.2.2.2.2)))))))))))))))) (fun k4=>(brV (decide (p2.2.1=(0:Int))) (callV Pg q1l [⟨(.sl tNum),p2.1⟩] tRR (fun p5=>(callV Pg q0n [⟨tI,(1:Int)⟩] tRR (fun p6=>(callV Pg q0r [⟨tRR,((p5.1.1,p5.1.2),(p5.2.1,p5.2.2))⟩,⟨tRR,((p6.1.1,p6.1.2),(p6.2.1,p6.2.2))⟩] tI (fun p7=>(brV (notB (decide (p7=(0:Int)))) (k4 (p0.1,(p0.2.1,(p0.2.2.1,(p0.2.2.2.1,(p2.1,(p2.2.1,(p3.1,(p3.2.1,(true,(p0.2.2.2.2.2,p1.1))))))))))) (brV (decide (p3.2.1=(0:Int))) (brV (notB (decide ((szSl p3.1)=(64:Int)))) (k4 (p0.1,(p0.2.1,(p0.2.2.1,(p0.2.2.2.1,(p2.1,(p2.2.1,(p3.1,(p3.2.1,(true,(p0.2.2.2.2.2,p1.1))))))))))) (callV Pg q1l [⟨(.sl tNum),p3.1⟩] tRR (fun p8=>(callV Pg q0n [⟨tI,(1:Int)⟩] tRR (fun p9=>(callV Pg q0r [⟨tRR,((p8.1.1,p8.1.2),(p8.2.1,p8.2.2))⟩,⟨tRR,((p9.1.1,p9.1.2),(p9.2.1,p9.2.2))⟩] tI (fun p10=>(k4 (p0.1,(p0.2.1,(p0.2.2.1,(p0.2.2.2.1,(p2.1,(p2.2.1,(p3.1,(p3.2.1,((notB (decide (p10=(0:Int)))),(p0.2.2.2.2.2,p1.1)))))))))))))))))) (k4 (p0.1,(p0.2.1,(p0.2.2.1,(p0.2.2.2.1,(p2.1,(p2.2.1,(p3.1,(p3.2.1,(false,(p0.2.2.2.2.2,p1.1))))))))))))))))))) (brV (decide (p3.2.1=(0:Int))) (brV (notB (decide ((szSl p3.1)=(64:Int)))) (k4 (p0.1,(p0.2.1,(p0.2.2.1,(p0.2.2.2.1,(p2.1,(p2.2.1,(p3.1,(p3.2.1,(true,(p0.2.2.2.2.2,p1.1))))))))))) (callV Pg q1l [⟨(.sl tNum),p3.1⟩] tRR (fun p5=>(callV Pg q0n [⟨tI,(1:Int)⟩] tRR (fun p6=>(callV Pg q0r [⟨tRR,((p5.1.1,p5.1.2),(p5.2.1,p5.2.2))⟩,⟨tRR,((p6.1.1,p6.1.2),(p6.2.1,p6.2.2))⟩] tI (fun p7=>(k4 (p0.1,(p0.2.1,(p0.2.2.1,(p0.2.2.2.1,(p2.1,(p2.2.1,(p3.1,(p3.2.1,((notB (decide (p7=(0:Int)))),(p0.2.2.2.2.2,p1.1)))))))))))))))))) (k4 (p0.1,(p0.2.1,(p0.2.2.1,(p0.2.2.2.1,(p2.1,(p2.2.1,(p3.1,(p3.2.1,(false,(p0.2.2.2.2.2,p1.1)))))))))))))))))))))))) (fun k0=>(callV Pg q2R [⟨tMo,a⟩,⟨(.sl tNum),b⟩,⟨tL,c⟩] .bool (fun p1=>(brV (notB p1) (k0 (b,(c,(d,(e,(true,a)))))) (k0 (b,(c,(d,(e,((decide ((60:Int)<(szSl e))),a)))))))))))):
 callV Pg q3W [⟨tMo,a⟩,⟨(.sl tNum),b⟩,⟨tL,c⟩,⟨tI,d⟩,⟨tL,e⟩] .bool Q:=
 q02 (c:=q01 q7m) (ann:=qaB) qd0 rfl qfk rfl rfl hQ (kcast (by kernel_rfl) h)
end Go.Proofs.Pf
