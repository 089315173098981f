/- Typed pure data, a condition on code that says what a call gives, what the code of each function comes to, and what each function gives. -/
import Derived.Scope
import Derived.Lib.LaidTab
import Derived.Lib.ItoaNum
import Derived.Laws.CopyRow
import Derived.Laws.AppendOwn
import Derived.Laws.MakeOwn
import Derived.Laws.BytesString
import Derived.Laws.StructEq
import Derived.Laws.Small
import Derived.Tactics
import Derived.Calls
import Derived.Below
import Derived.KernelRfl
import Derived.Laws.Cells
import Derived.Test.YtackcicjgkfefaaGreatDoorProg
import Derived.Test.YtackcicjgkfefaaGreatDoorA9
import Derived.Test.YtackcicjgkfefaaGreatDoorA10
import Derived.Test.YtackcicjgkfefaaGreatDoorA11
set_option linter.unusedVariables false
set_option linter.unusedSimpArgs false
set_option linter.unnecessarySimpa false
namespace Go.Proofs.Pf
open Go Go.VM
variable {x y:(Int×Option (List Int))×(Int×Option (List Int))} {q r:Rat} {k:Nat}
theorem RV_whole {a:Int×Option (List Int)} {n:Int} (h:IV a n):RV (a,((0:Int),none)) (Rat.divInt n 1):=by
 obtain⟨h1,h2⟩:=q92 n
 refine⟨by rw[h1];exact h,.inr ⟨⟨rfl,by decide,by decide⟩,by rw[h2];rfl⟩⟩
theorem s_RAdd (hlong:LongS) (hx:RV x q) (hy:RV y r) (fx:RFit k q) (fy:RFit k r) (hk:k+k+1<=1073741824):callV Pg q37 [⟨tER,x⟩,⟨tER,y⟩] tER fun z=>RV z (q+r):=by
 have hq:=q.den_nz
 have hr:=r.den_nz
 refine q9H x y (RV_ex _) (joinR (fun p=>∃ b:Bool,p=(b,x,y,((0:Int),none),((0:Int),none))/\(b=true->q.den=1/\r.den=1)) ?_ ?_)
 . rintro _ ⟨b,rfl,hb⟩
   refine q00.2 ⟨fun h=>?_,fun _=>?_⟩
   . obtain⟨h1,h2⟩:=hb h
     refine (s_Add hx.1 hy.1 fx.1 fy.1 (by omega)).mono fun p hp=>?_
     rw[q2G,h1,h2]
     have e:q.num*((1:Nat):Int)+r.num*((1:Nat):Int)=q.num+r.num:=by omega
     rw[e]
     exact RV_whole hp
   . refine (s_Low hy).mono fun p1 h1=>(s_Mul hx.1 h1 fx.1 fy.2 (by omega) (by omega)).mono fun p2 h2=>?_
     refine (s_Low hx).mono fun p3 h3=>(s_Mul hy.1 h3 fy.1 fx.2 (by omega) (by omega)).mono fun p4 h4=>?_
     refine (s_Add h2 h4 (fx.1.mul fy.2 (Nat.le_refl _)) (fy.1.mul fx.2 (Nat.le_refl _)) (by omega)).mono fun p5 h5=>?_
     refine (s_Low hx).mono fun p6 h6=>(s_Low hy).mono fun p7 h7=>(s_Mul h6 h7 fx.2 fy.2 (by omega) (by omega)).mono fun p8 h8=>?_
     refine (s_Ratio hlong h5 h8 ?_ ((fx.1.mul fy.2 (Nat.le_refl _)).add (fy.1.mul fx.2 (Nat.le_refl _)) (Nat.lt_succ_self _)) ((fx.2.mul fy.2 (Nat.le_refl _)).mono (Nat.le_succ _)) hk).mono fun p9 h9=>?_
     . exact Int.mul_ne_zero (by omega) (by omega)
     . rw[q2G];exact h9
 . intro k' hk'
   refine (s_whole hx).mono fun b hb=>q00.2 ⟨fun h=>?_,fun _=>hk' _ ⟨false,rfl,fun h=>by simp at h⟩⟩
   refine (s_whole hy).mono fun c hc=>hk' _ ⟨c,rfl,fun h2=>⟨hb h,hc h2⟩⟩
theorem s_RSub (hlong:LongS) (hx:RV x q) (hy:RV y r) (fx:RFit k q) (fy:RFit k r) (hk:k+k+1<=1073741824):callV Pg q4b [⟨tER,x⟩,⟨tER,y⟩] tER fun z=>RV z (q - r):=by
 refine q9M x y (RV_ex _) ((s_RNeg hy).mono fun p h=>?_)
 rw[Rat.sub_eq_add_neg]
 exact (s_RAdd hlong hx h fx ⟨fy.1.neg,fy.2⟩ hk).mono fun z hz=>hz
end Go.Proofs.Pf
namespace Go.Proofs.Pf
open Go Go.VM
def NumOk (a:Int×Int):Prop:=1<=a.2/\a.2<=1152921504606846976/\a.1<=1152921504606846976 /\ -1152921504606846976<=a.1/\Int.gcd a.1 a.2=1
instance (a:Int×Int):Decidable (NumOk a):=by unfold NumOk;infer_instance
def numQ (a:Int×Int):Rat:=Rat.divInt a.1 a.2
theorem NumOk.q {a:Int×Int} (h:NumOk a):(numQ a).num=a.1/\((numQ a).den:Int)=a.2:=by
 obtain⟨h1,h2,h3,h4,h5⟩:=h
 have e:sgn a.2=1:=if_pos (by omega)
 rw[numQ,q3D _ _ (by omega),q3C _ _ (by omega),e,h5]
 simp
theorem fit_i64 {n:Int} (h1:-9223372036854775808<=n) (h2:n<9223372036854775808):Fit 2 n:=by
 unfold Fit
 rw[show (4294967296:Int) ^ 2=18446744073709551616 from rfl]
 omega
theorem q5q (hlong:LongS) (a:Int×Int):callV Pg q2o [⟨tNum,a⟩] .bool fun r=>r=decide (NumOk a):=by
 refine qam a ⟨_,rfl⟩ (joinR (fun p=>∃ b:Bool,p=(b,a)/\(b=true->¬ NumOk a)/\(b=false->1<=a.2/\a.2<=1152921504606846976/\a.1<=1152921504606846976 /\ -1152921504606846976<=a.1)) ?_ ?_)
 . rintro _ ⟨b,rfl,h1,h2⟩
   refine q00.2 ⟨fun h=>?_,fun h=>?_⟩
   . exact (decide_eq_false (h1 h)).symm
   . obtain⟨q1,q2,q3,q4⟩:=h2 h
     refine (s_Of (n:=a.1) (by omega) (by omega)).mono fun p1 e1=>(s_Of (n:=a.2) (by omega) (by omega)).mono fun p2 e2=>?_
     refine (s_Gcd hlong e1 e2 (fit_i64 (by omega) (by omega)) (fit_i64 (by omega) (by omega)) (by omega)).mono fun p3 e3=>(s_Int e3 (by decide) (by decide)).mono ?_
     rintro _ rfl
     refine decide_eq_decide.2 ?_
     unfold q3R NumOk
     split
     . constructor
       . intro h;have h:((Int.gcd a.1 a.2:Nat):Int)=1:=h;exact⟨q1,q2,q3,q4,by omega⟩
       . rintro⟨_,_,_,_,h⟩;show ((Int.gcd a.1 a.2:Nat):Int)=1;omega
     . rename_i hn
       constructor
       . intro h;simp at h
       . rintro⟨_,_,_,_,h⟩;exact absurd ⟨by omega,by omega⟩ hn
 . intro k hk
   refine q00.2 ⟨fun h=>hk _ ⟨true,rfl,fun _ hN=>?_,fun h=>by simp at h⟩,fun h=>q00.2 ⟨fun h2=>hk _ ⟨true,rfl,fun _ hN=>?_,fun h=>by simp at h⟩,fun h2=>q00.2 ⟨fun h3=>hk _ ⟨true,rfl,fun _ hN=>?_,fun h=>by simp at h⟩,fun h3=>hk _ ⟨_,rfl,fun h4 hN=>?_,fun h4=>?_⟩⟩⟩⟩
   . have h:a.2<1:=dec_t h
     have:=hN.1;omega
   . have h2:1152921504606846976<a.2:=dec_t h2
     have:=hN.2.1;omega
   . have h3:1152921504606846976<a.1:=dec_t h3
     have:=hN.2.2.1;omega
   . have h4:a.1 < -1152921504606846976:=dec_t h4
     have:=hN.2.2.2.1;omega
   . have h:¬ a.2<1:=dec_f h
     have h2:¬ 1152921504606846976<a.2:=dec_f h2
     have h3:¬ 1152921504606846976<a.1:=dec_f h3
     have h4:¬ a.1 < -1152921504606846976:=dec_f h4
     omega
theorem s_Rat (hlong:LongS) {a:Int×Int} (h:NumOk a):callV Pg q4u [⟨tNum,a⟩] tER fun r=>RV r (numQ a):=by
 obtain⟨q1,q2,q3,q4,_⟩:=h
 refine w_num_Rat a (RV_ex _) ((s_Of (n:=a.1) (by omega) (by omega)).mono fun p1 e1=>(s_Of (n:=a.2) (by omega) (by omega)).mono fun p2 e2=>?_)
 exact (s_Ratio hlong e1 e2 (by omega) (fit_i64 (by omega) (by omega)) (fit_i64 (by omega) (by omega)) (by omega)).mono fun p h=>h
theorem NumOk.fit {a:Int×Int} (h:NumOk a):RFit 2 (numQ a):=by
 obtain⟨e1,e2⟩:=h.q
 obtain⟨q1,q2,q3,q4,_⟩:=h
 exact⟨by rw[e1];exact fit_i64 (by omega) (by omega),by rw[e2];exact fit_i64 (by omega) (by omega)⟩
end Go.Proofs.Pf
namespace Go.Proofs.Pf
open Go Go.VM
theorem NumOk.ext {x y:Int×Int} (hx:NumOk x) (hy:NumOk y) (h:numQ x=numQ y):x=y:=by
 have e1:=hx.q
 have e2:=hy.q
 rw[h] at e1
 exact Prod.ext (e1.1.symm.trans e2.1) (e1.2.symm.trans e2.2)
end Go.Proofs.Pf
namespace Go.Proofs.Pf.B
open Go Go.VM
def RRV (x:(Int×Bool×Option (List Int))×(Int×Bool×Option (List Int))) (q:Rat):Prop:=RIV x.1 q.num/\RIV x.2 (q.den:Int)
theorem RRV_ex (q:Rat):∃ r,RRV r q:=by
 obtain⟨a,ha⟩:=RIV_ex q.num
 obtain⟨b,hb⟩:=RIV_ex (q.den:Int)
 exact⟨(a,b),ha,hb⟩
def RFit (k:Nat) (q:Rat):Prop:=Fit k q.num/\Fit k (q.den:Int)
theorem RFit.mono {k j:Nat} {q:Rat} (h:RFit k q) (hj:k<=j):RFit j q:=⟨h.1.mono hj,h.2.mono hj⟩
theorem fit_i64 {n:Int} (h1:-9223372036854775808<=n) (h2:n<9223372036854775808):Fit 3 n:=by
 unfold Fit
 rw[show (1073741824:Int) ^ 3=1237940039285380274899124224 from rfl]
 omega
theorem r_Make {x y:Int×Bool×Option (List Int)} {n m:Int} {k:Nat} (hx:RIV x n) (hy:RIV y m) (hm:m≠0) (fx:Fit k n) (fy:Fit k m) (hk:k<=1073741824):callV Pg q4x [⟨tRI,x⟩,⟨tRI,y⟩] tRR fun r=>RRV r (Rat.divInt n m):=by
 refine qax x y (RRV_ex _) ((q0B hy).mono ?_)
 rintro _ rfl
 refine joinR (fun p=>∃ n' m':Int,RIV p.1 n'/\RIV p.2.1 m'/\0<m'/\Rat.divInt n m=Rat.divInt n' m'/\Fit k n'/\Fit k m') ?_ ?_
 . rintro⟨p,q,z⟩ ⟨n',m',h1,h2,hm',e,f1,f2⟩
   rw[e]
   dsimp only at h1 h2 ⊢
   have hg0:Int.gcd n' m'≠0:=fun e=>by have:=(Int.gcd_eq_zero_iff.1 e).2;omega
   have es:sgn m'=1:=if_pos hm'
   have hn:=q3D n' m' (by omega)
   have hd:=q3C n' m' (by omega)
   rw[es,Int.one_mul] at hn hd
   have hgle:Int.gcd n' m'<=m'.natAbs:=Nat.le_of_dvd (by omega) (Nat.gcd_dvd_right ..)
   refine (r_Gcd h1 h2 f1 f2 hk).mono fun g hg=>(r_Of (n:=1) (by decide) (by decide)).mono fun o ho=>?_
   refine (q6D hg ho (f2.of (by omega)) (fit_i64 (by decide) (by decide)) hk (by decide)).mono ?_
   rintro _ rfl
   refine joinR (fun p=>RIV p.1 (n'.tdiv (Int.gcd n' m'))/\RIV p.2.1 (m'.tdiv (Int.gcd n' m'))) ?_ ?_
   . rintro⟨p,q,z⟩ ⟨h3,h4⟩
     rw[<-hn] at h3
     rw[<-hd] at h4
     exact⟨h3,h4⟩
   . intro k' hk'
     refine q00.2 ⟨fun _=>?_,fun h=>?_⟩
     . refine (r_Over h1 hg (by omega) f1 hk).mono ?_
       rintro⟨q,r,_⟩ ⟨h3,_⟩
       refine (r_Over h2 hg (by omega) f2 hk).mono ?_
       rintro⟨q2,r2,_⟩ ⟨h4,_⟩
       exact hk' _ ⟨h3,h4⟩
     . have h:=sgn_z (not_f h)
       have e:((Int.gcd n' m':Nat):Int)=1:=by omega
       refine hk' _ ?_
       rw[e]
       simp only[Int.tdiv_one]
       exact⟨h1,h2⟩
 . intro k' hk'
   refine q00.2 ⟨fun h=>?_,fun h=>?_⟩
   . have h:=dec_t h
     rw[q0K] at h
     refine (q2F hx).mono fun p h1=>(q2F hy).mono fun q h2=>hk' _ ⟨-n,-m,h1,h2,by omega,?_,fx.neg,fy.neg⟩
     exact (Rat.neg_divInt_neg ..).symm
   . have h:=dec_f h
     rw[q0K] at h
     exact hk' _ ⟨n,m,hx,hy,by omega,rfl,fx,fy⟩
variable {x y:(Int×Bool×Option (List Int))×(Int×Bool×Option (List Int))} {q r:Rat} {k:Nat}
theorem r_Whole {n:Int} (h1:-9223372036854775808<=n) (h2:n<9223372036854775808):callV Pg q3k [⟨tI,n⟩] tRR fun r=>RRV r (n:Rat):=
 qaG n (RRV_ex _) ((r_Of h1 h2).mono fun _ h=>(r_Of (n:=1) (by decide) (by decide)).mono fun _ h'=>⟨h,h'⟩)
theorem r_RPlus (hx:RRV x q) (hy:RRV y r) (fx:RFit k q) (fy:RFit k r) (hk:k+k+1<=1073741824):callV Pg q3j [⟨tRR,x⟩,⟨tRR,y⟩] tRR fun z=>RRV z (q+r):=by
 have hq:=q.den_nz
 have hr:=r.den_nz
 refine qaC x y (RRV_ex _) ((q5k hx.1 hy.2 fx.1 fy.2 (by omega) (by omega)).mono fun p1 h1=>(q5k hy.1 hx.2 fy.1 fx.2 (by omega) (by omega)).mono fun p2 h2=>?_)
 refine (r_Plus h1 h2 (fx.1.mul fy.2 (Nat.le_refl _)) (fy.1.mul fx.2 (Nat.le_refl _)) (by omega) (by omega)).mono fun p3 h3=>(q5k hx.2 hy.2 fx.2 fy.2 (by omega) (by omega)).mono fun p4 h4=>?_
 refine (r_Make h3 h4 ?_ ((fx.1.mul fy.2 (Nat.le_refl _)).add (fy.1.mul fx.2 (Nat.le_refl _)) (Nat.lt_succ_self _)) ((fx.2.mul fy.2 (Nat.le_refl _)).mono (Nat.le_succ _)) hk).mono fun p9 h9=>?_
 . exact Int.mul_ne_zero (by omega) (by omega)
 . rw[q2G];exact h9
theorem r_RMinus (hx:RRV x q):callV Pg q4A [⟨tRR,x⟩] tRR fun r=>RRV r (-q):=
 qaB x (RRV_ex _) ((q2F hx.1).mono fun _ h=>⟨h,hx.2⟩)
theorem r_RLess (hx:RRV x q) (hy:RRV y r) (fx:RFit k q) (fy:RFit k r) (hk:k+k+1<=1073741824):callV Pg q4z [⟨tRR,x⟩,⟨tRR,y⟩] tRR fun z=>RRV z (q - r):=by
 refine qaA x y (RRV_ex _) ((r_RMinus hy).mono fun p h=>?_)
 rw[Rat.sub_eq_add_neg]
 exact (r_RPlus hx h fx ⟨fy.1.neg,fy.2⟩ hk).mono fun z hz=>hz
theorem r_RSign (hx:RRV x q):callV Pg q4B [⟨tRR,x⟩] tI fun r=>r=sgn q.num:=
 qaD x ⟨_,rfl⟩ ((q0B hx.1).mono fun _ h=>h)
theorem q9i (hx:RRV x q) (hy:RRV y r) (fx:RFit k q) (fy:RFit k r) (hk:k+k+1<=1073741824):callV Pg q4y [⟨tRR,x⟩,⟨tRR,y⟩] tI fun z=>z=sgn (q - r).num:=
 qaz x y ⟨_,rfl⟩ ((r_RLess hx hy fx fy hk).mono fun _ h=>r_RSign h)
theorem r_To {a:Int×Int} (h:NumOk a):callV Pg q4C [⟨tNum,a⟩] tRR fun r=>RRV r (numQ a):=by
 obtain⟨e1,e2⟩:=h.q
 obtain⟨q1,q2,q3,q4,_⟩:=h
 refine qaE a (RRV_ex _) ((r_Of (n:=a.1) (by omega) (by omega)).mono fun p1 h1=>(r_Of (n:=a.2) (by omega) (by omega)).mono fun p2 h2=>⟨?_,?_⟩)
 . rw[e1];exact h1
 . rw[e2];exact h2
theorem ok_fit {a:Int×Int} (h:NumOk a):RFit 3 (numQ a):=by
 obtain⟨e1,e2⟩:=h.q
 obtain⟨q1,q2,q3,q4,_⟩:=h
 exact⟨by rw[e1];exact fit_i64 (by omega) (by omega),by rw[e2];exact fit_i64 (by omega) (by omega)⟩
theorem r_Valid (a:Int×Int):callV Pg q1M [⟨tNum,a⟩] .bool fun r=>r=decide (NumOk a):=by
 refine qaF a ⟨_,rfl⟩ (joinR (fun p=>∃ b:Bool,p=(b,a)/\(b=true->¬ NumOk a)/\(b=false->1<=a.2/\a.2<=1152921504606846976/\a.1<=1152921504606846976 /\ -1152921504606846976<=a.1)) ?_ ?_)
 . rintro _ ⟨b,rfl,h1,h2⟩
   refine q00.2 ⟨fun h=>?_,fun h=>?_⟩
   . exact (decide_eq_false (h1 h)).symm
   . obtain⟨q1,q2,q3,q4⟩:=h2 h
     refine (r_Of (n:=a.1) (by omega) (by omega)).mono fun p1 e1=>(r_Of (n:=a.2) (by omega) (by omega)).mono fun p2 e2=>?_
     have hgle:Int.gcd a.1 a.2<=a.2.natAbs:=Nat.le_of_dvd (by omega) (Nat.gcd_dvd_right ..)
     refine (r_Gcd e1 e2 (fit_i64 (by omega) (by omega)) (fit_i64 (by omega) (by omega)) (by omega)).mono fun p3 e3=>(r_Of (n:=1) (by decide) (by decide)).mono fun p4 e4=>?_
     refine (q6D e3 e4 (fit_i64 (by omega) (by omega)) (fit_i64 (by omega) (by omega)) (by omega) (by omega)).mono ?_
     rintro _ rfl
     refine decide_eq_decide.2 ?_
     unfold NumOk
     constructor
     . intro h;have h:=sgn_z h;exact⟨q1,q2,q3,q4,by omega⟩
     . rintro⟨_,_,_,_,h⟩;rw[h];rfl
 . intro k hk
   refine q00.2 ⟨fun h=>hk _ ⟨true,rfl,fun _ hN=>?_,fun h=>by simp at h⟩,fun h=>q00.2 ⟨fun h2=>hk _ ⟨true,rfl,fun _ hN=>?_,fun h=>by simp at h⟩,fun h2=>q00.2 ⟨fun h3=>hk _ ⟨true,rfl,fun _ hN=>?_,fun h=>by simp at h⟩,fun h3=>hk _ ⟨_,rfl,fun h4 hN=>?_,fun h4=>?_⟩⟩⟩⟩
   . have h:a.2<1:=dec_t h
     have:=hN.1;omega
   . have h2:1152921504606846976<a.2:=dec_t h2
     have:=hN.2.1;omega
   . have h3:1152921504606846976<a.1:=dec_t h3
     have:=hN.2.2.1;omega
   . have h4:a.1 < -1152921504606846976:=dec_t h4
     have:=hN.2.2.2.1;omega
   . have h:¬ a.2<1:=dec_f h
     have h2:¬ 1152921504606846976<a.2:=dec_f h2
     have h3:¬ 1152921504606846976<a.1:=dec_f h3
     have h4:¬ a.1 < -1152921504606846976:=dec_f h4
     omega
end Go.Proofs.Pf.B
namespace Go.Proofs.Pf.B
open Go Go.VM
theorem s_RCmp {x y:(Int×Option (List Int))×(Int×Option (List Int))} {q r:Rat} {k:Nat} (hx:RV x q) (hy:RV y r) (fx:Pf.RFit k q) (fy:Pf.RFit k r) (hk:k+k+1<=1073741824):callV Pg q48 [⟨tER,x⟩,⟨tER,y⟩] tI fun z=>z=sgn (q - r).num:=
 q9I x y ⟨_,rfl⟩ ((s_RSub longS hx hy fx fy hk).mono fun _ h=>s_RSign h)
end Go.Proofs.Pf.B
namespace Go.Proofs.Pf
structure SPre (p q r s:Int):Prop where
 p0:0<p
 q0:0<q
 r0:0<r
 s0:0<s
 le:p*s<=r*q
theorem SPre.next {p q r s:Int} (h:SPre p q r s) (h1:¬ p % q=0) (h2:¬ (p / q+1)*s<=r):
 SPre s (r - p / q*s) q (p - p / q*q)/\r - p / q*s<s/\p - p / q*q<q:=by
 obtain⟨p0,q0,r0,s0,le⟩:=h
 have hd:=Int.mul_ediv_add_emod p q
 have hm0:=Int.emod_nonneg p (show q≠0 by omega)
 have hm1:=Int.emod_lt_of_pos p q0
 generalize p / q=n at *
 generalize p % q=m at *
 have e:p - n*q=m:=by rw[Int.mul_comm n q];omega
 have hr:0<r - n*s:=by
  have h3:q*(n*s)<q*r:=by
   have h4:p*s=q*(n*s)+m*s:=by rw[<-hd,Int.add_mul,Int.mul_assoc]
   have h5:0<m*s:=Int.mul_pos (by omega) s0
   rw[Int.mul_comm q r];omega
  have:=Int.lt_of_mul_lt_mul_left h3 (by omega)
  omega
 rw[e]
 refine⟨⟨s0,hr,q0,by omega,?_⟩,?_,hm1⟩
 . rw[Int.mul_sub,<-e];grind
 . rw[Int.add_mul,Int.one_mul] at h2;omega
theorem q62 (n:Int) {m:Int} (hm:0<m):(Rat.divInt n m).num*m=n*((Rat.divInt n m).den:Int)/\(Rat.divInt n m).num.natAbs<=n.natAbs/\(Rat.divInt n m).den<=m.natAbs:=by
 have e:sgn m=1:=if_pos hm
 have h1:=q3D n m (by omega)
 have h2:=q3C n m (by omega)
 rw[e,Int.one_mul] at h1 h2
 have d1:((Int.gcd n m:Nat):Int) ∣ n:=Int.gcd_dvd_left ..
 have d2:((Int.gcd n m:Nat):Int) ∣ m:=Int.gcd_dvd_right ..
 have c1:=Int.mul_tdiv_cancel' d1
 have c2:=Int.mul_tdiv_cancel' d2
 refine⟨?_,?_,?_⟩
 . rw[h1,h2]
   generalize ((Int.gcd n m:Nat):Int)=g at *
   conv=>lhs;rw[<-c2]
   conv=>rhs;rw[<-c1]
   grind
 . rw[h1,Int.natAbs_tdiv];exact Nat.div_le_self _ _
 . have:((Rat.divInt n m).den:Int).natAbs<=m.natAbs:=by rw[h2,Int.natAbs_tdiv];exact Nat.div_le_self _ _
   omega
end Go.Proofs.Pf
namespace Go.Proofs.Pf.B
open Go Go.VM
theorem pfit_add {q r:Rat} {k j:Nat} (h:Pf.RFit k q) (g:Pf.RFit j r):Pf.RFit (k+j+1) (q+r):=by
 have hq:=q.den_nz
 have hr:=r.den_nz
 rw[q2G]
 obtain⟨_,h1,h2⟩:=q62 (q.num*(r.den:Int)+r.num*(q.den:Int)) (show 0<(q.den:Int)*(r.den:Int) from Int.mul_pos (by omega) (by omega))
 exact⟨((h.1.mul g.2 (Nat.le_refl _)).add (g.1.mul h.2 (Nat.le_of_eq (Nat.add_comm _ _))) (Nat.lt_succ_self _)).of h1,((h.2.mul g.2 (Nat.le_refl _)).mono (Nat.le_succ _)).of (by omega)⟩
theorem rfit_add {q r:Rat} {k j:Nat} (h:RFit k q) (g:RFit j r):RFit (k+j+1) (q+r):=by
 have hq:=q.den_nz
 have hr:=r.den_nz
 rw[q2G]
 obtain⟨_,h1,h2⟩:=q62 (q.num*(r.den:Int)+r.num*(q.den:Int)) (show 0<(q.den:Int)*(r.den:Int) from Int.mul_pos (by omega) (by omega))
 exact⟨((h.1.mul g.2 (Nat.le_refl _)).add (g.1.mul h.2 (Nat.le_of_eq (Nat.add_comm _ _))) (Nat.lt_succ_self _)).of h1,((h.2.mul g.2 (Nat.le_refl _)).mono (Nat.le_succ _)).of (by omega)⟩
theorem zero_rv:RV (((0:Int),none),((0:Int),none)) (0:Rat):=⟨⟨rfl,by decide,by decide⟩,.inr ⟨⟨rfl,by decide,by decide⟩,rfl⟩⟩
theorem zero_pfit:Pf.RFit 1 (0:Rat):=by unfold Pf.RFit Pf.Fit;decide
theorem zero_rfit:RFit 1 (0:Rat):=by unfold RFit Fit;decide
end Go.Proofs.Pf.B
namespace Go.Proofs.Pf.B
open Go Go.VM
abbrev br (l:List DBr) (i:Nat):DBr:=l.getD i (0,(0,0))
def preTo (l:List DBr):Nat->Int
 | 0=>-1
 | i+1=>(br l i).1
def brOk (n:Int) (l:List DBr) (i:Nat):Prop:=preTo l i<(br l i).1/\(br l i).1<n/\NumOk (br l i).2/\0<(br l i).2.1
instance (n:Int) (l:List DBr) (i:Nat):Decidable (brOk n l i):=by unfold brOk;infer_instance
def sumR (l:List DBr):Nat->Rat
 | 0=>0
 | i+1=>sumR l i+numQ (br l i).2
def chOk (n:Int) (c:DCh):Prop:=NumOk c.1/\(1<=(c.2.getD []).length/\(c.2.getD []).length<=8)/\(∀ i,i<(c.2.getD []).length->brOk n (c.2.getD []) i)/\sumR (c.2.getD []) (c.2.getD []).length=1
instance (n:Int) (c:DCh):Decidable (chOk n c):=by unfold chOk;infer_instance
theorem q1Z {n:Int} {l:List DBr}:∀ {i:Nat},(∀ j,j<i->brOk n l j)->-1<=preTo l i
 | 0,_=>by simp[preTo]
 | i+1,h=>by
  have h1:=(h i (by omega)).1
  have h2:=q1Z (i:=i) fun j hj=>h j (by omega)
  show -1<=(br l i).1
  omega
theorem q6Y {q:Rat}:sgn (q - 1).num=0↔q=1:=by
 constructor
 . intro h
   have h0:(q - 1).num=0:=by
    unfold sgn at h
    repeat' split at h
    all_goals omega
   have h1:q - 1=0:=Rat.num_eq_zero.1 h0
   have h2:q - 1+1=0+1:=by rw[h1]
   rwa [Rat.sub_add_cancel,Rat.zero_add] at h2
 . rintro rfl
   rw[Rat.sub_self];rfl
theorem q1v {l:Option (List DBr)} {i:Nat}:eltS ((0:Int),((0:Int),(0:Int))) l (i:Int)=br (l.getD []) i:=by simp only[eltS,Int.toNat_natCast]
theorem one_rfit:Pf.RFit 1 (1:Rat):=by unfold Pf.RFit Pf.Fit;decide
theorem s_choice (n:Int) (c:DCh):callV Pg q4t [⟨tI,n⟩,⟨tCh,c⟩] .bool fun r=>r=decide (chOk n c):=by
 refine qak n c ⟨_,rfl⟩ (joinR (fun p=>∃ b:Bool,p=(n,(b,c))/\(b=true->¬ chOk n c)/\(b=false->NumOk c.1/\(1<=(c.2.getD []).length/\(c.2.getD []).length<=8))) ?_ ?_)
 . rintro _ ⟨b,rfl,h1,h2⟩
   dsimp only
   refine q00.2 ⟨fun h=>(decide_eq_false (h1 h)).symm,fun h=>?_⟩
   obtain⟨g1,g2,g3⟩:=h2 h
   refine loopE (fun p=>∃ (i:Nat) (x:_),p=(n,(preTo (c.2.getD []) i,(c.2,(((c.2.getD []).length:Int),((i:Int),x)))))/\i<=(c.2.getD []).length/\(∀ j,j<i->brOk n (c.2.getD []) j)/\RV x (sumR (c.2.getD []) i)/\Pf.RFit (3*i+1) (sumR (c.2.getD []) i)) (fun p=>(c.2.getD []).length - p.2.2.2.2.1.toNat)
    ⟨0,(((0:Int),none),((0:Int),none)),rfl,by omega,fun j h=>by omega,zero_rv,zero_pfit⟩ ?_
   rintro _ ⟨i,x,rfl,hi,hall,hx,fx⟩
   dsimp only
   refine q00.2 ⟨fun hc=>?_,fun hc=>?_⟩
   . have hc:(i:Int)<((c.2.getD []).length:Int):=dec_t hc
     rw[q1v]
     refine⟨⟨by omega,by omega⟩,?_⟩
     refine joinR (fun p=>∃ b:Bool,p=(n,(c.2,(((c.2.getD []).length:Int),((i:Int),(b,(x,br (c.2.getD []) i))))))/\(b=true->¬ brOk n (c.2.getD []) i)/\(b=false->brOk n (c.2.getD []) i)) ?_ ?_
     . rintro _ ⟨b,rfl,k1,k2⟩
       dsimp only
       refine q00.2 ⟨fun h=>(decide_eq_false fun hq=>k1 h (hq.2.2.1 i (by omega))).symm,fun h=>?_⟩
       have hb:=k2 h
       have o1:=hb.2.2.1
       refine (s_Rat longS o1).mono fun p4 h4=>?_
       refine (s_RAdd longS hx h4 (fx.mono (show 3*i+1<=100 by omega)) (o1.fit.mono (by decide)) (by decide)).mono fun p5 h5=>?_
       rw[wi64 (by omega) (by omega)]
       refine⟨⟨i+1,p5,rfl,by omega,fun j hj=>?_,h5,(pfit_add fx o1.fit).mono (by omega)⟩,by omega⟩
       rcases Nat.lt_or_ge j i with q | q
       . exact hall j q
       . obtain rfl:j=i:=by omega
         exact hb
     . intro k hk
       refine q00.2 ⟨fun h=>hk _ ⟨true,rfl,fun _ hq=>?_,fun h=>by cases h⟩,fun h=>?_⟩
       . have h:=dec_t h;have:=hq.1;omega
       have e1:=dec_f h
       refine q00.2 ⟨fun h=>hk _ ⟨true,rfl,fun _ hq=>?_,fun h=>by cases h⟩,fun h=>?_⟩
       . have h:=dec_t h;have:=hq.2.1;omega
       have e2:=dec_f h
       refine (q5q longS _).mono ?_
       rintro _ rfl
       refine q00.2 ⟨fun h=>hk _ ⟨true,rfl,fun _ hq=>not_t h hq.2.2.1,fun h=>by cases h⟩,fun h=>?_⟩
       have e3:=not_f h
       refine hk _ ⟨_,rfl,fun h hq=>?_,fun h=>⟨by omega,by omega,e3,?_⟩⟩
       . have h:=dec_t h;have:=hq.2.2.2;omega
       . have h:=dec_f h;omega
   . have hc:¬ (i:Int)<((c.2.getD []).length:Int):=dec_f hc
     obtain rfl:i=(c.2.getD []).length:=by omega
     refine (s_Whole (n:=1) (by decide) (by decide)).mono fun p3 h3=>?_
     refine (s_RCmp hx h3 (fx.mono (show 3*(c.2.getD []).length+1<=100 by omega)) (one_rfit.mono (by decide)) (by decide)).mono ?_
     rintro _ rfl
     have e:decide (sgn (sumR (c.2.getD []) (c.2.getD []).length - ((1:Int):Rat)).num=(0:Int))=decide (chOk n c):=by
      rw[decide_eq_decide]
      exact q6Y.trans ⟨fun h=>⟨g1,⟨g2,g3⟩,hall,h⟩,fun h=>h.2.2.2⟩
     exact e
 . intro k hk
   refine (q5q longS _).mono ?_
   rintro _ rfl
   refine q00.2 ⟨fun h=>hk _ ⟨true,rfl,fun _ hq=>not_t h hq.1,fun h=>by cases h⟩,fun h=>?_⟩
   have e1:=not_f h
   refine q00.2 ⟨fun h=>hk _ ⟨true,rfl,fun _ hq=>?_,fun h=>by cases h⟩,fun h=>?_⟩
   . have h:((c.2.getD []).length:Int)<1:=dec_t h
     have:=hq.2.1.1;omega
   have e2:¬ ((c.2.getD []).length:Int)<1:=dec_f h
   refine hk _ ⟨_,rfl,fun h hq=>?_,fun h=>⟨e1,by omega,?_⟩⟩
   . have h:(8:Int)<((c.2.getD []).length:Int):=dec_t h
     have:=hq.2.1.2;omega
   . have h:¬ (8:Int)<((c.2.getD []).length:Int):=dec_f h
     omega
end Go.Proofs.Pf.B
namespace Go.Proofs.Pf.B
open Go Go.VM
theorem one_rrf:RFit 1 (1:Rat):=by unfold RFit Fit;decide
theorem r_choice (n:Int) (c:DCh) (hn0:0<=n):callV Pg q4K [⟨tCh,c⟩,⟨tI,n⟩] .bool fun r=>r=decide (chOk n c):=by
 refine qaV c n ⟨_,rfl⟩ (joinR (fun p=>∃ b:Bool,p=(n,(b,c))/\(b=true->¬ chOk n c)/\(b=false->NumOk c.1/\(1<=(c.2.getD []).length/\(c.2.getD []).length<=8))) ?_ ?_)
 . rintro _ ⟨b,rfl,h1,h2⟩
   dsimp only
   refine q00.2 ⟨fun h=>(decide_eq_false (h1 h)).symm,fun h=>?_⟩
   obtain⟨g1,g2,g3⟩:=h2 h
   refine (r_Whole (n:=0) (by decide) (by decide)).mono fun p1 hp1=>?_
   refine loopE (fun p=>∃ (i:Nat) (x:_),p=(n,(c.2,(((c.2.getD []).length:Int),((i:Int),(c,x)))))/\i<=(c.2.getD []).length/\(∀ j,j<i->brOk n (c.2.getD []) j)/\RRV x (sumR (c.2.getD []) i)/\RFit (4*i+1) (sumR (c.2.getD []) i)) (fun p=>(c.2.getD []).length - p.2.2.2.1.toNat)
    ⟨0,p1,rfl,by omega,fun j h=>by omega,hp1,zero_rfit⟩ ?_
   rintro _ ⟨i,x,rfl,hi,hall,hx,fx⟩
   dsimp only
   refine q00.2 ⟨fun hc=>?_,fun hc=>?_⟩
   . have hc:(i:Int)<((c.2.getD []).length:Int):=dec_t hc
     rw[q1v]
     refine⟨⟨by omega,by omega⟩,?_⟩
     refine joinR (fun p=>∃ b:Bool,p=(n,(c.2,(((c.2.getD []).length:Int),((i:Int),(b,(c,(x,br (c.2.getD []) i)))))))/\(b=true->¬ brOk n (c.2.getD []) i)/\(b=false->brOk n (c.2.getD []) i)) ?_ ?_
     . rintro _ ⟨b,rfl,k1,k2⟩
       dsimp only
       refine q00.2 ⟨fun h=>(decide_eq_false fun hq=>k1 h (hq.2.2.1 i (by omega))).symm,fun h=>?_⟩
       have hb:=k2 h
       have o1:=hb.2.2.1
       refine (r_To o1).mono fun p5 h5=>?_
       refine (r_RPlus hx h5 (fx.mono (show 4*i+1<=100 by omega)) ((ok_fit o1).mono (by decide)) (by decide)).mono fun p6 h6=>?_
       rw[wi64 (by omega) (by omega)]
       refine⟨⟨i+1,p6,rfl,by omega,fun j hj=>?_,h6,(rfit_add fx (ok_fit o1)).mono (by omega)⟩,by omega⟩
       rcases Nat.lt_or_ge j i with q | q
       . exact hall j q
       . obtain rfl:j=i:=by omega
         exact hb
     . intro k hk
       have hpre:=q1Z hall
       refine q00.2 ⟨fun h=>hk _ ⟨true,rfl,fun _ hq=>?_,fun h=>by cases h⟩,fun h=>?_⟩
       . have h:=dec_t h;have:=hq.1;omega
       have e1:=dec_f h
       refine q00.2 ⟨fun h=>hk _ ⟨true,rfl,fun _ hq=>?_,fun h=>by cases h⟩,fun h=>?_⟩
       . have h:=dec_t h;have:=hq.2.1;omega
       have e2:=dec_f h
       have fin:preTo (c.2.getD []) i<(br (c.2.getD []) i).1->callV Pg q1M [⟨tNum,(br (c.2.getD []) i).2⟩] .bool (fun p5=>(brV (notB p5) (k (n,(c.2,(((c.2.getD []).length:Int),((i:Int),(true,(c,(x,br (c.2.getD []) i)))))))) (k (n,(c.2,(((c.2.getD []).length:Int),((i:Int),(decide ((br (c.2.getD []) i).2.1<=(0:Int)),(c,(x,br (c.2.getD []) i)))))))))):=by
        intro hlt
        refine (r_Valid _).mono ?_
        rintro _ rfl
        refine q00.2 ⟨fun h=>hk _ ⟨true,rfl,fun _ hq=>not_t h hq.2.2.1,fun h=>by cases h⟩,fun h=>?_⟩
        have e3:=not_f h
        refine hk _ ⟨_,rfl,fun h hq=>?_,fun h=>⟨hlt,by omega,e3,?_⟩⟩
        . have h:=dec_t h;have:=hq.2.2.2;omega
        . have h:=dec_f h;omega
       refine q00.2 ⟨fun h=>?_,fun h=>?_⟩
       . have h:=dec_t h
         obtain⟨j,rfl⟩:∃ j,i=j+1:=⟨i - 1,by omega⟩
         rw[wi64 (by omega) (by omega),show ((j+1:Nat):Int) - 1=(j:Int) by omega,q1v]
         refine⟨⟨by omega,by omega⟩,q00.2 ⟨fun h'=>hk _ ⟨true,rfl,fun _ hq=>?_,fun h=>by cases h⟩,fun h'=>?_⟩⟩
         . have h':=dec_t h';have:(br (c.2.getD []) j).1<_:=hq.1;omega
         . have h':=dec_f h'
           exact fin (show (br (c.2.getD []) j).1<_ by omega)
       . have h:=dec_f h
         obtain rfl:i=0:=by omega
         exact fin (show (-1:Int)<_ by omega)
   . have hc:¬ (i:Int)<((c.2.getD []).length:Int):=dec_f hc
     obtain rfl:i=(c.2.getD []).length:=by omega
     refine (r_Whole (n:=1) (by decide) (by decide)).mono fun p3 h3=>?_
     refine (q9i hx h3 (fx.mono (show 4*(c.2.getD []).length+1<=100 by omega)) (one_rrf.mono (by decide)) (by decide)).mono ?_
     rintro _ rfl
     have e:decide (sgn (sumR (c.2.getD []) (c.2.getD []).length - ((1:Int):Rat)).num=(0:Int))=decide (chOk n c):=by
      rw[decide_eq_decide]
      exact q6Y.trans ⟨fun h=>⟨g1,⟨g2,g3⟩,hall,h⟩,fun h=>h.2.2.2⟩
     exact e
 . intro k hk
   refine (r_Valid _).mono ?_
   rintro _ rfl
   refine q00.2 ⟨fun h=>hk _ ⟨true,rfl,fun _ hq=>not_t h hq.1,fun h=>by cases h⟩,fun h=>?_⟩
   have e1:=not_f h
   refine q00.2 ⟨fun h=>hk _ ⟨true,rfl,fun _ hq=>?_,fun h=>by cases h⟩,fun h=>?_⟩
   . have h:((c.2.getD []).length:Int)<1:=dec_t h
     have:=hq.2.1.1;omega
   have e2:¬ ((c.2.getD []).length:Int)<1:=dec_f h
   refine hk _ ⟨_,rfl,fun h hq=>?_,fun h=>⟨e1,by omega,?_⟩⟩
   . have h:(8:Int)<((c.2.getD []).length:Int):=dec_t h
     have:=hq.2.1.2;omega
   . have h:¬ (8:Int)<((c.2.getD []).length:Int):=dec_f h
     omega
abbrev ch (l:List DCh) (i:Nat):DCh:=l.getD i (((0,0),none))
abbrev stt (l:List DSt) (i:Nat):DSt:=l.getD i (0,(0,none))
def stHead (s:DSt):Prop:=(0<=s.1/\s.1<=1)/\(0<=s.2.1/\s.2.1<=63)/\(1<=(s.2.2.getD []).length/\(s.2.2.getD []).length<=8)
instance (s:DSt):Decidable (stHead s):=by unfold stHead;infer_instance
def stOk (n:Int) (s:DSt):Prop:=stHead s/\∀ j,j<(s.2.2.getD []).length->chOk n (ch (s.2.2.getD []) j)
instance (n:Int) (s:DSt):Decidable (stOk n s):=by unfold stOk;infer_instance
def moOk (m:DMo):Prop:=(1<=(m.getD []).length/\(m.getD []).length<=40)/\∀ i,i<(m.getD []).length->stOk (m.getD []).length (stt (m.getD []) i)
instance (m:DMo):Decidable (moOk m):=by unfold moOk;infer_instance
theorem q1c {l:Option (List DSt)} {i:Nat}:eltS ((0:Int),((0:Int),none)) l (i:Int)=stt (l.getD []) i:=by simp only[eltS,Int.toNat_natCast]
theorem q1b {l:Option (List DCh)} {i:Nat}:eltS (((0:Int),(0:Int)),none) l (i:Int)=ch (l.getD []) i:=by simp only[eltS,Int.toNat_natCast]
theorem q6Q (m:DMo):callV Pg q3e [⟨tMo,m⟩] .bool fun r=>r=decide (moOk m):=by
 refine qaj m ⟨_,rfl⟩ (joinR (fun p=>∃ b:Bool,p=(((m.getD []).length:Int),(b,m))/\(b=true->¬ moOk m)/\(b=false->1<=(m.getD []).length/\(m.getD []).length<=40)) ?_ ?_)
 . rintro _ ⟨b,rfl,h1,h2⟩
   dsimp only
   refine q00.2 ⟨fun h=>(decide_eq_false (h1 h)).symm,fun h=>?_⟩
   obtain⟨g1,g2⟩:=h2 h
   refine loopE (fun p=>∃ i:Nat,p=(((m.getD []).length:Int),(m,(((m.getD []).length:Int),(i:Int))))/\i<=(m.getD []).length/\(∀ j,j<i->stOk (m.getD []).length (stt (m.getD []) j))) (fun p=>(m.getD []).length - p.2.2.2.toNat)
    ⟨0,rfl,by omega,fun j h=>by omega⟩ ?_
   rintro _ ⟨i,rfl,hi,hall⟩
   dsimp only
   refine q00.2 ⟨fun hc=>?_,fun hc=>?_⟩
   . have hc:(i:Int)<((m.getD []).length:Int):=dec_t hc
     rw[q1c]
     have no:¬ stHead (stt (m.getD []) i)->¬ moOk m:=fun h hq=>h (hq.2 i (by omega)).1
     refine⟨⟨by omega,by omega⟩,joinR (fun p=>∃ b:Bool,p=(((m.getD []).length:Int),(m,(((m.getD []).length:Int),((i:Int),(b,stt (m.getD []) i)))))/\(b=true->¬ moOk m)/\(b=false->stHead (stt (m.getD []) i))) ?_ ?_⟩
     . rintro _ ⟨b,rfl,k1,k2⟩
       dsimp only
       refine q00.2 ⟨fun h=>(decide_eq_false (k1 h)).symm,fun h=>?_⟩
       have hh:=k2 h
       obtain⟨_,_,c1,c2⟩:=id hh
       refine loopE (fun p=>∃ j:Nat,p=(((m.getD []).length:Int),(m,(((m.getD []).length:Int),((i:Int),((stt (m.getD []) i).2.2,((((stt (m.getD []) i).2.2.getD []).length:Int),(j:Int)))))))/\j<=((stt (m.getD []) i).2.2.getD []).length/\(∀ k,k<j->chOk (m.getD []).length (ch ((stt (m.getD []) i).2.2.getD []) k)))
        (fun p=>((stt (m.getD []) i).2.2.getD []).length - p.2.2.2.2.2.2.toNat) ⟨0,rfl,by omega,fun j h=>by omega⟩ ?_
       rintro _ ⟨j,rfl,hj,hch⟩
       dsimp only
       refine q00.2 ⟨fun hd=>?_,fun hd=>?_⟩
       . have hd:(j:Int)<(((stt (m.getD []) i).2.2.getD []).length:Int):=dec_t hd
         rw[q1b]
         refine⟨⟨by omega,by omega⟩,(s_choice _ _).mono ?_⟩
         rintro _ rfl
         refine q00.2 ⟨fun h=>(decide_eq_false fun hq=>not_t h ((hq.2 i (by omega)).2 j (by omega))).symm,fun h=>?_⟩
         have h3:=not_f h
         rw[wi64 (by omega) (by omega)]
         refine⟨⟨j+1,rfl,by omega,fun k hk=>?_⟩,by omega⟩
         rcases Nat.lt_or_ge k j with q | q
         . exact hch k q
         . obtain rfl:k=j:=by omega
           exact h3
       . have hd:¬ (j:Int)<(((stt (m.getD []) i).2.2.getD []).length:Int):=dec_f hd
         obtain rfl:j=((stt (m.getD []) i).2.2.getD []).length:=by omega
         rw[wi64 (by omega) (by omega)]
         refine⟨⟨i+1,rfl,by omega,fun k hk=>?_⟩,by omega⟩
         rcases Nat.lt_or_ge k i with q | q
         . exact hall k q
         . obtain rfl:k=i:=by omega
           exact⟨hh,hch⟩
     . intro k hk
       refine q00.2 ⟨fun h=>hk _ ⟨true,rfl,fun _=>no fun hq=>?_,fun h=>by cases h⟩,fun h=>?_⟩
       . have h:=dec_t h;have:=hq.1;omega
       have e1:=dec_f h
       refine q00.2 ⟨fun h=>hk _ ⟨true,rfl,fun _=>no fun hq=>?_,fun h=>by cases h⟩,fun h=>?_⟩
       . have h:=dec_t h;have:=hq.1;omega
       have e2:=dec_f h
       refine q00.2 ⟨fun h=>hk _ ⟨true,rfl,fun _=>no fun hq=>?_,fun h=>by cases h⟩,fun h=>?_⟩
       . have h:=dec_t h;have:=hq.2.1;omega
       have e3:=dec_f h
       refine q00.2 ⟨fun h=>hk _ ⟨true,rfl,fun _=>no fun hq=>?_,fun h=>by cases h⟩,fun h=>?_⟩
       . have h:=dec_t h;have:=hq.2.1;omega
       have e4:=dec_f h
       refine q00.2 ⟨fun h=>hk _ ⟨true,rfl,fun _=>no fun hq=>?_,fun h=>by cases h⟩,fun h=>?_⟩
       . have h:(((stt (m.getD []) i).2.2.getD []).length:Int)<1:=dec_t h
         have:=hq.2.2;omega
       have e5:¬ (((stt (m.getD []) i).2.2.getD []).length:Int)<1:=dec_f h
       refine hk _ ⟨_,rfl,fun h=>no fun hq=>?_,fun h=>⟨⟨by omega,by omega⟩,⟨by omega,by omega⟩,⟨by omega,?_⟩⟩⟩
       . have h:(8:Int)<(((stt (m.getD []) i).2.2.getD []).length:Int):=dec_t h
         have:=hq.2.2;omega
       . have h:¬ (8:Int)<(((stt (m.getD []) i).2.2.getD []).length:Int):=dec_f h
         omega
   . have hc:¬ (i:Int)<((m.getD []).length:Int):=dec_f hc
     obtain rfl:i=(m.getD []).length:=by omega
     exact (decide_eq_true ⟨⟨g1,g2⟩,hall⟩).symm
 . intro k hk
   refine q00.2 ⟨fun h=>hk _ ⟨true,rfl,fun _ hq=>?_,fun h=>by cases h⟩,fun h=>?_⟩
   . have h:((m.getD []).length:Int)<1:=dec_t h
     have:=hq.1;omega
   have e5:¬ ((m.getD []).length:Int)<1:=dec_f h
   refine hk _ ⟨_,rfl,fun h hq=>?_,fun h=>⟨by omega,?_⟩⟩
   . have h:(40:Int)<((m.getD []).length:Int):=dec_t h
     have:=hq.1;omega
   . have h:¬ (40:Int)<((m.getD []).length:Int):=dec_f h
     omega
theorem r_MValid (m:DMo):callV Pg q4J [⟨tMo,m⟩] .bool fun r=>r=decide (moOk m):=by
 refine qaU m ⟨_,rfl⟩ (joinR (fun p=>∃ b:Bool,p=(b,m)/\(b=true->¬ moOk m)/\(b=false->1<=(m.getD []).length/\(m.getD []).length<=40)) ?_ ?_)
 . rintro _ ⟨b,rfl,h1,h2⟩
   dsimp only
   refine q00.2 ⟨fun h=>(decide_eq_false (h1 h)).symm,fun h=>?_⟩
   obtain⟨g1,g2⟩:=h2 h
   refine loopE (fun p=>∃ i:Nat,p=(m,(((m.getD []).length:Int),((i:Int),m)))/\i<=(m.getD []).length/\(∀ j,j<i->stOk (m.getD []).length (stt (m.getD []) j))) (fun p=>(m.getD []).length - p.2.2.1.toNat)
    ⟨0,rfl,by omega,fun j h=>by omega⟩ ?_
   rintro _ ⟨i,rfl,hi,hall⟩
   dsimp only
   refine q00.2 ⟨fun hc=>?_,fun hc=>?_⟩
   . have hc:(i:Int)<((m.getD []).length:Int):=dec_t hc
     rw[q1c]
     have no:¬ stHead (stt (m.getD []) i)->¬ moOk m:=fun h hq=>h (hq.2 i (by omega)).1
     refine⟨⟨by omega,by omega⟩,joinR (fun p=>∃ b:Bool,p=(m,(((m.getD []).length:Int),((i:Int),(b,(m,stt (m.getD []) i)))))/\(b=true->¬ moOk m)/\(b=false->stHead (stt (m.getD []) i))) ?_ ?_⟩
     . rintro _ ⟨b,rfl,k1,k2⟩
       dsimp only
       refine q00.2 ⟨fun h=>(decide_eq_false (k1 h)).symm,fun h=>?_⟩
       have hh:=k2 h
       obtain⟨_,_,c1,c2⟩:=id hh
       refine loopE (fun p=>∃ j:Nat,p=(m,(((m.getD []).length:Int),((i:Int),((stt (m.getD []) i).2.2,((((stt (m.getD []) i).2.2.getD []).length:Int),((j:Int),m))))))/\j<=((stt (m.getD []) i).2.2.getD []).length/\(∀ k,k<j->chOk (m.getD []).length (ch ((stt (m.getD []) i).2.2.getD []) k)))
        (fun p=>((stt (m.getD []) i).2.2.getD []).length - p.2.2.2.2.2.1.toNat) ⟨0,rfl,by omega,fun j h=>by omega⟩ ?_
       rintro _ ⟨j,rfl,hj,hch⟩
       dsimp only
       refine q00.2 ⟨fun hd=>?_,fun hd=>?_⟩
       . have hd:(j:Int)<(((stt (m.getD []) i).2.2.getD []).length:Int):=dec_t hd
         rw[q1b]
         refine⟨⟨by omega,by omega⟩,(r_choice ((m.getD []).length:Int) _ (by omega)).mono ?_⟩
         rintro _ rfl
         refine q00.2 ⟨fun h=>(decide_eq_false fun hq=>not_t h ((hq.2 i (by omega)).2 j (by omega))).symm,fun h=>?_⟩
         have h3:=not_f h
         rw[wi64 (by omega) (by omega)]
         refine⟨⟨j+1,rfl,by omega,fun k hk=>?_⟩,by omega⟩
         rcases Nat.lt_or_ge k j with q | q
         . exact hch k q
         . obtain rfl:k=j:=by omega
           exact h3
       . have hd:¬ (j:Int)<(((stt (m.getD []) i).2.2.getD []).length:Int):=dec_f hd
         obtain rfl:j=((stt (m.getD []) i).2.2.getD []).length:=by omega
         rw[wi64 (by omega) (by omega)]
         refine⟨⟨i+1,rfl,by omega,fun k hk=>?_⟩,by omega⟩
         rcases Nat.lt_or_ge k i with q | q
         . exact hall k q
         . obtain rfl:k=i:=by omega
           exact⟨hh,hch⟩
     . intro k hk
       refine q00.2 ⟨fun h=>hk _ ⟨true,rfl,fun _=>no fun hq=>?_,fun h=>by cases h⟩,fun h=>?_⟩
       . have h:=dec_t h;have:=hq.1;omega
       have e1:=dec_f h
       refine q00.2 ⟨fun h=>hk _ ⟨true,rfl,fun _=>no fun hq=>?_,fun h=>by cases h⟩,fun h=>?_⟩
       . have h:=dec_t h;have:=hq.1;omega
       have e2:=dec_f h
       refine q00.2 ⟨fun h=>hk _ ⟨true,rfl,fun _=>no fun hq=>?_,fun h=>by cases h⟩,fun h=>?_⟩
       . have h:=dec_t h;have:=hq.2.1;omega
       have e3:=dec_f h
       refine q00.2 ⟨fun h=>hk _ ⟨true,rfl,fun _=>no fun hq=>?_,fun h=>by cases h⟩,fun h=>?_⟩
       . have h:=dec_t h;have:=hq.2.1;omega
       have e4:=dec_f h
       refine q00.2 ⟨fun h=>hk _ ⟨true,rfl,fun _=>no fun hq=>?_,fun h=>by cases h⟩,fun h=>?_⟩
       . have h:(((stt (m.getD []) i).2.2.getD []).length:Int)<1:=dec_t h
         have:=hq.2.2;omega
       have e5:¬ (((stt (m.getD []) i).2.2.getD []).length:Int)<1:=dec_f h
       refine hk _ ⟨_,rfl,fun h=>no fun hq=>?_,fun h=>⟨⟨by omega,by omega⟩,⟨by omega,by omega⟩,⟨by omega,?_⟩⟩⟩
       . have h:(8:Int)<(((stt (m.getD []) i).2.2.getD []).length:Int):=dec_t h
         have:=hq.2.2;omega
       . have h:¬ (8:Int)<(((stt (m.getD []) i).2.2.getD []).length:Int):=dec_f h
         omega
   . have hc:¬ (i:Int)<((m.getD []).length:Int):=dec_f hc
     obtain rfl:i=(m.getD []).length:=by omega
     exact (decide_eq_true ⟨⟨g1,g2⟩,hall⟩).symm
 . intro k hk
   refine q00.2 ⟨fun h=>hk _ ⟨true,rfl,fun _ hq=>?_,fun h=>by cases h⟩,fun h=>?_⟩
   . have h:((m.getD []).length:Int)<1:=dec_t h
     have:=hq.1;omega
   have e5:¬ ((m.getD []).length:Int)<1:=dec_f h
   refine hk _ ⟨_,rfl,fun h hq=>?_,fun h=>⟨by omega,?_⟩⟩
   . have h:(40:Int)<((m.getD []).length:Int):=dec_t h
     have:=hq.1;omega
   . have h:¬ (40:Int)<((m.getD []).length:Int):=dec_f h
     omega
end Go.Proofs.Pf.B
namespace Go.Proofs.Pf.B
open Go Go.VM
abbrev cntL (s:DSt):Int:=((s.2.2.getD []).length:Int)
end Go.Proofs.Pf.B
namespace Go.Proofs.Pf
open Go Go.VM
theorem num_den (q:Rat):q=(q.num:Rat) / ((q.den:Int):Rat):=by
 rw[<-Rat.divInt_eq_div,Rat.num_divInt_den]
def QD (D B:Nat) (q:Rat):Prop:=∃ n:Int,q*((D:Int):Rat)=((n:Int):Rat)/\n.natAbs<=B
theorem QD.mono {D B C:Nat} {q:Rat} (h:QD D B q) (hc:B<=C):QD D C q:=let ⟨n,h1,h2⟩:=h;⟨n,h1,Nat.le_trans h2 hc⟩
theorem QD.zero (D B:Nat):QD D B 0:=⟨0,by simp,by simp⟩
theorem QD.add {D B C:Nat} {q r:Rat} (h:QD D B q) (g:QD D C r):QD D (B+C) (q+r):=by
 obtain⟨n,h1,h2⟩:=h
 obtain⟨m,g1,g2⟩:=g
 refine⟨n+m,?_,by omega⟩
 rw[Rat.add_mul,h1,g1,Rat.intCast_add]
theorem QD.neg {D B:Nat} {q:Rat} (h:QD D B q):QD D B (-q):=by
 obtain⟨n,h1,h2⟩:=h
 refine⟨-n,?_,by omega⟩
 rw[Rat.neg_mul,h1,Rat.intCast_neg]
theorem QD.sub {D B C:Nat} {q r:Rat} (h:QD D B q) (g:QD D C r):QD D (B+C) (q - r):=by
 rw[Rat.sub_eq_add_neg];exact h.add g.neg
theorem QD.mul {D E B C:Nat} {q r:Rat} (h:QD D B q) (g:QD E C r):QD (D*E) (B*C) (q*r):=by
 obtain⟨n,h1,h2⟩:=h
 obtain⟨m,g1,g2⟩:=g
 refine⟨n*m,?_,by rw[Int.natAbs_mul];exact Nat.mul_le_mul h2 g2⟩
 have e:(((D*E:Nat):Int):Rat)=((D:Int):Rat)*((E:Int):Rat):=by rw[<-Rat.intCast_mul];congr 1
 rw[e,Rat.intCast_mul,<-h1,<-g1]
 grind
theorem QD.scale {D B:Nat} (E:Nat) {q:Rat} (h:QD D B q):QD (D*E) (B*E) q:=by
 have h1:=h.mul (E:=E) (C:=E) (r:=1) ⟨E,by rw[Rat.one_mul],by omega⟩
 rwa [Rat.mul_one] at h1
theorem QD.one (D:Nat):QD D D 1:=⟨D,by rw[Rat.one_mul],by omega⟩
theorem QD.int {D B:Nat} {q:Rat} (h:QD D B q):∃ n:Int,q.num*D=n*q.den/\n.natAbs<=B:=by
 obtain⟨n,h1,h2⟩:=h
 refine⟨n,?_,h2⟩
 have hd:((q.den:Int):Rat)≠0:=by
  intro e
  rw[<-Rat.intCast_zero,Rat.intCast_inj] at e
  have:=q.den_nz
  omega
 have hq:q=(q.num:Rat) / ((q.den:Int):Rat):=num_den q
 rw[hq] at h1
 have e:((q.num*D:Int):Rat)=((n*q.den:Int):Rat):=by
  rw[Rat.intCast_mul,Rat.intCast_mul,<-h1,Rat.div_def]
  rw[Rat.mul_assoc,Rat.mul_assoc,Rat.mul_comm (((q.den:Int):Rat)⁻¹),Rat.mul_assoc,Rat.mul_inv_cancel _ hd,Rat.mul_one]
 exact Rat.intCast_inj.1 e
theorem QD.div {D B:Nat} {q:Rat} (hD:0<D) (h:QD D B q):q.num.natAbs<=B/\q.den<=D:=by
 obtain⟨n,h1,h2⟩:=h.int
 have hc:Nat.Coprime q.num.natAbs q.den:=q.reduced
 have h3:q.num.natAbs*D=n.natAbs*q.den:=by
  have:=congrArg Int.natAbs h1
  simpa[Int.natAbs_mul] using this
 have hdvd:q.den ∣ D:=hc.symm.dvd_of_dvd_mul_left ⟨n.natAbs,by rw[h3,Nat.mul_comm]⟩
 refine⟨?_,Nat.le_of_dvd hD hdvd⟩
 obtain⟨m,rfl⟩:=hdvd
 have hm:0<m:=Nat.pos_of_mul_pos_left hD |> fun _=>by
  rcases Nat.eq_zero_or_pos m with e | e
  . subst e;simp at hD
  . exact e
 have h4:q.num.natAbs*m=n.natAbs:=by
  have hp:0<q.den:=q.den_pos
  refine Nat.eq_of_mul_eq_mul_right hp ?_
  rw[<-h3,Nat.mul_assoc,Nat.mul_comm m]
 have:q.num.natAbs<=q.num.natAbs*m:=Nat.le_mul_of_pos_right _ hm
 omega
theorem QD.common {K:Nat} (f:Nat->Rat):∀ n:Nat,(∀ i,i<n->(f i).num.natAbs<=K/\(f i).den<=K)->∃ D,0<D/\D<=K ^ n/\∀ i,i<n->QD D (K*D) (f i):=by
 intro n
 induction n with
 | zero=>intro _;exact⟨1,by omega,by simp,fun i hi=>absurd hi (by omega)⟩
 | succ n ih=>
  intro h
  obtain⟨D,d1,d2,d3⟩:=ih fun i hi=>h i (by omega)
  obtain⟨k1,k2⟩:=h n (by omega)
  have hp:0<(f n).den:=(f n).den_pos
  refine⟨D*(f n).den,Nat.mul_pos d1 hp,by rw[Nat.pow_succ];exact Nat.mul_le_mul d2 k2,fun i hi=>?_⟩
  rcases Nat.lt_or_ge i n with hlt | hge
  . have:=(d3 i hlt).scale (f n).den
    rwa [Nat.mul_assoc] at this
  . obtain rfl:i=n:=by omega
    have h0:QD (f i).den K (f i):=⟨(f i).num,by
     have hd:(((f i).den:Int):Rat)≠0:=by
      intro e
      rw[<-Rat.intCast_zero,Rat.intCast_inj] at e
      omega
     have hq:f i=((f i).num:Rat) / (((f i).den:Int):Rat):=num_den (f i)
     conv=>lhs;lhs;rw[hq]
     rw[Rat.div_def,Rat.mul_assoc,Rat.inv_mul_cancel _ hd,Rat.mul_one],k1⟩
    have:=h0.scale D
    rw[Nat.mul_comm (f i).den D] at this
    exact this.mono (by rw[<-Nat.mul_assoc];exact Nat.le_mul_of_pos_right _ hp)
theorem QD.fit {D B k:Nat} {q:Rat} (hD:0<D) (h:QD D B q) (h1:D<1073741824 ^ k) (h2:B<1073741824 ^ k):RFit k q/\Pf.B.RFit k q:=by
 obtain⟨g1,g2⟩:=h.div hD
 have hp:1073741824 ^ k<=4294967296 ^ k:=Nat.pow_le_pow_left (by decide) k
 have e1:((1073741824:Int) ^ k)=((1073741824 ^ k:Nat):Int):=by simp
 have e2:((4294967296:Int) ^ k)=((4294967296 ^ k:Nat):Int):=by simp
 have hd:=q.den_pos
 constructor
 . constructor
   . unfold Fit;rw[e2];omega
   . unfold Fit;rw[e2];omega
 . constructor
   . unfold Pf.B.Fit;rw[e1];omega
   . unfold Pf.B.Fit;rw[e1];omega
def sumQ (f:Nat->Rat):Nat->Rat
 | 0=>0
 | n+1=>sumQ f n+f n
theorem QD.sum {D B:Nat} {f:Nat->Rat}:∀ n,(∀ i,i<n->QD D B (f i))->QD D (n*B) (sumQ f n)
 | 0,_=>(QD.zero D 0).mono (by omega)
 | n+1,h=>by
  have:=(QD.sum n (fun i hi=>h i (by omega))).add (h n (by omega))
  rw[Nat.succ_mul];exact this
end Go.Proofs.Pf
namespace Go.Proofs.Pf
open Go Go.VM
theorem RV_r0:RV r0 0:=⟨⟨by decide,by decide,by decide⟩,.inr ⟨⟨by decide,by decide,by decide⟩,rfl⟩⟩
def RL (l:Option (List DR)) (f:Nat->Rat) (n:Nat):Prop:=(l.getD []).length=n/\∀ i,i<n->RV ((l.getD []).getD i r0) (f i)
theorem RL.set {l:Option (List DR)} {f g:Nat->Rat} {n i:Nat} {z:DR} (h:RL l f n) (hi:i<n) (hz:RV z (g i)) (hg:∀ j,j<n->j≠i->g j=f j):RL (setO l i z) g n:=by
 obtain⟨h1,h2⟩:=h
 cases l with
 | none=>simp at h1;omega
 | some l=>
  have h1:l.length=n:=h1
  have h2:∀ i,i<n->RV (l.getD i r0) (f i):=h2
  refine⟨by show (l.set i z).length=n;simpa using h1,fun j hj=>?_⟩
  show RV ((l.set i z).getD j r0) (g j)
  by_cases e:j=i
  . subst e
    rw[List.getD_eq_getElem?_getD,List.getElem?_set_self (by omega)];exact hz
  . rw[List.getD_eq_getElem?_getD,List.getElem?_set_ne (fun h=>e h.symm),<-List.getD_eq_getElem?_getD,hg j hj e]
    exact h2 j hj
theorem RL.zero (n:Nat):RL (some (repS (n:Int) r0)) (fun _=>0) n:=by
 refine⟨by show (List.replicate (n:Int).toNat r0).length=n;simp,fun i hi=>?_⟩
 show RV ((List.replicate (n:Int).toNat r0).getD i r0) 0
 rw[List.getD_eq_getElem?_getD,List.getElem?_replicate,if_pos (by simpa using hi)]
 exact RV_r0
theorem RL.congr {l:Option (List DR)} {f g:Nat->Rat} {n:Nat} (h:RL l f n) (hg:∀ j,j<n->g j=f j):RL l g n:=⟨h.1,fun i hi=>by rw[hg i hi];exact h.2 i hi⟩
theorem RL.nil (f:Nat->Rat):RL none f 0:=⟨rfl,fun i hi=>absurd hi (by omega)⟩
theorem RL.app {l:Option (List DR)} {f:Nat->Rat} {n:Nat} {z:DR} (h:RL l f n) (hz:RV z (f n)):RL (appL l [z]) f (n+1):=by
 obtain⟨h1,h2⟩:=h
 have e:(appL l [z]).getD []=l.getD [] ++ [z]:=by cases l<;>rfl
 refine⟨by rw[e,List.length_append,h1];rfl,fun i hi=>?_⟩
 rw[e]
 rcases Nat.lt_or_ge i n with hlt | hge
 . rw[List.getD_eq_getElem?_getD,List.getElem?_append_left (by omega),<-List.getD_eq_getElem?_getD];exact h2 i hlt
 . obtain rfl:i=n:=by omega
   rw[List.getD_eq_getElem?_getD,List.getElem?_append_right (by omega),h1,Nat.sub_self];exact hz
theorem RL.ex (f:Nat->Rat) (n:Nat):∃ r,RL r f n:=by
 refine⟨some (tab (fun i=>(RV_ex (f i)).choose) n),q07 _ _,fun i hi=>?_⟩
 show RV ((tab _ _).getD i r0) _
 rw[q0D _ _ _ _ hi]
 exact (RV_ex (f i)).choose_spec
end Go.Proofs.Pf
namespace Go.Proofs.Pf.B
open Go Go.VM
def RM (p:Option (List (Option (List DR)))) (P:Nat->Nat->Rat) (n:Nat):Prop:=(p.getD []).length=n/\∀ s,s<n->RL ((p.getD []).getD s none) (P s) n
def stepQ (P:Nat->Nat->Rat) (x:Nat->Rat) (a t:Nat):Rat:=sumQ (fun s=>x s*P s t) a
end Go.Proofs.Pf.B
namespace Go.Proofs.Pf.B
open Go Go.VM
abbrev nth2 (l:List (Int×Int)) (i:Nat):Int×Int:=l.getD i (0,0)
end Go.Proofs.Pf.B
namespace Go.Proofs.Pf.B
open Go Go.VM
def bs_ (m:DMo) (s:Nat):List DBr:=(ch ((stt (m.getD []) s).2.2.getD []) 0).2.getD []
def brQ (l:List DBr):Nat->Nat->Rat
 | 0,_=>0
 | j+1,t=>if (br l j).1=(t:Int) then numQ (br l j).2 else brQ l j t
def rowQ (m:DMo) (s t:Nat):Rat:=brQ (bs_ m s) (bs_ m s).length t
theorem moOk.bs {m:DMo} (h:moOk m) {s:Nat} (hs:s<(m.getD []).length):(bs_ m s).length<=8/\(1<=((stt (m.getD []) s).2.2.getD []).length)/\∀ k,k<(bs_ m s).length->0<=(br (bs_ m s) k).1/\(br (bs_ m s) k).1<((m.getD []).length:Int)/\NumOk (br (bs_ m s) k).2:=by
 obtain⟨h1,h2⟩:=h.2 s hs
 have h3:=h2 0 (by have:=h1.2.2.1;omega)
 refine⟨h3.2.1.2,h1.2.2.1,fun k hk=>?_⟩
 have h4:=h3.2.2.1 k hk
 have h5:-1<=preTo (bs_ m s) k:=q1Z (i:=k) (fun j hj=>h3.2.2.1 j (by have:k<(bs_ m s).length:=hk;exact Nat.lt_trans hj this))
 have h6:preTo (bs_ m s) k<(br (bs_ m s) k).1:=h4.1
 exact⟨by omega,h4.2.1,h4.2.2.1⟩
theorem RM.ex (P:Nat->Nat->Rat) (n:Nat):∃ r,RM r P n:=by
 refine⟨some (tab (fun i=>(RL.ex (P i) n).choose) n),q07 _ _,fun i hi=>?_⟩
 show RL ((tab _ _).getD i none) _ _
 rw[q0D _ _ _ _ hi]
 exact (RL.ex (P i) n).choose_spec
end Go.Proofs.Pf.B
namespace Go.Proofs.Pf.B
open Go Go.VM
abbrev KK:Nat:=1152921504606846976
theorem kk_pow (e:Nat):KK ^ e=1073741824 ^ (2*e):=by rw[Nat.pow_mul]
theorem kk_lt {a e:Nat} (h:a<=KK ^ e):a<1073741824 ^ (2*e+1):=by
 rw[kk_pow] at h
 have h2:0<1073741824 ^ (2*e):=Nat.pow_pos (by decide)
 rw[Nat.pow_succ]
 generalize 1073741824 ^ (2*e)=x at *
 omega
theorem kk_le {a b:Nat} (h:a<=b):KK ^ a<=KK ^ b:=Nat.pow_le_pow_right (by decide) h
theorem kk_mul {a b x y:Nat} (h:x<=KK ^ a) (g:y<=KK ^ b):x*y<=KK ^ (a+b):=by rw[Nat.pow_add];exact Nat.mul_le_mul h g
def FB (n e:Nat) (x:Nat->Rat):Prop:=∃ D,0<D/\D<=KK ^ e/\∀ s,s<n->QD D (KK ^ e) (x s)
theorem FB.fit {n e:Nat} {x:Nat->Rat} (h:FB n e x) {s:Nat} (hs:s<n):Pf.RFit (2*e+1) (x s)/\RFit (2*e+1) (x s):=by
 obtain⟨D,h1,h2,h3⟩:=h
 exact (h3 s hs).fit h1 (kk_lt h2) (kk_lt (Nat.le_refl _))
theorem FB.mono {n e e':Nat} {x:Nat->Rat} (h:FB n e x) (he:e<=e'):FB n e' x:=by
 obtain⟨D,h1,h2,h3⟩:=h
 exact⟨D,h1,Nat.le_trans h2 (kk_le he),fun s hs=>(h3 s hs).mono (kk_le he)⟩
theorem FB.pick {n e:Nat} {x:Nat->Rat} (h:FB n e x) (c:Nat->Bool):FB n e fun s=>if c s=true then x s else 0:=by
 obtain⟨D,h1,h2,h3⟩:=h
 refine⟨D,h1,h2,fun s hs=>?_⟩
 dsimp only
 split
 . exact h3 s hs
 . exact QD.zero _ _
theorem FB.congr {n e:Nat} {x y:Nat->Rat} (h:FB n e x) (g:∀ s,s<n->y s=x s):FB n e y:=by
 obtain⟨D,h1,h2,h3⟩:=h
 exact⟨D,h1,h2,fun s hs=>by rw[g s hs];exact h3 s hs⟩
theorem FB.of {n:Nat} {x:Nat->Rat} (h:∀ s,s<n->(x s).num.natAbs<=KK/\(x s).den<=KK):FB n (n+1) x:=by
 obtain⟨D,h1,h2,h3⟩:=QD.common x n h
 exact⟨D,h1,Nat.le_trans h2 (kk_le (by omega)),fun s hs=>(h3 s hs).mono (by rw[Nat.pow_succ,Nat.mul_comm];exact Nat.mul_le_mul_right _ h2)⟩
def MB (n e:Nat) (P:Nat->Nat->Rat):Prop:=∃ D,0<D/\D<=KK ^ e/\∀ s t,s<n->t<n->QD D (KK ^ e) (P s t)
theorem MB.of {n:Nat} {P:Nat->Nat->Rat} (h:∀ s t,s<n->t<n->(P s t).num.natAbs<=KK/\(P s t).den<=KK):MB n (n*n+1) P:=by
 rcases Nat.eq_zero_or_pos n with h0 | h0
 . subst h0;exact⟨1,by omega,by decide,fun s t hs=>absurd hs (by omega)⟩
 obtain⟨D,h1,h2,h3⟩:=FB.of (n:=n*n) (x:=fun i=>P (i / n) (i % n)) fun i hi=>h _ _ (Nat.div_lt_of_lt_mul hi) (Nat.mod_lt _ h0)
 refine⟨D,h1,h2,fun s t hs ht=>?_⟩
 have h4:=h3 (t+n*s) (by
  have:n*s+n<=n*n:=by rw[<-Nat.mul_succ];exact Nat.mul_le_mul_left _ hs
  omega)
 dsimp only at h4
 rw[Nat.add_mul_div_left _ _ h0,Nat.div_eq_of_lt ht,Nat.zero_add,Nat.add_mul_mod_self_left,Nat.mod_eq_of_lt ht] at h4
 exact h4
theorem MB.fit {n e:Nat} {P:Nat->Nat->Rat} (h:MB n e P) {s t:Nat} (hs:s<n) (ht:t<n):Pf.RFit (2*e+1) (P s t)/\RFit (2*e+1) (P s t):=by
 obtain⟨D,h1,h2,h3⟩:=h
 exact (h3 s t hs ht).fit h1 (kk_lt h2) (kk_lt (Nat.le_refl _))
theorem FB.step {n a b c:Nat} {x:Nat->Rat} {P:Nat->Nat->Rat} (h:FB n a x) (g:MB n b P) (hn:n<=KK) (hc:c<=n):FB n (a+b+1) (stepQ P x c):=by
 obtain⟨D,h1,h2,h3⟩:=h
 obtain⟨E,g1,g2,g3⟩:=g
 refine⟨D*E,Nat.mul_pos h1 g1,Nat.le_trans (kk_mul h2 g2) (kk_le (by omega)),fun t ht=>?_⟩
 refine (QD.sum c fun s hs=>(h3 s (by omega)).mul (g3 s t (by omega) ht)).mono ?_
 rw[Nat.pow_succ,Nat.mul_comm,Nat.pow_add]
 exact Nat.mul_le_mul_left _ (by omega)
end Go.Proofs.Pf.B
