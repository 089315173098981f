/- Typed pure data, a condition on code that says what a call gives, what the code of each function comes to, and what each function gives. -/
import Derived.Scope
import Derived.Lib.LaidTab
import Derived.Lib.ItoaNum
import Derived.Laws.CopyRow
import Derived.Laws.AppendOwn
import Derived.Laws.MakeOwn
import Derived.Laws.BytesString
import Derived.ChangeKeysEq
import Derived.Laws.StructEq
import Derived.Laws.Small
import Derived.Tactics
import Derived.Calls
import Derived.Below
import Derived.KernelRfl
import Derived.Laws.Cells
import Derived.Test.YtfifpjkegdkdpaaGreatProg
import Derived.Test.YtfifpjkegdkdpaaGreatA6
import Derived.Test.YtfifpjkegdkdpaaGreatA9
import Derived.Test.YtfifpjkegdkdpaaGreatA10
set_option linter.unusedVariables false
set_option linter.unusedSimpArgs false
set_option linter.unnecessarySimpa false
namespace Go.Proofs.Pf
open Go Go.VM
variable {x y:(Int×Option (List Int))×(Int×Option (List Int))} {q r:Rat} {k:Nat}
theorem q6q {a:Int×Option (List Int)} {n:Int} (h:IV a n):RV (a,((0:Int),none)) (Rat.divInt n 1):=by
 obtain⟨h1,h2⟩:=qal n
 refine⟨by rw[h1];exact h,.inr ⟨⟨rfl,by decide,by decide⟩,by rw[h2];rfl⟩⟩
theorem q1S (hlong:LongS) (hx:RV x q) (hy:RV y r) (fx:RFit k q) (fy:RFit k r) (hk:k+k<=1073741824):callV Pg q0Y [⟨tER,x⟩,⟨tER,y⟩] tER fun z=>RV z (q*r):=by
 have hq:=q.den_nz
 have hr:=r.den_nz
 refine qbp x y (RV_ex _) (joinR (fun p=>∃ b:Bool,p=(b,x,y,((0:Int),none),((0:Int),none))/\(b=true->q.den=1/\r.den=1)) ?_ ?_)
 . rintro _ ⟨b,rfl,hb⟩
   have hm:=s_Mul hx.1 hy.1 fx.1 fy.1 (by omega) (by omega)
   refine q01.2 ⟨fun h=>?_,fun _=>?_⟩
   . obtain⟨h1,h2⟩:=hb h
     refine hm.mono fun p hp=>?_
     rw[rat_mul,h1,h2]
     exact q6q hp
   . refine hm.mono fun p1 h1=>(s_Low hx).mono fun p2 h2=>(s_Low hy).mono fun p3 h3=>(s_Mul h2 h3 fx.2 fy.2 (by omega) (by omega)).mono fun p4 h4=>?_
     refine (q4e hlong h1 h4 ?_ (fx.1.mul fy.1 (Nat.le_refl _)) (fx.2.mul fy.2 (Nat.le_refl _)) hk).mono fun p5 h5=>?_
     . exact Int.mul_ne_zero (by omega) (by omega)
     . rw[rat_mul];exact h5
 . intro k' hk'
   refine (q4i hx).mono fun b hb=>q01.2 ⟨fun h=>?_,fun _=>hk' _ ⟨false,rfl,fun h=>by simp at h⟩⟩
   refine (q4i hy).mono fun c hc=>hk' _ ⟨c,rfl,fun h2=>⟨hb h,hc h2⟩⟩
theorem q1r (hlong:LongS) (hx:RV x q) (hy:RV y r) (fx:RFit k q) (fy:RFit k r) (hk:k+k+1<=1073741824):callV Pg q0N [⟨tER,x⟩,⟨tER,y⟩] tER fun z=>RV z (q+r):=by
 have hq:=q.den_nz
 have hr:=r.den_nz
 refine qbl x y (RV_ex _) (joinR (fun p=>∃ b:Bool,p=(b,x,y,((0:Int),none),((0:Int),none))/\(b=true->q.den=1/\r.den=1)) ?_ ?_)
 . rintro _ ⟨b,rfl,hb⟩
   refine q01.2 ⟨fun h=>?_,fun _=>?_⟩
   . obtain⟨h1,h2⟩:=hb h
     refine (s_Add hx.1 hy.1 fx.1 fy.1 (by omega)).mono fun p hp=>?_
     rw[q5P,h1,h2]
     have e:q.num*((1:Nat):Int)+r.num*((1:Nat):Int)=q.num+r.num:=by omega
     rw[e]
     exact q6q hp
   . refine (s_Low hy).mono fun p1 h1=>(s_Mul hx.1 h1 fx.1 fy.2 (by omega) (by omega)).mono fun p2 h2=>?_
     refine (s_Low hx).mono fun p3 h3=>(s_Mul hy.1 h3 fy.1 fx.2 (by omega) (by omega)).mono fun p4 h4=>?_
     refine (s_Add h2 h4 (fx.1.mul fy.2 (Nat.le_refl _)) (fy.1.mul fx.2 (Nat.le_refl _)) (by omega)).mono fun p5 h5=>?_
     refine (s_Low hx).mono fun p6 h6=>(s_Low hy).mono fun p7 h7=>(s_Mul h6 h7 fx.2 fy.2 (by omega) (by omega)).mono fun p8 h8=>?_
     refine (q4e hlong h5 h8 ?_ ((fx.1.mul fy.2 (Nat.le_refl _)).add (fy.1.mul fx.2 (Nat.le_refl _)) (Nat.lt_succ_self _)) ((fx.2.mul fy.2 (Nat.le_refl _)).mono (Nat.le_succ _)) hk).mono fun p9 h9=>?_
     . exact Int.mul_ne_zero (by omega) (by omega)
     . rw[q5P];exact h9
 . intro k' hk'
   refine (q4i hx).mono fun b hb=>q01.2 ⟨fun h=>?_,fun _=>hk' _ ⟨false,rfl,fun h=>by simp at h⟩⟩
   refine (q4i hy).mono fun c hc=>hk' _ ⟨c,rfl,fun h2=>⟨hb h,hc h2⟩⟩
theorem s_RSub (hlong:LongS) (hx:RV x q) (hy:RV y r) (fx:RFit k q) (fy:RFit k r) (hk:k+k+1<=1073741824):callV Pg q3K [⟨tER,x⟩,⟨tER,y⟩] tER fun z=>RV z (q - r):=by
 refine qbs x y (RV_ex _) ((s_RNeg hy).mono fun p h=>?_)
 rw[Rat.sub_eq_add_neg]
 exact (q1r hlong hx h fx ⟨fy.1.neg,fy.2⟩ hk).mono fun z hz=>hz
theorem s_RDiv (hlong:LongS) (hx:RV x q) (hy:RV y r) (fx:RFit k q) (fy:RFit k r) (hk:k+k<=1073741824) (h0:r≠0):callV Pg q3J [⟨tER,x⟩,⟨tER,y⟩] tER fun z=>RV z (q / r):=by
 have hq:=q.den_nz
 refine qbn x y (RV_ex _) ((s_Low hy).mono fun p0 h1=>(s_Mul hx.1 h1 fx.1 fy.2 (by omega) (by omega)).mono fun p1 h2=>?_)
 refine (s_Low hx).mono fun p2 h3=>(s_Mul h3 hy.1 fx.2 fy.1 (by omega) (by omega)).mono fun p3 h4=>?_
 refine (q4e hlong h2 h4 ?_ (fx.1.mul fy.2 (Nat.le_refl _)) (fx.2.mul fy.1 (Nat.le_refl _)) hk).mono fun p4 h5=>?_
 . exact Int.mul_ne_zero (by omega) (fun e=>h0 (Rat.num_eq_zero.1 e))
 . rw[rat_div];exact h5
end Go.Proofs.Pf
namespace Go.Proofs.Pf
open Go Go.VM
def NumOk (a:Int×Int):Prop:=1<=a.2/\a.2<=1152921504606846976/\a.1<=1152921504606846976 /\ -1152921504606846976<=a.1/\Int.gcd a.1 a.2=1
instance (a:Int×Int):Decidable (NumOk a):=by unfold NumOk;infer_instance
def numQ (a:Int×Int):Rat:=Rat.divInt a.1 a.2
theorem NumOk.q {a:Int×Int} (h:NumOk a):(numQ a).num=a.1/\((numQ a).den:Int)=a.2:=by
 obtain⟨h1,h2,h3,h4,h5⟩:=h
 have e:sgn a.2=1:=if_pos (by omega)
 rw[numQ,q5R _ _ (by omega),q5Q _ _ (by omega),e,h5]
 simp
def outQ (q:Rat):(Int×Int)×Int×Unit:=if q.num<=1152921504606846976 /\ -1152921504606846976<=q.num/\(q.den:Int)<=1152921504606846976 then ((q.num,(q.den:Int)),0,()) else ((0,0),3,())
theorem s_Out {x:(Int×Option (List Int))×(Int×Option (List Int))} {q:Rat} (hx:RV x q):callV Pg q2O [⟨tER,x⟩] (.tup (.pair tNum (.pair tI .unit))) fun r=>r=outQ q:=by
 refine w_num_Out x ⟨_,rfl⟩ ((s_Top hx).mono fun p0 h0=>(s_Int h0 (by decide) (by decide)).mono ?_)
 rintro _ rfl
 refine (s_Low hx).mono fun p2 h2=>(s_Int h2 (by decide) (by decide)).mono ?_
 rintro _ rfl
 have hd:=q.den_nz
 have e1:(smallI q.num 1152921504606846976).2.1=decide (q.num<=1152921504606846976 /\ -1152921504606846976<=q.num):=by unfold smallI;split<;>simp_all
 have e2:(smallI (q.den:Int) 1152921504606846976).2.1=decide ((q.den:Int)<=1152921504606846976):=by
  unfold smallI;split
  . rename_i h;simp[h.1]
  . rename_i h;simp;omega
 have e3:(q.num<=1152921504606846976 /\ -1152921504606846976<=q.num)->(smallI q.num 1152921504606846976).1=q.num:=by intro h;rw[smallI,if_pos h]
 have e4:((q.den:Int)<=1152921504606846976)->(smallI (q.den:Int) 1152921504606846976).1=(q.den:Int):=by intro h;rw[smallI,if_pos ⟨h,by omega⟩]
 refine joinR (fun p=>∃ b:Bool,p=((smallI q.num 1152921504606846976).1,(smallI (q.den:Int) 1152921504606846976).1,b,(0:Int),(0:Int))/\(b=true↔¬ (q.num<=1152921504606846976 /\ -1152921504606846976<=q.num/\(q.den:Int)<=1152921504606846976))) ?_ ?_
 . rintro _ ⟨b,rfl,hb⟩
   refine q01.2 ⟨fun h=>?_,fun h=>?_⟩
   . rw[outQ,if_neg (hb.1 h)]
   . have h3:q.num<=1152921504606846976 /\ -1152921504606846976<=q.num/\(q.den:Int)<=1152921504606846976:=by
      refine Classical.byContradiction fun hn=>?_
      have:=hb.2 hn
      (try dsimp only at h)
      rw[h] at this;simp at this
     rw[outQ,if_pos h3]
     (try dsimp only)
     rw[e3 ⟨h3.1,h3.2.1⟩,e4 h3.2.2]
 . intro k hk
   rw[e1]
   refine q01.2 ⟨fun h=>hk _ ⟨true,rfl,?_⟩,fun h=>hk _ ⟨_,rfl,?_⟩⟩
   . have h:=not_t h
     simp only[true_iff]
     exact fun h2=>h ⟨h2.1,h2.2.1⟩
   . have h:=not_f h
     rw[e2]
     simp only[notB,Bool.not_eq_true',decide_eq_false_iff_not]
     constructor
     . exact fun h1 h2=>h1 h2.2.2
     . exact fun h1 h2=>h1 ⟨h.1,h.2,h2⟩
theorem fit_i64 {n:Int} (h1:-9223372036854775808<=n) (h2:n<9223372036854775808):Fit 2 n:=by
 unfold Fit
 rw[show (4294967296:Int) ^ 2=18446744073709551616 from rfl]
 omega
theorem q64 (hlong:LongS) (a:Int×Int):callV Pg q2P [⟨tNum,a⟩] .bool fun r=>r=decide (NumOk a):=by
 refine qc8 a ⟨_,rfl⟩ (joinR (fun p=>∃ b:Bool,p=(b,a)/\(b=true->¬ NumOk a)/\(b=false->1<=a.2/\a.2<=1152921504606846976/\a.1<=1152921504606846976 /\ -1152921504606846976<=a.1)) ?_ ?_)
 . rintro _ ⟨b,rfl,h1,h2⟩
   refine q01.2 ⟨fun h=>?_,fun h=>?_⟩
   . exact (decide_eq_false (h1 h)).symm
   . obtain⟨q1,q2,q3,q4⟩:=h2 h
     refine (s_Of (n:=a.1) (by omega) (by omega)).mono fun p1 e1=>(s_Of (n:=a.2) (by omega) (by omega)).mono fun p2 e2=>?_
     refine (s_Gcd hlong e1 e2 (fit_i64 (by omega) (by omega)) (fit_i64 (by omega) (by omega)) (by omega)).mono fun p3 e3=>(s_Int e3 (by decide) (by decide)).mono ?_
     rintro _ rfl
     refine decide_eq_decide.2 ?_
     unfold smallI NumOk
     split
     . constructor
       . intro h;have h:((Int.gcd a.1 a.2:Nat):Int)=1:=h;exact⟨q1,q2,q3,q4,by omega⟩
       . rintro⟨_,_,_,_,h⟩;show ((Int.gcd a.1 a.2:Nat):Int)=1;omega
     . rename_i hn
       constructor
       . intro h;simp at h
       . rintro⟨_,_,_,_,h⟩;exact absurd ⟨by omega,by omega⟩ hn
 . intro k hk
   refine q01.2 ⟨fun h=>hk _ ⟨true,rfl,fun _ hN=>?_,fun h=>by simp at h⟩,fun h=>q01.2 ⟨fun h2=>hk _ ⟨true,rfl,fun _ hN=>?_,fun h=>by simp at h⟩,fun h2=>q01.2 ⟨fun h3=>hk _ ⟨true,rfl,fun _ hN=>?_,fun h=>by simp at h⟩,fun h3=>hk _ ⟨_,rfl,fun h4 hN=>?_,fun h4=>?_⟩⟩⟩⟩
   . have h:a.2<1:=dec_t h
     have:=hN.1;omega
   . have h2:1152921504606846976<a.2:=dec_t h2
     have:=hN.2.1;omega
   . have h3:1152921504606846976<a.1:=dec_t h3
     have:=hN.2.2.1;omega
   . have h4:a.1 < -1152921504606846976:=dec_t h4
     have:=hN.2.2.2.1;omega
   . have h:¬ a.2<1:=dec_f h
     have h2:¬ 1152921504606846976<a.2:=dec_f h2
     have h3:¬ 1152921504606846976<a.1:=dec_f h3
     have h4:¬ a.1 < -1152921504606846976:=dec_f h4
     omega
theorem s_Rat (hlong:LongS) {a:Int×Int} (h:NumOk a):callV Pg q28 [⟨tNum,a⟩] tER fun r=>RV r (numQ a):=by
 obtain⟨q1,q2,q3,q4,_⟩:=h
 refine w_num_Rat a (RV_ex _) ((s_Of (n:=a.1) (by omega) (by omega)).mono fun p1 e1=>(s_Of (n:=a.2) (by omega) (by omega)).mono fun p2 e2=>?_)
 exact (q4e hlong e1 e2 (by omega) (fit_i64 (by omega) (by omega)) (fit_i64 (by omega) (by omega)) (by omega)).mono fun p h=>h
theorem NumOk.fit {a:Int×Int} (h:NumOk a):RFit 2 (numQ a):=by
 obtain⟨e1,e2⟩:=h.q
 obtain⟨q1,q2,q3,q4,_⟩:=h
 exact⟨by rw[e1];exact fit_i64 (by omega) (by omega),by rw[e2];exact fit_i64 (by omega) (by omega)⟩
end Go.Proofs.Pf
namespace Go.Proofs.Pf
open Go Go.VM
def makeQ (n m:Int):(Int×Int)×Int×Unit:=if m=0 then ((0,0),6,()) else outQ (Rat.divInt n m)
end Go.Proofs.Pf
namespace Go.Proofs.Pf
open Go Go.VM
theorem eqNum (x y:Int×Int):andB (decide (x.1=y.1)) (andB (decide (x.2=y.2)) true)=decide (x=y):=by
 obtain⟨a,b⟩:=x
 obtain⟨c,d⟩:=y
 by_cases h1:a=c<;>by_cases h2:b=d<;>simp[andB,h1,h2]
end Go.Proofs.Pf
namespace Go.Proofs.Pf.B
open Go Go.VM
def RRV (x:(Int×Bool×Option (List Int))×(Int×Bool×Option (List Int))) (q:Rat):Prop:=RIV x.1 q.num/\RIV x.2 (q.den:Int)
theorem RRV_ex (q:Rat):∃ r,RRV r q:=by
 obtain⟨a,ha⟩:=RIV_ex q.num
 obtain⟨b,hb⟩:=RIV_ex (q.den:Int)
 exact⟨(a,b),ha,hb⟩
def RFit (k:Nat) (q:Rat):Prop:=Fit k q.num/\Fit k (q.den:Int)
theorem RFit.mono {k j:Nat} {q:Rat} (h:RFit k q) (hj:k<=j):RFit j q:=⟨h.1.mono hj,h.2.mono hj⟩
theorem fit_i64 {n:Int} (h1:-9223372036854775808<=n) (h2:n<9223372036854775808):Fit 3 n:=by
 unfold Fit
 rw[show (1073741824:Int) ^ 3=1237940039285380274899124224 from rfl]
 omega
variable {x y:(Int×Bool×Option (List Int))×(Int×Bool×Option (List Int))} {q r:Rat} {k:Nat}
end Go.Proofs.Pf.B
namespace Go.Proofs.Pf.B
open Go Go.VM
theorem q3i {x y:(Int×Option (List Int))×(Int×Option (List Int))} {q r:Rat} {k:Nat} (hx:RV x q) (hy:RV y r) (fx:Pf.RFit k q) (fy:Pf.RFit k r) (hk:k+k+1<=1073741824):callV Pg q1B [⟨tER,x⟩,⟨tER,y⟩] tI fun z=>z=sgn (q - r).num:=
 qbm x y ⟨_,rfl⟩ ((s_RSub longS hx hy fx fy hk).mono fun _ h=>q0x h)
end Go.Proofs.Pf.B
namespace Go.Proofs.Pf
open Go Go.VM
theorem q5F (q:Rat):q=(q.num:Rat) / ((q.den:Int):Rat):=by
 rw[<-Rat.divInt_eq_div,Rat.num_divInt_den]
def QD (D B:Nat) (q:Rat):Prop:=∃ n:Int,q*((D:Int):Rat)=((n:Int):Rat)/\n.natAbs<=B
theorem QD.mono {D B C:Nat} {q:Rat} (h:QD D B q) (hc:B<=C):QD D C q:=let ⟨n,h1,h2⟩:=h;⟨n,h1,Nat.le_trans h2 hc⟩
theorem QD.zero (D B:Nat):QD D B 0:=⟨0,by simp,by simp⟩
theorem QD.add {D B C:Nat} {q r:Rat} (h:QD D B q) (g:QD D C r):QD D (B+C) (q+r):=by
 obtain⟨n,h1,h2⟩:=h
 obtain⟨m,g1,g2⟩:=g
 refine⟨n+m,?_,by omega⟩
 rw[Rat.add_mul,h1,g1,Rat.intCast_add]
theorem QD.neg {D B:Nat} {q:Rat} (h:QD D B q):QD D B (-q):=by
 obtain⟨n,h1,h2⟩:=h
 refine⟨-n,?_,by omega⟩
 rw[Rat.neg_mul,h1,Rat.intCast_neg]
theorem QD.sub {D B C:Nat} {q r:Rat} (h:QD D B q) (g:QD D C r):QD D (B+C) (q - r):=by
 rw[Rat.sub_eq_add_neg];exact h.add g.neg
theorem QD.mul {D E B C:Nat} {q r:Rat} (h:QD D B q) (g:QD E C r):QD (D*E) (B*C) (q*r):=by
 obtain⟨n,h1,h2⟩:=h
 obtain⟨m,g1,g2⟩:=g
 refine⟨n*m,?_,by rw[Int.natAbs_mul];exact Nat.mul_le_mul h2 g2⟩
 have e:(((D*E:Nat):Int):Rat)=((D:Int):Rat)*((E:Int):Rat):=by rw[<-Rat.intCast_mul];congr 1
 rw[e,Rat.intCast_mul,<-h1,<-g1]
 grind
theorem QD.scale {D B:Nat} (E:Nat) {q:Rat} (h:QD D B q):QD (D*E) (B*E) q:=by
 have h1:=h.mul (E:=E) (C:=E) (r:=1) ⟨E,by rw[Rat.one_mul],by omega⟩
 rwa [Rat.mul_one] at h1
theorem QD.one (D:Nat):QD D D 1:=⟨D,by rw[Rat.one_mul],by omega⟩
theorem QD.int {D B:Nat} {q:Rat} (h:QD D B q):∃ n:Int,q.num*D=n*q.den/\n.natAbs<=B:=by
 obtain⟨n,h1,h2⟩:=h
 refine⟨n,?_,h2⟩
 have hd:((q.den:Int):Rat)≠0:=by
  intro e
  rw[<-Rat.intCast_zero,Rat.intCast_inj] at e
  have:=q.den_nz
  omega
 have hq:q=(q.num:Rat) / ((q.den:Int):Rat):=q5F q
 rw[hq] at h1
 have e:((q.num*D:Int):Rat)=((n*q.den:Int):Rat):=by
  rw[Rat.intCast_mul,Rat.intCast_mul,<-h1,Rat.div_def]
  rw[Rat.mul_assoc,Rat.mul_assoc,Rat.mul_comm (((q.den:Int):Rat)⁻¹),Rat.mul_assoc,Rat.mul_inv_cancel _ hd,Rat.mul_one]
 exact Rat.intCast_inj.1 e
theorem QD.div {D B:Nat} {q:Rat} (hD:0<D) (h:QD D B q):q.num.natAbs<=B/\q.den<=D:=by
 obtain⟨n,h1,h2⟩:=h.int
 have hc:Nat.Coprime q.num.natAbs q.den:=q.reduced
 have h3:q.num.natAbs*D=n.natAbs*q.den:=by
  have:=congrArg Int.natAbs h1
  simpa[Int.natAbs_mul] using this
 have hdvd:q.den ∣ D:=hc.symm.dvd_of_dvd_mul_left ⟨n.natAbs,by rw[h3,Nat.mul_comm]⟩
 refine⟨?_,Nat.le_of_dvd hD hdvd⟩
 obtain⟨m,rfl⟩:=hdvd
 have hm:0<m:=Nat.pos_of_mul_pos_left hD |> fun _=>by
  rcases Nat.eq_zero_or_pos m with e | e
  . subst e;simp at hD
  . exact e
 have h4:q.num.natAbs*m=n.natAbs:=by
  have hp:0<q.den:=q.den_pos
  refine Nat.eq_of_mul_eq_mul_right hp ?_
  rw[<-h3,Nat.mul_assoc,Nat.mul_comm m]
 have:q.num.natAbs<=q.num.natAbs*m:=Nat.le_mul_of_pos_right _ hm
 omega
theorem QD.common {K:Nat} (f:Nat->Rat):∀ n:Nat,(∀ i,i<n->(f i).num.natAbs<=K/\(f i).den<=K)->∃ D,0<D/\D<=K ^ n/\∀ i,i<n->QD D (K*D) (f i):=by
 intro n
 induction n with
 | zero=>intro _;exact⟨1,by omega,by simp,fun i hi=>absurd hi (by omega)⟩
 | succ n ih=>
  intro h
  obtain⟨D,d1,d2,d3⟩:=ih fun i hi=>h i (by omega)
  obtain⟨k1,k2⟩:=h n (by omega)
  have hp:0<(f n).den:=(f n).den_pos
  refine⟨D*(f n).den,Nat.mul_pos d1 hp,by rw[Nat.pow_succ];exact Nat.mul_le_mul d2 k2,fun i hi=>?_⟩
  rcases Nat.lt_or_ge i n with hlt | hge
  . have:=(d3 i hlt).scale (f n).den
    rwa [Nat.mul_assoc] at this
  . obtain rfl:i=n:=by omega
    have h0:QD (f i).den K (f i):=⟨(f i).num,by
     have hd:(((f i).den:Int):Rat)≠0:=by
      intro e
      rw[<-Rat.intCast_zero,Rat.intCast_inj] at e
      omega
     have hq:f i=((f i).num:Rat) / (((f i).den:Int):Rat):=q5F (f i)
     conv=>lhs;lhs;rw[hq]
     rw[Rat.div_def,Rat.mul_assoc,Rat.inv_mul_cancel _ hd,Rat.mul_one],k1⟩
    have:=h0.scale D
    rw[Nat.mul_comm (f i).den D] at this
    exact this.mono (by rw[<-Nat.mul_assoc];exact Nat.le_mul_of_pos_right _ hp)
theorem QD.fit {D B k:Nat} {q:Rat} (hD:0<D) (h:QD D B q) (h1:D<1073741824 ^ k) (h2:B<1073741824 ^ k):RFit k q/\Pf.B.RFit k q:=by
 obtain⟨g1,g2⟩:=h.div hD
 have hp:1073741824 ^ k<=4294967296 ^ k:=Nat.pow_le_pow_left (by decide) k
 have e1:((1073741824:Int) ^ k)=((1073741824 ^ k:Nat):Int):=by simp
 have e2:((4294967296:Int) ^ k)=((4294967296 ^ k:Nat):Int):=by simp
 have hd:=q.den_pos
 constructor
 . constructor
   . unfold Fit;rw[e2];omega
   . unfold Fit;rw[e2];omega
 . constructor
   . unfold Pf.B.Fit;rw[e1];omega
   . unfold Pf.B.Fit;rw[e1];omega
def sumQ (f:Nat->Rat):Nat->Rat
 | 0=>0
 | n+1=>sumQ f n+f n
theorem q04 {f g:Nat->Rat}:∀ n,(∀ i,i<n->f i=g i)->sumQ f n=sumQ g n
 | 0,_=>rfl
 | n+1,h=>by simp only[sumQ];rw[q04 n (fun i hi=>h i (by omega)),h n (by omega)]
theorem QD.sum {D B:Nat} {f:Nat->Rat}:∀ n,(∀ i,i<n->QD D B (f i))->QD D (n*B) (sumQ f n)
 | 0,_=>(QD.zero D 0).mono (by omega)
 | n+1,h=>by
  have:=(QD.sum n (fun i hi=>h i (by omega))).add (h n (by omega))
  rw[Nat.succ_mul];exact this
end Go.Proofs.Pf
namespace Go.Proofs.Pf
open Go Go.VM
theorem RV_r0:RV r0 0:=⟨⟨by decide,by decide,by decide⟩,.inr ⟨⟨by decide,by decide,by decide⟩,rfl⟩⟩
def RL (l:Option (List DR)) (f:Nat->Rat) (n:Nat):Prop:=(l.getD []).length=n/\∀ i,i<n->RV ((l.getD []).getD i r0) (f i)
theorem q05 {l:Option (List DR)} {i:Nat}:eltS r0 l (i:Int)=(l.getD []).getD i r0:=by simp only[eltS,Int.toNat_natCast]
theorem q68 {a b c:DR} {q r s:Rat} {k:Nat} (ha:RV a q) (hb:RV b r) (hc:RV c s) (f1:RFit k q) (f2:RFit k r) (f3:RFit k s) (f4:RFit k (r*s)) (hk:k+k+1<=1073741824):
 callV Pg q0c [⟨tER,a⟩,⟨tER,b⟩,⟨tER,c⟩] tER fun z=>RV z (q+r*s):=
 qd1 a b c (RV_ex _) ((q1S longS hb hc f2 f3 (by omega)).mono fun _ h=>q1r longS ha h f1 f4 hk)
theorem s_sum {l:Option (List DR)} {f:Nat->Rat} {n k:Nat} (hl:RL l f n) (hn:n<=4611686018427387904) (f1:∀ i,i<n->RFit k (f i)) (f2:∀ i,i<=n->RFit k (sumQ f i)) (hk:k+k+1<=1073741824):
 callV Pg q2c [⟨(.sl tER),l⟩] tER fun z=>RV z (sumQ f n):=by
 obtain⟨h1,h2⟩:=hl
 refine qd0 l (RV_ex _) (rangeB (n:=n) (fun i (x:DR×DR)=>(l,((n:Int),((i:Int),x)))) (fun i x=>RV x.2 (sumQ f i)) (r0,r0) (by subst h1;rfl) RV_r0 (fun p=>p.2.2.1.toNat) (fun _ _=>rfl) (fun _ _ _=>rfl) ?_ ?_)
 . intro k' i x hi hx hk'
   (try dsimp only)
   refine⟨in_s (by omega),?_⟩
   rw[q05]
   refine (q1r longS hx (h2 i hi) (f2 i (by omega)) (f1 i hi) hk).mono fun z hz=>?_
   rw[wi1 hi hn]
   exact hk' (x.1,z) hz
 . intro _ x hx
   exact hx
theorem RL.set {l:Option (List DR)} {f g:Nat->Rat} {n i:Nat} {z:DR} (h:RL l f n) (hi:i<n) (hz:RV z (g i)) (hg:∀ j,j<n->j≠i->g j=f j):RL (setO l i z) g n:=by
 obtain⟨h1,h2⟩:=h
 cases l with
 | none=>simp at h1;omega
 | some l=>
  have h1:l.length=n:=h1
  have h2:∀ i,i<n->RV (l.getD i r0) (f i):=h2
  refine⟨by show (l.set i z).length=n;simpa using h1,fun j hj=>?_⟩
  show RV ((l.set i z).getD j r0) (g j)
  by_cases e:j=i
  . subst e
    rw[List.getD_eq_getElem?_getD,List.getElem?_set_self (by omega)];exact hz
  . rw[List.getD_eq_getElem?_getD,List.getElem?_set_ne (fun h=>e h.symm),<-List.getD_eq_getElem?_getD,hg j hj e]
    exact h2 j hj
theorem RL.zero (n:Nat):RL (some (repS (n:Int) r0)) (fun _=>0) n:=by
 refine⟨by show (List.replicate (n:Int).toNat r0).length=n;simp,fun i hi=>?_⟩
 show RV ((List.replicate (n:Int).toNat r0).getD i r0) 0
 rw[List.getD_eq_getElem?_getD,List.getElem?_replicate,if_pos (by simpa using hi)]
 exact RV_r0
theorem RL.congr {l:Option (List DR)} {f g:Nat->Rat} {n:Nat} (h:RL l f n) (hg:∀ j,j<n->g j=f j):RL l g n:=⟨h.1,fun i hi=>by rw[hg i hi];exact h.2 i hi⟩
theorem RL.nil (f:Nat->Rat):RL none f 0:=⟨rfl,fun i hi=>absurd hi (by omega)⟩
theorem RL.app {l:Option (List DR)} {f:Nat->Rat} {n:Nat} {z:DR} (h:RL l f n) (hz:RV z (f n)):RL (appL l [z]) f (n+1):=by
 obtain⟨h1,h2⟩:=h
 have e:(appL l [z]).getD []=l.getD [] ++ [z]:=by cases l<;>rfl
 refine⟨by rw[e,List.length_append,h1];rfl,fun i hi=>?_⟩
 rw[e]
 rcases Nat.lt_or_ge i n with hlt | hge
 . rw[List.getD_eq_getElem?_getD,List.getElem?_append_left (by omega),<-List.getD_eq_getElem?_getD];exact h2 i hlt
 . obtain rfl:i=n:=by omega
   rw[List.getD_eq_getElem?_getD,List.getElem?_append_right (by omega),h1,Nat.sub_self];exact hz
theorem RL.ex (f:Nat->Rat) (n:Nat):∃ r,RL r f n:=by
 refine⟨some (tab (fun i=>(RV_ex (f i)).choose) n),tab_len _ _,fun i hi=>?_⟩
 show RV ((tab _ _).getD i r0) _
 rw[tab_get _ _ _ _ hi]
 exact (RV_ex (f i)).choose_spec
theorem RL.c8 {l:Option (List DR)} {f:Nat->Rat} {n:Nat} {z:DR} (h:RL l f n) (hn:n<=100000):appC 64 l (lst (some [z])):=by
 show ((l.getD []).length+1)*64<=140737488355328
 rw[h.1];omega
end Go.Proofs.Pf
namespace Go.Proofs.Pf
structure SPre (p q r s:Int):Prop where
 p0:0<p
 q0:0<q
 r0:0<r
 s0:0<s
 le:p*s<=r*q
theorem SPre.next {p q r s:Int} (h:SPre p q r s) (h1:¬ p % q=0) (h2:¬ (p / q+1)*s<=r):
 SPre s (r - p / q*s) q (p - p / q*q)/\r - p / q*s<s/\p - p / q*q<q:=by
 obtain⟨p0,q0,r0,s0,le⟩:=h
 have hd:=Int.mul_ediv_add_emod p q
 have hm0:=Int.emod_nonneg p (show q≠0 by omega)
 have hm1:=Int.emod_lt_of_pos p q0
 generalize p / q=n at *
 generalize p % q=m at *
 have e:p - n*q=m:=by rw[Int.mul_comm n q];omega
 have hr:0<r - n*s:=by
  have h3:q*(n*s)<q*r:=by
   have h4:p*s=q*(n*s)+m*s:=by rw[<-hd,Int.add_mul,Int.mul_assoc]
   have h5:0<m*s:=Int.mul_pos (by omega) s0
   rw[Int.mul_comm q r];omega
  have:=Int.lt_of_mul_lt_mul_left h3 (by omega)
  omega
 rw[e]
 refine⟨⟨s0,hr,q0,by omega,?_⟩,?_,hm1⟩
 . rw[Int.mul_sub,<-e];grind
 . rw[Int.add_mul,Int.one_mul] at h2;omega
theorem qam (n:Int) {m:Int} (hm:0<m):(Rat.divInt n m).num*m=n*((Rat.divInt n m).den:Int)/\(Rat.divInt n m).num.natAbs<=n.natAbs/\(Rat.divInt n m).den<=m.natAbs:=by
 have e:sgn m=1:=if_pos hm
 have h1:=q5R n m (by omega)
 have h2:=q5Q n m (by omega)
 rw[e,Int.one_mul] at h1 h2
 have d1:((Int.gcd n m:Nat):Int) ∣ n:=Int.gcd_dvd_left ..
 have d2:((Int.gcd n m:Nat):Int) ∣ m:=Int.gcd_dvd_right ..
 have c1:=Int.mul_tdiv_cancel' d1
 have c2:=Int.mul_tdiv_cancel' d2
 refine⟨?_,?_,?_⟩
 . rw[h1,h2]
   generalize ((Int.gcd n m:Nat):Int)=g at *
   conv=>lhs;rw[<-c2]
   conv=>rhs;rw[<-c1]
   grind
 . rw[h1,Int.natAbs_tdiv];exact Nat.div_le_self _ _
 . have:((Rat.divInt n m).den:Int).natAbs<=m.natAbs:=by rw[h2,Int.natAbs_tdiv];exact Nat.div_le_self _ _
   omega
end Go.Proofs.Pf
namespace Go.Proofs.Pf.B
open Go Go.VM
theorem sgn_pos {n:Int}:0<sgn n↔0<n:=by
 rcases sgn3 n with ⟨e,h⟩ | ⟨e,h⟩ | ⟨e,h⟩<;>rw[e]<;>constructor<;>intro<;>omega
end Go.Proofs.Pf.B
namespace Go.Proofs.Pf.B
open Go Go.VM
theorem pfit_add {q r:Rat} {k j:Nat} (h:Pf.RFit k q) (g:Pf.RFit j r):Pf.RFit (k+j+1) (q+r):=by
 have hq:=q.den_nz
 have hr:=r.den_nz
 rw[q5P]
 obtain⟨_,h1,h2⟩:=qam (q.num*(r.den:Int)+r.num*(q.den:Int)) (show 0<(q.den:Int)*(r.den:Int) from Int.mul_pos (by omega) (by omega))
 exact⟨((h.1.mul g.2 (Nat.le_refl _)).add (g.1.mul h.2 (Nat.le_of_eq (Nat.add_comm _ _))) (Nat.lt_succ_self _)).of h1,((h.2.mul g.2 (Nat.le_refl _)).mono (Nat.le_succ _)).of (by omega)⟩
theorem zero_rv:RV (((0:Int),none),((0:Int),none)) (0:Rat):=⟨⟨rfl,by decide,by decide⟩,.inr ⟨⟨rfl,by decide,by decide⟩,rfl⟩⟩
theorem zero_pfit:Pf.RFit 1 (0:Rat):=by unfold Pf.RFit Pf.Fit;decide
theorem r_Same (l m:Option (List (Int×Int))) (he:m.getD []=l.getD []) (hl:(l.getD []).length<=200):callV Pg q2R [⟨(.sl tNum),l⟩,⟨(.sl tNum),m⟩] .bool fun r=>r=true:=by
 refine qca l m ⟨_,rfl⟩ (q01.2 ⟨fun h=>?_,fun _=>?_⟩)
 . have h:¬ ((l.getD []).length:Int)=((m.getD []).length:Int):=not_t h
   rw[he] at h;exact absurd rfl h
 refine loopE (fun p=>∃ j:Nat,p=(l,m,((l.getD []).length:Int),(j:Int))/\j<=(l.getD []).length) (fun p=>(l.getD []).length - p.2.2.2.toNat) ⟨0,rfl,by omega⟩ ?_
 rintro _ ⟨j,rfl,hj⟩
 dsimp only
 refine q01.2 ⟨fun hc=>?_,fun _=>rfl⟩
 have hc:(j:Int)<((l.getD []).length:Int):=dec_t hc
 have e:eltS ((0:Int),(0:Int)) m (j:Int)=eltS ((0:Int),(0:Int)) l (j:Int):=by simp only[eltS,he]
 refine⟨⟨by omega,by omega⟩,⟨by omega,by rw[he];omega⟩,?_⟩
 rw[e,eqNum]
 refine q01.2 ⟨fun h=>absurd rfl (not_t h),fun _=>?_⟩
 rw[wi64 (by omega) (by omega)]
 exact⟨⟨j+1,rfl,by omega⟩,by omega⟩
end Go.Proofs.Pf.B
namespace Go.Proofs.Pf.B
open Go Go.VM
abbrev br (l:List DBr) (i:Nat):DBr:=l.getD i (0,(0,0))
def preTo (l:List DBr):Nat->Int
 | 0=>-1
 | i+1=>(br l i).1
def brOk (n:Int) (l:List DBr) (i:Nat):Prop:=preTo l i<(br l i).1/\(br l i).1<n/\NumOk (br l i).2/\0<(br l i).2.1
instance (n:Int) (l:List DBr) (i:Nat):Decidable (brOk n l i):=by unfold brOk;infer_instance
def sumR (l:List DBr):Nat->Rat
 | 0=>0
 | i+1=>sumR l i+numQ (br l i).2
def chOk (n:Int) (c:DCh):Prop:=NumOk c.1/\(1<=(c.2.getD []).length/\(c.2.getD []).length<=8)/\(∀ i,i<(c.2.getD []).length->brOk n (c.2.getD []) i)/\sumR (c.2.getD []) (c.2.getD []).length=1
instance (n:Int) (c:DCh):Decidable (chOk n c):=by unfold chOk;infer_instance
theorem pre_le {n:Int} {l:List DBr}:∀ {i:Nat},(∀ j,j<i->brOk n l j)->-1<=preTo l i
 | 0,_=>by simp[preTo]
 | i+1,h=>by
  have h1:=(h i (by omega)).1
  have h2:=pre_le (i:=i) fun j hj=>h j (by omega)
  show -1<=(br l i).1
  omega
theorem qaX {q:Rat}:sgn (q - 1).num=0↔q=1:=by
 constructor
 . intro h
   have h0:(q - 1).num=0:=by
    unfold sgn at h
    repeat' split at h
    all_goals omega
   have h1:q - 1=0:=Rat.num_eq_zero.1 h0
   have h2:q - 1+1=0+1:=by rw[h1]
   rwa [Rat.sub_add_cancel,Rat.zero_add] at h2
 . rintro rfl
   rw[Rat.sub_self];rfl
theorem q40 {l:Option (List DBr)} {i:Nat}:eltS ((0:Int),((0:Int),(0:Int))) l (i:Int)=br (l.getD []) i:=by simp only[eltS,Int.toNat_natCast]
theorem q7k:Pf.RFit 1 (1:Rat):=by unfold Pf.RFit Pf.Fit;decide
theorem s_choice (n:Int) (c:DCh):callV Pg q4T [⟨tI,n⟩,⟨tCh,c⟩] .bool fun r=>r=decide (chOk n c):=by
 refine qc5 n c ⟨_,rfl⟩ (joinR (fun p=>∃ b:Bool,p=(n,(b,c))/\(b=true->¬ chOk n c)/\(b=false->NumOk c.1/\(1<=(c.2.getD []).length/\(c.2.getD []).length<=8))) ?_ ?_)
 . rintro _ ⟨b,rfl,h1,h2⟩
   dsimp only
   refine q01.2 ⟨fun h=>(decide_eq_false (h1 h)).symm,fun h=>?_⟩
   obtain⟨g1,g2,g3⟩:=h2 h
   refine loopE (fun p=>∃ (i:Nat) (x:_),p=(n,(preTo (c.2.getD []) i,(c.2,(((c.2.getD []).length:Int),((i:Int),x)))))/\i<=(c.2.getD []).length/\(∀ j,j<i->brOk n (c.2.getD []) j)/\RV x (sumR (c.2.getD []) i)/\Pf.RFit (3*i+1) (sumR (c.2.getD []) i)) (fun p=>(c.2.getD []).length - p.2.2.2.2.1.toNat)
    ⟨0,(((0:Int),none),((0:Int),none)),rfl,by omega,fun j h=>by omega,zero_rv,zero_pfit⟩ ?_
   rintro _ ⟨i,x,rfl,hi,hall,hx,fx⟩
   dsimp only
   refine q01.2 ⟨fun hc=>?_,fun hc=>?_⟩
   . have hc:(i:Int)<((c.2.getD []).length:Int):=dec_t hc
     rw[q40]
     refine⟨⟨by omega,by omega⟩,?_⟩
     refine joinR (fun p=>∃ b:Bool,p=(n,(c.2,(((c.2.getD []).length:Int),((i:Int),(b,(x,br (c.2.getD []) i))))))/\(b=true->¬ brOk n (c.2.getD []) i)/\(b=false->brOk n (c.2.getD []) i)) ?_ ?_
     . rintro _ ⟨b,rfl,k1,k2⟩
       dsimp only
       refine q01.2 ⟨fun h=>(decide_eq_false fun hq=>k1 h (hq.2.2.1 i (by omega))).symm,fun h=>?_⟩
       have hb:=k2 h
       have o1:=hb.2.2.1
       refine (s_Rat longS o1).mono fun p4 h4=>?_
       refine (q1r longS hx h4 (fx.mono (show 3*i+1<=100 by omega)) (o1.fit.mono (by decide)) (by decide)).mono fun p5 h5=>?_
       rw[wi64 (by omega) (by omega)]
       refine⟨⟨i+1,p5,rfl,by omega,fun j hj=>?_,h5,(pfit_add fx o1.fit).mono (by omega)⟩,by omega⟩
       rcases Nat.lt_or_ge j i with q | q
       . exact hall j q
       . obtain rfl:j=i:=by omega
         exact hb
     . intro k hk
       refine q01.2 ⟨fun h=>hk _ ⟨true,rfl,fun _ hq=>?_,fun h=>by cases h⟩,fun h=>?_⟩
       . have h:=dec_t h;have:=hq.1;omega
       have e1:=dec_f h
       refine q01.2 ⟨fun h=>hk _ ⟨true,rfl,fun _ hq=>?_,fun h=>by cases h⟩,fun h=>?_⟩
       . have h:=dec_t h;have:=hq.2.1;omega
       have e2:=dec_f h
       refine (q64 longS _).mono ?_
       rintro _ rfl
       refine q01.2 ⟨fun h=>hk _ ⟨true,rfl,fun _ hq=>not_t h hq.2.2.1,fun h=>by cases h⟩,fun h=>?_⟩
       have e3:=not_f h
       refine hk _ ⟨_,rfl,fun h hq=>?_,fun h=>⟨by omega,by omega,e3,?_⟩⟩
       . have h:=dec_t h;have:=hq.2.2.2;omega
       . have h:=dec_f h;omega
   . have hc:¬ (i:Int)<((c.2.getD []).length:Int):=dec_f hc
     obtain rfl:i=(c.2.getD []).length:=by omega
     refine (q4f (n:=1) (by decide) (by decide)).mono fun p3 h3=>?_
     refine (q3i hx h3 (fx.mono (show 3*(c.2.getD []).length+1<=100 by omega)) (q7k.mono (by decide)) (by decide)).mono ?_
     rintro _ rfl
     have e:decide (sgn (sumR (c.2.getD []) (c.2.getD []).length - ((1:Int):Rat)).num=(0:Int))=decide (chOk n c):=by
      rw[decide_eq_decide]
      exact qaX.trans ⟨fun h=>⟨g1,⟨g2,g3⟩,hall,h⟩,fun h=>h.2.2.2⟩
     exact e
 . intro k hk
   refine (q64 longS _).mono ?_
   rintro _ rfl
   refine q01.2 ⟨fun h=>hk _ ⟨true,rfl,fun _ hq=>not_t h hq.1,fun h=>by cases h⟩,fun h=>?_⟩
   have e1:=not_f h
   refine q01.2 ⟨fun h=>hk _ ⟨true,rfl,fun _ hq=>?_,fun h=>by cases h⟩,fun h=>?_⟩
   . have h:((c.2.getD []).length:Int)<1:=dec_t h
     have:=hq.2.1.1;omega
   have e2:¬ ((c.2.getD []).length:Int)<1:=dec_f h
   refine hk _ ⟨_,rfl,fun h hq=>?_,fun h=>⟨e1,by omega,?_⟩⟩
   . have h:(8:Int)<((c.2.getD []).length:Int):=dec_t h
     have:=hq.2.1.2;omega
   . have h:¬ (8:Int)<((c.2.getD []).length:Int):=dec_f h
     omega
end Go.Proofs.Pf.B
namespace Go.Proofs.Pf.B
open Go Go.VM
abbrev ch (l:List DCh) (i:Nat):DCh:=l.getD i (((0,0),none))
abbrev stt (l:List DSt) (i:Nat):DSt:=l.getD i (0,(0,none))
def stHead (s:DSt):Prop:=(0<=s.1/\s.1<=1)/\(0<=s.2.1/\s.2.1<=63)/\(1<=(s.2.2.getD []).length/\(s.2.2.getD []).length<=8)
instance (s:DSt):Decidable (stHead s):=by unfold stHead;infer_instance
def stOk (n:Int) (s:DSt):Prop:=stHead s/\∀ j,j<(s.2.2.getD []).length->chOk n (ch (s.2.2.getD []) j)
instance (n:Int) (s:DSt):Decidable (stOk n s):=by unfold stOk;infer_instance
def moOk (m:DMo):Prop:=(1<=(m.getD []).length/\(m.getD []).length<=40)/\∀ i,i<(m.getD []).length->stOk (m.getD []).length (stt (m.getD []) i)
instance (m:DMo):Decidable (moOk m):=by unfold moOk;infer_instance
theorem q0C {l:Option (List DSt)} {i:Nat}:eltS ((0:Int),((0:Int),none)) l (i:Int)=stt (l.getD []) i:=by simp only[eltS,Int.toNat_natCast]
theorem q33 {l:Option (List DCh)} {i:Nat}:eltS (((0:Int),(0:Int)),none) l (i:Int)=ch (l.getD []) i:=by simp only[eltS,Int.toNat_natCast]
theorem q60 (m:DMo):callV Pg q2N [⟨tMo,m⟩] .bool fun r=>r=decide (moOk m):=by
 refine qc4 m ⟨_,rfl⟩ (joinR (fun p=>∃ b:Bool,p=(((m.getD []).length:Int),(b,m))/\(b=true->¬ moOk m)/\(b=false->1<=(m.getD []).length/\(m.getD []).length<=40)) ?_ ?_)
 . rintro _ ⟨b,rfl,h1,h2⟩
   dsimp only
   refine q01.2 ⟨fun h=>(decide_eq_false (h1 h)).symm,fun h=>?_⟩
   obtain⟨g1,g2⟩:=h2 h
   refine loopE (fun p=>∃ i:Nat,p=(((m.getD []).length:Int),(m,(((m.getD []).length:Int),(i:Int))))/\i<=(m.getD []).length/\(∀ j,j<i->stOk (m.getD []).length (stt (m.getD []) j))) (fun p=>(m.getD []).length - p.2.2.2.toNat)
    ⟨0,rfl,by omega,fun j h=>by omega⟩ ?_
   rintro _ ⟨i,rfl,hi,hall⟩
   dsimp only
   refine q01.2 ⟨fun hc=>?_,fun hc=>?_⟩
   . have hc:(i:Int)<((m.getD []).length:Int):=dec_t hc
     rw[q0C]
     have no:¬ stHead (stt (m.getD []) i)->¬ moOk m:=fun h hq=>h (hq.2 i (by omega)).1
     refine⟨⟨by omega,by omega⟩,joinR (fun p=>∃ b:Bool,p=(((m.getD []).length:Int),(m,(((m.getD []).length:Int),((i:Int),(b,stt (m.getD []) i)))))/\(b=true->¬ moOk m)/\(b=false->stHead (stt (m.getD []) i))) ?_ ?_⟩
     . rintro _ ⟨b,rfl,k1,k2⟩
       dsimp only
       refine q01.2 ⟨fun h=>(decide_eq_false (k1 h)).symm,fun h=>?_⟩
       have hh:=k2 h
       obtain⟨_,_,c1,c2⟩:=id hh
       refine loopE (fun p=>∃ j:Nat,p=(((m.getD []).length:Int),(m,(((m.getD []).length:Int),((i:Int),((stt (m.getD []) i).2.2,((((stt (m.getD []) i).2.2.getD []).length:Int),(j:Int)))))))/\j<=((stt (m.getD []) i).2.2.getD []).length/\(∀ k,k<j->chOk (m.getD []).length (ch ((stt (m.getD []) i).2.2.getD []) k)))
        (fun p=>((stt (m.getD []) i).2.2.getD []).length - p.2.2.2.2.2.2.toNat) ⟨0,rfl,by omega,fun j h=>by omega⟩ ?_
       rintro _ ⟨j,rfl,hj,hch⟩
       dsimp only
       refine q01.2 ⟨fun hd=>?_,fun hd=>?_⟩
       . have hd:(j:Int)<(((stt (m.getD []) i).2.2.getD []).length:Int):=dec_t hd
         rw[q33]
         refine⟨⟨by omega,by omega⟩,(s_choice _ _).mono ?_⟩
         rintro _ rfl
         refine q01.2 ⟨fun h=>(decide_eq_false fun hq=>not_t h ((hq.2 i (by omega)).2 j (by omega))).symm,fun h=>?_⟩
         have h3:=not_f h
         rw[wi64 (by omega) (by omega)]
         refine⟨⟨j+1,rfl,by omega,fun k hk=>?_⟩,by omega⟩
         rcases Nat.lt_or_ge k j with q | q
         . exact hch k q
         . obtain rfl:k=j:=by omega
           exact h3
       . have hd:¬ (j:Int)<(((stt (m.getD []) i).2.2.getD []).length:Int):=dec_f hd
         obtain rfl:j=((stt (m.getD []) i).2.2.getD []).length:=by omega
         rw[wi64 (by omega) (by omega)]
         refine⟨⟨i+1,rfl,by omega,fun k hk=>?_⟩,by omega⟩
         rcases Nat.lt_or_ge k i with q | q
         . exact hall k q
         . obtain rfl:k=i:=by omega
           exact⟨hh,hch⟩
     . intro k hk
       refine q01.2 ⟨fun h=>hk _ ⟨true,rfl,fun _=>no fun hq=>?_,fun h=>by cases h⟩,fun h=>?_⟩
       . have h:=dec_t h;have:=hq.1;omega
       have e1:=dec_f h
       refine q01.2 ⟨fun h=>hk _ ⟨true,rfl,fun _=>no fun hq=>?_,fun h=>by cases h⟩,fun h=>?_⟩
       . have h:=dec_t h;have:=hq.1;omega
       have e2:=dec_f h
       refine q01.2 ⟨fun h=>hk _ ⟨true,rfl,fun _=>no fun hq=>?_,fun h=>by cases h⟩,fun h=>?_⟩
       . have h:=dec_t h;have:=hq.2.1;omega
       have e3:=dec_f h
       refine q01.2 ⟨fun h=>hk _ ⟨true,rfl,fun _=>no fun hq=>?_,fun h=>by cases h⟩,fun h=>?_⟩
       . have h:=dec_t h;have:=hq.2.1;omega
       have e4:=dec_f h
       refine q01.2 ⟨fun h=>hk _ ⟨true,rfl,fun _=>no fun hq=>?_,fun h=>by cases h⟩,fun h=>?_⟩
       . have h:(((stt (m.getD []) i).2.2.getD []).length:Int)<1:=dec_t h
         have:=hq.2.2;omega
       have e5:¬ (((stt (m.getD []) i).2.2.getD []).length:Int)<1:=dec_f h
       refine hk _ ⟨_,rfl,fun h=>no fun hq=>?_,fun h=>⟨⟨by omega,by omega⟩,⟨by omega,by omega⟩,⟨by omega,?_⟩⟩⟩
       . have h:(8:Int)<(((stt (m.getD []) i).2.2.getD []).length:Int):=dec_t h
         have:=hq.2.2;omega
       . have h:¬ (8:Int)<(((stt (m.getD []) i).2.2.getD []).length:Int):=dec_f h
         omega
   . have hc:¬ (i:Int)<((m.getD []).length:Int):=dec_f hc
     obtain rfl:i=(m.getD []).length:=by omega
     exact (decide_eq_true ⟨⟨g1,g2⟩,hall⟩).symm
 . intro k hk
   refine q01.2 ⟨fun h=>hk _ ⟨true,rfl,fun _ hq=>?_,fun h=>by cases h⟩,fun h=>?_⟩
   . have h:((m.getD []).length:Int)<1:=dec_t h
     have:=hq.1;omega
   have e5:¬ ((m.getD []).length:Int)<1:=dec_f h
   refine hk _ ⟨_,rfl,fun h hq=>?_,fun h=>⟨by omega,?_⟩⟩
   . have h:(40:Int)<((m.getD []).length:Int):=dec_t h
     have:=hq.1;omega
   . have h:¬ (40:Int)<((m.getD []).length:Int):=dec_f h
     omega
end Go.Proofs.Pf.B
namespace Go.Proofs.Pf.B
open Go Go.VM
def seenQ (m:DMo) (x:Nat->Rat) (mark:Int) (s:Nat):Rat:=if (stt (m.getD []) s).2.1=mark then x s else 0
theorem q3k {m:DMo} {l:Option (List DR)} {f:Nat->Rat} {mark:Int} (hl:RL l f (m.getD []).length) (hn:(m.getD []).length<=1000):
 callV Pg q1D [⟨tMo,m⟩,⟨(.sl tER),l⟩,⟨tI,mark⟩] (.sl tER) fun r=>RL r (seenQ m f mark) (m.getD []).length:=by
 obtain⟨h1,h2⟩:=hl
 refine qcZ m l mark ⟨some (tab (fun i=>((RV_ex (seenQ m f mark i)).choose)) (m.getD []).length),?_,?_⟩ ⟨?_,?_⟩
 . exact tab_len _ _
 . intro i hi
   show RV ((tab _ _).getD i r0) _
   rw[tab_get _ _ _ _ hi]
   exact (RV_ex (seenQ m f mark i)).choose_spec
 . have:((l.getD []).length:Int)=((m.getD []).length:Int):=by rw[h1]
   show 0<=((l.getD []).length:Int)/\((l.getD []).length:Int)<=((l.getD []).length:Int)/\((l.getD []).length:Int)*64<=281474976710656
   omega
 . refine rangeB (n:=(m.getD []).length) (fun i x=>(l,(mark,(m,(((m.getD []).length:Int),((i:Int),x)))))) (fun i x=>RL x (fun s=>if s<i then seenQ m f mark s else 0) (m.getD []).length) (some (repS ((m.getD []).length:Int) r0)) (by show (_,_)=(_,_);rw[show szSl l=((m.getD []).length:Int) by show ((l.getD []).length:Int)=_;rw[h1]];rfl) ((RL.zero _).congr fun j _=>if_neg (by omega)) (fun p=>p.2.2.2.2.1.toNat) (fun _ _=>rfl) (fun _ _ _=>rfl) ?_ ?_
   . intro k i x hi hx hk
     try dsimp only
     rw[q0C,q05]
     refine⟨in_s hi,joinE (br_c (fun hb=>?_) fun hb=>?_)⟩
     . refine⟨in_s (by omega),in_s (by rw[hx.1];exact hi),?_⟩
       try dsimp only
       rw[wi1 hi (by omega),show toN (i:Int)=i from Int.toNat_natCast i]
       refine hk _ (RL.set hx hi (g:=fun s=>if s<i+1 then seenQ m f mark s else 0) ?_ fun j _ hj=>?_)
       . rw[if_pos (by omega)]
         show RV _ (seenQ m f mark i)
         rw[seenQ,if_pos (dec_t hb)]
         exact h2 i hi
       . try dsimp only
         by_cases hji:j<i
         . rw[if_pos hji,if_pos (by omega)]
         . rw[if_neg hji,if_neg (by omega)]
     . try dsimp only
       rw[wi1 hi (by omega)]
       refine hk _ (hx.congr fun j _=>?_)
       try dsimp only
       by_cases hji:j<i
       . rw[if_pos hji,if_pos (by omega)]
       . rw[if_neg hji]
         by_cases e:j<i+1
         . obtain rfl:j=i:=by omega
           rw[if_pos e,seenQ,if_neg (dec_f hb)]
         . rw[if_neg e]
   . intro _ x hx
     exact hx.congr fun j hj=>by rw[if_pos hj]
def RM (p:Option (List (Option (List DR)))) (P:Nat->Nat->Rat) (n:Nat):Prop:=(p.getD []).length=n/\∀ s,s<n->RL ((p.getD []).getD s none) (P s) n
theorem q0t {p:Option (List (Option (List DR)))} {i:Nat}:eltS none p (i:Int)=(p.getD []).getD i none:=by simp only[eltS,Int.toNat_natCast]
def stepQ (P:Nat->Nat->Rat) (x:Nat->Rat) (a t:Nat):Rat:=sumQ (fun s=>x s*P s t) a
theorem rv_zero {x:DR} {q:Rat} (h:RV x q):sgn q.num=0->q=0:=by
 intro h
 have:q.num=0:=by
  rcases sgn3 q.num with ⟨e,h'⟩ | ⟨e,h'⟩ | ⟨e,h'⟩
  . rw[e] at h;cases h
  . rw[e] at h;cases h
  . exact h'
 exact Rat.num_eq_zero.1 this
theorem q67 {p:Option (List (Option (List DR)))} {l:Option (List DR)} {P:Nat->Nat->Rat} {x:Nat->Rat} {n k:Nat} (hp:RM p P n) (hl:RL l x n) (hn:n<=1000)
 (f1:∀ s t,s<n->t<n->Pf.RFit k (P s t)) (f2:∀ s,s<n->Pf.RFit k (x s)) (f3:∀ s t,s<n->t<n->Pf.RFit k (x s*P s t)) (f4:∀ a t,a<=n->t<n->Pf.RFit k (stepQ P x a t)) (hk:k+k+1<=1073741824):
 callV Pg q0P [⟨(.sl (.sl tER)),p⟩,⟨(.sl tER),l⟩,⟨.bool,false⟩,⟨(.cst (.fn q0c)),()⟩] (.sl tER) fun r=>RL r (stepQ P x n) n:=by
 obtain⟨h1,h2⟩:=hl
 obtain⟨p1,p2⟩:=hp
 have e1:szSl l=(n:Int):=by show ((l.getD []).length:Int)=n;rw[h1]
 have e2:szSl p=(n:Int):=by show ((p.getD []).length:Int)=n;rw[p1]
 refine q80 p l false () ⟨some (tab (fun i=>((RV_ex (stepQ P x n i)).choose)) n),?_,?_⟩ ⟨?_,?_⟩
 . exact tab_len _ _
 . intro i hi
   show RV ((tab _ _).getD i r0) _
   rw[tab_get _ _ _ _ hi]
   exact (RV_ex (stepQ P x n i)).choose_spec
 . rw[e1]
   show 0<=(n:Int)/\(n:Int)<=n/\(n:Int)*64<=281474976710656
   omega
 . rw[e1,e2]
   refine rangeB (n:=n) (fun i y=>(p,(l,(false,((n:Int),((i:Int),y)))))) (fun i y=>RL y (stepQ P x i) n) (some (repS (n:Int) r0)) rfl (RL.zero n) (fun p=>p.2.2.2.2.1.toNat) (fun _ _=>rfl) (fun _ _ _=>rfl) ?_ ?_
   . intro k0 i y hi hy hk0
     try dsimp only
     obtain⟨r1,r2⟩:=p2 i hi
     refine⟨in_s (by omega),?_⟩
     rw[q0t]
     generalize hr:(p.getD []).getD i none=r at *
     have e3:szSl r=(n:Int):=by show ((r.getD []).length:Int)=n;rw[r1]
     rw[e3]
     refine rangeB (n:=n) (fun j z=>(p,(l,(false,((i:Int),((n:Int),((i:Int),(r,((n:Int),((j:Int),z)))))))))) (fun j z=>RL z (fun t=>stepQ P x (if t<j then i+1 else i) t) n) y rfl (hy.congr fun j _=>by rw[if_neg (by omega)]) (fun p=>p.2.2.2.2.2.2.2.2.1.toNat) (fun _ _=>rfl) (fun _ _ _=>rfl) ?_ ?_
     . intro k1 j z hj hz hk1
       try dsimp only
       refine⟨in_s (by omega),?_⟩
       rw[q05]
       have hc:=r2 j hj
       refine (q0x hc).mono fun sg hsg=>?_
       subst hsg
       refine joinE (br_c (fun hb=>?_) fun hb=>?_)
       . try dsimp only
         rw[wi1 hj (by omega)]
         refine hk1 _ (hz.congr fun t _=>?_)
         try dsimp only
         by_cases htj:t<j
         . rw[if_pos htj,if_pos (by omega)]
         . rw[if_neg htj]
           by_cases e:t<j+1
           . obtain rfl:t=j:=by omega
             rw[if_pos e]
             simp only[stepQ,sumQ]
             rw[rv_zero hc (dec_t hb),Rat.mul_zero,Rat.add_zero]
           . rw[if_neg e]
       . refine joinE (br_f rfl ⟨in_s (by rw[hz.1];exact hj),in_s (by omega),?_⟩)
         have e4:eltN r0 z (toN (j:Int))=(z.getD []).getD j r0:=by simp only[eltN,toN,Int.toNat_natCast]
         rw[e4,q05]
         have hzj:=hz.2 j hj
         dsimp only at hzj
         rw[if_neg (by omega)] at hzj
         refine (q68 hzj (h2 i hi) hc (f4 i j (by omega) hj) (f2 i hi) (f1 i j hi hj) (f3 i j hi hj) hk).mono fun w hw=>⟨in_s (by rw[hz.1];exact hj),?_⟩
         try dsimp only
         rw[wi1 hj (by omega),show toN (j:Int)=j from Int.toNat_natCast j]
         refine hk1 _ (RL.set hz hj (g:=fun t=>stepQ P x (if t<j+1 then i+1 else i) t) ?_ fun t _ ht=>?_)
         . rw[if_pos (by omega)];exact hw
         . try dsimp only
           by_cases htj:t<j
           . rw[if_pos htj,if_pos (by omega)]
           . rw[if_neg htj,if_neg (by omega)]
     . intro _ z hz
       try dsimp only
       rw[wi1 hi (by omega)]
       refine hk0 _ (hz.congr fun t ht=>?_)
       try dsimp only
       rw[if_pos ht]
   . intro _ y hy
     exact hy
end Go.Proofs.Pf.B
namespace Go.Proofs.Pf
open Go Go.VM
set_option maxRecDepth 100000
def q91:Ann:=(.s (.s (.seq (.s (.blk none (.loop ⟨[(4,.own 1004)],[.var 9 (.sl tER),.var 10 tI,.var 11 tI,.arr 1004 tNum]⟩ .nil))) .nil)))
theorem qc6 {Q:(Int×(Option (List (Int×Int))))->Prop} (a:(Option (List DR))) (hQ:∃ r,Q r) (h:
 (loopV (Option (List DR)×Int×Int×Option (List (Int×Int))) (fun k0  (i,j,k,l)=>brV (decide (k<j)) (inS i k/\callV Pg q2O [⟨tER,eltS r0 i k⟩] (.tup (.pair tNum (.pair tI .unit))) (fun p2=>brV (notB (decide (p2.2.1=(0:Int)))) (Q (p2.2.1,none)) (appC 16 l (lst (some [p2.1]))/\k0 (i,j,IntKind.wrap IntKind.i64 (k+(1:Int)),appL l (lst (some [p2.1])))))) (Q ((0:Int),l))) (a,szSl a,(0:Int),none))):
 lendV Pg q4U 1 q3s (a) Q:=
 q0g (c:=q00 Tryz.f97) (ann:=q91) Tryz.func97 rfl Tryz.call97 rfl hQ rfl (kcast (by kernel_rfl) h)
def q9K:Ann:=(.s (.s (.s (.s (.seq (.s (.blk none (.loop ⟨[(4,.ref 4 0),(5,.own 1005)],[.var 13 (.sl tER),.var 14 tI,.var 15 tI,.box 4 tER,.arr 1005 tER]⟩ .nil))) (.seq (.regL [] [(1,([1005],false))] [(1,q3s)] none) .nil))))))
theorem qcO {Q:(Int×(Option (List (Int×Int))))->Prop} (a:(Option (List DR))) (hQ:∃ r,Q r) (h:
 (callV Pg q2c [⟨.sl tER,a⟩] tER (fun p0=>callV Pg q0n [⟨tER,p0⟩] tI (fun p1=>brV (decide (p1=(0:Int))) (Q ((5:Int),none)) (loopV (Option (List DR)×Int×Int×DR×Option (List DR)) (fun k2  (i,j,k,l,m)=>brV (decide (k<j)) (inS i k/\callV Pg q3J [⟨tER,eltS r0 i k⟩,⟨tER,l⟩] tER (fun p4=>appC 64 m (lst (some [p4]))/\k2 (i,j,IntKind.wrap IntKind.i64 (k+(1:Int)),l,appL m (lst (some [p4]))))) (lendV Pg q4U 1 q3s m (fun p4=>Q p4))) (a,szSl a,(0:Int),p0,none)))))):
 lendV Pg q2Z 1 q1c (a) Q:=
 q0g (c:=q00 Tryz.f46) (ann:=q9K) Tryz.func46 rfl Tryz.call46 rfl hQ rfl (kcast (by kernel_rfl) h)
def q9C:Ann:=(.s (.s (.seq (.regL [] [] [(5,q1c)] none) .nil)))
theorem qcG {Q:(Int×(Option (List (Int×Int))))->Prop} (a:DMo) (b:(Option (List (Int×Int)))) (c:DL) (hQ:∃ r,Q r) (h:
 (callV Pg q1i [⟨tMo,a⟩,⟨.sl tNum,b⟩,⟨tL,c⟩] tI (fun p0=>brV (notB (decide (p0=(0:Int)))) (Q (p0,none)) (callV Pg q1h [⟨.sl tNum,b⟩] (.sl tER) (fun p1=>callV Pg q2b [⟨tMo,a⟩,⟨.sl tER,p1⟩,⟨tL,c⟩] (.sl tER) (fun p2=>lendV Pg q2Z 1 q1c p2 (fun p3=>Q p3))))))):
 lendV Pg q2a 3 q2B (a,b,c) Q:=
 q0g (c:=q00 Tryz.f9) (ann:=q9C) Tryz.func9 rfl Tryz.call9 rfl hQ rfl (kcast (by kernel_rfl) h)
def q9B:Ann:=(.s (.s (.s (.seq (.s (.cond (some ⟨[(3,.ref 3 0)],[.var 9 (.sl tER),.box 3 tMo]⟩) .nil .nil)) (.s (.seq (.s (.blk none (.loop ⟨[(10,.own 32)],[.var 9 (.sl tER),.var 34 (.sl tSt),.var 35 tI,.var 36 tI,.arr 32 tER]⟩ .nil))) (.seq (.regL [] [(1,([32],false))] [(1,q1c)] none) .nil)))))))
theorem qcF {Q:(Int×(Option (List (Int×Int))))->Prop} (a:DMo) (b:(Option (List (Int×Int)))) (c:DL) (hQ:∃ r,Q r) (h:
 (callV Pg q1i [⟨tMo,a⟩,⟨.sl tNum,b⟩,⟨tL,c⟩] tI (fun p0=>brV (notB (decide (p0=(0:Int)))) (Q (p0,none)) (callV Pg q1h [⟨.sl tNum,b⟩] (.sl tER) (fun p1=>callV Pg q2b [⟨tMo,a⟩,⟨.sl tER,p1⟩,⟨tL,c⟩] (.sl tER) (fun p2=>joinV (Option (List DR)×DMo) (fun (i,j)=>mkC 64 (64:Int) (64:Int)/\loopV (Option (List DR)×DMo×Int×Int×Option (List DR)) (fun k4  (k,l,m,n,o)=>brV (decide (n<m)) (inS l n/\inS o (eltS ((0:Int),(0:Int),none) l n).2.1/\inS k n/\callV Pg q0N [⟨tER,eltN r0 o (toN (eltS ((0:Int),(0:Int),none) l n).2.1)⟩,⟨tER,eltS r0 k n⟩] tER (fun p6=>inS o (eltS ((0:Int),(0:Int),none) l n).2.1/\k4 (k,l,m,IntKind.wrap IntKind.i64 (n+(1:Int)),setO o (toN (eltS ((0:Int),(0:Int),none) l n).2.1) p6))) (lendV Pg q2Z 1 q1c o (fun p6=>Q p6))) (i,j,szSl j,(0:Int),some (repS (α:=DR) (64:Int) r0))) (fun k3=>brV (decide ((0:Int)<(szSl c))) (callV Pg q0A [⟨tMo,a⟩] (.sl (.sl tER)) (fun p4=>callV Pg q0P [⟨.sl (.sl tER),p4⟩,⟨.sl tER,p2⟩,⟨.bool,false⟩,⟨.cst (.fn q0c),()⟩] (.sl tER) (fun p5=>k3 (p5,a)))) (k3 (p2,a))))))))):
 lendV Pg q2V 3 q2A (a,b,c) Q:=
 q0g (c:=q00 Tryz.f10) (ann:=q9B) Tryz.func10 rfl Tryz.call10 rfl hQ rfl (kcast (by kernel_rfl) h)
def q9G:Ann:=(.s (.s (.seq (.seq (.reg [] [] (some ⟨[(4,.ref 4 0)],[.var 1 (.sl tNum),.var 2 tL,.var 3 tI,.var 31 .bool,.box 4 tMo]⟩)) .nil) (.s (.s (.seq (.s (.blk none (.loop ⟨[(4,.ref 4 0),(12,.own 37)],[.var 1 (.sl tNum),.var 2 tL,.var 3 tI,.var 11 (.sl (.sl tER)),.var 39 tI,.var 40 tI,.box 4 tMo,.arr 37 tER]⟩ .nil))) (.seq (.s (.blk none (.loop ⟨[(4,.ref 4 0),(12,.own 1012)],[.var 1 (.sl tNum),.var 2 tL,.var 3 tI,.var 11 (.sl (.sl tER)),.var 14 tI,.box 4 tMo,.arr 1012 tER]⟩ (.s (.seq (.blk none (.reg [1012] [(8,([],true)),(4095,([.cut 12 37],false))] none)) .nil))))) (.seq (.s (.blk none (.loop ⟨[(12,.own 1012)],[.var 72 (.sl tER),.var 73 tI,.var 74 tI,.arr 1012 tER]⟩ .nil))) (.seq (.regL [] [(1,([1012],false))] [(1,q1c)] none) .nil)))))))))
theorem qcK {Q:(Int×(Option (List (Int×Int))))->Prop} (a:DMo) (b:(Option (List (Int×Int)))) (c:DL) (d:Int) (hQ:∃ r,Q r) (h:
 (callV Pg q1i [⟨tMo,a⟩,⟨.sl tNum,b⟩,⟨tL,c⟩] tI (fun p0=>brV (notB (decide (p0=(0:Int)))) (Q (p0,none)) (joinV (Option (List (Int×Int))×DL×Int×Bool×DMo) (fun (i,j,k,l,m)=>brV l (Q ((6:Int),none)) (callV Pg q0A [⟨tMo,m⟩] (.sl (.sl tER)) (fun p2=>mkC 64 (szSl m) (szSl m)/\loopV (Option (List (Int×Int))×DL×Int×Option (List (Option (List DR)))×Int×Int×DMo×Option (List DR)) (fun k3  (n,o,p,q,r,s,t,u)=>brV (decide (s<r)) (callV Pg q12 [] tER (fun p5=>inS u s/\k3 (n,o,p,q,r,IntKind.wrap IntKind.i64 (s+(1:Int)),t,setO u (toN s) p5))) (loopV (Option (List (Int×Int))×DL×Int×Option (List (Option (List DR)))×Int×DMo×Option (List DR)) (fun k5  (v,w,x,y,z,e,f)=>brV (decide (x<z)) (inS w z/\callV Pg q1D [⟨tMo,e⟩,⟨.sl tER,f⟩,⟨tI,eltS (0:Int) w z⟩] (.sl tER) (fun p7=>ownV Pg q0P [⟨.sl (.sl tER),y⟩,⟨.sl tER,p7⟩,⟨.bool,true⟩,⟨.cst (.fn q0c),()⟩] tER (fun p8=>k5 (v,w,x,y,IntKind.wrap IntKind.i64 (z - (1:Int)),e,p8)))) (callV Pg q1h [⟨.sl tNum,v⟩] (.sl tER) (fun p7=>callV Pg q3U [⟨tMo,e⟩,⟨.sl tER,p7⟩,⟨tL,w⟩] (.sl (.sl tER)) (fun p8=>inS p8 x/\loopV (Option (List DR)×Int×Int×Option (List DR)) (fun k9  (g,A,B,C)=>brV (decide (B<A)) (inS g B/\inS C B/\callV Pg q0Y [⟨tER,eltN r0 C (toN B)⟩,⟨tER,eltS r0 g B⟩] tER (fun p11=>inS C B/\k9 (g,A,IntKind.wrap IntKind.i64 (B+(1:Int)),setO C (toN B) p11))) (lendV Pg q2Z 1 q1c C (fun p11=>Q p11))) (eltS none p8 x,szSl (eltS none p8 x),(0:Int),f))))) (n,o,p,q,IntKind.wrap IntKind.i64 ((szSl o) - (1:Int)),t,u))) (i,j,k,p2,szSl (some (repS (α:=DR) (szSl m) r0)),(0:Int),m,some (repS (α:=DR) (szSl m) r0))))) (fun k1=>brV (decide (d<(0:Int))) (k1 (b,c,d,true,a)) (k1 (b,c,d,decide ((szSl c)<=d),a))))))):
 lendV Pg q2Y 4 q2D (a,b,c,d) Q:=
 q0g (c:=q00 Tryz.f16) (ann:=q9G) Tryz.func16 rfl Tryz.call16 rfl hQ rfl (kcast (by kernel_rfl) h)
def q9A:Ann:=let x:Shape:=⟨[(7,.ref 7 0),(10,.own 1010),(11,.ref 11 0),(17,.ref 17 0)],[.var 12 (.sl (.sl tER)),.var 13 (.sl (.sl tER)),.var 14 (.sl tER),.var 15 tI,.var 16 tI,.var 43 tI,.var 44 tI,.var 48 (.sl tER),.var 49 tI,.var 50 tI,.box 7 tNum,.box 11 tER,.box 17 tER,.arr 1010 tI]⟩;(.s (.s (.s (.s (.seq (.s (.cond (some ⟨[(7,.ref 7 0),(10,.own 1010),(11,.ref 11 0)],[.box 7 tNum,.box 11 tER,.arr 1010 tI]⟩) (.s (.s (.s (.blk none (.loop ⟨[(7,.ref 7 0),(10,.own 1010),(11,.ref 11 0)],[.var 12 (.sl (.sl tER)),.var 13 (.sl (.sl tER)),.var 14 (.sl tER),.var 43 tI,.var 44 tI,.box 7 tNum,.box 11 tER,.arr 1010 tI]⟩ (.s (.s (.seq (.blk none (.s (.s (.seq (.s (.blk none (.loop x (.s (.s (.seq (.blk none (.s (.s (.s (.cond (some x) .nil .nil))))) .nil)))))) (.s (.seq (.reg [] [(4095,([.cut 10 500081],false))] none) .nil)))))) .nil)))))))) .nil)) .nil)))))
theorem qcE {Q:((Int×Int)×DE)->Prop} (a:DMo) (b:(Option (List (Int×Int)))) (c:DL) (hQ:∃ r,Q r) (h:
 (callV Pg q1i [⟨tMo,a⟩,⟨.sl tNum,b⟩,⟨tL,c⟩] tI (fun p0=>brV (notB (decide (p0=(0:Int)))) (Q (((0:Int),(0:Int)),p0,none)) (callV Pg q12 [] tER (fun p1=>joinV ((Int×Int)×DR×DL) (fun (_,i,j)=>callV Pg q2O [⟨tER,i⟩] (.tup (.pair tNum (.pair tI .unit))) (fun p3=>brV (notB (decide (p3.2.1=(0:Int)))) (Q (((0:Int),(0:Int)),p3.2.1,none)) (Q (p3.1,(0:Int),j)))) (fun k2=>brV (decide ((0:Int)<(szSl c))) (callV Pg q0A [⟨tMo,a⟩] (.sl (.sl tER)) (fun p3=>callV Pg q3T [⟨tMo,a⟩,⟨tL,c⟩] (.sl (.sl tER)) (fun p4=>callV Pg q1h [⟨.sl tNum,b⟩] (.sl tER) (fun p5=>loopV (Option (List (Option (List DR)))×Option (List (Option (List DR)))×Option (List DR)×Int×Int×(Int×Int)×DR×DL) (fun k6  (i,j,k,l,m,n,o,p)=>brV (decide (m<l)) (loopV (Option (List (Option (List DR)))×Option (List (Option (List DR)))×Option (List DR)×Int×Int×Int×Int×Option (List DR)×Int×Int×(Int×Int)×DR×DR×DL) (fun k8  (q,r,s,t,u,v,w,x,y,z,e,f,g,d)=>brV (decide (z<y)) (inS x z/\inS r t/\inS (eltS none r t) z/\callV Pg q0Y [⟨tER,eltS r0 x z⟩,⟨tER,eltS r0 (eltS none r t) z⟩] tER (fun p10=>callV Pg q1B [⟨tER,p10⟩,⟨tER,g⟩] tI (fun p11=>joinV (Option (List (Option (List DR)))×Option (List (Option (List DR)))×Option (List DR)×Int×Int×Int×Int×Option (List DR)×Int×Int×(Int×Int)×DR×DR×DL) (fun (A,B,C,D,E,F,G,H,I,J,K)=>k8 (A,B,C,D,E,F,G,H,I,IntKind.wrap IntKind.i64 (J+(1:Int)),K)) (fun k12=>brV (decide ((0:Int)<p11)) (k12 (q,r,s,t,z,v,w,x,y,z,e,f,p10,d)) (k12 (q,r,s,t,u,v,w,x,y,z,e,f,g,d)))))) (callV Pg q0n [⟨tER,g⟩] tI (fun p10=>brV (decide (p10=(0:Int))) (Q (((0:Int),(0:Int)),(5:Int),none)) (inS s u/\callV Pg q0Y [⟨tER,f⟩,⟨tER,eltS r0 s u⟩] tER (fun p11=>appC 8 d (lst (some [u]))/\inS q u/\k6 (q,r,eltS none q u,v,IntKind.wrap IntKind.i64 (w+(1:Int)),e,p11,appL d (lst (some [u])))))))) (i,j,k,m,(0:Int),l,m,k,szSl k,(0:Int),n,o,r0,p)) (k2 (n,o,p))) (p3,p4,p5,szSl c,(0:Int),((0:Int),(0:Int)),p1,none))))) (k2 (((0:Int),(0:Int)),p1,none)))))))):
 lendV Pg q2U 3 q2z (a,b,c) Q:=
 q0g (c:=q00 Tryz.f18) (ann:=q9A) Tryz.func18 rfl Tryz.call18 rfl hQ rfl (kcast (by kernel_rfl) h)
def q8B:Ann:=let x:Shape:=⟨[(5,.own 1005)],[.var 1 (.clo q2X (.pair (.fref (.sl .bool)) .unit)),.var 7 tI,.var 8 tI,.arr 1005 tI]⟩;(.s (.s (.seq (.s (.blk none (.loop x (.s (.s (.seq (.blk none (.s (.s (.cond (some x) .nil .nil)))) .nil)))))) .nil)))
theorem qbH {Q:DL->Prop} (a:Int) (b:((Option (List Bool))×Unit)) (hQ:∃ r,Q r) (h:
 (loopV ((Option (List Bool)×Unit)×Int×DE) (fun k0  (i,j,k)=>brV (decide (k.1<j)) (callV Pg q2X [⟨tI,k.1⟩,⟨.fref (.sl .bool),i.1⟩] .bool (fun p2=>joinV ((Option (List Bool)×Unit)×Int×DE) (fun (l,m,n)=>k0 (l,m,IntKind.wrap IntKind.i64 (n.1+(1:Int)),n.2)) (fun k3=>brV p2 (appC 8 k.2 (lst (some [k.1]))/\k3 (i,j,k.1,appL k.2 (lst (some [k.1])))) (k3 (i,j,k))))) (Q k.2)) (b,a,(0:Int),none))):
 lendV Pg q24 2 q3q (a,b) Q:=
 q0g (c:=q00 Tryz.f77) (ann:=q8B) Tryz.func77 rfl Tryz.call77 rfl hQ rfl (kcast (by kernel_rfl) h)
def q9F:Ann:=(.s (.s (.s (.s (.seq (.s (.blk none (.loop ⟨[(3,.ref 3 0),(10,.ref 10 0)],[.var 2 tL,.var 9 (.sl (.sl tER)),.var 28 (.sl tNum),.var 29 tI,.var 30 tI,.box 3 tMo,.box 10 (.own 27),.arr 27 .bool]⟩ .nil))) (.seq (.seq (.reg [] [(4095,([27],false))] none) (.blk none (.loop ⟨[(3,.ref 3 0),(10,.ref 10 0)],[.var 9 (.sl (.sl tER)),.var 42 tL,.var 43 tI,.var 44 tI,.box 3 tMo,.box 10 (.sl .bool)]⟩ (.s (.s (.seq (.blk none (.s (.seq (.s (.cond (some ⟨[(3,.ref 3 0),(10,.ref 10 0)],[.var 9 (.sl (.sl tER)),.var 14 tI,.var 42 tL,.var 43 tI,.var 44 tI,.box 3 tMo,.box 10 (.sl .bool)]⟩) .nil .nil)) .nil))) .nil)))))) (.seq (.regL [] [(3,([10],false))] [(3,q3q)] none) .nil)))))))
theorem qcJ {Q:DE->Prop} (a:DMo) (b:(Option (List (Int×Int)))) (c:DL) (hQ:∃ r,Q r) (h:
 (callV Pg q1i [⟨tMo,a⟩,⟨.sl tNum,b⟩,⟨tL,c⟩] tI (fun p0=>brV (notB (decide (p0=(0:Int)))) (Q (p0,none)) (callV Pg q0A [⟨tMo,a⟩] (.sl (.sl tER)) (fun p1=>mkC 1 (szSl a) (szSl a)/\loopV (DL×Option (List (Option (List DR)))×Option (List (Int×Int))×Int×Int×DMo×Unit×Option (List Bool)) (fun k2  (i,j,k,l,m,n,_,o)=>brV (decide (m<l)) (inS k m/\inS o m/\k2 (i,j,k,l,IntKind.wrap IntKind.i64 (m+(1:Int)),n,(),setO o (toN m) (decide ((0:Int)<(eltS ((0:Int),(0:Int)) k m).1)))) (loopV (Option (List (Option (List DR)))×DL×Int×Int×DMo×Option (List Bool)) (fun k4  (p,q,r,s,t,u)=>brV (decide (s<r)) (inS q s/\joinV (Option (List (Option (List DR)))×Int×DL×Int×Int×DMo×Option (List Bool)) (fun (v,w,x,y,z,e,f)=>callV Pg q5h [⟨tMo,e⟩,⟨.sl .bool,f⟩,⟨tI,w⟩] (.sl .bool) (fun p7=>k4 (v,x,y,IntKind.wrap IntKind.i64 (z+(1:Int)),e,p7))) (fun k6=>brV (decide ((0:Int)<s)) (callV Pg q5g [⟨.sl (.sl tER),p⟩,⟨.sl .bool,u⟩,⟨.bool,false⟩,⟨.cst (.fn q10),()⟩] (.sl .bool) (fun p7=>k6 (p,eltS (0:Int) q s,q,r,s,t,p7))) (k6 (p,eltS (0:Int) q s,q,r,s,t,u)))) (lendV Pg q24 2 q3q (szSl u,u,()) (fun p6=>Q ((0:Int),p6)))) (j,i,szSl i,(0:Int),n,o))) (c,p1,b,szSl b,(0:Int),a,(),some (repS (szSl a) false))))))):
 lendV Pg q2W 3 q2C (a,b,c) Q:=
 q0g (c:=q00 Tryz.f27) (ann:=q9F) Tryz.func27 rfl Tryz.call27 rfl hQ rfl (kcast (by kernel_rfl) h)
def q9x:Ann:=let x:Shape:=⟨[(1,.ref 1 0),(7,.ref 7 0)],[.var 4 (.sl (.sl tER)),.var 8 tI,.var 9 (.sl tER),.var 55 tL,.var 56 tI,.var 57 tI,.box 1 tMo,.box 7 (.own 1007),.arr 1007 (.sl tER)]⟩;(.s (.s (.s (.s (.s (.seq (.s (.blk none (.loop ⟨[(1,.ref 1 0),(5,.own 26)],[.var 4 (.sl (.sl tER)),.var 28 tI,.var 29 tI,.box 1 tMo,.arr 26 tER]⟩ .nil))) (.seq (.reg [] [(1,([26],false))] none) (.seq (.s (.blk none (.loop ⟨[(1,.ref 1 0),(7,.ref 7 0)],[.var 4 (.sl (.sl tER)),.var 8 tI,.box 1 tMo,.box 7 (.own 1007),.arr 1007 (.sl tER)]⟩ (.s (.seq (.blk none (.s (.seq (.s (.cond (some ⟨[(1,.ref 1 0),(7,.ref 7 0)],[.var 4 (.sl (.sl tER)),.var 8 tI,.var 9 (.sl tER),.box 1 tMo,.box 7 (.own 1007),.arr 1007 (.sl tER)]⟩) .nil .nil)) (.s (.blk none (.loop x (.s (.s (.seq (.blk none (.s (.s (.s (.cond (some x) .nil .nil))))) .nil))))))))) .nil))))) (.seq (.reg [] [(4095,([1007,7],false))] none) (.seq (.s (.blk none (.loop ⟨[(13,.own 1013)],[.var 7 (.fref (.sl (.sl tER))),.var 75 tI,.var 76 tI,.arr 1013 tI]⟩ (.s (.s (.seq (.blk none (.s (.reg [] [(4,([14],false))] none))) .nil)))))) .nil))))))))))
theorem qcB {Q:DE->Prop} (a:DMo) (hQ:∃ r,Q r) (h:
 (callV Pg q2N [⟨tMo,a⟩] .bool (fun p0=>brV (notB p0) (Q ((1:Int),none)) (callV Pg q2M [⟨tMo,a⟩] .bool (fun p1=>brV (notB p1) (Q ((7:Int),none)) (callV Pg q0A [⟨tMo,a⟩] (.sl (.sl tER)) (fun p2=>mkC 64 (szSl a) (szSl a)/\loopV (Option (List (Option (List DR)))×Int×Int×DMo×Option (List DR)) (fun k3  (i,j,k,l,m)=>brV (decide (k<j)) (callV Pg q12 [] tER (fun p5=>inS m k/\k3 (i,j,IntKind.wrap IntKind.i64 (k+(1:Int)),l,setO m (toN k) p5))) (loopV (Option (List (Option (List DR)))×Int×DMo×Unit×Option (List (Option (List DR)))) (fun k5  (n,o,p,_,q)=>brV (decide (o<(szSl q))) (inS q o/\joinV (Option (List (Option (List DR)))×Int×Option (List DR)×DMo×Unit×Option (List (Option (List DR)))) (fun (r,s,t,u,_,v)=>callV Pg q3W [⟨tMo,u⟩] tL (fun p8=>loopV (Option (List (Option (List DR)))×Int×Option (List DR)×DL×Int×Int×DMo×Unit×Option (List (Option (List DR)))) (fun k9  (w,x,y,z,e,f,g,_,b)=>brV (decide (f<e)) (inS z f/\callV Pg q1D [⟨tMo,g⟩,⟨.sl tER,y⟩,⟨tI,eltS (0:Int) z f⟩] (.sl tER) (fun p11=>callV Pg q3V [⟨.sl (.sl tER),b⟩,⟨.sl tER,p11⟩] .bool (fun p12=>joinV (Option (List (Option (List DR)))×Int×Option (List DR)×DL×Int×Int×DMo×Unit×Option (List (Option (List DR)))) (fun (c,d,A,B,C,D,E,_,F)=>k9 (c,d,A,B,C,IntKind.wrap IntKind.i64 (D+(1:Int)),E,(),F)) (fun k13=>brV p12 (appC 24 b (lst (some [p11]))/\k13 (w,x,y,z,e,f,g,(),appL b (lst (some [p11])))) (k13 (w,x,y,z,e,f,g,(),b)))))) (k5 (w,IntKind.wrap IntKind.i64 (x+(1:Int)),g,(),b))) (r,s,t,p8,szSl p8,(0:Int),u,(),v))) (fun k7=>brV (decide ((0:Int)<o)) (callV Pg q0P [⟨.sl (.sl tER),n⟩,⟨.sl tER,eltN none q (toN o)⟩,⟨.bool,true⟩,⟨.cst (.fn q0c),()⟩] (.sl tER) (fun p8=>k7 (n,o,p8,p,(),q))) (k7 (n,o,eltN none q (toN o),p,(),q)))) (loopV (Option (List (Option (List DR)))×Int×DE) (fun k7  (r,s,t)=>brV (decide (t.1<s)) (callV Pg q24 [⟨tI,IntKind.wrap IntKind.i64 (t.1+(1:Int))⟩,⟨.clo q1C (.pair (.fref (.sl (.sl tER))) (.pair (.fref tI) .unit)),(r,t.1,())⟩] tL (fun p9=>inS p9 (0:Int)/\appC 8 t.2 (lst (some [(eltS (0:Int) p9 (0:Int))]))/\k7 (r,s,IntKind.wrap IntKind.i64 (t.1+(1:Int)),appL t.2 (lst (some [(eltS (0:Int) p9 (0:Int))]))))) (Q ((0:Int),t.2))) (q,szSl p,(0:Int),none))) (i,(0:Int),l,(),some [m]))) (p2,szSl (some (repS (α:=DR) (szSl a) r0)),(0:Int),a,some (repS (α:=DR) (szSl a) r0))))))))):
 lendV Pg q2S 1 q2x (a) Q:=
 q0g (c:=q00 Tryz.f79) (ann:=q9x) Tryz.func79 rfl Tryz.call79 rfl hQ rfl (kcast (by kernel_rfl) h)
def q9y:Ann:=let x:Shape:=⟨[(3,.ref 3 0),(10,.own 1010),(11,.own 1011)],[.var 8 (.sl (.sl tER)),.box 3 tMo,.arr 1010 (.agg (.pair (.hd 80005) (.sl tER))),.arr 1011 (.sl tER),.pool 80005 tI]⟩;(.seq (.reg [] [(4095,([.new 80005 tI],false))] none) (.s (.s (.seq (.seq (.reg [] [] (some ⟨[(3,.ref 3 0)],[.var 1 tI,.var 2 tI,.var 36 .bool,.box 3 tMo,.pool 80005 tI]⟩)) .nil) (.s (.s (.s (.s (.seq (.reg [] [(2,([42],false)),(4095,([.opn 63 80005],false))] none) (.s (.s (.seq (.blk none (.loop x (.s (.blk (some x) (.s (.seq (.reg [] [(2,([.cut 71 71],false))] none) (.s (.seq (.s (.cond (some ⟨[(3,.ref 3 0),(10,.own 71),(11,.own 1011),(12,.ref 12 0)],[.var 8 (.sl (.sl tER)),.box 3 tMo,.box 12 (.agg (.pair (.hd 80005) (.sl tER))),.arr 71 (.agg (.pair (.hd 80005) (.sl tER))),.arr 1011 (.sl tER),.pool 80005 tI]⟩) .nil .nil)) (.s (.seq (.s (.cond (some ⟨[(3,.ref 3 0),(10,.own 71),(11,.own 1011),(12,.ref 12 0)],[.var 8 (.sl (.sl tER)),.var 13 (.sl tER),.box 3 tMo,.box 12 (.agg (.pair (.hd 80005) (.sl tER))),.arr 71 (.agg (.pair (.hd 80005) (.sl tER))),.arr 1011 (.sl tER),.pool 80005 tI]⟩) .nil .nil)) (.s (.blk none (.loop ⟨[(3,.ref 3 0),(10,.own 1010),(11,.own 1011),(12,.ref 12 0)],[.var 8 (.sl (.sl tER)),.var 13 (.sl tER),.var 103 tL,.var 104 tI,.var 105 tI,.box 3 tMo,.box 12 (.agg (.pair (.hd 80005) (.sl tER))),.arr 1010 (.agg (.pair (.hd 80005) (.sl tER))),.arr 1011 (.sl tER),.pool 80005 tI]⟩ (.s (.s (.seq (.blk none (.s (.reg [] [(3,([],true)),(13,([.giv 115 80005],false))] none))) .nil)))))))))))))))) .nil))))))))))))
theorem qcC {Q:((Option Nat)×(Int×(List (List Int))))->Prop} (a:DMo) (b:Int) (c:Int) (hQ:∃ r,Q r) (h:
 (callV Pg q2N [⟨tMo,a⟩] .bool (fun p0=>brV (notB p0) (Q (none,(1:Int),[])) (callV Pg q2M [⟨tMo,a⟩] .bool (fun p1=>brV (notB p1) (Q (none,(7:Int),[])) (joinV (Int×Int×Bool×DMo×List (List Int)) (fun (i,j,k,l,m)=>brV k (Q (none,(6:Int),m)) (callV Pg q0A [⟨tMo,l⟩] (.sl (.sl tER)) (fun p3=>mkC 64 (szSl l) (szSl l)/\inS (some (repS (α:=DR) (szSl l) r0)) i/\callV Pg q12 [] tER (fun p4=>callV Pg q0N [⟨tER,eltN r0 (some (repS (α:=DR) (szSl l) r0)) (toN i)⟩,⟨tER,p4⟩] tER (fun p5=>inS (some (repS (α:=DR) (szSl l) r0)) i/\inS (setO (some (repS (α:=DR) (szSl l) r0)) (toN i) p5) j/\callV Pg q12 [] tER (fun p6=>callV Pg q3K [⟨tER,eltN r0 (setO (some (repS (α:=DR) (szSl l) r0)) (toN i) p5) (toN j)⟩,⟨tER,p6⟩] tER (fun p7=>inS (setO (some (repS (α:=DR) (szSl l) r0)) (toN i) p5) j/\nilAll (α:=(List Int)) (mapL (fun p8=>p8.1) (some [(none,setO (setO (some (repS (α:=DR) (szSl l) r0)) (toN i) p5) (toN j) p7)]))/\loopV (Option (List (Option (List DR)))×DMo×Option (List (Option Nat×Option (List DR)))×Option (List (Option (List DR)))×List (List Int)) (fun k8  (n,o,p,q,r)=>brV (decide ((0:Int)<(szSl p))) (joinV (Option (List (Option (List DR)))×DMo×Option (List (Option Nat×Option (List DR)))×Option (List (Option (List DR)))×List (List Int)) (fun s=>k8 s) (fun k10=>inS p (0:Int)/\inW p (1:Int) (szSl p)/\callV Pg q2c [⟨.sl tER,(eltN (none,none) p (toN (0:Int))).2⟩] tER (fun p11=>callV Pg q0n [⟨tER,p11⟩] tI (fun p12=>brV (notB (decide (p12=(0:Int)))) (Q ((eltN (none,none) p (toN (0:Int))).1,(0:Int),r)) (joinV (Option (List (Option (List DR)))×DMo×(Option Nat×Option (List DR))×Option (List (Option Nat×Option (List DR)))×Option (List (Option (List DR)))×List (List Int)) (fun (s,t,u,v,w,x)=>joinV (Option (List (Option (List DR)))×Option (List DR)×DMo×(Option Nat×Option (List DR))×Option (List (Option Nat×Option (List DR)))×Option (List (Option (List DR)))×List (List Int)) (fun (y,z,e,f)=>callV Pg q3W [⟨tMo,e⟩] tL (fun p15=>loopV (Option (List (Option (List DR)))×Option (List DR)×DL×Int×Int×DMo×(Option Nat×Option (List DR))×Option (List (Option Nat×Option (List DR)))×Option (List (Option (List DR)))×List (List Int)) (fun k16  (g,d,A,B,C,D,E,F,G,H)=>brV (decide (C<B)) (inS A C/\ownV Pg q56 [⟨tL,unH H E.1⟩] tI (fun p18=>appC 8 p18 (lst (some [(eltS (0:Int) A C)]))/\callV Pg q1D [⟨tMo,D⟩,⟨.sl tER,d⟩,⟨tI,eltS (0:Int) A C⟩] (.sl tER) (fun p19=>appC 48 F (lst (mapL (fun x20=>(gvH (α:=(List Int)) (appL p18 (lst (some [(eltS (0:Int) A C)]))) (lenL H),x20.2)) (some [((),p19)])))/\k16 (g,d,A,B,IntKind.wrap IntKind.i64 (C+(1:Int)),D,E,appL F (lst (mapL (fun x20=>(gvH (α:=(List Int)) (appL p18 (lst (some [(eltS (0:Int) A C)]))) (lenL H),x20.2)) (some [((),p19)]))),G,gvL H (appL p18 (lst (some [(eltS (0:Int) A C)]))))))) (k10 (g,D,F,G,H))) (y,z,p15,szSl p15,(0:Int),e,f))) (fun k14=>brV (decide ((0:Int)<(szH x u.1))) (callV Pg q0P [⟨.sl (.sl tER),s⟩,⟨.sl tER,u.2⟩,⟨.bool,false⟩,⟨.cst (.fn q0c),()⟩] (.sl tER) (fun p15=>k14 (s,p15,t,u,v,w,x))) (k14 (s,u.2,t,u,v,w,x)))) (fun k13=>brV (decide ((0:Int)<(szH r (eltN (none,none) p (toN (0:Int))).1))) (callV Pg q3V [⟨.sl (.sl tER),q⟩,⟨.sl tER,(eltN (none,none) p (toN (0:Int))).2⟩] .bool (fun p14=>brV (notB p14) (k10 (n,o,slcS p (1:Int) (szSl p),q,r)) (appC 24 q (lst (some [(eltN (none,none) p (toN (0:Int))).2]))/\k13 (n,o,eltN (none,none) p (toN (0:Int)),slcS p (1:Int) (szSl p),appL q (lst (some [(eltN (none,none) p (toN (0:Int))).2])),r)))) (k13 (n,o,eltN (none,none) p (toN (0:Int)),slcS p (1:Int) (szSl p),q,r)))))))) (Q (none,(5:Int),r))) (p3,l,mapL (fun (p8:(Option (List Int))×Option (List DR))=>(none,p8.2)) (some [(none,setO (setO (some (repS (α:=DR) (szSl l) r0)) (toN i) p5) (toN j) p7)]),none,m)))))))) (fun k2=>brV (decide (b<(0:Int))) (k2 (b,c,true,a,[])) (brV (decide (c<(0:Int))) (k2 (b,c,true,a,[])) (k2 (b,c,decide ((szSl a)<=(maxI b c)),a,[])))))))))):
 lendV Pg q29 3 q2y (a,b,c) Q:=
 q0g (c:=q00 Tryz.f39) (ann:=q9y) Tryz.func39 rfl Tryz.call39 rfl hQ rfl (kcast (by kernel_rfl) h)
end Go.Proofs.Pf
namespace Go.Proofs.Pf.B
open Go Go.VM
abbrev nth2 (l:List (Int×Int)) (i:Nat):Int×Int:=l.getD i (0,0)
theorem eltS_n {l:Option (List (Int×Int))} {i:Nat}:eltS ((0:Int),(0:Int)) l (i:Int)=nth2 (l.getD []) i:=by simp only[eltS,Int.toNat_natCast]
theorem q3j {l:Option (List (Int×Int))} (h:∀ i,i<(l.getD []).length->NumOk (nth2 (l.getD []) i)) (hn:(l.getD []).length<=1000):
 callV Pg q1h [⟨(.sl tNum),l⟩] (.sl tER) fun r=>RL r (fun i=>numQ (nth2 (l.getD []) i)) (l.getD []).length:=by
 refine qc7 l (RL.ex _ _) (rangeB (n:=(l.getD []).length) (fun i x=>(l,(((l.getD []).length:Int),((i:Int),x)))) (fun i x=>RL x (fun i=>numQ (nth2 (l.getD []) i)) i) none rfl (RL.nil _) (fun p=>p.2.2.1.toNat) (fun _ _=>rfl) (fun _ _ _=>rfl) ?_ ?_)
 . intro k i x hi hx hk
   (try dsimp only)
   refine⟨in_s hi,?_⟩
   rw[eltS_n]
   refine (s_Rat longS (h i hi)).mono fun z hz=>⟨hx.c8 (by omega),?_⟩
   rw[wi1 hi (by omega)]
   exact hk _ (hx.app hz)
 . intro _ x hx
   exact hx
def outsQ (f:Nat->Rat) (n:Nat):Option (List (Int×Int))×Int×Unit:=if ∀ i,i<n->(outQ (f i)).2.1=0 then (optL (tab (fun i=>(outQ (f i)).1) n),0,()) else (none,3,())
theorem outQ_err (q:Rat):(outQ q).2.1=0∨(outQ q).2.1=3:=by
 unfold outQ;split
 . exact .inl rfl
 . exact .inr rfl
theorem s_Outs1 {l:Option (List DR)} {f:Nat->Rat} {n:Nat} (hl:RL l f n) (hn:n<=1000):
 lendV Pg q4U 1 q3s l fun q=>(q.2,(q.1,()))=outsQ f n:=by
 have e1:szSl l=(n:Int):=by show ((l.getD []).length:Int)=n;rw[hl.1]
 refine qc6 (Q:=fun q=>(q.2,(q.1,()))=outsQ f n) l ⟨((outsQ f n).2.1,(outsQ f n).1),rfl⟩ ?_
 rw[e1]
 refine rangeB (n:=n) (fun i x=>(l,((n:Int),((i:Int),x)))) (fun i x=>(∀ j,j<i->(outQ (f j)).2.1=0)/\x=optL (tab (fun i=>(outQ (f i)).1) i)) none rfl ⟨fun j hj=>absurd hj (by omega),rfl⟩ (fun p=>p.2.2.1.toNat) (fun _ _=>rfl) (fun _ _ _=>rfl) ?_ ?_
 . intro k i x hi hx hk
   obtain⟨hx,rfl⟩:=hx
   (try dsimp only)
   refine⟨in_s (by rw[hl.1];exact hi),?_⟩
   rw[q05]
   refine (s_Out (hl.2 i hi)).mono ?_
   rintro _ rfl
   refine br_c (fun hb=>?_) fun hb=>⟨?_,?_⟩
   . have hb:¬ (outQ (f i)).2.1=0:=by simpa[notB] using hb
     have e3:=(outQ_err (f i)).resolve_left hb
     show (none,(_,()))=_
     rw[e3,outsQ,if_neg (fun h=>hb (h i hi))]
   . show ((((optL (tab (fun i=>(outQ (f i)).1) i))).getD []).length+1)*16<=140737488355328
     rw[q07,tab_len];omega
   . have hb:(outQ (f i)).2.1=0:=by simpa[notB] using hb
     rw[wi1 hi (by omega)]
     refine hk _ ⟨fun j hj=>?_,?_⟩
     . rcases Nat.lt_or_ge j i with hlt | hge
       . exact hx j hlt
       . obtain rfl:j=i:=by omega
         exact hb
     . show appL _ [_]=_
       rw[q0G,q1V]
 . intro _ x hx
   obtain⟨hx,rfl⟩:=hx
   show (_,_)=_
   rw[outsQ,if_pos hx]
end Go.Proofs.Pf.B
namespace Go.Proofs.Pf.B
open Go Go.VM
def bs_ (m:DMo) (s:Nat):List DBr:=(ch ((stt (m.getD []) s).2.2.getD []) 0).2.getD []
def brQ (l:List DBr):Nat->Nat->Rat
 | 0,_=>0
 | j+1,t=>if (br l j).1=(t:Int) then numQ (br l j).2 else brQ l j t
def rowQ (m:DMo) (s t:Nat):Rat:=brQ (bs_ m s) (bs_ m s).length t
def hds (n i:Nat):Option (List (Option Nat)):=some (tab (fun s=>if s<i then some s else none) n)
theorem q36 (n i:Nat):((hds n i).getD []).length=n:=tab_len _ _
theorem hds_get {n i s:Nat} (h:s<n):eltN none (hds n i) s=if s<i then some s else none:=tab_get _ _ _ _ h
theorem q77 (n:Nat):hdL (α:=List DR) (some (repS (n:Int) none))=hds n 0:=by
 simp only[hdL,hds,repS,Option.map_some,Int.toNat_natCast,List.map_replicate]
 congr 1
 rw[List.eq_replicate_iff.2 ⟨tab_len _ _,fun b hb=>?_⟩]
 simp only[tab,List.mem_map,List.mem_range] at hb
 obtain⟨a,_,rfl⟩:=hb
 exact if_neg (by omega)
theorem hds_set {n i:Nat} (h:i<n):setO (hds n i) i (some i)=hds n (i+1):=by
 show some ((tab _ n).set i (some i))=some (tab _ n)
 congr 1
 apply List.ext_getElem
 . simp[tab]
 . intro j h1 h2
   rw[List.getElem_set]
   simp only[tab,List.getElem_map,List.getElem_range]
   by_cases e:i=j
   . subst e;rw[if_pos rfl,if_pos (by omega)]
   . rw[if_neg e]
     by_cases hji:j<i
     . rw[if_pos hji,if_pos (by omega)]
     . rw[if_neg hji,if_neg (by omega)]
theorem moOk.bs {m:DMo} (h:moOk m) {s:Nat} (hs:s<(m.getD []).length):(bs_ m s).length<=8/\(1<=((stt (m.getD []) s).2.2.getD []).length)/\∀ k,k<(bs_ m s).length->0<=(br (bs_ m s) k).1/\(br (bs_ m s) k).1<((m.getD []).length:Int)/\NumOk (br (bs_ m s) k).2:=by
 obtain⟨h1,h2⟩:=h.2 s hs
 have h3:=h2 0 (by have:=h1.2.2.1;omega)
 refine⟨h3.2.1.2,h1.2.2.1,fun k hk=>?_⟩
 have h4:=h3.2.2.1 k hk
 have h5:-1<=preTo (bs_ m s) k:=pre_le (i:=k) (fun j hj=>h3.2.2.1 j (by have:k<(bs_ m s).length:=hk;exact Nat.lt_trans hj this))
 have h6:preTo (bs_ m s) k<(br (bs_ m s) k).1:=h4.1
 exact⟨by omega,h4.2.1,h4.2.2.1⟩
theorem RM.ex (P:Nat->Nat->Rat) (n:Nat):∃ r,RM r P n:=by
 refine⟨some (tab (fun i=>(RL.ex (P i) n).choose) n),tab_len _ _,fun i hi=>?_⟩
 show RL ((tab _ _).getD i none) _ _
 rw[tab_get _ _ _ _ hi]
 exact (RL.ex (P i) n).choose_spec
def RowsOk (m:DMo) (n i:Nat) (ls:List (List DR)):Prop:=ls.length=i/\∀ s,s<i->RL (some (ls.getD s [])) (rowQ m s) n
theorem q1s {m:DMo} (h:moOk m):callV Pg q0A [⟨tMo,m⟩] (.sl (.sl tER)) fun r=>RM r (rowQ m) (m.getD []).length:=by
 have hn:=h.1.2
 refine qb9 m (RM.ex _ _) ⟨?_,?_,?_⟩
 . show 0<=((m.getD []).length:Int)/\((m.getD []).length:Int)<=((m.getD []).length:Int)/\((m.getD []).length:Int)*24<=281474976710656
   omega
 . intro y hy
   have hy:y∈List.replicate _ none:=hy
   rw[List.eq_of_mem_replicate hy];rfl
 generalize hN:(m.getD []).length=n at *
 have e0:szSl m=(n:Int):=by show ((m.getD []).length:Int)=n;rw[hN]
 rw[e0,q77]
 refine rangeB (n:=n) (fun i (x:Option (List (Option Nat))×List (List DR))=>((n:Int),((n:Int),((i:Int),(m,x))))) (fun i x=>x.1=hds n i/\RowsOk m n i x.2) (hds n 0,[]) rfl ⟨rfl,rfl,fun s hs=>absurd hs (by omega)⟩ (fun p=>p.2.2.1.toNat) (fun _ _=>rfl) (fun _ _ _=>rfl) ?_ ?_
 . rintro k0 i ⟨hd,ls⟩ hi ⟨hx1,hx2⟩ hk0
   have hx1:hd=hds n i:=hx1
   have hx2:RowsOk m n i ls:=hx2
   subst hx1
   obtain⟨b1,b2,b3⟩:=h.bs (s:=i) (by rw[hN];exact hi)
   dsimp only
   refine⟨⟨by omega,by omega,by omega⟩,in_s (by rw[q36];exact hi),in_s (by omega),?_⟩
   rw[q0C]
   refine⟨in_s (i:=0) (by omega),?_⟩
   have e1:(eltS (((0:Int),(0:Int)),none) (stt (m.getD []) i).2.2 (0:Int)).2.getD []=bs_ m i:=rfl
   have e2:szSl (eltS (((0:Int),(0:Int)),none) (stt (m.getD []) i).2.2 (0:Int)).2=((bs_ m i).length:Int):=rfl
   rw[e2]
   generalize (eltS (((0:Int),(0:Int)),none) (stt (m.getD []) i).2.2 (0:Int)).2=bl at *
   have e3:gvH (α:=List DR) (some (repS (n:Int) r0)) (lenL ls)=some i:=by show some ls.length=some i;rw[hx2.1]
   rw[e3,show toN (i:Int)=i from Int.toNat_natCast i,hds_set hi]
   refine rangeB (n:=(bs_ m i).length) (fun k (x:List (List DR))=>((n:Int),((i:Int),((n:Int),((i:Int),(bl,(((bs_ m i).length:Int),((k:Int),(m,(hds n (i+1),x)))))))))) (fun k x=>x.length=i+1/\(∀ s,s<i->RL (some (x.getD s [])) (rowQ m s) n)/\RL (some (x.getD i [])) (brQ (bs_ m i) k) n) (gvL ls (some (repS (n:Int) r0))) rfl ⟨?_,fun s hs=>?_,?_⟩ (fun p=>p.2.2.2.2.2.2.1.toNat) (fun _ _=>rfl) (fun _ _ _=>rfl) ?_ ?_
   . show (ls ++ [_]).length=i+1
     rw[List.length_append,hx2.1];rfl
   . show RL (some ((ls ++ [_]).getD s [])) _ _
     rw[List.getD_eq_getElem?_getD,List.getElem?_append_left (by rw[hx2.1];exact hs),<-List.getD_eq_getElem?_getD]
     exact hx2.2 s hs
   . show RL (some ((ls ++ [_]).getD i [])) _ _
     rw[List.getD_eq_getElem?_getD,List.getElem?_append_right (by rw[hx2.1];omega),hx2.1,Nat.sub_self]
     exact RL.zero n
   . rintro k1 k x hk hx hk1
     obtain⟨x1,x2,x3⟩:=hx
     dsimp only
     obtain⟨c1,c2,c3⟩:=b3 k hk
     refine⟨in_s (by rw[e1];exact hk),in_s (by rw[q36];exact hi),?_⟩
     rw[q40,e1]
     refine (s_Rat longS c3).mono fun z hz=>?_
     generalize hB:br (bs_ m i) k=b at *
     obtain⟨t,ht⟩:∃ t:Nat,b.1=(t:Int):=⟨b.1.toNat,by omega⟩
     have htn:t<n:=by omega
     rw[show toN (i:Int)=i from Int.toNat_natCast i,hds_get hi,if_pos (by omega)]
     have hlen:(x.getD i []).length=n:=x3.1
     refine⟨⟨by omega,?_⟩,?_⟩
     . show b.1<(((x.getD ((some i).getD x.length) []).length:Nat):Int)
       rw[show (some i).getD x.length=i from rfl,hlen];omega
     . rw[ht,show toN (t:Int)=t from Int.toNat_natCast t,wi1 hk (by omega)]
       refine hk1 _ ⟨?_,fun s hs=>?_,?_⟩
       . show (x.set i _).length=i+1
         simpa using x1
       . show RL (some ((x.set i _).getD s [])) _ _
         rw[List.getD_eq_getElem?_getD,List.getElem?_set_ne (by omega),<-List.getD_eq_getElem?_getD]
         exact x2 s hs
       . show RL (some ((x.set i _).getD i [])) _ _
         rw[List.getD_eq_getElem?_getD,List.getElem?_set_self (by omega)]
         refine RL.set (l:=some (x.getD i [])) x3 htn ?_ fun j hj hne=>?_
         . show RV z (brQ (bs_ m i) (k+1) t)
           simp only[brQ,hB,ht,if_true];exact hz
         . simp only[brQ,hB,ht]
           rw[if_neg (by omega)]
   . rintro k1 x ⟨x1,x2,x3⟩
     dsimp only
     rw[wi1 hi (by omega)]
     refine hk0 (_,_) ⟨rfl,x1,fun s hs=>?_⟩
     rcases Nat.lt_or_ge s i with hlt | hge
     . exact x2 s hlt
     . obtain rfl:s=i:=by omega
       exact x3
 . rintro _ ⟨hd,ls⟩ ⟨hx1,hx2⟩
   have hx1:hd=hds n n:=hx1
   have hx2:RowsOk m n n ls:=hx2
   subst hx1
   refine⟨?_,fun s hs=>?_⟩
   . show ((tab _ n).map _).length=n
     simp[tab]
   . show RL (((tab _ n).map _).getD s none) _ _
     rw[List.getD_eq_getElem?_getD,List.getElem?_map]
     simp only[tab,List.getElem?_map,List.getElem?_range hs,Option.map_some,Option.getD_some,if_pos hs,unH]
     exact hx2.2 s hs
end Go.Proofs.Pf.B
namespace Go.Proofs.Pf.B
open Go Go.VM
abbrev KK:Nat:=1152921504606846976
theorem kk_pow (e:Nat):KK ^ e=1073741824 ^ (2*e):=by rw[Nat.pow_mul]
theorem kk_lt {a e:Nat} (h:a<=KK ^ e):a<1073741824 ^ (2*e+1):=by
 rw[kk_pow] at h
 have h2:0<1073741824 ^ (2*e):=Nat.pow_pos (by decide)
 rw[Nat.pow_succ]
 generalize 1073741824 ^ (2*e)=x at *
 omega
theorem kk_pos (e:Nat):0<KK ^ e:=Nat.pow_pos (by decide)
theorem kk_le {a b:Nat} (h:a<=b):KK ^ a<=KK ^ b:=Nat.pow_le_pow_right (by decide) h
theorem kk_mul {a b x y:Nat} (h:x<=KK ^ a) (g:y<=KK ^ b):x*y<=KK ^ (a+b):=by rw[Nat.pow_add];exact Nat.mul_le_mul h g
def FB (n e:Nat) (x:Nat->Rat):Prop:=∃ D,0<D/\D<=KK ^ e/\∀ s,s<n->QD D (KK ^ e) (x s)
theorem FB.fit {n e:Nat} {x:Nat->Rat} (h:FB n e x) {s:Nat} (hs:s<n):Pf.RFit (2*e+1) (x s)/\RFit (2*e+1) (x s):=by
 obtain⟨D,h1,h2,h3⟩:=h
 exact (h3 s hs).fit h1 (kk_lt h2) (kk_lt (Nat.le_refl _))
theorem FB.mono {n e e':Nat} {x:Nat->Rat} (h:FB n e x) (he:e<=e'):FB n e' x:=by
 obtain⟨D,h1,h2,h3⟩:=h
 exact⟨D,h1,Nat.le_trans h2 (kk_le he),fun s hs=>(h3 s hs).mono (kk_le he)⟩
theorem FB.pick {n e:Nat} {x:Nat->Rat} (h:FB n e x) (c:Nat->Bool):FB n e fun s=>if c s=true then x s else 0:=by
 obtain⟨D,h1,h2,h3⟩:=h
 refine⟨D,h1,h2,fun s hs=>?_⟩
 dsimp only
 split
 . exact h3 s hs
 . exact QD.zero _ _
theorem FB.congr {n e:Nat} {x y:Nat->Rat} (h:FB n e x) (g:∀ s,s<n->y s=x s):FB n e y:=by
 obtain⟨D,h1,h2,h3⟩:=h
 exact⟨D,h1,h2,fun s hs=>by rw[g s hs];exact h3 s hs⟩
theorem FB.seen {m:DMo} {e:Nat} {x:Nat->Rat} {n:Nat} (h:FB n e x) (mark:Int):FB n e (seenQ m x mark):=
 (h.pick fun s=>decide ((stt (m.getD []) s).2.1=mark)).congr fun s _=>by simp only[seenQ,decide_eq_true_eq]
theorem FB.of {n:Nat} {x:Nat->Rat} (h:∀ s,s<n->(x s).num.natAbs<=KK/\(x s).den<=KK):FB n (n+1) x:=by
 obtain⟨D,h1,h2,h3⟩:=QD.common x n h
 exact⟨D,h1,Nat.le_trans h2 (kk_le (by omega)),fun s hs=>(h3 s hs).mono (by rw[Nat.pow_succ,Nat.mul_comm];exact Nat.mul_le_mul_right _ h2)⟩
def MB (n e:Nat) (P:Nat->Nat->Rat):Prop:=∃ D,0<D/\D<=KK ^ e/\∀ s t,s<n->t<n->QD D (KK ^ e) (P s t)
theorem MB.of {n:Nat} {P:Nat->Nat->Rat} (h:∀ s t,s<n->t<n->(P s t).num.natAbs<=KK/\(P s t).den<=KK):MB n (n*n+1) P:=by
 rcases Nat.eq_zero_or_pos n with h0 | h0
 . subst h0;exact⟨1,by omega,by decide,fun s t hs=>absurd hs (by omega)⟩
 obtain⟨D,h1,h2,h3⟩:=FB.of (n:=n*n) (x:=fun i=>P (i / n) (i % n)) fun i hi=>h _ _ (Nat.div_lt_of_lt_mul hi) (Nat.mod_lt _ h0)
 refine⟨D,h1,h2,fun s t hs ht=>?_⟩
 have h4:=h3 (t+n*s) (by
  have:n*s+n<=n*n:=by rw[<-Nat.mul_succ];exact Nat.mul_le_mul_left _ hs
  omega)
 dsimp only at h4
 rw[Nat.add_mul_div_left _ _ h0,Nat.div_eq_of_lt ht,Nat.zero_add,Nat.add_mul_mod_self_left,Nat.mod_eq_of_lt ht] at h4
 exact h4
theorem MB.fit {n e:Nat} {P:Nat->Nat->Rat} (h:MB n e P) {s t:Nat} (hs:s<n) (ht:t<n):Pf.RFit (2*e+1) (P s t)/\RFit (2*e+1) (P s t):=by
 obtain⟨D,h1,h2,h3⟩:=h
 exact (h3 s t hs ht).fit h1 (kk_lt h2) (kk_lt (Nat.le_refl _))
theorem FB.prod {n a b:Nat} {x:Nat->Rat} {P:Nat->Nat->Rat} (h:FB n a x) (g:MB n b P) {s t:Nat} (hs:s<n) (ht:t<n):Pf.RFit (2*(a+b)+1) (x s*P s t)/\RFit (2*(a+b)+1) (x s*P s t):=by
 obtain⟨D,h1,h2,h3⟩:=h
 obtain⟨E,g1,g2,g3⟩:=g
 exact ((h3 s hs).mul (g3 s t hs ht)).fit (Nat.mul_pos h1 g1) (kk_lt (kk_mul h2 g2)) (kk_lt (kk_mul (Nat.le_refl _) (Nat.le_refl _)))
theorem FB.step {n a b c:Nat} {x:Nat->Rat} {P:Nat->Nat->Rat} (h:FB n a x) (g:MB n b P) (hn:n<=KK) (hc:c<=n):FB n (a+b+1) (stepQ P x c):=by
 obtain⟨D,h1,h2,h3⟩:=h
 obtain⟨E,g1,g2,g3⟩:=g
 refine⟨D*E,Nat.mul_pos h1 g1,Nat.le_trans (kk_mul h2 g2) (kk_le (by omega)),fun t ht=>?_⟩
 refine (QD.sum c fun s hs=>(h3 s (by omega)).mul (g3 s t (by omega) ht)).mono ?_
 rw[Nat.pow_succ,Nat.mul_comm,Nat.pow_add]
 exact Nat.mul_le_mul_left _ (by omega)
end Go.Proofs.Pf.B
namespace Go.Proofs.Pf.B
open Go Go.VM
abbrev cntL (s:DSt):Int:=((s.2.2.getD []).length:Int)
end Go.Proofs.Pf.B
namespace Go.Proofs.Pf
open Go Go.VM
set_option maxRecDepth 100000
def q8T:Ann:=let x:Shape:=⟨[(4,.ref 4 0),(7,.own 11)],[.var 0 (.sl tER),.var 2 (.sl tER),.var 13 tI,.var 14 tI,.box 4 tER,.arr 11 tER]⟩;(.s (.s (.seq (.s (.blk none (.loop x (.s (.s (.seq (.blk none (.s (.s (.s (.cond (some x) .nil .nil))))) .nil)))))) .nil)))
theorem qbZ {Q:(Option (List DR))->Prop} (a:(Option (List DR))) (b:DR) (c:(Option (List DR))) (hQ:∃ r,Q r) (h:
 (mkC 64 (szSl a) (szSl a)/\loopV (Option (List DR)×Option (List DR)×Int×Int×DR×Option (List DR)) (fun k0  (i,j,k,l,m,n)=>brV (decide (l<k)) (inS i l/\inS n l/\inS j l/\callV Pg q0n [⟨tER,eltS r0 j l⟩] tI (fun p2=>joinV (Option (List DR)×Option (List DR)×Int×Int×DR×Option (List DR)) (fun (o,p,q,r,s)=>k0 (o,p,q,IntKind.wrap IntKind.i64 (r+(1:Int)),s)) (fun k3=>brV (notB (decide (p2=(0:Int)))) (inS i l/\inS j l/\callV Pg q0Y [⟨tER,m⟩,⟨tER,eltS r0 j l⟩] tER (fun p4=>callV Pg q0N [⟨tER,eltS r0 i l⟩,⟨tER,p4⟩] tER (fun p5=>inS (setO n (toN l) (eltS r0 i l)) l/\k3 (i,j,k,l,m,setO (setO n (toN l) (eltS r0 i l)) (toN l) p5)))) (k3 (i,j,k,l,m,setO n (toN l) (eltS r0 i l)))))) (Q n)) (a,c,szSl a,(0:Int),b,some (repS (szSl a) r0)))):
 callV Pg q3P [⟨(.sl tER),a⟩,⟨tER,b⟩,⟨(.sl tER),c⟩] (.sl tER) Q:=
 q02 (c:=q00 Tryz.f170) (ann:=q8T) Tryz.func170 rfl Tryz.call170 rfl rfl hQ (kcast (by kernel_rfl) h)
def q8V:Ann:=(.s (.seq (.reg [] [(5,([7],false))] none) .nil))
theorem qc1 {Q:(Option (List DR))->Prop} (a:(Option (List DR))) (b:DR) (hQ:∃ r,Q r) (h:
 (mkC 64 (szSl a) (szSl a)/\callV Pg q3P [⟨.sl tER,some (repS (szSl a) r0)⟩,⟨tER,b⟩,⟨.sl tER,a⟩] (.sl tER) (fun p0=>Q p0))):
 callV Pg q4S [⟨(.sl tER),a⟩,⟨tER,b⟩] (.sl tER) Q:=
 q02 (c:=q00 Tryz.f169) (ann:=q8V) Tryz.func169 rfl Tryz.call169 rfl rfl hQ (kcast (by kernel_rfl) h)
def q9i:Ann:=.nil
theorem qcm {Q:(Option (List DR))->Prop} (a:(Option (List DR))) (hQ:∃ r,Q r) (h:
 (brV (Option.isNone a) (Q none) (appC 64 (some []) (lst a)/\Q (appL (some []) (lst a))))):
 ownV Pg q54 [⟨(.sl tER),a⟩] tER Q:=
 q2m (c:=q00 Tryz.f154) (ann:=q9i) Tryz.func154 rfl Tryz.call154 rfl rfl hQ (kcast (by kernel_rfl) h)
def q9j:Ann:=.nil
theorem qcn {Q:(Option (List (Option (List DR))))->Prop} (a:(Option (List (Option (List DR))))) (hQ:∃ r,Q r) (h:
 (brV (Option.isNone a) (Q none) (appC 24 (some []) (lst a)/\Q (appL (some []) (lst a))))):
 ownV Pg q55 [⟨(.sl (.sl tER)),a⟩] (.sl tER) Q:=
 q2m (c:=q00 Tryz.f168) (ann:=q9j) Tryz.func168 rfl Tryz.call168 rfl rfl hQ (kcast (by kernel_rfl) h)
def q8U:Ann:=let x:Shape:=⟨[(6,.ref 6 0),(7,.own 16),(8,.ref 8 0),(9,.own 1009)],[.var 10 tI,.var 11 tI,.var 18 tI,.var 19 tI,.var 87 tI,.var 88 tI,.box 6 tER,.box 8 tER,.arr 16 (.sl tER),.arr 1009 tI]⟩;let y:Shape:=⟨[(6,.ref 6 0),(7,.own 16),(8,.ref 8 0),(9,.own 1009)],[.var 18 tI,.var 19 tI,.box 6 tER,.box 8 tER,.arr 16 (.sl tER),.arr 1009 tI]⟩;(.s (.seq (.reg [] [(1,([],true))] none) (.s (.s (.seq (.s (.blk none (.loop y (.s (.s (.seq (.blk (some y) (.s (.s (.s (.seq (.blk none (.loop ⟨[(6,.ref 6 0),(7,.own 16),(8,.ref 8 0),(9,.own 1009)],[.var 10 tI,.var 11 tI,.var 12 tI,.var 18 tI,.var 19 tI,.box 6 tER,.box 8 tER,.arr 16 (.sl tER),.arr 1009 tI]⟩ (.seq (.seq (.reg [] [] (some ⟨[(6,.ref 6 0),(7,.own 16),(8,.ref 8 0),(9,.own 1009)],[.var 10 tI,.var 11 tI,.var 12 tI,.var 18 tI,.var 19 tI,.var 39 .bool,.box 6 tER,.box 8 tER,.arr 16 (.sl tER),.arr 1009 tI]⟩)) .nil) .nil))) (.s (.seq (.s (.cond (some ⟨[(6,.ref 6 0),(7,.own 16),(8,.ref 8 0),(9,.own 1009)],[.var 10 tI,.var 11 tI,.var 18 tI,.var 19 tI,.box 6 tER,.box 8 tER,.arr 16 (.sl tER),.arr 1009 tI]⟩) .nil .nil)) (.s (.s (.s (.seq (.s (.blk none (.loop x (.s (.s (.seq (.blk none (.s (.seq (.reg [] [] (some ⟨[(6,.ref 6 0),(7,.own 16),(8,.ref 8 0),(9,.own 1009)],[.var 10 tI,.var 11 tI,.var 14 tI,.var 18 tI,.var 19 tI,.var 87 tI,.var 88 tI,.var 104 .bool,.box 6 tER,.box 8 tER,.arr 16 (.sl tER),.arr 1009 tI]⟩)) (.cond (some x) .nil .nil)))) .nil)))))) .nil))))))))))) .nil)))))) .nil)))))
theorem qc0 {Q:((Option (List (Option (List DR))))×(DL×(DR×Unit)))->Prop} (a:(Option (List (Option (List DR))))) (b:Int) (hQ:∃ r,Q r) (h:
 (ownV Pg q55 [⟨.sl (.sl tER),a⟩] (.sl tER) (fun p0=>callV Pg q22 [⟨tI,(1:Int)⟩] tER (fun p1=>loopV (Int×Int×DR×DR×Option (List (Option (List DR)))×DL) (fun k2  (i,j,k,l,m,n)=>brV (decide (j<i)) (joinV (Int×Int×DR×DR×Option (List (Option (List DR)))×DL) (fun (o,p,q)=>k2 (o,IntKind.wrap IntKind.i64 (p+(1:Int)),q)) (fun k4=>loopV (Int×Int×Int×Int×Int×DR×DR×Option (List (Option (List DR)))×DL) (fun k5  (o,p,q,r,s,t,u,v,w)=>joinV (Int×Int×Int×Int×Int×Bool×DR×DR×Option (List (Option (List DR)))×DL) (fun (x,y,z,e,f,g,c,d,A,B)=>brV g (k5 (x,y,IntKind.wrap IntKind.i64 (z+(1:Int)),e,f,c,d,A,B)) (brV (decide (z=(szSl A))) (k4 (e,f,c,d,A,B)) (joinV (Int×Int×Int×Int×DR×DR×Option (List (Option (List DR)))×DL) (fun (C,D,E,F,G,H,I,J)=>inS I D/\inS (eltN none I (toN D)) C/\callV Pg q0Y [⟨tER,H⟩,⟨tER,eltS r0 (eltN none I (toN D)) C⟩] tER (fun p9=>inS I D/\callV Pg q22 [⟨tI,(1:Int)⟩] tER (fun p10=>callV Pg q3J [⟨tER,p10⟩,⟨tER,eltS r0 (eltN none I (toN D)) C⟩] tER (fun p11=>callV Pg q4S [⟨.sl tER,eltN none I (toN D)⟩,⟨tER,p11⟩] (.sl tER) (fun p12=>inS I D/\loopV (Int×Int×Int×Int×Int×Int×DR×DR×Option (List (Option (List DR)))×DL) (fun k13  (K,L,M,N,O,P,R,S,T,U)=>brV (decide (P<O)) (joinV (Int×Int×Int×Int×Int×Int×Int×Bool×DR×DR×Option (List (Option (List DR)))×DL) (fun (V,W,X,Y,Z,ii,ij,ik,il,im,io,ip)=>joinV (Int×Int×Int×Int×Int×Int×DR×DR×Option (List (Option (List DR)))×DL) (fun (iq,ir,it,iu,iv,iw,ix)=>k13 (iq,ir,it,iu,iv,IntKind.wrap IntKind.i64 (iw+(1:Int)),ix)) (fun k16=>brV ik (inS io X/\inS io X/\inS (eltN none io (toN X)) V/\callV Pg q2I [⟨tER,eltS r0 (eltN none io (toN X)) V⟩] tER (fun p17=>inS io W/\callV Pg q3P [⟨.sl tER,eltN none io (toN X)⟩,⟨tER,p17⟩,⟨.sl tER,eltN none io (toN W)⟩] (.sl tER) (fun p18=>inS io X/\k16 (V,W,Y,Z,ii,ij,il,im,setO io (toN X) p18,ip)))) (k16 (V,W,Y,Z,ii,ij,il,im,io,ip)))) (fun k15=>brV (notB (decide (P=L))) (inS T P/\inS (eltN none T (toN P)) K/\callV Pg q0n [⟨tER,eltS r0 (eltN none T (toN P)) K⟩] tI (fun p16=>k15 (K,L,P,M,N,O,P,notB (decide (p16=(0:Int))),R,S,T,U))) (k15 (K,L,P,M,N,O,P,false,R,S,T,U)))) (appC 8 U (lst (some [K]))/\k4 (M,N,R,S,T,appL U (lst (some [K]))))) (C,D,E,F,szSl (setO I (toN D) p12),(0:Int),G,p9,setO I (toN D) p12,J)))))) (fun k8=>brV (notB (decide (z=y))) (inS A y/\inS A z/\inS A z/\inS (setO A (toN z) (eltN none A (toN y))) y/\callV Pg q2I [⟨tER,d⟩] tER (fun p9=>k8 (x,y,e,f,c,p9,setO (setO A (toN z) (eltN none A (toN y))) (toN y) (eltN none A (toN z)),B))) (k8 (x,y,e,f,c,d,A,B)))))) (fun k7=>brV (decide (q<(szSl v))) (inS v q/\inS (eltN none v (toN q)) o/\callV Pg q0n [⟨tER,eltS r0 (eltN none v (toN q)) o⟩] tI (fun p8=>k7 (o,p,q,r,s,decide (p8=(0:Int)),t,u,v,w))) (k7 (o,p,q,r,s,false,t,u,v,w)))) (j,szSl n,szSl n,i,j,k,l,m,n))) (Q (m,n,l,()))) (b,(0:Int),r0,p1,p0,none))))):
 callV Pg q4R [⟨(.sl (.sl tER)),a⟩,⟨tI,b⟩] (.tup (.pair (.sl (.sl tER)) (.pair tL (.pair tER .unit)))) Q:=
 q02 (c:=q00 Tryz.f155) (ann:=q8U) Tryz.func155 rfl Tryz.call155 rfl rfl hQ (kcast (by kernel_rfl) h)
def q8S:Ann:=(.s (.s (.seq (.s (.blk none (.loop ⟨[(8,.own 1008)],[.var 1 (.sl tER),.var 2 tI,.var 19 (.sl (.sl tER)),.var 20 tI,.var 21 tI,.arr 1008 (.sl tER)]⟩ (.s (.s (.seq (.blk none (.s (.reg [] [(2,([],true)),(8,([],true))] none))) .nil)))))) (.seq (.reg [] [(2,([1008],false))] none) (.seq (.s (.blk none (.loop ⟨[],[.var 2 tI,.var 11 (.sl (.sl tER)),.var 12 tL,.var 48 (.sl (.sl tER)),.var 49 tI,.var 50 tI]⟩ .nil))) (.s (.seq (.s (.blk none (.loop ⟨[(16,.own 62)],[.var 2 tI,.var 11 (.sl (.sl tER)),.var 12 tL,.var 63 tL,.var 64 tI,.var 65 tI,.arr 62 tER]⟩ .nil))) .nil)))))))
theorem qbY {Q:(Int×((Option (List DR))×Unit))->Prop} (a:(Option (List (Option (List DR))))) (b:(Option (List DR))) (c:Int) (hQ:∃ r,Q r) (h:
 (loopV (Option (List DR)×Int×Option (List (Option (List DR)))×Int×Int×Option (List (Option (List DR)))) (fun k0  (i,j,k,l,m,n)=>brV (decide (m<l)) (inS k m/\ownV Pg q54 [⟨.sl tER,eltS none k m⟩] tER (fun p2=>inS i m/\appC 64 p2 (lst (some [(eltS r0 i m)]))/\appC 24 n (lst (some [(appL p2 (lst (some [(eltS r0 i m)])))]))/\k0 (i,j,k,l,IntKind.wrap IntKind.i64 (m+(1:Int)),appL n (lst (some [(appL p2 (lst (some [(eltS r0 i m)])))]))))) (callV Pg q4R [⟨.sl (.sl tER),n⟩,⟨tI,j⟩] (.tup (.pair (.sl (.sl tER)) (.pair tL (.pair tER .unit)))) (fun p2=>inR p2.1 (szSl p2.2.1) (szSl p2.1)/\loopV (Int×Option (List (Option (List DR)))×DL×Option (List (Option (List DR)))×Int×Int) (fun k3  (o,p,q,r,s,t)=>brV (decide (t<s)) (inS r t/\inS (eltS none r t) o/\callV Pg q0n [⟨tER,eltS r0 (eltS none r t) o⟩] tI (fun p5=>brV (notB (decide (p5=(0:Int)))) (Q ((0:Int),none,())) (k3 (o,p,q,r,s,IntKind.wrap IntKind.i64 (t+(1:Int)))))) (mkC 64 o o/\loopV (Int×Option (List (Option (List DR)))×DL×DL×Int×Int×Option (List DR)) (fun k5  (u,v,w,x,y,z,e)=>brV (decide (z<y)) (inS x z/\inS v z/\inS (eltS none v z) u/\inS e (eltS (0:Int) x z)/\k5 (u,v,w,x,y,IntKind.wrap IntKind.i64 (z+(1:Int)),setO e (toN (eltS (0:Int) x z)) (eltS r0 (eltS none v z) u))) (brV (decide ((szSl w)<u)) (Q ((2:Int),e,())) (Q ((1:Int),e,())))) (o,p,q,q,szSl q,(0:Int),some (repS o r0)))) (j,p2.1,p2.2.1,slcS p2.1 (szSl p2.2.1) (szSl p2.1),szSl (slcS p2.1 (szSl p2.2.1) (szSl p2.1)),(0:Int))))) (b,c,a,szSl a,(0:Int),none))):
 callV Pg q4Q [⟨(.sl (.sl tER)),a⟩,⟨(.sl tER),b⟩,⟨tI,c⟩] (.tup (.pair tI (.pair (.sl tER) .unit))) Q:=
 q02 (c:=q00 Tryz.f128) (ann:=q8S) Tryz.func128 rfl Tryz.call128 rfl rfl hQ (kcast (by kernel_rfl) h)
def q9L:Ann:=(.s (.seq (.reg [] [(3,([.opn 13 90013],false))] none) (.seq (.s (.blk none (.loop ⟨[(5,.own 13)],[.var 0 (.sl (.sl tER)),.var 1 (.sl tER),.var 15 tI,.var 16 tI,.arr 13 (.hd 90013),.pool 90013 tER]⟩ (.s (.s (.seq (.blk none (.s (.seq (.reg [] [(6,([.giv 23 90013],false))] none) (.s (.blk none (.loop ⟨[(5,.own 13)],[.var 0 (.sl (.sl tER)),.var 1 (.sl tER),.var 6 tI,.var 15 tI,.var 16 tI,.var 25 (.sl (.sl tER)),.var 26 tI,.var 27 tI,.arr 13 (.hd 90013),.pool 90013 tER]⟩ .nil)))))) .nil)))))) (.seq (.reg [] [(4,([.frp 90013,13],false))] none) .nil))))
theorem qcP {Q:Bool->Prop} (a:(Option (List (Option (List DR))))) (b:(Option (List DR))) (hQ:∃ r,Q r) (h:
 (mkC 24 (szSl b) (szSl b)/\nilAll (α:=(List DR)) (some (repS (szSl b) none))/\loopV (Option (List (Option (List DR)))×Option (List DR)×Int×Int×Option (List (Option Nat))×List (List DR)) (fun k0  (i,j,k,l,m,n)=>brV (decide (l<k)) (mkC 64 (szSl i) (szSl i)/\inS m l/\loopV (Option (List (Option (List DR)))×Option (List DR)×Int×Int×Int×Option (List (Option (List DR)))×Int×Int×Option (List (Option Nat))×List (List DR)) (fun k2  (o,p,q,r,s,t,u,v,w,x)=>brV (decide (v<u)) (inS t v/\inS w q/\inS (eltS none t v) q/\inH x (eltN none w (toN q)) v/\k2 (o,p,q,r,s,t,u,IntKind.wrap IntKind.i64 (v+(1:Int)),w,setR x (Option.getD (eltN none w (toN q)) 0) (toN v) (eltS r0 (eltS none t v) q))) (k0 (o,p,r,IntKind.wrap IntKind.i64 (s+(1:Int)),w,x))) (i,j,l,k,l,i,szSl i,(0:Int),setO m (toN l) (gvH (α:=(List DR)) (some (repS (szSl i) r0)) (lenL n)),gvL n (some (repS (szSl i) r0)))) (callV Pg q4Q [⟨.sl (.sl tER),mapL (fun x2=>unH n x2) m⟩,⟨.sl tER,j⟩,⟨tI,szSl i⟩] (.tup (.pair tI (.pair (.sl tER) .unit))) (fun p2=>Q (decide (p2.1=(0:Int)))))) (a,b,szSl (hdL (α:=(List DR)) (some (repS (szSl b) none))),(0:Int),hdL (α:=(List DR)) (some (repS (szSl b) none)),[]))):
 callV Pg q3V [⟨(.sl (.sl tER)),a⟩,⟨(.sl tER),b⟩] .bool Q:=
 q02 (c:=q00 Tryz.f87) (ann:=q9L) Tryz.func87 rfl Tryz.call87 rfl rfl hQ (kcast (by kernel_rfl) h)
end Go.Proofs.Pf
namespace Go.Proofs.Pf
open Go Go.VM
set_option maxRecDepth 100000
def q84:Ann:=.nil
theorem qbb {Q:Bool->Prop} (a:Int) (hQ:∃ r,Q r) (h:
 (Q (notB (decide (a=a))))):
 callV Pg q4D [⟨tI,a⟩] .bool Q:=
 q02 (c:=q00 Tryz.f190) (ann:=q84) Tryz.func190 rfl Tryz.call190 rfl rfl hQ (kcast (by kernel_rfl) h)
def q83:Ann:=(.s (.seq (.reg [] [] (some ⟨[],[.var 4 .bool]⟩)) .nil))
theorem qba {Q:Bool->Prop} (a:Int) (b:Int) (hQ:∃ r,Q r) (h:
 (joinV Bool (fun p0=>Q p0) (fun k0=>callV Pg q4D [⟨tI,a⟩] .bool (fun p1=>brV p1 (callV Pg q4D [⟨tI,b⟩] .bool (fun p2=>brV (notB p2) (k0 true) (k0 (decide (a<b))))) (k0 (decide (a<b))))))):
 callV Pg q3F [⟨tI,a⟩,⟨tI,b⟩] .bool Q:=
 q02 (c:=q00 Tryz.f177) (ann:=q83) Tryz.func177 rfl Tryz.call177 rfl rfl hQ (kcast (by kernel_rfl) h)
def q9t:Ann:=(.s (.blk none (.loop ⟨[(0,.own 1000000000)],[.var 1 tI,.var 2 tI,.var 6 tI,.arr 1000000000 tI]⟩ (.s (.seq (.blk none (.s (.blk none (.loop ⟨[(0,.own 1000000000)],[.var 1 tI,.var 2 tI,.var 6 tI,.var 7 tI,.arr 1000000000 tI]⟩ (.seq (.seq (.reg [] [] (some ⟨[(0,.own 1000000000)],[.var 1 tI,.var 2 tI,.var 6 tI,.var 7 tI,.var 30 .bool,.arr 1000000000 tI]⟩)) .nil) .nil))))) .nil)))))
theorem qcx {Q:DL->Prop} (a:Int) (b:Int) (c:DL) (hQ:∃ r,Q r) (h:
 (loopV (Int×Int×DE) (fun k0  (i,j,k)=>brV (decide (k.1<j)) (loopV (Int×Int×Int×DE) (fun k2  (l,m,n,o)=>joinV (Int×Int×Int×DRI) (fun (p,q,r,s)=>brV s.2.1 (inS s.2.2 (IntKind.wrap IntKind.i64 (s.1 - (1:Int)))/\inS s.2.2 s.1/\inS s.2.2 s.1/\inS (setO s.2.2 (toN s.1) (eltN (0:Int) s.2.2 (toN (IntKind.wrap IntKind.i64 (s.1 - (1:Int)))))) (IntKind.wrap IntKind.i64 (s.1 - (1:Int)))/\k2 (p,q,r,IntKind.wrap IntKind.i64 (s.1 - (1:Int)),setO (setO s.2.2 (toN s.1) (eltN (0:Int) s.2.2 (toN (IntKind.wrap IntKind.i64 (s.1 - (1:Int)))))) (toN (IntKind.wrap IntKind.i64 (s.1 - (1:Int)))) (eltN (0:Int) s.2.2 (toN s.1)))) (k0 (p,q,IntKind.wrap IntKind.i64 (r+(1:Int)),s.2.2))) (fun k4=>brV (decide (l<o.1)) (inS o.2 o.1/\inS o.2 (IntKind.wrap IntKind.i64 (o.1 - (1:Int)))/\callV Pg q3F [⟨tI,eltN (0:Int) o.2 (toN o.1)⟩,⟨tI,eltN (0:Int) o.2 (toN (IntKind.wrap IntKind.i64 (o.1 - (1:Int))))⟩] .bool (fun p5=>k4 (l,m,n,o.1,p5,o.2))) (k4 (l,m,n,o.1,false,o.2)))) (i,j,k.1,k)) (Q k.2)) (a,b,IntKind.wrap IntKind.i64 (a+(1:Int)),c))):
 lendV Pg q5d 3 q3y (a,b,c) Q:=
 q0g (c:=q00 Tryz.f171) (ann:=q9t) Tryz.func171 rfl Tryz.call171 rfl hQ rfl (kcast (by kernel_rfl) h)
def q9u:Ann:=let x:Shape:=⟨[(0,.own 1000000000)],[.var 1 tI,.var 2 tI,.var 3 tI,.var 8 .bool,.var 9 .bool,.arr 1000000000 tI]⟩;(.s (.s (.blk none (.loop x (.blk (some x) (.s (.seq (.s (.cond none (.seq (.regL [] [] [(3,q3y)] none) .nil) .nil)) (.s (.seq (.s (.cond (some ⟨[(0,.own 1000000000)],[.var 1 tI,.var 2 tI,.var 3 tI,.var 8 .bool,.var 9 .bool,.var 10 tI,.arr 1000000000 tI]⟩) .nil .nil)) (.s (.seq (.s (.cond (some ⟨[(0,.own 1000000000)],[.var 1 tI,.var 2 tI,.var 3 tI,.var 8 .bool,.var 9 .bool,.var 10 tI,.var 11 tI,.var 12 tI,.arr 1000000000 tI]⟩) .nil .nil)) (.seq (.seq (.reg [] [] (some ⟨[(0,.own 1000000000)],[.var 1 tI,.var 2 tI,.var 3 tI,.var 8 .bool,.var 9 .bool,.var 10 tI,.var 11 tI,.var 68 .bool,.arr 1000000000 tI]⟩)) (.cond (some ⟨[(0,.own 1000000000)],[.var 1 tI,.var 2 tI,.var 3 tI,.var 8 .bool,.var 9 .bool,.var 10 tI,.var 11 tI,.arr 1000000000 tI]⟩) .nil .nil)) (.seq (.seq (.reg [] [] (some ⟨[(0,.own 1000000000)],[.var 1 tI,.var 2 tI,.var 3 tI,.var 8 .bool,.var 9 .bool,.var 10 tI,.var 11 tI,.var 87 .bool,.arr 1000000000 tI]⟩)) .nil) (.s (.s (.s (.s (.s (.cond (some x) .nil .nil)))))))))))))))))))
theorem qcy {Q:DL->Prop} (a:Int) (b:Int) (c:Int) (d:DL) (hQ:∃ r,Q r) (h:
 (loopV (Int×Int×Int×Bool×Bool×DL) (fun k0  (i,j,k,l,m,n)=>joinV (Int×Int×Int×Bool×Bool×DL) (fun o=>k0 o) (fun k2=>brV (decide ((IntKind.wrap IntKind.i64 (j - i))<=(12:Int))) (lendV Pg q5d 3 q3y (i,j,n) (fun p3=>Q p3)) (brV (decide (k=(0:Int))) (callV Pg qab [⟨tL,n⟩,⟨tI,i⟩,⟨tI,j⟩] (.tup .unit) (fun p3=>Q n)) (joinV (Int×Int×Int×Bool×Bool×DE) (fun (o,p,q,r,s,t)=>callV Pg qaa [⟨tL,t.2⟩,⟨tI,o⟩,⟨tI,p⟩] (.tup (.pair tI (.pair tI .unit))) (fun p4=>joinV (Int×Int×Int×Bool×Bool×Int×Int×DE) (fun (u,v,w,x,y,z,e,f)=>joinV (Int×Int×Int×Bool×Bool×Int×DRI) (fun (g,A,B,C,D,E,F)=>joinV (Int×Int×Int×Bool×Bool×Int×DE) (fun (G,H,I,J,K,L,M)=>joinV (Int×Int×Int×Bool×Bool×Int×DRI) (fun (N,O,P,R,S,T,U)=>brV U.2.1 (callV Pg qad [⟨tL,U.2.2⟩,⟨tI,N⟩,⟨tI,O⟩,⟨tI,U.1⟩] tI (fun p9=>k2 (p9,O,P,R,S,U.2.2))) (callV Pg qae [⟨tL,U.2.2⟩,⟨tI,N⟩,⟨tI,O⟩,⟨tI,U.1⟩] (.tup (.pair tI (.pair .bool .unit))) (fun p9=>((8:Int)≠(0:Int))/\joinV (Int×Int×Int×Bool×Bool×DL) (fun V=>k2 V) (fun k10=>brV (decide ((IntKind.wrap IntKind.i64 (p9.1 - N))<(IntKind.wrap IntKind.i64 (O - p9.1)))) (callV Pg q3S [⟨tL,U.2.2⟩,⟨tI,N⟩,⟨tI,p9.1⟩,⟨tI,P⟩] (.tup .unit) (fun p11=>k10 (IntKind.wrap IntKind.i64 (p9.1+(1:Int)),O,P,decide ((IntKind.wrap IntKind.i64 (Int.tdiv T (8:Int)))<=(IntKind.wrap IntKind.i64 (p9.1 - N))),p9.2.1,U.2.2))) (callV Pg q3S [⟨tL,U.2.2⟩,⟨tI,IntKind.wrap IntKind.i64 (p9.1+(1:Int))⟩,⟨tI,O⟩,⟨tI,P⟩] (.tup .unit) (fun p11=>k10 (N,p9.1,P,decide ((IntKind.wrap IntKind.i64 (Int.tdiv T (8:Int)))<=(IntKind.wrap IntKind.i64 (O - p9.1))),p9.2.1,U.2.2))))))) (fun k8=>brV (decide ((0:Int)<G)) (inS M.2 (IntKind.wrap IntKind.i64 (G - (1:Int)))/\inS M.2 M.1/\callV Pg q3F [⟨tI,eltN (0:Int) M.2 (toN (IntKind.wrap IntKind.i64 (G - (1:Int))))⟩,⟨tI,eltN (0:Int) M.2 (toN M.1)⟩] .bool (fun p9=>k8 (G,H,I,J,K,L,M.1,notB p9,M.2))) (k8 (G,H,I,J,K,L,M.1,false,M.2)))) (fun k7=>brV F.2.1 (callV Pg qac [⟨tL,F.2.2⟩,⟨tI,g⟩,⟨tI,A⟩] .bool (fun p8=>brV p8 (Q F.2.2) (k7 (g,A,B,C,D,E,F.1,F.2.2)))) (k7 (g,A,B,C,D,E,F.1,F.2.2)))) (fun k6=>brV x (brV y (k6 (u,v,w,x,y,z,e,decide (f.1=(1:Int)),f.2)) (k6 (u,v,w,x,y,z,e,false,f.2))) (k6 (u,v,w,x,y,z,e,false,f.2)))) (fun k5=>brV (decide (p4.2.1=(2:Int))) (callV Pg qaf [⟨tL,t.2⟩,⟨tI,o⟩,⟨tI,p⟩] (.tup .unit) (fun p6=>k5 (o,p,q,r,s,t.1,IntKind.wrap IntKind.i64 ((IntKind.wrap IntKind.i64 (p - (1:Int))) - (IntKind.wrap IntKind.i64 (p4.1 - o))),(1:Int),t.2))) (k5 (o,p,q,r,s,t.1,p4.1,p4.2.1,t.2))))) (fun k3=>brV (notB l) (callV Pg qa9 [⟨tL,n⟩,⟨tI,i⟩,⟨tI,j⟩] (.tup .unit) (fun p4=>k3 (i,j,IntKind.wrap IntKind.i64 (k - (1:Int)),l,m,IntKind.wrap IntKind.i64 (j - i),n))) (k3 (i,j,k,l,m,IntKind.wrap IntKind.i64 (j - i),n))))))) (a,b,c,true,true,d))):
 lendV Pg q3S 4 q4s (a,b,c,d) Q:=
 q0g (c:=q00 Tryz.f156) (ann:=q9u) Tryz.func156 rfl Tryz.call156 rfl hQ rfl (kcast (by kernel_rfl) h)
def q8P:Ann:=let x:Shape:=⟨[],[.var 0 (.int .u64),.var 2 tI]⟩;(.s (.seq (.s (.cond (some x) .nil .nil)) (.seq (.s (.cond (some x) .nil .nil)) (.seq (.s (.cond (some x) .nil .nil)) .nil))))
theorem qbV {Q:Int->Prop} (a:Int) (hQ:∃ r,Q r) (h:
 (joinV (Int×Int) (fun (i,j)=>joinV (Int×Int) (fun (k,l)=>joinV (Int×Int) (fun (m,n)=>(((0:Int)<=(IntKind.wrap IntKind.u8 m))/\((IntKind.wrap IntKind.u8 m)<(szStr (bytesL [0,1,2,2,3,3,3,3,4,4,4,4,4,4,4,4,5,5,5,5,5,5,5,5,5,5,5,5,5,5,5,5,6,6,6,6,6,6,6,6,6,6,6,6,6,6,6,6,6,6,6,6,6,6,6,6,6,6,6,6,6,6,6,6,7,7,7,7,7,7,7,7,7,7,7,7,7,7,7,7,7,7,7,7,7,7,7,7,7,7,7,7,7,7,7,7,7,7,7,7,7,7,7,7,7,7,7,7,7,7,7,7,7,7,7,7,7,7,7,7,7,7,7,7,7,7,7,7,8,8,8,8,8,8,8,8,8,8,8,8,8,8,8,8,8,8,8,8,8,8,8,8,8,8,8,8,8,8,8,8,8,8,8,8,8,8,8,8,8,8,8,8,8,8,8,8,8,8,8,8,8,8,8,8,8,8,8,8,8,8,8,8,8,8,8,8,8,8,8,8,8,8,8,8,8,8,8,8,8,8,8,8,8,8,8,8,8,8,8,8,8,8,8,8,8,8,8,8,8,8,8,8,8,8,8,8,8,8,8,8,8,8,8,8,8,8,8,8,8,8,8,8,8,8,8,8]))))/\Q (IntKind.wrap IntKind.i64 (n+(IntKind.wrap IntKind.i64 (byteAt (bytesL [0,1,2,2,3,3,3,3,4,4,4,4,4,4,4,4,5,5,5,5,5,5,5,5,5,5,5,5,5,5,5,5,6,6,6,6,6,6,6,6,6,6,6,6,6,6,6,6,6,6,6,6,6,6,6,6,6,6,6,6,6,6,6,6,7,7,7,7,7,7,7,7,7,7,7,7,7,7,7,7,7,7,7,7,7,7,7,7,7,7,7,7,7,7,7,7,7,7,7,7,7,7,7,7,7,7,7,7,7,7,7,7,7,7,7,7,7,7,7,7,7,7,7,7,7,7,7,7,8,8,8,8,8,8,8,8,8,8,8,8,8,8,8,8,8,8,8,8,8,8,8,8,8,8,8,8,8,8,8,8,8,8,8,8,8,8,8,8,8,8,8,8,8,8,8,8,8,8,8,8,8,8,8,8,8,8,8,8,8,8,8,8,8,8,8,8,8,8,8,8,8,8,8,8,8,8,8,8,8,8,8,8,8,8,8,8,8,8,8,8,8,8,8,8,8,8,8,8,8,8,8,8,8,8,8,8,8,8,8,8,8,8,8,8,8,8,8,8,8,8,8,8,8,8,8,8]) (IntKind.wrap IntKind.u8 m)))))) (fun k2=>brV (decide ((256:Int)<=k)) (((0:Int)<=(8:Int))/\k2 (shrI IntKind.u64 k (8:Int),IntKind.wrap IntKind.i64 (l+(8:Int)))) (k2 (k,l)))) (fun k1=>brV (decide ((65536:Int)<=i)) (((0:Int)<=(16:Int))/\k1 (shrI IntKind.u64 i (16:Int),IntKind.wrap IntKind.i64 (j+(16:Int)))) (k1 (i,j)))) (fun k0=>brV (decide ((4294967296:Int)<=a)) (((0:Int)<=(32:Int))/\k0 (shrI IntKind.u64 a (32:Int),(32:Int))) (k0 (a,(0:Int)))))):
 callV Pg q4N [⟨(.int .u64),a⟩] tI Q:=
 q02 (c:=q00 Tryz.f181) (ann:=q8P) Tryz.func181 rfl Tryz.call181 rfl rfl hQ (kcast (by kernel_rfl) h)
def q8N:Ann:=.nil
theorem qbT {Q:Int->Prop} (a:Int) (hQ:∃ r,Q r) (h:
 (callV Pg q4N [⟨.int .u64,a⟩] tI (fun p0=>Q p0))):
 callV Pg q4L [⟨(.int .u64),a⟩] tI Q:=
 q02 (c:=q00 Tryz.f157) (ann:=q8N) Tryz.func157 rfl Tryz.call157 rfl rfl hQ (kcast (by kernel_rfl) h)
def q9s:Ann:=(.s (.regL [] [] [(5,q4s)] none))
theorem qcw {Q:DL->Prop} (a:DL) (hQ:∃ r,Q r) (h:
 (callV Pg q4L [⟨.int .u64,IntKind.wrap IntKind.u64 (szSl a)⟩] tI (fun p0=>lendV Pg q3S 4 q4s ((0:Int),szSl a,p0,a) (fun p1=>Q p1)))):
 lendV Pg q5c 1 q3x (a) Q:=
 q0g (c:=q00 Tryz.f129) (ann:=q9s) Tryz.func129 rfl Tryz.call129 rfl hQ rfl (kcast (by kernel_rfl) h)
def q9l:Ann:=let x:Shape:=⟨[(0,.own 700000)],[.var 3 tI,.var 4 (.vw 700000),.var 5 tI,.arr 700000 tI]⟩;(.s (.s (.seq (.s (.blk none (.loop ⟨[(0,.own 700000)],[.var 3 tI,.arr 700000 tI]⟩ (.s (.seq (.blk none (.s (.cond none (.s (.seq (.s (.blk none (.loop x (.s (.seq (.blk none (.s (.cond (some x) .nil .nil))) .nil))))) (.s (.seq (.reg [] [(3,([.cut 59 59],false))] none) .nil)))) .nil))) .nil))))) .nil)))
theorem qcp {Q:DL->Prop} (a:DL) (hQ:∃ r,Q r) (h:
 (brV (decide ((szSl a)<(2:Int))) (Q a) (loopV DE (fun k0  p1=>brV (decide (p1.1<(szSl p1.2))) (inS p1.2 p1.1/\inS p1.2 (IntKind.wrap IntKind.i64 (p1.1 - (1:Int)))/\brV (decide ((eltN (0:Int) p1.2 (toN p1.1))=(eltN (0:Int) p1.2 (toN (IntKind.wrap IntKind.i64 (p1.1 - (1:Int))))))) (inW p1.2 p1.1 (szSl p1.2)/\loopV (Int×(Int×Int)×DE) (fun k2  (i,j,k)=>brV (decide (k.1<(j.2 - j.1))) (inV j k.1/\inV j (IntKind.wrap IntKind.i64 (k.1 - (1:Int)))/\joinV (Int×(Int×Int)×DE) (fun (l,m,n)=>k2 (l,m,IntKind.wrap IntKind.i64 (n.1+(1:Int)),n.2)) (fun k4=>brV (notB (decide ((eltN (0:Int) k.2 (toN (j.1+k.1)))=(eltN (0:Int) k.2 (toN (j.1+(IntKind.wrap IntKind.i64 (k.1 - (1:Int))))))))) (inV j k.1/\inS k.2 i/\k4 (IntKind.wrap IntKind.i64 (i+(1:Int)),j,k.1,setO k.2 (toN i) (eltN (0:Int) k.2 (toN (j.1+k.1))))) (k4 (i,j,k)))) (inW k.2 i (szSl k.2)/\inW (clrS k.2 i (szSl k.2) (0:Int)) (0:Int) i/\Q (slcS (clrS k.2 i (szSl k.2) (0:Int)) (0:Int) i))) (p1.1,(p1.1,szSl p1.2),(1:Int),p1.2)) (k0 (IntKind.wrap IntKind.i64 (p1.1+(1:Int)),p1.2))) (Q p1.2)) ((1:Int),a)))):
 lendV Pg q57 1 q3w (a) Q:=
 q0g (c:=q00 Tryz.f130) (ann:=q9l) Tryz.func130 rfl Tryz.call130 rfl hQ rfl (kcast (by kernel_rfl) h)
def q9Q:Ann:=(.s (.s (.seq (.s (.blk none (.loop ⟨[(3,.own 1003)],[.var 7 (.sl tSt),.var 8 tI,.var 9 tI,.arr 1003 tI]⟩ .nil))) (.seq (.regL [] [] [(1,q3x)] none) (.seq (.regL [] [] [(1,q3w)] none) .nil)))))
theorem qcU {Q:DL->Prop} (a:DMo) (hQ:∃ r,Q r) (h:
 (loopV (DMo×Int×DE) (fun k0  (i,j,k)=>brV (decide (k.1<j)) (inS i k.1/\appC 8 k.2 (lst (some [(eltS ((0:Int),(0:Int),none) i k.1).2.1]))/\k0 (i,j,IntKind.wrap IntKind.i64 (k.1+(1:Int)),appL k.2 (lst (some [(eltS ((0:Int),(0:Int),none) i k.1).2.1])))) (lendV Pg q5c 1 q3x k.2 (fun p2=>lendV Pg q57 1 q3w p2 (fun p3=>Q p3)))) (a,szSl a,(0:Int),none))):
 callV Pg q3W [⟨tMo,a⟩] tL Q:=
 q02 (c:=q00 Tryz.f88) (ann:=q9Q) Tryz.func88 rfl Tryz.call88 rfl rfl hQ (kcast (by kernel_rfl) h)
def q9k:Ann:=.nil
theorem qco {Q:DL->Prop} (a:DL) (hQ:∃ r,Q r) (h:
 (brV (Option.isNone a) (Q none) (appC 8 (some []) (lst a)/\Q (appL (some []) (lst a))))):
 ownV Pg q56 [⟨tL,a⟩] tI Q:=
 q2m (c:=q00 Tryz.f89) (ann:=q9k) Tryz.func89 rfl Tryz.call89 rfl rfl hQ (kcast (by kernel_rfl) h)
end Go.Proofs.Pf
namespace Go.Proofs.Pf
open Go Go.VM
set_option maxRecDepth 100000
def q9g:Ann:=.nil
theorem qck {Q:DCh->Prop} (a:Int) (hQ:∃ r,Q r) (h:
 (Q (((0:Int),(1:Int)),some [(a,(1:Int),(1:Int))]))):
 callV Pg q3R [⟨tI,a⟩] tCh Q:=
 q02 (c:=q00 Tryz.f83) (ann:=q9g) Tryz.func83 rfl Tryz.call83 rfl rfl hQ (kcast (by kernel_rfl) h)
def q9c:Ann:=(.s (.s (.seq (.s (.blk none (.loop ⟨[(2,.ref 2 0),(3,.ref 3 0)],[.var 11 (.sl tSt),.var 12 tI,.var 13 tI,.box 2 tMo,.box 3 (.agg (.own 1003)),.arr 1003 tSt]⟩ (.s (.s (.seq (.blk none (.s (.s (.seq (.s (.blk none (.loop ⟨[(2,.ref 2 0),(3,.ref 3 0),(6,.ref 6 0)],[.var 11 (.sl tSt),.var 12 tI,.var 13 tI,.var 23 (.sl tCh),.var 24 tI,.var 25 tI,.box 2 tMo,.box 3 (.agg (.own 1003)),.box 6 (.agg (.pair tI (.pair tI (.own 1006)))),.arr 1003 tSt,.arr 1006 tCh]⟩ (.s (.s (.seq (.blk none (.s (.reg [] [(4,([],true))] none))) .nil)))))) (.reg [] [(3,([1006],false))] none))))) .nil)))))) .nil)))
theorem qcg {Q:DMo->Prop} (a:DMo) (hQ:∃ r,Q r) (h:
 (loopV (DMo×Int×Int×DMo×Unit×DMo) (fun k0  (i,j,k,l,_,m)=>brV (decide (k<j)) (inS i k/\loopV (DMo×Int×Int×Option (List DCh)×Int×Int×DMo×Unit×(Int×Int×Unit)×DMo×Option (List DCh)) (fun k2  (n,o,p,q,r,s,t,_,u,v,w)=>brV (decide (s<r)) (inS q s/\appC 24 (some []) (lst (eltS (((0:Int),(0:Int)),none) q s).2)/\appC 40 w (lst (some [((eltS (((0:Int),(0:Int)),none) q s).1,appL (some []) (lst (eltS (((0:Int),(0:Int)),none) q s).2))]))/\k2 (n,o,p,q,r,IntKind.wrap IntKind.i64 (s+(1:Int)),t,(),(u.1,u.2.1,()),v,appL w (lst (some [((eltS (((0:Int),(0:Int)),none) q s).1,appL (some []) (lst (eltS (((0:Int),(0:Int)),none) q s).2))])))) (appC 40 v (lst (some [(u.1,u.2.1,w)]))/\k0 (n,o,IntKind.wrap IntKind.i64 (p+(1:Int)),t,(),appL v (lst (some [(u.1,u.2.1,w)]))))) (i,j,k,(eltS ((0:Int),(0:Int),none) i k).2.2,szSl (eltS ((0:Int),(0:Int),none) i k).2.2,(0:Int),l,(),((eltS ((0:Int),(0:Int),none) i k).1,(eltS ((0:Int),(0:Int),none) i k).2.1,()),m,none)) (Q m)) (a,szSl a,(0:Int),none,(),none))):
 callV Pg q50 [⟨tMo,a⟩] tMo Q:=
 q02 (c:=q00 Tryz.f29) (ann:=q9c) Tryz.func29 rfl Tryz.call29 rfl rfl hQ (kcast (by kernel_rfl) h)
end Go.Proofs.Pf
namespace Go.Proofs.Pf
open Go Go.VM
set_option maxRecDepth 100000
def q9I:Ann:=let x:Shape:=⟨[(2,.ref 2 0),(7,.own 19),(9,.own 29)],[.var 1 tL,.var 5 (.sl (.sl tER)),.var 6 tI,.var 8 tI,.var 10 tI,.var 31 tI,.var 32 tI,.var 46 (.sl tER),.var 47 tI,.var 48 tI,.box 2 tMo,.arr 19 (.sl tER),.arr 29 tER]⟩;let y:Shape:=⟨[(2,.ref 2 0),(7,.own 19),(9,.own 29)],[.var 1 tL,.var 5 (.sl (.sl tER)),.var 6 tI,.var 8 tI,.var 31 tI,.var 32 tI,.box 2 tMo,.arr 19 (.sl tER),.arr 29 tER]⟩;(.s (.s (.s (.s (.seq (.s (.blk none (.loop ⟨[(2,.ref 2 0),(7,.own 19)],[.var 1 tL,.var 5 (.sl (.sl tER)),.var 6 tI,.var 8 tI,.box 2 tMo,.arr 19 (.sl tER)]⟩ (.s (.seq (.blk none (.s (.seq (.s (.blk none (.loop y (.s (.s (.seq (.blk (some y) (.s (.s (.s (.blk none (.loop x (.s (.s (.seq (.blk none (.s (.s (.s (.cond (some x) .nil .nil))))) .nil))))))))) .nil)))))) (.reg [29] [] none)))) .nil))))) .nil)))))
theorem qcM {Q:(Option (List (Option (List DR))))->Prop} (a:DMo) (b:DL) (hQ:∃ r,Q r) (h:
 (callV Pg q0A [⟨tMo,a⟩] (.sl (.sl tER)) (fun p0=>mkC 24 (szSl b) (szSl b)/\loopV (DL×Option (List (Option (List DR)))×Int×Int×DMo×Option (List (Option (List DR)))) (fun k1  (i,j,k,l,m,n)=>brV (decide ((0:Int)<=l)) (mkC 64 (szSl m) (szSl m)/\loopV (DL×Option (List (Option (List DR)))×Int×Int×Int×Int×DMo×Option (List (Option (List DR)))×Option (List DR)) (fun k3  (o,p,q,r,s,t,u,v,w)=>brV (decide (t<s)) (joinV (DL×Option (List (Option (List DR)))×Int×Int×Int×Int×DMo×Option (List (Option (List DR)))×Option (List DR)) (fun (x,y,z,e,f,g,c)=>k3 (x,y,z,e,f,IntKind.wrap IntKind.i64 (g+(1:Int)),c)) (fun k5=>brV (decide (r=(IntKind.wrap IntKind.i64 (q - (1:Int))))) (callV Pg q12 [] tER (fun p6=>inS w t/\k5 (o,p,q,r,s,t,u,v,setO w (toN t) p6))) (inS p t/\loopV (DL×Option (List (Option (List DR)))×Int×Int×Int×Int×Int×Option (List DR)×Int×Int×DMo×Option (List (Option (List DR)))×Option (List DR)) (fun k6  (x,y,z,e,f,g,c,d,A,B,C,D,E)=>brV (decide (B<A)) (inS d B/\inS D (IntKind.wrap IntKind.i64 (e+(1:Int)))/\inS (eltN none D (toN (IntKind.wrap IntKind.i64 (e+(1:Int))))) B/\callV Pg q0Y [⟨tER,eltS r0 d B⟩,⟨tER,eltS r0 (eltN none D (toN (IntKind.wrap IntKind.i64 (e+(1:Int))))) B⟩] tER (fun p8=>inS E f/\callV Pg q1B [⟨tER,p8⟩,⟨tER,eltN r0 E (toN f)⟩] tI (fun p9=>joinV (DL×Option (List (Option (List DR)))×Int×Int×Int×Int×Int×Option (List DR)×Int×Int×DMo×Option (List (Option (List DR)))×Option (List DR)) (fun (F,G,H,I,J,K,L,M,N,O,P)=>k6 (F,G,H,I,J,K,L,M,N,IntKind.wrap IntKind.i64 (O+(1:Int)),P)) (fun k10=>brV (decide ((0:Int)<p9)) (inS E f/\k10 (x,y,z,e,f,g,c,d,A,B,C,D,setO E (toN f) p8)) (k10 (x,y,z,e,f,g,c,d,A,B,C,D,E)))))) (k5 (x,y,z,e,g,c,C,D,E))) (o,p,q,r,t,s,t,eltS none p t,szSl (eltS none p t),(0:Int),u,v,w)))) (inS o r/\callV Pg q1D [⟨tMo,u⟩,⟨.sl tER,w⟩,⟨tI,eltS (0:Int) o r⟩] (.sl tER) (fun p5=>inS v r/\k1 (o,p,q,IntKind.wrap IntKind.i64 (r - (1:Int)),u,setO v (toN r) p5)))) (i,j,k,l,szSl (some (repS (α:=DR) (szSl m) r0)),(0:Int),m,n,some (repS (α:=DR) (szSl m) r0))) (Q n)) (b,p0,szSl b,IntKind.wrap IntKind.i64 ((szSl b) - (1:Int)),a,some (repS (α:=(Option (List DR))) (szSl b) none))))):
 callV Pg q3T [⟨tMo,a⟩,⟨tL,b⟩] (.sl (.sl tER)) Q:=
 q02 (c:=q00 Tryz.f61) (ann:=q9I) Tryz.func61 rfl Tryz.call61 rfl rfl hQ (kcast (by kernel_rfl) h)
end Go.Proofs.Pf
namespace Go.Proofs.Pf
open Go Go.VM
set_option maxRecDepth 100000
def q9w:Ann:=.nil
theorem qcA {Q:Bool->Prop} (a:(Option (List DR))) (b:Int) (c:Int) (hQ:∃ r,Q r) (h:
 (inS a b/\inS a c/\callV Pg q1B [⟨tER,eltS r0 a b⟩,⟨tER,eltS r0 a c⟩] tI (fun p0=>Q (notB (decide (p0=(0:Int))))))):
 callV Pg q0O [⟨(.sl tER),a⟩,⟨(.fref tI),b⟩,⟨(.fref tI),c⟩] .bool Q:=
 q02 (c:=q00 Tryz.f123) (ann:=q9w) Tryz.func123 rfl Tryz.call123 rfl rfl hQ (kcast (by kernel_rfl) h)
def q9q:Ann:=(.s (.seq (.s (.blk none (.loop ⟨[],[.var 0 (.sl (.sl tER)),.var 1 (.clo q0O (.pair (.fref tI) (.pair (.fref tI) .unit))),.var 7 tI,.var 8 tI]⟩ .nil))) .nil))
theorem qcu {Q:Int->Prop} (a:(Option (List (Option (List DR))))) (b:(Int×(Int×Unit))) (hQ:∃ r,Q r) (h:
 (loopV (Option (List (Option (List DR)))×(Int×Int×Unit)×Int×Int) (fun k0  (i,j,k,l)=>brV (decide (l<k)) (inS i l/\callV Pg q0O [⟨.sl tER,eltS none i l⟩,⟨.fref tI,j.1⟩,⟨.fref tI,j.2.1⟩] .bool (fun p2=>brV p2 (Q l) (k0 (i,j,k,IntKind.wrap IntKind.i64 (l+(1:Int)))))) (Q (-(1:Int)))) (a,b,szSl a,(0:Int)))):
 callV Pg q5a [⟨(.sl (.sl tER)),a⟩,⟨(.clo q0O (.pair (.fref tI) (.pair (.fref tI) .unit))),b⟩] tI Q:=
 q02 (c:=q00 Tryz.f152) (ann:=q9q) Tryz.func152 rfl Tryz.call152 rfl rfl hQ (kcast (by kernel_rfl) h)
def q9n:Ann:=.nil
theorem qcr {Q:Bool->Prop} (a:(Option (List (Option (List DR))))) (b:(Int×(Int×Unit))) (hQ:∃ r,Q r) (h:
 (callV Pg q5a [⟨.sl (.sl tER),a⟩,⟨.clo q0O (.pair (.fref tI) (.pair (.fref tI) .unit)),b⟩] tI (fun p0=>Q (decide ((0:Int)<=p0))))):
 callV Pg q58 [⟨(.sl (.sl tER)),a⟩,⟨(.clo q0O (.pair (.fref tI) (.pair (.fref tI) .unit))),b⟩] .bool Q:=
 q02 (c:=q00 Tryz.f122) (ann:=q9n) Tryz.func122 rfl Tryz.call122 rfl rfl hQ (kcast (by kernel_rfl) h)
def q9v:Ann:=(.s (.seq (.reg [] [(2,([3],false))] none) .nil))
theorem qcz {Q:Bool->Prop} (a:Int) (b:(Option (List (Option (List DR))))) (c:Int) (hQ:∃ r,Q r) (h:
 (callV Pg q58 [⟨.sl (.sl tER),b⟩,⟨.clo q0O (.pair (.fref tI) (.pair (.fref tI) .unit)),(c,a,())⟩] .bool (fun p0=>Q (notB p0)))):
 callV Pg q1C [⟨tI,a⟩,⟨(.fref (.sl (.sl tER))),b⟩,⟨(.fref tI),c⟩] .bool Q:=
 q02 (c:=q00 Tryz.f121) (ann:=q9v) Tryz.func121 rfl Tryz.call121 rfl rfl hQ (kcast (by kernel_rfl) h)
def q8A:Ann:=let x:Shape:=⟨[(5,.own 1005)],[.var 1 (.clo q1C (.pair (.fref (.sl (.sl tER))) (.pair (.fref tI) .unit))),.var 7 tI,.var 8 tI,.arr 1005 tI]⟩;(.s (.s (.seq (.s (.blk none (.loop x (.s (.s (.seq (.blk none (.s (.s (.cond (some x) .nil .nil)))) .nil)))))) .nil)))
theorem qbG {Q:DL->Prop} (a:Int) (b:((Option (List (Option (List DR))))×(Int×Unit))) (hQ:∃ r,Q r) (h:
 (loopV ((Option (List (Option (List DR)))×Int×Unit)×Int×DE) (fun k0  (i,j,k)=>brV (decide (k.1<j)) (callV Pg q1C [⟨tI,k.1⟩,⟨.fref (.sl (.sl tER)),i.1⟩,⟨.fref tI,i.2.1⟩] .bool (fun p2=>joinV ((Option (List (Option (List DR)))×Int×Unit)×Int×DE) (fun (l,m,n)=>k0 (l,m,IntKind.wrap IntKind.i64 (n.1+(1:Int)),n.2)) (fun k3=>brV p2 (appC 8 k.2 (lst (some [k.1]))/\k3 (i,j,k.1,appL k.2 (lst (some [k.1])))) (k3 (i,j,k))))) (Q k.2)) (b,a,(0:Int),none))):
 callV Pg q24 [⟨tI,a⟩,⟨(.clo q1C (.pair (.fref (.sl (.sl tER))) (.pair (.fref tI) .unit))),b⟩] tL Q:=
 q02 (c:=q00 Tryz.f77) (ann:=q8A) Tryz.func77 rfl Tryz.call77 rfl rfl hQ (kcast (by kernel_rfl) h)
end Go.Proofs.Pf
namespace Go.Proofs.Pf
open Go Go.VM
set_option maxRecDepth 100000
def q9D:Ann:=(.s (.seq (.reg [] [] (some ⟨[],[.var 6 .bool]⟩)) .nil))
theorem qcH {Q:Bool->Prop} (a:Bool) (b:Bool) (c:DR) (hQ:∃ r,Q r) (h:
 (joinV Bool (fun p0=>Q p0) (fun k0=>brV a (k0 true) (k0 b)))):
 callV Pg q10 [⟨.bool,a⟩,⟨.bool,b⟩,⟨tER,c⟩] .bool Q:=
 q02 (c:=q00 Tryz.f75) (ann:=q9D) Tryz.func75 rfl Tryz.call75 rfl rfl hQ (kcast (by kernel_rfl) h)
def q9R:Ann:=let x:Shape:=⟨[(3,.cst (.fn q10)),(9,.own 15)],[.var 0 (.sl (.sl tER)),.var 1 (.sl .bool),.var 2 .bool,.var 10 tI,.var 17 tI,.var 18 tI,.var 24 (.sl tER),.var 25 tI,.var 26 tI,.arr 15 .bool]⟩;(.s (.s (.seq (.s (.blk none (.loop ⟨[(3,.cst (.fn q10)),(9,.own 15)],[.var 0 (.sl (.sl tER)),.var 1 (.sl .bool),.var 2 .bool,.var 17 tI,.var 18 tI,.arr 15 .bool]⟩ (.s (.s (.seq (.blk none (.s (.s (.blk none (.loop x (.s (.s (.seq (.blk none (.s (.blk none (.s (.cond (some x) .nil (.s (.cond (some x) .nil .nil))))))) .nil)))))))) .nil)))))) .nil)))
theorem qcV {Q:(Option (List Bool))->Prop} (a:(Option (List (Option (List DR))))) (b:(Option (List Bool))) (c:Bool) (d:Unit) (hQ:∃ r,Q r) (h:
 (mkC 1 (szSl b) (szSl b)/\loopV (Option (List (Option (List DR)))×Option (List Bool)×Bool×Int×Int×Option (List Bool)) (fun k0  (i,j,k,l,m,n)=>brV (decide (m<l)) (inS i m/\loopV (Option (List (Option (List DR)))×Option (List Bool)×Bool×Int×Int×Int×Option (List DR)×Int×Int×Option (List Bool)) (fun k2  (o,p,q,r,s,t,u,v,w,x)=>brV (decide (w<v)) (inS u w/\callV Pg q0n [⟨tER,eltS r0 u w⟩] tI (fun p4=>joinV (Option (List (Option (List DR)))×Option (List Bool)×Bool×Int×Int×Int×Option (List DR)×Int×Int×Option (List Bool)) (fun (y,z,e,f,g,d,A,B,C,D)=>k2 (y,z,e,f,g,d,A,B,IntKind.wrap IntKind.i64 (C+(1:Int)),D)) (fun k5=>brV (decide (p4=(0:Int))) (k5 (o,p,q,r,s,t,u,v,w,x)) (joinV (Option (List (Option (List DR)))×Option (List Bool)×Bool×Int×Int×Int×Option (List DR)×Int×Int×Option (List Bool)) (fun y=>k5 y) (fun k6=>brV q (inS x r/\inS p w/\callV Pg q10 [⟨.bool,eltN false x (toN r)⟩,⟨.bool,eltS false p w⟩,⟨tER,eltS r0 u w⟩] .bool (fun p7=>inS x r/\k6 (o,p,q,r,s,t,u,v,w,setO x (toN r) p7))) (inS x w/\inS p r/\callV Pg q10 [⟨.bool,eltN false x (toN w)⟩,⟨.bool,eltS false p r⟩,⟨tER,eltS r0 u w⟩] .bool (fun p7=>inS x w/\k6 (o,p,q,r,s,t,u,v,w,setO x (toN w) p7)))))))) (k0 (o,p,q,s,IntKind.wrap IntKind.i64 (t+(1:Int)),x))) (i,j,k,m,l,m,eltS none i m,szSl (eltS none i m),(0:Int),n)) (Q n)) (a,b,c,szSl a,(0:Int),some (repS (szSl b) false)))):
 callV Pg q5g [⟨(.sl (.sl tER)),a⟩,⟨(.sl .bool),b⟩,⟨.bool,c⟩,⟨(.cst (.fn q10)),d⟩] (.sl .bool) Q:=
 q02 (c:=q00 Tryz.f74) (ann:=q9R) Tryz.func74 rfl Tryz.call74 rfl rfl hQ (kcast (by kernel_rfl) h)
def q9V:Ann:=let x:Shape:=⟨[(7,.own 12)],[.var 1 (.sl .bool),.var 2 tI,.var 14 (.sl tSt),.var 15 tI,.var 16 tI,.arr 12 .bool]⟩;(.s (.s (.seq (.s (.blk none (.loop x (.s (.s (.seq (.blk none (.s (.s (.cond (some x) .nil .nil)))) .nil)))))) .nil)))
theorem qcY {Q:(Option (List Bool))->Prop} (a:DMo) (b:(Option (List Bool))) (c:Int) (hQ:∃ r,Q r) (h:
 (mkC 1 (szSl b) (szSl b)/\loopV (Option (List Bool)×Int×DMo×Int×Int×Option (List Bool)) (fun k0  (i,j,k,l,m,n)=>brV (decide (m<l)) (inS k m/\joinV (Option (List Bool)×Int×DMo×Int×Int×Option (List Bool)) (fun (o,p,q,r,s,t)=>k0 (o,p,q,r,IntKind.wrap IntKind.i64 (s+(1:Int)),t)) (fun k2=>brV (decide ((eltS ((0:Int),(0:Int),none) k m).2.1=j)) (inS i m/\inS n m/\k2 (i,j,k,l,m,setO n (toN m) (eltS false i m))) (k2 (i,j,k,l,m,n)))) (Q n)) (b,c,a,szSl a,(0:Int),some (repS (szSl b) false)))):
 callV Pg q5h [⟨tMo,a⟩,⟨(.sl .bool),b⟩,⟨tI,c⟩] (.sl .bool) Q:=
 q02 (c:=q00 Tryz.f76) (ann:=q9V) Tryz.func76 rfl Tryz.call76 rfl rfl hQ (kcast (by kernel_rfl) h)
def q9E:Ann:=.nil
theorem qcI {Q:Bool->Prop} (a:Int) (b:(Option (List Bool))) (hQ:∃ r,Q r) (h:
 (inS b a/\Q (eltS false b a))):
 callV Pg q2X [⟨tI,a⟩,⟨(.fref (.sl .bool)),b⟩] .bool Q:=
 q02 (c:=q00 Tryz.f78) (ann:=q9E) Tryz.func78 rfl Tryz.call78 rfl rfl hQ (kcast (by kernel_rfl) h)
def q9T:Ann:=let x:Shape:=⟨[(3,.cst (.fn q0c)),(9,.own 15)],[.var 0 (.sl (.sl tER)),.var 1 (.sl tER),.var 2 .bool,.var 10 tI,.var 17 tI,.var 18 tI,.var 24 (.sl tER),.var 25 tI,.var 26 tI,.arr 15 tER]⟩;(.s (.s (.seq (.s (.blk none (.loop ⟨[(3,.cst (.fn q0c)),(9,.own 15)],[.var 0 (.sl (.sl tER)),.var 1 (.sl tER),.var 2 .bool,.var 17 tI,.var 18 tI,.arr 15 tER]⟩ (.s (.s (.seq (.blk none (.s (.s (.blk none (.loop x (.s (.s (.seq (.blk none (.s (.blk none (.s (.cond (some x) .nil (.s (.cond (some x) .nil .nil))))))) .nil)))))))) .nil)))))) .nil)))
theorem qcW {Q:(Option (List DR))->Prop} (a:(Option (List (Option (List DR))))) (b:(Option (List DR))) (c:Bool) (d:Unit) (hQ:∃ r,Q r) (h:
 (mkC 64 (szSl b) (szSl b)/\loopV (Option (List (Option (List DR)))×Option (List DR)×Bool×Int×Int×Option (List DR)) (fun k0  (i,j,k,l,m,n)=>brV (decide (m<l)) (inS i m/\loopV (Option (List (Option (List DR)))×Option (List DR)×Bool×Int×Int×Int×Option (List DR)×Int×Int×Option (List DR)) (fun k2  (o,p,q,r,s,t,u,v,w,x)=>brV (decide (w<v)) (inS u w/\callV Pg q0n [⟨tER,eltS r0 u w⟩] tI (fun p4=>joinV (Option (List (Option (List DR)))×Option (List DR)×Bool×Int×Int×Int×Option (List DR)×Int×Int×Option (List DR)) (fun (y,z,e,f,g,d,A,B,C,D)=>k2 (y,z,e,f,g,d,A,B,IntKind.wrap IntKind.i64 (C+(1:Int)),D)) (fun k5=>brV (decide (p4=(0:Int))) (k5 (o,p,q,r,s,t,u,v,w,x)) (joinV (Option (List (Option (List DR)))×Option (List DR)×Bool×Int×Int×Int×Option (List DR)×Int×Int×Option (List DR)) (fun y=>k5 y) (fun k6=>brV q (inS x r/\inS p w/\callV Pg q0c [⟨tER,eltN r0 x (toN r)⟩,⟨tER,eltS r0 p w⟩,⟨tER,eltS r0 u w⟩] tER (fun p7=>inS x r/\k6 (o,p,q,r,s,t,u,v,w,setO x (toN r) p7))) (inS x w/\inS p r/\callV Pg q0c [⟨tER,eltN r0 x (toN w)⟩,⟨tER,eltS r0 p r⟩,⟨tER,eltS r0 u w⟩] tER (fun p7=>inS x w/\k6 (o,p,q,r,s,t,u,v,w,setO x (toN w) p7)))))))) (k0 (o,p,q,s,IntKind.wrap IntKind.i64 (t+(1:Int)),x))) (i,j,k,m,l,m,eltS none i m,szSl (eltS none i m),(0:Int),n)) (Q n)) (a,b,c,szSl a,(0:Int),some (repS (α:=DR) (szSl b) r0)))):
 ownV Pg q0P [⟨(.sl (.sl tER)),a⟩,⟨(.sl tER),b⟩,⟨.bool,c⟩,⟨(.cst (.fn q0c)),d⟩] tER Q:=
 q2m (c:=q00 Tryz.f47) (ann:=q9T) Tryz.func47 rfl Tryz.call47 rfl rfl hQ (kcast (by kernel_rfl) h)
end Go.Proofs.Pf
namespace Go.Proofs.Pf
open Go Go.VM
set_option maxRecDepth 100000
def q97:Ann:=.nil
theorem qcb {Q:(Option (List (Int×Int)))->Prop} (a:(Option (List (Int×Int)))) (hQ:∃ r,Q r) (h:
 (appC 16 (some []) (lst a)/\Q (appL (some []) (lst a)))):
 ownV Pg q4W [⟨(.sl tNum),a⟩] tNum Q:=
 q2m (c:=q00 Tryz.f80) (ann:=q97) Tryz.func80 rfl Tryz.call80 rfl rfl hQ (kcast (by kernel_rfl) h)
def q98:Ann:=(.s (.seq (.reg [] [(4095,([.new 80007 tNum],false))] none) (.seq (.s (.blk none (.loop ⟨[(3,.own 1003)],[.var 6 (.sl (.sl tNum)),.var 7 tI,.var 8 tI,.arr 1003 (.hd 80007),.pool 80007 tNum]⟩ (.s (.s (.seq (.blk none (.s (.reg [] [(2,([],true)),(4,([.giv 14 80007],false))] none))) .nil)))))) .nil)))
theorem qcc {Q:((Option (List (Option Nat)))×(List (List (Int×Int))))->Prop} (a:(Option (List (Option (List (Int×Int)))))) (hQ:∃ r,Q r) (h:
 (loopV (Option (List (Option (List (Int×Int))))×Int×Int×Option (List (Option Nat))×List (List (Int×Int))) (fun k0  (i,j,k,l,m)=>brV (decide (k<j)) (inS i k/\ownV Pg q4W [⟨.sl tNum,eltS none i k⟩] tNum (fun p2=>appC 24 l (lst (mapL (fun x3=>gvH (α:=(List (Int×Int))) p2 (lenL m)) (some [()])))/\k0 (i,j,IntKind.wrap IntKind.i64 (k+(1:Int)),appL l (lst (mapL (fun x3=>gvH (α:=(List (Int×Int))) p2 (lenL m)) (some [()]))),gvL m p2))) (Q (l,m))) (a,szSl a,(0:Int),none,[]))):
 lendV Pg q4V 1 q3t (a) Q:=
 q0g (c:=q00 Tryz.f31) (ann:=q98) Tryz.func31 rfl Tryz.call31 rfl hQ rfl (kcast (by kernel_rfl) h)
def q9a:Ann:=(.s (.blk none (.loop ⟨[(0,.own 1000000000)],[.var 4 tI,.var 5 tI,.arr 1000000000 tNum]⟩ .nil)))
theorem qce {Q:(Option (List (Int×Int)))->Prop} (a:(Option (List (Int×Int)))) (hQ:∃ r,Q r) (h:
 (loopV (Int×Int×Option (List (Int×Int))) (fun k0  (i,j,k)=>brV (decide (j<i)) (inS k j/\inS k j/\k0 (i,IntKind.wrap IntKind.i64 (j+(1:Int)),setO k (toN j) (IntKind.wrap IntKind.i64 ((eltN ((0:Int),(0:Int)) k (toN j)).1+(1:Int)),(7:Int)))) (Q k)) (szSl a,(0:Int),a))):
 lendV Pg q4Z 1 q3u (a) Q:=
 q0g (c:=q00 Tryz.f81) (ann:=q9a) Tryz.func81 rfl Tryz.call81 rfl hQ rfl (kcast (by kernel_rfl) h)
def q9b:Ann:=(.s (.blk none (.loop ⟨[(4,.own 1000000000)],[.var 5 tI,.var 6 tI,.arr 1000000000 (.hd 80006),.pool 80006 tNum]⟩ (.s (.s (.seq (.blk none (.s (.regL [] [] [(1,q3u)] none))) .nil))))))
theorem qcf {Q:Unit->Prop} (a:(Option (List (Option Nat)))) (b:(List (List (Int×Int)))) (hQ:∃ r,Q r) (h:
 (loopV (Int×Int×Option (List (Option Nat))×List (List (Int×Int))) (fun k0  (i,j,k,l)=>brV (decide (j<i)) (inS k j/\lendV Pg q4Z 1 q3u (unH l (eltN none k (toN j))) (fun p2=>brV (Option.isNone (eltN none k (toN j))) (k0 (i,IntKind.wrap IntKind.i64 (j+(1:Int)),k,l)) (k0 (i,IntKind.wrap IntKind.i64 (j+(1:Int)),k,List.set l (Option.getD (eltN none k (toN j)) 0) (lst p2))))) (Q ())) (szSl a,(0:Int),a,b))):
 lendV Pg q4Y 1 q3v (a,b) Q:=
 q0g (c:=q00 Tryz.f32) (ann:=q9b) Tryz.func32 rfl Tryz.call32 rfl hQ rfl (kcast (by kernel_rfl) h)
def q99:Ann:=(.s (.s (.seq (.s (.blk none (.loop ⟨[],[.var 0 (.sl (.sl tNum)),.var 1 (.sl (.sl tNum)),.var 12 tI,.var 13 tI]⟩ .nil))) .nil)))
theorem qcd {Q:Bool->Prop} (a:(Option (List (Option (List (Int×Int)))))) (b:(Option (List (Option (List (Int×Int)))))) (hQ:∃ r,Q r) (h:
 (brV (notB (decide ((szSl a)=(szSl b)))) (Q false) (loopV (Option (List (Option (List (Int×Int))))×Option (List (Option (List (Int×Int))))×Int×Int) (fun k0  (i,j,k,l)=>brV (decide (l<k)) (inS i l/\inS j l/\callV Pg q2R [⟨.sl tNum,eltS none i l⟩,⟨.sl tNum,eltS none j l⟩] .bool (fun p2=>brV (notB p2) (Q false) (k0 (i,j,k,IntKind.wrap IntKind.i64 (l+(1:Int)))))) (Q true)) (a,b,szSl a,(0:Int))))):
 callV Pg q4X [⟨(.sl (.sl tNum)),a⟩,⟨(.sl (.sl tNum)),b⟩] .bool Q:=
 q02 (c:=q00 Tryz.f34) (ann:=q99) Tryz.func34 rfl Tryz.call34 rfl rfl hQ (kcast (by kernel_rfl) h)
def q9f:Ann:=(.s (.s (.seq (.s (.blk none (.loop ⟨[],[.var 0 (.sl tL),.var 1 (.sl tL),.var 12 tI,.var 13 tI]⟩ .nil))) .nil)))
theorem qcj {Q:Bool->Prop} (a:(Option (List DL))) (b:(Option (List DL))) (hQ:∃ r,Q r) (h:
 (brV (notB (decide ((szSl a)=(szSl b)))) (Q false) (loopV (Option (List DL)×Option (List DL)×Int×Int) (fun k0  (i,j,k,l)=>brV (decide (l<k)) (inS i l/\inS j l/\callV Pg q2Q [⟨tL,eltS none i l⟩,⟨tL,eltS none j l⟩] .bool (fun p2=>brV (notB p2) (Q false) (k0 (i,j,k,IntKind.wrap IntKind.i64 (l+(1:Int)))))) (Q true)) (a,b,szSl a,(0:Int))))):
 callV Pg q52 [⟨(.sl tL),a⟩,⟨(.sl tL),b⟩] .bool Q:=
 q02 (c:=q00 Tryz.f35) (ann:=q9f) Tryz.func35 rfl Tryz.call35 rfl rfl hQ (kcast (by kernel_rfl) h)
def q8I:Ann:=.nil
theorem qbO {Q:((Option (List (Option (List (Int×Int)))))×((Option (List DL))×((List Int)×Unit)))->Prop} (a:DMo) (b:(Option (List (Int×Int)))) (c:DL) (d:Int) (e:Int) (f:Int) (hQ:∃ r,Q r) (h:
 (callV Pg q2a [⟨tMo,a⟩,⟨.sl tNum,b⟩,⟨tL,c⟩] (.tup (.pair (.sl tNum) (.pair tI .unit))) (fun p0=>callV Pg q2Y [⟨tMo,a⟩,⟨.sl tNum,b⟩,⟨tL,c⟩,⟨tI,d⟩] (.tup (.pair (.sl tNum) (.pair tI .unit))) (fun p1=>callV Pg q2V [⟨tMo,a⟩,⟨.sl tNum,b⟩,⟨tL,c⟩] (.tup (.pair (.sl tNum) (.pair tI .unit))) (fun p2=>callV Pg q2U [⟨tMo,a⟩,⟨.sl tNum,b⟩,⟨tL,c⟩] (.tup (.pair tL (.pair tNum (.pair tI .unit)))) (fun p3=>callV Pg q2W [⟨tMo,a⟩,⟨.sl tNum,b⟩,⟨tL,c⟩] (.tup (.pair tL (.pair tI .unit))) (fun p4=>callV Pg q29 [⟨tMo,a⟩,⟨tI,e⟩,⟨tI,f⟩] (.tup (.pair tL (.pair tI .unit))) (fun p5=>callV Pg q2S [⟨tMo,a⟩] (.tup (.pair tL (.pair tI .unit))) (fun p6=>callV Pg q2T [⟨tMo,a⟩,⟨.sl tNum,b⟩,⟨tL,c⟩] (.tup (.pair tNum (.pair tI .unit))) (fun p7=>Q (some [p0.1,p1.1,p2.1],some [p3.1,p4.1,p5.1,p6.1],[p0.2.1,p1.2.1,p2.2.1,p3.2.2.1,p4.2.1,p5.2.1,p6.2.1],()))))))))))):
 callV Pg q27 [⟨tMo,a⟩,⟨(.sl tNum),b⟩,⟨tL,c⟩,⟨tI,d⟩,⟨tI,e⟩,⟨tI,f⟩] (.tup (.pair (.sl (.sl tNum)) (.pair (.sl tL) (.pair (.arr 7 tI) .unit)))) Q:=
 q02 (c:=q00 Tryz.f30) (ann:=q8I) Tryz.func30 rfl Tryz.call30 rfl rfl hQ (kcast (by kernel_rfl) h)
def q8J:Ann:=(.seq (.reg [] [(4095,([.new 80006 tNum],false))] none) (.seq (.regL [] [(4095,([.giv 3501000 80006],false))] [(3,q2B)] none) (.seq (.regL [] [(4095,([.giv 4301000 80006],false))] [(4,q2D)] none) (.seq (.regL [] [(4095,([.giv 5001000 80006],false))] [(3,q2A)] none) (.seq (.regL [] [] [(3,q2z)] none) (.seq (.regL [] [] [(3,q2C)] none) (.seq (.regL [] [(4095,([.giv 6501000 80005,.giv 5701000 80005],false))] [(3,q2y)] none) (.seq (.regL [] [(4095,([.giv 7701000 80005],false))] [(1,q2x)] none) .nil))))))))
theorem qbP {Q:((List Int)×((Option (List (Option Nat)))×((Option (List (Option Nat)))×((List (List (Int×Int)))×(List (List Int))))))->Prop} (a:DMo) (b:(Option (List (Int×Int)))) (c:DL) (d:Int) (e:Int) (f:Int) (hQ:∃ r,Q r) (h:
 (lendV Pg q2a 3 q2B (a,b,c) (fun p0=>lendV Pg q2Y 4 q2D (a,b,c,d) (fun p1=>lendV Pg q2V 3 q2A (a,b,c) (fun p2=>lendV Pg q2U 3 q2z (a,b,c) (fun p3=>lendV Pg q2W 3 q2C (a,b,c) (fun p4=>lendV Pg q29 3 q2y (a,e,f) (fun p5=>lendV Pg q2S 1 q2x a (fun p6=>callV Pg q2T [⟨tMo,a⟩,⟨.sl tNum,b⟩,⟨tL,c⟩] (.tup (.pair tNum (.pair tI .unit))) (fun p7=>Q ([p0.1,p1.1,p2.1,p3.2.1,p4.1,p5.2.1,p6.1],some [gvH (α:=(List (Int×Int))) p0.2 (lenL (α:=List (Int×Int)) []),gvH (α:=(List (Int×Int))) p1.2 (lenL (gvL [] p0.2)),gvH (α:=(List (Int×Int))) p2.2 (lenL (gvL (gvL [] p0.2) p1.2))],some [gvH (α:=(List Int)) p3.2.2 (lenL (gvL p5.2.2 p4.2)),gvH (α:=(List Int)) p4.2 (lenL p5.2.2),p5.1,gvH (α:=(List Int)) p6.2 (lenL (gvL (gvL p5.2.2 p4.2) p3.2.2))],gvL (gvL (gvL [] p0.2) p1.2) p2.2,gvL (gvL (gvL p5.2.2 p4.2) p3.2.2) p6.2))))))))))):
 lendV Pg q27 6 q3r (a,b,c,d,e,f) Q:=
 q0g (c:=q00 Tryz.f30) (ann:=q8J) Tryz.func30 rfl Tryz.call30 rfl hQ rfl (kcast (by kernel_rfl) h)
def q8E:Ann:=(.s (.s (.s (.seq (.regL [] [] [(6,q3r)] none) (.seq (.regL [] [] [(1,q3t)] none) (.seq (.reg [] [(4095,([.new 80008 tI],false))] none) (.seq (.s (.blk none (.loop ⟨[(6,.ref 6 0),(13,.ref 13 0),(14,.own 37),(15,.own 40),(16,.own 4901000),(18,.ref 18 0),(19,.own 5401000),(20,.own 1020),(54,.own 4901001)],[.var 1 (.sl tNum),.var 2 tL,.var 3 tI,.var 4 tI,.var 5 tI,.var 55 tI,.var 56 tI,.box 6 tMo,.box 13 tMo,.box 18 (.arr 7 tI),.arr 37 tNum,.arr 40 tI,.arr 4901000 (.hd 80006),.arr 5401000 (.hd 80007),.arr 1020 (.hd 80008),.arr 4901001 (.hd 80005),.pool 80006 tNum,.pool 80007 tNum,.pool 80008 tI,.pool 80005 tI]⟩ (.s (.s (.seq (.blk none (.s (.seq (.reg [] [(5,([.giv 63 80008],false))] none) (.s (.blk none (.loop ⟨[(6,.ref 6 0),(13,.ref 13 0),(14,.own 37),(15,.own 40),(16,.own 4901000),(18,.ref 18 0),(19,.own 5401000),(20,.own 65),(54,.own 4901001)],[.var 1 (.sl tNum),.var 2 tL,.var 3 tI,.var 4 tI,.var 5 tI,.var 22 (.hd 80005),.var 55 tI,.var 56 tI,.var 67 tI,.var 68 tI,.box 6 tMo,.box 13 tMo,.box 18 (.arr 7 tI),.arr 37 tNum,.arr 40 tI,.arr 4901000 (.hd 80006),.arr 5401000 (.hd 80007),.arr 65 (.hd 80008),.arr 4901001 (.hd 80005),.pool 80005 tI,.pool 80006 tNum,.pool 80007 tNum,.pool 80008 tI]⟩ .nil)))))) .nil)))))) (.seq (.regL [] [] [(1,q3v)] none) (.seq (.seq (.reg [] [] (some ⟨[(6,.ref 6 0),(18,.ref 18 0),(19,.own 5401000),(20,.own 1020)],[.var 1 (.sl tNum),.var 2 tL,.var 3 tI,.var 4 tI,.var 5 tI,.var 96 .bool,.box 6 tMo,.box 18 (.arr 7 tI),.arr 5401000 (.hd 80007),.arr 1020 (.hd 80008),.pool 80007 tNum,.pool 80008 tI,.pool 80005 tI]⟩)) .nil) (.seq (.reg [] [(4095,([.frp 80007,.frp 80008],false))] none) (.seq (.reg [] [] (some ⟨[],[.var 12 .bool,.pool 80005 tI]⟩)) .nil)))))))))))
theorem qbK {Q:Bool->Prop} (a:DMo) (b:(Option (List (Int×Int)))) (c:DL) (d:Int) (e:Int) (f:Int) (hQ:∃ r,Q r) (h:
 (callV Pg q4I [⟨tMo,a⟩,⟨.sl tNum,b⟩,⟨tL,c⟩] .bool (fun p0=>brV (notB p0) (callV Pg q3N [] .bool (fun p1=>Q p1)) (callV Pg q50 [⟨tMo,a⟩] tMo (fun p1=>appC 16 (some []) (lst b)/\appC 8 (some []) (lst c)/\lendV Pg q27 6 q3r (a,b,c,d,e,f) (fun p2=>lendV Pg q4V 1 q3t (mapL (fun x3=>unH p2.2.2.2.1 x3) p2.2.1) (fun p3=>loopV (Option (List (Int×Int))×DL×Int×Int×Int×Int×Int×DMo×DMo×List Int×Option (List (Int×Int))×DL×Option (List (Option Nat))×Option (List (Option Nat))×Option (List (Option Nat))×Option (List (Option Nat))×List (List (Int×Int))×List (List (Int×Int))×List (List Int)×List (List Int)) (fun k4  (i,j,k,l,m,n,o,p,q,r,s,t,u,v,w,x,y,z,g,A)=>brV (decide (o<n)) (inS x o/\appC 8 (some []) (lst (unH A (eltN none x (toN o))))/\appC 24 w (lst (mapL (fun x6=>gvH (α:=(List Int)) (appL (some []) (lst (unH A (eltN none x (toN o))))) (lenL g)) (some [()])))/\loopV (Option (List (Int×Int))×DL×Int×Int×Int×Option Nat×Int×Int×Int×Int×DMo×DMo×List Int×Option (List (Int×Int))×DL×Option (List (Option Nat))×Option (List (Option Nat))×Option (List (Option Nat))×Option (List (Option Nat))×List (List Int)×List (List (Int×Int))×List (List (Int×Int))×List (List Int)) (fun k6  (B,C,D,E,F,G,H,I,J,K,L,M,N,O,P,R,S,T,U,V,W,X,Y)=>brV (decide (K<J)) (inH V G K/\inH V G K/\k6 (B,C,D,E,F,G,H,I,J,IntKind.wrap IntKind.i64 (K+(1:Int)),L,M,N,O,P,R,S,T,U,setR V (Option.getD G 0) (toN K) (IntKind.wrap IntKind.i64 ((rowE (0:Int) V (Option.getD G 0) (toN K))+(1:Int))),W,X,Y)) (k4 (B,C,D,E,F,H,IntKind.wrap IntKind.i64 (I+(1:Int)),L,M,N,O,P,R,S,T,U,W,X,Y,V))) (i,j,k,l,m,eltN none x (toN o),n,o,szH A (eltN none x (toN o)),(0:Int),p,q,r,s,t,u,v,appL w (lst (mapL (fun x6=>gvH (α:=(List Int)) (appL (some []) (lst (unH A (eltN none x (toN o))))) (lenL g)) (some [()]))),x,A,y,z,gvL g (appL (some []) (lst (unH A (eltN none x (toN o))))))) (lendV Pg q4Y 1 q3v (u,y) (fun p6=>joinV (Option (List (Int×Int))×DL×Int×Int×Int×Bool×DMo×List Int×Option (List (Option Nat))×Option (List (Option Nat))×List (List (Int×Int))×List (List Int)×List (List Int)) (fun (B,C,D,E,F,G,H,I,J,K,L,M,N)=>brV G (Q false) (callV Pg q27 [⟨tMo,H⟩,⟨.sl tNum,B⟩,⟨tL,C⟩,⟨tI,D⟩,⟨tI,E⟩,⟨tI,F⟩] (.tup (.pair (.sl (.sl tNum)) (.pair (.sl tL) (.pair (.arr 7 tI) .unit)))) (fun p8=>joinV (Bool×List (List Int)) (fun (O,_)=>Q O) (fun k9=>brV (eqIs I p8.2.2.1) (callV Pg q4X [⟨.sl (.sl tNum),mapL (fun x10=>x10) (mapL (fun x10=>unH L x10) J)⟩,⟨.sl (.sl tNum),p8.1⟩] .bool (fun p10=>brV p10 (callV Pg q52 [⟨.sl tL,mapL (fun x11=>unH (List.map (List.map (fun x12=>x12)) M) x11) (mapL (fun x11=>x11) K)⟩,⟨.sl tL,p8.2.1⟩] .bool (fun p11=>brV p11 (callV Pg q3N [] .bool (fun p12=>k9 (p12,List.map (List.map (fun x13=>x13)) (List.map (List.map (fun x13=>x13)) N)))) (k9 (false,List.map (List.map (fun x12=>x12)) (List.map (List.map (fun x12=>x12)) N))))) (k9 (false,List.map (List.map (fun x11=>x11)) (List.map (List.map (fun x11=>x11)) N))))) (k9 (false,List.map (List.map (fun x10=>x10)) (List.map (List.map (fun x10=>x10)) N))))))) (fun k7=>callV Pg q3Q [⟨tMo,p⟩,⟨tMo,q⟩] .bool (fun p8=>brV (notB p8) (k7 (i,j,k,l,m,true,p,r,v,w,z,g,A)) (callV Pg q2R [⟨.sl tNum,i⟩,⟨.sl tNum,s⟩] .bool (fun p9=>brV (notB p9) (k7 (i,j,k,l,m,true,p,r,v,w,z,g,A)) (callV Pg q2Q [⟨tL,j⟩,⟨tL,t⟩] .bool (fun p10=>k7 (i,j,k,l,m,notB p10,p,r,v,w,z,g,A)))))))))) (b,c,d,e,f,szSl p2.2.2.1,(0:Int),a,p1,p2.1,appL (some []) (lst b),appL (some []) (lst c),p2.2.1,p3.1,none,p2.2.2.1,p2.2.2.2.1,p3.2,[],p2.2.2.2.2)))))))):
 callV Pg q6C [⟨tMo,a⟩,⟨(.sl tNum),b⟩,⟨tL,c⟩,⟨tI,d⟩,⟨tI,e⟩,⟨tI,f⟩] .bool Q:=
 q02 (c:=q00 Tryz.f5) (ann:=q8E) Tryz.func5 rfl Tryz.call5 rfl rfl hQ (kcast (by kernel_rfl) h)
end Go.Proofs.Pf
