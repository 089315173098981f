/- Typed pure data, a condition on code that says what a call gives, what the code of each function comes to, and what each function gives. -/
import Derived.Lib.AppendIntMem
import Derived.Test.YtackcicjgkfefaaGreatDoorA8
import Derived.Test.YtackcicjgkfefaaGreatDoorA9
import Derived.Test.YtackcicjgkfefaaGreatDoorA12
import Derived.Test.YtackcicjgkfefaaGreatDoorA13
set_option linter.unusedVariables false
set_option linter.unusedSimpArgs false
set_option linter.unnecessarySimpa false
namespace Go.Proofs.Pf.B
open Go Go.VM
def itoaB (n:Int):ByteArray:=⟨(Lib.itoa n).toArray⟩
theorem q0a (n:Int):bl (itoaB n)=Lib.itoa n:=by simp[bl,itoaB]
theorem tab_of {w:World} (h:Gl Pg w) (hs:(Pg.globalNamed "internal/strconv.uint64pow10").isSome=true):Lib.TabIs Pg w "internal/strconv.uint64pow10" .u64 Lib.pow10Tab:=by
 obtain⟨g,hg⟩:=Option.isSome_iff_exists.1 hs
 exact h g hg
theorem q26 {n:Int} (h0:-9223372036854775808<=n) (h1:n<9223372036854775808):callV Pg q1t [⟨tI,n⟩] .str fun r=>r=itoaB n:=by
 refine⟨Tryz.call20,⟨_,rfl⟩,fun w F vals hF hg hv=>?_⟩
 match vals,hv with
 | [v],hv=>
  obtain⟨hv,-⟩:=hv
  rw[q03] at hv
  subst hv
  refine (Tryz.strconv_Itoa n h0 (by omega) w (tab_of hg (by kernel_rfl))).mono ?_
  rintro e w' ⟨rfl,k,os,rfl⟩
  exact⟨_,_,rfl,q0q.2 rfl,rfl,Lib.below_grow _ _ (Nat.le_refl _) _ _⟩
theorem q33 (l:List Nat):bl (bytesL l)=l.map UInt8.ofNat:=by simp[bl,bytesL]
theorem q60 {n:Nat} (h:n<=1152921504606846976):(Lib.decDigits n).length<=40:=dec_len (Nat.lt_of_le_of_lt h (by decide))
theorem q0G {n:Int} (h:n.natAbs<=1152921504606846976):(Lib.itoa n).length<=41:=by
 unfold Lib.itoa
 split
 . have:=q60 h;simp only[List.length_cons];omega
 . have:=q60 (n:=n.toNat) (by omega);omega
theorem q2b (s:ByteArray):s.size=(bl s).length:=by simp[bl]
def printL (a:Int×Int):List UInt8:=if a.2=1 then Lib.itoa a.1 else Lib.itoa a.1 ++ 47 :: Lib.itoa a.2
def printB (a:Int×Int):ByteArray:=⟨(printL a).toArray⟩
theorem q1q (a:Int×Int):bl (printB a)=printL a:=by simp[bl,printB]
def q2D (a:Int×Int):ByteArray×Int×Unit:=if NumOk a then (printB a,0,()) else (⟨#[]⟩,1,())
theorem q3B {a:Int×Int} (h:NumOk a):(printL a).length<=90:=by
 obtain⟨h1,h2,h3,h4,_⟩:=h
 have e1:=q0G (n:=a.1) (by omega)
 have e2:=q0G (n:=a.2) (by omega)
 unfold printL
 split
 . omega
 . simp only[List.length_append,List.length_cons];omega
theorem q6R (a:Int×Int):callV Pg q3f [⟨tNum,a⟩] (.tup (.pair .str (.pair tI .unit))) fun r=>r=q2D a:=by
 refine qal a ⟨_,rfl⟩ ((q5q longS a).mono ?_)
 rintro _ rfl
 refine q00.2 ⟨fun hb=>?_,fun hb=>?_⟩
 . rw[q2D,if_neg (not_t hb)];rfl
 . have hv:NumOk a:=not_f hb
   rw[q2D,if_pos hv]
   have hv':=hv
   obtain⟨h1,h2,h3,h4,_⟩:=hv'
   refine (q26 (n:=a.1) (by omega) (by omega)).mono ?_
   rintro _ rfl
   have l1:=q0G (n:=a.1) (by omega)
   have l2:=q0G (n:=a.2) (by omega)
   refine joinR (fun p=>p=printB a) (by rintro _ rfl;rfl) fun k hk=>q00.2 ⟨fun hb=>?_,fun hb=>?_⟩
   . have hb:¬ a.2=1:=not_t hb
     refine (q26 (n:=a.2) (by omega) (by omega)).mono ?_
     rintro _ rfl
     refine⟨?_,?_,hk _ ?_⟩
     . unfold catC;rw[q2b,q2b,q33,q0a];simp only[List.length_map,List.length_singleton];omega
     . unfold catC;rw[q2b,q2b,q32,q33,q0a,q0a];simp only[List.length_append,List.length_map,List.length_singleton];omega
     . apply bl_inj
       rw[q32,q32,q33,q0a,q0a,q1q,printL,if_neg hb];rfl
   . have hb:a.2=1:=not_f hb
     refine hk _ (bl_inj ?_)
     rw[q0a,q1q,printL,if_pos hb]
end Go.Proofs.Pf.B
