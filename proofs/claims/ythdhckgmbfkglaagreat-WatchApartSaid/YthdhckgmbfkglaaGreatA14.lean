/- Typed pure data, a condition on code that says what a call gives, what the code of each function comes to, and what each function gives. -/
import Derived.Test.YthdhckgmbfkglaaGreatA12
import Derived.Test.YthdhckgmbfkglaaGreatA13
set_option linter.unusedVariables false
set_option linter.unusedSimpArgs false
set_option linter.unnecessarySimpa false
namespace Go.Proofs.Pf.B
open Go Go.VM
def bkQ (P:Mat) (x:Nat->Rat) (b s:Nat):Rat:=sumQ (fun t=>x t*P s t) b
theorem s_movedB {p:Option (List (Option (List DR)))} {l:Option (List DR)} {P:Mat} {x:Nat->Rat} {n k:Nat} (hp:RM p P n) (hl:RL l x n) (hn:n<=1000)
 (f1:∀ s t,s<n->t<n->Pf.RFit k (P s t)) (f2:∀ s,s<n->Pf.RFit k (x s)) (f3:∀ s t,s<n->t<n->Pf.RFit k (x t*P s t)) (f4:∀ b s,b<=n->s<n->Pf.RFit k (bkQ P x b s)) (hk:k+k+1<=1073741824):
 callV Pg q1i [⟨(.sl (.sl tER)),p⟩,⟨(.sl tER),l⟩,⟨.bool,true⟩,⟨(.cst (.fn q0g)),()⟩] (.sl tER) fun r=>RL r (bkQ P x n) n:=by
 obtain⟨h1,h2⟩:=hl
 obtain⟨p1,p2⟩:=hp
 have e1:szSl l=(n:Int):=by show ((l.getD []).length:Int)=n;rw[h1]
 have e2:szSl p=(n:Int):=by show ((p.getD []).length:Int)=n;rw[p1]
 refine qab p l true () (RL.ex _ _) ⟨?_,?_⟩
 . rw[e1]
   show 0<=(n:Int)/\(n:Int)<=n/\(n:Int)*64<=281474976710656
   omega
 . rw[e1,e2]
   refine rangeB (n:=n) (fun i y=>(p,(l,(true,((n:Int),((i:Int),y)))))) (fun i y=>RL y (fun s=>if s<i then bkQ P x n s else 0) n) (some (repS (n:Int) r0)) rfl ((RL.zero n).congr fun j _=>if_neg (by omega)) (fun p=>p.2.2.2.2.1.toNat) (fun _ _=>rfl) (fun _ _ _=>rfl) ?_ ?_
   . intro k0 i y hi hy hk0
     try dsimp only
     obtain⟨r1,r2⟩:=p2 i hi
     refine⟨in_s (by omega),?_⟩
     rw[q2F]
     generalize hr:(p.getD []).getD i none=r at *
     have e3:szSl r=(n:Int):=by show ((r.getD []).length:Int)=n;rw[r1]
     rw[e3]
     refine rangeB (n:=n) (fun j z=>(p,(l,(true,((i:Int),((n:Int),((i:Int),(r,((n:Int),((j:Int),z)))))))))) (fun j z=>RL z (fun s=>if s<i then bkQ P x n s else if s=i then bkQ P x j s else 0) n) y rfl (hy.congr fun j _=>?_) (fun p=>p.2.2.2.2.2.2.2.2.1.toNat) (fun _ _=>rfl) (fun _ _ _=>rfl) ?_ ?_
     . try dsimp only
       by_cases h:j<i
       . rw[if_pos h,if_pos h]
       . rw[if_neg h,if_neg h]
         split<;>rfl
     . intro k1 j z hj hz hk1
       try dsimp only
       refine⟨in_s (by omega),?_⟩
       rw[q0b]
       have hc:=r2 j hj
       refine (q1p hc).mono fun sg hsg=>?_
       subst hsg
       refine joinE (br_c (fun hb=>?_) fun hb=>?_)
       . try dsimp only
         rw[wi1 hj (by omega)]
         refine hk1 _ (hz.congr fun t _=>?_)
         have h0:=rv_zero hc (dec_t hb)
         simp only[bkQ,sumQ]
         by_cases ht:t=i
         . subst ht;rw[h0,Rat.mul_zero,Rat.add_zero]
         . rw[if_neg ht,if_neg ht]
       . refine joinE (br_t rfl ⟨in_s (by rw[hz.1];exact hi),in_s (by omega),?_⟩)
         have e4:eltN r0 z (toN (i:Int))=(z.getD []).getD i r0:=by simp only[eltN,toN,Int.toNat_natCast]
         rw[e4,q0b]
         have hzj:=hz.2 i hi
         dsimp only at hzj
         rw[if_neg (by omega),if_pos rfl] at hzj
         refine (q9T hzj (h2 j hj) hc (f4 j i (by omega) hi) (f2 j hj) (f1 i j hi hj) (f3 i j hi hj) hk).mono fun w hw=>⟨in_s (by rw[hz.1];exact hi),?_⟩
         try dsimp only
         rw[wi1 hj (by omega),show toN (i:Int)=i from Int.toNat_natCast i]
         refine hk1 _ (RL.set hz hi (g:=fun s=>if s<i then bkQ P x n s else if s=i then bkQ P x (j+1) s else 0) ?_ fun t _ ht=>?_)
         . rw[if_neg (by omega),if_pos rfl];exact hw
         . try dsimp only
           rw[if_neg ht,if_neg ht]
     . intro _ z hz
       try dsimp only
       rw[wi1 hi (by omega)]
       refine hk0 _ (hz.congr fun t ht=>?_)
       try dsimp only
       by_cases h:t<i
       . rw[if_pos h,if_pos (by omega)]
       . rw[if_neg h]
         by_cases h2:t=i
         . rw[if_pos h2,if_pos (by omega)]
         . rw[if_neg h2,if_neg (by omega)]
   . intro _ y hy
     exact hy.congr fun j hj=>by rw[if_pos hj]
theorem FB.bstep {n a b c:Nat} {x:Nat->Rat} {P:Mat} (h:FB n a x) (g:MB n b P) (hn:n<=KK) (hc:c<=n):FB n (a+b+1) (bkQ P x c):=by
 obtain⟨D,h1,h2,h3⟩:=h
 obtain⟨E,g1,g2,g3⟩:=g
 refine⟨D*E,Nat.mul_pos h1 g1,Nat.le_trans (kk_mul h2 g2) (kk_le (by omega)),fun s hs=>?_⟩
 refine (QD.sum c fun t ht=>(h3 t (by omega)).mul (g3 s t hs (by omega))).mono ?_
 rw[Nat.pow_succ,Nat.mul_comm,Nat.pow_add]
 exact Nat.mul_le_mul_left _ (by omega)
def bb (m:DMo):List Int->Nat->Rat
 | []=>fun _=>1
 | k :: v=>seenQ m (bkQ (rowQ m) (bb m v) (m.getD []).length) k
theorem bb_fb {m:DMo} (hm:moOk m):∀ w:List Int,FB (m.getD []).length (w.length*((m.getD []).length*(m.getD []).length+1+1)) (bb m w)
 | []=>⟨1,by decide,(by rw[List.length_nil,Nat.zero_mul,Nat.pow_zero];exact Nat.le_refl _),fun i _=>by exact (QD.one 1).mono (by simp)⟩
 | k :: w=>by
  refine (((bb_fb hm w).bstep hm.mb (Nat.le_trans hm.1.2 (by decide)) (Nat.le_refl _)).seen k).mono ?_
  rw[List.length_cons,Nat.succ_mul];omega
theorem bk_one {m:DMo} (hm:moOk m) {s:Nat} (hs:s<(m.getD []).length):bkQ (rowQ m) (fun _=>1) (m.getD []).length s=1:=by
 unfold bkQ
 rw[q05 (g:=rowQ m s) _ fun t _=>Rat.one_mul _]
 exact hm.rowsum hs
theorem fold_bb {m:DMo} (hm:moOk m):∀ (v:List Int) (y:Nat->Rat),sumQ (v.foldl (stp m) y) (m.getD []).length=sumQ (fun i=>y i*bkQ (rowQ m) (bb m v) (m.getD []).length i) (m.getD []).length
 | [],y=>q05 _ fun i hi=>by
  show y i=y i*bkQ (rowQ m) (fun _=>1) _ i
  rw[bk_one hm hi,Rat.mul_one]
 | k :: v,y=>by
  show sumQ (v.foldl (stp m) (stp m y k)) _=_
  rw[fold_bb hm v]
  have e1:∀ t,stp m y k t*bkQ (rowQ m) (bb m v) (m.getD []).length t=sumQ (fun i=>y i*rowQ m i t*seenQ m (bkQ (rowQ m) (bb m v) (m.getD []).length) k t) (m.getD []).length:=by
   intro t
   rw[q0o]
   unfold stp seenQ
   split
   . rfl
   . rw[Rat.zero_mul,Rat.mul_zero]
  rw[q05 _ fun t _=>e1 t,q6j]
  refine q05 _ fun i _=>?_
  show _=y i*sumQ (fun t=>bb m (k :: v) t*rowQ m i t) _
  rw[Rat.mul_comm (y i),<-q0o]
  refine q05 _ fun t _=>?_
  show _=seenQ m (bkQ (rowQ m) (bb m v) (m.getD []).length) k t*rowQ m i t*y i
  grind
theorem wQ_bb {m:DMo} (hm:moOk m) {s:Nat} (hs:s<(m.getD []).length) (w:List Int):wQ m s w=bb m w s:=by
 cases w with
 | nil=>exact q1q 1 _ hs
 | cons k v=>
  show sumQ (v.foldl (stp m) (seenQ m (ptQ s) k)) _=seenQ m _ k s
  rw[fold_bb hm]
  have e:∀ i,seenQ m (ptQ s) k i*bkQ (rowQ m) (bb m v) (m.getD []).length i=if s=i then seenQ m (bkQ (rowQ m) (bb m v) (m.getD []).length) k s else 0:=by
   intro i
   unfold seenQ ptQ
   by_cases h:s=i
   . subst h
     rw[if_pos rfl,if_pos rfl]
     split
     . rw[Rat.one_mul]
     . rw[Rat.zero_mul]
   . rw[if_neg h,if_neg h]
     split<;>rw[Rat.zero_mul]
  rw[q05 _ fun i _=>e i,q1q _ _ hs]
theorem Span.mem {B:Mat} {k n j:Nat} (hj:j<k):Span B k n (B j):=by
 refine⟨fun i=>if j=i then 1 else 0,fun s _=>?_⟩
 unfold dtQ
 have:∀ i,i<k->B i s*(if j=i then 1 else 0)=if j=i then B j s else 0:=fun i _=>by
  by_cases h:j=i
  . subst h;rw[if_pos rfl,if_pos rfl,Rat.mul_one]
  . rw[if_neg h,if_neg h,Rat.mul_zero]
 rw[q05 k this,q1q _ _ hj]
theorem Span.zero {B:Mat} {k n:Nat} {v:Nat->Rat} (h:∀ s,s<n->v s=0):Span B k n v:=
 ⟨fun _=>0,fun s hs=>by rw[h s hs];exact sum_zero' k fun i _=>Rat.mul_zero _⟩
theorem Span.add {B:Mat} {k n:Nat} {u v:Nat->Rat} (hu:Span B k n u) (hv:Span B k n v) (a:Rat):Span B k n fun s=>u s+v s*a:=by
 obtain⟨c,hc⟩:=hu
 obtain⟨d,hd⟩:=hv
 refine⟨fun i=>c i+d i*a,fun s hs=>?_⟩
 show _=u s+v s*a
 rw[<-hc s hs,<-hd s hs]
 unfold dtQ
 rw[<-q0o,<-q14]
 exact q05 k fun i _=>by grind
theorem Span.congr {B:Mat} {k n:Nat} {u v:Nat->Rat} (h:Span B k n u) (e:∀ s,s<n->v s=u s):Span B k n v:=by
 obtain⟨c,hc⟩:=h
 exact⟨c,fun s hs=>by rw[e s hs];exact hc s hs⟩
theorem Span.lc {B Y:Mat} {k n:Nat} {c:Nat->Rat}:∀ l,(∀ j,j<l->Span B k n (Y j))->Span B k n (lc Y c l)
 | 0,_=>Span.zero fun s _=>rfl
 | l+1,h=>(Span.add (Span.lc l fun j hj=>h j (by omega)) (h l (by omega)) (c l)).congr fun s _=>rfl
theorem Span.more {B C:Mat} {k l n:Nat} {v:Nat->Rat} (h:Span B k n v) (hl:k<=l) (e:∀ j,j<k->∀ s,s<n->C j s=B j s):Span C l n v:=by
 obtain⟨c,hc⟩:=h
 refine Span.congr (Span.lc (B:=C) (Y:=C) (c:=c) k fun j hj=>Span.mem (by omega)) fun s hs=>?_
 rw[<-hc s hs]
 exact q2E k (fun j hj=>(e j hj s hs).symm) fun _ _=>rfl
theorem Span.eq {B:Mat} {k n:Nat} {v:Nat->Rat} (h:Span B k n v) {s t:Nat} (hs:s<n) (ht:t<n) (e:∀ j,j<k->B j s=B j t):v s=v t:=by
 obtain⟨c,hc⟩:=h
 rw[<-hc s hs,<-hc t ht]
 exact q2E k e fun _ _=>rfl
structure AlI (m:DMo) (bs:List (List Int)) (i:Nat):Prop where
 ne:1<=bs.length
 first:bs.getD 0 []=[]
 word:∀ j,j<bs.length->occ m (bs.getD j [])/\(bs.getD j []).length<=j
 ind:∀ j,j<bs.length->¬ Span (fun i=>bb m (bs.getD i [])) j (m.getD []).length (bb m (bs.getD j []))
 done:∀ j,j<i->j<bs.length->∀ k,(∃ s,s<(m.getD []).length/\mkS m s=k)->Span (fun i=>bb m (bs.getD i [])) bs.length (m.getD []).length (bb m (k :: bs.getD j []))
theorem AlI.size {m:DMo} {bs:List (List Int)} {i:Nat} (h:AlI m bs i):bs.length<=(m.getD []).length:=q5G (B:=fun j=>bb m (bs.getD j [])) h.ind
theorem AlI.start {m:DMo} (hm:moOk m):AlI m [[]] 0:=by
 refine⟨Nat.le_refl _,rfl,fun j hj=>?_,fun j hj=>?_,fun j hj=>absurd hj (by omega)⟩
 . have hj:j<1:=hj
   obtain rfl:j=0:=by omega
   exact⟨fun a ha=>(by cases ha),Nat.le_refl _⟩
 . have hj:j<1:=hj
   obtain rfl:j=0:=by omega
   rintro⟨c,hc⟩
   have h1:(0:Rat)=1:=hc 0 hm.1.1
   exact absurd h1 (by decide +kernel)
theorem q0G {α:Type} {l:List α} {x d:α} {i:Nat} (h:i<l.length):(l ++ [x]).getD i d=l.getD i d:=by
 rw[List.getD_eq_getElem?_getD,List.getElem?_append_left h,<-List.getD_eq_getElem?_getD]
theorem q3L {α:Type} {l:List α} {x d:α}:(l ++ [x]).getD l.length d=x:=by
 rw[List.getD_eq_getElem?_getD,List.getElem?_append_right (Nat.le_refl _),Nat.sub_self];rfl
theorem AlI.grow {m:DMo} {bs:List (List Int)} {i:Nat} (h:AlI m bs i) {k:Int} (hi:i<bs.length) (hk:∃ s,s<(m.getD []).length/\mkS m s=k) (hn:¬ Span (fun i=>bb m (bs.getD i [])) bs.length (m.getD []).length (bb m (k :: bs.getD i []))):
 AlI m (bs ++ [k :: bs.getD i []]) i:=by
 have hl:(bs ++ [k :: bs.getD i []]).length=bs.length+1:=by simp
 refine⟨by omega,?_,fun j hj=>?_,fun j hj=>?_,fun j hj hj2 k' hk'=>?_⟩
 . rw[q0G (by omega)];exact h.first
 . rw[hl] at hj
   by_cases g:j=bs.length
   . subst g
     rw[q3L]
     obtain⟨w1,w2⟩:=h.word i hi
     refine⟨fun a ha=>?_,by rw[List.length_cons];omega⟩
     rcases List.mem_cons.1 ha with rfl | ha
     . exact hk
     . exact w1 a ha
   . rw[q0G (by omega)];exact h.word j (by omega)
 . rw[hl] at hj
   by_cases g:j=bs.length
   . subst g
     rw[q3L]
     rintro⟨c,hc⟩
     refine hn ⟨c,fun s hs=>?_⟩
     rw[<-hc s hs]
     exact q2E _ (fun q hq=>by show bb m (bs.getD q []) s=bb m ((bs ++ [k :: bs.getD i []]).getD q []) s;rw[q0G hq]) fun _ _=>rfl
   . rw[q0G (by omega)]
     rintro⟨c,hc⟩
     refine h.ind j (by omega) ⟨c,fun s hs=>?_⟩
     rw[<-hc s hs]
     exact q2E _ (fun q hq=>by show bb m (bs.getD q []) s=bb m ((bs ++ [k :: bs.getD i []]).getD q []) s;rw[q0G (by omega)]) fun _ _=>rfl
 . rw[q0G (by omega)]
   rw[hl]
   exact (h.done j hj (by omega) k' hk').more (by omega) fun q hq s _=>by rw[q0G hq]
theorem AlI.all {m:DMo} {bs:List (List Int)} (h:AlI m bs bs.length):∀ w:List Int,Span (fun i=>bb m (bs.getD i [])) bs.length (m.getD []).length (bb m w)
 | []=>by
  have:=Span.mem (B:=fun i=>bb m (bs.getD i [])) (k:=bs.length) (n:=(m.getD []).length) (j:=0) (by have:=h.ne;omega)
  try dsimp only at this
  rwa [h.first] at this
 | k :: w=>by
  by_cases hk:∃ s,s<(m.getD []).length/\mkS m s=k
  . obtain⟨c,hc⟩:=AlI.all h w
    refine Span.congr (Span.lc (B:=fun i=>bb m (bs.getD i [])) (Y:=fun j=>bb m (k :: bs.getD j [])) (c:=c) bs.length fun j hj=>h.done j hj hj k hk) fun s hs=>?_
    show seenQ m (bkQ (rowQ m) (bb m w) (m.getD []).length) k s=dtQ (fun j=>seenQ m (bkQ (rowQ m) (bb m (bs.getD j [])) (m.getD []).length) k s) c bs.length
    have e:bkQ (rowQ m) (bb m w) (m.getD []).length s=dtQ (fun j=>bkQ (rowQ m) (bb m (bs.getD j [])) (m.getD []).length s) c bs.length:=by
     unfold bkQ dtQ
     rw[q05 (g:=fun t=>sumQ (fun j=>bb m (bs.getD j []) t*rowQ m s t*c j) bs.length) _ fun t ht=>?_]
     . rw[q6j]
       exact q05 _ fun j _=>by rw[<-q0o]
     . try dsimp only
       rw[<-hc t ht]
       unfold dtQ
       rw[<-q0o]
       exact q05 _ fun j _=>by grind
    unfold seenQ
    split
    . exact e
    . exact (sum_zero' _ fun j _=>Rat.zero_mul _).symm
  . exact Span.zero fun s hs=>seen_not hk _ s hs
theorem AlI.alike {m:DMo} (hm:moOk m) {bs:List (List Int)} (h:AlI m bs bs.length) {s t:Nat} (hs:s<(m.getD []).length) (ht:t<(m.getD []).length):
 (∀ w,¬ Dist m (prQ s t) w)↔∀ j,j<bs.length->bb m (bs.getD j []) s=bb m (bs.getD j []) t:=by
 constructor
 . intro g j hj
   by_cases e:bb m (bs.getD j []) s=bb m (bs.getD j []) t
   . exact e
   . exact absurd (q3K.2 ⟨(h.word j hj).1.mks hm,by rw[wQ_bb hm hs,wQ_bb hm ht];exact e⟩) (g _)
 . intro g w hw
   refine (q3K.1 hw).2 ?_
   rw[wQ_bb hm hs,wQ_bb hm ht]
   exact (h.all w).eq hs ht g
def AlkOk (m:DMo) (l:List Int):Prop:=l.length=(m.getD []).length/\∀ s,s<(m.getD []).length->∃ t:Nat,t<=s/\int l s=(t:Int)/\(∀ w,¬ Dist m (prQ t s) w)/\∀ t',t'<t->∃ w,Dist m (prQ t' s) w
theorem AlkOk.uniq {m:DMo} {l k:List Int} (h:AlkOk m l) (g:AlkOk m k):l=k:=by
 refine List.ext_getElem (h.1.trans g.1.symm) fun s h1 h2=>?_
 obtain⟨t,_,e1,a1,b1⟩:=h.2 s (by rw[<-h.1];exact h1)
 obtain⟨u,_,e2,a2,b2⟩:=g.2 s (by rw[<-h.1];exact h1)
 have g1:int l s=l[s]:=by show l.getD s 0=_;rw[List.getD_eq_getElem?_getD,List.getElem?_eq_getElem h1];rfl
 have g2:int k s=k[s]:=by show k.getD s 0=_;rw[List.getD_eq_getElem?_getD,List.getElem?_eq_getElem h2];rfl
 rw[<-g1,<-g2,e1,e2]
 rcases Nat.lt_trichotomy t u with q | q | q
 . obtain⟨w,hw⟩:=b2 t q;exact absurd hw (a1 w)
 . rw[q]
 . obtain⟨w,hw⟩:=b1 u q;exact absurd hw (a2 w)
theorem self_alike (m:DMo) (s:Nat) (w:List Int):¬ Dist m (prQ s s) w:=fun h=>(q3K.1 h).2 rfl
theorem least_alike (m:DMo) (s:Nat):∃ t,t<=s/\(∀ w,¬ Dist m (prQ t s) w)/\∀ t',t'<t->∃ w,Dist m (prQ t' s) w:=by
 obtain⟨t,h1,h2⟩:=q4i (α:=Nat) id (P:=fun t=>∀ w,¬ Dist m (prQ t s) w) ⟨s,self_alike m s⟩
 refine⟨t,h2 s (self_alike m s),h1,fun t' ht=>?_⟩
 by_cases g:∃ w,Dist m (prQ t' s) w
 . exact g
 . have:=h2 t' fun w hw=>g ⟨w,hw⟩
   have:t<=t':=this
   omega
theorem AlkOk.ex (m:DMo):∃ l,AlkOk m l:=by
 refine⟨tab (fun s=>((least_alike m s).choose:Int)) (m.getD []).length,tab_len _ _,fun s hs=>?_⟩
 obtain⟨h1,h2,h3⟩:=(least_alike m s).choose_spec
 exact⟨_,h1,tab_get _ _ _ _ hs,h2,h3⟩
end Go.Proofs.Pf.B
namespace Go.Proofs.Pf.B
open Go Go.VM
theorem RLL.row {p:Option (List (Option (List DR)))} {f:Mat} {k n i:Nat} (h:RLL p f k n) (hi:i<k):RL (eltS none p (i:Int)) (f i) n:=by
 have:=h.at hi
 simp only[eltN,toN,Int.toNat_natCast] at this
 simp only[eltS,Int.toNat_natCast]
 exact this
theorem qhA {a:Option (List DR)} {v:Nat->Rat} {n b c:Nat} (ha:RL a v n) (hb:b<n) (hc:c<n) (hv:∀ s,s<n->QB 1000 (v s)):
 callV Pg q0w [⟨(.sl tER),a⟩,⟨(.fref tI),(b:Int)⟩,⟨(.fref tI),(c:Int)⟩] .bool fun r=>r=true↔v b≠v c:=by
 refine qjJ a b c ⟨decide (v b≠v c),decide_eq_true_iff⟩ ⟨in_s (by rw[ha.1];exact hb),in_s (by rw[ha.1];exact hc),?_⟩
 rw[q0b,q0b]
 refine (s_RCmp (ha.2 b hb) (ha.2 c hc) (hv b hb).fit (hv c hc).fit (by decide)).mono ?_
 rintro _ rfl
 by_cases e:v b=v c
 . have h0:=sub_self_sgn e
   rw[decide_eq_true h0]
   exact⟨fun h=>(by cases h),fun h=>absurd e h⟩
 . have h0:¬ sgn (v b - v c).num=0:=fun h=>e (by
    have h:=Rat.num_eq_zero.1 (sgn_z h)
    grind)
   rw[decide_eq_false h0]
   exact⟨fun _=>e,fun _=>rfl⟩
theorem s_IndexF {a:Option (List (Option (List DR)))} {B:Mat} {k n b c:Nat} (ha:RLL a B k n) (hk:k<=1000000) (hb:b<n) (hc:c<n) (hv:∀ j,j<k->∀ s,s<n->QB 1000 (B j s)):
 callV Pg q3x [⟨(.sl (.sl tER)),a⟩,⟨(.clo q0w (.pair (.fref tI) (.pair (.fref tI) .unit))),((b:Int),((c:Int),()))⟩] tI fun r=>0<=r↔∃ j,j<k/\B j b≠B j c:=by
 have hex:∃ r:Int,0<=r↔∃ j,j<k/\B j b≠B j c:=by
  by_cases h:∃ j,j<k/\B j b≠B j c
  . exact⟨0,fun _=>h,fun _=>by decide⟩
  . exact⟨-1,fun g=>absurd g (by decide),fun g=>absurd g h⟩
 refine qjC a _ hex ?_
 rw[show szSl a=(k:Int) by show ((a.getD []).length:Int)=k;rw[ha.1]]
 refine rangeB (n:=k) (fun i (_:Unit)=>(a,(((b:Int),((c:Int),())),((k:Int),(i:Int))))) (fun i _=>∀ j,j<i->B j b=B j c) () rfl (fun j hj=>absurd hj (by omega)) (fun p=>p.2.2.2.toNat) (fun _ _=>rfl) (fun _ _ _=>rfl) ?_ ?_
 . intro k0 i _ hi hx hk0
   dsimp only
   refine⟨in_s (by rw[ha.1];exact hi),(qhA (ha.row hi) hb hc (hv i hi)).mono fun r hr=>br_c (fun h=>?_) fun h=>?_⟩
   . exact⟨fun _=>⟨i,hi,hr.1 h⟩,fun _=>Int.natCast_nonneg i⟩
   . rw[wi1 hi (by omega)]
     refine hk0 () fun j hj=>?_
     by_cases e:j=i
     . subst e
       by_cases g:B j b=B j c
       . exact g
       . rw[hr.2 g] at h;cases h
     . exact hx j (by omega)
 . intro _ _ hx
   exact⟨fun h=>absurd h (by decide),fun ⟨j,hj,e⟩=>absurd (hx j hj) e⟩
theorem qhB {a:Option (List (Option (List DR)))} {B:Mat} {k n b c:Nat} (ha:RLL a B k n) (hk:k<=1000000) (hb:b<n) (hc:c<n) (hv:∀ j,j<k->∀ s,s<n->QB 1000 (B j s)):
 callV Pg q3v [⟨(.sl (.sl tER)),a⟩,⟨(.clo q0w (.pair (.fref tI) (.pair (.fref tI) .unit))),((b:Int),((c:Int),()))⟩] .bool fun r=>r=true↔∃ j,j<k/\B j b≠B j c:=by
 have hex:∃ r:Bool,r=true↔∃ j,j<k/\B j b≠B j c:=by
  by_cases h:∃ j,j<k/\B j b≠B j c
  . exact⟨true,fun _=>h,fun _=>rfl⟩
  . exact⟨false,fun g=>(by cases g),fun g=>absurd g h⟩
 refine qjz a _ hex ((s_IndexF ha hk hb hc hv).mono fun r hr=>?_)
 rw[decide_eq_true_eq];exact hr
theorem s_Alike_1 {a:Option (List (Option (List DR)))} {B:Mat} {k n b c:Nat} (ha:RLL a B k n) (hk:k<=1000000) (hb:b<n) (hc:c<n) (hv:∀ j,j<k->∀ s,s<n->QB 1000 (B j s)):
 callV Pg q0R [⟨tI,(b:Int)⟩,⟨(.fref (.sl (.sl tER))),a⟩,⟨(.fref tI),(c:Int)⟩] .bool fun r=>r=true↔∀ j,j<k->B j c=B j b:=by
 have hex:∃ r:Bool,r=true↔∀ j,j<k->B j c=B j b:=by
  by_cases h:∀ j,j<k->B j c=B j b
  . exact⟨true,fun _=>h,fun _=>rfl⟩
  . exact⟨false,fun g=>(by cases g),fun g=>absurd g h⟩
 refine qjI b a c hex ((qhB ha hk hc hb hv).mono fun r hr=>?_)
 constructor
 . intro h j hj
   have h:r=false:=by cases r;rfl;cases h
   by_cases g:B j c=B j b
   . exact g
   . rw[hr.2 ⟨j,hj,g⟩] at h;cases h
 . intro h
   cases hq:r with
   | false=>rfl
   | true=>
    obtain⟨j,hj,e⟩:=hr.1 hq
    exact absurd (h j hj) e
def MkOk (f:Nat->Prop) (i:Nat) (l:DL):Prop:=(l.getD []).length<=i/\(((l.getD []).length=0/\∀ t,t<i->¬ f t)∨∃ t:Nat,t<i/\f t/\(∀ u,u<t->¬ f u)/\0<(l.getD []).length/\int (l.getD []) 0=(t:Int))
theorem MkOk.ex (f:Nat->Prop) (i:Nat):∃ l,MkOk f i l:=by
 by_cases h:∃ t,t<i/\f t
 . obtain⟨t,⟨h1,h2⟩,h3⟩:=q4i (α:=Nat) id (P:=fun t=>t<i/\f t) h
   refine⟨some [(t:Int)],by show 1<=i;omega,.inr ⟨t,h1,h2,fun u hu hf=>?_,Nat.one_pos,rfl⟩⟩
   have:t<=u:=h3 u ⟨by omega,hf⟩
   omega
 . exact⟨none,Nat.zero_le _,.inl ⟨rfl,fun t ht hf=>h ⟨t,ht,hf⟩⟩⟩
theorem s_Marked {a:Option (List (Option (List DR)))} {B:Mat} {k n c d:Nat} (ha:RLL a B k n) (hk:k<=1000000) (hc:c<n) (hd:d<=n) (hn:n<=1000000) (hv:∀ j,j<k->∀ s,s<n->QB 1000 (B j s)):
 callV Pg q2Y [⟨tI,(d:Int)⟩,⟨(.clo q0R (.pair (.fref (.sl (.sl tER))) (.pair (.fref tI) .unit))),(a,((c:Int),()))⟩] tL fun r=>MkOk (fun t=>∀ j,j<k->B j c=B j t) d r:=by
 refine qil d _ (MkOk.ex _ _) ?_
 refine rangeB (n:=d) (fun i l=>((a,((c:Int),())),((d:Int),((i:Int),l)))) (fun i l=>MkOk (fun t=>∀ j,j<k->B j c=B j t) i l) none rfl ⟨Nat.le_refl _,.inl ⟨rfl,fun t ht=>absurd ht (by omega)⟩⟩ (fun p=>p.2.2.1.toNat) (fun _ _=>rfl) (fun _ _ _=>rfl) ?_ ?_
 . intro k0 i l hi hl hk0
   dsimp only
   refine (s_Alike_1 ha hk (by omega) hc hv).mono fun r hr=>joinE (br_c (fun h=>?_) fun h=>?_)
   . have hf:=hr.1 h
     have e:(appL l (lst (some [(i:Int)]))).getD []=l.getD [] ++ [(i:Int)]:=by cases l<;>rfl
     refine⟨?_,?_⟩
     . show ((l.getD []).length+1)*8<=140737488355328
       have:=hl.1;omega
     . dsimp only
       rw[wi1 hi (by omega)]
       refine hk0 _ ⟨by rw[e,List.length_append];have:=hl.1;show (l.getD []).length+1<=_;omega,.inr ?_⟩
       rcases hl.2 with ⟨h1,h2⟩ | ⟨t,h1,h2,h3,h4,h5⟩
       . refine⟨i,by omega,hf,h2,by rw[e,List.length_append];show 0<_+1;omega,?_⟩
         rw[e,List.eq_nil_of_length_eq_zero h1];rfl
       . refine⟨t,by omega,h2,h3,by rw[e,List.length_append];omega,?_⟩
         rw[e,<-h5]
         show List.getD _ _ _=List.getD _ _ _
         rw[List.getD_eq_getElem?_getD,List.getElem?_append_left h4,<-List.getD_eq_getElem?_getD]
   . dsimp only
     rw[wi1 hi (by omega)]
     have hf:¬ ∀ j,j<k->B j c=B j i:=fun g=>by rw[hr.2 g] at h;cases h
     refine hk0 _ ⟨by have:=hl.1;omega,?_⟩
     rcases hl.2 with ⟨h1,h2⟩ | ⟨t,h1,h2,h3,h4,h5⟩
     . refine .inl ⟨h1,fun t ht=>?_⟩
       by_cases g:t=i
       . subst g;exact hf
       . exact h2 t (by omega)
     . exact .inr ⟨t,by omega,h2,h3,h4,h5⟩
 . intro _ l hl
   exact hl
def alikeOk (m:DMo) (r:DL×(Int×Unit)):Prop:=if onlyQ m=0 then AlkOk m (r.1.getD [])/\r.2=(0,()) else r=(none,(onlyQ m,()))
theorem alikeOk.ex (m:DMo):∃ r,alikeOk m r:=by
 unfold alikeOk
 split
 . obtain⟨l,hl⟩:=AlkOk.ex m
   exact⟨(some l,(0,())),hl,rfl⟩
 . exact⟨_,rfl⟩
theorem FB.prodB {n a b:Nat} {x:Nat->Rat} {P:Mat} (h:FB n a x) (g:MB n b P) {s t:Nat} (hs:s<n) (ht:t<n):Pf.RFit (2*(a+b)+1) (x t*P s t)/\RFit (2*(a+b)+1) (x t*P s t):=by
 have g':MB n b fun i j=>P j i:=by
  obtain⟨D,h1,h2,h3⟩:=g
  exact⟨D,h1,h2,fun i j hi hj=>h3 j i hj hi⟩
 exact h.prod g' ht hs
set_option maxHeartbeats 4000000 in
theorem s_Alike (m:DMo) (hn9:moOk m->(m.getD []).length<=9):callV Pg q3B [⟨tMo,m⟩] (.tup (.pair tL (.pair tI .unit))) (alikeOk m):=by
 refine qjH m (alikeOk.ex m) ((q67 m).mono ?_)
 rintro _ rfl
 by_cases hm:moOk m
 case neg=>
  rw[decide_eq_false hm]
  have e:onlyQ m=1:=if_neg hm
  refine br_t rfl ?_
  unfold alikeOk
  rw[e,if_neg (by decide)]
 rw[decide_eq_true hm]
 refine br_f rfl ((q66 hm).mono ?_)
 rintro _ rfl
 by_cases hc:single m
 case neg=>
  rw[decide_eq_false hc]
  have e:onlyQ m=7:=by rw[onlyQ,if_pos hm,if_neg hc]
  refine br_t rfl ?_
  unfold alikeOk
  rw[e,if_neg (by decide)]
 rw[decide_eq_true hc]
 have e0:onlyQ m=0:=by rw[onlyQ,if_pos hm,if_pos hc]
 have ap:∀ r,alikeOk m r↔AlkOk m (r.1.getD [])/\r.2=(0,()):=fun r=>by
  unfold alikeOk;rw[e0,if_pos rfl]
 have hn:=hn9 hm
 refine br_f rfl ((s_Rows hm).mono fun rows hp=>?_)
 have esz:szSl m=((m.getD []).length:Int):=rfl
 rw[esz]
 have hmb:MB (m.getD []).length ((m.getD []).length*(m.getD []).length+1) (rowQ m):=hm.mb
 have hnn:(m.getD []).length*(m.getD []).length<=9*9:=Nat.mul_le_mul hn hn
 have hfb:∀ w:List Int,w.length<=10->FB (m.getD []).length 900 (bb m w):=fun w hw=>by
  refine (bb_fb hm w).mono ?_
  have:w.length*((m.getD []).length*(m.getD []).length+1+1)<=10*83:=Nat.mul_le_mul hw (by omega)
  omega
 have hz:RL (some (repS ((m.getD []).length:Int) r0)) (fun _=>0) (m.getD []).length:=RL.zero _
 have elz:szSl (some (repS ((m.getD []).length:Int) r0))=((m.getD []).length:Int):=by show (((some (repS ((m.getD []).length:Int) r0)).getD []).length:Int)=_;rw[hz.1]
 refine⟨⟨by omega,by omega,by omega⟩,?_⟩
 refine rangeB (n:=(m.getD []).length) (fun i x=>(rows,(((m.getD []).length:Int),((i:Int),(m,x))))) (fun i x=>RL x (fun s=>if s<i then 1 else 0) (m.getD []).length) (some (repS ((m.getD []).length:Int) r0)) ?_ (hz.congr fun j _=>if_neg (by omega)) (fun p=>p.2.2.1.toNat) (fun _ _=>rfl) (fun _ _ _=>rfl) ?_ ?_
 . show (rows,((szSl (some (repS ((m.getD []).length:Int) r0))),((0:Int),(m,some (repS ((m.getD []).length:Int) r0)))))=_
   rw[elz];rfl
 . intro k3 i x hi hx hk3
   dsimp only
   refine s_One.mono fun p5 hp5=>⟨in_s (by rw[hx.1];exact hi),?_⟩
   rw[wi1 hi (by omega),show toN (i:Int)=i from Int.toNat_natCast i]
   refine hk3 _ (hx.set hi ?_ fun j _ hj=>?_)
   . show RV p5 (if i<i+1 then 1 else 0)
     rw[if_pos (by omega)];exact hp5
   . show (if j<i+1 then (1:Rat) else 0)=if j<i then 1 else 0
     by_cases g:j<i
     . rw[if_pos g,if_pos (by omega)]
     . rw[if_neg g,if_neg (by omega)]
 intro _ x hx
 dsimp only
 have hx:RL x (fun _=>1) (m.getD []).length:=hx.congr fun j hj=>(if_pos hj).symm
 refine loopE (fun p=>∃ (i:Nat) (bas:Option (List (Option (List DR)))) (bs:List (List Int)),p=(rows,((i:Int),(m,((),bas))))/\RLL bas (fun j=>bb m (bs.getD j [])) bs.length (m.getD []).length/\AlI m bs i/\i<=bs.length) (fun p=>(m.getD []).length - p.2.1.toNat) ⟨0,some [x],[[]],rfl,⟨rfl,fun j hj=>?_⟩,AlI.start hm,Nat.zero_le _⟩ ?_
 . have hj:j<1:=hj
   obtain rfl:j=0:=by omega
   exact hx
 rintro _ ⟨i,bas,bs,rfl,hb,hA,hib⟩
 dsimp only
 have hsz:=hA.size
 have esb:szSl bas=(bs.length:Int):=by show ((bas.getD []).length:Int)=_;rw[hb.1]
 have hqb:∀ {cs:List (List Int)} {q:Nat},AlI m cs q->∀ j,j<cs.length->∀ s,s<(m.getD []).length->QB 1000 (bb m (cs.getD j []) s):=fun hA j hj s hs=>by
  refine ((hfb _ ?_).qb hs).mono (by decide)
  have:=(hA.word j hj).2
  have:=hA.size
  omega
 rw[esb]
 refine br_c (fun h=>?_) fun h=>?_
 . have h:(i:Int)<(bs.length:Int):=dec_t h
   have hi:i<bs.length:=by omega
   refine⟨in_s (by rw[hb.1];exact hi),?_⟩
   have hwl:(bs.getD i []).length<=10:=by have:=(hA.word i hi).2;omega
   have hfw:=hfb _ hwl
   refine joinR (fun p=>∃ v,p=(rows,((i:Int),(v,(m,((),bas)))))/\RL v (bkQ (rowQ m) (bb m (bs.getD i [])) (m.getD []).length) (m.getD []).length) ?_ ?_
   . rintro _ ⟨v,rfl,hv⟩
     dsimp only
     refine (q9R hm (by omega)).mono fun ls hls=>?_
     have hls64:=LetOk.len hm hls
     have eL:szSl ls=((ls.getD []).length:Int):=rfl
     rw[eL]
     refine rangeB (n:=(ls.getD []).length) (fun j bas=>(rows,((i:Int),(v,(ls,(((ls.getD []).length:Int),((j:Int),(m,((),bas))))))))) (fun j bas=>∃ cs,RLL bas (fun j=>bb m (cs.getD j [])) cs.length (m.getD []).length/\AlI m cs i/\i<cs.length/\cs.getD i []=bs.getD i []/\∀ q,q<j->Span (fun j=>bb m (cs.getD j [])) cs.length (m.getD []).length (bb m (int (ls.getD []) q :: bs.getD i []))) bas rfl ⟨bs,hb,hA,hi,rfl,fun q hq=>absurd hq (by omega)⟩ (fun p=>p.2.2.2.2.2.1.toNat) (fun _ _=>rfl) (fun _ _ _=>rfl) ?_ ?_
     . rintro k9 j bas2 hj ⟨cs,hb2,hA2,hi2,e2,hS⟩ hk9
       dsimp only
       refine⟨in_s hj,?_⟩
       rw[q4N]
       generalize hk:int (ls.getD []) j=k
       refine (s_seen hv (by omega)).mono fun u hu=>?_
       have hu:RL u (bb m (k :: bs.getD i [])) (m.getD []).length:=hu
       have hl2:=hA2.size
       have hw2:FB (m.getD []).length 900 (bb m (k :: bs.getD i [])):=hfb _ (by rw[List.length_cons];have:=(hA.word i hi).2;omega)
       refine (q9Q (e:=1000) hb2 hu (by omega) (by omega) (hqb hA2) (fun s hs=>(hw2.qb hs).mono (by decide)) (growE_le (by omega))).mono fun r hr=>joinE (br_c (fun h=>?_) fun h=>?_)
       . have hns:=hr.1 h
         have hmem:∃ s,s<(m.getD []).length/\mkS m s=k:=(hls.2 _).1 ⟨j,hj,hk⟩
         have hgrow:=hA2.grow hi2 hmem (by rw[e2];exact hns)
         rw[e2] at hgrow
         have hcl:(cs ++ [k :: bs.getD i []]).length=cs.length+1:=by simp
         refine⟨?_,?_⟩
         . show ((bas2.getD []).length+1)*24<=140737488355328
           rw[hb2.1];omega
         . dsimp only
           rw[wi1 hj (by omega)]
           refine hk9 _ ⟨cs ++ [k :: bs.getD i []],?_,hgrow,by omega,by rw[q0G hi2];exact e2,fun q hq=>?_⟩
           . rw[hcl]
             refine RLL.app (f:=fun j=>bb m ((cs ++ [k :: bs.getD i []]).getD j [])) (hb2.congr fun q hq s _=>?_) ?_
             . show bb m ((cs ++ [k :: bs.getD i []]).getD q []) s=bb m (cs.getD q []) s
               rw[q0G hq]
             . show RL u (bb m ((cs ++ [k :: bs.getD i []]).getD cs.length [])) _
               rw[q3L];exact hu
           . rw[hcl]
             by_cases g:q=j
             . subst g
               rw[hk]
               have h0:Span (fun j=>bb m ((cs ++ [k :: bs.getD i []]).getD j [])) (cs.length+1) (m.getD []).length (bb m ((cs ++ [k :: bs.getD i []]).getD cs.length [])):=Span.mem (B:=fun j=>bb m ((cs ++ [k :: bs.getD i []]).getD j [])) (by omega)
               rwa [q3L] at h0
             . refine (hS q (by omega)).more (by omega) fun a ha s _=>?_
               show bb m ((cs ++ [k :: bs.getD i []]).getD a []) s=bb m (cs.getD a []) s
               rw[q0G ha]
       . dsimp only
         rw[wi1 hj (by omega)]
         refine hk9 _ ⟨cs,hb2,hA2,hi2,e2,fun q hq=>?_⟩
         by_cases g:q=j
         . subst g
           rw[hk]
           by_cases g:Span (fun j=>bb m (cs.getD j [])) cs.length (m.getD []).length (bb m (k :: bs.getD i []))
           . exact g
           . rw[hr.2 g] at h;cases h
         . exact hS q (by omega)
     . rintro _ bas2 ⟨cs,hb2,hA2,hi2,e2,hS⟩
       dsimp only
       have hl2:=hA2.size
       rw[wi1 hi2 (by omega)]
       refine⟨⟨i+1,bas2,cs,rfl,hb2,⟨hA2.ne,hA2.first,hA2.word,hA2.ind,fun j hj hj2 k hk=>?_⟩,by omega⟩,?_⟩
       . by_cases g:j=i
         . subst g
           obtain⟨q,hq,rfl⟩:=(hls.2 k).2 hk
           rw[e2];exact hS q hq
         . exact hA2.done j (by omega) hj2 k hk
       . show (m.getD []).length - ((i+1:Nat):Int).toNat<(m.getD []).length - (i:Int).toNat
         omega
   . intro k7 hk7
     try dsimp only
     refine br_c (fun g=>?_) fun g=>?_
     . have g:(0:Int)<(i:Int):=dec_t g
       refine (s_movedB (k:=2*(900+((m.getD []).length*(m.getD []).length+1)+1)+1) hp (hb.at hi) (by omega) (fun a b ha hb=>(hmb.fit ha hb).1.mono (by omega)) (fun a ha=>(hfw.fit ha).1.mono (by omega)) (fun a b ha hb=>(hfw.prodB hmb ha hb).1.mono (by omega)) (fun a b ha hb=>((hfw.bstep hmb (Nat.le_trans hn (by decide)) ha).fit hb).1.mono (by omega)) (by omega)).mono fun v hv=>hk7 _ ⟨v,rfl,hv⟩
     . have g:¬ (0:Int)<(i:Int):=dec_f g
       obtain rfl:i=0:=by omega
       refine hk7 _ ⟨_,rfl,(hb.at hi).congr fun s hs=>?_⟩
       rw[hA.first]
       exact bk_one hm hs
 . have h:¬ (i:Int)<(bs.length:Int):=dec_f h
   obtain rfl:i=bs.length:=by omega
   rw[esz]
   refine rangeB (n:=(m.getD []).length) (fun s l=>(bas,(((m.getD []).length:Int),((s:Int),l)))) (fun s l=>(l.getD []).length=s/\∀ q,q<s->∃ t:Nat,t<=q/\int (l.getD []) q=(t:Int)/\(∀ w,¬ Dist m (prQ t q) w)/\∀ t',t'<t->∃ w,Dist m (prQ t' q) w) none rfl ⟨rfl,fun q hq=>absurd hq (by omega)⟩ (fun p=>p.2.2.1.toNat) (fun _ _=>rfl) (fun _ _ _=>rfl) ?_ ?_
   . rintro k7 s l hs ⟨hl1,hl2⟩ hk7
     dsimp only
     rw[wi1 hs (by omega)]
     refine (s_Marked (d:=s+1) hb (by omega) hs (by omega) (by omega) (hqb hA)).mono fun r hr=>?_
     have key:∀ t,t<(m.getD []).length->((∀ w,¬ Dist m (prQ t s) w)↔∀ j,j<bs.length->bb m (bs.getD j []) s=bb m (bs.getD j []) t):=fun t ht=>(hA.alike hm ht hs).trans ⟨fun g j hj=>(g j hj).symm,fun g j hj=>(g j hj).symm⟩
     rcases hr.2 with ⟨h1,h2⟩ | ⟨t,h1,h2,h3,h4,h5⟩
     . exact absurd (fun j _=>rfl) (h2 s (by omega))
     . have e6:eltS (0:Int) r (0:Int)=(t:Int):=h5
       rw[e6]
       have e:(appL l (lst (some [(t:Int)]))).getD []=l.getD [] ++ [(t:Int)]:=by cases l<;>rfl
       refine⟨in_s (i:=0) h4,?_,?_⟩
       . show ((l.getD []).length+1)*8<=140737488355328
         omega
       . refine hk7 _ ⟨by rw[e,List.length_append,hl1];rfl,fun q hq=>?_⟩
         rw[e]
         by_cases g:q=s
         . subst g
           refine⟨t,by omega,?_,(key t (by omega)).2 h2,fun t' ht'=>?_⟩
           . show List.getD _ _ _=_
             rw[<-hl1,q3L]
           . by_cases g:∃ w,Dist m (prQ t' q) w
             . exact g
             . exact absurd ((key t' (by omega)).1 fun w hw=>g ⟨w,hw⟩) (h3 t' ht')
         . obtain⟨u,u1,u2,u3⟩:=hl2 q (by omega)
           refine⟨u,u1,?_,u3⟩
           rw[<-u2]
           show List.getD _ _ _=List.getD _ _ _
           rw[q0G (by omega)]
   . rintro _ l ⟨hl1,hl2⟩
     dsimp only
     rw[ap]
     exact⟨⟨hl1,hl2⟩,rfl⟩
end Go.Proofs.Pf.B
namespace Go.Proofs.Pf.B
open Go Go.VM
theorem s_marks20 (m:DMo) (h64:(m.getD []).length<=1000):callV Pg q2Z [⟨tMo,m⟩] tI fun _=>True:=by
 refine qiq m ⟨0,trivial⟩ ?_
 refine loopE (fun p=>∃ (i:Nat) (c:Int) (l:List Bool),p=(c,(m,(((m.getD []).length:Int),((i:Int),l))))/\i<=(m.getD []).length) (fun p=>(m.getD []).length - p.2.2.2.1.toNat) ⟨0,_,_,rfl,Nat.zero_le _⟩ ?_
 rintro _ ⟨i,c,l,rfl,hi⟩
 dsimp only
 refine br_c (fun h=>?_) fun _=>trivial
 have h:(i:Int)<((m.getD []).length:Int):=dec_t h
 refine⟨in_s (by omega),?_⟩
 generalize eltS ((0:Int),((0:Int),none)) m (i:Int)=st
 refine joinR (fun p=>∃ (b:Bool),p=(c,(m,(((m.getD []).length:Int),((i:Int),(b,(l,(st.1,st.2)))))))/\(b=true->0<=st.2.1/\st.2.1<64)) ?_ ?_
 . rintro _ ⟨b,rfl,hb⟩
   dsimp only
   refine joinR (fun p=>∃ (c:Int) (l:List Bool),p=(c,(m,(((m.getD []).length:Int),((i:Int),l))))) ?_ ?_
   . rintro _ ⟨c,l,rfl⟩
     dsimp only
     rw[wi64 (by omega) (by omega)]
     refine⟨⟨i+1,c,l,rfl,by omega⟩,?_⟩
     show (m.getD []).length - ((i:Int)+1).toNat<(m.getD []).length - (i:Int).toNat
     omega
   . intro k hk
     refine br_c (fun g=>⟨hb g,hk _ ⟨_,_,rfl⟩⟩) fun _=>hk _ ⟨_,_,rfl⟩
 . intro k hk
   refine br_c (fun g=>br_c (fun g2=>?_) fun _=>hk _ ⟨_,rfl,fun e=>by cases e⟩) fun _=>hk _ ⟨_,rfl,fun e=>by cases e⟩
   have g:0<=st.2.1:=dec_t g
   have g2:st.2.1<64:=dec_t g2
   exact⟨⟨g,g2⟩,hk _ ⟨_,rfl,fun _=>⟨g,g2⟩⟩⟩
theorem r_Few3 (n:Int) (m:DMo):callV Pg q3k [⟨tI,n⟩,⟨tMo,m⟩] .bool fun r=>r=true->fewOk m/\(((m.getD []).length:Int)<=n∨40<(m.getD []).length):=by
 refine qjg n m ⟨false,fun h=>by cases h⟩ (joinR (fun p=>∃ b:Bool,p=(b,m)/\(b=false->(m.getD []).length<=45/\(((m.getD []).length:Int)<=n∨40<(m.getD []).length))) ?_ ?_)
 . rintro _ ⟨b,rfl,hb⟩
   dsimp only
   refine q00.2 ⟨fun _ h=>(by cases h),fun h=>?_⟩
   have hb:=hb h
   refine loopE (fun p=>∃ i:Nat,p=(m,(((m.getD []).length:Int),(i:Int)))/\i<=(m.getD []).length/\∀ j,j<i->fewSt (stt (m.getD []) j)) (fun p=>(m.getD []).length - p.2.2.toNat) ⟨0,rfl,by omega,fun j h=>by omega⟩ ?_
   rintro _ ⟨i,rfl,hi,hall⟩
   dsimp only
   refine q00.2 ⟨fun hc=>?_,fun hc _=>?_⟩
   . have hc:(i:Int)<((m.getD []).length:Int):=dec_t hc
     rw[q11]
     refine⟨⟨by omega,by omega⟩,q00.2 ⟨fun _ h=>(by cases h),fun h10=>?_⟩⟩
     have h10:¬ (10:Int)<(((stt (m.getD []) i).2.2.getD []).length:Int):=dec_f h10
     refine loopE (fun p=>∃ j:Nat,p=(m,(((m.getD []).length:Int),((i:Int),((stt (m.getD []) i).2.2,((((stt (m.getD []) i).2.2.getD []).length:Int),(j:Int))))))/\j<=((stt (m.getD []) i).2.2.getD []).length/\∀ k,k<j->((ch ((stt (m.getD []) i).2.2.getD []) k).2.getD []).length<=10)
      (fun p=>((stt (m.getD []) i).2.2.getD []).length - p.2.2.2.2.2.toNat) ⟨0,rfl,by omega,fun j h=>by omega⟩ ?_
     rintro _ ⟨j,rfl,hj,hall2⟩
     dsimp only
     refine q00.2 ⟨fun hd=>?_,fun hd=>?_⟩
     . have hd:(j:Int)<(((stt (m.getD []) i).2.2.getD []).length:Int):=dec_t hd
       rw[q5y]
       refine⟨⟨by omega,by omega⟩,q00.2 ⟨fun _ h=>(by cases h),fun he=>?_⟩⟩
       have he:¬ (10:Int)<(((ch ((stt (m.getD []) i).2.2.getD []) j).2.getD []).length:Int):=dec_f he
       rw[wi64 (by omega) (by omega)]
       refine⟨⟨j+1,rfl,by omega,fun k hk=>?_⟩,by omega⟩
       rcases Nat.lt_or_ge k j with q | q
       . exact hall2 k q
       . obtain rfl:k=j:=by omega
         omega
     . have hd:¬ (j:Int)<(((stt (m.getD []) i).2.2.getD []).length:Int):=dec_f hd
       obtain rfl:j=((stt (m.getD []) i).2.2.getD []).length:=by omega
       rw[wi64 (by omega) (by omega)]
       refine⟨⟨i+1,rfl,by omega,fun k hk=>?_⟩,by omega⟩
       rcases Nat.lt_or_ge k i with q | q
       . exact hall k q
       . obtain rfl:k=i:=by omega
         exact⟨by omega,hall2⟩
   . have hc:¬ (i:Int)<((m.getD []).length:Int):=dec_f hc
     obtain rfl:i=(m.getD []).length:=by omega
     exact⟨⟨hb.1,hall⟩,hb.2⟩
 . intro k hk
   refine br_c (fun h1=>br_c (fun _=>hk _ ⟨true,rfl,fun h=>by cases h⟩) fun h2=>?_) fun h1=>?_
   . have h2:¬ ((m.getD []).length:Int)<=40:=dec_f h2
     exact hk _ ⟨_,rfl,fun h=>by have h:¬ (45:Int)<((m.getD []).length:Int):=dec_f h;omega⟩
   . have h1:¬ n<((m.getD []).length:Int):=dec_f h1
     exact hk _ ⟨_,rfl,fun h=>by have h:¬ (45:Int)<((m.getD []).length:Int):=dec_f h;omega⟩
theorem r_Alike {m:DMo} (hm:moOk m) (hn6:(m.getD []).length<=6):callV Pg q3p [⟨tMo,m⟩] tL fun l=>AlkOk m (l.getD []):=by
 refine qjn m (by obtain⟨l,hl⟩:=AlkOk.ex m;exact⟨some l,hl⟩) ?_
 rw[show szSl m=((m.getD []).length:Int) from rfl]
 refine rangeB (n:=(m.getD []).length) (fun s l=>(((m.getD []).length:Int),((s:Int),(m,l)))) (fun s l=>(l.getD []).length=s/\∀ q,q<s->∃ t:Nat,t<=q/\int (l.getD []) q=(t:Int)/\(∀ w,¬ Dist m (prQ t q) w)/\∀ t',t'<t->∃ w,Dist m (prQ t' q) w) none rfl ⟨rfl,fun q hq=>absurd hq (by omega)⟩ (fun p=>p.2.1.toNat) (fun _ _=>rfl) (fun _ _ _=>rfl) ?_ ?_
 . rintro k0 s l hs ⟨hl1,hl2⟩ hk0
   dsimp only
   refine joinR (fun p=>∃ t:Nat,p=((t:Int),(((m.getD []).length:Int),((s:Int),(m,l))))/\t<=s/\(∀ w,¬ Dist m (prQ t s) w)/\∀ t',t'<t->∃ w,Dist m (prQ t' s) w) ?_ ?_
   . rintro _ ⟨t,rfl,h1,h2,h3⟩
     dsimp only
     have e:(appL l (lst (some [(t:Int)]))).getD []=l.getD [] ++ [(t:Int)]:=by cases l<;>rfl
     refine⟨?_,?_⟩
     . show ((l.getD []).length+1)*8<=140737488355328
       omega
     . rw[wi1 hs (by omega)]
       refine hk0 _ ⟨by rw[e,List.length_append,hl1];rfl,fun q hq=>?_⟩
       rw[e]
       by_cases g:q=s
       . subst g
         refine⟨t,h1,?_,h2,h3⟩
         show List.getD _ _ _=_
         rw[<-hl1,q3L]
       . obtain⟨u,u1,u2,u3⟩:=hl2 q (by omega)
         refine⟨u,u1,?_,u3⟩
         rw[<-u2]
         show List.getD _ _ _=List.getD _ _ _
         rw[q0G (by omega)]
   . intro k2 hk2
     refine rangeB (n:=s) (fun t (_:Unit)=>((s:Int),((s:Int),(((m.getD []).length:Int),((s:Int),((s:Int),((t:Int),(m,l)))))))) (fun t _=>∀ t',t'<t->∃ w,Dist m (prQ t' s) w) () rfl (fun t' ht=>absurd ht (by omega)) (fun p=>p.2.2.2.2.2.1.toNat) (fun _ _=>rfl) (fun _ _ _=>rfl) ?_ ?_
     . intro k3 t _ ht hx hk3
       dsimp only
       refine (r_Apart hm hn6 (by omega) hs).mono ?_
       rintro _ (⟨w,hw,rfl⟩ | ⟨hw,rfl⟩)
       . refine br_f rfl ?_
         try dsimp only
         rw[wi1 ht (by omega)]
         refine hk3 () fun t' ht'=>?_
         by_cases g:t'=t
         . subst g;exact⟨w,hw.1⟩
         . exact hx t' (by omega)
       . exact br_t rfl (hk2 _ ⟨t,rfl,by omega,hw,hx⟩)
     . intro _ _ hx
       exact hk2 _ ⟨s,rfl,Nat.le_refl _,self_alike m s,hx⟩
 . rintro _ l ⟨hl1,hl2⟩
   exact⟨hl1,hl2⟩
theorem apartOk.len {m:DMo} {b c:Int} {r:DL×(Int×Unit)} (h:apartOk m b c r):(r.1.getD []).length<=1000:=by
 unfold apartOk at h
 split at h
 . rename_i h0
   have hm:moOk m:=by
    by_cases g:moOk m
    . exact g
    . rw[onlyQ,if_neg g] at h0;exact absurd h0 (by decide)
   split at h
   . rename_i h1
     rcases h with ⟨w,h2,rfl⟩ | ⟨_,rfl⟩
     . obtain⟨⟨_,_⟩,_,_⟩:=h1
       have:=h2.len (prQ_sum (by omega) (by omega)) hm.1.1
       have:=hm.1.2
       show w.length<=1000
       omega
     . exact Nat.zero_le _
   . rw[h];exact Nat.zero_le _
 . rw[h];exact Nat.zero_le _
theorem alikeOk.len {m:DMo} {r:DL×(Int×Unit)} (h:alikeOk m r):(r.1.getD []).length<=1000:=by
 unfold alikeOk at h
 split at h
 . rename_i h0
   have hm:moOk m:=by
    by_cases g:moOk m
    . exact g
    . rw[onlyQ,if_neg g] at h0;exact absurd h0 (by decide)
   rw[h.1.1]
   have:=hm.1.2
   omega
 . rw[h];exact Nat.zero_le _
theorem only_ok {m:DMo} (h0:onlyQ m=0):moOk m:=by
 by_cases g:moOk m
 . exact g
 . rw[onlyQ,if_neg g] at h0;exact absurd h0 (by decide)
set_option maxHeartbeats 4000000 in
theorem s_WatchApart (m:DMo) (b c:Int):callV Pg q48 [⟨tMo,m⟩,⟨tI,b⟩,⟨tI,c⟩] .bool fun r=>r=true:=by
 refine qio m b c ⟨true,rfl⟩ (joinR (fun p=>∃ o:Bool,p=(b,(c,(o,m)))/\(o=false->moOk m->(m.getD []).length<=5)) ?_ ?_)
 case refine_2=>
  intro k hk
  refine (r_Few3 5 m).mono fun r hr=>br_c (fun _=>hk _ ⟨true,rfl,fun h=>by cases h⟩) fun h=>?_
  have h:r=true:=by cases r;cases h;rfl
  obtain⟨⟨h45,_⟩,h2⟩:=hr h
  exact (s_marks20 m (by omega)).mono fun q _=>hk _ ⟨_,rfl,fun _ hm=>by have:=hm.1.2;omega⟩
 rintro _ ⟨o,rfl,ho⟩
 dsimp only
 refine br_c (fun _=>q9O) fun h=>?_
 have hn5:=ho h
 refine (q9D m _ (by show 2<=1000;decide)).mono ?_
 rintro e he
 refine (q9D m none (by show 0<=1000;decide)).mono ?_
 rintro e2 he2
 have he2:e2=onlyQ m:=by
  rw[he2]
  split
  . rename_i g;rw[if_pos (fun i hi=>absurd hi (by simp)),g]
  . rfl
 clear h ho
 subst he2
 have he:e=if onlyQ m=0 then (if inM m b/\inM m c then 0 else 6) else onlyQ m:=by
  rw[he]
  by_cases g:onlyQ m=0
  . rw[if_pos g,if_pos g]
    by_cases g2:inM m b/\inM m c
    . rw[if_pos g2,if_pos]
      intro i hi
      have hi:i<2:=hi
      match i,hi with
      | 0,_=>exact g2.1
      | 1,_=>exact g2.2
    . rw[if_neg g2,if_neg]
      intro f
      exact g2 ⟨f 0 (by show 0<2;decide),f 1 (by show 1<2;decide)⟩
  . rw[if_neg g,if_neg g]
 refine joinR (fun p=>∃ (x:DL) (e:Int),p=(b,(c,(e,(onlyQ m,(x,m)))))/\∀ r,apartOk m b c r->r.2.1=e/\r.1.getD []=x.getD []) ?_ ?_
 . rintro _ ⟨x,e,rfl,hx⟩
   dsimp only
   refine joinR (fun p=>∃ (l:DL),p=(b,(c,(e,(onlyQ m,(x,(l,m))))))/\∀ r,alikeOk m r->r.2.1=onlyQ m/\r.1.getD []=l.getD []) ?_ ?_
   . rintro _ ⟨l,rfl,hl⟩
     dsimp only
     refine (s_Apart m b c fun hm=>by have:=hn5 hm;omega).mono fun p5 h5=>(s_Alike m fun hm=>by have:=hn5 hm;omega).mono fun p6 h6=>joinR (fun r=>r=true) (fun _ h=>h) fun k7 hk7=>?_
     obtain⟨x1,x2⟩:=hx p5 h5
     obtain⟨l1,l2⟩:=hl p6 h6
     have n5:=h5.len
     have n6:=h6.len
     rw[x1,l1]
     refine br_t (decide_eq_true rfl) ((r_List p5.1 x (by omega)).mono ?_)
     rintro _ rfl
     refine br_t (decide_eq_true x2) (br_t (decide_eq_true rfl) ((r_List p6.1 l (by omega)).mono ?_))
     rintro _ rfl
     exact br_t (decide_eq_true l2) (q9O.mono fun r hr=>hk7 r hr)
   . intro k4 hk4
     refine br_c (fun g=>?_) fun g=>?_
     . have g:onlyQ m=0:=dec_t g
       have hm:=only_ok g
       refine (r_Alike hm (by have:=hn5 hm;omega)).mono fun l hl=>hk4 _ ⟨l,rfl,fun r hr=>?_⟩
       unfold alikeOk at hr
       rw[if_pos g] at hr
       rw[hr.2,g]
       exact⟨rfl,hr.1.uniq hl⟩
     . have g:¬ onlyQ m=0:=dec_f g
       refine hk4 _ ⟨none,rfl,fun r hr=>?_⟩
       unfold alikeOk at hr
       rw[if_neg g] at hr
       rw[hr]
       exact⟨rfl,rfl⟩
 . intro k3 hk3
   refine br_c (fun g=>?_) fun g=>?_
   . have g:e=0:=dec_t g
     have h0:onlyQ m=0:=by
      by_cases q:onlyQ m=0
      . exact q
      . rw[if_neg q] at he;exact he ▸ g
     have hm:=only_ok h0
     have h1:inM m b/\inM m c:=by
      by_cases q:inM m b/\inM m c
      . exact q
      . rw[if_pos h0,if_neg q] at he;rw[he] at g;exact absurd g (by decide)
     have ap:∀ r,apartOk m b c r↔apOk m b.toNat c.toNat r:=fun r=>by unfold apartOk;rw[if_pos h0,if_pos h1]
     obtain⟨⟨hb1,hb2⟩,hc1,hc2⟩:=h1
     obtain⟨s,rfl⟩:∃ s:Nat,b=(s:Int):=⟨b.toNat,by omega⟩
     obtain⟨t,rfl⟩:∃ t:Nat,c=(t:Int):=⟨c.toNat,by omega⟩
     rw[Int.toNat_natCast,Int.toNat_natCast] at ap
     refine (r_Apart (s:=s) (t:=t) hm (by have:=hn5 hm;omega) (by omega) (by omega)).mono ?_
     rintro _ (⟨w,hw,rfl⟩ | ⟨hw,rfl⟩)
     . refine joinE (br_f rfl (hk3 _ ⟨some w,e,rfl,fun r hr=>?_⟩))
       rcases (ap r).1 hr with ⟨u,hu,rfl⟩ | ⟨hu,rfl⟩
       . rw[hu.uniq hw];exact⟨g.symm,rfl⟩
       . exact absurd hw.1 (hu w)
     . refine joinE (br_t rfl (hk3 _ ⟨none,5,rfl,fun r hr=>?_⟩))
       rcases (ap r).1 hr with ⟨u,hu,rfl⟩ | ⟨hu,rfl⟩
       . exact absurd hu.1 (hw u)
       . exact⟨rfl,rfl⟩
   . have g:¬ e=0:=dec_f g
     refine hk3 _ ⟨none,e,rfl,fun r hr=>?_⟩
     unfold apartOk at hr
     by_cases q:onlyQ m=0
     . rw[if_pos q] at hr he
       by_cases q2:inM m b/\inM m c
       . rw[if_pos q2] at he;exact absurd he g
       . rw[if_neg q2] at hr he
         rw[hr];exact⟨he.symm,rfl⟩
     . rw[if_neg q] at hr he
       rw[hr];exact⟨he.symm,rfl⟩
end Go.Proofs.Pf.B
