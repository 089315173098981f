/- Typed pure data, a condition on code that says what a call gives, what the code of each function comes to, and what each function gives. -/
import Derived.Test.YtfifpjkegdkdpaaGreatProg
import Derived.Scope
import Derived.Lib.LaidTab
import Derived.Lib.ItoaNum
import Derived.Laws.CopyRow
import Derived.Laws.AppendOwn
import Derived.Laws.MakeOwn
import Derived.Laws.BytesString
import Derived.Laws.StructEq
import Derived.Laws.Small
import Derived.Tactics
import Derived.Calls
import Derived.Below
import Derived.KernelRfl
import Derived.Laws.Cells
import Derived.Test.YtfifpjkegdkdpaaGreatA9
import Derived.Test.YtfifpjkegdkdpaaGreatA10
import Derived.Test.YtfifpjkegdkdpaaGreatA12
import Derived.Test.YtfifpjkegdkdpaaGreatA13
set_option linter.unusedVariables false
set_option linter.unusedSimpArgs false
set_option linter.unnecessarySimpa false
namespace Go.Proofs.Pf.B
open Go Go.VM
def bkQ (P:Mat) (x:Nat->Rat) (b s:Nat):Rat:=sumQ (fun t=>x t*P s t) b
theorem FB.bstep {n a b c:Nat} {x:Nat->Rat} {P:Mat} (h:FB n a x) (g:MB n b P) (hn:n<=KK) (hc:c<=n):FB n (a+b+1) (bkQ P x c):=by
 obtain⟨D,h1,h2,h3⟩:=h
 obtain⟨E,g1,g2,g3⟩:=g
 refine⟨D*E,Nat.mul_pos h1 g1,Nat.le_trans (kk_mul h2 g2) (kk_le (by omega)),fun s hs=>?_⟩
 refine (QD.sum c fun t ht=>(h3 t (by omega)).mul (g3 s t hs (by omega))).mono ?_
 rw[Nat.pow_succ,Nat.mul_comm,Nat.pow_add]
 exact Nat.mul_le_mul_left _ (by omega)
def bb (m:DMo):List Int->Nat->Rat
 | []=>fun _=>1
 | k :: v=>seenQ m (bkQ (rowQ m) (bb m v) (m.getD []).length) k
theorem Span.mem {B:Mat} {k n j:Nat} (hj:j<k):Span B k n (B j):=by
 refine⟨fun i=>if j=i then 1 else 0,fun s _=>?_⟩
 unfold dtQ
 have:∀ i,i<k->B i s*(if j=i then 1 else 0)=if j=i then B j s else 0:=fun i _=>by
  by_cases h:j=i
  . subst h;rw[if_pos rfl,if_pos rfl,Rat.mul_one]
  . rw[if_neg h,if_neg h,Rat.mul_zero]
 rw[sumQ_congr k this,sumQ_one _ _ hj]
theorem Span.zero {B:Mat} {k n:Nat} {v:Nat->Rat} (h:∀ s,s<n->v s=0):Span B k n v:=
 ⟨fun _=>0,fun s hs=>by rw[h s hs];exact sum_zero' k fun i _=>Rat.mul_zero _⟩
theorem Span.add {B:Mat} {k n:Nat} {u v:Nat->Rat} (hu:Span B k n u) (hv:Span B k n v) (a:Rat):Span B k n fun s=>u s+v s*a:=by
 obtain⟨c,hc⟩:=hu
 obtain⟨d,hd⟩:=hv
 refine⟨fun i=>c i+d i*a,fun s hs=>?_⟩
 show _=u s+v s*a
 rw[<-hc s hs,<-hd s hs]
 unfold dtQ
 rw[<-q0s,<-q1a]
 exact sumQ_congr k fun i _=>by grind
theorem Span.congr {B:Mat} {k n:Nat} {u v:Nat->Rat} (h:Span B k n u) (e:∀ s,s<n->v s=u s):Span B k n v:=by
 obtain⟨c,hc⟩:=h
 exact⟨c,fun s hs=>by rw[e s hs];exact hc s hs⟩
theorem Span.lc {B Y:Mat} {k n:Nat} {c:Nat->Rat}:∀ l,(∀ j,j<l->Span B k n (Y j))->Span B k n (lc Y c l)
 | 0,_=>Span.zero fun s _=>rfl
 | l+1,h=>(Span.add (Span.lc l fun j hj=>h j (by omega)) (h l (by omega)) (c l)).congr fun s _=>rfl
structure AlI (m:DMo) (bs:List (List Int)) (i:Nat):Prop where
 ne:1<=bs.length
 first:bs.getD 0 []=[]
 word:∀ j,j<bs.length->occ m (bs.getD j [])/\(bs.getD j []).length<=j
 ind:∀ j,j<bs.length->¬ Span (fun i=>bb m (bs.getD i [])) j (m.getD []).length (bb m (bs.getD j []))
 done:∀ j,j<i->j<bs.length->∀ k,(∃ s,s<(m.getD []).length/\mkS m s=k)->Span (fun i=>bb m (bs.getD i [])) bs.length (m.getD []).length (bb m (k :: bs.getD j []))
theorem AlI.size {m:DMo} {bs:List (List Int)} {i:Nat} (h:AlI m bs i):bs.length<=(m.getD []).length:=q5D (B:=fun j=>bb m (bs.getD j [])) h.ind
theorem AlI.start {m:DMo} (hm:moOk m):AlI m [[]] 0:=by
 refine⟨Nat.le_refl _,rfl,fun j hj=>?_,fun j hj=>?_,fun j hj=>absurd hj (by omega)⟩
 . have hj:j<1:=hj
   obtain rfl:j=0:=by omega
   exact⟨fun a ha=>(by cases ha),Nat.le_refl _⟩
 . have hj:j<1:=hj
   obtain rfl:j=0:=by omega
   rintro⟨c,hc⟩
   have h1:(0:Rat)=1:=hc 0 hm.1.1
   exact absurd h1 (by decide +kernel)
theorem getD_app {α:Type} {l:List α} {x d:α} {i:Nat} (h:i<l.length):(l ++ [x]).getD i d=l.getD i d:=by
 rw[List.getD_eq_getElem?_getD,List.getElem?_append_left h,<-List.getD_eq_getElem?_getD]
theorem getD_end {α:Type} {l:List α} {x d:α}:(l ++ [x]).getD l.length d=x:=by
 rw[List.getD_eq_getElem?_getD,List.getElem?_append_right (Nat.le_refl _),Nat.sub_self];rfl
theorem AlI.all {m:DMo} {bs:List (List Int)} (h:AlI m bs bs.length):∀ w:List Int,Span (fun i=>bb m (bs.getD i [])) bs.length (m.getD []).length (bb m w)
 | []=>by
  have:=Span.mem (B:=fun i=>bb m (bs.getD i [])) (k:=bs.length) (n:=(m.getD []).length) (j:=0) (by have:=h.ne;omega)
  try dsimp only at this
  rwa [h.first] at this
 | k :: w=>by
  by_cases hk:∃ s,s<(m.getD []).length/\mkS m s=k
  . obtain⟨c,hc⟩:=AlI.all h w
    refine Span.congr (Span.lc (B:=fun i=>bb m (bs.getD i [])) (Y:=fun j=>bb m (k :: bs.getD j [])) (c:=c) bs.length fun j hj=>h.done j hj hj k hk) fun s hs=>?_
    show seenQ m (bkQ (rowQ m) (bb m w) (m.getD []).length) k s=dtQ (fun j=>seenQ m (bkQ (rowQ m) (bb m (bs.getD j [])) (m.getD []).length) k s) c bs.length
    have e:bkQ (rowQ m) (bb m w) (m.getD []).length s=dtQ (fun j=>bkQ (rowQ m) (bb m (bs.getD j [])) (m.getD []).length s) c bs.length:=by
     unfold bkQ dtQ
     rw[sumQ_congr (g:=fun t=>sumQ (fun j=>bb m (bs.getD j []) t*rowQ m s t*c j) bs.length) _ fun t ht=>?_]
     . rw[q57]
       exact sumQ_congr _ fun j _=>by rw[<-q0s]
     . try dsimp only
       rw[<-hc t ht]
       unfold dtQ
       rw[<-q0s]
       exact sumQ_congr _ fun j _=>by grind
    unfold seenQ
    split
    . exact e
    . exact (sum_zero' _ fun j _=>Rat.zero_mul _).symm
  . exact Span.zero fun s hs=>seen_not hk _ s hs
def AlkOk (m:DMo) (l:List Int):Prop:=l.length=(m.getD []).length/\∀ s,s<(m.getD []).length->∃ t:Nat,t<=s/\int l s=(t:Int)/\(∀ w,¬ Dist m (prQ t s) w)/\∀ t',t'<t->∃ w,Dist m (prQ t' s) w
theorem AlkOk.uniq {m:DMo} {l k:List Int} (h:AlkOk m l) (g:AlkOk m k):l=k:=by
 refine List.ext_getElem (h.1.trans g.1.symm) fun s h1 h2=>?_
 obtain⟨t,_,e1,a1,b1⟩:=h.2 s (by rw[<-h.1];exact h1)
 obtain⟨u,_,e2,a2,b2⟩:=g.2 s (by rw[<-h.1];exact h1)
 have g1:int l s=l[s]:=by show l.getD s 0=_;rw[List.getD_eq_getElem?_getD,List.getElem?_eq_getElem h1];rfl
 have g2:int k s=k[s]:=by show k.getD s 0=_;rw[List.getD_eq_getElem?_getD,List.getElem?_eq_getElem h2];rfl
 rw[<-g1,<-g2,e1,e2]
 rcases Nat.lt_trichotomy t u with q | q | q
 . obtain⟨w,hw⟩:=b2 t q;exact absurd hw (a1 w)
 . rw[q]
 . obtain⟨w,hw⟩:=b1 u q;exact absurd hw (a2 w)
theorem self_alike (m:DMo) (s:Nat) (w:List Int):¬ Dist m (prQ s s) w:=fun h=>(q4C.1 h).2 rfl
theorem least_alike (m:DMo) (s:Nat):∃ t,t<=s/\(∀ w,¬ Dist m (prQ t s) w)/\∀ t',t'<t->∃ w,Dist m (prQ t' s) w:=by
 obtain⟨t,h1,h2⟩:=q46 (α:=Nat) id (P:=fun t=>∀ w,¬ Dist m (prQ t s) w) ⟨s,self_alike m s⟩
 refine⟨t,h2 s (self_alike m s),h1,fun t' ht=>?_⟩
 by_cases g:∃ w,Dist m (prQ t' s) w
 . exact g
 . have:=h2 t' fun w hw=>g ⟨w,hw⟩
   have:t<=t':=this
   omega
theorem AlkOk.ex (m:DMo):∃ l,AlkOk m l:=by
 refine⟨tab (fun s=>((least_alike m s).choose:Int)) (m.getD []).length,tab_len _ _,fun s hs=>?_⟩
 obtain⟨h1,h2,h3⟩:=(least_alike m s).choose_spec
 exact⟨_,h1,tab_get _ _ _ _ hs,h2,h3⟩
end Go.Proofs.Pf.B
namespace Go.Proofs.Pf.B
open Go Go.VM
def bkw (m:DMo):List Int->Nat->Rat
 | []=>fun _=>1
 | c :: r=>bkQ (rowQ m) (seenQ m (bkw m r) c) (m.getD []).length
theorem bkw_fb {m:DMo} (hm:moOk m):∀ w:List Int,FB (m.getD []).length (w.length*((m.getD []).length*(m.getD []).length+1+1)) (bkw m w)
 | []=>⟨1,by decide,(by rw[List.length_nil,Nat.zero_mul,Nat.pow_zero];exact Nat.le_refl _),fun i _=>by exact (QD.one 1).mono (by simp)⟩
 | k :: w=>by
  refine (((bkw_fb hm w).seen k).bstep hm.mb (Nat.le_trans hm.1.2 (by decide)) (Nat.le_refl _)).mono ?_
  rw[List.length_cons,Nat.succ_mul];omega
theorem FB.times {n a b:Nat} {x y:Nat->Rat} (h:FB n a x) (g:FB n b y):FB n (a+b) fun s=>x s*y s:=by
 obtain⟨D,h1,h2,h3⟩:=h
 obtain⟨E,g1,g2,g3⟩:=g
 exact⟨D*E,Nat.mul_pos h1 g1,kk_mul h2 g2,fun s hs=>((h3 s hs).mul (g3 s hs)).mono (by rw[Nat.pow_add];exact Nat.le_refl _)⟩
theorem FB.prodC {n a b:Nat} {x:Nat->Rat} {P:Mat} (h:FB n a x) (g:MB n b P) {s t:Nat} (hs:s<n) (ht:t<n):Pf.RFit (2*(a+b)+1) (x t*P s t)/\RFit (2*(a+b)+1) (x t*P s t):=by
 have g':MB n b fun i j=>P j i:=by
  obtain⟨D,h1,h2,h3⟩:=g
  exact⟨D,h1,h2,fun i j hi hj=>h3 j i hj hi⟩
 exact h.prod g' ht hs
def thenF (m:DMo) (d:List (Int×Int)) (v:List Int) (k:Nat) (s:Nat):Rat:=bkw m (v.drop (k+1)) s*fwdQ m (dQ d) v (k+1) s
def thenQ (m:DMo) (d:List (Int×Int)) (v:List Int) (k:Int):Option (List (Int×Int))×Int×Unit:=
 if askedQ m d v=0 then (if 0<=k/\k<(v.length:Int) then givenQ (thenF m d v k.toNat) (m.getD []).length else (none,6,())) else (none,askedQ m d v,())
theorem qev {f g:Nat->Rat} {n:Nat} (h:∀ i,i<n->f i=g i):givenQ f n=givenQ g n:=by
 unfold givenQ
 rw[sumQ_congr n h,qeH (g:=fun i=>g i / sumQ g n) fun i hi=>by rw[h i hi]]
theorem then_last {m:DMo} {d:List (Int×Int)} {v:List Int} (hv:0<v.length):thenQ m d v ((v.length:Int) - 1)=nowQ m d v:=by
 unfold thenQ nowQ
 split
 . rw[if_pos (by omega)]
   refine qev fun s _=>?_
   have e:((v.length:Int) - 1).toNat+1=v.length:=by omega
   unfold thenF lastQ
   rw[e,List.drop_length]
   exact Rat.one_mul _
 . rfl
theorem step_nn {m:DMo} (hm:moOk m) {x:Nat->Rat} (hx:∀ s,s<(m.getD []).length->0<=x s) (t:Nat):0<=stepQ (rowQ m) x (m.getD []).length t:=
 sum_nn _ fun s hs=>Rat.mul_nonneg (hx s hs) (hm.rownn hs t)
theorem fwd_nn {m:DMo} (hm:moOk m) {x:Nat->Rat} (hx:∀ s,s<(m.getD []).length->0<=x s) {view:List Int}:∀ i s,s<(m.getD []).length->0<=fwdQ m x view i s
 | 0,s,hs=>hx s hs
 | i+1,s,hs=>by
  refine q4l ?_
  split
  . exact hx s hs
  . exact step_nn hm (fwd_nn hm hx i) s
theorem dQ_nn {d:List (Int×Int)} (h:∀ i,i<d.length->0<=(nth2 d i).1) (i:Nat) (hi:i<d.length):0<=dQ d i:=by
 unfold dQ
 split
 . rename_i g
   refine Rat.num_nonneg.1 ?_
   rw[g.q.1];exact h i hi
 . exact Rat.le_refl
def BL (l:Option (List Bool)) (f:Nat->Rat) (n:Nat):Prop:=(l.getD []).length=n/\∀ i,i<n->((l.getD []).getD i false=true↔0<f i)
def tgQ (m:DMo) (x:Nat->Rat) (p:Nat->Nat):Nat->Rat
 | 0=>x (p 0)
 | i+1=>tgQ m x p i*rowQ m (p i) (p (i+1))
structure PathOk (m:DMo) (view:List Int) (p:Nat->Nat):Prop where
 lt:∀ i,i<view.length->p i<(m.getD []).length
 mark:∀ i,i<view.length->mkS m (p i)=int view i
theorem tg_nn {m:DMo} (hm:moOk m) {x:Nat->Rat} (hx:∀ s,s<(m.getD []).length->0<=x s) {view:List Int} {p:Nat->Nat} (hp:PathOk m view p):∀ i,i<view.length->0<=tgQ m x p i
 | 0,h=>hx _ (hp.lt 0 h)
 | i+1,h=>Rat.mul_nonneg (tg_nn hm hx hp i (by omega)) (hm.rownn (hp.lt i (by omega)) _)
theorem q53 {m:DMo} {y:Nat->Rat} {k:Int} {s:Nat} (h:mkS m s=k):seenQ m y k s=y s:=if_pos h
theorem sum_ge {f:Nat->Rat} {n i:Nat} (h:∀ j,j<n->0<=f j) (hi:i<n):f i<=sumQ f n:=by
 induction n with
 | zero=>omega
 | succ n ih=>
  have h1:=sum_nn n fun j hj=>h j (by omega)
  have h2:=h n (by omega)
  show f i<=sumQ f n+f n
  by_cases e:i=n
  . subst e;grind
  . have:=ih (fun j hj=>h j (by omega)) (by omega);grind
theorem tg_fwd {m:DMo} (hm:moOk m) {x:Nat->Rat} (hx:∀ s,s<(m.getD []).length->0<=x s) {view:List Int} {p:Nat->Nat} (hp:PathOk m view p):∀ i,i<view.length->tgQ m x p i<=fwdQ m x view (i+1) (p i)
 | 0,h=>by
  show x (p 0)<=seenQ m x (int view 0) (p 0)
  rw[q53 (hp.mark 0 h)]
  exact Rat.le_refl
 | i+1,h=>by
  have ih:=tg_fwd hm hx hp i (by omega)
  have hl:=hp.lt i (by omega)
  show _<=seenQ m (stepQ (rowQ m) (fwdQ m x view (i+1)) (m.getD []).length) (int view (i+1)) (p (i+1))
  rw[q53 (hp.mark (i+1) h)]
  have h1:=sum_ge (f:=fun s=>fwdQ m x view (i+1) s*rowQ m s (p (i+1))) (n:=(m.getD []).length) (i:=p i) (fun s hs=>Rat.mul_nonneg (fwd_nn hm hx _ s hs) (hm.rownn hs _)) hl
  have h2:tgQ m x p i*rowQ m (p i) (p (i+1))<=fwdQ m x view (i+1) (p i)*rowQ m (p i) (p (i+1)):=Rat.mul_le_mul_of_nonneg_right ih (hm.rownn hl _)
  exact Rat.le_trans h2 h1
theorem tg_sum {m:DMo} (hm:moOk m) {x:Nat->Rat} (hx:∀ s,s<(m.getD []).length->0<=x s) {view:List Int} {p:Nat->Nat} (hp:PathOk m view p) {i:Nat} (hi:i+1=view.length):tgQ m x p i<=sumQ (fwdQ m x view view.length) (m.getD []).length:=by
 refine Rat.le_trans (tg_fwd hm hx hp i (by omega)) ?_
 rw[hi]
 exact sum_ge (fun s hs=>fwd_nn hm hx _ s hs) (hp.lt i (by omega))
theorem tg_top {m:DMo} (hm:moOk m) {x:Nat->Rat} (hx:∀ s,s<(m.getD []).length->0<=x s) {view:List Int} {p:Nat->Nat} (hp:PathOk m view p):∀ i,i<view.length->tgQ m x p i*bestQ m view i (p i)<=topQ m x view 0
 | 0,h=>maxQ_ge (f:=fun s=>frQ m x view 0 s*bestQ m view 0 s) _ _ (hp.lt 0 h)
 | i+1,h=>by
  refine Rat.le_trans ?_ (tg_top hm hx hp i (by omega))
  rw[q5k h,q53 (hp.mark i (by omega))]
  show tgQ m x p i*rowQ m (p i) (p (i+1))*_<=_
  rw[Rat.mul_assoc]
  exact Rat.mul_le_mul_of_nonneg_left (maxQ_ge (f:=fun t=>rowQ m (p i) t*bestQ m view (i+1) t) _ _ (hp.lt (i+1) h)) (tg_nn hm hx hp i (by omega))
theorem tg_best {m:DMo} (hm:moOk m) {x:Nat->Rat} (hx:∀ s,s<(m.getD []).length->0<=x s) {view:List Int} {p:Nat->Nat} (hp:PathOk m view p) {i:Nat} (hi:i+1=view.length):tgQ m x p i<=topQ m x view 0:=by
 have h:=tg_top hm hx hp i (by omega)
 rw[q5j hi,q53 (hp.mark i (by omega)),Rat.mul_one] at h
 exact h
theorem best_mk {m:DMo} {view:List Int} {i s:Nat} (hi:i<view.length) (h:0<bestQ m view i s):mkS m s=int view i:=by
 have key:∃ y,bestQ m view i=seenQ m y (int view i):=by
  by_cases e:i+1=view.length
  . exact⟨_,q5j e⟩
  . exact⟨_,q5k (by omega)⟩
 obtain⟨y,e⟩:=key
 rw[e] at h
 unfold seenQ at h
 split at h
 . rename_i g;exact g
 . exact absurd h (by grind)
theorem at_path {m:DMo} {x:Nat->Rat} {view:List Int} (h:0<topQ m x view 0):PathOk m view (atQ m x view):=
 ⟨fun i hi=>(top_at (top_pos h i hi)).1,fun i hi=>best_mk hi (top_at (top_pos h i hi)).2.2⟩
theorem tg_at {m:DMo} {x:Nat->Rat} {view:List Int}:∀ i,tgQ m x (atQ m x view) i=chQ m x view (i+1)
 | 0=>(Rat.one_mul _).symm
 | i+1=>by
  show tgQ m x (atQ m x view) i*_=chQ m x view (i+1)*_
  rw[tg_at i];rfl
end Go.Proofs.Pf.B
namespace Go.Proofs.Pf.B
open Go Go.VM
theorem BL.congr {l:Option (List Bool)} {f g:Nat->Rat} {n:Nat} (h:BL l f n) (e:∀ j,j<n->(0<g j↔0<f j)):BL l g n:=⟨h.1,fun i hi=>(h.2 i hi).trans (e i hi).symm⟩
theorem BL.zero (n:Nat):BL (some (repS (n:Int) false)) (fun _=>0) n:=by
 refine⟨by show (List.replicate (n:Int).toNat false).length=n;simp,fun i hi=>?_⟩
 show ((List.replicate (n:Int).toNat false).getD i false=true)↔_
 rw[List.getD_eq_getElem?_getD,List.getElem?_replicate]
 refine⟨fun h=>?_,fun h=>absurd h (by grind)⟩
 split at h<;>cases h
theorem BL.set {l:Option (List Bool)} {f g:Nat->Rat} {n i:Nat} {z:Bool} (h:BL l f n) (hi:i<n) (hz:z=true↔0<g i) (hg:∀ j,j<n->j≠i->(0<g j↔0<f j)):BL (setO l i z) g n:=by
 obtain⟨h1,h2⟩:=h
 cases l with
 | none=>have h1:0=n:=h1;omega
 | some l=>
  have h1:l.length=n:=h1
  refine⟨by show (l.set i z).length=n;rw[List.length_set];exact h1,fun j hj=>?_⟩
  show ((l.set i z).getD j false=true)↔_
  rw[List.getD_eq_getElem?_getD,List.getElem?_set]
  by_cases e:i=j
  . subst e
    rw[if_pos rfl,if_pos (by omega)];exact hz
  . rw[if_neg e,<-List.getD_eq_getElem?_getD]
    exact (h2 j hj).trans (hg j hj (fun q=>e q.symm)).symm
theorem BL.ex (f:Nat->Rat) (n:Nat):∃ r,BL r f n:=by
 refine⟨some (tab (fun i=>decide (0<f i)) n),tab_len _ _,fun i hi=>?_⟩
 rw[show ((some (tab (fun i=>decide (0<f i)) n)).getD []).getD i false=decide (0<f i) from tab_get _ _ _ _ hi]
 exact decide_eq_true_iff
theorem BL.sz {l:Option (List Bool)} {f:Nat->Rat} {n:Nat} (h:BL l f n):szSl l=(n:Int):=by show ((l.getD []).length:Int)=n;rw[h.1]
end Go.Proofs.Pf.B
namespace Go.Proofs.Pf.B
open Go Go.VM
theorem sums_qb {f:Nat->Rat} {e:Nat}:∀ n,(∀ i,i<n->QB e (f i))->QB (n*(e+1)) (sumQ f n)
 | 0,_=>QB.zero _
 | n+1,h=>by
  refine ((sums_qb n fun i hi=>h i (by omega)).add (h n (by omega))).mono ?_
  rw[Nat.succ_mul];omega
theorem r_total {l:Option (List (Int×Int))} (h:∀ i,i<(l.getD []).length->NumOk (nth2 (l.getD []) i)) (hn:(l.getD []).length<=1000):
 callV Pg q1l [⟨(.sl tNum),l⟩] tRR fun r=>RRV r (sumQ (fun i=>numQ (nth2 (l.getD []) i)) (l.getD []).length):=by
 refine qhI l (RRV_ex _) ((q3F (n:=0) (by decide) (by decide)).mono fun z hz=>?_)
 rw[show szSl l=((l.getD []).length:Int) from rfl]
 refine rangeB (n:=(l.getD []).length) (fun i (x:DRR×DRR)=>(l,(((l.getD []).length:Int),((i:Int),x)))) (fun i x=>RRV x.2 (sumQ (fun i=>numQ (nth2 (l.getD []) i)) i)) (z0,z) rfl hz (fun p=>p.2.2.1.toNat) (fun _ _=>rfl) (fun _ _ _=>rfl) ?_ ?_
 . intro k i x hi hx hk
   dsimp only
   rw[q41]
   have q1:=numQ_qb (h i hi)
   have q2:=sums_qb (f:=fun i=>numQ (nth2 (l.getD []) i)) (e:=1) i fun j hj=>numQ_qb (h j (by omega))
   refine⟨in_s hi,(r_To (h i hi)).mono fun u hu=>(r_RPlus (k:=10000) hx hu (q2.fitB.mono (by omega)) (q1.fitB.mono (by decide)) (by decide)).mono fun w hw=>?_⟩
   rw[wi1 hi (by omega)]
   exact hk (x.1,w) hw
 . intro _ x hx
   exact hx
def pth (l:List Int) (i:Nat):Nat:=(int l i).toNat
structure TgOk (m:DMo) (view l:List Int):Prop where
 len:l.length=view.length
 pos:0<view.length
 ok:∀ i,i<view.length->inM m (int l i)/\mkS m (pth l i)=int view i
theorem TgOk.path {m:DMo} {view l:List Int} (h:TgOk m view l):PathOk m view (pth l):=
 ⟨fun i hi=>by obtain⟨⟨h1,h2⟩,_⟩:=h.ok i hi;unfold pth;omega,fun i hi=>(h.ok i hi).2⟩
def TgR (m:DMo) (d:List (Int×Int)) (view l:List Int) (r:DRR×(Bool×Unit)):Prop:=
 (¬ TgOk m view l/\r.2.1=false)∨(TgOk m view l/\RRV r.1 (tgQ m (dQ d) (pth l) (view.length - 1))/\(r.2.1=true↔0<tgQ m (dQ d) (pth l) (view.length - 1)))
theorem TgR.ex (m:DMo) (d:List (Int×Int)) (view l:List Int):∃ r,TgR m d view l r:=by
 by_cases h:TgOk m view l
 . obtain⟨z,hz⟩:=RRV_ex (tgQ m (dQ d) (pth l) (view.length - 1))
   exact⟨(z,(decide (0<tgQ m (dQ d) (pth l) (view.length - 1)),())),.inr ⟨h,hz,decide_eq_true_iff⟩⟩
 . exact⟨(z0,(false,())),.inl ⟨h,rfl⟩⟩
theorem tg_qb {m:DMo} (hm:moOk m) {x:Nat->Rat} {view:List Int} {p:Nat->Nat} (hx:∀ s,s<(m.getD []).length->QB 1 (x s)) (hp:∀ i,i<view.length->p i<(m.getD []).length):∀ i,i<view.length->QB (i+1) (tgQ m x p i)
 | 0,h=>hx _ (hp 0 h)
 | i+1,h=>(tg_qb hm hx hp i (by omega)).mul (hm.rowqb (hp i (by omega)))
set_option maxHeartbeats 4000000 in
theorem q9s {m:DMo} {d:Option (List (Int×Int))} {v l:DL} (h1:moOk m) (h2:distOk (m.getD []).length (d.getD [])) (hv:(v.getD []).length<=200):
 callV Pg q2d [⟨tMo,m⟩,⟨(.sl tNum),d⟩,⟨tL,v⟩,⟨tL,l⟩] (.tup (.pair tRR (.pair .bool .unit))) fun r=>TgR m (d.getD []) (v.getD []) (l.getD []) r:=by
 have hn:=h1.1.2
 have hdn:=h2.2.1
 have hxq:∀ s,s<(m.getD []).length->QB 1 (dQ (d.getD []) s):=fun s hs=>by
  rw[h2.1.dq (by omega)]
  exact numQ_qb (h2.1 s (by omega)).1
 refine qhH m d v l (TgR.ex _ _ _ _) (joinR (fun p=>∃ o:Bool,p=(d,(v,(l,(o,(m,z0)))))/\(o=true↔¬ ((l.getD []).length=(v.getD []).length/\0<(v.getD []).length))) ?_ ?_)
 case refine_2=>
  intro k hk
  refine br_c (fun g=>?_) fun g=>?_
  . have g:¬ ((l.getD []).length:Int)=((v.getD []).length:Int):=not_t g
    exact hk _ ⟨true,rfl,fun _ q=>by have:=q.1;omega,fun _=>rfl⟩
  . have g:((l.getD []).length:Int)=((v.getD []).length:Int):=not_f g
    refine hk _ ⟨_,rfl,?_⟩
    rw[decide_eq_true_eq]
    show ((l.getD []).length:Int)=0↔_
    omega
 rintro _ ⟨o,rfl,ho⟩
 dsimp only
 refine br_c (fun g=>?_) fun g=>?_
 . refine (q3F (n:=0) (by decide) (by decide)).mono fun z hz=>.inl ⟨fun q=>ho.1 g ⟨q.len,q.pos⟩,rfl⟩
 have hlen:(l.getD []).length=(v.getD []).length/\0<(v.getD []).length:=by
  by_cases q:(l.getD []).length=(v.getD []).length/\0<(v.getD []).length
  . exact q
  . rw[ho.2 q] at g;cases g
 obtain⟨hl,hv0⟩:=hlen
 clear ho g
 refine (q3F (n:=1) (by decide) (by decide)).mono fun z1 hz1=>?_
 rw[show szSl l=((v.getD []).length:Int) by show ((l.getD []).length:Int)=_;rw[hl]]
 refine rangeB (n:=(v.getD []).length) (fun i (x:DRR×DRR)=>(d,(v,(l,(l,(((v.getD []).length:Int),((i:Int),(m,x)))))))) (fun i x=>(∀ j,j<i->inM m (int (l.getD []) j)/\mkS m (pth (l.getD []) j)=int (v.getD []) j)/\(0<i->RRV x.2 (tgQ m (dQ (d.getD [])) (pth (l.getD [])) (i - 1)))) (z0,z1) rfl ⟨fun j hj=>absurd hj (by omega),fun h=>absurd h (by omega)⟩ (fun p=>p.2.2.2.2.2.1.toNat) (fun _ _=>rfl) (fun _ _ _=>rfl) ?_ ?_
 . rintro k2 i ⟨x1,x2⟩ hi ⟨hok,hx⟩ hk2
   dsimp only
   refine joinR (fun p=>∃ y1 y2:DRR,p=(d,(v,(l,(l,(((v.getD []).length:Int),((i:Int),(m,(y1,y2))))))))/\(inM m (int (l.getD []) i)/\mkS m (pth (l.getD []) i)=int (v.getD []) i)/\RRV y2 (tgQ m (dQ (d.getD [])) (pth (l.getD [])) i)) ?_ ?_
   . rintro _ ⟨y1,y2,rfl,hmk,hy⟩
     dsimp only
     rw[wi1 hi (by omega)]
     refine hk2 (y1,y2) ⟨fun j hj=>?_,fun _=>hy⟩
     by_cases q:j=i
     . subst q;exact hmk
     . exact hok j (by omega)
   . intro k4 hk4
     try dsimp only
     rw[q2x]
     refine⟨in_s (by omega),joinR (fun p=>∃ o:Bool,p=(d,(v,(l,((i:Int),(int (l.getD []) i,(l,(((v.getD []).length:Int),((i:Int),(o,(m,(x1,x2)))))))))))/\(o=true↔¬ (inM m (int (l.getD []) i)/\mkS m (pth (l.getD []) i)=int (v.getD []) i))) ?_ ?_⟩
     case refine_2=>
      intro k5 hk5
      refine br_c (fun g=>?_) fun g=>br_c (fun g2=>?_) fun g2=>?_
      . have g:int (l.getD []) i<0:=dec_t g
        exact hk5 _ ⟨true,rfl,fun _ q=>by have:=q.1.1;omega,fun _=>rfl⟩
      . have g2:((m.getD []).length:Int)<=int (l.getD []) i:=dec_t g2
        exact hk5 _ ⟨true,rfl,fun _ q=>by have:=q.1.2;omega,fun _=>rfl⟩
      . have g:¬ int (l.getD []) i<0:=dec_f g
        have g2:¬ ((m.getD []).length:Int)<=int (l.getD []) i:=dec_f g2
        obtain⟨t,ht⟩:∃ t:Nat,int (l.getD []) i=(t:Int):=⟨(int (l.getD []) i).toNat,by omega⟩
        have hpt:pth (l.getD []) i=t:=by unfold pth;rw[ht,Int.toNat_natCast]
        rw[hpt] at hk5
        rw[ht,q1r,q2x]
        rw[ht] at hk5
        refine⟨in_s (by omega),in_s hi,hk5 _ ⟨_,rfl,?_⟩⟩
        by_cases q:mkS m t=int (v.getD []) i
        . rw[show decide ((stt (m.getD []) t).2.1=int (v.getD []) i)=true from decide_eq_true q]
          exact⟨fun e=>(by cases e),fun e=>absurd ⟨⟨by omega,by omega⟩,q⟩ e⟩
        . rw[show decide ((stt (m.getD []) t).2.1=int (v.getD []) i)=false from decide_eq_false q]
          exact⟨fun _ e=>q e.2,fun _=>rfl⟩
     rintro _ ⟨o,rfl,ho⟩
     dsimp only
     refine br_c (fun g=>?_) fun g=>?_
     . exact (q3F (n:=0) (by decide) (by decide)).mono fun z hz=>.inl ⟨fun q=>ho.1 g (q.ok i hi),rfl⟩
     have hmk:inM m (int (l.getD []) i)/\mkS m (pth (l.getD []) i)=int (v.getD []) i:=by
      by_cases q:inM m (int (l.getD []) i)/\mkS m (pth (l.getD []) i)=int (v.getD []) i
      . exact q
      . rw[ho.2 q] at g;cases g
     clear ho g
     obtain⟨⟨m1,m2⟩,_⟩:=id hmk
     obtain⟨t,ht⟩:∃ t:Nat,int (l.getD []) i=(t:Int):=⟨(int (l.getD []) i).toNat,by omega⟩
     have hpt:pth (l.getD []) i=t:=by unfold pth;rw[ht,Int.toNat_natCast]
     have htn:t<(m.getD []).length:=by omega
     refine br_c (fun g=>?_) fun g=>?_
     . have g:(i:Int)=0:=dec_t g
       obtain rfl:i=0:=by omega
       rw[ht,q41]
       refine⟨in_s (by omega),(r_To (h2.1 t (by omega)).1).mono fun u hu=>hk4 _ ⟨_,u,rfl,hmk,?_⟩⟩
       show RRV u (dQ (d.getD []) (pth (l.getD []) 0))
       rw[hpt,h2.1.dq (by omega)]
       exact hu
     . have g:¬ (i:Int)=0:=dec_f g
       obtain⟨q,rfl⟩:∃ q,i=q+1:=⟨i - 1,by omega⟩
       obtain⟨⟨n1,n2⟩,_⟩:=hok q (by omega)
       obtain⟨r,hr⟩:∃ r:Nat,int (l.getD []) q=(r:Int):=⟨(int (l.getD []) q).toNat,by omega⟩
       have hpr:pth (l.getD []) q=r:=by unfold pth;rw[hr,Int.toNat_natCast]
       have hrn:r<(m.getD []).length:=by omega
       obtain⟨b1,b2,b3⟩:=h1.bs hrn
       have ew:IntKind.wrap IntKind.i64 (((q+1:Nat):Int) - 1)=(q:Int):=by rw[wi64 (by omega) (by omega)];omega
       refine (q3F (n:=0) (by decide) (by decide)).mono fun z0' hz0=>?_
       rw[ew,q2x,hr,q1r]
       refine⟨in_s (by omega),in_s hrn,in_s (i:=0) (by omega),?_⟩
       have hx:=hx (by omega)
       rw[show q+1 - 1=q by omega] at hx
       have eb:((eltS (((0:Int),(0:Int)),none) (stt (m.getD []) r).2.2 (0:Int)).2.getD [])=bs_ m r:=rfl
       generalize (eltS (((0:Int),(0:Int)),none) (stt (m.getD []) r).2.2 (0:Int)).2=bl at *
       rw[show szSl bl=((bs_ m r).length:Int) by show ((bl.getD []).length:Int)=_;rw[eb]]
       refine rangeB (n:=(bs_ m r).length) (fun j (y:DRR)=>(d,(v,(l,(int (l.getD []) (q+1),(l,(((v.getD []).length:Int),(((q+1:Nat):Int),(bl,(((bs_ m r).length:Int),((j:Int),(m,(x1,(x2,y)))))))))))))) (fun j y=>RRV y (brQ (bs_ m r) j t)) z0' rfl hz0 (fun p=>p.2.2.2.2.2.2.2.2.2.1.toNat) (fun _ _=>rfl) (fun _ _ _=>rfl) ?_ ?_
       . intro k7 j y hj hy hk7
         dsimp only
         rw[q5u,eb,ht]
         refine⟨in_s (by rw[eb];exact hj),joinE (br_c (fun e=>?_) fun e=>?_)⟩
         . have e:(br (bs_ m r) j).1=(t:Int):=dec_t e
           refine (r_To (b3 j hj).2.2).mono fun u hu=>?_
           try dsimp only
           rw[wi1 hj (by omega)]
           rw[ht] at hk7
           refine hk7 u ?_
           simp only[brQ]
           rw[if_pos e];exact hu
         . have e:¬ (br (bs_ m r) j).1=(t:Int):=dec_f e
           try dsimp only
           rw[wi1 hj (by omega)]
           rw[ht] at hk7
           refine hk7 y ?_
           simp only[brQ]
           rw[if_neg e];exact hy
       . intro _ y hy
         dsimp only
         have q1:=tg_qb (p:=pth (l.getD [])) h1 hxq (view:=(v.getD []).take (q+1)) (fun a ha=>by
          rw[List.length_take] at ha
          obtain⟨⟨a1,a2⟩,_⟩:=hok a (by omega)
          unfold pth;omega) q (by rw[List.length_take];omega)
         have q2:QB 1 (rowQ m r t):=h1.rowqb hrn
         refine (q9q (k:=1000) hx hy (q1.fitB.mono (by omega)) (q2.fitB.mono (by decide)) (by decide)).mono fun w hw=>hk4 _ ⟨_,w,rfl,hmk,?_⟩
         show RRV w (tgQ m (dQ (d.getD [])) (pth (l.getD [])) q*rowQ m (pth (l.getD []) q) (pth (l.getD []) (q+1)))
         rw[hpr,hpt];exact hw
 . rintro _ ⟨x1,x2⟩ ⟨hok,hx⟩
   have hT:TgOk m (v.getD []) (l.getD []):=⟨hl,hv0,hok⟩
   have hx:=hx hv0
   refine (r_RSign hx).mono ?_
   rintro _ rfl
   refine .inr ⟨hT,hx,?_⟩
   show decide ((0:Int)<_)=true↔_
   rw[decide_eq_true_eq,rat_pos]
end Go.Proofs.Pf.B
namespace Go.Proofs.Pf.B
open Go Go.VM
theorem s_movedO {p:Option (List (Option (List DR)))} {l:Option (List DR)} {P:Mat} {x:Nat->Rat} {n k:Nat} (hp:RM p P n) (hl:RL l x n) (hn:n<=1000)
 (f1:∀ s t,s<n->t<n->Pf.RFit k (P s t)) (f2:∀ s,s<n->Pf.RFit k (x s)) (f3:∀ s t,s<n->t<n->Pf.RFit k (x t*P s t)) (f4:∀ b s,b<=n->s<n->Pf.RFit k (bkQ P x b s)) (hk:k+k+1<=1073741824):
 ownV Pg q0U [⟨(.sl (.sl tER)),p⟩,⟨(.sl tER),l⟩,⟨.bool,true⟩,⟨(.cst (.fn q05)),()⟩] tER fun r=>RL r (bkQ P x n) n:=by
 obtain⟨h1,h2⟩:=hl
 obtain⟨p1,p2⟩:=hp
 have e1:szSl l=(n:Int):=by show ((l.getD []).length:Int)=n;rw[h1]
 have e2:szSl p=(n:Int):=by show ((p.getD []).length:Int)=n;rw[p1]
 refine qj1 p l true () (RL.ex _ _) ⟨?_,?_⟩
 . rw[e1]
   show 0<=(n:Int)/\(n:Int)<=n/\(n:Int)*64<=281474976710656
   omega
 . rw[e1,e2]
   refine rangeB (n:=n) (fun i y=>(p,(l,(true,((n:Int),((i:Int),y)))))) (fun i y=>RL y (fun s=>if s<i then bkQ P x n s else 0) n) (some (repS (n:Int) r0)) rfl ((RL.zero n).congr fun j _=>if_neg (by omega)) (fun p=>p.2.2.2.2.1.toNat) (fun _ _=>rfl) (fun _ _ _=>rfl) ?_ ?_
   . intro k0 i y hi hy hk0
     try dsimp only
     obtain⟨r1,r2⟩:=p2 i hi
     refine⟨in_s (by omega),?_⟩
     rw[q16]
     generalize hr:(p.getD []).getD i none=r at *
     have e3:szSl r=(n:Int):=by show ((r.getD []).length:Int)=n;rw[r1]
     rw[e3]
     refine rangeB (n:=n) (fun j z=>(p,(l,(true,((i:Int),((n:Int),((i:Int),(r,((n:Int),((j:Int),z)))))))))) (fun j z=>RL z (fun s=>if s<i then bkQ P x n s else if s=i then bkQ P x j s else 0) n) y rfl (hy.congr fun j _=>?_) (fun p=>p.2.2.2.2.2.2.2.2.1.toNat) (fun _ _=>rfl) (fun _ _ _=>rfl) ?_ ?_
     . try dsimp only
       by_cases h:j<i
       . rw[if_pos h,if_pos h]
       . rw[if_neg h,if_neg h]
         split<;>rfl
     . intro k1 j z hj hz hk1
       try dsimp only
       refine⟨in_s (by omega),?_⟩
       rw[q06]
       have hc:=r2 j hj
       refine (q19 hc).mono fun sg hsg=>?_
       subst hsg
       refine joinE (br_c (fun hb=>?_) fun hb=>?_)
       . try dsimp only
         rw[wi1 hj (by omega)]
         refine hk1 _ (hz.congr fun t _=>?_)
         have h0:=rv_zero hc (dec_t hb)
         simp only[bkQ,sumQ]
         by_cases ht:t=i
         . subst ht;rw[h0,Rat.mul_zero,Rat.add_zero]
         . rw[if_neg ht,if_neg ht]
       . refine joinE (br_t rfl ⟨in_s (by rw[hz.1];exact hi),in_s (by omega),?_⟩)
         have e4:eltN r0 z (toN (i:Int))=(z.getD []).getD i r0:=by simp only[eltN,toN,Int.toNat_natCast]
         rw[e4,q06]
         have hzj:=hz.2 i hi
         dsimp only at hzj
         rw[if_neg (by omega),if_pos rfl] at hzj
         refine (q9I hzj (h2 j hj) hc (f4 j i (by omega) hi) (f2 j hj) (f1 i j hi hj) (f3 i j hi hj) hk).mono fun w hw=>⟨in_s (by rw[hz.1];exact hi),?_⟩
         try dsimp only
         rw[wi1 hj (by omega),show toN (i:Int)=i from Int.toNat_natCast i]
         refine hk1 _ (RL.set hz hi (g:=fun s=>if s<i then bkQ P x n s else if s=i then bkQ P x (j+1) s else 0) ?_ fun t _ ht=>?_)
         . rw[if_neg (by omega),if_pos rfl];exact hw
         . try dsimp only
           rw[if_neg ht,if_neg ht]
     . intro _ z hz
       try dsimp only
       rw[wi1 hi (by omega)]
       refine hk0 _ (hz.congr fun t ht=>?_)
       try dsimp only
       by_cases h:t<i
       . rw[if_pos h,if_pos (by omega)]
       . rw[if_neg h]
         by_cases h2:t=i
         . rw[if_pos h2,if_pos (by omega)]
         . rw[if_neg h2,if_neg (by omega)]
   . intro _ y hy
     exact hy.congr fun j hj=>by rw[if_pos hj]
theorem RLL.rowS {p:Option (List (Option (List DR)))} {f:Mat} {k n i:Nat} (h:RLL p f k n) (hi:i<k):RL (eltS none p (i:Int)) (f i) n:=by
 have:=h.at hi
 simp only[eltN,toN,Int.toNat_natCast] at this
 simp only[eltS,Int.toNat_natCast]
 exact this
theorem drop_int {v:List Int} {i:Nat} (h:i<v.length):v.drop i=int v i :: v.drop (i+1):=by
 rw[List.drop_eq_getElem_cons h]
 show _=List.getD _ _ _ :: _
 rw[List.getD_eq_getElem?_getD,List.getElem?_eq_getElem h];rfl
set_option maxHeartbeats 4000000 in
theorem s_Then (m:DMo) (d:Option (List (Int×Int))) (v:DL) (k:Int) (hd:(d.getD []).length<=1000) (hv:(v.getD []).length<4611686018427387904):
 callV Pg q3q [⟨tMo,m⟩,⟨(.sl tNum),d⟩,⟨tL,v⟩,⟨tI,k⟩] (.tup (.pair (.sl tNum) (.pair tI .unit))) fun r=>r=thenQ m (d.getD []) (v.getD []) k:=by
 refine qiP m d v k ⟨_,rfl⟩ ((q4j m d v hd hv).mono ?_)
 rintro _ rfl
 by_cases h:askedQ m (d.getD []) (v.getD [])=0
 case neg=>
  rw[decide_eq_false h]
  exact br_t rfl (by rw[thenQ,if_neg h])
 rw[decide_eq_true h]
 obtain⟨h1,h2,h3,h4⟩:=askedQ_ok h
 have hn:=h1.1.2
 have hvl:=h3.1
 refine br_f rfl (joinR (fun p=>∃ o:Bool,p=(d,(v,(k,(o,m))))/\(o=true↔¬ (0<=k/\k<((v.getD []).length:Int)))) ?_ ?_)
 case refine_2=>
  intro k1 hk1
  refine br_c (fun g=>?_) fun g=>?_
  . have g:k<0:=dec_t g
    exact hk1 _ ⟨true,rfl,fun _ q=>by have:=q.1;omega,fun _=>rfl⟩
  . have g:¬ k<0:=dec_f g
    refine hk1 _ ⟨_,rfl,?_⟩
    rw[decide_eq_true_eq]
    show ((v.getD []).length:Int)<=k↔_
    omega
 rintro _ ⟨o,rfl,ho⟩
 dsimp only
 refine br_c (fun g=>?_) fun g=>?_
 . rw[thenQ,if_pos h,if_neg (ho.1 g)]
 have hin:0<=k/\k<((v.getD []).length:Int):=by
  by_cases q:0<=k/\k<((v.getD []).length:Int)
  . exact q
  . rw[ho.2 q] at g;cases g
 clear ho g
 obtain⟨c,rfl⟩:∃ c:Nat,k=(c:Int):=⟨k.toNat,by omega⟩
 have hc:c<(v.getD []).length:=by omega
 have want:thenQ m (d.getD []) (v.getD []) (c:Int)=givenQ (thenF m (d.getD []) (v.getD []) c) (m.getD []).length:=by rw[thenQ,if_pos h,if_pos hin,Int.toNat_natCast]
 rw[want]
 refine (q3M h1).mono fun rows hp=>?_
 have esz:szSl m=((m.getD []).length:Int):=rfl
 have esv:szSl v=((v.getD []).length:Int):=rfl
 rw[esz]
 have hmb:MB (m.getD []).length ((m.getD []).length*(m.getD []).length+1) (rowQ m):=h1.mb
 have hnn:(m.getD []).length*(m.getD []).length<=40*40:=Nat.mul_le_mul hn hn
 have hfb:∀ w:List Int,w.length<=200->FB (m.getD []).length 400000 (bkw m w):=fun w hw=>by
  refine (bkw_fb h1 w).mono ?_
  have:w.length*((m.getD []).length*(m.getD []).length+1+1)<=200*1602:=Nat.mul_le_mul hw (by omega)
  omega
 have hff:∀ i,i<=200->FB (m.getD []).length 400000 (fwdQ m (dQ (d.getD [])) (v.getD []) i):=fun i hi=>by
  refine (fwd_fb (dQ_fb (d.getD []) _) h1.mb (by omega) i).mono ?_
  have:i*((m.getD []).length*(m.getD []).length+1+1)<=200*1602:=Nat.mul_le_mul hi (by omega)
  omega
 have hz:RL (some (repS ((m.getD []).length:Int) r0)) (fun _=>0) (m.getD []).length:=RL.zero _
 have elz:szSl (some (repS ((m.getD []).length:Int) r0))=((m.getD []).length:Int):=by show (((some (repS ((m.getD []).length:Int) r0)).getD []).length:Int)=_;rw[hz.1]
 refine⟨⟨by omega,by omega,by omega⟩,?_⟩
 refine rangeB (n:=(m.getD []).length) (fun i x=>(d,(v,((c:Int),(rows,(((m.getD []).length:Int),((i:Int),(m,x)))))))) (fun i x=>RL x (fun s=>if s<i then 1 else 0) (m.getD []).length) (some (repS ((m.getD []).length:Int) r0)) ?_ (hz.congr fun j _=>if_neg (by omega)) (fun p=>p.2.2.2.2.2.1.toNat) (fun _ _=>rfl) (fun _ _ _=>rfl) ?_ ?_
 . show (d,(v,((c:Int),(rows,((szSl (some (repS ((m.getD []).length:Int) r0))),((0:Int),(m,some (repS ((m.getD []).length:Int) r0))))))))=_
   rw[elz];rfl
 . intro k3 i x hi hx hk3
   dsimp only
   refine s_One.mono fun p5 hp5=>⟨in_s (by rw[hx.1];exact hi),?_⟩
   rw[wi1 hi (by omega),show toN (i:Int)=i from Int.toNat_natCast i]
   refine hk3 _ (hx.set hi ?_ fun j _ hj=>?_)
   . show RV p5 (if i<i+1 then 1 else 0)
     rw[if_pos (by omega)];exact hp5
   . show (if j<i+1 then (1:Rat) else 0)=if j<i then 1 else 0
     by_cases g:j<i
     . rw[if_pos g,if_pos (by omega)]
     . rw[if_neg g,if_neg (by omega)]
 intro _ x hx
 dsimp only
 have hx:RL x (fun _=>1) (m.getD []).length:=hx.congr fun j hj=>(if_pos hj).symm
 rw[esv]
 refine loopE (fun p=>∃ (i:Nat) (x:Option (List DR)),p=(d,(v,((c:Int),(rows,((i:Int),(m,x))))))/\c<=i/\i<(v.getD []).length/\RL x (bkw m ((v.getD []).drop (i+1))) (m.getD []).length) (fun p=>p.2.2.2.2.1.toNat) ⟨(v.getD []).length - 1,x,?_,by omega,by omega,?_⟩ ?_
 . rw[wi64 (by omega) (by omega),show ((v.getD []).length:Int) - 1=(((v.getD []).length - 1:Nat):Int) by omega]
 . rw[List.drop_eq_nil_of_le (by omega)];exact hx
 clear hx
 rintro _ ⟨i,x,rfl,hci,hi,hx⟩
 dsimp only
 refine br_c (fun g=>?_) fun g=>?_
 . have g:(c:Int)<(i:Int):=dec_t g
   refine⟨in_s hi,?_⟩
   rw[q2x]
   have hfx:=hfb ((v.getD []).drop (i+1)) (by rw[List.length_drop];omega)
   have hfs:=hfx.seen (m:=m) (int (v.getD []) i)
   refine (q50 hx (by omega)).mono fun y hy=>(s_movedO (k:=2*(400000+((m.getD []).length*(m.getD []).length+1)+1)+1) hp hy (by omega) (fun a b ha hb=>(hmb.fit ha hb).1.mono (by omega)) (fun a ha=>(hfs.fit ha).1.mono (by omega)) (fun a b ha hb=>(FB.prodC hfs hmb ha hb).1.mono (by omega)) (fun a b ha hb=>((hfs.bstep hmb (Nat.le_trans hn (by decide)) ha).fit hb).1.mono (by omega)) (by omega)).mono fun z hz=>?_
   obtain⟨j,rfl⟩:∃ j,i=j+1:=⟨i - 1,by omega⟩
   refine⟨⟨j,z,?_,by omega,by omega,?_⟩,?_⟩
   . rw[wi64 (by omega) (by omega),show ((j+1:Nat):Int) - 1=(j:Int) by omega]
   . rw[drop_int hi];exact hz
   . show (IntKind.wrap IntKind.i64 (((j+1:Nat):Int) - 1)).toNat<((j+1:Nat):Int).toNat
     rw[wi64 (by omega) (by omega)];omega
 . have g:¬ (c:Int)<(i:Int):=dec_f g
   obtain rfl:i=c:=by omega
   have hfx:=hfb ((v.getD []).drop (i+1)) (by rw[List.length_drop];omega)
   have hfw:=hff (i+1) (by omega)
   refine (q4i (fun i hi=>(h2.1 i hi).1) hd).mono fun p hp=>?_
   have e:=h2.2.1
   rw[e] at hp
   have hp:RL p (dQ (d.getD [])) (m.getD []).length:=hp.congr fun j hj=>h2.1.dq (by omega)
   have hvv:(v.getD []).length*((m.getD []).length*(m.getD []).length+1+1)<=200*(40*40+1+1):=Nat.mul_le_mul hvl (by omega)
   refine (q9G h1 hp (dQ_fb _ _) h1.mb (by omega) (by omega)).mono fun f hf=>⟨in_s (by rw[hf.1];exact hi),?_⟩
   have hr:=hf.rowS hi
   try dsimp only at hr
   generalize eltS none f (i:Int)=r at *
   have er:szSl r=((m.getD []).length:Int):=by show ((r.getD []).length:Int)=_;rw[hr.1]
   rw[er]
   refine rangeB (n:=(m.getD []).length) (fun s x=>(r,(((m.getD []).length:Int),((s:Int),x)))) (fun s x=>RL x (fun t=>if t<s then thenF m (d.getD []) (v.getD []) i t else bkw m ((v.getD []).drop (i+1)) t) (m.getD []).length) x rfl (hx.congr fun j _=>if_neg (by omega)) (fun p=>p.2.2.1.toNat) (fun _ _=>rfl) (fun _ _ _=>rfl) ?_ ?_
   . intro k9 s x hs hx hk9
     dsimp only
     refine⟨in_s (by rw[hr.1];exact hs),in_s (by rw[hx.1];exact hs),?_⟩
     rw[q06]
     have e4:eltN r0 x (toN (s:Int))=(x.getD []).getD s r0:=by simp only[eltN,toN,Int.toNat_natCast]
     rw[e4]
     have hxs:=hx.2 s hs
     dsimp only at hxs
     rw[if_neg (by omega)] at hxs
     refine (q2F longS hxs (hr.2 s hs) ((hfx.fit hs).1) ((hfw.fit hs).1) (by omega)).mono fun w hw=>⟨in_s (by rw[hx.1];exact hs),?_⟩
     rw[wi1 hs (by omega),show toN (s:Int)=s from Int.toNat_natCast s]
     refine hk9 _ (hx.set hs ?_ fun t _ ht=>?_)
     . show RV w (if s<s+1 then _ else _)
       rw[if_pos (by omega)];exact hw
     . show (if t<s+1 then _ else _)=if t<s then _ else _
       by_cases q:t<s
       . rw[if_pos q,if_pos (by omega)]
       . rw[if_neg q,if_neg (by omega)]
   . intro _ x hx
     dsimp only
     have hx:RL x (thenF m (d.getD []) (v.getD []) i) (m.getD []).length:=hx.congr fun t ht=>(if_pos ht).symm
     refine (q66 hx (hfx.times hfw) (by omega) (by decide)).mono ?_
     rintro _ rfl
     rfl
end Go.Proofs.Pf.B
namespace Go.Proofs.Pf.B
open Go Go.VM
theorem RLL.row {p:Option (List (Option (List DR)))} {f:Mat} {k n i:Nat} (h:RLL p f k n) (hi:i<k):RL (eltS none p (i:Int)) (f i) n:=by
 have:=h.at hi
 simp only[eltN,toN,Int.toNat_natCast] at this
 simp only[eltS,Int.toNat_natCast]
 exact this
def MkOk (f:Nat->Prop) (i:Nat) (l:DL):Prop:=(l.getD []).length<=i/\(((l.getD []).length=0/\∀ t,t<i->¬ f t)∨∃ t:Nat,t<i/\f t/\(∀ u,u<t->¬ f u)/\0<(l.getD []).length/\int (l.getD []) 0=(t:Int))
theorem MkOk.ex (f:Nat->Prop) (i:Nat):∃ l,MkOk f i l:=by
 by_cases h:∃ t,t<i/\f t
 . obtain⟨t,⟨h1,h2⟩,h3⟩:=q46 (α:=Nat) id (P:=fun t=>t<i/\f t) h
   refine⟨some [(t:Int)],by show 1<=i;omega,.inr ⟨t,h1,h2,fun u hu hf=>?_,Nat.one_pos,rfl⟩⟩
   have:t<=u:=h3 u ⟨by omega,hf⟩
   omega
 . exact⟨none,Nat.zero_le _,.inl ⟨rfl,fun t ht hf=>h ⟨t,ht,hf⟩⟩⟩
def q2K (m:DMo) (r:DL×(Int×Unit)):Prop:=if onlyQ m=0 then AlkOk m (r.1.getD [])/\r.2=(0,()) else r=(none,(onlyQ m,()))
theorem q2K.ex (m:DMo):∃ r,q2K m r:=by
 unfold q2K
 split
 . obtain⟨l,hl⟩:=AlkOk.ex m
   exact⟨(some l,(0,())),hl,rfl⟩
 . exact⟨_,rfl⟩
end Go.Proofs.Pf.B
namespace Go.Proofs.Pf.B
open Go Go.VM
theorem apartOk.len {m:DMo} {b c:Int} {r:DL×(Int×Unit)} (h:apartOk m b c r):(r.1.getD []).length<=1000:=by
 unfold apartOk at h
 split at h
 . rename_i h0
   have hm:moOk m:=by
    by_cases g:moOk m
    . exact g
    . rw[onlyQ,if_neg g] at h0;exact absurd h0 (by decide)
   split at h
   . rename_i h1
     rcases h with ⟨w,h2,rfl⟩ | ⟨_,rfl⟩
     . obtain⟨⟨_,_⟩,_,_⟩:=h1
       have:=h2.len (prQ_sum (by omega) (by omega)) hm.1.1
       have:=hm.1.2
       show w.length<=1000
       omega
     . exact Nat.zero_le _
   . rw[h];exact Nat.zero_le _
 . rw[h];exact Nat.zero_le _
theorem q2K.len {m:DMo} {r:DL×(Int×Unit)} (h:q2K m r):(r.1.getD []).length<=1000:=by
 unfold q2K at h
 split at h
 . rename_i h0
   have hm:moOk m:=by
    by_cases g:moOk m
    . exact g
    . rw[onlyQ,if_neg g] at h0;exact absurd h0 (by decide)
   rw[h.1.1]
   have:=hm.1.2
   omega
 . rw[h];exact Nat.zero_le _
end Go.Proofs.Pf.B
namespace Go.Proofs.Pf.B
open Go Go.VM
theorem sum_div (f:Nat->Rat) (c:Rat):∀ n,sumQ (fun i=>f i / c) n=sumQ f n / c
 | 0=>by simp[sumQ,Rat.div_def]
 | n+1=>by
  simp only[sumQ]
  rw[sum_div f c n,Rat.div_def,Rat.div_def,Rat.div_def,<-Rat.add_mul]
theorem q4F {f:Nat->Rat} {n:Nat} (h:(givenQ f n).2.1=0):sumQ f n≠0/\((givenQ f n).1.getD []).length=n/\∀ i,i<n->NumOk (nth2 ((givenQ f n).1.getD []) i)/\numQ (nth2 ((givenQ f n).1.getD []) i)=f i / sumQ f n:=by
 unfold givenQ at h ⊢
 by_cases h0:sumQ f n=0
 . rw[if_pos h0] at h;exact absurd h (by decide)
 rw[if_neg h0] at h ⊢
 unfold outsQ at h ⊢
 by_cases c:∀ i,i<n->(outQ (f i / sumQ f n)).2.1=0
 . rw[if_pos c]
   refine⟨h0,by rw[q0e,tab_len],fun i hi=>?_⟩
   dsimp only
   rw[q0e,show nth2 (tab (fun i=>(outQ (f i / sumQ f n)).1) n) i=(outQ (f i / sumQ f n)).1 from tab_get _ _ _ _ hi]
   exact q5T (c i hi)
 . rw[if_neg c] at h;exact absurd h (by decide)
theorem given_err (f:Nat->Rat) (n:Nat):(givenQ f n).2.1=5↔sumQ f n=0:=by
 unfold givenQ
 by_cases h0:sumQ f n=0
 . rw[if_pos h0];exact⟨fun _=>h0,fun _=>rfl⟩
 . rw[if_neg h0]
   refine⟨fun h=>?_,fun h=>absurd h h0⟩
   unfold outsQ at h
   split at h
   . exact absurd (show (0:Int)=5 from h) (by decide)
   . exact absurd (show (3:Int)=5 from h) (by decide)
theorem q91 {f:Nat->Rat} {n:Nat} (h:(givenQ f n).2.1=0):sumQ (fun i=>numQ (nth2 ((givenQ f n).1.getD []) i)) ((givenQ f n).1.getD []).length=1:=by
 obtain⟨h0,h1,h2⟩:=q4F h
 rw[h1,sumQ_congr n fun i hi=>(h2 i hi).2,sum_div,Rat.div_def,Rat.mul_inv_cancel _ h0]
theorem q4y {m:DMo} {d:List (Int×Int)} {v:List Int} (h:(chanceQ m d v).2.1=0):askedQ m d v=0/\NumOk (chanceQ m d v).1/\numQ (chanceQ m d v).1=sumQ (lastQ m d v) (m.getD []).length:=by
 unfold chanceQ at h ⊢
 by_cases g:askedQ m d v=0
 . rw[if_pos g] at h ⊢
   obtain⟨h1,h2⟩:=q5T h
   exact⟨g,h1,h2⟩
 . rw[if_neg g] at h;exact absurd h g
theorem last_app (m:DMo) (d:List (Int×Int)) (v:List Int) (k:Nat):sumQ (lastQ m d (v ++ [(k:Int)])) (m.getD []).length=markQ m (goQ m (lastQ m d v) v.length) (m.getD []).length k:=by
 unfold lastQ
 have e1:(v ++ [(k:Int)]).length=v.length+1:=by simp
 have e2:∀ i,i<=v.length->fwdQ m (dQ d) (v ++ [(k:Int)]) i=fwdQ m (dQ d) v i:=by
  intro i
  induction i with
  | zero=>intro _;rfl
  | succ i ih=>
   intro hi
   simp only[fwdQ]
   rw[ih (by omega),show int (v ++ [(k:Int)]) i=int v i from getD_app (by omega)]
 rw[e1]
 show sumQ (seenQ m (if v.length=0 then dQ d else stepQ (rowQ m) (fwdQ m (dQ d) (v ++ [(k:Int)]) v.length) _) (int (v ++ [(k:Int)]) v.length)) _=_
 rw[e2 _ (Nat.le_refl _),show int (v ++ [(k:Int)]) v.length=(k:Int) from getD_end]
 unfold markQ goQ
 by_cases g:v.length=0
 . rw[if_pos g,if_pos g]
   have:fwdQ m (dQ d) v v.length=dQ d:=by rw[g];rfl
   rw[this];rfl
 . rw[if_neg g,if_neg g];rfl
theorem next_prod {m:DMo} {d:List (Int×Int)} {v:List Int} {k:Nat} (hk:k<64) (h1:(chanceQ m d v).2.1=0) (h2:(nextQ m d v).2.1=0) (h3:(chanceQ m d (v ++ [(k:Int)])).2.1=0):
 numQ (chanceQ m d v).1*numQ (nth2 ((nextQ m d v).1.getD []) k)=numQ (chanceQ m d (v ++ [(k:Int)])).1:=by
 obtain⟨a1,a2,a3⟩:=q4y h1
 obtain⟨b1,b2,b3⟩:=q4y h3
 have hm:=(askedQ_ok a1).1
 have en:nextQ m d v=givenQ (markQ m (goQ m (lastQ m d v) v.length) (m.getD []).length) 64:=by rw[nextQ,if_pos a1]
 rw[en] at h2 ⊢
 obtain⟨g0,g1,g2⟩:=q4F h2
 rw[a3,b3,(g2 k hk).2,last_app]
 have es:sumQ (markQ m (goQ m (lastQ m d v) v.length) (m.getD []).length) 64=sumQ (lastQ m d v) (m.getD []).length:=by rw[mark_sum hm,go_sum hm]
 rw[es] at g0 ⊢
 rw[Rat.div_def,Rat.mul_comm (markQ _ _ _ _),<-Rat.mul_assoc,Rat.mul_inv_cancel _ g0,Rat.one_mul]
theorem likely_ok {m:DMo} {d:List (Int×Int)} {v:List Int} (h:(likelyQ m d v).2.2.1=0):askedQ m d v=0/\NumOk (likelyQ m d v).2.1/\numQ (likelyQ m d v).2.1=chQ m (dQ d) v v.length/\(likelyQ m d v).1=optL (tab (fun i=>(atQ m (dQ d) v i:Int)) v.length)/\(0<v.length->0<topQ m (dQ d) v 0):=by
 unfold likelyQ at h ⊢
 by_cases g:askedQ m d v=0
 . rw[if_pos g] at h ⊢
   unfold pathQ at h ⊢
   by_cases e:∃ i,i<v.length/\topQ m (dQ d) v i=0
   . rw[if_pos e] at h;exact absurd h (by decide)
   . rw[if_neg e] at h ⊢
     by_cases o:(outQ (chQ m (dQ d) v v.length)).2.1=0
     . rw[if_pos o]
       obtain⟨o1,o2⟩:=q5T o
       refine⟨g,o1,o2,rfl,fun hv=>?_⟩
       have h1:=topQ_nn (m:=m) (x:=dQ d) (view:=v) 0
       have h2:¬ topQ m (dQ d) v 0=0:=fun q=>e ⟨0,hv,q⟩
       grind
     . rw[if_neg o] at h;exact absurd h o
 . rw[if_neg g] at h;exact absurd h g
end Go.Proofs.Pf.B
namespace Go.Proofs.Pf.B
open Go Go.VM
theorem q9T {m:DMo} {x:Nat->Rat} {p q:Nat->Nat}:∀ i,(∀ j,j<=i->p j=q j)->tgQ m x p i=tgQ m x q i
 | 0,h=>by show x (p 0)=x (q 0);rw[h 0 (Nat.le_refl _)]
 | i+1,h=>by
  show tgQ m x p i*rowQ m (p i) (p (i+1))=tgQ m x q i*rowQ m (q i) (q (i+1))
  rw[q9T i fun j hj=>h j (by omega),h i (by omega),h (i+1) (Nat.le_refl _)]
theorem own_path {m:DMo} {x:Nat->Rat} {v:List Int} (h:0<topQ m x v 0) (hv:0<v.length):TgOk m v (tab (fun i=>(atQ m x v i:Int)) v.length)/\tgQ m x (pth (tab (fun i=>(atQ m x v i:Int)) v.length)) (v.length - 1)=topQ m x v 0:=by
 have hp:=at_path h
 have e:∀ i,i<v.length->int (tab (fun i=>(atQ m x v i:Int)) v.length) i=(atQ m x v i:Int):=fun i hi=>tab_get _ _ _ _ hi
 have e2:∀ i,i<v.length->pth (tab (fun i=>(atQ m x v i:Int)) v.length) i=atQ m x v i:=fun i hi=>by unfold pth;rw[e i hi,Int.toNat_natCast]
 refine⟨⟨tab_len _ _,hv,fun i hi=>⟨?_,?_⟩⟩,?_⟩
 . rw[e i hi];have:=hp.lt i hi;exact⟨by omega,by omega⟩
 . rw[e2 i hi];exact hp.mark i hi
 . rw[q9T (q:=atQ m x v) _ fun j hj=>e2 j (by omega),tg_at,show v.length - 1+1=v.length by omega,ch_all h hv]
theorem q9u:callV Pg q0n [⟨tI,(1:Int)⟩] tRR fun z=>RRV z 1:=(q3F (n:=1) (by decide) (by decide)).mono fun _ h=>h
theorem q4J:RFit 3 (1:Rat):=(QB.one 1).fitB
theorem next_giv {m:DMo} {d:List (Int×Int)} {v:List Int} (h:askedQ m d v=0):nextQ m d v=givenQ (markQ m (goQ m (lastQ m d v) v.length) (m.getD []).length) 64:=by rw[nextQ,if_pos h]
theorem now_giv {m:DMo} {d:List (Int×Int)} {v:List Int} (h:askedQ m d v=0):nowQ m d v=givenQ (lastQ m d v) (m.getD []).length:=by rw[nowQ,if_pos h]
set_option maxHeartbeats 8000000 in
theorem s_WatchLaws (m:DMo) (d:Option (List (Int×Int))) (v:DL) (k:Int) (path:DL):callV Pg q3W [⟨tMo,m⟩,⟨(.sl tNum),d⟩,⟨tL,v⟩,⟨tI,k⟩,⟨tL,path⟩] .bool fun r=>r=true:=by
 refine qhD m d v k path ⟨true,rfl⟩ (joinR (fun p=>∃ o:Bool,p=(d,(v,(k,(path,(o,m)))))/\(o=false->(d.getD []).length<=60/\(v.getD []).length<=260)) ?_ ?_)
 case refine_2=>
  intro k0 hk0
  refine (s_few20 m d v).mono fun r hr=>br_c (fun _=>hk0 _ ⟨true,rfl,fun h=>by cases h⟩) fun h=>?_
  have h:r=true:=by cases r;cases h;rfl
  exact hk0 _ ⟨_,rfl,fun _=>hr h⟩
 rintro _ ⟨o,rfl,ho⟩
 dsimp only
 refine br_c (fun _=>q4X) fun g=>?_
 obtain⟨hd,hv⟩:=ho g
 clear ho g
 refine (q64 m d v (by omega) (by omega)).mono ?_
 rintro _ rfl
 refine br_c (fun _=>q4X) fun g=>?_
 have hc:(chanceQ m (d.getD []) (v.getD [])).2.1=0:=not_f g
 clear g
 obtain⟨ha,aok,aeq⟩:=q4y hc
 obtain⟨h1,h2,h3,h4⟩:=askedQ_ok ha
 have hn:=h1.1.2
 have hdn:=h2.2.1
 have hvl:=h3.1
 have hd0:∀ s,s<(m.getD []).length->0<=dQ (d.getD []) s:=fun s hs=>dQ_nn (fun i hi=>(h2.1 i hi).2) s (by omega)
 refine (s_Now m d v (by omega) (by omega)).mono ?_
 rintro _ rfl
 refine (s_Next m d v (by omega) (by omega)).mono ?_
 rintro _ rfl
 have en:=now_giv ha
 have ex:=next_giv ha
 have hnl:(nowQ m (d.getD []) (v.getD [])).2.1=0->((nowQ m (d.getD []) (v.getD [])).1.getD []).length=(m.getD []).length/\(∀ i,i<((nowQ m (d.getD []) (v.getD [])).1.getD []).length->NumOk (nth2 ((nowQ m (d.getD []) (v.getD [])).1.getD []) i))/\sumQ (fun i=>numQ (nth2 ((nowQ m (d.getD []) (v.getD [])).1.getD []) i)) ((nowQ m (d.getD []) (v.getD [])).1.getD []).length=1:=by
  rw[en];intro h
  obtain⟨_,b1,b2⟩:=q4F h
  exact⟨b1,fun i hi=>(b2 i (by omega)).1,q91 h⟩
 have hxl:(nextQ m (d.getD []) (v.getD [])).2.1=0->((nextQ m (d.getD []) (v.getD [])).1.getD []).length=64/\(∀ i,i<((nextQ m (d.getD []) (v.getD [])).1.getD []).length->NumOk (nth2 ((nextQ m (d.getD []) (v.getD [])).1.getD []) i))/\sumQ (fun i=>numQ (nth2 ((nextQ m (d.getD []) (v.getD [])).1.getD []) i)) ((nextQ m (d.getD []) (v.getD [])).1.getD []).length=1:=by
  rw[ex];intro h
  obtain⟨_,b1,b2⟩:=q4F h
  exact⟨b1,fun i hi=>(b2 i (by omega)).1,q91 h⟩
 have h5:decide ((nowQ m (d.getD []) (v.getD [])).2.1=5)=decide ((chanceQ m (d.getD []) (v.getD [])).1.1=0):=by
  refine decide_eq_decide.2 ?_
  rw[en,given_err,<-aeq,<-aok.q.1,Rat.num_eq_zero]
 have hprod:∀ c:Nat,c<64->(nextQ m (d.getD []) (v.getD [])).2.1=0->(chanceQ m (d.getD []) (v.getD [] ++ [(c:Int)])).2.1=0->numQ (chanceQ m (d.getD []) (v.getD [])).1*numQ (nth2 ((nextQ m (d.getD []) (v.getD [])).1.getD []) c)=numQ (chanceQ m (d.getD []) (v.getD [] ++ [(c:Int)])).1:=fun c q1 q2 q3=>next_prod q1 hc q2 q3
 generalize hA:(chanceQ m (d.getD []) (v.getD []))=A at *
 generalize hN:nowQ m (d.getD []) (v.getD [])=N at *
 generalize hX:nextQ m (d.getD []) (v.getD [])=X at *
 refine joinR (fun p=>p=(d,(v,(k,(path,(N.1,(N.2.1,(X.1,(X.2.1,(false,(m,A.1)))))))))))  ?_ ?_
 case refine_2=>
  intro k4 hk4
  have two:brV (decide (X.2.1=0)) (brV (notB (decide (szSl X.1=(64:Int)))) (k4 (d,(v,(k,(path,(N.1,(N.2.1,(X.1,(X.2.1,(true,(m,A.1)))))))))))
   (callV Pg q1l [⟨(.sl tNum),X.1⟩] tRR (fun p8=>(callV Pg q0n [⟨tI,(1:Int)⟩] tRR (fun p9=>(callV Pg q0r [⟨tRR,p8⟩,⟨tRR,p9⟩] tI (fun p10=>k4 (d,(v,(k,(path,(N.1,(N.2.1,(X.1,(X.2.1,((notB (decide (p10=(0:Int)))),(m,A.1)))))))))))))))))
   (k4 (d,(v,(k,(path,(N.1,(N.2.1,(X.1,(X.2.1,(false,(m,A.1))))))))))):=by
   refine br_c (fun g=>?_) fun _=>hk4 _ rfl
   obtain⟨l1,l2,l3⟩:=hxl (dec_t g)
   refine br_f (by rw[show szSl X.1=(64:Int) by show ((X.1.getD []).length:Int)=64;rw[l1];rfl];rfl) ((r_total l2 (by omega)).mono fun t ht=>q9u.mono fun w hw=>?_)
   rw[l3] at ht
   refine (q2E (k:=3) ht hw q4J q4J (by decide)).mono ?_
   rintro _ rfl
   rw[q56 rfl]
   exact hk4 _ rfl
  refine br_c (fun g=>?_) fun _=>two
  obtain⟨l1,l2,l3⟩:=hnl (dec_t g)
  refine (r_total l2 (by omega)).mono fun t ht=>q9u.mono fun w hw=>?_
  rw[l3] at ht
  refine (q2E (k:=3) ht hw q4J q4J (by decide)).mono ?_
  rintro _ rfl
  exact br_f (by rw[q56 rfl];rfl) two
 rintro _ rfl
 refine br_f rfl (br_f ?_ ?_)
 . dsimp only
   rw[h5]
   cases decide (A.1.1=0)<;>rfl
 refine joinR (fun p=>∃ b:Bool,p=(d,(v,(k,(path,(N.1,(N.2.1,(X.1,(b,(m,A.1)))))))))/\(b=true->0<=k/\k<64/\X.2.1=0)) ?_ ?_
 case refine_2=>
  intro k5 hk5
  refine br_c (fun g=>br_c (fun g2=>?_) fun _=>hk5 _ ⟨_,rfl,fun h=>by cases h⟩) fun _=>hk5 _ ⟨_,rfl,fun h=>by cases h⟩
  exact hk5 _ ⟨_,rfl,fun h=>⟨dec_t g,dec_t g2,dec_t h⟩⟩
 rintro _ ⟨b,rfl,hb⟩
 dsimp only
 refine joinR (fun p=>p=(d,(v,(path,(N.1,(N.2.1,(m,A.1))))))) ?_ ?_
 case refine_2=>
  intro k6 hk6
  refine br_c (fun g=>?_) fun _=>hk6 _ rfl
  obtain⟨b1,b2,b3⟩:=hb g
  obtain⟨c,rfl⟩:∃ c:Nat,k=(c:Int):=⟨k.toNat,by omega⟩
  have hc64:c<64:=by omega
  obtain⟨l1,l2,l3⟩:=hxl b3
  have ev:(appL (appL (some []) (lst v)) (lst (some [(c:Int)]))).getD []=v.getD [] ++ [(c:Int)]:=rfl
  have el:(v.getD [] ++ [(c:Int)]).length=(v.getD []).length+1:=by simp
  refine⟨?_,?_,(q64 m d _ (by omega) (by rw[ev,el];omega)).mono ?_⟩
  . show (0+(v.getD []).length)*8<=140737488355328
    omega
  . show ((v.getD []).length+1)*8<=140737488355328
    omega
  rintro _ rfl
  rw[ev]
  have hp:=hprod c hc64 b3
  have hcc:=q4y (m:=m) (d:=d.getD []) (v:=v.getD [] ++ [(c:Int)])
  generalize chanceQ m (d.getD []) (v.getD [] ++ [(c:Int)])=C at *
  refine joinR (fun p=>p=(d,(v,(path,(N.1,(N.2.1,(false,(m,A.1)))))))) ?_ ?_
  . rintro _ rfl
    exact br_f rfl (hk6 _ rfl)
  . intro k8 hk8
    refine br_c (fun g=>?_) fun _=>hk8 _ rfl
    have g:C.2.1=0:=dec_t g
    have cok:=(hcc g).2.1
    have hp:=hp g
    rw[q41]
    have xok:=l2 c (by omega)
    refine (r_To aok).mono fun u hu=>⟨in_s (by omega),(r_To xok).mono fun w hw=>(q9q (k:=10) hu hw ((numQ_qb aok).fitB.mono (by decide)) ((numQ_qb xok).fitB.mono (by decide)) (by decide)).mono fun y hy=>(r_To cok).mono fun z hz=>?_⟩
    rw[hp] at hy
    refine (q2E (k:=10) hy hz ((numQ_qb cok).fitB.mono (by decide)) ((numQ_qb cok).fitB.mono (by decide)) (by decide)).mono ?_
    rintro _ rfl
    rw[q56 rfl]
    exact hk8 _ rfl
 rintro _ rfl
 dsimp only
 have esv:szSl v=((v.getD []).length:Int):=rfl
 refine joinR (fun p=>∃ c:Bool,p=(d,(v,(path,(N.1,(((v.getD []).length:Int),(c,(m,A.1)))))))/\(c=true->0<(v.getD []).length)) ?_ ?_
 case refine_2=>
  intro k7 hk7
  rw[esv]
  refine br_c (fun g=>?_) fun _=>hk7 _ ⟨false,rfl,fun h=>by cases h⟩
  have g:(0:Int)<((v.getD []).length:Int):=dec_t g
  exact hk7 _ ⟨_,rfl,fun _=>by omega⟩
 rintro _ ⟨c,rfl,hcl⟩
 dsimp only
 refine joinR (fun p=>p=(d,(v,(path,(m,A.1))))) ?_ ?_
 case refine_2=>
  intro k8 hk8
  refine br_c (fun g=>?_) fun _=>hk8 _ rfl
  have hv0:=hcl g
  rw[wi64 (by omega) (by omega)]
  refine (s_Then m d v _ (by omega) (by omega)).mono ?_
  rintro _ rfl
  rw[then_last hv0,hN]
  refine joinR (fun p=>p=(d,(v,(path,(false,(m,A.1)))))) ?_ ?_
  . rintro _ rfl
    exact br_f rfl (hk8 _ rfl)
  . intro k10 hk10
    refine br_c (fun g=>?_) fun _=>hk10 _ rfl
    obtain⟨l1,l2,l3⟩:=hnl (dec_t g)
    refine (r_Same N.1 N.1 rfl (by omega)).mono ?_
    rintro _ rfl
    exact hk10 _ rfl
 rintro _ rfl
 dsimp only
 refine (s_Likely m d v (by omega) (by omega)).mono ?_
 rintro _ rfl
 refine br_c (fun _=>q4X) fun g=>?_
 have hL:(likelyQ m (d.getD []) (v.getD [])).2.2.1=0:=not_f g
 clear g
 obtain⟨_,pok,peq,pl,ptop⟩:=likely_ok hL
 generalize likelyQ m (d.getD []) (v.getD [])=L at *
 have pq:=numQ_qb pok
 have aq:=numQ_qb aok
 have hxq:∀ s,s<(m.getD []).length->QB 1 (dQ (d.getD []) s):=fun s hs=>by
  rw[h2.1.dq (by omega)]
  exact numQ_qb (h2.1 s (by omega)).1
 refine (q9s h1 h2 hvl (l:=L.1)).mono fun o ho=>(q9s h1 h2 hvl (l:=path)).mono fun q hq=>?_
 rw[esv]
 have le_k:numQ L.2.1<=numQ A.1->decide ((0:Int)<sgn (numQ L.2.1 - numQ A.1).num)=false:=fun h=>decide_eq_false fun e=>by
  have:=q3I.1 e;grind
 refine joinR (fun p=>p=(v,(q.2.1,(false,(L.2.1,q.1))))) ?_ ?_
 case refine_2=>
  intro k12 hk12
  refine br_c (fun g=>?_) fun g=>?_
  . have hv0:0<(v.getD []).length:=by have g:(0:Int)<((v.getD []).length:Int):=dec_t g;omega
    have hT:=ptop hv0
    obtain⟨o1,o2⟩:=own_path hT hv0
    have eL:L.1.getD []=tab (fun i=>(atQ m (dQ (d.getD [])) (v.getD []) i:Int)) (v.getD []).length:=by rw[pl,q0e]
    rw[eL] at ho
    rcases ho with ⟨n1,_⟩ | ⟨_,z1,z2⟩
    . exact absurd o1 n1
    rw[o2] at z1 z2
    have ec:=ch_all hT hv0
    rw[<-ec,<-peq] at z1
    have ob:o.2.1=true:=z2.2 hT
    have hle:numQ L.2.1<=numQ A.1:=by
     rw[peq,ec,<-o2,aeq]
     exact tg_sum h1 hd0 o1.path (by omega)
    refine br_f (by rw[ob];rfl) ((r_To pok).mono fun u hu=>(q2E (k:=10) z1 hu (pq.fitB.mono (by decide)) (pq.fitB.mono (by decide)) (by decide)).mono ?_)
    rintro _ rfl
    refine br_f (by rw[q56 rfl];rfl) ((r_To pok).mono fun u hu=>(r_To aok).mono fun w hw=>(q2E (k:=10) hu hw (pq.fitB.mono (by decide)) (aq.fitB.mono (by decide)) (by decide)).mono ?_)
    rintro _ rfl
    rw[le_k hle]
    exact hk12 _ rfl
  . have hv0:(v.getD []).length=0:=by have g:¬ (0:Int)<((v.getD []).length:Int):=dec_f g;omega
    have hle:numQ L.2.1<=numQ A.1:=by
     rw[peq,aeq]
     unfold lastQ
     rw[hv0]
     show (1:Rat)<=sumQ (dQ (d.getD [])) _
     rw[<-hdn,h2.2.2]
     exact Rat.le_refl
    refine (r_To pok).mono fun u hu=>(r_To aok).mono fun w hw=>(q2E (k:=10) hu hw (pq.fitB.mono (by decide)) (aq.fitB.mono (by decide)) (by decide)).mono ?_
    rintro _ rfl
    rw[le_k hle]
    exact hk12 _ rfl
 rintro _ rfl
 refine br_f rfl (joinR (fun r=>r=true) (fun _ h=>h) fun k13 hk13=>?_)
 have aw:callV Pg q0F [] .bool fun r=>k13 r:=q4X.mono fun r hr=>hk13 r hr
 refine br_c (fun _=>aw) fun g=>br_c (fun _=>aw) fun g2=>?_
 have qb:q.2.1=true:=by cases hh:q.2.1;rw[hh] at g;cases g;rfl
 rcases hq with ⟨_,e⟩ | ⟨hT,z1,z2⟩
 . rw[e] at qb;cases qb
 have hv0:=hT.pos
 have hle:tgQ m (dQ (d.getD [])) (pth (path.getD [])) ((v.getD []).length - 1)<=numQ L.2.1:=by
  rw[peq,ch_all (ptop hv0) hv0]
  exact tg_best h1 hd0 hT.path (by omega)
 have tq:=tg_qb h1 hxq (view:=v.getD []) (fun i hi=>hT.path.lt i hi) ((v.getD []).length - 1) (by omega)
 refine (r_To pok).mono fun u hu=>(q2E (k:=1000) z1 hu (tq.fitB.mono (by omega)) (pq.fitB.mono (by decide)) (by decide)).mono ?_
 rintro _ rfl
 refine br_t (decide_eq_true ?_) aw
 by_cases e:0<sgn (tgQ m (dQ (d.getD [])) (pth (path.getD [])) ((v.getD []).length - 1) - numQ L.2.1).num
 . have:=q3I.1 e;grind
 . exact Int.not_lt.1 e
end Go.Proofs.Pf.B
