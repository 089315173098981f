/- Typed pure data, a condition on code that says what a call gives, what the code of each function comes to, and what each function gives. -/
import Derived.Test.YtfifpjkegdkdpaaGreatProg
import Derived.Scope
import Derived.Lib.LaidTab
import Derived.Lib.ItoaNum
import Derived.Laws.CopyRow
import Derived.Laws.AppendOwn
import Derived.Laws.MakeOwn
import Derived.Laws.BytesString
import Derived.Laws.StructEq
import Derived.Laws.Small
import Derived.Tactics
import Derived.Calls
import Derived.Below
import Derived.KernelRfl
import Derived.Laws.Cells
import Derived.Test.YtfifpjkegdkdpaaGreatA9
import Derived.Test.YtfifpjkegdkdpaaGreatA12
import Derived.Test.YtfifpjkegdkdpaaGreatA13
set_option linter.unusedVariables false
set_option linter.unusedSimpArgs false
set_option linter.unnecessarySimpa false
namespace Go.Proofs.Pf.B
open Go Go.VM
theorem moOk.rownn {m:DMo} (h:moOk m) {s:Nat} (hs:s<(m.getD []).length) (t:Nat):0<=rowQ m s t:=by
 obtain⟨h1,h2⟩:=h.2 s hs
 have h3:=h2 0 (by have:=h1.2.2.1;omega)
 have key:∀ k,k<=(bs_ m s).length->0<=brQ (bs_ m s) k t:=by
  intro k
  induction k with
  | zero=>intro _;exact Rat.le_refl
  | succ k ih=>
   intro hk
   simp only[brQ]
   split
   . have h4:=h3.2.2.1 k hk
     have hok:NumOk (br (bs_ m s) k).2:=((h.bs hs).2.2 k (by omega)).2.2
     have hp:0<(br (bs_ m s) k).2.1:=h4.2.2.2
     have hn:0<=(numQ (br (bs_ m s) k).2).num:=by rw[hok.q.1];omega
     exact Rat.num_nonneg.1 hn
   . exact ih (by omega)
 exact key _ (Nat.le_refl _)
theorem sum_nn {f:Nat->Rat}:∀ n,(∀ i,i<n->0<=f i)->0<=sumQ f n
 | 0,_=>Rat.le_refl
 | n+1,h=>by
  have h1:=sum_nn n fun i hi=>h i (by omega)
  have h2:=h n (by omega)
  simp only[sumQ]
  grind
theorem sum_nn0 {f:Nat->Rat}:∀ n,(∀ i,i<n->0<=f i)->sumQ f n=0->∀ i,i<n->f i=0
 | 0,_,_,i,hi=>absurd hi (by omega)
 | n+1,h,h0,i,hi=>by
  have h1:=sum_nn n fun i hi=>h i (by omega)
  have h2:=h n (by omega)
  have h0:sumQ f n+f n=0:=h0
  by_cases e:i=n
  . subst e;grind
  . exact sum_nn0 n (fun i hi=>h i (by omega)) (by grind) i (by omega)
theorem q4Y {m:DMo} {y:Nat->Rat} {k:Int} {s:Nat} (h:0<=y s):0<=seenQ m y k s:=by
 unfold seenQ;split
 . exact h
 . exact Rat.le_refl
theorem stp_nn {m:DMo} (hm:moOk m) {y:Nat->Rat} (hy:∀ s,s<(m.getD []).length->0<=y s) (k:Int) (s:Nat):0<=stp m y k s:=
 q4Y (sum_nn _ fun i hi=>Rat.mul_nonneg (hy i hi) (hm.rownn hi s))
theorem fold_nn {m:DMo} (hm:moOk m):∀ (v:List Int) {y:Nat->Rat},(∀ s,s<(m.getD []).length->0<=y s)->∀ s,s<(m.getD []).length->0<=v.foldl (stp m) y s
 | [],_,h,s,hs=>h s hs
 | k :: v,_,h,s,hs=>fold_nn hm v (fun t _=>stp_nn hm h k t) s hs
theorem dv_nn {m:DMo} (hm:moOk m) {x:Nat->Rat} (hx:∀ s,s<(m.getD []).length->0<=x s) (w:List Int):∀ s,s<(m.getD []).length->0<=dv m x w s:=by
 cases w with
 | nil=>exact hx
 | cons k v=>exact fold_nn hm v fun s hs=>q4Y (hx s hs)
theorem ptQ_nn (s i:Nat):0<=ptQ s i:=by unfold ptQ;split;exact (by decide +kernel);exact Rat.le_refl
def wQ (m:DMo) (s:Nat) (w:List Int):Rat:=sumQ (dv m (ptQ s) w) (m.getD []).length
theorem wQ_ext {m:DMo} (hm:moOk m) {s:Nat} {p:List Int} (hp:p≠[]) (h0:wQ m s p=0) (v:List Int):wQ m s (p ++ v)=0:=by
 have hz:=sum_nn0 _ (dv_nn hm (fun i _=>ptQ_nn s i) p) h0
 unfold wQ
 rw[q4D hp,q06 _ (fold_congr (m:=m) (z:=fun _=>0) hz v)]
 have z:∀ v:List Int,v.foldl (stp m) (fun _=>0)=fun _=>0:=by
  intro v
  induction v with
  | nil=>rfl
  | cons k v ih=>show v.foldl (stp m) (stp m _ k)=_;rw[q6V,ih]
 rw[z];exact q1I _
theorem wQ_diff (m:DMo) (s t:Nat) (w:List Int):sumQ (dv m (prQ s t) w) (m.getD []).length=wQ m s w - wQ m t w:=by
 unfold prQ
 rw[dv_lin,q1m,q0A,Rat.mul_neg,Rat.mul_one,<-Rat.sub_eq_add_neg];rfl
theorem q5h {m:DMo} {s t:Nat} {w:List Int}:Dist m (prQ s t) w↔mks w/\wQ m s w≠wQ m t w:=by
 unfold Dist
 rw[wQ_diff]
 constructor
 . rintro⟨h1,h2⟩;exact⟨h1,fun e=>h2 (by rw[e,Rat.sub_self])⟩
 . rintro⟨h1,h2⟩;exact⟨h1,fun e=>h2 (by grind)⟩
def Lc:Nat->Nat
 | 0=>0
 | n+1=>64*Lc n+1
theorem Lc_mono:∀ {a b:Nat},a<=b->Lc a<=Lc b:=by
 intro a b h
 induction b with
 | zero=>have:a=0:=by omega
         subst this;exact Nat.le_refl _
 | succ b ih=>
  by_cases e:a=b+1
  . subst e;exact Nat.le_refl _
  . have:=ih (by omega);simp only[Lc];omega
theorem code_len:∀ (n:Nat) {w:List Int},w.length=n->mks w->Lc n<=code w/\code w<Lc (n+1)
 | 0,w,hn,_=>by
  have hw:w=[]:=List.eq_nil_of_length_eq_zero hn
  subst hw
  exact⟨Nat.le_refl _,by decide⟩
 | n+1,w,hn,hw=>by
  rcases List.eq_nil_or_concat w with e | ⟨v,k,e⟩
  . subst e;cases hn
  rw[List.concat_eq_append] at e
  subst e
  obtain⟨h1,h2⟩:=code_len n (w:=v) (by simpa using hn) fun a ha=>hw a (by simp[ha])
  obtain⟨m1,m2⟩:=hw k (by simp)
  rw[q0o]
  simp only[Lc] at *
  omega
theorem code_longer {u w:List Int} (hu:mks u) (hw:mks w) (h:u.length<w.length):code u<code w:=by
 have h1:=(code_len _ rfl hu).2
 have h2:=(code_len _ rfl hw).1
 have:=Lc_mono (show u.length+1<=w.length by omega)
 omega
structure Lv (m:DMo) (s t i:Nat) (W:List (List Int)):Prop where
 len:∀ w,w∈W->w.length=i/\mks w
 inc:W.Pairwise fun w u=>code w<code u
 cov:∀ p,mks p->p.length=i->p∈W∨(p≠[]/\wQ m s p=0/\wQ m t p=0)
 no:∀ u,mks u->u.length<=i->wQ m s u=wQ m t u
 cnt:W.length<=64 ^ i
theorem Lv.start {m:DMo} {s t:Nat} (hs:s<(m.getD []).length) (ht:t<(m.getD []).length):Lv m s t 0 [[]]:=by
 refine⟨fun w hw=>?_,List.pairwise_singleton _ _,fun p _ hp=>?_,fun u _ hu=>?_,by simp⟩
 . have:w=[]:=by simpa using hw
   subst this;exact⟨rfl,fun a ha=>by cases ha⟩
 . have:p=[]:=List.eq_nil_of_length_eq_zero hp
   subst this;exact .inl (by simp)
 . have:u=[]:=List.eq_nil_of_length_eq_zero (by omega)
   subst this
   show sumQ (ptQ s) _=sumQ (ptQ t) _
   have h:∀ a,a<(m.getD []).length->sumQ (ptQ a) (m.getD []).length=1:=fun a ha=>q30 1 _ ha
   rw[h s hs,h t ht]
structure LvI (m:DMo) (s t i:Nat) (W M:List (List Int)) (a k:Nat):Prop where
 len:∀ w,w∈M->w.length=i+1/\mks w
 inc:M.Pairwise fun w u=>code w<code u
 lt:∀ w,w∈M->∃ a' k',a'<W.length/\k'<64/\(a'<a∨(a'=a/\k'<k))/\w=W.getD a' [] ++ [(k':Int)]
 seen:∀ a' k',a'<W.length->k'<64->(a'<a∨(a'=a/\k'<k))->wQ m s (W.getD a' [] ++ [(k':Int)])=wQ m t (W.getD a' [] ++ [(k':Int)])/\(0<wQ m s (W.getD a' [] ++ [(k':Int)])->W.getD a' [] ++ [(k':Int)]∈M)
 cnt:M.length<=64*a+k
theorem LvI.start (m:DMo) (s t i:Nat) (W:List (List Int)):LvI m s t i W [] 0 0:=
 ⟨fun w hw=>(by cases hw),List.Pairwise.nil,fun w hw=>(by cases hw),fun a' k' _ _ h=>by omega,by simp⟩
theorem LvI.word {m:DMo} {s t i:Nat} {W M:List (List Int)} {a k:Nat} (h:LvI m s t i W M a k) (hk:k=64):LvI m s t i W M (a+1) 0:=by
 subst hk
 refine⟨h.len,h.inc,fun w hw=>?_,fun a' k' h1 h2 h3=>h.seen a' k' h1 h2 (by omega),by have:=h.cnt;omega⟩
 obtain⟨a',k',h1,h2,h3,e⟩:=h.lt w hw
 exact⟨a',k',h1,h2,by omega,e⟩
theorem wcode {W:List (List Int)} (hi:W.Pairwise fun w u=>code w<code u) {a b:Nat} (h:a<b) (hb:b<W.length):code (W.getD a [])<code (W.getD b []):=by
 have:=List.pairwise_iff_getElem.1 hi a b (by omega) hb h
 simp only[List.getD_eq_getElem?_getD,List.getElem?_eq_getElem hb,List.getElem?_eq_getElem (show a<W.length by omega),Option.getD_some]
 exact this
theorem wlt {W:List (List Int)} (hi:W.Pairwise fun w u=>code w<code u) {a a' k k':Nat} (ha:a<W.length) (hk':k'<64) (h:a'<a∨(a'=a/\k'<k)):code (W.getD a' [] ++ [(k':Int)])<code (W.getD a [] ++ [(k:Int)]):=by
 rw[q0o,q0o,Int.toNat_natCast,Int.toNat_natCast]
 rcases h with h | ⟨rfl,h⟩
 . have:=wcode hi h ha
   omega
 . omega
theorem LvI.next {m:DMo} {s t i:Nat} {W M:List (List Int)} {a k:Nat} (hm:moOk m) (hW:Lv m s t i W) (h:LvI m s t i W M a k) (ha:a<W.length) (hk:k<64) (he:wQ m s (W.getD a [] ++ [(k:Int)])=wQ m t (W.getD a [] ++ [(k:Int)])):
 LvI m s t i W (if 0<wQ m s (W.getD a [] ++ [(k:Int)]) then M ++ [W.getD a [] ++ [(k:Int)]] else M) a (k+1):=by
 have hmem:W.getD a []∈W:=mem_of_getD ha
 obtain⟨hl,hmk⟩:=hW.len _ hmem
 split
 . rename_i hp
   refine⟨fun w hw=>?_,?_,fun w hw=>?_,fun a' k' h1 h2 h3=>?_,by rw[List.length_append];have:=h.cnt;show M.length+1<=_;omega⟩
   . rcases List.mem_append.1 hw with hw | hw
     . exact h.len w hw
     . have:w=W.getD a [] ++ [(k:Int)]:=by simpa using hw
       subst this
       refine⟨by rw[List.length_append,hl];rfl,fun b hb=>?_⟩
       rcases List.mem_append.1 hb with hb | hb
       . exact hmk b hb
       . have:b=(k:Int):=by simpa using hb
         subst this;exact⟨by omega,by omega⟩
   . refine List.pairwise_append.2 ⟨h.inc,List.pairwise_singleton _ _,fun w hw u hu=>?_⟩
     have:u=W.getD a [] ++ [(k:Int)]:=by simpa using hu
     subst this
     obtain⟨a',k',h1,h2,h3,rfl⟩:=h.lt w hw
     exact wlt hW.inc ha h2 h3
   . rcases List.mem_append.1 hw with hw | hw
     . obtain⟨a',k',h1,h2,h3,e⟩:=h.lt w hw
       exact⟨a',k',h1,h2,by omega,e⟩
     . have:w=W.getD a [] ++ [(k:Int)]:=by simpa using hw
       exact⟨a,k,ha,hk,by omega,this⟩
   . by_cases g:a'=a/\k'=k
     . obtain⟨rfl,rfl⟩:=g
       exact⟨he,fun _=>by simp⟩
     . obtain⟨q1,q2⟩:=h.seen a' k' h1 h2 (by omega)
       exact⟨q1,fun q=>List.mem_append.2 (.inl (q2 q))⟩
 . rename_i hp
   refine⟨h.len,h.inc,fun w hw=>?_,fun a' k' h1 h2 h3=>?_,by have:=h.cnt;omega⟩
   . obtain⟨a',k',h1,h2,h3,e⟩:=h.lt w hw
     exact⟨a',k',h1,h2,by omega,e⟩
   . by_cases g:a'=a/\k'=k
     . obtain⟨rfl,rfl⟩:=g
       exact⟨he,fun q=>absurd q hp⟩
     . exact h.seen a' k' h1 h2 (by omega)
theorem Lv.split {m:DMo} {s t i:Nat} {W:List (List Int)} (hm:moOk m) (h:Lv m s t i W) {u:List Int} (hu:mks u) (hl:u.length=i+1):(∃ a k:Nat,a<W.length/\k<64/\u=W.getD a [] ++ [(k:Int)])∨(wQ m s u=0/\wQ m t u=0):=by
 rcases List.eq_nil_or_concat u with e | ⟨p,b,e⟩
 . subst e;cases hl
 rw[List.concat_eq_append] at e
 subst e
 have hp:mks p:=fun a ha=>hu a (by simp[ha])
 obtain⟨b1,b2⟩:=hu b (by simp)
 rcases h.cov p hp (by simpa using hl) with g | ⟨g0,g1,g2⟩
 . obtain⟨a,ha,e⟩:=q6p (d:=[]) g
   exact .inl ⟨a,b.toNat,ha,by omega,by rw[e,show ((b.toNat:Nat):Int)=b by omega]⟩
 . exact .inr ⟨wQ_ext hm g0 g1 [b],wQ_ext hm g0 g2 [b]⟩
theorem LvI.hit {m:DMo} {s t i:Nat} {W M:List (List Int)} {a k:Nat} (hm:moOk m) (hW:Lv m s t i W) (h:LvI m s t i W M a k) (ha:a<W.length) (hk:k<64) (he:wQ m s (W.getD a [] ++ [(k:Int)])≠wQ m t (W.getD a [] ++ [(k:Int)])):
 q09 m (prQ s t) (W.getD a [] ++ [(k:Int)]):=by
 obtain⟨hl,hmk⟩:=hW.len _ (mem_of_getD (d:=[]) ha)
 have hw:mks (W.getD a [] ++ [(k:Int)]):=fun b hb=>by
  rcases List.mem_append.1 hb with hb | hb
  . exact hmk b hb
  . have:b=(k:Int):=by simpa using hb
    subst this;exact⟨by omega,by omega⟩
 have hwl:(W.getD a [] ++ [(k:Int)]).length=i+1:=by rw[List.length_append,hl];rfl
 refine⟨q5h.2 ⟨hw,he⟩,fun u hu=>?_⟩
 obtain⟨u1,u2⟩:=q5h.1 hu
 rcases Nat.lt_trichotomy u.length (i+1) with g | g | g
 . exact absurd (hW.no u u1 (by omega)) u2
 . rcases hW.split hm u1 g with ⟨a',k',h1,h2,rfl⟩ | ⟨g1,g2⟩
   . by_cases q:a'<a∨(a'=a/\k'<k)
     . exact absurd (h.seen a' k' h1 h2 q).1 u2
     . by_cases q2:a'=a/\k'=k
       . obtain⟨rfl,rfl⟩:=q2;exact Nat.le_refl _
       . exact Nat.le_of_lt (wlt hW.inc h1 hk (by omega))
   . exact absurd (g1.trans g2.symm) u2
 . exact Nat.le_of_lt (code_longer hw u1 (by omega))
theorem Lv.none {m:DMo} {s t:Nat} {W:List (List Int)} (h:Lv m s t (m.getD []).length W) (hs:s<(m.getD []).length) (ht:t<(m.getD []).length) (w:List Int):¬ Dist m (prQ s t) w:=fun hw=>by
 obtain⟨u,hu⟩:=q09.ex ⟨w,hw⟩
 have hl:=hu.len (prQ_sum hs ht) (by omega)
 obtain⟨u1,u2⟩:=q5h.1 hu.1
 exact u2 (h.no u u1 hl)
end Go.Proofs.Pf.B
namespace Go.Proofs.Pf.B
open Go Go.VM
theorem maxQ_nn {f:Nat->Rat}:∀ n,0<=maxQ f n
 | 0=>Rat.le_refl
 | n+1=>by
  have:=maxQ_nn (f:=f) n
  simp only[maxQ]
  split
  . grind
  . exact this
theorem q5n {f:Nat->Rat}:∀ n j,j<n->f j<=maxQ f n
 | n+1,j,h=>by
  simp only[maxQ]
  by_cases e:j=n
  . subst e
    split
    . exact Rat.le_refl
    . grind
  . have:=q5n (f:=f) n j (by omega)
    split
    . grind
    . exact this
theorem q5a {f:Nat->Rat}:∀ n,0<maxQ f n->argQ f n<n/\f (argQ f n)=maxQ f n/\∀ j,j<argQ f n->f j<maxQ f n
 | 0,h=>by
  have h:(0:Rat)<0:=h
  exact absurd h (by grind)
 | n+1,h=>by
  simp only[maxQ,argQ] at *
  by_cases g:maxQ f n<f n
  . rw[if_pos g,if_pos g]
    exact⟨by omega,rfl,fun j hj=>by have:=q5n (f:=f) n j hj;grind⟩
  . rw[if_neg g] at h
    rw[if_neg g,if_neg g]
    obtain⟨h1,h2,h3⟩:=q5a n h
    exact⟨by omega,h2,h3⟩
theorem argQ_uniq {f:Nat->Rat} {n k:Nat} (h0:0<maxQ f n) (hk:k<n) (h1:f k=maxQ f n) (h2:∀ j,j<k->f j<maxQ f n):argQ f n=k:=by
 obtain⟨g1,g2,g3⟩:=q5a n h0
 rcases Nat.lt_trichotomy (argQ f n) k with q | q | q
 . have:=h2 _ q;grind
 . exact q
 . have:=g3 _ q;grind
theorem q7b {m:DMo} {view:List Int}:∀ d s,0<=bestR m view d s
 | 0,s=>q4Y (by decide +kernel)
 | d+1,s=>q4Y (maxQ_nn _)
theorem q5X {m:DMo} {view:List Int} {i:Nat} (h:i+1<view.length):bestQ m view i=seenQ m (fun s=>maxQ (fun t=>rowQ m s t*bestQ m view (i+1) t) (m.getD []).length) (int view i):=by
 unfold bestQ
 obtain⟨d,hd⟩:∃ d,view.length - 1 - i=d+1:=⟨view.length - 1 - i - 1,by omega⟩
 rw[hd,show view.length - 1 - (i+1)=d by omega]
 show seenQ m _ (int view (view.length - 1 - (d+1)))=_
 rw[show view.length - 1 - (d+1)=i by omega]
theorem q5W {m:DMo} {view:List Int} {i:Nat} (h:i+1=view.length):bestQ m view i=seenQ m (fun _=>1) (int view i):=by
 unfold bestQ
 rw[show view.length - 1 - i=0 by omega]
 show seenQ m _ (int view (view.length - 1))=_
 rw[show view.length - 1=i by omega]
theorem q6X {m:DMo} {x:Nat->Rat} {view:List Int} (i:Nat):0<=topQ m x view i:=maxQ_nn _
theorem top_at {m:DMo} {x:Nat->Rat} {view:List Int} {i:Nat} (h:0<topQ m x view i):atQ m x view i<(m.getD []).length/\frQ m x view i (atQ m x view i)*bestQ m view i (atQ m x view i)=topQ m x view i/\0<bestQ m view i (atQ m x view i):=by
 obtain⟨h1,h2,_⟩:=q5a _ h
 refine⟨h1,h2,?_⟩
 have h3:0<=bestQ m view i (atQ m x view i):=q7b _ _
 have h4:frQ m x view i (atQ m x view i)*bestQ m view i (atQ m x view i)=topQ m x view i:=h2
 by_cases e:bestQ m view i (atQ m x view i)=0
 . rw[e,Rat.mul_zero] at h4
   rw[<-h4] at h
   exact absurd h (by grind)
 . grind
theorem q6Y {m:DMo} {x:Nat->Rat} {view:List Int} {i:Nat} (hi:i+1<view.length) (h:0<topQ m x view i):topQ m x view (i+1)=bestQ m view i (atQ m x view i):=by
 obtain⟨_,_,h3⟩:=top_at h
 rw[q5X hi] at h3 ⊢
 unfold seenQ at h3 ⊢
 split at h3
 . rename_i g;rw[if_pos g];rfl
 . exact absurd h3 (by grind)
theorem q50 {m:DMo} {x:Nat->Rat} {view:List Int} (h:0<topQ m x view 0):∀ i,i<view.length->0<topQ m x view i
 | 0,_=>h
 | i+1,hi=>by
  have ih:=q50 h i (by omega)
  rw[q6Y hi ih]
  exact (top_at ih).2.2
theorem top_none {m:DMo} {x:Nat->Rat} {view:List Int} (hv:0<view.length):(∃ i,i<view.length/\topQ m x view i=0)↔topQ m x view 0=0:=by
 constructor
 . rintro⟨i,hi,e⟩
   by_cases g:topQ m x view 0=0
   . exact g
   . have h0:0<topQ m x view 0:=by have:=q6X (m:=m) (x:=x) (view:=view) 0;grind
     have:=q50 h0 i hi
     rw[e] at this
     exact absurd this (by grind)
 . exact fun e=>⟨0,hv,e⟩
theorem ch_top {m:DMo} {x:Nat->Rat} {view:List Int} (h:0<topQ m x view 0):∀ i,i<view.length->chQ m x view i*topQ m x view i=topQ m x view 0
 | 0,_=>Rat.one_mul _
 | i+1,hi=>by
  have ih:=ch_top h i (by omega)
  have hp:=q50 h i (by omega)
  rw[q6Y hi hp]
  show chQ m x view i*frQ m x view i (atQ m x view i)*_=_
  rw[Rat.mul_assoc,(top_at hp).2.1,ih]
theorem ch_all {m:DMo} {x:Nat->Rat} {view:List Int} (h:0<topQ m x view 0) (hv:0<view.length):chQ m x view view.length=topQ m x view 0:=by
 obtain⟨l,hl⟩:∃ l,view.length=l+1:=⟨view.length - 1,by omega⟩
 have hp:=q50 h l (by omega)
 rw[<-ch_top h l (by omega),hl]
 show chQ m x view l*frQ m x view l (atQ m x view l)=_
 rw[<- (top_at hp).2.1]
 have h3:=(top_at hp).2.2
 have e:bestQ m view l (atQ m x view l)=1:=by
  rw[q5W hl.symm] at h3 ⊢
  unfold seenQ at h3 ⊢
  split at h3
  . rename_i g;rw[if_pos g]
  . exact absurd h3 (by grind)
 rw[e,Rat.mul_one]
theorem moOk.to_lt {m:DMo} (h:moOk m) {s:Nat} (hs:s<(m.getD []).length):∀ k j,j<k->k<(bs_ m s).length->(br (bs_ m s) j).1<(br (bs_ m s) k).1:=by
 obtain⟨h1,h2⟩:=h.2 s hs
 have h3:=(h2 0 (by have:=h1.2.2.1;omega)).2.2.1
 intro k
 induction k with
 | zero=>intro j hj;omega
 | succ k ih=>
  intro j hj hk
  have h4:(br (bs_ m s) k).1<(br (bs_ m s) (k+1)).1:=(h3 (k+1) hk).1
  by_cases e:j=k
  . subst e;exact h4
  . have:=ih j (by omega) (by omega);omega
theorem brQ_at {m:DMo} (h:moOk m) {s:Nat} (hs:s<(m.getD []).length) {j t:Nat} (hj:j<(bs_ m s).length) (ht:(br (bs_ m s) j).1=(t:Int)):rowQ m s t=numQ (br (bs_ m s) j).2:=by
 have key:∀ k,j<k->k<=(bs_ m s).length->brQ (bs_ m s) k t=numQ (br (bs_ m s) j).2:=by
  intro k
  induction k with
  | zero=>intro h;omega
  | succ k ih=>
   intro hjk hk
   simp only[brQ]
   by_cases e:k=j
   . subst e;rw[if_pos ht]
   . have:=h.to_lt hs k j (by omega) (by omega)
     rw[if_neg (by omega)]
     exact ih (by omega) (by omega)
 exact key _ hj (Nat.le_refl _)
theorem brQ_no {l:List DBr} {t:Nat}:∀ k,(∀ j,j<k->(br l j).1≠(t:Int))->brQ l k t=0
 | 0,_=>rfl
 | k+1,h=>by
  simp only[brQ]
  rw[if_neg (h k (by omega))]
  exact brQ_no k fun j hj=>h j (by omega)
theorem row_cases {m:DMo} (h:moOk m) {s:Nat} (hs:s<(m.getD []).length) (t:Nat):rowQ m s t=0∨∃ j,j<(bs_ m s).length/\(br (bs_ m s) j).1=(t:Int)/\rowQ m s t=numQ (br (bs_ m s) j).2:=by
 by_cases g:∃ j,j<(bs_ m s).length/\(br (bs_ m s) j).1=(t:Int)
 . obtain⟨j,h1,h2⟩:=g
   exact .inr ⟨j,h1,h2,brQ_at h hs h1 h2⟩
 . exact .inl (brQ_no _ fun j hj e=>g ⟨j,hj,e⟩)
theorem qgA {m:DMo} (h:moOk m) {s:Nat} (hs:s<(m.getD []).length) {f:Nat->Rat} (hf:∀ t,0<=f t) {j:Nat} (hj:j<(bs_ m s).length)
 (h0:0<maxQ (fun t=>rowQ m s t*f t) (m.getD []).length)
 (h1:numQ (br (bs_ m s) j).2*f (br (bs_ m s) j).1.toNat=maxQ (fun t=>rowQ m s t*f t) (m.getD []).length)
 (h2:∀ i,i<j->numQ (br (bs_ m s) i).2*f (br (bs_ m s) i).1.toNat≠maxQ (fun t=>rowQ m s t*f t) (m.getD []).length):
 (argQ (fun t=>rowQ m s t*f t) (m.getD []).length:Int)=(br (bs_ m s) j).1:=by
 obtain⟨_,_,hb⟩:=h.bs hs
 obtain⟨b1,b2,_⟩:=hb j hj
 have e:argQ (fun t=>rowQ m s t*f t) (m.getD []).length=(br (bs_ m s) j).1.toNat:=by
  refine argQ_uniq h0 (by omega) ?_ fun t ht=>?_
  . show rowQ m s _*f _=_
    rw[brQ_at h hs hj (by omega)];exact h1
  . have hle:=q5n (f:=fun t=>rowQ m s t*f t) (m.getD []).length t (by omega)
    rcases row_cases h hs t with g | ⟨i,g1,g2,g3⟩
    . show rowQ m s t*f t<_
      rw[g,Rat.zero_mul];exact h0
    . have hij:i<j:=by
       rcases Nat.lt_trichotomy i j with q | q | q
       . exact q
       . subst q;omega
       . have:=h.to_lt hs i j q g1;omega
      have hne:=h2 i hij
      rw[g2,Int.toNat_natCast,<-g3] at hne
      have hle:rowQ m s t*f t<=maxQ (fun t=>rowQ m s t*f t) (m.getD []).length:=hle
      show rowQ m s t*f t<_
      grind
 rw[e];omega
theorem qaZ {m:DMo} (h:moOk m) {s:Nat} (hs:s<(m.getD []).length) {f:Nat->Rat} (h0:0<maxQ (fun t=>rowQ m s t*f t) (m.getD []).length):
 ∃ j,j<(bs_ m s).length/\numQ (br (bs_ m s) j).2*f (br (bs_ m s) j).1.toNat=maxQ (fun t=>rowQ m s t*f t) (m.getD []).length:=by
 obtain⟨h1,h2,_⟩:=q5a _ h0
 generalize argQ (fun t=>rowQ m s t*f t) (m.getD []).length=t at *
 have h2:rowQ m s t*f t=_:=h2
 rcases row_cases h hs t with g | ⟨j,g1,g2,g3⟩
 . rw[g,Rat.zero_mul] at h2
   rw[<-h2] at h0
   exact absurd h0 (by grind)
 . exact⟨j,g1,by rw[g2,Int.toNat_natCast,<-g3];exact h2⟩
def mxB (l:List DBr) (f:Nat->Rat):Nat->Rat
 | 0=>0
 | j+1=>if mxB l f j<numQ (br l j).2*f (br l j).1.toNat then numQ (br l j).2*f (br l j).1.toNat else mxB l f j
theorem mxB_nn {l:List DBr} {f:Nat->Rat}:∀ k,0<=mxB l f k
 | 0=>Rat.le_refl
 | k+1=>by
  have:=mxB_nn (l:=l) (f:=f) k
  simp only[mxB]
  split
  . grind
  . exact this
theorem mxB_ge {l:List DBr} {f:Nat->Rat}:∀ k j,j<k->numQ (br l j).2*f (br l j).1.toNat<=mxB l f k
 | k+1,j,h=>by
  simp only[mxB]
  by_cases e:j=k
  . subst e
    split
    . exact Rat.le_refl
    . grind
  . have:=mxB_ge (l:=l) (f:=f) k j (by omega)
    split
    . grind
    . exact this
theorem mxB_le {l:List DBr} {f:Nat->Rat} {c:Rat} (hc:0<=c):∀ k,(∀ j,j<k->numQ (br l j).2*f (br l j).1.toNat<=c)->mxB l f k<=c
 | 0,_=>hc
 | k+1,h=>by
  simp only[mxB]
  split
  . exact h k (by omega)
  . exact mxB_le hc k fun j hj=>h j (by omega)
theorem mxB_max {m:DMo} (h:moOk m) {s:Nat} (hs:s<(m.getD []).length) (f:Nat->Rat):mxB (bs_ m s) f (bs_ m s).length=maxQ (fun t=>rowQ m s t*f t) (m.getD []).length:=by
 obtain⟨_,_,hb⟩:=h.bs hs
 have h1:mxB (bs_ m s) f (bs_ m s).length<=maxQ (fun t=>rowQ m s t*f t) (m.getD []).length:=mxB_le (maxQ_nn _) _ fun j hj=>by
  obtain⟨b1,b2,_⟩:=hb j hj
  rw[<-brQ_at h hs (t:=(br (bs_ m s) j).1.toNat) hj (by omega)]
  exact q5n (f:=fun t=>rowQ m s t*f t) _ _ (by omega)
 have h2:maxQ (fun t=>rowQ m s t*f t) (m.getD []).length<=mxB (bs_ m s) f (bs_ m s).length:=by
  by_cases g:0<maxQ (fun t=>rowQ m s t*f t) (m.getD []).length
  . obtain⟨j,h3,h4⟩:=qaZ h hs g
    rw[<-h4];exact mxB_ge _ j h3
  . have:=mxB_nn (l:=bs_ m s) (f:=f) (bs_ m s).length
    grind
 grind
end Go.Proofs.Pf.B
namespace Go.Proofs.Pf.B
open Go Go.VM
abbrev DP:=DL×((Option (List DRR))×(Option (List DRR)))
abbrev dp0:DP:=(none,(none,none))
def RP (m:DMo) (s t:Nat) (l:Option (List DP)) (W:List (List Int)):Prop:=(l.getD []).length=W.length/\∀ i,i<W.length->((l.getD []).getD i dp0).1=optL (W.getD i [])/\TL ((l.getD []).getD i dp0).2.1 (dv m (ptQ s) (W.getD i [])) (m.getD []).length/\TL ((l.getD []).getD i dp0).2.2 (dv m (ptQ t) (W.getD i [])) (m.getD []).length
theorem RP.app {m:DMo} {s t:Nat} {l:Option (List DP)} {W:List (List Int)} {w:List Int} {z:DP} (h:RP m s t l W) (h1:z.1=optL w) (h2:TL z.2.1 (dv m (ptQ s) w) (m.getD []).length) (h3:TL z.2.2 (dv m (ptQ t) w) (m.getD []).length):RP m s t (appL l [z]) (W ++ [w]):=by
 obtain⟨g1,g2⟩:=h
 have e:(appL l [z]).getD []=l.getD [] ++ [z]:=by cases l<;>rfl
 refine⟨by rw[e,List.length_append,List.length_append,g1];rfl,fun i hi=>?_⟩
 rw[e]
 rcases Nat.lt_or_ge i W.length with hlt | hge
 . rw[List.getD_eq_getElem?_getD,List.getElem?_append_left (by omega),<-List.getD_eq_getElem?_getD]
   rw[List.getD_eq_getElem?_getD (l:=W ++ [w]),List.getElem?_append_left hlt,<-List.getD_eq_getElem?_getD]
   exact g2 i hlt
 . have hi:i<W.length+1:=by simpa using hi
   obtain rfl:i=W.length:=by omega
   rw[List.getD_eq_getElem?_getD,List.getElem?_append_right (by omega),g1,Nat.sub_self]
   rw[List.getD_eq_getElem?_getD (l:=W ++ [w]),List.getElem?_append_right (by omega),Nat.sub_self]
   exact⟨h1,h2,h3⟩
def refAp (m:DMo) (s t:Nat) (r:DL×(Bool×Unit)):Prop:=(∃ w,q09 m (prQ s t) w/\r=(some w,(true,())))∨((∀ w,¬ Dist m (prQ s t) w)/\r=(none,(false,())))
theorem refAp.ex (m:DMo) (s t:Nat):∃ r,refAp m s t r:=by
 by_cases h:∃ w,Dist m (prQ s t) w
 . obtain⟨w,hw⟩:=q09.ex h
   exact⟨_,.inl ⟨w,hw,rfl⟩⟩
 . exact⟨_,.inr ⟨fun w hw=>h ⟨w,hw⟩,rfl⟩⟩
end Go.Proofs.Pf.B
namespace Go.Proofs.Pf.B
open Go Go.VM
def bkQ (P:Mat) (x:Nat->Rat) (b s:Nat):Rat:=sumQ (fun t=>x t*P s t) b
theorem FB.bstep {n a b c:Nat} {x:Nat->Rat} {P:Mat} (h:FB n a x) (g:MB n b P) (hn:n<=KK) (hc:c<=n):FB n (a+b+1) (bkQ P x c):=by
 obtain⟨D,h1,h2,h3⟩:=h
 obtain⟨E,g1,g2,g3⟩:=g
 refine⟨D*E,Nat.mul_pos h1 g1,Nat.le_trans (kk_mul h2 g2) (kk_le (by omega)),fun s hs=>?_⟩
 refine (QD.sum c fun t ht=>(h3 t (by omega)).mul (g3 s t hs (by omega))).mono ?_
 rw[Nat.pow_succ,Nat.mul_comm,Nat.pow_add]
 exact Nat.mul_le_mul_left _ (by omega)
def bb (m:DMo):List Int->Nat->Rat
 | []=>fun _=>1
 | k :: v=>seenQ m (bkQ (rowQ m) (bb m v) (m.getD []).length) k
theorem Span.mem {B:Mat} {k n j:Nat} (hj:j<k):Span B k n (B j):=by
 refine⟨fun i=>if j=i then 1 else 0,fun s _=>?_⟩
 unfold dtQ
 have:∀ i,i<k->B i s*(if j=i then 1 else 0)=if j=i then B j s else 0:=fun i _=>by
  by_cases h:j=i
  . subst h;rw[if_pos rfl,if_pos rfl,Rat.mul_one]
  . rw[if_neg h,if_neg h,Rat.mul_zero]
 rw[q06 k this,q30 _ _ hj]
theorem Span.zero {B:Mat} {k n:Nat} {v:Nat->Rat} (h:∀ s,s<n->v s=0):Span B k n v:=
 ⟨fun _=>0,fun s hs=>by rw[h s hs];exact sum_zero' k fun i _=>Rat.mul_zero _⟩
theorem Span.add {B:Mat} {k n:Nat} {u v:Nat->Rat} (hu:Span B k n u) (hv:Span B k n v) (a:Rat):Span B k n fun s=>u s+v s*a:=by
 obtain⟨c,hc⟩:=hu
 obtain⟨d,hd⟩:=hv
 refine⟨fun i=>c i+d i*a,fun s hs=>?_⟩
 show _=u s+v s*a
 rw[<-hc s hs,<-hd s hs]
 unfold dtQ
 rw[<-q0A,<-q1m]
 exact q06 k fun i _=>by grind
theorem Span.congr {B:Mat} {k n:Nat} {u v:Nat->Rat} (h:Span B k n u) (e:∀ s,s<n->v s=u s):Span B k n v:=by
 obtain⟨c,hc⟩:=h
 exact⟨c,fun s hs=>by rw[e s hs];exact hc s hs⟩
theorem Span.lc {B Y:Mat} {k n:Nat} {c:Nat->Rat}:∀ l,(∀ j,j<l->Span B k n (Y j))->Span B k n (lc Y c l)
 | 0,_=>Span.zero fun s _=>rfl
 | l+1,h=>(Span.add (Span.lc l fun j hj=>h j (by omega)) (h l (by omega)) (c l)).congr fun s _=>rfl
structure AlI (m:DMo) (bs:List (List Int)) (i:Nat):Prop where
 ne:1<=bs.length
 first:bs.getD 0 []=[]
 word:∀ j,j<bs.length->occ m (bs.getD j [])/\(bs.getD j []).length<=j
 ind:∀ j,j<bs.length->¬ Span (fun i=>bb m (bs.getD i [])) j (m.getD []).length (bb m (bs.getD j []))
 done:∀ j,j<i->j<bs.length->∀ k,(∃ s,s<(m.getD []).length/\mkS m s=k)->Span (fun i=>bb m (bs.getD i [])) bs.length (m.getD []).length (bb m (k :: bs.getD j []))
theorem AlI.size {m:DMo} {bs:List (List Int)} {i:Nat} (h:AlI m bs i):bs.length<=(m.getD []).length:=q6i (B:=fun j=>bb m (bs.getD j [])) h.ind
theorem AlI.start {m:DMo} (hm:moOk m):AlI m [[]] 0:=by
 refine⟨Nat.le_refl _,rfl,fun j hj=>?_,fun j hj=>?_,fun j hj=>absurd hj (by omega)⟩
 . have hj:j<1:=hj
   obtain rfl:j=0:=by omega
   exact⟨fun a ha=>(by cases ha),Nat.le_refl _⟩
 . have hj:j<1:=hj
   obtain rfl:j=0:=by omega
   rintro⟨c,hc⟩
   have h1:(0:Rat)=1:=hc 0 hm.1.1
   exact absurd h1 (by decide +kernel)
theorem AlI.all {m:DMo} {bs:List (List Int)} (h:AlI m bs bs.length):∀ w:List Int,Span (fun i=>bb m (bs.getD i [])) bs.length (m.getD []).length (bb m w)
 | []=>by
  have:=Span.mem (B:=fun i=>bb m (bs.getD i [])) (k:=bs.length) (n:=(m.getD []).length) (j:=0) (by have:=h.ne;omega)
  try dsimp only at this
  rwa [h.first] at this
 | k :: w=>by
  by_cases hk:∃ s,s<(m.getD []).length/\mkS m s=k
  . obtain⟨c,hc⟩:=AlI.all h w
    refine Span.congr (Span.lc (B:=fun i=>bb m (bs.getD i [])) (Y:=fun j=>bb m (k :: bs.getD j [])) (c:=c) bs.length fun j hj=>h.done j hj hj k hk) fun s hs=>?_
    show seenQ m (bkQ (rowQ m) (bb m w) (m.getD []).length) k s=dtQ (fun j=>seenQ m (bkQ (rowQ m) (bb m (bs.getD j [])) (m.getD []).length) k s) c bs.length
    have e:bkQ (rowQ m) (bb m w) (m.getD []).length s=dtQ (fun j=>bkQ (rowQ m) (bb m (bs.getD j [])) (m.getD []).length s) c bs.length:=by
     unfold bkQ dtQ
     rw[q06 (g:=fun t=>sumQ (fun j=>bb m (bs.getD j []) t*rowQ m s t*c j) bs.length) _ fun t ht=>?_]
     . rw[qb3]
       exact q06 _ fun j _=>by rw[<-q0A]
     . try dsimp only
       rw[<-hc t ht]
       unfold dtQ
       rw[<-q0A]
       exact q06 _ fun j _=>by grind
    unfold seenQ
    split
    . exact e
    . exact (sum_zero' _ fun j _=>Rat.zero_mul _).symm
  . exact Span.zero fun s hs=>seen_not hk _ s hs
def AlkOk (m:DMo) (l:List Int):Prop:=l.length=(m.getD []).length/\∀ s,s<(m.getD []).length->∃ t:Nat,t<=s/\int l s=(t:Int)/\(∀ w,¬ Dist m (prQ t s) w)/\∀ t',t'<t->∃ w,Dist m (prQ t' s) w
theorem AlkOk.uniq {m:DMo} {l k:List Int} (h:AlkOk m l) (g:AlkOk m k):l=k:=by
 refine List.ext_getElem (h.1.trans g.1.symm) fun s h1 h2=>?_
 obtain⟨t,_,e1,a1,b1⟩:=h.2 s (by rw[<-h.1];exact h1)
 obtain⟨u,_,e2,a2,b2⟩:=g.2 s (by rw[<-h.1];exact h1)
 have g1:int l s=l[s]:=by show l.getD s 0=_;rw[List.getD_eq_getElem?_getD,List.getElem?_eq_getElem h1];rfl
 have g2:int k s=k[s]:=by show k.getD s 0=_;rw[List.getD_eq_getElem?_getD,List.getElem?_eq_getElem h2];rfl
 rw[<-g1,<-g2,e1,e2]
 rcases Nat.lt_trichotomy t u with q | q | q
 . obtain⟨w,hw⟩:=b2 t q;exact absurd hw (a1 w)
 . rw[q]
 . obtain⟨w,hw⟩:=b1 u q;exact absurd hw (a2 w)
theorem self_alike (m:DMo) (s:Nat) (w:List Int):¬ Dist m (prQ s s) w:=fun h=>(q5h.1 h).2 rfl
theorem least_alike (m:DMo) (s:Nat):∃ t,t<=s/\(∀ w,¬ Dist m (prQ t s) w)/\∀ t',t'<t->∃ w,Dist m (prQ t' s) w:=by
 obtain⟨t,h1,h2⟩:=q5o (α:=Nat) id (P:=fun t=>∀ w,¬ Dist m (prQ t s) w) ⟨s,self_alike m s⟩
 refine⟨t,h2 s (self_alike m s),h1,fun t' ht=>?_⟩
 by_cases g:∃ w,Dist m (prQ t' s) w
 . exact g
 . have:=h2 t' fun w hw=>g ⟨w,hw⟩
   have:t<=t':=this
   omega
theorem AlkOk.ex (m:DMo):∃ l,AlkOk m l:=by
 refine⟨tab (fun s=>((least_alike m s).choose:Int)) (m.getD []).length,tab_len _ _,fun s hs=>?_⟩
 obtain⟨h1,h2,h3⟩:=(least_alike m s).choose_spec
 exact⟨_,h1,tab_get _ _ _ _ hs,h2,h3⟩
end Go.Proofs.Pf.B
namespace Go.Proofs.Pf.B
open Go Go.VM
def bkw (m:DMo):List Int->Nat->Rat
 | []=>fun _=>1
 | c :: r=>bkQ (rowQ m) (seenQ m (bkw m r) c) (m.getD []).length
theorem bkw_fb {m:DMo} (hm:moOk m):∀ w:List Int,FB (m.getD []).length (w.length*((m.getD []).length*(m.getD []).length+1+1)) (bkw m w)
 | []=>⟨1,by decide,(by rw[List.length_nil,Nat.zero_mul,Nat.pow_zero];exact Nat.le_refl _),fun i _=>by exact (QD.one 1).mono (by simp)⟩
 | k :: w=>by
  refine (((bkw_fb hm w).seen k).bstep hm.mb (Nat.le_trans hm.1.2 (by decide)) (Nat.le_refl _)).mono ?_
  rw[List.length_cons,Nat.succ_mul];omega
theorem FB.times {n a b:Nat} {x y:Nat->Rat} (h:FB n a x) (g:FB n b y):FB n (a+b) fun s=>x s*y s:=by
 obtain⟨D,h1,h2,h3⟩:=h
 obtain⟨E,g1,g2,g3⟩:=g
 exact⟨D*E,Nat.mul_pos h1 g1,kk_mul h2 g2,fun s hs=>((h3 s hs).mul (g3 s hs)).mono (by rw[Nat.pow_add];exact Nat.le_refl _)⟩
theorem FB.prodC {n a b:Nat} {x:Nat->Rat} {P:Mat} (h:FB n a x) (g:MB n b P) {s t:Nat} (hs:s<n) (ht:t<n):Pf.RFit (2*(a+b)+1) (x t*P s t)/\RFit (2*(a+b)+1) (x t*P s t):=by
 have g':MB n b fun i j=>P j i:=by
  obtain⟨D,h1,h2,h3⟩:=g
  exact⟨D,h1,h2,fun i j hi hj=>h3 j i hj hi⟩
 exact h.prod g' ht hs
theorem qa9 {m:DMo} {x:Nat->Rat} {view:List Int} {k:Nat}:∀ i,i<=k->fwdQ m x (view.take k) i=fwdQ m x view i
 | 0,_=>rfl
 | i+1,h=>by
  simp only[fwdQ]
  rw[qa9 i (by omega),takeI (by omega)]
theorem drop_int' {v:List Int} {i:Nat} (h:i<v.length):v.drop i=int v i :: v.drop (i+1):=by
 rw[List.drop_eq_getElem_cons h]
 show _=List.getD _ _ _ :: _
 rw[List.getD_eq_getElem?_getD,List.getElem?_eq_getElem h];rfl
def thenF (m:DMo) (d:List (Int×Int)) (v:List Int) (k:Nat) (s:Nat):Rat:=bkw m (v.drop (k+1)) s*fwdQ m (dQ d) v (k+1) s
def thenQ (m:DMo) (d:List (Int×Int)) (v:List Int) (k:Int):Option (List (Int×Int))×Int×Unit:=
 if askedQ m d v=0 then (if 0<=k/\k<(v.length:Int) then givenQ (thenF m d v k.toNat) (m.getD []).length else (none,6,())) else (none,askedQ m d v,())
theorem mul_pos' {a b:Rat} (ha:0<=a) (hb:0<=b):0<a*b↔0<a/\0<b:=by
 constructor
 . intro h
   refine⟨?_,?_⟩
   . by_cases e:a=0
     . rw[e,Rat.zero_mul] at h;exact absurd h (by grind)
     . grind
   . by_cases e:b=0
     . rw[e,Rat.mul_zero] at h;exact absurd h (by grind)
     . grind
 . rintro⟨h1,h2⟩;exact Rat.mul_pos h1 h2
theorem step_nn {m:DMo} (hm:moOk m) {x:Nat->Rat} (hx:∀ s,s<(m.getD []).length->0<=x s) (t:Nat):0<=stepQ (rowQ m) x (m.getD []).length t:=
 sum_nn _ fun s hs=>Rat.mul_nonneg (hx s hs) (hm.rownn hs t)
theorem fwd_nn {m:DMo} (hm:moOk m) {x:Nat->Rat} (hx:∀ s,s<(m.getD []).length->0<=x s) {view:List Int}:∀ i s,s<(m.getD []).length->0<=fwdQ m x view i s
 | 0,s,hs=>hx s hs
 | i+1,s,hs=>by
  refine q4Y ?_
  split
  . exact hx s hs
  . exact step_nn hm (fwd_nn hm hx i) s
theorem dQ_nn {d:List (Int×Int)} (h:∀ i,i<d.length->0<=(nth2 d i).1) (i:Nat) (hi:i<d.length):0<=dQ d i:=by
 unfold dQ
 split
 . rename_i g
   refine Rat.num_nonneg.1 ?_
   rw[g.q.1];exact h i hi
 . exact Rat.le_refl
def posL (f:Nat->Rat):Nat->List Int
 | 0=>[]
 | n+1=>if 0<f n then posL f n ++ [(n:Int)] else posL f n
theorem posL_len {f:Nat->Rat}:∀ n,(posL f n).length<=n
 | 0=>Nat.le_refl _
 | n+1=>by
  have:=posL_len (f:=f) n
  simp only[posL]
  split
  . rw[List.length_append];show _+1<=_;omega
  . omega
def possQ (m:DMo) (d:List (Int×Int)) (v:List Int):DL×(Int×Unit):=if askedQ m d v=0 then (optL (posL (lastQ m d v) (m.getD []).length),(0,())) else (none,(askedQ m d v,()))
def BL (l:Option (List Bool)) (f:Nat->Rat) (n:Nat):Prop:=(l.getD []).length=n/\∀ i,i<n->((l.getD []).getD i false=true↔0<f i)
def sumB (l:List DBr) (f:Nat->Rat):Nat->Rat
 | 0=>0
 | j+1=>sumB l f j+numQ (br l j).2*f (br l j).1.toNat
theorem sumB_row {m:DMo} (h:moOk m) {s:Nat} (hs:s<(m.getD []).length) (f:Nat->Rat):sumB (bs_ m s) f (bs_ m s).length=bkQ (rowQ m) f (m.getD []).length s:=by
 obtain⟨_,_,hb⟩:=h.bs hs
 have key:∀ k,k<=(bs_ m s).length->sumB (bs_ m s) f k=sumQ (fun t=>f t*brQ (bs_ m s) k t) (m.getD []).length:=by
  intro k
  induction k with
  | zero=>intro _;exact (sum_zero' _ fun t _=>Rat.mul_zero _).symm
  | succ k ih=>
   intro hk
   obtain⟨b1,b2,_⟩:=hb k (by omega)
   obtain⟨t0,ht0⟩:∃ t:Nat,(br (bs_ m s) k).1=(t:Int):=⟨(br (bs_ m s) k).1.toNat,by omega⟩
   have e0:brQ (bs_ m s) k t0=0:=brQ_no k fun j hj e=>by
    have:=h.to_lt hs k j hj (by omega)
    omega
   have e:∀ t,f t*brQ (bs_ m s) (k+1) t=f t*brQ (bs_ m s) k t+if t0=t then numQ (br (bs_ m s) k).2*f t0 else 0:=fun t=>by
    simp only[brQ]
    by_cases g:t0=t
    . subst g
      rw[if_pos ht0,if_pos rfl,e0,Rat.mul_zero,Rat.zero_add,Rat.mul_comm]
    . rw[if_neg (by omega),if_neg g,Rat.add_zero]
   rw[q06 _ fun t _=>e t,q1m,q30 _ _ (by omega),<-ih (by omega)]
   show sumB _ f k+numQ (br (bs_ m s) k).2*f (br (bs_ m s) k).1.toNat=_
   rw[ht0,Int.toNat_natCast]
 exact key _ (Nat.le_refl _)
theorem seen_at {m:DMo} {y:Nat->Rat} {k:Int} {s:Nat} (h:mkS m s=k):seenQ m y k s=y s:=if_pos h
end Go.Proofs.Pf.B
namespace Go.Proofs.Pf.B
open Go Go.VM
theorem r_seenO {m:DMo} {l:Option (List DRR)} {f:Nat->Rat} {mark:Int} (hl:TL l f (m.getD []).length) (hn:(m.getD []).length<=1000):
 ownV Pg q0x [⟨tMo,m⟩,⟨(.sl tRR),l⟩,⟨tI,mark⟩] tRR fun r=>TL r (seenQ m f mark) (m.getD []).length:=by
 have e1:szSl l=((m.getD []).length:Int):=by show ((l.getD []).length:Int)=_;rw[hl.1]
 refine qly m l mark (TL.ex _ _) ?_
 rw[e1]
 refine q4j hn fun z hz=>?_
 refine rangeB (n:=(m.getD []).length) (fun i x=>(l,(mark,(((m.getD []).length:Int),((i:Int),(m,x)))))) (fun i x=>TL x (fun s=>if s<i then seenQ m f mark s else 0) (m.getD []).length) z rfl (hz.congr fun j _=>if_neg (by omega)) (fun p=>p.2.2.2.1.toNat) (fun _ _=>rfl) (fun _ _ _=>rfl) ?_ ?_
 . intro k i x hi hx hk
   dsimp only
   rw[q0s,q1h]
   refine⟨in_s hi,joinE (br_c (fun hb=>?_) fun hb=>?_)⟩
   . refine⟨in_s (by rw[hl.1];exact hi),in_s (by rw[hx.1];exact hi),?_⟩
     dsimp only
     rw[wi1 hi (by omega),show toN (i:Int)=i from Int.toNat_natCast i]
     refine hk _ (TL.set hx hi (g:=fun s=>if s<i+1 then seenQ m f mark s else 0) ?_ fun j _ hj=>?_)
     . rw[if_pos (by omega)]
       show RRV _ (seenQ m f mark i)
       rw[seenQ,if_pos (dec_t hb)]
       exact hl.2 i hi
     . try dsimp only
       by_cases hji:j<i
       . rw[if_pos hji,if_pos (by omega)]
       . rw[if_neg hji,if_neg (by omega)]
   . dsimp only
     rw[wi1 hi (by omega)]
     refine hk _ (hx.congr fun j _=>?_)
     try dsimp only
     by_cases hji:j<i
     . rw[if_pos hji,if_pos (by omega)]
     . rw[if_neg hji]
       by_cases e:j<i+1
       . obtain rfl:j=i:=by omega
         rw[if_pos e,seenQ,if_neg (dec_f hb)]
       . rw[if_neg e]
 . intro _ x hx
   exact hx.congr fun j hj=>by rw[if_pos hj]
theorem eltN_z {l:Option (List DRR)} {i:Nat}:eltN z0 l (toN (i:Int))=(l.getD []).getD i z0:=by simp only[eltN,toN,Int.toNat_natCast]
theorem r_seenV {m:DMo} {l:Option (List DRR)} {f:Nat->Rat} {mark:Int} (hl:TL l f (m.getD []).length) (hn:(m.getD []).length<=1000):
 lendV Pg q0x 3 q54 (m,(mark,l)) fun r=>TL r.1 (seenQ m f mark) (m.getD []).length/\r.2=l:=by
 have e1:szSl l=((m.getD []).length:Int):=by show ((l.getD []).length:Int)=_;rw[hl.1]
 refine qlz m mark l (by obtain⟨r,hr⟩:=TL.ex (seenQ m f mark) (m.getD []).length;exact⟨(r,l),hr,rfl⟩) ?_
 rw[e1]
 refine q4j hn fun z hz=>?_
 refine rangeB (n:=(m.getD []).length) (fun i x=>(mark,(((m.getD []).length:Int),((i:Int),(m,(l,x)))))) (fun i x=>TL x (fun s=>if s<i then seenQ m f mark s else 0) (m.getD []).length) z rfl (hz.congr fun j _=>if_neg (by omega)) (fun p=>p.2.2.1.toNat) (fun _ _=>rfl) (fun _ _ _=>rfl) ?_ ?_
 . intro k i x hi hx hk
   dsimp only
   rw[q0s,eltN_z]
   refine⟨in_s hi,joinE (br_c (fun hb=>?_) fun hb=>?_)⟩
   . refine⟨in_s (by rw[hl.1];exact hi),in_s (by rw[hx.1];exact hi),?_⟩
     dsimp only
     rw[wi1 hi (by omega),show toN (i:Int)=i from Int.toNat_natCast i]
     refine hk _ (TL.set hx hi (g:=fun s=>if s<i+1 then seenQ m f mark s else 0) ?_ fun j _ hj=>?_)
     . rw[if_pos (by omega)]
       show RRV _ (seenQ m f mark i)
       rw[seenQ,if_pos (dec_t hb)]
       exact hl.2 i hi
     . try dsimp only
       by_cases hji:j<i
       . rw[if_pos hji,if_pos (by omega)]
       . rw[if_neg hji,if_neg (by omega)]
   . dsimp only
     rw[wi1 hi (by omega)]
     refine hk _ (hx.congr fun j _=>?_)
     try dsimp only
     by_cases hji:j<i
     . rw[if_pos hji,if_pos (by omega)]
     . rw[if_neg hji]
       by_cases e:j<i+1
       . obtain rfl:j=i:=by omega
         rw[if_pos e,seenQ,if_neg (dec_f hb)]
       . rw[if_neg e]
 . intro _ x hx
   exact⟨hx.congr fun j hj=>by rw[if_pos hj],rfl⟩
theorem qgS {m:DMo} {d:Option (List DRR)} {x:Nat->Rat} {view:DL} {e b:Nat} (hm:moOk m) (hd:TL d x (m.getD []).length) (hx:FB (m.getD []).length e x) (hb:MB (m.getD []).length b (rowQ m))
 (h0:0<(view.getD []).length) (hv:(view.getD []).length<=1000) (hk:e+(view.getD []).length*(b+1)+b+1<=200000000):
 ownV Pg q1A [⟨tMo,m⟩,⟨(.sl tRR),d⟩,⟨tL,view⟩] tRR fun r=>TL r (fwdQ m x (view.getD []) (view.getD []).length) (m.getD []).length:=by
 have hn:=hm.1.2
 have es:szSl view=((view.getD []).length:Int):=rfl
 refine qlq m d view (TL.ex _ _) ?_
 rw[es]
 refine br_t (decide_eq_true (by omega)) ⟨in_s (i:=0) h0,joinE (br_f rfl ?_)⟩
 dsimp only
 refine (r_seenO hd (by omega)).mono fun y hy=>?_
 refine loopE (fun p=>∃ (i:Nat) (y:Option (List DRR)),p=(view,(((view.getD []).length:Int),((i:Int),(m,y))))/\1<=i/\i<=(view.getD []).length/\TL y (fwdQ m x (view.getD []) i) (m.getD []).length) (fun p=>(view.getD []).length - p.2.2.1.toNat) ⟨1,y,?_,Nat.le_refl _,h0,hy⟩ ?_
 . rw[wi64 (by omega) (by omega)];rfl
 rintro _ ⟨i,y,rfl,h1,hi,hy⟩
 dsimp only
 refine br_c (fun hc=>?_) fun hc=>?_
 . have hi:i<(view.getD []).length:=by have hc:(i:Int)<((view.getD []).length:Int):=dec_t hc;omega
   rw[q1E]
   refine⟨in_s hi,joinR (fun q=>∃ w,q=(w,(int (view.getD []) i,(view,(((view.getD []).length:Int),((i:Int),m)))))/\TL w (stepQ (rowQ m) (fwdQ m x (view.getD []) i) (m.getD []).length) (m.getD []).length) ?_ ?_⟩
   . rintro _ ⟨w,rfl,hw⟩
     dsimp only
     refine (r_seenO hw (by omega)).mono fun z hz=>?_
     rw[wi1 hi (by omega)]
     refine⟨⟨i+1,z,rfl,by omega,hi,?_⟩,?_⟩
     . simp only[fwdQ];rw[if_neg (by omega)];exact hz
     . show (view.getD []).length - ((i+1:Nat):Int).toNat<(view.getD []).length - (i:Int).toNat
       omega
   . intro k4 hk4
     refine br_t (decide_eq_true (by omega)) ?_
     have hb':=fwd_fb (view:=view.getD []) hx hb (by omega) i
     have hle:i*(b+1)<=(view.getD []).length*(b+1):=Nat.mul_le_mul_right _ (by omega)
     exact (r_step (k:=2*(e+i*(b+1)+b+1)+1) hm hy (fun s t hs ht=>(hb.fit hs ht).2.mono (by omega)) (fun s hs=>(hb'.fit hs).2.mono (by omega)) (fun s t hs ht=>(hb'.prod hb hs ht).2.mono (by omega)) (fun a t ha ht=>((hb'.step hb (Nat.le_trans hn (by decide)) ha).fit ht).2.mono (by omega)) (by omega)).mono fun w hw=>hk4 _ ⟨w,rfl,hw⟩
 . have hc:¬ (i:Int)<((view.getD []).length:Int):=dec_f hc
   obtain rfl:i=(view.getD []).length:=by omega
   exact hy
theorem sumB_qb {l:List DBr} {f:Nat->Rat} {e:Nat} (h:∀ j,j<l.length->NumOk (br l j).2/\QB e (f (br l j).1.toNat)):∀ k,k<=l.length->QB (k*(e+4)) (sumB l f k)
 | 0,_=>QB.zero _
 | k+1,hk=>by
  obtain⟨h1,h2⟩:=h k (by omega)
  refine ((sumB_qb h k (by omega)).add ((numQ_qb h1).mul h2)).mono ?_
  rw[Nat.succ_mul];omega
theorem r_Mean {m:DMo} {s:Nat} {c:DCh} {l:Option (List DRR)} {f:Nat->Rat} (hm:moOk m) (hs:s<(m.getD []).length) (hc:c.2.getD []=bs_ m s) (hl:TL l f (m.getD []).length) (hf:∀ t,t<(m.getD []).length->QB 1000000 (f t)):
 callV Pg q3D [⟨tCh,c⟩,⟨(.sl tRR),l⟩] tRR fun r=>RRV r (bkQ (rowQ m) f (m.getD []).length s):=by
 obtain⟨b1,_,b3⟩:=hm.bs hs
 have e2:szSl c.2=((bs_ m s).length:Int):=by show ((c.2.getD []).length:Int)=_;rw[hc]
 have hq:∀ j,j<(bs_ m s).length->NumOk (br (bs_ m s) j).2/\QB 1000000 (f (br (bs_ m s) j).1.toNat):=fun j hj=>by
  obtain⟨c1,c2,c3⟩:=b3 j hj
  exact⟨c3,hf _ (by omega)⟩
 refine qlk c l (RRV_ex _) ((q13 (n:=0) (by decide) (by decide)).mono fun z hz=>?_)
 rw[e2]
 refine rangeB (n:=(bs_ m s).length) (fun j (x:DRR×DRR)=>(l,(c.2,(((bs_ m s).length:Int),((j:Int),x))))) (fun j x=>RRV x.2 (sumB (bs_ m s) f j)) (z0,z) rfl hz (fun p=>p.2.2.2.1.toNat) (fun _ _=>rfl) (fun _ _ _=>rfl) ?_ ?_
 . intro k j x hj hx hk
   (try dsimp only)
   obtain⟨c1,c2,c3⟩:=b3 j hj
   obtain⟨t,ht⟩:∃ t:Nat,(br (bs_ m s) j).1=(t:Int):=⟨(br (bs_ m s) j).1.toNat,by omega⟩
   have htn:t<(m.getD []).length:=by omega
   rw[q29,hc,ht,q1h]
   have q1:=numQ_qb c3
   have q2:=hf t htn
   have q3:=sumB_qb hq j (by omega)
   have hj8:j*(1000000+4)<=8*1000004:=Nat.mul_le_mul (by omega) (Nat.le_refl _)
   refine⟨in_s (by rw[hc];exact hj),(r_To c3).mono fun u hu=>⟨in_s (by rw[hl.1];exact htn),(q4i (k:=20000000) hu (hl.2 t htn) (q1.fitB.mono (by decide)) (q2.fitB.mono (by decide)) (by decide)).mono fun v hv=>(q4h (k:=20000000) hx hv (q3.fitB.mono (by omega)) ((q1.mul q2).fitB.mono (by decide)) (by decide)).mono fun w hw=>?_⟩⟩
   rw[wi1 hj (by omega)]
   refine hk (x.1,w) ?_
   show RRV w (sumB _ f j+numQ (br (bs_ m s) j).2*f (br (bs_ m s) j).1.toNat)
   rw[ht,Int.toNat_natCast];exact hw
 . intro _ x hx
   have:=sumB_row hm hs f
   rw[<-this];exact hx
theorem qgT {m:DMo} {d:Option (List DRR)} {x:Nat->Rat} {view:DL} {e b:Nat} (hm:moOk m) (hd:TL d x (m.getD []).length) (hx:FB (m.getD []).length e x) (hb:MB (m.getD []).length b (rowQ m))
 (hv:(view.getD []).length<=1000) (hk:e+(view.getD []).length*(b+1)+b+1<=200000000):
 callV Pg q3I [⟨tMo,m⟩,⟨(.sl tRR),d⟩,⟨tL,view⟩] tL fun r=>r=optL (posL (fwdQ m x (view.getD []) (view.getD []).length) (m.getD []).length):=by
 have hn:=hm.1.2
 refine qlt m d view ⟨_,rfl⟩ ((r_Forward hm hd hx hb hv hk).mono fun y hy=>?_)
 rw[show szSl y=((m.getD []).length:Int) by show ((y.getD []).length:Int)=_;rw[hy.1]]
 refine rangeB (n:=(m.getD []).length) (fun i r=>(y,(((m.getD []).length:Int),((i:Int),r)))) (fun i r=>r=optL (posL (fwdQ m x (view.getD []) (view.getD []).length) i)) none rfl rfl (fun p=>p.2.2.1.toNat) (fun _ _=>rfl) (fun _ _ _=>rfl) ?_ ?_
 . rintro k i _ hi rfl hk'
   dsimp only
   rw[q1h]
   refine⟨in_s (by rw[hy.1];exact hi),(q6B (hy.2 i hi)).mono ?_⟩
   rintro _ rfl
   refine joinE (br_c (fun g=>?_) fun g=>?_)
   . refine⟨?_,?_⟩
     . show (((optL (posL (fwdQ m x (view.getD []) (view.getD []).length) i)).getD []).length+1)*8<=140737488355328
       have:=posL_len (f:=fwdQ m x (view.getD []) (view.getD []).length) i
       rw[q07];omega
     . dsimp only
       rw[wi1 hi (by omega)]
       refine hk' _ ?_
       show appL (optL (posL _ i)) [(i:Int)]=optL (posL _ (i+1))
       rw[q1k]
       simp only[posL]
       rw[if_pos (q5q.1 (dec_t g:(0:Int)<_))]
   . dsimp only
     rw[wi1 hi (by omega)]
     refine hk' _ ?_
     simp only[posL]
     rw[if_neg fun q=>dec_f g (q5q.2 q)]
 . rintro _ _ rfl
   rfl
end Go.Proofs.Pf.B
namespace Go.Proofs.Pf.B
open Go Go.VM
set_option maxHeartbeats 4000000 in
theorem qgQ {m:DMo} {view:DL} (hm:moOk m) (hv:(view.getD []).length<=200):
 callV Pg q3F [⟨tMo,m⟩,⟨tL,view⟩] (.sl tRR) fun r=>TL r (bkw m (view.getD [])) (m.getD []).length:=by
 have hn:=hm.1.2
 have es:szSl view=((view.getD []).length:Int):=rfl
 have em:szSl m=((m.getD []).length:Int):=rfl
 have hnn:(m.getD []).length*(m.getD []).length<=40*40:=Nat.mul_le_mul hn hn
 have hfb:∀ w:List Int,w.length<=200->FB (m.getD []).length 400000 (bkw m w):=fun w hw=>by
  refine (bkw_fb hm w).mono ?_
  have:w.length*((m.getD []).length*(m.getD []).length+1+1)<=200*1602:=Nat.mul_le_mul hw (by omega)
  omega
 refine qlo m view (TL.ex _ _) ?_
 rw[em]
 refine q4j (by omega) fun p0 hp0=>?_
 rw[show szSl p0=((m.getD []).length:Int) by show ((p0.getD []).length:Int)=_;rw[hp0.1]]
 refine rangeB (n:=(m.getD []).length) (fun i x=>(view,(((m.getD []).length:Int),((i:Int),(m,x))))) (fun i x=>TL x (fun s=>if s<i then 1 else 0) (m.getD []).length) p0 rfl (hp0.congr fun j _=>if_neg (by omega)) (fun p=>p.2.2.1.toNat) (fun _ _=>rfl) (fun _ _ _=>rfl) ?_ ?_
 . intro k1 i x hi hx hk1
   (try dsimp only)
   refine (q13 (n:=1) (by decide) (by decide)).mono fun w hw=>⟨in_s (by rw[hx.1];exact hi),?_⟩
   rw[wi1 hi (by omega),show toN (i:Int)=i from Int.toNat_natCast i]
   refine hk1 _ (hx.set hi ?_ fun j _ hj=>?_)
   . show RRV w (if i<i+1 then 1 else 0)
     rw[if_pos (by omega)];exact hw
   . show (if j<i+1 then (1:Rat) else 0)=if j<i then 1 else 0
     by_cases g:j<i
     . rw[if_pos g,if_pos (by omega)]
     . rw[if_neg g,if_neg (by omega)]
 intro _ x hx
 dsimp only
 have hx:TL x (fun _=>1) (m.getD []).length:=hx.congr fun j hj=>(if_pos hj).symm
 rw[es]
 refine loopE (fun p=>∃ (j:Nat) (x:Option (List DRR)),p=(view,((j:Int) - 1,(m,x)))/\j<=(view.getD []).length/\TL x (bkw m ((view.getD []).drop j)) (m.getD []).length) (fun p=>(p.2.1+1).toNat) ⟨(view.getD []).length,x,?_,Nat.le_refl _,?_⟩ ?_
 . rw[wi64 (by omega) (by omega)]
 . rw[List.drop_length];exact hx
 clear hx
 rintro _ ⟨j,x,rfl,hj,hx⟩
 dsimp only
 refine br_c (fun g=>?_) fun g=>?_
 case refine_2=>
  have g:¬ (0:Int)<=(j:Int) - 1:=dec_f g
  obtain rfl:j=0:=by omega
  exact hx
 have g:(0:Int)<=(j:Int) - 1:=dec_t g
 obtain⟨i,rfl⟩:∃ i,j=i+1:=⟨j - 1,by omega⟩
 have hi:i<(view.getD []).length:=by omega
 have ei:((i+1:Nat):Int) - 1=(i:Int):=by omega
 rw[ei,q1E]
 refine⟨in_s hi,(r_seenV hx (by omega)).mono ?_⟩
 rintro⟨y,x'⟩ ⟨hy,e5⟩
 have e5:x'=x:=e5
 subst e5
 have hy:TL y (seenQ m (bkw m ((view.getD []).drop (i+1))) (int (view.getD []) i)) (m.getD []).length:=hy
 have hq:∀ t,t<(m.getD []).length->QB 1000000 (seenQ m (bkw m ((view.getD []).drop (i+1))) (int (view.getD []) i) t):=fun t ht=>(((hfb ((view.getD []).drop (i+1)) (by rw[List.length_drop];omega)).seen (m:=m) (int (view.getD []) i)).qb ht).mono (by decide)
 dsimp only
 rw[show szSl x'=((m.getD []).length:Int) by show ((x'.getD []).length:Int)=_;rw[hx.1]]
 refine rangeB (n:=(m.getD []).length) (fun s x=>(view,((i:Int),(y,(((m.getD []).length:Int),((s:Int),(m,x))))))) (fun s x=>TL x (fun t=>if t<s then bkQ (rowQ m) (seenQ m (bkw m ((view.getD []).drop (i+1))) (int (view.getD []) i)) (m.getD []).length t else bkw m ((view.getD []).drop (i+1)) t) (m.getD []).length) x' rfl (hx.congr fun j _=>if_neg (by omega)) (fun p=>p.2.2.2.2.1.toNat) (fun _ _=>rfl) (fun _ _ _=>rfl) ?_ ?_
 . intro k6 s x hs hx hk6
   dsimp only
   refine (q5p hm hs).mono fun c hc=>(r_Mean hm hs hc hy hq).mono fun w hw=>⟨in_s (by rw[hx.1];exact hs),?_⟩
   rw[wi1 hs (by omega),show toN (s:Int)=s from Int.toNat_natCast s]
   refine hk6 _ (hx.set hs ?_ fun t _ ht=>?_)
   . show RRV w (if s<s+1 then _ else _)
     rw[if_pos (by omega)];exact hw
   . show (if t<s+1 then _ else _)=if t<s then _ else _
     by_cases g:t<s
     . rw[if_pos g,if_pos (by omega)]
     . rw[if_neg g,if_neg (by omega)]
 . intro _ x hx
   dsimp only
   refine⟨⟨i,x,?_,by omega,?_⟩,?_⟩
   . rw[wi64 (by omega) (by omega)]
   . rw[show (view.getD []).drop i=int (view.getD []) i :: (view.getD []).drop (i+1) from drop_int' hi]
     exact hx.congr fun t ht=>(if_pos ht).symm
   . show (IntKind.wrap IntKind.i64 ((i:Int) - 1)+1).toNat<((i:Int)+1).toNat
     rw[wi64 (by omega) (by omega)];omega
theorem slc_take {c:DL} {k:Nat} (h:k<=(c.getD []).length):(slcS c (0:Int) (k:Int)).getD []=(c.getD []).take k:=by
 cases c with
 | none=>
  have h:k<=0:=h
  obtain rfl:k=0:=by omega
  rfl
 | some l=>simp[slcS]
theorem slc_drop {c:DL} {k:Nat} (h:k<=(c.getD []).length):(slcS c (k:Int) (szSl c)).getD []=(c.getD []).drop k:=by
 cases c with
 | none=>
  have h:k<=0:=h
  obtain rfl:k=0:=by omega
  rfl
 | some l=>simp[slcS,szSl]
theorem r_Then {m:DMo} {d:Option (List DRR)} {x:Nat->Rat} {view:DL} {k:Nat} (hm:moOk m) (hd:TL d x (m.getD []).length) (hx:FB (m.getD []).length ((m.getD []).length+1) x) (hv:(view.getD []).length<=200) (hk:k<(view.getD []).length):
 callV Pg q3K [⟨tMo,m⟩,⟨(.sl tRR),d⟩,⟨tL,view⟩,⟨tI,(k:Int)⟩] (.tup (.pair (.sl tRR) (.pair .bool .unit))) fun r=>ShOk (fun s=>bkw m ((view.getD []).drop (k+1)) s*fwdQ m x (view.getD []) (k+1) s) (m.getD []).length r:=by
 have hn:=hm.1.2
 have hnn:(m.getD []).length*(m.getD []).length<=40*40:=Nat.mul_le_mul hn hn
 have ew:IntKind.wrap IntKind.i64 ((k:Int)+1)=((k+1:Nat):Int):=wi1 hk (by omega)
 have hfx:FB (m.getD []).length 400000 (bkw m ((view.getD []).drop (k+1))):=by
  refine (bkw_fb hm _).mono ?_
  have:((view.getD []).drop (k+1)).length*((m.getD []).length*(m.getD []).length+1+1)<=200*1602:=Nat.mul_le_mul (by rw[List.length_drop];omega) (by omega)
  omega
 have hfw:FB (m.getD []).length 400000 (fwdQ m x (view.getD []) (k+1)):=by
  refine (fwd_fb hx hm.mb (by omega) (k+1)).mono ?_
  have:(k+1)*((m.getD []).length*(m.getD []).length+1+1)<=200*1602:=Nat.mul_le_mul (by omega) (by omega)
  omega
 refine qlv m d view (k:Int) (ShOk.ex _ _) ?_
 rw[ew]
 have t1:=slc_take (c:=view) (k:=k+1) (by omega)
 have t2:=slc_drop (c:=view) (k:=k+1) (by omega)
 have l1:((view.getD []).take (k+1)).length=k+1:=by rw[List.length_take];omega
 have hw:(k+1)*((m.getD []).length*(m.getD []).length+1+1)<=200*1602:=Nat.mul_le_mul (by omega) (by omega)
 refine⟨⟨by omega,by omega,by show ((k+1:Nat):Int)<=((view.getD []).length:Int);omega⟩,(qgS hm hd hx hm.mb (by rw[t1,l1];omega) (by rw[t1,l1];omega) (by rw[t1,l1];omega)).mono fun p0 hp0=>⟨⟨by omega,by show ((k+1:Nat):Int)<=((view.getD []).length:Int);omega,Int.le_refl _⟩,(qgQ hm (by rw[t2,List.length_drop];omega)).mono fun p1 hp1=>?_⟩⟩
 rw[t1,l1,qa9 (k+1) (Nat.le_refl _)] at hp0
 rw[t2] at hp1
 rw[show szSl p0=((m.getD []).length:Int) by show ((p0.getD []).length:Int)=_;rw[hp0.1]]
 refine rangeB (n:=(m.getD []).length) (fun s y=>(p1,(((m.getD []).length:Int),((s:Int),y)))) (fun s y=>TL y (fun t=>if t<s then bkw m ((view.getD []).drop (k+1)) t*fwdQ m x (view.getD []) (k+1) t else fwdQ m x (view.getD []) (k+1) t) (m.getD []).length) p0 rfl (hp0.congr fun j _=>if_neg (by omega)) (fun p=>p.2.2.1.toNat) (fun _ _=>rfl) (fun _ _ _=>rfl) ?_ ?_
 . intro k2 s y hs hy hk2
   (try dsimp only)
   rw[q1h,eltN_z]
   have hys:=hy.2 s hs
   dsimp only at hys
   rw[if_neg (by omega)] at hys
   refine⟨in_s (by rw[hy.1];exact hs),in_s (by rw[hp1.1];exact hs),(q4i (k:=1000000) hys (hp1.2 s hs) ((hfw.fit hs).2.mono (by decide)) ((hfx.fit hs).2.mono (by decide)) (by decide)).mono fun w hw=>⟨in_s (by rw[hy.1];exact hs),?_⟩⟩
   rw[wi1 hs (by omega),show toN (s:Int)=s from Int.toNat_natCast s]
   rw[Rat.mul_comm] at hw
   refine hk2 _ (hy.set hs ?_ fun t _ ht=>?_)
   . show RRV w (if s<s+1 then _ else _)
     rw[if_pos (by omega)];exact hw
   . show (if t<s+1 then _ else _)=if t<s then _ else _
     by_cases g:t<s
     . rw[if_pos g,if_pos (by omega)]
     . rw[if_neg g,if_neg (by omega)]
 . intro _ y hy
   (try dsimp only)
   have hy:TL y (fun s=>bkw m ((view.getD []).drop (k+1)) s*fwdQ m x (view.getD []) (k+1) s) (m.getD []).length:=hy.congr fun t ht=>(if_pos ht).symm
   exact (r_shares hy (hfx.times hfw) (by omega) (by decide)).mono fun r hr=>hr
end Go.Proofs.Pf.B
namespace Go.Proofs.Pf.B
open Go Go.VM
def hde (n k:Nat):Option (List (Option Nat)):=some (tab (fun j=>if n<=k+j then some (n - 1 - j) else none) n)
theorem q2b (n k:Nat):((hde n k).getD []).length=n:=tab_len _ _
theorem q49 {n k i:Nat} (hi:i<n) (h:n<=k+i):eltN none (hde n k) (toN (i:Int))=some (n - 1 - i):=by
 have e:eltN none (hde n k) (toN (i:Int))=if n<=k+i then some (n - 1 - i) else none:=tab_get _ _ _ _ hi
 rw[e,if_pos h]
theorem hde_zero (n:Nat):hdL (α:=List DRR) (some (repS (n:Int) none))=hde n 0:=by
 simp only[hdL,hde,repS,Option.map_some,Int.toNat_natCast,List.map_replicate]
 congr 1
 rw[List.eq_replicate_iff.2 ⟨tab_len _ _,fun b hb=>?_⟩]
 simp only[tab,List.mem_map,List.mem_range] at hb
 obtain⟨a,_,rfl⟩:=hb
 exact if_neg (by omega)
theorem hde_set {n i k:Nat} (h:i+k+1=n):setO (hde n k) i (some k)=hde n (k+1):=by
 show some ((tab _ n).set i (some k))=some (tab _ n)
 congr 1
 apply List.ext_getElem
 . simp[tab]
 . intro j h1 h2
   rw[List.getElem_set]
   simp only[tab,List.getElem_map,List.getElem_range]
   by_cases e:i=j
   . subst e;rw[if_pos rfl,if_pos (by omega)];congr 1;omega
   . rw[if_neg e]
     by_cases hji:n<=k+j
     . rw[if_pos hji,if_pos (by omega)]
     . rw[if_neg hji,if_neg (by omega)]
theorem in_h {y:List (List DRR)} {r s N:Nat} {f:Nat->Rat} (h:TL (some (y.getD r [])) f N) (hs:s<N):inH y (some r) (s:Int):=by
 have h1:(y.getD r []).length=N:=h.1
 refine⟨by omega,?_⟩
 show (s:Int)<(((y.getD r []).length:Nat):Int)
 rw[h1];omega
def PT (m:DMo) (w:List Int) (k N:Nat) (g:Nat->Rat) (y:List (List DRR)):Prop:=
 y.length=k+1/\(∀ j,j<k->TL (some (y.getD j [])) (bestQ m w (w.length - 1 - j)) N)/\TL (some (y.getD k [])) g N
theorem PT.set {m:DMo} {w:List Int} {k N s:Nat} {f g:Nat->Rat} {y:List (List DRR)} {z:DRR} (h:PT m w k N f y) (hs:s<N) (hz:RRV z (g s)) (hg:∀ t,t<N->t≠s->g t=f t):PT m w k N g (setR y k s z):=by
 obtain⟨h1,h2,h3⟩:=h
 refine⟨?_,fun j hj=>?_,?_⟩
 . show (y.set k _).length=k+1
   simpa using h1
 . show TL (some ((y.set k _).getD j [])) _ _
   rw[List.getD_eq_getElem?_getD,List.getElem?_set_ne (by omega),<-List.getD_eq_getElem?_getD]
   exact h2 j hj
 . show TL (some ((y.set k _).getD k [])) _ _
   rw[List.getD_eq_getElem?_getD,List.getElem?_set_self (by omega)]
   exact TL.set (l:=some (y.getD k [])) h3 hs hz hg
theorem PT.congr {m:DMo} {w:List Int} {k N:Nat} {f g:Nat->Rat} {y:List (List DRR)} (h:PT m w k N f y) (hg:∀ t,t<N->g t=f t):PT m w k N g y:=⟨h.1,h.2.1,h.2.2.congr hg⟩
theorem qdR {m:DMo} {w:List Int} {i s:Nat} (hi:i<w.length) (h:¬ (stt (m.getD []) s).2.1=int w i):bestQ m w i s=0:=by
 by_cases e:i+1<w.length
 . rw[q5X e,seenQ,if_neg h]
 . rw[q5W (by omega),seenQ,if_neg h]
theorem mxB_qb {l:List DBr} {f:Nat->Rat} {e:Nat} (h:∀ j,j<l.length->NumOk (br l j).2/\QB e (f (br l j).1.toNat)):∀ k,k<=l.length->QB (e+1) (mxB l f k)
 | 0,_=>QB.zero _
 | k+1,hk=>by
  obtain⟨h1,h2⟩:=h k (by omega)
  simp only[mxB]
  split
  . exact ((numQ_qb h1).mul h2).mono (by omega)
  . exact mxB_qb h k (by omega)
def LkOk (m:DMo) (x:Nat->Rat) (view:List Int) (r:DL×(DRR×(Bool×Unit))):Prop:=
 (view=[]/\r.1=none/\RRV r.2.1 1/\r.2.2.1=true)∨(view≠[]/\topQ m x view 0=0/\r.1=none/\r.2.2.1=false) ∨
  (view≠[]/\0<topQ m x view 0/\r.1=optL (tab (fun i=>(atQ m x view i:Int)) view.length)/\RRV r.2.1 (topQ m x view 0)/\r.2.2.1=true)
theorem LkOk.ex (m:DMo) (x:Nat->Rat) (view:List Int):∃ r,LkOk m x view r:=by
 obtain⟨a,ha⟩:=RRV_ex (1:Rat)
 obtain⟨b,hb⟩:=RRV_ex (topQ m x view 0)
 by_cases h:view=[]
 . exact⟨(none,(a,(true,()))),.inl ⟨h,rfl,ha,rfl⟩⟩
 . by_cases g:topQ m x view 0=0
   . exact⟨(none,(a,(false,()))),.inr (.inl ⟨h,g,rfl,rfl⟩)⟩
   . have:=q6X (m:=m) (x:=x) (view:=view) 0
     exact⟨(_,(b,(true,()))),.inr (.inr ⟨h,by grind,rfl,hb,rfl⟩)⟩
set_option maxHeartbeats 8000000 in
theorem r_Likely {m:DMo} {d:Option (List DRR)} {x:Nat->Rat} {view:DL} (hm:moOk m) (hd:TL d x (m.getD []).length) (hx:∀ s,s<(m.getD []).length->QB 1 (x s)) (hv:(view.getD []).length<=1000):
 callV Pg q3G [⟨tMo,m⟩,⟨(.sl tRR),d⟩,⟨tL,view⟩] (.tup (.pair tL (.pair tRR (.pair .bool .unit)))) fun r=>LkOk m x (view.getD []) r:=by
 have hN:=hm.1.2
 have h1N:=hm.1.1
 have em:szSl m=((m.getD []).length:Int):=rfl
 have es:szSl view=((view.getD []).length:Int):=rfl
 refine qlr m d view (LkOk.ex _ _ _) ?_
 rw[es]
 generalize hV:view.getD []=w at *
 refine br_c (fun g=>?_) fun g=>?_
 . have g:(w.length:Int)=0:=dec_t g
   have e0:w=[]:=List.eq_nil_of_length_eq_zero (by omega)
   exact (q13 (n:=1) (by decide) (by decide)).mono fun w hw=>.inl ⟨e0,rfl,hw,rfl⟩
 have g:¬ (w.length:Int)=0:=dec_f g
 have ene:w≠[]:=fun e=>g (by rw[e];rfl)
 have hbq:∀ i s,s<(m.getD []).length->QB 1000 (bestQ m w i s):=fun i s hs=>(bestR_qb hm w _ s hs).mono (by omega)
 refine⟨⟨by omega,by omega,by omega⟩,fun y hy=>?_,?_⟩
 . have hy:y∈List.replicate _ none:=hy
   rw[List.eq_of_mem_replicate hy];rfl
 rw[hde_zero,wi64 (x:=(w.length:Int) - 1) (by omega) (by omega)]
 refine loopE (fun p=>∃ (k:Nat) (y:List (List DRR)),p=(d,(view,((w.length:Int),((w.length:Int) - 1 - (k:Int),(m,(z0,(hde w.length k,y)))))))/\k<=w.length/\y.length=k/\∀ j,j<k->TL (some (y.getD j [])) (bestQ m w (w.length - 1 - j)) (m.getD []).length) (fun p=>(p.2.2.2.1+1).toNat) ⟨0,[],by rw[show (w.length:Int) - 1 - ((0:Nat):Int)=(w.length:Int) - 1 by omega],Nat.zero_le _,rfl,fun j hj=>absurd hj (by omega)⟩ ?_
 rintro _ ⟨k,y,rfl,hk,y1,y2⟩
 dsimp only
 rw[em]
 refine br_c (fun g=>?_) fun g=>?_
 case refine_2=>
  have g:¬ (0:Int)<=(w.length:Int) - 1 - (k:Int):=dec_f g
  obtain rfl:k=w.length:=by omega
  have hT:∀ i,i<w.length->TL (some (y.getD (w.length - 1 - i) [])) (bestQ m w i) (m.getD []).length:=fun i hi=>by
   have:=y2 (w.length - 1 - i) (by omega)
   rwa [show w.length - 1 - (w.length - 1 - i)=i by omega] at this
  clear y1 y2
  refine (q13 (n:=0) (by decide) (by decide)).mono fun z hz=>?_
  have eG:topQ m x w 0=maxQ (fun s=>x s*bestQ m w 0 s) (m.getD []).length:=rfl
  have eA:atQ m x w 0=argQ (fun s=>x s*bestQ m w 0 s) (m.getD []).length:=rfl
  have hGq:∀ s,s<(m.getD []).length->QB 1001 (x s*bestQ m w 0 s):=fun s hs=>((hx s hs).mul (hbq 0 s hs)).mono (by decide)
  have h0w:0<w.length:=by omega
  refine rangeB (n:=(m.getD []).length) (fun s (a:Int×DRR)=>(d,((w.length:Int),(a.1,(((m.getD []).length:Int),((s:Int),(m,(z0,(a.2,(hde w.length w.length,y))))))))))
   (fun s a=>(a.1=if 0<maxQ (fun s=>x s*bestQ m w 0 s) s then (argQ (fun s=>x s*bestQ m w 0 s) s:Int) else -1)/\RRV a.2 (maxQ (fun s=>x s*bestQ m w 0 s) s)) ((-(1:Int)),z) rfl ⟨?_,hz⟩ (fun p=>p.2.2.2.2.1.toNat) (fun _ _=>rfl) (fun _ _ _=>rfl) ?_ ?_
  . simp[maxQ]
  . rintro k3 s ⟨ag,top⟩ hs ⟨j1,j2⟩ hk3
    have j1:ag=if 0<maxQ (fun s=>x s*bestQ m w 0 s) s then (argQ (fun s=>x s*bestQ m w 0 s) s:Int) else -1:=j1
    have j2:RRV top (maxQ (fun s=>x s*bestQ m w 0 s) s):=j2
    dsimp only
    have h00:eltN none (hde w.length w.length) (toN (0:Int))=some (w.length - 1 - 0):=q49 (i:=0) h0w (by omega)
    rw[h00,q1h]
    have hd0:=hd.2 s hs
    have ht0:=(hT 0 h0w).2 s hs
    refine⟨in_s (by rw[hd.1];exact hs),in_s (i:=0) (by rw[q2b];exact h0w),in_h (hT 0 h0w) hs,(q4i (k:=3000) hd0 ht0 ((hx s hs).fitB.mono (by decide)) ((hbq 0 s hs).fitB.mono (by decide)) (by decide)).mono fun v hv=>?_⟩
    refine (q4S (k:=3000) hv j2 ((hGq s hs).fitB.mono (by decide)) ((maxQ_qb (e:=1001) s fun t ht=>hGq t (by omega)).fitB.mono (by decide)) (by decide)).mono ?_
    rintro _ rfl
    refine joinR (fun q=>∃ ag' top',q=(d,((w.length:Int),(ag',(((m.getD []).length:Int),((s:Int),(m,(z0,(top',(hde w.length w.length,y)))))))))/\(ag'=if 0<maxQ (fun s=>x s*bestQ m w 0 s) (s+1) then (argQ (fun s=>x s*bestQ m w 0 s) (s+1):Int) else -1)/\RRV top' (maxQ (fun s=>x s*bestQ m w 0 s) (s+1))) ?_ ?_
    . rintro _ ⟨ag',top',rfl,a1,a2⟩
      dsimp only
      rw[wi1 hs (by omega)]
      exact hk3 (ag',top') ⟨a1,a2⟩
    . intro k7 hk7
      refine br_c (fun hb=>?_) fun hb=>?_
      . have hb:=q2f.1 (dec_t hb:(0:Int)<_)
        refine hk7 _ ⟨_,_,rfl,?_,?_⟩
        . simp only[argQ,maxQ]
          have h3:=maxQ_nn (f:=fun s=>x s*bestQ m w 0 s) s
          rw[if_pos hb,if_pos hb,if_pos (by grind)]
        . simp only[maxQ];rw[if_pos hb];exact hv
      . have hb:¬ _:=fun g=>dec_f hb (q2f.2 g)
        refine hk7 _ ⟨_,_,rfl,?_,?_⟩
        . simp only[argQ,maxQ]
          rw[if_neg hb,if_neg hb];exact j1
        . simp only[maxQ];rw[if_neg hb];exact j2
  . rintro _ ⟨ag,top⟩ ⟨j1,j2⟩
    have j1:ag=if 0<topQ m x w 0 then (atQ m x w 0:Int) else -1:=j1
    have j2:RRV top (topQ m x w 0):=j2
    dsimp only
    by_cases hp:0<topQ m x w 0
    case neg=>
     rw[if_neg hp] at j1
     subst j1
     refine br_t (decide_eq_true (by show (-1:Int)<0;decide)) (.inr (.inl ⟨ene,?_,rfl,rfl⟩))
     have:=q6X (m:=m) (x:=x) (view:=w) 0
     grind
    rw[if_pos hp] at j1
    subst j1
    refine br_f (decide_eq_false (by omega)) ?_
    refine loopE (fun p=>∃ i:Nat,p=((w.length:Int),((atQ m x w i:Int),(((i+1:Nat):Int),(m,(z0,(top,(hde w.length w.length,(optL (tab (fun i=>(atQ m x w i:Int)) (i+1)),y))))))))/\i<w.length) (fun p=>w.length+1 - p.2.2.1.toNat) ⟨0,rfl,h0w⟩ ?_
    rintro _ ⟨i,rfl,hi⟩
    dsimp only
    refine br_c (fun gi=>?_) fun gi=>?_
    case refine_2=>
     have gi:¬ ((i+1:Nat):Int)<(w.length:Int):=dec_f gi
     obtain e:i+1=w.length:=by omega
     rw[e]
     exact .inr (.inr ⟨ene,hp,rfl,j2,rfl⟩)
    have gi:((i+1:Nat):Int)<(w.length:Int):=dec_t gi
    have hpi:=q50 hp i hi
    obtain⟨ha,_,hbp⟩:=top_at hpi
    have hsucc:=q6Y (by omega) hpi
    generalize hA:atQ m x w i=a at *
    have eT:topQ m x w (i+1)=maxQ (fun t=>rowQ m a t*bestQ m w (i+1) t) (m.getD []).length:=by rw[<-hA];rfl
    have eAt:atQ m x w (i+1)=argQ (fun t=>rowQ m a t*bestQ m w (i+1) t) (m.getD []).length:=by rw[<-hA];rfl
    rw[eT] at hsucc
    refine (q5p hm ha).mono fun c hc=>?_
    obtain⟨b1,_,b3⟩:=hm.bs ha
    have e2:szSl c.2=((bs_ m a).length:Int):=by show ((c.2.getD []).length:Int)=_;rw[hc]
    rw[e2]
    refine joinR (fun q=>q=((w.length:Int),((atQ m x w (i+1):Int),(((i+1:Nat):Int),(m,(z0,(top,(hde w.length w.length,(optL (tab (fun i=>(atQ m x w i:Int)) (i+1)),y))))))))) ?_ ?_
    . rintro _ rfl
      dsimp only
      rw[wi1 (i:=i+1) (n:=w.length) (by omega) (by omega)]
      refine⟨?_,⟨i+1,?_,by omega⟩,?_⟩
      . show (((optL (tab _ (i+1))).getD []).length+1)*8<=140737488355328
        rw[q07,tab_len];omega
      . have e:appL (optL (tab (fun i=>(atQ m x w i:Int)) (i+1))) (lst (some [(atQ m x w (i+1):Int)]))=optL (tab (fun i=>(atQ m x w i:Int)) (i+1+1)):=by
         rw[q31 _ (i+1),<-q1k];rfl
        rw[e]
      . show w.length+1 - ((i+1+1:Nat):Int).toNat<w.length+1 - ((i+1:Nat):Int).toNat
        omega
    intro k8 hk8
    refine rangeB (n:=(bs_ m a).length) (fun j (_:Unit)=>((w.length:Int),((a:Int),(((i+1:Nat):Int),(c.2,(((bs_ m a).length:Int),((j:Int),(m,(z0,(top,(hde w.length w.length,(optL (tab (fun i=>(atQ m x w i:Int)) (i+1)),y))))))))))))
     (fun j _=>∀ j',j'<j->numQ (br (bs_ m a) j').2*bestQ m w (i+1) (br (bs_ m a) j').1.toNat≠bestQ m w i a) () rfl (fun j hj=>absurd hj (by omega)) (fun p=>p.2.2.2.2.2.1.toNat) (fun _ _=>rfl) (fun _ _ _=>rfl) ?_ ?_
    . rintro k9 j _ hj hno hk9
      dsimp only
      obtain⟨c1,c2,c3⟩:=b3 j hj
      obtain⟨t,ht⟩:∃ t:Nat,(br (bs_ m a) j).1=(t:Int):=⟨(br (bs_ m a) j).1.toNat,by omega⟩
      have htN:t<(m.getD []).length:=by omega
      have ew:IntKind.wrap IntKind.i64 (((i+1:Nat):Int) - 1)=(i:Int):=by rw[wi64 (by omega) (by omega)];omega
      rw[q29,hc,ew,q49 (i:=i+1) (by omega) (by omega),q49 (i:=i) (by omega) (by omega),ht]
      have hnx:=hT (i+1) (by omega)
      have hcu:=hT i (by omega)
      refine⟨in_s (by rw[hc];exact hj),(r_To c3).mono fun u hu=>⟨in_s (i:=i+1) (by rw[q2b];omega),in_h hnx htN,(q4i (k:=3000) hu (hnx.2 t htN) ((numQ_qb c3).fitB.mono (by decide)) ((hbq _ t htN).fitB.mono (by decide)) (by decide)).mono fun v hv=>⟨in_s (i:=i) (by rw[q2b];omega),in_h hcu ha,?_⟩⟩⟩
      refine (q4S (k:=3000) hv (hcu.2 a ha) (((numQ_qb c3).mul (hbq _ t htN)).fitB.mono (by decide)) ((hbq _ a ha).fitB.mono (by decide)) (by decide)).mono ?_
      rintro _ rfl
      refine br_c (fun hb=>?_) fun hb=>?_
      . have hb:=rrv_zero (dec_t hb)
        have hb:numQ (br (bs_ m a) j).2*bestQ m w (i+1) t=bestQ m w i a:=by grind
        have key:=qgA hm ha (f:=bestQ m w (i+1)) (fun t=>q7b _ _) hj (by rw[hsucc];exact hbp) (by rw[hsucc,ht,Int.toNat_natCast];exact hb) (fun j' hj'=>by rw[hsucc];exact hno j' hj')
        rw[<-eAt,ht] at key
        rw[<-key]
        exact hk8 _ rfl
      . have hb:=dec_f hb
        rw[wi1 hj (by omega)]
        refine hk9 () fun j' hj'=>?_
        by_cases e:j'=j
        . subst e
          rw[ht,Int.toNat_natCast]
          intro e
          apply hb
          rw[e,Rat.sub_self];rfl
        . exact hno j' (by omega)
    . intro k9 _ hno
      exfalso
      obtain⟨j,hj,hjv⟩:=qaZ hm ha (f:=bestQ m w (i+1)) (by rw[hsucc];exact hbp)
      exact hno j hj (by rw[hjv,hsucc])
 have g:(0:Int)<=(w.length:Int) - 1 - (k:Int):=dec_t g
 obtain⟨i,hi⟩:∃ i:Nat,(w.length:Int) - 1 - (k:Int)=(i:Int):=⟨w.length - 1 - k,by omega⟩
 have hik:i+k+1=w.length:=by omega
 rw[hi]
 refine q4j (by omega) fun z hz=>⟨in_s (by rw[q2b];omega),?_⟩
 cases z with
 | none=>
  have:0=(m.getD []).length:=hz.1
  omega
 | some l=>
 have e3:setO (hde w.length k) (toN (i:Int)) (gvH (α:=List DRR) (some l) (lenL y))=hde w.length (k+1):=by
  show setO (hde w.length k) i (some y.length)=_
  rw[y1,hde_set hik]
 rw[e3]
 refine rangeB (n:=(m.getD []).length) (fun s y=>(d,(view,((w.length:Int),((i:Int),(m,(((m.getD []).length:Int),((s:Int),(m,(z0,(hde w.length (k+1),y))))))))))) (fun s y=>PT m w k (m.getD []).length (fun t=>if t<s then bestQ m w i t else 0) y) (gvL y (some l)) rfl ⟨?_,fun s hs=>?_,?_⟩ (fun p=>p.2.2.2.2.2.2.1.toNat) (fun _ _=>rfl) (fun _ _ _=>rfl) ?_ ?_
 . show (y ++ [_]).length=k+1
   rw[List.length_append,y1];rfl
 . show TL (some ((y ++ [_]).getD s [])) _ _
   rw[List.getD_eq_getElem?_getD,List.getElem?_append_left (by rw[y1];exact hs),<-List.getD_eq_getElem?_getD]
   exact y2 s hs
 . show TL (some ((y ++ [_]).getD k [])) _ _
   rw[List.getD_eq_getElem?_getD,List.getElem?_append_right (by omega),y1,Nat.sub_self]
   exact hz.congr fun j _=>if_neg (by omega)
 . clear y1 y2 e3
   intro k3 s y hs hy hk3
   dsimp only
   rw[q0s,q1E,hV]
   refine joinR (fun p=>∃ y',p=(d,(view,((w.length:Int),((i:Int),(m,(((m.getD []).length:Int),((s:Int),(m,(z0,(hde w.length (k+1),y'))))))))))/\PT m w k (m.getD []).length (fun t=>if t<s+1 then bestQ m w i t else 0) y') ?_ ?_
   . rintro _ ⟨y',rfl,hy'⟩
     dsimp only
     rw[wi1 hs (by omega)]
     exact hk3 y' hy'
   intro k5 hk5
   refine⟨in_s hs,in_s (by rw[hV];omega),br_c (fun gm=>?_) fun gm=>?_⟩
   . have gm:¬ (stt (m.getD []) s).2.1=int w i:=not_t gm
     refine hk5 _ ⟨y,rfl,hy.congr fun t _=>?_⟩
     try dsimp only
     by_cases g1:t<s
     . rw[if_pos g1,if_pos (by omega)]
     . rw[if_neg g1]
       by_cases g2:t=s
       . subst g2;rw[if_pos (by omega),qdR (by omega) gm]
       . rw[if_neg (by omega)]
   have gm:(stt (m.getD []) s).2.1=int w i:=not_f gm
   rw[wi64 (x:=(w.length:Int) - 1) (by omega) (by omega)]
   have hki:w.length - 1 - i=k:=by omega
   refine br_c (fun gl=>?_) fun gl=>?_
   . have gl:(i:Int)=(w.length:Int) - 1:=dec_t gl
     refine⟨in_s (by rw[q2b];omega),(q13 (n:=1) (by decide) (by decide)).mono fun w1 hw1=>?_⟩
     rw[q49 (by omega) (by omega),hki]
     refine⟨in_h hy.2.2 hs,hk5 _ ⟨_,rfl,hy.set (s:=s) hs ?_ fun t _ ht=>?_⟩⟩
     . show RRV w1 (if s<s+1 then bestQ m w i s else 0)
       rw[if_pos (by omega),q5W (by omega),seenQ,if_pos gm];exact hw1
     . try dsimp only
       by_cases g1:t<s
       . rw[if_pos g1,if_pos (by omega)]
       . rw[if_neg g1,if_neg (by omega)]
   have gl:¬ (i:Int)=(w.length:Int) - 1:=dec_f gl
   have hi1:i+1<w.length:=by omega
   have ebs:bestQ m w i s=mxB (bs_ m s) (bestQ m w (i+1)) (bs_ m s).length:=by
    rw[q5X hi1,seenQ,if_pos gm,mxB_max hm hs]
   refine (q5p hm hs).mono fun c hc=>?_
   obtain⟨b1,_,b3⟩:=hm.bs hs
   have e2:szSl c.2=((bs_ m s).length:Int):=by show ((c.2.getD []).length:Int)=_;rw[hc]
   rw[e2]
   have hBq:∀ j,j<(bs_ m s).length->NumOk (br (bs_ m s) j).2/\QB 1000 (bestQ m w (i+1) (br (bs_ m s) j).1.toNat):=fun j hj=>by
    obtain⟨c1,c2,c3⟩:=b3 j hj
    exact⟨c3,hbq _ _ (by omega)⟩
   refine rangeB (n:=(bs_ m s).length) (fun j y=>(d,(view,((w.length:Int),((i:Int),((s:Int),(m,(((m.getD []).length:Int),((s:Int),(c.2,(((bs_ m s).length:Int),((j:Int),(m,(z0,(hde w.length (k+1),y))))))))))))))) (fun j y=>PT m w k (m.getD []).length (fun t=>if t<s then bestQ m w i t else if t=s then mxB (bs_ m s) (bestQ m w (i+1)) j else 0) y) y rfl (hy.congr fun t _=>?_) (fun p=>p.2.2.2.2.2.2.2.2.2.2.1.toNat) (fun _ _=>rfl) (fun _ _ _=>rfl) ?_ ?_
   . try dsimp only
     by_cases g1:t<s
     . rw[if_pos g1,if_pos g1]
     . rw[if_neg g1,if_neg g1]
       split<;>rfl
   . intro k7 j y hj hy hk7
     dsimp only
     obtain⟨c1,c2,c3⟩:=b3 j hj
     obtain⟨t,ht⟩:∃ t:Nat,(br (bs_ m s) j).1=(t:Int):=⟨(br (bs_ m s) j).1.toNat,by omega⟩
     have htN:t<(m.getD []).length:=by omega
     rw[q29,hc,wi1 (i:=i) (n:=w.length) (by omega) (by omega),q49 (i:=i+1) (by omega) (by omega),q49 (i:=i) (by omega) (by omega),ht,hki,show w.length - 1 - (i+1)=k - 1 by omega]
     have hnx:TL (some (y.getD (k - 1) [])) (bestQ m w (i+1)) (m.getD []).length:=by
      have:=hy.2.1 (k - 1) (by omega)
      rwa [show w.length - 1 - (k - 1)=i+1 by omega] at this
     refine⟨in_s (by rw[hc];exact hj),(r_To c3).mono fun u hu=>⟨in_s (i:=i+1) (by rw[q2b];omega),in_h hnx htN,(q4i (k:=3000) hu (hnx.2 t htN) ((numQ_qb c3).fitB.mono (by decide)) ((hbq _ t htN).fitB.mono (by decide)) (by decide)).mono fun v hv=>⟨in_s (i:=i) (by rw[q2b];omega),in_h hy.2.2 hs,?_⟩⟩⟩
     have hvs:=hy.2.2.2 s hs
     dsimp only at hvs
     rw[if_neg (by omega),if_pos rfl] at hvs
     refine (q4S (k:=3000) hv hvs (((numQ_qb c3).mul (hbq _ t htN)).fitB.mono (by decide)) ((mxB_qb hBq j (by omega)).fitB.mono (by decide)) (by decide)).mono ?_
     rintro _ rfl
     refine joinR (fun q=>∃ y',q=(d,(view,((w.length:Int),((i:Int),((s:Int),(m,(((m.getD []).length:Int),((s:Int),(c.2,(((bs_ m s).length:Int),((j:Int),(m,(z0,(hde w.length (k+1),y'))))))))))))))/\PT m w k (m.getD []).length (fun t=>if t<s then bestQ m w i t else if t=s then mxB (bs_ m s) (bestQ m w (i+1)) (j+1) else 0) y') ?_ ?_
     . rintro _ ⟨y',rfl,hy'⟩
       dsimp only
       rw[wi1 hj (by omega)]
       exact hk7 y' hy'
     . intro k12 hk12
       refine br_c (fun hb=>?_) fun hb=>?_
       . have hb:=q2f.1 (dec_t hb:(0:Int)<_)
         refine⟨in_s (i:=i) (by rw[q2b];omega),in_h hy.2.2 hs,hk12 _ ⟨_,rfl,hy.set (s:=s) hs ?_ fun t' _ ht'=>?_⟩⟩
         . show RRV v (if s<s then _ else if s=s then mxB _ _ (j+1) else 0)
           rw[if_neg (by omega),if_pos rfl]
           simp only[mxB]
           rw[ht,Int.toNat_natCast,if_pos hb];exact hv
         . try dsimp only
           by_cases g1:t'<s
           . rw[if_pos g1,if_pos g1]
           . rw[if_neg g1,if_neg g1,if_neg ht',if_neg ht']
       . have hb:¬ _:=fun g=>dec_f hb (q2f.2 g)
         refine hk12 _ ⟨y,rfl,hy.congr fun t' _=>?_⟩
         simp only[mxB]
         rw[ht,Int.toNat_natCast,if_neg hb]
   . intro k7 y hy
     dsimp only
     refine hk5 _ ⟨y,rfl,hy.congr fun t _=>?_⟩
     try dsimp only
     by_cases g1:t<s
     . rw[if_pos g1,if_pos (by omega)]
     . rw[if_neg g1]
       by_cases g2:t=s
       . subst g2;rw[if_pos (by omega),if_pos rfl,ebs]
       . rw[if_neg g2,if_neg (by omega)]
 . clear y1 y2 e3
   intro k3 y hy
   dsimp only
   refine⟨⟨k+1,y,?_,by omega,hy.1,fun j hj=>?_⟩,?_⟩
   . rw[wi64 (by omega) (by omega)]
     rw[show (i:Int) - 1=(w.length:Int) - 1 - ((k+1:Nat):Int) by omega]
   . rcases Nat.lt_or_ge j k with hlt | hge
     . exact hy.2.1 j hlt
     . obtain rfl:j=k:=by omega
       rw[show w.length - 1 - j=i by omega]
       exact hy.2.2.congr fun t ht=>(if_pos ht).symm
   . show (IntKind.wrap IntKind.i64 ((i:Int) - 1)+1).toNat<((i:Int)+1).toNat
     rw[wi64 (by omega) (by omega)];omega
end Go.Proofs.Pf.B
namespace Go.Proofs.Pf.B
open Go Go.VM
theorem s_Or (a b:Bool) (c:DR):callV Pg q0K [⟨.bool,a⟩,⟨.bool,b⟩,⟨tER,c⟩] .bool fun r=>r=(a || b):=by
 refine qlS a b c ⟨_,rfl⟩ (joinR (fun p=>p=(a || b)) (fun _ h=>h) fun k hk=>br_c (fun h=>?_) fun h=>?_)
 . subst h;exact hk _ rfl
 . subst h;exact hk _ (by cases b<;>rfl)
theorem BL.congr {l:Option (List Bool)} {f g:Nat->Rat} {n:Nat} (h:BL l f n) (e:∀ j,j<n->(0<g j↔0<f j)):BL l g n:=⟨h.1,fun i hi=>(h.2 i hi).trans (e i hi).symm⟩
theorem BL.zero (n:Nat):BL (some (repS (n:Int) false)) (fun _=>0) n:=by
 refine⟨by show (List.replicate (n:Int).toNat false).length=n;simp,fun i hi=>?_⟩
 show ((List.replicate (n:Int).toNat false).getD i false=true)↔_
 rw[List.getD_eq_getElem?_getD,List.getElem?_replicate]
 refine⟨fun h=>?_,fun h=>absurd h (by grind)⟩
 split at h<;>cases h
theorem BL.set {l:Option (List Bool)} {f g:Nat->Rat} {n i:Nat} {z:Bool} (h:BL l f n) (hi:i<n) (hz:z=true↔0<g i) (hg:∀ j,j<n->j≠i->(0<g j↔0<f j)):BL (setO l i z) g n:=by
 obtain⟨h1,h2⟩:=h
 cases l with
 | none=>have h1:0=n:=h1;omega
 | some l=>
  have h1:l.length=n:=h1
  refine⟨by show (l.set i z).length=n;rw[List.length_set];exact h1,fun j hj=>?_⟩
  show ((l.set i z).getD j false=true)↔_
  rw[List.getD_eq_getElem?_getD,List.getElem?_set]
  by_cases e:i=j
  . subst e
    rw[if_pos rfl,if_pos (by omega)];exact hz
  . rw[if_neg e,<-List.getD_eq_getElem?_getD]
    exact (h2 j hj).trans (hg j hj (fun q=>e q.symm)).symm
theorem BL.ex (f:Nat->Rat) (n:Nat):∃ r,BL r f n:=by
 refine⟨some (tab (fun i=>decide (0<f i)) n),tab_len _ _,fun i hi=>?_⟩
 rw[show ((some (tab (fun i=>decide (0<f i)) n)).getD []).getD i false=decide (0<f i) from tab_get _ _ _ _ hi]
 exact decide_eq_true_iff
theorem BL.sz {l:Option (List Bool)} {f:Nat->Rat} {n:Nat} (h:BL l f n):szSl l=(n:Int):=by show ((l.getD []).length:Int)=n;rw[h.1]
theorem eltS_b {l:Option (List Bool)} {i:Nat}:eltS false l (i:Int)=(l.getD []).getD i false:=by simp only[eltS,Int.toNat_natCast]
theorem eltN_b {l:Option (List Bool)} {i:Nat}:eltN false l (toN (i:Int))=(l.getD []).getD i false:=by simp only[eltN,toN,Int.toNat_natCast]
theorem s_seenB {m:DMo} {l:Option (List Bool)} {f:Nat->Rat} {k:Int} (hl:BL l f (m.getD []).length) (hn:(m.getD []).length<=1000):
 callV Pg q46 [⟨tMo,m⟩,⟨(.sl .bool),l⟩,⟨tI,k⟩] (.sl .bool) fun r=>BL r (seenQ m f k) (m.getD []).length:=by
 refine qm9 m l k (BL.ex _ _) ⟨?_,?_⟩
 . rw[hl.sz]
   show 0<=((m.getD []).length:Int)/\((m.getD []).length:Int)<=((m.getD []).length:Int)/\((m.getD []).length:Int)*1<=281474976710656
   omega
 rw[hl.sz]
 refine rangeB (n:=(m.getD []).length) (fun i x=>(l,(k,(m,(((m.getD []).length:Int),((i:Int),x)))))) (fun i x=>BL x (fun s=>if s<i then seenQ m f k s else 0) (m.getD []).length) (some (repS ((m.getD []).length:Int) false)) rfl ((BL.zero _).congr fun j _=>by rw[if_neg (by omega)]) (fun p=>p.2.2.2.2.1.toNat) (fun _ _=>rfl) (fun _ _ _=>rfl) ?_ ?_
 . intro k0 i x hi hx hk0
   dsimp only
   rw[q0s]
   have old:∀ j,j<(m.getD []).length->j≠i->((0<if j<i+1 then seenQ m f k j else 0)↔0<if j<i then seenQ m f k j else 0):=fun j _ hj=>by
    by_cases q:j<i
    . rw[if_pos q,if_pos (by omega)]
    . rw[if_neg q,if_neg (by omega)]
   refine⟨in_s hi,joinR (fun p=>∃ x,p=(l,(k,(m,(((m.getD []).length:Int),((i:Int),x)))))/\BL x (fun s=>if s<i+1 then seenQ m f k s else 0) (m.getD []).length) ?_ ?_⟩
   . rintro _ ⟨x,rfl,hx⟩
     dsimp only
     rw[wi1 hi (by omega)]
     exact hk0 _ hx
   . intro k2 hk2
     refine br_c (fun g=>?_) fun g=>?_
     . have g:(stt (m.getD []) i).2.1=k:=dec_t g
       refine⟨in_s (by rw[hl.1];exact hi),in_s (by rw[hx.1];exact hi),hk2 _ ⟨_,rfl,?_⟩⟩
       rw[show toN (i:Int)=i from Int.toNat_natCast i,eltS_b]
       refine hx.set hi ?_ old
       rw[if_pos (by omega),seen_at g]
       exact hl.2 i hi
     . have g:¬ (stt (m.getD []) i).2.1=k:=dec_f g
       refine hk2 _ ⟨x,rfl,hx.congr fun j hj=>?_⟩
       by_cases q:j=i
       . subst q
         rw[if_pos (by omega),if_neg (by omega),show seenQ m f k j=0 from if_neg g]
       . exact old j hj q
 . intro _ x hx
   exact hx.congr fun j hj=>by rw[if_pos hj]
set_option maxHeartbeats 4000000 in
theorem s_movedP {m:DMo} {p:Option (List (Option (List DR)))} {l:Option (List Bool)} {x:Nat->Rat} (hm:moOk m) (hp:RM p (rowQ m) (m.getD []).length) (hl:BL l x (m.getD []).length) (hx0:∀ s,s<(m.getD []).length->0<=x s):
 callV Pg q45 [⟨(.sl (.sl tER)),p⟩,⟨(.sl .bool),l⟩,⟨.bool,false⟩,⟨(.cst (.fn q0K)),()⟩] (.sl .bool) fun r=>BL r (stepQ (rowQ m) x (m.getD []).length) (m.getD []).length:=by
 obtain⟨p1,p2⟩:=hp
 have hn:=hm.1.2
 generalize hN:(m.getD []).length=n at *
 have e2:szSl p=(n:Int):=by show ((p.getD []).length:Int)=n;rw[p1]
 refine qm5 p l false () (BL.ex _ _) ⟨?_,?_⟩
 . rw[hl.sz]
   show 0<=(n:Int)/\(n:Int)<=n/\(n:Int)*1<=281474976710656
   omega
 rw[hl.sz,e2]
 have snn:∀ a,a<=n->∀ t,0<=stepQ (rowQ m) x a t:=fun a ha t=>sum_nn a fun s hs=>Rat.mul_nonneg (hx0 s (by omega)) (hm.rownn (by omega) t)
 refine rangeB (n:=n) (fun i y=>(p,(l,(false,((n:Int),((i:Int),y)))))) (fun i y=>BL y (stepQ (rowQ m) x i) n) (some (repS (n:Int) false)) rfl (BL.zero n) (fun p=>p.2.2.2.2.1.toNat) (fun _ _=>rfl) (fun _ _ _=>rfl) ?_ ?_
 . intro k0 i y hi hy hk0
   try dsimp only
   obtain⟨r1,r2⟩:=p2 i hi
   refine⟨in_s (by omega),?_⟩
   rw[q10]
   generalize hr:(p.getD []).getD i none=r at *
   have e3:szSl r=(n:Int):=by show ((r.getD []).length:Int)=n;rw[r1]
   rw[e3]
   refine rangeB (n:=n) (fun j z=>(p,(l,(false,((i:Int),((n:Int),((i:Int),(r,((n:Int),((j:Int),z)))))))))) (fun j z=>BL z (fun t=>if t<j then stepQ (rowQ m) x (i+1) t else stepQ (rowQ m) x i t) n) y rfl (hy.congr fun j _=>by rw[if_neg (by omega)]) (fun p=>p.2.2.2.2.2.2.2.2.1.toNat) (fun _ _=>rfl) (fun _ _ _=>rfl) ?_ ?_
   . intro k1 j z hj hz hk1
     try dsimp only
     refine⟨in_s (by omega),?_⟩
     rw[q05]
     have hc:=r2 j hj
     have old:∀ t,t<n->t≠j->((0<if t<j+1 then stepQ (rowQ m) x (i+1) t else stepQ (rowQ m) x i t)↔0<if t<j then stepQ (rowQ m) x (i+1) t else stepQ (rowQ m) x i t):=fun t _ ht=>by
      by_cases q:t<j
      . rw[if_pos q,if_pos (by omega)]
      . rw[if_neg q,if_neg (by omega)]
     refine (q14 hc).mono fun sg hsg=>?_
     subst hsg
     refine joinE (br_c (fun hb=>?_) fun hb=>?_)
     . try dsimp only
       rw[wi1 hj (by omega)]
       refine hk1 _ (hz.congr fun t ht=>?_)
       have h0:=rv_zero hc (dec_t hb)
       by_cases q:t=j
       . subst q
         rw[if_pos (by omega),if_neg (by omega),show stepQ (rowQ m) x (i+1) t=stepQ (rowQ m) x i t+x i*rowQ m i t from rfl,h0,Rat.mul_zero,Rat.add_zero]
       . exact old t ht q
     . have hne:rowQ m i j≠0:=fun e=>by
        have hb:=dec_f hb
        rw[e] at hb
        exact hb (by decide)
       refine joinE (br_f rfl ⟨in_s (by rw[hz.1];exact hj),in_s (by rw[hl.1];exact hi),?_⟩)
       rw[eltN_b,eltS_b]
       refine (s_Or _ _ _).mono ?_
       rintro _ rfl
       refine⟨in_s (by rw[hz.1];exact hj),?_⟩
       try dsimp only
       rw[wi1 hj (by omega),show toN (j:Int)=j from Int.toNat_natCast j]
       refine hk1 _ (hz.set hj ?_ old)
       rw[if_pos (by omega),Bool.or_eq_true,hz.2 j hj,hl.2 i hi]
       dsimp only
       rw[if_neg (by omega),show stepQ (rowQ m) x (i+1) j=stepQ (rowQ m) x i j+x i*rowQ m i j from rfl]
       have a1:=snn i (by omega) j
       have a2:=hx0 i hi
       have a3:=hm.rownn (s:=i) (by omega) j
       have a4:=Rat.mul_nonneg a2 a3
       have a5:=mul_pos' a2 a3
       have a6:0<rowQ m i j:=by grind
       constructor
       . rintro (q | q)
         . grind
         . have:=a5.2 ⟨q,a6⟩;grind
       . intro q
         by_cases w:0<stepQ (rowQ m) x i j
         . exact .inl w
         . exact .inr (a5.1 (by grind)).1
   . intro _ z hz
     try dsimp only
     rw[wi1 hi (by omega)]
     exact hk0 _ (hz.congr fun t ht=>by rw[if_pos ht])
 . intro _ y hy
   exact hy
theorem s_Poss2 {l:Option (List Bool)} {f:Nat->Rat} {n i:Nat} (hl:BL l f n) (hi:i<n):callV Pg q1d [⟨tI,(i:Int)⟩,⟨(.fref (.sl .bool)),l⟩] .bool fun r=>r=true↔0<f i:=by
 refine qlT i l ⟨decide (0<f i),decide_eq_true_iff⟩ ⟨in_s (by rw[hl.1];exact hi),?_⟩
 rw[eltS_b];exact hl.2 i hi
theorem s_MarkedP {l:Option (List Bool)} {f:Nat->Rat} {n:Nat} (hl:BL l f n) (hn:n<=1000000):
 callV Pg q3a [⟨tI,(n:Int)⟩,⟨(.clo q1d (.pair (.fref (.sl .bool)) .unit)),(l,())⟩] tL fun r=>r=optL (posL f n):=by
 refine qkc n _ ⟨_,rfl⟩ ?_
 refine rangeB (n:=n) (fun i r=>((l,()),((n:Int),((i:Int),r)))) (fun i r=>r=optL (posL f i)) none rfl rfl (fun p=>p.2.2.1.toNat) (fun _ _=>rfl) (fun _ _ _=>rfl) ?_ ?_
 . rintro k0 i _ hi rfl hk0
   dsimp only
   refine (s_Poss2 hl hi).mono fun r hr=>joinE (br_c (fun h=>?_) fun h=>?_)
   . refine⟨?_,?_⟩
     . show (((optL (posL f i)).getD []).length+1)*8<=140737488355328
       have:=posL_len (f:=f) i
       rw[q07];omega
     . dsimp only
       rw[wi1 hi (by omega)]
       refine hk0 _ ?_
       show appL (optL (posL f i)) [(i:Int)]=optL (posL f (i+1))
       rw[q1k]
       simp only[posL]
       rw[if_pos (hr.1 h)]
   . dsimp only
     rw[wi1 hi (by omega)]
     refine hk0 _ ?_
     simp only[posL]
     rw[if_neg fun g=>by rw[hr.2 g] at h;cases h]
 . rintro _ _ rfl
   rfl
theorem num_pos {a:Int×Int} (h:NumOk a):0<numQ a↔0<a.1:=by
 rw[<-q5q,h.q.1,sgn_pos]
set_option maxHeartbeats 4000000 in
theorem qjt (m:DMo) (d:Option (List (Int×Int))) (v:DL) (hd:(d.getD []).length<=1000) (hv:(v.getD []).length<4611686018427387904):
 callV Pg q3Z [⟨tMo,m⟩,⟨(.sl tNum),d⟩,⟨tL,v⟩] (.tup (.pair tL (.pair tI .unit))) fun r=>r=possQ m (d.getD []) (v.getD []):=by
 refine qlR m d v ⟨_,rfl⟩ ((q4W m d v hd hv).mono ?_)
 rintro _ rfl
 by_cases h:askedQ m (d.getD []) (v.getD [])=0
 case neg=>
  rw[decide_eq_false h]
  exact br_t rfl (by rw[possQ,if_neg h])
 rw[decide_eq_true h]
 obtain⟨h1,h2,h3,h4⟩:=q1p h
 have hn:=h1.1.2
 have hdn:=h2.2.1
 have hvl:=h3.1
 have hd0:∀ s,s<(m.getD []).length->0<=dQ (d.getD []) s:=fun s hs=>dQ_nn (fun i hi=>(h2.1 i hi).2) s (by omega)
 refine br_f rfl ((q4p h1).mono fun rows hp=>?_)
 have esz:szSl m=((m.getD []).length:Int):=rfl
 have esd:szSl d=((m.getD []).length:Int):=by show ((d.getD []).length:Int)=_;rw[hdn]
 have esv:szSl v=((v.getD []).length:Int):=rfl
 rw[esz,esd]
 refine⟨⟨by omega,by omega,by omega⟩,?_⟩
 refine rangeB (n:=(m.getD []).length) (fun i x=>(v,(rows,(d,(((m.getD []).length:Int),((i:Int),(m,((),x)))))))) (fun i x=>BL x (fun s=>if s<i then dQ (d.getD []) s else 0) (m.getD []).length) (some (repS ((m.getD []).length:Int) false)) rfl ((BL.zero _).congr fun j _=>by rw[if_neg (by omega)]) (fun p=>p.2.2.2.2.1.toNat) (fun _ _=>rfl) (fun _ _ _=>rfl) ?_ ?_
 . intro k2 i x hi hx hk2
   (try dsimp only)
   rw[q4E]
   refine⟨in_s (by omega),in_s (by rw[hx.1];exact hi),?_⟩
   rw[wi1 hi (by omega),show toN (i:Int)=i from Int.toNat_natCast i]
   refine hk2 _ (hx.set hi ?_ fun j _ hj=>?_)
   . rw[if_pos (by omega),decide_eq_true_eq,h2.1.dq (by omega)]
     exact (num_pos (h2.1 i (by omega)).1).symm
   . by_cases q:j<i
     . rw[if_pos q,if_pos (by omega)]
     . rw[if_neg q,if_neg (by omega)]
 intro _ x hx
 dsimp only
 have hx:BL x (fwdQ m (dQ (d.getD [])) (v.getD []) 0) (m.getD []).length:=hx.congr fun j hj=>by rw[if_pos hj];rfl
 rw[esv]
 refine rangeB (n:=(v.getD []).length) (fun i x=>(rows,(v,(((v.getD []).length:Int),((i:Int),(m,x)))))) (fun i x=>BL x (fwdQ m (dQ (d.getD [])) (v.getD []) i) (m.getD []).length) x rfl hx (fun p=>p.2.2.2.1.toNat) (fun _ _=>rfl) (fun _ _ _=>rfl) ?_ ?_
 . intro k4 i x hi hx hk4
   dsimp only
   rw[q1E]
   refine⟨in_s hi,joinR (fun p=>∃ x,p=(rows,(int (v.getD []) i,(v,(((v.getD []).length:Int),((i:Int),(m,x))))))/\BL x (if i=0 then dQ (d.getD []) else stepQ (rowQ m) (fwdQ m (dQ (d.getD [])) (v.getD []) i) (m.getD []).length) (m.getD []).length) ?_ ?_⟩
   . rintro _ ⟨x,rfl,hx⟩
     dsimp only
     refine (s_seenB hx (by omega)).mono fun y hy=>?_
     rw[wi1 hi (by omega)]
     exact hk4 _ hy
   . intro k6 hk6
     refine br_c (fun g=>?_) fun g=>?_
     . have g:(0:Int)<(i:Int):=dec_t g
       refine (s_movedP h1 hp hx (fwd_nn h1 hd0 i)).mono fun y hy=>hk6 _ ⟨y,rfl,?_⟩
       rw[if_neg (by omega)];exact hy
     . have g:¬ (0:Int)<(i:Int):=dec_f g
       obtain rfl:i=0:=by omega
       exact hk6 _ ⟨x,rfl,hx⟩
 . intro _ x hx
   dsimp only
   rw[hx.sz]
   refine (s_MarkedP hx (by omega)).mono ?_
   rintro _ rfl
   rw[possQ,if_pos h];rfl
end Go.Proofs.Pf.B
namespace Go.Proofs.Pf.B
open Go Go.VM
theorem s_movedO {p:Option (List (Option (List DR)))} {l:Option (List DR)} {P:Mat} {x:Nat->Rat} {n k:Nat} (hp:RM p P n) (hl:RL l x n) (hn:n<=1000)
 (f1:∀ s t,s<n->t<n->Pf.RFit k (P s t)) (f2:∀ s,s<n->Pf.RFit k (x s)) (f3:∀ s t,s<n->t<n->Pf.RFit k (x t*P s t)) (f4:∀ b s,b<=n->s<n->Pf.RFit k (bkQ P x b s)) (hk:k+k+1<=1073741824):
 ownV Pg q1f [⟨(.sl (.sl tER)),p⟩,⟨(.sl tER),l⟩,⟨.bool,true⟩,⟨(.cst (.fn q0a)),()⟩] tER fun r=>RL r (bkQ P x n) n:=by
 obtain⟨h1,h2⟩:=hl
 obtain⟨p1,p2⟩:=hp
 have e1:szSl l=(n:Int):=by show ((l.getD []).length:Int)=n;rw[h1]
 have e2:szSl p=(n:Int):=by show ((p.getD []).length:Int)=n;rw[p1]
 refine qm7 p l true () (RL.ex _ _) ⟨?_,?_⟩
 . rw[e1]
   show 0<=(n:Int)/\(n:Int)<=n/\(n:Int)*64<=281474976710656
   omega
 . rw[e1,e2]
   refine rangeB (n:=n) (fun i y=>(p,(l,(true,((n:Int),((i:Int),y)))))) (fun i y=>RL y (fun s=>if s<i then bkQ P x n s else 0) n) (some (repS (n:Int) r0)) rfl ((RL.zero n).congr fun j _=>if_neg (by omega)) (fun p=>p.2.2.2.2.1.toNat) (fun _ _=>rfl) (fun _ _ _=>rfl) ?_ ?_
   . intro k0 i y hi hy hk0
     try dsimp only
     obtain⟨r1,r2⟩:=p2 i hi
     refine⟨in_s (by omega),?_⟩
     rw[q10]
     generalize hr:(p.getD []).getD i none=r at *
     have e3:szSl r=(n:Int):=by show ((r.getD []).length:Int)=n;rw[r1]
     rw[e3]
     refine rangeB (n:=n) (fun j z=>(p,(l,(true,((i:Int),((n:Int),((i:Int),(r,((n:Int),((j:Int),z)))))))))) (fun j z=>RL z (fun s=>if s<i then bkQ P x n s else if s=i then bkQ P x j s else 0) n) y rfl (hy.congr fun j _=>?_) (fun p=>p.2.2.2.2.2.2.2.2.1.toNat) (fun _ _=>rfl) (fun _ _ _=>rfl) ?_ ?_
     . try dsimp only
       by_cases h:j<i
       . rw[if_pos h,if_pos h]
       . rw[if_neg h,if_neg h]
         split<;>rfl
     . intro k1 j z hj hz hk1
       try dsimp only
       refine⟨in_s (by omega),?_⟩
       rw[q05]
       have hc:=r2 j hj
       refine (q14 hc).mono fun sg hsg=>?_
       subst hsg
       refine joinE (br_c (fun hb=>?_) fun hb=>?_)
       . try dsimp only
         rw[wi1 hj (by omega)]
         refine hk1 _ (hz.congr fun t _=>?_)
         have h0:=rv_zero hc (dec_t hb)
         simp only[bkQ,sumQ]
         by_cases ht:t=i
         . subst ht;rw[h0,Rat.mul_zero,Rat.add_zero]
         . rw[if_neg ht,if_neg ht]
       . refine joinE (br_t rfl ⟨in_s (by rw[hz.1];exact hi),in_s (by omega),?_⟩)
         have e4:eltN r0 z (toN (i:Int))=(z.getD []).getD i r0:=by simp only[eltN,toN,Int.toNat_natCast]
         rw[e4,q05]
         have hzj:=hz.2 i hi
         dsimp only at hzj
         rw[if_neg (by omega),if_pos rfl] at hzj
         refine (qaR hzj (h2 j hj) hc (f4 j i (by omega) hi) (f2 j hj) (f1 i j hi hj) (f3 i j hi hj) hk).mono fun w hw=>⟨in_s (by rw[hz.1];exact hi),?_⟩
         try dsimp only
         rw[wi1 hj (by omega),show toN (i:Int)=i from Int.toNat_natCast i]
         refine hk1 _ (RL.set hz hi (g:=fun s=>if s<i then bkQ P x n s else if s=i then bkQ P x (j+1) s else 0) ?_ fun t _ ht=>?_)
         . rw[if_neg (by omega),if_pos rfl];exact hw
         . try dsimp only
           rw[if_neg ht,if_neg ht]
     . intro _ z hz
       try dsimp only
       rw[wi1 hi (by omega)]
       refine hk0 _ (hz.congr fun t ht=>?_)
       try dsimp only
       by_cases h:t<i
       . rw[if_pos h,if_pos (by omega)]
       . rw[if_neg h]
         by_cases h2:t=i
         . rw[if_pos h2,if_pos (by omega)]
         . rw[if_neg h2,if_neg (by omega)]
   . intro _ y hy
     exact hy.congr fun j hj=>by rw[if_pos hj]
theorem RLL.rowS {p:Option (List (Option (List DR)))} {f:Mat} {k n i:Nat} (h:RLL p f k n) (hi:i<k):RL (eltS none p (i:Int)) (f i) n:=by
 have:=h.at hi
 simp only[eltN,toN,Int.toNat_natCast] at this
 simp only[eltS,Int.toNat_natCast]
 exact this
theorem drop_int {v:List Int} {i:Nat} (h:i<v.length):v.drop i=int v i :: v.drop (i+1):=by
 rw[List.drop_eq_getElem_cons h]
 show _=List.getD _ _ _ :: _
 rw[List.getD_eq_getElem?_getD,List.getElem?_eq_getElem h];rfl
set_option maxHeartbeats 4000000 in
theorem s_Then (m:DMo) (d:Option (List (Int×Int))) (v:DL) (k:Int) (hd:(d.getD []).length<=1000) (hv:(v.getD []).length<4611686018427387904):
 callV Pg q40 [⟨tMo,m⟩,⟨(.sl tNum),d⟩,⟨tL,v⟩,⟨tI,k⟩] (.tup (.pair (.sl tNum) (.pair tI .unit))) fun r=>r=thenQ m (d.getD []) (v.getD []) k:=by
 refine qlU m d v k ⟨_,rfl⟩ ((q4W m d v hd hv).mono ?_)
 rintro _ rfl
 by_cases h:askedQ m (d.getD []) (v.getD [])=0
 case neg=>
  rw[decide_eq_false h]
  exact br_t rfl (by rw[thenQ,if_neg h])
 rw[decide_eq_true h]
 obtain⟨h1,h2,h3,h4⟩:=q1p h
 have hn:=h1.1.2
 have hvl:=h3.1
 refine br_f rfl (joinR (fun p=>∃ o:Bool,p=(d,(v,(k,(o,m))))/\(o=true↔¬ (0<=k/\k<((v.getD []).length:Int)))) ?_ ?_)
 case refine_2=>
  intro k1 hk1
  refine br_c (fun g=>?_) fun g=>?_
  . have g:k<0:=dec_t g
    exact hk1 _ ⟨true,rfl,fun _ q=>by have:=q.1;omega,fun _=>rfl⟩
  . have g:¬ k<0:=dec_f g
    refine hk1 _ ⟨_,rfl,?_⟩
    rw[decide_eq_true_eq]
    show ((v.getD []).length:Int)<=k↔_
    omega
 rintro _ ⟨o,rfl,ho⟩
 dsimp only
 refine br_c (fun g=>?_) fun g=>?_
 . rw[thenQ,if_pos h,if_neg (ho.1 g)]
 have hin:0<=k/\k<((v.getD []).length:Int):=by
  by_cases q:0<=k/\k<((v.getD []).length:Int)
  . exact q
  . rw[ho.2 q] at g;cases g
 clear ho g
 obtain⟨c,rfl⟩:∃ c:Nat,k=(c:Int):=⟨k.toNat,by omega⟩
 have hc:c<(v.getD []).length:=by omega
 have want:thenQ m (d.getD []) (v.getD []) (c:Int)=givenQ (thenF m (d.getD []) (v.getD []) c) (m.getD []).length:=by rw[thenQ,if_pos h,if_pos hin,Int.toNat_natCast]
 rw[want]
 refine (q4p h1).mono fun rows hp=>?_
 have esz:szSl m=((m.getD []).length:Int):=rfl
 have esv:szSl v=((v.getD []).length:Int):=rfl
 rw[esz]
 have hmb:MB (m.getD []).length ((m.getD []).length*(m.getD []).length+1) (rowQ m):=h1.mb
 have hnn:(m.getD []).length*(m.getD []).length<=40*40:=Nat.mul_le_mul hn hn
 have hfb:∀ w:List Int,w.length<=200->FB (m.getD []).length 400000 (bkw m w):=fun w hw=>by
  refine (bkw_fb h1 w).mono ?_
  have:w.length*((m.getD []).length*(m.getD []).length+1+1)<=200*1602:=Nat.mul_le_mul hw (by omega)
  omega
 have hff:∀ i,i<=200->FB (m.getD []).length 400000 (fwdQ m (dQ (d.getD [])) (v.getD []) i):=fun i hi=>by
  refine (fwd_fb (dQ_fb (d.getD []) _) h1.mb (by omega) i).mono ?_
  have:i*((m.getD []).length*(m.getD []).length+1+1)<=200*1602:=Nat.mul_le_mul hi (by omega)
  omega
 have hz:RL (some (repS ((m.getD []).length:Int) r0)) (fun _=>0) (m.getD []).length:=RL.zero _
 have elz:szSl (some (repS ((m.getD []).length:Int) r0))=((m.getD []).length:Int):=by show (((some (repS ((m.getD []).length:Int) r0)).getD []).length:Int)=_;rw[hz.1]
 refine⟨⟨by omega,by omega,by omega⟩,?_⟩
 refine rangeB (n:=(m.getD []).length) (fun i x=>(d,(v,((c:Int),(rows,(((m.getD []).length:Int),((i:Int),(m,x)))))))) (fun i x=>RL x (fun s=>if s<i then 1 else 0) (m.getD []).length) (some (repS ((m.getD []).length:Int) r0)) ?_ (hz.congr fun j _=>if_neg (by omega)) (fun p=>p.2.2.2.2.2.1.toNat) (fun _ _=>rfl) (fun _ _ _=>rfl) ?_ ?_
 . show (d,(v,((c:Int),(rows,((szSl (some (repS ((m.getD []).length:Int) r0))),((0:Int),(m,some (repS ((m.getD []).length:Int) r0))))))))=_
   rw[elz];rfl
 . intro k3 i x hi hx hk3
   dsimp only
   refine s_One.mono fun p5 hp5=>⟨in_s (by rw[hx.1];exact hi),?_⟩
   rw[wi1 hi (by omega),show toN (i:Int)=i from Int.toNat_natCast i]
   refine hk3 _ (hx.set hi ?_ fun j _ hj=>?_)
   . show RV p5 (if i<i+1 then 1 else 0)
     rw[if_pos (by omega)];exact hp5
   . show (if j<i+1 then (1:Rat) else 0)=if j<i then 1 else 0
     by_cases g:j<i
     . rw[if_pos g,if_pos (by omega)]
     . rw[if_neg g,if_neg (by omega)]
 intro _ x hx
 dsimp only
 have hx:RL x (fun _=>1) (m.getD []).length:=hx.congr fun j hj=>(if_pos hj).symm
 rw[esv]
 refine loopE (fun p=>∃ (i:Nat) (x:Option (List DR)),p=(d,(v,((c:Int),(rows,((i:Int),(m,x))))))/\c<=i/\i<(v.getD []).length/\RL x (bkw m ((v.getD []).drop (i+1))) (m.getD []).length) (fun p=>p.2.2.2.2.1.toNat) ⟨(v.getD []).length - 1,x,?_,by omega,by omega,?_⟩ ?_
 . rw[wi64 (by omega) (by omega),show ((v.getD []).length:Int) - 1=(((v.getD []).length - 1:Nat):Int) by omega]
 . rw[List.drop_eq_nil_of_le (by omega)];exact hx
 clear hx
 rintro _ ⟨i,x,rfl,hci,hi,hx⟩
 dsimp only
 refine br_c (fun g=>?_) fun g=>?_
 . have g:(c:Int)<(i:Int):=dec_t g
   refine⟨in_s hi,?_⟩
   rw[q1E]
   have hfx:=hfb ((v.getD []).drop (i+1)) (by rw[List.length_drop];omega)
   have hfs:=hfx.seen (m:=m) (int (v.getD []) i)
   refine (q5G hx (by omega)).mono fun y hy=>(s_movedO (k:=2*(400000+((m.getD []).length*(m.getD []).length+1)+1)+1) hp hy (by omega) (fun a b ha hb=>(hmb.fit ha hb).1.mono (by omega)) (fun a ha=>(hfs.fit ha).1.mono (by omega)) (fun a b ha hb=>(FB.prodC hfs hmb ha hb).1.mono (by omega)) (fun a b ha hb=>((hfs.bstep hmb (Nat.le_trans hn (by decide)) ha).fit hb).1.mono (by omega)) (by omega)).mono fun z hz=>?_
   obtain⟨j,rfl⟩:∃ j,i=j+1:=⟨i - 1,by omega⟩
   refine⟨⟨j,z,?_,by omega,by omega,?_⟩,?_⟩
   . rw[wi64 (by omega) (by omega),show ((j+1:Nat):Int) - 1=(j:Int) by omega]
   . rw[drop_int hi];exact hz
   . show (IntKind.wrap IntKind.i64 (((j+1:Nat):Int) - 1)).toNat<((j+1:Nat):Int).toNat
     rw[wi64 (by omega) (by omega)];omega
 . have g:¬ (c:Int)<(i:Int):=dec_f g
   obtain rfl:i=c:=by omega
   have hfx:=hfb ((v.getD []).drop (i+1)) (by rw[List.length_drop];omega)
   have hfw:=hff (i+1) (by omega)
   refine (q5C (fun i hi=>(h2.1 i hi).1) hd).mono fun p hp=>?_
   have e:=h2.2.1
   rw[e] at hp
   have hp:RL p (dQ (d.getD [])) (m.getD []).length:=hp.congr fun j hj=>h2.1.dq (by omega)
   have hvv:(v.getD []).length*((m.getD []).length*(m.getD []).length+1+1)<=200*(40*40+1+1):=Nat.mul_le_mul hvl (by omega)
   refine (qaP h1 hp (dQ_fb _ _) h1.mb (by omega) (by omega)).mono fun f hf=>⟨in_s (by rw[hf.1];exact hi),?_⟩
   have hr:=hf.rowS hi
   try dsimp only at hr
   generalize eltS none f (i:Int)=r at *
   have er:szSl r=((m.getD []).length:Int):=by show ((r.getD []).length:Int)=_;rw[hr.1]
   rw[er]
   refine rangeB (n:=(m.getD []).length) (fun s x=>(r,(((m.getD []).length:Int),((s:Int),x)))) (fun s x=>RL x (fun t=>if t<s then thenF m (d.getD []) (v.getD []) i t else bkw m ((v.getD []).drop (i+1)) t) (m.getD []).length) x rfl (hx.congr fun j _=>if_neg (by omega)) (fun p=>p.2.2.1.toNat) (fun _ _=>rfl) (fun _ _ _=>rfl) ?_ ?_
   . intro k9 s x hs hx hk9
     dsimp only
     refine⟨in_s (by rw[hr.1];exact hs),in_s (by rw[hx.1];exact hs),?_⟩
     rw[q05]
     have e4:eltN r0 x (toN (s:Int))=(x.getD []).getD s r0:=by simp only[eltN,toN,Int.toNat_natCast]
     rw[e4]
     have hxs:=hx.2 s hs
     dsimp only at hxs
     rw[if_neg (by omega)] at hxs
     refine (q2X longS hxs (hr.2 s hs) ((hfx.fit hs).1) ((hfw.fit hs).1) (by omega)).mono fun w hw=>⟨in_s (by rw[hx.1];exact hs),?_⟩
     rw[wi1 hs (by omega),show toN (s:Int)=s from Int.toNat_natCast s]
     refine hk9 _ (hx.set hs ?_ fun t _ ht=>?_)
     . show RV w (if s<s+1 then _ else _)
       rw[if_pos (by omega)];exact hw
     . show (if t<s+1 then _ else _)=if t<s then _ else _
       by_cases q:t<s
       . rw[if_pos q,if_pos (by omega)]
       . rw[if_neg q,if_neg (by omega)]
   . intro _ x hx
     dsimp only
     have hx:RL x (thenF m (d.getD []) (v.getD []) i) (m.getD []).length:=hx.congr fun t ht=>(if_pos ht).symm
     refine (s_given hx (hfx.times hfw) (by omega) (by decide)).mono ?_
     rintro _ rfl
     rfl
end Go.Proofs.Pf.B
namespace Go.Proofs.Pf.B
open Go Go.VM
theorem outQ_bad {q:Rat} (h:¬ (outQ q).2.1=0):(outQ q).1=(0,0):=by
 unfold outQ at h ⊢
 split at h
 . exact absurd rfl h
 . rename_i g;rw[if_neg g]
theorem lk_cases {m:DMo} {x:Nat->Rat} {w:List Int} {r:DL×(DRR×(Bool×Unit))} (h:LkOk m x w r):
 (pathQ m x w=(none,((0,0),(5,())))/\r.1=none/\r.2.2.1=false) ∨
 (∃ q,RRV r.2.1 q/\r.2.2.1=true/\pathQ m x w=if (outQ q).2.1=0 then (r.1,((outQ q).1,(0,()))) else (none,((0,0),((outQ q).2.1,())))):=by
 rcases h with ⟨rfl,h1,h2,h3⟩ | ⟨h0,h1,h2,h3⟩ | ⟨h0,h1,h2,h3,h4⟩
 . refine .inr ⟨1,h2,h3,?_⟩
   rw[pathQ,if_neg (fun ⟨i,hi,_⟩=>by cases hi),h1]
   rfl
 . have hw:0<w.length:=List.length_pos_iff.2 h0
   exact .inl ⟨by rw[pathQ,if_pos ((top_none hw).2 h1)],h2,h3⟩
 . have hw:0<w.length:=List.length_pos_iff.2 h0
   refine .inr ⟨_,h3,h4,?_⟩
   rw[pathQ,if_neg (fun e=>by have:=(top_none hw).1 e;rw[this] at h1;exact absurd h1 (by grind)),ch_all h1 hw,h2]
theorem given_len (f:Nat->Rat) (n:Nat):((givenQ f n).1.getD []).length<=n:=by
 unfold givenQ
 split
 . exact Nat.zero_le _
 . exact outs_len _ _
theorem then_len (m:DMo) (d:List (Int×Int)) (v:List Int) (k:Int):((thenQ m d v k).1.getD []).length<=200:=by
 unfold thenQ
 split
 . rename_i h
   obtain⟨h1,_⟩:=q1p h
   have:=h1.1.2
   split
   . exact Nat.le_trans (given_len _ _) (by omega)
   . exact Nat.zero_le _
 . exact Nat.zero_le _
theorem qgM (m:DMo) (d:List (Int×Int)) (v:List Int):((likelyQ m d v).1.getD []).length<=v.length:=by
 unfold likelyQ
 split
 . unfold pathQ
   split
   . exact Nat.zero_le _
   . split
     . rw[q07,tab_len];omega
     . exact Nat.zero_le _
 . exact Nat.zero_le _
theorem poss_len (m:DMo) (d:List (Int×Int)) (v:List Int):((possQ m d v).1.getD []).length<=200:=by
 unfold possQ
 split
 . rename_i h
   obtain⟨h1,_⟩:=q1p h
   have:=h1.1.2
   rw[q07]
   exact Nat.le_trans (posL_len _) (by omega)
 . exact Nat.zero_le _
theorem s_WatchThen (m:DMo) (d:Option (List (Int×Int))) (v:DL) (k:Int):callV Pg q4z [⟨tMo,m⟩,⟨(.sl tNum),d⟩,⟨tL,v⟩,⟨tI,k⟩] .bool fun r=>r=true:=by
 refine qkf m d v k ⟨true,rfl⟩ ((s_few20 m d v).mono fun p0 h0=>br_c (fun _=>qaN) fun hp0=>?_)
 have hp0:p0=true:=by cases p0;cases hp0;rfl
 obtain⟨hd,hv⟩:=h0 hp0
 refine (r_Asked m d v (by omega) (by omega)).mono ?_
 rintro _ rfl
 refine joinR (fun q=>q=(d,(v,(k,((thenQ m (d.getD []) (v.getD []) k).2.1,((likelyQ m (d.getD []) (v.getD [])).2.2.1,((possQ m (d.getD []) (v.getD [])).2.1,((thenQ m (d.getD []) (v.getD []) k).1,((likelyQ m (d.getD []) (v.getD [])).1,((possQ m (d.getD []) (v.getD [])).1,(m,(likelyQ m (d.getD []) (v.getD [])).2.1))))))))))) ?_ ?_
 . rintro _ rfl
   dsimp only
   refine (s_Then m d v k (by omega) (by omega)).mono ?_
   rintro _ rfl
   refine (s_Likely m d v (by omega) (by omega)).mono ?_
   rintro _ rfl
   refine (qjt m d v (by omega) (by omega)).mono ?_
   rintro _ rfl
   have l1:=qgM m (d.getD []) (v.getD [])
   have l2:=poss_len m (d.getD []) (v.getD [])
   refine joinR (fun b=>b=true) (fun _ h=>h) fun k' hk=>?_
   refine br_t (decide_eq_true rfl) ((r_Same _ _ rfl (then_len _ _ _ _)).mono ?_)
   rintro _ rfl
   refine br_t rfl (br_t (decide_eq_true rfl) ((r_List _ _ (by omega)).mono ?_))
   rintro _ rfl
   refine br_t (decide_eq_true rfl) (br_t (by simp[andB]) (br_t (decide_eq_true rfl) ((r_List _ _ (by omega)).mono ?_)))
   rintro _ rfl
   exact br_t (decide_eq_true rfl) (qaN.mono fun _ h=>hk _ h)
 intro k2 hk
 refine br_c (fun h=>?_) fun h=>?_
 case refine_2=>
  have h:¬ askedQ m (d.getD []) (v.getD [])=0:=dec_f h
  refine hk _ ?_
  rw[thenQ,likelyQ,possQ,if_neg h,if_neg h,if_neg h]
 have h:askedQ m (d.getD []) (v.getD [])=0:=dec_t h
 obtain⟨h1,h2,h3,h4⟩:=q1p h
 have hok:∀ i,i<(d.getD []).length->NumOk (nth2 (d.getD []) i):=fun i hi=>(h2.1 i hi).1
 have hn:=h1.1.2
 have hvl:=h3.1
 have hle:=last_e (v:=v.getD []) h1 hvl
 have hnn:(m.getD []).length*(m.getD []).length<=40*40:=Nat.mul_le_mul hn hn
 have hTL:∀ p:Option (List DRR),TL p (fun i=>numQ (nth2 (d.getD []) i)) (d.getD []).length->TL p (dQ (d.getD [])) (m.getD []).length:=fun p hp=>by
  rw[h2.2.1] at hp
  exact hp.congr fun j hj=>h2.1.dq (by rw[h2.2.1];exact hj)
 have hxq:=dQ_qb (m:=m) h2
 have hfb:=dQ_fb (d.getD []) (m.getD []).length
 rw[h]
 have hpQ:possQ m (d.getD []) (v.getD [])=(optL (posL (lastQ m (d.getD []) (v.getD [])) (m.getD []).length),(0,())):=if_pos h
 have hlQ:likelyQ m (d.getD []) (v.getD [])=pathQ m (dQ (d.getD [])) (v.getD []):=if_pos h
 have htQ:thenQ m (d.getD []) (v.getD []) k=(if 0<=k/\k<((v.getD []).length:Int) then givenQ (thenF m (d.getD []) (v.getD []) k.toNat) (m.getD []).length else (none,6,())):=if_pos h
 rw[hpQ,hlQ,htQ] at hk
 refine (r_Rats hok (by omega)).mono fun p3 hp3=>(qgT h1 (hTL _ hp3) hfb h1.mb (by omega) (by omega)).mono ?_
 rintro _ rfl
 refine (r_Rats hok (by omega)).mono fun p5 hp5=>(r_Likely h1 (hTL _ hp5) hxq (by omega)).mono fun p6 hp6=>?_
 refine joinR (fun q=>q=(d,(v,(k,((pathQ m (dQ (d.getD [])) (v.getD [])).2.2.1,((0:Int),((pathQ m (dQ (d.getD [])) (v.getD [])).1,(optL (posL (lastQ m (d.getD []) (v.getD [])) (m.getD []).length),(m,(pathQ m (dQ (d.getD [])) (v.getD [])).2.1))))))))) ?_ ?_
 case refine_2=>
  intro k7 hk7
  rcases lk_cases hp6 with ⟨e1,e2,e3⟩ | ⟨q,e1,e2,e3⟩
  . refine br_f e3 (hk7 _ ?_)
    rw[e1,e2];rfl
  . refine br_t e2 ((r_Num e1).mono ?_)
    rintro _ rfl
    refine joinE ?_
    rw[e3] at hk7
    refine br_c (fun g=>?_) fun g=>?_
    . have g:¬ (outQ q).2.1=0:=not_t g
      refine hk7 _ ?_
      rw[if_neg g,outQ_bad g]
      rfl
    . have g:(outQ q).2.1=0:=not_f g
      refine hk7 _ ?_
      rw[if_pos g,g]
      rfl
 rintro _ rfl
 dsimp only
 refine joinR (fun q=>q=(d,(v,(k,((pathQ m (dQ (d.getD [])) (v.getD [])).2.2.1,((0:Int),((pathQ m (dQ (d.getD [])) (v.getD [])).1,(optL (posL (lastQ m (d.getD []) (v.getD [])) (m.getD []).length),(!decide (0<=k/\k<((v.getD []).length:Int)),(m,(pathQ m (dQ (d.getD [])) (v.getD [])).2.1)))))))))) ?_ ?_
 case refine_2=>
  intro k8 hk8
  have es:szSl v=((v.getD []).length:Int):=rfl
  rw[es]
  refine br_c (fun g=>?_) fun g=>?_
  . have g:k<0:=dec_t g
    refine hk8 _ ?_
    rw[decide_eq_false (p:=0<=k/\k<((v.getD []).length:Int)) (by omega)]
    rfl
  . have g:¬ k<0:=dec_f g
    refine hk8 _ ?_
    have e:(decide (((v.getD []).length:Int)<=k))=!decide (0<=k/\k<((v.getD []).length:Int)):=by
     rw[Bool.eq_iff_iff]
     simp only[decide_eq_true_eq,Bool.not_eq_true',decide_eq_false_iff_not]
     omega
    rw[e]
 rintro _ rfl
 dsimp only
 generalize pathQ m (dQ (d.getD [])) (v.getD [])=L at *
 generalize optL (posL (lastQ m (d.getD []) (v.getD [])) (m.getD []).length)=P at *
 refine joinE (br_c (fun g=>?_) fun g=>?_)
 . have g:¬ (0<=k/\k<((v.getD []).length:Int)):=fun q=>by rw[decide_eq_true q] at g;cases g
   rw[if_neg g] at hk
   exact hk _ rfl
 have g:0<=k/\k<((v.getD []).length:Int):=Classical.byContradiction fun q=>by rw[decide_eq_false q] at g;cases g
 rw[if_pos g] at hk
 obtain⟨j,rfl⟩:∃ j:Nat,k=(j:Int):=⟨k.toNat,by omega⟩
 rw[Int.toNat_natCast] at hk
 refine (r_Rats hok (by omega)).mono fun p10 hp10=>(r_Then h1 (hTL _ hp10) hfb hvl (by omega)).mono fun p11 hp11=>?_
 have hp11:ShOk (thenF m (d.getD []) (v.getD []) j) (m.getD []).length p11:=hp11
 generalize thenF m (d.getD []) (v.getD []) j=f at *
 rcases hp11 with ⟨hs,e7⟩ | ⟨hs,e7,t7⟩
 . subst e7
   rw[givenQ,if_pos hs] at hk
   refine (r_Nums (TL.nil f) (by omega)).mono ?_
   rintro _ rfl
   rw[outs_nil]
   refine joinE (br_t rfl ?_)
   exact hk _ rfl
 . rw[givenQ,if_neg hs] at hk
   refine (r_Nums t7 (by omega)).mono ?_
   rintro _ rfl
   refine joinE (br_f (by rw[e7];rfl) ?_)
   exact hk _ rfl
end Go.Proofs.Pf.B
