/- Typed pure data, a condition on code that says what a call gives, what the code of each function comes to, and what each function gives. -/
import Derived.Scope
import Derived.Lib.LaidTab
import Derived.Lib.ItoaNum
import Derived.Laws.CopyRow
import Derived.Laws.AppendOwn
import Derived.Laws.MakeOwn
import Derived.Laws.BytesString
import Derived.ChangeKeysEq
import Derived.Laws.StructEq
import Derived.Laws.Small
import Derived.Tactics
import Derived.Calls
import Derived.Below
import Derived.KernelRfl
import Derived.Laws.Cells
import Derived.Test.YtfifpjkegdkdpaaGreatProg
import Derived.Lib.AppendIntMem
import Derived.Shelf.Small.Bits
import Derived.Shelf.Small.Wraps
import Derived.Shelf.Strconv.Itoa0
import Derived.Shelf.Sort.Plain
import Derived.Shelf.Bits.Mul64
import Derived.Ground.Names2Prog
import Derived.Shelf.Slices.Clone
import Derived.Shelf.Slices.CompactI
import Derived.Shelf.Slices.SearchI
import Derived.Shelf.Slices.Cells
import Derived.Shelf.Slices.In.SortNone
import Derived.Ground.SlgnProg
import Derived.Shelf.SlicesE.Clone
import Derived.Test.YtfifpjkegdkdpaaGreatA9
import Derived.Test.YtfifpjkegdkdpaaGreatA11
import Derived.Test.YtfifpjkegdkdpaaGreatA12
set_option linter.unusedVariables false
set_option linter.unusedSimpArgs false
set_option linter.unnecessarySimpa false
namespace Go.Proofs.Pf.B
open Go Go.VM
theorem moOk.rownn {m:DMo} (h:moOk m) {s:Nat} (hs:s<(m.getD []).length) (t:Nat):0<=rowQ m s t:=by
 obtain⟨h1,h2⟩:=h.2 s hs
 have h3:=h2 0 (by have:=h1.2.2.1;omega)
 have key:∀ k,k<=(bs_ m s).length->0<=brQ (bs_ m s) k t:=by
  intro k
  induction k with
  | zero=>intro _;exact Rat.le_refl
  | succ k ih=>
   intro hk
   simp only[brQ]
   split
   . have h4:=h3.2.2.1 k hk
     have hok:NumOk (br (bs_ m s) k).2:=((h.bs hs).2.2 k (by omega)).2.2
     have hp:0<(br (bs_ m s) k).2.1:=h4.2.2.2
     have hn:0<=(numQ (br (bs_ m s) k).2).num:=by rw[hok.q.1];omega
     exact Rat.num_nonneg.1 hn
   . exact ih (by omega)
 exact key _ (Nat.le_refl _)
theorem sum_nn {f:Nat->Rat}:∀ n,(∀ i,i<n->0<=f i)->0<=sumQ f n
 | 0,_=>Rat.le_refl
 | n+1,h=>by
  have h1:=sum_nn n fun i hi=>h i (by omega)
  have h2:=h n (by omega)
  simp only[sumQ]
  grind
theorem sum_nn0 {f:Nat->Rat}:∀ n,(∀ i,i<n->0<=f i)->sumQ f n=0->∀ i,i<n->f i=0
 | 0,_,_,i,hi=>absurd hi (by omega)
 | n+1,h,h0,i,hi=>by
  have h1:=sum_nn n fun i hi=>h i (by omega)
  have h2:=h n (by omega)
  have h0:sumQ f n+f n=0:=h0
  by_cases e:i=n
  . subst e;grind
  . exact sum_nn0 n (fun i hi=>h i (by omega)) (by grind) i (by omega)
theorem q6a {m:DMo} {y:Nat->Rat} {k:Int} {s:Nat} (h:0<=y s):0<=seenQ m y k s:=by
 unfold seenQ;split
 . exact h
 . exact Rat.le_refl
theorem stp_nn {m:DMo} (hm:moOk m) {y:Nat->Rat} (hy:∀ s,s<(m.getD []).length->0<=y s) (k:Int) (s:Nat):0<=stp m y k s:=
 q6a (sum_nn _ fun i hi=>Rat.mul_nonneg (hy i hi) (hm.rownn hi s))
theorem fold_nn {m:DMo} (hm:moOk m):∀ (v:List Int) {y:Nat->Rat},(∀ s,s<(m.getD []).length->0<=y s)->∀ s,s<(m.getD []).length->0<=v.foldl (stp m) y s
 | [],_,h,s,hs=>h s hs
 | k :: v,_,h,s,hs=>fold_nn hm v (fun t _=>stp_nn hm h k t) s hs
theorem dv_nn {m:DMo} (hm:moOk m) {x:Nat->Rat} (hx:∀ s,s<(m.getD []).length->0<=x s) (w:List Int):∀ s,s<(m.getD []).length->0<=dv m x w s:=by
 cases w with
 | nil=>exact hx
 | cons k v=>exact fold_nn hm v fun s hs=>q6a (hx s hs)
theorem ptQ_nn (s i:Nat):0<=ptQ s i:=by unfold ptQ;split;exact (by decide +kernel);exact Rat.le_refl
def wQ (m:DMo) (s:Nat) (w:List Int):Rat:=sumQ (dv m (ptQ s) w) (m.getD []).length
theorem wQ_ext {m:DMo} (hm:moOk m) {s:Nat} {p:List Int} (hp:p≠[]) (h0:wQ m s p=0) (v:List Int):wQ m s (p ++ v)=0:=by
 have hz:=sum_nn0 _ (dv_nn hm (fun i _=>ptQ_nn s i) p) h0
 unfold wQ
 rw[q32 hp,q04 _ (fold_congr (m:=m) (z:=fun _=>0) hz v)]
 have z:∀ v:List Int,v.foldl (stp m) (fun _=>0)=fun _=>0:=by
  intro v
  induction v with
  | nil=>rfl
  | cons k v ih=>show v.foldl (stp m) (stp m _ k)=_;rw[q6j,ih]
 rw[z];exact q0U _
theorem wQ_diff (m:DMo) (s t:Nat) (w:List Int):sumQ (dv m (prQ s t) w) (m.getD []).length=wQ m s w - wQ m t w:=by
 unfold prQ
 rw[dv_lin,q0T,q0k,Rat.mul_neg,Rat.mul_one,<-Rat.sub_eq_add_neg];rfl
theorem q2f {m:DMo} {s t:Nat} {w:List Int}:Dist m (prQ s t) w↔mks w/\wQ m s w≠wQ m t w:=by
 unfold Dist
 rw[wQ_diff]
 constructor
 . rintro⟨h1,h2⟩;exact⟨h1,fun e=>h2 (by rw[e,Rat.sub_self])⟩
 . rintro⟨h1,h2⟩;exact⟨h1,fun e=>h2 (by grind)⟩
def Lc:Nat->Nat
 | 0=>0
 | n+1=>64*Lc n+1
theorem Lc_mono:∀ {a b:Nat},a<=b->Lc a<=Lc b:=by
 intro a b h
 induction b with
 | zero=>have:a=0:=by omega
         subst this;exact Nat.le_refl _
 | succ b ih=>
  by_cases e:a=b+1
  . subst e;exact Nat.le_refl _
  . have:=ih (by omega);simp only[Lc];omega
theorem code_len:∀ (n:Nat) {w:List Int},w.length=n->mks w->Lc n<=code w/\code w<Lc (n+1)
 | 0,w,hn,_=>by
  have hw:w=[]:=List.eq_nil_of_length_eq_zero hn
  subst hw
  exact⟨Nat.le_refl _,by decide⟩
 | n+1,w,hn,hw=>by
  rcases List.eq_nil_or_concat w with e | ⟨v,k,e⟩
  . subst e;cases hn
  rw[List.concat_eq_append] at e
  subst e
  obtain⟨h1,h2⟩:=code_len n (w:=v) (by simpa using hn) fun a ha=>hw a (by simp[ha])
  obtain⟨m1,m2⟩:=hw k (by simp)
  rw[q0i]
  simp only[Lc] at *
  omega
theorem code_longer {u w:List Int} (hu:mks u) (hw:mks w) (h:u.length<w.length):code u<code w:=by
 have h1:=(code_len _ rfl hu).2
 have h2:=(code_len _ rfl hw).1
 have:=Lc_mono (show u.length+1<=w.length by omega)
 omega
structure Lv (m:DMo) (s t i:Nat) (W:List (List Int)):Prop where
 len:∀ w,w∈W->w.length=i/\mks w
 inc:W.Pairwise fun w u=>code w<code u
 cov:∀ p,mks p->p.length=i->p∈W∨(p≠[]/\wQ m s p=0/\wQ m t p=0)
 no:∀ u,mks u->u.length<=i->wQ m s u=wQ m t u
 cnt:W.length<=64 ^ i
theorem Lv.start {m:DMo} {s t:Nat} (hs:s<(m.getD []).length) (ht:t<(m.getD []).length):Lv m s t 0 [[]]:=by
 refine⟨fun w hw=>?_,List.pairwise_singleton _ _,fun p _ hp=>?_,fun u _ hu=>?_,by simp⟩
 . have:w=[]:=by simpa using hw
   subst this;exact⟨rfl,fun a ha=>by cases ha⟩
 . have:p=[]:=List.eq_nil_of_length_eq_zero hp
   subst this;exact .inl (by simp)
 . have:u=[]:=List.eq_nil_of_length_eq_zero (by omega)
   subst this
   show sumQ (ptQ s) _=sumQ (ptQ t) _
   have h:∀ a,a<(m.getD []).length->sumQ (ptQ a) (m.getD []).length=1:=fun a ha=>q19 1 _ ha
   rw[h s hs,h t ht]
structure LvI (m:DMo) (s t i:Nat) (W M:List (List Int)) (a k:Nat):Prop where
 len:∀ w,w∈M->w.length=i+1/\mks w
 inc:M.Pairwise fun w u=>code w<code u
 lt:∀ w,w∈M->∃ a' k',a'<W.length/\k'<64/\(a'<a∨(a'=a/\k'<k))/\w=W.getD a' [] ++ [(k':Int)]
 seen:∀ a' k',a'<W.length->k'<64->(a'<a∨(a'=a/\k'<k))->wQ m s (W.getD a' [] ++ [(k':Int)])=wQ m t (W.getD a' [] ++ [(k':Int)])/\(0<wQ m s (W.getD a' [] ++ [(k':Int)])->W.getD a' [] ++ [(k':Int)]∈M)
 cnt:M.length<=64*a+k
theorem LvI.start (m:DMo) (s t i:Nat) (W:List (List Int)):LvI m s t i W [] 0 0:=
 ⟨fun w hw=>(by cases hw),List.Pairwise.nil,fun w hw=>(by cases hw),fun a' k' _ _ h=>by omega,by simp⟩
theorem LvI.word {m:DMo} {s t i:Nat} {W M:List (List Int)} {a k:Nat} (h:LvI m s t i W M a k) (hk:k=64):LvI m s t i W M (a+1) 0:=by
 subst hk
 refine⟨h.len,h.inc,fun w hw=>?_,fun a' k' h1 h2 h3=>h.seen a' k' h1 h2 (by omega),by have:=h.cnt;omega⟩
 obtain⟨a',k',h1,h2,h3,e⟩:=h.lt w hw
 exact⟨a',k',h1,h2,by omega,e⟩
theorem wcode {W:List (List Int)} (hi:W.Pairwise fun w u=>code w<code u) {a b:Nat} (h:a<b) (hb:b<W.length):code (W.getD a [])<code (W.getD b []):=by
 have:=List.pairwise_iff_getElem.1 hi a b (by omega) hb h
 simp only[List.getD_eq_getElem?_getD,List.getElem?_eq_getElem hb,List.getElem?_eq_getElem (show a<W.length by omega),Option.getD_some]
 exact this
theorem wlt {W:List (List Int)} (hi:W.Pairwise fun w u=>code w<code u) {a a' k k':Nat} (ha:a<W.length) (hk':k'<64) (h:a'<a∨(a'=a/\k'<k)):code (W.getD a' [] ++ [(k':Int)])<code (W.getD a [] ++ [(k:Int)]):=by
 rw[q0i,q0i,Int.toNat_natCast,Int.toNat_natCast]
 rcases h with h | ⟨rfl,h⟩
 . have:=wcode hi h ha
   omega
 . omega
theorem LvI.next {m:DMo} {s t i:Nat} {W M:List (List Int)} {a k:Nat} (hm:moOk m) (hW:Lv m s t i W) (h:LvI m s t i W M a k) (ha:a<W.length) (hk:k<64) (he:wQ m s (W.getD a [] ++ [(k:Int)])=wQ m t (W.getD a [] ++ [(k:Int)])):
 LvI m s t i W (if 0<wQ m s (W.getD a [] ++ [(k:Int)]) then M ++ [W.getD a [] ++ [(k:Int)]] else M) a (k+1):=by
 have hmem:W.getD a []∈W:=mem_of_getD ha
 obtain⟨hl,hmk⟩:=hW.len _ hmem
 split
 . rename_i hp
   refine⟨fun w hw=>?_,?_,fun w hw=>?_,fun a' k' h1 h2 h3=>?_,by rw[List.length_append];have:=h.cnt;show M.length+1<=_;omega⟩
   . rcases List.mem_append.1 hw with hw | hw
     . exact h.len w hw
     . have:w=W.getD a [] ++ [(k:Int)]:=by simpa using hw
       subst this
       refine⟨by rw[List.length_append,hl];rfl,fun b hb=>?_⟩
       rcases List.mem_append.1 hb with hb | hb
       . exact hmk b hb
       . have:b=(k:Int):=by simpa using hb
         subst this;exact⟨by omega,by omega⟩
   . refine List.pairwise_append.2 ⟨h.inc,List.pairwise_singleton _ _,fun w hw u hu=>?_⟩
     have:u=W.getD a [] ++ [(k:Int)]:=by simpa using hu
     subst this
     obtain⟨a',k',h1,h2,h3,rfl⟩:=h.lt w hw
     exact wlt hW.inc ha h2 h3
   . rcases List.mem_append.1 hw with hw | hw
     . obtain⟨a',k',h1,h2,h3,e⟩:=h.lt w hw
       exact⟨a',k',h1,h2,by omega,e⟩
     . have:w=W.getD a [] ++ [(k:Int)]:=by simpa using hw
       exact⟨a,k,ha,hk,by omega,this⟩
   . by_cases g:a'=a/\k'=k
     . obtain⟨rfl,rfl⟩:=g
       exact⟨he,fun _=>by simp⟩
     . obtain⟨q1,q2⟩:=h.seen a' k' h1 h2 (by omega)
       exact⟨q1,fun q=>List.mem_append.2 (.inl (q2 q))⟩
 . rename_i hp
   refine⟨h.len,h.inc,fun w hw=>?_,fun a' k' h1 h2 h3=>?_,by have:=h.cnt;omega⟩
   . obtain⟨a',k',h1,h2,h3,e⟩:=h.lt w hw
     exact⟨a',k',h1,h2,by omega,e⟩
   . by_cases g:a'=a/\k'=k
     . obtain⟨rfl,rfl⟩:=g
       exact⟨he,fun q=>absurd q hp⟩
     . exact h.seen a' k' h1 h2 (by omega)
theorem Lv.split {m:DMo} {s t i:Nat} {W:List (List Int)} (hm:moOk m) (h:Lv m s t i W) {u:List Int} (hu:mks u) (hl:u.length=i+1):(∃ a k:Nat,a<W.length/\k<64/\u=W.getD a [] ++ [(k:Int)])∨(wQ m s u=0/\wQ m t u=0):=by
 rcases List.eq_nil_or_concat u with e | ⟨p,b,e⟩
 . subst e;cases hl
 rw[List.concat_eq_append] at e
 subst e
 have hp:mks p:=fun a ha=>hu a (by simp[ha])
 obtain⟨b1,b2⟩:=hu b (by simp)
 rcases h.cov p hp (by simpa using hl) with g | ⟨g0,g1,g2⟩
 . obtain⟨a,ha,e⟩:=q5D (d:=[]) g
   exact .inl ⟨a,b.toNat,ha,by omega,by rw[e,show ((b.toNat:Nat):Int)=b by omega]⟩
 . exact .inr ⟨wQ_ext hm g0 g1 [b],wQ_ext hm g0 g2 [b]⟩
theorem LvI.hit {m:DMo} {s t i:Nat} {W M:List (List Int)} {a k:Nat} (hm:moOk m) (hW:Lv m s t i W) (h:LvI m s t i W M a k) (ha:a<W.length) (hk:k<64) (he:wQ m s (W.getD a [] ++ [(k:Int)])≠wQ m t (W.getD a [] ++ [(k:Int)])):
 q0b m (prQ s t) (W.getD a [] ++ [(k:Int)]):=by
 obtain⟨hl,hmk⟩:=hW.len _ (mem_of_getD (d:=[]) ha)
 have hw:mks (W.getD a [] ++ [(k:Int)]):=fun b hb=>by
  rcases List.mem_append.1 hb with hb | hb
  . exact hmk b hb
  . have:b=(k:Int):=by simpa using hb
    subst this;exact⟨by omega,by omega⟩
 have hwl:(W.getD a [] ++ [(k:Int)]).length=i+1:=by rw[List.length_append,hl];rfl
 refine⟨q2f.2 ⟨hw,he⟩,fun u hu=>?_⟩
 obtain⟨u1,u2⟩:=q2f.1 hu
 rcases Nat.lt_trichotomy u.length (i+1) with g | g | g
 . exact absurd (hW.no u u1 (by omega)) u2
 . rcases hW.split hm u1 g with ⟨a',k',h1,h2,rfl⟩ | ⟨g1,g2⟩
   . by_cases q:a'<a∨(a'=a/\k'<k)
     . exact absurd (h.seen a' k' h1 h2 q).1 u2
     . by_cases q2:a'=a/\k'=k
       . obtain⟨rfl,rfl⟩:=q2;exact Nat.le_refl _
       . exact Nat.le_of_lt (wlt hW.inc h1 hk (by omega))
   . exact absurd (g1.trans g2.symm) u2
 . exact Nat.le_of_lt (code_longer hw u1 (by omega))
theorem Lv.none {m:DMo} {s t:Nat} {W:List (List Int)} (h:Lv m s t (m.getD []).length W) (hs:s<(m.getD []).length) (ht:t<(m.getD []).length) (w:List Int):¬ Dist m (prQ s t) w:=fun hw=>by
 obtain⟨u,hu⟩:=q0b.ex ⟨w,hw⟩
 have hl:=hu.len (prQ_sum hs ht) (by omega)
 obtain⟨u1,u2⟩:=q2f.1 hu.1
 exact u2 (h.no u u1 hl)
end Go.Proofs.Pf.B
namespace Go.Proofs.Pf.B
open Go Go.VM
theorem maxQ_nn {f:Nat->Rat}:∀ n,0<=maxQ f n
 | 0=>Rat.le_refl
 | n+1=>by
  have:=maxQ_nn (f:=f) n
  simp only[maxQ]
  split
  . grind
  . exact this
theorem topQ_nn {m:DMo} {x:Nat->Rat} {view:List Int} (i:Nat):0<=topQ m x view i:=maxQ_nn _
end Go.Proofs.Pf.B
namespace Go.Proofs.Pf.B
open Go Go.VM
abbrev DP:=DL×((Option (List DRR))×(Option (List DRR)))
abbrev dp0:DP:=(none,(none,none))
def RP (m:DMo) (s t:Nat) (l:Option (List DP)) (W:List (List Int)):Prop:=(l.getD []).length=W.length/\∀ i,i<W.length->((l.getD []).getD i dp0).1=optL (W.getD i [])/\TL ((l.getD []).getD i dp0).2.1 (dv m (ptQ s) (W.getD i [])) (m.getD []).length/\TL ((l.getD []).getD i dp0).2.2 (dv m (ptQ t) (W.getD i [])) (m.getD []).length
theorem RP.app {m:DMo} {s t:Nat} {l:Option (List DP)} {W:List (List Int)} {w:List Int} {z:DP} (h:RP m s t l W) (h1:z.1=optL w) (h2:TL z.2.1 (dv m (ptQ s) w) (m.getD []).length) (h3:TL z.2.2 (dv m (ptQ t) w) (m.getD []).length):RP m s t (appL l [z]) (W ++ [w]):=by
 obtain⟨g1,g2⟩:=h
 have e:(appL l [z]).getD []=l.getD [] ++ [z]:=by cases l<;>rfl
 refine⟨by rw[e,List.length_append,List.length_append,g1];rfl,fun i hi=>?_⟩
 rw[e]
 rcases Nat.lt_or_ge i W.length with hlt | hge
 . rw[List.getD_eq_getElem?_getD,List.getElem?_append_left (by omega),<-List.getD_eq_getElem?_getD]
   rw[List.getD_eq_getElem?_getD (l:=W ++ [w]),List.getElem?_append_left hlt,<-List.getD_eq_getElem?_getD]
   exact g2 i hlt
 . have hi:i<W.length+1:=by simpa using hi
   obtain rfl:i=W.length:=by omega
   rw[List.getD_eq_getElem?_getD,List.getElem?_append_right (by omega),g1,Nat.sub_self]
   rw[List.getD_eq_getElem?_getD (l:=W ++ [w]),List.getElem?_append_right (by omega),Nat.sub_self]
   exact⟨h1,h2,h3⟩
def refAp (m:DMo) (s t:Nat) (r:DL×(Bool×Unit)):Prop:=(∃ w,q0b m (prQ s t) w/\r=(some w,(true,())))∨((∀ w,¬ Dist m (prQ s t) w)/\r=(none,(false,())))
theorem refAp.ex (m:DMo) (s t:Nat):∃ r,refAp m s t r:=by
 by_cases h:∃ w,Dist m (prQ s t) w
 . obtain⟨w,hw⟩:=q0b.ex h
   exact⟨_,.inl ⟨w,hw,rfl⟩⟩
 . exact⟨_,.inr ⟨fun w hw=>h ⟨w,hw⟩,rfl⟩⟩
end Go.Proofs.Pf.B
namespace Go.Proofs.Pf.B
open Go Go.VM
def bkQ (P:Mat) (x:Nat->Rat) (b s:Nat):Rat:=sumQ (fun t=>x t*P s t) b
theorem s_movedB {p:Option (List (Option (List DR)))} {l:Option (List DR)} {P:Mat} {x:Nat->Rat} {n k:Nat} (hp:RM p P n) (hl:RL l x n) (hn:n<=1000)
 (f1:∀ s t,s<n->t<n->Pf.RFit k (P s t)) (f2:∀ s,s<n->Pf.RFit k (x s)) (f3:∀ s t,s<n->t<n->Pf.RFit k (x t*P s t)) (f4:∀ b s,b<=n->s<n->Pf.RFit k (bkQ P x b s)) (hk:k+k+1<=1073741824):
 callV Pg q0P [⟨(.sl (.sl tER)),p⟩,⟨(.sl tER),l⟩,⟨.bool,true⟩,⟨(.cst (.fn q0c)),()⟩] (.sl tER) fun r=>RL r (bkQ P x n) n:=by
 obtain⟨h1,h2⟩:=hl
 obtain⟨p1,p2⟩:=hp
 have e1:szSl l=(n:Int):=by show ((l.getD []).length:Int)=n;rw[h1]
 have e2:szSl p=(n:Int):=by show ((p.getD []).length:Int)=n;rw[p1]
 refine q80 p l true () (RL.ex _ _) ⟨?_,?_⟩
 . rw[e1]
   show 0<=(n:Int)/\(n:Int)<=n/\(n:Int)*64<=281474976710656
   omega
 . rw[e1,e2]
   refine rangeB (n:=n) (fun i y=>(p,(l,(true,((n:Int),((i:Int),y)))))) (fun i y=>RL y (fun s=>if s<i then bkQ P x n s else 0) n) (some (repS (n:Int) r0)) rfl ((RL.zero n).congr fun j _=>if_neg (by omega)) (fun p=>p.2.2.2.2.1.toNat) (fun _ _=>rfl) (fun _ _ _=>rfl) ?_ ?_
   . intro k0 i y hi hy hk0
     try dsimp only
     obtain⟨r1,r2⟩:=p2 i hi
     refine⟨in_s (by omega),?_⟩
     rw[q0t]
     generalize hr:(p.getD []).getD i none=r at *
     have e3:szSl r=(n:Int):=by show ((r.getD []).length:Int)=n;rw[r1]
     rw[e3]
     refine rangeB (n:=n) (fun j z=>(p,(l,(true,((i:Int),((n:Int),((i:Int),(r,((n:Int),((j:Int),z)))))))))) (fun j z=>RL z (fun s=>if s<i then bkQ P x n s else if s=i then bkQ P x j s else 0) n) y rfl (hy.congr fun j _=>?_) (fun p=>p.2.2.2.2.2.2.2.2.1.toNat) (fun _ _=>rfl) (fun _ _ _=>rfl) ?_ ?_
     . try dsimp only
       by_cases h:j<i
       . rw[if_pos h,if_pos h]
       . rw[if_neg h,if_neg h]
         split<;>rfl
     . intro k1 j z hj hz hk1
       try dsimp only
       refine⟨in_s (by omega),?_⟩
       rw[q05]
       have hc:=r2 j hj
       refine (q0x hc).mono fun sg hsg=>?_
       subst hsg
       refine joinE (br_c (fun hb=>?_) fun hb=>?_)
       . try dsimp only
         rw[wi1 hj (by omega)]
         refine hk1 _ (hz.congr fun t _=>?_)
         have h0:=rv_zero hc (dec_t hb)
         simp only[bkQ,sumQ]
         by_cases ht:t=i
         . subst ht;rw[h0,Rat.mul_zero,Rat.add_zero]
         . rw[if_neg ht,if_neg ht]
       . refine joinE (br_t rfl ⟨in_s (by rw[hz.1];exact hi),in_s (by omega),?_⟩)
         have e4:eltN r0 z (toN (i:Int))=(z.getD []).getD i r0:=by simp only[eltN,toN,Int.toNat_natCast]
         rw[e4,q05]
         have hzj:=hz.2 i hi
         dsimp only at hzj
         rw[if_neg (by omega),if_pos rfl] at hzj
         refine (q68 hzj (h2 j hj) hc (f4 j i (by omega) hi) (f2 j hj) (f1 i j hi hj) (f3 i j hi hj) hk).mono fun w hw=>⟨in_s (by rw[hz.1];exact hi),?_⟩
         try dsimp only
         rw[wi1 hj (by omega),show toN (i:Int)=i from Int.toNat_natCast i]
         refine hk1 _ (RL.set hz hi (g:=fun s=>if s<i then bkQ P x n s else if s=i then bkQ P x (j+1) s else 0) ?_ fun t _ ht=>?_)
         . rw[if_neg (by omega),if_pos rfl];exact hw
         . try dsimp only
           rw[if_neg ht,if_neg ht]
     . intro _ z hz
       try dsimp only
       rw[wi1 hi (by omega)]
       refine hk0 _ (hz.congr fun t ht=>?_)
       try dsimp only
       by_cases h:t<i
       . rw[if_pos h,if_pos (by omega)]
       . rw[if_neg h]
         by_cases h2:t=i
         . rw[if_pos h2,if_pos (by omega)]
         . rw[if_neg h2,if_neg (by omega)]
   . intro _ y hy
     exact hy.congr fun j hj=>by rw[if_pos hj]
theorem FB.bstep {n a b c:Nat} {x:Nat->Rat} {P:Mat} (h:FB n a x) (g:MB n b P) (hn:n<=KK) (hc:c<=n):FB n (a+b+1) (bkQ P x c):=by
 obtain⟨D,h1,h2,h3⟩:=h
 obtain⟨E,g1,g2,g3⟩:=g
 refine⟨D*E,Nat.mul_pos h1 g1,Nat.le_trans (kk_mul h2 g2) (kk_le (by omega)),fun s hs=>?_⟩
 refine (QD.sum c fun t ht=>(h3 t (by omega)).mul (g3 s t hs (by omega))).mono ?_
 rw[Nat.pow_succ,Nat.mul_comm,Nat.pow_add]
 exact Nat.mul_le_mul_left _ (by omega)
def bb (m:DMo):List Int->Nat->Rat
 | []=>fun _=>1
 | k :: v=>seenQ m (bkQ (rowQ m) (bb m v) (m.getD []).length) k
theorem bb_fb {m:DMo} (hm:moOk m):∀ w:List Int,FB (m.getD []).length (w.length*((m.getD []).length*(m.getD []).length+1+1)) (bb m w)
 | []=>⟨1,by decide,(by rw[List.length_nil,Nat.zero_mul,Nat.pow_zero];exact Nat.le_refl _),fun i _=>by exact (QD.one 1).mono (by simp)⟩
 | k :: w=>by
  refine (((bb_fb hm w).bstep hm.mb (Nat.le_trans hm.1.2 (by decide)) (Nat.le_refl _)).seen k).mono ?_
  rw[List.length_cons,Nat.succ_mul];omega
theorem bk_one {m:DMo} (hm:moOk m) {s:Nat} (hs:s<(m.getD []).length):bkQ (rowQ m) (fun _=>1) (m.getD []).length s=1:=by
 unfold bkQ
 rw[q04 (g:=rowQ m s) _ fun t _=>Rat.one_mul _]
 exact hm.rowsum hs
theorem fold_bb {m:DMo} (hm:moOk m):∀ (v:List Int) (y:Nat->Rat),sumQ (v.foldl (stp m) y) (m.getD []).length=sumQ (fun i=>y i*bkQ (rowQ m) (bb m v) (m.getD []).length i) (m.getD []).length
 | [],y=>q04 _ fun i hi=>by
  show y i=y i*bkQ (rowQ m) (fun _=>1) _ i
  rw[bk_one hm hi,Rat.mul_one]
 | k :: v,y=>by
  show sumQ (v.foldl (stp m) (stp m y k)) _=_
  rw[fold_bb hm v]
  have e1:∀ t,stp m y k t*bkQ (rowQ m) (bb m v) (m.getD []).length t=sumQ (fun i=>y i*rowQ m i t*seenQ m (bkQ (rowQ m) (bb m v) (m.getD []).length) k t) (m.getD []).length:=by
   intro t
   rw[q0k]
   unfold stp seenQ
   split
   . rfl
   . rw[Rat.zero_mul,Rat.mul_zero]
  rw[q04 _ fun t _=>e1 t,q6l]
  refine q04 _ fun i _=>?_
  show _=y i*sumQ (fun t=>bb m (k :: v) t*rowQ m i t) _
  rw[Rat.mul_comm (y i),<-q0k]
  refine q04 _ fun t _=>?_
  show _=seenQ m (bkQ (rowQ m) (bb m v) (m.getD []).length) k t*rowQ m i t*y i
  grind
theorem wQ_bb {m:DMo} (hm:moOk m) {s:Nat} (hs:s<(m.getD []).length) (w:List Int):wQ m s w=bb m w s:=by
 cases w with
 | nil=>exact q19 1 _ hs
 | cons k v=>
  show sumQ (v.foldl (stp m) (seenQ m (ptQ s) k)) _=seenQ m _ k s
  rw[fold_bb hm]
  have e:∀ i,seenQ m (ptQ s) k i*bkQ (rowQ m) (bb m v) (m.getD []).length i=if s=i then seenQ m (bkQ (rowQ m) (bb m v) (m.getD []).length) k s else 0:=by
   intro i
   unfold seenQ ptQ
   by_cases h:s=i
   . subst h
     rw[if_pos rfl,if_pos rfl]
     split
     . rw[Rat.one_mul]
     . rw[Rat.zero_mul]
   . rw[if_neg h,if_neg h]
     split<;>rw[Rat.zero_mul]
  rw[q04 _ fun i _=>e i,q19 _ _ hs]
theorem Span.mem {B:Mat} {k n j:Nat} (hj:j<k):Span B k n (B j):=by
 refine⟨fun i=>if j=i then 1 else 0,fun s _=>?_⟩
 unfold dtQ
 have:∀ i,i<k->B i s*(if j=i then 1 else 0)=if j=i then B j s else 0:=fun i _=>by
  by_cases h:j=i
  . subst h;rw[if_pos rfl,if_pos rfl,Rat.mul_one]
  . rw[if_neg h,if_neg h,Rat.mul_zero]
 rw[q04 k this,q19 _ _ hj]
theorem Span.zero {B:Mat} {k n:Nat} {v:Nat->Rat} (h:∀ s,s<n->v s=0):Span B k n v:=
 ⟨fun _=>0,fun s hs=>by rw[h s hs];exact sum_zero' k fun i _=>Rat.mul_zero _⟩
theorem Span.add {B:Mat} {k n:Nat} {u v:Nat->Rat} (hu:Span B k n u) (hv:Span B k n v) (a:Rat):Span B k n fun s=>u s+v s*a:=by
 obtain⟨c,hc⟩:=hu
 obtain⟨d,hd⟩:=hv
 refine⟨fun i=>c i+d i*a,fun s hs=>?_⟩
 show _=u s+v s*a
 rw[<-hc s hs,<-hd s hs]
 unfold dtQ
 rw[<-q0k,<-q0T]
 exact q04 k fun i _=>by grind
theorem Span.congr {B:Mat} {k n:Nat} {u v:Nat->Rat} (h:Span B k n u) (e:∀ s,s<n->v s=u s):Span B k n v:=by
 obtain⟨c,hc⟩:=h
 exact⟨c,fun s hs=>by rw[e s hs];exact hc s hs⟩
theorem Span.lc {B Y:Mat} {k n:Nat} {c:Nat->Rat}:∀ l,(∀ j,j<l->Span B k n (Y j))->Span B k n (lc Y c l)
 | 0,_=>Span.zero fun s _=>rfl
 | l+1,h=>(Span.add (Span.lc l fun j hj=>h j (by omega)) (h l (by omega)) (c l)).congr fun s _=>rfl
theorem Span.more {B C:Mat} {k l n:Nat} {v:Nat->Rat} (h:Span B k n v) (hl:k<=l) (e:∀ j,j<k->∀ s,s<n->C j s=B j s):Span C l n v:=by
 obtain⟨c,hc⟩:=h
 refine Span.congr (Span.lc (B:=C) (Y:=C) (c:=c) k fun j hj=>Span.mem (by omega)) fun s hs=>?_
 rw[<-hc s hs]
 exact q1H k (fun j hj=>(e j hj s hs).symm) fun _ _=>rfl
theorem Span.eq {B:Mat} {k n:Nat} {v:Nat->Rat} (h:Span B k n v) {s t:Nat} (hs:s<n) (ht:t<n) (e:∀ j,j<k->B j s=B j t):v s=v t:=by
 obtain⟨c,hc⟩:=h
 rw[<-hc s hs,<-hc t ht]
 exact q1H k e fun _ _=>rfl
structure AlI (m:DMo) (bs:List (List Int)) (i:Nat):Prop where
 ne:1<=bs.length
 first:bs.getD 0 []=[]
 word:∀ j,j<bs.length->occ m (bs.getD j [])/\(bs.getD j []).length<=j
 ind:∀ j,j<bs.length->¬ Span (fun i=>bb m (bs.getD i [])) j (m.getD []).length (bb m (bs.getD j []))
 done:∀ j,j<i->j<bs.length->∀ k,(∃ s,s<(m.getD []).length/\mkS m s=k)->Span (fun i=>bb m (bs.getD i [])) bs.length (m.getD []).length (bb m (k :: bs.getD j []))
theorem AlI.size {m:DMo} {bs:List (List Int)} {i:Nat} (h:AlI m bs i):bs.length<=(m.getD []).length:=q5x (B:=fun j=>bb m (bs.getD j [])) h.ind
theorem AlI.start {m:DMo} (hm:moOk m):AlI m [[]] 0:=by
 refine⟨Nat.le_refl _,rfl,fun j hj=>?_,fun j hj=>?_,fun j hj=>absurd hj (by omega)⟩
 . have hj:j<1:=hj
   obtain rfl:j=0:=by omega
   exact⟨fun a ha=>(by cases ha),Nat.le_refl _⟩
 . have hj:j<1:=hj
   obtain rfl:j=0:=by omega
   rintro⟨c,hc⟩
   have h1:(0:Rat)=1:=hc 0 hm.1.1
   exact absurd h1 (by decide +kernel)
theorem q0D {α:Type} {l:List α} {x d:α} {i:Nat} (h:i<l.length):(l ++ [x]).getD i d=l.getD i d:=by
 rw[List.getD_eq_getElem?_getD,List.getElem?_append_left h,<-List.getD_eq_getElem?_getD]
theorem q35 {α:Type} {l:List α} {x d:α}:(l ++ [x]).getD l.length d=x:=by
 rw[List.getD_eq_getElem?_getD,List.getElem?_append_right (Nat.le_refl _),Nat.sub_self];rfl
theorem AlI.grow {m:DMo} {bs:List (List Int)} {i:Nat} (h:AlI m bs i) {k:Int} (hi:i<bs.length) (hk:∃ s,s<(m.getD []).length/\mkS m s=k) (hn:¬ Span (fun i=>bb m (bs.getD i [])) bs.length (m.getD []).length (bb m (k :: bs.getD i []))):
 AlI m (bs ++ [k :: bs.getD i []]) i:=by
 have hl:(bs ++ [k :: bs.getD i []]).length=bs.length+1:=by simp
 refine⟨by omega,?_,fun j hj=>?_,fun j hj=>?_,fun j hj hj2 k' hk'=>?_⟩
 . rw[q0D (by omega)];exact h.first
 . rw[hl] at hj
   by_cases g:j=bs.length
   . subst g
     rw[q35]
     obtain⟨w1,w2⟩:=h.word i hi
     refine⟨fun a ha=>?_,by rw[List.length_cons];omega⟩
     rcases List.mem_cons.1 ha with rfl | ha
     . exact hk
     . exact w1 a ha
   . rw[q0D (by omega)];exact h.word j (by omega)
 . rw[hl] at hj
   by_cases g:j=bs.length
   . subst g
     rw[q35]
     rintro⟨c,hc⟩
     refine hn ⟨c,fun s hs=>?_⟩
     rw[<-hc s hs]
     exact q1H _ (fun q hq=>by show bb m (bs.getD q []) s=bb m ((bs ++ [k :: bs.getD i []]).getD q []) s;rw[q0D hq]) fun _ _=>rfl
   . rw[q0D (by omega)]
     rintro⟨c,hc⟩
     refine h.ind j (by omega) ⟨c,fun s hs=>?_⟩
     rw[<-hc s hs]
     exact q1H _ (fun q hq=>by show bb m (bs.getD q []) s=bb m ((bs ++ [k :: bs.getD i []]).getD q []) s;rw[q0D (by omega)]) fun _ _=>rfl
 . rw[q0D (by omega)]
   rw[hl]
   exact (h.done j hj (by omega) k' hk').more (by omega) fun q hq s _=>by rw[q0D hq]
theorem AlI.all {m:DMo} {bs:List (List Int)} (h:AlI m bs bs.length):∀ w:List Int,Span (fun i=>bb m (bs.getD i [])) bs.length (m.getD []).length (bb m w)
 | []=>by
  have:=Span.mem (B:=fun i=>bb m (bs.getD i [])) (k:=bs.length) (n:=(m.getD []).length) (j:=0) (by have:=h.ne;omega)
  try dsimp only at this
  rwa [h.first] at this
 | k :: w=>by
  by_cases hk:∃ s,s<(m.getD []).length/\mkS m s=k
  . obtain⟨c,hc⟩:=AlI.all h w
    refine Span.congr (Span.lc (B:=fun i=>bb m (bs.getD i [])) (Y:=fun j=>bb m (k :: bs.getD j [])) (c:=c) bs.length fun j hj=>h.done j hj hj k hk) fun s hs=>?_
    show seenQ m (bkQ (rowQ m) (bb m w) (m.getD []).length) k s=dtQ (fun j=>seenQ m (bkQ (rowQ m) (bb m (bs.getD j [])) (m.getD []).length) k s) c bs.length
    have e:bkQ (rowQ m) (bb m w) (m.getD []).length s=dtQ (fun j=>bkQ (rowQ m) (bb m (bs.getD j [])) (m.getD []).length s) c bs.length:=by
     unfold bkQ dtQ
     rw[q04 (g:=fun t=>sumQ (fun j=>bb m (bs.getD j []) t*rowQ m s t*c j) bs.length) _ fun t ht=>?_]
     . rw[q6l]
       exact q04 _ fun j _=>by rw[<-q0k]
     . try dsimp only
       rw[<-hc t ht]
       unfold dtQ
       rw[<-q0k]
       exact q04 _ fun j _=>by grind
    unfold seenQ
    split
    . exact e
    . exact (sum_zero' _ fun j _=>Rat.zero_mul _).symm
  . exact Span.zero fun s hs=>seen_not hk _ s hs
theorem AlI.alike {m:DMo} (hm:moOk m) {bs:List (List Int)} (h:AlI m bs bs.length) {s t:Nat} (hs:s<(m.getD []).length) (ht:t<(m.getD []).length):
 (∀ w,¬ Dist m (prQ s t) w)↔∀ j,j<bs.length->bb m (bs.getD j []) s=bb m (bs.getD j []) t:=by
 constructor
 . intro g j hj
   by_cases e:bb m (bs.getD j []) s=bb m (bs.getD j []) t
   . exact e
   . exact absurd (q2f.2 ⟨(h.word j hj).1.mks hm,by rw[wQ_bb hm hs,wQ_bb hm ht];exact e⟩) (g _)
 . intro g w hw
   refine (q2f.1 hw).2 ?_
   rw[wQ_bb hm hs,wQ_bb hm ht]
   exact (h.all w).eq hs ht g
def AlkOk (m:DMo) (l:List Int):Prop:=l.length=(m.getD []).length/\∀ s,s<(m.getD []).length->∃ t:Nat,t<=s/\int l s=(t:Int)/\(∀ w,¬ Dist m (prQ t s) w)/\∀ t',t'<t->∃ w,Dist m (prQ t' s) w
theorem AlkOk.uniq {m:DMo} {l k:List Int} (h:AlkOk m l) (g:AlkOk m k):l=k:=by
 refine List.ext_getElem (h.1.trans g.1.symm) fun s h1 h2=>?_
 obtain⟨t,_,e1,a1,b1⟩:=h.2 s (by rw[<-h.1];exact h1)
 obtain⟨u,_,e2,a2,b2⟩:=g.2 s (by rw[<-h.1];exact h1)
 have g1:int l s=l[s]:=by show l.getD s 0=_;rw[List.getD_eq_getElem?_getD,List.getElem?_eq_getElem h1];rfl
 have g2:int k s=k[s]:=by show k.getD s 0=_;rw[List.getD_eq_getElem?_getD,List.getElem?_eq_getElem h2];rfl
 rw[<-g1,<-g2,e1,e2]
 rcases Nat.lt_trichotomy t u with q | q | q
 . obtain⟨w,hw⟩:=b2 t q;exact absurd hw (a1 w)
 . rw[q]
 . obtain⟨w,hw⟩:=b1 u q;exact absurd hw (a2 w)
theorem self_alike (m:DMo) (s:Nat) (w:List Int):¬ Dist m (prQ s s) w:=fun h=>(q2f.1 h).2 rfl
theorem least_alike (m:DMo) (s:Nat):∃ t,t<=s/\(∀ w,¬ Dist m (prQ t s) w)/\∀ t',t'<t->∃ w,Dist m (prQ t' s) w:=by
 obtain⟨t,h1,h2⟩:=q3a (α:=Nat) id (P:=fun t=>∀ w,¬ Dist m (prQ t s) w) ⟨s,self_alike m s⟩
 refine⟨t,h2 s (self_alike m s),h1,fun t' ht=>?_⟩
 by_cases g:∃ w,Dist m (prQ t' s) w
 . exact g
 . have:=h2 t' fun w hw=>g ⟨w,hw⟩
   have:t<=t':=this
   omega
theorem AlkOk.ex (m:DMo):∃ l,AlkOk m l:=by
 refine⟨tab (fun s=>((least_alike m s).choose:Int)) (m.getD []).length,tab_len _ _,fun s hs=>?_⟩
 obtain⟨h1,h2,h3⟩:=(least_alike m s).choose_spec
 exact⟨_,h1,tab_get _ _ _ _ hs,h2,h3⟩
end Go.Proofs.Pf.B
namespace Go.Proofs.Pf.B
open Go Go.VM
def bkw (m:DMo):List Int->Nat->Rat
 | []=>fun _=>1
 | c :: r=>bkQ (rowQ m) (seenQ m (bkw m r) c) (m.getD []).length
theorem bkw_fb {m:DMo} (hm:moOk m):∀ w:List Int,FB (m.getD []).length (w.length*((m.getD []).length*(m.getD []).length+1+1)) (bkw m w)
 | []=>⟨1,by decide,(by rw[List.length_nil,Nat.zero_mul,Nat.pow_zero];exact Nat.le_refl _),fun i _=>by exact (QD.one 1).mono (by simp)⟩
 | k :: w=>by
  refine (((bkw_fb hm w).seen k).bstep hm.mb (Nat.le_trans hm.1.2 (by decide)) (Nat.le_refl _)).mono ?_
  rw[List.length_cons,Nat.succ_mul];omega
theorem FB.times {n a b:Nat} {x y:Nat->Rat} (h:FB n a x) (g:FB n b y):FB n (a+b) fun s=>x s*y s:=by
 obtain⟨D,h1,h2,h3⟩:=h
 obtain⟨E,g1,g2,g3⟩:=g
 exact⟨D*E,Nat.mul_pos h1 g1,kk_mul h2 g2,fun s hs=>((h3 s hs).mul (g3 s hs)).mono (by rw[Nat.pow_add];exact Nat.le_refl _)⟩
theorem FB.prodC {n a b:Nat} {x:Nat->Rat} {P:Mat} (h:FB n a x) (g:MB n b P) {s t:Nat} (hs:s<n) (ht:t<n):Pf.RFit (2*(a+b)+1) (x t*P s t)/\RFit (2*(a+b)+1) (x t*P s t):=by
 have g':MB n b fun i j=>P j i:=by
  obtain⟨D,h1,h2,h3⟩:=g
  exact⟨D,h1,h2,fun i j hi hj=>h3 j i hj hi⟩
 exact h.prod g' ht hs
def thenF (m:DMo) (d:List (Int×Int)) (v:List Int) (k:Nat) (s:Nat):Rat:=bkw m (v.drop (k+1)) s*fwdQ m (dQ d) v (k+1) s
def thenQ (m:DMo) (d:List (Int×Int)) (v:List Int) (k:Int):Option (List (Int×Int))×Int×Unit:=
 if askedQ m d v=0 then (if 0<=k/\k<(v.length:Int) then givenQ (thenF m d v k.toNat) (m.getD []).length else (none,6,())) else (none,askedQ m d v,())
theorem mul_pos' {a b:Rat} (ha:0<=a) (hb:0<=b):0<a*b↔0<a/\0<b:=by
 constructor
 . intro h
   refine⟨?_,?_⟩
   . by_cases e:a=0
     . rw[e,Rat.zero_mul] at h;exact absurd h (by grind)
     . grind
   . by_cases e:b=0
     . rw[e,Rat.mul_zero] at h;exact absurd h (by grind)
     . grind
 . rintro⟨h1,h2⟩;exact Rat.mul_pos h1 h2
theorem step_nn {m:DMo} (hm:moOk m) {x:Nat->Rat} (hx:∀ s,s<(m.getD []).length->0<=x s) (t:Nat):0<=stepQ (rowQ m) x (m.getD []).length t:=
 sum_nn _ fun s hs=>Rat.mul_nonneg (hx s hs) (hm.rownn hs t)
theorem fwd_nn {m:DMo} (hm:moOk m) {x:Nat->Rat} (hx:∀ s,s<(m.getD []).length->0<=x s) {view:List Int}:∀ i s,s<(m.getD []).length->0<=fwdQ m x view i s
 | 0,s,hs=>hx s hs
 | i+1,s,hs=>by
  refine q6a ?_
  split
  . exact hx s hs
  . exact step_nn hm (fwd_nn hm hx i) s
theorem dQ_nn {d:List (Int×Int)} (h:∀ i,i<d.length->0<=(nth2 d i).1) (i:Nat) (hi:i<d.length):0<=dQ d i:=by
 unfold dQ
 split
 . rename_i g
   refine Rat.num_nonneg.1 ?_
   rw[g.q.1];exact h i hi
 . exact Rat.le_refl
def posL (f:Nat->Rat):Nat->List Int
 | 0=>[]
 | n+1=>if 0<f n then posL f n ++ [(n:Int)] else posL f n
theorem posL_len {f:Nat->Rat}:∀ n,(posL f n).length<=n
 | 0=>Nat.le_refl _
 | n+1=>by
  have:=posL_len (f:=f) n
  simp only[posL]
  split
  . rw[List.length_append];show _+1<=_;omega
  . omega
def possQ (m:DMo) (d:List (Int×Int)) (v:List Int):DL×(Int×Unit):=if askedQ m d v=0 then (optL (posL (lastQ m d v) (m.getD []).length),(0,())) else (none,(askedQ m d v,()))
def BL (l:Option (List Bool)) (f:Nat->Rat) (n:Nat):Prop:=(l.getD []).length=n/\∀ i,i<n->((l.getD []).getD i false=true↔0<f i)
theorem seen_at {m:DMo} {y:Nat->Rat} {k:Int} {s:Nat} (h:mkS m s=k):seenQ m y k s=y s:=if_pos h
end Go.Proofs.Pf.B
namespace Go.Proofs.Pf.B
open Go Go.VM
def PT (m:DMo) (w:List Int) (k N:Nat) (g:Nat->Rat) (y:List (List DRR)):Prop:=
 y.length=k+1/\(∀ j,j<k->TL (some (y.getD j [])) (bestQ m w (w.length - 1 - j)) N)/\TL (some (y.getD k [])) g N
theorem PT.set {m:DMo} {w:List Int} {k N s:Nat} {f g:Nat->Rat} {y:List (List DRR)} {z:DRR} (h:PT m w k N f y) (hs:s<N) (hz:RRV z (g s)) (hg:∀ t,t<N->t≠s->g t=f t):PT m w k N g (setR y k s z):=by
 obtain⟨h1,h2,h3⟩:=h
 refine⟨?_,fun j hj=>?_,?_⟩
 . show (y.set k _).length=k+1
   simpa using h1
 . show TL (some ((y.set k _).getD j [])) _ _
   rw[List.getD_eq_getElem?_getD,List.getElem?_set_ne (by omega),<-List.getD_eq_getElem?_getD]
   exact h2 j hj
 . show TL (some ((y.set k _).getD k [])) _ _
   rw[List.getD_eq_getElem?_getD,List.getElem?_set_self (by omega)]
   exact TL.set (l:=some (y.getD k [])) h3 hs hz hg
theorem PT.congr {m:DMo} {w:List Int} {k N:Nat} {f g:Nat->Rat} {y:List (List DRR)} (h:PT m w k N f y) (hg:∀ t,t<N->g t=f t):PT m w k N g y:=⟨h.1,h.2.1,h.2.2.congr hg⟩
def LkOk (m:DMo) (x:Nat->Rat) (view:List Int) (r:DL×(DRR×(Bool×Unit))):Prop:=
 (view=[]/\r.1=none/\RRV r.2.1 1/\r.2.2.1=true)∨(view≠[]/\topQ m x view 0=0/\r.1=none/\r.2.2.1=false) ∨
  (view≠[]/\0<topQ m x view 0/\r.1=optL (tab (fun i=>(atQ m x view i:Int)) view.length)/\RRV r.2.1 (topQ m x view 0)/\r.2.2.1=true)
theorem LkOk.ex (m:DMo) (x:Nat->Rat) (view:List Int):∃ r,LkOk m x view r:=by
 obtain⟨a,ha⟩:=RRV_ex (1:Rat)
 obtain⟨b,hb⟩:=RRV_ex (topQ m x view 0)
 by_cases h:view=[]
 . exact⟨(none,(a,(true,()))),.inl ⟨h,rfl,ha,rfl⟩⟩
 . by_cases g:topQ m x view 0=0
   . exact⟨(none,(a,(false,()))),.inr (.inl ⟨h,g,rfl,rfl⟩)⟩
   . have:=topQ_nn (m:=m) (x:=x) (view:=view) 0
     exact⟨(_,(b,(true,()))),.inr (.inr ⟨h,by grind,rfl,hb,rfl⟩)⟩
end Go.Proofs.Pf.B
namespace Go.Proofs.Pf.B
open Go Go.VM
theorem s_Or (a b:Bool) (c:DR):callV Pg q10 [⟨.bool,a⟩,⟨.bool,b⟩,⟨tER,c⟩] .bool fun r=>r=(a || b):=by
 refine qcH a b c ⟨_,rfl⟩ (joinR (fun p=>p=(a || b)) (fun _ h=>h) fun k hk=>br_c (fun h=>?_) fun h=>?_)
 . subst h;exact hk _ rfl
 . subst h;exact hk _ (by cases b<;>rfl)
theorem BL.congr {l:Option (List Bool)} {f g:Nat->Rat} {n:Nat} (h:BL l f n) (e:∀ j,j<n->(0<g j↔0<f j)):BL l g n:=⟨h.1,fun i hi=>(h.2 i hi).trans (e i hi).symm⟩
theorem BL.zero (n:Nat):BL (some (repS (n:Int) false)) (fun _=>0) n:=by
 refine⟨by show (List.replicate (n:Int).toNat false).length=n;simp,fun i hi=>?_⟩
 show ((List.replicate (n:Int).toNat false).getD i false=true)↔_
 rw[List.getD_eq_getElem?_getD,List.getElem?_replicate]
 refine⟨fun h=>?_,fun h=>absurd h (by grind)⟩
 split at h<;>cases h
theorem BL.set {l:Option (List Bool)} {f g:Nat->Rat} {n i:Nat} {z:Bool} (h:BL l f n) (hi:i<n) (hz:z=true↔0<g i) (hg:∀ j,j<n->j≠i->(0<g j↔0<f j)):BL (setO l i z) g n:=by
 obtain⟨h1,h2⟩:=h
 cases l with
 | none=>have h1:0=n:=h1;omega
 | some l=>
  have h1:l.length=n:=h1
  refine⟨by show (l.set i z).length=n;rw[List.length_set];exact h1,fun j hj=>?_⟩
  show ((l.set i z).getD j false=true)↔_
  rw[List.getD_eq_getElem?_getD,List.getElem?_set]
  by_cases e:i=j
  . subst e
    rw[if_pos rfl,if_pos (by omega)];exact hz
  . rw[if_neg e,<-List.getD_eq_getElem?_getD]
    exact (h2 j hj).trans (hg j hj (fun q=>e q.symm)).symm
theorem BL.ex (f:Nat->Rat) (n:Nat):∃ r,BL r f n:=by
 refine⟨some (tab (fun i=>decide (0<f i)) n),tab_len _ _,fun i hi=>?_⟩
 rw[show ((some (tab (fun i=>decide (0<f i)) n)).getD []).getD i false=decide (0<f i) from tab_get _ _ _ _ hi]
 exact decide_eq_true_iff
theorem BL.sz {l:Option (List Bool)} {f:Nat->Rat} {n:Nat} (h:BL l f n):szSl l=(n:Int):=by show ((l.getD []).length:Int)=n;rw[h.1]
theorem eltS_b {l:Option (List Bool)} {i:Nat}:eltS false l (i:Int)=(l.getD []).getD i false:=by simp only[eltS,Int.toNat_natCast]
theorem eltN_b {l:Option (List Bool)} {i:Nat}:eltN false l (toN (i:Int))=(l.getD []).getD i false:=by simp only[eltN,toN,Int.toNat_natCast]
theorem s_seenB {m:DMo} {l:Option (List Bool)} {f:Nat->Rat} {k:Int} (hl:BL l f (m.getD []).length) (hn:(m.getD []).length<=1000):
 callV Pg q5h [⟨tMo,m⟩,⟨(.sl .bool),l⟩,⟨tI,k⟩] (.sl .bool) fun r=>BL r (seenQ m f k) (m.getD []).length:=by
 refine qcY m l k (BL.ex _ _) ⟨?_,?_⟩
 . rw[hl.sz]
   show 0<=((m.getD []).length:Int)/\((m.getD []).length:Int)<=((m.getD []).length:Int)/\((m.getD []).length:Int)*1<=281474976710656
   omega
 rw[hl.sz]
 refine rangeB (n:=(m.getD []).length) (fun i x=>(l,(k,(m,(((m.getD []).length:Int),((i:Int),x)))))) (fun i x=>BL x (fun s=>if s<i then seenQ m f k s else 0) (m.getD []).length) (some (repS ((m.getD []).length:Int) false)) rfl ((BL.zero _).congr fun j _=>by rw[if_neg (by omega)]) (fun p=>p.2.2.2.2.1.toNat) (fun _ _=>rfl) (fun _ _ _=>rfl) ?_ ?_
 . intro k0 i x hi hx hk0
   dsimp only
   rw[q0C]
   have old:∀ j,j<(m.getD []).length->j≠i->((0<if j<i+1 then seenQ m f k j else 0)↔0<if j<i then seenQ m f k j else 0):=fun j _ hj=>by
    by_cases q:j<i
    . rw[if_pos q,if_pos (by omega)]
    . rw[if_neg q,if_neg (by omega)]
   refine⟨in_s hi,joinR (fun p=>∃ x,p=(l,(k,(m,(((m.getD []).length:Int),((i:Int),x)))))/\BL x (fun s=>if s<i+1 then seenQ m f k s else 0) (m.getD []).length) ?_ ?_⟩
   . rintro _ ⟨x,rfl,hx⟩
     dsimp only
     rw[wi1 hi (by omega)]
     exact hk0 _ hx
   . intro k2 hk2
     refine br_c (fun g=>?_) fun g=>?_
     . have g:(stt (m.getD []) i).2.1=k:=dec_t g
       refine⟨in_s (by rw[hl.1];exact hi),in_s (by rw[hx.1];exact hi),hk2 _ ⟨_,rfl,?_⟩⟩
       rw[show toN (i:Int)=i from Int.toNat_natCast i,eltS_b]
       refine hx.set hi ?_ old
       rw[if_pos (by omega),seen_at g]
       exact hl.2 i hi
     . have g:¬ (stt (m.getD []) i).2.1=k:=dec_f g
       refine hk2 _ ⟨x,rfl,hx.congr fun j hj=>?_⟩
       by_cases q:j=i
       . subst q
         rw[if_pos (by omega),if_neg (by omega),show seenQ m f k j=0 from if_neg g]
       . exact old j hj q
 . intro _ x hx
   exact hx.congr fun j hj=>by rw[if_pos hj]
set_option maxHeartbeats 4000000 in
theorem s_movedP {m:DMo} {p:Option (List (Option (List DR)))} {l:Option (List Bool)} {x:Nat->Rat} (hm:moOk m) (hp:RM p (rowQ m) (m.getD []).length) (hl:BL l x (m.getD []).length) (hx0:∀ s,s<(m.getD []).length->0<=x s):
 callV Pg q5g [⟨(.sl (.sl tER)),p⟩,⟨(.sl .bool),l⟩,⟨.bool,false⟩,⟨(.cst (.fn q10)),()⟩] (.sl .bool) fun r=>BL r (stepQ (rowQ m) x (m.getD []).length) (m.getD []).length:=by
 obtain⟨p1,p2⟩:=hp
 have hn:=hm.1.2
 generalize hN:(m.getD []).length=n at *
 have e2:szSl p=(n:Int):=by show ((p.getD []).length:Int)=n;rw[p1]
 refine qcV p l false () (BL.ex _ _) ⟨?_,?_⟩
 . rw[hl.sz]
   show 0<=(n:Int)/\(n:Int)<=n/\(n:Int)*1<=281474976710656
   omega
 rw[hl.sz,e2]
 have snn:∀ a,a<=n->∀ t,0<=stepQ (rowQ m) x a t:=fun a ha t=>sum_nn a fun s hs=>Rat.mul_nonneg (hx0 s (by omega)) (hm.rownn (by omega) t)
 refine rangeB (n:=n) (fun i y=>(p,(l,(false,((n:Int),((i:Int),y)))))) (fun i y=>BL y (stepQ (rowQ m) x i) n) (some (repS (n:Int) false)) rfl (BL.zero n) (fun p=>p.2.2.2.2.1.toNat) (fun _ _=>rfl) (fun _ _ _=>rfl) ?_ ?_
 . intro k0 i y hi hy hk0
   try dsimp only
   obtain⟨r1,r2⟩:=p2 i hi
   refine⟨in_s (by omega),?_⟩
   rw[q0t]
   generalize hr:(p.getD []).getD i none=r at *
   have e3:szSl r=(n:Int):=by show ((r.getD []).length:Int)=n;rw[r1]
   rw[e3]
   refine rangeB (n:=n) (fun j z=>(p,(l,(false,((i:Int),((n:Int),((i:Int),(r,((n:Int),((j:Int),z)))))))))) (fun j z=>BL z (fun t=>if t<j then stepQ (rowQ m) x (i+1) t else stepQ (rowQ m) x i t) n) y rfl (hy.congr fun j _=>by rw[if_neg (by omega)]) (fun p=>p.2.2.2.2.2.2.2.2.1.toNat) (fun _ _=>rfl) (fun _ _ _=>rfl) ?_ ?_
   . intro k1 j z hj hz hk1
     try dsimp only
     refine⟨in_s (by omega),?_⟩
     rw[q05]
     have hc:=r2 j hj
     have old:∀ t,t<n->t≠j->((0<if t<j+1 then stepQ (rowQ m) x (i+1) t else stepQ (rowQ m) x i t)↔0<if t<j then stepQ (rowQ m) x (i+1) t else stepQ (rowQ m) x i t):=fun t _ ht=>by
      by_cases q:t<j
      . rw[if_pos q,if_pos (by omega)]
      . rw[if_neg q,if_neg (by omega)]
     refine (q0x hc).mono fun sg hsg=>?_
     subst hsg
     refine joinE (br_c (fun hb=>?_) fun hb=>?_)
     . try dsimp only
       rw[wi1 hj (by omega)]
       refine hk1 _ (hz.congr fun t ht=>?_)
       have h0:=rv_zero hc (dec_t hb)
       by_cases q:t=j
       . subst q
         rw[if_pos (by omega),if_neg (by omega),show stepQ (rowQ m) x (i+1) t=stepQ (rowQ m) x i t+x i*rowQ m i t from rfl,h0,Rat.mul_zero,Rat.add_zero]
       . exact old t ht q
     . have hne:rowQ m i j≠0:=fun e=>by
        have hb:=dec_f hb
        rw[e] at hb
        exact hb (by decide)
       refine joinE (br_f rfl ⟨in_s (by rw[hz.1];exact hj),in_s (by rw[hl.1];exact hi),?_⟩)
       rw[eltN_b,eltS_b]
       refine (s_Or _ _ _).mono ?_
       rintro _ rfl
       refine⟨in_s (by rw[hz.1];exact hj),?_⟩
       try dsimp only
       rw[wi1 hj (by omega),show toN (j:Int)=j from Int.toNat_natCast j]
       refine hk1 _ (hz.set hj ?_ old)
       rw[if_pos (by omega),Bool.or_eq_true,hz.2 j hj,hl.2 i hi]
       dsimp only
       rw[if_neg (by omega),show stepQ (rowQ m) x (i+1) j=stepQ (rowQ m) x i j+x i*rowQ m i j from rfl]
       have a1:=snn i (by omega) j
       have a2:=hx0 i hi
       have a3:=hm.rownn (s:=i) (by omega) j
       have a4:=Rat.mul_nonneg a2 a3
       have a5:=mul_pos' a2 a3
       have a6:0<rowQ m i j:=by grind
       constructor
       . rintro (q | q)
         . grind
         . have:=a5.2 ⟨q,a6⟩;grind
       . intro q
         by_cases w:0<stepQ (rowQ m) x i j
         . exact .inl w
         . exact .inr (a5.1 (by grind)).1
   . intro _ z hz
     try dsimp only
     rw[wi1 hi (by omega)]
     exact hk0 _ (hz.congr fun t ht=>by rw[if_pos ht])
 . intro _ y hy
   exact hy
theorem s_Poss2 {l:Option (List Bool)} {f:Nat->Rat} {n i:Nat} (hl:BL l f n) (hi:i<n):callV Pg q2X [⟨tI,(i:Int)⟩,⟨(.fref (.sl .bool)),l⟩] .bool fun r=>r=true↔0<f i:=by
 refine qcI i l ⟨decide (0<f i),decide_eq_true_iff⟩ ⟨in_s (by rw[hl.1];exact hi),?_⟩
 rw[eltS_b];exact hl.2 i hi
theorem s_MarkedP {l:Option (List Bool)} {f:Nat->Rat} {n:Nat} (hl:BL l f n) (hn:n<=1000000):
 lendV Pg q24 2 q3q ((n:Int),(l,())) fun r=>r=optL (posL f n):=by
 refine qbH n _ ⟨_,rfl⟩ ?_
 refine rangeB (n:=n) (fun i r=>((l,()),((n:Int),((i:Int),r)))) (fun i r=>r=optL (posL f i)) none rfl rfl (fun p=>p.2.2.1.toNat) (fun _ _=>rfl) (fun _ _ _=>rfl) ?_ ?_
 . rintro k0 i _ hi rfl hk0
   dsimp only
   refine (s_Poss2 hl hi).mono fun r hr=>joinE (br_c (fun h=>?_) fun h=>?_)
   . refine⟨?_,?_⟩
     . show (((optL (posL f i)).getD []).length+1)*8<=140737488355328
       have:=posL_len (f:=f) i
       rw[q07];omega
     . dsimp only
       rw[wi1 hi (by omega)]
       refine hk0 _ ?_
       show appL (optL (posL f i)) [(i:Int)]=optL (posL f (i+1))
       rw[q0G]
       simp only[posL]
       rw[if_pos (hr.1 h)]
   . dsimp only
     rw[wi1 hi (by omega)]
     refine hk0 _ ?_
     simp only[posL]
     rw[if_neg fun g=>by rw[hr.2 g] at h;cases h]
 . rintro _ _ rfl
   rfl
theorem num_pos {a:Int×Int} (h:NumOk a):0<numQ a↔0<a.1:=by
 rw[<-rat_pos,h.q.1,sgn_pos]
set_option maxHeartbeats 4000000 in
theorem q62 (m:DMo) (d:Option (List (Int×Int))) (v:DL) (hd:(d.getD []).length<=1000) (hv:(v.getD []).length<4611686018427387904):
 lendV Pg q2W 3 q2C (m,d,v) fun q=>(q.2,(q.1,()))=possQ m (d.getD []) (v.getD []):=by
 refine qcJ (Q:=fun q=>(q.2,(q.1,()))=possQ m (d.getD []) (v.getD [])) m d v ⟨((possQ m (d.getD []) (v.getD [])).2.1,(possQ m (d.getD []) (v.getD [])).1),rfl⟩ ((q2r m d v hd hv).mono ?_)
 rintro _ rfl
 by_cases h:askedQ m (d.getD []) (v.getD [])=0
 case neg=>
  rw[decide_eq_false h]
  exact br_t rfl (by show (none,(_,()))=_;rw[possQ,if_neg h])
 rw[decide_eq_true h]
 obtain⟨h1,h2,h3,h4⟩:=q0K h
 have hn:=h1.1.2
 have hdn:=h2.2.1
 have hvl:=h3.1
 have hd0:∀ s,s<(m.getD []).length->0<=dQ (d.getD []) s:=fun s hs=>dQ_nn (fun i hi=>(h2.1 i hi).2) s (by omega)
 refine br_f rfl ((q1s h1).mono fun rows hp=>?_)
 have esz:szSl m=((m.getD []).length:Int):=rfl
 have esd:szSl d=((m.getD []).length:Int):=by show ((d.getD []).length:Int)=_;rw[hdn]
 have esv:szSl v=((v.getD []).length:Int):=rfl
 rw[esz,esd]
 refine⟨⟨by omega,by omega,by omega⟩,?_⟩
 refine rangeB (n:=(m.getD []).length) (fun i x=>(v,(rows,(d,(((m.getD []).length:Int),((i:Int),(m,((),x)))))))) (fun i x=>BL x (fun s=>if s<i then dQ (d.getD []) s else 0) (m.getD []).length) (some (repS ((m.getD []).length:Int) false)) rfl ((BL.zero _).congr fun j _=>by rw[if_neg (by omega)]) (fun p=>p.2.2.2.2.1.toNat) (fun _ _=>rfl) (fun _ _ _=>rfl) ?_ ?_
 . intro k2 i x hi hx hk2
   (try dsimp only)
   rw[eltS_n]
   refine⟨in_s (by omega),in_s (by rw[hx.1];exact hi),?_⟩
   rw[wi1 hi (by omega),show toN (i:Int)=i from Int.toNat_natCast i]
   refine hk2 _ (hx.set hi ?_ fun j _ hj=>?_)
   . rw[if_pos (by omega),decide_eq_true_eq,h2.1.dq (by omega)]
     exact (num_pos (h2.1 i (by omega)).1).symm
   . by_cases q:j<i
     . rw[if_pos q,if_pos (by omega)]
     . rw[if_neg q,if_neg (by omega)]
 intro _ x hx
 dsimp only
 have hx:BL x (fwdQ m (dQ (d.getD [])) (v.getD []) 0) (m.getD []).length:=hx.congr fun j hj=>by rw[if_pos hj];rfl
 rw[esv]
 refine rangeB (n:=(v.getD []).length) (fun i x=>(rows,(v,(((v.getD []).length:Int),((i:Int),(m,x)))))) (fun i x=>BL x (fwdQ m (dQ (d.getD [])) (v.getD []) i) (m.getD []).length) x rfl hx (fun p=>p.2.2.2.1.toNat) (fun _ _=>rfl) (fun _ _ _=>rfl) ?_ ?_
 . intro k4 i x hi hx hk4
   dsimp only
   rw[q2g]
   refine⟨in_s hi,joinR (fun p=>∃ x,p=(rows,(int (v.getD []) i,(v,(((v.getD []).length:Int),((i:Int),(m,x))))))/\BL x (if i=0 then dQ (d.getD []) else stepQ (rowQ m) (fwdQ m (dQ (d.getD [])) (v.getD []) i) (m.getD []).length) (m.getD []).length) ?_ ?_⟩
   . rintro _ ⟨x,rfl,hx⟩
     dsimp only
     refine (s_seenB hx (by omega)).mono fun y hy=>?_
     rw[wi1 hi (by omega)]
     exact hk4 _ hy
   . intro k6 hk6
     refine br_c (fun g=>?_) fun g=>?_
     . have g:(0:Int)<(i:Int):=dec_t g
       refine (s_movedP h1 hp hx (fwd_nn h1 hd0 i)).mono fun y hy=>hk6 _ ⟨y,rfl,?_⟩
       rw[if_neg (by omega)];exact hy
     . have g:¬ (0:Int)<(i:Int):=dec_f g
       obtain rfl:i=0:=by omega
       exact hk6 _ ⟨x,rfl,hx⟩
 . intro _ x hx
   dsimp only
   rw[hx.sz]
   refine (s_MarkedP hx (by omega)).mono ?_
   rintro _ rfl
   show (_,(_,()))=_
   rw[possQ,if_pos h];rfl
theorem qaS (m:DMo) (d:Option (List (Int×Int))) (v:DL) (hd:(d.getD []).length<=1000) (hv:(v.getD []).length<4611686018427387904):
 callV Pg q2W [⟨tMo,m⟩,⟨(.sl tNum),d⟩,⟨tL,v⟩] (.tup (.pair tL (.pair tI .unit))) fun r=>r=possQ m (d.getD []) (v.getD []):=
 q1E (L:=q2C) (p:=(m,d,v)) (q62 m d v hd hv) fun _ hq=>⟨_,rfl,hq⟩
end Go.Proofs.Pf.B
namespace Go.Proofs.Pf.B
open Go Go.VM
theorem s_movedO {p:Option (List (Option (List DR)))} {l:Option (List DR)} {P:Mat} {x:Nat->Rat} {n k:Nat} (hp:RM p P n) (hl:RL l x n) (hn:n<=1000)
 (f1:∀ s t,s<n->t<n->Pf.RFit k (P s t)) (f2:∀ s,s<n->Pf.RFit k (x s)) (f3:∀ s t,s<n->t<n->Pf.RFit k (x t*P s t)) (f4:∀ b s,b<=n->s<n->Pf.RFit k (bkQ P x b s)) (hk:k+k+1<=1073741824):
 ownV Pg q0P [⟨(.sl (.sl tER)),p⟩,⟨(.sl tER),l⟩,⟨.bool,true⟩,⟨(.cst (.fn q0c)),()⟩] tER fun r=>RL r (bkQ P x n) n:=by
 obtain⟨h1,h2⟩:=hl
 obtain⟨p1,p2⟩:=hp
 have e1:szSl l=(n:Int):=by show ((l.getD []).length:Int)=n;rw[h1]
 have e2:szSl p=(n:Int):=by show ((p.getD []).length:Int)=n;rw[p1]
 refine qcW p l true () (RL.ex _ _) ⟨?_,?_⟩
 . rw[e1]
   show 0<=(n:Int)/\(n:Int)<=n/\(n:Int)*64<=281474976710656
   omega
 . rw[e1,e2]
   refine rangeB (n:=n) (fun i y=>(p,(l,(true,((n:Int),((i:Int),y)))))) (fun i y=>RL y (fun s=>if s<i then bkQ P x n s else 0) n) (some (repS (n:Int) r0)) rfl ((RL.zero n).congr fun j _=>if_neg (by omega)) (fun p=>p.2.2.2.2.1.toNat) (fun _ _=>rfl) (fun _ _ _=>rfl) ?_ ?_
   . intro k0 i y hi hy hk0
     try dsimp only
     obtain⟨r1,r2⟩:=p2 i hi
     refine⟨in_s (by omega),?_⟩
     rw[q0t]
     generalize hr:(p.getD []).getD i none=r at *
     have e3:szSl r=(n:Int):=by show ((r.getD []).length:Int)=n;rw[r1]
     rw[e3]
     refine rangeB (n:=n) (fun j z=>(p,(l,(true,((i:Int),((n:Int),((i:Int),(r,((n:Int),((j:Int),z)))))))))) (fun j z=>RL z (fun s=>if s<i then bkQ P x n s else if s=i then bkQ P x j s else 0) n) y rfl (hy.congr fun j _=>?_) (fun p=>p.2.2.2.2.2.2.2.2.1.toNat) (fun _ _=>rfl) (fun _ _ _=>rfl) ?_ ?_
     . try dsimp only
       by_cases h:j<i
       . rw[if_pos h,if_pos h]
       . rw[if_neg h,if_neg h]
         split<;>rfl
     . intro k1 j z hj hz hk1
       try dsimp only
       refine⟨in_s (by omega),?_⟩
       rw[q05]
       have hc:=r2 j hj
       refine (q0x hc).mono fun sg hsg=>?_
       subst hsg
       refine joinE (br_c (fun hb=>?_) fun hb=>?_)
       . try dsimp only
         rw[wi1 hj (by omega)]
         refine hk1 _ (hz.congr fun t _=>?_)
         have h0:=rv_zero hc (dec_t hb)
         simp only[bkQ,sumQ]
         by_cases ht:t=i
         . subst ht;rw[h0,Rat.mul_zero,Rat.add_zero]
         . rw[if_neg ht,if_neg ht]
       . refine joinE (br_t rfl ⟨in_s (by rw[hz.1];exact hi),in_s (by omega),?_⟩)
         have e4:eltN r0 z (toN (i:Int))=(z.getD []).getD i r0:=by simp only[eltN,toN,Int.toNat_natCast]
         rw[e4,q05]
         have hzj:=hz.2 i hi
         dsimp only at hzj
         rw[if_neg (by omega),if_pos rfl] at hzj
         refine (q68 hzj (h2 j hj) hc (f4 j i (by omega) hi) (f2 j hj) (f1 i j hi hj) (f3 i j hi hj) hk).mono fun w hw=>⟨in_s (by rw[hz.1];exact hi),?_⟩
         try dsimp only
         rw[wi1 hj (by omega),show toN (i:Int)=i from Int.toNat_natCast i]
         refine hk1 _ (RL.set hz hi (g:=fun s=>if s<i then bkQ P x n s else if s=i then bkQ P x (j+1) s else 0) ?_ fun t _ ht=>?_)
         . rw[if_neg (by omega),if_pos rfl];exact hw
         . try dsimp only
           rw[if_neg ht,if_neg ht]
     . intro _ z hz
       try dsimp only
       rw[wi1 hi (by omega)]
       refine hk0 _ (hz.congr fun t ht=>?_)
       try dsimp only
       by_cases h:t<i
       . rw[if_pos h,if_pos (by omega)]
       . rw[if_neg h]
         by_cases h2:t=i
         . rw[if_pos h2,if_pos (by omega)]
         . rw[if_neg h2,if_neg (by omega)]
   . intro _ y hy
     exact hy.congr fun j hj=>by rw[if_pos hj]
theorem RLL.rowS {p:Option (List (Option (List DR)))} {f:Mat} {k n i:Nat} (h:RLL p f k n) (hi:i<k):RL (eltS none p (i:Int)) (f i) n:=by
 have:=h.at hi
 simp only[eltN,toN,Int.toNat_natCast] at this
 simp only[eltS,Int.toNat_natCast]
 exact this
theorem drop_int {v:List Int} {i:Nat} (h:i<v.length):v.drop i=int v i :: v.drop (i+1):=by
 rw[List.drop_eq_getElem_cons h]
 show _=List.getD _ _ _ :: _
 rw[List.getD_eq_getElem?_getD,List.getElem?_eq_getElem h];rfl
set_option maxHeartbeats 4000000 in
theorem q63 (m:DMo) (d:Option (List (Int×Int))) (v:DL) (k:Int) (hd:(d.getD []).length<=1000) (hv:(v.getD []).length<4611686018427387904):
 lendV Pg q2Y 4 q2D (m,d,v,k) fun q=>(q.2,(q.1,()))=thenQ m (d.getD []) (v.getD []) k:=by
 refine qcK (Q:=fun q=>(q.2,(q.1,()))=thenQ m (d.getD []) (v.getD []) k) m d v k ⟨((thenQ m (d.getD []) (v.getD []) k).2.1,(thenQ m (d.getD []) (v.getD []) k).1),rfl⟩ ((q2r m d v hd hv).mono ?_)
 rintro _ rfl
 by_cases h:askedQ m (d.getD []) (v.getD [])=0
 case neg=>
  rw[decide_eq_false h]
  exact br_t rfl (by show (none,(_,()))=_;rw[thenQ,if_neg h])
 rw[decide_eq_true h]
 obtain⟨h1,h2,h3,h4⟩:=q0K h
 have hn:=h1.1.2
 have hvl:=h3.1
 refine br_f rfl (joinR (fun p=>∃ o:Bool,p=(d,(v,(k,(o,m))))/\(o=true↔¬ (0<=k/\k<((v.getD []).length:Int)))) ?_ ?_)
 case refine_2=>
  intro k1 hk1
  refine br_c (fun g=>?_) fun g=>?_
  . have g:k<0:=dec_t g
    exact hk1 _ ⟨true,rfl,fun _ q=>by have:=q.1;omega,fun _=>rfl⟩
  . have g:¬ k<0:=dec_f g
    refine hk1 _ ⟨_,rfl,?_⟩
    rw[decide_eq_true_eq]
    show ((v.getD []).length:Int)<=k↔_
    omega
 rintro _ ⟨o,rfl,ho⟩
 dsimp only
 refine br_c (fun g=>?_) fun g=>?_
 . show (none,(_,()))=_
   rw[thenQ,if_pos h,if_neg (ho.1 g)]
 have hin:0<=k/\k<((v.getD []).length:Int):=by
  by_cases q:0<=k/\k<((v.getD []).length:Int)
  . exact q
  . rw[ho.2 q] at g;cases g
 clear ho g
 obtain⟨c,rfl⟩:∃ c:Nat,k=(c:Int):=⟨k.toNat,by omega⟩
 have hc:c<(v.getD []).length:=by omega
 have want:thenQ m (d.getD []) (v.getD []) (c:Int)=givenQ (thenF m (d.getD []) (v.getD []) c) (m.getD []).length:=by rw[thenQ,if_pos h,if_pos hin,Int.toNat_natCast]
 rw[want]
 refine (q1s h1).mono fun rows hp=>?_
 have esz:szSl m=((m.getD []).length:Int):=rfl
 have esv:szSl v=((v.getD []).length:Int):=rfl
 rw[esz]
 have hmb:MB (m.getD []).length ((m.getD []).length*(m.getD []).length+1) (rowQ m):=h1.mb
 have hnn:(m.getD []).length*(m.getD []).length<=40*40:=Nat.mul_le_mul hn hn
 have hfb:∀ w:List Int,w.length<=200->FB (m.getD []).length 400000 (bkw m w):=fun w hw=>by
  refine (bkw_fb h1 w).mono ?_
  have:w.length*((m.getD []).length*(m.getD []).length+1+1)<=200*1602:=Nat.mul_le_mul hw (by omega)
  omega
 have hff:∀ i,i<=200->FB (m.getD []).length 400000 (fwdQ m (dQ (d.getD [])) (v.getD []) i):=fun i hi=>by
  refine (fwd_fb (dQ_fb (d.getD []) _) h1.mb (by omega) i).mono ?_
  have:i*((m.getD []).length*(m.getD []).length+1+1)<=200*1602:=Nat.mul_le_mul hi (by omega)
  omega
 have hz:RL (some (repS ((m.getD []).length:Int) r0)) (fun _=>0) (m.getD []).length:=RL.zero _
 have elz:szSl (some (repS ((m.getD []).length:Int) r0))=((m.getD []).length:Int):=by show (((some (repS ((m.getD []).length:Int) r0)).getD []).length:Int)=_;rw[hz.1]
 refine⟨⟨by omega,by omega,by omega⟩,?_⟩
 refine rangeB (n:=(m.getD []).length) (fun i x=>(d,(v,((c:Int),(rows,(((m.getD []).length:Int),((i:Int),(m,x)))))))) (fun i x=>RL x (fun s=>if s<i then 1 else 0) (m.getD []).length) (some (repS ((m.getD []).length:Int) r0)) ?_ (hz.congr fun j _=>if_neg (by omega)) (fun p=>p.2.2.2.2.2.1.toNat) (fun _ _=>rfl) (fun _ _ _=>rfl) ?_ ?_
 . show (d,(v,((c:Int),(rows,((szSl (some (repS ((m.getD []).length:Int) r0))),((0:Int),(m,some (repS ((m.getD []).length:Int) r0))))))))=_
   rw[elz];rfl
 . intro k3 i x hi hx hk3
   dsimp only
   refine s_One.mono fun p5 hp5=>⟨in_s (by rw[hx.1];exact hi),?_⟩
   rw[wi1 hi (by omega),show toN (i:Int)=i from Int.toNat_natCast i]
   refine hk3 _ (hx.set hi ?_ fun j _ hj=>?_)
   . show RV p5 (if i<i+1 then 1 else 0)
     rw[if_pos (by omega)];exact hp5
   . show (if j<i+1 then (1:Rat) else 0)=if j<i then 1 else 0
     by_cases g:j<i
     . rw[if_pos g,if_pos (by omega)]
     . rw[if_neg g,if_neg (by omega)]
 intro _ x hx
 dsimp only
 have hx:RL x (fun _=>1) (m.getD []).length:=hx.congr fun j hj=>(if_pos hj).symm
 rw[esv]
 refine loopE (fun p=>∃ (i:Nat) (x:Option (List DR)),p=(d,(v,((c:Int),(rows,((i:Int),(m,x))))))/\c<=i/\i<(v.getD []).length/\RL x (bkw m ((v.getD []).drop (i+1))) (m.getD []).length) (fun p=>p.2.2.2.2.1.toNat) ⟨(v.getD []).length - 1,x,?_,by omega,by omega,?_⟩ ?_
 . rw[wi64 (by omega) (by omega),show ((v.getD []).length:Int) - 1=(((v.getD []).length - 1:Nat):Int) by omega]
 . rw[List.drop_eq_nil_of_le (by omega)];exact hx
 clear hx
 rintro _ ⟨i,x,rfl,hci,hi,hx⟩
 dsimp only
 refine br_c (fun g=>?_) fun g=>?_
 . have g:(c:Int)<(i:Int):=dec_t g
   refine⟨in_s hi,?_⟩
   rw[q2g]
   have hfx:=hfb ((v.getD []).drop (i+1)) (by rw[List.length_drop];omega)
   have hfs:=hfx.seen (m:=m) (int (v.getD []) i)
   refine (q3k hx (by omega)).mono fun y hy=>(s_movedO (k:=2*(400000+((m.getD []).length*(m.getD []).length+1)+1)+1) hp hy (by omega) (fun a b ha hb=>(hmb.fit ha hb).1.mono (by omega)) (fun a ha=>(hfs.fit ha).1.mono (by omega)) (fun a b ha hb=>(FB.prodC hfs hmb ha hb).1.mono (by omega)) (fun a b ha hb=>((hfs.bstep hmb (Nat.le_trans hn (by decide)) ha).fit hb).1.mono (by omega)) (by omega)).mono fun z hz=>?_
   obtain⟨j,rfl⟩:∃ j,i=j+1:=⟨i - 1,by omega⟩
   refine⟨⟨j,z,?_,by omega,by omega,?_⟩,?_⟩
   . rw[wi64 (by omega) (by omega),show ((j+1:Nat):Int) - 1=(j:Int) by omega]
   . rw[drop_int hi];exact hz
   . show (IntKind.wrap IntKind.i64 (((j+1:Nat):Int) - 1)).toNat<((j+1:Nat):Int).toNat
     rw[wi64 (by omega) (by omega)];omega
 . have g:¬ (c:Int)<(i:Int):=dec_f g
   obtain rfl:i=c:=by omega
   have hfx:=hfb ((v.getD []).drop (i+1)) (by rw[List.length_drop];omega)
   have hfw:=hff (i+1) (by omega)
   refine (q3j (fun i hi=>(h2.1 i hi).1) hd).mono fun p hp=>?_
   have e:=h2.2.1
   rw[e] at hp
   have hp:RL p (dQ (d.getD [])) (m.getD []).length:=hp.congr fun j hj=>h2.1.dq (by omega)
   have hvv:(v.getD []).length*((m.getD []).length*(m.getD []).length+1+1)<=200*(40*40+1+1):=Nat.mul_le_mul hvl (by omega)
   refine (q7H h1 hp (dQ_fb _ _) h1.mb (by omega) (by omega)).mono fun f hf=>⟨in_s (by rw[hf.1];exact hi),?_⟩
   have hr:=hf.rowS hi
   try dsimp only at hr
   generalize eltS none f (i:Int)=r at *
   have er:szSl r=((m.getD []).length:Int):=by show ((r.getD []).length:Int)=_;rw[hr.1]
   rw[er]
   refine rangeB (n:=(m.getD []).length) (fun s x=>(r,(((m.getD []).length:Int),((s:Int),x)))) (fun s x=>RL x (fun t=>if t<s then thenF m (d.getD []) (v.getD []) i t else bkw m ((v.getD []).drop (i+1)) t) (m.getD []).length) x rfl (hx.congr fun j _=>if_neg (by omega)) (fun p=>p.2.2.1.toNat) (fun _ _=>rfl) (fun _ _ _=>rfl) ?_ ?_
   . intro k9 s x hs hx hk9
     dsimp only
     refine⟨in_s (by rw[hr.1];exact hs),in_s (by rw[hx.1];exact hs),?_⟩
     rw[q05]
     have e4:eltN r0 x (toN (s:Int))=(x.getD []).getD s r0:=by simp only[eltN,toN,Int.toNat_natCast]
     rw[e4]
     have hxs:=hx.2 s hs
     dsimp only at hxs
     rw[if_neg (by omega)] at hxs
     refine (q1S longS hxs (hr.2 s hs) ((hfx.fit hs).1) ((hfw.fit hs).1) (by omega)).mono fun w hw=>⟨in_s (by rw[hx.1];exact hs),?_⟩
     rw[wi1 hs (by omega),show toN (s:Int)=s from Int.toNat_natCast s]
     refine hk9 _ (hx.set hs ?_ fun t _ ht=>?_)
     . show RV w (if s<s+1 then _ else _)
       rw[if_pos (by omega)];exact hw
     . show (if t<s+1 then _ else _)=if t<s then _ else _
       by_cases q:t<s
       . rw[if_pos q,if_pos (by omega)]
       . rw[if_neg q,if_neg (by omega)]
   . intro _ x hx
     dsimp only
     have hx:RL x (thenF m (d.getD []) (v.getD []) i) (m.getD []).length:=hx.congr fun t ht=>(if_pos ht).symm
     exact (q65 hx (hfx.times hfw) (by omega) (by decide)).mono fun _ hq=>hq
theorem s_Then (m:DMo) (d:Option (List (Int×Int))) (v:DL) (k:Int) (hd:(d.getD []).length<=1000) (hv:(v.getD []).length<4611686018427387904):
 callV Pg q2Y [⟨tMo,m⟩,⟨(.sl tNum),d⟩,⟨tL,v⟩,⟨tI,k⟩] (.tup (.pair (.sl tNum) (.pair tI .unit))) fun r=>r=thenQ m (d.getD []) (v.getD []) k:=
 q1E (L:=q2D) (p:=(m,d,v,k)) (q63 m d v k hd hv) fun _ hq=>⟨_,rfl,hq⟩
end Go.Proofs.Pf.B
namespace Go.Proofs.Pf.B
open Go Go.VM
theorem given_len (f:Nat->Rat) (n:Nat):((givenQ f n).1.getD []).length<=n:=by
 unfold givenQ
 split
 . exact Nat.zero_le _
 . exact outs_len _ _
theorem q7U (m:DMo) (d:List (Int×Int)) (v:List Int) (k:Int):((thenQ m d v k).1.getD []).length<=200:=by
 unfold thenQ
 split
 . rename_i h
   obtain⟨h1,_⟩:=q0K h
   have:=h1.1.2
   split
   . exact Nat.le_trans (given_len _ _) (by omega)
   . exact Nat.zero_le _
 . exact Nat.zero_le _
theorem qaC (m:DMo) (d:List (Int×Int)) (v:List Int):((likelyQ m d v).1.getD []).length<=v.length:=by
 unfold likelyQ
 split
 . unfold pathQ
   split
   . exact Nat.zero_le _
   . split
     . rw[q07,tab_len];omega
     . exact Nat.zero_le _
 . exact Nat.zero_le _
theorem poss_len (m:DMo) (d:List (Int×Int)) (v:List Int):((possQ m d v).1.getD []).length<=200:=by
 unfold possQ
 split
 . rename_i h
   obtain⟨h1,_⟩:=q0K h
   have:=h1.1.2
   rw[q07]
   exact Nat.le_trans (posL_len _) (by omega)
 . exact Nat.zero_le _
end Go.Proofs.Pf.B
namespace Go.Proofs.Pf.B
open Go Go.VM
theorem RLL.row {p:Option (List (Option (List DR)))} {f:Mat} {k n i:Nat} (h:RLL p f k n) (hi:i<k):RL (eltS none p (i:Int)) (f i) n:=by
 have:=h.at hi
 simp only[eltN,toN,Int.toNat_natCast] at this
 simp only[eltS,Int.toNat_natCast]
 exact this
theorem qaN {a:Option (List DR)} {v:Nat->Rat} {n b c:Nat} (ha:RL a v n) (hb:b<n) (hc:c<n) (hv:∀ s,s<n->QB 1000 (v s)):
 callV Pg q0O [⟨(.sl tER),a⟩,⟨(.fref tI),(b:Int)⟩,⟨(.fref tI),(c:Int)⟩] .bool fun r=>r=true↔v b≠v c:=by
 refine qcA a b c ⟨decide (v b≠v c),decide_eq_true_iff⟩ ⟨in_s (by rw[ha.1];exact hb),in_s (by rw[ha.1];exact hc),?_⟩
 rw[q05,q05]
 refine (q3i (ha.2 b hb) (ha.2 c hc) (hv b hb).fit (hv c hc).fit (by decide)).mono ?_
 rintro _ rfl
 by_cases e:v b=v c
 . have h0:=qb5 e
   rw[decide_eq_true h0]
   exact⟨fun h=>(by cases h),fun h=>absurd e h⟩
 . have h0:¬ sgn (v b - v c).num=0:=fun h=>e (by
    have h:=Rat.num_eq_zero.1 (sgn_z h)
    grind)
   rw[decide_eq_false h0]
   exact⟨fun _=>e,fun _=>rfl⟩
theorem s_IndexF {a:Option (List (Option (List DR)))} {B:Mat} {k n b c:Nat} (ha:RLL a B k n) (hk:k<=1000000) (hb:b<n) (hc:c<n) (hv:∀ j,j<k->∀ s,s<n->QB 1000 (B j s)):
 callV Pg q5a [⟨(.sl (.sl tER)),a⟩,⟨(.clo q0O (.pair (.fref tI) (.pair (.fref tI) .unit))),((b:Int),((c:Int),()))⟩] tI fun r=>0<=r↔∃ j,j<k/\B j b≠B j c:=by
 have hex:∃ r:Int,0<=r↔∃ j,j<k/\B j b≠B j c:=by
  by_cases h:∃ j,j<k/\B j b≠B j c
  . exact⟨0,fun _=>h,fun _=>by decide⟩
  . exact⟨-1,fun g=>absurd g (by decide),fun g=>absurd g h⟩
 refine qcu a _ hex ?_
 rw[show szSl a=(k:Int) by show ((a.getD []).length:Int)=k;rw[ha.1]]
 refine rangeB (n:=k) (fun i (_:Unit)=>(a,(((b:Int),((c:Int),())),((k:Int),(i:Int))))) (fun i _=>∀ j,j<i->B j b=B j c) () rfl (fun j hj=>absurd hj (by omega)) (fun p=>p.2.2.2.toNat) (fun _ _=>rfl) (fun _ _ _=>rfl) ?_ ?_
 . intro k0 i _ hi hx hk0
   dsimp only
   refine⟨in_s (by rw[ha.1];exact hi),(qaN (ha.row hi) hb hc (hv i hi)).mono fun r hr=>br_c (fun h=>?_) fun h=>?_⟩
   . exact⟨fun _=>⟨i,hi,hr.1 h⟩,fun _=>Int.natCast_nonneg i⟩
   . rw[wi1 hi (by omega)]
     refine hk0 () fun j hj=>?_
     by_cases e:j=i
     . subst e
       by_cases g:B j b=B j c
       . exact g
       . rw[hr.2 g] at h;cases h
     . exact hx j (by omega)
 . intro _ _ hx
   exact⟨fun h=>absurd h (by decide),fun ⟨j,hj,e⟩=>absurd (hx j hj) e⟩
theorem qaO {a:Option (List (Option (List DR)))} {B:Mat} {k n b c:Nat} (ha:RLL a B k n) (hk:k<=1000000) (hb:b<n) (hc:c<n) (hv:∀ j,j<k->∀ s,s<n->QB 1000 (B j s)):
 callV Pg q58 [⟨(.sl (.sl tER)),a⟩,⟨(.clo q0O (.pair (.fref tI) (.pair (.fref tI) .unit))),((b:Int),((c:Int),()))⟩] .bool fun r=>r=true↔∃ j,j<k/\B j b≠B j c:=by
 have hex:∃ r:Bool,r=true↔∃ j,j<k/\B j b≠B j c:=by
  by_cases h:∃ j,j<k/\B j b≠B j c
  . exact⟨true,fun _=>h,fun _=>rfl⟩
  . exact⟨false,fun g=>(by cases g),fun g=>absurd g h⟩
 refine qcr a _ hex ((s_IndexF ha hk hb hc hv).mono fun r hr=>?_)
 rw[decide_eq_true_eq];exact hr
theorem s_Alike_1 {a:Option (List (Option (List DR)))} {B:Mat} {k n b c:Nat} (ha:RLL a B k n) (hk:k<=1000000) (hb:b<n) (hc:c<n) (hv:∀ j,j<k->∀ s,s<n->QB 1000 (B j s)):
 callV Pg q1C [⟨tI,(b:Int)⟩,⟨(.fref (.sl (.sl tER))),a⟩,⟨(.fref tI),(c:Int)⟩] .bool fun r=>r=true↔∀ j,j<k->B j c=B j b:=by
 have hex:∃ r:Bool,r=true↔∀ j,j<k->B j c=B j b:=by
  by_cases h:∀ j,j<k->B j c=B j b
  . exact⟨true,fun _=>h,fun _=>rfl⟩
  . exact⟨false,fun g=>(by cases g),fun g=>absurd g h⟩
 refine qcz b a c hex ((qaO ha hk hc hb hv).mono fun r hr=>?_)
 constructor
 . intro h j hj
   have h:r=false:=by cases r;rfl;cases h
   by_cases g:B j c=B j b
   . exact g
   . rw[hr.2 ⟨j,hj,g⟩] at h;cases h
 . intro h
   cases hq:r with
   | false=>rfl
   | true=>
    obtain⟨j,hj,e⟩:=hr.1 hq
    exact absurd (h j hj) e
def MkOk (f:Nat->Prop) (i:Nat) (l:DL):Prop:=(l.getD []).length<=i/\(((l.getD []).length=0/\∀ t,t<i->¬ f t)∨∃ t:Nat,t<i/\f t/\(∀ u,u<t->¬ f u)/\0<(l.getD []).length/\int (l.getD []) 0=(t:Int))
theorem MkOk.ex (f:Nat->Prop) (i:Nat):∃ l,MkOk f i l:=by
 by_cases h:∃ t,t<i/\f t
 . obtain⟨t,⟨h1,h2⟩,h3⟩:=q3a (α:=Nat) id (P:=fun t=>t<i/\f t) h
   refine⟨some [(t:Int)],by show 1<=i;omega,.inr ⟨t,h1,h2,fun u hu hf=>?_,Nat.one_pos,rfl⟩⟩
   have:t<=u:=h3 u ⟨by omega,hf⟩
   omega
 . exact⟨none,Nat.zero_le _,.inl ⟨rfl,fun t ht hf=>h ⟨t,ht,hf⟩⟩⟩
theorem s_Marked {a:Option (List (Option (List DR)))} {B:Mat} {k n c d:Nat} (ha:RLL a B k n) (hk:k<=1000000) (hc:c<n) (hd:d<=n) (hn:n<=1000000) (hv:∀ j,j<k->∀ s,s<n->QB 1000 (B j s)):
 callV Pg q24 [⟨tI,(d:Int)⟩,⟨(.clo q1C (.pair (.fref (.sl (.sl tER))) (.pair (.fref tI) .unit))),(a,((c:Int),()))⟩] tL fun r=>MkOk (fun t=>∀ j,j<k->B j c=B j t) d r:=by
 refine qbG d _ (MkOk.ex _ _) ?_
 refine rangeB (n:=d) (fun i l=>((a,((c:Int),())),((d:Int),((i:Int),l)))) (fun i l=>MkOk (fun t=>∀ j,j<k->B j c=B j t) i l) none rfl ⟨Nat.le_refl _,.inl ⟨rfl,fun t ht=>absurd ht (by omega)⟩⟩ (fun p=>p.2.2.1.toNat) (fun _ _=>rfl) (fun _ _ _=>rfl) ?_ ?_
 . intro k0 i l hi hl hk0
   dsimp only
   refine (s_Alike_1 ha hk (by omega) hc hv).mono fun r hr=>joinE (br_c (fun h=>?_) fun h=>?_)
   . have hf:=hr.1 h
     have e:(appL l (lst (some [(i:Int)]))).getD []=l.getD [] ++ [(i:Int)]:=by cases l<;>rfl
     refine⟨?_,?_⟩
     . show ((l.getD []).length+1)*8<=140737488355328
       have:=hl.1;omega
     . dsimp only
       rw[wi1 hi (by omega)]
       refine hk0 _ ⟨by rw[e,List.length_append];have:=hl.1;show (l.getD []).length+1<=_;omega,.inr ?_⟩
       rcases hl.2 with ⟨h1,h2⟩ | ⟨t,h1,h2,h3,h4,h5⟩
       . refine⟨i,by omega,hf,h2,by rw[e,List.length_append];show 0<_+1;omega,?_⟩
         rw[e,List.eq_nil_of_length_eq_zero h1];rfl
       . refine⟨t,by omega,h2,h3,by rw[e,List.length_append];omega,?_⟩
         rw[e,<-h5]
         show List.getD _ _ _=List.getD _ _ _
         rw[List.getD_eq_getElem?_getD,List.getElem?_append_left h4,<-List.getD_eq_getElem?_getD]
   . dsimp only
     rw[wi1 hi (by omega)]
     have hf:¬ ∀ j,j<k->B j c=B j i:=fun g=>by rw[hr.2 g] at h;cases h
     refine hk0 _ ⟨by have:=hl.1;omega,?_⟩
     rcases hl.2 with ⟨h1,h2⟩ | ⟨t,h1,h2,h3,h4,h5⟩
     . refine .inl ⟨h1,fun t ht=>?_⟩
       by_cases g:t=i
       . subst g;exact hf
       . exact h2 t (by omega)
     . exact .inr ⟨t,by omega,h2,h3,h4,h5⟩
 . intro _ l hl
   exact hl
def alikeOk (m:DMo) (r:DL×(Int×Unit)):Prop:=if onlyQ m=0 then AlkOk m (r.1.getD [])/\r.2=(0,()) else r=(none,(onlyQ m,()))
theorem alikeOk.ex (m:DMo):∃ r,alikeOk m r:=by
 unfold alikeOk
 split
 . obtain⟨l,hl⟩:=AlkOk.ex m
   exact⟨(some l,(0,())),hl,rfl⟩
 . exact⟨_,rfl⟩
theorem FB.prodB {n a b:Nat} {x:Nat->Rat} {P:Mat} (h:FB n a x) (g:MB n b P) {s t:Nat} (hs:s<n) (ht:t<n):Pf.RFit (2*(a+b)+1) (x t*P s t)/\RFit (2*(a+b)+1) (x t*P s t):=by
 have g':MB n b fun i j=>P j i:=by
  obtain⟨D,h1,h2,h3⟩:=g
  exact⟨D,h1,h2,fun i j hi hj=>h3 j i hj hi⟩
 exact h.prod g' ht hs
set_option maxHeartbeats 4000000 in
theorem q5V (m:DMo) (hn9:moOk m->(m.getD []).length<=9):lendV Pg q2S 1 q2x m fun q=>alikeOk m (q.2,(q.1,())):=by
 refine qcB (Q:=fun q=>alikeOk m (q.2,(q.1,()))) m (let ⟨r,h⟩:=alikeOk.ex m;⟨(r.2.1,r.1),h⟩) ((q60 m).mono ?_)
 rintro _ rfl
 by_cases hm:moOk m
 case neg=>
  rw[decide_eq_false hm]
  have e:onlyQ m=1:=if_neg hm
  refine br_t rfl ?_
  unfold alikeOk
  rw[e,if_neg (by decide)]
 rw[decide_eq_true hm]
 refine br_f rfl ((q5Y hm).mono ?_)
 rintro _ rfl
 by_cases hc:single m
 case neg=>
  rw[decide_eq_false hc]
  have e:onlyQ m=7:=by rw[onlyQ,if_pos hm,if_neg hc]
  refine br_t rfl ?_
  unfold alikeOk
  rw[e,if_neg (by decide)]
 rw[decide_eq_true hc]
 have e0:onlyQ m=0:=by rw[onlyQ,if_pos hm,if_pos hc]
 have ap:∀ r,alikeOk m r↔AlkOk m (r.1.getD [])/\r.2=(0,()):=fun r=>by
  unfold alikeOk;rw[e0,if_pos rfl]
 have hn:=hn9 hm
 refine br_f rfl ((q1s hm).mono fun rows hp=>?_)
 have esz:szSl m=((m.getD []).length:Int):=rfl
 rw[esz]
 have hmb:MB (m.getD []).length ((m.getD []).length*(m.getD []).length+1) (rowQ m):=hm.mb
 have hnn:(m.getD []).length*(m.getD []).length<=9*9:=Nat.mul_le_mul hn hn
 have hfb:∀ w:List Int,w.length<=10->FB (m.getD []).length 900 (bb m w):=fun w hw=>by
  refine (bb_fb hm w).mono ?_
  have:w.length*((m.getD []).length*(m.getD []).length+1+1)<=10*83:=Nat.mul_le_mul hw (by omega)
  omega
 have hz:RL (some (repS ((m.getD []).length:Int) r0)) (fun _=>0) (m.getD []).length:=RL.zero _
 have elz:szSl (some (repS ((m.getD []).length:Int) r0))=((m.getD []).length:Int):=by show (((some (repS ((m.getD []).length:Int) r0)).getD []).length:Int)=_;rw[hz.1]
 refine⟨⟨by omega,by omega,by omega⟩,?_⟩
 refine rangeB (n:=(m.getD []).length) (fun i x=>(rows,(((m.getD []).length:Int),((i:Int),(m,x))))) (fun i x=>RL x (fun s=>if s<i then 1 else 0) (m.getD []).length) (some (repS ((m.getD []).length:Int) r0)) ?_ (hz.congr fun j _=>if_neg (by omega)) (fun p=>p.2.2.1.toNat) (fun _ _=>rfl) (fun _ _ _=>rfl) ?_ ?_
 . show (rows,((szSl (some (repS ((m.getD []).length:Int) r0))),((0:Int),(m,some (repS ((m.getD []).length:Int) r0)))))=_
   rw[elz];rfl
 . intro k3 i x hi hx hk3
   (try dsimp only)
   refine s_One.mono fun p5 hp5=>⟨in_s (by rw[hx.1];exact hi),?_⟩
   rw[wi1 hi (by omega),show toN (i:Int)=i from Int.toNat_natCast i]
   refine hk3 _ (hx.set hi ?_ fun j _ hj=>?_)
   . show RV p5 (if i<i+1 then 1 else 0)
     rw[if_pos (by omega)];exact hp5
   . show (if j<i+1 then (1:Rat) else 0)=if j<i then 1 else 0
     by_cases g:j<i
     . rw[if_pos g,if_pos (by omega)]
     . rw[if_neg g,if_neg (by omega)]
 intro _ x hx
 dsimp only
 have hx:RL x (fun _=>1) (m.getD []).length:=hx.congr fun j hj=>(if_pos hj).symm
 refine loopE (fun p=>∃ (i:Nat) (bas:Option (List (Option (List DR)))) (bs:List (List Int)),p=(rows,((i:Int),(m,((),bas))))/\RLL bas (fun j=>bb m (bs.getD j [])) bs.length (m.getD []).length/\AlI m bs i/\i<=bs.length) (fun p=>(m.getD []).length - p.2.1.toNat) ⟨0,some [x],[[]],rfl,⟨rfl,fun j hj=>?_⟩,AlI.start hm,Nat.zero_le _⟩ ?_
 . have hj:j<1:=hj
   obtain rfl:j=0:=by omega
   exact hx
 rintro _ ⟨i,bas,bs,rfl,hb,hA,hib⟩
 dsimp only
 have hsz:=hA.size
 have esb:szSl bas=(bs.length:Int):=by show ((bas.getD []).length:Int)=_;rw[hb.1]
 have hqb:∀ {cs:List (List Int)} {q:Nat},AlI m cs q->∀ j,j<cs.length->∀ s,s<(m.getD []).length->QB 1000 (bb m (cs.getD j []) s):=fun hA j hj s hs=>by
  refine ((hfb _ ?_).qb hs).mono (by decide)
  have:=(hA.word j hj).2
  have:=hA.size
  omega
 rw[esb]
 refine br_c (fun h=>?_) fun h=>?_
 . have h:(i:Int)<(bs.length:Int):=dec_t h
   have hi:i<bs.length:=by omega
   refine⟨in_s (by rw[hb.1];exact hi),?_⟩
   have hwl:(bs.getD i []).length<=10:=by have:=(hA.word i hi).2;omega
   have hfw:=hfb _ hwl
   refine joinR (fun p=>∃ v,p=(rows,((i:Int),(v,(m,((),bas)))))/\RL v (bkQ (rowQ m) (bb m (bs.getD i [])) (m.getD []).length) (m.getD []).length) ?_ ?_
   . rintro _ ⟨v,rfl,hv⟩
     dsimp only
     refine (q7J hm (by omega)).mono fun ls hls=>?_
     have hls64:=LetOk.len hm hls
     have eL:szSl ls=((ls.getD []).length:Int):=rfl
     rw[eL]
     refine rangeB (n:=(ls.getD []).length) (fun j bas=>(rows,((i:Int),(v,(ls,(((ls.getD []).length:Int),((j:Int),(m,((),bas))))))))) (fun j bas=>∃ cs,RLL bas (fun j=>bb m (cs.getD j [])) cs.length (m.getD []).length/\AlI m cs i/\i<cs.length/\cs.getD i []=bs.getD i []/\∀ q,q<j->Span (fun j=>bb m (cs.getD j [])) cs.length (m.getD []).length (bb m (int (ls.getD []) q :: bs.getD i []))) bas rfl ⟨bs,hb,hA,hi,rfl,fun q hq=>absurd hq (by omega)⟩ (fun p=>p.2.2.2.2.2.1.toNat) (fun _ _=>rfl) (fun _ _ _=>rfl) ?_ ?_
     . rintro k9 j bas2 hj ⟨cs,hb2,hA2,hi2,e2,hS⟩ hk9
       dsimp only
       refine⟨in_s hj,?_⟩
       rw[q2g]
       generalize hk:int (ls.getD []) j=k
       refine (q3k hv (by omega)).mono fun u hu=>?_
       have hu:RL u (bb m (k :: bs.getD i [])) (m.getD []).length:=hu
       have hl2:=hA2.size
       have hw2:FB (m.getD []).length 900 (bb m (k :: bs.getD i [])):=hfb _ (by rw[List.length_cons];have:=(hA.word i hi).2;omega)
       refine (q7I (e:=1000) hb2 hu (by omega) (by omega) (hqb hA2) (fun s hs=>(hw2.qb hs).mono (by decide)) (growE_le (by omega))).mono fun r hr=>joinE (br_c (fun h=>?_) fun h=>?_)
       . have hns:=hr.1 h
         have hmem:∃ s,s<(m.getD []).length/\mkS m s=k:=(hls.2 _).1 ⟨j,hj,hk⟩
         have hgrow:=hA2.grow hi2 hmem (by rw[e2];exact hns)
         rw[e2] at hgrow
         have hcl:(cs ++ [k :: bs.getD i []]).length=cs.length+1:=by simp
         refine⟨?_,?_⟩
         . show ((bas2.getD []).length+1)*24<=140737488355328
           rw[hb2.1];omega
         . dsimp only
           rw[wi1 hj (by omega)]
           refine hk9 _ ⟨cs ++ [k :: bs.getD i []],?_,hgrow,by omega,by rw[q0D hi2];exact e2,fun q hq=>?_⟩
           . rw[hcl]
             refine RLL.app (f:=fun j=>bb m ((cs ++ [k :: bs.getD i []]).getD j [])) (hb2.congr fun q hq s _=>?_) ?_
             . show bb m ((cs ++ [k :: bs.getD i []]).getD q []) s=bb m (cs.getD q []) s
               rw[q0D hq]
             . show RL u (bb m ((cs ++ [k :: bs.getD i []]).getD cs.length [])) _
               rw[q35];exact hu
           . rw[hcl]
             by_cases g:q=j
             . subst g
               rw[hk]
               have h0:Span (fun j=>bb m ((cs ++ [k :: bs.getD i []]).getD j [])) (cs.length+1) (m.getD []).length (bb m ((cs ++ [k :: bs.getD i []]).getD cs.length [])):=Span.mem (B:=fun j=>bb m ((cs ++ [k :: bs.getD i []]).getD j [])) (by omega)
               rwa [q35] at h0
             . refine (hS q (by omega)).more (by omega) fun a ha s _=>?_
               show bb m ((cs ++ [k :: bs.getD i []]).getD a []) s=bb m (cs.getD a []) s
               rw[q0D ha]
       . dsimp only
         rw[wi1 hj (by omega)]
         refine hk9 _ ⟨cs,hb2,hA2,hi2,e2,fun q hq=>?_⟩
         by_cases g:q=j
         . subst g
           rw[hk]
           by_cases g:Span (fun j=>bb m (cs.getD j [])) cs.length (m.getD []).length (bb m (k :: bs.getD i []))
           . exact g
           . rw[hr.2 g] at h;cases h
         . exact hS q (by omega)
     . rintro _ bas2 ⟨cs,hb2,hA2,hi2,e2,hS⟩
       dsimp only
       have hl2:=hA2.size
       rw[wi1 hi2 (by omega)]
       refine⟨⟨i+1,bas2,cs,rfl,hb2,⟨hA2.ne,hA2.first,hA2.word,hA2.ind,fun j hj hj2 k hk=>?_⟩,by omega⟩,?_⟩
       . by_cases g:j=i
         . subst g
           obtain⟨q,hq,rfl⟩:=(hls.2 k).2 hk
           rw[e2];exact hS q hq
         . exact hA2.done j (by omega) hj2 k hk
       . show (m.getD []).length - ((i+1:Nat):Int).toNat<(m.getD []).length - (i:Int).toNat
         omega
   . intro k7 hk7
     try dsimp only
     refine br_c (fun g=>?_) fun g=>?_
     . have g:(0:Int)<(i:Int):=dec_t g
       refine (s_movedB (k:=2*(900+((m.getD []).length*(m.getD []).length+1)+1)+1) hp (hb.at hi) (by omega) (fun a b ha hb=>(hmb.fit ha hb).1.mono (by omega)) (fun a ha=>(hfw.fit ha).1.mono (by omega)) (fun a b ha hb=>(hfw.prodB hmb ha hb).1.mono (by omega)) (fun a b ha hb=>((hfw.bstep hmb (Nat.le_trans hn (by decide)) ha).fit hb).1.mono (by omega)) (by omega)).mono fun v hv=>hk7 _ ⟨v,rfl,hv⟩
     . have g:¬ (0:Int)<(i:Int):=dec_f g
       obtain rfl:i=0:=by omega
       refine hk7 _ ⟨_,rfl,(hb.at hi).congr fun s hs=>?_⟩
       rw[hA.first]
       exact bk_one hm hs
 . have h:¬ (i:Int)<(bs.length:Int):=dec_f h
   obtain rfl:i=bs.length:=by omega
   rw[esz]
   refine rangeB (n:=(m.getD []).length) (fun s l=>(bas,(((m.getD []).length:Int),((s:Int),l)))) (fun s l=>(l.getD []).length=s/\∀ q,q<s->∃ t:Nat,t<=q/\int (l.getD []) q=(t:Int)/\(∀ w,¬ Dist m (prQ t q) w)/\∀ t',t'<t->∃ w,Dist m (prQ t' q) w) none rfl ⟨rfl,fun q hq=>absurd hq (by omega)⟩ (fun p=>p.2.2.1.toNat) (fun _ _=>rfl) (fun _ _ _=>rfl) ?_ ?_
   . rintro k7 s l hs ⟨hl1,hl2⟩ hk7
     dsimp only
     rw[wi1 hs (by omega)]
     refine (s_Marked (d:=s+1) hb (by omega) hs (by omega) (by omega) (hqb hA)).mono fun r hr=>?_
     have key:∀ t,t<(m.getD []).length->((∀ w,¬ Dist m (prQ t s) w)↔∀ j,j<bs.length->bb m (bs.getD j []) s=bb m (bs.getD j []) t):=fun t ht=>(hA.alike hm ht hs).trans ⟨fun g j hj=>(g j hj).symm,fun g j hj=>(g j hj).symm⟩
     rcases hr.2 with ⟨h1,h2⟩ | ⟨t,h1,h2,h3,h4,h5⟩
     . exact absurd (fun j _=>rfl) (h2 s (by omega))
     . have e6:eltS (0:Int) r (0:Int)=(t:Int):=h5
       rw[e6]
       have e:(appL l (lst (some [(t:Int)]))).getD []=l.getD [] ++ [(t:Int)]:=by cases l<;>rfl
       refine⟨in_s (i:=0) h4,?_,?_⟩
       . show ((l.getD []).length+1)*8<=140737488355328
         omega
       . refine hk7 _ ⟨by rw[e,List.length_append,hl1];rfl,fun q hq=>?_⟩
         rw[e]
         by_cases g:q=s
         . subst g
           refine⟨t,by omega,?_,(key t (by omega)).2 h2,fun t' ht'=>?_⟩
           . show List.getD _ _ _=_
             rw[<-hl1,q35]
           . by_cases g:∃ w,Dist m (prQ t' q) w
             . exact g
             . exact absurd ((key t' (by omega)).1 fun w hw=>g ⟨w,hw⟩) (h3 t' ht')
         . obtain⟨u,u1,u2,u3⟩:=hl2 q (by omega)
           refine⟨u,u1,?_,u3⟩
           rw[<-u2]
           show List.getD _ _ _=List.getD _ _ _
           rw[q0D (by omega)]
   . rintro _ l ⟨hl1,hl2⟩
     dsimp only
     rw[ap]
     exact⟨⟨hl1,hl2⟩,rfl⟩
theorem s_Alike (m:DMo) (hn9:moOk m->(m.getD []).length<=9):callV Pg q2S [⟨tMo,m⟩] (.tup (.pair tL (.pair tI .unit))) (alikeOk m):=
 q1E (L:=q2x) (p:=m) (q5V m hn9) fun _ hq=>⟨_,rfl,hq⟩
end Go.Proofs.Pf.B
namespace Go.Proofs.Pf.B
open Go Go.VM
theorem r_Few3 (n:Int) (m:DMo):callV Pg q51 [⟨tI,n⟩,⟨tMo,m⟩] .bool fun r=>r=true->fewOk m/\(((m.getD []).length:Int)<=n∨40<(m.getD []).length):=by
 refine qch n m ⟨false,fun h=>by cases h⟩ (joinR (fun p=>∃ b:Bool,p=(b,m)/\(b=false->(m.getD []).length<=45/\(((m.getD []).length:Int)<=n∨40<(m.getD []).length))) ?_ ?_)
 . rintro _ ⟨b,rfl,hb⟩
   dsimp only
   refine q01.2 ⟨fun _ h=>(by cases h),fun h=>?_⟩
   have hb:=hb h
   refine loopE (fun p=>∃ i:Nat,p=(m,(((m.getD []).length:Int),(i:Int)))/\i<=(m.getD []).length/\∀ j,j<i->fewSt (stt (m.getD []) j)) (fun p=>(m.getD []).length - p.2.2.toNat) ⟨0,rfl,by omega,fun j h=>by omega⟩ ?_
   rintro _ ⟨i,rfl,hi,hall⟩
   dsimp only
   refine q01.2 ⟨fun hc=>?_,fun hc _=>?_⟩
   . have hc:(i:Int)<((m.getD []).length:Int):=dec_t hc
     rw[q0C]
     refine⟨⟨by omega,by omega⟩,q01.2 ⟨fun _ h=>(by cases h),fun h10=>?_⟩⟩
     have h10:¬ (10:Int)<(((stt (m.getD []) i).2.2.getD []).length:Int):=dec_f h10
     refine loopE (fun p=>∃ j:Nat,p=(m,(((m.getD []).length:Int),((i:Int),((stt (m.getD []) i).2.2,((((stt (m.getD []) i).2.2.getD []).length:Int),(j:Int))))))/\j<=((stt (m.getD []) i).2.2.getD []).length/\∀ k,k<j->((ch ((stt (m.getD []) i).2.2.getD []) k).2.getD []).length<=10)
      (fun p=>((stt (m.getD []) i).2.2.getD []).length - p.2.2.2.2.2.toNat) ⟨0,rfl,by omega,fun j h=>by omega⟩ ?_
     rintro _ ⟨j,rfl,hj,hall2⟩
     dsimp only
     refine q01.2 ⟨fun hd=>?_,fun hd=>?_⟩
     . have hd:(j:Int)<(((stt (m.getD []) i).2.2.getD []).length:Int):=dec_t hd
       rw[q33]
       refine⟨⟨by omega,by omega⟩,q01.2 ⟨fun _ h=>(by cases h),fun he=>?_⟩⟩
       have he:¬ (10:Int)<(((ch ((stt (m.getD []) i).2.2.getD []) j).2.getD []).length:Int):=dec_f he
       rw[wi64 (by omega) (by omega)]
       refine⟨⟨j+1,rfl,by omega,fun k hk=>?_⟩,by omega⟩
       rcases Nat.lt_or_ge k j with q | q
       . exact hall2 k q
       . obtain rfl:k=j:=by omega
         omega
     . have hd:¬ (j:Int)<(((stt (m.getD []) i).2.2.getD []).length:Int):=dec_f hd
       obtain rfl:j=((stt (m.getD []) i).2.2.getD []).length:=by omega
       rw[wi64 (by omega) (by omega)]
       refine⟨⟨i+1,rfl,by omega,fun k hk=>?_⟩,by omega⟩
       rcases Nat.lt_or_ge k i with q | q
       . exact hall k q
       . obtain rfl:k=i:=by omega
         exact⟨by omega,hall2⟩
   . have hc:¬ (i:Int)<((m.getD []).length:Int):=dec_f hc
     obtain rfl:i=(m.getD []).length:=by omega
     exact⟨⟨hb.1,hall⟩,hb.2⟩
 . intro k hk
   refine br_c (fun h1=>br_c (fun _=>hk _ ⟨true,rfl,fun h=>by cases h⟩) fun h2=>?_) fun h1=>?_
   . have h2:¬ ((m.getD []).length:Int)<=40:=dec_f h2
     exact hk _ ⟨_,rfl,fun h=>by have h:¬ (45:Int)<((m.getD []).length:Int):=dec_f h;omega⟩
   . have h1:¬ n<((m.getD []).length:Int):=dec_f h1
     exact hk _ ⟨_,rfl,fun h=>by have h:¬ (45:Int)<((m.getD []).length:Int):=dec_f h;omega⟩
theorem apartOk.len {m:DMo} {b c:Int} {r:DL×(Int×Unit)} (h:apartOk m b c r):(r.1.getD []).length<=1000:=by
 unfold apartOk at h
 split at h
 . rename_i h0
   have hm:moOk m:=by
    by_cases g:moOk m
    . exact g
    . rw[onlyQ,if_neg g] at h0;exact absurd h0 (by decide)
   split at h
   . rename_i h1
     rcases h with ⟨w,h2,rfl⟩ | ⟨_,rfl⟩
     . obtain⟨⟨_,_⟩,_,_⟩:=h1
       have:=h2.len (prQ_sum (by omega) (by omega)) hm.1.1
       have:=hm.1.2
       show w.length<=1000
       omega
     . exact Nat.zero_le _
   . rw[h];exact Nat.zero_le _
 . rw[h];exact Nat.zero_le _
theorem alikeOk.len {m:DMo} {r:DL×(Int×Unit)} (h:alikeOk m r):(r.1.getD []).length<=1000:=by
 unfold alikeOk at h
 split at h
 . rename_i h0
   have hm:moOk m:=by
    by_cases g:moOk m
    . exact g
    . rw[onlyQ,if_neg g] at h0;exact absurd h0 (by decide)
   rw[h.1.1]
   have:=hm.1.2
   omega
 . rw[h];exact Nat.zero_le _
end Go.Proofs.Pf.B
namespace Go.Proofs.Pf.B
open Go Go.VM
abbrev hv {α:Type} (rows:List (List α)) (q:Option (List (Option Nat))):Option (List (Option (List α))):=mapL (fun h=>unH rows h) q
def hAll {α:Type} (rows:List (List α)) (q:Option (List (Option Nat))):Prop:=∀ h,h∈q.getD []->∀ n,h=some n->n<rows.length
theorem q0V {α:Type} {rows:List (List α)} {h:Option Nat} (l:Option (List α)) (hh:∀ n,h=some n->n<rows.length):unH (gvL rows l) h=unH rows h:=by
 cases h with
 | none=>rfl
 | some n=>
  have hn:=hh n rfl
  show some ((rows ++ _).getD n [])=some _
  rw[List.getD_eq_getElem?_getD,List.getElem?_append_left hn,<-List.getD_eq_getElem?_getD]
theorem q1w {α:Type} (rows:List (List α)) (l:Option (List α)):unH (gvL rows l) (gvH l (lenL rows))=l:=by
 cases l with
 | none=>rfl
 | some l=>
  show some ((rows ++ [l]).getD rows.length [])=_
  rw[List.getD_eq_getElem?_getD,List.getElem?_append_right (Nat.le_refl _),Nat.sub_self];rfl
theorem gv_lt {α:Type} (rows:List (List α)) (l:Option (List α)):∀ n,gvH l (lenL rows)=some n->n<(gvL rows l).length:=by
 intro n e
 cases l with
 | none=>cases e
 | some l=>
  obtain rfl:=Option.some.inj e
  show rows.length<(rows ++ [l]).length
  simp
theorem gvL_le {α:Type} (rows:List (List α)) (l:Option (List α)):rows.length<=(gvL rows l).length:=by
 show _<=(rows ++ _).length
 rw[List.length_append];omega
theorem q4v {α:Type} (l:Option (List α)) (x:α):(appL l [x]).getD []=l.getD [] ++ [x]:=by cases l<;>rfl
theorem hv_app {α:Type} {rows:List (List α)} {q:Option (List (Option Nat))} (l:Option (List α)) (hq:hAll rows q):
 hv (gvL rows l) (appL q [gvH l (lenL rows)])=appL (hv rows q) [l]/\hAll (gvL rows l) (appL q [gvH l (lenL rows)]):=by
 refine⟨?_,fun h hh n e=>?_⟩
 . cases q with
   | none=>show some [unH _ _]=_;rw[q1w];rfl
   | some y=>
    show some (List.map _ (y ++ [_]))=some (List.map _ y ++ _)
    rw[List.map_append,List.map_cons,List.map_nil,q1w]
    congr 2
    exact List.map_congr_left fun x hx=>q0V _ (hq x hx)
 . rw[q4v] at hh
   rcases List.mem_append.1 hh with h1 | h1
   . have:=hq h h1 n e
     have:=gvL_le rows l
     omega
   . obtain rfl:=List.mem_singleton.1 h1
     exact gv_lt _ _ n e
abbrev full {α:Type} (a:Option (List α)):Option (List α):=some (a.getD [])
theorem qaP (a:Option (List (Int×Int))) (ha:(a.getD []).length<=1000):ownV Pg q4W [⟨(.sl tNum),a⟩] tNum fun r=>r=full a:=by
 refine qcb a ⟨_,rfl⟩ ⟨?_,rfl⟩
 show (0+(a.getD []).length)*16<=140737488355328
 omega
theorem s_CopyV (N:List (Option (List (Int×Int)))) (hN:N.length<=100) (hl:∀ a,a∈N->(a.getD []).length<=1000):
 lendV Pg q4V 1 q3t (some N) fun q=>hv q.2 q.1=optL (N.map full)/\hAll q.2 q.1:=by
 refine qcc (Q:=fun q=>hv q.2 q.1=optL (N.map full)/\hAll q.2 q.1) (some N) (by
  cases N with
  | nil=>exact⟨(none,[]),rfl,fun h hh=>by cases hh⟩
  | cons a N=>
   refine⟨(some ((List.range (N.length+1)).map some),((a :: N).map fun a=>a.getD [])),?_,fun h hh n e=>?_⟩
   . show some (List.map _ (List.map some _))=some _
     rw[List.map_map]
     congr 1
     refine List.ext_getElem (by simp) fun i h1 h2=>?_
     simp only[List.length_map,List.length_range] at h1
     simp only[List.getElem_map,List.getElem_range,Function.comp,unH,Option.map_some,full]
     rw[List.getD_eq_getElem?_getD,List.getElem?_map,List.getElem?_eq_getElem (by simpa using h1)];rfl
   . subst e
     have hh:some n∈(List.range (N.length+1)).map some:=hh
     obtain⟨i,hi,e⟩:=List.mem_map.1 hh
     obtain rfl:=Option.some.inj e
     simpa using hi) ?_
 refine rangeB (n:=N.length) (fun i (y:Option (List (Option Nat))×List (List (Int×Int)))=>(some N,((N.length:Int),((i:Int),(y.1,y.2))))) (fun i y=>hv y.2 y.1=optL ((N.take i).map full)/\hAll y.2 y.1/\(y.1.getD []).length=i) (none,[]) rfl ⟨rfl,(fun h hh=>by cases hh),rfl⟩ (fun p=>p.2.2.1.toNat) (fun _ _=>rfl) (fun _ _ _=>rfl) ?_ ?_
 . rintro k0 i ⟨h,rows⟩ hi ⟨h1,h2,h3⟩ hk
   dsimp only at h1 h2 h3 ⊢
   have e:eltS none (some N) (i:Int)=N[i]:=by
    show List.getD N (i:Int).toNat none=_
    rw[Int.toNat_natCast,List.getD_eq_getElem?_getD,List.getElem?_eq_getElem hi];rfl
   rw[e]
   refine⟨in_s hi,(qaP _ (hl _ (List.getElem_mem hi))).mono ?_⟩
   rintro _ rfl
   have h4:h.getD []=h.getD []:=rfl
   refine⟨?_,?_⟩
   . show ((h.getD []).length+1)*24<=140737488355328
     omega
   . rw[wi1 hi (by omega)]
     obtain⟨a1,a2⟩:=hv_app (full N[i]) h2
     refine hk (_,_) ⟨?_,a2,?_⟩
     . refine a1.trans ?_
       rw[h1,q0G,List.take_add_one,List.map_append,List.getElem?_eq_getElem hi];rfl
     . show ((appL h [_]).getD []).length=_
       rw[q4v,List.length_append,h3];rfl
 . rintro _ ⟨h,rows⟩ ⟨h1,h2,_⟩
   rw[List.take_length] at h1
   exact⟨h1,h2⟩
theorem qaT (a:Option (List (Int×Int))) (ha:(a.getD []).length<=1000):lendV Pg q4Z 1 q3u a fun r=>(r.getD []).length<=1000:=by
 refine qce (Q:=fun r=>(r.getD []).length<=1000) a ⟨none,Nat.zero_le _⟩ ?_
 refine rangeB (n:=(a.getD []).length) (fun i y=>(((a.getD []).length:Int),((i:Int),y))) (fun i (y:Option (List (Int×Int)))=>(y.getD []).length=(a.getD []).length) a rfl rfl (fun p=>p.2.1.toNat) (fun _ _=>rfl) (fun _ _ _=>rfl) ?_ ?_
 . intro k i y hi hy hk
   (try dsimp only)
   rw[wi1 hi (by omega)]
   refine⟨in_s (by omega),in_s (by omega),hk _ ?_⟩
   cases y with
   | none=>exact hy
   | some l=>show (List.set _ _ _).length=_;rw[List.length_set];exact hy
 . intro _ y hy
   show (y.getD []).length<=1000
   omega
theorem s_Spoil (h:Option (List (Option Nat))) (rows:List (List (Int×Int))) (hh:(h.getD []).length<=100) (hr:∀ i,(rows.getD i []).length<=1000):lendV Pg q4Y 1 q3v (h,rows) fun _=>True:=by
 refine qcf h rows ⟨(),trivial⟩ ?_
 refine rangeB (n:=(h.getD []).length) (fun i y=>(((h.getD []).length:Int),((i:Int),(h,y)))) (fun i (y:List (List (Int×Int)))=>∀ i,(y.getD i []).length<=1000) rows rfl hr (fun p=>p.2.1.toNat) (fun _ _=>rfl) (fun _ _ _=>rfl) ?_ ?_
 . intro k i y hi hy hk
   (try dsimp only)
   refine⟨in_s hi,?_⟩
   generalize eltN none h (toN (i:Int))=g
   refine (qaT (unH y g) ?_).mono fun r hr=>?_
   . cases g with
     | none=>exact Nat.zero_le _
     | some n=>exact hy n
   rw[wi1 hi (by omega)]
   refine br_c (fun _=>hk _ hy) fun _=>hk _ fun j=>?_
   by_cases e:j=g.getD 0
   . by_cases hj:j<y.length
     . rw[<-e,List.getD_eq_getElem?_getD,List.getElem?_set_self hj];exact hr
     . rw[List.getD_eq_getElem?_getD,List.getElem?_eq_none (by rw[List.length_set];omega)];exact Nat.zero_le _
   . rw[List.getD_eq_getElem?_getD,List.getElem?_set_ne (fun h=>e h.symm),<-List.getD_eq_getElem?_getD];exact hy j
 . exact fun _ _ _=>trivial
theorem r_SameV (N M:List (Option (List (Int×Int)))) (hN:N.length<=100) (hl:∀ a,a∈N->(a.getD []).length<=200) (h:N.map (fun a=>a.getD [])=M.map fun a=>a.getD []) (o p:Option (List (Option (List (Int×Int))))) (ho:o.getD []=N) (hp:p.getD []=M):
 callV Pg q4X [⟨(.sl (.sl tNum)),o⟩,⟨(.sl (.sl tNum)),p⟩] .bool fun r=>r=true:=by
 have hlen:N.length=M.length:=by have:=congrArg List.length h;simpa using this
 have e1:szSl o=(N.length:Int):=by show ((o.getD []).length:Int)=_;rw[ho]
 have e2:szSl p=(N.length:Int):=by show ((p.getD []).length:Int)=_;rw[hp,hlen]
 refine qcd o p ⟨_,rfl⟩ ?_
 rw[e1,e2]
 refine br_f (by simp[notB]) ?_
 refine rangeB (n:=N.length) (fun i (_:Unit)=>(o,(p,((N.length:Int),(i:Int))))) (fun _ _=>True) () rfl trivial (fun p=>p.2.2.2.toNat) (fun _ _=>rfl) (fun _ _ _=>rfl) ?_ ?_
 . intro k i _ hi _ hk
   (try dsimp only)
   refine⟨in_s (by rw[ho];exact hi),in_s (by rw[hp];omega),?_⟩
   have q1:(eltS none o (i:Int))=N[i]:=by
    show List.getD (o.getD []) (i:Int).toNat none=_
    rw[ho,Int.toNat_natCast,List.getD_eq_getElem?_getD,List.getElem?_eq_getElem hi];rfl
   have q2:(eltS none p (i:Int))=M[i]:=by
    show List.getD (p.getD []) (i:Int).toNat none=_
    rw[hp,Int.toNat_natCast,List.getD_eq_getElem?_getD,List.getElem?_eq_getElem (by omega)];rfl
   have q3:N[i].getD []=M[i].getD []:=by
    have:=congrArg (fun l=>l[i]?) h
    simp only[List.getElem?_map,List.getElem?_eq_getElem hi,List.getElem?_eq_getElem (show i<M.length by omega),Option.map_some,Option.some.injEq] at this
    exact this
   rw[q1,q2]
   refine (r_Same _ _ q3.symm (hl _ (List.getElem_mem hi))).mono ?_
   rintro _ rfl
   refine br_f rfl ?_
   rw[wi1 hi (by omega)]
   exact hk () trivial
 . exact fun _ _ _=>rfl
theorem r_ListsV (N M:List DL) (hN:N.length<=100) (hl:∀ a,a∈N->(a.getD []).length<=1000) (h:N.map (fun a=>a.getD [])=M.map fun a=>a.getD []) (o p:Option (List DL)) (ho:o.getD []=N) (hp:p.getD []=M):
 callV Pg q52 [⟨(.sl tL),o⟩,⟨(.sl tL),p⟩] .bool fun r=>r=true:=by
 have hlen:N.length=M.length:=by have:=congrArg List.length h;simpa using this
 have e1:szSl o=(N.length:Int):=by show ((o.getD []).length:Int)=_;rw[ho]
 have e2:szSl p=(N.length:Int):=by show ((p.getD []).length:Int)=_;rw[hp,hlen]
 refine qcj o p ⟨_,rfl⟩ ?_
 rw[e1,e2]
 refine br_f (by simp[notB]) ?_
 refine rangeB (n:=N.length) (fun i (_:Unit)=>(o,(p,((N.length:Int),(i:Int))))) (fun _ _=>True) () rfl trivial (fun p=>p.2.2.2.toNat) (fun _ _=>rfl) (fun _ _ _=>rfl) ?_ ?_
 . intro k i _ hi _ hk
   (try dsimp only)
   refine⟨in_s (by rw[ho];exact hi),in_s (by rw[hp];omega),?_⟩
   have q1:(eltS none o (i:Int))=N[i]:=by
    show List.getD (o.getD []) (i:Int).toNat none=_
    rw[ho,Int.toNat_natCast,List.getD_eq_getElem?_getD,List.getElem?_eq_getElem hi];rfl
   have q2:(eltS none p (i:Int))=M[i]:=by
    show List.getD (p.getD []) (i:Int).toNat none=_
    rw[hp,Int.toNat_natCast,List.getD_eq_getElem?_getD,List.getElem?_eq_getElem (by omega)];rfl
   have q3:N[i].getD []=M[i].getD []:=by
    have:=congrArg (fun l=>l[i]?) h
    simp only[List.getElem?_map,List.getElem?_eq_getElem hi,List.getElem?_eq_getElem (show i<M.length by omega),Option.map_some,Option.some.injEq] at this
    exact this
   rw[q1,q2]
   refine (r_List _ _ (by have:=hl _ (List.getElem_mem hi);omega)).mono ?_
   rintro _ rfl
   refine br_f (by rw[decide_eq_true q3];rfl) ?_
   rw[wi1 hi (by omega)]
   exact hk () trivial
 . exact fun _ _ _=>rfl
end Go.Proofs.Pf.B
namespace Go.Proofs.Pf.B
open Go Go.VM
theorem apartOk.uniq {m:DMo} {b c:Int} {r s:DL×(Int×Unit)} (h:apartOk m b c r) (g:apartOk m b c s):r=s:=by
 unfold apartOk at h g
 split at h
 . split at h
   . rename_i h0 h1
     rw[if_pos h0,if_pos h1] at g
     rcases h with ⟨w,a1,rfl⟩ | ⟨a1,rfl⟩<;>rcases g with ⟨u,b1,rfl⟩ | ⟨b1,rfl⟩
     . rw[a1.uniq b1]
     . exact absurd a1.1 (b1 w)
     . exact absurd b1.1 (a1 u)
     . rfl
   . rename_i h0 h1
     rw[if_pos h0,if_neg h1] at g
     rw[h,g]
 . rename_i h0
   rw[if_neg h0] at g
   rw[h,g]
theorem alikeOk.uniq {m:DMo} {r s:DL×(Int×Unit)} (h:alikeOk m r) (g:alikeOk m s):r.1.getD []=s.1.getD []/\r.2=s.2:=by
 unfold alikeOk at h g
 split at h
 . rename_i h0
   rw[if_pos h0] at g
   exact⟨h.1.uniq g.1,h.2.trans g.2.symm⟩
 . rename_i h0
   rw[if_neg h0] at g
   rw[h,g];exact⟨rfl,rfl⟩
section
variable (m:DMo) (d:List (Int×Int)) (v:List Int) (k:Int) (ra rk:DL×(Int×Unit))
def resN:List (Option (List (Int×Int))):=[(nowQ m d v).1,(thenQ m d v k).1,(nextQ m d v).1]
def resI:List DL:=[(likelyQ m d v).1,(possQ m d v).1,ra.1,rk.1]
def resE:List Int:=[(nowQ m d v).2.1,(thenQ m d v k).2.1,(nextQ m d v).2.1,(likelyQ m d v).2.2.1,(possQ m d v).2.1,ra.2.1,rk.2.1]
theorem resN_len (a:Option (List (Int×Int))) (h:a∈resN m d v k):(a.getD []).length<=200:=by
 rcases List.mem_cons.1 h with rfl | h
 . exact now_len _ _ _
 rcases List.mem_cons.1 h with rfl | h
 . exact q7U _ _ _ _
 obtain rfl:=List.mem_singleton.1 h
 exact q7h _ _ _
theorem resI_len (hv:v.length<=260) (h1:(ra.1.getD []).length<=1000) (h2:(rk.1.getD []).length<=1000) (a:DL) (h:a∈resI m d v ra rk):(a.getD []).length<=1000:=by
 rcases List.mem_cons.1 h with rfl | h
 . have:=qaC m d v;omega
 rcases List.mem_cons.1 h with rfl | h
 . have:=poss_len m d v;omega
 rcases List.mem_cons.1 h with rfl | h
 . exact h1
 obtain rfl:=List.mem_singleton.1 h
 exact h2
end
theorem s_results (m:DMo) (d:Option (List (Int×Int))) (v:DL) (k e f:Int) (hd:(d.getD []).length<=1000) (hv:(v.getD []).length<4611686018427387904) (hn:moOk m->(m.getD []).length<=9):
 callV Pg q27 [⟨tMo,m⟩,⟨(.sl tNum),d⟩,⟨tL,v⟩,⟨tI,k⟩,⟨tI,e⟩,⟨tI,f⟩] (.tup (.pair (.sl (.sl tNum)) (.pair (.sl tL) (.pair (.arr 7 tI) .unit)))) fun r=>
  ∃ ra rk,apartOk m e f ra/\alikeOk m rk/\r=(some (resN m (d.getD []) (v.getD []) k),(some (resI m (d.getD []) (v.getD []) ra rk),(resE m (d.getD []) (v.getD []) k ra rk,()))):=by
 refine qbO m d v k e f (let ⟨ra,ha⟩:=apartOk.ex m e f;let ⟨rk,hk⟩:=alikeOk.ex m;⟨_,ra,rk,ha,hk,rfl⟩) ((s_Now m d v hd hv).mono ?_)
 rintro _ rfl
 refine (s_Then m d v k hd hv).mono ?_
 rintro _ rfl
 refine (s_Next m d v hd hv).mono ?_
 rintro _ rfl
 refine (s_Likely m d v hd hv).mono ?_
 rintro _ rfl
 refine (qaS m d v hd hv).mono ?_
 rintro _ rfl
 refine (s_Apart m e f hn).mono fun ra ha=>(s_Alike m hn).mono fun rk hk=>(q5X m d v hd hv).mono ?_
 rintro _ rfl
 exact⟨ra,rk,ha,hk,rfl⟩
theorem gv_eq {α:Type} {rows:List (List α)} {l:Option (List α)} {n:Nat} (h:gvH l (lenL rows)=some n):n=rows.length/\n<(gvL rows l).length:=by
 refine⟨?_,gv_lt rows l n h⟩
 cases l with
 | none=>cases h
 | some l=>exact (Option.some.inj h).symm
def apartH (x y:Option Nat):Prop:=∀ n,x=some n->y≠some n
def ownOk (m:DMo) (d:List (Int×Int)) (v:List Int) (k e f:Int) (q:(List Int)×((Option (List (Option Nat)))×((Option (List (Option Nat)))×((List (List (Int×Int)))×(List (List Int)))))):Prop:=
 ∃ ra rk hs,apartOk m e f ra/\alikeOk m rk/\q.1=resE m d v k ra rk/\hv q.2.2.2.1 q.2.1=some (resN m d v k)/\(q.2.1.getD []).length=3/\(∀ i,(q.2.2.2.1.getD i []).length<=1000) /\
  q.2.2.1=some hs/\hs.length=4/\hs.map (fun h=>unH q.2.2.2.2 h)=resI m d v ra rk/\hs.Pairwise apartH
theorem qaV (m:DMo) (d:Option (List (Int×Int))) (v:DL) (k e f:Int) (hd:(d.getD []).length<=1000) (hv:(v.getD []).length<4611686018427387904) (hn:moOk m->(m.getD []).length<=9):
 lendV Pg q27 6 q3r (m,d,v,k,e,f) (ownOk m (d.getD []) (v.getD []) k e f):=by
 have key:∀ (p0 p1 p2:Int×Option (List (Int×Int))) (p3:(Int×Int)×Int×DL) (p4 p6:Int×DL) (p5:Option Nat×Int×List (List Int)),(p0.2,(p0.1,()))=nowQ m (d.getD []) (v.getD [])->(p1.2,(p1.1,()))=thenQ m (d.getD []) (v.getD []) k->(p2.2,(p2.1,()))=nextQ m (d.getD []) (v.getD [])->
  (p3.2.2,(p3.1,(p3.2.1,())))=likelyQ m (d.getD []) (v.getD [])->(p4.2,(p4.1,()))=possQ m (d.getD []) (v.getD [])->(apartOk m e f (unH p5.2.2 p5.1,(p5.2.1,()))/\hOk p5.2.2 p5.1)->alikeOk m (p6.2,(p6.1,()))->
  ownOk m (d.getD []) (v.getD []) k e f ([p0.1,p1.1,p2.1,p3.2.1,p4.1,p5.2.1,p6.1],some [gvH (α:=(List (Int×Int))) p0.2 (lenL (α:=List (Int×Int)) []),gvH (α:=(List (Int×Int))) p1.2 (lenL (gvL [] p0.2)),gvH (α:=(List (Int×Int))) p2.2 (lenL (gvL (gvL [] p0.2) p1.2))],some [gvH (α:=(List Int)) p3.2.2 (lenL (gvL p5.2.2 p4.2)),gvH (α:=(List Int)) p4.2 (lenL p5.2.2),p5.1,gvH (α:=(List Int)) p6.2 (lenL (gvL (gvL p5.2.2 p4.2) p3.2.2))],gvL (gvL (gvL [] p0.2) p1.2) p2.2,gvL (gvL (gvL p5.2.2 p4.2) p3.2.2) p6.2):=by
  rintro⟨e0,l0⟩ ⟨e1,l1⟩ ⟨e2,l2⟩ ⟨c3,e3,l3⟩ ⟨e4,l4⟩ ⟨e6,l6⟩ ⟨h5,e5,r5⟩ h0 h1 h2 h3 h4 ⟨ha,h5k⟩ hk
  dsimp only at h0 h1 h2 h3 h4 ha hk h5k ⊢
  have n0:=now_len m (d.getD []) (v.getD [])
  have n1:=q7U m (d.getD []) (v.getD []) k
  have n2:=q7h m (d.getD []) (v.getD [])
  refine⟨_,_,_,ha,hk,?_,?_,rfl,?_,rfl,rfl,?_,?_⟩
  . unfold resE
    rw[<-h0,<-h1,<-h2,<-h3,<-h4]
  . unfold resN
    rw[<-h0,<-h1,<-h2]
    show some [unH _ _,unH _ _,unH _ _]=some [l0,l1,l2]
    rw[q1w,q0V _ (fun n hn=>(gv_eq hn).2),q1w,q0V _ (fun n hn=>Nat.lt_of_lt_of_le (gv_eq hn).2 (gvL_le _ _)),q0V _ (fun n hn=>(gv_eq hn).2),q1w]
  . rw[<-h0] at n0;rw[<-h1] at n1;rw[<-h2] at n2
    intro i
    have:∀ r,r∈gvL (gvL (gvL ([]:List (List (Int×Int))) l0) l1) l2->r.length<=1000:=by
     intro r hr
     have hr:r∈(([] ++ l0.toList) ++ l1.toList) ++ l2.toList:=hr
     simp only[List.nil_append,List.mem_append,Option.mem_toList] at hr
     rcases hr with (hr | hr) | hr<;>subst hr<;>simp only[Option.getD_some] at n0 n1 n2<;>omega
    rcases Nat.lt_or_ge i (gvL (gvL (gvL ([]:List (List (Int×Int))) l0) l1) l2).length with hi | hi
    . rw[List.getD_eq_getElem?_getD,List.getElem?_eq_getElem hi];exact this _ (List.getElem_mem hi)
    . rw[List.getD_eq_getElem?_getD,List.getElem?_eq_none hi];exact Nat.zero_le _
  . unfold resI
    rw[<-h3,<-h4]
    show[unH _ _,unH _ _,unH _ _,unH _ _]=[l3,l4,_,l6]
    have g5:∀ n,h5=some n->n<r5.length:=h5k
    rw[q0V _ (fun n hn=>(gv_eq hn).2),q1w,q0V _ (fun n hn=>Nat.lt_of_lt_of_le (gv_eq hn).2 (gvL_le _ _)),q0V _ (fun n hn=>(gv_eq hn).2),q1w,
     q0V _ (fun n hn=>Nat.lt_of_lt_of_le (g5 n hn) (Nat.le_trans (gvL_le _ _) (gvL_le _ _))),q0V _ (fun n hn=>Nat.lt_of_lt_of_le (g5 n hn) (gvL_le _ _)),q0V _ g5,q1w]
  . have a1:=gvL_le r5 l4
    have a2:=gvL_le (gvL r5 l4) l3
    simp only[List.pairwise_cons,List.mem_cons,List.not_mem_nil,or_false,forall_eq_or_imp,forall_eq,List.Pairwise.nil,and_true,false_implies,implies_true]
    refine⟨⟨fun n x y=>?_,fun n x y=>?_,fun n x y=>?_⟩,⟨fun n x y=>?_,fun n x y=>?_⟩,fun n x y=>?_⟩
    . have:=gv_eq x;have:=gv_eq y;omega
    . have:=gv_eq x;have:=h5k n y;omega
    . have:=gv_eq x;have:=gv_eq y;omega
    . have:=gv_eq x;have:=h5k n y;omega
    . have:=gv_eq x;have:=gv_eq y;omega
    . have:=h5k n x;have:=gv_eq y;omega
 refine qbP m d v k e f ?_ ((s_Now1 m d v hd hv).mono fun p0 h0=>(q63 m d v k hd hv).mono fun p1 h1=>(q61 m d v hd hv).mono fun p2 h2=>(q5Z m d v hd hv).mono fun p3 h3=>(q62 m d v hd hv).mono fun p4 h4=>(q5W m e f hn).mono fun p5 h5=>(q5V m hn).mono fun p6 h6=>(q5X m d v hd hv).mono fun _ _=>key p0 p1 p2 p3 p4 p6 p5 h0 h1 h2 h3 h4 h5 h6)
 obtain⟨p0,h0⟩:=(s_Now1 m d v hd hv).ex
 obtain⟨p1,h1⟩:=(q63 m d v k hd hv).ex
 obtain⟨p2,h2⟩:=(q61 m d v hd hv).ex
 obtain⟨p3,h3⟩:=(q5Z m d v hd hv).ex
 obtain⟨p4,h4⟩:=(q62 m d v hd hv).ex
 obtain⟨p5,h5⟩:=(q5W m e f hn).ex
 obtain⟨p6,h6⟩:=(q5V m hn).ex
 exact⟨_,key p0 p1 p2 p3 p4 p6 p5 h0 h1 h2 h3 h4 h5 h6⟩
end Go.Proofs.Pf.B
namespace Go.Proofs.Pf.B
open Go Go.VM
theorem mapL_id {α:Type} (l:Option (List α)):mapL (fun x=>x) l=l:=by cases l<;>simp
theorem r_Id0 {a b:DMo} (ha:fewOk a) (h:moEq a b):callV Pg q3Q [⟨tMo,a⟩,⟨tMo,b⟩] .bool fun r=>r=true:=
 (qaG a b ha).mono fun r hr=>by rw[hr,decide_eq_true h]
theorem s_fewB (m:DMo) (d:Option (List (Int×Int))) (v:DL):callV Pg q4I [⟨tMo,m⟩,⟨(.sl tNum),d⟩,⟨tL,v⟩] .bool fun r=>r=true->fewOk m/\(moOk m->(m.getD []).length<=7)/\(d.getD []).length<=60/\(v.getD []).length<=260:=by
 refine qbM m d v ⟨false,fun h=>by cases h⟩ (joinR (fun b=>b=true->fewOk m/\(moOk m->(m.getD []).length<=7)/\(d.getD []).length<=60/\(v.getD []).length<=260) (fun b hb=>hb) ?_)
 intro k hk
 refine (r_Few3 7 m).mono fun r hr=>br_c (fun h0=>br_c (fun h=>?_) fun _=>hk _ fun e=>(by cases e)) fun _=>hk _ fun e=>(by cases e)
 obtain⟨f1,f2⟩:=hr h0
 have f2:moOk m->(m.getD []).length<=7:=fun hm=>by have:=hm.1.2;omega
 have h:((d.getD []).length:Int)<=60:=dec_t h
 refine br_c (fun h2=>?_) fun h2=>br_c (fun _=>?_) fun _=>hk _ fun e=>(by cases e)
 . have h2:((v.getD []).length:Int)<=12:=dec_t h2
   exact hk _ fun _=>⟨f1,f2,by omega,by omega⟩
 . refine hk _ fun e=>⟨f1,f2,by omega,?_⟩
   have e:((v.getD []).length:Int)<=260:=dec_t e
   omega
theorem row_none (V:List (List Int)) (i:Nat):¬ (i:Int)<((rowS V none).length:Int):=by
 have e:rowS V none=[]:=by simp[rowS]
 rw[e]
 show ¬ (i:Int)<0
 omega
theorem qaW {rows:List (List Int)} {n i:Nat} {y:Int} {j:Nat} (h:j≠n):(setR rows n i y).getD j []=rows.getD j []:=by
 show (rows.set n _).getD j []=_
 rw[List.getD_eq_getElem?_getD,List.getElem?_set_ne (fun e=>h e.symm),<-List.getD_eq_getElem?_getD]
theorem setR_len (rows:List (List Int)) (n i:Nat) (y:Int):((setR rows n i y).getD n []).length=(rows.getD n []).length:=by
 show ((rows.set n _).getD n []).length=_
 by_cases h:n<rows.length
 . rw[List.getD_eq_getElem?_getD,List.getElem?_set_self h]
   exact List.length_set
 . rw[List.getD_eq_getElem?_getD,List.getElem?_eq_none (by rw[List.length_set];omega),List.getD_eq_getElem?_getD,List.getElem?_eq_none (by omega)]
set_option maxHeartbeats 4000000 in
theorem s_WatchOwn (m:DMo) (d:Option (List (Int×Int))) (v:DL) (k e f:Int):callV Pg q6C [⟨tMo,m⟩,⟨(.sl tNum),d⟩,⟨tL,v⟩,⟨tI,k⟩,⟨tI,e⟩,⟨tI,f⟩] .bool fun r=>r=true:=by
 refine qbK m d v k e f ⟨true,rfl⟩ ((s_fewB m d v).mono fun p0 h0=>br_c (fun _=>q7F) fun hp0=>?_)
 have hp0:p0=true:=by cases p0;cases hp0;rfl
 obtain⟨hfew,hn7,hd,hvl⟩:=h0 hp0
 clear h0 hp0
 refine (r_Copy m hfew.small).mono ?_
 rintro _ rfl
 refine⟨?_,?_,(qaV m d v k e f (by omega) (by omega) (fun hm=>by have:=hn7 hm;omega)).mono ?_⟩
 . show (0+(d.getD []).length)*16<=140737488355328
   omega
 . show (0+(v.getD []).length)*8<=140737488355328
   omega
 rintro⟨E,hN,hI,pN,pI⟩ ⟨ra,rk,hs,ha,hk,q1,q2,q3,q4,q5,q6,q7,q8⟩
 dsimp only at q1 q2 q3 q4 q5 q7 ⊢
 subst q5
 have nl:=resN_len m (d.getD []) (v.getD []) k
 have il:=resI_len m (d.getD []) (v.getD []) ra rk hvl ha.len hk.len
 generalize hNN:resN m (d.getD []) (v.getD []) k=N at *
 generalize hII:resI m (d.getD []) (v.getD []) ra rk=I at *
 have n3:N.length=3:=by rw[<-hNN];rfl
 have i4:I.length=4:=by rw[<-hII];rfl
 have q2:mapL (fun h=>unH pN h) hN=some N:=q2
 rw[q2]
 refine (s_CopyV N (by omega) fun a ha=>by have:=nl a ha;omega).mono fun p3 hp3=>?_
 have ehs:szSl (some hs)=((4:Nat):Int):=by show (hs.length:Int)=_;rw[q6]
 rw[ehs]
 have hsI:∀ j (hj:j<hs.length),unH pI hs[j]=I.getD j none:=fun j hj=>by
  rw[<-q7,List.getD_eq_getElem?_getD,List.getElem?_map,List.getElem?_eq_getElem hj];rfl
 have Ilen:∀ j,((I.getD j none).getD []).length<=1000:=fun j=>by
  rcases Nat.lt_or_ge j I.length with hj | hj
  . rw[List.getD_eq_getElem?_getD,List.getElem?_eq_getElem hj];exact il _ (List.getElem_mem hj)
  . rw[List.getD_eq_getElem?_getD,List.getElem?_eq_none hj];exact Nat.zero_le _
 refine rangeB (n:=4) (fun i (y:Option (List (Option Nat))×List (List Int)×List (List Int))=>(d,(v,(k,(e,(f,(((4:Nat):Int),((i:Int),(m,(copyM m,(E,(appL (some []) (lst d),(appL (some []) (lst v),(hN,(p3.1,(y.1,(some hs,(pN,(p3.2,(y.2.1,y.2.2))))))))))))))))))))
  (fun i y=>hv y.2.1 y.1=optL ((I.take i).map full)/\hAll y.2.1 y.1/\(y.1.getD []).length=i/\∀ j (hj:j<hs.length),i<=j->unH y.2.2 hs[j]=I.getD j none) (none,([],pI)) rfl ⟨rfl,(fun h hh=>by cases hh),rfl,fun j hj _=>hsI j hj⟩ (fun p=>p.2.2.2.2.2.2.1.toNat) (fun _ _=>rfl) (fun _ _ _=>rfl) ?_ ?_
 . rintro k4 o ⟨w,g,A⟩ ho ⟨a1,a2,a3,a4⟩ hk4
   (try dsimp only at a1 a2 a3 a4 ⊢)
   have ho4:o<hs.length:=by omega
   have eg:eltN (none:Option Nat) (some hs) (toN (o:Int))=hs[o]:=by
    show List.getD hs (o:Int).toNat none=_
    rw[Int.toNat_natCast,List.getD_eq_getElem?_getD,List.getElem?_eq_getElem ho4];rfl
   rw[eg]
   have e0:=a4 o ho4 (Nat.le_refl _)
   have hl0:=Ilen o
   rw[e0]
   have eap:appL (some ([]:List Int)) (lst (I.getD o none))=full (I.getD o none):=rfl
   rw[eap]
   have esz:szH A hs[o]=(((I.getD o none).getD []).length:Int):=by
    rw[<-e0]
    cases hs[o] with
    | none=>simp[szH,rowS,unH]
    | some n=>rfl
   rw[esz]
   have hpw:=List.pairwise_iff_getElem.1 q8
   generalize hG:hs[o]=G at *
   obtain⟨b1,b2⟩:=hv_app (full (I.getD o none)) a2
   refine⟨⟨by omega,by show (o:Int)<(hs.length:Int);omega⟩,?_,?_,?_⟩
   . show (0+((I.getD o none).getD []).length)*8<=140737488355328
     omega
   . show ((w.getD []).length+1)*24<=140737488355328
     omega
   refine rangeB (n:=((I.getD o none).getD []).length) (fun i (V:List (List Int))=>(d,(v,(k,(e,(f,(G,(((4:Nat):Int),((o:Int),((((I.getD o none).getD []).length:Int),((i:Int),(m,(copyM m,(E,(appL (some []) (lst d),(appL (some []) (lst v),(hN,(p3.1,(appL w [gvH (full (I.getD o none)) (lenL g)],(some hs,(V,(pN,(p3.2,gvL g (full (I.getD o none)))))))))))))))))))))))))
    (fun _ V=>(rowS V G).length=((I.getD o none).getD []).length/\∀ n,G≠some n->V.getD n []=A.getD n []) A rfl ⟨?_,fun _ _=>rfl⟩ (fun p=>p.2.2.2.2.2.2.2.2.2.1.toNat) (fun _ _=>rfl) (fun _ _ _=>rfl) ?_ ?_
   . have:((rowS A G).length:Int)=_:=esz
     omega
   . rintro k6 i V hi ⟨c1,c2⟩ hk6
     (try dsimp only)
     have hin:inH V G (i:Int):=⟨by omega,by rw[c1];omega⟩
     rw[wi1 hi (by omega)]
     refine⟨hin,hin,hk6 _ ⟨?_,fun n hn=>?_⟩⟩
     . cases G with
       | none=>exact absurd hin.2 (row_none V i)
       | some n=>
        refine Eq.trans ?_ c1
        exact setR_len V n _ _
     . cases G with
       | none=>exact absurd hin.2 (row_none V i)
       | some n'=>
        rw[<-c2 n hn]
        exact qaW fun e=>hn (by rw[e];rfl)
   . rintro _ V ⟨c1,c2⟩
     (try dsimp only)
     rw[wi1 ho (by omega)]
     refine hk4 (_,(_,_)) ⟨?_,b2,?_,fun j hj hoj=>?_⟩
     . refine b1.trans ?_
       rw[a1,q0G,List.take_add_one,List.map_append,List.getElem?_eq_getElem (by omega)]
       rw[List.getD_eq_getElem?_getD,List.getElem?_eq_getElem (by omega)];rfl
     . show ((appL w [_]).getD []).length=_
       rw[q4v,List.length_append,a3];rfl
     . rw[<-a4 j hj (by omega)]
       have hap:=hpw o j ho4 hj (by omega)
       rw[hG] at hap
       show unH V hs[j]=unH A hs[j]
       generalize hs[j]=x at *
       cases x with
       | none=>rfl
       | some n=>
        show some (V.getD n [])=some (A.getD n [])
        rw[c2 n fun e=>hap n e rfl]
 rintro _ ⟨w,g,A⟩ ⟨a1,a2,a3,-⟩
 (try dsimp only at a1 a2 a3 ⊢)
 rw[List.take_of_length_le (by omega)] at a1
 refine (s_Spoil hN pN (by omega) q4).mono fun _ _=>?_
 refine joinR (fun p=>p=(d,(v,(k,(e,(f,(false,(m,(E,(p3.1,(w,(p3.2,(g,A))))))))))))) ?_ ?_
 case refine_2=>
  intro k7 hk7
  refine (r_Id0 hfew (copy_eq m).symm).mono ?_
  rintro _ rfl
  refine br_f rfl ((r_Same d (appL (some []) (lst d)) rfl (by omega)).mono ?_)
  rintro _ rfl
  refine br_f rfl ((r_List v (appL (some []) (lst v)) (by omega)).mono ?_)
  rintro _ rfl
  refine hk7 _ ?_
  have:decide (v.getD []=(appL (some []) (lst v)).getD [])=true:=decide_eq_true rfl
  rw[this];rfl
 rintro _ rfl
 (try dsimp only)
 refine br_f rfl ((s_results m d v k e f (by omega) (by omega) (fun hm=>by have:=hn7 hm;omega)).mono ?_)
 rintro _ ⟨rb,rl,hb,hl,rfl⟩
 obtain rfl:=ha.uniq hb
 obtain⟨u1,u2⟩:=hk.uniq hl
 have eE:resE m (d.getD []) (v.getD []) k ra rl=E:=by rw[q1];unfold resE;rw[u2]
 refine joinR (fun p=>p.1=true) (fun p hp=>hp) fun k9 hk9=>?_
 (try dsimp only)
 rw[eE,hNN]
 refine br_t (by simp[eqIs]) ?_
 have g1:hv p3.2 p3.1=optL (N.map full):=hp3.1
 have g2:hv g w=optL (I.map full):=a1
 refine (r_SameV (N.map full) N (by simp;omega) (fun a ha=>?_) (by rw[List.map_map];rfl) _ _ (by rw[mapL_id];show (hv p3.2 p3.1).getD []=_;rw[g1,q07]) rfl).mono ?_
 . obtain⟨b,hb,rfl⟩:=List.mem_map.1 ha
   exact nl b hb
 rintro _ rfl
 refine br_t rfl ?_
 have e8:(List.map (List.map fun x=>x) g:List (List Int))=g:=by simp
 rw[e8]
 refine (r_ListsV (I.map full) (resI m (d.getD []) (v.getD []) ra rl) (by simp;omega) (fun a ha=>?_) ?_ _ _ (by rw[mapL_id];show (hv g w).getD []=_;rw[g2,q07]) rfl).mono ?_
 . obtain⟨b,hb,rfl⟩:=List.mem_map.1 ha
   exact il b hb
 . rw[List.map_map,<-hII]
   unfold resI
   show[_,_,_,_]=[_,_,_,_]
   simp only[Function.comp,full,Option.getD_some,u1]
 rintro _ rfl
 exact br_t rfl (q7F.mono fun _ h=>hk9 _ h)
end Go.Proofs.Pf.B
