/- Typed pure data, a condition on code that says what a call gives, what the code of each function comes to, and what each function gives. -/
import Derived.Scope
import Derived.Lib.LaidTab
import Derived.Lib.ItoaNum
import Derived.Laws.CopyRow
import Derived.Laws.AppendOwn
import Derived.Laws.MakeOwn
import Derived.Laws.BytesString
import Derived.ChangeKeysEq
import Derived.Laws.StructEq
import Derived.Laws.Small
import Derived.Tactics
import Derived.Calls
import Derived.Below
import Derived.KernelRfl
import Derived.Laws.Cells
import Derived.Test.YtfifpjkegdkdpaaGreatProg
import Derived.Lib.AppendIntMem
import Derived.Shelf.Small.Bits
import Derived.Shelf.Small.Wraps
import Derived.Shelf.Strconv.Itoa0
import Derived.Shelf.Sort.Plain
import Derived.Shelf.Bits.Mul64
import Derived.Ground.Names2Prog
import Derived.Shelf.Slices.Clone
import Derived.Shelf.Slices.CompactI
import Derived.Shelf.Slices.SearchI
import Derived.Shelf.Slices.Cells
import Derived.Shelf.Slices.In.SortNone
import Derived.Ground.SlgnProg
import Derived.Shelf.SlicesE.Clone
import Derived.Test.YtfifpjkegdkdpaaGreatA6
import Derived.Test.YtfifpjkegdkdpaaGreatA8
import Derived.Test.YtfifpjkegdkdpaaGreatA9
import Derived.Test.YtfifpjkegdkdpaaGreatA11
set_option linter.unusedVariables false
set_option linter.unusedSimpArgs false
set_option linter.unnecessarySimpa false
namespace Go.Proofs.Pf.B
open Go Go.VM
abbrev Buf:=Option (List Int)
def ints (l:List UInt8):List Int:=l.map fun b=>(b.toNat:Int)
def BufIs (b:Buf) (l:List UInt8):Prop:=b.getD []=ints l
theorem bytesI_bl (s:ByteArray):bytesI s=ints (bl s):=rfl
theorem ints_len (l:List UInt8):(ints l).length=l.length:=by simp[ints]
theorem appL_getB (c:Buf) (ys:List Int):(appL c ys).getD []=c.getD [] ++ ys:=by
 cases c with
 | none=>cases ys<;>rfl
 | some l=>rfl
theorem BufIs.app {b:Buf} {l:List UInt8} (h:BufIs b l) (s:ByteArray):BufIs (appL b (bytesI s)) (l ++ bl s):=by
 unfold BufIs at *
 rw[appL_getB,h,bytesI_bl];simp[ints]
theorem BufIs.len {b:Buf} {l:List UInt8} (h:BufIs b l):(b.getD []).length=l.length:=by rw[h,ints_len]
theorem BufIs.str {b:Buf} {l:List UInt8} (h:BufIs b l):strOf b=⟨l.toArray⟩:=by
 apply bl_inj
 have e:strOf b=strOf (some (b.getD [])):=rfl
 rw[e,bl_strOf,h,bl_mk]
 simp only[ints,List.map_map]
 conv=>rhs;rw[<-List.map_id l]
 refine List.map_congr_left fun x _=>?_
 simp
abbrev lit (l:List Nat):List UInt8:=l.map UInt8.ofNat
end Go.Proofs.Pf.B
namespace Go.Proofs.Pf.B
open Go Go.VM
abbrev len (m:DMo):Nat:=(m.getD []).length
end Go.Proofs.Pf.B
namespace Go.Proofs.Pf.B
open Go Go.VM
theorem r_List (a b:Option (List Int)) (ha:(a.getD []).length<9223372036854775807):callV Pg q2Q [⟨tL,a⟩,⟨tL,b⟩] .bool fun r=>r=decide (a.getD []=b.getD []):=by
 refine qc9 a b ⟨_,rfl⟩ (q01.2 ⟨fun h=>?_,fun h=>?_⟩)
 . have h:¬ ((a.getD []).length:Int)=((b.getD []).length:Int):=not_t h
   exact (decide_eq_false fun e=>h (by rw[e])).symm
 have hl:((a.getD []).length:Int)=((b.getD []).length:Int):=not_f h
 refine loopE (fun p=>∃ i:Nat,p=(a,(b,(((a.getD []).length:Int),(i:Int))))/\i<=(a.getD []).length/\(a.getD []).take i=(b.getD []).take i) (fun p=>(a.getD []).length - p.2.2.2.toNat) ⟨0,rfl,by omega,rfl⟩ ?_
 rintro _ ⟨i,rfl,hi,ht⟩
 dsimp only
 refine q01.2 ⟨fun hc=>?_,fun hc=>?_⟩
 . have hc:(i:Int)<((a.getD []).length:Int):=dec_t hc
   refine⟨⟨by omega,by omega⟩,⟨by omega,by omega⟩,?_⟩
   have e1:eltS (0:Int) a (i:Int)=(a.getD []).getD i 0:=by simp only[eltS,Int.toNat_natCast]
   have e2:eltS (0:Int) b (i:Int)=(b.getD []).getD i 0:=by simp only[eltS,Int.toNat_natCast]
   rw[e1,e2]
   refine q01.2 ⟨fun h=>?_,fun h=>?_⟩
   . exact (decide_eq_false fun e=>not_t h (by rw[e])).symm
   . have h:=not_f h
     rw[wi64 (by omega) (by omega)]
     refine⟨⟨i+1,rfl,by omega,?_⟩,by omega⟩
     have g1:(a.getD []).getD i 0=(a.getD [])[i]'(by omega):=by simp[List.getD,show i<(a.getD []).length by omega]
     have g2:(b.getD []).getD i 0=(b.getD [])[i]'(by omega):=by simp[List.getD,show i<(b.getD []).length by omega]
     rw[List.take_succ_eq_append_getElem (by omega),List.take_succ_eq_append_getElem (by omega),ht,<-g1,<-g2,h]
 . have hc:¬ (i:Int)<((a.getD []).length:Int):=dec_f hc
   obtain rfl:i=(a.getD []).length:=by omega
   rw[List.take_of_length_le (Nat.le_refl _),List.take_of_length_le (by omega)] at ht
   exact (decide_eq_true ht).symm
end Go.Proofs.Pf.B
namespace Go.Proofs.Pf.B
open Go Go.VM
abbrev int (l:List Int) (i:Nat):Int:=l.getD i 0
theorem q2g {l:Option (List Int)} {i:Nat}:eltS (0:Int) l (i:Int)=int (l.getD []) i:=by simp only[eltS,Int.toNat_natCast]
def preI (l:List Int):Nat->Int
 | 0=>-1
 | i+1=>int l i
def setAt (n:Int) (l:List Int) (i:Nat):Prop:=preI l i<int l i/\int l i<n
instance (n:Int) (l:List Int) (i:Nat):Decidable (setAt n l i):=by unfold setAt;infer_instance
def setOk (n:Int) (l:List Int):Prop:=∀ i,i<l.length->setAt n l i
instance (n:Int) (l:List Int):Decidable (setOk n l):=by unfold setOk;infer_instance
def strAt (m:List DSt) (l:List Int) (i:Nat):Prop:=0<=int l i/\int l i<cntL (stt m i)
instance (m:List DSt) (l:List Int) (i:Nat):Decidable (strAt m l i):=by unfold strAt;infer_instance
def strOk (m:DMo) (l:List Int):Prop:=l.length=(m.getD []).length/\∀ i,i<l.length->strAt (m.getD []) l i
instance (m:DMo) (l:List Int):Decidable (strOk m l):=by unfold strOk;infer_instance
end Go.Proofs.Pf.B
namespace Go.Proofs.Pf.B
open Go Go.VM
def fwdQ (m:DMo) (x:Nat->Rat) (view:List Int):Nat->Nat->Rat
 | 0=>x
 | i+1=>seenQ m (if i=0 then x else stepQ (rowQ m) (fwdQ m x view i) (m.getD []).length) (int view i)
theorem fwd_fb {m:DMo} {x:Nat->Rat} {view:List Int} {e b:Nat} (hx:FB (m.getD []).length e x) (hm:MB (m.getD []).length b (rowQ m)) (hn:(m.getD []).length<=1000):∀ i,FB (m.getD []).length (e+i*(b+1)) (fwdQ m x view i)
 | 0=>hx.mono (by omega)
 | i+1=>by
  have ih:=fwd_fb (view:=view) hx hm hn i
  refine FB.seen ?_ _
  by_cases h:i=0
  . rw[if_pos h];exact hx.mono (by omega)
  . rw[if_neg h]
    refine (ih.step hm (Nat.le_trans hn (by decide)) (Nat.le_refl _)).mono ?_
    rw[Nat.succ_mul];omega
def RLL (p:Option (List (Option (List DR)))) (f:Nat->Nat->Rat) (k n:Nat):Prop:=(p.getD []).length=k/\∀ i,i<k->RL ((p.getD []).getD i none) (f i) n
theorem RLL.nil (f:Nat->Nat->Rat) (n:Nat):RLL none f 0 n:=⟨rfl,fun i hi=>absurd hi (by omega)⟩
theorem RLL.app {p:Option (List (Option (List DR)))} {f:Nat->Nat->Rat} {k n:Nat} {z:Option (List DR)} (h:RLL p f k n) (hz:RL z (f k) n):RLL (appL p [z]) f (k+1) n:=by
 obtain⟨h1,h2⟩:=h
 have e:(appL p [z]).getD []=p.getD [] ++ [z]:=by cases p<;>rfl
 refine⟨by rw[e,List.length_append,h1];rfl,fun i hi=>?_⟩
 rw[e]
 rcases Nat.lt_or_ge i k with hlt | hge
 . rw[List.getD_eq_getElem?_getD,List.getElem?_append_left (by omega),<-List.getD_eq_getElem?_getD];exact h2 i hlt
 . obtain rfl:i=k:=by omega
   rw[List.getD_eq_getElem?_getD,List.getElem?_append_right (by omega),h1,Nat.sub_self];exact hz
theorem RLL.ex (f:Nat->Nat->Rat) (k n:Nat):∃ r,RLL r f k n:=by
 refine⟨some (tab (fun i=>(RL.ex (f i) n).choose) k),tab_len _ _,fun i hi=>?_⟩
 show RL ((tab _ _).getD i none) _ _
 rw[tab_get _ _ _ _ hi]
 exact (RL.ex (f i) n).choose_spec
theorem q7H {m:DMo} {d:Option (List DR)} {x:Nat->Rat} {view:DL} {e b:Nat} (hm:moOk m) (hd:RL d x (m.getD []).length) (hx:FB (m.getD []).length e x) (hb:MB (m.getD []).length b (rowQ m))
 (hv:(view.getD []).length<=1000) (hk:e+(view.getD []).length*(b+1)+b+1<=200000000):
 callV Pg q3U [⟨tMo,m⟩,⟨(.sl tER),d⟩,⟨tL,view⟩] (.sl (.sl tER)) fun r=>RLL r (fun i=>fwdQ m x (view.getD []) (i+1)) (view.getD []).length (m.getD []).length:=by
 have hn:=hm.1.2
 refine qcN m d view (RLL.ex _ _ _) ((q1s hm).mono fun p hp=>?_)
 refine rangeB (n:=(view.getD []).length) (fun i (s:Option (List DR)×Option (List (Option (List DR))))=>(p,(s.1,(view,(((view.getD []).length:Int),((i:Int),(m,s.2))))))) (fun i s=>RL s.1 (fwdQ m x (view.getD []) i) (m.getD []).length/\RLL s.2 (fun i=>fwdQ m x (view.getD []) (i+1)) i (m.getD []).length) (d,none) rfl ⟨hd,RLL.nil _ _⟩ (fun p=>p.2.2.2.2.1.toNat) (fun _ _=>rfl) (fun _ _ _=>rfl) ?_ ?_
 . rintro k i ⟨v,out⟩ hi ⟨h1,h2⟩ hk'
   dsimp only
   refine⟨in_s hi,joinR (fun q=>∃ w,q=(p,(w,(int (view.getD []) i,(view,(((view.getD []).length:Int),((i:Int),(m,out)))))))/\RL w (if i=0 then x else stepQ (rowQ m) (fwdQ m x (view.getD []) i) (m.getD []).length) (m.getD []).length) ?_ ?_⟩
   . rintro _ ⟨w,rfl,hw⟩
     dsimp only
     refine (q3k hw (by omega)).mono fun z hz=>⟨?_,?_⟩
     . show ((out.getD []).length+1)*24<=140737488355328
       rw[h2.1];omega
     . rw[wi1 hi (by omega)]
       exact hk' (z,_) ⟨hz,h2.app hz⟩
   . rw[show eltS (0:Int) view (i:Int)=int (view.getD []) i by simp only[eltS,Int.toNat_natCast]]
     intro k' hk''
     refine br_c (fun hc=>?_) fun hc=>?_
     . have hc:(0:Int)<(i:Int):=dec_t hc
       have hb':=fwd_fb (view:=view.getD []) hx hb (by omega) i
       have hle:i*(b+1)<=(view.getD []).length*(b+1):=Nat.mul_le_mul_right _ (by omega)
       refine (q67 (k:=2*(e+i*(b+1)+b+1)+1) hp h1 (by omega) (fun s t hs ht=>(hb.fit hs ht).1.mono (by omega)) (fun s hs=>(hb'.fit hs).1.mono (by omega)) (fun s t hs ht=>(hb'.prod hb hs ht).1.mono (by omega)) (fun a t ha ht=>((hb'.step hb (Nat.le_trans hn (by decide)) ha).fit ht).1.mono (by omega)) (by omega)).mono fun w hw=>hk'' _ ⟨w,rfl,?_⟩
       rw[if_neg (by omega)];exact hw
     . have hc:¬ (0:Int)<(i:Int):=dec_f hc
       refine hk'' _ ⟨v,rfl,?_⟩
       obtain rfl:i=0:=by omega
       rw[if_pos rfl];exact h1
 . rintro _ ⟨v,out⟩ ⟨_,h2⟩
   exact h2
theorem s_last {m:DMo} {d:Option (List DR)} {x:Nat->Rat} {view:DL} {e b:Nat} (hm:moOk m) (hd:RL d x (m.getD []).length) (hx:FB (m.getD []).length e x) (hb:MB (m.getD []).length b (rowQ m))
 (hv:(view.getD []).length<=1000) (hk:e+(view.getD []).length*(b+1)+b+1<=200000000):
 callV Pg q2b [⟨tMo,m⟩,⟨(.sl tER),d⟩,⟨tL,view⟩] (.sl tER) fun r=>RL r (fwdQ m x (view.getD []) (view.getD []).length) (m.getD []).length:=by
 refine qcT m d view (RL.ex _ _) (br_c (fun h=>?_) fun h=>?_)
 . have h:((view.getD []).length:Int)=0:=dec_t h
   rw[show (view.getD []).length=0 by omega];exact hd
 . have h:¬ ((view.getD []).length:Int)=0:=dec_f h
   have e1:IntKind.wrap IntKind.i64 (szSl view - (1:Int))=(((view.getD []).length - 1:Nat):Int):=by
    show IntKind.wrap IntKind.i64 (((view.getD []).length:Int) - 1)=_
    rw[wi64 (by omega) (by omega)];omega
   rw[e1]
   refine (q7H hm hd hx hb hv hk).mono fun r hr=>⟨in_s (by rw[hr.1];omega),?_⟩
   rw[q0t]
   have:=hr.2 ((view.getD []).length - 1) (by omega)
   dsimp only at this
   rwa [show (view.getD []).length - 1+1=(view.getD []).length by omega] at this
end Go.Proofs.Pf.B
namespace Go.Proofs.Pf.B
open Go Go.VM
theorem FB.sum {n e:Nat} {x:Nat->Rat} (h:FB n e x) (hn:n<=1000) {i:Nat} (hi:i<=n):Pf.RFit (2*(e+1)+1) (sumQ x i)/\RFit (2*(e+1)+1) (sumQ x i):=by
 obtain⟨D,h1,h2,h3⟩:=h
 refine (QD.sum i fun s hs=>h3 s (by omega)).fit h1 (kk_lt (Nat.le_trans h2 (kk_le (by omega)))) (kk_lt ?_)
 rw[Nat.pow_succ,Nat.mul_comm]
 exact Nat.mul_le_mul_left _ (Nat.le_trans (by omega:i<=1000) (by decide))
theorem s_sumF {l:Option (List DR)} {f:Nat->Rat} {n e:Nat} (hl:RL l f n) (hf:FB n e f) (hn:n<=1000) (he:e<=200000000):callV Pg q2c [⟨(.sl tER),l⟩] tER fun z=>RV z (sumQ f n):=
 s_sum (k:=2*(e+1)+1) hl (by omega) (fun i hi=>(hf.fit hi).1.mono (by omega)) (fun i hi=>(hf.sum hn hi).1) (by omega)
def givenQ (f:Nat->Rat) (n:Nat):Option (List (Int×Int))×Int×Unit:=if sumQ f n=0 then (none,5,()) else outsQ (fun i=>f i / sumQ f n) n
theorem q65 {l:Option (List DR)} {f:Nat->Rat} {n e:Nat} (hl:RL l f n) (hf:FB n e f) (hn:n<=1000) (he:e<=200000000):
 lendV Pg q2Z 1 q1c l fun q=>(q.2,(q.1,()))=givenQ f n:=by
 refine qcO (Q:=fun q=>(q.2,(q.1,()))=givenQ f n) l ⟨((givenQ f n).2.1,(givenQ f n).1),rfl⟩ ((s_sumF hl hf hn he).mono fun z hz=>(q0x hz).mono ?_)
 rintro _ rfl
 refine br_c (fun h=>?_) fun h=>?_
 . show (none,(_,()))=_
   rw[givenQ,if_pos (rv_zero hz (dec_t h))]
 . have hs:sumQ f n≠0:=by
    intro e
    refine dec_f h ?_
    rw[e];decide
   have e1:szSl l=(n:Int):=by show ((l.getD []).length:Int)=n;rw[hl.1]
   rw[e1]
   refine rangeB (n:=n) (fun i (x:Option (List DR))=>(l,((n:Int),((i:Int),(z,x))))) (fun i x=>RL x (fun i=>f i / sumQ f n) i) none rfl (RL.nil _) (fun p=>p.2.2.1.toNat) (fun _ _=>rfl) (fun _ _ _=>rfl) ?_ ?_
   . intro k i x hi hx hk
     (try dsimp only)
     refine⟨in_s (by rw[hl.1];exact hi),?_⟩
     rw[q05]
     refine (s_RDiv (k:=2*(e+1)+1) longS (hl.2 i hi) hz ((hf.fit hi).1.mono (by omega)) (hf.sum hn (Nat.le_refl _)).1 (by omega) hs).mono fun w hw=>⟨hx.c8 (by omega),?_⟩
     rw[wi1 hi (by omega)]
     exact hk _ (hx.app hw)
   . intro _ x hx
     refine (s_Outs1 hx hn).mono fun q hq=>?_
     show (q.2,(q.1,()))=_
     rw[hq,givenQ,if_neg hs]
end Go.Proofs.Pf.B
namespace Go.Proofs.Pf.B
open Go Go.VM
def single (m:DMo):Prop:=∀ i,i<(m.getD []).length->((stt (m.getD []) i).2.2.getD []).length=1
instance (m:DMo):Decidable (single m):=by unfold single;infer_instance
theorem qaQ (s:DSt):callV Pg q0Z [⟨tSt,s⟩] .bool fun r=>r=decide ((1:Int)<((s.2.2.getD []).length:Int)):=qc3 s ⟨_,rfl⟩ rfl
theorem q5Y {m:DMo} (h:moOk m):callV Pg q2M [⟨tMo,m⟩] .bool fun r=>r=decide (single m):=by
 have h40:=h.1
 refine qc2 m ⟨_,rfl⟩ (qcq m () ⟨!decide (single m),by cases decide (single m)<;>rfl⟩ ?_)
 have key:callV Pg q59 [⟨.sl tSt,m⟩,⟨.cst (.fn q0Z),()⟩] tI fun r=>notB (decide (0<=r))=decide (single m):=by
  refine qct m () ?_ (loopE (fun p=>∃ i:Nat,p=(m,(((m.getD []).length:Int),(i:Int)))/\i<=(m.getD []).length/\∀ j,j<i->((stt (m.getD []) j).2.2.getD []).length=1) (fun p=>(m.getD []).length - p.2.2.toNat) ⟨0,rfl,by omega,fun j hj=>by omega⟩ ?_)
  . by_cases g:single m
    . exact⟨-1,by rw[decide_eq_true g];rfl⟩
    . exact⟨0,by rw[decide_eq_false g];rfl⟩
  rintro _ ⟨i,rfl,hi,hall⟩
  dsimp only
  refine q01.2 ⟨fun hc=>?_,fun hc=>?_⟩
  . have hc:(i:Int)<((m.getD []).length:Int):=dec_t hc
    rw[q0C]
    have hb:=(h.2 i (by omega)).1.2.2
    refine⟨⟨by omega,by omega⟩,(qaQ (stt (m.getD []) i)).mono ?_⟩
    rintro _ rfl
    refine q01.2 ⟨fun hd=>?_,fun hd=>?_⟩
    . have hd:(1:Int)<(((stt (m.getD []) i).2.2.getD []).length:Int):=dec_t hd
      have g:¬ single m:=fun g=>by have:=g i (by omega);omega
      rw[decide_eq_false g,decide_eq_true (show (0:Int)<=(i:Int) by omega)];rfl
    . have hd:¬ (1:Int)<(((stt (m.getD []) i).2.2.getD []).length:Int):=dec_f hd
      rw[wi64 (by omega) (by omega)]
      refine⟨⟨i+1,rfl,by omega,fun j hj=>?_⟩,by omega⟩
      rcases Nat.lt_or_ge j i with q | q
      . exact hall j q
      . obtain rfl:j=i:=by omega
        omega
  . have hc:¬ (i:Int)<((m.getD []).length:Int):=dec_f hc
    obtain rfl:i=(m.getD []).length:=by omega
    rw[decide_eq_true (show single m from hall)];rfl
 exact key.mono fun r hr=>hr
end Go.Proofs.Pf.B
namespace Go.Proofs.Pf.B
open Go Go.VM
def markOk (a:Int):Prop:=0<=a/\a<64
instance (a:Int):Decidable (markOk a):=by unfold markOk;infer_instance
def marksOk (l:List Int):Prop:=∀ i,i<l.length->markOk (int l i)
instance (l:List Int):Decidable (marksOk l):=by unfold marksOk;infer_instance
def viewOk (l:List Int):Prop:=l.length<=200/\marksOk l
instance (l:List Int):Decidable (viewOk l):=by unfold viewOk;infer_instance
theorem s_isView1 (a:Int):callV Pg q11 [⟨tI,a⟩] .bool fun r=>r=!decide (markOk a):=by
 refine qcS a ⟨_,rfl⟩ (joinE (br_c (fun h=>?_) fun h=>?_))
 . have h:a<0:=dec_t h
   have:¬ markOk a:=fun g=>by have:=g.1;omega
   simp[this]
 . have h:¬ a<0:=dec_f h
   by_cases g:(64:Int)<=a
   . have:¬ markOk a:=fun g'=>by have:=g'.2;omega
     simp[this,g]
   . have:markOk a:=⟨by omega,by omega⟩
     simp[this,g]
theorem s_isView (l:DL) (hl:(l.getD []).length<4611686018427387904):callV Pg q5f [⟨tL,l⟩] .bool fun r=>r=decide (viewOk (l.getD [])):=by
 have key:callV Pg q5b [⟨tL,l⟩,⟨(.cst (.fn q11)),()⟩] tI fun r=>notB (decide ((0:Int)<=r))=decide (marksOk (l.getD [])):=by
  refine qcv l () ?_ (rangeB (n:=(l.getD []).length) (fun i (_:Unit)=>(l,(((l.getD []).length:Int),(i:Int)))) (fun i _=>∀ j,j<i->markOk (int (l.getD []) j)) () rfl (fun j hj=>absurd hj (by omega)) (fun p=>p.2.2.toNat) (fun _ _=>rfl) (fun _ _ _=>rfl) ?_ ?_)
  . by_cases h:marksOk (l.getD [])
    . exact⟨-1,by simp[h,notB]⟩
    . exact⟨0,by simp[h,notB]⟩
  . intro k i _ hi hx hk
    (try dsimp only)
    refine⟨in_s hi,?_⟩
    rw[q2g]
    refine (s_isView1 _).mono ?_
    rintro _ rfl
    refine br_c (fun h=>?_) fun h=>?_
    . have:¬ marksOk (l.getD []):=fun g=>by rw[decide_eq_true (g i hi)] at h;cases h
      simp[this,notB]
    . rw[wi1 hi (by omega)]
      refine hk () fun j hj=>?_
      rcases Nat.lt_or_ge j i with h1 | h1
      . exact hx j h1
      . obtain rfl:j=i:=by omega
        by_cases g:markOk (int (l.getD []) j)
        . exact g
        . rw[decide_eq_false g] at h;cases h
  . intro _ _ hx
    have:marksOk (l.getD []):=fun i hi=>hx i hi
    show notB (decide ((0:Int) <= -1))=_
    simp[this,notB]
 refine qcR l ⟨_,rfl⟩ (joinE (br_c (fun h=>?_) fun h=>?_))
 . have h:((l.getD []).length:Int)<=200:=dec_t h
   refine qcs l () ⟨!decide (viewOk (l.getD [])),?_⟩ (key.mono fun r hr=>?_)
   . show notB (!decide _)=_
     cases decide (viewOk (l.getD []))<;>rfl
   . rw[hr]
     by_cases g:marksOk (l.getD [])
     . have:viewOk (l.getD []):=⟨by omega,g⟩
       simp[g,this]
     . have:¬ viewOk (l.getD []):=fun g'=>g g'.2
       simp[g,this]
 . have h:¬ ((l.getD []).length:Int)<=200:=dec_f h
   have:¬ viewOk (l.getD []):=fun g=>by have:=g.1;omega
   simp[this]
def dQ (d:List (Int×Int)) (i:Nat):Rat:=if NumOk (nth2 d i) then numQ (nth2 d i) else 0
theorem dQ_fb (d:List (Int×Int)) (n:Nat):FB n (n+1) (dQ d):=FB.of fun s _=>by
 unfold dQ
 split
 . rename_i h
   obtain⟨h1,h2⟩:=h.q
   obtain⟨g1,g2,g3,g4,_⟩:=h
   rw[h1]
   exact⟨by show _<=1152921504606846976;omega,by show _<=1152921504606846976;omega⟩
 . exact⟨by decide,by decide⟩
def numsOk (d:List (Int×Int)):Prop:=∀ i,i<d.length->NumOk (nth2 d i)/\0<=(nth2 d i).1
instance (d:List (Int×Int)):Decidable (numsOk d):=by unfold numsOk;infer_instance
def distOk (n:Nat) (d:List (Int×Int)):Prop:=numsOk d/\d.length=n/\sumQ (dQ d) d.length=1
instance (n:Nat) (d:List (Int×Int)):Decidable (distOk n d):=by unfold distOk;infer_instance
theorem numsOk.dq {d:List (Int×Int)} (h:numsOk d) {i:Nat} (hi:i<d.length):dQ d i=numQ (nth2 d i):=if_pos (h i hi).1
theorem s_One:callV Pg q12 [] tER fun r=>RV r 1:=qcX (RV_ex _) (q4f (by decide) (by decide))
theorem qaU (m:DMo) (d:Option (List (Int×Int))) (hd:(d.getD []).length<=1000):callV Pg q5e [⟨tMo,m⟩,⟨(.sl tNum),d⟩] .bool fun r=>r=decide (distOk (m.getD []).length (d.getD [])):=by
 have hf:=dQ_fb (d.getD []) (d.getD []).length
 refine qcQ m d ⟨_,rfl⟩ (rangeB (n:=(d.getD []).length) (fun i (x:DR)=>(d,(d,(((d.getD []).length:Int),((i:Int),(m,x)))))) (fun i x=>(∀ j,j<i->NumOk (nth2 (d.getD []) j)/\0<=(nth2 (d.getD []) j).1)/\RV x (sumQ (dQ (d.getD [])) i)) r0 rfl ⟨fun j hj=>absurd hj (by omega),RV_r0⟩ (fun p=>p.2.2.2.1.toNat) (fun _ _=>rfl) (fun _ _ _=>rfl) ?_ ?_)
 . rintro k i x hi ⟨hx1,hx2⟩ hk
   dsimp only
   rw[eltS_n]
   refine⟨in_s hi,joinR (fun q=>∃ b:Bool,q=(d,(d,(((d.getD []).length:Int),((i:Int),(b,(m,(x,nth2 (d.getD []) i)))))))/\(b=false↔NumOk (nth2 (d.getD []) i)/\0<=(nth2 (d.getD []) i).1)) ?_ ?_⟩
   . rintro _ ⟨b,rfl,hb⟩
     dsimp only
     refine br_c (fun h=>?_) fun h=>?_
     . subst h
       have:¬ distOk (m.getD []).length (d.getD []):=fun g=>by have:=hb.2 (g.1 i hi);cases this
       rw[decide_eq_false this]
     . obtain⟨g1,g2⟩:=hb.1 h
       refine (s_Rat longS g1).mono fun z hz=>?_
       have hdq:dQ (d.getD []) i=numQ (nth2 (d.getD []) i):=if_pos g1
       rw[<-hdq] at hz
       refine (q1r (k:=2*((d.getD []).length+1+1)+1) longS hx2 hz (hf.sum hd (by omega)).1 ((hf.fit hi).1.mono (by omega)) (by omega)).mono fun w hw=>?_
       rw[wi1 hi (by omega)]
       refine hk (w.1,w.2) ⟨fun j hj=>?_,hw⟩
       rcases Nat.lt_or_ge j i with h1 | h1
       . exact hx1 j h1
       . obtain rfl:j=i:=by omega
         exact⟨g1,g2⟩
   . intro k' hk'
     refine (q64 longS _).mono ?_
     rintro _ rfl
     refine br_c (fun h=>?_) fun h=>?_
     . have h:¬ NumOk (nth2 (d.getD []) i):=fun g=>by rw[decide_eq_true g] at h;cases h
       exact hk' _ ⟨true,rfl,⟨fun e=>(by cases e),fun g=>(h g.1).elim⟩⟩
     . have h:NumOk (nth2 (d.getD []) i):=by
        by_cases g:NumOk (nth2 (d.getD []) i)
        . exact g
        . rw[decide_eq_false g] at h;cases h
       refine hk' _ ⟨_,rfl,?_⟩
       rw[decide_eq_false_iff_not]
       exact⟨fun g=>⟨h,by omega⟩,fun g=>by have:=g.2;omega⟩
 . rintro k x ⟨hx1,hx2⟩
   refine joinE (br_c (fun h=>?_) fun h=>?_)
   . have h:((d.getD []).length:Int)=((m.getD []).length:Int):=dec_t h
     refine s_One.mono fun y hy=>?_
     refine (q3i (k:=2*((d.getD []).length+1+1)+1) hx2 hy (hf.sum hd (Nat.le_refl _)).1 (q7k.mono (by omega)) (by omega)).mono ?_
     rintro _ rfl
     by_cases g:sumQ (dQ (d.getD [])) (d.getD []).length=1
     . have:distOk (m.getD []).length (d.getD []):=⟨hx1,by omega,g⟩
       rw[g,decide_eq_true this,show (1:Rat) - 1=0 by grind];rfl
     . have:¬ distOk (m.getD []).length (d.getD []):=fun g'=>g g'.2.2
       rw[decide_eq_false this,decide_eq_false]
       intro e
       have:=rv_zero (x:=x) (q:=sumQ (dQ (d.getD [])) (d.getD []).length - 1)
       have e2:(sumQ (dQ (d.getD [])) (d.getD []).length - 1).num=0:=by
        rcases sgn3 (sumQ (dQ (d.getD [])) (d.getD []).length - 1).num with ⟨q1,h'⟩ | ⟨q1,h'⟩ | ⟨q1,h'⟩
        . rw[q1] at e;cases e
        . rw[q1] at e;cases e
        . exact h'
       have e3:=Rat.num_eq_zero.1 e2
       exact g (by grind)
   . have h:¬ ((d.getD []).length:Int)=((m.getD []).length:Int):=dec_f h
     have:¬ distOk (m.getD []).length (d.getD []):=fun g=>h (by have:=g.2.1;omega)
     rw[decide_eq_false this]
end Go.Proofs.Pf.B
namespace Go.Proofs.Pf.B
open Go Go.VM
theorem numQ_kk {a:Int×Int} (h:NumOk a):(numQ a).num.natAbs<=KK/\(numQ a).den<=KK:=by
 obtain⟨h1,h2⟩:=h.q
 obtain⟨g1,g2,g3,g4,_⟩:=h
 rw[h1]
 exact⟨by show _<=1152921504606846976;omega,by show _<=1152921504606846976;omega⟩
theorem brQ_kk {l:List DBr}:∀ (k:Nat) (t:Nat),(∀ j,j<k->NumOk (br l j).2)->(brQ l k t).num.natAbs<=KK/\(brQ l k t).den<=KK
 | 0,t,_=>by show (0:Rat).num.natAbs<=KK/\(0:Rat).den<=KK;exact⟨by decide,by decide⟩
 | k+1,t,h=>by
  simp only[brQ]
  split
  . exact numQ_kk (h k (by omega))
  . exact brQ_kk k t fun j hj=>h j (by omega)
theorem moOk.mb {m:DMo} (h:moOk m):MB (m.getD []).length ((m.getD []).length*(m.getD []).length+1) (rowQ m):=
 MB.of fun s t hs _=>brQ_kk _ _ fun j hj=>((h.bs hs).2.2 j hj).2.2
def askedQ (m:DMo) (d:List (Int×Int)) (v:List Int):Int:=if moOk m/\distOk (m.getD []).length d/\viewOk v then (if single m then 0 else 7) else 1
theorem q2r (m:DMo) (d:Option (List (Int×Int))) (v:DL) (hd:(d.getD []).length<=1000) (hv:(v.getD []).length<4611686018427387904):
 callV Pg q1i [⟨tMo,m⟩,⟨(.sl tNum),d⟩,⟨tL,v⟩] tI fun r=>r=askedQ m (d.getD []) (v.getD []):=by
 refine qcL m d v ⟨_,rfl⟩ (joinR (fun p=>∃ b:Bool,p=(b,m)/\(b=false↔moOk m/\distOk (m.getD []).length (d.getD [])/\viewOk (v.getD []))) ?_ ?_)
 . rintro _ ⟨b,rfl,hb⟩
   dsimp only
   refine br_c (fun h=>?_) fun h=>?_
   . subst h
     rw[askedQ,if_neg (fun g=>by have:=hb.2 g;cases this)]
   . have g:=hb.1 h
     refine (q5Y g.1).mono ?_
     rintro _ rfl
     rw[askedQ,if_pos g]
     refine br_c (fun h=>?_) fun h=>?_
     . rw[if_neg (fun g=>by rw[decide_eq_true g] at h;cases h)]
     . rw[if_pos]
       by_cases g:single m
       . exact g
       . rw[decide_eq_false g] at h;cases h
 . intro k hk
   refine (q60 m).mono ?_
   rintro _ rfl
   by_cases h1:moOk m
   . rw[decide_eq_true h1]
     refine br_f rfl ((qaU m d hd).mono ?_)
     rintro _ rfl
     by_cases h2:distOk (m.getD []).length (d.getD [])
     . rw[decide_eq_true h2]
       refine br_f rfl ((s_isView v hv).mono ?_)
       rintro _ rfl
       refine hk _ ⟨_,rfl,?_⟩
       by_cases h3:viewOk (v.getD [])
       . rw[decide_eq_true h3];exact⟨fun _=>⟨h1,h2,h3⟩,fun _=>rfl⟩
       . rw[decide_eq_false h3];exact⟨fun e=>(by cases e),fun g=>(h3 g.2.2).elim⟩
     . rw[decide_eq_false h2]
       exact br_t rfl (hk _ ⟨true,rfl,⟨fun e=>(by cases e),fun g=>(h2 g.2.1).elim⟩⟩)
   . rw[decide_eq_false h1]
     exact br_t rfl (hk _ ⟨true,rfl,⟨fun e=>(by cases e),fun g=>(h1 g.1).elim⟩⟩)
theorem q0K {m:DMo} {d:List (Int×Int)} {v:List Int} (h:askedQ m d v=0):moOk m/\distOk (m.getD []).length d/\viewOk v/\single m:=by
 unfold askedQ at h
 split at h
 . rename_i g
   split at h
   . rename_i g2;exact⟨g.1,g.2.1,g.2.2,g2⟩
   . cases h
 . cases h
def lastQ (m:DMo) (d:List (Int×Int)) (v:List Int):Nat->Rat:=fwdQ m (dQ d) v v.length
theorem last_fb {m:DMo} {d:List (Int×Int)} {v:List Int} (h:moOk m):FB (m.getD []).length ((m.getD []).length+1+v.length*((m.getD []).length*(m.getD []).length+1+1)) (lastQ m d v):=
 fwd_fb (dQ_fb d _) h.mb (by have:=h.1.2;omega) _
theorem q66 {m:DMo} {d:Option (List (Int×Int))} {v:DL} (h:askedQ m (d.getD []) (v.getD [])=0) {p:Option (List DR)} (hp:RL p (fun i=>numQ (nth2 (d.getD []) i)) (d.getD []).length):
 callV Pg q2b [⟨tMo,m⟩,⟨(.sl tER),p⟩,⟨tL,v⟩] (.sl tER) fun r=>RL r (lastQ m (d.getD []) (v.getD [])) (m.getD []).length:=by
 obtain⟨h1,h2,h3,h4⟩:=q0K h
 have hn:=h1.1.2
 have e:=h2.2.1
 rw[e] at hp
 have hp:RL p (dQ (d.getD [])) (m.getD []).length:=hp.congr fun j hj=>h2.1.dq (by omega)
 have hnn:(m.getD []).length*(m.getD []).length<=40*40:=Nat.mul_le_mul hn hn
 have hv:=h3.1
 have hvv:(v.getD []).length*((m.getD []).length*(m.getD []).length+1+1)<=200*(40*40+1+1):=Nat.mul_le_mul hv (by omega)
 exact s_last h1 hp (dQ_fb _ _) h1.mb (by omega) (by omega)
theorem last_e {m:DMo} {v:List Int} (h:moOk m) (hv:v.length<=200):(m.getD []).length+1+v.length*((m.getD []).length*(m.getD []).length+1+1)<=400000:=by
 have hn:=h.1.2
 have hnn:(m.getD []).length*(m.getD []).length<=40*40:=Nat.mul_le_mul hn hn
 have hvv:v.length*((m.getD []).length*(m.getD []).length+1+1)<=200*(40*40+1+1):=Nat.mul_le_mul hv (by omega)
 omega
def q3Y (m:DMo) (d:List (Int×Int)) (v:List Int):(Int×Int)×Int×Unit:=if askedQ m d v=0 then outQ (sumQ (lastQ m d v) (m.getD []).length) else ((0,0),askedQ m d v,())
theorem q5X (m:DMo) (d:Option (List (Int×Int))) (v:DL) (hd:(d.getD []).length<=1000) (hv:(v.getD []).length<4611686018427387904):
 callV Pg q2T [⟨tMo,m⟩,⟨(.sl tNum),d⟩,⟨tL,v⟩] (.tup (.pair tNum (.pair tI .unit))) fun r=>r=q3Y m (d.getD []) (v.getD []):=by
 refine qcD m d v ⟨_,rfl⟩ ((q2r m d v hd hv).mono ?_)
 rintro _ rfl
 by_cases h:askedQ m (d.getD []) (v.getD [])=0
 . rw[decide_eq_true h]
   obtain⟨h1,h2,h3,h4⟩:=q0K h
   refine br_f rfl ((q3j (fun i hi=>(h2.1 i hi).1) hd).mono fun p hp=>(q66 h hp).mono fun l hl=>(s_sumF hl (last_fb h1) (by have:=h1.1.2;omega) (by have:=last_e h1 h3.1;omega)).mono fun z hz=>(s_Out hz).mono ?_)
   rintro _ rfl
   rw[q3Y,if_pos h]
 . rw[decide_eq_false h]
   exact br_t rfl (by rw[q3Y,if_neg h])
def nowQ (m:DMo) (d:List (Int×Int)) (v:List Int):Option (List (Int×Int))×Int×Unit:=if askedQ m d v=0 then givenQ (lastQ m d v) (m.getD []).length else (none,askedQ m d v,())
theorem s_Now1 (m:DMo) (d:Option (List (Int×Int))) (v:DL) (hd:(d.getD []).length<=1000) (hv:(v.getD []).length<4611686018427387904):
 lendV Pg q2a 3 q2B (m,d,v) fun q=>(q.2,(q.1,()))=nowQ m (d.getD []) (v.getD []):=by
 refine qcG (Q:=fun q=>(q.2,(q.1,()))=nowQ m (d.getD []) (v.getD [])) m d v ⟨((nowQ m (d.getD []) (v.getD [])).2.1,(nowQ m (d.getD []) (v.getD [])).1),rfl⟩ ((q2r m d v hd hv).mono ?_)
 rintro _ rfl
 by_cases h:askedQ m (d.getD []) (v.getD [])=0
 . rw[decide_eq_true h]
   obtain⟨h1,h2,h3,h4⟩:=q0K h
   refine br_f rfl ((q3j (fun i hi=>(h2.1 i hi).1) hd).mono fun p hp=>(q66 h hp).mono fun l hl=>(q65 hl (last_fb h1) (by have:=h1.1.2;omega) (by have:=last_e h1 h3.1;omega)).mono fun q hq=>?_)
   show (q.2,(q.1,()))=_
   rw[hq,nowQ,if_pos h]
 . rw[decide_eq_false h]
   exact br_t rfl (by show (none,(_,()))=_;rw[nowQ,if_neg h])
theorem s_Now (m:DMo) (d:Option (List (Int×Int))) (v:DL) (hd:(d.getD []).length<=1000) (hv:(v.getD []).length<4611686018427387904):
 callV Pg q2a [⟨tMo,m⟩,⟨(.sl tNum),d⟩,⟨tL,v⟩] (.tup (.pair (.sl tNum) (.pair tI .unit))) fun r=>r=nowQ m (d.getD []) (v.getD []):=
 q1E (L:=q2B) (p:=(m,d,v)) (s_Now1 m d v hd hv) fun _ hq=>⟨_,rfl,hq⟩
end Go.Proofs.Pf.B
namespace Go.Proofs.Pf.B
open Go Go.VM
def markQ (m:DMo) (y:Nat->Rat) (i k:Nat):Rat:=sumQ (fun s=>if (stt (m.getD []) s).2.1=(k:Int) then y s else 0) i
def goQ (m:DMo) (x:Nat->Rat) (len:Nat):Nat->Rat:=if len=0 then x else stepQ (rowQ m) x (m.getD []).length
def nextQ (m:DMo) (d:List (Int×Int)) (v:List Int):Option (List (Int×Int))×Int×Unit:=if askedQ m d v=0 then givenQ (markQ m (goQ m (lastQ m d v) v.length) (m.getD []).length) 64 else (none,askedQ m d v,())
theorem FB.mark {m:DMo} {e n i:Nat} {y:Nat->Rat} (h:FB n e y) (hn:n<=1000) (hi:i<=n) (c:Nat):FB c (e+1) (markQ m y i):=by
 obtain⟨D,h1,h2,h3⟩:=h
 refine⟨D,h1,Nat.le_trans h2 (kk_le (by omega)),fun k _=>?_⟩
 refine (QD.sum i (B:=KK ^ e) fun s hs=>?_).mono ?_
 . split
   . exact h3 s (by omega)
   . exact QD.zero _ _
 . rw[Nat.pow_succ,Nat.mul_comm]
   exact Nat.mul_le_mul_left _ (Nat.le_trans (by omega:i<=1000) (by decide))
theorem FB.go {m:DMo} {e b:Nat} {x:Nat->Rat} (h:FB (m.getD []).length e x) (g:MB (m.getD []).length b (rowQ m)) (hn:(m.getD []).length<=1000) (len:Nat):FB (m.getD []).length (e+b+1) (goQ m x len):=by
 unfold goQ
 split
 . exact h.mono (by omega)
 . exact h.step g (Nat.le_trans hn (by decide)) (Nat.le_refl _)
theorem q61 (m:DMo) (d:Option (List (Int×Int))) (v:DL) (hd:(d.getD []).length<=1000) (hv:(v.getD []).length<4611686018427387904):
 lendV Pg q2V 3 q2A (m,d,v) fun q=>(q.2,(q.1,()))=nextQ m (d.getD []) (v.getD []):=by
 refine qcF (Q:=fun q=>(q.2,(q.1,()))=nextQ m (d.getD []) (v.getD [])) m d v ⟨((nextQ m (d.getD []) (v.getD [])).2.1,(nextQ m (d.getD []) (v.getD [])).1),rfl⟩ ((q2r m d v hd hv).mono ?_)
 rintro _ rfl
 by_cases h:askedQ m (d.getD []) (v.getD [])=0
 . rw[decide_eq_true h]
   obtain⟨h1,h2,h3,h4⟩:=q0K h
   have hn:=h1.1.2
   have hnn:(m.getD []).length*(m.getD []).length<=40*40:=Nat.mul_le_mul hn hn
   have hle:=last_e h1 h3.1
   have hlf:=last_fb (d:=d.getD []) (v:=v.getD []) h1
   generalize hE:(m.getD []).length+1+(v.getD []).length*((m.getD []).length*(m.getD []).length+1+1)=E at *
   have hgf:=hlf.go h1.mb (by omega) (v.getD []).length
   refine br_f rfl ((q3j (fun i hi=>(h2.1 i hi).1) hd).mono fun p hp=>(q66 h hp).mono fun l hl=>joinR (fun q=>∃ w,q=(w,m)/\RL w (goQ m (lastQ m (d.getD []) (v.getD [])) (v.getD []).length) (m.getD []).length) ?_ ?_)
   . rintro _ ⟨w,rfl,hw⟩
     dsimp only
     refine⟨by decide,?_⟩
     generalize hy:goQ m (lastQ m (d.getD []) (v.getD [])) (v.getD []).length=y at *
     refine rangeB (n:=(m.getD []).length) (fun i (x:Option (List DR))=>(w,(m,(((m.getD []).length:Int),((i:Int),x))))) (fun i x=>RL x (markQ m y i) 64) _ rfl ((RL.zero 64).congr fun j _=>rfl) (fun p=>p.2.2.2.1.toNat) (fun _ _=>rfl) (fun _ _ _=>rfl) ?_ ?_
     . intro k i x hi hx hk
       dsimp only
       rw[q0C,q05]
       have hmk:=(h1.2 i hi).1.2.1
       obtain⟨t,ht⟩:∃ t:Nat,(stt (m.getD []) i).2.1=(t:Int):=⟨(stt (m.getD []) i).2.1.toNat,by omega⟩
       have htn:t<64:=by omega
       rw[ht,show toN (t:Int)=t from Int.toNat_natCast t]
       have hin:inS x (t:Int):=in_s (by rw[hx.1];exact htn)
       refine⟨in_s hi,hin,in_s (by rw[hw.1];exact hi),?_⟩
       refine (q1r (k:=2*(E+((m.getD []).length*(m.getD []).length+1)+1+1)+1) longS (hx.2 t htn) (hw.2 i hi) (((hgf.mark (m:=m) (by omega) (by omega:i<=(m.getD []).length) 64).fit htn).1.mono (by omega)) ((hgf.fit hi).1.mono (by omega)) (by omega)).mono fun z hz=>⟨hin,?_⟩
       rw[wi1 hi (by omega)]
       refine hk _ (RL.set hx htn (g:=markQ m y (i+1)) ?_ fun j hj hne=>?_)
       . simp only[markQ,sumQ,ht,if_true] at hz ⊢
         exact hz
       . simp only[markQ,sumQ,ht]
         rw[if_neg (by omega),Rat.add_zero]
     . intro _ x hx
       refine (q65 hx (hgf.mark (m:=m) (by omega) (Nat.le_refl _) 64) (by omega) (by omega)).mono fun q hq=>?_
       show (q.2,(q.1,()))=_
       rw[hq,nextQ,if_pos h,hy]
   . intro k' hk'
     refine br_c (fun hc=>?_) fun hc=>?_
     . have hc:(0:Int)<((v.getD []).length:Int):=dec_t hc
       refine (q1s h1).mono fun q hq=>?_
       refine (q67 (k:=2*(E+((m.getD []).length*(m.getD []).length+1)+1)+1) hq hl (by omega) (fun s t hs ht=>(h1.mb.fit hs ht).1.mono (by omega)) (fun s hs=>(hlf.fit hs).1.mono (by omega)) (fun s t hs ht=>(hlf.prod h1.mb hs ht).1.mono (by omega)) (fun a t ha ht=>((hlf.step h1.mb (Nat.le_trans hn (by decide)) ha).fit ht).1.mono (by omega)) (by omega)).mono fun w hw=>hk' _ ⟨w,rfl,?_⟩
       rw[goQ,if_neg (by omega)];exact hw
     . have hc:¬ (0:Int)<((v.getD []).length:Int):=dec_f hc
       refine hk' _ ⟨l,rfl,?_⟩
       rw[goQ,if_pos (by omega)];exact hl
 . rw[decide_eq_false h]
   exact br_t rfl (by show (none,(_,()))=_;rw[nextQ,if_neg h])
theorem s_Next (m:DMo) (d:Option (List (Int×Int))) (v:DL) (hd:(d.getD []).length<=1000) (hv:(v.getD []).length<4611686018427387904):
 callV Pg q2V [⟨tMo,m⟩,⟨(.sl tNum),d⟩,⟨tL,v⟩] (.tup (.pair (.sl tNum) (.pair tI .unit))) fun r=>r=nextQ m (d.getD []) (v.getD []):=
 q1E (L:=q2A) (p:=(m,d,v)) (q61 m d v hd hv) fun _ hq=>⟨_,rfl,hq⟩
end Go.Proofs.Pf.B
namespace Go.Proofs.Pf.B
open Go Go.VM
def TL (l:Option (List DRR)) (f:Nat->Rat) (n:Nat):Prop:=(l.getD []).length=n/\∀ i,i<n->RRV ((l.getD []).getD i z0) (f i)
theorem TL.set {l:Option (List DRR)} {f g:Nat->Rat} {n i:Nat} {z:DRR} (h:TL l f n) (hi:i<n) (hz:RRV z (g i)) (hg:∀ j,j<n->j≠i->g j=f j):TL (setO l i z) g n:=by
 obtain⟨h1,h2⟩:=h
 cases l with
 | none=>simp at h1;omega
 | some l=>
  have h1:l.length=n:=h1
  have h2:∀ i,i<n->RRV (l.getD i z0) (f i):=h2
  refine⟨by show (l.set i z).length=n;simpa using h1,fun j hj=>?_⟩
  show RRV ((l.set i z).getD j z0) (g j)
  by_cases e:j=i
  . subst e
    rw[List.getD_eq_getElem?_getD,List.getElem?_set_self (by omega)];exact hz
  . rw[List.getD_eq_getElem?_getD,List.getElem?_set_ne (fun h=>e h.symm),<-List.getD_eq_getElem?_getD,hg j hj e]
    exact h2 j hj
theorem TL.congr {l:Option (List DRR)} {f g:Nat->Rat} {n:Nat} (h:TL l f n) (hg:∀ j,j<n->g j=f j):TL l g n:=⟨h.1,fun i hi=>by rw[hg i hi];exact h.2 i hi⟩
theorem TL.nil (f:Nat->Rat):TL none f 0:=⟨rfl,fun i hi=>absurd hi (by omega)⟩
theorem TL.app {l:Option (List DRR)} {f:Nat->Rat} {n:Nat} {z:DRR} (h:TL l f n) (hz:RRV z (f n)):TL (appL l [z]) f (n+1):=by
 obtain⟨h1,h2⟩:=h
 have e:(appL l [z]).getD []=l.getD [] ++ [z]:=by cases l<;>rfl
 refine⟨by rw[e,List.length_append,h1];rfl,fun i hi=>?_⟩
 rw[e]
 rcases Nat.lt_or_ge i n with hlt | hge
 . rw[List.getD_eq_getElem?_getD,List.getElem?_append_left (by omega),<-List.getD_eq_getElem?_getD];exact h2 i hlt
 . obtain rfl:i=n:=by omega
   rw[List.getD_eq_getElem?_getD,List.getElem?_append_right (by omega),h1,Nat.sub_self];exact hz
theorem TL.ex (f:Nat->Rat) (n:Nat):∃ r,TL r f n:=by
 refine⟨some (tab (fun i=>(RRV_ex (f i)).choose) n),tab_len _ _,fun i hi=>?_⟩
 show RRV ((tab _ _).getD i z0) _
 rw[tab_get _ _ _ _ hi]
 exact (RRV_ex (f i)).choose_spec
end Go.Proofs.Pf.B
namespace Go.Proofs.Pf.B
open Go Go.VM
def incB (l:List DBr):Prop:=∀ i j,i<j->j<l.length->(br l i).1<(br l j).1
theorem q6z {l:List DBr} {t:Nat}:∀ k,(∀ j,j<k->(br l j).1≠(t:Int))->brQ l k t=0
 | 0,_=>rfl
 | k+1,h=>by
  simp only[brQ]
  rw[if_neg (h k (by omega)),q6z k fun j hj=>h j (by omega)]
theorem moOk.inc {m:DMo} (h:moOk m) {s:Nat} (hs:s<(m.getD []).length):incB (bs_ m s):=by
 obtain⟨h1,h2⟩:=h.2 s hs
 have h3:=h2 0 (by have:=h1.2.2.1;omega)
 have step:∀ i,i+1<(bs_ m s).length->(br (bs_ m s) i).1<(br (bs_ m s) (i+1)).1:=fun i hi=>(h3.2.2.1 (i+1) hi).1
 intro i j hij
 induction j with
 | zero=>exact absurd hij (by omega)
 | succ j ih=>
  intro hj
  rcases Nat.lt_or_ge i j with h4 | h4
  . exact Int.lt_trans (ih h4 (by omega)) (step j hj)
  . obtain rfl:i=j:=by omega
    exact step i hj
end Go.Proofs.Pf.B
namespace Go.Proofs.Pf.B
open Go Go.VM
def ShOk (f:Nat->Rat) (n:Nat) (r:Option (List DRR)×Bool×Unit):Prop:=(sumQ f n=0/\r=(none,false,()))∨(sumQ f n≠0/\r.2.1=true/\TL r.1 (fun i=>f i / sumQ f n) n)
theorem ShOk.ex (f:Nat->Rat) (n:Nat):∃ r,ShOk f n r:=by
 by_cases h:sumQ f n=0
 . exact⟨_,.inl ⟨h,rfl⟩⟩
 . obtain⟨l,hl⟩:=TL.ex (fun i=>f i / sumQ f n) n
   exact⟨(l,true,()),.inr ⟨h,rfl,hl⟩⟩
end Go.Proofs.Pf.B
namespace Go.Proofs.Pf.B
open Go Go.VM
theorem q0T (f g:Nat->Rat):∀ n,sumQ (fun i=>f i+g i) n=sumQ f n+sumQ g n
 | 0=>(Rat.add_zero 0).symm
 | n+1=>by simp only[sumQ];rw[q0T f g n];grind
theorem q0k (f:Nat->Rat) (c:Rat):∀ n,sumQ (fun i=>f i*c) n=sumQ f n*c
 | 0=>by simp[sumQ]
 | n+1=>by simp only[sumQ];rw[q0k f c n];grind
theorem q0U:∀ n,sumQ (fun _=>0) n=0
 | 0=>rfl
 | n+1=>by simp only[sumQ];rw[q0U n,Rat.add_zero]
theorem q6l (f:Nat->Nat->Rat) (a:Nat):∀ b,sumQ (fun i=>sumQ (fun j=>f i j) b) a=sumQ (fun j=>sumQ (fun i=>f i j) a) b
 | 0=>by simp only[sumQ];exact q0U a
 | b+1=>by simp only[sumQ];rw[q0T,q6l f a b]
theorem q19 {t:Nat} (x:Rat):∀ n,t<n->sumQ (fun i=>if t=i then x else 0) n=x
 | 0,h=>absurd h (by omega)
 | n+1,h=>by
  simp only[sumQ]
  rcases Nat.lt_or_ge t n with h1 | h1
  . rw[q19 x n h1,if_neg (by omega),Rat.add_zero]
  . obtain rfl:t=n:=by omega
    rw[if_pos rfl]
    have:sumQ (fun i=>if t=i then x else 0) t=sumQ (fun _=>0) t:=q04 _ fun i hi=>if_neg (by omega)
    rw[this,q0U,Rat.zero_add]
end Go.Proofs.Pf.B
namespace Go.Proofs.Pf.B
open Go Go.VM
theorem FB.div {n e:Nat} {x:Nat->Rat} (h:FB n e x) (hn:n<=1000) (hs:sumQ x n≠0):FB n (e+1) fun i=>x i / sumQ x n:=by
 obtain⟨D,h1,h2,h3⟩:=h
 have hS:=QD.sum n h3
 generalize sumQ x n=S at *
 obtain⟨c,c1,c2⟩:=hS
 have hD:((D:Int):Rat)≠0:=by
  intro e
  rw[<-Rat.intCast_zero,Rat.intCast_inj] at e
  omega
 have hc:c≠0:=by
  intro e
  rw[e] at c1
  have:S*((D:Int):Rat)=0:=c1
  rcases Rat.mul_eq_zero.1 this with h | h
  . exact hs h
  . exact hD h
 refine⟨c.natAbs,by omega,Nat.le_trans c2 ?_,fun s hs'=>?_⟩
 . rw[Nat.pow_succ,Nat.mul_comm]
   exact Nat.mul_le_mul_left _ (Nat.le_trans hn (by decide))
 . obtain⟨a,a1,a2⟩:=h3 s hs'
   have key:x s / S*((c:Int):Rat)=((a:Int):Rat):=by
    rw[<-c1,<-a1,Rat.div_def]
    have:=Rat.inv_mul_cancel S hs
    grind
   have hle:a.natAbs<=KK ^ (e+1):=Nat.le_trans a2 (kk_le (by omega))
   rcases Int.natAbs_eq c with g | g
   . exact⟨a,by rw[<-g];exact key,hle⟩
   . refine⟨-a,?_,by omega⟩
     have g2:((c.natAbs:Int)) = -c:=by omega
     rw[g2,Rat.intCast_neg,Rat.intCast_neg,Rat.mul_neg,key]
def NxOk (m:DMo) (x:Nat->Rat) (len:Nat) (r:Option (List DRR)×Bool×Unit):Prop:=(sumQ x (m.getD []).length=0/\r=(none,false,()))∨(sumQ x (m.getD []).length≠0/\r.2.1=true/\TL r.1 (markQ m (goQ m (fun i=>x i / sumQ x (m.getD []).length) len) (m.getD []).length) 64)
theorem NxOk.ex (m:DMo) (x:Nat->Rat) (len:Nat):∃ r,NxOk m x len r:=by
 by_cases h:sumQ x (m.getD []).length=0
 . exact⟨_,.inl ⟨h,rfl⟩⟩
 . obtain⟨l,hl⟩:=TL.ex (markQ m (goQ m (fun i=>x i / sumQ x (m.getD []).length) len) (m.getD []).length) 64
   exact⟨(l,true,()),.inr ⟨h,rfl,hl⟩⟩
end Go.Proofs.Pf.B
namespace Go.Proofs.Pf.B
open Go Go.VM
theorem br_sum {l:List DBr} {n:Nat} (h:incB l) (hn:∀ j,j<l.length->0<=(br l j).1/\(br l j).1<(n:Int)):∀ k,k<=l.length->sumQ (brQ l k) n=sumR l k
 | 0,_=>q0U n
 | k+1,hk=>by
  have ih:=br_sum h hn k (by omega)
  obtain⟨h1,h2⟩:=hn k (by omega)
  obtain⟨t,ht⟩:∃ t:Nat,(br l k).1=(t:Int):=⟨(br l k).1.toNat,by omega⟩
  have e:sumQ (brQ l (k+1)) n=sumQ (fun i=>brQ l k i+if t=i then numQ (br l k).2 else 0) n:=by
   refine q04 n fun i _=>?_
   simp only[brQ,ht]
   by_cases hi:t=i
   . subst hi
     rw[if_pos rfl,if_pos rfl,q6z k fun j hj e=>?_,Rat.zero_add]
     have:=h j k hj (by omega)
     omega
   . rw[if_neg (by omega),if_neg hi,Rat.add_zero]
  rw[e,q0T,ih,q19 _ _ (by omega)]
  rfl
theorem moOk.rowsum {m:DMo} (h:moOk m) {s:Nat} (hs:s<(m.getD []).length):sumQ (rowQ m s) (m.getD []).length=1:=by
 obtain⟨b1,b2,b3⟩:=h.bs hs
 have:=br_sum (n:=(m.getD []).length) (h.inc hs) (fun j hj=>⟨(b3 j hj).1,(b3 j hj).2.1⟩) _ (Nat.le_refl _)
 refine this.trans ?_
 obtain⟨h1,h2⟩:=h.2 s hs
 exact (h2 0 (by have:=h1.2.2.1;omega)).2.2.2
end Go.Proofs.Pf.B
namespace Go.Proofs.Pf.B
open Go Go.VM
def evenB (l:List DBr):Prop:=∀ k,k<l.length->Int.tmod 12 (br l k).2.2=0
instance (l:List DBr):Decidable (evenB l):=by unfold evenB;infer_instance
def easyCh (c:DCh):Prop:=c.1.2=1/\c.1.1<=100 /\ -100<=c.1.1/\evenB (c.2.getD [])
instance (c:DCh):Decidable (easyCh c):=by unfold easyCh;infer_instance
def easyS (s:DSt):Prop:=∀ j,j<(s.2.2.getD []).length->easyCh (ch (s.2.2.getD []) j)
instance (s:DSt):Decidable (easyS s):=by unfold easyS;infer_instance
def plainM (m:DMo):Prop:=(∀ i,i<(m.getD []).length->easyS (stt (m.getD []) i))/\(m.getD []).length<=8
instance (m:DMo):Decidable (plainM m):=by unfold plainM;infer_instance
end Go.Proofs.Pf.B
namespace Go.Proofs.Pf.B
open Go Go.VM
def fewSt (s:DSt):Prop:=(s.2.2.getD []).length<=10/\∀ j,j<(s.2.2.getD []).length->((ch (s.2.2.getD []) j).2.getD []).length<=10
def fewOk (m:DMo):Prop:=(m.getD []).length<=45/\∀ i,i<(m.getD []).length->fewSt (stt (m.getD []) i)
def chEq (c d:DCh):Prop:=c.1=d.1/\c.2.getD []=d.2.getD []
instance (c d:DCh):Decidable (chEq c d):=by unfold chEq;infer_instance
def stEq (s t:DSt):Prop:=s.1=t.1/\s.2.1=t.2.1/\(s.2.2.getD []).length=(t.2.2.getD []).length/\∀ j,j<(s.2.2.getD []).length->chEq (ch (s.2.2.getD []) j) (ch (t.2.2.getD []) j)
instance (s t:DSt):Decidable (stEq s t):=by unfold stEq;infer_instance
def moEq (a b:DMo):Prop:=(a.getD []).length=(b.getD []).length/\∀ i,i<(a.getD []).length->stEq (stt (a.getD []) i) (stt (b.getD []) i)
instance (a b:DMo):Decidable (moEq a b):=by unfold moEq;infer_instance
theorem num_eq (x y:Int×Int):andB (decide (x.1=y.1)) (andB (decide (x.2=y.2)) true)=decide (x=y):=by
 obtain⟨a,b⟩:=x;obtain⟨c,d⟩:=y
 by_cases h:a=c<;>by_cases g:b=d<;>simp[andB,h,g]
theorem br_eq (x y:DBr):andB (decide (x.1=y.1)) (andB (andB (decide (x.2.1=y.2.1)) (andB (decide (x.2.2=y.2.2)) true)) true)=decide (x=y):=by
 rw[num_eq]
 obtain⟨a,b⟩:=x;obtain⟨c,d⟩:=y
 by_cases h:a=c<;>by_cases g:b=d<;>simp[andB,h,g]
theorem list_eq {l r:List DBr} (hl:l.length=r.length) (h:∀ k,k<l.length->br l k=br r k):l=r:=by
 apply List.ext_getElem hl
 intro i h1 h2
 have:=h i h1
 simpa[br,List.getD,h1,h2] using this
end Go.Proofs.Pf.B
namespace Go.Proofs.Pf.B
open Go Go.VM
theorem outs_len (f:Nat->Rat) (n:Nat):((outsQ f n).1.getD []).length<=n:=by
 unfold outsQ
 split
 . rw[q07,tab_len];omega
 . exact Nat.zero_le _
theorem now_len (m:DMo) (d:List (Int×Int)) (v:List Int):((nowQ m d v).1.getD []).length<=200:=by
 unfold nowQ
 split
 . rename_i h
   obtain⟨h1,_⟩:=q0K h
   have:=h1.1.2
   unfold givenQ
   split
   . exact Nat.zero_le _
   . exact Nat.le_trans (outs_len _ _) (by omega)
 . exact Nat.zero_le _
theorem q7h (m:DMo) (d:List (Int×Int)) (v:List Int):((nextQ m d v).1.getD []).length<=200:=by
 unfold nextQ
 split
 . unfold givenQ
   split
   . exact Nat.zero_le _
   . exact Nat.le_trans (outs_len _ _) (by omega)
 . exact Nat.zero_le _
end Go.Proofs.Pf.B
namespace Go.Proofs.Pf.B
open Go Go.VM
theorem q6b {α:Type} {c:Option (List α)} {j:Nat} {v:α}:((setO c j v).getD []).length=(c.getD []).length:=by cases c<;>simp[setO]
theorem s_added {a b:Option (List DR)} {z:DR} {x y:Nat->Rat} {q:Rat} {n k:Nat} (ha:RL a x n) (hz:RV z q) (hb:RL b y n) (hn:n<=100000)
 (f1:∀ i,i<n->Pf.RFit k (x i)) (f2:Pf.RFit k q) (f3:∀ i,i<n->Pf.RFit k (y i)) (f4:∀ i,i<n->Pf.RFit k (q*y i)) (hk:k+k+1<=1073741824):
 callV Pg q3P [⟨(.sl tER),a⟩,⟨tER,z⟩,⟨(.sl tER),b⟩] (.sl tER) fun r=>RL r (fun i=>x i+q*y i) n:=by
 have e1:szSl a=(n:Int):=by show ((a.getD []).length:Int)=n;rw[ha.1]
 refine qbZ a z b (RL.ex _ _) ⟨?_,?_⟩
 . rw[e1]
   show 0<=(n:Int)/\(n:Int)<=n/\(n:Int)*64<=281474976710656
   omega
 rw[e1]
 refine rangeB (n:=n) (fun i o=>(a,(b,((n:Int),((i:Int),(z,o)))))) (fun i o=>RL o (fun j=>if j<i then x j+q*y j else 0) n) (some (repS (n:Int) r0)) rfl ((RL.zero n).congr fun j _=>if_neg (by omega)) (fun p=>p.2.2.2.1.toNat) (fun _ _=>rfl) (fun _ _ _=>rfl) ?_ ?_
 . intro k0 i o hi ho hk0
   try dsimp only
   refine⟨in_s (by rw[ha.1];exact hi),in_s (by rw[ho.1];exact hi),in_s (by rw[hb.1];exact hi),?_⟩
   simp only[q05]
   refine (q0x (hb.2 i hi)).mono ?_
   rintro _ rfl
   have nx:∀ w v,RV v (x i+q*y i)->RL w (fun j=>if j<i then x j+q*y j else 0) n∨RL w (fun j=>if j<i then x j+q*y j else if j=i then x i else 0) n->RL (setO w i v) (fun j=>if j<i+1 then x j+q*y j else 0) n:=by
    intro w v hv hw
    rcases hw with hw | hw
    . refine hw.set hi (by rw[if_pos (by omega)];exact hv) fun j _ hj=>?_
      try dsimp only
      by_cases h:j<i
      . rw[if_pos h,if_pos (by omega)]
      . rw[if_neg h,if_neg (by omega)]
    . refine hw.set hi (by rw[if_pos (by omega)];exact hv) fun j _ hj=>?_
      try dsimp only
      by_cases h:j<i
      . rw[if_pos h,if_pos (by omega)]
      . rw[if_neg h,if_neg (by omega),if_neg hj]
   refine joinE (br_c (fun hc=>?_) fun hc=>?_)
   . refine⟨in_s (by rw[ha.1];exact hi),in_s (by rw[hb.1];exact hi),?_⟩
     refine (q1S longS hz (hb.2 i hi) f2 (f3 i hi) (by omega)).mono fun v hv=>(q1r longS (ha.2 i hi) hv (f1 i hi) (f4 i hi) hk).mono fun u hu=>⟨in_s (by rw[q6b,ho.1];exact hi),?_⟩
     try dsimp only
     rw[wi1 hi (by omega),show toN (i:Int)=i from Int.toNat_natCast i]
     refine hk0 _ (nx _ _ hu (.inr (ho.set hi (by rw[if_neg (by omega),if_pos rfl];exact ha.2 i hi) fun j _ hj=>?_)))
     try dsimp only
     by_cases h:j<i
     . rw[if_pos h,if_pos h]
     . rw[if_neg h,if_neg h,if_neg hj]
   . have h0:y i=0:=by
      refine rv_zero (hb.2 i hi) ?_
      have hc:decide (sgn (y i).num=0)=true:=by simpa[notB] using hc
      exact dec_t hc
     try dsimp only
     rw[wi1 hi (by omega),show toN (i:Int)=i from Int.toNat_natCast i]
     refine hk0 _ (nx _ _ ?_ (.inl ho))
     rw[h0,Rat.mul_zero,Rat.add_zero]
     exact ha.2 i hi
 . intro _ o ho
   exact ho.congr fun j hj=>by rw[if_pos hj]
theorem s_scaled {a:Option (List DR)} {z:DR} {x:Nat->Rat} {q:Rat} {n k:Nat} (ha:RL a x n) (hz:RV z q) (hn:n<=100000)
 (f2:Pf.RFit k q) (f3:∀ i,i<n->Pf.RFit k (x i)) (f4:∀ i,i<n->Pf.RFit k (q*x i)) (h1:1<=k) (hk:k+k+1<=1073741824):
 callV Pg q4S [⟨(.sl tER),a⟩,⟨tER,z⟩] (.sl tER) fun r=>RL r (fun i=>q*x i) n:=by
 have e1:szSl a=(n:Int):=by show ((a.getD []).length:Int)=n;rw[ha.1]
 refine qc1 a z (RL.ex _ _) ⟨?_,?_⟩
 . rw[e1]
   show 0<=(n:Int)/\(n:Int)<=n/\(n:Int)*64<=281474976710656
   omega
 rw[e1]
 refine (s_added (RL.zero n) hz ha hn (fun i _=>?_) f2 f3 f4 hk).mono fun r hr=>hr.congr fun j _=>by rw[Rat.zero_add]
 exact (FB.fit (n:=1) (e:=0) (x:=fun _=>0) ⟨1,by decide,by decide,fun s _=>QD.zero _ _⟩ (s:=0) (by decide)).1.mono (by omega)
theorem FB.scale {n e c:Nat} {x:Nat->Rat} (h:FB n e x) (hc:c<n) (h0:x c≠0):FB n e (fun j=>1 / x c*x j)/\Pf.RFit (2*e+1) (1 / x c):=by
 obtain⟨D,h1,h2,h3⟩:=h
 obtain⟨p,p1,p2⟩:=h3 c hc
 have hD:((D:Int):Rat)≠0:=by
  intro e
  rw[<-Rat.intCast_zero,Rat.intCast_inj] at e
  omega
 have hp:p≠0:=by
  rintro rfl
  rw[Rat.intCast_zero,Rat.mul_eq_zero] at p1
  rcases p1 with h | h
  . exact h0 h
  . exact hD h
 have hpq:((p:Int):Rat)≠0:=by
  intro e
  rw[<-Rat.intCast_zero,Rat.intCast_inj] at e
  exact hp e
 have key:∀ q:Rat,∀ m:Int,q*((D:Int):Rat)=(m:Rat)->m.natAbs<=KK ^ e->QD p.natAbs (KK ^ e) (1 / x c*q):=by
  intro q m hm hb
  have e1:1 / x c*q*(p:Rat)=(m:Rat):=by
   rw[<-p1,<-hm,Rat.div_def,Rat.one_mul]
   have:=Rat.inv_mul_cancel _ h0
   grind
  rcases Int.natAbs_eq p with hs | hs
  . exact⟨m,by rw[<-hs];exact e1,hb⟩
  . refine⟨-m,?_,by omega⟩
    have e2:((p.natAbs:Int):Rat) = -((p:Int):Rat):=by rw[<-Rat.intCast_neg];congr 1;omega
    rw[e2,Rat.mul_neg,e1,Rat.intCast_neg]
 have hpp:0<p.natAbs:=by omega
 have hq1:=key 1 D (by rw[Rat.one_mul]) (by omega)
 rw[Rat.mul_one] at hq1
 refine⟨⟨p.natAbs,hpp,p2,fun s hs=>?_⟩,(hq1.fit hpp (kk_lt p2) (kk_lt (Nat.le_refl _))).1⟩
 obtain⟨m,m1,m2⟩:=h3 s hs
 exact key _ m m1 m2
theorem FB.elim {n e:Nat} {x y:Nat->Rat} {c:Nat} (hx:FB n e x) (hy:FB n e y) (hc:c<n):FB n (2*e+1) (fun j=>x j + -(x c)*y j)/\∀ j,j<n->Pf.RFit (2*(2*e+1)+1) (-(x c)*y j):=by
 obtain⟨D,h1,h2,h3⟩:=hx
 obtain⟨E,g1,g2,g3⟩:=hy
 have hb:KK ^ (2*e+1)=KK ^ e*KK ^ e*KK:=by rw[Nat.pow_succ,show 2*e=e+e by omega,Nat.pow_add]
 have hdb:D*E<=KK ^ (2*e+1):=Nat.le_trans (kk_mul h2 g2) (kk_le (by omega))
 have hpr:∀ j,j<n->QD (D*E) (KK ^ e*KK ^ e) (-(x c)*y j):=fun j hj=>(h3 c hc).neg.mul (g3 j hj)
 refine⟨⟨D*E,Nat.mul_pos h1 g1,hdb,fun j hj=>?_⟩,fun j hj=>?_⟩
 . have:=((h3 j hj).scale E).add (hpr j hj)
   refine this.mono ?_
   rw[hb]
   have:KK ^ e*E<=KK ^ e*KK ^ e:=Nat.mul_le_mul_left _ g2
   have:KK ^ e*KK ^ e*2<=KK ^ e*KK ^ e*KK:=Nat.mul_le_mul_left _ (by decide)
   omega
 . refine ((hpr j hj).fit (Nat.mul_pos h1 g1) (kk_lt hdb) (kk_lt ?_)).1
   rw[hb]
   exact Nat.le_mul_of_pos_right _ (by decide)
end Go.Proofs.Pf.B
namespace Go.Proofs.Pf.B
open Go Go.VM
abbrev Mat:=Nat->Nat->Rat
def dtQ (a x:Nat->Rat) (w:Nat):Rat:=sumQ (fun j=>a j*x j) w
def Sol (M:Mat) (r w:Nat) (x:Nat->Rat):Prop:=∀ k,k<r->dtQ (M k) x w=0
theorem dot_lin (a b x:Nat->Rat) (c:Rat) (w:Nat):dtQ (fun j=>a j+c*b j) x w=dtQ a x w+c*dtQ b x w:=by
 unfold dtQ
 rw[Rat.mul_comm c,<-q0k,<-q0T]
 refine q04 w fun j _=>?_
 grind
theorem dot_mul (a x:Nat->Rat) (c:Rat) (w:Nat):dtQ (fun j=>c*a j) x w=c*dtQ a x w:=by
 unfold dtQ
 rw[Rat.mul_comm c,<-q0k]
 refine q04 w fun j _=>?_
 grind
theorem q1H {a b x y:Nat->Rat} (w:Nat) (h:∀ j,j<w->a j=b j) (g:∀ j,j<w->x j=y j):dtQ a x w=dtQ b y w:=q04 w fun j hj=>by rw[h j hj,g j hj]
def swapM (M:Mat) (i r:Nat):Mat:=fun k=>if k=i then M r else if k=r then M i else M k
def elimM (M:Mat) (r c:Nat):Mat:=fun k=>if k=r then fun j=>1 / M r c*M r j else fun j=>M k j + -(M k c)*(1 / M r c*M r j)
theorem sol_swap {M:Mat} {i r n w:Nat} (hi:i<n) (hr:r<n) (x:Nat->Rat):Sol (swapM M i r) n w x↔Sol M n w x:=by
 constructor
 . intro h k hk
   by_cases e:k=i
   . subst e
     by_cases e2:r=k
     . have:=h k hk
       rw[swapM,if_pos rfl,e2] at this;exact this
     . have:=h r hr
       rw[swapM,if_neg e2,if_pos rfl] at this;exact this
   . by_cases e2:k=r
     . subst e2
       have:=h i hi
       rw[swapM,if_pos rfl] at this;exact this
     . have:=h k hk
       rw[swapM,if_neg e,if_neg e2] at this;exact this
 . intro h k hk
   unfold swapM
   split
   . exact h r hr
   . split
     . exact h i hi
     . exact h k hk
theorem rat_inv_ne {q:Rat} (h:q≠0):1 / q≠0:=by
 intro e
 have:=Rat.inv_mul_cancel _ h
 rw[Rat.div_def,Rat.one_mul] at e
 rw[e,Rat.zero_mul] at this
 exact absurd this (by decide)
theorem qaH {q:Rat} (h:q≠0):1 / q*q=1:=by rw[Rat.div_def,Rat.one_mul];exact Rat.inv_mul_cancel _ h
theorem sol_elim {M:Mat} {r c n w:Nat} (hr:r<n) (h0:M r c≠0) (x:Nat->Rat):Sol (elimM M r c) n w x↔Sol M n w x:=by
 have er:dtQ (elimM M r c r) x w=1 / M r c*dtQ (M r) x w:=by rw[elimM,if_pos rfl,dot_mul]
 have ek:∀ k,k≠r->dtQ (elimM M r c k) x w=dtQ (M k) x w + -(M k c)*(1 / M r c*dtQ (M r) x w):=fun k hk=>by
  rw[elimM,if_neg hk,dot_lin (M k) (fun j=>1 / M r c*M r j),dot_mul]
 constructor
 . intro h
   have h1:dtQ (M r) x w=0:=by
    have:=h r hr
    rw[er,Rat.mul_eq_zero] at this
    exact this.resolve_left (rat_inv_ne h0)
   intro k hk
   by_cases e:k=r
   . subst e;exact h1
   . have:=h k hk
     rw[ek k e,h1,Rat.mul_zero,Rat.mul_zero,Rat.add_zero] at this
     exact this
 . intro h k hk
   have h1:dtQ (M r) x w=0:=h r hr
   by_cases e:k=r
   . subst e;rw[er,h1,Rat.mul_zero]
   . rw[ek k e,h1,Rat.mul_zero,Rat.mul_zero,Rat.add_zero];exact h k hk
structure Red (A M:Mat) (r w c nl:Nat) (ld:Nat->Nat):Prop where
 le:nl<=r
 ldc:∀ i,i<nl->ld i<c
 inc:∀ i j,i<j->j<nl->ld i<ld j
 one:∀ i,i<nl->M i (ld i)=1
 zer:∀ i,i<nl->∀ k,k<r->k≠i->M k (ld i)=0
 low:∀ k,nl<=k->k<r->∀ j,j<c->M k j=0
 sol:∀ x,Sol M r w x↔Sol A r w x
theorem Red.start (A:Mat) (r w:Nat) (ld:Nat->Nat):Red A A r w 0 0 ld:=
 ⟨by omega,fun i hi=>absurd hi (by omega),fun i j _ hj=>absurd hj (by omega),fun i hi=>absurd hi (by omega),fun i hi=>absurd hi (by omega),fun k _ _ j hj=>absurd hj (by omega),fun x=>Iff.rfl⟩
theorem Red.congr {A M N:Mat} {r w c nl:Nat} {ld:Nat->Nat} (h:Red A M r w c nl ld) (e:∀ k,k<r->∀ j,j<w->N k j=M k j) (hc:c<=w):Red A N r w c nl ld:=by
 refine⟨h.le,h.ldc,h.inc,fun i hi=>?_,fun i hi k hk hki=>?_,fun k h1 h2 j hj=>?_,fun x=>?_⟩
 . rw[e i (by have:=h.le;omega) _ (by have:=h.ldc i hi;omega)];exact h.one i hi
 . rw[e k hk _ (by have:=h.ldc i hi;omega)];exact h.zer i hi k hk hki
 . rw[e k h2 j (by omega)];exact h.low k h1 h2 j hj
 . rw[<-h.sol x]
   constructor
   . intro g k hk;rw[<-g k hk];exact q1H w (fun j hj=>(e k hk j hj).symm) fun _ _=>rfl
   . intro g k hk;rw[<-g k hk];exact q1H w (fun j hj=>e k hk j hj) fun _ _=>rfl
theorem Red.skip {A M:Mat} {r w c nl:Nat} {ld:Nat->Nat} (h:Red A M r w c nl ld) (h0:∀ k,nl<=k->k<r->M k c=0):Red A M r w (c+1) nl ld:=by
 refine⟨h.le,fun i hi=>by have:=h.ldc i hi;omega,h.inc,h.one,h.zer,fun k h1 h2 j hj=>?_,h.sol⟩
 by_cases e:j=c
 . subst e;exact h0 k h1 h2
 . exact h.low k h1 h2 j (by omega)
theorem Red.swap {A M:Mat} {r w c nl i:Nat} {ld:Nat->Nat} (h:Red A M r w c nl ld) (h1:nl<=i) (h2:i<r):Red A (swapM M i nl) r w c nl ld:=by
 have hn:nl<r:=by omega
 refine⟨h.le,h.ldc,h.inc,fun t ht=>?_,fun t ht k hk hkt=>?_,fun k g1 g2 j hj=>?_,fun x=>(sol_swap h2 hn x).trans (h.sol x)⟩
 . unfold swapM;rw[if_neg (by omega),if_neg (by omega)];exact h.one t ht
 . unfold swapM
   split
   . exact h.zer t ht nl hn (by omega)
   . split
     . exact h.zer t ht i h2 (by omega)
     . exact h.zer t ht k hk hkt
 . unfold swapM
   split
   . exact h.low nl (by omega) hn j hj
   . split
     . exact h.low i h1 h2 j hj
     . exact h.low k g1 g2 j hj
theorem Red.elim {A M:Mat} {r w c nl:Nat} {ld:Nat->Nat} (h:Red A M r w c nl ld) (hn:nl<r) (h0:M nl c≠0):Red A (elimM M nl c) r w (c+1) (nl+1) (fun i=>if i=nl then c else ld i):=by
 have s1:1 / M nl c*M nl c=1:=qaH h0
 have self:∀ j,elimM M nl c nl j=1 / M nl c*M nl j:=fun j=>by rw[elimM,if_pos rfl]
 have oth:∀ k j,k≠nl->elimM M nl c k j=M k j + -(M k c)*(1 / M nl c*M nl j):=fun k j hk=>by rw[elimM,if_neg hk]
 refine⟨by omega,fun i hi=>?_,fun i j hij hj=>?_,fun i hi=>?_,fun i hi k hk hki=>?_,fun k g1 g2 j hj=>?_,fun x=>(sol_elim hn h0 x).trans (h.sol x)⟩
 . try dsimp only
   split
   . omega
   . have:=h.ldc i (by omega);omega
 . try dsimp only
   rw[if_neg (show i≠nl by omega)]
   by_cases e:j=nl
   . rw[if_pos e];exact h.ldc i (by omega)
   . rw[if_neg e];exact h.inc i j hij (by omega)
 . try dsimp only
   by_cases e:i=nl
   . subst e;rw[if_pos rfl,self,s1]
   . rw[if_neg e,oth i _ e,h.zer i (by omega) nl hn (by omega),Rat.mul_zero,Rat.mul_zero,Rat.add_zero]
     exact h.one i (by omega)
 . try dsimp only
   by_cases e:i=nl
   . subst e
     rw[if_pos rfl,oth k _ hki,s1,Rat.mul_one,Rat.add_neg_cancel]
   . rw[if_neg e]
     by_cases e2:k=nl
     . subst e2
       rw[self,h.zer i (by omega) k hn (by omega),Rat.mul_zero]
     . rw[oth k _ e2,h.zer i (by omega) nl hn (by omega),Rat.mul_zero,Rat.mul_zero,Rat.add_zero]
       exact h.zer i (by omega) k hk hki
 . have e:k≠nl:=by omega
   rw[oth k _ e]
   by_cases e2:j=c
   . subst e2
     rw[s1,Rat.mul_one,Rat.add_neg_cancel]
   . rw[h.low nl (Nat.le_refl _) hn j (by omega),Rat.mul_zero,Rat.mul_zero,Rat.add_zero]
     exact h.low k (by omega) g2 j (by omega)
theorem q4n {f:Nat->Rat} {t:Nat}:∀ n,t<n->(∀ i,i<n->i≠t->f i=0)->sumQ f n=f t
 | 0,h,_=>absurd h (by omega)
 | n+1,h,g=>by
  simp only[sumQ]
  rcases Nat.lt_or_ge t n with h1 | h1
  . rw[q4n n h1 fun i hi=>g i (by omega),g n (by omega) (by omega),Rat.add_zero]
  . obtain rfl:t=n:=by omega
    rw[q04 (g:=fun _=>0) t fun i hi=>g i (by omega) (by omega),q0U,Rat.zero_add]
theorem sum_zero' {f:Nat->Rat} (n:Nat) (h:∀ i,i<n->f i=0):sumQ f n=0:=by rw[q04 (g:=fun _=>0) n h,q0U]
theorem Red.none {A M:Mat} {r n nl:Nat} {ld:Nat->Nat} (h:Red A M r (n+1) n nl ld) {k:Nat} (h1:nl<=k) (h2:k<r) (h0:M k n≠0) (x:Nat->Rat) (hx:x n = -1):¬ Sol A r (n+1) x:=by
 intro g
 have:=(h.sol x).2 g k h2
 unfold dtQ at this
 rw[q4n (t:=n) (n+1) (by omega) fun i hi hne=>by rw[h.low k h1 h2 i (by omega),Rat.zero_mul],hx,Rat.mul_neg,Rat.mul_one] at this
 exact h0 (by rw[<-Rat.neg_neg (M k n),this];rfl)
theorem Red.some {A M:Mat} {r n nl:Nat} {ld:Nat->Nat} (h:Red A M r (n+1) n nl ld) (h0:∀ k,nl<=k->k<r->M k n=0) (x:Nat->Rat) (hx:x n = -1) (h1:∀ i,i<nl->x (ld i)=M i n) (h2:∀ j,j<n->(∀ i,i<nl->j≠ld i)->x j=0):Sol A r (n+1) x:=by
 refine (h.sol x).1 fun k hk=>?_
 unfold dtQ
 rcases Nat.lt_or_ge k nl with hlt | hge
 . show sumQ _ n+M k n*x n=0
   rw[q4n (t:=ld k) n (h.ldc k hlt) fun j hj hne=>?_,h.one k hlt,Rat.one_mul,h1 k hlt,hx,Rat.mul_neg,Rat.mul_one,Rat.add_neg_cancel]
   by_cases g:∃ i,i<nl/\j=ld i
   . obtain⟨i,hi,rfl⟩:=g
     rw[h.zer i hi k hk (by rintro rfl;exact hne rfl),Rat.zero_mul]
   . rw[h2 j hj fun i hi e=>g ⟨i,hi,e⟩,Rat.mul_zero]
 . refine sum_zero' _ fun j hj=>?_
   by_cases e:j=n
   . subst e;rw[h0 k hge hk,Rat.zero_mul]
   . rw[h.low k hge hk j (by omega),Rat.zero_mul]
end Go.Proofs.Pf.B
namespace Go.Proofs.Pf.B
open Go Go.VM
theorem Red.ex (A:Mat) (r w:Nat):∀ c,∃ M nl ld,Red A M r w c nl ld
 | 0=>⟨A,0,fun _=>0,Red.start A r w _⟩
 | c+1=>by
  obtain⟨M,nl,ld,h⟩:=Red.ex A r w c
  by_cases g:∃ i,nl<=i/\i<r/\M i c≠0
  . obtain⟨i,h1,h2,h3⟩:=g
    refine⟨_,_,_,(h.swap h1 h2).elim (by omega) ?_⟩
    unfold swapM
    by_cases e:nl=i
    . subst e;rw[if_pos rfl];exact h3
    . rw[if_neg e,if_pos rfl];exact h3
  . refine⟨M,nl,ld,h.skip fun k h1 h2=>?_⟩
    by_cases e:M k c=0
    . exact e
    . exact absurd ⟨k,h1,h2,e⟩ g
theorem RLL.set {p:Option (List (Option (List DR)))} {f g:Mat} {k n i:Nat} {z:Option (List DR)} (h:RLL p f k n) (hi:i<k) (hz:RL z (g i) n) (hg:∀ j,j<k->j≠i->∀ t,t<n->g j t=f j t):RLL (setO p i z) g k n:=by
 obtain⟨h1,h2⟩:=h
 cases p with
 | none=>simp at h1;omega
 | some l=>
  have h1:l.length=k:=h1
  have h2:∀ i,i<k->RL (l.getD i none) (f i) n:=h2
  refine⟨by show (l.set i z).length=k;simpa using h1,fun j hj=>?_⟩
  show RL ((l.set i z).getD j none) (g j) n
  by_cases e:j=i
  . subst e
    rw[List.getD_eq_getElem?_getD,List.getElem?_set_self (by omega)];exact hz
  . rw[List.getD_eq_getElem?_getD,List.getElem?_set_ne (fun h=>e h.symm),<-List.getD_eq_getElem?_getD]
    exact (h2 j hj).congr fun t ht=>hg j hj e t ht
theorem RLL.congr {p:Option (List (Option (List DR)))} {f g:Mat} {k n:Nat} (h:RLL p f k n) (hg:∀ j,j<k->∀ t,t<n->g j t=f j t):RLL p g k n:=⟨h.1,fun i hi=>(h.2 i hi).congr fun t ht=>hg i hi t ht⟩
theorem RLL.at {p:Option (List (Option (List DR)))} {f:Mat} {k n i:Nat} (h:RLL p f k n) (hi:i<k):RL (eltN none p (toN (i:Int))) (f i) n:=by
 simp only[eltN,toN,Int.toNat_natCast];exact h.2 i hi
def growE (e:Nat):Nat->Nat
 | 0=>e
 | c+1=>2*growE e c+1
theorem qat (e:Nat):∀ {a b:Nat},a<=b->growE e a<=growE e b:=by
 intro a b h
 induction b with
 | zero=>have:a=0:=by omega
         subst this;exact Nat.le_refl _
 | succ b ih=>
  rcases Nat.lt_or_ge a (b+1) with g | g
  . have:=ih (by omega);simp only[growE];omega
  . have:a=b+1:=by omega
    subst this;exact Nat.le_refl _
def QB (e:Nat) (q:Rat):Prop:=q.num.natAbs<=KK ^ e/\q.den<=KK ^ e
theorem QB.fit {e:Nat} {q:Rat} (h:QB e q):Pf.RFit (2*e+1) q:=by
 have e2:((4294967296:Int) ^ (2*e+1))=((4294967296 ^ (2*e+1):Nat):Int):=by simp
 have hp:1073741824 ^ (2*e+1)<=4294967296 ^ (2*e+1):=Nat.pow_le_pow_left (by decide) _
 have h1:=kk_lt h.1
 have h2:=kk_lt h.2
 have hd:=q.den_pos
 constructor
 . unfold Pf.Fit;rw[e2];omega
 . unfold Pf.Fit;rw[e2];omega
theorem QB.mono {e f:Nat} {q:Rat} (h:QB e q) (hf:e<=f):QB f q:=⟨Nat.le_trans h.1 (kk_le hf),Nat.le_trans h.2 (kk_le hf)⟩
theorem QB.qd {e:Nat} {q:Rat} (h:QB e q):∃ D,0<D/\D<=KK ^ e/\QD D (KK ^ e) q:=by
 refine⟨q.den,q.den_pos,h.2,q.num,?_,h.1⟩
 have hd:(((q.den):Int):Rat)≠0:=by
  intro e
  rw[<-Rat.intCast_zero,Rat.intCast_inj] at e
  have:=q.den_pos
  omega
 conv=>lhs;lhs;rw[q5F q]
 rw[Rat.div_def,Rat.mul_assoc,Rat.inv_mul_cancel _ hd,Rat.mul_one]
theorem QB.of {e D:Nat} {q:Rat} (h0:0<D) (h:QD D (KK ^ e) q) (hD:D<=KK ^ e):QB e q:=by
 obtain⟨h1,h2⟩:=h.div h0
 exact⟨h1,Nat.le_trans h2 hD⟩
theorem QB.neg {e:Nat} {q:Rat} (h:QB e q):QB e (-q):=by
 obtain⟨D,h1,h2,h3⟩:=h.qd
 exact QB.of h1 h3.neg h2
theorem QB.mul {a b:Nat} {q r:Rat} (h:QB a q) (g:QB b r):QB (a+b) (q*r):=by
 obtain⟨D,h1,h2,h3⟩:=h.qd
 obtain⟨E,g1,g2,g3⟩:=g.qd
 exact QB.of (Nat.mul_pos h1 g1) ((h3.mul g3).mono (kk_mul (Nat.le_refl _) (Nat.le_refl _))) (kk_mul h2 g2)
theorem FB.qb {n e:Nat} {x:Nat->Rat} (h:FB n e x) {s:Nat} (hs:s<n):QB e (x s):=by
 obtain⟨D,h1,h2,h3⟩:=h
 exact QB.of h1 (h3 s hs) h2
theorem QB.one (e:Nat):QB e 1:=⟨kk_pos e,kk_pos e⟩
theorem s_Clone2 {a:Option (List (Option (List DR)))} {A:Mat} {r w:Nat} (ha:RLL a A r w) (hr:r<=100000):ownV Pg q55 [⟨(.sl (.sl tER)),a⟩] (.sl tER) fun p=>RLL p A r w:=by
 refine qcn a (RLL.ex _ _ _) (br_c (fun h=>?_) fun h=>⟨?_,?_⟩)
 . cases a with
   | none=>exact ha
   | some l=>cases h
 . cases a with
   | none=>cases h
   | some l=>
    have h1:l.length=r:=ha.1
    show (0+l.length)*24<=140737488355328
    omega
 . cases a with
   | none=>cases h
   | some l=>exact ha
theorem s_Clone1 {a:Option (List DR)} {x:Nat->Rat} {n:Nat} (ha:RL a x n) (hn:n<=100000):ownV Pg q54 [⟨(.sl tER),a⟩] tER fun p=>RL p x n:=by
 refine qcm a (RL.ex _ _) (br_c (fun h=>?_) fun h=>⟨?_,?_⟩)
 . cases a with
   | none=>exact ha
   | some l=>cases h
 . cases a with
   | none=>cases h
   | some l=>
    have h1:l.length=n:=ha.1
    show (0+l.length)*64<=140737488355328
    omega
 . cases a with
   | none=>cases h
   | some l=>exact ha
structure RedI (A:Mat) (r w e i:Nat) (s:DR×(DR×((Option (List (Option (List DR))))×DL))) (M:Mat) (nl:Nat) (ld:Nat->Nat) (q:Rat):Prop where
 red:Red A M r w i nl ld
 out:RLL s.2.2.1 M r w
 lds:s.2.2.2=optL (tab (fun i=>(ld i:Int)) nl)
 fb:∀ k,k<r->FB w (growE e i) (M k)
 det:RV s.2.1 q
 qb:QB (growE e i) q
theorem s_reduced {a:Option (List (Option (List DR)))} {A:Mat} {r w e c:Nat} (ha:RLL a A r w) (hr:r<=1000) (hw:w<=1000) (hc:c<=w) (hb:∀ k,k<r->FB w e (A k)) (he:growE e c<=50000000):
 callV Pg q4R [⟨(.sl (.sl tER)),a⟩,⟨tI,(c:Int)⟩] (.tup (.pair (.sl (.sl tER)) (.pair tL (.pair tER .unit)))) fun res=>∃ M nl ld,Red A M r w c nl ld/\RLL res.1 M r w/\res.2.1=optL (tab (fun i=>(ld i:Int)) nl):=by
 refine qc0 a (c:Int) ?_ ((s_Clone2 ha (by omega)).mono fun p0 hp0=>(q4f (n:=1) (by decide) (by decide)).mono fun p1 hp1=>?_)
 . obtain⟨M,nl,ld,h⟩:=Red.ex A r w c
   obtain⟨p,hp⟩:=RLL.ex M r w
   exact⟨(p,(_,(r0,()))),M,nl,ld,h,hp,rfl⟩
 refine rangeB (n:=c) (fun i (s:DR×(DR×((Option (List (Option (List DR))))×DL)))=>((c:Int),((i:Int),s))) (fun i s=>∃ M nl ld q,RedI A r w e i s M nl ld q) (r0,(p1,(p0,none))) rfl ⟨A,0,fun _=>0,1,Red.start A r w _,hp0,rfl,hb,hp1,QB.one _⟩ (fun p=>p.2.1.toNat) (fun _ _=>rfl) (fun _ _ _=>rfl) ?_ ?_
 . rintro k2 i ⟨pz,det,out,leads⟩ hi ⟨M,nl,ld,q,hI⟩ hk2
   have hge:growE e (i+1)<=growE e c:=qat e hi
   have hgs:growE e (i+1)=2*growE e i+1:=rfl
   have hl:leads=optL (tab (fun i=>(ld i:Int)) nl):=hI.lds
   have hout:RLL out M r w:=hI.out
   have hdet:RV det q:=hI.det
   have hnl:=hI.red.le
   have esz:szSl leads=(nl:Int):=by show ((leads.getD []).length:Int)=nl;rw[hl,q07,tab_len]
   have eout:∀ {o:Option (List (Option (List DR)))} {N:Mat},RLL o N r w->szSl o=(r:Int):=fun h=>by show (((Option.getD _ []).length:Nat):Int)=r;rw[h.1]
   refine joinR (fun p4=>∃ s',p4=((c:Int),((i:Int),s'))/\∃ M nl ld q,RedI A r w e (i+1) s' M nl ld q) ?_ ?_
   . rintro _ ⟨s',rfl,h'⟩
     dsimp only
     rw[wi1 hi (by omega)]
     exact hk2 s' h'
   intro k4 hk4
   have fin:∀ s' M nl ld q,RedI A r w e (i+1) s' M nl ld q->k4 ((c:Int),((i:Int),s')):=fun s' M nl ld q h=>hk4 _ ⟨s',rfl,M,nl,ld,q,h⟩
   clear hk4 hk2
   rw[esz]
   refine loopE (fun s=>∃ t:Nat,s=((i:Int),((nl:Int),((t:Int),((c:Int),((i:Int),(pz,(det,(out,leads))))))))/\nl<=t/\t<=r/\∀ k,nl<=k->k<t->M k i=0) (fun s=>r - s.2.2.1.toNat) ⟨nl,rfl,Nat.le_refl _,hnl,fun k h1 h2=>by omega⟩ ?_
   rintro _ ⟨t,rfl,ht1,ht2,ht3⟩
   refine joinR (fun s=>∃ b:Bool,s=((i:Int),((nl:Int),((t:Int),((c:Int),((i:Int),(b,(pz,(det,(out,leads)))))))))/\(b=true->t<r/\M t i=0)/\(b=false->t<r->M t i≠0)) ?_ ?_
   . rintro _ ⟨b,rfl,hb1,hb2⟩
     dsimp only
     refine br_c (fun h=>?_) fun h=>?_
     . obtain⟨g1,g2⟩:=hb1 h
       rw[wi1 g1 (by omega)]
       refine⟨⟨t+1,rfl,by omega,by omega,fun k h1 h2=>?_⟩,?_⟩
       . by_cases e:k=t
         . subst e;exact g2
         . exact ht3 k h1 (by omega)
       . show r - (((t+1:Nat):Int)).toNat<r - ((t:Int)).toNat
         omega
     . have hb2:=hb2 h
       rw[eout hout]
       refine br_c (fun h=>?_) fun h=>?_
       . have h:(t:Int)=(r:Int):=dec_t h
         have htr:t=r:=by omega
         refine fin (pz,(det,(out,leads))) M nl ld q ⟨hI.red.skip fun k h1 h2=>ht3 k h1 (by omega),hout,hl,fun k hk=>(hI.fb k hk).mono (by omega),hdet,hI.qb.mono (by omega)⟩
       . have h:¬ (t:Int)=(r:Int):=dec_f h
         have htr:t<r:=by omega
         have hne:M t i≠0:=hb2 htr
         have hnr:nl<r:=by omega
         have hsr:Red A (swapM M t nl) r w i nl ld:=hI.red.swap ht1 htr
         have hne':swapM M t nl nl i≠0:=by
          unfold swapM
          by_cases e:nl=t
          . subst e;rw[if_pos rfl];exact hne
          . rw[if_neg e,if_pos rfl];exact hne
         have hfb':∀ k,k<r->FB w (growE e i) (swapM M t nl k):=by
          intro k hk
          unfold swapM
          split
          . exact hI.fb nl hnr
          . split
            . exact hI.fb t htr
            . exact hI.fb k hk
         refine joinR (fun s=>∃ det' out' q',s=((i:Int),((nl:Int),((c:Int),((i:Int),(pz,(det',(out',leads)))))))/\RLL out' (swapM M t nl) r w/\RV det' q'/\QB (growE e i) q') ?_ ?_
         . rintro _ ⟨det',out',q',rfl,hout',hdet',hq'⟩
           have hiw:i<w:=by omega
           have hrow:RL (eltN none out' (toN (nl:Int))) (swapM M t nl nl) w:=hout'.at hnr
           have hfr:=hfb' nl hnr
           obtain⟨hsc,hinv⟩:=hfr.scale hiw hne'
           dsimp only
           refine⟨in_s (by rw[hout'.1];exact hnr),in_s (by rw[hrow.1];exact hiw),?_⟩
           rw[q05]
           refine (q1S (k:=2*growE e i+1) longS hdet' (hrow.2 i hiw) hq'.fit (hfr.fit hiw).1 (by omega)).mono fun p9 hp9=>⟨in_s (by rw[hout'.1];exact hnr),(q4f (n:=1) (by decide) (by decide)).mono fun p10 hp10=>?_⟩
           have hp10:RV p10 1:=hp10
           refine (s_RDiv (k:=2*growE e i+1) longS hp10 (hrow.2 i hiw) (QB.one _).fit (hfr.fit hiw).1 (by omega) hne').mono fun p11 hp11=>?_
           refine (s_scaled (k:=2*growE e i+1) hrow hp11 (by omega) hinv (fun j hj=>(hfr.fit hj).1) (fun j hj=>(hsc.fit hj).1) (by omega) (by omega)).mono fun p12 hp12=>⟨in_s (by rw[hout'.1];exact hnr),?_⟩
           generalize hN:swapM M t nl=N at *
           have hout1:RLL (setO out' (toN (nl:Int)) p12) (fun k=>if k=nl∨k<0 then elimM N nl i k else N k) r w:=by
            refine hout'.set (i:=nl) hnr ?_ fun j _ hj s _=>by rw[if_neg (by omega)]
            rw[if_pos (.inl rfl),elimM,if_pos rfl]
            exact hp12
           rw[eout hout1]
           refine rangeB (n:=r) (fun k o=>((i:Int),((nl:Int),((c:Int),((i:Int),((r:Int),((k:Int),(pz,(p9,(o,leads)))))))))) (fun k o=>RLL o (fun t=>if t=nl∨t<k then elimM N nl i t else N t) r w) _ rfl hout1 (fun p=>p.2.2.2.2.2.1.toNat) (fun _ _=>rfl) (fun _ _ _=>rfl) ?_ ?_
           . intro k13 k o hk ho hk13
             have hok:¬ k=nl->RL (eltN none o (toN (k:Int))) (N k) w:=fun h=>by
              have:=ho.at hk
              rwa [if_neg (by omega)] at this
             have hor:RL (eltN none o (toN (nl:Int))) (fun j=>1 / N nl i*N nl j) w:=by
              have:=ho.at hnr
              rw[if_pos (.inl rfl),elimM,if_pos rfl] at this
              exact this
             refine joinR (fun s=>∃ b:Bool,s=((i:Int),((nl:Int),((k:Int),((c:Int),((i:Int),((r:Int),((k:Int),(b,(pz,(p9,(o,leads)))))))))))/\(b=true->¬ k=nl)/\(b=false->¬ k=nl->N k i=0)) ?_ ?_
             . rintro _ ⟨b,rfl,hb1,hb2⟩
               refine joinR (fun s=>∃ o',s=((i:Int),((nl:Int),((c:Int),((i:Int),((r:Int),((k:Int),(pz,(p9,(o',leads)))))))))/\RLL o' (fun t=>if t=nl∨t<k+1 then elimM N nl i t else N t) r w) ?_ ?_
               . rintro _ ⟨o',rfl,ho'⟩
                 dsimp only
                 rw[wi1 hk (by omega)]
                 exact hk13 o' ho'
               . intro k16 hk16
                 dsimp only
                 refine br_c (fun h=>?_) fun h=>?_
                 . have hkn:=hb1 h
                   have hx:=hok hkn
                   obtain⟨hel,hpr⟩:=(hfb' k hk).elim hsc hiw
                   refine⟨in_s (by rw[ho.1];exact hk),in_s (by rw[ho.1];exact hk),in_s (by rw[hx.1];exact hiw),?_⟩
                   rw[q05]
                   refine (s_RNeg (hx.2 i hiw)).mono fun p17 hp17=>⟨in_s (by rw[ho.1];exact hnr),?_⟩
                   refine (s_added (k:=2*(2*growE e i+1)+1) hx hp17 hor (by omega) (fun j hj=>((hfb' k hk).fit hj).1.mono (by omega)) (((hfb' k hk).qb hiw).neg.fit.mono (by omega)) (fun j hj=>(hsc.fit hj).1.mono (by omega)) hpr (by omega)).mono fun p18 hp18=>⟨in_s (by rw[ho.1];exact hk),?_⟩
                   refine hk16 _ ⟨_,rfl,ho.set (i:=k) hk ?_ fun j _ hj s _=>?_⟩
                   . rw[if_pos (by omega),elimM,if_neg hkn]
                     exact hp18
                   . by_cases g:j=nl∨j<k
                     . rw[if_pos g,if_pos (by omega)]
                     . rw[if_neg g,if_neg (by omega)]
                 . have h0:=hb2 h
                   refine hk16 _ ⟨o,rfl,ho.congr fun j _ s _=>?_⟩
                   by_cases g:j=nl∨j<k
                   . rw[if_pos g,if_pos (by omega)]
                   . rw[if_neg g]
                     by_cases g2:j=k
                     . subst g2
                       have h00:=h0 (by omega)
                       have ez:-(0:Rat)=0:=by decide
                       rw[if_pos (by omega),elimM,if_neg (by omega),h00,ez,Rat.zero_mul,Rat.add_zero]
                     . rw[if_neg (by omega)]
             . intro k15 hk15
               dsimp only
               refine br_c (fun h=>?_) fun h=>?_
               . have hkn:¬ k=nl:=by
                  have h:¬ (k:Int)=(nl:Int):=by simpa[notB] using h
                  omega
                 have hx:=hok hkn
                 refine⟨in_s (by rw[ho.1];exact hk),in_s (by rw[hx.1];exact hiw),?_⟩
                 rw[q05]
                 refine (q0x (hx.2 i hiw)).mono ?_
                 rintro _ rfl
                 refine hk15 _ ⟨_,rfl,fun _=>hkn,fun h _=>?_⟩
                 have h:decide (sgn (N k i).num=0)=true:=by simpa[notB] using h
                 exact rv_zero (hx.2 i hiw) (dec_t h)
               . refine hk15 _ ⟨false,rfl,fun e=>(by cases e),fun _ hkn=>?_⟩
                 have h:(k:Int)=(nl:Int):=by simpa[notB] using h
                 omega
           . intro _ o ho
             dsimp only
             refine⟨?_,fin (pz,(p9,(o,_))) (elimM N nl i) (nl+1) (fun t=>if t=nl then i else ld t) (q'*N nl i) ⟨hsr.elim hnr hne',ho.congr fun j hj s _=>by rw[if_pos (.inr hj)],?_,fun k hk=>?_,hp9,(hq'.mul (hfr.qb hiw)).mono (by omega)⟩⟩
             . show ((leads.getD []).length+1)*8<=140737488355328
               rw[hl,q07,tab_len];omega
             . show appL leads [(i:Int)]=_
               rw[hl,q0G,q1V,if_pos rfl]
               congr 2
               exact List.map_congr_left fun j hj=>by rw[if_neg (by have:=List.mem_range.1 hj;omega)]
             . rw[hgs]
               by_cases g:k=nl
               . subst g;rw[elimM,if_pos rfl];exact hsc.mono (by omega)
               . rw[elimM,if_neg g];exact ((hfb' k hk).elim hsc hiw).1
         . intro k8 hk8
           try dsimp only
           refine br_c (fun h=>?_) fun h=>?_
           . refine⟨in_s (by rw[hout.1];exact hnr),in_s (by rw[hout.1];exact htr),in_s (by rw[hout.1];exact htr),in_s (by rw[q6b,hout.1];exact hnr),(s_RNeg hdet).mono fun z hz=>hk8 _ ⟨z,_,_,rfl,?_,hz,hI.qb.neg⟩⟩
             refine (hout.set (i:=t) (g:=fun k=>if k=t then M nl else M k) htr ?_ fun j _ hj s _=>by rw[if_neg hj]).set (i:=nl) hnr ?_ fun j _ hj s _=>?_
             . rw[if_pos rfl];exact hout.at hnr
             . unfold swapM
               by_cases e:nl=t
               . subst e;rw[if_pos rfl];exact hout.at hnr
               . rw[if_neg e,if_pos rfl];exact hout.at htr
             . unfold swapM
               rw[if_neg hj]
           . have h:(t:Int)=(nl:Int):=by simpa[notB] using h
             have h:t=nl:=by omega
             subst h
             refine hk8 _ ⟨det,out,q,rfl,hout.congr fun j _ s _=>?_,hdet,hI.qb⟩
             unfold swapM
             by_cases e:j=t
             . rw[if_pos e,e]
             . rw[if_neg e,if_neg e]
   . intro k7 hk7
     try dsimp only
     rw[eout hout]
     refine br_c (fun h=>?_) fun h=>?_
     . have h:(t:Int)<(r:Int):=dec_t h
       have htr:t<r:=by omega
       have hx:RL (eltN none out (toN (t:Int))) (M t) w:=hout.at htr
       refine⟨in_s (by rw[hout.1];exact htr),in_s (by rw[hx.1];omega),?_⟩
       rw[q05]
       refine (q0x (hx.2 i (by omega))).mono ?_
       rintro _ rfl
       refine hk7 _ ⟨_,rfl,fun h=>⟨htr,rv_zero (hx.2 i (by omega)) (dec_t h)⟩,fun h _ e=>dec_f h ?_⟩
       rw[e];decide
     . have h:¬ (t:Int)<(r:Int):=dec_f h
       exact hk7 _ ⟨false,rfl,fun e=>(by cases e),fun _ g=>absurd g (by omega)⟩
 . rintro _ ⟨pz,det,out,leads⟩ ⟨M,nl,ld,q,hI⟩
   exact⟨M,nl,ld,hI.red,hI.out,hI.lds⟩
end Go.Proofs.Pf.B
namespace Go.Proofs.Pf.B
open Go Go.VM
def SolL (A:Mat) (y:Nat->Rat) (r n:Nat) (x:Nat->Rat):Prop:=∀ k,k<r->dtQ (A k) x n=y k
def extM (A:Mat) (y:Nat->Rat) (n:Nat):Mat:=fun k j=>if j<n then A k j else y k
theorem sol_ext {A:Mat} {y:Nat->Rat} {r n:Nat} {z x:Nat->Rat} (hz:z n = -1) (hx:∀ j,j<n->x j=z j):Sol (extM A y n) r (n+1) z↔SolL A y r n x:=by
 have e:∀ k,dtQ (extM A y n k) z (n+1)=dtQ (A k) x n - y k:=by
  intro k
  show sumQ _ n+_*z n=_
  rw[hz,Rat.mul_neg,Rat.mul_one,extM,if_neg (by omega),Rat.sub_eq_add_neg]
  congr 1
  exact q04 n fun j hj=>by rw[extM,if_pos hj,hx j hj]
 constructor
 . intro h k hk
   have:=h k hk
   rw[e] at this
   grind
 . intro h k hk
   rw[e,h k hk,Rat.sub_self]
def LinOk (A:Mat) (y:Nat->Rat) (r n:Nat) (res:Int×((Option (List DR))×Unit)):Prop:=
 (res.1=0/\res.2.1=none/\∀ x,¬ SolL A y r n x)∨((res.1=1∨res.1=2)/\∃ x,RL res.2.1 x n/\SolL A y r n x/\(res.1=1->∀ x',SolL A y r n x'->∀ j,j<n->x' j=x j))
theorem LinOk.ex (A:Mat) (y:Nat->Rat) (r n:Nat):∃ res,LinOk A y r n res:=by
 by_cases h:∃ x,SolL A y r n x
 . obtain⟨x,hx⟩:=h
   obtain⟨p,hp⟩:=RL.ex x n
   exact⟨(2,(p,())),.inr ⟨.inr rfl,x,hp,hx,fun e=>absurd e (by show ¬ (2:Int)=1;decide)⟩⟩
 . exact⟨(0,(none,())),.inl ⟨rfl,rfl,fun x hx=>h ⟨x,hx⟩⟩⟩
def leadX (M:Mat) (n:Nat) (ld:Nat->Nat):Nat->Nat->Rat
 | 0,_=>0
 | i+1,j=>if j=ld i then M i n else leadX M n ld i j
theorem q43 {A M:Mat} {r w c nl n:Nat} {ld:Nat->Nat} (h:Red A M r w c nl ld):∀ k,k<=nl->∀ i,i<k->leadX M n ld k (ld i)=M i n
 | 0,_,i,hi=>absurd hi (by omega)
 | k+1,hk,i,hi=>by
  simp only[leadX]
  by_cases e:i=k
  . subst e;rw[if_pos rfl]
  . have:=h.inc i k (by omega) (by omega)
    rw[if_neg (by omega)]
    exact q43 h k (by omega) i (by omega)
theorem q5z {M:Mat} {n:Nat} {ld:Nat->Nat} {j:Nat}:∀ k,(∀ i,i<k->j≠ld i)->leadX M n ld k j=0
 | 0,_=>rfl
 | k+1,h=>by
  simp only[leadX]
  rw[if_neg (h k (by omega))]
  exact q5z k fun i hi=>h i (by omega)
theorem Red.lead {A M:Mat} {r w n nl:Nat} {ld:Nat->Nat} (h:Red A M r w n nl ld) (hn:n<=nl):∀ i,i<nl->ld i=i:=by
 have lo:∀ i,i<nl->i<=ld i:=by
  intro i
  induction i with
  | zero=>intro _;omega
  | succ i ih=>intro hi;have:=ih (by omega);have:=h.inc i (i+1) (by omega) hi;omega
 have up:∀ d i,i+d+1=nl->ld i+d<n:=by
  intro d
  induction d with
  | zero=>intro i hi;exact h.ldc i (by omega)
  | succ d ih=>intro i hi;have:=ih (i+1) (by omega);have:=h.inc i (i+1) (by omega) (by omega);omega
 intro i hi
 have:=lo i hi
 have:=up (nl - 1 - i) i (by omega)
 omega
theorem Red.sols {A M:Mat} {y:Nat->Rat} {r n nl:Nat} {ld:Nat->Nat} (h:Red (extM A y n) M r (n+1) n nl ld) (h0:∀ k,nl<=k->k<r->M k n=0):SolL A y r n (leadX M n ld nl)/\(n<=nl->∀ x',SolL A y r n x'->∀ j,j<n->x' j=leadX M n ld nl j):=by
 have hz:∀ x:Nat->Rat,(fun j=>if j=n then (-1:Rat) else x j) n = -1:=fun x=>if_pos rfl
 constructor
 . refine (sol_ext (z:=fun j=>if j=n then -1 else leadX M n ld nl j) (hz _) (fun j hj=>(if_neg (by omega)).symm)).1 (h.some h0 _ (hz _) (fun i hi=>?_) fun j hj g=>?_)
   . have:=h.ldc i hi
     rw[if_neg (by omega)]
     exact q43 h nl (Nat.le_refl _) i hi
   . rw[if_neg (by omega)]
     exact q5z nl g
 . intro hn x' hx' j hj
   have hl:=h.lead hn
   have hs:Sol (extM A y n) r (n+1) (fun j=>if j=n then -1 else x' j):=(sol_ext (hz _) (fun j hj=>(if_neg (by omega)).symm)).2 hx'
   have hle:=h.le
   have:=(h.sol _).2 hs j (by omega)
   have e:dtQ (M j) (fun j=>if j=n then -1 else x' j) (n+1)=x' j - M j n:=by
    show sumQ _ n+M j n*_=_
    rw[q4n (t:=j) n hj fun i hi hne=>?_]
    . try dsimp only
      have o:=h.one j (by omega)
      rw[hl j (by omega)] at o
      rw[if_neg (by omega),if_pos rfl,o,Rat.one_mul,Rat.mul_neg,Rat.mul_one,Rat.sub_eq_add_neg]
    . have o:=h.zer i (by omega) j (by omega) (fun e=>hne e.symm)
      rw[hl i (by omega)] at o
      rw[o,Rat.zero_mul]
   rw[e] at this
   have o:=q43 (n:=n) h nl (Nat.le_refl _) j (by omega)
   rw[hl j (by omega)] at o
   rw[o]
   grind
theorem slc_get {α:Type} (l:List α) (a:Nat) (i:Nat) (d:α):((l.take l.length).drop a).getD i d=l.getD (a+i) d:=by
 rw[List.take_length,List.getD_eq_getElem?_getD,List.getD_eq_getElem?_getD,List.getElem?_drop]
theorem s_Linear {a:Option (List (Option (List DR)))} {b:Option (List DR)} {A:Mat} {y:Nat->Rat} {r n e:Nat} (ha:RLL a A r n) (hb:RL b y r) (hr:r<=900) (hn:n<=900) (hA:∀ k,k<r->FB (n+1) e (extM A y n k)) (he:growE e n<=50000000):
 callV Pg q4Q [⟨(.sl (.sl tER)),a⟩,⟨(.sl tER),b⟩,⟨tI,(n:Int)⟩] (.tup (.pair tI (.pair (.sl tER) .unit))) (LinOk A y r n):=by
 have ea:szSl a=(r:Int):=by show ((a.getD []).length:Int)=r;rw[ha.1]
 refine qbY a b (n:Int) (LinOk.ex A y r n) ?_
 rw[ea]
 refine rangeB (n:=r) (fun i o=>(b,((n:Int),(a,((r:Int),((i:Int),o)))))) (fun i o=>RLL o (extM A y n) i (n+1)) none rfl (RLL.nil _ _) (fun p=>p.2.2.2.2.1.toNat) (fun _ _=>rfl) (fun _ _ _=>rfl) ?_ ?_
 . intro k i o hi ho hk
   (try dsimp only)
   refine⟨in_s (by rw[ha.1];exact hi),?_⟩
   rw[q0t,q05]
   refine (s_Clone1 (ha.2 i hi) (by omega)).mono fun p hp=>⟨in_s (by rw[hb.1];exact hi),hp.c8 (by omega),?_,?_⟩
   . show ((o.getD []).length+1)*24<=140737488355328
     rw[ho.1];omega
   . rw[wi1 hi (by omega)]
     refine hk _ (ho.app ?_)
     refine RL.app (f:=extM A y n i) (hp.congr fun j hj=>by rw[extM,if_pos hj]) ?_
     rw[extM,if_neg (by omega)]
     exact hb.2 i hi
 intro _ o ho
 refine (s_reduced ho (by omega) (by omega) (by omega) hA he).mono ?_
 rintro⟨out,leads,det,u⟩ ⟨M,nl,ld,h,hout,hl⟩
 have hout:RLL out M r (n+1):=hout
 have hl:leads=optL (tab (fun i=>(ld i:Int)) nl):=hl
 have hle:=h.le
 have esz:szSl leads=(nl:Int):=by show ((leads.getD []).length:Int)=nl;rw[hl,q07,tab_len]
 have eout:szSl out=(r:Int):=by show ((out.getD []).length:Int)=r;rw[hout.1]
 dsimp only
 rw[esz,eout]
 refine⟨⟨by omega,by omega,by show (r:Int)<=((out.getD []).length:Int);rw[hout.1];omega⟩,?_⟩
 have tl:((slcS out (nl:Int) (r:Int)).getD []).length=r - nl:=by
  cases out with
  | none=>have:=hout.1;simp at this;subst this;simp[slcS]
  | some l=>
   have h1:l.length=r:=hout.1
   show ((l.take (r:Int).toNat).drop (nl:Int).toNat).length=r - nl
   simp[h1]
 have tg:∀ i,((slcS out (nl:Int) (r:Int)).getD []).getD i none=(out.getD []).getD (nl+i) none:=by
  intro i
  cases out with
  | none=>simp[slcS]
  | some l=>
   have h1:l.length=r:=hout.1
   show ((l.take (r:Int).toNat).drop (nl:Int).toNat).getD i none=l.getD (nl+i) none
   rw[Int.toNat_natCast,Int.toNat_natCast,<-h1,slc_get]
 generalize slcS out (nl:Int) (r:Int)=tail at *
 have etl:szSl tail=((r - nl:Nat):Int):=by show ((tail.getD []).length:Int)=_;rw[tl]
 rw[etl]
 refine rangeB (n:=r - nl) (fun i (_:Unit)=>((n:Int),(out,(leads,(tail,(((r - nl:Nat):Int),(i:Int))))))) (fun i _=>∀ k,k<i->M (nl+k) n=0) () rfl (fun k hk=>absurd hk (by omega)) (fun p=>p.2.2.2.2.2.toNat) (fun _ _=>rfl) (fun _ _ _=>rfl) ?_ ?_
 . intro k i _ hi hx hk
   dsimp only
   have hrow:=hout.2 (nl+i) (by omega)
   refine⟨in_s (by rw[tl];exact hi),?_⟩
   rw[q0t,tg]
   refine⟨in_s (by rw[hrow.1];omega),?_⟩
   rw[q05]
   refine (q0x (hrow.2 n (by omega))).mono ?_
   rintro _ rfl
   refine br_c (fun hc=>?_) fun hc=>?_
   . have hc:¬ sgn (M (nl+i) n).num=0:=by simpa[notB] using hc
     refine .inl ⟨rfl,rfl,fun x hx'=>?_⟩
     refine h.none (k:=nl+i) (by omega) (by omega) (fun e=>hc (by rw[e];decide)) (fun j=>if j=n then -1 else x j) (if_pos rfl) ?_
     exact (sol_ext (if_pos rfl) (fun j hj=>(if_neg (by omega)).symm)).2 hx'
   . have hc:decide (sgn (M (nl+i) n).num=0)=true:=by simpa[notB] using hc
     rw[wi1 hi (by omega)]
     refine hk () fun j hj=>?_
     by_cases e:j=i
     . subst e;exact rv_zero (hrow.2 n (by omega)) (dec_t hc)
     . exact hx j (by omega)
 intro _ _ hx
 have h0:∀ k,nl<=k->k<r->M k n=0:=fun k h1 h2=>by
  have:=hx (k - nl) (by omega)
  rwa [show nl+(k - nl)=k by omega] at this
 obtain⟨hs1,hs2⟩:=h.sols h0
 dsimp only
 refine⟨⟨by omega,by omega,by omega⟩,?_⟩
 rw[esz]
 refine rangeB (n:=nl) (fun i x=>((n:Int),(out,(leads,(leads,((nl:Int),((i:Int),x))))))) (fun i x=>RL x (leadX M n ld i) n) (some (repS (n:Int) r0)) rfl (RL.zero n) (fun p=>p.2.2.2.2.2.1.toNat) (fun _ _=>rfl) (fun _ _ _=>rfl) ?_ ?_
 . intro k i x hi hx' hk
   dsimp only
   have hrow:=hout.2 i (by omega)
   have hld:=h.ldc i hi
   have el:eltS (0:Int) leads (i:Int)=(ld i:Int):=by
    rw[hl]
    simp only[eltS,q07,Int.toNat_natCast]
    exact tab_get _ _ _ _ hi
   rw[el,q0t,q05]
   refine⟨in_s (by rw[hl,q07,tab_len];exact hi),in_s (by rw[hout.1];omega),in_s (by rw[hrow.1];omega),in_s (by rw[hx'.1];exact hld),?_⟩
   rw[wi1 hi (by omega),show toN (ld i:Int)=ld i from Int.toNat_natCast (ld i)]
   refine hk _ (hx'.set hld ?_ fun j _ hj=>?_)
   . simp only[leadX,if_true]
     exact hrow.2 n (by omega)
   . simp only[leadX];rw[if_neg hj]
 . intro _ x hx'
   dsimp only
   rw[esz]
   refine br_c (fun hc=>?_) fun hc=>?_
   . exact .inr ⟨.inr rfl,_,hx',hs1,fun e=>absurd e (by show ¬ (2:Int)=1;decide)⟩
   . have hc:¬ (nl:Int)<(n:Int):=dec_f hc
     exact .inr ⟨.inl rfl,_,hx',hs1,fun _=>hs2 (by omega)⟩
end Go.Proofs.Pf.B
namespace Go.Proofs.Pf.B
open Go Go.VM
def Span (B:Mat) (k n:Nat) (v:Nat->Rat):Prop:=∃ c,SolL (fun s j=>B j s) v n k c
theorem FB.many {n e:Nat} {x:Nat->Rat} (h:∀ s,s<n->QB e (x s)):FB n ((n+1)*e) x:=by
 obtain⟨D,h1,h2,h3⟩:=QD.common x n h
 have e1:(KK ^ e) ^ n=KK ^ (n*e):=by rw[<-Nat.pow_mul,Nat.mul_comm]
 rw[e1] at h2
 refine⟨D,h1,Nat.le_trans h2 (kk_le (by rw[Nat.succ_mul];omega)),fun s hs=>(h3 s hs).mono ?_⟩
 rw[Nat.succ_mul,Nat.add_comm]
 exact kk_mul (Nat.le_refl _) h2
theorem q7I {a:Option (List (Option (List DR)))} {b:Option (List DR)} {B:Mat} {v:Nat->Rat} {k n e:Nat} (ha:RLL a B k n) (hb:RL b v n) (hk:k<=900) (hn:n<=900) (hB:∀ j,j<k->∀ s,s<n->QB e (B j s)) (hv:∀ s,s<n->QB e (v s)) (he:growE ((k+2)*e) k<=50000000):
 callV Pg q3V [⟨(.sl (.sl tER)),a⟩,⟨(.sl tER),b⟩] .bool fun r=>r=true↔¬ Span B k n v:=by
 have ea:szSl a=(k:Int):=by show ((a.getD []).length:Int)=k;rw[ha.1]
 have eb:szSl b=(n:Int):=by show ((b.getD []).length:Int)=n;rw[hb.1]
 refine qcP a b ?_ ?_
 . by_cases h:Span B k n v
   . exact⟨false,by simp[h]⟩
   . exact⟨true,by simp[h]⟩
 rw[eb]
 refine⟨⟨by omega,by omega,by omega⟩,fun y hy=>?_,?_⟩
 . have hy:y∈List.replicate _ none:=hy
   rw[List.eq_of_mem_replicate hy];rfl
 rw[q77,show szSl (hds n 0)=(n:Int) by show (((hds n 0).getD []).length:Int)=n;rw[q36]]
 refine rangeB (n:=n) (fun i (x:Option (List (Option Nat))×List (List DR))=>(a,(b,((n:Int),((i:Int),x))))) (fun i x=>x.1=hds n i/\x.2.length=i/\∀ s,s<i->RL (some (x.2.getD s [])) (fun j=>B j s) k) (hds n 0,[]) rfl ⟨rfl,rfl,fun s hs=>absurd hs (by omega)⟩ (fun p=>p.2.2.2.1.toNat) (fun _ _=>rfl) (fun _ _ _=>rfl) ?_ ?_
 . rintro k0 i ⟨hd,ls⟩ hi ⟨hx1,hx2,hx3⟩ hk0
   have hx1:hd=hds n i:=hx1
   have hx2:ls.length=i:=hx2
   have hx3:∀ s,s<i->RL (some (ls.getD s [])) (fun j=>B j s) k:=hx3
   subst hx1
   dsimp only
   rw[ea]
   refine⟨⟨by omega,by omega,by omega⟩,in_s (by rw[q36];exact hi),?_⟩
   have e3:gvH (α:=List DR) (some (repS (k:Int) r0)) (lenL ls)=some i:=by show some ls.length=some i;rw[hx2]
   rw[e3,show toN (i:Int)=i from Int.toNat_natCast i,hds_set hi]
   refine rangeB (n:=k) (fun j (x:List (List DR))=>(a,(b,((i:Int),((n:Int),((i:Int),(a,((k:Int),((j:Int),(hds n (i+1),x)))))))))) (fun j x=>x.length=i+1/\(∀ s,s<i->RL (some (x.getD s [])) (fun j=>B j s) k)/\RL (some (x.getD i [])) (fun t=>if t<j then B t i else 0) k) (gvL ls (some (repS (k:Int) r0))) rfl ⟨?_,fun s hs=>?_,?_⟩ (fun p=>p.2.2.2.2.2.2.2.1.toNat) (fun _ _=>rfl) (fun _ _ _=>rfl) ?_ ?_
   . show (ls ++ [_]).length=i+1
     rw[List.length_append,hx2];rfl
   . show RL (some ((ls ++ [_]).getD s [])) _ _
     rw[List.getD_eq_getElem?_getD,List.getElem?_append_left (by rw[hx2];exact hs),<-List.getD_eq_getElem?_getD]
     exact hx3 s hs
   . show RL (some ((ls ++ [_]).getD i [])) _ _
     rw[List.getD_eq_getElem?_getD,List.getElem?_append_right (by rw[hx2];omega),hx2,Nat.sub_self]
     exact (RL.zero k).congr fun j _=>if_neg (by omega)
   . rintro k1 j x hj ⟨x1,x2,x3⟩ hk1
     dsimp only
     have hrow:=ha.2 j hj
     have hlen:(x.getD i []).length=k:=x3.1
     refine⟨in_s (by rw[ha.1];exact hj),in_s (by rw[q36];exact hi),?_⟩
     rw[q0t]
     refine⟨in_s (by rw[hrow.1];exact hi),?_⟩
     rw[q05,show toN (i:Int)=i from Int.toNat_natCast i,hds_get hi,if_pos (by omega)]
     refine⟨⟨by omega,?_⟩,?_⟩
     . show (j:Int)<(((x.getD ((some i).getD x.length) []).length:Nat):Int)
       rw[show (some i).getD x.length=i from rfl,hlen];omega
     . rw[show toN (j:Int)=j from Int.toNat_natCast j,wi1 hj (by omega)]
       refine hk1 _ ⟨?_,fun s hs=>?_,?_⟩
       . show (x.set i _).length=i+1
         simpa using x1
       . show RL (some ((x.set i _).getD s [])) _ _
         rw[List.getD_eq_getElem?_getD,List.getElem?_set_ne (by omega),<-List.getD_eq_getElem?_getD]
         exact x2 s hs
       . show RL (some ((x.set i _).getD i [])) _ _
         rw[List.getD_eq_getElem?_getD,List.getElem?_set_self (by omega)]
         refine RL.set (l:=some (x.getD i [])) x3 hj ?_ fun t _ hne=>?_
         . rw[if_pos (by omega)];exact hrow.2 i hi
         . try dsimp only
           by_cases g:t<j
           . rw[if_pos g,if_pos (by omega)]
           . rw[if_neg g,if_neg (by omega)]
   . rintro k1 x ⟨x1,x2,x3⟩
     dsimp only
     rw[wi1 hi (by omega)]
     refine hk0 (_,_) ⟨rfl,x1,fun s hs=>?_⟩
     rcases Nat.lt_or_ge s i with hlt | hge
     . exact x2 s hlt
     . obtain rfl:s=i:=by omega
       exact x3.congr fun j hj=>(if_pos hj).symm
 . rintro _ ⟨hd,ls⟩ ⟨hx1,hx2,hx3⟩
   have hx1:hd=hds n n:=hx1
   have hx3:∀ s,s<n->RL (some (ls.getD s [])) (fun j=>B j s) k:=hx3
   subst hx1
   have hM:RLL (mapL (fun x2=>unH ls x2) (hds n n)) (fun s j=>B j s) n k:=by
    refine⟨?_,fun s hs=>?_⟩
    . show ((tab _ n).map _).length=n
      simp[tab]
    . show RL (((tab _ n).map _).getD s none) _ _
      rw[List.getD_eq_getElem?_getD,List.getElem?_map]
      simp only[tab,List.getElem?_map,List.getElem?_range hs,Option.map_some,Option.getD_some,if_pos hs,unH]
      exact hx3 s hs
   dsimp only
   rw[ea]
   refine (s_Linear (e:=(k+2)*e) hM hb hn hk (fun s hs=>FB.many fun j hj=>?_) he).mono ?_
   . unfold extM
     split
     . rename_i g;exact hB j g s hs
     . exact hv s hs
   . rintro res (⟨h1,_,h2⟩ | ⟨h1,x,_,h2,_⟩)
     . rw[decide_eq_true h1]
       exact⟨fun _ ⟨c,hc⟩=>h2 c hc,fun _=>rfl⟩
     . have:¬ res.1=0:=by
        intro e
        rcases h1 with h1 | h1
        . exact absurd (h1.symm.trans e) (by decide)
        . exact absurd (h1.symm.trans e) (by decide)
       rw[decide_eq_false this]
       exact⟨fun e=>(by cases e),fun h=>(h ⟨x,h2⟩).elim⟩
end Go.Proofs.Pf.B
namespace Go.Proofs.Pf.B
open Go Go.VM
theorem s_Less (a b:Int):callV Pg q3F [⟨tI,a⟩,⟨tI,b⟩] .bool fun r=>r=decide (a<b):=
 qba a b ⟨_,rfl⟩ (joinE (qbb a ⟨false,br_f rfl rfl⟩ (br_f (by simp[notB]) rfl)))
def mem_ (c:DL) (n:Nat) (x:Int):Prop:=∃ p,p<n/\int (c.getD []) p=x
theorem q2v {c:DL} {j:Nat} {v:Int}:((setO c j v).getD []).length=(c.getD []).length:=by cases c<;>simp[setO]
theorem q0H {c:DL} {j p:Nat} {v:Int} (hj:j<(c.getD []).length):int ((setO c j v).getD []) p=if p=j then v else int (c.getD []) p:=by
 cases c with
 | none=>simp at hj
 | some c=>
  have hj:j<c.length:=hj
  show (c.set j v).getD p 0=if p=j then v else c.getD p 0
  by_cases e:p=j
  . subst e;rw[if_pos rfl,List.getD_eq_getElem?_getD,List.getElem?_set_self hj];rfl
  . rw[if_neg e,List.getD_eq_getElem?_getD,List.getElem?_set_ne (fun h=>e h.symm),<-List.getD_eq_getElem?_getD]
theorem q1n {c:DL} {p:Nat}:eltN (0:Int) c (toN (p:Int))=int (c.getD []) p:=by simp only[eltN,toN,Int.toNat_natCast]
theorem s_insert (l:DL) (n:Nat) (hl:(l.getD []).length=n) (hn:n<=100000) {Q:DL->Prop} (hq:∀ c:DL,(c.getD []).length=n->(∀ p q,p<q->q<n->int (c.getD []) p<=int (c.getD []) q)->(∀ x,mem_ c n x↔mem_ l n x)->Q c) (hQ:∃ r,Q r):
 lendV Pg q5d 3 q3y ((0:Int),((n:Int),l)) Q:=by
 refine qcx (0:Int) (n:Int) l hQ ?_
 refine loopE (fun s=>∃ i:Nat,∃ c:DL,s=((0:Int),((n:Int),((i:Int),c)))/\1<=i/\(c.getD []).length=n/\(∀ p q,p<q->q<i->q<n->int (c.getD []) p<=int (c.getD []) q)/\∀ x,mem_ c n x↔mem_ l n x) (fun s=>n - s.2.2.1.toNat) ⟨1,l,rfl,by omega,hl,fun p q h1 h2 _=>by omega,fun x=>Iff.rfl⟩ ?_
 rintro _ ⟨i,c,rfl,hi,hc,hs,hm⟩
 dsimp only
 refine br_c (fun h=>?_) fun h=>?_
 . have h:(i:Int)<(n:Int):=dec_t h
   have hin:i<n:=by omega
   refine loopE (fun s=>∃ j:Nat,∃ c:DL,s=((0:Int),((n:Int),((i:Int),((j:Int),c))))/\j<=i/\(c.getD []).length=n/\(∀ p q,p<q->q<=i->q≠j->int (c.getD []) p<=int (c.getD []) q)/\∀ x,mem_ c n x↔mem_ l n x) (fun s=>s.2.2.2.1.toNat) ⟨i,c,rfl,by omega,hc,fun p q h1 h2 h3=>hs p q h1 (by omega) (by omega),hm⟩ ?_
   rintro _ ⟨j,c,rfl,hj,hc,hs,hm⟩
   dsimp only
   refine joinR (fun s=>∃ b:Bool,s=((0:Int),((n:Int),((i:Int),((j:Int),(b,c)))))/\(b=true↔0<j/\int (c.getD []) j<int (c.getD []) (j - 1))) ?_ ?_
   . rintro _ ⟨b,rfl,hb⟩
     dsimp only
     refine br_c (fun h=>?_) fun h=>?_
     . obtain⟨h1,h2⟩:=hb.1 h
       have e1:IntKind.wrap IntKind.i64 ((j:Int) - 1)=((j - 1:Nat):Int):=by rw[wi64 (by omega) (by omega)];omega
       rw[e1,q1n,q1n,show toN (j:Int)=j from Int.toNat_natCast j,show toN ((j - 1:Nat):Int)=j - 1 from Int.toNat_natCast (j - 1)]
       refine⟨in_s (by omega),in_s (by omega),in_s (by omega),in_s (by rw[q2v];omega),⟨j - 1,_,rfl,by omega,by rw[q2v,q2v];exact hc,?_,?_⟩,by omega⟩
       . have at_:∀ p,int ((setO (setO c j (int (c.getD []) (j - 1))) (j - 1) (int (c.getD []) j)).getD []) p=if p=j - 1 then int (c.getD []) j else if p=j then int (c.getD []) (j - 1) else int (c.getD []) p:=by
          intro p
          rw[q0H (by rw[q2v];omega),q0H (by omega)]
         intro p q h3 h4 h5
         rw[at_,at_,if_neg h5]
         by_cases hq:q=j
         . subst hq
           rw[if_pos rfl]
           by_cases hp:p=q - 1
           . rw[if_pos hp];omega
           . rw[if_neg hp,if_neg (by omega)];exact hs p (q - 1) (by omega) (by omega) (by omega)
         . rw[if_neg hq]
           by_cases hp:p=j - 1
           . rw[if_pos hp];exact hs j q (by omega) h4 hq
           . rw[if_neg hp]
             by_cases hp2:p=j
             . rw[if_pos hp2];exact hs (j - 1) q (by omega) h4 hq
             . rw[if_neg hp2];exact hs p q h3 h4 hq
       . intro x
         rw[<-hm x]
         have at_:∀ p,int ((setO (setO c j (int (c.getD []) (j - 1))) (j - 1) (int (c.getD []) j)).getD []) p=if p=j - 1 then int (c.getD []) j else if p=j then int (c.getD []) (j - 1) else int (c.getD []) p:=by
          intro p
          rw[q0H (by rw[q2v];omega),q0H (by omega)]
         constructor
         . rintro⟨p,hp,e⟩
           rw[at_] at e
           by_cases g:p=j - 1
           . rw[if_pos g] at e;exact⟨j,by omega,e⟩
           . rw[if_neg g] at e
             by_cases g2:p=j
             . rw[if_pos g2] at e;exact⟨j - 1,by omega,e⟩
             . rw[if_neg g2] at e;exact⟨p,hp,e⟩
         . rintro⟨p,hp,e⟩
           by_cases g:p=j
           . exact⟨j - 1,by omega,by rw[at_,if_pos rfl,<-e,g]⟩
           . by_cases g2:p=j - 1
             . exact⟨j,by omega,by rw[at_,if_neg (by omega),if_pos rfl,<-e,g2]⟩
             . exact⟨p,hp,by rw[at_,if_neg g2,if_neg g];exact e⟩
     . have h1:¬ (0<j/\int (c.getD []) j<int (c.getD []) (j - 1)):=fun g=>by rw[hb.2 g] at h;cases h
       rw[wi1 hin (by omega)]
       refine⟨⟨i+1,c,rfl,by omega,hc,fun p q h2 h3 h4=>?_,hm⟩,by omega⟩
       by_cases g:q=j
       . subst g
         have h5:int (c.getD []) (q - 1)<=int (c.getD []) q:=by
          rcases Int.lt_or_le (int (c.getD []) q) (int (c.getD []) (q - 1)) with h6 | h6
          . exact absurd ⟨by omega,h6⟩ h1
          . exact h6
         by_cases g2:p=q - 1
         . rw[g2];exact h5
         . exact Int.le_trans (hs p (q - 1) (by omega) (by omega) (by omega)) h5
       . exact hs p q h2 (by omega) g
   . intro k hk
     refine br_c (fun h=>?_) fun h=>?_
     . have h:(0:Int)<(j:Int):=dec_t h
       have e1:IntKind.wrap IntKind.i64 ((j:Int) - 1)=((j - 1:Nat):Int):=by rw[wi64 (by omega) (by omega)];omega
       rw[e1,q1n,q1n]
       refine⟨in_s (by omega),in_s (by omega),(s_Less _ _).mono ?_⟩
       rintro _ rfl
       exact hk _ ⟨_,rfl,by rw[decide_eq_true_eq];exact⟨fun g=>⟨by omega,g⟩,fun g=>g.2⟩⟩
     . have h:¬ (0:Int)<(j:Int):=dec_f h
       exact hk _ ⟨false,rfl,fun e=>(by cases e),fun g=>(h (by omega)).elim⟩
 . have h:¬ (i:Int)<(n:Int):=dec_f h
   exact hq c hc (fun p q h1 h2=>hs p q h1 (by omega) h2) hm
end Go.Proofs.Pf.B
namespace Go.Proofs.Pf.B
open Go Go.VM
theorem len_in (x:Int):((0:Int)<=IntKind.wrap IntKind.u8 x)/\(IntKind.wrap IntKind.u8 x<szStr (bytesL len8)):=by
 rw[q78,wu8m]
 exact⟨by omega,by omega⟩
theorem s_Len64 (a:Int):callV Pg q4N [⟨(.int .u64),a⟩] tI fun _=>True:=by
 refine qbV a ⟨0,trivial⟩ (joinR (fun _=>True) (fun p0 _=>joinR (fun _=>True) (fun p1 _=>joinR (fun _=>True) (fun p2 _=>⟨len_in p2.1,trivial⟩) ?_) ?_) ?_)
 . exact fun k hk=>br_c (fun _=>⟨by decide,hk _ trivial⟩) fun _=>hk _ trivial
 . exact fun k hk=>br_c (fun _=>⟨by decide,hk _ trivial⟩) fun _=>hk _ trivial
 . exact fun k hk=>br_c (fun _=>⟨by decide,hk _ trivial⟩) fun _=>hk _ trivial
def SortOk (l c:DL):Prop:=(c.getD []).length=(l.getD []).length/\(∀ p q,p<q->q<(c.getD []).length->int (c.getD []) p<=int (c.getD []) q)/\∀ x,mem_ c (l.getD []).length x↔mem_ l (l.getD []).length x
theorem s_Sort (l:DL) (hl:(l.getD []).length<=12) {Q:DL->Prop} (hq:∀ c,SortOk l c->Q c) (hQ:∃ r,Q r):lendV Pg q5c 1 q3x l Q:=by
 refine qcw l hQ ((qbT _ ⟨0,trivial⟩ ((s_Len64 _).mono fun _ _=>trivial):callV Pg q4L [⟨(.int .u64),(IntKind.wrap IntKind.u64 (szSl l))⟩] tI fun _=>True).mono fun z _=>?_)
 refine qcy (0:Int) (szSl l) z l hQ (loopE (fun p=>p=((0:Int),(szSl l,(z,(true,(true,l)))))) (fun _=>0) rfl ?_)
 rintro _ rfl
 dsimp only
 refine joinE (br_t ?_ ?_)
 . show decide (IntKind.wrap IntKind.i64 (((l.getD []).length:Int) - 0)<=12)=true
   rw[wi64 (by omega) (by omega)]
   exact decide_eq_true (by omega)
 . exact s_insert l (l.getD []).length rfl (by omega) (fun c h1 h2 h3=>hq c ⟨h1,fun p q a b=>h2 p q a (by omega),h3⟩) hQ
end Go.Proofs.Pf.B
namespace Go.Proofs.Pf.B
open Go Go.VM
def CompOk (c r:DL):Prop:=(∀ p q,p<q->q<(r.getD []).length->int (r.getD []) p<int (r.getD []) q)/\∀ x,mem_ r (r.getD []).length x↔mem_ c (c.getD []).length x
theorem takeI {c:List Int} {k p:Nat} (h:p<k):int (c.take k) p=int c p:=by
 show (c.take k).getD p 0=c.getD p 0
 rw[List.getD_eq_getElem?_getD,List.getD_eq_getElem?_getD,List.getElem?_take_of_lt h]
theorem clr_take {c:DL} {k:Nat} (hk:k<=(c.getD []).length):((slcS (clrS c (k:Int) (szSl c) 0) 0 (k:Int)).getD [])=(c.getD []).take k:=by
 cases c with
 | none=>simp[slcS,clrS]
 | some l=>
  have hk:k<=l.length:=hk
  show ((l.take (k:Int).toNat ++ List.replicate _ 0 ++ l.drop _).take (k:Int).toNat).drop (0:Int).toNat=l.take k
  rw[Int.toNat_natCast]
  show (l.take k ++ _ ++ _).take k=_
  rw[List.append_assoc,List.take_append_of_le_length (by rw[List.length_take];omega),List.take_take,Nat.min_self]
theorem clr_len {c:DL} {k:Nat} (hk:k<=(c.getD []).length):((clrS c (k:Int) (szSl c) 0).getD []).length=(c.getD []).length:=by
 cases c with
 | none=>rfl
 | some l=>
  have hk:k<=l.length:=hk
  show (l.take (k:Int).toNat ++ List.replicate ((l.length:Int).toNat - (k:Int).toNat) 0 ++ l.drop (l.length:Int).toNat).length=l.length
  simp;omega
theorem q7E (c:DL) (n:Nat) (hc:(c.getD []).length=n) (hs:∀ p q,p<q->q<n->int (c.getD []) p<=int (c.getD []) q) (hl:n<=100000) {Q:DL->Prop} (hq:∀ r,CompOk c r->Q r) (hQ:∃ r,Q r):
 lendV Pg q57 1 q3w c Q:=by
 have e1:∀ {d:DL},(d.getD []).length=n->szSl d=(n:Int):=fun h=>by show (((Option.getD _ []).length:Nat):Int)=n;rw[h]
 refine qcp c hQ (br_c (fun h=>?_) fun h=>?_)
 . have h:((c.getD []).length:Int)<2:=dec_t h
   exact hq c ⟨fun p q h1 h2=>by omega,fun x=>Iff.rfl⟩
 have h:¬ ((c.getD []).length:Int)<2:=dec_f h
 refine loopE (fun s=>∃ k:Nat,s=((k:Int),c)/\1<=k/\k<=n/\∀ p,1<=p->p<k->int (c.getD []) (p - 1)≠int (c.getD []) p) (fun s=>n - s.1.toNat) ⟨1,rfl,by omega,by omega,fun p h1 h2=>by omega⟩ ?_
 rintro _ ⟨k,rfl,hk1,hk2,hne⟩
 have inc:∀ {k:Nat},k<=n->(∀ p,1<=p->p<k->int (c.getD []) (p - 1)≠int (c.getD []) p)->∀ p q,p<q->q<k->int (c.getD []) p<int (c.getD []) q:=by
  intro k hk hne p q h1 h2
  have a1:=hne q (by omega) h2
  have a2:=hs (q - 1) q (by omega) (by omega)
  rcases Nat.lt_or_ge p (q - 1) with g | g
  . have:=hs p (q - 1) g (by omega);omega
  . obtain rfl:p=q - 1:=by omega
    omega
 dsimp only
 rw[e1 hc]
 refine br_c (fun h=>?_) fun h=>?_
 . have h:(k:Int)<(n:Int):=dec_t h
   have hkn:k<n:=by omega
   have ek:IntKind.wrap IntKind.i64 ((k:Int) - 1)=((k - 1:Nat):Int):=by rw[wi64 (by omega) (by omega)];omega
   rw[ek,q1n,q1n]
   refine⟨in_s (by omega),in_s (by omega),br_c (fun h=>?_) fun h=>?_⟩
   . have he:int (c.getD []) k=int (c.getD []) (k - 1):=dec_t h
     refine⟨⟨?_,by omega,by omega,by omega⟩,?_⟩
     . cases c with
       | none=>simp at hc;omega
       | some l=>rfl
     refine loopE (fun s=>∃ j t:Nat,∃ d:DL,s=((j:Int),(((k:Int),(n:Int)),((t:Int),d)))/\1<=j/\1<=t/\j<k+t/\k+t<=n/\(d.getD []).length=n/\d.isSome=true /\
      (∀ p,k+t<=p+1->p<n->int (d.getD []) p=int (c.getD []) p)/\(∀ p q,p<q->q<j->int (d.getD []) p<int (d.getD []) q)/\int (d.getD []) (j - 1)=int (c.getD []) (k+t - 1) /\
      (∀ x,mem_ d j x↔mem_ c (k+t) x)) (fun s=>n - s.2.2.1.toNat) ⟨k,1,c,rfl,by omega,by omega,by omega,by omega,hc,?_,fun p _ _=>rfl,inc hk2 hne,?_,fun x=>⟨?_,?_⟩⟩ ?_
     . cases c with
       | none=>simp at hc;omega
       | some l=>rfl
     . rw[show k+1 - 1=k by omega];exact he.symm
     . rintro⟨p,hp,e⟩;exact⟨p,by omega,e⟩
     . rintro⟨p,hp,e⟩
       by_cases g:p=k
       . subst g;exact⟨p - 1,by omega,by rw[<-he];exact e⟩
       . exact⟨p,by omega,e⟩
     . rintro _ ⟨j,t,d,rfl,hj,ht,hjt,htn,hd,hds,hag,hinc,hlast,hmem⟩
       dsimp only
       refine br_c (fun h=>?_) fun h=>?_
       . have h:(t:Int)<(n:Int) - (k:Int):=dec_t h
         have ht2:k+t<n:=by omega
         have et:IntKind.wrap IntKind.i64 ((t:Int) - 1)=((t - 1:Nat):Int):=by rw[wi64 (by omega) (by omega)];omega
         rw[et,show (k:Int)+(t:Int)=((k+t:Nat):Int) by omega,show (k:Int)+((t - 1:Nat):Int)=((k+t - 1:Nat):Int) by omega,q1n,q1n]
         refine⟨⟨by omega,by show (t:Int)<(n:Int) - (k:Int);omega⟩,⟨by omega,by show ((t - 1:Nat):Int)<(n:Int) - (k:Int);omega⟩,?_⟩
         have r1:int (d.getD []) (k+t)=int (c.getD []) (k+t):=hag _ (by omega) (by omega)
         have r2:int (d.getD []) (k+t - 1)=int (c.getD []) (k+t - 1):=hag _ (by omega) (by omega)
         rw[r1,r2]
         have srt:=hs (k+t - 1) (k+t) (by omega) (by omega)
         refine joinR (fun s=>∃ j':Nat,∃ d':DL,s=((j':Int),(((k:Int),(n:Int)),((t:Int),d')))/\1<=j'/\j'<k+t+1/\(d'.getD []).length=n/\d'.isSome=true /\
         (∀ p,k+t<=p->p<n->int (d'.getD []) p=int (c.getD []) p)/\(∀ p q,p<q->q<j'->int (d'.getD []) p<int (d'.getD []) q)/\int (d'.getD []) (j' - 1)=int (c.getD []) (k+t) /\
         (∀ x,mem_ d' j' x↔mem_ c (k+t+1) x)) ?_ ?_
         . rintro _ ⟨j',d',rfl,g1,g2,g3,g4,g5,g6,g7,g8⟩
           dsimp only
           rw[wi1 (n:=n) (by omega) (by omega)]
           refine⟨⟨j',t+1,d',rfl,g1,by omega,by omega,by omega,g3,g4,fun p h1 h2=>g5 p (by omega) h2,g6,g7,g8⟩,?_⟩
           show n - ((t+1:Nat):Int).toNat<n - (t:Int).toNat
           omega
         . intro k4 hk4
           refine br_c (fun h=>?_) fun h=>?_
           . have hne:¬ int (c.getD []) (k+t)=int (c.getD []) (k+t - 1):=by simpa[notB] using h
             rw[wi1 (n:=n) (by omega) (by omega),show toN (j:Int)=j from Int.toNat_natCast j]
             refine⟨⟨by omega,by show (t:Int)<(n:Int) - (k:Int);omega⟩,in_s (by omega),hk4 _ ⟨j+1,_,rfl,by omega,by omega,by rw[q2v];exact hd,?_,fun p h1 h2=>?_,fun p q h1 h2=>?_,?_,fun x=>⟨?_,?_⟩⟩⟩
             . cases d with
               | none=>cases hds
               | some l=>rfl
             . rw[q0H (by omega)]
               by_cases g:p=j
               . omega
               . rw[if_neg g];exact hag p (by omega) h2
             . rw[q0H (by omega),q0H (by omega),if_neg (show p≠j by omega)]
               by_cases g:q=j
               . rw[if_pos g]
                 by_cases g2:p=j - 1
                 . rw[g2,hlast];omega
                 . have:=hinc p (j - 1) (by omega) (by omega)
                   rw[hlast] at this;omega
               . rw[if_neg g];exact hinc p q h1 (by omega)
             . rw[show j+1 - 1=j by omega,q0H (by omega),if_pos rfl]
             . rintro⟨p,hp,e⟩
               rw[q0H (by omega)] at e
               by_cases g:p=j
               . rw[if_pos g] at e;exact⟨k+t,by omega,e⟩
               . rw[if_neg g] at e
                 obtain⟨q,hq,e2⟩:=(hmem x).1 ⟨p,by omega,e⟩
                 exact⟨q,by omega,e2⟩
             . rintro⟨p,hp,e⟩
               by_cases g:p=k+t
               . subst g;exact⟨j,by omega,by rw[q0H (by omega),if_pos rfl];exact e⟩
               . obtain⟨q,hq,e2⟩:=(hmem x).2 ⟨p,by omega,e⟩
                 exact⟨q,by omega,by rw[q0H (by omega),if_neg (by omega)];exact e2⟩
           . have heq:int (c.getD []) (k+t)=int (c.getD []) (k+t - 1):=by simpa[notB] using h
             refine hk4 _ ⟨j,d,rfl,hj,by omega,hd,hds,fun p h1 h2=>hag p (by omega) h2,hinc,by rw[hlast];exact heq.symm,fun x=>⟨fun g=>?_,?_⟩⟩
             . obtain⟨q,hq,e2⟩:=(hmem x).1 g
               exact⟨q,by omega,e2⟩
             . rintro⟨p,hp,e⟩
               refine (hmem x).2 ?_
               by_cases g:p=k+t
               . subst g;exact⟨k+t - 1,by omega,by rw[<-heq];exact e⟩
               . exact⟨p,by omega,e⟩
       . have h:¬ (t:Int)<(n:Int) - (k:Int):=dec_f h
         have hkt:k+t=n:=by omega
         have hlen:=clr_len (c:=d) (k:=j) (by omega)
         have htk:=clr_take (c:=d) (k:=j) (by omega)
         refine⟨⟨hds,by omega,by show (j:Int)<=((d.getD []).length:Int);omega,by show ((d.getD []).length:Int)<=_;omega⟩,⟨?_,by omega,by omega,by rw[hlen];omega⟩,hq _ ⟨?_,fun x=>?_⟩⟩
         . cases d with
           | none=>cases hds
           | some l=>rfl
         . rw[htk]
           intro p q h1 h2
           rw[List.length_take] at h2
           rw[takeI (by omega),takeI (by omega)]
           exact hinc p q h1 (by omega)
         . have:mem_ (slcS (clrS d (j:Int) (szSl d) 0) 0 (j:Int)) ((slcS (clrS d (j:Int) (szSl d) 0) 0 (j:Int)).getD []).length x↔mem_ d j x:=by
            unfold mem_
            rw[htk,List.length_take]
            constructor
            . rintro⟨p,hp,e⟩;rw[takeI (by omega)] at e;exact⟨p,by omega,e⟩
            . rintro⟨p,hp,e⟩;exact⟨p,by omega,by rw[takeI (by omega)];exact e⟩
           rw[this,hmem x,hkt,hc]
   . have hne2:¬ int (c.getD []) k=int (c.getD []) (k - 1):=dec_f h
     rw[wi1 (n:=n) (by omega) (by omega)]
     refine⟨⟨k+1,rfl,by omega,by omega,fun p h1 h2=>?_⟩,?_⟩
     . by_cases g:p=k
       . subst g;exact fun e=>hne2 e.symm
       . exact hne p h1 (by omega)
     . show n - ((k+1:Nat):Int).toNat<n - (k:Int).toNat
       omega
 . have h:¬ (k:Int)<(n:Int):=dec_f h
   have hkn:k=n:=by omega
   subst hkn
   exact hq c ⟨fun p q h1 h2=>inc (Nat.le_refl _) hne p q h1 (by omega),fun x=>Iff.rfl⟩
abbrev mkS (m:DMo) (s:Nat):Int:=(stt (m.getD []) s).2.1
def LetOk (m:DMo) (r:DL):Prop:=(∀ p q,p<q->q<(r.getD []).length->int (r.getD []) p<int (r.getD []) q)/\∀ x,mem_ r (r.getD []).length x↔∃ s,s<(m.getD []).length/\mkS m s=x
theorem moOk.mark {m:DMo} (h:moOk m) {s:Nat} (hs:s<(m.getD []).length):0<=mkS m s/\mkS m s<64:=by
 have h1:0<=(stt (m.getD []) s).2.1/\(stt (m.getD []) s).2.1<64:=by have:=(h.2 s hs).1.2.1;omega
 exact h1
theorem LetOk.ex {m:DMo} (h:moOk m):∃ r,LetOk m r:=by
 classical
 let l:List Int:=((List.range 64).filter fun (k:Nat)=>decide (∃ s,s<(m.getD []).length/\mkS m s=(k:Int))).map fun (k:Nat)=>(k:Int)
 have hp:l.Pairwise (· < ·):=by
  refine List.Pairwise.map _ (R:=(· < ·)) (fun a b h=>by omega) ?_
  exact List.Pairwise.filter _ List.pairwise_lt_range
 refine⟨some l,fun p q h1 h2=>?_,fun x=>⟨?_,?_⟩⟩
 . have h2:q<l.length:=h2
   show l.getD p 0<l.getD q 0
   have:=List.pairwise_iff_getElem.1 hp p q (by omega) h2 h1
   rw[List.getD_eq_getElem?_getD,List.getD_eq_getElem?_getD,List.getElem?_eq_getElem (by omega),List.getElem?_eq_getElem h2]
   exact this
 . rintro⟨p,hp',e⟩
   have hp':p<l.length:=hp'
   have e:l.getD p 0=x:=e
   have hm:x∈l:=by
    rw[List.getD_eq_getElem?_getD,List.getElem?_eq_getElem hp'] at e
    exact List.mem_of_getElem (h:=hp') e
   obtain⟨k,hk,rfl⟩:=List.mem_map.1 hm
   have:=(List.mem_filter.1 hk).2
   exact of_decide_eq_true this
 . rintro⟨s,hs,rfl⟩
   obtain⟨h1,h2⟩:=h.mark hs
   have hm:mkS m s∈l:=by
    refine List.mem_map.2 ⟨(mkS m s).toNat,List.mem_filter.2 ⟨List.mem_range.2 (by omega),decide_eq_true ⟨s,hs,by omega⟩⟩,by omega⟩
   obtain⟨p,hp',e⟩:=List.getElem_of_mem hm
   refine⟨p,hp',?_⟩
   show l.getD p 0=_
   rw[List.getD_eq_getElem?_getD,List.getElem?_eq_getElem hp']
   exact e
theorem q7J {m:DMo} (h:moOk m) (hn:(m.getD []).length<=12):callV Pg q3W [⟨tMo,m⟩] tL fun r=>LetOk m r:=by
 refine qcU m (LetOk.ex h) ?_
 refine rangeB (n:=(m.getD []).length) (fun i x=>(m,(((m.getD []).length:Int),((i:Int),x)))) (fun i x=>x=optL (tab (mkS m) i)) none rfl rfl (fun p=>p.2.2.1.toNat) (fun _ _=>rfl) (fun _ _ _=>rfl) ?_ ?_
 . rintro k i _ hi rfl hk
   dsimp only
   refine⟨in_s hi,?_,?_⟩
   . show (((optL (tab (mkS m) i)).getD []).length+1)*8<=140737488355328
     rw[q07,tab_len];omega
   . rw[wi1 hi (by omega),q0C]
     refine hk _ ?_
     show appL _ [_]=_
     rw[q0G,q1V]
 . rintro _ _ rfl
   dsimp only
   have hlen:((optL (tab (mkS m) (m.getD []).length)).getD []).length=(m.getD []).length:=by rw[q07,tab_len]
   have hmem:∀ x,mem_ (optL (tab (mkS m) (m.getD []).length)) (m.getD []).length x↔∃ s,s<(m.getD []).length/\mkS m s=x:=by
    intro x
    unfold mem_
    rw[q07]
    constructor
    . rintro⟨p,hp,e⟩;exact⟨p,hp,by rw[<-e];exact (tab_get _ _ _ _ hp).symm⟩
    . rintro⟨p,hp,e⟩;exact⟨p,hp,by rw[<-e];exact tab_get _ _ _ _ hp⟩
   refine s_Sort _ (by rw[hlen];exact hn) (fun c hc=>?_) ?_
   . obtain⟨h1,h2,h3⟩:=hc
     rw[hlen] at h1 h3
     refine q7E c _ h1 (fun p q a b=>h2 p q a (by omega)) (by omega) (fun r hr=>⟨hr.1,fun x=>?_⟩) (LetOk.ex h)
     rw[hr.2 x,h1,h3 x,hmem x]
   . obtain⟨r,hr⟩:=LetOk.ex h
     have hb:(r.getD []).length<=64:=by
      have key:∀ p,p<(r.getD []).length->(p:Int)<=int (r.getD []) p:=by
       intro p
       induction p with
       | zero=>
        intro hp
        obtain⟨s,hs,e⟩:=(hr.2 _).1 ⟨0,hp,rfl⟩
        have:=h.mark hs
        omega
       | succ p ih=>
        intro hp
        have:=ih (by omega)
        have:=hr.1 p (p+1) (by omega) hp
        omega
      rcases Nat.lt_or_ge 64 (r.getD []).length with g | g
      . have:=key 64 g
        obtain⟨s,hs,e⟩:=(hr.2 _).1 ⟨64,g,rfl⟩
        have:=h.mark hs
        omega
      . exact g
     exact⟨r,q7E r _ rfl (fun p q a b=>Int.le_of_lt (hr.1 p q a b)) (by omega) (fun r' hr'=>⟨hr'.1,fun x=>(hr'.2 x).trans (hr.2 x)⟩) (LetOk.ex h)⟩
end Go.Proofs.Pf.B
namespace Go.Proofs.Pf.B
open Go Go.VM
def stp (m:DMo) (y:Nat->Rat) (k:Int):Nat->Rat:=seenQ m (stepQ (rowQ m) y (m.getD []).length) k
def dv (m:DMo) (x:Nat->Rat):List Int->Nat->Rat
 | []=>x
 | k :: v=>v.foldl (stp m) (seenQ m x k)
theorem q32 {m:DMo} {x:Nat->Rat} {p:List Int} (hp:p≠[]) (v:List Int):dv m x (p ++ v)=v.foldl (stp m) (dv m x p):=by
 cases p with
 | nil=>exact absurd rfl hp
 | cons k p=>show (p ++ v).foldl _ _=_;rw[List.foldl_append];rfl
theorem dv_snoc {m:DMo} {x:Nat->Rat} (w:List Int) (k:Int):dv m x (w ++ [k])=seenQ m (if w=[] then x else stepQ (rowQ m) (dv m x w) (m.getD []).length) k:=by
 by_cases h:w=[]
 . subst h;rw[if_pos rfl];rfl
 . rw[q32 h,if_neg h];rfl
def lc (B:Mat) (c:Nat->Rat) (k s:Nat):Rat:=dtQ (fun j=>B j s) c k
theorem q7N (m:DMo) (y z:Nat->Rat) (a:Rat) (k:Int):seenQ m (fun s=>y s+z s*a) k=fun s=>seenQ m y k s+seenQ m z k s*a:=by
 funext s;unfold seenQ;split
 . rfl
 . rw[Rat.zero_mul,Rat.add_zero]
theorem step_lin (P:Mat) (y z:Nat->Rat) (a:Rat) (n:Nat):stepQ P (fun s=>y s+z s*a) n=fun s=>stepQ P y n s+stepQ P z n s*a:=by
 funext t;unfold stepQ
 rw[<-q0k,<-q0T]
 exact q04 n fun s _=>by grind
theorem stp_lin (m:DMo) (y z:Nat->Rat) (a:Rat) (k:Int):stp m (fun s=>y s+z s*a) k=fun s=>stp m y k s+stp m z k s*a:=by
 unfold stp;rw[step_lin,q7N]
theorem seen_zero (m:DMo) (k:Int):seenQ m (fun _=>0) k=fun _=>0:=by funext s;unfold seenQ;split<;>rfl
theorem step_zero (P:Mat) (n:Nat):stepQ P (fun _=>0) n=fun _=>0:=by
 funext t;unfold stepQ
 rw[q04 (g:=fun _=>0) n fun s _=>Rat.zero_mul _,q0U]
theorem q6j (m:DMo) (k:Int):stp m (fun _=>0) k=fun _=>0:=by unfold stp;rw[step_zero,seen_zero]
theorem stp_lc (m:DMo) (B:Mat) (c:Nat->Rat) (a:Int):∀ k,stp m (lc B c k) a=lc (fun j=>stp m (B j) a) c k
 | 0=>q6j m a
 | k+1=>by
  have e:lc B c (k+1)=fun s=>lc B c k s+B k s*c k:=rfl
  rw[e,stp_lin,stp_lc m B c a k];rfl
theorem fold_lc (m:DMo) (c:Nat->Rat) (k:Nat):∀ (v:List Int) (B:Mat),v.foldl (stp m) (lc B c k)=lc (fun j=>v.foldl (stp m) (B j)) c k
 | [],B=>rfl
 | a :: v,B=>by
  show v.foldl (stp m) (stp m (lc B c k) a)=_
  rw[stp_lc,fold_lc m c k v];rfl
theorem sum_lc (B:Mat) (c:Nat->Rat) (n:Nat):∀ k,sumQ (lc B c k) n=dtQ (fun j=>sumQ (B j) n) c k
 | 0=>q0U n
 | k+1=>by
  have e:lc B c (k+1)=fun s=>lc B c k s+B k s*c k:=rfl
  rw[e,q0T,q0k,sum_lc B c n k];rfl
theorem stp_congr {m:DMo} {y z:Nat->Rat} (h:∀ s,s<(m.getD []).length->y s=z s) (k:Int):stp m y k=stp m z k:=by
 unfold stp
 have:stepQ (rowQ m) y (m.getD []).length=stepQ (rowQ m) z (m.getD []).length:=by
  funext t;exact q04 _ fun s hs=>by rw[h s hs]
 rw[this]
theorem fold_congr {m:DMo} {y z:Nat->Rat} (h:∀ s,s<(m.getD []).length->y s=z s) (v:List Int):∀ s,s<(m.getD []).length->v.foldl (stp m) y s=v.foldl (stp m) z s:=by
 cases v with
 | nil=>exact h
 | cons a v=>intro s _;show v.foldl _ (stp m y a) s=v.foldl _ (stp m z a) s;rw[stp_congr h]
theorem q6X (m:DMo) (a:Rat):∀ (v:List Int) (y z:Nat->Rat),v.foldl (stp m) (fun s=>y s+z s*a)=fun s=>v.foldl (stp m) y s+v.foldl (stp m) z s*a
 | [],y,z=>rfl
 | k :: v,y,z=>by show v.foldl (stp m) (stp m _ k)=_;rw[stp_lin,q6X m a v];rfl
theorem dv_lin (m:DMo) (y z:Nat->Rat) (a:Rat) (w:List Int):dv m (fun s=>y s+z s*a) w=fun s=>dv m y w s+dv m z w s*a:=by
 cases w with
 | nil=>rfl
 | cons k v=>show v.foldl (stp m) (seenQ m _ k)=_;rw[q7N,q6X];rfl
def code (w:List Int):Nat:=w.foldl (fun c a=>64*c+a.toNat+1) 0
def mks (w:List Int):Prop:=∀ a,a∈w->markOk a
theorem q0i (w:List Int) (k:Int):code (w ++ [k])=64*code w+k.toNat+1:=by unfold code;rw[List.foldl_append];rfl
theorem fold_lt (v:List Int):∀ {c d:Nat},c<d->v.foldl (fun c a=>64*c+a.toNat+1) c<v.foldl (fun c a=>64*c+a.toNat+1) d:=by
 induction v with
 | nil=>intro c d h;exact h
 | cons a v ih=>intro c d h;exact ih (by show 64*c+a.toNat+1<64*d+a.toNat+1;omega)
theorem fold_ge (v:List Int):∀ c:Nat,c<=v.foldl (fun c a=>64*c+a.toNat+1) c:=by
 induction v with
 | nil=>intro c;exact Nat.le_refl c
 | cons a v ih=>intro c;exact Nat.le_trans (show c<=64*c+a.toNat+1 by omega) (ih _)
theorem code_lt {b p:List Int} (v:List Int) (h:code b<code p):code (b ++ v)<code (p ++ v):=by
 unfold code;rw[List.foldl_append,List.foldl_append];exact fold_lt v h
theorem q6L (p v:List Int):code p<=code (p ++ v):=by unfold code;rw[List.foldl_append];exact fold_ge v _
theorem q5j {w:List Int} (h:w≠[]):1<=code w:=by
 rcases List.eq_nil_or_concat w with e | ⟨v,k,e⟩
 . exact absurd e h
 . rw[e,List.concat_eq_append,q0i];omega
theorem q6K:∀ (n:Nat) {w u:List Int},w.length=n->mks w->mks u->code w=code u->w=u
 | 0,w,u,hn,_,_,h=>by
  have hw:w=[]:=List.eq_nil_of_length_eq_zero hn
  subst hw
  rcases Classical.em (u=[]) with e | e
  . exact e.symm
  . have:=q5j e
    have h0:code []=0:=rfl
    omega
 | n+1,w,u,hn,hw,hu,h=>by
  rcases List.eq_nil_or_concat w with e | ⟨v,k,e⟩
  . subst e;cases hn
  rw[List.concat_eq_append] at e
  subst e
  rcases List.eq_nil_or_concat u with e | ⟨v',k',e⟩
  . subst e
    rw[q0i] at h
    have h0:code []=0:=rfl
    omega
  rw[List.concat_eq_append] at e
  subst e
  rw[q0i,q0i] at h
  have m1:=hw k (by simp)
  have m2:=hu k' (by simp)
  obtain⟨a1,a2⟩:=m1
  obtain⟨b1,b2⟩:=m2
  have e1:code v=code v':=by omega
  have e2:k=k':=by omega
  have:=q6K n (w:=v) (u:=v') (by simpa using hn) (fun a ha=>hw a (by simp[ha])) (fun a ha=>hu a (by simp[ha])) e1
  rw[this,e2]
theorem q3a {α:Type} (f:α->Nat) {P:α->Prop} (h:∃ a,P a):∃ a,P a/\∀ b,P b->f a<=f b:=by
 have key:∀ n,∀ a,P a->f a<=n->∃ a,P a/\∀ b,P b->f a<=f b:=by
  intro n
  induction n with
  | zero=>intro a ha hf;exact⟨a,ha,fun b _=>by omega⟩
  | succ n ih=>
   intro a ha hf
   by_cases g:∃ b,P b/\f b<f a
   . obtain⟨b,hb,hlt⟩:=g
     exact ih b hb (by omega)
   . refine⟨a,ha,fun b hb=>?_⟩
     rcases Nat.lt_or_ge (f b) (f a) with hlt | hge
     . exact absurd ⟨b,hb,hlt⟩ g
     . exact hge
 obtain⟨a,ha⟩:=h
 exact key (f a) a ha (Nat.le_refl _)
def Dist (m:DMo) (x:Nat->Rat) (w:List Int):Prop:=mks w/\sumQ (dv m x w) (m.getD []).length≠0
def q0b (m:DMo) (x:Nat->Rat) (w:List Int):Prop:=Dist m x w/\∀ u,Dist m x u->code w<=code u
theorem q0b.uniq {m:DMo} {x:Nat->Rat} {w u:List Int} (h:q0b m x w) (g:q0b m x u):w=u:=
 q6K _ rfl h.1.1 g.1.1 (Nat.le_antisymm (h.2 u g.1) (g.2 w h.1))
theorem q0b.ex {m:DMo} {x:Nat->Rat} (h:∃ w,Dist m x w):∃ w,q0b m x w:=q3a code h
theorem dt_ne {a c:Nat->Rat}:∀ k,dtQ a c k≠0->∃ j,j<k/\a j≠0
 | 0,h=>absurd rfl h
 | k+1,h=>by
  by_cases e:a k=0
  . have:dtQ a c (k+1)=dtQ a c k:=by show dtQ a c k+a k*c k=_;rw[e,Rat.zero_mul,Rat.add_zero]
    rw[this] at h
    obtain⟨j,hj,e⟩:=dt_ne k h
    exact⟨j,by omega,e⟩
  . exact⟨k,by omega,e⟩
theorem q0b.indep {m:DMo} {x:Nat->Rat} {p v:List Int} (h:q0b m x (p ++ v)) (hp:p≠[]) {k:Nat} {b:Nat->List Int} (hb:∀ j,j<k->b j≠[]/\mks (b j)/\code (b j)<code p):
 ¬ Span (fun j=>dv m x (b j)) k (m.getD []).length (dv m x p):=by
 rintro⟨c,hc⟩
 have h1:=h.1.2
 rw[q32 hp] at h1
 have e:sumQ (v.foldl (stp m) (dv m x p)) (m.getD []).length=dtQ (fun j=>sumQ (dv m x (b j ++ v)) (m.getD []).length) c k:=by
  have e1:∀ s,s<(m.getD []).length->dv m x p s=lc (fun j=>dv m x (b j)) c k s:=fun s hs=>(hc s hs).symm
  rw[q04 _ (fold_congr e1 v),fold_lc,sum_lc]
  exact q04 k fun j hj=>by dsimp only;rw[q32 (hb j hj).1]
 rw[e] at h1
 obtain⟨j,hj,hne⟩:=dt_ne k h1
 obtain⟨b1,b2,b3⟩:=hb j hj
 have hm:mks (b j ++ v):=fun a ha=>by
  rcases List.mem_append.1 ha with g | g
  . exact b2 a g
  . exact h.1.1 a (List.mem_append.2 (.inr g))
 have:=h.2 (b j ++ v) ⟨hm,hne⟩
 have:=code_lt v b3
 omega
theorem nonlead {nl k:Nat} {ld:Nat->Nat} (hinc:∀ i j,i<j->j<nl->ld i<ld j) (h:nl<k):∃ j,j<k/\∀ i,i<nl->ld i≠j:=by
 have lo:∀ i,i<nl->i<=ld i:=by
  intro i
  induction i with
  | zero=>intro _;omega
  | succ i ih=>intro hi;have:=ih (by omega);have:=hinc i (i+1) (by omega) hi;omega
 by_cases g:∃ i,i<nl/\ld i≠i
 . obtain⟨i,⟨h1,h2⟩,h3⟩:=q3a id g
   have h4:=lo i h1
   refine⟨i,by omega,fun t ht e=>?_⟩
   rcases Nat.lt_trichotomy t i with q | q | q
   . by_cases r:ld t=t
     . omega
     . have:=h3 t ⟨ht,r⟩
       have:i<=t:=this
       omega
   . subst q;exact h2 e
   . have:=hinc i t q ht;omega
 . refine⟨nl,h,fun t ht e=>?_⟩
   by_cases r:ld t=t
   . omega
   . exact g ⟨t,ht,r⟩
theorem dep {B:Mat} {d k:Nat} (h:d<k):∃ x:Nat->Rat,(∃ j,j<k/\x j≠0)/\∀ s,s<d->dtQ (fun j=>B j s) x k=0:=by
 obtain⟨M,nl,ld,hr⟩:=Red.ex (fun s j=>B j s) d k k
 have hle:=hr.le
 obtain⟨j,hj,hne⟩:=nonlead hr.inc (by omega:nl<k)
 refine⟨fun t=>if t=j then -1 else leadX M j ld nl t,⟨j,hj,by show (if j=j then (-1:Rat) else _)≠0;rw[if_pos rfl];decide⟩,fun s hs=>?_⟩
 refine (hr.sol _).1 (fun i hi=>?_) s hs
 unfold dtQ
 rcases Nat.lt_or_ge i nl with hlt | hge
 . have e:∀ t,t<k->M i t*(if t=j then -1 else leadX M j ld nl t)=(if ld i=t then M i j else 0)+(if j=t then -(M i j) else 0):=by
    intro t ht
    by_cases g:t=j
    . subst g
      rw[if_pos rfl,if_neg (hne i hlt),if_pos rfl,Rat.mul_neg,Rat.mul_one,Rat.zero_add]
    . rw[if_neg g,if_neg (show ¬ j=t from fun e=>g e.symm),Rat.add_zero]
      by_cases g2:∃ i',i'<nl/\t=ld i'
      . obtain⟨i',hi',rfl⟩:=g2
        rw[q43 hr nl (Nat.le_refl _) i' hi']
        by_cases g3:i=i'
        . subst g3;rw[hr.one i hlt,if_pos rfl,Rat.one_mul]
        . rw[hr.zer i' hi' i hi g3,Rat.zero_mul,if_neg]
          intro e
          rcases Nat.lt_trichotomy i i' with q | q | q
          . have:=hr.inc i i' q hi';omega
          . exact g3 q
          . have:=hr.inc i' i q hlt;omega
      . rw[q5z nl fun i' hi' e=>g2 ⟨i',hi',e⟩,Rat.mul_zero,if_neg fun e=>g2 ⟨i,hlt,e.symm⟩]
   rw[q04 k e,q0T,q19 _ _ (by have:=hr.ldc i hlt;omega),q19 _ _ hj,Rat.add_neg_cancel]
 . exact sum_zero' k fun t ht=>by rw[hr.low i hge hi t ht,Rat.zero_mul]
theorem q5x {B:Mat} {d k:Nat} (h:∀ j,j<k->¬ Span B j d (B j)):k<=d:=by
 rcases Nat.lt_or_ge d k with hlt | hge
 . exfalso
   obtain⟨x,hx,h0⟩:=dep (B:=B) hlt
   obtain⟨j,⟨hj,hne⟩,hmax⟩:=q3a (fun j=>k - j) hx
   refine h j hj ⟨fun i=>-(x i) / x j,fun s hs=>?_⟩
   have e:∀ t,j<t->t<=k->dtQ (fun i=>B i s) x t=dtQ (fun i=>B i s) x (j+1):=by
    intro t
    induction t with
    | zero=>intro h _;omega
    | succ t ih=>
     intro h1 h2
     by_cases g:t=j
     . subst g;rfl
     . have hz:x t=0:=by
        by_cases hz:x t=0
        . exact hz
        . have:=hmax t ⟨by omega,hz⟩
          omega
       show dtQ _ x t+B t s*x t=_
       rw[hz,Rat.mul_zero,Rat.add_zero]
       exact ih (by omega) (by omega)
   have h1:=h0 s hs
   rw[e k (by omega) (Nat.le_refl _)] at h1
   have h1:dtQ (fun i=>B i s) x j+B j s*x j=0:=h1
   have e2:dtQ (fun i=>B i s) (fun i=>-(x i) / x j) j = -(dtQ (fun i=>B i s) x j) / x j:=by
    unfold dtQ
    rw[Rat.div_def,Rat.neg_mul,<-q0k]
    have:-(sumQ (fun i=>B i s*x i*(x j)⁻¹) j)=sumQ (fun i=>B i s*x i * -((x j)⁻¹)) j:=by
     rw[q0k,q0k,Rat.mul_neg]
    rw[this]
    exact q04 j fun i _=>by dsimp only;rw[Rat.div_def];grind
   rw[e2,Rat.div_def]
   have h2:-(dtQ (fun i=>B i s) x j)=B j s*x j:=by grind
   rw[h2,Rat.mul_assoc,Rat.mul_inv_cancel _ hne,Rat.mul_one]
 . exact hge
theorem indep_sum {B:Mat} {n k:Nat} (hn:1<=n) (h0:∀ j,j<k->sumQ (B j) n=0) (h:∀ j,j<k->¬ Span B j n (B j)):k<=n - 1:=by
 refine q5x (B:=B) fun j hj=>fun ⟨c,hc⟩=>h j hj ⟨c,fun s hs=>?_⟩
 rcases Nat.lt_or_ge s (n - 1) with hlt | hge
 . exact hc s hlt
 . obtain rfl:s=n - 1:=by omega
   have e1:sumQ (lc B c j) n=0:=by
    rw[sum_lc]
    exact sum_zero' j fun i hi=>by dsimp only;rw[h0 i (by omega),Rat.zero_mul]
   have e2:=h0 j hj
   obtain⟨n',rfl⟩:∃ n',n=n'+1:=⟨n - 1,by omega⟩
   rw[Nat.add_sub_cancel] at hc ⊢
   have e1:sumQ (lc B c j) n'+lc B c j n'=0:=e1
   have e2:sumQ (B j) n'+B j n'=0:=e2
   have e3:sumQ (lc B c j) n'=sumQ (B j) n':=q04 n' fun s hs=>hc s hs
   show lc B c j n'=B j n'
   grind
theorem q0b.len {m:DMo} {x:Nat->Rat} {w:List Int} (h:q0b m x w) (h0:sumQ x (m.getD []).length=0) (hn:1<=(m.getD []).length):w.length<=(m.getD []).length:=by
 have key:w.length - 1<=(m.getD []).length - 1:=by
  have pre:∀ j,j<w.length->w=w.take (j+1) ++ w.drop (j+1):=fun j _=>(List.take_append_drop _ _).symm
  have ne:∀ j,j<w.length->w.take (j+1)≠[]:=fun j hj e=>by
   have:=congrArg List.length e
   rw[List.length_take] at this
   have:min (j+1) w.length=0:=this
   omega
  have hmk:∀ j,mks (w.take j):=fun j a ha=>h.1.1 a (List.mem_of_mem_take ha)
  have clt:∀ i j,i<j->j<=w.length->code (w.take i)<code (w.take j):=by
   intro i j hij hj
   have e:w.take j=w.take i ++ (w.take j).drop i:=by
    conv=>lhs;rw[<-List.take_append_drop i (w.take j)]
    rw[List.take_take,Nat.min_eq_left (by omega)]
   have hne:(w.take j).drop i≠[]:=fun e=>by
    have:=congrArg List.length e
    rw[List.length_drop,List.length_take] at this
    have:min j w.length - i=0:=this
    omega
   rw[e]
   rcases List.eq_nil_or_concat ((w.take j).drop i) with g | ⟨v,k,g⟩
   . exact absurd g hne
   . rw[g,List.concat_eq_append,<-List.append_assoc,q0i]
     have:=q6L (w.take i) v
     omega
  refine indep_sum (B:=fun j=>dv m x (w.take (j+1))) hn (fun j hj=>?_) fun j hj=>?_
  . by_cases g:sumQ (dv m x (w.take (j+1))) (m.getD []).length=0
    . exact g
    . have h1:=h.2 _ ⟨hmk _,g⟩
      have h2:=clt (j+1) w.length (by omega) (Nat.le_refl _)
      rw[List.take_length] at h2
      omega
  . have hp:=pre j (by omega)
    rw[hp] at h
    exact h.indep (ne j (by omega)) (b:=fun i=>w.take (i+1)) fun i hi=>⟨ne i (by omega),hmk _,clt _ _ (by omega) (by omega)⟩
 rcases Nat.eq_zero_or_pos w.length with g | g
 . omega
 . omega
end Go.Proofs.Pf.B
namespace Go.Proofs.Pf.B
open Go Go.VM
theorem FB.stpB {m:DMo} {e b:Nat} {y:Nat->Rat} (hm:moOk m) (hy:FB (m.getD []).length e y) (hb:MB (m.getD []).length b (rowQ m)) (k:Int):FB (m.getD []).length (e+(b+1)) (stp m y k):=
 (hy.step hb (Nat.le_trans hm.1.2 (by decide)) (Nat.le_refl _)).seen k
theorem fold_fb {m:DMo} {b:Nat} (hm:moOk m) (hb:MB (m.getD []).length b (rowQ m)):∀ (v:List Int) {e:Nat} {y:Nat->Rat},FB (m.getD []).length e y->FB (m.getD []).length (e+v.length*(b+1)) (v.foldl (stp m) y)
 | [],e,y,h=>h.mono (by simp)
 | k :: v,e,y,h=>by
  refine (fold_fb hm hb v (h.stpB hm hb k)).mono ?_
  rw[List.length_cons,Nat.succ_mul];omega
theorem dv_fb {m:DMo} {e b:Nat} {x:Nat->Rat} (hm:moOk m) (hx:FB (m.getD []).length e x) (hb:MB (m.getD []).length b (rowQ m)) (w:List Int):FB (m.getD []).length (e+w.length*(b+1)) (dv m x w):=by
 cases w with
 | nil=>exact hx.mono (by omega)
 | cons k v=>refine (fold_fb hm hb v (hx.seen k)).mono ?_;rw[List.length_cons,Nat.succ_mul];omega
def ptQ (s i:Nat):Rat:=if s=i then 1 else 0
def prQ (s t:Nat):Nat->Rat:=fun i=>ptQ s i+ptQ t i*(-1)
theorem prQ_fb (n s t:Nat):FB n 1 (prQ s t):=⟨1,by decide,by decide,fun i _=>by
 have h1:∀ a,QD 1 1 (ptQ a i):=fun a=>by unfold ptQ;split;exact QD.one 1;exact QD.zero _ _
 have e:prQ s t i=ptQ s i - ptQ t i:=by unfold prQ;rw[Rat.sub_eq_add_neg,Rat.mul_neg,Rat.mul_one]
 rw[e];exact ((h1 s).sub (h1 t)).mono (by decide)⟩
theorem prQ_sum {n s t:Nat} (hs:s<n) (ht:t<n):sumQ (prQ s t) n=0:=by
 have h:∀ a,a<n->sumQ (ptQ a) n=1:=fun a ha=>q19 1 n ha
 unfold prQ
 rw[q0T,q0k,h s hs,h t ht,Rat.one_mul,Rat.add_neg_cancel]
theorem q74 (e:Nat):∀ c,growE e c+1=(e+1)*2 ^ c
 | 0=>by simp[growE]
 | c+1=>by
  have:=q74 e c
  show 2*growE e c+1+1=_
  rw[Nat.pow_succ,<-Nat.mul_assoc,<-this];omega
theorem growE_le {k:Nat} (hk:k<=9):growE ((k+2)*1000) k<=50000000:=by
 have h1:=q74 ((k+2)*1000) k
 have h2:2 ^ k<=2 ^ 9:=Nat.pow_le_pow_right (by decide) hk
 have h3:((k+2)*1000+1)*2 ^ k<=11001*2 ^ 9:=Nat.mul_le_mul (by omega) h2
 have h4:(11001*2 ^ 9:Nat)=5632512:=by decide
 omega
def DepP (m:DMo) (x:Nat->Rat) (p:List Int):Prop:=∃ (k:Nat) (b:Nat->List Int),(∀ j,j<k->b j≠[]/\mks (b j)/\code (b j)<code p)/\Span (fun j=>dv m x (b j)) k (m.getD []).length (dv m x p)
def occ (m:DMo) (w:List Int):Prop:=∀ a,a∈w->∃ s,s<(m.getD []).length/\mkS m s=a
theorem occ.mks {m:DMo} (h:moOk m) {w:List Int} (g:occ m w):mks w:=fun a ha=>by
 obtain⟨s,hs,rfl⟩:=g a ha
 exact h.mark hs
theorem seen_not {m:DMo} {k:Int} (h:¬ ∃ s,s<(m.getD []).length/\mkS m s=k) (y:Nat->Rat):∀ s,s<(m.getD []).length->seenQ m y k s=0:=fun s hs=>by
 unfold seenQ
 rw[if_neg fun e=>h ⟨s,hs,e⟩]
theorem Dist.occ {m:DMo} {x:Nat->Rat} {w:List Int} (h:Dist m x w):occ m w:=by
 intro a ha
 by_cases g:∃ s,s<(m.getD []).length/\mkS m s=a
 . exact g
 . exfalso
   obtain⟨p,v,rfl⟩:=List.append_of_mem ha
   refine h.2 ?_
   have e:p ++ a :: v=(p ++ [a]) ++ v:=by simp
   rw[e,q32 (by simp),dv_snoc]
   rw[q04 _ (fold_congr (m:=m) (z:=fun _=>0) (seen_not g _) v)]
   have z:∀ v:List Int,v.foldl (stp m) (fun _=>0)=fun _=>0:=by
    intro v
    induction v with
    | nil=>rfl
    | cons k v ih=>show v.foldl (stp m) (stp m _ k)=_;rw[q6j,ih]
   rw[z];exact q0U _
structure ApI (m:DMo) (x:Nat->Rat) (W bs:List (List Int)):Prop where
 wv:∀ w,w∈W->w≠[]/\occ m w/\w.length<=bs.length+1
 inc:W.Pairwise fun w u=>code w<code u
 gap:∀ w,w∈W->∀ u,u∈W->code u<=64*code w
 bv:∀ b,b∈bs->b≠[]/\occ m b/\b.length<=bs.length/\sumQ (dv m x b) (m.getD []).length=0
 blt:∀ b,b∈bs->∀ w,w∈W->code b<code w
 ind:∀ j,j<bs.length->¬ Span (fun i=>dv m x (bs.getD i [])) j (m.getD []).length (dv m x (bs.getD j []))
 cov:∀ u,u≠[]->occ m u->(∃ w v,w∈W/\u=w ++ v)∨u∈bs∨∃ p v,u=p ++ v/\p≠[]/\DepP m x p
theorem ApI.size {m:DMo} {x:Nat->Rat} {W bs:List (List Int)} (h:ApI m x W bs):bs.length<=(m.getD []).length:=q5x (B:=fun j=>dv m x (bs.getD j [])) h.ind
theorem q5D {α:Type} {l:List α} {d x:α} (h:x∈l):∃ i,i<l.length/\l.getD i d=x:=by
 obtain⟨i,hi,e⟩:=List.getElem_of_mem h
 exact⟨i,hi,by rw[List.getD_eq_getElem?_getD,List.getElem?_eq_getElem hi];exact e⟩
theorem mem_of_getD {α:Type} {l:List α} {d:α} {i:Nat} (h:i<l.length):l.getD i d∈l:=by
 rw[List.getD_eq_getElem?_getD,List.getElem?_eq_getElem h];exact List.getElem_mem h
def exts (w:List Int) (ls:List Int):List (List Int):=ls.map fun k=>w ++ [k]
theorem ApI.start {m:DMo} {x:Nat->Rat} {ls:DL} (hm:moOk m) (hl:LetOk m ls):ApI m x (exts [] (ls.getD [])) []:=by
 obtain⟨h1,h2⟩:=hl
 have oc:∀ k,k∈ls.getD []->∃ s,s<(m.getD []).length/\mkS m s=k:=fun k hk=>by
  obtain⟨i,hi,e⟩:=q5D (d:=0) hk
  exact (h2 k).1 ⟨i,hi,e⟩
 have cd:∀ k:Int,code ([] ++ [k])=k.toNat+1:=fun k=>by rw[q0i];show 64*0+_+1=_;omega
 refine⟨fun w hw=>?_,?_,fun w hw u hu=>?_,fun b hb=>(by cases hb),fun b hb=>(by cases hb),fun j hj=>(by cases hj),fun u hu ho=>?_⟩
 . obtain⟨k,hk,rfl⟩:=List.mem_map.1 hw
   refine⟨by simp,fun a ha=>?_,by simp⟩
   have:a=k:=by simpa using ha
   subst this;exact oc a hk
 . refine List.pairwise_map.2 (List.pairwise_iff_getElem.2 fun i j hi hj hij=>?_)
   have:=h1 i j hij hj
   simp only[List.getD_eq_getElem?_getD,List.getElem?_eq_getElem hi,List.getElem?_eq_getElem hj,Option.getD_some] at this
   obtain⟨s,hs,e⟩:=oc _ (List.getElem_mem hi)
   obtain⟨m1,m2⟩:=hm.mark hs
   rw[cd,cd];omega
 . obtain⟨k,hk,rfl⟩:=List.mem_map.1 hw
   obtain⟨k',hk',rfl⟩:=List.mem_map.1 hu
   rw[cd,cd]
   obtain⟨s,hs,e⟩:=oc _ hk'
   obtain⟨m1,m2⟩:=hm.mark hs
   omega
 . cases u with
   | nil=>exact absurd rfl hu
   | cons a v=>
    refine .inl ⟨[a],v,List.mem_map.2 ⟨a,?_,rfl⟩,rfl⟩
    obtain⟨p,hp,e⟩:=(h2 a).2 (ho a (by simp))
    rw[<-e];exact mem_of_getD hp
theorem ApI.drop {m:DMo} {x:Nat->Rat} {w:List Int} {W bs:List (List Int)} (hm:moOk m) (h:ApI m x (w :: W) bs) (hs:Span (fun j=>dv m x (bs.getD j [])) bs.length (m.getD []).length (dv m x w)):ApI m x W bs:=by
 refine⟨fun u hu=>h.wv u (by simp[hu]),(List.pairwise_cons.1 h.inc).2,fun a ha b hb=>h.gap a (by simp[ha]) b (by simp[hb]),h.bv,fun b hb u hu=>h.blt b hb u (by simp[hu]),h.ind,fun u hu ho=>?_⟩
 rcases h.cov u hu ho with ⟨q,v,hq,rfl⟩ | g | g
 . rcases List.mem_cons.1 hq with e | hq
   . subst e
     refine .inr (.inr ⟨q,v,rfl,(h.wv q (by simp)).1,bs.length,fun j=>bs.getD j [],fun j hj=>?_,hs⟩)
     have hb:=mem_of_getD (d:=[]) hj
     exact⟨(h.bv _ hb).1,(h.bv _ hb).2.1.mks hm,h.blt _ hb q (by simp)⟩
   . exact .inl ⟨q,v,hq,rfl⟩
 . exact .inr (.inl g)
 . exact .inr (.inr g)
theorem ApI.keep {m:DMo} {x:Nat->Rat} {w:List Int} {W bs:List (List Int)} {ls:DL} (hm:moOk m) (hl:LetOk m ls) (h:ApI m x (w :: W) bs) (h0:sumQ (dv m x w) (m.getD []).length=0) (hs:¬ Span (fun j=>dv m x (bs.getD j [])) bs.length (m.getD []).length (dv m x w)):
 ApI m x (W ++ exts w (ls.getD [])) (bs ++ [w]):=by
 obtain⟨h1,h2⟩:=hl
 have oc:∀ k,k∈ls.getD []->∃ s,s<(m.getD []).length/\mkS m s=k:=fun k hk=>by
  obtain⟨i,hi,e⟩:=q5D (d:=0) hk
  exact (h2 k).1 ⟨i,hi,e⟩
 have ok:∀ k,k∈ls.getD []->0<=k/\k<64:=fun k hk=>by
  obtain⟨s,hs,e⟩:=oc k hk
  rw[<-e];exact hm.mark hs
 obtain⟨hw1,hw2,hw3⟩:=h.wv w (by simp)
 have hc1:=q5j hw1
 have hwlt:∀ u,u∈W->code w<code u:=fun u hu=>(List.pairwise_cons.1 h.inc).1 u hu
 have hgap:∀ u,u∈W->code u<=64*code w:=fun u hu=>h.gap w (by simp) u (by simp[hu])
 have hlen:(bs ++ [w]).length=bs.length+1:=by simp
 refine⟨fun u hu=>?_,?_,fun a ha b hb=>?_,fun b hb=>?_,fun b hb u hu=>?_,fun j hj=>?_,fun u hu ho=>?_⟩
 . rcases List.mem_append.1 hu with hu | hu
   . obtain⟨a,b,c⟩:=h.wv u (by simp[hu])
     exact⟨a,b,by omega⟩
   . obtain⟨k,hk,rfl⟩:=List.mem_map.1 hu
     refine⟨by simp,fun a ha=>?_,by rw[List.length_append,List.length_singleton];omega⟩
     rcases List.mem_append.1 ha with g | g
     . exact hw2 a g
     . have:a=k:=by simpa using g
       subst this;exact oc a hk
 . refine List.pairwise_append.2 ⟨(List.pairwise_cons.1 h.inc).2,?_,fun a ha b hb=>?_⟩
   . refine List.pairwise_map.2 (List.pairwise_iff_getElem.2 fun i j hi hj hij=>?_)
     have:=h1 i j hij hj
     simp only[List.getD_eq_getElem?_getD,List.getElem?_eq_getElem hi,List.getElem?_eq_getElem hj,Option.getD_some] at this
     have:=ok _ (List.getElem_mem hi)
     rw[q0i,q0i];omega
   . obtain⟨k,hk,rfl⟩:=List.mem_map.1 hb
     have:=hgap a ha
     rw[q0i];omega
 . have hi:∀ u,u∈W ++ exts w (ls.getD [])->code w<code u/\code u<=64*code w+64:=fun u hu=>by
    rcases List.mem_append.1 hu with hu | hu
    . have:=hwlt u hu
      have:=hgap u hu
      omega
    . obtain⟨k,hk,rfl⟩:=List.mem_map.1 hu
      have:=ok k hk
      rw[q0i];omega
   have:=hi a ha
   have:=hi b hb
   omega
 . rcases List.mem_append.1 hb with hb | hb
   . obtain⟨a,b,c,d⟩:=h.bv b hb
     exact⟨a,b,by omega,d⟩
   . have:b=w:=by simpa using hb
     subst this
     exact⟨hw1,hw2,by omega,h0⟩
 . have hlt:code b<=code w:=by
    rcases List.mem_append.1 hb with hb | hb
    . exact Nat.le_of_lt (h.blt b hb w (by simp))
    . have:b=w:=by simpa using hb
      subst this;exact Nat.le_refl _
   rcases List.mem_append.1 hu with hu | hu
   . have:=hwlt u hu;omega
   . obtain⟨k,hk,rfl⟩:=List.mem_map.1 hu
     rw[q0i];omega
 . have hlt:∀ i,i<bs.length->(bs ++ [w]).getD i []=bs.getD i []:=fun i hi=>by
    rw[List.getD_eq_getElem?_getD,List.getElem?_append_left hi,<-List.getD_eq_getElem?_getD]
   have hat:(bs ++ [w]).getD bs.length []=w:=by
    rw[List.getD_eq_getElem?_getD,List.getElem?_append_right (Nat.le_refl _),Nat.sub_self];rfl
   have sc:∀ {j:Nat} {v:Nat->Rat},j<=bs.length->Span (fun i=>dv m x ((bs ++ [w]).getD i [])) j (m.getD []).length v->Span (fun i=>dv m x (bs.getD i [])) j (m.getD []).length v:=by
    rintro j v hj ⟨c,hc⟩
    refine⟨c,fun s hs=>?_⟩
    rw[<-hc s hs]
    exact q1H j (fun i hi=>by dsimp only;rw[hlt i (by omega)]) fun _ _=>rfl
   intro g
   rw[hlen] at hj
   rcases Nat.lt_or_ge j bs.length with q | q
   . rw[hlt j q] at g;exact h.ind j q (sc (by omega) g)
   . obtain rfl:j=bs.length:=by omega
     rw[hat] at g;exact hs (sc (Nat.le_refl _) g)
 . rcases h.cov u hu ho with ⟨q,v,hq,rfl⟩ | g | g
   . rcases List.mem_cons.1 hq with e | hq
     . subst e
       cases v with
       | nil=>exact .inr (.inl (by simp))
       | cons k v=>
        refine .inl ⟨q ++ [k],v,List.mem_append.2 (.inr (List.mem_map.2 ⟨k,?_,rfl⟩)),by simp⟩
        obtain⟨p,hp,e⟩:=(h2 k).2 (ho k (by simp))
        rw[<-e];exact mem_of_getD hp
     . exact .inl ⟨q,v,List.mem_append.2 (.inl hq),rfl⟩
   . exact .inr (.inl (List.mem_append.2 (.inl g)))
   . exact .inr (.inr g)
theorem ApI.find {m:DMo} {x:Nat->Rat} {W bs:List (List Int)} (h:ApI m x W bs) (h0:sumQ x (m.getD []).length=0) {u:List Int} (hu:q0b m x u):∃ w,w∈W/\code w<=code u:=by
 have hne:u≠[]:=by
  rintro rfl
  exact hu.1.2 h0
 rcases h.cov u hne hu.1.occ with ⟨q,v,hq,rfl⟩ | g | ⟨p,v,rfl,hp,k,b,hb,hs⟩
 . exact⟨q,hq,q6L q v⟩
 . exact absurd (h.bv u g).2.2.2 hu.1.2
 . exact absurd hs (hu.indep hp hb)
theorem ApI.hit {m:DMo} {x:Nat->Rat} {w:List Int} {W bs:List (List Int)} (hm:moOk m) (h:ApI m x (w :: W) bs) (h0:sumQ x (m.getD []).length=0) (h1:sumQ (dv m x w) (m.getD []).length≠0):q0b m x w:=by
 refine⟨⟨(h.wv w (by simp)).2.1.mks hm,h1⟩,fun u hu=>?_⟩
 obtain⟨l,hl⟩:=q0b.ex ⟨u,hu⟩
 obtain⟨q,hq,hc⟩:=h.find h0 hl
 have:=hl.2 u hu
 rcases List.mem_cons.1 hq with e | hq
 . subst e;omega
 . have:=(List.pairwise_cons.1 h.inc).1 q hq
   omega
theorem ApI.none {m:DMo} {x:Nat->Rat} {bs:List (List Int)} (h:ApI m x [] bs) (h0:sumQ x (m.getD []).length=0) (w:List Int):¬ Dist m x w:=fun hw=>by
 obtain⟨l,hl⟩:=q0b.ex ⟨w,hw⟩
 obtain⟨q,hq,_⟩:=h.find h0 hl
 cases hq
end Go.Proofs.Pf.B
namespace Go.Proofs.Pf.B
open Go Go.VM
theorem s_CloneI (a:DL) (hn:(a.getD []).length<=1000000):ownV Pg q56 [⟨tL,a⟩] tI fun p=>p=a:=by
 refine qco a ⟨_,rfl⟩ (br_c (fun h=>?_) fun h=>⟨?_,?_⟩)
 . cases a with
   | none=>rfl
   | some l=>cases h
 . cases a with
   | none=>cases h
   | some l=>
    have h1:l.length<=1000000:=hn
    show (0+l.length)*8<=140737488355328
    omega
 . cases a with
   | none=>cases h
   | some l=>rfl
abbrev DW:=DL×(Option (List DR))
abbrev w0:DW:=(none,none)
def RQ (m:DMo) (x:Nat->Rat) (q:Option (List DW)) (W:List (List Int)):Prop:=(q.getD []).length=W.length/\∀ i,i<W.length->((q.getD []).getD i w0).1=optL (W.getD i [])/\RL ((q.getD []).getD i w0).2 (dv m x (W.getD i [])) (m.getD []).length
theorem RQ.app {m:DMo} {x:Nat->Rat} {q:Option (List DW)} {W:List (List Int)} {w:List Int} {z:DW} (h:RQ m x q W) (h1:z.1=optL w) (h2:RL z.2 (dv m x w) (m.getD []).length):RQ m x (appL q [z]) (W ++ [w]):=by
 obtain⟨g1,g2⟩:=h
 have e:(appL q [z]).getD []=q.getD [] ++ [z]:=by cases q<;>rfl
 refine⟨by rw[e,List.length_append,List.length_append,g1];rfl,fun i hi=>?_⟩
 rw[e]
 rcases Nat.lt_or_ge i W.length with hlt | hge
 . rw[List.getD_eq_getElem?_getD,List.getElem?_append_left (by omega),<-List.getD_eq_getElem?_getD]
   rw[List.getD_eq_getElem?_getD (l:=W ++ [w]),List.getElem?_append_left hlt,<-List.getD_eq_getElem?_getD]
   exact g2 i hlt
 . have hi:i<W.length+1:=by simpa using hi
   obtain rfl:i=W.length:=by omega
   rw[List.getD_eq_getElem?_getD,List.getElem?_append_right (by omega),g1,Nat.sub_self]
   rw[List.getD_eq_getElem?_getD (l:=W ++ [w]),List.getElem?_append_right (by omega),Nat.sub_self]
   exact⟨h1,h2⟩
theorem RQ.tail {m:DMo} {x:Nat->Rat} {q:Option (List DW)} {w:List Int} {W:List (List Int)} {n:Nat} (h:RQ m x q (w :: W)) (hn:(q.getD []).length=n):RQ m x (slcS q 1 (n:Int)) W:=by
 obtain⟨g1,g2⟩:=h
 cases q with
 | none=>simp at g1
 | some l=>
  cases l with
  | nil=>simp at g1
  | cons a l=>
   have e:(slcS (some (a :: l)) 1 (n:Int)).getD []=l:=by
    have hn:(a :: l).length=n:=hn
    show ((a :: l).take (n:Int).toNat).drop (1:Int).toNat=l
    rw[Int.toNat_natCast,<-hn,List.take_length];rfl
   refine⟨?_,fun i hi=>?_⟩
   . rw[e]
     have:l.length+1=W.length+1:=g1
     omega
   . rw[e]
     have:=g2 (i+1) (by show i+1<W.length+1;omega)
     exact this
theorem RQ.head {m:DMo} {x:Nat->Rat} {q:Option (List DW)} {w:List Int} {W:List (List Int)} (h:RQ m x q (w :: W)):(eltN w0 q 0).1=optL w/\RL (eltN w0 q 0).2 (dv m x w) (m.getD []).length:=h.2 0 (by show 0<W.length+1;omega)
def apOk (m:DMo) (s t:Nat) (r:DL×(Int×Unit)):Prop:=(∃ w,q0b m (prQ s t) w/\r=(some w,(0,())))∨((∀ w,¬ Dist m (prQ s t) w)/\r=(none,(5,())))
theorem apOk.ex (m:DMo) (s t:Nat):∃ r,apOk m s t r:=by
 by_cases h:∃ w,Dist m (prQ s t) w
 . obtain⟨w,hw⟩:=q0b.ex h
   exact⟨_,.inl ⟨w,hw,rfl⟩⟩
 . exact⟨_,.inr ⟨fun w hw=>h ⟨w,hw⟩,rfl⟩⟩
def onlyQ (m:DMo):Int:=if moOk m then (if single m then 0 else 7) else 1
def inM (m:DMo) (s:Int):Prop:=0<=s/\s<((m.getD []).length:Int)
instance (m:DMo) (s:Int):Decidable (inM m s):=by unfold inM;infer_instance
def apartOk (m:DMo) (s t:Int) (r:DL×(Int×Unit)):Prop:=
 if onlyQ m=0 then (if inM m s/\inM m t then apOk m s.toNat t.toNat r else r=(none,(6,()))) else r=(none,(onlyQ m,()))
theorem apartOk.ex (m:DMo) (s t:Int):∃ r,apartOk m s t r:=by
 unfold apartOk
 split
 . split
   . exact apOk.ex _ _ _
   . exact⟨_,rfl⟩
 . exact⟨_,rfl⟩
theorem LetOk.len {m:DMo} {r:DL} (h:moOk m) (hr:LetOk m r):(r.getD []).length<=64:=by
 have key:∀ p,p<(r.getD []).length->(p:Int)<=int (r.getD []) p:=by
  intro p
  induction p with
  | zero=>
   intro hp
   obtain⟨s,hs,e⟩:=(hr.2 _).1 ⟨0,hp,rfl⟩
   have:=h.mark hs
   omega
  | succ p ih=>
   intro hp
   have:=ih (by omega)
   have:=hr.1 p (p+1) (by omega) hp
   omega
 rcases Nat.lt_or_ge 64 (r.getD []).length with g | g
 . have:=key 64 g
   obtain⟨s,hs,e⟩:=(hr.2 _).1 ⟨64,g,rfl⟩
   have:=h.mark hs
   omega
 . exact g
theorem exts_take (w:List Int) (l:List Int) (i:Nat) (h:i<l.length):exts w (l.take (i+1))=exts w (l.take i) ++ [w ++ [int l i]]:=by
 unfold exts
 rw[List.take_add_one,List.map_append,List.getElem?_eq_getElem h]
 have:int l i=l[i]:=by show l.getD i 0=_;rw[List.getD_eq_getElem?_getD,List.getElem?_eq_getElem h];rfl
 rw[this];rfl
def ApL (m:DMo) (x:Nat->Rat) (q:Option (List DW)) (bas:Option (List (Option (List DR)))) (W bs:List (List Int)):Prop:=
 RQ m x q W/\RLL bas (fun j=>dv m x (bs.getD j [])) bs.length (m.getD []).length/\((W=[[]]/\bs=[])∨(ApI m x W bs/\W.length<=64*(bs.length+1)))
def apMu (n:Nat) (W:List (List Int)) (b:Nat):Nat:=if W=[[]] then 100*(n+2) else 100*(n+1 - b)+W.length
abbrev DH:=Option Nat×Option (List DR)
def qv (rows:List (List Int)) (q:Option (List DH)):Option (List DW):=q.map (List.map fun e=>(unH rows e.1,e.2))
def hOk (rows:List (List Int)) (h:Option Nat):Prop:=∀ n,h=some n->n<rows.length
def qOk (rows:List (List Int)) (q:Option (List DH)):Prop:=∀ e,e∈q.getD []->hOk rows e.1
theorem qv_len (rows:List (List Int)) (q:Option (List DH)):((qv rows q).getD []).length=(q.getD []).length:=by
 cases q with
 | none=>rfl
 | some l=>exact List.length_map _
theorem qv_slc (rows:List (List Int)) (q:Option (List DH)) (a b:Int):qv rows (slcS q a b)=slcS (qv rows q) a b:=by
 cases q with
 | none=>rfl
 | some l=>simp only[qv,slcS,Option.map_some,List.map_take,List.map_drop]
theorem qv_hd (rows:List (List Int)) (q:Option (List DH)):eltN w0 (qv rows q) 0=(unH rows (eltN ((none,none):DH) q 0).1,(eltN ((none,none):DH) q 0).2):=by
 cases q with
 | none=>rfl
 | some l=>cases l<;>rfl
theorem q7W {rows:List (List Int)} {h:Option Nat} (l:DL) (hh:hOk rows h):unH (gvL rows l) h=unH rows h:=by
 cases h with
 | none=>rfl
 | some n=>
  have hn:=hh n rfl
  show some ((rows ++ _).getD n [])=some _
  rw[List.getD_eq_getElem?_getD,List.getElem?_append_left hn,<-List.getD_eq_getElem?_getD]
theorem hOk.more {rows:List (List Int)} {h:Option Nat} (l:DL) (hh:hOk rows h):hOk (gvL rows l) h:=fun n e=>by
 have:=hh n e
 show n<(rows ++ _).length
 rw[List.length_append];omega
theorem unH_new (rows:List (List Int)) (l:List Int):unH (gvL rows (some l)) (some (lenL rows))=some l:=by
 show some ((rows ++ [l]).getD rows.length [])=_
 rw[List.getD_eq_getElem?_getD,List.getElem?_append_right (Nat.le_refl _),Nat.sub_self];rfl
theorem qv_app {rows:List (List Int)} {q:Option (List DH)} {l:List Int} {v:Option (List DR)} (hq:qOk rows q):
 qv (gvL rows (some l)) (appL q [(some (lenL rows),v)])=appL (qv rows q) [(some l,v)]/\qOk (gvL rows (some l)) (appL q [(some (lenL rows),v)]):=by
 have e:(appL q [((some (lenL rows),v):DH)]).getD []=q.getD [] ++ [(some (lenL rows),v)]:=by cases q<;>rfl
 refine⟨?_,fun x hx=>?_⟩
 . cases q with
   | none=>show some [(unH (gvL rows (some l)) (some (lenL rows)),v)]=_;rw[unH_new];rfl
   | some y=>
    show some (List.map _ (y ++ [_]))=some (List.map _ y ++ _)
    rw[List.map_append,List.map_cons,List.map_nil,unH_new]
    congr 2
    refine List.map_congr_left fun x hx=>?_
    rw[q7W _ (hq x hx)]
 . rw[e] at hx
   rcases List.mem_append.1 hx with hx | hx
   . exact (hq x hx).more _
   . obtain rfl:=List.mem_singleton.1 hx
     intro n e
     obtain rfl:=Option.some.inj e
     show rows.length<(rows ++ [l]).length
     simp
theorem szH_eq (rows:List (List Int)) (h:Option Nat):szH rows h=szSl (unH rows h):=by
 cases h with
 | none=>simp[szH,rowS,szSl,unH]
 | some n=>rfl
theorem q5W (m:DMo) (b c:Int) (hn9:moOk m->(m.getD []).length<=9):lendV Pg q29 3 q2y (m,b,c) fun q=>apartOk m b c (unH q.2.2 q.1,(q.2.1,()))/\hOk q.2.2 q.1:=by
 refine qcC (Q:=fun q=>apartOk m b c (unH q.2.2 q.1,(q.2.1,()))/\hOk q.2.2 q.1) m b c (by
  obtain⟨⟨r,e,_⟩,h⟩:=apartOk.ex m b c
  cases r with
  | none=>exact⟨(none,(e,[])),h,fun n e=>by cases e⟩
  | some l=>exact⟨(some 0,(e,[l])),h,fun n e=>by cases e;exact Nat.zero_lt_one⟩) ((q60 m).mono ?_)
 rintro _ rfl
 by_cases hm:moOk m
 case neg=>
  rw[decide_eq_false hm]
  have e:onlyQ m=1:=if_neg hm
  refine br_t rfl ?_
  refine⟨?_,fun n e=>by cases e⟩
  show apartOk m b c (none,(_,()))
  unfold apartOk
  rw[e,if_neg (by decide)]
 rw[decide_eq_true hm]
 refine br_f rfl ((q5Y hm).mono ?_)
 rintro _ rfl
 by_cases hc:single m
 case neg=>
  rw[decide_eq_false hc]
  have e:onlyQ m=7:=by rw[onlyQ,if_pos hm,if_neg hc]
  refine br_t rfl ?_
  refine⟨?_,fun n e=>by cases e⟩
  show apartOk m b c (none,(_,()))
  unfold apartOk
  rw[e,if_neg (by decide)]
 rw[decide_eq_true hc]
 have e0:onlyQ m=0:=by rw[onlyQ,if_pos hm,if_pos hc]
 have ap:∀ r,apartOk m b c r↔if inM m b/\inM m c then apOk m b.toNat c.toNat r else r=(none,(6,())):=fun r=>by
  unfold apartOk;rw[e0,if_pos rfl]
 have hn:=hn9 hm
 refine br_f rfl (joinR (fun p=>∃ o:Bool,p=(b,(c,(o,(m,[]))))/\(o=true↔¬ (inM m b/\inM m c))) ?_ ?_)
 case refine_2=>
  intro k hk
  refine br_c (fun h=>?_) fun h=>br_c (fun h2=>?_) fun h2=>?_
  . have h:b<0:=dec_t h
    exact hk _ ⟨true,rfl,fun _ g=>by have:=g.1.1;omega,fun _=>rfl⟩
  . have h2:c<0:=dec_t h2
    exact hk _ ⟨true,rfl,fun _ g=>by have:=g.2.1;omega,fun _=>rfl⟩
  . have h:¬ b<0:=dec_f h
    have h2:¬ c<0:=dec_f h2
    refine hk _ ⟨_,rfl,?_⟩
    rw[decide_eq_true_eq]
    show ((m.getD []).length:Int)<=maxI b c↔_
    unfold maxI inM
    split<;>omega
 rintro _ ⟨o,rfl,ho⟩
 dsimp only
 refine br_c (fun h=>?_) fun h=>?_
 . refine⟨?_,fun n e=>by cases e⟩
   show apartOk m b c (none,(_,()))
   rw[ap,if_neg (ho.1 h)]
 have hin:inM m b/\inM m c:=by
  by_cases g:inM m b/\inM m c
  . exact g
  . rw[ho.2 g] at h;cases h
 obtain⟨⟨hb1,hb2⟩,hc1,hc2⟩:=hin
 have ap:∀ r,apartOk m b c r↔apOk m b.toNat c.toNat r:=fun r=>by rw[ap,if_pos ⟨⟨hb1,hb2⟩,hc1,hc2⟩]
 obtain⟨s,rfl⟩:∃ s:Nat,b=(s:Int):=⟨b.toNat,by omega⟩
 obtain⟨t,rfl⟩:∃ t:Nat,c=(t:Int):=⟨c.toNat,by omega⟩
 rw[Int.toNat_natCast,Int.toNat_natCast] at ap
 have hs:s<(m.getD []).length:=by omega
 have ht:t<(m.getD []).length:=by omega
 refine (q1s hm).mono fun rows hp=>?_
 have esz:szSl m=((m.getD []).length:Int):=rfl
 rw[esz]
 generalize hN:(m.getD []).length=n at *
 have hz:RL (some (repS (n:Int) r0)) (fun _=>0) n:=RL.zero n
 refine⟨⟨by omega,by omega,by omega⟩,in_s (by rw[hz.1];exact hs),s_One.mono fun p4 hp4=>?_⟩
 have q0:Pf.RFit 3 (0:Rat):=(FB.fit (n:=1) (e:=1) (x:=fun _=>0) ⟨1,by decide,by decide,fun s _=>QD.zero _ _⟩ (s:=0) (by decide)).1
 have q1:Pf.RFit 3 (1:Rat):=(QB.one 1).fit
 have at0:∀ i,i<n->RV (eltN r0 (some (repS (n:Int) r0)) (toN (i:Int))) 0:=fun i hi=>hz.2 i hi
 refine (q1r (k:=3) longS (at0 s hs) hp4 q0 q1 (by decide)).mono fun p5 hp5=>?_
 rw[Rat.zero_add] at hp5
 have hz1:RL (setO (some (repS (n:Int) r0)) (toN (s:Int)) (p5.1,p5.2)) (ptQ s) n:=hz.set (i:=s) hs (by unfold ptQ;rw[if_pos rfl];exact hp5) fun j _ hj=>by unfold ptQ;rw[if_neg fun e=>hj e.symm]
 refine⟨in_s (by rw[hz.1];exact hs),in_s (by rw[hz1.1];exact ht),s_One.mono fun p6 hp6=>?_⟩
 have q2:Pf.RFit 3 (ptQ s t):=by unfold ptQ;split;exact q1;exact q0
 refine (s_RSub (k:=3) longS (hz1.2 t ht) hp6 q2 q1 (by decide)).mono fun p7 hp7=>⟨in_s (by rw[hz1.1];exact ht),?_⟩
 refine⟨fun y hy=>by obtain rfl:=List.mem_singleton.1 hy;rfl,?_⟩
 have hz2:RL (setO (setO (some (repS (n:Int) r0)) (toN (s:Int)) (p5.1,p5.2)) (toN (t:Int)) (p7.1,p7.2)) (prQ s t) n:=hz1.set (i:=t) ht (by unfold prQ;rw[show ptQ t t=1 from if_pos rfl,Rat.one_mul,<-Rat.sub_eq_add_neg];exact hp7) fun j _ hj=>by unfold prQ;rw[show ptQ t j=0 from if_neg fun e=>hj e.symm,Rat.zero_mul,Rat.add_zero]
 generalize setO (setO (some (repS (n:Int) r0)) (toN (s:Int)) (p5.1,p5.2)) (toN (t:Int)) (p7.1,p7.2)=st at *
 have h00:sumQ (prQ s t) n=0:=prQ_sum hs ht
 have hmb:MB n (n*n+1) (rowQ m):=by have:=hm.mb;rwa [hN] at this
 have hnn:n*n<=9*9:=Nat.mul_le_mul hn hn
 have hfb:∀ w:List Int,w.length<=10->FB n 900 (dv m (prQ s t) w):=fun w hw=>by
  have h1:FB (m.getD []).length 1 (prQ s t):=prQ_fb _ _ _
  have h2:MB (m.getD []).length (n*n+1) (rowQ m):=by rw[hN];exact hmb
  have:=dv_fb hm h1 h2 w
  rw[hN] at this
  refine this.mono ?_
  have:w.length*(n*n+1+1)<=10*83:=Nat.mul_le_mul hw (by omega)
  omega
 refine loopE (fun p=>∃ q bas pl W bs,p=(rows,(m,(q,(bas,pl))))/\ApL m (prQ s t) (qv pl q) bas W bs/\qOk pl q) (fun p=>apMu n (((qv p.2.2.2.2 p.2.2.1).getD []).map fun w=>w.1.getD []) (p.2.2.2.1.getD []).length) ⟨some [(none,st)],none,[],[[]],[],rfl,⟨⟨rfl,fun i hi=>?_⟩,RLL.nil _ _,.inl ⟨rfl,rfl⟩⟩,fun e he n hn=>by obtain rfl:=List.mem_singleton.1 he;cases hn⟩ ?_
 . have hi:i<1:=hi
   obtain rfl:i=0:=by omega
   rw[hN]
   exact⟨rfl,hz2⟩
 rintro _ ⟨q,bas,pl,W,bs,rfl,⟨hq,hbas,hI⟩,hqk⟩
 rw[hN] at hbas
 have emu:∀ {q:Option (List DW)} {W},RQ m (prQ s t) q W->(q.getD []).map (fun w=>w.1.getD [])=W:=by
  intro q W h
  refine List.ext_getElem (by rw[List.length_map];exact h.1) fun i h1 h2=>?_
  have:=(h.2 i h2).1
  rw[List.length_map] at h1
  rw[List.getD_eq_getElem?_getD,List.getElem?_eq_getElem h1,List.getD_eq_getElem?_getD,List.getElem?_eq_getElem h2] at this
  rw[List.getElem_map]
  have this:(q.getD [])[i].1=optL W[i]:=this
  rw[this,q07]
 have hlen:((q.getD []).length:Int)=(W.length:Int):=by rw[<-qv_len pl,hq.1]
 dsimp only
 refine br_c (fun h=>?_) fun h=>?_
 case refine_2=>
  have h:¬ (0:Int)<((q.getD []).length:Int):=dec_f h
  have hW:W=[]:=List.eq_nil_of_length_eq_zero (by omega)
  subst hW
  rcases hI with ⟨e,_⟩ | ⟨hI,_⟩
  . cases e
  . refine⟨?_,fun n e=>by cases e⟩
    show apartOk m s t (none,(_,()))
    rw[ap]
    exact .inr ⟨fun w=>hI.none (by rw[hN];exact h00) w,rfl⟩
 have h:(0:Int)<((q.getD []).length:Int):=dec_t h
 cases W with
 | nil=>rw[hlen] at h;simp at h
 | cons w W=>
  obtain⟨hd1,hd2⟩:=hq.head
  rw[hN] at hd2
  have hq':=hq.tail (n:=(q.getD []).length) (qv_len pl q)
  rw[<-qv_slc] at hq'
  rw[qv_hd] at hd1 hd2
  have hmu0:apMu n (List.map (fun w=>w.1.getD []) ((qv pl q).getD [])) (bas.getD []).length=apMu n (w :: W) bs.length:=by rw[emu hq,hbas.1]
  refine joinR (fun p=>∃ q' bas' pl' W' bs',p=(rows,(m,(q',(bas',pl'))))/\(ApL m (prQ s t) (qv pl' q') bas' W' bs'/\qOk pl' q')/\apMu n W' bs'.length<apMu n (w :: W) bs.length) ?_ ?_
  . rintro _ ⟨q1,bas1,pl1,W1,bs1,rfl,⟨h1,h3⟩,h2⟩
    refine⟨⟨q1,bas1,pl1,W1,bs1,rfl,h1,h3⟩,?_⟩
    show apMu n (List.map (fun w=>w.1.getD []) ((qv pl1 q1).getD [])) (bas1.getD []).length<apMu n (List.map (fun w=>w.1.getD []) ((qv pl q).getD [])) (bas.getD []).length
    rw[hmu0,emu h1.1,h1.2.1.1]
    exact h2
  intro k10 hk10
  have fin:∀ q' bas' pl' W' bs',ApL m (prQ s t) (qv pl' q') bas' W' bs'->qOk pl' q'->apMu n W' bs'.length<apMu n (w :: W) bs.length->k10 (rows,(m,(q',(bas',pl')))):=fun q' bas' pl' W' bs' a a' b=>hk10 _ ⟨q',bas',pl',W',bs',rfl,⟨a,a'⟩,b⟩
  clear hk10 emu hmu0
  have hw10:w.length<=10/\bs.length<=n:=by
   rcases hI with ⟨e,e2⟩ | ⟨hI,_⟩
   . obtain⟨rfl,rfl⟩:=List.cons.inj e
     subst e2
     exact⟨by simp,by simp⟩
   . have:=hI.size
     rw[hN] at this
     have:=(hI.wv w (by simp)).2.2
     omega
  have hfw:=hfb w hw10.1
  refine⟨⟨by omega,h⟩,⟨?_,by omega,by show (1:Int)<=((q.getD []).length:Int);omega,Int.le_refl _⟩,?_⟩
  . cases q with
    | none=>simp at h
    | some l=>rfl
  have hqt:qOk pl (slcS q 1 (szSl q)):=fun e he=>hqk e (by
   cases q with
   | none=>exact he
   | some l=>exact List.mem_of_mem_take (List.mem_of_mem_drop he))
  have hho:hOk pl (eltN ((none,none):DH) q 0).1:=by
   cases q with
   | none=>simp at h
   | some l=>
    cases l with
    | nil=>simp at h
    | cons e l=>exact hqk e List.mem_cons_self
  have e9:eltN ((none,none):DH) q (toN (0:Int))=eltN ((none,none):DH) q 0:=rfl
  rw[e9]
  clear e9
  generalize eltN ((none,none):DH) q 0=hd at *
  obtain⟨hh,vec⟩:=hd
  obtain⟨view,hview⟩:∃ v,unH pl hh=v:=⟨_,rfl⟩
  have hd1:view=optL w:=hview ▸ hd1
  have hd2:RL vec (dv m (prQ s t) w) n:=hd2
  dsimp only
  refine (s_sumF hd2 hfw (by omega) (by decide)).mono fun p11 hp11=>(q0x hp11).mono ?_
  rintro _ rfl
  refine br_c (fun h=>?_) fun h=>?_
  . have hne:sumQ (dv m (prQ s t) w) n≠0:=by
     have h:¬ sgn (sumQ (dv m (prQ s t) w) n).num=0:=by simpa[notB] using h
     intro e;rw[e] at h;exact h (by decide)
    refine⟨?_,hho⟩
    show apartOk m s t (unH pl hh,(_,()))
    rw[ap,hview]
    rcases hI with ⟨e,e2⟩ | ⟨hI,_⟩
    . obtain⟨rfl,rfl⟩:=List.cons.inj e
      exact absurd h00 hne
    . refine .inl ⟨w,hI.hit hm (by rw[hN];exact h00) (by rw[hN];exact hne),?_⟩
      rw[hd1,optL_some (hI.wv w (by simp)).1]
  have hs0:sumQ (dv m (prQ s t) w) n=0:=by
   have h:decide (sgn (sumQ (dv m (prQ s t) w) n).num=0)=true:=by simpa[notB] using h
   exact rv_zero hp11 (dec_t h)
  clear h
  have evl:szH pl hh=(w.length:Int):=by rw[szH_eq,hview];show ((view.getD []).length:Int)=_;rw[hd1,q07]
  refine joinR (fun p=>∃ bas' bs',p=(rows,(m,((hh,vec),((slcS q 1 (szSl q)),(bas',pl)))))/\RLL bas' (fun j=>dv m (prQ s t) (bs'.getD j [])) bs'.length n/\(∀ ls:DL,LetOk m ls->ApI m (prQ s t) (W ++ exts w (ls.getD [])) bs')/\W.length+64<=64*(bs'.length+1)/\100*(n+1 - bs'.length)+W.length+64<apMu n (w :: W) bs.length) ?_ ?_
  . rintro _ ⟨bas',bs',rfl,hb',hA,hl1,hmu⟩
    refine joinR (fun p=>∃ v,p=(rows,(v,(m,((hh,vec),((slcS q 1 (szSl q)),(bas',pl))))))/\RL v (if w=[] then prQ s t else stepQ (rowQ m) (dv m (prQ s t) w) n) n) ?_ ?_
    . rintro _ ⟨v,rfl,hv⟩
      dsimp only
      refine (q7J hm (by rw[hN];omega)).mono fun ls hls=>?_
      have hls64:=LetOk.len hm hls
      generalize hL:(ls.getD []).length=L at *
      have eL:szSl ls=(L:Int):=by show ((ls.getD []).length:Int)=_;rw[hL]
      rw[eL]
      refine rangeB (n:=L) (fun i (y:Option (List DH)×List (List Int))=>(rows,(v,(ls,((L:Int),((i:Int),(m,((hh,vec),(y.1,(bas',y.2)))))))))) (fun i y=>RQ m (prQ s t) (qv y.2 y.1) (W ++ exts w ((ls.getD []).take i))/\qOk y.2 y.1/\hOk y.2 hh/\unH y.2 hh=view) (slcS q 1 (szSl q),pl) rfl ⟨by simpa[exts] using hq',hqt,hho,hview⟩ (fun p=>p.2.2.2.2.1.toNat) (fun _ _=>rfl) (fun _ _ _=>rfl) ?_ ?_
      . rintro k16 i ⟨qq,pq⟩ hi ⟨hqq,hqk2,hho2,hvw⟩ hk16
        dsimp only at hqq hqk2 hho2 hvw ⊢
        rw[hvw]
        refine⟨in_s (by omega),(s_CloneI view (by rw[hd1,q07];omega)).mono ?_⟩
        intro p18 e18
        have e18:p18=view:=e18
        rw[e18]
        rw[q2g]
        refine⟨?_,?_⟩
        . show ((view.getD []).length+1)*8<=140737488355328
          rw[hd1,q07];omega
        refine (q3k (l:=v) (by rw[hN];exact hv) (by rw[hN];omega)).mono fun p19 hp19=>⟨?_,?_⟩
        . show ((qq.getD []).length+1)*48<=140737488355328
          rw[<-qv_len pq,hqq.1,List.length_append]
          have hsz:=(hA ls hls).size
          rw[hN] at hsz
          have:(exts w ((ls.getD []).take i)).length<=64:=by unfold exts;rw[List.length_map,List.length_take];omega
          omega
        . rw[wi1 hi (by omega)]
          have eap:appL view (lst (some [int (ls.getD []) i]))=some (w ++ [int (ls.getD []) i]):=by
           show appL view [_]=_
           rw[hd1,q0G,optL_some (by simp)]
          rw[eap]
          obtain⟨qa1,qa2⟩:=qv_app (l:=w ++ [int (ls.getD []) i]) (v:=p19) hqk2
          refine hk16 (_,_) ⟨?_,qa2,hho2.more _,by rw[<-hvw];exact q7W _ hho2⟩
          dsimp only
          rw[exts_take _ _ _ (by omega),<-List.append_assoc]
          refine Eq.mpr (congrArg (fun q=>RQ m (prQ s t) q _) qa1) ?_
          refine RQ.app hqq ?_ ?_
          . exact (optL_some (by simp)).symm
          . rw[dv_snoc,hN];rw[hN] at hp19;exact hp19
      . rintro _ ⟨qq,pq⟩ ⟨hqq,hqk2,hho2,hvw⟩
        dsimp only at hqq hqk2 hho2 hvw ⊢
        rw[<-hL,List.take_length] at hqq
        refine fin qq bas' pq _ bs' ⟨hqq,by rw[hN];exact hb',.inr ⟨hA ls hls,?_⟩⟩ hqk2 ?_
        . rw[List.length_append]
          have:(exts w (ls.getD [])).length<=64:=by unfold exts;rw[List.length_map];omega
          omega
        . refine Nat.lt_of_le_of_lt ?_ hmu
          have h2:(exts w (ls.getD [])).length<=64:=by unfold exts;rw[List.length_map];omega
          have hne:W ++ exts w (ls.getD [])≠[[]]:=fun e=>by
           have:=((hA ls hls).wv [] (by rw[e];simp)).1
           exact this rfl
          unfold apMu
          rw[if_neg hne,List.length_append];omega
    . intro k14 hk14
      dsimp only
      rw[evl]
      refine br_c (fun h=>?_) fun h=>?_
      . have h:(0:Int)<(w.length:Int):=dec_t h
        have hne:w≠[]:=by rintro rfl;simp at h
        refine (q67 (k:=2*(900+(n*n+1)+1)+1) hp hd2 (by omega) (fun a b ha hb=>(hmb.fit ha hb).1.mono (by omega)) (fun a ha=>(hfw.fit ha).1.mono (by omega)) (fun a b ha hb=>(hfw.prod hmb ha hb).1.mono (by omega)) (fun a b ha hb=>((hfw.step hmb (Nat.le_trans hn (by decide)) ha).fit hb).1.mono (by omega)) (by omega)).mono fun p15 hp15=>hk14 _ ⟨p15,rfl,?_⟩
        rw[if_neg hne];exact hp15
      . have h:¬ (0:Int)<(w.length:Int):=dec_f h
        have hw:w=[]:=List.eq_nil_of_length_eq_zero (by omega)
        refine hk14 _ ⟨vec,rfl,?_⟩
        rw[if_pos hw]
        subst hw
        exact hd2
  . intro k13 hk13
    try dsimp only
    rw[evl]
    refine br_c (fun h=>?_) fun h=>?_
    . have h:(0:Int)<(w.length:Int):=dec_t h
      have hne:w≠[]:=by rintro rfl;simp at h
      rcases hI with ⟨e,_⟩ | ⟨hI,hWl⟩
      . exact absurd (List.cons.inj e).1 hne
      have hWl:W.length+1<=64*(bs.length+1):=hWl
      have hmu:apMu n (w :: W) bs.length=100*(n+1 - bs.length)+(W.length+1):=by
       unfold apMu
       rw[if_neg (fun e=>hne (List.cons.inj e).1)];rfl
      refine (q7I (e:=1000) hbas hd2 (by omega) (by omega) (fun j hj i hi=>?_) (fun i hi=>(hfw.qb hi).mono (by decide)) (growE_le (by omega))).mono fun p14 hp14=>br_c (fun h=>?_) fun h=>?_
      . refine (FB.qb (hfb _ ?_) hi).mono (by decide)
        have:=(hI.bv _ (mem_of_getD (d:=[]) hj)).2.2.1
        omega
      . have hsp:Span (fun j=>dv m (prQ s t) (bs.getD j [])) bs.length n (dv m (prQ s t) w):=by
         by_cases g:Span (fun j=>dv m (prQ s t) (bs.getD j [])) bs.length n (dv m (prQ s t) w)
         . exact g
         . rw[hp14.2 g] at h;cases h
        refine fin _ bas pl W bs ⟨hq',by rw[hN];exact hbas,.inr ⟨hI.drop hm (by rw[hN];exact hsp),by omega⟩⟩ hqt ?_
        rw[hmu]
        unfold apMu
        split
        . rename_i e
          have:=((hI.drop hm (by rw[hN];exact hsp)).wv [] (by rw[e];simp)).1
          exact absurd rfl this
        . omega
      . have hsp:¬ Span (fun j=>dv m (prQ s t) (bs.getD j [])) bs.length n (dv m (prQ s t) w):=hp14.1 (by cases p14;cases h;rfl)
        have hkeep:∀ ls:DL,LetOk m ls->ApI m (prQ s t) (W ++ exts w (ls.getD [])) (bs ++ [w]):=fun ls hls=>hI.keep hm hls (by rw[hN];exact hs0) (by rw[hN];exact hsp)
        have hbl:(bs ++ [w]).length=bs.length+1:=by simp
        have hb1:bs.length+1<=n:=by
         obtain⟨ls,hls⟩:=LetOk.ex hm
         have:=(hkeep ls hls).size
         rw[hN,hbl] at this;exact this
        refine⟨?_,hk13 _ ⟨_,bs ++ [w],rfl,?_,hkeep,by omega,by rw[hmu,hbl];omega⟩⟩
        . show ((bas.getD []).length+1)*24<=140737488355328
          rw[hbas.1];omega
        . rw[hbl]
          refine RLL.app (f:=fun j=>dv m (prQ s t) ((bs ++ [w]).getD j [])) (hbas.congr fun j hj i _=>?_) ?_
          . try dsimp only
            rw[List.getD_eq_getElem?_getD,List.getElem?_append_left hj,<-List.getD_eq_getElem?_getD]
          . have e:(bs ++ [w]).getD bs.length []=w:=by
             rw[List.getD_eq_getElem?_getD,List.getElem?_append_right (Nat.le_refl _),Nat.sub_self];rfl
            rw[e];exact hd2
    . have h:¬ (0:Int)<(w.length:Int):=dec_f h
      have hw:w=[]:=List.eq_nil_of_length_eq_zero (by omega)
      rcases hI with ⟨e,e2⟩ | ⟨hI,_⟩
      . obtain⟨_,rfl⟩:=List.cons.inj e
        subst e2
        subst hw
        refine hk13 _ ⟨bas,[],rfl,hbas,fun ls hls=>ApI.start hm hls,by simp,?_⟩
        unfold apMu
        rw[if_pos rfl]
        show 100*(n+1 - 0)+0+64<100*(n+2)
        omega
      . exact absurd hw (hI.wv w (by simp)).1
theorem s_Apart (m:DMo) (b c:Int) (hn9:moOk m->(m.getD []).length<=9):callV Pg q29 [⟨tMo,m⟩,⟨tI,b⟩,⟨tI,c⟩] (.tup (.pair tL (.pair tI .unit))) (apartOk m b c):=
 q1E (L:=q2y) (p:=(m,b,c)) (q5W m b c hn9) fun _ hq=>⟨_,rfl,hq.1⟩
end Go.Proofs.Pf.B
namespace Go.Proofs.Pf.B
open Go Go.VM
theorem qaG (a b:DMo) (ha:fewOk a):callV Pg q3Q [⟨tMo,a⟩,⟨tMo,b⟩] .bool fun r=>r=decide (moEq a b):=by
 refine qci a b ⟨_,rfl⟩ (q01.2 ⟨fun h=>?_,fun h=>?_⟩)
 . have h:¬ ((a.getD []).length:Int)=((b.getD []).length:Int):=not_t h
   exact (decide_eq_false fun e:moEq a b=>h (by rw[e.1])).symm
 have hl:((a.getD []).length:Int)=((b.getD []).length:Int):=not_f h
 have h45:=ha.1
 refine loopE (fun p=>∃ i:Nat,p=(a,(((a.getD []).length:Int),((i:Int),b)))/\i<=(a.getD []).length/\∀ j,j<i->stEq (stt (a.getD []) j) (stt (b.getD []) j)) (fun p=>(a.getD []).length - p.2.2.1.toNat) ⟨0,rfl,by omega,fun j h=>by omega⟩ ?_
 rintro _ ⟨i,rfl,hi,hall⟩
 dsimp only
 refine q01.2 ⟨fun hc=>?_,fun hc=>?_⟩
 . have hc:(i:Int)<((a.getD []).length:Int):=dec_t hc
   rw[q0C,q0C]
   generalize hs:stt (a.getD []) i=s
   generalize ht:stt (b.getD []) i=t
   obtain⟨f1,f2⟩:fewSt s:=hs ▸ ha.2 i (by omega)
   have no:¬ stEq s t->¬ moEq a b:=fun q e=>q (hs ▸ ht ▸ e.2 i (by omega))
   refine⟨⟨by omega,by omega⟩,⟨by omega,by omega⟩,joinR (fun p=>∃ q:Bool,p=(a,(((a.getD []).length:Int),((i:Int),(q,(b,(s,t))))))/\(q=true->¬ stEq s t)/\(q=false->s.1=t.1/\s.2.1=t.2.1/\(s.2.2.getD []).length=(t.2.2.getD []).length)) ?_ ?_⟩
   . rintro _ ⟨q,rfl,h1,h2⟩
     dsimp only
     refine q01.2 ⟨fun hq=>(decide_eq_false (no (h1 hq))).symm,fun hq=>?_⟩
     obtain⟨g1,g2,g3⟩:=h2 hq
     refine loopE (fun p=>∃ j:Nat,p=(a,(((a.getD []).length:Int),((i:Int),(s.2.2,(((s.2.2.getD []).length:Int),((j:Int),(b,t)))))))/\j<=(s.2.2.getD []).length/\∀ k,k<j->chEq (ch (s.2.2.getD []) k) (ch (t.2.2.getD []) k))
      (fun p=>(s.2.2.getD []).length - p.2.2.2.2.2.1.toNat) ⟨0,rfl,by omega,fun j h=>by omega⟩ ?_
     rintro _ ⟨j,rfl,hj,hall2⟩
     dsimp only
     refine q01.2 ⟨fun hd=>?_,fun hd=>?_⟩
     . have hd:(j:Int)<((s.2.2.getD []).length:Int):=dec_t hd
       rw[q33,q33,num_eq]
       generalize hcc:ch (s.2.2.getD []) j=c
       generalize hdd:ch (t.2.2.getD []) j=d
       have f3:(c.2.getD []).length<=10:=hcc ▸ f2 j (by omega)
       have no2:¬ chEq c d->¬ moEq a b:=fun q=>no fun e=>q (hcc ▸ hdd ▸ e.2.2.2 j (by omega))
       refine⟨⟨by omega,by omega⟩,⟨by omega,by omega⟩,joinR (fun p=>∃ q:Bool,p=(a,(((a.getD []).length:Int),((i:Int),(s.2.2,(((s.2.2.getD []).length:Int),((j:Int),(q,(b,(t,(c,d))))))))))/\(q=true->¬ chEq c d)/\(q=false->c.1=d.1/\(c.2.getD []).length=(d.2.getD []).length)) ?_ ?_⟩
       . rintro _ ⟨q,rfl,k1,k2⟩
         dsimp only
         refine q01.2 ⟨fun hq=>(decide_eq_false (no2 (k1 hq))).symm,fun hq=>?_⟩
         obtain⟨e1,e2⟩:=k2 hq
         refine loopE (fun p=>∃ k:Nat,p=(a,(((a.getD []).length:Int),((i:Int),(s.2.2,(((s.2.2.getD []).length:Int),((j:Int),(c.2,(((c.2.getD []).length:Int),((k:Int),(b,(t,d)))))))))))/\k<=(c.2.getD []).length/\∀ q,q<k->br (c.2.getD []) q=br (d.2.getD []) q)
          (fun p=>(c.2.getD []).length - p.2.2.2.2.2.2.2.2.1.toNat) ⟨0,rfl,by omega,fun j h=>by omega⟩ ?_
         rintro _ ⟨k,rfl,hk,hall3⟩
         dsimp only
         refine q01.2 ⟨fun he=>?_,fun he=>?_⟩
         . have he:(k:Int)<((c.2.getD []).length:Int):=dec_t he
           rw[q40,q40,br_eq]
           refine⟨⟨by omega,by omega⟩,⟨by omega,by omega⟩,q01.2 ⟨fun hf=>?_,fun hf=>?_⟩⟩
           . exact (decide_eq_false (no2 fun e=>not_t hf (by rw[e.2]))).symm
           . have hf:=not_f hf
             rw[wi64 (by omega) (by omega)]
             refine⟨⟨k+1,rfl,by omega,fun q hq=>?_⟩,by omega⟩
             rcases Nat.lt_or_ge q k with z | z
             . exact hall3 q z
             . obtain rfl:q=k:=by omega
               exact hf
         . have he:¬ (k:Int)<((c.2.getD []).length:Int):=dec_f he
           obtain rfl:k=(c.2.getD []).length:=by omega
           rw[wi64 (by omega) (by omega)]
           refine⟨⟨j+1,rfl,by omega,fun q hq=>?_⟩,by omega⟩
           rcases Nat.lt_or_ge q j with z | z
           . exact hall2 q z
           . obtain rfl:q=j:=by omega
             rw[hcc,hdd];exact⟨e1,list_eq e2 hall3⟩
       . intro k hk
         refine q01.2 ⟨fun g=>hk _ ⟨true,rfl,fun _ e=>not_t g e.1,fun h=>by cases h⟩,fun g=>?_⟩
         have g:=not_f g
         refine hk _ ⟨_,rfl,fun h e=>?_,fun h=>⟨g,?_⟩⟩
         . have h:¬ ((c.2.getD []).length:Int)=((d.2.getD []).length:Int):=not_t h
           exact h (by rw[e.2])
         . have h:((c.2.getD []).length:Int)=((d.2.getD []).length:Int):=not_f h
           omega
     . have hd:¬ (j:Int)<((s.2.2.getD []).length:Int):=dec_f hd
       obtain rfl:j=(s.2.2.getD []).length:=by omega
       rw[wi64 (by omega) (by omega)]
       refine⟨⟨i+1,rfl,by omega,fun k hk=>?_⟩,by omega⟩
       rcases Nat.lt_or_ge k i with q | q
       . exact hall k q
       . obtain rfl:k=i:=by omega
         rw[hs,ht];exact⟨g1,g2,g3,hall2⟩
   . intro k hk
     refine q01.2 ⟨fun g=>hk _ ⟨true,rfl,fun _ e=>not_t g e.1,fun h=>by cases h⟩,fun g1=>?_⟩
     refine q01.2 ⟨fun g=>hk _ ⟨true,rfl,fun _ e=>not_t g e.2.1,fun h=>by cases h⟩,fun g2=>?_⟩
     refine hk _ ⟨_,rfl,fun h e=>?_,fun h=>⟨not_f g1,not_f g2,?_⟩⟩
     . have h:¬ ((s.2.2.getD []).length:Int)=((t.2.2.getD []).length:Int):=not_t h
       exact h (by rw[e.2.2.1])
     . have h:((s.2.2.getD []).length:Int)=((t.2.2.getD []).length:Int):=not_f h
       omega
 . have hc:¬ (i:Int)<((a.getD []).length:Int):=dec_f hc
   obtain rfl:i=(a.getD []).length:=by omega
   exact (decide_eq_true (show moEq a b from ⟨by omega,hall⟩)).symm
theorem br_t {b:Bool} {A B:Prop} (h:b=true) (hA:A):brV b A B:=by subst h;exact hA
end Go.Proofs.Pf.B
namespace Go.Proofs.Pf.B
open Go Go.VM
abbrev cho (s:DSt):List DCh:=s.2.2.getD []
def smallM (m:DMo):Prop:=(m.getD []).length<=1000/\∀ i,i<(m.getD []).length->(cho (stt (m.getD []) i)).length<=1000/\∀ j,j<(cho (stt (m.getD []) i)).length->((ch (cho (stt (m.getD []) i)) j).2.getD []).length<=1000
theorem moOk.small {m:DMo} (h:moOk m):smallM m:=by
 refine⟨by have:=h.1;omega,fun i hi=>⟨by have:=(h.2 i hi).1.2.2;show ((stt (m.getD []) i).2.2.getD []).length<=1000;omega,fun j hj=>?_⟩⟩
 have:=((h.2 i hi).2 j hj).2.1
 show ((ch ((stt (m.getD []) i).2.2.getD []) j).2.getD []).length<=1000
 omega
theorem fewOk.small {m:DMo} (h:fewOk m):smallM m:=by
 refine⟨by have:=h.1;omega,fun i hi=>⟨by have:=(h.2 i hi).1;show ((stt (m.getD []) i).2.2.getD []).length<=1000;omega,fun j hj=>?_⟩⟩
 have:=(h.2 i hi).2 j hj
 show ((ch ((stt (m.getD []) i).2.2.getD []) j).2.getD []).length<=1000
 omega
end Go.Proofs.Pf.B
namespace Go.Proofs.Pf.B
open Go Go.VM
abbrev n_ (m:DMo):Nat:=(m.getD []).length
abbrev sm (m:DMo) (i:Nat):DSt:=stt (m.getD []) i
abbrev tabM (f:Nat->DSt) (n:Nat):DMo:=optL (tab f n)
theorem tabM_n (f:Nat->DSt) (n:Nat):n_ (tabM f n)=n:=by show ((optL (tab f n)).getD []).length=n;rw[q07,tab_len]
theorem tabM_s (f:Nat->DSt) {n i:Nat} (h:i<n):sm (tabM f n) i=f i:=by show stt ((optL (tab f n)).getD []) i=f i;rw[q07];exact tab_get f n i _ h
theorem tabM_app (f:Nat->DSt) (n:Nat):appL (tabM f n) [f n]=tabM f (n+1):=by rw[q0G,<-q1V]
theorem tabM_len (f:Nat->DSt) (n:Nat):((tabM f n).getD []).length=n:=tabM_n f n
def cpC (c:DCh):DCh:=(c.1,some (c.2.getD []))
def cpS (s:DSt):DSt:=(s.1,(s.2.1,optL (tab (fun j=>cpC (ch (cho s) j)) (cho s).length)))
def copyM (m:DMo):DMo:=tabM (fun i=>cpS (sm m i)) (n_ m)
theorem r_Copy (m:DMo) (hm:smallM m):callV Pg q50 [⟨tMo,m⟩] tMo fun r=>r=copyM m:=by
 obtain⟨hm1,hm2⟩:n_ m<=1000/\∀ i,i<n_ m->(cho (sm m i)).length<=1000/\∀ j,j<(cho (sm m i)).length->((ch (cho (sm m i)) j).2.getD []).length<=1000:=hm
 refine qcg m ⟨_,rfl⟩ (rangeB (n:=n_ m) (fun i x=>(m,((n_ m:Int),((i:Int),(none,((),x)))))) (fun i x=>x=tabM (fun i=>cpS (sm m i)) i) none rfl rfl (fun p=>p.2.2.1.toNat) (fun _ _=>rfl) (fun _ _ _=>rfl) ?_ ?_)
 . intro k i x hi hx hk
   dsimp only
   subst hx
   rw[q0C]
   obtain⟨hc,hbr⟩:=hm2 i hi
   refine⟨in_s hi,rangeB (n:=(cho (sm m i)).length) (fun j y=>(m,((n_ m:Int),((i:Int),((sm m i).2.2,(((cho (sm m i)).length:Int),((j:Int),(none,((),(((sm m i).1,((sm m i).2.1,())),(tabM (fun i=>cpS (sm m i)) i,y))))))))))) (fun j y=>y=optL (tab (fun j=>cpC (ch (cho (sm m i)) j)) j)) none rfl rfl (fun p=>p.2.2.2.2.2.1.toNat) (fun _ _=>rfl) (fun _ _ _=>rfl) ?_ ?_⟩
   . intro k2 j y hj hy hk2
     dsimp only
     subst hy
     rw[q33]
     refine⟨in_s hj,?_,?_,?_⟩
     . have:=hbr j hj
       show (0+((ch (cho (sm m i)) j).2.getD []).length)*24<=140737488355328
       omega
     . show ((((optL (tab (fun j=>cpC (ch (cho (sm m i)) j)) j)).getD []).length+1)*40<=140737488355328)
       rw[q07,tab_len];omega
     . rw[wi1 hj (by omega)]
       refine hk2 _ ?_
       show appL _ [cpC (ch (cho (sm m i)) j)]=_
       rw[q0G,<-q1V (fun j=>cpC (ch (cho (sm m i)) j)) j]
   . intro k2 y hy
     dsimp only
     subst hy
     refine⟨?_,?_⟩
     . show ((((tabM (fun i=>cpS (sm m i)) i).getD []).length+1)*40<=140737488355328)
       rw[tabM_len];omega
     . rw[wi1 hi (by omega)]
       exact hk _ (tabM_app (fun i=>cpS (sm m i)) i)
 . intro k x hx;exact hx
theorem cp_cho (s:DSt):cho (cpS s)=tab (fun j=>cpC (ch (cho s) j)) (cho s).length:=q07 _
theorem cp_len (s:DSt):(cho (cpS s)).length=(cho s).length:=by rw[cp_cho,tab_len]
theorem cp_ch (s:DSt) {j:Nat} (h:j<(cho s).length):ch (cho (cpS s)) j=cpC (ch (cho s) j):=by rw[cp_cho];exact tab_get _ _ _ _ h
theorem cp_eq (s:DSt):stEq (cpS s) s:=⟨rfl,rfl,cp_len s,fun j hj=>by rw[cp_ch s (by rw[<-cp_len];exact hj)];exact⟨rfl,rfl⟩⟩
theorem copy_eq (m:DMo):moEq (copyM m) m:=⟨tabM_n _ _,fun i hi=>by
 have hi:i<n_ m:=by rw[<-tabM_n (fun i=>cpS (sm m i)) (n_ m)];exact hi
 have:=tabM_s (fun i=>cpS (sm m i)) hi
 show stEq (sm (copyM m) i) (sm m i)
 rw[copyM,this];exact cp_eq _⟩
theorem chEq.ok {n:Int} {c d:DCh} (h:chEq c d) (hd:chOk n d):chOk n c:=by
 unfold chOk at *;rw[h.1,h.2];exact hd
theorem chEq.symm {c d:DCh} (h:chEq c d):chEq d c:=⟨h.1.symm,h.2.symm⟩
theorem stEq.symm {s t:DSt} (h:stEq s t):stEq t s:=⟨h.1.symm,h.2.1.symm,h.2.2.1.symm,fun j hj=>(h.2.2.2 j (by rw[h.2.2.1];exact hj)).symm⟩
theorem moEq.symm {a b:DMo} (h:moEq a b):moEq b a:=⟨h.1.symm,fun i hi=>(h.2 i (by rw[h.1];exact hi)).symm⟩
theorem stEq.ok {n:Int} {s t:DSt} (h:stEq s t) (ht:stOk n t):stOk n s:=by
 obtain⟨h1,h2,h3,h4⟩:=h
 obtain⟨t1,t2⟩:=ht
 refine⟨?_,fun j hj=>(h4 j hj).ok (t2 j (by rw[<-h3];exact hj))⟩
 unfold stHead at *
 rw[h1,h2,h3];exact t1
theorem moEq.ok {a b:DMo} (h:moEq a b) (hb:moOk b):moOk a:=by
 refine⟨by rw[h.1];exact hb.1,fun i hi=>?_⟩
 rw[h.1]
 exact (h.2 i hi).ok (hb.2 i (by rw[<-h.1];exact hi))
theorem moEq.str {a b:DMo} (h:moEq a b) {l:List Int} (hb:strOk b l):strOk a l:=by
 refine⟨by rw[h.1];exact hb.1,fun i hi=>?_⟩
 have h1:=hb.2 i hi
 have h2:=(h.2 i (by rw[h.1,<-hb.1];exact hi)).2.2.1
 unfold strAt at *
 rw[show cntL (stt (a.getD []) i)=cntL (stt (b.getD []) i) from congrArg Nat.cast h2];exact h1
theorem stEq.refl (s:DSt):stEq s s:=⟨rfl,rfl,rfl,fun _ _=>⟨rfl,rfl⟩⟩
theorem moEq.refl (m:DMo):moEq m m:=⟨rfl,fun _ _=>stEq.refl _⟩
theorem chEq.trans {c d e:DCh} (h:chEq c d) (g:chEq d e):chEq c e:=⟨h.1.trans g.1,h.2.trans g.2⟩
theorem stEq.trans {s t u:DSt} (h:stEq s t) (g:stEq t u):stEq s u:=
 ⟨h.1.trans g.1,h.2.1.trans g.2.1,h.2.2.1.trans g.2.2.1,fun j hj=>(h.2.2.2 j hj).trans (g.2.2.2 j (by rw[<-h.2.2.1];exact hj))⟩
theorem moEq.trans {a b c:DMo} (h:moEq a b) (g:moEq b c):moEq a c:=⟨h.1.trans g.1,fun i hi=>(h.2 i hi).trans (g.2 i (by rw[<-h.1];exact hi))⟩
def loopC (i:Int):DCh:=((0,1),some [(i,(1,1))])
end Go.Proofs.Pf.B
namespace Go.Proofs.Pf.B
open Go Go.VM
def rollM:DMo:=some [(0,0,some [((0,1),some [(0,1,2),(1,1,4),(2,1,4)])]),(0,0,some [((0,1),some [(1,1,1)])]),(0,1,some [((0,1),some [(2,1,1)])])]
theorem q4g (a b:Int):callV Pg q25 [⟨tI,a⟩,⟨tI,b⟩] tNum fun r=>r=(a,b):=qbJ a b ⟨_,rfl⟩ rfl
theorem q4h (a b:Int):callV Pg q26 [⟨tI,a⟩,⟨tI,b⟩] tNum fun r=>r=(a,b):=qbN a b ⟨_,rfl⟩ rfl
theorem r_Loop (a:Int):callV Pg q3R [⟨tI,a⟩] tCh fun r=>r=loopC a:=qck a ⟨_,rfl⟩ rfl
theorem s_Roll:callV Pg q2L [] tMo fun r=>r=rollM:=by
 refine qbI ⟨_,rfl⟩ ?_
 refine (q4g 0 1).mono ?_;rintro _ rfl
 refine (q4g 1 2).mono ?_;rintro _ rfl
 refine (q4g 1 4).mono ?_;rintro _ rfl
 refine joinE ?_
 refine (q4g 1 4).mono ?_;rintro _ rfl
 refine joinE ?_
 refine (r_Loop 1).mono ?_;rintro _ rfl
 refine joinE ?_
 refine (r_Loop 2).mono ?_;rintro _ rfl
 refine joinE ?_
 rfl
theorem roll_ok:moOk rollM:=by decide +kernel
theorem roll_one:single rollM:=by decide +kernel
def ptL (n s:Nat):Option (List (Int×Int)):=optL (tab (fun t=>if t=s then (1,1) else (0,1)) n)
theorem r_Point (n s:Nat) (hn:n<=1000):callV Pg q53 [⟨tI,(n:Int)⟩,⟨tI,(s:Int)⟩] (.sl tNum) fun r=>r=ptL n s:=by
 refine qcl (n:Int) (s:Int) ⟨_,rfl⟩ ?_
 refine rangeB (n:=n) (fun i x=>((s:Int),((n:Int),((i:Int),x)))) (fun i x=>x=ptL i s) none rfl rfl (fun p=>p.2.2.1.toNat) (fun _ _=>rfl) (fun _ _ _=>rfl) ?_ ?_
 . rintro k i _ hi rfl hk
   refine joinR (fun p=>p=((s:Int),((n:Int),((i:Int),((if i=s then ((1:Int),(1:Int)) else (0,1)),ptL i s))))) ?_ ?_
   . rintro _ rfl
     refine⟨?_,?_⟩
     . show (((ptL i s).getD []).length+1)*16<=140737488355328
       rw[ptL,q07,tab_len];omega
     . (try dsimp only)
       rw[wi1 hi (by omega)]
       refine hk _ ?_
       show appL (ptL i s) [_]=_
       rw[ptL,q0G,ptL,q1V]
   . intro k2 hk2
     (try dsimp only)
     refine br_c (fun h=>hk2 _ ?_) fun h=>hk2 _ ?_
     . have h:(i:Int)=(s:Int):=dec_t h
       rw[if_pos (by omega)]
     . have h:¬ (i:Int)=(s:Int):=dec_f h
       rw[if_neg (by omega)]
 . rintro _ _ rfl
   rfl
theorem qaK:q3Y rollM ((ptL 3 0).getD []) [0,0,1]=((1,8),0,()):=by decide +kernel
theorem roll_now:nowQ rollM ((ptL 3 0).getD []) [0,0]=(some [(2,3),(1,3),(0,1)],0,()):=by decide +kernel
theorem qaJ {r:DL×(Int×Unit)} (h:apartOk rollM 0 1 r):r=(some [0,0],(0,())):=by
 have e0:onlyQ rollM=0:=by rw[onlyQ,if_pos roll_ok,if_pos roll_one]
 have hl:q0b rollM (prQ 0 1) [0,0]:=by
  refine⟨⟨by intro a ha;have:a=0:=by simpa using ha
             subst this;exact⟨by decide,by decide⟩,by decide +kernel⟩,fun u hu=>?_⟩
  rcases Nat.lt_or_ge (code u) 65 with g | g
  . exfalso
    rcases List.eq_nil_or_concat u with e | ⟨v,k,e⟩
    . subst e
      exact hu.2 (prQ_sum (by decide) (by decide))
    . rw[List.concat_eq_append] at e
      subst e
      rw[q0i] at g
      have hv:v=[]:=by
       rcases Classical.em (v=[]) with e | e
       . exact e
       . have:=q5j e;omega
      subst hv
      refine hu.2 ?_
      show sumQ (seenQ rollM (prQ 0 1) k) 3=0
      show ((0+(if (0:Int)=k then prQ 0 1 0 else 0))+(if (0:Int)=k then prQ 0 1 1 else 0))+(if (1:Int)=k then prQ 0 1 2 else 0)=0
      have h0:prQ 0 1 0=1:=by decide +kernel
      have h1:prQ 0 1 1 = -1:=by decide +kernel
      have h2:prQ 0 1 2=0:=by decide +kernel
      rw[h0,h1,h2,ite_self]
      by_cases g:(0:Int)=k
      . rw[if_pos g,if_pos g];decide +kernel
      . rw[if_neg g,if_neg g];decide +kernel
  . exact g
 unfold apartOk at h
 rw[e0,if_pos rfl,if_pos (by decide)] at h
 rcases h with ⟨w,h1,h2⟩ | ⟨h1,_⟩
 . rw[h2,h1.uniq hl]
 . exact absurd hl.1 (h1 _)
theorem q7F:callV Pg q3N [] .bool fun r=>r=true:=by
 refine qbL ⟨_,rfl⟩ ((r_Point 3 0 (by decide)).mono ?_)
 rintro _ rfl
 refine s_Roll.mono ?_;rintro _ rfl
 refine (q5X rollM (ptL 3 0) (some [0,0,1]) (by decide) (by decide)).mono ?_;rintro _ rfl
 refine s_Roll.mono ?_;rintro _ rfl
 refine (s_Now rollM (ptL 3 0) (some [0,0]) (by decide) (by decide)).mono ?_;rintro _ rfl
 refine s_Roll.mono ?_;rintro _ rfl
 refine (s_Apart rollM 0 1 (fun _=>by decide)).mono fun r hr=>?_
 rw[qaJ hr]
 rw[show ((some [(0:Int),0,1]).getD [])=[0,0,1] from rfl,show ((some [(0:Int),0]).getD [])=[0,0] from rfl,qaK,roll_now]
 refine joinE (br_t rfl ((q4h 1 8).mono ?_))
 rintro _ rfl
 refine br_t rfl (br_t rfl ((q4h 2 3).mono ?_))
 rintro _ rfl
 refine (q4h 1 3).mono ?_;rintro _ rfl
 refine (q4h 0 1).mono ?_;rintro _ rfl
 refine (r_Same _ _ rfl (by decide)).mono ?_
 rintro _ rfl
 refine br_t rfl (br_t rfl ((r_List _ _ (by decide)).mono ?_))
 rintro _ rfl
 rfl
end Go.Proofs.Pf.B
namespace Go.Proofs.Pf.B
open Go Go.VM
theorem rat_pos {q:Rat}:0<sgn q.num↔0<q:=by
 rw[sgn_pos]
 have h:0<=q.num↔0<=q:=Rat.num_nonneg
 have hz:q.num=0↔q=0:=Rat.num_eq_zero
 constructor
 . intro g
   have h1:q≠0:=fun e=>by have:=hz.2 e;omega
   have h2:=h.1 (by omega)
   grind
 . intro g
   have h1:q.num≠0:=fun e=>by have:=hz.1 e;grind
   have h2:0<=q.num:=h.2 (by grind)
   omega
theorem q47 {q r:Rat}:0<sgn (q - r).num↔r<q:=by rw[rat_pos];exact (Rat.lt_iff_sub_pos r q).symm
def maxQ (f:Nat->Rat):Nat->Rat
 | 0=>0
 | n+1=>if maxQ f n<f n then f n else maxQ f n
def argQ (f:Nat->Rat):Nat->Nat
 | 0=>0
 | n+1=>if maxQ f n<f n then n else argQ f n
theorem maxQ_qb {f:Nat->Rat} {e:Nat}:∀ n,(∀ i,i<n->QB e (f i))->QB e (maxQ f n)
 | 0,_=>⟨by show (0:Rat).num.natAbs<=_;exact Nat.zero_le _,kk_pos e⟩
 | n+1,h=>by
  simp only[maxQ]
  split
  . exact h n (by omega)
  . exact maxQ_qb n fun i hi=>h i (by omega)
theorem argQ_lt {f:Nat->Rat}:∀ n,0<n->argQ f n<n
 | 1,_=>by simp only[argQ];split<;>omega
 | n+2,_=>by
  simp only[argQ]
  split
  . omega
  . have:=argQ_lt (f:=f) (n+1) (by omega)
    simp only[argQ] at this
    omega
def bestR (m:DMo) (view:List Int):Nat->Nat->Rat
 | 0=>seenQ m (fun _=>1) (int view (view.length - 1))
 | d+1=>seenQ m (fun s=>maxQ (fun t=>rowQ m s t*bestR m view d t) (m.getD []).length) (int view (view.length - 1 - (d+1)))
def bestQ (m:DMo) (view:List Int) (i:Nat):Nat->Rat:=bestR m view (view.length - 1 - i)
theorem QB.zero (e:Nat):QB e 0:=⟨Nat.zero_le _,kk_pos e⟩
theorem seen_qb {m:DMo} {f:Nat->Rat} {e:Nat} {k:Int} {s:Nat} (h:QB e (f s)):QB e (seenQ m f k s):=by
 unfold seenQ;split
 . exact h
 . exact QB.zero e
theorem moOk.rowqb {m:DMo} (h:moOk m) {s t:Nat} (hs:s<(m.getD []).length):QB 1 (rowQ m s t):=by
 obtain⟨g1,g2⟩:=brQ_kk (l:=bs_ m s) (bs_ m s).length t fun j hj=>((h.bs hs).2.2 j hj).2.2
 have e:KK ^ 1=KK:=Nat.pow_one KK
 exact⟨by rw[e];exact g1,by rw[e];exact g2⟩
theorem bestR_qb {m:DMo} (h:moOk m) (view:List Int):∀ d s,s<(m.getD []).length->QB d (bestR m view d s)
 | 0,s,_=>seen_qb (QB.one 0)
 | d+1,s,hs=>by
  refine seen_qb (maxQ_qb _ fun t ht=>?_)
  rw[Nat.add_comm]
  exact (h.rowqb hs).mul (bestR_qb h view d t ht)
theorem s_best {m:DMo} {view:DL} (hm:moOk m) (hv:(view.getD []).length<=1000):
 callV Pg q3T [⟨tMo,m⟩,⟨tL,view⟩] (.sl (.sl tER)) fun r=>RLL r (bestQ m (view.getD [])) (view.getD []).length (m.getD []).length:=by
 have hN:=hm.1.2
 refine qcM m view (RLL.ex _ _ _) ((q1s hm).mono fun rows hp=>?_)
 have esz:szSl m=((m.getD []).length:Int):=rfl
 have ev:szSl view=((view.getD []).length:Int):=rfl
 rw[ev]
 generalize hn:(view.getD []).length=n at *
 generalize hNN:(m.getD []).length=N at *
 refine⟨⟨by omega,by omega,by omega⟩,?_⟩
 have e1:IntKind.wrap IntKind.i64 ((n:Int) - 1)=(n:Int) - 1:=wi64 (by omega) (by omega)
 rw[e1]
 refine loopE (fun s=>∃ k:Nat,∃ out:Option (List (Option (List DR))),s=(view,(rows,((n:Int),((n:Int) - 1 - (k:Int),(m,out)))))/\k<=n/\(out.getD []).length=n/\∀ j,n<=k+j->j<n->RL ((out.getD []).getD j none) (bestQ m (view.getD []) j) N) (fun s=>(s.2.2.2.1+1).toNat) ⟨0,some (repS (n:Int) none),by rw[show (n:Int) - 1 - ((0:Nat):Int)=(n:Int) - 1 by omega],by omega,by show (List.replicate (n:Int).toNat none).length=n;simp,fun j h1 h2=>by omega⟩ ?_
 rintro _ ⟨k,out,rfl,hk,ho1,ho2⟩
 dsimp only
 refine br_c (fun h=>?_) fun h=>?_
 case refine_2=>
  have h:¬ (0:Int)<=(n:Int) - 1 - (k:Int):=dec_f h
  exact⟨ho1,fun j hj=>ho2 j (by omega) hj⟩
 have h:(0:Int)<=(n:Int) - 1 - (k:Int):=dec_t h
 obtain⟨i,hi⟩:∃ i:Nat,(n:Int) - 1 - (k:Int)=(i:Int):=⟨n - 1 - k,by omega⟩
 have hik:i+k+1=n:=by omega
 rw[hi,esz]
 have hz:=RL.zero N
 refine⟨⟨by omega,by omega,by omega⟩,?_⟩
 rw[show szSl (some (repS (α:=DR) (N:Int) r0))=(N:Int) by show (((some (repS (N:Int) r0)).getD []).length:Int)=N;rw[hz.1]]
 have hbq:bestQ m (view.getD []) i=seenQ m (fun s=>if k=0 then 1 else maxQ (fun t=>rowQ m s t*bestQ m (view.getD []) (i+1) t) N) (int (view.getD []) i):=by
  unfold bestQ
  rw[hn]
  by_cases hk0:k=0
  . subst hk0
    rw[show n - 1 - i=0 by omega]
    simp only[bestR,hn,if_true]
    rw[show n - 1=i by omega]
  . obtain⟨k',rfl⟩:∃ k',k=k'+1:=⟨k - 1,by omega⟩
    rw[show n - 1 - i=k'+1 by omega,show n - 1 - (i+1)=k' by omega]
    simp only[bestR,hn,hNN,if_neg hk0]
    rw[show n - 1 - (k'+1)=i by omega]
 refine rangeB (n:=N) (fun s v=>(view,(rows,((n:Int),((i:Int),((N:Int),((s:Int),(m,(out,v)))))))))
  (fun s v=>RL v (fun x=>if x<s then (if k=0 then 1 else maxQ (fun t=>rowQ m x t*bestQ m (view.getD []) (i+1) t) N) else 0) N) (some (repS (N:Int) r0)) rfl (hz.congr fun j _=>if_neg (by omega)) (fun p=>p.2.2.2.2.2.1.toNat) (fun _ _=>rfl) (fun _ _ _=>rfl) ?_ ?_
 . intro k3 s v hs hv' hk3
   refine joinR (fun p=>∃ v',p=(view,(rows,((n:Int),((i:Int),((N:Int),((s:Int),(m,(out,v'))))))))/\RL v' (fun x=>if x<s+1 then (if k=0 then 1 else maxQ (fun t=>rowQ m x t*bestQ m (view.getD []) (i+1) t) N) else 0) N) ?_ ?_
   . rintro _ ⟨v',rfl,hv2⟩
     dsimp only
     rw[wi1 hs (by omega)]
     exact hk3 v' hv2
   intro k5 hk5
   dsimp only
   rw[e1]
   refine br_c (fun hc=>?_) fun hc=>?_
   . have hc:(i:Int)=(n:Int) - 1:=dec_t hc
     have hk0:k=0:=by omega
     refine s_One.mono fun z hz1=>⟨in_s (by rw[hv'.1];exact hs),hk5 _ ⟨_,rfl,hv'.set (i:=s) hs ?_ fun j _ hj=>?_⟩⟩
     . rw[if_pos (by omega),if_pos hk0];exact hz1
     . try dsimp only
       by_cases g:j<s
       . rw[if_pos g,if_pos (by omega)]
       . rw[if_neg g,if_neg (by omega)]
   . have hc:¬ (i:Int)=(n:Int) - 1:=dec_f hc
     have hk0:k≠0:=by omega
     have hrow:=hp.2 s hs
     refine⟨in_s (by rw[hp.1];exact hs),?_⟩
     rw[q0t]
     generalize hr:(rows.getD []).getD s none=row at *
     have er:szSl row=(N:Int):=by show ((row.getD []).length:Int)=N;rw[hrow.1]
     rw[er]
     refine rangeB (n:=N) (fun t v=>(view,(rows,((n:Int),((i:Int),((s:Int),((N:Int),((s:Int),(row,((N:Int),((t:Int),(m,(out,v)))))))))))))
      (fun t v=>RL v (fun x=>if x<s then (if k=0 then 1 else maxQ (fun t=>rowQ m x t*bestQ m (view.getD []) (i+1) t) N) else if x=s then maxQ (fun t=>rowQ m s t*bestQ m (view.getD []) (i+1) t) t else 0) N) v rfl (hv'.congr fun j _=>?_) (fun p=>p.2.2.2.2.2.2.2.2.2.1.toNat) (fun _ _=>rfl) (fun _ _ _=>rfl) ?_ ?_
     . try dsimp only
       by_cases g:j<s
       . rw[if_pos g,if_pos g]
       . rw[if_neg g,if_neg g]
         split<;>rfl
     . intro k6 t v ht hv2 hk6
       dsimp only
       have hwi:IntKind.wrap IntKind.i64 ((i:Int)+1)=((i+1:Nat):Int):=by rw[wi64 (by omega) (by omega)];rfl
       rw[hwi]
       have hnext:RL (eltN none out (toN ((i+1:Nat):Int))) (bestQ m (view.getD []) (i+1)) N:=ho2 (i+1) (by omega) (by omega)
       refine⟨in_s (by rw[hrow.1];exact ht),in_s (by rw[ho1];omega),in_s (by rw[hnext.1];exact ht),?_⟩
       rw[q05,q05]
       have q1:QB 1 (rowQ m s t):=hm.rowqb (by rw[hNN];exact hs)
       have q2:QB 1000 (bestQ m (view.getD []) (i+1) t):=(bestR_qb hm _ _ t (by rw[hNN];exact ht)).mono (by rw[hn];omega)
       refine (q1S (k:=3000) longS (hrow.2 t ht) (hnext.2 t ht) (q1.fit.mono (by decide)) (q2.fit.mono (by decide)) (by decide)).mono fun x hx=>⟨in_s (by rw[hv2.1];exact hs),?_⟩
       have hvs:RV (eltN r0 v (toN (s:Int))) (maxQ (fun t=>rowQ m s t*bestQ m (view.getD []) (i+1) t) t):=by
        have:=hv2.2 s hs
        dsimp only at this
        rw[if_neg (by omega),if_pos rfl] at this
        exact this
       have q3:QB 1001 (maxQ (fun t=>rowQ m s t*bestQ m (view.getD []) (i+1) t) t):=maxQ_qb _ fun j hj=>((hm.rowqb (by rw[hNN];exact hs)).mul ((bestR_qb hm _ _ j (by rw[hNN];omega)).mono (f:=1000) (by rw[hn];omega))).mono (by decide)
       have q4:=(q1.mul q2).mono (f:=1001) (by decide)
       refine (q3i (k:=3000) hx hvs (q4.fit.mono (by decide)) (q3.fit.mono (by decide)) (by decide)).mono ?_
       rintro _ rfl
       refine joinR (fun p=>∃ v',p=(view,(rows,((n:Int),((i:Int),((s:Int),((N:Int),((s:Int),(row,((N:Int),((t:Int),(m,(out,v'))))))))))))/\RL v' (fun x=>if x<s then (if k=0 then 1 else maxQ (fun t=>rowQ m x t*bestQ m (view.getD []) (i+1) t) N) else if x=s then maxQ (fun t=>rowQ m s t*bestQ m (view.getD []) (i+1) t) (t+1) else 0) N) ?_ ?_
       . rintro _ ⟨v',rfl,hv3⟩
         dsimp only
         rw[wi1 ht (by omega)]
         exact hk6 v' hv3
       . intro k10 hk10
         refine br_c (fun hb=>?_) fun hb=>?_
         . have hb:=q47.1 (dec_t hb:(0:Int)<_)
           refine⟨in_s (by rw[hv2.1];exact hs),hk10 _ ⟨_,rfl,hv2.set (i:=s) hs ?_ fun j _ hj=>?_⟩⟩
           . rw[if_neg (by omega),if_pos rfl]
             simp only[maxQ]
             rw[if_pos hb];exact hx
           . try dsimp only
             rw[if_neg hj,if_neg hj]
         . have hb:¬ _:=fun g=>dec_f hb (q47.2 g)
           refine hk10 _ ⟨v,rfl,hv2.congr fun j _=>?_⟩
           simp only[maxQ]
           rw[if_neg hb]
     . intro _ v hv2
       dsimp only
       refine hk5 _ ⟨v,rfl,hv2.congr fun j _=>?_⟩
       try dsimp only
       by_cases g:j<s
       . rw[if_pos g,if_pos (by omega)]
       . rw[if_neg g]
         by_cases g2:j=s
         . rw[if_pos g2,if_pos (by omega),if_neg hk0,g2]
         . rw[if_neg g2,if_neg (by omega)]
 . intro _ v hv'
   dsimp only
   refine⟨in_s (by omega),?_⟩
   rw[q2g]
   refine (q3k (m:=m) (l:=v) (f:=fun s=>if k=0 then 1 else maxQ (fun t=>rowQ m s t*bestQ m (view.getD []) (i+1) t) N) (by rw[hNN];exact hv'.congr fun j hj=>by rw[if_pos hj]) (by rw[hNN];omega)).mono fun p5 hp5=>⟨in_s (by rw[ho1];omega),?_⟩
   rw[hNN,<-hbq] at hp5
   have e2:IntKind.wrap IntKind.i64 ((i:Int) - 1)=(n:Int) - 1 - ((k+1:Nat):Int):=by rw[wi64 (by omega) (by omega)];omega
   rw[e2]
   refine⟨⟨k+1,_,rfl,by omega,by rw[q6b];exact ho1,fun j h1 h2=>?_⟩,?_⟩
   . cases out with
     | none=>simp at ho1;omega
     | some o=>
      have ho1:o.length=n:=ho1
      show RL ((o.set i p5).getD j none) _ _
      by_cases g:j=i
      . subst g
        rw[List.getD_eq_getElem?_getD,List.getElem?_set_self (by omega)];exact hp5
      . rw[List.getD_eq_getElem?_getD,List.getElem?_set_ne (fun e=>g e.symm),<-List.getD_eq_getElem?_getD]
        exact ho2 j (by omega) h2
   . show ((n:Int) - 1 - ((k+1:Nat):Int)+1).toNat<((i:Int)+1).toNat
     omega
end Go.Proofs.Pf.B
namespace Go.Proofs.Pf.B
open Go Go.VM
def frQ (m:DMo) (x:Nat->Rat) (view:List Int):Nat->Nat->Rat
 | 0=>x
 | i+1=>rowQ m (argQ (fun s=>frQ m x view i s*bestQ m view i s) (m.getD []).length)
def atQ (m:DMo) (x:Nat->Rat) (view:List Int) (i:Nat):Nat:=argQ (fun s=>frQ m x view i s*bestQ m view i s) (m.getD []).length
def topQ (m:DMo) (x:Nat->Rat) (view:List Int) (i:Nat):Rat:=maxQ (fun s=>frQ m x view i s*bestQ m view i s) (m.getD []).length
def chQ (m:DMo) (x:Nat->Rat) (view:List Int):Nat->Rat
 | 0=>1
 | i+1=>chQ m x view i*frQ m x view i (atQ m x view i)
def pathQ (m:DMo) (x:Nat->Rat) (view:List Int):DL×((Int×Int)×(Int×Unit)):=
 if ∃ i,i<view.length/\topQ m x view i=0 then (none,((0,0),(5,()))) else
  if (outQ (chQ m x view view.length)).2.1=0 then (optL (tab (fun i=>(atQ m x view i:Int)) view.length),((outQ (chQ m x view view.length)).1,(0,()))) else (none,((0,0),((outQ (chQ m x view view.length)).2.1,())))
instance {n:Nat} {P:Nat->Prop} [DecidablePred P]:Decidable (∃ i,i<n/\P i):=Nat.decidableExistsLT n
def likelyQ (m:DMo) (d:List (Int×Int)) (v:List Int):DL×((Int×Int)×(Int×Unit)):=if askedQ m d v=0 then pathQ m (dQ d) v else (none,((0,0),(askedQ m d v,())))
theorem frQ_qb {m:DMo} (h:moOk m) {x:Nat->Rat} (hx:∀ s,s<(m.getD []).length->QB 1 (x s)) (view:List Int):∀ i s,s<(m.getD []).length->QB 1 (frQ m x view i s)
 | 0,s,hs=>hx s hs
 | i+1,s,_=>h.rowqb (argQ_lt _ h.1.1)
theorem chQ_qb {m:DMo} (h:moOk m) {x:Nat->Rat} (hx:∀ s,s<(m.getD []).length->QB 1 (x s)) (view:List Int):∀ i,QB i (chQ m x view i)
 | 0=>QB.one 0
 | i+1=>(chQ_qb h hx view i).mul (frQ_qb h hx view i _ (argQ_lt _ h.1.1))
theorem dQ_qb {m:DMo} {d:List (Int×Int)} {n:Nat} (h:distOk n d):∀ s,s<n->QB 1 (dQ d s):=fun s hs=>by
 have e:KK ^ 1=KK:=Nat.pow_one KK
 have e2:=h.2.1
 obtain⟨g1,g2⟩:=numQ_kk (h.1 s (by omega)).1
 rw[h.1.dq (by omega)]
 exact⟨by rw[e];exact g1,by rw[e];exact g2⟩
theorem q5Z (m:DMo) (d:Option (List (Int×Int))) (v:DL) (hd:(d.getD []).length<=1000) (hv:(v.getD []).length<4611686018427387904):
 lendV Pg q2U 3 q2z (m,d,v) fun q=>(q.2.2,(q.1,(q.2.1,())))=likelyQ m (d.getD []) (v.getD []):=by
 refine qcE (Q:=fun q=>(q.2.2,(q.1,(q.2.1,())))=likelyQ m (d.getD []) (v.getD [])) m d v ⟨((likelyQ m (d.getD []) (v.getD [])).2.1,((likelyQ m (d.getD []) (v.getD [])).2.2.1,(likelyQ m (d.getD []) (v.getD [])).1)),rfl⟩ ((q2r m d v hd hv).mono ?_)
 rintro _ rfl
 by_cases h:askedQ m (d.getD []) (v.getD [])=0
 case neg=>
  rw[decide_eq_false h]
  exact br_t rfl (by show (none,(_,(_,())))=_;rw[likelyQ,if_neg h])
 rw[decide_eq_true h]
 refine br_f rfl ?_
 obtain⟨h1,h2,h3,h4⟩:=q0K h
 rw[likelyQ,if_pos h]
 have hN:=h1.1
 have hlen:=h3.1
 have hxq:=dQ_qb (m:=m) h2
 generalize hX:dQ (d.getD [])=x at *
 generalize hV:v.getD []=view at *
 generalize hNN:(m.getD []).length=N at *
 have ev:szSl v=(view.length:Int):=by show ((v.getD []).length:Int)=_;rw[hV]
 refine s_One.mono fun p1 hp1=>joinR (fun p=>∃ c:DR,p=(((0:Int),(0:Int)),(c,optL (tab (fun i=>(atQ m x view i:Int)) view.length)))/\RV c (chQ m x view view.length)/\¬ ∃ i,i<view.length/\topQ m x view i=0) ?_ ?_
 . rintro _ ⟨c,rfl,hc,hno⟩
   refine (s_Out hc).mono ?_
   rintro _ rfl
   rw[pathQ,if_neg hno]
   refine br_c (fun g=>?_) fun g=>?_
   . have g:¬ (outQ (chQ m x view view.length)).2.1=0:=by simpa[notB] using g
     rw[if_neg g]
   . have g:(outQ (chQ m x view view.length)).2.1=0:=by simpa[notB] using g
     rw[if_pos g]
 intro k2 hk2
 rw[ev]
 refine br_c (fun g=>?_) fun g=>?_
 case refine_2=>
  have g:¬ (0:Int)<(view.length:Int):=dec_f g
  have e0:view=[]:=List.eq_nil_of_length_eq_zero (by omega)
  subst e0
  exact hk2 _ ⟨p1,rfl,hp1,fun ⟨i,hi,_⟩=>by cases hi⟩
 have hbest:callV Pg q3T [⟨tMo,m⟩,⟨tL,v⟩] (.sl (.sl tER)) fun r=>RLL r (bestQ m view) view.length N:=by
  have:=s_best (view:=v) h1 (by rw[hV];omega)
  rwa [hV,hNN] at this
 have hrows:callV Pg q0A [⟨tMo,m⟩] (.sl (.sl tER)) fun r=>RM r (rowQ m) N:=by
  have:=q1s h1
  rwa [hNN] at this
 have hrats:callV Pg q1h [⟨(.sl tNum),d⟩] (.sl tER) fun r=>RL r x N:=by
  refine (q3j (fun i hi=>(h2.1 i hi).1) (by omega)).mono fun r hr=>?_
  rw[h2.2.1] at hr
  exact hr.congr fun j hj=>by rw[<-hX];exact h2.1.dq (by rw[h2.2.1];exact hj)
 refine hrows.mono fun rows hp=>hbest.mono fun rest hr=>hrats.mono fun fr hfr=>?_
 have hfq:∀ i s,s<N->QB 1 (frQ m x view i s):=fun i s hs=>frQ_qb h1 (by rw[hNN];exact hxq) view i s (by rw[hNN];exact hs)
 have hbq:∀ i s,s<N->QB 200 (bestQ m view i s):=fun i s hs=>(bestR_qb h1 view _ s (by rw[hNN];exact hs)).mono (by omega)
 have hcq:∀ i,i<=view.length->QB 200 (chQ m x view i):=fun i hi=>(chQ_qb h1 (by rw[hNN];exact hxq) view i).mono (by omega)
 refine rangeB (n:=view.length) (fun i (s:Option (List DR)×(DR×DL))=>(rows,(rest,(s.1,((view.length:Int),((i:Int),(((0:Int),(0:Int)),s.2)))))))
  (fun i s=>RL s.1 (frQ m x view i) N/\RV s.2.1 (chQ m x view i)/\s.2.2=optL (tab (fun i=>(atQ m x view i:Int)) i)/\∀ j,j<i->topQ m x view j≠0) (fr,(p1,none)) rfl ⟨hfr,hp1,rfl,fun j hj=>absurd hj (by omega)⟩ (fun p=>p.2.2.2.2.1.toNat) (fun _ _=>rfl) (fun _ _ _=>rfl) ?_ ?_
 . rintro k6 i ⟨fr,ch,path⟩ hi ⟨i1,i2,i3,i4⟩ hk6
   have i1:RL fr (frQ m x view i) N:=i1
   have i2:RV ch (chQ m x view i):=i2
   have i3:path=optL (tab (fun i=>(atQ m x view i:Int)) i):=i3
   dsimp only
   have ef:szSl fr=(N:Int):=by show ((fr.getD []).length:Int)=N;rw[i1.1]
   rw[ef]
   have hri:=hr.2 i hi
   have hg:atQ m x view i=argQ (fun s=>frQ m x view i s*bestQ m view i s) N:=by rw[atQ,hNN]
   have ht:topQ m x view i=maxQ (fun s=>frQ m x view i s*bestQ m view i s) N:=by rw[topQ,hNN]
   generalize hG:(fun s=>frQ m x view i s*bestQ m view i s)=G at *
   have hGq:∀ s,s<N->QB 201 (G s):=fun s hs=>by rw[<-hG];exact ((hfq i s hs).mul (hbq i s hs)).mono (by decide)
   refine rangeB (n:=N) (fun s (y:Int×DR)=>(rows,(rest,(fr,((i:Int),(y.1,((view.length:Int),((i:Int),(fr,((N:Int),((s:Int),(((0:Int),(0:Int)),(ch,(y.2,path))))))))))))))
    (fun s y=>y.1=(argQ G s:Int)/\RV y.2 (maxQ G s)) ((0:Int),r0) rfl ⟨rfl,RV_r0⟩ (fun p=>p.2.2.2.2.2.2.2.2.2.1.toNat) (fun _ _=>rfl) (fun _ _ _=>rfl) ?_ ?_
   . rintro k8 s ⟨ag,top⟩ hs ⟨j1,j2⟩ hk8
     have j1:ag=(argQ G s:Int):=j1
     have j2:RV top (maxQ G s):=j2
     subst j1
     dsimp only
     refine⟨in_s (by rw[i1.1];exact hs),in_s (by rw[hr.1];exact hi),?_⟩
     rw[q0t]
     refine⟨in_s (by rw[hri.1];exact hs),?_⟩
     rw[q05,q05]
     refine (q1S (k:=3000) longS (i1.2 s hs) (hri.2 s hs) ((hfq i s hs).fit.mono (by decide)) ((hbq i s hs).fit.mono (by decide)) (by decide)).mono fun z hz=>?_
     have hz:RV z (G s):=by rw[<-hG];exact hz
     refine (q3i (k:=3000) hz j2 ((hGq s hs).fit.mono (by decide)) ((maxQ_qb s fun t ht=>hGq t (by omega)).fit.mono (by decide)) (by decide)).mono ?_
     rintro _ rfl
     refine joinR (fun p=>∃ ag' top',p=(rows,(rest,(fr,((i:Int),(ag',((view.length:Int),((i:Int),(fr,((N:Int),((s:Int),(((0:Int),(0:Int)),(ch,(top',path)))))))))))))/\ag'=(argQ G (s+1):Int)/\RV top' (maxQ G (s+1))) ?_ ?_
     . rintro _ ⟨ag',top',rfl,a1,a2⟩
       dsimp only
       rw[wi1 hs (by omega)]
       exact hk8 (ag',top') ⟨a1,a2⟩
     . intro k12 hk12
       refine br_c (fun hb=>?_) fun hb=>?_
       . have hb:=q47.1 (dec_t hb:(0:Int)<_)
         exact hk12 _ ⟨_,_,rfl,by simp only[argQ];rw[if_pos hb],by simp only[maxQ];rw[if_pos hb];exact hz⟩
       . have hb:¬ _:=fun g=>dec_f hb (q47.2 g)
         exact hk12 _ ⟨_,_,rfl,by simp only[argQ];rw[if_neg hb],by simp only[maxQ];rw[if_neg hb];exact j2⟩
   . rintro _ ⟨ag,top⟩ ⟨g1,g2⟩
     have j2:RV top (topQ m x view i):=by rw[ht];exact g2
     have j1:ag=(atQ m x view i:Int):=by rw[hg];exact g1
     clear g1 g2
     subst j1
     dsimp only
     have hat:atQ m x view i<N:=by rw[hg];exact argQ_lt _ (by omega)
     refine (q0x j2).mono ?_
     rintro _ rfl
     refine br_c (fun hb=>?_) fun hb=>?_
     . have h0:=rv_zero j2 (dec_t hb)
       rw[pathQ,if_pos ⟨i,hi,h0⟩]
     . have h0:topQ m x view i≠0:=fun e=>dec_f hb (by rw[e];decide)
       refine⟨in_s (by rw[i1.1];exact hat),?_⟩
       rw[q05]
       refine (q1S (k:=3000) longS i2 (i1.2 _ hat) ((hcq i (by omega)).fit.mono (by decide)) ((hfq i _ hat).fit.mono (by decide)) (by decide)).mono fun z hz=>⟨?_,in_s (by rw[hp.1];exact hat),?_⟩
       . show ((path.getD []).length+1)*8<=140737488355328
         rw[i3,q07,tab_len];omega
       . rw[wi1 hi (by omega),q0t]
         refine hk6 (_,(_,_)) ⟨?_,hz,?_,fun j hj=>?_⟩
         . have:=hp.2 _ hat
           rw[hg,<-hG,<-hNN] at this
           rw[hg,<-hG,<-hNN]
           exact this
         . show appL path [_]=_
           rw[i3,q0G,q1V]
         . by_cases g:j=i
           . subst g;exact h0
           . exact i4 j (by omega)
 . rintro _ ⟨fr,ch,path⟩ ⟨i1,i2,i3,i4⟩
   have i3:path=optL (tab (fun i=>(atQ m x view i:Int)) view.length):=i3
   subst i3
   exact hk2 _ ⟨ch,rfl,i2,fun ⟨i,hi,e⟩=>i4 i hi e⟩
theorem s_Likely (m:DMo) (d:Option (List (Int×Int))) (v:DL) (hd:(d.getD []).length<=1000) (hv:(v.getD []).length<4611686018427387904):
 callV Pg q2U [⟨tMo,m⟩,⟨(.sl tNum),d⟩,⟨tL,v⟩] (.tup (.pair tL (.pair tNum (.pair tI .unit)))) fun r=>r=likelyQ m (d.getD []) (v.getD []):=
 q1E (L:=q2z) (p:=(m,d,v)) (q5Z m d v hd hv) fun _ hq=>⟨_,rfl,hq⟩
end Go.Proofs.Pf.B
namespace Go.Proofs.Pf.B
open Go Go.VM
section
variable {m:DMo} {Q P:Rat} {x:Nat->Rat}
def zs (view:List Int) (n:Nat):Prop:=n<=view.length/\∀ i,i<n->int view i=0
end
end Go.Proofs.Pf.B
namespace Go.Proofs.Pf.B
open Go Go.VM
def coinH (a:Int):Int×Int:=(makeQ a 12).1
def coinT (a:Int):Int×Int:=(makeQ (12 - a) 12).1
def coinC (a:Int):DCh:=((0,1),some [(0,coinT a),(1,coinH a)])
def coinM (a:Int):DMo:=some [(0,(0,some [coinC a])),(0,(1,some [coinC a])),(0,(0,some [loopC 2]))]
def coinD (a:Int):Option (List (Int×Int)):=some [(outQ (1 / 2*numQ (coinT a))).1,(outQ (1 / 2*numQ (coinH a))).1,(1,2)]
def coinOk (a:Int):Prop:=(NumOk (coinH a)/\NumOk (coinT a)/\moOk (coinM a)/\single (coinM a)/\distOk 3 ((coinD a).getD [])) /\
 ((outQ (1 / 2*numQ (coinT a))).2.1=0/\(outQ (1 / 2*numQ (coinH a))).2.1=0)/\(0<numQ (coinT a)/\numQ (coinT a)<1/\0<numQ (coinH a))
instance (a:Int):Decidable (coinOk a):=by unfold coinOk;infer_instance
def coinN (a:Int) (n:Nat):Prop:=(outQ (numQ (coinT a) ^ n*(1 / 2)+1 / 2)).2.1=0/\(outQ (numQ (coinT a) ^ n*(1 / 2) / (numQ (coinT a) ^ n*(1 / 2)+1 / 2))).2.1=0/\(outQ (1 / 2 / (numQ (coinT a) ^ n*(1 / 2)+1 / 2))).2.1=0
instance (a:Int) (n:Nat):Decidable (coinN a n):=by unfold coinN;infer_instance
theorem QB.add {a b:Nat} {q r:Rat} (h:QB a q) (g:QB b r):QB (a+b+1) (q+r):=by
 obtain⟨D,h1,h2,h3⟩:=h.qd
 obtain⟨E,g1,g2,g3⟩:=g.qd
 have e1:=(h3.scale E).add (by have:=g3.scale D;rwa [Nat.mul_comm E D] at this)
 refine QB.of (Nat.mul_pos h1 g1) (e1.mono ?_) (Nat.le_trans (kk_mul h2 g2) (kk_le (by omega)))
 have l1:KK ^ a*E<=KK ^ a*KK ^ b:=Nat.mul_le_mul_left _ g2
 have l2:KK ^ b*D<=KK ^ a*KK ^ b:=by rw[Nat.mul_comm];exact Nat.mul_le_mul_right _ h2
 have e2:KK ^ (a+b+1)=KK ^ a*KK ^ b*KK:=by rw[Nat.pow_succ,Nat.pow_add]
 have l3:KK ^ a*KK ^ b*2<=KK ^ a*KK ^ b*KK:=Nat.mul_le_mul_left _ (by decide)
 omega
theorem qb5 {q r:Rat} (h:q=r):sgn (q - r).num=0:=by rw[h,Rat.sub_self];rfl
end Go.Proofs.Pf.B
