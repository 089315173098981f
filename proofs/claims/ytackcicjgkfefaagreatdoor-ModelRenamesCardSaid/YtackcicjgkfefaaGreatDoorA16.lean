/- Typed pure data, a condition on code that says what a call gives, what the code of each function comes to, and what each function gives. -/
import Derived.Scope
import Derived.Lib.LaidTab
import Derived.Lib.ItoaNum
import Derived.Laws.CopyRow
import Derived.Laws.AppendOwn
import Derived.Laws.MakeOwn
import Derived.Laws.BytesString
import Derived.Laws.StructEq
import Derived.Laws.Small
import Derived.Tactics
import Derived.Calls
import Derived.Below
import Derived.KernelRfl
import Derived.Laws.Cells
import Derived.Test.YtackcicjgkfefaaGreatDoorProg
import Derived.Lib.AppendIntMem
import Derived.Shelf.Strings.Builder1
import Derived.Shelf.Small.Bits
import Derived.Shelf.Strconv.Itoa0
import Derived.Shelf.Strconv.Itoa1
import Derived.Shelf.LaysM
import Derived.Shelf.Strconv.Itoa2
import Derived.Shelf.Strconv.Itoa3
import Derived.Shelf.Bits.Mul64
import Derived.Test.YtackcicjgkfefaaGreatDoorA9
import Derived.Test.YtackcicjgkfefaaGreatDoorA10
import Derived.Test.YtackcicjgkfefaaGreatDoorA12
import Derived.Test.YtackcicjgkfefaaGreatDoorA14
import Derived.Test.YtackcicjgkfefaaGreatDoorA15
set_option linter.unusedVariables false
set_option linter.unusedSimpArgs false
set_option linter.unnecessarySimpa false
namespace Go.Proofs.Pf.B
open Go Go.VM
abbrev Buf:=Option (List Int)
def ints (l:List UInt8):List Int:=l.map fun b=>(b.toNat:Int)
def BufIs (b:Buf) (l:List UInt8):Prop:=b.getD []=ints l
theorem q46 (s:ByteArray):bytesI s=ints (bl s):=rfl
theorem q54 (l:List UInt8):(ints l).length=l.length:=by simp[ints]
theorem appL_getB (c:Buf) (ys:List Int):(appL c ys).getD []=c.getD [] ++ ys:=by
 cases c with
 | none=>cases ys<;>rfl
 | some l=>rfl
theorem BufIs.app {b:Buf} {l:List UInt8} (h:BufIs b l) (s:ByteArray):BufIs (appL b (bytesI s)) (l ++ bl s):=by
 unfold BufIs at *
 rw[appL_getB,h,q46];simp[ints]
theorem BufIs.len {b:Buf} {l:List UInt8} (h:BufIs b l):(b.getD []).length=l.length:=by rw[h,q54]
theorem BufIs.str {b:Buf} {l:List UInt8} (h:BufIs b l):strOf b=⟨l.toArray⟩:=by
 apply bl_inj
 have e:strOf b=strOf (some (b.getD [])):=rfl
 rw[e,bl_strOf,h,bl_mk]
 simp only[ints,List.map_map]
 conv=>rhs;rw[<-List.map_id l]
 refine List.map_congr_left fun x _=>?_
 simp
theorem q2J {a:ByteArray} {c:Buf} {l:List UInt8} {Q:Int×(Unit×Unit)×Buf->Prop} (hc:BufIs c l) (hl:l.length<=1000000) (ha:(bl a).length<=1000000) (h:∀ c',BufIs c' (l ++ bl a)->Q (szStr a,(((),()),c'))):
 lendV Pg q0O 2 q0y (a,(((),()),c)) Q:=by
 have h2:=h _ (hc.app a)
 refine qb3 a ((),()) c ⟨_,h2⟩ (q9o ⟨?_,h2⟩)
 show ((c.getD []).length+(bytesI a).length)*1<=140737488355328
 rw[hc.len,q46,q54];omega
theorem s_Write0 {a:ByteArray} {Q:Int×(Unit×Unit)×Buf->Prop} (ha:(bl a).length<=1000000) (h:∀ c',BufIs c' (bl a)->Q (szStr a,(((),()),c'))):
 lendV Pg q0O 2 q2W (a,(((),()),none)) Q:=by
 have h2:=h _ (BufIs.app (b:=none) (l:=[]) rfl a)
 refine qb2 a ((),()) none ⟨_,h2⟩ (q9n ⟨?_,h2⟩)
 show (0+(bytesI a).length)*1<=140737488355328
 rw[q46,q54];omega
theorem s_BLen {c:Buf} {Q:Int×(Unit×Unit)×Buf->Prop} (h:Q (szSl c,(((),()),c))):lendV Pg q4O 1 q2U (((),()),c) Q:=
 qb0 ((),()) c ⟨_,h⟩ h
theorem s_BString {c:Buf} {l:List UInt8} {Q:ByteArray×Unit×Unit->Prop} (hc:BufIs c l) (h0:0<l.length) (hl:l.length<=1000000) (h:Q (⟨l.toArray⟩,((),()))):lendV Pg q4P 1 q2V (((),()),c) Q:=by
 have e:szSl c=(l.length:Int):=by show ((c.getD []).length:Int)=_;rw[hc.len]
 refine qb1 ((),()) c ⟨_,h⟩ ⟨by rw[e];omega,⟨rfl,rfl,by rw[e];omega,by rw[e];omega⟩,?_⟩
 rw[hc.str];exact h
abbrev lit (l:List Nat):List UInt8:=l.map UInt8.ofNat
def brS (l:List DBr):Nat->List UInt8
 | 0=>[]
 | k+1=>brS l k ++ (if 0<k then lit [44] else []) ++ (lit [32] ++ Lib.itoa (br l k).1 ++ lit [32] ++ printL (br l k).2)
def chS (l:List DCh):Nat->List UInt8
 | 0=>[]
 | j+1=>chS l j ++ (lit [99,104,111,105,99,101,32] ++ printL (ch l j).1 ++ lit [58]) ++ brS ((ch l j).2.getD []) ((ch l j).2.getD []).length ++ lit [10]
def stS (l:List DSt):Nat->List UInt8
 | 0=>[]
 | i+1=>stS l i ++ (lit [115,116,97,116,101,32] ++ Lib.itoa (stt l i).1 ++ lit [32] ++ Lib.itoa (stt l i).2.1 ++ lit [10]) ++ chS ((stt l i).2.2.getD []) ((stt l i).2.2.getD []).length
def hdS (m:DMo):List UInt8:=lit [109,111,100,101,108,32] ++ Lib.itoa ((m.getD []).length:Int) ++ lit [10]
def moS (m:DMo):List UInt8:=hdS m ++ stS (m.getD []) (m.getD []).length
def prtQ (m:DMo):ByteArray×Int×Unit:=if moOk m then (if 32768<(moS m).length then (bytesL [],3,()) else (⟨(moS m).toArray⟩,0,())) else (bytesL [],1,())
theorem q05 (l:List Nat):bl (bytesL l)=lit l:=q33 l
theorem q08 (a b:ByteArray):bl (catS a b)=bl a ++ bl b:=q32 a b
theorem catC_of {a b:ByteArray} (h:(bl a).length+(bl b).length<=1000000):catC a b:=by
 unfold catC
 rw[q2b,q2b];omega
theorem q44 {n:Int} {l:List DBr} (hn:n<=40):∀ {k:Nat},(∀ j,j<k->brOk n l j)->(brS l k).length<=140*k
 | 0,_=>by simp[brS]
 | k+1,h=>by
  have h1:=q44 hn (k:=k) fun j hj=>h j (by omega)
  obtain⟨b1,b2,b3,b4⟩:=h k (by omega)
  have b0:=q1Z (i:=k) fun j hj=>h j (by omega)
  have h2:=q0G (n:=(br l k).1) (by omega)
  have h3:=q3B b3
  have h4:(if 0<k then lit [44] else []).length<=1:=by split<;>decide
  simp only[brS,List.length_append,List.length_map,List.length_cons,List.length_nil] at h4 ⊢
  omega
theorem q4Q {n:Int} {l:List DCh} (hn:n<=40):∀ {j:Nat},(∀ i,i<j->chOk n (ch l i))->(chS l j).length<=1300*j
 | 0,_=>by simp[chS]
 | j+1,h=>by
  have h1:=q4Q hn (j:=j) fun i hi=>h i (by omega)
  obtain⟨b1,b2,b3,b4⟩:=h j (by omega)
  have h2:=q44 hn b3
  have h3:=q3B b1
  simp only[chS,List.length_append,List.length_map,List.length_cons,List.length_nil]
  omega
theorem stS_len {m:DMo} (h:moOk m):∀ {i:Nat},i<=(m.getD []).length->(stS (m.getD []) i).length<=11000*i
 | 0,_=>by simp[stS]
 | i+1,hi=>by
  have h1:=stS_len h (i:=i) (by omega)
  obtain⟨⟨b1,b2,b3⟩,b4⟩:=h.2 i (by omega)
  have h2:=q4Q (by have:=h.1;omega) b4
  have h3:=q0G (n:=(stt (m.getD []) i).1) (by omega)
  have h4:=q0G (n:=(stt (m.getD []) i).2.1) (by omega)
  simp only[stS,List.length_append,List.length_map,List.length_cons,List.length_nil]
  omega
end Go.Proofs.Pf.B
namespace Go.Proofs.Pf.B
open Go Go.VM
abbrev len (m:DMo):Nat:=(m.getD []).length
theorem s_MPrint (m:DMo):callV Pg q4s [⟨tMo,m⟩] (.tup (.pair .str (.pair tI .unit))) fun r=>r=prtQ m:=by
 refine qag m ⟨_,rfl⟩ ((q6Q m).mono ?_)
 rintro _ rfl
 refine q00.2 ⟨fun hb=>?_,fun hb=>?_⟩
 . rw[prtQ,if_neg (not_t hb)]
 have h:=not_f hb
 have h40:=h.1
 rw[prtQ,if_pos h]
 have i0:=q0G (n:=((m.getD []).length:Int)) (by omega)
 refine (q26 (n:=((m.getD []).length:Int)) (by omega) (by omega)).mono ?_
 rintro _ rfl
 refine⟨catC_of (by rw[q05,q0a];simp only[List.length_map,List.length_cons,List.length_nil];omega),catC_of (by rw[q08,q05,q05,q0a];simp only[List.length_append,List.length_map,List.length_cons,List.length_nil];omega),?_⟩
 have hh:bl (catS (catS (bytesL [109,111,100,101,108,32]) (itoaB ((m.getD []).length:Int))) (bytesL [10]))=hdS m:=by rw[q08,q08,q05,q05,q0a];rfl
 have hhl:(hdS m).length<=100:=by
  simp only[hdS,List.length_append,List.length_map,List.length_cons,List.length_nil];omega
 refine s_Write0 (by rw[hh];omega) fun c0 hc0=>?_
 rw[hh] at hc0
 refine loopE (fun p=>∃ (i:Nat) (b:Buf),p=(m,(((m.getD []).length:Int),((i:Int),(((),()),b))))/\i<=(m.getD []).length/\BufIs b (hdS m ++ stS (m.getD []) i)) (fun p=>(m.getD []).length - p.2.2.1.toNat) ⟨0,c0,rfl,by omega,by simpa[stS] using hc0⟩ ?_
 rintro _ ⟨i,b,rfl,hi,hbuf⟩
 dsimp only
 have hl1:(hdS m ++ stS (m.getD []) i).length<=100+11000*i:=by
  have:=stS_len h hi
  simp only[List.length_append];omega
 refine q00.2 ⟨fun hc=>?_,fun hc=>?_⟩
 . have hc:(i:Int)<((m.getD []).length:Int):=dec_t hc
   rw[q1c]
   obtain⟨⟨b1,b2,b3⟩,b4⟩:=h.2 i (by omega)
   have i1:=q0G (n:=(stt (m.getD []) i).1) (by omega)
   have i2:=q0G (n:=(stt (m.getD []) i).2.1) (by omega)
   refine⟨⟨by omega,by omega⟩,(q26 (n:=(stt (m.getD []) i).1) (by omega) (by omega)).mono ?_⟩
   rintro _ rfl
   refine⟨catC_of (by rw[q05,q0a];simp only[List.length_map,List.length_cons,List.length_nil];omega),catC_of (by rw[q08,q05,q05,q0a];simp only[List.length_append,List.length_map,List.length_cons,List.length_nil];omega),?_⟩
   refine (q26 (n:=(stt (m.getD []) i).2.1) (by omega) (by omega)).mono ?_
   rintro _ rfl
   refine⟨catC_of (by rw[q08,q08,q05,q05,q0a,q0a];simp only[List.length_append,List.length_map,List.length_cons,List.length_nil];omega),catC_of (by rw[q08,q08,q08,q05,q05,q05,q0a,q0a];simp only[List.length_append,List.length_map,List.length_cons,List.length_nil];omega),?_⟩
   have hs:bl (catS (catS (catS (catS (bytesL [115,116,97,116,101,32]) (itoaB (stt (m.getD []) i).1)) (bytesL [32])) (itoaB (stt (m.getD []) i).2.1)) (bytesL [10]))=lit [115,116,97,116,101,32] ++ Lib.itoa (stt (m.getD []) i).1 ++ lit [32] ++ Lib.itoa (stt (m.getD []) i).2.1 ++ lit [10]:=by
    rw[q08,q08,q08,q08,q05,q05,q05,q0a,q0a]
   have hsl:(lit [115,116,97,116,101,32] ++ Lib.itoa (stt (m.getD []) i).1 ++ lit [32] ++ Lib.itoa (stt (m.getD []) i).2.1 ++ lit [10]).length<=100:=by
    simp only[List.length_append,List.length_map,List.length_cons,List.length_nil];omega
   refine q2J hbuf (by omega) (by rw[hs];omega) fun c1 hc1=>?_
   rw[hs] at hc1
   refine loopE (fun p=>∃ (j:Nat) (b:Buf),p=(m,(((m.getD []).length:Int),((i:Int),((stt (m.getD []) i).2.2,((((stt (m.getD []) i).2.2.getD []).length:Int),((j:Int),(((),()),b)))))))/\j<=((stt (m.getD []) i).2.2.getD []).length /\
    BufIs b ((hdS m ++ stS (m.getD []) i) ++ (lit [115,116,97,116,101,32] ++ Lib.itoa (stt (m.getD []) i).1 ++ lit [32] ++ Lib.itoa (stt (m.getD []) i).2.1 ++ lit [10]) ++ chS ((stt (m.getD []) i).2.2.getD []) j))
    (fun p=>((stt (m.getD []) i).2.2.getD []).length - p.2.2.2.2.2.1.toNat) ⟨0,c1,rfl,by omega,by simpa[chS] using hc1⟩ ?_
   rintro _ ⟨j,b,rfl,hj,hbuf2⟩
   dsimp only
   generalize hpre:(hdS m ++ stS (m.getD []) i) ++ (lit [115,116,97,116,101,32] ++ Lib.itoa (stt (m.getD []) i).1 ++ lit [32] ++ Lib.itoa (stt (m.getD []) i).2.1 ++ lit [10])=pre at hbuf2 ⊢
   have hprel:pre.length<=200+11000*i:=by rw[<-hpre,List.length_append];omega
   have hcl:(chS ((stt (m.getD []) i).2.2.getD []) j).length<=1300*j:=q4Q (n:=((m.getD []).length:Int)) (by omega) fun k hk=>b4 k (by omega)
   have hl2:(pre ++ chS ((stt (m.getD []) i).2.2.getD []) j).length<=200+11000*i+1300*j:=by rw[List.length_append];omega
   refine q00.2 ⟨fun hd=>?_,fun hd=>?_⟩
   . have hd:(j:Int)<(((stt (m.getD []) i).2.2.getD []).length:Int):=dec_t hd
     rw[q1b]
     generalize hch:ch ((stt (m.getD []) i).2.2.getD []) j=c
     have hcok:chOk ((m.getD []).length:Int) c:=hch ▸ b4 j (by omega)
     obtain⟨d1,d2,d3,d4⟩:=hcok
     have pl:=q3B d1
     refine⟨⟨by omega,by omega⟩,(q6R c.1).mono ?_⟩
     rintro _ rfl
     rw[q2D,if_pos d1]
     refine⟨catC_of (by rw[q05,q1q];simp only[List.length_map,List.length_cons,List.length_nil];omega),catC_of (by rw[q08,q05,q05,q1q];simp only[List.length_append,List.length_map,List.length_cons,List.length_nil];omega),?_⟩
     have hs2:bl (catS (catS (bytesL [99,104,111,105,99,101,32]) (printB c.1)) (bytesL [58]))=lit [99,104,111,105,99,101,32] ++ printL c.1 ++ lit [58]:=by
      rw[q08,q08,q05,q05,q1q]
     have hs2l:(lit [99,104,111,105,99,101,32] ++ printL c.1 ++ lit [58]).length<=100:=by
      simp only[List.length_append,List.length_map,List.length_cons,List.length_nil];omega
     refine q2J hbuf2 (by omega) (by rw[hs2];omega) fun c2 hc2=>?_
     rw[hs2] at hc2
     generalize hpre2:(pre ++ chS ((stt (m.getD []) i).2.2.getD []) j) ++ (lit [99,104,111,105,99,101,32] ++ printL c.1 ++ lit [58])=pre2 at hc2
     have hpre2l:pre2.length<=300+11000*i+1300*j:=by rw[<-hpre2,List.length_append];omega
     refine loopE (fun p=>∃ (k:Nat) (b:Buf),p=(m,(((m.getD []).length:Int),((i:Int),((stt (m.getD []) i).2.2,((((stt (m.getD []) i).2.2.getD []).length:Int),((j:Int),(c.2,(((c.2.getD []).length:Int),((k:Int),(((),()),b))))))))))/\k<=(c.2.getD []).length /\
      BufIs b (pre2 ++ brS (c.2.getD []) k)) (fun p=>(c.2.getD []).length - p.2.2.2.2.2.2.2.2.1.toNat) ⟨0,c2,rfl,by omega,by simpa[brS] using hc2⟩ ?_
     rintro _ ⟨k,b,rfl,hk,hbuf3⟩
     dsimp only
     have hbl:(brS (c.2.getD []) k).length<=140*k:=q44 (n:=((m.getD []).length:Int)) (by omega) fun q hq=>d3 q (by omega)
     have hl3:(pre2 ++ brS (c.2.getD []) k).length<=300+11000*i+1300*j+140*k:=by rw[List.length_append];omega
     refine q00.2 ⟨fun he=>?_,fun he=>?_⟩
     . have he:(k:Int)<((c.2.getD []).length:Int):=dec_t he
       rw[q1v]
       obtain⟨f1,f2,f3,f4⟩:=d3 k (by omega)
       have f0:=q1Z (i:=k) fun q hq=>d3 q (by omega)
       have i3:=q0G (n:=(br (c.2.getD []) k).1) (by omega)
       have pl3:=q3B f3
       refine⟨⟨by omega,by omega⟩,joinR (fun p=>∃ b:Buf,p=(m,(((m.getD []).length:Int),((i:Int),((stt (m.getD []) i).2.2,((((stt (m.getD []) i).2.2.getD []).length:Int),((j:Int),(c.2,(((c.2.getD []).length:Int),((k:Int),(((),()),(br (c.2.getD []) k,b))))))))))) /\
        BufIs b (pre2 ++ brS (c.2.getD []) k ++ (if 0<k then lit [44] else []))) ?_ ?_⟩
       . rintro _ ⟨b,rfl,hbuf4⟩
         dsimp only
         have hl4:(pre2 ++ brS (c.2.getD []) k ++ (if 0<k then lit [44] else [])).length<=400+11000*i+1300*j+140*k:=by
          have h4:(if 0<k then lit [44] else []).length<=1:=by split<;>decide
          rw[List.length_append];omega
         refine (q6R _).mono ?_
         rintro _ rfl
         rw[q2D,if_pos f3]
         refine (q26 (n:=(br (c.2.getD []) k).1) (by omega) (by omega)).mono ?_
         rintro _ rfl
         refine⟨catC_of (by rw[q05,q0a];simp only[List.length_map,List.length_cons,List.length_nil];omega),catC_of (by rw[q08,q05,q0a];simp only[List.length_append,List.length_map,List.length_cons,List.length_nil];omega),catC_of (by rw[q08,q08,q05,q0a,q1q];simp only[List.length_append,List.length_map,List.length_cons,List.length_nil];omega),?_⟩
         have hs3:bl (catS (catS (catS (bytesL [32]) (itoaB (br (c.2.getD []) k).1)) (bytesL [32])) (printB (br (c.2.getD []) k).2))=lit [32] ++ Lib.itoa (br (c.2.getD []) k).1 ++ lit [32] ++ printL (br (c.2.getD []) k).2:=by
          rw[q08,q08,q08,q05,q0a,q1q]
         refine q2J hbuf4 (by omega) (by rw[hs3];simp only[List.length_append,List.length_map,List.length_cons,List.length_nil];omega) fun c4 hc4=>?_
         rw[hs3] at hc4
         rw[wi64 (by omega) (by omega)]
         refine⟨⟨k+1,c4,rfl,by omega,?_⟩,by omega⟩
         have e:pre2 ++ brS (c.2.getD []) (k+1)=pre2 ++ brS (c.2.getD []) k ++ (if 0<k then lit [44] else []) ++ (lit [32] ++ Lib.itoa (br (c.2.getD []) k).1 ++ lit [32] ++ printL (br (c.2.getD []) k).2):=by
          simp only[brS,List.append_assoc]
         rw[e];exact hc4
       . intro k' hk'
         refine q00.2 ⟨fun hf=>?_,fun hf=>?_⟩
         . have hf:(0:Int)<(k:Int):=dec_t hf
           refine q2J hbuf3 (by omega) (by rw[q05];decide) fun c4 hc4=>hk' _ ⟨c4,rfl,?_⟩
           rw[q05] at hc4
           rw[if_pos (by omega)];exact hc4
         . have hf:¬ (0:Int)<(k:Int):=dec_f hf
           refine hk' _ ⟨b,rfl,?_⟩
           rw[if_neg (by omega),List.append_nil];exact hbuf3
     . have he:¬ (k:Int)<((c.2.getD []).length:Int):=dec_f he
       obtain rfl:k=(c.2.getD []).length:=by omega
       refine q2J hbuf3 (by omega) (by rw[q05];decide) fun c4 hc4=>?_
       rw[q05] at hc4
       rw[wi64 (by omega) (by omega)]
       refine⟨⟨j+1,c4,rfl,by omega,?_⟩,by omega⟩
       have e:pre ++ chS ((stt (m.getD []) i).2.2.getD []) (j+1)=pre2 ++ brS (c.2.getD []) (c.2.getD []).length ++ lit [10]:=by
        rw[<-hpre2,<-hch]
        simp only[chS,List.append_assoc]
       rw[e];exact hc4
   . have hd:¬ (j:Int)<(((stt (m.getD []) i).2.2.getD []).length:Int):=dec_f hd
     obtain rfl:j=((stt (m.getD []) i).2.2.getD []).length:=by omega
     rw[wi64 (by omega) (by omega)]
     refine⟨⟨i+1,b,rfl,by omega,?_⟩,by omega⟩
     have e:hdS m ++ stS (m.getD []) (i+1)=pre ++ chS ((stt (m.getD []) i).2.2.getD []) ((stt (m.getD []) i).2.2.getD []).length:=by
      rw[<-hpre]
      simp only[stS,List.append_assoc]
     rw[e];exact hbuf2
 . have hc:¬ (i:Int)<((m.getD []).length:Int):=dec_f hc
   obtain rfl:i=(m.getD []).length:=by omega
   have e1:szSl b=((moS m).length:Int):=by show ((b.getD []).length:Int)=_;rw[hbuf.len];rfl
   refine s_BLen ?_
   dsimp only
   rw[e1]
   have hpos:0<(moS m).length:=by
    simp only[moS,hdS,List.length_append,List.length_map,List.length_cons];omega
   refine q00.2 ⟨fun hf=>?_,fun hf=>?_⟩
   . have hf:(32768:Int)<((moS m).length:Int):=dec_t hf
     rw[if_pos (by omega)]
   . have hf:¬ (32768:Int)<((moS m).length:Int):=dec_f hf
     rw[if_neg (by omega)]
     exact s_BString (l:=moS m) hbuf hpos (by omega) rfl
end Go.Proofs.Pf.B
namespace Go.Proofs.Pf.B
open Go Go.VM
def diceM:DMo:=some [(0,0,some [((0,1),some [(1,2,3),(2,1,3)]),((0,1),some [(0,1,2),(1,1,4),(2,1,4)])]),(0,0,some [((0,1),some [(1,1,1)])]),(0,1,some [((0,1),some [(2,1,1)])])]
theorem q0J (a b:Int):callV Pg q0t [⟨tI,a⟩,⟨tI,b⟩] tNum fun r=>r=(a,b):=qa3 a b ⟨_,rfl⟩ rfl
theorem s_dice:callV Pg q4g [] tMo fun r=>r=diceM:=by
 refine qa1 ⟨_,rfl⟩ ?_
 refine (q0J 0 1).mono ?_;rintro _ rfl
 refine (q0J 2 3).mono ?_;rintro _ rfl
 refine (q0J 1 3).mono ?_;rintro _ rfl
 refine joinE ?_
 refine (q0J 0 1).mono ?_;rintro _ rfl
 refine joinE ?_
 refine (q0J 1 2).mono ?_;rintro _ rfl
 refine (q0J 1 4).mono ?_;rintro _ rfl
 refine joinE ?_
 refine (q0J 1 4).mono ?_;rintro _ rfl
 refine joinE ?_
 refine (q0J 0 1).mono ?_;rintro _ rfl
 refine (q0J 1 1).mono ?_;rintro _ rfl
 refine joinE ?_
 refine joinE ?_
 refine (q0J 0 1).mono ?_;rintro _ rfl
 refine (q0J 1 1).mono ?_;rintro _ rfl
 refine joinE ?_
 refine joinE ?_
 rfl
theorem dice_ok:moOk diceM:=by decide +kernel
theorem dice_text:moS diceM=lit [109,111,100,101,108,32,51,10,115,116,97,116,101,32,48,32,48,10,99,104,111,105,99,101,32,48,58,32,49,32,50,47,51,44,32,50,32,49,47,51,10,99,104,111,105,99,101,32,48,58,32,48,32,49,47,50,44,32,49,32,49,47,52,44,32,50,32,49,47,52,10,115,116,97,116,101,32,48,32,48,10,99,104,111,105,99,101,32,48,58,32,49,32,49,10,115,116,97,116,101,32,48,32,49,10,99,104,111,105,99,101,32,48,58,32,50,32,49,10]:=by
 decide +kernel
theorem q5r:callV Pg q2n [] .bool fun r=>r=true:=by
 refine qa0 ⟨_,rfl⟩ (s_dice.mono ?_)
 rintro _ rfl
 refine (s_MPrint diceM).mono ?_
 rintro _ rfl
 rw[prtQ,if_pos dice_ok,dice_text,if_neg (by decide)]
 refine joinE (q00.2 ⟨fun _=>?_,fun h=>absurd rfl (dec_f h)⟩)
 show eqStr _ _=true
 rw[eqStr_bl,bl_mk,q05]
 exact decide_eq_true rfl
end Go.Proofs.Pf.B
namespace Go.Proofs.Pf.B
open Go Go.VM
abbrev int (l:List Int) (i:Nat):Int:=l.getD i 0
theorem q1Q {l:Option (List Int)} {i:Nat}:eltS (0:Int) l (i:Int)=int (l.getD []) i:=by simp only[eltS,Int.toNat_natCast]
def preI (l:List Int):Nat->Int
 | 0=>-1
 | i+1=>int l i
def setAt (n:Int) (l:List Int) (i:Nat):Prop:=preI l i<int l i/\int l i<n
instance (n:Int) (l:List Int) (i:Nat):Decidable (setAt n l i):=by unfold setAt;infer_instance
def setOk (n:Int) (l:List Int):Prop:=∀ i,i<l.length->setAt n l i
instance (n:Int) (l:List Int):Decidable (setOk n l):=by unfold setOk;infer_instance
def strAt (m:List DSt) (l:List Int) (i:Nat):Prop:=0<=int l i/\int l i<cntL (stt m i)
instance (m:List DSt) (l:List Int) (i:Nat):Decidable (strAt m l i):=by unfold strAt;infer_instance
def strOk (m:DMo) (l:List Int):Prop:=l.length=(m.getD []).length/\∀ i,i<l.length->strAt (m.getD []) l i
instance (m:DMo) (l:List Int):Decidable (strOk m l):=by unfold strOk;infer_instance
end Go.Proofs.Pf.B
namespace Go.Proofs.Pf.B
open Go Go.VM
def single (m:DMo):Prop:=∀ i,i<(m.getD []).length->((stt (m.getD []) i).2.2.getD []).length=1
instance (m:DMo):Decidable (single m):=by unfold single;infer_instance
end Go.Proofs.Pf.B
namespace Go.Proofs.Pf.B
open Go Go.VM
def evenB (l:List DBr):Prop:=∀ k,k<l.length->Int.tmod 12 (br l k).2.2=0
instance (l:List DBr):Decidable (evenB l):=by unfold evenB;infer_instance
def easyCh (c:DCh):Prop:=c.1.2=1/\c.1.1<=100 /\ -100<=c.1.1/\evenB (c.2.getD [])
instance (c:DCh):Decidable (easyCh c):=by unfold easyCh;infer_instance
def easyS (s:DSt):Prop:=∀ j,j<(s.2.2.getD []).length->easyCh (ch (s.2.2.getD []) j)
instance (s:DSt):Decidable (easyS s):=by unfold easyS;infer_instance
def plainM (m:DMo):Prop:=(∀ i,i<(m.getD []).length->easyS (stt (m.getD []) i))/\(m.getD []).length<=8
instance (m:DMo):Decidable (plainM m):=by unfold plainM;infer_instance
end Go.Proofs.Pf.B
namespace Go.Proofs.Pf.B
open Go Go.VM
def fewSt (s:DSt):Prop:=(s.2.2.getD []).length<=10/\∀ j,j<(s.2.2.getD []).length->((ch (s.2.2.getD []) j).2.getD []).length<=10
def fewOk (m:DMo):Prop:=(m.getD []).length<=45/\∀ i,i<(m.getD []).length->fewSt (stt (m.getD []) i)
theorem r_Few2 (n:Int) (m:DMo):callV Pg q4F [⟨tI,n⟩,⟨tMo,m⟩] .bool fun r=>r=true->fewOk m:=by
 refine qaP n m ⟨false,fun h=>by cases h⟩ (joinR (fun p=>∃ b:Bool,p=(b,m)/\(b=false->(m.getD []).length<=45)) ?_ ?_)
 . rintro _ ⟨b,rfl,hb⟩
   dsimp only
   refine q00.2 ⟨fun _ h=>(by cases h),fun h=>?_⟩
   have hb:=hb h
   refine loopE (fun p=>∃ i:Nat,p=(m,(((m.getD []).length:Int),(i:Int)))/\i<=(m.getD []).length/\∀ j,j<i->fewSt (stt (m.getD []) j)) (fun p=>(m.getD []).length - p.2.2.toNat) ⟨0,rfl,by omega,fun j h=>by omega⟩ ?_
   rintro _ ⟨i,rfl,hi,hall⟩
   dsimp only
   refine q00.2 ⟨fun hc=>?_,fun hc _=>?_⟩
   . have hc:(i:Int)<((m.getD []).length:Int):=dec_t hc
     rw[q1c]
     refine⟨⟨by omega,by omega⟩,q00.2 ⟨fun _ h=>(by cases h),fun h10=>?_⟩⟩
     have h10:¬ (10:Int)<(((stt (m.getD []) i).2.2.getD []).length:Int):=dec_f h10
     refine loopE (fun p=>∃ j:Nat,p=(m,(((m.getD []).length:Int),((i:Int),((stt (m.getD []) i).2.2,((((stt (m.getD []) i).2.2.getD []).length:Int),(j:Int))))))/\j<=((stt (m.getD []) i).2.2.getD []).length/\∀ k,k<j->((ch ((stt (m.getD []) i).2.2.getD []) k).2.getD []).length<=10)
      (fun p=>((stt (m.getD []) i).2.2.getD []).length - p.2.2.2.2.2.toNat) ⟨0,rfl,by omega,fun j h=>by omega⟩ ?_
     rintro _ ⟨j,rfl,hj,hall2⟩
     dsimp only
     refine q00.2 ⟨fun hd=>?_,fun hd=>?_⟩
     . have hd:(j:Int)<(((stt (m.getD []) i).2.2.getD []).length:Int):=dec_t hd
       rw[q1b]
       refine⟨⟨by omega,by omega⟩,q00.2 ⟨fun _ h=>(by cases h),fun he=>?_⟩⟩
       have he:¬ (10:Int)<(((ch ((stt (m.getD []) i).2.2.getD []) j).2.getD []).length:Int):=dec_f he
       rw[wi64 (by omega) (by omega)]
       refine⟨⟨j+1,rfl,by omega,fun k hk=>?_⟩,by omega⟩
       rcases Nat.lt_or_ge k j with q | q
       . exact hall2 k q
       . obtain rfl:k=j:=by omega
         omega
     . have hd:¬ (j:Int)<(((stt (m.getD []) i).2.2.getD []).length:Int):=dec_f hd
       obtain rfl:j=((stt (m.getD []) i).2.2.getD []).length:=by omega
       rw[wi64 (by omega) (by omega)]
       refine⟨⟨i+1,rfl,by omega,fun k hk=>?_⟩,by omega⟩
       rcases Nat.lt_or_ge k i with q | q
       . exact hall k q
       . obtain rfl:k=i:=by omega
         exact⟨by omega,hall2⟩
   . have hc:¬ (i:Int)<((m.getD []).length:Int):=dec_f hc
     obtain rfl:i=(m.getD []).length:=by omega
     exact⟨hb,hall⟩
 . intro k hk
   have fin:k ((decide ((45:Int)<szSl m)),m):=hk _ ⟨_,rfl,fun h=>by have h:¬ (45:Int)<((m.getD []).length:Int):=dec_f h;omega⟩
   refine q00.2 ⟨fun _=>q00.2 ⟨fun _=>hk _ ⟨true,rfl,fun h=>by cases h⟩,fun _=>fin⟩,fun _=>fin⟩
theorem s_few2 (l:List DMo) (hl:l.length<=10):callV Pg q4h [⟨.sl tMo,some l⟩] .bool fun r=>r=true->∀ i,i<l.length->fewOk (l.getD i none):=by
 refine qa2 (some l) ⟨false,fun h=>by cases h⟩ (loopE (fun p=>∃ i:Nat,p=(some l,((l.length:Int),(i:Int)))/\i<=l.length/\∀ j,j<i->fewOk (l.getD j none)) (fun p=>l.length - p.2.2.toNat) ⟨0,rfl,by omega,fun j h=>by omega⟩ ?_)
 rintro _ ⟨i,rfl,hi,hall⟩
 dsimp only
 refine q00.2 ⟨fun hc=>?_,fun hc _=>?_⟩
 . have hc:(i:Int)<(l.length:Int):=dec_t hc
   refine⟨⟨by omega,by simpa using hc⟩,(r_Few2 40 _).mono fun p hp=>q00.2 ⟨fun _ h=>(by cases h),fun hb=>?_⟩⟩
   rw[wi64 (by omega) (by omega)]
   refine⟨⟨i+1,rfl,by omega,fun j hj=>?_⟩,by omega⟩
   rcases Nat.lt_or_ge j i with q | q
   . exact hall j q
   . obtain rfl:j=i:=by omega
     have hp:=hp (by cases p<;>simp[notB] at hb ⊢)
     simpa only[eltS,Option.getD_some,Int.toNat_natCast] using hp
 . have hc:¬ (i:Int)<(l.length:Int):=dec_f hc
   obtain rfl:i=l.length:=by omega
   exact hall
def chEq (c d:DCh):Prop:=c.1=d.1/\c.2.getD []=d.2.getD []
instance (c d:DCh):Decidable (chEq c d):=by unfold chEq;infer_instance
def stEq (s t:DSt):Prop:=s.1=t.1/\s.2.1=t.2.1/\(s.2.2.getD []).length=(t.2.2.getD []).length/\∀ j,j<(s.2.2.getD []).length->chEq (ch (s.2.2.getD []) j) (ch (t.2.2.getD []) j)
instance (s t:DSt):Decidable (stEq s t):=by unfold stEq;infer_instance
def moEq (a b:DMo):Prop:=(a.getD []).length=(b.getD []).length/\∀ i,i<(a.getD []).length->stEq (stt (a.getD []) i) (stt (b.getD []) i)
instance (a b:DMo):Decidable (moEq a b):=by unfold moEq;infer_instance
theorem num_eq (x y:Int×Int):andB (decide (x.1=y.1)) (andB (decide (x.2=y.2)) true)=decide (x=y):=by
 obtain⟨a,b⟩:=x;obtain⟨c,d⟩:=y
 by_cases h:a=c<;>by_cases g:b=d<;>simp[andB,h,g]
theorem br_eq (x y:DBr):andB (decide (x.1=y.1)) (andB (andB (decide (x.2.1=y.2.1)) (andB (decide (x.2.2=y.2.2)) true)) true)=decide (x=y):=by
 rw[num_eq]
 obtain⟨a,b⟩:=x;obtain⟨c,d⟩:=y
 by_cases h:a=c<;>by_cases g:b=d<;>simp[andB,h,g]
theorem list_eq {l r:List DBr} (hl:l.length=r.length) (h:∀ k,k<l.length->br l k=br r k):l=r:=by
 apply List.ext_getElem hl
 intro i h1 h2
 have:=h i h1
 simpa[br,List.getD,h1,h2] using this
end Go.Proofs.Pf.B
namespace Go.Proofs.Pf.B
open Go Go.VM
theorem q6E (a b:DMo) (ha:fewOk a):callV Pg q3n [⟨tMo,a⟩,⟨tMo,b⟩] .bool fun r=>r=decide (moEq a b):=by
 refine qaQ a b ⟨_,rfl⟩ (q00.2 ⟨fun h=>?_,fun h=>?_⟩)
 . have h:¬ ((a.getD []).length:Int)=((b.getD []).length:Int):=not_t h
   exact (decide_eq_false fun e:moEq a b=>h (by rw[e.1])).symm
 have hl:((a.getD []).length:Int)=((b.getD []).length:Int):=not_f h
 have h45:=ha.1
 refine loopE (fun p=>∃ i:Nat,p=(a,(((a.getD []).length:Int),((i:Int),b)))/\i<=(a.getD []).length/\∀ j,j<i->stEq (stt (a.getD []) j) (stt (b.getD []) j)) (fun p=>(a.getD []).length - p.2.2.1.toNat) ⟨0,rfl,by omega,fun j h=>by omega⟩ ?_
 rintro _ ⟨i,rfl,hi,hall⟩
 dsimp only
 refine q00.2 ⟨fun hc=>?_,fun hc=>?_⟩
 . have hc:(i:Int)<((a.getD []).length:Int):=dec_t hc
   rw[q1c,q1c]
   generalize hs:stt (a.getD []) i=s
   generalize ht:stt (b.getD []) i=t
   obtain⟨f1,f2⟩:fewSt s:=hs ▸ ha.2 i (by omega)
   have no:¬ stEq s t->¬ moEq a b:=fun q e=>q (hs ▸ ht ▸ e.2 i (by omega))
   refine⟨⟨by omega,by omega⟩,⟨by omega,by omega⟩,joinR (fun p=>∃ q:Bool,p=(a,(((a.getD []).length:Int),((i:Int),(q,(b,(s,t))))))/\(q=true->¬ stEq s t)/\(q=false->s.1=t.1/\s.2.1=t.2.1/\(s.2.2.getD []).length=(t.2.2.getD []).length)) ?_ ?_⟩
   . rintro _ ⟨q,rfl,h1,h2⟩
     dsimp only
     refine q00.2 ⟨fun hq=>(decide_eq_false (no (h1 hq))).symm,fun hq=>?_⟩
     obtain⟨g1,g2,g3⟩:=h2 hq
     refine loopE (fun p=>∃ j:Nat,p=(a,(((a.getD []).length:Int),((i:Int),(s.2.2,(((s.2.2.getD []).length:Int),((j:Int),(b,t)))))))/\j<=(s.2.2.getD []).length/\∀ k,k<j->chEq (ch (s.2.2.getD []) k) (ch (t.2.2.getD []) k))
      (fun p=>(s.2.2.getD []).length - p.2.2.2.2.2.1.toNat) ⟨0,rfl,by omega,fun j h=>by omega⟩ ?_
     rintro _ ⟨j,rfl,hj,hall2⟩
     dsimp only
     refine q00.2 ⟨fun hd=>?_,fun hd=>?_⟩
     . have hd:(j:Int)<((s.2.2.getD []).length:Int):=dec_t hd
       rw[q1b,q1b,num_eq]
       generalize hcc:ch (s.2.2.getD []) j=c
       generalize hdd:ch (t.2.2.getD []) j=d
       have f3:(c.2.getD []).length<=10:=hcc ▸ f2 j (by omega)
       have no2:¬ chEq c d->¬ moEq a b:=fun q=>no fun e=>q (hcc ▸ hdd ▸ e.2.2.2 j (by omega))
       refine⟨⟨by omega,by omega⟩,⟨by omega,by omega⟩,joinR (fun p=>∃ q:Bool,p=(a,(((a.getD []).length:Int),((i:Int),(s.2.2,(((s.2.2.getD []).length:Int),((j:Int),(q,(b,(t,(c,d))))))))))/\(q=true->¬ chEq c d)/\(q=false->c.1=d.1/\(c.2.getD []).length=(d.2.getD []).length)) ?_ ?_⟩
       . rintro _ ⟨q,rfl,k1,k2⟩
         dsimp only
         refine q00.2 ⟨fun hq=>(decide_eq_false (no2 (k1 hq))).symm,fun hq=>?_⟩
         obtain⟨e1,e2⟩:=k2 hq
         refine loopE (fun p=>∃ k:Nat,p=(a,(((a.getD []).length:Int),((i:Int),(s.2.2,(((s.2.2.getD []).length:Int),((j:Int),(c.2,(((c.2.getD []).length:Int),((k:Int),(b,(t,d)))))))))))/\k<=(c.2.getD []).length/\∀ q,q<k->br (c.2.getD []) q=br (d.2.getD []) q)
          (fun p=>(c.2.getD []).length - p.2.2.2.2.2.2.2.2.1.toNat) ⟨0,rfl,by omega,fun j h=>by omega⟩ ?_
         rintro _ ⟨k,rfl,hk,hall3⟩
         dsimp only
         refine q00.2 ⟨fun he=>?_,fun he=>?_⟩
         . have he:(k:Int)<((c.2.getD []).length:Int):=dec_t he
           rw[q1v,q1v,br_eq]
           refine⟨⟨by omega,by omega⟩,⟨by omega,by omega⟩,q00.2 ⟨fun hf=>?_,fun hf=>?_⟩⟩
           . exact (decide_eq_false (no2 fun e=>not_t hf (by rw[e.2]))).symm
           . have hf:=not_f hf
             rw[wi64 (by omega) (by omega)]
             refine⟨⟨k+1,rfl,by omega,fun q hq=>?_⟩,by omega⟩
             rcases Nat.lt_or_ge q k with z | z
             . exact hall3 q z
             . obtain rfl:q=k:=by omega
               exact hf
         . have he:¬ (k:Int)<((c.2.getD []).length:Int):=dec_f he
           obtain rfl:k=(c.2.getD []).length:=by omega
           rw[wi64 (by omega) (by omega)]
           refine⟨⟨j+1,rfl,by omega,fun q hq=>?_⟩,by omega⟩
           rcases Nat.lt_or_ge q j with z | z
           . exact hall2 q z
           . obtain rfl:q=j:=by omega
             rw[hcc,hdd];exact⟨e1,list_eq e2 hall3⟩
       . intro k hk
         refine q00.2 ⟨fun g=>hk _ ⟨true,rfl,fun _ e=>not_t g e.1,fun h=>by cases h⟩,fun g=>?_⟩
         have g:=not_f g
         refine hk _ ⟨_,rfl,fun h e=>?_,fun h=>⟨g,?_⟩⟩
         . have h:¬ ((c.2.getD []).length:Int)=((d.2.getD []).length:Int):=not_t h
           exact h (by rw[e.2])
         . have h:((c.2.getD []).length:Int)=((d.2.getD []).length:Int):=not_f h
           omega
     . have hd:¬ (j:Int)<((s.2.2.getD []).length:Int):=dec_f hd
       obtain rfl:j=(s.2.2.getD []).length:=by omega
       rw[wi64 (by omega) (by omega)]
       refine⟨⟨i+1,rfl,by omega,fun k hk=>?_⟩,by omega⟩
       rcases Nat.lt_or_ge k i with q | q
       . exact hall k q
       . obtain rfl:k=i:=by omega
         rw[hs,ht];exact⟨g1,g2,g3,hall2⟩
   . intro k hk
     refine q00.2 ⟨fun g=>hk _ ⟨true,rfl,fun _ e=>not_t g e.1,fun h=>by cases h⟩,fun g1=>?_⟩
     refine q00.2 ⟨fun g=>hk _ ⟨true,rfl,fun _ e=>not_t g e.2.1,fun h=>by cases h⟩,fun g2=>?_⟩
     refine hk _ ⟨_,rfl,fun h e=>?_,fun h=>⟨not_f g1,not_f g2,?_⟩⟩
     . have h:¬ ((s.2.2.getD []).length:Int)=((t.2.2.getD []).length:Int):=not_t h
       exact h (by rw[e.2.2.1])
     . have h:((s.2.2.getD []).length:Int)=((t.2.2.getD []).length:Int):=not_f h
       omega
 . have hc:¬ (i:Int)<((a.getD []).length:Int):=dec_f hc
   obtain rfl:i=(a.getD []).length:=by omega
   exact (decide_eq_true (show moEq a b from ⟨by omega,hall⟩)).symm
theorem br_t {b:Bool} {A B:Prop} (h:b=true) (hA:A):brV b A B:=by subst h;exact hA
end Go.Proofs.Pf.B
namespace Go.Proofs.Pf.B
open Go Go.VM
abbrev cho (s:DSt):List DCh:=s.2.2.getD []
def gAll (_ _:Nat):Bool:=true
def q3S (m:DMo):Prop:=(m.getD []).length<=1000/\∀ i,i<(m.getD []).length->(cho (stt (m.getD []) i)).length<=1000/\∀ j,j<(cho (stt (m.getD []) i)).length->((ch (cho (stt (m.getD []) i)) j).2.getD []).length<=1000
theorem moOk.small {m:DMo} (h:moOk m):q3S m:=by
 refine⟨by have:=h.1;omega,fun i hi=>⟨by have:=(h.2 i hi).1.2.2;show ((stt (m.getD []) i).2.2.getD []).length<=1000;omega,fun j hj=>?_⟩⟩
 have:=((h.2 i hi).2 j hj).2.1
 show ((ch ((stt (m.getD []) i).2.2.getD []) j).2.getD []).length<=1000
 omega
theorem fewOk.small {m:DMo} (h:fewOk m):q3S m:=by
 refine⟨by have:=h.1;omega,fun i hi=>⟨by have:=(h.2 i hi).1;show ((stt (m.getD []) i).2.2.getD []).length<=1000;omega,fun j hj=>?_⟩⟩
 have:=(h.2 i hi).2 j hj
 show ((ch ((stt (m.getD []) i).2.2.getD []) j).2.getD []).length<=1000
 omega
end Go.Proofs.Pf.B
namespace Go.Proofs.Pf.B
open Go Go.VM
abbrev HCh:=(Int×Int)×Option Nat
abbrev HSt:=Int×Int×Option (List HCh)
def offM (l:List DSt):Nat->Nat
 | 0=>0
 | i+1=>offM l i+(cho (stt l i)).length
def hCh (k:Nat) (cs:List DCh) (j:Nat):List HCh:=tab (fun j=>((ch cs j).1,some (k+j))) j
def hOf (l:List DSt) (i:Nat):List HSt:=tab (fun i=>((stt l i).1,(stt l i).2.1,optL (hCh (offM l i) (cho (stt l i)) (cho (stt l i)).length))) i
def rowC (cs:List DCh) (j:Nat):List (List DBr):=tab (fun j=>(ch cs j).2.getD []) j
def rowM (l:List DSt):Nat->List (List DBr)
 | 0=>[]
 | i+1=>rowM l i ++ rowC (cho (stt l i)) (cho (stt l i)).length
theorem rowM_len (l:List DSt):∀ i,(rowM l i).length=offM l i
 | 0=>rfl
 | i+1=>by simp only[rowM,offM,List.length_append,rowM_len l i,rowC,q07]
theorem q3z (l:List DSt) {i n:Nat} (h:i<n):offM l i+(cho (stt l i)).length<=offM l n:=by
 induction n with
 | zero=>omega
 | succ n ih=>
  by_cases e:i=n
  . subst e;exact Nat.le_refl _
  . have:=ih (by omega)
    simp only[offM];omega
theorem rowM_get (l:List DSt) {i j n:Nat} (h:i<n) (hj:j<(cho (stt l i)).length):(rowM l n).getD (offM l i+j) []=(ch (cho (stt l i)) j).2.getD []:=by
 induction n with
 | zero=>omega
 | succ n ih=>
  by_cases e:i=n
  . subst e
    simp only[rowM]
    rw[List.getD_eq_getElem?_getD,List.getElem?_append_right (by rw[rowM_len];omega),rowM_len,Nat.add_sub_cancel_left,<-List.getD_eq_getElem?_getD]
    exact q0D _ _ _ _ hj
  . have h1:=q3z l (show i<n by omega)
    simp only[rowM]
    rw[List.getD_eq_getElem?_getD,List.getElem?_append_left (by rw[rowM_len];omega),<-List.getD_eq_getElem?_getD]
    exact ih (by omega)
theorem s_CloneO (a:Option (List DBr)) (ha:(a.getD []).length<=1000):ownV Pg q4L [⟨(.sl tBr),a⟩] tBr fun r=>r=a:=by
 refine qaW a ⟨_,rfl⟩ (br_c (fun h=>?_) fun h=>⟨?_,?_⟩)
 . cases a with
   | none=>rfl
   | some a=>cases h
 . show (0+(a.getD []).length)*24<=140737488355328
   omega
 . cases a with
   | none=>cases h
   | some a=>rfl
theorem s_OwnA (c:DCh) (hc:(c.2.getD []).length<=1000):ownA Pg q4r [⟨tCh,c⟩] (.agg (.pair tNum (.own 0))) tBr fun x l=>x=(c.1,())/\l=c.2:=by
 refine qaf c ⟨_,_,rfl,rfl⟩ ((s_CloneO c.2 hc).mono ?_)
 rintro _ rfl
 exact⟨rfl,rfl⟩
def fullM (m:DMo):Prop:=∀ i,i<(m.getD []).length->∀ j,j<(cho (stt (m.getD []) i)).length->(ch (cho (stt (m.getD []) i)) j).2≠none
theorem moOk.full {m:DMo} (h:moOk m):fullM m:=fun i hi j hj e=>by
 have:=((h.2 i hi).2 j hj).2.1.1
 rw[e] at this
 exact absurd this (by decide)
theorem s_KeptP (m:DMo) {Q:Unit×(Option (List HSt)×List (List DBr))->Prop} (hm:q3S m) (hf:fullM m) (hq:Q ((),(optL (hOf (m.getD []) (m.getD []).length),rowM (m.getD []) (m.getD []).length))):lendV Pg q4q 2 q2R m Q:=by
 obtain⟨hm1,hm2⟩:=hm
 refine qae m ⟨_,hq⟩ (rangeB (n:=(m.getD []).length) (fun i (x:Option (List HSt)×List (List DBr))=>(m,(((m.getD []).length:Int),((i:Int),(none,((),x)))))) (fun i x=>x=(optL (hOf (m.getD []) i),rowM (m.getD []) i)) (none,[]) rfl rfl (fun p=>p.2.2.1.toNat) (fun _ _=>rfl) (fun _ _ _=>rfl) ?_ ?_)
 . intro k i x hi hx hk
   subst hx
   dsimp only
   rw[q1c]
   obtain⟨hc,hbr⟩:=hm2 i hi
   have hfi:=hf i hi
   generalize hs:stt (m.getD []) i=s at *
   refine⟨in_s hi,rangeB (n:=(cho s).length) (fun j (y:Option (List HCh)×List (List DBr))=>((i:Int),(m,(((m.getD []).length:Int),((i:Int),(s.2.2,(((cho s).length:Int),((j:Int),(none,((),((s.1,(s.2.1,())),(optL (hOf (m.getD []) i),y)))))))))))) (fun j y=>y=(optL (hCh (offM (m.getD []) i) (cho s) j),rowM (m.getD []) i ++ rowC (cho s) j)) (none,rowM (m.getD []) i) rfl ?_ (fun p=>p.2.2.2.2.2.2.1.toNat) (fun _ _=>rfl) (fun _ _ _=>rfl) ?_ ?_⟩
   . rw[show rowC (cho s) 0=[] from rfl,List.append_nil];rfl
   . intro k2 j y hj hy hk2
     subst hy
     dsimp only
     rw[q1b]
     refine⟨in_s hj,(qac _ _ ⟨_,rfl⟩ rfl:callV Pg q1L [⟨tI,(i:Int)⟩,⟨tI,(j:Int)⟩] .bool fun r=>r=gAll i j).mono ?_⟩
     intro b hb
     have hb:b=true:=hb
     subst hb
     refine joinE (br_t rfl ((s_OwnA _ (hbr j hj)).mono ?_))
     rintro _ _ ⟨rfl,rfl⟩
     have hne:=hfi j hj
     generalize hcc:ch (cho s) j=c at *
     cases hc2:c.2 with
     | none=>exact absurd hc2 hne
     | some l=>
     have hl:(hCh (offM (m.getD []) i) (cho s) j).length=j:=q07 _ _
     have hrl:(rowM (m.getD []) i ++ rowC (cho s) j).length=offM (m.getD []) i+j:=by rw[List.length_append,rowM_len,rowC,q07]
     refine⟨?_,?_⟩
     . show (((optL (hCh (offM (m.getD []) i) (cho s) j)).getD []).length+1)*40<=140737488355328
       rw[q0e,hl];omega
     . dsimp only
       rw[wi1 hj (by omega)]
       refine hk2 (_,_) ?_
       show (appL (optL (hCh (offM (m.getD []) i) (cho s) j)) [(c.1,some (rowM (m.getD []) i ++ rowC (cho s) j).length)],(rowM (m.getD []) i ++ rowC (cho s) j) ++ [l])=_
       rw[q1X,hrl]
       unfold hCh rowC
       rw[q2c _ j,q2c _ j,hcc,hc2,List.append_assoc]
       rfl
   . intro k2 y hy
     subst hy
     dsimp only
     refine⟨?_,?_⟩
     . show (((optL (hOf (m.getD []) i)).getD []).length+1)*40<=140737488355328
       rw[q0e,hOf,q07];omega
     . rw[wi1 hi (by omega)]
       refine hk (_,_) ?_
       show (appL (optL (hOf (m.getD []) i)) [(s.1,(s.2.1,optL (hCh (offM (m.getD []) i) (cho s) (cho s).length)))],rowM (m.getD []) i ++ rowC (cho s) (cho s).length)=_
       rw[q1X]
       unfold hOf
       rw[q2c _ i]
       simp only[rowM,hs]
 . intro k x hx
   subst hx
   exact hq
theorem s_CopyP (m:DMo) {Q:Unit×(Option (List HSt)×List (List DBr))->Prop} (hm:q3S m) (hf:fullM m) (hq:Q ((),(optL (hOf (m.getD []) (m.getD []).length),rowM (m.getD []) (m.getD []).length))):lendV Pg q4p 1 q2Q m Q:=
 qad m ⟨_,hq⟩ (s_KeptP m hm hf hq)
end Go.Proofs.Pf.B
namespace Go.Proofs.Pf.B
open Go Go.VM
def RLL (p:Option (List (Option (List DR)))) (f:Nat->Nat->Rat) (k n:Nat):Prop:=(p.getD []).length=k/\∀ i,i<k->RL ((p.getD []).getD i none) (f i) n
theorem RLL.nil (f:Nat->Nat->Rat) (n:Nat):RLL none f 0 n:=⟨rfl,fun i hi=>absurd hi (by omega)⟩
theorem RLL.app {p:Option (List (Option (List DR)))} {f:Nat->Nat->Rat} {k n:Nat} {z:Option (List DR)} (h:RLL p f k n) (hz:RL z (f k) n):RLL (appL p [z]) f (k+1) n:=by
 obtain⟨h1,h2⟩:=h
 have e:(appL p [z]).getD []=p.getD [] ++ [z]:=by cases p<;>rfl
 refine⟨by rw[e,List.length_append,h1];rfl,fun i hi=>?_⟩
 rw[e]
 rcases Nat.lt_or_ge i k with hlt | hge
 . rw[List.getD_eq_getElem?_getD,List.getElem?_append_left (by omega),<-List.getD_eq_getElem?_getD];exact h2 i hlt
 . obtain rfl:i=k:=by omega
   rw[List.getD_eq_getElem?_getD,List.getElem?_append_right (by omega),h1,Nat.sub_self];exact hz
theorem RLL.ex (f:Nat->Nat->Rat) (k n:Nat):∃ r,RLL r f k n:=by
 refine⟨some (tab (fun i=>(RL.ex (f i) n).choose) k),q07 _ _,fun i hi=>?_⟩
 show RL ((tab _ _).getD i none) _ _
 rw[q0D _ _ _ _ hi]
 exact (RL.ex (f i) n).choose_spec
end Go.Proofs.Pf.B
namespace Go.Proofs.Pf.B
open Go Go.VM
theorem FB.sum {n e:Nat} {x:Nat->Rat} (h:FB n e x) (hn:n<=1000) {i:Nat} (hi:i<=n):Pf.RFit (2*(e+1)+1) (sumQ x i)/\RFit (2*(e+1)+1) (sumQ x i):=by
 obtain⟨D,h1,h2,h3⟩:=h
 refine (QD.sum i fun s hs=>h3 s (by omega)).fit h1 (kk_lt (Nat.le_trans h2 (kk_le (by omega)))) (kk_lt ?_)
 rw[Nat.pow_succ,Nat.mul_comm]
 exact Nat.mul_le_mul_left _ (Nat.le_trans (by omega:i<=1000) (by decide))
end Go.Proofs.Pf.B
namespace Go.Proofs.Pf.B
open Go Go.VM
def markOk (a:Int):Prop:=0<=a/\a<64
instance (a:Int):Decidable (markOk a):=by unfold markOk;infer_instance
def marksOk (l:List Int):Prop:=∀ i,i<l.length->markOk (int l i)
instance (l:List Int):Decidable (marksOk l):=by unfold marksOk;infer_instance
def viewOk (l:List Int):Prop:=l.length<=200/\marksOk l
instance (l:List Int):Decidable (viewOk l):=by unfold viewOk;infer_instance
def dQ (d:List (Int×Int)) (i:Nat):Rat:=if NumOk (nth2 d i) then numQ (nth2 d i) else 0
def numsOk (d:List (Int×Int)):Prop:=∀ i,i<d.length->NumOk (nth2 d i)/\0<=(nth2 d i).1
instance (d:List (Int×Int)):Decidable (numsOk d):=by unfold numsOk;infer_instance
def distOk (n:Nat) (d:List (Int×Int)):Prop:=numsOk d/\d.length=n/\sumQ (dQ d) d.length=1
instance (n:Nat) (d:List (Int×Int)):Decidable (distOk n d):=by unfold distOk;infer_instance
theorem numsOk.dq {d:List (Int×Int)} (h:numsOk d) {i:Nat} (hi:i<d.length):dQ d i=numQ (nth2 d i):=if_pos (h i hi).1
end Go.Proofs.Pf.B
namespace Go.Proofs.Pf.B
open Go Go.VM
theorem numQ_kk {a:Int×Int} (h:NumOk a):(numQ a).num.natAbs<=KK/\(numQ a).den<=KK:=by
 obtain⟨h1,h2⟩:=h.q
 obtain⟨g1,g2,g3,g4,_⟩:=h
 rw[h1]
 exact⟨by show _<=1152921504606846976;omega,by show _<=1152921504606846976;omega⟩
theorem brQ_kk {l:List DBr}:∀ (k:Nat) (t:Nat),(∀ j,j<k->NumOk (br l j).2)->(brQ l k t).num.natAbs<=KK/\(brQ l k t).den<=KK
 | 0,t,_=>by show (0:Rat).num.natAbs<=KK/\(0:Rat).den<=KK;exact⟨by decide,by decide⟩
 | k+1,t,h=>by
  simp only[brQ]
  split
  . exact numQ_kk (h k (by omega))
  . exact brQ_kk k t fun j hj=>h j (by omega)
theorem moOk.mb {m:DMo} (h:moOk m):MB (m.getD []).length ((m.getD []).length*(m.getD []).length+1) (rowQ m):=
 MB.of fun s t hs _=>brQ_kk _ _ fun j hj=>((h.bs hs).2.2 j hj).2.2
end Go.Proofs.Pf.B
namespace Go.Proofs.Pf.B
open Go Go.VM
def markQ (m:DMo) (y:Nat->Rat) (i k:Nat):Rat:=sumQ (fun s=>if (stt (m.getD []) s).2.1=(k:Int) then y s else 0) i
def goQ (m:DMo) (x:Nat->Rat) (len:Nat):Nat->Rat:=if len=0 then x else stepQ (rowQ m) x (m.getD []).length
theorem FB.go {m:DMo} {e b:Nat} {x:Nat->Rat} (h:FB (m.getD []).length e x) (g:MB (m.getD []).length b (rowQ m)) (hn:(m.getD []).length<=1000) (len:Nat):FB (m.getD []).length (e+b+1) (goQ m x len):=by
 unfold goQ
 split
 . exact h.mono (by omega)
 . exact h.step g (Nat.le_trans hn (by decide)) (Nat.le_refl _)
end Go.Proofs.Pf.B
namespace Go.Proofs.Pf.B
open Go Go.VM
def TL (l:Option (List DRR)) (f:Nat->Rat) (n:Nat):Prop:=(l.getD []).length=n/\∀ i,i<n->RRV ((l.getD []).getD i z0) (f i)
theorem TL.set {l:Option (List DRR)} {f g:Nat->Rat} {n i:Nat} {z:DRR} (h:TL l f n) (hi:i<n) (hz:RRV z (g i)) (hg:∀ j,j<n->j≠i->g j=f j):TL (setO l i z) g n:=by
 obtain⟨h1,h2⟩:=h
 cases l with
 | none=>simp at h1;omega
 | some l=>
  have h1:l.length=n:=h1
  have h2:∀ i,i<n->RRV (l.getD i z0) (f i):=h2
  refine⟨by show (l.set i z).length=n;simpa using h1,fun j hj=>?_⟩
  show RRV ((l.set i z).getD j z0) (g j)
  by_cases e:j=i
  . subst e
    rw[List.getD_eq_getElem?_getD,List.getElem?_set_self (by omega)];exact hz
  . rw[List.getD_eq_getElem?_getD,List.getElem?_set_ne (fun h=>e h.symm),<-List.getD_eq_getElem?_getD,hg j hj e]
    exact h2 j hj
theorem TL.congr {l:Option (List DRR)} {f g:Nat->Rat} {n:Nat} (h:TL l f n) (hg:∀ j,j<n->g j=f j):TL l g n:=⟨h.1,fun i hi=>by rw[hg i hi];exact h.2 i hi⟩
theorem TL.nil (f:Nat->Rat):TL none f 0:=⟨rfl,fun i hi=>absurd hi (by omega)⟩
theorem TL.app {l:Option (List DRR)} {f:Nat->Rat} {n:Nat} {z:DRR} (h:TL l f n) (hz:RRV z (f n)):TL (appL l [z]) f (n+1):=by
 obtain⟨h1,h2⟩:=h
 have e:(appL l [z]).getD []=l.getD [] ++ [z]:=by cases l<;>rfl
 refine⟨by rw[e,List.length_append,h1];rfl,fun i hi=>?_⟩
 rw[e]
 rcases Nat.lt_or_ge i n with hlt | hge
 . rw[List.getD_eq_getElem?_getD,List.getElem?_append_left (by omega),<-List.getD_eq_getElem?_getD];exact h2 i hlt
 . obtain rfl:i=n:=by omega
   rw[List.getD_eq_getElem?_getD,List.getElem?_append_right (by omega),h1,Nat.sub_self];exact hz
theorem TL.ex (f:Nat->Rat) (n:Nat):∃ r,TL r f n:=by
 refine⟨some (tab (fun i=>(RRV_ex (f i)).choose) n),q07 _ _,fun i hi=>?_⟩
 show RRV ((tab _ _).getD i z0) _
 rw[q0D _ _ _ _ hi]
 exact (RRV_ex (f i)).choose_spec
end Go.Proofs.Pf.B
namespace Go.Proofs.Pf.B
open Go Go.VM
def ShOk (f:Nat->Rat) (n:Nat) (r:Option (List DRR)×Bool×Unit):Prop:=(sumQ f n=0/\r=(none,false,()))∨(sumQ f n≠0/\r.2.1=true/\TL r.1 (fun i=>f i / sumQ f n) n)
theorem ShOk.ex (f:Nat->Rat) (n:Nat):∃ r,ShOk f n r:=by
 by_cases h:sumQ f n=0
 . exact⟨_,.inl ⟨h,rfl⟩⟩
 . obtain⟨l,hl⟩:=TL.ex (fun i=>f i / sumQ f n) n
   exact⟨(l,true,()),.inr ⟨h,rfl,hl⟩⟩
end Go.Proofs.Pf.B
namespace Go.Proofs.Pf.B
open Go Go.VM
theorem FB.div {n e:Nat} {x:Nat->Rat} (h:FB n e x) (hn:n<=1000) (hs:sumQ x n≠0):FB n (e+1) fun i=>x i / sumQ x n:=by
 obtain⟨D,h1,h2,h3⟩:=h
 have hS:=QD.sum n h3
 generalize sumQ x n=S at *
 obtain⟨c,c1,c2⟩:=hS
 have hD:((D:Int):Rat)≠0:=by
  intro e
  rw[<-Rat.intCast_zero,Rat.intCast_inj] at e
  omega
 have hc:c≠0:=by
  intro e
  rw[e] at c1
  have:S*((D:Int):Rat)=0:=c1
  rcases Rat.mul_eq_zero.1 this with h | h
  . exact hs h
  . exact hD h
 refine⟨c.natAbs,by omega,Nat.le_trans c2 ?_,fun s hs'=>?_⟩
 . rw[Nat.pow_succ,Nat.mul_comm]
   exact Nat.mul_le_mul_left _ (Nat.le_trans hn (by decide))
 . obtain⟨a,a1,a2⟩:=h3 s hs'
   have key:x s / S*((c:Int):Rat)=((a:Int):Rat):=by
    rw[<-c1,<-a1,Rat.div_def]
    have:=Rat.inv_mul_cancel S hs
    grind
   have hle:a.natAbs<=KK ^ (e+1):=Nat.le_trans a2 (kk_le (by omega))
   rcases Int.natAbs_eq c with g | g
   . exact⟨a,by rw[<-g];exact key,hle⟩
   . refine⟨-a,?_,by omega⟩
     have g2:((c.natAbs:Int)) = -c:=by omega
     rw[g2,Rat.intCast_neg,Rat.intCast_neg,Rat.mul_neg,key]
def NxOk (m:DMo) (x:Nat->Rat) (len:Nat) (r:Option (List DRR)×Bool×Unit):Prop:=(sumQ x (m.getD []).length=0/\r=(none,false,()))∨(sumQ x (m.getD []).length≠0/\r.2.1=true/\TL r.1 (markQ m (goQ m (fun i=>x i / sumQ x (m.getD []).length) len) (m.getD []).length) 64)
theorem NxOk.ex (m:DMo) (x:Nat->Rat) (len:Nat):∃ r,NxOk m x len r:=by
 by_cases h:sumQ x (m.getD []).length=0
 . exact⟨_,.inl ⟨h,rfl⟩⟩
 . obtain⟨l,hl⟩:=TL.ex (markQ m (goQ m (fun i=>x i / sumQ x (m.getD []).length) len) (m.getD []).length) 64
   exact⟨(l,true,()),.inr ⟨h,rfl,hl⟩⟩
end Go.Proofs.Pf.B
namespace Go.Proofs.Pf.B
open Go Go.VM
theorem len_in (x:Int):((0:Int)<=IntKind.wrap IntKind.u8 x)/\(IntKind.wrap IntKind.u8 x<szStr (bytesL len8)):=by
 rw[q6h,wu8m]
 exact⟨by omega,by omega⟩
theorem s_Len64 (a:Int):callV Pg q4m [⟨(.int .u64),a⟩] tI fun _=>True:=by
 refine qa9 a ⟨0,trivial⟩ (joinR (fun _=>True) (fun p0 _=>joinR (fun _=>True) (fun p1 _=>joinR (fun _=>True) (fun p2 _=>⟨len_in p2.1,trivial⟩) ?_) ?_) ?_)
 . exact fun k hk=>br_c (fun _=>⟨by decide,hk _ trivial⟩) fun _=>hk _ trivial
 . exact fun k hk=>br_c (fun _=>⟨by decide,hk _ trivial⟩) fun _=>hk _ trivial
 . exact fun k hk=>br_c (fun _=>⟨by decide,hk _ trivial⟩) fun _=>hk _ trivial
end Go.Proofs.Pf.B
namespace Go.Proofs.Pf.B
open Go Go.VM
abbrev DBs:=Option (List DBr)
theorem q3N {c:DBs} {j:Nat} {v:DBr}:((setO c j v).getD []).length=(c.getD []).length:=by cases c<;>simp[setO]
theorem setB_at {c:DBs} {j p:Nat} {v:DBr} (hj:j<(c.getD []).length):br ((setO c j v).getD []) p=if p=j then v else br (c.getD []) p:=by
 cases c with
 | none=>simp at hj
 | some c=>
  have hj:j<c.length:=hj
  show (c.set j v).getD p (0,(0,0))=if p=j then v else c.getD p (0,(0,0))
  by_cases e:p=j
  . subst e;rw[if_pos rfl,List.getD_eq_getElem?_getD,List.getElem?_set_self hj];rfl
  . rw[if_neg e,List.getD_eq_getElem?_getD,List.getElem?_set_ne (fun h=>e h.symm),<-List.getD_eq_getElem?_getD]
theorem q3v {c:DBs} {p:Nat}:eltN ((0:Int),((0:Int),(0:Int))) c (toN (p:Int))=br (c.getD []) p:=by simp only[eltN,toN,Int.toNat_natCast]
def smallB (c:DBs) (n:Nat):Prop:=∀ p,p<n->0<=(br (c.getD []) p).1/\(br (c.getD []) p).1<1000
theorem s_cmpB (x y:DBr) (hx:0<=x.1/\x.1<1000) (hy:0<=y.1/\y.1<1000):callV Pg q06 [⟨tBr,x⟩,⟨tBr,y⟩] tI fun r=>r=x.1 - y.1:=
 qai x y ⟨_,rfl⟩ (wi64 (by omega) (by omega))
theorem s_insertB (l:DBs) (n:Nat) (hl:(l.getD []).length=n) (hn:n<=100000) (hsm:smallB l n) {Q:DBs->Prop} (hq:∀ c:DBs,(c.getD []).length=n->(∀ p q,p<q->q<n->(br (c.getD []) p).1<=(br (c.getD []) q).1)->(c.getD []).Perm (l.getD [])->Q c) (hQ:∃ r,Q r):
 lendV Pg q4N 4 q2T ((0:Int),((n:Int),l)) Q:=by
 have small:∀ c:DBs,(c.getD []).Perm (l.getD [])->smallB c n:=fun c h p hp=>by
  have hpl:p<(c.getD []).length:=by rw[h.length_eq,hl];exact hp
  have hm:br (c.getD []) p∈l.getD []:=h.mem_iff.1 (by rw[br,List.getD_eq_getElem?_getD,List.getElem?_eq_getElem hpl];exact List.getElem_mem hpl)
  obtain⟨q,hq,e⟩:=List.mem_iff_getElem.1 hm
  have:=hsm q (by omega)
  rw[br,List.getD_eq_getElem?_getD,List.getElem?_eq_getElem hq,Option.getD_some,e] at this
  exact this
 refine qaY (0:Int) (n:Int) l hQ ?_
 refine loopE (fun s=>∃ i:Nat,∃ c:DBs,s=((0:Int),((n:Int),((i:Int),c)))/\1<=i/\(c.getD []).length=n/\(∀ p q,p<q->q<i->q<n->(br (c.getD []) p).1<=(br (c.getD []) q).1)/\(c.getD []).Perm (l.getD [])) (fun s=>n - s.2.2.1.toNat) ⟨1,l,rfl,by omega,hl,fun p q h1 h2 _=>by omega,List.Perm.refl _⟩ ?_
 rintro _ ⟨i,c,rfl,hi,hc,hs,hm⟩
 dsimp only
 refine br_c (fun h=>?_) fun h=>?_
 . have h:(i:Int)<(n:Int):=dec_t h
   have hin:i<n:=by omega
   refine loopE (fun s=>∃ j:Nat,∃ c:DBs,s=((0:Int),((n:Int),((i:Int),((j:Int),c))))/\j<=i/\(c.getD []).length=n/\(∀ p q,p<q->q<=i->q≠j->(br (c.getD []) p).1<=(br (c.getD []) q).1)/\(c.getD []).Perm (l.getD [])) (fun s=>s.2.2.2.1.toNat) ⟨i,c,rfl,by omega,hc,fun p q h1 h2 h3=>hs p q h1 (by omega) (by omega),hm⟩ ?_
   rintro _ ⟨j,c,rfl,hj,hc,hs,hm⟩
   dsimp only
   refine joinR (fun s=>∃ b:Bool,s=((0:Int),((n:Int),((i:Int),((j:Int),(b,c)))))/\(b=true↔0<j/\(br (c.getD []) j).1<(br (c.getD []) (j - 1)).1)) ?_ ?_
   . rintro _ ⟨b,rfl,hb⟩
     dsimp only
     refine br_c (fun h=>?_) fun h=>?_
     . obtain⟨h1,h2⟩:=hb.1 h
       have e1:IntKind.wrap IntKind.i64 ((j:Int) - 1)=((j - 1:Nat):Int):=by rw[wi64 (by omega) (by omega)];omega
       rw[e1,q3v,q3v,show toN (j:Int)=j from Int.toNat_natCast j,show toN ((j - 1:Nat):Int)=j - 1 from Int.toNat_natCast (j - 1)]
       have at_:∀ p,br ((setO (setO c j (br (c.getD []) (j - 1))) (j - 1) (br (c.getD []) j)).getD []) p=if p=j - 1 then br (c.getD []) j else if p=j then br (c.getD []) (j - 1) else br (c.getD []) p:=by
        intro p
        rw[setB_at (by rw[q3N];omega),setB_at (by omega)]
       refine⟨in_s (by omega),in_s (by omega),in_s (by omega),in_s (by rw[q3N];omega),⟨j - 1,_,rfl,by omega,by rw[q3N,q3N];exact hc,?_,?_⟩,by omega⟩
       . intro p q h3 h4 h5
         rw[at_,at_,if_neg h5]
         by_cases hq:q=j
         . subst hq
           rw[if_pos rfl]
           by_cases hp:p=q - 1
           . rw[if_pos hp];omega
           . rw[if_neg hp,if_neg (by omega)];exact hs p (q - 1) (by omega) (by omega) (by omega)
         . rw[if_neg hq]
           by_cases hp:p=j - 1
           . rw[if_pos hp];exact hs j q (by omega) h4 hq
           . rw[if_neg hp]
             by_cases hp2:p=j
             . rw[if_pos hp2];exact hs (j - 1) q (by omega) h4 hq
             . rw[if_neg hp2];exact hs p q h3 h4 hq
       . refine List.Perm.trans ?_ hm
         cases c with
         | none=>exact List.Perm.refl _
         | some c=>
          have hc:c.length=n:=hc
          show ((c.set j (c.getD (j - 1) _)).set (j - 1) (c.getD j _)).Perm c
          have g1:j<c.length:=by omega
          have g2:j - 1<c.length:=by omega
          rw[List.getD_eq_getElem?_getD,List.getElem?_eq_getElem g2,List.getD_eq_getElem?_getD,List.getElem?_eq_getElem g1]
          exact List.set_set_perm g1 g2
     . have h1:¬ (0<j/\(br (c.getD []) j).1<(br (c.getD []) (j - 1)).1):=fun g=>by rw[hb.2 g] at h;cases h
       rw[wi1 hin (by omega)]
       refine⟨⟨i+1,c,rfl,by omega,hc,fun p q h2 h3 h4=>?_,hm⟩,by omega⟩
       by_cases g:q=j
       . subst g
         have h5:(br (c.getD []) (q - 1)).1<=(br (c.getD []) q).1:=by
          rcases Int.lt_or_le (br (c.getD []) q).1 (br (c.getD []) (q - 1)).1 with h6 | h6
          . exact absurd ⟨by omega,h6⟩ h1
          . exact h6
         by_cases g2:p=q - 1
         . rw[g2];exact h5
         . exact Int.le_trans (hs p (q - 1) (by omega) (by omega) (by omega)) h5
       . exact hs p q h2 (by omega) g
   . intro k hk
     have hsc:=small c hm
     refine br_c (fun h=>?_) fun h=>?_
     . have h:(0:Int)<(j:Int):=dec_t h
       have e1:IntKind.wrap IntKind.i64 ((j:Int) - 1)=((j - 1:Nat):Int):=by rw[wi64 (by omega) (by omega)];omega
       rw[e1,q3v,q3v]
       refine⟨in_s (by omega),in_s (by omega),(s_cmpB _ _ (hsc j (by omega)) (hsc (j - 1) (by omega))).mono ?_⟩
       rintro _ rfl
       exact hk _ ⟨_,rfl,by rw[decide_eq_true_eq];exact⟨fun g=>⟨by omega,by have g:(br (c.getD []) j).1 - (br (c.getD []) (j - 1)).1<(0:Int):=g;omega⟩,fun g=>by show (br (c.getD []) j).1 - (br (c.getD []) (j - 1)).1<(0:Int);omega⟩⟩
     . have h:¬ (0:Int)<(j:Int):=dec_f h
       exact hk _ ⟨false,rfl,fun e=>(by cases e),fun g=>(h (by omega)).elim⟩
 . have h:¬ (i:Int)<(n:Int):=dec_f h
   exact hq c hc (fun p q h1 h2=>hs p q h1 (by omega) h2) hm
theorem q5w:∀ {l r:List DBr},l.Pairwise (fun a b=>a.1<b.1)->r.Pairwise (fun a b=>a.1<b.1)->(∀ x,x∈l↔x∈r)->l=r
 | [],r,_,_,h=>by
  cases r with
  | nil=>rfl
  | cons b r=>exact absurd ((h b).2 List.mem_cons_self) (by simp)
 | a :: l,[],_,_,h=>absurd ((h a).1 List.mem_cons_self) (by simp)
 | a :: l,b :: r,hl,hr,h=>by
  obtain⟨l1,l2⟩:=List.pairwise_cons.1 hl
  obtain⟨r1,r2⟩:=List.pairwise_cons.1 hr
  have e:a=b:=by
   rcases List.mem_cons.1 ((h a).1 List.mem_cons_self) with e | e
   . exact e
   . rcases List.mem_cons.1 ((h b).2 List.mem_cons_self) with e2 | e2
     . exact e2.symm
     . have q1:=r1 a e
       have q2:=l1 b e2
       omega
  subst e
  rw[q5w l2 r2 fun x=>?_]
  constructor
  . intro hx
    rcases List.mem_cons.1 ((h x).1 (List.mem_cons_of_mem _ hx)) with e | e
    . subst e;have:=l1 x hx;omega
    . exact e
  . intro hx
    rcases List.mem_cons.1 ((h x).2 (List.mem_cons_of_mem _ hx)) with e | e
    . subst e;have:=r1 x hx;omega
    . exact e
theorem s_SortB (l:DBs) (hl:(l.getD []).length<=12) (hsm:smallB l (l.getD []).length) {Q:DBs->Prop} (hq:∀ c:DBs,(c.getD []).length=(l.getD []).length->(∀ p q,p<q->q<(l.getD []).length->(br (c.getD []) p).1<=(br (c.getD []) q).1)->(c.getD []).Perm (l.getD [])->Q c) (hQ:∃ r,Q r):
 lendV Pg q4M 2 q2S l Q:=by
 refine qaX l hQ ?_
 refine (qa7 _ ⟨0,trivial⟩ ((s_Len64 _).mono fun _ _=>trivial):callV Pg q4k [⟨(.int .u64),(IntKind.wrap IntKind.u64 (szSl l))⟩] tI fun _=>True).mono fun p0 _=>?_
 have e:szSl l=((l.getD []).length:Int):=rfl
 rw[e]
 refine qaZ (0:Int) ((l.getD []).length:Int) p0 l hQ ?_
 refine loopE (fun s=>s=((0:Int),(((l.getD []).length:Int),(p0,(true,(true,l)))))) (fun _=>0) rfl ?_
 rintro _ rfl
 dsimp only
 refine joinE (br_t (decide_eq_true ?_) (s_insertB l _ rfl (by omega) hsm hq hQ))
 rw[wi64 (by omega) (by omega)];omega
end Go.Proofs.Pf.B
namespace Go.Proofs.Pf.B
open Go Go.VM
def plN (o:List Int) (t:Int):Nat->Nat
 | 0=>0
 | i+1=>if int o i=t then i else plN o t i
def okUp (n:Nat) (o:List Int) (k:Nat):Prop:=∀ i,i<k->(0<=int o i/\int o i<(n:Int))/\∀ j,j<i->int o j≠int o i
instance (n:Nat) (o:List Int) (k:Nat):Decidable (okUp n o k):=by unfold okUp;infer_instance
def ordOk (n:Nat) (o:List Int):Prop:=o.length=n/\okUp n o n
instance (n:Nat) (o:List Int):Decidable (ordOk n o):=by unfold ordOk;infer_instance
theorem okUp.mono {n:Nat} {o:List Int} {k j:Nat} (h:okUp n o k) (hj:j<=k):okUp n o j:=fun i hi=>h i (by omega)
theorem okUp.inj {n:Nat} {o:List Int} {k i j:Nat} (h:okUp n o k) (hi:i<k) (hj:j<k) (e:int o i=int o j):i=j:=by
 rcases Nat.lt_trichotomy i j with q | q | q
 . exact absurd e ((h j hj).2 i q)
 . exact q
 . exact absurd e.symm ((h i hi).2 j q)
theorem plN_at {n:Nat} {o:List Int}:∀ {k i:Nat},okUp n o k->i<k->plN o (int o i) k=i
 | k+1,i,h,hi=>by
  simp only[plN]
  by_cases e:k=i
  . subst e;rw[if_pos rfl]
  . rw[if_neg (fun q=>e (h.inj (by omega) hi q))]
    exact plN_at (h.mono (by omega)) (by omega)
theorem ord_all {n:Nat} {o:List Int} (h:okUp n o n):∀ t,t<n->∃ i,i<n/\int o i=(t:Int):=by
 intro t ht
 refine Classical.byContradiction fun hno=>?_
 have hinj:∀ i j,i<n->j<n->(int o i).toNat=(int o j).toNat->i=j:=fun i j hi hj e=>h.inj hi hj (by have:=(h i hi).1;have:=(h j hj).1;omega)
 have hnd:(tab (fun i=>(int o i).toNat) n).Nodup:=by
  rw[List.nodup_iff_pairwise_ne,List.pairwise_iff_getElem]
  intro i j hi hj hij e
  simp only[q07] at hi hj
  simp only[List.getElem_map,List.getElem_range] at e
  have:=hinj i j hi hj e
  omega
 have hsub:(tab (fun i=>(int o i).toNat) n) ⊆ (List.range n).erase t:=by
  intro x hx
  obtain⟨i,hi,rfl⟩:=List.mem_map.1 hx
  have hi:=List.mem_range.1 hi
  have hb:=(h i hi).1
  rw[List.mem_erase_of_ne (fun e=>hno ⟨i,hi,by omega⟩),List.mem_range]
  omega
 have hlen:=hnd.length_le_of_subset hsub
 rw[q07,List.length_erase_of_mem (List.mem_range.2 ht),List.length_range] at hlen
 omega
theorem plN_lt {n:Nat} {o:List Int} (h:okUp n o n) {t:Int} (h0:0<=t) (h1:t<(n:Int)):plN o t n<n/\int o (plN o t n)=t:=by
 obtain⟨i,hi,e⟩:=ord_all h t.toNat (by omega)
 have e:int o i=t:=by rw[e];omega
 subst e
 rw[plN_at h hi]
 exact⟨hi,rfl⟩
def renB (o:List Int) (n:Nat) (bs:List DBr):List DBr:=(List.range n).flatMap fun i=>(bs.filter fun b=>decide (plN o b.1 n=i)).map fun b=>((i:Int),b.2)
def renC (o:List Int) (n:Nat) (c:DCh):DCh:=(c.1,optL (renB o n (c.2.getD [])))
def renS (o:List Int) (n:Nat) (s:DSt):DSt:=(s.1,s.2.1,optL (tab (fun j=>renC o n (ch (cho s) j)) (cho s).length))
def renM (o:List Int) (m:DMo):DMo:=optL (tab (fun i=>renS o (m.getD []).length (stt (m.getD []) (int o i).toNat)) (m.getD []).length)
def renQ (m:DMo) (o:List Int):DMo×Int×Unit:=if moOk m then (if ordOk (m.getD []).length o then (renM o m,0,()) else (none,6,())) else (none,1,())
theorem renB_mem {o:List Int} {n:Nat} {bs:List DBr} (x:DBr):x∈renB o n bs↔∃ b,b∈bs/\plN o b.1 n<n/\x=((plN o b.1 n:Int),b.2):=by
 unfold renB
 simp only[List.mem_flatMap,List.mem_range,List.mem_map,List.mem_filter,decide_eq_true_eq]
 constructor
 . rintro⟨i,hi,b,⟨hb,rfl⟩,rfl⟩
   exact⟨b,hb,hi,rfl⟩
 . rintro⟨b,hb,hi,rfl⟩
   exact⟨_,hi,b,⟨hb,rfl⟩,rfl⟩
def distB (n:Nat) (bs:List DBr):Prop:=bs.Pairwise (fun a b=>a.1<b.1)/\∀ b,b∈bs->0<=b.1/\b.1<(n:Int)
theorem mapB_pair {o:List Int} {n:Nat} {bs:List DBr} (h:okUp n o n) (hd:distB n bs):(bs.map fun b=>((plN o b.1 n:Int),b.2)).Pairwise (fun a b=>a.1≠b.1):=by
 rw[List.pairwise_map]
 refine hd.1.imp_of_mem ?_
 intro a b ha hb hab e
 have e:(plN o a.1 n:Int)=(plN o b.1 n:Int):=e
 have h1:=plN_lt h (hd.2 a ha).1 (hd.2 a ha).2
 have h2:=plN_lt h (hd.2 b hb).1 (hd.2 b hb).2
 have e:plN o a.1 n=plN o b.1 n:=by omega
 have:a.1=b.1:=by rw[<-h1.2,<-h2.2,e]
 omega
theorem renB_sorted {o:List Int} {n:Nat} {bs:List DBr} (h:okUp n o n) (hd:distB n bs):(renB o n bs).Pairwise (fun a b=>a.1<b.1):=by
 unfold renB
 rw[List.pairwise_flatMap]
 refine⟨fun i hi=>?_,?_⟩
 . rw[List.pairwise_map]
   refine List.Pairwise.imp_of_mem ?_ (hd.1.sublist List.filter_sublist)
   intro a b ha hb hab
   exfalso
   simp only[List.mem_filter,decide_eq_true_eq] at ha hb
   have h1:=plN_lt h (hd.2 a ha.1).1 (hd.2 a ha.1).2
   have h2:=plN_lt h (hd.2 b hb.1).1 (hd.2 b hb.1).2
   have:a.1=b.1:=by rw[<-h1.2,<-h2.2,ha.2,hb.2]
   omega
 . refine List.Pairwise.imp ?_ List.pairwise_lt_range
   intro i j hij x hx y hy
   simp only[List.mem_map] at hx hy
   obtain⟨_,_,rfl⟩:=hx
   obtain⟨_,_,rfl⟩:=hy
   show (i:Int)<(j:Int)
   omega
theorem renB_uniq {o:List Int} {n:Nat} {bs c:List DBr} (h:okUp n o n) (hd:distB n bs) (hs:∀ p q,p<q->q<c.length->(br c p).1<=(br c q).1) (hp:c.Perm (bs.map fun b=>((plN o b.1 n:Int),b.2))):c=renB o n bs:=by
 have hne:c.Pairwise (fun a b=>a.1≠b.1):=(hp.pairwise_iff (fun h=>Ne.symm h)).2 (mapB_pair h hd)
 refine q5w ?_ (renB_sorted h hd) fun x=>?_
 . rw[List.pairwise_iff_getElem] at hne ⊢
   intro i j hi hj hij
   have h1:=hne i j hi hj hij
   have h2:=hs i j hij hj
   simp only[br,List.getD_eq_getElem?_getD,List.getElem?_eq_getElem hi,List.getElem?_eq_getElem hj,Option.getD_some] at h2
   omega
 . rw[hp.mem_iff,renB_mem,List.mem_map]
   constructor
   . rintro⟨b,hb,rfl⟩
     exact⟨b,hb,(plN_lt h (hd.2 b hb).1 (hd.2 b hb).2).1,rfl⟩
   . rintro⟨b,hb,_,rfl⟩
     exact⟨b,hb,rfl⟩
theorem moOk.dist {m:DMo} (h:moOk m) {s j:Nat} (hs:s<(m.getD []).length) (hj:j<(cho (stt (m.getD []) s)).length):distB (m.getD []).length ((ch (cho (stt (m.getD []) s)) j).2.getD []):=by
 obtain⟨_,h2,h3,_⟩:=(h.2 s hs).2 j hj
 generalize (ch (cho (stt (m.getD []) s)) j).2.getD []=bs at *
 have up:∀ k,∀ i,i<k->k<bs.length->(br bs i).1<(br bs k).1:=by
  intro k
  induction k with
  | zero=>intro i hi;omega
  | succ k ih=>
   intro i hi hk
   have h4:(br bs k).1<(br bs (k+1)).1:=(h3 (k+1) hk).1
   by_cases e:i=k
   . subst e;exact h4
   . have:=ih i (by omega) (by omega);omega
 constructor
 . rw[List.pairwise_iff_getElem]
   intro i k hi hk hik
   have:=up k i hik hk
   simpa only[br,List.getD_eq_getElem?_getD,List.getElem?_eq_getElem hi,List.getElem?_eq_getElem hk,Option.getD_some] using this
 . intro b hb
   obtain⟨i,hi,rfl⟩:=List.mem_iff_getElem.1 hb
   have h4:=h3 i hi
   have h5:=q1Z (i:=i) (n:=(m.getD []).length) fun k hk=>h3 k (by omega)
   have e:br bs i=bs[i]:=by simp only[br,List.getD_eq_getElem?_getD,List.getElem?_eq_getElem hi,Option.getD_some]
   rw[brOk,e] at h4
   exact⟨by omega,h4.2.1⟩
end Go.Proofs.Pf.B
namespace Go.Proofs.Pf.B
open Go Go.VM
theorem q6k {α β:Type} (f:α->β) (l:List α):mapL f (optL l)=optL (l.map f):=by cases l<;>rfl
theorem tab_map {α β:Type} (f:α->β) (g:Nat->α) (n:Nat):(tab g n).map f=tab (fun i=>f (g i)) n:=by simp[tab]
theorem tab_congr {α:Type} {f g:Nat->α} {n:Nat} (h:∀ i,i<n->f i=g i):tab f n=tab g n:=by
 refine List.map_congr_left fun i hi=>h i (List.mem_range.1 hi)
def hS (l:List DSt) (s:Nat):HSt:=((stt l s).1,(stt l s).2.1,optL (hCh (offM l s) (cho (stt l s)) (cho (stt l s)).length))
theorem hOf_get (l:List DSt) {s n:Nat} (h:s<n):(hOf l n).getD s ((0:Int),(0:Int),none)=hS l s:=q0D _ _ _ _ h
theorem off_inj (l:List DSt) {s t j k:Nat} (hj:j<(cho (stt l s)).length) (hk:k<(cho (stt l t)).length) (e:offM l s+j=offM l t+k):s=t/\j=k:=by
 rcases Nat.lt_trichotomy s t with q | q | q
 . have:=q3z l q;omega
 . subst q;exact⟨rfl,by omega⟩
 . have:=q3z l q;omega
theorem q2M {α:Type} (p:Option (List α)) (i t:Nat) (v d:α) (h:i<(p.getD []).length):((setO p i v).getD []).getD t d=if t=i then v else (p.getD []).getD t d:=by
 cases p with
 | none=>exact absurd h (by simp)
 | some l=>
  have h:i<l.length:=h
  show (l.set i v).getD t d=if t=i then v else l.getD t d
  by_cases e:t=i
  . subst e;rw[if_pos rfl,List.getD_eq_getElem?_getD,List.getElem?_set_self h];rfl
  . rw[if_neg e,List.getD_eq_getElem?_getD,List.getElem?_set_ne (fun q=>e q.symm),<-List.getD_eq_getElem?_getD]
theorem q2N {α:Type} (l:List α) (i t:Nat) (v d:α) (h:i<l.length):(l.set i v).getD t d=if t=i then v else l.getD t d:=q2M (some l) i t v d h
theorem q3O {α:Type} (p:Option (List α)) (i:Nat) (v:α):((setO p i v).getD []).length=(p.getD []).length:=by cases p<;>simp[setO]
theorem q3E {α:Type} (x d:α) {t n:Nat} (h:t<n):(List.replicate n x).getD t d=x:=by simp[List.getD_eq_getElem?_getD,List.getElem?_replicate,h]
structure RowsP (o:List Int) (l:List DSt) (z j:Nat) (U:List (List DBr)):Prop where
 len:U.length=offM l l.length
 at_:∀ z',z'<l.length->∀ j',j'<(cho (stt l (int o z').toNat)).length->U.getD (offM l (int o z').toNat+j') []=if z'<z∨(z'=z/\j'<j) then renB o l.length ((ch (cho (stt l (int o z').toNat)) j').2.getD []) else (ch (cho (stt l (int o z').toNat)) j').2.getD []
def q1Y (o:List Int) (n k:Nat) (p:DL):Prop:=(p.getD []).length=n/\∀ t,t<n->int (p.getD []) t=(plN o t k:Int)
def seenP (o:List Int) (n k:Nat) (p:Option (List Bool)):Prop:=(p.getD []).length=n/\∀ t,t<n->(p.getD []).getD t false=decide (∃ j,j<k/\int o j=(t:Int))
theorem renB_ne {o:List Int} {n:Nat} {bs:List DBr} (h:okUp n o n) (hd:distB n bs) (hb:bs≠[]):renB o n bs≠[]:=by
 obtain⟨b,bs',rfl⟩:=List.exists_cons_of_ne_nil hb
 intro e
 have:=(renB_mem (o:=o) (n:=n) (bs:=b :: bs') ((plN o b.1 n:Int),b.2)).2 ⟨b,List.mem_cons_self,(plN_lt h (hd.2 b List.mem_cons_self).1 (hd.2 b List.mem_cons_self).2).1,rfl⟩
 rw[e] at this
 exact absurd this (List.not_mem_nil)
theorem q6S (m:DMo) (b:DL) (hb:(b.getD []).length<=1000):callV Pg q3d [⟨tMo,m⟩,⟨tL,b⟩] (.tup (.pair tMo (.pair tI .unit))) fun r=>r=renQ m (b.getD []):=by
 refine qah m b ⟨_,rfl⟩ ((q6Q m).mono ?_)
 rintro _ rfl
 refine br_c (fun h=>?_) fun h=>?_
 . rw[renQ,if_neg (not_t h)]
 have hm:moOk m:=not_f h
 have hn:=hm.1.2
 generalize ho:b.getD []=o at *
 refine⟨⟨by show (0:Int)<=((m.getD []).length:Int);omega,Int.le_refl _,by show ((m.getD []).length:Int)*8<=_;omega⟩,⟨by show (0:Int)<=((m.getD []).length:Int);omega,Int.le_refl _,by show ((m.getD []).length:Int)*1<=_;omega⟩,?_⟩
 have hsz:szSl b=(o.length:Int):=by show ((b.getD []).length:Int)=_;rw[ho]
 rw[hsz]
 refine rangeB (n:=o.length) (fun i (x:DL×Option (List Bool))=>(b,(b,((o.length:Int),((i:Int),(m,(none,x))))))) (fun i x=>okUp (m.getD []).length o i/\q1Y o (m.getD []).length i x.1/\seenP o (m.getD []).length i x.2) (some (repS (szSl m) (0:Int)),some (repS (szSl m) false)) rfl ?_ (fun p=>p.2.2.2.1.toNat) (fun _ _=>rfl) (fun _ _ _=>rfl) ?_ ?_
 . refine⟨fun i hi=>by omega,⟨?_,fun t ht=>?_⟩,⟨?_,fun t ht=>?_⟩⟩
   . show (List.replicate ((m.getD []).length:Int).toNat (0:Int)).length=_
     rw[List.length_replicate];omega
   . show (List.replicate ((m.getD []).length:Int).toNat (0:Int)).getD t 0=0
     rw[q3E _ _ (by omega)]
   . show (List.replicate ((m.getD []).length:Int).toNat false).length=_
     rw[List.length_replicate];omega
   . show (List.replicate ((m.getD []).length:Int).toNat false).getD t false=_
     rw[q3E _ _ (by omega)]
     exact (decide_eq_false (by rintro⟨j,hj,_⟩;omega)).symm
 . rintro k i ⟨P,S⟩ hi ⟨hok,hP,hS'⟩ hk
   dsimp only
   have hel:eltS (0:Int) b (i:Int)=int o i:=by rw[q1Q,ho]
   rw[hel]
   refine⟨in_s (by rw[ho];exact hi),joinR (fun p=>∃ w:Bool,p=((b,((i:Int),(int o i,(b,((o.length:Int),((i:Int),(w,(m,(none,(P,S)))))))))))/\(w=true->¬ okUp (m.getD []).length o (i+1))/\(w=false->okUp (m.getD []).length o (i+1))) ?_ ?_⟩
   . rintro _ ⟨w,rfl,hw1,hw2⟩
     dsimp only
     refine br_c (fun h=>?_) fun h=>?_
     . rw[renQ,if_pos hm,if_neg]
       rintro⟨e,hu⟩
       exact hw1 h (hu.mono (by omega))
     . have hu:=hw2 h
       have hv:=(hu i (by omega)).1
       obtain⟨v,hv2⟩:∃ v:Nat,int o i=(v:Int):=⟨(int o i).toNat,by omega⟩
       rw[hv2]
       have hv:v<(m.getD []).length:=by omega
       refine⟨in_s (by rw[hS'.1];exact hv),in_s (by rw[hP.1];exact hv),?_⟩
       rw[wi1 hi (by omega),show toN (v:Int)=v from Int.toNat_natCast v]
       refine hk (_,_) ⟨hu,⟨by show ((setO P v (i:Int)).getD []).length=_;rw[q3O];exact hP.1,fun t ht=>?_⟩,⟨by show ((setO S v true).getD []).length=_;rw[q3O];exact hS'.1,fun t ht=>?_⟩⟩
       . show ((setO P v (i:Int)).getD []).getD t 0=_
         rw[q2M _ _ _ _ _ (by rw[hP.1];exact hv)]
         simp only[plN,hv2]
         by_cases e:t=v
         . subst e;rw[if_pos rfl,if_pos rfl]
         . rw[if_neg e,if_neg (by omega)];exact hP.2 t ht
       . show ((setO S v true).getD []).getD t false=_
         rw[q2M _ _ _ _ _ (by rw[hS'.1];exact hv)]
         by_cases e:t=v
         . subst e;rw[if_pos rfl];exact (decide_eq_true ⟨i,by omega,hv2⟩).symm
         . rw[if_neg e,hS'.2 t ht]
           refine decide_eq_decide.2 ⟨?_,?_⟩
           . rintro⟨j,hj,ej⟩;exact⟨j,by omega,ej⟩
           . rintro⟨j,hj,ej⟩
             refine⟨j,?_,ej⟩
             by_cases e2:j=i
             . subst e2;omega
             . omega
   . intro k3 hk3
     refine br_c (fun h=>?_) fun h=>br_c (fun h2=>?_) fun h2=>?_
     . refine hk3 _ ⟨true,rfl,fun _ q=>?_,fun q=>(by cases q)⟩
       have:=(q i (by omega)).1
       have:=dec_t h
       omega
     . refine hk3 _ ⟨true,rfl,fun _ q=>?_,fun q=>(by cases q)⟩
       have:=(q i (by omega)).1
       have h2:((m.getD []).length:Int)<=int o i:=dec_t h2
       omega
     . have h:¬ int o i<0:=dec_f h
       have h2:¬ ((m.getD []).length:Int)<=int o i:=dec_f h2
       obtain⟨v,hv2⟩:∃ v:Nat,int o i=(v:Int):=⟨(int o i).toNat,by omega⟩
       have hv:v<(m.getD []).length:=by omega
       rw[hv2]
       refine⟨in_s (by rw[hS'.1];exact hv),hk3 _ ⟨_,by rw[hv2],?_⟩⟩
       have e:eltN false S (toN (v:Int))=decide (∃ j,j<i/\int o j=(v:Int)):=by
        show (S.getD []).getD (Int.toNat (v:Int)) false=_
        rw[Int.toNat_natCast];exact hS'.2 v hv
       rw[e]
       refine⟨fun q g=>?_,fun q=>?_⟩
       . obtain⟨j,hj,ej⟩:=of_decide_eq_true q
         exact (g i (by omega)).2 j hj (by rw[ej,hv2])
       . intro j hj
         by_cases e2:j=i
         . subst e2
           refine⟨by omega,fun x hx ex=>of_decide_eq_false q ⟨x,hx,by rw[ex,hv2]⟩⟩
         . exact hok j (by omega)
 . rintro k ⟨P,S⟩ ⟨hok,hP,-⟩
   dsimp only
   rw[hsz]
   refine br_c (fun h=>?_) fun h=>?_
   . rw[renQ,if_pos hm,if_neg]
     rintro⟨e,hu⟩
     have h:=not_t h
     apply h
     show (o.length:Int)=((m.getD []).length:Int)
     rw[e]
   have hlen:o.length=(m.getD []).length:=by
    have h:(o.length:Int)=((m.getD []).length:Int):=not_f h
    omega
   rw[hlen] at hok hP
   refine s_CopyP m hm.small hm.full ?_
   dsimp only
   generalize hl:m.getD []=l at *
   have hl40:l.length<=40:=hn
   rw[hlen]
   refine rangeB (n:=l.length) (fun i (x:Option (List HSt))=>(b,((l.length:Int),((i:Int),((none:DMo),((),((),(P,(optL (hOf l l.length),(x,rowM l l.length))))))))) ) (fun i x=>x=optL (tab (fun i=>hS l (int o i).toNat) i)) none rfl rfl (fun p=>p.2.2.1.toNat) (fun _ _=>rfl) (fun _ _ _=>rfl) ?_ ?_
   . intro k i x hi hx hk
     subst hx
     dsimp only
     have hel:eltS (0:Int) b (i:Int)=int o i:=by rw[q1Q,ho]
     have hv:=(hok i hi).1
     obtain⟨v,hv2⟩:∃ v:Nat,int o i=(v:Int):=⟨(int o i).toNat,by omega⟩
     rw[hel,hv2]
     have hv:v<l.length:=by omega
     refine⟨in_s (by rw[ho];omega),in_s (by rw[q0e,hOf,q07];exact hv),?_,?_⟩
     . show (((optL (tab (fun i=>hS l (int o i).toNat) i)).getD []).length+1)*40<=140737488355328
       rw[q0e,q07];omega
     . rw[wi1 hi (by omega)]
       refine hk _ ?_
       have e:eltN ((0:Int),(0:Int),none) (optL (hOf l l.length)) (toN (v:Int))=hS l v:=by
        show ((optL (hOf l l.length)).getD []).getD (Int.toNat (v:Int)) ((0:Int),(0:Int),none)=_
        rw[q0e,Int.toNat_natCast,hOf_get l hv]
       rw[e]
       show appL _ [hS l v]=_
       rw[q1X,q2c _ i,hv2,Int.toNat_natCast]
   intro k x hx
   subst hx
   dsimp only
   have hz:szSl (optL (tab (fun i=>hS l (int o i).toNat) l.length))=(l.length:Int):=by
    show (((optL (tab (fun i=>hS l (int o i).toNat) l.length)).getD []).length:Int)=_
    rw[q0e,q07]
   rw[hz]
   generalize hG:optL (tab (fun i=>hS l (int o i).toNat) l.length)=G at *
   refine rangeB (n:=l.length) (fun z (U:List (List DBr))=>((l.length:Int),((z:Int),((none:DMo),((),(P,(G,U))))))) (fun z U=>RowsP o l z 0 U) (rowM l l.length) rfl ?_ (fun p=>p.2.1.toNat) (fun _ _=>rfl) (fun _ _ _=>rfl) ?_ ?_
   . refine⟨rowM_len l _,fun z' hz' j' hj'=>?_⟩
     rw[if_neg (by omega)]
     exact rowM_get l (by have:=(hok z' hz').1;omega) hj'
   . intro k6 z U hz' hU hk6
     dsimp only
     have hv:=(hok z hz').1
     have hGl:(G.getD []).length=l.length:=by rw[<-hG,q0e,q07]
     have hel:eltN ((0:Int),(0:Int),none) G (toN (z:Int))=hS l (int o z).toNat:=by
      show (G.getD []).getD (Int.toNat (z:Int)) ((0:Int),(0:Int),none)=_
      rw[<-hG,q0e,Int.toNat_natCast,q0D _ _ _ _ hz']
     rw[hel]
     have hs:(int o z).toNat<l.length:=by omega
     have hoff:=q3z l hs
     have hst:=hm.2 (int o z).toNat (by rw[hl];exact hs)
     have hdist:∀ j,j<(cho (stt l (int o z).toNat)).length->distB l.length ((ch (cho (stt l (int o z).toNat)) j).2.getD []):=by
      intro j hj
      have:=hm.dist (s:=(int o z).toNat) (j:=j) (by rw[hl];exact hs) (by rw[hl];exact hj)
      rw[hl] at this
      exact this
     rw[hl] at hst
     generalize hse:(int o z).toNat=s at *
     have hch:(hS l s).2.2=optL (hCh (offM l s) (cho (stt l s)) (cho (stt l s)).length):=rfl
     have hchl:szSl (hS l s).2.2=((cho (stt l s)).length:Int):=by
      show (((hS l s).2.2.getD []).length:Int)=_
      rw[hch,q0e,hCh,q07]
     rw[hchl]
     refine⟨in_s (by rw[hGl];exact hz'),rangeB (n:=(cho (stt l s)).length) (fun j (U:List (List DBr))=>((l.length:Int),((z:Int),((hS l s).2.2,(((cho (stt l s)).length:Int),((j:Int),((none:DMo),((),(P,(G,U)))))))))) (fun j U=>RowsP o l z j U) U rfl hU (fun p=>p.2.2.2.2.1.toNat) (fun _ _=>rfl) (fun _ _ _=>rfl) ?_ ?_⟩
     . intro k8 j U hj hU hk8
       dsimp only
       have hR:eltS (((0:Int),(0:Int)),none) (hS l s).2.2 (j:Int)=((ch (cho (stt l s)) j).1,some (offM l s+j)):=by
        show ((hS l s).2.2.getD []).getD (Int.toNat (j:Int)) (((0:Int),(0:Int)),none)=_
        rw[hch,q0e,Int.toNat_natCast,hCh,q0D _ _ _ _ hj]
       rw[hR]
       have hrow:=hU.at_ z hz' j (by rw[hse];exact hj)
       rw[hse,if_neg (by omega)] at hrow
       have hcok:=hst.2 j hj
       have hd:=hdist j hj
       have hj8:(cho (stt l s)).length<=1000:=by have:=hst.1.2.2;show ((stt l s).2.2.getD []).length<=1000;omega
       generalize hbs:(ch (cho (stt l s)) j).2.getD []=bs at *
       have hbl:bs.length<=8:=by have:=hcok.2.1.2;rw[show (ch ((stt l s).2.2.getD []) j).2.getD []=bs from hbs] at this;exact this
       have hb1:1<=bs.length:=by have:=hcok.2.1.1;rw[show (ch ((stt l s).2.2.getD []) j).2.getD []=bs from hbs] at this;exact this
       have hUl:=hU.len
       have hrl:offM l s+j<U.length:=by omega
       have hsz2:szH U (some (offM l s+j))=(bs.length:Int):=by
        show ((U.getD (offM l s+j) []).length:Int)=_
        rw[hrow]
       dsimp only
       rw[hsz2]
       refine⟨in_s (by rw[hch,q0e,hCh,q07];exact hj),rangeB (n:=bs.length) (fun p (V:List (List DBr))=>((l.length:Int),((z:Int),((hS l s).2.2,(((cho (stt l s)).length:Int),((j:Int),((bs.length:Int),((p:Int),((none:DMo),((),(((ch (cho (stt l s)) j).1,some (offM l s+j)),(P,(G,V))))))))))))) (fun p V=>V.length=U.length/\(∀ r,r≠offM l s+j->V.getD r []=U.getD r [])/\(V.getD (offM l s+j) []).length=bs.length/\∀ q,br (V.getD (offM l s+j) []) q=if q<p/\q<bs.length then ((plN o (br bs q).1 l.length:Int),(br bs q).2) else br bs q) U rfl ⟨rfl,fun _ _=>rfl,by rw[hrow],fun q=>by rw[hrow,if_neg (by omega)]⟩ (fun p=>p.2.2.2.2.2.2.1.toNat) (fun _ _=>rfl) (fun _ _ _=>rfl) ?_ ?_⟩
       . rintro k10 p V hp ⟨hV1,hV2,hV3,hV4⟩ hk10
         dsimp only
         have he:rowE ((0:Int),(0:Int),(0:Int)) V (Option.getD (some (offM l s+j)) 0) (toN (p:Int))=br bs p:=by
          show (V.getD (offM l s+j) []).getD (Int.toNat (p:Int)) _=_
          rw[Int.toNat_natCast]
          have:=hV4 p
          rw[if_neg (by omega)] at this
          exact this
         rw[he]
         have hmem:br bs p∈bs:=by rw[br,List.getD_eq_getElem?_getD,List.getElem?_eq_getElem hp];exact List.getElem_mem hp
         obtain⟨h0,h1⟩:=hd.2 _ hmem
         obtain⟨t,ht⟩:∃ t:Nat,(br bs p).1=(t:Int):=⟨(br bs p).1.toNat,by omega⟩
         have hin:inH V (some (offM l s+j)) (p:Int):=⟨by omega,by show (p:Int)<((V.getD (offM l s+j) []).length:Int);rw[hV3];omega⟩
         rw[ht]
         refine⟨hin,in_s (by rw[hP.1];omega),hin,?_⟩
         rw[wi1 hp (by omega)]
         refine hk10 _ ⟨by simp only[setR,List.length_set];exact hV1,fun r hr=>?_,?_,fun q=>?_⟩
         . show (V.set (offM l s+j) _).getD r []=_
           rw[q2N _ _ _ _ _ (by rw[hV1];exact hrl),if_neg hr]
           exact hV2 r hr
         . show ((V.set (offM l s+j) _).getD (offM l s+j) []).length=_
           rw[q2N _ _ _ _ _ (by rw[hV1];exact hrl),if_pos rfl,List.length_set]
           exact hV3
         . show br ((V.set (offM l s+j) _).getD (offM l s+j) []) q=_
           rw[q2N _ _ _ _ _ (by rw[hV1];exact hrl),if_pos rfl]
           show ((V.getD (offM l s+j) []).set (Int.toNat (p:Int)) _).getD q (0,(0,0))=_
           rw[Int.toNat_natCast,q2N _ _ _ _ _ (by rw[hV3];exact hp)]
           by_cases e:q=p
           . subst e
             rw[if_pos rfl,if_pos ⟨by omega,hp⟩]
             have e2:eltN (0:Int) P (toN (t:Int))=(plN o (t:Int) l.length:Int):=by
              show int (P.getD []) (Int.toNat (t:Int))=_
              rw[Int.toNat_natCast];exact hP.2 t (by omega)
             rw[e2,ht]
           . rw[if_neg e]
             have:=hV4 q
             by_cases e3:q<p/\q<bs.length
             . rw[if_pos e3] at this;rw[if_pos ⟨by omega,e3.2⟩];exact this
             . rw[if_neg e3] at this;rw[if_neg (by omega)];exact this
       . rintro k10 V ⟨hV1,hV2,hV3,hV4⟩
         dsimp only
         have hre:V.getD (offM l s+j) []=bs.map fun b=>((plN o b.1 l.length:Int),b.2):=by
          refine list_eq (by rw[List.length_map];exact hV3) fun q hq=>?_
          rw[hV3] at hq
          have:=hV4 q
          rw[if_pos ⟨hq,hq⟩] at this
          rw[this]
          simp only[br,List.getD_eq_getElem?_getD,List.getElem?_map,List.getElem?_eq_getElem hq,Option.getD_some,Option.map_some]
         have hrs:rowS V (some (offM l s+j))=bs.map fun b=>((plN o b.1 l.length:Int),b.2):=hre
         rw[hrs]
         have hwi:IntKind.wrap IntKind.i64 ((j:Int)+1)=((j+1:Nat):Int):=wi1 hj (by omega)
         rw[hwi]
         have fin0:k8 ((l.length:Int),((z:Int),((hS l s).2.2,(((cho (stt l s)).length:Int),(((j+1:Nat):Int),((none:DMo),((),(P,(G,V.set (offM l s+j) (renB o l.length bs)))))))))):=by
          refine hk8 _ ⟨by rw[List.length_set,hV1];exact hU.len,fun z' hz2 j' hj'=>?_⟩
          rw[q2N _ _ _ _ _ (by rw[hV1];exact hrl)]
          by_cases e:offM l (int o z').toNat+j'=offM l s+j
          . obtain⟨e1,e2⟩:=off_inj l hj' hj e
            have ez:z'=z:=by
             have g1:=(hok z' hz2).1
             have g2:=(hok z hz').1
             exact hok.inj hz2 hz' (by omega)
            subst ez;subst e2
            rw[if_pos e,if_pos (by omega),hse,hbs]
          . rw[if_neg e,hV2 _ e,hU.at_ z' hz2 j' hj']
            have:(z'<z∨z'=z/\j'<j)↔(z'<z∨z'=z/\j'<j+1):=by
             constructor
             . omega
             . rintro (g | ⟨g1,g2⟩)
               . exact Or.inl g
               . refine Or.inr ⟨g1,?_⟩
                 by_cases g3:j'=j
                 . subst g1;rw[hse,g3] at e;exact absurd rfl e
                 . omega
            by_cases g:z'<z∨z'=z/\j'<j
            . rw[if_pos g,if_pos (this.1 g)]
            . rw[if_neg g,if_neg (fun q=>g (this.2 q))]
         refine⟨rfl,s_SortB (some (bs.map fun b=>((plN o b.1 l.length:Int),b.2))) (by show (bs.map _).length<=12;rw[List.length_map];omega) ?_ ?_ ⟨some (renB o l.length bs),fin0⟩⟩
         . intro p hp
           have hp:p<(bs.map fun b=>((plN o b.1 l.length:Int),b.2)).length:=hp
           rw[List.length_map] at hp
           have hmem:bs[p]∈bs:=List.getElem_mem hp
           have:=plN_lt hok (hd.2 _ hmem).1 (hd.2 _ hmem).2
           show 0<=(br (bs.map _) p).1/\(br (bs.map _) p).1<1000
           simp only[br,List.getD_eq_getElem?_getD,List.getElem?_map,List.getElem?_eq_getElem hp,Option.getD_some,Option.map_some]
           omega
         . intro c hc1 hc2 hc3
           have e:c.getD []=renB o l.length bs:=renB_uniq hok hd (fun p q h1 h2=>hc2 p q h1 (by rw[<-hc1];exact h2)) hc3
           show k8 ((l.length:Int),((z:Int),((hS l s).2.2,(((cho (stt l s)).length:Int),(((j+1:Nat):Int),((none:DMo),((),(P,(G,V.set (offM l s+j) (c.getD []))))))))))
           rw[e]
           exact fin0
     . intro k8 U hU
       dsimp only
       rw[wi1 hz' (by omega)]
       refine hk6 _ ⟨hU.len,fun z' hz2 j' hj'=>?_⟩
       rw[hU.at_ z' hz2 j' hj']
       have:(z'<z∨z'=z/\j'<(cho (stt l s)).length)↔(z'<z+1∨z'=z+1/\j'<0):=by
        constructor
        . omega
        . rintro (g | g)
          . by_cases g2:z'=z
            . subst g2;rw[hse] at hj';exact Or.inr ⟨rfl,hj'⟩
            . exact Or.inl (by omega)
          . omega
       by_cases g:z'<z∨z'=z/\j'<(cho (stt l s)).length
       . rw[if_pos g,if_pos (this.1 g)]
       . rw[if_neg g,if_neg (fun q=>g (this.2 q))]
   . intro k6 U hU
     dsimp only
     rw[renQ,if_pos hm,if_pos (by rw[hl];exact⟨hlen,hok⟩)]
     refine congrArg (fun x=>(x,(0:Int),())) ?_
     rw[<-hG,q6k,tab_map,renM,hl]
     refine congrArg optL (tab_congr fun i hi=>?_)
     have hv:=(hok i hi).1
     have hs:(int o i).toNat<l.length:=by omega
     show (_,_,mapL _ (optL (hCh (offM l (int o i).toNat) (cho (stt l (int o i).toNat)) (cho (stt l (int o i).toNat)).length)))=renS o l.length (stt l (int o i).toNat)
     rw[q6k,hCh,tab_map,renS]
     refine congrArg (fun x=>((stt l (int o i).toNat).1,(stt l (int o i).toNat).2.1,optL x)) (tab_congr fun j hj=>?_)
     show ((ch (cho (stt l (int o i).toNat)) j).1,some (U.getD (offM l (int o i).toNat+j) []))=renC o l.length _
     have h1:=hU.at_ i hi j hj
     rw[if_pos (Or.inl hi)] at h1
     rw[h1,renC,optL_some]
     have hd:=hm.dist (s:=(int o i).toNat) (j:=j) (by rw[hl];exact hs) (by rw[hl];exact hj)
     rw[hl] at hd
     have hst:=((hm.2 (int o i).toNat (by rw[hl];exact hs)).2 j (by rw[hl];exact hj)).2.1.1
     rw[hl] at hst
     refine renB_ne hok hd fun e=>?_
     rw[show (ch ((stt l (int o i).toNat).2.2.getD []) j).2.getD []=[] from e] at hst
     exact absurd hst (by decide)
end Go.Proofs.Pf.B
namespace Go.Proofs.Pf.B
open Go Go.VM
theorem seen_step {o:List Int} {n i v:Nat} {S:Option (List Bool)} (h:seenP o n i S) (hv:v<n) (e:int o i=(v:Int)):seenP o n (i+1) (setO S v true):=by
 refine⟨by rw[q3O];exact h.1,fun t ht=>?_⟩
 rw[q2M _ _ _ _ _ (by rw[h.1];exact hv)]
 by_cases e2:t=v
 . subst e2;rw[if_pos rfl];exact (decide_eq_true ⟨i,by omega,e⟩).symm
 . rw[if_neg e2,h.2 t ht]
   refine decide_eq_decide.2 ⟨?_,?_⟩
   . rintro⟨j,hj,ej⟩;exact⟨j,by omega,ej⟩
   . rintro⟨j,hj,ej⟩
     refine⟨j,?_,ej⟩
     by_cases e2:j=i
     . subst e2;omega
     . omega
theorem place_step {o:List Int} {n i v:Nat} {P:DL} (h:q1Y o n i P) (hv:v<n) (e:int o i=(v:Int)):q1Y o n (i+1) (setO P v (i:Int)):=by
 refine⟨by rw[q3O];exact h.1,fun t ht=>?_⟩
 show ((setO P v (i:Int)).getD []).getD t 0=_
 rw[q2M _ _ _ _ _ (by rw[h.1];exact hv)]
 simp only[plN,e]
 by_cases e2:t=v
 . subst e2;rw[if_pos rfl,if_pos rfl]
 . rw[if_neg e2,if_neg (by omega)];exact h.2 t ht
theorem place_zero (o:List Int) (n:Nat):q1Y o n 0 (some (repS (n:Int) (0:Int))):=by
 refine⟨?_,fun t ht=>?_⟩
 . show (List.replicate (n:Int).toNat (0:Int)).length=_
   rw[List.length_replicate];omega
 . show (List.replicate (n:Int).toNat (0:Int)).getD t 0=0
   rw[q3E _ _ (by omega)]
theorem seen_zero (o:List Int) (n:Nat):seenP o n 0 (some (repS (n:Int) false)):=by
 refine⟨?_,fun t ht=>?_⟩
 . show (List.replicate (n:Int).toNat false).length=_
   rw[List.length_replicate];omega
 . show (List.replicate (n:Int).toNat false).getD t false=_
   rw[q3E _ _ (by omega)]
   exact (decide_eq_false (by rintro⟨j,hj,_⟩;omega)).symm
theorem r_Order (m:DMo) (b:DL) (hn:(m.getD []).length<=1000) (hb:(b.getD []).length<=1000):callV Pg q4G [⟨tMo,m⟩,⟨tL,b⟩] .bool fun r=>r=decide (ordOk (m.getD []).length (b.getD [])):=by
 refine qaR m b ⟨_,rfl⟩ ?_
 generalize ho:b.getD []=o at *
 generalize hm:(m.getD []).length=n at *
 have hsm:szSl m=(n:Int):=by show ((m.getD []).length:Int)=_;rw[hm]
 have hsz:szSl b=(o.length:Int):=by show ((b.getD []).length:Int)=_;rw[ho]
 rw[hsm,hsz]
 refine⟨⟨by omega,Int.le_refl _,by omega⟩,?_⟩
 refine rangeB (n:=o.length) (fun i (x:Option (List Bool))=>(b,(b,((o.length:Int),((i:Int),x))))) (fun i x=>okUp n o i/\seenP o n i x) (some (repS (n:Int) false)) rfl ⟨fun i hi=>by omega,seen_zero o n⟩ (fun p=>p.2.2.2.1.toNat) (fun _ _=>rfl) (fun _ _ _=>rfl) ?_ ?_
 . rintro k i S hi ⟨hok,hS⟩ hk
   dsimp only
   have hel:eltS (0:Int) b (i:Int)=int o i:=by rw[q1Q,ho]
   rw[hel]
   refine⟨in_s (by rw[ho];exact hi),joinR (fun p=>∃ w:Bool,p=((b,(int o i,(b,((o.length:Int),((i:Int),(w,S)))))))/\(w=true->¬ okUp n o (i+1))/\(w=false->okUp n o (i+1))) ?_ ?_⟩
   . rintro _ ⟨w,rfl,hw1,hw2⟩
     dsimp only
     refine br_c (fun h=>?_) fun h=>?_
     . refine (decide_eq_false ?_).symm
       rintro⟨e,hu⟩
       exact hw1 h (hu.mono (by omega))
     . have hu:=hw2 h
       have hv:=(hu i (by omega)).1
       obtain⟨v,hv2⟩:∃ v:Nat,int o i=(v:Int):=⟨(int o i).toNat,by omega⟩
       rw[hv2]
       have hv:v<n:=by omega
       refine⟨in_s (by rw[hS.1];exact hv),?_⟩
       rw[wi1 hi (by omega),show toN (v:Int)=v from Int.toNat_natCast v]
       exact hk _ ⟨hu,seen_step hS hv hv2⟩
   . intro k3 hk3
     refine br_c (fun h=>?_) fun h=>br_c (fun h2=>?_) fun h2=>?_
     . refine hk3 _ ⟨true,rfl,fun _ q=>?_,fun q=>(by cases q)⟩
       have:=(q i (by omega)).1
       have:=dec_t h
       omega
     . refine hk3 _ ⟨true,rfl,fun _ q=>?_,fun q=>(by cases q)⟩
       have:=(q i (by omega)).1
       have h2:(((S.getD []).length:Nat):Int)<=int o i:=dec_t h2
       rw[hS.1] at h2
       omega
     . have h:¬ int o i<0:=dec_f h
       have h2:¬ (((S.getD []).length:Nat):Int)<=int o i:=dec_f h2
       rw[hS.1] at h2
       obtain⟨v,hv2⟩:∃ v:Nat,int o i=(v:Int):=⟨(int o i).toNat,by omega⟩
       have hv:v<n:=by omega
       rw[hv2]
       refine⟨in_s (by rw[hS.1];exact hv),hk3 _ ⟨_,by rw[hv2],?_⟩⟩
       have e:eltN false S (toN (v:Int))=decide (∃ j,j<i/\int o j=(v:Int)):=by
        show (S.getD []).getD (Int.toNat (v:Int)) false=_
        rw[Int.toNat_natCast];exact hS.2 v hv
       rw[e]
       refine⟨fun q g=>?_,fun q=>?_⟩
       . obtain⟨j,hj,ej⟩:=of_decide_eq_true q
         exact (g i (by omega)).2 j hj (by rw[ej,hv2])
       . intro j hj
         by_cases e2:j=i
         . subst e2
           refine⟨by omega,fun x hx ex=>of_decide_eq_false q ⟨x,hx,by rw[ex,hv2]⟩⟩
         . exact hok j (by omega)
 . rintro k S ⟨hok,hS⟩
   try dsimp only
   rw[hsz]
   show decide ((o.length:Int)=(((S.getD []).length:Nat):Int))=_
   rw[hS.1]
   refine decide_eq_decide.2 ⟨fun h=>?_,fun h=>by rw[h.1]⟩
   have h:o.length=n:=by omega
   rw[h] at hok
   exact⟨h,hok⟩
def renT (o:List Int) (n:Nat) (bs:List DBr) (N:Nat):List DBr:=(List.range N).flatMap fun i=>(bs.filter fun b=>decide (plN o b.1 n=i)).map fun b=>((i:Int),b.2)
def renU (o:List Int) (n:Nat) (bs:List DBr) (N k:Nat):List DBr:=((bs.take k).filter fun b=>decide (plN o b.1 n=N)).map fun b=>((N:Int),b.2)
theorem q6I (o:List Int) (n:Nat) (bs:List DBr) (N:Nat):renT o n bs (N+1)=renT o n bs N ++ renU o n bs N bs.length:=by
 unfold renT renU
 rw[List.range_succ,List.flatMap_append,List.take_length,List.flatMap_singleton]
theorem q5D {bs:List DBr} {k:Nat} (h:k<bs.length):bs.take (k+1)=bs.take k ++ [br bs k]:=by
 rw[List.take_add_one,List.getElem?_eq_getElem h]
 simp only[br,List.getD_eq_getElem?_getD,List.getElem?_eq_getElem h,Option.getD_some,Option.toList_some]
theorem renU_t {o:List Int} {n:Nat} {bs:List DBr} {N k:Nat} (h:k<bs.length) (e:plN o (br bs k).1 n=N):renU o n bs N (k+1)=renU o n bs N k ++ [((N:Int),(br bs k).2)]:=by
 unfold renU
 rw[q5D h,List.filter_append,List.map_append,show ([br bs k].filter fun b=>decide (plN o b.1 n=N))=[br bs k] from by rw[List.filter_cons,if_pos (decide_eq_true e)];rfl]
 rfl
theorem renU_f {o:List Int} {n:Nat} {bs:List DBr} {N k:Nat} (h:k<bs.length) (e:plN o (br bs k).1 n≠N):renU o n bs N (k+1)=renU o n bs N k:=by
 unfold renU
 rw[q5D h,List.filter_append,List.map_append,show ([br bs k].filter fun b=>decide (plN o b.1 n=N))=[] from by rw[List.filter_cons,if_neg (by rw[decide_eq_true_eq];exact e)];rfl]
 exact List.append_nil _
theorem q6J (o:List Int) (n:Nat) (bs:List DBr) (N k:Nat):(renU o n bs N k).length<=bs.length:=by
 unfold renU
 rw[List.length_map]
 exact Nat.le_trans (List.length_filter_le _ _) (by rw[List.length_take];omega)
theorem q6H (o:List Int) (n:Nat) (bs:List DBr):∀ N,(renT o n bs N).length<=N*bs.length
 | 0=>by simp[renT]
 | N+1=>by
  rw[q6I,List.length_append,Nat.succ_mul]
  have:=q6H o n bs N
  have:=q6J o n bs N bs.length
  omega
theorem r_Renamed (m:DMo) (b:DL) (hm:moOk m) (hok:ordOk (m.getD []).length (b.getD [])):callV Pg q4I [⟨tMo,m⟩,⟨tL,b⟩] tMo fun r=>r=renM (b.getD []) m:=by
 refine qaT m b ⟨_,rfl⟩ ?_
 generalize ho:b.getD []=o at *
 have hn:=hm.1.2
 generalize hl:m.getD []=l at *
 obtain⟨hlen,hok⟩:=hok
 have hsz:szSl b=(l.length:Int):=by show ((b.getD []).length:Int)=_;rw[ho,hlen]
 rw[hsz]
 refine⟨⟨by omega,Int.le_refl _,by omega⟩,?_⟩
 refine rangeB (n:=l.length) (fun i (x:DL)=>(b,(b,((l.length:Int),((i:Int),(m,((none:DMo),x))))))) (fun i x=>q1Y o l.length i x) (some (repS (l.length:Int) (0:Int))) rfl (place_zero o _) (fun p=>p.2.2.2.1.toNat) (fun _ _=>rfl) (fun _ _ _=>rfl) ?_ ?_
 . rintro k i P hi hP hk
   try dsimp only
   have hel:eltS (0:Int) b (i:Int)=int o i:=by rw[q1Q,ho]
   have hv:=(hok i hi).1
   obtain⟨v,hv2⟩:∃ v:Nat,int o i=(v:Int):=⟨(int o i).toNat,by omega⟩
   rw[hel,hv2]
   have hv:v<l.length:=by omega
   refine⟨in_s (by rw[ho,hlen];exact hi),in_s (by rw[hP.1];exact hv),?_⟩
   rw[wi1 hi (by omega),show toN (v:Int)=v from Int.toNat_natCast v]
   exact hk _ (place_step hP hv hv2)
 rintro k P hP
 try dsimp only
 rw[hsz]
 refine rangeB (n:=l.length) (fun i (x:DMo)=>(b,(b,((l.length:Int),((i:Int),(m,((none:DMo),((),(P,x))))))))) (fun i x=>x=optL (tab (fun i=>renS o l.length (stt l (int o i).toNat)) i)) none rfl rfl (fun p=>p.2.2.2.1.toNat) (fun _ _=>rfl) (fun _ _ _=>rfl) ?_ ?_
 . intro k2 i x hi hx hk2
   subst hx
   dsimp only
   have hel:eltS (0:Int) b (i:Int)=int o i:=by rw[q1Q,ho]
   have hv:=(hok i hi).1
   obtain⟨s,hs2⟩:∃ s:Nat,int o i=(s:Int):=⟨(int o i).toNat,by omega⟩
   have hs:s<l.length:=by omega
   have hin:inS m (int o i):=by rw[hs2];exact in_s (by rw[hl];exact hs)
   rw[hel]
   refine⟨in_s (by rw[ho,hlen];exact hi),hin,hin,hin,?_⟩
   have hS:eltS ((0:Int),(0:Int),none) m (int o i)=stt l s:=by rw[hs2,q1c,hl]
   rw[hS]
   have hst:=hm.2 s (by rw[hl];exact hs)
   rw[hl] at hst
   have hdist:∀ j,j<(cho (stt l s)).length->distB l.length ((ch (cho (stt l s)) j).2.getD []):=by
    intro j hj
    have:=hm.dist (s:=s) (j:=j) (by rw[hl];exact hs) (by rw[hl];exact hj)
    rw[hl] at this
    exact this
   generalize hT:stt l s=T at *
   have hc8:(cho T).length<=1000:=by have:=hst.1.2.2;show (T.2.2.getD []).length<=1000;omega
   refine rangeB (n:=(cho T).length) (fun j (x:Option (List DCh))=>(b,(b,((l.length:Int),((i:Int),(T.2.2,(((cho T).length:Int),((j:Int),(m,((none:DMo),((),((T.1,(T.2.1,())),(P,(optL (tab (fun i=>renS o l.length (stt l (int o i).toNat)) i),x)))))))))))))) (fun j x=>x=optL (tab (fun j=>renC o l.length (ch (cho T) j)) j)) none rfl rfl (fun p=>p.2.2.2.2.2.2.1.toNat) (fun _ _=>rfl) (fun _ _ _=>rfl) ?_ ?_
   . intro k4 j x hj hx hk4
     subst hx
     dsimp only
     rw[hsz,q1b]
     have hcok:=hst.2 j hj
     have hd:=hdist j hj
     have hcok:chOk l.length (ch (cho T) j):=hcok
     generalize hC:ch (cho T) j=C at *
     have hbl:(C.2.getD []).length<=8:=hcok.2.1.2
     generalize hbs:C.2.getD []=bs at *
     refine⟨in_s hj,?_⟩
     refine rangeB (n:=l.length) (fun N (x:Option (List DBr))=>(b,(b,((l.length:Int),((i:Int),(T.2.2,(((cho T).length:Int),((j:Int),((l.length:Int),((N:Int),(m,((none:DMo),((),((T.1,(T.2.1,())),(C,((C.1,()),(P,(optL (tab (fun i=>renS o l.length (stt l (int o i).toNat)) i),(optL (tab (fun j=>renC o l.length (ch (cho T) j)) j),x))))))))))))))))))) (fun N x=>x=optL (renT o l.length bs N)) none rfl rfl (fun p=>p.2.2.2.2.2.2.2.2.1.toNat) (fun _ _=>rfl) (fun _ _ _=>rfl) ?_ ?_
     . intro k6 N x hN hx hk6
       subst hx
       dsimp only
       have hsb:szSl C.2=(bs.length:Int):=by show ((C.2.getD []).length:Int)=_;rw[hbs]
       rw[hsb]
       refine rangeB (n:=bs.length) (fun q (x:Option (List DBr))=>(b,((N:Int),(b,((l.length:Int),((i:Int),(T.2.2,(((cho T).length:Int),((j:Int),((l.length:Int),((N:Int),(C.2,((bs.length:Int),((q:Int),(m,((none:DMo),((),((T.1,(T.2.1,())),(C,((C.1,()),(P,(optL (tab (fun i=>renS o l.length (stt l (int o i).toNat)) i),(optL (tab (fun j=>renC o l.length (ch (cho T) j)) j),x))))))))))))))))))))))) (fun q x=>x=optL (renT o l.length bs N ++ renU o l.length bs N q)) (optL (renT o l.length bs N)) rfl (by rw[show renU o l.length bs N 0=[] from rfl,List.append_nil]) (fun p=>p.2.2.2.2.2.2.2.2.2.2.2.2.1.toNat) (fun _ _=>rfl) (fun _ _ _=>rfl) ?_ ?_
       . intro k8 q x hq hx hk8
         subst hx
         dsimp only
         have he:eltS ((0:Int),(0:Int),(0:Int)) C.2 (q:Int)=br bs q:=by rw[q1v,hbs]
         rw[he]
         have hmem:br bs q∈bs:=by rw[br,List.getD_eq_getElem?_getD,List.getElem?_eq_getElem hq];exact List.getElem_mem hq
         obtain⟨h0,h1⟩:=hd.2 _ hmem
         obtain⟨t,ht⟩:∃ t:Nat,(br bs q).1=(t:Int):=⟨(br bs q).1.toNat,by omega⟩
         have e2:eltN (0:Int) P (toN (br bs q).1)=(plN o (br bs q).1 l.length:Int):=by
          rw[ht]
          show int (P.getD []) (Int.toNat (t:Int))=_
          rw[Int.toNat_natCast];exact hP.2 t (by omega)
         have hin2:inS P (br bs q).1:=by rw[ht];exact in_s (by rw[hP.1];omega)
         rw[e2]
         refine⟨in_s (by rw[hbs];exact hq),hin2,joinE (br_c (fun h=>⟨?_,?_⟩) fun h=>?_)⟩
         . show (((optL (renT o l.length bs N ++ renU o l.length bs N q)).getD []).length+1)*24<=140737488355328
           rw[q0e,List.length_append]
           have g1:=q6H o l.length bs N
           have g2:=q6J o l.length bs N q
           have g3:N*bs.length<=40*8:=Nat.mul_le_mul (by omega) hbl
           omega
         . dsimp only
           rw[wi1 hq (by omega)]
           refine hk8 _ ?_
           have h:(plN o (br bs q).1 l.length:Int)=(N:Int):=dec_t h
           show appL _ [((N:Int),(br bs q).2)]=_
           rw[q1X,renU_t hq (by omega),List.append_assoc]
         . dsimp only
           rw[wi1 hq (by omega)]
           refine hk8 _ ?_
           have h:¬ (plN o (br bs q).1 l.length:Int)=(N:Int):=dec_f h
           rw[renU_f hq (by omega)]
       . intro k8 x hx
         subst hx
         dsimp only
         rw[wi1 hN (by omega)]
         exact hk6 _ (by rw[q6I])
     . intro k6 x hx
       subst hx
       dsimp only
       refine⟨?_,?_⟩
       . show (((optL (tab (fun j=>renC o l.length (ch (cho T) j)) j)).getD []).length+1)*40<=140737488355328
         rw[q0e,q07];omega
       . rw[wi1 hj (by omega)]
         refine hk4 _ ?_
         show appL _ [(C.1,optL (renT o l.length bs l.length))]=_
         rw[q1X,q2c _ j,hC,renC,hbs]
         rfl
   . intro k4 x hx
     subst hx
     dsimp only
     refine⟨?_,?_⟩
     . show (((optL (tab (fun i=>renS o l.length (stt l (int o i).toNat)) i)).getD []).length+1)*40<=140737488355328
       rw[q0e,q07];omega
     . rw[wi1 hi (by omega)]
       refine hk2 _ ?_
       show appL _ [(T.1,(T.2.1,optL (tab (fun j=>renC o l.length (ch (cho T) j)) (cho T).length)))]=_
       rw[q1X,q2c _ i,hs2,Int.toNat_natCast,hT]
       rfl
 . intro k2 x hx
   subst hx
   show _=renM o m
   rw[renM,hl]
theorem r_Rename (m:DMo) (b:DL) (hn:(m.getD []).length<=1000) (hb:(b.getD []).length<=1000):callV Pg q4H [⟨tMo,m⟩,⟨tL,b⟩] (.tup (.pair tMo (.pair tI .unit))) fun r=>r=renQ m (b.getD []):=by
 refine qaS m b ⟨_,rfl⟩ ((r_MValid m).mono ?_)
 rintro _ rfl
 refine br_c (fun h=>?_) fun h=>?_
 . rw[renQ,if_neg (not_t h)]
 have hm:moOk m:=not_f h
 refine (r_Order m b hn hb).mono ?_
 rintro _ rfl
 refine br_c (fun h=>?_) fun h=>?_
 . rw[renQ,if_pos hm,if_neg (not_t h)]
 have hok:=not_f h
 refine (r_Renamed m b hm hok).mono ?_
 rintro _ rfl
 rw[renQ,if_pos hm,if_pos hok]
end Go.Proofs.Pf.B
namespace Go.Proofs.Pf.B
open Go Go.VM
def sumL:List DBr->Rat
 | []=>0
 | b :: l=>numQ b.2+sumL l
theorem sumL_app (l r:List DBr):sumL (l ++ r)=sumL l+sumL r:=by
 induction l with
 | nil=>rw[List.nil_append,sumL];grind
 | cons b l ih=>rw[List.cons_append,sumL,sumL,ih];grind
theorem sumR_L {l:List DBr}:∀ {k:Nat},k<=l.length->sumR l k=sumL (l.take k)
 | 0,_=>by rw[List.take_zero];rfl
 | k+1,h=>by
  rw[q5D (by omega),sumL_app,sumR,sumR_L (by omega),sumL,sumL]
  grind
theorem sumL_perm {l r:List DBr} (h:l.Perm r):sumL l=sumL r:=by
 induction h with
 | nil=>rfl
 | cons x _ ih=>rw[sumL,sumL,ih]
 | swap x y l=>simp only[sumL];grind
 | trans _ _ ih1 ih2=>rw[ih1,ih2]
theorem sumL_map (f:DBr->Int) (l:List DBr):sumL (l.map fun b=>(f b,b.2))=sumL l:=by
 induction l with
 | nil=>rfl
 | cons b l ih=>rw[List.map_cons,sumL,sumL,ih]
theorem renB_perm {o:List Int} {n:Nat} {bs:List DBr} (h:okUp n o n) (hd:distB n bs):(renB o n bs).Perm (bs.map fun b=>((plN o b.1 n:Int),b.2)):=by
 refine (List.perm_ext_iff_of_nodup ?_ ?_).2 fun x=>?_
 . exact (renB_sorted h hd).imp fun h e=>by rw[e] at h;omega
 . exact (mapB_pair h hd).imp fun h e=>h (by rw[e])
 . rw[renB_mem,List.mem_map]
   constructor
   . rintro⟨b,hb,_,rfl⟩;exact⟨b,hb,rfl⟩
   . rintro⟨b,hb,rfl⟩;exact⟨b,hb,(plN_lt h (hd.2 b hb).1 (hd.2 b hb).2).1,rfl⟩
theorem renB_len {o:List Int} {n:Nat} {bs:List DBr} (h:okUp n o n) (hd:distB n bs):(renB o n bs).length=bs.length:=by
 rw[(renB_perm h hd).length_eq,List.length_map]
theorem renB_dist {o:List Int} {n:Nat} {bs:List DBr} (h:okUp n o n) (hd:distB n bs):distB n (renB o n bs):=by
 refine⟨renB_sorted h hd,fun x hx=>?_⟩
 obtain⟨b,_,hb,rfl⟩:=(renB_mem x).1 hx
 exact⟨by show (0:Int)<=(plN o b.1 n:Int);omega,by show (plN o b.1 n:Int)<n;omega⟩
theorem br_mem {bs:List DBr} {q:Nat} (hq:q<bs.length):br bs q∈bs:=by rw[br,List.getD_eq_getElem?_getD,List.getElem?_eq_getElem hq];exact List.getElem_mem hq
theorem ren_chOk {o:List Int} {n:Nat} {c:DCh} (h:okUp n o n) (hd:distB n (c.2.getD [])) (hc:chOk n c):chOk n (renC o n c):=by
 obtain⟨h1,h2,h3,h4⟩:=hc
 have hg:(renC o n c).2.getD []=renB o n (c.2.getD []):=q0e _
 refine⟨h1,by rw[hg,renB_len h hd];exact h2,fun i hi=>?_,?_⟩
 . rw[hg] at hi ⊢
   have hx:=br_mem hi
   obtain⟨b,hb,hb2,e⟩:=(renB_mem _).1 hx
   have hs:=renB_sorted h hd
   obtain⟨q,hq,eq⟩:=List.mem_iff_getElem.1 hb
   have hbq:=h3 q hq
   have eb:br (c.2.getD []) q=b:=by simp only[br,List.getD_eq_getElem?_getD,List.getElem?_eq_getElem hq,Option.getD_some,eq]
   rw[brOk,eb] at hbq
   refine⟨?_,by rw[e];show (plN o b.1 n:Int)<n;omega,by rw[e];exact hbq.2.2.1,by rw[e];exact hbq.2.2.2⟩
   cases i with
   | zero=>show (-1:Int)<_;rw[e];show (-1:Int)<(plN o b.1 n:Int);omega
   | succ i=>
    show (br _ i).1<(br _ (i+1)).1
    rw[List.pairwise_iff_getElem] at hs
    have:=hs i (i+1) (by omega) hi (by omega)
    simpa only[br,List.getD_eq_getElem?_getD,List.getElem?_eq_getElem hi,List.getElem?_eq_getElem (show i<(renB o n (c.2.getD [])).length by omega),Option.getD_some] using this
 . rw[hg,sumR_L (Nat.le_refl _),List.take_length,sumL_perm (renB_perm h hd),sumL_map,<-List.take_length (l:=c.2.getD []),<-sumR_L (Nat.le_refl _)]
   exact h4
theorem q0V (o:List Int) (n:Nat) (s:DSt):cho (renS o n s)=tab (fun j=>renC o n (ch (cho s) j)) (cho s).length:=q0e _
theorem q52 {o:List Int} {m:DMo} {i:Nat} (hi:i<(m.getD []).length):stt ((renM o m).getD []) i=renS o (m.getD []).length (stt (m.getD []) (int o i).toNat):=by
 rw[renM,q0e];exact q0D _ _ _ _ hi
theorem q0R (o:List Int) (m:DMo):((renM o m).getD []).length=(m.getD []).length:=by rw[renM,q0e,q07]
theorem ren_ok {o:List Int} {m:DMo} (hm:moOk m) (h:okUp (m.getD []).length o (m.getD []).length):moOk (renM o m):=by
 refine⟨by rw[q0R];exact hm.1,fun i hi=>?_⟩
 rw[q0R] at hi ⊢
 rw[q52 hi]
 have hv:=(h i hi).1
 have hs:(int o i).toNat<(m.getD []).length:=by omega
 obtain⟨⟨a1,a2,a3⟩,h2⟩:=hm.2 _ hs
 have hd:=fun j hj=>hm.dist (j:=j) hs hj
 generalize stt (m.getD []) (int o i).toNat=s at *
 have hl:((renS o (m.getD []).length s).2.2.getD []).length=(s.2.2.getD []).length:=by
  show (cho (renS o (m.getD []).length s)).length=_
  rw[q0V,q07]
 refine⟨⟨a1,a2,by rw[hl];exact a3⟩,fun j hj=>?_⟩
 rw[hl] at hj
 show chOk _ (ch (cho (renS o (m.getD []).length s)) j)
 rw[q0V,show ch (tab (fun j=>renC o (m.getD []).length (ch (cho s) j)) (cho s).length) j=_ from q0D _ _ _ _ hj]
 exact ren_chOk h (hd j hj) (h2 j hj)
theorem moOk.few {m:DMo} (h:moOk m):fewOk m:=by
 refine⟨by have:=h.1.2;omega,fun i hi=>⟨by have:=(h.2 i hi).1.2.2.2;omega,fun j hj=>?_⟩⟩
 have:=((h.2 i hi).2 j hj).2.1.2
 omega
def backO (o:List Int) (n:Nat) (v:List Int):Prop:=v.length=n/\∀ t,t<n->int v t=(plN o t n:Int)
theorem back_ok {o v:List Int} {n:Nat} (h:okUp n o n) (hv:backO o n v):okUp n v n:=by
 intro i hi
 have h1:=plN_lt h (t:=(i:Int)) (by omega) (by omega)
 refine⟨by rw[hv.2 i hi];omega,fun j hj e=>?_⟩
 rw[hv.2 i hi,hv.2 j (by omega)] at e
 have h2:=plN_lt h (t:=(j:Int)) (by omega) (by omega)
 have e:plN o j n=plN o i n:=by omega
 rw[e,h1.2] at h2
 omega
theorem back_at {o v:List Int} {n:Nat} (h:okUp n o n) (hv:backO o n v) {t:Nat} (ht:t<n):plN v (plN o t n:Int) n=t:=by
 rw[<-hv.2 t ht]
 exact plN_at (back_ok h hv) ht
theorem renB_back {o v:List Int} {n:Nat} {bs:List DBr} (h:okUp n o n) (hv:backO o n v) (hd:distB n bs):renB v n (renB o n bs)=bs:=by
 refine q5w (renB_sorted (back_ok h hv) (renB_dist h hd)) hd.1 fun x=>?_
 rw[renB_mem]
 have key:∀ b,b∈bs->plN v ((plN o b.1 n:Nat):Int) n=b.1.toNat/\0<=b.1/\b.1.toNat<n:=fun b hb=>by
  obtain⟨g1,g2⟩:=hd.2 b hb
  have:=back_at h hv (t:=b.1.toNat) (by omega)
  rw[Int.toNat_of_nonneg g1] at this
  exact⟨this,g1,by omega⟩
 constructor
 . rintro⟨b',hb',_,rfl⟩
   obtain⟨b,hb,_,rfl⟩:=(renB_mem b').1 hb'
   obtain⟨k1,k2,_⟩:=key b hb
   show ((plN v ((plN o b.1 n:Nat):Int) n:Int),b.2)∈bs
   rw[k1,Int.toNat_of_nonneg k2]
   exact hb
 . intro hx
   obtain⟨k1,k2,k3⟩:=key x hx
   refine⟨((plN o x.1 n:Int),x.2),(renB_mem _).2 ⟨x,hx,(plN_lt h k2 (by omega)).1,rfl⟩,?_,?_⟩
   . show plN v ((plN o x.1 n:Nat):Int) n<n;rw[k1];exact k3
   . show x=((plN v ((plN o x.1 n:Nat):Int) n:Int),x.2)
     rw[k1,Int.toNat_of_nonneg k2]
theorem ren_back {o v:List Int} {m:DMo} (hm:moOk m) (h:okUp (m.getD []).length o (m.getD []).length) (hv:backO o (m.getD []).length v):moEq (renM v (renM o m)) m:=by
 refine⟨by rw[q0R,q0R],fun i hi=>?_⟩
 rw[q0R,q0R] at hi
 rw[q52 (by rw[q0R];exact hi),q0R]
 have e1:=hv.2 i hi
 have e2:=plN_lt h (t:=(i:Int)) (by omega) (by omega)
 rw[e1,Int.toNat_natCast,q52 e2.1,e2.2,Int.toNat_natCast]
 have hd:=fun j hj=>hm.dist (j:=j) hi hj
 generalize stt (m.getD []) i=s at *
 refine⟨rfl,rfl,?_,fun j hj=>?_⟩
 . show (cho (renS v _ (renS o _ s))).length=(cho s).length
   rw[q0V,q07,q0V,q07]
 . have hj:j<(cho (renS v (m.getD []).length (renS o (m.getD []).length s))).length:=hj
   rw[q0V,q07,q0V,q07] at hj
   show chEq (ch (cho (renS v _ (renS o _ s))) j) (ch (cho s) j)
   rw[q0V,show ch (tab (fun j=>renC v (m.getD []).length (ch (cho (renS o (m.getD []).length s)) j)) (cho (renS o (m.getD []).length s)).length) j=_ from q0D _ _ _ _ (by rw[q0V,q07];exact hj),q0V,show ch (tab (fun j=>renC o (m.getD []).length (ch (cho s) j)) (cho s).length) j=_ from q0D _ _ _ _ hj]
   refine⟨rfl,?_⟩
   rw[renC,renC]
   show (optL (renB v _ ((optL (renB o _ _)).getD []))).getD []=_
   rw[q0e,q0e]
   exact renB_back h hv (hd j hj)
theorem moEq_self (m:DMo):moEq m m:=⟨rfl,fun _ _=>⟨rfl,rfl,rfl,fun _ _=>⟨rfl,rfl⟩⟩⟩
theorem q6s:fewOk none:=⟨by show (0:Nat)<=45;omega,fun i hi=>absurd hi (Nat.not_lt_zero i)⟩
theorem renQ_few (m:DMo) (o:List Int):fewOk (renQ m o).1:=by
 unfold renQ
 by_cases h:moOk m
 . rw[if_pos h]
   by_cases g:ordOk (m.getD []).length o
   . rw[if_pos g];exact (ren_ok h g.2).few
   . rw[if_neg g];exact q6s
 . rw[if_neg h];exact q6s
theorem renQ_zero {m:DMo} {o:List Int} (h:(renQ m o).2.1=0):moOk m/\ordOk (m.getD []).length o/\(renQ m o).1=renM o m:=by
 unfold renQ at h ⊢
 by_cases g:moOk m
 . rw[if_pos g] at h ⊢
   by_cases g2:ordOk (m.getD []).length o
   . rw[if_pos g2] at h ⊢;exact⟨g,g2,rfl⟩
   . rw[if_neg g2] at h;exact absurd h (by show ¬ (6:Int)=0;decide)
 . rw[if_neg g] at h;exact absurd h (by show ¬ (1:Int)=0;decide)
theorem s_ModelRenames (a:DMo) (b:DL):callV Pg q5T [⟨tMo,a⟩,⟨tL,b⟩] .bool fun r=>r=true:=by
 refine q9Z a b ⟨_,rfl⟩ (joinR (fun p=>∃ q:Bool,p=(b,(q,a))/\(q=false->fewOk a/\(b.getD []).length<=60)) ?_ ?_)
 . rintro _ ⟨q,rfl,hq⟩
   dsimp only
   refine br_c (fun _=>q5r.mono fun _ h=>h) fun h=>?_
   obtain⟨ha,hb⟩:=hq h
   have ha1:=ha.1
   refine (r_Rename a b (by omega) (by omega)).mono ?_
   rintro _ rfl
   refine (q6S a b (by omega)).mono ?_
   rintro _ rfl
   refine joinR (fun p=>p=(b,((renQ a (b.getD [])).2.1,(false,(a,(renQ a (b.getD [])).1))))) ?_ ?_
   . rintro _ rfl
     dsimp only
     refine br_f rfl (br_c (fun _=>q5r.mono fun _ h=>h) fun h=>?_)
     have h0:(renQ a (b.getD [])).2.1=0:=not_f h
     obtain⟨hm,hok,e⟩:=renQ_zero h0
     rw[e]
     generalize ho:b.getD []=o at *
     obtain⟨hlen,hok⟩:=hok
     have hn:=hm.1.2
     have hsz:szSl b=((a.getD []).length:Int):=by show ((b.getD []).length:Int)=_;rw[ho,hlen]
     rw[hsz]
     refine⟨⟨by omega,Int.le_refl _,by omega⟩,?_⟩
     refine rangeB (n:=(a.getD []).length) (fun i (x:DL)=>(b,(((a.getD []).length:Int),((i:Int),(a,(renM o a,x)))))) (fun i x=>q1Y o (a.getD []).length i x) (some (repS ((a.getD []).length:Int) (0:Int))) rfl (place_zero o _) (fun p=>p.2.2.1.toNat) (fun _ _=>rfl) (fun _ _ _=>rfl) ?_ ?_
     . rintro k i P hi hP hk
       have hel:eltS (0:Int) b (i:Int)=int o i:=by rw[q1Q,ho]
       have hv:=(hok i hi).1
       obtain⟨v,hv2⟩:∃ v:Nat,int o i=(v:Int):=⟨(int o i).toNat,by omega⟩
       try dsimp only
       rw[hel,hv2]
       have hv:v<(a.getD []).length:=by omega
       refine⟨in_s (by rw[ho,hlen];exact hi),in_s (by rw[hP.1];exact hv),?_⟩
       rw[wi1 hi (by omega),show toN (v:Int)=v from Int.toNat_natCast v]
       exact hk _ (place_step hP hv hv2)
     . rintro k P hP
       try dsimp only
       have hback:backO o (a.getD []).length (P.getD []):=hP
       have hP1:=hP.1
       refine (q6S (renM o a) P (by omega)).mono ?_
       rintro _ rfl
       have e2:renQ (renM o a) (P.getD [])=(renM (P.getD []) (renM o a),0,()):=by
        rw[renQ,if_pos (ren_ok hm hok),q0R,if_pos ⟨hback.1,back_ok hok hback⟩]
       rw[e2]
       refine joinR (fun p=>p=true) (fun p h=>h) fun k7 hk7=>?_
       refine br_t (decide_eq_true rfl) ((q6E _ a ?_).mono ?_)
       . have h1:=(ren_ok (ren_ok hm hok) (by rw[q0R];exact back_ok hok hback)).few
         exact h1
       . rintro _ rfl
         exact br_t (decide_eq_true (ren_back hm hok hback)) (q5r.mono fun _ h=>hk7 _ h)
   . intro k3 hk3
     refine br_f (by simp[notB]) ((q6E _ _ (renQ_few a _)).mono ?_)
     rintro _ rfl
     rw[decide_eq_true (moEq_self _)]
     exact hk3 _ rfl
 . intro k hk
   refine (s_few2 [a] (by simp)).mono fun p hp=>br_c (fun _=>hk _ ⟨true,rfl,fun h=>by cases h⟩) fun h=>hk _ ⟨_,rfl,fun g=>⟨?_,?_⟩⟩
   . have hp:=hp (by cases p<;>simp[notB] at h ⊢)
     exact hp 0 (by simp)
   . have g:¬ (60:Int)<((b.getD []).length:Int):=dec_f g
     omega
end Go.Proofs.Pf.B
