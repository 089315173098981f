/- Typed pure data, a condition on code that says what a call gives, what the code of each function comes to, and what each function gives. -/
import Derived.Test.YtfifpjkegdkdpaaGreatA6
set_option linter.unusedVariables false
set_option linter.unusedSimpArgs false
set_option linter.unnecessarySimpa false
namespace Go.Proofs.Pf
open Go Go.VM
theorem wi64 {x:Int} (h1:-9223372036854775808<=x) (h2:x<9223372036854775808):IntKind.wrap IntKind.i64 x=x:=by
 rw[IntKind.wrap_i64];omega
theorem wu64 {x:Int} (h1:0<=x) (h2:x<18446744073709551616):IntKind.wrap IntKind.u64 x=x:=by
 simp only[IntKind.wrap,IntKind.signed,IntKind.bits,Bool.false_and,Bool.false_eq_true,if_false];omega
theorem wu64m (x:Int):IntKind.wrap IntKind.u64 x=x % 18446744073709551616:=by
 simp only[IntKind.wrap,IntKind.signed,IntKind.bits,Bool.false_and,Bool.false_eq_true,if_false];omega
theorem wu32m (x:Int):IntKind.wrap IntKind.u32 x=x % 4294967296:=by
 simp only[IntKind.wrap,IntKind.signed,IntKind.bits,Bool.false_and,Bool.false_eq_true,if_false];omega
theorem wu32 {x:Int} (h1:0<=x) (h2:x<4294967296):IntKind.wrap IntKind.u32 x=x:=by
 rw[wu32m];omega
theorem wu8m (x:Int):IntKind.wrap IntKind.u8 x=x % 256:=by
 simp only[IntKind.wrap,IntKind.signed,IntKind.bits,Bool.false_and,Bool.false_eq_true,if_false];omega
theorem shr64 (a:Int) (n:Nat) (h:n<=64:=by omega):shrI IntKind.u64 a (n:Int)=a / 2 ^ n:=by
 simp only[shrI,IntKind.bits,Int.toNat_natCast]
 rw[Nat.min_eq_left h,Int.fdiv_eq_ediv_of_nonneg _ (Int.pow_nonneg (by decide))]
theorem shr32 (a:Int) (n:Nat) (h:n<=32:=by omega):shrI IntKind.u32 a (n:Int)=a / 2 ^ n:=by
 simp only[shrI,IntKind.bits,Int.toNat_natCast]
 rw[Nat.min_eq_left h,Int.fdiv_eq_ediv_of_nonneg _ (Int.pow_nonneg (by decide))]
theorem shl64 (a:Int) (n:Nat) (h:n<=64:=by omega):shlI IntKind.u64 a (n:Int)=(a*2 ^ n) % 18446744073709551616:=by
 simp only[shlI,IntKind.bits,Int.toNat_natCast]
 rw[Nat.min_eq_left h,wu64m]
theorem q2w (a:Int):shrI IntKind.u64 a 32=a / 4294967296:=shr64 a 32
theorem shr32_31 (a:Int):shrI IntKind.u32 a 31=a / 2147483648:=shr32 a 31
theorem q7P (a:Int):shrI IntKind.u64 a 63=a / 9223372036854775808:=shr64 a 63
theorem q4j (a:Int):shlI IntKind.u64 a 32=(a*4294967296) % 18446744073709551616:=shl64 a 32
theorem bor64 (x y:Int):bitI BinOp.or IntKind.u64 x y=IntKind.wrap IntKind.u64 ((BitVec.ofInt 64 x ||| BitVec.ofInt 64 y).toNat:Int):=rfl
theorem band64 (x y:Int):bitI BinOp.and IntKind.u64 x y=IntKind.wrap IntKind.u64 ((BitVec.ofInt 64 x &&& BitVec.ofInt 64 y).toNat:Int):=rfl
theorem bor32 (x y:Int):bitI BinOp.or IntKind.u32 x y=IntKind.wrap IntKind.u32 ((BitVec.ofInt 32 x ||| BitVec.ofInt 32 y).toNat:Int):=rfl
theorem band32 (x y:Int):bitI BinOp.and IntKind.u32 x y=IntKind.wrap IntKind.u32 ((BitVec.ofInt 32 x &&& BitVec.ofInt 32 y).toNat:Int):=rfl
theorem bxor32 (x y:Int):bitI BinOp.xor IntKind.u32 x y=IntKind.wrap IntKind.u32 ((BitVec.ofInt 32 x ^^^ BitVec.ofInt 32 y).toNat:Int):=rfl
theorem bvn (n:Nat) {x:Int} (h1:0<=x) (h2:x<2 ^ n):(BitVec.ofInt n x).toNat=x.toNat:=by
 rw[BitVec.toNat_ofInt]
 have:x % ((2 ^ n:Nat):Int)=x:=Int.emod_eq_of_lt h1 (by simpa using h2)
 rw[this]
theorem or64 {x y:Int} (n:Nat) (hx:0<=x) (hxn:x<2 ^ n) (hy:0<=y) (hxy:x+y*2 ^ n<18446744073709551616):bitI BinOp.or IntKind.u64 x (y*2 ^ n)=x+y*2 ^ n:=by
 have hp:(0:Int)<2 ^ n:=Int.pow_pos (by decide)
 have hyn:0<=y*2 ^ n:=Int.mul_nonneg hy (Int.le_of_lt hp)
 have hx64:x<2 ^ 64:=by omega
 have hy64:y*2 ^ n<2 ^ 64:=by omega
 rw[bor64,BitVec.toNat_or,bvn 64 hx hx64,bvn 64 hyn hy64]
 have e:x.toNat ||| (y*2 ^ n).toNat=x.toNat+(y*2 ^ n).toNat:=by
  have e1:(y*2 ^ n).toNat=2 ^ n*y.toNat:=by
   rw[Int.toNat_mul hy (Int.le_of_lt hp),Nat.mul_comm]
   congr 1
  rw[e1,Nat.or_comm,Nat.add_comm]
  refine (Nat.two_pow_add_eq_or_of_lt ?_ _).symm
  have:((2:Int) ^ n)=((2 ^ n:Nat):Int):=by simp
  omega
 rw[e,wu64m]
 omega
theorem q5K {x y:Int} (hx:0<=x) (hxn:x<4294967296) (hy:0<=y) (hyn:y<4294967296):bitI BinOp.or IntKind.u64 (y*4294967296) x=x+y*4294967296:=by
 have h:=or64 (x:=x) (y:=y) 32 hx hxn hy (by omega)
 have c:∀ a b,bitI BinOp.or IntKind.u64 a b=bitI BinOp.or IntKind.u64 b a:=by
  intro a b;rw[bor64,bor64,BitVec.or_comm]
 rw[c];exact h
theorem q4u {x:Int} (h1:0<=x) (h2:x<18446744073709551616):bitI BinOp.and IntKind.u64 x 4294967295=x % 4294967296:=by
 rw[band64,BitVec.toNat_and,bvn 64 h1 h2,bvn 64 (by decide) (by decide)]
 have:x.toNat &&& (4294967295:Int).toNat=x.toNat % 2 ^ 32:=Nat.and_two_pow_sub_one_eq_mod x.toNat 32
 rw[this,wu64m]
 omega
theorem borrow32 {a b c:Int} (ha:0<=a) (ha':a<4294967296) (hb:0<=b) (hb':b<4294967296) (hc:0<=c) (hc':c<=1):
 shrI IntKind.u32 (bitI BinOp.or IntKind.u32 (bitI BinOp.and IntKind.u32 (bitI BinOp.xor IntKind.u32 ((4294967296:Int) - (1:Int)) a) b) (bitI BinOp.and IntKind.u32 (bitI BinOp.xor IntKind.u32 ((4294967296:Int) - (1:Int)) (bitI BinOp.xor IntKind.u32 a b)) ((a - b - c) % 4294967296))) 31 =
  if a<b+c then 1 else 0:=by
 have key:∀ x:BitVec 32,IntKind.wrap IntKind.u32 (x.toNat:Int)=x.toNat:=fun x=>wu32 (by omega) (by have:=x.isLt;omega)
 have ofn:∀ x:BitVec 32,BitVec.ofInt 32 (x.toNat:Int)=x:=fun x=>by
  apply BitVec.eq_of_toNat_eq
  rw[bvn 32 (by omega) (by have:=x.isLt;omega)];simp
 rw[shr32_31]
 simp only[bor32,band32,bxor32,key,ofn]
 generalize hd:(a - b - c) % 4294967296=d
 have hd0:0<=d:=by omega
 have hd1:d<4294967296:=by omega
 have e1:BitVec.ofInt 32 ((4294967296:Int) - 1)=BitVec.allOnes 32:=by decide
 rw[e1]
 generalize hX:((BitVec.allOnes 32 ^^^ BitVec.ofInt 32 a) &&& BitVec.ofInt 32 b ||| (BitVec.allOnes 32 ^^^ (BitVec.ofInt 32 a ^^^ BitVec.ofInt 32 b)) &&& BitVec.ofInt 32 d)=X
 have hm:X.msb=(((!(BitVec.ofInt 32 a).msb) && (BitVec.ofInt 32 b).msb) || ((!((BitVec.ofInt 32 a).msb ^^ (BitVec.ofInt 32 b).msb)) && (BitVec.ofInt 32 d).msb)):=by
  rw[<-hX]
  have ho:(BitVec.allOnes 32).msb=true:=by decide
  rw[BitVec.msb_or,BitVec.msb_and,BitVec.msb_and,BitVec.msb_xor,BitVec.msb_xor,BitVec.msb_xor,ho,Bool.true_xor,Bool.true_xor]
 have ma:(BitVec.ofInt 32 a).msb=decide (2147483648<=a):=by rw[BitVec.msb_eq_decide,bvn 32 ha ha'];exact decide_eq_decide.2 (by omega)
 have mb:(BitVec.ofInt 32 b).msb=decide (2147483648<=b):=by rw[BitVec.msb_eq_decide,bvn 32 hb hb'];exact decide_eq_decide.2 (by omega)
 have md:(BitVec.ofInt 32 d).msb=decide (2147483648<=d):=by rw[BitVec.msb_eq_decide,bvn 32 hd0 hd1];exact decide_eq_decide.2 (by omega)
 rw[ma,mb,md,BitVec.msb_eq_decide] at hm
 have hl:=X.isLt
 have hx:(decide (2147483648<=X.toNat))=(((!decide (2147483648<=a)) && decide (2147483648<=b)) || ((!(decide (2147483648<=a) ^^ decide (2147483648<=b))) && decide (2147483648<=d))):=hm
 clear hm hX ma mb md e1 key ofn
 by_cases h1:2147483648<=a<;>by_cases h2:2147483648<=b<;>by_cases h3:2147483648<=d<;>simp[h1,h2,h3] at hx<;>split<;>omega
end Go.Proofs.Pf
namespace Go.Proofs.Pf
open Go Go.VM
def nv:List Int->Int
 | []=>0
 | d :: l=>d+4294967296*nv l
def Dig (l:List Int):Prop:=∀ d∈l,0<=d/\d<4294967296
def Trm (l:List Int):Prop:=∀ d,l.getLast?=some d->d≠0
theorem Dig.nil:Dig []:=fun _ h=>by simp at h
theorem Dig.cons {d:Int} {l:List Int} (h1:0<=d) (h2:d<4294967296) (h:Dig l):Dig (d :: l):=by
 intro x hx;rcases List.mem_cons.1 hx with rfl | hx
 . exact⟨h1,h2⟩
 . exact h x hx
theorem Dig.app {a b:List Int} (h1:Dig a) (h2:Dig b):Dig (a ++ b):=by
 intro x hx;rcases List.mem_append.1 hx with hx | hx
 . exact h1 x hx
 . exact h2 x hx
theorem Dig.take {l:List Int} (h:Dig l) (n:Nat):Dig (l.take n):=fun x hx=>h x (List.mem_of_mem_take hx)
theorem Dig.drop {l:List Int} (h:Dig l) (n:Nat):Dig (l.drop n):=fun x hx=>h x (List.mem_of_mem_drop hx)
theorem Dig.get {l:List Int} (h:Dig l) (i:Nat):0<=l.getD i 0/\l.getD i 0<4294967296:=by
 rcases Nat.lt_or_ge i l.length with hi | hi
 . have:l.getD i 0=l[i]:=by simp[List.getD,hi]
   rw[this];exact h _ (List.getElem_mem hi)
 . have:l.getD i 0=0:=by simp[List.getD,hi]
   rw[this];omega
theorem Dig.set {l:List Int} (h:Dig l) (i:Nat) {x:Int} (h1:0<=x) (h2:x<4294967296):Dig (l.set i x):=by
 intro y hy
 rcases List.mem_or_eq_of_mem_set hy with hy | rfl
 . exact h y hy
 . exact⟨h1,h2⟩
theorem Dig.rep (n:Nat):Dig (List.replicate n 0):=by
 intro x hx;rw[List.eq_of_mem_replicate hx];omega
theorem nv_nonneg:∀ {l:List Int},Dig l->0<=nv l
 | [],_=>by simp[nv]
 | d :: l,h=>by
  have h1:=h d (by simp)
  have h2:=nv_nonneg (l:=l) (fun x hx=>h x (by simp[hx]))
  simp only[nv];omega
theorem nv_lt:∀ {l:List Int},Dig l->nv l<4294967296 ^ l.length
 | [],_=>by simp[nv]
 | d :: l,h=>by
  have h1:=h d (by simp)
  have h2:=nv_lt (l:=l) (fun x hx=>h x (by simp[hx]))
  simp only[nv,List.length_cons,Int.pow_succ];omega
theorem q0E:∀ (a b:List Int),nv (a ++ b)=nv a+4294967296 ^ a.length*nv b
 | [],b=>by simp[nv]
 | d :: a,b=>by
  simp only[List.cons_append,nv,q0E a b,List.length_cons,Int.pow_succ,Int.mul_add,Int.add_assoc,Int.mul_assoc,Int.mul_comm 4294967296 (4294967296 ^ a.length*nv b)]
  rw[Int.mul_comm (nv b) 4294967296]
theorem q46 (n:Nat):nv (List.replicate n 0)=0:=by
 induction n with
 | zero=>rfl
 | succ n ih=>simp[List.replicate_succ,nv,ih]
theorem q0w (a:List Int) (x:Int):nv (a ++ [x])=nv a+4294967296 ^ a.length*x:=by
 rw[q0E];simp[nv]
theorem q2k (l:List Int) (i:Nat) (h:i<l.length):nv (l.take (i+1))=nv (l.take i)+4294967296 ^ i*l.getD i 0:=by
 have:l.take (i+1)=l.take i ++ [l.getD i 0]:=by
  rw[List.take_succ_eq_append_getElem h];simp[List.getD,h]
 rw[this,q0w];simp[Nat.min_eq_left (Nat.le_of_lt h)]
theorem q1L (l:List Int) (i:Nat) (h:i<=l.length):nv l=nv (l.take i)+4294967296 ^ i*nv (l.drop i):=by
 conv=>lhs;rw[<-List.take_append_drop i l]
 rw[q0E];simp[Nat.min_eq_left h]
theorem q0S (l:List Int) (i:Nat) (h:i<l.length):nv (l.drop i)=l.getD i 0+4294967296*nv (l.drop (i+1)):=by
 rw[List.drop_eq_getElem_cons h];simp[nv,List.getD,h]
theorem q0v (l:List Int) (i:Nat) (x:Int) (h:i<l.length):nv (l.set i x)=nv l+4294967296 ^ i*(x - l.getD i 0):=by
 induction l generalizing i with
 | nil=>simp at h
 | cons d l ih=>
  cases i with
  | zero=>simp[nv];omega
  | succ i=>
   simp only[List.length_cons,Nat.add_lt_add_iff_right] at h
   simp only[List.set_cons_succ,nv,ih i h,List.getD_cons_succ,Int.pow_succ,Int.mul_add,Int.add_assoc]
   congr 2
   rw[Int.mul_comm (4294967296 ^ i) 4294967296,Int.mul_assoc]
theorem pow_pos32 (n:Nat):(0:Int)<4294967296 ^ n:=Int.pow_pos (by decide)
theorem pow_mono32 {k j:Nat} (h:k<=j):(4294967296:Int) ^ k<=4294967296 ^ j:=by
 obtain⟨i,rfl⟩:=Nat.exists_eq_add_of_le h
 rw[Int.pow_add]
 have h1:=pow_pos32 k
 have h2:=pow_pos32 i
 have:(4294967296:Int) ^ k*1<=4294967296 ^ k*4294967296 ^ i:=Int.mul_le_mul_of_nonneg_left (by omega) (by omega)
 omega
theorem Trm.ge {l:List Int} (hd:Dig l) (ht:Trm l) (hn:l≠[]):4294967296 ^ (l.length - 1)<=nv l:=by
 have e:l=l.dropLast ++ [l.getLast hn]:=(List.dropLast_concat_getLast hn).symm
 have hx:l.getLast hn≠0:=ht _ (List.getLast?_eq_some_getLast hn)
 have hd1:=hd _ (List.getLast_mem hn)
 have hl:l.dropLast.length=l.length - 1:=by simp
 rw[<-hl]
 conv=>rhs;rw[e]
 rw[q0w]
 have h0:0<=nv l.dropLast:=nv_nonneg (fun x hx=>hd x ((List.dropLast_sublist _).subset hx))
 have hp:=pow_pos32 l.dropLast.length
 have:4294967296 ^ l.dropLast.length*1<=(4294967296:Int) ^ l.dropLast.length*l.getLast hn:=Int.mul_le_mul_of_nonneg_left (by omega) (by omega)
 omega
def Fit (k:Nat) (n:Int):Prop:=n<4294967296 ^ k /\ -(4294967296 ^ k)<n
theorem Fit.mono {k j:Nat} {n:Int} (h:Fit k n) (hk:k<=j):Fit j n:=by
 have:(4294967296:Int) ^ k<=4294967296 ^ j:=pow_mono32 hk
 unfold Fit at *;omega
theorem Fit.neg {k:Nat} {n:Int} (h:Fit k n):Fit k (-n):=by unfold Fit at *;omega
theorem Fit.add {k j:Nat} {n m:Int} (h:Fit k n) (g:Fit k m) (hj:k<j):Fit j (n+m):=by
 have h2:(4294967296:Int) ^ (k+1)<=4294967296 ^ j:=pow_mono32 hj
 rw[Int.pow_succ] at h2
 have:=pow_pos32 k
 unfold Fit at *;omega
theorem Fit.mul {k j i:Nat} {n m:Int} (h:Fit k n) (g:Fit j m) (hi:k+j<=i):Fit i (n*m):=by
 have h2:(4294967296:Int) ^ (k+j)<=4294967296 ^ i:=pow_mono32 hi
 rw[Int.pow_add] at h2
 have e1:(n.natAbs:Int)<4294967296 ^ k:=by unfold Fit at h;omega
 have e2:(m.natAbs:Int)<4294967296 ^ j:=by unfold Fit at g;omega
 have e3:((n*m).natAbs:Int)<4294967296 ^ k*4294967296 ^ j:=by
  rw[Int.natAbs_mul];push_cast
  exact Int.mul_lt_mul' (Int.le_of_lt e1) e2 (by omega) (pow_pos32 k)
 unfold Fit;omega
theorem Fit.of {k:Nat} {n m:Int} (h:Fit k m) (hm:n.natAbs<=m.natAbs):Fit k n:=by unfold Fit at *;omega
theorem Trm.fit {l:List Int} (hd:Dig l) (ht:Trm l) {k:Nat} {n:Int} (hf:Fit k n) (hn:nv l=n.natAbs):l.length<=k:=by
 rcases List.eq_nil_or_concat l with rfl | ⟨_,_,_⟩
 . simp
 . have hne:l≠[]:=by simp_all
   have h1:=ht.ge hd hne
   rcases Nat.lt_or_ge k l.length with h | h
   . have:(4294967296:Int) ^ k<=4294967296 ^ (l.length - 1):=pow_mono32 (by omega)
     unfold Fit at hf;omega
   . exact h
theorem fit_nv {l:List Int} (hd:Dig l):Fit l.length (nv l):=by
 have:=nv_lt hd;have:=nv_nonneg hd;have:=pow_pos32 l.length
 unfold Fit;omega
theorem q31:∀ (k:Nat) (n:Int),0<=n->n<4294967296 ^ k->∃ l,Dig l/\nv l=n/\l.length=k
 | 0,n,h0,h=>⟨[],Dig.nil,by simp at h;simp[nv];omega,rfl⟩
 | k+1,n,h0,h=>by
  rw[Int.pow_succ] at h
  obtain⟨l,q1,q2,q3⟩:=q31 k (n / 4294967296) (by omega) (by omega)
  exact⟨n % 4294967296 :: l,q1.cons (by omega) (by omega),by simp only[nv,q2];omega,by simp[q3]⟩
def trim (l:List Int):List Int:=(l.reverse.dropWhile (· == 0)).reverse
theorem q4p (l:List Int):trim (l ++ [0])=trim l:=by simp[trim]
theorem q4o (l:List Int) (x:Int) (h:x≠0):trim (l ++ [x])=l ++ [x]:=by simp[trim,h]
theorem trim_facts:∀ (n:Nat) (l:List Int),l.length=n->nv (trim l)=nv l/\(Dig l->Dig (trim l))/\Trm (trim l)/\(trim l).length<=l.length:=by
 intro n
 induction n with
 | zero=>intro l h;rw[List.length_eq_zero_iff] at h;subst h;exact⟨rfl,fun h=>h,fun d hd=>by simp[trim] at hd,Nat.le_refl _⟩
 | succ n ih=>
  intro l h
  rcases List.eq_nil_or_concat l with rfl | ⟨a,x,rfl⟩
  . simp at h
  . by_cases hx:x=0
    . subst hx
      simp only[List.concat_eq_append] at *
      rw[q4p]
      obtain⟨q1,q2,q3,q4⟩:=ih a (by simpa using h)
      exact⟨by rw[q1,q0w];simp,fun hd=>q2 (fun y hy=>hd y (by simp[hy])),q3,by simp;omega⟩
    . simp only[List.concat_eq_append] at *
      rw[q4o _ _ hx]
      exact⟨rfl,fun h=>h,fun d hd=>by simp at hd;omega,Nat.le_refl _⟩
theorem q1M (l:List Int):nv (trim l)=nv l:=(trim_facts _ l rfl).1
theorem Dig.trim {l:List Int} (h:Dig l):Dig (trim l):=(trim_facts _ l rfl).2.1 h
theorem trm_trim (l:List Int):Trm (trim l):=(trim_facts _ l rfl).2.2.1
end Go.Proofs.Pf
namespace Go.Proofs.Pf.B
open Go Go.VM
def nv:List Int->Int
 | []=>0
 | d :: l=>d+1073741824*nv l
def Dig (l:List Int):Prop:=∀ d∈l,0<=d/\d<1073741824
def Trm (l:List Int):Prop:=∀ d,l.getLast?=some d->d≠0
theorem Dig.nil:Dig []:=fun _ h=>by simp at h
theorem Dig.cons {d:Int} {l:List Int} (h1:0<=d) (h2:d<1073741824) (h:Dig l):Dig (d :: l):=by
 intro x hx;rcases List.mem_cons.1 hx with rfl | hx
 . exact⟨h1,h2⟩
 . exact h x hx
theorem Dig.app {a b:List Int} (h1:Dig a) (h2:Dig b):Dig (a ++ b):=by
 intro x hx;rcases List.mem_append.1 hx with hx | hx
 . exact h1 x hx
 . exact h2 x hx
theorem Dig.take {l:List Int} (h:Dig l) (n:Nat):Dig (l.take n):=fun x hx=>h x (List.mem_of_mem_take hx)
theorem Dig.drop {l:List Int} (h:Dig l) (n:Nat):Dig (l.drop n):=fun x hx=>h x (List.mem_of_mem_drop hx)
theorem Dig.get {l:List Int} (h:Dig l) (i:Nat):0<=l.getD i 0/\l.getD i 0<1073741824:=by
 rcases Nat.lt_or_ge i l.length with hi | hi
 . have:l.getD i 0=l[i]:=by simp[List.getD,hi]
   rw[this];exact h _ (List.getElem_mem hi)
 . have:l.getD i 0=0:=by simp[List.getD,hi]
   rw[this];omega
theorem Dig.set {l:List Int} (h:Dig l) (i:Nat) {x:Int} (h1:0<=x) (h2:x<1073741824):Dig (l.set i x):=by
 intro y hy
 rcases List.mem_or_eq_of_mem_set hy with hy | rfl
 . exact h y hy
 . exact⟨h1,h2⟩
theorem Dig.rep (n:Nat):Dig (List.replicate n 0):=by
 intro x hx;rw[List.eq_of_mem_replicate hx];omega
theorem nv_nonneg:∀ {l:List Int},Dig l->0<=nv l
 | [],_=>by simp[nv]
 | d :: l,h=>by
  have h1:=h d (by simp)
  have h2:=nv_nonneg (l:=l) (fun x hx=>h x (by simp[hx]))
  simp only[nv];omega
theorem nv_lt:∀ {l:List Int},Dig l->nv l<1073741824 ^ l.length
 | [],_=>by simp[nv]
 | d :: l,h=>by
  have h1:=h d (by simp)
  have h2:=nv_lt (l:=l) (fun x hx=>h x (by simp[hx]))
  simp only[nv,List.length_cons,Int.pow_succ];omega
theorem q0E:∀ (a b:List Int),nv (a ++ b)=nv a+1073741824 ^ a.length*nv b
 | [],b=>by simp[nv]
 | d :: a,b=>by
  simp only[List.cons_append,nv,q0E a b,List.length_cons,Int.pow_succ,Int.mul_add,Int.add_assoc,Int.mul_assoc,Int.mul_comm 1073741824 (1073741824 ^ a.length*nv b)]
  rw[Int.mul_comm (nv b) 1073741824]
theorem q46 (n:Nat):nv (List.replicate n 0)=0:=by
 induction n with
 | zero=>rfl
 | succ n ih=>simp[List.replicate_succ,nv,ih]
theorem q0w (a:List Int) (x:Int):nv (a ++ [x])=nv a+1073741824 ^ a.length*x:=by
 rw[q0E];simp[nv]
theorem q2k (l:List Int) (i:Nat) (h:i<l.length):nv (l.take (i+1))=nv (l.take i)+1073741824 ^ i*l.getD i 0:=by
 have:l.take (i+1)=l.take i ++ [l.getD i 0]:=by
  rw[List.take_succ_eq_append_getElem h];simp[List.getD,h]
 rw[this,q0w];simp[Nat.min_eq_left (Nat.le_of_lt h)]
theorem q1L (l:List Int) (i:Nat) (h:i<=l.length):nv l=nv (l.take i)+1073741824 ^ i*nv (l.drop i):=by
 conv=>lhs;rw[<-List.take_append_drop i l]
 rw[q0E];simp[Nat.min_eq_left h]
theorem q0S (l:List Int) (i:Nat) (h:i<l.length):nv (l.drop i)=l.getD i 0+1073741824*nv (l.drop (i+1)):=by
 rw[List.drop_eq_getElem_cons h];simp[nv,List.getD,h]
theorem q0v (l:List Int) (i:Nat) (x:Int) (h:i<l.length):nv (l.set i x)=nv l+1073741824 ^ i*(x - l.getD i 0):=by
 induction l generalizing i with
 | nil=>simp at h
 | cons d l ih=>
  cases i with
  | zero=>simp[nv];omega
  | succ i=>
   simp only[List.length_cons,Nat.add_lt_add_iff_right] at h
   simp only[List.set_cons_succ,nv,ih i h,List.getD_cons_succ,Int.pow_succ,Int.mul_add,Int.add_assoc]
   congr 2
   rw[Int.mul_comm (1073741824 ^ i) 1073741824,Int.mul_assoc]
theorem pow_posB (n:Nat):(0:Int)<1073741824 ^ n:=Int.pow_pos (by decide)
theorem pow_monoB {k j:Nat} (h:k<=j):(1073741824:Int) ^ k<=1073741824 ^ j:=by
 obtain⟨i,rfl⟩:=Nat.exists_eq_add_of_le h
 rw[Int.pow_add]
 have h1:=pow_posB k
 have h2:=pow_posB i
 have:(1073741824:Int) ^ k*1<=1073741824 ^ k*1073741824 ^ i:=Int.mul_le_mul_of_nonneg_left (by omega) (by omega)
 omega
theorem Trm.ge {l:List Int} (hd:Dig l) (ht:Trm l) (hn:l≠[]):1073741824 ^ (l.length - 1)<=nv l:=by
 have e:l=l.dropLast ++ [l.getLast hn]:=(List.dropLast_concat_getLast hn).symm
 have hx:l.getLast hn≠0:=ht _ (List.getLast?_eq_some_getLast hn)
 have hd1:=hd _ (List.getLast_mem hn)
 have hl:l.dropLast.length=l.length - 1:=by simp
 rw[<-hl]
 conv=>rhs;rw[e]
 rw[q0w]
 have h0:0<=nv l.dropLast:=nv_nonneg (fun x hx=>hd x ((List.dropLast_sublist _).subset hx))
 have hp:=pow_posB l.dropLast.length
 have:1073741824 ^ l.dropLast.length*1<=(1073741824:Int) ^ l.dropLast.length*l.getLast hn:=Int.mul_le_mul_of_nonneg_left (by omega) (by omega)
 omega
def Fit (k:Nat) (n:Int):Prop:=n<1073741824 ^ k /\ -(1073741824 ^ k)<n
theorem Fit.mono {k j:Nat} {n:Int} (h:Fit k n) (hk:k<=j):Fit j n:=by
 have:(1073741824:Int) ^ k<=1073741824 ^ j:=pow_monoB hk
 unfold Fit at *;omega
theorem Fit.neg {k:Nat} {n:Int} (h:Fit k n):Fit k (-n):=by unfold Fit at *;omega
theorem Fit.add {k j:Nat} {n m:Int} (h:Fit k n) (g:Fit k m) (hj:k<j):Fit j (n+m):=by
 have h2:(1073741824:Int) ^ (k+1)<=1073741824 ^ j:=pow_monoB hj
 rw[Int.pow_succ] at h2
 have:=pow_posB k
 unfold Fit at *;omega
theorem Fit.mul {k j i:Nat} {n m:Int} (h:Fit k n) (g:Fit j m) (hi:k+j<=i):Fit i (n*m):=by
 have h2:(1073741824:Int) ^ (k+j)<=1073741824 ^ i:=pow_monoB hi
 rw[Int.pow_add] at h2
 have e1:(n.natAbs:Int)<1073741824 ^ k:=by unfold Fit at h;omega
 have e2:(m.natAbs:Int)<1073741824 ^ j:=by unfold Fit at g;omega
 have e3:((n*m).natAbs:Int)<1073741824 ^ k*1073741824 ^ j:=by
  rw[Int.natAbs_mul];push_cast
  exact Int.mul_lt_mul' (Int.le_of_lt e1) e2 (by omega) (pow_posB k)
 unfold Fit;omega
theorem Fit.of {k:Nat} {n m:Int} (h:Fit k m) (hm:n.natAbs<=m.natAbs):Fit k n:=by unfold Fit at *;omega
theorem Trm.fit {l:List Int} (hd:Dig l) (ht:Trm l) {k:Nat} {n:Int} (hf:Fit k n) (hn:nv l=n.natAbs):l.length<=k:=by
 rcases List.eq_nil_or_concat l with rfl | ⟨_,_,_⟩
 . simp
 . have hne:l≠[]:=by simp_all
   have h1:=ht.ge hd hne
   rcases Nat.lt_or_ge k l.length with h | h
   . have:(1073741824:Int) ^ k<=1073741824 ^ (l.length - 1):=pow_monoB (by omega)
     unfold Fit at hf;omega
   . exact h
theorem fit_nv {l:List Int} (hd:Dig l):Fit l.length (nv l):=by
 have:=nv_lt hd;have:=nv_nonneg hd;have:=pow_posB l.length
 unfold Fit;omega
theorem q31:∀ (k:Nat) (n:Int),0<=n->n<1073741824 ^ k->∃ l,Dig l/\nv l=n/\l.length=k
 | 0,n,h0,h=>⟨[],Dig.nil,by simp at h;simp[nv];omega,rfl⟩
 | k+1,n,h0,h=>by
  rw[Int.pow_succ] at h
  obtain⟨l,q1,q2,q3⟩:=q31 k (n / 1073741824) (by omega) (by omega)
  exact⟨n % 1073741824 :: l,q1.cons (by omega) (by omega),by simp only[nv,q2];omega,by simp[q3]⟩
def trim (l:List Int):List Int:=(l.reverse.dropWhile (· == 0)).reverse
theorem q4p (l:List Int):trim (l ++ [0])=trim l:=by simp[trim]
theorem q4o (l:List Int) (x:Int) (h:x≠0):trim (l ++ [x])=l ++ [x]:=by simp[trim,h]
theorem trim_facts:∀ (n:Nat) (l:List Int),l.length=n->nv (trim l)=nv l/\(Dig l->Dig (trim l))/\Trm (trim l)/\(trim l).length<=l.length:=by
 intro n
 induction n with
 | zero=>intro l h;rw[List.length_eq_zero_iff] at h;subst h;exact⟨rfl,fun h=>h,fun d hd=>by simp[trim] at hd,Nat.le_refl _⟩
 | succ n ih=>
  intro l h
  rcases List.eq_nil_or_concat l with rfl | ⟨a,x,rfl⟩
  . simp at h
  . by_cases hx:x=0
    . subst hx
      simp only[List.concat_eq_append] at *
      rw[q4p]
      obtain⟨q1,q2,q3,q4⟩:=ih a (by simpa using h)
      exact⟨by rw[q1,q0w];simp,fun hd=>q2 (fun y hy=>hd y (by simp[hy])),q3,by simp;omega⟩
    . simp only[List.concat_eq_append] at *
      rw[q4o _ _ hx]
      exact⟨rfl,fun h=>h,fun d hd=>by simp at hd;omega,Nat.le_refl _⟩
theorem q1M (l:List Int):nv (trim l)=nv l:=(trim_facts _ l rfl).1
theorem Dig.trim {l:List Int} (h:Dig l):Dig (trim l):=(trim_facts _ l rfl).2.1 h
theorem trm_trim (l:List Int):Trm (trim l):=(trim_facts _ l rfl).2.2.1
def q06 (l:List Int) (j:Nat):Prop:=∀ i,j<=i->l.getD i 0=0
theorem q1a:∀ {l:List Int} {j:Nat},Dig l->q06 l j->nv l<1073741824 ^ j
 | [],j,_,_=>by simp only[nv];exact pow_posB j
 | d :: l,0,h,hz=>by
  have h1:d=0:=hz 0 (Nat.le_refl _)
  have h2:=q1a (l:=l) (j:=0) (fun x hx=>h x (by simp[hx])) (fun i hi=>hz (i+1) (by omega))
  simp only[nv,Int.pow_zero] at *;omega
 | d :: l,j+1,h,hz=>by
  have h1:=h d (by simp)
  have h2:=q1a (l:=l) (j:=j) (fun x hx=>h x (by simp[hx])) (fun i hi=>hz (i+1) (by omega))
  simp only[nv,Int.pow_succ] at *;omega
theorem q1K:∀ {l:List Int} {j:Nat},Dig l->nv l<1073741824 ^ j->q06 l j
 | [],j,_,_=>fun i _=>by simp
 | d :: l,0,h,hn=>by
  have h1:=h d (by simp)
  have hl:Dig l:=fun x hx=>h x (by simp[hx])
  have h0:=nv_nonneg hl
  simp only[nv,Int.pow_zero] at hn
  have h2:=q1K (l:=l) (j:=0) hl (by simp only[Int.pow_zero];omega)
  intro i hi
  cases i with
  | zero=>show d=0;omega
  | succ i=>exact h2 i (Nat.zero_le _)
 | d :: l,j+1,h,hn=>by
  have h1:=h d (by simp)
  have hl:Dig l:=fun x hx=>h x (by simp[hx])
  simp only[nv,Int.pow_succ] at hn
  have h2:=q1K (l:=l) (j:=j) hl (by omega)
  intro i hi
  cases i with
  | zero=>omega
  | succ i=>exact h2 i (by omega)
theorem q06.set {l:List Int} {j i:Nat} {x:Int} (h:q06 l j) (hi:i<j):q06 (l.set i x) j:=by
 intro k hk
 have:=h k hk
 simp only[List.getD] at *
 rw[List.getElem?_set_ne (by omega)];exact this
theorem q0F (l:List Int) (i:Nat):nv l=nv (l.take i)+1073741824 ^ i*nv (l.drop i):=by
 rcases Nat.le_total i l.length with h | h
 . exact q1L l i h
 . rw[List.take_of_length_le h,List.drop_of_length_le h];simp[nv]
theorem q17 (l:List Int) (i:Nat):nv (l.drop i)=l.getD i 0+1073741824*nv (l.drop (i+1)):=by
 rcases Nat.lt_or_ge i l.length with h | h
 . exact q0S l i h
 . rw[List.drop_of_length_le h,List.drop_of_length_le (by omega)]
   simp[nv,List.getD,h]
theorem q06.drop {l:List Int} {j:Nat} (hd:Dig l) (h:q06 l j):nv (l.drop j)=0:=by
 have h1:=q1a (l:=l.drop j) (j:=0) (hd.drop j) (fun i _=>by
  have:=h (j+i) (by omega)
  simpa[List.getD,List.getElem?_drop] using this)
 have h2:=nv_nonneg (hd.drop j)
 simp only[Int.pow_zero] at h1;omega
theorem take_lt {l:List Int} (hd:Dig l) (i:Nat):0<=nv (l.take i)/\nv (l.take i)<1073741824 ^ i:=by
 refine⟨nv_nonneg (hd.take i),Int.lt_of_lt_of_le (nv_lt (hd.take i)) (pow_monoB ?_)⟩
 simp;omega
end Go.Proofs.Pf.B
namespace Go.Proofs.Pf
theorem est_ge {U V v1 top P:Int} (hP:0<P) (hV:v1*P<=V) (hU:U<(top+1)*P) (hv:0<v1) (hU0:0<=U):U / V<=top / v1:=by
 have hV0:0<V:=by
  have:1*P<=v1*P:=Int.mul_le_mul_of_nonneg_right (by omega) (by omega)
  omega
 have hQ0:0<=U / V:=Int.ediv_nonneg hU0 (by omega)
 have h1:U / V*V<=U:=Int.ediv_mul_le _ (by omega)
 have h2:U / V*(v1*P)<=U / V*V:=Int.mul_le_mul_of_nonneg_left hV hQ0
 have h3:(U / V*v1)*P<(top+1)*P:=by rw[Int.mul_assoc];omega
 have h4:U / V*v1<top+1:=Int.lt_of_mul_lt_mul_right h3 (by omega)
 exact Int.le_ediv_of_mul_le hv (by omega)
theorem est_test {U V v1 v2 top u2 P q r:Int} (hP:0<P) (hV:(v1*4294967296+v2)*P<=V) (hU:U<(top*4294967296+u2+1)*P) (hV0:0<V) (hU0:0<=U)
 (hq:q*v1+r=top) (ht:r*4294967296+u2<q*v2):U / V≠q:=by
 intro e
 have hQ0:0<=U / V:=Int.ediv_nonneg hU0 (by omega)
 have h1:U / V*V<=U:=Int.ediv_mul_le _ (by omega)
 have h2:U / V*((v1*4294967296+v2)*P)<=U / V*V:=Int.mul_le_mul_of_nonneg_left hV hQ0
 rw[e] at h1 h2
 have h3:(q*(v1*4294967296+v2))*P<(top*4294967296+u2+1)*P:=by rw[Int.mul_assoc];omega
 have h4:q*(v1*4294967296+v2)<top*4294967296+u2+1:=Int.lt_of_mul_lt_mul_right h3 (by omega)
 have h5:q*(v1*4294967296+v2)=(q*v1)*4294967296+q*v2:=by grind
 generalize q*v1=a at *
 generalize q*v2=b at *
 omega
theorem est_le {U V v1 v2 top u2 P q r:Int} (hP:0<P) (hV:V<(v1*4294967296+v2+1)*P) (hV2:4294967296*P<=V) (hU:(top*4294967296+u2)*P<=U) (hq0:0<=q) (hqB:q<=4294967295)
 (hq:q*v1+r=top) (ht:q*v2<=r*4294967296+u2):q - 1<=U / V:=by
 have hV0:0<V:=by omega
 refine Int.le_ediv_of_mul_le hV0 ?_
 have h1:q*(v1*4294967296+v2)<=top*4294967296+u2:=by
  have h5:q*(v1*4294967296+v2)=(q*v1)*4294967296+q*v2:=by grind
  generalize q*v1=a at *
  generalize q*v2=b at *
  omega
 have h2:q*(v1*4294967296+v2)*P<=(top*4294967296+u2)*P:=Int.mul_le_mul_of_nonneg_right h1 (by omega)
 have h3:q*V<=q*((v1*4294967296+v2+1)*P):=Int.mul_le_mul_of_nonneg_left (by omega) hq0
 have h4:q*((v1*4294967296+v2+1)*P)=q*(v1*4294967296+v2)*P+q*P:=by grind
 have h5:q*P<=4294967295*P:=Int.mul_le_mul_of_nonneg_right hqB (by omega)
 have h6:(q - 1)*V=q*V - V:=by grind
 omega
end Go.Proofs.Pf
namespace Go.Proofs.Pf
def q06 (l:List Int) (j:Nat):Prop:=∀ i,j<=i->l.getD i 0=0
theorem q1a:∀ {l:List Int} {j:Nat},Dig l->q06 l j->nv l<4294967296 ^ j
 | [],j,_,_=>by simp only[nv];exact pow_pos32 j
 | d :: l,0,h,hz=>by
  have h1:d=0:=hz 0 (Nat.le_refl _)
  have h2:=q1a (l:=l) (j:=0) (fun x hx=>h x (by simp[hx])) (fun i hi=>hz (i+1) (by omega))
  simp only[nv,Int.pow_zero] at *;omega
 | d :: l,j+1,h,hz=>by
  have h1:=h d (by simp)
  have h2:=q1a (l:=l) (j:=j) (fun x hx=>h x (by simp[hx])) (fun i hi=>hz (i+1) (by omega))
  simp only[nv,Int.pow_succ] at *;omega
theorem q1K:∀ {l:List Int} {j:Nat},Dig l->nv l<4294967296 ^ j->q06 l j
 | [],j,_,_=>fun i _=>by simp
 | d :: l,0,h,hn=>by
  have h1:=h d (by simp)
  have hl:Dig l:=fun x hx=>h x (by simp[hx])
  have h0:=nv_nonneg hl
  simp only[nv,Int.pow_zero] at hn
  have h2:=q1K (l:=l) (j:=0) hl (by simp only[Int.pow_zero];omega)
  intro i hi
  cases i with
  | zero=>show d=0;omega
  | succ i=>exact h2 i (Nat.zero_le _)
 | d :: l,j+1,h,hn=>by
  have h1:=h d (by simp)
  have hl:Dig l:=fun x hx=>h x (by simp[hx])
  simp only[nv,Int.pow_succ] at hn
  have h2:=q1K (l:=l) (j:=j) hl (by omega)
  intro i hi
  cases i with
  | zero=>omega
  | succ i=>exact h2 i (by omega)
theorem q06.set {l:List Int} {j i:Nat} {x:Int} (h:q06 l j) (hi:i<j):q06 (l.set i x) j:=by
 intro k hk
 have:=h k hk
 simp only[List.getD] at *
 rw[List.getElem?_set_ne (by omega)];exact this
theorem q0F (l:List Int) (i:Nat):nv l=nv (l.take i)+4294967296 ^ i*nv (l.drop i):=by
 rcases Nat.le_total i l.length with h | h
 . exact q1L l i h
 . rw[List.take_of_length_le h,List.drop_of_length_le h];simp[nv]
theorem q17 (l:List Int) (i:Nat):nv (l.drop i)=l.getD i 0+4294967296*nv (l.drop (i+1)):=by
 rcases Nat.lt_or_ge i l.length with h | h
 . exact q0S l i h
 . rw[List.drop_of_length_le h,List.drop_of_length_le (by omega)]
   simp[nv,List.getD,h]
theorem q06.drop {l:List Int} {j:Nat} (hd:Dig l) (h:q06 l j):nv (l.drop j)=0:=by
 have h1:=q1a (l:=l.drop j) (j:=0) (hd.drop j) (fun i _=>by
  have:=h (j+i) (by omega)
  simpa[List.getD,List.getElem?_drop] using this)
 have h2:=nv_nonneg (hd.drop j)
 simp only[Int.pow_zero] at h1;omega
theorem take_lt {l:List Int} (hd:Dig l) (i:Nat):0<=nv (l.take i)/\nv (l.take i)<4294967296 ^ i:=by
 refine⟨nv_nonneg (hd.take i),Int.lt_of_lt_of_le (nv_lt (hd.take i)) (pow_mono32 ?_)⟩
 simp;omega
theorem win3 {l:List Int} (hd:Dig l) {k m:Nat} (hz:q06 l (k+m+3)):
 ∃ w,0<=w/\w<4294967296 ^ m/\nv (l.drop k)=w+4294967296 ^ m*(l.getD (k+m) 0+4294967296*(l.getD (k+m+1) 0+4294967296*l.getD (k+m+2) 0)):=by
 refine⟨nv ((l.drop k).take m),(take_lt (hd.drop k) m).1,(take_lt (hd.drop k) m).2,?_⟩
 rw[q0F (l.drop k) m,List.drop_drop,q17 l (k+m),q17 l (k+m+1),q17 l (k+m+1+1),q06.drop hd hz]
 simp
theorem win2 {l:List Int} (hd:Dig l) {m:Nat} (hl:l.length=m+2):
 ∃ w,0<=w/\w<4294967296 ^ m/\nv l=w+4294967296 ^ m*(l.getD m 0+4294967296*l.getD (m+1) 0):=by
 refine⟨nv (l.take m),(take_lt hd m).1,(take_lt hd m).2,?_⟩
 rw[q0F l m,q17 l m,q17 l (m+1),List.drop_of_length_le (by omega)]
 simp[nv]
structure Est (U V v1 v2 u2 top P:Int):Prop where
 p:0<P
 vl:(v1*4294967296+v2)*P<=V
 vh:V<(v1*4294967296+v2+1)*P
 ul:(top*4294967296+u2)*P<=U
 uh:U<(top*4294967296+u2+1)*P
 v1l:2147483648<=v1
 v1h:v1<4294967296
 v2l:0<=v2
 v2h:v2<4294967296
 u2l:0<=u2
 u2h:u2<4294967296
 t0:0<=top
 uv:U<V*4294967296
theorem est_mk {U V v1 v2 u2 u1 u0 P wu wv:Int} (hP:0<P) (hU:U=wu+P*(u2+4294967296*(u1+4294967296*u0))) (hV:V=wv+P*(v2+4294967296*v1)) (h1:0<=wu) (h2:wu<P) (h3:0<=wv) (h4:wv<P)
 (h5:2147483648<=v1) (h6:v1<4294967296) (h7:0<=v2) (h8:v2<4294967296) (h9:0<=u2) (h10:u2<4294967296) (h11:0<=u1) (h12:0<=u0) (hUV:U<V*4294967296):
 Est U V v1 v2 u2 (u0*4294967296+u1) P where
 p:=hP
 vl:=by
  have e:(v1*4294967296+v2)*P=P*(v2+4294967296*v1):=by grind
  rw[e];omega
 vh:=by
  have e:(v1*4294967296+v2+1)*P=P*(v2+4294967296*v1)+P:=by grind
  rw[e];omega
 ul:=by
  have e:((u0*4294967296+u1)*4294967296+u2)*P=P*(u2+4294967296*(u1+4294967296*u0)):=by grind
  rw[e];omega
 uh:=by
  have e:((u0*4294967296+u1)*4294967296+u2+1)*P=P*(u2+4294967296*(u1+4294967296*u0))+P:=by grind
  rw[e];omega
 v1l:=h5
 v1h:=h6
 v2l:=h7
 v2h:=h8
 u2l:=h9
 u2h:=h10
 t0:=by omega
 uv:=hUV
variable {U V v1 v2 u2 top P q r:Int}
theorem Est.v0 (h:Est U V v1 v2 u2 top P):0<V:=by
 have:=h.p;have:=h.vl;have:=h.v1l;have:=h.v2l
 have:1*P<=(v1*4294967296+v2)*P:=Int.mul_le_mul_of_nonneg_right (by omega) (by omega)
 omega
theorem Est.u0 (h:Est U V v1 v2 u2 top P):0<=U:=by
 have:=h.p;have:=h.ul;have:=h.t0;have:=h.u2l
 have:0<=(top*4294967296+u2)*P:=Int.mul_nonneg (by omega) (by omega)
 omega
theorem Est.q0 (h:Est U V v1 v2 u2 top P):0<=U / V:=Int.ediv_nonneg h.u0 (Int.le_of_lt h.v0)
theorem Est.qB (h:Est U V v1 v2 u2 top P):U / V<=4294967295:=by
 have:=Int.ediv_lt_of_lt_mul (a:=U) (b:=4294967296) h.v0 (by rw[Int.mul_comm];exact h.uv)
 omega
theorem Est.init (h:Est U V v1 v2 u2 top P):U / V<=top / v1:=by
 have:=h.p;have:=h.v2l;have:=h.u2h;have:=h.v1l
 refine est_ge (P:=4294967296*P) (by omega) ?_ ?_ (by omega) h.u0
 . refine Int.le_trans ?_ h.vl
   rw[<-Int.mul_assoc]
   exact Int.mul_le_mul_of_nonneg_right (by omega) (by omega)
 . refine Int.lt_of_lt_of_le h.uh ?_
   rw[<-Int.mul_assoc]
   exact Int.mul_le_mul_of_nonneg_right (by omega) (by omega)
theorem Est.top_lt (h:Est U V v1 v2 u2 top P):top<(v1+1)*4294967296:=by
 have h1:=h.p;have h2:=h.v2h;have h3:=h.u2l;have h4:=h.ul;have h5:=h.vh;have h6:=h.uv
 have e1:(v1*4294967296+v2+1)*P<=((v1+1)*4294967296)*P:=Int.mul_le_mul_of_nonneg_right (by omega) (by omega)
 have e2:(top*4294967296)*P<=(top*4294967296+u2)*P:=Int.mul_le_mul_of_nonneg_right (by omega) (by omega)
 have e3:(top*4294967296)*P<((v1+1)*4294967296*4294967296)*P:=by
  have:((v1+1)*4294967296*4294967296)*P=((v1+1)*4294967296)*P*4294967296:=by grind
  omega
 have:=Int.lt_of_mul_lt_mul_right e3 (by omega)
 omega
theorem Est.next (h:Est U V v1 v2 u2 top P) (hq:U / V<=q) (he:q*v1+r=top) (ht:4294967296<=q∨r*4294967296+u2<q*v2):U / V<=q - 1:=by
 rcases ht with ht | ht
 . have:=h.qB;omega
 . have:=est_test h.p h.vl h.uh h.v0 h.u0 he ht
   omega
theorem Est.done (h:Est U V v1 v2 u2 top P) (hq:U / V<=q) (he:q*v1+r=top) (hB:q<4294967296) (ht:q*v2<=r*4294967296+u2):q - 1<=U / V:=by
 have h1:=h.p;have h2:=h.v1l;have h3:=h.v2l
 refine est_le h.p h.vh ?_ h.ul (by have:=h.q0;omega) (by omega) he ht
 refine Int.le_trans ?_ h.vl
 exact Int.mul_le_mul_of_nonneg_right (by omega) (by omega)
theorem Est.brk (h:Est U V v1 v2 u2 top P) (hq:0<=q) (he:q*v1+r=top) (hr:4294967296<=r):q<4294967296/\q*v2<=r*4294967296+u2:=by
 have h1:=h.top_lt;have h2:=h.v2h;have h3:=h.v2l;have h4:=h.v1l;have h5:=h.u2l
 have hq1:q<4294967296:=by
  have e:q*v1<4294967296*v1:=by omega
  exact Int.lt_of_mul_lt_mul_right e (by omega)
 refine⟨hq1,?_⟩
 have:q*v2<=4294967295*4294967295:=Int.mul_le_mul (by omega) (by omega) h3 (by omega)
 omega
open Go Go.VM in
theorem sub_words {x z c b:Int} (x0:0<=x) (x1:x<4294967296) (z0:0<=z) (c0:0<=c) (zc:z+c<18446744069414584321) (b0:0<=b) (b1:b<=1):
 shrI IntKind.u64 (IntKind.wrap IntKind.u64 (IntKind.wrap IntKind.u64 (IntKind.wrap IntKind.u64 x - IntKind.wrap IntKind.u64 (IntKind.wrap IntKind.u32 (IntKind.wrap IntKind.u64 (IntKind.wrap IntKind.u64 z+c)))) - b)) 63=(if x<(z+c) % 4294967296+b then 1 else 0) /\
 shrI IntKind.u64 (IntKind.wrap IntKind.u64 (IntKind.wrap IntKind.u64 z+c)) 32=(z+c) / 4294967296 /\
 IntKind.wrap IntKind.u32 (IntKind.wrap IntKind.u64 (IntKind.wrap IntKind.u64 (IntKind.wrap IntKind.u64 x - IntKind.wrap IntKind.u64 (IntKind.wrap IntKind.u32 (IntKind.wrap IntKind.u64 (IntKind.wrap IntKind.u64 z+c)))) - b))=(x - (z+c) % 4294967296 - b) % 4294967296:=by
 have e1:IntKind.wrap IntKind.u64 z=z:=wu64 z0 (by omega)
 have e2:IntKind.wrap IntKind.u64 (z+c)=z+c:=wu64 (by omega) (by omega)
 have e3:IntKind.wrap IntKind.u64 x=x:=wu64 x0 (by omega)
 rw[e1,e2,e3,q2w,wu32m]
 generalize z+c=p at *
 have p0:0<=p % 4294967296:=by omega
 have p1:p % 4294967296<4294967296:=by omega
 generalize p % 4294967296=r at *
 have e4:IntKind.wrap IntKind.u64 r=r:=wu64 p0 (by omega)
 rw[e4,wu64m (x - r),wu64m,q7P,wu32m]
 refine⟨?_,rfl,?_⟩
 . split<;>omega
 . omega
structure SubInv (u1 v:List Int) (q:Int) (k i:Nat) (ul:List Int) (borrow carry:Int):Prop where
 len:ul.length=u1.length
 dig:Dig ul
 zero:q06 ul (k+v.length+1)
 b0:0<=borrow
 b1:borrow<=1
 c0:0<=carry
 c1:carry<4294967296
 val:nv ul=nv u1 - 4294967296 ^ k*(q*nv (v.take i))+4294967296 ^ (k+i)*(carry+borrow)
theorem q6k {q d carry:Int} (hq:0<=q) (hq':q<4294967296) (hd:0<=d) (hd':d<4294967296) (hc:0<=carry) (hc':carry<4294967296):0<=q*d/\q*d+carry<18446744069414584321:=by
 refine⟨Int.mul_nonneg hq hd,?_⟩
 have:q*d<=4294967295*4294967295:=Int.mul_le_mul (by omega) (by omega) hd (by omega)
 omega
theorem SubInv.step {u1 v ul:List Int} {q borrow carry:Int} {k i:Nat} (h:SubInv u1 v q k i ul borrow carry) (hv:Dig v) (hi:i<v.length) (hk:k+v.length<u1.length) (hq:0<=q) (hq':q<4294967296):
 SubInv u1 v q k (i+1) (ul.set (k+i) ((ul.getD (k+i) 0 - (q*v.getD i 0+carry) % 4294967296 - borrow) % 4294967296))
  (if ul.getD (k+i) 0<(q*v.getD i 0+carry) % 4294967296+borrow then 1 else 0) ((q*v.getD i 0+carry) / 4294967296):=by
 have g:=h.dig.get (k+i)
 have gv:=hv.get i
 have hb:=q6k hq hq' gv.1 gv.2 h.c0 h.c1
 have hb0:=h.b0;have hb1:=h.b1;have hc0:=h.c0;have hc1:=h.c1
 have hval:=h.val
 have hset:=q0v ul (k+i) ((ul.getD (k+i) 0 - (q*v.getD i 0+carry) % 4294967296 - borrow) % 4294967296) (by rw[h.len];omega)
 have htk:=q2k v i hi
 refine⟨by rw[List.length_set];exact h.len,h.dig.set _ (by omega) (by omega),h.zero.set (by omega),?_,?_,?_,?_,?_⟩
 . split<;>omega
 . split<;>omega
 . omega
 . omega
 . rw[hset,hval,htk]
   have e1:(ul.getD (k+i) 0 - (q*v.getD i 0+carry) % 4294967296 - borrow) % 4294967296=ul.getD (k+i) 0 - (q*v.getD i 0+carry) % 4294967296 - borrow+4294967296*(if ul.getD (k+i) 0<(q*v.getD i 0+carry) % 4294967296+borrow then 1 else 0):=by split<;>omega
   have e2:=Int.mul_ediv_add_emod (q*v.getD i 0+carry) 4294967296
   rw[e1]
   generalize (if ul.getD (k+i) 0<(q*v.getD i 0+carry) % 4294967296+borrow then (1:Int) else 0)=b at *
   generalize (q*v.getD i 0+carry) / 4294967296=c at *
   generalize (q*v.getD i 0+carry) % 4294967296=p at *
   generalize ul.getD (k+i) 0=x at *
   generalize v.getD i 0=d at *
   have e3:p=q*d+carry - 4294967296*c:=by omega
   rw[e3,show k+(i+1)=k+i+1 by omega,Int.pow_succ,Int.pow_add]
   clear e1 e2 e3 hset hval htk
   generalize (4294967296:Int) ^ k=K
   generalize (4294967296:Int) ^ i=I
   grind
structure SubEnd (u1 v:List Int) (q:Int) (k:Nat) (ul:List Int) (t:Int):Prop where
 len:ul.length=u1.length
 dig:Dig ul
 zero:q06 ul (k+v.length+1)
 t01:t=0∨t=1
 val:nv ul=nv u1 - 4294967296 ^ k*(q*nv v)+4294967296 ^ (k+v.length+1)*t
theorem SubInv.fin {u1 v ul:List Int} {q borrow carry:Int} {k:Nat} (h:SubInv u1 v q k v.length ul borrow carry) (hk:k+v.length<u1.length):
 SubEnd u1 v q k (ul.set (k+v.length) ((ul.getD (k+v.length) 0 - carry - borrow) % 4294967296)) (if ul.getD (k+v.length) 0<carry+borrow then 1 else 0):=by
 have g:=h.dig.get (k+v.length)
 have hb0:=h.b0;have hb1:=h.b1;have hc0:=h.c0;have hc1:=h.c1
 have hval:=h.val
 have hset:=q0v ul (k+v.length) ((ul.getD (k+v.length) 0 - carry - borrow) % 4294967296) (by rw[h.len];omega)
 refine⟨by rw[List.length_set];exact h.len,h.dig.set _ (by omega) (by omega),h.zero.set (by omega),by split<;>simp,?_⟩
 rw[hset,hval,List.take_length]
 have e1:(ul.getD (k+v.length) 0 - carry - borrow) % 4294967296=ul.getD (k+v.length) 0 - carry - borrow+4294967296*(if ul.getD (k+v.length) 0<carry+borrow then 1 else 0):=by split<;>omega
 rw[e1,Int.pow_succ]
 generalize (if ul.getD (k+v.length) 0<carry+borrow then (1:Int) else 0)=b at *
 generalize ul.getD (k+v.length) 0=x at *
 generalize (4294967296:Int) ^ (k+v.length)=K
 clear hset hval e1
 grind
structure AddInv (u1 v:List Int) (k i:Nat) (ul:List Int) (c:Int):Prop where
 len:ul.length=u1.length
 dig:Dig ul
 zero:q06 ul (k+v.length+1)
 c0:0<=c
 c1:c<=1
 val:nv ul=nv u1+4294967296 ^ k*nv (v.take i) - 4294967296 ^ (k+i)*c
theorem AddInv.step {u1 v ul:List Int} {c:Int} {k i:Nat} (h:AddInv u1 v k i ul c) (hv:Dig v) (hi:i<v.length) (hk:k+v.length<u1.length):
 AddInv u1 v k (i+1) (ul.set (k+i) ((ul.getD (k+i) 0+v.getD i 0+c) % 4294967296)) ((ul.getD (k+i) 0+v.getD i 0+c) / 4294967296):=by
 have g:=h.dig.get (k+i)
 have gv:=hv.get i
 have hc0:=h.c0;have hc1:=h.c1
 have hval:=h.val
 have hset:=q0v ul (k+i) ((ul.getD (k+i) 0+v.getD i 0+c) % 4294967296) (by rw[h.len];omega)
 have htk:=q2k v i hi
 refine⟨by rw[List.length_set];exact h.len,h.dig.set _ (by omega) (by omega),h.zero.set (by omega),by omega,by omega,?_⟩
 rw[hset,hval,htk]
 have e2:=Int.mul_ediv_add_emod (ul.getD (k+i) 0+v.getD i 0+c) 4294967296
 generalize (ul.getD (k+i) 0+v.getD i 0+c) / 4294967296=y at *
 generalize (ul.getD (k+i) 0+v.getD i 0+c) % 4294967296=p at *
 generalize ul.getD (k+i) 0=x at *
 generalize v.getD i 0=d at *
 have e3:p=x+d+c - 4294967296*y:=by omega
 rw[e3,show k+(i+1)=k+i+1 by omega,Int.pow_succ,Int.pow_add]
 clear e2 e3 hset hval htk
 generalize (4294967296:Int) ^ k=K
 generalize (4294967296:Int) ^ i=I
 grind
structure Left (u1 v:List Int) (k:Nat) (ul:List Int):Prop where
 len:ul.length=u1.length
 dig:Dig ul
 val:nv ul=nv u1 - 4294967296 ^ k*(nv (u1.drop k) / nv v*nv v)
theorem left_lt {u1 v ul:List Int} {k:Nat} (h:Left u1 v k ul) (hd:Dig u1) (hv:0<nv v):nv ul<nv v*4294967296 ^ k:=by
 rw[h.val,q0F u1 k]
 have h1:=take_lt hd k
 have h2:=Int.emod_lt_of_pos (nv (u1.drop k)) hv
 have h3:=Int.mul_ediv_add_emod (nv (u1.drop k)) (nv v)
 rw[Int.mul_comm (nv v)] at h3
 generalize nv (u1.drop k) / nv v*nv v=a at *
 generalize nv (u1.drop k) % nv v=b at *
 have h4:4294967296 ^ k*(b+1)<=4294967296 ^ k*nv v:=Int.mul_le_mul_of_nonneg_left (by omega) (by omega)
 rw[Int.mul_comm (nv v)]
 have e:4294967296 ^ k*nv (u1.drop k)=4294967296 ^ k*a+4294967296 ^ k*b:=by rw[<-h3,Int.mul_add]
 rw[Int.mul_add,Int.mul_one] at h4
 omega
theorem SubEnd.right {u1 v ul:List Int} {q t:Int} {k:Nat} (h:SubEnd u1 v q k ul t) (hd:Dig u1) (hz:q06 u1 (k+v.length+1)) (hV:0<nv v) (hVv:Dig v) (h1:nv (u1.drop k) / nv v<=q) (h2:q - 1<=nv (u1.drop k) / nv v):
 (t=0->q=nv (u1.drop k) / nv v)/\(t=1->q=nv (u1.drop k) / nv v+1):=by
 have hb:=q1a h.dig h.zero
 have hn:=nv_nonneg h.dig
 have hval:=h.val
 have t1:=take_lt hd k
 have m0:=Int.emod_nonneg (nv (u1.drop k)) (show nv v≠0 by omega)
 have m1:=Int.emod_lt_of_pos (nv (u1.drop k)) hV
 have m2:=Int.mul_ediv_add_emod (nv (u1.drop k)) (nv v)
 have sp:=q0F u1 k
 rcases (show q=nv (u1.drop k) / nv v∨q=nv (u1.drop k) / nv v+1 by omega) with e | e
 . refine⟨fun _=>e,fun ht=>?_⟩
   exfalso
   subst ht
   have e2:4294967296 ^ k*(q*nv v)<=nv u1:=by
    rw[e,sp,Int.mul_comm _ (nv v)]
    have:4294967296 ^ k*(nv v*(nv (u1.drop k) / nv v))<=4294967296 ^ k*nv (u1.drop k):=Int.mul_le_mul_of_nonneg_left (by omega) (by omega)
    omega
   omega
 . refine⟨fun ht=>?_,fun _=>e⟩
   exfalso
   subst ht
   have e2:nv u1<4294967296 ^ k*(q*nv v):=by
    rw[e,sp,Int.mul_comm _ (nv v),Int.mul_add,Int.mul_one]
    have:4294967296 ^ k*(nv (u1.drop k)+1)<=4294967296 ^ k*(nv v*(nv (u1.drop k) / nv v)+nv v):=Int.mul_le_mul_of_nonneg_left (by omega) (by omega)
    rw[Int.mul_add,Int.mul_one] at this
    omega
   omega
theorem SubEnd.left {u1 v ul:List Int} {q t:Int} {k:Nat} (h:SubEnd u1 v q k ul t) (ht:t=0) (hq:q=nv (u1.drop k) / nv v):Left u1 v k ul:=
 ⟨h.len,h.dig,by rw[h.val,ht,hq];simp⟩
theorem AddInv.left {u1 v u2 ul:List Int} {q t c:Int} {k:Nat} (h:SubEnd u1 v q k u2 t) (ht:t=1) (hq:q=nv (u1.drop k) / nv v+1) (ha:AddInv u2 v k v.length ul c) (hd:Dig u1) (hz:q06 u1 (k+v.length+1)) (hk:k+v.length<u1.length) (hV:0<nv v):
 Left u1 v k (ul.set (k+v.length) ((ul.getD (k+v.length) 0+c) % 4294967296)):=by
 have g:=ha.dig.get (k+v.length)
 have c0:=ha.c0;have c1:=ha.c1
 have hval:=ha.val
 have hval2:=h.val
 have hset:=q0v ul (k+v.length) ((ul.getD (k+v.length) 0+c) % 4294967296) (by rw[ha.len,h.len];omega)
 have hz':=ha.zero.set (i:=k+v.length) (x:=(ul.getD (k+v.length) 0+c) % 4294967296) (by omega)
 have hd':=ha.dig.set (k+v.length) (x:=(ul.getD (k+v.length) 0+c) % 4294967296) (by omega) (by omega)
 have hb:=q1a hd' hz'
 have hn:=nv_nonneg hd'
 rw[List.take_length] at hval
 have e1:=Int.mul_ediv_add_emod (ul.getD (k+v.length) 0+c) 4294967296
 have e2:(ul.getD (k+v.length) 0+c) / 4294967296=0∨(ul.getD (k+v.length) 0+c) / 4294967296=1:=by omega
 have m0:=Int.emod_nonneg (nv (u1.drop k)) (show nv v≠0 by omega)
 have m2:=Int.mul_ediv_add_emod (nv (u1.drop k)) (nv v)
 have sp:=q0F u1 k
 have t1:=take_lt hd k
 have key:nv (ul.set (k+v.length) ((ul.getD (k+v.length) 0+c) % 4294967296))=nv u1 - 4294967296 ^ k*(nv (u1.drop k) / nv v*nv v)+4294967296 ^ (k+v.length+1)*(1 - (ul.getD (k+v.length) 0+c) / 4294967296):=by
  rw[hset,hval,hval2,ht,hq,Int.pow_succ]
  generalize (ul.getD (k+v.length) 0+c) / 4294967296=y at *
  generalize (ul.getD (k+v.length) 0+c) % 4294967296=p at *
  generalize ul.getD (k+v.length) 0=x at *
  have:p=x+c - 4294967296*y:=by omega
  rw[this]
  generalize (4294967296:Int) ^ (k+v.length)=K
  generalize (4294967296:Int) ^ k=J
  generalize nv (u1.drop k) / nv v=Q
  clear hset hval hval2
  grind
 have low:4294967296 ^ k*(nv (u1.drop k) / nv v*nv v)<=nv u1:=by
  rw[sp,Int.mul_comm _ (nv v)]
  have:4294967296 ^ k*(nv v*(nv (u1.drop k) / nv v))<=4294967296 ^ k*nv (u1.drop k):=Int.mul_le_mul_of_nonneg_left (by omega) (by omega)
  omega
 refine⟨by rw[List.length_set,ha.len,h.len],hd',?_⟩
 rcases e2 with e2 | e2
 . rw[e2] at key;omega
 . rw[e2] at key;rw[key];simp
theorem out_step {u1 v ul ol:List Int} {k:Nat} {N:Int} (h:Left u1 v k ul) (ho:N=nv ol*nv v+nv u1) (hz:ol.getD k 0=0) (hk:k<ol.length):
 N=nv (ol.set k (nv (u1.drop k) / nv v))*nv v+nv ul:=by
 rw[q0v ol k _ hk,hz,h.val,ho]
 generalize nv (u1.drop k) / nv v=Q
 generalize (4294967296:Int) ^ k=K
 grind
theorem qaI {ul:List Int} (hd:Dig ul) {n i:Nat} (hn:n<32) (R:Int) (hR:nv ul=R*2 ^ n):
 ((ul.getD i 0+4294967296*ul.getD (i+1) 0) / 2 ^ n) % 4294967296=R / 4294967296 ^ i % 4294967296:=by
 have hp:(0:Int)<2 ^ n:=Int.pow_pos (by decide)
 have e1:R / 4294967296 ^ i=nv (ul.drop i) / 2 ^ n:=by
  have h1:R=nv ul / 2 ^ n:=by rw[hR,Int.mul_ediv_cancel _ (by omega)]
  rw[h1,Int.ediv_ediv_of_nonneg (by omega),Int.mul_comm,<-Int.ediv_ediv_of_nonneg (by have:=pow_pos32 i;omega),q0F ul i]
  have t:=take_lt hd i
  rw[Int.add_mul_ediv_left _ _ (by have:=pow_pos32 i;omega),Int.ediv_eq_zero_of_lt t.1 t.2,Int.zero_add]
 rw[e1,q17 ul i,q17 ul (i+1)]
 have e:(4294967296:Int)=2 ^ (32 - n)*2 ^ n:=by rw[<-Int.pow_add,show 32 - n+n=32 by omega];rfl
 have e2:ul.getD i 0+4294967296*(ul.getD (i+1) 0+4294967296*nv (ul.drop (i+1+1)))=(ul.getD i 0+4294967296*ul.getD (i+1) 0)+(4294967296*(2 ^ (32 - n)*nv (ul.drop (i+1+1))))*2 ^ n:=by
  generalize nv (ul.drop (i+1+1))=z
  generalize ul.getD i 0=a
  generalize ul.getD (i+1) 0=b
  have:4294967296*(2 ^ (32 - n)*z)*2 ^ n=4294967296*((2 ^ (32 - n)*2 ^ n)*z):=by grind
  rw[this,<-e];grind
 rw[e2,Int.add_mul_ediv_right _ _ (by omega),Int.add_mul_emod_self_left]
theorem emod_mul' (R:Int) {a b:Int} (ha:0<a) (hb:0<b):R % (a*b)=R % a+a*(R / a % b):=by
 have h1:=Int.mul_ediv_add_emod R a
 have h2:=Int.mul_ediv_add_emod (R / a) b
 have a0:=Int.emod_nonneg R (show a≠0 by omega)
 have a1:=Int.emod_lt_of_pos R ha
 have b0:=Int.emod_nonneg (R / a) (show b≠0 by omega)
 have b1:=Int.emod_lt_of_pos (R / a) hb
 generalize R % a=x at *
 generalize R / a % b=y at *
 generalize R / a / b=z at *
 have e:R=x+a*y+(a*b)*z:=by rw[<-h1,<-h2];grind
 have h3:a*(y+1)<=a*b:=Int.mul_le_mul_of_nonneg_left (by omega) (by omega)
 have h4:0<=a*y:=Int.mul_nonneg (by omega) b0
 rw[Int.mul_add,Int.mul_one] at h3
 rw[e,Int.add_mul_emod_self_left,Int.emod_eq_of_lt (by omega) (by omega)]
theorem rest_step {rl:List Int} {R d:Int} {i:Nat} (hi:i<rl.length) (hz:rl.getD i 0=0) (hv:nv rl=R % 4294967296 ^ i) (hd:d=R / 4294967296 ^ i % 4294967296):
 nv (rl.set i d)=R % 4294967296 ^ (i+1):=by
 rw[q0v rl i d hi,hz,hv,hd,Int.pow_succ,emod_mul' R (pow_pos32 i) (by decide),Int.sub_zero]
end Go.Proofs.Pf
namespace Go.Proofs.Pf
open Go Go.VM
def bl (s:ByteArray):List UInt8:=s.data.toList
theorem bl_inj {s t:ByteArray} (h:bl s=bl t):s=t:=by
 cases s;cases t
 simp only[bl] at h
 congr 1
 exact Array.ext' h
theorem bl_mk (l:List UInt8):bl ⟨l.toArray⟩=l:=by simp[bl]
theorem bl_strOf (l:List Int):bl (strOf (some l))=l.map fun n=>UInt8.ofNat n.toNat:=by simp[bl,strOf]
def isDig (c:UInt8):Bool:=decide (48<=c.toNat/\c.toNat<=57)
abbrev pre (l:List UInt8):List UInt8:=l.takeWhile isDig
abbrev post (l:List UInt8):List UInt8:=l.dropWhile isDig
def low (s:List UInt8):List UInt8:=
 match s.dropWhile (· != 47) with
 | []=>[49]
 | _ :: t=>t
def top (s:List UInt8):List UInt8:=s.takeWhile (· != 47)
end Go.Proofs.Pf
