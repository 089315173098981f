/- Typed pure data, a condition on code that says what a call gives, what the code of each function comes to, and what each function gives. -/
import Derived.Laws.CopyRow
import Derived.Laws.AppendOwn
import Derived.Laws.MakeOwn
import Derived.Test.YtfifpjkegdkdpaaGreatA2
set_option linter.unusedVariables false
set_option linter.unusedSimpArgs false
set_option linter.unnecessarySimpa false
namespace Go.VM
open Go Go.RowKit
def isPool:Blk->Bool
 | .pool _ _ _=>true
 | _=>false
def q2h:Option Blk->Bool
 | some k=>isPool k
 | none=>false
structure PoolsOk (ι:Nat->Option Ref) (hp:Nat->Option Blk) (used:Nat->Bool):Prop where
 noH:∀ b,isH b=true->hp b=none
 uH:∀ b,isH b=true->used b=true
 self:∀ b p t ls,hp b=some (.pool p t ls)->p=b
 apart:∀ b c k k' r r',b≠c->prow hp b=some k->(prow hp c=some k'∨hp c=some k')->ι b=some r->ι c=some r'->r'.nil=false->r.blk≠r'.blk
 free:∀ p n,p<hbase->used p=false->ι (hnm p n)=none
theorem isH_hn (p n:Nat):isH (hnm p n)=true:=by
 unfold isH hnm
 rw[Nat.ble_eq]
 have:hbase*1<=hbase*(n+1):=Nat.mul_le_mul_left _ (by omega)
 omega
theorem q0Q {p n:Nat} (h:p<hbase):hnm p n % hbase=p:=by
 unfold hnm
 rw[Nat.mul_add_mod,Nat.mod_eq_of_lt h]
theorem q5w {p n:Nat} (h:p<hbase):hnm p n / hbase - 1=n:=by
 unfold hnm
 rw[Nat.mul_add_div (by decide),Nat.div_eq_of_lt h];omega
theorem hnm_inj {p q n m:Nat} (hp:p<hbase) (hq:q<hbase) (h:hnm p n=hnm q m):p=q/\n=m:=by
 refine⟨?_,?_⟩
 . rw[<-q0Q (n:=n) hp,h,q0Q hq]
 . rw[<-q5w (n:=n) hp,h,q5w hq]
theorem q08 {hp:Nat->Option Blk} {p n:Nat} (h:p<hbase):prow hp (hnm p n)=rowB (hp p) n:=by
 unfold prow
 rw[isH_hn,q0Q h,q5w h];rfl
theorem rowB_some {k:Option Blk} {n:Nat} {v:Blk} (h:rowB k n=some v):∃ p t ls l,k=some (.pool p t ls)/\ls[n]?=some l/\v=.arr t (some l):=by
 unfold rowB at h
 split at h<;>try (simp at h;done)
 split at h<;>try (simp at h;done)
 rename_i l hl
 simp only[Option.some.injEq] at h
 exact⟨_,_,_,l,rfl,hl,h.symm⟩
theorem isH_name {b:Nat} (h:isH b=true):b=hnm (b % hbase) (b / hbase - 1)/\b % hbase<hbase:=by
 unfold isH at h
 rw[Nat.ble_eq] at h
 refine⟨?_,Nat.mod_lt _ (by decide)⟩
 have h1:1<=b / hbase:=(Nat.le_div_iff_mul_le (by decide)).2 (by omega)
 unfold hnm
 rw[show b / hbase - 1+1=b / hbase by omega]
 exact (Nat.div_add_mod b hbase).symm
theorem q0a {hp:Nat->Option Blk} {b:Nat} {v:Blk} (h:prow hp b=some v):∃ p n q t ls l,p<hbase/\b=hnm p n/\hp p=some (.pool q t ls)/\ls[n]?=some l/\v=.arr t (some l):=by
 unfold prow at h
 cases e:isH b<;>rw[e] at h
 . simp at h
 obtain⟨e1,e2⟩:=isH_name e
 obtain⟨q,t,ls,l,h1,h2,h3⟩:=rowB_some h
 exact⟨_,_,q,t,ls,l,e2,e1,h1,h2,h3⟩
theorem qaF {hp hp':Nat->Option Blk} (h:∀ b,hp' b≠hp b->q2h (hp' b)=false/\q2h (hp b)=false):prow hp'=prow hp:=by
 funext b
 unfold prow
 cases isH b
 . rfl
 simp only[cond_true]
 by_cases e:hp' (b % hbase)=hp (b % hbase)
 . rw[e]
 . obtain⟨h1,h2⟩:=h _ e
   have q:∀ k:Option Blk,q2h k=false->∀ n,rowB k n=none:=by
    intro k hk n
    match k with
    | none=>rfl
    | some (.box _ _)=>rfl
    | some (.arr _ _)=>rfl
    | some (.pool _ _ _)=>cases hk
   rw[q _ h1,q _ h2]
theorem q7v {hp:Nat->Option Blk} {b:Nat} {v:Option Blk} (h:q2h (hp b)=false) (hv:q2h v=false):prow (upd hp b v)=prow hp:=by
 refine qaF fun c hc=>?_
 by_cases e:c=b
 . subst e;simp only[upd,Nat.beq_refl,cond_true];exact⟨hv,h⟩
 . have:Nat.beq c b=false:=by cases e':Nat.beq c b;rfl;rw[Nat.beq_eq] at e';exact absurd e' e
   simp[upd,this] at hc
structure Sim (base:Mine) (w0:World) (F0 F:Nat->Prop) (ι:Nat->Option Ref) (st:St) (a:Act) (w:World):Prop where
 env:∀ s v,st.env s=some v->vrep w F ι v.t v.x (a.tmps.getD s undef)
 heap:q0f w base F ι st.heap
 used:∀ b r,ι b=some r->st.used b=true
 apart:∀ b c k k' r r',b≠c->st.heap b=some k->st.heap c=some k'->ι b=some r->ι c=some r'->r.nil=false->r'.nil=false->r.blk≠r'.blk
 fsize:∀ b,F b->b<w.heap.size
 fin:∀ b,F b->F0 b∨base.own b
 below:Keep base w0 w
 size:base.n<=w.heap.size
 upin:∀ n,pinned n=true->st.used n=true
 pools:PoolsOk ι st.heap st.used
 pin:∀ n r r',pinned n=true->base.pin n=some r'->ι n=some r->r=r'
 defers:a.defers=[]
section
variable {P:Program} {base:Mine} {w0 w:World} {F0 F:Nat->Prop} {ι:Nat->Option Ref} {st:St} {a:Act}
theorem constV_ok {v:Value} {u:V} (h:constV v=some u):vrep w F ι u.t u.x v:=by
 unfold constV at h
 split at h<;>simp only[Option.some.injEq,reduceCtorEq] at h<;>subst h
 . exact q03.2 rfl
 . exact q0l.2 rfl
 . exact q0s.2 rfl
 all_goals exact q0r.2 rfl
theorem Sim.val (h:Sim base w0 F0 F ι st a w) {x:Operand} {v:V} (hx:st.val x=some v):vrep w F ι v.t v.x (a.eval x):=by
 cases x with
 | tmp t=>exact h.env t v hx
 | const c=>exact constV_ok hx
 | func f=>simp only[St.val,Option.some.injEq] at hx;subst hx;exact q0r.2 rfl
 | global g=>simp[St.val] at hx
def St.put (st:St) (d:Nat) (v:Option V):St:={ st with env:=upd st.env d v }
theorem upd_same {α:Type} (f:Nat->α) (n:Nat) (v:α):upd f n v n=v:=by simp[upd]
theorem upd_other {α:Type} (f:Nat->α) (n m:Nat) (v:α) (h:m≠n):upd f n v m=f m:=by
 have:Nat.beq m n=false:=by cases e:Nat.beq m n;rfl;rw[Nat.beq_eq] at e;exact absurd e h
 simp[upd,this]
theorem upd_some {α:Type} {f:Nat->Option α} {n m:Nat} {v:Option α} {x:α} (h:upd f n v m=some x):(m=n/\v=some x)∨(m≠n/\f m=some x):=by
 by_cases e:m=n
 . subst e;rw[upd_same] at h;exact .inl ⟨rfl,h⟩
 . rw[upd_other _ _ _ _ e] at h;exact .inr ⟨e,h⟩
theorem q73 (l:Array Value) (d s:Nat) (v u:Value) (hd:d<l.size):(l.setIfInBounds d v).getD s u=if s=d then v else l.getD s u:=by
 simp only[Array.getD_eq_getD_getElem?,Array.getElem?_setIfInBounds]
 by_cases h:d=s
 . subst h;simp[hd]
 . rw[if_neg h,if_neg (fun e=>h e.symm)]
theorem Sim.put (h:Sim base w0 F0 F ι st a w) {d:Nat} {v:V} {val:Value} (hd:d<a.tmps.size) (hv:vrep w F ι v.t v.x val):
 Sim base w0 F0 F ι (st.put d (some v)) (a.put (some d) val) w:=by
 refine { h with env:=?_,defers:=h.defers }
 intro s u hu
 show vrep w F ι u.t u.x ((a.tmps.setIfInBounds d val).getD s undef)
 rw[q73 _ _ _ _ _ hd]
 rcases upd_some hu with ⟨rfl,e⟩ | ⟨hs,e⟩
 . cases e;rw[if_pos rfl];exact hv
 . rw[if_neg hs];exact h.env _ _ e
theorem Sim.drop (h:Sim base w0 F0 F ι st a w) {d:Nat} {val:Value} (hd:d<a.tmps.size):
 Sim base w0 F0 F ι (st.put d none) (a.put (some d) val) w:=by
 refine { h with env:=?_,defers:=h.defers }
 intro s u hu
 show vrep w F ι u.t u.x ((a.tmps.setIfInBounds d val).getD s undef)
 rw[q73 _ _ _ _ _ hd]
 rcases upd_some hu with ⟨rfl,e⟩ | ⟨hs,e⟩
 . cases e
 . rw[if_neg hs];exact h.env _ _ e
theorem pin_ne (h:Sim base w0 F0 F ι st a w) {n d:Nat} (hn:pinned n=true) (hd:st.used d=false):n≠d:=by
 rintro rfl;rw[h.upin n hn] at hd;simp at hd
theorem q1e {w':World} {ι':Nat->Option Ref} {r:Ref} {k:Blk} (hι:∀ b r,ι b=some r->ι' b=some r) (hH:∀ b,isH b=true->ι b=none->ι' b=none) (hrow:∀ p t ls n l s,k=.pool p t ls->ls[n]?=some l->ι (hnm p n)=some s->w'.heap[s.blk]?=w.heap[s.blk]?) (hF:∀ b,F b->w'.heap[b]?=w.heap[b]?)
 (hb:r.nil=false->w'.heap[r.blk]?=w.heap[r.blk]?) (h:brep w base F ι r k):brep w' base F ι' r k:=by
 cases k with
 | box t x=>
  obtain⟨q1,q2,q3,q4,q5,cells,el,qb,q6,q7⟩:=h
  exact⟨q1,q2,q3,q4,q5,cells,el,qb,(hb q1).trans q6,rep_mono (fun _ h=>h) hι hF _ _ _ q7⟩
 | arr t l=>
  obtain⟨q0,q⟩:=h
  refine⟨q0,?_⟩
  cases l with
  | none=>exact q
  | some l=>
   obtain⟨q1,q2,q3,q4,q5,q6,cells,el,qe,q7,q8,q9⟩:=q
   exact⟨q1,q2,q3,q4,q5,q6,cells,el,qe,(hb q1).trans q7,q8,fun i y hy=>rep_mono (fun _ h=>h) hι hF _ _ _ (q9 i y hy)⟩
 | pool p t ls=>
  obtain⟨q1,q2,q3,q4,q5⟩:=h
  refine⟨q1,q2,q3,fun n hn'=>hH _ (isH_hn _ _) (q4 n hn'),fun n l hl=>?_⟩
  obtain⟨s,hs,a1,a2,a3,a4,a5,a6,cells,el,ae,a7,a8,a9⟩:=q5 n l hl
  exact⟨s,hι _ _ hs,a1,a2,a3,a4,a5,a6,cells,el,ae,(hrow p t ls n l s rfl hl hs).trans a7,a8,fun i y hy=>rep_mono (fun _ h=>h) hι hF _ _ _ (a9 i y hy)⟩
theorem brep_lt {r:Ref} {k:Blk} (h:brep w base F ι r k) (hn:r.nil=false):r.blk<w.heap.size:=by
 cases k with
 | box t x=>obtain⟨_,_,_,_,_,_,_,_,q,_⟩:=h;exact heap_lt q
 | arr t l=>
  obtain⟨_,q⟩:=h
  cases l with
  | none=>simp only at q;rw[q] at hn;simp at hn
  | some l=>obtain⟨_,_,_,_,_,_,_,_,_,q,_⟩:=q;exact heap_lt q
 | pool p t ls=>rw[h.1] at hn;cases hn
theorem Sim.change (h:Sim base w0 F0 F ι st a w) {w':World} {g:Option Nat} {ι':Nat->Option Ref} {heap':Nat->Option Blk} {used':Nat->Bool} {b0:Nat} {k0:Blk} {r0:Ref}
 (hblk:∀ k,k<w.heap.size->some k≠g->w'.heap[k]?=w.heap[k]?) (hos:w'.os=w.os) (htape:w'.tape=w.tape) (hout:w'.output=w.output) (hsz:w.heap.size<=w'.heap.size)
 (hg:∀ k,g=some k->base.own k/\¬ F k) (hpin:∀ n,pinned n=true->ι' n=ι n) (hupin:∀ n,pinned n=true->used' n=true) (hι:∀ b r,ι b=some r->ι' b=some r) (hused:∀ b r,ι' b=some r->used' b=true)
 (hr0:ι' b0=some r0) (hk0:brep w' base F ι' r0 k0) (h0:heap' b0=some k0)
 (hheap:∀ b k,b≠b0->heap' b=some k->st.heap b=some k/\∀ r,ι b=some r->r.nil=false->some r.blk≠g/\(r0.nil=false->r.blk≠r0.blk))
 (hpools:PoolsOk ι' heap' used') (hH:∀ b,isH b=true->ι b=none->ι' b=none) (hrow:∀ p n k r,p<hbase->p≠b0->prow st.heap (hnm p n)=some k->ι (hnm p n)=some r->some r.blk≠g):
 Sim base w0 F0 F ι' { st with heap:=heap',used:=used' } a w':=by
 have hF:∀ b,F b->w'.heap[b]?=w.heap[b]?:=fun b hb=>hblk b (h.fsize b hb) (fun e=>(hg b e.symm).2 hb)
 refine⟨fun s v hv=>vrep_mono (fun _ h=>h) hι hF (h.env s v hv),?_,hused,?_,fun b hb=>Nat.lt_of_lt_of_le (h.fsize b hb) hsz,h.fin,?_,Nat.le_trans h.size hsz,hupin,hpools,fun n r r' hp h1 h2=>h.pin n r r' hp h1 (by rw[<-hpin n hp];exact h2),h.defers⟩
 . show q0f w' base F ι' heap'
   intro b k hb
   by_cases e:b=b0
   . subst e;rw[h0] at hb;cases hb;exact⟨r0,hr0,hk0⟩
   . obtain⟨q1,q2⟩:=hheap b k e hb
     obtain⟨r,hr,hk⟩:=h.heap b k q1
     refine⟨r,hι _ _ hr,q1e hι hH (fun p t ls n l s ek hl hs=>?_) hF (fun hn=>hblk _ (brep_lt hk hn) (q2 r hr hn).1) hk⟩
     subst ek
     obtain⟨_,hp,_,_,hrows⟩:=hk
     obtain⟨s',hs',ha⟩:=hrows n l hl
     rw[hs] at hs';cases hs'
     have e1:=h.pools.self _ _ _ _ q1
     subst e1
     refine hblk _ ?_ (hrow p n (.arr t (some l)) s hp e (by rw[q08 hp,q1];simp only[rowB,hl]) hs)
     obtain⟨_,_,_,_,_,_,_,_,_,hb,_⟩:=ha
     exact heap_lt hb
 . have aux:∀ b k r,b≠b0->heap' b=some k->ι' b=some r->r.nil=false->r0.nil=false->r.blk≠r0.blk:=by
    intro b k r e hb hr hn hn0
    obtain⟨q1,q2⟩:=hheap b k e hb
    obtain⟨r',hr',_⟩:=h.heap b k q1
    have:=hι _ _ hr'
    rw[hr] at this;cases this
    exact (q2 r hr' hn).2 hn0
   intro b c k k' r r' hbc hb hc hr hr' hn hn'
   by_cases eb:b=b0
   . subst eb
     rw[hr0] at hr;cases hr
     exact fun e=>aux c k' r' (Ne.symm hbc) hc hr' hn' hn e.symm
   . by_cases ec:c=b0
     . subst ec
       rw[hr0] at hr';cases hr'
       exact aux b k r eb hb hr hn hn'
     . obtain⟨q1,_⟩:=hheap b k eb hb
       obtain⟨q2,_⟩:=hheap c k' ec hc
       obtain⟨s,hs,_⟩:=h.heap b k q1
       obtain⟨s',hs',_⟩:=h.heap c k' q2
       have e1:=hι _ _ hs;rw[hr] at e1;cases e1
       have e2:=hι _ _ hs';rw[hr'] at e2;cases e2
       exact h.apart b c k k' r r' hbc q1 q2 hs hs' hn hn'
 . refine h.below.trans ⟨hos,htape,hout,hsz,fun k hk hl=>hblk k (Nat.lt_of_lt_of_le hk h.size) (fun e=>?_)⟩
   rcases (hg k e.symm).1 with h1 | h1
   . omega
   . exact hl h1
theorem Sim.row_lt (h:Sim base w0 F0 F ι st a w) {b:Nat} {k:Blk} {r:Ref} (e1:prow st.heap b=some k) (e2:ι b=some r):r.blk<w.heap.size:=by
 obtain⟨p,n,q,t,ls,l,hp,rfl,hb,hl,rfl⟩:=q0a e1
 obtain⟨s,hs,_,_,_,_,hrows⟩:=h.heap p _ hb
 have:=h.pools.self _ _ _ _ hb
 subst this
 obtain⟨s',hs',ha⟩:=hrows n l hl
 rw[e2] at hs';cases hs'
 obtain⟨_,_,_,_,_,_,_,_,_,hb,_⟩:=ha
 exact heap_lt hb
theorem Sim.static (h:Sim base w0 F0 F ι st a w) {b:Nat} {k:Blk} (e:st.heap b=some k):isH b=false:=by
 cases hb:isH b with
 | false=>rfl
 | true=>rw[h.pools.noH b hb] at e;cases e
theorem Sim.row_static (h:Sim base w0 F0 F ι st a w) {b:Nat} {k k':Blk} (e1:prow st.heap b=some k) (e2:st.heap b=some k'):False:=by
 obtain⟨p,n,_,_,_,_,_,rfl,_⟩:=q0a e1
 rw[h.pools.noH _ (isH_hn _ _)] at e2;cases e2
theorem PoolsOk.sub {hp hp':Nat->Option Blk} {used:Nat->Bool} (h:PoolsOk ι hp used) (hs:∀ c k,hp' c=some k->∃ k0,hp c=some k0)
 (hq:∀ c q t ls,hp' c=some (.pool q t ls)->∃ t0 ls0,hp c=some (.pool q t0 ls0)/\ls.length<=ls0.length):PoolsOk ι hp' used:=by
 have hr:∀ c k,prow hp' c=some k->∃ k0,prow hp c=some k0:=by
  intro c k e
  obtain⟨p,n,q,t,ls,l,hp',rfl,hb,hl,rfl⟩:=q0a e
  obtain⟨t0,ls0,e0,hle⟩:=hq _ _ _ _ hb
  rw[q08 hp',e0]
  have hn:n<ls0.length:=by
   rcases Nat.lt_or_ge n ls.length with h1 | h1
   . omega
   . rw[List.getElem?_eq_none h1] at hl;cases hl
  exact⟨_,by simp only[rowB,List.getElem?_eq_getElem hn];rfl⟩
 refine⟨fun c hc=>?_,h.uH,fun c p t ls e=>?_,fun c d k k' r r' hcd hc hd=>?_,h.free⟩
 . cases e:hp' c with
   | none=>rfl
   | some k=>obtain⟨k0,e0⟩:=hs _ _ e;rw[h.noH c hc] at e0;cases e0
 . obtain⟨t0,ls0,e0,_⟩:=hq _ _ _ _ e
   exact h.self _ _ _ _ e0
 . obtain⟨k0,hc0⟩:=hr _ _ hc
   rcases hd with hd | hd
   . obtain⟨k1,hd1⟩:=hr _ _ hd
     exact h.apart c d k0 k1 r r' hcd hc0 (.inl hd1)
   . obtain⟨k1,hd1⟩:=hs _ _ hd
     exact h.apart c d k0 k1 r r' hcd hc0 (.inr hd1)
theorem PoolsOk.kill' {hp:Nat->Option Blk} {used:Nat->Bool} (h:PoolsOk ι hp used) (b:Nat):PoolsOk ι (upd hp b none) used:=by
 have hs:∀ c k,upd hp b none c=some k->hp c=some k:=by
  intro c k e
  rcases upd_some e with ⟨_,e⟩ | ⟨_,e⟩
  . cases e
  . exact e
 exact h.sub (fun c k e=>⟨k,hs _ _ e⟩) fun c q t ls e=>⟨t,ls,hs _ _ e,Nat.le_refl _⟩
theorem q3f {w':World} {F':Nat->Prop} {ι':Nat->Option Ref} {p:Nat} (hι:∀ b r,ι b=some r->ι' b=some r) (hH:∀ n,ι (hnm p n)=none->ι' (hnm p n)=none) {t:Ty} {ls:List (List (den t))} {r:Ref} (h:brep w base F ι r (.pool p t ls)) (hF:∀ b,F b->F' b) (hFb:∀ b,F b->w'.heap[b]?=w.heap[b]?)
 (hs:∀ n l s,ls[n]?=some l->ι (hnm p n)=some s->¬ F s.blk->s.blk<w.heap.size->¬ F' s.blk/\w'.heap[s.blk]?=w.heap[s.blk]?):brep w' base F' ι' r (.pool p t ls):=by
 obtain⟨q1,q2,q3,q4,q5⟩:=h
 refine⟨q1,q2,q3,fun n hn'=>hH n (q4 n hn'),fun n l hl=>?_⟩
 obtain⟨s,hs',a1,a2,a3,a4,a5,a6,cells,el,ae,a7,a8,a9⟩:=q5 n l hl
 obtain⟨b1,b2⟩:=hs n l s hl hs' a6 (heap_lt a7)
 exact⟨s,hι _ _ hs',a1,a2,a3,a4,a5,b1,cells,el,ae,b2.trans a7,a8,fun i y hy=>rep_mono hF hι hFb _ _ _ (a9 i y hy)⟩
theorem Sim.writeRow (h:Sim base w0 F0 F ι st a w) {p n:Nat} {t:Ty} {ls:List (List (den t))} {l l':List (den t)} {r:Ref} {cs:Array Value} (hb:st.heap p=some (.pool p t ls)) (hl:ls[n]?=some l) (hr:ι (hnm p n)=some r)
 (hk:arep (w.setRow r.blk cs) base F ι r t l'):Sim base w0 F0 F ι { st with heap:=upd st.heap p (some (.pool p t (ls.set n l'))) } a (w.setRow r.blk cs):=by
 obtain⟨r0,hr0,q1,q2,q3,q4,q5⟩:=h.heap p _ hb
 have hrow:∀ m,m<ls.length->prow st.heap (hnm p m)=some (.arr t (some ls[m]!)):=by
  intro m hm
  rw[q08 q2,hb]
  simp only[rowB,List.getElem?_eq_getElem hm,getElem!_pos ls m hm]
 have hn':n<ls.length:=by
  rcases Nat.lt_or_ge n ls.length with h1 | h1
  . exact h1
  . rw[List.getElem?_eq_none h1] at hl;cases hl
 have hmine:=hrow n hn'
 have hF:∀ b,F b->(w.setRow r.blk cs).heap[b]?=w.heap[b]?:=fun b hb=>setRow_other w _ b cs fun e=>hk.2.2.2.2.2.1 (by rw[<-e];exact hb)
 refine h.change (w':=w.setRow r.blk cs) (g:=some r.blk) (b0:=p) (k0:=.pool p t (ls.set n l')) (r0:=r0) (used':=st.used) (fun k _ hne=>setRow_other w _ k cs (fun e=>hne (by rw[e]))) rfl rfl rfl (by simp) ?_ (fun _ _=>rfl) h.upin (fun _ _ h=>h) h.used hr0 ?_ (upd_same _ _ _) ?_ ?_ (fun _ _ h=>h) ?_
 . intro k e;cases e;exact⟨hk.2.2.2.2.1,hk.2.2.2.2.2.1⟩
 . refine⟨q1,q2,q3,fun m hm=>q4 m (by simpa using hm),fun m x hx=>?_⟩
   by_cases e:m=n
   . subst e
     rw[List.getElem?_set_self hn'] at hx
     simp only[Option.some.injEq] at hx;subst hx
     exact⟨r,hr,hk⟩
   . rw[List.getElem?_set_ne (fun e'=>e e'.symm)] at hx
     obtain⟨s,hs,a1,a2,a3,a4,a5,a6,cells,el,ae,a7,a8,a9⟩:=q5 m x hx
     have hm:m<ls.length:=by
      rcases Nat.lt_or_ge m ls.length with h1 | h1
      . exact h1
      . rw[List.getElem?_eq_none h1] at hx;cases hx
     have hne:s.blk≠r.blk:=h.pools.apart (hnm p m) (hnm p n) _ _ s r (fun e'=>e (hnm_inj q2 q2 e').2) (hrow m hm) (.inl hmine) hs hr hk.1
     exact⟨s,hs,a1,a2,a3,a4,a5,a6,cells,el,ae,(setRow_other w _ _ cs hne).trans a7,a8,fun i y hy=>rep_mono (fun _ h=>h) (fun _ _ h=>h) hF _ _ _ (a9 i y hy)⟩
 . intro c k'' hne hc
   rw[upd_other _ _ _ _ hne] at hc
   refine⟨hc,fun r' hr' hn'=>⟨fun e=>?_,fun hn0=>by rw[q1] at hn0;cases hn0⟩⟩
   refine h.pools.apart (hnm p n) c _ _ r r' (fun e'=>?_) hmine (.inr hc) hr hr' hn' (Option.some.inj e).symm
   rw[<-e',h.pools.noH _ (isH_hn _ _)] at hc;cases hc
 . refine h.pools.sub (fun c k e=>?_) fun c q t' ls' e=>?_
   . rcases upd_some e with ⟨rfl,e⟩ | ⟨_,e⟩
     . exact⟨_,hb⟩
     . exact⟨_,e⟩
   . rcases upd_some e with ⟨rfl,e⟩ | ⟨_,e⟩
     . cases e;exact⟨t,ls,hb,by simp⟩
     . exact⟨_,_,e,Nat.le_refl _⟩
 . intro p' n' k'' r' hp' hne e1 e2 e
   exact h.pools.apart (hnm p' n') (hnm p n) _ _ r' r (fun e'=>hne (hnm_inj hp' q2 e').1) e1 (.inl hmine) e2 hr hk.1 (Option.some.inj e)
theorem Sim.unused (h:Sim base w0 F0 F ι st a w) {d:Nat} (hd:st.used d=false):ι d=none/\st.heap d=none/\isH d=false:=by
 refine⟨?_,?_,?_⟩
 . cases e:ι d with
   | none=>rfl
   | some r=>have:=h.used d r e;rw[hd] at this;simp at this
 . cases e:st.heap d with
   | none=>rfl
   | some k=>obtain⟨r,hr,_⟩:=h.heap d k e;have:=h.used d r hr;rw[hd] at this;simp at this
 . cases e:isH d with
   | false=>rfl
   | true=>have:=h.pools.uH d e;rw[hd] at this;simp at this
theorem PoolsOk.put {hp:Nat->Option Blk} {used used':Nat->Bool} {ι':Nat->Option Ref} (h:PoolsOk ι hp used) {b:Nat} {k:Blk} {r0:Ref} (hH:isH b=false) (hb:q2h (hp b)=false) (hk:isPool k=false)
 (hι:∀ c,c≠b->ι' c=ι c) (hr0:ι' b=some r0) (hu:∀ c,c≠b->used' c=used c) (hub:used' b=true)
 (ha:∀ c k' r,prow hp c=some k'->ι c=some r->r0.nil=false->r.blk≠r0.blk):PoolsOk ι' (upd hp b (some k)) used':=by
 have hr:=q7v (hp:=hp) (b:=b) (v:=some k) hb hk
 have hne:∀ c,isH c=true->c≠b:=fun c hc e=>by rw[e,hH] at hc;cases hc
 have hrh:∀ c k',prow hp c=some k'->isH c=true:=by
  intro c k' e
  obtain⟨p,n,_,_,_,_,_,rfl,_⟩:=q0a e
  exact isH_hn p n
 refine⟨fun c hc=>?_,fun c hc=>?_,fun c p t ls e=>?_,fun c d k1 k2 r r' hcd hc hd h1 h2 hn=>?_,fun p n hp hup=>?_⟩
 . rw[upd_other _ _ _ _ (hne c hc)];exact h.noH c hc
 . rw[hu c (hne c hc)];exact h.uH c hc
 . rcases upd_some e with ⟨_,e⟩ | ⟨_,e⟩
   . cases e;cases hk
   . exact h.self _ _ _ _ e
 . rw[hr] at hc hd
   rw[hι c (hne c (hrh _ _ hc))] at h1
   by_cases ed:d=b
   . subst ed
     rw[hr0] at h2;cases h2
     exact ha c k1 r hc h1 hn
   . rw[hι d ed] at h2
     refine h.apart c d k1 k2 r r' hcd hc ?_ h1 h2 hn
     rcases hd with hd | hd
     . exact .inl hd
     . rw[upd_other _ _ _ _ ed] at hd;exact .inr hd
 . rw[hι _ (hne _ (isH_hn _ _))]
   by_cases e:p=b
   . subst e;rw[hub] at hup;cases hup
   . rw[hu p e] at hup;exact h.free p n hp hup
theorem Sim.poolsNew (h:Sim base w0 F0 F ι st a w) {d:Nat} {r:Ref} {k:Blk} (hd:st.used d=false) (hk:isPool k=false) (ha:r.nil=false->w.heap.size<=r.blk):
 PoolsOk (upd ι d (some r)) (upd st.heap d (some k)) (upd st.used d true):=by
 refine h.pools.put (h.unused hd).2.2 (by rw[(h.unused hd).2.1];rfl) hk (fun c hc=>upd_other _ _ _ _ hc) (upd_same _ _ _) (fun c hc=>upd_other _ _ _ _ hc) (upd_same _ _ _) fun c k' r' e1 e2 hn0=>?_
 have:=h.row_lt e1 e2
 have:=ha hn0
 omega
theorem Sim.newH (h:Sim base w0 F0 F ι st a w) {d:Nat} {r:Ref} (hd:st.used d=false):∀ b,isH b=true->ι b=none->upd ι d (some r) b=none:=by
 intro b hb hnb
 rw[upd_other _ _ _ _ (fun e=>by rw[e,(h.unused hd).2.2] at hb;cases hb)];exact hnb
theorem q1z (w:World) (o:Obj) (k:Nat) (h:k<w.heap.size):(w.alloc o).heap[k]?=w.heap[k]?:=heap_alloc_old w o k h
def St.new (st:St) (d:Nat) (k:Blk):St:={ st with heap:=upd st.heap d (some k),used:=upd st.used d true }
def St.kill (st:St) (b:Nat):St:={ st with heap:=upd st.heap b none }
theorem Sim.alloc (h:Sim base w0 F0 F ι st a w) {d:Nat} {r:Ref} {k:Blk} {w':World} {o:Obj} (hw':w'=w.alloc o∨w'=w.drew.alloc o) (hd:st.used d=false) (hr:r.nil=false->r.blk=w.heap.size)
 (hk:brep w' base F (upd ι d (some r)) r k) (hnp:isPool k=false:=by rfl):Sim base w0 F0 F (upd ι d (some r)) (st.new d k) a w':=by
 have hnone:ι d=none:=by
  cases e:ι d with
  | none=>rfl
  | some r=>have:=h.used d r e;rw[hd] at this;simp at this
 have hι:∀ b r',ι b=some r'->upd ι d (some r) b=some r':=by
  intro b r' e
  by_cases hb:b=d
  . subst hb;rw[hnone] at e;simp at e
  . rw[upd_other _ _ _ _ hb];exact e
 have hs:w'.os=w.os/\w'.tape=w.tape/\w'.output=w.output/\w'.heap.size=w.heap.size+1/\∀ k,k<w.heap.size->w'.heap[k]?=w.heap[k]?:=by
  rcases hw' with rfl | rfl
  . exact⟨rfl,rfl,rfl,by simp,fun k hk=>q1z w o k hk⟩
  . exact⟨rfl,rfl,rfl,by simp,fun k hk=>q1z w.drew o k hk⟩
 refine h.change (w':=w') (g:=none) (b0:=d) (k0:=k) (r0:=r) (fun k hk _=>hs.2.2.2.2 k hk) hs.1 hs.2.1 hs.2.2.1 (by omega) (by simp) (fun n hn=>upd_other _ _ _ _ (pin_ne h hn hd)) (fun n hn=>by
  show upd st.used d true n=true
  rw[upd_other _ _ _ _ (pin_ne h hn hd)];exact h.upin n hn) hι ?_ (upd_same _ _ _) hk (upd_same _ _ _) ?_ ?_ ?_ (fun _ _ _ _ _ _ _ _=>by simp)
 . intro b r' hb
   rcases upd_some hb with ⟨rfl,_⟩ | ⟨hne,hb⟩
   . exact upd_same _ _ _
   . rw[upd_other _ _ _ _ hne];exact h.used _ _ hb
 rotate_left
 . exact h.poolsNew hd hnp fun hn0=>by rw[hr hn0];omega
 . exact h.newH hd
 . intro b k' hne hb
   rw[upd_other _ _ _ _ hne] at hb
   refine⟨hb,fun r' hr' hn=>⟨by simp,fun hn0=>?_⟩⟩
   obtain⟨r'',hr'',q⟩:=h.heap b k' hb
   rw[hr'] at hr'';cases hr''
   have:=brep_lt q hn
   rw[hr hn0];omega
theorem Sim.write (h:Sim base w0 F0 F ι st a w) {b:Nat} {r:Ref} {k k':Blk} {cs:Array Value} (hb:st.heap b=some k) (hr:ι b=some r) (hn:r.nil=false) (hbase:base.own r.blk) (hF:¬ F r.blk)
 (hk:brep (w.setRow r.blk cs) base F ι r k') (hnp:isPool k=false:=by rfl) (hnp':isPool k'=false:=by rfl):Sim base w0 F0 F ι { st with heap:=upd st.heap b (some k') } a (w.setRow r.blk cs):=by
 refine h.change (w':=w.setRow r.blk cs) (g:=some r.blk) (b0:=b) (k0:=k') (r0:=r) (used':=st.used) (fun k _ hne=>setRow_other w _ k cs (fun e=>hne (by rw[e]))) rfl rfl rfl (by simp) ?_ (fun _ _=>rfl) h.upin (fun _ _ h=>h) h.used hr hk (upd_same _ _ _) ?_ ?_ (fun _ _ h=>h) ?_
 . intro k e;cases e;exact⟨hbase,hF⟩
 . intro c k'' hne hc
   rw[upd_other _ _ _ _ hne] at hc
   refine⟨hc,fun r' hr' hn'=>?_⟩
   have:=h.apart c b k'' k r' r hne hc hb hr' hr hn' hn
   exact⟨fun e=>this (Option.some.inj e),fun _=>this⟩
 . refine h.pools.put (h.static hb) (by rw[hb];exact hnp) hnp' (fun _ _=>rfl) hr (fun _ _=>rfl) (h.used _ _ hr) fun c k'' r' e1 e2 _=>?_
   exact h.pools.apart c b _ _ r' r (fun e=>by rw[e] at e1;exact (h.row_static e1 hb).elim) e1 (.inr hb) e2 hr hn
 . intro p n k'' r' _ _ e1 e2 e
   exact h.pools.apart (hnm p n) b _ _ r' r (fun e=>by rw[e] at e1;exact (h.row_static e1 hb).elim) e1 (.inr hb) e2 hr hn (Option.some.inj e)
theorem Sim.kill (h:Sim base w0 F0 F ι st a w) (b:Nat):Sim base w0 F0 F ι (st.kill b) a w:=by
 refine { h with heap:=?_,apart:=?_,pools:=?_ }
 . intro c k hc
   rcases upd_some hc with ⟨_,hc⟩ | ⟨_,hc⟩
   . simp at hc
   . exact h.heap c k hc
 . intro c e k k' r r' hne hc he
   rcases upd_some hc with ⟨_,hc⟩ | ⟨_,hc⟩
   . simp at hc
   rcases upd_some he with ⟨_,he⟩ | ⟨_,he⟩
   . simp at he
   exact h.apart c e k k' r r' hne hc he
 . exact h.pools.kill' b
theorem Sim.rewrite (h:Sim base w0 F0 F ι st a w) {b d:Nat} {r r':Ref} {k k':Blk} {cs:Array Value} (hb:st.heap b=some k) (hr:ι b=some r) (hn:r.nil=false) (hd:st.used d=false) (hbase:base.own r.blk) (hF:¬ F r.blk)
 (hr':r'.blk=r.blk) (hk:brep (w.setRow r.blk cs) base F (upd ι d (some r')) r' k') (hnp:isPool k=false:=by rfl) (hnp':isPool k'=false:=by rfl):Sim base w0 F0 F (upd ι d (some r')) ((st.kill b).new d k') a (w.setRow r.blk cs):=by
 have hnone:ι d=none:=by
  cases e:ι d with
  | none=>rfl
  | some r=>have:=h.used d r e;rw[hd] at this;simp at this
 have hι:∀ b r'',ι b=some r''->upd ι d (some r') b=some r'':=by
  intro b r'' e
  by_cases hb:b=d
  . subst hb;rw[hnone] at e;simp at e
  . rw[upd_other _ _ _ _ hb];exact e
 refine h.change (w':=w.setRow r.blk cs) (g:=some r.blk) (b0:=d) (k0:=k') (r0:=r') (fun k _ hne=>setRow_other w _ k cs (fun e=>hne (by rw[e]))) rfl rfl rfl (by simp) ?_ (fun n hn=>upd_other _ _ _ _ (pin_ne h hn hd)) (fun n hn=>by
  show upd st.used d true n=true
  rw[upd_other _ _ _ _ (pin_ne h hn hd)];exact h.upin n hn) hι ?_ (upd_same _ _ _) hk (upd_same _ _ _) ?_ ?_ ?_ ?_
 . intro k e;cases e;exact⟨hbase,hF⟩
 . intro c r'' hc
   rcases upd_some hc with ⟨rfl,_⟩ | ⟨hne,hc⟩
   . exact upd_same _ _ _
   . rw[upd_other _ _ _ _ hne];exact h.used _ _ hc
 . intro c k'' hne hc
   rw[upd_other _ _ _ _ hne] at hc
   rcases upd_some hc with ⟨_,hc⟩ | ⟨hcb,hc⟩
   . simp at hc
   refine⟨hc,fun s hs hn'=>?_⟩
   have:=h.apart c b k'' k s r hcb hc hb hs hr hn' hn
   exact⟨fun e=>this (Option.some.inj e),fun _=>by rw[hr'];exact this⟩
 . have hH:=(h.unused hd).2.2
   refine (h.pools.kill' b).put hH (by
    by_cases e:d=b
    . subst e;rw[upd_same];rfl
    . rw[upd_other _ _ _ _ e,(h.unused hd).2.1];rfl) hnp' (fun c hc=>upd_other _ _ _ _ hc) (upd_same _ _ _) (fun c hc=>upd_other _ _ _ _ hc) (upd_same _ _ _) fun c k'' r'' e1 e2 _=>?_
   rw[q7v (by rw[hb];exact hnp) rfl] at e1
   rw[hr']
   exact h.pools.apart c b _ _ r'' r (fun e=>by rw[e] at e1;exact (h.row_static e1 hb).elim) e1 (.inr hb) e2 hr hn
 . intro c hc hnc
   rw[upd_other _ _ _ _ (fun e=>by rw[e,(h.unused hd).2.2] at hc;cases hc)];exact hnc
 . intro p n k'' r'' _ _ e1 e2 e
   exact h.pools.apart (hnm p n) b _ _ r'' r (fun e=>by rw[e] at e1;exact (h.row_static e1 hb).elim) e1 (.inr hb) e2 hr hn (Option.some.inj e)
end
end Go.VM
namespace Go.VM
open Go Go.RowKit
section
variable {P:Program} {base:Mine} {w0 w:World} {F0 F:Nat->Prop} {ι:Nat->Option Ref} {st:St} {a:Act}
theorem valT_or {t:Ty} (h:valT t=true):isAggT t=true∨cellT t=true:=by simpa[valT] using h
def newRef (w:World) (wd len cap:Nat):Ref:=⟨w.heap.size,0,wd,false,len,cap⟩
theorem q6s (h:Sim base w0 F0 F ι st a w) {d:Nat} {t:Ty} {x:den t} {cs:Array Value} {e:TypeId} (hd:st.used d=false) (ht:valT t=true) (hx:rep w F ι t x cs.toList) (hbl:bldT t=true->e=base.u8.2):
 Sim base w0 F0 F (upd ι d (some (newRef w 0 0 0))) (st.new d (.box t x)) a (w.alloc (.cells cs e)) /\
 vrep (w.alloc (.cells cs e)) F (upd ι d (some (newRef w 0 0 0))) (.ref d 0) () (.pointer (some ⟨w.heap.size,0,none⟩)):=by
 have hnone:ι d=none:=by
  cases e:ι d with
  | none=>rfl
  | some r=>have:=h.used d r e;rw[hd] at this;simp at this
 have hι:∀ b r',ι b=some r'->upd ι d (some (newRef w 0 0 0)) b=some r':=by
  intro b r' e
  by_cases hb:b=d
  . subst hb;rw[hnone] at e;simp at e
  . rw[upd_other _ _ _ _ hb];exact e
 constructor
 . refine h.alloc (.inl rfl) hd (fun _=>rfl) ⟨rfl,rfl,.inl h.size,fun hf=>?_,ht,cs,e,hbl,heap_alloc_new _ _,?_⟩
   . have:=h.fsize _ hf;simp only[newRef] at this;omega
   . exact rep_mono (fun _ h=>h) hι (fun b hb=>q1z _ _ _ (h.fsize b hb)) _ _ _ hx
 . exact (vrep_cell rfl).2 ⟨_,upd_same _ _ _,rfl⟩
theorem run_alloc {e:TypeId} {z:V} (h:zeroV P e=some z):∃ cs,(Instr.alloc e true (.tuple #[])).run P w=.ok (.pointer (some ⟨w.heap.size,0,none⟩)) (w.alloc (.cells cs e))/\valT z.t=true/\∀ F ι,rep w F ι z.t z.x cs.toList:=by
 obtain⟨zv,h1,h2,h3⟩:=q6p h w
 exact⟨zv.cells,by simp[Instr.alloc,h1,newVar,newRow],h2,h3⟩
theorem run_box {e:TypeId} {v:Value}:(Instr.box e v).run P w=.ok (.pointer (some ⟨w.heap.size,0,none⟩)) (w.alloc (.cells v.cells e)):=by
 simp[Instr.box,newVar,newRow]
def fillV (P:Program) (fs:Array Go.Field):V->List (Nat×V)->Option V
 | acc,[]=>some acc
 | acc,(i,v) :: r=>match fs[i]? with
  | some fd=>match tinf P fd.type with
   | some (_,n)=>bif Nat.beq n (width v.t) && valT v.t then match put v acc.t acc.x fd.offset with
    | some u=>fillV P fs u r
    | none=>none else none
   | none=>none
  | none=>none
def buildV (P:Program) (t:TypeId) (parts:List (Nat×V)):Option V:=
 match zeroV P t with
 | some z=>match P.underlying t with
  | some (.struct fs)=>bif isAggT z.t then fillV P fs z parts else none
  | _=>none
 | none=>none
theorem q5q (vs:List Value):∀ (off k:Nat) (cs:Array Value),off+k+vs.length<=cs.size->
 ((vs.zipIdx k).foldl (fun cs (p:Value×Nat)=>cs.setIfInBounds (off+p.2) p.1) cs).toList=splice cs.toList (off+k) vs:=by
 induction vs with
 | nil=>intro off k cs h;simp[splice]
 | cons v vs ih=>
  intro off k cs h
  simp only[List.length_cons] at h
  simp only[List.zipIdx_cons,List.foldl_cons]
  rw[ih off (k+1) _ (by simp;omega)]
  have hk:off+k<cs.toList.length:=by simp;omega
  have e1:(cs.setIfInBounds (off+k) v).toList=cs.toList.take (off+k) ++ v :: cs.toList.drop (off+k+1):=by
   rw[Array.toList_setIfInBounds,List.set_eq_take_append_cons_drop,if_pos hk]
  have hl:(cs.toList.take (off+k)).length=off+k:=by rw[List.length_take];omega
  simp only[splice,e1,List.length_cons]
  rw[show off+(k+1)=off+k+1 by omega,List.take_append,List.drop_append,hl,List.take_of_length_le (by omega:(cs.toList.take (off+k)).length<=off+k+1),
   List.drop_of_length_le (by omega:(cs.toList.take (off+k)).length<=off+k+1+vs.length),show off+k+1 - (off+k)=1 by omega,show off+k+1+vs.length - (off+k)=vs.length+1 by omega]
  simp only[List.take_succ_cons,List.take_zero,List.drop_succ_cons,List.drop_drop,List.nil_append,List.append_assoc,List.cons_append]
  rw[show off+k+1+vs.length=off+k+(vs.length+1) by omega]
theorem qaM (fs:List Go.Field) (g:Go.Field->Nat) (h:∀ f∈fs,(sizeOf f.type).run P w=.ok (g f) w):
 ∀ (acc:Array (Nat×Nat)),(fs.foldlM (fun (acc:Array (Nat×Nat)) (f:Go.Field)=>do let p <- (do pure (f.offset,<-sizeOf f.type):Sem (Nat×Nat));pure (acc.push p)) acc).run P w=.ok (acc ++ (fs.map fun f=>(f.offset,g f)).toArray) w:=by
 induction fs with
 | nil=>intro acc;simp
 | cons f fs ih=>
  intro acc
  have hf:=h f (by simp)
  simp only[List.foldlM_cons,Sem.run_bind,hf,Result.andThen_ok,Sem.run_pure]
  have:=ih (fun f hf=>h f (by simp[hf])) (acc.push (f.offset,g f))
  rw[this]
  simp
theorem fill_ok {place:Nat->Option (Nat×Nat)} {fs:Array Go.Field} (hp:∀ i fd,fs[i]?=some fd->∀ ag n,tinf P fd.type=some (ag,n)->place i=some (fd.offset,n)):
 ∀ (parts:List (Nat×V)) (vals:List (Nat×Value)) (acc u:V) (cells:Array Value),parts.length=vals.length->
  (∀ (k:Nat) (p:Nat×V) (q:Nat×Value),parts[k]?=some p->vals[k]?=some q->p.1=q.1/\vrep w F ι p.2.t p.2.x q.2)->rep w F ι acc.t acc.x cells.toList->fillV P fs acc parts=some u->
  ∃ cells',Instr.fill place cells vals=some cells'/\rep w F ι u.t u.x cells'.toList/\isAggT u.t=isAggT acc.t:=by
 intro parts
 induction parts with
 | nil=>
  intro vals acc u cells hl _ hr h
  cases vals with
  | nil=>simp only[fillV,Option.some.injEq] at h;subst h;exact⟨cells,rfl,hr,rfl⟩
  | cons q vals=>simp at hl
 | cons p parts ih=>
  intro vals acc u cells hl hv hr h
  cases vals with
  | nil=>simp at hl
  | cons q vals=>
   obtain⟨i,v⟩:=p
   obtain⟨i',x⟩:=q
   have h0:=hv 0 (i,v) (i',x) rfl rfl
   obtain⟨rfl,hvx⟩:=h0
   simp only[fillV] at h
   split at h<;>try (simp at h;done)
   rename_i fd hfd
   split at h<;>try (simp at h;done)
   rename_i ag n ht
   cases hc:(Nat.beq n (width v.t) && valT v.t)<;>rw[hc] at h<;>simp only[cond_true,cond_false,reduceCtorEq] at h
   simp only[Bool.and_eq_true,Nat.beq_eq] at hc
   obtain⟨rfl,hval⟩:=hc
   split at h<;>try (simp at h;done)
   rename_i acc' hacc
   have hcells:=vrep_cells (valT_or hval) hvx
   have hlen:=rep_length _ _ _ hcells
   obtain⟨q1,q2,q3,q4⟩:=q2n hcells _ _ _ _ _ hr hacc
   have hsp:(x.cells.zipIdx.foldl (fun cs (p:Value×Nat)=>cs.setIfInBounds (fd.offset+p.2) p.1) cells).toList=splice cells.toList fd.offset x.cells.toList:=by
    have:=q5q x.cells.toList fd.offset 0 cells (by simp at q2 ⊢;omega)
    rw[Nat.add_zero] at this
    rw[<-this,<-Array.foldl_toList];simp
   have e:Instr.fill place cells ((i,x) :: vals)=Instr.fill place (x.cells.zipIdx.foldl (fun cs (p:Value×Nat)=>cs.setIfInBounds (fd.offset+p.2) p.1) cells) vals:=by
    rw[Instr.fill,hp i fd hfd ag _ ht]
    simp only
    rw[if_neg]
    simp at hlen q2 ⊢
    omega
   rw[e]
   obtain⟨cells',z1,z2,z3⟩:=ih vals acc' u (x.cells.zipIdx.foldl (fun cs (p:Value×Nat)=>cs.setIfInBounds (fd.offset+p.2) p.1) cells) (by simpa using hl)
    (fun k p q hp hq=>hv (k+1) p q hp hq) (by rw[hsp];exact q1) h
   exact⟨cells',z1,z2,z3.trans q3⟩
theorem buildV_ok {t:TypeId} {parts:List (Nat×V)} {vals:List (Nat×Value)} {u:V} (hl:parts.length=vals.length)
 (hv:∀ (k:Nat) (p:Nat×V) (q:Nat×Value),parts[k]?=some p->vals[k]?=some q->p.1=q.1/\vrep w F ι p.2.t p.2.x q.2) (htot:∀ fs,P.underlying t=some (.struct fs)->∀ f∈fs.toList,(tinf P f.type).isSome=true) (h:buildV P t parts=some u):
 ∃ r,(Instr.build t vals.toArray).run P w=.ok r w/\vrep w F ι u.t u.x r:=by
 unfold buildV at h
 split at h<;>try (simp at h;done)
 rename_i z hz
 split at h<;>try (simp at h;done)
 rename_i fs ht
 cases ha:isAggT z.t<;>rw[ha] at h<;>simp only[cond_true,cond_false,reduceCtorEq] at h
 obtain⟨zv,h1,h2,h3⟩:=q6p hz w
 have hg:∀ f∈fs.toList,(sizeOf f.type).run P w=.ok (((tinf P f.type).map (·.2)).getD 0) w:=by
  intro f hf
  have:=htot fs ht f hf
  cases e:tinf P f.type with
  | none=>rw[e] at this;simp at this
  | some p=>obtain⟨ag,n⟩:=p;simp[(tinf_run e w).2]
 have hpl:(fs.mapM (fun f=>do pure (f.offset,<-sizeOf f.type):Go.Field->Sem (Nat×Nat))).run P w=.ok (fs.toList.map fun f=>(f.offset,((tinf P f.type).map (·.2)).getD 0)).toArray w:=by
  have:=qaM (P:=P) (w:=w) fs.toList (fun f=>((tinf P f.type).map (·.2)).getD 0) hg #[]
  simp only[Array.empty_append] at this
  rw[<-this,Array.mapM_eq_foldlM,<-Array.foldlM_toList]
  congr 1
 obtain⟨cells',z1,z2,z3⟩:=fill_ok (P:=P) (w:=w) (F:=F) (ι:=ι) (place:=((fs.toList.map fun f=>(f.offset,((tinf P f.type).map (·.2)).getD 0)).toArray[·]?)) (fs:=fs)
  (by intro i fd hfd ag n htn;simp[hfd,htn]) parts vals z u zv.cells hl hv (h3 F ι) h
 refine⟨.agg cells',?_,q1W (z3.trans ha) z2⟩
 simp only[Instr.build,Sem.run_bind,h1,Result.andThen_ok,run_underlying ht,hpl,z1,Sem.run_pure]
end
end Go.VM
namespace Go.VM
open Go Go.RowKit
def Lies (w:World) (F:Nat->Prop) (ι:Nat->Option Ref) (t:Ty) (l:List (den t)) (cs:List Value) (off:Nat):Prop:=
 ∀ i y,l[i]?=some y->rep w F ι t y (seg cs (off+i*width t) (width t))
section
variable {P:Program} {base:Mine} {w0 w:World} {F0 F:Nat->Prop} {ι:Nat->Option Ref} {st:St} {a:Act}
theorem lies_len {t:Ty} {l:List (den t)} {cs:List Value} {off:Nat} (hw:0<width t) (h:Lies w F ι t l cs off):l.length=0∨off+l.length*width t<=cs.length:=by
 rcases Nat.eq_zero_or_pos l.length with h0 | h0
 . exact .inl h0
 . right
   have hi:l.length - 1<l.length:=by omega
   have:=rep_length _ _ _ (h (l.length - 1) _ (List.getElem?_eq_getElem hi))
   simp only[seg,List.length_take,List.length_drop] at this
   have e:l.length*width t=(l.length - 1)*width t+width t:=by
    conv=>lhs;rw[show l.length=(l.length - 1)+1 by omega]
    rw[Nat.add_mul,Nat.one_mul]
   omega
theorem q7b {t:Ty} {l:List (den t)} {cs:List Value} {off:Nat} (hw:0<width t) (h:Lies w F ι t l cs off):(seg cs off (l.length*width t)).length=l.length*width t/\Lies w F ι t l (seg cs off (l.length*width t)) 0:=by
 constructor
 . rcases lies_len hw h with h0 | h0
   . simp[seg,h0]
   . simp only[seg,List.length_take,List.length_drop];omega
 . intro i y hy
   have hi:i<l.length:=by
    rcases Nat.lt_or_ge i l.length with q | q
    . exact q
    . rw[List.getElem?_eq_none q] at hy;simp at hy
   have hle:i*width t+width t<=l.length*width t:=by rw[<-Nat.succ_mul];exact Nat.mul_le_mul_right _ hi
   rw[Nat.zero_add,q2u _ _ _ _ _ hle]
   exact h i y hy
theorem qaB {t:Ty} {l m:List (den t)} {c1 c2 c3:List Value} (h1:Lies w F ι t l c1 0) (hl1:c1.length=l.length*width t) (h2:Lies w F ι t m c2 0) (hl2:c2.length=m.length*width t) (o:List Value):
 Lies w F ι t (l ++ m) (o ++ c1 ++ c2 ++ c3) o.length:=by
 intro i y hy
 rw[List.append_assoc,List.append_assoc,q2t _ _ _ _ (by omega),Nat.add_sub_cancel_left]
 rcases Nat.lt_or_ge i l.length with hi | hi
 . rw[List.getElem?_append_left hi] at hy
   have hle:i*width t+width t<=l.length*width t:=by rw[<-Nat.succ_mul];exact Nat.mul_le_mul_right _ hi
   rw[q1u _ _ _ _ (by omega)]
   have:=h1 i y hy;rwa [Nat.zero_add] at this
 . rw[List.getElem?_append_right hi] at hy
   have hi':i - l.length<m.length:=by
    rcases Nat.lt_or_ge (i - l.length) m.length with q | q
    . exact q
    . rw[List.getElem?_eq_none q] at hy;simp at hy
   have hle:(i - l.length)*width t+width t<=m.length*width t:=by rw[<-Nat.succ_mul];exact Nat.mul_le_mul_right _ hi'
   have e:i*width t - c1.length=(i - l.length)*width t:=by rw[hl1,Nat.sub_mul]
   have hc:c1.length<=i*width t:=by rw[hl1];exact Nat.mul_le_mul_right _ hi
   rw[q2t _ _ _ _ hc,e,q1u _ _ _ _ (by omega)]
   have:=h2 _ y hy;rwa [Nat.zero_add] at this
theorem cst_one (c:Cst):c.val.oneCell'=true:=by cases c<;>rfl
theorem q2p:∀ (t:Ty) (x:den t) (cs:List Value),rep w F ι t x cs->∀ u∈cs,u.oneCell'=true
 | .int _,_,_,h,u,hu | .bool,_,_,h,u,hu | .str,_,_,h,u,hu=>by simp only[rep] at h;subst h;simp at hu;subst hu;rfl
 | .cst c,_,_,h,u,hu=>by simp only[rep] at h;subst h;simp at hu;subst hu;exact cst_one c
 | .sl _,none,_,h,u,hu=>by simp only[rep] at h;subst h;simp at hu;subst hu;rfl
 | .sl _,some _,_,h,u,hu=>by simp only[rep] at h;obtain⟨_,_,rfl,_⟩:=h;simp at hu;subst hu;rfl
 | .unit,_,_,h,u,hu=>by simp only[rep] at h;subst h;simp at hu
 | .pair a b,x,_,h,u,hu=>by
  simp only[rep] at h
  obtain⟨c1,c2,rfl,h1,h2⟩:=h
  rcases List.mem_append.1 hu with hu | hu
  . exact q2p a _ _ h1 u hu
  . exact q2p b _ _ h2 u hu
 | .agg c,x,cs,h,u,hu=>by simp only[rep] at h;exact q2p c x cs h u hu
 | .arr n t,l,cs,h,u,hu=>by
  simp only[rep] at h
  obtain⟨h1,h2,h3⟩:=h
  obtain⟨j,hj,rfl⟩:=List.mem_iff_getElem.1 hu
  have hw:0<width t:=by
   rcases Nat.eq_zero_or_pos (width t) with e | e
   . rw[e] at h2;simp at h2;rw[h2] at hj;simp at hj
   . exact e
  have hi:j / width t<l.length:=by rw[h1];exact Nat.div_lt_of_lt_mul (by rw[Nat.mul_comm];omega)
  have hm:=Nat.mod_lt j hw
  have he:=Nat.div_add_mod j (width t)
  refine q2p t _ _ (h3 (j / width t) _ (List.getElem?_eq_getElem hi)) _ (List.mem_iff_getElem?.2 ⟨j % width t,?_⟩)
  rw[q0y _ _ _ _ hm,Nat.mul_comm,he]
  exact List.getElem?_eq_getElem hj
 | .tup _,_,_,h,_,_=>by simp only[rep] at h
 | .ref _ _,_,_,h,u,hu=>by simp only[rep] at h;obtain⟨_,_,rfl⟩:=h;simp at hu;subst hu;rfl
 | .own _,_,_,h,u,hu=>by simp only[rep] at h;obtain⟨r,_,rfl⟩:=h;simp at hu;subst hu;unfold Ref.val;split<;>rfl
 | .eref _ _,_,_,h,u,hu=>by simp only[rep] at h;obtain⟨_,_,_,_,rfl⟩:=h;simp at hu;subst hu;rfl
 | .fref _,_,_,h,u,hu=>by simp only[rep] at h;obtain⟨_,_,_,_,_,rfl,_⟩:=h;simp at hu;subst hu;rfl
 | .vw _,_,_,h,u,hu=>by simp only[rep] at h;obtain⟨_,_,_,_,_,_,rfl⟩:=h;simp at hu;subst hu;rfl
 | .clo _ _,_,_,h,u,hu=>by simp only[rep] at h;obtain⟨_,rfl,_⟩:=h;simp at hu;subst hu;rfl
 | .hd _,none,_,h,u,hu=>by simp only[rep] at h;subst h;simp at hu;subst hu;rfl
 | .hd _,some _,_,h,u,hu=>by simp only[rep] at h;obtain⟨r,_,_,rfl⟩:=h;simp at hu;subst hu;unfold Ref.val;split<;>rfl
 | .her _ _,_,_,h,u,hu=>by simp only[rep] at h;obtain⟨_,_,_,_,rfl⟩:=h;simp at hu;subst hu;rfl
 | .bref _ _ _,_,_,h,u,hu=>by simp only[rep] at h;obtain⟨_,_,_,_,rfl⟩:=h;simp at hu;subst hu;rfl
 | .nul,_,_,h,u,hu=>by simp only[rep] at h;obtain⟨_,rfl⟩:=h;simp at hu;subst hu;rfl
theorem lies_one {t:Ty} {l:List (den t)} {cs:List Value} (h:Lies w F ι t l cs 0) (hl:cs.length=l.length*width t):∀ u∈cs,u.oneCell'=true:=
 q2p (.arr l.length t) l cs ⟨rfl,hl,fun i y hy=>by have:=h i y hy;rwa [Nat.zero_add] at this⟩
theorem q7D {t:TypeId} {ag:Bool} {n g o:Nat} {cells:Array Value} {el:TypeId} {v:Value} (ht:tinf P t=some (ag,n)) (hn:v.cells.size=n) (hg:w.heap[g]?=some (.cells cells el (0,0)))
 (hl:o+n<=cells.size) (h1:∀ u∈v.cells.toList,u.oneCell'=true):
 (Instr.storeAt t (.pointer (some ⟨g,o,none⟩)) v).run P w=.ok () (w.setRow g (splice cells.toList o v.cells.toList).toArray):=by
 have:=run_storeCells_at P g o el v.cells.toList 0 cells w hg (by simpa[hn] using hl) h1
 simp only[Nat.add_zero] at this
 simp[Instr.storeAt,Instr.sureAddr,storeVar,(tinf_run ht w).2,hn,this,splice]
def putE (x:V) (t:Ty) (y:den t) (o:Nat):Option (den t):=
 match put x t y o with
 | some u=>coe q0e t u.t u.x
 | none=>none
def setO {α:Type} (l:Option (List α)) (i:Nat) (y:α):Option (List α):=l.map fun l=>l.set i y
def setR {α:Type} (ls:List (List α)) (n i:Nat) (y:α):List (List α):=ls.set n ((ls.getD n []).set i y)
def storeV (hp:Nat->Option Blk) (n:Nat) (v x:V):Option (Nat×Blk):=
 bif Nat.beq n (width x.t) && valT x.t && Nat.blt 0 n then match v with
  | ⟨.ref b o,_⟩=>match hp b with
   | some (.box t y)=>match put x t y o with
    | some u=>bif bldT u.t && !(bldT t) then none else some (b,.box u.t u.x)
    | none=>none
   | _=>none
  | ⟨.eref b o,i⟩=>match hp b with
   | some (.arr t l)=>match putE x t (eltN (dflt t) l i) o with
    | some y=>some (b,.arr t (setO l i y))
    | none=>none
   | _=>none
  | ⟨.her p o,i⟩=>match hp p with
   | some (.pool q t ls)=>bif Nat.beq p q then match putE x t (rowE (dflt t) ls i.1 i.2) o with
    | some y=>some (p,.pool p t (setR ls i.1 i.2 y))
    | none=>none else none
   | _=>none
  | ⟨.bref b wd m,i⟩=>match hp b with
   | some (.box (.arr k t) l)=>bif Nat.beq k m && Nat.beq wd (width t) && noU8 t then match putE x t (List.getD (α:=den t) l i (dflt t)) 0 with
    | some y=>some (b,.box (.arr k t) (List.set (α:=den t) l i y))
    | none=>none else none
   | _=>none
  | _=>none
 else none
theorem q1U (cs:List Value) (o:Nat) (vs:List Value) (h:o+vs.length<=cs.length):(splice cs o vs).length=cs.length:=by
 simp[splice];omega
theorem q3n (cs:List Value) (o:Nat) (vs:List Value) (p n:Nat) (h:o+vs.length<=cs.length):
 (p+n<=o∨o+vs.length<=p->seg (splice cs o vs) p n=seg cs p n) /\
 (o<=p->p+n<=o+vs.length->seg (splice cs o vs) p n=seg vs (p - o) n):=by
 have ht:(cs.take o).length=o:=by rw[List.length_take];omega
 constructor
 . rintro (hp | hp)
   . unfold splice
     rw[List.append_assoc,q1u _ _ _ _ (by omega)]
     simp only[seg,List.drop_take,List.take_take]
     congr 1;omega
   . unfold splice
     rw[q2t _ _ _ _ (by simp;omega)]
     simp only[seg,List.drop_drop,List.length_append,ht]
     congr 2;omega
 . intro hp hq
   unfold splice
   rw[List.append_assoc,q2t _ _ _ _ (by omega),ht,q1u _ _ _ _ (by omega)]
theorem q4x {base:Mine} {P:Program} {w:World} {F:Nat->Prop} {ι:Nat->Option Ref} {t:TypeId} {ag:Bool} {x:V} {vx:Value} {ty:Ty} {l:List (den ty)} {y:den ty} {i o:Nat} {r:Ref}
 (ht:tinf P t=some (ag,width x.t)) (hxc:rep w F ι x.t x.x vx.cells.toList) (hxl:vx.cells.size=width x.t) (hx1:∀ u∈vx.cells.toList,u.oneCell'=true) (hpos:0<width x.t) (hk:arep w base F ι r ty l) (e2:i<r.len) (hy:putE x ty (l.getD i (dflt ty)) o=some y):
 ∃ cs,(Instr.storeAt t (.pointer (some ⟨r.blk,r.off+i*r.wd+o,none⟩)) vx).run P w=.ok () (w.setRow r.blk cs)/\arep (w.setRow r.blk cs) base F ι r ty (l.set i y)/\∀ cells el fz,w.heap[r.blk]?=some (.cells cells el fz)->cs.size=cells.size:=by
 obtain⟨q1,q2,q3,q4,q5,q6,cells,el,qe,q7,q8,q9⟩:=hk
 have hi:i<l.length:=by rw[<-q3];exact e2
 unfold putE at hy
 split at hy<;>try (simp at hy;done)
 rename_i u hu
 have hg:l[i]?=some (l.getD i (dflt ty)):=by simp[List.getD,List.getElem?_eq_getElem hi]
 have hel:=q9 i _ hg
 obtain⟨p1,p2,p3,p4⟩:=q2n hxc _ _ _ _ _ hel hu
 have hlen:=rep_length _ _ _ hel
 rw[hlen] at p2
 have hseg:=hlen
 simp only[seg,List.length_take,List.length_drop,Array.length_toList] at hseg
 have hle:r.off+i*width ty+o+width x.t<=cells.size:=by
  have hcap:(i+1)*width ty<=r.cap*width ty:=Nat.mul_le_mul_right _ (by omega)
  rw[Nat.add_mul] at hcap
  rw[q2] at q8
  simp only[Array.length_toList] at p2
  omega
 refine⟨_,by rw[q2];exact q7D ht hxl q7 hle hx1,?_⟩
 have hlx:vx.cells.toList.length=width x.t:=by simpa using hxl
 have hF:∀ c,F c->(w.setRow r.blk (splice cells.toList (r.off+i*width ty+o) vx.cells.toList).toArray).heap[c]?=w.heap[c]?:=fun c hc=>setRow_other w _ c _ (fun e=>q6 (by rw[<-e];exact hc))
 refine⟨⟨q1,q2,by simp[q3],q4,q5,q6,_,el,qe,setRow_heap w _ _ _ _ _ q7,?_,?_⟩,fun cells' el' fz' e=>?_⟩
 . have:=q1U cells.toList (r.off+i*width ty+o) vx.cells.toList (by rw[hlx];simpa using hle)
   simp only[Array.length_toList] at this
   simp only[List.size_toArray,this];exact q8
 . intro j z hz
   refine rep_mono (fun _ h=>h) (fun _ _ h=>h) hF _ _ _ ?_
   have hsp:=q3n cells.toList (r.off+i*width ty+o) vx.cells.toList (r.off+j*width ty) (width ty) (by rw[hlx];simpa using hle)
   simp only[Array.length_toList] at p2
   by_cases hij:j=i
   . subst hij
     rw[List.getElem?_set_self hi] at hz
     simp only[Option.some.injEq] at hz;subst hz
     have e4:seg (splice cells.toList (r.off+j*width ty+o) vx.cells.toList) (r.off+j*width ty) (width ty)=splice (seg cells.toList (r.off+j*width ty) (width ty)) o vx.cells.toList:=by
      apply List.ext_getElem?
      intro m
      rcases Nat.lt_or_ge m (width ty) with hm | hm
      . rw[q0y _ _ _ _ hm]
        simp only[splice]
        have l1:(cells.toList.take (r.off+j*width ty+o)).length=r.off+j*width ty+o:=by simp;omega
        have l2:((seg cells.toList (r.off+j*width ty) (width ty)).take o).length=o:=by rw[List.length_take,hlen];omega
        rcases Nat.lt_or_ge m o with hmo | hmo
        . rw[List.append_assoc,List.append_assoc,List.getElem?_append_left (by omega),List.getElem?_append_left (by omega),List.getElem?_take_of_lt (by omega),List.getElem?_take_of_lt (by omega),q0y _ _ _ _ hm]
        . rw[List.append_assoc,List.append_assoc,List.getElem?_append_right (l₁:=cells.toList.take _) (by omega),List.getElem?_append_right (l₁:=(seg cells.toList _ _).take _) (by omega),l1,l2]
          rw[show r.off+j*width ty+m - (r.off+j*width ty+o)=m - o by omega]
          rcases Nat.lt_or_ge (m - o) vx.cells.toList.length with hm2 | hm2
          . rw[List.getElem?_append_left hm2,List.getElem?_append_left hm2]
          . rw[List.getElem?_append_right hm2,List.getElem?_append_right hm2,List.getElem?_drop,List.getElem?_drop,q0y _ _ _ _ (by omega)]
            congr 1
            omega
      . rw[List.getElem?_eq_none (by simp[seg];omega),List.getElem?_eq_none (by rw[q1U _ _ _ (by rw[hlen];omega),hlen];exact hm)]
     rw[List.toList_toArray,e4]
     exact coe_rep (fun _ h=>h) q2i _ _ _ _ _ p1 hy
   . rw[List.getElem?_set_ne (fun e=>hij e.symm)] at hz
     have hne:r.off+j*width ty+width ty<=r.off+i*width ty+o∨r.off+i*width ty+o+vx.cells.toList.length<=r.off+j*width ty:=by
      rcases Nat.lt_or_gt_of_ne hij with hlt | hgt
      . left
        have:(j+1)*width ty<=i*width ty:=Nat.mul_le_mul_right _ hlt
        rw[Nat.add_mul] at this;omega
      . right
        have this:i*width ty+width ty<=j*width ty:=by rw[<-Nat.succ_mul];exact Nat.mul_le_mul_right _ hgt
        have e5:i*width ty+(o+vx.cells.size)<=i*width ty+width ty:=Nat.add_le_add_left p2 _
        have e6:=Nat.le_trans e5 this
        rw[Array.length_toList]
        clear hseg hle q8 q9
        omega
     rw[List.toList_toArray,hsp.1 hne]
     exact q9 j z hz
 . rw[q7] at e
   simp only[Option.some.injEq,Obj.cells.injEq] at e
   obtain⟨rfl,_,_⟩:=e
   have:=q1U cells.toList (r.off+i*width ty+o) vx.cells.toList (by rw[hlx];simpa using hle)
   simp only[Array.length_toList] at this
   simp only[List.size_toArray,this]
theorem storeV_ok (hs:Sim base w0 F0 F ι st a w) {t:TypeId} {ag:Bool} {n b:Nat} {v x:V} {val vx:Value} {k:Blk} (ht:tinf P t=some (ag,n)) (hv:vrep w F ι v.t v.x val) (hx:vrep w F ι x.t x.x vx)
 (h:storeV st.heap n v x=some (b,k)):∃ w',(Instr.storeAt t val vx).run P w=.ok () w'/\Sim base w0 F0 F ι { st with heap:=upd st.heap b (some k) } a w':=by
 unfold storeV at h
 cases hc:(Nat.beq n (width x.t) && valT x.t && Nat.blt 0 n)<;>rw[hc] at h<;>simp only[cond_true,cond_false,reduceCtorEq] at h
 simp only[Bool.and_eq_true,Nat.beq_eq] at hc
 obtain⟨⟨rfl,hval⟩,hpos⟩:=hc
 replace hpos:0<width x.t:=Nat.le_of_ble_eq_true hpos
 have hxc:=vrep_cells (valT_or hval) hx
 have hxl:=rep_length _ _ _ hxc
 simp only[Array.length_toList] at hxl
 have hx1:=q2p _ _ _ hxc
 split at h
 . rename_i b' o _
   split at h<;>try (simp at h;done)
   rename_i ty y hb
   split at h<;>try (simp at h;done)
   rename_i u hu
   have hbl:bldT u.t=true->bldT ty=true:=by
    intro h1
    cases h2:bldT ty with
    | true=>rfl
    | false=>rw[h1,h2] at h;simp at h
   cases h3:(bldT u.t && !(bldT ty))<;>rw[h3] at h<;>simp only[cond_true,cond_false,reduceCtorEq] at h
   simp only[Option.some.injEq,Prod.mk.injEq] at h
   obtain⟨rfl,rfl⟩:=h
   obtain⟨r,hr,hk⟩:=hs.heap _ _ hb
   have hk':=hk
   obtain⟨q1,q2,q3,q4,q5,cells,el,qb,q6,q7⟩:=hk
   rw[vrep_cell rfl] at hv;simp only[rep] at hv
   obtain⟨r',hr',e⟩:=hv
   rw[hr] at hr';cases hr'
   simp only[List.cons.injEq,and_true] at e;subst e
   obtain⟨p1,p2,p3,p4⟩:=q2n hxc _ _ _ _ _ q7 hu
   have hle:o+width x.t<=cells.size:=by simp at p2;omega
   refine⟨_,by rw[q2,Nat.zero_add];exact q7D ht hxl q6 hle hx1,hs.write hb hr q1 q3 q4 ?_⟩
   refine⟨q1,q2,q3,q4,by simp only[valT,p3,p4];exact q5,_,el,fun h=>qb (hbl h),setRow_heap w _ _ _ _ _ q6,?_⟩
   exact rep_mono (fun _ h=>h) (fun _ _ h=>h) (fun c hc=>setRow_other w _ c _ (fun e=>q4 (by rw[<-e];exact hc))) _ _ _ (by simpa using p1)
 . rename_i b' o i
   split at h<;>try (simp at h;done)
   rename_i ty l hb
   split at h<;>try (simp at h;done)
   rename_i y hy
   simp only[Option.some.injEq,Prod.mk.injEq] at h
   obtain⟨rfl,rfl⟩:=h
   obtain⟨r,hr,hk⟩:=hs.heap _ _ hb
   obtain⟨q0,hk⟩:=hk
   rw[vrep_cell rfl] at hv;simp only[rep] at hv
   obtain⟨r',hr',e1,e2,e⟩:=hv
   rw[hr] at hr';cases hr'
   simp only[List.cons.injEq,and_true] at e;subst e
   cases l with
   | none=>simp only at hk;rw[hk] at e1;simp at e1
   | some l=>
    obtain⟨cs,h1,h2,_⟩:=q4x (l:=l) ht hxc hxl hx1 hpos hk e2 (by simpa only[eltN,Option.getD_some] using hy)
    exact⟨_,h1,hs.write hb hr e1 hk.2.2.2.2.1 hk.2.2.2.2.2.1 ⟨q0,h2⟩⟩
 . rename_i p o i
   change Nat×Nat at i
   split at h<;>try (simp at h;done)
   rename_i q ty ls hb
   cases hpq:Nat.beq p q<;>rw[hpq] at h
   . simp at h
   rw[Nat.beq_eq] at hpq;subst hpq
   simp only[cond_true] at h
   split at h<;>try (simp at h;done)
   rename_i y hy
   simp only[Option.some.injEq,Prod.mk.injEq] at h
   obtain⟨rfl,rfl⟩:=h
   obtain⟨r0,hr0,q1,q2,q3,q4,q5⟩:=hs.heap _ _ hb
   rw[vrep_cell rfl] at hv;simp only[rep] at hv
   obtain⟨r',hr',e1,e2,e⟩:=hv
   simp only[List.cons.injEq,and_true] at e;subst e
   have hlt:i.1<ls.length:=by
    rcases Nat.lt_or_ge i.1 ls.length with h1 | h1
    . exact h1
    . rw[q4 _ h1] at hr';cases hr'
   have hl:=List.getElem?_eq_getElem hlt
   obtain⟨s,hs',ha⟩:=q5 _ _ hl
   rw[hr'] at hs';cases hs'
   have e3:ls.getD i.1 []=ls[i.1]:=by simp[List.getD,hl]
   obtain⟨cs,h1,h2,_⟩:=q4x (l:=ls[i.1]) ht hxc hxl hx1 hpos ha e2 (by rw[<-e3];exact hy)
   refine⟨_,h1,?_⟩
   have:=hs.writeRow hb hl hr' h2
   simpa only[setR,e3] using this
 . rename_i b' wd m i
   change Nat at i
   split at h<;>try (simp at h;done)
   rename_i k0 ty l hb
   change List (den ty) at l
   cases hc:(Nat.beq k0 m && Nat.beq wd (width ty) && noU8 ty)<;>rw[hc] at h<;>simp only[cond_true,cond_false,reduceCtorEq] at h
   simp only[Bool.and_eq_true,Nat.beq_eq] at hc
   obtain⟨⟨rfl,rfl⟩,hno⟩:=hc
   split at h<;>try (simp at h;done)
   rename_i y hy
   simp only[Option.some.injEq,Prod.mk.injEq] at h
   obtain⟨rfl,rfl⟩:=h
   obtain⟨r,hr,hk⟩:=hs.heap _ _ hb
   rw[vrep_cell rfl] at hv;simp only[rep] at hv
   obtain⟨r',hr',e1,e2,e⟩:=hv
   rw[hr] at hr';cases hr'
   simp only[List.cons.injEq,and_true] at e;subst e
   obtain⟨cs,h1,h2,h3⟩:=q4x (l:=l) (o:=0) ht hxc hxl hx1 hpos (box_arep hk hno) e2 hy
   obtain⟨q1,q2,q3,q4,q5,cells,el,qb,q6,q7⟩:=hk
   have hsz:=h3 _ _ _ q6
   have hc2:=setRow_heap w r.blk cells cs el (0,0) q6
   obtain⟨_,_,p3,_,_,_,cells2,el2,_,p7,p8,p9⟩:=h2
   have p7:(w.setRow r.blk cs).heap[r.blk]?=some (.cells cells2 el2 (0,0)):=p7
   rw[hc2] at p7
   simp only[Option.some.injEq,Obj.cells.injEq] at p7
   obtain⟨rfl,_,_⟩:=p7
   simp only[rep] at q7
   refine⟨_,?_,hs.write hb hr q1 q3 q4 ⟨q1,q2,q3,q4,q5,cs,el,qb,hc2,?_⟩⟩
   . rw[q2]
     exact h1
   . simp only[rep]
     refine⟨?_,?_,fun j z hz=>?_⟩
     . have p3:k0=(List.set (α:=den ty) l i y).length:=p3
       exact p3.symm
     . rw[Array.length_toList,hsz,<-Array.length_toList];exact q7.2.1
     . have:=p9 j z hz
       have this:rep (w.setRow r.blk cs) F ι ty z (seg cs.toList (0+j*width ty) (width ty)):=this
       rwa [Nat.zero_add] at this
 . simp at h
end
end Go.VM
namespace Go.VM
open Go Go.RowKit
section
variable {P:Program} {base:Mine} {w0 w:World} {F0 F:Nat->Prop} {ι:Nat->Option Ref} {st:St} {a:Act}
theorem Sim.fresh (h:Sim base w0 F0 F ι st a w) {d:Nat} (hd:st.used d=false) (r:Ref):∀ b r',ι b=some r'->upd ι d (some r) b=some r':=by
 have hnone:ι d=none:=by
  cases e:ι d with
  | none=>rfl
  | some r=>have:=h.used d r e;rw[hd] at this;simp at this
 intro b r' e
 by_cases hb:b=d
 . subst hb;rw[hnone] at e;simp at e
 . rw[upd_other _ _ _ _ hb];exact e
theorem q3A (h:Sim base w0 F0 F ι st a w) {d:Nat} {t:Ty} {l:List (den t)} {cs:Array Value} {e:TypeId} {cap:Nat} {w1:World} (hw1:w1=w∨w1=w.drew) (hd:st.used d=false) (ht:valT t=true)
 (hl:l.length<=cap) (hc:cap*width t<=cs.size) (hx:Lies w F ι t l cs.toList 0) (hel:t=.int .u8->e=base.u8.1):
 Sim base w0 F0 F (upd ι d (some (newRef w (width t) l.length cap))) (st.new d (.arr t (some l))) a (w1.alloc (.cells cs e)) /\
 vrep (w1.alloc (.cells cs e)) F (upd ι d (some (newRef w (width t) l.length cap))) (.own d) () (.slice (some ⟨w.heap.size,0,none⟩) l.length cap):=by
 have hsz:w1.heap.size=w.heap.size:=by rcases hw1 with rfl | rfl<;>rfl
 have hhp:∀ k,k<w.heap.size->(w1.alloc (.cells cs e)).heap[k]?=w.heap[k]?:=by
  intro k hk
  rcases hw1 with rfl | rfl
  . exact q1z _ _ _ hk
  . exact q1z w.drew _ _ hk
 have hnew:(w1.alloc (.cells cs e)).heap[w.heap.size]?=some (.cells cs e):=by rw[<-hsz];exact heap_alloc_new _ _
 constructor
 . refine h.alloc (o:=.cells cs e) (by rcases hw1 with rfl | rfl;exact .inl rfl;exact .inr rfl) hd (fun _=>rfl) ⟨ht,rfl,rfl,rfl,hl,.inl h.size,fun hf=>?_,cs,e,hel,hnew,by simp[newRef];exact hc,?_⟩
   . have:=h.fsize _ hf;simp only[newRef] at this;omega
   . intro i y hy
     exact rep_mono (fun _ h=>h) (h.fresh hd _) (fun b hb=>hhp _ (h.fsize b hb)) _ _ _ (hx i y hy)
 . exact (vrep_cell rfl).2 ⟨_,upd_same _ _ _,by simp[Ref.val,newRef]⟩
theorem q7O (z:Array Value) (n i:Nat) (hi:i<n):seg (madeCells z (n*z.size)).toList (i*z.size) z.size=z.toList:=by
 apply List.ext_getElem?
 intro j
 rcases Nat.lt_or_ge j z.size with hj | hj
 . have hlt:i*z.size+j<n*z.size:=by
    have:(i+1)*z.size<=n*z.size:=Nat.mul_le_mul_right _ hi
    rw[Nat.add_mul] at this;omega
   rw[q0y _ _ _ _ hj]
   have hm:(i*z.size+j) % z.size=j:=by rw[Nat.mul_comm,Nat.mul_add_mod];exact Nat.mod_eq_of_lt hj
   simp only[madeCells,Array.toList_map,Array.toList_range,List.getElem?_map]
   rw[List.getElem?_range hlt]
   simp only[Option.map_some,hm]
   rw[getElem!_pos z j hj]
   simp[hj]
 . rw[List.getElem?_eq_none (by simp[seg];omega),List.getElem?_eq_none (by simpa using hj)]
def okU8 (P:Program) (t:Ty) (e:TypeId):Bool:=
 match t with
 | .int .u8=>Nat.beq e (u8of P).1
 | _=>true
theorem okU8_eq {t:Ty} {e:TypeId} (h:okU8 P t e=true):t=.int .u8->e=(u8of P).1:=by
 rintro rfl
 exact Nat.eq_of_beq_eq_true h
def elemV (P:Program) (t:TypeId):Option (V×Nat):=
 match P.underlying t with
 | some (.slice e)=>match zeroV P e with
  | some z=>match tinf P e with
   | some (_,n)=>match P.info? e with
    | some i=>bif Nat.beq n (width z.t) && Nat.blt 0 n && Nat.blt 0 i.bytes && okU8 P z.t e then some (z,i.bytes) else none
    | none=>none
   | none=>none
  | none=>none
 | _=>none
theorem q1I {t:TypeId} {z:V} {bytes:Nat} (h:elemV P t=some (z,bytes)):∃ e i zv,P.underlying t=some (.slice e)/\P.info? e=some i/\i.zero=some zv/\i.size=width z.t/\i.bytes=bytes/\0<width z.t/\0<bytes /\
 zv.cells.size=width z.t/\valT z.t=true/\(z.t=.int .u8->e=(u8of P).1)/\∀ (w:World) F ι,rep w F ι z.t z.x zv.cells.toList:=by
 unfold elemV at h
 split at h<;>try (simp at h;done)
 rename_i e ht
 split at h<;>try (simp at h;done)
 rename_i z' hz
 split at h<;>try (simp at h;done)
 rename_i ag n hi'
 split at h<;>try (simp at h;done)
 rename_i i hi
 obtain⟨hc,heq⟩:=bif_some h
 simp only[Prod.mk.injEq] at heq
 obtain⟨rfl,rfl⟩:=heq
 simp only[Bool.and_eq_true,Nat.beq_eq] at hc
 obtain⟨⟨⟨rfl,h0⟩,h1⟩,hu8⟩:=hc
 have hsz:i.size=width z'.t:=by
  unfold tinf at hi'
  split at hi'<;>try (simp at hi';done)
  rw[hi] at hi';simp at hi';exact hi'.2
 unfold zeroV at hz
 split at hz<;>try (simp at hz;done)
 rename_i ty hty
 rw[hi] at hz
 simp only at hz
 split at hz<;>try (simp at hz;done)
 rename_i zv hzv
 split at hz<;>try (simp at hz;done)
 rename_i x hx
 obtain⟨hv,rfl⟩:=bif_some hz
 have hrep:∀ (w:World) F ι,rep w F ι ty x zv.cells.toList:=by
  intro w F ι
  obtain⟨c,e,q⟩:=q2l (w:=w) (F:=F) (ι:=ι) _ _ _ _ hx
  simp at e;rw[e];exact q
 refine⟨e,i,zv,ht,hi,hzv,hsz,rfl,Nat.le_of_ble_eq_true h0,Nat.le_of_ble_eq_true h1,?_,hv,okU8_eq hu8,hrep⟩
 have:=rep_length _ _ _ (hrep default (fun _=>False) (fun _=>none))
 simpa using this
def mkRes (t:Ty) (x:den t) (bytes:Nat) (l c:Int):Res:=.newc (mkC bytes l c) (.arr t (some (repS l x)))
def makeV (P:Program) (t:TypeId) (l c:V):Option Res:=
 match elemV P t with
 | some (z,bytes)=>match l,c with
  | ⟨.int _,l⟩,⟨.int _,c⟩=>some (mkRes z.t z.x bytes l c)
  | _,_=>none
 | none=>none
def Res.okNew (base:Mine) (w0:World) (F0 F:Nat->Prop) (st:St) (a:Act) (w:World) (P:Program) (d:Nat) (tag:Ty) (s:Sem Value):Res->Prop
 | .new k=>∃ val w' ι' x,s.run P w=.ok val w'/\Sim base w0 F0 F ι' (st.new d k) a w'/\vrep w' F ι' tag x val
 | .newc c k=>c->∃ val w' ι' x,s.run P w=.ok val w'/\Sim base w0 F0 F ι' (st.new d k) a w'/\vrep w' F ι' tag x val
 | _=>True
theorem mkRes_ok (h8:base.u8=u8of P) (hs:Sim base w0 F0 F ι st a w) {t:TypeId} {z:V} {bytes d:Nat} {k k':IntKind} {l c:Int} (hd:st.used d=false) (he:elemV P t=some (z,bytes)):
 (mkRes z.t z.x bytes l c).okNew base w0 F0 F st a w P d (.own d) (Instr.makeSlice t (.int k l) (.int k' c)):=by
 intro ⟨h0,h1,h2⟩
 obtain⟨e,i,zv,ht,hi,hz,e1,e2,p1,p2,e3,hv,hu8,hrep⟩:=q1I he
 have hc:c<=281474976710656:=by
  have:c*1<=c*bytes:=Int.mul_le_mul_of_nonneg_left (by omega) (by omega)
  omega
 have hrun:=run_make (P:=P) w t e i zv ht hi hz k k' l c h0 h1 (by rw[e2,Int.mul_comm];exact h2) (by omega)
 have hlies:Lies w F ι z.t (List.replicate l.toNat z.x) (madeCells zv.cells (c.toNat*i.size)).toList 0:=by
  intro j y hy
  have hj:j<l.toNat:=by
   rcases Nat.lt_or_ge j l.toNat with q | q
   . exact q
   . rw[List.getElem?_eq_none (by simpa using q)] at hy;simp at hy
  rw[List.getElem?_replicate,if_pos hj] at hy
  simp only[Option.some.injEq] at hy;subst hy
  rw[Nat.zero_add,e1,<-e3,q7O _ _ _ (by omega)]
  exact hrep w F ι
 obtain⟨q1,q2⟩:=q3A hs (d:=d) (e:=e) (cap:=c.toNat) (.inl rfl) hd hv (by simp;omega) (by rw[size_madeCells,e1];exact Nat.le_refl _) hlies (fun h=>(hu8 h).trans (congrArg Prod.fst h8.symm))
 have hlen:(List.replicate l.toNat z.x).length=l.toNat:=by simp
 rw[hlen] at q1 q2
 exact⟨_,_,_,(),hrun,q1,q2⟩
theorem makeV_ok (h8:base.u8=u8of P) (hs:Sim base w0 F0 F ι st a w) {t:TypeId} {d:Nat} {l c:V} {vl vc:Value} {r:Res} (hd:st.used d=false) (hl:vrep w F ι l.t l.x vl) (hc:vrep w F ι c.t c.x vc) (h:makeV P t l c=some r):
 r.okNew base w0 F0 F st a w P d (.own d) (Instr.makeSlice t vl vc):=by
 unfold makeV at h
 split at h<;>try (simp at h;done)
 rename_i z bytes he
 split at h<;>try (simp at h;done)
 simp only[Option.some.injEq] at h;subst h
 rw[q03] at hl hc;subst hl;subst hc
 exact mkRes_ok h8 hs hd he
def q1X (P:Program) (t:TypeId) (u:Ty) (bytes:Nat):Prop:=∃ e i zv,P.underlying t=some (.slice e)/\P.info? e=some i/\i.zero=some zv/\i.size=width u/\i.bytes=bytes/\0<width u/\0<bytes /\
 zv.cells.size=width u/\valT u=true/\(u=.int .u8->e=(u8of P).1)
theorem elemV_as {t:TypeId} {z:V} {bytes:Nat} (h:elemV P t=some (z,bytes)):q1X P t z.t bytes:=by
 obtain⟨e,i,zv,h1,h2,h3,h4,h5,h6,h7,h8,h9,h10,_⟩:=q1I h
 exact⟨e,i,zv,h1,h2,h3,h4,h5,h6,h7,h8,h9,h10⟩
def likeT:Ty->Ty->Bool
 | .sl _,.own _=>true
 | .sl _,.hd _=>true
 | .sl t,.sl u=>likeT t u
 | .pair a b,.pair c d=>likeT a c && likeT b d
 | .agg a,.agg b=>likeT a b
 | .int k,.int k'=>if k=k' then true else false
 | .bool,.bool=>true
 | .str,.str=>true
 | .unit,.unit=>true
 | _,_=>false
theorem likeT_ok:∀ (z u:Ty),likeT z u=true->width u=width z/\isAggT u=isAggT z/\cellT u=cellT z/\(u=.int .u8->z=.int .u8):=by
 intro z
 induction z with
 | pair a b iha ihb=>
  intro u h
  cases u with
  | pair c d=>
   simp only[likeT,Bool.and_eq_true] at h
   exact⟨by simp only[width,(iha _ h.1).1,(ihb _ h.2).1],rfl,rfl,fun e=>by cases e⟩
  | _=>simp[likeT] at h
 | agg a ih=>
  intro u h
  cases u with
  | agg b=>exact⟨(ih _ h).1,rfl,rfl,fun e=>by cases e⟩
  | _=>simp[likeT] at h
 | int k=>
  intro u h
  cases u with
  | int k'=>
   simp only[likeT] at h
   split at h
   . rename_i e;subst e;exact⟨rfl,rfl,rfl,id⟩
   . cases h
  | _=>simp[likeT] at h
 | sl t ih=>intro u h;cases u<;>first | (simp[likeT] at h;done) | exact⟨rfl,rfl,rfl,fun e=>by cases e⟩
 | bool=>intro u h;cases u<;>first | (simp[likeT] at h;done) | exact⟨rfl,rfl,rfl,fun e=>by cases e⟩
 | str=>intro u h;cases u<;>first | (simp[likeT] at h;done) | exact⟨rfl,rfl,rfl,fun e=>by cases e⟩
 | unit=>intro u h;cases u<;>first | (simp[likeT] at h;done) | exact⟨rfl,rfl,rfl,fun e=>by cases e⟩
 | _=>intro u h;simp[likeT] at h
theorem q1X.like {t:TypeId} {z u:Ty} {bytes:Nat} (h:q1X P t z bytes) (hl:likeT z u=true):q1X P t u bytes:=by
 obtain⟨e,i,zv,h1,h2,h3,h4,h5,h6,h7,h8,h9,h10⟩:=h
 obtain⟨q1,q2,q3,q4⟩:=likeT_ok z u hl
 exact⟨e,i,zv,h1,h2,h3,h4.trans q1.symm,h5,by omega,h7,h8.trans q1.symm,by simp only[valT,q2,q3];exact h9,fun e=>h10 (q4 e)⟩
def setP (t:Ty):List (den t)->List (Nat×V)->Option (List (den t))
 | xs,[]=>some xs
 | xs,(i,v) :: r=>match coe q0e t v.t v.x with
  | some y=>bif Nat.blt i xs.length && valT v.t then setP t (xs.set i y) r else none
  | none=>none
def litV (P:Program) (t:TypeId) (len:Nat) (parts:List (Nat×V)):Option Res:=
 match elemV P t with
 | some (z,_)=>bif Nat.ble (len*width z.t) 16777216 then match setP z.t (List.replicate len z.x) parts with
  | some l=>some (.new (.arr z.t (some l)))
  | none=>match parts with
   | [(i,v)]=>bif Nat.beq len 1 && (Nat.beq i 0 && likeT z.t v.t) then some (.new (.arr v.t (some [v.x]))) else none
   | (_,⟨.hd p,_⟩) :: _=>match z with
    | ⟨.sl _,none⟩=>match setP (.hd p) (List.replicate len none) parts with
     | some l=>some (.new (.arr (.hd p) (some l)))
     | none=>none
    | _=>none
   | _=>none
  else none
 | none=>none
theorem setP_ok {t:Ty}:∀ (parts:List (Nat×V)) (vals:List (Nat×Value)) (xs ys:List (den t)) (cells:Array Value),parts.length=vals.length->
 (∀ (k:Nat) (p:Nat×V) (q:Nat×Value),parts[k]?=some p->vals[k]?=some q->p.1=q.1/\vrep w F ι p.2.t p.2.x q.2)->Lies w F ι t xs cells.toList 0->cells.size=xs.length*width t->setP t xs parts=some ys->
 ∃ cells',Instr.fill (fun i=>some (i*width t,width t)) cells vals=some cells'/\Lies w F ι t ys cells'.toList 0/\cells'.size=ys.length*width t/\ys.length=xs.length:=by
 intro parts
 induction parts with
 | nil=>
  intro vals xs ys cells hl _ hx hc h
  cases vals with
  | nil=>simp only[setP,Option.some.injEq] at h;subst h;exact⟨cells,rfl,hx,hc,rfl⟩
  | cons q vals=>simp at hl
 | cons p parts ih=>
  intro vals xs ys cells hl hv hx hc h
  cases vals with
  | nil=>simp at hl
  | cons q vals=>
   obtain⟨i,v⟩:=p
   obtain⟨i',x⟩:=q
   obtain⟨rfl,hvx⟩:=hv 0 (i,v) (i',x) rfl rfl
   simp only[setP] at h
   split at h<;>try (simp at h;done)
   rename_i y hy
   cases hb:(Nat.blt i xs.length && valT v.t)<;>rw[hb] at h<;>simp only[cond_true,cond_false,reduceCtorEq] at h
   simp only[Bool.and_eq_true] at hb
   obtain⟨hi,hval⟩:=hb
   replace hi:i<xs.length:=Nat.le_of_ble_eq_true hi
   have hcells:=coe_rep (fun _ h=>h) q2i _ _ _ _ _ (vrep_cells (valT_or hval) hvx) hy
   have hlen:=rep_length _ _ _ hcells
   have hle:i*width t+width t<=xs.length*width t:=by rw[<-Nat.succ_mul];exact Nat.mul_le_mul_right _ hi
   have hlen':x.cells.size=width t:=by simpa using hlen
   have hsp:(x.cells.zipIdx.foldl (fun cs (p:Value×Nat)=>cs.setIfInBounds (i*width t+p.2) p.1) cells).toList=splice cells.toList (i*width t) x.cells.toList:=by
    have:=q5q x.cells.toList (i*width t) 0 cells (by simp[hlen'];omega)
    rw[Nat.add_zero] at this
    rw[<-this,<-Array.foldl_toList];simp
   have hsl:=q1U cells.toList (i*width t) x.cells.toList (by rw[hlen];simp;omega)
   have e:Instr.fill (fun i=>some (i*width t,width t)) cells ((i,x) :: vals)=Instr.fill (fun i=>some (i*width t,width t)) (x.cells.zipIdx.foldl (fun cs (p:Value×Nat)=>cs.setIfInBounds (i*width t+p.2) p.1) cells) vals:=by
    rw[Instr.fill]
    simp only
    rw[if_neg]
    simp[hlen']
    omega
   rw[e]
   have hsz:(x.cells.zipIdx.foldl (fun cs (p:Value×Nat)=>cs.setIfInBounds (i*width t+p.2) p.1) cells).size=xs.length*width t:=by
    rw[<-Array.length_toList,hsp,hsl,Array.length_toList,hc]
   obtain⟨cells',z1,z2,z3,z4⟩:=ih vals (xs.set i y) ys (x.cells.zipIdx.foldl (fun cs (p:Value×Nat)=>cs.setIfInBounds (i*width t+p.2) p.1) cells) (by simpa using hl)
    (fun k p q hp hq=>hv (k+1) p q hp hq) (by
     intro j z hz
     rw[hsp,Nat.zero_add]
     have hsg:=q3n cells.toList (i*width t) x.cells.toList (j*width t) (width t) (by rw[hlen];simp;omega)
     by_cases hij:j=i
     . subst hij
       rw[List.getElem?_set_self hi] at hz
       simp only[Option.some.injEq] at hz;subst hz
       rw[hsg.2 (Nat.le_refl _) (by rw[hlen];exact Nat.le_refl _),Nat.sub_self,q18 _ _ hlen];exact hcells
     . rw[List.getElem?_set_ne (fun e=>hij e.symm)] at hz
       rw[hsg.1 (by
        rcases Nat.lt_or_gt_of_ne hij with hlt | hgt
        . left;rw[<-Nat.succ_mul];exact Nat.mul_le_mul_right _ hlt
        . right;rw[hlen,<-Nat.succ_mul];exact Nat.mul_le_mul_right _ hgt)]
       have:=hx j z hz;rwa [Nat.zero_add] at this) (by rw[hsz];simp) h
   exact⟨cells',z1,z2,z3,by rw[z4];simp⟩
def buildA (P:Program) (t:TypeId) (parts:List (Nat×V)):Option V:=
 match zeroV P t with
 | some ⟨.arr n ty,l⟩=>match P.underlying t with
  | some (.array _ e)=>match tinf P e with
   | some (_,k)=>bif Nat.beq k (width ty) then match setP ty l parts with
    | some ys=>some ⟨.arr n ty,(ys:List (den ty))⟩
    | none=>none else none
   | none=>none
  | _=>none
 | _=>none
theorem buildA_ok {t:TypeId} {parts:List (Nat×V)} {vals:List (Nat×Value)} {u:V} (hl:parts.length=vals.length)
 (hv:∀ (k:Nat) (p:Nat×V) (q:Nat×Value),parts[k]?=some p->vals[k]?=some q->p.1=q.1/\vrep w F ι p.2.t p.2.x q.2) (h:buildA P t parts=some u):
 ∃ r,(Instr.build t vals.toArray).run P w=.ok r w/\vrep w F ι u.t u.x r:=by
 unfold buildA at h
 split at h<;>try (simp at h;done)
 rename_i n ty l hz
 split at h<;>try (simp at h;done)
 rename_i m e ht
 split at h<;>try (simp at h;done)
 rename_i ag k hti
 cases hb:Nat.beq k (width ty)<;>rw[hb] at h<;>simp only[cond_true,cond_false,reduceCtorEq] at h
 obtain rfl:=Nat.eq_of_beq_eq_true hb
 split at h<;>try (simp at h;done)
 rename_i ys hset
 simp only[Option.some.injEq] at h;subst h
 obtain⟨zv,h1,h2,h3⟩:=q6p hz w
 have hr:=h3 F ι
 simp only[rep] at hr
 obtain⟨q1,q2,q3⟩:=hr
 obtain⟨cells',z1,z2,z3,z4⟩:=setP_ok (w:=w) (F:=F) (ι:=ι) parts vals l ys zv.cells hl hv (fun j y hy=>by rw[Nat.zero_add];exact q3 j y hy) (by rw[q1,<-q2,Array.length_toList]) hset
 refine⟨.agg cells',?_,q1W rfl ?_⟩
 . simp only[Instr.build,Sem.run_bind,h1,Result.andThen_ok,run_underlying ht,(tinf_run hti w).2,z1,Sem.run_pure]
 . simp only[rep]
   exact⟨by rw[z4,q1],by rw[Array.length_toList,z3,z4,q1],fun i y hy=>by have:=z2 i y hy;rwa [Nat.zero_add] at this⟩
theorem lit_fin {t:TypeId} {len bytes:Nat} {z:V} {parts:List (Nat×V)} {vals:List (Nat×Value)} (hl:parts.length=vals.length)
 (hv:∀ (k:Nat) (p:Nat×V) (q:Nat×Value),parts[k]?=some p->vals[k]?=some q->p.1=q.1/\vrep w F ι p.2.t p.2.x q.2) (he:elemV P t=some (z,bytes)) (hb:Nat.ble (len*width z.t) 16777216=true)
 {ty:Ty} (hw:width ty=width z.t) (hu:ty=.int .u8->z.t=.int .u8) {x0:den ty} (hx0:∀ cs,rep w F ι z.t z.x cs->rep w F ι ty x0 cs) {l:List (den ty)} (hset:setP ty (List.replicate len x0) parts=some l):
 ∃ (cells:Array Value) (e:TypeId),l.length*width ty<=cells.size/\Lies w F ι ty l cells.toList 0/\(ty=.int .u8->e=(u8of P).1) /\
  (Instr.buildSlice t len vals.toArray).run P w=.ok (.slice (some ⟨w.heap.size,0,none⟩) l.length l.length) (w.alloc (.cells cells e)):=by
 obtain⟨e,i,zv,ht,hi,hz,e1,e2,p1,p2,e3,hval,hu8,hrep⟩:=q1I he
 rw[<-hw] at hb e1 e3 p1
 have hlies:Lies w F ι ty (List.replicate len x0) (madeCells zv.cells (len*width ty)).toList 0:=by
  intro j y hy
  have hj:j<len:=by
   rcases Nat.lt_or_ge j len with q | q
   . exact q
   . rw[List.getElem?_eq_none (by simpa using q)] at hy;simp at hy
  rw[List.getElem?_replicate,if_pos hj] at hy
  simp only[Option.some.injEq] at hy;subst hy
  rw[Nat.zero_add,<-e3,q7O _ _ _ hj]
  exact hx0 _ (hrep w F ι)
 obtain⟨cells',z1,z2,z3,z4⟩:=setP_ok parts vals _ _ (madeCells zv.cells (len*width ty)) hl hv hlies (by rw[size_madeCells];simp) hset
 simp only[List.length_replicate] at z4
 refine⟨cells',e,by rw[z3];exact Nat.le_refl _,z2,fun h=>hu8 (hu h),?_⟩
 have hn:¬ 16777216<len*width ty:=by have:=Nat.le_of_ble_eq_true hb;omega
 have hsize:(sizeOf e).run P w=.ok (width ty) w:=by simp[sizeOf,q1R hi,e1]
 rcases Nat.eq_zero_or_pos (len*width ty) with h0 | h0
 . have hm:madeCells zv.cells (len*width ty) = #[]:=by rw[h0];simp[madeCells]
   rw[hm] at z1
   have hr:∀ f:Nat->Value,Array.map f (Array.range 0) = #[]:=fun f=>by simp[Array.range]
   simp[Instr.buildSlice,run_underlying ht,hsize,h0,hr,z1,newRow,z4]
 . have h0':¬ (len*width ty=0):=by omega
   have hm:(Array.range (len*width ty)).map (fun x=>zv.cells[x % zv.cells.size]!)=madeCells zv.cells (len*width ty):=rfl
   have hmul:¬ (len=0∨width ty=0):=by
    rintro (e | e)<;>rw[e] at h0<;>simp at h0
   simp only[Instr.buildSlice,Sem.run_bind,run_underlying ht,Result.andThen_ok,hsize,Sem.run_ite,gt_iff_lt,show (2 ^ 24:Nat)=16777216 from rfl,hn,if_false,h0',Sem.run_pure,zeroValue,q1R hi,hz,hm,z1]
   simp[newRow,z4]
theorem lit_run {t:TypeId} {len:Nat} {parts:List (Nat×V)} {vals:List (Nat×Value)} {r:Res} (hl:parts.length=vals.length)
 (hv:∀ (k:Nat) (p:Nat×V) (q:Nat×Value),parts[k]?=some p->vals[k]?=some q->p.1=q.1/\vrep w F ι p.2.t p.2.x q.2) (h:litV P t len parts=some r):
 ∃ (ty:Ty) (l:List (den ty)) (cells:Array Value) (e:TypeId),r=.new (.arr ty (some l))/\valT ty=true/\l.length*width ty<=cells.size/\Lies w F ι ty l cells.toList 0/\(ty=.int .u8->e=(u8of P).1) /\
  (Instr.buildSlice t len vals.toArray).run P w=.ok (.slice (some ⟨w.heap.size,0,none⟩) l.length l.length) (w.alloc (.cells cells e)):=by
 unfold litV at h
 split at h<;>try (simp at h;done)
 rename_i z bytes he
 cases hb:Nat.ble (len*width z.t) 16777216<;>rw[hb] at h<;>simp only[cond_true,cond_false,reduceCtorEq] at h
 split at h
 rotate_left
 . split at h<;>try (simp at h;done)
   rotate_left
   . split at h<;>try (simp at h;done)
     rename_i hd0 u
     split at h<;>try (simp at h;done)
     rename_i l hset
     simp only[Option.some.injEq] at h;subst h
     obtain⟨cells,e,q1,q2,q3,q4⟩:=lit_fin hl hv he hb (ty:=.hd _) rfl (fun e=>by cases e) (x0:=none) (fun cs h=>h) hset
     exact⟨_,l,cells,e,rfl,rfl,q1,q2,q3,q4⟩
   rename_i i0 v _
   obtain⟨hlk,e⟩:=bif_some h
   subst e
   simp only[Bool.and_eq_true,Nat.beq_eq] at hlk
   obtain⟨rfl,rfl,hlk⟩:=hlk
   obtain⟨e,i,zv,ht,hi,hz,e1,e2,p1,p2,e3,hval,hu8⟩:=(elemV_as he).like hlk
   cases vals with
   | nil=>simp at hl
   | cons q vals=>
   cases vals with
   | cons _ _=>simp at hl
   | nil=>
   obtain⟨k,x⟩:=q
   obtain⟨e0,hvx⟩:=hv 0 (0,v) (k,x) rfl rfl
   simp only at e0
   subst e0
   have hcells:=vrep_cells (valT_or hval) hvx
   have hlen:=rep_length _ _ _ hcells
   have hlen':x.cells.size=width v.t:=by simpa using hlen
   have hw1:width z.t=width v.t:=(likeT_ok _ _ hlk).1.symm
   have hn:¬ 16777216<width v.t:=by have:=Nat.le_of_ble_eq_true hb;rw[Nat.one_mul] at this;omega
   have hsize:(sizeOf e).run P w=.ok (width v.t) w:=by simp[sizeOf,q1R hi,e1]
   have hm:(Array.range (width v.t)).map (fun y=>zv.cells[y % zv.cells.size]!)=madeCells zv.cells (width v.t):=rfl
   have hms:(madeCells zv.cells (width v.t)).size=width v.t:=by rw[size_madeCells]
   have hfill:∃ cells',Instr.fill (fun i=>some (i*width v.t,width v.t)) (madeCells zv.cells (width v.t)) [(0,x)]=some cells'/\cells'.toList=x.cells.toList:=by
    have hsp:(x.cells.zipIdx.foldl (fun cs (p:Value×Nat)=>cs.setIfInBounds (0*width v.t+p.2) p.1) (madeCells zv.cells (width v.t))).toList=splice (madeCells zv.cells (width v.t)).toList (0*width v.t) x.cells.toList:=by
     have:=q5q x.cells.toList (0*width v.t) 0 (madeCells zv.cells (width v.t)) (by simp[hlen',hms])
     rw[Nat.add_zero] at this
     rw[<-this,<-Array.foldl_toList];simp
    refine⟨x.cells.zipIdx.foldl (fun cs (p:Value×Nat)=>cs.setIfInBounds (0*width v.t+p.2) p.1) (madeCells zv.cells (width v.t)),?_,?_⟩
    . rw[Instr.fill]
      simp only
      rw[if_neg]
      . rfl
      . simp[hlen',hms]
    . rw[hsp,Nat.zero_mul]
      simp only[splice,List.take_zero,List.nil_append,Nat.zero_add]
      rw[List.drop_eq_nil_of_le (by simp[hlen',hms])]
      simp
   obtain⟨cells',z1,z2⟩:=hfill
   refine⟨v.t,[v.x],cells',e,rfl,hval,?_,?_,hu8,?_⟩
   . have:cells'.size=width v.t:=by rw[<-Array.length_toList,z2,Array.length_toList,hlen']
     simp[this]
   . intro j y hy
     cases j with
     | zero=>
      simp only[List.getElem?_cons_zero,Option.some.injEq] at hy
      subst hy
      rw[z2,Nat.zero_mul,Nat.zero_add,q18 _ _ hlen];exact hcells
     | succ j=>simp at hy
   . have h0':¬ (width v.t=0):=by omega
     simp only[Instr.buildSlice,Sem.run_bind,run_underlying ht,Result.andThen_ok,hsize,Sem.run_ite,gt_iff_lt,show (2 ^ 24:Nat)=16777216 from rfl,Nat.one_mul,hn,if_false,h0',Sem.run_pure,zeroValue,q1R hi,hz,hm,z1]
     simp[newRow]
 rename_i l hset
 simp only[Option.some.injEq] at h;subst h
 obtain⟨_,_,_,_,_,_,_,_,_,_,_,hval,_⟩:=q1I he
 obtain⟨cells,e,q1,q2,q3,q4⟩:=lit_fin hl hv he hb rfl id (fun _ h=>h) hset
 exact⟨z.t,l,cells,e,rfl,hval,q1,q2,q3,q4⟩
theorem litV_ok (h8:base.u8=u8of P) (hs:Sim base w0 F0 F ι st a w) {t:TypeId} {d len:Nat} {parts:List (Nat×V)} {vals:List (Nat×Value)} {r:Res} (hd:st.used d=false) (hl:parts.length=vals.length)
 (hv:∀ (k:Nat) (p:Nat×V) (q:Nat×Value),parts[k]?=some p->vals[k]?=some q->p.1=q.1/\vrep w F ι p.2.t p.2.x q.2) (h:litV P t len parts=some r):
 r.okNew base w0 F0 F st a w P d (.own d) (Instr.buildSlice t len vals.toArray):=by
 obtain⟨ty,l,cells,e,rfl,hval,hc,hx,hu8,hrun⟩:=lit_run hl hv h
 obtain⟨q1,q2⟩:=q3A hs (d:=d) (e:=e) (cap:=l.length) (cs:=cells) (l:=l) (.inl rfl) hd hval (Nat.le_refl _) hc hx (fun h=>(hu8 h).trans (congrArg Prod.fst h8.symm))
 exact⟨_,_,_,(),hrun,q1,q2⟩
end
end Go.VM
namespace Go.VM
open Go Go.RowKit
section
variable {P:Program} {base:Mine} {w0 w:World} {F0 F:Nat->Prop} {ι:Nat->Option Ref} {st:St} {a:Act}
theorem q4w {t t1 ty e:TypeId} {d1:TypeDesc} {i:TypeInfo} {z:Value} (ht:P.underlying t=some (.slice e)) (ht1:P.underlying t1=some d1) (hd1:∀ k,d1≠.int k) (hi:P.info? e=some i) (hz:i.zero=some z)
 {b:Option Addr} {sLen sCap m:Nat} {x:Value} {olds news:List Value} (hx:(Builtin.lenOf x).run P w=.ok m w) (ho:(Builtin.firstCells i.size sLen (.slice b sLen sCap)).run P w.drew=.ok olds.toArray w.drew)
 (hf:(Builtin.firstCells i.size m x).run P w.drew=.ok news.toArray w.drew) (hroom:sCap<sLen+m) (h63:((sLen+m:Nat):Int)<=9223372036854775807) (hfit:Builtin.nextslicecap (sLen+m) sCap*i.bytes<=281474976710656):
 (Builtin.append_ #[t,t1] ty #[.slice b sLen sCap,x]).run P w =
  .ok (.slice (some ⟨w.heap.size,0,none⟩) (sLen+m) (grownCap w (sLen+m) sCap e))
   (w.drew.alloc (.cells (olds.toArray ++ news.toArray ++ Builtin.zeroCells z.cells (grownCap w (sLen+m) sCap e - (sLen+m))) e)):=by
 have hn:¬ (sLen+m<=sCap):=by omega
 have h63':¬ (9223372036854775807<((sLen:Int)+(m:Int))):=by omega
 have h48':¬ (281474976710656<Builtin.nextslicecap (sLen+m) sCap*i.bytes):=by omega
 simp[Builtin.append_,run_underlying ht,run_underlying ht1,sizeOf,typeInfo,zeroValue,hi,hz,hx,hn,h63',h48',Question.forced,newRow,grownCap,ho,hf]
 rw[show (olds ++ news).toArray=olds.toArray ++ news.toArray by simp,Array.append_assoc]
def Src (P:Program) (w:World) (F:Nat->Prop) (ι:Nat->Option Ref) (t:Ty) (ys:Option (List (den t))) (v:Value):Prop:=
 ∃ news:List Value,(∀ w':World,(∀ b:Nat,w'.heap[b]?=w.heap[b]?)->(Builtin.lenOf v).run P w'=.ok (ys.getD []).length w'/\∀ n,n<=(ys.getD []).length->(Builtin.firstCells (width t) n v).run P w'=.ok (news.take (n*width t)).toArray w') /\
  news.length=(ys.getD []).length*width t/\Lies w F ι t (ys.getD []) news 0
theorem Src.full {t:Ty} {ys:Option (List (den t))} {v:Value} (h:Src P w F ι t ys v):
 ∃ news:List Value,(∀ w':World,(∀ b:Nat,w'.heap[b]?=w.heap[b]?)->(Builtin.lenOf v).run P w'=.ok (ys.getD []).length w'/\(Builtin.firstCells (width t) (ys.getD []).length v).run P w'=.ok news.toArray w') /\
 news.length=(ys.getD []).length*width t/\Lies w F ι t (ys.getD []) news 0:=by
 obtain⟨news,h1,h2,h3⟩:=h
 refine⟨news,fun w' hw=>⟨(h1 w' hw).1,?_⟩,h2,h3⟩
 have:=(h1 w' hw).2 _ (Nat.le_refl _)
 rwa [List.take_of_length_le (by omega)] at this
theorem q4l {t:Ty}:Src P w F ι t none (.slice none 0 0):=
 ⟨[],fun w' _=>⟨by simp[Builtin.lenOf],fun n _=>by simp[Builtin.firstCells]⟩,by simp,by intro i y hy;simp at hy⟩
theorem src_empty {t:Ty} {a:Addr} {cap:Nat}:Src P w F ι t (some []) (.slice (some a) 0 cap):=
 ⟨[],fun w' _=>⟨by simp[Builtin.lenOf],fun n hn=>by
  obtain rfl:n=0:=by simpa using hn
  simp[Builtin.firstCells,loadCells,loadCellsFrom]⟩,by simp,by intro i y hy;simp at hy⟩
theorem q4m {t:Ty} {l:List (den t)} {blk off cap:Nat} {cells:Array Value} {el:TypeId} {fz:Nat×Nat} (hw:0<width t) (hb:w.heap[blk]?=some (.cells cells el fz)) (hr:Lies w F ι t l cells.toList off):
 Src P w F ι t (some l) (.slice (some ⟨blk,off,none⟩) l.length cap):=by
 obtain⟨q1,q2⟩:=q7b hw hr
 refine⟨seg cells.toList off (l.length*width t),fun w' hw'=>⟨by simp[Builtin.lenOf],fun n hn=>?_⟩,q1,q2⟩
 have hn':n*width t<=l.length*width t:=Nat.mul_le_mul_right _ hn
 refine run_firstCells_some (P:=P) w' _ _ _ _ _ _ (by rw[List.length_take,q1];omega) ?_
 intro j v hj
 have hj0:j<n*width t:=by
  rcases Nat.lt_or_ge j (n*width t) with h | h
  . exact h
  . rw[List.getElem?_eq_none (by simp;omega)] at hj;simp at hj
 have hj':j<l.length*width t:=by omega
 rw[List.getElem?_take,if_pos hj0] at hj
 rw[q0m,q1F ((hw' blk).trans hb),<-q0y _ _ _ _ hj'];exact hj
theorem src_ok {hp:Nat->Option Blk} (hh:q0f w base F ι hp) {t u:Ty} {x:den u} {ys:Option (List (den t))} {v:Value} (hw:0<width t) (hv:vrep w F ι u x v) (h:coe hp (.sl t) u x=some ys):Src P w F ι t ys v:=by
 rw[q13] at h
 rcases coeS_some h with ⟨rfl,rfl⟩ | ⟨b,l,rfl,hb,rfl⟩ | ⟨rfl,rfl⟩ | ⟨b,l,rfl,hb,rfl⟩ | ⟨p,ls,rfl,hb,rfl⟩
 . rw[q0r] at hv;subst hv;exact q4l
 . obtain⟨r,hr,q0,q⟩:=hh _ _ hb
   rw[vrep_cell rfl] at hv;simp only[rep] at hv
   obtain⟨r',hr',e⟩:=hv
   rw[hr] at hr';cases hr'
   simp only[List.cons.injEq,and_true] at e;subst e
   cases ys with
   | none=>simp only at q;simp only[Ref.val,q,if_true];exact q4l
   | some l=>
    obtain⟨q1,q2,q3,q4,q5,q6,cells,el,qe,q7,q8,q9⟩:=q
    simp only[Ref.val,q1,Bool.false_eq_true,if_false,q3]
    exact q4m hw q7 q9
 . rw[vrep_cell rfl] at hv
   cases x with
   | none=>simp only[rep,List.cons.injEq,and_true] at hv;subst hv;exact q4l
   | some l=>
    simp only[rep] at hv
    obtain⟨⟨blk,off,sp⟩,cap,e',hl,hr⟩:=hv
    simp only[List.cons.injEq,and_true] at e';subst e'
    by_cases hne:l=[]
    . subst hne;exact src_empty
    replace hr:=hr hne
    obtain⟨cells,el,fz,hs,hf,hb,hr⟩:=hr
    dsimp only at hs hf hb hr
    subst hs
    exact q4m hw hb hr
 . obtain⟨r,hr,q0,q⟩:=hh _ _ hb
   rw[vrep_cell rfl] at hv;simp only[rep] at hv
   obtain⟨r',hr',hn,h0,h1,h2,e⟩:=hv
   rw[hr] at hr';cases hr'
   simp only[List.cons.injEq,and_true] at e;subst e
   cases l with
   | none=>simp only at q;rw[q] at hn;simp at hn
   | some l=>
    obtain⟨q1,q2,q3,q4,q5,q6,cells,el,qe,q7,q8,q9⟩:=q
    obtain⟨i,j⟩:=x
    simp only at h0 h1 h2
    have e5:((l.take j.toNat).drop i.toNat).length=j.toNat - i.toNat:=by simp;omega
    simp only[Option.map_some,Ref.view]
    rw[<-e5]
    refine q4m hw q7 ?_
    intro k z hz
    have hk:k<j.toNat - i.toNat:=by
     rcases Nat.lt_or_ge k (j.toNat - i.toNat) with q | q
     . exact q
     . rw[List.getElem?_eq_none (by omega)] at hz;simp at hz
    rw[if_neg (by omega),q2]
    have:=q9 (i.toNat+k) z (by rw[<-hz];simp[List.getElem?_take];omega)
    rw[Nat.add_mul,<-Nat.add_assoc] at this
    exact this
 . rw[vrep_cell rfl] at hv
   cases x with
   | none=>simp only[rep,List.cons.injEq,and_true] at hv;subst hv;exact q4l
   | some n=>
    simp only[rep] at hv
    obtain⟨r,hr,hn,e⟩:=hv
    simp only[List.cons.injEq,and_true] at e;subst e
    obtain⟨_,_,_,_,_,q4,q5⟩:=hh _ _ hb
    have hlt:n<ls.length:=by
     rcases Nat.lt_or_ge n ls.length with h1 | h1
     . exact h1
     . rw[q4 n h1] at hr;cases hr
    obtain⟨s,hs',a1,a2,a3,a4,a5,a6,cells,el,ae,a7,a8,a9⟩:=q5 n _ (List.getElem?_eq_getElem hlt)
    rw[hr] at hs';cases hs'
    have e:ls.getD n []=ls[n]:=by simp[List.getD,List.getElem?_eq_getElem hlt]
    simp only[unH,Option.map_some,e,Ref.val,a1,Bool.false_eq_true,if_false,a3]
    exact q4m hw a7 a9
def bytesI (s:ByteArray):List Int:=s.data.toList.map fun b=>(b.toNat:Int)
theorem src_str {s:ByteArray}:Src P w F ι (.int .u8) (some (bytesI s)) (.string s):=by
 refine⟨s.data.toList.map fun b=>.int .u8 b.toNat,fun w' _=>⟨?_,fun n _=>?_⟩,by simp[bytesI,width],?_⟩
 . have e:s.size=s.data.toList.length:=by rw[Array.length_toList];rfl
   simp only[Builtin.lenOf,bytesI,Option.getD_some,List.length_map,<-e,Sem.run_pure]
 . have e:(Array.map (fun b=>Value.int IntKind.u8 (b.toNat:Int)) (s.extract 0 n).data)=(List.take n (s.data.toList.map fun b=>Value.int .u8 b.toNat)).toArray:=by
    apply Array.toList_inj.1
    simp
   simp only[Builtin.firstCells,width,Nat.mul_one,<-e,Sem.run_pure]
 . intro i y hy
   replace hy:(bytesI s)[i]?=some y:=hy
   simp only[bytesI,List.getElem?_map,Option.map_eq_some_iff] at hy
   obtain⟨b,hb,rfl⟩:=hy
   have h1:=q0y (s.data.toList.map fun b=>Value.int .u8 b.toNat) i 1 0 (by omega)
   have h2:(seg (s.data.toList.map fun b=>Value.int .u8 b.toNat) i 1).length<=1:=by simp[seg];omega
   simp only[width,Nat.mul_one,Nat.zero_add,rep]
   simp only[Nat.add_zero,List.getElem?_map,hb,Option.map_some] at h1
   generalize seg (s.data.toList.map fun b=>Value.int .u8 b.toNat) i 1=c at h1 h2
   match c,h1,h2 with
   | [x],h1,_=>simpa using h1
def srcV (P:Program) (hp:Nat->Option Blk) (z:Ty) (t1:TypeId) (x:V):Option (Option (List (den z))):=
 match P.underlying t1 with
 | some (.slice _)=>coe hp (.sl z) x.t x.x
 | some .string=>match x with
  | ⟨.str,s⟩=>castT (.sl z) (.sl (.int .u8)) (some (bytesI s))
  | _=>none
 | _=>none
theorem q6f {hp:Nat->Option Blk} (hh:q0f w base F ι hp) {z:Ty} {t1:TypeId} {x:V} {ys:Option (List (den z))} {v:Value} (hw:0<width z) (hv:vrep w F ι x.t x.x v) (h:srcV P hp z t1 x=some ys):
 Src P w F ι z ys v/\∃ d1,P.underlying t1=some d1/\∀ k,d1≠.int k:=by
 unfold srcV at h
 split at h<;>try (simp at h;done)
 . rename_i e ht
   exact⟨src_ok hh hw hv h,_,ht,by intro k;simp⟩
 . rename_i ht
   split at h<;>try (simp at h;done)
   obtain⟨e,h⟩:=castT_some h
   rw[q0s] at hv;subst hv
   cases e
   cases h
   exact⟨src_str,_,ht,by intro k;simp⟩
def appL {α:Type} (l:Option (List α)) (ys:List α):Option (List α):=
 match l with
 | none=>bif ys.isEmpty then none else some ys
 | some xs=>some (appS xs ys)
def appC {α:Type} (bytes:Nat) (l:Option (List α)) (ys:List α):Prop:=((l.getD []).length+ys.length)*bytes<=140737488355328
def q0X (P:Program) (hp:Nat->Option Blk) (t t1:TypeId) (s x:V):Option (Option Nat×Prop×Blk):=
 match elemV P t with
 | some (z,bytes)=>match srcV P hp z.t t1 x with
  | some ys=>match s with
   | ⟨.own b,_⟩=>match hp b with
    | some (.arr t' l)=>match castT (.sl z.t) (.sl t') l with
     | some l=>some (some b,appC bytes l (lst ys),.arr z.t (appL l (lst ys)))
     | none=>none
    | _=>none
   | ⟨.cst .nilSl,_⟩=>some (none,appC bytes (none:Option (List (den z.t))) (lst ys),.arr z.t (appL none (lst ys)))
   | ⟨.sl _,none⟩=>some (none,appC bytes (none:Option (List (den z.t))) (lst ys),.arr z.t (appL none (lst ys)))
   | _=>none
  | none=>match s with
   | ⟨.own b,_⟩=>match hp b with
    | some (.arr t' l)=>bif likeT z.t t' then match srcV P hp t' t1 x with
     | some ys=>some (some b,appC bytes l (lst ys),.arr t' (appL l (lst ys)))
     | none=>none
     else none
    | _=>none
   | _=>none
 | none=>none
def cpyN {α:Type} (l h:Int) (ys:Option (List α)):Int:=min (h - l) ((ys.getD []).length:Int)
def cpyS {α:Type} (x:Option (List α)) (l h:Int) (ys:Option (List α)):Option (List α):=
 x.map fun y=>y.take l.toNat ++ (ys.getD []).take (h.toNat - l.toNat) ++ y.drop (l.toNat+min (h.toNat - l.toNat) (ys.getD []).length)
def copyV (P:Program) (hp:Nat->Option Blk) (t:TypeId) (x s:V):Option (Nat×Blk×Int):=
 match P.underlying t with
 | some (.slice e)=>match tinf P e with
  | some (_,n)=>match x with
   | ⟨.vw b,p⟩=>match hp b with
    | some (.arr ty y)=>bif Nat.beq n 1 && Nat.beq (width ty) 1 then match coe hp (.sl ty) s.t s.x with
     | some ys=>some (b,.arr ty (cpyS y p.1 p.2 ys),cpyN p.1 p.2 ys)
     | none=>none
     else none
    | _=>none
   | _=>none
  | none=>none
 | _=>none
theorem copyV_ok (hs:Sim base w0 F0 F ι st a w) {t t1 ty:TypeId} {x s:V} {vx vs:Value} {b:Nat} {k:Blk} {n:Int} (hx:vrep w F ι x.t x.x vx) (hv:vrep w F ι s.t s.x vs) (h:copyV P st.heap t x s=some (b,k,n)):
 ∃ w',(Builtin.copy_ #[t,t1] ty #[vx,vs]).run P w=.ok (.int .i64 n) w'/\Sim base w0 F0 F ι { st with heap:=upd st.heap b (some k) } a w':=by
 unfold copyV at h
 split at h<;>try (simp at h;done)
 rename_i e ht
 split at h<;>try (simp at h;done)
 rename_i ag m hm
 split at h<;>try (simp at h;done)
 rename_i b' p
 split at h<;>try (simp at h;done)
 rename_i ty' y hb
 cases hc:(Nat.beq m 1 && Nat.beq (width ty') 1)<;>rw[hc] at h<;>simp only[cond_true,cond_false,reduceCtorEq] at h
 simp only[Bool.and_eq_true,Nat.beq_eq] at hc
 obtain⟨rfl,hw1⟩:=hc
 split at h<;>try (simp at h;done)
 rename_i ys hys
 simp only[Option.some.injEq,Prod.mk.injEq] at h
 obtain⟨rfl,rfl,rfl⟩:=h
 obtain⟨news,hn1,hn2,hn3⟩:=src_ok (P:=P) hs.heap (by omega) hv hys
 obtain⟨i,j⟩:=p
 rw[vrep_cell rfl] at hx;simp only[rep] at hx
 obtain⟨r,hr,hnil,h0,h1,h2,e2⟩:=hx
 simp only[List.cons.injEq,and_true] at e2;subst e2
 obtain⟨r',hr',hk⟩:=hs.heap _ _ hb
 rw[hr] at hr';cases hr'
 have hk':=hk
 obtain⟨q0,q⟩:=hk
 cases y with
 | none=>simp only at q;rw[q] at hnil;simp at hnil
 | some y=>
  obtain⟨q1,q2,q3,q4,q5,q6,cells,el,qe,q7,q8,q9⟩:=q
  replace h0:0<=i:=h0
  replace h1:i<=j:=h1
  replace h2:j<=(r.len:Int):=h2
  obtain⟨hlen,hcells⟩:=hn1 w (fun _=>rfl)
  rw[hw1,Nat.mul_one] at hn2
  have hcells:=hcells (min (ys.getD []).length (j.toNat - i.toNat)) (Nat.min_le_left _ _)
  rw[hw1,Nat.mul_one] at hcells
  have hl:(news.take (min (ys.getD []).length (j.toNat - i.toNat))).length=min (ys.getD []).length (j.toNat - i.toNat):=by rw[List.length_take,hn2];omega
  have hcap:r.off+r.cap<=cells.size:=by rw[q2,hw1,Nat.mul_one] at q8;exact q8
  have hone:∀ u∈news.take (min (ys.getD []).length (j.toNat - i.toNat)),u.oneCell'=true:=by
   intro u hu
   have hn2':news.length=(ys.getD []).length*width ty':=by rw[hw1,Nat.mul_one];exact hn2
   exact lies_one hn3 hn2' u (List.mem_of_mem_take hu)
  have hrun:∃ w',w'=w.setRow r.blk (splice cells.toList (r.off+i.toNat) (news.take (min (ys.getD []).length (j.toNat - i.toNat)))).toArray /\
   (Builtin.copy_ #[t,t1] ty #[r.view i j,vs]).run P w=.ok (.int .i64 (cpyN i j ys)) w':=by
   have hn:goInt ((min (ys.getD []).length (j.toNat - i.toNat):Nat):Int)=.int .i64 (cpyN i j ys):=by
    simp only[goInt,cpyN];congr 1;omega
   have hinfo:∃ inf,P.info? e=some inf/\inf.size=1:=by
    have h3:=(tinf_run hm w).2
    unfold sizeOf typeInfo at h3
    cases hi:P.info? e with
    | none=>simp[hi,run_program] at h3
    | some inf=>simp[hi,run_program] at h3;exact⟨inf,rfl,h3⟩
   refine⟨_,rfl,?_⟩
   have hmin:Nat.min (ys.getD []).length (j.toNat - i.toNat)=min (ys.getD []).length (j.toNat - i.toNat):=rfl
   by_cases hce:r.cap=i.toNat
   . have hz:min (ys.getD []).length (j.toNat - i.toNat)=0:=by omega
     rw[hz] at hcells hn ⊢
     have hself:w.setRow r.blk (splice cells.toList (r.off+i.toNat) (news.take 0)).toArray=w:=by
      have:(splice cells.toList (r.off+i.toNat) (news.take 0)).toArray=cells:=by simp[splice]
      rw[this];exact setRow_self w _ _ _ _ q7
     rw[hself]
     simp[Builtin.copy_,Ref.view,hmin,hz,run_underlying ht,hlen,(tinf_run hm w).2,hcells,storeCells]
     exact hn
   . have hst:=run_storeCells_at P r.blk (r.off+i.toNat) el (news.take (min (ys.getD []).length (j.toNat - i.toNat))) 0 cells w q7 (by rw[hl];omega) hone
     simp only[Nat.add_zero] at hst
     simp[Builtin.copy_,Ref.view,hmin,hce,q2,hw1,run_underlying ht,hlen,(tinf_run hm w).2,hcells,hst,hn,splice]
  obtain⟨w',hw',hrun⟩:=hrun
  refine⟨w',hrun,?_⟩
  subst hw'
  have a1:i.toNat<=j.toNat:=by omega
  have a2:j.toNat<=r.len:=by omega
  have a3:min (ys.getD []).length (j.toNat - i.toNat)<=j.toNat - i.toNat:=Nat.min_le_right _ _
  have hF:∀ c,F c->(w.setRow r.blk (splice cells.toList (r.off+i.toNat) (news.take (min (ys.getD []).length (j.toNat - i.toNat)))).toArray).heap[c]?=w.heap[c]?:=fun c hc=>setRow_other w _ c _ (fun e=>q6 (by rw[<-e];exact hc))
  have hfit:r.off+i.toNat+(news.take (min (ys.getD []).length (j.toNat - i.toNat))).length<=cells.toList.length:=by rw[hl];simp only[Array.length_toList];omega
  have hsl:=q1U cells.toList (r.off+i.toNat) (news.take (min (ys.getD []).length (j.toNat - i.toNat))) hfit
  refine hs.write hb hr hnil q5 q6 ⟨q0,?_⟩
  simp only[cpyS,Option.map_some]
  refine⟨hnil,q2,?_,q4,q5,q6,_,el,qe,setRow_heap w _ _ _ _ _ q7,?_,?_⟩
  . simp;omega
  . simp only[List.size_toArray,hsl,Array.length_toList];exact q8
  . intro k z hz
    refine rep_mono (fun _ h=>h) (fun _ _ h=>h) hF _ _ _ ?_
    have hsp:=q3n cells.toList (r.off+i.toNat) (news.take (min (ys.getD []).length (j.toNat - i.toNat))) (r.off+k*width ty') (width ty') hfit
    rw[hl,hw1,Nat.mul_one] at hsp
    rw[hw1,Nat.mul_one]
    have lt1:(y.take i.toNat).length=i.toNat:=by rw[List.length_take];omega
    have lt2:((ys.getD []).take (j.toNat - i.toNat)).length=min (ys.getD []).length (j.toNat - i.toNat):=by rw[List.length_take];omega
    have old:y[k]?=some z->(r.off+k+1<=r.off+i.toNat∨r.off+i.toNat+min (ys.getD []).length (j.toNat - i.toNat)<=r.off+k)->rep w F ι ty' z (seg (splice cells.toList (r.off+i.toNat) (news.take (min (ys.getD []).length (j.toNat - i.toNat)))) (r.off+k) 1):=by
     intro hy hor
     rw[hsp.1 hor]
     have:=q9 k z hy
     rwa [hw1,Nat.mul_one] at this
    rcases Nat.lt_or_ge k i.toNat with hk1 | hk1
    . refine old ?_ (.inl (by omega))
      rw[List.append_assoc,List.getElem?_append_left (by omega),List.getElem?_take,if_pos hk1] at hz;exact hz
    . rcases Nat.lt_or_ge k (i.toNat+min (ys.getD []).length (j.toNat - i.toNat)) with hk2 | hk2
      . rw[hsp.2 (by omega) (by omega)]
        have hz':(ys.getD [])[k - i.toNat]?=some z:=by
         rw[List.append_assoc,List.getElem?_append_right (by omega),lt1,List.getElem?_append_left (by omega),List.getElem?_take,if_pos (by omega)] at hz;exact hz
        have:=hn3 (k - i.toNat) z hz'
        rw[hw1,Nat.mul_one,Nat.zero_add] at this
        have e3:seg (news.take (min (ys.getD []).length (j.toNat - i.toNat))) (r.off+k - (r.off+i.toNat)) 1=seg news (k - i.toNat) 1:=by
         have h5:=q2u news 0 (min (ys.getD []).length (j.toNat - i.toNat)) (k - i.toNat) 1 (by omega)
         rw[Nat.zero_add] at h5
         rw[show r.off+k - (r.off+i.toNat)=k - i.toNat by omega,<-h5]
         simp[seg]
        rw[e3];exact this
      . refine old ?_ (.inr (by omega))
        rw[List.getElem?_append_right (by simp;omega)] at hz
        rw[List.getElem?_drop] at hz
        rw[<-hz];congr 1
        simp;omega
def clrS {α:Type} (x:Option (List α)) (l h:Int) (z:α):Option (List α):=x.map fun y=>y.take l.toNat ++ List.replicate (h.toNat - l.toNat) z ++ y.drop h.toNat
def clearV (P:Program) (hp:Nat->Option Blk) (t:TypeId) (x:V):Option (Nat×Blk):=
 match elemV P t with
 | some (z,_)=>match x with
  | ⟨.vw b,p⟩=>match hp b with
   | some (.arr ty y)=>match castT ty z.t z.x with
    | some zx=>bif Nat.beq (width ty) 1 then some (b,.arr ty (clrS y p.1 p.2 zx)) else none
    | none=>none
   | _=>none
  | _=>none
 | none=>none
theorem qd2 {cs:Array Value} {c:Value} (n:Nat) (h:cs.toList=[c]):(Builtin.zeroCells cs n).toList=List.replicate n c:=by
 have h2:cs = #[c]:=by rw[<-Array.toArray_toList (xs:=cs),h]
 subst h2
 simp only[Builtin.zeroCells]
 apply List.ext_getElem
 . simp
 . intro i _ _
   simp[Nat.mod_one]
theorem clearV_ok (hs:Sim base w0 F0 F ι st a w) {t ty:TypeId} {x:V} {vx:Value} {b:Nat} {k:Blk} (hx:vrep w F ι x.t x.x vx) (h:clearV P st.heap t x=some (b,k)):
 ∃ w',(Builtin.clear_ #[t] ty #[vx]).run P w=.ok (.tuple #[]) w'/\Sim base w0 F0 F ι { st with heap:=upd st.heap b (some k) } a w':=by
 unfold clearV at h
 split at h<;>try (simp at h;done)
 rename_i z bytes he
 split at h<;>try (simp at h;done)
 rename_i b' p
 split at h<;>try (simp at h;done)
 rename_i ty' y hb
 split at h<;>try (simp at h;done)
 rename_i zx hz
 obtain⟨hw1,h⟩:=bif_some h
 rw[Nat.beq_eq] at hw1
 simp only[Prod.mk.injEq] at h
 obtain⟨rfl,rfl⟩:=h
 obtain⟨e,inf,zv,ht,hi,hzv,_,_,_,_,hsz,_,_,hrep⟩:=q1I he
 obtain⟨ez,hz⟩:=castT_some hz
 obtain⟨zt,z0⟩:=z
 simp only at ez
 subst ez
 have hz:z0=zx:=hz
 subst hz
 simp only at hsz hrep
 obtain⟨i,j⟩:=p
 rw[vrep_cell rfl] at hx;simp only[rep] at hx
 obtain⟨r,hr,hnil,h0,h1,h2,e2⟩:=hx
 simp only[List.cons.injEq,and_true] at e2;subst e2
 obtain⟨r',hr',hk⟩:=hs.heap _ _ hb
 rw[hr] at hr';cases hr'
 obtain⟨q0,q⟩:=hk
 cases y with
 | none=>simp only at q;rw[q] at hnil;simp at hnil
 | some y=>
  obtain⟨q1,q2,q3,q4,q5,q6,cells,el,qe,q7,q8,q9⟩:=q
  replace h0:0<=i:=h0
  replace h1:i<=j:=h1
  replace h2:j<=(r.len:Int):=h2
  have a1:i.toNat<=j.toNat:=by omega
  have a2:j.toNat<=r.len:=by omega
  obtain⟨c,hc⟩:∃ c,zv.cells.toList=[c]:=by
   rw[hw1] at hsz
   have:zv.cells.toList.length=1:=by simpa using hsz
   match zv.cells.toList,this with
   | [c],_=>exact⟨c,rfl⟩
  have hzr:rep w F ι zt z0 [c]:=hc ▸ hrep w F ι
  have hc1:c.oneCell'=true:=lies_one (w:=w) (F:=F) (ι:=ι) (t:=zt) (l:=[z0]) (cs:=[c]) (by
   intro k u hk
   cases k with
   | zero=>simp only[List.getElem?_cons_zero,Option.some.injEq] at hk;subst hk;simpa[seg,hw1] using hzr
   | succ k=>simp at hk) (by simp[hw1]) c (by simp)
  have hcap:r.off+r.cap<=cells.size:=by rw[q2,hw1,Nat.mul_one] at q8;exact q8
  have hl:(List.replicate (j.toNat - i.toNat) c).length=j.toNat - i.toNat:=List.length_replicate
  have hone:∀ u∈List.replicate (j.toNat - i.toNat) c,u.oneCell'=true:=by
   intro u hu;rw[List.eq_of_mem_replicate hu];exact hc1
  have hzero:∀ w:World,(zeroValue e).run P w=.ok zv w:=by
   intro w
   simp[zeroValue,typeInfo,hi,hzv,run_program]
  have hrun:∃ w',w'=w.setRow r.blk (splice cells.toList (r.off+i.toNat) (List.replicate (j.toNat - i.toNat) c)).toArray /\
   (Builtin.clear_ #[t] ty #[r.view i j]).run P w=.ok (.tuple #[]) w':=by
   refine⟨_,rfl,?_⟩
   cases hn:j.toNat - i.toNat with
   | zero=>
    have hself:w.setRow r.blk (splice cells.toList (r.off+i.toNat) (List.replicate 0 c)).toArray=w:=by
     have:(splice cells.toList (r.off+i.toNat) (List.replicate 0 c)).toArray=cells:=by simp[splice]
     rw[this];exact setRow_self w _ _ _ _ q7
    rw[hself]
    simp[Builtin.clear_,Ref.view,run_underlying ht,hn]
   | succ m=>
    rw[hn] at hl hone
    have hce:¬ r.cap=i.toNat:=by omega
    have hst:=run_storeCells_at P r.blk (r.off+i.toNat) el (List.replicate (m+1) c) 0 cells w q7 (by rw[hl];omega) hone
    simp only[Nat.add_zero] at hst
    simp[Builtin.clear_,Ref.view,hce,q2,hw1,run_underlying ht,hn,hzero,qd2 _ hc,hst,splice]
  obtain⟨w',hw',hrun⟩:=hrun
  refine⟨w',hrun,?_⟩
  subst hw'
  have hF:∀ k,F k->(w.setRow r.blk (splice cells.toList (r.off+i.toNat) (List.replicate (j.toNat - i.toNat) c)).toArray).heap[k]?=w.heap[k]?:=fun k hk=>setRow_other w _ k _ (fun e=>q6 (by rw[<-e];exact hk))
  have hfit:r.off+i.toNat+(List.replicate (j.toNat - i.toNat) c).length<=cells.toList.length:=by rw[hl];simp only[Array.length_toList];omega
  have hsl:=q1U cells.toList (r.off+i.toNat) (List.replicate (j.toNat - i.toNat) c) hfit
  refine hs.write hb hr hnil q5 q6 ⟨q0,?_⟩
  simp only[clrS,Option.map_some]
  refine⟨hnil,q2,?_,q4,q5,q6,_,el,qe,setRow_heap w _ _ _ _ _ q7,?_,?_⟩
  . simp;omega
  . simp only[List.size_toArray,hsl,Array.length_toList];exact q8
  . intro k z hz
    refine rep_mono (fun _ h=>h) (fun _ _ h=>h) hF _ _ _ ?_
    have hsp:=q3n cells.toList (r.off+i.toNat) (List.replicate (j.toNat - i.toNat) c) (r.off+k*width zt) (width zt) hfit
    rw[hl,hw1,Nat.mul_one] at hsp
    rw[hw1,Nat.mul_one]
    have lt1:(y.take i.toNat).length=i.toNat:=by rw[List.length_take];omega
    have old:y[k]?=some z->(r.off+k+1<=r.off+i.toNat∨r.off+i.toNat+(j.toNat - i.toNat)<=r.off+k)->rep w F ι zt z (seg (splice cells.toList (r.off+i.toNat) (List.replicate (j.toNat - i.toNat) c)) (r.off+k) 1):=by
     intro hy hor
     rw[hsp.1 hor]
     have:=q9 k z hy
     rwa [hw1,Nat.mul_one] at this
    rcases Nat.lt_or_ge k i.toNat with hk1 | hk1
    . refine old ?_ (.inl (by omega))
      rw[List.append_assoc,List.getElem?_append_left (by omega),List.getElem?_take,if_pos hk1] at hz;exact hz
    . rcases Nat.lt_or_ge k (i.toNat+(j.toNat - i.toNat)) with hk2 | hk2
      . rw[hsp.2 (by omega) (by omega)]
        rw[List.append_assoc,List.getElem?_append_right (by omega),lt1,List.getElem?_append_left (by simp;omega)] at hz
        have hz2:=List.eq_of_mem_replicate (List.mem_of_getElem? hz)
        subst hz2
        have e3:seg (List.replicate (j.toNat - i.toNat) c) (r.off+k - (r.off+i.toNat)) 1=[c]:=by
         simp only[seg,List.drop_replicate,List.take_replicate]
         rw[show min 1 (j.toNat - i.toNat - (r.off+k - (r.off+i.toNat)))=1 by omega]
         rfl
        rw[e3];exact hzr
      . refine old ?_ (.inr (by omega))
        rw[List.getElem?_append_right (by simp;omega)] at hz
        rw[List.getElem?_drop] at hz
        rw[<-hz];congr 1
        simp;omega
def St.killO (st:St):Option Nat->St
 | none=>st
 | some b=>st.kill b
theorem q45 (h8:base.u8=u8of P) (hs:Sim base w0 F0 F ι st a w) {t t1 ty:TypeId} {z:Ty} {bytes d:Nat} {ds:TypeDesc} {x:Value} {ys:Option (List (den z))} (he:q1X P t z bytes) (ht1:P.underlying t1=some ds) (hd1:∀ k,ds≠.int k) (hd:st.used d=false)
 (hsrc:Src P w F ι z ys x) (hc:appC bytes (none:Option (List (den z))) (ys.getD [])):
 ∃ r w' ι',(Builtin.append_ #[t,t1] ty #[.slice none 0 0,x]).run P w=.ok r w'/\Sim base w0 F0 F ι' (st.new d (.arr z (appL none (ys.getD [])))) a w'/\vrep w' F ι' (.own d) () r:=by
 obtain⟨e,i,zv,ht,hi,hz,e1,e2,p1,p2,e3,hval,hu8⟩:=he
 obtain⟨news,hn1,hn2,hn3⟩:=hsrc.full
 obtain⟨hlen,hfst⟩:=hn1 w (fun _=>rfl)
 rw[<-e1] at hfst
 simp only[appC,Option.getD_none,List.length_nil,Nat.zero_add] at hc
 rcases Nat.eq_zero_or_pos (ys.getD []).length with h0 | h0
 . have hnil:ys.getD []=[]:=List.eq_nil_of_length_eq_zero h0
   have hnews:news=[]:=List.eq_nil_of_length_eq_zero (by rw[hn2,h0];simp)
   rw[hnil]
   refine⟨.slice none 0 0,w,upd ι d (some ⟨0,0,0,true,0,0⟩),?_,?_,(vrep_cell rfl).2 ⟨_,upd_same _ _ _,rfl⟩⟩
   . rw[h0] at hlen hfst
     simp[Builtin.append_,run_underlying ht,run_underlying ht1,sizeOf,typeInfo,hi,hlen,hfst,hnews]
   . have hι:=hs.fresh hd ⟨0,0,0,true,0,0⟩
     refine hs.change (w':=w) (g:=none) (b0:=d) (k0:=.arr z none) (r0:=⟨0,0,0,true,0,0⟩) (fun _ _ _=>rfl) rfl rfl rfl (Nat.le_refl _) (by simp) (fun n hn=>upd_other _ _ _ _ (pin_ne hs hn hd)) (fun n hn=>by
      show upd st.used d true n=true
      rw[upd_other _ _ _ _ (pin_ne hs hn hd)];exact hs.upin n hn) hι ?_ (upd_same _ _ _) ⟨hval,rfl⟩ (upd_same _ _ _) ?_ (hs.poolsNew hd rfl (by simp)) (hs.newH hd) (fun _ _ _ _ _ _ _ _=>by simp)
     . intro b r' hb
       rcases upd_some hb with ⟨rfl,_⟩ | ⟨hne,hb⟩
       . exact upd_same _ _ _
       . rw[upd_other _ _ _ _ hne];exact hs.used _ _ hb
     . intro b k' hne hb
       rw[upd_other _ _ _ _ hne] at hb
       exact⟨hb,fun r' _ _=>⟨by simp,by simp⟩⟩
 . have hle:(ys.getD []).length<=140737488355328:=by
    have:(ys.getD []).length*1<=(ys.getD []).length*bytes:=Nat.mul_le_mul_left _ p2
    omega
   have hfit:Builtin.nextslicecap (0+(ys.getD []).length) 0*i.bytes<=281474976710656:=by
    rw[e2];exact growslice_fits (by omega) (by rw[Nat.zero_add];exact hc)
   obtain⟨_,hfst'⟩:=hn1 w.drew (fun _=>rfl)
   rw[<-e1] at hfst'
   have hrun:=q4w (P:=P) (w:=w) (ty:=ty) ht ht1 hd1 hi hz (b:=none) (sLen:=0) (sCap:=0) (olds:=[]) hlen (by simp[Builtin.firstCells]) hfst' (by omega) (by omega) hfit
   have happ:appL none (ys.getD [])=some (ys.getD []):=by
    unfold appL
    cases h:ys.getD [] with
    | nil=>rw[h] at h0;simp at h0
    | cons y l=>rfl
   rw[happ]
   have hge:=grownCap_ge w (0+(ys.getD []).length) 0 e
   obtain⟨q1,q2⟩:=q3A hs (hel:=fun h=>(hu8 h).trans (congrArg Prod.fst h8.symm)) (d:=d) (e:=e) (l:=ys.getD []) (cap:=grownCap w (0+(ys.getD []).length) 0 e)
    (cs:=[].toArray ++ news.toArray ++ Builtin.zeroCells zv.cells (grownCap w (0+(ys.getD []).length) 0 e - (0+(ys.getD []).length))) (.inr rfl) hd hval (by omega)
    (by
     simp only[Array.size_append,List.size_toArray,size_zeroCells,e3,hn2,List.length_nil,Nat.zero_add]
     rw[<-Nat.add_mul];exact Nat.mul_le_mul_right _ (by omega))
    (by
     intro j y hy
     have hj:j<(ys.getD []).length:=by
      rcases Nat.lt_or_ge j (ys.getD []).length with q | q
      . exact q
      . rw[List.getElem?_eq_none q] at hy;simp at hy
     have hle:j*width z+width z<=(ys.getD []).length*width z:=by rw[<-Nat.succ_mul];exact Nat.mul_le_mul_right _ hj
     have h1:=hn3 j y hy
     simp only[Array.toList_append,List.nil_append]
     rw[q1u _ _ _ _ (by simp[hn2];exact hle)]
     exact h1)
   rw[Nat.zero_add] at hrun q1 q2
   exact⟨_,_,_,hrun,q1,q2⟩
theorem own_app (h8:base.u8=u8of P) (hs:Sim base w0 F0 F ι st a w) {t t1 ty:TypeId} {z:Ty} {bytes d b:Nat} {ds:TypeDesc} {x s:Value} {l:List (den z)} {ys:Option (List (den z))} (he:q1X P t z bytes) (ht1:P.underlying t1=some ds) (hd1:∀ k,ds≠.int k) (hd:st.used d=false)
 (hb:st.heap b=some (.arr z (some l))) (hsv:vrep w F ι (.own b) () s)
 (hsrc:Src P w F ι z ys x) (hc:appC bytes (some l) (ys.getD [])):
 ∃ r w' ι',(Builtin.append_ #[t,t1] ty #[s,x]).run P w=.ok r w'/\Sim base w0 F0 F ι' ((st.kill b).new d (.arr z (some (l ++ ys.getD [])))) a w'/\vrep w' F ι' (.own d) () r:=by
 obtain⟨e,i,zv,ht,hi,hz,e1,e2,p1,p2,e3,hval,hu8⟩:=he
 obtain⟨news,hn1,hn2,hn3⟩:=hsrc.full
 obtain⟨hlen,hfst⟩:=hn1 w (fun _=>rfl)
 rw[<-e1] at hfst
 simp only[appC,Option.getD_some] at hc
 obtain⟨r,hr,hk⟩:=hs.heap _ _ hb
 obtain⟨q0,q1,q2,q3,q4,q5,q6,cells,el,qe,q7,q8,q9⟩:=hk
 rw[vrep_cell rfl] at hsv;simp only[rep] at hsv
 obtain⟨r',hr',e'⟩:=hsv
 rw[hr] at hr';cases hr'
 simp only[List.cons.injEq,and_true] at e';subst e'
 simp only[Ref.val,q1,Bool.false_eq_true,if_false]
 have hnl:=hn3
 obtain⟨s1,s2⟩:=q7b p1 (show Lies w F ι z l cells.toList r.off from q9)
 by_cases hroom:r.len+(ys.getD []).length<=r.cap
 ·
  have hmul:(r.len+(ys.getD []).length)*width z<=r.cap*width z:=Nat.mul_le_mul_right _ hroom
  rw[Nat.add_mul] at hmul
  rw[q2] at q8
  have hel:el=e∨True:=.inr trivial
  have hfit:r.off+r.len*i.size+news.length<=cells.size:=by rw[e1,hn2];omega
  have hst:=run_storeCells_at P r.blk (r.off+r.len*i.size) el news 0 cells w q7 (by simpa using hfit) (lies_one hnl hn2)
  simp only[Nat.add_zero] at hst
  have hrun:(Builtin.append_ #[t,t1] ty #[.slice (some ⟨r.blk,r.off,none⟩) r.len r.cap,x]).run P w =
   .ok (.slice (some ⟨r.blk,r.off,none⟩) (r.len+(ys.getD []).length) r.cap) (w.setRow r.blk (splice cells.toList (r.off+r.len*i.size) news).toArray):=by
   simp[Builtin.append_,run_underlying ht,run_underlying ht1,sizeOf,typeInfo,hi,hlen,hroom,hfst,q0m,hst,splice]
  let r':Ref:={ r with len:=r.len+(ys.getD []).length }
  refine⟨_,_,upd ι d (some r'),hrun,hs.rewrite (r':=r') hb hr q1 hd q5 q6 rfl ?_,(vrep_cell rfl).2 ⟨r',upd_same _ _ _,by simp[Ref.val,r',q1]⟩⟩
  have hι:=hs.fresh hd r'
  have hF:∀ c,F c->(w.setRow r.blk (splice cells.toList (r.off+r.len*i.size) news).toArray).heap[c]?=w.heap[c]?:=fun c hc=>setRow_other w _ c _ (fun e=>q6 (by rw[<-e];exact hc))
  refine⟨hval,q1,q2,by simp[r',q3],hroom,q5,q6,_,el,qe,setRow_heap w _ _ _ _ _ q7,?_,?_⟩
  . have:=q1U cells.toList (r.off+r.len*i.size) news (by simpa using hfit)
    simp only[List.size_toArray,this,Array.length_toList,r'];rw[q2];exact q8
  . intro j y hy
    refine rep_mono (fun _ h=>h) hι hF _ _ _ ?_
    rw[List.toList_toArray]
    have hsp:=q3n cells.toList (r.off+r.len*i.size) news (r.off+j*width z) (width z) (by simpa using hfit)
    show rep w F ι z y (seg (splice cells.toList (r.off+r.len*i.size) news) (r.off+j*width z) (width z))
    rcases Nat.lt_or_ge j l.length with hj | hj
    . rw[List.getElem?_append_left hj] at hy
      have hle:j*width z+width z<=l.length*width z:=by rw[<-Nat.succ_mul];exact Nat.mul_le_mul_right _ hj
      rw[hsp.1 (by left;rw[e1,q3];omega)]
      exact q9 j y hy
    . rw[List.getElem?_append_right hj] at hy
      have hj':j - l.length<(ys.getD []).length:=by
       rcases Nat.lt_or_ge (j - l.length) (ys.getD []).length with q | q
       . exact q
       . rw[List.getElem?_eq_none q] at hy;simp at hy
      have hle:(j - l.length)*width z+width z<=(ys.getD []).length*width z:=by rw[<-Nat.succ_mul];exact Nat.mul_le_mul_right _ hj'
      have hge:l.length*width z<=j*width z:=Nat.mul_le_mul_right _ hj
      have hsub:(j - l.length)*width z=j*width z - l.length*width z:=Nat.sub_mul _ _ _
      rw[hsp.2 (by rw[e1,q3];omega) (by rw[e1,q3,hn2];omega)]
      have:=hnl _ y hy
      rw[Nat.zero_add] at this
      rw[show r.off+j*width z - (r.off+r.len*i.size)=(j - l.length)*width z by rw[e1,q3];omega]
      exact this
 ·
  rw[<-q3] at hc
  have hle:r.len+(ys.getD []).length<=140737488355328:=by
   have:(r.len+(ys.getD []).length)*1<=(r.len+(ys.getD []).length)*bytes:=Nat.mul_le_mul_left _ p2
   omega
  have hfit:Builtin.nextslicecap (r.len+(ys.getD []).length) r.cap*i.bytes<=281474976710656:=by
   rw[e2];exact growslice_fits (by omega) hc
  obtain⟨_,hfst'⟩:=hn1 w.drew (fun _=>rfl)
  rw[<-e1] at hfst'
  have hold:(Builtin.firstCells i.size r.len (.slice (some ⟨r.blk,r.off,none⟩) r.len r.cap)).run P w.drew=.ok (seg cells.toList r.off (l.length*width z)).toArray w.drew:=by
   refine run_firstCells_some (P:=P) w.drew _ _ _ _ _ _ (by rw[s1,e1,q3]) ?_
   intro j v hj
   have hj':j<l.length*width z:=by
    rcases Nat.lt_or_ge j (l.length*width z) with h | h
    . exact h
    . rw[List.getElem?_eq_none (by omega)] at hj;simp at hj
   rw[q0m,q1F (w:=w.drew) (show w.drew.heap[r.blk]?=_ from q7),<-q0y _ _ _ _ hj'];exact hj
  have hrun:=q4w (P:=P) (w:=w) (ty:=ty) ht ht1 hd1 hi hz (sLen:=r.len) (sCap:=r.cap) hlen hold hfst' (by omega) (by omega) hfit
  have hge:=grownCap_ge w (r.len+(ys.getD []).length) r.cap e
  have hl2:(l ++ ys.getD []).length=r.len+(ys.getD []).length:=by simp[q3]
  obtain⟨t1',t2'⟩:=q3A (hs.kill b) (hel:=fun h=>(hu8 h).trans (congrArg Prod.fst h8.symm)) (d:=d) (e:=e) (l:=l ++ ys.getD []) (cap:=grownCap w (r.len+(ys.getD []).length) r.cap e)
   (cs:=(seg cells.toList r.off (l.length*width z)).toArray ++ news.toArray ++ Builtin.zeroCells zv.cells (grownCap w (r.len+(ys.getD []).length) r.cap e - (r.len+(ys.getD []).length))) (.inr rfl) hd hval (by omega)
   (by
    simp only[Array.size_append,List.size_toArray,size_zeroCells,e3,hn2,s1]
    rw[<-Nat.add_mul,<-Nat.add_mul];exact Nat.mul_le_mul_right _ (by omega))
   (by
    have:=qaB (c3:=(Builtin.zeroCells zv.cells (grownCap w (r.len+(ys.getD []).length) r.cap e - (r.len+(ys.getD []).length))).toList) s2 s1 hnl hn2 []
    simpa using this)
  rw[hl2] at t1' t2'
  exact⟨_,_,_,hrun,t1',t2'⟩
theorem Sim.gone (h:Sim base w0 F0 F ι st a w) {w':World} {b:Nat} {k:Blk} {r:Ref} (hb:st.heap b=some k) (hr:ι b=some r) (hn:r.nil=false) (hbase:base.own r.blk) (hFr:¬ F r.blk)
 (hblk:∀ c,c≠r.blk->w'.heap[c]?=w.heap[c]?) (hos:w'.os=w.os) (htape:w'.tape=w.tape) (hout:w'.output=w.output) (hsz:w.heap.size<=w'.heap.size):Sim base w0 F0 F ι (st.kill b) a w':=by
 have hF:∀ c,F c->w'.heap[c]?=w.heap[c]?:=fun c hc=>hblk c (fun e=>hFr (by rw[<-e];exact hc))
 refine⟨fun s v hv=>vrep_mono (fun _ h=>h) (fun _ _ h=>h) hF (h.env s v hv),?_,h.used,?_,fun c hc=>Nat.lt_of_lt_of_le (h.fsize c hc) hsz,h.fin,?_,Nat.le_trans h.size hsz,h.upin,(h.kill b).pools,h.pin,h.defers⟩
 . intro c k' hc
   rcases upd_some hc with ⟨_,hc⟩ | ⟨hne,hc⟩
   . simp at hc
   . obtain⟨r',hr',hk⟩:=h.heap c k' hc
     refine⟨r',hr',q1e (fun _ _ h=>h) (fun _ _ h=>h) (fun p t ls n l s e hl hs=>?_) hF (fun hn'=>hblk _ (h.apart c b k' k r' r hne hc hb hr' hr hn' hn)) hk⟩
     subst e
     have e:=h.pools.self _ _ _ _ hc
     subst e
     exact hblk _ (h.pools.apart (hnm p n) b _ _ s r (fun e=>by rw[<-e,h.pools.noH _ (isH_hn _ _)] at hb;cases hb) (by rw[q08 hk.2.1,hc];simp only[rowB,hl];rfl) (.inr hb) hs hr hn)
 . exact (h.kill b).apart
 . refine h.below.trans ⟨hos,htape,hout,hsz,fun c hc hl=>hblk c (fun e=>?_)⟩
   rcases hbase with h1 | h1
   . omega
   . exact hl (by rw[e];exact h1)
theorem qar (w:World) (p:Addr) (n c:Nat) (hc:c≠p.block):(w.freeze p n).heap[c]?=w.heap[c]?:=by
 unfold World.freeze
 split
 . rfl
 . simp only[Array.getElem?_modify]
   rw[if_neg (fun e=>hc e.symm)]
theorem qas (w:World) (p:Addr) (n:Nat):(w.freeze p n).os=w.os/\(w.freeze p n).tape=w.tape/\(w.freeze p n).output=w.output/\(w.freeze p n).heap.size=w.heap.size:=by
 unfold World.freeze
 split
 . exact⟨rfl,rfl,rfl,rfl⟩
 . exact⟨rfl,rfl,rfl,by simp⟩
theorem bif_or {α:Type} {b:Bool} {x:Option α} {y:α} (h:(bif b then x else none)=some y):b=true/\x=some y:=by
 cases b<;>simp_all
def ustrC (l:Option (List Int)) (i:Nat) (k:Int):Prop:=i=0/\k=szSl l/\0<k/\k<=9223372036854775807
def ustrV (P:Program) (hp:Nat->Option Blk) (pt:TypeId) (p n:V):Option (Nat×Prop×ByteArray):=
 match P.underlying pt with
 | some (.pointer e)=>match P.info? e with
  | some i=>bif Nat.beq e (u8of P).1 && Nat.beq i.size 1 then match p with
   | ⟨.eref b 0,i⟩=>match n with
    | ⟨.int .i64,k⟩=>match hp b with
     | some (.arr (.int .u8) l)=>some (b,ustrC l i k,strOf l)
     | _=>none
    | _=>none
   | _=>none
   else none
  | none=>none
 | _=>none
theorem q7C (w:World):∀ (l:List Int) (p:Addr) (acc:ByteArray),(∀ j x,l[j]?=some x->w.cell? (p.add j)=some (.int .u8 x))->
 (loadBytes p acc l.length).run P w=.ok ⟨(acc.data.toList ++ l.map fun n=>UInt8.ofNat n.toNat).toArray⟩ w
 | [],p,acc,_=>by simp[loadBytes]
 | x :: l,p,acc,h=>by
  have h0:w.cell? p=some (.int .u8 x):=by
   have:=h 0 x rfl
   simpa[Addr.add] using this
  have ih:=q7C w l (p.add 1) (acc.push (UInt8.ofNat x.toNat)) (fun j y hy=>by
   have:=h (j+1) y (by simpa using hy)
   have e:(p.add 1).add j=p.add (j+1):=by
    unfold Addr.add
    by_cases hj:j=0
    . subst hj;simp
    . simp[hj];omega
   rw[e];exact this)
  simp only[List.length_cons,loadBytes,Sem.run_bind,run_load,h0,Result.andThen]
  rw[show x.toNat.toUInt8=UInt8.ofNat x.toNat from rfl,ih]
  simp[ByteArray.push]
theorem qaA {e:TypeId} (hc:P.cellsOf e=1) (count off n:Nat) (hn:off+n<=count):liesAt P P.depth e count off e n=true:=by
 have hd:P.depth=(2*(P.types.size+Made.depth)+1)+1:=rfl
 rw[hd]
 simp only[liesAt,Bool.or_eq_true]
 left
 rw[hd]
 simp[rowAt,hc,hn,sameLayout,Nat.mod_one]
theorem ustrV_ok (h8:base.u8=u8of P) (hs:Sim base w0 F0 F ι st a w) {pt it ty:TypeId} {p n:V} {vp vn:Value} {b:Nat} {c:Prop} {s:ByteArray} (hp:vrep w F ι p.t p.x vp) (hn:vrep w F ι n.t n.x vn)
 (h:ustrV P st.heap pt p n=some (b,c,s)) (hc:c):
 ∃ w',(Builtin.unsafeString_ #[pt,it] ty #[vp,vn]).run P w=.ok (.string s) w'/\Sim base w0 F0 F ι (st.kill b) a w':=by
 unfold ustrV at h
 split at h<;>try (simp at h;done)
 rename_i e ht
 split at h<;>try (simp at h;done)
 rename_i inf hinf
 replace h:=bif_or h
 obtain⟨hbe,h⟩:=h
 simp only[Bool.and_eq_true] at hbe
 have he:=Nat.eq_of_beq_eq_true hbe.1
 have hi1:=Nat.eq_of_beq_eq_true hbe.2
 split at h<;>try (simp at h;done)
 rename_i b' i
 split at h<;>try (simp at h;done)
 rename_i k
 split at h<;>try (simp at h;done)
 rename_i l hb
 simp only[Option.some.injEq,Prod.mk.injEq] at h
 obtain⟨rfl,rfl,rfl⟩:=h
 obtain⟨h0,hk,hpos,h63⟩:=hc
 replace h0:i=0:=h0
 replace hk:k=szSl l:=hk
 subst h0
 rw[q03] at hn;subst hn
 rw[vrep_cell rfl] at hp;simp only[rep] at hp
 obtain⟨r,hr,hnil,hlt,hp⟩:=hp
 simp only[Nat.zero_mul,Nat.add_zero,List.cons.injEq,and_true] at hp;subst hp
 obtain⟨r',hr',q0,q⟩:=hs.heap _ _ hb
 rw[hr] at hr';cases hr'
 cases l with
 | none=>simp only at q;rw[q] at hnil;simp at hnil
 | some l=>
  obtain⟨q1,q2,q3,q4,q5,q6,cells,el,qe,q7,q8,q9⟩:=q
  have hel:el=e:=by rw[qe rfl,h8,he]
  subst hel
  have hcells:P.cellsOf el=1:=by simp[Program.cellsOf,hinf,hi1]
  have hkl:k=(l.length:Int):=by rw[hk];rfl
  subst hkl
  have hsh:w.shape? r.blk=some (el,cells.size):=by simp[World.shape?,q7]
  have hwd:r.wd=1:=q2
  have hlies:=qaA (P:=P) hcells (cells.size / P.cellsOf el) r.off l.length (by rw[hcells];simp;rw[hwd] at q8;omega)
  have hlb:=q7C (P:=P) w l ⟨r.blk,r.off,none⟩ .empty (fun j x hj=>by
   have h1:=q9 j x hj
   simp only[width,Nat.mul_one,rep] at h1
   rw[q0m,q1F q7]
   have h2:=q0y cells.toList (r.off+j) 1 0 (by omega)
   rw[h1] at h2
   simpa using h2.symm)
  have hl0:l.length≠0:=by omega
  have h63':¬ (9223372036854775807:Int)<(l.length:Int):=by omega
  have hneg:¬ (l.length:Int)<0:=by omega
  have hmax:IntKind.i64.max=9223372036854775807:=rfl
  have hdef:∃ m1 m2 m3:String,Builtin.unsafeString_ #[pt,it] ty #[.pointer (some ⟨r.blk,r.off,none⟩),.int .i64 l.length] =
   (do
    let n <-asInt (.int .i64 l.length)
    if n<0 then runtimePanic (.error m1)
    if n > IntKind.i64.max then unsupported (.unsafePointer m2)
    if n=0 then pure (.string .empty)
    else if <-variablesAt ⟨r.blk,r.off,none⟩ (<-elemOf pt) n.toNat then do
     let s <-loadBytes ⟨r.blk,r.off,none⟩ .empty n.toNat
     freeze ⟨r.blk,r.off,none⟩ n.toNat
     pure (.string s)
    else unsupported (.unsafePointer m3)):=⟨_,_,_,rfl⟩
  obtain⟨m1,m2,m3,hdef⟩:=hdef
  obtain⟨f1,f2,f3,f4⟩:=qas w ⟨r.blk,r.off,none⟩ l.length
  refine⟨w.freeze ⟨r.blk,r.off,none⟩ l.length,?_,hs.gone hb hr hnil q5 q6 (fun c hc=>qar w _ _ c hc) f1 f2 f3 (by rw[f4];exact Nat.le_refl _)⟩
  rw[hdef]
  simp[asInt,asIntOf,hmax,h63',hneg,hl0,variablesAt,hsh,elemOf,run_underlying ht,hlies,hlb,strOf]
end
end Go.VM
namespace Go.VM
open Go Go.RowKit
def vOf (v:Option V):Option Res:=
 match v with
 | some v=>some (.val v)
 | none=>none
def gather (g:Operand->Option V):List (Nat×Operand)->Option (List (Nat×V))
 | []=>some []
 | (i,x) :: r=>match g x with
  | some v=>match gather g r with
   | some l=>some ((i,v) :: l)
   | none=>none
  | none=>none
def maxI (a b:Int):Int:=if b > a then b else a
def minI (a b:Int):Int:=if b<a then b else a
def strI (op:BinOp) (a b:ByteArray):Option Res:=
 match op with
 | .add=>some (.cond (catC a b) ⟨.str,catS a b⟩)
 | .eql=>some (.val ⟨.bool,eqStr a b⟩)
 | .neq=>some (.val ⟨.bool,notB (eqStr a b)⟩)
 | _=>none
def eqW (P:Program) (hp:Nat->Option Blk) (t:TypeId) (v1 v2:V):Option Bool:=
 match P.underlying t with
 | some (.slice _)=>match v2.t with
  | .cst .nilSl=>nilV hp v1
  | _=>match v1.t with
   | .cst .nilSl=>nilV hp v2
   | _=>none
 | some .bool=>eqV P 1 t v1 v2
 | some (.struct _)=>bif P.eqGuardType P.depth t then none else eqV P 8 t v1 v2
 | some (.array _ _)=>bif P.eqGuardType P.depth t then none else eqV P 8 t v1 v2
 | _=>none
def binV (P:Program) (hp:Nat->Option Blk) (op:BinOp) (t:TypeId) (v1 v2:V):Option Res:=
 match v1,v2 with
 | ⟨.int k,a⟩,⟨.int k',b⟩=>match op with
  | .shl=>binI .shl k a b
  | .shr=>binI .shr k a b
  | op=>bif sameK k k' then binI op k a b else none
 | ⟨.str,a⟩,⟨.str,b⟩=>strI op a b
 | v1,v2=>match op with
  | .eql=>match eqW P hp t v1 v2 with
   | some b=>some (.val ⟨.bool,b⟩)
   | none=>none
  | .neq=>match eqW P hp t v1 v2 with
   | some b=>some (.val ⟨.bool,notB b⟩)
   | none=>none
  | _=>none
def q1v (P:Program) (hp:Nat->Option Blk) (t:TypeId) (v:V) (lo hi:Option V):Option Res:=
 match P.underlying t with
 | some .string=>match v with
  | ⟨.str,_⟩=>q4k lo hi v
  | _=>none
 | some (.slice e)=>match tinf P e with
  | some (_,n)=>match v with
   | ⟨.sl ty,_⟩=>bif Nat.beq n (width ty) then q4k lo hi v else none
   | ⟨.own b,_⟩=>match hp b with
    | some (.arr ty x)=>bif Nat.beq n (width ty) then match q1d 0 lo,q1d (szSl x) hi with
     | some l,some h=>some (.cond (inW x l h) ⟨.vw b,(l,h)⟩)
     | _,_=>none
     else none
    | _=>none
   | _=>none
  | none=>none
 | _=>none
def optV (g:Operand->Option V):Option Operand->Option (Option V)
 | none=>some none
 | some x=>match g x with
  | some v=>some (some v)
  | none=>none
def dataV (hp:Nat->Option Blk) (v:V):Option Res:=
 match v with
 | ⟨.own b,_⟩=>match hp b with
  | some (.arr _ l)=>some (.cond (0<szSl l) ⟨.eref b 0,(0:Nat)⟩)
  | _=>none
 | _=>none
def q4C (P:Program) (g:Operand->Option V) (hp:Nat->Option Blk) (b:Builtin) (args:List Operand) (ts:List TypeId):Option Res:=
 match b,args,ts with
 | .len,[x],[t]=>match g x with
  | some v=>vOf (lenV P hp t v)
  | none=>none
 | .unsafeSliceData,[x],_=>match g x with
  | some v=>dataV hp v
  | none=>none
 | .max,[x,y],_=>match g x,g y with
  | some ⟨.int k,a⟩,some ⟨.int k',b⟩=>bif sameK k k' then some (.val ⟨.int k,maxI a b⟩) else none
  | _,_=>none
 | .min,[x,y],_=>match g x,g y with
  | some ⟨.int k,a⟩,some ⟨.int k',b⟩=>bif sameK k k' then some (.val ⟨.int k,minI a b⟩) else none
  | _,_=>none
 | _,_,_=>none
def q5H (P:Program) (t:TypeId):Bool:=
 match P.underlying t with
 | some (.struct fs)=>fs.toList.all fun f=>(tinf P f.type).isSome
 | _=>false
def caught (g:Operand->Option V):List Operand->Option V
 | []=>some ⟨.unit,()⟩
 | x :: l=>match g x with
  | some v=>match caught g l with
   | some u=>bif cellT v.t then some ⟨.pair v.t u.t,(v.x,u.x)⟩ else none
   | none=>none
  | none=>none
def cloV (f:FuncId) (v:V):V:=
 match v with
 | ⟨.unit,_⟩=>⟨.cst (.fn f),()⟩
 | v=>⟨.clo f v.t,v.x⟩
def isPtrT:Ty->Bool
 | .ref _ _ | .eref _ _ | .fref _ | .her _ _ | .bref _ _ _=>true
 | _=>false
def okB (P:Program) (t:Ty) (e:TypeId):Bool:=
 bif bldT t then Nat.beq e (u8of P).2 else true
theorem okB_eq {P:Program} {t:Ty} {e:TypeId} (h:okB P t e=true):bldT t=true->e=(u8of P).2:=by
 intro hb
 unfold okB at h
 rw[hb] at h
 exact Nat.eq_of_beq_eq_true h
def evP (P:Program) (g:Operand->Option V) (hp:Nat->Option Blk):Op->Option Res
 | .move x=>vOf (g x)
 | .assign x=>vOf (g x)
 | .pick c a b=>match g c with
  | some ⟨.bool,t⟩=>match t with
   | true=>vOf (g a)
   | false=>vOf (g b)
  | _=>none
 | .alloc e=>match zeroV P e with
  | some z=>bif okB P z.t e then some (.new (.box z.t z.x)) else none
  | none=>none
 | .box e x=>match g x with
  | some v=>bif valT v.t && okB P v.t e then some (.new (.box v.t v.x)) else none
  | none=>none
 | .build t parts=>match gather g parts.toList with
  | some l=>match P.underlying t with
   | some (.array _ _)=>vOf (buildA P t l)
   | _=>bif q5H P t then vOf (buildV P t l) else none
  | none=>none
 | .buildSlice t len parts=>match gather g parts.toList with
  | some l=>litV P t len l
  | none=>none
 | .load t x=>match tinf P t with
  | some (ag,n)=>match g x with
   | some v=>vOf (loadV hp ag n v)
   | none=>none
  | none=>none
 | .binOp op t x y _=>match g x with
  | some v1=>match g y with
   | some v2=>binV P hp op t v1 v2
   | none=>none
  | none=>none
 | .unOp op _ x=>match g x with
  | some v=>vOf (unV op v)
  | none=>none
 | .convert s d x=>match g x with
  | some v=>vOf (convV P s d v)
  | none=>none
 | .makeSlice t l c=>match g l with
  | some v1=>match g c with
   | some v2=>makeV P t v1 v2
   | none=>none
  | none=>none
 | .slice t x lo hi none=>match g x with
  | some v=>match optV g lo with
   | some l=>match optV g hi with
    | some h=>q1v P hp t v l h
    | none=>none
   | none=>none
  | none=>none
 | .fieldAddr s x f=>match g x with
  | some v=>vOf (fieldV P s f v)
  | none=>none
 | .field s x f=>match g x with
  | some v=>vOf (partV P s f v)
  | none=>none
 | .indexAddr t x i=>match P.underlying t with
  | some (.slice e)=>match tinf P e with
   | some (_,n)=>match g x with
    | some v=>match g i with
     | some j=>q15 hp n v j
     | none=>none
    | none=>none
   | none=>none
  | some (.array len e)=>match tinf P e with
   | some (_,n)=>match g x with
    | some v=>match g i with
     | some j=>ixArr hp len n v j
     | none=>none
    | none=>none
   | none=>none
  | _=>none
 | .index t x i=>match g x with
  | some v=>match g i with
   | some j=>charV P t v j
   | none=>none
  | none=>none
 | .extract x i=>match g x with
  | some v=>vOf (extractV v i)
  | none=>none
 | .nilCheck x=>match g x with
  | some v=>bif isPtrT v.t then some (.val v) else none
  | none=>none
 | .makeFunc fn first caps=>match fn with
  | .func f=>bif first.toList.isEmpty then (match caught g caps.toList with
   | some v=>some (.val (cloV f v))
   | none=>none) else none
  | _=>none
 | .call ⟨.builtin b,args,ts⟩=>q4C P g hp b args.toList ts.toList
 | _=>none
def Res.plain:Res->Bool
 | .val _=>true
 | .cond _ _=>true
 | _=>false
def tagV (k:Blk) (d:Nat):V:=
 match k with
 | .box _ _=>⟨.ref d 0,()⟩
 | .arr _ _=>⟨.own d,()⟩
 | .pool _ _ _=>⟨.cst .nilSl,()⟩
section
variable {P:Program} {base:Mine} {w0 w:World} {F0 F:Nat->Prop} {ι:Nat->Option Ref} {st:St} {a:Act} {hp:Nat->Option Blk}
def Res.runs (base:Mine) (w0:World) (F0 F:Nat->Prop) (ι:Nat->Option Ref) (st:St) (a:Act) (w:World) (P:Program) (d:Nat) (o:Oper):Res->Prop
 | .val v=>∃ val,(execOp a.eval o).run P w=.ok (.value val) w/\vrep w F ι v.t v.x val
 | .cond c v=>c->∃ val,(execOp a.eval o).run P w=.ok (.value val) w/\vrep w F ι v.t v.x val
 | .new k=>∃ val w' ι',(execOp a.eval o).run P w=.ok (.value val) w'/\Sim base w0 F0 F ι' (st.new d k) a w'/\vrep w' F ι' (tagV k d).t (tagV k d).x val
 | .newc c k=>c->∃ val w' ι',(execOp a.eval o).run P w=.ok (.value val) w'/\Sim base w0 F0 F ι' (st.new d k) a w'/\vrep w' F ι' (tagV k d).t (tagV k d).x val
theorem q2q {r:Res} {d:Nat} {o:Oper} {s:Sem Value} (he:(execOp a.eval o).run P w=(s.run P w).andThen fun v w'=>.ok (.value v) w') (hr:r.ok w F ι P s) (hn:r.plain=true):
 r.runs base w0 F0 F ι st a w P d o:=by
 cases r with
 | val v=>obtain⟨val,h1,h2⟩:=hr;exact⟨val,by rw[he,h1];rfl,h2⟩
 | cond c v=>intro hc;obtain⟨val,h1,h2⟩:=hr hc;exact⟨val,by rw[he,h1];rfl,h2⟩
 | new k=>simp[Res.plain] at hn
 | newc c k=>simp[Res.plain] at hn
theorem q0q {d:Nat} {o:Oper} {s:Sem Value} {v:Option V} {r:Res} (h:vOf v=some r) (he:(execOp a.eval o).run P w=(s.run P w).andThen fun v w'=>.ok (.value v) w')
 (hv:∀ u,v=some u->∃ val,s.run P w=.ok val w/\vrep w F ι u.t u.x val):r.runs base w0 F0 F ι st a w P d o:=by
 unfold vOf at h
 split at h<;>simp only[Option.some.injEq,reduceCtorEq] at h
 subst h
 obtain⟨val,h1,h2⟩:=hv _ rfl
 exact⟨val,by rw[he,h1];rfl,h2⟩
theorem q41 (hs:Sim base w0 F0 F ι st a w):∀ (l:List (Nat×Operand)) (r:List (Nat×V)),gather st.val l=some r->
 r.length=(l.map fun (i,x)=>(i,a.eval x)).length/\∀ (k:Nat) (p:Nat×V) (q:Nat×Value),r[k]?=some p->(l.map fun (i,x)=>(i,a.eval x))[k]?=some q->p.1=q.1/\vrep w F ι p.2.t p.2.x q.2
 | [],r,h=>by simp only[gather,Option.some.injEq] at h;subst h;simp
 | (i,x) :: l,r,h=>by
  simp only[gather] at h
  split at h<;>try (simp at h;done)
  rename_i v hv
  split at h<;>try (simp at h;done)
  rename_i l' hl
  simp only[Option.some.injEq] at h;subst h
  obtain⟨h1,h2⟩:=q41 hs l l' hl
  refine⟨by simp[h1],fun k p q hp hq=>?_⟩
  cases k with
  | zero=>simp at hp hq;subst hp;subst hq;exact⟨rfl,hs.val hv⟩
  | succ k=>exact h2 k p q (by simpa using hp) (by simpa using hq)
theorem q4B {op:BinOp} {k:IntKind} {x y:Int} {r:Res} (h:binI op k x y=some r):r.plain=true:=by
 cases op<;>simp only[binI,Option.some.injEq] at h<;>subst h<;>rfl
theorem strI_ok {op:BinOp} {ty:TypeId} {x y:Operand} {s t:ByteArray} {r:Res} (h:strI op s t=some r):
 r.ok w F ι P (do eqGuard op ty x y (.string s) (.string t);binOp op ty (.string s) (.string t))/\r.plain=true:=by
 have hg:(eqGuard op ty x y (.string s) (.string t)).run P w=.ok () w:=by cases op<;>simp[eqGuard]
 unfold strI at h
 split at h<;>simp only[Option.some.injEq,reduceCtorEq] at h<;>subst h<;>refine⟨?_,rfl⟩
 . intro hc
   refine⟨_,?_,q0s.2 rfl⟩
   have hn:¬ (9223372036854775807<((s.size:Int)+(t.size:Int))):=by omega
   have hm:IntKind.i64.max=9223372036854775807:=by decide
   simp[hg,binOp,Op.stringOp,hm,hn]
 . exact⟨_,by simp[hg,binOp,Op.stringOp];rfl,q0l.2 rfl⟩
 . exact⟨_,by simp[hg,binOp,Op.stringOp];rfl,q0l.2 rfl⟩
theorem eqW_ok (hh:q0f w base F ι hp) {t:TypeId} {v1 v2:V} {x1 x2:Value} {b:Bool} {x y:Operand} (h1:vrep w F ι v1.t v1.x x1) (h2:vrep w F ι v2.t v2.x x2) (h:eqW P hp t v1 v2=some b):
 (∀ op,op=.eql∨op=.neq->(eqGuard op t x y x1 x2).run P w=.ok () w)/\(Op.equal t x1 x2).run P w=.ok b w /\
 (binOp .eql t x1 x2=do pure (.bool (<-Op.equal t x1 x2)))/\(binOp .neq t x1 x2=do pure (.bool (!(<-Op.equal t x1 x2)))):=by
 unfold eqW at h
 split at h<;>try (simp at h;done)
 . rename_i e ht
   have key:∀ a l c a' l' c',(a=none∨a'=none)->(Op.equal t (.slice a l c) (.slice a' l' c')).run P w=.ok (a.isNone && a'.isNone) w:=by
    intro a l c a' l' c' hn
    have gen:∀ d,(Op.equalIn (d+1) t (.slice a l c) (.slice a' l' c')).run P w=.ok (a.isNone && a'.isNone) w:=by
     intro d
     rcases hn with rfl | rfl
     . simp[Op.equalIn,run_underlying ht]
     . cases a<;>simp[Op.equalIn,run_underlying ht]
    exact gen 9999
   split at h
   . rename_i h2t
     obtain⟨t2,y2⟩:=v2
     simp only at h2t;subst h2t
     rw[q0r] at h2;subst h2
     obtain⟨a,l,c,rfl,hb⟩:=nilV_ok hh h1 h
     refine⟨?_,?_,rfl,rfl⟩
     . rintro op (rfl | rfl)<;>simp[eqGuard,Cst.val]
     . simp only[Cst.val];rw[key _ _ _ _ _ _ (.inr rfl)];simp[hb]
   . split at h<;>try (simp at h;done)
     rename_i h1t
     obtain⟨t1,y1⟩:=v1
     simp only at h1t;subst h1t
     rw[q0r] at h1;subst h1
     obtain⟨a,l,c,rfl,hb⟩:=nilV_ok hh h2 h
     refine⟨?_,?_,rfl,rfl⟩
     . rintro op (rfl | rfl)<;>simp[eqGuard,Cst.val]
     . simp only[Cst.val];rw[key _ _ _ _ _ _ (.inl rfl)];simp[hb]
 . rename_i ht
   have he:=eqV_ok (P:=P) (w:=w) (F:=F) (ι:=ι) 1 Op.maxDepth t v1 v2 x1 x2 b (by decide) h1 h2 h
   simp only[eqV,ht] at h
   split at h<;>try (simp at h;done)
   rw[q0l] at h1 h2;subst h1;subst h2
   exact⟨by rintro op (rfl | rfl)<;>simp[eqGuard],he,rfl,rfl⟩
 . rename_i fs ht
   cases hg:P.eqGuardType P.depth t<;>rw[hg] at h<;>simp only[cond_true,cond_false,reduceCtorEq] at h
   have he:=eqV_ok (P:=P) (w:=w) (F:=F) (ι:=ι) 8 Op.maxDepth t v1 v2 x1 x2 b (by decide) h1 h2 h
   have h':=h
   simp only[eqV,ht] at h'
   cases hc:(isAggT v1.t && isAggT v2.t && !P.stoodInHeld t)<;>rw[hc] at h'<;>simp only[cond_true,cond_false,reduceCtorEq] at h'
   simp only[Bool.and_eq_true] at hc
   rw[vrep_agg hc.1.1] at h1;rw[vrep_agg hc.1.2] at h2
   obtain⟨c1,rfl,_⟩:=h1
   obtain⟨c2,rfl,_⟩:=h2
   exact⟨fun op _=>run_eqGuard_agg w op t x y c1 c2 hg,he,rfl,rfl⟩
 . rename_i m e ht
   cases hg:P.eqGuardType P.depth t<;>rw[hg] at h<;>simp only[cond_true,cond_false,reduceCtorEq] at h
   have he:=eqV_ok (P:=P) (w:=w) (F:=F) (ι:=ι) 8 Op.maxDepth t v1 v2 x1 x2 b (by decide) h1 h2 h
   have h':=h
   simp only[eqV,ht] at h'
   obtain⟨_,h'⟩:=q1A h'
   unfold eqAr at h'
   split at h'<;>try (simp at h';done)
   split at h'<;>try (simp at h';done)
   rw[vrep_agg rfl] at h1 h2
   obtain⟨c1,rfl,_⟩:=h1
   obtain⟨c2,rfl,_⟩:=h2
   exact⟨fun op _=>run_eqGuard_agg w op t x y c1 c2 hg,he,rfl,rfl⟩
theorem binV_ok (hh:q0f w base F ι hp) {op:BinOp} {t:TypeId} {v1 v2:V} {x1 x2:Value} {r:Res} {x y:Operand} (h1:vrep w F ι v1.t v1.x x1) (h2:vrep w F ι v2.t v2.x x2) (h:binV P hp op t v1 v2=some r):
 r.ok w F ι P (do eqGuard op t x y x1 x2;binOp op t x1 x2)/\r.plain=true:=by
 unfold binV at h
 split at h
 . rw[q03] at h1 h2;subst h1;subst h2
   split at h
   . exact⟨binS_ok (.inl rfl) h,q4B h⟩
   . exact⟨binS_ok (.inr rfl) h,q4B h⟩
   . rename_i k a k' b op _ _
     cases hk:sameK k k'<;>rw[hk] at h<;>simp only[cond_true,cond_false,reduceCtorEq] at h
     have hk':=q3l hk;subst hk'
     exact⟨binI_ok h,q4B h⟩
 . rw[q0s] at h1 h2;subst h1;subst h2
   exact strI_ok h
 . rename_i v1 v2 hni hns
   split at h<;>try (simp at h;done)
   . split at h<;>try (simp at h;done)
     rename_i b hb
     simp only[Option.some.injEq] at h;subst h
     obtain⟨q1,q2,q3,_⟩:=eqW_ok (x:=x) (y:=y) hh h1 h2 hb
     exact⟨⟨_,by simp only[Sem.run_bind,q1 _ (.inl rfl),Result.andThen_ok,q3,q2,Sem.run_pure],q0l.2 rfl⟩,rfl⟩
   . split at h<;>try (simp at h;done)
     rename_i b hb
     simp only[Option.some.injEq] at h;subst h
     obtain⟨q1,q2,_,q3⟩:=eqW_ok (x:=x) (y:=y) hh h1 h2 hb
     exact⟨⟨_,by simp only[Sem.run_bind,q1 _ (.inr rfl),Result.andThen_ok,q3,q2,Sem.run_pure],q0l.2 rfl⟩,rfl⟩
theorem dataV_ok {P:Program} {w:World} {base:Mine} {F:Nat->Prop} {ι:Nat->Option Ref} {hp:Nat->Option Blk} {ts:Array TypeId} {ty:TypeId} (hh:q0f w base F ι hp) {v:V} {r:Res} {val:Value} (hv:vrep w F ι v.t v.x val) (h:dataV hp v=some r):r.ok w F ι P (Builtin.unsafeSliceData_ ts ty #[val])/\r.plain=true:=by
 unfold dataV at h
 split at h<;>try (simp at h;done)
 rename_i b _
 split at h<;>try (simp at h;done)
 rename_i t l hb
 simp only[Option.some.injEq] at h;subst h
 refine⟨fun h0=>?_,rfl⟩
 obtain⟨r,hr,_,q⟩:=hh _ _ hb
 rw[vrep_cell rfl] at hv;simp only[rep] at hv
 obtain⟨r',hr',e'⟩:=hv
 rw[hr] at hr';cases hr'
 simp only[List.cons.injEq,and_true] at e';subst e'
 cases l with
 | none=>simp at h0
 | some l=>
  obtain⟨q1,q2,q3,q4,q5,q6,_⟩:=q
  replace h0:(0:Int)<(l.length:Int):=h0
  refine⟨.pointer (some ⟨r.blk,r.off,none⟩),?_,(vrep_cell rfl).2 ⟨r,hr,q1,(by omega:0<r.len),by simp⟩⟩
  simp only[Ref.val,q1,Bool.false_eq_true,if_false]
  obtain⟨k,hk⟩:∃ k,r.cap=k+1:=⟨r.cap - 1,by omega⟩
  rw[hk];rfl
end
end Go.VM
namespace Go.VM
open Go Go.RowKit
section
variable {P:Program} {base:Mine} {w0 w:World} {F0 F:Nat->Prop} {ι:Nat->Option Ref} {st:St} {a:Act}
theorem optV_ok (hs:Sim base w0 F0 F ι st a w) {x:Option Operand} {v:Option V} (h:optV st.val x=some v):
 (∀ u,v=some u->∃ y,x.map a.eval=some y/\vrep w F ι u.t u.x y)/\(v=none->x.map a.eval=none):=by
 unfold optV at h
 split at h
 . simp only[Option.some.injEq] at h;subst h;simp
 . split at h<;>try (simp at h;done)
   rename_i x v hv
   simp only[Option.some.injEq] at h;subst h
   refine⟨fun u hu=>?_,by simp⟩
   simp only[Option.some.injEq] at hu;subst hu
   exact⟨_,rfl,hs.val hv⟩
theorem sliceW_ok (hs:Sim base w0 F0 F ι st a w) {t:TypeId} {v:V} {l h:Option V} {lo hi:Option Operand} {x:Value} {r:Res} (hv:vrep w F ι v.t v.x x) (hl:optV st.val lo=some l) (hh:optV st.val hi=some h)
 (he:q1v P st.heap t v l h=some r):r.ok w F ι P (Instr.sliceAt t x (lo.map a.eval) (hi.map a.eval) none)/\r.plain=true:=by
 obtain⟨l1,l2⟩:=optV_ok hs hl
 obtain⟨h1,h2⟩:=optV_ok hs hh
 unfold q1v at he
 split at he<;>try (simp at he;done)
 . rename_i ht
   split at he<;>try (simp at he;done)
   rename_i s
   simp only[q4k] at he
   split at he<;>try (simp at he;done)
   rename_i i j hi hj
   simp only[Option.some.injEq] at he;subst he
   rw[q0s] at hv;subst hv
   exact⟨slcStr_ok ht (boundV_ok l1 l2 hi) (boundV_ok h1 h2 hj),rfl⟩
 . rename_i e ht
   split at he<;>try (simp at he;done)
   rename_i ag n hn
   split at he<;>try (simp at he;done)
   . rename_i ty y
     cases hc:Nat.beq n (width ty)<;>rw[hc] at he<;>simp only[cond_true,cond_false,reduceCtorEq] at he
     rw[Nat.beq_eq] at hc;subst hc
     simp only[q4k] at he
     split at he<;>try (simp at he;done)
     rename_i i j hi hj
     simp only[Option.some.injEq] at he;subst he
     exact⟨slcFr_ok ht hn hv (boundV_ok l1 l2 hi) (boundV_ok h1 h2 hj),rfl⟩
   . rename_i b y
     split at he<;>try (simp at he;done)
     rename_i ty x hb
     cases hc:Nat.beq n (width ty)<;>rw[hc] at he<;>simp only[cond_true,cond_false,reduceCtorEq] at he
     rw[Nat.beq_eq] at hc;subst hc
     split at he<;>try (simp at he;done)
     rename_i i j hi hj
     simp only[Option.some.injEq] at he;subst he
     exact⟨slcW_ok hs.heap ht hn hb hv (boundV_ok l1 l2 hi) (boundV_ok h1 h2 hj),rfl⟩
theorem litV_form {t:TypeId} {len:Nat} {parts:List (Nat×V)} {r:Res} (h:litV P t len parts=some r):∃ ty xs,r=.new (.arr ty xs):=by
 unfold litV at h
 split at h<;>try (simp at h;done)
 rename_i z b he
 cases hb:Nat.ble (len*width z.t) 16777216<;>rw[hb] at h<;>simp only[cond_true,cond_false,reduceCtorEq] at h
 split at h
 . simp only[Option.some.injEq] at h;exact⟨_,_,h.symm⟩
 split at h<;>try (simp at h;done)
 . obtain⟨_,h⟩:=bif_some h
   exact⟨_,_,h.symm⟩
 . split at h<;>try (simp at h;done)
   split at h<;>try (simp at h;done)
   simp only[Option.some.injEq] at h
   exact⟨_,_,h.symm⟩
theorem q39 {α β:Type} (xs:Array α) (f:α->β):(xs.toList.map f).toArray=xs.map f:=by rw[<-Array.toList_map,Array.toArray_toList]
theorem q6H (hs:Sim base w0 F0 F ι st a w):∀ (l:List Operand) (v:V),caught st.val l=some v->rep w F ι v.t v.x (l.map a.eval)
 | [],v,h=>by simp only[caught,Option.some.injEq] at h;subst h;rfl
 | x :: l,v,h=>by
  simp only[caught] at h
  split at h<;>try (simp at h;done)
  rename_i u hu
  split at h<;>try (simp at h;done)
  rename_i y hy
  obtain⟨hc,rfl⟩:=bif_some h
  have h1:=hs.val hu
  rw[vrep_cell hc] at h1
  simp only[rep,List.map_cons]
  exact⟨[a.eval x],l.map a.eval,rfl,h1,q6H hs l y hy⟩
theorem cloV_ok {f:FuncId} {v:V} {caps:Array Value} (h:rep w F ι v.t v.x caps.toList):vrep w F ι (cloV f v).t (cloV f v).x (.func (.func f) #[] caps):=by
 obtain⟨t,x⟩:=v
 cases t with
 | unit=>
  simp only[rep] at h
  have:caps = #[]:=by apply Array.ext';simpa using h
  subst this
  exact q0r.2 rfl
 | _=>exact (vrep_cell rfl).2 (by simp only[cloV,rep];exact⟨caps,rfl,h⟩)
theorem qaw {v:V} {x:Value} (hp:isPtrT v.t=true) (hv:vrep w F ι v.t v.x x):∃ p,x=.pointer (some p):=by
 obtain⟨t,y⟩:=v
 cases t<;>simp only[isPtrT,Bool.false_eq_true] at hp
 . rw[vrep_cell rfl] at hv;simp only[rep] at hv
   obtain⟨r,_,e⟩:=hv
   simp only[List.cons.injEq,and_true] at e;exact⟨_,e⟩
 . rw[vrep_cell rfl] at hv;simp only[rep] at hv
   obtain⟨r,_,_,_,e⟩:=hv
   simp only[List.cons.injEq,and_true] at e;exact⟨_,e⟩
 . rw[vrep_cell rfl] at hv;simp only[rep] at hv
   obtain⟨_,_,_,_,_,e,_⟩:=hv
   simp only[List.cons.injEq,and_true] at e;exact⟨_,e⟩
 . rw[vrep_cell rfl] at hv;simp only[rep] at hv
   obtain⟨r,_,_,_,e⟩:=hv
   simp only[List.cons.injEq,and_true] at e;exact⟨_,e⟩
 . rw[vrep_cell rfl] at hv;simp only[rep] at hv
   obtain⟨r,_,_,_,e⟩:=hv
   simp only[List.cons.injEq,and_true] at e;exact⟨_,e⟩
theorem evP_runs (h8:base.u8=u8of P) (hs:Sim base w0 F0 F ι st a w) {o:Oper} {r:Res} {d:Nat} (h:evP P st.val st.heap o.op=some r) (hd:r.plain=false->st.used d=false):r.runs base w0 F0 F ι st a w P d o:=by
 obtain⟨dst,op,ty,pos,aft,grd⟩:=o
 simp only at h
 cases op with
 | nilCheck x=>
  simp only[evP] at h
  split at h<;>try (simp at h;done)
  rename_i v hv
  obtain⟨hp,rfl⟩:=bif_some h
  have hx:=hs.val hv
  obtain⟨p,e⟩:=qaw hp hx
  exact⟨a.eval x,by simp[execOp,e],hx⟩
 | makeFunc fn first caps=>
  simp only[evP] at h
  split at h<;>try (simp at h;done)
  rename_i f
  cases hf:first.toList.isEmpty<;>rw[hf] at h
  . simp at h
  simp only[cond_true] at h
  split at h<;>try (simp at h;done)
  rename_i v hv
  simp only[Option.some.injEq] at h;subst h
  have h1:=q6H hs _ _ hv
  have hfi:first = #[]:=by
   apply Array.ext'
   simpa using hf
  subst hfi
  refine⟨.func (.func f) #[] (caps.map a.eval),by simp[execOp,Instr.makeFunc],cloV_ok ?_⟩
  rw[Array.toList_map];exact h1
 | move x=>
  simp only[evP] at h
  exact q0q (s:=pure (a.eval x)) h (by simp[execOp]) fun u hu=>⟨_,rfl,hs.val hu⟩
 | assign x=>
  simp only[evP] at h
  exact q0q (s:=pure (a.eval x)) h (by simp[execOp]) fun u hu=>⟨_,rfl,hs.val hu⟩
 | pick c x y=>
  simp only[evP] at h
  split at h<;>try (simp at h;done)
  rename_i t ht
  have hc:=hs.val ht
  rw[q0l] at hc
  split at h
  . exact q0q (s:=pure (a.eval x)) h (by simp[execOp,hc,asBool]) fun u hu=>⟨_,rfl,hs.val hu⟩
  . exact q0q (s:=pure (a.eval y)) h (by simp[execOp,hc,asBool]) fun u hu=>⟨_,rfl,hs.val hu⟩
 | alloc e=>
  simp only[evP] at h
  split at h<;>try (simp at h;done)
  rename_i z hz
  obtain⟨hbo,rfl⟩:=bif_some h
  obtain⟨cs,h1,h2,h3⟩:=run_alloc (w:=w) hz
  obtain⟨q1,q2⟩:=q6s hs (e:=e) (hd rfl) h2 (h3 F ι) (fun h=>(okB_eq hbo h).trans (congrArg Prod.snd h8.symm))
  exact⟨_,_,_,by simp[execOp,h1]<;>exact⟨rfl,rfl⟩,q1,q2⟩
 | box e x=>
  simp only[evP] at h
  split at h<;>try (simp at h;done)
  rename_i v hv
  obtain⟨hval,rfl⟩:=bif_some h
  simp only[Bool.and_eq_true] at hval
  obtain⟨hval,hbo⟩:=hval
  obtain⟨q1,q2⟩:=q6s hs (e:=e) (hd rfl) hval (vrep_cells (valT_or hval) (hs.val hv)) (fun h=>(okB_eq hbo h).trans (congrArg Prod.snd h8.symm))
  exact⟨_,_,_,by simp[execOp,run_box]<;>exact⟨rfl,rfl⟩,q1,q2⟩
 | build t parts=>
  simp only[evP] at h
  split at h<;>try (simp at h;done)
  rename_i l hl
  obtain⟨g1,g2⟩:=q41 hs _ _ hl
  split at h
  . refine q0q (s:=Instr.build t (parts.map fun (i,x)=>(i,a.eval x))) h (by simp[execOp]) fun u hu=>?_
    have:=buildA_ok (P:=P) (w:=w) (F:=F) (ι:=ι) g1 g2 hu
    rw[q39] at this
    exact this
  cases hc:q5H P t<;>rw[hc] at h<;>simp only[cond_true,cond_false,reduceCtorEq] at h
  refine q0q (s:=Instr.build t (parts.map fun (i,x)=>(i,a.eval x))) h (by simp[execOp]) fun u hu=>?_
  have:=buildV_ok (P:=P) (w:=w) (F:=F) (ι:=ι) g1 g2 (by
   intro fs hfs f hf
   unfold q5H at hc
   rw[hfs] at hc
   simp only[List.all_eq_true] at hc
   exact hc f hf) hu
  rw[q39] at this
  exact this
 | buildSlice t len parts=>
  simp only[evP] at h
  split at h<;>try (simp at h;done)
  rename_i l hl
  obtain⟨g1,g2⟩:=q41 hs _ _ hl
  obtain⟨ty',xs,rfl⟩:=litV_form h
  obtain⟨val,w',ι',x,q1,q2,q3⟩:=litV_ok (P:=P) h8 hs (hd rfl) g1 g2 h
  rw[q39] at q1
  exact⟨val,w',ι',by simp only[execOp,Sem.run_bind,q1,Result.andThen_ok,Sem.run_pure],q2,q3⟩
 | load t x=>
  simp only[evP] at h
  split at h<;>try (simp at h;done)
  rename_i ag n ht
  split at h<;>try (simp at h;done)
  rename_i v hv
  exact q0q (s:=Instr.loadAt t (a.eval x)) h (by simp[execOp]) fun u hu=>q5A hs.heap ht (hs.val hv) hu
 | binOp op t x y t'=>
  simp only[evP] at h
  split at h<;>try (simp at h;done)
  rename_i v1 h1
  split at h<;>try (simp at h;done)
  rename_i v2 h2
  obtain⟨q1,q2⟩:=binV_ok (x:=x) (y:=y) hs.heap (hs.val h1) (hs.val h2) h
  exact q2q (by simp[execOp];cases (eqGuard op t x y (a.eval x) (a.eval y)).run P w<;>rfl) q1 q2
 | unOp op t x=>
  simp only[evP] at h
  split at h<;>try (simp at h;done)
  rename_i v hv
  exact q0q (s:=Op.unary op (a.eval x)) h (by simp[execOp]) fun u hu=>unV_ok (hs.val hv) hu
 | convert s t x=>
  simp only[evP] at h
  split at h<;>try (simp at h;done)
  rename_i v hv
  exact q0q (s:=convert s t (a.eval x)) h (by simp[execOp]) fun u hu=>convV_ok (hs.val hv) hu
 | makeSlice t l c=>
  simp only[evP] at h
  split at h<;>try (simp at h;done)
  rename_i v1 h1
  split at h<;>try (simp at h;done)
  rename_i v2 h2
  have hm:∃ z:V,∃ b l c,r=mkRes z.t z.x b l c:=by
   unfold makeV at h
   split at h<;>try (simp at h;done)
   split at h<;>try (simp at h;done)
   simp only[Option.some.injEq] at h
   exact⟨_,_,_,_,h.symm⟩
  obtain⟨z,b,l',c',rfl⟩:=hm
  have:=makeV_ok (P:=P) h8 hs (hd rfl) (hs.val h1) (hs.val h2) h
  intro hc
  obtain⟨val,w',ι',x,q1,q2,q3⟩:=this hc
  exact⟨val,w',ι',by simp[execOp,q1],q2,q3⟩
 | slice t x lo hi mx=>
  cases mx with
  | some m=>simp[evP] at h
  | none=>
   simp only[evP] at h
   split at h<;>try (simp at h;done)
   rename_i v hv
   split at h<;>try (simp at h;done)
   rename_i l hl
   split at h<;>try (simp at h;done)
   rename_i u hu
   obtain⟨q1,q2⟩:=sliceW_ok (P:=P) hs (hs.val hv) hl hu h
   exact q2q (by simp[execOp]) q1 q2
 | fieldAddr s x f=>
  simp only[evP] at h
  split at h<;>try (simp at h;done)
  rename_i v hv
  exact q0q (s:=Instr.fieldAt s (a.eval x) f) h (by simp[execOp]) fun u hu=>fieldV_ok (hs.val hv) hu
 | field s x f=>
  simp only[evP] at h
  split at h<;>try (simp at h;done)
  rename_i v hv
  exact q0q (s:=Instr.field s (a.eval x) f) h (by simp[execOp]) fun u hu=>partV_ok (hs.val hv) hu
 | indexAddr t x i=>
  simp only[evP] at h
  split at h<;>try (simp at h;done)
  rotate_left
  . rename_i len e ht
    split at h<;>try (simp at h;done)
    rename_i ag n hn
    split at h<;>try (simp at h;done)
    rename_i v hv
    split at h<;>try (simp at h;done)
    rename_i j hj
    have hp:r.plain=true:=by
     unfold ixArr at h
     split at h<;>try (simp at h;done)
     split at h<;>try (simp at h;done)
     obtain⟨_,rfl⟩:=bif_some h;rfl
    exact q2q (by simp[execOp]) (ixArr_ok hs.heap ht hn (hs.val hv) (hs.val hj) h) hp
  rename_i e ht
  split at h<;>try (simp at h;done)
  rename_i ag n hn
  split at h<;>try (simp at h;done)
  rename_i v hv
  split at h<;>try (simp at h;done)
  rename_i j hj
  have hp:r.plain=true:=by
   unfold q15 at h
   split at h
   . split at h<;>try (simp at h;done)
     obtain⟨_,rfl⟩:=bif_some h;rfl
   . obtain⟨_,rfl⟩:=bif_some h;rfl
   . split at h<;>try (simp at h;done)
     obtain⟨_,rfl⟩:=bif_some h;rfl
   . split at h<;>try (simp at h;done)
     obtain⟨_,rfl⟩:=bif_some h;rfl
   . simp at h
  exact q2q (by simp[execOp]) (indexV_ok hs.heap ht hn (hs.val hv) (hs.val hj) h) hp
 | index t x i=>
  simp only[evP] at h
  split at h<;>try (simp at h;done)
  rename_i v hv
  split at h<;>try (simp at h;done)
  rename_i j hj
  have hp:r.plain=true:=by
   unfold charV at h
   split at h<;>try (simp at h;done)
   . split at h<;>try (simp at h;done)
     simp only[Option.some.injEq] at h;subst h;rfl
   . unfold arrV at h
     split at h<;>try (simp at h;done)
     split at h<;>try (simp at h;done)
     obtain⟨_,rfl⟩:=bif_some h;rfl
  exact q2q (by simp[execOp]) (charV_ok (hs.val hv) (hs.val hj) h) hp
 | extract x i=>
  simp only[evP] at h
  split at h<;>try (simp at h;done)
  rename_i v hv
  exact q0q (s:=Instr.extract (a.eval x) i) h (by simp[execOp]) fun u hu=>qao (hs.val hv) hu
 | call c=>
  obtain⟨cal,args,ts⟩:=c
  cases cal with
  | value f=>simp[evP] at h
  | invoke x m=>simp[evP] at h
  | builtin b=>
   simp only[evP] at h
   unfold q4C at h
   split at h<;>try (simp at h;done)
   . rename_i x t hargs hts
     split at h<;>try (simp at h;done)
     rename_i v hv
     have e1:args = #[x]:=by rw[<-Array.toArray_toList (xs:=args),hargs]
     have e2:ts = #[t]:=by rw[<-Array.toArray_toList (xs:=ts),hts]
     subst e1;subst e2
     exact q0q (s:=Builtin.len_ #[t] ty #[a.eval x]) h (by simp[execOp,resolve,invoke,builtin]) fun u hu=>lenV_ok hs.heap (hs.val hv) hu
   . rename_i x hargs
     split at h<;>try (simp at h;done)
     rename_i v hv
     have e1:args = #[x]:=by rw[<-Array.toArray_toList (xs:=args),hargs]
     subst e1
     obtain⟨q1,q2⟩:=dataV_ok (P:=P) (ts:=ts) (ty:=ty) hs.heap (hs.val hv) h
     exact q2q (by simp[execOp,resolve,invoke,builtin]) q1 q2
   . rename_i x y hargs
     have e1:args = #[x,y]:=by rw[<-Array.toArray_toList (xs:=args),hargs]
     subst e1
     split at h<;>try (simp at h;done)
     rename_i k n k' m hx hy
     obtain⟨hk,rfl⟩:=bif_some h
     have hk':=q3l hk;subst hk'
     have h1:=hs.val hx;have h2:=hs.val hy
     rw[q03] at h1 h2
     refine⟨_,?_,q03.2 rfl⟩
     simp[execOp,resolve,invoke,builtin,h1,h2,run_max_int2,maxI]
   . rename_i x y hargs
     have e1:args = #[x,y]:=by rw[<-Array.toArray_toList (xs:=args),hargs]
     subst e1
     split at h<;>try (simp at h;done)
     rename_i k n k' m hx hy
     obtain⟨hk,rfl⟩:=bif_some h
     have hk':=q3l hk;subst hk'
     have h1:=hs.val hx;have h2:=hs.val hy
     rw[q03] at h1 h2
     refine⟨_,?_,q03.2 rfl⟩
     simp[execOp,resolve,invoke,builtin,h1,h2,run_min_int2,minI]
 | _=>simp[evP] at h
end
end Go.VM
