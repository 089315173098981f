/- Typed pure data, a condition on code that says what a call gives, what the code of each function comes to, and what each function gives. -/
import Derived.Test.YtfifpjkegdkdpaaGreatA4
set_option linter.unusedVariables false
set_option linter.unusedSimpArgs false
set_option linter.unnecessarySimpa false
namespace Go.VM
open Go Go.RowKit
structure Named (S:Nat->Prop) (st:St):Prop where
 env:∀ i v,st.env i=some v->∀ b,b∈ids v.t->S b
 heap:∀ n k,st.heap n=some k->S n/\∀ t x,k=.box t x->∀ b,b∈ids t->S b
theorem packC_named {S:Nat->Prop}:∀ (l:List (Nat×Ty)) (st:St),(∀ b,b∈q3b l->S b)->Named S st->Named S (packC l st)
 | [],st,_,h=>h
 | (n,t) :: l,st,hS,h=>by
  refine packC_named l _ (fun b hb=>hS b (by simp[q3b,hb])) ⟨fun i v hv b hb=>?_,h.heap⟩
  rcases upd_some hv with ⟨_,e⟩ | ⟨_,e⟩
  . cases e;exact hS b (by simp[q3b];exact .inl hb)
  . exact h.env i v e b hb
theorem packE1_named {S:Nat->Prop} (e:Ent) (x:denE e) (st:St) (hS:∀ b,b∈q0h [e]->S b) (h:Named S st):Named S (packE1 e x st):=by
 cases e with
 | var n t=>
  refine⟨fun i v hv b hb=>?_,h.heap⟩
  rcases upd_some hv with ⟨_,e⟩ | ⟨_,e⟩
  . cases e;exact hS b (by simp[q0h];exact hb)
  . exact h.env i v e b hb
 | box n t=>
  refine⟨h.env,fun m k hk=>?_⟩
  rcases upd_some hk with ⟨rfl,e⟩ | ⟨_,e⟩
  . cases e
    refine⟨hS _ (by simp[q0h]),fun t' x' e' b hb=>?_⟩
    cases e'
    exact hS b (by simp[q0h,hb])
  . exact h.heap m k e
 | arr n t=>
  refine⟨h.env,fun m k hk=>?_⟩
  rcases upd_some hk with ⟨rfl,e⟩ | ⟨_,e⟩
  . cases e
    exact⟨hS _ (by simp[q0h]),fun t' x' e'=>by cases e'⟩
  . exact h.heap m k e
 | pool n t=>
  refine⟨h.env,fun m k hk=>?_⟩
  rcases upd_some hk with ⟨rfl,e⟩ | ⟨_,e⟩
  . cases e
    exact⟨hS _ (by simp[q0h]),fun t' x' e'=>by cases e'⟩
  . exact h.heap m k e
theorem namesE_cons (e:Ent) (l:List Ent) (b:Nat):b∈q0h (e :: l)↔b∈q0h [e]∨b∈q0h l:=by
 cases e<;>simp[q0h,or_assoc]
theorem q7q {S:Nat->Prop}:∀ (l:List Ent) (p:Pay l) (st:St),(∀ b,b∈q0h l->S b)->Named S st->Named S (packL l p st)
 | [],_,st,_,h=>h
 | [e],x,st,hS,h=>packE1_named e x st hS h
 | e :: e' :: l,p,st,hS,h=>q7q (e' :: l) p.2 _ (fun b hb=>hS b ((namesE_cons e (e' :: l) b).2 (.inr hb))) (packE1_named e p.1 st (fun b hb=>hS b ((namesE_cons e (e' :: l) b).2 (.inl hb))) h)
theorem pack_named (sh:Shape) (p:Pay sh.ents):Named (fun n=>n∈sh.names) (pack sh p):=
 q7q _ _ _ (fun b hb=>by simp[Shape.names,hb]) (packC_named _ _ (fun b hb=>by simp[Shape.names,hb]) ⟨fun i v hv=>by simp at hv,fun n k hk=>by simp at hk⟩)
theorem q7o:∀ (l:List Ent) (p:Pay l) (st:St) (n:Nat),memN n (boxesE l)=true∨(∃ k,st.heap n=some k)->∃ k,(packL l p st).heap n=some k
 | [],_,st,n,h=>by
  rcases h with h | h
  . simp[boxesE,memN] at h
  . exact h
 | [e],x,st,n,h=>by
  cases e with
  | var m t=>
   rcases h with h | h
   . simp[boxesE,memN] at h
   . exact h
  | box m t=>
   by_cases hm:n=m
   . subst hm;exact⟨_,upd_same _ _ _⟩
   . rcases h with h | h
     . simp[boxesE,memN] at h;exact absurd h hm
     . exact⟨_,(upd_other _ _ _ _ hm).trans h.choose_spec⟩
  | arr m t=>
   by_cases hm:n=m
   . subst hm;exact⟨_,upd_same _ _ _⟩
   . rcases h with h | h
     . simp[boxesE,memN] at h;exact absurd h hm
     . exact⟨_,(upd_other _ _ _ _ hm).trans h.choose_spec⟩
  | pool m t=>
   by_cases hm:n=m
   . subst hm;exact⟨_,upd_same _ _ _⟩
   . rcases h with h | h
     . simp[boxesE,memN] at h
     . exact⟨_,(upd_other _ _ _ _ hm).trans h.choose_spec⟩
 | e :: e' :: l,p,st,n,h=>by
  refine q7o (e' :: l) p.2 _ n ?_
  cases e with
  | var m t=>
   rcases h with h | h
   . exact .inl h
   . exact .inr h
  | box m t=>
   by_cases hm:n=m
   . subst hm;exact .inr ⟨_,upd_same _ _ _⟩
   . rcases h with h | h
     . refine .inl ?_
       simp only[boxesE,memN,Bool.or_eq_true] at h
       rcases h with h | h
       . exact absurd (Nat.eq_of_beq_eq_true h) hm
       . exact h
     . exact .inr ⟨_,(upd_other _ _ _ _ hm).trans h.choose_spec⟩
  | arr m t=>
   by_cases hm:n=m
   . subst hm;exact .inr ⟨_,upd_same _ _ _⟩
   . rcases h with h | h
     . refine .inl ?_
       simp only[boxesE,memN,Bool.or_eq_true] at h
       rcases h with h | h
       . exact absurd (Nat.eq_of_beq_eq_true h) hm
       . exact h
     . exact .inr ⟨_,(upd_other _ _ _ _ hm).trans h.choose_spec⟩
  | pool m t=>
   by_cases hm:n=m
   . subst hm;exact .inr ⟨_,upd_same _ _ _⟩
   . rcases h with h | h
     . exact .inl h
     . exact .inr ⟨_,(upd_other _ _ _ _ hm).trans h.choose_spec⟩
theorem q7t {sh:Shape} {p:Pay sh.ents} {n:Nat} (h:memN n (boxesE sh.ents)=true):∃ k,(pack sh p).heap n=some k:=q7o _ _ _ _ (.inl h)
theorem packE1_noPool (e:Ent) (x:denE e) (st:St) (hl:q0R [e]=true) (h:∀ n k,st.heap n=some k->isPool k=false):∀ n k,(packE1 e x st).heap n=some k->isPool k=false:=by
 cases e with
 | var n t=>exact h
 | pool n t=>simp[q0R] at hl
 | box n t=>
  intro m k hk
  rcases upd_some hk with ⟨_,e⟩ | ⟨_,e⟩
  . cases e;rfl
  . exact h m k e
 | arr n t=>
  intro m k hk
  rcases upd_some hk with ⟨_,e⟩ | ⟨_,e⟩
  . cases e;rfl
  . exact h m k e
theorem q7r:∀ (l:List Ent) (p:Pay l) (st:St),q0R l=true->(∀ n k,st.heap n=some k->isPool k=false)->∀ n k,(packL l p st).heap n=some k->isPool k=false
 | [],_,st,_,h=>h
 | [e],x,st,hl,h=>packE1_noPool e x st hl h
 | e :: e' :: l,p,st,hl,h=>q7r (e' :: l) p.2 _ (by cases e<;>simp_all [q0R]) (packE1_noPool e p.1 st (by cases e<;>simp_all [q0R]) h)
theorem q5L:∀ (l:List (Nat×Ty)) (st:St),(packC l st).heap=st.heap
 | [],_=>rfl
 | _ :: l,_=>q5L l _
theorem pack_noPool {sh:Shape} {p:Pay sh.ents} (h:q0R sh.ents=true):∀ n k,(pack sh p).heap n=some k->isPool k=false:=
 q7r _ _ _ h (by rw[q5L];intro n k e;cases e)
theorem q4z {α:Type} {b:Bool} {x:Option α} {y:α} (h:(bif b then x else none)=some y):b=true/\x=some y:=by
 cases b with
 | true=>exact⟨rfl,h⟩
 | false=>cases h
def BackH (g:Nat->Nat) (ps:List Nat) (old ho hp:Nat->Option Blk):Prop:=
 (∀ c k,hp c=some k->((∃ n k0,g n=c/\ho n=some k0/\k=rnB g k0/\(∀ t x,k0=.box t x->rnOk ps t=true)/\(∀ t l,k0=.arr t l->hdIn ps t=true)/\isPool k0=false)∨∃ t ls,k=.pool c t ls/\ho c=some (.pool c t ls)/\memN c ps=true/\frozen t=true)∨old c=some k) /\
 ∀ n k,ho n=some k->memN n ps=true->isPool k=true
theorem backE_ok {g:Nat->Nat} {ps:List Nat} {old ho hp hp':Nat->Option Blk} {used:Nat->Bool} {env:Nat->Option V} (e:Ent) (x:denE e) (h:backE g ps e x hp=some hp') (hb:BackH g ps old ho hp) (hx:∀ n,n∈boxesE [e]->memN n ps=false):
 BackH g ps old (packE1 e x ⟨env,ho,used⟩).heap hp':=by
 obtain⟨hb,hq⟩:=hb
 have stat:∀ (n:Nat) (k0:Blk),memN n ps=false->isPool k0=false->(∀ t x,k0=.box t x->rnOk ps t=true)->(∀ t l,k0=.arr t l->hdIn ps t=true)->BackH g ps old (upd ho n (some k0)) (upd hp (g n) (some (rnB g k0))):=by
  intro n k0 hn h1 h2 h3
  refine⟨fun c k hc=>?_,fun m k hk hm=>?_⟩
  . rcases upd_some hc with ⟨rfl,e⟩ | ⟨hne,e⟩
    . cases e
      exact .inl (.inl ⟨n,k0,rfl,upd_same _ _ _,rfl,h2,h3,h1⟩)
    . rcases hb c k e with (⟨m,k0,e1,e2,e3,e4⟩ | ⟨t,ls,e1,e2,e3,e4⟩) | e1
      . refine .inl (.inl ⟨m,k0,e1,?_,e3,e4⟩)
        rw[upd_other _ _ _ _ (by rintro rfl;exact hne e1.symm)];exact e2
      . refine .inl (.inr ⟨t,ls,e1,?_,e3,e4⟩)
        rw[upd_other _ _ _ _ (by rintro rfl;rw[hn] at e3;cases e3)];exact e2
      . exact .inr e1
  . rcases upd_some hk with ⟨rfl,_⟩ | ⟨_,e⟩
    . rw[hn] at hm;cases hm
    . exact hq m k e hm
 cases e with
 | var n t=>simp only[backE,Option.some.injEq] at h;subst h;exact⟨hb,hq⟩
 | box n t=>
  obtain⟨ho1,e⟩:=bif_some h
  subst e
  exact stat n (.box t x) (hx n (by simp[boxesE])) rfl (fun t' x' e=>by cases e;exact ho1) (fun t' x' e=>by cases e)
 | arr n t=>
  obtain⟨ho1,e⟩:=bif_some h
  subst e
  exact stat n (.arr t x) (hx n (by simp[boxesE])) rfl (fun t' x' e=>by cases e) (fun t' x' e=>by cases e;exact ho1)
 | pool n t=>
  obtain⟨ho1,e⟩:=bif_some h
  subst e
  simp only[Bool.and_eq_true] at ho1
  refine⟨fun c k hc=>?_,fun m k hk hm=>?_⟩
  . rcases upd_some hc with ⟨rfl,e⟩ | ⟨hne,e⟩
    . cases e
      exact .inl (.inr ⟨t,x,rfl,upd_same _ _ _,ho1.2,ho1.1⟩)
    . rcases hb c k e with (⟨m,k0,e1,e2,e3,e4,e5,e6⟩ | ⟨t',ls,e1,e2,e3⟩) | e1
      . refine .inl (.inl ⟨m,k0,e1,?_,e3,e4,e5,e6⟩)
        show upd ho n _ m=_
        rw[upd_other _ _ _ _ (by rintro rfl;have:=hq m k0 e2 ho1.2;rw[e6] at this;cases this)];exact e2
      . refine .inl (.inr ⟨t',ls,e1,?_,e3⟩)
        show upd ho n _ c=_
        rw[upd_other _ _ _ _ hne];exact e2
      . exact .inr e1
  . rcases upd_some hk with ⟨_,e⟩ | ⟨_,e⟩
    . cases e;rfl
    . exact hq m k e hm
theorem qa8 (e:Ent) (l:List Ent):boxesE (e :: l)=boxesE [e] ++ boxesE l:=by cases e<;>rfl
theorem q6w {g:Nat->Nat} {ps:List Nat} {old:Nat->Option Blk}:∀ (l:List Ent) (p:Pay l) (st:St) (hp hp':Nat->Option Blk),backL g ps l p hp=some hp'->(∀ n,n∈boxesE l->memN n ps=false)->BackH g ps old st.heap hp->BackH g ps old (packL l p st).heap hp'
 | [],_,st,hp,hp',h,_,hb=>by simp only[backL,Option.some.injEq] at h;subst h;exact hb
 | [e],x,st,hp,hp',h,hx,hb=>backE_ok (used:=st.used) (env:=st.env) e x h hb hx
 | e :: e' :: l,p,st,hp,hp',h,hx,hb=>by
  simp only[backL] at h
  split at h<;>try (simp at h;done)
  rename_i hp1 h1
  rw[qa8] at hx
  exact q6w (e' :: l) p.2 _ hp1 hp' h (fun n hn=>hx n (List.mem_append_right _ hn)) (backE_ok (used:=st.used) (env:=st.env) e p.1 h1 hb fun n hn=>hx n (List.mem_append_left _ hn))
section
variable {P:Program} {base:Mine} {w0 w:World} {F0 F:Nat->Prop} {ι:Nat->Option Ref} {N:Nat} {st:St} {a:Act}
theorem q6B {M:Mine} (h8:M.u8=base.u8) {r:Ref} {k:Blk} (h:brep w base F ι r k) (hM:r.nil=false->M.own r.blk) (hp:isPool k=false):brep w M F ι r k:=by
 cases k with
 | pool p t ls=>cases hp
 | box t x=>
  obtain⟨q1,q2,q3,q4,q5,cells,el,qb,q6⟩:=h
  exact⟨q1,q2,hM q1,q4,q5,cells,el,fun h=>(qb h).trans (congrArg Prod.snd h8.symm),q6⟩
 | arr t l=>
  obtain⟨q0,q⟩:=h
  refine⟨q0,?_⟩
  cases l with
  | none=>exact q
  | some l=>
   obtain⟨q1,q2,q3,q4,q5,q6,cells,el,qe,q7⟩:=q
   exact⟨q1,q2,q3,q4,hM q1,q6,cells,el,fun h=>(qe h).trans (congrArg Prod.fst h8.symm),q7⟩
theorem brep_ownF {r:Ref} {k:Blk} (h:brep w base F ι r k) (hn:r.nil=false):base.own r.blk/\¬ F r.blk:=by
 cases k with
 | pool p t ls=>rw[h.1] at hn;cases hn
 | box t x=>obtain⟨_,_,q3,q4,_⟩:=h;exact⟨q3,q4⟩
 | arr t l=>
  obtain⟨_,q⟩:=h
  cases l with
  | none=>simp only at q;rw[q] at hn;simp at hn
  | some l=>obtain⟨_,_,_,_,q5,q6,_⟩:=q;exact⟨q5,q6⟩
theorem q6A {w':World} {F':Nat->Prop} {ι':Nat->Option Ref} {r:Ref} {k:Blk} (hι:∀ b r,ι b=some r->ι' b=some r) (hF:∀ b,F b->F' b) (hFw:∀ b,F b->w'.heap[b]?=w.heap[b]?)
 (hb:r.nil=false->w'.heap[r.blk]?=w.heap[r.blk]?) (hn:r.nil=false->¬ F' r.blk) (hH:∀ p t ls n,k=.pool p t ls->ι (hnm p n)=none->ι' (hnm p n)=none) (hrow:∀ p t ls n l s,k=.pool p t ls->ls[n]?=some l->ι (hnm p n)=some s->¬ F s.blk->s.blk<w.heap.size->¬ F' s.blk/\w'.heap[s.blk]?=w.heap[s.blk]?) (h:brep w base F ι r k):brep w' base F' ι' r k:=by
 cases k with
 | pool p t ls=>exact q3f hι (fun n=>hH p t ls n rfl) h hF hFw fun n l s hl hs h1 h2=>hrow p t ls n l s rfl hl hs h1 h2
 | box t x=>
  obtain⟨q1,q2,q3,q4,q5,cells,el,qb,q6,q7⟩:=h
  exact⟨q1,q2,q3,hn q1,q5,cells,el,qb,(hb q1).trans q6,rep_mono hF hι hFw _ _ _ q7⟩
 | arr t l=>
  obtain⟨q0,q⟩:=h
  refine⟨q0,?_⟩
  cases l with
  | none=>exact q
  | some l=>
   obtain⟨q1,q2,q3,q4,q5,q6,cells,el,qe,q7,q8,q9⟩:=q
   exact⟨q1,q2,q3,q4,q5,hn q1,cells,el,qe,(hb q1).trans q7,q8,fun i y hy=>rep_mono hF hι hFw _ _ _ (q9 i y hy)⟩
theorem brep_rn {M:Mine} {ps:List Nat} (h8:M.u8=base.u8) {F':Nat->Prop} {ι':Nat->Option Ref} {g:Nat->Nat} {r:Ref} {k:Blk} (hι:∀ t x,k=.box t x->∀ b,b∈ids t->∀ r,ι b=some r->ι' (g b)=some r) (hF:∀ b,F b->F' b) (hP:∀ p n r,memN p ps=true->ι (hnm p n)=some r->ι' (hnm p n)=some r)
 (harr:∀ t l,k=.arr t l->hdIn ps t=true) (hok:∀ t x,k=.box t x->rnOk ps t=true) (hM:r.nil=false->M.own r.blk) (hn:r.nil=false->¬ F' r.blk) (hp:isPool k=false) (h:brep w base F ι r k):brep w M F' ι' r (rnB g k):=by
 cases k with
 | pool p t ls=>cases hp
 | box t x=>
  obtain⟨q1,q2,q3,q4,q5,cells,el,qb,q6,q7⟩:=h
  have htag:=q5T g t x
  exact⟨q1,q2,hM q1,hn q1,by simp only[valT,htag.1,htag.2];exact q5,cells,el,fun h=>(qb ((bld_hd (rn_hd2 g t x)).symm.trans h)).trans (congrArg Prod.snd h8.symm),q6,rep_mono hF (fun _ _ h=>h) (fun _ _=>rfl) _ _ _ (rn_rep hP _ _ _ (hι t x rfl) (hok t x rfl) q7)⟩
 | arr t l=>
  obtain⟨q0,q⟩:=h
  refine⟨q0,?_⟩
  cases l with
  | none=>exact q
  | some l=>
   obtain⟨q1,q2,q3,q4,q5,q6,cells,el,qe,q7,q8,q9⟩:=q
   exact⟨q1,q2,q3,q4,hM q1,hn q1,cells,el,(fun h=>(qe h).trans (congrArg Prod.fst h8.symm)),q7,q8,fun i y hy=>q76 hP _ _ _ (harr t l rfl) (rep_mono hF (fun _ _ h=>h) (fun _ _=>rfl) _ _ _ (q9 i y hy))⟩
theorem brep_pool {M:Mine} (h8:M.u8=base.u8) {F':Nat->Prop} {ι':Nat->Option Ref} {r:Ref} {p:Nat} {t:Ty} {ls:List (List (den t))} (hι:∀ n,ι' (hnm p n)=ι (hnm p n)) (hF:∀ b,F b->F' b) (ht:frozen t=true)
 (hM:∀ k,base.own k->¬ F k->M.own k/\¬ F' k) (h:brep w base F ι r (.pool p t ls)):brep w M F' ι' r (.pool p t ls):=by
 obtain⟨q1,q2,q3,q4,q5⟩:=h
 refine⟨q1,q2,q3,fun n hn=>(hι n).trans (q4 n hn),fun n l hl=>?_⟩
 obtain⟨s,hs,a1,a2,a3,a4,a5,a6,cells,el,ae,a7,a8,a9⟩:=q5 n l hl
 obtain⟨b1,b2⟩:=hM _ a5 a6
 exact⟨s,(hι n).trans hs,a1,a2,a3,a4,b1,b2,cells,el,(fun h=>(ae h).trans (congrArg Prod.fst h8.symm)),a7,a8,fun i y hy=>rep_frozen _ _ _ ht (rep_mono hF (fun _ _ h=>h) (fun _ _=>rfl) _ _ _ (a9 i y hy))⟩
theorem isBack_of {d n:Nat} {names:List Nat} (hn:n∈names) (hp:pinned n=false):isBack d names ((d+1)*100000+n)=true:=by
 simp only[isBack,Nat.add_sub_cancel_left,hp,Bool.not_false,Bool.and_true,Bool.and_eq_true]
 exact⟨by rw[Nat.ble_eq];exact Nat.le_add_right _ _,q7c.2 hn⟩
def backRef (d:Nat) (st:St) (names ps:List Nat) (ι ι':Nat->Option Ref):Nat->Option Ref:=fun c=>
 bif isH c && memN (c % hbase) ps then ι' c else bif st.used c then ι c else bif isBack d names c then ι' (c - (d+1)*100000) else bif memN c ps then ι' c else none
theorem Sim.back (hs:Sim base w0 F0 F ι st a w) {inn:Shape} {p:Pay inn.ents} {ρ:Ren} {sa:St} (hsa:sa.heap=st.heap)
 (hto:q1b w base F ρ ι sa (pack inn p).heap) {M:Mine} (hMn:M.n=w.heap.size)
 (hMl:∀ k,M.lent k->(∃ n d r,look ρ n=some (some d)/\(∃ b,(pack inn p).heap n=some b)/\ι d=some r/\r.nil=false/\r.blk=k)∨∃ q t ls n r,(pack inn p).heap q=some (.pool q t ls)/\n<ls.length/\ι (hnm q n)=some r/\r.blk=k) (hMp:M.pin=renamed ρ ι) (hM8:M.u8=base.u8)
 {out:Shape} {q0:Pay out.ents} {F':Nat->Prop} {ι':Nat->Option Ref} {a':Act} {w':World} (hc:Sim M w F F' ι' (pack out q0) a' w') {d:Nat} (hnames:q3c d st ρ inn.ents out.names=true) {ps:List Nat} (hnew:poolFresh d st out.names ps=true) (hap:q2F ps (boxesE out.ents)=true)
 {hp:Nat->Option Blk} (hback:backL (backName d ρ) ps out.ents q0 (killR ρ st).heap=some hp):
 Sim base w0 F0 (fun k=>F k∨F' k) (backRef d st out.names ps ι ι') ⟨st.env,hp,fun c=>st.used c || isBack d out.names c || memN c ps⟩ a w' /\
 (∀ n,n∈out.names->∀ r,ι' n=some r->backRef d st out.names ps ι ι' (backName d ρ n)=some r)/\∀ p n r,memN p ps=true->ι' (hnm p n)=some r->backRef d st out.names ps ι ι' (hnm p n)=some r:=by
 have hpn:=q7u hnew
 have hPS:∀ p n,memN p ps=true->backRef d st out.names ps ι ι' (hnm p n)=ι' (hnm p n):=fun p n h=>by
  simp only[backRef,isH_hn,q0Q (hpn p h).2.1,h,Bool.and_self,cond_true]
 have hfree:∀ p n,memN p ps=true->ι (hnm p n)=none:=fun p n h=>hs.pools.free p n (hpn p h).2.1 (hpn p h).1
 have stat:∀ c,isH c=false->backRef d st out.names ps ι ι' c=bif st.used c then ι c else bif isBack d out.names c then ι' (c - (d+1)*100000) else bif memN c ps then ι' c else none:=fun c h=>by
  simp only[backRef,h,Bool.false_and,cond_false]
 have lent_old:∀ k,M.lent k->(∃ n b0 k0 r,look ρ n=some (some b0)/\st.heap b0=some k0/\ι b0=some r/\r.nil=false/\r.blk=k)∨∃ q n kk r,(q,some q)∈ρ/\q<hbase/\prow st.heap (hnm q n)=some kk/\ι (hnm q n)=some r/\r.blk=k/\base.own k/\¬ F k/\r.nil=false:=by
  intro k hk
  rcases hMl k hk with ⟨n,d0,r,h1,⟨b,h2⟩,h3,h4,h5⟩ | ⟨q,t,ls,n,r,h1,h2,h3,h4⟩
  . rcases hto n b h2 with ⟨d1,k0,r1,e1,e2,e3,_⟩ | ⟨e1,_⟩
    . rw[h1] at e1;cases e1
      rw[hsa] at e2
      exact .inl ⟨n,d0,k0,r,h1,e2,h3,h4,h5⟩
    . rw[h1] at e1;cases e1
  . rcases hto q _ h1 with ⟨d1,k0,r1,e1,e2,e3,e4,e5⟩ | ⟨_,_,_,e⟩
    . obtain⟨rfl,rfl,_⟩:=e5 rfl
      rw[hsa] at e2
      obtain⟨r0,hr0,z1,z2,z3,z4,z5⟩:=hs.heap _ _ e2
      have hl:ls[n]?=some ls[n]:=List.getElem?_eq_getElem h2
      obtain⟨s,hs',a1,_,_,_,a5,a6,_⟩:=z5 n _ hl
      rw[h3] at hs';cases hs'
      subst h4
      exact .inr ⟨d1,n,_,r,look_mem e1,z2,by rw[q08 z2,e2];simp only[rowB,hl];rfl,h3,rfl,a5,a6,a1⟩
    . cases e
 have hMown:∀ k,M.own k->base.own k/\¬ F k:=by
  rintro k (hk | hk)
  . rw[hMn] at hk
    exact⟨.inl (Nat.le_trans hs.size hk),fun hf=>by have:=hs.fsize _ hf;omega⟩
  . rcases lent_old k hk with ⟨n,b0,k0,r,_,h2,h3,h4,rfl⟩ | ⟨q,n,kk,r,_,_,_,_,_,h5,h6,_⟩
    . obtain⟨r',hr',hb⟩:=hs.heap b0 k0 h2
      rw[h3] at hr';cases hr'
      exact brep_ownF hb h4
    . exact⟨h5,h6⟩
 have hFl:∀ k,F k->¬ M.lent k:=fun k hf hl=>(hMown k (.inr hl)).2 hf
 have hFw:∀ b,F b->w'.heap[b]?=w.heap[b]?:=fun b hb=>hc.below.block b (by rw[hMn];exact hs.fsize b hb) (hFl b hb)
 have hι:∀ b r,ι b=some r->backRef d st out.names ps ι ι' b=some r:=by
  intro b r hr
  cases hb:isH b with
  | false=>rw[stat b hb,hs.used b r hr];exact hr
  | true=>
   cases hm:memN (b % hbase) ps with
   | false=>simp only[backRef,hb,hm,Bool.and_false,cond_false,hs.used b r hr,cond_true];exact hr
   | true=>
    have:=hfree (b % hbase) (b / hbase - 1) hm
    rw[<- (isH_name hb).1,hr] at this;cases this
 have hmem:=q7g hnames
 have hback2:∀ n,n∈out.names->∀ r,ι' n=some r->backRef d st out.names ps ι ι' (backName d ρ n)=some r:=by
  intro n hn r hr
  cases hpn:pinned n with
  | true=>
   obtain⟨h1,b,h2⟩:=(hmem n hn).1 hpn
   obtain⟨k,hk⟩:=q7t (p:=p) h1
   rcases hto n k hk with ⟨d1,k0,r1,e1,e2,e3,_⟩ | ⟨e1,_⟩
   . rw[h2] at e1;cases e1
     have e4:backName d ρ n=b:=by simp only[backName,hpn,cond_true,h2]
     rw[e4]
     have e5:M.pin n=some r1:=by rw[hMp];simp only[renamed,h2];exact e3
     have:=hc.pin n r r1 hpn e5 hr
     subst this
     exact hι b r e3
   . rw[h2] at e1;cases e1
  | false=>
   have e4:backName d ρ n=(d+1)*100000+n:=by simp only[backName,hpn,cond_false]
   have hu:=(hmem n hn).2 hpn
   rw[e4,stat _ (hs.unused hu).2.2]
   simp only[hu,cond_false,isBack_of hn hpn,cond_true,Nat.add_sub_cancel_left];exact hr
 have hb:=q6w (g:=backName d ρ) (old:=(killR ρ st).heap) out.ents q0 (packC out.csts ⟨fun _=>none,fun _=>none,fun n=>memN n out.names || resv n⟩) _ _ hback (apartN_mem hap) ⟨fun c k h=>.inr h,fun n k h=>by rw[q5L] at h;cases h⟩
 have hb:BackH (backName d ρ) ps (killR ρ st).heap (pack out q0).heap hp:=hb
 obtain⟨hb,hps⟩:=hb
 have hpk:=pack_named out q0
 have old_not:∀ c k r,st.heap c=some k->(∀ n,(n,some c)∉ρ)->ι c=some r->r.nil=false->¬ M.lent r.blk:=by
  intro c k r h1 h2 h3 h4 hl
  rcases lent_old _ hl with ⟨n,b0,k0,r0,e1,e2,e3,e4,e5⟩ | ⟨q,n,kk,r0,e1,e2,e3,e4,e5,_⟩
  . have hne:c≠b0:=by rintro rfl;exact h2 n (look_mem e1)
    exact hs.apart c b0 k k0 r r0 hne h1 e2 h3 e3 h4 e4 e5.symm
  . exact hs.pools.apart (hnm q n) c kk k r0 r (fun e=>by rw[<-e,hs.pools.noH _ (isH_hn _ _)] at h1;cases h1) e3 (.inr h1) e4 h3 h4 e5
 have newOwn:∀ n k0 r,(pack out q0).heap n=some k0->ι' n=some r->r.nil=false->M.own r.blk:=by
  intro n k0 r h1 h2 h3
  obtain⟨r',hr',hk⟩:=hc.heap n k0 h1
  rw[h2] at hr';cases hr'
  exact (brep_ownF hk h3).1
 have oldOut:∀ c k r,st.heap c=some k->(∀ n,(n,some c)∉ρ)->ι c=some r->r.nil=false->¬ M.own r.blk:=by
  intro c k r h1 h2 h3 h4 ho
  obtain⟨r',hr',hk⟩:=hs.heap c k h1
  rw[h3] at hr';cases hr'
  rcases ho with ho | ho
  . rw[hMn] at ho;have:=brep_lt hk h4;omega
  . exact old_not c k r h1 h2 h3 h4 ho
 have hHb:∀ b,isH b=true->memN (b % hbase) ps=false->backRef d st out.names ps ι ι' b=ι b:=by
  intro b hb hm
  simp only[backRef,hs.pools.uH b hb,hm,Bool.and_false,cond_false,cond_true]
 have rowOut:∀ c k r,prow (killR ρ st).heap c=some k->ι c=some r->¬ M.own r.blk:=by
  intro c k r h1 h2 ho
  obtain⟨q,n,q',u,ls,l,hq,rfl,hbk,hl,rfl⟩:=q0a h1
  obtain⟨g1,g2⟩:=killR_ok ρ st hbk
  have h1:prow st.heap (hnm q n)=some (.arr u (some l)):=by rw[q08 hq,g1];simp only[rowB,hl]
  rcases ho with ho | ho
  . rw[hMn] at ho;have:=hs.row_lt h1 h2;omega
  . rcases lent_old _ ho with ⟨n',b0,k0,r0,e1,e2,e3,e4,e5⟩ | ⟨q2,n2,kk,r0,e1,e2,e3,e4,e5,_,_,e6⟩
    . exact hs.pools.apart _ b0 _ k0 r r0 (fun e=>by rw[e] at h1;exact (hs.row_static h1 e2).elim) h1 (.inr e2) h2 e3 e4 e5.symm
    . exact hs.pools.apart _ (hnm q2 n2) _ kk r r0 (fun e=>by have:=(hnm_inj hq e2 e).1;subst this;exact g2 _ e1) h1 (.inl e3) h2 e4 e6 e5.symm
 have killrow:∀ {c k},prow (killR ρ st).heap c=some k->prow st.heap c=some k:=by
  intro c k h1
  obtain⟨q,n,q',u,ls,l,hq,rfl,hbk,hl,rfl⟩:=q0a h1
  rw[q08 hq,(killR_ok ρ st hbk).1];simp only[rowB,hl]
 have holdp:∀ c k,st.heap c=some k->memN c ps=false:=by
  intro c k hk
  obtain⟨r,hr,_⟩:=hs.heap c k hk
  cases hm:memN c ps with
  | false=>rfl
  | true=>have:=hs.used c r hr;rw[(hpn c hm).1] at this;cases this
 have hpold:∀ c q u ls,hp c=some (.pool q u ls)->(c=q/\memN c ps=true/\(pack out q0).heap c=some (.pool q u ls))∨(memN c ps=false/\(killR ρ st).heap c=some (.pool q u ls)):=by
  intro c q u ls hk
  rcases hb c _ hk with (⟨n,k0,_,_,e1,_,_,e2⟩ | ⟨t,l,e1,e2,e3,_⟩) | h1
  . cases k0<;>cases e1
    cases e2
  . cases e1;exact .inl ⟨rfl,e3,e2⟩
  . have h2:=(killR_ok ρ st h1).1
    exact .inr ⟨holdp _ _ h2,h1⟩
 have hrold:∀ c k,prow hp c=some k->isH c=true/\((memN (c % hbase) ps=true/\prow (pack out q0).heap c=some k)∨(memN (c % hbase) ps=false/\prow (killR ρ st).heap c=some k)):=by
  intro c k e
  obtain⟨q,n,q',u,ls,l,hq,rfl,hb,hl,rfl⟩:=q0a e
  refine⟨isH_hn _ _,?_⟩
  rw[q08 hq,q08 hq,q0Q hq]
  rcases hpold _ _ _ _ hb with ⟨_,h1,h2⟩ | ⟨h1,h2⟩
  . refine .inl ⟨h1,?_⟩;rw[h2];simp only[rowB,hl]
  . refine .inr ⟨h1,?_⟩;rw[h2];simp only[rowB,hl]
 refine⟨⟨fun s v hv=>vrep_mono (fun _ h=>.inl h) hι hFw (hs.env s v hv),?_,?_,?_,?_,?_,?_,Nat.le_trans hs.size hc.below.size,?_,?_,?_,hs.defers⟩,hback2,fun p n r hm hr=>(hPS p n hm).trans hr⟩
 . intro c k hk
   rcases hb c k hk with (⟨n,k0,rfl,h1,rfl,h2,h3,h4⟩ | ⟨t,ls,rfl,h1,h2,h3⟩) | h1
   rotate_left
   . obtain⟨r,hr,hbr⟩:=hc.heap c _ h1
     obtain⟨g1,g2,g3⟩:=hpn c h2
     have hH:isH c=false:=by unfold isH;rw[<-Bool.not_eq_true,Nat.ble_eq];omega
     refine⟨r,?_,brep_pool hM8.symm (fun n=>hPS c n h2) (fun _ h=>.inr h) h3 (fun k hk hf=>⟨(hMown k hk).1,?_⟩) hbr⟩
     . rw[stat c hH,g1,g3,h2];exact hr
     . rintro (hf' | hf')
       . exact (hMown k hk).2 hf'
       . exact hf hf'
   rotate_right
   . obtain⟨hn,hids⟩:=hpk.heap n k0 h1
     obtain⟨r,hr,hbr⟩:=hc.heap n k0 h1
     refine⟨r,hback2 n hn r hr,brep_rn hM8.symm (fun t x e b hb r hr=>hback2 b (hids t x e b hb) r hr) (fun _ h=>.inr h) (fun p n r hm hr=>(hPS p n hm).trans hr) h3 h2 (fun hn=>(hMown _ (brep_ownF hbr hn).1).1) (fun hn=>?_) h4 hbr⟩
     rintro (hf | hf)
     . exact (hMown _ (brep_ownF hbr hn).1).2 hf
     . exact (brep_ownF hbr hn).2 hf
   . obtain⟨h2,h3⟩:=killR_ok ρ st h1
     obtain⟨r,hr,hbr⟩:=hs.heap c k h2
     refine⟨r,hι c r hr,q6A hι (fun _ h=>.inl h) hFw (fun hn=>hc.below.block _ (by rw[hMn];exact brep_lt hbr hn) (old_not c k r h2 h3 hr hn)) (fun hn=>?_) (fun q u ls n e hnb=>(hHb _ (isH_hn _ _) (by subst e;rw[q0Q hbr.2.1];have e1:=hs.pools.self _ _ _ _ h2;subst e1;exact holdp _ _ h2)).trans hnb) (fun q u ls n l s e hl hs1 h5 h6=>?_) hbr⟩
     . rintro (hf | hf)
       . exact (brep_ownF hbr hn).2 hf
       . rcases hc.fin _ hf with hf | hf
         . exact (brep_ownF hbr hn).2 hf
         . exact oldOut c k r h2 h3 hr hn hf
     . subst e
       have e:=hs.pools.self _ _ _ _ h2
       subst e
       have h7:=rowOut (hnm q n) _ s (by rw[q08 hbr.2.1,h1];simp only[rowB,hl];rfl) hs1
       refine⟨?_,hc.below.block _ (by rw[hMn];exact h6) fun hl=>h7 (.inr hl)⟩
       rintro (hf | hf)
       . exact h5 hf
       . rcases hc.fin _ hf with hf | hf
         . exact h5 hf
         . exact h7 hf
 . intro b r hr
   show (st.used b || isBack d out.names b || memN b ps)=true
   cases hH:isH b with
   | true=>rw[hs.pools.uH b hH];rfl
   | false=>
    rw[stat b hH] at hr
    cases hu:st.used b with
    | true=>rfl
    | false=>
     rw[hu] at hr
     simp only[cond_false] at hr
     cases hi:isBack d out.names b with
     | true=>rfl
     | false=>
      rw[hi] at hr
      simp only[cond_false] at hr
      cases hm:memN b ps with
      | true=>rfl
      | false=>rw[hm] at hr;cases hr
 . intro c c2 k k2 r r2 hne h1 h2 hr hr2 hn hn2
   have nopool:∀ c k r,((∃ t ls,k=Blk.pool c t ls/\(pack out q0).heap c=some (.pool c t ls)/\memN c ps=true/\frozen t=true))->backRef d st out.names ps ι ι' c=some r->r.nil=true:=by
    rintro c _ r ⟨t,ls,rfl,e1,e2,_⟩ hr
    obtain⟨r',hr',hbr⟩:=hc.heap c _ e1
    obtain⟨g1,g2,g3⟩:=hpn c e2
    have hH:isH c=false:=by unfold isH;rw[<-Bool.not_eq_true,Nat.ble_eq];omega
    rw[stat c hH,g1,g3,e2] at hr
    have hr:ι' c=some r:=hr
    rw[hr'] at hr;cases hr
    exact hbr.1
   rcases hb c k h1 with (⟨n,k0,rfl,e1,rfl,_,_⟩ | e1) | e1<;>rcases hb c2 k2 h2 with (⟨n2,k02,rfl,e2,rfl,_,_⟩ | e2) | e2
   any_goals (rw[nopool _ _ _ e1 hr] at hn;cases hn)
   any_goals (rw[nopool _ _ _ e2 hr2] at hn2;cases hn2)
   . obtain⟨s,hs1,_⟩:=hc.heap n k0 e1
     obtain⟨s2,hs2,_⟩:=hc.heap n2 k02 e2
     have q1:=hback2 n (hpk.heap n k0 e1).1 s hs1
     have q2:=hback2 n2 (hpk.heap n2 k02 e2).1 s2 hs2
     rw[hr] at q1;cases q1
     rw[hr2] at q2;cases q2
     exact hc.apart n n2 k0 k02 r r2 (fun e=>hne (by rw[e])) e1 e2 hs1 hs2 hn hn2
   . obtain⟨s,hs1,_⟩:=hc.heap n k0 e1
     have q1:=hback2 n (hpk.heap n k0 e1).1 s hs1
     rw[hr] at q1;cases q1
     obtain⟨g1,g2⟩:=killR_ok ρ st e2
     obtain⟨s2,hs2,_⟩:=hs.heap c2 k2 g1
     have q2:=hι c2 s2 hs2
     rw[hr2] at q2;cases q2
     intro e
     have:=newOwn n k0 r e1 hs1 hn
     rw[e] at this
     exact oldOut c2 k2 r2 g1 g2 hs2 hn2 this
   . obtain⟨s2,hs2,_⟩:=hc.heap n2 k02 e2
     have q2:=hback2 n2 (hpk.heap n2 k02 e2).1 s2 hs2
     rw[hr2] at q2;cases q2
     obtain⟨g1,g2⟩:=killR_ok ρ st e1
     obtain⟨s,hs1,_⟩:=hs.heap c k g1
     have q1:=hι c s hs1
     rw[hr] at q1;cases q1
     intro e
     have:=newOwn n2 k02 r2 e2 hs2 hn2
     rw[<-e] at this
     exact oldOut c k r g1 g2 hs1 hn this
   . obtain⟨g1,_⟩:=killR_ok ρ st e1
     obtain⟨g2,_⟩:=killR_ok ρ st e2
     obtain⟨s,hs1,_⟩:=hs.heap c k g1
     obtain⟨s2,hs2,_⟩:=hs.heap c2 k2 g2
     have q1:=hι c s hs1
     rw[hr] at q1;cases q1
     have q2:=hι c2 s2 hs2
     rw[hr2] at q2;cases q2
     exact hs.apart c c2 k k2 r r2 hne g1 g2 hs1 hs2 hn hn2
 . rintro b (h | h)
   . exact Nat.lt_of_lt_of_le (hs.fsize b h) hc.below.size
   . exact hc.fsize b h
 . rintro b (h | h)
   . exact hs.fin b h
   . rcases hc.fin b h with h | h
     . exact hs.fin b h
     . exact .inr (hMown b h).1
 . refine hs.below.trans ⟨hc.below.os,hc.below.tape,hc.below.output,hc.below.size,fun k hk hl=>hc.below.block k (by rw[hMn];exact Nat.lt_of_lt_of_le hk hs.size) fun hml=>?_⟩
   rcases (hMown k (.inr hml)).1 with h | h
   . omega
   . exact hl h
 . intro n hn
   show (st.used n || isBack d out.names n || memN n ps)=true
   rw[hs.upin n hn];rfl
 . have hnewH:∀ n k0,(pack out q0).heap n=some k0->isH (backName d ρ n)=false:=by
    intro n k0 h1
    have hn:=(hpk.heap n k0 h1).1
    cases hpn:pinned n with
    | true=>
     obtain⟨h2,b,h3⟩:=(hmem n hn).1 hpn
     obtain⟨k,hk⟩:=q7t (p:=p) h2
     rcases hto n k hk with ⟨d1,k1,r1,e1,e2,_⟩ | ⟨e1,_⟩
     . rw[h3] at e1;cases e1
       rw[hsa] at e2
       simp only[backName,hpn,cond_true,h3]
       exact hs.static e2
     . rw[h3] at e1;cases e1
    | false=>
     simp only[backName,hpn,cond_false]
     exact (hs.unused ((hmem n hn).2 hpn)).2.2
   have nrow:∀ c k r,prow (pack out q0).heap c=some k->ι' c=some r->M.own r.blk:=by
    intro c k r h1 h2
    obtain⟨q,n,q',u,ls,l,hq,rfl,hbk,hl,rfl⟩:=q0a h1
    obtain⟨r0,_,_,_,_,_,z5⟩:=hc.heap _ _ hbk
    have e:=hc.pools.self _ _ _ _ hbk
    subst e
    obtain⟨s,hs',_,_,_,_,a5,_⟩:=z5 n l hl
    rw[h2] at hs';cases hs'
    exact a5
   refine⟨fun b hb'=>?_,fun b hb'=>?_,fun b q u ls e=>?_,fun b c k k' r r' hbc h1 h2 hr hr' hn=>?_,fun q n hq hu=>?_⟩
   . cases e:hp b with
     | none=>exact e
     | some k=>
      rcases hb b k e with (⟨n,k0,rfl,h1,_⟩ | ⟨_,_,_,_,h1,_⟩) | h1
      . rw[hnewH n k0 h1] at hb';cases hb'
      . have:=(hpn b h1).2.1
        unfold isH at hb'
        rw[Nat.ble_eq] at hb';omega
      . have:=hs.static (killR_ok ρ st h1).1;rw[hb'] at this;cases this
   . show (st.used b || isBack d out.names b || memN b ps)=true
     rw[hs.pools.uH b hb'];rfl
   . rcases hpold _ _ _ _ e with ⟨h1,_⟩ | ⟨_,h1⟩
     . exact h1.symm
     . exact hs.pools.self _ _ _ _ (killR_ok ρ st h1).1
   . obtain⟨hbH,h1'⟩:=hrold _ _ h1
     have refN:∀ c,isH c=true->memN (c % hbase) ps=true->backRef d st out.names ps ι ι' c=ι' c:=fun c h1 h2=>by
      have:=hPS (c % hbase) (c / hbase - 1) h2
      rwa [<- (isH_name h1).1] at this
     rcases h1' with ⟨m1,p1⟩ | ⟨m1,p1⟩
     . rw[refN b hbH m1] at hr
       have ob:=nrow b k r p1 hr
       rcases h2 with h2 | h2
       . obtain⟨hcH,h2'⟩:=hrold _ _ h2
         rcases h2' with ⟨m2,p2⟩ | ⟨m2,p2⟩
         . rw[refN c hcH m2] at hr'
           exact hc.pools.apart b c k k' r r' hbc p1 (.inl p2) hr hr' hn
         . rw[hHb c hcH m2] at hr'
           intro e;rw[e] at ob
           exact rowOut c k' r' p2 hr' ob
       . rcases hb c k' h2 with (⟨n,k0,rfl,e1,rfl,_⟩ | ⟨t,ls,rfl,e1,e2,_⟩) | e1
         . obtain⟨s,hs1,_⟩:=hc.heap n k0 e1
           have q1:=hback2 n (hpk.heap n k0 e1).1 s hs1
           rw[hr'] at q1;cases q1
           exact hc.pools.apart b n k k0 r r' (fun e=>by rw[hc.pools.noH n (by rw[<-e];exact hbH)] at e1;cases e1) p1 (.inr e1) hr hs1 hn
         . obtain⟨r2,hr2,hbr⟩:=hc.heap c _ e1
           obtain⟨g1,g2,g3⟩:=hpn c e2
           have hH:isH c=false:=by unfold isH;rw[<-Bool.not_eq_true,Nat.ble_eq];omega
           rw[stat c hH,g1,g3,e2] at hr'
           have hr':ι' c=some r':=hr'
           rw[hr2] at hr';cases hr'
           rw[hbr.1] at hn;cases hn
         . obtain⟨g1,g2⟩:=killR_ok ρ st e1
           obtain⟨s,hs1,_⟩:=hs.heap c k' g1
           have q1:=hι c s hs1
           rw[hr'] at q1;cases q1
           intro e;rw[e] at ob
           exact oldOut c k' r' g1 g2 hs1 hn ob
     . rw[hHb b hbH m1] at hr
       rcases h2 with h2 | h2
       . obtain⟨hcH,h2'⟩:=hrold _ _ h2
         rcases h2' with ⟨m2,p2⟩ | ⟨m2,p2⟩
         . rw[refN c hcH m2] at hr'
           have oc:=nrow c k' r' p2 hr'
           intro e;rw[<-e] at oc
           exact rowOut b k r p1 hr oc
         . rw[hHb c hcH m2] at hr'
           exact hs.pools.apart b c k k' r r' hbc (killrow p1) (.inl (killrow p2)) hr hr' hn
       . rcases hb c k' h2 with (⟨n,k0,rfl,e1,rfl,_⟩ | ⟨t,ls,rfl,e1,e2,_⟩) | e1
         . obtain⟨s,hs1,_⟩:=hc.heap n k0 e1
           have q1:=hback2 n (hpk.heap n k0 e1).1 s hs1
           rw[hr'] at q1;cases q1
           intro e
           have h3:=newOwn n k0 r' e1 hs1 hn
           rw[<-e] at h3
           exact rowOut b k r p1 hr h3
         . obtain⟨r2,hr2,hbr⟩:=hc.heap c _ e1
           obtain⟨g1,g2,g3⟩:=hpn c e2
           have hH:isH c=false:=by unfold isH;rw[<-Bool.not_eq_true,Nat.ble_eq];omega
           rw[stat c hH,g1,g3,e2] at hr'
           have hr':ι' c=some r':=hr'
           rw[hr2] at hr';cases hr'
           rw[hbr.1] at hn;cases hn
         . obtain⟨g1,_⟩:=killR_ok ρ st e1
           obtain⟨s,hs1,_⟩:=hs.heap c k' g1
           have q1:=hι c s hs1
           rw[hr'] at q1;cases q1
           exact hs.pools.apart b c k k' r r' hbc (killrow p1) (.inr g1) hr hs1 hn
   . simp only[Bool.or_eq_false_iff] at hu
     rw[hHb _ (isH_hn _ _) (by rw[q0Q hq];exact hu.2)]
     exact hs.pools.free q n hq hu.1.1
 . intro n r r' hn hp hr
   cases hm:isH n && memN (n % hbase) ps with
   | true=>
    simp only[Bool.and_eq_true] at hm
    have h1:pinned (n % hbase)=true:=by
     unfold pinned at hn ⊢
     rw[Nat.mod_mod];exact hn
    have:=hs.upin _ h1
    rw[(hpn _ hm.2).1] at this;cases this
   | false=>
    simp only[backRef,hm,cond_false,hs.upin n hn,cond_true] at hr
    exact hs.pin n r r' hn hp hr
theorem q34 {w:World} {F F2:Nat->Prop} {ι:Nat->Option Ref}:∀ (t:Ty) (x:den t) (cs:List Value),flatR t=true->rep w F ι t x cs->rep w F2 ι t x cs:=by
 intro t
 induction t with
 | pair a b iha ihb=>
  intro x cs hf h
  simp only[flatR,Bool.and_eq_true] at hf
  simp only[rep] at h ⊢
  obtain⟨c1,c2,rfl,h1,h2⟩:=h
  exact⟨c1,c2,rfl,iha _ _ hf.1 h1,ihb _ _ hf.2 h2⟩
 | agg c ih=>intro x cs hf h;simp only[rep] at h ⊢;exact ih _ _ hf h
 | hd p=>intro x cs _ h;cases x<;>simpa only[rep] using h
 | int k=>intro x cs _ h;simpa only[rep] using h
 | bool=>intro x cs _ h;simpa only[rep] using h
 | unit=>intro x cs _ h;simpa only[rep] using h
 | own b=>intro x cs _ h;simpa only[rep] using h
 | _=>intro x cs hf h;cases hf
theorem qaq {w:World} {F F2:Nat->Prop} {ι:Nat->Option Ref} {t:Ty} {x:den t} {v:Value} (hf:flatR t=true) (h:vrep w F ι t x v):vrep w F2 ι t x v:=by
 have h:vrep1 w F ι t x v:=by cases t<;>first | exact h | cases hf
 have h2:vrep1 w F2 ι t x v:=by
  unfold vrep1 at h ⊢
  cases ha:isAggT t<;>rw[ha] at h
  . exact⟨h.1,q34 _ _ _ hf h.2⟩
  . obtain⟨cs,e,h⟩:=h;exact⟨cs,e,q34 _ _ _ hf h⟩
 cases t<;>first | exact h2 | cases hf
structure FlatSt (st:St):Prop where
 env:∀ i v,st.env i=some v->flatR v.t=true
 heap:∀ n k,st.heap n=some k->match k with
  | .box t _=>flatR t=true
  | .arr t _=>flatR t=true
  | .pool _ t _=>flatR t=true
theorem packC_flat:∀ (l:List (Nat×Ty)) (st:St),flatC l=true->FlatSt st->FlatSt (packC l st)
 | [],st,_,h=>h
 | (n,t) :: l,st,hl,h=>by
  simp only[flatC,Bool.and_eq_true] at hl
  refine packC_flat l _ hl.2 ⟨fun i v hv=>?_,h.heap⟩
  rcases upd_some hv with ⟨_,e⟩ | ⟨_,e⟩
  . cases e;exact hl.1
  . exact h.env i v e
theorem packE1_flat (e:Ent) (x:denE e) (st:St) (hl:flatE [e]=true) (h:FlatSt st):FlatSt (packE1 e x st):=by
 cases e with
 | var n t=>
  simp only[flatE,Bool.and_eq_true] at hl
  refine⟨fun i v hv=>?_,h.heap⟩
  rcases upd_some hv with ⟨_,e⟩ | ⟨_,e⟩
  . cases e;exact hl.1
  . exact h.env i v e
 | box n t=>
  simp only[flatE,Bool.and_eq_true] at hl
  refine⟨h.env,fun m k hk=>?_⟩
  rcases upd_some hk with ⟨_,e⟩ | ⟨_,e⟩
  . cases e;exact hl.1
  . exact h.heap m k e
 | arr n t=>
  simp only[flatE,Bool.and_eq_true] at hl
  refine⟨h.env,fun m k hk=>?_⟩
  rcases upd_some hk with ⟨_,e⟩ | ⟨_,e⟩
  . cases e;exact hl.1
  . exact h.heap m k e
 | pool n t=>
  simp only[flatE,Bool.and_eq_true] at hl
  refine⟨h.env,fun m k hk=>?_⟩
  rcases upd_some hk with ⟨_,e⟩ | ⟨_,e⟩
  . cases e;exact hl.1
  . exact h.heap m k e
theorem qap (e:Ent) (l:List Ent):flatE (e :: l)=(flatE [e] && flatE l):=by cases e<;>simp[flatE]
theorem q7p:∀ (l:List Ent) (p:Pay l) (st:St),flatE l=true->FlatSt st->FlatSt (packL l p st)
 | [],_,st,_,h=>h
 | [e],x,st,hl,h=>packE1_flat e x st hl h
 | e :: e' :: l,p,st,hl,h=>by
  rw[qap,Bool.and_eq_true] at hl
  exact q7p (e' :: l) p.2 _ hl.2 (packE1_flat e p.1 st hl.1 h)
theorem pack_flat {sh:Shape} {p:Pay sh.ents} (h:flatS sh=true):FlatSt (pack sh p):=by
 simp only[flatS,Bool.and_eq_true] at h
 exact q7p _ _ _ h.2 (packC_flat _ _ h.1 ⟨fun i v hv=>(by cases hv),fun n k hk=>(by cases hk)⟩)
theorem Sim.flatten {M:Mine} {w w':World} {F1 F' F:Nat->Prop} {ι':Nat->Option Ref} {so:St} {a':Act} (hc:Sim M w F1 F' ι' so a' w') (hf:FlatSt so):Sim M w F (fun k=>F k/\F' k) ι' so a' w':=by
 refine⟨fun s v hv=>qaq (hf.env s v hv) (hc.env s v hv),?_,hc.used,hc.apart,fun b h=>hc.fsize b h.2,fun b h=>.inl h.1,hc.below,hc.size,hc.upin,hc.pools,hc.pin,hc.defers⟩
 intro n k hk
 obtain⟨r,hr,hb⟩:=hc.heap n k hk
 refine⟨r,hr,?_⟩
 have hfk:=hf.heap n k hk
 cases k with
 | box t x=>
  obtain⟨q1,q2,q3,q4,q5,cells,el,qb,q6,q7⟩:=hb
  exact⟨q1,q2,q3,fun h=>q4 h.2,q5,cells,el,qb,q6,q34 _ _ _ hfk q7⟩
 | arr t l=>
  obtain⟨q0,q⟩:=hb
  refine⟨q0,?_⟩
  cases l with
  | none=>exact q
  | some l=>
   obtain⟨q1,q2,q3,q4,q5,q6,cells,el,qe,q7,q8,q9⟩:=q
   exact⟨q1,q2,q3,q4,q5,fun h=>q6 h.2,cells,el,qe,q7,q8,fun i y hy=>q34 _ _ _ hfk (q9 i y hy)⟩
 | pool q t ls=>
  obtain⟨z1,z2,z3,z4,z5⟩:=hb
  refine⟨z1,z2,z3,z4,fun n l hl=>?_⟩
  obtain⟨s,hs,a1,a2,a3,a4,a5,a6,cells,el,ae,a7,a8,a9⟩:=z5 n l hl
  exact⟨s,hs,a1,a2,a3,a4,a5,fun h=>a6 h.2,cells,el,ae,a7,a8,fun i y hy=>q34 _ _ _ hfk (a9 i y hy)⟩
theorem res1_ok {g:Nat->Nat} {ps:List Nat} {so:St} {i:Nat} {v:V} {F':Nat->Prop} {ι':Nat->Option Ref} {a':Act} {S:Nat->Prop} (hn:Named S so) (henv:∀ s v,so.env s=some v->vrep w F ι v.t v.x (a'.tmps.getD s undef))
 (hg:∀ n,S n->∀ r,ι n=some r->ι' (g n)=some r) (hF:∀ b,F b->F' b) (hP:∀ p n r,memN p ps=true->ι (hnm p n)=some r->ι' (hnm p n)=some r) (h:res1 g ps so i=some v):vrep w F' ι' v.t v.x (a'.tmps.getD i undef)/\vrep1 w F' ι' v.t v.x (a'.tmps.getD i undef):=by
 unfold res1 at h
 split at h<;>try (simp at h;done)
 rename_i u hu
 obtain⟨ho,e⟩:=bif_some h
 subst e
 simp only[Bool.and_eq_true] at ho
 have h1:=vrep_mono hF (fun _ _ h=>h) (fun _ _=>rfl) (henv i u hu)
 have h2:=rn_vrep (g:=g) (ι':=ι') hP (fun b hb r hr=>hg b (hn.env i u hu b hb) r hr) ho.1 ho.2 h1
 refine⟨h2,?_⟩
 have htag:=q5T g u.t u.x
 exact (vrep_vrep1 (by simp only[valT,htag.1,htag.2];exact ho.2)).1 h2
theorem q7z {g:Nat->Nat} {ps:List Nat} {so:St} {F':Nat->Prop} {ι':Nat->Option Ref} {a':Act} {S:Nat->Prop} (hn:Named S so) (henv:∀ s v,so.env s=some v->vrep w F ι v.t v.x (a'.tmps.getD s undef))
 (hg:∀ n,S n->∀ r,ι n=some r->ι' (g n)=some r) (hF:∀ b,F b->F' b) (hP:∀ p n r,memN p ps=true->ι (hnm p n)=some r->ι' (hnm p n)=some r):∀ (n i:Nat) (v:V),resTs g ps so i n=some v->trep w F' ι' v.t v.x ((List.range' i n).map fun i=>a'.tmps.getD i undef)
 | 0,i,v,h=>by simp only[resTs,Option.some.injEq] at h;subst h;rfl
 | n+1,i,v,h=>by
  simp only[resTs] at h
  split at h<;>try (simp at h;done)
  rename_i u hu
  split at h<;>try (simp at h;done)
  rename_i u2 hu2
  simp only[Option.some.injEq] at h;subst h
  simp only[trep,List.range'_succ,List.map_cons]
  exact⟨_,_,rfl,(res1_ok hn henv hg hF hP hu).2,q7z hn henv hg hF hP n (i+1) u2 hu2⟩
theorem resOut_ok {g:Nat->Nat} {ps:List Nat} {so:St} {k:Nat} {v:V} {F':Nat->Prop} {ι':Nat->Option Ref} {a':Act} {S:Nat->Prop} (hn:Named S so) (henv:∀ s v,so.env s=some v->vrep w F ι v.t v.x (a'.tmps.getD s undef))
 (hg:∀ n,S n->∀ r,ι n=some r->ι' (g n)=some r) (hF:∀ b,F b->F' b) (hP:∀ p n r,memN p ps=true->ι (hnm p n)=some r->ι' (hnm p n)=some r) (h:resOut g ps so k=some v):vrep w F' ι' v.t v.x (resVal k a'.tmps):=by
 unfold resOut at h
 cases hk:Nat.beq k 1 with
 | true=>
  rw[hk] at h
  have:k=1:=Nat.eq_of_beq_eq_true hk
  rw[resVal,if_pos this]
  exact (res1_ok hn henv hg hF hP h).1
 | false=>
  rw[hk] at h
  simp only[cond_false] at h
  split at h<;>try (simp at h;done)
  rename_i u hu
  simp only[Option.some.injEq] at h;subst h
  have:¬ k=1:=fun e=>by rw[e] at hk;simp at hk
  rw[resVal,if_neg this]
  have:=q7z hn henv hg hF hP k 0 u hu
  rw[List.range_eq_range']
  exact⟨_,rfl,by simpa using this⟩
theorem Sim.rowOut (hs:Sim base w0 F0 F ι st a w) {t:Ty} {l:Option (List (den t))} {s:Ref} (hk:brep w base F ι s (.arr t l)) (hD:st.used rowD=false) {args:List Operand} {aA:Act}
 (hd:aA.defers=[]) (h0:aA.tmps.getD 0 undef=s.val) (he:∀ i v,(argSt st args).env i=some v->vrep w F ι v.t v.x (aA.tmps.getD i undef)):
 Sim base w0 F0 F (upd ι rowD (some s)) (rowSt st args t l) aA w:=by
 obtain⟨hip,hhp,hH⟩:=hs.unused hD
 have hne:∀ c,isH c=true->c≠rowD:=fun c hc e=>by rw[e,hH] at hc;cases hc
 have hι:∀ b r,ι b=some r->upd ι rowD (some s) b=some r:=fun b r hr=>by
  rw[upd_other _ _ _ _ (fun e=>by rw[e,hip] at hr;cases hr)];exact hr
 have hheap:∀ c k,(rowSt st args t l).heap c=some k->c=rowD/\k=.arr t l:=by
  intro c k e
  simp only[rowSt] at e
  cases h:Nat.beq c rowD<;>rw[h] at e
  . cases e
  . exact⟨Nat.eq_of_beq_eq_true h,(Option.some.inj e).symm⟩
 have hprow:∀ c k,prow (rowSt st args t l).heap c≠some k:=by
  intro c k e
  obtain⟨q,n,q',u,ls,m,hq,rfl,h1,h2,rfl⟩:=q0a e
  cases (hheap _ _ h1).2
 refine⟨?_,?_,?_,?_,hs.fsize,hs.fin,hs.below,hs.size,?_,⟨?_,?_,?_,?_,?_⟩,?_,hd⟩
 . intro i v hv
   simp only[rowSt] at hv
   cases h:Nat.beq i 0<;>rw[h] at hv
   . exact vrep_mono (fun _ h=>h) hι (fun _ _=>rfl) (he i v hv)
   . have:i=0:=Nat.eq_of_beq_eq_true h
     subst this
     cases hv
     rw[vrep_cell rfl,h0]
     exact⟨s,upd_same _ _ _,rfl⟩
 . intro c k hck
   obtain⟨rfl,rfl⟩:=hheap c k hck
   exact⟨s,upd_same _ _ _,q1e hι (fun b hb hn=>by rw[upd_other _ _ _ _ (hne b hb)];exact hn) (fun _ _ _ _ _ _ _ _ _=>rfl) (fun _ _=>rfl) (fun _=>rfl) hk⟩
 . intro b r hr
   show upd st.used rowD true b=true
   by_cases e:b=rowD
   . subst e;exact upd_same _ _ _
   . rw[upd_other _ _ _ _ e] at hr ⊢;exact hs.used b r hr
 . intro b c k k' r r' hbc h1 h2
   exact absurd ((hheap b k h1).1.trans (hheap c k' h2).1.symm) hbc
 . intro m hm
   show upd st.used rowD true m=true
   by_cases e:m=rowD
   . subst e;exact upd_same _ _ _
   . rw[upd_other _ _ _ _ e];exact hs.upin m hm
 . intro b hb'
   cases e:(rowSt st args t l).heap b with
   | none=>rfl
   | some k=>exact absurd (hheap b k e).1 (hne b hb')
 . intro b hb'
   show upd st.used rowD true b=true
   rw[upd_other _ _ _ _ (hne b hb')];exact hs.pools.uH b hb'
 . intro b q u m e;cases (hheap _ _ e).2
 . intro b c k k' r r' _ h1;exact absurd h1 (hprow b k)
 . intro q m hq hu
   have hqd:q≠rowD:=by rintro rfl;have:=upd_same st.used rowD true;rw[show upd st.used rowD true rowD=false from hu] at this;cases this
   rw[upd_other _ _ _ _ (hne _ (isH_hn _ _))]
   refine hs.pools.free q m hq ?_
   have hu:upd st.used rowD true q=false:=hu
   rwa [upd_other _ _ _ _ hqd] at hu
 . intro m r r' hm h1 h2
   by_cases e:m=rowD
   . subst e;have:=hs.upin _ hm;rw[hD] at this;cases this
   . rw[upd_other _ _ _ _ e] at h2;exact hs.pin m r r' hm h1 h2
theorem Sim.rowBack (hs:Sim base w0 F0 F ι st a w) {p n:Nat} {t:Ty} {ls:List (List (den t))} {l:List (den t)} {s:Ref} (hb:st.heap p=some (.pool p t ls)) (hl:ls[n]?=some l) (hs':ι (hnm p n)=some s) (hfz:frozen t=true)
 {M:Mine} (hMn:M.n=w.heap.size) (hMl:∀ k,M.lent k->k=s.blk) (hM8:M.u8=base.u8) {F':Nat->Prop} {w':World} (hbel:Keep M w w') (hfin:∀ b,F' b->F b∨M.own b) (hfs:∀ b,F' b->b<w'.heap.size)
 {ι':Nat->Option Ref} {l':List (den t)} (hnew:arep w' M F' ι' s t l'):
 Sim base w0 F0 (fun k=>F k∨F' k) ι { st with heap:=upd st.heap p (some (.pool p t (ls.set n l'))) } a w':=by
 obtain⟨r0,hr0,z1,z2,z3,z4,z5⟩:=hs.heap _ _ hb
 have hlt:n<ls.length:=by
  rcases Nat.lt_or_ge n ls.length with h | h
  . exact h
  . rw[List.getElem?_eq_none h] at hl;cases hl
 obtain⟨s2,e2,hrow⟩:=z5 n l hl
 rw[hs'] at e2;cases e2
 obtain⟨a1,a2,a3,a4,a5,a6,cells,el,ae,a7,a8,a9⟩:=hrow
 have hslt:s.blk<w.heap.size:=heap_lt a7
 have hpn:prow st.heap (hnm p n)=some (.arr t (some l)):=by rw[q08 z2,hb];simp only[rowB,hl]
 have hMown:∀ k,M.own k->base.own k/\¬ F k:=by
  rintro k (hk | hk)
  . rw[hMn] at hk
    exact⟨.inl (Nat.le_trans hs.size hk),fun hf=>by have:=hs.fsize _ hf;omega⟩
  . rw[hMl k hk];exact⟨a5,a6⟩
 have hFw:∀ b,F b->w'.heap[b]?=w.heap[b]?:=fun b hb=>hbel.block b (by rw[hMn];exact hs.fsize b hb) fun hl=>(hMown b (.inr hl)).2 hb
 have hout:∀ b,b<w.heap.size->b≠s.blk->¬ M.own b:=fun b h1 h2 ho=>by
  rcases ho with ho | ho
  . rw[hMn] at ho;omega
  . exact h2 (hMl b ho)
 have hkeep:∀ b,b<w.heap.size->b≠s.blk->w'.heap[b]?=w.heap[b]?:=fun b h1 h2=>hbel.block b (by rw[hMn];exact h1) fun hl=>h2 (hMl b hl)
 have hnF:∀ b,¬ F b->b<w.heap.size->b≠s.blk->¬ (F b∨F' b):=by
  rintro b h1 h2 h3 (h | h)
  . exact h1 h
  . rcases hfin b h with h | h
    . exact h1 h
    . exact hout b h2 h3 h
 have hrows:∀ (q m:Nat) (k:Blk) (z:Ref),q<hbase->hnm q m≠hnm p n->prow st.heap (hnm q m)=some k->ι (hnm q m)=some z->z.blk≠s.blk:=fun q m k z hq hne h1 h2=>
  hs.pools.apart (hnm q m) (hnm p n) _ _ z s hne h1 (.inl hpn) h2 hs' a1
 have heap':∀ c k,upd st.heap p (some (Blk.pool p t (ls.set n l'))) c=some k->(c=p/\k=.pool p t (ls.set n l'))∨(c≠p/\st.heap c=some k):=by
  intro c k hk
  rcases upd_some hk with ⟨e,e'⟩ | ⟨e,e'⟩
  . exact .inl ⟨e,(Option.some.inj e').symm⟩
  . exact .inr ⟨e,e'⟩
 refine⟨fun i v hv=>vrep_mono (fun _ h=>.inl h) (fun _ _ h=>h) hFw (hs.env i v hv),?_,hs.used,?_,?_,?_,?_,Nat.le_trans hs.size hbel.size,hs.upin,?_,hs.pin,hs.defers⟩
 . intro c k hk
   rcases heap' c k hk with ⟨rfl,rfl⟩ | ⟨hc,hk⟩
   . refine⟨r0,hr0,z1,z2,z3,fun m hm=>z4 m (by simpa using hm),fun m y hy=>?_⟩
     by_cases e:m=n
     . subst e
       rw[List.getElem?_set_self hlt] at hy
       cases hy
       obtain⟨b1,b2,b3,b4,b5,b6,cells',el',be,b7,b8,b9⟩:=hnew
       refine⟨s,hs',b1,b2,b3,b4,a5,?_,cells',el',fun h=>(be h).trans (congrArg Prod.fst hM8),b7,b8,fun i y hy=>rep_frozen _ _ _ hfz (rep_mono (fun _ h=>.inr h) (fun _ _ h=>h) (fun _ _=>rfl) _ _ _ (b9 i y hy))⟩
       rintro (h | h)
       . exact a6 h
       . exact b6 h
     . rw[List.getElem?_set_ne (fun h=>e h.symm)] at hy
       obtain⟨z,hz,b1,b2,b3,b4,b5,b6,cells',el',be,b7,b8,b9⟩:=z5 m y hy
       have hzb:=hrows c m _ z z2 (fun e'=>e (hnm_inj z2 z2 e').2) (by rw[q08 z2,hb];simp only[rowB,hy];rfl) hz
       exact⟨z,hz,b1,b2,b3,b4,b5,hnF _ b6 (heap_lt b7) hzb,cells',el',be,(hkeep _ (heap_lt b7) hzb).trans b7,b8,fun i y hy=>rep_mono (fun _ h=>.inl h) (fun _ _ h=>h) hFw _ _ _ (b9 i y hy)⟩
   . obtain⟨r,hr,hbr⟩:=hs.heap c k hk
     have hcb:r.nil=false->r.blk≠s.blk:=fun hn e=>hs.pools.apart (hnm p n) c _ _ s r (fun e=>by rw[<-e,hs.pools.noH _ (isH_hn _ _)] at hk;cases hk) hpn (.inr hk) hs' hr hn e.symm
     refine⟨r,hr,q6A (fun _ _ h=>h) (fun _ h=>.inl h) hFw (fun hn=>hkeep _ (brep_lt hbr hn) (hcb hn)) (fun hn=>hnF _ (brep_ownF hbr hn).2 (brep_lt hbr hn) (hcb hn)) (fun _ _ _ _ _ h=>h) (fun q u ls2 m y z e hy hz h5 h6=>?_) hbr⟩
     subst e
     have e:=hs.pools.self _ _ _ _ hk
     subst e
     have hzb:=hrows q m _ z hbr.2.1 (fun e'=>hc (hnm_inj hbr.2.1 z2 e').1) (by rw[q08 hbr.2.1,hk];simp only[rowB,hy];rfl) hz
     exact⟨hnF _ h5 h6 hzb,hkeep _ h6 hzb⟩
 . intro c d k k' r r' hcd hc hd hr hr' hn hn'
   rcases heap' c k hc with ⟨rfl,_⟩ | ⟨_,e1⟩
   . rw[hr0] at hr;cases hr;rw[z1] at hn;cases hn
   rcases heap' d k' hd with ⟨rfl,_⟩ | ⟨_,e2⟩
   . rw[hr0] at hr';cases hr';rw[z1] at hn';cases hn'
   exact hs.apart c d k k' r r' hcd e1 e2 hr hr' hn hn'
 . rintro b (h | h)
   . exact Nat.lt_of_lt_of_le (hs.fsize b h) hbel.size
   . exact hfs b h
 . rintro b (h | h)
   . exact hs.fin b h
   . rcases hfin b h with h | h
     . exact hs.fin b h
     . exact .inr (hMown b h).1
 . refine hs.below.trans ⟨hbel.os,hbel.tape,hbel.output,hbel.size,fun k hk hl=>hbel.block k (by rw[hMn];exact Nat.lt_of_lt_of_le hk hs.size) fun hml=>?_⟩
   rcases (hMown k (.inr hml)).1 with h | h
   . omega
   . exact hl h
 . refine hs.pools.sub (fun c k e=>?_) fun c q u m e=>?_
   . rcases heap' c k e with ⟨rfl,_⟩ | ⟨_,e⟩
     . exact⟨_,hb⟩
     . exact⟨k,e⟩
   . rcases heap' c _ e with ⟨rfl,e⟩ | ⟨_,e⟩
     . cases e;exact⟨t,ls,hb,by simp⟩
     . exact⟨u,m,e,Nat.le_refl _⟩
variable {next:Act->World->Prop} {Q:Exit->Act->World->Prop} {K:St->Prop}
variable (hG:base.u8=u8of P/\∀ w:World,Keep base w0 w->Gl P w)
include hG
theorem qaL (hn:∀ st a w,K st->Ok base w0 F0 N st a w->next a w) (hs:Sim base w0 F0 F ι st a w) (hN:a.tmps.size=N) {d:Nat} (hd:d<a.tmps.size) {f:Operand} {fn:FuncId} {args:Array Operand} {ts:Array TypeId} {ty:TypeId} {pos:String} {aft:Array Edge}
 (hfv:a.eval f=(Cst.fn fn).val) {L:Lend} {p:Nat} {x:Option Nat} (hro:rowOf st args.toList=some (p,x)) (h:rowW P fn args d K st p x L):(⟨some d,.call ⟨.value f,args,ts⟩,ty,pos,aft,none⟩:Oper).wp P a w next Q:=by
 unfold rowW at h
 split at h<;>try exact h.elim
 rename_i inn cs b u k
 split at h<;>try exact h.elim
 rename_i q t ls hb
 cases hcnd:(Nat.beq b 1000000000 && Nat.beq k 0 && frozen t && !st.used rowD && q0R inn.ents)<;>rw[hcnd] at h
 . exact h.elim
 simp only[cond_true] at h
 simp only[Bool.and_eq_true,Bool.not_eq_true',Nat.beq_eq] at hcnd
 obtain⟨⟨⟨⟨rfl,rfl⟩,hfz⟩,hD⟩,hnp⟩:=hcnd
 have e:=hs.pools.self _ _ _ _ hb
 subst e
 split at h<;>try exact h.elim
 rename_i pay ρ hu
 cases hiD:isD ρ<;>rw[hiD] at h
 . exact h.elim
 simp only[cond_true] at h
 obtain⟨hc1,_,hc2⟩:=h
 obtain⟨x0,rest,hargs,hx0⟩:∃ x0 rest,args.toList=x0 :: rest/\st.val x0=some ⟨.hd q,x⟩:=by
  unfold rowOf at hro
  split at hro<;>try (simp at hro;done)
  rename_i x0 rest hargs
  split at hro<;>try (simp at hro;done)
  rename_i p' n' hv
  simp only[Option.some.injEq,Prod.mk.injEq] at hro
  obtain⟨rfl,rfl⟩:=hro
  exact⟨x0,rest,hargs,hv⟩
 have hv0:=hs.val hx0
 rw[vrep_cell rfl] at hv0
 have hbh:=hs.heap _ _ hb
 obtain⟨r0,hr0,z1,z2,z3,z4,z5⟩:=hbh
 obtain⟨s,hsv,hbk,hown,hcase⟩:∃ s:Ref,a.eval x0=s.val/\brep w base F ι s (.arr t (unH ls x))/\(s.nil=false->base.own s.blk)/\((x=none/\s.nil=true)∨∃ n,x=some n/\ls[n]?=some (ls.getD n [])/\ι (hnm q n)=some s/\s.nil=false):=by
  cases x with
  | none=>
   simp only[rep] at hv0
   exact⟨nilRef,List.head_eq_of_cons_eq hv0,⟨z3,rfl⟩,(fun h=>by cases h),.inl ⟨rfl,rfl⟩⟩
  | some n=>
   simp only[rep] at hv0
   obtain⟨s,hs',hsn,hsv⟩:=hv0
   have hlt:n<ls.length:=by
    rcases Nat.lt_or_ge n ls.length with h | h
    . exact h
    . rw[z4 n h] at hs';cases hs'
   have hl:ls[n]?=some (ls.getD n []):=by simp[List.getD,List.getElem?_eq_getElem hlt]
   obtain⟨s2,e2,hrow⟩:=z5 n _ hl
   rw[hs'] at e2;cases e2
   exact⟨s,List.head_eq_of_cons_eq hsv,⟨z3,hrow⟩,fun _=>hrow.2.2.2.2.1,.inr ⟨n,rfl,hl,hs',hsn⟩⟩
 have hrun:(execOp a.eval ⟨some d,.call ⟨.value f,args,ts⟩,ty,pos,aft,none⟩).run P w=.ok (.enter fn (args.map a.eval)) w:=by
  simp[execOp,resolve,hfv,Cst.val,Deferred.ofValue,invoke,hc1]
 simp only[Oper.wp,hrun]
 rw[Oper.upon_enter]
 let aA:Act:={ a with tmps:=args.map a.eval }
 have hget:∀ i x,args.toList[i]?=some x->aA.tmps.getD i undef=a.eval x:=by
  intro i x hx
  rw[Array.getElem?_toList] at hx
  simp[aA,Array.getD_eq_getD_getElem?,hx]
 have hsA:=hs.rowOut hbk hD (args:=args.toList) (aA:=aA) hs.defers ((hget 0 x0 (by rw[hargs];rfl)).trans hsv) fun i v hv=>by
  simp only[argSt] at hv
  split at hv<;>try (simp at hv;done)
  rename_i x hx
  rw[hget i x hx];exact hs.val hv
 obtain⟨h1,hto⟩:=unpackR_sim hu hsA
 have hin:=h1 (renamed ρ (upd ι rowD (some s))) fun n r r' _ e1 e2=>by rw[e1] at e2;exact (Option.some.inj e2).symm
 let M:Mine:=⟨w.heap.size,fun k=>∃ n d r,look ρ n=some (some d)/\(∃ b,(pack inn pay).heap n=some b)/\upd ι rowD (some s) d=some r/\r.nil=false/\r.blk=k,renamed ρ (upd ι rowD (some s)),base.u8⟩
 have hMl:∀ k,M.lent k->k=s.blk/\s.nil=false:=by
  rintro k ⟨m,d0,r,e1,⟨b,e2⟩,e3,e4,rfl⟩
  rcases hto m b e2 with ⟨d1,k0,r1,q1,q2,q3,_⟩ | ⟨q1,_⟩
  . rw[e1] at q1;cases q1
    have:d0=rowD:=by
     simp only[rowSt] at q2
     cases h:Nat.beq d0 rowD<;>rw[h] at q2
     . cases q2
     . exact Nat.eq_of_beq_eq_true h
    subst this
    rw[upd_same] at e3;cases e3;exact⟨rfl,e4⟩
  . rw[e1] at q1;cases q1
 have hM:Sim M w F F (renamed ρ (upd ι rowD (some s))) (pack inn pay) aA w:=by
  refine⟨hin.env,?_,hin.used,hin.apart,hs.fsize,fun b h=>.inl h,Keep.refl _ _,Nat.le_refl _,hin.upin,hin.pools,hin.pin,hs.defers⟩
  intro n k hk
  obtain⟨r,hr,hb⟩:=hin.heap n k hk
  refine⟨r,hr,q6B (base:={ base with pin:=renamed ρ (upd ι rowD (some s)) }) (M:=M) rfl hb (fun hnil=>?_) (pack_noPool hnp n k hk)⟩
  refine .inr ?_
  simp only[renamed] at hr
  split at hr
  . rename_i b e;exact⟨n,b,r,e,⟨k,hk⟩,hr,hnil,rfl⟩
  . simp only[Option.some.injEq] at hr;subst hr;simp[nilRef] at hnil
  . rw[hin.static hk] at hr;simp at hr
 have hkeep:∀ w':World,Keep M w w'->Gl P w':=by
  intro w' hk
  refine hG.2 _ (hs.below.trans ⟨hk.os,hk.tape,hk.output,hk.size,fun k h1 h2=>hk.block k (Nat.lt_of_lt_of_le h1 hs.size) fun hl=>?_⟩)
  obtain⟨g1,g2⟩:=hMl k hl
  rw[g1] at h1 h2
  rcases hown g2 with h | h
  . omega
  . exact h2 h
 refine (hc2 M w F (renamed ρ (upd ι rowD (some s))) aA rfl hG.1 (by simp[aA]) hM hkeep).mono ?_
 rintro e w' ⟨y,F',ι',a',rfl,hQ,hc⟩
 split at hQ<;>try exact hQ.elim
 rename_i y' hy
 obtain⟨e,rfl⟩:=castT_some hy
 cases e
 have hpk:(pack ⟨cs,[.arr 1000000000 u]⟩ y).heap 1000000000=some (.arr u y):=by unfold pack packL packE1;simp only;exact upd_same _ _ _
 obtain⟨r,hr,hbr⟩:=hc.heap 1000000000 (.arr u y) hpk
 have hlook:look ρ 1000000000=some (some rowD):=by
  unfold isD at hiD
  split at hiD
  . rename_i c e;rw[e,Nat.eq_of_beq_eq_true hiD]
  . cases hiD
 have hpin:M.pin 1000000000=some s:=by
  show renamed ρ _ 1000000000=_
  simp only[renamed,hlook];exact upd_same _ _ _
 have:=hc.pin 1000000000 r s (by decide) hpin hr
 subst this
 obtain⟨_,hq⟩:=hbr
 rw[q01] at hQ
 rcases hcase with ⟨rfl,hsn⟩ | ⟨n,rfl,hl,hs',hsn⟩
 . have hbel:Below w.heap.size w w':=⟨hc.below.os,hc.below.tape,hc.below.output,hc.below.size,fun k hk=>hc.below.block k hk fun hl=>by have:=(hMl k hl).2;rw[hsn] at this;cases this⟩
   have hfin:=hs.called hbel (F':=F) (fun _ h=>h) fun b hb=>⟨Nat.lt_of_lt_of_le (hs.fsize b hb) hc.below.size,.inl hb⟩
   exact hn _ _ _ (hQ.1 rfl) ⟨by rw[q0d];exact hN,_,_,hfin.put hd ⟨#[],rfl,rfl⟩⟩
 cases y with
 | none=>have hq:r.nil=true:=hq;rw[hsn] at hq;cases hq
 | some l'=>
  have hfin:=hs.rowBack hb hl hs' hfz (M:=M) rfl (fun k hk=>(hMl k hk).1) rfl hc.below hc.fin hc.fsize hq
  exact hn _ _ _ (hQ.2 rfl) ⟨by rw[q0d];exact hN,_,_,hfin.put hd ⟨#[],rfl,rfl⟩⟩
omit hG in
theorem qb6 {sh:Shape} {p:Pay sh.ents} {ρ:Ren} {st:St} (h:q0W sh st=some (p,ρ)):Stat ρ:=by
 unfold q0W at h
 split at h<;>try (simp at h;done)
 split at h<;>try (simp at h;done)
 obtain⟨hc,e0⟩:=bif_some h
 cases e0
 simp only[Bool.and_eq_true] at hc
 exact fun k v hk=>q6g hc.2 (keysIn_ok hc.1.2 hk)
def lendM (w:World) (inn:Shape) (p:Pay inn.ents) (ρ:Ren) (ι:Nat->Option Ref) (u8:TypeId×TypeId):Mine:=
 ⟨w.heap.size,fun k=>(∃ n d r,look ρ n=some (some d)/\(∃ b,(pack inn p).heap n=some b)/\ι d=some r/\r.nil=false/\r.blk=k)∨∃ q t ls n r,(pack inn p).heap q=some (.pool q t ls)/\n<ls.length/\ι (hnm q n)=some r/\r.blk=k,renamed ρ ι,u8⟩
omit hG in
theorem q79 {stA:St} {aA:Act} (hs:Sim base w0 F0 F ι stA aA w) {inn:Shape} {p:Pay inn.ents} {ρ:Ren} (hu:q0W inn stA=some (p,ρ)):
 Sim (lendM w inn p ρ ι base.u8) w F F (renamed ρ ι) (pack inn p) aA w/\q1b w base F ρ ι stA (pack inn p).heap/\∀ k,(lendM w inn p ρ ι base.u8).lent k->base.own k:=by
 obtain⟨h1,hto⟩:=unpackR_sim hu hs
 have hst:=qb6 hu
 have hin:=h1 (renamed ρ ι) fun n r r' _ e1 e2=>by rw[e1] at e2;exact (Option.some.inj e2).symm
 refine⟨⟨hin.env,?_,hin.used,hin.apart,hs.fsize,fun b h=>.inl h,Keep.refl _ _,Nat.le_refl _,hin.upin,hin.pools,hin.pin,hs.defers⟩,hto,?_⟩
 . intro n k hk
   obtain⟨r,hr,hb⟩:=hin.heap n k hk
   cases hpl:isPool k with
   | false=>
    refine⟨r,hr,q6B (base:={ base with pin:=renamed ρ ι }) (M:=lendM w inn p ρ ι base.u8) rfl hb (fun hnil=>?_) hpl⟩
    refine .inr (.inl ?_)
    simp only[renamed] at hr
    split at hr
    . rename_i b e;exact⟨n,b,r,e,⟨k,hk⟩,hr,hnil,rfl⟩
    . simp only[Option.some.injEq] at hr;subst hr;simp[nilRef] at hnil
    . rw[hin.static hk] at hr;simp at hr
   | true=>
    rcases hto n k hk with ⟨d,k0,r1,e1,e2,e3,e4,e5⟩ | ⟨_,_,_,e⟩
    . obtain⟨rfl,rfl,t,ls,rfl⟩:=e5 hpl
      obtain⟨q1,q2,q3,q4,q5⟩:=hb
      refine⟨r,hr,q1,q2,q3,q4,fun m l hl=>?_⟩
      obtain⟨s,hs',a1,a2,a3,a4,a5,a6,cells,el,ae,a7,a8,a9⟩:=q5 m l hl
      have hlt:m<ls.length:=by
       rcases Nat.lt_or_ge m ls.length with h | h
       . exact h
       . rw[List.getElem?_eq_none h] at hl;cases hl
      exact⟨s,hs',a1,a2,a3,a4,.inr (.inr ⟨d,t,ls,m,s,hk,hlt,(hSame hst e1 m).2.symm.trans hs',rfl⟩),a6,cells,el,ae,a7,a8,a9⟩
    . subst e;cases hpl
 . rintro k (⟨n,d0,r,e1,⟨b,e2⟩,e3,e4,rfl⟩ | ⟨q,t,ls,n,r,e1,e2,e3,rfl⟩)
   . rcases hto n b e2 with ⟨d1,k0,r1,q1,q2,q3,_⟩ | ⟨q1,_⟩
     . rw[e1] at q1;cases q1
       obtain⟨r',hr',hb⟩:=hs.heap d0 k0 q2
       rw[e3] at hr';cases hr'
       exact (brep_ownF hb e4).1
     . rw[e1] at q1;cases q1
   . rcases hto q _ e1 with ⟨d1,k0,r1,q1,q2,q3,q4,q5⟩ | ⟨_,_,_,e⟩
     . obtain⟨rfl,rfl,_⟩:=q5 rfl
       obtain⟨r0,hr0,z1,z2,z3,z4,z5⟩:=hs.heap _ _ q2
       obtain⟨s,hs',_,_,_,_,a5,_⟩:=z5 n _ (List.getElem?_eq_getElem e2)
       rw[e3] at hs';cases hs'
       exact a5
     . cases e
theorem lendM_keep (hs:Sim base w0 F0 F ι st a w) {M:Mine} (hMn:M.n=w.heap.size) (hM:∀ k,M.lent k->base.own k) (w':World) (hk:Keep M w w'):Gl P w':=by
 refine hG.2 _ (hs.below.trans ⟨hk.os,hk.tape,hk.output,hk.size,fun k h1 h2=>hk.block k (by rw[hMn];exact Nat.lt_of_lt_of_le h1 hs.size) fun hl=>?_⟩)
 rcases hM k hl with h | h
 . omega
 . exact h2 h
omit hG in
theorem argSt_sim (hs:Sim base w0 F0 F ι st a w) (args:Array Operand):Sim base w0 F0 F ι (argSt st args.toList) { a with tmps:=args.map a.eval } w:=by
 refine { hs with env:=?_,defers:=hs.defers }
 intro s v hv
 simp only[argSt] at hv
 split at hv<;>try (simp at hv;done)
 rename_i x hx
 have:({ a with tmps:=args.map a.eval }:Act).tmps.getD s undef=a.eval x:=by
  rw[Array.getElem?_toList] at hx
  simp[Array.getD_eq_getD_getElem?,hx]
 rw[this]
 exact hs.val hv
omit hG in
theorem q7x (ι:Nat->Option Ref):renamed [] ι=fun _=>none:=by
 funext k
 simp only[renamed,look]
 cases isH k<;>rfl
omit hG in
theorem qa7 (hok:Ok base w0 F0 N st a w) {L:Lend} {args:List Operand} {st1:St} (h:q3E st L args=some st1):Ok base w0 F0 N st1 a w:=by
 unfold q3E at h
 split at h<;>try (simp at h;done)
 split at h<;>try (simp at h;done)
 . split at h<;>try (simp at h;done)
   obtain⟨_,h⟩:=q4z h
   split at h<;>try (simp at h;done)
   rename_i s1 hs1
   exact (hok.frp hs1).freeze h
 . obtain⟨_,h⟩:=q4z h
   exact hok.frp h
theorem q7a (hn:∀ st a w,K st->Ok base w0 F0 N st a w->next a w) {L:Lend} {o:Oper} (h:lendW P N L o K st) (hok:Ok base w0 F0 N st a w):o.guard=none/\o.wp P a w next Q:=by
 obtain⟨hN,F,ι,hs⟩:=hok
 obtain⟨dst,op,ty,pos,aft,grd⟩:=o
 unfold lendW at h
 simp only at h
 split at h<;>try exact h.elim
 refine⟨rfl,?_⟩
 split at h<;>try exact h.elim
 rename_i d
 cases hd:Nat.blt d N<;>rw[hd] at h
 . exact h.elim
 simp only[cond_true] at h
 replace hd:d<a.tmps.size:=by rw[hN];exact Nat.le_of_ble_eq_true hd
 split at h<;>try exact h.elim
 rename_i f args ts
 split at h<;>try exact h.elim
 rename_i fn _ hf
 have hfv:=hs.val hf
 rw[q0r] at hfv
 have fin:∀ {ρ:Ren} {p:Pay L.inn.ents} {M:Mine} {F':Nat->Prop} {ι':Nat->Option Ref} {q:Pay L.out.ents} {a':Act} {w':World},q1b w base F ρ ι (argSt st args.toList) (pack L.inn p).heap->M.n=w.heap.size->
  (∀ k,M.lent k->(∃ n d r,look ρ n=some (some d)/\(∃ b,(pack L.inn p).heap n=some b)/\ι d=some r/\r.nil=false/\r.blk=k)∨∃ q t ls n r,(pack L.inn p).heap q=some (.pool q t ls)/\n<ls.length/\ι (hnm q n)=some r/\r.blk=k)->
  M.pin=renamed ρ ι->M.u8=base.u8->Sim M w F F' ι' (pack L.out q) a' w'->(match q3C d ρ st L q with
   | some st'=>K st'
   | none=>False)->next (a.put (some d) (resVal L.k a'.tmps)) w':=by
  intro ρ p M F' ι' q a' w' hto hMn hMl hMp hM8 hc hQ
  split at hQ<;>try exact hQ.elim
  rename_i st' hst
  unfold q3C at hst
  obtain⟨hc0,hst⟩:=q4z hst
  simp only[Bool.and_eq_true] at hc0
  obtain⟨hnames,hnew,hap⟩:=hc0
  split at hst<;>try (simp at hst;done)
  rename_i hp hback
  split at hst<;>try (simp at hst;done)
  rename_i v hv
  simp only[Option.some.injEq] at hst;subst hst
  obtain⟨hb1,hb2,hb3⟩:=hs.back (inn:=L.inn) (p:=p) (ρ:=ρ) (sa:=argSt st args.toList) rfl hto (M:=M) hMn hMl hMp hM8 hc hnames hnew hap hback
  refine hn _ _ _ hQ ⟨by rw[q0d];exact hN,_,_,hb1.put hd ?_⟩
  exact resOut_ok (pack_named L.out q) hc.env (fun n hn r hr=>hb2 n hn r hr) (fun _ h=>.inr h) hb3 hv
 cases hbo:q3E st L args.toList with
 | some st1=>
  rw[hbo] at h
  simp only at h
  split at h<;>try exact h.elim
  rename_i p hu
  cases hfl:flatS L.out<;>rw[hfl] at h
  . exact h.elim
  simp only[cond_true] at h
  obtain⟨hc1,_,hc2⟩:=h
  have hrun:(execOp a.eval ⟨some d,.call ⟨.value f,args,ts⟩,ty,pos,aft,none⟩).run P w=.ok (.enter fn (args.map a.eval)) w:=by
   simp[execOp,resolve,hfv,Cst.val,Deferred.ofValue,invoke,hc1]
  simp only[Oper.wp,hrun]
  rw[Oper.upon_enter]
  obtain⟨_,F1,ι1,hs1⟩:=qa7 (a:=a) (w:=w) ⟨hN,F,ι,hs⟩ hbo
  obtain⟨hM,hto,hown⟩:=q79 (argSt_sim hs1 args) hu
  have hno:∀ k b,(pack L.inn p).heap k≠some b:=fun k b e=>by
   rcases hto k b e with ⟨_,_,_,e1,_⟩ | ⟨e1,_⟩<;>simp[look] at e1
  refine (hc2 (lendM w L.inn p [] ι1 base.u8) w F1 _ { a with tmps:=args.map a.eval } rfl hG.1 (by simp) hM (lendM_keep hG hs1 rfl hown)).mono ?_
  rintro e w' ⟨q,F',ι',a',rfl,hQ,hc⟩
  refine fin (M:=lendM w L.inn p [] ι1 base.u8) (ρ:=[]) (p:=p) (fun k b e=>absurd e (hno k b)) rfl (fun k hk=>?_) ?_ rfl (hc.flatten (F:=F) (pack_flat hfl)) hQ
  . rcases hk with ⟨_,_,_,e,_⟩ | ⟨_,_,_,_,_,e,_⟩
    . simp[look] at e
    . exact absurd e (hno _ _)
  . show renamed [] ι1=renamed [] ι
    rw[q7x,q7x]
 | none=>
  rw[hbo] at h
  simp only at h
  cases hro:rowOf st args.toList with
  | some r=>
   rw[hro] at h
   exact qaL hG hn hs hN hd hfv hro h
  | none=>
  rw[hro] at h
  simp only at h
  split at h<;>try exact h.elim
  rename_i p ρ hu
  obtain⟨hc1,_,hc2⟩:=h
  have hrun:(execOp a.eval ⟨some d,.call ⟨.value f,args,ts⟩,ty,pos,aft,none⟩).run P w=.ok (.enter fn (args.map a.eval)) w:=by
   simp[execOp,resolve,hfv,Cst.val,Deferred.ofValue,invoke,hc1]
  simp only[Oper.wp,hrun]
  rw[Oper.upon_enter]
  obtain⟨hM,hto,hown⟩:=q79 (argSt_sim hs args) hu
  refine (hc2 (lendM w L.inn p ρ ι base.u8) w F _ { a with tmps:=args.map a.eval } rfl hG.1 (by simp) hM (lendM_keep hG hs rfl hown)).mono ?_
  rintro e w' ⟨q,F',ι',a',rfl,hQ,hc⟩
  exact fin (M:=lendM w L.inn p ρ ι base.u8) hto rfl (fun k hk=>hk) rfl rfl hc hQ
end
end Go.VM
namespace Go.VM
open Go Go.RowKit
def stepW (P:Program) (N:Nat) (ad:Nat->Bool) (ops:Array Oper) (bad:Nat->List Nat) (i:Nat) (K:St->Prop) (st:St):Prop:=regW P N ad ops bad [i] K st
def skipV:V:=⟨.tup .unit,()⟩
def sdeed (P:Program) (N:Nat) (ad:Nat->Bool) (ops:Array Oper) (bad:Nat->List Nat) (i:Nat) (st:St):Option Deed:=
 match ops.toList[i]? with
 | none=>some (.put True none skipV none)
 | some o=>bif okOp (bad i) st.val o.op then match o.guard with
  | none=>deed P N (ad i) o st
  | some (j,want)=>match dstOf ops j with
   | some dj=>match st.env dj with
    | some ⟨.bool,b⟩=>bif (b == want) then deed P N (ad i) o st else some (.put True o.dst skipV none)
    | some ⟨.tup .unit,_⟩=>some (.put True o.dst skipV none)
    | _=>none
   | none=>none
  else none
theorem put_self {st:St} {d:Nat} {v:Option V} (h:st.env d=v):st.put d v=st:=by
 have:upd st.env d v=st.env:=by
  funext m
  by_cases e:m=d
  . subst e;rw[upd_same,h]
  . rw[upd_other _ _ _ _ e]
 simp only[St.put,this]
theorem q7Q (st:St) (d:Option Nat):st.skip d=st.does d skipV none:=by cases d<;>rfl
def qOk (bad:List Nat) (op:Op):Bool:=quiet op || (isApp op && memN 4294967296 bad)
theorem qOk_ok {bad:List Nat} {g:Operand->Option V} {op:Op} (h:qOk bad op=true) (hok:okOp bad g op=true):quiet op=true∨q1p g op=true:=by
 simp only[qOk,Bool.or_eq_true,Bool.and_eq_true] at h
 rcases h with h | ⟨h1,h2⟩
 . exact .inl h
 . right
   simp only[okOp,Bool.and_eq_true] at hok
   have h3:=hok.2.2
   unfold isApp at h1
   split at h1
   . simp only[okAp,h2,cond_true,Bool.and_eq_true] at h3
     exact h3.1
   . cases h1
theorem q09 {P:Program} {N:Nat} {ad:Nat->Bool} {ops:Array Oper} {bad:Nat->List Nat} {i:Nat} (hq:∀ o,ops.toList[i]?=some o->qOk (bad i) o.op=true) (K:St->Prop) (st:St):
 stepW P N ad ops bad i K st↔Deed.wpO P K st (sdeed P N ad ops bad i st):=by
 unfold stepW sdeed
 simp only[regW]
 cases ho:ops.toList[i]? with
 | none=>simp[Deed.wpO,Deed.wp,St.does]
 | some o=>
  have hq:=hq o ho
  simp only
  cases hok:okOp (bad i) st.val o.op with
  | false=>exact Iff.rfl
  | true=>
   have hq:=qOk_ok hq hok
   simp only[cond_true]
   cases o.guard with
   | none=>exact q7l st hq K
   | some jw=>
    obtain⟨j,want⟩:=jw
    simp only
    cases dstOf ops j with
    | none=>exact Iff.rfl
    | some dj=>
     simp only
     cases he:st.env dj with
     | none=>exact Iff.rfl
     | some v=>
      obtain⟨t,x⟩:=v
      cases t with
      | bool=>
       have hp:st.put dj (some ⟨.bool,x⟩)=st:=put_self he
       cases x<;>cases want<;>simp only[brV,hp,cond_true,cond_false]<;>first
        | exact q7l st hq K
        | (simp[Deed.wpO,Deed.wp,q7Q])
      | tup c=>
       cases c<;>first | exact Iff.rfl | (simp[Deed.wpO,Deed.wp,q7Q])
      | _=>exact Iff.rfl
def q0J:List Operand->List Nat
 | []=>[]
 | .tmp t :: l=>t :: q0J l
 | _ :: l=>q0J l
def readsOf (ops:Array Oper) (o:Oper):List Nat:=
 q0J o.op.operands.toList ++ match o.guard with
  | some (j,_)=>match dstOf ops j with
   | some d=>[d]
   | none=>[]
  | none=>[]
theorem q3p {st st':St}:∀ (l:List Operand),(∀ t,t∈q0J l->st.env t=st'.env t)->∀ x,x∈l->st.val x=st'.val x
 | [],_,x,hx=>by simp at hx
 | y :: l,h,x,hx=>by
  have ih:=q3p (st:=st) (st':=st') l
  cases y with
  | tmp t=>
   simp only[q0J] at h
   rcases List.mem_cons.1 hx with rfl | hx
   . exact h t (by simp)
   . exact ih (fun u hu=>h u (by simp[hu])) x hx
  | _=>
   simp only[q0J] at h
   rcases List.mem_cons.1 hx with rfl | hx
   . rfl
   . exact ih h x hx
theorem q5I {bad:List Nat} {g g':Operand->Option V}:∀ (l:List Operand),(∀ x,x∈l->g x=g' x)->okIds bad g l=okIds bad g' l
 | [],_=>rfl
 | x :: l,h=>by simp only[okIds];rw[h x (by simp),q5I l (fun y hy=>h y (by simp[hy]))]
theorem okIds_mem {bad:List Nat} {g:Operand->Option V}:∀ (l:List Operand),okIds bad g l=true->∀ x,x∈l->∀ v,g x=some v->∀ b,b∈ids v.t->memN b bad=false
 | [],_,x,hx=>by simp at hx
 | y :: l,h,x,hx=>by
  simp only[okIds,Bool.and_eq_true] at h
  rcases List.mem_cons.1 hx with rfl | hx
  . intro v hv b hb
    rw[hv] at h
    have:=List.all_eq_true.1 h.1 b hb
    simpa using this
  . exact okIds_mem l h.2 x hx
theorem q5J {bad:List Nat} {g g':Operand->Option V} {op:Op} (h:∀ x,x∈op.operands.toList->g x=g' x):okOp bad g op=okOp bad g' op:=by
 have h1:okSt bad g op=okSt bad g' op:=by
  cases op with
  | store t x v=>
   cases x with
   | tmp s=>simp only[okSt];rw[h (.tmp s) (by simp[Op.operands])]
   | _=>rfl
  | _=>rfl
 have h2:okAp bad g op=okAp bad g' op:=by
  cases op with
  | call c=>
   obtain⟨cal,args,ts⟩:=c
   cases cal with
   | builtin b=>
    cases b<;>first | rfl | (
     simp only[okAp]
     cases ha:args.toList with
     | nil=>rfl
     | cons s l=>
      simp only
      have hm:s∈args.toList:=by rw[ha];simp
      have e1:g s=g' s:=h s (by simpa[Op.operands,Call.operands] using hm)
      have e2:ownS g s=ownS g' s:=by
       cases s with
       | tmp n=>simp only[ownS,e1]
       | _=>rfl
      rw[e1,e2])
   | _=>rfl
  | _=>rfl
 unfold okOp
 rw[q5I _ h,h1,h2]
theorem okOp_ids {bad:List Nat} {g:Operand->Option V} {op:Op} (h:okOp bad g op=true):okIds bad g op.operands.toList=true:=by
 unfold okOp at h;rw[Bool.and_eq_true] at h;exact h.1
theorem q9Z {P:Program} {hp hp':Nat->Option Blk} {t t1:TypeId} {x:V} (h:∀ b,b∈ids x.t->hp b=hp' b):appN P hp t t1 x=appN P hp' t t1 x:=by
 have e:∀ z,srcV P hp z t1 x=srcV P hp' z t1 x:=by
  intro z
  unfold srcV
  rw[q5k _ _ _ h]
 unfold appN
 simp only[e]
theorem gvn_congr {P:Program} {g g':Operand->Option V} {hp hp':Nat->Option Blk} {op:Op} (hg:∀ x,x∈op.operands.toList->g x=g' x) (hh:Agree g hp hp' op.operands.toList):gvn P g hp op=gvn P g' hp' op:=by
 unfold gvn
 rw[q6T hg hh]
theorem qaj {P:Program} {N:Nat} {ow:Bool} {o:Oper} {st st':St} (hv:∀ x,x∈o.op.operands.toList->st.val x=st'.val x) (hh:Agree st.val st.heap st'.heap o.op.operands.toList) (hu:∀ d,o.dst=some d->st.used d=st'.used d):
 deed P N ow o st=deed P N ow o st':=by
 obtain⟨dst,op,ty,pos,aft,grd⟩:=o
 unfold deed
 cases dst with
 | none=>rfl
 | some d=>
  simp only
  cases Nat.blt d N with
  | false=>rfl
  | true=>
   simp only[cond_true]
   have hu:=hu d rfl
   have hr:∀ r,deedR st d r=deedR st' d r:=by
    intro r
    cases r<;>simp only[deedR,hu]
   have pure:(bif ow then (match gvn P st.val st.heap op with
    | some v=>some (Deed.put True (some d) v none)
    | none=>none) else match evP P st.val st.heap op with
    | some r=>deedR st d r
    | none=>none)=(bif ow then (match gvn P st'.val st'.heap op with
    | some v=>some (Deed.put True (some d) v none)
    | none=>none) else match evP P st'.val st'.heap op with
    | some r=>deedR st' d r
    | none=>none):=by
    rw[q6T hv hh,gvn_congr hv hh]
    simp only[hr]
   cases op with
   | call c=>
    obtain⟨cal,args,ts⟩:=c
    cases cal with
    | value f=>
     have ho:(Op.call ⟨.value f,args,ts⟩).operands.toList=f :: args.toList:=by simp[Op.operands,Call.operands]
     simp only[ho] at hv hh
     simp only
     rw[<-hv f (by simp)]
     have e2:∀ rt,argsV P st.val (bif flat rt then st.heap else q0e) args.toList ts.toList=argsV P st'.val (bif flat rt then st'.heap else q0e) args.toList ts.toList:=by
      intro rt
      refine q3B _ _ (fun x hx=>hv x (by simp at hx ⊢;exact .inr hx)) (fun x hx v hv b hb=>?_)
      cases flat rt
      . rfl
      . exact hh x (by simp at hx ⊢;exact .inr hx) v hv b hb
     have e3:argsV P st.val st.heap args.toList ts.toList=argsV P st'.val st'.heap args.toList ts.toList:=
      q3B _ _ (fun x hx=>hv x (by simp at hx ⊢;exact .inr hx)) (fun x hx v hv b hb=>hh x (by simp at hx ⊢;exact .inr hx) v hv b hb)
     have e4:argsV P st.val q0e args.toList ts.toList=argsV P st'.val q0e args.toList ts.toList:=
      q3B _ _ (fun x hx=>hv x (by simp at hx ⊢;exact .inr hx)) (fun x hx v hv b hb=>rfl)
     simp only[e2,e3,e4,hu]
    | invoke x m=>exact pure
    | builtin b=>
     cases b with
     | append=>
      have ho:(Op.call ⟨.builtin .append,args,ts⟩).operands.toList=args.toList:=by simp[Op.operands,Call.operands]
      simp only[ho] at hv hh
      simp only
      cases ha:args.toList with
      | nil=>rfl
      | cons s l=>
       cases l with
       | nil=>rfl
       | cons x l=>
        cases l with
        | cons y l=>rfl
        | nil=>
         rw[ha] at hv hh
         cases ts.toList with
         | nil=>rfl
         | cons t l=>
          cases l with
          | nil=>rfl
          | cons t1 l=>
           cases l with
           | cons y l=>rfl
           | nil=>
            simp only
            rw[<-hv s (by simp),<-hv x (by simp)]
            cases hx:st.val x with
            | none=>rfl
            | some vx=>
             simp only
             rw[q9Z (hh x (by simp) vx hx)]
     | _=>exact pure
   | _=>exact pure
theorem sdeed_congr {P:Program} {N:Nat} {ad:Nat->Bool} {ops:Array Oper} {bad:Nat->List Nat} {i:Nat} {o:Oper} {st st':St} (ho:ops.toList[i]?=some o) (he:∀ t,t∈readsOf ops o->st.env t=st'.env t)
 (hh:∀ b,memN b (bad i)=false->st.heap b=st'.heap b) (hu:∀ d,o.dst=some d->st.used d=st'.used d):sdeed P N ad ops bad i st=sdeed P N ad ops bad i st':=by
 unfold sdeed
 rw[ho]
 simp only
 have hv:∀ x,x∈o.op.operands.toList->st.val x=st'.val x:=q3p _ (fun t ht=>he t (by simp[readsOf,ht]))
 rw[<-q5J hv]
 cases hok:okOp (bad i) st.val o.op with
 | false=>rfl
 | true=>
  simp only[cond_true]
  have hd:=qaj (P:=P) (N:=N) (ow:=ad i) hv (fun x hx v hv b hb=>hh b (okIds_mem _ (okOp_ids hok) x hx v hv b hb)) hu
  cases hg:o.guard with
  | none=>exact hd
  | some jw=>
   obtain⟨j,want⟩:=jw
   simp only
   cases hj:dstOf ops j with
   | none=>rfl
   | some dj=>
    simp only
    rw[<-he dj (by simp[readsOf,hg,hj]),hd]
def Deed.of (o:Oper):Deed->Prop
 | .put _ d _ _=>d=o.dst
 | .call _ d=>o.dst=some d/\isCall o.op=true
theorem q6N {P:Program} {N:Nat} {ow:Bool} {o:Oper} {st:St} {x:Deed} (h:deed P N ow o st=some x):x.of o:=by
 unfold deed at h
 split at h<;>try (simp at h;done)
 rename_i d hd
 cases e:Nat.blt d N<;>rw[e] at h
 . simp at h
 simp only[cond_true] at h
 split at h
 . rename_i f args ts hop
   split at h<;>try (simp at h;done)
   split at h<;>try (simp at h;done)
   cases ow with
   | true=>
    simp only[cond_true] at h
    split at h
    . split at h<;>try (simp at h;done)
      cases e2:st.used d<;>rw[e2] at h<;>simp at h
      subst h
      exact⟨hd,by rw[hop];rfl⟩
    split at h<;>try (simp at h;done)
    split at h<;>try (simp at h;done)
    cases e2:st.used d<;>rw[e2] at h<;>simp at h
    subst h
    exact⟨hd,by rw[hop];rfl⟩
   | false=>
   simp only[cond_false] at h
   split at h<;>try (simp at h;done)
   split at h<;>try (simp at h;done)
   simp only[Option.some.injEq] at h;subst h
   exact⟨hd,by rw[hop];rfl⟩
 . split at h<;>try (simp at h;done)
   rename_i s x t t1 _ _
   cases hn:q1o (st.val s)<;>rw[hn] at h<;>simp only[cond_true,cond_false,reduceCtorEq] at h
   split at h<;>try (simp at h;done)
   split at h<;>try (simp at h;done)
   simp only[Option.some.injEq] at h;subst h;exact hd.symm
 . cases ow<;>simp only[cond_true,cond_false] at h
   case true=>
    split at h<;>try (simp at h;done)
    simp only[Option.some.injEq] at h;subst h;exact hd.symm
   split at h<;>try (simp at h;done)
   rename_i r _
   cases r with
   | val v=>simp only[deedR,Option.some.injEq] at h;subst h;exact hd.symm
   | cond c v=>simp only[deedR,Option.some.injEq] at h;subst h;exact hd.symm
   | new k=>simp only[deedR] at h;cases e:st.used d<;>rw[e] at h<;>simp at h;subst h;exact hd.symm
   | newc c k=>simp only[deedR] at h;cases e:st.used d<;>rw[e] at h<;>simp at h;subst h;exact hd.symm
theorem q3m {P:Program} {N:Nat} {ad:Nat->Bool} {ops:Array Oper} {bad:Nat->List Nat} {i:Nat} {o:Oper} {st:St} (ho:ops.toList[i]?=some o) {x:Deed} (h:sdeed P N ad ops bad i st=some x):x.of o:=by
 unfold sdeed at h
 rw[ho] at h
 simp only at h
 cases hok:okOp (bad i) st.val o.op<;>rw[hok] at h
 . simp at h
 simp only[cond_true] at h
 split at h
 . exact q6N h
 . rename_i j want _
   split at h<;>try (simp at h;done)
   split at h<;>try (simp at h;done)
   . rename_i b _
     cases e:(b == want)<;>rw[e] at h
     . simp only[cond_false,Option.some.injEq] at h;subst h;rfl
     . exact q6N h
   . simp only[Option.some.injEq] at h;subst h;rfl
theorem q1x {α:Type} (f:Nat->α) {a b:Nat} (x y:α) (h:a≠b):upd (upd f a x) b y=upd (upd f b y) a x:=by
 funext m
 by_cases e1:m=a
 . subst e1;rw[upd_same,upd_other _ _ _ _ h,upd_same]
 . by_cases e2:m=b
   . subst e2;rw[upd_same,upd_other _ _ _ _ e1,upd_same]
   . rw[upd_other _ _ _ _ e2,upd_other _ _ _ _ e1,upd_other _ _ _ _ e1,upd_other _ _ _ _ e2]
theorem q5m (st:St) {d d':Option Nat} {v v':V} {k k':Option Blk} (h:∀ x,d=some x->d'=some x->False):(st.does d v k).does d' v' k'=(st.does d' v' k').does d v k:=by
 cases d with
 | none=>rfl
 | some d=>
  cases d' with
  | none=>rfl
  | some d'=>
   have hne:d≠d':=fun e=>h d rfl (by rw[e])
   cases k<;>cases k'<;>simp only[St.does,St.put,St.new]<;>congr 1<;>first
    | exact q1x _ _ _ hne
    | rfl
theorem does_env {st:St} {d:Option Nat} {v:V} {k:Option Blk} {t:Nat} (h:d≠some t):(st.does d v k).env t=st.env t/\(st.does d v k).heap t=st.heap t/\(st.does d v k).used t=st.used t:=by
 cases d with
 | none=>exact⟨rfl,rfl,rfl⟩
 | some d=>
  have hne:t≠d:=fun e=>h (by rw[e])
  cases k with
  | none=>exact⟨upd_other _ _ _ _ hne,rfl,rfl⟩
  | some k=>exact⟨upd_other _ _ _ _ hne,upd_other _ _ _ _ hne,upd_other _ _ _ _ hne⟩
structure Free (ops:Array Oper) (bad:Nat->List Nat) (i j:Nat) (o o':Oper):Prop where
 hi:ops.toList[i]?=some o
 hj:ops.toList[j]?=some o'
 qi:qOk (bad i) o.op=true
 qj:qOk (bad j) o'.op=true
 calls:¬ (isCall o.op=true/\isCall o'.op=true)
 ri:∀ t,t∈readsOf ops o->o'.dst≠some t
 rj:∀ t,t∈readsOf ops o'->o.dst≠some t
 dd:∀ x,o.dst=some x->o'.dst=some x->False
 bi:∀ d,o'.dst=some d->memN d (bad i)=true
 bj:∀ d,o.dst=some d->memN d (bad j)=true
theorem swap {P:Program} {N:Nat} {ad:Nat->Bool} {ops:Array Oper} {bad:Nat->List Nat} {i j:Nat} {o o':Oper} (h:Free ops bad i j o o') {K:St->Prop} {st:St} (hw:stepW P N ad ops bad i (stepW P N ad ops bad j K) st):
 stepW P N ad ops bad j (stepW P N ad ops bad i K) st:=by
 have qi:∀ x,ops.toList[i]?=some x->qOk (bad i) x.op=true:=by intro x hx;rw[h.hi] at hx;cases hx;exact h.qi
 have qj:∀ x,ops.toList[j]?=some x->qOk (bad j) x.op=true:=by intro x hx;rw[h.hj] at hx;cases hx;exact h.qj
 have ci:∀ v k,sdeed P N ad ops bad i (st.does o'.dst v k)=sdeed P N ad ops bad i st:=fun v k=>
  (sdeed_congr h.hi (fun t ht=>(does_env (h.ri t ht)).1.symm) (fun b hb=>(does_env (fun e=>by have:=h.bi b e;rw[hb] at this;simp at this)).2.1.symm)
   (fun d hd=>(does_env (fun e=>h.dd d hd e)).2.2.symm)).symm
 have cj:∀ v k,sdeed P N ad ops bad j (st.does o.dst v k)=sdeed P N ad ops bad j st:=fun v k=>
  (sdeed_congr h.hj (fun t ht=>(does_env (h.rj t ht)).1.symm) (fun b hb=>(does_env (fun e=>by have:=h.bj b e;rw[hb] at this;simp at this)).2.1.symm)
   (fun d hd=>(does_env (fun e=>h.dd d e hd)).2.2.symm)).symm
 rw[q09 qi] at hw
 rw[q09 qj]
 cases hdi:sdeed P N ad ops bad i st with
 | none=>rw[hdi] at hw;exact hw.elim
 | some x=>
  rw[hdi] at hw
  have hxi:=q3m h.hi hdi
  cases hdj:sdeed P N ad ops bad j st with
  | none=>
   exfalso
   cases x with
   | put c d v k=>
    simp only[Deed.of] at hxi;subst hxi
    obtain⟨_,hw⟩:=hw
    rw[q09 qj,cj,hdj] at hw;exact hw
   | call c d=>
    obtain⟨hd,_⟩:=hxi
    have hw:c.wp P d fun v k=>stepW P N ad ops bad j K (st.does (some d) v k):=hw
    obtain⟨v,k,hr⟩:=CallK.ex hw
    rw[<-hd,q09 qj,cj,hdj] at hr;exact hr
  | some y=>
   have hxj:=q3m h.hj hdj
   cases x with
   | put c d v k=>
    simp only[Deed.of] at hxi;subst hxi
    obtain⟨hc,hw⟩:=hw
    rw[q09 qj,cj,hdj] at hw
    cases y with
    | put c' d' v' k'=>
     simp only[Deed.of] at hxj;subst hxj
     obtain⟨hc',hw⟩:=hw
     refine⟨hc',?_⟩
     rw[q09 qi,ci,hdi]
     exact⟨hc,by rw[q5m _ (fun x a b=>h.dd x b a)];exact hw⟩
    | call c' d'=>
     obtain⟨hd',_⟩:=hxj
     have hw:c'.wp P d' fun v' k'=>K ((st.does o.dst v k).does (some d') v' k'):=hw
     show c'.wp P d' fun v' k'=>stepW P N ad ops bad i K (st.does (some d') v' k')
     refine CallK.mono hw fun v' k' hr=>?_
     rw[<-hd',q09 qi,ci,hdi]
     refine⟨hc,?_⟩
     rw[q5m _ (fun x a b=>h.dd x b a),hd'];exact hr
   | call c d=>
    obtain⟨hd,hcall⟩:=hxi
    have hw:c.wp P d fun v k=>stepW P N ad ops bad j K (st.does (some d) v k):=hw
    cases y with
    | put c' d' v' k'=>
     simp only[Deed.of] at hxj;subst hxj
     have key:∀ v k,stepW P N ad ops bad j K (st.does (some d) v k)->c'/\K ((st.does o'.dst v' k').does (some d) v k):=by
      intro v k hr
      rw[<-hd,q09 qj,cj,hdj] at hr
      obtain⟨hc',hr⟩:=hr
      refine⟨hc',?_⟩
      rw[q5m _ (fun x a b=>h.dd x a b),hd] at hr;exact hr
     obtain⟨v,k,hr⟩:=CallK.ex hw
     refine⟨(key v k hr).1,?_⟩
     rw[q09 qi,ci,hdi]
     show c.wp P d fun v k=>K ((st.does o'.dst v' k').does (some d) v k)
     exact CallK.mono hw fun v k hr=>(key v k hr).2
    | call c' d'=>exact (h.calls ⟨hcall,hxj.2⟩).elim
structure FreeS (ops:Array Oper) (bad:Nat->List Nat) (i j:Nat) (o o':Oper):Prop where
 hi:ops.toList[i]?=some o
 hj:ops.toList[j]?=some o'
 gi:o.guard=none
 gj:o'.guard=none
 di:o.dst=none
 dj:o'.dst=none
 st:∃ a s v a' s' v',o.op=.store a (.tmp s) v/\o'.op=.store a' (.tmp s') v'/\s≠s'
 bi:memN 4294967295 (bad i)=true
 bj:memN 4294967295 (bad j)=true
theorem qb3 {hp:Nat->Option Blk} {n b o:Nat} {u:den (.ref b o)} {x:V} {c:Nat} {k:Blk} (h:storeV hp n ⟨.ref b o,u⟩ x=some (c,k)):c=b:=by
 unfold storeV at h
 cases e:(Nat.beq n (width x.t) && valT x.t && Nat.blt 0 n)<;>rw[e] at h
 . simp at h
 simp only[cond_true] at h
 split at h<;>try (simp at h;done)
 split at h<;>try (simp at h;done)
 rename_i ty y _ _ u _
 cases e:(bldT u.t && !(bldT ty))<;>rw[e] at h<;>simp at h
 exact h.1.symm
theorem q6i {hp hp':Nat->Option Blk} {n b o:Nat} {u:den (.ref b o)} {x:V} (h:hp b=hp' b):storeV hp n ⟨.ref b o,u⟩ x=storeV hp' n ⟨.ref b o,u⟩ x:=by
 unfold storeV
 simp only[h]
theorem stepS {P:Program} {N:Nat} {ad:Nat->Bool} {ops:Array Oper} {bad:Nat->List Nat} {i:Nat} {o:Oper} {a:TypeId} {s:Nat} {v:Operand} (ho:ops.toList[i]?=some o) (hg:o.guard=none) (hd:o.dst=none) (hop:o.op=.store a (.tmp s) v)
 (hb:memN 4294967295 (bad i)=true) (K:St->Prop) (st:St):
 stepW P N ad ops bad i K st↔okIds (bad i) st.val o.op.operands.toList=true/\∃ f u g n vv k,st.env s=some ⟨.ref s f,u⟩/\tinf P a=some (g,n)/\st.val v=some vv/\storeV st.heap n ⟨.ref s f,u⟩ vv=some (s,k)/\K { st with heap:=upd st.heap s (some k) }:=by
 obtain⟨dst,op,ty,pos,aft,grd⟩:=o
 simp only at hg hd hop;subst hg hd hop
 unfold stepW
 simp only[regW]
 rw[ho]
 simp only[okOp,okSt,okAp,Bool.and_true,hb,cond_true,opW]
 have hsv:st.val (.tmp s)=st.env s:=rfl
 rw[hsv]
 cases h1:okIds (bad i) st.val (Op.store a (.tmp s) v).operands.toList with
 | false=>simp
 | true=>
  simp only[Bool.true_and,true_and]
  cases h2:st.env s with
  | none=>simp
  | some w=>
   obtain⟨t,u⟩:=w
   cases t with
   | ref b f=>
    simp only
    cases h3:Nat.beq b s with
    | false=>
     simp only[cond_false]
     constructor
     . exact False.elim
     . rintro⟨f',u',g,n,vv,k,e,_⟩
       simp only[Option.some.injEq,V.mk.injEq,Ty.ref.injEq] at e
       rw[e.1.1] at h3;simp at h3
    | true=>
     rw[Nat.beq_eq] at h3;subst h3
     simp only[cond_true]
     constructor
     . intro h
       split at h<;>try exact h.elim
       rename_i g n ht
       split at h<;>try exact h.elim
       rename_i vv hv
       split at h<;>try exact h.elim
       rename_i c k hs
       have:=qb3 hs;subst this
       exact⟨f,u,g,n,vv,k,rfl,ht,hv,hs,h⟩
     . rintro⟨f',u',g,n,vv,k,e,ht,hv,hs,hk⟩
       simp only[Option.some.injEq,V.mk.injEq,Ty.ref.injEq,true_and] at e
       obtain⟨rfl,e2⟩:=e
       have e3:u=u':=rfl
       subst e3
       rw[ht];simp only[hv]
       rw[hs];exact hk
   | _=>
    simp only[cond_false]
    constructor
    . exact False.elim
    . rintro⟨f',u',g,n,vv,k,e,_⟩
      simp at e
theorem swapS {P:Program} {N:Nat} {ad:Nat->Bool} {ops:Array Oper} {bad:Nat->List Nat} {i j:Nat} {o o':Oper} (h:FreeS ops bad i j o o') {K:St->Prop} {st:St} (hw:stepW P N ad ops bad i (stepW P N ad ops bad j K) st):
 stepW P N ad ops bad j (stepW P N ad ops bad i K) st:=by
 obtain⟨a,s,v,a',s',v',e,e',hne⟩:=h.st
 rw[stepS h.hi h.gi h.di e h.bi] at hw
 obtain⟨q1,f,u,g,n,vv,k,q2,q3,q4,q5,hw⟩:=hw
 rw[stepS h.hj h.gj h.dj e' h.bj] at hw
 obtain⟨p1,f',u',g',n',vv',k',p2,p3,p4,p5,hw⟩:=hw
 have hval:∀ (st:St) (hp:Nat->Option Blk),St.val { st with heap:=hp }=st.val:=by intro st hp;funext x;cases x<;>rfl
 rw[hval] at p1
 rw[stepS h.hj h.gj h.dj e' h.bj]
 refine⟨p1,f',u',g',n',vv',k',p2,p3,by rw[hval] at p4;exact p4,?_,?_⟩
 . rw[q6i (hp':=upd st.heap s (some k)) (upd_other _ _ _ _ (fun e=>hne e.symm)).symm];exact p5
 . rw[stepS h.hi h.gi h.di e h.bi]
   refine⟨by rw[hval];exact q1,f,u,g,n,vv,k,q2,q3,by rw[hval];exact q4,?_,?_⟩
   . rw[q6i (hp':=st.heap) (upd_other _ _ _ _ hne)];exact q5
   . show K { st with heap:=upd (upd st.heap s' (some k')) s (some k) }
     rw[q1x _ _ _ (fun e=>hne e.symm)];exact hw
structure FreeQ (ops:Array Oper) (bad:Nat->List Nat) (i j:Nat) (o o':Oper) (s:Nat):Prop where
 hi:ops.toList[i]?=some o
 hj:ops.toList[j]?=some o'
 gi:o.guard=none
 di:o.dst=none
 st:∃ a v,o.op=.store a (.tmp s) v
 qj:qOk (bad j) o'.op=true
 rj:∀ t,t∈readsOf ops o->o'.dst≠some t
 bi:memN 4294967295 (bad i)=true
 bj:memN s (bad j)=true
def St.wr (st:St) (s:Nat) (k:Blk):St:={ st with heap:=upd st.heap s (some k) }
theorem q4r (st:St) {s:Nat} {k:Blk} {d:Option Nat} {v:V} {k':Option Blk} (h:d≠some s):(st.wr s k).does d v k'=(st.does d v k').wr s k:=by
 cases d with
 | none=>rfl
 | some d=>
  have hne:d≠s:=fun e=>h (by rw[e])
  cases k' with
  | none=>rfl
  | some k'=>
   simp only[St.does,St.put,St.new,St.wr]
   congr 1
   exact q1x _ _ _ (fun e=>hne e.symm)
section
variable {P:Program} {N:Nat} {ad:Nat->Bool} {ops:Array Oper} {bad:Nat->List Nat} {i j:Nat} {o o':Oper} {s:Nat}
theorem store_does (h:FreeQ ops bad i j o o' s) {a:TypeId} {v:Operand} (e:o.op=.store a (.tmp s) v) (st:St) (x:V) (kk:Option Blk) (K:St->Prop):
 stepW P N ad ops bad i K (st.does o'.dst x kk)↔okIds (bad i) st.val o.op.operands.toList=true/\∃ f u g n vv k,st.env s=some ⟨.ref s f,u⟩/\tinf P a=some (g,n)/\st.val v=some vv/\storeV st.heap n ⟨.ref s f,u⟩ vv=some (s,k)/\K ((st.does o'.dst x kk).wr s k):=by
 rw[stepS h.hi h.gi h.di e h.bi]
 have hv:∀ y,y∈o.op.operands.toList->(st.does o'.dst x kk).val y=st.val y:=q3p _ (fun t ht=>(does_env (h.rj t (by simp[readsOf,ht]))).1)
 have hs:s∈readsOf ops o:=by simp[readsOf,e,Op.operands,q0J]
 have h1:=does_env (v:=x) (k:=kk) (st:=st) (h.rj s hs)
 have h2:(st.does o'.dst x kk).val v=st.val v:=hv v (by simp[e,Op.operands])
 rw[q5I _ hv,h1.1,h2]
 have h3:∀ f u n vv,storeV (st.does o'.dst x kk).heap n ⟨.ref s f,u⟩ vv=storeV st.heap n ⟨.ref s f,u⟩ vv:=fun f u n vv=>q6i h1.2.1
 simp only[h3]
 exact Iff.rfl
theorem q69 (h:FreeQ ops bad i j o o' s) (st:St) (k:Blk):sdeed P N ad ops bad j (st.wr s k)=sdeed P N ad ops bad j st:=
 sdeed_congr h.hj (fun _ _=>rfl) (fun b hb=>upd_other _ _ _ _ (fun e=>by rw[e,h.bj] at hb;simp at hb)) (fun _ _=>rfl)
theorem q6P (st:St) {a:TypeId} {v:Operand} (h:FreeQ ops bad i j o o' s) (e:o.op=.store a (.tmp s) v) (K:St->Prop):
 stepW P N ad ops bad i K st↔okIds (bad i) st.val o.op.operands.toList=true/\∃ f u g n vv k,st.env s=some ⟨.ref s f,u⟩/\tinf P a=some (g,n)/\st.val v=some vv/\storeV st.heap n ⟨.ref s f,u⟩ vv=some (s,k)/\K (st.wr s k):=
 stepS h.hi h.gi h.di e h.bi K st
theorem swapQ (h:FreeQ ops bad i j o o' s) {K:St->Prop} {st:St} (hw:stepW P N ad ops bad i (stepW P N ad ops bad j K) st):stepW P N ad ops bad j (stepW P N ad ops bad i K) st:=by
 obtain⟨a,v,e⟩:=h.st
 have qj:∀ x,ops.toList[j]?=some x->qOk (bad j) x.op=true:=by intro x hx;rw[h.hj] at hx;cases hx;exact h.qj
 have hs:s∈readsOf ops o:=by simp[readsOf,e,Op.operands,q0J]
 rw[q6P st h e] at hw
 obtain⟨q1,f,u,g,n,vv,k,q2,q3,q4,q5,hw⟩:=hw
 rw[q09 qj,q69 h] at hw
 rw[q09 qj]
 cases hd:sdeed P N ad ops bad j st with
 | none=>rw[hd] at hw;exact hw.elim
 | some x=>
  rw[hd] at hw
  have hx:=q3m h.hj hd
  cases x with
  | put c d v' k'=>
   simp only[Deed.of] at hx;subst hx
   refine⟨hw.1,(store_does h e st v' k' K).2 ⟨q1,f,u,g,n,vv,k,q2,q3,q4,q5,?_⟩⟩
   rw[<-q4r st (h.rj s hs)];exact hw.2
  | call c d=>
   obtain⟨hd',_⟩:=hx
   have hw:c.wp P d fun v' k'=>K ((st.wr s k).does (some d) v' k'):=hw
   show c.wp P d fun v' k'=>stepW P N ad ops bad i K (st.does (some d) v' k')
   refine CallK.mono hw fun v' k' hr=>?_
   rw[<-hd']
   refine (store_does h e st _ k' K).2 ⟨q1,f,u,g,n,vv,k,q2,q3,q4,q5,?_⟩
   rw[<-q4r st (h.rj s hs),hd'];exact hr
theorem swapQ' (h:FreeQ ops bad i j o o' s) {K:St->Prop} {st:St} (hw:stepW P N ad ops bad j (stepW P N ad ops bad i K) st):stepW P N ad ops bad i (stepW P N ad ops bad j K) st:=by
 obtain⟨a,v,e⟩:=h.st
 have qj:∀ x,ops.toList[j]?=some x->qOk (bad j) x.op=true:=by intro x hx;rw[h.hj] at hx;cases hx;exact h.qj
 have hs:s∈readsOf ops o:=by simp[readsOf,e,Op.operands,q0J]
 rw[q09 qj] at hw
 rw[q6P st h e]
 cases hd:sdeed P N ad ops bad j st with
 | none=>rw[hd] at hw;exact hw.elim
 | some x=>
  rw[hd] at hw
  have hx:=q3m h.hj hd
  cases x with
  | put c d v' k'=>
   simp only[Deed.of] at hx;subst hx
   obtain⟨hc,hw⟩:=hw
   obtain⟨q1,f,u,g,n,vv,k,q2,q3,q4,q5,hw⟩:=(store_does h e st v' k' K).1 hw
   refine⟨q1,f,u,g,n,vv,k,q2,q3,q4,q5,?_⟩
   rw[q09 qj,q69 h,hd]
   refine⟨hc,?_⟩
   rw[q4r st (h.rj s hs)];exact hw
  | call c d=>
   obtain⟨hd',_⟩:=hx
   have hw1:c.wp P d fun v' k'=>stepW P N ad ops bad i K (st.does (some d) v' k'):=hw
   obtain⟨v',k',hr⟩:=CallK.ex hw1
   rw[<-hd'] at hr
   obtain⟨q1,f,u,g,n,vv,k,q2,q3,q4,q5,_⟩:=(store_does h e st _ k' K).1 hr
   refine⟨q1,f,u,g,n,vv,k,q2,q3,q4,q5,?_⟩
   rw[q09 qj,q69 h,hd]
   show c.wp P d fun v' k'=>K ((st.wr s k).does (some d) v' k')
   refine CallK.mono hw1 fun v' k' hr=>?_
   rw[<-hd'] at hr
   obtain⟨_,f',u',g',n',vv',k2,p2,p3,p4,p5,hk⟩:=(store_does h e st _ k' K).1 hr
   rw[q2] at p2
   simp only[Option.some.injEq,V.mk.injEq,Ty.ref.injEq,true_and] at p2
   obtain⟨rfl,e3⟩:=p2
   have e4:u=u':=rfl
   subst e4
   rw[q3] at p3;cases p3
   rw[q4] at p4;cases p4
   rw[q5] at p5;cases p5
   show K ((st.wr s k).does (some d) v' k')
   rw[<-hd',q4r st (h.rj s hs)];exact hk
end
def noMem:Op->Bool
 | .move _ | .assign _ | .pick _ _ _ | .unOp _ _ _ | .convert _ _ _ | .field _ _ _ | .extract _ _=>true
 | .binOp op _ _ _ _=>match op with
  | .eql | .neq=>false
  | _=>true
 | _=>false
theorem q7j {op:Op} (h:noMem op=true):quiet op=true:=by
 cases op<;>first | rfl | (simp[noMem] at h)
theorem vOf_val {x:Option V} {r:Res} (h:vOf x=some r):∃ v,r=.val v:=by
 cases x with
 | none=>simp[vOf] at h
 | some v=>simp only[vOf,Option.some.injEq] at h;exact⟨v,h.symm⟩
theorem bif_opt {α:Type} {b:Bool} {o:Option α} {y:α} (h:(bif b then o else none)=some y):o=some y:=by
 cases b
 . simp at h
 . exact h
theorem q4A {op:BinOp} {k:IntKind} {a b:Int} {r:Res} (h:binI op k a b=some r):(∃ v,r=.val v)∨∃ c v,r=.cond c v:=by
 cases op<;>simp only[binI,Option.some.injEq] at h<;>subst h<;>first | exact .inl ⟨_,rfl⟩ | exact .inr ⟨_,_,rfl⟩
theorem noMem_evP {P:Program} {g:Operand->Option V} {hp hp':Nat->Option Blk} {op:Op} (h:noMem op=true):evP P g hp op=evP P g hp' op:=by
 cases op with
 | binOp b t x y z=>
  simp only[evP]
  cases g x with
  | none=>rfl
  | some v1=>
   cases g y with
   | none=>rfl
   | some v2=>
    simp only[binV]
    split
    . rfl
    . rfl
    . cases b<;>first | rfl | (simp[noMem] at h)
 | _=>first | rfl | (simp[noMem] at h)
theorem noMem_plain {P:Program} {g:Operand->Option V} {hp:Nat->Option Blk} {op:Op} {r:Res} (h:noMem op=true) (he:evP P g hp op=some r):(∃ v,r=.val v)∨∃ c v,r=.cond c v:=by
 cases op with
 | binOp b t x y z=>
  simp only[evP] at he
  split at he<;>try (simp at he;done)
  split at he<;>try (simp at he;done)
  unfold binV at he
  split at he
  . split at he
    . exact q4A he
    . exact q4A he
    . exact q4A (bif_opt he)
  . cases b<;>simp only[strI,Option.some.injEq,reduceCtorEq] at he<;>subst he<;>first | exact .inl ⟨_,rfl⟩ | exact .inr ⟨_,_,rfl⟩
  . split at he<;>simp[noMem] at h he
 | pick c a b=>
  simp only[evP] at he
  split at he<;>try (simp at he;done)
  split at he<;>exact .inl (vOf_val he)
 | _=>
  first
   | (simp[noMem] at h;done)
   | exact .inl (vOf_val he)
   | (simp only[evP] at he;split at he<;>first | (simp at he;done) | exact .inl (vOf_val he))
theorem qak {P:Program} {N:Nat} {ow:Bool} {o:Oper} (h:noMem o.op=true) (st:St) (b:Nat) (k:Blk):
 deed P N ow o (st.wr b k)=deed P N ow o st/\∀ x,deed P N ow o st=some x->∃ c v,x=.put c o.dst v none:=by
 obtain⟨dst,op,ty,pos,aft,grd⟩:=o
 have hval:(st.wr b k).val=st.val:=by funext x;cases x<;>rfl
 have hgv:∀ g hp,gvn P g hp op=none:=by
  intro g hp
  cases op<;>first | rfl | (simp[noMem] at h;done)
 have hev:∀ d,(bif ow then (match gvn P (st.wr b k).val (st.wr b k).heap op with
  | some v=>some (Deed.put True (some d) v none)
  | none=>none) else match evP P (st.wr b k).val (st.wr b k).heap op with
  | some r=>deedR (st.wr b k) d r
  | none=>none)=(bif ow then (match gvn P st.val st.heap op with
   | some v=>some (Deed.put True (some d) v none)
   | none=>none) else match evP P st.val st.heap op with
  | some r=>deedR st d r
  | none=>none):=by
  intro d
  rw[hgv,hgv]
  rw[hval,noMem_evP (hp:=(st.wr b k).heap) (hp':=st.heap) h]
  cases evP P st.val st.heap op with
  | none=>rfl
  | some r=>cases r<;>rfl
 have hpl:∀ d x,(bif ow then (match gvn P st.val st.heap op with
  | some v=>some (Deed.put True (some d) v none)
  | none=>none) else match evP P st.val st.heap op with
  | some r=>deedR st d r
  | none=>none)=some x->∃ c v,x=.put c (some d) v none:=by
  intro d x hx
  rw[hgv] at hx
  cases ow with
  | true=>cases hx
  | false=>
  simp only[cond_false] at hx
  cases e:evP P st.val st.heap op with
  | none=>rw[e] at hx;simp at hx
  | some r=>
   rw[e] at hx
   rcases noMem_plain h e with ⟨v,rfl⟩ | ⟨c,v,rfl⟩
   . simp only[deedR,Option.some.injEq] at hx;exact⟨_,_,hx.symm⟩
   . simp only[deedR,Option.some.injEq] at hx;exact⟨_,_,hx.symm⟩
 unfold deed
 cases dst with
 | none=>exact⟨rfl,fun x hx=>by simp at hx⟩
 | some d=>
  simp only
  cases Nat.blt d N with
  | false=>exact⟨rfl,fun x hx=>by simp at hx⟩
  | true=>
   simp only[cond_true]
   cases op<;>first | (simp[noMem] at h;done) | exact⟨hev d,hpl d⟩
theorem sdeed_noMem {P:Program} {N:Nat} {ad:Nat->Bool} {ops:Array Oper} {bad:Nat->List Nat} {j:Nat} {o:Oper} (hj:ops.toList[j]?=some o) (h:noMem o.op=true) (st:St) (b:Nat) (k:Blk):
 sdeed P N ad ops bad j (st.wr b k)=sdeed P N ad ops bad j st/\∀ x,sdeed P N ad ops bad j st=some x->∃ c v,x=.put c o.dst v none:=by
 have hval:(st.wr b k).val=st.val:=by funext x;cases x<;>rfl
 obtain⟨h1,h2⟩:=qak (P:=P) (N:=N) (ow:=ad j) h st b k
 unfold sdeed
 rw[hj]
 simp only[hval,h1]
 refine⟨rfl,fun x hx=>?_⟩
 cases hok:okOp (bad j) st.val o.op<;>rw[hok] at hx
 . simp at hx
 simp only[cond_true] at hx
 split at hx
 . exact h2 x hx
 . rename_i j' want _
   split at hx<;>try (simp at hx;done)
   split at hx<;>try (simp at hx;done)
   . rename_i v _
     cases e:(v == want)<;>rw[e] at hx
     . simp only[cond_false,Option.some.injEq] at hx;exact⟨_,_,hx.symm⟩
     . exact h2 x hx
   . simp only[Option.some.injEq] at hx;exact⟨_,_,hx.symm⟩
def stoV (P:Program) (bad:List Nat) (o:Oper) (st:St):Option (Nat×Blk):=
 bif okOp bad st.val o.op then match o.op with
  | .store t x v=>match tinf P t with
   | some (_,n)=>match st.val x with
    | some vx=>match st.val v with
     | some vv=>storeV st.heap n vx vv
     | none=>none
    | none=>none
   | none=>none
  | _=>none
 else none
theorem stepW_sto {P:Program} {N:Nat} {ad:Nat->Bool} {ops:Array Oper} {bad:Nat->List Nat} {i:Nat} {o:Oper} (hi:ops.toList[i]?=some o) (hg:o.guard=none) (hd:o.dst=none) (hs:∃ a s v,o.op=.store a (.tmp s) v) (K:St->Prop) (st:St):
 stepW P N ad ops bad i K st↔∃ b k,stoV P (bad i) o st=some (b,k)/\K (st.wr b k):=by
 obtain⟨a,s,v,hop⟩:=hs
 obtain⟨dst,op,ty,pos,aft,grd⟩:=o
 simp only at hg hd hop;subst hg hd hop
 unfold stepW stoV
 simp only[regW]
 rw[hi]
 simp only
 cases okOp (bad i) st.val (Op.store a (.tmp s) v) with
 | false=>simp
 | true=>
  simp only[cond_true,opW]
  cases tinf P a with
  | none=>simp
  | some p=>
   obtain⟨_,n⟩:=p
   simp only
   cases st.val (.tmp s) with
   | none=>simp
   | some vx=>
    simp only
    cases st.val v with
    | none=>simp
    | some vv=>
     simp only
     cases storeV st.heap n vx vv with
     | none=>simp
     | some p=>
      obtain⟨b,k⟩:=p
      constructor
      . intro h;exact⟨b,k,rfl,h⟩
      . rintro⟨b',k',e,h⟩;cases e;exact h
structure FreeN (ops:Array Oper) (i j:Nat) (o o':Oper):Prop where
 hi:ops.toList[i]?=some o
 hj:ops.toList[j]?=some o'
 gi:o.guard=none
 di:o.dst=none
 st:∃ a s v,o.op=.store a (.tmp s) v
 nj:noMem o'.op=true
 rj:∀ t,t∈readsOf ops o->o'.dst≠some t
section
variable {P:Program} {N:Nat} {ad:Nat->Bool} {ops:Array Oper} {bad:Nat->List Nat} {i j:Nat} {o o':Oper}
theorem q7S (h:FreeN ops i j o o') (st:St) (v:V):stoV P (bad i) o (st.does o'.dst v none)=stoV P (bad i) o st:=by
 have hv:∀ y,y∈o.op.operands.toList->(st.does o'.dst v none).val y=st.val y:=q3p _ (fun t ht=>(does_env (h.rj t (by simp[readsOf,ht]))).1)
 have hh:(st.does o'.dst v none).heap=st.heap:=by cases o'.dst<;>rfl
 obtain⟨a,s,x,e⟩:=h.st
 unfold stoV
 rw[q5J hv,hh]
 rw[e] at hv ⊢
 simp only
 rw[hv (.tmp s) (by simp[Op.operands]),hv x (by simp[Op.operands])]
theorem q81 (st:St) (b:Nat) (k:Blk) (d:Option Nat) (v:V):(st.wr b k).does d v none=(st.does d v none).wr b k:=by cases d<;>rfl
theorem swapN (h:FreeN ops i j o o') {K:St->Prop} {st:St} (hw:stepW P N ad ops bad i (stepW P N ad ops bad j K) st):stepW P N ad ops bad j (stepW P N ad ops bad i K) st:=by
 have qj:∀ x,ops.toList[j]?=some x->qOk (bad j) x.op=true:=by intro x hx;rw[h.hj] at hx;cases hx;simp[qOk,q7j h.nj]
 rw[stepW_sto h.hi h.gi h.di h.st] at hw
 obtain⟨b,k,hs,hw⟩:=hw
 rw[q09 qj,(sdeed_noMem h.hj h.nj st b k).1] at hw
 rw[q09 qj]
 cases hd:sdeed P N ad ops bad j st with
 | none=>rw[hd] at hw;exact hw.elim
 | some x=>
  rw[hd] at hw
  obtain⟨c,v,rfl⟩:=(sdeed_noMem h.hj h.nj st b k).2 x hd
  refine⟨hw.1,(stepW_sto h.hi h.gi h.di h.st _ _).2 ⟨b,k,by rw[q7S h];exact hs,?_⟩⟩
  rw[<-q81];exact hw.2
theorem swapN' (h:FreeN ops i j o o') {K:St->Prop} {st:St} (hw:stepW P N ad ops bad j (stepW P N ad ops bad i K) st):stepW P N ad ops bad i (stepW P N ad ops bad j K) st:=by
 have qj:∀ x,ops.toList[j]?=some x->qOk (bad j) x.op=true:=by intro x hx;rw[h.hj] at hx;cases hx;simp[qOk,q7j h.nj]
 rw[q09 qj] at hw
 cases hd:sdeed P N ad ops bad j st with
 | none=>rw[hd] at hw;exact hw.elim
 | some x=>
  rw[hd] at hw
  obtain⟨c,v,rfl⟩:=(sdeed_noMem h.hj h.nj st 0 (.box .unit ())).2 x hd
  obtain⟨hc,hw⟩:=hw
  rw[stepW_sto h.hi h.gi h.di h.st] at hw
  obtain⟨b,k,hs,hw⟩:=hw
  rw[q7S h] at hs
  refine (stepW_sto h.hi h.gi h.di h.st _ _).2 ⟨b,k,hs,?_⟩
  rw[q09 qj,(sdeed_noMem h.hj h.nj st b k).1,hd]
  refine⟨hc,?_⟩
  rw[q81];exact hw
end
def St.ap (st:St) (s d:Nat) (k:Option Blk) (v:V):St:=⟨upd st.env d (some v),upd (upd st.heap s none) d k,upd st.used d true⟩
def apV (P:Program) (N:Nat) (ow:Bool) (bad:List Nat) (o:Oper) (s d:Nat) (st:St):Option (Prop×V×Option Blk):=
 bif okOp bad st.val o.op && Nat.blt d N then match o.op with
  | .call ⟨.builtin .append,args,ts⟩=>match args.toList,ts.toList with
   | [_,x],[t,t1]=>match st.val (.tmp s) with
    | some vs=>match st.val x with
     | some vx=>match q0X P st.heap t t1 vs vx with
      | some (_,c,k)=>bif st.used d then none else bif ow then match k with
       | .arr u l=>some (c,⟨.sl u,l⟩,none)
       | _=>none
       else some (c,⟨.own d,()⟩,some k)
      | none=>none
     | none=>none
    | none=>none
   | _,_=>none
  | _=>none
 else none
structure FreeA (ops:Array Oper) (bad:Nat->List Nat) (i j:Nat) (o o':Oper) (s d:Nat):Prop where
 hi:ops.toList[i]?=some o
 hj:ops.toList[j]?=some o'
 gi:o.guard=none
 di:o.dst=some d
 st:∃ args ts l,o.op=.call ⟨.builtin .append,args,ts⟩/\args.toList=.tmp s :: l
 mi:memN 4294967297 (bad i)=true
 qj:quiet o'.op=true
 cj:isCall o'.op=false
 ri:∀ t,t∈readsOf ops o->o'.dst≠some t
 rj:∀ t,t∈readsOf ops o'->o.dst≠some t
 dd:o'.dst≠some d
 bi:∀ x,o'.dst=some x->memN x (bad i)=true
 bj:memN d (bad j)=true
 sj:memN s (bad j)=true
 sj2:memN (s+500000) (bad j)=true
 dx:o'.dst≠some (s+500000)
def ownB (st:St) (s:Nat):Nat:=match st.env s with
 | some ⟨.own b,_⟩=>b
 | _=>s
theorem qa3 {P:Program} {hp:Nat->Option Blk} {t t1:TypeId} {s:Nat} {u:den (.own s)} {x:V} {b:Option Nat} {c:Prop} {k:Blk} (h:q0X P hp t t1 ⟨.own s,u⟩ x=some (b,c,k)):b=some s:=by
 simp only[q0X] at h
 split at h<;>try (simp at h;done)
 split at h
 . split at h<;>try (simp at h;done)
   split at h<;>try (simp at h;done)
   simp only[Option.some.injEq,Prod.mk.injEq] at h
   exact h.1.symm
 . split at h<;>try (simp at h;done)
   obtain⟨_,h⟩:=q1A h
   split at h<;>try (simp at h;done)
   simp only[Option.some.injEq,Prod.mk.injEq] at h
   exact h.1.symm
theorem qa0 {P:Program} {hp hp':Nat->Option Blk} {t t1:TypeId} {s:Nat} {u:den (.own s)} {x:V} (hs:hp s=hp' s) (h:∀ b,b∈ids x.t->hp b=hp' b):q0X P hp t t1 ⟨.own s,u⟩ x=q0X P hp' t t1 ⟨.own s,u⟩ x:=by
 have e:∀ z,srcV P hp z t1 x=srcV P hp' z t1 x:=by
  intro z
  unfold srcV
  rw[q5k _ _ _ h]
 simp only[q0X,e,hs]
section
variable {P:Program} {N:Nat} {ad:Nat->Bool} {ops:Array Oper} {bad:Nat->List Nat} {i j:Nat} {o o':Oper} {s d:Nat}
theorem upd_upd {α:Type} (f:Nat->α) (a:Nat) (x y:α):upd (upd f a x) a y=upd f a y:=by
 funext m
 by_cases e:m=a
 . subst e;rw[upd_same,upd_same]
 . rw[upd_other _ _ _ _ e,upd_other _ _ _ _ e,upd_other _ _ _ _ e]
theorem FreeA.own (h:FreeA ops bad i j o o' s d) {st:St} (hok:okOp (bad i) st.val o.op=true):∃ b u,(b=s∨b=s+500000)/\st.env s=some ⟨.own b,u⟩/\ownB st s=b:=by
 obtain⟨args,ts,l,e1,e2⟩:=h.st
 rw[e1] at hok
 simp only[okOp,Bool.and_eq_true,okAp,h.mi,cond_true,e2] at hok
 have h3:=hok.2.2.2
 simp only[ownS,St.val] at h3
 cases hv:st.env s with
 | none=>rw[hv] at h3;cases h3
 | some v=>
  rw[hv] at h3
  obtain⟨t,x⟩:=v
  cases t<;>simp at h3
  rename_i m
  exact⟨m,x,h3,rfl,by simp only[ownB,hv]⟩
theorem stepW_app (h:FreeA ops bad i j o o' s d) (K:St->Prop) (st:St):
 stepW P N ad ops bad i K st↔∃ c v k,apV P N (ad i) (bad i) o s d st=some (c,v,k)/\c/\K (st.ap (ownB st s) d k v):=by
 have hown:okOp (bad i) st.val o.op=true->_:=h.own (st:=st)
 obtain⟨args,ts,l,hop,hargs⟩:=h.st
 have hg:=h.gi
 have hd:=h.di
 have hi:=h.hi
 obtain⟨dst,op,ty,pos,aft,grd⟩:=o
 simp only at hg hd hop;subst hg hd hop
 unfold stepW apV
 simp only[regW]
 rw[hi]
 simp only
 cases hok:okOp (bad i) st.val (Op.call ⟨.builtin .append,args,ts⟩) with
 | false=>simp
 | true=>
  obtain⟨bb,u,hbb,hsv,hob⟩:=hown hok
  rw[hob]
  simp only[cond_true,opW,Bool.true_and]
  cases Nat.blt d N with
  | false=>simp
  | true=>
   simp only[cond_true,hargs]
   have hval:st.val (.tmp s)=some ⟨.own bb,u⟩:=hsv
   cases l with
   | nil=>simp
   | cons x l=>cases l with
    | cons y l=>simp
    | nil=>
     cases htl:ts.toList with
     | nil=>simp
     | cons t tl=>cases tl with
      | nil=>simp
      | cons t1 tl=>cases tl with
       | cons t2 tl=>simp
       | nil=>
        simp only[hval,q1o,cond_false]
        cases st.val x with
        | none=>simp
        | some vx=>
         simp only
         cases happ:q0X P st.heap t t1 ⟨.own bb,u⟩ vx with
         | none=>simp
         | some p=>
          obtain⟨b,c,k⟩:=p
          have hb:=qa3 happ
          subst hb
          simp only
          cases st.used d with
          | true=>simp
          | false=>
           simp only[cond_false]
           cases ad i with
           | false=>
            simp only[cond_false]
            constructor
            . intro hh;exact⟨_,_,_,rfl,hh.1,hh.2⟩
            . rintro⟨c',v',k',e,h1,h2⟩;cases e;exact⟨h1,h2⟩
           | true=>
            simp only[cond_true]
            cases k with
            | arr u l=>
             simp only
             have e:(((st.killO (some bb)).new d (.arr u l)).kill d).put d (some ⟨.sl u,l⟩)=st.ap bb d none ⟨.sl u,l⟩:=by
              simp only[St.killO,St.kill,St.new,St.put,St.ap,upd_upd]
             rw[e]
             constructor
             . intro hh;exact⟨_,_,_,rfl,hh.1,hh.2⟩
             . rintro⟨c',v',k',e,h1,h2⟩;cases e;exact⟨h1,h2⟩
            | box _ _=>simp
            | pool _ _ _=>simp
theorem ap_does (h:FreeA ops bad i j o o' s d) {b:Nat} (hb:b=s∨b=s+500000) (st:St) (k kk:Option Blk) (v vv:V):(st.does o'.dst v k).ap b d kk vv=(st.ap b d kk vv).does o'.dst v k:=by
 have hs0:o'.dst≠some s:=h.ri s (by
  obtain⟨args,ts,l,e1,e2⟩:=h.st
  simp[readsOf,e1,Op.operands,Call.operands,e2,q0J])
 have hs:o'.dst≠some b:=by
  rcases hb with rfl | rfl
  . exact hs0
  . exact h.dx
 have hd:=h.dd
 cases e:o'.dst with
 | none=>rfl
 | some x=>
  rw[e] at hs hd
  have h1:x≠b:=fun e=>hs (by rw[e])
  have h2:x≠d:=fun e=>hd (by rw[e])
  cases k with
  | none=>simp only[St.does,St.put,St.ap,q1x _ _ _ h2]
  | some k=>
   simp only[St.does,St.put,St.new,St.ap]
   rw[q1x st.env _ _ h2,q1x st.heap _ _ h1,q1x _ _ _ h2,q1x st.used _ _ h2]
theorem q7n (h:FreeA ops bad i j o o' s d) (st:St) (v:V) (k:Option Blk):ownB (st.does o'.dst v k) s=ownB st s:=by
 have hs:o'.dst≠some s:=h.ri s (by
  obtain⟨args,ts,l,e1,e2⟩:=h.st
  simp[readsOf,e1,Op.operands,Call.operands,e2,q0J])
 simp only[ownB,(does_env hs).1]
theorem apV_own (h:FreeA ops bad i j o o' s d) {ow:Bool} {st:St} {x:Prop×V×Option Blk} (e:apV P N ow (bad i) o s d st=some x):ownB st s=s∨ownB st s=s+500000:=by
 unfold apV at e
 cases hk:okOp (bad i) st.val o.op with
 | false=>rw[hk] at e;cases e
 | true=>
  obtain⟨b,u,hb,_,ho⟩:=h.own hk
  rw[ho];exact hb
theorem q6t (h:FreeA ops bad i j o o' s d) (ow:Bool) (st:St) (v:V) (k:Option Blk):apV P N ow (bad i) o s d (st.does o'.dst v k)=apV P N ow (bad i) o s d st:=by
 have hv:∀ y,y∈o.op.operands.toList->(st.does o'.dst v k).val y=st.val y:=q3p _ (fun t ht=>(does_env (h.ri t (by simp[readsOf,ht]))).1)
 have hok:=q5J (bad:=bad i) hv
 have hu:(st.does o'.dst v k).used d=st.used d:=(does_env h.dd).2.2
 unfold apV
 rw[hok]
 cases hk:okOp (bad i) st.val o.op with
 | false=>rfl
 | true=>
  obtain⟨bb,u,hbb,hsv,_⟩:=h.own hk
  have hids:=okOp_ids hk
  obtain⟨args,ts,l,e1,e2⟩:=h.st
  have hmem:∀ y,y∈args.toList->y∈o.op.operands.toList:=by
   intro y hy;rw[e1];simpa[Op.operands,Call.operands] using hy
  have hsm:(.tmp s:Operand)∈o.op.operands.toList:=hmem _ (by rw[e2];simp)
  have hs1:=hv _ hsm
  have hs2:st.val (.tmp s)=some ⟨.own bb,u⟩:=hsv
  have hheap:∀ b,memN b (bad i)=false->(st.does o'.dst v k).heap b=st.heap b:=fun b hb=>(does_env (fun e=>by have:=h.bi b e;rw[hb] at this;cases this)).2.1
  have hheaps:(st.does o'.dst v k).heap bb=st.heap bb:=hheap bb (okIds_mem _ hids _ hsm _ hs2 bb (by simp[ids]))
  rw[hu]
  simp only[e1,e2,hs1,hs2]
  cases l with
  | nil=>rfl
  | cons x l=>cases l with
   | cons y l=>rfl
   | nil=>
    have hxm:=hmem x (by rw[e2];simp)
    cases ts.toList with
    | nil=>rfl
    | cons t tl=>cases tl with
     | nil=>rfl
     | cons t1 tl=>cases tl with
      | cons t2 tl=>rfl
      | nil=>
       simp only[hv x hxm]
       cases hx:st.val x with
       | none=>rfl
       | some vx=>
        simp only
        rw[qa0 (t:=t) (t1:=t1) (u:=u) hheaps fun b hb=>hheap b (okIds_mem _ hids x hxm vx hx b hb)]
theorem q7L (h:FreeA ops bad i j o o' s d) {bb:Nat} (hbb:bb=s∨bb=s+500000) (st:St) (k:Option Blk) (v:V):sdeed P N ad ops bad j (st.ap bb d k v)=sdeed P N ad ops bad j st:=by
 have hne:∀ t,t∈readsOf ops o'->t≠d:=fun t ht e=>h.rj t ht (by rw[h.di,e])
 refine (sdeed_congr h.hj (fun t ht=>?_) (fun b hb=>?_) fun x hx=>?_).symm
 . exact (upd_other _ _ _ _ (hne t ht)).symm
 . have h1:b≠d:=by rintro rfl;rw[h.bj] at hb;cases hb
   have h2:b≠bb:=by
    rintro rfl
    rcases hbb with e | e
    . rw[e,h.sj] at hb;cases hb
    . rw[e,h.sj2] at hb;cases hb
   exact ((upd_other _ _ _ _ h1).trans (upd_other _ _ _ _ h2)).symm
 . exact (upd_other _ _ _ _ (fun e=>h.dd (by rw[hx,e]))).symm
theorem q7M (h:FreeA ops bad i j o o' s d) {st:St} {x:Deed} (hx:sdeed P N ad ops bad j st=some x):∃ c v k,x=.put c o'.dst v k:=by
 have hd:=q3m h.hj hx
 cases x with
 | put c d v k=>simp only[Deed.of] at hd;subst hd;exact⟨_,_,_,rfl⟩
 | call c d=>have:=hd.2;rw[h.cj] at this;cases this
theorem swapA (h:FreeA ops bad i j o o' s d) {K:St->Prop} {st:St} (hw:stepW P N ad ops bad i (stepW P N ad ops bad j K) st):stepW P N ad ops bad j (stepW P N ad ops bad i K) st:=by
 have qj:∀ x,ops.toList[j]?=some x->qOk (bad j) x.op=true:=by intro x hx;rw[h.hj] at hx;cases hx;simp[qOk,h.qj]
 rw[stepW_app h] at hw
 obtain⟨c,v,k,hs,hc,hw⟩:=hw
 have ho:=apV_own h hs
 rw[q09 qj,q7L h ho] at hw
 rw[q09 qj]
 cases hd:sdeed P N ad ops bad j st with
 | none=>rw[hd] at hw;exact hw.elim
 | some x=>
  rw[hd] at hw
  obtain⟨c',v',k',rfl⟩:=q7M h hd
  exact⟨hw.1,(stepW_app h _ _).2 ⟨c,v,k,by rw[q6t h];exact hs,hc,by rw[q7n h,ap_does h ho];exact hw.2⟩⟩
theorem swapA' (h:FreeA ops bad i j o o' s d) {K:St->Prop} {st:St} (hw:stepW P N ad ops bad j (stepW P N ad ops bad i K) st):stepW P N ad ops bad i (stepW P N ad ops bad j K) st:=by
 have qj:∀ x,ops.toList[j]?=some x->qOk (bad j) x.op=true:=by intro x hx;rw[h.hj] at hx;cases hx;simp[qOk,h.qj]
 rw[q09 qj] at hw
 cases hd:sdeed P N ad ops bad j st with
 | none=>rw[hd] at hw;exact hw.elim
 | some x=>
  rw[hd] at hw
  obtain⟨c',v',k',rfl⟩:=q7M h hd
  obtain⟨hc',hw⟩:=hw
  rw[stepW_app h] at hw
  obtain⟨c,v,k,hs,hc,hw⟩:=hw
  rw[q6t h] at hs
  have ho:=apV_own h hs
  refine (stepW_app h _ _).2 ⟨c,v,k,hs,hc,?_⟩
  rw[q09 qj,q7L h ho,hd]
  rw[q7n h] at hw
  exact⟨hc',by rw[<-ap_does h ho];exact hw⟩
end
theorem bif_mono {b:Bool} {A B A' B':Prop} (h1:A->A') (h2:B->B'):(bif b then A else B)->(bif b then A' else B'):=by
 cases b
 . exact h2
 . exact h1
theorem opW_mono {P:Program} {N:Nat} {ow:Bool} {o:Oper} {K K':St->Prop} (h:∀ st,K st->K' st) {st:St}:opW P N ow o K st->opW P N ow o K' st:=by
 obtain⟨dst,op,ty,pos,aft,grd⟩:=o
 unfold opW
 cases dst with
 | none=>
  simp only
  repeat' split
  all_goals first
   | exact id
   | exact h _
 | some d=>
  simp only
  repeat' first
   | exact id
   | exact h _
   | exact fun hw=>⟨hw.1,h _ hw.2⟩
   | exact fun hw=>callV.mono hw fun r hr=>h _ hr
   | exact fun hw=>ownV.mono hw fun r hr=>h _ hr
   | exact fun hw=>ownA.mono hw fun x r hr=>h _ hr
   | refine bif_mono ?_ ?_
   | split
theorem qb2 {P:Program} {N:Nat} {ad:Nat->Bool} {ops:Array Oper} {bad:Nat->List Nat} {i:Nat} {K K':St->Prop} (h:∀ st,K st->K' st) {st:St}:stepW P N ad ops bad i K st->stepW P N ad ops bad i K' st:=by
 unfold stepW
 simp only[regW]
 split
 . exact h _
 . rename_i o _
   cases okOp (bad i) st.val o.op with
   | false=>exact id
   | true=>
    simp only[cond_true]
    have hop:∀ st,opW P N (ad i) o K st->opW P N (ad i) o K' st:=fun st=>opW_mono h
    repeat' split
    all_goals first
     | exact id
     | exact hop _
     | exact h _
     | (rename_i b _;cases b<;>rename_i want _ _ _ _ _ _<;>simp only[brV]<;>cases want<;>first | exact hop _ | exact h _)
end Go.VM
namespace Go.VM
open Go Go.RowKit
def q1m (o:Oper):List Nat:=(o.after.toList.filter fun e=>Region.binds .any e).map (·.on)
def edges (ops:Array Oper) (i:Nat):List Nat:=
 match ops.toList[i]? with
 | some o=>q1m o
 | none=>[]
def rowsOf:List (List Nat)->List Nat->List Nat
 | [],acc=>acc
 | es :: r,acc=>rowsOf r (acc ++ [es.foldl (fun s e=>s ||| (2 ^ e ||| acc.getD e 0)) 0])
def rowsA (ops:Array Oper):List Nat:=rowsOf (ops.toList.map q1m) []
def rowBit (rows:List Nat) (i j:Nat):Bool:=(rows.getD i 0).testBit j
theorem fold_bit (f:Nat->Nat) (j:Nat):∀ (es:List Nat) (s:Nat),(es.foldl (fun s e=>s ||| (2 ^ e ||| f e)) s).testBit j=true->s.testBit j=true∨∃ e,e∈es/\(j=e∨(f e).testBit j=true)
 | [],s,h=>.inl h
 | e :: es,s,h=>by
  simp only[List.foldl_cons] at h
  rcases fold_bit f j es _ h with h | ⟨e',h1,h2⟩
  . simp only[Nat.testBit_or,Bool.or_eq_true] at h
    rcases h with h | h | h
    . exact .inl h
    . rw[Nat.testBit_two_pow] at h
      exact .inr ⟨e,by simp,.inl (by simpa using (of_decide_eq_true h).symm)⟩
    . exact .inr ⟨e,by simp,.inr h⟩
  . exact .inr ⟨e',by simp[h1],h2⟩
theorem q5U:∀ (es:List (List Nat)) (acc:List Nat) (i:Nat),i<acc.length->(rowsOf es acc).getD i 0=acc.getD i 0
 | [],acc,i,_=>rfl
 | e :: es,acc,i,h=>by
  simp only[rowsOf]
  rw[q5U es _ i (by simp;omega)]
  simp[List.getD,List.getElem?_append_left h]
theorem q7B:∀ (es:List (List Nat)) (acc:List Nat) (i j:Nat),(∀ k,k<es.length->∀ e,e∈es.getD k []->e<acc.length+k)->i<es.length->((rowsOf es acc).getD (acc.length+i) 0).testBit j=true->
 ∃ e,e∈es.getD i []/\(j=e∨((rowsOf es acc).getD e 0).testBit j=true)
 | [],_,i,_,_,hi,_=>by simp at hi
 | e0 :: es,acc,0,j,hlt,_,h=>by
  simp only[rowsOf] at h ⊢
  rw[q5U _ _ _ (by simp)] at h
  have hg:(acc ++ [e0.foldl (fun s e=>s ||| (2 ^ e ||| acc.getD e 0)) 0]).getD (acc.length+0) 0=e0.foldl (fun s e=>s ||| (2 ^ e ||| acc.getD e 0)) 0:=by
   simp[List.getD]
  rw[hg] at h
  rcases fold_bit (fun e=>acc.getD e 0) j e0 0 h with h | ⟨e,h1,h2⟩
  . simp at h
  . have he:=hlt 0 (by simp) e (by simpa using h1)
    refine⟨e,by simpa using h1,h2.imp id fun h2=>?_⟩
    rw[q5U _ _ _ (by simp;omega)]
    simpa[List.getD,List.getElem?_append_left (show e<acc.length by omega)] using h2
 | e0 :: es,acc,i+1,j,hlt,hi,h=>by
  simp only[rowsOf] at h ⊢
  have:=q7B es (acc ++ [e0.foldl (fun s e=>s ||| (2 ^ e ||| acc.getD e 0)) 0]) i j
   (fun k hk e he=>by have:=hlt (k+1) (by simp;omega) e (by simpa using he);simp;omega) (by simpa using hi) (by simpa[Nat.add_assoc,Nat.add_comm 1 i] using h)
  simpa using this
def VF (E:Nat->List Nat):List Nat->List Nat->Prop
 | _,[]=>True
 | C,x :: l=>(∀ e,e∈E x->e∈C)/\VF E (x :: C) l
theorem VF_mono {E:Nat->List Nat}:∀ (l C C':List Nat),(∀ e,e∈C->e∈C')->VF E C l->VF E C' l
 | [],_,_,_,_=>trivial
 | x :: l,C,C',h,hv=>⟨fun e he=>h e (hv.1 e he),VF_mono l _ _ (fun e he=>by
  rcases List.mem_cons.1 he with rfl | he
  . simp
  . exact List.mem_cons_of_mem _ (h e he)) hv.2⟩
theorem VF_move {E:Nat->List Nat} {x:Nat} {B:List Nat}:∀ (A C:List Nat),(∀ e,e∈E x->e∈C)->VF E C (A ++ x :: B)->VF E (x :: C) (A ++ B)
 | [],_,_,hv=>hv.2
 | a :: A,C,hx,hv=>by
  refine⟨fun e he=>List.mem_cons_of_mem _ (hv.1 e he),?_⟩
  have:=VF_move A (a :: C) (fun e he=>List.mem_cons_of_mem _ (hx e he)) hv.2
  exact VF_mono _ _ _ (fun e he=>by simp at he ⊢;rcases he with h | h | h<;>simp[h]) this
theorem VF_at {E:Nat->List Nat} {i:Nat} {B:List Nat}:∀ (A C:List Nat),VF E C (A ++ i :: B)->∀ e,e∈E i->e∈C∨e∈A
 | [],C,hv,e,he=>.inl (hv.1 e he)
 | a :: A,C,hv,e,he=>by
  rcases VF_at A (a :: C) hv.2 e he with h | h
  . rcases List.mem_cons.1 h with rfl | h
    . exact .inr (by simp)
    . exact .inl h
  . exact .inr (by simp[h])
section
variable {ops:Array Oper}
def q1l (ops:Array Oper):Bool:=(List.range ops.size).all fun i=>(edges ops i).all fun e=>Nat.blt e i
theorem row_step (hd:q1l ops=true) {i j:Nat} (h:rowBit (rowsA ops) i j=true):∃ e,e∈edges ops i/\e<i/\(j=e∨rowBit (rowsA ops) e j=true):=by
 have hlt:∀ k,k<(ops.toList.map q1m).length->∀ e,e∈(ops.toList.map q1m).getD k []->e<k:=by
  intro k hk e he
  simp only[List.length_map,Array.length_toList] at hk
  have h1:=List.all_eq_true.1 hd k (by simpa using hk)
  have h2:=List.all_eq_true.1 h1 e (by
   unfold edges
   simp only[List.getD,List.getElem?_map] at he
   cases ho:ops.toList[k]? with
   | none=>rw[ho] at he;simp at he
   | some o=>rw[ho] at he;simpa using he)
  exact Nat.le_of_ble_eq_true h2
 rcases Nat.lt_or_ge i (ops.toList.map q1m).length with hi | hi
 . have:=q7B (ops.toList.map q1m) [] i j (fun k hk e he=>by have:=hlt k hk e he;simpa using this) hi (by simpa[rowBit,rowsA] using h)
   obtain⟨e,he,hj⟩:=this
   have he':=hlt i hi e he
   refine⟨e,?_,he',hj⟩
   unfold edges
   simp only[List.getD,List.getElem?_map] at he
   cases ho:ops.toList[i]? with
   | none=>rw[ho] at he;simp at he
   | some o=>rw[ho] at he;simpa using he
 . exfalso
   have hlen:∀ (es:List (List Nat)) (acc:List Nat),(rowsOf es acc).length=acc.length+es.length:=by
    intro es
    induction es with
    | nil=>intro acc;rfl
    | cons e es ih=>intro acc;simp only[rowsOf,ih];simp;omega
   have:(rowsA ops).getD i 0=0:=by
    rw[List.getD,List.getElem?_eq_none (by rw[rowsA,hlen];simpa using hi)];rfl
   unfold rowBit at h;rw[this] at h;simp at h
theorem prec (hd:q1l ops=true) {C l:List Nat} (hC:∀ e,e∈C->∀ j,rowBit (rowsA ops) e j=true->j∈C) (hv:VF (edges ops) C l):
 ∀ (i:Nat) (A B:List Nat),l=A ++ i :: B->∀ j,rowBit (rowsA ops) i j=true->j∈C∨j∈A:=by
 intro i
 induction i using Nat.strongRecOn with
 | _ i ih=>
  intro A B hl j hj
  obtain⟨e,he,hlt,hje⟩:=row_step hd hj
  rcases VF_at A C (hl ▸ hv) e he with h | h
  . left
    rcases hje with rfl | hje
    . exact h
    . exact hC e h j hje
  . rcases hje with rfl | hje
    . exact .inr h
    . obtain⟨A1,A2,rfl⟩:=List.append_of_mem h
      rcases ih e hlt A1 (A2 ++ i :: B) (by simp[hl]) j hje with h | h
      . exact .inl h
      . exact .inr (by simp[h])
def baseOf (o:Oper):Option Nat:=
 match o.op with
 | .call ⟨.builtin .append,args,_⟩=>match args.toList with
  | .tmp s :: _=>some s
  | _=>none
 | _=>none
def isMv:Op->Bool
 | .move (.tmp _)=>true
 | _=>false
def isBld:Op->Bool
 | .buildSlice _ _ _=>true
 | _=>false
def moreApp (ops:Array Oper) (o:Oper):Bool:=ops.toList.any fun q=>match baseOf q,o.dst with
 | some b,some d=>Nat.beq b d
 | _,_=>false
def ownArg (ops:Array Oper) (o:Oper):Option Nat:=
 match o.op with
 | .call ⟨.builtin .append,args,_⟩=>match args.toList with
  | .tmp s :: _=>bif ops.toList.any (fun p=>(match p.dst with
   | some d=>Nat.beq d s
   | none=>false) && (isCall p.op || isApp p.op || isMv p.op || (isBld p.op && moreApp ops o))) then some s else none
  | _=>none
 | _=>none
def q3g (ops:Array Oper) (o:Oper):Bool:=quiet o.op || (isApp o.op && (ownArg ops o).isNone)
def appQ (ops:Array Oper) (o o':Oper):Bool:=
 (match o'.dst with
  | some d=>Nat.blt d 500000
  | none=>true) && (ownArg ops o).isSome && o.guard.isNone && quiet o'.op && !isCall o'.op && (match o'.dst with
  | some d=>!memN d (readsOf ops o)
  | none=>true) && (match o.dst with
  | some d=>!memN d (readsOf ops o') && (match o'.dst with
   | some d'=>!Nat.beq d' d
   | none=>true)
  | none=>false)
def freeOk (ops:Array Oper) (o o':Oper):Bool:=
 q3g ops o && q3g ops o' && !(isCall o.op && isCall o'.op) && (match o'.dst with
  | some d=>!memN d (readsOf ops o)
  | none=>true) && (match o.dst with
  | some d=>!memN d (readsOf ops o')
  | none=>true) && (match o.dst,o'.dst with
  | some d,some d'=>!Nat.beq d d'
  | _,_=>true)
def isSt (o:Oper):Bool:=
 match o.op,o.guard,o.dst with
 | .store _ (.tmp _) _,none,none=>true
 | _,_,_=>false
def storesOk (o o':Oper):Bool:=isSt o && isSt o' && (match o.op,o'.op with
 | .store _ (.tmp t) _,.store _ (.tmp t') _=>!Nat.beq t t'
 | _,_=>false)
def q3z (o:Oper):Option Nat:=
 match o.op with
 | .store _ (.tmp s) _=>some s
 | _=>none
def storeQ (ops:Array Oper) (o o':Oper):Bool:=isSt o && q3g ops o' && (match o'.dst with
 | some d=>!memN d (readsOf ops o)
 | none=>true)
def pairOk (ops:Array Oper) (rows:List Nat) (i j:Nat):Bool:=
 Nat.beq i j || rowBit rows i j || rowBit rows j i || (match ops.toList[i]?,ops.toList[j]? with
  | some o,some o'=>freeOk ops o o' || storesOk o o' || storeQ ops o o' || storeQ ops o' o || appQ ops o o' || appQ ops o' o
  | _,_=>false)
def q5n (ops:Array Oper) (rows:List Nat):Bool:=q1l ops && (List.range ops.size).all fun i=>(List.range ops.size).all fun j=>Nat.ble j i || pairOk ops rows i j
def drawOk (ops:Array Oper):Bool:=q5n ops (rowsA ops)
def q42 (ops:Array Oper) (i:Nat):Bool:=
 match ops.toList[i]? with
 | some o=>isSt o
 | none=>false
def q5E (ops:Array Oper) (i:Nat):Bool:=
 match ops.toList[i]? with
 | some o=>noMem o.op
 | none=>false
def lonely (ops:Array Oper) (rows:List Nat) (i:Nat):Bool:=
 q42 ops i && (List.range ops.size).any fun j=>!Nat.beq i j && !rowBit rows i j && !rowBit rows j i && !q5E ops j
def isAppAt (ops:Array Oper) (i:Nat):Bool:=
 match ops.toList[i]? with
 | some o=>isApp o.op && (ownArg ops o).isNone
 | none=>false
def ownArgAt (ops:Array Oper) (i:Nat):Option Nat:=
 match ops.toList[i]? with
 | some o=>ownArg ops o
 | none=>none
def q5C (ops:Array Oper) (rows:List Nat) (i:Nat):Bool:=
 (ownArgAt ops i).isSome && (List.range ops.size).any fun j=>!Nat.beq i j && !rowBit rows i j && !rowBit rows j i
def q5B (ops:Array Oper) (rows:List Nat) (i:Nat):Bool:=
 isAppAt ops i && (List.range ops.size).any fun j=>!Nat.beq i j && !rowBit rows i j && !rowBit rows j i
def badW (ops:Array Oper) (rows:List Nat) (i:Nat):List Nat:=
 ((List.range ops.size).filterMap fun j=>bif rowBit rows i j then none else dstOf ops j) ++ ((bif lonely ops rows i then [4294967295] else []) ++ ((bif q5B ops rows i then [4294967296] else []) ++ (bif q5C ops rows i then [4294967297] else []))) ++
  (((List.range ops.size).filterMap fun j=>bif q42 ops j && !Nat.beq i j && !rowBit rows i j && !rowBit rows j i then (match ops.toList[j]? with
    | some o=>q3z o
    | none=>none) else none) ++
  (((List.range ops.size).filterMap fun j=>bif !Nat.beq i j && !rowBit rows i j && !rowBit rows j i then ownArgAt ops j else none) ++
  (List.range ops.size).filterMap fun j=>bif !Nat.beq i j && !rowBit rows i j && !rowBit rows j i then (ownArgAt ops j).map (· + 500000) else none))
def badOf (ops:Array Oper) (i:Nat):List Nat:=badW ops (rowsA ops) i
theorem memN_ok {n:Nat}:∀ {l:List Nat},memN n l=true↔n∈l
 | []=>by simp[memN]
 | m :: l=>by simp[memN,memN_ok (l:=l),Nat.beq_eq]
theorem freeOk_symm {o o':Oper} (h:freeOk ops o o'=true):freeOk ops o' o=true:=by
 unfold freeOk at *
 simp only[Bool.and_eq_true,Bool.not_eq_true',Bool.and_eq_false_iff] at *
 obtain⟨⟨⟨⟨⟨h1,h2⟩,h3⟩,h4⟩,h5⟩,h6⟩:=h
 refine⟨⟨⟨⟨⟨h2,h1⟩,h3.symm⟩,h5⟩,h4⟩,?_⟩
 cases e1:o.dst<;>cases e2:o'.dst<;>simp_all
 rename_i a b
 cases e:Nat.beq b a
 . rfl
 . rw[Nat.beq_eq] at e;subst e;simp at h6
theorem q3D {i j d:Nat} (hj:j<ops.size) (hr:rowBit (rowsA ops) i j=false) (hd:dstOf ops j=some d):memN d (badOf ops i)=true:=by
 rw[memN_ok]
 simp only[badOf,badW,List.mem_append,List.mem_filterMap,List.mem_range]
 exact .inl (.inl ⟨j,hj,by rw[hr];exact hd⟩)
theorem bad_st {i j:Nat} {o o':Oper} (hi:ops.toList[i]?=some o) (hj:ops.toList[j]?=some o') (hij:i≠j) (h1:rowBit (rowsA ops) i j=false) (h2:rowBit (rowsA ops) j i=false) (ho:isSt o=true) (hm:noMem o'.op=false):
 memN 4294967295 (badOf ops i)=true:=by
 rw[memN_ok]
 simp only[badOf,badW,List.mem_append]
 left;right;left
 have hl:lonely ops (rowsA ops) i=true:=by
  simp only[lonely,q42,hi,ho,Bool.true_and,List.any_eq_true,List.mem_range]
  refine⟨j,?_,?_⟩
  . rcases Nat.lt_or_ge j ops.toList.length with h | h
    . simpa using h
    . rw[List.getElem?_eq_none h] at hj;simp at hj
  . have hb:Nat.beq i j=false:=by cases e:Nat.beq i j;rfl;rw[Nat.beq_eq] at e;exact absurd e hij
    have hn:q5E ops j=false:=by simp[q5E,hj,hm]
    simp[hb,h1,h2,hn]
 rw[hl];simp
theorem q4y {i j:Nat} {o:Oper} (hi:ops.toList[i]?=some o) (hj:j<ops.size) (hij:i≠j) (h1:rowBit (rowsA ops) i j=false) (h2:rowBit (rowsA ops) j i=false) (ho:q3g ops o=true):
 qOk (badOf ops i) o.op=true:=by
 simp only[q3g,Bool.or_eq_true,Bool.and_eq_true] at ho
 simp only[qOk,Bool.or_eq_true,Bool.and_eq_true]
 rcases ho with ho | ho
 . exact .inl ho
 refine .inr ⟨ho.1,?_⟩
 rw[memN_ok]
 simp only[badOf,badW,List.mem_append]
 left;right;right;left
 have hl:q5B ops (rowsA ops) i=true:=by
  simp only[q5B,isAppAt,hi,ho.1,ho.2,Bool.true_and,List.any_eq_true,List.mem_range]
  refine⟨j,hj,?_⟩
  have hb:Nat.beq i j=false:=by cases e:Nat.beq i j;rfl;rw[Nat.beq_eq] at e;exact absurd e hij
  simp[hb,h1,h2]
 rw[hl];simp
theorem bad_addr {i j:Nat} {o o':Oper} {s:Nat} (hi:ops.toList[i]?=some o) (hj:ops.toList[j]?=some o') (hij:i≠j) (h1:rowBit (rowsA ops) i j=false) (h2:rowBit (rowsA ops) j i=false) (ho:isSt o=true) (hs:q3z o=some s):
 memN s (badOf ops j)=true:=by
 rw[memN_ok]
 simp only[badOf,badW,List.mem_append,List.mem_filterMap,List.mem_range]
 right;left
 refine⟨i,?_,?_⟩
 . rcases Nat.lt_or_ge i ops.toList.length with h | h
   . simpa using h
   . rw[List.getElem?_eq_none h] at hi;simp at hi
 . have hb:Nat.beq j i=false:=by cases e:Nat.beq j i;rfl;rw[Nat.beq_eq] at e;exact absurd e.symm hij
   simp only[q42,hi,ho,hb,h1,h2,Bool.not_false,Bool.and_true,cond_true]
   exact hs
theorem bad_own {i j s:Nat} {o:Oper} (hi:ops.toList[i]?=some o) (hj:j<ops.size) (hij:i≠j) (h1:rowBit (rowsA ops) i j=false) (h2:rowBit (rowsA ops) j i=false) (ho:ownArg ops o=some s):
 memN 4294967297 (badOf ops i)=true/\memN s (badOf ops j)=true/\memN (s+500000) (badOf ops j)=true:=by
 have hi':i<ops.size:=by
  rcases Nat.lt_or_ge i ops.toList.length with h | h
  . simpa using h
  . rw[List.getElem?_eq_none h] at hi;simp at hi
 have hb:Nat.beq i j=false:=by cases e:Nat.beq i j;rfl;rw[Nat.beq_eq] at e;exact absurd e hij
 have hb2:Nat.beq j i=false:=by cases e:Nat.beq j i;rfl;rw[Nat.beq_eq] at e;exact absurd e.symm hij
 constructor
 . rw[memN_ok]
   simp only[badOf,badW,List.mem_append]
   left;right;right;right
   have hl:q5C ops (rowsA ops) i=true:=by
    simp only[q5C,ownArgAt,hi,ho,Option.isSome_some,Bool.true_and,List.any_eq_true,List.mem_range]
    exact⟨j,hj,by simp[hb,h1,h2]⟩
   rw[hl];simp
 refine⟨?_,?_⟩
 . rw[memN_ok]
   simp only[badOf,badW,List.mem_append,List.mem_filterMap,List.mem_range]
   right;right;left
   exact⟨i,hi',by simp[hb2,h1,h2,ownArgAt,hi,ho]⟩
 . rw[memN_ok]
   simp only[badOf,badW,List.mem_append,List.mem_filterMap,List.mem_range]
   right;right;right
   exact⟨i,hi',by simp[hb2,h1,h2,ownArgAt,hi,ho]⟩
theorem storesOk_symm {o o':Oper} (h:storesOk o o'=true):storesOk o' o=true:=by
 unfold storesOk at *
 simp only[Bool.and_eq_true] at *
 refine⟨⟨h.1.2,h.1.1⟩,?_⟩
 have h3:=h.2
 split at h3<;>try (simp at h3;done)
 rename_i t _ _ t' _ e1 e2
 rw[e1,e2]
 simp only[Bool.not_eq_true'] at h3 ⊢
 cases e:Nat.beq t' t with
 | false=>rfl
 | true=>rw[Nat.beq_eq] at e;subst e;simp at h3
def Swp (ops:Array Oper) (bad:Nat->List Nat) (i j:Nat):Prop:=(∃ o o',Free ops bad i j o o')∨(∃ o o',FreeS ops bad i j o o')∨(∃ o o' s,FreeQ ops bad i j o o' s)∨(∃ o o' s,FreeQ ops bad j i o o' s)∨(∃ o o',FreeN ops i j o o')∨(∃ o o',FreeN ops j i o o')∨(∃ o o' s d,FreeA ops bad i j o o' s d)∨∃ o o' s d,FreeA ops bad j i o o' s d
theorem swap2 {P:Program} {N:Nat} {ad:Nat->Bool} {bad:Nat->List Nat} {i j:Nat} (h:Swp ops bad i j) {K:St->Prop} {st:St} (hw:stepW P N ad ops bad i (stepW P N ad ops bad j K) st):stepW P N ad ops bad j (stepW P N ad ops bad i K) st:=by
 rcases h with ⟨o,o',h⟩ | ⟨o,o',h⟩ | ⟨o,o',s,h⟩ | ⟨o,o',s,h⟩ | ⟨o,o',h⟩ | ⟨o,o',h⟩ | ⟨o,o',s,d,h⟩ | ⟨o,o',s,d,h⟩
 . exact swap h hw
 . exact swapS h hw
 . exact swapQ h hw
 . exact swapQ' h hw
 . exact swapN h hw
 . exact swapN' h hw
 . exact swapA h hw
 . exact swapA' h hw
theorem q6Y {i j:Nat} {o o':Oper} (hi:ops.toList[i]?=some o) (hj:ops.toList[j]?=some o') (hij:i≠j) (h1:rowBit (rowsA ops) i j=false) (h2:rowBit (rowsA ops) j i=false) (h:appQ ops o o'=true):
 ∃ s d,FreeA ops (badOf ops) i j o o' s d:=by
 unfold appQ at h
 simp only[Bool.and_eq_true,Bool.not_eq_true'] at h
 obtain⟨⟨⟨⟨⟨⟨a0,a1⟩,a2⟩,a3⟩,a4⟩,a5⟩,a6⟩:=h
 have hil:i<ops.size:=by
  rcases Nat.lt_or_ge i ops.toList.length with h | h
  . simpa using h
  . rw[List.getElem?_eq_none h] at hi;simp at hi
 have hjl:j<ops.size:=by
  rcases Nat.lt_or_ge j ops.toList.length with h | h
  . simpa using h
  . rw[List.getElem?_eq_none h] at hj;simp at hj
 cases hs:ownArg ops o with
 | none=>rw[hs] at a1;cases a1
 | some s=>
  cases hd:o.dst with
  | none=>rw[hd] at a6;cases a6
  | some d=>
   rw[hd] at a6
   simp only[Bool.and_eq_true,Bool.not_eq_true'] at a6
   obtain⟨b1,b2,b3⟩:=bad_own hi hjl hij h1 h2 hs
   have hst:∃ args ts l,o.op=.call ⟨.builtin .append,args,ts⟩/\args.toList=.tmp s :: l:=by
    unfold ownArg at hs
    split at hs<;>try (cases hs;done)
    rename_i args ts e
    split at hs<;>try (cases hs;done)
    rename_i s' l e2
    obtain⟨_,rfl⟩:=bif_some hs
    exact⟨_,_,_,e,e2⟩
   refine⟨s,d,hi,hj,by simpa using a2,hd,hst,b1,a3,a4,?_,?_,?_,?_,?_,b2,b3,fun e=>?_⟩
   . intro t ht e
     rw[e] at a5
     have:=(memN_ok (n:=t)).2 ht
     simp[this] at a5
   . intro t ht e
     rw[hd] at e;cases e
     have:=(memN_ok (n:=d)).2 ht
     rw[this] at a6;cases a6.1
   . intro e
     rw[e] at a6
     simp at a6
   . intro x hx
     exact q3D hjl h1 (by simp[dstOf,hj,hx])
   . exact q3D hil h2 (by simp[dstOf,hi,hd])
   . rw[e] at a0
     have a0:=Nat.le_of_ble_eq_true a0
     omega
theorem q70 {i j:Nat} {o o':Oper} (hi:ops.toList[i]?=some o) (hj:ops.toList[j]?=some o') (hij:i≠j) (h1:rowBit (rowsA ops) i j=false) (h2:rowBit (rowsA ops) j i=false) (h:storeQ ops o o'=true) (hm:noMem o'.op=false):
 ∃ s,FreeQ ops (badOf ops) i j o o' s:=by
 unfold storeQ at h
 simp only[Bool.and_eq_true] at h
 obtain⟨⟨s1,s2⟩,s3⟩:=h
 have b1:=bad_st hi hj hij h1 h2 s1 hm
 have s1':=s1
 unfold isSt at s1'
 split at s1'<;>try (simp at s1';done)
 rename_i a s v e g d
 have ha:q3z o=some s:=by simp[q3z,e]
 have hil:i<ops.size:=by
  rcases Nat.lt_or_ge i ops.toList.length with h | h
  . simpa using h
  . rw[List.getElem?_eq_none h] at hi;simp at hi
 refine⟨s,hi,hj,g,d,⟨a,v,e⟩,q4y hj hil (fun e=>hij e.symm) h2 h1 s2,?_,b1,bad_addr hi hj hij h1 h2 s1 ha⟩
 intro t ht hd
 rw[hd] at s3
 have:=(memN_ok (n:=t)).2 ht
 simp[this] at s3
theorem q6Z {i j:Nat} {o o':Oper} (hi:ops.toList[i]?=some o) (hj:ops.toList[j]?=some o') (h:storeQ ops o o'=true) (hm:noMem o'.op=true):FreeN ops i j o o':=by
 unfold storeQ at h
 simp only[Bool.and_eq_true] at h
 obtain⟨⟨s1,s2⟩,s3⟩:=h
 unfold isSt at s1
 split at s1<;>try (simp at s1;done)
 rename_i a s v e g d
 refine⟨hi,hj,g,d,⟨a,s,v,e⟩,hm,?_⟩
 intro t ht hd
 rw[hd] at s3
 have:=(memN_ok (n:=t)).2 ht
 simp[this] at s3
theorem store_noMem {o:Oper} (h:isSt o=true):noMem o.op=false:=by
 unfold isSt at h
 split at h<;>try (simp at h;done)
 rename_i e _ _
 rw[e];rfl
theorem free_of (h:drawOk ops=true) {i j:Nat} (hi:i<ops.size) (hj:j<ops.size) (hij:i≠j) (h1:rowBit (rowsA ops) i j=false) (h2:rowBit (rowsA ops) j i=false):
 Swp ops (badOf ops) i j:=by
 simp only[drawOk,q5n,Bool.and_eq_true,List.all_eq_true,List.mem_range] at h
 obtain⟨_,h⟩:=h
 have hp:∃ o o',ops.toList[i]?=some o/\ops.toList[j]?=some o'/\(freeOk ops o o'=true∨storesOk o o'=true∨storeQ ops o o'=true∨storeQ ops o' o=true∨appQ ops o o'=true∨appQ ops o' o=true):=by
  rcases Nat.lt_or_gt_of_ne hij with hlt | hgt
  . have:=h i hi j hj
    have hb:Nat.ble j i=false:=by cases e:Nat.ble j i;rfl;have:=Nat.le_of_ble_eq_true e;omega
    have hb2:Nat.beq i j=false:=by cases e:Nat.beq i j;rfl;rw[Nat.beq_eq] at e;exact absurd e hij
    simp only[hb,Bool.false_or,pairOk,hb2,h1,h2] at this
    split at this
    . rename_i o o' e1 e2;exact⟨o,o',e1,e2,by simpa[or_assoc] using this⟩
    . simp at this
  . have:=h j hj i hi
    have hb:Nat.ble i j=false:=by cases e:Nat.ble i j;rfl;have:=Nat.le_of_ble_eq_true e;omega
    have hb2:Nat.beq j i=false:=by cases e:Nat.beq j i;rfl;rw[Nat.beq_eq] at e;exact absurd e.symm hij
    simp only[hb,Bool.false_or,pairOk,hb2,h1,h2] at this
    split at this
    . rename_i o o' e1 e2;exact⟨o',o,e2,e1,by rcases (by simpa[or_assoc] using this:freeOk ops o o'=true∨storesOk o o'=true∨storeQ ops o o'=true∨storeQ ops o' o=true∨appQ ops o o'=true∨appQ ops o' o=true) with q | q | q | q | q | q;exact .inl (freeOk_symm q);exact .inr (.inl (storesOk_symm q));exact .inr (.inr (.inr (.inl q)));exact .inr (.inr (.inl q));exact .inr (.inr (.inr (.inr (.inr q))));exact .inr (.inr (.inr (.inr (.inl q))))⟩
    . simp at this
 obtain⟨o,o',e1,e2,hf | hs | hs | hs | hs | hs⟩:=hp
 case inr.inr.inr.inr.inl=>
  obtain⟨s,d,hs⟩:=q6Y e1 e2 hij h1 h2 hs
  exact .inr (.inr (.inr (.inr (.inr (.inr (.inl ⟨o,o',s,d,hs⟩))))))
 case inr.inr.inr.inr.inr=>
  obtain⟨s,d,hs⟩:=q6Y e2 e1 (fun e=>hij e.symm) h2 h1 hs
  exact .inr (.inr (.inr (.inr (.inr (.inr (.inr ⟨o',o,s,d,hs⟩))))))
 case inr.inr.inl=>
  cases hm:noMem o'.op with
  | true=>exact .inr (.inr (.inr (.inr (.inl ⟨o,o',q6Z e1 e2 hs hm⟩))))
  | false=>
  obtain⟨s,hs⟩:=q70 e1 e2 hij h1 h2 hs hm
  exact .inr (.inr (.inl ⟨o,o',s,hs⟩))
 case inr.inr.inr.inl=>
  cases hm:noMem o.op with
  | true=>exact .inr (.inr (.inr (.inr (.inr (.inl ⟨o',o,q6Z e2 e1 hs hm⟩)))))
  | false=>
  obtain⟨s,hs⟩:=q70 e2 e1 (fun e=>hij e.symm) h2 h1 hs hm
  exact .inr (.inr (.inr (.inl ⟨o',o,s,hs⟩)))
 case inr.inl=>
  right;left
  unfold storesOk at hs
  simp only[Bool.and_eq_true] at hs
  obtain⟨⟨s1,s2⟩,s3⟩:=hs
  have b1:=bad_st e1 e2 hij h1 h2 s1 (store_noMem s2)
  have b2:=bad_st e2 e1 (fun e=>hij e.symm) h2 h1 s2 (store_noMem s1)
  split at s3<;>try (simp at s3;done)
  rename_i a t v a' t' v' p1 p2
  unfold isSt at s1 s2
  split at s1<;>try (simp at s1;done)
  rename_i _ _ _ g1 g2 g3
  split at s2<;>try (simp at s2;done)
  rename_i _ _ _ k1 k2 k3
  refine⟨o,o',e1,e2,g2,k2,g3,k3,⟨a,t,v,a',t',v',p1,p2,?_⟩,b1,b2⟩
  rintro rfl
  simp at s3
 left
 unfold freeOk at hf
 simp only[Bool.and_eq_true,Bool.not_eq_true',Bool.and_eq_false_iff] at hf
 obtain⟨⟨⟨⟨⟨f1,f2⟩,f3⟩,f4⟩,f5⟩,f6⟩:=hf
 refine⟨o,o',e1,e2,q4y e1 hj hij h1 h2 f1,q4y e2 hi (fun e=>hij e.symm) h2 h1 f2,?_,?_,?_,?_,?_,?_⟩
 . rintro⟨q1,q2⟩;rcases f3 with f | f<;>simp_all
 . intro t ht e
   rw[e] at f4
   have:=(memN_ok (n:=t)).2 ht
   simp[this] at f4
 . intro t ht e
   rw[e] at f5
   have:=(memN_ok (n:=t)).2 ht
   simp[this] at f5
 . intro x a b
   rw[a,b] at f6
   simp at f6
 . intro d hd
   exact q3D hj h1 (by simp[dstOf,e2,hd])
 . intro d hd
   exact q3D hi h2 (by simp[dstOf,e1,hd])
def foldS (step:Nat->(St->Prop)->St->Prop):List Nat->(St->Prop)->St->Prop
 | [],K=>K
 | i :: r,K=>step i (foldS step r K)
def Swap (step:Nat->(St->Prop)->St->Prop) (i j:Nat):Prop:=∀ K st,step i (step j K) st->step j (step i K) st
theorem q6W {step:Nat->(St->Prop)->St->Prop} (mono:∀ i (K K':St->Prop) st,(∀ st,K st->K' st)->step i K st->step i K' st) {x:Nat} {B:List Nat} {K:St->Prop}:∀ (A:List Nat) (st:St),(∀ y,y∈A->Swap step y x)->foldS step (A ++ x :: B) K st->foldS step (x :: (A ++ B)) K st
 | [],st,_,h=>h
 | a :: A,st,hf,h=>by
  have h2:step a (foldS step (x :: (A ++ B)) K) st:=mono _ _ _ _ (fun st hs=>q6W mono A st (fun y hy=>hf y (by simp[hy])) hs) h
  exact hf a (by simp) _ _ h2
theorem reorderG (hd:q1l ops=true) {step:Nat->(St->Prop)->St->Prop} (mono:∀ i (K K':St->Prop) st,(∀ st,K st->K' st)->step i K st->step i K' st)
 (hsw:∀ i j,i<ops.size->j<ops.size->i≠j->rowBit (rowsA ops) i j=false->rowBit (rowsA ops) j i=false->Swap step i j) {K:St->Prop}:∀ (l2 l1 C:List Nat),(∀ e,e∈C->∀ j,rowBit (rowsA ops) e j=true->j∈C)->VF (edges ops) C l1->VF (edges ops) C l2->
 (C ++ l1).Nodup->(∀ x,x∈l1↔x∈l2)->l2.Nodup->(∀ x,x∈l1->x<ops.size)->∀ st,foldS step l1 K st->foldS step l2 K st:=by
 intro l2
 induction l2 with
 | nil=>
  intro l1 C _ _ _ _ hm _ _ st hw
  cases l1 with
  | nil=>exact hw
  | cons y l=>have:=(hm y).1 (by simp);simp at this
 | cons x l2 ih=>
  intro l1 C hC hv1 hv2 hn hm hn2 hlt st hw
  obtain⟨A,B,rfl⟩:=List.append_of_mem ((hm x).2 (by simp))
  have hxC:x∉C:=by
   intro hx
   rw[List.nodup_append] at hn
   exact hn.2.2 x hx x (by simp) rfl
  have hfree:∀ y,y∈A->Swap step y x:=by
   intro y hy
   have hyl:y∈A ++ x :: B:=by simp[hy]
   have hyC:y∉C:=by
    intro hx
    rw[List.nodup_append] at hn
    exact hn.2.2 y hx y hyl rfl
   have hne:y≠x:=by
    rintro rfl
    rw[List.nodup_append] at hn
    have:=hn.2.1
    rw[List.nodup_append] at this
    exact this.2.2 y hy y (by simp) rfl
   refine hsw y x (hlt y hyl) (hlt x (by simp)) hne ?_ ?_
   . cases e:rowBit (rowsA ops) y x with
     | false=>rfl
     | true=>
      exfalso
      obtain⟨A1,A2,rfl⟩:=List.append_of_mem hy
      rcases prec hd hC hv1 y A1 (A2 ++ x :: B) (by simp) x e with q | q
      . exact hxC q
      . rw[List.nodup_append] at hn
        have:=hn.2.1
        rw[List.nodup_append] at this
        exact this.2.2 x (by simp[q]) x (by simp) rfl
   . cases e:rowBit (rowsA ops) x y with
     | false=>rfl
     | true=>
      exfalso
      rcases prec hd hC hv2 x [] l2 rfl y e with q | q
      . exact hyC q
      . simp at q
  have h1:=q6W mono A st hfree hw
  refine mono _ _ _ _ (fun st hs=>ih (A ++ B) (x :: C) ?_ (VF_move A C hv2.1 hv1) hv2.2 ?_ ?_ ?_ ?_ st hs) h1
  . intro e he j hj
    rcases List.mem_cons.1 he with rfl | he
    . rcases prec hd hC hv2 e [] l2 rfl j hj with q | q
      . simp[q]
      . simp at q
    . simp[hC e he j hj]
  . have:(C ++ (A ++ x :: B)).Perm (x :: C ++ (A ++ B)):=by
     refine (List.Perm.append_left C (List.perm_middle (a:=x) (l₁:=A) (l₂:=B))).trans ?_
     exact List.perm_middle
    exact this.nodup_iff.1 hn
  . intro z
    have hnA:(A ++ x :: B).Nodup:=by rw[List.nodup_append] at hn;exact hn.2.1
    have hx2:x∉l2:=(List.nodup_cons.1 hn2).1
    have hxAB:x∉A ++ B:=by
     have:=(List.perm_middle (a:=x) (l₁:=A) (l₂:=B)).nodup_iff.1 hnA
     exact (List.nodup_cons.1 this).1
    have:=hm z
    constructor
    . intro hz
      have hne:z≠x:=by rintro rfl;exact hxAB hz
      have hz':z∈A ++ x :: B:=by simp at hz ⊢;rcases hz with q | q<;>simp[q]
      have:=this.1 hz'
      simpa[hne] using this
    . intro hz
      have hne:z≠x:=by rintro rfl;exact hx2 hz
      have:=this.2 (by simp[hz])
      simpa[hne] using this
  . exact (List.nodup_cons.1 hn2).2
  . intro z hz
    exact hlt z (by simp at hz ⊢;rcases hz with q | q<;>simp[q])
theorem q4t {E:Nat->List Nat}:∀ (l C:List Nat) (x:Nat),VF E C l->(∀ e,e∈E x->e∈C∨e∈l)->VF E C (l ++ [x])
 | [],C,x,_,h=>⟨fun e he=>by rcases h e he with q | q;exact q;simp at q,trivial⟩
 | y :: l,C,x,hv,h=>⟨hv.1,q4t l (y :: C) x hv.2 (fun e he=>by
  rcases h e he with q | q
  . exact .inl (by simp[q])
  . rcases List.mem_cons.1 q with q | q
    . exact .inl (by simp[q])
    . exact .inr q)⟩
theorem q6U {α:Type} {p q:α->Bool} (hpq:∀ x,q x=true->p x=true):∀ (l:List α) (i:α),i∈l->p i=true->q i=false->(l.filter q).length<(l.filter p).length
 | [],i,hi,_,_=>by simp at hi
 | x :: l,i,hi,hp,hq=>by
  have hle:(l.filter q).length<=(l.filter p).length:=by
   clear hi
   induction l with
   | nil=>simp
   | cons y l ih=>
    simp only[List.filter_cons]
    cases e:q y with
    | true=>rw[hpq y e];simpa using ih
    | false=>cases p y<;>simp<;>omega
  simp only[List.filter_cons]
  rcases List.mem_cons.1 hi with rfl | hi
  . rw[hp,hq];simp;omega
  . have:=q6U hpq l i hi hp hq
    cases e:q x with
    | true=>rw[hpq x e];simpa using this
    | false=>cases p x<;>simp<;>omega
theorem qaD (hd:q1l ops=true) (t:Nat):(Region.linearise .any ops t).Nodup/\(∀ i,i∈Region.linearise .any ops t↔i<ops.size)/\VF (edges ops) [] (Region.linearise .any ops t):=by
 have key:∀ (fuel t:Nat) (listed:Array Bool) (acc:List Nat),listed.size=ops.size->acc.reverse.Nodup->(∀ i,i∈acc↔listed.getD i false=true)->(∀ i,i∈acc->i<ops.size)->VF (edges ops) [] acc.reverse->
  ((List.range ops.size).filter fun i=>!listed.getD i false).length<=fuel->
  (Region.linearise.go .any ops fuel t listed acc).Nodup/\(∀ i,i∈Region.linearise.go .any ops fuel t listed acc↔i<ops.size)/\VF (edges ops) [] (Region.linearise.go .any ops fuel t listed acc):=by
  intro fuel
  induction fuel with
  | zero=>
   intro t listed acc hs hn hm hlt hv hf
   simp only[Region.linearise.go]
   refine⟨hn,fun i=>⟨fun hi=>hlt i (by simpa using hi),fun hi=>?_⟩,hv⟩
   have he:((List.range ops.size).filter fun i=>!listed.getD i false)=[]:=List.eq_nil_of_length_eq_zero (by omega)
   have:=List.filter_eq_nil_iff.1 he i (by simpa using hi)
   simp only[Bool.not_eq_true',Bool.not_eq_false] at this
   simpa using (hm i).2 this
  | succ fuel ih=>
   intro t listed acc hs hn hm hlt hv hf
   simp only[Region.linearise.go]
   generalize hrs:(List.range ops.size).filter (fun i=>!listed.getD i true && ((ops[i]?).map (·.after.all fun e=>!Region.binds .any e || listed.getD e.on false)).getD false)=rs
   have hd':∀ i b,i<ops.size->listed.getD i b=listed.getD i false:=by
    intro i b hi
    simp[Array.getD_eq_getD_getElem?,Array.getElem?_eq_getElem (show i<listed.size by omega)]
   have hmem:∀ i,i∈rs↔i<ops.size/\listed.getD i false=false/\∀ e,e∈edges ops i->listed.getD e false=true:=by
    intro i
    rw[<-hrs,List.mem_filter,List.mem_range,Bool.and_eq_true,Bool.not_eq_true']
    constructor
    . rintro⟨h1,h2,h3⟩
      rw[hd' i true h1] at h2
      refine⟨h1,h2,fun e he=>?_⟩
      unfold edges q1m at he
      rw[Array.getElem?_toList] at he
      cases ho:ops[i]? with
      | none=>rw[ho] at he;simp at he
      | some o=>
       rw[ho] at he h3
       simp only[Option.map_some,Option.getD_some,List.mem_map,List.mem_filter] at he h3
       obtain⟨ed,⟨q1,q2⟩,rfl⟩:=he
       rw[Array.all_eq_true] at h3
       obtain⟨k,hk,hke⟩:=List.mem_iff_getElem.1 q1
       have:=h3 k (by simpa using hk)
       simp only[Array.getElem_toList] at hke
       rw[hke,q2] at this
       simpa using this
    . rintro⟨h1,h2,h3⟩
      refine⟨h1,by rw[hd' i true h1];exact h2,?_⟩
      rw[Array.getElem?_eq_getElem h1]
      simp only[Option.map_some,Option.getD_some]
      rw[Array.all_eq_true]
      intro k hk
      cases hb:Region.binds .any ops[i].after[k] with
      | false=>simp
      | true=>
       have:=h3 ops[i].after[k].on (by
        unfold edges q1m
        rw[Array.getElem?_toList,Array.getElem?_eq_getElem h1]
        simp only[List.mem_map,List.mem_filter]
        exact⟨_,⟨by simp,hb⟩,rfl⟩)
       simpa using this
   cases hg:rs[t % rs.length]? with
   | none=>
    have hnil:rs=[]:=by
     cases rs with
     | nil=>rfl
     | cons x rs=>rw[List.getElem?_eq_getElem (Nat.mod_lt _ (by simp))] at hg;simp at hg
    have hall:∀ i,i<ops.size->listed.getD i false=true:=by
     intro i
     induction i using Nat.strongRecOn with
     | _ i ihi=>
      intro hi
      cases e:listed.getD i false with
      | true=>rfl
      | false=>
       exfalso
       have:i∈rs:=(hmem i).2 ⟨hi,e,fun e' he'=>by
        have h1:=List.all_eq_true.1 hd i (by simpa using hi)
        have h2:=Nat.le_of_ble_eq_true (List.all_eq_true.1 h1 e' he')
        exact ihi e' h2 (Nat.lt_trans h2 hi)⟩
       rw[hnil] at this;simp at this
    exact⟨hn,fun i=>⟨fun hi=>hlt i (by simpa using hi),fun hi=>by simpa using (hm i).2 (hall i hi)⟩,hv⟩
   | some i=>
    have hi:i∈rs:=List.mem_of_getElem? hg
    obtain⟨h1,h2,h3⟩:=(hmem i).1 hi
    have hnot:i∉acc:=fun h=>by rw[(hm i).1 h] at h2;simp at h2
    have hset:∀ k,(listed.setIfInBounds i true).getD k false=(if k=i then true else listed.getD k false):=by
     intro k
     simp only[Array.getD_eq_getD_getElem?,Array.getElem?_setIfInBounds]
     by_cases e:i=k
     . subst e;simp[hs,h1]
     . rw[if_neg e,if_neg (fun e'=>e e'.symm)]
    refine ih _ _ _ (by simpa using hs) ?_ ?_ ?_ ?_ ?_
    . rw[List.reverse_cons,List.nodup_append]
      refine⟨hn,by simp,?_⟩
      intro a ha b hb e
      simp at hb ha
      rw[e,hb] at ha
      exact hnot ha
    . intro k
      rw[hset]
      by_cases e:k=i
      . subst e;simp
      . rw[if_neg e];simp[e,hm k]
    . intro k hk
      rcases List.mem_cons.1 hk with rfl | hk
      . exact h1
      . exact hlt k hk
    . rw[List.reverse_cons]
      exact q4t _ _ _ hv (fun e he=>.inr (by simpa using (hm e).2 (h3 e he)))
    . have:=q6U (p:=fun k=>!listed.getD k false) (q:=fun k=>!(listed.setIfInBounds i true).getD k false)
       (by intro k hk;simp only[hset] at hk;by_cases e:k=i<;>simp_all) (List.range ops.size) i (by simpa using h1) (by simp only[h2];rfl) (by simp only[hset];simp)
      omega
 refine key ops.size t (Array.replicate ops.size false) [] (by simp) (by simp) ?_ (by simp) trivial ?_
 . intro i
   simp only[List.not_mem_nil,false_iff]
   rw[Array.getD_eq_getD_getElem?,Array.getElem?_replicate]
   split<;>simp
 . exact Nat.le_trans (List.length_filter_le _ _) (by simp)
theorem VF_range (hd:q1l ops=true):VF (edges ops) [] (List.range ops.size):=by
 have key:∀ n,n<=ops.size->VF (edges ops) [] (List.range n):=by
  intro n
  induction n with
  | zero=>intro _;trivial
  | succ n ih=>
   intro hn
   rw[List.range_succ]
   refine q4t _ _ _ (ih (by omega)) (fun e he=>.inr ?_)
   have h1:=List.all_eq_true.1 hd n (by simp;omega)
   have h2:=Nat.le_of_ble_eq_true (List.all_eq_true.1 h1 e he)
   have h3:e<n:=h2
   simpa using h3
 exact key _ (Nat.le_refl _)
theorem drawnG {m:Bool} (hd:q1l ops=true) {step:Nat->(St->Prop)->St->Prop} (mono:∀ i (K K':St->Prop) st,(∀ st,K st->K' st)->step i K st->step i K' st)
 (hsw:∀ i j,i<ops.size->j<ops.size->i≠j->rowBit (rowsA ops) i j=false->rowBit (rowsA ops) j i=false->Swap step i j) {K:St->Prop} (hm:(m || !Region.departs ops)=true) {st:St}
 (hw:foldS step (List.range ops.size) K st) (t:Nat):foldS step (Region.schedule m ops t) K st:=by
 have hs:Region.schedule m ops t=Region.linearise .any ops t:=by
  unfold Region.schedule;rw[if_pos hm]
 rw[hs]
 obtain⟨h1,h2,h3⟩:=qaD hd t
 exact reorderG hd mono hsw (Region.linearise .any ops t) (List.range ops.size) [] (by simp) (VF_range hd) h3 (by simpa using List.nodup_range) (by intro x;rw[h2 x];simp) h1 (by simp) st hw
end
end Go.VM
namespace Go.VM
open Go Go.RowKit
def St.freezes (st:St):List Nat->Option St
 | []=>some st
 | b :: l=>match st.freeze b with
  | some st=>st.freezes l
  | none=>none
section
variable {P:Program} {base:Mine} {w0 w:World} {F0 F:Nat->Prop} {ι:Nat->Option Ref} {N:Nat} {st:St} {a:Act}
theorem Ok.drew (h:Ok base w0 F0 N st a w):Ok base w0 F0 N st a { w with drawn:=w.drawn+1 }:=by
 obtain⟨hN,F,ι,hs⟩:=h
 have hF:∀ b,F b->w.drew.heap[b]?=w.heap[b]?:=fun _ _=>rfl
 refine⟨hN,F,ι,⟨fun s v hv=>vrep_mono (w':=w.drew) (fun _ h=>h) (fun _ _ h=>h) hF (hs.env s v hv),?_,hs.used,hs.apart,hs.fsize,hs.fin,hs.below.drew,hs.size,hs.upin,hs.pools,hs.pin,hs.defers⟩⟩
 intro b k hb
 obtain⟨r,hr,q⟩:=hs.heap b k hb
 exact⟨r,hr,q1e (w:=w) (w':=w.drew) (fun _ _ h=>h) (fun _ _ h=>h) (fun _ _ _ _ _ _ _ _ _=>rfl) hF (fun _=>rfl) q⟩
theorem Ok.freezes:∀ (l:List Nat) {st st':St},Ok base w0 F0 N st a w->st.freezes l=some st'->Ok base w0 F0 N st' a w
 | [],st,st',h,hf=>by simp only[St.freezes,Option.some.injEq] at hf;subst hf;exact h
 | b :: l,st,st',h,hf=>by
  simp only[St.freezes] at hf
  split at hf<;>try (simp at hf;done)
  rename_i s hs
  exact Ok.freezes l (h.freeze hs) hf
end
end Go.VM
namespace Go.VM
open Go Go.RowKit
def stepOf:List (Nat×List Pre×Bool)->Nat->List Pre×Bool
 | [],_=>([],false)
 | (j,s) :: l,i=>bif Nat.beq i j then s else stepOf l i
def q0u:List (Nat×Lend)->Nat->Option Lend
 | [],_=>none
 | (j,s) :: l,i=>bif Nat.beq i j then some s else q0u l i
structure joinV (T:Type) (k:T->Prop) (body:(T->Prop)->Prop):Prop where
 run:body k
def q0z (sh:Shape) (st:St) (k:Pay sh.ents->Prop):Prop:=
 match unpack sh st with
 | some p=>k p
 | none=>False
def regF (P:Program) (N:Nat) (ops:Array Oper) (fi:List (Nat×List Pre×Bool)) (le:List (Nat×Lend)):List Nat->(St->Prop)->St->Prop
 | [],K,st=>preK (stepOf fi 4095).1 K st
 | i :: r,K,st=>match q0u le i with
  | none=>preK (stepOf fi i).1 (regW P N (fun i=>(stepOf fi i).2) ops (fun _=>[]) [i] (regF P N ops fi le r K)) st
  | some L=>bif Nat.beq L.k 1000
   then joinV (Pay L.inn.ents) (fun p=>preK (stepOf fi i).1 (regW P N (fun i=>(stepOf fi i).2) ops (fun _=>[]) [i] (regF P N ops fi le r K)) (pack L.inn p)) fun k=>q0z L.inn st k
   else match ops.toList[i]? with
   | some o=>preK (stepOf fi i).1 (lendW P N L o (regF P N ops fi le r K)) st
   | none=>False
def stepL (P:Program) (N:Nat) (ad:Nat->Bool) (ops:Array Oper) (bad:Nat->List Nat) (fi:List (Nat×List Pre×Bool)) (le:List (Nat×Lend)) (i:Nat) (K:St->Prop) (st:St):Prop:=
 match (stepOf fi i).1 with
 | []=>match q0u le i with
  | none=>regW P N ad ops bad [i] K st
  | some L=>match ops.toList[i]? with
   | some o=>lendW P N L o K st
   | none=>False
 | l=>preK l (fun st=>match q0u le i with
  | none=>regW P N ad ops bad [i] K st
  | some L=>match ops.toList[i]? with
   | some o=>lendW P N L o K st
   | none=>False) st
def q1Q (ops:Array Oper):List (Nat×List Pre×Bool)->Bool
 | []=>true
 | (i,l,_) :: r=>(l.isEmpty || (Nat.beq i 4095 && Nat.ble ops.size 4095) || (List.range ops.size).all fun j=>Nat.beq i j || rowBit (rowsA ops) i j || rowBit (rowsA ops) j i) && q1Q ops r
theorem q5O {ops:Array Oper}:∀ {fi:List (Nat×List Pre×Bool)} {i j:Nat},q1Q ops fi=true->i<ops.size->j<ops.size->i≠j->rowBit (rowsA ops) i j=false->rowBit (rowsA ops) j i=false->(stepOf fi i).1=[]
 | [],_,_,_,_,_,_,_,_=>rfl
 | (k,l,s) :: r,i,j,h,hi,hj,hij,h1,h2=>by
  simp only[q1Q,Bool.and_eq_true,Bool.or_eq_true,List.all_eq_true,List.mem_range] at h
  simp only[stepOf]
  cases e:Nat.beq i k
  . exact q5O h.2 hi hj hij h1 h2
  . rw[Nat.beq_eq] at e;subst e
    simp only[cond_true]
    rcases h.1 with (h3 | h3) | h3
    . simpa using h3
    . have e1:=Nat.eq_of_beq_eq_true h3.1
      have e2:=Nat.le_of_ble_eq_true h3.2
      omega
    . have:=h3 j hj
      rw[h1,h2] at this
      simp at this
      exact absurd this hij
def q1J (ops:Array Oper):List (Nat×Lend)->Bool
 | []=>true
 | (i,_) :: l=>((List.range ops.size).all fun j=>Nat.beq i j || rowBit (rowsA ops) i j || rowBit (rowsA ops) j i) && q1J ops l
theorem lendsOk_ok {ops:Array Oper}:∀ {le:List (Nat×Lend)} {i j:Nat} {L:Lend},q1J ops le=true->q0u le i=some L->j<ops.size->i≠j->rowBit (rowsA ops) i j=false->rowBit (rowsA ops) j i=false->False
 | [],_,_,_,_,h,_,_,_,_=>by simp[q0u] at h
 | (k,s) :: l,i,j,L,hl,h,hj,hij,h1,h2=>by
  simp only[q1J,Bool.and_eq_true,List.all_eq_true,List.mem_range] at hl
  simp only[q0u] at h
  cases e:Nat.beq i k<;>rw[e] at h
  . exact lendsOk_ok hl.2 h hj hij h1 h2
  . rw[Nat.beq_eq] at e;subst e
    have:=hl.1 j hj
    rw[h1,h2] at this
    simp at this
    exact hij this
theorem qaz {P:Program} {N:Nat} {L:Lend} {o:Oper} {K K':St->Prop} {st:St} (h:∀ st,K st->K' st):lendW P N L o K st->lendW P N L o K' st:=by
 unfold lendW
 intro hw
 split at hw<;>try exact hw.elim
 split at hw<;>try exact hw.elim
 rename_i d _
 cases e:Nat.blt d N<;>rw[e] at hw
 . exact hw.elim
 simp only[cond_true] at hw ⊢
 split at hw<;>try exact hw.elim
 split at hw<;>try exact hw.elim
 split at hw
 . split at hw<;>try exact hw.elim
   cases hfl:flatS L.out<;>rw[hfl] at hw
   . exact hw.elim
   simp only[cond_true] at hw ⊢
   refine lendV.mono hw fun q hq=>?_
   split at hq<;>try exact hq.elim
   exact h _ hq
 split at hw
 . obtain⟨inn,⟨cs,es⟩,k⟩:=L
   simp only[rowW] at hw ⊢
   split at hw<;>try exact hw.elim
   rename_i L0 inn cs b u k e
   cases e
   split at hw<;>try exact hw.elim
   rename_i q t ls hb
   cases hc:(Nat.beq b 1000000000 && Nat.beq k 0 && frozen t && !st.used rowD && q0R inn.ents)<;>rw[hc] at hw
   . exact hw.elim
   simp only[cond_true] at hw ⊢
   split at hw<;>try exact hw.elim
   rename_i pay ρ hu
   cases hd:isD ρ<;>rw[hd] at hw
   . exact hw.elim
   simp only[cond_true] at hw ⊢
   refine hw.mono fun y hy=>?_
   split at hy<;>try exact hy.elim
   rw[q01] at hy ⊢
   exact⟨fun e=>h _ (hy.1 e),fun e=>h _ (hy.2 e)⟩
 split at hw<;>try exact hw.elim
 refine lendV.mono hw fun q hq=>?_
 split at hq<;>try exact hq.elim
 exact h _ hq
theorem q1P {K K':St->Prop} (h:∀ st,K st->K' st):∀ (l:List Pre) (st:St),preK l K st->preK l K' st
 | [],st,hw=>h st hw
 | .frz b :: l,st,hw=>by
  simp only[preK] at hw ⊢
  split at hw<;>exact q1P h l _ hw
 | .opn b p :: l,st,hw=>by
  simp only[preK] at hw ⊢
  split at hw<;>try exact hw.elim
  exact⟨hw.1,q1P h l _ hw.2⟩
 | .giv d p :: l,st,hw=>by
  simp only[preK] at hw ⊢
  split at hw<;>try exact hw.elim
  exact q1P h l _ hw
 | .frp p :: l,st,hw=>by
  simp only[preK] at hw ⊢
  split at hw<;>try exact hw.elim
  exact q1P h l _ hw
 | .cut t d :: l,st,hw=>by
  simp only[preK] at hw ⊢
  split at hw<;>try exact hw.elim
  exact q1P h l _ hw
 | .new p t :: l,st,hw=>by
  simp only[preK] at hw ⊢
  split at hw<;>try exact hw.elim
  exact q1P h l _ hw
theorem qb0 {P:Program} {N:Nat} {ad:Nat->Bool} {ops:Array Oper} {bad:Nat->List Nat} {fi:List (Nat×List Pre×Bool)} {le:List (Nat×Lend)} (i:Nat) (K K':St->Prop) (st:St) (h:∀ st,K st->K' st):stepL P N ad ops bad fi le i K st->stepL P N ad ops bad fi le i K' st:=by
 have key:∀ st,(match q0u le i with
  | none=>regW P N ad ops bad [i] K st
  | some L=>match ops.toList[i]? with
   | some o=>lendW P N L o K st
   | none=>False)->(match q0u le i with
  | none=>regW P N ad ops bad [i] K' st
  | some L=>match ops.toList[i]? with
   | some o=>lendW P N L o K' st
   | none=>False):=by
  intro st
  split
  . exact qb2 h
  . split
    . exact qaz h
    . exact id
 unfold stepL
 split
 . exact key st
 . exact q1P key _ st
theorem qb1 {P:Program} {N:Nat} {ad:Nat->Bool} {ops:Array Oper} {fi:List (Nat×List Pre×Bool)} {le:List (Nat×Lend)} (h:drawOk ops=true) (hl:q1J ops le=true) (hp:q1Q ops fi=true) (i j:Nat) (hi:i<ops.size) (hj:j<ops.size) (hij:i≠j) (h1:rowBit (rowsA ops) i j=false) (h2:rowBit (rowsA ops) j i=false):
 Swap (stepL P N ad ops (badOf ops) fi le) i j:=by
 intro K st hw
 have pi:=q5O hp hi hj hij h1 h2
 have pj:=q5O hp hj hi (fun e=>hij e.symm) h2 h1
 unfold stepL at hw ⊢
 rw[pi] at hw ⊢
 simp only[pj] at hw ⊢
 cases ei:q0u le i with
 | some L=>exact (lendsOk_ok hl ei hj hij h1 h2).elim
 | none=>
  cases ej:q0u le j with
  | some L=>exact (lendsOk_ok hl ej hi (fun e=>hij e.symm) h2 h1).elim
  | none=>
   rw[ei] at hw
   simp only[ej] at hw
   simp only[ei]
   exact swap2 (free_of h hi hj hij h1 h2) hw
def regD (P:Program) (N:Nat) (ad:Nat->Bool) (ops:Array Oper) (bad:Nat->List Nat) (fi:List (Nat×List Pre×Bool)) (le:List (Nat×Lend)) (l:List Nat) (K:St->Prop) (st:St):Prop:=foldS (stepL P N ad ops bad fi le) l K st
theorem drawn_ok {P:Program} {N:Nat} {ad:Nat->Bool} {ops:Array Oper} {fi:List (Nat×List Pre×Bool)} {le:List (Nat×Lend)} {K:St->Prop} (h:drawOk ops=true) (hl:q1J ops le=true) (hp:q1Q ops fi=true) (hm:(P.follows .mixedOrders || !Region.departs ops)=true) {st:St}
 (hw:regD P N ad ops (badOf ops) fi le (List.range ops.size) K st) (t:Nat):regD P N ad ops (badOf ops) fi le (Region.schedule (P.follows .mixedOrders) ops t) K st:=by
 have hd:q1l ops=true:=by simp only[drawOk,q5n,Bool.and_eq_true] at h;exact h.1
 exact drawnG hd (fun i K K' st h=>qb0 i K K' st h) (fun i j hi hj hij h1 h2=>qb1 h hl hp i j hi hj hij h1 h2) hm hw t
section
variable {P:Program} {base:Mine} {w0 w:World} {F0 F:Nat->Prop} {ι:Nat->Option Ref} {N:Nat} {st:St} {a:Act}
variable {next:Act->World->Prop} {Q:Exit->Act->World->Prop} {K:St->Prop}
variable (hG:base.u8=u8of P/\∀ w:World,Keep base w0 w->Gl P w)
include hG
theorem regF_sound {ops:Array Oper} {fi:List (Nat×List Pre×Bool)} {le:List (Nat×Lend)}:∀ (l:List Nat) (K:St->Prop) (st:St) (a:Act) (w:World),(∀ st a w,K st->Ok base w0 F0 N st a w->Q .normal a w)->regF P N ops fi le l K st->Ok base w0 F0 N st a w->
 wpOps P ops Q l a w
 | [],K,st,a,w,hn,h,hok=>by
  obtain⟨s,h1,h2⟩:=q0p _ _ h hok
  exact hn _ _ _ h2 h1
 | i :: r,K,st,a,w,hn,h,hok=>by
  have ih:∀ st a w,regF P N ops fi le r K st->Ok base w0 F0 N st a w->wpOps P ops Q r a w:=fun st a w h hok=>regF_sound r K st a w hn h hok
  simp only[regF] at h
  split at h
  . obtain⟨s,h1,h2⟩:=q0p _ _ h hok
    exact q6h hG ih h2 h1
  . rename_i L _
    cases hk:Nat.beq L.k 1000<;>rw[hk] at h<;>simp only[cond_true,cond_false] at h
    case true=>
     have h:=h.run
     unfold q0z at h
     split at h<;>try exact h.elim
     rename_i p hp
     obtain⟨s,h1,h2⟩:=q0p _ _ h (unpack_ok hp hok)
     exact q6h hG ih h2 h1
    split at h<;>try exact h.elim
    rename_i o ho
    obtain⟨s,h1,h2⟩:=q0p _ _ h hok
    obtain⟨hg,hw⟩:=q7a (Q:=Q) hG (fun st a w h hok=>ih st a w h hok) h2 h1
    simp only[wpOps]
    rw[Array.getElem?_toList] at ho
    rw[ho]
    simp only
    rw[if_pos (by simp[Region.wanted,hg])]
    exact .inl hw
theorem q7w {ad:Nat->Bool} {ops:Array Oper} {bad:Nat->List Nat} {fi:List (Nat×List Pre×Bool)} {le:List (Nat×Lend)}:∀ (l:List Nat) (K:St->Prop) (st:St) (a:Act) (w:World),(∀ st a w,K st->Ok base w0 F0 N st a w->Q .normal a w)->regD P N ad ops bad fi le l K st->Ok base w0 F0 N st a w->
 wpOps P ops Q l a w
 | [],K,st,a,w,hn,h,hok=>hn _ _ _ h hok
 | i :: r,K,st,a,w,hn,h,hok=>by
  have ih:∀ st a w,foldS (stepL P N ad ops bad fi le) r K st->Ok base w0 F0 N st a w->wpOps P ops Q r a w:=fun st a w h hok=>q7w r K st a w hn h hok
  have key:∀ st a w,(match q0u le i with
   | none=>regW P N ad ops bad [i] (foldS (stepL P N ad ops bad fi le) r K) st
   | some L=>match ops.toList[i]? with
    | some o=>lendW P N L o (foldS (stepL P N ad ops bad fi le) r K) st
    | none=>False)->Ok base w0 F0 N st a w->wpOps P ops Q (i :: r) a w:=by
   intro st a w h hok
   split at h
   . exact q6h hG ih h hok
   . split at h<;>try exact h.elim
     rename_i o ho
     obtain⟨hg,hw⟩:=q7a (Q:=Q) hG (fun st a w h hok=>ih st a w h hok) h hok
     simp only[wpOps]
     rw[Array.getElem?_toList] at ho
     rw[ho]
     simp only
     rw[if_pos (by simp[Region.wanted,hg])]
     exact .inl hw
  replace h:stepL P N ad ops bad fi le i (foldS (stepL P N ad ops bad fi le) r K) st:=h
  unfold stepL at h
  split at h
  . exact key _ _ _ h hok
  . obtain⟨s,h1,h2⟩:=q0p _ _ h hok
    exact key _ _ _ h2 h1
end
end Go.VM
