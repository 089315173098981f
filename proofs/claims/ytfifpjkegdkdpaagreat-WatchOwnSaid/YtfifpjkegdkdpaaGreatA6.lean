/- Typed pure data, a condition on code that says what a call gives, what the code of each function comes to, and what each function gives. -/
import Derived.Scope
import Derived.Test.YtfifpjkegdkdpaaGreatA5
set_option linter.unusedVariables false
set_option linter.unusedSimpArgs false
set_option linter.unnecessarySimpa false
namespace Go.VM
open Go Go.RowKit
inductive Ann where
 | nil
 | seq (a b:Ann)
 | cond (j:Option Shape) (a b:Ann)
 | loop (s:Shape) (a:Ann)
 | blk (j:Option Shape) (a:Ann)
 | reg (fr:List Nat) (fi:List (Nat×List Pre×Bool)) (j:Option Shape)
 | regL (fr:List Nat) (fi:List (Nat×List Pre×Bool)) (le:List (Nat×Lend)) (j:Option Shape)
abbrev Ann.s (a:Ann):Ann:=.seq .nil a
def Ann.l:Ann->Ann
 | .seq a _=>a
 | .cond _ a _=>a
 | .blk _ a=>a
 | _=>.nil
def Ann.r:Ann->Ann
 | .seq _ b=>b
 | .cond _ _ b=>b
 | _=>.nil
def Ann.j:Ann->Option Shape
 | .cond j _ _=>j
 | .reg _ _ j=>j
 | .regL _ _ _ j=>j
 | .blk j _=>j
 | _=>none
def Ann.fr:Ann->List Nat
 | .reg fr _ _=>fr
 | .regL fr _ _ _=>fr
 | _=>[]
def Ann.fi:Ann->List (Nat×List Pre×Bool)
 | .reg _ fi _=>fi
 | .regL _ fi _ _=>fi
 | _=>[]
def Ann.le:Ann->List (Nat×Lend)
 | .regL _ _ le _=>le
 | _=>[]
abbrev Kont:=Exit->St->Prop
structure loopV (T:Type) (step:(T->Prop)->T->Prop) (p:T):Prop where
 run:∃ (Inv:T->Prop) (μ:T->Nat),Inv p/\∀ p,Inv p->step (fun p'=>Inv p'/\μ p'<μ p) p
def withN (K:Kont) (k:St->Prop):Kont:=fun e st=>
 match e with
 | .normal=>k st
 | e=>K e st
def joinW (j:Option Shape) (K:Kont) (body:Kont->Prop):Prop:=
 match j with
 | none=>body K
 | some sh=>joinV (Pay sh.ents) (fun p=>K .normal (pack sh p)) fun k=>body (withN K fun st=>q0z sh st k)
def wpC (P:Program) (N:Nat):Code->Ann->Kont->St->Prop
 | .skip,_,K,st=>K .normal st
 | .region _ ops draw,ann,K,st=>match st.freezes ann.fr with
  | some st=>joinW ann.j K fun K=>bif draw
   then bif drawOk ops && q1J ops ann.le && q1Q ops ann.fi && (P.follows .mixedOrders || !Region.departs ops) then regD P N (fun i=>(stepOf ann.fi i).2) ops (badOf ops) ann.fi ann.le (List.range ops.size) (preK (stepOf ann.fi 4095).1 (K .normal)) st else False
   else regF P N ops ann.fi ann.le (List.range ops.size) (K .normal) st
  | none=>False
 | .seq x y,ann,K,st=>wpC P N x ann.l (withN K fun st=>wpC P N y ann.r K st) st
 | .cond c x y,ann,K,st=>match st.val c with
  | some ⟨.bool,b⟩=>joinW ann.j K fun K=>brV b (wpC P N x ann.l K st) (wpC P N y ann.r K st)
  | _=>False
 | .block id c,ann,K,st=>joinW ann.j K fun K=>wpC P N c ann.l (fun e st=>match e with
  | .exit id'=>bif Nat.beq id' id then K .normal st else K (.exit id') st
  | e=>K e st) st
 | .loop c,ann,K,st=>match ann with
  | .loop sh ann=>q0z sh st fun p=>loopV (Pay sh.ents) (fun k p=>wpC P N c ann (withN K fun st=>q0z sh st k) (pack sh p)) p
  | .seq a (.loop sh ann)=>wpC P N c a (withN K fun st=>q0z sh st fun p=>loopV (Pay sh.ents) (fun k p=>wpC P N c ann (withN K fun st=>q0z sh st k) (pack sh p)) p) st
  | _=>False
 | .scope c,ann,K,st=>wpC P N c ann (fun e st=>match e with
  | .goto _=>False
  | e=>K e st) st
 | .label _,_,K,st=>K .normal st
 | .exit id,_,K,st=>K (.exit id) st
 | .ret,_,K,st=>K .ret st
 | _,_,_,_=>False
theorem wp_loopT {P:Program} {Q:Exit->Act->World->Prop} {T:Type} {c:Code} (I:T->Act->World->Prop) (μ:T->Nat) {p:T} {a:Act} {w:World} (h₀:I p a w)
 (round:∀ p a w,I p a w->c.wp P (Exit.then (fun a' w'=>∃ p',I p' a' w'/\μ p'<μ p) Q) a w):(Code.loop c).wp P Q a w:=by
 intro b k cs
 have key:∀ n p a w,μ p=n->I p a w->
  ∃ e a' w',Q e a' w'/\Arrives P (lone (b.at a (.code c :: .inLoop c :: k)) cs w) b k cs e a' w':=by
  intro n
  induction n using Nat.strongRecOn with
  | _ n ih=>
   intro p a w hn hI
   obtain⟨e,a₁,w₁,hq,harr⟩:=round p a w hI b (.inLoop c :: k) cs
   cases e with
   | normal=>
    obtain⟨p',hI₁,hlt⟩:=hq
    obtain⟨e₂,a₂,w₂,hq₂,harr₂⟩:=ih (μ p') (hn ▸ hlt) p' a₁ w₁ rfl hI₁
    exact⟨e₂,a₂,w₂,hq₂,.of_steps (Steps.trans harr (.one step_inLoop)) harr₂⟩
   | exit id=>exact⟨_,a₁,w₁,hq,.pass (x:=.inLoop c) rfl (fun _ _=>.inl (by simp)) harr⟩
   | goto l=>exact⟨_,a₁,w₁,hq,.pass (x:=.inLoop c) rfl (fun _ _=>.inl (by simp)) harr⟩
   | ret=>exact⟨_,a₁,w₁,hq,.pass (x:=.inLoop c) rfl (fun _ _=>.inl (by simp)) harr⟩
   | panic ch=>exact⟨_,a₁,w₁,hq,.pass (x:=.inLoop c) rfl (fun _ _=>.inl (by simp)) harr⟩
   | outgrown=>exact⟨_,a₁,w₁,hq,.pass (x:=.inLoop c) rfl (fun _ _=>.inl (by simp)) harr⟩
 obtain⟨e,a',w',hq,harr⟩:=key _ p a w rfl h₀
 exact⟨e,a',w',hq,.of_steps (.one step_loop) harr⟩
theorem wp_loopP {P:Program} {Q:Exit->Act->World->Prop} {T:Type} {c:Code} (I:T->Act->World->Prop) (μ:T->Nat) {a:Act} {w:World} (first:c.wp P (Exit.then (fun a' w'=>∃ p,I p a' w') Q) a w)
 (round:∀ p a w,I p a w->c.wp P (Exit.then (fun a' w'=>∃ p',I p' a' w'/\μ p'<μ p) Q) a w):(Code.loop c).wp P Q a w:=by
 intro b k cs
 have key:∀ n p a w,μ p=n->I p a w->
  ∃ e a' w',Q e a' w'/\Arrives P (lone (b.at a (.code c :: .inLoop c :: k)) cs w) b k cs e a' w':=by
  intro n
  induction n using Nat.strongRecOn with
  | _ n ih=>
   intro p a w hn hI
   obtain⟨e,a₁,w₁,hq,harr⟩:=round p a w hI b (.inLoop c :: k) cs
   cases e with
   | normal=>
    obtain⟨p',hI₁,hlt⟩:=hq
    obtain⟨e₂,a₂,w₂,hq₂,harr₂⟩:=ih (μ p') (hn ▸ hlt) p' a₁ w₁ rfl hI₁
    exact⟨e₂,a₂,w₂,hq₂,.of_steps (Steps.trans harr (.one step_inLoop)) harr₂⟩
   | exit id=>exact⟨_,a₁,w₁,hq,.pass (x:=.inLoop c) rfl (fun _ _=>.inl (by simp)) harr⟩
   | goto l=>exact⟨_,a₁,w₁,hq,.pass (x:=.inLoop c) rfl (fun _ _=>.inl (by simp)) harr⟩
   | ret=>exact⟨_,a₁,w₁,hq,.pass (x:=.inLoop c) rfl (fun _ _=>.inl (by simp)) harr⟩
   | panic ch=>exact⟨_,a₁,w₁,hq,.pass (x:=.inLoop c) rfl (fun _ _=>.inl (by simp)) harr⟩
   | outgrown=>exact⟨_,a₁,w₁,hq,.pass (x:=.inLoop c) rfl (fun _ _=>.inl (by simp)) harr⟩
 have key0:∃ e a' w',Q e a' w'/\Arrives P (lone (b.at a (.code c :: .inLoop c :: k)) cs w) b k cs e a' w':=by
  obtain⟨e,a₁,w₁,hq,harr⟩:=first b (.inLoop c :: k) cs
  cases e with
  | normal=>
   obtain⟨p',hI₁⟩:=hq
   obtain⟨e₂,a₂,w₂,hq₂,harr₂⟩:=key (μ p') p' a₁ w₁ rfl hI₁
   exact⟨e₂,a₂,w₂,hq₂,.of_steps (Steps.trans harr (.one step_inLoop)) harr₂⟩
  | exit id=>exact⟨_,a₁,w₁,hq,.pass (x:=.inLoop c) rfl (fun _ _=>.inl (by simp)) harr⟩
  | goto l=>exact⟨_,a₁,w₁,hq,.pass (x:=.inLoop c) rfl (fun _ _=>.inl (by simp)) harr⟩
  | ret=>exact⟨_,a₁,w₁,hq,.pass (x:=.inLoop c) rfl (fun _ _=>.inl (by simp)) harr⟩
  | panic ch=>exact⟨_,a₁,w₁,hq,.pass (x:=.inLoop c) rfl (fun _ _=>.inl (by simp)) harr⟩
  | outgrown=>exact⟨_,a₁,w₁,hq,.pass (x:=.inLoop c) rfl (fun _ _=>.inl (by simp)) harr⟩
 obtain⟨e,a',w',hq,harr⟩:=key0
 exact⟨e,a',w',hq,.of_steps (.one step_loop) harr⟩
section
variable {P:Program} {base:Mine} {w0:World} {F0:Nat->Prop} {N:Nat}
def After (base:Mine) (w0:World) (F0:Nat->Prop) (N:Nat) (K:Kont):Exit->Act->World->Prop:=fun e a w=>∃ st,K e st/\Ok base w0 F0 N st a w
theorem q5y {j:Option Shape} {K:Kont} {body:Kont->Prop} (h:joinW j K body):∃ K':Kont,body K'/\∀ e a w,After base w0 F0 N K' e a w->After base w0 F0 N K e a w:=by
 cases j with
 | none=>exact⟨K,h,fun _ _ _ h=>h⟩
 | some sh=>
  refine⟨_,h.run,?_⟩
  rintro e a w ⟨st,hk,hok⟩
  cases e with
  | normal=>
   simp only[withN,q0z] at hk
   split at hk<;>try exact hk.elim
   rename_i p hp
   exact⟨_,hk,unpack_ok hp hok⟩
  | _=>exact⟨st,hk,hok⟩
theorem q4q {K:Kont} {k:St->Prop} {e:Exit} {a:Act} {w:World} {next:Act->World->Prop} (hn:∀ st a w,k st->Ok base w0 F0 N st a w->next a w) (h:After base w0 F0 N (withN K k) e a w):
 Exit.then next (After base w0 F0 N K) e a w:=by
 obtain⟨st,hk,hok⟩:=h
 cases e with
 | normal=>exact hn _ _ _ hk hok
 | _=>exact⟨st,hk,hok⟩
variable (hG:base.u8=u8of P/\∀ w:World,Keep base w0 w->Gl P w)
include hG
theorem wpC_sound:∀ (c:Code) (ann:Ann) (K:Kont) (st:St) (a:Act) (w:World),wpC P N c ann K st->Ok base w0 F0 N st a w->c.wp P (After base w0 F0 N K) a w:=by
 intro c
 induction c with
 | skip=>intro ann K st a w h hok;exact wp_skip ⟨st,h,hok⟩
 | exit id=>intro ann K st a w h hok;exact wp_exit ⟨st,h,hok⟩
 | ret=>intro ann K st a w h hok;exact wp_ret ⟨st,h,hok⟩
 | label l=>intro ann K st a w h hok;exact wp_label ⟨st,h,hok⟩
 | scope c ih=>
  intro ann K st a w h hok
  refine wp_scope_straight (wp_mono (ih _ _ _ _ _ h hok) ?_)
  rintro e a w ⟨st,hk,hok⟩
  cases e with
  | goto l=>exact hk.elim
  | _=>exact⟨st,hk,hok⟩
 | region id ops draw=>
  intro ann K st a w h hok
  simp only[wpC] at h
  split at h<;>try exact h.elim
  rename_i st' hf
  have hok':=Ok.freezes _ hok hf
  obtain⟨K',h,hK⟩:=q5y (base:=base) (w0:=w0) (F0:=F0) (N:=N) h
  cases draw with
  | false=>
   simp only[cond_false] at h
   refine wp_mono (wp_region (regF_sound hG (Q:=After base w0 F0 N K') _ _ _ _ _ ?_ h hok')) hK
   exact fun st a w h hok=>⟨st,h,hok⟩
  | true=>
   simp only[cond_true] at h
   cases hd:(drawOk ops && q1J ops ann.le && q1Q ops ann.fi && (P.follows .mixedOrders || !Region.departs ops))<;>rw[hd] at h
   . exact h.elim
   simp only[cond_true] at h
   rw[Bool.and_eq_true,Bool.and_eq_true,Bool.and_eq_true] at hd
   refine wp_mono (wp_region_draw fun t=>q7w hG (base:=base) (w0:=w0) (F0:=F0) (Q:=After base w0 F0 N K') _ _ _ _ _ (fun st a w h hok=>by obtain⟨s,h1,h2⟩:=q0p _ _ h hok;exact⟨s,h2,h1⟩) (drawn_ok hd.1.1.1 hd.1.1.2 hd.1.2 hd.2 h t) hok'.drew) hK
 | seq x y ihx ihy=>
  intro ann K st a w h hok
  simp only[wpC] at h
  exact wp_seq (wp_mono (ihx _ _ _ _ _ h hok) fun e a w hq=>q4q (fun st a w h hok=>ihy _ _ _ _ _ h hok) hq)
 | cond c x y ihx ihy=>
  intro ann K st a w h hok
  simp only[wpC] at h
  split at h<;>try exact h.elim
  rename_i b hb
  obtain⟨K',h,hK⟩:=q5y (base:=base) (w0:=w0) (F0:=F0) (N:=N) h
  have hok':=hok
  obtain⟨_,F,ι,hs⟩:=hok
  have hv:=hs.val hb
  rw[q0l] at hv
  refine wp_mono (wp_cond hv ?_) hK
  cases b with
  | true=>exact ihx _ _ _ _ _ h hok'
  | false=>exact ihy _ _ _ _ _ h hok'
 | block id c ih=>
  intro ann K st a w h hok
  simp only[wpC] at h
  obtain⟨K',h,hK⟩:=q5y (base:=base) (w0:=w0) (F0:=F0) (N:=N) h
  refine wp_block (wp_mono (ih _ _ _ _ _ h hok) ?_)
  rintro e a w ⟨st,hk,hok⟩
  cases e with
  | exit id'=>
   simp only at hk
   simp only[Exit.inBlock]
   cases e:Nat.beq id' id<;>rw[e] at hk<;>simp only[cond_true,cond_false] at hk
   . have:id'≠id:=by rintro rfl;simp at e
     rw[if_neg this];exact hK _ _ _ ⟨st,hk,hok⟩
   . rw[Nat.beq_eq] at e;subst e
     rw[if_pos rfl];exact hK _ _ _ ⟨st,hk,hok⟩
  | _=>exact hK _ _ _ ⟨st,hk,hok⟩
 | loop c ih=>
  intro ann K st a w h hok
  simp only[wpC] at h
  split at h
  case h_3=>exact h.elim
  case h_1 sh ann=>
   simp only[q0z] at h
   split at h<;>try exact h.elim
   rename_i p hp
   obtain⟨Inv,μ,h0,hstep⟩:=h.run
   refine wp_loopT (fun p a w=>Inv p/\Ok base w0 F0 N (pack sh p) a w) μ ⟨h0,unpack_ok hp hok⟩ ?_
   rintro p a w ⟨hI,hok⟩
   refine wp_mono (ih _ _ _ _ _ (hstep p hI) hok) fun e a w hq=>q4q ?_ hq
   intro st a w hk hok
   simp only at hk
   split at hk<;>try exact hk.elim
   rename_i p' hp'
   exact⟨p',⟨hk.1,unpack_ok hp' hok⟩,hk.2⟩
  case h_2 a1 sh ann=>
   have hf:=ih _ _ _ _ _ h hok
   refine wp_loopP (T:=(Pay sh.ents->Prop)×(Pay sh.ents->Nat)×Pay sh.ents) (fun q a w=>(∀ p,q.1 p->wpC P N c ann (withN K fun st=>q0z sh st fun p'=>q.1 p'/\q.2.1 p'<q.2.1 p) (pack sh p))/\q.1 q.2.2/\Ok base w0 F0 N (pack sh q.2.2) a w) (fun q=>q.2.1 q.2.2) (wp_mono hf fun e a w hq=>q4q ?_ hq) ?_
   . intro st a w hk hok
     simp only[q0z] at hk
     split at hk<;>try exact hk.elim
     rename_i p hp
     obtain⟨Inv,μ,h0,hstep⟩:=hk.run
     exact⟨(Inv,μ,p),hstep,h0,unpack_ok hp hok⟩
   . rintro⟨Inv,μ,p⟩ a w ⟨hstep,hI,hok⟩
     refine wp_mono (ih _ _ _ _ _ (hstep p hI) hok) fun e a w hq=>q4q ?_ hq
     intro st a w hk hok
     simp only[q0z] at hk
     split at hk<;>try exact hk.elim
     rename_i p' hp'
     exact⟨(Inv,μ,p'),⟨hstep,hk.1,unpack_ok hp' hok⟩,hk.2⟩
 | _=>intro ann K st a w h hok;exact h.elim
end
end Go.VM
namespace Go.VM
open Go Go.RowKit
def resV1 (P:Program) (st:St) (rt:Ty):ResultVar->Option (den rt)
 | .tmp t=>match st.env t with
  | some v=>coe st.heap rt v.t v.x
  | none=>none
 | .cell a t=>match st.env a with
  | some ⟨.ref b o,_⟩=>match tinf P t with
   | some (ag,n)=>match loadV st.heap ag n ⟨.ref b o,()⟩ with
    | some u=>coe st.heap rt u.t u.x
    | none=>none
   | none=>none
  | _=>none
def resL (P:Program) (st:St):(c:Ty)->List ResultVar->Option (den c)
 | .unit,[]=>some ()
 | .pair a b,r :: rs=>match resV1 P st a r with
  | some x=>match resL P st b rs with
   | some y=>some (x,y)
   | none=>none
  | none=>none
 | _,_=>none
def valsT:Ty->Bool
 | .unit=>true
 | .pair a b=>valT a && valsT b
 | _=>false
def rtOk:Ty->Nat->Bool
 | .tup c,n=>valsT c && frozen c && !Nat.beq n 1
 | t,n=>valT t && frozen t && Nat.beq n 1
def q3h (P:Program) (st:St) (rt:Ty) (rs:List ResultVar):Option (den rt):=
 match rt with
 | .tup c=>resL P st c rs
 | rt=>match rs with
  | [r]=>resV1 P st rt r
  | _=>none
def retK (P:Program) (rs:List ResultVar) (rt:Ty) (Q:den rt->Prop):Kont:=fun e st=>
 match e with
 | .normal=>match q3h P st rt rs with
  | some r=>Q r
  | none=>False
 | .ret=>match q3h P st rt rs with
  | some r=>Q r
  | none=>False
 | _=>False
def nthV:List V->Nat->Option V
 | [],_=>none
 | v :: _,0=>some v
 | _ :: l,n+1=>nthV l n
def entry (xs:List V):St:=⟨nthV xs,fun _=>none,fun n=>resv n⟩
section
variable {P:Program} {base:Mine} {w0 w:World} {F0 F:Nat->Prop} {ι:Nat->Option Ref} {N:Nat} {st:St} {a:Act}
def resF (tmps:Array Value):ResultVar->Sem Value
 | .tmp t=>pure (tmps.getD t undef)
 | .cell a t=>do loadVar t (<-asAddr (tmps.getD a undef))
theorem Sim.holdsAll (hs:Sim base w0 F0 F ι st a w):Holds w (fun k=>F0 k∨base.own k) ι st.heap:=by
 refine⟨fun b t l hb=>?_,fun p t ls hb n r hr hn=>?_⟩
 case refine_2=>
  obtain⟨_,_,_,_,_,q4,q5⟩:=hs.heap _ _ hb
  exact row_rep (fun _ _ h=>rep_mono hs.fin (fun _ _ h=>h) (fun _ _=>rfl) _ _ _ h) (fun _ _ h=>.inr h) q4 q5 hr
 obtain⟨r,hr,q⟩:=hs.heap _ _ hb
 refine⟨r,hr,?_⟩
 obtain⟨hv,q⟩:=q
 cases l with
 | none=>simp only[rep,Ref.val];simp only at q;rw[if_pos q];exact⟨rfl,fun hn=>by rw[q] at hn;simp at hn⟩
 | some l=>
  obtain⟨q1,q2,q3,q4,q5,q6,cells,el,qe,q7,q8,q9⟩:=q
  refine⟨?_,fun _=>q2⟩
  simp only[rep,Ref.val,q1,if_false,Bool.false_eq_true,q3]
  exact⟨⟨r.blk,r.off,none⟩,r.cap,rfl,by omega,fun _=>⟨cells,el,(0,0),rfl,.inr (q5),q7,fun i y hy=>rep_mono hs.fin (fun _ _ h=>h) (fun _ _=>rfl) _ _ _ (q9 i y hy)⟩⟩
theorem q5l (hs:Sim base w0 F0 F ι st a w) {t u:Ty} {x:den u} {y:den t} {v:Value} (hval:valT t=true) (hfr:frozen t=true) (hv:vrep w F ι u x v) (h:coe st.heap t u x=some y):
 vrep w (fun k=>F0 k∨base.own k) noRef t y v:=by
 have htag:=q3Z _ _ _ _ h
 rcases valT_or hval with h1 | h1
 . rw[vrep_agg h1]
   rw[vrep_agg (htag.1.trans h1)] at hv
   obtain⟨cs,rfl,hv⟩:=hv
   exact⟨cs,rfl,rep_frozen _ _ _ hfr (coe_rep hs.fin hs.holdsAll _ _ _ _ _ hv h)⟩
 . rw[vrep_cell h1]
   rw[vrep_cell (htag.2.2.trans h1)] at hv
   exact rep_frozen _ _ _ hfr (coe_rep hs.fin hs.holdsAll _ _ _ _ _ hv h)
theorem q7A (hs:Sim base w0 F0 F ι st a w) {rt:Ty} {r:ResultVar} {x:den rt} (hval:valT rt=true) (hfr:frozen rt=true) (h:resV1 P st rt r=some x):
 ∃ v,(resF a.tmps r).run P w=.ok v w/\vrep w (fun k=>F0 k∨base.own k) noRef rt x v:=by
 cases r with
 | tmp t=>
  simp only[resV1] at h
  split at h<;>try (simp at h;done)
  rename_i v hv
  exact⟨_,rfl,q5l hs hval hfr (hs.env _ _ hv) h⟩
 | cell p t=>
  simp only[resV1] at h
  split at h<;>try (simp at h;done)
  rename_i b o _ hv
  split at h<;>try (simp at h;done)
  rename_i ag n ht
  split at h<;>try (simp at h;done)
  rename_i u hu
  have hp:=hs.env _ _ hv
  have hp':=hp
  rw[vrep_cell rfl] at hp';simp only[rep] at hp'
  obtain⟨r,hr,e⟩:=hp'
  simp only[List.cons.injEq,and_true] at e
  obtain⟨val,h1,h2⟩:=q5A (P:=P) hs.heap ht (v:=⟨.ref b o,()⟩) hp hu
  refine⟨val,?_,q5l hs hval hfr h2 h⟩
  rw[e] at h1
  simp only[Instr.loadAt,Instr.sureAddr,Sem.run_bind,Sem.run_pure,Result.andThen_ok] at h1
  simp only[resF,e,asAddr,Sem.run_bind,Sem.run_pure,Result.andThen_ok,h1]
theorem resL_ok (hs:Sim base w0 F0 F ι st a w):∀ (c:Ty) (rs:List ResultVar) (x:den c),valsT c=true->frozen c=true->resL P st c rs=some x->
 ∃ vs:List Value,vs.length=rs.length/\(∀ acc:Array Value,(rs.foldlM (fun (acc:Array Value) (r:ResultVar)=>acc.push <$> resF a.tmps r) acc).run P w=.ok (acc ++ vs.toArray) w)/\trep w (fun k=>F0 k∨base.own k) noRef c x vs
 | .unit,[],x,_,_,h=>⟨[],rfl,fun acc=>by simp,rfl⟩
 | .pair c d,r :: rs,x,hv,hf,h=>by
  simp only[valsT,Bool.and_eq_true] at hv
  simp only[frozen,Bool.and_eq_true] at hf
  simp only[resL] at h
  split at h<;>try (simp at h;done)
  rename_i y hy
  split at h<;>try (simp at h;done)
  rename_i z hz
  simp only[Option.some.injEq] at h;subst h
  obtain⟨v,h1,h2⟩:=q7A (P:=P) hs hv.1 hf.1 hy
  obtain⟨vs,l1,l2,l3⟩:=resL_ok hs d rs z hv.2 hf.2 hz
  refine⟨v :: vs,by simp[l1],fun acc=>?_,?_⟩
  . simp only[List.foldlM_cons,Sem.run_bind,Sem.run_map,h1,Result.andThen_ok]
    rw[l2 (acc.push v)];simp
  . simp only[trep]
    exact⟨v,vs,rfl,(vrep_vrep1 hv.1).1 h2,l3⟩
 | .unit,_ :: _,_,_,_,h | .pair _ _,[],_,_,_,h=>by simp[resL] at h
 | .int _,_,_,h,_,_ | .bool,_,_,h,_,_ | .str,_,_,h,_,_ | .cst _,_,_,h,_,_ | .sl _,_,_,h,_,_ | .agg _,_,_,h,_,_ | .arr _ _,_,_,h,_,_ | .tup _,_,_,h,_,_
 | .ref _ _,_,_,h,_,_ | .own _,_,_,h,_,_ | .eref _ _,_,_,h,_,_ | .fref _,_,_,h,_,_=>by simp[valsT] at h
theorem q49 (fn:Func) (tmps:Array Value):results fn tmps=(do
 let vs <-fn.results.mapM (resF tmps)
 pure (if h:vs.size=1 then vs[0] else .tuple vs)):=by
 unfold results
 congr 1
theorem resAll_ok (hs:Sim base w0 F0 F ι st a w) {fn:Func} {rt:Ty} {x:den rt} (hrt:rtOk rt fn.results.size=true) (h:q3h P st rt fn.results.toList=some x):
 ∃ v,(results fn a.tmps).run P w=.ok v w/\vrep w (fun k=>F0 k∨base.own k) noRef rt x v:=by
 have main:∀ vs:List Value,vs.length=fn.results.toList.length->(∀ acc:Array Value,(fn.results.toList.foldlM (fun (acc:Array Value) (r:ResultVar)=>acc.push <$> resF a.tmps r) acc).run P w=.ok (acc ++ vs.toArray) w)->
  (results fn a.tmps).run P w=.ok (if h:vs.toArray.size=1 then vs.toArray[0] else .tuple vs.toArray) w:=by
  intro vs hl hv
  rw[q49,Array.mapM_eq_foldlM,<-Array.foldlM_toList]
  have:=hv #[]
  simp only[Array.empty_append] at this
  simp only[Sem.run_bind,Sem.run_pure]
  rw[this]
  rfl
 have single:∀ rt:Ty,valT rt=true->frozen rt=true->(x:den rt)->(match fn.results.toList with
  | [r]=>resV1 P st rt r
  | _=>none)=some x->∃ v,(results fn a.tmps).run P w=.ok v w/\vrep w (fun k=>F0 k∨base.own k) noRef rt x v:=by
  intro rt hv hf x h
  split at h<;>try (simp at h;done)
  rename_i r hr
  obtain⟨v,h1,h2⟩:=q7A (P:=P) hs hv hf h
  refine⟨v,?_,h2⟩
  rw[main [v] (by rw[hr];rfl) (fun acc=>by rw[hr];simp[h1])]
  rfl
 cases rt with
 | tup c=>
  simp only[rtOk,Bool.and_eq_true,Bool.not_eq_true'] at hrt
  obtain⟨⟨h1,h2⟩,h3⟩:=hrt
  simp only[q3h] at h
  obtain⟨vs,l1,l2,l3⟩:=resL_ok (P:=P) hs c _ x h1 h2 h
  refine⟨_,main vs l1 l2,?_⟩
  have hne:¬ vs.toArray.size=1:=by
   simp only[List.size_toArray,l1,Array.length_toList]
   intro e;rw[e] at h3;simp at h3
  rw[dif_neg hne]
  exact⟨vs.toArray,rfl,by simpa using l3⟩
 | _=>
  simp only[rtOk,Bool.and_eq_true] at hrt
  exact single _ hrt.1.1 hrt.1.2 x h
theorem q6o {F:Nat->Prop}:∀ (xs:List V) (vals:List Value),vreps w F xs vals->xs.length=vals.length/\∀ n v,nthV xs n=some v->∃ x,vals[n]?=some x/\vrep w F noRef v.t v.x x
 | [],[],_=>⟨rfl,fun n v h=>by simp[nthV] at h⟩
 | v :: xs,x :: vals,h=>by
  obtain⟨h1,h2⟩:=q6o xs vals h.2
  refine⟨by simp[h1],fun n u hu=>?_⟩
  cases n with
  | zero=>simp only[nthV,Option.some.injEq] at hu;subst hu;exact⟨x,rfl,h.1⟩
  | succ n=>exact h2 n u hu
 | [],_ :: _,h | _ :: _,[],h=>h.elim
theorem qan (xs:List V):PoolsOk noRef (entry xs).heap (entry xs).used:=
 ⟨fun _ _=>rfl,fun b hb=>(by simp[entry,resv,hb]),fun _ _ _ _ e=>(by cases e),fun b c k k' r r' _ hb=>(by
  obtain⟨_,_,_,_,_,_,_,_,e,_⟩:=q0a hb
  cases e),fun _ _ _ _=>rfl⟩
theorem q6R {xs:List V} {vals:List Value} {n:Nat} (hlen:Nat.ble xs.length n=true) (hF:∀ b,F b->b<w.heap.size) (hv:vreps w F xs vals):
 Ok (freshM (u8of P) w.heap.size) w F n (entry xs) { tmps:=vals.toArray ++ Array.replicate (n - vals.toArray.size) undef,defers:=[] } w:=by
 obtain⟨hl,hn⟩:=q6o xs vals hv
 have hlen':vals.length<=n:=by rw[<-hl];exact Nat.le_of_ble_eq_true hlen
 refine⟨by simp;omega,F,noRef,⟨?_,?_,?_,?_,hF,fun b h=>.inl h,Keep.refl _ _,Nat.le_refl _,fun n h=>by simp[entry,resv,h],qan xs,fun _ _ _ _ h=>by simp[freshM] at h,rfl⟩⟩
 . intro s v hs
   obtain⟨x,hx,q⟩:=hn s v hs
   have hs':s<vals.length:=by
    rcases Nat.lt_or_ge s vals.length with h' | h'
    . exact h'
    . rw[List.getElem?_eq_none h'] at hx;simp at hx
   have:(vals.toArray ++ Array.replicate (n - vals.toArray.size) undef).getD s undef=x:=by
    rw[Array.getD_eq_getD_getElem?,Array.getElem?_append_left (by simpa using hs')]
    simp[hx]
   rw[this];exact q
 . intro b k hb';simp[entry] at hb'
 . intro b r hb';simp[noRef] at hb'
 . intro b c k k' r r' _ hb';simp[entry] at hb'
theorem q02 {f:FuncId} {fn:Func} {c:Code} {ann:Ann} {xs:List V} {rt:Ty} {Q:den rt->Prop} (hf:P.funcs[f]?=some fn) (hb:fn.body=some c)
 (hc:∀ args w,(callFunc f args).run P w=.ok (.enter f args) w) (hrt:rtOk rt fn.results.size=true) (hlen:Nat.ble xs.length fn.ntmps=true) (hex:∃ r,Q r)
 (h:wpC P fn.ntmps c ann (retK P fn.results.toList rt Q) (entry xs)):callV P f xs rt Q:=by
 refine⟨hc,hex,fun w F vals hF hg hv=>?_⟩
 have hok:=q6R (P:=P) (F:=F) hlen hF hv
 refine calls_of_wp hf hb (wp_mono (wpC_sound ⟨rfl,fun _ hb=>hg.below hb.below⟩ c ann _ _ _ _ h hok) ?_)
 rintro e a w' ⟨st,hk,_,F',ι,hs⟩
 have fin:(match q3h P st rt fn.results.toList with
  | some r=>Q r
  | none=>False)->a.defers=[]/\∃ v,(results fn a.tmps).run P w'=.ok v w'/\∃ v_1 r,Ending.returned v=.returned v_1/\vrep w' (fun k=>F k∨w.heap.size<=k) noRef rt r v_1/\Q r/\Below w.heap.size w w':=by
  intro hk
  split at hk<;>try exact hk.elim
  rename_i r hr
  obtain⟨v,h1,h2⟩:=resAll_ok (P:=P) hs hrt hr
  exact⟨hs.defers,v,h1,v,r,rfl,vrep_mono (fun _ h=>h.imp id freshM_own) (fun _ _ h=>h) (fun _ _=>rfl) h2,hk,hs.below.below⟩
 cases e with
 | normal=>exact fin hk
 | ret=>exact fin hk
 | _=>exact hk.elim
def resVv (P:Program) (st:St):ResultVar->Option V
 | .tmp t=>st.env t
 | .cell a t=>match st.env a with
  | some ⟨.ref b o,_⟩=>match tinf P t with
   | some (ag,n)=>loadV st.heap ag n ⟨.ref b o,()⟩
   | none=>none
  | _=>none
def q48 (P:Program) (st:St) (t:Ty):List ResultVar->Option (Option (List (den t)))
 | [r]=>match resVv P st r with
  | some ⟨.own b,_⟩=>match st.heap b with
   | some (.arr t' l)=>castT (.sl t) (.sl t') l
   | _=>none
  | some ⟨.cst .nilSl,_⟩=>bif valT t then some none else none
  | _=>none
 | _=>none
def retO (P:Program) (rs:List ResultVar) (t:Ty) (Q:Option (List (den t))->Prop):Kont:=fun e st=>
 match e with
 | .normal=>match q48 P st t rs with
  | some r=>Q r
  | none=>False
 | .ret=>match q48 P st t rs with
  | some r=>Q r
  | none=>False
 | _=>False
theorem q5S (hs:Sim base w0 F0 F ι st a w) {r:ResultVar} {v:V} (h:resVv P st r=some v):∃ x,(resF a.tmps r).run P w=.ok x w/\vrep w F ι v.t v.x x:=by
 cases r with
 | tmp t=>exact⟨_,rfl,hs.env _ _ h⟩
 | cell p t=>
  simp only[resVv] at h
  split at h<;>try (simp at h;done)
  rename_i b o _ hv
  split at h<;>try (simp at h;done)
  rename_i ag n ht
  have hp:=hs.env _ _ hv
  have hp':=hp
  rw[vrep_cell rfl] at hp';simp only[rep] at hp'
  obtain⟨r,hr,e⟩:=hp'
  simp only[List.cons.injEq,and_true] at e
  obtain⟨val,h1,h2⟩:=q5A (P:=P) hs.heap ht (v:=⟨.ref b o,()⟩) hp h
  refine⟨val,?_,h2⟩
  rw[e] at h1
  simp only[Instr.loadAt,Instr.sureAddr,Sem.run_bind,Sem.run_pure,Result.andThen_ok] at h1
  simp only[resF,e,asAddr,Sem.run_bind,Sem.run_pure,Result.andThen_ok,h1]
theorem ownV.val {f:FuncId} {xs:List V} {t:Ty} {Q:Option (List (den t))->Prop} (h:ownV P f xs t Q):callV P f xs (.sl t) Q:=by
 refine⟨h.call,h.ex,fun w F vals hF hg hv=>(h.run w F vals hF hg hv).mono ?_⟩
 rintro e w' ⟨r,l,rfl,⟨F',_,f2,hb⟩,hq,hbl⟩
 refine⟨_,l,rfl,?_,hq,hbl⟩
 rw[vrep_cell rfl]
 obtain⟨_,q⟩:=hb
 cases l with
 | none=>simp only at q;simp only[rep,Ref.val,q,if_true]
 | some l=>
  obtain⟨q1,q2,q3,q4,q5,q6,cells,el,qe,q7,q8,q9⟩:=q
  simp only[rep,Ref.val,q1,if_false,Bool.false_eq_true,q3]
  exact⟨⟨r.blk,r.off,none⟩,r.cap,rfl,by omega,fun _=>⟨cells,el,(0,0),rfl,.inr (freshM_own q5),q7,fun i y hy=>rep_mono (fun k h=>(f2 k h).1) (fun _ _ h=>h) (fun _ _=>rfl) _ _ _ (q9 i y hy)⟩⟩
theorem q2m {f:FuncId} {fn:Func} {c:Code} {ann:Ann} {xs:List V} {t:Ty} {Q:Option (List (den t))->Prop} (hf:P.funcs[f]?=some fn) (hb:fn.body=some c)
 (hc:∀ args w,(callFunc f args).run P w=.ok (.enter f args) w) (hrt:frozen t=true) (hlen:Nat.ble xs.length fn.ntmps=true) (hex:∃ r,Q r)
 (h:wpC P fn.ntmps c ann (retO P fn.results.toList t Q) (entry xs)):ownV P f xs t Q:=by
 refine⟨hc,hex,fun w F vals hF hg hv=>?_⟩
 have hok:=q6R (P:=P) (F:=F) hlen hF hv
 refine calls_of_wp hf hb (wp_mono (wpC_sound ⟨rfl,fun _ hb=>hg.below hb.below⟩ c ann _ _ _ _ h hok) ?_)
 rintro e a w' ⟨st,hk,_,F',ι,hs⟩
 have fin:(match q48 P st t fn.results.toList with
  | some r=>Q r
  | none=>False)->a.defers=[]/\∃ v,(results fn a.tmps).run P w'=.ok v w'/\∃ (r:Ref) (l:Option (List (den t))),Ending.returned v=.returned r.val/\(∃ F':Nat->Prop,(∀ k,F k->F' k)/\(∀ k,F' k->(F k∨w.heap.size<=k)/\k<w'.heap.size)/\brep w' (freshM (u8of P) w.heap.size) F' noRef r (.arr t l))/\Q l/\Below w.heap.size w w':=by
  intro hk
  split at hk<;>try exact hk.elim
  rename_i l hr
  unfold q48 at hr
  split at hr<;>try (simp at hr;done)
  rename_i rv hrs
  split at hr<;>try (simp at hr;done)
  rotate_left
  . rename_i hv'
    obtain⟨val,q1,q2⟩:=q5S (P:=P) hs hv'
    obtain⟨hval,rfl⟩:=bif_some hr
    rw[q0r] at q2
    subst q2
    refine⟨hs.defers,nilRef.val,?_,nilRef,none,rfl,⟨F,fun _ h=>h,fun k hk=>⟨.inl hk,Nat.lt_of_lt_of_le (hF _ hk) hs.below.size⟩,hval,rfl⟩,hk,hs.below.below⟩
    rw[q49,Array.mapM_eq_foldlM,<-Array.foldlM_toList,hrs]
    simp only[List.foldlM_cons,List.foldlM_nil,Sem.run_bind,Sem.run_map,q1,Result.andThen_ok,Sem.run_pure]
    rfl
  rename_i b _ hv'
  split at hr<;>try (simp at hr;done)
  rename_i t' l' hl
  obtain⟨val,q1,q2⟩:=q5S (P:=P) hs hv'
  obtain⟨r,hr',hbr⟩:=hs.heap _ _ hl
  rw[vrep_cell rfl] at q2;simp only[rep] at q2
  obtain⟨r',hr'',e⟩:=q2
  rw[hr'] at hr'';cases hr''
  simp only[List.cons.injEq,and_true] at e
  subst e
  obtain⟨e,rfl⟩:=castT_some hr
  cases e
  refine⟨hs.defers,r.val,?_,r,l',rfl,⟨fun k=>F k∨F' k,fun _ h=>.inl h,fun k hk=>?_,?_⟩,hk,hs.below.below⟩
  . rw[q49,Array.mapM_eq_foldlM,<-Array.foldlM_toList,hrs]
    simp only[List.foldlM_cons,List.foldlM_nil,Sem.run_bind,Sem.run_map,q1,Result.andThen_ok,Sem.run_pure]
    rfl
  . rcases hk with hk | hk
    . exact⟨.inl hk,Nat.lt_of_lt_of_le (hF _ hk) hs.below.size⟩
    . exact⟨(hs.fin _ hk).imp id freshM_own,hs.fsize _ hk⟩
  . obtain⟨p0,p⟩:=hbr
    refine⟨p0,?_⟩
    cases l' with
    | none=>exact p
    | some l'=>
     obtain⟨p1,p2,p3,p4,p5,p6,cells,el,pe,p7,p8,p9⟩:=p
     exact⟨p1,p2,p3,p4,p5,fun hf=>hf.elim (fun hf=>by have:=hF _ hf;have:=freshM_own p5;omega) p6,cells,el,pe,p7,p8,fun i y hy=>rep_mono (fun _ h=>.inr h) (fun _ _ h=>h) (fun _ _=>rfl) _ _ _ (rep_frozen (ι':=noRef) _ _ _ hrt (p9 i y hy))⟩
 cases e with
 | normal=>exact fin hk
 | ret=>exact fin hk
 | _=>exact hk.elim
end
end Go.VM
namespace Go.VM
open Go Go.RowKit
def retSt (P:Program) (st:St) (rs:List ResultVar):St:=
 ⟨fun s=>bif Nat.ble 1000 s && Nat.blt s 1064 then (match st.heap (1000000000+(s - 1000)) with
  | some (.box _ _)=>some ⟨.ref (1000000000+(s - 1000)) 0,()⟩
  | some (.arr _ _)=>some ⟨.own (1000000000+(s - 1000)),()⟩
  | _=>none)
  else match rs[s]? with
   | some r=>resVv P st r
   | none=>none,st.heap,st.used⟩
def q2E (P:Program) (st:St):List ResultVar->Bool
 | []=>true
 | r :: l=>(match resVv P st r with
  | some _=>true
  | none=>false) && q2E P st l
def retQ (P:Program) (rs:List ResultVar) (L:Lend) (Q:Pay L.out.ents->Prop) (st:St):Prop:=
 bif q2E P st rs then match unpack L.out (retSt P st rs) with
  | some q=>Q q
  | none=>False
 else False
def retL (P:Program) (rs:List ResultVar) (L:Lend) (Q:Pay L.out.ents->Prop):Kont:=fun e st=>
 match e with
 | .normal=>retQ P rs L Q st
 | .ret=>retQ P rs L Q st
 | _=>False
section
variable {P:Program} {base:Mine} {w0 w:World} {F0 F:Nat->Prop} {ι:Nat->Option Ref} {N:Nat} {st:St} {a:Act}
theorem q6r (hs:Sim base w0 F0 F ι st a w):∀ (rs:List ResultVar),q2E P st rs=true->
 ∃ vs:List Value,vs.length=rs.length/\(∀ acc:Array Value,(rs.foldlM (fun (acc:Array Value) (r:ResultVar)=>acc.push <$> resF a.tmps r) acc).run P w=.ok (acc ++ vs.toArray) w) /\
  ∀ (i:Nat) (r:ResultVar) (v:V),rs[i]?=some r->resVv P st r=some v->∃ x,vs[i]?=some x/\vrep w F ι v.t v.x x
 | [],_=>⟨[],rfl,fun acc=>by simp,fun i r v h=>by simp at h⟩
 | r :: l,h=>by
  simp only[q2E,Bool.and_eq_true] at h
  obtain⟨h1,h2⟩:=h
  cases e:resVv P st r with
  | none=>rw[e] at h1;simp at h1
  | some v=>
   obtain⟨x,hx,hv⟩:=q5S (P:=P) hs e
   obtain⟨vs,q1,q2,q3⟩:=q6r hs l h2
   refine⟨x :: vs,by simp[q1],fun acc=>?_,fun i r' v' hr hv'=>?_⟩
   . simp only[List.foldlM_cons,Sem.run_bind,Sem.run_map,hx,Result.andThen_ok,q2]
     congr 1
     simp
   . cases i with
     | zero=>
      simp only[List.getElem?_cons_zero,Option.some.injEq] at hr;subst hr
      rw[e] at hv';cases hv'
      exact⟨x,rfl,hv⟩
     | succ i=>
      simp only[List.getElem?_cons_succ] at hr
      simpa using q3 i r' v' hr hv'
theorem retSt_ok (hs:Sim base w0 F0 F ι st a w) {rs:List ResultVar} {vs:List Value} (hl:vs.length=rs.length) (hk:rs.length<=900) (hvs:∀ (i:Nat) (r:ResultVar) (v:V),rs[i]?=some r->resVv P st r=some v->∃ x,vs[i]?=some x/\vrep w F ι v.t v.x x):
 ∃ a':Act,resVal rs.length a'.tmps=(if rs.length=1 then vs.getD 0 undef else .tuple vs.toArray)/\Sim base w0 F0 F ι (retSt P st rs) a' w:=by
 let gh:Nat->Value:=fun s=>match ι (1000000000+(s - 1000)) with
  | some r=>(match st.heap (1000000000+(s - 1000)) with
   | some (.arr _ _)=>r.val
   | _=>.pointer (some ⟨r.blk,r.off+0,none⟩))
  | none=>undef
 let tm:Array Value:=(vs ++ (List.range 2000).map fun i=>gh (i+rs.length)).toArray
 have t1:∀ i,i<rs.length->tm.getD i undef=vs.getD i undef:=by
  intro i hi
  simp only[tm,Array.getD_eq_getD_getElem?,List.getElem?_toArray,List.getD]
  rw[List.getElem?_append_left (by omega)]
 have t2:∀ i,rs.length<=i->i<2000->tm.getD i undef=gh i:=by
  intro i h1 h2
  simp only[tm,Array.getD_eq_getD_getElem?,List.getElem?_toArray]
  rw[List.getElem?_append_right (by omega),hl,List.getElem?_map,List.getElem?_range (by omega)]
  simp only[Option.map_some,Option.getD_some]
  congr 1;omega
 refine⟨{ a with tmps:=tm },?_,?_⟩
 . unfold resVal
   split
   . rename_i h;exact t1 0 (by omega)
   . congr 1
     apply congrArg List.toArray
     apply List.ext_getElem?
     intro i
     by_cases hi:i<rs.length
     . rw[List.getElem?_map,List.getElem?_range hi,Option.map_some,t1 i hi]
       simp only[List.getD]
       rw[List.getElem?_eq_getElem (by omega)];rfl
     . rw[List.getElem?_eq_none (by simp;omega),List.getElem?_eq_none (by omega)]
 . refine { hs with env:=?_,defers:=hs.defers }
   intro s v hv
   simp only[retSt] at hv
   show vrep w F ι v.t v.x (tm.getD s undef)
   cases hb:(Nat.ble 1000 s && Nat.blt s 1064) with
   | true=>
    rw[hb] at hv
    simp only[Bool.and_eq_true] at hb
    have h1:1000<=s:=Nat.le_of_ble_eq_true hb.1
    have h2:s<1064:=Nat.le_of_ble_eq_true hb.2
    simp only[cond_true] at hv
    split at hv<;>try (simp at hv;done)
    all_goals (
     rename_i t x hh
     simp only[Option.some.injEq] at hv;subst hv
     rw[t2 s (by omega) (by omega),vrep_cell rfl]
     obtain⟨r,hr,q⟩:=hs.heap _ _ hh
     refine⟨r,hr,?_⟩
     simp only[gh,hr,hh])
   | false=>
    rw[hb] at hv
    simp only[cond_false] at hv
    split at hv<;>try (simp at hv;done)
    rename_i r hr
    obtain⟨x,hx,hv'⟩:=hvs s r v hr hv
    have hi:s<rs.length:=by
     rcases Nat.lt_or_ge s rs.length with h | h
     . exact h
     . rw[List.getElem?_eq_none h] at hr;simp at hr
    rw[t1 s hi]
    simp only[List.getD,hx];exact hv'
theorem q0g {f:FuncId} {fn:Func} {c:Code} {ann:Ann} {n:Nat} {L:Lend} {p:Pay L.inn.ents} {Q:Pay L.out.ents->Prop} (hf:P.funcs[f]?=some fn) (hb:fn.body=some c)
 (hc:∀ args w,(callFunc f args).run P w=.ok (.enter f args) w) (hk:(Nat.beq L.k fn.results.size && Nat.ble fn.results.size 900)=true) (hex:∃ q,Q q)
 (hn:Nat.ble n fn.ntmps=true) (h:wpC P fn.ntmps c ann (retL P fn.results.toList L Q) (pack L.inn p)):lendV P f n L p Q:=by
 refine⟨hc,hex,fun base w F ι a hbn hb8 han hs hg=>?_⟩
 have hn:=Nat.le_of_ble_eq_true hn
 simp only[Bool.and_eq_true,Nat.beq_eq] at hk
 have hk2:=Nat.le_of_ble_eq_true hk.2
 have hok:Ok base w F fn.ntmps (pack L.inn p) { tmps:=a.tmps ++ Array.replicate (fn.ntmps - a.tmps.size) undef,defers:=[] } w:=by
  refine⟨by simp;omega,F,ι,{ hs with env:=?_,defers:=rfl }⟩
  intro s v hv
  have:=hs.env s v hv
  have e:(a.tmps ++ Array.replicate (fn.ntmps - a.tmps.size) undef).getD s undef=a.tmps.getD s undef:=by
   simp only[Array.getD_eq_getD_getElem?]
   by_cases h1:s<a.tmps.size
   . rw[Array.getElem?_append_left h1]
   . rw[Array.getElem?_append_right (by omega),Array.getElem?_eq_none (xs:=a.tmps) (by omega),Array.getElem?_replicate]
     split<;>rfl
  show vrep w F ι v.t v.x ((a.tmps ++ Array.replicate (fn.ntmps - a.tmps.size) undef).getD s undef)
  rw[e];exact this
 refine calls_of_wp hf hb (wp_mono (wpC_sound ⟨hb8,hg⟩ c ann _ _ _ _ h hok) ?_)
 rintro e a1 w' ⟨st,hq,_,F',ι',hs'⟩
 have fin:retQ P fn.results.toList L Q st->a1.defers=[]/\∃ v,(results fn a1.tmps).run P w'=.ok v w'/\∃ q F' ι' a',Ending.returned v=.returned (resVal L.k a'.tmps)/\Q q/\Sim base w F F' ι' (pack L.out q) a' w':=by
  intro hq
  unfold retQ at hq
  cases ha:q2E P st fn.results.toList<;>rw[ha] at hq
  . exact hq.elim
  simp only[cond_true] at hq
  split at hq<;>try exact hq.elim
  rename_i q hu
  obtain⟨vs,q1,q2,q3⟩:=q6r (P:=P) hs' _ ha
  obtain⟨a',r1,r2⟩:=retSt_ok (P:=P) hs' q1 (by simp;omega) q3
  obtain⟨_,F2,ι2,hs2⟩:=unpack_ok (N:=a'.tmps.size) hu ⟨rfl,F',ι',r2⟩
  refine⟨hs'.defers,_,?_,q,F2,ι2,a',rfl,hq,hs2⟩
  have e1:fn.results.toList.length=L.k:=by rw[hk.1];simp
  rw[e1] at r1
  rw[r1,q49,Array.mapM_eq_foldlM,<-Array.foldlM_toList]
  simp only[Sem.run_bind,q2,Result.andThen_ok,Sem.run_pure]
  congr 1
  have e2:vs.length=L.k:=by rw[q1,e1]
  by_cases h1:L.k=1
  . rw[if_pos h1]
    have e3:vs.length=1:=by omega
    match vs,e3 with
    | [x],_=>rfl
  . rw[if_neg h1]
    have e3:¬ (#[] ++ vs.toArray).size=1:=by simp;omega
    rw[dif_neg e3];simp
 cases e with
 | normal=>exact fin hq
 | ret=>exact fin hq
 | _=>exact hq.elim
end
end Go.VM
namespace Go.VM
open Go Go.RowKit
def okVars:Nat->List Ent->Bool
 | _,[]=>true
 | k,.var n _ :: l=>Nat.beq n k && okVars (k+1) l
 | _,_=>false
def varsL:(l:List Ent)->Pay l->List V
 | [],_=>[]
 | [.var _ t],x=>[⟨t,x⟩]
 | .var _ t :: e :: l,p=>⟨t,p.1⟩ :: varsL (e :: l) p.2
 | _,_=>[]
theorem q7s:∀ (l:List Ent) (k:Nat) (p:Pay l) (st:St),okVars k l=true->(packL l p st).heap=st.heap/\(packL l p st).used=st.used /\
 ∀ s v,(packL l p st).env s=some v->st.env s=some v∨(k<=s/\nthV (varsL l p) (s - k)=some v)
 | [],_,_,_,_=>⟨rfl,rfl,fun _ _ h=>.inl h⟩
 | [.var n t],k,x,st,h=>by
  simp only[okVars,Bool.and_eq_true,Nat.beq_eq] at h
  obtain⟨rfl,_⟩:=h
  refine⟨rfl,rfl,fun s v hv=>?_⟩
  rcases upd_some hv with ⟨rfl,e⟩ | ⟨_,e⟩
  . cases e;exact .inr ⟨Nat.le_refl _,by rw[Nat.sub_self];rfl⟩
  . exact .inl e
 | .var n t :: e :: l,k,p,st,h=>by
  simp only[okVars,Bool.and_eq_true,Nat.beq_eq] at h
  obtain⟨rfl,h⟩:=h
  obtain⟨h1,h2,h3⟩:=q7s (e :: l) (n+1) p.2 (packE1 (.var n t) p.1 st) h
  refine⟨h1,h2,fun s v hv=>?_⟩
  rcases h3 s v hv with h4 | ⟨h4,h5⟩
  . rcases upd_some h4 with ⟨rfl,e⟩ | ⟨_,e⟩
    . cases e;exact .inr ⟨Nat.le_refl _,by rw[Nat.sub_self];rfl⟩
    . exact .inl e
  . refine .inr ⟨by omega,?_⟩
    rw[show s - n=(s - (n+1))+1 by omega]
    exact h5
 | .box _ _ :: _,_,_,_,h | .arr _ _ :: _,_,_,_,h | .pool _ _ :: _,_,_,_,h=>by cases h
def lenT:Ty->Nat
 | .pair _ b=>lenT b+1
 | _=>0
def out1 (so:St) (t:Ty) (i:Nat):Option (den t):=
 match so.env i with
 | some v=>bif valT t && frozen t then coe so.heap t v.t v.x else none
 | none=>none
def outC (so:St):(c:Ty)->Nat->Option (den c)
 | .unit,_=>some ()
 | .pair a b,i=>match out1 so a i with
  | some x=>match outC so b (i+1) with
   | some y=>some (x,y)
   | none=>none
  | none=>none
 | _,_=>none
def outR (so:St) (k:Nat):(rt:Ty)->Option (den rt)
 | .tup c=>bif !Nat.beq k 1 && Nat.beq (lenT c) k then outC so c 0 else none
 | rt=>bif Nat.beq k 1 then out1 so rt 0 else none
section
variable {P:Program} {base:Mine} {w0 w:World} {F0 F:Nat->Prop} {ι:Nat->Option Ref} {st:St} {a:Act}
theorem out1_ok (hs:Sim base w0 F0 F ι st a w) {t:Ty} {i:Nat} {x:den t} (h:out1 st t i=some x):valT t=true/\vrep w (fun k=>F0 k∨base.own k) noRef t x (a.tmps.getD i undef):=by
 unfold out1 at h
 split at h<;>try (simp at h;done)
 rename_i v hv
 obtain⟨hc,h⟩:=q1A h
 simp only[Bool.and_eq_true] at hc
 exact⟨hc.1,q5l hs hc.1 hc.2 (hs.env _ _ hv) h⟩
theorem outC_ok (hs:Sim base w0 F0 F ι st a w):∀ (c:Ty) (i:Nat) (x:den c),outC st c i=some x->trep w (fun k=>F0 k∨base.own k) noRef c x ((List.range' i (lenT c)).map fun i=>a.tmps.getD i undef)
 | .unit,_,_,_=>rfl
 | .pair c d,i,x,h=>by
  simp only[outC] at h
  split at h<;>try (simp at h;done)
  rename_i y hy
  split at h<;>try (simp at h;done)
  rename_i z hz
  simp only[Option.some.injEq] at h;subst h
  obtain⟨h1,h2⟩:=out1_ok hs hy
  have h3:=outC_ok hs d (i+1) z hz
  simp only[trep,lenT,List.range'_succ,List.map_cons]
  exact⟨_,_,rfl,(vrep_vrep1 h1).1 h2,h3⟩
 | .int _,_,_,h | .bool,_,_,h | .str,_,_,h | .cst _,_,_,h | .sl _,_,_,h | .agg _,_,_,h | .arr _ _,_,_,h | .tup _,_,_,h
 | .ref _ _,_,_,h | .own _,_,_,h | .eref _ _,_,_,h | .fref _,_,_,h | .vw _,_,_,h | .clo _ _,_,_,h | .hd _,_,_,h | .her _ _,_,_,h | .bref _ _ _,_,_,h | .nul,_,_,h=>by cases h
theorem outR_ok (hs:Sim base w0 F0 F ι st a w) {k:Nat} {rt:Ty} {x:den rt} (h:outR st k rt=some x):vrep w (fun k=>F0 k∨base.own k) noRef rt x (resVal k a.tmps):=by
 have one:∀ rt:Ty,(x:den rt)->(bif Nat.beq k 1 then out1 st rt 0 else none)=some x->vrep w (fun k=>F0 k∨base.own k) noRef rt x (resVal k a.tmps):=by
  intro rt x h
  obtain⟨hk,h⟩:=q1A h
  rw[resVal,if_pos (Nat.eq_of_beq_eq_true hk)]
  exact (out1_ok hs h).2
 cases rt with
 | tup c=>
  simp only[outR] at h
  obtain⟨hk,h⟩:=q1A h
  simp only[Bool.and_eq_true,Bool.not_eq_true',Nat.beq_eq] at hk
  have hne:¬ k=1:=fun e=>by rw[e] at hk;exact absurd hk.1 (by decide)
  rw[resVal,if_neg hne,<-hk.2]
  refine⟨_,rfl,?_⟩
  rw[List.range_eq_range']
  exact outC_ok hs c 0 x h
 | _=>exact one _ x h
end
theorem q1E {P:Program} {f:FuncId} {L:Lend} {p:Pay L.inn.ents} {rt:Ty} {Q':Pay L.out.ents->Prop} {Q:den rt->Prop} (h:lendV P f (varsL L.inn.ents p).length L p Q')
 (hq:∀ q,Q' q->∃ y,outR (pack L.out q) L.k rt=some y/\Q y) (hin:(okVars 0 L.inn.ents && L.inn.csts.isEmpty)=true:=by rfl):callV P f (varsL L.inn.ents p) rt Q:=by
 simp only[Bool.and_eq_true,List.isEmpty_iff] at hin
 refine⟨h.call,let ⟨q,hr⟩:=h.ex;let ⟨y,_,hy⟩:=hq q hr;⟨y,hy⟩,fun w F vals hF hg hv=>?_⟩
 obtain⟨hl,hn⟩:=q6o _ vals hv
 obtain⟨e1,e2,e3⟩:=q7s L.inn.ents 0 p (packC L.inn.csts ⟨fun _=>none,fun _=>none,fun n=>memN n L.inn.names || resv n⟩) hin.1
 rw[hin.2] at e1 e2 e3
 have hu:∀ n,resv n=true->(pack L.inn p).used n=true:=by
  intro n hn
  unfold pack
  rw[hin.2,e2]
  simp[packC,hn]
 have hh:(pack L.inn p).heap=fun _=>none:=by
  unfold pack
  rw[hin.2,e1];rfl
 have hsim:Sim (freshM (u8of P) w.heap.size) w F F noRef (pack L.inn p) { tmps:=vals.toArray,defers:=[] } w:=by
  refine⟨?_,?_,?_,?_,hF,fun b h=>.inl h,Keep.refl _ _,Nat.le_refl _,fun n h=>hu n (by simp[resv,h]),⟨fun _ _=>by rw[hh],fun b hb=>hu b (by simp[resv,hb]),(fun _ _ _ _ e=>by rw[hh] at e;cases e),fun b c k k' r r' _ hb=>?_,fun _ _ _ _=>rfl⟩,fun _ _ _ _ h=>by simp[freshM] at h,rfl⟩
  . intro s v hs
    unfold pack at hs
    rw[hin.2] at hs
    rcases e3 s v hs with h | ⟨_,h⟩
    . cases h
    . obtain⟨x,hx,q⟩:=hn s v h
      have:vals.toArray.getD s undef=x:=by
       rw[Array.getD_eq_getD_getElem?,List.getElem?_toArray,hx];rfl
      show vrep w F noRef v.t v.x (vals.toArray.getD s undef)
      rw[this];exact q
  . intro b k hb';rw[hh] at hb';cases hb'
  . intro b r hb';simp[noRef] at hb'
  . intro b c k k' r r' _ hb';rw[hh] at hb';cases hb'
  . obtain⟨_,_,_,_,_,_,_,_,e,_⟩:=q0a hb
    rw[hh] at e;cases e
 refine (h.run (freshM (u8of P) w.heap.size) w F noRef { tmps:=vals.toArray,defers:=[] } rfl rfl (by simp[hl]) hsim (fun _ hb=>hg.below hb.below)).mono ?_
 rintro e w' ⟨q,F',ι',a',rfl,hQ,hs⟩
 obtain⟨y,hy,hQy⟩:=hq q hQ
 exact⟨_,y,rfl,vrep_mono (fun _ h=>h.imp id freshM_own) (fun _ _ h=>h) (fun _ _=>rfl) (outR_ok hs hy),hQy,hs.below.below⟩
end Go.VM
