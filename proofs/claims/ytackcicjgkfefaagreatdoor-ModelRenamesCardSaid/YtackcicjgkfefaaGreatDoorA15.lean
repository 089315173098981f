/- Typed pure data, a condition on code that says what a call gives, what the code of each function comes to, and what each function gives. -/
import Derived.Test.YtackcicjgkfefaaGreatDoorA6
import Derived.Test.YtackcicjgkfefaaGreatDoorA9
import Derived.Test.YtackcicjgkfefaaGreatDoorA10
import Derived.Test.YtackcicjgkfefaaGreatDoorA13
set_option linter.unusedVariables false
set_option linter.unusedSimpArgs false
set_option linter.unnecessarySimpa false
namespace Go.Proofs.Pf
open Go Go.VM Go.RowKit
theorem pack_env {l:List Ent} (hl:∀ e∈l,∀ n t,e≠.var n t):∀ (p:Pay l) (st:St),(packL l p st).env=st.env:=by
 induction l with
 | nil=>intro p st;rfl
 | cons e l ih=>
  intro p st
  have h1:∀ x,(packE1 e x st).env=st.env:=by
   intro x
   cases e with
   | var n t=>exact absurd rfl (hl _ (by simp) n t)
   | box b t=>rfl
   | arr b t=>rfl
   | pool b t=>rfl
  cases l with
  | nil=>exact h1 p
  | cons e' l=>
   show (packL (e' :: l) p.2 (packE1 e p.1 st)).env=st.env
   rw[ih (fun e he=>hl e (by simp[he])),h1]
abbrev bShape (s:Nat) (a:Ty):Shape:=⟨[(s,.ref 1000000000 0)],[.box 1000000000 (.agg (.pair a (.own 700000))),.arr 700000 (.int .u8)]⟩
theorem b_env {s:Nat} {a:Ty} {p:Pay (bShape s a).ents} (n:Nat):(pack (bShape s a) p).env n=if n=s then some ⟨.ref 1000000000 0,()⟩ else none:=by
 show (packL _ p _).env n=_
 rw[pack_env (by intro e he n t h;subst h;simp at he)]
 simp only[packC,St.put]
 by_cases h:n=s
 . subst h;rw[upd_same,if_pos rfl]
 . rw[upd_other _ _ _ _ h,if_neg h]
theorem b_box {s:Nat} {a:Ty} (x:den a×Unit) (l:Option (List Int)) (n:Nat):(pack (bShape s a) ((x,l):Pay (bShape s a).ents)).heap n=if n=700000 then some (.arr (.int .u8) l) else if n=1000000000 then some (.box (.agg (.pair a (.own 700000))) x) else none:=by
 simp only[pack,packL,packE1,packC,St.put]
 by_cases h:n=700000
 . subst h;rw[upd_same,if_pos rfl]
 . rw[upd_other _ _ _ _ h,if_neg h]
   by_cases h':n=1000000000
   . subst h';rw[upd_same,if_pos rfl]
   . rw[upd_other _ _ _ _ h',if_neg h']
theorem b_open {base:Mine} {w:World} {F:Nat->Prop} {ι:Nat->Option Ref} {a:Act} {t:Ty} {x:den t×Unit} {l:Option (List Int)} (hs:Sim base w F F ι (pack (bShape 0 t) ((x,l):Pay (bShape 0 t).ents)) a w) (hn:a.tmps.size=1):
 ∃ r cells el,ι 1000000000=some r/\brep w base F ι r (.box (.agg (.pair t (.own 700000))) x)/\r.nil=false/\base.own r.blk/\¬ F r.blk/\w.heap[r.blk]?=some (.cells cells el (0,0))/\(bldT (.agg (.pair t (.own 700000)))=true->el=base.u8.2)/\r.off=0 /\
  rep w F ι (.agg (.pair t (.own 700000))) x cells.toList/\a.tmps = #[.pointer (some ⟨r.blk,0,none⟩)]:=by
 obtain⟨r,hr,hk⟩:=hs.heap 1000000000 _ (by rw[b_box];rfl)
 have hk0:=hk
 obtain⟨q1,q2,q3,q4,q5,cells,el,qb,q6,q7⟩:=hk
 refine⟨r,cells,el,hr,hk0,q1,q3,q4,q6,qb,q2,q7,?_⟩
 have he:=hs.env 0 ⟨.ref 1000000000 0,()⟩ (by rw[b_env];rfl)
 rw[vrep_cell rfl] at he
 simp only[rep] at he
 obtain⟨r',hr',e⟩:=he
 rw[hr] at hr';cases hr'
 simp only[List.cons.injEq,and_true] at e
 rw[q2,Nat.zero_add] at e
 apply Array.ext
 . simp[hn]
 . intro i h1 h2
   obtain rfl:i=0:=by omega
   rw[Array.getD_eq_getD_getElem?,Array.getElem?_eq_getElem h1] at e
   simpa using e
theorem b_close {base:Mine} {w w':World} {F:Nat->Prop} {ι:Nat->Option Ref} {a:Act} {t:Ty} {x:den t×Unit} {l:Option (List Int)} {heap:Nat->Option Blk} {env:Nat->Option V} {used:Nat->Bool} (hs:Sim base w F F ι ⟨env,heap,used⟩ a w')
 (hh:∀ n,(pack (bShape 1000 t) ((x,l):Pay (bShape 1000 t).ents)).heap n=heap n) (hu:∀ n,used n=(pack (bShape 1000 t) ((x,l):Pay (bShape 1000 t).ents)).used n) {r:Ref} (hr:ι 1000000000=some r) (h0:r.off=0):
 ∃ a',Sim base w F F ι (pack (bShape 1000 t) ((x,l):Pay (bShape 1000 t).ents)) a' w':=by
 refine⟨{ tmps:=Array.replicate 1001 (.pointer (some ⟨r.blk,0,none⟩)),defers:=[] },⟨?_,?_,?_,?_,hs.fsize,hs.fin,hs.below,hs.size,?_,?_,hs.pin,rfl⟩⟩
 . intro s v hv
   rw[b_env] at hv
   by_cases e:s=1000
   . subst e
     simp only[if_true,Option.some.injEq] at hv;subst hv
     refine (vrep_cell rfl).2 ⟨r,hr,?_⟩
     rw[h0]
     simp
   . rw[if_neg e] at hv;simp at hv
 . intro b k hb
   rw[hh] at hb
   exact hs.heap b k hb
 . intro b r' hb;rw[<-hu];exact hs.used b r' hb
 . intro b c k k' r1 r2 hbc hb hc
   rw[hh] at hb hc
   exact hs.apart b c k k' r1 r2 hbc hb hc
 . intro n hn;rw[<-hu];exact hs.upin n hn
 . rw[funext hh,<-funext hu];exact hs.pools
theorem q9o {l:Option (List Int)} {Q:Pay q2X.out.ents->Prop} (h:Q (((),()),l)):lendV Pg q3p 1 q2X (((),()),l) Q:=by
 refine⟨Tryz.call31,⟨_,h⟩,fun base w F ι a _ _ hn hs _=>?_⟩
 obtain⟨r,cells,el,hr,hk,q1,q3,q4,q6,qb,q2,q7,ha⟩:=b_open (t:=.ref 1000000000 0) hs hn
 simp only[rep] at q7
 obtain⟨c1,c2,e1,⟨r',hr',e2⟩,r2,_,e3⟩:=q7
 rw[hr] at hr';cases hr'
 rw[q2,Nat.zero_add] at e2
 rw[ha]
 have h0:w.cell? ⟨r.blk,0,none⟩=some (.pointer (some ⟨r.blk,0,none⟩)):=by
  rw[q0U q6,e1,e2];rfl
 refine (Any.Builder_copyCheck_used Tryz.lays240 Tryz.bX72 r.blk w h0).mono ?_
 rintro e w' ⟨rfl,rfl⟩
 obtain⟨a',ha'⟩:=b_close (t:=.ref 1000000000 0) (x:=((),())) (l:=l) hs (fun n=>by rw[b_box];exact (b_box _ _ _).symm) (fun n=>rfl) hr q2
 exact⟨(((),()),l),F,ι,a',rfl,h,ha'⟩
theorem q9n {l:Option (List Int)} {Q:Pay q2g.out.ents->Prop} (h:Q (((),()),l)):lendV Pg q3p 1 q2g (((),()),l) Q:=by
 refine⟨Tryz.call31,⟨_,h⟩,fun base w F ι a _ h8 hn hs _=>?_⟩
 obtain⟨r,cells,el,hr,hk,q1,q3,q4,q6,qb,q2,q7,ha⟩:=b_open (t:=.cst .nilPtr) hs hn
 simp only[rep] at q7
 obtain⟨c1,c2,e1,e2,r2,hr2,e3⟩:=q7
 rw[ha]
 have hcs:cells = #[.pointer none,r2.val]:=by
  apply Array.toList_inj.1
  rw[e1,e2,e3];rfl
 have hel:el=57:=by rw[qb rfl,h8];kernel_rfl
 have h0:w.cell? ⟨r.blk,0,none⟩=some (.pointer none):=by rw[q0U q6,hcs];rfl
 have hsh:w.shape? r.blk=some (el,2):=by simp[World.shape?,q6,hcs]
 have hfz:w.frozen? ⟨r.blk,0,none⟩=false:=by simp[World.frozen?,q6]
 rw[hel] at hsh
 refine (Any.Builder_copyCheck_fresh Tryz.lays240 Tryz.bX72 r.blk w h0 hsh hfz).mono ?_
 rintro e w' ⟨rfl,rfl⟩
 rw[setCell_eq_setRow w r.blk 0 cells el (0,0) _ q6]
 have hbx:(pack q2g.inn ((((),()),l):(Unit×Unit)×Option (List Int))).heap 1000000000=some (.box (.agg (.pair (.cst .nilPtr) (.own 700000))) ((),())):=
  (b_box (s:=0) (a:=.cst .nilPtr) ((),()) l 1000000000).trans (by rw[if_neg (by decide),if_pos rfl])
 have hs':=hs.write (b:=1000000000) (r:=r) (k':=.box (.agg (.pair (.ref 1000000000 0) (.own 700000))) ((),())) (cs:=cells.setIfInBounds 0 (.pointer (some ⟨r.blk,0,none⟩))) hbx hr q1 q3 q4
  ⟨q1,q2,q3,q4,rfl,_,el,fun _=>qb rfl,setRow_heap w _ _ _ _ _ q6,by
   simp only[rep]
   refine⟨[.pointer (some ⟨r.blk,0,none⟩)],[r2.val],by rw[hcs];rfl,⟨r,hr,by rw[q2]⟩,r2,hr2,rfl⟩⟩
 obtain⟨a',ha'⟩:=b_close (t:=.ref 1000000000 0) (x:=((),())) (l:=l) hs' (fun n=>by
  rw[b_box]
  show _=upd _ _ _ n
  by_cases e':n=1000000000
  . subst e';rw[upd_same];rfl
  . rw[upd_other _ _ _ _ e']
    refine Eq.trans ?_ (b_box (s:=0) (a:=.cst .nilPtr) ((),()) l n).symm
    rw[if_neg e',if_neg e']) (fun n=>by
  show (memN n (bShape 0 (.cst .nilPtr)).names || resv n)=(memN n (bShape 1000 (.ref 1000000000 0)).names || resv n)
  simp only[Shape.names,q1S,q0l,ids,List.cons_append,List.nil_append,memN]
  cases Nat.beq n 1000000000<;>cases Nat.beq n 700000<;>rfl) hr q2
 exact⟨(((),()),l),F,ι,a',rfl,h,ha'⟩
