/- Typed pure data, a condition on code that says what a call gives, what the code of each function comes to, and what each function gives. -/
import Derived.Test.YtackcicjgkfefaaGreatDoorProg
import Derived.Test.YtackcicjgkfefaaGreatDoorA6
import Derived.Test.YtackcicjgkfefaaGreatDoorA8
set_option linter.unusedVariables false
set_option linter.unusedSimpArgs false
set_option linter.unnecessarySimpa false
namespace Go.Proofs.Pf
open Go Go.VM
abbrev tEI:Ty:=.agg (.pair (.int .i64) (.sl (.int .u32)))
abbrev tER:Ty:=.agg (.pair tEI tEI)
abbrev tNum:Ty:=.agg (.pair (.int .i64) (.int .i64))
abbrev tI:Ty:=.int .i64
abbrev tD:Ty:=.sl (.int .u32)
abbrev tU:Ty:=.int .u32
abbrev tL:Ty:=.sl tI
abbrev tRI:Ty:=.agg (.pair tI (.pair .bool tL))
abbrev tRR:Ty:=.agg (.pair tRI tRI)
abbrev tBr:Ty:=.agg (.pair tI tNum)
abbrev tCh:Ty:=.agg (.pair tNum (.sl tBr))
abbrev tSt:Ty:=.agg (.pair tI (.pair tI (.sl tCh)))
abbrev tMo:Ty:=.agg (.sl tSt)
abbrev DL:=Option (List Int)
abbrev DBr:=Int×(Int×Int)
abbrev DCh:=(Int×Int)×Option (List DBr)
abbrev DSt:=Int×(Int×Option (List DCh))
abbrev DMo:=Option (List DSt)
abbrev DE:=Int×Option (List Int)
abbrev DR:=DE×DE
abbrev DRI:=Int×(Bool×Option (List Int))
abbrev DRR:=DRI×DRI
abbrev z0:DRR:=((0,false,none),0,false,none)
abbrev r0:DR:=((0,none),0,none)
def q01 (fn:Func):Code:=match fn.body with | some c=>c | none=>.skip
theorem kcast {a b:Prop} (h:a=b) (hb:b):a:=h ▸ hb
def bytesL (l:List Nat):ByteArray:=⟨⟨l.map UInt8.ofNat⟩⟩
noncomputable abbrev Pg:Program:=Go.Proofs.Tryz.prog
abbrev q5T:FuncId:=3
abbrev q4h:FuncId:=4
abbrev q2n:FuncId:=5
abbrev q4H:FuncId:=6
abbrev q3d:FuncId:=7
abbrev q3n:FuncId:=8
abbrev q4F:FuncId:=9
abbrev q4s:FuncId:=10
abbrev q4g:FuncId:=11
abbrev q4J:FuncId:=12
abbrev q4G:FuncId:=13
abbrev q4I:FuncId:=14
abbrev q3e:FuncId:=15
abbrev q4p:FuncId:=16
abbrev q4M:FuncId:=17
abbrev q06:FuncId:=18
abbrev q0O:FuncId:=19
abbrev q1t:FuncId:=20
abbrev q3f:FuncId:=21
abbrev q4O:FuncId:=22
abbrev q4P:FuncId:=23
abbrev q0t:FuncId:=24
abbrev q4K:FuncId:=25
abbrev q4t:FuncId:=26
abbrev q4q:FuncId:=27
abbrev q1L:FuncId:=28
abbrev q3o:FuncId:=29
abbrev q4k:FuncId:=30
abbrev q3p:FuncId:=31
abbrev q2o:FuncId:=33
abbrev q1M:FuncId:=34
abbrev q3k:FuncId:=35
abbrev q3j:FuncId:=36
abbrev q4C:FuncId:=37
abbrev q4y:FuncId:=38
abbrev q37:FuncId:=39
abbrev q4u:FuncId:=40
abbrev q48:FuncId:=41
abbrev q4c:FuncId:=42
abbrev q4r:FuncId:=43
abbrev q4N:FuncId:=44
abbrev q8S:FuncId:=45
abbrev q8Q:FuncId:=46
abbrev q8R:FuncId:=47
abbrev q8W:FuncId:=48
abbrev q8T:FuncId:=49
abbrev q8V:FuncId:=50
abbrev q8U:FuncId:=51
abbrev q4l:FuncId:=52
abbrev q4m:FuncId:=53
abbrev q34:FuncId:=56
abbrev q14:FuncId:=57
abbrev q47:FuncId:=58
abbrev q3g:FuncId:=59
abbrev q0F:FuncId:=60
abbrev q3h:FuncId:=61
abbrev q4x:FuncId:=62
abbrev q2q:FuncId:=63
abbrev q3i:FuncId:=64
abbrev q4z:FuncId:=65
abbrev q4B:FuncId:=66
abbrev q38:FuncId:=67
abbrev q36:FuncId:=68
abbrev q39:FuncId:=69
abbrev q2j:FuncId:=70
abbrev q1J:FuncId:=71
abbrev q4b:FuncId:=72
abbrev q4a:FuncId:=73
abbrev q4L:FuncId:=74
abbrev q35:FuncId:=84
abbrev q13:FuncId:=85
abbrev q2k:FuncId:=86
abbrev q0n:FuncId:=87
abbrev q2p:FuncId:=88
abbrev q4v:FuncId:=89
abbrev q4w:FuncId:=90
abbrev q1s:FuncId:=91
abbrev q15:FuncId:=92
abbrev q16:FuncId:=93
abbrev q4E:FuncId:=94
abbrev q2r:FuncId:=95
abbrev q2s:FuncId:=96
abbrev q4A:FuncId:=97
abbrev q0N:FuncId:=98
abbrev q0s:FuncId:=99
abbrev q3a:FuncId:=100
abbrev q2l:FuncId:=101
abbrev q1K:FuncId:=102
abbrev q1I:FuncId:=103
abbrev q4n:FuncId:=104
abbrev q4e:FuncId:=105
abbrev q49:FuncId:=106
abbrev q4f:FuncId:=112
abbrev q4d:FuncId:=113
abbrev q4D:FuncId:=114
abbrev q2m:FuncId:=115
abbrev q3c:FuncId:=116
abbrev q4o:FuncId:=117
abbrev q4i:FuncId:=120
abbrev q4j:FuncId:=121
abbrev q3b:FuncId:=122
abbrev q3l:FuncId:=123
abbrev q2t:FuncId:=124
abbrev q3m:FuncId:=125
end Go.Proofs.Pf
namespace Go.Proofs.Pf
open Go Go.VM
set_option maxRecDepth 100000
def q7b:Ann:=(.s (.s (.seq (.blk none (.loop ⟨[(2,.ref 2 0),(3,.ref 3 0),(4,.ref 4 0)],[.box 2 tEI,.box 3 tEI,.box 4 tEI]⟩ .nil)) .nil)))
theorem q9y {Q:DE->Prop} (a:DE) (b:DE) (hQ:∃ r,Q r) (h:
 (callV Pg q35 [⟨tEI,a⟩] tEI (fun p0=>callV Pg q35 [⟨tEI,b⟩] tEI (fun p1=>loopV (DE×DR) (fun k2  (i,j)=>callV Pg q13 [⟨tEI,j.1⟩] tI (fun p4=>brV (notB (decide (p4=(0:Int)))) (callV Pg q2k [⟨tEI,i⟩,⟨tEI,j.1⟩] (.tup (.pair tEI (.pair tEI .unit))) (fun p5=>k2 (j.1,p5.2.1,j.2))) (Q i))) (p0,p1,(0:Int),none))))):
 callV Pg q34 [⟨tEI,a⟩,⟨tEI,b⟩] tEI Q:=
 q02 (c:=q01 Tryz.f56) (ann:=q7b) Tryz.func56 rfl Tryz.call56 rfl rfl hQ (kcast (by kernel_rfl) h)
def q7c:Ann:=.nil
theorem q9z {Q:DE->Prop} (a:DE) (hQ:∃ r,Q r) (h:
 (brV (decide (a.1<(0:Int))) (callV Pg q1I [⟨tEI,a⟩] tEI (fun p0=>Q p0)) (Q a))):
 callV Pg q35 [⟨tEI,a⟩] tEI Q:=
 q02 (c:=q01 Tryz.f84) (ann:=q7c) Tryz.func84 rfl Tryz.call84 rfl rfl hQ (kcast (by kernel_rfl) h)
def q7d:Ann:=(.s (.seq (.seq (.reg [] [] (some ⟨[(2,.ref 2 0),(3,.ref 3 0),(4,.ref 4 0)],[.var 16 .bool,.box 2 tEI,.box 3 tEI,.box 4 tEI]⟩)) .nil) .nil))
theorem q9A {Q:DE->Prop} (a:DE) (b:DE) (hQ:∃ r,Q r) (h:
 (joinV (Bool×DE×DR) (fun (i,j,k)=>brV i (callV Pg q14 [⟨tI,IntKind.wrap IntKind.i64 (j.1+k.1.1)⟩] tEI (fun p1=>Q p1)) (callV Pg q0N [⟨tEI,j⟩] (.tup (.pair tI (.pair tD .unit))) (fun p1=>callV Pg q0N [⟨tEI,k.1⟩] (.tup (.pair tI (.pair tD .unit))) (fun p2=>brV (decide (p1.1=(0:Int))) (Q k.1) (brV (decide (p2.1=(0:Int))) (Q j) (brV (decide (p1.1=p2.1)) (callV Pg q3a [⟨tD,p1.2.1⟩,⟨tD,p2.2.1⟩] tD (fun p3=>callV Pg q0s [⟨tI,p1.1⟩,⟨tD,p3⟩] tEI (fun p4=>Q p4))) (callV Pg q2l [⟨tD,p1.2.1⟩,⟨tD,p2.2.1⟩] tI (fun p3=>brV (decide ((0:Int)<=p3)) (callV Pg q1K [⟨tD,p1.2.1⟩,⟨tD,p2.2.1⟩] tD (fun p4=>callV Pg q0s [⟨tI,p1.1⟩,⟨tD,p4⟩] tEI (fun p5=>Q p5))) (callV Pg q1K [⟨tD,p2.2.1⟩,⟨tD,p1.2.1⟩] tD (fun p4=>callV Pg q0s [⟨tI,p2.1⟩,⟨tD,p4⟩] tEI (fun p5=>Q p5))))))))))) (fun k0=>brV (Option.isNone a.2) (k0 (Option.isNone b.2,a,b,(0:Int),none)) (k0 (false,a,b,(0:Int),none))))):
 callV Pg q36 [⟨tEI,a⟩,⟨tEI,b⟩] tEI Q:=
 q02 (c:=q01 Tryz.f68) (ann:=q7d) Tryz.func68 rfl Tryz.call68 rfl rfl hQ (kcast (by kernel_rfl) h)
def q7e:Ann:=(.s (.seq (.seq (.reg [] [] (some ⟨[(2,.ref 2 0)],[.var 21 .bool,.box 2 tEI]⟩)) .nil) .nil))
theorem q9B {Q:(Int×(Bool×Unit))->Prop} (a:DE) (b:Int) (hQ:∃ r,Q r) (h:
 (joinV (Bool×DE) (fun (i,j)=>brV i (Q ((0:Int),false,())) (Q (j.1,true,()))) (fun k0=>brV (notB (Option.isNone a.2)) (k0 (true,a)) (brV (decide (b<a.1)) (k0 (true,a)) (k0 (decide (a.1<(IntKind.wrap IntKind.i64 ((0:Int) - b))),a)))))):
 callV Pg q47 [⟨tEI,a⟩,⟨tI,b⟩] (.tup (.pair tI (.pair .bool .unit))) Q:=
 q02 (c:=q01 Tryz.f58) (ann:=q7e) Tryz.func58 rfl Tryz.call58 rfl rfl hQ (kcast (by kernel_rfl) h)
def q7g:Ann:=.nil
theorem q9D {Q:DE->Prop} (a:DE) (hQ:∃ r,Q r) (h:
 (Q (IntKind.wrap IntKind.i64 ((0:Int) - a.1),a.2))):
 callV Pg q1I [⟨tEI,a⟩] tEI Q:=
 q02 (c:=q01 Tryz.f103) (ann:=q7g) Tryz.func103 rfl Tryz.call103 rfl rfl hQ (kcast (by kernel_rfl) h)
def q7h:Ann:=(.s (.seq (.seq (.reg [] [] (some ⟨[(2,.ref 2 0),(3,.ref 3 0),(4,.ref 4 0),(5,.ref 5 0)],[.var 21 .bool,.box 2 tEI,.box 3 tEI,.box 4 tEI,.box 5 tEI]⟩)) .nil) (.s (.s (.s (.seq (.s (.cond none (.s (.seq (.reg [] [(8,([68],false))] none) .nil)) .nil)) .nil))))))
theorem q9E {Q:(DE×(DE×Unit))->Prop} (a:DE) (b:DE) (hQ:∃ r,Q r) (h:
 (joinV (Bool×DE×DE×DR) (fun (i,j,k,_)=>brV i ((k.1≠(0:Int))/\(k.1≠(0:Int))/\Q ((IntKind.wrap IntKind.i64 (Int.tdiv j.1 k.1),none),(Int.tmod j.1 k.1,none),())) (callV Pg q0N [⟨tEI,j⟩] (.tup (.pair tI (.pair tD .unit))) (fun p1=>callV Pg q0N [⟨tEI,k⟩] (.tup (.pair tI (.pair tD .unit))) (fun p2=>callV Pg q2l [⟨tD,p1.2.1⟩,⟨tD,p2.2.1⟩] tI (fun p3=>brV (decide (p3<(0:Int))) (Q (((0:Int),none),j,())) (brV (decide ((szSl p2.2.1)=(1:Int))) (inS p2.2.1 (0:Int)/\callV Pg q4f [⟨tD,p1.2.1⟩,⟨tU,eltS (0:Int) p2.2.1 (0:Int)⟩] (.tup (.pair tD (.pair tU .unit))) (fun p4=>callV Pg q0s [⟨tI,IntKind.wrap IntKind.i64 (p1.1*p2.1)⟩,⟨tD,p4.1⟩] tEI (fun p5=>callV Pg q0s [⟨tI,p1.1⟩,⟨tD,some [p4.2.1]⟩] tEI (fun p6=>Q (p5,p6,()))))) (callV Pg q4d [⟨tD,p1.2.1⟩,⟨tD,p2.2.1⟩] (.tup (.pair tD (.pair tD .unit))) (fun p4=>callV Pg q0s [⟨tI,IntKind.wrap IntKind.i64 (p1.1*p2.1)⟩,⟨tD,p4.1⟩] tEI (fun p5=>callV Pg q0s [⟨tI,p1.1⟩,⟨tD,p4.2.1⟩] tEI (fun p6=>Q (p5,p6,()))))))))))) (fun k0=>brV (Option.isNone a.2) (k0 (Option.isNone b.2,a,b,r0)) (k0 (false,a,b,r0))))):
 callV Pg q2k [⟨tEI,a⟩,⟨tEI,b⟩] (.tup (.pair tEI (.pair tEI .unit))) Q:=
 q02 (c:=q01 Tryz.f86) (ann:=q7h) Tryz.func86 rfl Tryz.call86 rfl rfl hQ (kcast (by kernel_rfl) h)
def q7i:Ann:=.nil
theorem q9F {Q:Int->Prop} (a:DE) (hQ:∃ r,Q r) (h:
 (brV (decide ((0:Int)<a.1)) (Q (1:Int)) (brV (decide (a.1<(0:Int))) (Q (-(1:Int))) (Q (0:Int))))):
 callV Pg q13 [⟨tEI,a⟩] tI Q:=
 q02 (c:=q01 Tryz.f85) (ann:=q7i) Tryz.func85 rfl Tryz.call85 rfl rfl hQ (kcast (by kernel_rfl) h)
def q7j:Ann:=let x:Shape:=⟨[],[.var 4 tI,.var 5 (.int .u64)]⟩;(.s (.s (.s (.seq (.blk none (.s (.cond (some x) .nil (.s (.cond (some x) .nil .nil))))) (.seq (.reg [] [(7,([34],false))] none) .nil)))))
theorem q79 {Q:(Int×(DL×Unit))->Prop} (a:DE) (hQ:∃ r,Q r) (h:
 (brV (notB (Option.isNone a.2)) (Q (a.1,a.2,())) (joinV (Int×Int) (fun (i,j)=>((0:Int)<=(32:Int))/\callV Pg q2m [⟨tD,some [IntKind.wrap IntKind.u32 j,IntKind.wrap IntKind.u32 (shrI IntKind.u64 j (32:Int))]⟩] tD (fun p1=>Q (i,p1,()))) (fun k0=>brV (decide ((0:Int)<a.1)) (k0 ((1:Int),IntKind.wrap IntKind.u64 a.1)) (joinV (Int×Int) (fun i=>k0 i) (fun k1=>brV (decide (a.1<(0:Int))) (k1 (-(1:Int),IntKind.wrap IntKind.u64 (IntKind.wrap IntKind.i64 ((0:Int) - a.1)))) (k1 ((0:Int),(0:Int))))))))):
 callV Pg q0N [⟨tEI,a⟩] (.tup (.pair tI (.pair tD .unit))) Q:=
 q02 (c:=q01 Tryz.f98) (ann:=q7j) Tryz.func98 rfl Tryz.call98 rfl rfl hQ (kcast (by kernel_rfl) h)
def q7k:Ann:=(.s (.seq (.seq (.reg [] [] (some ⟨[(2,.ref 2 0)],[.var 0 tI,.var 10 .bool,.box 2 tEI]⟩)) .nil) (.s (.s (.seq (.s (.cond (some ⟨[(2,.ref 2 0)],[.var 3 tI,.var 4 (.int .u64),.box 2 tEI]⟩) .nil .nil)) .nil)))))
theorem q9G {Q:DE->Prop} (a:Int) (hQ:∃ r,Q r) (h:
 (joinV (Int×Bool×DE) (fun (i,j,k)=>brV j (Q (i,none)) (joinV (Int×Int×DE) (fun (l,m,_)=>((0:Int)<=(32:Int))/\Q (l,some [IntKind.wrap IntKind.u32 m,IntKind.wrap IntKind.u32 (shrI IntKind.u64 m (32:Int))])) (fun k1=>brV (decide (i<(0:Int))) (k1 (-(1:Int),IntKind.wrap IntKind.u64 ((0:Int) - (IntKind.wrap IntKind.u64 i)),k)) (k1 ((1:Int),IntKind.wrap IntKind.u64 i,k))))) (fun k0=>brV (decide ((-(4611686018427387904:Int))<a)) (k0 (a,decide (a<(4611686018427387904:Int)),(0:Int),none)) (k0 (a,false,(0:Int),none))))):
 callV Pg q14 [⟨tI,a⟩] tEI Q:=
 q02 (c:=q01 Tryz.f57) (ann:=q7k) Tryz.func57 rfl Tryz.call57 rfl rfl hQ (kcast (by kernel_rfl) h)
def q7l:Ann:=(.s (.seq (.seq (.reg [] [] (some ⟨[(2,.ref 2 0),(3,.ref 3 0),(4,.ref 4 0)],[.var 10 .bool,.box 2 tER,.box 3 tER,.box 4 tER]⟩)) .nil) .nil))
theorem q9H {Q:DR->Prop} (a:DR) (b:DR) (hQ:∃ r,Q r) (h:
 (joinV (Bool×DR×DR×DR) (fun (i,j,k,_)=>brV i (callV Pg q36 [⟨tEI,j.1⟩,⟨tEI,k.1⟩] tEI (fun p1=>Q (p1,(0:Int),none))) (callV Pg q1J [⟨tER,k⟩] tEI (fun p1=>callV Pg q2j [⟨tEI,j.1⟩,⟨tEI,p1⟩] tEI (fun p2=>callV Pg q1J [⟨tER,j⟩] tEI (fun p3=>callV Pg q2j [⟨tEI,k.1⟩,⟨tEI,p3⟩] tEI (fun p4=>callV Pg q36 [⟨tEI,p2⟩,⟨tEI,p4⟩] tEI (fun p5=>callV Pg q1J [⟨tER,j⟩] tEI (fun p6=>callV Pg q1J [⟨tER,k⟩] tEI (fun p7=>callV Pg q2j [⟨tEI,p6⟩,⟨tEI,p7⟩] tEI (fun p8=>callV Pg q39 [⟨tEI,p5⟩,⟨tEI,p8⟩] tER (fun p9=>Q p9))))))))))) (fun k0=>callV Pg q38 [⟨tER,a⟩] .bool (fun p1=>brV p1 (callV Pg q38 [⟨tER,b⟩] .bool (fun p2=>k0 (p2,a,b,r0))) (k0 (false,a,b,r0)))))):
 callV Pg q37 [⟨tER,a⟩,⟨tER,b⟩] tER Q:=
 q02 (c:=q01 Tryz.f39) (ann:=q7l) Tryz.func39 rfl Tryz.call39 rfl rfl hQ (kcast (by kernel_rfl) h)
def q7m:Ann:=.nil
theorem q9I {Q:Int->Prop} (a:DR) (b:DR) (hQ:∃ r,Q r) (h:
 (callV Pg q4b [⟨tER,a⟩,⟨tER,b⟩] tER (fun p0=>callV Pg q4a [⟨tER,p0⟩] tI (fun p1=>Q p1)))):
 callV Pg q48 [⟨tER,a⟩,⟨tER,b⟩] tI Q:=
 q02 (c:=q01 Tryz.f41) (ann:=q7m) Tryz.func41 rfl Tryz.call41 rfl rfl hQ (kcast (by kernel_rfl) h)
def q7n:Ann:=.nil
theorem q9J {Q:DE->Prop} (a:DR) (hQ:∃ r,Q r) (h:
 (callV Pg q13 [⟨tEI,a.2⟩] tI (fun p0=>brV (decide (p0=(0:Int))) (callV Pg q4e [] tEI (fun p1=>Q p1)) (Q a.2)))):
 callV Pg q1J [⟨tER,a⟩] tEI Q:=
 q02 (c:=q01 Tryz.f71) (ann:=q7n) Tryz.func71 rfl Tryz.call71 rfl rfl hQ (kcast (by kernel_rfl) h)
def q7o:Ann:=.nil
theorem q9K {Q:DR->Prop} (a:DR) (hQ:∃ r,Q r) (h:
 (callV Pg q1I [⟨tEI,a.1⟩] tEI (fun p0=>Q (p0,a.2)))):
 callV Pg q49 [⟨tER,a⟩] tER Q:=
 q02 (c:=q01 Tryz.f106) (ann:=q7o) Tryz.func106 rfl Tryz.call106 rfl rfl hQ (kcast (by kernel_rfl) h)
def q7p:Ann:=.nil
theorem q9L {Q:Int->Prop} (a:DR) (hQ:∃ r,Q r) (h:
 (callV Pg q13 [⟨tEI,a.1⟩] tI (fun p0=>Q p0))):
 callV Pg q4a [⟨tER,a⟩] tI Q:=
 q02 (c:=q01 Tryz.f73) (ann:=q7p) Tryz.func73 rfl Tryz.call73 rfl rfl hQ (kcast (by kernel_rfl) h)
def q7q:Ann:=.nil
theorem q9M {Q:DR->Prop} (a:DR) (b:DR) (hQ:∃ r,Q r) (h:
 (callV Pg q49 [⟨tER,b⟩] tER (fun p0=>callV Pg q37 [⟨tER,a⟩,⟨tER,p0⟩] tER (fun p1=>Q p1)))):
 callV Pg q4b [⟨tER,a⟩,⟨tER,b⟩] tER Q:=
 q02 (c:=q01 Tryz.f72) (ann:=q7q) Tryz.func72 rfl Tryz.call72 rfl rfl hQ (kcast (by kernel_rfl) h)
def q7r:Ann:=(.s (.seq (.reg [] [] (some ⟨[],[.var 2 .bool]⟩)) .nil))
theorem q9N {Q:Bool->Prop} (a:DR) (hQ:∃ r,Q r) (h:
 (joinV Bool (fun p0=>Q p0) (fun k0=>brV (Option.isNone a.2.2) (k0 (decide (a.2.1<=(1:Int)))) (k0 false)))):
 callV Pg q38 [⟨tER,a⟩] .bool Q:=
 q02 (c:=q01 Tryz.f67) (ann:=q7r) Tryz.func67 rfl Tryz.call67 rfl rfl hQ (kcast (by kernel_rfl) h)
def q7s:Ann:=let x:Shape:=⟨[(2,.ref 2 0),(3,.ref 3 0),(4,.ref 4 0)],[.box 2 tEI,.box 3 tEI,.box 4 tER]⟩;(.s (.seq (.s (.seq (.reg [] [] (some ⟨[(2,.ref 2 0),(3,.ref 3 0),(4,.ref 4 0),(5,.ref 5 0)],[.var 16 .bool,.box 2 tEI,.box 3 tEI,.box 4 tER,.box 5 tEI]⟩)) (.cond (some x) .nil .nil))) (.seq (.s (.cond (some x) .nil .nil)) .nil)))
theorem q9O {Q:DR->Prop} (a:DE) (b:DE) (hQ:∃ r,Q r) (h:
 (callV Pg q34 [⟨tEI,a⟩,⟨tEI,b⟩] tEI (fun p0=>joinV (Bool×DE×DE×DR×DE) (fun (i,j,k,l,m)=>joinV (DE×DE×DR) (fun (n,o,p)=>callV Pg q13 [⟨tEI,o⟩] tI (fun p3=>joinV (DE×DE×DR) (fun (q,r,_)=>Q (q,r)) (fun k4=>brV (decide (p3<(0:Int))) (callV Pg q1I [⟨tEI,n⟩] tEI (fun p5=>callV Pg q1I [⟨tEI,o⟩] tEI (fun p6=>k4 (p5,p6,p)))) (k4 (n,o,p))))) (fun k2=>brV i (callV Pg q2k [⟨tEI,j⟩,⟨tEI,m⟩] (.tup (.pair tEI (.pair tEI .unit))) (fun p3=>callV Pg q2k [⟨tEI,k⟩,⟨tEI,m⟩] (.tup (.pair tEI (.pair tEI .unit))) (fun p4=>k2 (p3.1,p4.1,l)))) (k2 (j,k,l)))) (fun k1=>brV (notB (decide (p0.1=(1:Int)))) (k1 (true,a,b,r0,p0)) (k1 (notB (Option.isNone p0.2),a,b,r0,p0)))))):
 callV Pg q39 [⟨tEI,a⟩,⟨tEI,b⟩] tER Q:=
 q02 (c:=q01 Tryz.f69) (ann:=q7s) Tryz.func69 rfl Tryz.call69 rfl rfl hQ (kcast (by kernel_rfl) h)
def q7t:Ann:=.nil
theorem q9P {Q:DR->Prop} (a:Int) (hQ:∃ r,Q r) (h:
 (callV Pg q14 [⟨tI,a⟩] tEI (fun p0=>Q (p0,(0:Int),none)))):
 callV Pg q4c [⟨tI,a⟩] tER Q:=
 q02 (c:=q01 Tryz.f42) (ann:=q7t) Tryz.func42 rfl Tryz.call42 rfl rfl hQ (kcast (by kernel_rfl) h)
def q7u:Ann:=(.s (.s (.seq (.s (.blk none (.loop ⟨[],[.var 0 tD,.var 1 tD,.var 5 tI]⟩ .nil))) .nil)))
theorem q9Q {Q:Int->Prop} (a:DL) (b:DL) (hQ:∃ r,Q r) (h:
 (brV (notB (decide ((szSl a)=(szSl b)))) (brV (decide ((szSl a)<(szSl b))) (Q (-(1:Int))) (Q (1:Int))) (loopV (DL×DL×Int) (fun k0  (i,j,k)=>brV (decide ((0:Int)<=k)) (inS i k/\inS j k/\brV (notB (decide ((eltS (0:Int) i k)=(eltS (0:Int) j k)))) (inS i k/\inS j k/\brV (decide ((eltS (0:Int) i k)<(eltS (0:Int) j k))) (Q (-(1:Int))) (Q (1:Int))) (k0 (i,j,IntKind.wrap IntKind.i64 (k - (1:Int))))) (Q (0:Int))) (a,b,IntKind.wrap IntKind.i64 ((szSl a) - (1:Int)))))):
 callV Pg q2l [⟨tD,a⟩,⟨tD,b⟩] tI Q:=
 q02 (c:=q01 Tryz.f101) (ann:=q7u) Tryz.func101 rfl Tryz.call101 rfl rfl hQ (kcast (by kernel_rfl) h)
def q7w:Ann:=(.s (.s (.seq (.s (.cond (some ⟨[(4,.ref 4 0)],[.var 0 tI,.var 1 tD,.box 4 tEI]⟩) (.s (.seq (.s (.blk none (.loop ⟨[(4,.ref 4 0)],[.var 0 tI,.var 1 tD,.var 5 (.int .u64),.var 13 tD,.var 14 tI,.var 15 tI,.box 4 tEI]⟩ .nil))) .nil)) .nil)) .nil)))
theorem q9S {Q:DE->Prop} (a:Int) (b:DL) (hQ:∃ r,Q r) (h:
 (callV Pg q2m [⟨tD,b⟩] tD (fun p0=>joinV (Int×DL×DE) (fun (i,j,_)=>Q (i,j)) (fun k1=>brV (decide ((szSl p0)<=(2:Int))) (loopV (Int×DL×Int×DL×Int×Int×DE) (fun k2  (i,j,k,l,m,n,o)=>brV (decide (n<m)) (inS l n/\((0:Int)<=(IntKind.wrap IntKind.i64 ((32:Int)*n)))/\k2 (i,j,bitI BinOp.or IntKind.u64 k (shlI IntKind.u64 (IntKind.wrap IntKind.u64 (eltS (0:Int) l n)) (IntKind.wrap IntKind.i64 ((32:Int)*n))),l,m,IntKind.wrap IntKind.i64 (n+(1:Int)),o)) (brV (decide (k<(4611686018427387904:Int))) (Q (IntKind.wrap IntKind.i64 (i*(IntKind.wrap IntKind.i64 k)),none)) (k1 (i,j,o)))) (a,p0,(0:Int),p0,szSl p0,(0:Int),(0:Int),none)) (k1 (a,p0,(0:Int),none)))))):
 callV Pg q0s [⟨tI,a⟩,⟨tD,b⟩] tEI Q:=
 q02 (c:=q01 Tryz.f99) (ann:=q7w) Tryz.func99 rfl Tryz.call99 rfl rfl hQ (kcast (by kernel_rfl) h)
def q7x:Ann:=(.s (.s (.s (.seq (.s (.blk none (.loop ⟨[(5,.own 1005)],[.var 0 tD,.var 1 tD,.var 6 tU,.var 14 tI,.var 15 tI,.arr 1005 tU]⟩ (.s (.s (.seq (.blk none (.s (.s (.seq (.s (.cond (some ⟨[(5,.own 1005)],[.var 0 tD,.var 1 tD,.var 6 tU,.var 7 tI,.var 8 tU,.var 14 tI,.var 15 tI,.arr 1005 tU]⟩) .nil .nil)) .nil)))) .nil)))))) .nil))))
theorem q9T {Q:DL->Prop} (a:DL) (b:DL) (hQ:∃ r,Q r) (h:
 (mkC 4 (0:Int) (szSl a)/\loopV (DL×DL×Int×Int×DE) (fun k0  (i,j,k,l,m)=>brV (decide (m.1<l)) (joinV (DL×DL×Int×Int×Int×Int×DE) (fun (n,o,p,q,r,s,t)=>inS n q/\callV Pg q4o [⟨tU,eltS (0:Int) n q⟩,⟨tU,r⟩,⟨tU,p⟩] (.tup (.pair tU (.pair tU .unit))) (fun p3=>appC 4 t.2 (lst (some [p3.1]))/\k0 (n,o,p3.2.1,s,IntKind.wrap IntKind.i64 (t.1+(1:Int)),appL t.2 (lst (some [p3.1]))))) (fun k2=>brV (decide (m.1<(szSl j))) (inS j m.1/\k2 (i,j,k,m.1,eltS (0:Int) j m.1,l,m)) (k2 (i,j,k,m.1,(0:Int),l,m)))) (Q m.2)) (a,b,(0:Int),szSl a,(0:Int),some (repS (0:Int) (0:Int))))):
 callV Pg q1K [⟨tD,a⟩,⟨tD,b⟩] tD Q:=
 q02 (c:=q01 Tryz.f102) (ann:=q7x) Tryz.func102 rfl Tryz.call102 rfl rfl hQ (kcast (by kernel_rfl) h)
def q7y:Ann:=.nil
theorem q9U {Q:DE->Prop} (hQ:∃ r,Q r) (h:
 (Q ((1:Int),none))):
 callV Pg q4e [] tEI Q:=
 q02 (c:=q01 Tryz.f105) (ann:=q7y) Tryz.func105 rfl Tryz.call105 rfl rfl hQ (kcast (by kernel_rfl) h)
def q7z:Ann:=(.s (.seq (.s (.cond (some ⟨[],[.var 0 tD,.var 1 tD]⟩) .nil .nil)) (.s (.s (.seq (.s (.blk none (.loop ⟨[(5,.own 1005)],[.var 0 tD,.var 1 tD,.var 6 tU,.var 22 tI,.var 23 tI,.arr 1005 tU]⟩ (.s (.s (.seq (.blk none (.s (.s (.seq (.s (.cond (some ⟨[(5,.own 1005)],[.var 0 tD,.var 1 tD,.var 6 tU,.var 7 tI,.var 8 tU,.var 22 tI,.var 23 tI,.arr 1005 tU]⟩) .nil .nil)) .nil)))) .nil)))))) .nil)))))
theorem q9V {Q:DL->Prop} (a:DL) (b:DL) (hQ:∃ r,Q r) (h:
 (joinV (DL×DL) (fun (i,j)=>mkC 4 (0:Int) (IntKind.wrap IntKind.i64 ((szSl i)+(1:Int)))/\loopV (DL×DL×Int×Int×DE) (fun k1  (k,l,m,n,o)=>brV (decide (o.1<n)) (joinV (DL×DL×Int×Int×Int×Int×DE) (fun (p,q,r,s,t,u,v)=>inS p s/\callV Pg q3c [⟨tU,eltS (0:Int) p s⟩,⟨tU,t⟩,⟨tU,r⟩] (.tup (.pair tU (.pair tU .unit))) (fun p4=>appC 4 v.2 (lst (some [p4.1]))/\k1 (p,q,p4.2.1,u,IntKind.wrap IntKind.i64 (v.1+(1:Int)),appL v.2 (lst (some [p4.1]))))) (fun k3=>brV (decide (o.1<(szSl l))) (inS l o.1/\k3 (k,l,m,o.1,eltS (0:Int) l o.1,n,o)) (k3 (k,l,m,o.1,(0:Int),n,o)))) (appC 4 o.2 (lst (some [m]))/\Q (appL o.2 (lst (some [m]))))) (i,j,(0:Int),szSl i,(0:Int),some (repS (0:Int) (0:Int)))) (fun k0=>brV (decide ((szSl a)<(szSl b))) (k0 (b,a)) (k0 (a,b))))):
 callV Pg q3a [⟨tD,a⟩,⟨tD,b⟩] tD Q:=
 q02 (c:=q01 Tryz.f100) (ann:=q7z) Tryz.func100 rfl Tryz.call100 rfl rfl hQ (kcast (by kernel_rfl) h)
def q7A:Ann:=(.s (.s (.seq (.s (.blk none (.loop ⟨[(5,.own 12)],[.var 1 tI,.var 13 tD,.var 14 tI,.var 15 tI,.arr 12 tU]⟩ .nil))) .nil)))
theorem q9W {Q:DL->Prop} (a:DL) (b:Int) (hQ:∃ r,Q r) (h:
 (mkC 4 (IntKind.wrap IntKind.i64 ((szSl a)+(1:Int))) (IntKind.wrap IntKind.i64 ((szSl a)+(1:Int)))/\loopV (Int×DL×Int×DE) (fun k0  (i,j,k,l)=>brV (decide (l.1<k)) (inS j l.1/\((0:Int)<=i)/\inS l.2 l.1/\inS l.2 l.1/\((0:Int)<=(32:Int))/\inS (setO l.2 (toN l.1) (bitI BinOp.or IntKind.u32 (eltN (0:Int) l.2 (toN l.1)) (IntKind.wrap IntKind.u32 (shlI IntKind.u64 (IntKind.wrap IntKind.u64 (eltS (0:Int) j l.1)) i)))) (IntKind.wrap IntKind.i64 (l.1+(1:Int)))/\k0 (i,j,k,IntKind.wrap IntKind.i64 (l.1+(1:Int)),setO (setO l.2 (toN l.1) (bitI BinOp.or IntKind.u32 (eltN (0:Int) l.2 (toN l.1)) (IntKind.wrap IntKind.u32 (shlI IntKind.u64 (IntKind.wrap IntKind.u64 (eltS (0:Int) j l.1)) i)))) (toN (IntKind.wrap IntKind.i64 (l.1+(1:Int)))) (IntKind.wrap IntKind.u32 (shrI IntKind.u64 (shlI IntKind.u64 (IntKind.wrap IntKind.u64 (eltS (0:Int) j l.1)) i) (32:Int))))) (Q l.2)) (b,a,szSl a,(0:Int),some (repS (IntKind.wrap IntKind.i64 ((szSl a)+(1:Int))) (0:Int))))):
 ownV Pg q3b [⟨tD,a⟩,⟨tI,b⟩] tU Q:=
 q3A (c:=q01 Tryz.f122) (ann:=q7A) Tryz.func122 rfl Tryz.call122 rfl rfl hQ (kcast (by kernel_rfl) h)
def q7B:Ann:=(.s (.s (.s (.seq (.s (.blk none (.loop ⟨[(6,.own 11)],[.var 0 tD,.var 1 tU,.var 7 tU,.var 8 tI,.arr 11 tU]⟩ .nil))) .nil))))
theorem q9X {Q:(DL×(Int×Unit))->Prop} (a:DL) (b:Int) (hQ:∃ r,Q r) (h:
 (mkC 4 (szSl a) (szSl a)/\loopV (DL×Int×Int×DE) (fun k0  (i,j,k,l)=>brV (decide ((0:Int)<=l.1)) (inS i l.1/\callV Pg q4i [⟨tU,k⟩,⟨tU,eltS (0:Int) i l.1⟩,⟨tU,j⟩] (.tup (.pair tU (.pair tU .unit))) (fun p2=>inS l.2 l.1/\k0 (i,j,p2.2.1,IntKind.wrap IntKind.i64 (l.1 - (1:Int)),setO l.2 (toN l.1) p2.1))) (Q (l.2,k,()))) (a,b,(0:Int),IntKind.wrap IntKind.i64 ((szSl a) - (1:Int)),some (repS (szSl a) (0:Int))))):
 callV Pg q4f [⟨tD,a⟩,⟨tU,b⟩] (.tup (.pair tD (.pair tU .unit))) Q:=
 q02 (c:=q01 Tryz.f112) (ann:=q7B) Tryz.func112 rfl Tryz.call112 rfl rfl hQ (kcast (by kernel_rfl) h)
def q7C:Ann:=(.s (.seq (.blk none (.loop ⟨[],[.var 0 tD]⟩ (.seq (.seq (.reg [] [] (some ⟨[],[.var 0 tD,.var 14 .bool]⟩)) .nil) .nil))) .nil))
theorem q9Y {Q:DL->Prop} (a:DL) (hQ:∃ r,Q r) (h:
 (loopV DL (fun k0  p1=>joinV (DL×Bool) (fun (i,j)=>brV j (inR i (0:Int) (IntKind.wrap IntKind.i64 ((szSl i) - (1:Int)))/\k0 (slcS i (0:Int) (IntKind.wrap IntKind.i64 ((szSl i) - (1:Int))))) (Q i)) (fun k2=>brV (decide ((0:Int)<(szSl p1))) (inS p1 (IntKind.wrap IntKind.i64 ((szSl p1) - (1:Int)))/\k2 (p1,decide ((eltS (0:Int) p1 (IntKind.wrap IntKind.i64 ((szSl p1) - (1:Int))))=(0:Int)))) (k2 (p1,false)))) a)):
 callV Pg q2m [⟨tD,a⟩] tD Q:=
 q02 (c:=q01 Tryz.f115) (ann:=q7C) Tryz.func115 rfl Tryz.call115 rfl rfl hQ (kcast (by kernel_rfl) h)
def q7I:Ann:=.nil
theorem qa4 {Q:(Int×(Int×Unit))->Prop} (a:Int) (b:Int) (c:Int) (hQ:∃ r,Q r) (h:
 (((0:Int)<=(32:Int))/\Q (IntKind.wrap IntKind.u32 (IntKind.wrap IntKind.u64 ((IntKind.wrap IntKind.u64 ((IntKind.wrap IntKind.u64 a)+(IntKind.wrap IntKind.u64 b)))+(IntKind.wrap IntKind.u64 c))),IntKind.wrap IntKind.u32 (shrI IntKind.u64 (IntKind.wrap IntKind.u64 ((IntKind.wrap IntKind.u64 ((IntKind.wrap IntKind.u64 a)+(IntKind.wrap IntKind.u64 b)))+(IntKind.wrap IntKind.u64 c))) (32:Int)),()))):
 callV Pg q3c [⟨tU,a⟩,⟨tU,b⟩,⟨tU,c⟩] (.tup (.pair tU (.pair tU .unit))) Q:=
 q02 (c:=q01 Tryz.f116) (ann:=q7I) Tryz.func116 rfl Tryz.call116 rfl rfl hQ (kcast (by kernel_rfl) h)
def q7J:Ann:=(.s (.seq (.seq (.reg [] [] (some ⟨[],[.var 0 tU,.var 1 tU,.var 2 tU,.var 15 .bool]⟩)) .nil) .nil))
theorem qa5 {Q:(Int×(Int×Unit))->Prop} (a:Int) (b:Int) (c:Int) (hQ:∃ r,Q r) (h:
 (joinV (Int×Int×Int×Bool) (fun (i,j,k,l)=>brV l False (((0:Int)<=(32:Int))/\((IntKind.wrap IntKind.u64 k)≠(0:Int))/\((IntKind.wrap IntKind.u64 k)≠(0:Int))/\Q (IntKind.wrap IntKind.u32 (IntKind.wrap IntKind.u64 (Int.tdiv (bitI BinOp.or IntKind.u64 (shlI IntKind.u64 (IntKind.wrap IntKind.u64 i) (32:Int)) (IntKind.wrap IntKind.u64 j)) (IntKind.wrap IntKind.u64 k))),IntKind.wrap IntKind.u32 (Int.tmod (bitI BinOp.or IntKind.u64 (shlI IntKind.u64 (IntKind.wrap IntKind.u64 i) (32:Int)) (IntKind.wrap IntKind.u64 j)) (IntKind.wrap IntKind.u64 k)),()))) (fun k0=>brV (notB (decide (c=(0:Int)))) (k0 (a,b,c,decide (c<=a))) (k0 (a,b,c,false))))):
 callV Pg q4i [⟨tU,a⟩,⟨tU,b⟩,⟨tU,c⟩] (.tup (.pair tU (.pair tU .unit))) Q:=
 q02 (c:=q01 Tryz.f120) (ann:=q7J) Tryz.func120 rfl Tryz.call120 rfl rfl hQ (kcast (by kernel_rfl) h)
def q7K:Ann:=.nil
theorem qa6 {Q:Int->Prop} (a:Int) (hQ:∃ r,Q r) (h:
 (callV Pg q4l [⟨tU,a⟩] tI (fun p0=>Q (IntKind.wrap IntKind.i64 ((32:Int) - p0))))):
 callV Pg q4j [⟨tU,a⟩] tI Q:=
 q02 (c:=q01 Tryz.f121) (ann:=q7K) Tryz.func121 rfl Tryz.call121 rfl rfl hQ (kcast (by kernel_rfl) h)
def q7M:Ann:=let x:Shape:=⟨[],[.var 0 tU,.var 2 tI]⟩;(.s (.seq (.s (.cond (some x) .nil .nil)) (.seq (.s (.cond (some x) .nil .nil)) .nil)))
theorem qa8 {Q:Int->Prop} (a:Int) (hQ:∃ r,Q r) (h:
 (joinV (Int×Int) (fun (i,j)=>joinV (Int×Int) (fun (k,l)=>(((0:Int)<=(IntKind.wrap IntKind.u8 k))/\((IntKind.wrap IntKind.u8 k)<(szStr (bytesL [0,1,2,2,3,3,3,3,4,4,4,4,4,4,4,4,5,5,5,5,5,5,5,5,5,5,5,5,5,5,5,5,6,6,6,6,6,6,6,6,6,6,6,6,6,6,6,6,6,6,6,6,6,6,6,6,6,6,6,6,6,6,6,6,7,7,7,7,7,7,7,7,7,7,7,7,7,7,7,7,7,7,7,7,7,7,7,7,7,7,7,7,7,7,7,7,7,7,7,7,7,7,7,7,7,7,7,7,7,7,7,7,7,7,7,7,7,7,7,7,7,7,7,7,7,7,7,7,8,8,8,8,8,8,8,8,8,8,8,8,8,8,8,8,8,8,8,8,8,8,8,8,8,8,8,8,8,8,8,8,8,8,8,8,8,8,8,8,8,8,8,8,8,8,8,8,8,8,8,8,8,8,8,8,8,8,8,8,8,8,8,8,8,8,8,8,8,8,8,8,8,8,8,8,8,8,8,8,8,8,8,8,8,8,8,8,8,8,8,8,8,8,8,8,8,8,8,8,8,8,8,8,8,8,8,8,8,8,8,8,8,8,8,8,8,8,8,8,8,8,8,8,8,8,8,8]))))/\Q (IntKind.wrap IntKind.i64 (l+(IntKind.wrap IntKind.i64 (byteAt (bytesL [0,1,2,2,3,3,3,3,4,4,4,4,4,4,4,4,5,5,5,5,5,5,5,5,5,5,5,5,5,5,5,5,6,6,6,6,6,6,6,6,6,6,6,6,6,6,6,6,6,6,6,6,6,6,6,6,6,6,6,6,6,6,6,6,7,7,7,7,7,7,7,7,7,7,7,7,7,7,7,7,7,7,7,7,7,7,7,7,7,7,7,7,7,7,7,7,7,7,7,7,7,7,7,7,7,7,7,7,7,7,7,7,7,7,7,7,7,7,7,7,7,7,7,7,7,7,7,7,8,8,8,8,8,8,8,8,8,8,8,8,8,8,8,8,8,8,8,8,8,8,8,8,8,8,8,8,8,8,8,8,8,8,8,8,8,8,8,8,8,8,8,8,8,8,8,8,8,8,8,8,8,8,8,8,8,8,8,8,8,8,8,8,8,8,8,8,8,8,8,8,8,8,8,8,8,8,8,8,8,8,8,8,8,8,8,8,8,8,8,8,8,8,8,8,8,8,8,8,8,8,8,8,8,8,8,8,8,8,8,8,8,8,8,8,8,8,8,8,8,8,8,8,8,8,8,8]) (IntKind.wrap IntKind.u8 k)))))) (fun k1=>brV (decide ((256:Int)<=i)) (((0:Int)<=(8:Int))/\k1 (shrI IntKind.u32 i (8:Int),IntKind.wrap IntKind.i64 (j+(8:Int)))) (k1 (i,j)))) (fun k0=>brV (decide ((65536:Int)<=a)) (((0:Int)<=(16:Int))/\k0 (shrI IntKind.u32 a (16:Int),(16:Int))) (k0 (a,(0:Int)))))):
 callV Pg q4l [⟨tU,a⟩] tI Q:=
 q02 (c:=q01 Tryz.f52) (ann:=q7M) Tryz.func52 rfl Tryz.call52 rfl rfl hQ (kcast (by kernel_rfl) h)
def q7O:Ann:=.nil
theorem qaa {Q:(Int×(Int×Unit))->Prop} (a:Int) (b:Int) (hQ:∃ r,Q r) (h:
 (((0:Int)<=(32:Int))/\((0:Int)<=(32:Int))/\((0:Int)<=(32:Int))/\((0:Int)<=(32:Int))/\((0:Int)<=(32:Int))/\Q (IntKind.wrap IntKind.u64 ((IntKind.wrap IntKind.u64 ((IntKind.wrap IntKind.u64 ((shrI IntKind.u64 a (32:Int))*(shrI IntKind.u64 b (32:Int))))+(shrI IntKind.u64 (IntKind.wrap IntKind.u64 ((IntKind.wrap IntKind.u64 ((shrI IntKind.u64 a (32:Int))*(bitI BinOp.and IntKind.u64 b (4294967295:Int))))+(shrI IntKind.u64 (IntKind.wrap IntKind.u64 ((bitI BinOp.and IntKind.u64 a (4294967295:Int))*(bitI BinOp.and IntKind.u64 b (4294967295:Int)))) (32:Int)))) (32:Int))))+(shrI IntKind.u64 (IntKind.wrap IntKind.u64 ((bitI BinOp.and IntKind.u64 (IntKind.wrap IntKind.u64 ((IntKind.wrap IntKind.u64 ((shrI IntKind.u64 a (32:Int))*(bitI BinOp.and IntKind.u64 b (4294967295:Int))))+(shrI IntKind.u64 (IntKind.wrap IntKind.u64 ((bitI BinOp.and IntKind.u64 a (4294967295:Int))*(bitI BinOp.and IntKind.u64 b (4294967295:Int)))) (32:Int)))) (4294967295:Int))+(IntKind.wrap IntKind.u64 ((bitI BinOp.and IntKind.u64 a (4294967295:Int))*(shrI IntKind.u64 b (32:Int)))))) (32:Int))),IntKind.wrap IntKind.u64 (a*b),()))):
 callV Pg q4n [⟨(.int .u64),a⟩,⟨(.int .u64),b⟩] (.tup (.pair (.int .u64) (.pair (.int .u64) .unit))) Q:=
 q02 (c:=q01 Tryz.f104) (ann:=q7O) Tryz.func104 rfl Tryz.call104 rfl rfl hQ (kcast (by kernel_rfl) h)
def q7P:Ann:=.nil
theorem qab {Q:(Int×(Int×Unit))->Prop} (a:Int) (b:Int) (c:Int) (hQ:∃ r,Q r) (h:
 (((0:Int)<=(31:Int))/\Q (IntKind.wrap IntKind.u32 ((IntKind.wrap IntKind.u32 (a - b)) - c),shrI IntKind.u32 (bitI BinOp.or IntKind.u32 (bitI BinOp.and IntKind.u32 (bitI BinOp.xor IntKind.u32 ((4294967296:Int) - (1:Int)) a) b) (bitI BinOp.and IntKind.u32 (bitI BinOp.xor IntKind.u32 ((4294967296:Int) - (1:Int)) (bitI BinOp.xor IntKind.u32 a b)) (IntKind.wrap IntKind.u32 ((IntKind.wrap IntKind.u32 (a - b)) - c)))) (31:Int),()))):
 callV Pg q4o [⟨tU,a⟩,⟨tU,b⟩,⟨tU,c⟩] (.tup (.pair tU (.pair tU .unit))) Q:=
 q02 (c:=q01 Tryz.f117) (ann:=q7P) Tryz.func117 rfl Tryz.call117 rfl rfl hQ (kcast (by kernel_rfl) h)
end Go.Proofs.Pf
namespace Go.Proofs.Pf
open Go Go.VM
theorem joinE {T:Type} {k:T->Prop} {body:(T->Prop)->Prop} (h:body k):joinV T k body:=⟨h⟩
theorem s_Add32 {a b c:Int} (ha:0<=a) (ha':a<4294967296) (hb:0<=b) (hb':b<4294967296) (hc:0<=c) (hc':c<4294967296):
 callV Pg q3c [⟨tU,a⟩,⟨tU,b⟩,⟨tU,c⟩] (.tup (.pair tU (.pair tU .unit))) fun r=>r=((a+b+c) % 4294967296,(a+b+c) / 4294967296,()):=by
 refine qa4 a b c ⟨_,rfl⟩ ⟨by omega,?_⟩
 simp only[wu64m,wu32m,q2a,Prod.mk.injEq,and_true]
 omega
theorem s_Sub32 {a b c:Int} (ha:0<=a) (ha':a<4294967296) (hb:0<=b) (hb':b<4294967296) (hc:0<=c) (hc':c<=1):
 callV Pg q4o [⟨tU,a⟩,⟨tU,b⟩,⟨tU,c⟩] (.tup (.pair tU (.pair tU .unit))) fun r=>r=((a - b - c) % 4294967296,(if a<b+c then 1 else 0),()):=by
 refine qab a b c ⟨_,rfl⟩ ⟨by omega,?_⟩
 have e:IntKind.wrap IntKind.u32 (IntKind.wrap IntKind.u32 (a - b) - c)=(a - b - c) % 4294967296:=by
  rw[wu32m,wu32m];omega
 rw[e,borrow32 ha ha' hb hb' hc hc']
theorem s_Div32 {a b c:Int} (ha:0<=a) (hb:0<=b) (hb':b<4294967296) (hc':c<4294967296) (hac:a<c):
 callV Pg q4i [⟨tU,a⟩,⟨tU,b⟩,⟨tU,c⟩] (.tup (.pair tU (.pair tU .unit))) fun r=>r=((a*4294967296+b) / c,(a*4294967296+b) % c,()):=by
 refine qa5 a b c ⟨_,rfl⟩ (joinE ?_)
 have e0:decide (c=0)=false:=decide_eq_false (by omega)
 have e1:decide (c<=a)=false:=decide_eq_false (by omega)
 simp only[notB,e0,e1,Bool.not_false,brV]
 have ec:IntKind.wrap IntKind.u64 c=c:=wu64 (by omega) (by omega)
 have ea:IntKind.wrap IntKind.u64 a=a:=wu64 (by omega) (by omega)
 have eb:IntKind.wrap IntKind.u64 b=b:=wu64 (by omega) (by omega)
 have es:bitI BinOp.or IntKind.u64 (shlI IntKind.u64 a 32) b=a*4294967296+b:=by
  rw[q3P,Int.emod_eq_of_lt (by omega) (by omega),q5f hb hb' ha (by omega),Int.add_comm]
 rw[ec,ea,eb,es]
 refine⟨by omega,by omega,by omega,?_⟩
 have hn:0<=a*4294967296+b:=by omega
 rw[Int.tdiv_eq_ediv_of_nonneg hn,Int.tmod_eq_emod_of_nonneg hn]
 have hq:(a*4294967296+b) / c<4294967296:=by
  refine Int.ediv_lt_of_lt_mul (by omega) ?_
  have:(a+1)*4294967296<=c*4294967296:=by omega
  rw[Int.mul_comm 4294967296 c];omega
 have hq0:0<=(a*4294967296+b) / c:=Int.ediv_nonneg hn (by omega)
 have hr:=Int.emod_lt_of_pos (a*4294967296+b) (show 0<c by omega)
 have hr0:=Int.emod_nonneg (a*4294967296+b) (show c≠0 by omega)
 rw[wu64 hq0 (by omega),wu32 hq0 hq,wu32 hr0 (by omega)]
theorem s_Mul64 {a b:Int} (ha:0<=a) (ha':a<18446744073709551616) (hb:0<=b) (hb':b<18446744073709551616):
 callV Pg q4n [⟨.int .u64,a⟩,⟨.int .u64,b⟩] (.tup (.pair (.int .u64) (.pair (.int .u64) .unit))) fun r=>r=(a*b / 18446744073709551616,a*b % 18446744073709551616,()):=by
 refine qaa a b ⟨_,rfl⟩ ⟨by omega,by omega,by omega,by omega,by omega,?_⟩
 rw[q3Y ha ha',q3Y hb hb']
 simp only[q2a]
 generalize ha1:a / 4294967296=a1
 generalize hb1:b / 4294967296=b1
 generalize ha0:a % 4294967296=a0
 generalize hb0:b % 4294967296=b0
 have e:a*b=a1*b1*18446744073709551616+(a1*b0+a0*b1)*4294967296+a0*b0:=by
  have e1:a=a1*4294967296+a0:=by omega
  have e2:b=b1*4294967296+b0:=by omega
  rw[e1,e2];grind
 have bound:∀ x y:Int,0<=x->x<=4294967295->0<=y->y<=4294967295->0<=x*y/\x*y<=18446744065119617025:=by
  intro x y h1 h2 h3 h4
  refine⟨Int.mul_nonneg h1 h3,?_⟩
  have:=Int.mul_le_mul h2 h4 h3 (by omega:(0:Int)<=4294967295)
  omega
 have p1:=bound a1 b1 (by omega) (by omega) (by omega) (by omega)
 have p2:=bound a1 b0 (by omega) (by omega) (by omega) (by omega)
 have p3:=bound a0 b1 (by omega) (by omega) (by omega) (by omega)
 have p4:=bound a0 b0 (by omega) (by omega) (by omega) (by omega)
 rw[wu64m (a*b),e]
 generalize a1*b1=x1 at *
 generalize a1*b0=x2 at *
 generalize a0*b1=x3 at *
 generalize a0*b0=x4 at *
 clear e ha1 hb1 ha0 hb0 bound
 have m:∀ x:Int,0<=x->x<18446744073709551616->IntKind.wrap IntKind.u64 x=x:=fun x h1 h2=>wu64 h1 h2
 rw[m x4 (by omega) (by omega),m x1 (by omega) (by omega),m x2 (by omega) (by omega),m x3 (by omega) (by omega)]
 rw[m (x2+x4 / 4294967296) (by omega) (by omega)]
 rw[q3Y (by omega) (by omega)]
 rw[m ((x2+x4 / 4294967296) % 4294967296+x3) (by omega) (by omega)]
 rw[m (x1+(x2+x4 / 4294967296) / 4294967296) (by omega) (by omega)]
 rw[m _ (by omega) (by omega)]
 simp only[Prod.mk.injEq,and_true]
 omega
def len8:List Nat:=[0,1,2,2,3,3,3,3,4,4,4,4,4,4,4,4,5,5,5,5,5,5,5,5,5,5,5,5,5,5,5,5,6,6,6,6,6,6,6,6,6,6,6,6,6,6,6,6,6,6,6,6,6,6,6,6,6,6,6,6,6,6,6,6,7,7,7,7,7,7,7,7,7,7,7,7,7,7,7,7,7,7,7,7,7,7,7,7,7,7,7,7,7,7,7,7,7,7,7,7,7,7,7,7,7,7,7,7,7,7,7,7,7,7,7,7,7,7,7,7,7,7,7,7,7,7,7,7,8,8,8,8,8,8,8,8,8,8,8,8,8,8,8,8,8,8,8,8,8,8,8,8,8,8,8,8,8,8,8,8,8,8,8,8,8,8,8,8,8,8,8,8,8,8,8,8,8,8,8,8,8,8,8,8,8,8,8,8,8,8,8,8,8,8,8,8,8,8,8,8,8,8,8,8,8,8,8,8,8,8,8,8,8,8,8,8,8,8,8,8,8,8,8,8,8,8,8,8,8,8,8,8,8,8,8,8,8,8,8,8,8,8,8,8,8,8,8,8,8,8,8,8,8,8,8,8]
theorem len8_ok:(List.range 256).all (fun i=>Nat.blt i (2 ^ len8.getD i 0) && (Nat.beq i 0 || Nat.ble (2 ^ len8.getD i 0) (2*i)) && Nat.ble (len8.getD i 0) 8)=true:=by decide +kernel
theorem byte8 {i:Int} (h1:0<=i) (h2:i<256):∃ n:Nat,byteAt (bytesL len8) i=n/\n<=8/\i<2 ^ n/\(0<i->(2:Int) ^ n<=2*i):=by
 have h:=len8_ok
 rw[List.all_eq_true] at h
 have h:=h i.toNat (by simp;omega)
 simp only[Bool.and_eq_true,Bool.or_eq_true,Nat.blt_eq,Nat.beq_eq,Nat.ble_eq] at h
 obtain⟨⟨h3,h4⟩,h5⟩:=h
 refine⟨len8.getD i.toNat 0,?_,h5,?_,fun hi=>?_⟩
 . have hl:len8.length=256:=by decide +kernel
   have hi:i.toNat<len8.length:=by omega
   simp only[List.getD,List.getElem?_eq_getElem hi,Option.getD_some] at h5
   simp only[byteAt,bytesL,List.getD,List.getElem?_map,List.getElem?_eq_getElem hi,Option.map_some,Option.getD_some]
   rw[UInt8.toNat_ofNat_of_lt' (by simp[UInt8.size];omega)]
 . have:((i.toNat:Nat):Int)<((2 ^ len8.getD i.toNat 0:Nat):Int):=Int.ofNat_lt.2 h3
   simp only[Int.natCast_pow] at this
   have e:((2:Nat):Int)=2:=rfl
   rw[e] at this;omega
 . have h4':=h4.resolve_left (by omega)
   have:((2 ^ len8.getD i.toNat 0:Nat):Int)<=((2*i.toNat:Nat):Int):=Int.ofNat_le.2 h4'
   simp only[Int.natCast_pow] at this
   have e:((2:Nat):Int)=2:=rfl
   rw[e] at this;omega
theorem q6h:szStr (bytesL len8)=256:=by decide +kernel
theorem len_ex {a:Int} (ha:0<=a):∀ k:Nat,a<2 ^ k->∃ n:Nat,n<=k/\a<2 ^ n/\(0<a->(2:Int) ^ n<=2*a)
 | 0,h=>⟨0,Nat.le_refl _,h,fun h0=>by simp at h;omega⟩
 | k+1,h=>by
  by_cases h1:a<2 ^ k
  . obtain⟨n,q1,q2⟩:=len_ex ha k h1
    exact⟨n,by omega,q2⟩
  . exact⟨k+1,Nat.le_refl _,h,fun _=>by rw[Int.pow_succ];omega⟩
def L32K (a:Int) (p:Int×Int):Prop:=
 (((0:Int)<=(IntKind.wrap IntKind.u8 p.1))/\((IntKind.wrap IntKind.u8 p.1)<(szStr (bytesL len8)))) /\
  (∃ n:Nat,(IntKind.wrap IntKind.i64 (p.2+(IntKind.wrap IntKind.i64 (byteAt (bytesL len8) (IntKind.wrap IntKind.u8 p.1)))))=n/\n<=32/\a<2 ^ n/\(0<a->(2:Int) ^ n<=2*a))
theorem s_Len32 {a:Int} (ha:0<=a) (ha':a<4294967296):
 callV Pg q4l [⟨tU,a⟩] tI fun r=>∃ n:Nat,r=n/\n<=32/\a<2 ^ n/\(0<a->(2:Int) ^ n<=2*a):=by
 refine qa8 a ?_ (joinE ?_)
 . obtain⟨n,q1,q2⟩:=len_ex ha 32 (by omega)
   exact⟨n,n,rfl,q1,q2⟩
 have fin:∀ p1 p2:Int,0<=p1->p1<256->(0<a->0<p1)->(∃ s:Nat,p2=s/\s<=24/\(2:Int) ^ s*p1<=a/\a<2 ^ s*(p1+1))->L32K a (p1,p2):=by
  unfold L32K
  rintro p1 p2 h1 h2 h0 ⟨s,rfl,h3,h4,h5⟩
  have e:IntKind.wrap IntKind.u8 p1=p1:=by rw[wu8m];omega
  rw[e,q6h]
  obtain⟨n,q1,q2,q3,q4⟩:=byte8 h1 h2
  rw[q1,wi64 (x:=(n:Int)) (by omega) (by omega),wi64 (by omega) (by omega)]
  have hs:(0:Int)<2 ^ s:=Int.pow_pos (by decide)
  refine⟨⟨h1,h2⟩,s+n,by omega,by omega,?_,fun h0'=>?_⟩
  . rw[Int.pow_add]
    have:(2:Int) ^ s*(p1+1)<=2 ^ s*2 ^ n:=Int.mul_le_mul_of_nonneg_left (by omega) (by omega)
    omega
  . rw[Int.pow_add]
    have:(2:Int) ^ s*2 ^ n<=2 ^ s*(2*p1):=Int.mul_le_mul_of_nonneg_left (q4 (h0 h0')) (by omega)
    have e:(2:Int) ^ s*(2*p1)=2*(2 ^ s*p1):=by grind
    omega
 have two:∀ p1 p2:Int,0<=p1->p1<65536->(0<a->0<p1)->(∃ s:Nat,p2=s/\s<=16/\(2:Int) ^ s*p1<=a/\a<2 ^ s*(p1+1))->∀ k:Int×Int->Prop,
  (∀ p1 p2:Int,0<=p1->p1<256->(0<a->0<p1)->(∃ s:Nat,p2=s/\s<=24/\(2:Int) ^ s*p1<=a/\a<2 ^ s*(p1+1))->k (p1,p2))->
  brV (decide ((256:Int)<=p1)) (((0:Int)<=(8:Int))/\(k ((shrI IntKind.u32 p1 (8:Int)),(IntKind.wrap IntKind.i64 (p2+(8:Int)))))) (k (p1,p2)):=by
  rintro p1 p2 h1 h2 h0 ⟨s,rfl,h3,h4,h5⟩ k hk
  refine q00.2 ⟨fun hb=>⟨by omega,?_⟩,fun hb=>?_⟩
  . have hb:=of_decide_eq_true hb
    have e:shrI IntKind.u32 p1 8=p1 / 256:=shr32 p1 8
    rw[e,wi64 (by omega) (by omega)]
    refine hk _ _ (by omega) (by omega) (by omega) ⟨s+8,by omega,by omega,?_,?_⟩
    . rw[Int.pow_add]
      have:(2:Int) ^ s*(256*(p1 / 256))<=2 ^ s*p1:=Int.mul_le_mul_of_nonneg_left (by omega) (Int.pow_nonneg (by decide))
      have e:(2:Int) ^ s*2 ^ 8*(p1 / 256)=2 ^ s*(256*(p1 / 256)):=by grind
      omega
    . rw[Int.pow_add]
      have:(2:Int) ^ s*(p1+1)<=2 ^ s*(256*(p1 / 256+1)):=Int.mul_le_mul_of_nonneg_left (by omega) (Int.pow_nonneg (by decide))
      have e:(2:Int) ^ s*2 ^ 8*(p1 / 256+1)=2 ^ s*(256*(p1 / 256+1)):=by grind
      omega
  . have hb:=of_decide_eq_false hb
    exact hk _ _ h1 (by omega) h0 ⟨s,rfl,by omega,h4,h5⟩
 refine q00.2 ⟨fun hb=>⟨by omega,?_⟩,fun hb=>?_⟩
 . have hb:=of_decide_eq_true hb
   have e:shrI IntKind.u32 a 16=a / 65536:=shr32 a 16
   rw[e]
   refine joinE ?_
   exact two (a / 65536) 16 (by omega) (by omega) (by omega) ⟨16,rfl,by omega,by omega,by omega⟩ (L32K a) fin
 . have hb:=of_decide_eq_false hb
   refine joinE ?_
   exact two a 0 (by omega) (by omega) (by omega) ⟨0,rfl,by omega,by omega,by omega⟩ (L32K a) fin
theorem q9m {a:Int} (ha:0<a) (ha':a<4294967296):
 callV Pg q4j [⟨tU,a⟩] tI fun r=>∃ n:Nat,r=n/\n<32/\a*2 ^ n<4294967296/\2147483648<=a*2 ^ n:=by
 have key:∀ n:Nat,n<=32/\a<2 ^ n/\(0<a->(2:Int) ^ n<=2*a)->∃ m:Nat,IntKind.wrap IntKind.i64 ((32:Int) - (n:Int))=m/\m<32/\a*2 ^ m<4294967296/\2147483648<=a*2 ^ m:=by
  rintro n ⟨h1,h2,h3⟩
  have h3:=h3 ha
  have hn:n≠0:=by rintro rfl;simp at h2;omega
  refine⟨32 - n,by rw[wi64 (by omega) (by omega)];omega,by omega,?_,?_⟩
  . have e:(4294967296:Int)=2 ^ n*2 ^ (32 - n):=by rw[<-Int.pow_add,show n+(32 - n)=32 by omega];rfl
    rw[e]
    exact Int.mul_lt_mul_of_pos_right h2 (Int.pow_pos (by decide))
  . have e:(4294967296:Int)=2 ^ n*2 ^ (32 - n):=by rw[<-Int.pow_add,show n+(32 - n)=32 by omega];rfl
    have:(2:Int) ^ n*2 ^ (32 - n)<=2*a*2 ^ (32 - n):=Int.mul_le_mul_of_nonneg_right h3 (Int.pow_nonneg (by decide))
    have e2:2*a*(2:Int) ^ (32 - n)=2*(a*2 ^ (32 - n)):=by grind
    omega
 refine qa6 a ?_ ((s_Len32 (by omega) ha').mono ?_)
 . obtain⟨n,q⟩:=len_ex (a:=a) (by omega) 32 (by omega)
   obtain⟨m,h⟩:=key n q
   exact⟨m,m,rfl,h.2⟩
 . rintro r ⟨n,rfl,q⟩
   exact key n q
end Go.Proofs.Pf
namespace Go.Proofs.Pf
open Go Go.VM
theorem loopE {T:Type} {step:(T->Prop)->T->Prop} {p:T} (Inv:T->Prop) (μ:T->Nat) (h0:Inv p) (h:∀ p,Inv p->step (fun p'=>Inv p'/\μ p'<μ p) p):loopV T step p:=⟨Inv,μ,h0,h⟩
theorem s_trim {a:Option (List Int)} (ha:(a.getD []).length<4611686018427387904):
 callV Pg q2m [⟨tD,a⟩] tD fun r=>r=a.map trim:=by
 refine q9Y a ⟨_,rfl⟩ (loopE (fun p=>p.map trim=a.map trim/\(p.getD []).length<=(a.getD []).length) (fun p=>(p.getD []).length) ⟨rfl,Nat.le_refl _⟩ ?_)
 rintro p ⟨h1,h2⟩
 refine joinE (q00.2 ⟨fun hb=>?_,fun hb=>?_⟩)
 . have hb:=of_decide_eq_true hb
   simp only[szSl] at hb ⊢
   rw[wi64 (by omega) (by omega)]
   cases p with
   | none=>simp at hb
   | some l=>
    simp only[Option.getD_some] at *
    rcases List.eq_nil_or_concat l with rfl | ⟨l',x,rfl⟩
    . simp at hb
    . simp only[List.concat_eq_append] at *
      refine⟨⟨by omega,by simp only[Option.getD_some];omega⟩,q00.2 ⟨fun hb2=>?_,fun hb2=>?_⟩⟩
      . have hb2:=of_decide_eq_true hb2
        have e:(((l' ++ [x]).length:Int) - 1).toNat=l'.length:=by simp
        simp only[eltS,Option.getD_some,e] at hb2
        have hx:x=0:=by simpa[List.getD] using hb2
        subst hx
        refine⟨⟨by omega,by omega,by simp;omega⟩,?_⟩
        simp only[slcS,Option.map_some,e]
        have e2:((l' ++ [0]).take l'.length).drop (0:Int).toNat=l':=by simp
        rw[e2]
        refine⟨⟨?_,?_⟩,by simp⟩
        . rw[<-h1];simp[q2e]
        . simp at h2 ⊢;omega
      . have hb2:=of_decide_eq_false hb2
        have e:(((l' ++ [x]).length:Int) - 1).toNat=l'.length:=by simp
        simp only[eltS,Option.getD_some,e] at hb2
        have hx:x≠0:=by simpa[List.getD] using hb2
        show some (l' ++ [x])=_
        rw[<-h1];simp[q2d _ _ hx]
 . have hb:=of_decide_eq_false hb
   show p=_
   cases p with
   | none=>simpa using h1
   | some l=>
    simp only[szSl,Option.getD_some] at hb
    have:l=[]:=by apply List.eq_nil_of_length_eq_zero;omega
    subst this
    rw[<-h1];rfl
def IV (x:Int×Option (List Int)) (n:Int):Prop:=
 match x.2 with
 | none=>x.1=n /\ -4611686018427387904<n/\n<4611686018427387904
 | some l=>Dig l/\Trm l/\4611686018427387904<=nv l/\((x.1=1/\n=nv l)∨(x.1 = -1/\n = -nv l))
theorem IV.none {v n:Int} (h:v=n) (h1:-4611686018427387904<n) (h2:n<4611686018427387904):IV (v,none) n:=⟨h,h1,h2⟩
def sgn (n:Int):Int:=if 0<n then 1 else if n<0 then -1 else 0
theorem q1C {x:Int×Option (List Int)} {n:Int} (h:IV x n):callV Pg q13 [⟨tEI,x⟩] tI fun r=>r=sgn n:=by
 refine q9F x ⟨_,rfl⟩ ?_
 obtain⟨v,d⟩:=x
 have hv:(0<v↔0<n)/\(v<0↔n<0):=by
  cases d with
  | none=>obtain⟨h1,h2,h3⟩:=h;simp only at h1;omega
  | some l=>obtain⟨h1,h2,h3,h4⟩:=h;simp only at h4;omega
 simp only[q00,decide_eq_true_eq,decide_eq_false_iff_not,sgn]
 refine⟨fun h1=>?_,fun h1=>⟨fun h2=>?_,fun h2=>?_⟩⟩
 . rw[if_pos (by omega)]
 . rw[if_neg (by omega),if_pos (by omega)]
 . rw[if_neg (by omega),if_neg (by omega)]
theorem s_Neg {x:Int×Option (List Int)} {n:Int} (h:IV x n):callV Pg q1I [⟨tEI,x⟩] tEI fun r=>IV r (-n):=by
 have key:IV (IntKind.wrap IntKind.i64 (0 - x.1),x.2) (-n):=by
  obtain⟨v,d⟩:=x
  cases d with
  | none=>obtain⟨h1,h2,h3⟩:=h;simp only at h1;exact⟨by simp only;rw[wi64 (by omega) (by omega)];omega,by omega,by omega⟩
  | some l=>
   obtain⟨h1,h2,h3,h4⟩:=h;simp only at h4
   refine⟨h1,h2,h3,?_⟩
   simp only;rw[wi64 (by omega) (by omega)];omega
 exact q9D x ⟨_,key⟩ key
theorem s_Abs {x:Int×Option (List Int)} {n:Int} (h:IV x n):callV Pg q35 [⟨tEI,x⟩] tEI fun r=>IV r n.natAbs:=by
 obtain⟨v,d⟩:=x
 have hv:(v<0↔n<0):=by
  cases d with
  | none=>obtain⟨h1,h2,h3⟩:=h;simp only at h1;omega
  | some l=>obtain⟨h1,h2,h3,h4⟩:=h;simp only at h4;omega
 have hc:=s_Neg h
 refine q9z (v,d) ?_ (q00.2 ⟨fun hb=>?_,fun hb=>?_⟩)
 . by_cases h0:n<0
   . obtain⟨r,hr⟩:=hc.ex;exact⟨r,by rw[show (n.natAbs:Int) = -n by omega];exact hr⟩
   . exact⟨_,by rw[show (n.natAbs:Int)=n by omega];exact h⟩
 . have hb:=of_decide_eq_true hb
   refine hc.mono fun r hr=>?_
   simp only at hb
   rw[show (n.natAbs:Int) = -n by omega];exact hr
 . have hb:=of_decide_eq_false hb
   simp only at hb
   rw[show (n.natAbs:Int)=n by omega];exact h
theorem q0d (l:List Int) (i:Nat):nv (l.take (i+1))=nv (l.take i)+4294967296 ^ i*l.getD i 0:=by
 rcases Nat.lt_or_ge i l.length with h | h
 . exact q1V l i h
 . rw[List.take_of_length_le (by omega),List.take_of_length_le h]
   have:l.getD i 0=0:=by simp[List.getD,h]
   rw[this];omega
def SumOf (a b:List Int) (r:Option (List Int)):Prop:=∃ l,r=some l/\Dig l/\nv l=nv a+nv b/\l.length<=max a.length b.length+1
theorem plus_ex {a b:List Int} (ha:Dig a) (hb:Dig b):∀ k:Nat,∃ (o:List Int) (c:Int),o.length=k/\Dig o/\0<=c/\c<=1/\nv o+4294967296 ^ k*c=nv (a.take k)+nv (b.take k)
 | 0=>⟨[],0,rfl,Dig.nil,by omega,by omega,by simp[nv]⟩
 | k+1=>by
  obtain⟨o,c,h1,h2,h3,h4,h5⟩:=plus_ex ha hb k
  have ga:=ha.get k
  have gb:=hb.get k
  refine⟨o ++ [(a.getD k 0+b.getD k 0+c) % 4294967296],(a.getD k 0+b.getD k 0+c) / 4294967296,by simp[h1],h2.app (Dig.cons (by omega) (by omega) Dig.nil),by omega,by omega,?_⟩
  rw[q0j,q0d,q0d,h1,Int.pow_succ]
  have:=Int.emod_add_mul_ediv (a.getD k 0+b.getD k 0+c) 4294967296
  generalize (a.getD k 0+b.getD k 0+c) % 4294967296=x at *
  generalize (a.getD k 0+b.getD k 0+c) / 4294967296=y at *
  grind
theorem plus_step {a b o:List Int} {c:Int} {k:Nat} (ha:Dig a) (hb:Dig b) (h1:o.length=k) (h2:Dig o) (h3:0<=c) (h4:c<=1) (h5:nv o+4294967296 ^ k*c=nv (a.take k)+nv (b.take k)):
 Dig (o ++ [(a.getD k 0+b.getD k 0+c) % 4294967296])/\0<=(a.getD k 0+b.getD k 0+c) / 4294967296/\(a.getD k 0+b.getD k 0+c) / 4294967296<=1 /\
  nv (o ++ [(a.getD k 0+b.getD k 0+c) % 4294967296])+4294967296 ^ (k+1)*((a.getD k 0+b.getD k 0+c) / 4294967296)=nv (a.take (k+1))+nv (b.take (k+1)):=by
 have ga:=ha.get k
 have gb:=hb.get k
 refine⟨h2.app (Dig.cons (by omega) (by omega) Dig.nil),by omega,by omega,?_⟩
 rw[q0j,q0d,q0d,h1,Int.pow_succ]
 have:=Int.emod_add_mul_ediv (a.getD k 0+b.getD k 0+c) 4294967296
 generalize (a.getD k 0+b.getD k 0+c) % 4294967296=x at *
 generalize (a.getD k 0+b.getD k 0+c) / 4294967296=y at *
 grind
theorem joinR {T:Type} {k:T->Prop} {body:(T->Prop)->Prop} (R:T->Prop) (hk:∀ p,R p->k p) (hb:∀ k':T->Prop,(∀ p,R p->k' p)->body k'):joinV T k body:=⟨hb k hk⟩
theorem dec_t {p:Prop} [Decidable p] (h:decide p=true):p:=of_decide_eq_true h
theorem dec_f {p:Prop} [Decidable p] (h:decide p=false):¬ p:=of_decide_eq_false h
structure PInv (A B:Option (List Int)) (f:List Int->Int->Nat->Prop) (p:Option (List Int)×Option (List Int)×Int×Int×Int×Option (List Int)):Prop where
 a:p.1=A
 b:p.2.1=B
 n:p.2.2.2.1=((A.getD []).length:Int)
 k:∃ (k:Nat) (o:List Int),p.2.2.2.2.1=k/\k<=(A.getD []).length/\p.2.2.2.2.2=some o/\o.length=k/\f o p.2.2.1 k
theorem q1d {l:Option (List Int)} {i:Nat} (h:¬ i<(l.getD []).length):(l.getD []).getD i 0=0:=by
 simp[List.getD,Nat.le_of_not_lt h]
theorem s_plus {a b:Option (List Int)} (ha:Dig (a.getD [])) (hb:Dig (b.getD [])) (la:(a.getD []).length<=1099511627776) (lb:(b.getD []).length<=1099511627776):
 callV Pg q3a [⟨tD,a⟩,⟨tD,b⟩] tD fun r=>SumOf (a.getD []) (b.getD []) r:=by
 refine q9V a b ?_ (joinR (fun p=>Dig (p.1.getD [])/\Dig (p.2.getD [])/\(p.1.getD []).length<=1099511627776/\(p.2.getD []).length<=(p.1.getD []).length/\(∀ r,SumOf (p.1.getD []) (p.2.getD []) r->SumOf (a.getD []) (b.getD []) r)) ?_ ?_)
 . obtain⟨o,c,h1,h2,h3,h4,h5⟩:=plus_ex ha hb (max (a.getD []).length (b.getD []).length)
   refine⟨some (o ++ [c]),o ++ [c],rfl,h2.app (Dig.cons h3 (by omega) Dig.nil),?_,by simp[h1]⟩
   rw[q0j,h1,h5,List.take_of_length_le (by omega),List.take_of_length_le (by omega)]
 . rintro⟨A,B⟩ ⟨h1,h2,h3,h4,h5⟩
   simp only at h1 h2 h3 h4 h5 ⊢
   refine⟨?_,?_⟩
   . simp only[szSl];rw[wi64 (by omega) (by omega)];simp only[mkC];omega
   refine loopE (PInv A B fun o c k=>Dig o/\0<=c/\c<=1/\nv o+4294967296 ^ k*c=nv ((A.getD []).take k)+nv ((B.getD []).take k)) (fun p=>((A.getD []).length - p.2.2.2.2.1).toNat) ⟨rfl,rfl,rfl,0,[],rfl,by omega,rfl,rfl,Dig.nil,Int.le_refl _,(by decide:(0:Int)<=1),by simp[nv]⟩ ?_
   rintro⟨A',B',c,n,i,out⟩ ⟨e1,e2,e3,k,o,e4,e5,e6,e7,e8,e9,e10,e11⟩
   simp only at e1 e2 e3 e4 e6 e9 e10 e11;subst e1 e2 e3 e4 e6
   refine q00.2 ⟨fun hb=>?_,fun hb=>?_⟩
   . have hb:=dec_t hb
     simp only at hb
     refine joinR (fun p=>p=(A',B',c,(k:Int),(B'.getD []).getD k 0,((A'.getD []).length:Int),(k:Int),some o)) ?_ ?_
     . rintro _ rfl
       simp only
       have ga:=h1.get k
       have gb:=h2.get k
       refine⟨⟨by omega,by omega⟩,(s_Add32 (by simpa[eltS] using ga.1) (by simpa[eltS] using ga.2) gb.1 gb.2 e9 (by omega)).mono ?_⟩
       rintro _ rfl
       refine⟨?_,⟨rfl,rfl,rfl,k+1,o ++ [((A'.getD []).getD k 0+(B'.getD []).getD k 0+c) % 4294967296],?_,by omega,rfl,by simp[e7],?_⟩,?_⟩
       . show (o.length+1)*4<=140737488355328;omega
       . show IntKind.wrap IntKind.i64 ((k:Int)+1)=((k+1:Nat):Int);rw[wi64 (by omega) (by omega)];omega
       . exact plus_step h1 h2 e7 e8 e9 e10 e11
       . show ((A'.getD []).length - IntKind.wrap IntKind.i64 ((k:Int)+1)).toNat<(((A'.getD []).length:Int) - (k:Int)).toNat
         rw[wi64 (by omega) (by omega)];omega
     . intro k' hk'
       refine q00.2 ⟨fun hb2=>?_,fun hb2=>?_⟩
       . have hb2:=dec_t hb2
         simp only[szSl] at hb2
         refine⟨⟨by dsimp only;omega,by dsimp only;omega⟩,hk' _ ?_⟩
         simp only[eltS,Int.toNat_natCast]
       . have hb2:=dec_f hb2
         simp only[szSl] at hb2
         refine hk' _ ?_
         rw[q1d (by omega)]
   . have hb:=dec_f hb
     simp only at hb
     have hk:k=(A'.getD []).length:=by omega
     refine⟨?_,h5 _ ⟨o ++ [c],rfl,e8.app (Dig.cons e9 (by omega) Dig.nil),?_,by simp;omega⟩⟩
     . show (o.length+1)*4<=140737488355328;omega
     . rw[q0j,e7,e11,hk,List.take_length,List.take_of_length_le (by omega)]
 . intro k' hk'
   refine q00.2 ⟨fun hb2=>?_,fun hb2=>?_⟩
   . have hb2:=dec_t hb2
     simp only[szSl] at hb2
     refine hk' _ ⟨hb,ha,by omega,by simp only;omega,?_⟩
     rintro r ⟨l,q1,q2,q3,q4⟩
     exact⟨l,q1,q2,by rw[q3,Int.add_comm],by rw[Nat.max_comm];exact q4⟩
   . have hb2:=dec_f hb2
     simp only[szSl] at hb2
     exact hk' _ ⟨ha,hb,la,by simp only;omega,fun r h=>h⟩
theorem q6o {a b o:List Int} {c:Int} {k:Nat} (ha:Dig a) (hb:Dig b) (h1:o.length=k) (h2:Dig o) (h3:0<=c) (h4:c<=1) (h5:nv o - 4294967296 ^ k*c=nv (a.take k) - nv (b.take k)):
 Dig (o ++ [(a.getD k 0 - b.getD k 0 - c) % 4294967296])/\0<=(if a.getD k 0<b.getD k 0+c then (1:Int) else 0)/\(if a.getD k 0<b.getD k 0+c then (1:Int) else 0)<=1 /\
  nv (o ++ [(a.getD k 0 - b.getD k 0 - c) % 4294967296]) - 4294967296 ^ (k+1)*(if a.getD k 0<b.getD k 0+c then (1:Int) else 0)=nv (a.take (k+1)) - nv (b.take (k+1)):=by
 have ga:=ha.get k
 have gb:=hb.get k
 have e:(a.getD k 0 - b.getD k 0 - c) % 4294967296=a.getD k 0 - b.getD k 0 - c+4294967296*(if a.getD k 0<b.getD k 0+c then (1:Int) else 0):=by split<;>omega
 have e0:0<=(if a.getD k 0<b.getD k 0+c then (1:Int) else 0)/\(if a.getD k 0<b.getD k 0+c then (1:Int) else 0)<=1:=by split<;>omega
 refine⟨h2.app (Dig.cons (by omega) (by omega) Dig.nil),e0.1,e0.2,?_⟩
 rw[q0j,q0d,q0d,h1,Int.pow_succ,e]
 generalize (if a.getD k 0<b.getD k 0+c then (1:Int) else 0)=y at *
 grind
theorem q6m {a b:List Int} (ha:Dig a) (hb:Dig b):∀ k:Nat,∃ (o:List Int) (c:Int),o.length=k/\Dig o/\0<=c/\c<=1/\nv o - 4294967296 ^ k*c=nv (a.take k) - nv (b.take k)
 | 0=>⟨[],0,rfl,Dig.nil,by omega,by omega,by simp[nv]⟩
 | k+1=>by
  obtain⟨o,c,h1,h2,h3,h4,h5⟩:=q6m ha hb k
  obtain⟨q1,q2,q3,q4⟩:=q6o ha hb h1 h2 h3 h4 h5
  exact⟨_,_,by simp[h1],q1,q2,q3,q4⟩
theorem q6n {a b o:List Int} {c:Int} (h1:o.length=a.length) (h2:Dig o) (h3:0<=c) (h4:c<=1) (h5:nv o - 4294967296 ^ a.length*c=nv a - nv b) (h:nv b<=nv a):nv o=nv a - nv b:=by
 have hl:=nv_lt h2
 rw[h1] at hl
 have:c=0:=by
  rcases (by omega:c=0∨c=1) with h | rfl
  . exact h
  . omega
 subst this;omega
def DifOf (a b:List Int) (r:Option (List Int)):Prop:=∃ l,r=some l/\Dig l/\nv l=nv a - nv b/\l.length=a.length
theorem s_minus {a b:Option (List Int)} (ha:Dig (a.getD [])) (hb:Dig (b.getD [])) (la:(a.getD []).length<=1099511627776) (lb:(b.getD []).length<=(a.getD []).length) (hle:nv (b.getD [])<=nv (a.getD [])):
 callV Pg q1K [⟨tD,a⟩,⟨tD,b⟩] tD fun r=>DifOf (a.getD []) (b.getD []) r:=by
 refine q9T a b ?_ ⟨?_,?_⟩
 . obtain⟨o,c,h1,h2,h3,h4,h5⟩:=q6m ha hb (a.getD []).length
   rw[List.take_length,List.take_of_length_le lb] at h5
   exact⟨some o,o,rfl,h2,q6n h1 h2 h3 h4 h5 hle,h1⟩
 . simp only[szSl,mkC];omega
 refine loopE (PInv a b fun o c k=>Dig o/\0<=c/\c<=1/\nv o - 4294967296 ^ k*c=nv ((a.getD []).take k) - nv ((b.getD []).take k)) (fun p=>((a.getD []).length - p.2.2.2.2.1).toNat) ⟨rfl,rfl,rfl,0,[],rfl,by omega,rfl,rfl,Dig.nil,Int.le_refl _,(by decide:(0:Int)<=1),by simp[nv]⟩ ?_
 rintro⟨A',B',c,n,i,out⟩ ⟨e1,e2,e3,k,o,e4,e5,e6,e7,e8,e9,e10,e11⟩
 simp only at e1 e2 e3 e4 e6 e9 e10 e11;subst e1 e2 e3 e4 e6
 refine q00.2 ⟨fun hbb=>?_,fun hbb=>?_⟩
 . have hb':=dec_t hbb
   simp only at hb'
   refine joinR (fun p=>p=(A',B',c,(k:Int),(B'.getD []).getD k 0,((A'.getD []).length:Int),(k:Int),some o)) ?_ ?_
   . rintro _ rfl
     simp only
     have ga:=ha.get k
     have gb:=hb.get k
     refine⟨⟨by omega,by omega⟩,(s_Sub32 (by simpa[eltS] using ga.1) (by simpa[eltS] using ga.2) gb.1 gb.2 e9 e10).mono ?_⟩
     rintro _ rfl
     refine⟨?_,⟨rfl,rfl,rfl,k+1,o ++ [((A'.getD []).getD k 0 - (B'.getD []).getD k 0 - c) % 4294967296],?_,by omega,rfl,by simp[e7],?_⟩,?_⟩
     . show (o.length+1)*4<=140737488355328;omega
     . show IntKind.wrap IntKind.i64 ((k:Int)+1)=((k+1:Nat):Int);rw[wi64 (by omega) (by omega)];omega
     . exact q6o ha hb e7 e8 e9 e10 e11
     . show ((A'.getD []).length - IntKind.wrap IntKind.i64 ((k:Int)+1)).toNat<(((A'.getD []).length:Int) - (k:Int)).toNat
       rw[wi64 (by omega) (by omega)];omega
   . intro k' hk'
     refine q00.2 ⟨fun hb2=>?_,fun hb2=>?_⟩
     . have hb2:=dec_t hb2
       simp only[szSl] at hb2
       refine⟨⟨by dsimp only;omega,by dsimp only;omega⟩,hk' _ ?_⟩
       simp only[eltS,Int.toNat_natCast]
     . have hb2:=dec_f hb2
       simp only[szSl] at hb2
       refine hk' _ ?_
       rw[q1d (by omega)]
 . have hb':=dec_f hbb
   simp only at hb'
   have hk:k=(A'.getD []).length:=by omega
   subst hk
   rw[List.take_length,List.take_of_length_le lb] at e11
   exact⟨o,rfl,e8,q6n e7 e8 e9 e10 e11 hle,e7⟩
end Go.Proofs.Pf
namespace Go.Proofs.Pf
open Go Go.VM
theorem q2A {a b:List Int} (ha:Dig a) (hb:Dig b) {k:Nat} (hl:a.length=b.length) (hk:k<a.length) (heq:nv (a.drop (k+1))=nv (b.drop (k+1))) (hlt:a.getD k 0<b.getD k 0):nv a<nv b:=by
 rw[q1x a k (by omega),q1x b k (by omega),q0v a k hk,q0v b k (by omega),heq]
 have h1:=nv_lt (ha.take k)
 have h2:=nv_nonneg (hb.take k)
 rw[List.length_take,Nat.min_eq_left (by omega)] at h1
 have hp:=pow_pos32 k
 have:4294967296 ^ k*(a.getD k 0+4294967296*nv (b.drop (k+1))+1)<=(4294967296:Int) ^ k*(b.getD k 0+4294967296*nv (b.drop (k+1))):=Int.mul_le_mul_of_nonneg_left (by omega) (by omega)
 rw[Int.mul_add _ _ 1] at this
 omega
theorem not_t {p:Prop} [Decidable p] (h:notB (decide p)=true):¬ p:=by simpa[notB] using h
theorem not_f {p:Prop} [Decidable p] (h:notB (decide p)=false):p:=by simpa[notB] using h
def cmpI (a b:Int):Int:=if a<b then -1 else if b<a then 1 else 0
theorem q0I {a b:List Int} (ha:Dig a) (hb:Dig b) (tb:Trm b) (h:a.length<b.length):nv a<nv b:=by
 have h1:=nv_lt ha
 have hne:b≠[]:=by rintro rfl;simp at h
 have h2:=tb.ge hb hne
 have h3:=pow_mono32 (show a.length<=b.length - 1 by omega)
 omega
theorem q6T {a b:Option (List Int)} (ha:Dig (a.getD [])) (hb:Dig (b.getD [])) (ta:Trm (a.getD [])) (tb:Trm (b.getD [])) (la:(a.getD []).length<=1099511627776):
 callV Pg q2l [⟨tD,a⟩,⟨tD,b⟩] tI fun r=>r=cmpI (nv (a.getD [])) (nv (b.getD [])):=by
 refine q9Q a b ⟨_,rfl⟩ (q00.2 ⟨fun h=>q00.2 ⟨fun h2=>?_,fun h2=>?_⟩,fun h=>?_⟩)
 . have h2:=dec_t h2
   simp only[szSl] at h2
   have:=q0I ha hb tb (by omega)
   rw[cmpI,if_pos this]
 . have h2:=dec_f h2
   have h:=not_t h
   simp only[szSl] at h h2
   have:=q0I hb ha ta (by omega)
   rw[cmpI,if_neg (by omega),if_pos this]
 . have h:=not_f h
   simp only[szSl] at h
   refine loopE (fun p=>p.1=a/\p.2.1=b/\∃ k:Nat,p.2.2=(k:Int) - 1/\k<=(a.getD []).length/\nv ((a.getD []).drop k)=nv ((b.getD []).drop k)) (fun p=>(p.2.2+1).toNat) ⟨rfl,rfl,(a.getD []).length,?_,Nat.le_refl _,?_⟩ ?_
   . simp only[szSl];exact wi64 (by omega) (by omega)
   . rw[List.drop_length,show (a.getD []).length=(b.getD []).length by omega,List.drop_length]
   . rintro⟨A,B,i⟩ ⟨e1,e2,k,e3,h1,h2⟩
     simp only at e1 e2 e3;subst e1 e2 e3
     refine q00.2 ⟨fun hc=>?_,fun hc=>?_⟩
     . have hc:=dec_t hc
       (try simp only at hc)
       obtain⟨k,rfl⟩:∃ j,k=j+1:=⟨k - 1,by omega⟩
       have e:((k+1:Nat):Int) - 1=(k:Int):=by omega
       have ek:(((k+1:Nat):Int) - 1).toNat=k:=by omega
       have i1:inS A (((k+1:Nat):Int) - 1):=⟨by omega,by omega⟩
       have i2:inS B (((k+1:Nat):Int) - 1):=⟨by omega,by omega⟩
       refine⟨i1,i2,q00.2 ⟨fun hd=>⟨i1,i2,q00.2 ⟨fun hd2=>?_,fun hd2=>?_⟩⟩,fun hd=>?_⟩⟩
       . have hd2:=dec_t hd2
         simp only[eltS,ek] at hd2
         have:=q2A ha hb (by omega) (by omega) h2 hd2
         rw[cmpI,if_pos this]
       . have hd2:=dec_f hd2
         have hd:=not_t hd
         simp only[eltS,ek] at hd hd2
         have:=q2A hb ha (by omega) (by omega) h2.symm (show (B.getD []).getD k 0<(A.getD []).getD k 0 by omega)
         rw[cmpI,if_neg (by omega),if_pos this]
       . have hd:=not_f hd
         simp only[eltS,ek] at hd
         refine⟨⟨rfl,rfl,k,?_,by omega,?_⟩,?_⟩
         . show IntKind.wrap IntKind.i64 (((k+1:Nat):Int) - 1 - 1)=(k:Int) - 1;rw[wi64 (by omega) (by omega)];omega
         . rw[q0v (A.getD []) k (by omega),q0v (B.getD []) k (by omega),hd,h2]
         . show (IntKind.wrap IntKind.i64 (((k+1:Nat):Int) - 1 - 1)+1).toNat<(((k+1:Nat):Int) - 1+1).toNat;rw[wi64 (by omega) (by omega)];omega
     . have hc:=dec_f hc
       (try simp only at hc)
       have:k=0:=by omega
       subst this
       simp only[List.drop_zero] at h2
       rw[cmpI,if_neg (by omega),if_neg (by omega)]
theorem nv_two {m:Int}:nv [m % 4294967296,m / 4294967296]=m:=by simp only[nv];omega
theorem dig_two {m:Int} (h0:0<=m) (h1:m<18446744073709551616):Dig [m % 4294967296,m / 4294967296]:=
 Dig.cons (by omega) (by omega) (Dig.cons (by omega) (by omega) Dig.nil)
theorem q71 {m:Int} (h0:0<=m) (h1:m<18446744073709551616):[IntKind.wrap IntKind.u32 m,IntKind.wrap IntKind.u32 (shrI IntKind.u64 m 32)]=[m % 4294967296,m / 4294967296]:=by
 rw[q2a,wu32m,wu32m,Int.emod_eq_of_lt (b:=4294967296) (a:=m / 4294967296) (by omega) (by omega)]
def DigOf (n:Int) (r:Int×Option (List Int)×Unit):Prop:=r.1=sgn n/\∃ l,r.2.1=some l/\Dig l/\Trm l/\nv l=n.natAbs
theorem q27 {x:Int×Option (List Int)} {n:Int} (h:IV x n):callV Pg q0N [⟨tEI,x⟩] (.tup (.pair tI (.pair tD .unit))) fun r=>DigOf n r:=by
 obtain⟨v,d⟩:=x
 cases d with
 | some l=>
  obtain⟨h1,h2,h3,h4⟩:=h
  simp only at h4
  have key:DigOf n (v,some l,()):=by
   refine⟨?_,l,rfl,h1,h2,by omega⟩
   simp only[sgn]
   rcases h4 with ⟨rfl,rfl⟩ | ⟨rfl,rfl⟩
   . rw[if_pos (by omega)]
   . rw[if_neg (by omega),if_pos (by omega)]
  exact q79 _ ⟨_,key⟩ key
 | none=>
  obtain⟨rfl,h1,h2⟩:=h
  simp only at h1 h2
  have key:DigOf v (sgn v,some (trim [(v.natAbs:Int) % 4294967296,(v.natAbs:Int) / 4294967296]),()):=
   ⟨rfl,_,rfl,(dig_two (by omega) (by omega)).trim,trm_trim _,by rw[q0S,nv_two]⟩
  refine q79 _ ⟨_,key⟩ (q00.2 ⟨fun h=>by simp[notB] at h,fun _=>?_⟩)
  refine (joinR (fun p=>p=(sgn v,(v.natAbs:Int))) ?_ ?_)
  . rintro _ rfl
    refine⟨by omega,?_⟩
    simp only
    rw[q71 (by omega) (by omega)]
    refine (s_trim (by simp)).mono ?_
    rintro _ rfl
    exact key
  . intro k hk
    refine q00.2 ⟨fun hc=>?_,fun hc=>joinE (q00.2 ⟨fun hd=>?_,fun hd=>?_⟩)⟩
    . have hc:=dec_t hc
      (try simp only at hc)
      refine hk _ ?_
      rw[wu64 (by omega) (by omega),sgn,if_pos hc,show (v.natAbs:Int)=v by omega]
    . have hd:=dec_t hd
      simp only at hd
      refine hk _ ?_
      rw[wi64 (by omega) (by omega),wu64 (by omega) (by omega),sgn,if_neg (by omega),if_pos hd,show (v.natAbs:Int)=0 - v by omega]
    . have hc:=dec_f hc
      have hd:=dec_f hd
      simp only at hc hd
      refine hk _ ?_
      rw[sgn,if_neg hc,if_neg hd,show (v.natAbs:Int)=0 by omega]
end Go.Proofs.Pf
namespace Go.Proofs.Pf
open Go Go.VM
theorem q3r {a b:Int}:0<=cmpI a b↔b<=a:=by
 unfold cmpI;split
 . constructor<;>intro<;>omega
 . split<;>constructor<;>intro<;>omega
theorem cmpI_lt {a b:Int} (h:¬ 0<=cmpI a b):a<b:=by
 rw[q3r] at h;omega
theorem nv_ex:∀ (k:Nat) (a:Nat),a<k->∃ l,Dig l/\Trm l/\nv l=(a:Int)
 | 0,a,h=>by omega
 | k+1,a,h=>by
  by_cases h0:a=0
  . exact⟨[],Dig.nil,fun d hd=>by simp at hd,by simp[nv,h0]⟩
  . by_cases h1:a<4294967296
    . exact⟨[(a:Int)],Dig.cons (by omega) (by omega) Dig.nil,fun d hd=>by simp at hd;omega,by simp[nv]⟩
    . obtain⟨l,q1,q2,q3⟩:=nv_ex k (a / 4294967296) (by omega)
      refine⟨((a % 4294967296:Nat):Int) :: l,Dig.cons (by omega) (by omega) q1,?_,by simp only[nv,q3];omega⟩
      intro d hd
      cases l with
      | nil=>simp only[nv] at q3;omega
      | cons x l=>rw[List.getLast?_cons_cons] at hd;exact q2 d hd
theorem IV_ex (n:Int):∃ r,IV r n:=by
 by_cases h:-4611686018427387904<n/\n<4611686018427387904
 . exact⟨(n,none),rfl,h.1,h.2⟩
 . obtain⟨l,q1,q2,q3⟩:=nv_ex (n.natAbs+1) n.natAbs (by omega)
   by_cases h0:0<n
   . exact⟨(1,some l),q1,q2,by omega,.inl ⟨rfl,by omega⟩⟩
   . exact⟨(-1,some l),q1,q2,by omega,.inr ⟨rfl,by omega⟩⟩
theorem s_Of {n:Int} (h1:-9223372036854775808<=n) (h2:n<9223372036854775808):callV Pg q14 [⟨tI,n⟩] tEI fun r=>IV r n:=by
 have big:∀ s m:Int,4611686018427387904<=m->m<=9223372036854775808->((s=1/\n=m)∨(s = -1/\n = -m))->IV (s,some [m % 4294967296,m / 4294967296]) n:=by
  intro s m h3 h4 h5
  refine⟨dig_two (by omega) (by omega),?_,by rw[nv_two];exact h3,by rw[nv_two];exact h5⟩
  intro d hd
  simp at hd
  omega
 refine q9G n (IV_ex _) (joinR (fun p=>∃ b:Bool,p=(n,b,(0:Int),none)/\(b=true ↔ -4611686018427387904<n/\n<4611686018427387904)) ?_ ?_)
 . rintro _ ⟨b,rfl,hb⟩
   refine q00.2 ⟨fun h=>?_,fun h=>?_⟩
   . obtain⟨h3,h4⟩:=hb.1 h
     exact⟨rfl,h3,h4⟩
   . have h3:¬ (-4611686018427387904<n/\n<4611686018427387904):=fun h4=>by rw[hb.2 h4] at h;simp at h
     refine joinR (fun p=>∃ s m:Int,p=(s,m,(0:Int),none)/\4611686018427387904<=m/\m<=9223372036854775808/\((s=1/\n=m)∨(s = -1/\n = -m))) ?_ ?_
     . rintro _ ⟨s,m,rfl,q1,q2,q3⟩
       refine⟨by omega,?_⟩
       (try simp only)
       rw[q71 (by omega) (by omega)]
       exact big s m q1 q2 q3
     . intro k hk
       refine q00.2 ⟨fun h=>?_,fun h=>?_⟩
       . have h:=dec_t h
         (try simp only at h)
         refine hk _ ⟨-1,-n,?_,by omega,by omega,by omega⟩
         simp only[wu64m]
         rw[show ((0:Int) - n % 18446744073709551616) % 18446744073709551616 = -n by omega]
       . have h:=dec_f h
         (try simp only at h)
         refine hk _ ⟨1,n,?_,by omega,by omega,by omega⟩
         (try simp only)
         rw[wu64 (by omega) (by omega)]
 . intro k hk
   refine q00.2 ⟨fun h=>?_,fun h=>?_⟩
   . have h:=dec_t h
     exact hk _ ⟨_,rfl,by simp only[decide_eq_true_eq];omega⟩
   . have h:=dec_f h
     exact hk _ ⟨_,rfl,by simp;omega⟩
theorem made_ok {s:Int} {l:List Int} (hl:Dig l) (hs:s=1∨s = -1∨(s=0/\nv l=0)) (hb:4611686018427387904<=nv l):IV (s,some (trim l)) (s*nv l):=by
 refine⟨hl.trim,trm_trim l,by rw[q0S];exact hb,?_⟩
 rw[q0S]
 rcases hs with rfl | rfl | ⟨_,h⟩
 . left;exact⟨rfl,by omega⟩
 . right;exact⟨rfl,by omega⟩
 . omega
theorem q1i {s:Int} {b:Option (List Int)} (hl:Dig (b.getD [])) (hs:s=1∨s = -1∨(s=0/\nv (b.getD [])=0)) (hlen:(b.getD []).length<=1099511627776):
 callV Pg q0s [⟨tI,s⟩,⟨tD,b⟩] tEI fun r=>IV r (s*nv (b.getD [])):=by
 have hn:=nv_nonneg hl
 have small:nv (b.getD [])<4611686018427387904->IV (s*nv (b.getD []),none) (s*nv (b.getD [])):=by
  intro h
  rcases hs with rfl | rfl | ⟨rfl,h0⟩
  . exact⟨rfl,by omega,by omega⟩
  . exact⟨rfl,by omega,by omega⟩
  . exact⟨rfl,by omega,by omega⟩
 refine q9S s b (IV_ex _) ((s_trim (by omega)).mono ?_)
 rintro _ rfl
 have fin:4611686018427387904<=nv (b.getD [])->IV (s,b.map trim) (s*nv (b.getD [])):=by
  intro h
  cases b with
  | none=>simp[nv] at h
  | some l=>exact made_ok hl hs h
 have ht:(b.map trim).getD []=trim (b.getD []):=by cases b<;>rfl
 refine joinR (fun p=>4611686018427387904<=nv (b.getD [])/\p.1=s/\p.2.1=b.map trim) ?_ ?_
 . rintro⟨p1,p2,p3⟩ ⟨h,rfl,rfl⟩
   exact fin h
 . intro k hk
   refine q00.2 ⟨fun h=>?_,fun h=>?_⟩
   . have h:=dec_t h
     simp only[szSl,ht] at h
     have hd:=hl.trim
     refine loopE (fun p=>p.1=s/\p.2.1=b.map trim/\p.2.2.2.1=b.map trim/\p.2.2.2.2.1=((trim (b.getD [])).length:Int)/\∃ j:Nat,p.2.2.2.2.2.1=j/\j<=(trim (b.getD [])).length/\p.2.2.1=nv ((trim (b.getD [])).take j)) (fun p=>((trim (b.getD [])).length - p.2.2.2.2.2.1).toNat) ⟨rfl,rfl,rfl,by simp only[szSl,ht],0,rfl,by omega,by simp[nv]⟩ ?_
     rintro⟨q1,q2,q3,q4,q5,q6,q7⟩ ⟨e1,e2,e3,e4,j,e5,e6,e7⟩
     simp only at e1 e2 e3 e4 e5 e7;subst e1 e2 e3 e4 e5 e7
     refine q00.2 ⟨fun hc=>?_,fun hc=>?_⟩
     . have hc:=dec_t hc
       (try simp only at hc)
       have g:=hd.get j
       refine⟨⟨by (try simp only);omega,by simp only[ht];omega⟩,by (try simp only);rw[wi64 (by omega) (by omega)];omega,⟨rfl,rfl,rfl,rfl,j+1,?_,by omega,?_⟩,?_⟩
       . show IntKind.wrap IntKind.i64 ((j:Int)+1)=((j+1:Nat):Int);rw[wi64 (by omega) (by omega)];omega
       . show bitI BinOp.or IntKind.u64 (nv ((trim (b.getD [])).take j)) (shlI IntKind.u64 (IntKind.wrap IntKind.u64 (((b.map trim).getD []).getD ((j:Int)).toNat 0)) (IntKind.wrap IntKind.i64 (32*(j:Int))))=_
         rw[ht,Int.toNat_natCast,wi64 (by omega) (by omega),wu64 g.1 (by omega)]
         have e:(32*(j:Int))=((32*j:Nat):Int):=by omega
         rw[e,shl64 _ _ (by omega),q1V _ _ (by omega)]
         have hp:(2:Int) ^ (32*j)=4294967296 ^ j:=by rw[Int.pow_mul];rfl
         have hj:j=0∨j=1:=by omega
         have htk:=nv_lt (hd.take j)
         have htk0:=nv_nonneg (hd.take j)
         rw[List.length_take,Nat.min_eq_left (by omega)] at htk
         have hb1:(trim (b.getD [])).getD j 0*2 ^ (32*j)<=4294967295*4294967296:=by
          rw[hp];rcases hj with rfl | rfl
          . rw[show (4294967296:Int) ^ 0=1 from rfl];omega
          . rw[show (4294967296:Int) ^ 1=4294967296 from rfl];omega
         have hb2:0<=(trim (b.getD [])).getD j 0*2 ^ (32*j):=Int.mul_nonneg g.1 (Int.pow_nonneg (by decide))
         rw[Int.emod_eq_of_lt hb2 (by omega)]
         have hb3:nv ((trim (b.getD [])).take j)<=4294967295:=by
          rcases hj with rfl | rfl<;>simp at htk ⊢<;>omega
         rw[or64 (32*j) htk0 (by rw[hp];exact htk) g.1 (by omega),hp,Int.mul_comm]
       . show ((trim (b.getD [])).length - IntKind.wrap IntKind.i64 ((j:Int)+1)).toNat<((trim (b.getD [])).length - (j:Int)).toNat
         rw[wi64 (by omega) (by omega)];omega
     . have hc:=dec_f hc
       (try simp only at hc)
       have hj:j=(trim (b.getD [])).length:=by omega
       subst hj
       simp only[List.take_length,q0S]
       refine q00.2 ⟨fun hd=>?_,fun hd=>?_⟩
       . have hd:=dec_t hd
         have:=small hd
         rw[wi64 (x:=nv (b.getD [])) (by omega) (by omega),wi64]
         . exact this
         . have:=this.2.1;omega
         . have:=this.2.2;omega
       . have hd:=dec_f hd
         exact hk _ ⟨by omega,rfl,rfl⟩
   . have h:=dec_f h
     simp only[szSl,ht] at h
     refine hk _ ⟨?_,rfl,rfl⟩
     have hne:trim (b.getD [])≠[]:=by intro e;rw[e] at h;simp at h
     have h1:=(trm_trim (b.getD [])).ge hl.trim hne
     have h2:=pow_mono32 (show 2<=(trim (b.getD [])).length - 1 by omega)
     rw[q0S] at h1
     omega
theorem sgn_ne {n:Int} {P:Prop} (h:¬ sgn n=0):sgn n=1∨sgn n = -1∨P:=by
 unfold sgn at *;split at h<;>(try split at h)<;>simp_all
theorem sgn_z {n:Int} (h:sgn n=0):n=0:=by
 unfold sgn at h
 by_cases h1:0<n
 . rw[if_pos h1] at h;omega
 . rw[if_neg h1] at h
   by_cases h2:n<0
   . rw[if_pos h2] at h;omega
   . omega
theorem sgn3 (n:Int):(sgn n=1/\0<n)∨(sgn n = -1/\n<0)∨(sgn n=0/\n=0):=by
 by_cases h1:0<n
 . exact .inl ⟨if_pos h1,h1⟩
 . by_cases h2:n<0
   . exact .inr (.inl ⟨by rw[sgn,if_neg h1,if_pos h2],h2⟩)
   . exact .inr (.inr ⟨by rw[sgn,if_neg h1,if_neg h2],by omega⟩)
theorem s_Add {x y:Int×Option (List Int)} {n m:Int} {k:Nat} (hx:IV x n) (hy:IV y m) (fx:Fit k n) (fy:Fit k m) (hk:k<=1073741824):callV Pg q36 [⟨tEI,x⟩,⟨tEI,y⟩] tEI fun r=>IV r (n+m):=by
 have big:callV Pg q0N [⟨tEI,x⟩] (.tup (.pair tI (.pair tD .unit))) (fun p1=>(callV Pg q0N [⟨tEI,y⟩] (.tup (.pair tI (.pair tD .unit))) (fun p2=>(brV (decide (p1.1=(0:Int))) (IV y (n+m)) (brV (decide (p2.1=(0:Int))) (IV x (n+m)) (brV (decide (p1.1=p2.1)) (callV Pg q3a [⟨tD,p1.2.1⟩,⟨tD,p2.2.1⟩] tD (fun p3=>(callV Pg q0s [⟨tI,p1.1⟩,⟨tD,p3⟩] tEI (fun p4=>IV p4 (n+m))))) (callV Pg q2l [⟨tD,p1.2.1⟩,⟨tD,p2.2.1⟩] tI (fun p3=>(brV (decide ((0:Int)<=p3)) (callV Pg q1K [⟨tD,p1.2.1⟩,⟨tD,p2.2.1⟩] tD (fun p4=>(callV Pg q0s [⟨tI,p1.1⟩,⟨tD,p4⟩] tEI (fun p5=>IV p5 (n+m))))) (callV Pg q1K [⟨tD,p2.2.1⟩,⟨tD,p1.2.1⟩] tD (fun p4=>(callV Pg q0s [⟨tI,p2.1⟩,⟨tD,p4⟩] tEI (fun p5=>IV p5 (n+m)))))))))))))):=by
  refine (q27 hx).mono ?_
  rintro⟨s,d,_⟩ ⟨e1,l,e2,d1,t1,v1⟩
  simp only at e1 e2;subst e1 e2
  refine (q27 hy).mono ?_
  rintro⟨s,d,_⟩ ⟨e1,l2,e2,d2,t2,v2⟩
  simp only at e1 e2;subst e1 e2
  have l1:=t1.fit d1 fx v1
  have l2':=t2.fit d2 fy v2
  simp only
  refine q00.2 ⟨fun h=>?_,fun h=>q00.2 ⟨fun h2=>?_,fun h2=>q00.2 ⟨fun h3=>?_,fun h3=>?_⟩⟩⟩
  . have h:=dec_t h
    have:n=0:=sgn_z h
    rw[this,Int.zero_add];exact hy
  . have h2:=dec_t h2
    have:m=0:=sgn_z h2
    rw[this,Int.add_zero];exact hx
  . have h:¬ sgn n=0:=dec_f h
    have h3:sgn n=sgn m:=dec_t h3
    refine (s_plus (a:=some l) (b:=some l2) d1 d2 (by simp only[Option.getD_some];omega) (by simp only[Option.getD_some];omega)).mono ?_
    rintro _ ⟨l3,rfl,q1,q2,q3⟩
    simp only[Option.getD_some] at q2 q3
    refine (q1i (b:=some l3) q1 (sgn_ne h) (by simp only[Option.getD_some];omega)).mono ?_
    intro r hr
    have:sgn n*nv l3=n+m:=by
     rw[q2,v1,v2]
     have h2:¬ sgn m=0:=dec_f h2
     clear q1 q2 q3 hr
     rcases sgn3 n with ⟨e1,w1⟩ | ⟨e1,w1⟩ | ⟨e1,w1⟩<;>rcases sgn3 m with ⟨e2,w2⟩ | ⟨e2,w2⟩ | ⟨e2,w2⟩<;>rw[e1]<;>omega
    rw[Option.getD_some,this] at hr
    exact hr
  . have h:¬ sgn n=0:=dec_f h
    have h2:¬ sgn m=0:=dec_f h2
    have h3:¬ sgn n=sgn m:=dec_f h3
    refine (q6T (a:=some l) (b:=some l2) d1 d2 t1 t2 (by simp only[Option.getD_some];omega)).mono ?_
    rintro _ rfl
    simp only[Option.getD_some]
    refine q00.2 ⟨fun h4=>?_,fun h4=>?_⟩
    . have h4:=dec_t h4
      have hle:nv l2<=nv l:=by first | exact q3r.1 h4 | exact Int.le_of_lt (cmpI_lt h4)
      refine (s_minus (a:=some l) (b:=some l2) d1 d2 (by simp only[Option.getD_some];omega) ?_ hle).mono ?_
      . simp only[Option.getD_some]
        rcases Nat.lt_or_ge l.length l2.length with hl | hl
        . have:=q0I d1 d2 t2 hl;omega
        . exact hl
      rintro _ ⟨l3,rfl,q1,q2,q3⟩
      simp only[Option.getD_some] at q2 q3
      refine (q1i (b:=some l3) q1 (sgn_ne h) (by simp only[Option.getD_some];omega)).mono ?_
      intro r hr
      have:sgn n*nv l3=n+m:=by
       rw[q2,v1,v2]
       clear q1 q2 q3 hle h4
       rcases sgn3 n with ⟨e1,w1⟩ | ⟨e1,w1⟩ | ⟨e1,w1⟩<;>rcases sgn3 m with ⟨e2,w2⟩ | ⟨e2,w2⟩ | ⟨e2,w2⟩<;>rw[e1]<;>omega
      rw[Option.getD_some,this] at hr
      exact hr
    . have h4:=dec_f h4
      have hle:nv l<=nv l2:=by first | exact q3r.1 h4 | exact Int.le_of_lt (cmpI_lt h4)
      refine (s_minus (a:=some l2) (b:=some l) d2 d1 (by simp only[Option.getD_some];omega) ?_ hle).mono ?_
      . simp only[Option.getD_some]
        rcases Nat.lt_or_ge l2.length l.length with hl | hl
        . have:=q0I d2 d1 t1 hl;omega
        . exact hl
      rintro _ ⟨l3,rfl,q1,q2,q3⟩
      simp only[Option.getD_some] at q2 q3
      refine (q1i (b:=some l3) q1 (sgn_ne h2) (by simp only[Option.getD_some];omega)).mono ?_
      intro r hr
      have:sgn m*nv l3=n+m:=by
       rw[q2,v1,v2]
       clear q1 q2 q3 hle h4
       rcases sgn3 n with ⟨e1,w1⟩ | ⟨e1,w1⟩ | ⟨e1,w1⟩<;>rcases sgn3 m with ⟨e2,w2⟩ | ⟨e2,w2⟩ | ⟨e2,w2⟩<;>rw[e2]<;>omega
      rw[Option.getD_some,this] at hr
      exact hr
 refine q9A x y (IV_ex _) (joinR (fun p=>p=(Option.isNone x.2 && Option.isNone y.2,x,y,(0:Int),none)) ?_ ?_)
 . rintro _ rfl
   refine q00.2 ⟨fun h=>?_,fun h=>big⟩
   obtain⟨v,d⟩:=x
   obtain⟨w,e⟩:=y
   simp only[Bool.and_eq_true,Option.isNone_iff_eq_none] at h
   obtain⟨rfl,rfl⟩:=h
   obtain⟨rfl,h1,h2⟩:=hx
   obtain⟨rfl,h3,h4⟩:=hy
   simp only at h1 h2 h3 h4 ⊢
   rw[wi64 (by omega) (by omega)]
   exact s_Of (by omega) (by omega)
 . intro k hk
   refine q00.2 ⟨fun h=>hk _ (by rw[h];rfl),fun h=>hk _ (by rw[h];rfl)⟩
def q3R (n b:Int):Int×Bool×Unit:=if n<=b /\ -b<=n then (n,true,()) else (0,false,())
theorem s_Int {x:Int×Option (List Int)} {n b:Int} (hx:IV x n) (h0:0<=b) (hb:b<4611686018427387904):callV Pg q47 [⟨tEI,x⟩,⟨tI,b⟩] (.tup (.pair tI (.pair .bool .unit))) fun r=>r=q3R n b:=by
 obtain⟨v,d⟩:=x
 refine q9B _ b ⟨_,rfl⟩ (joinR (fun p=>(p.1=true/\¬ (n<=b /\ -b<=n))∨(p.1=false/\(n<=b /\ -b<=n)/\p.2.1=n)) ?_ ?_)
 . rintro⟨p,q⟩ h
   refine q00.2 ⟨fun hp=>?_,fun hp=>?_⟩
   . (try simp only at hp);subst hp
     rcases h with ⟨_,h⟩ | ⟨h,_⟩
     . rw[q3R,if_neg h]
     . simp at h
   . (try simp only at hp);subst hp
     rcases h with ⟨h,_⟩ | ⟨_,h,h2⟩
     . simp at h
     . rw[q3R,if_pos h];simp only at h2;rw[h2]
 . intro k hk
   cases d with
   | some l=>
    obtain⟨h1,h2,h3,h4⟩:=hx
    refine q00.2 ⟨fun h=>hk _ (.inl ⟨rfl,by simp only at h4;omega⟩),fun h=>by simp[notB] at h⟩
   | none=>
    obtain⟨rfl,h1,h2⟩:=hx
    simp only at h1 h2 hk ⊢
    refine q00.2 ⟨fun h=>by simp[notB] at h,fun _=>q00.2 ⟨fun h=>?_,fun h=>?_⟩⟩
    . have h:=dec_t h
      exact hk _ (.inl ⟨rfl,by omega⟩)
    . have h:=dec_f h
      rw[wi64 (by omega) (by omega)]
      by_cases h5:v<0 - b
      . exact hk _ (.inl ⟨decide_eq_true h5,by omega⟩)
      . exact hk _ (.inr ⟨decide_eq_false h5,by omega,rfl⟩)
end Go.Proofs.Pf
namespace Go.Proofs.Pf
open Go Go.VM
theorem q3u {a b q r:Int} (h:q*b+r=a) (h0:0<=r) (h1:r<b):q=a / b/\r=a % b:=by
 have hb:0<b:=by omega
 have e:a=r+b*q:=by rw[<-h,Int.mul_comm];omega
 constructor
 . rw[e,Int.add_mul_ediv_left _ _ (by omega),Int.ediv_eq_zero_of_lt h0 h1];omega
 . rw[e,Int.add_mul_emod_self_left,Int.emod_eq_of_lt h0 h1]
def q3W (x:List Int) (y:Int) (r:Option (List Int)×Int×Unit):Prop:=∃ l,r.1=some l/\Dig l/\nv l=nv x / y/\l.length<=x.length/\r.2.1=nv x % y
theorem nv_ex' {a:Int} (h:0<=a) {k:Nat} (hf:Fit k a):∃ l,Dig l/\Trm l/\nv l=a/\l.length<=k:=by
 obtain⟨l,q1,q2,q3⟩:=nv_ex (a.toNat+1) a.toNat (by omega)
 have:nv l=a:=by omega
 exact⟨l,q1,q2,this,q2.fit q1 hf (by omega)⟩
theorem q4U {l:List Int} {j:Nat} {x:Int} (h:j<l.length):(l.set j x).drop j=x :: l.drop (j+1):=by
 rw[List.drop_eq_getElem_cons (by simpa using h)]
 simp[List.drop_set]
theorem s_short {x:Option (List Int)} {y:Int} (hx:Dig (x.getD [])) (h0:0<y) (h1:y<4294967296) (hl:(x.getD []).length<=1099511627776):
 callV Pg q4f [⟨tD,x⟩,⟨tU,y⟩] (.tup (.pair tD (.pair tU .unit))) fun r=>q3W (x.getD []) y r:=by
 have hn:=nv_nonneg hx
 refine q9X x y ?_ ⟨?_,?_⟩
 . have hq:0<=nv (x.getD []) / y:=Int.ediv_nonneg hn (by omega)
   have hq2:nv (x.getD []) / y<=nv (x.getD []):=Int.ediv_le_self _ hn
   obtain⟨l,q1,q2,q3,q4⟩:=nv_ex' (k:=(x.getD []).length) hq ((fit_nv hx).of (by omega))
   exact⟨(some l,_,()),l,rfl,q1,q3,q4,rfl⟩
 . simp only[szSl,mkC];omega
 refine loopE (fun p=>p.1=x/\p.2.1=y/\0<=p.2.2.1/\p.2.2.1<y/\∃ (k:Nat) (o:List Int),p.2.2.2.1=(k:Int) - 1/\k<=(x.getD []).length/\p.2.2.2.2=some o/\o.length=(x.getD []).length/\Dig o/\nv (o.drop k)*y+p.2.2.1=nv ((x.getD []).drop k)) (fun p=>(p.2.2.2.1+1).toNat)
  ⟨rfl,rfl,Int.le_refl _,h0,(x.getD []).length,List.replicate (x.getD []).length 0,?_,Nat.le_refl _,?_,by simp,Dig.rep _,?_⟩ ?_
 . show IntKind.wrap IntKind.i64 (((x.getD []).length:Int) - 1)=_;exact wi64 (by omega) (by omega)
 . show some (List.replicate (((x.getD []).length:Int)).toNat 0)=_;rw[Int.toNat_natCast]
 . rw[List.drop_of_length_le (by simp),List.drop_length];simp[nv]
 rintro⟨x',y',rest,i,out⟩ ⟨e1,e2,r0,r1,k,o,e3,hk,e4,hlo,hdo,hinv⟩
 have r0:0<=rest:=r0
 have r1:rest<y:=r1
 have hinv:nv (o.drop k)*y+rest=nv ((x.getD []).drop k):=hinv
 simp only at e1 e2 e3 e4;subst e1 e2 e3 e4
 refine q00.2 ⟨fun hb=>?_,fun hb=>?_⟩
 . have hb:(0:Int)<=(k:Int) - 1:=dec_t hb
   obtain⟨j,rfl⟩:∃ j,k=j+1:=⟨k - 1,by omega⟩
   have ej:(((j+1:Nat):Int) - 1).toNat=j:=by omega
   have g:=hx.get j
   refine⟨⟨by dsimp only;omega,by dsimp only;omega⟩,?_⟩
   have hd:=s_Div32 (a:=rest) (b:=(x'.getD []).getD j 0) (c:=y') r0 g.1 g.2 h1 r1
   simp only[eltS,ej]
   refine hd.mono ?_
   rintro _ rfl
   simp only
   have hm:=Int.mul_ediv_add_emod (rest*4294967296+(x'.getD []).getD j 0) y'
   have hr0:=Int.emod_nonneg (rest*4294967296+(x'.getD []).getD j 0) (show y'≠0 by omega)
   have hr1:=Int.emod_lt_of_pos (rest*4294967296+(x'.getD []).getD j 0) h0
   have hq0:0<=(rest*4294967296+(x'.getD []).getD j 0) / y':=Int.ediv_nonneg (by omega) (by omega)
   have hq1:(rest*4294967296+(x'.getD []).getD j 0) / y'<4294967296:=by
    refine Int.ediv_lt_of_lt_mul h0 ?_
    have:(rest+1)*4294967296<=y'*4294967296:=by omega
    rw[Int.mul_comm 4294967296 y'];omega
   refine⟨⟨by omega,by simp only[Option.getD_some];omega⟩,⟨trivial,trivial,hr0,hr1,j,o.set j ((rest*4294967296+(x'.getD []).getD j 0) / y'),?_,by omega,?_,by simp[hlo],hdo.set j hq0 hq1,?_⟩,?_⟩
   . show IntKind.wrap IntKind.i64 (((j+1:Nat):Int) - 1 - 1)=(j:Int) - 1;rw[wi64 (by omega) (by omega)];omega
   . rfl
   . show nv ((o.set j ((rest*4294967296+(x'.getD []).getD j 0) / y')).drop j)*y'+(rest*4294967296+(x'.getD []).getD j 0) % y'=nv ((x'.getD []).drop j)
     rw[q4U (by omega),q0v (x'.getD []) j (by omega),<-hinv]
     simp only[nv]
     generalize (rest*4294967296+(x'.getD []).getD j 0) / y'=q at *
     generalize (rest*4294967296+(x'.getD []).getD j 0) % y'=r at *
     generalize nv (o.drop (j+1))=z at *
     grind
   . show (IntKind.wrap IntKind.i64 (((j+1:Nat):Int) - 1 - 1)+1).toNat<(((j+1:Nat):Int) - 1+1).toNat;rw[wi64 (by omega) (by omega)];omega
 . have hb:¬ (0:Int)<=(k:Int) - 1:=dec_f hb
   have:k=0:=by omega
   subst this
   simp only[List.drop_zero] at hinv
   obtain⟨q1,q2⟩:=q3u hinv r0 r1
   exact⟨o,rfl,hdo,q1,by omega,q2⟩
end Go.Proofs.Pf
namespace Go.Proofs.Pf
open Go Go.VM
theorem or32 {x y:Int} (n:Nat) (hx:0<=x) (hxn:x<2 ^ n) (hy:0<=y) (hxy:x+y*2 ^ n<4294967296):bitI BinOp.or IntKind.u32 x (y*2 ^ n)=x+y*2 ^ n:=by
 have hp:(0:Int)<2 ^ n:=Int.pow_pos (by decide)
 have hyn:0<=y*2 ^ n:=Int.mul_nonneg hy (Int.le_of_lt hp)
 have hx64:x<2 ^ 32:=by omega
 have hy64:y*2 ^ n<2 ^ 32:=by omega
 rw[bor32,BitVec.toNat_or,bvn 32 hx hx64,bvn 32 hyn hy64]
 have e:x.toNat ||| (y*2 ^ n).toNat=x.toNat+(y*2 ^ n).toNat:=by
  have e1:(y*2 ^ n).toNat=2 ^ n*y.toNat:=by
   rw[Int.toNat_mul hy (Int.le_of_lt hp),Nat.mul_comm]
   congr 1
  rw[e1,Nat.or_comm,Nat.add_comm]
  refine (Nat.two_pow_add_eq_or_of_lt ?_ _).symm
  have:((2:Int) ^ n)=((2 ^ n:Nat):Int):=by simp
  omega
 rw[e,wu32m]
 omega
theorem q74 {l:List Int} {i k:Nat} {x:Int} (h:k<=i):(l.set i x).take k=l.take k:=by
 rw[List.take_set,List.set_eq_of_length_le]
 simp;omega
theorem q51 {l:List Int} {i:Nat} {x:Int} (h:i<l.length):(l.set i x).getD i 0=x:=by
 simp[List.getD,h]
theorem q0X {l:List Int} {i j:Nat} {x:Int} (h:i≠j):(l.set i x).getD j 0=l.getD j 0:=by
 simp[List.getD,List.getElem?_set_ne h]
theorem shl_digit {x:Int} {n:Nat} (h0:0<=x) (h1:x<4294967296) (hn:n<32):∃ y w:Int,x*2 ^ n=y*2 ^ n+4294967296*w/\0<=y/\y*2 ^ n+2 ^ n<=4294967296/\0<=w/\w<2 ^ n/\(x*2 ^ n) % 4294967296=y*2 ^ n/\(x*2 ^ n) / 4294967296=w:=by
 have e:(4294967296:Int)=2 ^ (32 - n)*2 ^ n:=by rw[<-Int.pow_add,show 32 - n+n=32 by omega];rfl
 have hp:(0:Int)<2 ^ n:=Int.pow_pos (by decide)
 have hq:(0:Int)<2 ^ (32 - n):=Int.pow_pos (by decide)
 have hm0:=Int.emod_nonneg x (show (2:Int) ^ (32 - n)≠0 by omega)
 have hm1:=Int.emod_lt_of_pos x hq
 have hd:=Int.mul_ediv_add_emod x (2 ^ (32 - n))
 have hd0:0<=x / 2 ^ (32 - n):=Int.ediv_nonneg h0 (by omega)
 have hlt:x / 2 ^ (32 - n)<2 ^ n:=Int.ediv_lt_of_lt_mul hq (by rw[Int.mul_comm,<-e];exact h1)
 generalize x % 2 ^ (32 - n)=y at *
 generalize x / 2 ^ (32 - n)=w at *
 have e1:x*2 ^ n=y*2 ^ n+4294967296*w:=by rw[<-hd];grind
 have e2:y*2 ^ n+2 ^ n<=4294967296:=by
  have:(y+1)*2 ^ n<=2 ^ (32 - n)*2 ^ n:=Int.mul_le_mul_of_nonneg_right (by omega) (by omega)
  rw[<-e,Int.add_mul] at this;omega
 have e3:0<=y*2 ^ n:=Int.mul_nonneg hm0 (by omega)
 refine⟨y,w,e1,hm0,e2,hd0,hlt,?_,?_⟩
 . rw[e1,Int.add_mul_emod_self_left,Int.emod_eq_of_lt e3 (by omega)]
 . rw[e1,Int.add_mul_ediv_left _ _ (by decide),Int.ediv_eq_zero_of_lt e3 (by omega)];omega
def ShiftOf (x:List Int) (n:Nat) (r:Option (List Int)):Prop:=∃ l,r=some l/\Dig l/\nv l=nv x*2 ^ n/\l.length=x.length+1
theorem q9p {x o:List Int} {n k:Nat} (hx:Dig x) (hn:n<32) (hk:k<x.length) (hl:o.length=x.length+1) (hd:Dig o) (hi:nv (o.take (k+1))=nv (x.take k)*2 ^ n) (ho:o.getD k 0<2 ^ n):
 bitI BinOp.or IntKind.u32 (o.getD k 0) (IntKind.wrap IntKind.u32 (shlI IntKind.u64 (IntKind.wrap IntKind.u64 (x.getD k 0)) (n:Int)))=o.getD k 0+(x.getD k 0*2 ^ n) % 4294967296 /\
 IntKind.wrap IntKind.u32 (shrI IntKind.u64 (shlI IntKind.u64 (IntKind.wrap IntKind.u64 (x.getD k 0)) (n:Int)) 32)=(x.getD k 0*2 ^ n) / 4294967296 /\
 Dig ((o.set k (o.getD k 0+(x.getD k 0*2 ^ n) % 4294967296)).set (k+1) ((x.getD k 0*2 ^ n) / 4294967296)) /\
 nv (((o.set k (o.getD k 0+(x.getD k 0*2 ^ n) % 4294967296)).set (k+1) ((x.getD k 0*2 ^ n) / 4294967296)).take (k+2))=nv (x.take (k+1))*2 ^ n /\
 ((o.set k (o.getD k 0+(x.getD k 0*2 ^ n) % 4294967296)).set (k+1) ((x.getD k 0*2 ^ n) / 4294967296)).getD (k+1) 0<2 ^ n:=by
 have g:=hx.get k
 have go:=hd.get k
 obtain⟨y,w,q1,q2,q3,q4,q5,q6,q7⟩:=shl_digit g.1 g.2 hn
 have hp:(0:Int)<2 ^ n:=Int.pow_pos (by decide)
 have hy0:0<=y*2 ^ n:=Int.mul_nonneg q2 (by omega)
 have hn2:(2:Int) ^ n<=2147483648:=by
  have e:(2147483648:Int)=2 ^ (31 - n)*2 ^ n:=by rw[<-Int.pow_add,show 31 - n+n=31 by omega];rfl
  have:(0:Int)<2 ^ (31 - n):=Int.pow_pos (by decide)
  have:1*(2:Int) ^ n<=2 ^ (31 - n)*2 ^ n:=Int.mul_le_mul_of_nonneg_right (by omega) (by omega)
  omega
 have esh:shlI IntKind.u64 (IntKind.wrap IntKind.u64 (x.getD k 0)) (n:Int)=x.getD k 0*2 ^ n:=by
  rw[wu64 g.1 (by omega),shl64 _ _ (by omega),Int.emod_eq_of_lt (by omega) (by omega)]
 rw[esh,q6,q7]
 refine⟨?_,?_,?_,?_,?_⟩
 . rw[wu32m,q6];exact or32 n go.1 ho q2 (by omega)
 . rw[q2a,q7];exact wu32 q4 (by omega)
 . exact (hd.set k (by omega) (by omega)).set (k+1) q4 (by omega)
 . rw[q0d,q51 (by simp;omega),q0d,q74 (by omega),q74 (Nat.le_refl _),q0X (by omega),q51 (by omega),q0d x]
   rw[q0d] at hi
   rw[Int.add_mul,<-hi,Int.pow_succ]
   generalize o.getD k 0=z at *
   generalize x.getD k 0=v at *
   have:(4294967296:Int) ^ k*v*2 ^ n=4294967296 ^ k*(y*2 ^ n+4294967296*w):=by rw[<-q1];grind
   rw[this]
   generalize y*2 ^ n=u at *
   grind
 . rw[q51 (by simp;omega)];exact q5
theorem shift_ex {x:List Int} {n:Nat} (hx:Dig x) (hn:n<32):∃ r,ShiftOf x n r:=by
 have h1:=nv_lt hx
 have h0:=nv_nonneg hx
 have hp:(0:Int)<2 ^ n:=Int.pow_pos (by decide)
 have hn2:(2:Int) ^ n<=4294967296:=by
  have e:(4294967296:Int)=2 ^ (32 - n)*2 ^ n:=by rw[<-Int.pow_add,show 32 - n+n=32 by omega];rfl
  have:(0:Int)<2 ^ (32 - n):=Int.pow_pos (by decide)
  have:1*(2:Int) ^ n<=2 ^ (32 - n)*2 ^ n:=Int.mul_le_mul_of_nonneg_right (by omega) (by omega)
  omega
 obtain⟨l,q1,q2,q3⟩:=q0P (x.length+1) (nv x*2 ^ n) (Int.mul_nonneg h0 (by omega)) (by
  rw[Int.pow_succ]
  have e1:(nv x+1)*2 ^ n<=4294967296 ^ x.length*2 ^ n:=Int.mul_le_mul_of_nonneg_right (by omega) (by omega)
  have e2:(4294967296:Int) ^ x.length*2 ^ n<=4294967296 ^ x.length*4294967296:=Int.mul_le_mul_of_nonneg_left hn2 (by have:=pow_pos32 x.length;omega)
  have e3:(nv x+1)*2 ^ n=nv x*2 ^ n+2 ^ n:=by rw[Int.add_mul,Int.one_mul]
  omega)
 exact⟨some l,l,rfl,q1,q2,q3⟩
theorem q6U {x:Option (List Int)} {n:Nat} (hx:Dig (x.getD [])) (hn:n<32) (hl:(x.getD []).length<=1099511627776):ownV Pg q3b [⟨tD,x⟩,⟨tI,(n:Int)⟩] tU fun r=>ShiftOf (x.getD []) n r:=by
 refine q9W x (n:Int) (shift_ex hx hn) ⟨?_,?_⟩
 . simp only[szSl];rw[wi64 (by omega) (by omega)];simp only[mkC];omega
 refine loopE (fun p=>p.1=(n:Int)/\p.2.1=x/\p.2.2.1=((x.getD []).length:Int)/\∃ (k:Nat) (o:List Int),p.2.2.2.1=k/\k<=(x.getD []).length/\p.2.2.2.2=some o/\o.length=(x.getD []).length+1/\Dig o/\nv (o.take (k+1))=nv ((x.getD []).take k)*2 ^ n/\o.getD k 0<2 ^ n) (fun p=>((x.getD []).length - p.2.2.2.1).toNat)
  ⟨rfl,rfl,rfl,0,List.replicate ((x.getD []).length+1) 0,rfl,by omega,?_,by simp,Dig.rep _,?_,?_⟩ ?_
 . show some (List.replicate (IntKind.wrap IntKind.i64 (((x.getD []).length:Int)+1)).toNat 0)=_
   rw[wi64 (by omega) (by omega)];congr 2
 . simp[nv,List.replicate_succ]
 . have:(0:Int)<2 ^ n:=Int.pow_pos (by decide)
   simpa[List.getD,List.replicate_succ] using this
 rintro⟨n',x',len,i,out⟩ ⟨e1,e2,e3,k,o,e4,hk,e5,hlo,hdo,hi,ho⟩
 dsimp only at e1 e2 e3 e4 e5
 subst e1 e2 e3 e4 e5
 refine q00.2 ⟨fun hb=>?_,fun hb=>?_⟩
 . have hb:(k:Int)<((x'.getD []).length:Int):=dec_t hb
   obtain⟨t1,t2,t3,t4,t5⟩:=q9p hx hn (by omega) hlo hdo hi ho
   have ek:IntKind.wrap IntKind.i64 ((k:Int)+1)=((k+1:Nat):Int):=by rw[wi64 (by omega) (by omega)];omega
   simp only[inS,eltS,eltN,toN,ek,Int.toNat_natCast,Option.getD_some,t1,t2]
   refine⟨⟨by omega,by omega⟩,by omega,⟨by omega,by omega⟩,⟨by omega,by omega⟩,by omega,⟨by omega,?_⟩,⟨trivial,trivial,trivial,k+1,_,rfl,by omega,rfl,by simp[hlo],t3,t4,t5⟩,?_⟩
   . simp[setO];omega
   . omega
 . have hb:¬ (k:Int)<((x'.getD []).length:Int):=dec_f hb
   have:k=(x'.getD []).length:=by omega
   subst this
   rw[List.take_of_length_le (by omega),List.take_length] at hi
   exact⟨o,rfl,hdo,hi,hlo⟩
end Go.Proofs.Pf
namespace Go.Proofs.Pf
open Go Go.VM
set_option maxRecDepth 100000
def q7v:Ann:=let x:Shape:=⟨[(7,.own 36),(10,.own 47)],[.var 6 tI,.var 8 tD,.var 9 tI,.var 11 tI,.var 13 (.int .u64),.arr 36 tU,.arr 47 tU]⟩;(.s (.s (.seq (.reg [] [(2,([],true)),(5,([],true)),(6,([39],false))] none) (.s (.s (.seq (.s (.blk none (.loop ⟨[(7,.own 36),(10,.own 47)],[.var 6 tI,.var 8 tD,.var 9 tI,.var 11 tI,.arr 36 tU,.arr 47 tU]⟩ (.s (.seq (.blk none (.s (.s (.s (.seq (.blk (some x) (.loop ⟨[(7,.own 36),(10,.own 47)],[.var 6 tI,.var 8 tD,.var 9 tI,.var 11 tI,.var 13 (.int .u64),.var 14 (.int .u64),.arr 36 tU,.arr 47 tU]⟩ (.seq (.seq (.reg [] [] (some ⟨[(7,.own 36),(10,.own 47)],[.var 6 tI,.var 8 tD,.var 9 tI,.var 11 tI,.var 13 (.int .u64),.var 14 (.int .u64),.var 113 .bool,.arr 36 tU,.arr 47 tU]⟩)) .nil) .nil))) (.s (.seq (.s (.blk none (.loop ⟨[(7,.own 36),(10,.own 47)],[.var 6 tI,.var 8 tD,.var 9 tI,.var 11 tI,.var 13 (.int .u64),.var 15 (.int .u64),.var 16 (.int .u64),.var 126 tD,.var 127 tI,.var 128 tI,.arr 36 tU,.arr 47 tU]⟩ .nil))) (.s (.s (.seq (.s (.cond (some x) (.s (.s (.seq (.s (.blk none (.loop ⟨[(7,.own 36),(10,.own 47)],[.var 6 tI,.var 8 tD,.var 9 tI,.var 11 tI,.var 13 (.int .u64),.var 22 tU,.var 187 tD,.var 188 tI,.var 189 tI,.arr 36 tU,.arr 47 tU]⟩ .nil))) .nil))) .nil)) .nil)))))))))) .nil))))) (.s (.seq (.s (.blk none (.loop ⟨[(7,.own 36),(10,.own 47),(25,.own 227)],[.var 6 tI,.var 229 tI,.var 230 tI,.arr 36 tU,.arr 47 tU,.arr 227 tU]⟩ .nil))) .nil))))))))
theorem q9R {Q:(DL×(DL×Unit))->Prop} (a:DL) (b:DL) (hQ:∃ r,Q r) (h:
 (inS b (IntKind.wrap IntKind.i64 ((szSl b) - (1:Int)))/\callV Pg q4j [⟨tU,eltS (0:Int) b (IntKind.wrap IntKind.i64 ((szSl b) - (1:Int)))⟩] tI (fun p0=>ownV Pg q3b [⟨tD,a⟩,⟨tI,p0⟩] tU (fun p1=>ownV Pg q3b [⟨tD,b⟩,⟨tI,p0⟩] tU (fun p2=>callV Pg q2m [⟨tD,p2⟩] tD (fun p3=>mkC 4 (IntKind.wrap IntKind.i64 ((szSl p1) - (szSl p3))) (IntKind.wrap IntKind.i64 ((szSl p1) - (szSl p3)))/\loopV (Int×DL×Int×Int×DL×DL) (fun k4  (i,j,k,l,m,n)=>brV (decide ((0:Int)<=l)) (inS m (IntKind.wrap IntKind.i64 (l+k))/\((0:Int)<=(32:Int))/\inS m (IntKind.wrap IntKind.i64 ((IntKind.wrap IntKind.i64 (l+k)) - (1:Int)))/\inS j (IntKind.wrap IntKind.i64 (k - (1:Int)))/\((IntKind.wrap IntKind.u64 (eltS (0:Int) j (IntKind.wrap IntKind.i64 (k - (1:Int)))))≠(0:Int))/\inS j (IntKind.wrap IntKind.i64 (k - (1:Int)))/\((IntKind.wrap IntKind.u64 (eltS (0:Int) j (IntKind.wrap IntKind.i64 (k - (1:Int)))))≠(0:Int))/\joinV (Int×DL×Int×Int×Int×DL×DL) (fun (o,p,q,r,s,t)=>loopV (Int×DL×Int×Int×Int×Int×Int×DL×Int×Int×DL×DL) (fun k7  (u,v,w,x,y,z,e,f,g,c,d,A)=>brV (decide (c<g)) (inS f c/\((0:Int)<=(32:Int))/\inS d (IntKind.wrap IntKind.i64 (x+c))/\inS d (IntKind.wrap IntKind.i64 (x+c))/\((0:Int)<=(63:Int))/\k7 (u,v,w,x,y,shrI IntKind.u64 (IntKind.wrap IntKind.u64 ((IntKind.wrap IntKind.u64 ((IntKind.wrap IntKind.u64 (eltN (0:Int) d (toN (IntKind.wrap IntKind.i64 (x+c))))) - (IntKind.wrap IntKind.u64 (IntKind.wrap IntKind.u32 (IntKind.wrap IntKind.u64 ((IntKind.wrap IntKind.u64 (y*(IntKind.wrap IntKind.u64 (eltS (0:Int) f c))))+e)))))) - z)) (63:Int),shrI IntKind.u64 (IntKind.wrap IntKind.u64 ((IntKind.wrap IntKind.u64 (y*(IntKind.wrap IntKind.u64 (eltS (0:Int) f c))))+e)) (32:Int),f,g,IntKind.wrap IntKind.i64 (c+(1:Int)),setO d (toN (IntKind.wrap IntKind.i64 (x+c))) (IntKind.wrap IntKind.u32 (IntKind.wrap IntKind.u64 ((IntKind.wrap IntKind.u64 ((IntKind.wrap IntKind.u64 (eltN (0:Int) d (toN (IntKind.wrap IntKind.i64 (x+c))))) - (IntKind.wrap IntKind.u64 (IntKind.wrap IntKind.u32 (IntKind.wrap IntKind.u64 ((IntKind.wrap IntKind.u64 (y*(IntKind.wrap IntKind.u64 (eltS (0:Int) f c))))+e)))))) - z))),A)) (inS d (IntKind.wrap IntKind.i64 (x+w))/\inS d (IntKind.wrap IntKind.i64 (x+w))/\((0:Int)<=(63:Int))/\joinV (Int×DL×Int×Int×Int×DL×DL) (fun (B,C,D,E,F,G,H)=>inS H E/\k4 (B,C,D,IntKind.wrap IntKind.i64 (E - (1:Int)),G,setO H (toN E) (IntKind.wrap IntKind.u32 F))) (fun k9=>brV (decide ((shrI IntKind.u64 (IntKind.wrap IntKind.u64 ((IntKind.wrap IntKind.u64 ((IntKind.wrap IntKind.u64 (eltN (0:Int) d (toN (IntKind.wrap IntKind.i64 (x+w))))) - e)) - z)) (63:Int))=(1:Int))) (loopV (Int×DL×Int×Int×Int×Int×DL×Int×Int×DL×DL) (fun k10  (B,C,D,E,F,G,H,I,J,K,L)=>brV (decide (J<I)) (inS H J/\inS K (IntKind.wrap IntKind.i64 (E+J))/\callV Pg q3c [⟨tU,eltN (0:Int) K (toN (IntKind.wrap IntKind.i64 (E+J)))⟩,⟨tU,eltS (0:Int) H J⟩,⟨tU,G⟩] (.tup (.pair tU (.pair tU .unit))) (fun p12=>inS K (IntKind.wrap IntKind.i64 (E+J))/\k10 (B,C,D,E,F,p12.2.1,H,I,IntKind.wrap IntKind.i64 (J+(1:Int)),setO K (toN (IntKind.wrap IntKind.i64 (E+J))) p12.1,L))) (inS K (IntKind.wrap IntKind.i64 (E+D))/\inS K (IntKind.wrap IntKind.i64 (E+D))/\k9 (B,C,D,E,F,setO K (toN (IntKind.wrap IntKind.i64 (E+D))) (IntKind.wrap IntKind.u32 ((eltN (0:Int) K (toN (IntKind.wrap IntKind.i64 (E+D))))+G)),L))) (u,v,w,x,IntKind.wrap IntKind.u64 (y - (1:Int)),(0:Int),v,szSl v,(0:Int),setO d (toN (IntKind.wrap IntKind.i64 (x+w))) (IntKind.wrap IntKind.u32 (IntKind.wrap IntKind.u64 ((IntKind.wrap IntKind.u64 ((IntKind.wrap IntKind.u64 (eltN (0:Int) d (toN (IntKind.wrap IntKind.i64 (x+w))))) - e)) - z))),A)) (k9 (u,v,w,x,y,setO d (toN (IntKind.wrap IntKind.i64 (x+w))) (IntKind.wrap IntKind.u32 (IntKind.wrap IntKind.u64 ((IntKind.wrap IntKind.u64 ((IntKind.wrap IntKind.u64 (eltN (0:Int) d (toN (IntKind.wrap IntKind.i64 (x+w))))) - e)) - z))),A))))) (o,p,q,r,s,(0:Int),(0:Int),p,szSl p,(0:Int),t)) (fun k6=>loopV (Int×DL×Int×Int×Int×Int×DL×DL) (fun k7  (o,p,q,r,s,t,u,v)=>joinV (Int×DL×Int×Int×Int×Int×Bool×DL×DL) (fun (w,x,y,z,e,f,g,c)=>brV g (inS x (IntKind.wrap IntKind.i64 (y - (1:Int)))/\brV (decide ((4294967296:Int)<=(IntKind.wrap IntKind.u64 (f+(IntKind.wrap IntKind.u64 (eltS (0:Int) x (IntKind.wrap IntKind.i64 (y - (1:Int))))))))) (k6 (w,x,y,z,IntKind.wrap IntKind.u64 (e - (1:Int)),c)) (k7 (w,x,y,z,IntKind.wrap IntKind.u64 (e - (1:Int)),IntKind.wrap IntKind.u64 (f+(IntKind.wrap IntKind.u64 (eltS (0:Int) x (IntKind.wrap IntKind.i64 (y - (1:Int)))))),c))) (k6 (w,x,y,z,e,c))) (fun k9=>brV (decide ((4294967296:Int)<=s)) (k9 (o,p,q,r,s,t,true,u,v)) (inS p (IntKind.wrap IntKind.i64 (q - (2:Int)))/\((0:Int)<=(32:Int))/\inS u (IntKind.wrap IntKind.i64 ((IntKind.wrap IntKind.i64 (r+q)) - (2:Int)))/\k9 (o,p,q,r,s,t,decide ((bitI BinOp.or IntKind.u64 (shlI IntKind.u64 t (32:Int)) (IntKind.wrap IntKind.u64 (eltN (0:Int) u (toN (IntKind.wrap IntKind.i64 ((IntKind.wrap IntKind.i64 (r+q)) - (2:Int)))))))<(IntKind.wrap IntKind.u64 (s*(IntKind.wrap IntKind.u64 (eltS (0:Int) p (IntKind.wrap IntKind.i64 (q - (2:Int)))))))),u,v)))) (i,j,k,l,IntKind.wrap IntKind.u64 (Int.tdiv (bitI BinOp.or IntKind.u64 (shlI IntKind.u64 (IntKind.wrap IntKind.u64 (eltN (0:Int) m (toN (IntKind.wrap IntKind.i64 (l+k))))) (32:Int)) (IntKind.wrap IntKind.u64 (eltN (0:Int) m (toN (IntKind.wrap IntKind.i64 ((IntKind.wrap IntKind.i64 (l+k)) - (1:Int))))))) (IntKind.wrap IntKind.u64 (eltS (0:Int) j (IntKind.wrap IntKind.i64 (k - (1:Int)))))),Int.tmod (bitI BinOp.or IntKind.u64 (shlI IntKind.u64 (IntKind.wrap IntKind.u64 (eltN (0:Int) m (toN (IntKind.wrap IntKind.i64 (l+k))))) (32:Int)) (IntKind.wrap IntKind.u64 (eltN (0:Int) m (toN (IntKind.wrap IntKind.i64 ((IntKind.wrap IntKind.i64 (l+k)) - (1:Int))))))) (IntKind.wrap IntKind.u64 (eltS (0:Int) j (IntKind.wrap IntKind.i64 (k - (1:Int))))),m,n))) (mkC 4 k k/\loopV (Int×Int×Int×DL×DL×DL) (fun k6  (o,p,q,r,s,t)=>brV (decide (q<p)) (inS r q/\inS r (IntKind.wrap IntKind.i64 (q+(1:Int)))/\((0:Int)<=(32:Int))/\((0:Int)<=o)/\inS t q/\k6 (o,p,IntKind.wrap IntKind.i64 (q+(1:Int)),r,s,setO t (toN q) (IntKind.wrap IntKind.u32 (shrI IntKind.u64 (bitI BinOp.or IntKind.u64 (IntKind.wrap IntKind.u64 (eltN (0:Int) r (toN q))) (shlI IntKind.u64 (IntKind.wrap IntKind.u64 (eltN (0:Int) r (toN (IntKind.wrap IntKind.i64 (q+(1:Int)))))) (32:Int))) o)))) (Q (s,t,()))) (i,szSl (some (repS k (0:Int))),(0:Int),m,n,some (repS k (0:Int))))) (p0,p3,szSl p3,IntKind.wrap IntKind.i64 ((IntKind.wrap IntKind.i64 ((szSl p1) - (szSl p3))) - (1:Int)),p1,some (repS (IntKind.wrap IntKind.i64 ((szSl p1) - (szSl p3))) (0:Int))))))))):
 callV Pg q4d [⟨tD,a⟩,⟨tD,b⟩] (.tup (.pair tD (.pair tD .unit))) Q:=
 q02 (c:=q01 Tryz.f113) (ann:=q7v) Tryz.func113 rfl Tryz.call113 rfl rfl hQ (kcast (by kernel_rfl) h)
def q7f:Ann:=(.s (.seq (.seq (.reg [] [] (some ⟨[(2,.ref 2 0),(3,.ref 3 0),(4,.ref 4 0)],[.var 24 .bool,.box 2 tEI,.box 3 tEI,.box 4 tEI]⟩)) (.cond (some ⟨[(2,.ref 2 0),(3,.ref 3 0),(4,.ref 4 0)],[.box 2 tEI,.box 3 tEI,.box 4 tEI]⟩) (.s (.seq (.reg [] [] (some ⟨[(2,.ref 2 0),(3,.ref 3 0),(4,.ref 4 0)],[.var 6 (.int .u64),.var 48 .bool,.box 2 tEI,.box 3 tEI,.box 4 tEI]⟩)) .nil)) .nil)) (.s (.s (.s (.seq (.s (.blk none (.loop ⟨[(4,.ref 4 0),(11,.own 73)],[.var 7 tI,.var 9 tI,.var 10 tD,.var 74 tD,.var 75 tI,.var 76 tI,.box 4 tEI,.arr 73 tU]⟩ (.s (.s (.seq (.blk none (.s (.s (.seq (.s (.blk none (.loop ⟨[(4,.ref 4 0),(11,.own 73)],[.var 7 tI,.var 9 tI,.var 10 tD,.var 12 tI,.var 13 tU,.var 14 (.int .u64),.var 74 tD,.var 75 tI,.var 76 tI,.var 81 tD,.var 82 tI,.var 83 tI,.box 4 tEI,.arr 73 tU]⟩ .nil))) .nil)))) .nil)))))) (.seq (.reg [] [(4,([73],false))] none) .nil)))))))
theorem q9C {Q:DE->Prop} (a:DE) (b:DE) (hQ:∃ r,Q r) (h:
 (joinV (Bool×DE×DR) (fun (i,j,k)=>joinV (DE×DR) (fun (l,m)=>callV Pg q0N [⟨tEI,l⟩] (.tup (.pair tI (.pair tD .unit))) (fun p2=>callV Pg q0N [⟨tEI,m.1⟩] (.tup (.pair tI (.pair tD .unit))) (fun p3=>mkC 4 (IntKind.wrap IntKind.i64 ((szSl p2.2.1)+(szSl p3.2.1))) (IntKind.wrap IntKind.i64 ((szSl p2.2.1)+(szSl p3.2.1)))/\loopV (Int×Int×DL×DL×Int×Int×DE×DL) (fun k4  (n,o,p,q,r,s,t,u)=>brV (decide (s<r)) (inS q s/\loopV (Int×Int×DL×Int×Int×Int×DL×Int×Int×DL×Int×Int×DE×DL) (fun k6  (v,w,x,y,z,e,f,g,c,d,A,B,C,D)=>brV (decide (B<A)) (inS d B/\inS D (IntKind.wrap IntKind.i64 (y+B))/\inS D (IntKind.wrap IntKind.i64 (y+B))/\((0:Int)<=(32:Int))/\k6 (v,w,x,y,z,shrI IntKind.u64 (IntKind.wrap IntKind.u64 (e+(IntKind.wrap IntKind.u64 ((IntKind.wrap IntKind.u64 ((IntKind.wrap IntKind.u64 z)*(IntKind.wrap IntKind.u64 (eltS (0:Int) d B))))+(IntKind.wrap IntKind.u64 (eltN (0:Int) D (toN (IntKind.wrap IntKind.i64 (y+B))))))))) (32:Int),f,g,c,d,A,IntKind.wrap IntKind.i64 (B+(1:Int)),C,setO D (toN (IntKind.wrap IntKind.i64 (y+B))) (IntKind.wrap IntKind.u32 (IntKind.wrap IntKind.u64 (e+(IntKind.wrap IntKind.u64 ((IntKind.wrap IntKind.u64 ((IntKind.wrap IntKind.u64 z)*(IntKind.wrap IntKind.u64 (eltS (0:Int) d B))))+(IntKind.wrap IntKind.u64 (eltN (0:Int) D (toN (IntKind.wrap IntKind.i64 (y+B)))))))))))) (inS D (IntKind.wrap IntKind.i64 (y+(szSl x)))/\k4 (v,w,x,f,g,IntKind.wrap IntKind.i64 (c+(1:Int)),C,setO D (toN (IntKind.wrap IntKind.i64 (y+(szSl x)))) (IntKind.wrap IntKind.u32 e)))) (n,o,p,s,eltS (0:Int) q s,(0:Int),q,r,s,p,szSl p,(0:Int),t,u)) (callV Pg q0s [⟨tI,IntKind.wrap IntKind.i64 (n*o)⟩,⟨tD,u⟩] tEI (fun p6=>Q p6))) (p2.1,p3.1,p3.2.1,p2.2.1,szSl p2.2.1,(0:Int),m.2,some (repS (IntKind.wrap IntKind.i64 ((szSl p2.2.1)+(szSl p3.2.1))) (0:Int)))))) (fun k1=>brV i (callV Pg q4n [⟨.int .u64,IntKind.wrap IntKind.u64 (maxI j.1 (IntKind.wrap IntKind.i64 ((0:Int) - j.1)))⟩,⟨.int .u64,IntKind.wrap IntKind.u64 (maxI k.1.1 (IntKind.wrap IntKind.i64 ((0:Int) - k.1.1)))⟩] (.tup (.pair (.int .u64) (.pair (.int .u64) .unit))) (fun p2=>joinV (Int×Bool×DE×DR) (fun (l,m,n,o)=>brV m (callV Pg q13 [⟨tEI,n⟩] tI (fun p4=>callV Pg q13 [⟨tEI,o.1⟩] tI (fun p5=>Q (IntKind.wrap IntKind.i64 ((IntKind.wrap IntKind.i64 (p4*p5))*(IntKind.wrap IntKind.i64 l)),none)))) (k1 (n,o))) (fun k3=>brV (decide (p2.1=(0:Int))) (k3 (p2.2.1,decide (p2.2.1<(4611686018427387904:Int)),j,k)) (k3 (p2.2.1,false,j,k))))) (k1 (j,k)))) (fun k0=>brV (Option.isNone a.2) (k0 (Option.isNone b.2,a,b,(0:Int),none)) (k0 (false,a,b,(0:Int),none))))):
 callV Pg q2j [⟨tEI,a⟩,⟨tEI,b⟩] tEI Q:=
 q02 (c:=q01 Tryz.f70) (ann:=q7f) Tryz.func70 rfl Tryz.call70 rfl rfl hQ (kcast (by kernel_rfl) h)
end Go.Proofs.Pf
namespace Go.Proofs.Pf
open Go Go.VM
theorem q2y {p q z c:Int} (hp:0<=p) (hp':p<4294967296) (hq:0<=q) (hq':q<4294967296) (hz:0<=z) (hz':z<4294967296) (hc:0<=c) (hc':c<4294967296):
 0<=p*q+z+c/\p*q+z+c<18446744073709551616/\IntKind.wrap IntKind.u64 (c+IntKind.wrap IntKind.u64 (IntKind.wrap IntKind.u64 (IntKind.wrap IntKind.u64 p*IntKind.wrap IntKind.u64 q)+IntKind.wrap IntKind.u64 z))=p*q+z+c:=by
 have h0:0<=p*q:=Int.mul_nonneg hp hq
 have h1:p*q<=4294967295*4294967295:=Int.mul_le_mul (by omega) (by omega) hq (by omega)
 rw[wu64 hp (by omega),wu64 hq (by omega),wu64 hz (by omega)]
 generalize p*q=m at *
 rw[wu64 h0 (by omega),wu64 (x:=m+z) (by omega) (by omega),wu64 (by omega) (by omega)]
 omega
structure MInv (x y:List Int) (i:Nat) (o:List Int):Prop where
 len:o.length=x.length+y.length
 dig:Dig o
 val:nv o=nv (x.take i)*nv y
 zero:∀ j,i+y.length<=j->o.getD j 0=0
structure MIn (x y:List Int) (i k:Nat) (c:Int) (o:List Int):Prop where
 len:o.length=x.length+y.length
 dig:Dig o
 c0:0<=c
 c1:c<4294967296
 val:nv o+4294967296 ^ (i+k)*c=nv (x.take i)*nv y+4294967296 ^ i*x.getD i 0*nv (y.take k)
 zero:∀ j,i+y.length<=j->o.getD j 0=0
theorem MIn.start {x y:List Int} {i:Nat} {o:List Int} (h:MInv x y i o):MIn x y i 0 0 o:=⟨h.len,h.dig,Int.le_refl _,by decide,by simp[nv,h.val],h.zero⟩
theorem MIn.step {x y:List Int} {i k:Nat} {c:Int} {o:List Int} (hx:Dig x) (hy:Dig y) (hi:i<x.length) (hk:k<y.length) (h:MIn x y i k c o):
 MIn x y i (k+1) ((x.getD i 0*y.getD k 0+o.getD (i+k) 0+c) / 4294967296) (o.set (i+k) ((x.getD i 0*y.getD k 0+o.getD (i+k) 0+c) % 4294967296)):=by
 have gx:=hx.get i
 have gy:=hy.get k
 have go:=h.dig.get (i+k)
 have hl:=h.len
 obtain⟨m1,m2,_⟩:=q2y gx.1 gx.2 gy.1 gy.2 go.1 go.2 h.c0 h.c1
 refine⟨by simp[hl],h.dig.set _ (by omega) (by omega),by omega,by omega,?_,fun j hj=>?_⟩
 . rw[q0A _ _ _ (by omega),q0d]
   have hv:=h.val
   have hdm:=Int.emod_add_mul_ediv (x.getD i 0*y.getD k 0+o.getD (i+k) 0+c) 4294967296
   generalize (x.getD i 0*y.getD k 0+o.getD (i+k) 0+c) % 4294967296=d at *
   generalize (x.getD i 0*y.getD k 0+o.getD (i+k) 0+c) / 4294967296=e at *
   have e1:(4294967296:Int) ^ (i+(k+1))=4294967296 ^ (i+k)*4294967296:=by rw[<-Nat.add_assoc,Int.pow_succ]
   have e2:(4294967296:Int) ^ (i+k)=4294967296 ^ i*4294967296 ^ k:=Int.pow_add ..
   rw[e1]
   rw[e2] at hv ⊢
   generalize (4294967296:Int) ^ i=bi at *
   generalize (4294967296:Int) ^ k=bk at *
   grind
 . rw[q0X (by omega)];exact h.zero j hj
theorem MIn.fin {x y:List Int} {i:Nat} {c:Int} {o:List Int} (hi:i<x.length) (h:MIn x y i y.length c o):MInv x y (i+1) (o.set (i+y.length) c):=by
 have hl:=h.len
 refine⟨by simp[hl],h.dig.set _ h.c0 h.c1,?_,fun j hj=>?_⟩
 . rw[q0A _ _ _ (by omega),h.zero _ (Nat.le_refl _),q0d]
   have hv:=h.val
   rw[List.take_length] at hv
   grind
 . rw[q0X (by omega)];exact h.zero j (by omega)
theorem q5u (n m:Int):sgn (n*m)=sgn n*sgn m:=by
 rcases sgn3 n with ⟨e1,h1⟩ | ⟨e1,h1⟩ | ⟨e1,h1⟩<;>rcases sgn3 m with ⟨e2,h2⟩ | ⟨e2,h2⟩ | ⟨e2,h2⟩<;>rw[e1,e2]
 . have:=Int.mul_pos h1 h2;rw[sgn,if_pos this];rfl
 . have:=Int.mul_neg_of_pos_of_neg h1 h2;rw[sgn,if_neg (by omega),if_pos this];rfl
 . rw[h2];simp[sgn]
 . have:=Int.mul_neg_of_neg_of_pos h1 h2;rw[sgn,if_neg (by omega),if_pos this];rfl
 . have:=Int.mul_pos_of_neg_of_neg h1 h2;rw[sgn,if_pos this];rfl
 . rw[h2];simp[sgn]
 . rw[h1];simp[sgn]
 . rw[h1];simp[sgn]
 . rw[h1];simp[sgn]
theorem q5t (n:Int):sgn n*n.natAbs=n:=by
 rcases sgn3 n with ⟨e1,h1⟩ | ⟨e1,h1⟩ | ⟨e1,h1⟩<;>rw[e1]<;>omega
theorem sgn_cases (n:Int):sgn n=1∨sgn n = -1∨(sgn n=0/\n=0):=by
 rcases sgn3 n with ⟨e1,h1⟩ | ⟨e1,h1⟩ | ⟨e1,h1⟩
 . exact .inl e1
 . exact .inr (.inl e1)
 . exact .inr (.inr ⟨e1,h1⟩)
theorem s_Mul {x y:Int×Option (List Int)} {n m:Int} {k j:Nat} (hx:IV x n) (hy:IV y m) (fx:Fit k n) (fy:Fit j m) (hk:k<=1073741824) (hj:j<=1073741824):callV Pg q2j [⟨tEI,x⟩,⟨tEI,y⟩] tEI fun r=>IV r (n*m):=by
 refine q9C x y (IV_ex _) (joinR (fun p=>p=(Option.isNone x.2 && Option.isNone y.2,x,y,(0:Int),none)) ?_ ?_)
 . rintro _ rfl
   refine joinR (fun p=>p=(x,y,(0:Int),none)) ?_ ?_
   . rintro _ rfl
     dsimp only
     refine (q27 hx).mono ?_
     rintro⟨s,d,_⟩ ⟨e1,X,e2,d1,t1,v1⟩
     dsimp only at e1 e2;subst e1 e2
     refine (q27 hy).mono ?_
     rintro⟨s,d,_⟩ ⟨e1,Y,e2,d2,t2,v2⟩
     dsimp only at e1 e2;subst e1 e2
     have l1:=t1.fit d1 fx v1
     have l2:=t2.fit d2 fy v2
     have el:IntKind.wrap IntKind.i64 ((X.length:Int)+(Y.length:Int))=(X.length:Int)+(Y.length:Int):=wi64 (by omega) (by omega)
     refine⟨?_,?_⟩
     . show mkC 4 (IntKind.wrap IntKind.i64 ((X.length:Int)+(Y.length:Int))) (IntKind.wrap IntKind.i64 ((X.length:Int)+(Y.length:Int)))
       rw[el];simp only[mkC];omega
     refine loopE (fun p=>∃ (i:Nat) (o:List Int),i<=X.length/\MInv X Y i o/\p=(sgn n,sgn m,some Y,some X,(X.length:Int),(i:Int),((0:Int),none),some o)) (fun p=>((X.length:Int) - p.2.2.2.2.2.1).toNat) ⟨0,List.replicate (X.length+Y.length) 0,by omega,⟨by simp,Dig.rep _,by rw[q1U];simp[nv],fun j _=>?_⟩,?_⟩ ?_
     . simp only[List.getD,List.getElem?_replicate];split<;>rfl
     . show (sgn n,sgn m,some Y,some X,(X.length:Int),(0:Int),((0:Int),none),some (List.replicate (IntKind.wrap IntKind.i64 ((X.length:Int)+(Y.length:Int))).toNat 0))=_
       rw[el]
       have:((X.length:Int)+(Y.length:Int)).toNat=X.length+Y.length:=by omega
       rw[this];rfl
     rintro _ ⟨i,o,hi,hI,rfl⟩
     refine q00.2 ⟨fun hb=>?_,fun hb=>?_⟩
     . have hb:(i:Int)<(X.length:Int):=dec_t hb
       refine⟨⟨by dsimp only;omega,by dsimp only[Option.getD_some];omega⟩,?_⟩
       dsimp only
       simp only[eltS,Option.getD_some,Int.toNat_natCast,szSl]
       refine loopE (fun p=>∃ (k:Nat) (c:Int) (o:List Int),k<=Y.length/\MIn X Y i k c o/\p=(sgn n,sgn m,some Y,(i:Int),X.getD i 0,c,some X,(X.length:Int),(i:Int),some Y,(Y.length:Int),(k:Int),((0:Int),none),some o)) (fun p=>((Y.length:Int) - p.2.2.2.2.2.2.2.2.2.2.2.1).toNat) ⟨0,0,o,by omega,MIn.start hI,rfl⟩ ?_
       rintro _ ⟨k,c,o,hk',hM,rfl⟩
       have hl:=hM.len
       refine q00.2 ⟨fun hc=>?_,fun hc=>?_⟩
       . have hc:(k:Int)<(Y.length:Int):=dec_t hc
         have ei:IntKind.wrap IntKind.i64 ((i:Int)+(k:Int))=((i+k:Nat):Int):=by rw[wi64 (by omega) (by omega)];omega
         have ek:IntKind.wrap IntKind.i64 ((k:Int)+1)=((k+1:Nat):Int):=by rw[wi64 (by omega) (by omega)];omega
         have gx:=d1.get i
         have gy:=d2.get k
         have go:=hM.dig.get (i+k)
         obtain⟨m1,m2,m3⟩:=q2y gx.1 gx.2 gy.1 gy.2 go.1 go.2 hM.c0 hM.c1
         have hst:=hM.step d1 d2 (by omega) (by omega)
         simp only[inS,eltN,toN,Option.getD_some,Int.toNat_natCast,ei,ek,m3,q2a,wu32m]
         refine⟨⟨by omega,by omega⟩,⟨by omega,by omega⟩,⟨by omega,by omega⟩,by omega,⟨k+1,_,_,by omega,hst,rfl⟩,by omega⟩
       . have hc:¬ (k:Int)<(Y.length:Int):=dec_f hc
         have:k=Y.length:=by omega
         subst this
         have ei:IntKind.wrap IntKind.i64 ((i:Int)+(Y.length:Int))=((i+Y.length:Nat):Int):=by rw[wi64 (by omega) (by omega)];omega
         have ek:IntKind.wrap IntKind.i64 ((i:Int)+1)=((i+1:Nat):Int):=by rw[wi64 (by omega) (by omega)];omega
         have hf:=hM.fin (by omega)
         simp only[inS,toN,Option.getD_some,Int.toNat_natCast,ei,ek,wu32 hM.c0 hM.c1]
         refine⟨⟨by omega,by omega⟩,⟨i+1,_,by omega,hf,rfl⟩,by omega⟩
     . have hb:¬ (i:Int)<(X.length:Int):=dec_f hb
       have:i=X.length:=by omega
       subst this
       have hv:=hI.val
       rw[List.take_length,v1,v2] at hv
       have es:IntKind.wrap IntKind.i64 (sgn n*sgn m)=sgn (n*m):=by
        rw[q5u]
        rcases sgn_cases n with e1 | e1 | ⟨e1,_⟩<;>rcases sgn_cases m with e2 | e2 | ⟨e2,_⟩<;>rw[e1,e2]<;>rfl
       dsimp only
       rw[es]
       have hln:=hI.len
       refine (q1i (b:=some o) hI.dig ?_ (by simp only[Option.getD_some];omega)).mono ?_
       . rcases sgn_cases (n*m) with e | e | ⟨e,e0⟩
         . exact .inl e
         . exact .inr (.inl e)
         . refine .inr (.inr ⟨e,?_⟩)
           rw[Option.getD_some,hv]
           rcases Int.mul_eq_zero.1 e0 with rfl | rfl<;>simp
       . intro r hr
         rw[Option.getD_some,hv] at hr
         have:sgn (n*m)*((n.natAbs:Int)*(m.natAbs:Int))=n*m:=by
          have:=q5t (n*m)
          rw[Int.natAbs_mul] at this
          simpa using this
         rw[this] at hr
         exact hr
   . intro k1 hk1
     refine q00.2 ⟨fun h=>?_,fun h=>hk1 _ rfl⟩
     obtain⟨v,d⟩:=x
     obtain⟨w,e⟩:=y
     simp only[Bool.and_eq_true,Option.isNone_iff_eq_none] at h
     obtain⟨rfl,rfl⟩:=h
     have hx':=hx
     have hy':=hy
     obtain⟨rfl,h1,h2⟩:=hx
     obtain⟨rfl,h3,h4⟩:=hy
     dsimp only at h1 h2 h3 h4 hk1 hx' hy' ⊢
     have ab:∀ v:Int,-4611686018427387904<v->v<4611686018427387904->IntKind.wrap IntKind.u64 (maxI v (IntKind.wrap IntKind.i64 (0 - v)))=(v.natAbs:Int):=by
      intro v h1 h2
      rw[wi64 (by omega) (by omega)]
      unfold maxI
      split
      . rw[wu64 (by omega) (by omega)];omega
      . rw[wu64 (by omega) (by omega)];omega
     rw[ab v h1 h2,ab w h3 h4]
     have hp:(v.natAbs:Int)*(w.natAbs:Int)=((v*w).natAbs:Int):=by rw[Int.natAbs_mul];simp
     refine (s_Mul64 (by omega) (by omega) (by omega) (by omega)).mono ?_
     rintro _ rfl
     rw[hp]
     refine joinR (fun p=>∃ b:Bool,p=(((v*w).natAbs:Int) % 18446744073709551616,b,(v,none),(w,none),(0:Int),none)/\(b=true->((v*w).natAbs:Int)<4611686018427387904)) ?_ ?_
     . rintro _ ⟨b,rfl,hb⟩
       refine q00.2 ⟨fun h=>?_,fun h=>hk1 _ rfl⟩
       have hb:=hb h
       refine (q1C hx').mono ?_
       rintro _ rfl
       refine (q1C hy').mono ?_
       rintro _ rfl
       dsimp only
       have es:IntKind.wrap IntKind.i64 (sgn v*sgn w)=sgn (v*w):=by
        rw[q5u]
        rcases sgn_cases v with e1 | e1 | ⟨e1,_⟩<;>rcases sgn_cases w with e2 | e2 | ⟨e2,_⟩<;>rw[e1,e2]<;>rfl
       rw[es,Int.emod_eq_of_lt (by omega) (by omega),wi64 (x:=((v*w).natAbs:Int)) (by omega) (by omega),q5t,wi64 (by omega) (by omega)]
       exact⟨rfl,by omega,by omega⟩
     . intro k hk
       refine q00.2 ⟨fun h=>?_,fun h=>?_⟩
       . have h:((v*w).natAbs:Int) / 18446744073709551616=0:=dec_t h
         refine hk _ ⟨_,rfl,fun hb=>?_⟩
         have hb:((v*w).natAbs:Int) % 18446744073709551616<4611686018427387904:=dec_t hb
         omega
       . exact hk _ ⟨false,rfl,fun hb=>by simp at hb⟩
 . intro k hk
   refine q00.2 ⟨fun h=>hk _ (by rw[h];rfl),fun h=>hk _ (by rw[h];rfl)⟩
end Go.Proofs.Pf
namespace Go.Proofs.Pf
open Go Go.VM
def LongOf (x y:List Int) (r:Option (List Int)×Option (List Int)×Unit):Prop:=
 (∃ l,r.1=some l/\Dig l/\nv l=nv x / nv y/\l.length<=x.length+1)/\∃ l,r.2.1=some l/\Dig l/\nv l=nv x % nv y/\l.length<=y.length
def LongS:Prop:=∀ (x y:List Int),Dig x->Dig y->Trm y->2<=y.length->y.length<=x.length->x.length<=1073741824->
 callV Pg q4d [⟨tD,some x⟩,⟨tD,some y⟩] (.tup (.pair tD (.pair tD .unit))) fun r=>LongOf x y r
def QuoOf (n m:Int) (r:(Int×Option (List Int))×(Int×Option (List Int))×Unit):Prop:=IV r.1 (n.tdiv m)/\IV r.2.1 (n.tmod m)
theorem quo_sgn (n m:Int) (hm:m≠0):sgn n*sgn m*((n.natAbs:Int) / (m.natAbs:Int))=n.tdiv m/\sgn n*((n.natAbs:Int) % (m.natAbs:Int))=n.tmod m:=by
 have hn:=sgn3 n
 have hm':=sgn3 m
 have key:∀ a b:Int,0<=a->a.tdiv b=a / b/\a.tmod b=a % b:=fun a b h=>⟨Int.tdiv_eq_ediv_of_nonneg h,Int.tmod_eq_emod_of_nonneg h⟩
 rcases hn with ⟨e1,h1⟩ | ⟨e1,h1⟩ | ⟨e1,h1⟩<;>rcases hm' with ⟨e2,h2⟩ | ⟨e2,h2⟩ | ⟨e2,h2⟩<;>rw[e1,e2]
 . rw[show (n.natAbs:Int)=n by omega,show (m.natAbs:Int)=m by omega,(key n m (by omega)).1,(key n m (by omega)).2];omega
 . rw[show (n.natAbs:Int)=n by omega,show (m.natAbs:Int) = -m by omega]
   obtain⟨m',rfl⟩:∃ m',m = -m':=⟨-m,by omega⟩
   rw[Int.tdiv_neg,Int.tmod_neg,Int.neg_neg,(key n m' (by omega)).1,(key n m' (by omega)).2];omega
 . exact absurd h2 hm
 . obtain⟨n',rfl⟩:∃ n',n = -n':=⟨-n,by omega⟩
   rw[show ((-n').natAbs:Int)=n' by omega,show (m.natAbs:Int)=m by omega]
   rw[Int.neg_tdiv,Int.neg_tmod,(key n' m (by omega)).1,(key n' m (by omega)).2];omega
 . obtain⟨n',rfl⟩:∃ n',n = -n':=⟨-n,by omega⟩
   obtain⟨m',rfl⟩:∃ m',m = -m':=⟨-m,by omega⟩
   rw[show ((-n').natAbs:Int)=n' by omega,show ((-m').natAbs:Int)=m' by omega]
   rw[Int.neg_tdiv,Int.neg_tmod,Int.tdiv_neg,Int.tmod_neg,(key n' m' (by omega)).1,(key n' m' (by omega)).2];omega
 . exact absurd h2 hm
 all_goals (subst h1;simp)
theorem q3s {a b:Int}:cmpI a b<0↔a<b:=by
 unfold cmpI;split
 . constructor<;>intro<;>omega
 . split<;>constructor<;>intro<;>omega
theorem s_Quo (hlong:LongS) {x y:Int×Option (List Int)} {n m:Int} {k:Nat} (hx:IV x n) (hy:IV y m) (hm:m≠0) (fx:Fit k n) (hk:k<=1073741824):callV Pg q2k [⟨tEI,x⟩,⟨tEI,y⟩] (.tup (.pair tEI (.pair tEI .unit))) fun r=>QuoOf n m r:=by
 obtain⟨y1,y2⟩:=quo_sgn n m hm
 refine q9E x y ?_ (joinR (fun p=>p=(Option.isNone x.2 && Option.isNone y.2,x,y,((0:Int),none),((0:Int),none))) ?_ ?_)
 . obtain⟨r1,h1⟩:=IV_ex (n.tdiv m)
   obtain⟨r2,h2⟩:=IV_ex (n.tmod m)
   exact⟨(r1,r2,()),h1,h2⟩
 . rintro _ rfl
   refine q00.2 ⟨fun h=>?_,fun _=>?_⟩
   . obtain⟨v,d⟩:=x
     obtain⟨w,e⟩:=y
     simp only[Bool.and_eq_true,Option.isNone_iff_eq_none] at h
     obtain⟨rfl,rfl⟩:=h
     obtain⟨rfl,h1,h2⟩:=hx
     obtain⟨rfl,h3,h4⟩:=hy
     dsimp only at h1 h2 h3 h4 hm ⊢
     have q1:(v.tdiv w).natAbs<=v.natAbs:=by rw[Int.natAbs_tdiv];exact Nat.div_le_self _ _
     have q2:(v.tmod w).natAbs<=v.natAbs:=by rw[Int.natAbs_tmod];exact Nat.mod_le _ _
     refine⟨hm,hm,⟨?_,by omega,by omega⟩,rfl,by omega,by omega⟩
     exact wi64 (by omega) (by omega)
   . (try dsimp only)
     refine (q27 hx).mono ?_
     rintro⟨s,d,_⟩ ⟨e1,X,e2,d1,t1,v1⟩
     dsimp only at e1 e2;subst e1 e2
     refine (q27 hy).mono ?_
     rintro⟨s,d,_⟩ ⟨e1,Y,e2,d2,t2,v2⟩
     dsimp only at e1 e2;subst e1 e2
     have l1:=t1.fit d1 fx v1
     have hY:Y≠[]:=by rintro rfl;simp only[nv] at v2;omega
     refine (q6T (a:=some X) (b:=some Y) d1 d2 t1 t2 (by simp only[Option.getD_some];omega)).mono ?_
     rintro _ rfl
     simp only[Option.getD_some]
     refine q00.2 ⟨fun h=>?_,fun h=>?_⟩
     . have h:cmpI (nv X) (nv Y)<0:=dec_t h
       rw[q3s,v1,v2] at h
       rw[Int.ediv_eq_zero_of_lt (by omega) h,Int.mul_zero] at y1
       rw[Int.emod_eq_of_lt (by omega) h,q5t] at y2
       refine⟨?_,?_⟩
       . rw[<-y1];exact⟨rfl,by decide,by decide⟩
       . rw[<-y2];exact hx
     . have h:¬ cmpI (nv X) (nv Y)<0:=dec_f h
       rw[q3s] at h
       have hsn:¬ sgn n=0:=by intro e;have:=sgn_z e;subst this;simp at v1;omega
       have es:IntKind.wrap IntKind.i64 (sgn n*sgn m)=sgn n*sgn m:=by
        rcases sgn_cases n with e1 | e1 | ⟨e1,_⟩<;>rcases sgn_cases m with e2 | e2 | ⟨e2,_⟩<;>rw[e1,e2]<;>rfl
       have es2:∀ l:List Int,sgn n*sgn m=1∨sgn n*sgn m = -1∨(sgn n*sgn m=0/\nv l=0):=by
        intro l
        rcases sgn_cases n with e1 | e1 | ⟨e1,_⟩<;>rcases sgn_cases m with e2 | e2 | ⟨_,e2⟩
        all_goals first | exact absurd e2 hm | exact absurd e1 hsn | (rw[e1,e2];simp)
       have fin:∀ (q:Int×Option (List Int)) (r:Int×Option (List Int)) (A B:List Int),nv A=nv X / nv Y->nv B=nv X % nv Y->IV q (sgn n*sgn m*nv A)->IV r (sgn n*nv B)->QuoOf n m (q,r,()):=by
        intro q r A B hA hB hq hr
        rw[hA,v1,v2,y1] at hq
        rw[hB,v1,v2,y2] at hr
        exact⟨hq,hr⟩
       rw[es]
       refine q00.2 ⟨fun h2=>?_,fun h2=>?_⟩
       . have h2:(Y.length:Int)=1:=dec_t h2
         obtain⟨y0,rfl⟩:∃ y0,Y=[y0]:=by
          rcases Y with _ | ⟨y0,_ | ⟨_,_⟩⟩
          . exact absurd rfl hY
          . exact⟨y0,rfl⟩
          . simp at h2;omega
         have g:=d2 y0 (by simp)
         have hy0:y0≠0:=t2 y0 rfl
         refine⟨⟨by omega,by simp⟩,(s_short (x:=some X) (y:=y0) d1 (by omega) g.2 (by simp only[Option.getD_some];omega)).mono ?_⟩
         rintro⟨q,r,_⟩ ⟨l,e1,q1,q2,q3,e2⟩
         dsimp only[Option.getD_some] at e1 e2 q2 q3;subst e1 e2
         have ny:nv [y0]=y0:=by simp[nv]
         have hr0:=Int.emod_nonneg (nv X) hy0
         have hr1:=Int.emod_lt_of_pos (nv X) (show 0<y0 by omega)
         refine (q1i (b:=some l) q1 (es2 _) (by simp only[Option.getD_some];omega)).mono ?_
         intro p5 hp5
         refine (q1i (b:=some [nv X % y0]) (Dig.cons hr0 (by omega) Dig.nil) (sgn_ne hsn) (by simp)).mono ?_
         intro p6 hp6
         exact fin p5 p6 l [nv X % y0] (by rw[ny];exact q2) (by rw[ny];simp[nv]) hp5 hp6
       . have h2:¬ (Y.length:Int)=1:=dec_f h2
         have hl2:Y.length≠0:=fun e=>hY (List.eq_nil_of_length_eq_zero e)
         have hle:Y.length<=X.length:=by
          rcases Nat.lt_or_ge X.length Y.length with hl | hl
          . have:=q0I d1 d2 t2 hl;omega
          . exact hl
         refine (hlong X Y d1 d2 t2 (by omega) hle (by omega)).mono ?_
         rintro⟨q,r,_⟩ ⟨⟨A,e1,q1,q2,q3⟩,B,e2,r1,r2,r3⟩
         dsimp only at e1 e2;subst e1 e2
         refine (q1i (b:=some A) q1 (es2 _) (by simp only[Option.getD_some];omega)).mono ?_
         intro p5 hp5
         refine (q1i (b:=some B) r1 (sgn_ne hsn) (by simp only[Option.getD_some];omega)).mono ?_
         intro p6 hp6
         exact fin p5 p6 A B q2 r2 hp5 hp6
 . intro k hk
   refine q00.2 ⟨fun h=>hk _ (by rw[h];rfl),fun h=>hk _ (by rw[h];rfl)⟩
def ival (x:Int×Option (List Int)):Int:=
 match x.2 with
 | none=>x.1
 | some l=>x.1*nv l
theorem IV.val {x:Int×Option (List Int)} {n:Int} (h:IV x n):ival x=n:=by
 obtain⟨v,d⟩:=x
 cases d with
 | none=>exact h.1
 | some l=>
  obtain⟨_,_,_,h4⟩:=h
  show v*nv l=n
  rcases h4 with ⟨e1,e2⟩ | ⟨e1,e2⟩
  . have e1:v=1:=e1
    rw[e1,e2];omega
  . have e1:v = -1:=e1
    rw[e1,e2];omega
theorem s_Gcd (hlong:LongS) {x y:Int×Option (List Int)} {n m:Int} {k:Nat} (hx:IV x n) (hy:IV y m) (fx:Fit k n) (fy:Fit k m) (hk:k<=1073741824):callV Pg q34 [⟨tEI,x⟩,⟨tEI,y⟩] tEI fun r=>IV r (Int.gcd n m:Int):=by
 refine q9y x y (IV_ex _) ((s_Abs hx).mono fun p0 h0=>(s_Abs hy).mono fun p1 h1=>?_)
 refine loopE (fun p=>∃ a b:Nat,IV p.1 (a:Int)/\IV p.2.1 (b:Int)/\Nat.gcd a b=Int.gcd n m/\Fit k (a:Int)/\Fit k (b:Int)) (fun p=>(ival p.2.1).natAbs) ⟨n.natAbs,m.natAbs,h0,h1,rfl,fx.of (by simp),fy.of (by simp)⟩ ?_
 rintro⟨A,B,z⟩ ⟨a,b,ha,hb,hg,fa,fb⟩
 dsimp only at ha hb ⊢
 refine (q1C hb).mono ?_
 rintro _ rfl
 refine q00.2 ⟨fun h=>?_,fun h=>?_⟩
 . have h:¬ sgn (b:Int)=0:=not_t h
   have hb0:b≠0:=by rintro rfl;exact h rfl
   refine (s_Quo hlong ha hb (by omega) fa hk).mono ?_
   rintro⟨q,r,_⟩ ⟨_,hr⟩
   dsimp only at hr ⊢
   have e:(a:Int).tmod (b:Int)=((a % b:Nat):Int):=by rw[Int.tmod_eq_emod_of_nonneg (by omega)];simp
   rw[e] at hr
   have hlt:a % b<b:=Nat.mod_lt _ (by omega)
   refine⟨⟨b,a % b,hb,hr,?_,fb,fb.of (by omega)⟩,?_⟩
   . rw[<-hg,Nat.gcd_comm b,<-Nat.gcd_rec b a,Nat.gcd_comm]
   . rw[hr.val,hb.val];omega
 . have h:sgn (b:Int)=0:=not_f h
   have hb0:b=0:=by have:=sgn_z h;omega
   subst hb0
   rw[<-hg,Nat.gcd_zero_right];exact ha
end Go.Proofs.Pf
namespace Go.Proofs.Pf
open Go Go.VM
set_option maxRecDepth 100000
def q8o:Ann:=(.s (.s (.s (.s (.seq (.reg [] [(2,([],true))] none) (.s (.s (.seq (.s (.blk none (.loop ⟨[(4,.own 58),(9,.own 45)],[.var 8 tI,.var 10 tL,.var 11 tI,.var 12 tI,.arr 58 tI,.arr 45 tI]⟩ (.s (.seq (.blk none (.s (.seq (.blk none (.loop ⟨[(4,.own 58),(9,.own 45)],[.var 8 tI,.var 10 tL,.var 11 tI,.var 12 tI,.var 13 tI,.arr 58 tI,.arr 45 tI]⟩ (.blk none (.s (.seq (.seq (.reg [] [(10,([],true))] none) (.cond none (.seq (.reg [] [(8,([],true))] none) .nil) .nil)) .nil))))) .nil))) .nil))))) (.seq (.reg [] [(4,([45],false))] none) .nil)))))))))
theorem qaJ {Q:(DL×(DL×Unit))->Prop} (a:DL) (b:DL) (hQ:∃ r,Q r) (h:
 (brV (decide ((szSl b)=(1:Int))) (inS b (0:Int)/\callV Pg q3l [⟨tL,a⟩,⟨tI,eltS (0:Int) b (0:Int)⟩] (.tup (.pair tL (.pair tI .unit))) (fun p0=>Q (p0.1,some [p0.2.1],()))) (callV Pg q2r [⟨tL,a⟩,⟨tL,b⟩] tI (fun p0=>brV (decide (p0<(0:Int))) (Q (none,a,())) (inS b (IntKind.wrap IntKind.i64 ((szSl b) - (1:Int)))/\((IntKind.wrap IntKind.i64 ((eltS (0:Int) b (IntKind.wrap IntKind.i64 ((szSl b) - (1:Int))))+(1:Int)))≠(0:Int))/\ownV Pg q2t [⟨tL,a⟩,⟨tI,IntKind.wrap IntKind.i64 (Int.tdiv (1073741824:Int) (IntKind.wrap IntKind.i64 ((eltS (0:Int) b (IntKind.wrap IntKind.i64 ((szSl b) - (1:Int))))+(1:Int))))⟩] tI (fun p1=>callV Pg q2t [⟨tL,b⟩,⟨tI,IntKind.wrap IntKind.i64 (Int.tdiv (1073741824:Int) (IntKind.wrap IntKind.i64 ((eltS (0:Int) b (IntKind.wrap IntKind.i64 ((szSl b) - (1:Int))))+(1:Int))))⟩] tL (fun p2=>inR p2 (0:Int) (szSl b)/\mkC 8 (IntKind.wrap IntKind.i64 ((szSl p1) - (szSl (slcS p2 (0:Int) (szSl b))))) (IntKind.wrap IntKind.i64 ((szSl p1) - (szSl (slcS p2 (0:Int) (szSl b)))))/\loopV (Int×DL×Int×Int×DL×DL) (fun k3  (i,j,k,l,m,n)=>brV (decide ((0:Int)<=l)) (inS n (IntKind.wrap IntKind.i64 (l+k))/\inS n (IntKind.wrap IntKind.i64 ((IntKind.wrap IntKind.i64 (l+k)) - (1:Int)))/\inS j (IntKind.wrap IntKind.i64 (k - (1:Int)))/\((eltS (0:Int) j (IntKind.wrap IntKind.i64 (k - (1:Int))))≠(0:Int))/\loopV (Int×DL×Int×Int×Int×DL×DL) (fun k5  (o,p,q,r,s,t,u)=>callV Pg q2t [⟨tL,p⟩,⟨tI,s⟩] tL (fun p7=>callV Pg q3m [⟨tL,p7⟩] tL (fun p8=>inW u r (IntKind.wrap IntKind.i64 ((IntKind.wrap IntKind.i64 (r+q))+(1:Int)))/\appC 8 (some []) (lst (slcS u r (IntKind.wrap IntKind.i64 ((IntKind.wrap IntKind.i64 (r+q))+(1:Int)))))/\callV Pg q3m [⟨tL,appL (some []) (lst (slcS u r (IntKind.wrap IntKind.i64 ((IntKind.wrap IntKind.i64 (r+q))+(1:Int)))))⟩] tL (fun p9=>callV Pg q2r [⟨tL,p8⟩,⟨tL,p9⟩] tI (fun p10=>brV (decide (p10<=(0:Int))) (inW u r (IntKind.wrap IntKind.i64 ((IntKind.wrap IntKind.i64 (r+q))+(1:Int)))/\ownV Pg q2s [⟨tL,slcS u r (IntKind.wrap IntKind.i64 ((IntKind.wrap IntKind.i64 (r+q))+(1:Int)))⟩,⟨tL,p7⟩] tI (fun p11=>inW u r (szSl u)/\inS t r/\k3 (o,p,q,IntKind.wrap IntKind.i64 (r - (1:Int)),setO t (toN r) s,cpyS u r (szSl u) p11))) (k5 (o,p,q,r,IntKind.wrap IntKind.i64 (s - (1:Int)),t,u))))))) (i,j,k,l,minI (IntKind.wrap IntKind.i64 (Int.tdiv (IntKind.wrap IntKind.i64 ((IntKind.wrap IntKind.i64 ((eltN (0:Int) n (toN (IntKind.wrap IntKind.i64 (l+k))))*(1073741824:Int)))+(eltN (0:Int) n (toN (IntKind.wrap IntKind.i64 ((IntKind.wrap IntKind.i64 (l+k)) - (1:Int))))))) (eltS (0:Int) j (IntKind.wrap IntKind.i64 (k - (1:Int)))))) (1073741823:Int),m,n)) (inW n (0:Int) k/\callV Pg q3l [⟨tL,slcS n (0:Int) k⟩,⟨tI,i⟩] (.tup (.pair tL (.pair tI .unit))) (fun p5=>Q (m,p5.1,())))) (IntKind.wrap IntKind.i64 (Int.tdiv (1073741824:Int) (IntKind.wrap IntKind.i64 ((eltS (0:Int) b (IntKind.wrap IntKind.i64 ((szSl b) - (1:Int))))+(1:Int)))),slcS p2 (0:Int) (szSl b),szSl (slcS p2 (0:Int) (szSl b)),IntKind.wrap IntKind.i64 ((IntKind.wrap IntKind.i64 ((szSl p1) - (szSl (slcS p2 (0:Int) (szSl b))))) - (1:Int)),some (repS (IntKind.wrap IntKind.i64 ((szSl p1) - (szSl (slcS p2 (0:Int) (szSl b))))) (0:Int)),p1)))))))):
 callV Pg q4D [⟨tL,a⟩,⟨tL,b⟩] (.tup (.pair tL (.pair tL .unit))) Q:=
 q02 (c:=q01 Tryz.f114) (ann:=q8o) Tryz.func114 rfl Tryz.call114 rfl rfl hQ (kcast (by kernel_rfl) h)
def q8q:Ann:=(.s (.s (.s (.seq (.s (.blk none (.loop ⟨[(5,.own 1005)],[.var 1 tI,.var 6 tI,.var 9 tL,.var 10 tI,.var 11 tI,.arr 1005 tI]⟩ .nil))) .nil))))
theorem qaL {Q:DL->Prop} (a:DL) (b:Int) (hQ:∃ r,Q r) (h:
 (loopV (Int×Int×DL×Int×DE) (fun k0  (i,j,k,l,m)=>brV (decide (m.1<l)) (inS k m.1/\((1073741824:Int)≠(0:Int))/\appC 8 m.2 (lst (some [(Int.tmod (IntKind.wrap IntKind.i64 (j+(IntKind.wrap IntKind.i64 ((eltS (0:Int) k m.1)*i)))) (1073741824:Int))]))/\((1073741824:Int)≠(0:Int))/\k0 (i,IntKind.wrap IntKind.i64 (Int.tdiv (IntKind.wrap IntKind.i64 (j+(IntKind.wrap IntKind.i64 ((eltS (0:Int) k m.1)*i)))) (1073741824:Int)),k,l,IntKind.wrap IntKind.i64 (m.1+(1:Int)),appL m.2 (lst (some [(Int.tmod (IntKind.wrap IntKind.i64 (j+(IntKind.wrap IntKind.i64 ((eltS (0:Int) k m.1)*i)))) (1073741824:Int))])))) (appC 8 m.2 (lst (some [j]))/\Q (appL m.2 (lst (some [j]))))) (b,(0:Int),a,szSl a,(0:Int),none))):
 ownV Pg q2t [⟨tL,a⟩,⟨tI,b⟩] tI Q:=
 q3A (c:=q01 Tryz.f124) (ann:=q8q) Tryz.func124 rfl Tryz.call124 rfl rfl hQ (kcast (by kernel_rfl) h)
def q8n:Ann:=let x:Shape:=⟨[(5,.own 1005)],[.var 0 tL,.var 1 tL,.var 6 tI,.var 9 tI,.var 10 tI,.arr 1005 tI]⟩;(.s (.s (.s (.seq (.s (.blk none (.loop x (.s (.s (.seq (.blk none (.s (.s (.seq (.s (.cond (some x) .nil .nil)) (.s (.cond (some x) .nil .nil)))))) .nil)))))) .nil))))
theorem qaI {Q:DL->Prop} (a:DL) (b:DL) (hQ:∃ r,Q r) (h:
 (loopV (DL×DL×Int×Int×DE) (fun k0  (i,j,k,l,m)=>brV (decide (m.1<l)) (inS i m.1/\joinV (DL×DL×Int×Int×DE) (fun (n,o,p,q,r)=>joinV (DL×DL×Int×Int×DE) (fun (s,t,u,v,w)=>k0 (s,t,u,v,IntKind.wrap IntKind.i64 (w.1+(1:Int)),w.2)) (fun k3=>brV (decide (p<(0:Int))) (appC 8 r.2 (lst (some [(IntKind.wrap IntKind.i64 (p+(1073741824:Int)))]))/\k3 (n,o,-(1:Int),q,r.1,appL r.2 (lst (some [(IntKind.wrap IntKind.i64 (p+(1073741824:Int)))])))) (appC 8 r.2 (lst (some [p]))/\k3 (n,o,(0:Int),q,r.1,appL r.2 (lst (some [p])))))) (fun k2=>brV (decide (m.1<(szSl j))) (inS j m.1/\k2 (i,j,IntKind.wrap IntKind.i64 ((IntKind.wrap IntKind.i64 (k+(eltS (0:Int) i m.1))) - (eltS (0:Int) j m.1)),l,m)) (k2 (i,j,IntKind.wrap IntKind.i64 (k+(eltS (0:Int) i m.1)),l,m)))) (Q m.2)) (a,b,(0:Int),szSl a,(0:Int),none))):
 ownV Pg q2s [⟨tL,a⟩,⟨tL,b⟩] tI Q:=
 q3A (c:=q01 Tryz.f96) (ann:=q8n) Tryz.func96 rfl Tryz.call96 rfl rfl hQ (kcast (by kernel_rfl) h)
def q8d:Ann:=(.s (.seq (.seq (.reg [] [] (some ⟨[(2,.ref 2 0)],[.var 0 tI,.var 11 .bool,.box 2 tRI]⟩)) .nil) (.s (.s (.seq (.blk none (.loop ⟨[(2,.ref 2 0),(5,.own 1005)],[.var 0 tI,.var 4 tI,.box 2 tRI,.arr 1005 tI]⟩ .nil)) .nil)))))
theorem qay {Q:DRI->Prop} (a:Int) (hQ:∃ r,Q r) (h:
 (joinV (Int×Bool×DRI) (fun (i,j,k)=>brV j (Q (i,false,none)) (((1073741824:Int)≠(0:Int))/\((1073741824:Int)≠(0:Int))/\loopV (Int×Int×DRI×DL) (fun k1  (l,m,n,o)=>brV (notB (decide (m=(0:Int)))) (((1073741824:Int)≠(0:Int))/\((1073741824:Int)≠(0:Int))/\appC 8 o (lst (some [(maxI (Int.tmod m (1073741824:Int)) (IntKind.wrap IntKind.i64 ((0:Int) - (Int.tmod m (1073741824:Int)))))]))/\k1 (l,IntKind.wrap IntKind.i64 (Int.tdiv m (1073741824:Int)),n,appL o (lst (some [(maxI (Int.tmod m (1073741824:Int)) (IntKind.wrap IntKind.i64 ((0:Int) - (Int.tmod m (1073741824:Int)))))])))) (Q ((0:Int),decide (l<(0:Int)),o))) (i,IntKind.wrap IntKind.i64 (Int.tdiv i (1073741824:Int)),k,some [(maxI (Int.tmod i (1073741824:Int)) (IntKind.wrap IntKind.i64 ((0:Int) - (Int.tmod i (1073741824:Int)))))]))) (fun k0=>brV (decide ((-(2305843009213693952:Int))<a)) (k0 (a,decide (a<(2305843009213693952:Int)),(0:Int),false,none)) (k0 (a,false,(0:Int),false,none))))):
 callV Pg q0F [⟨tI,a⟩] tRI Q:=
 q02 (c:=q01 Tryz.f60) (ann:=q8d) Tryz.func60 rfl Tryz.call60 rfl rfl hQ (kcast (by kernel_rfl) h)
def q8a:Ann:=(.s (.seq (.seq (.reg [] [] (some ⟨[(2,.ref 2 0),(3,.ref 3 0),(4,.ref 4 0)],[.var 40 .bool,.box 2 tRI,.box 3 tRI,.box 4 tRI]⟩)) .nil) (.s (.s (.seq (.s (.blk none (.loop ⟨[(2,.ref 2 0),(3,.ref 3 0),(4,.ref 4 0),(7,.own 56)],[.var 5 tL,.var 6 tL,.var 58 tI,.var 59 tI,.box 2 tRI,.box 3 tRI,.box 4 tRI,.arr 56 tI]⟩ (.s (.s (.seq (.blk none (.s (.s (.seq (.s (.blk none (.loop ⟨[(2,.ref 2 0),(3,.ref 3 0),(4,.ref 4 0),(7,.own 56)],[.var 5 tL,.var 6 tL,.var 8 tI,.var 9 tI,.var 58 tI,.var 59 tI,.var 63 tI,.var 64 tI,.box 2 tRI,.box 3 tRI,.box 4 tRI,.arr 56 tI]⟩ .nil))) .nil)))) .nil)))))) (.seq (.reg [56] [] none) .nil))))))
theorem qav {Q:DRI->Prop} (a:DRI) (b:DRI) (hQ:∃ r,Q r) (h:
 (joinV (Bool×DRI×DRR) (fun (i,j,k)=>brV i (Q (IntKind.wrap IntKind.i64 (j.1*k.1.1),false,none)) (callV Pg q15 [⟨tRI,j⟩] tL (fun p1=>callV Pg q15 [⟨tRI,k.1⟩] tL (fun p2=>mkC 8 (IntKind.wrap IntKind.i64 ((szSl p1)+(szSl p2))) (IntKind.wrap IntKind.i64 ((szSl p1)+(szSl p2)))/\loopV (DL×DL×Int×Int×DRI×DRI×DRI×DL) (fun k3  (l,m,n,o,p,q,r,s)=>brV (decide (o<n)) (loopV (DL×DL×Int×Int×Int×Int×Int×Int×DRI×DRI×DRI×DL) (fun k5  (t,u,v,w,x,y,z,e,f,g,c,d)=>brV (decide (e<z)) (inS d (IntKind.wrap IntKind.i64 (v+e))/\inS t v/\inS u e/\((1073741824:Int)≠(0:Int))/\inS d (IntKind.wrap IntKind.i64 (v+e))/\((1073741824:Int)≠(0:Int))/\k5 (t,u,v,IntKind.wrap IntKind.i64 (Int.tdiv (IntKind.wrap IntKind.i64 (w+(IntKind.wrap IntKind.i64 ((eltN (0:Int) d (toN (IntKind.wrap IntKind.i64 (v+e))))+(IntKind.wrap IntKind.i64 ((eltS (0:Int) t v)*(eltS (0:Int) u e))))))) (1073741824:Int)),x,y,z,IntKind.wrap IntKind.i64 (e+(1:Int)),f,g,c,setO d (toN (IntKind.wrap IntKind.i64 (v+e))) (Int.tmod (IntKind.wrap IntKind.i64 (w+(IntKind.wrap IntKind.i64 ((eltN (0:Int) d (toN (IntKind.wrap IntKind.i64 (v+e))))+(IntKind.wrap IntKind.i64 ((eltS (0:Int) t v)*(eltS (0:Int) u e))))))) (1073741824:Int)))) (inS d (IntKind.wrap IntKind.i64 (v+(szSl u)))/\k3 (t,u,x,IntKind.wrap IntKind.i64 (y+(1:Int)),f,g,c,setO d (toN (IntKind.wrap IntKind.i64 (v+(szSl u)))) w))) (l,m,o,(0:Int),n,o,szSl m,(0:Int),p,q,r,s)) (callV Pg q0n [⟨tRI,p⟩] tI (fun p5=>callV Pg q0n [⟨tRI,q⟩] tI (fun p6=>callV Pg q16 [⟨.bool,notB (decide (p5=p6))⟩,⟨tL,s⟩] tRI (fun p7=>Q p7))))) (p1,p2,szSl p1,(0:Int),j,k.1,k.2,some (repS (IntKind.wrap IntKind.i64 ((szSl p1)+(szSl p2))) (0:Int))))))) (fun k0=>brV (decide ((szSl a.2.2)=(0:Int))) (brV (decide ((szSl b.2.2)=(0:Int))) (brV (decide ((-(1073741824:Int))<a.1)) (brV (decide (a.1<(1073741824:Int))) (brV (decide ((-(1073741824:Int))<b.1)) (k0 (decide (b.1<(1073741824:Int)),a,b,(0:Int),false,none)) (k0 (false,a,b,(0:Int),false,none))) (k0 (false,a,b,(0:Int),false,none))) (k0 (false,a,b,(0:Int),false,none))) (k0 (false,a,b,(0:Int),false,none))) (k0 (false,a,b,(0:Int),false,none))))):
 callV Pg q2q [⟨tRI,a⟩,⟨tRI,b⟩] tRI Q:=
 q02 (c:=q01 Tryz.f63) (ann:=q8a) Tryz.func63 rfl Tryz.call63 rfl rfl hQ (kcast (by kernel_rfl) h)
def q82:Ann:=(.s (.seq (.blk none (.loop ⟨[(2,.ref 2 0),(3,.ref 3 0),(4,.ref 4 0)],[.box 2 tRI,.box 3 tRI,.box 4 tRI]⟩ .nil)) .nil))
theorem qan {Q:DRI->Prop} (a:DRI) (b:DRI) (hQ:∃ r,Q r) (h:
 (loopV (DRI×DRR) (fun k0  (i,j)=>callV Pg q0n [⟨tRI,j.1⟩] tI (fun p2=>brV (notB (decide (p2=(0:Int)))) (callV Pg q2p [⟨tRI,i⟩,⟨tRI,j.1⟩] (.tup (.pair tRI (.pair tRI .unit))) (fun p3=>k0 (j.1,p3.2.1,j.2))) (callV Pg q4v [⟨tRI,i⟩] tRI (fun p3=>Q p3)))) (a,b,(0:Int),false,none))):
 callV Pg q3g [⟨tRI,a⟩,⟨tRI,b⟩] tRI Q:=
 q02 (c:=q01 Tryz.f59) (ann:=q82) Tryz.func59 rfl Tryz.call59 rfl rfl hQ (kcast (by kernel_rfl) h)
def q84:Ann:=.nil
theorem qap {Q:Int->Prop} (a:DRI) (b:DRI) (hQ:∃ r,Q r) (h:
 (callV Pg q4w [⟨tRI,a⟩,⟨tRI,b⟩] tRI (fun p0=>callV Pg q0n [⟨tRI,p0⟩] tI (fun p1=>Q p1)))):
 callV Pg q3h [⟨tRI,a⟩,⟨tRI,b⟩] tI Q:=
 q02 (c:=q01 Tryz.f61) (ann:=q84) Tryz.func61 rfl Tryz.call61 rfl rfl hQ (kcast (by kernel_rfl) h)
def q89:Ann:=(.s (.seq (.blk none (.seq (.reg [] [] (some ⟨[(1,.ref 1 0)],[.var 3 .bool,.box 1 tRI]⟩)) (.cond none .nil (.seq (.reg [] [] (some ⟨[],[.var 17 .bool]⟩)) .nil)))) .nil))
theorem qau {Q:Int->Prop} (a:DRI) (hQ:∃ r,Q r) (h:
 (joinV (Bool×DRI) (fun (i,j)=>brV i (Q (-(1:Int))) (joinV Bool (fun p1=>brV p1 (Q (1:Int)) (Q (0:Int))) (fun k1=>brV (decide ((0:Int)<(szSl j.2.2))) (k1 true) (k1 (decide ((0:Int)<j.1)))))) (fun k0=>brV (decide ((0:Int)<(szSl a.2.2))) (brV a.2.1 (k0 (true,a)) (k0 (decide (a.1<(0:Int)),a))) (k0 (decide (a.1<(0:Int)),a))))):
 callV Pg q0n [⟨tRI,a⟩] tI Q:=
 q02 (c:=q01 Tryz.f87) (ann:=q89) Tryz.func87 rfl Tryz.call87 rfl rfl hQ (kcast (by kernel_rfl) h)
def q86:Ann:=(.s (.seq (.reg [] [] (some ⟨[(2,.ref 2 0)],[.box 2 tRI]⟩)) .nil))
theorem qar {Q:DRI->Prop} (a:DRI) (hQ:∃ r,Q r) (h:
 (joinV DRI (fun p0=>Q p0) (fun k0=>brV (decide ((0:Int)<(szSl a.2.2))) (k0 (IntKind.wrap IntKind.i64 ((0:Int) - a.1),notB a.2.1,a.2.2)) (k0 (IntKind.wrap IntKind.i64 ((0:Int) - a.1),false,a.2.2))))):
 callV Pg q1s [⟨tRI,a⟩] tRI Q:=
 q02 (c:=q01 Tryz.f91) (ann:=q86) Tryz.func91 rfl Tryz.call91 rfl rfl hQ (kcast (by kernel_rfl) h)
def q87:Ann:=(.s (.seq (.seq (.reg [] [] (some ⟨[(2,.ref 2 0),(3,.ref 3 0),(4,.ref 4 0),(5,.ref 5 0)],[.var 17 .bool,.box 2 tRI,.box 3 tRI,.box 4 tRI,.box 5 tRI]⟩)) .nil) .nil))
theorem qas {Q:(DRI×(DRI×Unit))->Prop} (a:DRI) (b:DRI) (hQ:∃ r,Q r) (h:
 (joinV (Bool×DRI×DRI×DRR) (fun (i,j,k,_)=>brV i ((k.1≠(0:Int))/\(k.1≠(0:Int))/\Q ((IntKind.wrap IntKind.i64 (Int.tdiv j.1 k.1),false,none),(Int.tmod j.1 k.1,false,none),())) (callV Pg q15 [⟨tRI,j⟩] tL (fun p1=>callV Pg q15 [⟨tRI,k⟩] tL (fun p2=>callV Pg q4D [⟨tL,p1⟩,⟨tL,p2⟩] (.tup (.pair tL (.pair tL .unit))) (fun p3=>callV Pg q0n [⟨tRI,j⟩] tI (fun p4=>callV Pg q0n [⟨tRI,k⟩] tI (fun p5=>callV Pg q16 [⟨.bool,notB (decide (p4=p5))⟩,⟨tL,p3.1⟩] tRI (fun p6=>callV Pg q0n [⟨tRI,j⟩] tI (fun p7=>callV Pg q16 [⟨.bool,decide (p7<(0:Int))⟩,⟨tL,p3.2.1⟩] tRI (fun p8=>Q (p6,p8,()))))))))))) (fun k0=>brV (decide ((szSl a.2.2)=(0:Int))) (k0 (decide ((szSl b.2.2)=(0:Int)),a,b,z0)) (k0 (false,a,b,z0))))):
 callV Pg q2p [⟨tRI,a⟩,⟨tRI,b⟩] (.tup (.pair tRI (.pair tRI .unit))) Q:=
 q02 (c:=q01 Tryz.f88) (ann:=q87) Tryz.func88 rfl Tryz.call88 rfl rfl hQ (kcast (by kernel_rfl) h)
def q8b:Ann:=(.s (.s (.s (.seq (.s (.blk none (.loop ⟨[(3,.own 1003)],[.var 4 tI,.arr 1003 tI]⟩ .nil))) .nil))))
theorem qaw {Q:DL->Prop} (a:DRI) (hQ:∃ r,Q r) (h:
 (brV (decide ((0:Int)<(szSl a.2.2))) (Q a.2.2) (loopV DE (fun k0  p1=>brV (decide ((0:Int)<p1.1)) (((1073741824:Int)≠(0:Int))/\appC 8 p1.2 (lst (some [(Int.tmod p1.1 (1073741824:Int))]))/\((1073741824:Int)≠(0:Int))/\k0 (IntKind.wrap IntKind.i64 (Int.tdiv p1.1 (1073741824:Int)),appL p1.2 (lst (some [(Int.tmod p1.1 (1073741824:Int))])))) (Q p1.2)) (maxI a.1 (IntKind.wrap IntKind.i64 ((0:Int) - a.1)),none)))):
 callV Pg q15 [⟨tRI,a⟩] tL Q:=
 q02 (c:=q01 Tryz.f92) (ann:=q8b) Tryz.func92 rfl Tryz.call92 rfl rfl hQ (kcast (by kernel_rfl) h)
def q8p:Ann:=(.s (.seq (.blk none (.loop ⟨[(4,.ref 4 0)],[.var 0 .bool,.var 1 tL,.box 4 tRI]⟩ (.seq (.seq (.reg [] [] (some ⟨[(4,.ref 4 0)],[.var 0 .bool,.var 1 tL,.var 18 .bool,.box 4 tRI]⟩)) .nil) .nil))) (.seq (.seq (.reg [] [] (some ⟨[(4,.ref 4 0)],[.var 0 .bool,.var 1 tL,.var 37 .bool,.box 4 tRI]⟩)) .nil) (.s (.seq (.s (.blk none (.loop ⟨[(4,.ref 4 0)],[.var 0 .bool,.var 1 tL,.var 5 tI,.var 6 tI,.box 4 tRI]⟩ .nil))) (.seq (.s (.cond (some ⟨[(4,.ref 4 0)],[.var 5 tI,.box 4 tRI]⟩) .nil .nil)) .nil))))))
theorem qaK {Q:DRI->Prop} (a:Bool) (b:DL) (hQ:∃ r,Q r) (h:
 (loopV (Bool×DL×DRI) (fun k0  (i,j,k)=>joinV (Bool×DL×Bool×DRI) (fun (l,m,n,o)=>brV n (inR m (0:Int) (IntKind.wrap IntKind.i64 ((szSl m) - (1:Int)))/\k0 (l,slcS m (0:Int) (IntKind.wrap IntKind.i64 ((szSl m) - (1:Int))),o)) (joinV (Bool×DL×Bool×DRI) (fun (p,q,r,s)=>brV r (Q ((0:Int),p,q)) (loopV (Bool×DL×Int×Int×DRI) (fun k4  (t,u,v,w,x)=>brV (decide ((0:Int)<=w)) (inS u w/\k4 (t,u,IntKind.wrap IntKind.i64 ((IntKind.wrap IntKind.i64 (v*(1073741824:Int)))+(eltS (0:Int) u w)),IntKind.wrap IntKind.i64 (w - (1:Int)),x)) (joinV (Int×DRI) (fun (y,_)=>Q (y,false,none)) (fun k6=>brV t (k6 (IntKind.wrap IntKind.i64 ((0:Int) - v),x)) (k6 (v,x))))) (p,q,(0:Int),IntKind.wrap IntKind.i64 ((szSl q) - (1:Int)),s))) (fun k3=>brV (decide ((3:Int)<(szSl m))) (k3 (l,m,true,o)) (brV (decide ((szSl m)=(3:Int))) (inS m (2:Int)/\k3 (l,m,decide ((2:Int)<=(eltS (0:Int) m (2:Int))),o)) (k3 (l,m,false,o)))))) (fun k2=>brV (decide ((0:Int)<(szSl j))) (inS j (IntKind.wrap IntKind.i64 ((szSl j) - (1:Int)))/\k2 (i,j,decide ((eltS (0:Int) j (IntKind.wrap IntKind.i64 ((szSl j) - (1:Int))))=(0:Int)),k)) (k2 (i,j,false,k)))) (a,b,(0:Int),false,none))):
 callV Pg q16 [⟨.bool,a⟩,⟨tL,b⟩] tRI Q:=
 q02 (c:=q01 Tryz.f93) (ann:=q8p) Tryz.func93 rfl Tryz.call93 rfl rfl hQ (kcast (by kernel_rfl) h)
def q88:Ann:=(.s (.seq (.seq (.reg [] [] (some ⟨[(2,.ref 2 0),(3,.ref 3 0),(4,.ref 4 0)],[.var 18 .bool,.box 2 tRI,.box 3 tRI,.box 4 tRI]⟩)) .nil) .nil))
theorem qat {Q:DRI->Prop} (a:DRI) (b:DRI) (hQ:∃ r,Q r) (h:
 (joinV (Bool×DRI×DRR) (fun (i,j,k)=>brV i (callV Pg q0F [⟨tI,IntKind.wrap IntKind.i64 (j.1+k.1.1)⟩] tRI (fun p1=>Q p1)) (callV Pg q15 [⟨tRI,j⟩] tL (fun p1=>callV Pg q15 [⟨tRI,k.1⟩] tL (fun p2=>callV Pg q0n [⟨tRI,j⟩] tI (fun p3=>callV Pg q0n [⟨tRI,k.1⟩] tI (fun p4=>brV (eqB (decide (p3<(0:Int))) (decide (p4<(0:Int)))) (callV Pg q4E [⟨tL,p1⟩,⟨tL,p2⟩] tL (fun p5=>callV Pg q16 [⟨.bool,decide (p3<(0:Int))⟩,⟨tL,p5⟩] tRI (fun p6=>Q p6))) (callV Pg q2r [⟨tL,p1⟩,⟨tL,p2⟩] tI (fun p5=>brV (decide ((0:Int)<=p5)) (callV Pg q2s [⟨tL,p1⟩,⟨tL,p2⟩] tL (fun p6=>callV Pg q16 [⟨.bool,decide (p3<(0:Int))⟩,⟨tL,p6⟩] tRI (fun p7=>Q p7))) (callV Pg q2s [⟨tL,p2⟩,⟨tL,p1⟩] tL (fun p6=>callV Pg q16 [⟨.bool,decide (p4<(0:Int))⟩,⟨tL,p6⟩] tRI (fun p7=>Q p7))))))))))) (fun k0=>brV (decide ((szSl a.2.2)=(0:Int))) (k0 (decide ((szSl b.2.2)=(0:Int)),a,b,(0:Int),false,none)) (k0 (false,a,b,(0:Int),false,none))))):
 callV Pg q3i [⟨tRI,a⟩,⟨tRI,b⟩] tRI Q:=
 q02 (c:=q01 Tryz.f64) (ann:=q88) Tryz.func64 rfl Tryz.call64 rfl rfl hQ (kcast (by kernel_rfl) h)
def q83:Ann:=.nil
theorem qao {Q:DRI->Prop} (a:DRI) (hQ:∃ r,Q r) (h:
 (callV Pg q0n [⟨tRI,a⟩] tI (fun p0=>brV (decide (p0<(0:Int))) (callV Pg q1s [⟨tRI,a⟩] tRI (fun p1=>Q p1)) (Q a)))):
 callV Pg q4v [⟨tRI,a⟩] tRI Q:=
 q02 (c:=q01 Tryz.f89) (ann:=q83) Tryz.func89 rfl Tryz.call89 rfl rfl hQ (kcast (by kernel_rfl) h)
def q85:Ann:=.nil
theorem qaq {Q:DRI->Prop} (a:DRI) (b:DRI) (hQ:∃ r,Q r) (h:
 (callV Pg q1s [⟨tRI,b⟩] tRI (fun p0=>callV Pg q3i [⟨tRI,a⟩,⟨tRI,p0⟩] tRI (fun p1=>Q p1)))):
 callV Pg q4w [⟨tRI,a⟩,⟨tRI,b⟩] tRI Q:=
 q02 (c:=q01 Tryz.f90) (ann:=q85) Tryz.func90 rfl Tryz.call90 rfl rfl hQ (kcast (by kernel_rfl) h)
def q8s:Ann:=let x:Shape:=⟨[(5,.own 1005)],[.var 0 tL,.var 1 tL,.var 6 tI,.var 7 tI,.arr 1005 tI]⟩;(.s (.s (.s (.seq (.s (.blk none (.loop x (.seq (.seq (.reg [] [] (some ⟨[(5,.own 1005)],[.var 0 tL,.var 1 tL,.var 6 tI,.var 7 tI,.var 21 .bool,.arr 1005 tI]⟩)) .nil) (.seq (.blk none (.seq (.s (.cond (some x) .nil .nil)) (.seq (.s (.cond (some x) .nil .nil)) .nil))) .nil))))) .nil))))
theorem qaN {Q:DL->Prop} (a:DL) (b:DL) (hQ:∃ r,Q r) (h:
 (loopV (DL×DL×Int×DE) (fun k0  (i,j,k,l)=>joinV (DL×DL×Int×DRI) (fun (m,n,o,p)=>brV p.2.1 (joinV (DL×DL×Int×DE) (fun (q,r,s,t)=>joinV (DL×DL×Int×DE) (fun (u,v,w,x)=>((1073741824:Int)≠(0:Int))/\appC 8 x.2 (lst (some [(Int.tmod w (1073741824:Int))]))/\((1073741824:Int)≠(0:Int))/\k0 (u,v,IntKind.wrap IntKind.i64 (Int.tdiv w (1073741824:Int)),IntKind.wrap IntKind.i64 (x.1+(1:Int)),appL x.2 (lst (some [(Int.tmod w (1073741824:Int))])))) (fun k4=>brV (decide (t.1<(szSl r))) (inS r t.1/\k4 (q,r,IntKind.wrap IntKind.i64 (s+(eltS (0:Int) r t.1)),t)) (k4 (q,r,s,t)))) (fun k3=>brV (decide (p.1<(szSl m))) (inS m p.1/\k3 (m,n,IntKind.wrap IntKind.i64 (o+(eltS (0:Int) m p.1)),p.1,p.2.2)) (k3 (m,n,o,p.1,p.2.2)))) (Q p.2.2)) (fun k2=>brV (decide (l.1<(szSl i))) (k2 (i,j,k,l.1,true,l.2)) (brV (decide (l.1<(szSl j))) (k2 (i,j,k,l.1,true,l.2)) (k2 (i,j,k,l.1,decide ((0:Int)<k),l.2))))) (a,b,(0:Int),(0:Int),none))):
 callV Pg q4E [⟨tL,a⟩,⟨tL,b⟩] tL Q:=
 q02 (c:=q01 Tryz.f94) (ann:=q8s) Tryz.func94 rfl Tryz.call94 rfl rfl hQ (kcast (by kernel_rfl) h)
def q8m:Ann:=(.s (.s (.seq (.s (.blk none (.loop ⟨[],[.var 0 tL,.var 1 tL,.var 5 tI]⟩ .nil))) .nil)))
theorem qaH {Q:Int->Prop} (a:DL) (b:DL) (hQ:∃ r,Q r) (h:
 (brV (notB (decide ((szSl a)=(szSl b)))) (brV (decide ((szSl a)<(szSl b))) (Q (-(1:Int))) (Q (1:Int))) (loopV (DL×DL×Int) (fun k0  (i,j,k)=>brV (decide ((0:Int)<=k)) (inS i k/\inS j k/\brV (decide ((eltS (0:Int) i k)<(eltS (0:Int) j k))) (Q (-(1:Int))) (inS i k/\inS j k/\brV (decide ((eltS (0:Int) j k)<(eltS (0:Int) i k))) (Q (1:Int)) (k0 (i,j,IntKind.wrap IntKind.i64 (k - (1:Int)))))) (Q (0:Int))) (a,b,IntKind.wrap IntKind.i64 ((szSl a) - (1:Int)))))):
 callV Pg q2r [⟨tL,a⟩,⟨tL,b⟩] tI Q:=
 q02 (c:=q01 Tryz.f95) (ann:=q8m) Tryz.func95 rfl Tryz.call95 rfl rfl hQ (kcast (by kernel_rfl) h)
def q8r:Ann:=(.s (.s (.seq (.s (.blk none (.loop ⟨[(4,.own 9)],[.var 0 tL,.var 1 tI,.var 5 tI,.var 6 tI,.arr 9 tI]⟩ .nil))) .nil)))
theorem qaM {Q:(DL×(Int×Unit))->Prop} (a:DL) (b:Int) (hQ:∃ r,Q r) (h:
 (mkC 8 (szSl a) (szSl a)/\loopV (DL×Int×Int×DE) (fun k0  (i,j,k,l)=>brV (decide ((0:Int)<=l.1)) (inS i l.1/\(j≠(0:Int))/\(j≠(0:Int))/\inS l.2 l.1/\k0 (i,j,Int.tmod (IntKind.wrap IntKind.i64 ((IntKind.wrap IntKind.i64 (k*(1073741824:Int)))+(eltS (0:Int) i l.1))) j,IntKind.wrap IntKind.i64 (l.1 - (1:Int)),setO l.2 (toN l.1) (IntKind.wrap IntKind.i64 (Int.tdiv (IntKind.wrap IntKind.i64 ((IntKind.wrap IntKind.i64 (k*(1073741824:Int)))+(eltS (0:Int) i l.1))) j)))) (Q (l.2,k,()))) (a,b,(0:Int),IntKind.wrap IntKind.i64 ((szSl a) - (1:Int)),some (repS (szSl a) (0:Int))))):
 callV Pg q3l [⟨tL,a⟩,⟨tI,b⟩] (.tup (.pair tL (.pair tI .unit))) Q:=
 q02 (c:=q01 Tryz.f123) (ann:=q8r) Tryz.func123 rfl Tryz.call123 rfl rfl hQ (kcast (by kernel_rfl) h)
def q8t:Ann:=(.s (.seq (.blk none (.loop ⟨[],[.var 0 tL]⟩ (.seq (.seq (.reg [] [] (some ⟨[],[.var 0 tL,.var 14 .bool]⟩)) .nil) .nil))) .nil))
theorem qaO {Q:DL->Prop} (a:DL) (hQ:∃ r,Q r) (h:
 (loopV DL (fun k0  p1=>joinV (DL×Bool) (fun (i,j)=>brV j (inR i (0:Int) (IntKind.wrap IntKind.i64 ((szSl i) - (1:Int)))/\k0 (slcS i (0:Int) (IntKind.wrap IntKind.i64 ((szSl i) - (1:Int))))) (Q i)) (fun k2=>brV (decide ((0:Int)<(szSl p1))) (inS p1 (IntKind.wrap IntKind.i64 ((szSl p1) - (1:Int)))/\k2 (p1,decide ((eltS (0:Int) p1 (IntKind.wrap IntKind.i64 ((szSl p1) - (1:Int))))=(0:Int)))) (k2 (p1,false)))) a)):
 callV Pg q3m [⟨tL,a⟩] tL Q:=
 q02 (c:=q01 Tryz.f125) (ann:=q8t) Tryz.func125 rfl Tryz.call125 rfl rfl hQ (kcast (by kernel_rfl) h)
end Go.Proofs.Pf
namespace Go.Proofs.Pf.B
open Go Go.VM
theorem q2A {a b:List Int} (ha:Dig a) (hb:Dig b) {k:Nat} (hl:a.length=b.length) (hk:k<a.length) (heq:nv (a.drop (k+1))=nv (b.drop (k+1))) (hlt:a.getD k 0<b.getD k 0):nv a<nv b:=by
 rw[q1x a k (by omega),q1x b k (by omega),q0v a k hk,q0v b k (by omega),heq]
 have h1:=nv_lt (ha.take k)
 have h2:=nv_nonneg (hb.take k)
 rw[List.length_take,Nat.min_eq_left (by omega)] at h1
 have hp:=pow_posB k
 have:1073741824 ^ k*(a.getD k 0+1073741824*nv (b.drop (k+1))+1)<=(1073741824:Int) ^ k*(b.getD k 0+1073741824*nv (b.drop (k+1))):=Int.mul_le_mul_of_nonneg_left (by omega) (by omega)
 rw[Int.mul_add _ _ 1] at this
 omega
theorem q0I {a b:List Int} (ha:Dig a) (hb:Dig b) (tb:Trm b) (h:a.length<b.length):nv a<nv b:=by
 have h1:=nv_lt ha
 have hne:b≠[]:=by rintro rfl;simp at h
 have h2:=tb.ge hb hne
 have h3:=pow_monoB (show a.length<=b.length - 1 by omega)
 omega
theorem q5l {a b:Option (List Int)} (ha:Dig (a.getD [])) (hb:Dig (b.getD [])) (ta:Trm (a.getD [])) (tb:Trm (b.getD [])) (la:(a.getD []).length<=1099511627776):
 callV Pg q2r [⟨tL,a⟩,⟨tL,b⟩] tI fun r=>r=cmpI (nv (a.getD [])) (nv (b.getD [])):=by
 refine qaH a b ⟨_,rfl⟩ (q00.2 ⟨fun h=>q00.2 ⟨fun h2=>?_,fun h2=>?_⟩,fun h=>?_⟩)
 . have h2:=dec_t h2
   simp only[szSl] at h2
   have:=q0I ha hb tb (by omega)
   rw[cmpI,if_pos this]
 . have h2:=dec_f h2
   have h:=not_t h
   simp only[szSl] at h h2
   have:=q0I hb ha ta (by omega)
   rw[cmpI,if_neg (by omega),if_pos this]
 . have h:=not_f h
   simp only[szSl] at h
   refine loopE (fun p=>p.1=a/\p.2.1=b/\∃ k:Nat,p.2.2=(k:Int) - 1/\k<=(a.getD []).length/\nv ((a.getD []).drop k)=nv ((b.getD []).drop k)) (fun p=>(p.2.2+1).toNat) ⟨rfl,rfl,(a.getD []).length,?_,Nat.le_refl _,?_⟩ ?_
   . simp only[szSl];exact wi64 (by omega) (by omega)
   . rw[List.drop_length,show (a.getD []).length=(b.getD []).length by omega,List.drop_length]
   . rintro⟨A,B,i⟩ ⟨e1,e2,k,e3,h1,h2⟩
     simp only at e1 e2 e3;subst e1 e2 e3
     refine q00.2 ⟨fun hc=>?_,fun hc=>?_⟩
     . have hc:=dec_t hc
       (try simp only at hc)
       obtain⟨k,rfl⟩:∃ j,k=j+1:=⟨k - 1,by omega⟩
       have ek:(((k+1:Nat):Int) - 1).toNat=k:=by omega
       have i1:inS A (((k+1:Nat):Int) - 1):=⟨by omega,by omega⟩
       have i2:inS B (((k+1:Nat):Int) - 1):=⟨by omega,by omega⟩
       refine⟨i1,i2,q00.2 ⟨fun hd=>?_,fun hd=>⟨i1,i2,q00.2 ⟨fun hd2=>?_,fun hd2=>?_⟩⟩⟩⟩
       . have hd:=dec_t hd
         simp only[eltS,ek] at hd
         have:=q2A ha hb (by omega) (by omega) h2 hd
         rw[cmpI,if_pos this]
       . have hd2:=dec_t hd2
         simp only[eltS,ek] at hd2
         have:=q2A hb ha (by omega) (by omega) h2.symm hd2
         rw[cmpI,if_neg (by omega),if_pos this]
       . have hd:=dec_f hd
         have hd2:=dec_f hd2
         simp only[eltS,ek] at hd hd2
         have hd3:(A.getD []).getD k 0=(B.getD []).getD k 0:=by omega
         refine⟨⟨rfl,rfl,k,?_,by omega,?_⟩,?_⟩
         . show IntKind.wrap IntKind.i64 (((k+1:Nat):Int) - 1 - 1)=(k:Int) - 1;rw[wi64 (by omega) (by omega)];omega
         . rw[q0v (A.getD []) k (by omega),q0v (B.getD []) k (by omega),hd3,h2]
         . show (IntKind.wrap IntKind.i64 (((k+1:Nat):Int) - 1 - 1)+1).toNat<(((k+1:Nat):Int) - 1+1).toNat;rw[wi64 (by omega) (by omega)];omega
     . have hc:=dec_f hc
       (try simp only at hc)
       have:k=0:=by omega
       subst this
       simp only[List.drop_zero] at h2
       rw[cmpI,if_neg (by omega),if_neg (by omega)]
theorem r_trim {a:Option (List Int)} (ha:(a.getD []).length<4611686018427387904):
 callV Pg q3m [⟨tL,a⟩] tL fun r=>r=a.map trim:=by
 refine qaO a ⟨_,rfl⟩ (loopE (fun p=>p.map trim=a.map trim/\(p.getD []).length<=(a.getD []).length) (fun p=>(p.getD []).length) ⟨rfl,Nat.le_refl _⟩ ?_)
 rintro p ⟨h1,h2⟩
 refine joinR (fun q=>q.1=p/\(q.2=true->∃ l',p=some (l' ++ [0]))/\(q.2=false->p=a.map trim)) ?_ ?_
 . rintro⟨q,c⟩ ⟨e,hc1,hc2⟩
   simp only at e;subst e
   refine q00.2 ⟨fun h=>?_,fun h=>hc2 h⟩
   obtain⟨l',rfl⟩:=hc1 h
   simp only[szSl,Option.getD_some,List.length_append,List.length_cons,List.length_nil] at h2 ⊢
   rw[wi64 (by omega) (by omega)]
   have e:(((l'.length+(0+1):Nat):Int) - 1).toNat=l'.length:=by omega
   refine⟨⟨by omega,by omega,by simp;omega⟩,?_⟩
   simp only[slcS,Option.map_some,e]
   have e2:((l' ++ [0]).take l'.length).drop (0:Int).toNat=l':=by simp
   rw[e2]
   refine⟨⟨?_,by simp only[Option.getD_some];omega⟩,by simp⟩
   rw[<-h1];simp[q2e]
 . intro k hk
   refine q00.2 ⟨fun hb=>?_,fun hb=>hk _ ⟨rfl,fun h=>by simp at h,fun _=>?_⟩⟩
   . have hb:=of_decide_eq_true hb
     simp only[szSl] at hb ⊢
     rw[wi64 (by omega) (by omega)]
     cases p with
     | none=>simp at hb
     | some l=>
      simp only[Option.getD_some] at *
      rcases List.eq_nil_or_concat l with rfl | ⟨l',x,rfl⟩
      . simp at hb
      . simp only[List.concat_eq_append] at *
        have e:(((l' ++ [x]).length:Int) - 1).toNat=l'.length:=by simp
        have ex:eltS (0:Int) (some (l' ++ [x])) (((l' ++ [x]).length:Int) - 1)=x:=by simp only[eltS,Option.getD_some,e];simp[List.getD]
        refine⟨⟨by omega,by simp only[Option.getD_some];omega⟩,hk _ ⟨rfl,fun h=>?_,fun h=>?_⟩⟩
        . rw[ex] at h
          have h:x=0:=of_decide_eq_true h
          exact⟨l',by rw[h]⟩
        . rw[ex] at h
          have h:x≠0:=of_decide_eq_false h
          rw[<-h1];simp[q2d _ _ h]
   . have hb:=of_decide_eq_false hb
     cases p with
     | none=>simpa using h1
     | some l=>
      simp only[szSl,Option.getD_some] at hb
      have:l=[]:=by apply List.eq_nil_of_length_eq_zero;omega
      subst this
      rw[<-h1];rfl
def RIV (x:Int×Bool×Option (List Int)) (n:Int):Prop:=
 (x.2.2.getD []=[]/\x.1=n /\ -2305843009213693952<n/\n<2305843009213693952) ∨
 (x.2.2.getD []≠[]/\Dig (x.2.2.getD [])/\Trm (x.2.2.getD [])/\2305843009213693952<=nv (x.2.2.getD [])/\x.1=0/\n=if x.2.1=true then -nv (x.2.2.getD []) else nv (x.2.2.getD []))
theorem RIV.small {v n:Int} {b:Bool} (h:v=n) (h1:-2305843009213693952<n) (h2:n<2305843009213693952):RIV (v,b,none) n:=.inl ⟨rfl,h,h1,h2⟩
theorem nv_ex:∀ (k:Nat) (a:Nat),a<k->∃ l,Dig l/\Trm l/\nv l=(a:Int)
 | 0,a,h=>by omega
 | k+1,a,h=>by
  by_cases h0:a=0
  . exact⟨[],Dig.nil,fun d hd=>by simp at hd,by rw[h0];rfl⟩
  . by_cases h1:a<1073741824
    . exact⟨[(a:Int)],Dig.cons (by omega) (by omega) Dig.nil,fun d hd=>by simp at hd;omega,by simp[nv]⟩
    . obtain⟨l,q1,q2,q3⟩:=nv_ex k (a / 1073741824) (by omega)
      refine⟨((a % 1073741824:Nat):Int) :: l,Dig.cons (by omega) (by omega) q1,?_,by simp only[nv,q3];omega⟩
      intro d hd
      rcases List.eq_nil_or_concat l with rfl | ⟨l',x,rfl⟩
      . simp only[nv] at q3;omega
      . refine q2 d ?_
        simp only[List.concat_eq_append] at hd ⊢
        rw[<-List.cons_append,List.getLast?_concat] at hd
        rw[List.getLast?_concat];exact hd
theorem RIV_ex (n:Int):∃ r,RIV r n:=by
 by_cases h:-2305843009213693952<n/\n<2305843009213693952
 . exact⟨(n,false,none),.inl ⟨rfl,rfl,h.1,h.2⟩⟩
 . obtain⟨l,q1,q2,q3⟩:=nv_ex (n.natAbs+1) n.natAbs (by omega)
   refine⟨(0,decide (n<0),some l),.inr ⟨?_,q1,q2,?_,rfl,?_⟩⟩
   . rintro rfl;simp only[Option.getD_some,nv] at q3;omega
   . simp only[Option.getD_some,q3];omega
   . simp only[Option.getD_some,q3,decide_eq_true_eq];split<;>omega
theorem q1m {l:Option (List Int)}:(0<szSl l)↔l.getD []≠[]:=by
 simp only[szSl]
 constructor
 . intro h e;rw[e] at h;simp at h
 . intro h;have:=List.length_pos_iff.2 h;omega
theorem q0B {x:Int×Bool×Option (List Int)} {n:Int} (h:RIV x n):callV Pg q0n [⟨tRI,x⟩] tI fun r=>r=sgn n:=by
 refine qau x ⟨_,rfl⟩ (joinR (fun p=>p=(decide (n<0),x)) ?_ ?_)
 . rintro _ rfl
   refine q00.2 ⟨fun h1=>?_,fun h1=>joinR (fun c=>c=decide (0<n)) ?_ ?_⟩
   . have h1:n<0:=dec_t h1
     rw[sgn,if_neg (by omega),if_pos h1]
   . rintro _ rfl
     have h1:¬ n<0:=dec_f h1
     refine q00.2 ⟨fun h2=>?_,fun h2=>?_⟩
     . have h2:=dec_t h2
       rw[sgn,if_pos h2]
     . have h2:=dec_f h2
       rw[sgn,if_neg h2,if_neg h1]
   . intro k hk
     have h1:¬ n<0:=dec_f h1
     refine q00.2 ⟨fun h2=>hk _ ?_,fun h2=>hk _ ?_⟩
     . have h2:=q1m.1 (dec_t h2)
       rcases h with ⟨q,_⟩ | ⟨q1,q2,q3,q4,q5,q6⟩
       . exact absurd q h2
       . symm;apply decide_eq_true;split at q6<;>omega
     . have h2:¬ 0<szSl x.2.2:=dec_f h2
       rw[q1m] at h2
       rcases h with ⟨q,q2,_⟩ | ⟨q1,_⟩
       . exact decide_eq_decide.2 (by rw[q2])
       . exact absurd q1 h2
 . intro k hk
   refine q00.2 ⟨fun h2=>?_,fun h2=>hk _ ?_⟩
   . have h2:=q1m.1 (dec_t h2)
     rcases h with ⟨q,_⟩ | ⟨q1,q2,q3,q4,q5,q6⟩
     . exact absurd q h2
     . refine q00.2 ⟨fun h3=>hk _ ?_,fun h3=>hk _ ?_⟩
       . rw[if_pos h3] at q6
         have:decide (n<0)=true:=decide_eq_true (by omega)
         rw[this]
       . rw[if_neg (by rw[h3];simp)] at q6
         have e1:decide (n<0)=false:=decide_eq_false (by omega)
         have e2:decide (x.1<0)=false:=decide_eq_false (by omega)
         rw[e1,e2]
   . have h2:¬ 0<szSl x.2.2:=dec_f h2
     rw[q1m] at h2
     rcases h with ⟨q,q2,_⟩ | ⟨q1,_⟩
     . show (decide (x.1<0),x)=_
       rw[q2]
     . exact absurd q1 h2
theorem q2F {x:Int×Bool×Option (List Int)} {n:Int} (h:RIV x n):callV Pg q1s [⟨tRI,x⟩] tRI fun r=>RIV r (-n):=by
 refine qar x (RIV_ex _) (joinR (fun p=>RIV p (-n)) (fun p hp=>hp) ?_)
 intro k hk
 refine q00.2 ⟨fun h2=>hk _ ?_,fun h2=>hk _ ?_⟩
 . have h2:=q1m.1 (dec_t h2)
   rcases h with ⟨q,_⟩ | ⟨q1,q2,q3,q4,q5,q6⟩
   . exact absurd q h2
   . refine .inr ⟨q1,q2,q3,q4,?_,?_⟩
     . show IntKind.wrap IntKind.i64 (0 - x.1)=0;rw[q5];rfl
     . show -n=if notB x.2.1=true then _ else _
       cases hx:x.2.1<;>rw[hx] at q6<;>simp[notB] at q6 ⊢<;>omega
 . have h2:¬ 0<szSl x.2.2:=dec_f h2
   rw[q1m] at h2
   rcases h with ⟨q,q2,q3,q4⟩ | ⟨q1,_⟩
   . refine .inl ⟨q,?_,by omega,by omega⟩
     show IntKind.wrap IntKind.i64 (0 - x.1) = -n
     rw[q2,wi64 (by omega) (by omega)];omega
   . exact absurd q1 h2
theorem r_Abs {x:Int×Bool×Option (List Int)} {n:Int} (h:RIV x n):callV Pg q4v [⟨tRI,x⟩] tRI fun r=>RIV r n.natAbs:=by
 refine qao x (RIV_ex _) ((q0B h).mono ?_)
 rintro _ rfl
 refine q00.2 ⟨fun hb=>?_,fun hb=>?_⟩
 . have hb:sgn n<0:=dec_t hb
   have:n<0:=by rcases sgn3 n with ⟨e,_⟩ | ⟨e,_⟩ | ⟨e,_⟩<;>omega
   refine (q2F h).mono fun r hr=>?_
   rw[show (n.natAbs:Int) = -n by omega];exact hr
 . have hb:¬ sgn n<0:=dec_f hb
   have:¬ n<0:=by rcases sgn3 n with ⟨e,_⟩ | ⟨e,_⟩ | ⟨e,_⟩<;>omega
   rw[show (n.natAbs:Int)=n by omega];exact h
def ListOf (n:Int) (r:Option (List Int)):Prop:=Dig (r.getD [])/\Trm (r.getD [])/\nv (r.getD [])=n.natAbs
theorem q0f {l:Option (List Int)} {x:Int}:(appL l (lst (some [x]))).getD []=l.getD [] ++ [x]:=by cases l<;>rfl
theorem q21 {x:Int×Bool×Option (List Int)} {n:Int} (h:RIV x n):callV Pg q15 [⟨tRI,x⟩] tL fun r=>ListOf n r:=by
 refine qaw x ?_ (q00.2 ⟨fun h2=>?_,fun h2=>?_⟩)
 . obtain⟨l,q1,q2,q3⟩:=nv_ex (n.natAbs+1) n.natAbs (by omega)
   exact⟨some l,q1,q2,q3⟩
 . have h2:=q1m.1 (dec_t h2)
   rcases h with ⟨q,_⟩ | ⟨q1,q2,q3,q4,q5,q6⟩
   . exact absurd q h2
   . exact⟨q2,q3,by split at q6<;>omega⟩
 . have h2:¬ 0<szSl x.2.2:=dec_f h2
   rw[q1m] at h2
   rcases h with ⟨q,q2,q3,q4⟩ | ⟨q1,_⟩
   case inr=>exact absurd q1 h2
   have em:maxI x.1 (IntKind.wrap IntKind.i64 (0 - x.1))=n.natAbs:=by
    rw[q2,wi64 (by omega) (by omega),maxI];split<;>omega
   rw[em]
   refine loopE (fun p=>0<=p.1/\p.1<2305843009213693952/\Dig (p.2.getD [])/\nv (p.2.getD [])+1073741824 ^ (p.2.getD []).length*p.1=n.natAbs/\(p.1=0->Trm (p.2.getD []))) (fun p=>p.1.toNat) ⟨by omega,by omega,Dig.nil,by simp[nv],fun _ d hd=>by simp at hd⟩ ?_
   rintro⟨m,o⟩ ⟨m0,m1,hd,hv,ht⟩
   dsimp only at m0 m1 hd hv ht ⊢
   refine q00.2 ⟨fun h3=>?_,fun h3=>?_⟩
   . have h3:0<m:=dec_t h3
     have hlen:(o.getD []).length<=2:=by
      rcases Nat.lt_or_ge 2 (o.getD []).length with hl | hl
      . exfalso
        have h4:=pow_monoB (show 3<=(o.getD []).length by omega)
        have h5:(1073741824:Int) ^ (o.getD []).length*1<=1073741824 ^ (o.getD []).length*m:=Int.mul_le_mul_of_nonneg_left (by omega) (by have:=pow_posB (o.getD []).length;omega)
        have h6:=nv_nonneg hd
        have:(1073741824:Int) ^ 3=1237940039285380274899124224:=by decide
        omega
      . exact hl
     rw[Int.tdiv_eq_ediv_of_nonneg m0,Int.tmod_eq_emod_of_nonneg m0,wi64 (by omega) (by omega)]
     refine⟨by decide,?_,by decide,⟨by omega,by omega,?_,?_,?_⟩,by omega⟩
     . show ((o.getD []).length+1)*8<=140737488355328;omega
     . rw[q0f];exact hd.app (Dig.cons (by omega) (by omega) Dig.nil)
     . rw[q0f,q0j,List.length_append,List.length_singleton,Int.pow_succ,<-hv]
       have:=Int.emod_add_mul_ediv m 1073741824
       generalize m % 1073741824=u at *
       generalize m / 1073741824=v at *
       generalize (1073741824:Int) ^ (o.getD []).length=K
       rw[<-this];grind
     . intro e d hd2
       rw[q0f] at hd2
       simp at hd2;omega
   . have h3:¬ 0<m:=dec_f h3
     have:m=0:=by omega
     subst this
     exact⟨hd,ht rfl,by rw[<-hv];simp⟩
end Go.Proofs.Pf.B
namespace Go.Proofs.Pf.B
open Go Go.VM
def sg (b:Bool) (n:Int):Int:=if b=true then -n else n
theorem q1f {b:Option (List Int)}:(b.map trim).getD []=trim (b.getD []):=by cases b<;>rfl
theorem q6t {l:List Int} (h:Dig l) (k:Nat):0<=nv (l.drop k)/\nv (l.drop k)<=nv l:=by
 have h1:=nv_nonneg (h.drop k)
 have h2:=(take_lt h k).1
 have h3:=q0c l k
 have h4:=pow_posB k
 have h5:1*nv (l.drop k)<=1073741824 ^ k*nv (l.drop k):=Int.mul_le_mul_of_nonneg_right (by omega) h1
 omega
theorem three {t:List Int} (hd:Dig t) (ht:Trm t):(3<t.length->2305843009213693952<=nv t)/\(t.length=3->(2<=t.getD 2 0↔2305843009213693952<=nv t))/\(t.length<3->nv t<2305843009213693952):=by
 refine⟨fun h=>?_,fun h=>?_,fun h=>?_⟩
 . have h1:=ht.ge hd (by rintro rfl;simp at h)
   have h2:=pow_monoB (show 3<=t.length - 1 by omega)
   have:(1073741824:Int) ^ 3=1237940039285380274899124224:=by decide
   omega
 . have h1:=take_lt hd 2
   have h2:=q0c t 2
   rw[q0m t 2,List.drop_of_length_le (by omega)] at h2
   have:(1073741824:Int) ^ 2=1152921504606846976:=by decide
   rw[this] at h1 h2
   simp only[nv] at h2
   constructor<;>intro<;>omega
 . have h1:=nv_lt hd
   have h2:=pow_monoB (show t.length<=2 by omega)
   have:(1073741824:Int) ^ 2=1152921504606846976:=by decide
   omega
theorem q22 {c:Bool} {b:Option (List Int)} (hl:Dig (b.getD [])) (hlen:(b.getD []).length<=1099511627776):
 callV Pg q16 [⟨.bool,c⟩,⟨tL,b⟩] tRI fun r=>RIV r (sg c (nv (b.getD []))):=by
 have hd:=hl.trim
 have ht:=trm_trim (b.getD [])
 have hv:=q0S (b.getD [])
 have hn:=nv_nonneg hl
 have hll:=q56 (b.getD [])
 obtain⟨g1,g2,g3⟩:=three hd ht
 refine qaK c b (RIV_ex _) (loopE (fun p=>p.1=c/\p.2.1.map trim=b.map trim/\(p.2.1.getD []).length<=(b.getD []).length) (fun p=>(p.2.1.getD []).length) ⟨rfl,rfl,Nat.le_refl _⟩ ?_)
 rintro⟨c',p,j1,j2,j3⟩ ⟨hc',h1,h2⟩
 obtain rfl:c=c':=hc'.symm
 dsimp only at h1 h2 ⊢
 refine joinR (fun q=>∃ e:Bool,q=(c,p,e,j1,j2,j3)/\(e=true->∃ l',p=some (l' ++ [0]))/\(e=false->p=b.map trim)) ?_ ?_
 . rintro _ ⟨e,rfl,hc1,hc2⟩
   refine q00.2 ⟨fun h=>?_,fun h=>?_⟩
   . obtain⟨l',rfl⟩:=hc1 h
     simp only[szSl,Option.getD_some,List.length_append,List.length_cons,List.length_nil] at h2 ⊢
     rw[wi64 (by omega) (by omega)]
     have e:(((l'.length+(0+1):Nat):Int) - 1).toNat=l'.length:=by omega
     refine⟨⟨by omega,by omega,by simp;omega⟩,?_⟩
     simp only[slcS,Option.map_some,e]
     have e2:((l' ++ [0]).take l'.length).drop (0:Int).toNat=l':=by simp
     rw[e2]
     refine⟨⟨by trivial,?_,by simp only[Option.getD_some];omega⟩,by simp⟩
     rw[<-h1];simp[q2e]
   . obtain rfl:=hc2 h
     have et:(b.map trim).getD []=trim (b.getD []):=q1f
     refine joinR (fun q=>∃ e:Bool,q=(c,b.map trim,e,j1,j2,j3)/\(e=true↔2305843009213693952<=nv (trim (b.getD [])))) ?_ ?_
     . rintro _ ⟨e,rfl,he⟩
       refine q00.2 ⟨fun h=>?_,fun h=>?_⟩
       . have h5:=he.1 h
         refine .inr ⟨?_,?_⟩
         . show (b.map trim).getD []≠[]
           rw[et];intro e;rw[e] at h5;simp[nv] at h5
         . show Dig ((b.map trim).getD [])/\Trm ((b.map trim).getD [])/\2305843009213693952<=nv ((b.map trim).getD [])/\(0:Int)=0/\sg c (nv (b.getD []))=if c=true then -nv ((b.map trim).getD []) else nv ((b.map trim).getD [])
           rw[et]
           exact⟨hd,ht,h5,rfl,by rw[hv];rfl⟩
       . have h5:¬ 2305843009213693952<=nv (trim (b.getD [])):=fun h6=>by have:=he.2 h6;dsimp only at h;rw[h] at this;simp at this
         refine loopE (fun q=>∃ k:Nat,q=(c,b.map trim,nv ((trim (b.getD [])).drop k),(k:Int) - 1,j1,j2,j3)/\k<=(trim (b.getD [])).length) (fun q=>(q.2.2.2.1+1).toNat) ⟨(trim (b.getD [])).length,?_,Nat.le_refl _⟩ ?_
         . simp only[szSl,et]
           rw[wi64 (by omega) (by omega),List.drop_length];rfl
         rintro _ ⟨k,rfl,hk⟩
         dsimp only
         refine q00.2 ⟨fun h=>?_,fun h=>?_⟩
         . have h:(0:Int)<=(k:Int) - 1:=dec_t h
           obtain⟨k,rfl⟩:∃ j,k=j+1:=⟨k - 1,by omega⟩
           have ek:((k+1:Nat):Int) - 1=(k:Int):=by omega
           have b1:=q6t hd (k+1)
           have b2:=q6t hd k
           have b3:=q0m (trim (b.getD [])) k
           have g:=hd.get k
           have e1:eltS (0:Int) (b.map trim) (k:Int)=(trim (b.getD [])).getD k 0:=by simp only[eltS,et,Int.toNat_natCast]
           rw[ek,e1,wi64 (x:=nv ((trim (b.getD [])).drop (k+1))*1073741824) (by omega) (by omega),wi64 (x:=nv ((trim (b.getD [])).drop (k+1))*1073741824+_) (by omega) (by omega),wi64 (x:=(k:Int) - 1) (by omega) (by omega)]
           refine⟨⟨by omega,by rw[et];omega⟩,⟨k,?_,by omega⟩,by omega⟩
           rw[b3,Int.mul_comm,Int.add_comm]
         . have h:¬ (0:Int)<=(k:Int) - 1:=dec_f h
           obtain rfl:k=0:=by omega
           simp only[List.drop_zero,hv] at h5 ⊢
           refine joinR (fun q=>q.1=sg c (nv (b.getD []))) (fun q hq=>?_) ?_
           . exact RIV.small hq (by unfold sg;split<;>omega) (by unfold sg;split<;>omega)
           . intro k hk
             refine q00.2 ⟨fun h=>hk _ ?_,fun h=>hk _ ?_⟩
             . have h:c=true:=h
               show IntKind.wrap IntKind.i64 (0 - nv (b.getD []))=_
               rw[wi64 (by omega) (by omega),sg,if_pos h];omega
             . have h:c=false:=h
               show nv (b.getD [])=_
               rw[sg,h];simp
     . intro k hk
       dsimp only
       refine q00.2 ⟨fun h=>hk _ ⟨true,rfl,?_⟩,fun h=>q00.2 ⟨fun h2=>?_,fun h2=>hk _ ⟨false,rfl,?_⟩⟩⟩
       . have h:=dec_t h
         simp only[szSl,et] at h
         have:=g1 (by omega)
         simp[this]
       . have h2:=dec_t h2
         simp only[szSl,et] at h2
         refine⟨⟨by omega,by rw[et];omega⟩,hk _ ⟨_,rfl,?_⟩⟩
         have e1:eltS (0:Int) (b.map trim) (2:Int)=(trim (b.getD [])).getD 2 0:=by simp only[eltS,et];rfl
         rw[e1,decide_eq_true_eq]
         exact g2 (by omega)
       . have h:=dec_f h
         have h2:=dec_f h2
         simp only[szSl,et] at h h2
         have:=g3 (by omega)
         simp;omega
 . intro k hk
   refine q00.2 ⟨fun hb=>?_,fun hb=>hk _ ⟨false,rfl,fun h=>by simp at h,fun _=>?_⟩⟩
   . have hb:=of_decide_eq_true hb
     simp only[szSl] at hb ⊢
     rw[wi64 (by omega) (by omega)]
     cases p with
     | none=>simp at hb
     | some l=>
      simp only[Option.getD_some] at *
      rcases List.eq_nil_or_concat l with rfl | ⟨l',x,rfl⟩
      . simp at hb
      . simp only[List.concat_eq_append] at *
        have e:(((l' ++ [x]).length:Int) - 1).toNat=l'.length:=by simp
        have ex:eltS (0:Int) (some (l' ++ [x])) (((l' ++ [x]).length:Int) - 1)=x:=by simp only[eltS,Option.getD_some,e];simp[List.getD]
        refine⟨⟨by omega,by simp only[Option.getD_some];omega⟩,hk _ ⟨_,rfl,fun h=>?_,fun h=>?_⟩⟩
        . rw[ex] at h
          have h:x=0:=of_decide_eq_true h
          exact⟨l',by rw[h]⟩
        . rw[ex] at h
          have h:x≠0:=of_decide_eq_false h
          rw[<-h1];simp[q2d _ _ h]
   . have hb:=of_decide_eq_false hb
     cases p with
     | none=>simpa using h1
     | some l=>
      simp only[szSl,Option.getD_some] at hb
      have:l=[]:=by apply List.eq_nil_of_length_eq_zero;omega
      subst this
      rw[<-h1];rfl
theorem absI {a:Int} (h1:-9223372036854775808<a) (h2:a<9223372036854775808):maxI a (IntKind.wrap IntKind.i64 (0 - a))=a.natAbs:=by
 rw[wi64 (by omega) (by omega),maxI];split<;>omega
theorem q5H (a:Int):((a.tmod 1073741824).natAbs:Int)=(a.natAbs:Int) % 1073741824/\((a.tdiv 1073741824).natAbs:Int)=(a.natAbs:Int) / 1073741824:=by
 rw[Int.natAbs_tmod,Int.natAbs_tdiv];exact⟨by simp,by show ((a.natAbs / 1073741824:Nat):Int)=_;simp⟩
theorem r_Of {n:Int} (n1:-9223372036854775808<=n) (n2:n<9223372036854775808):callV Pg q0F [⟨tI,n⟩] tRI fun r=>RIV r n:=by
 refine qay n (RIV_ex _) (joinR (fun p=>∃ c:Bool,p=(n,c,(0:Int),false,none)/\(c=true ↔ -2305843009213693952<n/\n<2305843009213693952)) ?_ ?_)
 . rintro _ ⟨c,rfl,hc⟩
   refine q00.2 ⟨fun h=>?_,fun h=>?_⟩
   . obtain⟨q1,q2⟩:=hc.1 h
     exact RIV.small rfl q1 q2
   . have hbig:¬ (-2305843009213693952<n/\n<2305843009213693952):=fun h3=>by have:=hc.2 h3;(try dsimp only at h);rw[h] at this;simp at this
     have t0:=q5H n
     have a0:n.tmod 1073741824=n.tmod 1073741824:=rfl
     refine⟨by decide,by decide,?_⟩
     dsimp only
     rw[absI (by omega) (by omega),wi64 (by omega) (by omega)]
     refine loopE (fun p=>p.1=n/\(p.2.1.natAbs:Int)<9223372036854775808/\Dig (p.2.2.2.getD [])/\p.2.2.2.getD []≠[]/\nv (p.2.2.2.getD [])+1073741824 ^ (p.2.2.2.getD []).length*p.2.1.natAbs=n.natAbs/\(p.2.1=0->Trm (p.2.2.2.getD []))) (fun p=>p.2.1.natAbs) ⟨rfl,by dsimp only;omega,?_,by simp,?_,?_⟩ ?_
     . exact Dig.cons (by omega) (by omega) Dig.nil
     . simp only[Option.getD_some,nv,List.length_singleton,Int.pow_one,Int.mul_zero,Int.add_zero];omega
     . intro e d hd
       simp at hd
       have e:n.tdiv 1073741824=0:=e
       have:((n.tdiv 1073741824).natAbs:Int)=0:=by rw[e];rfl
       omega
     rintro⟨n',m,⟨k1,k2,k3⟩,o⟩ ⟨hn',m1,hd,hne,hv,ht⟩
     obtain rfl:n=n':=hn'.symm
     dsimp only at m1 hd hne hv ht ⊢
     refine q00.2 ⟨fun h3=>?_,fun h3=>?_⟩
     . have h3:¬ m=0:=not_t h3
       have t1:=q5H m
       have hlen:(o.getD []).length<=2:=by
        rcases Nat.lt_or_ge 2 (o.getD []).length with hl | hl
        . exfalso
          have h4:=pow_monoB (show 3<=(o.getD []).length by omega)
          have h5:(1073741824:Int) ^ (o.getD []).length*1<=1073741824 ^ (o.getD []).length*m.natAbs:=Int.mul_le_mul_of_nonneg_left (by omega) (by have:=pow_posB (o.getD []).length;omega)
          have h6:=nv_nonneg hd
          have:(1073741824:Int) ^ 3=1237940039285380274899124224:=by decide
          omega
        . exact hl
       rw[absI (by omega) (by omega),wi64 (by omega) (by omega)]
       refine⟨by decide,by decide,?_,⟨rfl,by omega,?_,?_,?_,?_⟩,by omega⟩
       . show ((o.getD []).length+1)*8<=140737488355328;omega
       . rw[q0f];exact hd.app (Dig.cons (by omega) (by omega) Dig.nil)
       . rw[q0f];simp
       . rw[q0f,q0j,List.length_append,List.length_singleton,Int.pow_succ,<-hv,t1.1,t1.2]
         have:=Int.emod_add_mul_ediv (m.natAbs:Int) 1073741824
         generalize (m.natAbs:Int) % 1073741824=u at *
         generalize (m.natAbs:Int) / 1073741824=v at *
         generalize (1073741824:Int) ^ (o.getD []).length=K
         rw[<-this];grind
       . intro e d hd2
         rw[q0f,List.getLast?_concat] at hd2
         have:((m.tdiv 1073741824).natAbs:Int)=0:=by rw[e];rfl
         simp at hd2;omega
     . have h3:m=0:=not_f h3
       subst h3
       simp only[Int.natAbs_zero,Int.natCast_zero,Int.mul_zero,Int.add_zero] at hv
       refine .inr ⟨hne,hd,ht rfl,by show 2305843009213693952<=nv (o.getD []);omega,rfl,?_⟩
       show n=if decide (n<0)=true then -nv (o.getD []) else nv (o.getD [])
       rw[hv]
       by_cases hn0:n<0<;>simp[hn0]<;>omega
 . intro k hk
   refine q00.2 ⟨fun h=>hk _ ⟨_,rfl,?_⟩,fun h=>hk _ ⟨false,rfl,?_⟩⟩
   . have h:-2305843009213693952<n:=dec_t h
     rw[decide_eq_true_eq]
     exact⟨fun h2=>⟨h,h2⟩,fun h2=>h2.2⟩
   . have h:¬ -2305843009213693952<n:=dec_f h
     simp;omega
theorem q1d {l:Option (List Int)} {i:Nat} (h:¬ i<(l.getD []).length):(l.getD []).getD i 0=0:=by
 simp[List.getD,Nat.le_of_not_lt h]
theorem q0d (l:List Int) (i:Nat):nv (l.take (i+1))=nv (l.take i)+1073741824 ^ i*l.getD i 0:=by
 rcases Nat.lt_or_ge i l.length with h | h
 . exact q1V l i h
 . rw[List.take_of_length_le (by omega),List.take_of_length_le h]
   have:l.getD i 0=0:=by simp[List.getD,h]
   rw[this];omega
def SumOf (a b:List Int) (r:Option (List Int)):Prop:=Dig (r.getD [])/\nv (r.getD [])=nv a+nv b/\(r.getD []).length<=max a.length b.length+1
theorem plus_ex {a b:List Int} (ha:Dig a) (hb:Dig b):∃ r,SumOf a b r:=by
 have h1:=nv_lt ha
 have h2:=nv_lt hb
 have h3:=nv_nonneg ha
 have h4:=nv_nonneg hb
 have h5:=pow_monoB (show a.length<=max a.length b.length by omega)
 have h6:=pow_monoB (show b.length<=max a.length b.length by omega)
 obtain⟨l,q1,q2,q3⟩:=q0P (max a.length b.length+1) (nv a+nv b) (by omega) (by rw[Int.pow_succ];omega)
 exact⟨some l,q1,q2,by simp only[Option.getD_some];omega⟩
theorem r_sum {a b:Option (List Int)} (ha:Dig (a.getD [])) (hb:Dig (b.getD [])) (la:(a.getD []).length<=1099511627776) (lb:(b.getD []).length<=1099511627776):
 callV Pg q4E [⟨tL,a⟩,⟨tL,b⟩] tL fun r=>SumOf (a.getD []) (b.getD []) r:=by
 refine qaN a b (plus_ex ha hb) ?_
 refine loopE (fun p=>∃ (k:Nat) (c:Int) (o:Option (List Int)),p=(a,b,c,(k:Int),o)/\k<=max (a.getD []).length (b.getD []).length+1/\0<=c/\c<=1/\(k=max (a.getD []).length (b.getD []).length+1->c=0)/\Dig (o.getD [])/\(o.getD []).length=k/\nv (o.getD [])+1073741824 ^ k*c=nv ((a.getD []).take k)+nv ((b.getD []).take k))
  (fun p=>(max (a.getD []).length (b.getD []).length+2 - p.2.2.2.1.toNat)) ⟨0,0,none,rfl,by omega,by omega,by omega,fun _=>rfl,Dig.nil,rfl,by simp[nv]⟩ ?_
 rintro _ ⟨k,c,o,rfl,hk,c0,c1,cz,hd,hl,hv⟩
 dsimp only
 have ga:=ha.get k
 have gb:=hb.get k
 refine joinR (fun q=>∃ e:Bool,q=(a,b,c,(k:Int),e,o)/\(e=true↔(k<(a.getD []).length∨k<(b.getD []).length∨0<c))) ?_ ?_
 . rintro _ ⟨e,rfl,he⟩
   refine q00.2 ⟨fun h=>?_,fun h=>?_⟩
   . have h:=he.1 h
     refine joinR (fun q=>q=(a,b,c+(a.getD []).getD k 0,(k:Int),o)) ?_ ?_
     . rintro _ rfl
       refine joinR (fun q=>q=(a,b,c+(a.getD []).getD k 0+(b.getD []).getD k 0,(k:Int),o)) ?_ ?_
       . rintro _ rfl
         dsimp only
         have hk':k<=max (a.getD []).length (b.getD []).length:=by
          rcases Nat.lt_or_ge (max (a.getD []).length (b.getD []).length) k with hh | hh
          . have:=cz (by omega);omega
          . exact hh
         rw[Int.tdiv_eq_ediv_of_nonneg (by omega),Int.tmod_eq_emod_of_nonneg (by omega),wi64 (by omega) (by omega),wi64 (x:=(k:Int)+1) (by omega) (by omega)]
         refine⟨by decide,?_,by decide,⟨k+1,_,_,rfl,by omega,by omega,by omega,?_,?_,?_,?_⟩,by omega⟩
         . show ((o.getD []).length+1)*8<=140737488355328;omega
         . intro hkk
           have:(a.getD []).getD k 0=0:=q1d (by omega)
           have:(b.getD []).getD k 0=0:=q1d (by omega)
           omega
         . rw[q0f];exact hd.app (Dig.cons (by omega) (by omega) Dig.nil)
         . rw[q0f];simp[hl]
         . rw[q0f,q0j,q0d,q0d,hl,Int.pow_succ]
           have:=Int.emod_add_mul_ediv (c+(a.getD []).getD k 0+(b.getD []).getD k 0) 1073741824
           generalize (c+(a.getD []).getD k 0+(b.getD []).getD k 0) % 1073741824=x at *
           generalize (c+(a.getD []).getD k 0+(b.getD []).getD k 0) / 1073741824=y at *
           generalize (a.getD []).getD k 0=u at *
           generalize (b.getD []).getD k 0=v at *
           grind
       . intro k' hk'
         refine q00.2 ⟨fun h3=>?_,fun h3=>hk' _ ?_⟩
         . have h3:=dec_t h3
           simp only[szSl] at h3
           refine⟨⟨by dsimp only;omega,by dsimp only;omega⟩,hk' _ ?_⟩
           simp only[eltS,Int.toNat_natCast]
           rw[wi64 (by omega) (by omega)]
         . have h3:=dec_f h3
           simp only[szSl] at h3
           have:(b.getD []).getD k 0=0:=q1d (by omega)
           rw[this,Int.add_zero]
     . intro k' hk'
       refine q00.2 ⟨fun h3=>?_,fun h3=>hk' _ ?_⟩
       . have h3:=dec_t h3
         simp only[szSl] at h3
         refine⟨⟨by dsimp only;omega,by dsimp only;omega⟩,hk' _ ?_⟩
         simp only[eltS,Int.toNat_natCast]
         rw[wi64 (by omega) (by omega)]
       . have h3:=dec_f h3
         simp only[szSl] at h3
         have:(a.getD []).getD k 0=0:=q1d (by omega)
         rw[this,Int.add_zero]
   . have h:¬ (k<(a.getD []).length∨k<(b.getD []).length∨0<c):=fun h3=>by have:=he.2 h3;dsimp only at h;rw[h] at this;simp at this
     have:c=0:=by omega
     subst this
     rw[List.take_of_length_le (by omega),List.take_of_length_le (by omega)] at hv
     exact⟨hd,by rw[<-hv];simp,by show (o.getD []).length<=_;omega⟩
 . intro k' hk'
   refine q00.2 ⟨fun h=>hk' _ ⟨true,rfl,?_⟩,fun h=>q00.2 ⟨fun h2=>hk' _ ⟨true,rfl,?_⟩,fun h2=>hk' _ ⟨_,rfl,?_⟩⟩⟩
   . have h:=dec_t h
     simp only[szSl] at h
     simp;omega
   . have h2:=dec_t h2
     simp only[szSl] at h2
     simp;omega
   . have h:=dec_f h
     have h2:=dec_f h2
     simp only[szSl] at h h2
     rw[decide_eq_true_eq];omega
end Go.Proofs.Pf.B
namespace Go.Proofs.Pf.B
open Go Go.VM
def DiffOf (a b:List Int) (r:Option (List Int)):Prop:=Dig (r.getD [])/\nv (r.getD [])=nv a - nv b/\(r.getD []).length=a.length
theorem diff_ex {a b:List Int} (ha:Dig a) (hb:Dig b) (hle:nv b<=nv a):∃ r,DiffOf a b r:=by
 have h1:=nv_lt ha
 have h2:=nv_nonneg hb
 obtain⟨l,q1,q2,q3⟩:=q0P a.length (nv a - nv b) (by omega) (by omega)
 exact⟨some l,q1,q2,q3⟩
theorem q5m {a b:Option (List Int)} (ha:Dig (a.getD [])) (hb:Dig (b.getD [])) (hle:nv (b.getD [])<=nv (a.getD [])) (hlen:(b.getD []).length<=(a.getD []).length) (la:(a.getD []).length<=1099511627776):
 ownV Pg q2s [⟨tL,a⟩,⟨tL,b⟩] tI fun r=>DiffOf (a.getD []) (b.getD []) r:=by
 refine qaI a b (diff_ex ha hb hle) ?_
 refine loopE (fun p=>∃ (k:Nat) (c:Int) (o:Option (List Int)),p=(a,b,c,((a.getD []).length:Int),(k:Int),o)/\k<=(a.getD []).length /\ -1<=c/\c<=0/\Dig (o.getD [])/\(o.getD []).length=k/\nv (o.getD [])+1073741824 ^ k*c=nv ((a.getD []).take k) - nv ((b.getD []).take k))
  (fun p=>((a.getD []).length - p.2.2.2.2.1.toNat)) ⟨0,0,none,rfl,by omega,by omega,by omega,Dig.nil,rfl,by simp[nv]⟩ ?_
 rintro _ ⟨k,c,o,rfl,hk,c0,c1,hd,hl,hv⟩
 dsimp only
 have ga:=ha.get k
 have gb:=hb.get k
 refine q00.2 ⟨fun h=>?_,fun h=>?_⟩
 . have h:(k:Int)<((a.getD []).length:Int):=dec_t h
   have ea:eltS (0:Int) a (k:Int)=(a.getD []).getD k 0:=by simp only[eltS,Int.toNat_natCast]
   have eb:eltS (0:Int) b (k:Int)=(b.getD []).getD k 0:=by simp only[eltS,Int.toNat_natCast]
   rw[ea,eb,wi64 (x:=c+(a.getD []).getD k 0) (by omega) (by omega),wi64 (x:=c+(a.getD []).getD k 0 - (b.getD []).getD k 0) (by omega) (by omega)]
   refine⟨⟨by omega,by omega⟩,?_⟩
   have step:∀ (x c':Int),0<=x->x<1073741824->-1<=c'->c'<=0->x+1073741824*c'=c+(a.getD []).getD k 0 - (b.getD []).getD k 0->
    appC 8 o (lst (some [x]))/\(∃ (k1:Nat) (c1:Int) (o1:Option (List Int)),(a,b,c',((a.getD []).length:Int),IntKind.wrap IntKind.i64 ((k:Int)+1),appL o (lst (some [x])))=(a,b,c1,((a.getD []).length:Int),(k1:Int),o1)/\k1<=(a.getD []).length /\ -1<=c1/\c1<=0/\Dig (o1.getD [])/\(o1.getD []).length=k1/\nv (o1.getD [])+1073741824 ^ k1*c1=nv ((a.getD []).take k1) - nv ((b.getD []).take k1)) /\
     (a.getD []).length - (IntKind.wrap IntKind.i64 ((k:Int)+1)).toNat<(a.getD []).length - ((k:Int)).toNat:=by
    intro x c' x0 x1 y0 y1 e
    rw[wi64 (x:=(k:Int)+1) (by omega) (by omega)]
    refine⟨?_,⟨k+1,c',_,rfl,by omega,y0,y1,?_,?_,?_⟩,by omega⟩
    . show ((o.getD []).length+1)*8<=140737488355328;omega
    . rw[q0f];exact hd.app (Dig.cons x0 x1 Dig.nil)
    . rw[q0f];simp[hl]
    . rw[q0f,q0j,q0d,q0d,hl,Int.pow_succ]
      generalize (a.getD []).getD k 0=u at *
      generalize (b.getD []).getD k 0=v at *
      have:x=c+u - v - 1073741824*c':=by omega
      rw[this];grind
   refine joinR (fun q=>q=(a,b,c+(a.getD []).getD k 0 - (b.getD []).getD k 0,((a.getD []).length:Int),(k:Int),o)) ?_ ?_
   . rintro _ rfl
     dsimp only
     refine joinR (fun q=>∃ x c':Int,q=(a,b,c',((a.getD []).length:Int),(k:Int),appL o (lst (some [x])))/\0<=x/\x<1073741824 /\ -1<=c'/\c'<=0/\x+1073741824*c'=c+(a.getD []).getD k 0 - (b.getD []).getD k 0) ?_ ?_
     . rintro _ ⟨x,c',rfl,x0,x1,y0,y1,e⟩
       exact (step x c' x0 x1 y0 y1 e).2
     . intro k' hk'
       have hap:∀ x:Int,appC 8 o (lst (some [x])):=fun x=>by show ((o.getD []).length+1)*8<=140737488355328;omega
       refine q00.2 ⟨fun h3=>⟨hap _,hk' _ ⟨_,_,rfl,?_,?_,?_,?_,?_⟩⟩,fun h3=>⟨hap _,hk' _ ⟨_,_,rfl,?_,?_,?_,?_,?_⟩⟩⟩
       all_goals first
        | have h3:c+(a.getD []).getD k 0 - (b.getD []).getD k 0<0:=dec_t h3
        | have h3:¬ c+(a.getD []).getD k 0 - (b.getD []).getD k 0<0:=dec_f h3
       all_goals try rw[wi64 (by omega) (by omega)]
       all_goals omega
   . intro k' hk'
     refine q00.2 ⟨fun h3=>?_,fun h3=>hk' _ ?_⟩
     . have h3:=dec_t h3
       simp only[szSl] at h3
       exact⟨⟨by omega,by omega⟩,hk' _ rfl⟩
     . have h3:=dec_f h3
       simp only[szSl] at h3
       have:(b.getD []).getD k 0=0:=q1d (by omega)
       rw[this,Int.sub_zero]
 . have h:¬ (k:Int)<((a.getD []).length:Int):=dec_f h
   have hk':k=(a.getD []).length:=by omega
   rw[List.take_of_length_le (by omega),List.take_of_length_le (by omega)] at hv
   have h1:=nv_lt hd
   rw[hl] at h1
   rcases (show c=0∨c = -1 by omega) with rfl | rfl
   . exact⟨hd,by rw[<-hv];simp,by rw[hl,hk']⟩
   . exfalso
     have:=nv_nonneg hd
     omega
def ScaleOf (a:List Int) (f:Int) (r:Option (List Int)):Prop:=Dig (r.getD [])/\nv (r.getD [])=nv a*f/\(r.getD []).length=a.length+1/\r.isSome=true
theorem scale_ex {a:List Int} {f:Int} (ha:Dig a) (f0:0<=f) (f1:f<1073741824):∃ r,ScaleOf a f r:=by
 have h1:=nv_lt ha
 have h2:=nv_nonneg ha
 obtain⟨l,q1,q2,q3⟩:=q0P (a.length+1) (nv a*f) (Int.mul_nonneg h2 f0) (by
  rw[Int.pow_succ]
  exact Int.mul_lt_mul' (Int.le_of_lt h1) f1 f0 (pow_posB _))
 exact⟨some l,q1,q2,q3,rfl⟩
theorem dig_mul {d f c:Int} (d0:0<=d) (d1:d<1073741824) (f0:0<=f) (f1:f<1073741824) (c0:0<=c) (c1:c<1073741824):0<=d*f/\d*f+c<1152921504606846976:=by
 refine⟨Int.mul_nonneg d0 f0,?_⟩
 have:d*f<=1073741823*1073741823:=Int.mul_le_mul (by omega) (by omega) f0 (by omega)
 omega
theorem q5n {a:Option (List Int)} {f:Int} (ha:Dig (a.getD [])) (f0:0<=f) (f1:f<1073741824) (la:(a.getD []).length<=1099511627776):
 ownV Pg q2t [⟨tL,a⟩,⟨tI,f⟩] tI fun r=>ScaleOf (a.getD []) f r:=by
 refine qaL a f (scale_ex ha f0 f1) ?_
 refine loopE (fun p=>∃ (k:Nat) (c:Int) (o:Option (List Int)),p=(f,c,a,((a.getD []).length:Int),(k:Int),o)/\k<=(a.getD []).length/\0<=c/\c<1073741824/\Dig (o.getD [])/\(o.getD []).length=k/\nv (o.getD [])+1073741824 ^ k*c=nv ((a.getD []).take k)*f)
  (fun p=>((a.getD []).length - p.2.2.2.2.1.toNat)) ⟨0,0,none,rfl,by omega,by omega,by omega,Dig.nil,rfl,by simp[nv]⟩ ?_
 rintro _ ⟨k,c,o,rfl,hk,c0,c1,hd,hl,hv⟩
 dsimp only
 have ga:=ha.get k
 have hm:=dig_mul ga.1 ga.2 f0 f1 c0 c1
 refine q00.2 ⟨fun h=>?_,fun h=>?_⟩
 . have h:(k:Int)<((a.getD []).length:Int):=dec_t h
   have ea:eltS (0:Int) a (k:Int)=(a.getD []).getD k 0:=by simp only[eltS,Int.toNat_natCast]
   rw[ea,wi64 (x:=(a.getD []).getD k 0*f) (by omega) (by omega),wi64 (x:=c+(a.getD []).getD k 0*f) (by omega) (by omega),Int.tdiv_eq_ediv_of_nonneg (by omega),Int.tmod_eq_emod_of_nonneg (by omega),wi64 (x:=(c+(a.getD []).getD k 0*f) / 1073741824) (by omega) (by omega),wi64 (x:=(k:Int)+1) (by omega) (by omega)]
   refine⟨⟨by omega,by omega⟩,by decide,?_,by decide,⟨k+1,_,_,rfl,by omega,by omega,by omega,?_,?_,?_⟩,by omega⟩
   . show ((o.getD []).length+1)*8<=140737488355328;omega
   . rw[q0f];exact hd.app (Dig.cons (by omega) (by omega) Dig.nil)
   . rw[q0f];simp[hl]
   . rw[q0f,q0j,q0d,hl,Int.pow_succ,Int.add_mul,<-hv]
     have:=Int.emod_add_mul_ediv (c+(a.getD []).getD k 0*f) 1073741824
     generalize (c+(a.getD []).getD k 0*f) % 1073741824=x at *
     generalize (c+(a.getD []).getD k 0*f) / 1073741824=y at *
     generalize (a.getD []).getD k 0=u at *
     have e:x=c+u*f - 1073741824*y:=by omega
     rw[e];grind
 . have h:¬ (k:Int)<((a.getD []).length:Int):=dec_f h
   have hk':k=(a.getD []).length:=by omega
   rw[List.take_of_length_le (by omega)] at hv
   refine⟨?_,?_,?_,?_,?_⟩
   . show ((o.getD []).length+1)*8<=140737488355328;omega
   . rw[q0f];exact hd.app (Dig.cons c0 c1 Dig.nil)
   . rw[q0f,q0j,hl,hv]
   . rw[q0f];simp[hl,hk']
   . cases o<;>rfl
def q3W (x:List Int) (y:Int) (r:Option (List Int)×Int×Unit):Prop:=Dig (r.1.getD [])/\nv (r.1.getD [])=nv x / y/\(r.1.getD []).length=x.length/\r.2.1=nv x % y
theorem q4U {l:List Int} {i:Nat} {x:Int} (h:i<l.length):(l.set i x).drop i=x :: l.drop (i+1):=by
 rw[List.drop_eq_getElem_cons (by simp;omega)]
 simp
 rw[List.drop_set_of_lt (by omega)]
theorem q6F {x:Option (List Int)} {y:Int} (hx:Dig (x.getD [])) (h0:0<y) (h1:y<1073741824) (hl:(x.getD []).length<=1099511627776):
 callV Pg q3l [⟨tL,x⟩,⟨tI,y⟩] (.tup (.pair tL (.pair tI .unit))) fun r=>q3W (x.getD []) y r:=by
 have hn:=nv_nonneg hx
 refine qaM x y ?_ ⟨by simp only[mkC,szSl];omega,?_⟩
 . have h2:=nv_lt hx
   have h3:nv (x.getD []) / y<=nv (x.getD []):=Int.ediv_le_self _ hn
   obtain⟨l,q1,q2,q3⟩:=q0P (x.getD []).length (nv (x.getD []) / y) (Int.ediv_nonneg hn (by omega)) (by omega)
   exact⟨(some l,nv (x.getD []) % y,()),q1,q2,q3,rfl⟩
 refine loopE (fun p=>∃ (k:Nat) (r:Int) (o:List Int),p=(x,y,r,(k:Int) - 1,some o)/\k<=(x.getD []).length/\0<=r/\r<y/\Dig o/\o.length=(x.getD []).length/\nv (o.drop k)*y+r=nv ((x.getD []).drop k))
  (fun p=>(p.2.2.2.1+1).toNat) ⟨(x.getD []).length,0,List.replicate (x.getD []).length 0,?_,Nat.le_refl _,by omega,h0,Dig.rep _,by simp,?_⟩ ?_
 . simp only[szSl,repS,Int.toNat_natCast];rw[wi64 (by omega) (by omega)]
 . rw[List.drop_of_length_le (by simp),List.drop_length];simp[nv]
 rintro _ ⟨k,r,o,rfl,hk,r0,r1,hd,hlo,hv⟩
 dsimp only
 refine q00.2 ⟨fun hb=>?_,fun hb=>?_⟩
 . have hb:(0:Int)<=(k:Int) - 1:=dec_t hb
   obtain⟨j,rfl⟩:∃ j,k=j+1:=⟨k - 1,by omega⟩
   have ek:((j+1:Nat):Int) - 1=(j:Int):=by omega
   have g:=hx.get j
   have ex:eltS (0:Int) x (j:Int)=(x.getD []).getD j 0:=by simp only[eltS,Int.toNat_natCast]
   have hz0:0<=r*1073741824+(x.getD []).getD j 0:=by omega
   have hz1:r*1073741824+(x.getD []).getD j 0<1152921504606846976:=by omega
   have hm:=Int.mul_ediv_add_emod (r*1073741824+(x.getD []).getD j 0) y
   have hr0:=Int.emod_nonneg (r*1073741824+(x.getD []).getD j 0) (show y≠0 by omega)
   have hr1:=Int.emod_lt_of_pos (r*1073741824+(x.getD []).getD j 0) h0
   have hq0:0<=(r*1073741824+(x.getD []).getD j 0) / y:=Int.ediv_nonneg hz0 (by omega)
   have hq1:(r*1073741824+(x.getD []).getD j 0) / y<1073741824:=by
    refine Int.ediv_lt_of_lt_mul h0 ?_
    have:(r+1)*1073741824<=y*1073741824:=by omega
    rw[Int.mul_comm 1073741824 y];omega
   rw[ek,ex,wi64 (x:=r*1073741824) (by omega) (by omega),wi64 (x:=r*1073741824+_) (by omega) (by omega),Int.tdiv_eq_ediv_of_nonneg hz0,Int.tmod_eq_emod_of_nonneg hz0,wi64 (x:=_ / y) (by omega) (by omega),wi64 (x:=(j:Int) - 1) (by omega) (by omega)]
   refine⟨⟨by omega,by omega⟩,by omega,by omega,⟨by omega,by simp only[Option.getD_some];omega⟩,⟨j,_,o.set j ((r*1073741824+(x.getD []).getD j 0) / y),rfl,by omega,hr0,hr1,hd.set j hq0 hq1,by simp[hlo],?_⟩,by omega⟩
   rw[q4U (by omega),q0v (x.getD []) j (by omega),<-hv]
   simp only[nv]
   generalize (r*1073741824+(x.getD []).getD j 0) / y=q at *
   generalize (r*1073741824+(x.getD []).getD j 0) % y=s at *
   generalize nv (o.drop (j+1))=z at *
   grind
 . have hb:¬ (0:Int)<=(k:Int) - 1:=dec_f hb
   obtain rfl:k=0:=by omega
   simp only[List.drop_zero] at hv
   obtain⟨q1,q2⟩:=q3u hv r0 r1
   exact⟨hd,q1,hlo,q2⟩
end Go.Proofs.Pf.B
namespace Go.Proofs.Pf.B
open Go Go.VM
def DivOf (x y:List Int) (r:Option (List Int)×Option (List Int)×Unit):Prop:=
 (Dig (r.1.getD [])/\nv (r.1.getD [])=nv x / nv y/\(r.1.getD []).length<=x.length+1)/\Dig (r.2.1.getD [])/\nv (r.2.1.getD [])=nv x % nv y/\(r.2.1.getD []).length<=x.length+1
theorem div_ex {x y:List Int} (dx:Dig x) (hy:0<nv y):∃ r,DivOf x y r:=by
 have hx:=nv_nonneg dx
 have h1:=nv_lt dx
 have h0:0<=nv x / nv y:=Int.ediv_nonneg hx (by omega)
 have h3:nv x / nv y<=nv x:=Int.ediv_le_self _ hx
 have h4:=Int.emod_nonneg (nv x) (show nv y≠0 by omega)
 have h5:nv x % nv y<=nv x:=by
  have:=Int.mul_ediv_add_emod (nv x) (nv y)
  have:0<=nv y*(nv x / nv y):=Int.mul_nonneg (by omega) h0
  omega
 obtain⟨a,a1,a2,a3⟩:=q0P x.length (nv x / nv y) h0 (by omega)
 obtain⟨b,b1,b2,b3⟩:=q0P x.length (nv x % nv y) h4 (by omega)
 exact⟨(some a,some b,()),⟨a1,a2,by simp only[Option.getD_some];omega⟩,b1,b2,by simp only[Option.getD_some];omega⟩
structure DInv (V:Int) (u0:List Int) (K:Nat) (u o:List Int) (n:Nat):Prop where
 ul:u.length=u0.length
 ud:Dig u
 ol:o.length=u0.length - n
 od:Dig o
 oz:∀ j,j<K->o.getD j 0=0
 kl:K<=u0.length - n
 val:nv u0=nv o*V+nv u
 lt:nv u<V*1073741824 ^ K
theorem q0X {l:List Int} {i j:Nat} {x:Int} (h:i≠j):(l.set i x).getD j 0=l.getD j 0:=by
 simp[List.getD,List.getElem?_set_ne h]
theorem DInv.step {V:Int} {u0 u o d:List Int} {k n:Nat} (h:DInv V u0 (k+1) u o n) (hV:0<V) (hVn:V<1073741824 ^ n) (hd:Dig d) (hdl:d.length=n+1) (hn:n<=u0.length)
 (hdv:nv d=nv ((u.drop k).take (n+1)) - V*(nv ((u.drop k).take (n+1)) / V)):
 0<=nv ((u.drop k).take (n+1)) / V/\nv ((u.drop k).take (n+1)) / V<1073741824 /\
 DInv V u0 k (u.take k ++ d ++ u.drop (k+(n+1))) (o.set k (nv ((u.drop k).take (n+1)) / V)) n:=by
 obtain⟨ul,ud,ol,od,oz,kl,val,lt⟩:=h
 have hz:q04 u (k+(n+1)):=by
  refine lt_zeroFrom ud (Int.lt_of_lt_of_le lt ?_)
  have:V*1073741824 ^ (k+1)<=1073741824 ^ n*1073741824 ^ (k+1):=Int.mul_le_mul_of_nonneg_right (by omega) (by have:=pow_posB (k+1);omega)
  rw[<-Int.pow_add,show n+(k+1)=k+(n+1) by omega] at this
  exact this
 have hW:nv (u.drop k)=nv ((u.drop k).take (n+1)):=by
  rw[q0c (u.drop k) (n+1),List.drop_drop,q04.drop ud hz];simp
 have hlow:=take_lt ud k
 have hsp:=q0c u k
 have hW0:=nv_nonneg (ud.drop k)
 have hWV:nv (u.drop k)<V*1073741824:=by
  rw[hsp,Int.pow_succ] at lt
  have:1073741824 ^ k*nv (u.drop k)<1073741824 ^ k*(V*1073741824):=by
   have e:V*(1073741824 ^ k*1073741824)=1073741824 ^ k*(V*1073741824):=by grind
   omega
  exact Int.lt_of_mul_lt_mul_left this (by have:=pow_posB k;omega)
 rw[<-hW] at hdv ⊢
 have hq0:0<=nv (u.drop k) / V:=Int.ediv_nonneg hW0 (by omega)
 have hq1:nv (u.drop k) / V<1073741824:=Int.ediv_lt_of_lt_mul hV (by rw[Int.mul_comm];exact hWV)
 refine⟨hq0,hq1,?_,?_,by rw[List.length_set];exact ol,od.set k hq0 hq1,?_,by omega,?_,?_⟩
 . simp;omega
 . exact ((ud.take k).app hd).app (ud.drop _)
 . intro j hj;rw[q0X (by omega)];exact oz j (by omega)
 . rw[q0A o k _ (by omega),oz k (by omega),q0H,q0H,q04.drop ud hz,List.length_take,Nat.min_eq_left (by omega),hdv,val,hsp]
   generalize nv (u.drop k) / V=Q
   generalize nv (u.drop k)=W
   generalize nv (u.take k)=L
   generalize (1073741824:Int) ^ k=K
   simp only[Int.mul_zero,Int.add_zero]
   grind
 . rw[q0H,q0H,q04.drop ud hz,List.length_take,Nat.min_eq_left (by omega),hdv]
   have hr1:=Int.emod_lt_of_pos (nv (u.drop k)) hV
   have hr2:=Int.mul_ediv_add_emod (nv (u.drop k)) V
   have e:nv (u.drop k) - V*(nv (u.drop k) / V)=nv (u.drop k) % V:=by omega
   rw[e]
   have h4:1073741824 ^ k*(nv (u.drop k) % V+1)<=1073741824 ^ k*V:=Int.mul_le_mul_of_nonneg_left (by omega) (by have:=pow_posB k;omega)
   rw[Int.mul_add,Int.mul_one,Int.mul_comm _ V] at h4
   simp only[Int.mul_zero,Int.add_zero]
   omega
theorem est_win {V v1 wv:Int} {u:List Int} {k n:Nat} (ud:Dig u) (hz:q04 u (k+(n+1+1))) (hv1:1<=v1) (hV:V=wv+1073741824 ^ n*v1) (w0:0<=wv):
 nv (u.drop k) / V<=(u.getD (k+n+1) 0*1073741824+u.getD (k+n) 0) / v1:=by
 have hP:=pow_posB n
 refine est_ge (P:=1073741824 ^ n) hP ?_ ?_ (by omega) (nv_nonneg (ud.drop k))
 . rw[hV,Int.mul_comm];omega
 . rw[q0c (u.drop k) n,List.drop_drop,q0m u (k+n),q0m u (k+n+1)]
   have e:nv (u.drop (k+n+1+1))=0:=by
    have:=q04.drop ud hz
    rwa [show k+(n+1+1)=k+n+1+1 by omega] at this
   rw[e]
   have t:=take_lt (ud.drop k) n
   have e2:(u.getD (k+n+1) 0*1073741824+u.getD (k+n) 0+1)*1073741824 ^ n=1073741824 ^ n*(u.getD (k+n) 0+1073741824*(u.getD (k+n+1) 0+1073741824*0))+1073741824 ^ n:=by grind
   omega
set_option maxHeartbeats 2000000 in
theorem r_divided {x y:Option (List Int)} (dx:Dig (x.getD [])) (dy:Dig (y.getD [])) (tx:Trm (x.getD [])) (ty:Trm (y.getD [])) (hy:y.getD []≠[]) (hl:(x.getD []).length<=1073741824):
 callV Pg q4D [⟨tL,x⟩,⟨tL,y⟩] (.tup (.pair tL (.pair tL .unit))) fun r=>DivOf (x.getD []) (y.getD []) r:=by
 have hx0:=nv_nonneg dx
 have hyge:=ty.ge dy hy
 have hyl:0<(y.getD []).length:=List.length_pos_iff.2 hy
 have hyp:0<nv (y.getD []):=by have:=pow_posB ((y.getD []).length - 1);omega
 refine qaJ x y (div_ex dx hyp) (q00.2 ⟨fun h=>?_,fun h=>?_⟩)
 . have h:szSl y=1:=dec_t h
   simp only[szSl] at h
   obtain⟨y0,hy0⟩:∃ y0,y.getD []=[y0]:=by
    rcases e:y.getD [] with _ | ⟨y0,_ | ⟨_,_⟩⟩
    . exact absurd e hy
    . exact⟨y0,rfl⟩
    . rw[e] at h;simp at h;omega
   have e0:eltS (0:Int) y 0=y0:=by simp only[eltS,hy0];rfl
   have g:=dy y0 (by rw[hy0];simp)
   have ny:nv (y.getD [])=y0:=by rw[hy0];simp[nv]
   rw[e0]
   refine⟨⟨by omega,by omega⟩,(q6F dx (by omega) g.2 (by omega)).mono ?_⟩
   rintro⟨q,r,_⟩ ⟨q1,q2,q3,q4⟩
   dsimp only at q1 q2 q3 q4
   have q4:r=nv (x.getD []) % y0:=q4
   subst q4
   have hr0:=Int.emod_nonneg (nv (x.getD [])) (show y0≠0 by omega)
   have hr1:=Int.emod_lt_of_pos (nv (x.getD [])) (show 0<y0 by omega)
   refine⟨⟨q1,by rw[ny];exact q2,by show (q.getD []).length<=_;omega⟩,Dig.cons hr0 (by show nv (x.getD []) % y0<_;omega) Dig.nil,?_,?_⟩
   . show nv [nv (x.getD []) % y0]=_;rw[ny];simp[nv]
   . show ([nv (x.getD []) % y0]:List Int).length<=_;simp
 . refine (q5l dx dy tx ty (by omega)).mono ?_
   rintro _ rfl
   refine q00.2 ⟨fun h2=>?_,fun h2=>?_⟩
   . have h2:cmpI (nv (x.getD [])) (nv (y.getD []))<0:=dec_t h2
     rw[q3s] at h2
     refine⟨⟨Dig.nil,?_,by simp⟩,dx,?_,by dsimp only;omega⟩
     . show (0:Int)=_;rw[Int.ediv_eq_zero_of_lt hx0 h2]
     . show nv (x.getD [])=_;rw[Int.emod_eq_of_lt hx0 h2]
   have h2:¬ cmpI (nv (x.getD [])) (nv (y.getD []))<0:=dec_f h2
   rw[q3s] at h2
   have h:¬ szSl y=1:=dec_f h
   simp only[szSl] at h
   have hle:(y.getD []).length<=(x.getD []).length:=by
    rcases Nat.lt_or_ge (x.getD []).length (y.getD []).length with hl2 | hl2
    . have:=q0I dx dy ty hl2;omega
    . exact hl2
   obtain⟨m,hm⟩:∃ m,(y.getD []).length=m+1:=⟨(y.getD []).length - 1,by omega⟩
   have hm1:1<=m:=by omega
   have ew:IntKind.wrap IntKind.i64 (szSl y - 1)=(m:Int):=by simp only[szSl];rw[wi64 (by omega) (by omega)];omega
   have gy:=dy.get m
   have gy0:(y.getD []).getD m 0≠0:=by
    have hlast:(y.getD []).getLast?=some ((y.getD []).getD m 0):=by
     rw[List.getLast?_eq_some_getLast hy,List.getLast_eq_getElem]
     simp[List.getD,hm]
    exact ty _ hlast
   have ee:eltS (0:Int) y (m:Int)=(y.getD []).getD m 0:=by simp only[eltS,Int.toNat_natCast]
   rw[ew,ee,wi64 (x:=(y.getD []).getD m 0+1) (by omega) (by omega),Int.tdiv_eq_ediv_of_nonneg (by decide)]
   obtain⟨f,hf⟩:∃ f,f=1073741824 / ((y.getD []).getD m 0+1):=⟨_,rfl⟩
   have f1:1<=f:=by rw[hf];exact Int.le_ediv_of_mul_le (by omega) (by omega)
   have f2:f*((y.getD []).getD m 0+1)<=1073741824:=by rw[hf];exact Int.ediv_mul_le _ (by omega)
   have f3:f<1073741824:=by
    have:f*2<=f*((y.getD []).getD m 0+1):=Int.mul_le_mul_of_nonneg_left (by omega) (by omega)
    omega
   rw[<-hf,wi64 (x:=f) (by omega) (by omega)]
   refine⟨⟨by omega,by omega⟩,by omega,?_⟩
   refine (q5n dx (by omega) f3 (by omega)).mono ?_
   rintro u0' ⟨du,vu,lu,su⟩
   obtain⟨u0,rfl⟩:∃ u0:List Int,u0'=some u0:=by cases u0' with | none=>simp at su | some l=>exact⟨l,rfl⟩
   simp only[Option.getD_some] at du vu lu
   refine (q5n dy (by omega) f3 (by omega)).val.mono ?_
   rintro v0' ⟨dv0,vv0,lv0,sv⟩
   obtain⟨v0,rfl⟩:∃ v0:List Int,v0'=some v0:=by cases v0' with | none=>simp at sv | some l=>exact⟨l,rfl⟩
   simp only[Option.getD_some] at dv0 vv0 lv0
   have hPm:=pow_posB m
   have ysp:nv (y.getD [])=nv ((y.getD []).take m)+1073741824 ^ m*(y.getD []).getD m 0:=by
    rw[q0c (y.getD []) m,q0m (y.getD []) m,List.drop_of_length_le (by omega)];simp[nv]
   have ytk:=take_lt dy m
   have vhigh:nv v0<1073741824 ^ (m+1):=by
    rw[vv0,Int.pow_succ]
    have a1:nv (y.getD [])<1073741824 ^ m*((y.getD []).getD m 0+1):=by rw[Int.mul_add,Int.mul_one];omega
    have a2:nv (y.getD [])*f<1073741824 ^ m*((y.getD []).getD m 0+1)*f:=Int.mul_lt_mul_of_pos_right a1 (by omega)
    have a3:1073741824 ^ m*((y.getD []).getD m 0+1)*f=1073741824 ^ m*(f*((y.getD []).getD m 0+1)):=by grind
    have a4:1073741824 ^ m*(f*((y.getD []).getD m 0+1))<=1073741824 ^ m*1073741824:=Int.mul_le_mul_of_nonneg_left f2 (by omega)
    omega
   have vlow:1073741824 ^ m<=nv v0:=by
    rw[vv0]
    have a1:1073741824 ^ m*1<=1073741824 ^ m*(y.getD []).getD m 0:=Int.mul_le_mul_of_nonneg_left (by omega) (by omega)
    have a2:nv (y.getD [])*1<=nv (y.getD [])*f:=Int.mul_le_mul_of_nonneg_left f1 (by omega)
    omega
   obtain⟨v,hv⟩:∃ v:List Int,v=v0.take (m+1):=⟨_,rfl⟩
   have esl:slcS (some v0) 0 (szSl y)=some v:=by
    simp only[slcS,szSl,Option.map_some,hm,hv,Int.toNat_natCast];simp
   have dv:Dig v:=hv ▸ dv0.take _
   have hvl:v.length=m+1:=by rw[hv,List.length_take];omega
   have vv:nv v=nv (y.getD [])*f:=by
    rw[hv,<-vv0,q0c v0 (m+1),q04.drop dv0 (lt_zeroFrom dv0 vhigh)];simp
   have hvv:nv v=nv v0:=by rw[vv,vv0]
   rw[<-hvv] at vhigh vlow
   have vpos:0<nv v:=by omega
   have vsp:nv v=nv (v.take m)+1073741824 ^ m*v.getD m 0:=by
    rw[q0c v m,q0m v m,List.drop_of_length_le (by omega)];simp[nv]
   have vtk:=take_lt dv m
   have gv:=dv.get m
   have v1:1<=v.getD m 0:=by
    rcases Int.lt_or_le (v.getD m 0) 1 with h3 | h3
    . have:v.getD m 0=0:=by omega
      rw[this] at vsp;omega
    . exact h3
   refine⟨⟨by omega,by simp only[szSl];omega,by simp only[szSl,Option.getD_some];omega⟩,?_⟩
   rw[esl]
   have esz:IntKind.wrap IntKind.i64 (szSl (some u0) - szSl (some v))=((u0.length - (m+1):Nat):Int):=by
    simp only[szSl,Option.getD_some,hvl];rw[wi64 (by omega) (by omega)];omega
   rw[esz,wi64 (x:=((u0.length - (m+1):Nat):Int) - 1) (by omega) (by omega)]
   refine⟨by simp only[mkC];omega,?_⟩
   refine loopE (fun p=>∃ (K:Nat) (u o:List Int),p=(f,some v,((m+1:Nat):Int),(K:Int) - 1,some o,some u)/\DInv (nv v) u0 K u o (m+1)) (fun p=>(p.2.2.2.1+1).toNat) ⟨u0.length - (m+1),u0,List.replicate (u0.length - (m+1)) 0,?_,⟨rfl,du,by simp,Dig.rep _,fun j hj=>by simp[List.getD,hj],Nat.le_refl _,by rw[q1U];omega,?_⟩⟩ ?_
   . simp only[szSl,Option.getD_some,hvl,repS,Int.toNat_natCast]
   . have h1:=nv_lt du
     have e:u0.length=(u0.length - (m+1))+(m+1):=by omega
     have a1:=nv_lt dx
     have a2:nv (x.getD [])*f<1073741824 ^ (x.getD []).length*f:=Int.mul_lt_mul_of_pos_right a1 (by omega)
     have e2:(x.getD []).length=(u0.length - (m+1))+m:=by omega
     have a3:(1073741824:Int) ^ (x.getD []).length*f=(1073741824 ^ m*f)*1073741824 ^ (u0.length - (m+1)):=by rw[e2,Int.pow_add];grind
     have a4:1073741824 ^ m*f<=nv v:=by
      rw[vv]
      have b1:1073741824 ^ m*1<=1073741824 ^ m*(y.getD []).getD m 0:=Int.mul_le_mul_of_nonneg_left (by omega) (by omega)
      exact Int.mul_le_mul_of_nonneg_right (by omega) (by omega)
     have a5:(1073741824 ^ m*f)*1073741824 ^ (u0.length - (m+1))<=nv v*1073741824 ^ (u0.length - (m+1)):=Int.mul_le_mul_of_nonneg_right a4 (by have:=pow_posB (u0.length - (m+1));omega)
     rw[vu];omega
   rintro _ ⟨K,u,o,rfl,hI⟩
   dsimp only
   have hI':=hI
   obtain⟨ul,ud,ol,od,oz,kl,val,lt⟩:=hI'
   refine q00.2 ⟨fun hb=>?_,fun hb=>?_⟩
   . have hb:(0:Int)<=(K:Int) - 1:=dec_t hb
     obtain⟨k,rfl⟩:∃ k,K=k+1:=⟨K - 1,by omega⟩
     have ek:((k+1:Nat):Int) - 1=(k:Int):=by omega
     have e1:IntKind.wrap IntKind.i64 ((k:Int)+((m+1:Nat):Int))=((k+m+1:Nat):Int):=by rw[wi64 (by omega) (by omega)];omega
     have e2:IntKind.wrap IntKind.i64 (((k+m+1:Nat):Int) - 1)=((k+m:Nat):Int):=by rw[wi64 (by omega) (by omega)];omega
     have e3:IntKind.wrap IntKind.i64 (((m+1:Nat):Int) - 1)=(m:Int):=by rw[wi64 (by omega) (by omega)];omega
     have e4:IntKind.wrap IntKind.i64 (((k+m+1:Nat):Int)+1)=((k+(m+1+1):Nat):Int):=by rw[wi64 (by omega) (by omega)];omega
     have gu0:=ud.get (k+m+1)
     have gu1:=ud.get (k+m)
     have x1:eltS (0:Int) (some v) (m:Int)=v.getD m 0:=by simp only[eltS,Option.getD_some,Int.toNat_natCast]
     have x2:eltN (0:Int) (some u) (toN ((k+m+1:Nat):Int))=u.getD (k+m+1) 0:=by simp only[eltN,toN,Option.getD_some,Int.toNat_natCast]
     have x3:eltN (0:Int) (some u) (toN ((k+m:Nat):Int))=u.getD (k+m) 0:=by simp only[eltN,toN,Option.getD_some,Int.toNat_natCast]
     have y1:IntKind.wrap IntKind.i64 (u.getD (k+m+1) 0*1073741824)=u.getD (k+m+1) 0*1073741824:=wi64 (by omega) (by omega)
     have y2:IntKind.wrap IntKind.i64 (u.getD (k+m+1) 0*1073741824+u.getD (k+m) 0)=u.getD (k+m+1) 0*1073741824+u.getD (k+m) 0:=wi64 (by omega) (by omega)
     have y3:Int.tdiv (u.getD (k+m+1) 0*1073741824+u.getD (k+m) 0) (v.getD m 0)=(u.getD (k+m+1) 0*1073741824+u.getD (k+m) 0) / v.getD m 0:=Int.tdiv_eq_ediv_of_nonneg (by omega)
     have hest0:0<=(u.getD (k+m+1) 0*1073741824+u.getD (k+m) 0) / v.getD m 0:=Int.ediv_nonneg (by omega) (by omega)
     have hest1:(u.getD (k+m+1) 0*1073741824+u.getD (k+m) 0) / v.getD m 0<=u.getD (k+m+1) 0*1073741824+u.getD (k+m) 0:=Int.ediv_le_self _ (by omega)
     have y4:IntKind.wrap IntKind.i64 ((u.getD (k+m+1) 0*1073741824+u.getD (k+m) 0) / v.getD m 0)=(u.getD (k+m+1) 0*1073741824+u.getD (k+m) 0) / v.getD m 0:=wi64 (by omega) (by omega)
     have hz:q04 u (k+(m+1+1)):=by
      refine lt_zeroFrom ud (Int.lt_of_lt_of_le lt ?_)
      have:nv v*1073741824 ^ (k+1)<=1073741824 ^ (m+1)*1073741824 ^ (k+1):=Int.mul_le_mul_of_nonneg_right (by omega) (by have:=pow_posB (k+1);omega)
      rw[<-Int.pow_add,show m+1+(k+1)=k+(m+1+1) by omega] at this
      exact this
     have hW:nv (u.drop k)=nv ((u.drop k).take (m+1+1)):=by
      rw[q0c (u.drop k) (m+1+1),List.drop_drop,q04.drop ud hz];simp
     have hest:=est_win (V:=nv v) (wv:=nv (v.take m)) ud hz v1 vsp vtk.1
     rw[hW] at hest
     have hlk:k+m+2<=u.length:=by omega
     have hwl:((u.drop k).take (m+1+1)).length=m+1+1:=by simp;omega
     have dW:Dig ((u.drop k).take (m+1+1)):=(ud.drop k).take _
     have hW0:=nv_nonneg dW
     have hq0:0<=nv ((u.drop k).take (m+1+1)) / nv v:=Int.ediv_nonneg hW0 (by omega)
     have hqB:nv ((u.drop k).take (m+1+1)) / nv v<1073741824:=by
      rw[<-hW]
      refine Int.ediv_lt_of_lt_mul vpos ?_
      rw[Int.mul_comm]
      have hsp:=q0c u k
      have hlow:=take_lt ud k
      rw[hsp,Int.pow_succ] at lt
      have:1073741824 ^ k*nv (u.drop k)<1073741824 ^ k*(nv v*1073741824):=by
       have e:nv v*(1073741824 ^ k*1073741824)=1073741824 ^ k*(nv v*1073741824):=by grind
       omega
      exact Int.lt_of_mul_lt_mul_left this (by have:=pow_posB k;omega)
     rw[ek]
     simp only[e1,e2,e3,e4,x1,x2,x3,y1,y2,y3,y4]
     refine⟨⟨by omega,by simp only[Option.getD_some];omega⟩,⟨by omega,by simp only[Option.getD_some];omega⟩,⟨by omega,by simp only[Option.getD_some];omega⟩,by omega,?_⟩
     refine loopE (fun p=>∃ e:Int,p=(f,some v,((m+1:Nat):Int),(k:Int),e,some o,some u)/\nv ((u.drop k).take (m+1+1)) / nv v<=e/\e<1073741824) (fun p=>p.2.2.2.2.1.toNat) ⟨_,rfl,?_,?_⟩ ?_
     . unfold minI;split<;>omega
     . unfold minI;split<;>omega
     rintro _ ⟨e,rfl,q1,q2⟩
     dsimp only
     have esw:slcS (some u) (k:Int) ((k+(m+1+1):Nat):Int)=some ((u.drop k).take (m+1+1)):=by
      simp only[slcS,Option.map_some,Int.toNat_natCast]
      rw[List.drop_take];simp
     have eap:appL (some []) (lst (some ((u.drop k).take (m+1+1))))=some ((u.drop k).take (m+1+1)):=by simp[appL,lst,appS]
     have iw:inW (some u) (k:Int) ((k+(m+1+1):Nat):Int):=⟨rfl,by omega,by omega,by simp only[Option.getD_some];omega⟩
     refine (q5n (a:=some v) dv (by omega) q2 (by simp only[Option.getD_some];omega)).val.mono ?_
     rintro p' ⟨dp,vp,lp,sp⟩
     simp only[Option.getD_some] at vp lp
     refine (r_trim (a:=p') (by omega)).mono ?_
     rintro _ rfl
     simp only[e1,e4,esw,eap]
     refine⟨iw,?_,(r_trim (a:=some ((u.drop k).take (m+1+1))) (by simp only[Option.getD_some];omega)).mono ?_⟩
     . show (0+((u.drop k).take (m+1+1)).length)*8<=140737488355328;omega
     rintro _ rfl
     refine (q5l (by rw[q1f];exact dp.trim) (by rw[q1f];exact dW.trim) (by rw[q1f];exact trm_trim _) (by rw[q1f];exact trm_trim _) (by rw[q1f];have:=q56 (p'.getD []);omega)).mono ?_
     rintro _ rfl
     rw[q1f,q1f,q0S,q0S,vp]
     simp only[Option.getD_some]
     refine q00.2 ⟨fun hc=>?_,fun hc=>?_⟩
     . have hc:cmpI (nv v*e) (nv ((u.drop k).take (m+1+1)))<=0:=dec_t hc
       have hle:nv v*e<=nv ((u.drop k).take (m+1+1)):=by
        unfold cmpI at hc
        split at hc
        . omega
        . split at hc<;>omega
       have heq:e=nv ((u.drop k).take (m+1+1)) / nv v:=by
        have:e<=nv ((u.drop k).take (m+1+1)) / nv v:=Int.le_ediv_of_mul_le vpos (by rw[Int.mul_comm];exact hle)
        omega
       refine⟨iw,(q5m (a:=some ((u.drop k).take (m+1+1))) (b:=p') dW dp (by rw[vp];exact hle) (by simp only[Option.getD_some];omega) (by simp only[Option.getD_some];omega)).mono ?_⟩
       rintro d ⟨dd,vd,ld⟩
       simp only[Option.getD_some] at vd ld
       rw[vp,heq] at vd
       obtain⟨r0,r1,hnext⟩:=hI.step vpos vhigh dd (by omega) (by omega) vd
       have hcp:cpyS (some u) (k:Int) (szSl (some u)) d=some (u.take k ++ d.getD [] ++ u.drop (k+(m+1+1))):=by
        simp only[cpyS,Option.map_some,szSl,Option.getD_some,Int.toNat_natCast,ld,hwl]
        rw[Nat.min_eq_right (by omega),List.take_of_length_le (l:=d.getD []) (by omega)]
       rw[hcp]
       refine⟨⟨rfl,by omega,by simp only[szSl,Option.getD_some];omega,by simp only[szSl,Option.getD_some];omega⟩,⟨by omega,by simp only[Option.getD_some];omega⟩,⟨k,_,_,?_,hnext⟩,?_⟩
       . rw[wi64 (by omega) (by omega),heq];simp only[setO,toN,Option.map_some,Int.toNat_natCast]
       . rw[wi64 (by omega) (by omega)];omega
     . have hc:¬ cmpI (nv v*e) (nv ((u.drop k).take (m+1+1)))<=0:=dec_f hc
       have hgt:nv ((u.drop k).take (m+1+1))<nv v*e:=by
        unfold cmpI at hc
        split at hc
        . omega
        . split at hc<;>omega
       have hne:nv ((u.drop k).take (m+1+1)) / nv v<e:=Int.ediv_lt_of_lt_mul vpos (by rw[Int.mul_comm];exact hgt)
       rw[wi64 (x:=e - 1) (by omega) (by omega)]
       exact⟨⟨e - 1,rfl,by omega,by omega⟩,by omega⟩
   . have hb:¬ (0:Int)<=(K:Int) - 1:=dec_f hb
     obtain rfl:K=0:=by omega
     simp only[Int.pow_zero,Int.mul_one] at lt
     have hu0:=nv_nonneg ud
     have htk:nv (u.take (m+1))=nv u:=by
      rw[q0c u (m+1),q04.drop ud (lt_zeroFrom ud (show nv u<1073741824 ^ (m+1) by omega))];simp
     rw[vu,vv] at val
     have hR:nv u=(nv (x.getD []) - nv o*nv (y.getD []))*f:=by rw[Int.sub_mul,val];grind
     have hR0:0<=nv (x.getD []) - nv o*nv (y.getD []):=by
      rw[hR] at hu0
      rcases Int.lt_or_le (nv (x.getD []) - nv o*nv (y.getD [])) 0 with h | h
      . have:(nv (x.getD []) - nv o*nv (y.getD []))*f<0:=Int.mul_neg_of_neg_of_pos h (by omega)
        omega
      . exact h
     have hR1:nv (x.getD []) - nv o*nv (y.getD [])<nv (y.getD []):=by
      rw[hR,vv] at lt
      exact Int.lt_of_mul_lt_mul_right lt (by omega)
     obtain⟨d1,d2⟩:=q3u (show nv o*nv (y.getD [])+(nv (x.getD []) - nv o*nv (y.getD []))=nv (x.getD []) by omega) hR0 hR1
     have esw:slcS (some u) (0:Int) ((m+1:Nat):Int)=some (u.take (m+1)):=by simp only[slcS,Option.map_some,Int.toNat_natCast];simp
     rw[esw]
     refine⟨⟨rfl,by omega,by omega,by simp only[Option.getD_some];omega⟩,(q6F (x:=some (u.take (m+1))) (ud.take _) (by omega) f3 (by simp;omega)).mono ?_⟩
     rintro⟨q,r,_⟩ ⟨s1,s2,s3,s4⟩
     simp only[Option.getD_some] at s2 s3
     rw[htk,hR,Int.mul_ediv_cancel _ (by omega)] at s2
     refine⟨⟨od,d1,by simp only[Option.getD_some];omega⟩,s1,by rw[<-d2];exact s2,?_⟩
     show (q.getD []).length<=_
     rw[s3,List.length_take];omega
end Go.Proofs.Pf.B
namespace Go.Proofs.Pf
open Go Go.VM
set_option maxRecDepth 100000
def q7Z:Ann:=(.s (.s (.s (.seq (.s (.cond (some ⟨[],[.var 4 .str]⟩) .nil .nil)) .nil))))
theorem qal {Q:(ByteArray×(Int×Unit))->Prop} (a:(Int×Int)) (hQ:∃ r,Q r) (h:
 (callV Pg q2o [⟨tNum,a⟩] .bool (fun p0=>brV (notB p0) (Q (bytesL [],(1:Int),())) (callV Pg q1t [⟨tI,a.1⟩] .str (fun p1=>joinV ByteArray (fun p2=>Q (p2,(0:Int),())) (fun k2=>brV (notB (decide (a.2=(1:Int)))) (callV Pg q1t [⟨tI,a.2⟩] .str (fun p3=>catC (bytesL [47]) p3/\catC p1 (catS (bytesL [47]) p3)/\k2 (catS p1 (catS (bytesL [47]) p3)))) (k2 p1))))))):
 callV Pg q3f [⟨tNum,a⟩] (.tup (.pair .str (.pair tI .unit))) Q:=
 q02 (c:=q01 Tryz.f21) (ann:=q7Z) Tryz.func21 rfl Tryz.call21 rfl rfl hQ (kcast (by kernel_rfl) h)
end Go.Proofs.Pf
