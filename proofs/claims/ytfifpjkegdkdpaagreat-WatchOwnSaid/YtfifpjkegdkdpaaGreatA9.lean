/- Typed pure data, a condition on code that says what a call gives, what the code of each function comes to, and what each function gives. -/
import Derived.Test.YtfifpjkegdkdpaaGreatProg
import Derived.Scope
import Derived.Lib.LaidTab
import Derived.Lib.ItoaNum
import Derived.Laws.CopyRow
import Derived.Laws.AppendOwn
import Derived.Laws.MakeOwn
import Derived.Laws.BytesString
import Derived.ChangeKeysEq
import Derived.Laws.StructEq
import Derived.Laws.Small
import Derived.Tactics
import Derived.Calls
import Derived.Below
import Derived.KernelRfl
import Derived.Laws.Cells
import Derived.Test.YtfifpjkegdkdpaaGreatA6
import Derived.Test.YtfifpjkegdkdpaaGreatA8
set_option linter.unusedVariables false
set_option linter.unusedSimpArgs false
set_option linter.unnecessarySimpa false
namespace Go.Proofs.Pf
open Go Go.VM
abbrev tEI:Ty:=.agg (.pair (.int .i64) (.sl (.int .u32)))
abbrev tER:Ty:=.agg (.pair tEI tEI)
abbrev tNum:Ty:=.agg (.pair (.int .i64) (.int .i64))
abbrev tI:Ty:=.int .i64
abbrev tD:Ty:=.sl (.int .u32)
abbrev tU:Ty:=.int .u32
abbrev tL:Ty:=.sl tI
abbrev tBr:Ty:=.agg (.pair tI tNum)
abbrev tCh:Ty:=.agg (.pair tNum (.sl tBr))
abbrev tSt:Ty:=.agg (.pair tI (.pair tI (.sl tCh)))
abbrev tMo:Ty:=.agg (.sl tSt)
abbrev DL:=Option (List Int)
abbrev DBr:=Int×(Int×Int)
abbrev DCh:=(Int×Int)×Option (List DBr)
abbrev DSt:=Int×(Int×Option (List DCh))
abbrev DMo:=Option (List DSt)
abbrev DE:=Int×Option (List Int)
abbrev DR:=DE×DE
abbrev DRI:=Int×(Bool×Option (List Int))
abbrev DRR:=DRI×DRI
abbrev z0:DRR:=((0,false,none),0,false,none)
abbrev r0:DR:=((0,none),0,none)
def q00 (fn:Func):Code:=match fn.body with | some c=>c | none=>.skip
theorem kcast {a b:Prop} (h:a=b) (hb:b):a:=h ▸ hb
def bytesL (l:List Nat):ByteArray:=⟨⟨l.map UInt8.ofNat⟩⟩
noncomputable abbrev Pg:Program:=Go.Proofs.Tryz.prog
abbrev q6C:FuncId:=5
abbrev q4I:FuncId:=6
abbrev q3N:FuncId:=7
abbrev q2T:FuncId:=8
abbrev q2a:FuncId:=9
abbrev q2V:FuncId:=10
abbrev q2Y:FuncId:=16
abbrev q2R:FuncId:=17
abbrev q2U:FuncId:=18
abbrev q2W:FuncId:=27
abbrev q2Q:FuncId:=28
abbrev q50:FuncId:=29
abbrev q27:FuncId:=30
abbrev q4V:FuncId:=31
abbrev q4Y:FuncId:=32
abbrev q3Q:FuncId:=33
abbrev q4X:FuncId:=34
abbrev q52:FuncId:=35
abbrev q51:FuncId:=36
abbrev q53:FuncId:=37
abbrev q2L:FuncId:=38
abbrev q29:FuncId:=39
abbrev q26:FuncId:=40
abbrev q1i:FuncId:=41
abbrev q2O:FuncId:=42
abbrev q2c:FuncId:=43
abbrev q2b:FuncId:=44
abbrev q1h:FuncId:=45
abbrev q2Z:FuncId:=46
abbrev q0P:FuncId:=47
abbrev q0A:FuncId:=48
abbrev q0c:FuncId:=49
abbrev q0N:FuncId:=50
abbrev q12:FuncId:=57
abbrev q1D:FuncId:=58
abbrev q3U:FuncId:=59
abbrev q0Y:FuncId:=60
abbrev q3T:FuncId:=61
abbrev q1B:FuncId:=62
abbrev q0n:FuncId:=63
abbrev q5g:FuncId:=74
abbrev q10:FuncId:=75
abbrev q5h:FuncId:=76
abbrev q24:FuncId:=77
abbrev q2X:FuncId:=78
abbrev q2S:FuncId:=79
abbrev q4W:FuncId:=80
abbrev q4Z:FuncId:=81
abbrev q25:FuncId:=82
abbrev q3R:FuncId:=83
abbrev q2N:FuncId:=84
abbrev q2M:FuncId:=85
abbrev q3K:FuncId:=86
abbrev q3V:FuncId:=87
abbrev q3W:FuncId:=88
abbrev q56:FuncId:=89
abbrev q5e:FuncId:=90
abbrev q5f:FuncId:=91
abbrev q4E:FuncId:=92
abbrev q2G:FuncId:=93
abbrev q0B:FuncId:=94
abbrev q28:FuncId:=95
abbrev q3J:FuncId:=96
abbrev q4U:FuncId:=97
abbrev q20:FuncId:=98
abbrev q3I:FuncId:=99
abbrev q21:FuncId:=100
abbrev q0L:FuncId:=101
abbrev q22:FuncId:=111
abbrev q1f:FuncId:=112
abbrev q1C:FuncId:=121
abbrev q58:FuncId:=122
abbrev q0O:FuncId:=123
abbrev q4T:FuncId:=124
abbrev q6D:FuncId:=125
abbrev q0Z:FuncId:=126
abbrev q2I:FuncId:=127
abbrev q4Q:FuncId:=128
abbrev q5c:FuncId:=129
abbrev q57:FuncId:=130
abbrev q2P:FuncId:=131
abbrev q6E:FuncId:=132
abbrev q11:FuncId:=133
abbrev q4G:FuncId:=134
abbrev q1g:FuncId:=135
abbrev q0M:FuncId:=136
abbrev q0o:FuncId:=137
abbrev q3L:FuncId:=138
abbrev q2J:FuncId:=139
abbrev q23:FuncId:=140
abbrev q3G:FuncId:=141
abbrev q2H:FuncId:=142
abbrev q1Z:FuncId:=143
abbrev q4O:FuncId:=144
abbrev q5a:FuncId:=152
abbrev q59:FuncId:=153
abbrev q54:FuncId:=154
abbrev q4R:FuncId:=155
abbrev q3S:FuncId:=156
abbrev q4L:FuncId:=157
abbrev q5b:FuncId:=158
abbrev q2K:FuncId:=159
abbrev q3O:FuncId:=160
abbrev q4P:FuncId:=161
abbrev q3H:FuncId:=162
abbrev q4H:FuncId:=163
abbrev q4F:FuncId:=164
abbrev q55:FuncId:=168
abbrev q4S:FuncId:=169
abbrev q3P:FuncId:=170
abbrev q5d:FuncId:=171
abbrev qab:FuncId:=172
abbrev qa9:FuncId:=173
abbrev qaa:FuncId:=174
abbrev qaf:FuncId:=175
abbrev qac:FuncId:=176
abbrev q3F:FuncId:=177
abbrev qad:FuncId:=178
abbrev qae:FuncId:=179
abbrev q4M:FuncId:=180
abbrev q4N:FuncId:=181
abbrev q4J:FuncId:=182
abbrev q4K:FuncId:=183
abbrev q3M:FuncId:=184
abbrev q4D:FuncId:=190
end Go.Proofs.Pf
namespace Go.Proofs.Pf
open Go Go.VM
set_option maxRecDepth 100000
def q85:Ann:=(.s (.s (.seq (.blk none (.loop ⟨[(2,.ref 2 0),(3,.ref 3 0),(4,.ref 4 0)],[.box 2 tEI,.box 3 tEI,.box 4 tEI]⟩ .nil)) .nil)))
theorem qbc {Q:DE->Prop} (a:DE) (b:DE) (hQ:∃ r,Q r) (h:
 (callV Pg q3H [⟨tEI,a⟩] tEI (fun p0=>callV Pg q3H [⟨tEI,b⟩] tEI (fun p1=>loopV (DE×DR) (fun k2  (i,j)=>callV Pg q1f [⟨tEI,j.1⟩] tI (fun p4=>brV (notB (decide (p4=(0:Int)))) (callV Pg q2H [⟨tEI,i⟩,⟨tEI,j.1⟩] (.tup (.pair tEI (.pair tEI .unit))) (fun p5=>k2 (j.1,p5.2.1,j.2))) (Q i))) (p0,p1,(0:Int),none))))):
 callV Pg q3G [⟨tEI,a⟩,⟨tEI,b⟩] tEI Q:=
 q02 (c:=q00 Tryz.f141) (ann:=q85) Tryz.func141 rfl Tryz.call141 rfl rfl hQ (kcast (by kernel_rfl) h)
def q86:Ann:=.nil
theorem qbd {Q:DE->Prop} (a:DE) (hQ:∃ r,Q r) (h:
 (brV (decide (a.1<(0:Int))) (callV Pg q1Z [⟨tEI,a⟩] tEI (fun p0=>Q p0)) (Q a))):
 callV Pg q3H [⟨tEI,a⟩] tEI Q:=
 q02 (c:=q00 Tryz.f162) (ann:=q86) Tryz.func162 rfl Tryz.call162 rfl rfl hQ (kcast (by kernel_rfl) h)
def q87:Ann:=(.s (.seq (.seq (.reg [] [] (some ⟨[(2,.ref 2 0),(3,.ref 3 0),(4,.ref 4 0)],[.var 16 .bool,.box 2 tEI,.box 3 tEI,.box 4 tEI]⟩)) .nil) .nil))
theorem qbe {Q:DE->Prop} (a:DE) (b:DE) (hQ:∃ r,Q r) (h:
 (joinV (Bool×DE×DR) (fun (i,j,k)=>brV i (callV Pg q1g [⟨tI,IntKind.wrap IntKind.i64 (j.1+k.1.1)⟩] tEI (fun p1=>Q p1)) (callV Pg q0M [⟨tEI,j⟩] (.tup (.pair tI (.pair tD .unit))) (fun p1=>callV Pg q0M [⟨tEI,k.1⟩] (.tup (.pair tI (.pair tD .unit))) (fun p2=>brV (decide (p1.1=(0:Int))) (Q k.1) (brV (decide (p2.1=(0:Int))) (Q j) (brV (decide (p1.1=p2.1)) (callV Pg q3L [⟨tD,p1.2.1⟩,⟨tD,p2.2.1⟩] tD (fun p3=>callV Pg q0o [⟨tI,p1.1⟩,⟨tD,p3⟩] tEI (fun p4=>Q p4))) (callV Pg q2J [⟨tD,p1.2.1⟩,⟨tD,p2.2.1⟩] tI (fun p3=>brV (decide ((0:Int)<=p3)) (callV Pg q23 [⟨tD,p1.2.1⟩,⟨tD,p2.2.1⟩] tD (fun p4=>callV Pg q0o [⟨tI,p1.1⟩,⟨tD,p4⟩] tEI (fun p5=>Q p5))) (callV Pg q23 [⟨tD,p2.2.1⟩,⟨tD,p1.2.1⟩] tD (fun p4=>callV Pg q0o [⟨tI,p2.1⟩,⟨tD,p4⟩] tEI (fun p5=>Q p5))))))))))) (fun k0=>brV (Option.isNone a.2) (k0 (Option.isNone b.2,a,b,(0:Int),none)) (k0 (false,a,b,(0:Int),none))))):
 callV Pg q3I [⟨tEI,a⟩,⟨tEI,b⟩] tEI Q:=
 q02 (c:=q00 Tryz.f99) (ann:=q87) Tryz.func99 rfl Tryz.call99 rfl rfl hQ (kcast (by kernel_rfl) h)
def q88:Ann:=(.s (.seq (.seq (.reg [] [] (some ⟨[(2,.ref 2 0)],[.var 21 .bool,.box 2 tEI]⟩)) .nil) .nil))
theorem qbf {Q:(Int×(Bool×Unit))->Prop} (a:DE) (b:Int) (hQ:∃ r,Q r) (h:
 (joinV (Bool×DE) (fun (i,j)=>brV i (Q ((0:Int),false,())) (Q (j.1,true,()))) (fun k0=>brV (notB (Option.isNone a.2)) (k0 (true,a)) (brV (decide (b<a.1)) (k0 (true,a)) (k0 (decide (a.1<(IntKind.wrap IntKind.i64 ((0:Int) - b))),a)))))):
 callV Pg q2G [⟨tEI,a⟩,⟨tI,b⟩] (.tup (.pair tI (.pair .bool .unit))) Q:=
 q02 (c:=q00 Tryz.f93) (ann:=q88) Tryz.func93 rfl Tryz.call93 rfl rfl hQ (kcast (by kernel_rfl) h)
def q8a:Ann:=.nil
theorem qbh {Q:DE->Prop} (a:DE) (hQ:∃ r,Q r) (h:
 (Q (IntKind.wrap IntKind.i64 ((0:Int) - a.1),a.2))):
 callV Pg q1Z [⟨tEI,a⟩] tEI Q:=
 q02 (c:=q00 Tryz.f143) (ann:=q8a) Tryz.func143 rfl Tryz.call143 rfl rfl hQ (kcast (by kernel_rfl) h)
def q8b:Ann:=(.s (.seq (.seq (.reg [] [] (some ⟨[(2,.ref 2 0),(3,.ref 3 0),(4,.ref 4 0),(5,.ref 5 0)],[.var 21 .bool,.box 2 tEI,.box 3 tEI,.box 4 tEI,.box 5 tEI]⟩)) .nil) (.s (.s (.s (.seq (.s (.cond none (.s (.seq (.reg [] [(8,([68],false))] none) .nil)) .nil)) .nil))))))
theorem qbi {Q:(DE×(DE×Unit))->Prop} (a:DE) (b:DE) (hQ:∃ r,Q r) (h:
 (joinV (Bool×DE×DE×DR) (fun (i,j,k,_)=>brV i ((k.1≠(0:Int))/\(k.1≠(0:Int))/\Q ((IntKind.wrap IntKind.i64 (Int.tdiv j.1 k.1),none),(Int.tmod j.1 k.1,none),())) (callV Pg q0M [⟨tEI,j⟩] (.tup (.pair tI (.pair tD .unit))) (fun p1=>callV Pg q0M [⟨tEI,k⟩] (.tup (.pair tI (.pair tD .unit))) (fun p2=>callV Pg q2J [⟨tD,p1.2.1⟩,⟨tD,p2.2.1⟩] tI (fun p3=>brV (decide (p3<(0:Int))) (Q (((0:Int),none),j,())) (brV (decide ((szSl p2.2.1)=(1:Int))) (inS p2.2.1 (0:Int)/\callV Pg q4H [⟨tD,p1.2.1⟩,⟨tU,eltS (0:Int) p2.2.1 (0:Int)⟩] (.tup (.pair tD (.pair tU .unit))) (fun p4=>callV Pg q0o [⟨tI,IntKind.wrap IntKind.i64 (p1.1*p2.1)⟩,⟨tD,p4.1⟩] tEI (fun p5=>callV Pg q0o [⟨tI,p1.1⟩,⟨tD,some [p4.2.1]⟩] tEI (fun p6=>Q (p5,p6,()))))) (callV Pg q4F [⟨tD,p1.2.1⟩,⟨tD,p2.2.1⟩] (.tup (.pair tD (.pair tD .unit))) (fun p4=>callV Pg q0o [⟨tI,IntKind.wrap IntKind.i64 (p1.1*p2.1)⟩,⟨tD,p4.1⟩] tEI (fun p5=>callV Pg q0o [⟨tI,p1.1⟩,⟨tD,p4.2.1⟩] tEI (fun p6=>Q (p5,p6,()))))))))))) (fun k0=>brV (Option.isNone a.2) (k0 (Option.isNone b.2,a,b,r0)) (k0 (false,a,b,r0))))):
 callV Pg q2H [⟨tEI,a⟩,⟨tEI,b⟩] (.tup (.pair tEI (.pair tEI .unit))) Q:=
 q02 (c:=q00 Tryz.f142) (ann:=q8b) Tryz.func142 rfl Tryz.call142 rfl rfl hQ (kcast (by kernel_rfl) h)
def q8c:Ann:=.nil
theorem qbj {Q:Int->Prop} (a:DE) (hQ:∃ r,Q r) (h:
 (brV (decide ((0:Int)<a.1)) (Q (1:Int)) (brV (decide (a.1<(0:Int))) (Q (-(1:Int))) (Q (0:Int))))):
 callV Pg q1f [⟨tEI,a⟩] tI Q:=
 q02 (c:=q00 Tryz.f112) (ann:=q8c) Tryz.func112 rfl Tryz.call112 rfl rfl hQ (kcast (by kernel_rfl) h)
def q8d:Ann:=let x:Shape:=⟨[],[.var 4 tI,.var 5 (.int .u64)]⟩;(.s (.s (.s (.seq (.blk none (.s (.cond (some x) .nil (.s (.cond (some x) .nil .nil))))) (.seq (.reg [] [(7,([34],false))] none) .nil)))))
theorem q7Z {Q:(Int×(DL×Unit))->Prop} (a:DE) (hQ:∃ r,Q r) (h:
 (brV (notB (Option.isNone a.2)) (Q (a.1,a.2,())) (joinV (Int×Int) (fun (i,j)=>((0:Int)<=(32:Int))/\callV Pg q2K [⟨tD,some [IntKind.wrap IntKind.u32 j,IntKind.wrap IntKind.u32 (shrI IntKind.u64 j (32:Int))]⟩] tD (fun p1=>Q (i,p1,()))) (fun k0=>brV (decide ((0:Int)<a.1)) (k0 ((1:Int),IntKind.wrap IntKind.u64 a.1)) (joinV (Int×Int) (fun i=>k0 i) (fun k1=>brV (decide (a.1<(0:Int))) (k1 (-(1:Int),IntKind.wrap IntKind.u64 (IntKind.wrap IntKind.i64 ((0:Int) - a.1)))) (k1 ((0:Int),(0:Int))))))))):
 callV Pg q0M [⟨tEI,a⟩] (.tup (.pair tI (.pair tD .unit))) Q:=
 q02 (c:=q00 Tryz.f136) (ann:=q8d) Tryz.func136 rfl Tryz.call136 rfl rfl hQ (kcast (by kernel_rfl) h)
def q8e:Ann:=(.s (.seq (.seq (.reg [] [] (some ⟨[(2,.ref 2 0)],[.var 0 tI,.var 10 .bool,.box 2 tEI]⟩)) .nil) (.s (.s (.seq (.s (.cond (some ⟨[(2,.ref 2 0)],[.var 3 tI,.var 4 (.int .u64),.box 2 tEI]⟩) .nil .nil)) .nil)))))
theorem qbk {Q:DE->Prop} (a:Int) (hQ:∃ r,Q r) (h:
 (joinV (Int×Bool×DE) (fun (i,j,k)=>brV j (Q (i,none)) (joinV (Int×Int×DE) (fun (l,m,_)=>((0:Int)<=(32:Int))/\Q (l,some [IntKind.wrap IntKind.u32 m,IntKind.wrap IntKind.u32 (shrI IntKind.u64 m (32:Int))])) (fun k1=>brV (decide (i<(0:Int))) (k1 (-(1:Int),IntKind.wrap IntKind.u64 ((0:Int) - (IntKind.wrap IntKind.u64 i)),k)) (k1 ((1:Int),IntKind.wrap IntKind.u64 i,k))))) (fun k0=>brV (decide ((-(4611686018427387904:Int))<a)) (k0 (a,decide (a<(4611686018427387904:Int)),(0:Int),none)) (k0 (a,false,(0:Int),none))))):
 callV Pg q1g [⟨tI,a⟩] tEI Q:=
 q02 (c:=q00 Tryz.f135) (ann:=q8e) Tryz.func135 rfl Tryz.call135 rfl rfl hQ (kcast (by kernel_rfl) h)
def q8f:Ann:=(.s (.seq (.seq (.reg [] [] (some ⟨[(2,.ref 2 0),(3,.ref 3 0),(4,.ref 4 0)],[.var 10 .bool,.box 2 tER,.box 3 tER,.box 4 tER]⟩)) .nil) .nil))
theorem qbl {Q:DR->Prop} (a:DR) (b:DR) (hQ:∃ r,Q r) (h:
 (joinV (Bool×DR×DR×DR) (fun (i,j,k,_)=>brV i (callV Pg q3I [⟨tEI,j.1⟩,⟨tEI,k.1⟩] tEI (fun p1=>Q (p1,(0:Int),none))) (callV Pg q0B [⟨tER,k⟩] tEI (fun p1=>callV Pg q0L [⟨tEI,j.1⟩,⟨tEI,p1⟩] tEI (fun p2=>callV Pg q0B [⟨tER,j⟩] tEI (fun p3=>callV Pg q0L [⟨tEI,k.1⟩,⟨tEI,p3⟩] tEI (fun p4=>callV Pg q3I [⟨tEI,p2⟩,⟨tEI,p4⟩] tEI (fun p5=>callV Pg q0B [⟨tER,j⟩] tEI (fun p6=>callV Pg q0B [⟨tER,k⟩] tEI (fun p7=>callV Pg q0L [⟨tEI,p6⟩,⟨tEI,p7⟩] tEI (fun p8=>callV Pg q21 [⟨tEI,p5⟩,⟨tEI,p8⟩] tER (fun p9=>Q p9))))))))))) (fun k0=>callV Pg q20 [⟨tER,a⟩] .bool (fun p1=>brV p1 (callV Pg q20 [⟨tER,b⟩] .bool (fun p2=>k0 (p2,a,b,r0))) (k0 (false,a,b,r0)))))):
 callV Pg q0N [⟨tER,a⟩,⟨tER,b⟩] tER Q:=
 q02 (c:=q00 Tryz.f50) (ann:=q8f) Tryz.func50 rfl Tryz.call50 rfl rfl hQ (kcast (by kernel_rfl) h)
def q8g:Ann:=.nil
theorem qbm {Q:Int->Prop} (a:DR) (b:DR) (hQ:∃ r,Q r) (h:
 (callV Pg q3K [⟨tER,a⟩,⟨tER,b⟩] tER (fun p0=>callV Pg q0n [⟨tER,p0⟩] tI (fun p1=>Q p1)))):
 callV Pg q1B [⟨tER,a⟩,⟨tER,b⟩] tI Q:=
 q02 (c:=q00 Tryz.f62) (ann:=q8g) Tryz.func62 rfl Tryz.call62 rfl rfl hQ (kcast (by kernel_rfl) h)
def q8h:Ann:=.nil
theorem qbn {Q:DR->Prop} (a:DR) (b:DR) (hQ:∃ r,Q r) (h:
 (callV Pg q0B [⟨tER,b⟩] tEI (fun p0=>callV Pg q0L [⟨tEI,a.1⟩,⟨tEI,p0⟩] tEI (fun p1=>callV Pg q0B [⟨tER,a⟩] tEI (fun p2=>callV Pg q0L [⟨tEI,p2⟩,⟨tEI,b.1⟩] tEI (fun p3=>callV Pg q21 [⟨tEI,p1⟩,⟨tEI,p3⟩] tER (fun p4=>Q p4))))))):
 callV Pg q3J [⟨tER,a⟩,⟨tER,b⟩] tER Q:=
 q02 (c:=q00 Tryz.f96) (ann:=q8h) Tryz.func96 rfl Tryz.call96 rfl rfl hQ (kcast (by kernel_rfl) h)
def q8i:Ann:=.nil
theorem qbo {Q:DE->Prop} (a:DR) (hQ:∃ r,Q r) (h:
 (callV Pg q1f [⟨tEI,a.2⟩] tI (fun p0=>brV (decide (p0=(0:Int))) (callV Pg q4G [] tEI (fun p1=>Q p1)) (Q a.2)))):
 callV Pg q0B [⟨tER,a⟩] tEI Q:=
 q02 (c:=q00 Tryz.f94) (ann:=q8i) Tryz.func94 rfl Tryz.call94 rfl rfl hQ (kcast (by kernel_rfl) h)
def q8j:Ann:=(.s (.seq (.seq (.reg [] [] (some ⟨[(2,.ref 2 0),(3,.ref 3 0),(4,.ref 4 0)],[.var 10 .bool,.box 2 tER,.box 3 tER,.box 4 tER]⟩)) .nil) .nil))
theorem qbp {Q:DR->Prop} (a:DR) (b:DR) (hQ:∃ r,Q r) (h:
 (joinV (Bool×DR×DR×DR) (fun (i,j,k,_)=>brV i (callV Pg q0L [⟨tEI,j.1⟩,⟨tEI,k.1⟩] tEI (fun p1=>Q (p1,(0:Int),none))) (callV Pg q0L [⟨tEI,j.1⟩,⟨tEI,k.1⟩] tEI (fun p1=>callV Pg q0B [⟨tER,j⟩] tEI (fun p2=>callV Pg q0B [⟨tER,k⟩] tEI (fun p3=>callV Pg q0L [⟨tEI,p2⟩,⟨tEI,p3⟩] tEI (fun p4=>callV Pg q21 [⟨tEI,p1⟩,⟨tEI,p4⟩] tER (fun p5=>Q p5))))))) (fun k0=>callV Pg q20 [⟨tER,a⟩] .bool (fun p1=>brV p1 (callV Pg q20 [⟨tER,b⟩] .bool (fun p2=>k0 (p2,a,b,r0))) (k0 (false,a,b,r0)))))):
 callV Pg q0Y [⟨tER,a⟩,⟨tER,b⟩] tER Q:=
 q02 (c:=q00 Tryz.f60) (ann:=q8j) Tryz.func60 rfl Tryz.call60 rfl rfl hQ (kcast (by kernel_rfl) h)
def q8k:Ann:=.nil
theorem qbq {Q:DR->Prop} (a:DR) (hQ:∃ r,Q r) (h:
 (callV Pg q1Z [⟨tEI,a.1⟩] tEI (fun p0=>Q (p0,a.2)))):
 callV Pg q2I [⟨tER,a⟩] tER Q:=
 q02 (c:=q00 Tryz.f127) (ann:=q8k) Tryz.func127 rfl Tryz.call127 rfl rfl hQ (kcast (by kernel_rfl) h)
def q8l:Ann:=.nil
theorem qbr {Q:Int->Prop} (a:DR) (hQ:∃ r,Q r) (h:
 (callV Pg q1f [⟨tEI,a.1⟩] tI (fun p0=>Q p0))):
 callV Pg q0n [⟨tER,a⟩] tI Q:=
 q02 (c:=q00 Tryz.f63) (ann:=q8l) Tryz.func63 rfl Tryz.call63 rfl rfl hQ (kcast (by kernel_rfl) h)
def q8m:Ann:=.nil
theorem qbs {Q:DR->Prop} (a:DR) (b:DR) (hQ:∃ r,Q r) (h:
 (callV Pg q2I [⟨tER,b⟩] tER (fun p0=>callV Pg q0N [⟨tER,a⟩,⟨tER,p0⟩] tER (fun p1=>Q p1)))):
 callV Pg q3K [⟨tER,a⟩,⟨tER,b⟩] tER Q:=
 q02 (c:=q00 Tryz.f86) (ann:=q8m) Tryz.func86 rfl Tryz.call86 rfl rfl hQ (kcast (by kernel_rfl) h)
def q8n:Ann:=.nil
theorem qbt {Q:DE->Prop} (a:DR) (hQ:∃ r,Q r) (h:
 (Q a.1)):
 callV Pg q4E [⟨tER,a⟩] tEI Q:=
 q02 (c:=q00 Tryz.f92) (ann:=q8n) Tryz.func92 rfl Tryz.call92 rfl rfl hQ (kcast (by kernel_rfl) h)
def q8o:Ann:=(.s (.seq (.reg [] [] (some ⟨[],[.var 2 .bool]⟩)) .nil))
theorem qbu {Q:Bool->Prop} (a:DR) (hQ:∃ r,Q r) (h:
 (joinV Bool (fun p0=>Q p0) (fun k0=>brV (Option.isNone a.2.2) (k0 (decide (a.2.1<=(1:Int)))) (k0 false)))):
 callV Pg q20 [⟨tER,a⟩] .bool Q:=
 q02 (c:=q00 Tryz.f98) (ann:=q8o) Tryz.func98 rfl Tryz.call98 rfl rfl hQ (kcast (by kernel_rfl) h)
def q8p:Ann:=let x:Shape:=⟨[(2,.ref 2 0),(3,.ref 3 0),(4,.ref 4 0)],[.box 2 tEI,.box 3 tEI,.box 4 tER]⟩;(.s (.seq (.s (.seq (.reg [] [] (some ⟨[(2,.ref 2 0),(3,.ref 3 0),(4,.ref 4 0),(5,.ref 5 0)],[.var 16 .bool,.box 2 tEI,.box 3 tEI,.box 4 tER,.box 5 tEI]⟩)) (.cond (some x) .nil .nil))) (.seq (.s (.cond (some x) .nil .nil)) .nil)))
theorem qbv {Q:DR->Prop} (a:DE) (b:DE) (hQ:∃ r,Q r) (h:
 (callV Pg q3G [⟨tEI,a⟩,⟨tEI,b⟩] tEI (fun p0=>joinV (Bool×DE×DE×DR×DE) (fun (i,j,k,l,m)=>joinV (DE×DE×DR) (fun (n,o,p)=>callV Pg q1f [⟨tEI,o⟩] tI (fun p3=>joinV (DE×DE×DR) (fun (q,r,_)=>Q (q,r)) (fun k4=>brV (decide (p3<(0:Int))) (callV Pg q1Z [⟨tEI,n⟩] tEI (fun p5=>callV Pg q1Z [⟨tEI,o⟩] tEI (fun p6=>k4 (p5,p6,p)))) (k4 (n,o,p))))) (fun k2=>brV i (callV Pg q2H [⟨tEI,j⟩,⟨tEI,m⟩] (.tup (.pair tEI (.pair tEI .unit))) (fun p3=>callV Pg q2H [⟨tEI,k⟩,⟨tEI,m⟩] (.tup (.pair tEI (.pair tEI .unit))) (fun p4=>k2 (p3.1,p4.1,l)))) (k2 (j,k,l)))) (fun k1=>brV (notB (decide (p0.1=(1:Int)))) (k1 (true,a,b,r0,p0)) (k1 (notB (Option.isNone p0.2),a,b,r0,p0)))))):
 callV Pg q21 [⟨tEI,a⟩,⟨tEI,b⟩] tER Q:=
 q02 (c:=q00 Tryz.f100) (ann:=q8p) Tryz.func100 rfl Tryz.call100 rfl rfl hQ (kcast (by kernel_rfl) h)
def q8q:Ann:=.nil
theorem qbw {Q:DR->Prop} (a:Int) (hQ:∃ r,Q r) (h:
 (callV Pg q1g [⟨tI,a⟩] tEI (fun p0=>Q (p0,(0:Int),none)))):
 callV Pg q22 [⟨tI,a⟩] tER Q:=
 q02 (c:=q00 Tryz.f111) (ann:=q8q) Tryz.func111 rfl Tryz.call111 rfl rfl hQ (kcast (by kernel_rfl) h)
def q8r:Ann:=(.s (.s (.seq (.s (.blk none (.loop ⟨[],[.var 0 tD,.var 1 tD,.var 5 tI]⟩ .nil))) .nil)))
theorem qbx {Q:Int->Prop} (a:DL) (b:DL) (hQ:∃ r,Q r) (h:
 (brV (notB (decide ((szSl a)=(szSl b)))) (brV (decide ((szSl a)<(szSl b))) (Q (-(1:Int))) (Q (1:Int))) (loopV (DL×DL×Int) (fun k0  (i,j,k)=>brV (decide ((0:Int)<=k)) (inS i k/\inS j k/\brV (notB (decide ((eltS (0:Int) i k)=(eltS (0:Int) j k)))) (inS i k/\inS j k/\brV (decide ((eltS (0:Int) i k)<(eltS (0:Int) j k))) (Q (-(1:Int))) (Q (1:Int))) (k0 (i,j,IntKind.wrap IntKind.i64 (k - (1:Int))))) (Q (0:Int))) (a,b,IntKind.wrap IntKind.i64 ((szSl a) - (1:Int)))))):
 callV Pg q2J [⟨tD,a⟩,⟨tD,b⟩] tI Q:=
 q02 (c:=q00 Tryz.f139) (ann:=q8r) Tryz.func139 rfl Tryz.call139 rfl rfl hQ (kcast (by kernel_rfl) h)
def q8t:Ann:=(.s (.s (.seq (.s (.cond (some ⟨[(4,.ref 4 0)],[.var 0 tI,.var 1 tD,.box 4 tEI]⟩) (.s (.seq (.s (.blk none (.loop ⟨[(4,.ref 4 0)],[.var 0 tI,.var 1 tD,.var 5 (.int .u64),.var 13 tD,.var 14 tI,.var 15 tI,.box 4 tEI]⟩ .nil))) .nil)) .nil)) .nil)))
theorem qbz {Q:DE->Prop} (a:Int) (b:DL) (hQ:∃ r,Q r) (h:
 (callV Pg q2K [⟨tD,b⟩] tD (fun p0=>joinV (Int×DL×DE) (fun (i,j,_)=>Q (i,j)) (fun k1=>brV (decide ((szSl p0)<=(2:Int))) (loopV (Int×DL×Int×DL×Int×Int×DE) (fun k2  (i,j,k,l,m,n,o)=>brV (decide (n<m)) (inS l n/\((0:Int)<=(IntKind.wrap IntKind.i64 ((32:Int)*n)))/\k2 (i,j,bitI BinOp.or IntKind.u64 k (shlI IntKind.u64 (IntKind.wrap IntKind.u64 (eltS (0:Int) l n)) (IntKind.wrap IntKind.i64 ((32:Int)*n))),l,m,IntKind.wrap IntKind.i64 (n+(1:Int)),o)) (brV (decide (k<(4611686018427387904:Int))) (Q (IntKind.wrap IntKind.i64 (i*(IntKind.wrap IntKind.i64 k)),none)) (k1 (i,j,o)))) (a,p0,(0:Int),p0,szSl p0,(0:Int),(0:Int),none)) (k1 (a,p0,(0:Int),none)))))):
 callV Pg q0o [⟨tI,a⟩,⟨tD,b⟩] tEI Q:=
 q02 (c:=q00 Tryz.f137) (ann:=q8t) Tryz.func137 rfl Tryz.call137 rfl rfl hQ (kcast (by kernel_rfl) h)
def q8u:Ann:=(.s (.s (.s (.seq (.s (.blk none (.loop ⟨[(5,.own 1005)],[.var 0 tD,.var 1 tD,.var 6 tU,.var 14 tI,.var 15 tI,.arr 1005 tU]⟩ (.s (.s (.seq (.blk none (.s (.s (.seq (.s (.cond (some ⟨[(5,.own 1005)],[.var 0 tD,.var 1 tD,.var 6 tU,.var 7 tI,.var 8 tU,.var 14 tI,.var 15 tI,.arr 1005 tU]⟩) .nil .nil)) .nil)))) .nil)))))) .nil))))
theorem qbA {Q:DL->Prop} (a:DL) (b:DL) (hQ:∃ r,Q r) (h:
 (mkC 4 (0:Int) (szSl a)/\loopV (DL×DL×Int×Int×DE) (fun k0  (i,j,k,l,m)=>brV (decide (m.1<l)) (joinV (DL×DL×Int×Int×Int×Int×DE) (fun (n,o,p,q,r,s,t)=>inS n q/\callV Pg q4P [⟨tU,eltS (0:Int) n q⟩,⟨tU,r⟩,⟨tU,p⟩] (.tup (.pair tU (.pair tU .unit))) (fun p3=>appC 4 t.2 (lst (some [p3.1]))/\k0 (n,o,p3.2.1,s,IntKind.wrap IntKind.i64 (t.1+(1:Int)),appL t.2 (lst (some [p3.1]))))) (fun k2=>brV (decide (m.1<(szSl j))) (inS j m.1/\k2 (i,j,k,m.1,eltS (0:Int) j m.1,l,m)) (k2 (i,j,k,m.1,(0:Int),l,m)))) (Q m.2)) (a,b,(0:Int),szSl a,(0:Int),some (repS (0:Int) (0:Int))))):
 callV Pg q23 [⟨tD,a⟩,⟨tD,b⟩] tD Q:=
 q02 (c:=q00 Tryz.f140) (ann:=q8u) Tryz.func140 rfl Tryz.call140 rfl rfl hQ (kcast (by kernel_rfl) h)
def q8v:Ann:=.nil
theorem qbB {Q:DE->Prop} (hQ:∃ r,Q r) (h:
 (Q ((1:Int),none))):
 callV Pg q4G [] tEI Q:=
 q02 (c:=q00 Tryz.f134) (ann:=q8v) Tryz.func134 rfl Tryz.call134 rfl rfl hQ (kcast (by kernel_rfl) h)
def q8w:Ann:=(.s (.seq (.s (.cond (some ⟨[],[.var 0 tD,.var 1 tD]⟩) .nil .nil)) (.s (.s (.seq (.s (.blk none (.loop ⟨[(5,.own 1005)],[.var 0 tD,.var 1 tD,.var 6 tU,.var 22 tI,.var 23 tI,.arr 1005 tU]⟩ (.s (.s (.seq (.blk none (.s (.s (.seq (.s (.cond (some ⟨[(5,.own 1005)],[.var 0 tD,.var 1 tD,.var 6 tU,.var 7 tI,.var 8 tU,.var 22 tI,.var 23 tI,.arr 1005 tU]⟩) .nil .nil)) .nil)))) .nil)))))) .nil)))))
theorem qbC {Q:DL->Prop} (a:DL) (b:DL) (hQ:∃ r,Q r) (h:
 (joinV (DL×DL) (fun (i,j)=>mkC 4 (0:Int) (IntKind.wrap IntKind.i64 ((szSl i)+(1:Int)))/\loopV (DL×DL×Int×Int×DE) (fun k1  (k,l,m,n,o)=>brV (decide (o.1<n)) (joinV (DL×DL×Int×Int×Int×Int×DE) (fun (p,q,r,s,t,u,v)=>inS p s/\callV Pg q3O [⟨tU,eltS (0:Int) p s⟩,⟨tU,t⟩,⟨tU,r⟩] (.tup (.pair tU (.pair tU .unit))) (fun p4=>appC 4 v.2 (lst (some [p4.1]))/\k1 (p,q,p4.2.1,u,IntKind.wrap IntKind.i64 (v.1+(1:Int)),appL v.2 (lst (some [p4.1]))))) (fun k3=>brV (decide (o.1<(szSl l))) (inS l o.1/\k3 (k,l,m,o.1,eltS (0:Int) l o.1,n,o)) (k3 (k,l,m,o.1,(0:Int),n,o)))) (appC 4 o.2 (lst (some [m]))/\Q (appL o.2 (lst (some [m]))))) (i,j,(0:Int),szSl i,(0:Int),some (repS (0:Int) (0:Int)))) (fun k0=>brV (decide ((szSl a)<(szSl b))) (k0 (b,a)) (k0 (a,b))))):
 callV Pg q3L [⟨tD,a⟩,⟨tD,b⟩] tD Q:=
 q02 (c:=q00 Tryz.f138) (ann:=q8w) Tryz.func138 rfl Tryz.call138 rfl rfl hQ (kcast (by kernel_rfl) h)
def q8x:Ann:=(.s (.s (.seq (.s (.blk none (.loop ⟨[(5,.own 12)],[.var 1 tI,.var 13 tD,.var 14 tI,.var 15 tI,.arr 12 tU]⟩ .nil))) .nil)))
theorem qbD {Q:DL->Prop} (a:DL) (b:Int) (hQ:∃ r,Q r) (h:
 (mkC 4 (IntKind.wrap IntKind.i64 ((szSl a)+(1:Int))) (IntKind.wrap IntKind.i64 ((szSl a)+(1:Int)))/\loopV (Int×DL×Int×DE) (fun k0  (i,j,k,l)=>brV (decide (l.1<k)) (inS j l.1/\((0:Int)<=i)/\inS l.2 l.1/\inS l.2 l.1/\((0:Int)<=(32:Int))/\inS (setO l.2 (toN l.1) (bitI BinOp.or IntKind.u32 (eltN (0:Int) l.2 (toN l.1)) (IntKind.wrap IntKind.u32 (shlI IntKind.u64 (IntKind.wrap IntKind.u64 (eltS (0:Int) j l.1)) i)))) (IntKind.wrap IntKind.i64 (l.1+(1:Int)))/\k0 (i,j,k,IntKind.wrap IntKind.i64 (l.1+(1:Int)),setO (setO l.2 (toN l.1) (bitI BinOp.or IntKind.u32 (eltN (0:Int) l.2 (toN l.1)) (IntKind.wrap IntKind.u32 (shlI IntKind.u64 (IntKind.wrap IntKind.u64 (eltS (0:Int) j l.1)) i)))) (toN (IntKind.wrap IntKind.i64 (l.1+(1:Int)))) (IntKind.wrap IntKind.u32 (shrI IntKind.u64 (shlI IntKind.u64 (IntKind.wrap IntKind.u64 (eltS (0:Int) j l.1)) i) (32:Int))))) (Q l.2)) (b,a,szSl a,(0:Int),some (repS (IntKind.wrap IntKind.i64 ((szSl a)+(1:Int))) (0:Int))))):
 ownV Pg q3M [⟨tD,a⟩,⟨tI,b⟩] tU Q:=
 q2m (c:=q00 Tryz.f184) (ann:=q8x) Tryz.func184 rfl Tryz.call184 rfl rfl hQ (kcast (by kernel_rfl) h)
def q8y:Ann:=(.s (.s (.s (.seq (.s (.blk none (.loop ⟨[(6,.own 11)],[.var 0 tD,.var 1 tU,.var 7 tU,.var 8 tI,.arr 11 tU]⟩ .nil))) .nil))))
theorem qbE {Q:(DL×(Int×Unit))->Prop} (a:DL) (b:Int) (hQ:∃ r,Q r) (h:
 (mkC 4 (szSl a) (szSl a)/\loopV (DL×Int×Int×DE) (fun k0  (i,j,k,l)=>brV (decide ((0:Int)<=l.1)) (inS i l.1/\callV Pg q4J [⟨tU,k⟩,⟨tU,eltS (0:Int) i l.1⟩,⟨tU,j⟩] (.tup (.pair tU (.pair tU .unit))) (fun p2=>inS l.2 l.1/\k0 (i,j,p2.2.1,IntKind.wrap IntKind.i64 (l.1 - (1:Int)),setO l.2 (toN l.1) p2.1))) (Q (l.2,k,()))) (a,b,(0:Int),IntKind.wrap IntKind.i64 ((szSl a) - (1:Int)),some (repS (szSl a) (0:Int))))):
 callV Pg q4H [⟨tD,a⟩,⟨tU,b⟩] (.tup (.pair tD (.pair tU .unit))) Q:=
 q02 (c:=q00 Tryz.f163) (ann:=q8y) Tryz.func163 rfl Tryz.call163 rfl rfl hQ (kcast (by kernel_rfl) h)
def q8z:Ann:=(.s (.seq (.blk none (.loop ⟨[],[.var 0 tD]⟩ (.seq (.seq (.reg [] [] (some ⟨[],[.var 0 tD,.var 14 .bool]⟩)) .nil) .nil))) .nil))
theorem qbF {Q:DL->Prop} (a:DL) (hQ:∃ r,Q r) (h:
 (loopV DL (fun k0  p1=>joinV (DL×Bool) (fun (i,j)=>brV j (inR i (0:Int) (IntKind.wrap IntKind.i64 ((szSl i) - (1:Int)))/\k0 (slcS i (0:Int) (IntKind.wrap IntKind.i64 ((szSl i) - (1:Int))))) (Q i)) (fun k2=>brV (decide ((0:Int)<(szSl p1))) (inS p1 (IntKind.wrap IntKind.i64 ((szSl p1) - (1:Int)))/\k2 (p1,decide ((eltS (0:Int) p1 (IntKind.wrap IntKind.i64 ((szSl p1) - (1:Int))))=(0:Int)))) (k2 (p1,false)))) a)):
 callV Pg q2K [⟨tD,a⟩] tD Q:=
 q02 (c:=q00 Tryz.f159) (ann:=q8z) Tryz.func159 rfl Tryz.call159 rfl rfl hQ (kcast (by kernel_rfl) h)
def q8K:Ann:=.nil
theorem qbQ {Q:(Int×(Int×Unit))->Prop} (a:Int) (b:Int) (c:Int) (hQ:∃ r,Q r) (h:
 (((0:Int)<=(32:Int))/\Q (IntKind.wrap IntKind.u32 (IntKind.wrap IntKind.u64 ((IntKind.wrap IntKind.u64 ((IntKind.wrap IntKind.u64 a)+(IntKind.wrap IntKind.u64 b)))+(IntKind.wrap IntKind.u64 c))),IntKind.wrap IntKind.u32 (shrI IntKind.u64 (IntKind.wrap IntKind.u64 ((IntKind.wrap IntKind.u64 ((IntKind.wrap IntKind.u64 a)+(IntKind.wrap IntKind.u64 b)))+(IntKind.wrap IntKind.u64 c))) (32:Int)),()))):
 callV Pg q3O [⟨tU,a⟩,⟨tU,b⟩,⟨tU,c⟩] (.tup (.pair tU (.pair tU .unit))) Q:=
 q02 (c:=q00 Tryz.f160) (ann:=q8K) Tryz.func160 rfl Tryz.call160 rfl rfl hQ (kcast (by kernel_rfl) h)
def q8L:Ann:=(.s (.seq (.seq (.reg [] [] (some ⟨[],[.var 0 tU,.var 1 tU,.var 2 tU,.var 15 .bool]⟩)) .nil) .nil))
theorem qbR {Q:(Int×(Int×Unit))->Prop} (a:Int) (b:Int) (c:Int) (hQ:∃ r,Q r) (h:
 (joinV (Int×Int×Int×Bool) (fun (i,j,k,l)=>brV l False (((0:Int)<=(32:Int))/\((IntKind.wrap IntKind.u64 k)≠(0:Int))/\((IntKind.wrap IntKind.u64 k)≠(0:Int))/\Q (IntKind.wrap IntKind.u32 (IntKind.wrap IntKind.u64 (Int.tdiv (bitI BinOp.or IntKind.u64 (shlI IntKind.u64 (IntKind.wrap IntKind.u64 i) (32:Int)) (IntKind.wrap IntKind.u64 j)) (IntKind.wrap IntKind.u64 k))),IntKind.wrap IntKind.u32 (Int.tmod (bitI BinOp.or IntKind.u64 (shlI IntKind.u64 (IntKind.wrap IntKind.u64 i) (32:Int)) (IntKind.wrap IntKind.u64 j)) (IntKind.wrap IntKind.u64 k)),()))) (fun k0=>brV (notB (decide (c=(0:Int)))) (k0 (a,b,c,decide (c<=a))) (k0 (a,b,c,false))))):
 callV Pg q4J [⟨tU,a⟩,⟨tU,b⟩,⟨tU,c⟩] (.tup (.pair tU (.pair tU .unit))) Q:=
 q02 (c:=q00 Tryz.f182) (ann:=q8L) Tryz.func182 rfl Tryz.call182 rfl rfl hQ (kcast (by kernel_rfl) h)
def q8M:Ann:=.nil
theorem qbS {Q:Int->Prop} (a:Int) (hQ:∃ r,Q r) (h:
 (callV Pg q4M [⟨tU,a⟩] tI (fun p0=>Q (IntKind.wrap IntKind.i64 ((32:Int) - p0))))):
 callV Pg q4K [⟨tU,a⟩] tI Q:=
 q02 (c:=q00 Tryz.f183) (ann:=q8M) Tryz.func183 rfl Tryz.call183 rfl rfl hQ (kcast (by kernel_rfl) h)
def q8O:Ann:=let x:Shape:=⟨[],[.var 0 tU,.var 2 tI]⟩;(.s (.seq (.s (.cond (some x) .nil .nil)) (.seq (.s (.cond (some x) .nil .nil)) .nil)))
theorem qbU {Q:Int->Prop} (a:Int) (hQ:∃ r,Q r) (h:
 (joinV (Int×Int) (fun (i,j)=>joinV (Int×Int) (fun (k,l)=>(((0:Int)<=(IntKind.wrap IntKind.u8 k))/\((IntKind.wrap IntKind.u8 k)<(szStr (bytesL [0,1,2,2,3,3,3,3,4,4,4,4,4,4,4,4,5,5,5,5,5,5,5,5,5,5,5,5,5,5,5,5,6,6,6,6,6,6,6,6,6,6,6,6,6,6,6,6,6,6,6,6,6,6,6,6,6,6,6,6,6,6,6,6,7,7,7,7,7,7,7,7,7,7,7,7,7,7,7,7,7,7,7,7,7,7,7,7,7,7,7,7,7,7,7,7,7,7,7,7,7,7,7,7,7,7,7,7,7,7,7,7,7,7,7,7,7,7,7,7,7,7,7,7,7,7,7,7,8,8,8,8,8,8,8,8,8,8,8,8,8,8,8,8,8,8,8,8,8,8,8,8,8,8,8,8,8,8,8,8,8,8,8,8,8,8,8,8,8,8,8,8,8,8,8,8,8,8,8,8,8,8,8,8,8,8,8,8,8,8,8,8,8,8,8,8,8,8,8,8,8,8,8,8,8,8,8,8,8,8,8,8,8,8,8,8,8,8,8,8,8,8,8,8,8,8,8,8,8,8,8,8,8,8,8,8,8,8,8,8,8,8,8,8,8,8,8,8,8,8,8,8,8,8,8,8]))))/\Q (IntKind.wrap IntKind.i64 (l+(IntKind.wrap IntKind.i64 (byteAt (bytesL [0,1,2,2,3,3,3,3,4,4,4,4,4,4,4,4,5,5,5,5,5,5,5,5,5,5,5,5,5,5,5,5,6,6,6,6,6,6,6,6,6,6,6,6,6,6,6,6,6,6,6,6,6,6,6,6,6,6,6,6,6,6,6,6,7,7,7,7,7,7,7,7,7,7,7,7,7,7,7,7,7,7,7,7,7,7,7,7,7,7,7,7,7,7,7,7,7,7,7,7,7,7,7,7,7,7,7,7,7,7,7,7,7,7,7,7,7,7,7,7,7,7,7,7,7,7,7,7,8,8,8,8,8,8,8,8,8,8,8,8,8,8,8,8,8,8,8,8,8,8,8,8,8,8,8,8,8,8,8,8,8,8,8,8,8,8,8,8,8,8,8,8,8,8,8,8,8,8,8,8,8,8,8,8,8,8,8,8,8,8,8,8,8,8,8,8,8,8,8,8,8,8,8,8,8,8,8,8,8,8,8,8,8,8,8,8,8,8,8,8,8,8,8,8,8,8,8,8,8,8,8,8,8,8,8,8,8,8,8,8,8,8,8,8,8,8,8,8,8,8,8,8,8,8,8,8]) (IntKind.wrap IntKind.u8 k)))))) (fun k1=>brV (decide ((256:Int)<=i)) (((0:Int)<=(8:Int))/\k1 (shrI IntKind.u32 i (8:Int),IntKind.wrap IntKind.i64 (j+(8:Int)))) (k1 (i,j)))) (fun k0=>brV (decide ((65536:Int)<=a)) (((0:Int)<=(16:Int))/\k0 (shrI IntKind.u32 a (16:Int),(16:Int))) (k0 (a,(0:Int)))))):
 callV Pg q4M [⟨tU,a⟩] tI Q:=
 q02 (c:=q00 Tryz.f180) (ann:=q8O) Tryz.func180 rfl Tryz.call180 rfl rfl hQ (kcast (by kernel_rfl) h)
def q8Q:Ann:=.nil
theorem qbW {Q:(Int×(Int×Unit))->Prop} (a:Int) (b:Int) (hQ:∃ r,Q r) (h:
 (((0:Int)<=(32:Int))/\((0:Int)<=(32:Int))/\((0:Int)<=(32:Int))/\((0:Int)<=(32:Int))/\((0:Int)<=(32:Int))/\Q (IntKind.wrap IntKind.u64 ((IntKind.wrap IntKind.u64 ((IntKind.wrap IntKind.u64 ((shrI IntKind.u64 a (32:Int))*(shrI IntKind.u64 b (32:Int))))+(shrI IntKind.u64 (IntKind.wrap IntKind.u64 ((IntKind.wrap IntKind.u64 ((shrI IntKind.u64 a (32:Int))*(bitI BinOp.and IntKind.u64 b (4294967295:Int))))+(shrI IntKind.u64 (IntKind.wrap IntKind.u64 ((bitI BinOp.and IntKind.u64 a (4294967295:Int))*(bitI BinOp.and IntKind.u64 b (4294967295:Int)))) (32:Int)))) (32:Int))))+(shrI IntKind.u64 (IntKind.wrap IntKind.u64 ((bitI BinOp.and IntKind.u64 (IntKind.wrap IntKind.u64 ((IntKind.wrap IntKind.u64 ((shrI IntKind.u64 a (32:Int))*(bitI BinOp.and IntKind.u64 b (4294967295:Int))))+(shrI IntKind.u64 (IntKind.wrap IntKind.u64 ((bitI BinOp.and IntKind.u64 a (4294967295:Int))*(bitI BinOp.and IntKind.u64 b (4294967295:Int)))) (32:Int)))) (4294967295:Int))+(IntKind.wrap IntKind.u64 ((bitI BinOp.and IntKind.u64 a (4294967295:Int))*(shrI IntKind.u64 b (32:Int)))))) (32:Int))),IntKind.wrap IntKind.u64 (a*b),()))):
 callV Pg q4O [⟨(.int .u64),a⟩,⟨(.int .u64),b⟩] (.tup (.pair (.int .u64) (.pair (.int .u64) .unit))) Q:=
 q02 (c:=q00 Tryz.f144) (ann:=q8Q) Tryz.func144 rfl Tryz.call144 rfl rfl hQ (kcast (by kernel_rfl) h)
def q8R:Ann:=.nil
theorem qbX {Q:(Int×(Int×Unit))->Prop} (a:Int) (b:Int) (c:Int) (hQ:∃ r,Q r) (h:
 (((0:Int)<=(31:Int))/\Q (IntKind.wrap IntKind.u32 ((IntKind.wrap IntKind.u32 (a - b)) - c),shrI IntKind.u32 (bitI BinOp.or IntKind.u32 (bitI BinOp.and IntKind.u32 (bitI BinOp.xor IntKind.u32 ((4294967296:Int) - (1:Int)) a) b) (bitI BinOp.and IntKind.u32 (bitI BinOp.xor IntKind.u32 ((4294967296:Int) - (1:Int)) (bitI BinOp.xor IntKind.u32 a b)) (IntKind.wrap IntKind.u32 ((IntKind.wrap IntKind.u32 (a - b)) - c)))) (31:Int),()))):
 callV Pg q4P [⟨tU,a⟩,⟨tU,b⟩,⟨tU,c⟩] (.tup (.pair tU (.pair tU .unit))) Q:=
 q02 (c:=q00 Tryz.f161) (ann:=q8R) Tryz.func161 rfl Tryz.call161 rfl rfl hQ (kcast (by kernel_rfl) h)
end Go.Proofs.Pf
namespace Go.Proofs.Pf
open Go Go.VM
theorem joinE {T:Type} {k:T->Prop} {body:(T->Prop)->Prop} (h:body k):joinV T k body:=⟨h⟩
theorem s_Add32 {a b c:Int} (ha:0<=a) (ha':a<4294967296) (hb:0<=b) (hb':b<4294967296) (hc:0<=c) (hc':c<4294967296):
 callV Pg q3O [⟨tU,a⟩,⟨tU,b⟩,⟨tU,c⟩] (.tup (.pair tU (.pair tU .unit))) fun r=>r=((a+b+c) % 4294967296,(a+b+c) / 4294967296,()):=by
 refine qbQ a b c ⟨_,rfl⟩ ⟨by omega,?_⟩
 simp only[wu64m,wu32m,q2w,Prod.mk.injEq,and_true]
 omega
theorem s_Sub32 {a b c:Int} (ha:0<=a) (ha':a<4294967296) (hb:0<=b) (hb':b<4294967296) (hc:0<=c) (hc':c<=1):
 callV Pg q4P [⟨tU,a⟩,⟨tU,b⟩,⟨tU,c⟩] (.tup (.pair tU (.pair tU .unit))) fun r=>r=((a - b - c) % 4294967296,(if a<b+c then 1 else 0),()):=by
 refine qbX a b c ⟨_,rfl⟩ ⟨by omega,?_⟩
 have e:IntKind.wrap IntKind.u32 (IntKind.wrap IntKind.u32 (a - b) - c)=(a - b - c) % 4294967296:=by
  rw[wu32m,wu32m];omega
 rw[e,borrow32 ha ha' hb hb' hc hc']
theorem s_Div32 {a b c:Int} (ha:0<=a) (hb:0<=b) (hb':b<4294967296) (hc':c<4294967296) (hac:a<c):
 callV Pg q4J [⟨tU,a⟩,⟨tU,b⟩,⟨tU,c⟩] (.tup (.pair tU (.pair tU .unit))) fun r=>r=((a*4294967296+b) / c,(a*4294967296+b) % c,()):=by
 refine qbR a b c ⟨_,rfl⟩ (joinE ?_)
 have e0:decide (c=0)=false:=decide_eq_false (by omega)
 have e1:decide (c<=a)=false:=decide_eq_false (by omega)
 simp only[notB,e0,e1,Bool.not_false,brV]
 have ec:IntKind.wrap IntKind.u64 c=c:=wu64 (by omega) (by omega)
 have ea:IntKind.wrap IntKind.u64 a=a:=wu64 (by omega) (by omega)
 have eb:IntKind.wrap IntKind.u64 b=b:=wu64 (by omega) (by omega)
 have es:bitI BinOp.or IntKind.u64 (shlI IntKind.u64 a 32) b=a*4294967296+b:=by
  rw[q4j,Int.emod_eq_of_lt (by omega) (by omega),q5K hb hb' ha (by omega),Int.add_comm]
 rw[ec,ea,eb,es]
 refine⟨by omega,by omega,by omega,?_⟩
 have hn:0<=a*4294967296+b:=by omega
 rw[Int.tdiv_eq_ediv_of_nonneg hn,Int.tmod_eq_emod_of_nonneg hn]
 have hq:(a*4294967296+b) / c<4294967296:=by
  refine Int.ediv_lt_of_lt_mul (by omega) ?_
  have:(a+1)*4294967296<=c*4294967296:=by omega
  rw[Int.mul_comm 4294967296 c];omega
 have hq0:0<=(a*4294967296+b) / c:=Int.ediv_nonneg hn (by omega)
 have hr:=Int.emod_lt_of_pos (a*4294967296+b) (show 0<c by omega)
 have hr0:=Int.emod_nonneg (a*4294967296+b) (show c≠0 by omega)
 rw[wu64 hq0 (by omega),wu32 hq0 hq,wu32 hr0 (by omega)]
theorem s_Mul64 {a b:Int} (ha:0<=a) (ha':a<18446744073709551616) (hb:0<=b) (hb':b<18446744073709551616):
 callV Pg q4O [⟨.int .u64,a⟩,⟨.int .u64,b⟩] (.tup (.pair (.int .u64) (.pair (.int .u64) .unit))) fun r=>r=(a*b / 18446744073709551616,a*b % 18446744073709551616,()):=by
 refine qbW a b ⟨_,rfl⟩ ⟨by omega,by omega,by omega,by omega,by omega,?_⟩
 rw[q4u ha ha',q4u hb hb']
 simp only[q2w]
 generalize ha1:a / 4294967296=a1
 generalize hb1:b / 4294967296=b1
 generalize ha0:a % 4294967296=a0
 generalize hb0:b % 4294967296=b0
 have e:a*b=a1*b1*18446744073709551616+(a1*b0+a0*b1)*4294967296+a0*b0:=by
  have e1:a=a1*4294967296+a0:=by omega
  have e2:b=b1*4294967296+b0:=by omega
  rw[e1,e2];grind
 have bound:∀ x y:Int,0<=x->x<=4294967295->0<=y->y<=4294967295->0<=x*y/\x*y<=18446744065119617025:=by
  intro x y h1 h2 h3 h4
  refine⟨Int.mul_nonneg h1 h3,?_⟩
  have:=Int.mul_le_mul h2 h4 h3 (by omega:(0:Int)<=4294967295)
  omega
 have p1:=bound a1 b1 (by omega) (by omega) (by omega) (by omega)
 have p2:=bound a1 b0 (by omega) (by omega) (by omega) (by omega)
 have p3:=bound a0 b1 (by omega) (by omega) (by omega) (by omega)
 have p4:=bound a0 b0 (by omega) (by omega) (by omega) (by omega)
 rw[wu64m (a*b),e]
 generalize a1*b1=x1 at *
 generalize a1*b0=x2 at *
 generalize a0*b1=x3 at *
 generalize a0*b0=x4 at *
 clear e ha1 hb1 ha0 hb0 bound
 have m:∀ x:Int,0<=x->x<18446744073709551616->IntKind.wrap IntKind.u64 x=x:=fun x h1 h2=>wu64 h1 h2
 rw[m x4 (by omega) (by omega),m x1 (by omega) (by omega),m x2 (by omega) (by omega),m x3 (by omega) (by omega)]
 rw[m (x2+x4 / 4294967296) (by omega) (by omega)]
 rw[q4u (by omega) (by omega)]
 rw[m ((x2+x4 / 4294967296) % 4294967296+x3) (by omega) (by omega)]
 rw[m (x1+(x2+x4 / 4294967296) / 4294967296) (by omega) (by omega)]
 rw[m _ (by omega) (by omega)]
 simp only[Prod.mk.injEq,and_true]
 omega
def len8:List Nat:=[0,1,2,2,3,3,3,3,4,4,4,4,4,4,4,4,5,5,5,5,5,5,5,5,5,5,5,5,5,5,5,5,6,6,6,6,6,6,6,6,6,6,6,6,6,6,6,6,6,6,6,6,6,6,6,6,6,6,6,6,6,6,6,6,7,7,7,7,7,7,7,7,7,7,7,7,7,7,7,7,7,7,7,7,7,7,7,7,7,7,7,7,7,7,7,7,7,7,7,7,7,7,7,7,7,7,7,7,7,7,7,7,7,7,7,7,7,7,7,7,7,7,7,7,7,7,7,7,8,8,8,8,8,8,8,8,8,8,8,8,8,8,8,8,8,8,8,8,8,8,8,8,8,8,8,8,8,8,8,8,8,8,8,8,8,8,8,8,8,8,8,8,8,8,8,8,8,8,8,8,8,8,8,8,8,8,8,8,8,8,8,8,8,8,8,8,8,8,8,8,8,8,8,8,8,8,8,8,8,8,8,8,8,8,8,8,8,8,8,8,8,8,8,8,8,8,8,8,8,8,8,8,8,8,8,8,8,8,8,8,8,8,8,8,8,8,8,8,8,8,8,8,8,8,8,8]
theorem len8_ok:(List.range 256).all (fun i=>Nat.blt i (2 ^ len8.getD i 0) && (Nat.beq i 0 || Nat.ble (2 ^ len8.getD i 0) (2*i)) && Nat.ble (len8.getD i 0) 8)=true:=by decide +kernel
theorem byte8 {i:Int} (h1:0<=i) (h2:i<256):∃ n:Nat,byteAt (bytesL len8) i=n/\n<=8/\i<2 ^ n/\(0<i->(2:Int) ^ n<=2*i):=by
 have h:=len8_ok
 rw[List.all_eq_true] at h
 have h:=h i.toNat (by simp;omega)
 simp only[Bool.and_eq_true,Bool.or_eq_true,Nat.blt_eq,Nat.beq_eq,Nat.ble_eq] at h
 obtain⟨⟨h3,h4⟩,h5⟩:=h
 refine⟨len8.getD i.toNat 0,?_,h5,?_,fun hi=>?_⟩
 . have hl:len8.length=256:=by decide +kernel
   have hi:i.toNat<len8.length:=by omega
   simp only[List.getD,List.getElem?_eq_getElem hi,Option.getD_some] at h5
   simp only[byteAt,bytesL,List.getD,List.getElem?_map,List.getElem?_eq_getElem hi,Option.map_some,Option.getD_some]
   rw[UInt8.toNat_ofNat_of_lt' (by simp[UInt8.size];omega)]
 . have:((i.toNat:Nat):Int)<((2 ^ len8.getD i.toNat 0:Nat):Int):=Int.ofNat_lt.2 h3
   simp only[Int.natCast_pow] at this
   have e:((2:Nat):Int)=2:=rfl
   rw[e] at this;omega
 . have h4':=h4.resolve_left (by omega)
   have:((2 ^ len8.getD i.toNat 0:Nat):Int)<=((2*i.toNat:Nat):Int):=Int.ofNat_le.2 h4'
   simp only[Int.natCast_pow] at this
   have e:((2:Nat):Int)=2:=rfl
   rw[e] at this;omega
theorem q78:szStr (bytesL len8)=256:=by decide +kernel
theorem len_ex {a:Int} (ha:0<=a):∀ k:Nat,a<2 ^ k->∃ n:Nat,n<=k/\a<2 ^ n/\(0<a->(2:Int) ^ n<=2*a)
 | 0,h=>⟨0,Nat.le_refl _,h,fun h0=>by simp at h;omega⟩
 | k+1,h=>by
  by_cases h1:a<2 ^ k
  . obtain⟨n,q1,q2⟩:=len_ex ha k h1
    exact⟨n,by omega,q2⟩
  . exact⟨k+1,Nat.le_refl _,h,fun _=>by rw[Int.pow_succ];omega⟩
def L32K (a:Int) (p:Int×Int):Prop:=
 (((0:Int)<=(IntKind.wrap IntKind.u8 p.1))/\((IntKind.wrap IntKind.u8 p.1)<(szStr (bytesL len8)))) /\
  (∃ n:Nat,(IntKind.wrap IntKind.i64 (p.2+(IntKind.wrap IntKind.i64 (byteAt (bytesL len8) (IntKind.wrap IntKind.u8 p.1)))))=n/\n<=32/\a<2 ^ n/\(0<a->(2:Int) ^ n<=2*a))
theorem s_Len32 {a:Int} (ha:0<=a) (ha':a<4294967296):
 callV Pg q4M [⟨tU,a⟩] tI fun r=>∃ n:Nat,r=n/\n<=32/\a<2 ^ n/\(0<a->(2:Int) ^ n<=2*a):=by
 refine qbU a ?_ (joinE ?_)
 . obtain⟨n,q1,q2⟩:=len_ex ha 32 (by omega)
   exact⟨n,n,rfl,q1,q2⟩
 have fin:∀ p1 p2:Int,0<=p1->p1<256->(0<a->0<p1)->(∃ s:Nat,p2=s/\s<=24/\(2:Int) ^ s*p1<=a/\a<2 ^ s*(p1+1))->L32K a (p1,p2):=by
  unfold L32K
  rintro p1 p2 h1 h2 h0 ⟨s,rfl,h3,h4,h5⟩
  have e:IntKind.wrap IntKind.u8 p1=p1:=by rw[wu8m];omega
  rw[e,q78]
  obtain⟨n,q1,q2,q3,q4⟩:=byte8 h1 h2
  rw[q1,wi64 (x:=(n:Int)) (by omega) (by omega),wi64 (by omega) (by omega)]
  have hs:(0:Int)<2 ^ s:=Int.pow_pos (by decide)
  refine⟨⟨h1,h2⟩,s+n,by omega,by omega,?_,fun h0'=>?_⟩
  . rw[Int.pow_add]
    have:(2:Int) ^ s*(p1+1)<=2 ^ s*2 ^ n:=Int.mul_le_mul_of_nonneg_left (by omega) (by omega)
    omega
  . rw[Int.pow_add]
    have:(2:Int) ^ s*2 ^ n<=2 ^ s*(2*p1):=Int.mul_le_mul_of_nonneg_left (q4 (h0 h0')) (by omega)
    have e:(2:Int) ^ s*(2*p1)=2*(2 ^ s*p1):=by grind
    omega
 have two:∀ p1 p2:Int,0<=p1->p1<65536->(0<a->0<p1)->(∃ s:Nat,p2=s/\s<=16/\(2:Int) ^ s*p1<=a/\a<2 ^ s*(p1+1))->∀ k:Int×Int->Prop,
  (∀ p1 p2:Int,0<=p1->p1<256->(0<a->0<p1)->(∃ s:Nat,p2=s/\s<=24/\(2:Int) ^ s*p1<=a/\a<2 ^ s*(p1+1))->k (p1,p2))->
  brV (decide ((256:Int)<=p1)) (((0:Int)<=(8:Int))/\(k ((shrI IntKind.u32 p1 (8:Int)),(IntKind.wrap IntKind.i64 (p2+(8:Int)))))) (k (p1,p2)):=by
  rintro p1 p2 h1 h2 h0 ⟨s,rfl,h3,h4,h5⟩ k hk
  refine q01.2 ⟨fun hb=>⟨by omega,?_⟩,fun hb=>?_⟩
  . have hb:=of_decide_eq_true hb
    have e:shrI IntKind.u32 p1 8=p1 / 256:=shr32 p1 8
    rw[e,wi64 (by omega) (by omega)]
    refine hk _ _ (by omega) (by omega) (by omega) ⟨s+8,by omega,by omega,?_,?_⟩
    . rw[Int.pow_add]
      have:(2:Int) ^ s*(256*(p1 / 256))<=2 ^ s*p1:=Int.mul_le_mul_of_nonneg_left (by omega) (Int.pow_nonneg (by decide))
      have e:(2:Int) ^ s*2 ^ 8*(p1 / 256)=2 ^ s*(256*(p1 / 256)):=by grind
      omega
    . rw[Int.pow_add]
      have:(2:Int) ^ s*(p1+1)<=2 ^ s*(256*(p1 / 256+1)):=Int.mul_le_mul_of_nonneg_left (by omega) (Int.pow_nonneg (by decide))
      have e:(2:Int) ^ s*2 ^ 8*(p1 / 256+1)=2 ^ s*(256*(p1 / 256+1)):=by grind
      omega
  . have hb:=of_decide_eq_false hb
    exact hk _ _ h1 (by omega) h0 ⟨s,rfl,by omega,h4,h5⟩
 refine q01.2 ⟨fun hb=>⟨by omega,?_⟩,fun hb=>?_⟩
 . have hb:=of_decide_eq_true hb
   have e:shrI IntKind.u32 a 16=a / 65536:=shr32 a 16
   rw[e]
   refine joinE ?_
   exact two (a / 65536) 16 (by omega) (by omega) (by omega) ⟨16,rfl,by omega,by omega,by omega⟩ (L32K a) fin
 . have hb:=of_decide_eq_false hb
   refine joinE ?_
   exact two a 0 (by omega) (by omega) (by omega) ⟨0,rfl,by omega,by omega,by omega⟩ (L32K a) fin
theorem qaR {a:Int} (ha:0<a) (ha':a<4294967296):
 callV Pg q4K [⟨tU,a⟩] tI fun r=>∃ n:Nat,r=n/\n<32/\a*2 ^ n<4294967296/\2147483648<=a*2 ^ n:=by
 have key:∀ n:Nat,n<=32/\a<2 ^ n/\(0<a->(2:Int) ^ n<=2*a)->∃ m:Nat,IntKind.wrap IntKind.i64 ((32:Int) - (n:Int))=m/\m<32/\a*2 ^ m<4294967296/\2147483648<=a*2 ^ m:=by
  rintro n ⟨h1,h2,h3⟩
  have h3:=h3 ha
  have hn:n≠0:=by rintro rfl;simp at h2;omega
  refine⟨32 - n,by rw[wi64 (by omega) (by omega)];omega,by omega,?_,?_⟩
  . have e:(4294967296:Int)=2 ^ n*2 ^ (32 - n):=by rw[<-Int.pow_add,show n+(32 - n)=32 by omega];rfl
    rw[e]
    exact Int.mul_lt_mul_of_pos_right h2 (Int.pow_pos (by decide))
  . have e:(4294967296:Int)=2 ^ n*2 ^ (32 - n):=by rw[<-Int.pow_add,show n+(32 - n)=32 by omega];rfl
    have:(2:Int) ^ n*2 ^ (32 - n)<=2*a*2 ^ (32 - n):=Int.mul_le_mul_of_nonneg_right h3 (Int.pow_nonneg (by decide))
    have e2:2*a*(2:Int) ^ (32 - n)=2*(a*2 ^ (32 - n)):=by grind
    omega
 refine qbS a ?_ ((s_Len32 (by omega) ha').mono ?_)
 . obtain⟨n,q⟩:=len_ex (a:=a) (by omega) 32 (by omega)
   obtain⟨m,h⟩:=key n q
   exact⟨m,m,rfl,h.2⟩
 . rintro r ⟨n,rfl,q⟩
   exact key n q
end Go.Proofs.Pf
namespace Go.Proofs.Pf
open Go Go.VM
theorem loopE {T:Type} {step:(T->Prop)->T->Prop} {p:T} (Inv:T->Prop) (μ:T->Nat) (h0:Inv p) (h:∀ p,Inv p->step (fun p'=>Inv p'/\μ p'<μ p) p):loopV T step p:=⟨Inv,μ,h0,h⟩
theorem s_trim {a:Option (List Int)} (ha:(a.getD []).length<4611686018427387904):
 callV Pg q2K [⟨tD,a⟩] tD fun r=>r=a.map trim:=by
 refine qbF a ⟨_,rfl⟩ (loopE (fun p=>p.map trim=a.map trim/\(p.getD []).length<=(a.getD []).length) (fun p=>(p.getD []).length) ⟨rfl,Nat.le_refl _⟩ ?_)
 rintro p ⟨h1,h2⟩
 refine joinE (q01.2 ⟨fun hb=>?_,fun hb=>?_⟩)
 . have hb:=of_decide_eq_true hb
   simp only[szSl] at hb ⊢
   rw[wi64 (by omega) (by omega)]
   cases p with
   | none=>simp at hb
   | some l=>
    simp only[Option.getD_some] at *
    rcases List.eq_nil_or_concat l with rfl | ⟨l',x,rfl⟩
    . simp at hb
    . simp only[List.concat_eq_append] at *
      refine⟨⟨by omega,by simp only[Option.getD_some];omega⟩,q01.2 ⟨fun hb2=>?_,fun hb2=>?_⟩⟩
      . have hb2:=of_decide_eq_true hb2
        have e:(((l' ++ [x]).length:Int) - 1).toNat=l'.length:=by simp
        simp only[eltS,Option.getD_some,e] at hb2
        have hx:x=0:=by simpa[List.getD] using hb2
        subst hx
        refine⟨⟨by omega,by omega,by simp;omega⟩,?_⟩
        simp only[slcS,Option.map_some,e]
        have e2:((l' ++ [0]).take l'.length).drop (0:Int).toNat=l':=by simp
        rw[e2]
        refine⟨⟨?_,?_⟩,by simp⟩
        . rw[<-h1];simp[q4p]
        . simp at h2 ⊢;omega
      . have hb2:=of_decide_eq_false hb2
        have e:(((l' ++ [x]).length:Int) - 1).toNat=l'.length:=by simp
        simp only[eltS,Option.getD_some,e] at hb2
        have hx:x≠0:=by simpa[List.getD] using hb2
        show some (l' ++ [x])=_
        rw[<-h1];simp[q4o _ _ hx]
 . have hb:=of_decide_eq_false hb
   show p=_
   cases p with
   | none=>simpa using h1
   | some l=>
    simp only[szSl,Option.getD_some] at hb
    have:l=[]:=by apply List.eq_nil_of_length_eq_zero;omega
    subst this
    rw[<-h1];rfl
def IV (x:Int×Option (List Int)) (n:Int):Prop:=
 match x.2 with
 | none=>x.1=n /\ -4611686018427387904<n/\n<4611686018427387904
 | some l=>Dig l/\Trm l/\4611686018427387904<=nv l/\((x.1=1/\n=nv l)∨(x.1 = -1/\n = -nv l))
theorem IV.none {v n:Int} (h:v=n) (h1:-4611686018427387904<n) (h2:n<4611686018427387904):IV (v,none) n:=⟨h,h1,h2⟩
def sgn (n:Int):Int:=if 0<n then 1 else if n<0 then -1 else 0
theorem q1T {x:Int×Option (List Int)} {n:Int} (h:IV x n):callV Pg q1f [⟨tEI,x⟩] tI fun r=>r=sgn n:=by
 refine qbj x ⟨_,rfl⟩ ?_
 obtain⟨v,d⟩:=x
 have hv:(0<v↔0<n)/\(v<0↔n<0):=by
  cases d with
  | none=>obtain⟨h1,h2,h3⟩:=h;simp only at h1;omega
  | some l=>obtain⟨h1,h2,h3,h4⟩:=h;simp only at h4;omega
 simp only[q01,decide_eq_true_eq,decide_eq_false_iff_not,sgn]
 refine⟨fun h1=>?_,fun h1=>⟨fun h2=>?_,fun h2=>?_⟩⟩
 . rw[if_pos (by omega)]
 . rw[if_neg (by omega),if_pos (by omega)]
 . rw[if_neg (by omega),if_neg (by omega)]
theorem s_Neg {x:Int×Option (List Int)} {n:Int} (h:IV x n):callV Pg q1Z [⟨tEI,x⟩] tEI fun r=>IV r (-n):=by
 have key:IV (IntKind.wrap IntKind.i64 (0 - x.1),x.2) (-n):=by
  obtain⟨v,d⟩:=x
  cases d with
  | none=>obtain⟨h1,h2,h3⟩:=h;simp only at h1;exact⟨by simp only;rw[wi64 (by omega) (by omega)];omega,by omega,by omega⟩
  | some l=>
   obtain⟨h1,h2,h3,h4⟩:=h;simp only at h4
   refine⟨h1,h2,h3,?_⟩
   simp only;rw[wi64 (by omega) (by omega)];omega
 exact qbh x ⟨_,key⟩ key
theorem s_Abs {x:Int×Option (List Int)} {n:Int} (h:IV x n):callV Pg q3H [⟨tEI,x⟩] tEI fun r=>IV r n.natAbs:=by
 obtain⟨v,d⟩:=x
 have hv:(v<0↔n<0):=by
  cases d with
  | none=>obtain⟨h1,h2,h3⟩:=h;simp only at h1;omega
  | some l=>obtain⟨h1,h2,h3,h4⟩:=h;simp only at h4;omega
 have hc:=s_Neg h
 refine qbd (v,d) ?_ (q01.2 ⟨fun hb=>?_,fun hb=>?_⟩)
 . by_cases h0:n<0
   . obtain⟨r,hr⟩:=hc.ex;exact⟨r,by rw[show (n.natAbs:Int) = -n by omega];exact hr⟩
   . exact⟨_,by rw[show (n.natAbs:Int)=n by omega];exact h⟩
 . have hb:=of_decide_eq_true hb
   refine hc.mono fun r hr=>?_
   simp only at hb
   rw[show (n.natAbs:Int) = -n by omega];exact hr
 . have hb:=of_decide_eq_false hb
   simp only at hb
   rw[show (n.natAbs:Int)=n by omega];exact h
theorem q0j (l:List Int) (i:Nat):nv (l.take (i+1))=nv (l.take i)+4294967296 ^ i*l.getD i 0:=by
 rcases Nat.lt_or_ge i l.length with h | h
 . exact q2k l i h
 . rw[List.take_of_length_le (by omega),List.take_of_length_le h]
   have:l.getD i 0=0:=by simp[List.getD,h]
   rw[this];omega
def SumOf (a b:List Int) (r:Option (List Int)):Prop:=∃ l,r=some l/\Dig l/\nv l=nv a+nv b/\l.length<=max a.length b.length+1
theorem q5N {a b:List Int} (ha:Dig a) (hb:Dig b):∀ k:Nat,∃ (o:List Int) (c:Int),o.length=k/\Dig o/\0<=c/\c<=1/\nv o+4294967296 ^ k*c=nv (a.take k)+nv (b.take k)
 | 0=>⟨[],0,rfl,Dig.nil,by omega,by omega,by simp[nv]⟩
 | k+1=>by
  obtain⟨o,c,h1,h2,h3,h4,h5⟩:=q5N ha hb k
  have ga:=ha.get k
  have gb:=hb.get k
  refine⟨o ++ [(a.getD k 0+b.getD k 0+c) % 4294967296],(a.getD k 0+b.getD k 0+c) / 4294967296,by simp[h1],h2.app (Dig.cons (by omega) (by omega) Dig.nil),by omega,by omega,?_⟩
  rw[q0w,q0j,q0j,h1,Int.pow_succ]
  have:=Int.emod_add_mul_ediv (a.getD k 0+b.getD k 0+c) 4294967296
  generalize (a.getD k 0+b.getD k 0+c) % 4294967296=x at *
  generalize (a.getD k 0+b.getD k 0+c) / 4294967296=y at *
  grind
theorem plus_step {a b o:List Int} {c:Int} {k:Nat} (ha:Dig a) (hb:Dig b) (h1:o.length=k) (h2:Dig o) (h3:0<=c) (h4:c<=1) (h5:nv o+4294967296 ^ k*c=nv (a.take k)+nv (b.take k)):
 Dig (o ++ [(a.getD k 0+b.getD k 0+c) % 4294967296])/\0<=(a.getD k 0+b.getD k 0+c) / 4294967296/\(a.getD k 0+b.getD k 0+c) / 4294967296<=1 /\
  nv (o ++ [(a.getD k 0+b.getD k 0+c) % 4294967296])+4294967296 ^ (k+1)*((a.getD k 0+b.getD k 0+c) / 4294967296)=nv (a.take (k+1))+nv (b.take (k+1)):=by
 have ga:=ha.get k
 have gb:=hb.get k
 refine⟨h2.app (Dig.cons (by omega) (by omega) Dig.nil),by omega,by omega,?_⟩
 rw[q0w,q0j,q0j,h1,Int.pow_succ]
 have:=Int.emod_add_mul_ediv (a.getD k 0+b.getD k 0+c) 4294967296
 generalize (a.getD k 0+b.getD k 0+c) % 4294967296=x at *
 generalize (a.getD k 0+b.getD k 0+c) / 4294967296=y at *
 grind
theorem joinR {T:Type} {k:T->Prop} {body:(T->Prop)->Prop} (R:T->Prop) (hk:∀ p,R p->k p) (hb:∀ k':T->Prop,(∀ p,R p->k' p)->body k'):joinV T k body:=⟨hb k hk⟩
theorem dec_t {p:Prop} [Decidable p] (h:decide p=true):p:=of_decide_eq_true h
theorem dec_f {p:Prop} [Decidable p] (h:decide p=false):¬ p:=of_decide_eq_false h
structure PInv (A B:Option (List Int)) (f:List Int->Int->Nat->Prop) (p:Option (List Int)×Option (List Int)×Int×Int×Int×Option (List Int)):Prop where
 a:p.1=A
 b:p.2.1=B
 n:p.2.2.2.1=((A.getD []).length:Int)
 k:∃ (k:Nat) (o:List Int),p.2.2.2.2.1=k/\k<=(A.getD []).length/\p.2.2.2.2.2=some o/\o.length=k/\f o p.2.2.1 k
theorem q5u {l:Option (List Int)} {i:Nat} (h:¬ i<(l.getD []).length):(l.getD []).getD i 0=0:=by
 simp[List.getD,Nat.le_of_not_lt h]
theorem s_plus {a b:Option (List Int)} (ha:Dig (a.getD [])) (hb:Dig (b.getD [])) (la:(a.getD []).length<=1099511627776) (lb:(b.getD []).length<=1099511627776):
 callV Pg q3L [⟨tD,a⟩,⟨tD,b⟩] tD fun r=>SumOf (a.getD []) (b.getD []) r:=by
 refine qbC a b ?_ (joinR (fun p=>Dig (p.1.getD [])/\Dig (p.2.getD [])/\(p.1.getD []).length<=1099511627776/\(p.2.getD []).length<=(p.1.getD []).length/\(∀ r,SumOf (p.1.getD []) (p.2.getD []) r->SumOf (a.getD []) (b.getD []) r)) ?_ ?_)
 . obtain⟨o,c,h1,h2,h3,h4,h5⟩:=q5N ha hb (max (a.getD []).length (b.getD []).length)
   refine⟨some (o ++ [c]),o ++ [c],rfl,h2.app (Dig.cons h3 (by omega) Dig.nil),?_,by simp[h1]⟩
   rw[q0w,h1,h5,List.take_of_length_le (by omega),List.take_of_length_le (by omega)]
 . rintro⟨A,B⟩ ⟨h1,h2,h3,h4,h5⟩
   simp only at h1 h2 h3 h4 h5 ⊢
   refine⟨?_,?_⟩
   . simp only[szSl];rw[wi64 (by omega) (by omega)];simp only[mkC];omega
   refine loopE (PInv A B fun o c k=>Dig o/\0<=c/\c<=1/\nv o+4294967296 ^ k*c=nv ((A.getD []).take k)+nv ((B.getD []).take k)) (fun p=>((A.getD []).length - p.2.2.2.2.1).toNat) ⟨rfl,rfl,rfl,0,[],rfl,by omega,rfl,rfl,Dig.nil,Int.le_refl _,(by decide:(0:Int)<=1),by simp[nv]⟩ ?_
   rintro⟨A',B',c,n,i,out⟩ ⟨e1,e2,e3,k,o,e4,e5,e6,e7,e8,e9,e10,e11⟩
   simp only at e1 e2 e3 e4 e6 e9 e10 e11;subst e1 e2 e3 e4 e6
   refine q01.2 ⟨fun hb=>?_,fun hb=>?_⟩
   . have hb:=dec_t hb
     simp only at hb
     refine joinR (fun p=>p=(A',B',c,(k:Int),(B'.getD []).getD k 0,((A'.getD []).length:Int),(k:Int),some o)) ?_ ?_
     . rintro _ rfl
       simp only
       have ga:=h1.get k
       have gb:=h2.get k
       refine⟨⟨by omega,by omega⟩,(s_Add32 (by simpa[eltS] using ga.1) (by simpa[eltS] using ga.2) gb.1 gb.2 e9 (by omega)).mono ?_⟩
       rintro _ rfl
       refine⟨?_,⟨rfl,rfl,rfl,k+1,o ++ [((A'.getD []).getD k 0+(B'.getD []).getD k 0+c) % 4294967296],?_,by omega,rfl,by simp[e7],?_⟩,?_⟩
       . show (o.length+1)*4<=140737488355328;omega
       . show IntKind.wrap IntKind.i64 ((k:Int)+1)=((k+1:Nat):Int);rw[wi64 (by omega) (by omega)];omega
       . exact plus_step h1 h2 e7 e8 e9 e10 e11
       . show ((A'.getD []).length - IntKind.wrap IntKind.i64 ((k:Int)+1)).toNat<(((A'.getD []).length:Int) - (k:Int)).toNat
         rw[wi64 (by omega) (by omega)];omega
     . intro k' hk'
       refine q01.2 ⟨fun hb2=>?_,fun hb2=>?_⟩
       . have hb2:=dec_t hb2
         simp only[szSl] at hb2
         refine⟨⟨by dsimp only;omega,by dsimp only;omega⟩,hk' _ ?_⟩
         simp only[eltS,Int.toNat_natCast]
       . have hb2:=dec_f hb2
         simp only[szSl] at hb2
         refine hk' _ ?_
         rw[q5u (by omega)]
   . have hb:=dec_f hb
     simp only at hb
     have hk:k=(A'.getD []).length:=by omega
     refine⟨?_,h5 _ ⟨o ++ [c],rfl,e8.app (Dig.cons e9 (by omega) Dig.nil),?_,by simp;omega⟩⟩
     . show (o.length+1)*4<=140737488355328;omega
     . rw[q0w,e7,e11,hk,List.take_length,List.take_of_length_le (by omega)]
 . intro k' hk'
   refine q01.2 ⟨fun hb2=>?_,fun hb2=>?_⟩
   . have hb2:=dec_t hb2
     simp only[szSl] at hb2
     refine hk' _ ⟨hb,ha,by omega,by simp only;omega,?_⟩
     rintro r ⟨l,q1,q2,q3,q4⟩
     exact⟨l,q1,q2,by rw[q3,Int.add_comm],by rw[Nat.max_comm];exact q4⟩
   . have hb2:=dec_f hb2
     simp only[szSl] at hb2
     exact hk' _ ⟨ha,hb,la,by simp only;omega,fun r h=>h⟩
theorem q7f {a b o:List Int} {c:Int} {k:Nat} (ha:Dig a) (hb:Dig b) (h1:o.length=k) (h2:Dig o) (h3:0<=c) (h4:c<=1) (h5:nv o - 4294967296 ^ k*c=nv (a.take k) - nv (b.take k)):
 Dig (o ++ [(a.getD k 0 - b.getD k 0 - c) % 4294967296])/\0<=(if a.getD k 0<b.getD k 0+c then (1:Int) else 0)/\(if a.getD k 0<b.getD k 0+c then (1:Int) else 0)<=1 /\
  nv (o ++ [(a.getD k 0 - b.getD k 0 - c) % 4294967296]) - 4294967296 ^ (k+1)*(if a.getD k 0<b.getD k 0+c then (1:Int) else 0)=nv (a.take (k+1)) - nv (b.take (k+1)):=by
 have ga:=ha.get k
 have gb:=hb.get k
 have e:(a.getD k 0 - b.getD k 0 - c) % 4294967296=a.getD k 0 - b.getD k 0 - c+4294967296*(if a.getD k 0<b.getD k 0+c then (1:Int) else 0):=by split<;>omega
 have e0:0<=(if a.getD k 0<b.getD k 0+c then (1:Int) else 0)/\(if a.getD k 0<b.getD k 0+c then (1:Int) else 0)<=1:=by split<;>omega
 refine⟨h2.app (Dig.cons (by omega) (by omega) Dig.nil),e0.1,e0.2,?_⟩
 rw[q0w,q0j,q0j,h1,Int.pow_succ,e]
 generalize (if a.getD k 0<b.getD k 0+c then (1:Int) else 0)=y at *
 grind
theorem q7d {a b:List Int} (ha:Dig a) (hb:Dig b):∀ k:Nat,∃ (o:List Int) (c:Int),o.length=k/\Dig o/\0<=c/\c<=1/\nv o - 4294967296 ^ k*c=nv (a.take k) - nv (b.take k)
 | 0=>⟨[],0,rfl,Dig.nil,by omega,by omega,by simp[nv]⟩
 | k+1=>by
  obtain⟨o,c,h1,h2,h3,h4,h5⟩:=q7d ha hb k
  obtain⟨q1,q2,q3,q4⟩:=q7f ha hb h1 h2 h3 h4 h5
  exact⟨_,_,by simp[h1],q1,q2,q3,q4⟩
theorem q7e {a b o:List Int} {c:Int} (h1:o.length=a.length) (h2:Dig o) (h3:0<=c) (h4:c<=1) (h5:nv o - 4294967296 ^ a.length*c=nv a - nv b) (h:nv b<=nv a):nv o=nv a - nv b:=by
 have hl:=nv_lt h2
 rw[h1] at hl
 have:c=0:=by
  rcases (by omega:c=0∨c=1) with h | rfl
  . exact h
  . omega
 subst this;omega
def DifOf (a b:List Int) (r:Option (List Int)):Prop:=∃ l,r=some l/\Dig l/\nv l=nv a - nv b/\l.length=a.length
theorem s_minus {a b:Option (List Int)} (ha:Dig (a.getD [])) (hb:Dig (b.getD [])) (la:(a.getD []).length<=1099511627776) (lb:(b.getD []).length<=(a.getD []).length) (hle:nv (b.getD [])<=nv (a.getD [])):
 callV Pg q23 [⟨tD,a⟩,⟨tD,b⟩] tD fun r=>DifOf (a.getD []) (b.getD []) r:=by
 refine qbA a b ?_ ⟨?_,?_⟩
 . obtain⟨o,c,h1,h2,h3,h4,h5⟩:=q7d ha hb (a.getD []).length
   rw[List.take_length,List.take_of_length_le lb] at h5
   exact⟨some o,o,rfl,h2,q7e h1 h2 h3 h4 h5 hle,h1⟩
 . simp only[szSl,mkC];omega
 refine loopE (PInv a b fun o c k=>Dig o/\0<=c/\c<=1/\nv o - 4294967296 ^ k*c=nv ((a.getD []).take k) - nv ((b.getD []).take k)) (fun p=>((a.getD []).length - p.2.2.2.2.1).toNat) ⟨rfl,rfl,rfl,0,[],rfl,by omega,rfl,rfl,Dig.nil,Int.le_refl _,(by decide:(0:Int)<=1),by simp[nv]⟩ ?_
 rintro⟨A',B',c,n,i,out⟩ ⟨e1,e2,e3,k,o,e4,e5,e6,e7,e8,e9,e10,e11⟩
 simp only at e1 e2 e3 e4 e6 e9 e10 e11;subst e1 e2 e3 e4 e6
 refine q01.2 ⟨fun hbb=>?_,fun hbb=>?_⟩
 . have hb':=dec_t hbb
   simp only at hb'
   refine joinR (fun p=>p=(A',B',c,(k:Int),(B'.getD []).getD k 0,((A'.getD []).length:Int),(k:Int),some o)) ?_ ?_
   . rintro _ rfl
     simp only
     have ga:=ha.get k
     have gb:=hb.get k
     refine⟨⟨by omega,by omega⟩,(s_Sub32 (by simpa[eltS] using ga.1) (by simpa[eltS] using ga.2) gb.1 gb.2 e9 e10).mono ?_⟩
     rintro _ rfl
     refine⟨?_,⟨rfl,rfl,rfl,k+1,o ++ [((A'.getD []).getD k 0 - (B'.getD []).getD k 0 - c) % 4294967296],?_,by omega,rfl,by simp[e7],?_⟩,?_⟩
     . show (o.length+1)*4<=140737488355328;omega
     . show IntKind.wrap IntKind.i64 ((k:Int)+1)=((k+1:Nat):Int);rw[wi64 (by omega) (by omega)];omega
     . exact q7f ha hb e7 e8 e9 e10 e11
     . show ((A'.getD []).length - IntKind.wrap IntKind.i64 ((k:Int)+1)).toNat<(((A'.getD []).length:Int) - (k:Int)).toNat
       rw[wi64 (by omega) (by omega)];omega
   . intro k' hk'
     refine q01.2 ⟨fun hb2=>?_,fun hb2=>?_⟩
     . have hb2:=dec_t hb2
       simp only[szSl] at hb2
       refine⟨⟨by dsimp only;omega,by dsimp only;omega⟩,hk' _ ?_⟩
       simp only[eltS,Int.toNat_natCast]
     . have hb2:=dec_f hb2
       simp only[szSl] at hb2
       refine hk' _ ?_
       rw[q5u (by omega)]
 . have hb':=dec_f hbb
   simp only at hb'
   have hk:k=(A'.getD []).length:=by omega
   subst hk
   rw[List.take_length,List.take_of_length_le lb] at e11
   exact⟨o,rfl,e8,q7e e7 e8 e9 e10 e11 hle,e7⟩
end Go.Proofs.Pf
namespace Go.Proofs.Pf
open Go Go.VM
theorem q5G {a b:List Int} (ha:Dig a) (hb:Dig b) {k:Nat} (hl:a.length=b.length) (hk:k<a.length) (heq:nv (a.drop (k+1))=nv (b.drop (k+1))) (hlt:a.getD k 0<b.getD k 0):nv a<nv b:=by
 rw[q1L a k (by omega),q1L b k (by omega),q0S a k hk,q0S b k (by omega),heq]
 have h1:=nv_lt (ha.take k)
 have h2:=nv_nonneg (hb.take k)
 rw[List.length_take,Nat.min_eq_left (by omega)] at h1
 have hp:=pow_pos32 k
 have:4294967296 ^ k*(a.getD k 0+4294967296*nv (b.drop (k+1))+1)<=(4294967296:Int) ^ k*(b.getD k 0+4294967296*nv (b.drop (k+1))):=Int.mul_le_mul_of_nonneg_left (by omega) (by omega)
 rw[Int.mul_add _ _ 1] at this
 omega
theorem not_t {p:Prop} [Decidable p] (h:notB (decide p)=true):¬ p:=by simpa[notB] using h
theorem not_f {p:Prop} [Decidable p] (h:notB (decide p)=false):p:=by simpa[notB] using h
def cmpI (a b:Int):Int:=if a<b then -1 else if b<a then 1 else 0
theorem q2j {a b:List Int} (ha:Dig a) (hb:Dig b) (tb:Trm b) (h:a.length<b.length):nv a<nv b:=by
 have h1:=nv_lt ha
 have hne:b≠[]:=by rintro rfl;simp at h
 have h2:=tb.ge hb hne
 have h3:=pow_mono32 (show a.length<=b.length - 1 by omega)
 omega
theorem q7G {a b:Option (List Int)} (ha:Dig (a.getD [])) (hb:Dig (b.getD [])) (ta:Trm (a.getD [])) (tb:Trm (b.getD [])) (la:(a.getD []).length<=1099511627776):
 callV Pg q2J [⟨tD,a⟩,⟨tD,b⟩] tI fun r=>r=cmpI (nv (a.getD [])) (nv (b.getD [])):=by
 refine qbx a b ⟨_,rfl⟩ (q01.2 ⟨fun h=>q01.2 ⟨fun h2=>?_,fun h2=>?_⟩,fun h=>?_⟩)
 . have h2:=dec_t h2
   simp only[szSl] at h2
   have:=q2j ha hb tb (by omega)
   rw[cmpI,if_pos this]
 . have h2:=dec_f h2
   have h:=not_t h
   simp only[szSl] at h h2
   have:=q2j hb ha ta (by omega)
   rw[cmpI,if_neg (by omega),if_pos this]
 . have h:=not_f h
   simp only[szSl] at h
   refine loopE (fun p=>p.1=a/\p.2.1=b/\∃ k:Nat,p.2.2=(k:Int) - 1/\k<=(a.getD []).length/\nv ((a.getD []).drop k)=nv ((b.getD []).drop k)) (fun p=>(p.2.2+1).toNat) ⟨rfl,rfl,(a.getD []).length,?_,Nat.le_refl _,?_⟩ ?_
   . simp only[szSl];exact wi64 (by omega) (by omega)
   . rw[List.drop_length,show (a.getD []).length=(b.getD []).length by omega,List.drop_length]
   . rintro⟨A,B,i⟩ ⟨e1,e2,k,e3,h1,h2⟩
     simp only at e1 e2 e3;subst e1 e2 e3
     refine q01.2 ⟨fun hc=>?_,fun hc=>?_⟩
     . have hc:=dec_t hc
       (try simp only at hc)
       obtain⟨k,rfl⟩:∃ j,k=j+1:=⟨k - 1,by omega⟩
       have e:((k+1:Nat):Int) - 1=(k:Int):=by omega
       have ek:(((k+1:Nat):Int) - 1).toNat=k:=by omega
       have i1:inS A (((k+1:Nat):Int) - 1):=⟨by omega,by omega⟩
       have i2:inS B (((k+1:Nat):Int) - 1):=⟨by omega,by omega⟩
       refine⟨i1,i2,q01.2 ⟨fun hd=>⟨i1,i2,q01.2 ⟨fun hd2=>?_,fun hd2=>?_⟩⟩,fun hd=>?_⟩⟩
       . have hd2:=dec_t hd2
         simp only[eltS,ek] at hd2
         have:=q5G ha hb (by omega) (by omega) h2 hd2
         rw[cmpI,if_pos this]
       . have hd2:=dec_f hd2
         have hd:=not_t hd
         simp only[eltS,ek] at hd hd2
         have:=q5G hb ha (by omega) (by omega) h2.symm (show (B.getD []).getD k 0<(A.getD []).getD k 0 by omega)
         rw[cmpI,if_neg (by omega),if_pos this]
       . have hd:=not_f hd
         simp only[eltS,ek] at hd
         refine⟨⟨rfl,rfl,k,?_,by omega,?_⟩,?_⟩
         . show IntKind.wrap IntKind.i64 (((k+1:Nat):Int) - 1 - 1)=(k:Int) - 1;rw[wi64 (by omega) (by omega)];omega
         . rw[q0S (A.getD []) k (by omega),q0S (B.getD []) k (by omega),hd,h2]
         . show (IntKind.wrap IntKind.i64 (((k+1:Nat):Int) - 1 - 1)+1).toNat<(((k+1:Nat):Int) - 1+1).toNat;rw[wi64 (by omega) (by omega)];omega
     . have hc:=dec_f hc
       (try simp only at hc)
       have:k=0:=by omega
       subst this
       simp only[List.drop_zero] at h2
       rw[cmpI,if_neg (by omega),if_neg (by omega)]
theorem nv_two {m:Int}:nv [m % 4294967296,m / 4294967296]=m:=by simp only[nv];omega
theorem dig_two {m:Int} (h0:0<=m) (h1:m<18446744073709551616):Dig [m % 4294967296,m / 4294967296]:=
 Dig.cons (by omega) (by omega) (Dig.cons (by omega) (by omega) Dig.nil)
theorem q7R {m:Int} (h0:0<=m) (h1:m<18446744073709551616):[IntKind.wrap IntKind.u32 m,IntKind.wrap IntKind.u32 (shrI IntKind.u64 m 32)]=[m % 4294967296,m / 4294967296]:=by
 rw[q2w,wu32m,wu32m,Int.emod_eq_of_lt (b:=4294967296) (a:=m / 4294967296) (by omega) (by omega)]
def DigOf (n:Int) (r:Int×Option (List Int)×Unit):Prop:=r.1=sgn n/\∃ l,r.2.1=some l/\Dig l/\Trm l/\nv l=n.natAbs
theorem q2s {x:Int×Option (List Int)} {n:Int} (h:IV x n):callV Pg q0M [⟨tEI,x⟩] (.tup (.pair tI (.pair tD .unit))) fun r=>DigOf n r:=by
 obtain⟨v,d⟩:=x
 cases d with
 | some l=>
  obtain⟨h1,h2,h3,h4⟩:=h
  simp only at h4
  have key:DigOf n (v,some l,()):=by
   refine⟨?_,l,rfl,h1,h2,by omega⟩
   simp only[sgn]
   rcases h4 with ⟨rfl,rfl⟩ | ⟨rfl,rfl⟩
   . rw[if_pos (by omega)]
   . rw[if_neg (by omega),if_pos (by omega)]
  exact q7Z _ ⟨_,key⟩ key
 | none=>
  obtain⟨rfl,h1,h2⟩:=h
  simp only at h1 h2
  have key:DigOf v (sgn v,some (trim [(v.natAbs:Int) % 4294967296,(v.natAbs:Int) / 4294967296]),()):=
   ⟨rfl,_,rfl,(dig_two (by omega) (by omega)).trim,trm_trim _,by rw[q1M,nv_two]⟩
  refine q7Z _ ⟨_,key⟩ (q01.2 ⟨fun h=>by simp[notB] at h,fun _=>?_⟩)
  refine (joinR (fun p=>p=(sgn v,(v.natAbs:Int))) ?_ ?_)
  . rintro _ rfl
    refine⟨by omega,?_⟩
    simp only
    rw[q7R (by omega) (by omega)]
    refine (s_trim (by simp)).mono ?_
    rintro _ rfl
    exact key
  . intro k hk
    refine q01.2 ⟨fun hc=>?_,fun hc=>joinE (q01.2 ⟨fun hd=>?_,fun hd=>?_⟩)⟩
    . have hc:=dec_t hc
      (try simp only at hc)
      refine hk _ ?_
      rw[wu64 (by omega) (by omega),sgn,if_pos hc,show (v.natAbs:Int)=v by omega]
    . have hd:=dec_t hd
      simp only at hd
      refine hk _ ?_
      rw[wi64 (by omega) (by omega),wu64 (by omega) (by omega),sgn,if_neg (by omega),if_pos hd,show (v.natAbs:Int)=0 - v by omega]
    . have hc:=dec_f hc
      have hd:=dec_f hd
      simp only at hc hd
      refine hk _ ?_
      rw[sgn,if_neg hc,if_neg hd,show (v.natAbs:Int)=0 by omega]
end Go.Proofs.Pf
namespace Go.Proofs.Pf
open Go Go.VM
theorem q5i {a b:Int}:0<=cmpI a b↔b<=a:=by
 unfold cmpI;split
 . constructor<;>intro<;>omega
 . split<;>constructor<;>intro<;>omega
theorem cmpI_lt {a b:Int} (h:¬ 0<=cmpI a b):a<b:=by
 rw[q5i] at h;omega
theorem nv_ex:∀ (k:Nat) (a:Nat),a<k->∃ l,Dig l/\Trm l/\nv l=(a:Int)
 | 0,a,h=>by omega
 | k+1,a,h=>by
  by_cases h0:a=0
  . exact⟨[],Dig.nil,fun d hd=>by simp at hd,by simp[nv,h0]⟩
  . by_cases h1:a<4294967296
    . exact⟨[(a:Int)],Dig.cons (by omega) (by omega) Dig.nil,fun d hd=>by simp at hd;omega,by simp[nv]⟩
    . obtain⟨l,q1,q2,q3⟩:=nv_ex k (a / 4294967296) (by omega)
      refine⟨((a % 4294967296:Nat):Int) :: l,Dig.cons (by omega) (by omega) q1,?_,by simp only[nv,q3];omega⟩
      intro d hd
      cases l with
      | nil=>simp only[nv] at q3;omega
      | cons x l=>rw[List.getLast?_cons_cons] at hd;exact q2 d hd
theorem IV_ex (n:Int):∃ r,IV r n:=by
 by_cases h:-4611686018427387904<n/\n<4611686018427387904
 . exact⟨(n,none),rfl,h.1,h.2⟩
 . obtain⟨l,q1,q2,q3⟩:=nv_ex (n.natAbs+1) n.natAbs (by omega)
   by_cases h0:0<n
   . exact⟨(1,some l),q1,q2,by omega,.inl ⟨rfl,by omega⟩⟩
   . exact⟨(-1,some l),q1,q2,by omega,.inr ⟨rfl,by omega⟩⟩
theorem s_Of {n:Int} (h1:-9223372036854775808<=n) (h2:n<9223372036854775808):callV Pg q1g [⟨tI,n⟩] tEI fun r=>IV r n:=by
 have big:∀ s m:Int,4611686018427387904<=m->m<=9223372036854775808->((s=1/\n=m)∨(s = -1/\n = -m))->IV (s,some [m % 4294967296,m / 4294967296]) n:=by
  intro s m h3 h4 h5
  refine⟨dig_two (by omega) (by omega),?_,by rw[nv_two];exact h3,by rw[nv_two];exact h5⟩
  intro d hd
  simp at hd
  omega
 refine qbk n (IV_ex _) (joinR (fun p=>∃ b:Bool,p=(n,b,(0:Int),none)/\(b=true ↔ -4611686018427387904<n/\n<4611686018427387904)) ?_ ?_)
 . rintro _ ⟨b,rfl,hb⟩
   refine q01.2 ⟨fun h=>?_,fun h=>?_⟩
   . obtain⟨h3,h4⟩:=hb.1 h
     exact⟨rfl,h3,h4⟩
   . have h3:¬ (-4611686018427387904<n/\n<4611686018427387904):=fun h4=>by rw[hb.2 h4] at h;simp at h
     refine joinR (fun p=>∃ s m:Int,p=(s,m,(0:Int),none)/\4611686018427387904<=m/\m<=9223372036854775808/\((s=1/\n=m)∨(s = -1/\n = -m))) ?_ ?_
     . rintro _ ⟨s,m,rfl,q1,q2,q3⟩
       refine⟨by omega,?_⟩
       (try simp only)
       rw[q7R (by omega) (by omega)]
       exact big s m q1 q2 q3
     . intro k hk
       refine q01.2 ⟨fun h=>?_,fun h=>?_⟩
       . have h:=dec_t h
         (try simp only at h)
         refine hk _ ⟨-1,-n,?_,by omega,by omega,by omega⟩
         simp only[wu64m]
         rw[show ((0:Int) - n % 18446744073709551616) % 18446744073709551616 = -n by omega]
       . have h:=dec_f h
         (try simp only at h)
         refine hk _ ⟨1,n,?_,by omega,by omega,by omega⟩
         (try simp only)
         rw[wu64 (by omega) (by omega)]
 . intro k hk
   refine q01.2 ⟨fun h=>?_,fun h=>?_⟩
   . have h:=dec_t h
     exact hk _ ⟨_,rfl,by simp only[decide_eq_true_eq];omega⟩
   . have h:=dec_f h
     exact hk _ ⟨_,rfl,by simp;omega⟩
theorem made_ok {s:Int} {l:List Int} (hl:Dig l) (hs:s=1∨s = -1∨(s=0/\nv l=0)) (hb:4611686018427387904<=nv l):IV (s,some (trim l)) (s*nv l):=by
 refine⟨hl.trim,trm_trim l,by rw[q1M];exact hb,?_⟩
 rw[q1M]
 rcases hs with rfl | rfl | ⟨_,h⟩
 . left;exact⟨rfl,by omega⟩
 . right;exact⟨rfl,by omega⟩
 . omega
theorem q1t {s:Int} {b:Option (List Int)} (hl:Dig (b.getD [])) (hs:s=1∨s = -1∨(s=0/\nv (b.getD [])=0)) (hlen:(b.getD []).length<=1099511627776):
 callV Pg q0o [⟨tI,s⟩,⟨tD,b⟩] tEI fun r=>IV r (s*nv (b.getD [])):=by
 have hn:=nv_nonneg hl
 have small:nv (b.getD [])<4611686018427387904->IV (s*nv (b.getD []),none) (s*nv (b.getD [])):=by
  intro h
  rcases hs with rfl | rfl | ⟨rfl,h0⟩
  . exact⟨rfl,by omega,by omega⟩
  . exact⟨rfl,by omega,by omega⟩
  . exact⟨rfl,by omega,by omega⟩
 refine qbz s b (IV_ex _) ((s_trim (by omega)).mono ?_)
 rintro _ rfl
 have fin:4611686018427387904<=nv (b.getD [])->IV (s,b.map trim) (s*nv (b.getD [])):=by
  intro h
  cases b with
  | none=>simp[nv] at h
  | some l=>exact made_ok hl hs h
 have ht:(b.map trim).getD []=trim (b.getD []):=by cases b<;>rfl
 refine joinR (fun p=>4611686018427387904<=nv (b.getD [])/\p.1=s/\p.2.1=b.map trim) ?_ ?_
 . rintro⟨p1,p2,p3⟩ ⟨h,rfl,rfl⟩
   exact fin h
 . intro k hk
   refine q01.2 ⟨fun h=>?_,fun h=>?_⟩
   . have h:=dec_t h
     simp only[szSl,ht] at h
     have hd:=hl.trim
     refine loopE (fun p=>p.1=s/\p.2.1=b.map trim/\p.2.2.2.1=b.map trim/\p.2.2.2.2.1=((trim (b.getD [])).length:Int)/\∃ j:Nat,p.2.2.2.2.2.1=j/\j<=(trim (b.getD [])).length/\p.2.2.1=nv ((trim (b.getD [])).take j)) (fun p=>((trim (b.getD [])).length - p.2.2.2.2.2.1).toNat) ⟨rfl,rfl,rfl,by simp only[szSl,ht],0,rfl,by omega,by simp[nv]⟩ ?_
     rintro⟨q1,q2,q3,q4,q5,q6,q7⟩ ⟨e1,e2,e3,e4,j,e5,e6,e7⟩
     simp only at e1 e2 e3 e4 e5 e7;subst e1 e2 e3 e4 e5 e7
     refine q01.2 ⟨fun hc=>?_,fun hc=>?_⟩
     . have hc:=dec_t hc
       (try simp only at hc)
       have g:=hd.get j
       refine⟨⟨by (try simp only);omega,by simp only[ht];omega⟩,by (try simp only);rw[wi64 (by omega) (by omega)];omega,⟨rfl,rfl,rfl,rfl,j+1,?_,by omega,?_⟩,?_⟩
       . show IntKind.wrap IntKind.i64 ((j:Int)+1)=((j+1:Nat):Int);rw[wi64 (by omega) (by omega)];omega
       . show bitI BinOp.or IntKind.u64 (nv ((trim (b.getD [])).take j)) (shlI IntKind.u64 (IntKind.wrap IntKind.u64 (((b.map trim).getD []).getD ((j:Int)).toNat 0)) (IntKind.wrap IntKind.i64 (32*(j:Int))))=_
         rw[ht,Int.toNat_natCast,wi64 (by omega) (by omega),wu64 g.1 (by omega)]
         have e:(32*(j:Int))=((32*j:Nat):Int):=by omega
         rw[e,shl64 _ _ (by omega),q2k _ _ (by omega)]
         have hp:(2:Int) ^ (32*j)=4294967296 ^ j:=by rw[Int.pow_mul];rfl
         have hj:j=0∨j=1:=by omega
         have htk:=nv_lt (hd.take j)
         have htk0:=nv_nonneg (hd.take j)
         rw[List.length_take,Nat.min_eq_left (by omega)] at htk
         have hb1:(trim (b.getD [])).getD j 0*2 ^ (32*j)<=4294967295*4294967296:=by
          rw[hp];rcases hj with rfl | rfl
          . rw[show (4294967296:Int) ^ 0=1 from rfl];omega
          . rw[show (4294967296:Int) ^ 1=4294967296 from rfl];omega
         have hb2:0<=(trim (b.getD [])).getD j 0*2 ^ (32*j):=Int.mul_nonneg g.1 (Int.pow_nonneg (by decide))
         rw[Int.emod_eq_of_lt hb2 (by omega)]
         have hb3:nv ((trim (b.getD [])).take j)<=4294967295:=by
          rcases hj with rfl | rfl<;>simp at htk ⊢<;>omega
         rw[or64 (32*j) htk0 (by rw[hp];exact htk) g.1 (by omega),hp,Int.mul_comm]
       . show ((trim (b.getD [])).length - IntKind.wrap IntKind.i64 ((j:Int)+1)).toNat<((trim (b.getD [])).length - (j:Int)).toNat
         rw[wi64 (by omega) (by omega)];omega
     . have hc:=dec_f hc
       (try simp only at hc)
       have hj:j=(trim (b.getD [])).length:=by omega
       subst hj
       simp only[List.take_length,q1M]
       refine q01.2 ⟨fun hd=>?_,fun hd=>?_⟩
       . have hd:=dec_t hd
         have:=small hd
         rw[wi64 (x:=nv (b.getD [])) (by omega) (by omega),wi64]
         . exact this
         . have:=this.2.1;omega
         . have:=this.2.2;omega
       . have hd:=dec_f hd
         exact hk _ ⟨by omega,rfl,rfl⟩
   . have h:=dec_f h
     simp only[szSl,ht] at h
     refine hk _ ⟨?_,rfl,rfl⟩
     have hne:trim (b.getD [])≠[]:=by intro e;rw[e] at h;simp at h
     have h1:=(trm_trim (b.getD [])).ge hl.trim hne
     have h2:=pow_mono32 (show 2<=(trim (b.getD [])).length - 1 by omega)
     rw[q1M] at h1
     omega
theorem sgn_ne {n:Int} {P:Prop} (h:¬ sgn n=0):sgn n=1∨sgn n = -1∨P:=by
 unfold sgn at *;split at h<;>(try split at h)<;>simp_all
theorem sgn_z {n:Int} (h:sgn n=0):n=0:=by
 unfold sgn at h
 by_cases h1:0<n
 . rw[if_pos h1] at h;omega
 . rw[if_neg h1] at h
   by_cases h2:n<0
   . rw[if_pos h2] at h;omega
   . omega
theorem sgn3 (n:Int):(sgn n=1/\0<n)∨(sgn n = -1/\n<0)∨(sgn n=0/\n=0):=by
 by_cases h1:0<n
 . exact .inl ⟨if_pos h1,h1⟩
 . by_cases h2:n<0
   . exact .inr (.inl ⟨by rw[sgn,if_neg h1,if_pos h2],h2⟩)
   . exact .inr (.inr ⟨by rw[sgn,if_neg h1,if_neg h2],by omega⟩)
theorem s_Add {x y:Int×Option (List Int)} {n m:Int} {k:Nat} (hx:IV x n) (hy:IV y m) (fx:Fit k n) (fy:Fit k m) (hk:k<=1073741824):callV Pg q3I [⟨tEI,x⟩,⟨tEI,y⟩] tEI fun r=>IV r (n+m):=by
 have big:callV Pg q0M [⟨tEI,x⟩] (.tup (.pair tI (.pair tD .unit))) (fun p1=>(callV Pg q0M [⟨tEI,y⟩] (.tup (.pair tI (.pair tD .unit))) (fun p2=>(brV (decide (p1.1=(0:Int))) (IV y (n+m)) (brV (decide (p2.1=(0:Int))) (IV x (n+m)) (brV (decide (p1.1=p2.1)) (callV Pg q3L [⟨tD,p1.2.1⟩,⟨tD,p2.2.1⟩] tD (fun p3=>(callV Pg q0o [⟨tI,p1.1⟩,⟨tD,p3⟩] tEI (fun p4=>IV p4 (n+m))))) (callV Pg q2J [⟨tD,p1.2.1⟩,⟨tD,p2.2.1⟩] tI (fun p3=>(brV (decide ((0:Int)<=p3)) (callV Pg q23 [⟨tD,p1.2.1⟩,⟨tD,p2.2.1⟩] tD (fun p4=>(callV Pg q0o [⟨tI,p1.1⟩,⟨tD,p4⟩] tEI (fun p5=>IV p5 (n+m))))) (callV Pg q23 [⟨tD,p2.2.1⟩,⟨tD,p1.2.1⟩] tD (fun p4=>(callV Pg q0o [⟨tI,p2.1⟩,⟨tD,p4⟩] tEI (fun p5=>IV p5 (n+m)))))))))))))):=by
  refine (q2s hx).mono ?_
  rintro⟨s,d,_⟩ ⟨e1,l,e2,d1,t1,v1⟩
  simp only at e1 e2;subst e1 e2
  refine (q2s hy).mono ?_
  rintro⟨s,d,_⟩ ⟨e1,l2,e2,d2,t2,v2⟩
  simp only at e1 e2;subst e1 e2
  have l1:=t1.fit d1 fx v1
  have l2':=t2.fit d2 fy v2
  simp only
  refine q01.2 ⟨fun h=>?_,fun h=>q01.2 ⟨fun h2=>?_,fun h2=>q01.2 ⟨fun h3=>?_,fun h3=>?_⟩⟩⟩
  . have h:=dec_t h
    have:n=0:=sgn_z h
    rw[this,Int.zero_add];exact hy
  . have h2:=dec_t h2
    have:m=0:=sgn_z h2
    rw[this,Int.add_zero];exact hx
  . have h:¬ sgn n=0:=dec_f h
    have h3:sgn n=sgn m:=dec_t h3
    refine (s_plus (a:=some l) (b:=some l2) d1 d2 (by simp only[Option.getD_some];omega) (by simp only[Option.getD_some];omega)).mono ?_
    rintro _ ⟨l3,rfl,q1,q2,q3⟩
    simp only[Option.getD_some] at q2 q3
    refine (q1t (b:=some l3) q1 (sgn_ne h) (by simp only[Option.getD_some];omega)).mono ?_
    intro r hr
    have:sgn n*nv l3=n+m:=by
     rw[q2,v1,v2]
     have h2:¬ sgn m=0:=dec_f h2
     clear q1 q2 q3 hr
     rcases sgn3 n with ⟨e1,w1⟩ | ⟨e1,w1⟩ | ⟨e1,w1⟩<;>rcases sgn3 m with ⟨e2,w2⟩ | ⟨e2,w2⟩ | ⟨e2,w2⟩<;>rw[e1]<;>omega
    rw[Option.getD_some,this] at hr
    exact hr
  . have h:¬ sgn n=0:=dec_f h
    have h2:¬ sgn m=0:=dec_f h2
    have h3:¬ sgn n=sgn m:=dec_f h3
    refine (q7G (a:=some l) (b:=some l2) d1 d2 t1 t2 (by simp only[Option.getD_some];omega)).mono ?_
    rintro _ rfl
    simp only[Option.getD_some]
    refine q01.2 ⟨fun h4=>?_,fun h4=>?_⟩
    . have h4:=dec_t h4
      have hle:nv l2<=nv l:=by first | exact q5i.1 h4 | exact Int.le_of_lt (cmpI_lt h4)
      refine (s_minus (a:=some l) (b:=some l2) d1 d2 (by simp only[Option.getD_some];omega) ?_ hle).mono ?_
      . simp only[Option.getD_some]
        rcases Nat.lt_or_ge l.length l2.length with hl | hl
        . have:=q2j d1 d2 t2 hl;omega
        . exact hl
      rintro _ ⟨l3,rfl,q1,q2,q3⟩
      simp only[Option.getD_some] at q2 q3
      refine (q1t (b:=some l3) q1 (sgn_ne h) (by simp only[Option.getD_some];omega)).mono ?_
      intro r hr
      have:sgn n*nv l3=n+m:=by
       rw[q2,v1,v2]
       clear q1 q2 q3 hle h4
       rcases sgn3 n with ⟨e1,w1⟩ | ⟨e1,w1⟩ | ⟨e1,w1⟩<;>rcases sgn3 m with ⟨e2,w2⟩ | ⟨e2,w2⟩ | ⟨e2,w2⟩<;>rw[e1]<;>omega
      rw[Option.getD_some,this] at hr
      exact hr
    . have h4:=dec_f h4
      have hle:nv l<=nv l2:=by first | exact q5i.1 h4 | exact Int.le_of_lt (cmpI_lt h4)
      refine (s_minus (a:=some l2) (b:=some l) d2 d1 (by simp only[Option.getD_some];omega) ?_ hle).mono ?_
      . simp only[Option.getD_some]
        rcases Nat.lt_or_ge l2.length l.length with hl | hl
        . have:=q2j d2 d1 t1 hl;omega
        . exact hl
      rintro _ ⟨l3,rfl,q1,q2,q3⟩
      simp only[Option.getD_some] at q2 q3
      refine (q1t (b:=some l3) q1 (sgn_ne h2) (by simp only[Option.getD_some];omega)).mono ?_
      intro r hr
      have:sgn m*nv l3=n+m:=by
       rw[q2,v1,v2]
       clear q1 q2 q3 hle h4
       rcases sgn3 n with ⟨e1,w1⟩ | ⟨e1,w1⟩ | ⟨e1,w1⟩<;>rcases sgn3 m with ⟨e2,w2⟩ | ⟨e2,w2⟩ | ⟨e2,w2⟩<;>rw[e2]<;>omega
      rw[Option.getD_some,this] at hr
      exact hr
 refine qbe x y (IV_ex _) (joinR (fun p=>p=(Option.isNone x.2 && Option.isNone y.2,x,y,(0:Int),none)) ?_ ?_)
 . rintro _ rfl
   refine q01.2 ⟨fun h=>?_,fun h=>big⟩
   obtain⟨v,d⟩:=x
   obtain⟨w,e⟩:=y
   simp only[Bool.and_eq_true,Option.isNone_iff_eq_none] at h
   obtain⟨rfl,rfl⟩:=h
   obtain⟨rfl,h1,h2⟩:=hx
   obtain⟨rfl,h3,h4⟩:=hy
   simp only at h1 h2 h3 h4 ⊢
   rw[wi64 (by omega) (by omega)]
   exact s_Of (by omega) (by omega)
 . intro k hk
   refine q01.2 ⟨fun h=>hk _ (by rw[h];rfl),fun h=>hk _ (by rw[h];rfl)⟩
def smallI (n b:Int):Int×Bool×Unit:=if n<=b /\ -b<=n then (n,true,()) else (0,false,())
theorem s_Int {x:Int×Option (List Int)} {n b:Int} (hx:IV x n) (h0:0<=b) (hb:b<4611686018427387904):callV Pg q2G [⟨tEI,x⟩,⟨tI,b⟩] (.tup (.pair tI (.pair .bool .unit))) fun r=>r=smallI n b:=by
 obtain⟨v,d⟩:=x
 refine qbf _ b ⟨_,rfl⟩ (joinR (fun p=>(p.1=true/\¬ (n<=b /\ -b<=n))∨(p.1=false/\(n<=b /\ -b<=n)/\p.2.1=n)) ?_ ?_)
 . rintro⟨p,q⟩ h
   refine q01.2 ⟨fun hp=>?_,fun hp=>?_⟩
   . (try simp only at hp);subst hp
     rcases h with ⟨_,h⟩ | ⟨h,_⟩
     . rw[smallI,if_neg h]
     . simp at h
   . (try simp only at hp);subst hp
     rcases h with ⟨h,_⟩ | ⟨_,h,h2⟩
     . simp at h
     . rw[smallI,if_pos h];simp only at h2;rw[h2]
 . intro k hk
   cases d with
   | some l=>
    obtain⟨h1,h2,h3,h4⟩:=hx
    refine q01.2 ⟨fun h=>hk _ (.inl ⟨rfl,by simp only at h4;omega⟩),fun h=>by simp[notB] at h⟩
   | none=>
    obtain⟨rfl,h1,h2⟩:=hx
    simp only at h1 h2 hk ⊢
    refine q01.2 ⟨fun h=>by simp[notB] at h,fun _=>q01.2 ⟨fun h=>?_,fun h=>?_⟩⟩
    . have h:=dec_t h
      exact hk _ (.inl ⟨rfl,by omega⟩)
    . have h:=dec_f h
      rw[wi64 (by omega) (by omega)]
      by_cases h5:v<0 - b
      . exact hk _ (.inl ⟨decide_eq_true h5,by omega⟩)
      . exact hk _ (.inr ⟨decide_eq_false h5,by omega,rfl⟩)
end Go.Proofs.Pf
namespace Go.Proofs.Pf
open Go Go.VM
theorem q6O {a b q r:Int} (h:q*b+r=a) (h0:0<=r) (h1:r<b):q=a / b/\r=a % b:=by
 have hb:0<b:=by omega
 have e:a=r+b*q:=by rw[<-h,Int.mul_comm];omega
 constructor
 . rw[e,Int.add_mul_ediv_left _ _ (by omega),Int.ediv_eq_zero_of_lt h0 h1];omega
 . rw[e,Int.add_mul_emod_self_left,Int.emod_eq_of_lt h0 h1]
def ShortOf (x:List Int) (y:Int) (r:Option (List Int)×Int×Unit):Prop:=∃ l,r.1=some l/\Dig l/\nv l=nv x / y/\l.length<=x.length/\r.2.1=nv x % y
theorem nv_ex' {a:Int} (h:0<=a) {k:Nat} (hf:Fit k a):∃ l,Dig l/\Trm l/\nv l=a/\l.length<=k:=by
 obtain⟨l,q1,q2,q3⟩:=nv_ex (a.toNat+1) a.toNat (by omega)
 have:nv l=a:=by omega
 exact⟨l,q1,q2,this,q2.fit q1 hf (by omega)⟩
theorem q6Q {l:List Int} {j:Nat} {x:Int} (h:j<l.length):(l.set j x).drop j=x :: l.drop (j+1):=by
 rw[List.drop_eq_getElem_cons (by simpa using h)]
 simp[List.drop_set]
theorem s_short {x:Option (List Int)} {y:Int} (hx:Dig (x.getD [])) (h0:0<y) (h1:y<4294967296) (hl:(x.getD []).length<=1099511627776):
 callV Pg q4H [⟨tD,x⟩,⟨tU,y⟩] (.tup (.pair tD (.pair tU .unit))) fun r=>ShortOf (x.getD []) y r:=by
 have hn:=nv_nonneg hx
 refine qbE x y ?_ ⟨?_,?_⟩
 . have hq:0<=nv (x.getD []) / y:=Int.ediv_nonneg hn (by omega)
   have hq2:nv (x.getD []) / y<=nv (x.getD []):=Int.ediv_le_self _ hn
   obtain⟨l,q1,q2,q3,q4⟩:=nv_ex' (k:=(x.getD []).length) hq ((fit_nv hx).of (by omega))
   exact⟨(some l,_,()),l,rfl,q1,q3,q4,rfl⟩
 . simp only[szSl,mkC];omega
 refine loopE (fun p=>p.1=x/\p.2.1=y/\0<=p.2.2.1/\p.2.2.1<y/\∃ (k:Nat) (o:List Int),p.2.2.2.1=(k:Int) - 1/\k<=(x.getD []).length/\p.2.2.2.2=some o/\o.length=(x.getD []).length/\Dig o/\nv (o.drop k)*y+p.2.2.1=nv ((x.getD []).drop k)) (fun p=>(p.2.2.2.1+1).toNat)
  ⟨rfl,rfl,Int.le_refl _,h0,(x.getD []).length,List.replicate (x.getD []).length 0,?_,Nat.le_refl _,?_,by simp,Dig.rep _,?_⟩ ?_
 . show IntKind.wrap IntKind.i64 (((x.getD []).length:Int) - 1)=_;exact wi64 (by omega) (by omega)
 . show some (List.replicate (((x.getD []).length:Int)).toNat 0)=_;rw[Int.toNat_natCast]
 . rw[List.drop_of_length_le (by simp),List.drop_length];simp[nv]
 rintro⟨x',y',rest,i,out⟩ ⟨e1,e2,r0,r1,k,o,e3,hk,e4,hlo,hdo,hinv⟩
 have r0:0<=rest:=r0
 have r1:rest<y:=r1
 have hinv:nv (o.drop k)*y+rest=nv ((x.getD []).drop k):=hinv
 simp only at e1 e2 e3 e4;subst e1 e2 e3 e4
 refine q01.2 ⟨fun hb=>?_,fun hb=>?_⟩
 . have hb:(0:Int)<=(k:Int) - 1:=dec_t hb
   obtain⟨j,rfl⟩:∃ j,k=j+1:=⟨k - 1,by omega⟩
   have ej:(((j+1:Nat):Int) - 1).toNat=j:=by omega
   have g:=hx.get j
   refine⟨⟨by dsimp only;omega,by dsimp only;omega⟩,?_⟩
   have hd:=s_Div32 (a:=rest) (b:=(x'.getD []).getD j 0) (c:=y') r0 g.1 g.2 h1 r1
   simp only[eltS,ej]
   refine hd.mono ?_
   rintro _ rfl
   simp only
   have hm:=Int.mul_ediv_add_emod (rest*4294967296+(x'.getD []).getD j 0) y'
   have hr0:=Int.emod_nonneg (rest*4294967296+(x'.getD []).getD j 0) (show y'≠0 by omega)
   have hr1:=Int.emod_lt_of_pos (rest*4294967296+(x'.getD []).getD j 0) h0
   have hq0:0<=(rest*4294967296+(x'.getD []).getD j 0) / y':=Int.ediv_nonneg (by omega) (by omega)
   have hq1:(rest*4294967296+(x'.getD []).getD j 0) / y'<4294967296:=by
    refine Int.ediv_lt_of_lt_mul h0 ?_
    have:(rest+1)*4294967296<=y'*4294967296:=by omega
    rw[Int.mul_comm 4294967296 y'];omega
   refine⟨⟨by omega,by simp only[Option.getD_some];omega⟩,⟨trivial,trivial,hr0,hr1,j,o.set j ((rest*4294967296+(x'.getD []).getD j 0) / y'),?_,by omega,?_,by simp[hlo],hdo.set j hq0 hq1,?_⟩,?_⟩
   . show IntKind.wrap IntKind.i64 (((j+1:Nat):Int) - 1 - 1)=(j:Int) - 1;rw[wi64 (by omega) (by omega)];omega
   . rfl
   . show nv ((o.set j ((rest*4294967296+(x'.getD []).getD j 0) / y')).drop j)*y'+(rest*4294967296+(x'.getD []).getD j 0) % y'=nv ((x'.getD []).drop j)
     rw[q6Q (by omega),q0S (x'.getD []) j (by omega),<-hinv]
     simp only[nv]
     generalize (rest*4294967296+(x'.getD []).getD j 0) / y'=q at *
     generalize (rest*4294967296+(x'.getD []).getD j 0) % y'=r at *
     generalize nv (o.drop (j+1))=z at *
     grind
   . show (IntKind.wrap IntKind.i64 (((j+1:Nat):Int) - 1 - 1)+1).toNat<(((j+1:Nat):Int) - 1+1).toNat;rw[wi64 (by omega) (by omega)];omega
 . have hb:¬ (0:Int)<=(k:Int) - 1:=dec_f hb
   have:k=0:=by omega
   subst this
   simp only[List.drop_zero] at hinv
   obtain⟨q1,q2⟩:=q6O hinv r0 r1
   exact⟨o,rfl,hdo,q1,by omega,q2⟩
end Go.Proofs.Pf
namespace Go.Proofs.Pf
open Go Go.VM
theorem or32 {x y:Int} (n:Nat) (hx:0<=x) (hxn:x<2 ^ n) (hy:0<=y) (hxy:x+y*2 ^ n<4294967296):bitI BinOp.or IntKind.u32 x (y*2 ^ n)=x+y*2 ^ n:=by
 have hp:(0:Int)<2 ^ n:=Int.pow_pos (by decide)
 have hyn:0<=y*2 ^ n:=Int.mul_nonneg hy (Int.le_of_lt hp)
 have hx64:x<2 ^ 32:=by omega
 have hy64:y*2 ^ n<2 ^ 32:=by omega
 rw[bor32,BitVec.toNat_or,bvn 32 hx hx64,bvn 32 hyn hy64]
 have e:x.toNat ||| (y*2 ^ n).toNat=x.toNat+(y*2 ^ n).toNat:=by
  have e1:(y*2 ^ n).toNat=2 ^ n*y.toNat:=by
   rw[Int.toNat_mul hy (Int.le_of_lt hp),Nat.mul_comm]
   congr 1
  rw[e1,Nat.or_comm,Nat.add_comm]
  refine (Nat.two_pow_add_eq_or_of_lt ?_ _).symm
  have:((2:Int) ^ n)=((2 ^ n:Nat):Int):=by simp
  omega
 rw[e,wu32m]
 omega
theorem q7T {l:List Int} {i k:Nat} {x:Int} (h:k<=i):(l.set i x).take k=l.take k:=by
 rw[List.take_set,List.set_eq_of_length_le]
 simp;omega
theorem q5v {l:List Int} {i:Nat} {x:Int} (h:i<l.length):(l.set i x).getD i 0=x:=by
 simp[List.getD,h]
theorem q14 {l:List Int} {i j:Nat} {x:Int} (h:i≠j):(l.set i x).getD j 0=l.getD j 0:=by
 simp[List.getD,List.getElem?_set_ne h]
theorem shl_digit {x:Int} {n:Nat} (h0:0<=x) (h1:x<4294967296) (hn:n<32):∃ y w:Int,x*2 ^ n=y*2 ^ n+4294967296*w/\0<=y/\y*2 ^ n+2 ^ n<=4294967296/\0<=w/\w<2 ^ n/\(x*2 ^ n) % 4294967296=y*2 ^ n/\(x*2 ^ n) / 4294967296=w:=by
 have e:(4294967296:Int)=2 ^ (32 - n)*2 ^ n:=by rw[<-Int.pow_add,show 32 - n+n=32 by omega];rfl
 have hp:(0:Int)<2 ^ n:=Int.pow_pos (by decide)
 have hq:(0:Int)<2 ^ (32 - n):=Int.pow_pos (by decide)
 have hm0:=Int.emod_nonneg x (show (2:Int) ^ (32 - n)≠0 by omega)
 have hm1:=Int.emod_lt_of_pos x hq
 have hd:=Int.mul_ediv_add_emod x (2 ^ (32 - n))
 have hd0:0<=x / 2 ^ (32 - n):=Int.ediv_nonneg h0 (by omega)
 have hlt:x / 2 ^ (32 - n)<2 ^ n:=Int.ediv_lt_of_lt_mul hq (by rw[Int.mul_comm,<-e];exact h1)
 generalize x % 2 ^ (32 - n)=y at *
 generalize x / 2 ^ (32 - n)=w at *
 have e1:x*2 ^ n=y*2 ^ n+4294967296*w:=by rw[<-hd];grind
 have e2:y*2 ^ n+2 ^ n<=4294967296:=by
  have:(y+1)*2 ^ n<=2 ^ (32 - n)*2 ^ n:=Int.mul_le_mul_of_nonneg_right (by omega) (by omega)
  rw[<-e,Int.add_mul] at this;omega
 have e3:0<=y*2 ^ n:=Int.mul_nonneg hm0 (by omega)
 refine⟨y,w,e1,hm0,e2,hd0,hlt,?_,?_⟩
 . rw[e1,Int.add_mul_emod_self_left,Int.emod_eq_of_lt e3 (by omega)]
 . rw[e1,Int.add_mul_ediv_left _ _ (by decide),Int.ediv_eq_zero_of_lt e3 (by omega)];omega
def ShiftOf (x:List Int) (n:Nat) (r:Option (List Int)):Prop:=∃ l,r=some l/\Dig l/\nv l=nv x*2 ^ n/\l.length=x.length+1
theorem qaY {x o:List Int} {n k:Nat} (hx:Dig x) (hn:n<32) (hk:k<x.length) (hl:o.length=x.length+1) (hd:Dig o) (hi:nv (o.take (k+1))=nv (x.take k)*2 ^ n) (ho:o.getD k 0<2 ^ n):
 bitI BinOp.or IntKind.u32 (o.getD k 0) (IntKind.wrap IntKind.u32 (shlI IntKind.u64 (IntKind.wrap IntKind.u64 (x.getD k 0)) (n:Int)))=o.getD k 0+(x.getD k 0*2 ^ n) % 4294967296 /\
 IntKind.wrap IntKind.u32 (shrI IntKind.u64 (shlI IntKind.u64 (IntKind.wrap IntKind.u64 (x.getD k 0)) (n:Int)) 32)=(x.getD k 0*2 ^ n) / 4294967296 /\
 Dig ((o.set k (o.getD k 0+(x.getD k 0*2 ^ n) % 4294967296)).set (k+1) ((x.getD k 0*2 ^ n) / 4294967296)) /\
 nv (((o.set k (o.getD k 0+(x.getD k 0*2 ^ n) % 4294967296)).set (k+1) ((x.getD k 0*2 ^ n) / 4294967296)).take (k+2))=nv (x.take (k+1))*2 ^ n /\
 ((o.set k (o.getD k 0+(x.getD k 0*2 ^ n) % 4294967296)).set (k+1) ((x.getD k 0*2 ^ n) / 4294967296)).getD (k+1) 0<2 ^ n:=by
 have g:=hx.get k
 have go:=hd.get k
 obtain⟨y,w,q1,q2,q3,q4,q5,q6,q7⟩:=shl_digit g.1 g.2 hn
 have hp:(0:Int)<2 ^ n:=Int.pow_pos (by decide)
 have hy0:0<=y*2 ^ n:=Int.mul_nonneg q2 (by omega)
 have hn2:(2:Int) ^ n<=2147483648:=by
  have e:(2147483648:Int)=2 ^ (31 - n)*2 ^ n:=by rw[<-Int.pow_add,show 31 - n+n=31 by omega];rfl
  have:(0:Int)<2 ^ (31 - n):=Int.pow_pos (by decide)
  have:1*(2:Int) ^ n<=2 ^ (31 - n)*2 ^ n:=Int.mul_le_mul_of_nonneg_right (by omega) (by omega)
  omega
 have esh:shlI IntKind.u64 (IntKind.wrap IntKind.u64 (x.getD k 0)) (n:Int)=x.getD k 0*2 ^ n:=by
  rw[wu64 g.1 (by omega),shl64 _ _ (by omega),Int.emod_eq_of_lt (by omega) (by omega)]
 rw[esh,q6,q7]
 refine⟨?_,?_,?_,?_,?_⟩
 . rw[wu32m,q6];exact or32 n go.1 ho q2 (by omega)
 . rw[q2w,q7];exact wu32 q4 (by omega)
 . exact (hd.set k (by omega) (by omega)).set (k+1) q4 (by omega)
 . rw[q0j,q5v (by simp;omega),q0j,q7T (by omega),q7T (Nat.le_refl _),q14 (by omega),q5v (by omega),q0j x]
   rw[q0j] at hi
   rw[Int.add_mul,<-hi,Int.pow_succ]
   generalize o.getD k 0=z at *
   generalize x.getD k 0=v at *
   have:(4294967296:Int) ^ k*v*2 ^ n=4294967296 ^ k*(y*2 ^ n+4294967296*w):=by rw[<-q1];grind
   rw[this]
   generalize y*2 ^ n=u at *
   grind
 . rw[q5v (by simp;omega)];exact q5
theorem shift_ex {x:List Int} {n:Nat} (hx:Dig x) (hn:n<32):∃ r,ShiftOf x n r:=by
 have h1:=nv_lt hx
 have h0:=nv_nonneg hx
 have hp:(0:Int)<2 ^ n:=Int.pow_pos (by decide)
 have hn2:(2:Int) ^ n<=4294967296:=by
  have e:(4294967296:Int)=2 ^ (32 - n)*2 ^ n:=by rw[<-Int.pow_add,show 32 - n+n=32 by omega];rfl
  have:(0:Int)<2 ^ (32 - n):=Int.pow_pos (by decide)
  have:1*(2:Int) ^ n<=2 ^ (32 - n)*2 ^ n:=Int.mul_le_mul_of_nonneg_right (by omega) (by omega)
  omega
 obtain⟨l,q1,q2,q3⟩:=q31 (x.length+1) (nv x*2 ^ n) (Int.mul_nonneg h0 (by omega)) (by
  rw[Int.pow_succ]
  have e1:(nv x+1)*2 ^ n<=4294967296 ^ x.length*2 ^ n:=Int.mul_le_mul_of_nonneg_right (by omega) (by omega)
  have e2:(4294967296:Int) ^ x.length*2 ^ n<=4294967296 ^ x.length*4294967296:=Int.mul_le_mul_of_nonneg_left hn2 (by have:=pow_pos32 x.length;omega)
  have e3:(nv x+1)*2 ^ n=nv x*2 ^ n+2 ^ n:=by rw[Int.add_mul,Int.one_mul]
  omega)
 exact⟨some l,l,rfl,q1,q2,q3⟩
theorem q7K {x:Option (List Int)} {n:Nat} (hx:Dig (x.getD [])) (hn:n<32) (hl:(x.getD []).length<=1099511627776):ownV Pg q3M [⟨tD,x⟩,⟨tI,(n:Int)⟩] tU fun r=>ShiftOf (x.getD []) n r:=by
 refine qbD x (n:Int) (shift_ex hx hn) ⟨?_,?_⟩
 . simp only[szSl];rw[wi64 (by omega) (by omega)];simp only[mkC];omega
 refine loopE (fun p=>p.1=(n:Int)/\p.2.1=x/\p.2.2.1=((x.getD []).length:Int)/\∃ (k:Nat) (o:List Int),p.2.2.2.1=k/\k<=(x.getD []).length/\p.2.2.2.2=some o/\o.length=(x.getD []).length+1/\Dig o/\nv (o.take (k+1))=nv ((x.getD []).take k)*2 ^ n/\o.getD k 0<2 ^ n) (fun p=>((x.getD []).length - p.2.2.2.1).toNat)
  ⟨rfl,rfl,rfl,0,List.replicate ((x.getD []).length+1) 0,rfl,by omega,?_,by simp,Dig.rep _,?_,?_⟩ ?_
 . show some (List.replicate (IntKind.wrap IntKind.i64 (((x.getD []).length:Int)+1)).toNat 0)=_
   rw[wi64 (by omega) (by omega)];congr 2
 . simp[nv,List.replicate_succ]
 . have:(0:Int)<2 ^ n:=Int.pow_pos (by decide)
   simpa[List.getD,List.replicate_succ] using this
 rintro⟨n',x',len,i,out⟩ ⟨e1,e2,e3,k,o,e4,hk,e5,hlo,hdo,hi,ho⟩
 dsimp only at e1 e2 e3 e4 e5
 subst e1 e2 e3 e4 e5
 refine q01.2 ⟨fun hb=>?_,fun hb=>?_⟩
 . have hb:(k:Int)<((x'.getD []).length:Int):=dec_t hb
   obtain⟨t1,t2,t3,t4,t5⟩:=qaY hx hn (by omega) hlo hdo hi ho
   have ek:IntKind.wrap IntKind.i64 ((k:Int)+1)=((k+1:Nat):Int):=by rw[wi64 (by omega) (by omega)];omega
   simp only[inS,eltS,eltN,toN,ek,Int.toNat_natCast,Option.getD_some,t1,t2]
   refine⟨⟨by omega,by omega⟩,by omega,⟨by omega,by omega⟩,⟨by omega,by omega⟩,by omega,⟨by omega,?_⟩,⟨trivial,trivial,trivial,k+1,_,rfl,by omega,rfl,by simp[hlo],t3,t4,t5⟩,?_⟩
   . simp[setO];omega
   . omega
 . have hb:¬ (k:Int)<((x'.getD []).length:Int):=dec_f hb
   have:k=(x'.getD []).length:=by omega
   subst this
   rw[List.take_of_length_le (by omega),List.take_length] at hi
   exact⟨o,rfl,hdo,hi,hlo⟩
end Go.Proofs.Pf
namespace Go.Proofs.Pf
open Go Go.VM
set_option maxRecDepth 100000
def q8s:Ann:=let x:Shape:=⟨[(7,.own 36),(10,.own 47)],[.var 6 tI,.var 8 tD,.var 9 tI,.var 11 tI,.var 13 (.int .u64),.arr 36 tU,.arr 47 tU]⟩;(.s (.s (.seq (.reg [] [(2,([],true)),(5,([],true)),(6,([39],false))] none) (.s (.s (.seq (.s (.blk none (.loop ⟨[(7,.own 36),(10,.own 47)],[.var 6 tI,.var 8 tD,.var 9 tI,.var 11 tI,.arr 36 tU,.arr 47 tU]⟩ (.s (.seq (.blk none (.s (.s (.s (.seq (.blk (some x) (.loop ⟨[(7,.own 36),(10,.own 47)],[.var 6 tI,.var 8 tD,.var 9 tI,.var 11 tI,.var 13 (.int .u64),.var 14 (.int .u64),.arr 36 tU,.arr 47 tU]⟩ (.seq (.seq (.reg [] [] (some ⟨[(7,.own 36),(10,.own 47)],[.var 6 tI,.var 8 tD,.var 9 tI,.var 11 tI,.var 13 (.int .u64),.var 14 (.int .u64),.var 113 .bool,.arr 36 tU,.arr 47 tU]⟩)) .nil) .nil))) (.s (.seq (.s (.blk none (.loop ⟨[(7,.own 36),(10,.own 47)],[.var 6 tI,.var 8 tD,.var 9 tI,.var 11 tI,.var 13 (.int .u64),.var 15 (.int .u64),.var 16 (.int .u64),.var 126 tD,.var 127 tI,.var 128 tI,.arr 36 tU,.arr 47 tU]⟩ .nil))) (.s (.s (.seq (.s (.cond (some x) (.s (.s (.seq (.s (.blk none (.loop ⟨[(7,.own 36),(10,.own 47)],[.var 6 tI,.var 8 tD,.var 9 tI,.var 11 tI,.var 13 (.int .u64),.var 22 tU,.var 187 tD,.var 188 tI,.var 189 tI,.arr 36 tU,.arr 47 tU]⟩ .nil))) .nil))) .nil)) .nil)))))))))) .nil))))) (.s (.seq (.s (.blk none (.loop ⟨[(7,.own 36),(10,.own 47),(25,.own 227)],[.var 6 tI,.var 229 tI,.var 230 tI,.arr 36 tU,.arr 47 tU,.arr 227 tU]⟩ .nil))) .nil))))))))
theorem qby {Q:(DL×(DL×Unit))->Prop} (a:DL) (b:DL) (hQ:∃ r,Q r) (h:
 (inS b (IntKind.wrap IntKind.i64 ((szSl b) - (1:Int)))/\callV Pg q4K [⟨tU,eltS (0:Int) b (IntKind.wrap IntKind.i64 ((szSl b) - (1:Int)))⟩] tI (fun p0=>ownV Pg q3M [⟨tD,a⟩,⟨tI,p0⟩] tU (fun p1=>ownV Pg q3M [⟨tD,b⟩,⟨tI,p0⟩] tU (fun p2=>callV Pg q2K [⟨tD,p2⟩] tD (fun p3=>mkC 4 (IntKind.wrap IntKind.i64 ((szSl p1) - (szSl p3))) (IntKind.wrap IntKind.i64 ((szSl p1) - (szSl p3)))/\loopV (Int×DL×Int×Int×DL×DL) (fun k4  (i,j,k,l,m,n)=>brV (decide ((0:Int)<=l)) (inS m (IntKind.wrap IntKind.i64 (l+k))/\((0:Int)<=(32:Int))/\inS m (IntKind.wrap IntKind.i64 ((IntKind.wrap IntKind.i64 (l+k)) - (1:Int)))/\inS j (IntKind.wrap IntKind.i64 (k - (1:Int)))/\((IntKind.wrap IntKind.u64 (eltS (0:Int) j (IntKind.wrap IntKind.i64 (k - (1:Int)))))≠(0:Int))/\inS j (IntKind.wrap IntKind.i64 (k - (1:Int)))/\((IntKind.wrap IntKind.u64 (eltS (0:Int) j (IntKind.wrap IntKind.i64 (k - (1:Int)))))≠(0:Int))/\joinV (Int×DL×Int×Int×Int×DL×DL) (fun (o,p,q,r,s,t)=>loopV (Int×DL×Int×Int×Int×Int×Int×DL×Int×Int×DL×DL) (fun k7  (u,v,w,x,y,z,e,f,g,c,d,A)=>brV (decide (c<g)) (inS f c/\((0:Int)<=(32:Int))/\inS d (IntKind.wrap IntKind.i64 (x+c))/\inS d (IntKind.wrap IntKind.i64 (x+c))/\((0:Int)<=(63:Int))/\k7 (u,v,w,x,y,shrI IntKind.u64 (IntKind.wrap IntKind.u64 ((IntKind.wrap IntKind.u64 ((IntKind.wrap IntKind.u64 (eltN (0:Int) d (toN (IntKind.wrap IntKind.i64 (x+c))))) - (IntKind.wrap IntKind.u64 (IntKind.wrap IntKind.u32 (IntKind.wrap IntKind.u64 ((IntKind.wrap IntKind.u64 (y*(IntKind.wrap IntKind.u64 (eltS (0:Int) f c))))+e)))))) - z)) (63:Int),shrI IntKind.u64 (IntKind.wrap IntKind.u64 ((IntKind.wrap IntKind.u64 (y*(IntKind.wrap IntKind.u64 (eltS (0:Int) f c))))+e)) (32:Int),f,g,IntKind.wrap IntKind.i64 (c+(1:Int)),setO d (toN (IntKind.wrap IntKind.i64 (x+c))) (IntKind.wrap IntKind.u32 (IntKind.wrap IntKind.u64 ((IntKind.wrap IntKind.u64 ((IntKind.wrap IntKind.u64 (eltN (0:Int) d (toN (IntKind.wrap IntKind.i64 (x+c))))) - (IntKind.wrap IntKind.u64 (IntKind.wrap IntKind.u32 (IntKind.wrap IntKind.u64 ((IntKind.wrap IntKind.u64 (y*(IntKind.wrap IntKind.u64 (eltS (0:Int) f c))))+e)))))) - z))),A)) (inS d (IntKind.wrap IntKind.i64 (x+w))/\inS d (IntKind.wrap IntKind.i64 (x+w))/\((0:Int)<=(63:Int))/\joinV (Int×DL×Int×Int×Int×DL×DL) (fun (B,C,D,E,F,G,H)=>inS H E/\k4 (B,C,D,IntKind.wrap IntKind.i64 (E - (1:Int)),G,setO H (toN E) (IntKind.wrap IntKind.u32 F))) (fun k9=>brV (decide ((shrI IntKind.u64 (IntKind.wrap IntKind.u64 ((IntKind.wrap IntKind.u64 ((IntKind.wrap IntKind.u64 (eltN (0:Int) d (toN (IntKind.wrap IntKind.i64 (x+w))))) - e)) - z)) (63:Int))=(1:Int))) (loopV (Int×DL×Int×Int×Int×Int×DL×Int×Int×DL×DL) (fun k10  (B,C,D,E,F,G,H,I,J,K,L)=>brV (decide (J<I)) (inS H J/\inS K (IntKind.wrap IntKind.i64 (E+J))/\callV Pg q3O [⟨tU,eltN (0:Int) K (toN (IntKind.wrap IntKind.i64 (E+J)))⟩,⟨tU,eltS (0:Int) H J⟩,⟨tU,G⟩] (.tup (.pair tU (.pair tU .unit))) (fun p12=>inS K (IntKind.wrap IntKind.i64 (E+J))/\k10 (B,C,D,E,F,p12.2.1,H,I,IntKind.wrap IntKind.i64 (J+(1:Int)),setO K (toN (IntKind.wrap IntKind.i64 (E+J))) p12.1,L))) (inS K (IntKind.wrap IntKind.i64 (E+D))/\inS K (IntKind.wrap IntKind.i64 (E+D))/\k9 (B,C,D,E,F,setO K (toN (IntKind.wrap IntKind.i64 (E+D))) (IntKind.wrap IntKind.u32 ((eltN (0:Int) K (toN (IntKind.wrap IntKind.i64 (E+D))))+G)),L))) (u,v,w,x,IntKind.wrap IntKind.u64 (y - (1:Int)),(0:Int),v,szSl v,(0:Int),setO d (toN (IntKind.wrap IntKind.i64 (x+w))) (IntKind.wrap IntKind.u32 (IntKind.wrap IntKind.u64 ((IntKind.wrap IntKind.u64 ((IntKind.wrap IntKind.u64 (eltN (0:Int) d (toN (IntKind.wrap IntKind.i64 (x+w))))) - e)) - z))),A)) (k9 (u,v,w,x,y,setO d (toN (IntKind.wrap IntKind.i64 (x+w))) (IntKind.wrap IntKind.u32 (IntKind.wrap IntKind.u64 ((IntKind.wrap IntKind.u64 ((IntKind.wrap IntKind.u64 (eltN (0:Int) d (toN (IntKind.wrap IntKind.i64 (x+w))))) - e)) - z))),A))))) (o,p,q,r,s,(0:Int),(0:Int),p,szSl p,(0:Int),t)) (fun k6=>loopV (Int×DL×Int×Int×Int×Int×DL×DL) (fun k7  (o,p,q,r,s,t,u,v)=>joinV (Int×DL×Int×Int×Int×Int×Bool×DL×DL) (fun (w,x,y,z,e,f,g,c)=>brV g (inS x (IntKind.wrap IntKind.i64 (y - (1:Int)))/\brV (decide ((4294967296:Int)<=(IntKind.wrap IntKind.u64 (f+(IntKind.wrap IntKind.u64 (eltS (0:Int) x (IntKind.wrap IntKind.i64 (y - (1:Int))))))))) (k6 (w,x,y,z,IntKind.wrap IntKind.u64 (e - (1:Int)),c)) (k7 (w,x,y,z,IntKind.wrap IntKind.u64 (e - (1:Int)),IntKind.wrap IntKind.u64 (f+(IntKind.wrap IntKind.u64 (eltS (0:Int) x (IntKind.wrap IntKind.i64 (y - (1:Int)))))),c))) (k6 (w,x,y,z,e,c))) (fun k9=>brV (decide ((4294967296:Int)<=s)) (k9 (o,p,q,r,s,t,true,u,v)) (inS p (IntKind.wrap IntKind.i64 (q - (2:Int)))/\((0:Int)<=(32:Int))/\inS u (IntKind.wrap IntKind.i64 ((IntKind.wrap IntKind.i64 (r+q)) - (2:Int)))/\k9 (o,p,q,r,s,t,decide ((bitI BinOp.or IntKind.u64 (shlI IntKind.u64 t (32:Int)) (IntKind.wrap IntKind.u64 (eltN (0:Int) u (toN (IntKind.wrap IntKind.i64 ((IntKind.wrap IntKind.i64 (r+q)) - (2:Int)))))))<(IntKind.wrap IntKind.u64 (s*(IntKind.wrap IntKind.u64 (eltS (0:Int) p (IntKind.wrap IntKind.i64 (q - (2:Int)))))))),u,v)))) (i,j,k,l,IntKind.wrap IntKind.u64 (Int.tdiv (bitI BinOp.or IntKind.u64 (shlI IntKind.u64 (IntKind.wrap IntKind.u64 (eltN (0:Int) m (toN (IntKind.wrap IntKind.i64 (l+k))))) (32:Int)) (IntKind.wrap IntKind.u64 (eltN (0:Int) m (toN (IntKind.wrap IntKind.i64 ((IntKind.wrap IntKind.i64 (l+k)) - (1:Int))))))) (IntKind.wrap IntKind.u64 (eltS (0:Int) j (IntKind.wrap IntKind.i64 (k - (1:Int)))))),Int.tmod (bitI BinOp.or IntKind.u64 (shlI IntKind.u64 (IntKind.wrap IntKind.u64 (eltN (0:Int) m (toN (IntKind.wrap IntKind.i64 (l+k))))) (32:Int)) (IntKind.wrap IntKind.u64 (eltN (0:Int) m (toN (IntKind.wrap IntKind.i64 ((IntKind.wrap IntKind.i64 (l+k)) - (1:Int))))))) (IntKind.wrap IntKind.u64 (eltS (0:Int) j (IntKind.wrap IntKind.i64 (k - (1:Int))))),m,n))) (mkC 4 k k/\loopV (Int×Int×Int×DL×DL×DL) (fun k6  (o,p,q,r,s,t)=>brV (decide (q<p)) (inS r q/\inS r (IntKind.wrap IntKind.i64 (q+(1:Int)))/\((0:Int)<=(32:Int))/\((0:Int)<=o)/\inS t q/\k6 (o,p,IntKind.wrap IntKind.i64 (q+(1:Int)),r,s,setO t (toN q) (IntKind.wrap IntKind.u32 (shrI IntKind.u64 (bitI BinOp.or IntKind.u64 (IntKind.wrap IntKind.u64 (eltN (0:Int) r (toN q))) (shlI IntKind.u64 (IntKind.wrap IntKind.u64 (eltN (0:Int) r (toN (IntKind.wrap IntKind.i64 (q+(1:Int)))))) (32:Int))) o)))) (Q (s,t,()))) (i,szSl (some (repS k (0:Int))),(0:Int),m,n,some (repS k (0:Int))))) (p0,p3,szSl p3,IntKind.wrap IntKind.i64 ((IntKind.wrap IntKind.i64 ((szSl p1) - (szSl p3))) - (1:Int)),p1,some (repS (IntKind.wrap IntKind.i64 ((szSl p1) - (szSl p3))) (0:Int))))))))):
 callV Pg q4F [⟨tD,a⟩,⟨tD,b⟩] (.tup (.pair tD (.pair tD .unit))) Q:=
 q02 (c:=q00 Tryz.f164) (ann:=q8s) Tryz.func164 rfl Tryz.call164 rfl rfl hQ (kcast (by kernel_rfl) h)
def q89:Ann:=(.s (.seq (.seq (.reg [] [] (some ⟨[(2,.ref 2 0),(3,.ref 3 0),(4,.ref 4 0)],[.var 24 .bool,.box 2 tEI,.box 3 tEI,.box 4 tEI]⟩)) (.cond (some ⟨[(2,.ref 2 0),(3,.ref 3 0),(4,.ref 4 0)],[.box 2 tEI,.box 3 tEI,.box 4 tEI]⟩) (.s (.seq (.reg [] [] (some ⟨[(2,.ref 2 0),(3,.ref 3 0),(4,.ref 4 0)],[.var 6 (.int .u64),.var 48 .bool,.box 2 tEI,.box 3 tEI,.box 4 tEI]⟩)) .nil)) .nil)) (.s (.s (.s (.seq (.s (.blk none (.loop ⟨[(4,.ref 4 0),(11,.own 73)],[.var 7 tI,.var 9 tI,.var 10 tD,.var 74 tD,.var 75 tI,.var 76 tI,.box 4 tEI,.arr 73 tU]⟩ (.s (.s (.seq (.blk none (.s (.s (.seq (.s (.blk none (.loop ⟨[(4,.ref 4 0),(11,.own 73)],[.var 7 tI,.var 9 tI,.var 10 tD,.var 12 tI,.var 13 tU,.var 14 (.int .u64),.var 74 tD,.var 75 tI,.var 76 tI,.var 81 tD,.var 82 tI,.var 83 tI,.box 4 tEI,.arr 73 tU]⟩ .nil))) .nil)))) .nil)))))) (.seq (.reg [] [(4,([73],false))] none) .nil)))))))
theorem qbg {Q:DE->Prop} (a:DE) (b:DE) (hQ:∃ r,Q r) (h:
 (joinV (Bool×DE×DR) (fun (i,j,k)=>joinV (DE×DR) (fun (l,m)=>callV Pg q0M [⟨tEI,l⟩] (.tup (.pair tI (.pair tD .unit))) (fun p2=>callV Pg q0M [⟨tEI,m.1⟩] (.tup (.pair tI (.pair tD .unit))) (fun p3=>mkC 4 (IntKind.wrap IntKind.i64 ((szSl p2.2.1)+(szSl p3.2.1))) (IntKind.wrap IntKind.i64 ((szSl p2.2.1)+(szSl p3.2.1)))/\loopV (Int×Int×DL×DL×Int×Int×DE×DL) (fun k4  (n,o,p,q,r,s,t,u)=>brV (decide (s<r)) (inS q s/\loopV (Int×Int×DL×Int×Int×Int×DL×Int×Int×DL×Int×Int×DE×DL) (fun k6  (v,w,x,y,z,e,f,g,c,d,A,B,C,D)=>brV (decide (B<A)) (inS d B/\inS D (IntKind.wrap IntKind.i64 (y+B))/\inS D (IntKind.wrap IntKind.i64 (y+B))/\((0:Int)<=(32:Int))/\k6 (v,w,x,y,z,shrI IntKind.u64 (IntKind.wrap IntKind.u64 (e+(IntKind.wrap IntKind.u64 ((IntKind.wrap IntKind.u64 ((IntKind.wrap IntKind.u64 z)*(IntKind.wrap IntKind.u64 (eltS (0:Int) d B))))+(IntKind.wrap IntKind.u64 (eltN (0:Int) D (toN (IntKind.wrap IntKind.i64 (y+B))))))))) (32:Int),f,g,c,d,A,IntKind.wrap IntKind.i64 (B+(1:Int)),C,setO D (toN (IntKind.wrap IntKind.i64 (y+B))) (IntKind.wrap IntKind.u32 (IntKind.wrap IntKind.u64 (e+(IntKind.wrap IntKind.u64 ((IntKind.wrap IntKind.u64 ((IntKind.wrap IntKind.u64 z)*(IntKind.wrap IntKind.u64 (eltS (0:Int) d B))))+(IntKind.wrap IntKind.u64 (eltN (0:Int) D (toN (IntKind.wrap IntKind.i64 (y+B)))))))))))) (inS D (IntKind.wrap IntKind.i64 (y+(szSl x)))/\k4 (v,w,x,f,g,IntKind.wrap IntKind.i64 (c+(1:Int)),C,setO D (toN (IntKind.wrap IntKind.i64 (y+(szSl x)))) (IntKind.wrap IntKind.u32 e)))) (n,o,p,s,eltS (0:Int) q s,(0:Int),q,r,s,p,szSl p,(0:Int),t,u)) (callV Pg q0o [⟨tI,IntKind.wrap IntKind.i64 (n*o)⟩,⟨tD,u⟩] tEI (fun p6=>Q p6))) (p2.1,p3.1,p3.2.1,p2.2.1,szSl p2.2.1,(0:Int),m.2,some (repS (IntKind.wrap IntKind.i64 ((szSl p2.2.1)+(szSl p3.2.1))) (0:Int)))))) (fun k1=>brV i (callV Pg q4O [⟨.int .u64,IntKind.wrap IntKind.u64 (maxI j.1 (IntKind.wrap IntKind.i64 ((0:Int) - j.1)))⟩,⟨.int .u64,IntKind.wrap IntKind.u64 (maxI k.1.1 (IntKind.wrap IntKind.i64 ((0:Int) - k.1.1)))⟩] (.tup (.pair (.int .u64) (.pair (.int .u64) .unit))) (fun p2=>joinV (Int×Bool×DE×DR) (fun (l,m,n,o)=>brV m (callV Pg q1f [⟨tEI,n⟩] tI (fun p4=>callV Pg q1f [⟨tEI,o.1⟩] tI (fun p5=>Q (IntKind.wrap IntKind.i64 ((IntKind.wrap IntKind.i64 (p4*p5))*(IntKind.wrap IntKind.i64 l)),none)))) (k1 (n,o))) (fun k3=>brV (decide (p2.1=(0:Int))) (k3 (p2.2.1,decide (p2.2.1<(4611686018427387904:Int)),j,k)) (k3 (p2.2.1,false,j,k))))) (k1 (j,k)))) (fun k0=>brV (Option.isNone a.2) (k0 (Option.isNone b.2,a,b,(0:Int),none)) (k0 (false,a,b,(0:Int),none))))):
 callV Pg q0L [⟨tEI,a⟩,⟨tEI,b⟩] tEI Q:=
 q02 (c:=q00 Tryz.f101) (ann:=q89) Tryz.func101 rfl Tryz.call101 rfl rfl hQ (kcast (by kernel_rfl) h)
end Go.Proofs.Pf
namespace Go.Proofs.Pf
open Go Go.VM
theorem q44 {p q z c:Int} (hp:0<=p) (hp':p<4294967296) (hq:0<=q) (hq':q<4294967296) (hz:0<=z) (hz':z<4294967296) (hc:0<=c) (hc':c<4294967296):
 0<=p*q+z+c/\p*q+z+c<18446744073709551616/\IntKind.wrap IntKind.u64 (c+IntKind.wrap IntKind.u64 (IntKind.wrap IntKind.u64 (IntKind.wrap IntKind.u64 p*IntKind.wrap IntKind.u64 q)+IntKind.wrap IntKind.u64 z))=p*q+z+c:=by
 have h0:0<=p*q:=Int.mul_nonneg hp hq
 have h1:p*q<=4294967295*4294967295:=Int.mul_le_mul (by omega) (by omega) hq (by omega)
 rw[wu64 hp (by omega),wu64 hq (by omega),wu64 hz (by omega)]
 generalize p*q=m at *
 rw[wu64 h0 (by omega),wu64 (x:=m+z) (by omega) (by omega),wu64 (by omega) (by omega)]
 omega
structure MInv (x y:List Int) (i:Nat) (o:List Int):Prop where
 len:o.length=x.length+y.length
 dig:Dig o
 val:nv o=nv (x.take i)*nv y
 zero:∀ j,i+y.length<=j->o.getD j 0=0
structure MIn (x y:List Int) (i k:Nat) (c:Int) (o:List Int):Prop where
 len:o.length=x.length+y.length
 dig:Dig o
 c0:0<=c
 c1:c<4294967296
 val:nv o+4294967296 ^ (i+k)*c=nv (x.take i)*nv y+4294967296 ^ i*x.getD i 0*nv (y.take k)
 zero:∀ j,i+y.length<=j->o.getD j 0=0
theorem MIn.start {x y:List Int} {i:Nat} {o:List Int} (h:MInv x y i o):MIn x y i 0 0 o:=⟨h.len,h.dig,Int.le_refl _,by decide,by simp[nv,h.val],h.zero⟩
theorem MIn.step {x y:List Int} {i k:Nat} {c:Int} {o:List Int} (hx:Dig x) (hy:Dig y) (hi:i<x.length) (hk:k<y.length) (h:MIn x y i k c o):
 MIn x y i (k+1) ((x.getD i 0*y.getD k 0+o.getD (i+k) 0+c) / 4294967296) (o.set (i+k) ((x.getD i 0*y.getD k 0+o.getD (i+k) 0+c) % 4294967296)):=by
 have gx:=hx.get i
 have gy:=hy.get k
 have go:=h.dig.get (i+k)
 have hl:=h.len
 obtain⟨m1,m2,_⟩:=q44 gx.1 gx.2 gy.1 gy.2 go.1 go.2 h.c0 h.c1
 refine⟨by simp[hl],h.dig.set _ (by omega) (by omega),by omega,by omega,?_,fun j hj=>?_⟩
 . rw[q0v _ _ _ (by omega),q0j]
   have hv:=h.val
   have hdm:=Int.emod_add_mul_ediv (x.getD i 0*y.getD k 0+o.getD (i+k) 0+c) 4294967296
   generalize (x.getD i 0*y.getD k 0+o.getD (i+k) 0+c) % 4294967296=d at *
   generalize (x.getD i 0*y.getD k 0+o.getD (i+k) 0+c) / 4294967296=e at *
   have e1:(4294967296:Int) ^ (i+(k+1))=4294967296 ^ (i+k)*4294967296:=by rw[<-Nat.add_assoc,Int.pow_succ]
   have e2:(4294967296:Int) ^ (i+k)=4294967296 ^ i*4294967296 ^ k:=Int.pow_add ..
   rw[e1]
   rw[e2] at hv ⊢
   generalize (4294967296:Int) ^ i=bi at *
   generalize (4294967296:Int) ^ k=bk at *
   grind
 . rw[q14 (by omega)];exact h.zero j hj
theorem MIn.fin {x y:List Int} {i:Nat} {c:Int} {o:List Int} (hi:i<x.length) (h:MIn x y i y.length c o):MInv x y (i+1) (o.set (i+y.length) c):=by
 have hl:=h.len
 refine⟨by simp[hl],h.dig.set _ h.c0 h.c1,?_,fun j hj=>?_⟩
 . rw[q0v _ _ _ (by omega),h.zero _ (Nat.le_refl _),q0j]
   have hv:=h.val
   rw[List.take_length] at hv
   grind
 . rw[q14 (by omega)];exact h.zero j (by omega)
theorem q6d (n m:Int):sgn (n*m)=sgn n*sgn m:=by
 rcases sgn3 n with ⟨e1,h1⟩ | ⟨e1,h1⟩ | ⟨e1,h1⟩<;>rcases sgn3 m with ⟨e2,h2⟩ | ⟨e2,h2⟩ | ⟨e2,h2⟩<;>rw[e1,e2]
 . have:=Int.mul_pos h1 h2;rw[sgn,if_pos this];rfl
 . have:=Int.mul_neg_of_pos_of_neg h1 h2;rw[sgn,if_neg (by omega),if_pos this];rfl
 . rw[h2];simp[sgn]
 . have:=Int.mul_neg_of_neg_of_pos h1 h2;rw[sgn,if_neg (by omega),if_pos this];rfl
 . have:=Int.mul_pos_of_neg_of_neg h1 h2;rw[sgn,if_pos this];rfl
 . rw[h2];simp[sgn]
 . rw[h1];simp[sgn]
 . rw[h1];simp[sgn]
 . rw[h1];simp[sgn]
theorem q6c (n:Int):sgn n*n.natAbs=n:=by
 rcases sgn3 n with ⟨e1,h1⟩ | ⟨e1,h1⟩ | ⟨e1,h1⟩<;>rw[e1]<;>omega
theorem sgn_cases (n:Int):sgn n=1∨sgn n = -1∨(sgn n=0/\n=0):=by
 rcases sgn3 n with ⟨e1,h1⟩ | ⟨e1,h1⟩ | ⟨e1,h1⟩
 . exact .inl e1
 . exact .inr (.inl e1)
 . exact .inr (.inr ⟨e1,h1⟩)
theorem s_Mul {x y:Int×Option (List Int)} {n m:Int} {k j:Nat} (hx:IV x n) (hy:IV y m) (fx:Fit k n) (fy:Fit j m) (hk:k<=1073741824) (hj:j<=1073741824):callV Pg q0L [⟨tEI,x⟩,⟨tEI,y⟩] tEI fun r=>IV r (n*m):=by
 refine qbg x y (IV_ex _) (joinR (fun p=>p=(Option.isNone x.2 && Option.isNone y.2,x,y,(0:Int),none)) ?_ ?_)
 . rintro _ rfl
   refine joinR (fun p=>p=(x,y,(0:Int),none)) ?_ ?_
   . rintro _ rfl
     dsimp only
     refine (q2s hx).mono ?_
     rintro⟨s,d,_⟩ ⟨e1,X,e2,d1,t1,v1⟩
     dsimp only at e1 e2;subst e1 e2
     refine (q2s hy).mono ?_
     rintro⟨s,d,_⟩ ⟨e1,Y,e2,d2,t2,v2⟩
     dsimp only at e1 e2;subst e1 e2
     have l1:=t1.fit d1 fx v1
     have l2:=t2.fit d2 fy v2
     have el:IntKind.wrap IntKind.i64 ((X.length:Int)+(Y.length:Int))=(X.length:Int)+(Y.length:Int):=wi64 (by omega) (by omega)
     refine⟨?_,?_⟩
     . show mkC 4 (IntKind.wrap IntKind.i64 ((X.length:Int)+(Y.length:Int))) (IntKind.wrap IntKind.i64 ((X.length:Int)+(Y.length:Int)))
       rw[el];simp only[mkC];omega
     refine loopE (fun p=>∃ (i:Nat) (o:List Int),i<=X.length/\MInv X Y i o/\p=(sgn n,sgn m,some Y,some X,(X.length:Int),(i:Int),((0:Int),none),some o)) (fun p=>((X.length:Int) - p.2.2.2.2.2.1).toNat) ⟨0,List.replicate (X.length+Y.length) 0,by omega,⟨by simp,Dig.rep _,by rw[q46];simp[nv],fun j _=>?_⟩,?_⟩ ?_
     . simp only[List.getD,List.getElem?_replicate];split<;>rfl
     . show (sgn n,sgn m,some Y,some X,(X.length:Int),(0:Int),((0:Int),none),some (List.replicate (IntKind.wrap IntKind.i64 ((X.length:Int)+(Y.length:Int))).toNat 0))=_
       rw[el]
       have:((X.length:Int)+(Y.length:Int)).toNat=X.length+Y.length:=by omega
       rw[this];rfl
     rintro _ ⟨i,o,hi,hI,rfl⟩
     refine q01.2 ⟨fun hb=>?_,fun hb=>?_⟩
     . have hb:(i:Int)<(X.length:Int):=dec_t hb
       refine⟨⟨by dsimp only;omega,by dsimp only[Option.getD_some];omega⟩,?_⟩
       dsimp only
       simp only[eltS,Option.getD_some,Int.toNat_natCast,szSl]
       refine loopE (fun p=>∃ (k:Nat) (c:Int) (o:List Int),k<=Y.length/\MIn X Y i k c o/\p=(sgn n,sgn m,some Y,(i:Int),X.getD i 0,c,some X,(X.length:Int),(i:Int),some Y,(Y.length:Int),(k:Int),((0:Int),none),some o)) (fun p=>((Y.length:Int) - p.2.2.2.2.2.2.2.2.2.2.2.1).toNat) ⟨0,0,o,by omega,MIn.start hI,rfl⟩ ?_
       rintro _ ⟨k,c,o,hk',hM,rfl⟩
       have hl:=hM.len
       refine q01.2 ⟨fun hc=>?_,fun hc=>?_⟩
       . have hc:(k:Int)<(Y.length:Int):=dec_t hc
         have ei:IntKind.wrap IntKind.i64 ((i:Int)+(k:Int))=((i+k:Nat):Int):=by rw[wi64 (by omega) (by omega)];omega
         have ek:IntKind.wrap IntKind.i64 ((k:Int)+1)=((k+1:Nat):Int):=by rw[wi64 (by omega) (by omega)];omega
         have gx:=d1.get i
         have gy:=d2.get k
         have go:=hM.dig.get (i+k)
         obtain⟨m1,m2,m3⟩:=q44 gx.1 gx.2 gy.1 gy.2 go.1 go.2 hM.c0 hM.c1
         have hst:=hM.step d1 d2 (by omega) (by omega)
         simp only[inS,eltN,toN,Option.getD_some,Int.toNat_natCast,ei,ek,m3,q2w,wu32m]
         refine⟨⟨by omega,by omega⟩,⟨by omega,by omega⟩,⟨by omega,by omega⟩,by omega,⟨k+1,_,_,by omega,hst,rfl⟩,by omega⟩
       . have hc:¬ (k:Int)<(Y.length:Int):=dec_f hc
         have:k=Y.length:=by omega
         subst this
         have ei:IntKind.wrap IntKind.i64 ((i:Int)+(Y.length:Int))=((i+Y.length:Nat):Int):=by rw[wi64 (by omega) (by omega)];omega
         have ek:IntKind.wrap IntKind.i64 ((i:Int)+1)=((i+1:Nat):Int):=by rw[wi64 (by omega) (by omega)];omega
         have hf:=hM.fin (by omega)
         simp only[inS,toN,Option.getD_some,Int.toNat_natCast,ei,ek,wu32 hM.c0 hM.c1]
         refine⟨⟨by omega,by omega⟩,⟨i+1,_,by omega,hf,rfl⟩,by omega⟩
     . have hb:¬ (i:Int)<(X.length:Int):=dec_f hb
       have:i=X.length:=by omega
       subst this
       have hv:=hI.val
       rw[List.take_length,v1,v2] at hv
       have es:IntKind.wrap IntKind.i64 (sgn n*sgn m)=sgn (n*m):=by
        rw[q6d]
        rcases sgn_cases n with e1 | e1 | ⟨e1,_⟩<;>rcases sgn_cases m with e2 | e2 | ⟨e2,_⟩<;>rw[e1,e2]<;>rfl
       dsimp only
       rw[es]
       have hln:=hI.len
       refine (q1t (b:=some o) hI.dig ?_ (by simp only[Option.getD_some];omega)).mono ?_
       . rcases sgn_cases (n*m) with e | e | ⟨e,e0⟩
         . exact .inl e
         . exact .inr (.inl e)
         . refine .inr (.inr ⟨e,?_⟩)
           rw[Option.getD_some,hv]
           rcases Int.mul_eq_zero.1 e0 with rfl | rfl<;>simp
       . intro r hr
         rw[Option.getD_some,hv] at hr
         have:sgn (n*m)*((n.natAbs:Int)*(m.natAbs:Int))=n*m:=by
          have:=q6c (n*m)
          rw[Int.natAbs_mul] at this
          simpa using this
         rw[this] at hr
         exact hr
   . intro k1 hk1
     refine q01.2 ⟨fun h=>?_,fun h=>hk1 _ rfl⟩
     obtain⟨v,d⟩:=x
     obtain⟨w,e⟩:=y
     simp only[Bool.and_eq_true,Option.isNone_iff_eq_none] at h
     obtain⟨rfl,rfl⟩:=h
     have hx':=hx
     have hy':=hy
     obtain⟨rfl,h1,h2⟩:=hx
     obtain⟨rfl,h3,h4⟩:=hy
     dsimp only at h1 h2 h3 h4 hk1 hx' hy' ⊢
     have ab:∀ v:Int,-4611686018427387904<v->v<4611686018427387904->IntKind.wrap IntKind.u64 (maxI v (IntKind.wrap IntKind.i64 (0 - v)))=(v.natAbs:Int):=by
      intro v h1 h2
      rw[wi64 (by omega) (by omega)]
      unfold maxI
      split
      . rw[wu64 (by omega) (by omega)];omega
      . rw[wu64 (by omega) (by omega)];omega
     rw[ab v h1 h2,ab w h3 h4]
     have hp:(v.natAbs:Int)*(w.natAbs:Int)=((v*w).natAbs:Int):=by rw[Int.natAbs_mul];simp
     refine (s_Mul64 (by omega) (by omega) (by omega) (by omega)).mono ?_
     rintro _ rfl
     rw[hp]
     refine joinR (fun p=>∃ b:Bool,p=(((v*w).natAbs:Int) % 18446744073709551616,b,(v,none),(w,none),(0:Int),none)/\(b=true->((v*w).natAbs:Int)<4611686018427387904)) ?_ ?_
     . rintro _ ⟨b,rfl,hb⟩
       refine q01.2 ⟨fun h=>?_,fun h=>hk1 _ rfl⟩
       have hb:=hb h
       refine (q1T hx').mono ?_
       rintro _ rfl
       refine (q1T hy').mono ?_
       rintro _ rfl
       dsimp only
       have es:IntKind.wrap IntKind.i64 (sgn v*sgn w)=sgn (v*w):=by
        rw[q6d]
        rcases sgn_cases v with e1 | e1 | ⟨e1,_⟩<;>rcases sgn_cases w with e2 | e2 | ⟨e2,_⟩<;>rw[e1,e2]<;>rfl
       rw[es,Int.emod_eq_of_lt (by omega) (by omega),wi64 (x:=((v*w).natAbs:Int)) (by omega) (by omega),q6c,wi64 (by omega) (by omega)]
       exact⟨rfl,by omega,by omega⟩
     . intro k hk
       refine q01.2 ⟨fun h=>?_,fun h=>?_⟩
       . have h:((v*w).natAbs:Int) / 18446744073709551616=0:=dec_t h
         refine hk _ ⟨_,rfl,fun hb=>?_⟩
         have hb:((v*w).natAbs:Int) % 18446744073709551616<4611686018427387904:=dec_t hb
         omega
       . exact hk _ ⟨false,rfl,fun hb=>by simp at hb⟩
 . intro k hk
   refine q01.2 ⟨fun h=>hk _ (by rw[h];rfl),fun h=>hk _ (by rw[h];rfl)⟩
end Go.Proofs.Pf
namespace Go.Proofs.Pf
open Go Go.VM
def LongOf (x y:List Int) (r:Option (List Int)×Option (List Int)×Unit):Prop:=
 (∃ l,r.1=some l/\Dig l/\nv l=nv x / nv y/\l.length<=x.length+1)/\∃ l,r.2.1=some l/\Dig l/\nv l=nv x % nv y/\l.length<=y.length
def LongS:Prop:=∀ (x y:List Int),Dig x->Dig y->Trm y->2<=y.length->y.length<=x.length->x.length<=1073741824->
 callV Pg q4F [⟨tD,some x⟩,⟨tD,some y⟩] (.tup (.pair tD (.pair tD .unit))) fun r=>LongOf x y r
def QuoOf (n m:Int) (r:(Int×Option (List Int))×(Int×Option (List Int))×Unit):Prop:=IV r.1 (n.tdiv m)/\IV r.2.1 (n.tmod m)
theorem quo_sgn (n m:Int) (hm:m≠0):sgn n*sgn m*((n.natAbs:Int) / (m.natAbs:Int))=n.tdiv m/\sgn n*((n.natAbs:Int) % (m.natAbs:Int))=n.tmod m:=by
 have hn:=sgn3 n
 have hm':=sgn3 m
 have key:∀ a b:Int,0<=a->a.tdiv b=a / b/\a.tmod b=a % b:=fun a b h=>⟨Int.tdiv_eq_ediv_of_nonneg h,Int.tmod_eq_emod_of_nonneg h⟩
 rcases hn with ⟨e1,h1⟩ | ⟨e1,h1⟩ | ⟨e1,h1⟩<;>rcases hm' with ⟨e2,h2⟩ | ⟨e2,h2⟩ | ⟨e2,h2⟩<;>rw[e1,e2]
 . rw[show (n.natAbs:Int)=n by omega,show (m.natAbs:Int)=m by omega,(key n m (by omega)).1,(key n m (by omega)).2];omega
 . rw[show (n.natAbs:Int)=n by omega,show (m.natAbs:Int) = -m by omega]
   obtain⟨m',rfl⟩:∃ m',m = -m':=⟨-m,by omega⟩
   rw[Int.tdiv_neg,Int.tmod_neg,Int.neg_neg,(key n m' (by omega)).1,(key n m' (by omega)).2];omega
 . exact absurd h2 hm
 . obtain⟨n',rfl⟩:∃ n',n = -n':=⟨-n,by omega⟩
   rw[show ((-n').natAbs:Int)=n' by omega,show (m.natAbs:Int)=m by omega]
   rw[Int.neg_tdiv,Int.neg_tmod,(key n' m (by omega)).1,(key n' m (by omega)).2];omega
 . obtain⟨n',rfl⟩:∃ n',n = -n':=⟨-n,by omega⟩
   obtain⟨m',rfl⟩:∃ m',m = -m':=⟨-m,by omega⟩
   rw[show ((-n').natAbs:Int)=n' by omega,show ((-m').natAbs:Int)=m' by omega]
   rw[Int.neg_tdiv,Int.neg_tmod,Int.tdiv_neg,Int.tmod_neg,(key n' m' (by omega)).1,(key n' m' (by omega)).2];omega
 . exact absurd h2 hm
 all_goals (subst h1;simp)
theorem q6J {a b:Int}:cmpI a b<0↔a<b:=by
 unfold cmpI;split
 . constructor<;>intro<;>omega
 . split<;>constructor<;>intro<;>omega
theorem s_Quo (hlong:LongS) {x y:Int×Option (List Int)} {n m:Int} {k:Nat} (hx:IV x n) (hy:IV y m) (hm:m≠0) (fx:Fit k n) (hk:k<=1073741824):callV Pg q2H [⟨tEI,x⟩,⟨tEI,y⟩] (.tup (.pair tEI (.pair tEI .unit))) fun r=>QuoOf n m r:=by
 obtain⟨y1,y2⟩:=quo_sgn n m hm
 refine qbi x y ?_ (joinR (fun p=>p=(Option.isNone x.2 && Option.isNone y.2,x,y,((0:Int),none),((0:Int),none))) ?_ ?_)
 . obtain⟨r1,h1⟩:=IV_ex (n.tdiv m)
   obtain⟨r2,h2⟩:=IV_ex (n.tmod m)
   exact⟨(r1,r2,()),h1,h2⟩
 . rintro _ rfl
   refine q01.2 ⟨fun h=>?_,fun _=>?_⟩
   . obtain⟨v,d⟩:=x
     obtain⟨w,e⟩:=y
     simp only[Bool.and_eq_true,Option.isNone_iff_eq_none] at h
     obtain⟨rfl,rfl⟩:=h
     obtain⟨rfl,h1,h2⟩:=hx
     obtain⟨rfl,h3,h4⟩:=hy
     dsimp only at h1 h2 h3 h4 hm ⊢
     have q1:(v.tdiv w).natAbs<=v.natAbs:=by rw[Int.natAbs_tdiv];exact Nat.div_le_self _ _
     have q2:(v.tmod w).natAbs<=v.natAbs:=by rw[Int.natAbs_tmod];exact Nat.mod_le _ _
     refine⟨hm,hm,⟨?_,by omega,by omega⟩,rfl,by omega,by omega⟩
     exact wi64 (by omega) (by omega)
   . (try dsimp only)
     refine (q2s hx).mono ?_
     rintro⟨s,d,_⟩ ⟨e1,X,e2,d1,t1,v1⟩
     dsimp only at e1 e2;subst e1 e2
     refine (q2s hy).mono ?_
     rintro⟨s,d,_⟩ ⟨e1,Y,e2,d2,t2,v2⟩
     dsimp only at e1 e2;subst e1 e2
     have l1:=t1.fit d1 fx v1
     have hY:Y≠[]:=by rintro rfl;simp only[nv] at v2;omega
     refine (q7G (a:=some X) (b:=some Y) d1 d2 t1 t2 (by simp only[Option.getD_some];omega)).mono ?_
     rintro _ rfl
     simp only[Option.getD_some]
     refine q01.2 ⟨fun h=>?_,fun h=>?_⟩
     . have h:cmpI (nv X) (nv Y)<0:=dec_t h
       rw[q6J,v1,v2] at h
       rw[Int.ediv_eq_zero_of_lt (by omega) h,Int.mul_zero] at y1
       rw[Int.emod_eq_of_lt (by omega) h,q6c] at y2
       refine⟨?_,?_⟩
       . rw[<-y1];exact⟨rfl,by decide,by decide⟩
       . rw[<-y2];exact hx
     . have h:¬ cmpI (nv X) (nv Y)<0:=dec_f h
       rw[q6J] at h
       have hsn:¬ sgn n=0:=by intro e;have:=sgn_z e;subst this;simp at v1;omega
       have es:IntKind.wrap IntKind.i64 (sgn n*sgn m)=sgn n*sgn m:=by
        rcases sgn_cases n with e1 | e1 | ⟨e1,_⟩<;>rcases sgn_cases m with e2 | e2 | ⟨e2,_⟩<;>rw[e1,e2]<;>rfl
       have es2:∀ l:List Int,sgn n*sgn m=1∨sgn n*sgn m = -1∨(sgn n*sgn m=0/\nv l=0):=by
        intro l
        rcases sgn_cases n with e1 | e1 | ⟨e1,_⟩<;>rcases sgn_cases m with e2 | e2 | ⟨_,e2⟩
        all_goals first | exact absurd e2 hm | exact absurd e1 hsn | (rw[e1,e2];simp)
       have fin:∀ (q:Int×Option (List Int)) (r:Int×Option (List Int)) (A B:List Int),nv A=nv X / nv Y->nv B=nv X % nv Y->IV q (sgn n*sgn m*nv A)->IV r (sgn n*nv B)->QuoOf n m (q,r,()):=by
        intro q r A B hA hB hq hr
        rw[hA,v1,v2,y1] at hq
        rw[hB,v1,v2,y2] at hr
        exact⟨hq,hr⟩
       rw[es]
       refine q01.2 ⟨fun h2=>?_,fun h2=>?_⟩
       . have h2:(Y.length:Int)=1:=dec_t h2
         obtain⟨y0,rfl⟩:∃ y0,Y=[y0]:=by
          rcases Y with _ | ⟨y0,_ | ⟨_,_⟩⟩
          . exact absurd rfl hY
          . exact⟨y0,rfl⟩
          . simp at h2;omega
         have g:=d2 y0 (by simp)
         have hy0:y0≠0:=t2 y0 rfl
         refine⟨⟨by omega,by simp⟩,(s_short (x:=some X) (y:=y0) d1 (by omega) g.2 (by simp only[Option.getD_some];omega)).mono ?_⟩
         rintro⟨q,r,_⟩ ⟨l,e1,q1,q2,q3,e2⟩
         dsimp only[Option.getD_some] at e1 e2 q2 q3;subst e1 e2
         have ny:nv [y0]=y0:=by simp[nv]
         have hr0:=Int.emod_nonneg (nv X) hy0
         have hr1:=Int.emod_lt_of_pos (nv X) (show 0<y0 by omega)
         refine (q1t (b:=some l) q1 (es2 _) (by simp only[Option.getD_some];omega)).mono ?_
         intro p5 hp5
         refine (q1t (b:=some [nv X % y0]) (Dig.cons hr0 (by omega) Dig.nil) (sgn_ne hsn) (by simp)).mono ?_
         intro p6 hp6
         exact fin p5 p6 l [nv X % y0] (by rw[ny];exact q2) (by rw[ny];simp[nv]) hp5 hp6
       . have h2:¬ (Y.length:Int)=1:=dec_f h2
         have hl2:Y.length≠0:=fun e=>hY (List.eq_nil_of_length_eq_zero e)
         have hle:Y.length<=X.length:=by
          rcases Nat.lt_or_ge X.length Y.length with hl | hl
          . have:=q2j d1 d2 t2 hl;omega
          . exact hl
         refine (hlong X Y d1 d2 t2 (by omega) hle (by omega)).mono ?_
         rintro⟨q,r,_⟩ ⟨⟨A,e1,q1,q2,q3⟩,B,e2,r1,r2,r3⟩
         dsimp only at e1 e2;subst e1 e2
         refine (q1t (b:=some A) q1 (es2 _) (by simp only[Option.getD_some];omega)).mono ?_
         intro p5 hp5
         refine (q1t (b:=some B) r1 (sgn_ne hsn) (by simp only[Option.getD_some];omega)).mono ?_
         intro p6 hp6
         exact fin p5 p6 A B q2 r2 hp5 hp6
 . intro k hk
   refine q01.2 ⟨fun h=>hk _ (by rw[h];rfl),fun h=>hk _ (by rw[h];rfl)⟩
def ival (x:Int×Option (List Int)):Int:=
 match x.2 with
 | none=>x.1
 | some l=>x.1*nv l
theorem IV.val {x:Int×Option (List Int)} {n:Int} (h:IV x n):ival x=n:=by
 obtain⟨v,d⟩:=x
 cases d with
 | none=>exact h.1
 | some l=>
  obtain⟨_,_,_,h4⟩:=h
  show v*nv l=n
  rcases h4 with ⟨e1,e2⟩ | ⟨e1,e2⟩
  . have e1:v=1:=e1
    rw[e1,e2];omega
  . have e1:v = -1:=e1
    rw[e1,e2];omega
theorem s_Gcd (hlong:LongS) {x y:Int×Option (List Int)} {n m:Int} {k:Nat} (hx:IV x n) (hy:IV y m) (fx:Fit k n) (fy:Fit k m) (hk:k<=1073741824):callV Pg q3G [⟨tEI,x⟩,⟨tEI,y⟩] tEI fun r=>IV r (Int.gcd n m:Int):=by
 refine qbc x y (IV_ex _) ((s_Abs hx).mono fun p0 h0=>(s_Abs hy).mono fun p1 h1=>?_)
 refine loopE (fun p=>∃ a b:Nat,IV p.1 (a:Int)/\IV p.2.1 (b:Int)/\Nat.gcd a b=Int.gcd n m/\Fit k (a:Int)/\Fit k (b:Int)) (fun p=>(ival p.2.1).natAbs) ⟨n.natAbs,m.natAbs,h0,h1,rfl,fx.of (by simp),fy.of (by simp)⟩ ?_
 rintro⟨A,B,z⟩ ⟨a,b,ha,hb,hg,fa,fb⟩
 dsimp only at ha hb ⊢
 refine (q1T hb).mono ?_
 rintro _ rfl
 refine q01.2 ⟨fun h=>?_,fun h=>?_⟩
 . have h:¬ sgn (b:Int)=0:=not_t h
   have hb0:b≠0:=by rintro rfl;exact h rfl
   refine (s_Quo hlong ha hb (by omega) fa hk).mono ?_
   rintro⟨q,r,_⟩ ⟨_,hr⟩
   dsimp only at hr ⊢
   have e:(a:Int).tmod (b:Int)=((a % b:Nat):Int):=by rw[Int.tmod_eq_emod_of_nonneg (by omega)];simp
   rw[e] at hr
   have hlt:a % b<b:=Nat.mod_lt _ (by omega)
   refine⟨⟨b,a % b,hb,hr,?_,fb,fb.of (by omega)⟩,?_⟩
   . rw[<-hg,Nat.gcd_comm b,<-Nat.gcd_rec b a,Nat.gcd_comm]
   . rw[hr.val,hb.val];omega
 . have h:sgn (b:Int)=0:=not_f h
   have hb0:b=0:=by have:=sgn_z h;omega
   subst hb0
   rw[<-hg,Nat.gcd_zero_right];exact ha
end Go.Proofs.Pf
namespace Go.Proofs.Pf.B
open Go Go.VM
theorem q5G {a b:List Int} (ha:Dig a) (hb:Dig b) {k:Nat} (hl:a.length=b.length) (hk:k<a.length) (heq:nv (a.drop (k+1))=nv (b.drop (k+1))) (hlt:a.getD k 0<b.getD k 0):nv a<nv b:=by
 rw[q1L a k (by omega),q1L b k (by omega),q0S a k hk,q0S b k (by omega),heq]
 have h1:=nv_lt (ha.take k)
 have h2:=nv_nonneg (hb.take k)
 rw[List.length_take,Nat.min_eq_left (by omega)] at h1
 have hp:=pow_posB k
 have:1073741824 ^ k*(a.getD k 0+1073741824*nv (b.drop (k+1))+1)<=(1073741824:Int) ^ k*(b.getD k 0+1073741824*nv (b.drop (k+1))):=Int.mul_le_mul_of_nonneg_left (by omega) (by omega)
 rw[Int.mul_add _ _ 1] at this
 omega
theorem q2j {a b:List Int} (ha:Dig a) (hb:Dig b) (tb:Trm b) (h:a.length<b.length):nv a<nv b:=by
 have h1:=nv_lt ha
 have hne:b≠[]:=by rintro rfl;simp at h
 have h2:=tb.ge hb hne
 have h3:=pow_monoB (show a.length<=b.length - 1 by omega)
 omega
def RIV (x:Int×Bool×Option (List Int)) (n:Int):Prop:=
 (x.2.2.getD []=[]/\x.1=n /\ -2305843009213693952<n/\n<2305843009213693952) ∨
 (x.2.2.getD []≠[]/\Dig (x.2.2.getD [])/\Trm (x.2.2.getD [])/\2305843009213693952<=nv (x.2.2.getD [])/\x.1=0/\n=if x.2.1=true then -nv (x.2.2.getD []) else nv (x.2.2.getD []))
theorem RIV.small {v n:Int} {b:Bool} (h:v=n) (h1:-2305843009213693952<n) (h2:n<2305843009213693952):RIV (v,b,none) n:=.inl ⟨rfl,h,h1,h2⟩
theorem nv_ex:∀ (k:Nat) (a:Nat),a<k->∃ l,Dig l/\Trm l/\nv l=(a:Int)
 | 0,a,h=>by omega
 | k+1,a,h=>by
  by_cases h0:a=0
  . exact⟨[],Dig.nil,fun d hd=>by simp at hd,by rw[h0];rfl⟩
  . by_cases h1:a<1073741824
    . exact⟨[(a:Int)],Dig.cons (by omega) (by omega) Dig.nil,fun d hd=>by simp at hd;omega,by simp[nv]⟩
    . obtain⟨l,q1,q2,q3⟩:=nv_ex k (a / 1073741824) (by omega)
      refine⟨((a % 1073741824:Nat):Int) :: l,Dig.cons (by omega) (by omega) q1,?_,by simp only[nv,q3];omega⟩
      intro d hd
      rcases List.eq_nil_or_concat l with rfl | ⟨l',x,rfl⟩
      . simp only[nv] at q3;omega
      . refine q2 d ?_
        simp only[List.concat_eq_append] at hd ⊢
        rw[<-List.cons_append,List.getLast?_concat] at hd
        rw[List.getLast?_concat];exact hd
theorem RIV_ex (n:Int):∃ r,RIV r n:=by
 by_cases h:-2305843009213693952<n/\n<2305843009213693952
 . exact⟨(n,false,none),.inl ⟨rfl,rfl,h.1,h.2⟩⟩
 . obtain⟨l,q1,q2,q3⟩:=nv_ex (n.natAbs+1) n.natAbs (by omega)
   refine⟨(0,decide (n<0),some l),.inr ⟨?_,q1,q2,?_,rfl,?_⟩⟩
   . rintro rfl;simp only[Option.getD_some,nv] at q3;omega
   . simp only[Option.getD_some,q3];omega
   . simp only[Option.getD_some,q3,decide_eq_true_eq];split<;>omega
end Go.Proofs.Pf.B
namespace Go.Proofs.Pf.B
open Go Go.VM
def sg (b:Bool) (n:Int):Int:=if b=true then -n else n
theorem q5u {l:Option (List Int)} {i:Nat} (h:¬ i<(l.getD []).length):(l.getD []).getD i 0=0:=by
 simp[List.getD,Nat.le_of_not_lt h]
theorem q0j (l:List Int) (i:Nat):nv (l.take (i+1))=nv (l.take i)+1073741824 ^ i*l.getD i 0:=by
 rcases Nat.lt_or_ge i l.length with h | h
 . exact q2k l i h
 . rw[List.take_of_length_le (by omega),List.take_of_length_le h]
   have:l.getD i 0=0:=by simp[List.getD,h]
   rw[this];omega
def SumOf (a b:List Int) (r:Option (List Int)):Prop:=Dig (r.getD [])/\nv (r.getD [])=nv a+nv b/\(r.getD []).length<=max a.length b.length+1
theorem q5N {a b:List Int} (ha:Dig a) (hb:Dig b):∃ r,SumOf a b r:=by
 have h1:=nv_lt ha
 have h2:=nv_lt hb
 have h3:=nv_nonneg ha
 have h4:=nv_nonneg hb
 have h5:=pow_monoB (show a.length<=max a.length b.length by omega)
 have h6:=pow_monoB (show b.length<=max a.length b.length by omega)
 obtain⟨l,q1,q2,q3⟩:=q31 (max a.length b.length+1) (nv a+nv b) (by omega) (by rw[Int.pow_succ];omega)
 exact⟨some l,q1,q2,by simp only[Option.getD_some];omega⟩
end Go.Proofs.Pf.B
namespace Go.Proofs.Pf.B
open Go Go.VM
def ShortOf (x:List Int) (y:Int) (r:Option (List Int)×Int×Unit):Prop:=Dig (r.1.getD [])/\nv (r.1.getD [])=nv x / y/\(r.1.getD []).length=x.length/\r.2.1=nv x % y
theorem q6Q {l:List Int} {i:Nat} {x:Int} (h:i<l.length):(l.set i x).drop i=x :: l.drop (i+1):=by
 rw[List.drop_eq_getElem_cons (by simp;omega)]
 simp
 rw[List.drop_set_of_lt (by omega)]
end Go.Proofs.Pf.B
namespace Go.Proofs.Pf.B
open Go Go.VM
structure DInv (V:Int) (u0:List Int) (K:Nat) (u o:List Int) (n:Nat):Prop where
 ul:u.length=u0.length
 ud:Dig u
 ol:o.length=u0.length - n
 od:Dig o
 oz:∀ j,j<K->o.getD j 0=0
 kl:K<=u0.length - n
 val:nv u0=nv o*V+nv u
 lt:nv u<V*1073741824 ^ K
theorem q14 {l:List Int} {i j:Nat} {x:Int} (h:i≠j):(l.set i x).getD j 0=l.getD j 0:=by
 simp[List.getD,List.getElem?_set_ne h]
theorem DInv.step {V:Int} {u0 u o d:List Int} {k n:Nat} (h:DInv V u0 (k+1) u o n) (hV:0<V) (hVn:V<1073741824 ^ n) (hd:Dig d) (hdl:d.length=n+1) (hn:n<=u0.length)
 (hdv:nv d=nv ((u.drop k).take (n+1)) - V*(nv ((u.drop k).take (n+1)) / V)):
 0<=nv ((u.drop k).take (n+1)) / V/\nv ((u.drop k).take (n+1)) / V<1073741824 /\
 DInv V u0 k (u.take k ++ d ++ u.drop (k+(n+1))) (o.set k (nv ((u.drop k).take (n+1)) / V)) n:=by
 obtain⟨ul,ud,ol,od,oz,kl,val,lt⟩:=h
 have hz:q06 u (k+(n+1)):=by
  refine q1K ud (Int.lt_of_lt_of_le lt ?_)
  have:V*1073741824 ^ (k+1)<=1073741824 ^ n*1073741824 ^ (k+1):=Int.mul_le_mul_of_nonneg_right (by omega) (by have:=pow_posB (k+1);omega)
  rw[<-Int.pow_add,show n+(k+1)=k+(n+1) by omega] at this
  exact this
 have hW:nv (u.drop k)=nv ((u.drop k).take (n+1)):=by
  rw[q0F (u.drop k) (n+1),List.drop_drop,q06.drop ud hz];simp
 have hlow:=take_lt ud k
 have hsp:=q0F u k
 have hW0:=nv_nonneg (ud.drop k)
 have hWV:nv (u.drop k)<V*1073741824:=by
  rw[hsp,Int.pow_succ] at lt
  have:1073741824 ^ k*nv (u.drop k)<1073741824 ^ k*(V*1073741824):=by
   have e:V*(1073741824 ^ k*1073741824)=1073741824 ^ k*(V*1073741824):=by grind
   omega
  exact Int.lt_of_mul_lt_mul_left this (by have:=pow_posB k;omega)
 rw[<-hW] at hdv ⊢
 have hq0:0<=nv (u.drop k) / V:=Int.ediv_nonneg hW0 (by omega)
 have hq1:nv (u.drop k) / V<1073741824:=Int.ediv_lt_of_lt_mul hV (by rw[Int.mul_comm];exact hWV)
 refine⟨hq0,hq1,?_,?_,by rw[List.length_set];exact ol,od.set k hq0 hq1,?_,by omega,?_,?_⟩
 . simp;omega
 . exact ((ud.take k).app hd).app (ud.drop _)
 . intro j hj;rw[q14 (by omega)];exact oz j (by omega)
 . rw[q0v o k _ (by omega),oz k (by omega),q0E,q0E,q06.drop ud hz,List.length_take,Nat.min_eq_left (by omega),hdv,val,hsp]
   generalize nv (u.drop k) / V=Q
   generalize nv (u.drop k)=W
   generalize nv (u.take k)=L
   generalize (1073741824:Int) ^ k=K
   simp only[Int.mul_zero,Int.add_zero]
   grind
 . rw[q0E,q0E,q06.drop ud hz,List.length_take,Nat.min_eq_left (by omega),hdv]
   have hr1:=Int.emod_lt_of_pos (nv (u.drop k)) hV
   have hr2:=Int.mul_ediv_add_emod (nv (u.drop k)) V
   have e:nv (u.drop k) - V*(nv (u.drop k) / V)=nv (u.drop k) % V:=by omega
   rw[e]
   have h4:1073741824 ^ k*(nv (u.drop k) % V+1)<=1073741824 ^ k*V:=Int.mul_le_mul_of_nonneg_left (by omega) (by have:=pow_posB k;omega)
   rw[Int.mul_add,Int.mul_one,Int.mul_comm _ V] at h4
   simp only[Int.mul_zero,Int.add_zero]
   omega
end Go.Proofs.Pf.B
namespace Go.Proofs.Pf.B
open Go Go.VM
def rval (x:Int×Bool×Option (List Int)):Int:=if x.2.2.getD []=[] then x.1 else if x.2.1=true then -nv (x.2.2.getD []) else nv (x.2.2.getD [])
theorem RIV.val {x:Int×Bool×Option (List Int)} {n:Int} (h:RIV x n):rval x=n:=by
 rcases h with ⟨h1,h2,_⟩ | ⟨h1,_,_,_,_,h2⟩
 . rw[rval,if_pos h1,h2]
 . rw[rval,if_neg h1,h2]
end Go.Proofs.Pf.B
namespace Go.Proofs.Pf.B
open Go Go.VM
theorem q44 {p q z c:Int} (hp:0<=p) (hp':p<1073741824) (hq:0<=q) (hq':q<1073741824) (hz:0<=z) (hz':z<1073741824) (hc:0<=c) (hc':c<1073741824):
 0<=p*q+z+c/\p*q+z+c<1152921504606846976/\IntKind.wrap IntKind.i64 (c+IntKind.wrap IntKind.i64 (z+IntKind.wrap IntKind.i64 (p*q)))=p*q+z+c:=by
 have h0:0<=p*q:=Int.mul_nonneg hp hq
 have h1:p*q<=1073741823*1073741823:=Int.mul_le_mul (by omega) (by omega) hq (by omega)
 generalize p*q=m at *
 rw[wi64 (x:=m) (by omega) (by omega),wi64 (x:=z+m) (by omega) (by omega),wi64 (by omega) (by omega)]
 omega
structure MInv (x y:List Int) (i:Nat) (o:List Int):Prop where
 len:o.length=x.length+y.length
 dig:Dig o
 val:nv o=nv (x.take i)*nv y
 zero:∀ j,i+y.length<=j->o.getD j 0=0
structure MIn (x y:List Int) (i k:Nat) (c:Int) (o:List Int):Prop where
 len:o.length=x.length+y.length
 dig:Dig o
 c0:0<=c
 c1:c<1073741824
 val:nv o+1073741824 ^ (i+k)*c=nv (x.take i)*nv y+1073741824 ^ i*x.getD i 0*nv (y.take k)
 zero:∀ j,i+y.length<=j->o.getD j 0=0
theorem MIn.start {x y:List Int} {i:Nat} {o:List Int} (h:MInv x y i o):MIn x y i 0 0 o:=⟨h.len,h.dig,Int.le_refl _,by decide,by simp[nv,h.val],h.zero⟩
theorem MIn.step {x y:List Int} {i k:Nat} {c:Int} {o:List Int} (hx:Dig x) (hy:Dig y) (hi:i<x.length) (hk:k<y.length) (h:MIn x y i k c o):
 MIn x y i (k+1) ((x.getD i 0*y.getD k 0+o.getD (i+k) 0+c) / 1073741824) (o.set (i+k) ((x.getD i 0*y.getD k 0+o.getD (i+k) 0+c) % 1073741824)):=by
 have gx:=hx.get i
 have gy:=hy.get k
 have go:=h.dig.get (i+k)
 have hl:=h.len
 obtain⟨m1,m2,_⟩:=q44 gx.1 gx.2 gy.1 gy.2 go.1 go.2 h.c0 h.c1
 refine⟨by simp[hl],h.dig.set _ (by omega) (by omega),by omega,by omega,?_,fun j hj=>?_⟩
 . rw[q0v _ _ _ (by omega),q0j]
   have hv:=h.val
   have hdm:=Int.emod_add_mul_ediv (x.getD i 0*y.getD k 0+o.getD (i+k) 0+c) 1073741824
   generalize (x.getD i 0*y.getD k 0+o.getD (i+k) 0+c) % 1073741824=d at *
   generalize (x.getD i 0*y.getD k 0+o.getD (i+k) 0+c) / 1073741824=e at *
   have e1:(1073741824:Int) ^ (i+(k+1))=1073741824 ^ (i+k)*1073741824:=by rw[<-Nat.add_assoc,Int.pow_succ]
   have e2:(1073741824:Int) ^ (i+k)=1073741824 ^ i*1073741824 ^ k:=Int.pow_add ..
   rw[e1]
   rw[e2] at hv ⊢
   generalize (1073741824:Int) ^ i=bi at *
   generalize (1073741824:Int) ^ k=bk at *
   grind
 . rw[q14 (by omega)];exact h.zero j hj
theorem MIn.fin {x y:List Int} {i:Nat} {c:Int} {o:List Int} (hi:i<x.length) (h:MIn x y i y.length c o):MInv x y (i+1) (o.set (i+y.length) c):=by
 have hl:=h.len
 refine⟨by simp[hl],h.dig.set _ h.c0 h.c1,?_,fun j hj=>?_⟩
 . rw[q0v _ _ _ (by omega),h.zero _ (Nat.le_refl _),q0j]
   have hv:=h.val
   rw[List.take_length] at hv
   grind
 . rw[q14 (by omega)];exact h.zero j (by omega)
end Go.Proofs.Pf.B
namespace Go.Proofs.Pf
open Go Go.VM
theorem q6e (n:Int):sgn n=n.sign:=by
 rcases sgn3 n with ⟨e,h⟩ | ⟨e,h⟩ | ⟨e,h⟩
 . rw[e,Int.sign_eq_one_of_pos h]
 . rw[e,Int.sign_eq_neg_one_of_neg h]
 . rw[e,h];rfl
theorem q5R (n m:Int) (hm:m≠0):(Rat.divInt n m).num=sgn m*n.tdiv (Int.gcd n m):=by
 rw[Rat.num_divInt,q6e,Int.gcd_comm m n]
 have hd:((Int.gcd n m:Nat):Int) ∣ n:=Int.gcd_dvd_left ..
 rw[Int.mul_ediv_assoc _ hd,Int.tdiv_eq_ediv_of_dvd hd]
theorem q5Q (n m:Int) (hm:m≠0):((Rat.divInt n m).den:Int)=sgn m*m.tdiv (Int.gcd n m):=by
 rw[Rat.den_divInt,if_neg hm,q6e,Int.gcd_comm m n]
 have hd:((Int.gcd n m:Nat):Int) ∣ m:=Int.gcd_dvd_right ..
 have e:m.sign*m=(m.natAbs:Int):=by
  rw[<-q6e]
  rcases sgn3 m with ⟨e,h⟩ | ⟨e,h⟩ | ⟨e,h⟩<;>rw[e]<;>omega
 rw[Int.tdiv_eq_ediv_of_dvd hd,<-Int.mul_ediv_assoc _ hd,e]
 simp
def LowV (y:Int×Option (List Int)) (d:Int):Prop:=IV y d∨(IV y 0/\d=1)
def RV (x:(Int×Option (List Int))×(Int×Option (List Int))) (q:Rat):Prop:=IV x.1 q.num/\LowV x.2 (q.den:Int)
theorem RV_ex (q:Rat):∃ r,RV r q:=by
 obtain⟨a,ha⟩:=IV_ex q.num
 obtain⟨b,hb⟩:=IV_ex (q.den:Int)
 exact⟨(a,b),ha,.inl hb⟩
theorem q4e (hlong:LongS) {x y:Int×Option (List Int)} {n m:Int} {k:Nat} (hx:IV x n) (hy:IV y m) (hm:m≠0) (fx:Fit k n) (fy:Fit k m) (hk:k<=1073741824):callV Pg q21 [⟨tEI,x⟩,⟨tEI,y⟩] tER fun r=>RV r (Rat.divInt n m):=by
 refine qbv x y (RV_ex _) ((s_Gcd hlong hx hy fx fy hk).mono fun g hg=>?_)
 have hgp:Int.gcd n m≠0:=fun e=>hm (Int.gcd_eq_zero_iff.1 e).2
 have fin:∀ p:(Int×Option (List Int))×(Int×Option (List Int)),IV p.1 (sgn m*n.tdiv (Int.gcd n m))->IV p.2 (sgn m*m.tdiv (Int.gcd n m))->RV p (Rat.divInt n m):=by
  intro p h1 h2
  rw[<-q5R n m hm] at h1
  rw[<-q5Q n m hm] at h2
  exact⟨h1,.inl h2⟩
 have dd:((Int.gcd n m:Nat):Int) ∣ m:=Int.gcd_dvd_right ..
 have sq:sgn (m.tdiv (Int.gcd n m))=sgn m:=by
  have h1:=Int.mul_tdiv_cancel' dd
  have:sgn ((Int.gcd n m:Nat):Int)=1:=if_pos (by omega)
  have h2:sgn m=sgn (((Int.gcd n m:Nat):Int)*m.tdiv (Int.gcd n m)):=by rw[h1]
  rw[h2,q6d,this];omega
 refine joinR (fun p=>∃ b:Bool,p=(b,x,y,(((0:Int),none),((0:Int),none)),g)/\(b=false->Int.gcd n m=1)) ?_ ?_
 . rintro _ ⟨b,rfl,hb⟩
   refine joinR (fun p=>IV p.1 (n.tdiv (Int.gcd n m))/\IV p.2.1 (m.tdiv (Int.gcd n m))) ?_ ?_
   . rintro⟨p,q,z⟩ ⟨h1,h2⟩
     dsimp only at h1 h2 ⊢
     refine (q1T h2).mono ?_
     rintro _ rfl
     refine joinR (fun p=>IV p.1 (sgn m*n.tdiv (Int.gcd n m))/\IV p.2.1 (sgn m*m.tdiv (Int.gcd n m))) ?_ ?_
     . rintro⟨p,q,z⟩ ⟨h1,h2⟩
       exact fin (p,q) h1 h2
     . intro k' hk'
       rw[sq]
       refine q01.2 ⟨fun h=>?_,fun h=>?_⟩
       . have h:sgn m<0:=dec_t h
         have em:sgn m = -1:=by rcases sgn3 m with ⟨e,_⟩ | ⟨e,_⟩ | ⟨e,_⟩<;>omega
         refine (s_Neg h1).mono fun p5 h5=>(s_Neg h2).mono fun p6 h6=>hk' _ ⟨?_,?_⟩
         . rw[em,Int.neg_mul,Int.one_mul];exact h5
         . rw[em,Int.neg_mul,Int.one_mul];exact h6
       . have h:¬ sgn m<0:=dec_f h
         have em:sgn m=1:=by rcases sgn3 m with ⟨e,_⟩ | ⟨e,_⟩ | ⟨e,h0⟩<;>omega
         refine hk' _ ⟨?_,?_⟩
         . rw[em,Int.one_mul];exact h1
         . rw[em,Int.one_mul];exact h2
   . intro k' hk'
     refine q01.2 ⟨fun h=>?_,fun h=>?_⟩
     . (try dsimp only)
       refine (s_Quo hlong hx hg (by omega) fx hk).mono ?_
       rintro⟨q,r,_⟩ ⟨h1,_⟩
       refine (s_Quo hlong hy hg (by omega) fy hk).mono ?_
       rintro⟨q2,r2,_⟩ ⟨h2,_⟩
       exact hk' _ ⟨h1,h2⟩
     . have e:=hb h
       refine hk' _ ?_
       rw[e]
       simp only[Int.natCast_one,Int.tdiv_one]
       exact⟨hx,hy⟩
 . intro k' hk'
   refine q01.2 ⟨fun h=>hk' _ ⟨true,rfl,fun h=>by simp at h⟩,fun h=>hk' _ ⟨_,rfl,fun h2=>?_⟩⟩
   have h:g.1=1:=not_f h
   obtain⟨v,d⟩:=g
   cases d with
   | some l=>simp[notB] at h2
   | none=>have e:v=((Int.gcd n m:Nat):Int):=hg.1;have h:v=1:=h;have e2:(1:Int)=((Int.gcd n m:Nat):Int):=(Eq.symm h).trans e;omega
end Go.Proofs.Pf
namespace Go.Proofs.Pf
open Go Go.VM
def RFit (k:Nat) (q:Rat):Prop:=Fit k q.num/\Fit k (q.den:Int)
theorem RFit.mono {k j:Nat} {q:Rat} (h:RFit k q) (hj:k<=j):RFit j q:=⟨h.1.mono hj,h.2.mono hj⟩
theorem s_one:callV Pg q4G [] tEI fun r=>IV r 1:=qbB ⟨((1:Int),none),rfl,by decide,by decide⟩ ⟨rfl,by decide,by decide⟩
theorem s_Low {x:(Int×Option (List Int))×(Int×Option (List Int))} {q:Rat} (hx:RV x q):callV Pg q0B [⟨tER,x⟩] tEI fun r=>IV r (q.den:Int):=by
 have hd:q.den≠0:=q.den_nz
 refine qbo x (IV_ex _) ?_
 rcases hx.2 with h | ⟨h,h1⟩
 . refine (q1T h).mono ?_
   rintro _ rfl
   refine q01.2 ⟨fun h2=>?_,fun h2=>h⟩
   have h2:sgn (q.den:Int)=0:=dec_t h2
   have:=sgn_z h2;omega
 . refine (q1T h).mono ?_
   rintro _ rfl
   refine q01.2 ⟨fun h2=>?_,fun h2=>?_⟩
   . rw[h1];exact s_one.mono fun r hr=>hr
   . exact absurd (rfl:sgn 0=0) (dec_f h2)
theorem s_Top {x:(Int×Option (List Int))×(Int×Option (List Int))} {q:Rat} (hx:RV x q):callV Pg q4E [⟨tER,x⟩] tEI fun r=>IV r q.num:=
 qbt x (IV_ex _) hx.1
theorem q4i {x:(Int×Option (List Int))×(Int×Option (List Int))} {q:Rat} (hx:RV x q):callV Pg q20 [⟨tER,x⟩] .bool fun b=>b=true->q.den=1:=by
 have hd:q.den≠0:=q.den_nz
 obtain⟨t,v,d⟩:=x
 refine qbu _ ⟨false,fun h=>by simp at h⟩ (joinR (fun b=>b=true->q.den=1) (fun _ h=>h) fun k hk=>?_)
 refine q01.2 ⟨fun h=>hk _ fun h2=>?_,fun _=>hk _ fun h=>by simp at h⟩
 have hv1:v<=1:=dec_t h2
 cases d with
 | some l=>simp at h
 | none=>
  rcases hx.2 with h | ⟨_,h1⟩
  . have e:v=(q.den:Int):=h.1
    have e2:(q.den:Int)<=1:=by rw[<-e];exact hv1
    omega
  . omega
theorem q0x {x:(Int×Option (List Int))×(Int×Option (List Int))} {q:Rat} (hx:RV x q):callV Pg q0n [⟨tER,x⟩] tI fun r=>r=sgn q.num:=
 qbr x ⟨_,rfl⟩ ((q1T hx.1).mono fun _ h=>h)
theorem s_RNeg {x:(Int×Option (List Int))×(Int×Option (List Int))} {q:Rat} (hx:RV x q):callV Pg q2I [⟨tER,x⟩] tER fun r=>RV r (-q):=
 qbq x (RV_ex _) ((s_Neg hx.1).mono fun _ h=>⟨h,hx.2⟩)
theorem q4f {n:Int} (h1:-9223372036854775808<=n) (h2:n<9223372036854775808):callV Pg q22 [⟨tI,n⟩] tER fun r=>RV r (n:Rat):=
 qbw n (RV_ex _) ((s_Of h1 h2).mono fun _ h=>⟨h,.inr ⟨⟨rfl,by decide,by decide⟩,rfl⟩⟩)
end Go.Proofs.Pf
namespace Go.Proofs.Pf
open Go Go.VM
set_option maxRecDepth 100000
def q90:Ann:=(.s (.s (.s (.seq (.seq (.reg [] [] (some ⟨[(2,.ref 2 0)],[.var 4 tI,.var 6 tI,.var 25 .bool,.box 2 tNum]⟩)) .nil) .nil))))
theorem w_num_Out {Q:((Int×Int)×(Int×Unit))->Prop} (a:DR) (hQ:∃ r,Q r) (h:
 (callV Pg q4E [⟨tER,a⟩] tEI (fun p0=>callV Pg q2G [⟨tEI,p0⟩,⟨tI,(1152921504606846976:Int)⟩] (.tup (.pair tI (.pair .bool .unit))) (fun p1=>callV Pg q0B [⟨tER,a⟩] tEI (fun p2=>callV Pg q2G [⟨tEI,p2⟩,⟨tI,(1152921504606846976:Int)⟩] (.tup (.pair tI (.pair .bool .unit))) (fun p3=>joinV (Int×Int×Bool×Int×Int) (fun (i,j,k,_)=>brV k (Q (((0:Int),(0:Int)),(3:Int),())) (Q ((i,j),(0:Int),()))) (fun k4=>brV (notB p1.2.1) (k4 (p1.1,p3.1,true,(0:Int),(0:Int))) (k4 (p1.1,p3.1,notB p3.2.1,(0:Int),(0:Int)))))))))):
 callV Pg q2O [⟨tER,a⟩] (.tup (.pair tNum (.pair tI .unit))) Q:=
 q02 (c:=q00 Tryz.f42) (ann:=q90) Tryz.func42 rfl Tryz.call42 rfl rfl hQ (kcast (by kernel_rfl) h)
def q92:Ann:=.nil
theorem w_num_Rat {Q:DR->Prop} (a:(Int×Int)) (hQ:∃ r,Q r) (h:
 (callV Pg q1g [⟨tI,a.1⟩] tEI (fun p0=>callV Pg q1g [⟨tI,a.2⟩] tEI (fun p1=>callV Pg q21 [⟨tEI,p0⟩,⟨tEI,p1⟩] tER (fun p2=>Q p2))))):
 callV Pg q28 [⟨tNum,a⟩] tER Q:=
 q02 (c:=q00 Tryz.f95) (ann:=q92) Tryz.func95 rfl Tryz.call95 rfl rfl hQ (kcast (by kernel_rfl) h)
def q94:Ann:=(.s (.seq (.seq (.reg [] [] (some ⟨[(1,.ref 1 0)],[.var 22 .bool,.box 1 tNum]⟩)) .nil) .nil))
theorem qc8 {Q:Bool->Prop} (a:(Int×Int)) (hQ:∃ r,Q r) (h:
 (joinV (Bool×Int×Int) (fun (i,j,k)=>brV i (Q false) (callV Pg q1g [⟨tI,j⟩] tEI (fun p1=>callV Pg q1g [⟨tI,k⟩] tEI (fun p2=>callV Pg q3G [⟨tEI,p1⟩,⟨tEI,p2⟩] tEI (fun p3=>callV Pg q2G [⟨tEI,p3⟩,⟨tI,(1152921504606846976:Int)⟩] (.tup (.pair tI (.pair .bool .unit))) (fun p4=>Q (decide (p4.1=(1:Int))))))))) (fun k0=>brV (decide (a.2<(1:Int))) (k0 (true,a)) (brV (decide ((1152921504606846976:Int)<a.2)) (k0 (true,a)) (brV (decide ((1152921504606846976:Int)<a.1)) (k0 (true,a)) (k0 (decide (a.1<(-(1152921504606846976:Int))),a))))))):
 callV Pg q2P [⟨tNum,a⟩] .bool Q:=
 q02 (c:=q00 Tryz.f131) (ann:=q94) Tryz.func131 rfl Tryz.call131 rfl rfl hQ (kcast (by kernel_rfl) h)
end Go.Proofs.Pf
namespace Go.Proofs.Pf
open Go Go.VM
abbrev OL:=Option (List Int)
structure LInv (n:Nat) (v u0:List Int) (p:Int×OL×Int×Int×OL×OL) (K:Nat) (u o:List Int):Prop where
 en:p.1=n
 ev:p.2.1=some v
 em:p.2.2.1=(v.length:Int)
 ek:p.2.2.2.1=(K:Int) - 1
 eu:p.2.2.2.2.1=some u
 eo:p.2.2.2.2.2=some o
 ul:u.length=u0.length
 ud:Dig u
 ol:o.length=u0.length - v.length
 od:Dig o
 oz:∀ j,j<K->o.getD j 0=0
 kl:K<=u0.length - v.length
 val:nv u0=nv o*nv v+nv u
 lt:nv u<nv v*4294967296 ^ K
theorem len_of {l:List Int} (hd:Dig l) (ht:Trm l) {k:Nat} (h1:4294967296 ^ k<=nv l) (h2:nv l<4294967296 ^ (k+1)):l.length=k+1:=by
 have hne:l≠[]:=by rintro rfl;simp only[nv] at h1;have:=pow_pos32 k;omega
 have h3:=ht.ge hd hne
 have h4:=nv_lt hd
 have h5:l.length≠0:=fun e=>hne (List.eq_nil_of_length_eq_zero e)
 rcases Nat.lt_or_ge l.length (k+1) with h | h
 . have:=pow_mono32 (show l.length<=k by omega);omega
 . rcases Nat.lt_or_ge (k+1) l.length with h' | h'
   . have:=pow_mono32 (show k+1<=l.length - 1 by omega);omega
   . omega
theorem long_ex {x y:List Int} (dx:Dig x) (dy:Dig y) (hy:0<nv y):∃ r,LongOf x y r:=by
 have hx:=nv_nonneg dx
 obtain⟨a,a1,a2,a3⟩:=nv_ex ((nv x / nv y).toNat+1) (nv x / nv y).toNat (by omega)
 obtain⟨b,b1,b2,b3⟩:=nv_ex ((nv x % nv y).toNat+1) (nv x % nv y).toNat (by omega)
 have h0:0<=nv x / nv y:=Int.ediv_nonneg hx (by omega)
 have h1:=Int.emod_nonneg (nv x) (show nv y≠0 by omega)
 have h2:=Int.emod_lt_of_pos (nv x) hy
 have h3:nv x / nv y<=nv x:=Int.ediv_le_self _ hx
 have e1:nv a=nv x / nv y:=by omega
 have e2:nv b=nv x % nv y:=by omega
 refine⟨(some a,some b,()),⟨a,rfl,a1,e1,?_⟩,b,rfl,b1,e2,?_⟩
 . have:=a2.fit a1 (k:=x.length) (n:=nv a) ((fit_nv dx).of (by omega)) (by omega);omega
 . exact b2.fit b1 (k:=y.length) (n:=nv b) ((fit_nv dy).of (by omega)) (by omega)
theorem getLast_getD {l:List Int} (h:l≠[]):l.getLast?=some (l.getD (l.length - 1) 0):=by
 rw[List.getLast?_eq_some_getLast h,List.getLast_eq_getElem]
 have:0<l.length:=List.length_pos_iff.2 h
 simp[List.getD,show l.length - 1<l.length by omega]
set_option maxHeartbeats 4000000 in
theorem longS:LongS:=by
 intro x y dx dy ty hy hxy hl
 have hyn:y≠[]:=by rintro rfl;simp at hy
 have gy:=dy.get (y.length - 1)
 have gy0:y.getD (y.length - 1) 0≠0:=ty _ (getLast_getD hyn)
 have hyp:0<nv y:=by have:=ty.ge dy hyn;have:=pow_pos32 (y.length - 1);omega
 have ew:IntKind.wrap IntKind.i64 (szSl (some y) - 1)=((y.length - 1:Nat):Int):=by
  simp only[szSl,Option.getD_some];rw[wi64 (by omega) (by omega)];omega
 refine qby (some x) (some y) (long_ex dx dy hyp) ?_
 rw[ew]
 refine⟨by simp only[inS,Option.getD_some];omega,?_⟩
 have ee:eltS (0:Int) (some y) ((y.length - 1:Nat):Int)=y.getD (y.length - 1) 0:=by simp only[eltS,Option.getD_some,Int.toNat_natCast]
 rw[ee]
 refine (qaR (by omega) gy.2).mono ?_
 rintro _ ⟨n,rfl,hn,s1,s2⟩
 refine (q7K (x:=some x) (n:=n) dx hn (by simp only[Option.getD_some];omega)).mono ?_
 rintro _ ⟨u0,rfl,du,vu,lu⟩
 refine (q7K (x:=some y) (n:=n) dy hn (by simp only[Option.getD_some];omega)).mono ?_
 rintro _ ⟨v0,rfl,dv0,vv0,lv0⟩
 simp only[Option.getD_some] at vu lu vv0 lv0
 refine (s_trim (a:=some v0) (by simp only[Option.getD_some];omega)).mono ?_
 obtain⟨v,hv⟩:∃ v,v=trim v0:=⟨_,rfl⟩
 intro p3 hp3
 obtain rfl:p3=some v:=by rw[hp3,hv];rfl
 clear hp3
 have dv:Dig v:=hv ▸ dv0.trim
 have tv:Trm v:=hv ▸ trm_trim v0
 have vv:nv v=nv y*2 ^ n:=by rw[hv,q1M,vv0]
 clear hv vv0 lv0 dv0
 obtain⟨m,hm⟩:∃ m,y.length=m+2:=⟨y.length - 2,by omega⟩
 have hp2:(0:Int)<2 ^ n:=Int.pow_pos (by decide)
 have hP:=pow_pos32 m
 have n31:(2:Int) ^ n<=2147483648:=by
  have e:(2147483648:Int)=2 ^ (31 - n)*2 ^ n:=by rw[<-Int.pow_add,show 31 - n+n=31 by omega];rfl
  have:(0:Int)<2 ^ (31 - n):=Int.pow_pos (by decide)
  have:1*(2:Int) ^ n<=2 ^ (31 - n)*2 ^ n:=Int.mul_le_mul_of_nonneg_right (by omega) (by omega)
  omega
 obtain⟨wy,wy0,wy1,wy2⟩:∃ w,0<=w/\w<4294967296 ^ (m+1)/\nv y=w+4294967296 ^ (m+1)*y.getD (m+1) 0:=by
  refine⟨nv (y.take (m+1)),(take_lt dy _).1,(take_lt dy _).2,?_⟩
  rw[q0F y (m+1),q17 y (m+1),List.drop_of_length_le (by omega)];simp[nv]
 have ely:y.length - 1=m+1:=by omega
 rw[ely] at gy gy0 s1 s2
 have vlow:4294967296 ^ (m+1)*2147483648<=nv v:=by
  have h1:4294967296 ^ (m+1)*2147483648<=4294967296 ^ (m+1)*(y.getD (m+1) 0*2 ^ n):=Int.mul_le_mul_of_nonneg_left s2 (by have:=pow_pos32 (m+1);omega)
  have h2:nv y*2 ^ n=wy*2 ^ n+4294967296 ^ (m+1)*(y.getD (m+1) 0*2 ^ n):=by rw[wy2];grind
  have h3:0<=wy*2 ^ n:=Int.mul_nonneg wy0 (by omega)
  omega
 have vhigh:nv v<4294967296 ^ (m+2):=by
  have h2:nv y*2 ^ n=wy*2 ^ n+4294967296 ^ (m+1)*(y.getD (m+1) 0*2 ^ n):=by rw[wy2];grind
  have h3:(wy+1)*2 ^ n<=4294967296 ^ (m+1)*2 ^ n:=Int.mul_le_mul_of_nonneg_right (by omega) (by omega)
  have h4:4294967296 ^ (m+1)*(y.getD (m+1) 0*2 ^ n+2 ^ n)<=4294967296 ^ (m+1)*4294967296:=by
   refine Int.mul_le_mul_of_nonneg_left ?_ (by have:=pow_pos32 (m+1);omega)
   have e:(4294967296:Int)=2 ^ (32 - n)*2 ^ n:=by rw[<-Int.pow_add,show 32 - n+n=32 by omega];rfl
   rw[e] at s1
   have s3:=Int.lt_of_mul_lt_mul_right s1 (by omega)
   have:(y.getD (m+1) 0+1)*2 ^ n<=2 ^ (32 - n)*2 ^ n:=Int.mul_le_mul_of_nonneg_right (by omega) (by omega)
   rw[<-e] at this
   have e2:(y.getD (m+1) 0+1)*2 ^ n=y.getD (m+1) 0*2 ^ n+2 ^ n:=by grind
   omega
  rw[Int.mul_add] at h4
  rw[show m+2=m+1+1 by omega,Int.pow_succ]
  have e3:(wy+1)*2 ^ n=wy*2 ^ n+2 ^ n:=by grind
  omega
 have hlv:v.length=m+2:=len_of dv tv (by omega) vhigh
 have vpos:0<nv v:=by have:=pow_pos32 (m+1);omega
 obtain⟨wv,wv0,wv1,wv2⟩:=win2 dv hlv
 have gv1:=dv.get (m+1)
 have gv2:=dv.get m
 have v1l:2147483648<=v.getD (m+1) 0:=by
  rw[Int.pow_succ] at vlow
  have h1:4294967296 ^ m*(v.getD m 0+1)<=4294967296 ^ m*4294967296:=Int.mul_le_mul_of_nonneg_left (by omega) (by omega)
  have h2:4294967296 ^ m*4294967296*2147483648<4294967296 ^ m*4294967296*(v.getD (m+1) 0+1):=by
   rw[wv2] at vlow
   generalize v.getD (m+1) 0=a at *
   generalize v.getD m 0=b at *
   generalize (4294967296:Int) ^ m=P at *
   have e1:P*(b+4294967296*a)=P*b+P*4294967296*a:=by grind
   have e2:P*4294967296*(a+1)=P*4294967296*a+P*4294967296:=by grind
   have e3:P*(b+1)=P*b+P:=by grind
   omega
  have:=Int.lt_of_mul_lt_mul_left h2 (by omega)
  omega
 have hlu:u0.length=x.length+1:=lu
 have esz:IntKind.wrap IntKind.i64 (szSl (some u0) - szSl (some v))=((u0.length - v.length:Nat):Int):=by
  simp only[szSl,Option.getD_some];rw[wi64 (by omega) (by omega)];omega
 have esz1:IntKind.wrap IntKind.i64 (((u0.length - v.length:Nat):Int) - 1)=((u0.length - v.length:Nat):Int) - 1:=wi64 (by omega) (by omega)
 rw[esz,esz1]
 refine⟨by simp only[mkC];omega,?_⟩
 refine loopE (fun p=>∃ K u o,LInv n v u0 p K u o) (fun p=>(p.2.2.2.1+1).toNat) ⟨u0.length - v.length,u0,List.replicate (u0.length - v.length) 0,⟨rfl,rfl,rfl,rfl,rfl,?_,rfl,du,by simp,Dig.rep _,fun j hj=>by simp[List.getD,hj],Nat.le_refl _,by rw[q46];omega,?_⟩⟩ ?_
 . simp only[repS,Int.toNat_natCast]
 . have h1:=nv_lt dx
   have e:x.length=(u0.length - v.length)+(m+1):=by omega
   rw[vu]
   have h2:(nv x+1)*2 ^ n<=4294967296 ^ x.length*2 ^ n:=Int.mul_le_mul_of_nonneg_right (by omega) (by omega)
   have h3:(4294967296:Int) ^ x.length*2 ^ n<=4294967296 ^ x.length*2147483648:=Int.mul_le_mul_of_nonneg_left n31 (by have:=pow_pos32 x.length;omega)
   have h4:(4294967296:Int) ^ x.length*2147483648=4294967296 ^ (m+1)*2147483648*4294967296 ^ (u0.length - v.length):=by rw[e,Int.pow_add];grind
   have h5:4294967296 ^ (m+1)*2147483648*4294967296 ^ (u0.length - v.length)<=nv v*4294967296 ^ (u0.length - v.length):=Int.mul_le_mul_of_nonneg_right vlow (by have:=pow_pos32 (u0.length - v.length);omega)
   have h6:(nv x+1)*2 ^ n=nv x*2 ^ n+2 ^ n:=by grind
   omega
 rintro⟨n',v',m',k',u',o'⟩ ⟨K,u,o,h⟩
 obtain rfl:n'=(n:Int):=h.en
 obtain rfl:v'=some v:=h.ev
 obtain rfl:m'=(v.length:Int):=h.em
 obtain rfl:k'=(K:Int) - 1:=h.ek
 obtain rfl:u'=some u:=h.eu
 obtain rfl:o'=some o:=h.eo
 obtain⟨_,_,_,_,_,_,ul,ud,ol,od,oz,kl,val,lt⟩:=h
 dsimp only
 refine q01.2 ⟨fun hb=>?_,fun hb=>?_⟩
 ·
  have hb:(0:Int)<=(K:Int) - 1:=dec_t hb
  obtain⟨k,rfl⟩:∃ k,K=k+1:=⟨K - 1,by omega⟩
  have ek:((k+1:Nat):Int) - 1=(k:Int):=by omega
  rw[ek,hlv]
  have hkm:k+m+3<=u0.length:=by omega
  have e1:IntKind.wrap IntKind.i64 ((k:Int)+((m+2:Nat):Int))=((k+m+2:Nat):Int):=by rw[wi64 (by omega) (by omega)];omega
  have e2:IntKind.wrap IntKind.i64 (((k+m+2:Nat):Int) - 1)=((k+m+1:Nat):Int):=by rw[wi64 (by omega) (by omega)];omega
  have e3:IntKind.wrap IntKind.i64 (((k+m+2:Nat):Int) - 2)=((k+m:Nat):Int):=by rw[wi64 (by omega) (by omega)];omega
  have e4:IntKind.wrap IntKind.i64 (((m+2:Nat):Int) - 1)=((m+1:Nat):Int):=by rw[wi64 (by omega) (by omega)];omega
  have e5:IntKind.wrap IntKind.i64 (((m+2:Nat):Int) - 2)=((m:Nat):Int):=by rw[wi64 (by omega) (by omega)];omega
  have gu0:=ud.get (k+m+2)
  have gu1:=ud.get (k+m+1)
  have gu2:=ud.get (k+m)
  have x1:eltS (0:Int) (some v) ((m+1:Nat):Int)=v.getD (m+1) 0:=by simp only[eltS,Option.getD_some,Int.toNat_natCast]
  have x2:eltS (0:Int) (some v) ((m:Nat):Int)=v.getD m 0:=by simp only[eltS,Option.getD_some,Int.toNat_natCast]
  have x3:eltN (0:Int) (some u) (toN ((k+m+2:Nat):Int))=u.getD (k+m+2) 0:=by simp only[eltN,toN,Option.getD_some,Int.toNat_natCast]
  have x4:eltN (0:Int) (some u) (toN ((k+m+1:Nat):Int))=u.getD (k+m+1) 0:=by simp only[eltN,toN,Option.getD_some,Int.toNat_natCast]
  have x5:eltN (0:Int) (some u) (toN ((k+m:Nat):Int))=u.getD (k+m) 0:=by simp only[eltN,toN,Option.getD_some,Int.toNat_natCast]
  have y1:IntKind.wrap IntKind.u64 (v.getD (m+1) 0)=v.getD (m+1) 0:=wu64 gv1.1 (by omega)
  have y2:IntKind.wrap IntKind.u64 (v.getD m 0)=v.getD m 0:=wu64 gv2.1 (by omega)
  have y3:IntKind.wrap IntKind.u64 (u.getD (k+m+2) 0)=u.getD (k+m+2) 0:=wu64 gu0.1 (by omega)
  have y4:IntKind.wrap IntKind.u64 (u.getD (k+m+1) 0)=u.getD (k+m+1) 0:=wu64 gu1.1 (by omega)
  have y5:IntKind.wrap IntKind.u64 (u.getD (k+m) 0)=u.getD (k+m) 0:=wu64 gu2.1 (by omega)
  have etop:bitI BinOp.or IntKind.u64 (shlI IntKind.u64 (u.getD (k+m+2) 0) 32) (u.getD (k+m+1) 0)=u.getD (k+m+2) 0*4294967296+u.getD (k+m+1) 0:=by
   rw[q4j,Int.emod_eq_of_lt (by omega) (by omega),q5K gu1.1 gu1.2 gu0.1 gu0.2,Int.add_comm]
  have uz:q06 u (k+m+3):=by
   refine q1K ud (Int.lt_of_lt_of_le lt ?_)
   have:nv v*4294967296 ^ (k+1)<=4294967296 ^ (m+2)*4294967296 ^ (k+1):=Int.mul_le_mul_of_nonneg_right (by omega) (by have:=pow_pos32 (k+1);omega)
   rw[<-Int.pow_add,show m+2+(k+1)=k+m+3 by omega] at this
   exact this
  obtain⟨wu,wu0,wu1,wu2⟩:=win3 ud uz
  have uV:nv (u.drop k)<nv v*4294967296:=by
   rw[q0F u k,Int.pow_succ] at lt
   have t:=take_lt ud k
   have:4294967296 ^ k*nv (u.drop k)<4294967296 ^ k*(nv v*4294967296):=by
    have e:nv v*(4294967296 ^ k*4294967296)=4294967296 ^ k*(nv v*4294967296):=by grind
    omega
   exact Int.lt_of_mul_lt_mul_left this (by have:=pow_pos32 k;omega)
  have est:Est (nv (u.drop k)) (nv v) (v.getD (m+1) 0) (v.getD m 0) (u.getD (k+m) 0) (u.getD (k+m+2) 0*4294967296+u.getD (k+m+1) 0) (4294967296 ^ m):=
   est_mk hP wu2 wv2 wu0 wu1 wv0 wv1 v1l gv1.2 gv2.1 gv2.2 gu2.1 gu2.2 gu1.1 gu0.1 uV
  have uz':q06 u (k+v.length+1):=by rw[hlv];exact uz
  have hkl:k+v.length<u.length:=by omega
  simp only[e1,e2,e3,e4,e5,x1,x2,x3,x4,x5,y1,y2,y3,y4,y5,etop]
  have gtop:0<=u.getD (k+m+2) 0*4294967296+u.getD (k+m+1) 0/\u.getD (k+m+2) 0*4294967296+u.getD (k+m+1) 0<18446744073709551616:=by omega
  have hq0:=est.q0
  have hqB:=est.qB
  refine⟨by simp only[inS,Option.getD_some];omega,by first | trivial | omega,by simp only[inS,Option.getD_some];omega,by simp only[inS,Option.getD_some];omega,by omega,by simp only[inS,Option.getD_some];omega,by omega,?_⟩
  refine joinR (fun p=>∃ q,p=((n:Int),some v,((m+2:Nat):Int),(k:Int),q,some u,some o)/\0<=q/\q<4294967296/\nv (u.drop k) / nv v<=q/\q - 1<=nv (u.drop k) / nv v) ?_ ?_
  ·
   rintro _ ⟨q,rfl,q0,qB,ql,qh⟩
   dsimp only
   refine loopE (fun p=>∃ (i:Nat) (w:List Int) (b c:Int),p=((n:Int),some v,((m+2:Nat):Int),(k:Int),q,b,c,some v,((m+2:Nat):Int),(i:Int),some w,some o)/\i<=m+2/\SubInv u v q k i w b c) (fun p=>(((m+2:Nat):Int) - p.2.2.2.2.2.2.2.2.2.1).toNat) ⟨0,u,0,0,?_,by omega,⟨rfl,ud,uz',by omega,by omega,by omega,by omega,by simp[nv]⟩⟩ ?_
   . simp only[szSl,Option.getD_some,hlv];rfl
   rintro _ ⟨i,w,b,c,rfl,hi,hs⟩
   dsimp only
   have hwl:w.length=u0.length:=hs.len.trans ul
   have b0:=hs.b0
   have b1:=hs.b1
   have c0:=hs.c0
   have c1:=hs.c1
   refine q01.2 ⟨fun hb=>?_,fun hb=>?_⟩
   . have hb:(i:Int)<((m+2:Nat):Int):=dec_t hb
     have f1:IntKind.wrap IntKind.i64 ((k:Int)+(i:Int))=((k+i:Nat):Int):=by rw[wi64 (by omega) (by omega)];omega
     have f2:IntKind.wrap IntKind.i64 ((i:Int)+1)=((i+1:Nat):Int):=by rw[wi64 (by omega) (by omega)];omega
     have hst:=hs.step dv (by omega) (by omega) q0 qB
     have gv:=dv.get i
     have gw:=hs.dig.get (k+i)
     have hbd:=q6k q0 qB gv.1 gv.2 hs.c0 hs.c1
     obtain⟨r1,r2,r3⟩:=sub_words gw.1 gw.2 hbd.1 hs.c0 hbd.2 hs.b0 hs.b1
     have y6:IntKind.wrap IntKind.u64 (v.getD i 0)=v.getD i 0:=wu64 gv.1 (by omega)
     simp only[f1,f2,inS,eltS,eltN,toN,Option.getD_some,Int.toNat_natCast,y6,r1,r2,r3,setO,Option.map_some]
     exact⟨by omega,by first | trivial | omega,by omega,by omega,by first | trivial | omega,⟨i+1,_,_,_,rfl,by omega,hst⟩,by omega⟩
   . have hb:¬ (i:Int)<((m+2:Nat):Int):=dec_f hb
     obtain rfl:i=m+2:=by omega
     have hs':SubInv u v q k v.length w b c:=by rw[hlv];exact hs
     have hend:=hs'.fin hkl
     have hr:=hend.right ud uz' vpos dv ql qh
     rw[hlv,<-Nat.add_assoc] at hend hr
     have gw:=hs.dig.get (k+m+2)
     have et:shrI IntKind.u64 (IntKind.wrap IntKind.u64 (IntKind.wrap IntKind.u64 (IntKind.wrap IntKind.u64 (w.getD (k+m+2) 0) - c) - b)) 63=if w.getD (k+m+2) 0<c+b then 1 else 0:=by
      rw[q7P,wu64m,wu64m,wu64m];split<;>omega
     have ed:IntKind.wrap IntKind.u32 (IntKind.wrap IntKind.u64 (IntKind.wrap IntKind.u64 (IntKind.wrap IntKind.u64 (w.getD (k+m+2) 0) - c) - b))=(w.getD (k+m+2) 0 - c - b) % 4294967296:=by
      rw[wu32m,wu64m,wu64m,wu64m];omega
     simp only[e1,inS,eltN,toN,Option.getD_some,Int.toNat_natCast,et,ed,setO,Option.map_some]
     refine⟨by omega,by omega,by first | trivial | omega,?_⟩
     refine joinR (fun p=>∃ u',p=((n:Int),some v,((m+2:Nat):Int),(k:Int),nv (u.drop k) / nv v,some u',some o)/\Left u v k u') ?_ ?_
     . rintro _ ⟨u',rfl,hL⟩
       dsimp only
       have f3:IntKind.wrap IntKind.u32 (nv (u.drop k) / nv v)=nv (u.drop k) / nv v:=wu32 hq0 (by omega)
       have f4:IntKind.wrap IntKind.i64 ((k:Int) - 1)=(k:Int) - 1:=wi64 (by omega) (by omega)
       simp only[f3,f4,inS,toN,Option.getD_some,Int.toNat_natCast,setO,Option.map_some]
       refine⟨by omega,⟨k,u',o.set k (nv (u.drop k) / nv v),⟨rfl,rfl,by rw[hlv],rfl,rfl,rfl,hL.len.trans ul,hL.dig,by rw[List.length_set];exact ol,od.set _ hq0 (by omega),?_,by omega,out_step hL val (oz k (by omega)) (by omega),left_lt hL ud vpos⟩⟩,by omega⟩
       intro j hj;rw[q14 (by omega)];exact oz j (by omega)
     . intro k9 hk9
       generalize (if w.getD (k+m+2) 0<c+b then (1:Int) else 0)=t at *
       refine q01.2 ⟨fun hb2=>?_,fun hb2=>?_⟩
       . have ht1:t=1:=dec_t hb2
         have hq:=hr.2 ht1
         have f5:IntKind.wrap IntKind.u64 (q - 1)=nv (u.drop k) / nv v:=by rw[wu64 (by omega) (by omega)];omega
         refine loopE (fun p=>∃ (i:Nat) (z:List Int) (c':Int),p=((n:Int),some v,((m+2:Nat):Int),(k:Int),nv (u.drop k) / nv v,c',some v,((m+2:Nat):Int),(i:Int),some z,some o)/\i<=m+2/\AddInv (w.set (k+m+2) ((w.getD (k+m+2) 0 - c - b) % 4294967296)) v k i z c') (fun p=>(((m+2:Nat):Int) - p.2.2.2.2.2.2.2.2.1).toNat) ⟨0,_,0,?_,by omega,⟨rfl,hend.dig,hend.zero,by omega,by omega,by simp[nv]⟩⟩ ?_
         . simp only[f5,szSl,Option.getD_some,hlv];rfl
         rintro _ ⟨i,z,c',rfl,hi',ha⟩
         dsimp only
         have hzl:z.length=u0.length:=ha.len.trans (hend.len.trans ul)
         have c0':=ha.c0
         have c1':=ha.c1
         refine q01.2 ⟨fun hb=>?_,fun hb=>?_⟩
         . have hb:(i:Int)<((m+2:Nat):Int):=dec_t hb
           have f1:IntKind.wrap IntKind.i64 ((k:Int)+(i:Int))=((k+i:Nat):Int):=by rw[wi64 (by omega) (by omega)];omega
           have f2:IntKind.wrap IntKind.i64 ((i:Int)+1)=((i+1:Nat):Int):=by rw[wi64 (by omega) (by omega)];omega
           have gv:=dv.get i
           have gz:=ha.dig.get (k+i)
           have hst:=ha.step dv (by omega) (by rw[hend.len];omega)
           simp only[f1,f2,inS,eltS,eltN,toN,Option.getD_some,Int.toNat_natCast]
           refine⟨by omega,by omega,(s_Add32 gz.1 gz.2 gv.1 gv.2 c0' (by omega)).mono ?_⟩
           rintro _ rfl
           simp only[setO,Option.map_some]
           exact⟨by omega,⟨i+1,_,_,rfl,by omega,hst⟩,by omega⟩
         . have hb:¬ (i:Int)<((m+2:Nat):Int):=dec_f hb
           obtain rfl:i=m+2:=by omega
           have gz:=ha.dig.get (k+m+2)
           simp only[e1,inS,eltN,toN,Option.getD_some,Int.toNat_natCast,setO,Option.map_some]
           refine⟨by omega,by omega,hk9 _ ⟨_,rfl,?_⟩⟩
           rw[wu32m]
           have ha':AddInv (w.set (k+m+2) ((w.getD (k+m+2) 0 - c - b) % 4294967296)) v k v.length z c':=by rw[hlv];exact ha
           have:=AddInv.left hend ht1 hq ha' ud uz' hkl vpos
           rw[hlv,<-Nat.add_assoc] at this
           exact this
       . have ht1:¬ t=1:=dec_f hb2
         have ht0:t=0:=hend.t01.resolve_right ht1
         have hq:=hr.1 ht0
         exact hk9 _ ⟨_,by rw[hq],hend.left ht0 hq⟩
  ·
   intro k6 hk6
   generalize u.getD (k+m+2) 0*4294967296+u.getD (k+m+1) 0=top at *
   refine loopE (fun p=>∃ q r:Int,p=((n:Int),some v,((m+2:Nat):Int),(k:Int),q,r,some u,some o)/\nv (u.drop k) / nv v<=q/\0<=r/\r<4294967296/\q*v.getD (m+1) 0+r=top/\q<17179869184) (fun p=>p.2.2.2.2.1.toNat) ⟨top / v.getD (m+1) 0,top % v.getD (m+1) 0,?_,est.init,Int.emod_nonneg _ (by omega),?_,?_,?_⟩ ?_
   . have hq:top / v.getD (m+1) 0<17179869184:=Int.ediv_lt_of_lt_mul (by omega) (by omega)
     have hq':0<=top / v.getD (m+1) 0:=Int.ediv_nonneg (by omega) (by omega)
     rw[Int.tdiv_eq_ediv_of_nonneg gtop.1,Int.tmod_eq_emod_of_nonneg gtop.1,wu64 hq' (by omega)]
   . have:=Int.emod_lt_of_pos top (show 0<v.getD (m+1) 0 by omega);omega
   . have:=Int.mul_ediv_add_emod top (v.getD (m+1) 0);rw[Int.mul_comm];exact this
   . exact Int.ediv_lt_of_lt_mul (by omega) (by omega)
   rintro _ ⟨q,r,rfl,ql,r0,rB,he,qB⟩
   dsimp only
   refine joinR (fun p=>p=((n:Int),some v,((m+2:Nat):Int),(k:Int),q,r,decide (4294967296<=q∨r*4294967296+u.getD (k+m) 0<q*v.getD m 0),some u,some o)) ?_ ?_
   . rintro _ rfl
     simp only[e4,x1,y1]
     refine q01.2 ⟨fun hb=>?_,fun hb=>?_⟩
     . have hb:=dec_t hb
       have hnx:=est.next ql he hb
       have f6:IntKind.wrap IntKind.u64 (q - 1)=q - 1:=wu64 (by omega) (by omega)
       have f7:IntKind.wrap IntKind.u64 (r+v.getD (m+1) 0)=r+v.getD (m+1) 0:=wu64 (by omega) (by omega)
       have he':(q - 1)*v.getD (m+1) 0+(r+v.getD (m+1) 0)=top:=by rw[<-he,Int.sub_mul];omega
       simp only[f6,f7]
       refine⟨by simp only[inS,Option.getD_some];omega,q01.2 ⟨fun h2=>?_,fun h2=>?_⟩⟩
       . have h2:4294967296<=r+v.getD (m+1) 0:=dec_t h2
         obtain⟨w1,w2⟩:=est.brk (by omega) he' h2
         exact hk6 _ ⟨q - 1,rfl,by omega,w1,hnx,est.done hnx he' w1 w2⟩
       . have h2:¬ 4294967296<=r+v.getD (m+1) 0:=dec_f h2
         exact⟨⟨q - 1,r+v.getD (m+1) 0,rfl,hnx,by omega,by omega,he',by omega⟩,by omega⟩
     . have hb:=dec_f hb
       exact hk6 _ ⟨q,rfl,by omega,by omega,ql,est.done ql he (by omega) (by omega)⟩
   . intro k9 hk9
     refine q01.2 ⟨fun h2=>?_,fun h2=>?_⟩
     . have h2:4294967296<=q:=dec_t h2
       exact hk9 _ (by rw[decide_eq_true (Or.inl h2)])
     . have h2:¬ 4294967296<=q:=dec_f h2
       have eo:bitI BinOp.or IntKind.u64 (shlI IntKind.u64 r 32) (u.getD (k+m) 0)=r*4294967296+u.getD (k+m) 0:=by
        rw[q4j,Int.emod_eq_of_lt (by omega) (by omega),q5K gu2.1 gu2.2 r0 rB,Int.add_comm]
       have hb:=q6k (q:=q) (d:=v.getD m 0) (carry:=0) (by omega) (by omega) gv2.1 gv2.2 (by omega) (by omega)
       have em:IntKind.wrap IntKind.u64 (q*v.getD m 0)=q*v.getD m 0:=wu64 hb.1 (by omega)
       simp only[e1,e3,e5,x2,x5,y2,y5,eo,em]
       refine⟨by simp only[inS,Option.getD_some];omega,by first | trivial | omega,by simp only[inS,Option.getD_some];omega,hk9 _ ?_⟩
       have:decide (r*4294967296+u.getD (k+m) 0<q*v.getD m 0)=decide (4294967296<=q∨r*4294967296+u.getD (k+m) 0<q*v.getD m 0):=decide_eq_decide.2 ⟨Or.inr,fun h=>h.resolve_left h2⟩
       rw[this]
 ·
  have hb:¬ (0:Int)<=(K:Int) - 1:=dec_f hb
  obtain rfl:K=0:=by omega
  simp only[Int.pow_zero,Int.mul_one] at lt
  rw[vu,vv] at val
  rw[vv] at lt
  have hR:nv u=(nv x - nv o*nv y)*2 ^ n:=by rw[Int.sub_mul,val];grind
  have hu0:=nv_nonneg ud
  have hR0:0<=nv x - nv o*nv y:=by
   rw[hR] at hu0
   rcases Int.lt_or_le (nv x - nv o*nv y) 0 with h | h
   . have:(nv x - nv o*nv y)*2 ^ n<0:=Int.mul_neg_of_neg_of_pos h hp2
     omega
   . exact h
  have hR1:nv x - nv o*nv y<nv y:=by
   rw[hR] at lt
   exact Int.lt_of_mul_lt_mul_right lt (by omega)
  obtain⟨d1,d2⟩:=q6O (show nv o*nv y+(nv x - nv o*nv y)=nv x by omega) hR0 hR1
  have hyB:=nv_lt dy
  refine⟨by simp only[mkC];omega,?_⟩
  refine loopE (fun p=>∃ (i:Nat) (rl:List Int),p=((n:Int),(v.length:Int),(i:Int),some u,some o,some rl)/\i<=v.length/\rl.length=v.length/\Dig rl/\(∀ j,i<=j->rl.getD j 0=0)/\nv rl=(nv x - nv o*nv y) % 4294967296 ^ i) (fun p=>((v.length:Int) - p.2.2.1).toNat) ⟨0,List.replicate v.length 0,?_,by omega,by simp,Dig.rep _,?_,?_⟩ ?_
  . simp only[repS,szSl,Int.toNat_natCast,Option.getD_some,List.length_replicate];rfl
  . intro j _
    rcases Nat.lt_or_ge j v.length with h | h
    . simp[List.getD,h]
    . simp[List.getD,Nat.not_lt.2 h]
  . rw[q46];simp[Int.emod_one]
  rintro _ ⟨i,rl,rfl,hi,hrl,drl,zrl,vrl⟩
  dsimp only
  refine q01.2 ⟨fun hb=>?_,fun hb=>?_⟩
  . have hb:(i:Int)<(v.length:Int):=dec_t hb
    have f2:IntKind.wrap IntKind.i64 ((i:Int)+1)=((i+1:Nat):Int):=by rw[wi64 (by omega) (by omega)];omega
    have g0:=ud.get i
    have g1:=ud.get (i+1)
    have es:shlI IntKind.u64 (u.getD (i+1) 0) 32=u.getD (i+1) 0*4294967296:=by rw[q4j,Int.emod_eq_of_lt (by omega) (by omega)]
    have eo:bitI BinOp.or IntKind.u64 (u.getD i 0) (u.getD (i+1) 0*4294967296)=u.getD i 0+u.getD (i+1) 0*4294967296:=or64 32 g0.1 (by omega) g1.1 (by omega)
    have ew:IntKind.wrap IntKind.u32 (shrI IntKind.u64 (u.getD i 0+u.getD (i+1) 0*4294967296) (n:Int))=(nv x - nv o*nv y) / 4294967296 ^ i % 4294967296:=by
     rw[wu32m,shr64 _ _ (by omega),Int.mul_comm (u.getD (i+1) 0)]
     exact qaI ud hn _ hR
    have h64a:IntKind.wrap IntKind.u64 (u.getD i 0)=u.getD i 0:=wu64 g0.1 (by omega)
    have h64b:IntKind.wrap IntKind.u64 (u.getD (i+1) 0)=u.getD (i+1) 0:=wu64 g1.1 (by omega)
    simp only[f2,inS,eltN,toN,Option.getD_some,Int.toNat_natCast,h64a,h64b,es,eo,ew,setO,Option.map_some]
    refine⟨by omega,by omega,by first | trivial | omega,by omega,by omega,⟨i+1,_,rfl,by omega,by rw[List.length_set];exact hrl,drl.set i (by omega) (by omega),?_,rest_step (by omega) (zrl i (Nat.le_refl _)) vrl rfl⟩,by omega⟩
    intro j hj;rw[q14 (by omega)];exact zrl j (by omega)
  . have hb:¬ (i:Int)<(v.length:Int):=dec_f hb
    obtain rfl:i=v.length:=by omega
    rw[hlv,<-hm,Int.emod_eq_of_lt hR0 (by omega)] at vrl
    refine⟨⟨o,rfl,od,d1,by omega⟩,rl,rfl,drl,by rw[vrl,d2],by omega⟩
end Go.Proofs.Pf
namespace Go.Proofs.Pf
open Go Go.VM
set_option maxRecDepth 100000
def q96:Ann:=(.s (.s (.seq (.s (.blk none (.loop ⟨[],[.var 0 (.sl tNum),.var 1 (.sl tNum),.var 12 tI,.var 13 tI]⟩ .nil))) .nil)))
theorem qca {Q:Bool->Prop} (a:(Option (List (Int×Int)))) (b:(Option (List (Int×Int)))) (hQ:∃ r,Q r) (h:
 (brV (notB (decide ((szSl a)=(szSl b)))) (Q false) (loopV (Option (List (Int×Int))×Option (List (Int×Int))×Int×Int) (fun k0  (i,j,k,l)=>brV (decide (l<k)) (inS i l/\inS j l/\brV (notB (andB (decide ((eltS ((0:Int),(0:Int)) i l).1=(eltS ((0:Int),(0:Int)) j l).1)) (andB (decide ((eltS ((0:Int),(0:Int)) i l).2=(eltS ((0:Int),(0:Int)) j l).2)) true))) (Q false) (k0 (i,j,k,IntKind.wrap IntKind.i64 (l+(1:Int))))) (Q true)) (a,b,szSl a,(0:Int))))):
 callV Pg q2R [⟨(.sl tNum),a⟩,⟨(.sl tNum),b⟩] .bool Q:=
 q02 (c:=q00 Tryz.f17) (ann:=q96) Tryz.func17 rfl Tryz.call17 rfl rfl hQ (kcast (by kernel_rfl) h)
end Go.Proofs.Pf
namespace Go.Proofs.Pf
open Go Go.VM
theorem rangeB {T S:Type} {step:(T->Prop)->T->Prop} {p0:T} {n:Nat} (f:Nat->S->T) (Inv:Nat->S->Prop) {B:(T->Prop)->Nat->S->Prop} {E:(T->Prop)->Nat->S->Prop} (s0:S) (h0:p0=f 0 s0) (hI:Inv 0 s0)
 (ix:T->Nat) (hix:∀ i s,ix (f i s)=i) (hs:∀ k i s,step k (f i s)=brV (decide ((i:Int)<(n:Int))) (B k i s) (E k i s))
 (hb:∀ k i s,i<n->Inv i s->(∀ s',Inv (i+1) s'->k (f (i+1) s'))->B k i s) (he:∀ k s,Inv n s->E k n s):loopV T step p0:=by
 refine loopE (fun p=>∃ i s,p=f i s/\i<=n/\Inv i s) (fun p=>n - ix p) ⟨0,s0,h0,Nat.zero_le _,hI⟩ ?_
 rintro _ ⟨i,s,rfl,hi,hx⟩
 rw[hs]
 refine q01.2 ⟨fun hc=>?_,fun hc=>?_⟩
 . have hc:(i:Int)<(n:Int):=dec_t hc
   have hc:i<n:=by omega
   refine hb _ i s hc hx fun s' h'=>⟨⟨i+1,s',rfl,hc,h'⟩,?_⟩
   rw[hix,hix];omega
 . have hc:¬ (i:Int)<(n:Int):=dec_f hc
   obtain rfl:i=n:=by omega
   exact he _ s hx
theorem br_t {b:Bool} {A B:Prop} (h:b=true) (hA:A):brV b A B:=by subst h;exact hA
theorem br_f {b:Bool} {A B:Prop} (h:b=false) (hB:B):brV b A B:=by subst h;exact hB
theorem br_c {b:Bool} {A B:Prop} (h1:b=true->A) (h2:b=false->B):brV b A B:=q01.2 ⟨h1,h2⟩
def optL {α:Type} (l:List α):Option (List α):=bif l.isEmpty then none else some l
theorem q07 {α:Type} (l:List α):(optL l).getD []=l:=by cases l<;>rfl
theorem q0G {α:Type} (l:List α) (x:α):appL (optL l) [x]=optL (l ++ [x]):=by cases l<;>rfl
theorem optL_some {α:Type} {l:List α} (h:l≠[]):optL l=some l:=by cases l;exact absurd rfl h;rfl
theorem in_s {α:Type} {l:Option (List α)} {i:Nat} (h:i<(l.getD []).length):inS l (i:Int):=⟨by omega,by omega⟩
theorem wi1 {i n:Nat} (h:i<n) (hn:n<=4611686018427387904):IntKind.wrap IntKind.i64 ((i:Int)+1)=((i+1:Nat):Int):=by rw[wi64 (by omega) (by omega)];rfl
abbrev tab {α:Type} (f:Nat->α) (n:Nat):List α:=(List.range n).map f
theorem q1V {α:Type} (f:Nat->α) (n:Nat):tab f (n+1)=tab f n ++ [f n]:=by simp[tab,List.range_succ]
theorem tab_len {α:Type} (f:Nat->α) (n:Nat):(tab f n).length=n:=by simp[tab]
theorem tab_get {α:Type} (f:Nat->α) (n i:Nat) (d:α) (h:i<n):(tab f n).getD i d=f i:=by
 simp[tab,List.getD,List.getElem?_range h]
end Go.Proofs.Pf
namespace Go.Proofs.Pf
open Go Go.VM
set_option maxRecDepth 100000
def q93:Ann:=(.s (.s (.seq (.s (.blk none (.loop ⟨[(3,.own 1003)],[.var 6 (.sl tNum),.var 7 tI,.var 8 tI,.arr 1003 tER]⟩ .nil))) .nil)))
theorem qc7 {Q:(Option (List DR))->Prop} (a:(Option (List (Int×Int)))) (hQ:∃ r,Q r) (h:
 (loopV (Option (List (Int×Int))×Int×Int×Option (List DR)) (fun k0  (i,j,k,l)=>brV (decide (k<j)) (inS i k/\callV Pg q28 [⟨tNum,eltS ((0:Int),(0:Int)) i k⟩] tER (fun p2=>appC 64 l (lst (some [p2]))/\k0 (i,j,IntKind.wrap IntKind.i64 (k+(1:Int)),appL l (lst (some [p2]))))) (Q l)) (a,szSl a,(0:Int),none))):
 callV Pg q1h [⟨(.sl tNum),a⟩] (.sl tER) Q:=
 q02 (c:=q00 Tryz.f45) (ann:=q93) Tryz.func45 rfl Tryz.call45 rfl rfl hQ (kcast (by kernel_rfl) h)
def q82:Ann:=(.s (.s (.seq (.reg [] [(2,([.opn 12 90012],false))] none) (.seq (.s (.blk none (.loop ⟨[(1,.ref 1 0),(4,.own 12)],[.var 3 tI,.var 13 tI,.var 14 tI,.box 1 tMo,.arr 12 (.hd 90012),.pool 90012 tER]⟩ (.s (.s (.seq (.blk none (.s (.seq (.reg [] [(5,([.giv 20 90012],false))] none) (.s (.blk none (.loop ⟨[(1,.ref 1 0),(4,.own 12)],[.var 3 tI,.var 5 tI,.var 13 tI,.var 14 tI,.var 30 (.sl tBr),.var 31 tI,.var 32 tI,.box 1 tMo,.arr 12 (.hd 90012),.pool 90012 tER]⟩ .nil)))))) .nil)))))) (.seq (.reg [] [(4095,([.frp 90012],false))] none) .nil)))))
theorem qb9 {Q:(Option (List (Option (List DR))))->Prop} (a:DMo) (hQ:∃ r,Q r) (h:
 (mkC 24 (szSl a) (szSl a)/\nilAll (α:=(List DR)) (some (repS (szSl a) none))/\loopV (Int×Int×Int×DMo×Option (List (Option Nat))×List (List DR)) (fun k0  (i,j,k,l,m,n)=>brV (decide (k<j)) (mkC 64 i i/\inS m k/\inS l k/\inS (eltS ((0:Int),(0:Int),none) l k).2.2 (0:Int)/\loopV (Int×Int×Int×Int×Option (List DBr)×Int×Int×DMo×Option (List (Option Nat))×List (List DR)) (fun k2  (o,p,q,r,s,t,u,v,w,x)=>brV (decide (u<t)) (inS s u/\inS w p/\callV Pg q28 [⟨tNum,(eltS ((0:Int),(0:Int),(0:Int)) s u).2⟩] tER (fun p4=>inH x (eltN none w (toN p)) (eltS ((0:Int),(0:Int),(0:Int)) s u).1/\k2 (o,p,q,r,s,t,IntKind.wrap IntKind.i64 (u+(1:Int)),v,w,setR x (Option.getD (eltN none w (toN p)) 0) (toN (eltS ((0:Int),(0:Int),(0:Int)) s u).1) p4))) (k0 (o,q,IntKind.wrap IntKind.i64 (r+(1:Int)),v,w,x))) (i,k,j,k,(eltS (((0:Int),(0:Int)),none) (eltS ((0:Int),(0:Int),none) l k).2.2 (0:Int)).2,szSl (eltS (((0:Int),(0:Int)),none) (eltS ((0:Int),(0:Int),none) l k).2.2 (0:Int)).2,(0:Int),l,setO m (toN k) (gvH (α:=(List DR)) (some (repS i r0)) (lenL n)),gvL n (some (repS i r0)))) (Q (mapL (fun x2=>unH n x2) m))) (szSl a,szSl a,(0:Int),a,hdL (α:=(List DR)) (some (repS (szSl a) none)),[]))):
 callV Pg q0A [⟨tMo,a⟩] (.sl (.sl tER)) Q:=
 q02 (c:=q00 Tryz.f48) (ann:=q82) Tryz.func48 rfl Tryz.call48 rfl rfl hQ (kcast (by kernel_rfl) h)
def q9U:Ann:=.nil
theorem qcX {Q:DR->Prop} (hQ:∃ r,Q r) (h:
 (callV Pg q22 [⟨tI,(1:Int)⟩] tER (fun p0=>Q p0))):
 callV Pg q12 [] tER Q:=
 q02 (c:=q00 Tryz.f57) (ann:=q9U) Tryz.func57 rfl Tryz.call57 rfl rfl hQ (kcast (by kernel_rfl) h)
def q9Y:Ann:=.nil
theorem qd1 {Q:DR->Prop} (a:DR) (b:DR) (c:DR) (hQ:∃ r,Q r) (h:
 (callV Pg q0Y [⟨tER,b⟩,⟨tER,c⟩] tER (fun p0=>callV Pg q0N [⟨tER,a⟩,⟨tER,p0⟩] tER (fun p1=>Q p1)))):
 callV Pg q0c [⟨tER,a⟩,⟨tER,b⟩,⟨tER,c⟩] tER Q:=
 q02 (c:=q00 Tryz.f49) (ann:=q9Y) Tryz.func49 rfl Tryz.call49 rfl rfl hQ (kcast (by kernel_rfl) h)
def q9S:Ann:=let x:Shape:=⟨[(3,.cst (.fn q0c)),(9,.own 15)],[.var 0 (.sl (.sl tER)),.var 1 (.sl tER),.var 2 .bool,.var 10 tI,.var 17 tI,.var 18 tI,.var 24 (.sl tER),.var 25 tI,.var 26 tI,.arr 15 tER]⟩;(.s (.s (.seq (.s (.blk none (.loop ⟨[(3,.cst (.fn q0c)),(9,.own 15)],[.var 0 (.sl (.sl tER)),.var 1 (.sl tER),.var 2 .bool,.var 17 tI,.var 18 tI,.arr 15 tER]⟩ (.s (.s (.seq (.blk none (.s (.s (.blk none (.loop x (.s (.s (.seq (.blk none (.s (.blk none (.s (.cond (some x) .nil (.s (.cond (some x) .nil .nil))))))) .nil)))))))) .nil)))))) .nil)))
theorem q80 {Q:(Option (List DR))->Prop} (a:(Option (List (Option (List DR))))) (b:(Option (List DR))) (c:Bool) (d:Unit) (hQ:∃ r,Q r) (h:
 (mkC 64 (szSl b) (szSl b)/\loopV (Option (List (Option (List DR)))×Option (List DR)×Bool×Int×Int×Option (List DR)) (fun k0  (i,j,k,l,m,n)=>brV (decide (m<l)) (inS i m/\loopV (Option (List (Option (List DR)))×Option (List DR)×Bool×Int×Int×Int×Option (List DR)×Int×Int×Option (List DR)) (fun k2  (o,p,q,r,s,t,u,v,w,x)=>brV (decide (w<v)) (inS u w/\callV Pg q0n [⟨tER,eltS r0 u w⟩] tI (fun p4=>joinV (Option (List (Option (List DR)))×Option (List DR)×Bool×Int×Int×Int×Option (List DR)×Int×Int×Option (List DR)) (fun (y,z,e,f,g,d,A,B,C,D)=>k2 (y,z,e,f,g,d,A,B,IntKind.wrap IntKind.i64 (C+(1:Int)),D)) (fun k5=>brV (decide (p4=(0:Int))) (k5 (o,p,q,r,s,t,u,v,w,x)) (joinV (Option (List (Option (List DR)))×Option (List DR)×Bool×Int×Int×Int×Option (List DR)×Int×Int×Option (List DR)) (fun y=>k5 y) (fun k6=>brV q (inS x r/\inS p w/\callV Pg q0c [⟨tER,eltN r0 x (toN r)⟩,⟨tER,eltS r0 p w⟩,⟨tER,eltS r0 u w⟩] tER (fun p7=>inS x r/\k6 (o,p,q,r,s,t,u,v,w,setO x (toN r) p7))) (inS x w/\inS p r/\callV Pg q0c [⟨tER,eltN r0 x (toN w)⟩,⟨tER,eltS r0 p r⟩,⟨tER,eltS r0 u w⟩] tER (fun p7=>inS x w/\k6 (o,p,q,r,s,t,u,v,w,setO x (toN w) p7)))))))) (k0 (o,p,q,s,IntKind.wrap IntKind.i64 (t+(1:Int)),x))) (i,j,k,m,l,m,eltS none i m,szSl (eltS none i m),(0:Int),n)) (Q n)) (a,b,c,szSl a,(0:Int),some (repS (szSl b) r0)))):
 callV Pg q0P [⟨(.sl (.sl tER)),a⟩,⟨(.sl tER),b⟩,⟨.bool,c⟩,⟨(.cst (.fn q0c)),d⟩] (.sl tER) Q:=
 q02 (c:=q00 Tryz.f47) (ann:=q9S) Tryz.func47 rfl Tryz.call47 rfl rfl hQ (kcast (by kernel_rfl) h)
def q9W:Ann:=let x:Shape:=⟨[(7,.own 12)],[.var 1 (.sl tER),.var 2 tI,.var 14 (.sl tSt),.var 15 tI,.var 16 tI,.arr 12 tER]⟩;(.s (.s (.seq (.s (.blk none (.loop x (.s (.s (.seq (.blk none (.s (.s (.cond (some x) .nil .nil)))) .nil)))))) .nil)))
theorem qcZ {Q:(Option (List DR))->Prop} (a:DMo) (b:(Option (List DR))) (c:Int) (hQ:∃ r,Q r) (h:
 (mkC 64 (szSl b) (szSl b)/\loopV (Option (List DR)×Int×DMo×Int×Int×Option (List DR)) (fun k0  (i,j,k,l,m,n)=>brV (decide (m<l)) (inS k m/\joinV (Option (List DR)×Int×DMo×Int×Int×Option (List DR)) (fun (o,p,q,r,s,t)=>k0 (o,p,q,r,IntKind.wrap IntKind.i64 (s+(1:Int)),t)) (fun k2=>brV (decide ((eltS ((0:Int),(0:Int),none) k m).2.1=j)) (inS i m/\inS n m/\k2 (i,j,k,l,m,setO n (toN m) (eltS r0 i m))) (k2 (i,j,k,l,m,n)))) (Q n)) (b,c,a,szSl a,(0:Int),some (repS (szSl b) r0)))):
 callV Pg q1D [⟨tMo,a⟩,⟨(.sl tER),b⟩,⟨tI,c⟩] (.sl tER) Q:=
 q02 (c:=q00 Tryz.f58) (ann:=q9W) Tryz.func58 rfl Tryz.call58 rfl rfl hQ (kcast (by kernel_rfl) h)
def q9J:Ann:=(.s (.s (.s (.s (.seq (.s (.blk none (.loop ⟨[(3,.ref 3 0),(8,.own 1008)],[.var 7 (.sl (.sl tER)),.var 9 (.sl tER),.var 15 tL,.var 16 tI,.var 17 tI,.box 3 tMo,.arr 1008 (.sl tER)]⟩ (.s (.s (.seq (.blk none (.s (.seq (.s (.cond (some ⟨[(3,.ref 3 0),(8,.own 1008)],[.var 7 (.sl (.sl tER)),.var 9 (.sl tER),.var 11 tI,.var 15 tL,.var 16 tI,.var 17 tI,.box 3 tMo,.arr 1008 (.sl tER)]⟩) .nil .nil)) .nil))) .nil)))))) .nil)))))
theorem qcN {Q:(Option (List (Option (List DR))))->Prop} (a:DMo) (b:(Option (List DR))) (c:DL) (hQ:∃ r,Q r) (h:
 (callV Pg q0A [⟨tMo,a⟩] (.sl (.sl tER)) (fun p0=>loopV (Option (List (Option (List DR)))×Option (List DR)×DL×Int×Int×DMo×Option (List (Option (List DR)))) (fun k1  (i,j,k,l,m,n,o)=>brV (decide (m<l)) (inS k m/\joinV (Option (List (Option (List DR)))×Option (List DR)×Int×DL×Int×Int×DMo×Option (List (Option (List DR)))) (fun (p,q,r,s,t,u,v,w)=>callV Pg q1D [⟨tMo,v⟩,⟨.sl tER,q⟩,⟨tI,r⟩] (.sl tER) (fun p4=>appC 24 w (lst (some [p4]))/\k1 (p,p4,s,t,IntKind.wrap IntKind.i64 (u+(1:Int)),v,appL w (lst (some [p4]))))) (fun k3=>brV (decide ((0:Int)<m)) (callV Pg q0P [⟨.sl (.sl tER),i⟩,⟨.sl tER,j⟩,⟨.bool,false⟩,⟨.cst (.fn q0c),()⟩] (.sl tER) (fun p4=>k3 (i,p4,eltS (0:Int) k m,k,l,m,n,o))) (k3 (i,j,eltS (0:Int) k m,k,l,m,n,o)))) (Q o)) (p0,b,c,szSl c,(0:Int),a,none)))):
 callV Pg q3U [⟨tMo,a⟩,⟨(.sl tER),b⟩,⟨tL,c⟩] (.sl (.sl tER)) Q:=
 q02 (c:=q00 Tryz.f59) (ann:=q9J) Tryz.func59 rfl Tryz.call59 rfl rfl hQ (kcast (by kernel_rfl) h)
def q9X:Ann:=(.s (.s (.seq (.s (.blk none (.loop ⟨[(2,.ref 2 0),(3,.ref 3 0)],[.var 6 (.sl tER),.var 7 tI,.var 8 tI,.box 2 tER,.box 3 tER]⟩ .nil))) .nil)))
theorem qd0 {Q:DR->Prop} (a:(Option (List DR))) (hQ:∃ r,Q r) (h:
 (loopV (Option (List DR)×Int×Int×DR×DR) (fun k0  (i,j,k,l,m)=>brV (decide (k<j)) (inS i k/\callV Pg q0N [⟨tER,m⟩,⟨tER,eltS r0 i k⟩] tER (fun p2=>k0 (i,j,IntKind.wrap IntKind.i64 (k+(1:Int)),l,p2))) (Q m)) (a,szSl a,(0:Int),r0,r0))):
 callV Pg q2c [⟨(.sl tER),a⟩] tER Q:=
 q02 (c:=q00 Tryz.f43) (ann:=q9X) Tryz.func43 rfl Tryz.call43 rfl rfl hQ (kcast (by kernel_rfl) h)
def q9P:Ann:=.nil
theorem qcT {Q:(Option (List DR))->Prop} (a:DMo) (b:(Option (List DR))) (c:DL) (hQ:∃ r,Q r) (h:
 (brV (decide ((szSl c)=(0:Int))) (Q b) (callV Pg q3U [⟨tMo,a⟩,⟨.sl tER,b⟩,⟨tL,c⟩] (.sl (.sl tER)) (fun p0=>inS p0 (IntKind.wrap IntKind.i64 ((szSl c) - (1:Int)))/\Q (eltS none p0 (IntKind.wrap IntKind.i64 ((szSl c) - (1:Int)))))))):
 callV Pg q2b [⟨tMo,a⟩,⟨(.sl tER),b⟩,⟨tL,c⟩] (.sl tER) Q:=
 q02 (c:=q00 Tryz.f44) (ann:=q9P) Tryz.func44 rfl Tryz.call44 rfl rfl hQ (kcast (by kernel_rfl) h)
def q9O:Ann:=(.s (.seq (.reg [] [] (some ⟨[],[.var 2 .bool]⟩)) .nil))
theorem qcS {Q:Bool->Prop} (a:Int) (hQ:∃ r,Q r) (h:
 (joinV Bool (fun p0=>Q p0) (fun k0=>brV (decide (a<(0:Int))) (k0 true) (k0 (decide ((64:Int)<=a)))))):
 callV Pg q11 [⟨tI,a⟩] .bool Q:=
 q02 (c:=q00 Tryz.f133) (ann:=q9O) Tryz.func133 rfl Tryz.call133 rfl rfl hQ (kcast (by kernel_rfl) h)
def q9r:Ann:=(.s (.seq (.s (.blk none (.loop ⟨[(1,.cst (.fn q11))],[.var 0 tL,.var 7 tI,.var 8 tI]⟩ .nil))) .nil))
theorem qcv {Q:Int->Prop} (a:DL) (b:Unit) (hQ:∃ r,Q r) (h:
 (loopV (DL×Int×Int) (fun k0  (i,j,k)=>brV (decide (k<j)) (inS i k/\callV Pg q11 [⟨tI,eltS (0:Int) i k⟩] .bool (fun p2=>brV p2 (Q k) (k0 (i,j,IntKind.wrap IntKind.i64 (k+(1:Int)))))) (Q (-(1:Int)))) (a,szSl a,(0:Int)))):
 callV Pg q5b [⟨tL,a⟩,⟨(.cst (.fn q11)),b⟩] tI Q:=
 q02 (c:=q00 Tryz.f158) (ann:=q9r) Tryz.func158 rfl Tryz.call158 rfl rfl hQ (kcast (by kernel_rfl) h)
def q9o:Ann:=.nil
theorem qcs {Q:Bool->Prop} (a:DL) (b:Unit) (hQ:∃ r,Q r) (h:
 (callV Pg q5b [⟨tL,a⟩,⟨.cst (.fn q11),()⟩] tI (fun p0=>Q (decide ((0:Int)<=p0))))):
 callV Pg q6E [⟨tL,a⟩,⟨(.cst (.fn q11)),b⟩] .bool Q:=
 q02 (c:=q00 Tryz.f132) (ann:=q9o) Tryz.func132 rfl Tryz.call132 rfl rfl hQ (kcast (by kernel_rfl) h)
def q9N:Ann:=(.s (.seq (.reg [] [] (some ⟨[],[.var 2 .bool]⟩)) .nil))
theorem qcR {Q:Bool->Prop} (a:DL) (hQ:∃ r,Q r) (h:
 (joinV Bool (fun p0=>Q p0) (fun k0=>brV (decide ((szSl a)<=(200:Int))) (callV Pg q6E [⟨tL,a⟩,⟨.cst (.fn q11),()⟩] .bool (fun p1=>k0 (notB p1))) (k0 false)))):
 callV Pg q5f [⟨tL,a⟩] .bool Q:=
 q02 (c:=q00 Tryz.f91) (ann:=q9N) Tryz.func91 rfl Tryz.call91 rfl rfl hQ (kcast (by kernel_rfl) h)
def q9M:Ann:=(.s (.s (.seq (.s (.blk none (.loop ⟨[(2,.ref 2 0),(5,.ref 5 0)],[.var 1 (.sl tNum),.var 8 (.sl tNum),.var 9 tI,.var 10 tI,.box 2 tMo,.box 5 tER]⟩ (.s (.s (.seq (.blk none (.s (.seq (.seq (.reg [] [] (some ⟨[(2,.ref 2 0),(5,.ref 5 0),(7,.ref 7 0)],[.var 1 (.sl tNum),.var 8 (.sl tNum),.var 9 tI,.var 10 tI,.var 21 .bool,.box 2 tMo,.box 5 tER,.box 7 tNum]⟩)) .nil) .nil))) .nil)))))) (.seq (.reg [] [] (some ⟨[],[.var 4 .bool]⟩)) .nil))))
theorem qcQ {Q:Bool->Prop} (a:DMo) (b:(Option (List (Int×Int)))) (hQ:∃ r,Q r) (h:
 (loopV (Option (List (Int×Int))×Option (List (Int×Int))×Int×Int×DMo×DR) (fun k0  (i,j,k,l,m,n)=>brV (decide (l<k)) (inS j l/\joinV (Option (List (Int×Int))×Option (List (Int×Int))×Int×Int×Bool×DMo×DR×Int×Int) (fun (o,p,q,r,s,t,u,v)=>brV s (Q false) (callV Pg q28 [⟨tNum,v⟩] tER (fun p3=>callV Pg q0N [⟨tER,u⟩,⟨tER,p3⟩] tER (fun p4=>k0 (o,p,q,IntKind.wrap IntKind.i64 (r+(1:Int)),t,p4))))) (fun k2=>callV Pg q2P [⟨tNum,eltS ((0:Int),(0:Int)) j l⟩] .bool (fun p3=>brV (notB p3) (k2 (i,j,k,l,true,m,n,eltS ((0:Int),(0:Int)) j l)) (k2 (i,j,k,l,decide ((eltS ((0:Int),(0:Int)) j l).1<(0:Int)),m,n,eltS ((0:Int),(0:Int)) j l))))) (joinV Bool (fun p2=>Q p2) (fun k2=>brV (decide ((szSl i)=(szSl m))) (callV Pg q12 [] tER (fun p3=>callV Pg q1B [⟨tER,n⟩,⟨tER,p3⟩] tI (fun p4=>k2 (decide (p4=(0:Int)))))) (k2 false)))) (b,b,szSl b,(0:Int),a,r0))):
 callV Pg q5e [⟨tMo,a⟩,⟨(.sl tNum),b⟩] .bool Q:=
 q02 (c:=q00 Tryz.f90) (ann:=q9M) Tryz.func90 rfl Tryz.call90 rfl rfl hQ (kcast (by kernel_rfl) h)
def q9H:Ann:=(.s (.seq (.blk none (.seq (.reg [] [] (some ⟨[(3,.ref 3 0)],[.var 7 .bool,.box 3 tMo]⟩)) .nil)) .nil))
theorem qcL {Q:Int->Prop} (a:DMo) (b:(Option (List (Int×Int)))) (c:DL) (hQ:∃ r,Q r) (h:
 (joinV (Bool×DMo) (fun (i,j)=>brV i (Q (1:Int)) (callV Pg q2M [⟨tMo,j⟩] .bool (fun p1=>brV (notB p1) (Q (7:Int)) (Q (0:Int))))) (fun k0=>callV Pg q2N [⟨tMo,a⟩] .bool (fun p1=>brV (notB p1) (k0 (true,a)) (callV Pg q5e [⟨tMo,a⟩,⟨.sl tNum,b⟩] .bool (fun p2=>brV (notB p2) (k0 (true,a)) (callV Pg q5f [⟨tL,c⟩] .bool (fun p3=>k0 (notB p3,a))))))))):
 callV Pg q1i [⟨tMo,a⟩,⟨(.sl tNum),b⟩,⟨tL,c⟩] tI Q:=
 q02 (c:=q00 Tryz.f41) (ann:=q9H) Tryz.func41 rfl Tryz.call41 rfl rfl hQ (kcast (by kernel_rfl) h)
def q9z:Ann:=.nil
theorem qcD {Q:((Int×Int)×(Int×Unit))->Prop} (a:DMo) (b:(Option (List (Int×Int)))) (c:DL) (hQ:∃ r,Q r) (h:
 (callV Pg q1i [⟨tMo,a⟩,⟨.sl tNum,b⟩,⟨tL,c⟩] tI (fun p0=>brV (notB (decide (p0=(0:Int)))) (Q (((0:Int),(0:Int)),p0,())) (callV Pg q1h [⟨.sl tNum,b⟩] (.sl tER) (fun p1=>callV Pg q2b [⟨tMo,a⟩,⟨.sl tER,p1⟩,⟨tL,c⟩] (.sl tER) (fun p2=>callV Pg q2c [⟨.sl tER,p2⟩] tER (fun p3=>callV Pg q2O [⟨tER,p3⟩] (.tup (.pair tNum (.pair tI .unit))) (fun p4=>Q (p4.1,p4.2.1,()))))))))):
 callV Pg q2T [⟨tMo,a⟩,⟨(.sl tNum),b⟩,⟨tL,c⟩] (.tup (.pair tNum (.pair tI .unit))) Q:=
 q02 (c:=q00 Tryz.f8) (ann:=q9z) Tryz.func8 rfl Tryz.call8 rfl rfl hQ (kcast (by kernel_rfl) h)
end Go.Proofs.Pf
namespace Go.Proofs.Pf
open Go Go.VM
set_option maxRecDepth 100000
def q8Y:Ann:=(.s (.s (.seq (.seq (.reg [] [] (some ⟨[(1,.ref 1 0)],[.var 3 tI,.var 16 .bool,.box 1 tMo]⟩)) .nil) (.seq (.s (.blk none (.loop ⟨[],[.var 3 tI,.var 18 (.sl tSt),.var 19 tI,.var 20 tI]⟩ (.s (.s (.seq (.blk none (.s (.seq (.seq (.reg [] [] (some ⟨[(5,.ref 5 0)],[.var 3 tI,.var 18 (.sl tSt),.var 19 tI,.var 20 tI,.var 53 .bool,.box 5 tSt]⟩)) .nil) (.s (.blk none (.loop ⟨[],[.var 3 tI,.var 18 (.sl tSt),.var 19 tI,.var 20 tI,.var 55 (.sl tCh),.var 56 tI,.var 57 tI]⟩ .nil)))))) .nil)))))) .nil))))
theorem qc4 {Q:Bool->Prop} (a:DMo) (hQ:∃ r,Q r) (h:
 (joinV (Int×Bool×DMo) (fun (i,j,k)=>brV j (Q false) (loopV (Int×DMo×Int×Int) (fun k1  (l,m,n,o)=>brV (decide (o<n)) (inS m o/\joinV (Int×DMo×Int×Int×Bool×DSt) (fun (p,q,r,s,t,u)=>brV t (Q false) (loopV (Int×DMo×Int×Int×Option (List DCh)×Int×Int) (fun k4  (v,w,x,y,z,e,f)=>brV (decide (f<e)) (inS z f/\callV Pg q4T [⟨tI,v⟩,⟨tCh,eltS (((0:Int),(0:Int)),none) z f⟩] .bool (fun p6=>brV (notB p6) (Q false) (k4 (v,w,x,y,z,e,IntKind.wrap IntKind.i64 (f+(1:Int)))))) (k1 (v,w,x,IntKind.wrap IntKind.i64 (y+(1:Int))))) (p,q,r,s,u.2.2,szSl u.2.2,(0:Int)))) (fun k3=>brV (decide ((eltS ((0:Int),(0:Int),none) m o).1<(0:Int))) (k3 (l,m,n,o,true,eltS ((0:Int),(0:Int),none) m o)) (brV (decide ((1:Int)<(eltS ((0:Int),(0:Int),none) m o).1)) (k3 (l,m,n,o,true,eltS ((0:Int),(0:Int),none) m o)) (brV (decide ((eltS ((0:Int),(0:Int),none) m o).2.1<(0:Int))) (k3 (l,m,n,o,true,eltS ((0:Int),(0:Int),none) m o)) (brV (decide ((63:Int)<(eltS ((0:Int),(0:Int),none) m o).2.1)) (k3 (l,m,n,o,true,eltS ((0:Int),(0:Int),none) m o)) (brV (decide ((szSl (eltS ((0:Int),(0:Int),none) m o).2.2)<(1:Int))) (k3 (l,m,n,o,true,eltS ((0:Int),(0:Int),none) m o)) (k3 (l,m,n,o,decide ((8:Int)<(szSl (eltS ((0:Int),(0:Int),none) m o).2.2)),eltS ((0:Int),(0:Int),none) m o)))))))) (Q true)) (i,k,szSl k,(0:Int)))) (fun k0=>brV (decide ((szSl a)<(1:Int))) (k0 (szSl a,true,a)) (k0 (szSl a,decide ((40:Int)<(szSl a)),a))))):
 callV Pg q2N [⟨tMo,a⟩] .bool Q:=
 q02 (c:=q00 Tryz.f84) (ann:=q8Y) Tryz.func84 rfl Tryz.call84 rfl rfl hQ (kcast (by kernel_rfl) h)
def q8Z:Ann:=(.s (.seq (.seq (.reg [] [] (some ⟨[(3,.ref 3 0)],[.var 0 tI,.var 24 .bool,.box 3 tCh]⟩)) .nil) (.s (.s (.seq (.s (.blk none (.loop ⟨[(5,.ref 5 0)],[.var 0 tI,.var 6 tI,.var 26 (.sl tBr),.var 27 tI,.var 28 tI,.box 5 tER]⟩ (.s (.s (.seq (.blk none (.s (.seq (.seq (.reg [] [] (some ⟨[(5,.ref 5 0),(8,.ref 8 0)],[.var 0 tI,.var 26 (.sl tBr),.var 27 tI,.var 28 tI,.var 53 .bool,.box 5 tER,.box 8 tBr]⟩)) .nil) .nil))) .nil)))))) .nil)))))
theorem qc5 {Q:Bool->Prop} (a:Int) (b:DCh) (hQ:∃ r,Q r) (h:
 (joinV (Int×Bool×DCh) (fun (i,j,k)=>brV j (Q false) (loopV (Int×Int×Option (List DBr)×Int×Int×DR) (fun k1  (l,m,n,o,p,q)=>brV (decide (p<o)) (inS n p/\joinV (Int×Option (List DBr)×Int×Int×Bool×DR×DBr) (fun (r,s,t,u,v,w,x)=>brV v (Q false) (callV Pg q28 [⟨tNum,x.2⟩] tER (fun p4=>callV Pg q0N [⟨tER,w⟩,⟨tER,p4⟩] tER (fun p5=>k1 (r,x.1,s,t,IntKind.wrap IntKind.i64 (u+(1:Int)),p5))))) (fun k3=>brV (decide ((eltS ((0:Int),(0:Int),(0:Int)) n p).1<=m)) (k3 (l,n,o,p,true,q,eltS ((0:Int),(0:Int),(0:Int)) n p)) (brV (decide (l<=(eltS ((0:Int),(0:Int),(0:Int)) n p).1)) (k3 (l,n,o,p,true,q,eltS ((0:Int),(0:Int),(0:Int)) n p)) (callV Pg q2P [⟨tNum,(eltS ((0:Int),(0:Int),(0:Int)) n p).2⟩] .bool (fun p4=>brV (notB p4) (k3 (l,n,o,p,true,q,eltS ((0:Int),(0:Int),(0:Int)) n p)) (k3 (l,n,o,p,decide ((eltS ((0:Int),(0:Int),(0:Int)) n p).2.1<=(0:Int)),q,eltS ((0:Int),(0:Int),(0:Int)) n p))))))) (callV Pg q22 [⟨tI,(1:Int)⟩] tER (fun p3=>callV Pg q1B [⟨tER,q⟩,⟨tER,p3⟩] tI (fun p4=>Q (decide (p4=(0:Int))))))) (i,-(1:Int),k.2,szSl k.2,(0:Int),r0))) (fun k0=>callV Pg q2P [⟨tNum,b.1⟩] .bool (fun p1=>brV (notB p1) (k0 (a,true,b)) (brV (decide ((szSl b.2)<(1:Int))) (k0 (a,true,b)) (k0 (a,decide ((8:Int)<(szSl b.2)),b))))))):
 callV Pg q4T [⟨tI,a⟩,⟨tCh,b⟩] .bool Q:=
 q02 (c:=q00 Tryz.f124) (ann:=q8Z) Tryz.func124 rfl Tryz.call124 rfl rfl hQ (kcast (by kernel_rfl) h)
end Go.Proofs.Pf
namespace Go.Proofs.Pf
open Go Go.VM
set_option maxRecDepth 100000
def q95:Ann:=(.s (.s (.seq (.s (.blk none (.loop ⟨[],[.var 0 tL,.var 1 tL,.var 12 tI,.var 13 tI]⟩ .nil))) .nil)))
theorem qc9 {Q:Bool->Prop} (a:DL) (b:DL) (hQ:∃ r,Q r) (h:
 (brV (notB (decide ((szSl a)=(szSl b)))) (Q false) (loopV (DL×DL×Int×Int) (fun k0  (i,j,k,l)=>brV (decide (l<k)) (inS i l/\inS j l/\brV (notB (decide ((eltS (0:Int) i l)=(eltS (0:Int) j l)))) (Q false) (k0 (i,j,k,IntKind.wrap IntKind.i64 (l+(1:Int))))) (Q true)) (a,b,szSl a,(0:Int))))):
 callV Pg q2Q [⟨tL,a⟩,⟨tL,b⟩] .bool Q:=
 q02 (c:=q00 Tryz.f28) (ann:=q95) Tryz.func28 rfl Tryz.call28 rfl rfl hQ (kcast (by kernel_rfl) h)
end Go.Proofs.Pf
namespace Go.Proofs.Pf
open Go Go.VM
def q3q:Lend:=⟨⟨[],[.var 0 tI,.var 1 (.clo q2X (.pair (.fref (.sl (.bool))) (.unit)))]⟩,⟨[(0,.own 1000)],[.arr 1000 tI]⟩,1⟩
def q3r:Lend:=⟨⟨[],[.var 0 tMo,.var 1 (.sl tNum),.var 2 tL,.var 3 tI,.var 4 tI,.var 5 tI]⟩,⟨[(0,.own 1000),(1,.own 1001)],[.var 2 (.arr 7 tI),.arr 1000 (.hd 80006),.arr 1001 (.hd 80005),.pool 80006 tNum,.pool 80005 tI]⟩,3⟩
def q3s:Lend:=⟨⟨[],[.var 0 (.sl tER)]⟩,⟨[(0,.own 1000)],[.var 1 tI,.arr 1000 tNum]⟩,2⟩
def q3t:Lend:=⟨⟨[],[.var 0 (.sl (.sl tNum))]⟩,⟨[(0,.own 1000)],[.arr 1000 (.hd 80007),.pool 80007 tNum]⟩,1⟩
def q3u:Lend:=⟨⟨[(0,.own 1000000000)],[.arr 1000000000 tNum]⟩,⟨[(1000,.own 1000000000)],[.arr 1000000000 tNum]⟩,0⟩
def q3v:Lend:=⟨⟨[(0,.own 1000000000)],[.arr 1000000000 (.hd 80006),.pool 80006 tNum]⟩,⟨[],[]⟩,0⟩
def q3w:Lend:=⟨⟨[(0,.own 700000)],[.arr 700000 tI]⟩,⟨[(0,.own 1000)],[.arr 1000 tI]⟩,1⟩
def q3x:Lend:=⟨⟨[(0,.own 1000000000)],[.arr 1000000000 tI]⟩,⟨[(1000,.own 1000000000)],[.arr 1000000000 tI]⟩,0⟩
def q3y:Lend:=⟨⟨[(0,.own 1000000000)],[.var 1 tI,.var 2 tI,.arr 1000000000 tI]⟩,⟨[(1000,.own 1000000000)],[.arr 1000000000 tI]⟩,0⟩
def q4s:Lend:=⟨⟨[(0,.own 1000000000)],[.var 1 tI,.var 2 tI,.var 3 tI,.arr 1000000000 tI]⟩,⟨[(1000,.own 1000000000)],[.arr 1000000000 tI]⟩,0⟩
def q2x:Lend:=⟨⟨[],[.var 0 tMo]⟩,⟨[(0,.own 1000)],[.var 1 tI,.arr 1000 tI]⟩,2⟩
def q2y:Lend:=⟨⟨[],[.var 0 tMo,.var 1 tI,.var 2 tI]⟩,⟨[],[.var 0 (.hd 80005),.var 1 tI,.pool 80005 tI]⟩,2⟩
def q2z:Lend:=⟨⟨[],[.var 0 tMo,.var 1 (.sl tNum),.var 2 tL]⟩,⟨[(0,.own 1000)],[.var 1 tNum,.var 2 tI,.arr 1000 tI]⟩,3⟩
def q2A:Lend:=⟨⟨[],[.var 0 tMo,.var 1 (.sl tNum),.var 2 tL]⟩,⟨[(0,.own 1000)],[.var 1 tI,.arr 1000 tNum]⟩,2⟩
def q2B:Lend:=⟨⟨[],[.var 0 tMo,.var 1 (.sl tNum),.var 2 tL]⟩,⟨[(0,.own 1000)],[.var 1 tI,.arr 1000 tNum]⟩,2⟩
def q2C:Lend:=⟨⟨[],[.var 0 tMo,.var 1 (.sl tNum),.var 2 tL]⟩,⟨[(0,.own 1000)],[.var 1 tI,.arr 1000 tI]⟩,2⟩
def q2D:Lend:=⟨⟨[],[.var 0 tMo,.var 1 (.sl tNum),.var 2 tL,.var 3 tI]⟩,⟨[(0,.own 1000)],[.var 1 tI,.arr 1000 tNum]⟩,2⟩
def q1c:Lend:=⟨⟨[],[.var 0 (.sl tER)]⟩,⟨[(0,.own 1000)],[.var 1 tI,.arr 1000 tNum]⟩,2⟩
end Go.Proofs.Pf
namespace Go.Proofs.Pf
open Go Go.VM
set_option maxRecDepth 100000
def q9d:Ann:=(.s (.seq (.seq (.reg [] [] (some ⟨[(3,.ref 3 0)],[.var 25 .bool,.box 3 tMo]⟩)) .nil) (.seq (.s (.blk none (.loop ⟨[],[.var 27 (.sl tSt),.var 28 tI,.var 29 tI]⟩ (.s (.s (.seq (.blk none (.s (.s (.s (.blk none (.loop ⟨[],[.var 27 (.sl tSt),.var 28 tI,.var 29 tI,.var 38 (.sl tCh),.var 39 tI,.var 40 tI]⟩ .nil)))))) .nil)))))) .nil)))
theorem qch {Q:Bool->Prop} (a:Int) (b:DMo) (hQ:∃ r,Q r) (h:
 (joinV (Bool×DMo) (fun (i,j)=>brV i (Q false) (loopV (DMo×Int×Int) (fun k1  (k,l,m)=>brV (decide (m<l)) (inS k m/\brV (decide ((10:Int)<(szSl (eltS ((0:Int),(0:Int),none) k m).2.2))) (Q false) (loopV (DMo×Int×Int×Option (List DCh)×Int×Int) (fun k3  (n,o,p,q,r,s)=>brV (decide (s<r)) (inS q s/\brV (decide ((10:Int)<(szSl (eltS (((0:Int),(0:Int)),none) q s).2))) (Q false) (k3 (n,o,p,q,r,IntKind.wrap IntKind.i64 (s+(1:Int))))) (k1 (n,o,IntKind.wrap IntKind.i64 (p+(1:Int))))) (k,l,m,(eltS ((0:Int),(0:Int),none) k m).2.2,szSl (eltS ((0:Int),(0:Int),none) k m).2.2,(0:Int)))) (Q true)) (j,szSl j,(0:Int)))) (fun k0=>brV (decide (a<(szSl b))) (brV (decide ((szSl b)<=(40:Int))) (k0 (true,b)) (k0 (decide ((45:Int)<(szSl b)),b))) (k0 (decide ((45:Int)<(szSl b)),b))))):
 callV Pg q51 [⟨tI,a⟩,⟨tMo,b⟩] .bool Q:=
 q02 (c:=q00 Tryz.f36) (ann:=q9d) Tryz.func36 rfl Tryz.call36 rfl rfl hQ (kcast (by kernel_rfl) h)
end Go.Proofs.Pf
namespace Go.Proofs.Pf
open Go Go.VM
set_option maxRecDepth 100000
def q8W:Ann:=.nil
theorem qc2 {Q:Bool->Prop} (a:DMo) (hQ:∃ r,Q r) (h:
 (callV Pg q6D [⟨.sl tSt,a⟩,⟨.cst (.fn q0Z),()⟩] .bool (fun p0=>Q (notB p0)))):
 callV Pg q2M [⟨tMo,a⟩] .bool Q:=
 q02 (c:=q00 Tryz.f85) (ann:=q8W) Tryz.func85 rfl Tryz.call85 rfl rfl hQ (kcast (by kernel_rfl) h)
def q8X:Ann:=.nil
theorem qc3 {Q:Bool->Prop} (a:DSt) (hQ:∃ r,Q r) (h:
 (Q (decide ((1:Int)<(szSl a.2.2))))):
 callV Pg q0Z [⟨tSt,a⟩] .bool Q:=
 q02 (c:=q00 Tryz.f126) (ann:=q8X) Tryz.func126 rfl Tryz.call126 rfl rfl hQ (kcast (by kernel_rfl) h)
def q9p:Ann:=(.s (.seq (.s (.blk none (.loop ⟨[(1,.cst (.fn q0Z))],[.var 0 (.sl tSt),.var 7 tI,.var 8 tI]⟩ .nil))) .nil))
theorem qct {Q:Int->Prop} (a:DMo) (b:Unit) (hQ:∃ r,Q r) (h:
 (loopV (DMo×Int×Int) (fun k0  (i,j,k)=>brV (decide (k<j)) (inS i k/\callV Pg q0Z [⟨tSt,eltS ((0:Int),(0:Int),none) i k⟩] .bool (fun p2=>brV p2 (Q k) (k0 (i,j,IntKind.wrap IntKind.i64 (k+(1:Int)))))) (Q (-(1:Int)))) (a,szSl a,(0:Int)))):
 callV Pg q59 [⟨(.sl tSt),a⟩,⟨(.cst (.fn q0Z)),b⟩] tI Q:=
 q02 (c:=q00 Tryz.f153) (ann:=q9p) Tryz.func153 rfl Tryz.call153 rfl rfl hQ (kcast (by kernel_rfl) h)
def q9m:Ann:=.nil
theorem qcq {Q:Bool->Prop} (a:DMo) (b:Unit) (hQ:∃ r,Q r) (h:
 (callV Pg q59 [⟨.sl tSt,a⟩,⟨.cst (.fn q0Z),()⟩] tI (fun p0=>Q (decide ((0:Int)<=p0))))):
 callV Pg q6D [⟨(.sl tSt),a⟩,⟨(.cst (.fn q0Z)),b⟩] .bool Q:=
 q02 (c:=q00 Tryz.f125) (ann:=q9m) Tryz.func125 rfl Tryz.call125 rfl rfl hQ (kcast (by kernel_rfl) h)
end Go.Proofs.Pf
namespace Go.Proofs.Pf
open Go Go.VM
set_option maxRecDepth 100000
def q9e:Ann:=(.s (.s (.seq (.s (.blk none (.loop ⟨[(3,.ref 3 0)],[.var 21 (.sl tSt),.var 22 tI,.var 23 tI,.box 3 tMo]⟩ (.s (.s (.seq (.blk none (.s (.s (.seq (.seq (.reg [] [] (some ⟨[(3,.ref 3 0),(6,.ref 6 0),(7,.ref 7 0)],[.var 21 (.sl tSt),.var 22 tI,.var 23 tI,.var 53 .bool,.box 3 tMo,.box 6 tSt,.box 7 tSt]⟩)) .nil) (.s (.blk none (.loop ⟨[(3,.ref 3 0),(7,.ref 7 0)],[.var 21 (.sl tSt),.var 22 tI,.var 23 tI,.var 55 (.sl tCh),.var 56 tI,.var 57 tI,.box 3 tMo,.box 7 tSt]⟩ (.s (.s (.seq (.blk none (.s (.s (.seq (.seq (.reg [] [] (some ⟨[(3,.ref 3 0),(7,.ref 7 0),(9,.ref 9 0),(10,.ref 10 0)],[.var 21 (.sl tSt),.var 22 tI,.var 23 tI,.var 55 (.sl tCh),.var 56 tI,.var 57 tI,.var 80 .bool,.box 3 tMo,.box 7 tSt,.box 9 tCh,.box 10 tCh]⟩)) .nil) (.s (.blk none (.loop ⟨[(3,.ref 3 0),(7,.ref 7 0),(10,.ref 10 0)],[.var 21 (.sl tSt),.var 22 tI,.var 23 tI,.var 55 (.sl tCh),.var 56 tI,.var 57 tI,.var 82 (.sl tBr),.var 83 tI,.var 84 tI,.box 3 tMo,.box 7 tSt,.box 10 tCh]⟩ .nil))))))) .nil)))))))))) .nil)))))) .nil)))
theorem qci {Q:Bool->Prop} (a:DMo) (b:DMo) (hQ:∃ r,Q r) (h:
 (brV (notB (decide ((szSl a)=(szSl b)))) (Q false) (loopV (DMo×Int×Int×DMo) (fun k0  (i,j,k,l)=>brV (decide (k<j)) (inS i k/\inS l k/\joinV (DMo×Int×Int×Bool×DMo×DSt×DSt) (fun (m,n,o,p,q,r,s)=>brV p (Q false) (loopV (DMo×Int×Int×Option (List DCh)×Int×Int×DMo×DSt) (fun k3  (t,u,v,w,x,y,z,e)=>brV (decide (y<x)) (inS w y/\inS e.2.2 y/\joinV (DMo×Int×Int×Option (List DCh)×Int×Int×Bool×DMo×DSt×DCh×DCh) (fun (f,g,c,d,A,B,C,D,E,F,G)=>brV C (Q false) (loopV (DMo×Int×Int×Option (List DCh)×Int×Int×Option (List DBr)×Int×Int×DMo×DSt×DCh) (fun k6  (H,I,J,K,L,M,N,O,P,R,S,T)=>brV (decide (P<O)) (inS N P/\inS T.2 P/\brV (notB (andB (decide ((eltS ((0:Int),(0:Int),(0:Int)) N P).1=(eltS ((0:Int),(0:Int),(0:Int)) T.2 P).1)) (andB (andB (decide ((eltS ((0:Int),(0:Int),(0:Int)) N P).2.1=(eltS ((0:Int),(0:Int),(0:Int)) T.2 P).2.1)) (andB (decide ((eltS ((0:Int),(0:Int),(0:Int)) N P).2.2=(eltS ((0:Int),(0:Int),(0:Int)) T.2 P).2.2)) true)) true))) (Q false) (k6 (H,I,J,K,L,M,N,O,IntKind.wrap IntKind.i64 (P+(1:Int)),R,S,T))) (k3 (H,I,J,K,L,IntKind.wrap IntKind.i64 (M+(1:Int)),R,S))) (f,g,c,d,A,B,F.2,szSl F.2,(0:Int),D,E,G))) (fun k5=>brV (notB (andB (decide ((eltS (((0:Int),(0:Int)),none) w y).1.1=(eltS (((0:Int),(0:Int)),none) e.2.2 y).1.1)) (andB (decide ((eltS (((0:Int),(0:Int)),none) w y).1.2=(eltS (((0:Int),(0:Int)),none) e.2.2 y).1.2)) true))) (k5 (t,u,v,w,x,y,true,z,e,eltS (((0:Int),(0:Int)),none) w y,eltS (((0:Int),(0:Int)),none) e.2.2 y)) (k5 (t,u,v,w,x,y,notB (decide ((szSl (eltS (((0:Int),(0:Int)),none) w y).2)=(szSl (eltS (((0:Int),(0:Int)),none) e.2.2 y).2))),z,e,eltS (((0:Int),(0:Int)),none) w y,eltS (((0:Int),(0:Int)),none) e.2.2 y)))) (k0 (t,u,IntKind.wrap IntKind.i64 (v+(1:Int)),z))) (m,n,o,r.2.2,szSl r.2.2,(0:Int),q,s))) (fun k2=>brV (notB (decide ((eltS ((0:Int),(0:Int),none) i k).1=(eltS ((0:Int),(0:Int),none) l k).1))) (k2 (i,j,k,true,l,eltS ((0:Int),(0:Int),none) i k,eltS ((0:Int),(0:Int),none) l k)) (brV (notB (decide ((eltS ((0:Int),(0:Int),none) i k).2.1=(eltS ((0:Int),(0:Int),none) l k).2.1))) (k2 (i,j,k,true,l,eltS ((0:Int),(0:Int),none) i k,eltS ((0:Int),(0:Int),none) l k)) (k2 (i,j,k,notB (decide ((szSl (eltS ((0:Int),(0:Int),none) i k).2.2)=(szSl (eltS ((0:Int),(0:Int),none) l k).2.2))),l,eltS ((0:Int),(0:Int),none) i k,eltS ((0:Int),(0:Int),none) l k))))) (Q true)) (a,szSl a,(0:Int),b)))):
 callV Pg q3Q [⟨tMo,a⟩,⟨tMo,b⟩] .bool Q:=
 q02 (c:=q00 Tryz.f33) (ann:=q9e) Tryz.func33 rfl Tryz.call33 rfl rfl hQ (kcast (by kernel_rfl) h)
end Go.Proofs.Pf
namespace Go.Proofs.Pf
open Go Go.VM
set_option maxRecDepth 100000
def q9h:Ann:=(.s (.s (.seq (.s (.blk none (.loop ⟨[(5,.own 1005)],[.var 1 tI,.var 8 tI,.var 9 tI,.arr 1005 tNum]⟩ (.s (.s (.seq (.blk none (.s (.s (.seq (.s (.cond (some ⟨[(5,.own 1005),(7,.ref 7 0)],[.var 1 tI,.var 8 tI,.var 9 tI,.box 7 tNum,.arr 1005 tNum]⟩) .nil .nil)) .nil)))) .nil)))))) .nil)))
theorem qcl {Q:(Option (List (Int×Int)))->Prop} (a:Int) (b:Int) (hQ:∃ r,Q r) (h:
 (loopV (Int×Int×Int×Option (List (Int×Int))) (fun k0  (i,j,k,l)=>brV (decide (k<j)) (joinV (Int×Int×Int×(Int×Int)×Option (List (Int×Int))) (fun (m,n,o,p,q)=>appC 16 q (lst (some [p]))/\k0 (m,n,IntKind.wrap IntKind.i64 (o+(1:Int)),appL q (lst (some [p])))) (fun k2=>brV (decide (k=i)) (k2 (i,j,k,((1:Int),(1:Int)),l)) (k2 (i,j,k,((0:Int),(1:Int)),l)))) (Q l)) (b,a,(0:Int),none))):
 callV Pg q53 [⟨tI,a⟩,⟨tI,b⟩] (.sl tNum) Q:=
 q02 (c:=q00 Tryz.f37) (ann:=q9h) Tryz.func37 rfl Tryz.call37 rfl rfl hQ (kcast (by kernel_rfl) h)
end Go.Proofs.Pf
namespace Go.Proofs.Pf
open Go Go.VM
set_option maxRecDepth 100000
def q8D:Ann:=.nil
theorem qbJ {Q:(Int×Int)->Prop} (a:Int) (b:Int) (hQ:∃ r,Q r) (h:
 (Q (a,b))):
 callV Pg q25 [⟨tI,a⟩,⟨tI,b⟩] tNum Q:=
 q02 (c:=q00 Tryz.f82) (ann:=q8D) Tryz.func82 rfl Tryz.call82 rfl rfl hQ (kcast (by kernel_rfl) h)
def q8C:Ann:=let x:Shape:=⟨[],[]⟩;(.s (.seq (.regL [] [(9,([8],false)),(17,([10,13,16],false))] [(4,⟨⟨[(0,.ref 0 0)],[.var 1 tNum,.var 3 tBr,.var 4 tNum,.box 0 tMo]⟩,x,1000⟩),(8,⟨⟨[(0,.ref 0 0),(8,.own 8)],[.var 1 tNum,.box 0 tMo,.arr 8 tBr]⟩,x,1000⟩),(12,⟨⟨[(0,.ref 0 0)],[.var 11 (.agg (.pair tI (.pair tI (.own 10)))),.var 12 tCh,.box 0 tMo,.arr 10 tCh]⟩,x,1000⟩),(16,⟨⟨[(0,.ref 0 0),(16,.own 16)],[.var 11 (.agg (.pair tI (.pair tI (.own 10)))),.var 14 (.agg (.pair tI (.pair tI (.own 13)))),.box 0 tMo,.arr 10 tCh,.arr 13 tCh,.arr 16 tCh]⟩,x,1000⟩)] none) .nil))
theorem qbI {Q:DMo->Prop} (hQ:∃ r,Q r) (h:
 (callV Pg q25 [⟨tI,(0:Int)⟩,⟨tI,(1:Int)⟩] tNum (fun p0=>callV Pg q25 [⟨tI,(1:Int)⟩,⟨tI,(2:Int)⟩] tNum (fun p1=>callV Pg q25 [⟨tI,(1:Int)⟩,⟨tI,(4:Int)⟩] tNum (fun p2=>joinV ((Int×Int)×DBr×(Int×Int)×DMo) (fun (i,j,k,l)=>callV Pg q25 [⟨tI,(1:Int)⟩,⟨tI,(4:Int)⟩] tNum (fun p4=>joinV ((Int×Int)×DMo×Option (List DBr)) (fun (m,n,o)=>callV Pg q3R [⟨tI,(1:Int)⟩] tCh (fun p6=>joinV ((Int×Int×Unit)×DCh×DMo×Option (List DCh)) (fun (p,q,r,s)=>callV Pg q3R [⟨tI,(2:Int)⟩] tCh (fun p8=>joinV ((Int×Int×Unit)×(Int×Int×Unit)×DMo×Option (List DCh)×Option (List DCh)×Option (List DCh)) (fun (t,u,_,v,w,x)=>Q (some [(t.1,t.2.1,v),(u.1,u.2.1,w),((0:Int),(1:Int),x)])) (fun k9=>k9 ((p.1,p.2.1,()),((0:Int),(0:Int),()),r,s,some [q],some [p8])))) (fun k7=>k7 (((0:Int),(0:Int),()),p6,n,some [(m,o)])))) (fun k5=>k5 (i,l,some [j,((1:Int),k),((2:Int),p4)])))) (fun k3=>k3 (p0,((0:Int),p1),p2,none))))))):
 callV Pg q2L [] tMo Q:=
 q02 (c:=q00 Tryz.f38) (ann:=q8C) Tryz.func38 rfl Tryz.call38 rfl rfl hQ (kcast (by kernel_rfl) h)
def q8H:Ann:=.nil
theorem qbN {Q:(Int×Int)->Prop} (a:Int) (b:Int) (hQ:∃ r,Q r) (h:
 (Q (a,b))):
 callV Pg q26 [⟨tI,a⟩,⟨tI,b⟩] tNum Q:=
 q02 (c:=q00 Tryz.f40) (ann:=q8H) Tryz.func40 rfl Tryz.call40 rfl rfl hQ (kcast (by kernel_rfl) h)
def q8G:Ann:=(.s (.seq (.reg [] [] (some ⟨[],[.var 6 .bool]⟩)) .nil))
theorem qbM {Q:Bool->Prop} (a:DMo) (b:(Option (List (Int×Int)))) (c:DL) (hQ:∃ r,Q r) (h:
 (joinV Bool (fun p0=>Q p0) (fun k0=>callV Pg q51 [⟨tI,(7:Int)⟩,⟨tMo,a⟩] .bool (fun p1=>brV p1 (brV (decide ((szSl b)<=(60:Int))) (brV (decide ((szSl c)<=(12:Int))) (k0 true) (brV (decide ((200:Int)<(szSl c))) (k0 (decide ((szSl c)<=(260:Int)))) (k0 false))) (k0 false)) (k0 false))))):
 callV Pg q4I [⟨tMo,a⟩,⟨(.sl tNum),b⟩,⟨tL,c⟩] .bool Q:=
 q02 (c:=q00 Tryz.f6) (ann:=q8G) Tryz.func6 rfl Tryz.call6 rfl rfl hQ (kcast (by kernel_rfl) h)
def q8F:Ann:=(.s (.s (.s (.seq (.reg [] [(3,([19],false))] none) (.s (.seq (.reg [] [] (some ⟨[],[.var 0 .bool]⟩)) .nil))))))
theorem qbL {Q:Bool->Prop} (hQ:∃ r,Q r) (h:
 (callV Pg q53 [⟨tI,(3:Int)⟩,⟨tI,(0:Int)⟩] (.sl tNum) (fun p0=>callV Pg q2L [] tMo (fun p1=>callV Pg q2T [⟨tMo,p1⟩,⟨.sl tNum,p0⟩,⟨tL,some [(0:Int),(0:Int),(1:Int)]⟩] (.tup (.pair tNum (.pair tI .unit))) (fun p2=>callV Pg q2L [] tMo (fun p3=>callV Pg q2a [⟨tMo,p3⟩,⟨.sl tNum,p0⟩,⟨tL,some [(0:Int),(0:Int)]⟩] (.tup (.pair (.sl tNum) (.pair tI .unit))) (fun p4=>callV Pg q2L [] tMo (fun p5=>callV Pg q29 [⟨tMo,p5⟩,⟨tI,(0:Int)⟩,⟨tI,(1:Int)⟩] (.tup (.pair tL (.pair tI .unit))) (fun p6=>joinV Bool (fun p7=>Q p7) (fun k7=>brV (decide (p2.2.1=(0:Int))) (callV Pg q26 [⟨tI,(1:Int)⟩,⟨tI,(8:Int)⟩] tNum (fun p8=>brV (andB (decide (p2.1.1=p8.1)) (andB (decide (p2.1.2=p8.2)) true)) (brV (decide (p4.2.1=(0:Int))) (callV Pg q26 [⟨tI,(2:Int)⟩,⟨tI,(3:Int)⟩] tNum (fun p9=>callV Pg q26 [⟨tI,(1:Int)⟩,⟨tI,(3:Int)⟩] tNum (fun p10=>callV Pg q26 [⟨tI,(0:Int)⟩,⟨tI,(1:Int)⟩] tNum (fun p11=>callV Pg q2R [⟨.sl tNum,p4.1⟩,⟨.sl tNum,some [p9,p10,p11]⟩] .bool (fun p12=>brV p12 (brV (decide (p6.2.1=(0:Int))) (callV Pg q2Q [⟨tL,p6.1⟩,⟨tL,some [(0:Int),(0:Int)]⟩] .bool (fun p13=>k7 p13)) (k7 false)) (k7 false)))))) (k7 false)) (k7 false))) (k7 false))))))))))):
 callV Pg q3N [] .bool Q:=
 q02 (c:=q00 Tryz.f7) (ann:=q8F) Tryz.func7 rfl Tryz.call7 rfl rfl hQ (kcast (by kernel_rfl) h)
end Go.Proofs.Pf
