/- Typed pure data, a condition on code that says what a call gives, what the code of each function comes to, and what each function gives. -/
import Derived.Test.YtfifpjkegdkdpaaGreatProg
import Derived.Test.YtfifpjkegdkdpaaGreatA6
import Derived.Test.YtfifpjkegdkdpaaGreatA8
set_option linter.unusedVariables false
set_option linter.unusedSimpArgs false
set_option linter.unnecessarySimpa false
namespace Go.Proofs.Pf
open Go Go.VM
abbrev tEI:Ty:=.agg (.pair (.int .i64) (.sl (.int .u32)))
abbrev tER:Ty:=.agg (.pair tEI tEI)
abbrev tNum:Ty:=.agg (.pair (.int .i64) (.int .i64))
abbrev tI:Ty:=.int .i64
abbrev tD:Ty:=.sl (.int .u32)
abbrev tU:Ty:=.int .u32
abbrev tL:Ty:=.sl tI
abbrev tRI:Ty:=.agg (.pair tI (.pair .bool tL))
abbrev tRR:Ty:=.agg (.pair tRI tRI)
abbrev tBr:Ty:=.agg (.pair tI tNum)
abbrev tCh:Ty:=.agg (.pair tNum (.sl tBr))
abbrev tSt:Ty:=.agg (.pair tI (.pair tI (.sl tCh)))
abbrev tMo:Ty:=.agg (.sl tSt)
abbrev DL:=Option (List Int)
abbrev DBr:=Int×(Int×Int)
abbrev DCh:=(Int×Int)×Option (List DBr)
abbrev DSt:=Int×(Int×Option (List DCh))
abbrev DMo:=Option (List DSt)
abbrev DE:=Int×Option (List Int)
abbrev DR:=DE×DE
abbrev DRI:=Int×(Bool×Option (List Int))
abbrev DRR:=DRI×DRI
def q01 (fn:Func):Code:=match fn.body with | some c=>c | none=>.skip
theorem kcast {a b:Prop} (h:a=b) (hb:b):a:=h ▸ hb
def bytesL (l:List Nat):ByteArray:=⟨⟨l.map UInt8.ofNat⟩⟩
noncomputable abbrev Pg:Program:=Go.Proofs.Tryz.prog
abbrev q3W:FuncId:=3
noncomputable abbrev q7m:Func:=Go.Proofs.Tryz.f3
theorem qd0:Pg.funcs[q3W]?=some q7m:=Go.Proofs.Tryz.func3
theorem qfk:∀ args w,(callFunc q3W args).run Pg w=.ok (.enter q3W args) w:=Go.Proofs.Tryz.call3
abbrev q2R:FuncId:=6
noncomputable abbrev q7o:Func:=Go.Proofs.Tryz.f6
theorem qd2:Pg.funcs[q2R]?=some q7o:=Go.Proofs.Tryz.func6
theorem qfm:∀ args w,(callFunc q2R args).run Pg w=.ok (.enter q2R args) w:=Go.Proofs.Tryz.call6
abbrev q0F:FuncId:=7
noncomputable abbrev q7n:Func:=Go.Proofs.Tryz.f7
theorem qd1:Pg.funcs[q0F]?=some q7n:=Go.Proofs.Tryz.func7
theorem qfl:∀ args w,(callFunc q0F args).run Pg w=.ok (.enter q0F args) w:=Go.Proofs.Tryz.call7
abbrev q1J:FuncId:=8
noncomputable abbrev q8w:Func:=Go.Proofs.Tryz.f8
theorem qe8:Pg.funcs[q1J]?=some q8w:=Go.Proofs.Tryz.func8
theorem qgs:∀ args w,(callFunc q1J args).run Pg w=.ok (.enter q1J args) w:=Go.Proofs.Tryz.call8
abbrev q2s:FuncId:=9
noncomputable abbrev q8z:Func:=Go.Proofs.Tryz.f9
theorem qeb:Pg.funcs[q2s]?=some q8z:=Go.Proofs.Tryz.func9
theorem qgv:∀ args w,(callFunc q2s args).run Pg w=.ok (.enter q2s args) w:=Go.Proofs.Tryz.call9
abbrev q3p:FuncId:=10
noncomputable abbrev q8y:Func:=Go.Proofs.Tryz.f10
theorem qea:Pg.funcs[q3p]?=some q8y:=Go.Proofs.Tryz.func10
theorem qgu:∀ args w,(callFunc q3p args).run Pg w=.ok (.enter q3p args) w:=Go.Proofs.Tryz.call10
abbrev q1l:FuncId:=11
noncomputable abbrev q7r:Func:=Go.Proofs.Tryz.f11
theorem qd5:Pg.funcs[q1l]?=some q7r:=Go.Proofs.Tryz.func11
theorem qfp:∀ args w,(callFunc q1l args).run Pg w=.ok (.enter q1l args) w:=Go.Proofs.Tryz.call11
abbrev q0r:FuncId:=12
noncomputable abbrev q80:Func:=Go.Proofs.Tryz.f12
theorem qdC:Pg.funcs[q0r]?=some q80:=Go.Proofs.Tryz.func12
theorem qfW:∀ args w,(callFunc q0r args).run Pg w=.ok (.enter q0r args) w:=Go.Proofs.Tryz.call12
abbrev q0n:FuncId:=13
noncomputable abbrev q88:Func:=Go.Proofs.Tryz.f13
theorem qdK:Pg.funcs[q0n]?=some q88:=Go.Proofs.Tryz.func13
theorem qg4:∀ args w,(callFunc q0n args).run Pg w=.ok (.enter q0n args) w:=Go.Proofs.Tryz.call13
abbrev q0g:FuncId:=14
noncomputable abbrev q87:Func:=Go.Proofs.Tryz.f14
theorem qdJ:Pg.funcs[q0g]?=some q87:=Go.Proofs.Tryz.func14
theorem qg3:∀ args w,(callFunc q0g args).run Pg w=.ok (.enter q0g args) w:=Go.Proofs.Tryz.call14
abbrev q2m:FuncId:=15
noncomputable abbrev q85:Func:=Go.Proofs.Tryz.f15
theorem qdH:Pg.funcs[q2m]?=some q85:=Go.Proofs.Tryz.func15
theorem qg1:∀ args w,(callFunc q2m args).run Pg w=.ok (.enter q2m args) w:=Go.Proofs.Tryz.call15
abbrev q3q:FuncId:=16
noncomputable abbrev q8A:Func:=Go.Proofs.Tryz.f16
theorem qec:Pg.funcs[q3q]?=some q8A:=Go.Proofs.Tryz.func16
theorem qgw:∀ args w,(callFunc q3q args).run Pg w=.ok (.enter q3q args) w:=Go.Proofs.Tryz.call16
abbrev q2n:FuncId:=17
noncomputable abbrev q86:Func:=Go.Proofs.Tryz.f17
theorem qdI:Pg.funcs[q2n]?=some q86:=Go.Proofs.Tryz.func17
theorem qg2:∀ args w,(callFunc q2n args).run Pg w=.ok (.enter q2n args) w:=Go.Proofs.Tryz.call17
abbrev q3o:FuncId:=18
noncomputable abbrev q8x:Func:=Go.Proofs.Tryz.f18
theorem qe9:Pg.funcs[q3o]?=some q8x:=Go.Proofs.Tryz.func18
theorem qgt:∀ args w,(callFunc q3o args).run Pg w=.ok (.enter q3o args) w:=Go.Proofs.Tryz.call18
abbrev q2d:FuncId:=19
noncomputable abbrev q7q:Func:=Go.Proofs.Tryz.f19
theorem qd4:Pg.funcs[q2d]?=some q7q:=Go.Proofs.Tryz.func19
theorem qfo:∀ args w,(callFunc q2d args).run Pg w=.ok (.enter q2d args) w:=Go.Proofs.Tryz.call19
abbrev q38:FuncId:=28
noncomputable abbrev q7X:Func:=Go.Proofs.Tryz.f28
theorem qdz:Pg.funcs[q38]?=some q7X:=Go.Proofs.Tryz.func28
theorem qfT:∀ args w,(callFunc q38 args).run Pg w=.ok (.enter q38 args) w:=Go.Proofs.Tryz.call28
abbrev q3d:FuncId:=36
noncomputable abbrev q8h:Func:=Go.Proofs.Tryz.f36
theorem qdT:Pg.funcs[q3d]?=some q8h:=Go.Proofs.Tryz.func36
theorem qgd:∀ args w,(callFunc q3d args).run Pg w=.ok (.enter q3d args) w:=Go.Proofs.Tryz.call36
abbrev q3e:FuncId:=37
noncomputable abbrev q8j:Func:=Go.Proofs.Tryz.f37
theorem qdV:Pg.funcs[q3e]?=some q8j:=Go.Proofs.Tryz.func37
theorem qgf:∀ args w,(callFunc q3e args).run Pg w=.ok (.enter q3e args) w:=Go.Proofs.Tryz.call37
abbrev q1C:FuncId:=38
noncomputable abbrev q7k:Func:=Go.Proofs.Tryz.f38
theorem qcY:Pg.funcs[q1C]?=some q7k:=Go.Proofs.Tryz.func38
theorem qfi:∀ args w,(callFunc q1C args).run Pg w=.ok (.enter q1C args) w:=Go.Proofs.Tryz.call38
abbrev q3n:FuncId:=39
noncomputable abbrev q8v:Func:=Go.Proofs.Tryz.f39
theorem qe7:Pg.funcs[q3n]?=some q8v:=Go.Proofs.Tryz.func39
theorem qgr:∀ args w,(callFunc q3n args).run Pg w=.ok (.enter q3n args) w:=Go.Proofs.Tryz.call39
abbrev q1k:FuncId:=40
noncomputable abbrev q7p:Func:=Go.Proofs.Tryz.f40
theorem qd3:Pg.funcs[q1k]?=some q7p:=Go.Proofs.Tryz.func40
theorem qfn:∀ args w,(callFunc q1k args).run Pg w=.ok (.enter q1k args) w:=Go.Proofs.Tryz.call40
abbrev q14:FuncId:=41
noncomputable abbrev q8B:Func:=Go.Proofs.Tryz.f41
theorem qed:Pg.funcs[q14]?=some q8B:=Go.Proofs.Tryz.func41
theorem qgx:∀ args w,(callFunc q14 args).run Pg w=.ok (.enter q14 args) w:=Go.Proofs.Tryz.call41
abbrev q1D:FuncId:=42
noncomputable abbrev q7I:Func:=Go.Proofs.Tryz.f42
theorem e_num_Out:Pg.funcs[q1D]?=some q7I:=Go.Proofs.Tryz.func42
theorem r_num_Out:∀ args w,(callFunc q1D args).run Pg w=.ok (.enter q1D args) w:=Go.Proofs.Tryz.call42
abbrev q1p:FuncId:=43
noncomputable abbrev q8N:Func:=Go.Proofs.Tryz.f43
theorem qep:Pg.funcs[q1p]?=some q8N:=Go.Proofs.Tryz.func43
theorem qgJ:∀ args w,(callFunc q1p args).run Pg w=.ok (.enter q1p args) w:=Go.Proofs.Tryz.call43
abbrev q1n:FuncId:=44
noncomputable abbrev q8J:Func:=Go.Proofs.Tryz.f44
theorem qel:Pg.funcs[q1n]?=some q8J:=Go.Proofs.Tryz.func44
theorem qgF:∀ args w,(callFunc q1n args).run Pg w=.ok (.enter q1n args) w:=Go.Proofs.Tryz.call44
abbrev q0Q:FuncId:=45
noncomputable abbrev q7L:Func:=Go.Proofs.Tryz.f45
theorem qdn:Pg.funcs[q0Q]?=some q7L:=Go.Proofs.Tryz.func45
theorem qfH:∀ args w,(callFunc q0Q args).run Pg w=.ok (.enter q0Q args) w:=Go.Proofs.Tryz.call45
abbrev q1K:FuncId:=46
noncomputable abbrev q8E:Func:=Go.Proofs.Tryz.f46
theorem qeg:Pg.funcs[q1K]?=some q8E:=Go.Proofs.Tryz.func46
theorem qgA:∀ args w,(callFunc q1K args).run Pg w=.ok (.enter q1K args) w:=Go.Proofs.Tryz.call46
abbrev q0U:FuncId:=47
noncomputable abbrev q5v:Func:=Go.Proofs.Tryz.f47
theorem q6I:Pg.funcs[q0U]?=some q5v:=Go.Proofs.Tryz.func47
theorem q9t:∀ args w,(callFunc q0U args).run Pg w=.ok (.enter q0U args) w:=Go.Proofs.Tryz.call47
abbrev q0D:FuncId:=48
noncomputable abbrev q6M:Func:=Go.Proofs.Tryz.f48
theorem qcq:Pg.funcs[q0D]?=some q6M:=Go.Proofs.Tryz.func48
theorem qeK:∀ args w,(callFunc q0D args).run Pg w=.ok (.enter q0D args) w:=Go.Proofs.Tryz.call48
abbrev q05:FuncId:=49
noncomputable abbrev q8O:Func:=Go.Proofs.Tryz.f49
theorem qeq:Pg.funcs[q05]?=some q8O:=Go.Proofs.Tryz.func49
theorem qgK:∀ args w,(callFunc q05 args).run Pg w=.ok (.enter q05 args) w:=Go.Proofs.Tryz.call49
abbrev q0x:FuncId:=50
noncomputable abbrev q6Z:Func:=Go.Proofs.Tryz.f50
theorem qcD:Pg.funcs[q0x]?=some q6Z:=Go.Proofs.Tryz.func50
theorem qeX:∀ args w,(callFunc q0x args).run Pg w=.ok (.enter q0x args) w:=Go.Proofs.Tryz.call50
abbrev q2k:FuncId:=51
noncomputable abbrev q83:Func:=Go.Proofs.Tryz.f51
theorem qdF:Pg.funcs[q2k]?=some q83:=Go.Proofs.Tryz.func51
theorem qfZ:∀ args w,(callFunc q2k args).run Pg w=.ok (.enter q2k args) w:=Go.Proofs.Tryz.call51
abbrev q39:FuncId:=52
noncomputable abbrev q81:Func:=Go.Proofs.Tryz.f52
theorem qdD:Pg.funcs[q39]?=some q81:=Go.Proofs.Tryz.func52
theorem qfX:∀ args w,(callFunc q39 args).run Pg w=.ok (.enter q39 args) w:=Go.Proofs.Tryz.call52
abbrev q2l:FuncId:=53
noncomputable abbrev q84:Func:=Go.Proofs.Tryz.f53
theorem qdG:Pg.funcs[q2l]?=some q84:=Go.Proofs.Tryz.func53
theorem qg0:∀ args w,(callFunc q2l args).run Pg w=.ok (.enter q2l args) w:=Go.Proofs.Tryz.call53
abbrev q0S:FuncId:=54
noncomputable abbrev q7Z:Func:=Go.Proofs.Tryz.f54
theorem qdB:Pg.funcs[q0S]?=some q7Z:=Go.Proofs.Tryz.func54
theorem qfV:∀ args w,(callFunc q0S args).run Pg w=.ok (.enter q0S args) w:=Go.Proofs.Tryz.call54
abbrev q2j:FuncId:=55
noncomputable abbrev q7Y:Func:=Go.Proofs.Tryz.f55
theorem qdA:Pg.funcs[q2j]?=some q7Y:=Go.Proofs.Tryz.func55
theorem qfU:∀ args w,(callFunc q2j args).run Pg w=.ok (.enter q2j args) w:=Go.Proofs.Tryz.call55
abbrev q13:FuncId:=56
noncomputable abbrev q7V:Func:=Go.Proofs.Tryz.f56
theorem qdx:Pg.funcs[q13]?=some q7V:=Go.Proofs.Tryz.func56
theorem qfR:∀ args w,(callFunc q13 args).run Pg w=.ok (.enter q13 args) w:=Go.Proofs.Tryz.call56
abbrev q0V:FuncId:=57
noncomputable abbrev q8L:Func:=Go.Proofs.Tryz.f57
theorem qen:Pg.funcs[q0V]?=some q8L:=Go.Proofs.Tryz.func57
theorem qgH:∀ args w,(callFunc q0V args).run Pg w=.ok (.enter q0V args) w:=Go.Proofs.Tryz.call57
abbrev q1o:FuncId:=58
noncomputable abbrev q8M:Func:=Go.Proofs.Tryz.f58
theorem qeo:Pg.funcs[q1o]?=some q8M:=Go.Proofs.Tryz.func58
theorem qgI:∀ args w,(callFunc q1o args).run Pg w=.ok (.enter q1o args) w:=Go.Proofs.Tryz.call58
abbrev q2u:FuncId:=59
noncomputable abbrev q8D:Func:=Go.Proofs.Tryz.f59
theorem qef:Pg.funcs[q2u]?=some q8D:=Go.Proofs.Tryz.func59
theorem qgz:∀ args w,(callFunc q2u args).run Pg w=.ok (.enter q2u args) w:=Go.Proofs.Tryz.call59
abbrev q0E:FuncId:=60
noncomputable abbrev q73:Func:=Go.Proofs.Tryz.f60
theorem qcH:Pg.funcs[q0E]?=some q73:=Go.Proofs.Tryz.func60
theorem qf1:∀ args w,(callFunc q0E args).run Pg w=.ok (.enter q0E args) w:=Go.Proofs.Tryz.call60
abbrev q2t:FuncId:=61
noncomputable abbrev q8C:Func:=Go.Proofs.Tryz.f61
theorem qee:Pg.funcs[q2t]?=some q8C:=Go.Proofs.Tryz.func61
theorem qgy:∀ args w,(callFunc q2t args).run Pg w=.ok (.enter q2t args) w:=Go.Proofs.Tryz.call61
abbrev q1e:FuncId:=62
noncomputable abbrev q70:Func:=Go.Proofs.Tryz.f62
theorem qcE:Pg.funcs[q1e]?=some q70:=Go.Proofs.Tryz.func62
theorem qeY:∀ args w,(callFunc q1e args).run Pg w=.ok (.enter q1e args) w:=Go.Proofs.Tryz.call62
abbrev q0m:FuncId:=63
noncomputable abbrev q75:Func:=Go.Proofs.Tryz.f63
theorem qcJ:Pg.funcs[q0m]?=some q75:=Go.Proofs.Tryz.func63
theorem qf3:∀ args w,(callFunc q0m args).run Pg w=.ok (.enter q0m args) w:=Go.Proofs.Tryz.call63
abbrev q1j:FuncId:=82
noncomputable abbrev q7l:Func:=Go.Proofs.Tryz.f82
theorem qcZ:Pg.funcs[q1j]?=some q7l:=Go.Proofs.Tryz.func82
theorem qfj:∀ args w,(callFunc q1j args).run Pg w=.ok (.enter q1j args) w:=Go.Proofs.Tryz.call82
abbrev q2q:FuncId:=83
noncomputable abbrev q8i:Func:=Go.Proofs.Tryz.f83
theorem qdU:Pg.funcs[q2q]?=some q8i:=Go.Proofs.Tryz.func83
theorem qge:∀ args w,(callFunc q2q args).run Pg w=.ok (.enter q2q args) w:=Go.Proofs.Tryz.call83
abbrev q2h:FuncId:=84
noncomputable abbrev q7G:Func:=Go.Proofs.Tryz.f84
theorem qdk:Pg.funcs[q2h]?=some q7G:=Go.Proofs.Tryz.func84
theorem qfE:∀ args w,(callFunc q2h args).run Pg w=.ok (.enter q2h args) w:=Go.Proofs.Tryz.call84
abbrev q2g:FuncId:=85
noncomputable abbrev q7E:Func:=Go.Proofs.Tryz.f85
theorem qdi:Pg.funcs[q2g]?=some q7E:=Go.Proofs.Tryz.func85
theorem qfC:∀ args w,(callFunc q2g args).run Pg w=.ok (.enter q2g args) w:=Go.Proofs.Tryz.call85
abbrev q2a:FuncId:=86
noncomputable abbrev q76:Func:=Go.Proofs.Tryz.f86
theorem qcK:Pg.funcs[q2a]?=some q76:=Go.Proofs.Tryz.func86
theorem qf4:∀ args w,(callFunc q2a args).run Pg w=.ok (.enter q2a args) w:=Go.Proofs.Tryz.call86
abbrev q3r:FuncId:=87
noncomputable abbrev q8F:Func:=Go.Proofs.Tryz.f87
theorem qeh:Pg.funcs[q3r]?=some q8F:=Go.Proofs.Tryz.func87
theorem qgB:∀ args w,(callFunc q3r args).run Pg w=.ok (.enter q3r args) w:=Go.Proofs.Tryz.call87
abbrev q3u:FuncId:=88
noncomputable abbrev q8K:Func:=Go.Proofs.Tryz.f88
theorem qem:Pg.funcs[q3u]?=some q8K:=Go.Proofs.Tryz.func88
theorem qgG:∀ args w,(callFunc q3u args).run Pg w=.ok (.enter q3u args) w:=Go.Proofs.Tryz.call88
abbrev q3h:FuncId:=89
noncomputable abbrev q8m:Func:=Go.Proofs.Tryz.f89
theorem qdY:Pg.funcs[q3h]?=some q8m:=Go.Proofs.Tryz.func89
theorem qgi:∀ args w,(callFunc q3h args).run Pg w=.ok (.enter q3h args) w:=Go.Proofs.Tryz.call89
abbrev q3s:FuncId:=90
noncomputable abbrev q8G:Func:=Go.Proofs.Tryz.f90
theorem qei:Pg.funcs[q3s]?=some q8G:=Go.Proofs.Tryz.func90
theorem qgC:∀ args w,(callFunc q3s args).run Pg w=.ok (.enter q3s args) w:=Go.Proofs.Tryz.call90
abbrev q3t:FuncId:=91
noncomputable abbrev q8H:Func:=Go.Proofs.Tryz.f91
theorem qej:Pg.funcs[q3t]?=some q8H:=Go.Proofs.Tryz.func91
theorem qgD:∀ args w,(callFunc q3t args).run Pg w=.ok (.enter q3t args) w:=Go.Proofs.Tryz.call91
abbrev q2N:FuncId:=92
noncomputable abbrev q77:Func:=Go.Proofs.Tryz.f92
theorem qcL:Pg.funcs[q2N]?=some q77:=Go.Proofs.Tryz.func92
theorem qf5:∀ args w,(callFunc q2N args).run Pg w=.ok (.enter q2N args) w:=Go.Proofs.Tryz.call92
abbrev q1x:FuncId:=93
noncomputable abbrev q6S:Func:=Go.Proofs.Tryz.f93
theorem qcw:Pg.funcs[q1x]?=some q6S:=Go.Proofs.Tryz.func93
theorem qeQ:∀ args w,(callFunc q1x args).run Pg w=.ok (.enter q1x args) w:=Go.Proofs.Tryz.call93
abbrev q0q:FuncId:=94
noncomputable abbrev q72:Func:=Go.Proofs.Tryz.f94
theorem qcG:Pg.funcs[q0q]?=some q72:=Go.Proofs.Tryz.func94
theorem qf0:∀ args w,(callFunc q0q args).run Pg w=.ok (.enter q0q args) w:=Go.Proofs.Tryz.call94
abbrev q1m:FuncId:=95
noncomputable abbrev q7K:Func:=Go.Proofs.Tryz.f95
theorem e_num_Rat:Pg.funcs[q1m]?=some q7K:=Go.Proofs.Tryz.func95
theorem r_num_Rat:∀ args w,(callFunc q1m args).run Pg w=.ok (.enter q1m args) w:=Go.Proofs.Tryz.call95
abbrev q29:FuncId:=96
noncomputable abbrev q71:Func:=Go.Proofs.Tryz.f96
theorem qcF:Pg.funcs[q29]?=some q71:=Go.Proofs.Tryz.func96
theorem qeZ:∀ args w,(callFunc q29 args).run Pg w=.ok (.enter q29 args) w:=Go.Proofs.Tryz.call96
abbrev q33:FuncId:=97
noncomputable abbrev q7J:Func:=Go.Proofs.Tryz.f97
theorem qdm:Pg.funcs[q33]?=some q7J:=Go.Proofs.Tryz.func97
theorem qfG:∀ args w,(callFunc q33 args).run Pg w=.ok (.enter q33 args) w:=Go.Proofs.Tryz.call97
abbrev q1f:FuncId:=98
noncomputable abbrev q78:Func:=Go.Proofs.Tryz.f98
theorem qcM:Pg.funcs[q1f]?=some q78:=Go.Proofs.Tryz.func98
theorem qf6:∀ args w,(callFunc q1f args).run Pg w=.ok (.enter q1f args) w:=Go.Proofs.Tryz.call98
abbrev q28:FuncId:=99
noncomputable abbrev q6R:Func:=Go.Proofs.Tryz.f99
theorem qcv:Pg.funcs[q28]?=some q6R:=Go.Proofs.Tryz.func99
theorem qeP:∀ args w,(callFunc q28 args).run Pg w=.ok (.enter q28 args) w:=Go.Proofs.Tryz.call99
abbrev q1g:FuncId:=100
noncomputable abbrev q79:Func:=Go.Proofs.Tryz.f100
theorem qcN:Pg.funcs[q1g]?=some q79:=Go.Proofs.Tryz.func100
theorem qf7:∀ args w,(callFunc q1g args).run Pg w=.ok (.enter q1g args) w:=Go.Proofs.Tryz.call100
abbrev q0v:FuncId:=101
noncomputable abbrev q6T:Func:=Go.Proofs.Tryz.f101
theorem qcx:Pg.funcs[q0v]?=some q6T:=Go.Proofs.Tryz.func101
theorem qeR:∀ args w,(callFunc q0v args).run Pg w=.ok (.enter q0v args) w:=Go.Proofs.Tryz.call101
abbrev q2i:FuncId:=102
noncomputable abbrev q7T:Func:=Go.Proofs.Tryz.f102
theorem qdv:Pg.funcs[q2i]?=some q7T:=Go.Proofs.Tryz.func102
theorem qfP:∀ args w,(callFunc q2i args).run Pg w=.ok (.enter q2i args) w:=Go.Proofs.Tryz.call102
abbrev q3a:FuncId:=103
noncomputable abbrev q82:Func:=Go.Proofs.Tryz.f103
theorem qdE:Pg.funcs[q3a]?=some q82:=Go.Proofs.Tryz.func103
theorem qfY:∀ args w,(callFunc q3a args).run Pg w=.ok (.enter q3a args) w:=Go.Proofs.Tryz.call103
abbrev q0f:FuncId:=104
noncomputable abbrev q7U:Func:=Go.Proofs.Tryz.f104
theorem qdw:Pg.funcs[q0f]?=some q7U:=Go.Proofs.Tryz.func104
theorem qfQ:∀ args w,(callFunc q0f args).run Pg w=.ok (.enter q0f args) w:=Go.Proofs.Tryz.call104
abbrev q12:FuncId:=105
noncomputable abbrev q7R:Func:=Go.Proofs.Tryz.f105
theorem qdt:Pg.funcs[q12]?=some q7R:=Go.Proofs.Tryz.func105
theorem qfN:∀ args w,(callFunc q12 args).run Pg w=.ok (.enter q12 args) w:=Go.Proofs.Tryz.call105
abbrev q34:FuncId:=106
noncomputable abbrev q7N:Func:=Go.Proofs.Tryz.f106
theorem qdp:Pg.funcs[q34]?=some q7N:=Go.Proofs.Tryz.func106
theorem qfJ:∀ args w,(callFunc q34 args).run Pg w=.ok (.enter q34 args) w:=Go.Proofs.Tryz.call106
abbrev q36:FuncId:=107
noncomputable abbrev q7P:Func:=Go.Proofs.Tryz.f107
theorem qdr:Pg.funcs[q36]?=some q7P:=Go.Proofs.Tryz.func107
theorem qfL:∀ args w,(callFunc q36 args).run Pg w=.ok (.enter q36 args) w:=Go.Proofs.Tryz.call107
abbrev q1F:FuncId:=108
noncomputable abbrev q7S:Func:=Go.Proofs.Tryz.f108
theorem qdu:Pg.funcs[q1F]?=some q7S:=Go.Proofs.Tryz.func108
theorem qfO:∀ args w,(callFunc q1F args).run Pg w=.ok (.enter q1F args) w:=Go.Proofs.Tryz.call108
abbrev q0R:FuncId:=109
noncomputable abbrev q7W:Func:=Go.Proofs.Tryz.f109
theorem qdy:Pg.funcs[q0R]?=some q7W:=Go.Proofs.Tryz.func109
theorem qfS:∀ args w,(callFunc q0R args).run Pg w=.ok (.enter q0R args) w:=Go.Proofs.Tryz.call109
abbrev q0T:FuncId:=110
noncomputable abbrev q8c:Func:=Go.Proofs.Tryz.f110
theorem qdO:Pg.funcs[q0T]?=some q8c:=Go.Proofs.Tryz.func110
theorem qg8:∀ args w,(callFunc q0T args).run Pg w=.ok (.enter q0T args) w:=Go.Proofs.Tryz.call110
abbrev q1h:FuncId:=111
noncomputable abbrev q7a:Func:=Go.Proofs.Tryz.f111
theorem qcO:Pg.funcs[q1h]?=some q7a:=Go.Proofs.Tryz.func111
theorem qf8:∀ args w,(callFunc q1h args).run Pg w=.ok (.enter q1h args) w:=Go.Proofs.Tryz.call111
abbrev q0O:FuncId:=112
noncomputable abbrev q6W:Func:=Go.Proofs.Tryz.f112
theorem qcA:Pg.funcs[q0O]?=some q6W:=Go.Proofs.Tryz.func112
theorem qeU:∀ args w,(callFunc q0O args).run Pg w=.ok (.enter q0O args) w:=Go.Proofs.Tryz.call112
abbrev q32:FuncId:=124
noncomputable abbrev q7H:Func:=Go.Proofs.Tryz.f124
theorem qdl:Pg.funcs[q32]?=some q7H:=Go.Proofs.Tryz.func124
theorem qfF:∀ args w,(callFunc q32 args).run Pg w=.ok (.enter q32 args) w:=Go.Proofs.Tryz.call124
abbrev q3X:FuncId:=125
noncomputable abbrev q8o:Func:=Go.Proofs.Tryz.f125
theorem qe0:Pg.funcs[q3X]?=some q8o:=Go.Proofs.Tryz.func125
theorem qgk:∀ args w,(callFunc q3X args).run Pg w=.ok (.enter q3X args) w:=Go.Proofs.Tryz.call125
abbrev q0G:FuncId:=126
noncomputable abbrev q7F:Func:=Go.Proofs.Tryz.f126
theorem qdj:Pg.funcs[q0G]?=some q7F:=Go.Proofs.Tryz.func126
theorem qfD:∀ args w,(callFunc q0G args).run Pg w=.ok (.enter q0G args) w:=Go.Proofs.Tryz.call126
abbrev q1z:FuncId:=127
noncomputable abbrev q74:Func:=Go.Proofs.Tryz.f127
theorem qcI:Pg.funcs[q1z]?=some q74:=Go.Proofs.Tryz.func127
theorem qf2:∀ args w,(callFunc q1z args).run Pg w=.ok (.enter q1z args) w:=Go.Proofs.Tryz.call127
abbrev q2Z:FuncId:=128
noncomputable abbrev q7A:Func:=Go.Proofs.Tryz.f128
theorem qde:Pg.funcs[q2Z]?=some q7A:=Go.Proofs.Tryz.func128
theorem qfy:∀ args w,(callFunc q2Z args).run Pg w=.ok (.enter q2Z args) w:=Go.Proofs.Tryz.call128
abbrev q3l:FuncId:=129
noncomputable abbrev q8s:Func:=Go.Proofs.Tryz.f129
theorem qe4:Pg.funcs[q3l]?=some q8s:=Go.Proofs.Tryz.func129
theorem qgo:∀ args w,(callFunc q3l args).run Pg w=.ok (.enter q3l args) w:=Go.Proofs.Tryz.call129
abbrev q3i:FuncId:=130
noncomputable abbrev q8n:Func:=Go.Proofs.Tryz.f130
theorem qdZ:Pg.funcs[q3i]?=some q8n:=Go.Proofs.Tryz.func130
theorem qgj:∀ args w,(callFunc q3i args).run Pg w=.ok (.enter q3i args) w:=Go.Proofs.Tryz.call130
abbrev q1E:FuncId:=131
noncomputable abbrev q7M:Func:=Go.Proofs.Tryz.f131
theorem qdo:Pg.funcs[q1E]?=some q7M:=Go.Proofs.Tryz.func131
theorem qfI:∀ args w,(callFunc q1E args).run Pg w=.ok (.enter q1E args) w:=Go.Proofs.Tryz.call131
abbrev q3Y:FuncId:=132
noncomputable abbrev q8p:Func:=Go.Proofs.Tryz.f132
theorem qe1:Pg.funcs[q3Y]?=some q8p:=Go.Proofs.Tryz.func132
theorem qgl:∀ args w,(callFunc q3Y args).run Pg w=.ok (.enter q3Y args) w:=Go.Proofs.Tryz.call132
abbrev q0H:FuncId:=133
noncomputable abbrev q8I:Func:=Go.Proofs.Tryz.f133
theorem qek:Pg.funcs[q0H]?=some q8I:=Go.Proofs.Tryz.func133
theorem qgE:∀ args w,(callFunc q0H args).run Pg w=.ok (.enter q0H args) w:=Go.Proofs.Tryz.call133
abbrev q2P:FuncId:=134
noncomputable abbrev q7f:Func:=Go.Proofs.Tryz.f134
theorem qcT:Pg.funcs[q2P]?=some q7f:=Go.Proofs.Tryz.func134
theorem qfd:∀ args w,(callFunc q2P args).run Pg w=.ok (.enter q2P args) w:=Go.Proofs.Tryz.call134
abbrev q0P:FuncId:=135
noncomputable abbrev q6Y:Func:=Go.Proofs.Tryz.f135
theorem qcC:Pg.funcs[q0P]?=some q6Y:=Go.Proofs.Tryz.func135
theorem qeW:∀ args w,(callFunc q0P args).run Pg w=.ok (.enter q0P args) w:=Go.Proofs.Tryz.call135
abbrev q0w:FuncId:=136
noncomputable abbrev q6X:Func:=Go.Proofs.Tryz.f136
theorem qcB:Pg.funcs[q0w]?=some q6X:=Go.Proofs.Tryz.func136
theorem qeV:∀ args w,(callFunc q0w args).run Pg w=.ok (.enter q0w args) w:=Go.Proofs.Tryz.call136
abbrev q0i:FuncId:=137
noncomputable abbrev q7d:Func:=Go.Proofs.Tryz.f137
theorem qcR:Pg.funcs[q0i]?=some q7d:=Go.Proofs.Tryz.func137
theorem qfb:∀ args w,(callFunc q0i args).run Pg w=.ok (.enter q0i args) w:=Go.Proofs.Tryz.call137
abbrev q2b:FuncId:=138
noncomputable abbrev q7g:Func:=Go.Proofs.Tryz.f138
theorem qcU:Pg.funcs[q2b]?=some q7g:=Go.Proofs.Tryz.func138
theorem qfe:∀ args w,(callFunc q2b args).run Pg w=.ok (.enter q2b args) w:=Go.Proofs.Tryz.call138
abbrev q1A:FuncId:=139
noncomputable abbrev q7b:Func:=Go.Proofs.Tryz.f139
theorem qcP:Pg.funcs[q1A]?=some q7b:=Go.Proofs.Tryz.func139
theorem qf9:∀ args w,(callFunc q1A args).run Pg w=.ok (.enter q1A args) w:=Go.Proofs.Tryz.call139
abbrev q1i:FuncId:=140
noncomputable abbrev q7e:Func:=Go.Proofs.Tryz.f140
theorem qcS:Pg.funcs[q1i]?=some q7e:=Go.Proofs.Tryz.func140
theorem qfc:∀ args w,(callFunc q1i args).run Pg w=.ok (.enter q1i args) w:=Go.Proofs.Tryz.call140
abbrev q26:FuncId:=141
noncomputable abbrev q6P:Func:=Go.Proofs.Tryz.f141
theorem qct:Pg.funcs[q26]?=some q6P:=Go.Proofs.Tryz.func141
theorem qeN:∀ args w,(callFunc q26 args).run Pg w=.ok (.enter q26 args) w:=Go.Proofs.Tryz.call141
abbrev q1y:FuncId:=142
noncomputable abbrev q6V:Func:=Go.Proofs.Tryz.f142
theorem qcz:Pg.funcs[q1y]?=some q6V:=Go.Proofs.Tryz.func142
theorem qeT:∀ args w,(callFunc q1y args).run Pg w=.ok (.enter q1y args) w:=Go.Proofs.Tryz.call142
abbrev q1d:FuncId:=143
noncomputable abbrev q6U:Func:=Go.Proofs.Tryz.f143
theorem qcy:Pg.funcs[q1d]?=some q6U:=Go.Proofs.Tryz.func143
theorem qeS:∀ args w,(callFunc q1d args).run Pg w=.ok (.enter q1d args) w:=Go.Proofs.Tryz.call143
abbrev q2X:FuncId:=144
noncomputable abbrev q7y:Func:=Go.Proofs.Tryz.f144
theorem qdc:Pg.funcs[q2X]?=some q7y:=Go.Proofs.Tryz.func144
theorem qfw:∀ args w,(callFunc q2X args).run Pg w=.ok (.enter q2X args) w:=Go.Proofs.Tryz.call144
abbrev q3c:FuncId:=145
noncomputable abbrev q8f:Func:=Go.Proofs.Tryz.f145
theorem qdR:Pg.funcs[q3c]?=some q8f:=Go.Proofs.Tryz.func145
theorem qgb:∀ args w,(callFunc q3c args).run Pg w=.ok (.enter q3c args) w:=Go.Proofs.Tryz.call145
abbrev q1G:FuncId:=146
noncomputable abbrev q89:Func:=Go.Proofs.Tryz.f146
theorem qdL:Pg.funcs[q1G]?=some q89:=Go.Proofs.Tryz.func146
theorem qg5:∀ args w,(callFunc q1G args).run Pg w=.ok (.enter q1G args) w:=Go.Proofs.Tryz.call146
abbrev q1H:FuncId:=147
noncomputable abbrev q8a:Func:=Go.Proofs.Tryz.f147
theorem qdM:Pg.funcs[q1H]?=some q8a:=Go.Proofs.Tryz.func147
theorem qg6:∀ args w,(callFunc q1H args).run Pg w=.ok (.enter q1H args) w:=Go.Proofs.Tryz.call147
abbrev q35:FuncId:=148
noncomputable abbrev q7O:Func:=Go.Proofs.Tryz.f148
theorem qdq:Pg.funcs[q35]?=some q7O:=Go.Proofs.Tryz.func148
theorem qfK:∀ args w,(callFunc q35 args).run Pg w=.ok (.enter q35 args) w:=Go.Proofs.Tryz.call148
abbrev q37:FuncId:=149
noncomputable abbrev q7Q:Func:=Go.Proofs.Tryz.f149
theorem qds:Pg.funcs[q37]?=some q7Q:=Go.Proofs.Tryz.func149
theorem qfM:∀ args w,(callFunc q37 args).run Pg w=.ok (.enter q37 args) w:=Go.Proofs.Tryz.call149
abbrev q3b:FuncId:=150
noncomputable abbrev q8b:Func:=Go.Proofs.Tryz.f150
theorem qdN:Pg.funcs[q3b]?=some q8b:=Go.Proofs.Tryz.func150
theorem qg7:∀ args w,(callFunc q3b args).run Pg w=.ok (.enter q3b args) w:=Go.Proofs.Tryz.call150
abbrev q3j:FuncId:=153
noncomputable abbrev q8q:Func:=Go.Proofs.Tryz.f153
theorem qe2:Pg.funcs[q3j]?=some q8q:=Go.Proofs.Tryz.func153
theorem qgm:∀ args w,(callFunc q3j args).run Pg w=.ok (.enter q3j args) w:=Go.Proofs.Tryz.call153
abbrev q3f:FuncId:=154
noncomputable abbrev q8k:Func:=Go.Proofs.Tryz.f154
theorem qdW:Pg.funcs[q3f]?=some q8k:=Go.Proofs.Tryz.func154
theorem qgg:∀ args w,(callFunc q3f args).run Pg w=.ok (.enter q3f args) w:=Go.Proofs.Tryz.call154
abbrev q30:FuncId:=155
noncomputable abbrev q7C:Func:=Go.Proofs.Tryz.f155
theorem qdg:Pg.funcs[q30]?=some q7C:=Go.Proofs.Tryz.func155
theorem qfA:∀ args w,(callFunc q30 args).run Pg w=.ok (.enter q30 args) w:=Go.Proofs.Tryz.call155
abbrev q2r:FuncId:=156
noncomputable abbrev q8u:Func:=Go.Proofs.Tryz.f156
theorem qe6:Pg.funcs[q2r]?=some q8u:=Go.Proofs.Tryz.func156
theorem qgq:∀ args w,(callFunc q2r args).run Pg w=.ok (.enter q2r args) w:=Go.Proofs.Tryz.call156
abbrev q2U:FuncId:=157
noncomputable abbrev q7v:Func:=Go.Proofs.Tryz.f157
theorem qd9:Pg.funcs[q2U]?=some q7v:=Go.Proofs.Tryz.func157
theorem qft:∀ args w,(callFunc q2U args).run Pg w=.ok (.enter q2U args) w:=Go.Proofs.Tryz.call157
abbrev q3k:FuncId:=158
noncomputable abbrev q8r:Func:=Go.Proofs.Tryz.f158
theorem qe3:Pg.funcs[q3k]?=some q8r:=Go.Proofs.Tryz.func158
theorem qgn:∀ args w,(callFunc q3k args).run Pg w=.ok (.enter q3k args) w:=Go.Proofs.Tryz.call158
abbrev q1B:FuncId:=159
noncomputable abbrev q7j:Func:=Go.Proofs.Tryz.f159
theorem qcX:Pg.funcs[q1B]?=some q7j:=Go.Proofs.Tryz.func159
theorem qfh:∀ args w,(callFunc q1B args).run Pg w=.ok (.enter q1B args) w:=Go.Proofs.Tryz.call159
abbrev q2e:FuncId:=160
noncomputable abbrev q7s:Func:=Go.Proofs.Tryz.f160
theorem qd6:Pg.funcs[q2e]?=some q7s:=Go.Proofs.Tryz.func160
theorem qfq:∀ args w,(callFunc q2e args).run Pg w=.ok (.enter q2e args) w:=Go.Proofs.Tryz.call160
abbrev q2Y:FuncId:=161
noncomputable abbrev q7z:Func:=Go.Proofs.Tryz.f161
theorem qdd:Pg.funcs[q2Y]?=some q7z:=Go.Proofs.Tryz.func161
theorem qfx:∀ args w,(callFunc q2Y args).run Pg w=.ok (.enter q2Y args) w:=Go.Proofs.Tryz.call161
abbrev q27:FuncId:=162
noncomputable abbrev q6Q:Func:=Go.Proofs.Tryz.f162
theorem qcu:Pg.funcs[q27]?=some q6Q:=Go.Proofs.Tryz.func162
theorem qeO:∀ args w,(callFunc q27 args).run Pg w=.ok (.enter q27 args) w:=Go.Proofs.Tryz.call162
abbrev q2Q:FuncId:=163
noncomputable abbrev q7i:Func:=Go.Proofs.Tryz.f163
theorem qcW:Pg.funcs[q2Q]?=some q7i:=Go.Proofs.Tryz.func163
theorem qfg:∀ args w,(callFunc q2Q args).run Pg w=.ok (.enter q2Q args) w:=Go.Proofs.Tryz.call163
abbrev q2O:FuncId:=164
noncomputable abbrev q7c:Func:=Go.Proofs.Tryz.f164
theorem qcQ:Pg.funcs[q2O]?=some q7c:=Go.Proofs.Tryz.func164
theorem qfa:∀ args w,(callFunc q2O args).run Pg w=.ok (.enter q2O args) w:=Go.Proofs.Tryz.call164
abbrev q2o:FuncId:=165
noncomputable abbrev q8e:Func:=Go.Proofs.Tryz.f165
theorem qdQ:Pg.funcs[q2o]?=some q8e:=Go.Proofs.Tryz.func165
theorem qga:∀ args w,(callFunc q2o args).run Pg w=.ok (.enter q2o args) w:=Go.Proofs.Tryz.call165
abbrev q1I:FuncId:=166
noncomputable abbrev q8d:Func:=Go.Proofs.Tryz.f166
theorem qdP:Pg.funcs[q1I]?=some q8d:=Go.Proofs.Tryz.func166
theorem qg9:∀ args w,(callFunc q1I args).run Pg w=.ok (.enter q1I args) w:=Go.Proofs.Tryz.call166
abbrev q2p:FuncId:=167
noncomputable abbrev q8g:Func:=Go.Proofs.Tryz.f167
theorem qdS:Pg.funcs[q2p]?=some q8g:=Go.Proofs.Tryz.func167
theorem qgc:∀ args w,(callFunc q2p args).run Pg w=.ok (.enter q2p args) w:=Go.Proofs.Tryz.call167
abbrev q3g:FuncId:=168
noncomputable abbrev q8l:Func:=Go.Proofs.Tryz.f168
theorem qdX:Pg.funcs[q3g]?=some q8l:=Go.Proofs.Tryz.func168
theorem qgh:∀ args w,(callFunc q3g args).run Pg w=.ok (.enter q3g args) w:=Go.Proofs.Tryz.call168
abbrev q31:FuncId:=169
noncomputable abbrev q7D:Func:=Go.Proofs.Tryz.f169
theorem qdh:Pg.funcs[q31]?=some q7D:=Go.Proofs.Tryz.func169
theorem qfB:∀ args w,(callFunc q31 args).run Pg w=.ok (.enter q31 args) w:=Go.Proofs.Tryz.call169
abbrev q2f:FuncId:=170
noncomputable abbrev q7B:Func:=Go.Proofs.Tryz.f170
theorem qdf:Pg.funcs[q2f]?=some q7B:=Go.Proofs.Tryz.func170
theorem qfz:∀ args w,(callFunc q2f args).run Pg w=.ok (.enter q2f args) w:=Go.Proofs.Tryz.call170
abbrev q3m:FuncId:=171
noncomputable abbrev q8t:Func:=Go.Proofs.Tryz.f171
theorem qe5:Pg.funcs[q3m]?=some q8t:=Go.Proofs.Tryz.func171
theorem qgp:∀ args w,(callFunc q3m args).run Pg w=.ok (.enter q3m args) w:=Go.Proofs.Tryz.call171
abbrev qce:FuncId:=172
abbrev qcc:FuncId:=173
abbrev qcd:FuncId:=174
abbrev qci:FuncId:=175
abbrev qcf:FuncId:=176
abbrev q25:FuncId:=177
noncomputable abbrev q6N:Func:=Go.Proofs.Tryz.f177
theorem qcr:Pg.funcs[q25]?=some q6N:=Go.Proofs.Tryz.func177
theorem qeL:∀ args w,(callFunc q25 args).run Pg w=.ok (.enter q25 args) w:=Go.Proofs.Tryz.call177
abbrev qcg:FuncId:=178
abbrev qch:FuncId:=179
abbrev q2V:FuncId:=180
noncomputable abbrev q7w:Func:=Go.Proofs.Tryz.f180
theorem qda:Pg.funcs[q2V]?=some q7w:=Go.Proofs.Tryz.func180
theorem qfu:∀ args w,(callFunc q2V args).run Pg w=.ok (.enter q2V args) w:=Go.Proofs.Tryz.call180
abbrev q2W:FuncId:=181
noncomputable abbrev q7x:Func:=Go.Proofs.Tryz.f181
theorem qdb:Pg.funcs[q2W]?=some q7x:=Go.Proofs.Tryz.func181
theorem qfv:∀ args w,(callFunc q2W args).run Pg w=.ok (.enter q2W args) w:=Go.Proofs.Tryz.call181
abbrev q2S:FuncId:=182
noncomputable abbrev q7t:Func:=Go.Proofs.Tryz.f182
theorem qd7:Pg.funcs[q2S]?=some q7t:=Go.Proofs.Tryz.func182
theorem qfr:∀ args w,(callFunc q2S args).run Pg w=.ok (.enter q2S args) w:=Go.Proofs.Tryz.call182
abbrev q2T:FuncId:=183
noncomputable abbrev q7u:Func:=Go.Proofs.Tryz.f183
theorem qd8:Pg.funcs[q2T]?=some q7u:=Go.Proofs.Tryz.func183
theorem qfs:∀ args w,(callFunc q2T args).run Pg w=.ok (.enter q2T args) w:=Go.Proofs.Tryz.call183
abbrev q2c:FuncId:=184
noncomputable abbrev q7h:Func:=Go.Proofs.Tryz.f184
theorem qcV:Pg.funcs[q2c]?=some q7h:=Go.Proofs.Tryz.func184
theorem qff:∀ args w,(callFunc q2c args).run Pg w=.ok (.enter q2c args) w:=Go.Proofs.Tryz.call184
abbrev q2M:FuncId:=190
noncomputable abbrev q6O:Func:=Go.Proofs.Tryz.f190
theorem qcs:Pg.funcs[q2M]?=some q6O:=Go.Proofs.Tryz.func190
theorem qeM:∀ args w,(callFunc q2M args).run Pg w=.ok (.enter q2M args) w:=Go.Proofs.Tryz.call190
end Go.Proofs.Pf
namespace Go.Proofs.Pf
open Go Go.VM
set_option maxRecDepth 100000
def qa4:Ann:=(.seq .nil (.seq .nil (.seq (.blk none (.loop ⟨[(2,.ref 2 0),(3,.ref 3 0),(4,.ref 4 0)],[.box 2 tEI,.box 3 tEI,.box 4 tEI]⟩ .nil)) .nil)))
theorem qh7 {Q:DE->Prop} (a:DE) (b:DE) (hQ:∃ r,Q r) (h:
 (callV Pg q27 [⟨tEI,a⟩] tEI (fun p0=>(callV Pg q27 [⟨tEI,b⟩] tEI (fun p1=>(loopV (DE×DR) (fun k2=>(fun p3=>(callV Pg q0O [⟨tEI,p3.2.1⟩] tI (fun p4=>(brV (notB (decide (p4=(0:Int)))) (callV Pg q1y [⟨tEI,p3.1⟩,⟨tEI,p3.2.1⟩] (.tup (.pair tEI (.pair tEI .unit))) (fun p5=>(k2 (p3.2.1,(p5.2.1,p3.2.2))))) (Q p3.1)))))) (p0,(p1,((0:Int),none))))))))):
 callV Pg q26 [⟨tEI,a⟩,⟨tEI,b⟩] tEI Q:=
 q02 (c:=q01 q6P) (ann:=qa4) qct rfl qeN rfl rfl hQ (kcast (by kernel_rfl) h)
def qa5:Ann:=.nil
theorem qh8 {Q:DE->Prop} (a:DE) (hQ:∃ r,Q r) (h:
 (brV (decide (a.1<(0:Int))) (callV Pg q1d [⟨tEI,a⟩] tEI (fun p0=>(Q p0))) (Q a))):
 callV Pg q27 [⟨tEI,a⟩] tEI Q:=
 q02 (c:=q01 q6Q) (ann:=qa5) qcu rfl qeO rfl rfl hQ (kcast (by kernel_rfl) h)
def qa6:Ann:=(.seq .nil (.seq (.seq (.reg [] [] (some ⟨[(2,.ref 2 0),(3,.ref 3 0),(4,.ref 4 0)],[.var 16 (.bool),.box 2 tEI,.box 3 tEI,.box 4 tEI]⟩)) .nil) .nil))
theorem qh9 {Q:DE->Prop} (a:DE) (b:DE) (hQ:∃ r,Q r) (h:
 (joinV (Bool×(DE×DR)) (fun p0=>(brV p0.1 (callV Pg q0P [⟨tI,(IntKind.wrap IntKind.i64 (p0.2.1.1+p0.2.2.1.1))⟩] tEI (fun p1=>(Q p1))) (callV Pg q0w [⟨tEI,p0.2.1⟩] (.tup (.pair tI (.pair tD .unit))) (fun p1=>(callV Pg q0w [⟨tEI,p0.2.2.1⟩] (.tup (.pair tI (.pair tD .unit))) (fun p2=>(brV (decide (p1.1=(0:Int))) (Q p0.2.2.1) (brV (decide (p2.1=(0:Int))) (Q p0.2.1) (brV (decide (p1.1=p2.1)) (callV Pg q2b [⟨tD,p1.2.1⟩,⟨tD,p2.2.1⟩] tD (fun p3=>(callV Pg q0i [⟨tI,p1.1⟩,⟨tD,p3⟩] tEI (fun p4=>(Q p4))))) (callV Pg q1A [⟨tD,p1.2.1⟩,⟨tD,p2.2.1⟩] tI (fun p3=>(brV (decide ((0:Int)<=p3)) (callV Pg q1i [⟨tD,p1.2.1⟩,⟨tD,p2.2.1⟩] tD (fun p4=>(callV Pg q0i [⟨tI,p1.1⟩,⟨tD,p4⟩] tEI (fun p5=>(Q p5))))) (callV Pg q1i [⟨tD,p2.2.1⟩,⟨tD,p1.2.1⟩] tD (fun p4=>(callV Pg q0i [⟨tI,p2.1⟩,⟨tD,p4⟩] tEI (fun p5=>(Q p5))))))))))))))))) (fun k0=>(brV (Option.isNone a.2) (k0 ((Option.isNone b.2),(a,(b,((0:Int),none))))) (k0 (false,(a,(b,((0:Int),none))))))))):
 callV Pg q28 [⟨tEI,a⟩,⟨tEI,b⟩] tEI Q:=
 q02 (c:=q01 q6R) (ann:=qa6) qcv rfl qeP rfl rfl hQ (kcast (by kernel_rfl) h)
def qa7:Ann:=(.seq .nil (.seq (.seq (.reg [] [] (some ⟨[(2,.ref 2 0)],[.var 21 (.bool),.box 2 tEI]⟩)) .nil) .nil))
theorem qha {Q:(Int×(Bool×Unit))->Prop} (a:DE) (b:Int) (hQ:∃ r,Q r) (h:
 (joinV (Bool×DE) (fun p0=>(brV p0.1 (Q ((0:Int),(false,()))) (Q (p0.2.1,(true,()))))) (fun k0=>(brV (notB (Option.isNone a.2)) (k0 (true,a)) (brV (decide (b<a.1)) (k0 (true,a)) (k0 ((decide (a.1<(IntKind.wrap IntKind.i64 ((0:Int) - b)))),a))))))):
 callV Pg q1x [⟨tEI,a⟩,⟨tI,b⟩] (.tup (.pair tI (.pair .bool .unit))) Q:=
 q02 (c:=q01 q6S) (ann:=qa7) qcw rfl qeQ rfl rfl hQ (kcast (by kernel_rfl) h)
def qa9:Ann:=.nil
theorem qhc {Q:DE->Prop} (a:DE) (hQ:∃ r,Q r) (h:
 (Q ((IntKind.wrap IntKind.i64 ((0:Int) - a.1)),a.2))):
 callV Pg q1d [⟨tEI,a⟩] tEI Q:=
 q02 (c:=q01 q6U) (ann:=qa9) qcy rfl qeS rfl rfl hQ (kcast (by kernel_rfl) h)
def qaa:Ann:=(.seq .nil (.seq (.seq (.reg [] [] (some ⟨[(2,.ref 2 0),(3,.ref 3 0),(4,.ref 4 0),(5,.ref 5 0)],[.var 21 (.bool),.box 2 tEI,.box 3 tEI,.box 4 tEI,.box 5 tEI]⟩)) .nil) (.seq .nil (.seq .nil (.seq .nil (.seq (.seq .nil (.cond none (.seq .nil (.seq (.reg [] [(8,([68],false))] none) .nil)) .nil)) .nil))))))
theorem qhd {Q:(DE×(DE×Unit))->Prop} (a:DE) (b:DE) (hQ:∃ r,Q r) (h:
 (joinV (Bool×(DE×(DE×DR))) (fun p0=>(brV p0.1 ((p0.2.2.1.1≠(0:Int))/\((p0.2.2.1.1≠(0:Int))/\(Q (((IntKind.wrap IntKind.i64 (Int.tdiv p0.2.1.1 p0.2.2.1.1)),none),(((Int.tmod p0.2.1.1 p0.2.2.1.1),none),()))))) (callV Pg q0w [⟨tEI,p0.2.1⟩] (.tup (.pair tI (.pair tD .unit))) (fun p1=>(callV Pg q0w [⟨tEI,p0.2.2.1⟩] (.tup (.pair tI (.pair tD .unit))) (fun p2=>(callV Pg q1A [⟨tD,p1.2.1⟩,⟨tD,p2.2.1⟩] tI (fun p3=>(brV (decide (p3<(0:Int))) (Q (((0:Int),none),(p0.2.1,()))) (brV (decide ((szSl p2.2.1)=(1:Int))) ((inS p2.2.1 (0:Int))/\(callV Pg q2Q [⟨tD,p1.2.1⟩,⟨tU,(eltS (0:Int) p2.2.1 (0:Int))⟩] (.tup (.pair tD (.pair tU .unit))) (fun p4=>(callV Pg q0i [⟨tI,(IntKind.wrap IntKind.i64 (p1.1*p2.1))⟩,⟨tD,p4.1⟩] tEI (fun p5=>(callV Pg q0i [⟨tI,p1.1⟩,⟨tD,(some [p4.2.1])⟩] tEI (fun p6=>(Q (p5,(p6,())))))))))) (callV Pg q2O [⟨tD,p1.2.1⟩,⟨tD,p2.2.1⟩] (.tup (.pair tD (.pair tD .unit))) (fun p4=>(callV Pg q0i [⟨tI,(IntKind.wrap IntKind.i64 (p1.1*p2.1))⟩,⟨tD,p4.1⟩] tEI (fun p5=>(callV Pg q0i [⟨tI,p1.1⟩,⟨tD,p4.2.1⟩] tEI (fun p6=>(Q (p5,(p6,()))))))))))))))))))) (fun k0=>(brV (Option.isNone a.2) (k0 ((Option.isNone b.2),(a,(b,(((0:Int),none),((0:Int),none)))))) (k0 (false,(a,(b,(((0:Int),none),((0:Int),none)))))))))):
 callV Pg q1y [⟨tEI,a⟩,⟨tEI,b⟩] (.tup (.pair tEI (.pair tEI .unit))) Q:=
 q02 (c:=q01 q6V) (ann:=qaa) qcz rfl qeT rfl rfl hQ (kcast (by kernel_rfl) h)
def qab:Ann:=.nil
theorem qhe {Q:Int->Prop} (a:DE) (hQ:∃ r,Q r) (h:
 (brV (decide ((0:Int)<a.1)) (Q (1:Int)) (brV (decide (a.1<(0:Int))) (Q (-(1:Int))) (Q (0:Int))))):
 callV Pg q0O [⟨tEI,a⟩] tI Q:=
 q02 (c:=q01 q6W) (ann:=qab) qcA rfl qeU rfl rfl hQ (kcast (by kernel_rfl) h)
def qac:Ann:=(.seq .nil (.seq .nil (.seq .nil (.seq (.blk none (.seq .nil (.cond (some ⟨[],[.var 4 tI,.var 5 (.int .u64)]⟩) .nil (.seq .nil (.cond (some ⟨[],[.var 4 tI,.var 5 (.int .u64)]⟩) .nil .nil))))) (.seq (.reg [] [(7,([34],false))] none) .nil)))))
theorem q9Z {Q:(Int×(DL×Unit))->Prop} (a:DE) (hQ:∃ r,Q r) (h:
 (brV (notB (Option.isNone a.2)) (Q (a.1,(a.2,()))) (joinV (Int×Int) (fun p0=>(((0:Int)<=(32:Int))/\(callV Pg q1B [⟨tD,(some [(IntKind.wrap IntKind.u32 p0.2),(IntKind.wrap IntKind.u32 (shrI IntKind.u64 p0.2 (32:Int)))])⟩] tD (fun p1=>(Q (p0.1,(p1,()))))))) (fun k0=>(brV (decide ((0:Int)<a.1)) (k0 ((1:Int),(IntKind.wrap IntKind.u64 a.1))) (joinV (Int×Int) (fun p1=>(k0 p1)) (fun k1=>(brV (decide (a.1<(0:Int))) (k1 ((-(1:Int)),(IntKind.wrap IntKind.u64 (IntKind.wrap IntKind.i64 ((0:Int) - a.1))))) (k1 ((0:Int),(0:Int))))))))))):
 callV Pg q0w [⟨tEI,a⟩] (.tup (.pair tI (.pair tD .unit))) Q:=
 q02 (c:=q01 q6X) (ann:=qac) qcB rfl qeV rfl rfl hQ (kcast (by kernel_rfl) h)
def qad:Ann:=(.seq .nil (.seq (.seq (.reg [] [] (some ⟨[(2,.ref 2 0)],[.var 0 tI,.var 10 (.bool),.box 2 tEI]⟩)) .nil) (.seq .nil (.seq .nil (.seq (.seq .nil (.cond (some ⟨[(2,.ref 2 0)],[.var 3 tI,.var 4 (.int .u64),.box 2 tEI]⟩) .nil .nil)) .nil)))))
theorem qhf {Q:DE->Prop} (a:Int) (hQ:∃ r,Q r) (h:
 (joinV (Int×(Bool×DE)) (fun p0=>(brV p0.2.1 (Q (p0.1,none)) (joinV (Int×(Int×DE)) (fun p1=>(((0:Int)<=(32:Int))/\(Q (p1.1,(some [(IntKind.wrap IntKind.u32 p1.2.1),(IntKind.wrap IntKind.u32 (shrI IntKind.u64 p1.2.1 (32:Int)))]))))) (fun k1=>(brV (decide (p0.1<(0:Int))) (k1 ((-(1:Int)),((IntKind.wrap IntKind.u64 ((0:Int) - (IntKind.wrap IntKind.u64 p0.1))),p0.2.2))) (k1 ((1:Int),((IntKind.wrap IntKind.u64 p0.1),p0.2.2)))))))) (fun k0=>(brV (decide ((-(4611686018427387904:Int))<a)) (k0 (a,((decide (a<(4611686018427387904:Int))),((0:Int),none)))) (k0 (a,(false,((0:Int),none)))))))):
 callV Pg q0P [⟨tI,a⟩] tEI Q:=
 q02 (c:=q01 q6Y) (ann:=qad) qcC rfl qeW rfl rfl hQ (kcast (by kernel_rfl) h)
def qae:Ann:=(.seq .nil (.seq (.seq (.reg [] [] (some ⟨[(2,.ref 2 0),(3,.ref 3 0),(4,.ref 4 0)],[.var 10 (.bool),.box 2 tER,.box 3 tER,.box 4 tER]⟩)) .nil) .nil))
theorem qhg {Q:DR->Prop} (a:DR) (b:DR) (hQ:∃ r,Q r) (h:
 (joinV (Bool×(DR×(DR×DR))) (fun p0=>(brV p0.1 (callV Pg q28 [⟨tEI,p0.2.1.1⟩,⟨tEI,p0.2.2.1.1⟩] tEI (fun p1=>(Q (p1,((0:Int),none))))) (callV Pg q0q [⟨tER,(p0.2.2.1.1,p0.2.2.1.2)⟩] tEI (fun p1=>(callV Pg q0v [⟨tEI,p0.2.1.1⟩,⟨tEI,p1⟩] tEI (fun p2=>(callV Pg q0q [⟨tER,(p0.2.1.1,p0.2.1.2)⟩] tEI (fun p3=>(callV Pg q0v [⟨tEI,p0.2.2.1.1⟩,⟨tEI,p3⟩] tEI (fun p4=>(callV Pg q28 [⟨tEI,p2⟩,⟨tEI,p4⟩] tEI (fun p5=>(callV Pg q0q [⟨tER,(p0.2.1.1,p0.2.1.2)⟩] tEI (fun p6=>(callV Pg q0q [⟨tER,(p0.2.2.1.1,p0.2.2.1.2)⟩] tEI (fun p7=>(callV Pg q0v [⟨tEI,p6⟩,⟨tEI,p7⟩] tEI (fun p8=>(callV Pg q1g [⟨tEI,p5⟩,⟨tEI,p8⟩] tER (fun p9=>(Q (p9.1,p9.2)))))))))))))))))))))) (fun k0=>(callV Pg q1f [⟨tER,(a.1,a.2)⟩] .bool (fun p1=>(brV p1 (callV Pg q1f [⟨tER,(b.1,b.2)⟩] .bool (fun p2=>(k0 (p2,((a.1,a.2),((b.1,b.2),(((0:Int),none),((0:Int),none)))))))) (k0 (false,((a.1,a.2),((b.1,b.2),(((0:Int),none),((0:Int),none)))))))))))):
 callV Pg q0x [⟨tER,a⟩,⟨tER,b⟩] tER Q:=
 q02 (c:=q01 q6Z) (ann:=qae) qcD rfl qeX rfl rfl hQ (kcast (by kernel_rfl) h)
def qaf:Ann:=.nil
theorem qhh {Q:Int->Prop} (a:DR) (b:DR) (hQ:∃ r,Q r) (h:
 (callV Pg q2a [⟨tER,(a.1,a.2)⟩,⟨tER,(b.1,b.2)⟩] tER (fun p0=>(callV Pg q0m [⟨tER,(p0.1,p0.2)⟩] tI (fun p1=>(Q p1)))))):
 callV Pg q1e [⟨tER,a⟩,⟨tER,b⟩] tI Q:=
 q02 (c:=q01 q70) (ann:=qaf) qcE rfl qeY rfl rfl hQ (kcast (by kernel_rfl) h)
def qag:Ann:=.nil
theorem qhi {Q:DR->Prop} (a:DR) (b:DR) (hQ:∃ r,Q r) (h:
 (callV Pg q0q [⟨tER,(b.1,b.2)⟩] tEI (fun p0=>(callV Pg q0v [⟨tEI,a.1⟩,⟨tEI,p0⟩] tEI (fun p1=>(callV Pg q0q [⟨tER,(a.1,a.2)⟩] tEI (fun p2=>(callV Pg q0v [⟨tEI,p2⟩,⟨tEI,b.1⟩] tEI (fun p3=>(callV Pg q1g [⟨tEI,p1⟩,⟨tEI,p3⟩] tER (fun p4=>(Q (p4.1,p4.2))))))))))))):
 callV Pg q29 [⟨tER,a⟩,⟨tER,b⟩] tER Q:=
 q02 (c:=q01 q71) (ann:=qag) qcF rfl qeZ rfl rfl hQ (kcast (by kernel_rfl) h)
def qah:Ann:=.nil
theorem qhj {Q:DE->Prop} (a:DR) (hQ:∃ r,Q r) (h:
 (callV Pg q0O [⟨tEI,a.2⟩] tI (fun p0=>(brV (decide (p0=(0:Int))) (callV Pg q2P [] tEI (fun p1=>(Q p1))) (Q a.2))))):
 callV Pg q0q [⟨tER,a⟩] tEI Q:=
 q02 (c:=q01 q72) (ann:=qah) qcG rfl qf0 rfl rfl hQ (kcast (by kernel_rfl) h)
def qai:Ann:=(.seq .nil (.seq (.seq (.reg [] [] (some ⟨[(2,.ref 2 0),(3,.ref 3 0),(4,.ref 4 0)],[.var 10 (.bool),.box 2 tER,.box 3 tER,.box 4 tER]⟩)) .nil) .nil))
theorem qhk {Q:DR->Prop} (a:DR) (b:DR) (hQ:∃ r,Q r) (h:
 (joinV (Bool×(DR×(DR×DR))) (fun p0=>(brV p0.1 (callV Pg q0v [⟨tEI,p0.2.1.1⟩,⟨tEI,p0.2.2.1.1⟩] tEI (fun p1=>(Q (p1,((0:Int),none))))) (callV Pg q0v [⟨tEI,p0.2.1.1⟩,⟨tEI,p0.2.2.1.1⟩] tEI (fun p1=>(callV Pg q0q [⟨tER,(p0.2.1.1,p0.2.1.2)⟩] tEI (fun p2=>(callV Pg q0q [⟨tER,(p0.2.2.1.1,p0.2.2.1.2)⟩] tEI (fun p3=>(callV Pg q0v [⟨tEI,p2⟩,⟨tEI,p3⟩] tEI (fun p4=>(callV Pg q1g [⟨tEI,p1⟩,⟨tEI,p4⟩] tER (fun p5=>(Q (p5.1,p5.2)))))))))))))) (fun k0=>(callV Pg q1f [⟨tER,(a.1,a.2)⟩] .bool (fun p1=>(brV p1 (callV Pg q1f [⟨tER,(b.1,b.2)⟩] .bool (fun p2=>(k0 (p2,((a.1,a.2),((b.1,b.2),(((0:Int),none),((0:Int),none)))))))) (k0 (false,((a.1,a.2),((b.1,b.2),(((0:Int),none),((0:Int),none)))))))))))):
 callV Pg q0E [⟨tER,a⟩,⟨tER,b⟩] tER Q:=
 q02 (c:=q01 q73) (ann:=qai) qcH rfl qf1 rfl rfl hQ (kcast (by kernel_rfl) h)
def qaj:Ann:=.nil
theorem qhl {Q:DR->Prop} (a:DR) (hQ:∃ r,Q r) (h:
 (callV Pg q1d [⟨tEI,a.1⟩] tEI (fun p0=>(Q (p0,a.2))))):
 callV Pg q1z [⟨tER,a⟩] tER Q:=
 q02 (c:=q01 q74) (ann:=qaj) qcI rfl qf2 rfl rfl hQ (kcast (by kernel_rfl) h)
def qak:Ann:=.nil
theorem qhm {Q:Int->Prop} (a:DR) (hQ:∃ r,Q r) (h:
 (callV Pg q0O [⟨tEI,a.1⟩] tI (fun p0=>(Q p0)))):
 callV Pg q0m [⟨tER,a⟩] tI Q:=
 q02 (c:=q01 q75) (ann:=qak) qcJ rfl qf3 rfl rfl hQ (kcast (by kernel_rfl) h)
def qal:Ann:=.nil
theorem qhn {Q:DR->Prop} (a:DR) (b:DR) (hQ:∃ r,Q r) (h:
 (callV Pg q1z [⟨tER,(b.1,b.2)⟩] tER (fun p0=>(callV Pg q0x [⟨tER,(a.1,a.2)⟩,⟨tER,(p0.1,p0.2)⟩] tER (fun p1=>(Q (p1.1,p1.2))))))):
 callV Pg q2a [⟨tER,a⟩,⟨tER,b⟩] tER Q:=
 q02 (c:=q01 q76) (ann:=qal) qcK rfl qf4 rfl rfl hQ (kcast (by kernel_rfl) h)
def qam:Ann:=.nil
theorem qho {Q:DE->Prop} (a:DR) (hQ:∃ r,Q r) (h:
 (Q a.1)):
 callV Pg q2N [⟨tER,a⟩] tEI Q:=
 q02 (c:=q01 q77) (ann:=qam) qcL rfl qf5 rfl rfl hQ (kcast (by kernel_rfl) h)
def qan:Ann:=(.seq .nil (.seq (.reg [] [] (some ⟨[],[.var 2 (.bool)]⟩)) .nil))
theorem qhp {Q:Bool->Prop} (a:DR) (hQ:∃ r,Q r) (h:
 (joinV Bool (fun p0=>(Q p0)) (fun k0=>(brV (Option.isNone a.2.2) (k0 (decide (a.2.1<=(1:Int)))) (k0 false))))):
 callV Pg q1f [⟨tER,a⟩] .bool Q:=
 q02 (c:=q01 q78) (ann:=qan) qcM rfl qf6 rfl rfl hQ (kcast (by kernel_rfl) h)
def qao:Ann:=(.seq .nil (.seq (.seq .nil (.seq (.reg [] [] (some ⟨[(2,.ref 2 0),(3,.ref 3 0),(4,.ref 4 0),(5,.ref 5 0)],[.var 16 (.bool),.box 2 tEI,.box 3 tEI,.box 4 tER,.box 5 tEI]⟩)) (.cond (some ⟨[(2,.ref 2 0),(3,.ref 3 0),(4,.ref 4 0)],[.box 2 tEI,.box 3 tEI,.box 4 tER]⟩) .nil .nil))) (.seq (.seq .nil (.cond (some ⟨[(2,.ref 2 0),(3,.ref 3 0),(4,.ref 4 0)],[.box 2 tEI,.box 3 tEI,.box 4 tER]⟩) .nil .nil)) .nil)))
theorem qhq {Q:DR->Prop} (a:DE) (b:DE) (hQ:∃ r,Q r) (h:
 (callV Pg q26 [⟨tEI,a⟩,⟨tEI,b⟩] tEI (fun p0=>(joinV (Bool×(DE×(DE×(DR×DE)))) (fun p1=>(joinV (DE×(DE×DR)) (fun p2=>(callV Pg q0O [⟨tEI,p2.2.1⟩] tI (fun p3=>(joinV (DE×(DE×DR)) (fun p4=>(Q (p4.1,p4.2.1))) (fun k4=>(brV (decide (p3<(0:Int))) (callV Pg q1d [⟨tEI,p2.1⟩] tEI (fun p5=>(callV Pg q1d [⟨tEI,p2.2.1⟩] tEI (fun p6=>(k4 (p5,(p6,(p2.2.2.1,p2.2.2.2)))))))) (k4 (p2.1,(p2.2.1,(p2.2.2.1,p2.2.2.2)))))))))) (fun k2=>(brV p1.1 (callV Pg q1y [⟨tEI,p1.2.1⟩,⟨tEI,p1.2.2.2.2⟩] (.tup (.pair tEI (.pair tEI .unit))) (fun p3=>(callV Pg q1y [⟨tEI,p1.2.2.1⟩,⟨tEI,p1.2.2.2.2⟩] (.tup (.pair tEI (.pair tEI .unit))) (fun p4=>(k2 (p3.1,(p4.1,(p1.2.2.2.1.1,p1.2.2.2.1.2)))))))) (k2 (p1.2.1,(p1.2.2.1,(p1.2.2.2.1.1,p1.2.2.2.1.2)))))))) (fun k1=>(brV (notB (decide (p0.1=(1:Int)))) (k1 (true,(a,(b,((((0:Int),none),((0:Int),none)),p0))))) (k1 ((notB (Option.isNone p0.2)),(a,(b,((((0:Int),none),((0:Int),none)),p0))))))))))):
 callV Pg q1g [⟨tEI,a⟩,⟨tEI,b⟩] tER Q:=
 q02 (c:=q01 q79) (ann:=qao) qcN rfl qf7 rfl rfl hQ (kcast (by kernel_rfl) h)
def qap:Ann:=.nil
theorem qhr {Q:DR->Prop} (a:Int) (hQ:∃ r,Q r) (h:
 (callV Pg q0P [⟨tI,a⟩] tEI (fun p0=>(Q (p0,((0:Int),none)))))):
 callV Pg q1h [⟨tI,a⟩] tER Q:=
 q02 (c:=q01 q7a) (ann:=qap) qcO rfl qf8 rfl rfl hQ (kcast (by kernel_rfl) h)
def qaq:Ann:=(.seq .nil (.seq .nil (.seq (.seq .nil (.blk none (.loop ⟨[],[.var 0 tD,.var 1 tD,.var 5 tI]⟩ .nil))) .nil)))
theorem qhs {Q:Int->Prop} (a:DL) (b:DL) (hQ:∃ r,Q r) (h:
 (brV (notB (decide ((szSl a)=(szSl b)))) (brV (decide ((szSl a)<(szSl b))) (Q (-(1:Int))) (Q (1:Int))) (loopV (DL×(DL×Int)) (fun k0=>(fun p1=>(brV (decide ((0:Int)<=p1.2.2)) ((inS p1.1 p1.2.2)/\((inS p1.2.1 p1.2.2)/\(brV (notB (decide ((eltS (0:Int) p1.1 p1.2.2)=(eltS (0:Int) p1.2.1 p1.2.2)))) ((inS p1.1 p1.2.2)/\((inS p1.2.1 p1.2.2)/\(brV (decide ((eltS (0:Int) p1.1 p1.2.2)<(eltS (0:Int) p1.2.1 p1.2.2))) (Q (-(1:Int))) (Q (1:Int))))) (k0 (p1.1,(p1.2.1,(IntKind.wrap IntKind.i64 (p1.2.2 - (1:Int))))))))) (Q (0:Int))))) (a,(b,(IntKind.wrap IntKind.i64 ((szSl a) - (1:Int)))))))):
 callV Pg q1A [⟨tD,a⟩,⟨tD,b⟩] tI Q:=
 q02 (c:=q01 q7b) (ann:=qaq) qcP rfl qf9 rfl rfl hQ (kcast (by kernel_rfl) h)
def qas:Ann:=(.seq .nil (.seq .nil (.seq (.seq .nil (.cond (some ⟨[(4,.ref 4 0)],[.var 0 tI,.var 1 tD,.box 4 tEI]⟩) (.seq .nil (.seq (.seq .nil (.blk none (.loop ⟨[(4,.ref 4 0)],[.var 0 tI,.var 1 tD,.var 5 (.int .u64),.var 13 tD,.var 14 tI,.var 15 tI,.box 4 tEI]⟩ .nil))) .nil)) .nil)) .nil)))
theorem qhu {Q:DE->Prop} (a:Int) (b:DL) (hQ:∃ r,Q r) (h:
 (callV Pg q1B [⟨tD,b⟩] tD (fun p0=>(joinV (Int×(DL×DE)) (fun p1=>(Q (p1.1,p1.2.1))) (fun k1=>(brV (decide ((szSl p0)<=(2:Int))) (loopV (Int×(DL×(Int×(DL×(Int×(Int×DE)))))) (fun k2=>(fun p3=>(brV (decide (p3.2.2.2.2.2.1<p3.2.2.2.2.1)) ((inS p3.2.2.2.1 p3.2.2.2.2.2.1)/\(((0:Int)<=(IntKind.wrap IntKind.i64 ((32:Int)*p3.2.2.2.2.2.1)))/\(k2 (p3.1,(p3.2.1,((bitI BinOp.or IntKind.u64 p3.2.2.1 (shlI IntKind.u64 (IntKind.wrap IntKind.u64 (eltS (0:Int) p3.2.2.2.1 p3.2.2.2.2.2.1)) (IntKind.wrap IntKind.i64 ((32:Int)*p3.2.2.2.2.2.1)))),(p3.2.2.2.1,(p3.2.2.2.2.1,((IntKind.wrap IntKind.i64 (p3.2.2.2.2.2.1+(1:Int))),p3.2.2.2.2.2.2))))))))) (brV (decide (p3.2.2.1<(4611686018427387904:Int))) (Q ((IntKind.wrap IntKind.i64 (p3.1*(IntKind.wrap IntKind.i64 p3.2.2.1))),none)) (k1 (p3.1,(p3.2.1,p3.2.2.2.2.2.2))))))) (a,(p0,((0:Int),(p0,((szSl p0),((0:Int),((0:Int),none)))))))) (k1 (a,(p0,((0:Int),none)))))))))):
 callV Pg q0i [⟨tI,a⟩,⟨tD,b⟩] tEI Q:=
 q02 (c:=q01 q7d) (ann:=qas) qcR rfl qfb rfl rfl hQ (kcast (by kernel_rfl) h)
def qat:Ann:=(.seq .nil (.seq .nil (.seq .nil (.seq (.seq .nil (.blk none (.loop ⟨[(5,.own 1005)],[.var 0 tD,.var 1 tD,.var 6 tU,.var 14 tI,.var 15 tI,.arr 1005 tU]⟩ (.seq .nil (.seq .nil (.seq (.blk none (.seq .nil (.seq .nil (.seq (.seq .nil (.cond (some ⟨[(5,.own 1005)],[.var 0 tD,.var 1 tD,.var 6 tU,.var 7 tI,.var 8 tU,.var 14 tI,.var 15 tI,.arr 1005 tU]⟩) .nil .nil)) .nil)))) .nil)))))) .nil))))
theorem qhv {Q:DL->Prop} (a:DL) (b:DL) (hQ:∃ r,Q r) (h:
 ((mkC 4 (0:Int) (szSl a))/\(loopV (DL×(DL×(Int×(Int×DE)))) (fun k0=>(fun p1=>(brV (decide (p1.2.2.2.2.1<p1.2.2.2.1)) (joinV (DL×(DL×(Int×(Int×(Int×(Int×DE)))))) (fun p2=>((inS p2.1 p2.2.2.2.1)/\(callV Pg q2Y [⟨tU,(eltS (0:Int) p2.1 p2.2.2.2.1)⟩,⟨tU,p2.2.2.2.2.1⟩,⟨tU,p2.2.2.1⟩] (.tup (.pair tU (.pair tU .unit))) (fun p3=>((appC 4 p2.2.2.2.2.2.2.2 (lst (some [p3.1])))/\(k0 (p2.1,(p2.2.1,(p3.2.1,(p2.2.2.2.2.2.1,((IntKind.wrap IntKind.i64 (p2.2.2.2.2.2.2.1+(1:Int))),(appL p2.2.2.2.2.2.2.2 (lst (some [p3.1])))))))))))))) (fun k2=>(brV (decide (p1.2.2.2.2.1<(szSl p1.2.1))) ((inS p1.2.1 p1.2.2.2.2.1)/\(k2 (p1.1,(p1.2.1,(p1.2.2.1,(p1.2.2.2.2.1,((eltS (0:Int) p1.2.1 p1.2.2.2.2.1),(p1.2.2.2.1,p1.2.2.2.2)))))))) (k2 (p1.1,(p1.2.1,(p1.2.2.1,(p1.2.2.2.2.1,((0:Int),(p1.2.2.2.1,p1.2.2.2.2)))))))))) (Q p1.2.2.2.2.2)))) (a,(b,((0:Int),((szSl a),((0:Int),(some (repS (0:Int) (0:Int))))))))))):
 callV Pg q1i [⟨tD,a⟩,⟨tD,b⟩] tD Q:=
 q02 (c:=q01 q7e) (ann:=qat) qcS rfl qfc rfl rfl hQ (kcast (by kernel_rfl) h)
def qau:Ann:=.nil
theorem qhw {Q:DE->Prop} (hQ:∃ r,Q r) (h:
 (Q ((1:Int),none))):
 callV Pg q2P [] tEI Q:=
 q02 (c:=q01 q7f) (ann:=qau) qcT rfl qfd rfl rfl hQ (kcast (by kernel_rfl) h)
def qav:Ann:=(.seq .nil (.seq (.seq .nil (.cond (some ⟨[],[.var 0 tD,.var 1 tD]⟩) .nil .nil)) (.seq .nil (.seq .nil (.seq (.seq .nil (.blk none (.loop ⟨[(5,.own 1005)],[.var 0 tD,.var 1 tD,.var 6 tU,.var 22 tI,.var 23 tI,.arr 1005 tU]⟩ (.seq .nil (.seq .nil (.seq (.blk none (.seq .nil (.seq .nil (.seq (.seq .nil (.cond (some ⟨[(5,.own 1005)],[.var 0 tD,.var 1 tD,.var 6 tU,.var 7 tI,.var 8 tU,.var 22 tI,.var 23 tI,.arr 1005 tU]⟩) .nil .nil)) .nil)))) .nil)))))) .nil)))))
theorem qhx {Q:DL->Prop} (a:DL) (b:DL) (hQ:∃ r,Q r) (h:
 (joinV (DL×DL) (fun p0=>((mkC 4 (0:Int) (IntKind.wrap IntKind.i64 ((szSl p0.1)+(1:Int))))/\(loopV (DL×(DL×(Int×(Int×DE)))) (fun k1=>(fun p2=>(brV (decide (p2.2.2.2.2.1<p2.2.2.2.1)) (joinV (DL×(DL×(Int×(Int×(Int×(Int×DE)))))) (fun p3=>((inS p3.1 p3.2.2.2.1)/\(callV Pg q2e [⟨tU,(eltS (0:Int) p3.1 p3.2.2.2.1)⟩,⟨tU,p3.2.2.2.2.1⟩,⟨tU,p3.2.2.1⟩] (.tup (.pair tU (.pair tU .unit))) (fun p4=>((appC 4 p3.2.2.2.2.2.2.2 (lst (some [p4.1])))/\(k1 (p3.1,(p3.2.1,(p4.2.1,(p3.2.2.2.2.2.1,((IntKind.wrap IntKind.i64 (p3.2.2.2.2.2.2.1+(1:Int))),(appL p3.2.2.2.2.2.2.2 (lst (some [p4.1])))))))))))))) (fun k3=>(brV (decide (p2.2.2.2.2.1<(szSl p2.2.1))) ((inS p2.2.1 p2.2.2.2.2.1)/\(k3 (p2.1,(p2.2.1,(p2.2.2.1,(p2.2.2.2.2.1,((eltS (0:Int) p2.2.1 p2.2.2.2.2.1),(p2.2.2.2.1,p2.2.2.2.2)))))))) (k3 (p2.1,(p2.2.1,(p2.2.2.1,(p2.2.2.2.2.1,((0:Int),(p2.2.2.2.1,p2.2.2.2.2)))))))))) ((appC 4 p2.2.2.2.2.2 (lst (some [p2.2.2.1])))/\(Q (appL p2.2.2.2.2.2 (lst (some [p2.2.2.1])))))))) (p0.1,(p0.2,((0:Int),((szSl p0.1),((0:Int),(some (repS (0:Int) (0:Int))))))))))) (fun k0=>(brV (decide ((szSl a)<(szSl b))) (k0 (b,a)) (k0 (a,b)))))):
 callV Pg q2b [⟨tD,a⟩,⟨tD,b⟩] tD Q:=
 q02 (c:=q01 q7g) (ann:=qav) qcU rfl qfe rfl rfl hQ (kcast (by kernel_rfl) h)
def qaw:Ann:=(.seq .nil (.seq .nil (.seq (.seq .nil (.blk none (.loop ⟨[(5,.own 12)],[.var 1 tI,.var 13 tD,.var 14 tI,.var 15 tI,.arr 12 tU]⟩ .nil))) .nil)))
theorem qhy {Q:DL->Prop} (a:DL) (b:Int) (hQ:∃ r,Q r) (h:
 ((mkC 4 (IntKind.wrap IntKind.i64 ((szSl a)+(1:Int))) (IntKind.wrap IntKind.i64 ((szSl a)+(1:Int))))/\(loopV (Int×(DL×(Int×DE))) (fun k0=>(fun p1=>(brV (decide (p1.2.2.2.1<p1.2.2.1)) ((inS p1.2.1 p1.2.2.2.1)/\(((0:Int)<=p1.1)/\((inS p1.2.2.2.2 p1.2.2.2.1)/\((inS p1.2.2.2.2 p1.2.2.2.1)/\(((0:Int)<=(32:Int))/\((inS (setO p1.2.2.2.2 (toN p1.2.2.2.1) (bitI BinOp.or IntKind.u32 (eltN (0:Int) p1.2.2.2.2 (toN p1.2.2.2.1)) (IntKind.wrap IntKind.u32 (shlI IntKind.u64 (IntKind.wrap IntKind.u64 (eltS (0:Int) p1.2.1 p1.2.2.2.1)) p1.1)))) (IntKind.wrap IntKind.i64 (p1.2.2.2.1+(1:Int))))/\(k0 (p1.1,(p1.2.1,(p1.2.2.1,((IntKind.wrap IntKind.i64 (p1.2.2.2.1+(1:Int))),(setO (setO p1.2.2.2.2 (toN p1.2.2.2.1) (bitI BinOp.or IntKind.u32 (eltN (0:Int) p1.2.2.2.2 (toN p1.2.2.2.1)) (IntKind.wrap IntKind.u32 (shlI IntKind.u64 (IntKind.wrap IntKind.u64 (eltS (0:Int) p1.2.1 p1.2.2.2.1)) p1.1)))) (toN (IntKind.wrap IntKind.i64 (p1.2.2.2.1+(1:Int)))) (IntKind.wrap IntKind.u32 (shrI IntKind.u64 (shlI IntKind.u64 (IntKind.wrap IntKind.u64 (eltS (0:Int) p1.2.1 p1.2.2.2.1)) p1.1) (32:Int))))))))))))))) (Q p1.2.2.2.2)))) (b,(a,((szSl a),((0:Int),(some (repS (IntKind.wrap IntKind.i64 ((szSl a)+(1:Int))) (0:Int)))))))))):
 ownV Pg q2c [⟨tD,a⟩,⟨tI,b⟩] tU Q:=
 q2B (c:=q01 q7h) (ann:=qaw) qcV rfl qff rfl rfl hQ (kcast (by kernel_rfl) h)
def qax:Ann:=(.seq .nil (.seq .nil (.seq .nil (.seq (.seq .nil (.blk none (.loop ⟨[(6,.own 11)],[.var 0 tD,.var 1 tU,.var 7 tU,.var 8 tI,.arr 11 tU]⟩ .nil))) .nil))))
theorem qhz {Q:(DL×(Int×Unit))->Prop} (a:DL) (b:Int) (hQ:∃ r,Q r) (h:
 ((mkC 4 (szSl a) (szSl a))/\(loopV (DL×(Int×(Int×DE))) (fun k0=>(fun p1=>(brV (decide ((0:Int)<=p1.2.2.2.1)) ((inS p1.1 p1.2.2.2.1)/\(callV Pg q2S [⟨tU,p1.2.2.1⟩,⟨tU,(eltS (0:Int) p1.1 p1.2.2.2.1)⟩,⟨tU,p1.2.1⟩] (.tup (.pair tU (.pair tU .unit))) (fun p2=>((inS p1.2.2.2.2 p1.2.2.2.1)/\(k0 (p1.1,(p1.2.1,(p2.2.1,((IntKind.wrap IntKind.i64 (p1.2.2.2.1 - (1:Int))),(setO p1.2.2.2.2 (toN p1.2.2.2.1) p2.1)))))))))) (Q (p1.2.2.2.2,(p1.2.2.1,())))))) (a,(b,((0:Int),((IntKind.wrap IntKind.i64 ((szSl a) - (1:Int))),(some (repS (szSl a) (0:Int)))))))))):
 callV Pg q2Q [⟨tD,a⟩,⟨tU,b⟩] (.tup (.pair tD (.pair tU .unit))) Q:=
 q02 (c:=q01 q7i) (ann:=qax) qcW rfl qfg rfl rfl hQ (kcast (by kernel_rfl) h)
def qay:Ann:=(.seq .nil (.seq (.blk none (.loop ⟨[],[.var 0 tD]⟩ (.seq (.seq (.reg [] [] (some ⟨[],[.var 0 tD,.var 14 (.bool)]⟩)) .nil) .nil))) .nil))
theorem qhA {Q:DL->Prop} (a:DL) (hQ:∃ r,Q r) (h:
 (loopV DL (fun k0=>(fun p1=>(joinV (DL×Bool) (fun p2=>(brV p2.2 ((inR p2.1 (0:Int) (IntKind.wrap IntKind.i64 ((szSl p2.1) - (1:Int))))/\(k0 (slcS p2.1 (0:Int) (IntKind.wrap IntKind.i64 ((szSl p2.1) - (1:Int)))))) (Q p2.1))) (fun k2=>(brV (decide ((0:Int)<(szSl p1))) ((inS p1 (IntKind.wrap IntKind.i64 ((szSl p1) - (1:Int))))/\(k2 (p1,(decide ((eltS (0:Int) p1 (IntKind.wrap IntKind.i64 ((szSl p1) - (1:Int))))=(0:Int)))))) (k2 (p1,false))))))) a)):
 callV Pg q1B [⟨tD,a⟩] tD Q:=
 q02 (c:=q01 q7j) (ann:=qay) qcX rfl qfh rfl rfl hQ (kcast (by kernel_rfl) h)
def qaH:Ann:=.nil
theorem qhJ {Q:(Int×(Int×Unit))->Prop} (a:Int) (b:Int) (c:Int) (hQ:∃ r,Q r) (h:
 (((0:Int)<=(32:Int))/\(Q ((IntKind.wrap IntKind.u32 (IntKind.wrap IntKind.u64 ((IntKind.wrap IntKind.u64 ((IntKind.wrap IntKind.u64 a)+(IntKind.wrap IntKind.u64 b)))+(IntKind.wrap IntKind.u64 c)))),((IntKind.wrap IntKind.u32 (shrI IntKind.u64 (IntKind.wrap IntKind.u64 ((IntKind.wrap IntKind.u64 ((IntKind.wrap IntKind.u64 a)+(IntKind.wrap IntKind.u64 b)))+(IntKind.wrap IntKind.u64 c))) (32:Int))),()))))):
 callV Pg q2e [⟨tU,a⟩,⟨tU,b⟩,⟨tU,c⟩] (.tup (.pair tU (.pair tU .unit))) Q:=
 q02 (c:=q01 q7s) (ann:=qaH) qd6 rfl qfq rfl rfl hQ (kcast (by kernel_rfl) h)
def qaI:Ann:=(.seq .nil (.seq (.seq (.reg [] [] (some ⟨[],[.var 0 tU,.var 1 tU,.var 2 tU,.var 15 (.bool)]⟩)) .nil) .nil))
theorem qhK {Q:(Int×(Int×Unit))->Prop} (a:Int) (b:Int) (c:Int) (hQ:∃ r,Q r) (h:
 (joinV (Int×(Int×(Int×Bool))) (fun p0=>(brV p0.2.2.2 False (((0:Int)<=(32:Int))/\(((IntKind.wrap IntKind.u64 p0.2.2.1)≠(0:Int))/\(((IntKind.wrap IntKind.u64 p0.2.2.1)≠(0:Int))/\(Q ((IntKind.wrap IntKind.u32 (IntKind.wrap IntKind.u64 (Int.tdiv (bitI BinOp.or IntKind.u64 (shlI IntKind.u64 (IntKind.wrap IntKind.u64 p0.1) (32:Int)) (IntKind.wrap IntKind.u64 p0.2.1)) (IntKind.wrap IntKind.u64 p0.2.2.1)))),((IntKind.wrap IntKind.u32 (Int.tmod (bitI BinOp.or IntKind.u64 (shlI IntKind.u64 (IntKind.wrap IntKind.u64 p0.1) (32:Int)) (IntKind.wrap IntKind.u64 p0.2.1)) (IntKind.wrap IntKind.u64 p0.2.2.1))),())))))))) (fun k0=>(brV (notB (decide (c=(0:Int)))) (k0 (a,(b,(c,(decide (c<=a)))))) (k0 (a,(b,(c,false)))))))):
 callV Pg q2S [⟨tU,a⟩,⟨tU,b⟩,⟨tU,c⟩] (.tup (.pair tU (.pair tU .unit))) Q:=
 q02 (c:=q01 q7t) (ann:=qaI) qd7 rfl qfr rfl rfl hQ (kcast (by kernel_rfl) h)
def qaJ:Ann:=.nil
theorem qhL {Q:Int->Prop} (a:Int) (hQ:∃ r,Q r) (h:
 (callV Pg q2V [⟨tU,a⟩] tI (fun p0=>(Q (IntKind.wrap IntKind.i64 ((32:Int) - p0)))))):
 callV Pg q2T [⟨tU,a⟩] tI Q:=
 q02 (c:=q01 q7u) (ann:=qaJ) qd8 rfl qfs rfl rfl hQ (kcast (by kernel_rfl) h)
def qaL:Ann:=(.seq .nil (.seq (.seq .nil (.cond (some ⟨[],[.var 0 tU,.var 2 tI]⟩) .nil .nil)) (.seq (.seq .nil (.cond (some ⟨[],[.var 0 tU,.var 2 tI]⟩) .nil .nil)) .nil)))
theorem qhN {Q:Int->Prop} (a:Int) (hQ:∃ r,Q r) (h:
 (joinV (Int×Int) (fun p0=>(joinV (Int×Int) (fun p1=>((((0:Int)<=(IntKind.wrap IntKind.u8 p1.1))/\((IntKind.wrap IntKind.u8 p1.1)<(szStr (bytesL [0,1,2,2,3,3,3,3,4,4,4,4,4,4,4,4,5,5,5,5,5,5,5,5,5,5,5,5,5,5,5,5,6,6,6,6,6,6,6,6,6,6,6,6,6,6,6,6,6,6,6,6,6,6,6,6,6,6,6,6,6,6,6,6,7,7,7,7,7,7,7,7,7,7,7,7,7,7,7,7,7,7,7,7,7,7,7,7,7,7,7,7,7,7,7,7,7,7,7,7,7,7,7,7,7,7,7,7,7,7,7,7,7,7,7,7,7,7,7,7,7,7,7,7,7,7,7,7,8,8,8,8,8,8,8,8,8,8,8,8,8,8,8,8,8,8,8,8,8,8,8,8,8,8,8,8,8,8,8,8,8,8,8,8,8,8,8,8,8,8,8,8,8,8,8,8,8,8,8,8,8,8,8,8,8,8,8,8,8,8,8,8,8,8,8,8,8,8,8,8,8,8,8,8,8,8,8,8,8,8,8,8,8,8,8,8,8,8,8,8,8,8,8,8,8,8,8,8,8,8,8,8,8,8,8,8,8,8,8,8,8,8,8,8,8,8,8,8,8,8,8,8,8,8,8,8]))))/\(Q (IntKind.wrap IntKind.i64 (p1.2+(IntKind.wrap IntKind.i64 (byteAt (bytesL [0,1,2,2,3,3,3,3,4,4,4,4,4,4,4,4,5,5,5,5,5,5,5,5,5,5,5,5,5,5,5,5,6,6,6,6,6,6,6,6,6,6,6,6,6,6,6,6,6,6,6,6,6,6,6,6,6,6,6,6,6,6,6,6,7,7,7,7,7,7,7,7,7,7,7,7,7,7,7,7,7,7,7,7,7,7,7,7,7,7,7,7,7,7,7,7,7,7,7,7,7,7,7,7,7,7,7,7,7,7,7,7,7,7,7,7,7,7,7,7,7,7,7,7,7,7,7,7,8,8,8,8,8,8,8,8,8,8,8,8,8,8,8,8,8,8,8,8,8,8,8,8,8,8,8,8,8,8,8,8,8,8,8,8,8,8,8,8,8,8,8,8,8,8,8,8,8,8,8,8,8,8,8,8,8,8,8,8,8,8,8,8,8,8,8,8,8,8,8,8,8,8,8,8,8,8,8,8,8,8,8,8,8,8,8,8,8,8,8,8,8,8,8,8,8,8,8,8,8,8,8,8,8,8,8,8,8,8,8,8,8,8,8,8,8,8,8,8,8,8,8,8,8,8,8,8]) (IntKind.wrap IntKind.u8 p1.1)))))))) (fun k1=>(brV (decide ((256:Int)<=p0.1)) (((0:Int)<=(8:Int))/\(k1 ((shrI IntKind.u32 p0.1 (8:Int)),(IntKind.wrap IntKind.i64 (p0.2+(8:Int)))))) (k1 p0))))) (fun k0=>(brV (decide ((65536:Int)<=a)) (((0:Int)<=(16:Int))/\(k0 ((shrI IntKind.u32 a (16:Int)),(16:Int)))) (k0 (a,(0:Int))))))):
 callV Pg q2V [⟨tU,a⟩] tI Q:=
 q02 (c:=q01 q7w) (ann:=qaL) qda rfl qfu rfl rfl hQ (kcast (by kernel_rfl) h)
def qaN:Ann:=.nil
theorem qhP {Q:(Int×(Int×Unit))->Prop} (a:Int) (b:Int) (hQ:∃ r,Q r) (h:
 (((0:Int)<=(32:Int))/\(((0:Int)<=(32:Int))/\(((0:Int)<=(32:Int))/\(((0:Int)<=(32:Int))/\(((0:Int)<=(32:Int))/\(Q ((IntKind.wrap IntKind.u64 ((IntKind.wrap IntKind.u64 ((IntKind.wrap IntKind.u64 ((shrI IntKind.u64 a (32:Int))*(shrI IntKind.u64 b (32:Int))))+(shrI IntKind.u64 (IntKind.wrap IntKind.u64 ((IntKind.wrap IntKind.u64 ((shrI IntKind.u64 a (32:Int))*(bitI BinOp.and IntKind.u64 b (4294967295:Int))))+(shrI IntKind.u64 (IntKind.wrap IntKind.u64 ((bitI BinOp.and IntKind.u64 a (4294967295:Int))*(bitI BinOp.and IntKind.u64 b (4294967295:Int)))) (32:Int)))) (32:Int))))+(shrI IntKind.u64 (IntKind.wrap IntKind.u64 ((bitI BinOp.and IntKind.u64 (IntKind.wrap IntKind.u64 ((IntKind.wrap IntKind.u64 ((shrI IntKind.u64 a (32:Int))*(bitI BinOp.and IntKind.u64 b (4294967295:Int))))+(shrI IntKind.u64 (IntKind.wrap IntKind.u64 ((bitI BinOp.and IntKind.u64 a (4294967295:Int))*(bitI BinOp.and IntKind.u64 b (4294967295:Int)))) (32:Int)))) (4294967295:Int))+(IntKind.wrap IntKind.u64 ((bitI BinOp.and IntKind.u64 a (4294967295:Int))*(shrI IntKind.u64 b (32:Int)))))) (32:Int)))),((IntKind.wrap IntKind.u64 (a*b)),()))))))))):
 callV Pg q2X [⟨(.int .u64),a⟩,⟨(.int .u64),b⟩] (.tup (.pair (.int .u64) (.pair (.int .u64) .unit))) Q:=
 q02 (c:=q01 q7y) (ann:=qaN) qdc rfl qfw rfl rfl hQ (kcast (by kernel_rfl) h)
def qaO:Ann:=.nil
theorem qhQ {Q:(Int×(Int×Unit))->Prop} (a:Int) (b:Int) (c:Int) (hQ:∃ r,Q r) (h:
 (((0:Int)<=(31:Int))/\(Q ((IntKind.wrap IntKind.u32 ((IntKind.wrap IntKind.u32 (a - b)) - c)),((shrI IntKind.u32 (bitI BinOp.or IntKind.u32 (bitI BinOp.and IntKind.u32 (bitI BinOp.xor IntKind.u32 ((4294967296:Int) - (1:Int)) a) b) (bitI BinOp.and IntKind.u32 (bitI BinOp.xor IntKind.u32 ((4294967296:Int) - (1:Int)) (bitI BinOp.xor IntKind.u32 a b)) (IntKind.wrap IntKind.u32 ((IntKind.wrap IntKind.u32 (a - b)) - c)))) (31:Int)),()))))):
 callV Pg q2Y [⟨tU,a⟩,⟨tU,b⟩,⟨tU,c⟩] (.tup (.pair tU (.pair tU .unit))) Q:=
 q02 (c:=q01 q7z) (ann:=qaO) qdd rfl qfx rfl rfl hQ (kcast (by kernel_rfl) h)
end Go.Proofs.Pf
namespace Go.Proofs.Pf
open Go Go.VM
theorem joinE {T:Type} {k:T->Prop} {body:(T->Prop)->Prop} (h:body k):joinV T k body:=⟨h⟩
theorem s_Add32 {a b c:Int} (ha:0<=a) (ha':a<4294967296) (hb:0<=b) (hb':b<4294967296) (hc:0<=c) (hc':c<4294967296):
 callV Pg q2e [⟨tU,a⟩,⟨tU,b⟩,⟨tU,c⟩] (.tup (.pair tU (.pair tU .unit))) fun r=>r=((a+b+c) % 4294967296,(a+b+c) / 4294967296,()):=by
 refine qhJ a b c ⟨_,rfl⟩ ⟨by omega,?_⟩
 simp only[wu64m,wu32m,q3R,Prod.mk.injEq,and_true]
 omega
theorem s_Sub32 {a b c:Int} (ha:0<=a) (ha':a<4294967296) (hb:0<=b) (hb':b<4294967296) (hc:0<=c) (hc':c<=1):
 callV Pg q2Y [⟨tU,a⟩,⟨tU,b⟩,⟨tU,c⟩] (.tup (.pair tU (.pair tU .unit))) fun r=>r=((a - b - c) % 4294967296,(if a<b+c then 1 else 0),()):=by
 refine qhQ a b c ⟨_,rfl⟩ ⟨by omega,?_⟩
 have e:IntKind.wrap IntKind.u32 (IntKind.wrap IntKind.u32 (a - b) - c)=(a - b - c) % 4294967296:=by
  rw[wu32m,wu32m];omega
 rw[e,borrow32 ha ha' hb hb' hc hc']
theorem s_Div32 {a b c:Int} (ha:0<=a) (hb:0<=b) (hb':b<4294967296) (hc':c<4294967296) (hac:a<c):
 callV Pg q2S [⟨tU,a⟩,⟨tU,b⟩,⟨tU,c⟩] (.tup (.pair tU (.pair tU .unit))) fun r=>r=((a*4294967296+b) / c,(a*4294967296+b) % c,()):=by
 refine qhK a b c ⟨_,rfl⟩ (joinE ?_)
 have e0:decide (c=0)=false:=decide_eq_false (by omega)
 have e1:decide (c<=a)=false:=decide_eq_false (by omega)
 simp only[notB,e0,e1,Bool.not_false,brV]
 have ec:IntKind.wrap IntKind.u64 c=c:=wu64 (by omega) (by omega)
 have ea:IntKind.wrap IntKind.u64 a=a:=wu64 (by omega) (by omega)
 have eb:IntKind.wrap IntKind.u64 b=b:=wu64 (by omega) (by omega)
 have es:bitI BinOp.or IntKind.u64 (shlI IntKind.u64 a 32) b=a*4294967296+b:=by
  rw[q54,Int.emod_eq_of_lt (by omega) (by omega),q5S hb hb' ha (by omega),Int.add_comm]
 rw[ec,ea,eb,es]
 refine⟨by omega,by omega,by omega,?_⟩
 have hn:0<=a*4294967296+b:=by omega
 rw[Int.tdiv_eq_ediv_of_nonneg hn,Int.tmod_eq_emod_of_nonneg hn]
 have hq:(a*4294967296+b) / c<4294967296:=by
  refine Int.ediv_lt_of_lt_mul (by omega) ?_
  have:(a+1)*4294967296<=c*4294967296:=by omega
  rw[Int.mul_comm 4294967296 c];omega
 have hq0:0<=(a*4294967296+b) / c:=Int.ediv_nonneg hn (by omega)
 have hr:=Int.emod_lt_of_pos (a*4294967296+b) (show 0<c by omega)
 have hr0:=Int.emod_nonneg (a*4294967296+b) (show c≠0 by omega)
 rw[wu64 hq0 (by omega),wu32 hq0 hq,wu32 hr0 (by omega)]
theorem s_Mul64 {a b:Int} (ha:0<=a) (ha':a<18446744073709551616) (hb:0<=b) (hb':b<18446744073709551616):
 callV Pg q2X [⟨.int .u64,a⟩,⟨.int .u64,b⟩] (.tup (.pair (.int .u64) (.pair (.int .u64) .unit))) fun r=>r=(a*b / 18446744073709551616,a*b % 18446744073709551616,()):=by
 refine qhP a b ⟨_,rfl⟩ ⟨by omega,by omega,by omega,by omega,by omega,?_⟩
 rw[q5e ha ha',q5e hb hb']
 simp only[q3R]
 generalize ha1:a / 4294967296=a1
 generalize hb1:b / 4294967296=b1
 generalize ha0:a % 4294967296=a0
 generalize hb0:b % 4294967296=b0
 have e:a*b=a1*b1*18446744073709551616+(a1*b0+a0*b1)*4294967296+a0*b0:=by
  have e1:a=a1*4294967296+a0:=by omega
  have e2:b=b1*4294967296+b0:=by omega
  rw[e1,e2];grind
 have bound:∀ x y:Int,0<=x->x<=4294967295->0<=y->y<=4294967295->0<=x*y/\x*y<=18446744065119617025:=by
  intro x y h1 h2 h3 h4
  refine⟨Int.mul_nonneg h1 h3,?_⟩
  have:=Int.mul_le_mul h2 h4 h3 (by omega:(0:Int)<=4294967295)
  omega
 have p1:=bound a1 b1 (by omega) (by omega) (by omega) (by omega)
 have p2:=bound a1 b0 (by omega) (by omega) (by omega) (by omega)
 have p3:=bound a0 b1 (by omega) (by omega) (by omega) (by omega)
 have p4:=bound a0 b0 (by omega) (by omega) (by omega) (by omega)
 rw[wu64m (a*b),e]
 generalize a1*b1=x1 at *
 generalize a1*b0=x2 at *
 generalize a0*b1=x3 at *
 generalize a0*b0=x4 at *
 clear e ha1 hb1 ha0 hb0 bound
 have m:∀ x:Int,0<=x->x<18446744073709551616->IntKind.wrap IntKind.u64 x=x:=fun x h1 h2=>wu64 h1 h2
 rw[m x4 (by omega) (by omega),m x1 (by omega) (by omega),m x2 (by omega) (by omega),m x3 (by omega) (by omega)]
 rw[m (x2+x4 / 4294967296) (by omega) (by omega)]
 rw[q5e (by omega) (by omega)]
 rw[m ((x2+x4 / 4294967296) % 4294967296+x3) (by omega) (by omega)]
 rw[m (x1+(x2+x4 / 4294967296) / 4294967296) (by omega) (by omega)]
 rw[m _ (by omega) (by omega)]
 simp only[Prod.mk.injEq,and_true]
 omega
def len8:List Nat:=[0,1,2,2,3,3,3,3,4,4,4,4,4,4,4,4,5,5,5,5,5,5,5,5,5,5,5,5,5,5,5,5,6,6,6,6,6,6,6,6,6,6,6,6,6,6,6,6,6,6,6,6,6,6,6,6,6,6,6,6,6,6,6,6,7,7,7,7,7,7,7,7,7,7,7,7,7,7,7,7,7,7,7,7,7,7,7,7,7,7,7,7,7,7,7,7,7,7,7,7,7,7,7,7,7,7,7,7,7,7,7,7,7,7,7,7,7,7,7,7,7,7,7,7,7,7,7,7,8,8,8,8,8,8,8,8,8,8,8,8,8,8,8,8,8,8,8,8,8,8,8,8,8,8,8,8,8,8,8,8,8,8,8,8,8,8,8,8,8,8,8,8,8,8,8,8,8,8,8,8,8,8,8,8,8,8,8,8,8,8,8,8,8,8,8,8,8,8,8,8,8,8,8,8,8,8,8,8,8,8,8,8,8,8,8,8,8,8,8,8,8,8,8,8,8,8,8,8,8,8,8,8,8,8,8,8,8,8,8,8,8,8,8,8,8,8,8,8,8,8,8,8,8,8,8,8]
theorem len8_ok:(List.range 256).all (fun i=>Nat.blt i (2 ^ len8.getD i 0) && (Nat.beq i 0 || Nat.ble (2 ^ len8.getD i 0) (2*i)) && Nat.ble (len8.getD i 0) 8)=true:=by decide +kernel
theorem byte8 {i:Int} (h1:0<=i) (h2:i<256):∃ n:Nat,byteAt (bytesL len8) i=n/\n<=8/\i<2 ^ n/\(0<i->(2:Int) ^ n<=2*i):=by
 have h:=len8_ok
 rw[List.all_eq_true] at h
 have h:=h i.toNat (by simp;omega)
 simp only[Bool.and_eq_true,Bool.or_eq_true,Nat.blt_eq,Nat.beq_eq,Nat.ble_eq] at h
 obtain⟨⟨h3,h4⟩,h5⟩:=h
 refine⟨len8.getD i.toNat 0,?_,h5,?_,fun hi=>?_⟩
 . have hl:len8.length=256:=by decide +kernel
   have hi:i.toNat<len8.length:=by omega
   simp only[List.getD,List.getElem?_eq_getElem hi,Option.getD_some] at h5
   simp only[byteAt,bytesL,List.getD,List.getElem?_map,List.getElem?_eq_getElem hi,Option.map_some,Option.getD_some]
   rw[UInt8.toNat_ofNat_of_lt' (by simp[UInt8.size];omega)]
 . have:((i.toNat:Nat):Int)<((2 ^ len8.getD i.toNat 0:Nat):Int):=Int.ofNat_lt.2 h3
   simp only[Int.natCast_pow] at this
   have e:((2:Nat):Int)=2:=rfl
   rw[e] at this;omega
 . have h4':=h4.resolve_left (by omega)
   have:((2 ^ len8.getD i.toNat 0:Nat):Int)<=((2*i.toNat:Nat):Int):=Int.ofNat_le.2 h4'
   simp only[Int.natCast_pow] at this
   have e:((2:Nat):Int)=2:=rfl
   rw[e] at this;omega
theorem q95:szStr (bytesL len8)=256:=by decide +kernel
theorem len_ex {a:Int} (ha:0<=a):∀ k:Nat,a<2 ^ k->∃ n:Nat,n<=k/\a<2 ^ n/\(0<a->(2:Int) ^ n<=2*a)
 | 0,h=>⟨0,Nat.le_refl _,h,fun h0=>by simp at h;omega⟩
 | k+1,h=>by
  by_cases h1:a<2 ^ k
  . obtain⟨n,q1,q2⟩:=len_ex ha k h1
    exact⟨n,by omega,q2⟩
  . exact⟨k+1,Nat.le_refl _,h,fun _=>by rw[Int.pow_succ];omega⟩
def L32K (a:Int) (p:Int×Int):Prop:=
 (((0:Int)<=(IntKind.wrap IntKind.u8 p.1))/\((IntKind.wrap IntKind.u8 p.1)<(szStr (bytesL len8)))) /\
  (∃ n:Nat,(IntKind.wrap IntKind.i64 (p.2+(IntKind.wrap IntKind.i64 (byteAt (bytesL len8) (IntKind.wrap IntKind.u8 p.1)))))=n/\n<=32/\a<2 ^ n/\(0<a->(2:Int) ^ n<=2*a))
theorem s_Len32 {a:Int} (ha:0<=a) (ha':a<4294967296):
 callV Pg q2V [⟨tU,a⟩] tI fun r=>∃ n:Nat,r=n/\n<=32/\a<2 ^ n/\(0<a->(2:Int) ^ n<=2*a):=by
 refine qhN a ?_ (joinE ?_)
 . obtain⟨n,q1,q2⟩:=len_ex ha 32 (by omega)
   exact⟨n,n,rfl,q1,q2⟩
 have fin:∀ p1 p2:Int,0<=p1->p1<256->(0<a->0<p1)->(∃ s:Nat,p2=s/\s<=24/\(2:Int) ^ s*p1<=a/\a<2 ^ s*(p1+1))->L32K a (p1,p2):=by
  unfold L32K
  rintro p1 p2 h1 h2 h0 ⟨s,rfl,h3,h4,h5⟩
  have e:IntKind.wrap IntKind.u8 p1=p1:=by rw[wu8m];omega
  rw[e,q95]
  obtain⟨n,q1,q2,q3,q4⟩:=byte8 h1 h2
  rw[q1,wi64 (x:=(n:Int)) (by omega) (by omega),wi64 (by omega) (by omega)]
  have hs:(0:Int)<2 ^ s:=Int.pow_pos (by decide)
  refine⟨⟨h1,h2⟩,s+n,by omega,by omega,?_,fun h0'=>?_⟩
  . rw[Int.pow_add]
    have:(2:Int) ^ s*(p1+1)<=2 ^ s*2 ^ n:=Int.mul_le_mul_of_nonneg_left (by omega) (by omega)
    omega
  . rw[Int.pow_add]
    have:(2:Int) ^ s*2 ^ n<=2 ^ s*(2*p1):=Int.mul_le_mul_of_nonneg_left (q4 (h0 h0')) (by omega)
    have e:(2:Int) ^ s*(2*p1)=2*(2 ^ s*p1):=by grind
    omega
 have two:∀ p1 p2:Int,0<=p1->p1<65536->(0<a->0<p1)->(∃ s:Nat,p2=s/\s<=16/\(2:Int) ^ s*p1<=a/\a<2 ^ s*(p1+1))->∀ k:Int×Int->Prop,
  (∀ p1 p2:Int,0<=p1->p1<256->(0<a->0<p1)->(∃ s:Nat,p2=s/\s<=24/\(2:Int) ^ s*p1<=a/\a<2 ^ s*(p1+1))->k (p1,p2))->
  brV (decide ((256:Int)<=p1)) (((0:Int)<=(8:Int))/\(k ((shrI IntKind.u32 p1 (8:Int)),(IntKind.wrap IntKind.i64 (p2+(8:Int)))))) (k (p1,p2)):=by
  rintro p1 p2 h1 h2 h0 ⟨s,rfl,h3,h4,h5⟩ k hk
  refine q00.2 ⟨fun hb=>⟨by omega,?_⟩,fun hb=>?_⟩
  . have hb:=of_decide_eq_true hb
    have e:shrI IntKind.u32 p1 8=p1 / 256:=shr32 p1 8
    rw[e,wi64 (by omega) (by omega)]
    refine hk _ _ (by omega) (by omega) (by omega) ⟨s+8,by omega,by omega,?_,?_⟩
    . rw[Int.pow_add]
      have:(2:Int) ^ s*(256*(p1 / 256))<=2 ^ s*p1:=Int.mul_le_mul_of_nonneg_left (by omega) (Int.pow_nonneg (by decide))
      have e:(2:Int) ^ s*2 ^ 8*(p1 / 256)=2 ^ s*(256*(p1 / 256)):=by grind
      omega
    . rw[Int.pow_add]
      have:(2:Int) ^ s*(p1+1)<=2 ^ s*(256*(p1 / 256+1)):=Int.mul_le_mul_of_nonneg_left (by omega) (Int.pow_nonneg (by decide))
      have e:(2:Int) ^ s*2 ^ 8*(p1 / 256+1)=2 ^ s*(256*(p1 / 256+1)):=by grind
      omega
  . have hb:=of_decide_eq_false hb
    exact hk _ _ h1 (by omega) h0 ⟨s,rfl,by omega,h4,h5⟩
 refine q00.2 ⟨fun hb=>⟨by omega,?_⟩,fun hb=>?_⟩
 . have hb:=of_decide_eq_true hb
   have e:shrI IntKind.u32 a 16=a / 65536:=shr32 a 16
   rw[e]
   refine joinE ?_
   exact two (a / 65536) 16 (by omega) (by omega) (by omega) ⟨16,rfl,by omega,by omega,by omega⟩ (L32K a) fin
 . have hb:=of_decide_eq_false hb
   refine joinE ?_
   exact two a 0 (by omega) (by omega) (by omega) ⟨0,rfl,by omega,by omega,by omega⟩ (L32K a) fin
theorem qgR {a:Int} (ha:0<a) (ha':a<4294967296):
 callV Pg q2T [⟨tU,a⟩] tI fun r=>∃ n:Nat,r=n/\n<32/\a*2 ^ n<4294967296/\2147483648<=a*2 ^ n:=by
 have key:∀ n:Nat,n<=32/\a<2 ^ n/\(0<a->(2:Int) ^ n<=2*a)->∃ m:Nat,IntKind.wrap IntKind.i64 ((32:Int) - (n:Int))=m/\m<32/\a*2 ^ m<4294967296/\2147483648<=a*2 ^ m:=by
  rintro n ⟨h1,h2,h3⟩
  have h3:=h3 ha
  have hn:n≠0:=by rintro rfl;simp at h2;omega
  refine⟨32 - n,by rw[wi64 (by omega) (by omega)];omega,by omega,?_,?_⟩
  . have e:(4294967296:Int)=2 ^ n*2 ^ (32 - n):=by rw[<-Int.pow_add,show n+(32 - n)=32 by omega];rfl
    rw[e]
    exact Int.mul_lt_mul_of_pos_right h2 (Int.pow_pos (by decide))
  . have e:(4294967296:Int)=2 ^ n*2 ^ (32 - n):=by rw[<-Int.pow_add,show n+(32 - n)=32 by omega];rfl
    have:(2:Int) ^ n*2 ^ (32 - n)<=2*a*2 ^ (32 - n):=Int.mul_le_mul_of_nonneg_right h3 (Int.pow_nonneg (by decide))
    have e2:2*a*(2:Int) ^ (32 - n)=2*(a*2 ^ (32 - n)):=by grind
    omega
 refine qhL a ?_ ((s_Len32 (by omega) ha').mono ?_)
 . obtain⟨n,q⟩:=len_ex (a:=a) (by omega) 32 (by omega)
   obtain⟨m,h⟩:=key n q
   exact⟨m,m,rfl,h.2⟩
 . rintro r ⟨n,rfl,q⟩
   exact key n q
end Go.Proofs.Pf
namespace Go.Proofs.Pf
open Go Go.VM
theorem loopE {T:Type} {step:(T->Prop)->T->Prop} {p:T} (Inv:T->Prop) (μ:T->Nat) (h0:Inv p) (h:∀ p,Inv p->step (fun p'=>Inv p'/\μ p'<μ p) p):loopV T step p:=⟨Inv,μ,h0,h⟩
theorem s_trim {a:Option (List Int)} (ha:(a.getD []).length<4611686018427387904):
 callV Pg q1B [⟨tD,a⟩] tD fun r=>r=a.map trim:=by
 refine qhA a ⟨_,rfl⟩ (loopE (fun p=>p.map trim=a.map trim/\(p.getD []).length<=(a.getD []).length) (fun p=>(p.getD []).length) ⟨rfl,Nat.le_refl _⟩ ?_)
 rintro p ⟨h1,h2⟩
 refine joinE (q00.2 ⟨fun hb=>?_,fun hb=>?_⟩)
 . have hb:=of_decide_eq_true hb
   simp only[szSl] at hb ⊢
   rw[wi64 (by omega) (by omega)]
   cases p with
   | none=>simp at hb
   | some l=>
    simp only[Option.getD_some] at *
    rcases List.eq_nil_or_concat l with rfl | ⟨l',x,rfl⟩
    . simp at hb
    . simp only[List.concat_eq_append] at *
      refine⟨⟨by omega,by simp only[Option.getD_some];omega⟩,q00.2 ⟨fun hb2=>?_,fun hb2=>?_⟩⟩
      . have hb2:=of_decide_eq_true hb2
        have e:(((l' ++ [x]).length:Int) - 1).toNat=l'.length:=by simp
        simp only[eltS,Option.getD_some,e] at hb2
        have hx:x=0:=by simpa[List.getD] using hb2
        subst hx
        refine⟨⟨by omega,by omega,by simp;omega⟩,?_⟩
        simp only[slcS,Option.map_some,e]
        have e2:((l' ++ [0]).take l'.length).drop (0:Int).toNat=l':=by simp
        rw[e2]
        refine⟨⟨?_,?_⟩,by simp⟩
        . rw[<-h1];simp[q3T]
        . simp at h2 ⊢;omega
      . have hb2:=of_decide_eq_false hb2
        have e:(((l' ++ [x]).length:Int) - 1).toNat=l'.length:=by simp
        simp only[eltS,Option.getD_some,e] at hb2
        have hx:x≠0:=by simpa[List.getD] using hb2
        show some (l' ++ [x])=_
        rw[<-h1];simp[q3S _ _ hx]
 . have hb:=of_decide_eq_false hb
   show p=_
   cases p with
   | none=>simpa using h1
   | some l=>
    simp only[szSl,Option.getD_some] at hb
    have:l=[]:=by apply List.eq_nil_of_length_eq_zero;omega
    subst this
    rw[<-h1];rfl
def IV (x:Int×Option (List Int)) (n:Int):Prop:=
 match x.2 with
 | none=>x.1=n /\ -4611686018427387904<n/\n<4611686018427387904
 | some l=>Dig l/\Trm l/\4611686018427387904<=nv l/\((x.1=1/\n=nv l)∨(x.1 = -1/\n = -nv l))
theorem IV.none {v n:Int} (h:v=n) (h1:-4611686018427387904<n) (h2:n<4611686018427387904):IV (v,none) n:=⟨h,h1,h2⟩
def sgn (n:Int):Int:=if 0<n then 1 else if n<0 then -1 else 0
theorem q2G {x:Int×Option (List Int)} {n:Int} (h:IV x n):callV Pg q0O [⟨tEI,x⟩] tI fun r=>r=sgn n:=by
 refine qhe x ⟨_,rfl⟩ ?_
 obtain⟨v,d⟩:=x
 have hv:(0<v↔0<n)/\(v<0↔n<0):=by
  cases d with
  | none=>obtain⟨h1,h2,h3⟩:=h;simp only at h1;omega
  | some l=>obtain⟨h1,h2,h3,h4⟩:=h;simp only at h4;omega
 simp only[q00,decide_eq_true_eq,decide_eq_false_iff_not,sgn]
 refine⟨fun h1=>?_,fun h1=>⟨fun h2=>?_,fun h2=>?_⟩⟩
 . rw[if_pos (by omega)]
 . rw[if_neg (by omega),if_pos (by omega)]
 . rw[if_neg (by omega),if_neg (by omega)]
theorem s_Neg {x:Int×Option (List Int)} {n:Int} (h:IV x n):callV Pg q1d [⟨tEI,x⟩] tEI fun r=>IV r (-n):=by
 have key:IV (IntKind.wrap IntKind.i64 (0 - x.1),x.2) (-n):=by
  obtain⟨v,d⟩:=x
  cases d with
  | none=>obtain⟨h1,h2,h3⟩:=h;simp only at h1;exact⟨by simp only;rw[wi64 (by omega) (by omega)];omega,by omega,by omega⟩
  | some l=>
   obtain⟨h1,h2,h3,h4⟩:=h;simp only at h4
   refine⟨h1,h2,h3,?_⟩
   simp only;rw[wi64 (by omega) (by omega)];omega
 exact qhc x ⟨_,key⟩ key
theorem s_Abs {x:Int×Option (List Int)} {n:Int} (h:IV x n):callV Pg q27 [⟨tEI,x⟩] tEI fun r=>IV r n.natAbs:=by
 obtain⟨v,d⟩:=x
 have hv:(v<0↔n<0):=by
  cases d with
  | none=>obtain⟨h1,h2,h3⟩:=h;simp only at h1;omega
  | some l=>obtain⟨h1,h2,h3,h4⟩:=h;simp only at h4;omega
 have hc:=s_Neg h
 refine qh8 (v,d) ?_ (q00.2 ⟨fun hb=>?_,fun hb=>?_⟩)
 . by_cases h0:n<0
   . obtain⟨r,hr⟩:=hc.ex;exact⟨r,by rw[show (n.natAbs:Int) = -n by omega];exact hr⟩
   . exact⟨_,by rw[show (n.natAbs:Int)=n by omega];exact h⟩
 . have hb:=of_decide_eq_true hb
   refine hc.mono fun r hr=>?_
   simp only at hb
   rw[show (n.natAbs:Int) = -n by omega];exact hr
 . have hb:=of_decide_eq_false hb
   simp only at hb
   rw[show (n.natAbs:Int)=n by omega];exact h
theorem q0a (l:List Int) (i:Nat):nv (l.take (i+1))=nv (l.take i)+4294967296 ^ i*l.getD i 0:=by
 rcases Nat.lt_or_ge i l.length with h | h
 . exact q3A l i h
 . rw[List.take_of_length_le (by omega),List.take_of_length_le h]
   have:l.getD i 0=0:=by simp[List.getD,h]
   rw[this];omega
def SumOf (a b:List Int) (r:Option (List Int)):Prop:=∃ l,r=some l/\Dig l/\nv l=nv a+nv b/\l.length<=max a.length b.length+1
theorem plus_ex {a b:List Int} (ha:Dig a) (hb:Dig b):∀ k:Nat,∃ (o:List Int) (c:Int),o.length=k/\Dig o/\0<=c/\c<=1/\nv o+4294967296 ^ k*c=nv (a.take k)+nv (b.take k)
 | 0=>⟨[],0,rfl,Dig.nil,by omega,by omega,by simp[nv]⟩
 | k+1=>by
  obtain⟨o,c,h1,h2,h3,h4,h5⟩:=plus_ex ha hb k
  have ga:=ha.get k
  have gb:=hb.get k
  refine⟨o ++ [(a.getD k 0+b.getD k 0+c) % 4294967296],(a.getD k 0+b.getD k 0+c) / 4294967296,by simp[h1],h2.app (Dig.cons (by omega) (by omega) Dig.nil),by omega,by omega,?_⟩
  rw[q0d,q0a,q0a,h1,Int.pow_succ]
  have:=Int.emod_add_mul_ediv (a.getD k 0+b.getD k 0+c) 4294967296
  generalize (a.getD k 0+b.getD k 0+c) % 4294967296=x at *
  generalize (a.getD k 0+b.getD k 0+c) / 4294967296=y at *
  grind
theorem plus_step {a b o:List Int} {c:Int} {k:Nat} (ha:Dig a) (hb:Dig b) (h1:o.length=k) (h2:Dig o) (h3:0<=c) (h4:c<=1) (h5:nv o+4294967296 ^ k*c=nv (a.take k)+nv (b.take k)):
 Dig (o ++ [(a.getD k 0+b.getD k 0+c) % 4294967296])/\0<=(a.getD k 0+b.getD k 0+c) / 4294967296/\(a.getD k 0+b.getD k 0+c) / 4294967296<=1 /\
  nv (o ++ [(a.getD k 0+b.getD k 0+c) % 4294967296])+4294967296 ^ (k+1)*((a.getD k 0+b.getD k 0+c) / 4294967296)=nv (a.take (k+1))+nv (b.take (k+1)):=by
 have ga:=ha.get k
 have gb:=hb.get k
 refine⟨h2.app (Dig.cons (by omega) (by omega) Dig.nil),by omega,by omega,?_⟩
 rw[q0d,q0a,q0a,h1,Int.pow_succ]
 have:=Int.emod_add_mul_ediv (a.getD k 0+b.getD k 0+c) 4294967296
 generalize (a.getD k 0+b.getD k 0+c) % 4294967296=x at *
 generalize (a.getD k 0+b.getD k 0+c) / 4294967296=y at *
 grind
theorem joinR {T:Type} {k:T->Prop} {body:(T->Prop)->Prop} (R:T->Prop) (hk:∀ p,R p->k p) (hb:∀ k':T->Prop,(∀ p,R p->k' p)->body k'):joinV T k body:=⟨hb k hk⟩
theorem dec_t {p:Prop} [Decidable p] (h:decide p=true):p:=of_decide_eq_true h
theorem dec_f {p:Prop} [Decidable p] (h:decide p=false):¬ p:=of_decide_eq_false h
structure PInv (A B:Option (List Int)) (f:List Int->Int->Nat->Prop) (p:Option (List Int)×Option (List Int)×Int×Int×Int×Option (List Int)):Prop where
 a:p.1=A
 b:p.2.1=B
 n:p.2.2.2.1=((A.getD []).length:Int)
 k:∃ (k:Nat) (o:List Int),p.2.2.2.2.1=k/\k<=(A.getD []).length/\p.2.2.2.2.2=some o/\o.length=k/\f o p.2.2.1 k
theorem q1R {l:Option (List Int)} {i:Nat} (h:¬ i<(l.getD []).length):(l.getD []).getD i 0=0:=by
 simp[List.getD,Nat.le_of_not_lt h]
theorem s_plus {a b:Option (List Int)} (ha:Dig (a.getD [])) (hb:Dig (b.getD [])) (la:(a.getD []).length<=1099511627776) (lb:(b.getD []).length<=1099511627776):
 callV Pg q2b [⟨tD,a⟩,⟨tD,b⟩] tD fun r=>SumOf (a.getD []) (b.getD []) r:=by
 refine qhx a b ?_ (joinR (fun p=>Dig (p.1.getD [])/\Dig (p.2.getD [])/\(p.1.getD []).length<=1099511627776/\(p.2.getD []).length<=(p.1.getD []).length/\(∀ r,SumOf (p.1.getD []) (p.2.getD []) r->SumOf (a.getD []) (b.getD []) r)) ?_ ?_)
 . obtain⟨o,c,h1,h2,h3,h4,h5⟩:=plus_ex ha hb (max (a.getD []).length (b.getD []).length)
   refine⟨some (o ++ [c]),o ++ [c],rfl,h2.app (Dig.cons h3 (by omega) Dig.nil),?_,by simp[h1]⟩
   rw[q0d,h1,h5,List.take_of_length_le (by omega),List.take_of_length_le (by omega)]
 . rintro⟨A,B⟩ ⟨h1,h2,h3,h4,h5⟩
   simp only at h1 h2 h3 h4 h5 ⊢
   refine⟨?_,?_⟩
   . simp only[szSl];rw[wi64 (by omega) (by omega)];simp only[mkC];omega
   refine loopE (PInv A B fun o c k=>Dig o/\0<=c/\c<=1/\nv o+4294967296 ^ k*c=nv ((A.getD []).take k)+nv ((B.getD []).take k)) (fun p=>((A.getD []).length - p.2.2.2.2.1).toNat) ⟨rfl,rfl,rfl,0,[],rfl,by omega,rfl,rfl,Dig.nil,Int.le_refl _,(by decide:(0:Int)<=1),by simp[nv]⟩ ?_
   rintro⟨A',B',c,n,i,out⟩ ⟨e1,e2,e3,k,o,e4,e5,e6,e7,e8,e9,e10,e11⟩
   simp only at e1 e2 e3 e4 e6 e9 e10 e11;subst e1 e2 e3 e4 e6
   refine q00.2 ⟨fun hb=>?_,fun hb=>?_⟩
   . have hb:=dec_t hb
     simp only at hb
     refine joinR (fun p=>p=(A',B',c,(k:Int),(B'.getD []).getD k 0,((A'.getD []).length:Int),(k:Int),some o)) ?_ ?_
     . rintro _ rfl
       simp only
       have ga:=h1.get k
       have gb:=h2.get k
       refine⟨⟨by omega,by omega⟩,(s_Add32 (by simpa[eltS] using ga.1) (by simpa[eltS] using ga.2) gb.1 gb.2 e9 (by omega)).mono ?_⟩
       rintro _ rfl
       refine⟨?_,⟨rfl,rfl,rfl,k+1,o ++ [((A'.getD []).getD k 0+(B'.getD []).getD k 0+c) % 4294967296],?_,by omega,rfl,by simp[e7],?_⟩,?_⟩
       . show (o.length+1)*4<=140737488355328;omega
       . show IntKind.wrap IntKind.i64 ((k:Int)+1)=((k+1:Nat):Int);rw[wi64 (by omega) (by omega)];omega
       . exact plus_step h1 h2 e7 e8 e9 e10 e11
       . show ((A'.getD []).length - IntKind.wrap IntKind.i64 ((k:Int)+1)).toNat<(((A'.getD []).length:Int) - (k:Int)).toNat
         rw[wi64 (by omega) (by omega)];omega
     . intro k' hk'
       refine q00.2 ⟨fun hb2=>?_,fun hb2=>?_⟩
       . have hb2:=dec_t hb2
         simp only[szSl] at hb2
         refine⟨⟨by dsimp only;omega,by dsimp only;omega⟩,hk' _ ?_⟩
         simp only[eltS,Int.toNat_natCast]
       . have hb2:=dec_f hb2
         simp only[szSl] at hb2
         refine hk' _ ?_
         rw[q1R (by omega)]
   . have hb:=dec_f hb
     simp only at hb
     have hk:k=(A'.getD []).length:=by omega
     refine⟨?_,h5 _ ⟨o ++ [c],rfl,e8.app (Dig.cons e9 (by omega) Dig.nil),?_,by simp;omega⟩⟩
     . show (o.length+1)*4<=140737488355328;omega
     . rw[q0d,e7,e11,hk,List.take_length,List.take_of_length_le (by omega)]
 . intro k' hk'
   refine q00.2 ⟨fun hb2=>?_,fun hb2=>?_⟩
   . have hb2:=dec_t hb2
     simp only[szSl] at hb2
     refine hk' _ ⟨hb,ha,by omega,by simp only;omega,?_⟩
     rintro r ⟨l,q1,q2,q3,q4⟩
     exact⟨l,q1,q2,by rw[q3,Int.add_comm],by rw[Nat.max_comm];exact q4⟩
   . have hb2:=dec_f hb2
     simp only[szSl] at hb2
     exact hk' _ ⟨ha,hb,la,by simp only;omega,fun r h=>h⟩
theorem q9b {a b o:List Int} {c:Int} {k:Nat} (ha:Dig a) (hb:Dig b) (h1:o.length=k) (h2:Dig o) (h3:0<=c) (h4:c<=1) (h5:nv o - 4294967296 ^ k*c=nv (a.take k) - nv (b.take k)):
 Dig (o ++ [(a.getD k 0 - b.getD k 0 - c) % 4294967296])/\0<=(if a.getD k 0<b.getD k 0+c then (1:Int) else 0)/\(if a.getD k 0<b.getD k 0+c then (1:Int) else 0)<=1 /\
  nv (o ++ [(a.getD k 0 - b.getD k 0 - c) % 4294967296]) - 4294967296 ^ (k+1)*(if a.getD k 0<b.getD k 0+c then (1:Int) else 0)=nv (a.take (k+1)) - nv (b.take (k+1)):=by
 have ga:=ha.get k
 have gb:=hb.get k
 have e:(a.getD k 0 - b.getD k 0 - c) % 4294967296=a.getD k 0 - b.getD k 0 - c+4294967296*(if a.getD k 0<b.getD k 0+c then (1:Int) else 0):=by split<;>omega
 have e0:0<=(if a.getD k 0<b.getD k 0+c then (1:Int) else 0)/\(if a.getD k 0<b.getD k 0+c then (1:Int) else 0)<=1:=by split<;>omega
 refine⟨h2.app (Dig.cons (by omega) (by omega) Dig.nil),e0.1,e0.2,?_⟩
 rw[q0d,q0a,q0a,h1,Int.pow_succ,e]
 generalize (if a.getD k 0<b.getD k 0+c then (1:Int) else 0)=y at *
 grind
theorem q99 {a b:List Int} (ha:Dig a) (hb:Dig b):∀ k:Nat,∃ (o:List Int) (c:Int),o.length=k/\Dig o/\0<=c/\c<=1/\nv o - 4294967296 ^ k*c=nv (a.take k) - nv (b.take k)
 | 0=>⟨[],0,rfl,Dig.nil,by omega,by omega,by simp[nv]⟩
 | k+1=>by
  obtain⟨o,c,h1,h2,h3,h4,h5⟩:=q99 ha hb k
  obtain⟨q1,q2,q3,q4⟩:=q9b ha hb h1 h2 h3 h4 h5
  exact⟨_,_,by simp[h1],q1,q2,q3,q4⟩
theorem q9a {a b o:List Int} {c:Int} (h1:o.length=a.length) (h2:Dig o) (h3:0<=c) (h4:c<=1) (h5:nv o - 4294967296 ^ a.length*c=nv a - nv b) (h:nv b<=nv a):nv o=nv a - nv b:=by
 have hl:=nv_lt h2
 rw[h1] at hl
 have:c=0:=by
  rcases (by omega:c=0∨c=1) with h | rfl
  . exact h
  . omega
 subst this;omega
def DifOf (a b:List Int) (r:Option (List Int)):Prop:=∃ l,r=some l/\Dig l/\nv l=nv a - nv b/\l.length=a.length
theorem s_minus {a b:Option (List Int)} (ha:Dig (a.getD [])) (hb:Dig (b.getD [])) (la:(a.getD []).length<=1099511627776) (lb:(b.getD []).length<=(a.getD []).length) (hle:nv (b.getD [])<=nv (a.getD [])):
 callV Pg q1i [⟨tD,a⟩,⟨tD,b⟩] tD fun r=>DifOf (a.getD []) (b.getD []) r:=by
 refine qhv a b ?_ ⟨?_,?_⟩
 . obtain⟨o,c,h1,h2,h3,h4,h5⟩:=q99 ha hb (a.getD []).length
   rw[List.take_length,List.take_of_length_le lb] at h5
   exact⟨some o,o,rfl,h2,q9a h1 h2 h3 h4 h5 hle,h1⟩
 . simp only[szSl,mkC];omega
 refine loopE (PInv a b fun o c k=>Dig o/\0<=c/\c<=1/\nv o - 4294967296 ^ k*c=nv ((a.getD []).take k) - nv ((b.getD []).take k)) (fun p=>((a.getD []).length - p.2.2.2.2.1).toNat) ⟨rfl,rfl,rfl,0,[],rfl,by omega,rfl,rfl,Dig.nil,Int.le_refl _,(by decide:(0:Int)<=1),by simp[nv]⟩ ?_
 rintro⟨A',B',c,n,i,out⟩ ⟨e1,e2,e3,k,o,e4,e5,e6,e7,e8,e9,e10,e11⟩
 simp only at e1 e2 e3 e4 e6 e9 e10 e11;subst e1 e2 e3 e4 e6
 refine q00.2 ⟨fun hbb=>?_,fun hbb=>?_⟩
 . have hb':=dec_t hbb
   simp only at hb'
   refine joinR (fun p=>p=(A',B',c,(k:Int),(B'.getD []).getD k 0,((A'.getD []).length:Int),(k:Int),some o)) ?_ ?_
   . rintro _ rfl
     simp only
     have ga:=ha.get k
     have gb:=hb.get k
     refine⟨⟨by omega,by omega⟩,(s_Sub32 (by simpa[eltS] using ga.1) (by simpa[eltS] using ga.2) gb.1 gb.2 e9 e10).mono ?_⟩
     rintro _ rfl
     refine⟨?_,⟨rfl,rfl,rfl,k+1,o ++ [((A'.getD []).getD k 0 - (B'.getD []).getD k 0 - c) % 4294967296],?_,by omega,rfl,by simp[e7],?_⟩,?_⟩
     . show (o.length+1)*4<=140737488355328;omega
     . show IntKind.wrap IntKind.i64 ((k:Int)+1)=((k+1:Nat):Int);rw[wi64 (by omega) (by omega)];omega
     . exact q9b ha hb e7 e8 e9 e10 e11
     . show ((A'.getD []).length - IntKind.wrap IntKind.i64 ((k:Int)+1)).toNat<(((A'.getD []).length:Int) - (k:Int)).toNat
       rw[wi64 (by omega) (by omega)];omega
   . intro k' hk'
     refine q00.2 ⟨fun hb2=>?_,fun hb2=>?_⟩
     . have hb2:=dec_t hb2
       simp only[szSl] at hb2
       refine⟨⟨by dsimp only;omega,by dsimp only;omega⟩,hk' _ ?_⟩
       simp only[eltS,Int.toNat_natCast]
     . have hb2:=dec_f hb2
       simp only[szSl] at hb2
       refine hk' _ ?_
       rw[q1R (by omega)]
 . have hb':=dec_f hbb
   simp only at hb'
   have hk:k=(A'.getD []).length:=by omega
   subst hk
   rw[List.take_length,List.take_of_length_le lb] at e11
   exact⟨o,rfl,e8,q9a e7 e8 e9 e10 e11 hle,e7⟩
end Go.Proofs.Pf
namespace Go.Proofs.Pf
open Go Go.VM
theorem q4a {a b:List Int} (ha:Dig a) (hb:Dig b) {k:Nat} (hl:a.length=b.length) (hk:k<a.length) (heq:nv (a.drop (k+1))=nv (b.drop (k+1))) (hlt:a.getD k 0<b.getD k 0):nv a<nv b:=by
 rw[q2A a k (by omega),q2A b k (by omega),q0z a k hk,q0z b k (by omega),heq]
 have h1:=nv_lt (ha.take k)
 have h2:=nv_nonneg (hb.take k)
 rw[List.length_take,Nat.min_eq_left (by omega)] at h1
 have hp:=pow_pos32 k
 have:4294967296 ^ k*(a.getD k 0+4294967296*nv (b.drop (k+1))+1)<=(4294967296:Int) ^ k*(b.getD k 0+4294967296*nv (b.drop (k+1))):=Int.mul_le_mul_of_nonneg_left (by omega) (by omega)
 rw[Int.mul_add _ _ 1] at this
 omega
theorem not_t {p:Prop} [Decidable p] (h:notB (decide p)=true):¬ p:=by simpa[notB] using h
theorem not_f {p:Prop} [Decidable p] (h:notB (decide p)=false):p:=by simpa[notB] using h
def cmpI (a b:Int):Int:=if a<b then -1 else if b<a then 1 else 0
theorem q0X {a b:List Int} (ha:Dig a) (hb:Dig b) (tb:Trm b) (h:a.length<b.length):nv a<nv b:=by
 have h1:=nv_lt ha
 have hne:b≠[]:=by rintro rfl;simp at h
 have h2:=tb.ge hb hne
 have h3:=pow_mono32 (show a.length<=b.length - 1 by omega)
 omega
theorem q9F {a b:Option (List Int)} (ha:Dig (a.getD [])) (hb:Dig (b.getD [])) (ta:Trm (a.getD [])) (tb:Trm (b.getD [])) (la:(a.getD []).length<=1099511627776):
 callV Pg q1A [⟨tD,a⟩,⟨tD,b⟩] tI fun r=>r=cmpI (nv (a.getD [])) (nv (b.getD [])):=by
 refine qhs a b ⟨_,rfl⟩ (q00.2 ⟨fun h=>q00.2 ⟨fun h2=>?_,fun h2=>?_⟩,fun h=>?_⟩)
 . have h2:=dec_t h2
   simp only[szSl] at h2
   have:=q0X ha hb tb (by omega)
   rw[cmpI,if_pos this]
 . have h2:=dec_f h2
   have h:=not_t h
   simp only[szSl] at h h2
   have:=q0X hb ha ta (by omega)
   rw[cmpI,if_neg (by omega),if_pos this]
 . have h:=not_f h
   simp only[szSl] at h
   refine loopE (fun p=>p.1=a/\p.2.1=b/\∃ k:Nat,p.2.2=(k:Int) - 1/\k<=(a.getD []).length/\nv ((a.getD []).drop k)=nv ((b.getD []).drop k)) (fun p=>(p.2.2+1).toNat) ⟨rfl,rfl,(a.getD []).length,?_,Nat.le_refl _,?_⟩ ?_
   . simp only[szSl];exact wi64 (by omega) (by omega)
   . rw[List.drop_length,show (a.getD []).length=(b.getD []).length by omega,List.drop_length]
   . rintro⟨A,B,i⟩ ⟨e1,e2,k,e3,h1,h2⟩
     simp only at e1 e2 e3;subst e1 e2 e3
     refine q00.2 ⟨fun hc=>?_,fun hc=>?_⟩
     . have hc:=dec_t hc
       simp only at hc
       obtain⟨k,rfl⟩:∃ j,k=j+1:=⟨k - 1,by omega⟩
       have e:((k+1:Nat):Int) - 1=(k:Int):=by omega
       have ek:(((k+1:Nat):Int) - 1).toNat=k:=by omega
       have i1:inS A (((k+1:Nat):Int) - 1):=⟨by omega,by omega⟩
       have i2:inS B (((k+1:Nat):Int) - 1):=⟨by omega,by omega⟩
       refine⟨i1,i2,q00.2 ⟨fun hd=>⟨i1,i2,q00.2 ⟨fun hd2=>?_,fun hd2=>?_⟩⟩,fun hd=>?_⟩⟩
       . have hd2:=dec_t hd2
         simp only[eltS,ek] at hd2
         have:=q4a ha hb (by omega) (by omega) h2 hd2
         rw[cmpI,if_pos this]
       . have hd2:=dec_f hd2
         have hd:=not_t hd
         simp only[eltS,ek] at hd hd2
         have:=q4a hb ha (by omega) (by omega) h2.symm (show (B.getD []).getD k 0<(A.getD []).getD k 0 by omega)
         rw[cmpI,if_neg (by omega),if_pos this]
       . have hd:=not_f hd
         simp only[eltS,ek] at hd
         refine⟨⟨rfl,rfl,k,?_,by omega,?_⟩,?_⟩
         . show IntKind.wrap IntKind.i64 (((k+1:Nat):Int) - 1 - 1)=(k:Int) - 1;rw[wi64 (by omega) (by omega)];omega
         . rw[q0z (A.getD []) k (by omega),q0z (B.getD []) k (by omega),hd,h2]
         . show (IntKind.wrap IntKind.i64 (((k+1:Nat):Int) - 1 - 1)+1).toNat<(((k+1:Nat):Int) - 1+1).toNat;rw[wi64 (by omega) (by omega)];omega
     . have hc:=dec_f hc
       simp only at hc
       have:k=0:=by omega
       subst this
       simp only[List.drop_zero] at h2
       rw[cmpI,if_neg (by omega),if_neg (by omega)]
theorem nv_two {m:Int}:nv [m % 4294967296,m / 4294967296]=m:=by simp only[nv];omega
theorem dig_two {m:Int} (h0:0<=m) (h1:m<18446744073709551616):Dig [m % 4294967296,m / 4294967296]:=
 Dig.cons (by omega) (by omega) (Dig.cons (by omega) (by omega) Dig.nil)
theorem q9P {m:Int} (h0:0<=m) (h1:m<18446744073709551616):[IntKind.wrap IntKind.u32 m,IntKind.wrap IntKind.u32 (shrI IntKind.u64 m 32)]=[m % 4294967296,m / 4294967296]:=by
 rw[q3R,wu32m,wu32m,Int.emod_eq_of_lt (b:=4294967296) (a:=m / 4294967296) (by omega) (by omega)]
def DigOf (n:Int) (r:Int×Option (List Int)×Unit):Prop:=r.1=sgn n/\∃ l,r.2.1=some l/\Dig l/\Trm l/\nv l=n.natAbs
theorem q3N {x:Int×Option (List Int)} {n:Int} (h:IV x n):callV Pg q0w [⟨tEI,x⟩] (.tup (.pair tI (.pair tD .unit))) fun r=>DigOf n r:=by
 obtain⟨v,d⟩:=x
 cases d with
 | some l=>
  obtain⟨h1,h2,h3,h4⟩:=h
  simp only at h4
  have key:DigOf n (v,some l,()):=by
   refine⟨?_,l,rfl,h1,h2,by omega⟩
   simp only[sgn]
   rcases h4 with ⟨rfl,rfl⟩ | ⟨rfl,rfl⟩
   . rw[if_pos (by omega)]
   . rw[if_neg (by omega),if_pos (by omega)]
  exact q9Z _ ⟨_,key⟩ key
 | none=>
  obtain⟨rfl,h1,h2⟩:=h
  simp only at h1 h2
  have key:DigOf v (sgn v,some (trim [(v.natAbs:Int) % 4294967296,(v.natAbs:Int) / 4294967296]),()):=
   ⟨rfl,_,rfl,(dig_two (by omega) (by omega)).trim,trm_trim _,by rw[q18,nv_two]⟩
  refine q9Z _ ⟨_,key⟩ (q00.2 ⟨fun h=>by simp[notB] at h,fun _=>?_⟩)
  refine (joinR (fun p=>p=(sgn v,(v.natAbs:Int))) ?_ ?_)
  . rintro _ rfl
    refine⟨by omega,?_⟩
    simp only
    rw[q9P (by omega) (by omega)]
    refine (s_trim (by simp)).mono ?_
    rintro _ rfl
    exact key
  . intro k hk
    refine q00.2 ⟨fun hc=>?_,fun hc=>joinE (q00.2 ⟨fun hd=>?_,fun hd=>?_⟩)⟩
    . have hc:=dec_t hc
      simp only at hc
      refine hk _ ?_
      rw[wu64 (by omega) (by omega),sgn,if_pos hc,show (v.natAbs:Int)=v by omega]
    . have hd:=dec_t hd
      simp only at hd
      refine hk _ ?_
      rw[wi64 (by omega) (by omega),wu64 (by omega) (by omega),sgn,if_neg (by omega),if_pos hd,show (v.natAbs:Int)=0 - v by omega]
    . have hc:=dec_f hc
      have hd:=dec_f hd
      simp only at hc hd
      refine hk _ ?_
      rw[sgn,if_neg hc,if_neg hd,show (v.natAbs:Int)=0 by omega]
end Go.Proofs.Pf
namespace Go.Proofs.Pf
open Go Go.VM
theorem q4z {a b:Int}:0<=cmpI a b↔b<=a:=by
 unfold cmpI;split
 . constructor<;>intro<;>omega
 . split<;>constructor<;>intro<;>omega
theorem cmpI_lt {a b:Int} (h:¬ 0<=cmpI a b):a<b:=by
 rw[q4z] at h;omega
theorem nv_ex:∀ (k:Nat) (a:Nat),a<k->∃ l,Dig l/\Trm l/\nv l=(a:Int)
 | 0,a,h=>by omega
 | k+1,a,h=>by
  by_cases h0:a=0
  . exact⟨[],Dig.nil,fun d hd=>by simp at hd,by simp[nv,h0]⟩
  . by_cases h1:a<4294967296
    . exact⟨[(a:Int)],Dig.cons (by omega) (by omega) Dig.nil,fun d hd=>by simp at hd;omega,by simp[nv]⟩
    . obtain⟨l,q1,q2,q3⟩:=nv_ex k (a / 4294967296) (by omega)
      refine⟨((a % 4294967296:Nat):Int) :: l,Dig.cons (by omega) (by omega) q1,?_,by simp only[nv,q3];omega⟩
      intro d hd
      cases l with
      | nil=>simp only[nv] at q3;omega
      | cons x l=>rw[List.getLast?_cons_cons] at hd;exact q2 d hd
theorem IV_ex (n:Int):∃ r,IV r n:=by
 by_cases h:-4611686018427387904<n/\n<4611686018427387904
 . exact⟨(n,none),rfl,h.1,h.2⟩
 . obtain⟨l,q1,q2,q3⟩:=nv_ex (n.natAbs+1) n.natAbs (by omega)
   by_cases h0:0<n
   . exact⟨(1,some l),q1,q2,by omega,.inl ⟨rfl,by omega⟩⟩
   . exact⟨(-1,some l),q1,q2,by omega,.inr ⟨rfl,by omega⟩⟩
theorem s_Of {n:Int} (h1:-9223372036854775808<=n) (h2:n<9223372036854775808):callV Pg q0P [⟨tI,n⟩] tEI fun r=>IV r n:=by
 have big:∀ s m:Int,4611686018427387904<=m->m<=9223372036854775808->((s=1/\n=m)∨(s = -1/\n = -m))->IV (s,some [m % 4294967296,m / 4294967296]) n:=by
  intro s m h3 h4 h5
  refine⟨dig_two (by omega) (by omega),?_,by rw[nv_two];exact h3,by rw[nv_two];exact h5⟩
  intro d hd
  simp at hd
  omega
 refine qhf n (IV_ex _) (joinR (fun p=>∃ b:Bool,p=(n,b,(0:Int),none)/\(b=true ↔ -4611686018427387904<n/\n<4611686018427387904)) ?_ ?_)
 . rintro _ ⟨b,rfl,hb⟩
   refine q00.2 ⟨fun h=>?_,fun h=>?_⟩
   . obtain⟨h3,h4⟩:=hb.1 h
     exact⟨rfl,h3,h4⟩
   . have h3:¬ (-4611686018427387904<n/\n<4611686018427387904):=fun h4=>by rw[hb.2 h4] at h;simp at h
     refine joinR (fun p=>∃ s m:Int,p=(s,m,(0:Int),none)/\4611686018427387904<=m/\m<=9223372036854775808/\((s=1/\n=m)∨(s = -1/\n = -m))) ?_ ?_
     . rintro _ ⟨s,m,rfl,q1,q2,q3⟩
       refine⟨by omega,?_⟩
       simp only
       rw[q9P (by omega) (by omega)]
       exact big s m q1 q2 q3
     . intro k hk
       refine q00.2 ⟨fun h=>?_,fun h=>?_⟩
       . have h:=dec_t h
         simp only at h
         refine hk _ ⟨-1,-n,?_,by omega,by omega,by omega⟩
         simp only[wu64m]
         rw[show ((0:Int) - n % 18446744073709551616) % 18446744073709551616 = -n by omega]
       . have h:=dec_f h
         simp only at h
         refine hk _ ⟨1,n,?_,by omega,by omega,by omega⟩
         simp only
         rw[wu64 (by omega) (by omega)]
 . intro k hk
   refine q00.2 ⟨fun h=>?_,fun h=>?_⟩
   . have h:=dec_t h
     exact hk _ ⟨_,rfl,by simp only[decide_eq_true_eq];omega⟩
   . have h:=dec_f h
     exact hk _ ⟨_,rfl,by simp;omega⟩
theorem made_ok {s:Int} {l:List Int} (hl:Dig l) (hs:s=1∨s = -1∨(s=0/\nv l=0)) (hb:4611686018427387904<=nv l):IV (s,some (trim l)) (s*nv l):=by
 refine⟨hl.trim,trm_trim l,by rw[q18];exact hb,?_⟩
 rw[q18]
 rcases hs with rfl | rfl | ⟨_,h⟩
 . left;exact⟨rfl,by omega⟩
 . right;exact⟨rfl,by omega⟩
 . omega
theorem q1X {s:Int} {b:Option (List Int)} (hl:Dig (b.getD [])) (hs:s=1∨s = -1∨(s=0/\nv (b.getD [])=0)) (hlen:(b.getD []).length<=1099511627776):
 callV Pg q0i [⟨tI,s⟩,⟨tD,b⟩] tEI fun r=>IV r (s*nv (b.getD [])):=by
 have hn:=nv_nonneg hl
 have small:nv (b.getD [])<4611686018427387904->IV (s*nv (b.getD []),none) (s*nv (b.getD [])):=by
  intro h
  rcases hs with rfl | rfl | ⟨rfl,h0⟩
  . exact⟨rfl,by omega,by omega⟩
  . exact⟨rfl,by omega,by omega⟩
  . exact⟨rfl,by omega,by omega⟩
 refine qhu s b (IV_ex _) ((s_trim (by omega)).mono ?_)
 rintro _ rfl
 have fin:4611686018427387904<=nv (b.getD [])->IV (s,b.map trim) (s*nv (b.getD [])):=by
  intro h
  cases b with
  | none=>simp[nv] at h
  | some l=>exact made_ok hl hs h
 have ht:(b.map trim).getD []=trim (b.getD []):=by cases b<;>rfl
 refine joinR (fun p=>4611686018427387904<=nv (b.getD [])/\p.1=s/\p.2.1=b.map trim) ?_ ?_
 . rintro⟨p1,p2,p3⟩ ⟨h,rfl,rfl⟩
   exact fin h
 . intro k hk
   refine q00.2 ⟨fun h=>?_,fun h=>?_⟩
   . have h:=dec_t h
     simp only[szSl,ht] at h
     have hd:=hl.trim
     refine loopE (fun p=>p.1=s/\p.2.1=b.map trim/\p.2.2.2.1=b.map trim/\p.2.2.2.2.1=((trim (b.getD [])).length:Int)/\∃ j:Nat,p.2.2.2.2.2.1=j/\j<=(trim (b.getD [])).length/\p.2.2.1=nv ((trim (b.getD [])).take j)) (fun p=>((trim (b.getD [])).length - p.2.2.2.2.2.1).toNat) ⟨rfl,rfl,rfl,by simp only[szSl,ht],0,rfl,by omega,by simp[nv]⟩ ?_
     rintro⟨q1,q2,q3,q4,q5,q6,q7⟩ ⟨e1,e2,e3,e4,j,e5,e6,e7⟩
     simp only at e1 e2 e3 e4 e5 e7;subst e1 e2 e3 e4 e5 e7
     refine q00.2 ⟨fun hc=>?_,fun hc=>?_⟩
     . have hc:=dec_t hc
       simp only at hc
       have g:=hd.get j
       refine⟨⟨by simp only;omega,by simp only[ht];omega⟩,by simp only;rw[wi64 (by omega) (by omega)];omega,⟨rfl,rfl,rfl,rfl,j+1,?_,by omega,?_⟩,?_⟩
       . show IntKind.wrap IntKind.i64 ((j:Int)+1)=((j+1:Nat):Int);rw[wi64 (by omega) (by omega)];omega
       . show bitI BinOp.or IntKind.u64 (nv ((trim (b.getD [])).take j)) (shlI IntKind.u64 (IntKind.wrap IntKind.u64 (((b.map trim).getD []).getD ((j:Int)).toNat 0)) (IntKind.wrap IntKind.i64 (32*(j:Int))))=_
         rw[ht,Int.toNat_natCast,wi64 (by omega) (by omega),wu64 g.1 (by omega)]
         have e:(32*(j:Int))=((32*j:Nat):Int):=by omega
         rw[e,shl64 _ _ (by omega),q3A _ _ (by omega)]
         have hp:(2:Int) ^ (32*j)=4294967296 ^ j:=by rw[Int.pow_mul];rfl
         have hj:j=0∨j=1:=by omega
         have htk:=nv_lt (hd.take j)
         have htk0:=nv_nonneg (hd.take j)
         rw[List.length_take,Nat.min_eq_left (by omega)] at htk
         have hb1:(trim (b.getD [])).getD j 0*2 ^ (32*j)<=4294967295*4294967296:=by
          rw[hp];rcases hj with rfl | rfl
          . rw[show (4294967296:Int) ^ 0=1 from rfl];omega
          . rw[show (4294967296:Int) ^ 1=4294967296 from rfl];omega
         have hb2:0<=(trim (b.getD [])).getD j 0*2 ^ (32*j):=Int.mul_nonneg g.1 (Int.pow_nonneg (by decide))
         rw[Int.emod_eq_of_lt hb2 (by omega)]
         have hb3:nv ((trim (b.getD [])).take j)<=4294967295:=by
          rcases hj with rfl | rfl<;>simp at htk ⊢<;>omega
         rw[or64 (32*j) htk0 (by rw[hp];exact htk) g.1 (by omega),hp,Int.mul_comm]
       . show ((trim (b.getD [])).length - IntKind.wrap IntKind.i64 ((j:Int)+1)).toNat<((trim (b.getD [])).length - (j:Int)).toNat
         rw[wi64 (by omega) (by omega)];omega
     . have hc:=dec_f hc
       simp only at hc
       have hj:j=(trim (b.getD [])).length:=by omega
       subst hj
       simp only[List.take_length,q18]
       refine q00.2 ⟨fun hd=>?_,fun hd=>?_⟩
       . have hd:=dec_t hd
         have:=small hd
         rw[wi64 (x:=nv (b.getD [])) (by omega) (by omega),wi64]
         . exact this
         . have:=this.2.1;omega
         . have:=this.2.2;omega
       . have hd:=dec_f hd
         exact hk _ ⟨by omega,rfl,rfl⟩
   . have h:=dec_f h
     simp only[szSl,ht] at h
     refine hk _ ⟨?_,rfl,rfl⟩
     have hne:trim (b.getD [])≠[]:=by intro e;rw[e] at h;simp at h
     have h1:=(trm_trim (b.getD [])).ge hl.trim hne
     have h2:=pow_mono32 (show 2<=(trim (b.getD [])).length - 1 by omega)
     rw[q18] at h1
     omega
theorem sgn_ne {n:Int} {P:Prop} (h:¬ sgn n=0):sgn n=1∨sgn n = -1∨P:=by
 unfold sgn at *;split at h<;>(try split at h)<;>simp_all
theorem sgn_z {n:Int} (h:sgn n=0):n=0:=by
 unfold sgn at h
 by_cases h1:0<n
 . rw[if_pos h1] at h;omega
 . rw[if_neg h1] at h
   by_cases h2:n<0
   . rw[if_pos h2] at h;omega
   . omega
theorem sgn3 (n:Int):(sgn n=1/\0<n)∨(sgn n = -1/\n<0)∨(sgn n=0/\n=0):=by
 by_cases h1:0<n
 . exact .inl ⟨if_pos h1,h1⟩
 . by_cases h2:n<0
   . exact .inr (.inl ⟨by rw[sgn,if_neg h1,if_pos h2],h2⟩)
   . exact .inr (.inr ⟨by rw[sgn,if_neg h1,if_neg h2],by omega⟩)
theorem s_Add {x y:Int×Option (List Int)} {n m:Int} {k:Nat} (hx:IV x n) (hy:IV y m) (fx:Fit k n) (fy:Fit k m) (hk:k<=1073741824):callV Pg q28 [⟨tEI,x⟩,⟨tEI,y⟩] tEI fun r=>IV r (n+m):=by
 have big:callV Pg q0w [⟨tEI,x⟩] (.tup (.pair tI (.pair tD .unit))) (fun p1=>(callV Pg q0w [⟨tEI,y⟩] (.tup (.pair tI (.pair tD .unit))) (fun p2=>(brV (decide (p1.1=(0:Int))) (IV y (n+m)) (brV (decide (p2.1=(0:Int))) (IV x (n+m)) (brV (decide (p1.1=p2.1)) (callV Pg q2b [⟨tD,p1.2.1⟩,⟨tD,p2.2.1⟩] tD (fun p3=>(callV Pg q0i [⟨tI,p1.1⟩,⟨tD,p3⟩] tEI (fun p4=>IV p4 (n+m))))) (callV Pg q1A [⟨tD,p1.2.1⟩,⟨tD,p2.2.1⟩] tI (fun p3=>(brV (decide ((0:Int)<=p3)) (callV Pg q1i [⟨tD,p1.2.1⟩,⟨tD,p2.2.1⟩] tD (fun p4=>(callV Pg q0i [⟨tI,p1.1⟩,⟨tD,p4⟩] tEI (fun p5=>IV p5 (n+m))))) (callV Pg q1i [⟨tD,p2.2.1⟩,⟨tD,p1.2.1⟩] tD (fun p4=>(callV Pg q0i [⟨tI,p2.1⟩,⟨tD,p4⟩] tEI (fun p5=>IV p5 (n+m)))))))))))))):=by
  refine (q3N hx).mono ?_
  rintro⟨s,d,_⟩ ⟨e1,l,e2,d1,t1,v1⟩
  simp only at e1 e2;subst e1 e2
  refine (q3N hy).mono ?_
  rintro⟨s,d,_⟩ ⟨e1,l2,e2,d2,t2,v2⟩
  simp only at e1 e2;subst e1 e2
  have l1:=t1.fit d1 fx v1
  have l2':=t2.fit d2 fy v2
  simp only
  refine q00.2 ⟨fun h=>?_,fun h=>q00.2 ⟨fun h2=>?_,fun h2=>q00.2 ⟨fun h3=>?_,fun h3=>?_⟩⟩⟩
  . have h:=dec_t h
    have:n=0:=sgn_z h
    rw[this,Int.zero_add];exact hy
  . have h2:=dec_t h2
    have:m=0:=sgn_z h2
    rw[this,Int.add_zero];exact hx
  . have h:¬ sgn n=0:=dec_f h
    have h3:sgn n=sgn m:=dec_t h3
    refine (s_plus (a:=some l) (b:=some l2) d1 d2 (by simp only[Option.getD_some];omega) (by simp only[Option.getD_some];omega)).mono ?_
    rintro _ ⟨l3,rfl,q1,q2,q3⟩
    simp only[Option.getD_some] at q2 q3
    refine (q1X (b:=some l3) q1 (sgn_ne h) (by simp only[Option.getD_some];omega)).mono ?_
    intro r hr
    have:sgn n*nv l3=n+m:=by
     rw[q2,v1,v2]
     have h2:¬ sgn m=0:=dec_f h2
     clear q1 q2 q3 hr
     rcases sgn3 n with ⟨e1,w1⟩ | ⟨e1,w1⟩ | ⟨e1,w1⟩<;>rcases sgn3 m with ⟨e2,w2⟩ | ⟨e2,w2⟩ | ⟨e2,w2⟩<;>rw[e1]<;>omega
    rw[Option.getD_some,this] at hr
    exact hr
  . have h:¬ sgn n=0:=dec_f h
    have h2:¬ sgn m=0:=dec_f h2
    have h3:¬ sgn n=sgn m:=dec_f h3
    refine (q9F (a:=some l) (b:=some l2) d1 d2 t1 t2 (by simp only[Option.getD_some];omega)).mono ?_
    rintro _ rfl
    simp only[Option.getD_some]
    refine q00.2 ⟨fun h4=>?_,fun h4=>?_⟩
    . have h4:=dec_t h4
      have hle:nv l2<=nv l:=by first | exact q4z.1 h4 | exact Int.le_of_lt (cmpI_lt h4)
      refine (s_minus (a:=some l) (b:=some l2) d1 d2 (by simp only[Option.getD_some];omega) ?_ hle).mono ?_
      . simp only[Option.getD_some]
        rcases Nat.lt_or_ge l.length l2.length with hl | hl
        . have:=q0X d1 d2 t2 hl;omega
        . exact hl
      rintro _ ⟨l3,rfl,q1,q2,q3⟩
      simp only[Option.getD_some] at q2 q3
      refine (q1X (b:=some l3) q1 (sgn_ne h) (by simp only[Option.getD_some];omega)).mono ?_
      intro r hr
      have:sgn n*nv l3=n+m:=by
       rw[q2,v1,v2]
       clear q1 q2 q3 hle h4
       rcases sgn3 n with ⟨e1,w1⟩ | ⟨e1,w1⟩ | ⟨e1,w1⟩<;>rcases sgn3 m with ⟨e2,w2⟩ | ⟨e2,w2⟩ | ⟨e2,w2⟩<;>rw[e1]<;>omega
      rw[Option.getD_some,this] at hr
      exact hr
    . have h4:=dec_f h4
      have hle:nv l<=nv l2:=by first | exact q4z.1 h4 | exact Int.le_of_lt (cmpI_lt h4)
      refine (s_minus (a:=some l2) (b:=some l) d2 d1 (by simp only[Option.getD_some];omega) ?_ hle).mono ?_
      . simp only[Option.getD_some]
        rcases Nat.lt_or_ge l2.length l.length with hl | hl
        . have:=q0X d2 d1 t1 hl;omega
        . exact hl
      rintro _ ⟨l3,rfl,q1,q2,q3⟩
      simp only[Option.getD_some] at q2 q3
      refine (q1X (b:=some l3) q1 (sgn_ne h2) (by simp only[Option.getD_some];omega)).mono ?_
      intro r hr
      have:sgn m*nv l3=n+m:=by
       rw[q2,v1,v2]
       clear q1 q2 q3 hle h4
       rcases sgn3 n with ⟨e1,w1⟩ | ⟨e1,w1⟩ | ⟨e1,w1⟩<;>rcases sgn3 m with ⟨e2,w2⟩ | ⟨e2,w2⟩ | ⟨e2,w2⟩<;>rw[e2]<;>omega
      rw[Option.getD_some,this] at hr
      exact hr
 refine qh9 x y (IV_ex _) (joinR (fun p=>p=(Option.isNone x.2 && Option.isNone y.2,x,y,(0:Int),none)) ?_ ?_)
 . rintro _ rfl
   refine q00.2 ⟨fun h=>?_,fun h=>big⟩
   obtain⟨v,d⟩:=x
   obtain⟨w,e⟩:=y
   simp only[Bool.and_eq_true,Option.isNone_iff_eq_none] at h
   obtain⟨rfl,rfl⟩:=h
   obtain⟨rfl,h1,h2⟩:=hx
   obtain⟨rfl,h3,h4⟩:=hy
   simp only at h1 h2 h3 h4 ⊢
   rw[wi64 (by omega) (by omega)]
   exact s_Of (by omega) (by omega)
 . intro k hk
   refine q00.2 ⟨fun h=>hk _ (by rw[h];rfl),fun h=>hk _ (by rw[h];rfl)⟩
def smallI (n b:Int):Int×Bool×Unit:=if n<=b /\ -b<=n then (n,true,()) else (0,false,())
theorem s_Int {x:Int×Option (List Int)} {n b:Int} (hx:IV x n) (h0:0<=b) (hb:b<4611686018427387904):callV Pg q1x [⟨tEI,x⟩,⟨tI,b⟩] (.tup (.pair tI (.pair .bool .unit))) fun r=>r=smallI n b:=by
 obtain⟨v,d⟩:=x
 refine qha _ b ⟨_,rfl⟩ (joinR (fun p=>(p.1=true/\¬ (n<=b /\ -b<=n))∨(p.1=false/\(n<=b /\ -b<=n)/\p.2.1=n)) ?_ ?_)
 . rintro⟨p,q⟩ h
   refine q00.2 ⟨fun hp=>?_,fun hp=>?_⟩
   . simp only at hp;subst hp
     rcases h with ⟨_,h⟩ | ⟨h,_⟩
     . rw[smallI,if_neg h]
     . simp at h
   . simp only at hp;subst hp
     rcases h with ⟨h,_⟩ | ⟨_,h,h2⟩
     . simp at h
     . rw[smallI,if_pos h];simp only at h2;rw[h2]
 . intro k hk
   cases d with
   | some l=>
    obtain⟨h1,h2,h3,h4⟩:=hx
    refine q00.2 ⟨fun h=>hk _ (.inl ⟨rfl,by simp only at h4;omega⟩),fun h=>by simp[notB] at h⟩
   | none=>
    obtain⟨rfl,h1,h2⟩:=hx
    simp only at h1 h2 hk ⊢
    refine q00.2 ⟨fun h=>by simp[notB] at h,fun _=>q00.2 ⟨fun h=>?_,fun h=>?_⟩⟩
    . have h:=dec_t h
      exact hk _ (.inl ⟨rfl,by omega⟩)
    . have h:=dec_f h
      rw[wi64 (by omega) (by omega)]
      by_cases h5:v<0 - b
      . exact hk _ (.inl ⟨decide_eq_true h5,by omega⟩)
      . exact hk _ (.inr ⟨decide_eq_false h5,by omega,rfl⟩)
end Go.Proofs.Pf
namespace Go.Proofs.Pf
open Go Go.VM
theorem q4D {a b q r:Int} (h:q*b+r=a) (h0:0<=r) (h1:r<b):q=a / b/\r=a % b:=by
 have hb:0<b:=by omega
 have e:a=r+b*q:=by rw[<-h,Int.mul_comm];omega
 constructor
 . rw[e,Int.add_mul_ediv_left _ _ (by omega),Int.ediv_eq_zero_of_lt h0 h1];omega
 . rw[e,Int.add_mul_emod_self_left,Int.emod_eq_of_lt h0 h1]
def q5c (x:List Int) (y:Int) (r:Option (List Int)×Int×Unit):Prop:=∃ l,r.1=some l/\Dig l/\nv l=nv x / y/\l.length<=x.length/\r.2.1=nv x % y
theorem nv_ex' {a:Int} (h:0<=a) {k:Nat} (hf:Fit k a):∃ l,Dig l/\Trm l/\nv l=a/\l.length<=k:=by
 obtain⟨l,q1,q2,q3⟩:=nv_ex (a.toNat+1) a.toNat (by omega)
 have:nv l=a:=by omega
 exact⟨l,q1,q2,this,q2.fit q1 hf (by omega)⟩
theorem q5t {l:List Int} {j:Nat} {x:Int} (h:j<l.length):(l.set j x).drop j=x :: l.drop (j+1):=by
 rw[List.drop_eq_getElem_cons (by simpa using h)]
 simp[List.drop_set]
theorem s_short {x:Option (List Int)} {y:Int} (hx:Dig (x.getD [])) (h0:0<y) (h1:y<4294967296) (hl:(x.getD []).length<=1099511627776):
 callV Pg q2Q [⟨tD,x⟩,⟨tU,y⟩] (.tup (.pair tD (.pair tU .unit))) fun r=>q5c (x.getD []) y r:=by
 have hn:=nv_nonneg hx
 refine qhz x y ?_ ⟨?_,?_⟩
 . have hq:0<=nv (x.getD []) / y:=Int.ediv_nonneg hn (by omega)
   have hq2:nv (x.getD []) / y<=nv (x.getD []):=Int.ediv_le_self _ hn
   obtain⟨l,q1,q2,q3,q4⟩:=nv_ex' (k:=(x.getD []).length) hq ((fit_nv hx).of (by omega))
   exact⟨(some l,_,()),l,rfl,q1,q3,q4,rfl⟩
 . simp only[szSl,mkC];omega
 refine loopE (fun p=>p.1=x/\p.2.1=y/\0<=p.2.2.1/\p.2.2.1<y/\∃ (k:Nat) (o:List Int),p.2.2.2.1=(k:Int) - 1/\k<=(x.getD []).length/\p.2.2.2.2=some o/\o.length=(x.getD []).length/\Dig o/\nv (o.drop k)*y+p.2.2.1=nv ((x.getD []).drop k)) (fun p=>(p.2.2.2.1+1).toNat)
  ⟨rfl,rfl,Int.le_refl _,h0,(x.getD []).length,List.replicate (x.getD []).length 0,?_,Nat.le_refl _,?_,by simp,Dig.rep _,?_⟩ ?_
 . show IntKind.wrap IntKind.i64 (((x.getD []).length:Int) - 1)=_;exact wi64 (by omega) (by omega)
 . show some (List.replicate (((x.getD []).length:Int)).toNat 0)=_;rw[Int.toNat_natCast]
 . rw[List.drop_of_length_le (by simp),List.drop_length];simp[nv]
 rintro⟨x',y',rest,i,out⟩ ⟨e1,e2,r0,r1,k,o,e3,hk,e4,hlo,hdo,hinv⟩
 have r0:0<=rest:=r0
 have r1:rest<y:=r1
 have hinv:nv (o.drop k)*y+rest=nv ((x.getD []).drop k):=hinv
 simp only at e1 e2 e3 e4;subst e1 e2 e3 e4
 refine q00.2 ⟨fun hb=>?_,fun hb=>?_⟩
 . have hb:(0:Int)<=(k:Int) - 1:=dec_t hb
   obtain⟨j,rfl⟩:∃ j,k=j+1:=⟨k - 1,by omega⟩
   have ej:(((j+1:Nat):Int) - 1).toNat=j:=by omega
   have g:=hx.get j
   refine⟨⟨by dsimp only;omega,by dsimp only;omega⟩,?_⟩
   have hd:=s_Div32 (a:=rest) (b:=(x'.getD []).getD j 0) (c:=y') r0 g.1 g.2 h1 r1
   simp only[eltS,ej]
   refine hd.mono ?_
   rintro _ rfl
   simp only
   have hm:=Int.mul_ediv_add_emod (rest*4294967296+(x'.getD []).getD j 0) y'
   have hr0:=Int.emod_nonneg (rest*4294967296+(x'.getD []).getD j 0) (show y'≠0 by omega)
   have hr1:=Int.emod_lt_of_pos (rest*4294967296+(x'.getD []).getD j 0) h0
   have hq0:0<=(rest*4294967296+(x'.getD []).getD j 0) / y':=Int.ediv_nonneg (by omega) (by omega)
   have hq1:(rest*4294967296+(x'.getD []).getD j 0) / y'<4294967296:=by
    refine Int.ediv_lt_of_lt_mul h0 ?_
    have:(rest+1)*4294967296<=y'*4294967296:=by omega
    rw[Int.mul_comm 4294967296 y'];omega
   refine⟨⟨by omega,by simp only[Option.getD_some];omega⟩,⟨trivial,trivial,hr0,hr1,j,o.set j ((rest*4294967296+(x'.getD []).getD j 0) / y'),?_,by omega,?_,by simp[hlo],hdo.set j hq0 hq1,?_⟩,?_⟩
   . show IntKind.wrap IntKind.i64 (((j+1:Nat):Int) - 1 - 1)=(j:Int) - 1;rw[wi64 (by omega) (by omega)];omega
   . rfl
   . show nv ((o.set j ((rest*4294967296+(x'.getD []).getD j 0) / y')).drop j)*y'+(rest*4294967296+(x'.getD []).getD j 0) % y'=nv ((x'.getD []).drop j)
     rw[q5t (by omega),q0z (x'.getD []) j (by omega),<-hinv]
     simp only[nv]
     generalize (rest*4294967296+(x'.getD []).getD j 0) / y'=q at *
     generalize (rest*4294967296+(x'.getD []).getD j 0) % y'=r at *
     generalize nv (o.drop (j+1))=z at *
     grind
   . show (IntKind.wrap IntKind.i64 (((j+1:Nat):Int) - 1 - 1)+1).toNat<(((j+1:Nat):Int) - 1+1).toNat;rw[wi64 (by omega) (by omega)];omega
 . have hb:¬ (0:Int)<=(k:Int) - 1:=dec_f hb
   have:k=0:=by omega
   subst this
   simp only[List.drop_zero] at hinv
   obtain⟨q1,q2⟩:=q4D hinv r0 r1
   exact⟨o,rfl,hdo,q1,by omega,q2⟩
end Go.Proofs.Pf
namespace Go.Proofs.Pf
open Go Go.VM
theorem or32 {x y:Int} (n:Nat) (hx:0<=x) (hxn:x<2 ^ n) (hy:0<=y) (hxy:x+y*2 ^ n<4294967296):bitI BinOp.or IntKind.u32 x (y*2 ^ n)=x+y*2 ^ n:=by
 have hp:(0:Int)<2 ^ n:=Int.pow_pos (by decide)
 have hyn:0<=y*2 ^ n:=Int.mul_nonneg hy (Int.le_of_lt hp)
 have hx64:x<2 ^ 32:=by omega
 have hy64:y*2 ^ n<2 ^ 32:=by omega
 rw[bor32,BitVec.toNat_or,bvn 32 hx hx64,bvn 32 hyn hy64]
 have e:x.toNat ||| (y*2 ^ n).toNat=x.toNat+(y*2 ^ n).toNat:=by
  have e1:(y*2 ^ n).toNat=2 ^ n*y.toNat:=by
   rw[Int.toNat_mul hy (Int.le_of_lt hp),Nat.mul_comm]
   congr 1
  rw[e1,Nat.or_comm,Nat.add_comm]
  refine (Nat.two_pow_add_eq_or_of_lt ?_ _).symm
  have:((2:Int) ^ n)=((2 ^ n:Nat):Int):=by simp
  omega
 rw[e,wu32m]
 omega
theorem q9S {l:List Int} {i k:Nat} {x:Int} (h:k<=i):(l.set i x).take k=l.take k:=by
 rw[List.take_set,List.set_eq_of_length_le]
 simp;omega
theorem q5B {l:List Int} {i:Nat} {x:Int} (h:i<l.length):(l.set i x).getD i 0=x:=by
 simp[List.getD,h]
theorem q1s {l:List Int} {i j:Nat} {x:Int} (h:i≠j):(l.set i x).getD j 0=l.getD j 0:=by
 simp[List.getD,List.getElem?_set_ne h]
theorem shl_digit {x:Int} {n:Nat} (h0:0<=x) (h1:x<4294967296) (hn:n<32):∃ y w:Int,x*2 ^ n=y*2 ^ n+4294967296*w/\0<=y/\y*2 ^ n+2 ^ n<=4294967296/\0<=w/\w<2 ^ n/\(x*2 ^ n) % 4294967296=y*2 ^ n/\(x*2 ^ n) / 4294967296=w:=by
 have e:(4294967296:Int)=2 ^ (32 - n)*2 ^ n:=by rw[<-Int.pow_add,show 32 - n+n=32 by omega];rfl
 have hp:(0:Int)<2 ^ n:=Int.pow_pos (by decide)
 have hq:(0:Int)<2 ^ (32 - n):=Int.pow_pos (by decide)
 have hm0:=Int.emod_nonneg x (show (2:Int) ^ (32 - n)≠0 by omega)
 have hm1:=Int.emod_lt_of_pos x hq
 have hd:=Int.mul_ediv_add_emod x (2 ^ (32 - n))
 have hd0:0<=x / 2 ^ (32 - n):=Int.ediv_nonneg h0 (by omega)
 have hlt:x / 2 ^ (32 - n)<2 ^ n:=Int.ediv_lt_of_lt_mul hq (by rw[Int.mul_comm,<-e];exact h1)
 generalize x % 2 ^ (32 - n)=y at *
 generalize x / 2 ^ (32 - n)=w at *
 have e1:x*2 ^ n=y*2 ^ n+4294967296*w:=by rw[<-hd];grind
 have e2:y*2 ^ n+2 ^ n<=4294967296:=by
  have:(y+1)*2 ^ n<=2 ^ (32 - n)*2 ^ n:=Int.mul_le_mul_of_nonneg_right (by omega) (by omega)
  rw[<-e,Int.add_mul] at this;omega
 have e3:0<=y*2 ^ n:=Int.mul_nonneg hm0 (by omega)
 refine⟨y,w,e1,hm0,e2,hd0,hlt,?_,?_⟩
 . rw[e1,Int.add_mul_emod_self_left,Int.emod_eq_of_lt e3 (by omega)]
 . rw[e1,Int.add_mul_ediv_left _ _ (by decide),Int.ediv_eq_zero_of_lt e3 (by omega)];omega
def ShiftOf (x:List Int) (n:Nat) (r:Option (List Int)):Prop:=∃ l,r=some l/\Dig l/\nv l=nv x*2 ^ n/\l.length=x.length+1
theorem qgV {x o:List Int} {n k:Nat} (hx:Dig x) (hn:n<32) (hk:k<x.length) (hl:o.length=x.length+1) (hd:Dig o) (hi:nv (o.take (k+1))=nv (x.take k)*2 ^ n) (ho:o.getD k 0<2 ^ n):
 bitI BinOp.or IntKind.u32 (o.getD k 0) (IntKind.wrap IntKind.u32 (shlI IntKind.u64 (IntKind.wrap IntKind.u64 (x.getD k 0)) (n:Int)))=o.getD k 0+(x.getD k 0*2 ^ n) % 4294967296 /\
 IntKind.wrap IntKind.u32 (shrI IntKind.u64 (shlI IntKind.u64 (IntKind.wrap IntKind.u64 (x.getD k 0)) (n:Int)) 32)=(x.getD k 0*2 ^ n) / 4294967296 /\
 Dig ((o.set k (o.getD k 0+(x.getD k 0*2 ^ n) % 4294967296)).set (k+1) ((x.getD k 0*2 ^ n) / 4294967296)) /\
 nv (((o.set k (o.getD k 0+(x.getD k 0*2 ^ n) % 4294967296)).set (k+1) ((x.getD k 0*2 ^ n) / 4294967296)).take (k+2))=nv (x.take (k+1))*2 ^ n /\
 ((o.set k (o.getD k 0+(x.getD k 0*2 ^ n) % 4294967296)).set (k+1) ((x.getD k 0*2 ^ n) / 4294967296)).getD (k+1) 0<2 ^ n:=by
 have g:=hx.get k
 have go:=hd.get k
 obtain⟨y,w,q1,q2,q3,q4,q5,q6,q7⟩:=shl_digit g.1 g.2 hn
 have hp:(0:Int)<2 ^ n:=Int.pow_pos (by decide)
 have hy0:0<=y*2 ^ n:=Int.mul_nonneg q2 (by omega)
 have hn2:(2:Int) ^ n<=2147483648:=by
  have e:(2147483648:Int)=2 ^ (31 - n)*2 ^ n:=by rw[<-Int.pow_add,show 31 - n+n=31 by omega];rfl
  have:(0:Int)<2 ^ (31 - n):=Int.pow_pos (by decide)
  have:1*(2:Int) ^ n<=2 ^ (31 - n)*2 ^ n:=Int.mul_le_mul_of_nonneg_right (by omega) (by omega)
  omega
 have esh:shlI IntKind.u64 (IntKind.wrap IntKind.u64 (x.getD k 0)) (n:Int)=x.getD k 0*2 ^ n:=by
  rw[wu64 g.1 (by omega),shl64 _ _ (by omega),Int.emod_eq_of_lt (by omega) (by omega)]
 rw[esh,q6,q7]
 refine⟨?_,?_,?_,?_,?_⟩
 . rw[wu32m,q6];exact or32 n go.1 ho q2 (by omega)
 . rw[q3R,q7];exact wu32 q4 (by omega)
 . exact (hd.set k (by omega) (by omega)).set (k+1) q4 (by omega)
 . rw[q0a,q5B (by simp;omega),q0a,q9S (by omega),q9S (Nat.le_refl _),q1s (by omega),q5B (by omega),q0a x]
   rw[q0a] at hi
   rw[Int.add_mul,<-hi,Int.pow_succ]
   generalize o.getD k 0=z at *
   generalize x.getD k 0=v at *
   have:(4294967296:Int) ^ k*v*2 ^ n=4294967296 ^ k*(y*2 ^ n+4294967296*w):=by rw[<-q1];grind
   rw[this]
   generalize y*2 ^ n=u at *
   grind
 . rw[q5B (by simp;omega)];exact q5
theorem shift_ex {x:List Int} {n:Nat} (hx:Dig x) (hn:n<32):∃ r,ShiftOf x n r:=by
 have h1:=nv_lt hx
 have h0:=nv_nonneg hx
 have hp:(0:Int)<2 ^ n:=Int.pow_pos (by decide)
 have hn2:(2:Int) ^ n<=4294967296:=by
  have e:(4294967296:Int)=2 ^ (32 - n)*2 ^ n:=by rw[<-Int.pow_add,show 32 - n+n=32 by omega];rfl
  have:(0:Int)<2 ^ (32 - n):=Int.pow_pos (by decide)
  have:1*(2:Int) ^ n<=2 ^ (32 - n)*2 ^ n:=Int.mul_le_mul_of_nonneg_right (by omega) (by omega)
  omega
 obtain⟨l,q1,q2,q3⟩:=q15 (x.length+1) (nv x*2 ^ n) (Int.mul_nonneg h0 (by omega)) (by
  rw[Int.pow_succ]
  have e1:(nv x+1)*2 ^ n<=4294967296 ^ x.length*2 ^ n:=Int.mul_le_mul_of_nonneg_right (by omega) (by omega)
  have e2:(4294967296:Int) ^ x.length*2 ^ n<=4294967296 ^ x.length*4294967296:=Int.mul_le_mul_of_nonneg_left hn2 (by have:=pow_pos32 x.length;omega)
  have e3:(nv x+1)*2 ^ n=nv x*2 ^ n+2 ^ n:=by rw[Int.add_mul,Int.one_mul]
  omega)
 exact⟨some l,l,rfl,q1,q2,q3⟩
theorem q9H {x:Option (List Int)} {n:Nat} (hx:Dig (x.getD [])) (hn:n<32) (hl:(x.getD []).length<=1099511627776):ownV Pg q2c [⟨tD,x⟩,⟨tI,(n:Int)⟩] tU fun r=>ShiftOf (x.getD []) n r:=by
 refine qhy x (n:Int) (shift_ex hx hn) ⟨?_,?_⟩
 . simp only[szSl];rw[wi64 (by omega) (by omega)];simp only[mkC];omega
 refine loopE (fun p=>p.1=(n:Int)/\p.2.1=x/\p.2.2.1=((x.getD []).length:Int)/\∃ (k:Nat) (o:List Int),p.2.2.2.1=k/\k<=(x.getD []).length/\p.2.2.2.2=some o/\o.length=(x.getD []).length+1/\Dig o/\nv (o.take (k+1))=nv ((x.getD []).take k)*2 ^ n/\o.getD k 0<2 ^ n) (fun p=>((x.getD []).length - p.2.2.2.1).toNat)
  ⟨rfl,rfl,rfl,0,List.replicate ((x.getD []).length+1) 0,rfl,by omega,?_,by simp,Dig.rep _,?_,?_⟩ ?_
 . show some (List.replicate (IntKind.wrap IntKind.i64 (((x.getD []).length:Int)+1)).toNat 0)=_
   rw[wi64 (by omega) (by omega)];congr 2
 . simp[nv,List.replicate_succ]
 . have:(0:Int)<2 ^ n:=Int.pow_pos (by decide)
   simpa[List.getD,List.replicate_succ] using this
 rintro⟨n',x',len,i,out⟩ ⟨e1,e2,e3,k,o,e4,hk,e5,hlo,hdo,hi,ho⟩
 dsimp only at e1 e2 e3 e4 e5
 subst e1 e2 e3 e4 e5
 refine q00.2 ⟨fun hb=>?_,fun hb=>?_⟩
 . have hb:(k:Int)<((x'.getD []).length:Int):=dec_t hb
   obtain⟨t1,t2,t3,t4,t5⟩:=qgV hx hn (by omega) hlo hdo hi ho
   have ek:IntKind.wrap IntKind.i64 ((k:Int)+1)=((k+1:Nat):Int):=by rw[wi64 (by omega) (by omega)];omega
   simp only[inS,eltS,eltN,toN,ek,Int.toNat_natCast,Option.getD_some,t1,t2]
   refine⟨⟨by omega,by omega⟩,by omega,⟨by omega,by omega⟩,⟨by omega,by omega⟩,by omega,⟨by omega,?_⟩,⟨trivial,trivial,trivial,k+1,_,rfl,by omega,rfl,by simp[hlo],t3,t4,t5⟩,?_⟩
   . simp[setO];omega
   . omega
 . have hb:¬ (k:Int)<((x'.getD []).length:Int):=dec_f hb
   have:k=(x'.getD []).length:=by omega
   subst this
   rw[List.take_of_length_le (by omega),List.take_length] at hi
   exact⟨o,rfl,hdo,hi,hlo⟩
end Go.Proofs.Pf
namespace Go.Proofs.Pf
open Go Go.VM
set_option maxRecDepth 100000
def qar:Ann:=(.seq .nil (.seq .nil (.seq (.reg [] [(2,([],true)),(5,([],true)),(6,([39],false))] none) (.seq .nil (.seq .nil (.seq (.seq .nil (.blk none (.loop ⟨[(7,.own 36),(10,.own 47)],[.var 6 tI,.var 8 tD,.var 9 tI,.var 11 tI,.arr 36 tU,.arr 47 tU]⟩ (.seq .nil (.seq (.blk none (.seq .nil (.seq .nil (.seq .nil (.seq (.blk (some ⟨[(7,.own 36),(10,.own 47)],[.var 6 tI,.var 8 tD,.var 9 tI,.var 11 tI,.var 13 (.int .u64),.arr 36 tU,.arr 47 tU]⟩) (.loop ⟨[(7,.own 36),(10,.own 47)],[.var 6 tI,.var 8 tD,.var 9 tI,.var 11 tI,.var 13 (.int .u64),.var 14 (.int .u64),.arr 36 tU,.arr 47 tU]⟩ (.seq (.seq (.reg [] [] (some ⟨[(7,.own 36),(10,.own 47)],[.var 6 tI,.var 8 tD,.var 9 tI,.var 11 tI,.var 13 (.int .u64),.var 14 (.int .u64),.var 113 (.bool),.arr 36 tU,.arr 47 tU]⟩)) .nil) .nil))) (.seq .nil (.seq (.seq .nil (.blk none (.loop ⟨[(7,.own 36),(10,.own 47)],[.var 6 tI,.var 8 tD,.var 9 tI,.var 11 tI,.var 13 (.int .u64),.var 15 (.int .u64),.var 16 (.int .u64),.var 126 tD,.var 127 tI,.var 128 tI,.arr 36 tU,.arr 47 tU]⟩ .nil))) (.seq .nil (.seq .nil (.seq (.seq .nil (.cond (some ⟨[(7,.own 36),(10,.own 47)],[.var 6 tI,.var 8 tD,.var 9 tI,.var 11 tI,.var 13 (.int .u64),.arr 36 tU,.arr 47 tU]⟩) (.seq .nil (.seq .nil (.seq (.seq .nil (.blk none (.loop ⟨[(7,.own 36),(10,.own 47)],[.var 6 tI,.var 8 tD,.var 9 tI,.var 11 tI,.var 13 (.int .u64),.var 22 tU,.var 187 tD,.var 188 tI,.var 189 tI,.arr 36 tU,.arr 47 tU]⟩ .nil))) .nil))) .nil)) .nil)))))))))) .nil))))) (.seq .nil (.seq (.seq .nil (.blk none (.loop ⟨[(7,.own 36),(10,.own 47),(25,.own 227)],[.var 6 tI,.var 229 tI,.var 230 tI,.arr 36 tU,.arr 47 tU,.arr 227 tU]⟩ .nil))) .nil))))))))
theorem qht {Q:(DL×(DL×Unit))->Prop} (a:DL) (b:DL) (hQ:∃ r,Q r) (h:
 ((inS b (IntKind.wrap IntKind.i64 ((szSl b) - (1:Int))))/\(callV Pg q2T [⟨tU,(eltS (0:Int) b (IntKind.wrap IntKind.i64 ((szSl b) - (1:Int))))⟩] tI (fun p0=>(ownV Pg q2c [⟨tD,a⟩,⟨tI,p0⟩] tU (fun p1=>(ownV Pg q2c [⟨tD,b⟩,⟨tI,p0⟩] tU (fun p2=>(callV Pg q1B [⟨tD,p2⟩] tD (fun p3=>((mkC 4 (IntKind.wrap IntKind.i64 ((szSl p1) - (szSl p3))) (IntKind.wrap IntKind.i64 ((szSl p1) - (szSl p3))))/\(loopV (Int×(DL×(Int×(Int×(DL×DL))))) (fun k4=>(fun p5=>(brV (decide ((0:Int)<=p5.2.2.2.1)) ((inS p5.2.2.2.2.1 (IntKind.wrap IntKind.i64 (p5.2.2.2.1+p5.2.2.1)))/\(((0:Int)<=(32:Int))/\((inS p5.2.2.2.2.1 (IntKind.wrap IntKind.i64 ((IntKind.wrap IntKind.i64 (p5.2.2.2.1+p5.2.2.1)) - (1:Int))))/\((inS p5.2.1 (IntKind.wrap IntKind.i64 (p5.2.2.1 - (1:Int))))/\(((IntKind.wrap IntKind.u64 (eltS (0:Int) p5.2.1 (IntKind.wrap IntKind.i64 (p5.2.2.1 - (1:Int)))))≠(0:Int))/\((inS p5.2.1 (IntKind.wrap IntKind.i64 (p5.2.2.1 - (1:Int))))/\(((IntKind.wrap IntKind.u64 (eltS (0:Int) p5.2.1 (IntKind.wrap IntKind.i64 (p5.2.2.1 - (1:Int)))))≠(0:Int))/\(joinV (Int×(DL×(Int×(Int×(Int×(DL×DL)))))) (fun p6=>(loopV (Int×(DL×(Int×(Int×(Int×(Int×(Int×(DL×(Int×(Int×(DL×DL))))))))))) (fun k7=>(fun p8=>(brV (decide (p8.2.2.2.2.2.2.2.2.2.1<p8.2.2.2.2.2.2.2.2.1)) ((inS p8.2.2.2.2.2.2.2.1 p8.2.2.2.2.2.2.2.2.2.1)/\(((0:Int)<=(32:Int))/\((inS p8.2.2.2.2.2.2.2.2.2.2.1 (IntKind.wrap IntKind.i64 (p8.2.2.2.1+p8.2.2.2.2.2.2.2.2.2.1)))/\((inS p8.2.2.2.2.2.2.2.2.2.2.1 (IntKind.wrap IntKind.i64 (p8.2.2.2.1+p8.2.2.2.2.2.2.2.2.2.1)))/\(((0:Int)<=(63:Int))/\(k7 (p8.1,(p8.2.1,(p8.2.2.1,(p8.2.2.2.1,(p8.2.2.2.2.1,((shrI IntKind.u64 (IntKind.wrap IntKind.u64 ((IntKind.wrap IntKind.u64 ((IntKind.wrap IntKind.u64 (eltN (0:Int) p8.2.2.2.2.2.2.2.2.2.2.1 (toN (IntKind.wrap IntKind.i64 (p8.2.2.2.1+p8.2.2.2.2.2.2.2.2.2.1))))) - (IntKind.wrap IntKind.u64 (IntKind.wrap IntKind.u32 (IntKind.wrap IntKind.u64 ((IntKind.wrap IntKind.u64 (p8.2.2.2.2.1*(IntKind.wrap IntKind.u64 (eltS (0:Int) p8.2.2.2.2.2.2.2.1 p8.2.2.2.2.2.2.2.2.2.1))))+p8.2.2.2.2.2.2.1)))))) - p8.2.2.2.2.2.1)) (63:Int)),((shrI IntKind.u64 (IntKind.wrap IntKind.u64 ((IntKind.wrap IntKind.u64 (p8.2.2.2.2.1*(IntKind.wrap IntKind.u64 (eltS (0:Int) p8.2.2.2.2.2.2.2.1 p8.2.2.2.2.2.2.2.2.2.1))))+p8.2.2.2.2.2.2.1)) (32:Int)),(p8.2.2.2.2.2.2.2.1,(p8.2.2.2.2.2.2.2.2.1,((IntKind.wrap IntKind.i64 (p8.2.2.2.2.2.2.2.2.2.1+(1:Int))),((setO p8.2.2.2.2.2.2.2.2.2.2.1 (toN (IntKind.wrap IntKind.i64 (p8.2.2.2.1+p8.2.2.2.2.2.2.2.2.2.1))) (IntKind.wrap IntKind.u32 (IntKind.wrap IntKind.u64 ((IntKind.wrap IntKind.u64 ((IntKind.wrap IntKind.u64 (eltN (0:Int) p8.2.2.2.2.2.2.2.2.2.2.1 (toN (IntKind.wrap IntKind.i64 (p8.2.2.2.1+p8.2.2.2.2.2.2.2.2.2.1))))) - (IntKind.wrap IntKind.u64 (IntKind.wrap IntKind.u32 (IntKind.wrap IntKind.u64 ((IntKind.wrap IntKind.u64 (p8.2.2.2.2.1*(IntKind.wrap IntKind.u64 (eltS (0:Int) p8.2.2.2.2.2.2.2.1 p8.2.2.2.2.2.2.2.2.2.1))))+p8.2.2.2.2.2.2.1)))))) - p8.2.2.2.2.2.1)))),p8.2.2.2.2.2.2.2.2.2.2.2))))))))))))))))) ((inS p8.2.2.2.2.2.2.2.2.2.2.1 (IntKind.wrap IntKind.i64 (p8.2.2.2.1+p8.2.2.1)))/\((inS p8.2.2.2.2.2.2.2.2.2.2.1 (IntKind.wrap IntKind.i64 (p8.2.2.2.1+p8.2.2.1)))/\(((0:Int)<=(63:Int))/\(joinV (Int×(DL×(Int×(Int×(Int×(DL×DL)))))) (fun p9=>((inS p9.2.2.2.2.2.2 p9.2.2.2.1)/\(k4 (p9.1,(p9.2.1,(p9.2.2.1,((IntKind.wrap IntKind.i64 (p9.2.2.2.1 - (1:Int))),(p9.2.2.2.2.2.1,(setO p9.2.2.2.2.2.2 (toN p9.2.2.2.1) (IntKind.wrap IntKind.u32 p9.2.2.2.2.1)))))))))) (fun k9=>(brV (decide ((shrI IntKind.u64 (IntKind.wrap IntKind.u64 ((IntKind.wrap IntKind.u64 ((IntKind.wrap IntKind.u64 (eltN (0:Int) p8.2.2.2.2.2.2.2.2.2.2.1 (toN (IntKind.wrap IntKind.i64 (p8.2.2.2.1+p8.2.2.1))))) - p8.2.2.2.2.2.2.1)) - p8.2.2.2.2.2.1)) (63:Int))=(1:Int))) (loopV (Int×(DL×(Int×(Int×(Int×(Int×(DL×(Int×(Int×(DL×DL)))))))))) (fun k10=>(fun p11=>(brV (decide (p11.2.2.2.2.2.2.2.2.1<p11.2.2.2.2.2.2.2.1)) ((inS p11.2.2.2.2.2.2.1 p11.2.2.2.2.2.2.2.2.1)/\((inS p11.2.2.2.2.2.2.2.2.2.1 (IntKind.wrap IntKind.i64 (p11.2.2.2.1+p11.2.2.2.2.2.2.2.2.1)))/\(callV Pg q2e [⟨tU,(eltN (0:Int) p11.2.2.2.2.2.2.2.2.2.1 (toN (IntKind.wrap IntKind.i64 (p11.2.2.2.1+p11.2.2.2.2.2.2.2.2.1))))⟩,⟨tU,(eltS (0:Int) p11.2.2.2.2.2.2.1 p11.2.2.2.2.2.2.2.2.1)⟩,⟨tU,p11.2.2.2.2.2.1⟩] (.tup (.pair tU (.pair tU .unit))) (fun p12=>((inS p11.2.2.2.2.2.2.2.2.2.1 (IntKind.wrap IntKind.i64 (p11.2.2.2.1+p11.2.2.2.2.2.2.2.2.1)))/\(k10 (p11.1,(p11.2.1,(p11.2.2.1,(p11.2.2.2.1,(p11.2.2.2.2.1,(p12.2.1,(p11.2.2.2.2.2.2.1,(p11.2.2.2.2.2.2.2.1,((IntKind.wrap IntKind.i64 (p11.2.2.2.2.2.2.2.2.1+(1:Int))),((setO p11.2.2.2.2.2.2.2.2.2.1 (toN (IntKind.wrap IntKind.i64 (p11.2.2.2.1+p11.2.2.2.2.2.2.2.2.1))) p12.1),p11.2.2.2.2.2.2.2.2.2.2)))))))))))))))) ((inS p11.2.2.2.2.2.2.2.2.2.1 (IntKind.wrap IntKind.i64 (p11.2.2.2.1+p11.2.2.1)))/\((inS p11.2.2.2.2.2.2.2.2.2.1 (IntKind.wrap IntKind.i64 (p11.2.2.2.1+p11.2.2.1)))/\(k9 (p11.1,(p11.2.1,(p11.2.2.1,(p11.2.2.2.1,(p11.2.2.2.2.1,((setO p11.2.2.2.2.2.2.2.2.2.1 (toN (IntKind.wrap IntKind.i64 (p11.2.2.2.1+p11.2.2.1))) (IntKind.wrap IntKind.u32 ((eltN (0:Int) p11.2.2.2.2.2.2.2.2.2.1 (toN (IntKind.wrap IntKind.i64 (p11.2.2.2.1+p11.2.2.1))))+p11.2.2.2.2.2.1))),p11.2.2.2.2.2.2.2.2.2.2)))))))))))) (p8.1,(p8.2.1,(p8.2.2.1,(p8.2.2.2.1,((IntKind.wrap IntKind.u64 (p8.2.2.2.2.1 - (1:Int))),((0:Int),(p8.2.1,((szSl p8.2.1),((0:Int),((setO p8.2.2.2.2.2.2.2.2.2.2.1 (toN (IntKind.wrap IntKind.i64 (p8.2.2.2.1+p8.2.2.1))) (IntKind.wrap IntKind.u32 (IntKind.wrap IntKind.u64 ((IntKind.wrap IntKind.u64 ((IntKind.wrap IntKind.u64 (eltN (0:Int) p8.2.2.2.2.2.2.2.2.2.2.1 (toN (IntKind.wrap IntKind.i64 (p8.2.2.2.1+p8.2.2.1))))) - p8.2.2.2.2.2.2.1)) - p8.2.2.2.2.2.1)))),p8.2.2.2.2.2.2.2.2.2.2.2))))))))))) (k9 (p8.1,(p8.2.1,(p8.2.2.1,(p8.2.2.2.1,(p8.2.2.2.2.1,((setO p8.2.2.2.2.2.2.2.2.2.2.1 (toN (IntKind.wrap IntKind.i64 (p8.2.2.2.1+p8.2.2.1))) (IntKind.wrap IntKind.u32 (IntKind.wrap IntKind.u64 ((IntKind.wrap IntKind.u64 ((IntKind.wrap IntKind.u64 (eltN (0:Int) p8.2.2.2.2.2.2.2.2.2.2.1 (toN (IntKind.wrap IntKind.i64 (p8.2.2.2.1+p8.2.2.1))))) - p8.2.2.2.2.2.2.1)) - p8.2.2.2.2.2.1)))),p8.2.2.2.2.2.2.2.2.2.2.2)))))))))))))))) (p6.1,(p6.2.1,(p6.2.2.1,(p6.2.2.2.1,(p6.2.2.2.2.1,((0:Int),((0:Int),(p6.2.1,((szSl p6.2.1),((0:Int),p6.2.2.2.2.2)))))))))))) (fun k6=>(loopV (Int×(DL×(Int×(Int×(Int×(Int×(DL×DL))))))) (fun k7=>(fun p8=>(joinV (Int×(DL×(Int×(Int×(Int×(Int×(Bool×(DL×DL)))))))) (fun p9=>(brV p9.2.2.2.2.2.2.1 ((inS p9.2.1 (IntKind.wrap IntKind.i64 (p9.2.2.1 - (1:Int))))/\(brV (decide ((4294967296:Int)<=(IntKind.wrap IntKind.u64 (p9.2.2.2.2.2.1+(IntKind.wrap IntKind.u64 (eltS (0:Int) p9.2.1 (IntKind.wrap IntKind.i64 (p9.2.2.1 - (1:Int))))))))) (k6 (p9.1,(p9.2.1,(p9.2.2.1,(p9.2.2.2.1,((IntKind.wrap IntKind.u64 (p9.2.2.2.2.1 - (1:Int))),p9.2.2.2.2.2.2.2)))))) (k7 (p9.1,(p9.2.1,(p9.2.2.1,(p9.2.2.2.1,((IntKind.wrap IntKind.u64 (p9.2.2.2.2.1 - (1:Int))),((IntKind.wrap IntKind.u64 (p9.2.2.2.2.2.1+(IntKind.wrap IntKind.u64 (eltS (0:Int) p9.2.1 (IntKind.wrap IntKind.i64 (p9.2.2.1 - (1:Int))))))),p9.2.2.2.2.2.2.2))))))))) (k6 (p9.1,(p9.2.1,(p9.2.2.1,(p9.2.2.2.1,(p9.2.2.2.2.1,p9.2.2.2.2.2.2.2)))))))) (fun k9=>(brV (decide ((4294967296:Int)<=p8.2.2.2.2.1)) (k9 (p8.1,(p8.2.1,(p8.2.2.1,(p8.2.2.2.1,(p8.2.2.2.2.1,(p8.2.2.2.2.2.1,(true,p8.2.2.2.2.2.2)))))))) ((inS p8.2.1 (IntKind.wrap IntKind.i64 (p8.2.2.1 - (2:Int))))/\(((0:Int)<=(32:Int))/\((inS p8.2.2.2.2.2.2.1 (IntKind.wrap IntKind.i64 ((IntKind.wrap IntKind.i64 (p8.2.2.2.1+p8.2.2.1)) - (2:Int))))/\(k9 (p8.1,(p8.2.1,(p8.2.2.1,(p8.2.2.2.1,(p8.2.2.2.2.1,(p8.2.2.2.2.2.1,((decide ((bitI BinOp.or IntKind.u64 (shlI IntKind.u64 p8.2.2.2.2.2.1 (32:Int)) (IntKind.wrap IntKind.u64 (eltN (0:Int) p8.2.2.2.2.2.2.1 (toN (IntKind.wrap IntKind.i64 ((IntKind.wrap IntKind.i64 (p8.2.2.2.1+p8.2.2.1)) - (2:Int)))))))<(IntKind.wrap IntKind.u64 (p8.2.2.2.2.1*(IntKind.wrap IntKind.u64 (eltS (0:Int) p8.2.1 (IntKind.wrap IntKind.i64 (p8.2.2.1 - (2:Int))))))))),p8.2.2.2.2.2.2)))))))))))))))) (p5.1,(p5.2.1,(p5.2.2.1,(p5.2.2.2.1,((IntKind.wrap IntKind.u64 (Int.tdiv (bitI BinOp.or IntKind.u64 (shlI IntKind.u64 (IntKind.wrap IntKind.u64 (eltN (0:Int) p5.2.2.2.2.1 (toN (IntKind.wrap IntKind.i64 (p5.2.2.2.1+p5.2.2.1))))) (32:Int)) (IntKind.wrap IntKind.u64 (eltN (0:Int) p5.2.2.2.2.1 (toN (IntKind.wrap IntKind.i64 ((IntKind.wrap IntKind.i64 (p5.2.2.2.1+p5.2.2.1)) - (1:Int))))))) (IntKind.wrap IntKind.u64 (eltS (0:Int) p5.2.1 (IntKind.wrap IntKind.i64 (p5.2.2.1 - (1:Int))))))),((Int.tmod (bitI BinOp.or IntKind.u64 (shlI IntKind.u64 (IntKind.wrap IntKind.u64 (eltN (0:Int) p5.2.2.2.2.1 (toN (IntKind.wrap IntKind.i64 (p5.2.2.2.1+p5.2.2.1))))) (32:Int)) (IntKind.wrap IntKind.u64 (eltN (0:Int) p5.2.2.2.2.1 (toN (IntKind.wrap IntKind.i64 ((IntKind.wrap IntKind.i64 (p5.2.2.2.1+p5.2.2.1)) - (1:Int))))))) (IntKind.wrap IntKind.u64 (eltS (0:Int) p5.2.1 (IntKind.wrap IntKind.i64 (p5.2.2.1 - (1:Int)))))),p5.2.2.2.2)))))))))))))))) ((mkC 4 p5.2.2.1 p5.2.2.1)/\(loopV (Int×(Int×(Int×(DL×(DL×DL))))) (fun k6=>(fun p7=>(brV (decide (p7.2.2.1<p7.2.1)) ((inS p7.2.2.2.1 p7.2.2.1)/\((inS p7.2.2.2.1 (IntKind.wrap IntKind.i64 (p7.2.2.1+(1:Int))))/\(((0:Int)<=(32:Int))/\(((0:Int)<=p7.1)/\((inS p7.2.2.2.2.2 p7.2.2.1)/\(k6 (p7.1,(p7.2.1,((IntKind.wrap IntKind.i64 (p7.2.2.1+(1:Int))),(p7.2.2.2.1,(p7.2.2.2.2.1,(setO p7.2.2.2.2.2 (toN p7.2.2.1) (IntKind.wrap IntKind.u32 (shrI IntKind.u64 (bitI BinOp.or IntKind.u64 (IntKind.wrap IntKind.u64 (eltN (0:Int) p7.2.2.2.1 (toN p7.2.2.1))) (shlI IntKind.u64 (IntKind.wrap IntKind.u64 (eltN (0:Int) p7.2.2.2.1 (toN (IntKind.wrap IntKind.i64 (p7.2.2.1+(1:Int)))))) (32:Int))) p7.1)))))))))))))) (Q (p7.2.2.2.2.1,(p7.2.2.2.2.2,())))))) (p5.1,((szSl (some (repS p5.2.2.1 (0:Int)))),((0:Int),(p5.2.2.2.2.1,(p5.2.2.2.2.2,(some (repS p5.2.2.1 (0:Int))))))))))))) (p0,(p3,((szSl p3),((IntKind.wrap IntKind.i64 ((IntKind.wrap IntKind.i64 ((szSl p1) - (szSl p3))) - (1:Int))),(p1,(some (repS (IntKind.wrap IntKind.i64 ((szSl p1) - (szSl p3))) (0:Int)))))))))))))))))))):
 callV Pg q2O [⟨tD,a⟩,⟨tD,b⟩] (.tup (.pair tD (.pair tD .unit))) Q:=
 q02 (c:=q01 q7c) (ann:=qar) qcQ rfl qfa rfl rfl hQ (kcast (by kernel_rfl) h)
def qa8:Ann:=(.seq .nil (.seq (.seq (.reg [] [] (some ⟨[(2,.ref 2 0),(3,.ref 3 0),(4,.ref 4 0)],[.var 24 (.bool),.box 2 tEI,.box 3 tEI,.box 4 tEI]⟩)) (.cond (some ⟨[(2,.ref 2 0),(3,.ref 3 0),(4,.ref 4 0)],[.box 2 tEI,.box 3 tEI,.box 4 tEI]⟩) (.seq .nil (.seq (.reg [] [] (some ⟨[(2,.ref 2 0),(3,.ref 3 0),(4,.ref 4 0)],[.var 6 (.int .u64),.var 48 (.bool),.box 2 tEI,.box 3 tEI,.box 4 tEI]⟩)) .nil)) .nil)) (.seq .nil (.seq .nil (.seq .nil (.seq (.seq .nil (.blk none (.loop ⟨[(4,.ref 4 0),(11,.own 73)],[.var 7 tI,.var 9 tI,.var 10 tD,.var 74 tD,.var 75 tI,.var 76 tI,.box 4 tEI,.arr 73 tU]⟩ (.seq .nil (.seq .nil (.seq (.blk none (.seq .nil (.seq .nil (.seq (.seq .nil (.blk none (.loop ⟨[(4,.ref 4 0),(11,.own 73)],[.var 7 tI,.var 9 tI,.var 10 tD,.var 12 tI,.var 13 tU,.var 14 (.int .u64),.var 74 tD,.var 75 tI,.var 76 tI,.var 81 tD,.var 82 tI,.var 83 tI,.box 4 tEI,.arr 73 tU]⟩ .nil))) .nil)))) .nil)))))) (.seq (.reg [] [(4,([73],false))] none) .nil)))))))
theorem qhb {Q:DE->Prop} (a:DE) (b:DE) (hQ:∃ r,Q r) (h:
 (joinV (Bool×(DE×DR)) (fun p0=>(joinV (DE×DR) (fun p1=>(callV Pg q0w [⟨tEI,p1.1⟩] (.tup (.pair tI (.pair tD .unit))) (fun p2=>(callV Pg q0w [⟨tEI,p1.2.1⟩] (.tup (.pair tI (.pair tD .unit))) (fun p3=>((mkC 4 (IntKind.wrap IntKind.i64 ((szSl p2.2.1)+(szSl p3.2.1))) (IntKind.wrap IntKind.i64 ((szSl p2.2.1)+(szSl p3.2.1))))/\(loopV (Int×(Int×(DL×(DL×(Int×(Int×(DE×DL))))))) (fun k4=>(fun p5=>(brV (decide (p5.2.2.2.2.2.1<p5.2.2.2.2.1)) ((inS p5.2.2.2.1 p5.2.2.2.2.2.1)/\(loopV (Int×(Int×(DL×(Int×(Int×(Int×(DL×(Int×(Int×(DL×(Int×(Int×(DE×DL))))))))))))) (fun k6=>(fun p7=>(brV (decide (p7.2.2.2.2.2.2.2.2.2.2.2.1<p7.2.2.2.2.2.2.2.2.2.2.1)) ((inS p7.2.2.2.2.2.2.2.2.2.1 p7.2.2.2.2.2.2.2.2.2.2.2.1)/\((inS p7.2.2.2.2.2.2.2.2.2.2.2.2.2 (IntKind.wrap IntKind.i64 (p7.2.2.2.1+p7.2.2.2.2.2.2.2.2.2.2.2.1)))/\((inS p7.2.2.2.2.2.2.2.2.2.2.2.2.2 (IntKind.wrap IntKind.i64 (p7.2.2.2.1+p7.2.2.2.2.2.2.2.2.2.2.2.1)))/\(((0:Int)<=(32:Int))/\(k6 (p7.1,(p7.2.1,(p7.2.2.1,(p7.2.2.2.1,(p7.2.2.2.2.1,((shrI IntKind.u64 (IntKind.wrap IntKind.u64 (p7.2.2.2.2.2.1+(IntKind.wrap IntKind.u64 ((IntKind.wrap IntKind.u64 ((IntKind.wrap IntKind.u64 p7.2.2.2.2.1)*(IntKind.wrap IntKind.u64 (eltS (0:Int) p7.2.2.2.2.2.2.2.2.2.1 p7.2.2.2.2.2.2.2.2.2.2.2.1))))+(IntKind.wrap IntKind.u64 (eltN (0:Int) p7.2.2.2.2.2.2.2.2.2.2.2.2.2 (toN (IntKind.wrap IntKind.i64 (p7.2.2.2.1+p7.2.2.2.2.2.2.2.2.2.2.2.1))))))))) (32:Int)),(p7.2.2.2.2.2.2.1,(p7.2.2.2.2.2.2.2.1,(p7.2.2.2.2.2.2.2.2.1,(p7.2.2.2.2.2.2.2.2.2.1,(p7.2.2.2.2.2.2.2.2.2.2.1,((IntKind.wrap IntKind.i64 (p7.2.2.2.2.2.2.2.2.2.2.2.1+(1:Int))),(p7.2.2.2.2.2.2.2.2.2.2.2.2.1,(setO p7.2.2.2.2.2.2.2.2.2.2.2.2.2 (toN (IntKind.wrap IntKind.i64 (p7.2.2.2.1+p7.2.2.2.2.2.2.2.2.2.2.2.1))) (IntKind.wrap IntKind.u32 (IntKind.wrap IntKind.u64 (p7.2.2.2.2.2.1+(IntKind.wrap IntKind.u64 ((IntKind.wrap IntKind.u64 ((IntKind.wrap IntKind.u64 p7.2.2.2.2.1)*(IntKind.wrap IntKind.u64 (eltS (0:Int) p7.2.2.2.2.2.2.2.2.2.1 p7.2.2.2.2.2.2.2.2.2.2.2.1))))+(IntKind.wrap IntKind.u64 (eltN (0:Int) p7.2.2.2.2.2.2.2.2.2.2.2.2.2 (toN (IntKind.wrap IntKind.i64 (p7.2.2.2.1+p7.2.2.2.2.2.2.2.2.2.2.2.1))))))))))))))))))))))))))))) ((inS p7.2.2.2.2.2.2.2.2.2.2.2.2.2 (IntKind.wrap IntKind.i64 (p7.2.2.2.1+(szSl p7.2.2.1))))/\(k4 (p7.1,(p7.2.1,(p7.2.2.1,(p7.2.2.2.2.2.2.1,(p7.2.2.2.2.2.2.2.1,((IntKind.wrap IntKind.i64 (p7.2.2.2.2.2.2.2.2.1+(1:Int))),(p7.2.2.2.2.2.2.2.2.2.2.2.2.1,(setO p7.2.2.2.2.2.2.2.2.2.2.2.2.2 (toN (IntKind.wrap IntKind.i64 (p7.2.2.2.1+(szSl p7.2.2.1)))) (IntKind.wrap IntKind.u32 p7.2.2.2.2.2.1)))))))))))))) (p5.1,(p5.2.1,(p5.2.2.1,(p5.2.2.2.2.2.1,((eltS (0:Int) p5.2.2.2.1 p5.2.2.2.2.2.1),((0:Int),(p5.2.2.2.1,(p5.2.2.2.2.1,(p5.2.2.2.2.2.1,(p5.2.2.1,((szSl p5.2.2.1),((0:Int),(p5.2.2.2.2.2.2.1,p5.2.2.2.2.2.2.2))))))))))))))) (callV Pg q0i [⟨tI,(IntKind.wrap IntKind.i64 (p5.1*p5.2.1))⟩,⟨tD,p5.2.2.2.2.2.2.2⟩] tEI (fun p6=>(Q p6)))))) (p2.1,(p3.1,(p3.2.1,(p2.2.1,((szSl p2.2.1),((0:Int),(p1.2.2,(some (repS (IntKind.wrap IntKind.i64 ((szSl p2.2.1)+(szSl p3.2.1))) (0:Int))))))))))))))))) (fun k1=>(brV p0.1 (callV Pg q2X [⟨(.int .u64),(IntKind.wrap IntKind.u64 (maxI p0.2.1.1 (IntKind.wrap IntKind.i64 ((0:Int) - p0.2.1.1))))⟩,⟨(.int .u64),(IntKind.wrap IntKind.u64 (maxI p0.2.2.1.1 (IntKind.wrap IntKind.i64 ((0:Int) - p0.2.2.1.1))))⟩] (.tup (.pair (.int .u64) (.pair (.int .u64) .unit))) (fun p2=>(joinV (Int×(Bool×(DE×DR))) (fun p3=>(brV p3.2.1 (callV Pg q0O [⟨tEI,p3.2.2.1⟩] tI (fun p4=>(callV Pg q0O [⟨tEI,p3.2.2.2.1⟩] tI (fun p5=>(Q ((IntKind.wrap IntKind.i64 ((IntKind.wrap IntKind.i64 (p4*p5))*(IntKind.wrap IntKind.i64 p3.1))),none)))))) (k1 (p3.2.2.1,(p3.2.2.2.1,p3.2.2.2.2))))) (fun k3=>(brV (decide (p2.1=(0:Int))) (k3 (p2.2.1,((decide (p2.2.1<(4611686018427387904:Int))),(p0.2.1,(p0.2.2.1,p0.2.2.2))))) (k3 (p2.2.1,(false,(p0.2.1,(p0.2.2.1,p0.2.2.2)))))))))) (k1 (p0.2.1,(p0.2.2.1,p0.2.2.2))))))) (fun k0=>(brV (Option.isNone a.2) (k0 ((Option.isNone b.2),(a,(b,((0:Int),none))))) (k0 (false,(a,(b,((0:Int),none))))))))):
 callV Pg q0v [⟨tEI,a⟩,⟨tEI,b⟩] tEI Q:=
 q02 (c:=q01 q6T) (ann:=qa8) qcx rfl qeR rfl rfl hQ (kcast (by kernel_rfl) h)
end Go.Proofs.Pf
namespace Go.Proofs.Pf
open Go Go.VM
theorem q47 {p q z c:Int} (hp:0<=p) (hp':p<4294967296) (hq:0<=q) (hq':q<4294967296) (hz:0<=z) (hz':z<4294967296) (hc:0<=c) (hc':c<4294967296):
 0<=p*q+z+c/\p*q+z+c<18446744073709551616/\IntKind.wrap IntKind.u64 (c+IntKind.wrap IntKind.u64 (IntKind.wrap IntKind.u64 (IntKind.wrap IntKind.u64 p*IntKind.wrap IntKind.u64 q)+IntKind.wrap IntKind.u64 z))=p*q+z+c:=by
 have h0:0<=p*q:=Int.mul_nonneg hp hq
 have h1:p*q<=4294967295*4294967295:=Int.mul_le_mul (by omega) (by omega) hq (by omega)
 rw[wu64 hp (by omega),wu64 hq (by omega),wu64 hz (by omega)]
 generalize p*q=m at *
 rw[wu64 h0 (by omega),wu64 (x:=m+z) (by omega) (by omega),wu64 (by omega) (by omega)]
 omega
structure MInv (x y:List Int) (i:Nat) (o:List Int):Prop where
 len:o.length=x.length+y.length
 dig:Dig o
 val:nv o=nv (x.take i)*nv y
 zero:∀ j,i+y.length<=j->o.getD j 0=0
structure MIn (x y:List Int) (i k:Nat) (c:Int) (o:List Int):Prop where
 len:o.length=x.length+y.length
 dig:Dig o
 c0:0<=c
 c1:c<4294967296
 val:nv o+4294967296 ^ (i+k)*c=nv (x.take i)*nv y+4294967296 ^ i*x.getD i 0*nv (y.take k)
 zero:∀ j,i+y.length<=j->o.getD j 0=0
theorem MIn.start {x y:List Int} {i:Nat} {o:List Int} (h:MInv x y i o):MIn x y i 0 0 o:=⟨h.len,h.dig,Int.le_refl _,by decide,by simp[nv,h.val],h.zero⟩
theorem MIn.step {x y:List Int} {i k:Nat} {c:Int} {o:List Int} (hx:Dig x) (hy:Dig y) (hi:i<x.length) (hk:k<y.length) (h:MIn x y i k c o):
 MIn x y i (k+1) ((x.getD i 0*y.getD k 0+o.getD (i+k) 0+c) / 4294967296) (o.set (i+k) ((x.getD i 0*y.getD k 0+o.getD (i+k) 0+c) % 4294967296)):=by
 have gx:=hx.get i
 have gy:=hy.get k
 have go:=h.dig.get (i+k)
 have hl:=h.len
 obtain⟨m1,m2,_⟩:=q47 gx.1 gx.2 gy.1 gy.2 go.1 go.2 h.c0 h.c1
 refine⟨by simp[hl],h.dig.set _ (by omega) (by omega),by omega,by omega,?_,fun j hj=>?_⟩
 . rw[q0J _ _ _ (by omega),q0a]
   have hv:=h.val
   have hdm:=Int.emod_add_mul_ediv (x.getD i 0*y.getD k 0+o.getD (i+k) 0+c) 4294967296
   generalize (x.getD i 0*y.getD k 0+o.getD (i+k) 0+c) % 4294967296=d at *
   generalize (x.getD i 0*y.getD k 0+o.getD (i+k) 0+c) / 4294967296=e at *
   have e1:(4294967296:Int) ^ (i+(k+1))=4294967296 ^ (i+k)*4294967296:=by rw[<-Nat.add_assoc,Int.pow_succ]
   have e2:(4294967296:Int) ^ (i+k)=4294967296 ^ i*4294967296 ^ k:=Int.pow_add ..
   rw[e1]
   rw[e2] at hv ⊢
   generalize (4294967296:Int) ^ i=bi at *
   generalize (4294967296:Int) ^ k=bk at *
   grind
 . rw[q1s (by omega)];exact h.zero j hj
theorem MIn.fin {x y:List Int} {i:Nat} {c:Int} {o:List Int} (hi:i<x.length) (h:MIn x y i y.length c o):MInv x y (i+1) (o.set (i+y.length) c):=by
 have hl:=h.len
 refine⟨by simp[hl],h.dig.set _ h.c0 h.c1,?_,fun j hj=>?_⟩
 . rw[q0J _ _ _ (by omega),h.zero _ (Nat.le_refl _),q0a]
   have hv:=h.val
   rw[List.take_length] at hv
   grind
 . rw[q1s (by omega)];exact h.zero j (by omega)
theorem q6c (n m:Int):sgn (n*m)=sgn n*sgn m:=by
 rcases sgn3 n with ⟨e1,h1⟩ | ⟨e1,h1⟩ | ⟨e1,h1⟩<;>rcases sgn3 m with ⟨e2,h2⟩ | ⟨e2,h2⟩ | ⟨e2,h2⟩<;>rw[e1,e2]
 . have:=Int.mul_pos h1 h2;rw[sgn,if_pos this];rfl
 . have:=Int.mul_neg_of_pos_of_neg h1 h2;rw[sgn,if_neg (by omega),if_pos this];rfl
 . rw[h2];simp[sgn]
 . have:=Int.mul_neg_of_neg_of_pos h1 h2;rw[sgn,if_neg (by omega),if_pos this];rfl
 . have:=Int.mul_pos_of_neg_of_neg h1 h2;rw[sgn,if_pos this];rfl
 . rw[h2];simp[sgn]
 . rw[h1];simp[sgn]
 . rw[h1];simp[sgn]
 . rw[h1];simp[sgn]
theorem q6b (n:Int):sgn n*n.natAbs=n:=by
 rcases sgn3 n with ⟨e1,h1⟩ | ⟨e1,h1⟩ | ⟨e1,h1⟩<;>rw[e1]<;>omega
theorem sgn_cases (n:Int):sgn n=1∨sgn n = -1∨(sgn n=0/\n=0):=by
 rcases sgn3 n with ⟨e1,h1⟩ | ⟨e1,h1⟩ | ⟨e1,h1⟩
 . exact .inl e1
 . exact .inr (.inl e1)
 . exact .inr (.inr ⟨e1,h1⟩)
theorem s_Mul {x y:Int×Option (List Int)} {n m:Int} {k j:Nat} (hx:IV x n) (hy:IV y m) (fx:Fit k n) (fy:Fit j m) (hk:k<=1073741824) (hj:j<=1073741824):callV Pg q0v [⟨tEI,x⟩,⟨tEI,y⟩] tEI fun r=>IV r (n*m):=by
 refine qhb x y (IV_ex _) (joinR (fun p=>p=(Option.isNone x.2 && Option.isNone y.2,x,y,(0:Int),none)) ?_ ?_)
 . rintro _ rfl
   refine joinR (fun p=>p=(x,y,(0:Int),none)) ?_ ?_
   . rintro _ rfl
     dsimp only
     refine (q3N hx).mono ?_
     rintro⟨s,d,_⟩ ⟨e1,X,e2,d1,t1,v1⟩
     dsimp only at e1 e2;subst e1 e2
     refine (q3N hy).mono ?_
     rintro⟨s,d,_⟩ ⟨e1,Y,e2,d2,t2,v2⟩
     dsimp only at e1 e2;subst e1 e2
     have l1:=t1.fit d1 fx v1
     have l2:=t2.fit d2 fy v2
     have el:IntKind.wrap IntKind.i64 ((X.length:Int)+(Y.length:Int))=(X.length:Int)+(Y.length:Int):=wi64 (by omega) (by omega)
     refine⟨?_,?_⟩
     . show mkC 4 (IntKind.wrap IntKind.i64 ((X.length:Int)+(Y.length:Int))) (IntKind.wrap IntKind.i64 ((X.length:Int)+(Y.length:Int)))
       rw[el];simp only[mkC];omega
     refine loopE (fun p=>∃ (i:Nat) (o:List Int),i<=X.length/\MInv X Y i o/\p=(sgn n,sgn m,some Y,some X,(X.length:Int),(i:Int),((0:Int),none),some o)) (fun p=>((X.length:Int) - p.2.2.2.2.2.1).toNat) ⟨0,List.replicate (X.length+Y.length) 0,by omega,⟨by simp,Dig.rep _,by rw[q3z];simp[nv],fun j _=>?_⟩,?_⟩ ?_
     . simp only[List.getD,List.getElem?_replicate];split<;>rfl
     . show (sgn n,sgn m,some Y,some X,(X.length:Int),(0:Int),((0:Int),none),some (List.replicate (IntKind.wrap IntKind.i64 ((X.length:Int)+(Y.length:Int))).toNat 0))=_
       rw[el]
       have:((X.length:Int)+(Y.length:Int)).toNat=X.length+Y.length:=by omega
       rw[this];rfl
     rintro _ ⟨i,o,hi,hI,rfl⟩
     refine q00.2 ⟨fun hb=>?_,fun hb=>?_⟩
     . have hb:(i:Int)<(X.length:Int):=dec_t hb
       refine⟨⟨by dsimp only;omega,by dsimp only[Option.getD_some];omega⟩,?_⟩
       dsimp only
       simp only[eltS,Option.getD_some,Int.toNat_natCast,szSl]
       refine loopE (fun p=>∃ (k:Nat) (c:Int) (o:List Int),k<=Y.length/\MIn X Y i k c o/\p=(sgn n,sgn m,some Y,(i:Int),X.getD i 0,c,some X,(X.length:Int),(i:Int),some Y,(Y.length:Int),(k:Int),((0:Int),none),some o)) (fun p=>((Y.length:Int) - p.2.2.2.2.2.2.2.2.2.2.2.1).toNat) ⟨0,0,o,by omega,MIn.start hI,rfl⟩ ?_
       rintro _ ⟨k,c,o,hk',hM,rfl⟩
       have hl:=hM.len
       refine q00.2 ⟨fun hc=>?_,fun hc=>?_⟩
       . have hc:(k:Int)<(Y.length:Int):=dec_t hc
         have ei:IntKind.wrap IntKind.i64 ((i:Int)+(k:Int))=((i+k:Nat):Int):=by rw[wi64 (by omega) (by omega)];omega
         have ek:IntKind.wrap IntKind.i64 ((k:Int)+1)=((k+1:Nat):Int):=by rw[wi64 (by omega) (by omega)];omega
         have gx:=d1.get i
         have gy:=d2.get k
         have go:=hM.dig.get (i+k)
         obtain⟨m1,m2,m3⟩:=q47 gx.1 gx.2 gy.1 gy.2 go.1 go.2 hM.c0 hM.c1
         have hst:=hM.step d1 d2 (by omega) (by omega)
         simp only[inS,eltN,toN,Option.getD_some,Int.toNat_natCast,ei,ek,m3,q3R,wu32m]
         refine⟨⟨by omega,by omega⟩,⟨by omega,by omega⟩,⟨by omega,by omega⟩,by omega,⟨k+1,_,_,by omega,hst,rfl⟩,by omega⟩
       . have hc:¬ (k:Int)<(Y.length:Int):=dec_f hc
         have:k=Y.length:=by omega
         subst this
         have ei:IntKind.wrap IntKind.i64 ((i:Int)+(Y.length:Int))=((i+Y.length:Nat):Int):=by rw[wi64 (by omega) (by omega)];omega
         have ek:IntKind.wrap IntKind.i64 ((i:Int)+1)=((i+1:Nat):Int):=by rw[wi64 (by omega) (by omega)];omega
         have hf:=hM.fin (by omega)
         simp only[inS,toN,Option.getD_some,Int.toNat_natCast,ei,ek,wu32 hM.c0 hM.c1]
         refine⟨⟨by omega,by omega⟩,⟨i+1,_,by omega,hf,rfl⟩,by omega⟩
     . have hb:¬ (i:Int)<(X.length:Int):=dec_f hb
       have:i=X.length:=by omega
       subst this
       have hv:=hI.val
       rw[List.take_length,v1,v2] at hv
       have es:IntKind.wrap IntKind.i64 (sgn n*sgn m)=sgn (n*m):=by
        rw[q6c]
        rcases sgn_cases n with e1 | e1 | ⟨e1,_⟩<;>rcases sgn_cases m with e2 | e2 | ⟨e2,_⟩<;>rw[e1,e2]<;>rfl
       dsimp only
       rw[es]
       have hln:=hI.len
       refine (q1X (b:=some o) hI.dig ?_ (by simp only[Option.getD_some];omega)).mono ?_
       . rcases sgn_cases (n*m) with e | e | ⟨e,e0⟩
         . exact .inl e
         . exact .inr (.inl e)
         . refine .inr (.inr ⟨e,?_⟩)
           rw[Option.getD_some,hv]
           rcases Int.mul_eq_zero.1 e0 with rfl | rfl<;>simp
       . intro r hr
         rw[Option.getD_some,hv] at hr
         have:sgn (n*m)*((n.natAbs:Int)*(m.natAbs:Int))=n*m:=by
          have:=q6b (n*m)
          rw[Int.natAbs_mul] at this
          simpa using this
         rw[this] at hr
         exact hr
   . intro k1 hk1
     refine q00.2 ⟨fun h=>?_,fun h=>hk1 _ rfl⟩
     obtain⟨v,d⟩:=x
     obtain⟨w,e⟩:=y
     simp only[Bool.and_eq_true,Option.isNone_iff_eq_none] at h
     obtain⟨rfl,rfl⟩:=h
     have hx':=hx
     have hy':=hy
     obtain⟨rfl,h1,h2⟩:=hx
     obtain⟨rfl,h3,h4⟩:=hy
     dsimp only at h1 h2 h3 h4 hk1 hx' hy' ⊢
     have ab:∀ v:Int,-4611686018427387904<v->v<4611686018427387904->IntKind.wrap IntKind.u64 (maxI v (IntKind.wrap IntKind.i64 (0 - v)))=(v.natAbs:Int):=by
      intro v h1 h2
      rw[wi64 (by omega) (by omega)]
      unfold maxI
      split
      . rw[wu64 (by omega) (by omega)];omega
      . rw[wu64 (by omega) (by omega)];omega
     rw[ab v h1 h2,ab w h3 h4]
     have hp:(v.natAbs:Int)*(w.natAbs:Int)=((v*w).natAbs:Int):=by rw[Int.natAbs_mul];simp
     refine (s_Mul64 (by omega) (by omega) (by omega) (by omega)).mono ?_
     rintro _ rfl
     rw[hp]
     refine joinR (fun p=>∃ b:Bool,p=(((v*w).natAbs:Int) % 18446744073709551616,b,(v,none),(w,none),(0:Int),none)/\(b=true->((v*w).natAbs:Int)<4611686018427387904)) ?_ ?_
     . rintro _ ⟨b,rfl,hb⟩
       refine q00.2 ⟨fun h=>?_,fun h=>hk1 _ rfl⟩
       have hb:=hb h
       refine (q2G hx').mono ?_
       rintro _ rfl
       refine (q2G hy').mono ?_
       rintro _ rfl
       dsimp only
       have es:IntKind.wrap IntKind.i64 (sgn v*sgn w)=sgn (v*w):=by
        rw[q6c]
        rcases sgn_cases v with e1 | e1 | ⟨e1,_⟩<;>rcases sgn_cases w with e2 | e2 | ⟨e2,_⟩<;>rw[e1,e2]<;>rfl
       rw[es,Int.emod_eq_of_lt (by omega) (by omega),wi64 (x:=((v*w).natAbs:Int)) (by omega) (by omega),q6b,wi64 (by omega) (by omega)]
       exact⟨rfl,by omega,by omega⟩
     . intro k hk
       refine q00.2 ⟨fun h=>?_,fun h=>?_⟩
       . have h:((v*w).natAbs:Int) / 18446744073709551616=0:=dec_t h
         refine hk _ ⟨_,rfl,fun hb=>?_⟩
         have hb:((v*w).natAbs:Int) % 18446744073709551616<4611686018427387904:=dec_t hb
         omega
       . exact hk _ ⟨false,rfl,fun hb=>by simp at hb⟩
 . intro k hk
   refine q00.2 ⟨fun h=>hk _ (by rw[h];rfl),fun h=>hk _ (by rw[h];rfl)⟩
end Go.Proofs.Pf
namespace Go.Proofs.Pf
open Go Go.VM
def LongOf (x y:List Int) (r:Option (List Int)×Option (List Int)×Unit):Prop:=
 (∃ l,r.1=some l/\Dig l/\nv l=nv x / nv y/\l.length<=x.length+1)/\∃ l,r.2.1=some l/\Dig l/\nv l=nv x % nv y/\l.length<=y.length
def LongS:Prop:=∀ (x y:List Int),Dig x->Dig y->Trm y->2<=y.length->y.length<=x.length->x.length<=1073741824->
 callV Pg q2O [⟨tD,some x⟩,⟨tD,some y⟩] (.tup (.pair tD (.pair tD .unit))) fun r=>LongOf x y r
def QuoOf (n m:Int) (r:(Int×Option (List Int))×(Int×Option (List Int))×Unit):Prop:=IV r.1 (n.tdiv m)/\IV r.2.1 (n.tmod m)
theorem quo_sgn (n m:Int) (hm:m≠0):sgn n*sgn m*((n.natAbs:Int) / (m.natAbs:Int))=n.tdiv m/\sgn n*((n.natAbs:Int) % (m.natAbs:Int))=n.tmod m:=by
 have hn:=sgn3 n
 have hm':=sgn3 m
 have key:∀ a b:Int,0<=a->a.tdiv b=a / b/\a.tmod b=a % b:=fun a b h=>⟨Int.tdiv_eq_ediv_of_nonneg h,Int.tmod_eq_emod_of_nonneg h⟩
 rcases hn with ⟨e1,h1⟩ | ⟨e1,h1⟩ | ⟨e1,h1⟩<;>rcases hm' with ⟨e2,h2⟩ | ⟨e2,h2⟩ | ⟨e2,h2⟩<;>rw[e1,e2]
 . rw[show (n.natAbs:Int)=n by omega,show (m.natAbs:Int)=m by omega,(key n m (by omega)).1,(key n m (by omega)).2];omega
 . rw[show (n.natAbs:Int)=n by omega,show (m.natAbs:Int) = -m by omega]
   obtain⟨m',rfl⟩:∃ m',m = -m':=⟨-m,by omega⟩
   rw[Int.tdiv_neg,Int.tmod_neg,Int.neg_neg,(key n m' (by omega)).1,(key n m' (by omega)).2];omega
 . exact absurd h2 hm
 . obtain⟨n',rfl⟩:∃ n',n = -n':=⟨-n,by omega⟩
   rw[show ((-n').natAbs:Int)=n' by omega,show (m.natAbs:Int)=m by omega]
   rw[Int.neg_tdiv,Int.neg_tmod,(key n' m (by omega)).1,(key n' m (by omega)).2];omega
 . obtain⟨n',rfl⟩:∃ n',n = -n':=⟨-n,by omega⟩
   obtain⟨m',rfl⟩:∃ m',m = -m':=⟨-m,by omega⟩
   rw[show ((-n').natAbs:Int)=n' by omega,show ((-m').natAbs:Int)=m' by omega]
   rw[Int.neg_tdiv,Int.neg_tmod,Int.tdiv_neg,Int.tmod_neg,(key n' m' (by omega)).1,(key n' m' (by omega)).2];omega
 . exact absurd h2 hm
 all_goals (subst h1;simp)
theorem q4A {a b:Int}:cmpI a b<0↔a<b:=by
 unfold cmpI;split
 . constructor<;>intro<;>omega
 . split<;>constructor<;>intro<;>omega
theorem s_Quo (hlong:LongS) {x y:Int×Option (List Int)} {n m:Int} {k:Nat} (hx:IV x n) (hy:IV y m) (hm:m≠0) (fx:Fit k n) (hk:k<=1073741824):callV Pg q1y [⟨tEI,x⟩,⟨tEI,y⟩] (.tup (.pair tEI (.pair tEI .unit))) fun r=>QuoOf n m r:=by
 obtain⟨y1,y2⟩:=quo_sgn n m hm
 refine qhd x y ?_ (joinR (fun p=>p=(Option.isNone x.2 && Option.isNone y.2,x,y,((0:Int),none),((0:Int),none))) ?_ ?_)
 . obtain⟨r1,h1⟩:=IV_ex (n.tdiv m)
   obtain⟨r2,h2⟩:=IV_ex (n.tmod m)
   exact⟨(r1,r2,()),h1,h2⟩
 . rintro _ rfl
   refine q00.2 ⟨fun h=>?_,fun _=>?_⟩
   . obtain⟨v,d⟩:=x
     obtain⟨w,e⟩:=y
     simp only[Bool.and_eq_true,Option.isNone_iff_eq_none] at h
     obtain⟨rfl,rfl⟩:=h
     obtain⟨rfl,h1,h2⟩:=hx
     obtain⟨rfl,h3,h4⟩:=hy
     dsimp only at h1 h2 h3 h4 hm ⊢
     have q1:(v.tdiv w).natAbs<=v.natAbs:=by rw[Int.natAbs_tdiv];exact Nat.div_le_self _ _
     have q2:(v.tmod w).natAbs<=v.natAbs:=by rw[Int.natAbs_tmod];exact Nat.mod_le _ _
     refine⟨hm,hm,⟨?_,by omega,by omega⟩,rfl,by omega,by omega⟩
     exact wi64 (by omega) (by omega)
   . dsimp only
     refine (q3N hx).mono ?_
     rintro⟨s,d,_⟩ ⟨e1,X,e2,d1,t1,v1⟩
     dsimp only at e1 e2;subst e1 e2
     refine (q3N hy).mono ?_
     rintro⟨s,d,_⟩ ⟨e1,Y,e2,d2,t2,v2⟩
     dsimp only at e1 e2;subst e1 e2
     have l1:=t1.fit d1 fx v1
     have hY:Y≠[]:=by rintro rfl;simp only[nv] at v2;omega
     refine (q9F (a:=some X) (b:=some Y) d1 d2 t1 t2 (by simp only[Option.getD_some];omega)).mono ?_
     rintro _ rfl
     simp only[Option.getD_some]
     refine q00.2 ⟨fun h=>?_,fun h=>?_⟩
     . have h:cmpI (nv X) (nv Y)<0:=dec_t h
       rw[q4A,v1,v2] at h
       rw[Int.ediv_eq_zero_of_lt (by omega) h,Int.mul_zero] at y1
       rw[Int.emod_eq_of_lt (by omega) h,q6b] at y2
       refine⟨?_,?_⟩
       . rw[<-y1];exact⟨rfl,by decide,by decide⟩
       . rw[<-y2];exact hx
     . have h:¬ cmpI (nv X) (nv Y)<0:=dec_f h
       rw[q4A] at h
       have hsn:¬ sgn n=0:=by intro e;have:=sgn_z e;subst this;simp at v1;omega
       have es:IntKind.wrap IntKind.i64 (sgn n*sgn m)=sgn n*sgn m:=by
        rcases sgn_cases n with e1 | e1 | ⟨e1,_⟩<;>rcases sgn_cases m with e2 | e2 | ⟨e2,_⟩<;>rw[e1,e2]<;>rfl
       have es2:∀ l:List Int,sgn n*sgn m=1∨sgn n*sgn m = -1∨(sgn n*sgn m=0/\nv l=0):=by
        intro l
        rcases sgn_cases n with e1 | e1 | ⟨e1,_⟩<;>rcases sgn_cases m with e2 | e2 | ⟨_,e2⟩
        all_goals first | exact absurd e2 hm | exact absurd e1 hsn | (rw[e1,e2];simp)
       have fin:∀ (q:Int×Option (List Int)) (r:Int×Option (List Int)) (A B:List Int),nv A=nv X / nv Y->nv B=nv X % nv Y->IV q (sgn n*sgn m*nv A)->IV r (sgn n*nv B)->QuoOf n m (q,r,()):=by
        intro q r A B hA hB hq hr
        rw[hA,v1,v2,y1] at hq
        rw[hB,v1,v2,y2] at hr
        exact⟨hq,hr⟩
       rw[es]
       refine q00.2 ⟨fun h2=>?_,fun h2=>?_⟩
       . have h2:(Y.length:Int)=1:=dec_t h2
         obtain⟨y0,rfl⟩:∃ y0,Y=[y0]:=by
          rcases Y with _ | ⟨y0,_ | ⟨_,_⟩⟩
          . exact absurd rfl hY
          . exact⟨y0,rfl⟩
          . simp at h2;omega
         have g:=d2 y0 (by simp)
         have hy0:y0≠0:=t2 y0 rfl
         refine⟨⟨by omega,by simp⟩,(s_short (x:=some X) (y:=y0) d1 (by omega) g.2 (by simp only[Option.getD_some];omega)).mono ?_⟩
         rintro⟨q,r,_⟩ ⟨l,e1,q1,q2,q3,e2⟩
         dsimp only[Option.getD_some] at e1 e2 q2 q3;subst e1 e2
         have ny:nv [y0]=y0:=by simp[nv]
         have hr0:=Int.emod_nonneg (nv X) hy0
         have hr1:=Int.emod_lt_of_pos (nv X) (show 0<y0 by omega)
         refine (q1X (b:=some l) q1 (es2 _) (by simp only[Option.getD_some];omega)).mono ?_
         intro p5 hp5
         refine (q1X (b:=some [nv X % y0]) (Dig.cons hr0 (by omega) Dig.nil) (sgn_ne hsn) (by simp)).mono ?_
         intro p6 hp6
         exact fin p5 p6 l [nv X % y0] (by rw[ny];exact q2) (by rw[ny];simp[nv]) hp5 hp6
       . have h2:¬ (Y.length:Int)=1:=dec_f h2
         have hl2:Y.length≠0:=fun e=>hY (List.eq_nil_of_length_eq_zero e)
         have hle:Y.length<=X.length:=by
          rcases Nat.lt_or_ge X.length Y.length with hl | hl
          . have:=q0X d1 d2 t2 hl;omega
          . exact hl
         refine (hlong X Y d1 d2 t2 (by omega) hle (by omega)).mono ?_
         rintro⟨q,r,_⟩ ⟨⟨A,e1,q1,q2,q3⟩,B,e2,r1,r2,r3⟩
         dsimp only at e1 e2;subst e1 e2
         refine (q1X (b:=some A) q1 (es2 _) (by simp only[Option.getD_some];omega)).mono ?_
         intro p5 hp5
         refine (q1X (b:=some B) r1 (sgn_ne hsn) (by simp only[Option.getD_some];omega)).mono ?_
         intro p6 hp6
         exact fin p5 p6 A B q2 r2 hp5 hp6
 . intro k hk
   refine q00.2 ⟨fun h=>hk _ (by rw[h];rfl),fun h=>hk _ (by rw[h];rfl)⟩
def ival (x:Int×Option (List Int)):Int:=
 match x.2 with
 | none=>x.1
 | some l=>x.1*nv l
theorem IV.val {x:Int×Option (List Int)} {n:Int} (h:IV x n):ival x=n:=by
 obtain⟨v,d⟩:=x
 cases d with
 | none=>exact h.1
 | some l=>
  obtain⟨_,_,_,h4⟩:=h
  show v*nv l=n
  rcases h4 with ⟨e1,e2⟩ | ⟨e1,e2⟩
  . have e1:v=1:=e1
    rw[e1,e2];omega
  . have e1:v = -1:=e1
    rw[e1,e2];omega
theorem s_Gcd (hlong:LongS) {x y:Int×Option (List Int)} {n m:Int} {k:Nat} (hx:IV x n) (hy:IV y m) (fx:Fit k n) (fy:Fit k m) (hk:k<=1073741824):callV Pg q26 [⟨tEI,x⟩,⟨tEI,y⟩] tEI fun r=>IV r (Int.gcd n m:Int):=by
 refine qh7 x y (IV_ex _) ((s_Abs hx).mono fun p0 h0=>(s_Abs hy).mono fun p1 h1=>?_)
 refine loopE (fun p=>∃ a b:Nat,IV p.1 (a:Int)/\IV p.2.1 (b:Int)/\Nat.gcd a b=Int.gcd n m/\Fit k (a:Int)/\Fit k (b:Int)) (fun p=>(ival p.2.1).natAbs) ⟨n.natAbs,m.natAbs,h0,h1,rfl,fx.of (by simp),fy.of (by simp)⟩ ?_
 rintro⟨A,B,z⟩ ⟨a,b,ha,hb,hg,fa,fb⟩
 dsimp only at ha hb ⊢
 refine (q2G hb).mono ?_
 rintro _ rfl
 refine q00.2 ⟨fun h=>?_,fun h=>?_⟩
 . have h:¬ sgn (b:Int)=0:=not_t h
   have hb0:b≠0:=by rintro rfl;exact h rfl
   refine (s_Quo hlong ha hb (by omega) fa hk).mono ?_
   rintro⟨q,r,_⟩ ⟨_,hr⟩
   dsimp only at hr ⊢
   have e:(a:Int).tmod (b:Int)=((a % b:Nat):Int):=by rw[Int.tmod_eq_emod_of_nonneg (by omega)];simp
   rw[e] at hr
   have hlt:a % b<b:=Nat.mod_lt _ (by omega)
   refine⟨⟨b,a % b,hb,hr,?_,fb,fb.of (by omega)⟩,?_⟩
   . rw[<-hg,Nat.gcd_comm b,<-Nat.gcd_rec b a,Nat.gcd_comm]
   . rw[hr.val,hb.val];omega
 . have h:sgn (b:Int)=0:=not_f h
   have hb0:b=0:=by have:=sgn_z h;omega
   subst hb0
   rw[<-hg,Nat.gcd_zero_right];exact ha
end Go.Proofs.Pf
namespace Go.Proofs.Pf
open Go Go.VM
set_option maxRecDepth 100000
def qbq:Ann:=(.seq .nil (.seq .nil (.seq .nil (.seq .nil (.seq (.reg [] [(2,([],true))] none) (.seq .nil (.seq .nil (.seq (.seq .nil (.blk none (.loop ⟨[(4,.own 58),(9,.own 45)],[.var 8 tI,.var 10 tL,.var 11 tI,.var 12 tI,.arr 58 tI,.arr 45 tI]⟩ (.seq .nil (.seq (.blk none (.seq .nil (.seq (.blk none (.loop ⟨[(4,.own 58),(9,.own 45)],[.var 8 tI,.var 10 tL,.var 11 tI,.var 12 tI,.var 13 tI,.arr 58 tI,.arr 45 tI]⟩ (.blk none (.seq .nil (.seq (.seq (.reg [] [(10,([],true))] none) (.cond none (.seq (.reg [] [(8,([],true))] none) .nil) .nil)) .nil))))) .nil))) .nil))))) (.seq (.reg [] [(4,([45],false))] none) .nil)))))))))
theorem qiq {Q:(DL×(DL×Unit))->Prop} (a:DL) (b:DL) (hQ:∃ r,Q r) (h:
 (brV (decide ((szSl b)=(1:Int))) ((inS b (0:Int))/\(callV Pg q2o [⟨tL,a⟩,⟨tI,(eltS (0:Int) b (0:Int))⟩] (.tup (.pair tL (.pair tI .unit))) (fun p0=>(Q (p0.1,((some [p0.2.1]),())))))) (callV Pg q1G [⟨tL,a⟩,⟨tL,b⟩] tI (fun p0=>(brV (decide (p0<(0:Int))) (Q (none,(a,()))) ((inS b (IntKind.wrap IntKind.i64 ((szSl b) - (1:Int))))/\(((IntKind.wrap IntKind.i64 ((eltS (0:Int) b (IntKind.wrap IntKind.i64 ((szSl b) - (1:Int))))+(1:Int)))≠(0:Int))/\(ownV Pg q1I [⟨tL,a⟩,⟨tI,(IntKind.wrap IntKind.i64 (Int.tdiv (1073741824:Int) (IntKind.wrap IntKind.i64 ((eltS (0:Int) b (IntKind.wrap IntKind.i64 ((szSl b) - (1:Int))))+(1:Int)))))⟩] tI (fun p1=>(callV Pg q1I [⟨tL,b⟩,⟨tI,(IntKind.wrap IntKind.i64 (Int.tdiv (1073741824:Int) (IntKind.wrap IntKind.i64 ((eltS (0:Int) b (IntKind.wrap IntKind.i64 ((szSl b) - (1:Int))))+(1:Int)))))⟩] tL (fun p2=>((inR p2 (0:Int) (szSl b))/\((mkC 8 (IntKind.wrap IntKind.i64 ((szSl p1) - (szSl (slcS p2 (0:Int) (szSl b))))) (IntKind.wrap IntKind.i64 ((szSl p1) - (szSl (slcS p2 (0:Int) (szSl b))))))/\(loopV (Int×(DL×(Int×(Int×(DL×DL))))) (fun k3=>(fun p4=>(brV (decide ((0:Int)<=p4.2.2.2.1)) ((inS p4.2.2.2.2.2 (IntKind.wrap IntKind.i64 (p4.2.2.2.1+p4.2.2.1)))/\((inS p4.2.2.2.2.2 (IntKind.wrap IntKind.i64 ((IntKind.wrap IntKind.i64 (p4.2.2.2.1+p4.2.2.1)) - (1:Int))))/\((inS p4.2.1 (IntKind.wrap IntKind.i64 (p4.2.2.1 - (1:Int))))/\(((eltS (0:Int) p4.2.1 (IntKind.wrap IntKind.i64 (p4.2.2.1 - (1:Int))))≠(0:Int))/\(loopV (Int×(DL×(Int×(Int×(Int×(DL×DL)))))) (fun k5=>(fun p6=>(callV Pg q1I [⟨tL,p6.2.1⟩,⟨tI,p6.2.2.2.2.1⟩] tL (fun p7=>(callV Pg q2p [⟨tL,p7⟩] tL (fun p8=>((inW p6.2.2.2.2.2.2 p6.2.2.2.1 (IntKind.wrap IntKind.i64 ((IntKind.wrap IntKind.i64 (p6.2.2.2.1+p6.2.2.1))+(1:Int))))/\((appC 8 (some []) (lst (slcS p6.2.2.2.2.2.2 p6.2.2.2.1 (IntKind.wrap IntKind.i64 ((IntKind.wrap IntKind.i64 (p6.2.2.2.1+p6.2.2.1))+(1:Int))))))/\(callV Pg q2p [⟨tL,(appL (some []) (lst (slcS p6.2.2.2.2.2.2 p6.2.2.2.1 (IntKind.wrap IntKind.i64 ((IntKind.wrap IntKind.i64 (p6.2.2.2.1+p6.2.2.1))+(1:Int))))))⟩] tL (fun p9=>(callV Pg q1G [⟨tL,p8⟩,⟨tL,p9⟩] tI (fun p10=>(brV (decide (p10<=(0:Int))) ((inW p6.2.2.2.2.2.2 p6.2.2.2.1 (IntKind.wrap IntKind.i64 ((IntKind.wrap IntKind.i64 (p6.2.2.2.1+p6.2.2.1))+(1:Int))))/\(ownV Pg q1H [⟨tL,(slcS p6.2.2.2.2.2.2 p6.2.2.2.1 (IntKind.wrap IntKind.i64 ((IntKind.wrap IntKind.i64 (p6.2.2.2.1+p6.2.2.1))+(1:Int))))⟩,⟨tL,p7⟩] tI (fun p11=>((inW p6.2.2.2.2.2.2 p6.2.2.2.1 (szSl p6.2.2.2.2.2.2))/\((inS p6.2.2.2.2.2.1 p6.2.2.2.1)/\(k3 (p6.1,(p6.2.1,(p6.2.2.1,((IntKind.wrap IntKind.i64 (p6.2.2.2.1 - (1:Int))),((setO p6.2.2.2.2.2.1 (toN p6.2.2.2.1) p6.2.2.2.2.1),(cpyS p6.2.2.2.2.2.2 p6.2.2.2.1 (szSl p6.2.2.2.2.2.2) p11)))))))))))) (k5 (p6.1,(p6.2.1,(p6.2.2.1,(p6.2.2.2.1,((IntKind.wrap IntKind.i64 (p6.2.2.2.2.1 - (1:Int))),p6.2.2.2.2.2))))))))))))))))))) (p4.1,(p4.2.1,(p4.2.2.1,(p4.2.2.2.1,((minI (IntKind.wrap IntKind.i64 (Int.tdiv (IntKind.wrap IntKind.i64 ((IntKind.wrap IntKind.i64 ((eltN (0:Int) p4.2.2.2.2.2 (toN (IntKind.wrap IntKind.i64 (p4.2.2.2.1+p4.2.2.1))))*(1073741824:Int)))+(eltN (0:Int) p4.2.2.2.2.2 (toN (IntKind.wrap IntKind.i64 ((IntKind.wrap IntKind.i64 (p4.2.2.2.1+p4.2.2.1)) - (1:Int))))))) (eltS (0:Int) p4.2.1 (IntKind.wrap IntKind.i64 (p4.2.2.1 - (1:Int)))))) (1073741823:Int)),p4.2.2.2.2)))))))))) ((inW p4.2.2.2.2.2 (0:Int) p4.2.2.1)/\(callV Pg q2o [⟨tL,(slcS p4.2.2.2.2.2 (0:Int) p4.2.2.1)⟩,⟨tI,p4.1⟩] (.tup (.pair tL (.pair tI .unit))) (fun p5=>(Q (p4.2.2.2.2.1,(p5.1,()))))))))) ((IntKind.wrap IntKind.i64 (Int.tdiv (1073741824:Int) (IntKind.wrap IntKind.i64 ((eltS (0:Int) b (IntKind.wrap IntKind.i64 ((szSl b) - (1:Int))))+(1:Int))))),((slcS p2 (0:Int) (szSl b)),((szSl (slcS p2 (0:Int) (szSl b))),((IntKind.wrap IntKind.i64 ((IntKind.wrap IntKind.i64 ((szSl p1) - (szSl (slcS p2 (0:Int) (szSl b))))) - (1:Int))),((some (repS (IntKind.wrap IntKind.i64 ((szSl p1) - (szSl (slcS p2 (0:Int) (szSl b))))) (0:Int))),p1))))))))))))))))))):
 callV Pg q3b [⟨tL,a⟩,⟨tL,b⟩] (.tup (.pair tL (.pair tL .unit))) Q:=
 q02 (c:=q01 q8b) (ann:=qbq) qdN rfl qg7 rfl rfl hQ (kcast (by kernel_rfl) h)
def qbs:Ann:=(.seq .nil (.seq .nil (.seq .nil (.seq (.seq .nil (.blk none (.loop ⟨[(5,.own 1005)],[.var 1 tI,.var 6 tI,.var 9 tL,.var 10 tI,.var 11 tI,.arr 1005 tI]⟩ .nil))) .nil))))
theorem qis {Q:DL->Prop} (a:DL) (b:Int) (hQ:∃ r,Q r) (h:
 (loopV (Int×(Int×(DL×(Int×DE)))) (fun k0=>(fun p1=>(brV (decide (p1.2.2.2.2.1<p1.2.2.2.1)) ((inS p1.2.2.1 p1.2.2.2.2.1)/\(((1073741824:Int)≠(0:Int))/\((appC 8 p1.2.2.2.2.2 (lst (some [(Int.tmod (IntKind.wrap IntKind.i64 (p1.2.1+(IntKind.wrap IntKind.i64 ((eltS (0:Int) p1.2.2.1 p1.2.2.2.2.1)*p1.1)))) (1073741824:Int))])))/\(((1073741824:Int)≠(0:Int))/\(k0 (p1.1,((IntKind.wrap IntKind.i64 (Int.tdiv (IntKind.wrap IntKind.i64 (p1.2.1+(IntKind.wrap IntKind.i64 ((eltS (0:Int) p1.2.2.1 p1.2.2.2.2.1)*p1.1)))) (1073741824:Int))),(p1.2.2.1,(p1.2.2.2.1,((IntKind.wrap IntKind.i64 (p1.2.2.2.2.1+(1:Int))),(appL p1.2.2.2.2.2 (lst (some [(Int.tmod (IntKind.wrap IntKind.i64 (p1.2.1+(IntKind.wrap IntKind.i64 ((eltS (0:Int) p1.2.2.1 p1.2.2.2.2.1)*p1.1)))) (1073741824:Int))]))))))))))))) ((appC 8 p1.2.2.2.2.2 (lst (some [p1.2.1])))/\(Q (appL p1.2.2.2.2.2 (lst (some [p1.2.1])))))))) (b,((0:Int),(a,((szSl a),((0:Int),none))))))):
 ownV Pg q1I [⟨tL,a⟩,⟨tI,b⟩] tI Q:=
 q2B (c:=q01 q8d) (ann:=qbs) qdP rfl qg9 rfl rfl hQ (kcast (by kernel_rfl) h)
def qbp:Ann:=(.seq .nil (.seq .nil (.seq .nil (.seq (.seq .nil (.blk none (.loop ⟨[(5,.own 1005)],[.var 0 tL,.var 1 tL,.var 6 tI,.var 9 tI,.var 10 tI,.arr 1005 tI]⟩ (.seq .nil (.seq .nil (.seq (.blk none (.seq .nil (.seq .nil (.seq (.seq .nil (.cond (some ⟨[(5,.own 1005)],[.var 0 tL,.var 1 tL,.var 6 tI,.var 9 tI,.var 10 tI,.arr 1005 tI]⟩) .nil .nil)) (.seq .nil (.cond (some ⟨[(5,.own 1005)],[.var 0 tL,.var 1 tL,.var 6 tI,.var 9 tI,.var 10 tI,.arr 1005 tI]⟩) .nil .nil)))))) .nil)))))) .nil))))
theorem qip {Q:DL->Prop} (a:DL) (b:DL) (hQ:∃ r,Q r) (h:
 (loopV (DL×(DL×(Int×(Int×DE)))) (fun k0=>(fun p1=>(brV (decide (p1.2.2.2.2.1<p1.2.2.2.1)) ((inS p1.1 p1.2.2.2.2.1)/\(joinV (DL×(DL×(Int×(Int×DE)))) (fun p2=>(joinV (DL×(DL×(Int×(Int×DE)))) (fun p3=>(k0 (p3.1,(p3.2.1,(p3.2.2.1,(p3.2.2.2.1,((IntKind.wrap IntKind.i64 (p3.2.2.2.2.1+(1:Int))),p3.2.2.2.2.2))))))) (fun k3=>(brV (decide (p2.2.2.1<(0:Int))) ((appC 8 p2.2.2.2.2.2 (lst (some [(IntKind.wrap IntKind.i64 (p2.2.2.1+(1073741824:Int)))])))/\(k3 (p2.1,(p2.2.1,((-(1:Int)),(p2.2.2.2.1,(p2.2.2.2.2.1,(appL p2.2.2.2.2.2 (lst (some [(IntKind.wrap IntKind.i64 (p2.2.2.1+(1073741824:Int)))])))))))))) ((appC 8 p2.2.2.2.2.2 (lst (some [p2.2.2.1])))/\(k3 (p2.1,(p2.2.1,((0:Int),(p2.2.2.2.1,(p2.2.2.2.2.1,(appL p2.2.2.2.2.2 (lst (some [p2.2.2.1])))))))))))))) (fun k2=>(brV (decide (p1.2.2.2.2.1<(szSl p1.2.1))) ((inS p1.2.1 p1.2.2.2.2.1)/\(k2 (p1.1,(p1.2.1,((IntKind.wrap IntKind.i64 ((IntKind.wrap IntKind.i64 (p1.2.2.1+(eltS (0:Int) p1.1 p1.2.2.2.2.1))) - (eltS (0:Int) p1.2.1 p1.2.2.2.2.1))),(p1.2.2.2.1,p1.2.2.2.2)))))) (k2 (p1.1,(p1.2.1,((IntKind.wrap IntKind.i64 (p1.2.2.1+(eltS (0:Int) p1.1 p1.2.2.2.2.1))),(p1.2.2.2.1,p1.2.2.2.2))))))))) (Q p1.2.2.2.2.2)))) (a,(b,((0:Int),((szSl a),((0:Int),none))))))):
 ownV Pg q1H [⟨tL,a⟩,⟨tL,b⟩] tI Q:=
 q2B (c:=q01 q8a) (ann:=qbp) qdM rfl qg6 rfl rfl hQ (kcast (by kernel_rfl) h)
def qbe:Ann:=(.seq .nil (.seq (.seq (.reg [] [] (some ⟨[(2,.ref 2 0)],[.var 0 tI,.var 11 (.bool),.box 2 tRI]⟩)) .nil) (.seq .nil (.seq .nil (.seq (.blk none (.loop ⟨[(2,.ref 2 0),(5,.own 1005)],[.var 0 tI,.var 4 tI,.box 2 tRI,.arr 1005 tI]⟩ .nil)) .nil)))))
theorem qie {Q:DRI->Prop} (a:Int) (hQ:∃ r,Q r) (h:
 (joinV (Int×(Bool×DRI)) (fun p0=>(brV p0.2.1 (Q (p0.1,(false,none))) (((1073741824:Int)≠(0:Int))/\(((1073741824:Int)≠(0:Int))/\(loopV (Int×(Int×(DRI×DL))) (fun k1=>(fun p2=>(brV (notB (decide (p2.2.1=(0:Int)))) (((1073741824:Int)≠(0:Int))/\(((1073741824:Int)≠(0:Int))/\((appC 8 p2.2.2.2 (lst (some [(maxI (Int.tmod p2.2.1 (1073741824:Int)) (IntKind.wrap IntKind.i64 ((0:Int) - (Int.tmod p2.2.1 (1073741824:Int)))))])))/\(k1 (p2.1,((IntKind.wrap IntKind.i64 (Int.tdiv p2.2.1 (1073741824:Int))),((p2.2.2.1.1,p2.2.2.1.2),(appL p2.2.2.2 (lst (some [(maxI (Int.tmod p2.2.1 (1073741824:Int)) (IntKind.wrap IntKind.i64 ((0:Int) - (Int.tmod p2.2.1 (1073741824:Int)))))])))))))))) (Q ((0:Int),((decide (p2.1<(0:Int))),p2.2.2.2)))))) (p0.1,((IntKind.wrap IntKind.i64 (Int.tdiv p0.1 (1073741824:Int))),((p0.2.2.1,p0.2.2.2),(some [(maxI (Int.tmod p0.1 (1073741824:Int)) (IntKind.wrap IntKind.i64 ((0:Int) - (Int.tmod p0.1 (1073741824:Int)))))]))))))))) (fun k0=>(brV (decide ((-(2305843009213693952:Int))<a)) (k0 (a,((decide (a<(2305843009213693952:Int))),((0:Int),(false,none))))) (k0 (a,(false,((0:Int),(false,none))))))))):
 callV Pg q0S [⟨tI,a⟩] tRI Q:=
 q02 (c:=q01 q7Z) (ann:=qbe) qdB rfl qfV rfl rfl hQ (kcast (by kernel_rfl) h)
def qba:Ann:=(.seq .nil (.seq (.seq (.reg [] [] (some ⟨[(2,.ref 2 0),(3,.ref 3 0),(4,.ref 4 0)],[.var 40 (.bool),.box 2 tRI,.box 3 tRI,.box 4 tRI]⟩)) .nil) (.seq .nil (.seq .nil (.seq (.seq .nil (.blk none (.loop ⟨[(2,.ref 2 0),(3,.ref 3 0),(4,.ref 4 0),(7,.own 56)],[.var 5 tL,.var 6 tL,.var 58 tI,.var 59 tI,.box 2 tRI,.box 3 tRI,.box 4 tRI,.arr 56 tI]⟩ (.seq .nil (.seq .nil (.seq (.blk none (.seq .nil (.seq .nil (.seq (.seq .nil (.blk none (.loop ⟨[(2,.ref 2 0),(3,.ref 3 0),(4,.ref 4 0),(7,.own 56)],[.var 5 tL,.var 6 tL,.var 8 tI,.var 9 tI,.var 58 tI,.var 59 tI,.var 63 tI,.var 64 tI,.box 2 tRI,.box 3 tRI,.box 4 tRI,.arr 56 tI]⟩ .nil))) .nil)))) .nil)))))) (.seq (.reg [56] [] none) .nil))))))
theorem qia {Q:DRI->Prop} (a:DRI) (b:DRI) (hQ:∃ r,Q r) (h:
 (joinV (Bool×(DRI×DRR)) (fun p0=>(brV p0.1 (Q ((IntKind.wrap IntKind.i64 (p0.2.1.1*p0.2.2.1.1)),(false,none))) (callV Pg q0R [⟨tRI,(p0.2.1.1,p0.2.1.2)⟩] tL (fun p1=>(callV Pg q0R [⟨tRI,(p0.2.2.1.1,p0.2.2.1.2)⟩] tL (fun p2=>((mkC 8 (IntKind.wrap IntKind.i64 ((szSl p1)+(szSl p2))) (IntKind.wrap IntKind.i64 ((szSl p1)+(szSl p2))))/\(loopV (DL×(DL×(Int×(Int×(DRI×(DRI×(DRI×DL))))))) (fun k3=>(fun p4=>(brV (decide (p4.2.2.2.1<p4.2.2.1)) (loopV (DL×(DL×(Int×(Int×(Int×(Int×(Int×(Int×(DRI×(DRI×(DRI×DL))))))))))) (fun k5=>(fun p6=>(brV (decide (p6.2.2.2.2.2.2.2.1<p6.2.2.2.2.2.2.1)) ((inS p6.2.2.2.2.2.2.2.2.2.2.2 (IntKind.wrap IntKind.i64 (p6.2.2.1+p6.2.2.2.2.2.2.2.1)))/\((inS p6.1 p6.2.2.1)/\((inS p6.2.1 p6.2.2.2.2.2.2.2.1)/\(((1073741824:Int)≠(0:Int))/\((inS p6.2.2.2.2.2.2.2.2.2.2.2 (IntKind.wrap IntKind.i64 (p6.2.2.1+p6.2.2.2.2.2.2.2.1)))/\(((1073741824:Int)≠(0:Int))/\(k5 (p6.1,(p6.2.1,(p6.2.2.1,((IntKind.wrap IntKind.i64 (Int.tdiv (IntKind.wrap IntKind.i64 (p6.2.2.2.1+(IntKind.wrap IntKind.i64 ((eltN (0:Int) p6.2.2.2.2.2.2.2.2.2.2.2 (toN (IntKind.wrap IntKind.i64 (p6.2.2.1+p6.2.2.2.2.2.2.2.1))))+(IntKind.wrap IntKind.i64 ((eltS (0:Int) p6.1 p6.2.2.1)*(eltS (0:Int) p6.2.1 p6.2.2.2.2.2.2.2.1))))))) (1073741824:Int))),(p6.2.2.2.2.1,(p6.2.2.2.2.2.1,(p6.2.2.2.2.2.2.1,((IntKind.wrap IntKind.i64 (p6.2.2.2.2.2.2.2.1+(1:Int))),((p6.2.2.2.2.2.2.2.2.1.1,p6.2.2.2.2.2.2.2.2.1.2),((p6.2.2.2.2.2.2.2.2.2.1.1,p6.2.2.2.2.2.2.2.2.2.1.2),((p6.2.2.2.2.2.2.2.2.2.2.1.1,p6.2.2.2.2.2.2.2.2.2.2.1.2),(setO p6.2.2.2.2.2.2.2.2.2.2.2 (toN (IntKind.wrap IntKind.i64 (p6.2.2.1+p6.2.2.2.2.2.2.2.1))) (Int.tmod (IntKind.wrap IntKind.i64 (p6.2.2.2.1+(IntKind.wrap IntKind.i64 ((eltN (0:Int) p6.2.2.2.2.2.2.2.2.2.2.2 (toN (IntKind.wrap IntKind.i64 (p6.2.2.1+p6.2.2.2.2.2.2.2.1))))+(IntKind.wrap IntKind.i64 ((eltS (0:Int) p6.1 p6.2.2.1)*(eltS (0:Int) p6.2.1 p6.2.2.2.2.2.2.2.1))))))) (1073741824:Int))))))))))))))))))))) ((inS p6.2.2.2.2.2.2.2.2.2.2.2 (IntKind.wrap IntKind.i64 (p6.2.2.1+(szSl p6.2.1))))/\(k3 (p6.1,(p6.2.1,(p6.2.2.2.2.1,((IntKind.wrap IntKind.i64 (p6.2.2.2.2.2.1+(1:Int))),((p6.2.2.2.2.2.2.2.2.1.1,p6.2.2.2.2.2.2.2.2.1.2),((p6.2.2.2.2.2.2.2.2.2.1.1,p6.2.2.2.2.2.2.2.2.2.1.2),((p6.2.2.2.2.2.2.2.2.2.2.1.1,p6.2.2.2.2.2.2.2.2.2.2.1.2),(setO p6.2.2.2.2.2.2.2.2.2.2.2 (toN (IntKind.wrap IntKind.i64 (p6.2.2.1+(szSl p6.2.1)))) p6.2.2.2.1))))))))))))) (p4.1,(p4.2.1,(p4.2.2.2.1,((0:Int),(p4.2.2.1,(p4.2.2.2.1,((szSl p4.2.1),((0:Int),((p4.2.2.2.2.1.1,p4.2.2.2.2.1.2),((p4.2.2.2.2.2.1.1,p4.2.2.2.2.2.1.2),((p4.2.2.2.2.2.2.1.1,p4.2.2.2.2.2.2.1.2),p4.2.2.2.2.2.2.2)))))))))))) (callV Pg q0f [⟨tRI,(p4.2.2.2.2.1.1,p4.2.2.2.2.1.2)⟩] tI (fun p5=>(callV Pg q0f [⟨tRI,(p4.2.2.2.2.2.1.1,p4.2.2.2.2.2.1.2)⟩] tI (fun p6=>(callV Pg q0T [⟨.bool,(notB (decide (p5=p6)))⟩,⟨tL,p4.2.2.2.2.2.2.2⟩] tRI (fun p7=>(Q (p7.1,p7.2))))))))))) (p1,(p2,((szSl p1),((0:Int),((p0.2.1.1,p0.2.1.2),((p0.2.2.1.1,p0.2.2.1.2),((p0.2.2.2.1,p0.2.2.2.2),(some (repS (IntKind.wrap IntKind.i64 ((szSl p1)+(szSl p2))) (0:Int)))))))))))))))))) (fun k0=>(brV (decide ((szSl a.2.2)=(0:Int))) (brV (decide ((szSl b.2.2)=(0:Int))) (brV (decide ((-(1073741824:Int))<a.1)) (brV (decide (a.1<(1073741824:Int))) (brV (decide ((-(1073741824:Int))<b.1)) (k0 ((decide (b.1<(1073741824:Int))),((a.1,a.2),((b.1,b.2),((0:Int),(false,none)))))) (k0 (false,((a.1,a.2),((b.1,b.2),((0:Int),(false,none))))))) (k0 (false,((a.1,a.2),((b.1,b.2),((0:Int),(false,none))))))) (k0 (false,((a.1,a.2),((b.1,b.2),((0:Int),(false,none))))))) (k0 (false,((a.1,a.2),((b.1,b.2),((0:Int),(false,none))))))) (k0 (false,((a.1,a.2),((b.1,b.2),((0:Int),(false,none)))))))))):
 callV Pg q13 [⟨tRI,a⟩,⟨tRI,b⟩] tRI Q:=
 q02 (c:=q01 q7V) (ann:=qba) qdx rfl qfR rfl rfl hQ (kcast (by kernel_rfl) h)
def qb2:Ann:=(.seq .nil (.seq (.blk none (.loop ⟨[(2,.ref 2 0),(3,.ref 3 0),(4,.ref 4 0)],[.box 2 tRI,.box 3 tRI,.box 4 tRI]⟩ .nil)) .nil))
theorem qi2 {Q:DRI->Prop} (a:DRI) (b:DRI) (hQ:∃ r,Q r) (h:
 (loopV (DRI×DRR) (fun k0=>(fun p1=>(callV Pg q0f [⟨tRI,(p1.2.1.1,p1.2.1.2)⟩] tI (fun p2=>(brV (notB (decide (p2=(0:Int)))) (callV Pg q1F [⟨tRI,(p1.1.1,p1.1.2)⟩,⟨tRI,(p1.2.1.1,p1.2.1.2)⟩] (.tup (.pair tRI (.pair tRI .unit))) (fun p3=>(k0 ((p1.2.1.1,p1.2.1.2),((p3.2.1.1,p3.2.1.2),(p1.2.2.1,p1.2.2.2)))))) (callV Pg q35 [⟨tRI,(p1.1.1,p1.1.2)⟩] tRI (fun p3=>(Q (p3.1,p3.2))))))))) ((a.1,a.2),((b.1,b.2),((0:Int),(false,none)))))):
 callV Pg q34 [⟨tRI,a⟩,⟨tRI,b⟩] tRI Q:=
 q02 (c:=q01 q7N) (ann:=qb2) qdp rfl qfJ rfl rfl hQ (kcast (by kernel_rfl) h)
def qb4:Ann:=.nil
theorem qi4 {Q:Int->Prop} (a:DRI) (b:DRI) (hQ:∃ r,Q r) (h:
 (callV Pg q37 [⟨tRI,(a.1,a.2)⟩,⟨tRI,(b.1,b.2)⟩] tRI (fun p0=>(callV Pg q0f [⟨tRI,(p0.1,p0.2)⟩] tI (fun p1=>(Q p1)))))):
 callV Pg q36 [⟨tRI,a⟩,⟨tRI,b⟩] tI Q:=
 q02 (c:=q01 q7P) (ann:=qb4) qdr rfl qfL rfl rfl hQ (kcast (by kernel_rfl) h)
def qb9:Ann:=(.seq .nil (.seq (.blk none (.seq (.reg [] [] (some ⟨[(1,.ref 1 0)],[.var 3 (.bool),.box 1 tRI]⟩)) (.cond none .nil (.seq (.reg [] [] (some ⟨[],[.var 17 (.bool)]⟩)) .nil)))) .nil))
theorem qi9 {Q:Int->Prop} (a:DRI) (hQ:∃ r,Q r) (h:
 (joinV (Bool×DRI) (fun p0=>(brV p0.1 (Q (-(1:Int))) (joinV Bool (fun p1=>(brV p1 (Q (1:Int)) (Q (0:Int)))) (fun k1=>(brV (decide ((0:Int)<(szSl p0.2.2.2))) (k1 true) (k1 (decide ((0:Int)<p0.2.1)))))))) (fun k0=>(brV (decide ((0:Int)<(szSl a.2.2))) (brV a.2.1 (k0 (true,(a.1,a.2))) (k0 ((decide (a.1<(0:Int))),(a.1,a.2)))) (k0 ((decide (a.1<(0:Int))),(a.1,a.2))))))):
 callV Pg q0f [⟨tRI,a⟩] tI Q:=
 q02 (c:=q01 q7U) (ann:=qb9) qdw rfl qfQ rfl rfl hQ (kcast (by kernel_rfl) h)
def qb6:Ann:=(.seq .nil (.seq (.reg [] [] (some ⟨[(2,.ref 2 0)],[.box 2 tRI]⟩)) .nil))
theorem qi6 {Q:DRI->Prop} (a:DRI) (hQ:∃ r,Q r) (h:
 (joinV DRI (fun p0=>(Q (p0.1,p0.2))) (fun k0=>(brV (decide ((0:Int)<(szSl a.2.2))) (k0 ((IntKind.wrap IntKind.i64 ((0:Int) - a.1)),((notB a.2.1),a.2.2))) (k0 ((IntKind.wrap IntKind.i64 ((0:Int) - a.1)),(false,a.2.2))))))):
 callV Pg q12 [⟨tRI,a⟩] tRI Q:=
 q02 (c:=q01 q7R) (ann:=qb6) qdt rfl qfN rfl rfl hQ (kcast (by kernel_rfl) h)
def qb7:Ann:=(.seq .nil (.seq (.seq (.reg [] [] (some ⟨[(2,.ref 2 0),(3,.ref 3 0),(4,.ref 4 0),(5,.ref 5 0)],[.var 17 (.bool),.box 2 tRI,.box 3 tRI,.box 4 tRI,.box 5 tRI]⟩)) .nil) .nil))
theorem qi7 {Q:(DRI×(DRI×Unit))->Prop} (a:DRI) (b:DRI) (hQ:∃ r,Q r) (h:
 (joinV (Bool×(DRI×(DRI×DRR))) (fun p0=>(brV p0.1 ((p0.2.2.1.1≠(0:Int))/\((p0.2.2.1.1≠(0:Int))/\(Q (((IntKind.wrap IntKind.i64 (Int.tdiv p0.2.1.1 p0.2.2.1.1)),(false,none)),(((Int.tmod p0.2.1.1 p0.2.2.1.1),(false,none)),()))))) (callV Pg q0R [⟨tRI,(p0.2.1.1,p0.2.1.2)⟩] tL (fun p1=>(callV Pg q0R [⟨tRI,(p0.2.2.1.1,p0.2.2.1.2)⟩] tL (fun p2=>(callV Pg q3b [⟨tL,p1⟩,⟨tL,p2⟩] (.tup (.pair tL (.pair tL .unit))) (fun p3=>(callV Pg q0f [⟨tRI,(p0.2.1.1,p0.2.1.2)⟩] tI (fun p4=>(callV Pg q0f [⟨tRI,(p0.2.2.1.1,p0.2.2.1.2)⟩] tI (fun p5=>(callV Pg q0T [⟨.bool,(notB (decide (p4=p5)))⟩,⟨tL,p3.1⟩] tRI (fun p6=>(callV Pg q0f [⟨tRI,(p0.2.1.1,p0.2.1.2)⟩] tI (fun p7=>(callV Pg q0T [⟨.bool,(decide (p7<(0:Int)))⟩,⟨tL,p3.2.1⟩] tRI (fun p8=>(Q ((p6.1,p6.2),((p8.1,p8.2),()))))))))))))))))))))) (fun k0=>(brV (decide ((szSl a.2.2)=(0:Int))) (k0 ((decide ((szSl b.2.2)=(0:Int))),((a.1,a.2),((b.1,b.2),(((0:Int),(false,none)),((0:Int),(false,none))))))) (k0 (false,((a.1,a.2),((b.1,b.2),(((0:Int),(false,none)),((0:Int),(false,none))))))))))):
 callV Pg q1F [⟨tRI,a⟩,⟨tRI,b⟩] (.tup (.pair tRI (.pair tRI .unit))) Q:=
 q02 (c:=q01 q7S) (ann:=qb7) qdu rfl qfO rfl rfl hQ (kcast (by kernel_rfl) h)
def qbb:Ann:=(.seq .nil (.seq .nil (.seq .nil (.seq (.seq .nil (.blk none (.loop ⟨[(3,.own 1003)],[.var 4 tI,.arr 1003 tI]⟩ .nil))) .nil))))
theorem qib {Q:DL->Prop} (a:DRI) (hQ:∃ r,Q r) (h:
 (brV (decide ((0:Int)<(szSl a.2.2))) (Q a.2.2) (loopV DE (fun k0=>(fun p1=>(brV (decide ((0:Int)<p1.1)) (((1073741824:Int)≠(0:Int))/\((appC 8 p1.2 (lst (some [(Int.tmod p1.1 (1073741824:Int))])))/\(((1073741824:Int)≠(0:Int))/\(k0 ((IntKind.wrap IntKind.i64 (Int.tdiv p1.1 (1073741824:Int))),(appL p1.2 (lst (some [(Int.tmod p1.1 (1073741824:Int))])))))))) (Q p1.2)))) ((maxI a.1 (IntKind.wrap IntKind.i64 ((0:Int) - a.1))),none)))):
 callV Pg q0R [⟨tRI,a⟩] tL Q:=
 q02 (c:=q01 q7W) (ann:=qbb) qdy rfl qfS rfl rfl hQ (kcast (by kernel_rfl) h)
def qbr:Ann:=(.seq .nil (.seq (.blk none (.loop ⟨[(4,.ref 4 0)],[.var 0 (.bool),.var 1 tL,.box 4 tRI]⟩ (.seq (.seq (.reg [] [] (some ⟨[(4,.ref 4 0)],[.var 0 (.bool),.var 1 tL,.var 18 (.bool),.box 4 tRI]⟩)) .nil) .nil))) (.seq (.seq (.reg [] [] (some ⟨[(4,.ref 4 0)],[.var 0 (.bool),.var 1 tL,.var 37 (.bool),.box 4 tRI]⟩)) .nil) (.seq .nil (.seq (.seq .nil (.blk none (.loop ⟨[(4,.ref 4 0)],[.var 0 (.bool),.var 1 tL,.var 5 tI,.var 6 tI,.box 4 tRI]⟩ .nil))) (.seq (.seq .nil (.cond (some ⟨[(4,.ref 4 0)],[.var 5 tI,.box 4 tRI]⟩) .nil .nil)) .nil))))))
theorem qir {Q:DRI->Prop} (a:Bool) (b:DL) (hQ:∃ r,Q r) (h:
 (loopV (Bool×(DL×DRI)) (fun k0=>(fun p1=>(joinV (Bool×(DL×(Bool×DRI))) (fun p2=>(brV p2.2.2.1 ((inR p2.2.1 (0:Int) (IntKind.wrap IntKind.i64 ((szSl p2.2.1) - (1:Int))))/\(k0 (p2.1,((slcS p2.2.1 (0:Int) (IntKind.wrap IntKind.i64 ((szSl p2.2.1) - (1:Int)))),(p2.2.2.2.1,p2.2.2.2.2))))) (joinV (Bool×(DL×(Bool×DRI))) (fun p3=>(brV p3.2.2.1 (Q ((0:Int),(p3.1,p3.2.1))) (loopV (Bool×(DL×(Int×(Int×DRI)))) (fun k4=>(fun p5=>(brV (decide ((0:Int)<=p5.2.2.2.1)) ((inS p5.2.1 p5.2.2.2.1)/\(k4 (p5.1,(p5.2.1,((IntKind.wrap IntKind.i64 ((IntKind.wrap IntKind.i64 (p5.2.2.1*(1073741824:Int)))+(eltS (0:Int) p5.2.1 p5.2.2.2.1))),((IntKind.wrap IntKind.i64 (p5.2.2.2.1 - (1:Int))),(p5.2.2.2.2.1,p5.2.2.2.2.2))))))) (joinV (Int×DRI) (fun p6=>(Q (p6.1,(false,none)))) (fun k6=>(brV p5.1 (k6 ((IntKind.wrap IntKind.i64 ((0:Int) - p5.2.2.1)),(p5.2.2.2.2.1,p5.2.2.2.2.2))) (k6 (p5.2.2.1,(p5.2.2.2.2.1,p5.2.2.2.2.2))))))))) (p3.1,(p3.2.1,((0:Int),((IntKind.wrap IntKind.i64 ((szSl p3.2.1) - (1:Int))),(p3.2.2.2.1,p3.2.2.2.2)))))))) (fun k3=>(brV (decide ((3:Int)<(szSl p2.2.1))) (k3 (p2.1,(p2.2.1,(true,(p2.2.2.2.1,p2.2.2.2.2))))) (brV (decide ((szSl p2.2.1)=(3:Int))) ((inS p2.2.1 (2:Int))/\(k3 (p2.1,(p2.2.1,((decide ((2:Int)<=(eltS (0:Int) p2.2.1 (2:Int)))),(p2.2.2.2.1,p2.2.2.2.2)))))) (k3 (p2.1,(p2.2.1,(false,(p2.2.2.2.1,p2.2.2.2.2))))))))))) (fun k2=>(brV (decide ((0:Int)<(szSl p1.2.1))) ((inS p1.2.1 (IntKind.wrap IntKind.i64 ((szSl p1.2.1) - (1:Int))))/\(k2 (p1.1,(p1.2.1,((decide ((eltS (0:Int) p1.2.1 (IntKind.wrap IntKind.i64 ((szSl p1.2.1) - (1:Int))))=(0:Int))),(p1.2.2.1,p1.2.2.2)))))) (k2 (p1.1,(p1.2.1,(false,(p1.2.2.1,p1.2.2.2)))))))))) (a,(b,((0:Int),(false,none)))))):
 callV Pg q0T [⟨.bool,a⟩,⟨tL,b⟩] tRI Q:=
 q02 (c:=q01 q8c) (ann:=qbr) qdO rfl qg8 rfl rfl hQ (kcast (by kernel_rfl) h)
def qb8:Ann:=(.seq .nil (.seq (.seq (.reg [] [] (some ⟨[(2,.ref 2 0),(3,.ref 3 0),(4,.ref 4 0)],[.var 18 (.bool),.box 2 tRI,.box 3 tRI,.box 4 tRI]⟩)) .nil) .nil))
theorem qi8 {Q:DRI->Prop} (a:DRI) (b:DRI) (hQ:∃ r,Q r) (h:
 (joinV (Bool×(DRI×DRR)) (fun p0=>(brV p0.1 (callV Pg q0S [⟨tI,(IntKind.wrap IntKind.i64 (p0.2.1.1+p0.2.2.1.1))⟩] tRI (fun p1=>(Q (p1.1,p1.2)))) (callV Pg q0R [⟨tRI,(p0.2.1.1,p0.2.1.2)⟩] tL (fun p1=>(callV Pg q0R [⟨tRI,(p0.2.2.1.1,p0.2.2.1.2)⟩] tL (fun p2=>(callV Pg q0f [⟨tRI,(p0.2.1.1,p0.2.1.2)⟩] tI (fun p3=>(callV Pg q0f [⟨tRI,(p0.2.2.1.1,p0.2.2.1.2)⟩] tI (fun p4=>(brV (eqB (decide (p3<(0:Int))) (decide (p4<(0:Int)))) (callV Pg q3c [⟨tL,p1⟩,⟨tL,p2⟩] tL (fun p5=>(callV Pg q0T [⟨.bool,(decide (p3<(0:Int)))⟩,⟨tL,p5⟩] tRI (fun p6=>(Q (p6.1,p6.2)))))) (callV Pg q1G [⟨tL,p1⟩,⟨tL,p2⟩] tI (fun p5=>(brV (decide ((0:Int)<=p5)) (callV Pg q1H [⟨tL,p1⟩,⟨tL,p2⟩] tL (fun p6=>(callV Pg q0T [⟨.bool,(decide (p3<(0:Int)))⟩,⟨tL,p6⟩] tRI (fun p7=>(Q (p7.1,p7.2)))))) (callV Pg q1H [⟨tL,p2⟩,⟨tL,p1⟩] tL (fun p6=>(callV Pg q0T [⟨.bool,(decide (p4<(0:Int)))⟩,⟨tL,p6⟩] tRI (fun p7=>(Q (p7.1,p7.2)))))))))))))))))))) (fun k0=>(brV (decide ((szSl a.2.2)=(0:Int))) (k0 ((decide ((szSl b.2.2)=(0:Int))),((a.1,a.2),((b.1,b.2),((0:Int),(false,none)))))) (k0 (false,((a.1,a.2),((b.1,b.2),((0:Int),(false,none)))))))))):
 callV Pg q2i [⟨tRI,a⟩,⟨tRI,b⟩] tRI Q:=
 q02 (c:=q01 q7T) (ann:=qb8) qdv rfl qfP rfl rfl hQ (kcast (by kernel_rfl) h)
def qb3:Ann:=.nil
theorem qi3 {Q:DRI->Prop} (a:DRI) (hQ:∃ r,Q r) (h:
 (callV Pg q0f [⟨tRI,(a.1,a.2)⟩] tI (fun p0=>(brV (decide (p0<(0:Int))) (callV Pg q12 [⟨tRI,(a.1,a.2)⟩] tRI (fun p1=>(Q (p1.1,p1.2)))) (Q (a.1,a.2)))))):
 callV Pg q35 [⟨tRI,a⟩] tRI Q:=
 q02 (c:=q01 q7O) (ann:=qb3) qdq rfl qfK rfl rfl hQ (kcast (by kernel_rfl) h)
def qb5:Ann:=.nil
theorem qi5 {Q:DRI->Prop} (a:DRI) (b:DRI) (hQ:∃ r,Q r) (h:
 (callV Pg q12 [⟨tRI,(b.1,b.2)⟩] tRI (fun p0=>(callV Pg q2i [⟨tRI,(a.1,a.2)⟩,⟨tRI,(p0.1,p0.2)⟩] tRI (fun p1=>(Q (p1.1,p1.2))))))):
 callV Pg q37 [⟨tRI,a⟩,⟨tRI,b⟩] tRI Q:=
 q02 (c:=q01 q7Q) (ann:=qb5) qds rfl qfM rfl rfl hQ (kcast (by kernel_rfl) h)
def qbu:Ann:=(.seq .nil (.seq .nil (.seq .nil (.seq (.seq .nil (.blk none (.loop ⟨[(5,.own 1005)],[.var 0 tL,.var 1 tL,.var 6 tI,.var 7 tI,.arr 1005 tI]⟩ (.seq (.seq (.reg [] [] (some ⟨[(5,.own 1005)],[.var 0 tL,.var 1 tL,.var 6 tI,.var 7 tI,.var 21 (.bool),.arr 1005 tI]⟩)) .nil) (.seq (.blk none (.seq (.seq .nil (.cond (some ⟨[(5,.own 1005)],[.var 0 tL,.var 1 tL,.var 6 tI,.var 7 tI,.arr 1005 tI]⟩) .nil .nil)) (.seq (.seq .nil (.cond (some ⟨[(5,.own 1005)],[.var 0 tL,.var 1 tL,.var 6 tI,.var 7 tI,.arr 1005 tI]⟩) .nil .nil)) .nil))) .nil))))) .nil))))
theorem qiu {Q:DL->Prop} (a:DL) (b:DL) (hQ:∃ r,Q r) (h:
 (loopV (DL×(DL×(Int×DE))) (fun k0=>(fun p1=>(joinV (DL×(DL×(Int×DRI))) (fun p2=>(brV p2.2.2.2.2.1 (joinV (DL×(DL×(Int×DE))) (fun p3=>(joinV (DL×(DL×(Int×DE))) (fun p4=>(((1073741824:Int)≠(0:Int))/\((appC 8 p4.2.2.2.2 (lst (some [(Int.tmod p4.2.2.1 (1073741824:Int))])))/\(((1073741824:Int)≠(0:Int))/\(k0 (p4.1,(p4.2.1,((IntKind.wrap IntKind.i64 (Int.tdiv p4.2.2.1 (1073741824:Int))),((IntKind.wrap IntKind.i64 (p4.2.2.2.1+(1:Int))),(appL p4.2.2.2.2 (lst (some [(Int.tmod p4.2.2.1 (1073741824:Int))])))))))))))) (fun k4=>(brV (decide (p3.2.2.2.1<(szSl p3.2.1))) ((inS p3.2.1 p3.2.2.2.1)/\(k4 (p3.1,(p3.2.1,((IntKind.wrap IntKind.i64 (p3.2.2.1+(eltS (0:Int) p3.2.1 p3.2.2.2.1))),p3.2.2.2))))) (k4 (p3.1,(p3.2.1,(p3.2.2.1,p3.2.2.2)))))))) (fun k3=>(brV (decide (p2.2.2.2.1<(szSl p2.1))) ((inS p2.1 p2.2.2.2.1)/\(k3 (p2.1,(p2.2.1,((IntKind.wrap IntKind.i64 (p2.2.2.1+(eltS (0:Int) p2.1 p2.2.2.2.1))),(p2.2.2.2.1,p2.2.2.2.2.2)))))) (k3 (p2.1,(p2.2.1,(p2.2.2.1,(p2.2.2.2.1,p2.2.2.2.2.2)))))))) (Q p2.2.2.2.2.2))) (fun k2=>(brV (decide (p1.2.2.2.1<(szSl p1.1))) (k2 (p1.1,(p1.2.1,(p1.2.2.1,(p1.2.2.2.1,(true,p1.2.2.2.2)))))) (brV (decide (p1.2.2.2.1<(szSl p1.2.1))) (k2 (p1.1,(p1.2.1,(p1.2.2.1,(p1.2.2.2.1,(true,p1.2.2.2.2)))))) (k2 (p1.1,(p1.2.1,(p1.2.2.1,(p1.2.2.2.1,((decide ((0:Int)<p1.2.2.1)),p1.2.2.2.2)))))))))))) (a,(b,((0:Int),((0:Int),none)))))):
 callV Pg q3c [⟨tL,a⟩,⟨tL,b⟩] tL Q:=
 q02 (c:=q01 q8f) (ann:=qbu) qdR rfl qgb rfl rfl hQ (kcast (by kernel_rfl) h)
def qbo:Ann:=(.seq .nil (.seq .nil (.seq (.seq .nil (.blk none (.loop ⟨[],[.var 0 tL,.var 1 tL,.var 5 tI]⟩ .nil))) .nil)))
theorem qio {Q:Int->Prop} (a:DL) (b:DL) (hQ:∃ r,Q r) (h:
 (brV (notB (decide ((szSl a)=(szSl b)))) (brV (decide ((szSl a)<(szSl b))) (Q (-(1:Int))) (Q (1:Int))) (loopV (DL×(DL×Int)) (fun k0=>(fun p1=>(brV (decide ((0:Int)<=p1.2.2)) ((inS p1.1 p1.2.2)/\((inS p1.2.1 p1.2.2)/\(brV (decide ((eltS (0:Int) p1.1 p1.2.2)<(eltS (0:Int) p1.2.1 p1.2.2))) (Q (-(1:Int))) ((inS p1.1 p1.2.2)/\((inS p1.2.1 p1.2.2)/\(brV (decide ((eltS (0:Int) p1.2.1 p1.2.2)<(eltS (0:Int) p1.1 p1.2.2))) (Q (1:Int)) (k0 (p1.1,(p1.2.1,(IntKind.wrap IntKind.i64 (p1.2.2 - (1:Int)))))))))))) (Q (0:Int))))) (a,(b,(IntKind.wrap IntKind.i64 ((szSl a) - (1:Int)))))))):
 callV Pg q1G [⟨tL,a⟩,⟨tL,b⟩] tI Q:=
 q02 (c:=q01 q89) (ann:=qbo) qdL rfl qg5 rfl rfl hQ (kcast (by kernel_rfl) h)
def qbt:Ann:=(.seq .nil (.seq .nil (.seq (.seq .nil (.blk none (.loop ⟨[(4,.own 9)],[.var 0 tL,.var 1 tI,.var 5 tI,.var 6 tI,.arr 9 tI]⟩ .nil))) .nil)))
theorem qit {Q:(DL×(Int×Unit))->Prop} (a:DL) (b:Int) (hQ:∃ r,Q r) (h:
 ((mkC 8 (szSl a) (szSl a))/\(loopV (DL×(Int×(Int×DE))) (fun k0=>(fun p1=>(brV (decide ((0:Int)<=p1.2.2.2.1)) ((inS p1.1 p1.2.2.2.1)/\((p1.2.1≠(0:Int))/\((p1.2.1≠(0:Int))/\((inS p1.2.2.2.2 p1.2.2.2.1)/\(k0 (p1.1,(p1.2.1,((Int.tmod (IntKind.wrap IntKind.i64 ((IntKind.wrap IntKind.i64 (p1.2.2.1*(1073741824:Int)))+(eltS (0:Int) p1.1 p1.2.2.2.1))) p1.2.1),((IntKind.wrap IntKind.i64 (p1.2.2.2.1 - (1:Int))),(setO p1.2.2.2.2 (toN p1.2.2.2.1) (IntKind.wrap IntKind.i64 (Int.tdiv (IntKind.wrap IntKind.i64 ((IntKind.wrap IntKind.i64 (p1.2.2.1*(1073741824:Int)))+(eltS (0:Int) p1.1 p1.2.2.2.1))) p1.2.1)))))))))))) (Q (p1.2.2.2.2,(p1.2.2.1,())))))) (a,(b,((0:Int),((IntKind.wrap IntKind.i64 ((szSl a) - (1:Int))),(some (repS (szSl a) (0:Int)))))))))):
 callV Pg q2o [⟨tL,a⟩,⟨tI,b⟩] (.tup (.pair tL (.pair tI .unit))) Q:=
 q02 (c:=q01 q8e) (ann:=qbt) qdQ rfl qga rfl rfl hQ (kcast (by kernel_rfl) h)
def qbv:Ann:=(.seq .nil (.seq (.blk none (.loop ⟨[],[.var 0 tL]⟩ (.seq (.seq (.reg [] [] (some ⟨[],[.var 0 tL,.var 14 (.bool)]⟩)) .nil) .nil))) .nil))
theorem qiv {Q:DL->Prop} (a:DL) (hQ:∃ r,Q r) (h:
 (loopV DL (fun k0=>(fun p1=>(joinV (DL×Bool) (fun p2=>(brV p2.2 ((inR p2.1 (0:Int) (IntKind.wrap IntKind.i64 ((szSl p2.1) - (1:Int))))/\(k0 (slcS p2.1 (0:Int) (IntKind.wrap IntKind.i64 ((szSl p2.1) - (1:Int)))))) (Q p2.1))) (fun k2=>(brV (decide ((0:Int)<(szSl p1))) ((inS p1 (IntKind.wrap IntKind.i64 ((szSl p1) - (1:Int))))/\(k2 (p1,(decide ((eltS (0:Int) p1 (IntKind.wrap IntKind.i64 ((szSl p1) - (1:Int))))=(0:Int)))))) (k2 (p1,false))))))) a)):
 callV Pg q2p [⟨tL,a⟩] tL Q:=
 q02 (c:=q01 q8g) (ann:=qbv) qdS rfl qgc rfl rfl hQ (kcast (by kernel_rfl) h)
end Go.Proofs.Pf
namespace Go.Proofs.Pf
open Go Go.VM
theorem q6d (n:Int):sgn n=n.sign:=by
 rcases sgn3 n with ⟨e,h⟩ | ⟨e,h⟩ | ⟨e,h⟩
 . rw[e,Int.sign_eq_one_of_pos h]
 . rw[e,Int.sign_eq_neg_one_of_neg h]
 . rw[e,h];rfl
theorem q4M (n m:Int) (hm:m≠0):(Rat.divInt n m).num=sgn m*n.tdiv (Int.gcd n m):=by
 rw[Rat.num_divInt,q6d,Int.gcd_comm m n]
 have hd:((Int.gcd n m:Nat):Int) ∣ n:=Int.gcd_dvd_left ..
 rw[Int.mul_ediv_assoc _ hd,Int.tdiv_eq_ediv_of_dvd hd]
theorem q4L (n m:Int) (hm:m≠0):((Rat.divInt n m).den:Int)=sgn m*m.tdiv (Int.gcd n m):=by
 rw[Rat.den_divInt,if_neg hm,q6d,Int.gcd_comm m n]
 have hd:((Int.gcd n m:Nat):Int) ∣ m:=Int.gcd_dvd_right ..
 have e:m.sign*m=(m.natAbs:Int):=by
  rw[<-q6d]
  rcases sgn3 m with ⟨e,h⟩ | ⟨e,h⟩ | ⟨e,h⟩<;>rw[e]<;>omega
 rw[Int.tdiv_eq_ediv_of_dvd hd,<-Int.mul_ediv_assoc _ hd,e]
 simp
def LowV (y:Int×Option (List Int)) (d:Int):Prop:=IV y d∨(IV y 0/\d=1)
def RV (x:(Int×Option (List Int))×(Int×Option (List Int))) (q:Rat):Prop:=IV x.1 q.num/\LowV x.2 (q.den:Int)
theorem RV_ex (q:Rat):∃ r,RV r q:=by
 obtain⟨a,ha⟩:=IV_ex q.num
 obtain⟨b,hb⟩:=IV_ex (q.den:Int)
 exact⟨(a,b),ha,.inl hb⟩
theorem q4V (hlong:LongS) {x y:Int×Option (List Int)} {n m:Int} {k:Nat} (hx:IV x n) (hy:IV y m) (hm:m≠0) (fx:Fit k n) (fy:Fit k m) (hk:k<=1073741824):callV Pg q1g [⟨tEI,x⟩,⟨tEI,y⟩] tER fun r=>RV r (Rat.divInt n m):=by
 refine qhq x y (RV_ex _) ((s_Gcd hlong hx hy fx fy hk).mono fun g hg=>?_)
 have hgp:Int.gcd n m≠0:=fun e=>hm (Int.gcd_eq_zero_iff.1 e).2
 have fin:∀ p:(Int×Option (List Int))×(Int×Option (List Int)),IV p.1 (sgn m*n.tdiv (Int.gcd n m))->IV p.2 (sgn m*m.tdiv (Int.gcd n m))->RV p (Rat.divInt n m):=by
  intro p h1 h2
  rw[<-q4M n m hm] at h1
  rw[<-q4L n m hm] at h2
  exact⟨h1,.inl h2⟩
 have dd:((Int.gcd n m:Nat):Int) ∣ m:=Int.gcd_dvd_right ..
 have sq:sgn (m.tdiv (Int.gcd n m))=sgn m:=by
  have h1:=Int.mul_tdiv_cancel' dd
  have:sgn ((Int.gcd n m:Nat):Int)=1:=if_pos (by omega)
  have h2:sgn m=sgn (((Int.gcd n m:Nat):Int)*m.tdiv (Int.gcd n m)):=by rw[h1]
  rw[h2,q6c,this];omega
 refine joinR (fun p=>∃ b:Bool,p=(b,x,y,(((0:Int),none),((0:Int),none)),g)/\(b=false->Int.gcd n m=1)) ?_ ?_
 . rintro _ ⟨b,rfl,hb⟩
   refine joinR (fun p=>IV p.1 (n.tdiv (Int.gcd n m))/\IV p.2.1 (m.tdiv (Int.gcd n m))) ?_ ?_
   . rintro⟨p,q,z⟩ ⟨h1,h2⟩
     dsimp only at h1 h2 ⊢
     refine (q2G h2).mono ?_
     rintro _ rfl
     refine joinR (fun p=>IV p.1 (sgn m*n.tdiv (Int.gcd n m))/\IV p.2.1 (sgn m*m.tdiv (Int.gcd n m))) ?_ ?_
     . rintro⟨p,q,z⟩ ⟨h1,h2⟩
       exact fin (p,q) h1 h2
     . intro k' hk'
       rw[sq]
       refine q00.2 ⟨fun h=>?_,fun h=>?_⟩
       . have h:sgn m<0:=dec_t h
         have em:sgn m = -1:=by rcases sgn3 m with ⟨e,_⟩ | ⟨e,_⟩ | ⟨e,_⟩<;>omega
         refine (s_Neg h1).mono fun p5 h5=>(s_Neg h2).mono fun p6 h6=>hk' _ ⟨?_,?_⟩
         . rw[em,Int.neg_mul,Int.one_mul];exact h5
         . rw[em,Int.neg_mul,Int.one_mul];exact h6
       . have h:¬ sgn m<0:=dec_f h
         have em:sgn m=1:=by rcases sgn3 m with ⟨e,_⟩ | ⟨e,_⟩ | ⟨e,h0⟩<;>omega
         refine hk' _ ⟨?_,?_⟩
         . rw[em,Int.one_mul];exact h1
         . rw[em,Int.one_mul];exact h2
   . intro k' hk'
     refine q00.2 ⟨fun h=>?_,fun h=>?_⟩
     . dsimp only
       refine (s_Quo hlong hx hg (by omega) fx hk).mono ?_
       rintro⟨q,r,_⟩ ⟨h1,_⟩
       refine (s_Quo hlong hy hg (by omega) fy hk).mono ?_
       rintro⟨q2,r2,_⟩ ⟨h2,_⟩
       exact hk' _ ⟨h1,h2⟩
     . have e:=hb h
       refine hk' _ ?_
       rw[e]
       simp only[Int.natCast_one,Int.tdiv_one]
       exact⟨hx,hy⟩
 . intro k' hk'
   refine q00.2 ⟨fun h=>hk' _ ⟨true,rfl,fun h=>by simp at h⟩,fun h=>hk' _ ⟨_,rfl,fun h2=>?_⟩⟩
   have h:g.1=1:=not_f h
   obtain⟨v,d⟩:=g
   cases d with
   | some l=>simp[notB] at h2
   | none=>have e:v=((Int.gcd n m:Nat):Int):=hg.1;have h:v=1:=h;have e2:(1:Int)=((Int.gcd n m:Nat):Int):=(Eq.symm h).trans e;omega
end Go.Proofs.Pf
namespace Go.Proofs.Pf
open Go Go.VM
def RFit (k:Nat) (q:Rat):Prop:=Fit k q.num/\Fit k (q.den:Int)
theorem RFit.mono {k j:Nat} {q:Rat} (h:RFit k q) (hj:k<=j):RFit j q:=⟨h.1.mono hj,h.2.mono hj⟩
theorem s_one:callV Pg q2P [] tEI fun r=>IV r 1:=qhw ⟨((1:Int),none),rfl,by decide,by decide⟩ ⟨rfl,by decide,by decide⟩
theorem s_Low {x:(Int×Option (List Int))×(Int×Option (List Int))} {q:Rat} (hx:RV x q):callV Pg q0q [⟨tER,x⟩] tEI fun r=>IV r (q.den:Int):=by
 have hd:q.den≠0:=q.den_nz
 refine qhj x (IV_ex _) ?_
 rcases hx.2 with h | ⟨h,h1⟩
 . refine (q2G h).mono ?_
   rintro _ rfl
   refine q00.2 ⟨fun h2=>?_,fun h2=>h⟩
   have h2:sgn (q.den:Int)=0:=dec_t h2
   have:=sgn_z h2;omega
 . refine (q2G h).mono ?_
   rintro _ rfl
   refine q00.2 ⟨fun h2=>?_,fun h2=>?_⟩
   . rw[h1];exact s_one.mono fun r hr=>hr
   . exact absurd (rfl:sgn 0=0) (dec_f h2)
theorem s_Top {x:(Int×Option (List Int))×(Int×Option (List Int))} {q:Rat} (hx:RV x q):callV Pg q2N [⟨tER,x⟩] tEI fun r=>IV r q.num:=
 qho x (IV_ex _) hx.1
theorem q51 {x:(Int×Option (List Int))×(Int×Option (List Int))} {q:Rat} (hx:RV x q):callV Pg q1f [⟨tER,x⟩] .bool fun b=>b=true->q.den=1:=by
 have hd:q.den≠0:=q.den_nz
 obtain⟨t,v,d⟩:=x
 refine qhp _ ⟨false,fun h=>by simp at h⟩ (joinR (fun b=>b=true->q.den=1) (fun _ h=>h) fun k hk=>?_)
 refine q00.2 ⟨fun h=>hk _ fun h2=>?_,fun _=>hk _ fun h=>by simp at h⟩
 have hv1:v<=1:=dec_t h2
 cases d with
 | some l=>simp at h
 | none=>
  rcases hx.2 with h | ⟨_,h1⟩
  . have e:v=(q.den:Int):=h.1
    have e2:(q.den:Int)<=1:=by rw[<-e];exact hv1
    omega
  . omega
theorem q19 {x:(Int×Option (List Int))×(Int×Option (List Int))} {q:Rat} (hx:RV x q):callV Pg q0m [⟨tER,x⟩] tI fun r=>r=sgn q.num:=
 qhm x ⟨_,rfl⟩ ((q2G hx.1).mono fun _ h=>h)
theorem s_RNeg {x:(Int×Option (List Int))×(Int×Option (List Int))} {q:Rat} (hx:RV x q):callV Pg q1z [⟨tER,x⟩] tER fun r=>RV r (-q):=
 qhl x (RV_ex _) ((s_Neg hx.1).mono fun _ h=>⟨h,hx.2⟩)
theorem q4W {n:Int} (h1:-9223372036854775808<=n) (h2:n<9223372036854775808):callV Pg q1h [⟨tI,n⟩] tER fun r=>RV r (n:Rat):=
 qhr n (RV_ex _) ((s_Of h1 h2).mono fun _ h=>⟨h,.inr ⟨⟨rfl,by decide,by decide⟩,rfl⟩⟩)
end Go.Proofs.Pf
namespace Go.Proofs.Pf
open Go Go.VM
set_option maxRecDepth 100000
def qaX:Ann:=(.seq .nil (.seq .nil (.seq .nil (.seq (.seq (.reg [] [] (some ⟨[(2,.ref 2 0)],[.var 4 tI,.var 6 tI,.var 25 (.bool),.box 2 tNum]⟩)) .nil) .nil))))
theorem w_num_Out {Q:((Int×Int)×(Int×Unit))->Prop} (a:DR) (hQ:∃ r,Q r) (h:
 (callV Pg q2N [⟨tER,(a.1,a.2)⟩] tEI (fun p0=>(callV Pg q1x [⟨tEI,p0⟩,⟨tI,(1152921504606846976:Int)⟩] (.tup (.pair tI (.pair .bool .unit))) (fun p1=>(callV Pg q0q [⟨tER,(a.1,a.2)⟩] tEI (fun p2=>(callV Pg q1x [⟨tEI,p2⟩,⟨tI,(1152921504606846976:Int)⟩] (.tup (.pair tI (.pair .bool .unit))) (fun p3=>(joinV (Int×(Int×(Bool×(Int×Int)))) (fun p4=>(brV p4.2.2.1 (Q (((0:Int),(0:Int)),((3:Int),()))) (Q ((p4.1,p4.2.1),((0:Int),()))))) (fun k4=>(brV (notB p1.2.1) (k4 (p1.1,(p3.1,(true,((0:Int),(0:Int)))))) (k4 (p1.1,(p3.1,((notB p3.2.1),((0:Int),(0:Int)))))))))))))))))):
 callV Pg q1D [⟨tER,a⟩] (.tup (.pair tNum (.pair tI .unit))) Q:=
 q02 (c:=q01 q7I) (ann:=qaX) e_num_Out rfl r_num_Out rfl rfl hQ (kcast (by kernel_rfl) h)
def qaZ:Ann:=.nil
theorem w_num_Rat {Q:DR->Prop} (a:(Int×Int)) (hQ:∃ r,Q r) (h:
 (callV Pg q0P [⟨tI,a.1⟩] tEI (fun p0=>(callV Pg q0P [⟨tI,a.2⟩] tEI (fun p1=>(callV Pg q1g [⟨tEI,p0⟩,⟨tEI,p1⟩] tER (fun p2=>(Q (p2.1,p2.2))))))))):
 callV Pg q1m [⟨tNum,a⟩] tER Q:=
 q02 (c:=q01 q7K) (ann:=qaZ) e_num_Rat rfl r_num_Rat rfl rfl hQ (kcast (by kernel_rfl) h)
def qb1:Ann:=(.seq .nil (.seq (.seq (.reg [] [] (some ⟨[(1,.ref 1 0)],[.var 22 (.bool),.box 1 tNum]⟩)) .nil) .nil))
theorem qi1 {Q:Bool->Prop} (a:(Int×Int)) (hQ:∃ r,Q r) (h:
 (joinV (Bool×(Int×Int)) (fun p0=>(brV p0.1 (Q false) (callV Pg q0P [⟨tI,p0.2.1⟩] tEI (fun p1=>(callV Pg q0P [⟨tI,p0.2.2⟩] tEI (fun p2=>(callV Pg q26 [⟨tEI,p1⟩,⟨tEI,p2⟩] tEI (fun p3=>(callV Pg q1x [⟨tEI,p3⟩,⟨tI,(1152921504606846976:Int)⟩] (.tup (.pair tI (.pair .bool .unit))) (fun p4=>(Q (decide (p4.1=(1:Int)))))))))))))) (fun k0=>(brV (decide (a.2<(1:Int))) (k0 (true,a)) (brV (decide ((1152921504606846976:Int)<a.2)) (k0 (true,a)) (brV (decide ((1152921504606846976:Int)<a.1)) (k0 (true,a)) (k0 ((decide (a.1<(-(1152921504606846976:Int)))),a)))))))):
 callV Pg q1E [⟨tNum,a⟩] .bool Q:=
 q02 (c:=q01 q7M) (ann:=qb1) qdo rfl qfI rfl rfl hQ (kcast (by kernel_rfl) h)
end Go.Proofs.Pf
namespace Go.Proofs.Pf
open Go Go.VM
theorem rangeB {T S:Type} {step:(T->Prop)->T->Prop} {p0:T} {n:Nat} (f:Nat->S->T) (Inv:Nat->S->Prop) {B:(T->Prop)->Nat->S->Prop} {E:(T->Prop)->Nat->S->Prop} (s0:S) (h0:p0=f 0 s0) (hI:Inv 0 s0)
 (ix:T->Nat) (hix:∀ i s,ix (f i s)=i) (hs:∀ k i s,step k (f i s)=brV (decide ((i:Int)<(n:Int))) (B k i s) (E k i s))
 (hb:∀ k i s,i<n->Inv i s->(∀ s',Inv (i+1) s'->k (f (i+1) s'))->B k i s) (he:∀ k s,Inv n s->E k n s):loopV T step p0:=by
 refine loopE (fun p=>∃ i s,p=f i s/\i<=n/\Inv i s) (fun p=>n - ix p) ⟨0,s0,h0,Nat.zero_le _,hI⟩ ?_
 rintro _ ⟨i,s,rfl,hi,hx⟩
 rw[hs]
 refine q00.2 ⟨fun hc=>?_,fun hc=>?_⟩
 . have hc:(i:Int)<(n:Int):=dec_t hc
   have hc:i<n:=by omega
   refine hb _ i s hc hx fun s' h'=>⟨⟨i+1,s',rfl,hc,h'⟩,?_⟩
   rw[hix,hix];omega
 . have hc:¬ (i:Int)<(n:Int):=dec_f hc
   obtain rfl:i=n:=by omega
   exact he _ s hx
theorem br_t {b:Bool} {A B:Prop} (h:b=true) (hA:A):brV b A B:=by subst h;exact hA
theorem br_f {b:Bool} {A B:Prop} (h:b=false) (hB:B):brV b A B:=by subst h;exact hB
theorem br_c {b:Bool} {A B:Prop} (h1:b=true->A) (h2:b=false->B):brV b A B:=q00.2 ⟨h1,h2⟩
def optL {α:Type} (l:List α):Option (List α):=bif l.isEmpty then none else some l
theorem q0e {α:Type} (l:List α):(optL l).getD []=l:=by cases l<;>rfl
theorem q3C {α:Type} (l:List α) (x:α):appL (optL l) [x]=optL (l ++ [x]):=by cases l<;>rfl
theorem optL_some {α:Type} {l:List α} (h:l≠[]):optL l=some l:=by cases l;exact absurd rfl h;rfl
theorem in_s {α:Type} {l:Option (List α)} {i:Nat} (h:i<(l.getD []).length):inS l (i:Int):=⟨by omega,by omega⟩
theorem wi1 {i n:Nat} (h:i<n) (hn:n<=4611686018427387904):IntKind.wrap IntKind.i64 ((i:Int)+1)=((i+1:Nat):Int):=by rw[wi64 (by omega) (by omega)];rfl
abbrev tab {α:Type} (f:Nat->α) (n:Nat):List α:=(List.range n).map f
theorem q4n {α:Type} (f:Nat->α) (n:Nat):tab f (n+1)=tab f n ++ [f n]:=by simp[tab,List.range_succ]
theorem tab_len {α:Type} (f:Nat->α) (n:Nat):(tab f n).length=n:=by simp[tab]
theorem tab_get {α:Type} (f:Nat->α) (n i:Nat) (d:α) (h:i<n):(tab f n).getD i d=f i:=by
 simp[tab,List.getD,List.getElem?_range h]
end Go.Proofs.Pf
