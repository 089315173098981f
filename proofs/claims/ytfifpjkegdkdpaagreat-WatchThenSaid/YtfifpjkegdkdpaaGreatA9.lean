/- Typed pure data, a condition on code that says what a call gives, what the code of each function comes to, and what each function gives. -/
import Derived.Test.YtfifpjkegdkdpaaGreatProg
import Derived.Test.YtfifpjkegdkdpaaGreatA6
import Derived.Test.YtfifpjkegdkdpaaGreatA8
set_option linter.unusedVariables false
set_option linter.unusedSimpArgs false
set_option linter.unnecessarySimpa false
namespace Go.Proofs.Pf
open Go Go.VM
abbrev tEI:Ty:=.agg (.pair (.int .i64) (.sl (.int .u32)))
abbrev tER:Ty:=.agg (.pair tEI tEI)
abbrev tNum:Ty:=.agg (.pair (.int .i64) (.int .i64))
abbrev tI:Ty:=.int .i64
abbrev tD:Ty:=.sl (.int .u32)
abbrev tU:Ty:=.int .u32
abbrev tL:Ty:=.sl tI
abbrev tRI:Ty:=.agg (.pair tI (.pair .bool tL))
abbrev tRR:Ty:=.agg (.pair tRI tRI)
abbrev tBr:Ty:=.agg (.pair tI tNum)
abbrev tCh:Ty:=.agg (.pair tNum (.sl tBr))
abbrev tSt:Ty:=.agg (.pair tI (.pair tI (.sl tCh)))
abbrev tMo:Ty:=.agg (.sl tSt)
abbrev DL:=Option (List Int)
abbrev DBr:=Int×(Int×Int)
abbrev DCh:=(Int×Int)×Option (List DBr)
abbrev DSt:=Int×(Int×Option (List DCh))
abbrev DMo:=Option (List DSt)
abbrev DE:=Int×Option (List Int)
abbrev DR:=DE×DE
abbrev DRI:=Int×(Bool×Option (List Int))
abbrev DRR:=DRI×DRI
abbrev z0:DRR:=((0,false,none),0,false,none)
abbrev r0:DR:=((0,none),0,none)
def q01 (fn:Func):Code:=match fn.body with | some c=>c | none=>.skip
theorem kcast {a b:Prop} (h:a=b) (hb:b):a:=h ▸ hb
def bytesL (l:List Nat):ByteArray:=⟨⟨l.map UInt8.ofNat⟩⟩
noncomputable abbrev Pg:Program:=Go.Proofs.Tryz.prog
abbrev q4z:FuncId:=4
noncomputable abbrev q85:Func:=Go.Proofs.Tryz.f4
theorem qeH:Pg.funcs[q4z]?=some q85:=Go.Proofs.Tryz.func4
theorem qhv:∀ args w,(callFunc q4z args).run Pg w=.ok (.enter q4z args) w:=Go.Proofs.Tryz.call4
abbrev q3b:FuncId:=6
noncomputable abbrev q87:Func:=Go.Proofs.Tryz.f6
theorem qeJ:Pg.funcs[q3b]?=some q87:=Go.Proofs.Tryz.func6
theorem qhx:∀ args w,(callFunc q3b args).run Pg w=.ok (.enter q3b args) w:=Go.Proofs.Tryz.call6
abbrev q2w:FuncId:=7
noncomputable abbrev q86:Func:=Go.Proofs.Tryz.f7
theorem qeI:Pg.funcs[q2w]?=some q86:=Go.Proofs.Tryz.func7
theorem qhw:∀ args w,(callFunc q2w args).run Pg w=.ok (.enter q2w args) w:=Go.Proofs.Tryz.call7
abbrev q3W:FuncId:=8
noncomputable abbrev q9B:Func:=Go.Proofs.Tryz.f8
theorem qgb:Pg.funcs[q3W]?=some q9B:=Go.Proofs.Tryz.func8
theorem qiZ:∀ args w,(callFunc q3W args).run Pg w=.ok (.enter q3W args) w:=Go.Proofs.Tryz.call8
abbrev q3Y:FuncId:=9
noncomputable abbrev q9D:Func:=Go.Proofs.Tryz.f9
theorem qgd:Pg.funcs[q3Y]?=some q9D:=Go.Proofs.Tryz.func9
theorem qj1:∀ args w,(callFunc q3Y args).run Pg w=.ok (.enter q3Y args) w:=Go.Proofs.Tryz.call9
abbrev q1b:FuncId:=12
noncomputable abbrev q8L:Func:=Go.Proofs.Tryz.f12
theorem qfl:Pg.funcs[q1b]?=some q8L:=Go.Proofs.Tryz.func12
theorem qi9:∀ args w,(callFunc q1b args).run Pg w=.ok (.enter q1b args) w:=Go.Proofs.Tryz.call12
abbrev q0k:FuncId:=13
noncomputable abbrev q8V:Func:=Go.Proofs.Tryz.f13
theorem qfv:Pg.funcs[q0k]?=some q8V:=Go.Proofs.Tryz.func13
theorem qij:∀ args w,(callFunc q0k args).run Pg w=.ok (.enter q0k args) w:=Go.Proofs.Tryz.call13
abbrev q0J:FuncId:=14
noncomputable abbrev q8T:Func:=Go.Proofs.Tryz.f14
theorem qft:Pg.funcs[q0J]?=some q8T:=Go.Proofs.Tryz.func14
theorem qih:∀ args w,(callFunc q0J args).run Pg w=.ok (.enter q0J args) w:=Go.Proofs.Tryz.call14
abbrev q0W:FuncId:=15
noncomputable abbrev q8R:Func:=Go.Proofs.Tryz.f15
theorem qfr:Pg.funcs[q0W]?=some q8R:=Go.Proofs.Tryz.func15
theorem qif:∀ args w,(callFunc q0W args).run Pg w=.ok (.enter q0W args) w:=Go.Proofs.Tryz.call15
abbrev q40:FuncId:=16
noncomputable abbrev q9H:Func:=Go.Proofs.Tryz.f16
theorem qgh:Pg.funcs[q40]?=some q9H:=Go.Proofs.Tryz.func16
theorem qj5:∀ args w,(callFunc q40 args).run Pg w=.ok (.enter q40 args) w:=Go.Proofs.Tryz.call16
abbrev q2G:FuncId:=17
noncomputable abbrev q8S:Func:=Go.Proofs.Tryz.f17
theorem qfs:Pg.funcs[q2G]?=some q8S:=Go.Proofs.Tryz.func17
theorem qig:∀ args w,(callFunc q2G args).run Pg w=.ok (.enter q2G args) w:=Go.Proofs.Tryz.call17
abbrev q3X:FuncId:=18
noncomputable abbrev q9C:Func:=Go.Proofs.Tryz.f18
theorem qgc:Pg.funcs[q3X]?=some q9C:=Go.Proofs.Tryz.func18
theorem qj0:∀ args w,(callFunc q3X args).run Pg w=.ok (.enter q3X args) w:=Go.Proofs.Tryz.call18
abbrev q3E:FuncId:=20
noncomputable abbrev q9f:Func:=Go.Proofs.Tryz.f20
theorem qfP:Pg.funcs[q3E]?=some q9f:=Go.Proofs.Tryz.func20
theorem qiD:∀ args w,(callFunc q3E args).run Pg w=.ok (.enter q3E args) w:=Go.Proofs.Tryz.call20
abbrev q3I:FuncId:=21
noncomputable abbrev q9j:Func:=Go.Proofs.Tryz.f21
theorem qfT:Pg.funcs[q3I]?=some q9j:=Go.Proofs.Tryz.func21
theorem qiH:∀ args w,(callFunc q3I args).run Pg w=.ok (.enter q3I args) w:=Go.Proofs.Tryz.call21
abbrev q20:FuncId:=22
noncomputable abbrev q95:Func:=Go.Proofs.Tryz.f22
theorem qfF:Pg.funcs[q20]?=some q95:=Go.Proofs.Tryz.func22
theorem qit:∀ args w,(callFunc q20 args).run Pg w=.ok (.enter q20 args) w:=Go.Proofs.Tryz.call22
abbrev q3G:FuncId:=23
noncomputable abbrev q9h:Func:=Go.Proofs.Tryz.f23
theorem qfR:Pg.funcs[q3G]?=some q9h:=Go.Proofs.Tryz.func23
theorem qiF:∀ args w,(callFunc q3G args).run Pg w=.ok (.enter q3G args) w:=Go.Proofs.Tryz.call23
abbrev q3r:FuncId:=24
noncomputable abbrev q8J:Func:=Go.Proofs.Tryz.f24
theorem qfj:Pg.funcs[q3r]?=some q8J:=Go.Proofs.Tryz.func24
theorem qi7:∀ args w,(callFunc q3r args).run Pg w=.ok (.enter q3r args) w:=Go.Proofs.Tryz.call24
abbrev q3K:FuncId:=25
noncomputable abbrev q9l:Func:=Go.Proofs.Tryz.f25
theorem qfV:Pg.funcs[q3K]?=some q9l:=Go.Proofs.Tryz.func25
theorem qiJ:∀ args w,(callFunc q3K args).run Pg w=.ok (.enter q3K args) w:=Go.Proofs.Tryz.call25
abbrev q3x:FuncId:=26
noncomputable abbrev q94:Func:=Go.Proofs.Tryz.f26
theorem qfE:Pg.funcs[q3x]?=some q94:=Go.Proofs.Tryz.func26
theorem qis:∀ args w,(callFunc q3x args).run Pg w=.ok (.enter q3x args) w:=Go.Proofs.Tryz.call26
abbrev q3Z:FuncId:=27
noncomputable abbrev q9E:Func:=Go.Proofs.Tryz.f27
theorem qge:Pg.funcs[q3Z]?=some q9E:=Go.Proofs.Tryz.func27
theorem qj2:∀ args w,(callFunc q3Z args).run Pg w=.ok (.enter q3Z args) w:=Go.Proofs.Tryz.call27
abbrev q1U:FuncId:=28
noncomputable abbrev q8H:Func:=Go.Proofs.Tryz.f28
theorem qfh:Pg.funcs[q1U]?=some q8H:=Go.Proofs.Tryz.func28
theorem qi5:∀ args w,(callFunc q1U args).run Pg w=.ok (.enter q1U args) w:=Go.Proofs.Tryz.call28
abbrev q3y:FuncId:=36
noncomputable abbrev q96:Func:=Go.Proofs.Tryz.f36
theorem qfG:Pg.funcs[q3y]?=some q96:=Go.Proofs.Tryz.func36
theorem qiu:∀ args w,(callFunc q3y args).run Pg w=.ok (.enter q3y args) w:=Go.Proofs.Tryz.call36
abbrev q3H:FuncId:=37
noncomputable abbrev q9i:Func:=Go.Proofs.Tryz.f37
theorem qfS:Pg.funcs[q3H]?=some q9i:=Go.Proofs.Tryz.func37
theorem qiG:∀ args w,(callFunc q3H args).run Pg w=.ok (.enter q3H args) w:=Go.Proofs.Tryz.call37
abbrev q1Q:FuncId:=38
noncomputable abbrev q83:Func:=Go.Proofs.Tryz.f38
theorem qeF:Pg.funcs[q1Q]?=some q83:=Go.Proofs.Tryz.func38
theorem qht:∀ args w,(callFunc q1Q args).run Pg w=.ok (.enter q1Q args) w:=Go.Proofs.Tryz.call38
abbrev q3V:FuncId:=39
noncomputable abbrev q9A:Func:=Go.Proofs.Tryz.f39
theorem qga:Pg.funcs[q3V]?=some q9A:=Go.Proofs.Tryz.func39
theorem qiY:∀ args w,(callFunc q3V args).run Pg w=.ok (.enter q3V args) w:=Go.Proofs.Tryz.call39
abbrev q1x:FuncId:=40
noncomputable abbrev q88:Func:=Go.Proofs.Tryz.f40
theorem qeK:Pg.funcs[q1x]?=some q88:=Go.Proofs.Tryz.func40
theorem qhy:∀ args w,(callFunc q1x args).run Pg w=.ok (.enter q1x args) w:=Go.Proofs.Tryz.call40
abbrev q1e:FuncId:=41
noncomputable abbrev q9I:Func:=Go.Proofs.Tryz.f41
theorem qgi:Pg.funcs[q1e]?=some q9I:=Go.Proofs.Tryz.func41
theorem qj6:∀ args w,(callFunc q1e args).run Pg w=.ok (.enter q1e args) w:=Go.Proofs.Tryz.call41
abbrev q1R:FuncId:=42
noncomputable abbrev q8p:Func:=Go.Proofs.Tryz.f42
theorem e_num_Out:Pg.funcs[q1R]?=some q8p:=Go.Proofs.Tryz.func42
theorem r_num_Out:∀ args w,(callFunc q1R args).run Pg w=.ok (.enter q1R args) w:=Go.Proofs.Tryz.call42
abbrev q1C:FuncId:=43
noncomputable abbrev q9W:Func:=Go.Proofs.Tryz.f43
theorem qgw:Pg.funcs[q1C]?=some q9W:=Go.Proofs.Tryz.func43
theorem qjk:∀ args w,(callFunc q1C args).run Pg w=.ok (.enter q1C args) w:=Go.Proofs.Tryz.call43
abbrev q22:FuncId:=44
noncomputable abbrev q9Q:Func:=Go.Proofs.Tryz.f44
theorem qgq:Pg.funcs[q22]?=some q9Q:=Go.Proofs.Tryz.func44
theorem qje:∀ args w,(callFunc q22 args).run Pg w=.ok (.enter q22 args) w:=Go.Proofs.Tryz.call44
abbrev q19:FuncId:=45
noncomputable abbrev q8s:Func:=Go.Proofs.Tryz.f45
theorem qf2:Pg.funcs[q19]?=some q8s:=Go.Proofs.Tryz.func45
theorem qhQ:∀ args w,(callFunc q19 args).run Pg w=.ok (.enter q19 args) w:=Go.Proofs.Tryz.call45
abbrev q2N:FuncId:=46
noncomputable abbrev q9L:Func:=Go.Proofs.Tryz.f46
theorem qgl:Pg.funcs[q2N]?=some q9L:=Go.Proofs.Tryz.func46
theorem qj9:∀ args w,(callFunc q2N args).run Pg w=.ok (.enter q2N args) w:=Go.Proofs.Tryz.call46
abbrev q1f:FuncId:=47
noncomputable abbrev q6a:Func:=Go.Proofs.Tryz.f47
theorem q7q:Pg.funcs[q1f]?=some q6a:=Go.Proofs.Tryz.func47
theorem qaC:∀ args w,(callFunc q1f args).run Pg w=.ok (.enter q1f args) w:=Go.Proofs.Tryz.call47
abbrev q0E:FuncId:=48
noncomputable abbrev q7u:Func:=Go.Proofs.Tryz.f48
theorem qe6:Pg.funcs[q0E]?=some q7u:=Go.Proofs.Tryz.func48
theorem qgU:∀ args w,(callFunc q0E args).run Pg w=.ok (.enter q0E args) w:=Go.Proofs.Tryz.call48
abbrev q0a:FuncId:=49
noncomputable abbrev q9X:Func:=Go.Proofs.Tryz.f49
theorem qgx:Pg.funcs[q0a]?=some q9X:=Go.Proofs.Tryz.func49
theorem qjl:∀ args w,(callFunc q0a args).run Pg w=.ok (.enter q0a args) w:=Go.Proofs.Tryz.call49
abbrev q0F:FuncId:=50
noncomputable abbrev q7H:Func:=Go.Proofs.Tryz.f50
theorem qej:Pg.funcs[q0F]?=some q7H:=Go.Proofs.Tryz.func50
theorem qh7:∀ args w,(callFunc q0F args).run Pg w=.ok (.enter q0F args) w:=Go.Proofs.Tryz.call50
abbrev q0V:FuncId:=51
noncomputable abbrev q8P:Func:=Go.Proofs.Tryz.f51
theorem qfp:Pg.funcs[q0V]?=some q8P:=Go.Proofs.Tryz.func51
theorem qid:∀ args w,(callFunc q0V args).run Pg w=.ok (.enter q0V args) w:=Go.Proofs.Tryz.call51
abbrev q3s:FuncId:=52
noncomputable abbrev q8M:Func:=Go.Proofs.Tryz.f52
theorem qfm:Pg.funcs[q3s]?=some q8M:=Go.Proofs.Tryz.func52
theorem qia:∀ args w,(callFunc q3s args).run Pg w=.ok (.enter q3s args) w:=Go.Proofs.Tryz.call52
abbrev q1W:FuncId:=53
noncomputable abbrev q8Q:Func:=Go.Proofs.Tryz.f53
theorem qfq:Pg.funcs[q1W]?=some q8Q:=Go.Proofs.Tryz.func53
theorem qie:∀ args w,(callFunc q1W args).run Pg w=.ok (.enter q1W args) w:=Go.Proofs.Tryz.call53
abbrev q0r:FuncId:=54
noncomputable abbrev q8K:Func:=Go.Proofs.Tryz.f54
theorem qfk:Pg.funcs[q0r]?=some q8K:=Go.Proofs.Tryz.func54
theorem qi8:∀ args w,(callFunc q0r args).run Pg w=.ok (.enter q0r args) w:=Go.Proofs.Tryz.call54
abbrev q1V:FuncId:=55
noncomputable abbrev q8I:Func:=Go.Proofs.Tryz.f55
theorem qfi:Pg.funcs[q1V]?=some q8I:=Go.Proofs.Tryz.func55
theorem qi6:∀ args w,(callFunc q1V args).run Pg w=.ok (.enter q1V args) w:=Go.Proofs.Tryz.call55
abbrev q0I:FuncId:=56
noncomputable abbrev q8F:Func:=Go.Proofs.Tryz.f56
theorem qff:Pg.funcs[q0I]?=some q8F:=Go.Proofs.Tryz.func56
theorem qi3:∀ args w,(callFunc q0I args).run Pg w=.ok (.enter q0I args) w:=Go.Proofs.Tryz.call56
abbrev q0Z:FuncId:=57
noncomputable abbrev q9T:Func:=Go.Proofs.Tryz.f57
theorem qgt:Pg.funcs[q0Z]?=some q9T:=Go.Proofs.Tryz.func57
theorem qjh:∀ args w,(callFunc q0Z args).run Pg w=.ok (.enter q0Z args) w:=Go.Proofs.Tryz.call57
abbrev q1B:FuncId:=58
noncomputable abbrev q9V:Func:=Go.Proofs.Tryz.f58
theorem qgv:Pg.funcs[q1B]?=some q9V:=Go.Proofs.Tryz.func58
theorem qjj:∀ args w,(callFunc q1B args).run Pg w=.ok (.enter q1B args) w:=Go.Proofs.Tryz.call58
abbrev q2M:FuncId:=59
noncomputable abbrev q9K:Func:=Go.Proofs.Tryz.f59
theorem qgk:Pg.funcs[q2M]?=some q9K:=Go.Proofs.Tryz.func59
theorem qj8:∀ args w,(callFunc q2M args).run Pg w=.ok (.enter q2M args) w:=Go.Proofs.Tryz.call59
abbrev q0G:FuncId:=60
noncomputable abbrev q7L:Func:=Go.Proofs.Tryz.f60
theorem qen:Pg.funcs[q0G]?=some q7L:=Go.Proofs.Tryz.func60
theorem qhb:∀ args w,(callFunc q0G args).run Pg w=.ok (.enter q0G args) w:=Go.Proofs.Tryz.call60
abbrev q2L:FuncId:=61
noncomputable abbrev q9J:Func:=Go.Proofs.Tryz.f61
theorem qgj:Pg.funcs[q2L]?=some q9J:=Go.Proofs.Tryz.func61
theorem qj7:∀ args w,(callFunc q2L args).run Pg w=.ok (.enter q2L args) w:=Go.Proofs.Tryz.call61
abbrev q1r:FuncId:=62
noncomputable abbrev q7I:Func:=Go.Proofs.Tryz.f62
theorem qek:Pg.funcs[q1r]?=some q7I:=Go.Proofs.Tryz.func62
theorem qh8:∀ args w,(callFunc q1r args).run Pg w=.ok (.enter q1r args) w:=Go.Proofs.Tryz.call62
abbrev q0i:FuncId:=63
noncomputable abbrev q7N:Func:=Go.Proofs.Tryz.f63
theorem qep:Pg.funcs[q0i]?=some q7N:=Go.Proofs.Tryz.func63
theorem qhd:∀ args w,(callFunc q0i args).run Pg w=.ok (.enter q0i args) w:=Go.Proofs.Tryz.call63
abbrev q3A:FuncId:=64
noncomputable abbrev q99:Func:=Go.Proofs.Tryz.f64
theorem qfJ:Pg.funcs[q3A]?=some q99:=Go.Proofs.Tryz.func64
theorem qix:∀ args w,(callFunc q3A args).run Pg w=.ok (.enter q3A args) w:=Go.Proofs.Tryz.call64
abbrev q3C:FuncId:=65
noncomputable abbrev q9b:Func:=Go.Proofs.Tryz.f65
theorem qfL:Pg.funcs[q3C]?=some q9b:=Go.Proofs.Tryz.func65
theorem qiz:∀ args w,(callFunc q3C args).run Pg w=.ok (.enter q3C args) w:=Go.Proofs.Tryz.call65
abbrev q3L:FuncId:=66
noncomputable abbrev q9m:Func:=Go.Proofs.Tryz.f66
theorem qfW:Pg.funcs[q3L]?=some q9m:=Go.Proofs.Tryz.func66
theorem qiK:∀ args w,(callFunc q3L args).run Pg w=.ok (.enter q3L args) w:=Go.Proofs.Tryz.call66
abbrev q3z:FuncId:=67
noncomputable abbrev q98:Func:=Go.Proofs.Tryz.f67
theorem qfI:Pg.funcs[q3z]?=some q98:=Go.Proofs.Tryz.func67
theorem qiw:∀ args w,(callFunc q3z args).run Pg w=.ok (.enter q3z args) w:=Go.Proofs.Tryz.call67
abbrev q1A:FuncId:=68
noncomputable abbrev q69:Func:=Go.Proofs.Tryz.f68
theorem q7p:Pg.funcs[q1A]?=some q69:=Go.Proofs.Tryz.func68
theorem qaA:∀ args w,(callFunc q1A args).run Pg w=.ok (.enter q1A args) w:=Go.Proofs.Tryz.call68
abbrev q0Y:FuncId:=69
noncomputable abbrev q9e:Func:=Go.Proofs.Tryz.f69
theorem qfO:Pg.funcs[q0Y]?=some q9e:=Go.Proofs.Tryz.func69
theorem qiC:∀ args w,(callFunc q0Y args).run Pg w=.ok (.enter q0Y args) w:=Go.Proofs.Tryz.call69
abbrev q1z:FuncId:=70
noncomputable abbrev q9d:Func:=Go.Proofs.Tryz.f70
theorem qfN:Pg.funcs[q1z]?=some q9d:=Go.Proofs.Tryz.func70
theorem qiB:∀ args w,(callFunc q1z args).run Pg w=.ok (.enter q1z args) w:=Go.Proofs.Tryz.call70
abbrev q2B:FuncId:=71
noncomputable abbrev q8v:Func:=Go.Proofs.Tryz.f71
theorem qf5:Pg.funcs[q2B]?=some q8v:=Go.Proofs.Tryz.func71
theorem qhT:∀ args w,(callFunc q2B args).run Pg w=.ok (.enter q2B args) w:=Go.Proofs.Tryz.call71
abbrev q3F:FuncId:=72
noncomputable abbrev q9g:Func:=Go.Proofs.Tryz.f72
theorem qfQ:Pg.funcs[q3F]?=some q9g:=Go.Proofs.Tryz.func72
theorem qiE:∀ args w,(callFunc q3F args).run Pg w=.ok (.enter q3F args) w:=Go.Proofs.Tryz.call72
abbrev q3M:FuncId:=73
noncomputable abbrev q9n:Func:=Go.Proofs.Tryz.f73
theorem qfX:Pg.funcs[q3M]?=some q9n:=Go.Proofs.Tryz.func73
theorem qiL:∀ args w,(callFunc q3M args).run Pg w=.ok (.enter q3M args) w:=Go.Proofs.Tryz.call73
abbrev q45:FuncId:=74
noncomputable abbrev q9S:Func:=Go.Proofs.Tryz.f74
theorem qgs:Pg.funcs[q45]?=some q9S:=Go.Proofs.Tryz.func74
theorem qjg:∀ args w,(callFunc q45 args).run Pg w=.ok (.enter q45 args) w:=Go.Proofs.Tryz.call74
abbrev q0K:FuncId:=75
noncomputable abbrev q9F:Func:=Go.Proofs.Tryz.f75
theorem qgf:Pg.funcs[q0K]?=some q9F:=Go.Proofs.Tryz.func75
theorem qj3:∀ args w,(callFunc q0K args).run Pg w=.ok (.enter q0K args) w:=Go.Proofs.Tryz.call75
abbrev q46:FuncId:=76
noncomputable abbrev q9U:Func:=Go.Proofs.Tryz.f76
theorem qgu:Pg.funcs[q46]?=some q9U:=Go.Proofs.Tryz.func76
theorem qji:∀ args w,(callFunc q46 args).run Pg w=.ok (.enter q46 args) w:=Go.Proofs.Tryz.call76
abbrev q3a:FuncId:=77
noncomputable abbrev q82:Func:=Go.Proofs.Tryz.f77
theorem qeE:Pg.funcs[q3a]?=some q82:=Go.Proofs.Tryz.func77
theorem qhs:∀ args w,(callFunc q3a args).run Pg w=.ok (.enter q3a args) w:=Go.Proofs.Tryz.call77
abbrev q1d:FuncId:=78
noncomputable abbrev q9G:Func:=Go.Proofs.Tryz.f78
theorem qgg:Pg.funcs[q1d]?=some q9G:=Go.Proofs.Tryz.func78
theorem qj4:∀ args w,(callFunc q1d args).run Pg w=.ok (.enter q1d args) w:=Go.Proofs.Tryz.call78
abbrev q1w:FuncId:=82
noncomputable abbrev q84:Func:=Go.Proofs.Tryz.f82
theorem qeG:Pg.funcs[q1w]?=some q84:=Go.Proofs.Tryz.func82
theorem qhu:∀ args w,(callFunc q1w args).run Pg w=.ok (.enter q1w args) w:=Go.Proofs.Tryz.call82
abbrev q2J:FuncId:=83
noncomputable abbrev q97:Func:=Go.Proofs.Tryz.f83
theorem qfH:Pg.funcs[q2J]?=some q97:=Go.Proofs.Tryz.func83
theorem qiv:∀ args w,(callFunc q2J args).run Pg w=.ok (.enter q2J args) w:=Go.Proofs.Tryz.call83
abbrev q2A:FuncId:=84
noncomputable abbrev q8n:Func:=Go.Proofs.Tryz.f84
theorem qeZ:Pg.funcs[q2A]?=some q8n:=Go.Proofs.Tryz.func84
theorem qhN:∀ args w,(callFunc q2A args).run Pg w=.ok (.enter q2A args) w:=Go.Proofs.Tryz.call84
abbrev q2z:FuncId:=85
noncomputable abbrev q8l:Func:=Go.Proofs.Tryz.f85
theorem qeX:Pg.funcs[q2z]?=some q8l:=Go.Proofs.Tryz.func85
theorem qhL:∀ args w,(callFunc q2z args).run Pg w=.ok (.enter q2z args) w:=Go.Proofs.Tryz.call85
abbrev q2t:FuncId:=86
noncomputable abbrev q7O:Func:=Go.Proofs.Tryz.f86
theorem qeq:Pg.funcs[q2t]?=some q7O:=Go.Proofs.Tryz.func86
theorem qhe:∀ args w,(callFunc q2t args).run Pg w=.ok (.enter q2t args) w:=Go.Proofs.Tryz.call86
abbrev q41:FuncId:=87
noncomputable abbrev q9M:Func:=Go.Proofs.Tryz.f87
theorem qgm:Pg.funcs[q41]?=some q9M:=Go.Proofs.Tryz.func87
theorem qja:∀ args w,(callFunc q41 args).run Pg w=.ok (.enter q41 args) w:=Go.Proofs.Tryz.call87
abbrev q44:FuncId:=88
noncomputable abbrev q9R:Func:=Go.Proofs.Tryz.f88
theorem qgr:Pg.funcs[q44]?=some q9R:=Go.Proofs.Tryz.func88
theorem qjf:∀ args w,(callFunc q44 args).run Pg w=.ok (.enter q44 args) w:=Go.Proofs.Tryz.call88
abbrev q3P:FuncId:=89
noncomputable abbrev q9r:Func:=Go.Proofs.Tryz.f89
theorem qg1:Pg.funcs[q3P]?=some q9r:=Go.Proofs.Tryz.func89
theorem qiP:∀ args w,(callFunc q3P args).run Pg w=.ok (.enter q3P args) w:=Go.Proofs.Tryz.call89
abbrev q42:FuncId:=90
noncomputable abbrev q9N:Func:=Go.Proofs.Tryz.f90
theorem qgn:Pg.funcs[q42]?=some q9N:=Go.Proofs.Tryz.func90
theorem qjb:∀ args w,(callFunc q42 args).run Pg w=.ok (.enter q42 args) w:=Go.Proofs.Tryz.call90
abbrev q43:FuncId:=91
noncomputable abbrev q9O:Func:=Go.Proofs.Tryz.f91
theorem qgo:Pg.funcs[q43]?=some q9O:=Go.Proofs.Tryz.func91
theorem qjc:∀ args w,(callFunc q43 args).run Pg w=.ok (.enter q43 args) w:=Go.Proofs.Tryz.call91
abbrev q36:FuncId:=92
noncomputable abbrev q7P:Func:=Go.Proofs.Tryz.f92
theorem qer:Pg.funcs[q36]?=some q7P:=Go.Proofs.Tryz.func92
theorem qhf:∀ args w,(callFunc q36 args).run Pg w=.ok (.enter q36 args) w:=Go.Proofs.Tryz.call92
abbrev q1L:FuncId:=93
noncomputable abbrev q7A:Func:=Go.Proofs.Tryz.f93
theorem qec:Pg.funcs[q1L]?=some q7A:=Go.Proofs.Tryz.func93
theorem qh0:∀ args w,(callFunc q1L args).run Pg w=.ok (.enter q1L args) w:=Go.Proofs.Tryz.call93
abbrev q0q:FuncId:=94
noncomputable abbrev q7K:Func:=Go.Proofs.Tryz.f94
theorem qem:Pg.funcs[q0q]?=some q7K:=Go.Proofs.Tryz.func94
theorem qha:∀ args w,(callFunc q0q args).run Pg w=.ok (.enter q0q args) w:=Go.Proofs.Tryz.call94
abbrev q1y:FuncId:=95
noncomputable abbrev q8r:Func:=Go.Proofs.Tryz.f95
theorem e_num_Rat:Pg.funcs[q1y]?=some q8r:=Go.Proofs.Tryz.func95
theorem r_num_Rat:∀ args w,(callFunc q1y args).run Pg w=.ok (.enter q1y args) w:=Go.Proofs.Tryz.call95
abbrev q2s:FuncId:=96
noncomputable abbrev q7J:Func:=Go.Proofs.Tryz.f96
theorem qel:Pg.funcs[q2s]?=some q7J:=Go.Proofs.Tryz.func96
theorem qh9:∀ args w,(callFunc q2s args).run Pg w=.ok (.enter q2s args) w:=Go.Proofs.Tryz.call96
abbrev q3n:FuncId:=97
noncomputable abbrev q8q:Func:=Go.Proofs.Tryz.f97
theorem qf1:Pg.funcs[q3n]?=some q8q:=Go.Proofs.Tryz.func97
theorem qhP:∀ args w,(callFunc q3n args).run Pg w=.ok (.enter q3n args) w:=Go.Proofs.Tryz.call97
abbrev q1s:FuncId:=98
noncomputable abbrev q7Q:Func:=Go.Proofs.Tryz.f98
theorem qes:Pg.funcs[q1s]?=some q7Q:=Go.Proofs.Tryz.func98
theorem qhg:∀ args w,(callFunc q1s args).run Pg w=.ok (.enter q1s args) w:=Go.Proofs.Tryz.call98
abbrev q2r:FuncId:=99
noncomputable abbrev q7z:Func:=Go.Proofs.Tryz.f99
theorem qeb:Pg.funcs[q2r]?=some q7z:=Go.Proofs.Tryz.func99
theorem qgZ:∀ args w,(callFunc q2r args).run Pg w=.ok (.enter q2r args) w:=Go.Proofs.Tryz.call99
abbrev q1t:FuncId:=100
noncomputable abbrev q7R:Func:=Go.Proofs.Tryz.f100
theorem qet:Pg.funcs[q1t]?=some q7R:=Go.Proofs.Tryz.func100
theorem qhh:∀ args w,(callFunc q1t args).run Pg w=.ok (.enter q1t args) w:=Go.Proofs.Tryz.call100
abbrev q0v:FuncId:=101
noncomputable abbrev q7B:Func:=Go.Proofs.Tryz.f101
theorem qed:Pg.funcs[q0v]?=some q7B:=Go.Proofs.Tryz.func101
theorem qh1:∀ args w,(callFunc q0v args).run Pg w=.ok (.enter q0v args) w:=Go.Proofs.Tryz.call101
abbrev q2E:FuncId:=102
noncomputable abbrev q8C:Func:=Go.Proofs.Tryz.f102
theorem qfc:Pg.funcs[q2E]?=some q8C:=Go.Proofs.Tryz.func102
theorem qi0:∀ args w,(callFunc q2E args).run Pg w=.ok (.enter q2E args) w:=Go.Proofs.Tryz.call102
abbrev q3t:FuncId:=103
noncomputable abbrev q8N:Func:=Go.Proofs.Tryz.f103
theorem qfn:Pg.funcs[q3t]?=some q8N:=Go.Proofs.Tryz.func103
theorem qib:∀ args w,(callFunc q3t args).run Pg w=.ok (.enter q3t args) w:=Go.Proofs.Tryz.call103
abbrev q0g:FuncId:=104
noncomputable abbrev q8D:Func:=Go.Proofs.Tryz.f104
theorem qfd:Pg.funcs[q0g]?=some q8D:=Go.Proofs.Tryz.func104
theorem qi1:∀ args w,(callFunc q0g args).run Pg w=.ok (.enter q0g args) w:=Go.Proofs.Tryz.call104
abbrev q1a:FuncId:=105
noncomputable abbrev q8A:Func:=Go.Proofs.Tryz.f105
theorem qfa:Pg.funcs[q1a]?=some q8A:=Go.Proofs.Tryz.func105
theorem qhY:∀ args w,(callFunc q1a args).run Pg w=.ok (.enter q1a args) w:=Go.Proofs.Tryz.call105
abbrev q2C:FuncId:=106
noncomputable abbrev q8w:Func:=Go.Proofs.Tryz.f106
theorem qf6:Pg.funcs[q2C]?=some q8w:=Go.Proofs.Tryz.func106
theorem qhU:∀ args w,(callFunc q2C args).run Pg w=.ok (.enter q2C args) w:=Go.Proofs.Tryz.call106
abbrev q2D:FuncId:=107
noncomputable abbrev q8y:Func:=Go.Proofs.Tryz.f107
theorem qf8:Pg.funcs[q2D]?=some q8y:=Go.Proofs.Tryz.func107
theorem qhW:∀ args w,(callFunc q2D args).run Pg w=.ok (.enter q2D args) w:=Go.Proofs.Tryz.call107
abbrev q1T:FuncId:=108
noncomputable abbrev q8B:Func:=Go.Proofs.Tryz.f108
theorem qfb:Pg.funcs[q1T]?=some q8B:=Go.Proofs.Tryz.func108
theorem qhZ:∀ args w,(callFunc q1T args).run Pg w=.ok (.enter q1T args) w:=Go.Proofs.Tryz.call108
abbrev q0U:FuncId:=109
noncomputable abbrev q8G:Func:=Go.Proofs.Tryz.f109
theorem qfg:Pg.funcs[q0U]?=some q8G:=Go.Proofs.Tryz.func109
theorem qi4:∀ args w,(callFunc q0U args).run Pg w=.ok (.enter q0U args) w:=Go.Proofs.Tryz.call109
abbrev q0X:FuncId:=110
noncomputable abbrev q8Z:Func:=Go.Proofs.Tryz.f110
theorem qfz:Pg.funcs[q0X]?=some q8Z:=Go.Proofs.Tryz.func110
theorem qin:∀ args w,(callFunc q0X args).run Pg w=.ok (.enter q0X args) w:=Go.Proofs.Tryz.call110
abbrev q1u:FuncId:=111
noncomputable abbrev q7S:Func:=Go.Proofs.Tryz.f111
theorem qeu:Pg.funcs[q1u]?=some q7S:=Go.Proofs.Tryz.func111
theorem qhi:∀ args w,(callFunc q1u args).run Pg w=.ok (.enter q1u args) w:=Go.Proofs.Tryz.call111
abbrev q0S:FuncId:=112
noncomputable abbrev q7E:Func:=Go.Proofs.Tryz.f112
theorem qeg:Pg.funcs[q0S]?=some q7E:=Go.Proofs.Tryz.func112
theorem qh4:∀ args w,(callFunc q0S args).run Pg w=.ok (.enter q0S args) w:=Go.Proofs.Tryz.call112
abbrev q3B:FuncId:=113
noncomputable abbrev q9a:Func:=Go.Proofs.Tryz.f113
theorem qfK:Pg.funcs[q3B]?=some q9a:=Go.Proofs.Tryz.func113
theorem qiy:∀ args w,(callFunc q3B args).run Pg w=.ok (.enter q3B args) w:=Go.Proofs.Tryz.call113
abbrev q3o:FuncId:=114
noncomputable abbrev q8u:Func:=Go.Proofs.Tryz.f114
theorem qf4:Pg.funcs[q3o]?=some q8u:=Go.Proofs.Tryz.func114
theorem qhS:∀ args w,(callFunc q3o args).run Pg w=.ok (.enter q3o args) w:=Go.Proofs.Tryz.call114
abbrev q21:FuncId:=115
noncomputable abbrev q9o:Func:=Go.Proofs.Tryz.f115
theorem qfY:Pg.funcs[q21]?=some q9o:=Go.Proofs.Tryz.func115
theorem qiM:∀ args w,(callFunc q21 args).run Pg w=.ok (.enter q21 args) w:=Go.Proofs.Tryz.call115
abbrev q0x:FuncId:=116
noncomputable abbrev q5j:Func:=Go.Proofs.Tryz.f116
theorem q67:Pg.funcs[q0x]?=some q5j:=Go.Proofs.Tryz.func116
theorem q6F:∀ args w,(callFunc q0x args).run Pg w=.ok (.enter q0x args) w:=Go.Proofs.Tryz.call116
abbrev q2F:FuncId:=117
noncomputable abbrev q8E:Func:=Go.Proofs.Tryz.f117
theorem qfe:Pg.funcs[q2F]?=some q8E:=Go.Proofs.Tryz.func117
theorem qi2:∀ args w,(callFunc q2F args).run Pg w=.ok (.enter q2F args) w:=Go.Proofs.Tryz.call117
abbrev q3D:FuncId:=118
noncomputable abbrev q9c:Func:=Go.Proofs.Tryz.f118
theorem qfM:Pg.funcs[q3D]?=some q9c:=Go.Proofs.Tryz.func118
theorem qiA:∀ args w,(callFunc q3D args).run Pg w=.ok (.enter q3D args) w:=Go.Proofs.Tryz.call118
abbrev q3J:FuncId:=119
noncomputable abbrev q9k:Func:=Go.Proofs.Tryz.f119
theorem qfU:Pg.funcs[q3J]?=some q9k:=Go.Proofs.Tryz.func119
theorem qiI:∀ args w,(callFunc q3J args).run Pg w=.ok (.enter q3J args) w:=Go.Proofs.Tryz.call119
abbrev q3u:FuncId:=120
noncomputable abbrev q8O:Func:=Go.Proofs.Tryz.f120
theorem qfo:Pg.funcs[q3u]?=some q8O:=Go.Proofs.Tryz.func120
theorem qic:∀ args w,(callFunc q3u args).run Pg w=.ok (.enter q3u args) w:=Go.Proofs.Tryz.call120
abbrev q3m:FuncId:=124
noncomputable abbrev q8o:Func:=Go.Proofs.Tryz.f124
theorem qf0:Pg.funcs[q3m]?=some q8o:=Go.Proofs.Tryz.func124
theorem qhO:∀ args w,(callFunc q3m args).run Pg w=.ok (.enter q3m args) w:=Go.Proofs.Tryz.call124
abbrev q4A:FuncId:=125
noncomputable abbrev q9t:Func:=Go.Proofs.Tryz.f125
theorem qg3:Pg.funcs[q4A]?=some q9t:=Go.Proofs.Tryz.func125
theorem qiR:∀ args w,(callFunc q4A args).run Pg w=.ok (.enter q4A args) w:=Go.Proofs.Tryz.call125
abbrev q0H:FuncId:=126
noncomputable abbrev q8m:Func:=Go.Proofs.Tryz.f126
theorem qeY:Pg.funcs[q0H]?=some q8m:=Go.Proofs.Tryz.func126
theorem qhM:∀ args w,(callFunc q0H args).run Pg w=.ok (.enter q0H args) w:=Go.Proofs.Tryz.call126
abbrev q1N:FuncId:=127
noncomputable abbrev q7M:Func:=Go.Proofs.Tryz.f127
theorem qeo:Pg.funcs[q1N]?=some q7M:=Go.Proofs.Tryz.func127
theorem qhc:∀ args w,(callFunc q1N args).run Pg w=.ok (.enter q1N args) w:=Go.Proofs.Tryz.call127
abbrev q3j:FuncId:=128
noncomputable abbrev q8h:Func:=Go.Proofs.Tryz.f128
theorem qeT:Pg.funcs[q3j]?=some q8h:=Go.Proofs.Tryz.func128
theorem qhH:∀ args w,(callFunc q3j args).run Pg w=.ok (.enter q3j args) w:=Go.Proofs.Tryz.call128
abbrev q3T:FuncId:=129
noncomputable abbrev q9x:Func:=Go.Proofs.Tryz.f129
theorem qg7:Pg.funcs[q3T]?=some q9x:=Go.Proofs.Tryz.func129
theorem qiV:∀ args w,(callFunc q3T args).run Pg w=.ok (.enter q3T args) w:=Go.Proofs.Tryz.call129
abbrev q3Q:FuncId:=130
noncomputable abbrev q9s:Func:=Go.Proofs.Tryz.f130
theorem qg2:Pg.funcs[q3Q]?=some q9s:=Go.Proofs.Tryz.func130
theorem qiQ:∀ args w,(callFunc q3Q args).run Pg w=.ok (.enter q3Q args) w:=Go.Proofs.Tryz.call130
abbrev q1S:FuncId:=131
noncomputable abbrev q8t:Func:=Go.Proofs.Tryz.f131
theorem qf3:Pg.funcs[q1S]?=some q8t:=Go.Proofs.Tryz.func131
theorem qhR:∀ args w,(callFunc q1S args).run Pg w=.ok (.enter q1S args) w:=Go.Proofs.Tryz.call131
abbrev q4B:FuncId:=132
noncomputable abbrev q9u:Func:=Go.Proofs.Tryz.f132
theorem qg4:Pg.funcs[q4B]?=some q9u:=Go.Proofs.Tryz.func132
theorem qiS:∀ args w,(callFunc q4B args).run Pg w=.ok (.enter q4B args) w:=Go.Proofs.Tryz.call132
abbrev q0L:FuncId:=133
noncomputable abbrev q9P:Func:=Go.Proofs.Tryz.f133
theorem qgp:Pg.funcs[q0L]?=some q9P:=Go.Proofs.Tryz.func133
theorem qjd:∀ args w,(callFunc q0L args).run Pg w=.ok (.enter q0L args) w:=Go.Proofs.Tryz.call133
abbrev q38:FuncId:=134
noncomputable abbrev q7X:Func:=Go.Proofs.Tryz.f134
theorem qez:Pg.funcs[q38]?=some q7X:=Go.Proofs.Tryz.func134
theorem qhn:∀ args w,(callFunc q38 args).run Pg w=.ok (.enter q38 args) w:=Go.Proofs.Tryz.call134
abbrev q0T:FuncId:=135
noncomputable abbrev q7G:Func:=Go.Proofs.Tryz.f135
theorem qei:Pg.funcs[q0T]?=some q7G:=Go.Proofs.Tryz.func135
theorem qh6:∀ args w,(callFunc q0T args).run Pg w=.ok (.enter q0T args) w:=Go.Proofs.Tryz.call135
abbrev q0w:FuncId:=136
noncomputable abbrev q7F:Func:=Go.Proofs.Tryz.f136
theorem qeh:Pg.funcs[q0w]?=some q7F:=Go.Proofs.Tryz.func136
theorem qh5:∀ args w,(callFunc q0w args).run Pg w=.ok (.enter q0w args) w:=Go.Proofs.Tryz.call136
abbrev q0j:FuncId:=137
noncomputable abbrev q7V:Func:=Go.Proofs.Tryz.f137
theorem qex:Pg.funcs[q0j]?=some q7V:=Go.Proofs.Tryz.func137
theorem qhl:∀ args w,(callFunc q0j args).run Pg w=.ok (.enter q0j args) w:=Go.Proofs.Tryz.call137
abbrev q2u:FuncId:=138
noncomputable abbrev q7Y:Func:=Go.Proofs.Tryz.f138
theorem qeA:Pg.funcs[q2u]?=some q7Y:=Go.Proofs.Tryz.func138
theorem qho:∀ args w,(callFunc q2u args).run Pg w=.ok (.enter q2u args) w:=Go.Proofs.Tryz.call138
abbrev q1O:FuncId:=139
noncomputable abbrev q7T:Func:=Go.Proofs.Tryz.f139
theorem qev:Pg.funcs[q1O]?=some q7T:=Go.Proofs.Tryz.func139
theorem qhj:∀ args w,(callFunc q1O args).run Pg w=.ok (.enter q1O args) w:=Go.Proofs.Tryz.call139
abbrev q1v:FuncId:=140
noncomputable abbrev q7W:Func:=Go.Proofs.Tryz.f140
theorem qey:Pg.funcs[q1v]?=some q7W:=Go.Proofs.Tryz.func140
theorem qhm:∀ args w,(callFunc q1v args).run Pg w=.ok (.enter q1v args) w:=Go.Proofs.Tryz.call140
abbrev q2p:FuncId:=141
noncomputable abbrev q7x:Func:=Go.Proofs.Tryz.f141
theorem qe9:Pg.funcs[q2p]?=some q7x:=Go.Proofs.Tryz.func141
theorem qgX:∀ args w,(callFunc q2p args).run Pg w=.ok (.enter q2p args) w:=Go.Proofs.Tryz.call141
abbrev q1M:FuncId:=142
noncomputable abbrev q7D:Func:=Go.Proofs.Tryz.f142
theorem qef:Pg.funcs[q1M]?=some q7D:=Go.Proofs.Tryz.func142
theorem qh3:∀ args w,(callFunc q1M args).run Pg w=.ok (.enter q1M args) w:=Go.Proofs.Tryz.call142
abbrev q1q:FuncId:=143
noncomputable abbrev q7C:Func:=Go.Proofs.Tryz.f143
theorem qee:Pg.funcs[q1q]?=some q7C:=Go.Proofs.Tryz.func143
theorem qh2:∀ args w,(callFunc q1q args).run Pg w=.ok (.enter q1q args) w:=Go.Proofs.Tryz.call143
abbrev q3h:FuncId:=144
noncomputable abbrev q8f:Func:=Go.Proofs.Tryz.f144
theorem qeR:Pg.funcs[q3h]?=some q8f:=Go.Proofs.Tryz.func144
theorem qhF:∀ args w,(callFunc q3h args).run Pg w=.ok (.enter q3h args) w:=Go.Proofs.Tryz.call144
abbrev q3w:FuncId:=145
noncomputable abbrev q92:Func:=Go.Proofs.Tryz.f145
theorem qfC:Pg.funcs[q3w]?=some q92:=Go.Proofs.Tryz.func145
theorem qiq:∀ args w,(callFunc q3w args).run Pg w=.ok (.enter q3w args) w:=Go.Proofs.Tryz.call145
abbrev q1X:FuncId:=146
noncomputable abbrev q8W:Func:=Go.Proofs.Tryz.f146
theorem qfw:Pg.funcs[q1X]?=some q8W:=Go.Proofs.Tryz.func146
theorem qik:∀ args w,(callFunc q1X args).run Pg w=.ok (.enter q1X args) w:=Go.Proofs.Tryz.call146
abbrev q1Y:FuncId:=147
noncomputable abbrev q8X:Func:=Go.Proofs.Tryz.f147
theorem qfx:Pg.funcs[q1Y]?=some q8X:=Go.Proofs.Tryz.func147
theorem qil:∀ args w,(callFunc q1Y args).run Pg w=.ok (.enter q1Y args) w:=Go.Proofs.Tryz.call147
abbrev q3p:FuncId:=148
noncomputable abbrev q8x:Func:=Go.Proofs.Tryz.f148
theorem qf7:Pg.funcs[q3p]?=some q8x:=Go.Proofs.Tryz.func148
theorem qhV:∀ args w,(callFunc q3p args).run Pg w=.ok (.enter q3p args) w:=Go.Proofs.Tryz.call148
abbrev q3q:FuncId:=149
noncomputable abbrev q8z:Func:=Go.Proofs.Tryz.f149
theorem qf9:Pg.funcs[q3q]?=some q8z:=Go.Proofs.Tryz.func149
theorem qhX:∀ args w,(callFunc q3q args).run Pg w=.ok (.enter q3q args) w:=Go.Proofs.Tryz.call149
abbrev q3v:FuncId:=150
noncomputable abbrev q8Y:Func:=Go.Proofs.Tryz.f150
theorem qfy:Pg.funcs[q3v]?=some q8Y:=Go.Proofs.Tryz.func150
theorem qim:∀ args w,(callFunc q3v args).run Pg w=.ok (.enter q3v args) w:=Go.Proofs.Tryz.call150
abbrev q1c:FuncId:=151
noncomputable abbrev q8U:Func:=Go.Proofs.Tryz.f151
theorem qfu:Pg.funcs[q1c]?=some q8U:=Go.Proofs.Tryz.func151
theorem qii:∀ args w,(callFunc q1c args).run Pg w=.ok (.enter q1c args) w:=Go.Proofs.Tryz.call151
abbrev q3R:FuncId:=153
noncomputable abbrev q9v:Func:=Go.Proofs.Tryz.f153
theorem qg5:Pg.funcs[q3R]?=some q9v:=Go.Proofs.Tryz.func153
theorem qiT:∀ args w,(callFunc q3R args).run Pg w=.ok (.enter q3R args) w:=Go.Proofs.Tryz.call153
abbrev q3N:FuncId:=154
noncomputable abbrev q9p:Func:=Go.Proofs.Tryz.f154
theorem qfZ:Pg.funcs[q3N]?=some q9p:=Go.Proofs.Tryz.func154
theorem qiN:∀ args w,(callFunc q3N args).run Pg w=.ok (.enter q3N args) w:=Go.Proofs.Tryz.call154
abbrev q3k:FuncId:=155
noncomputable abbrev q8j:Func:=Go.Proofs.Tryz.f155
theorem qeV:Pg.funcs[q3k]?=some q8j:=Go.Proofs.Tryz.func155
theorem qhJ:∀ args w,(callFunc q3k args).run Pg w=.ok (.enter q3k args) w:=Go.Proofs.Tryz.call155
abbrev q2K:FuncId:=156
noncomputable abbrev q9z:Func:=Go.Proofs.Tryz.f156
theorem qg9:Pg.funcs[q2K]?=some q9z:=Go.Proofs.Tryz.func156
theorem qiX:∀ args w,(callFunc q2K args).run Pg w=.ok (.enter q2K args) w:=Go.Proofs.Tryz.call156
abbrev q3e:FuncId:=157
noncomputable abbrev q8c:Func:=Go.Proofs.Tryz.f157
theorem qeO:Pg.funcs[q3e]?=some q8c:=Go.Proofs.Tryz.func157
theorem qhC:∀ args w,(callFunc q3e args).run Pg w=.ok (.enter q3e args) w:=Go.Proofs.Tryz.call157
abbrev q3S:FuncId:=158
noncomputable abbrev q9w:Func:=Go.Proofs.Tryz.f158
theorem qg6:Pg.funcs[q3S]?=some q9w:=Go.Proofs.Tryz.func158
theorem qiU:∀ args w,(callFunc q3S args).run Pg w=.ok (.enter q3S args) w:=Go.Proofs.Tryz.call158
abbrev q1P:FuncId:=159
noncomputable abbrev q81:Func:=Go.Proofs.Tryz.f159
theorem qeD:Pg.funcs[q1P]?=some q81:=Go.Proofs.Tryz.func159
theorem qhr:∀ args w,(callFunc q1P args).run Pg w=.ok (.enter q1P args) w:=Go.Proofs.Tryz.call159
abbrev q2x:FuncId:=160
noncomputable abbrev q89:Func:=Go.Proofs.Tryz.f160
theorem qeL:Pg.funcs[q2x]?=some q89:=Go.Proofs.Tryz.func160
theorem qhz:∀ args w,(callFunc q2x args).run Pg w=.ok (.enter q2x args) w:=Go.Proofs.Tryz.call160
abbrev q3i:FuncId:=161
noncomputable abbrev q8g:Func:=Go.Proofs.Tryz.f161
theorem qeS:Pg.funcs[q3i]?=some q8g:=Go.Proofs.Tryz.func161
theorem qhG:∀ args w,(callFunc q3i args).run Pg w=.ok (.enter q3i args) w:=Go.Proofs.Tryz.call161
abbrev q2q:FuncId:=162
noncomputable abbrev q7y:Func:=Go.Proofs.Tryz.f162
theorem qea:Pg.funcs[q2q]?=some q7y:=Go.Proofs.Tryz.func162
theorem qgY:∀ args w,(callFunc q2q args).run Pg w=.ok (.enter q2q args) w:=Go.Proofs.Tryz.call162
abbrev q39:FuncId:=163
noncomputable abbrev q80:Func:=Go.Proofs.Tryz.f163
theorem qeC:Pg.funcs[q39]?=some q80:=Go.Proofs.Tryz.func163
theorem qhq:∀ args w,(callFunc q39 args).run Pg w=.ok (.enter q39 args) w:=Go.Proofs.Tryz.call163
abbrev q37:FuncId:=164
noncomputable abbrev q7U:Func:=Go.Proofs.Tryz.f164
theorem qew:Pg.funcs[q37]?=some q7U:=Go.Proofs.Tryz.func164
theorem qhk:∀ args w,(callFunc q37 args).run Pg w=.ok (.enter q37 args) w:=Go.Proofs.Tryz.call164
abbrev q2H:FuncId:=165
noncomputable abbrev q91:Func:=Go.Proofs.Tryz.f165
theorem qfB:Pg.funcs[q2H]?=some q91:=Go.Proofs.Tryz.func165
theorem qip:∀ args w,(callFunc q2H args).run Pg w=.ok (.enter q2H args) w:=Go.Proofs.Tryz.call165
abbrev q1Z:FuncId:=166
noncomputable abbrev q90:Func:=Go.Proofs.Tryz.f166
theorem qfA:Pg.funcs[q1Z]?=some q90:=Go.Proofs.Tryz.func166
theorem qio:∀ args w,(callFunc q1Z args).run Pg w=.ok (.enter q1Z args) w:=Go.Proofs.Tryz.call166
abbrev q2I:FuncId:=167
noncomputable abbrev q93:Func:=Go.Proofs.Tryz.f167
theorem qfD:Pg.funcs[q2I]?=some q93:=Go.Proofs.Tryz.func167
theorem qir:∀ args w,(callFunc q2I args).run Pg w=.ok (.enter q2I args) w:=Go.Proofs.Tryz.call167
abbrev q3O:FuncId:=168
noncomputable abbrev q9q:Func:=Go.Proofs.Tryz.f168
theorem qg0:Pg.funcs[q3O]?=some q9q:=Go.Proofs.Tryz.func168
theorem qiO:∀ args w,(callFunc q3O args).run Pg w=.ok (.enter q3O args) w:=Go.Proofs.Tryz.call168
abbrev q3l:FuncId:=169
noncomputable abbrev q8k:Func:=Go.Proofs.Tryz.f169
theorem qeW:Pg.funcs[q3l]?=some q8k:=Go.Proofs.Tryz.func169
theorem qhK:∀ args w,(callFunc q3l args).run Pg w=.ok (.enter q3l args) w:=Go.Proofs.Tryz.call169
abbrev q2y:FuncId:=170
noncomputable abbrev q8i:Func:=Go.Proofs.Tryz.f170
theorem qeU:Pg.funcs[q2y]?=some q8i:=Go.Proofs.Tryz.func170
theorem qhI:∀ args w,(callFunc q2y args).run Pg w=.ok (.enter q2y args) w:=Go.Proofs.Tryz.call170
abbrev q3U:FuncId:=171
noncomputable abbrev q9y:Func:=Go.Proofs.Tryz.f171
theorem qg8:Pg.funcs[q3U]?=some q9y:=Go.Proofs.Tryz.func171
theorem qiW:∀ args w,(callFunc q3U args).run Pg w=.ok (.enter q3U args) w:=Go.Proofs.Tryz.call171
abbrev qdV:FuncId:=172
abbrev qdT:FuncId:=173
abbrev qdU:FuncId:=174
abbrev qdZ:FuncId:=175
abbrev qdW:FuncId:=176
abbrev q2o:FuncId:=177
noncomputable abbrev q7v:Func:=Go.Proofs.Tryz.f177
theorem qe7:Pg.funcs[q2o]?=some q7v:=Go.Proofs.Tryz.func177
theorem qgV:∀ args w,(callFunc q2o args).run Pg w=.ok (.enter q2o args) w:=Go.Proofs.Tryz.call177
abbrev qdX:FuncId:=178
abbrev qdY:FuncId:=179
abbrev q3f:FuncId:=180
noncomputable abbrev q8d:Func:=Go.Proofs.Tryz.f180
theorem qeP:Pg.funcs[q3f]?=some q8d:=Go.Proofs.Tryz.func180
theorem qhD:∀ args w,(callFunc q3f args).run Pg w=.ok (.enter q3f args) w:=Go.Proofs.Tryz.call180
abbrev q3g:FuncId:=181
noncomputable abbrev q8e:Func:=Go.Proofs.Tryz.f181
theorem qeQ:Pg.funcs[q3g]?=some q8e:=Go.Proofs.Tryz.func181
theorem qhE:∀ args w,(callFunc q3g args).run Pg w=.ok (.enter q3g args) w:=Go.Proofs.Tryz.call181
abbrev q3c:FuncId:=182
noncomputable abbrev q8a:Func:=Go.Proofs.Tryz.f182
theorem qeM:Pg.funcs[q3c]?=some q8a:=Go.Proofs.Tryz.func182
theorem qhA:∀ args w,(callFunc q3c args).run Pg w=.ok (.enter q3c args) w:=Go.Proofs.Tryz.call182
abbrev q3d:FuncId:=183
noncomputable abbrev q8b:Func:=Go.Proofs.Tryz.f183
theorem qeN:Pg.funcs[q3d]?=some q8b:=Go.Proofs.Tryz.func183
theorem qhB:∀ args w,(callFunc q3d args).run Pg w=.ok (.enter q3d args) w:=Go.Proofs.Tryz.call183
abbrev q2v:FuncId:=184
noncomputable abbrev q7Z:Func:=Go.Proofs.Tryz.f184
theorem qeB:Pg.funcs[q2v]?=some q7Z:=Go.Proofs.Tryz.func184
theorem qhp:∀ args w,(callFunc q2v args).run Pg w=.ok (.enter q2v args) w:=Go.Proofs.Tryz.call184
abbrev q35:FuncId:=190
noncomputable abbrev q7w:Func:=Go.Proofs.Tryz.f190
theorem qe8:Pg.funcs[q35]?=some q7w:=Go.Proofs.Tryz.func190
theorem qgW:∀ args w,(callFunc q35 args).run Pg w=.ok (.enter q35 args) w:=Go.Proofs.Tryz.call190
end Go.Proofs.Pf
namespace Go.Proofs.Pf
open Go Go.VM
set_option maxRecDepth 100000
def qbe:Ann:=(.s (.s (.seq (.blk none (.loop ⟨[(2,.ref 2 0),(3,.ref 3 0),(4,.ref 4 0)],[.box 2 tEI,.box 3 tEI,.box 4 tEI]⟩ .nil)) .nil)))
theorem qjI {Q:DE->Prop} (a:DE) (b:DE) (hQ:∃ r,Q r) (h:
 (callV Pg q2q [⟨tEI,a⟩] tEI (fun p0=>callV Pg q2q [⟨tEI,b⟩] tEI (fun p1=>loopV (DE×DR) (fun k2  (i,j)=>callV Pg q0S [⟨tEI,j.1⟩] tI (fun p4=>brV (notB (decide (p4=(0:Int)))) (callV Pg q1M [⟨tEI,i⟩,⟨tEI,j.1⟩] (.tup (.pair tEI (.pair tEI .unit))) (fun p5=>k2 (j.1,p5.2.1,j.2))) (Q i))) (p0,p1,(0:Int),none))))):
 callV Pg q2p [⟨tEI,a⟩,⟨tEI,b⟩] tEI Q:=
 q02 (c:=q01 q7x) (ann:=qbe) qe9 rfl qgX rfl rfl hQ (kcast (by kernel_rfl) h)
def qbf:Ann:=.nil
theorem qjJ {Q:DE->Prop} (a:DE) (hQ:∃ r,Q r) (h:
 (brV (decide (a.1<(0:Int))) (callV Pg q1q [⟨tEI,a⟩] tEI (fun p0=>Q p0)) (Q a))):
 callV Pg q2q [⟨tEI,a⟩] tEI Q:=
 q02 (c:=q01 q7y) (ann:=qbf) qea rfl qgY rfl rfl hQ (kcast (by kernel_rfl) h)
def qbg:Ann:=(.s (.seq (.seq (.reg [] [] (some ⟨[(2,.ref 2 0),(3,.ref 3 0),(4,.ref 4 0)],[.var 16 .bool,.box 2 tEI,.box 3 tEI,.box 4 tEI]⟩)) .nil) .nil))
theorem qjK {Q:DE->Prop} (a:DE) (b:DE) (hQ:∃ r,Q r) (h:
 (joinV (Bool×DE×DR) (fun (i,j,k)=>brV i (callV Pg q0T [⟨tI,IntKind.wrap IntKind.i64 (j.1+k.1.1)⟩] tEI (fun p1=>Q p1)) (callV Pg q0w [⟨tEI,j⟩] (.tup (.pair tI (.pair tD .unit))) (fun p1=>callV Pg q0w [⟨tEI,k.1⟩] (.tup (.pair tI (.pair tD .unit))) (fun p2=>brV (decide (p1.1=(0:Int))) (Q k.1) (brV (decide (p2.1=(0:Int))) (Q j) (brV (decide (p1.1=p2.1)) (callV Pg q2u [⟨tD,p1.2.1⟩,⟨tD,p2.2.1⟩] tD (fun p3=>callV Pg q0j [⟨tI,p1.1⟩,⟨tD,p3⟩] tEI (fun p4=>Q p4))) (callV Pg q1O [⟨tD,p1.2.1⟩,⟨tD,p2.2.1⟩] tI (fun p3=>brV (decide ((0:Int)<=p3)) (callV Pg q1v [⟨tD,p1.2.1⟩,⟨tD,p2.2.1⟩] tD (fun p4=>callV Pg q0j [⟨tI,p1.1⟩,⟨tD,p4⟩] tEI (fun p5=>Q p5))) (callV Pg q1v [⟨tD,p2.2.1⟩,⟨tD,p1.2.1⟩] tD (fun p4=>callV Pg q0j [⟨tI,p2.1⟩,⟨tD,p4⟩] tEI (fun p5=>Q p5))))))))))) (fun k0=>brV (Option.isNone a.2) (k0 (Option.isNone b.2,a,b,(0:Int),none)) (k0 (false,a,b,(0:Int),none))))):
 callV Pg q2r [⟨tEI,a⟩,⟨tEI,b⟩] tEI Q:=
 q02 (c:=q01 q7z) (ann:=qbg) qeb rfl qgZ rfl rfl hQ (kcast (by kernel_rfl) h)
def qbh:Ann:=(.s (.seq (.seq (.reg [] [] (some ⟨[(2,.ref 2 0)],[.var 21 .bool,.box 2 tEI]⟩)) .nil) .nil))
theorem qjL {Q:(Int×(Bool×Unit))->Prop} (a:DE) (b:Int) (hQ:∃ r,Q r) (h:
 (joinV (Bool×DE) (fun (i,j)=>brV i (Q ((0:Int),false,())) (Q (j.1,true,()))) (fun k0=>brV (notB (Option.isNone a.2)) (k0 (true,a)) (brV (decide (b<a.1)) (k0 (true,a)) (k0 (decide (a.1<(IntKind.wrap IntKind.i64 ((0:Int) - b))),a)))))):
 callV Pg q1L [⟨tEI,a⟩,⟨tI,b⟩] (.tup (.pair tI (.pair .bool .unit))) Q:=
 q02 (c:=q01 q7A) (ann:=qbh) qec rfl qh0 rfl rfl hQ (kcast (by kernel_rfl) h)
def qbj:Ann:=.nil
theorem qjN {Q:DE->Prop} (a:DE) (hQ:∃ r,Q r) (h:
 (Q (IntKind.wrap IntKind.i64 ((0:Int) - a.1),a.2))):
 callV Pg q1q [⟨tEI,a⟩] tEI Q:=
 q02 (c:=q01 q7C) (ann:=qbj) qee rfl qh2 rfl rfl hQ (kcast (by kernel_rfl) h)
def qbk:Ann:=(.s (.seq (.seq (.reg [] [] (some ⟨[(2,.ref 2 0),(3,.ref 3 0),(4,.ref 4 0),(5,.ref 5 0)],[.var 21 .bool,.box 2 tEI,.box 3 tEI,.box 4 tEI,.box 5 tEI]⟩)) .nil) (.s (.s (.s (.seq (.s (.cond none (.s (.seq (.reg [] [(8,([68],false))] none) .nil)) .nil)) .nil))))))
theorem qjO {Q:(DE×(DE×Unit))->Prop} (a:DE) (b:DE) (hQ:∃ r,Q r) (h:
 (joinV (Bool×DE×DE×DR) (fun (i,j,k,_)=>brV i ((k.1≠(0:Int))/\(k.1≠(0:Int))/\Q ((IntKind.wrap IntKind.i64 (Int.tdiv j.1 k.1),none),(Int.tmod j.1 k.1,none),())) (callV Pg q0w [⟨tEI,j⟩] (.tup (.pair tI (.pair tD .unit))) (fun p1=>callV Pg q0w [⟨tEI,k⟩] (.tup (.pair tI (.pair tD .unit))) (fun p2=>callV Pg q1O [⟨tD,p1.2.1⟩,⟨tD,p2.2.1⟩] tI (fun p3=>brV (decide (p3<(0:Int))) (Q (((0:Int),none),j,())) (brV (decide ((szSl p2.2.1)=(1:Int))) (inS p2.2.1 (0:Int)/\callV Pg q39 [⟨tD,p1.2.1⟩,⟨tU,eltS (0:Int) p2.2.1 (0:Int)⟩] (.tup (.pair tD (.pair tU .unit))) (fun p4=>callV Pg q0j [⟨tI,IntKind.wrap IntKind.i64 (p1.1*p2.1)⟩,⟨tD,p4.1⟩] tEI (fun p5=>callV Pg q0j [⟨tI,p1.1⟩,⟨tD,some [p4.2.1]⟩] tEI (fun p6=>Q (p5,p6,()))))) (callV Pg q37 [⟨tD,p1.2.1⟩,⟨tD,p2.2.1⟩] (.tup (.pair tD (.pair tD .unit))) (fun p4=>callV Pg q0j [⟨tI,IntKind.wrap IntKind.i64 (p1.1*p2.1)⟩,⟨tD,p4.1⟩] tEI (fun p5=>callV Pg q0j [⟨tI,p1.1⟩,⟨tD,p4.2.1⟩] tEI (fun p6=>Q (p5,p6,()))))))))))) (fun k0=>brV (Option.isNone a.2) (k0 (Option.isNone b.2,a,b,r0)) (k0 (false,a,b,r0))))):
 callV Pg q1M [⟨tEI,a⟩,⟨tEI,b⟩] (.tup (.pair tEI (.pair tEI .unit))) Q:=
 q02 (c:=q01 q7D) (ann:=qbk) qef rfl qh3 rfl rfl hQ (kcast (by kernel_rfl) h)
def qbl:Ann:=.nil
theorem qjP {Q:Int->Prop} (a:DE) (hQ:∃ r,Q r) (h:
 (brV (decide ((0:Int)<a.1)) (Q (1:Int)) (brV (decide (a.1<(0:Int))) (Q (-(1:Int))) (Q (0:Int))))):
 callV Pg q0S [⟨tEI,a⟩] tI Q:=
 q02 (c:=q01 q7E) (ann:=qbl) qeg rfl qh4 rfl rfl hQ (kcast (by kernel_rfl) h)
def qbm:Ann:=let x:Shape:=⟨[],[.var 4 tI,.var 5 (.int .u64)]⟩;(.s (.s (.s (.seq (.blk none (.s (.cond (some x) .nil (.s (.cond (some x) .nil .nil))))) (.seq (.reg [] [(7,([34],false))] none) .nil)))))
theorem qb9 {Q:(Int×(DL×Unit))->Prop} (a:DE) (hQ:∃ r,Q r) (h:
 (brV (notB (Option.isNone a.2)) (Q (a.1,a.2,())) (joinV (Int×Int) (fun (i,j)=>((0:Int)<=(32:Int))/\callV Pg q1P [⟨tD,some [IntKind.wrap IntKind.u32 j,IntKind.wrap IntKind.u32 (shrI IntKind.u64 j (32:Int))]⟩] tD (fun p1=>Q (i,p1,()))) (fun k0=>brV (decide ((0:Int)<a.1)) (k0 ((1:Int),IntKind.wrap IntKind.u64 a.1)) (joinV (Int×Int) (fun i=>k0 i) (fun k1=>brV (decide (a.1<(0:Int))) (k1 (-(1:Int),IntKind.wrap IntKind.u64 (IntKind.wrap IntKind.i64 ((0:Int) - a.1)))) (k1 ((0:Int),(0:Int))))))))):
 callV Pg q0w [⟨tEI,a⟩] (.tup (.pair tI (.pair tD .unit))) Q:=
 q02 (c:=q01 q7F) (ann:=qbm) qeh rfl qh5 rfl rfl hQ (kcast (by kernel_rfl) h)
def qbn:Ann:=(.s (.seq (.seq (.reg [] [] (some ⟨[(2,.ref 2 0)],[.var 0 tI,.var 10 .bool,.box 2 tEI]⟩)) .nil) (.s (.s (.seq (.s (.cond (some ⟨[(2,.ref 2 0)],[.var 3 tI,.var 4 (.int .u64),.box 2 tEI]⟩) .nil .nil)) .nil)))))
theorem qjQ {Q:DE->Prop} (a:Int) (hQ:∃ r,Q r) (h:
 (joinV (Int×Bool×DE) (fun (i,j,k)=>brV j (Q (i,none)) (joinV (Int×Int×DE) (fun (l,m,_)=>((0:Int)<=(32:Int))/\Q (l,some [IntKind.wrap IntKind.u32 m,IntKind.wrap IntKind.u32 (shrI IntKind.u64 m (32:Int))])) (fun k1=>brV (decide (i<(0:Int))) (k1 (-(1:Int),IntKind.wrap IntKind.u64 ((0:Int) - (IntKind.wrap IntKind.u64 i)),k)) (k1 ((1:Int),IntKind.wrap IntKind.u64 i,k))))) (fun k0=>brV (decide ((-(4611686018427387904:Int))<a)) (k0 (a,decide (a<(4611686018427387904:Int)),(0:Int),none)) (k0 (a,false,(0:Int),none))))):
 callV Pg q0T [⟨tI,a⟩] tEI Q:=
 q02 (c:=q01 q7G) (ann:=qbn) qei rfl qh6 rfl rfl hQ (kcast (by kernel_rfl) h)
def qbo:Ann:=(.s (.seq (.seq (.reg [] [] (some ⟨[(2,.ref 2 0),(3,.ref 3 0),(4,.ref 4 0)],[.var 10 .bool,.box 2 tER,.box 3 tER,.box 4 tER]⟩)) .nil) .nil))
theorem qjR {Q:DR->Prop} (a:DR) (b:DR) (hQ:∃ r,Q r) (h:
 (joinV (Bool×DR×DR×DR) (fun (i,j,k,_)=>brV i (callV Pg q2r [⟨tEI,j.1⟩,⟨tEI,k.1⟩] tEI (fun p1=>Q (p1,(0:Int),none))) (callV Pg q0q [⟨tER,k⟩] tEI (fun p1=>callV Pg q0v [⟨tEI,j.1⟩,⟨tEI,p1⟩] tEI (fun p2=>callV Pg q0q [⟨tER,j⟩] tEI (fun p3=>callV Pg q0v [⟨tEI,k.1⟩,⟨tEI,p3⟩] tEI (fun p4=>callV Pg q2r [⟨tEI,p2⟩,⟨tEI,p4⟩] tEI (fun p5=>callV Pg q0q [⟨tER,j⟩] tEI (fun p6=>callV Pg q0q [⟨tER,k⟩] tEI (fun p7=>callV Pg q0v [⟨tEI,p6⟩,⟨tEI,p7⟩] tEI (fun p8=>callV Pg q1t [⟨tEI,p5⟩,⟨tEI,p8⟩] tER (fun p9=>Q p9))))))))))) (fun k0=>callV Pg q1s [⟨tER,a⟩] .bool (fun p1=>brV p1 (callV Pg q1s [⟨tER,b⟩] .bool (fun p2=>k0 (p2,a,b,r0))) (k0 (false,a,b,r0)))))):
 callV Pg q0F [⟨tER,a⟩,⟨tER,b⟩] tER Q:=
 q02 (c:=q01 q7H) (ann:=qbo) qej rfl qh7 rfl rfl hQ (kcast (by kernel_rfl) h)
def qbp:Ann:=.nil
theorem qjS {Q:Int->Prop} (a:DR) (b:DR) (hQ:∃ r,Q r) (h:
 (callV Pg q2t [⟨tER,a⟩,⟨tER,b⟩] tER (fun p0=>callV Pg q0i [⟨tER,p0⟩] tI (fun p1=>Q p1)))):
 callV Pg q1r [⟨tER,a⟩,⟨tER,b⟩] tI Q:=
 q02 (c:=q01 q7I) (ann:=qbp) qek rfl qh8 rfl rfl hQ (kcast (by kernel_rfl) h)
def qbq:Ann:=.nil
theorem qjT {Q:DR->Prop} (a:DR) (b:DR) (hQ:∃ r,Q r) (h:
 (callV Pg q0q [⟨tER,b⟩] tEI (fun p0=>callV Pg q0v [⟨tEI,a.1⟩,⟨tEI,p0⟩] tEI (fun p1=>callV Pg q0q [⟨tER,a⟩] tEI (fun p2=>callV Pg q0v [⟨tEI,p2⟩,⟨tEI,b.1⟩] tEI (fun p3=>callV Pg q1t [⟨tEI,p1⟩,⟨tEI,p3⟩] tER (fun p4=>Q p4))))))):
 callV Pg q2s [⟨tER,a⟩,⟨tER,b⟩] tER Q:=
 q02 (c:=q01 q7J) (ann:=qbq) qel rfl qh9 rfl rfl hQ (kcast (by kernel_rfl) h)
def qbr:Ann:=.nil
theorem qjU {Q:DE->Prop} (a:DR) (hQ:∃ r,Q r) (h:
 (callV Pg q0S [⟨tEI,a.2⟩] tI (fun p0=>brV (decide (p0=(0:Int))) (callV Pg q38 [] tEI (fun p1=>Q p1)) (Q a.2)))):
 callV Pg q0q [⟨tER,a⟩] tEI Q:=
 q02 (c:=q01 q7K) (ann:=qbr) qem rfl qha rfl rfl hQ (kcast (by kernel_rfl) h)
def qbs:Ann:=(.s (.seq (.seq (.reg [] [] (some ⟨[(2,.ref 2 0),(3,.ref 3 0),(4,.ref 4 0)],[.var 10 .bool,.box 2 tER,.box 3 tER,.box 4 tER]⟩)) .nil) .nil))
theorem qjV {Q:DR->Prop} (a:DR) (b:DR) (hQ:∃ r,Q r) (h:
 (joinV (Bool×DR×DR×DR) (fun (i,j,k,_)=>brV i (callV Pg q0v [⟨tEI,j.1⟩,⟨tEI,k.1⟩] tEI (fun p1=>Q (p1,(0:Int),none))) (callV Pg q0v [⟨tEI,j.1⟩,⟨tEI,k.1⟩] tEI (fun p1=>callV Pg q0q [⟨tER,j⟩] tEI (fun p2=>callV Pg q0q [⟨tER,k⟩] tEI (fun p3=>callV Pg q0v [⟨tEI,p2⟩,⟨tEI,p3⟩] tEI (fun p4=>callV Pg q1t [⟨tEI,p1⟩,⟨tEI,p4⟩] tER (fun p5=>Q p5))))))) (fun k0=>callV Pg q1s [⟨tER,a⟩] .bool (fun p1=>brV p1 (callV Pg q1s [⟨tER,b⟩] .bool (fun p2=>k0 (p2,a,b,r0))) (k0 (false,a,b,r0)))))):
 callV Pg q0G [⟨tER,a⟩,⟨tER,b⟩] tER Q:=
 q02 (c:=q01 q7L) (ann:=qbs) qen rfl qhb rfl rfl hQ (kcast (by kernel_rfl) h)
def qbt:Ann:=.nil
theorem qjW {Q:DR->Prop} (a:DR) (hQ:∃ r,Q r) (h:
 (callV Pg q1q [⟨tEI,a.1⟩] tEI (fun p0=>Q (p0,a.2)))):
 callV Pg q1N [⟨tER,a⟩] tER Q:=
 q02 (c:=q01 q7M) (ann:=qbt) qeo rfl qhc rfl rfl hQ (kcast (by kernel_rfl) h)
def qbu:Ann:=.nil
theorem qjX {Q:Int->Prop} (a:DR) (hQ:∃ r,Q r) (h:
 (callV Pg q0S [⟨tEI,a.1⟩] tI (fun p0=>Q p0))):
 callV Pg q0i [⟨tER,a⟩] tI Q:=
 q02 (c:=q01 q7N) (ann:=qbu) qep rfl qhd rfl rfl hQ (kcast (by kernel_rfl) h)
def qbv:Ann:=.nil
theorem qjY {Q:DR->Prop} (a:DR) (b:DR) (hQ:∃ r,Q r) (h:
 (callV Pg q1N [⟨tER,b⟩] tER (fun p0=>callV Pg q0F [⟨tER,a⟩,⟨tER,p0⟩] tER (fun p1=>Q p1)))):
 callV Pg q2t [⟨tER,a⟩,⟨tER,b⟩] tER Q:=
 q02 (c:=q01 q7O) (ann:=qbv) qeq rfl qhe rfl rfl hQ (kcast (by kernel_rfl) h)
def qbw:Ann:=.nil
theorem qjZ {Q:DE->Prop} (a:DR) (hQ:∃ r,Q r) (h:
 (Q a.1)):
 callV Pg q36 [⟨tER,a⟩] tEI Q:=
 q02 (c:=q01 q7P) (ann:=qbw) qer rfl qhf rfl rfl hQ (kcast (by kernel_rfl) h)
def qbx:Ann:=(.s (.seq (.reg [] [] (some ⟨[],[.var 2 .bool]⟩)) .nil))
theorem qk0 {Q:Bool->Prop} (a:DR) (hQ:∃ r,Q r) (h:
 (joinV Bool (fun p0=>Q p0) (fun k0=>brV (Option.isNone a.2.2) (k0 (decide (a.2.1<=(1:Int)))) (k0 false)))):
 callV Pg q1s [⟨tER,a⟩] .bool Q:=
 q02 (c:=q01 q7Q) (ann:=qbx) qes rfl qhg rfl rfl hQ (kcast (by kernel_rfl) h)
def qby:Ann:=let x:Shape:=⟨[(2,.ref 2 0),(3,.ref 3 0),(4,.ref 4 0)],[.box 2 tEI,.box 3 tEI,.box 4 tER]⟩;(.s (.seq (.s (.seq (.reg [] [] (some ⟨[(2,.ref 2 0),(3,.ref 3 0),(4,.ref 4 0),(5,.ref 5 0)],[.var 16 .bool,.box 2 tEI,.box 3 tEI,.box 4 tER,.box 5 tEI]⟩)) (.cond (some x) .nil .nil))) (.seq (.s (.cond (some x) .nil .nil)) .nil)))
theorem qk1 {Q:DR->Prop} (a:DE) (b:DE) (hQ:∃ r,Q r) (h:
 (callV Pg q2p [⟨tEI,a⟩,⟨tEI,b⟩] tEI (fun p0=>joinV (Bool×DE×DE×DR×DE) (fun (i,j,k,l,m)=>joinV (DE×DE×DR) (fun (n,o,p)=>callV Pg q0S [⟨tEI,o⟩] tI (fun p3=>joinV (DE×DE×DR) (fun (q,r,_)=>Q (q,r)) (fun k4=>brV (decide (p3<(0:Int))) (callV Pg q1q [⟨tEI,n⟩] tEI (fun p5=>callV Pg q1q [⟨tEI,o⟩] tEI (fun p6=>k4 (p5,p6,p)))) (k4 (n,o,p))))) (fun k2=>brV i (callV Pg q1M [⟨tEI,j⟩,⟨tEI,m⟩] (.tup (.pair tEI (.pair tEI .unit))) (fun p3=>callV Pg q1M [⟨tEI,k⟩,⟨tEI,m⟩] (.tup (.pair tEI (.pair tEI .unit))) (fun p4=>k2 (p3.1,p4.1,l)))) (k2 (j,k,l)))) (fun k1=>brV (notB (decide (p0.1=(1:Int)))) (k1 (true,a,b,r0,p0)) (k1 (notB (Option.isNone p0.2),a,b,r0,p0)))))):
 callV Pg q1t [⟨tEI,a⟩,⟨tEI,b⟩] tER Q:=
 q02 (c:=q01 q7R) (ann:=qby) qet rfl qhh rfl rfl hQ (kcast (by kernel_rfl) h)
def qbz:Ann:=.nil
theorem qk2 {Q:DR->Prop} (a:Int) (hQ:∃ r,Q r) (h:
 (callV Pg q0T [⟨tI,a⟩] tEI (fun p0=>Q (p0,(0:Int),none)))):
 callV Pg q1u [⟨tI,a⟩] tER Q:=
 q02 (c:=q01 q7S) (ann:=qbz) qeu rfl qhi rfl rfl hQ (kcast (by kernel_rfl) h)
def qbA:Ann:=(.s (.s (.seq (.s (.blk none (.loop ⟨[],[.var 0 tD,.var 1 tD,.var 5 tI]⟩ .nil))) .nil)))
theorem qk3 {Q:Int->Prop} (a:DL) (b:DL) (hQ:∃ r,Q r) (h:
 (brV (notB (decide ((szSl a)=(szSl b)))) (brV (decide ((szSl a)<(szSl b))) (Q (-(1:Int))) (Q (1:Int))) (loopV (DL×DL×Int) (fun k0  (i,j,k)=>brV (decide ((0:Int)<=k)) (inS i k/\inS j k/\brV (notB (decide ((eltS (0:Int) i k)=(eltS (0:Int) j k)))) (inS i k/\inS j k/\brV (decide ((eltS (0:Int) i k)<(eltS (0:Int) j k))) (Q (-(1:Int))) (Q (1:Int))) (k0 (i,j,IntKind.wrap IntKind.i64 (k - (1:Int))))) (Q (0:Int))) (a,b,IntKind.wrap IntKind.i64 ((szSl a) - (1:Int)))))):
 callV Pg q1O [⟨tD,a⟩,⟨tD,b⟩] tI Q:=
 q02 (c:=q01 q7T) (ann:=qbA) qev rfl qhj rfl rfl hQ (kcast (by kernel_rfl) h)
def qbC:Ann:=(.s (.s (.seq (.s (.cond (some ⟨[(4,.ref 4 0)],[.var 0 tI,.var 1 tD,.box 4 tEI]⟩) (.s (.seq (.s (.blk none (.loop ⟨[(4,.ref 4 0)],[.var 0 tI,.var 1 tD,.var 5 (.int .u64),.var 13 tD,.var 14 tI,.var 15 tI,.box 4 tEI]⟩ .nil))) .nil)) .nil)) .nil)))
theorem qk5 {Q:DE->Prop} (a:Int) (b:DL) (hQ:∃ r,Q r) (h:
 (callV Pg q1P [⟨tD,b⟩] tD (fun p0=>joinV (Int×DL×DE) (fun (i,j,_)=>Q (i,j)) (fun k1=>brV (decide ((szSl p0)<=(2:Int))) (loopV (Int×DL×Int×DL×Int×Int×DE) (fun k2  (i,j,k,l,m,n,o)=>brV (decide (n<m)) (inS l n/\((0:Int)<=(IntKind.wrap IntKind.i64 ((32:Int)*n)))/\k2 (i,j,bitI BinOp.or IntKind.u64 k (shlI IntKind.u64 (IntKind.wrap IntKind.u64 (eltS (0:Int) l n)) (IntKind.wrap IntKind.i64 ((32:Int)*n))),l,m,IntKind.wrap IntKind.i64 (n+(1:Int)),o)) (brV (decide (k<(4611686018427387904:Int))) (Q (IntKind.wrap IntKind.i64 (i*(IntKind.wrap IntKind.i64 k)),none)) (k1 (i,j,o)))) (a,p0,(0:Int),p0,szSl p0,(0:Int),(0:Int),none)) (k1 (a,p0,(0:Int),none)))))):
 callV Pg q0j [⟨tI,a⟩,⟨tD,b⟩] tEI Q:=
 q02 (c:=q01 q7V) (ann:=qbC) qex rfl qhl rfl rfl hQ (kcast (by kernel_rfl) h)
def qbD:Ann:=(.s (.s (.s (.seq (.s (.blk none (.loop ⟨[(5,.own 1005)],[.var 0 tD,.var 1 tD,.var 6 tU,.var 14 tI,.var 15 tI,.arr 1005 tU]⟩ (.s (.s (.seq (.blk none (.s (.s (.seq (.s (.cond (some ⟨[(5,.own 1005)],[.var 0 tD,.var 1 tD,.var 6 tU,.var 7 tI,.var 8 tU,.var 14 tI,.var 15 tI,.arr 1005 tU]⟩) .nil .nil)) .nil)))) .nil)))))) .nil))))
theorem qk6 {Q:DL->Prop} (a:DL) (b:DL) (hQ:∃ r,Q r) (h:
 (mkC 4 (0:Int) (szSl a)/\loopV (DL×DL×Int×Int×DE) (fun k0  (i,j,k,l,m)=>brV (decide (m.1<l)) (joinV (DL×DL×Int×Int×Int×Int×DE) (fun (n,o,p,q,r,s,t)=>inS n q/\callV Pg q3i [⟨tU,eltS (0:Int) n q⟩,⟨tU,r⟩,⟨tU,p⟩] (.tup (.pair tU (.pair tU .unit))) (fun p3=>appC 4 t.2 (lst (some [p3.1]))/\k0 (n,o,p3.2.1,s,IntKind.wrap IntKind.i64 (t.1+(1:Int)),appL t.2 (lst (some [p3.1]))))) (fun k2=>brV (decide (m.1<(szSl j))) (inS j m.1/\k2 (i,j,k,m.1,eltS (0:Int) j m.1,l,m)) (k2 (i,j,k,m.1,(0:Int),l,m)))) (Q m.2)) (a,b,(0:Int),szSl a,(0:Int),some (repS (0:Int) (0:Int))))):
 callV Pg q1v [⟨tD,a⟩,⟨tD,b⟩] tD Q:=
 q02 (c:=q01 q7W) (ann:=qbD) qey rfl qhm rfl rfl hQ (kcast (by kernel_rfl) h)
def qbE:Ann:=.nil
theorem qk7 {Q:DE->Prop} (hQ:∃ r,Q r) (h:
 (Q ((1:Int),none))):
 callV Pg q38 [] tEI Q:=
 q02 (c:=q01 q7X) (ann:=qbE) qez rfl qhn rfl rfl hQ (kcast (by kernel_rfl) h)
def qbF:Ann:=(.s (.seq (.s (.cond (some ⟨[],[.var 0 tD,.var 1 tD]⟩) .nil .nil)) (.s (.s (.seq (.s (.blk none (.loop ⟨[(5,.own 1005)],[.var 0 tD,.var 1 tD,.var 6 tU,.var 22 tI,.var 23 tI,.arr 1005 tU]⟩ (.s (.s (.seq (.blk none (.s (.s (.seq (.s (.cond (some ⟨[(5,.own 1005)],[.var 0 tD,.var 1 tD,.var 6 tU,.var 7 tI,.var 8 tU,.var 22 tI,.var 23 tI,.arr 1005 tU]⟩) .nil .nil)) .nil)))) .nil)))))) .nil)))))
theorem qk8 {Q:DL->Prop} (a:DL) (b:DL) (hQ:∃ r,Q r) (h:
 (joinV (DL×DL) (fun (i,j)=>mkC 4 (0:Int) (IntKind.wrap IntKind.i64 ((szSl i)+(1:Int)))/\loopV (DL×DL×Int×Int×DE) (fun k1  (k,l,m,n,o)=>brV (decide (o.1<n)) (joinV (DL×DL×Int×Int×Int×Int×DE) (fun (p,q,r,s,t,u,v)=>inS p s/\callV Pg q2x [⟨tU,eltS (0:Int) p s⟩,⟨tU,t⟩,⟨tU,r⟩] (.tup (.pair tU (.pair tU .unit))) (fun p4=>appC 4 v.2 (lst (some [p4.1]))/\k1 (p,q,p4.2.1,u,IntKind.wrap IntKind.i64 (v.1+(1:Int)),appL v.2 (lst (some [p4.1]))))) (fun k3=>brV (decide (o.1<(szSl l))) (inS l o.1/\k3 (k,l,m,o.1,eltS (0:Int) l o.1,n,o)) (k3 (k,l,m,o.1,(0:Int),n,o)))) (appC 4 o.2 (lst (some [m]))/\Q (appL o.2 (lst (some [m]))))) (i,j,(0:Int),szSl i,(0:Int),some (repS (0:Int) (0:Int)))) (fun k0=>brV (decide ((szSl a)<(szSl b))) (k0 (b,a)) (k0 (a,b))))):
 callV Pg q2u [⟨tD,a⟩,⟨tD,b⟩] tD Q:=
 q02 (c:=q01 q7Y) (ann:=qbF) qeA rfl qho rfl rfl hQ (kcast (by kernel_rfl) h)
def qbG:Ann:=(.s (.s (.seq (.s (.blk none (.loop ⟨[(5,.own 12)],[.var 1 tI,.var 13 tD,.var 14 tI,.var 15 tI,.arr 12 tU]⟩ .nil))) .nil)))
theorem qk9 {Q:DL->Prop} (a:DL) (b:Int) (hQ:∃ r,Q r) (h:
 (mkC 4 (IntKind.wrap IntKind.i64 ((szSl a)+(1:Int))) (IntKind.wrap IntKind.i64 ((szSl a)+(1:Int)))/\loopV (Int×DL×Int×DE) (fun k0  (i,j,k,l)=>brV (decide (l.1<k)) (inS j l.1/\((0:Int)<=i)/\inS l.2 l.1/\inS l.2 l.1/\((0:Int)<=(32:Int))/\inS (setO l.2 (toN l.1) (bitI BinOp.or IntKind.u32 (eltN (0:Int) l.2 (toN l.1)) (IntKind.wrap IntKind.u32 (shlI IntKind.u64 (IntKind.wrap IntKind.u64 (eltS (0:Int) j l.1)) i)))) (IntKind.wrap IntKind.i64 (l.1+(1:Int)))/\k0 (i,j,k,IntKind.wrap IntKind.i64 (l.1+(1:Int)),setO (setO l.2 (toN l.1) (bitI BinOp.or IntKind.u32 (eltN (0:Int) l.2 (toN l.1)) (IntKind.wrap IntKind.u32 (shlI IntKind.u64 (IntKind.wrap IntKind.u64 (eltS (0:Int) j l.1)) i)))) (toN (IntKind.wrap IntKind.i64 (l.1+(1:Int)))) (IntKind.wrap IntKind.u32 (shrI IntKind.u64 (shlI IntKind.u64 (IntKind.wrap IntKind.u64 (eltS (0:Int) j l.1)) i) (32:Int))))) (Q l.2)) (b,a,szSl a,(0:Int),some (repS (IntKind.wrap IntKind.i64 ((szSl a)+(1:Int))) (0:Int))))):
 ownV Pg q2v [⟨tD,a⟩,⟨tI,b⟩] tU Q:=
 q1l (c:=q01 q7Z) (ann:=qbG) qeB rfl qhp rfl rfl hQ (kcast (by kernel_rfl) h)
def qbH:Ann:=(.s (.s (.s (.seq (.s (.blk none (.loop ⟨[(6,.own 11)],[.var 0 tD,.var 1 tU,.var 7 tU,.var 8 tI,.arr 11 tU]⟩ .nil))) .nil))))
theorem qka {Q:(DL×(Int×Unit))->Prop} (a:DL) (b:Int) (hQ:∃ r,Q r) (h:
 (mkC 4 (szSl a) (szSl a)/\loopV (DL×Int×Int×DE) (fun k0  (i,j,k,l)=>brV (decide ((0:Int)<=l.1)) (inS i l.1/\callV Pg q3c [⟨tU,k⟩,⟨tU,eltS (0:Int) i l.1⟩,⟨tU,j⟩] (.tup (.pair tU (.pair tU .unit))) (fun p2=>inS l.2 l.1/\k0 (i,j,p2.2.1,IntKind.wrap IntKind.i64 (l.1 - (1:Int)),setO l.2 (toN l.1) p2.1))) (Q (l.2,k,()))) (a,b,(0:Int),IntKind.wrap IntKind.i64 ((szSl a) - (1:Int)),some (repS (szSl a) (0:Int))))):
 callV Pg q39 [⟨tD,a⟩,⟨tU,b⟩] (.tup (.pair tD (.pair tU .unit))) Q:=
 q02 (c:=q01 q80) (ann:=qbH) qeC rfl qhq rfl rfl hQ (kcast (by kernel_rfl) h)
def qbI:Ann:=(.s (.seq (.blk none (.loop ⟨[],[.var 0 tD]⟩ (.seq (.seq (.reg [] [] (some ⟨[],[.var 0 tD,.var 14 .bool]⟩)) .nil) .nil))) .nil))
theorem qkb {Q:DL->Prop} (a:DL) (hQ:∃ r,Q r) (h:
 (loopV DL (fun k0  p1=>joinV (DL×Bool) (fun (i,j)=>brV j (inR i (0:Int) (IntKind.wrap IntKind.i64 ((szSl i) - (1:Int)))/\k0 (slcS i (0:Int) (IntKind.wrap IntKind.i64 ((szSl i) - (1:Int))))) (Q i)) (fun k2=>brV (decide ((0:Int)<(szSl p1))) (inS p1 (IntKind.wrap IntKind.i64 ((szSl p1) - (1:Int)))/\k2 (p1,decide ((eltS (0:Int) p1 (IntKind.wrap IntKind.i64 ((szSl p1) - (1:Int))))=(0:Int)))) (k2 (p1,false)))) a)):
 callV Pg q1P [⟨tD,a⟩] tD Q:=
 q02 (c:=q01 q81) (ann:=qbI) qeD rfl qhr rfl rfl hQ (kcast (by kernel_rfl) h)
def qbQ:Ann:=.nil
theorem qkj {Q:(Int×(Int×Unit))->Prop} (a:Int) (b:Int) (c:Int) (hQ:∃ r,Q r) (h:
 (((0:Int)<=(32:Int))/\Q (IntKind.wrap IntKind.u32 (IntKind.wrap IntKind.u64 ((IntKind.wrap IntKind.u64 ((IntKind.wrap IntKind.u64 a)+(IntKind.wrap IntKind.u64 b)))+(IntKind.wrap IntKind.u64 c))),IntKind.wrap IntKind.u32 (shrI IntKind.u64 (IntKind.wrap IntKind.u64 ((IntKind.wrap IntKind.u64 ((IntKind.wrap IntKind.u64 a)+(IntKind.wrap IntKind.u64 b)))+(IntKind.wrap IntKind.u64 c))) (32:Int)),()))):
 callV Pg q2x [⟨tU,a⟩,⟨tU,b⟩,⟨tU,c⟩] (.tup (.pair tU (.pair tU .unit))) Q:=
 q02 (c:=q01 q89) (ann:=qbQ) qeL rfl qhz rfl rfl hQ (kcast (by kernel_rfl) h)
def qbR:Ann:=(.s (.seq (.seq (.reg [] [] (some ⟨[],[.var 0 tU,.var 1 tU,.var 2 tU,.var 15 .bool]⟩)) .nil) .nil))
theorem qkk {Q:(Int×(Int×Unit))->Prop} (a:Int) (b:Int) (c:Int) (hQ:∃ r,Q r) (h:
 (joinV (Int×Int×Int×Bool) (fun (i,j,k,l)=>brV l False (((0:Int)<=(32:Int))/\((IntKind.wrap IntKind.u64 k)≠(0:Int))/\((IntKind.wrap IntKind.u64 k)≠(0:Int))/\Q (IntKind.wrap IntKind.u32 (IntKind.wrap IntKind.u64 (Int.tdiv (bitI BinOp.or IntKind.u64 (shlI IntKind.u64 (IntKind.wrap IntKind.u64 i) (32:Int)) (IntKind.wrap IntKind.u64 j)) (IntKind.wrap IntKind.u64 k))),IntKind.wrap IntKind.u32 (Int.tmod (bitI BinOp.or IntKind.u64 (shlI IntKind.u64 (IntKind.wrap IntKind.u64 i) (32:Int)) (IntKind.wrap IntKind.u64 j)) (IntKind.wrap IntKind.u64 k)),()))) (fun k0=>brV (notB (decide (c=(0:Int)))) (k0 (a,b,c,decide (c<=a))) (k0 (a,b,c,false))))):
 callV Pg q3c [⟨tU,a⟩,⟨tU,b⟩,⟨tU,c⟩] (.tup (.pair tU (.pair tU .unit))) Q:=
 q02 (c:=q01 q8a) (ann:=qbR) qeM rfl qhA rfl rfl hQ (kcast (by kernel_rfl) h)
def qbS:Ann:=.nil
theorem qkl {Q:Int->Prop} (a:Int) (hQ:∃ r,Q r) (h:
 (callV Pg q3f [⟨tU,a⟩] tI (fun p0=>Q (IntKind.wrap IntKind.i64 ((32:Int) - p0))))):
 callV Pg q3d [⟨tU,a⟩] tI Q:=
 q02 (c:=q01 q8b) (ann:=qbS) qeN rfl qhB rfl rfl hQ (kcast (by kernel_rfl) h)
def qbU:Ann:=let x:Shape:=⟨[],[.var 0 tU,.var 2 tI]⟩;(.s (.seq (.s (.cond (some x) .nil .nil)) (.seq (.s (.cond (some x) .nil .nil)) .nil)))
theorem qkn {Q:Int->Prop} (a:Int) (hQ:∃ r,Q r) (h:
 (joinV (Int×Int) (fun (i,j)=>joinV (Int×Int) (fun (k,l)=>(((0:Int)<=(IntKind.wrap IntKind.u8 k))/\((IntKind.wrap IntKind.u8 k)<(szStr (bytesL [0,1,2,2,3,3,3,3,4,4,4,4,4,4,4,4,5,5,5,5,5,5,5,5,5,5,5,5,5,5,5,5,6,6,6,6,6,6,6,6,6,6,6,6,6,6,6,6,6,6,6,6,6,6,6,6,6,6,6,6,6,6,6,6,7,7,7,7,7,7,7,7,7,7,7,7,7,7,7,7,7,7,7,7,7,7,7,7,7,7,7,7,7,7,7,7,7,7,7,7,7,7,7,7,7,7,7,7,7,7,7,7,7,7,7,7,7,7,7,7,7,7,7,7,7,7,7,7,8,8,8,8,8,8,8,8,8,8,8,8,8,8,8,8,8,8,8,8,8,8,8,8,8,8,8,8,8,8,8,8,8,8,8,8,8,8,8,8,8,8,8,8,8,8,8,8,8,8,8,8,8,8,8,8,8,8,8,8,8,8,8,8,8,8,8,8,8,8,8,8,8,8,8,8,8,8,8,8,8,8,8,8,8,8,8,8,8,8,8,8,8,8,8,8,8,8,8,8,8,8,8,8,8,8,8,8,8,8,8,8,8,8,8,8,8,8,8,8,8,8,8,8,8,8,8,8]))))/\Q (IntKind.wrap IntKind.i64 (l+(IntKind.wrap IntKind.i64 (byteAt (bytesL [0,1,2,2,3,3,3,3,4,4,4,4,4,4,4,4,5,5,5,5,5,5,5,5,5,5,5,5,5,5,5,5,6,6,6,6,6,6,6,6,6,6,6,6,6,6,6,6,6,6,6,6,6,6,6,6,6,6,6,6,6,6,6,6,7,7,7,7,7,7,7,7,7,7,7,7,7,7,7,7,7,7,7,7,7,7,7,7,7,7,7,7,7,7,7,7,7,7,7,7,7,7,7,7,7,7,7,7,7,7,7,7,7,7,7,7,7,7,7,7,7,7,7,7,7,7,7,7,8,8,8,8,8,8,8,8,8,8,8,8,8,8,8,8,8,8,8,8,8,8,8,8,8,8,8,8,8,8,8,8,8,8,8,8,8,8,8,8,8,8,8,8,8,8,8,8,8,8,8,8,8,8,8,8,8,8,8,8,8,8,8,8,8,8,8,8,8,8,8,8,8,8,8,8,8,8,8,8,8,8,8,8,8,8,8,8,8,8,8,8,8,8,8,8,8,8,8,8,8,8,8,8,8,8,8,8,8,8,8,8,8,8,8,8,8,8,8,8,8,8,8,8,8,8,8,8]) (IntKind.wrap IntKind.u8 k)))))) (fun k1=>brV (decide ((256:Int)<=i)) (((0:Int)<=(8:Int))/\k1 (shrI IntKind.u32 i (8:Int),IntKind.wrap IntKind.i64 (j+(8:Int)))) (k1 (i,j)))) (fun k0=>brV (decide ((65536:Int)<=a)) (((0:Int)<=(16:Int))/\k0 (shrI IntKind.u32 a (16:Int),(16:Int))) (k0 (a,(0:Int)))))):
 callV Pg q3f [⟨tU,a⟩] tI Q:=
 q02 (c:=q01 q8d) (ann:=qbU) qeP rfl qhD rfl rfl hQ (kcast (by kernel_rfl) h)
def qbW:Ann:=.nil
theorem qkp {Q:(Int×(Int×Unit))->Prop} (a:Int) (b:Int) (hQ:∃ r,Q r) (h:
 (((0:Int)<=(32:Int))/\((0:Int)<=(32:Int))/\((0:Int)<=(32:Int))/\((0:Int)<=(32:Int))/\((0:Int)<=(32:Int))/\Q (IntKind.wrap IntKind.u64 ((IntKind.wrap IntKind.u64 ((IntKind.wrap IntKind.u64 ((shrI IntKind.u64 a (32:Int))*(shrI IntKind.u64 b (32:Int))))+(shrI IntKind.u64 (IntKind.wrap IntKind.u64 ((IntKind.wrap IntKind.u64 ((shrI IntKind.u64 a (32:Int))*(bitI BinOp.and IntKind.u64 b (4294967295:Int))))+(shrI IntKind.u64 (IntKind.wrap IntKind.u64 ((bitI BinOp.and IntKind.u64 a (4294967295:Int))*(bitI BinOp.and IntKind.u64 b (4294967295:Int)))) (32:Int)))) (32:Int))))+(shrI IntKind.u64 (IntKind.wrap IntKind.u64 ((bitI BinOp.and IntKind.u64 (IntKind.wrap IntKind.u64 ((IntKind.wrap IntKind.u64 ((shrI IntKind.u64 a (32:Int))*(bitI BinOp.and IntKind.u64 b (4294967295:Int))))+(shrI IntKind.u64 (IntKind.wrap IntKind.u64 ((bitI BinOp.and IntKind.u64 a (4294967295:Int))*(bitI BinOp.and IntKind.u64 b (4294967295:Int)))) (32:Int)))) (4294967295:Int))+(IntKind.wrap IntKind.u64 ((bitI BinOp.and IntKind.u64 a (4294967295:Int))*(shrI IntKind.u64 b (32:Int)))))) (32:Int))),IntKind.wrap IntKind.u64 (a*b),()))):
 callV Pg q3h [⟨(.int .u64),a⟩,⟨(.int .u64),b⟩] (.tup (.pair (.int .u64) (.pair (.int .u64) .unit))) Q:=
 q02 (c:=q01 q8f) (ann:=qbW) qeR rfl qhF rfl rfl hQ (kcast (by kernel_rfl) h)
def qbX:Ann:=.nil
theorem qkq {Q:(Int×(Int×Unit))->Prop} (a:Int) (b:Int) (c:Int) (hQ:∃ r,Q r) (h:
 (((0:Int)<=(31:Int))/\Q (IntKind.wrap IntKind.u32 ((IntKind.wrap IntKind.u32 (a - b)) - c),shrI IntKind.u32 (bitI BinOp.or IntKind.u32 (bitI BinOp.and IntKind.u32 (bitI BinOp.xor IntKind.u32 ((4294967296:Int) - (1:Int)) a) b) (bitI BinOp.and IntKind.u32 (bitI BinOp.xor IntKind.u32 ((4294967296:Int) - (1:Int)) (bitI BinOp.xor IntKind.u32 a b)) (IntKind.wrap IntKind.u32 ((IntKind.wrap IntKind.u32 (a - b)) - c)))) (31:Int),()))):
 callV Pg q3i [⟨tU,a⟩,⟨tU,b⟩,⟨tU,c⟩] (.tup (.pair tU (.pair tU .unit))) Q:=
 q02 (c:=q01 q8g) (ann:=qbX) qeS rfl qhG rfl rfl hQ (kcast (by kernel_rfl) h)
end Go.Proofs.Pf
namespace Go.Proofs.Pf
open Go Go.VM
theorem joinE {T:Type} {k:T->Prop} {body:(T->Prop)->Prop} (h:body k):joinV T k body:=⟨h⟩
theorem s_Add32 {a b c:Int} (ha:0<=a) (ha':a<4294967296) (hb:0<=b) (hb':b<4294967296) (hc:0<=c) (hc':c<4294967296):
 callV Pg q2x [⟨tU,a⟩,⟨tU,b⟩,⟨tU,c⟩] (.tup (.pair tU (.pair tU .unit))) fun r=>r=((a+b+c) % 4294967296,(a+b+c) / 4294967296,()):=by
 refine qkj a b c ⟨_,rfl⟩ ⟨by omega,?_⟩
 simp only[wu64m,wu32m,q4u,Prod.mk.injEq,and_true]
 omega
theorem s_Sub32 {a b c:Int} (ha:0<=a) (ha':a<4294967296) (hb:0<=b) (hb':b<4294967296) (hc:0<=c) (hc':c<=1):
 callV Pg q3i [⟨tU,a⟩,⟨tU,b⟩,⟨tU,c⟩] (.tup (.pair tU (.pair tU .unit))) fun r=>r=((a - b - c) % 4294967296,(if a<b+c then 1 else 0),()):=by
 refine qkq a b c ⟨_,rfl⟩ ⟨by omega,?_⟩
 have e:IntKind.wrap IntKind.u32 (IntKind.wrap IntKind.u32 (a - b) - c)=(a - b - c) % 4294967296:=by
  rw[wu32m,wu32m];omega
 rw[e,borrow32 ha ha' hb hb' hc hc']
theorem s_Div32 {a b c:Int} (ha:0<=a) (hb:0<=b) (hb':b<4294967296) (hc':c<4294967296) (hac:a<c):
 callV Pg q3c [⟨tU,a⟩,⟨tU,b⟩,⟨tU,c⟩] (.tup (.pair tU (.pair tU .unit))) fun r=>r=((a*4294967296+b) / c,(a*4294967296+b) % c,()):=by
 refine qkk a b c ⟨_,rfl⟩ (joinE ?_)
 have e0:decide (c=0)=false:=decide_eq_false (by omega)
 have e1:decide (c<=a)=false:=decide_eq_false (by omega)
 simp only[notB,e0,e1,Bool.not_false,brV]
 have ec:IntKind.wrap IntKind.u64 c=c:=wu64 (by omega) (by omega)
 have ea:IntKind.wrap IntKind.u64 a=a:=wu64 (by omega) (by omega)
 have eb:IntKind.wrap IntKind.u64 b=b:=wu64 (by omega) (by omega)
 have es:bitI BinOp.or IntKind.u64 (shlI IntKind.u64 a 32) b=a*4294967296+b:=by
  rw[q5J,Int.emod_eq_of_lt (by omega) (by omega),q6x hb hb' ha (by omega),Int.add_comm]
 rw[ec,ea,eb,es]
 refine⟨by omega,by omega,by omega,?_⟩
 have hn:0<=a*4294967296+b:=by omega
 rw[Int.tdiv_eq_ediv_of_nonneg hn,Int.tmod_eq_emod_of_nonneg hn]
 have hq:(a*4294967296+b) / c<4294967296:=by
  refine Int.ediv_lt_of_lt_mul (by omega) ?_
  have:(a+1)*4294967296<=c*4294967296:=by omega
  rw[Int.mul_comm 4294967296 c];omega
 have hq0:0<=(a*4294967296+b) / c:=Int.ediv_nonneg hn (by omega)
 have hr:=Int.emod_lt_of_pos (a*4294967296+b) (show 0<c by omega)
 have hr0:=Int.emod_nonneg (a*4294967296+b) (show c≠0 by omega)
 rw[wu64 hq0 (by omega),wu32 hq0 hq,wu32 hr0 (by omega)]
theorem s_Mul64 {a b:Int} (ha:0<=a) (ha':a<18446744073709551616) (hb:0<=b) (hb':b<18446744073709551616):
 callV Pg q3h [⟨.int .u64,a⟩,⟨.int .u64,b⟩] (.tup (.pair (.int .u64) (.pair (.int .u64) .unit))) fun r=>r=(a*b / 18446744073709551616,a*b % 18446744073709551616,()):=by
 refine qkp a b ⟨_,rfl⟩ ⟨by omega,by omega,by omega,by omega,by omega,?_⟩
 rw[q5R ha ha',q5R hb hb']
 simp only[q4u]
 generalize ha1:a / 4294967296=a1
 generalize hb1:b / 4294967296=b1
 generalize ha0:a % 4294967296=a0
 generalize hb0:b % 4294967296=b0
 have e:a*b=a1*b1*18446744073709551616+(a1*b0+a0*b1)*4294967296+a0*b0:=by
  have e1:a=a1*4294967296+a0:=by omega
  have e2:b=b1*4294967296+b0:=by omega
  rw[e1,e2];grind
 have bound:∀ x y:Int,0<=x->x<=4294967295->0<=y->y<=4294967295->0<=x*y/\x*y<=18446744065119617025:=by
  intro x y h1 h2 h3 h4
  refine⟨Int.mul_nonneg h1 h3,?_⟩
  have:=Int.mul_le_mul h2 h4 h3 (by omega:(0:Int)<=4294967295)
  omega
 have p1:=bound a1 b1 (by omega) (by omega) (by omega) (by omega)
 have p2:=bound a1 b0 (by omega) (by omega) (by omega) (by omega)
 have p3:=bound a0 b1 (by omega) (by omega) (by omega) (by omega)
 have p4:=bound a0 b0 (by omega) (by omega) (by omega) (by omega)
 rw[wu64m (a*b),e]
 generalize a1*b1=x1 at *
 generalize a1*b0=x2 at *
 generalize a0*b1=x3 at *
 generalize a0*b0=x4 at *
 clear e ha1 hb1 ha0 hb0 bound
 have m:∀ x:Int,0<=x->x<18446744073709551616->IntKind.wrap IntKind.u64 x=x:=fun x h1 h2=>wu64 h1 h2
 rw[m x4 (by omega) (by omega),m x1 (by omega) (by omega),m x2 (by omega) (by omega),m x3 (by omega) (by omega)]
 rw[m (x2+x4 / 4294967296) (by omega) (by omega)]
 rw[q5R (by omega) (by omega)]
 rw[m ((x2+x4 / 4294967296) % 4294967296+x3) (by omega) (by omega)]
 rw[m (x1+(x2+x4 / 4294967296) / 4294967296) (by omega) (by omega)]
 rw[m _ (by omega) (by omega)]
 simp only[Prod.mk.injEq,and_true]
 omega
def len8:List Nat:=[0,1,2,2,3,3,3,3,4,4,4,4,4,4,4,4,5,5,5,5,5,5,5,5,5,5,5,5,5,5,5,5,6,6,6,6,6,6,6,6,6,6,6,6,6,6,6,6,6,6,6,6,6,6,6,6,6,6,6,6,6,6,6,6,7,7,7,7,7,7,7,7,7,7,7,7,7,7,7,7,7,7,7,7,7,7,7,7,7,7,7,7,7,7,7,7,7,7,7,7,7,7,7,7,7,7,7,7,7,7,7,7,7,7,7,7,7,7,7,7,7,7,7,7,7,7,7,7,8,8,8,8,8,8,8,8,8,8,8,8,8,8,8,8,8,8,8,8,8,8,8,8,8,8,8,8,8,8,8,8,8,8,8,8,8,8,8,8,8,8,8,8,8,8,8,8,8,8,8,8,8,8,8,8,8,8,8,8,8,8,8,8,8,8,8,8,8,8,8,8,8,8,8,8,8,8,8,8,8,8,8,8,8,8,8,8,8,8,8,8,8,8,8,8,8,8,8,8,8,8,8,8,8,8,8,8,8,8,8,8,8,8,8,8,8,8,8,8,8,8,8,8,8,8,8,8]
theorem len8_ok:(List.range 256).all (fun i=>Nat.blt i (2 ^ len8.getD i 0) && (Nat.beq i 0 || Nat.ble (2 ^ len8.getD i 0) (2*i)) && Nat.ble (len8.getD i 0) 8)=true:=by decide +kernel
theorem byte8 {i:Int} (h1:0<=i) (h2:i<256):∃ n:Nat,byteAt (bytesL len8) i=n/\n<=8/\i<2 ^ n/\(0<i->(2:Int) ^ n<=2*i):=by
 have h:=len8_ok
 rw[List.all_eq_true] at h
 have h:=h i.toNat (by simp;omega)
 simp only[Bool.and_eq_true,Bool.or_eq_true,Nat.blt_eq,Nat.beq_eq,Nat.ble_eq] at h
 obtain⟨⟨h3,h4⟩,h5⟩:=h
 refine⟨len8.getD i.toNat 0,?_,h5,?_,fun hi=>?_⟩
 . have hl:len8.length=256:=by decide +kernel
   have hi:i.toNat<len8.length:=by omega
   simp only[List.getD,List.getElem?_eq_getElem hi,Option.getD_some] at h5
   simp only[byteAt,bytesL,List.getD,List.getElem?_map,List.getElem?_eq_getElem hi,Option.map_some,Option.getD_some]
   rw[UInt8.toNat_ofNat_of_lt' (by simp[UInt8.size];omega)]
 . have:((i.toNat:Nat):Int)<((2 ^ len8.getD i.toNat 0:Nat):Int):=Int.ofNat_lt.2 h3
   simp only[Int.natCast_pow] at this
   have e:((2:Nat):Int)=2:=rfl
   rw[e] at this;omega
 . have h4':=h4.resolve_left (by omega)
   have:((2 ^ len8.getD i.toNat 0:Nat):Int)<=((2*i.toNat:Nat):Int):=Int.ofNat_le.2 h4'
   simp only[Int.natCast_pow] at this
   have e:((2:Nat):Int)=2:=rfl
   rw[e] at this;omega
theorem qae:szStr (bytesL len8)=256:=by decide +kernel
theorem len_ex {a:Int} (ha:0<=a):∀ k:Nat,a<2 ^ k->∃ n:Nat,n<=k/\a<2 ^ n/\(0<a->(2:Int) ^ n<=2*a)
 | 0,h=>⟨0,Nat.le_refl _,h,fun h0=>by simp at h;omega⟩
 | k+1,h=>by
  by_cases h1:a<2 ^ k
  . obtain⟨n,q1,q2⟩:=len_ex ha k h1
    exact⟨n,by omega,q2⟩
  . exact⟨k+1,Nat.le_refl _,h,fun _=>by rw[Int.pow_succ];omega⟩
def L32K (a:Int) (p:Int×Int):Prop:=
 (((0:Int)<=(IntKind.wrap IntKind.u8 p.1))/\((IntKind.wrap IntKind.u8 p.1)<(szStr (bytesL len8)))) /\
  (∃ n:Nat,(IntKind.wrap IntKind.i64 (p.2+(IntKind.wrap IntKind.i64 (byteAt (bytesL len8) (IntKind.wrap IntKind.u8 p.1)))))=n/\n<=32/\a<2 ^ n/\(0<a->(2:Int) ^ n<=2*a))
theorem s_Len32 {a:Int} (ha:0<=a) (ha':a<4294967296):
 callV Pg q3f [⟨tU,a⟩] tI fun r=>∃ n:Nat,r=n/\n<=32/\a<2 ^ n/\(0<a->(2:Int) ^ n<=2*a):=by
 refine qkn a ?_ (joinE ?_)
 . obtain⟨n,q1,q2⟩:=len_ex ha 32 (by omega)
   exact⟨n,n,rfl,q1,q2⟩
 have fin:∀ p1 p2:Int,0<=p1->p1<256->(0<a->0<p1)->(∃ s:Nat,p2=s/\s<=24/\(2:Int) ^ s*p1<=a/\a<2 ^ s*(p1+1))->L32K a (p1,p2):=by
  unfold L32K
  rintro p1 p2 h1 h2 h0 ⟨s,rfl,h3,h4,h5⟩
  have e:IntKind.wrap IntKind.u8 p1=p1:=by rw[wu8m];omega
  rw[e,qae]
  obtain⟨n,q1,q2,q3,q4⟩:=byte8 h1 h2
  rw[q1,wi64 (x:=(n:Int)) (by omega) (by omega),wi64 (by omega) (by omega)]
  have hs:(0:Int)<2 ^ s:=Int.pow_pos (by decide)
  refine⟨⟨h1,h2⟩,s+n,by omega,by omega,?_,fun h0'=>?_⟩
  . rw[Int.pow_add]
    have:(2:Int) ^ s*(p1+1)<=2 ^ s*2 ^ n:=Int.mul_le_mul_of_nonneg_left (by omega) (by omega)
    omega
  . rw[Int.pow_add]
    have:(2:Int) ^ s*2 ^ n<=2 ^ s*(2*p1):=Int.mul_le_mul_of_nonneg_left (q4 (h0 h0')) (by omega)
    have e:(2:Int) ^ s*(2*p1)=2*(2 ^ s*p1):=by grind
    omega
 have two:∀ p1 p2:Int,0<=p1->p1<65536->(0<a->0<p1)->(∃ s:Nat,p2=s/\s<=16/\(2:Int) ^ s*p1<=a/\a<2 ^ s*(p1+1))->∀ k:Int×Int->Prop,
  (∀ p1 p2:Int,0<=p1->p1<256->(0<a->0<p1)->(∃ s:Nat,p2=s/\s<=24/\(2:Int) ^ s*p1<=a/\a<2 ^ s*(p1+1))->k (p1,p2))->
  brV (decide ((256:Int)<=p1)) (((0:Int)<=(8:Int))/\(k ((shrI IntKind.u32 p1 (8:Int)),(IntKind.wrap IntKind.i64 (p2+(8:Int)))))) (k (p1,p2)):=by
  rintro p1 p2 h1 h2 h0 ⟨s,rfl,h3,h4,h5⟩ k hk
  refine q00.2 ⟨fun hb=>⟨by omega,?_⟩,fun hb=>?_⟩
  . have hb:=of_decide_eq_true hb
    have e:shrI IntKind.u32 p1 8=p1 / 256:=shr32 p1 8
    rw[e,wi64 (by omega) (by omega)]
    refine hk _ _ (by omega) (by omega) (by omega) ⟨s+8,by omega,by omega,?_,?_⟩
    . rw[Int.pow_add]
      have:(2:Int) ^ s*(256*(p1 / 256))<=2 ^ s*p1:=Int.mul_le_mul_of_nonneg_left (by omega) (Int.pow_nonneg (by decide))
      have e:(2:Int) ^ s*2 ^ 8*(p1 / 256)=2 ^ s*(256*(p1 / 256)):=by grind
      omega
    . rw[Int.pow_add]
      have:(2:Int) ^ s*(p1+1)<=2 ^ s*(256*(p1 / 256+1)):=Int.mul_le_mul_of_nonneg_left (by omega) (Int.pow_nonneg (by decide))
      have e:(2:Int) ^ s*2 ^ 8*(p1 / 256+1)=2 ^ s*(256*(p1 / 256+1)):=by grind
      omega
  . have hb:=of_decide_eq_false hb
    exact hk _ _ h1 (by omega) h0 ⟨s,rfl,by omega,h4,h5⟩
 refine q00.2 ⟨fun hb=>⟨by omega,?_⟩,fun hb=>?_⟩
 . have hb:=of_decide_eq_true hb
   have e:shrI IntKind.u32 a 16=a / 65536:=shr32 a 16
   rw[e]
   refine joinE ?_
   exact two (a / 65536) 16 (by omega) (by omega) (by omega) ⟨16,rfl,by omega,by omega,by omega⟩ (L32K a) fin
 . have hb:=of_decide_eq_false hb
   refine joinE ?_
   exact two a 0 (by omega) (by omega) (by omega) ⟨0,rfl,by omega,by omega,by omega⟩ (L32K a) fin
theorem qjs {a:Int} (ha:0<a) (ha':a<4294967296):
 callV Pg q3d [⟨tU,a⟩] tI fun r=>∃ n:Nat,r=n/\n<32/\a*2 ^ n<4294967296/\2147483648<=a*2 ^ n:=by
 have key:∀ n:Nat,n<=32/\a<2 ^ n/\(0<a->(2:Int) ^ n<=2*a)->∃ m:Nat,IntKind.wrap IntKind.i64 ((32:Int) - (n:Int))=m/\m<32/\a*2 ^ m<4294967296/\2147483648<=a*2 ^ m:=by
  rintro n ⟨h1,h2,h3⟩
  have h3:=h3 ha
  have hn:n≠0:=by rintro rfl;simp at h2;omega
  refine⟨32 - n,by rw[wi64 (by omega) (by omega)];omega,by omega,?_,?_⟩
  . have e:(4294967296:Int)=2 ^ n*2 ^ (32 - n):=by rw[<-Int.pow_add,show n+(32 - n)=32 by omega];rfl
    rw[e]
    exact Int.mul_lt_mul_of_pos_right h2 (Int.pow_pos (by decide))
  . have e:(4294967296:Int)=2 ^ n*2 ^ (32 - n):=by rw[<-Int.pow_add,show n+(32 - n)=32 by omega];rfl
    have:(2:Int) ^ n*2 ^ (32 - n)<=2*a*2 ^ (32 - n):=Int.mul_le_mul_of_nonneg_right h3 (Int.pow_nonneg (by decide))
    have e2:2*a*(2:Int) ^ (32 - n)=2*(a*2 ^ (32 - n)):=by grind
    omega
 refine qkl a ?_ ((s_Len32 (by omega) ha').mono ?_)
 . obtain⟨n,q⟩:=len_ex (a:=a) (by omega) 32 (by omega)
   obtain⟨m,h⟩:=key n q
   exact⟨m,m,rfl,h.2⟩
 . rintro r ⟨n,rfl,q⟩
   exact key n q
end Go.Proofs.Pf
namespace Go.Proofs.Pf
open Go Go.VM
theorem loopE {T:Type} {step:(T->Prop)->T->Prop} {p:T} (Inv:T->Prop) (μ:T->Nat) (h0:Inv p) (h:∀ p,Inv p->step (fun p'=>Inv p'/\μ p'<μ p) p):loopV T step p:=⟨Inv,μ,h0,h⟩
theorem s_trim {a:Option (List Int)} (ha:(a.getD []).length<4611686018427387904):
 callV Pg q1P [⟨tD,a⟩] tD fun r=>r=a.map trim:=by
 refine qkb a ⟨_,rfl⟩ (loopE (fun p=>p.map trim=a.map trim/\(p.getD []).length<=(a.getD []).length) (fun p=>(p.getD []).length) ⟨rfl,Nat.le_refl _⟩ ?_)
 rintro p ⟨h1,h2⟩
 refine joinE (q00.2 ⟨fun hb=>?_,fun hb=>?_⟩)
 . have hb:=of_decide_eq_true hb
   simp only[szSl] at hb ⊢
   rw[wi64 (by omega) (by omega)]
   cases p with
   | none=>simp at hb
   | some l=>
    simp only[Option.getD_some] at *
    rcases List.eq_nil_or_concat l with rfl | ⟨l',x,rfl⟩
    . simp at hb
    . simp only[List.concat_eq_append] at *
      refine⟨⟨by omega,by simp only[Option.getD_some];omega⟩,q00.2 ⟨fun hb2=>?_,fun hb2=>?_⟩⟩
      . have hb2:=of_decide_eq_true hb2
        have e:(((l' ++ [x]).length:Int) - 1).toNat=l'.length:=by simp
        simp only[eltS,Option.getD_some,e] at hb2
        have hx:x=0:=by simpa[List.getD] using hb2
        subst hx
        refine⟨⟨by omega,by omega,by simp;omega⟩,?_⟩
        simp only[slcS,Option.map_some,e]
        have e2:((l' ++ [0]).take l'.length).drop (0:Int).toNat=l':=by simp
        rw[e2]
        refine⟨⟨?_,?_⟩,by simp⟩
        . rw[<-h1];simp[q4w]
        . simp at h2 ⊢;omega
      . have hb2:=of_decide_eq_false hb2
        have e:(((l' ++ [x]).length:Int) - 1).toNat=l'.length:=by simp
        simp only[eltS,Option.getD_some,e] at hb2
        have hx:x≠0:=by simpa[List.getD] using hb2
        show some (l' ++ [x])=_
        rw[<-h1];simp[q4v _ _ hx]
 . have hb:=of_decide_eq_false hb
   show p=_
   cases p with
   | none=>simpa using h1
   | some l=>
    simp only[szSl,Option.getD_some] at hb
    have:l=[]:=by apply List.eq_nil_of_length_eq_zero;omega
    subst this
    rw[<-h1];rfl
def IV (x:Int×Option (List Int)) (n:Int):Prop:=
 match x.2 with
 | none=>x.1=n /\ -4611686018427387904<n/\n<4611686018427387904
 | some l=>Dig l/\Trm l/\4611686018427387904<=nv l/\((x.1=1/\n=nv l)∨(x.1 = -1/\n = -nv l))
theorem IV.none {v n:Int} (h:v=n) (h1:-4611686018427387904<n) (h2:n<4611686018427387904):IV (v,none) n:=⟨h,h1,h2⟩
def sgn (n:Int):Int:=if 0<n then 1 else if n<0 then -1 else 0
theorem q2Y {x:Int×Option (List Int)} {n:Int} (h:IV x n):callV Pg q0S [⟨tEI,x⟩] tI fun r=>r=sgn n:=by
 refine qjP x ⟨_,rfl⟩ ?_
 obtain⟨v,d⟩:=x
 have hv:(0<v↔0<n)/\(v<0↔n<0):=by
  cases d with
  | none=>obtain⟨h1,h2,h3⟩:=h;simp only at h1;omega
  | some l=>obtain⟨h1,h2,h3,h4⟩:=h;simp only at h4;omega
 simp only[q00,decide_eq_true_eq,decide_eq_false_iff_not,sgn]
 refine⟨fun h1=>?_,fun h1=>⟨fun h2=>?_,fun h2=>?_⟩⟩
 . rw[if_pos (by omega)]
 . rw[if_neg (by omega),if_pos (by omega)]
 . rw[if_neg (by omega),if_neg (by omega)]
theorem s_Neg {x:Int×Option (List Int)} {n:Int} (h:IV x n):callV Pg q1q [⟨tEI,x⟩] tEI fun r=>IV r (-n):=by
 have key:IV (IntKind.wrap IntKind.i64 (0 - x.1),x.2) (-n):=by
  obtain⟨v,d⟩:=x
  cases d with
  | none=>obtain⟨h1,h2,h3⟩:=h;simp only at h1;exact⟨by simp only;rw[wi64 (by omega) (by omega)];omega,by omega,by omega⟩
  | some l=>
   obtain⟨h1,h2,h3,h4⟩:=h;simp only at h4
   refine⟨h1,h2,h3,?_⟩
   simp only;rw[wi64 (by omega) (by omega)];omega
 exact qjN x ⟨_,key⟩ key
theorem s_Abs {x:Int×Option (List Int)} {n:Int} (h:IV x n):callV Pg q2q [⟨tEI,x⟩] tEI fun r=>IV r n.natAbs:=by
 obtain⟨v,d⟩:=x
 have hv:(v<0↔n<0):=by
  cases d with
  | none=>obtain⟨h1,h2,h3⟩:=h;simp only at h1;omega
  | some l=>obtain⟨h1,h2,h3,h4⟩:=h;simp only at h4;omega
 have hc:=s_Neg h
 refine qjJ (v,d) ?_ (q00.2 ⟨fun hb=>?_,fun hb=>?_⟩)
 . by_cases h0:n<0
   . obtain⟨r,hr⟩:=hc.ex;exact⟨r,by rw[show (n.natAbs:Int) = -n by omega];exact hr⟩
   . exact⟨_,by rw[show (n.natAbs:Int)=n by omega];exact h⟩
 . have hb:=of_decide_eq_true hb
   refine hc.mono fun r hr=>?_
   simp only at hb
   rw[show (n.natAbs:Int) = -n by omega];exact hr
 . have hb:=of_decide_eq_false hb
   simp only at hb
   rw[show (n.natAbs:Int)=n by omega];exact h
theorem q0c (l:List Int) (i:Nat):nv (l.take (i+1))=nv (l.take i)+4294967296 ^ i*l.getD i 0:=by
 rcases Nat.lt_or_ge i l.length with h | h
 . exact q4d l i h
 . rw[List.take_of_length_le (by omega),List.take_of_length_le h]
   have:l.getD i 0=0:=by simp[List.getD,h]
   rw[this];omega
def SumOf (a b:List Int) (r:Option (List Int)):Prop:=∃ l,r=some l/\Dig l/\nv l=nv a+nv b/\l.length<=max a.length b.length+1
theorem plus_ex {a b:List Int} (ha:Dig a) (hb:Dig b):∀ k:Nat,∃ (o:List Int) (c:Int),o.length=k/\Dig o/\0<=c/\c<=1/\nv o+4294967296 ^ k*c=nv (a.take k)+nv (b.take k)
 | 0=>⟨[],0,rfl,Dig.nil,by omega,by omega,by simp[nv]⟩
 | k+1=>by
  obtain⟨o,c,h1,h2,h3,h4,h5⟩:=plus_ex ha hb k
  have ga:=ha.get k
  have gb:=hb.get k
  refine⟨o ++ [(a.getD k 0+b.getD k 0+c) % 4294967296],(a.getD k 0+b.getD k 0+c) / 4294967296,by simp[h1],h2.app (Dig.cons (by omega) (by omega) Dig.nil),by omega,by omega,?_⟩
  rw[q0f,q0c,q0c,h1,Int.pow_succ]
  have:=Int.emod_add_mul_ediv (a.getD k 0+b.getD k 0+c) 4294967296
  generalize (a.getD k 0+b.getD k 0+c) % 4294967296=x at *
  generalize (a.getD k 0+b.getD k 0+c) / 4294967296=y at *
  grind
theorem plus_step {a b o:List Int} {c:Int} {k:Nat} (ha:Dig a) (hb:Dig b) (h1:o.length=k) (h2:Dig o) (h3:0<=c) (h4:c<=1) (h5:nv o+4294967296 ^ k*c=nv (a.take k)+nv (b.take k)):
 Dig (o ++ [(a.getD k 0+b.getD k 0+c) % 4294967296])/\0<=(a.getD k 0+b.getD k 0+c) / 4294967296/\(a.getD k 0+b.getD k 0+c) / 4294967296<=1 /\
  nv (o ++ [(a.getD k 0+b.getD k 0+c) % 4294967296])+4294967296 ^ (k+1)*((a.getD k 0+b.getD k 0+c) / 4294967296)=nv (a.take (k+1))+nv (b.take (k+1)):=by
 have ga:=ha.get k
 have gb:=hb.get k
 refine⟨h2.app (Dig.cons (by omega) (by omega) Dig.nil),by omega,by omega,?_⟩
 rw[q0f,q0c,q0c,h1,Int.pow_succ]
 have:=Int.emod_add_mul_ediv (a.getD k 0+b.getD k 0+c) 4294967296
 generalize (a.getD k 0+b.getD k 0+c) % 4294967296=x at *
 generalize (a.getD k 0+b.getD k 0+c) / 4294967296=y at *
 grind
theorem joinR {T:Type} {k:T->Prop} {body:(T->Prop)->Prop} (R:T->Prop) (hk:∀ p,R p->k p) (hb:∀ k':T->Prop,(∀ p,R p->k' p)->body k'):joinV T k body:=⟨hb k hk⟩
theorem dec_t {p:Prop} [Decidable p] (h:decide p=true):p:=of_decide_eq_true h
theorem dec_f {p:Prop} [Decidable p] (h:decide p=false):¬ p:=of_decide_eq_false h
structure PInv (A B:Option (List Int)) (f:List Int->Int->Nat->Prop) (p:Option (List Int)×Option (List Int)×Int×Int×Int×Option (List Int)):Prop where
 a:p.1=A
 b:p.2.1=B
 n:p.2.2.2.1=((A.getD []).length:Int)
 k:∃ (k:Nat) (o:List Int),p.2.2.2.2.1=k/\k<=(A.getD []).length/\p.2.2.2.2.2=some o/\o.length=k/\f o p.2.2.1 k
theorem q2a {l:Option (List Int)} {i:Nat} (h:¬ i<(l.getD []).length):(l.getD []).getD i 0=0:=by
 simp[List.getD,Nat.le_of_not_lt h]
theorem s_plus {a b:Option (List Int)} (ha:Dig (a.getD [])) (hb:Dig (b.getD [])) (la:(a.getD []).length<=1099511627776) (lb:(b.getD []).length<=1099511627776):
 callV Pg q2u [⟨tD,a⟩,⟨tD,b⟩] tD fun r=>SumOf (a.getD []) (b.getD []) r:=by
 refine qk8 a b ?_ (joinR (fun p=>Dig (p.1.getD [])/\Dig (p.2.getD [])/\(p.1.getD []).length<=1099511627776/\(p.2.getD []).length<=(p.1.getD []).length/\(∀ r,SumOf (p.1.getD []) (p.2.getD []) r->SumOf (a.getD []) (b.getD []) r)) ?_ ?_)
 . obtain⟨o,c,h1,h2,h3,h4,h5⟩:=plus_ex ha hb (max (a.getD []).length (b.getD []).length)
   refine⟨some (o ++ [c]),o ++ [c],rfl,h2.app (Dig.cons h3 (by omega) Dig.nil),?_,by simp[h1]⟩
   rw[q0f,h1,h5,List.take_of_length_le (by omega),List.take_of_length_le (by omega)]
 . rintro⟨A,B⟩ ⟨h1,h2,h3,h4,h5⟩
   simp only at h1 h2 h3 h4 h5 ⊢
   refine⟨?_,?_⟩
   . simp only[szSl];rw[wi64 (by omega) (by omega)];simp only[mkC];omega
   refine loopE (PInv A B fun o c k=>Dig o/\0<=c/\c<=1/\nv o+4294967296 ^ k*c=nv ((A.getD []).take k)+nv ((B.getD []).take k)) (fun p=>((A.getD []).length - p.2.2.2.2.1).toNat) ⟨rfl,rfl,rfl,0,[],rfl,by omega,rfl,rfl,Dig.nil,Int.le_refl _,(by decide:(0:Int)<=1),by simp[nv]⟩ ?_
   rintro⟨A',B',c,n,i,out⟩ ⟨e1,e2,e3,k,o,e4,e5,e6,e7,e8,e9,e10,e11⟩
   simp only at e1 e2 e3 e4 e6 e9 e10 e11;subst e1 e2 e3 e4 e6
   refine q00.2 ⟨fun hb=>?_,fun hb=>?_⟩
   . have hb:=dec_t hb
     simp only at hb
     refine joinR (fun p=>p=(A',B',c,(k:Int),(B'.getD []).getD k 0,((A'.getD []).length:Int),(k:Int),some o)) ?_ ?_
     . rintro _ rfl
       simp only
       have ga:=h1.get k
       have gb:=h2.get k
       refine⟨⟨by omega,by omega⟩,(s_Add32 (by simpa[eltS] using ga.1) (by simpa[eltS] using ga.2) gb.1 gb.2 e9 (by omega)).mono ?_⟩
       rintro _ rfl
       refine⟨?_,⟨rfl,rfl,rfl,k+1,o ++ [((A'.getD []).getD k 0+(B'.getD []).getD k 0+c) % 4294967296],?_,by omega,rfl,by simp[e7],?_⟩,?_⟩
       . show (o.length+1)*4<=140737488355328;omega
       . show IntKind.wrap IntKind.i64 ((k:Int)+1)=((k+1:Nat):Int);rw[wi64 (by omega) (by omega)];omega
       . exact plus_step h1 h2 e7 e8 e9 e10 e11
       . show ((A'.getD []).length - IntKind.wrap IntKind.i64 ((k:Int)+1)).toNat<(((A'.getD []).length:Int) - (k:Int)).toNat
         rw[wi64 (by omega) (by omega)];omega
     . intro k' hk'
       refine q00.2 ⟨fun hb2=>?_,fun hb2=>?_⟩
       . have hb2:=dec_t hb2
         simp only[szSl] at hb2
         refine⟨⟨by dsimp only;omega,by dsimp only;omega⟩,hk' _ ?_⟩
         simp only[eltS,Int.toNat_natCast]
       . have hb2:=dec_f hb2
         simp only[szSl] at hb2
         refine hk' _ ?_
         rw[q2a (by omega)]
   . have hb:=dec_f hb
     simp only at hb
     have hk:k=(A'.getD []).length:=by omega
     refine⟨?_,h5 _ ⟨o ++ [c],rfl,e8.app (Dig.cons e9 (by omega) Dig.nil),?_,by simp;omega⟩⟩
     . show (o.length+1)*4<=140737488355328;omega
     . rw[q0f,e7,e11,hk,List.take_length,List.take_of_length_le (by omega)]
 . intro k' hk'
   refine q00.2 ⟨fun hb2=>?_,fun hb2=>?_⟩
   . have hb2:=dec_t hb2
     simp only[szSl] at hb2
     refine hk' _ ⟨hb,ha,by omega,by simp only;omega,?_⟩
     rintro r ⟨l,q1,q2,q3,q4⟩
     exact⟨l,q1,q2,by rw[q3,Int.add_comm],by rw[Nat.max_comm];exact q4⟩
   . have hb2:=dec_f hb2
     simp only[szSl] at hb2
     exact hk' _ ⟨ha,hb,la,by simp only;omega,fun r h=>h⟩
theorem qak {a b o:List Int} {c:Int} {k:Nat} (ha:Dig a) (hb:Dig b) (h1:o.length=k) (h2:Dig o) (h3:0<=c) (h4:c<=1) (h5:nv o - 4294967296 ^ k*c=nv (a.take k) - nv (b.take k)):
 Dig (o ++ [(a.getD k 0 - b.getD k 0 - c) % 4294967296])/\0<=(if a.getD k 0<b.getD k 0+c then (1:Int) else 0)/\(if a.getD k 0<b.getD k 0+c then (1:Int) else 0)<=1 /\
  nv (o ++ [(a.getD k 0 - b.getD k 0 - c) % 4294967296]) - 4294967296 ^ (k+1)*(if a.getD k 0<b.getD k 0+c then (1:Int) else 0)=nv (a.take (k+1)) - nv (b.take (k+1)):=by
 have ga:=ha.get k
 have gb:=hb.get k
 have e:(a.getD k 0 - b.getD k 0 - c) % 4294967296=a.getD k 0 - b.getD k 0 - c+4294967296*(if a.getD k 0<b.getD k 0+c then (1:Int) else 0):=by split<;>omega
 have e0:0<=(if a.getD k 0<b.getD k 0+c then (1:Int) else 0)/\(if a.getD k 0<b.getD k 0+c then (1:Int) else 0)<=1:=by split<;>omega
 refine⟨h2.app (Dig.cons (by omega) (by omega) Dig.nil),e0.1,e0.2,?_⟩
 rw[q0f,q0c,q0c,h1,Int.pow_succ,e]
 generalize (if a.getD k 0<b.getD k 0+c then (1:Int) else 0)=y at *
 grind
theorem qai {a b:List Int} (ha:Dig a) (hb:Dig b):∀ k:Nat,∃ (o:List Int) (c:Int),o.length=k/\Dig o/\0<=c/\c<=1/\nv o - 4294967296 ^ k*c=nv (a.take k) - nv (b.take k)
 | 0=>⟨[],0,rfl,Dig.nil,by omega,by omega,by simp[nv]⟩
 | k+1=>by
  obtain⟨o,c,h1,h2,h3,h4,h5⟩:=qai ha hb k
  obtain⟨q1,q2,q3,q4⟩:=qak ha hb h1 h2 h3 h4 h5
  exact⟨_,_,by simp[h1],q1,q2,q3,q4⟩
theorem qaj {a b o:List Int} {c:Int} (h1:o.length=a.length) (h2:Dig o) (h3:0<=c) (h4:c<=1) (h5:nv o - 4294967296 ^ a.length*c=nv a - nv b) (h:nv b<=nv a):nv o=nv a - nv b:=by
 have hl:=nv_lt h2
 rw[h1] at hl
 have:c=0:=by
  rcases (by omega:c=0∨c=1) with h | rfl
  . exact h
  . omega
 subst this;omega
def DifOf (a b:List Int) (r:Option (List Int)):Prop:=∃ l,r=some l/\Dig l/\nv l=nv a - nv b/\l.length=a.length
theorem s_minus {a b:Option (List Int)} (ha:Dig (a.getD [])) (hb:Dig (b.getD [])) (la:(a.getD []).length<=1099511627776) (lb:(b.getD []).length<=(a.getD []).length) (hle:nv (b.getD [])<=nv (a.getD [])):
 callV Pg q1v [⟨tD,a⟩,⟨tD,b⟩] tD fun r=>DifOf (a.getD []) (b.getD []) r:=by
 refine qk6 a b ?_ ⟨?_,?_⟩
 . obtain⟨o,c,h1,h2,h3,h4,h5⟩:=qai ha hb (a.getD []).length
   rw[List.take_length,List.take_of_length_le lb] at h5
   exact⟨some o,o,rfl,h2,qaj h1 h2 h3 h4 h5 hle,h1⟩
 . simp only[szSl,mkC];omega
 refine loopE (PInv a b fun o c k=>Dig o/\0<=c/\c<=1/\nv o - 4294967296 ^ k*c=nv ((a.getD []).take k) - nv ((b.getD []).take k)) (fun p=>((a.getD []).length - p.2.2.2.2.1).toNat) ⟨rfl,rfl,rfl,0,[],rfl,by omega,rfl,rfl,Dig.nil,Int.le_refl _,(by decide:(0:Int)<=1),by simp[nv]⟩ ?_
 rintro⟨A',B',c,n,i,out⟩ ⟨e1,e2,e3,k,o,e4,e5,e6,e7,e8,e9,e10,e11⟩
 simp only at e1 e2 e3 e4 e6 e9 e10 e11;subst e1 e2 e3 e4 e6
 refine q00.2 ⟨fun hbb=>?_,fun hbb=>?_⟩
 . have hb':=dec_t hbb
   simp only at hb'
   refine joinR (fun p=>p=(A',B',c,(k:Int),(B'.getD []).getD k 0,((A'.getD []).length:Int),(k:Int),some o)) ?_ ?_
   . rintro _ rfl
     simp only
     have ga:=ha.get k
     have gb:=hb.get k
     refine⟨⟨by omega,by omega⟩,(s_Sub32 (by simpa[eltS] using ga.1) (by simpa[eltS] using ga.2) gb.1 gb.2 e9 e10).mono ?_⟩
     rintro _ rfl
     refine⟨?_,⟨rfl,rfl,rfl,k+1,o ++ [((A'.getD []).getD k 0 - (B'.getD []).getD k 0 - c) % 4294967296],?_,by omega,rfl,by simp[e7],?_⟩,?_⟩
     . show (o.length+1)*4<=140737488355328;omega
     . show IntKind.wrap IntKind.i64 ((k:Int)+1)=((k+1:Nat):Int);rw[wi64 (by omega) (by omega)];omega
     . exact qak ha hb e7 e8 e9 e10 e11
     . show ((A'.getD []).length - IntKind.wrap IntKind.i64 ((k:Int)+1)).toNat<(((A'.getD []).length:Int) - (k:Int)).toNat
       rw[wi64 (by omega) (by omega)];omega
   . intro k' hk'
     refine q00.2 ⟨fun hb2=>?_,fun hb2=>?_⟩
     . have hb2:=dec_t hb2
       simp only[szSl] at hb2
       refine⟨⟨by dsimp only;omega,by dsimp only;omega⟩,hk' _ ?_⟩
       simp only[eltS,Int.toNat_natCast]
     . have hb2:=dec_f hb2
       simp only[szSl] at hb2
       refine hk' _ ?_
       rw[q2a (by omega)]
 . have hb':=dec_f hbb
   simp only at hb'
   have hk:k=(A'.getD []).length:=by omega
   subst hk
   rw[List.take_length,List.take_of_length_le lb] at e11
   exact⟨o,rfl,e8,qaj e7 e8 e9 e10 e11 hle,e7⟩
end Go.Proofs.Pf
namespace Go.Proofs.Pf
open Go Go.VM
theorem q4N {a b:List Int} (ha:Dig a) (hb:Dig b) {k:Nat} (hl:a.length=b.length) (hk:k<a.length) (heq:nv (a.drop (k+1))=nv (b.drop (k+1))) (hlt:a.getD k 0<b.getD k 0):nv a<nv b:=by
 rw[q2S a k (by omega),q2S b k (by omega),q0z a k hk,q0z b k (by omega),heq]
 have h1:=nv_lt (ha.take k)
 have h2:=nv_nonneg (hb.take k)
 rw[List.length_take,Nat.min_eq_left (by omega)] at h1
 have hp:=pow_pos32 k
 have:4294967296 ^ k*(a.getD k 0+4294967296*nv (b.drop (k+1))+1)<=(4294967296:Int) ^ k*(b.getD k 0+4294967296*nv (b.drop (k+1))):=Int.mul_le_mul_of_nonneg_left (by omega) (by omega)
 rw[Int.mul_add _ _ 1] at this
 omega
theorem not_t {p:Prop} [Decidable p] (h:notB (decide p)=true):¬ p:=by simpa[notB] using h
theorem not_f {p:Prop} [Decidable p] (h:notB (decide p)=false):p:=by simpa[notB] using h
def cmpI (a b:Int):Int:=if a<b then -1 else if b<a then 1 else 0
theorem q12 {a b:List Int} (ha:Dig a) (hb:Dig b) (tb:Trm b) (h:a.length<b.length):nv a<nv b:=by
 have h1:=nv_lt ha
 have hne:b≠[]:=by rintro rfl;simp at h
 have h2:=tb.ge hb hne
 have h3:=pow_mono32 (show a.length<=b.length - 1 by omega)
 omega
theorem qaO {a b:Option (List Int)} (ha:Dig (a.getD [])) (hb:Dig (b.getD [])) (ta:Trm (a.getD [])) (tb:Trm (b.getD [])) (la:(a.getD []).length<=1099511627776):
 callV Pg q1O [⟨tD,a⟩,⟨tD,b⟩] tI fun r=>r=cmpI (nv (a.getD [])) (nv (b.getD [])):=by
 refine qk3 a b ⟨_,rfl⟩ (q00.2 ⟨fun h=>q00.2 ⟨fun h2=>?_,fun h2=>?_⟩,fun h=>?_⟩)
 . have h2:=dec_t h2
   simp only[szSl] at h2
   have:=q12 ha hb tb (by omega)
   rw[cmpI,if_pos this]
 . have h2:=dec_f h2
   have h:=not_t h
   simp only[szSl] at h h2
   have:=q12 hb ha ta (by omega)
   rw[cmpI,if_neg (by omega),if_pos this]
 . have h:=not_f h
   simp only[szSl] at h
   refine loopE (fun p=>p.1=a/\p.2.1=b/\∃ k:Nat,p.2.2=(k:Int) - 1/\k<=(a.getD []).length/\nv ((a.getD []).drop k)=nv ((b.getD []).drop k)) (fun p=>(p.2.2+1).toNat) ⟨rfl,rfl,(a.getD []).length,?_,Nat.le_refl _,?_⟩ ?_
   . simp only[szSl];exact wi64 (by omega) (by omega)
   . rw[List.drop_length,show (a.getD []).length=(b.getD []).length by omega,List.drop_length]
   . rintro⟨A,B,i⟩ ⟨e1,e2,k,e3,h1,h2⟩
     simp only at e1 e2 e3;subst e1 e2 e3
     refine q00.2 ⟨fun hc=>?_,fun hc=>?_⟩
     . have hc:=dec_t hc
       (try simp only at hc)
       obtain⟨k,rfl⟩:∃ j,k=j+1:=⟨k - 1,by omega⟩
       have e:((k+1:Nat):Int) - 1=(k:Int):=by omega
       have ek:(((k+1:Nat):Int) - 1).toNat=k:=by omega
       have i1:inS A (((k+1:Nat):Int) - 1):=⟨by omega,by omega⟩
       have i2:inS B (((k+1:Nat):Int) - 1):=⟨by omega,by omega⟩
       refine⟨i1,i2,q00.2 ⟨fun hd=>⟨i1,i2,q00.2 ⟨fun hd2=>?_,fun hd2=>?_⟩⟩,fun hd=>?_⟩⟩
       . have hd2:=dec_t hd2
         simp only[eltS,ek] at hd2
         have:=q4N ha hb (by omega) (by omega) h2 hd2
         rw[cmpI,if_pos this]
       . have hd2:=dec_f hd2
         have hd:=not_t hd
         simp only[eltS,ek] at hd hd2
         have:=q4N hb ha (by omega) (by omega) h2.symm (show (B.getD []).getD k 0<(A.getD []).getD k 0 by omega)
         rw[cmpI,if_neg (by omega),if_pos this]
       . have hd:=not_f hd
         simp only[eltS,ek] at hd
         refine⟨⟨rfl,rfl,k,?_,by omega,?_⟩,?_⟩
         . show IntKind.wrap IntKind.i64 (((k+1:Nat):Int) - 1 - 1)=(k:Int) - 1;rw[wi64 (by omega) (by omega)];omega
         . rw[q0z (A.getD []) k (by omega),q0z (B.getD []) k (by omega),hd,h2]
         . show (IntKind.wrap IntKind.i64 (((k+1:Nat):Int) - 1 - 1)+1).toNat<(((k+1:Nat):Int) - 1+1).toNat;rw[wi64 (by omega) (by omega)];omega
     . have hc:=dec_f hc
       (try simp only at hc)
       have:k=0:=by omega
       subst this
       simp only[List.drop_zero] at h2
       rw[cmpI,if_neg (by omega),if_neg (by omega)]
theorem nv_two {m:Int}:nv [m % 4294967296,m / 4294967296]=m:=by simp only[nv];omega
theorem dig_two {m:Int} (h0:0<=m) (h1:m<18446744073709551616):Dig [m % 4294967296,m / 4294967296]:=
 Dig.cons (by omega) (by omega) (Dig.cons (by omega) (by omega) Dig.nil)
theorem qb0 {m:Int} (h0:0<=m) (h1:m<18446744073709551616):[IntKind.wrap IntKind.u32 m,IntKind.wrap IntKind.u32 (shrI IntKind.u64 m 32)]=[m % 4294967296,m / 4294967296]:=by
 rw[q4u,wu32m,wu32m,Int.emod_eq_of_lt (b:=4294967296) (a:=m / 4294967296) (by omega) (by omega)]
def DigOf (n:Int) (r:Int×Option (List Int)×Unit):Prop:=r.1=sgn n/\∃ l,r.2.1=some l/\Dig l/\Trm l/\nv l=n.natAbs
theorem q4q {x:Int×Option (List Int)} {n:Int} (h:IV x n):callV Pg q0w [⟨tEI,x⟩] (.tup (.pair tI (.pair tD .unit))) fun r=>DigOf n r:=by
 obtain⟨v,d⟩:=x
 cases d with
 | some l=>
  obtain⟨h1,h2,h3,h4⟩:=h
  simp only at h4
  have key:DigOf n (v,some l,()):=by
   refine⟨?_,l,rfl,h1,h2,by omega⟩
   simp only[sgn]
   rcases h4 with ⟨rfl,rfl⟩ | ⟨rfl,rfl⟩
   . rw[if_pos (by omega)]
   . rw[if_neg (by omega),if_pos (by omega)]
  exact qb9 _ ⟨_,key⟩ key
 | none=>
  obtain⟨rfl,h1,h2⟩:=h
  simp only at h1 h2
  have key:DigOf v (sgn v,some (trim [(v.natAbs:Int) % 4294967296,(v.natAbs:Int) / 4294967296]),()):=
   ⟨rfl,_,rfl,(dig_two (by omega) (by omega)).trim,trm_trim _,by rw[q1j,nv_two]⟩
  refine qb9 _ ⟨_,key⟩ (q00.2 ⟨fun h=>by simp[notB] at h,fun _=>?_⟩)
  refine (joinR (fun p=>p=(sgn v,(v.natAbs:Int))) ?_ ?_)
  . rintro _ rfl
    refine⟨by omega,?_⟩
    simp only
    rw[qb0 (by omega) (by omega)]
    refine (s_trim (by simp)).mono ?_
    rintro _ rfl
    exact key
  . intro k hk
    refine q00.2 ⟨fun hc=>?_,fun hc=>joinE (q00.2 ⟨fun hd=>?_,fun hd=>?_⟩)⟩
    . have hc:=dec_t hc
      (try simp only at hc)
      refine hk _ ?_
      rw[wu64 (by omega) (by omega),sgn,if_pos hc,show (v.natAbs:Int)=v by omega]
    . have hd:=dec_t hd
      simp only at hd
      refine hk _ ?_
      rw[wi64 (by omega) (by omega),wu64 (by omega) (by omega),sgn,if_neg (by omega),if_pos hd,show (v.natAbs:Int)=0 - v by omega]
    . have hc:=dec_f hc
      have hd:=dec_f hd
      simp only at hc hd
      refine hk _ ?_
      rw[sgn,if_neg hc,if_neg hd,show (v.natAbs:Int)=0 by omega]
end Go.Proofs.Pf
namespace Go.Proofs.Pf
open Go Go.VM
theorem q5e {a b:Int}:0<=cmpI a b↔b<=a:=by
 unfold cmpI;split
 . constructor<;>intro<;>omega
 . split<;>constructor<;>intro<;>omega
theorem cmpI_lt {a b:Int} (h:¬ 0<=cmpI a b):a<b:=by
 rw[q5e] at h;omega
theorem nv_ex:∀ (k:Nat) (a:Nat),a<k->∃ l,Dig l/\Trm l/\nv l=(a:Int)
 | 0,a,h=>by omega
 | k+1,a,h=>by
  by_cases h0:a=0
  . exact⟨[],Dig.nil,fun d hd=>by simp at hd,by simp[nv,h0]⟩
  . by_cases h1:a<4294967296
    . exact⟨[(a:Int)],Dig.cons (by omega) (by omega) Dig.nil,fun d hd=>by simp at hd;omega,by simp[nv]⟩
    . obtain⟨l,q1,q2,q3⟩:=nv_ex k (a / 4294967296) (by omega)
      refine⟨((a % 4294967296:Nat):Int) :: l,Dig.cons (by omega) (by omega) q1,?_,by simp only[nv,q3];omega⟩
      intro d hd
      cases l with
      | nil=>simp only[nv] at q3;omega
      | cons x l=>rw[List.getLast?_cons_cons] at hd;exact q2 d hd
theorem IV_ex (n:Int):∃ r,IV r n:=by
 by_cases h:-4611686018427387904<n/\n<4611686018427387904
 . exact⟨(n,none),rfl,h.1,h.2⟩
 . obtain⟨l,q1,q2,q3⟩:=nv_ex (n.natAbs+1) n.natAbs (by omega)
   by_cases h0:0<n
   . exact⟨(1,some l),q1,q2,by omega,.inl ⟨rfl,by omega⟩⟩
   . exact⟨(-1,some l),q1,q2,by omega,.inr ⟨rfl,by omega⟩⟩
theorem s_Of {n:Int} (h1:-9223372036854775808<=n) (h2:n<9223372036854775808):callV Pg q0T [⟨tI,n⟩] tEI fun r=>IV r n:=by
 have big:∀ s m:Int,4611686018427387904<=m->m<=9223372036854775808->((s=1/\n=m)∨(s = -1/\n = -m))->IV (s,some [m % 4294967296,m / 4294967296]) n:=by
  intro s m h3 h4 h5
  refine⟨dig_two (by omega) (by omega),?_,by rw[nv_two];exact h3,by rw[nv_two];exact h5⟩
  intro d hd
  simp at hd
  omega
 refine qjQ n (IV_ex _) (joinR (fun p=>∃ b:Bool,p=(n,b,(0:Int),none)/\(b=true ↔ -4611686018427387904<n/\n<4611686018427387904)) ?_ ?_)
 . rintro _ ⟨b,rfl,hb⟩
   refine q00.2 ⟨fun h=>?_,fun h=>?_⟩
   . obtain⟨h3,h4⟩:=hb.1 h
     exact⟨rfl,h3,h4⟩
   . have h3:¬ (-4611686018427387904<n/\n<4611686018427387904):=fun h4=>by rw[hb.2 h4] at h;simp at h
     refine joinR (fun p=>∃ s m:Int,p=(s,m,(0:Int),none)/\4611686018427387904<=m/\m<=9223372036854775808/\((s=1/\n=m)∨(s = -1/\n = -m))) ?_ ?_
     . rintro _ ⟨s,m,rfl,q1,q2,q3⟩
       refine⟨by omega,?_⟩
       (try simp only)
       rw[qb0 (by omega) (by omega)]
       exact big s m q1 q2 q3
     . intro k hk
       refine q00.2 ⟨fun h=>?_,fun h=>?_⟩
       . have h:=dec_t h
         (try simp only at h)
         refine hk _ ⟨-1,-n,?_,by omega,by omega,by omega⟩
         simp only[wu64m]
         rw[show ((0:Int) - n % 18446744073709551616) % 18446744073709551616 = -n by omega]
       . have h:=dec_f h
         (try simp only at h)
         refine hk _ ⟨1,n,?_,by omega,by omega,by omega⟩
         (try simp only)
         rw[wu64 (by omega) (by omega)]
 . intro k hk
   refine q00.2 ⟨fun h=>?_,fun h=>?_⟩
   . have h:=dec_t h
     exact hk _ ⟨_,rfl,by simp only[decide_eq_true_eq];omega⟩
   . have h:=dec_f h
     exact hk _ ⟨_,rfl,by simp;omega⟩
theorem made_ok {s:Int} {l:List Int} (hl:Dig l) (hs:s=1∨s = -1∨(s=0/\nv l=0)) (hb:4611686018427387904<=nv l):IV (s,some (trim l)) (s*nv l):=by
 refine⟨hl.trim,trm_trim l,by rw[q1j];exact hb,?_⟩
 rw[q1j]
 rcases hs with rfl | rfl | ⟨_,h⟩
 . left;exact⟨rfl,by omega⟩
 . right;exact⟨rfl,by omega⟩
 . omega
theorem q2h {s:Int} {b:Option (List Int)} (hl:Dig (b.getD [])) (hs:s=1∨s = -1∨(s=0/\nv (b.getD [])=0)) (hlen:(b.getD []).length<=1099511627776):
 callV Pg q0j [⟨tI,s⟩,⟨tD,b⟩] tEI fun r=>IV r (s*nv (b.getD [])):=by
 have hn:=nv_nonneg hl
 have small:nv (b.getD [])<4611686018427387904->IV (s*nv (b.getD []),none) (s*nv (b.getD [])):=by
  intro h
  rcases hs with rfl | rfl | ⟨rfl,h0⟩
  . exact⟨rfl,by omega,by omega⟩
  . exact⟨rfl,by omega,by omega⟩
  . exact⟨rfl,by omega,by omega⟩
 refine qk5 s b (IV_ex _) ((s_trim (by omega)).mono ?_)
 rintro _ rfl
 have fin:4611686018427387904<=nv (b.getD [])->IV (s,b.map trim) (s*nv (b.getD [])):=by
  intro h
  cases b with
  | none=>simp[nv] at h
  | some l=>exact made_ok hl hs h
 have ht:(b.map trim).getD []=trim (b.getD []):=by cases b<;>rfl
 refine joinR (fun p=>4611686018427387904<=nv (b.getD [])/\p.1=s/\p.2.1=b.map trim) ?_ ?_
 . rintro⟨p1,p2,p3⟩ ⟨h,rfl,rfl⟩
   exact fin h
 . intro k hk
   refine q00.2 ⟨fun h=>?_,fun h=>?_⟩
   . have h:=dec_t h
     simp only[szSl,ht] at h
     have hd:=hl.trim
     refine loopE (fun p=>p.1=s/\p.2.1=b.map trim/\p.2.2.2.1=b.map trim/\p.2.2.2.2.1=((trim (b.getD [])).length:Int)/\∃ j:Nat,p.2.2.2.2.2.1=j/\j<=(trim (b.getD [])).length/\p.2.2.1=nv ((trim (b.getD [])).take j)) (fun p=>((trim (b.getD [])).length - p.2.2.2.2.2.1).toNat) ⟨rfl,rfl,rfl,by simp only[szSl,ht],0,rfl,by omega,by simp[nv]⟩ ?_
     rintro⟨q1,q2,q3,q4,q5,q6,q7⟩ ⟨e1,e2,e3,e4,j,e5,e6,e7⟩
     simp only at e1 e2 e3 e4 e5 e7;subst e1 e2 e3 e4 e5 e7
     refine q00.2 ⟨fun hc=>?_,fun hc=>?_⟩
     . have hc:=dec_t hc
       (try simp only at hc)
       have g:=hd.get j
       refine⟨⟨by (try simp only);omega,by simp only[ht];omega⟩,by (try simp only);rw[wi64 (by omega) (by omega)];omega,⟨rfl,rfl,rfl,rfl,j+1,?_,by omega,?_⟩,?_⟩
       . show IntKind.wrap IntKind.i64 ((j:Int)+1)=((j+1:Nat):Int);rw[wi64 (by omega) (by omega)];omega
       . show bitI BinOp.or IntKind.u64 (nv ((trim (b.getD [])).take j)) (shlI IntKind.u64 (IntKind.wrap IntKind.u64 (((b.map trim).getD []).getD ((j:Int)).toNat 0)) (IntKind.wrap IntKind.i64 (32*(j:Int))))=_
         rw[ht,Int.toNat_natCast,wi64 (by omega) (by omega),wu64 g.1 (by omega)]
         have e:(32*(j:Int))=((32*j:Nat):Int):=by omega
         rw[e,shl64 _ _ (by omega),q4d _ _ (by omega)]
         have hp:(2:Int) ^ (32*j)=4294967296 ^ j:=by rw[Int.pow_mul];rfl
         have hj:j=0∨j=1:=by omega
         have htk:=nv_lt (hd.take j)
         have htk0:=nv_nonneg (hd.take j)
         rw[List.length_take,Nat.min_eq_left (by omega)] at htk
         have hb1:(trim (b.getD [])).getD j 0*2 ^ (32*j)<=4294967295*4294967296:=by
          rw[hp];rcases hj with rfl | rfl
          . rw[show (4294967296:Int) ^ 0=1 from rfl];omega
          . rw[show (4294967296:Int) ^ 1=4294967296 from rfl];omega
         have hb2:0<=(trim (b.getD [])).getD j 0*2 ^ (32*j):=Int.mul_nonneg g.1 (Int.pow_nonneg (by decide))
         rw[Int.emod_eq_of_lt hb2 (by omega)]
         have hb3:nv ((trim (b.getD [])).take j)<=4294967295:=by
          rcases hj with rfl | rfl<;>simp at htk ⊢<;>omega
         rw[or64 (32*j) htk0 (by rw[hp];exact htk) g.1 (by omega),hp,Int.mul_comm]
       . show ((trim (b.getD [])).length - IntKind.wrap IntKind.i64 ((j:Int)+1)).toNat<((trim (b.getD [])).length - (j:Int)).toNat
         rw[wi64 (by omega) (by omega)];omega
     . have hc:=dec_f hc
       (try simp only at hc)
       have hj:j=(trim (b.getD [])).length:=by omega
       subst hj
       simp only[List.take_length,q1j]
       refine q00.2 ⟨fun hd=>?_,fun hd=>?_⟩
       . have hd:=dec_t hd
         have:=small hd
         rw[wi64 (x:=nv (b.getD [])) (by omega) (by omega),wi64]
         . exact this
         . have:=this.2.1;omega
         . have:=this.2.2;omega
       . have hd:=dec_f hd
         exact hk _ ⟨by omega,rfl,rfl⟩
   . have h:=dec_f h
     simp only[szSl,ht] at h
     refine hk _ ⟨?_,rfl,rfl⟩
     have hne:trim (b.getD [])≠[]:=by intro e;rw[e] at h;simp at h
     have h1:=(trm_trim (b.getD [])).ge hl.trim hne
     have h2:=pow_mono32 (show 2<=(trim (b.getD [])).length - 1 by omega)
     rw[q1j] at h1
     omega
theorem sgn_ne {n:Int} {P:Prop} (h:¬ sgn n=0):sgn n=1∨sgn n = -1∨P:=by
 unfold sgn at *;split at h<;>(try split at h)<;>simp_all
theorem sgn_z {n:Int} (h:sgn n=0):n=0:=by
 unfold sgn at h
 by_cases h1:0<n
 . rw[if_pos h1] at h;omega
 . rw[if_neg h1] at h
   by_cases h2:n<0
   . rw[if_pos h2] at h;omega
   . omega
theorem sgn3 (n:Int):(sgn n=1/\0<n)∨(sgn n = -1/\n<0)∨(sgn n=0/\n=0):=by
 by_cases h1:0<n
 . exact .inl ⟨if_pos h1,h1⟩
 . by_cases h2:n<0
   . exact .inr (.inl ⟨by rw[sgn,if_neg h1,if_pos h2],h2⟩)
   . exact .inr (.inr ⟨by rw[sgn,if_neg h1,if_neg h2],by omega⟩)
theorem s_Add {x y:Int×Option (List Int)} {n m:Int} {k:Nat} (hx:IV x n) (hy:IV y m) (fx:Fit k n) (fy:Fit k m) (hk:k<=1073741824):callV Pg q2r [⟨tEI,x⟩,⟨tEI,y⟩] tEI fun r=>IV r (n+m):=by
 have big:callV Pg q0w [⟨tEI,x⟩] (.tup (.pair tI (.pair tD .unit))) (fun p1=>(callV Pg q0w [⟨tEI,y⟩] (.tup (.pair tI (.pair tD .unit))) (fun p2=>(brV (decide (p1.1=(0:Int))) (IV y (n+m)) (brV (decide (p2.1=(0:Int))) (IV x (n+m)) (brV (decide (p1.1=p2.1)) (callV Pg q2u [⟨tD,p1.2.1⟩,⟨tD,p2.2.1⟩] tD (fun p3=>(callV Pg q0j [⟨tI,p1.1⟩,⟨tD,p3⟩] tEI (fun p4=>IV p4 (n+m))))) (callV Pg q1O [⟨tD,p1.2.1⟩,⟨tD,p2.2.1⟩] tI (fun p3=>(brV (decide ((0:Int)<=p3)) (callV Pg q1v [⟨tD,p1.2.1⟩,⟨tD,p2.2.1⟩] tD (fun p4=>(callV Pg q0j [⟨tI,p1.1⟩,⟨tD,p4⟩] tEI (fun p5=>IV p5 (n+m))))) (callV Pg q1v [⟨tD,p2.2.1⟩,⟨tD,p1.2.1⟩] tD (fun p4=>(callV Pg q0j [⟨tI,p2.1⟩,⟨tD,p4⟩] tEI (fun p5=>IV p5 (n+m)))))))))))))):=by
  refine (q4q hx).mono ?_
  rintro⟨s,d,_⟩ ⟨e1,l,e2,d1,t1,v1⟩
  simp only at e1 e2;subst e1 e2
  refine (q4q hy).mono ?_
  rintro⟨s,d,_⟩ ⟨e1,l2,e2,d2,t2,v2⟩
  simp only at e1 e2;subst e1 e2
  have l1:=t1.fit d1 fx v1
  have l2':=t2.fit d2 fy v2
  simp only
  refine q00.2 ⟨fun h=>?_,fun h=>q00.2 ⟨fun h2=>?_,fun h2=>q00.2 ⟨fun h3=>?_,fun h3=>?_⟩⟩⟩
  . have h:=dec_t h
    have:n=0:=sgn_z h
    rw[this,Int.zero_add];exact hy
  . have h2:=dec_t h2
    have:m=0:=sgn_z h2
    rw[this,Int.add_zero];exact hx
  . have h:¬ sgn n=0:=dec_f h
    have h3:sgn n=sgn m:=dec_t h3
    refine (s_plus (a:=some l) (b:=some l2) d1 d2 (by simp only[Option.getD_some];omega) (by simp only[Option.getD_some];omega)).mono ?_
    rintro _ ⟨l3,rfl,q1,q2,q3⟩
    simp only[Option.getD_some] at q2 q3
    refine (q2h (b:=some l3) q1 (sgn_ne h) (by simp only[Option.getD_some];omega)).mono ?_
    intro r hr
    have:sgn n*nv l3=n+m:=by
     rw[q2,v1,v2]
     have h2:¬ sgn m=0:=dec_f h2
     clear q1 q2 q3 hr
     rcases sgn3 n with ⟨e1,w1⟩ | ⟨e1,w1⟩ | ⟨e1,w1⟩<;>rcases sgn3 m with ⟨e2,w2⟩ | ⟨e2,w2⟩ | ⟨e2,w2⟩<;>rw[e1]<;>omega
    rw[Option.getD_some,this] at hr
    exact hr
  . have h:¬ sgn n=0:=dec_f h
    have h2:¬ sgn m=0:=dec_f h2
    have h3:¬ sgn n=sgn m:=dec_f h3
    refine (qaO (a:=some l) (b:=some l2) d1 d2 t1 t2 (by simp only[Option.getD_some];omega)).mono ?_
    rintro _ rfl
    simp only[Option.getD_some]
    refine q00.2 ⟨fun h4=>?_,fun h4=>?_⟩
    . have h4:=dec_t h4
      have hle:nv l2<=nv l:=by first | exact q5e.1 h4 | exact Int.le_of_lt (cmpI_lt h4)
      refine (s_minus (a:=some l) (b:=some l2) d1 d2 (by simp only[Option.getD_some];omega) ?_ hle).mono ?_
      . simp only[Option.getD_some]
        rcases Nat.lt_or_ge l.length l2.length with hl | hl
        . have:=q12 d1 d2 t2 hl;omega
        . exact hl
      rintro _ ⟨l3,rfl,q1,q2,q3⟩
      simp only[Option.getD_some] at q2 q3
      refine (q2h (b:=some l3) q1 (sgn_ne h) (by simp only[Option.getD_some];omega)).mono ?_
      intro r hr
      have:sgn n*nv l3=n+m:=by
       rw[q2,v1,v2]
       clear q1 q2 q3 hle h4
       rcases sgn3 n with ⟨e1,w1⟩ | ⟨e1,w1⟩ | ⟨e1,w1⟩<;>rcases sgn3 m with ⟨e2,w2⟩ | ⟨e2,w2⟩ | ⟨e2,w2⟩<;>rw[e1]<;>omega
      rw[Option.getD_some,this] at hr
      exact hr
    . have h4:=dec_f h4
      have hle:nv l<=nv l2:=by first | exact q5e.1 h4 | exact Int.le_of_lt (cmpI_lt h4)
      refine (s_minus (a:=some l2) (b:=some l) d2 d1 (by simp only[Option.getD_some];omega) ?_ hle).mono ?_
      . simp only[Option.getD_some]
        rcases Nat.lt_or_ge l2.length l.length with hl | hl
        . have:=q12 d2 d1 t1 hl;omega
        . exact hl
      rintro _ ⟨l3,rfl,q1,q2,q3⟩
      simp only[Option.getD_some] at q2 q3
      refine (q2h (b:=some l3) q1 (sgn_ne h2) (by simp only[Option.getD_some];omega)).mono ?_
      intro r hr
      have:sgn m*nv l3=n+m:=by
       rw[q2,v1,v2]
       clear q1 q2 q3 hle h4
       rcases sgn3 n with ⟨e1,w1⟩ | ⟨e1,w1⟩ | ⟨e1,w1⟩<;>rcases sgn3 m with ⟨e2,w2⟩ | ⟨e2,w2⟩ | ⟨e2,w2⟩<;>rw[e2]<;>omega
      rw[Option.getD_some,this] at hr
      exact hr
 refine qjK x y (IV_ex _) (joinR (fun p=>p=(Option.isNone x.2 && Option.isNone y.2,x,y,(0:Int),none)) ?_ ?_)
 . rintro _ rfl
   refine q00.2 ⟨fun h=>?_,fun h=>big⟩
   obtain⟨v,d⟩:=x
   obtain⟨w,e⟩:=y
   simp only[Bool.and_eq_true,Option.isNone_iff_eq_none] at h
   obtain⟨rfl,rfl⟩:=h
   obtain⟨rfl,h1,h2⟩:=hx
   obtain⟨rfl,h3,h4⟩:=hy
   simp only at h1 h2 h3 h4 ⊢
   rw[wi64 (by omega) (by omega)]
   exact s_Of (by omega) (by omega)
 . intro k hk
   refine q00.2 ⟨fun h=>hk _ (by rw[h];rfl),fun h=>hk _ (by rw[h];rfl)⟩
def smallI (n b:Int):Int×Bool×Unit:=if n<=b /\ -b<=n then (n,true,()) else (0,false,())
theorem s_Int {x:Int×Option (List Int)} {n b:Int} (hx:IV x n) (h0:0<=b) (hb:b<4611686018427387904):callV Pg q1L [⟨tEI,x⟩,⟨tI,b⟩] (.tup (.pair tI (.pair .bool .unit))) fun r=>r=smallI n b:=by
 obtain⟨v,d⟩:=x
 refine qjL _ b ⟨_,rfl⟩ (joinR (fun p=>(p.1=true/\¬ (n<=b /\ -b<=n))∨(p.1=false/\(n<=b /\ -b<=n)/\p.2.1=n)) ?_ ?_)
 . rintro⟨p,q⟩ h
   refine q00.2 ⟨fun hp=>?_,fun hp=>?_⟩
   . (try simp only at hp);subst hp
     rcases h with ⟨_,h⟩ | ⟨h,_⟩
     . rw[smallI,if_neg h]
     . simp at h
   . (try simp only at hp);subst hp
     rcases h with ⟨h,_⟩ | ⟨_,h,h2⟩
     . simp at h
     . rw[smallI,if_pos h];simp only at h2;rw[h2]
 . intro k hk
   cases d with
   | some l=>
    obtain⟨h1,h2,h3,h4⟩:=hx
    refine q00.2 ⟨fun h=>hk _ (.inl ⟨rfl,by simp only at h4;omega⟩),fun h=>by simp[notB] at h⟩
   | none=>
    obtain⟨rfl,h1,h2⟩:=hx
    simp only at h1 h2 hk ⊢
    refine q00.2 ⟨fun h=>by simp[notB] at h,fun _=>q00.2 ⟨fun h=>?_,fun h=>?_⟩⟩
    . have h:=dec_t h
      exact hk _ (.inl ⟨rfl,by omega⟩)
    . have h:=dec_f h
      rw[wi64 (by omega) (by omega)]
      by_cases h5:v<0 - b
      . exact hk _ (.inl ⟨decide_eq_true h5,by omega⟩)
      . exact hk _ (.inr ⟨decide_eq_false h5,by omega,rfl⟩)
end Go.Proofs.Pf
namespace Go.Proofs.Pf
open Go Go.VM
theorem q5i {a b q r:Int} (h:q*b+r=a) (h0:0<=r) (h1:r<b):q=a / b/\r=a % b:=by
 have hb:0<b:=by omega
 have e:a=r+b*q:=by rw[<-h,Int.mul_comm];omega
 constructor
 . rw[e,Int.add_mul_ediv_left _ _ (by omega),Int.ediv_eq_zero_of_lt h0 h1];omega
 . rw[e,Int.add_mul_emod_self_left,Int.emod_eq_of_lt h0 h1]
def q5P (x:List Int) (y:Int) (r:Option (List Int)×Int×Unit):Prop:=∃ l,r.1=some l/\Dig l/\nv l=nv x / y/\l.length<=x.length/\r.2.1=nv x % y
theorem nv_ex' {a:Int} (h:0<=a) {k:Nat} (hf:Fit k a):∃ l,Dig l/\Trm l/\nv l=a/\l.length<=k:=by
 obtain⟨l,q1,q2,q3⟩:=nv_ex (a.toNat+1) a.toNat (by omega)
 have:nv l=a:=by omega
 exact⟨l,q1,q2,this,q2.fit q1 hf (by omega)⟩
theorem q66 {l:List Int} {j:Nat} {x:Int} (h:j<l.length):(l.set j x).drop j=x :: l.drop (j+1):=by
 rw[List.drop_eq_getElem_cons (by simpa using h)]
 simp[List.drop_set]
theorem s_short {x:Option (List Int)} {y:Int} (hx:Dig (x.getD [])) (h0:0<y) (h1:y<4294967296) (hl:(x.getD []).length<=1099511627776):
 callV Pg q39 [⟨tD,x⟩,⟨tU,y⟩] (.tup (.pair tD (.pair tU .unit))) fun r=>q5P (x.getD []) y r:=by
 have hn:=nv_nonneg hx
 refine qka x y ?_ ⟨?_,?_⟩
 . have hq:0<=nv (x.getD []) / y:=Int.ediv_nonneg hn (by omega)
   have hq2:nv (x.getD []) / y<=nv (x.getD []):=Int.ediv_le_self _ hn
   obtain⟨l,q1,q2,q3,q4⟩:=nv_ex' (k:=(x.getD []).length) hq ((fit_nv hx).of (by omega))
   exact⟨(some l,_,()),l,rfl,q1,q3,q4,rfl⟩
 . simp only[szSl,mkC];omega
 refine loopE (fun p=>p.1=x/\p.2.1=y/\0<=p.2.2.1/\p.2.2.1<y/\∃ (k:Nat) (o:List Int),p.2.2.2.1=(k:Int) - 1/\k<=(x.getD []).length/\p.2.2.2.2=some o/\o.length=(x.getD []).length/\Dig o/\nv (o.drop k)*y+p.2.2.1=nv ((x.getD []).drop k)) (fun p=>(p.2.2.2.1+1).toNat)
  ⟨rfl,rfl,Int.le_refl _,h0,(x.getD []).length,List.replicate (x.getD []).length 0,?_,Nat.le_refl _,?_,by simp,Dig.rep _,?_⟩ ?_
 . show IntKind.wrap IntKind.i64 (((x.getD []).length:Int) - 1)=_;exact wi64 (by omega) (by omega)
 . show some (List.replicate (((x.getD []).length:Int)).toNat 0)=_;rw[Int.toNat_natCast]
 . rw[List.drop_of_length_le (by simp),List.drop_length];simp[nv]
 rintro⟨x',y',rest,i,out⟩ ⟨e1,e2,r0,r1,k,o,e3,hk,e4,hlo,hdo,hinv⟩
 have r0:0<=rest:=r0
 have r1:rest<y:=r1
 have hinv:nv (o.drop k)*y+rest=nv ((x.getD []).drop k):=hinv
 simp only at e1 e2 e3 e4;subst e1 e2 e3 e4
 refine q00.2 ⟨fun hb=>?_,fun hb=>?_⟩
 . have hb:(0:Int)<=(k:Int) - 1:=dec_t hb
   obtain⟨j,rfl⟩:∃ j,k=j+1:=⟨k - 1,by omega⟩
   have ej:(((j+1:Nat):Int) - 1).toNat=j:=by omega
   have g:=hx.get j
   refine⟨⟨by dsimp only;omega,by dsimp only;omega⟩,?_⟩
   have hd:=s_Div32 (a:=rest) (b:=(x'.getD []).getD j 0) (c:=y') r0 g.1 g.2 h1 r1
   simp only[eltS,ej]
   refine hd.mono ?_
   rintro _ rfl
   simp only
   have hm:=Int.mul_ediv_add_emod (rest*4294967296+(x'.getD []).getD j 0) y'
   have hr0:=Int.emod_nonneg (rest*4294967296+(x'.getD []).getD j 0) (show y'≠0 by omega)
   have hr1:=Int.emod_lt_of_pos (rest*4294967296+(x'.getD []).getD j 0) h0
   have hq0:0<=(rest*4294967296+(x'.getD []).getD j 0) / y':=Int.ediv_nonneg (by omega) (by omega)
   have hq1:(rest*4294967296+(x'.getD []).getD j 0) / y'<4294967296:=by
    refine Int.ediv_lt_of_lt_mul h0 ?_
    have:(rest+1)*4294967296<=y'*4294967296:=by omega
    rw[Int.mul_comm 4294967296 y'];omega
   refine⟨⟨by omega,by simp only[Option.getD_some];omega⟩,⟨trivial,trivial,hr0,hr1,j,o.set j ((rest*4294967296+(x'.getD []).getD j 0) / y'),?_,by omega,?_,by simp[hlo],hdo.set j hq0 hq1,?_⟩,?_⟩
   . show IntKind.wrap IntKind.i64 (((j+1:Nat):Int) - 1 - 1)=(j:Int) - 1;rw[wi64 (by omega) (by omega)];omega
   . rfl
   . show nv ((o.set j ((rest*4294967296+(x'.getD []).getD j 0) / y')).drop j)*y'+(rest*4294967296+(x'.getD []).getD j 0) % y'=nv ((x'.getD []).drop j)
     rw[q66 (by omega),q0z (x'.getD []) j (by omega),<-hinv]
     simp only[nv]
     generalize (rest*4294967296+(x'.getD []).getD j 0) / y'=q at *
     generalize (rest*4294967296+(x'.getD []).getD j 0) % y'=r at *
     generalize nv (o.drop (j+1))=z at *
     grind
   . show (IntKind.wrap IntKind.i64 (((j+1:Nat):Int) - 1 - 1)+1).toNat<(((j+1:Nat):Int) - 1+1).toNat;rw[wi64 (by omega) (by omega)];omega
 . have hb:¬ (0:Int)<=(k:Int) - 1:=dec_f hb
   have:k=0:=by omega
   subst this
   simp only[List.drop_zero] at hinv
   obtain⟨q1,q2⟩:=q5i hinv r0 r1
   exact⟨o,rfl,hdo,q1,by omega,q2⟩
end Go.Proofs.Pf
namespace Go.Proofs.Pf
open Go Go.VM
theorem or32 {x y:Int} (n:Nat) (hx:0<=x) (hxn:x<2 ^ n) (hy:0<=y) (hxy:x+y*2 ^ n<4294967296):bitI BinOp.or IntKind.u32 x (y*2 ^ n)=x+y*2 ^ n:=by
 have hp:(0:Int)<2 ^ n:=Int.pow_pos (by decide)
 have hyn:0<=y*2 ^ n:=Int.mul_nonneg hy (Int.le_of_lt hp)
 have hx64:x<2 ^ 32:=by omega
 have hy64:y*2 ^ n<2 ^ 32:=by omega
 rw[bor32,BitVec.toNat_or,bvn 32 hx hx64,bvn 32 hyn hy64]
 have e:x.toNat ||| (y*2 ^ n).toNat=x.toNat+(y*2 ^ n).toNat:=by
  have e1:(y*2 ^ n).toNat=2 ^ n*y.toNat:=by
   rw[Int.toNat_mul hy (Int.le_of_lt hp),Nat.mul_comm]
   congr 1
  rw[e1,Nat.or_comm,Nat.add_comm]
  refine (Nat.two_pow_add_eq_or_of_lt ?_ _).symm
  have:((2:Int) ^ n)=((2 ^ n:Nat):Int):=by simp
  omega
 rw[e,wu32m]
 omega
theorem qb4 {l:List Int} {i k:Nat} {x:Int} (h:k<=i):(l.set i x).take k=l.take k:=by
 rw[List.take_set,List.set_eq_of_length_le]
 simp;omega
theorem q6g {l:List Int} {i:Nat} {x:Int} (h:i<l.length):(l.set i x).getD i 0=x:=by
 simp[List.getD,h]
theorem q1F {l:List Int} {i j:Nat} {x:Int} (h:i≠j):(l.set i x).getD j 0=l.getD j 0:=by
 simp[List.getD,List.getElem?_set_ne h]
theorem shl_digit {x:Int} {n:Nat} (h0:0<=x) (h1:x<4294967296) (hn:n<32):∃ y w:Int,x*2 ^ n=y*2 ^ n+4294967296*w/\0<=y/\y*2 ^ n+2 ^ n<=4294967296/\0<=w/\w<2 ^ n/\(x*2 ^ n) % 4294967296=y*2 ^ n/\(x*2 ^ n) / 4294967296=w:=by
 have e:(4294967296:Int)=2 ^ (32 - n)*2 ^ n:=by rw[<-Int.pow_add,show 32 - n+n=32 by omega];rfl
 have hp:(0:Int)<2 ^ n:=Int.pow_pos (by decide)
 have hq:(0:Int)<2 ^ (32 - n):=Int.pow_pos (by decide)
 have hm0:=Int.emod_nonneg x (show (2:Int) ^ (32 - n)≠0 by omega)
 have hm1:=Int.emod_lt_of_pos x hq
 have hd:=Int.mul_ediv_add_emod x (2 ^ (32 - n))
 have hd0:0<=x / 2 ^ (32 - n):=Int.ediv_nonneg h0 (by omega)
 have hlt:x / 2 ^ (32 - n)<2 ^ n:=Int.ediv_lt_of_lt_mul hq (by rw[Int.mul_comm,<-e];exact h1)
 generalize x % 2 ^ (32 - n)=y at *
 generalize x / 2 ^ (32 - n)=w at *
 have e1:x*2 ^ n=y*2 ^ n+4294967296*w:=by rw[<-hd];grind
 have e2:y*2 ^ n+2 ^ n<=4294967296:=by
  have:(y+1)*2 ^ n<=2 ^ (32 - n)*2 ^ n:=Int.mul_le_mul_of_nonneg_right (by omega) (by omega)
  rw[<-e,Int.add_mul] at this;omega
 have e3:0<=y*2 ^ n:=Int.mul_nonneg hm0 (by omega)
 refine⟨y,w,e1,hm0,e2,hd0,hlt,?_,?_⟩
 . rw[e1,Int.add_mul_emod_self_left,Int.emod_eq_of_lt e3 (by omega)]
 . rw[e1,Int.add_mul_ediv_left _ _ (by decide),Int.ediv_eq_zero_of_lt e3 (by omega)];omega
def ShiftOf (x:List Int) (n:Nat) (r:Option (List Int)):Prop:=∃ l,r=some l/\Dig l/\nv l=nv x*2 ^ n/\l.length=x.length+1
theorem qjw {x o:List Int} {n k:Nat} (hx:Dig x) (hn:n<32) (hk:k<x.length) (hl:o.length=x.length+1) (hd:Dig o) (hi:nv (o.take (k+1))=nv (x.take k)*2 ^ n) (ho:o.getD k 0<2 ^ n):
 bitI BinOp.or IntKind.u32 (o.getD k 0) (IntKind.wrap IntKind.u32 (shlI IntKind.u64 (IntKind.wrap IntKind.u64 (x.getD k 0)) (n:Int)))=o.getD k 0+(x.getD k 0*2 ^ n) % 4294967296 /\
 IntKind.wrap IntKind.u32 (shrI IntKind.u64 (shlI IntKind.u64 (IntKind.wrap IntKind.u64 (x.getD k 0)) (n:Int)) 32)=(x.getD k 0*2 ^ n) / 4294967296 /\
 Dig ((o.set k (o.getD k 0+(x.getD k 0*2 ^ n) % 4294967296)).set (k+1) ((x.getD k 0*2 ^ n) / 4294967296)) /\
 nv (((o.set k (o.getD k 0+(x.getD k 0*2 ^ n) % 4294967296)).set (k+1) ((x.getD k 0*2 ^ n) / 4294967296)).take (k+2))=nv (x.take (k+1))*2 ^ n /\
 ((o.set k (o.getD k 0+(x.getD k 0*2 ^ n) % 4294967296)).set (k+1) ((x.getD k 0*2 ^ n) / 4294967296)).getD (k+1) 0<2 ^ n:=by
 have g:=hx.get k
 have go:=hd.get k
 obtain⟨y,w,q1,q2,q3,q4,q5,q6,q7⟩:=shl_digit g.1 g.2 hn
 have hp:(0:Int)<2 ^ n:=Int.pow_pos (by decide)
 have hy0:0<=y*2 ^ n:=Int.mul_nonneg q2 (by omega)
 have hn2:(2:Int) ^ n<=2147483648:=by
  have e:(2147483648:Int)=2 ^ (31 - n)*2 ^ n:=by rw[<-Int.pow_add,show 31 - n+n=31 by omega];rfl
  have:(0:Int)<2 ^ (31 - n):=Int.pow_pos (by decide)
  have:1*(2:Int) ^ n<=2 ^ (31 - n)*2 ^ n:=Int.mul_le_mul_of_nonneg_right (by omega) (by omega)
  omega
 have esh:shlI IntKind.u64 (IntKind.wrap IntKind.u64 (x.getD k 0)) (n:Int)=x.getD k 0*2 ^ n:=by
  rw[wu64 g.1 (by omega),shl64 _ _ (by omega),Int.emod_eq_of_lt (by omega) (by omega)]
 rw[esh,q6,q7]
 refine⟨?_,?_,?_,?_,?_⟩
 . rw[wu32m,q6];exact or32 n go.1 ho q2 (by omega)
 . rw[q4u,q7];exact wu32 q4 (by omega)
 . exact (hd.set k (by omega) (by omega)).set (k+1) q4 (by omega)
 . rw[q0c,q6g (by simp;omega),q0c,qb4 (by omega),qb4 (Nat.le_refl _),q1F (by omega),q6g (by omega),q0c x]
   rw[q0c] at hi
   rw[Int.add_mul,<-hi,Int.pow_succ]
   generalize o.getD k 0=z at *
   generalize x.getD k 0=v at *
   have:(4294967296:Int) ^ k*v*2 ^ n=4294967296 ^ k*(y*2 ^ n+4294967296*w):=by rw[<-q1];grind
   rw[this]
   generalize y*2 ^ n=u at *
   grind
 . rw[q6g (by simp;omega)];exact q5
theorem shift_ex {x:List Int} {n:Nat} (hx:Dig x) (hn:n<32):∃ r,ShiftOf x n r:=by
 have h1:=nv_lt hx
 have h0:=nv_nonneg hx
 have hp:(0:Int)<2 ^ n:=Int.pow_pos (by decide)
 have hn2:(2:Int) ^ n<=4294967296:=by
  have e:(4294967296:Int)=2 ^ (32 - n)*2 ^ n:=by rw[<-Int.pow_add,show 32 - n+n=32 by omega];rfl
  have:(0:Int)<2 ^ (32 - n):=Int.pow_pos (by decide)
  have:1*(2:Int) ^ n<=2 ^ (32 - n)*2 ^ n:=Int.mul_le_mul_of_nonneg_right (by omega) (by omega)
  omega
 obtain⟨l,q1,q2,q3⟩:=q1g (x.length+1) (nv x*2 ^ n) (Int.mul_nonneg h0 (by omega)) (by
  rw[Int.pow_succ]
  have e1:(nv x+1)*2 ^ n<=4294967296 ^ x.length*2 ^ n:=Int.mul_le_mul_of_nonneg_right (by omega) (by omega)
  have e2:(4294967296:Int) ^ x.length*2 ^ n<=4294967296 ^ x.length*4294967296:=Int.mul_le_mul_of_nonneg_left hn2 (by have:=pow_pos32 x.length;omega)
  have e3:(nv x+1)*2 ^ n=nv x*2 ^ n+2 ^ n:=by rw[Int.add_mul,Int.one_mul]
  omega)
 exact⟨some l,l,rfl,q1,q2,q3⟩
theorem qaQ {x:Option (List Int)} {n:Nat} (hx:Dig (x.getD [])) (hn:n<32) (hl:(x.getD []).length<=1099511627776):ownV Pg q2v [⟨tD,x⟩,⟨tI,(n:Int)⟩] tU fun r=>ShiftOf (x.getD []) n r:=by
 refine qk9 x (n:Int) (shift_ex hx hn) ⟨?_,?_⟩
 . simp only[szSl];rw[wi64 (by omega) (by omega)];simp only[mkC];omega
 refine loopE (fun p=>p.1=(n:Int)/\p.2.1=x/\p.2.2.1=((x.getD []).length:Int)/\∃ (k:Nat) (o:List Int),p.2.2.2.1=k/\k<=(x.getD []).length/\p.2.2.2.2=some o/\o.length=(x.getD []).length+1/\Dig o/\nv (o.take (k+1))=nv ((x.getD []).take k)*2 ^ n/\o.getD k 0<2 ^ n) (fun p=>((x.getD []).length - p.2.2.2.1).toNat)
  ⟨rfl,rfl,rfl,0,List.replicate ((x.getD []).length+1) 0,rfl,by omega,?_,by simp,Dig.rep _,?_,?_⟩ ?_
 . show some (List.replicate (IntKind.wrap IntKind.i64 (((x.getD []).length:Int)+1)).toNat 0)=_
   rw[wi64 (by omega) (by omega)];congr 2
 . simp[nv,List.replicate_succ]
 . have:(0:Int)<2 ^ n:=Int.pow_pos (by decide)
   simpa[List.getD,List.replicate_succ] using this
 rintro⟨n',x',len,i,out⟩ ⟨e1,e2,e3,k,o,e4,hk,e5,hlo,hdo,hi,ho⟩
 dsimp only at e1 e2 e3 e4 e5
 subst e1 e2 e3 e4 e5
 refine q00.2 ⟨fun hb=>?_,fun hb=>?_⟩
 . have hb:(k:Int)<((x'.getD []).length:Int):=dec_t hb
   obtain⟨t1,t2,t3,t4,t5⟩:=qjw hx hn (by omega) hlo hdo hi ho
   have ek:IntKind.wrap IntKind.i64 ((k:Int)+1)=((k+1:Nat):Int):=by rw[wi64 (by omega) (by omega)];omega
   simp only[inS,eltS,eltN,toN,ek,Int.toNat_natCast,Option.getD_some,t1,t2]
   refine⟨⟨by omega,by omega⟩,by omega,⟨by omega,by omega⟩,⟨by omega,by omega⟩,by omega,⟨by omega,?_⟩,⟨trivial,trivial,trivial,k+1,_,rfl,by omega,rfl,by simp[hlo],t3,t4,t5⟩,?_⟩
   . simp[setO];omega
   . omega
 . have hb:¬ (k:Int)<((x'.getD []).length:Int):=dec_f hb
   have:k=(x'.getD []).length:=by omega
   subst this
   rw[List.take_of_length_le (by omega),List.take_length] at hi
   exact⟨o,rfl,hdo,hi,hlo⟩
end Go.Proofs.Pf
namespace Go.Proofs.Pf
open Go Go.VM
set_option maxRecDepth 100000
def qbB:Ann:=let x:Shape:=⟨[(7,.own 36),(10,.own 47)],[.var 6 tI,.var 8 tD,.var 9 tI,.var 11 tI,.var 13 (.int .u64),.arr 36 tU,.arr 47 tU]⟩;(.s (.s (.seq (.reg [] [(2,([],true)),(5,([],true)),(6,([39],false))] none) (.s (.s (.seq (.s (.blk none (.loop ⟨[(7,.own 36),(10,.own 47)],[.var 6 tI,.var 8 tD,.var 9 tI,.var 11 tI,.arr 36 tU,.arr 47 tU]⟩ (.s (.seq (.blk none (.s (.s (.s (.seq (.blk (some x) (.loop ⟨[(7,.own 36),(10,.own 47)],[.var 6 tI,.var 8 tD,.var 9 tI,.var 11 tI,.var 13 (.int .u64),.var 14 (.int .u64),.arr 36 tU,.arr 47 tU]⟩ (.seq (.seq (.reg [] [] (some ⟨[(7,.own 36),(10,.own 47)],[.var 6 tI,.var 8 tD,.var 9 tI,.var 11 tI,.var 13 (.int .u64),.var 14 (.int .u64),.var 113 .bool,.arr 36 tU,.arr 47 tU]⟩)) .nil) .nil))) (.s (.seq (.s (.blk none (.loop ⟨[(7,.own 36),(10,.own 47)],[.var 6 tI,.var 8 tD,.var 9 tI,.var 11 tI,.var 13 (.int .u64),.var 15 (.int .u64),.var 16 (.int .u64),.var 126 tD,.var 127 tI,.var 128 tI,.arr 36 tU,.arr 47 tU]⟩ .nil))) (.s (.s (.seq (.s (.cond (some x) (.s (.s (.seq (.s (.blk none (.loop ⟨[(7,.own 36),(10,.own 47)],[.var 6 tI,.var 8 tD,.var 9 tI,.var 11 tI,.var 13 (.int .u64),.var 22 tU,.var 187 tD,.var 188 tI,.var 189 tI,.arr 36 tU,.arr 47 tU]⟩ .nil))) .nil))) .nil)) .nil)))))))))) .nil))))) (.s (.seq (.s (.blk none (.loop ⟨[(7,.own 36),(10,.own 47),(25,.own 227)],[.var 6 tI,.var 229 tI,.var 230 tI,.arr 36 tU,.arr 47 tU,.arr 227 tU]⟩ .nil))) .nil))))))))
theorem qk4 {Q:(DL×(DL×Unit))->Prop} (a:DL) (b:DL) (hQ:∃ r,Q r) (h:
 (inS b (IntKind.wrap IntKind.i64 ((szSl b) - (1:Int)))/\callV Pg q3d [⟨tU,eltS (0:Int) b (IntKind.wrap IntKind.i64 ((szSl b) - (1:Int)))⟩] tI (fun p0=>ownV Pg q2v [⟨tD,a⟩,⟨tI,p0⟩] tU (fun p1=>ownV Pg q2v [⟨tD,b⟩,⟨tI,p0⟩] tU (fun p2=>callV Pg q1P [⟨tD,p2⟩] tD (fun p3=>mkC 4 (IntKind.wrap IntKind.i64 ((szSl p1) - (szSl p3))) (IntKind.wrap IntKind.i64 ((szSl p1) - (szSl p3)))/\loopV (Int×DL×Int×Int×DL×DL) (fun k4  (i,j,k,l,m,n)=>brV (decide ((0:Int)<=l)) (inS m (IntKind.wrap IntKind.i64 (l+k))/\((0:Int)<=(32:Int))/\inS m (IntKind.wrap IntKind.i64 ((IntKind.wrap IntKind.i64 (l+k)) - (1:Int)))/\inS j (IntKind.wrap IntKind.i64 (k - (1:Int)))/\((IntKind.wrap IntKind.u64 (eltS (0:Int) j (IntKind.wrap IntKind.i64 (k - (1:Int)))))≠(0:Int))/\inS j (IntKind.wrap IntKind.i64 (k - (1:Int)))/\((IntKind.wrap IntKind.u64 (eltS (0:Int) j (IntKind.wrap IntKind.i64 (k - (1:Int)))))≠(0:Int))/\joinV (Int×DL×Int×Int×Int×DL×DL) (fun (o,p,q,r,s,t)=>loopV (Int×DL×Int×Int×Int×Int×Int×DL×Int×Int×DL×DL) (fun k7  (u,v,w,x,y,z,e,f,g,c,d,A)=>brV (decide (c<g)) (inS f c/\((0:Int)<=(32:Int))/\inS d (IntKind.wrap IntKind.i64 (x+c))/\inS d (IntKind.wrap IntKind.i64 (x+c))/\((0:Int)<=(63:Int))/\k7 (u,v,w,x,y,shrI IntKind.u64 (IntKind.wrap IntKind.u64 ((IntKind.wrap IntKind.u64 ((IntKind.wrap IntKind.u64 (eltN (0:Int) d (toN (IntKind.wrap IntKind.i64 (x+c))))) - (IntKind.wrap IntKind.u64 (IntKind.wrap IntKind.u32 (IntKind.wrap IntKind.u64 ((IntKind.wrap IntKind.u64 (y*(IntKind.wrap IntKind.u64 (eltS (0:Int) f c))))+e)))))) - z)) (63:Int),shrI IntKind.u64 (IntKind.wrap IntKind.u64 ((IntKind.wrap IntKind.u64 (y*(IntKind.wrap IntKind.u64 (eltS (0:Int) f c))))+e)) (32:Int),f,g,IntKind.wrap IntKind.i64 (c+(1:Int)),setO d (toN (IntKind.wrap IntKind.i64 (x+c))) (IntKind.wrap IntKind.u32 (IntKind.wrap IntKind.u64 ((IntKind.wrap IntKind.u64 ((IntKind.wrap IntKind.u64 (eltN (0:Int) d (toN (IntKind.wrap IntKind.i64 (x+c))))) - (IntKind.wrap IntKind.u64 (IntKind.wrap IntKind.u32 (IntKind.wrap IntKind.u64 ((IntKind.wrap IntKind.u64 (y*(IntKind.wrap IntKind.u64 (eltS (0:Int) f c))))+e)))))) - z))),A)) (inS d (IntKind.wrap IntKind.i64 (x+w))/\inS d (IntKind.wrap IntKind.i64 (x+w))/\((0:Int)<=(63:Int))/\joinV (Int×DL×Int×Int×Int×DL×DL) (fun (B,C,D,E,F,G,H)=>inS H E/\k4 (B,C,D,IntKind.wrap IntKind.i64 (E - (1:Int)),G,setO H (toN E) (IntKind.wrap IntKind.u32 F))) (fun k9=>brV (decide ((shrI IntKind.u64 (IntKind.wrap IntKind.u64 ((IntKind.wrap IntKind.u64 ((IntKind.wrap IntKind.u64 (eltN (0:Int) d (toN (IntKind.wrap IntKind.i64 (x+w))))) - e)) - z)) (63:Int))=(1:Int))) (loopV (Int×DL×Int×Int×Int×Int×DL×Int×Int×DL×DL) (fun k10  (B,C,D,E,F,G,H,I,J,K,L)=>brV (decide (J<I)) (inS H J/\inS K (IntKind.wrap IntKind.i64 (E+J))/\callV Pg q2x [⟨tU,eltN (0:Int) K (toN (IntKind.wrap IntKind.i64 (E+J)))⟩,⟨tU,eltS (0:Int) H J⟩,⟨tU,G⟩] (.tup (.pair tU (.pair tU .unit))) (fun p12=>inS K (IntKind.wrap IntKind.i64 (E+J))/\k10 (B,C,D,E,F,p12.2.1,H,I,IntKind.wrap IntKind.i64 (J+(1:Int)),setO K (toN (IntKind.wrap IntKind.i64 (E+J))) p12.1,L))) (inS K (IntKind.wrap IntKind.i64 (E+D))/\inS K (IntKind.wrap IntKind.i64 (E+D))/\k9 (B,C,D,E,F,setO K (toN (IntKind.wrap IntKind.i64 (E+D))) (IntKind.wrap IntKind.u32 ((eltN (0:Int) K (toN (IntKind.wrap IntKind.i64 (E+D))))+G)),L))) (u,v,w,x,IntKind.wrap IntKind.u64 (y - (1:Int)),(0:Int),v,szSl v,(0:Int),setO d (toN (IntKind.wrap IntKind.i64 (x+w))) (IntKind.wrap IntKind.u32 (IntKind.wrap IntKind.u64 ((IntKind.wrap IntKind.u64 ((IntKind.wrap IntKind.u64 (eltN (0:Int) d (toN (IntKind.wrap IntKind.i64 (x+w))))) - e)) - z))),A)) (k9 (u,v,w,x,y,setO d (toN (IntKind.wrap IntKind.i64 (x+w))) (IntKind.wrap IntKind.u32 (IntKind.wrap IntKind.u64 ((IntKind.wrap IntKind.u64 ((IntKind.wrap IntKind.u64 (eltN (0:Int) d (toN (IntKind.wrap IntKind.i64 (x+w))))) - e)) - z))),A))))) (o,p,q,r,s,(0:Int),(0:Int),p,szSl p,(0:Int),t)) (fun k6=>loopV (Int×DL×Int×Int×Int×Int×DL×DL) (fun k7  (o,p,q,r,s,t,u,v)=>joinV (Int×DL×Int×Int×Int×Int×Bool×DL×DL) (fun (w,x,y,z,e,f,g,c)=>brV g (inS x (IntKind.wrap IntKind.i64 (y - (1:Int)))/\brV (decide ((4294967296:Int)<=(IntKind.wrap IntKind.u64 (f+(IntKind.wrap IntKind.u64 (eltS (0:Int) x (IntKind.wrap IntKind.i64 (y - (1:Int))))))))) (k6 (w,x,y,z,IntKind.wrap IntKind.u64 (e - (1:Int)),c)) (k7 (w,x,y,z,IntKind.wrap IntKind.u64 (e - (1:Int)),IntKind.wrap IntKind.u64 (f+(IntKind.wrap IntKind.u64 (eltS (0:Int) x (IntKind.wrap IntKind.i64 (y - (1:Int)))))),c))) (k6 (w,x,y,z,e,c))) (fun k9=>brV (decide ((4294967296:Int)<=s)) (k9 (o,p,q,r,s,t,true,u,v)) (inS p (IntKind.wrap IntKind.i64 (q - (2:Int)))/\((0:Int)<=(32:Int))/\inS u (IntKind.wrap IntKind.i64 ((IntKind.wrap IntKind.i64 (r+q)) - (2:Int)))/\k9 (o,p,q,r,s,t,decide ((bitI BinOp.or IntKind.u64 (shlI IntKind.u64 t (32:Int)) (IntKind.wrap IntKind.u64 (eltN (0:Int) u (toN (IntKind.wrap IntKind.i64 ((IntKind.wrap IntKind.i64 (r+q)) - (2:Int)))))))<(IntKind.wrap IntKind.u64 (s*(IntKind.wrap IntKind.u64 (eltS (0:Int) p (IntKind.wrap IntKind.i64 (q - (2:Int)))))))),u,v)))) (i,j,k,l,IntKind.wrap IntKind.u64 (Int.tdiv (bitI BinOp.or IntKind.u64 (shlI IntKind.u64 (IntKind.wrap IntKind.u64 (eltN (0:Int) m (toN (IntKind.wrap IntKind.i64 (l+k))))) (32:Int)) (IntKind.wrap IntKind.u64 (eltN (0:Int) m (toN (IntKind.wrap IntKind.i64 ((IntKind.wrap IntKind.i64 (l+k)) - (1:Int))))))) (IntKind.wrap IntKind.u64 (eltS (0:Int) j (IntKind.wrap IntKind.i64 (k - (1:Int)))))),Int.tmod (bitI BinOp.or IntKind.u64 (shlI IntKind.u64 (IntKind.wrap IntKind.u64 (eltN (0:Int) m (toN (IntKind.wrap IntKind.i64 (l+k))))) (32:Int)) (IntKind.wrap IntKind.u64 (eltN (0:Int) m (toN (IntKind.wrap IntKind.i64 ((IntKind.wrap IntKind.i64 (l+k)) - (1:Int))))))) (IntKind.wrap IntKind.u64 (eltS (0:Int) j (IntKind.wrap IntKind.i64 (k - (1:Int))))),m,n))) (mkC 4 k k/\loopV (Int×Int×Int×DL×DL×DL) (fun k6  (o,p,q,r,s,t)=>brV (decide (q<p)) (inS r q/\inS r (IntKind.wrap IntKind.i64 (q+(1:Int)))/\((0:Int)<=(32:Int))/\((0:Int)<=o)/\inS t q/\k6 (o,p,IntKind.wrap IntKind.i64 (q+(1:Int)),r,s,setO t (toN q) (IntKind.wrap IntKind.u32 (shrI IntKind.u64 (bitI BinOp.or IntKind.u64 (IntKind.wrap IntKind.u64 (eltN (0:Int) r (toN q))) (shlI IntKind.u64 (IntKind.wrap IntKind.u64 (eltN (0:Int) r (toN (IntKind.wrap IntKind.i64 (q+(1:Int)))))) (32:Int))) o)))) (Q (s,t,()))) (i,szSl (some (repS k (0:Int))),(0:Int),m,n,some (repS k (0:Int))))) (p0,p3,szSl p3,IntKind.wrap IntKind.i64 ((IntKind.wrap IntKind.i64 ((szSl p1) - (szSl p3))) - (1:Int)),p1,some (repS (IntKind.wrap IntKind.i64 ((szSl p1) - (szSl p3))) (0:Int))))))))):
 callV Pg q37 [⟨tD,a⟩,⟨tD,b⟩] (.tup (.pair tD (.pair tD .unit))) Q:=
 q02 (c:=q01 q7U) (ann:=qbB) qew rfl qhk rfl rfl hQ (kcast (by kernel_rfl) h)
def qbi:Ann:=(.s (.seq (.seq (.reg [] [] (some ⟨[(2,.ref 2 0),(3,.ref 3 0),(4,.ref 4 0)],[.var 24 .bool,.box 2 tEI,.box 3 tEI,.box 4 tEI]⟩)) (.cond (some ⟨[(2,.ref 2 0),(3,.ref 3 0),(4,.ref 4 0)],[.box 2 tEI,.box 3 tEI,.box 4 tEI]⟩) (.s (.seq (.reg [] [] (some ⟨[(2,.ref 2 0),(3,.ref 3 0),(4,.ref 4 0)],[.var 6 (.int .u64),.var 48 .bool,.box 2 tEI,.box 3 tEI,.box 4 tEI]⟩)) .nil)) .nil)) (.s (.s (.s (.seq (.s (.blk none (.loop ⟨[(4,.ref 4 0),(11,.own 73)],[.var 7 tI,.var 9 tI,.var 10 tD,.var 74 tD,.var 75 tI,.var 76 tI,.box 4 tEI,.arr 73 tU]⟩ (.s (.s (.seq (.blk none (.s (.s (.seq (.s (.blk none (.loop ⟨[(4,.ref 4 0),(11,.own 73)],[.var 7 tI,.var 9 tI,.var 10 tD,.var 12 tI,.var 13 tU,.var 14 (.int .u64),.var 74 tD,.var 75 tI,.var 76 tI,.var 81 tD,.var 82 tI,.var 83 tI,.box 4 tEI,.arr 73 tU]⟩ .nil))) .nil)))) .nil)))))) (.seq (.reg [] [(4,([73],false))] none) .nil)))))))
theorem qjM {Q:DE->Prop} (a:DE) (b:DE) (hQ:∃ r,Q r) (h:
 (joinV (Bool×DE×DR) (fun (i,j,k)=>joinV (DE×DR) (fun (l,m)=>callV Pg q0w [⟨tEI,l⟩] (.tup (.pair tI (.pair tD .unit))) (fun p2=>callV Pg q0w [⟨tEI,m.1⟩] (.tup (.pair tI (.pair tD .unit))) (fun p3=>mkC 4 (IntKind.wrap IntKind.i64 ((szSl p2.2.1)+(szSl p3.2.1))) (IntKind.wrap IntKind.i64 ((szSl p2.2.1)+(szSl p3.2.1)))/\loopV (Int×Int×DL×DL×Int×Int×DE×DL) (fun k4  (n,o,p,q,r,s,t,u)=>brV (decide (s<r)) (inS q s/\loopV (Int×Int×DL×Int×Int×Int×DL×Int×Int×DL×Int×Int×DE×DL) (fun k6  (v,w,x,y,z,e,f,g,c,d,A,B,C,D)=>brV (decide (B<A)) (inS d B/\inS D (IntKind.wrap IntKind.i64 (y+B))/\inS D (IntKind.wrap IntKind.i64 (y+B))/\((0:Int)<=(32:Int))/\k6 (v,w,x,y,z,shrI IntKind.u64 (IntKind.wrap IntKind.u64 (e+(IntKind.wrap IntKind.u64 ((IntKind.wrap IntKind.u64 ((IntKind.wrap IntKind.u64 z)*(IntKind.wrap IntKind.u64 (eltS (0:Int) d B))))+(IntKind.wrap IntKind.u64 (eltN (0:Int) D (toN (IntKind.wrap IntKind.i64 (y+B))))))))) (32:Int),f,g,c,d,A,IntKind.wrap IntKind.i64 (B+(1:Int)),C,setO D (toN (IntKind.wrap IntKind.i64 (y+B))) (IntKind.wrap IntKind.u32 (IntKind.wrap IntKind.u64 (e+(IntKind.wrap IntKind.u64 ((IntKind.wrap IntKind.u64 ((IntKind.wrap IntKind.u64 z)*(IntKind.wrap IntKind.u64 (eltS (0:Int) d B))))+(IntKind.wrap IntKind.u64 (eltN (0:Int) D (toN (IntKind.wrap IntKind.i64 (y+B)))))))))))) (inS D (IntKind.wrap IntKind.i64 (y+(szSl x)))/\k4 (v,w,x,f,g,IntKind.wrap IntKind.i64 (c+(1:Int)),C,setO D (toN (IntKind.wrap IntKind.i64 (y+(szSl x)))) (IntKind.wrap IntKind.u32 e)))) (n,o,p,s,eltS (0:Int) q s,(0:Int),q,r,s,p,szSl p,(0:Int),t,u)) (callV Pg q0j [⟨tI,IntKind.wrap IntKind.i64 (n*o)⟩,⟨tD,u⟩] tEI (fun p6=>Q p6))) (p2.1,p3.1,p3.2.1,p2.2.1,szSl p2.2.1,(0:Int),m.2,some (repS (IntKind.wrap IntKind.i64 ((szSl p2.2.1)+(szSl p3.2.1))) (0:Int)))))) (fun k1=>brV i (callV Pg q3h [⟨.int .u64,IntKind.wrap IntKind.u64 (maxI j.1 (IntKind.wrap IntKind.i64 ((0:Int) - j.1)))⟩,⟨.int .u64,IntKind.wrap IntKind.u64 (maxI k.1.1 (IntKind.wrap IntKind.i64 ((0:Int) - k.1.1)))⟩] (.tup (.pair (.int .u64) (.pair (.int .u64) .unit))) (fun p2=>joinV (Int×Bool×DE×DR) (fun (l,m,n,o)=>brV m (callV Pg q0S [⟨tEI,n⟩] tI (fun p4=>callV Pg q0S [⟨tEI,o.1⟩] tI (fun p5=>Q (IntKind.wrap IntKind.i64 ((IntKind.wrap IntKind.i64 (p4*p5))*(IntKind.wrap IntKind.i64 l)),none)))) (k1 (n,o))) (fun k3=>brV (decide (p2.1=(0:Int))) (k3 (p2.2.1,decide (p2.2.1<(4611686018427387904:Int)),j,k)) (k3 (p2.2.1,false,j,k))))) (k1 (j,k)))) (fun k0=>brV (Option.isNone a.2) (k0 (Option.isNone b.2,a,b,(0:Int),none)) (k0 (false,a,b,(0:Int),none))))):
 callV Pg q0v [⟨tEI,a⟩,⟨tEI,b⟩] tEI Q:=
 q02 (c:=q01 q7B) (ann:=qbi) qed rfl qh1 rfl rfl hQ (kcast (by kernel_rfl) h)
end Go.Proofs.Pf
namespace Go.Proofs.Pf
open Go Go.VM
theorem q4K {p q z c:Int} (hp:0<=p) (hp':p<4294967296) (hq:0<=q) (hq':q<4294967296) (hz:0<=z) (hz':z<4294967296) (hc:0<=c) (hc':c<4294967296):
 0<=p*q+z+c/\p*q+z+c<18446744073709551616/\IntKind.wrap IntKind.u64 (c+IntKind.wrap IntKind.u64 (IntKind.wrap IntKind.u64 (IntKind.wrap IntKind.u64 p*IntKind.wrap IntKind.u64 q)+IntKind.wrap IntKind.u64 z))=p*q+z+c:=by
 have h0:0<=p*q:=Int.mul_nonneg hp hq
 have h1:p*q<=4294967295*4294967295:=Int.mul_le_mul (by omega) (by omega) hq (by omega)
 rw[wu64 hp (by omega),wu64 hq (by omega),wu64 hz (by omega)]
 generalize p*q=m at *
 rw[wu64 h0 (by omega),wu64 (x:=m+z) (by omega) (by omega),wu64 (by omega) (by omega)]
 omega
structure MInv (x y:List Int) (i:Nat) (o:List Int):Prop where
 len:o.length=x.length+y.length
 dig:Dig o
 val:nv o=nv (x.take i)*nv y
 zero:∀ j,i+y.length<=j->o.getD j 0=0
structure MIn (x y:List Int) (i k:Nat) (c:Int) (o:List Int):Prop where
 len:o.length=x.length+y.length
 dig:Dig o
 c0:0<=c
 c1:c<4294967296
 val:nv o+4294967296 ^ (i+k)*c=nv (x.take i)*nv y+4294967296 ^ i*x.getD i 0*nv (y.take k)
 zero:∀ j,i+y.length<=j->o.getD j 0=0
theorem MIn.start {x y:List Int} {i:Nat} {o:List Int} (h:MInv x y i o):MIn x y i 0 0 o:=⟨h.len,h.dig,Int.le_refl _,by decide,by simp[nv,h.val],h.zero⟩
theorem MIn.step {x y:List Int} {i k:Nat} {c:Int} {o:List Int} (hx:Dig x) (hy:Dig y) (hi:i<x.length) (hk:k<y.length) (h:MIn x y i k c o):
 MIn x y i (k+1) ((x.getD i 0*y.getD k 0+o.getD (i+k) 0+c) / 4294967296) (o.set (i+k) ((x.getD i 0*y.getD k 0+o.getD (i+k) 0+c) % 4294967296)):=by
 have gx:=hx.get i
 have gy:=hy.get k
 have go:=h.dig.get (i+k)
 have hl:=h.len
 obtain⟨m1,m2,_⟩:=q4K gx.1 gx.2 gy.1 gy.2 go.1 go.2 h.c0 h.c1
 refine⟨by simp[hl],h.dig.set _ (by omega) (by omega),by omega,by omega,?_,fun j hj=>?_⟩
 . rw[q0N _ _ _ (by omega),q0c]
   have hv:=h.val
   have hdm:=Int.emod_add_mul_ediv (x.getD i 0*y.getD k 0+o.getD (i+k) 0+c) 4294967296
   generalize (x.getD i 0*y.getD k 0+o.getD (i+k) 0+c) % 4294967296=d at *
   generalize (x.getD i 0*y.getD k 0+o.getD (i+k) 0+c) / 4294967296=e at *
   have e1:(4294967296:Int) ^ (i+(k+1))=4294967296 ^ (i+k)*4294967296:=by rw[<-Nat.add_assoc,Int.pow_succ]
   have e2:(4294967296:Int) ^ (i+k)=4294967296 ^ i*4294967296 ^ k:=Int.pow_add ..
   rw[e1]
   rw[e2] at hv ⊢
   generalize (4294967296:Int) ^ i=bi at *
   generalize (4294967296:Int) ^ k=bk at *
   grind
 . rw[q1F (by omega)];exact h.zero j hj
theorem MIn.fin {x y:List Int} {i:Nat} {c:Int} {o:List Int} (hi:i<x.length) (h:MIn x y i y.length c o):MInv x y (i+1) (o.set (i+y.length) c):=by
 have hl:=h.len
 refine⟨by simp[hl],h.dig.set _ h.c0 h.c1,?_,fun j hj=>?_⟩
 . rw[q0N _ _ _ (by omega),h.zero _ (Nat.le_refl _),q0c]
   have hv:=h.val
   rw[List.take_length] at hv
   grind
 . rw[q1F (by omega)];exact h.zero j (by omega)
theorem q6P (n m:Int):sgn (n*m)=sgn n*sgn m:=by
 rcases sgn3 n with ⟨e1,h1⟩ | ⟨e1,h1⟩ | ⟨e1,h1⟩<;>rcases sgn3 m with ⟨e2,h2⟩ | ⟨e2,h2⟩ | ⟨e2,h2⟩<;>rw[e1,e2]
 . have:=Int.mul_pos h1 h2;rw[sgn,if_pos this];rfl
 . have:=Int.mul_neg_of_pos_of_neg h1 h2;rw[sgn,if_neg (by omega),if_pos this];rfl
 . rw[h2];simp[sgn]
 . have:=Int.mul_neg_of_neg_of_pos h1 h2;rw[sgn,if_neg (by omega),if_pos this];rfl
 . have:=Int.mul_pos_of_neg_of_neg h1 h2;rw[sgn,if_pos this];rfl
 . rw[h2];simp[sgn]
 . rw[h1];simp[sgn]
 . rw[h1];simp[sgn]
 . rw[h1];simp[sgn]
theorem q6O (n:Int):sgn n*n.natAbs=n:=by
 rcases sgn3 n with ⟨e1,h1⟩ | ⟨e1,h1⟩ | ⟨e1,h1⟩<;>rw[e1]<;>omega
theorem sgn_cases (n:Int):sgn n=1∨sgn n = -1∨(sgn n=0/\n=0):=by
 rcases sgn3 n with ⟨e1,h1⟩ | ⟨e1,h1⟩ | ⟨e1,h1⟩
 . exact .inl e1
 . exact .inr (.inl e1)
 . exact .inr (.inr ⟨e1,h1⟩)
theorem s_Mul {x y:Int×Option (List Int)} {n m:Int} {k j:Nat} (hx:IV x n) (hy:IV y m) (fx:Fit k n) (fy:Fit j m) (hk:k<=1073741824) (hj:j<=1073741824):callV Pg q0v [⟨tEI,x⟩,⟨tEI,y⟩] tEI fun r=>IV r (n*m):=by
 refine qjM x y (IV_ex _) (joinR (fun p=>p=(Option.isNone x.2 && Option.isNone y.2,x,y,(0:Int),none)) ?_ ?_)
 . rintro _ rfl
   refine joinR (fun p=>p=(x,y,(0:Int),none)) ?_ ?_
   . rintro _ rfl
     dsimp only
     refine (q4q hx).mono ?_
     rintro⟨s,d,_⟩ ⟨e1,X,e2,d1,t1,v1⟩
     dsimp only at e1 e2;subst e1 e2
     refine (q4q hy).mono ?_
     rintro⟨s,d,_⟩ ⟨e1,Y,e2,d2,t2,v2⟩
     dsimp only at e1 e2;subst e1 e2
     have l1:=t1.fit d1 fx v1
     have l2:=t2.fit d2 fy v2
     have el:IntKind.wrap IntKind.i64 ((X.length:Int)+(Y.length:Int))=(X.length:Int)+(Y.length:Int):=wi64 (by omega) (by omega)
     refine⟨?_,?_⟩
     . show mkC 4 (IntKind.wrap IntKind.i64 ((X.length:Int)+(Y.length:Int))) (IntKind.wrap IntKind.i64 ((X.length:Int)+(Y.length:Int)))
       rw[el];simp only[mkC];omega
     refine loopE (fun p=>∃ (i:Nat) (o:List Int),i<=X.length/\MInv X Y i o/\p=(sgn n,sgn m,some Y,some X,(X.length:Int),(i:Int),((0:Int),none),some o)) (fun p=>((X.length:Int) - p.2.2.2.2.2.1).toNat) ⟨0,List.replicate (X.length+Y.length) 0,by omega,⟨by simp,Dig.rep _,by rw[q4c];simp[nv],fun j _=>?_⟩,?_⟩ ?_
     . simp only[List.getD,List.getElem?_replicate];split<;>rfl
     . show (sgn n,sgn m,some Y,some X,(X.length:Int),(0:Int),((0:Int),none),some (List.replicate (IntKind.wrap IntKind.i64 ((X.length:Int)+(Y.length:Int))).toNat 0))=_
       rw[el]
       have:((X.length:Int)+(Y.length:Int)).toNat=X.length+Y.length:=by omega
       rw[this];rfl
     rintro _ ⟨i,o,hi,hI,rfl⟩
     refine q00.2 ⟨fun hb=>?_,fun hb=>?_⟩
     . have hb:(i:Int)<(X.length:Int):=dec_t hb
       refine⟨⟨by dsimp only;omega,by dsimp only[Option.getD_some];omega⟩,?_⟩
       dsimp only
       simp only[eltS,Option.getD_some,Int.toNat_natCast,szSl]
       refine loopE (fun p=>∃ (k:Nat) (c:Int) (o:List Int),k<=Y.length/\MIn X Y i k c o/\p=(sgn n,sgn m,some Y,(i:Int),X.getD i 0,c,some X,(X.length:Int),(i:Int),some Y,(Y.length:Int),(k:Int),((0:Int),none),some o)) (fun p=>((Y.length:Int) - p.2.2.2.2.2.2.2.2.2.2.2.1).toNat) ⟨0,0,o,by omega,MIn.start hI,rfl⟩ ?_
       rintro _ ⟨k,c,o,hk',hM,rfl⟩
       have hl:=hM.len
       refine q00.2 ⟨fun hc=>?_,fun hc=>?_⟩
       . have hc:(k:Int)<(Y.length:Int):=dec_t hc
         have ei:IntKind.wrap IntKind.i64 ((i:Int)+(k:Int))=((i+k:Nat):Int):=by rw[wi64 (by omega) (by omega)];omega
         have ek:IntKind.wrap IntKind.i64 ((k:Int)+1)=((k+1:Nat):Int):=by rw[wi64 (by omega) (by omega)];omega
         have gx:=d1.get i
         have gy:=d2.get k
         have go:=hM.dig.get (i+k)
         obtain⟨m1,m2,m3⟩:=q4K gx.1 gx.2 gy.1 gy.2 go.1 go.2 hM.c0 hM.c1
         have hst:=hM.step d1 d2 (by omega) (by omega)
         simp only[inS,eltN,toN,Option.getD_some,Int.toNat_natCast,ei,ek,m3,q4u,wu32m]
         refine⟨⟨by omega,by omega⟩,⟨by omega,by omega⟩,⟨by omega,by omega⟩,by omega,⟨k+1,_,_,by omega,hst,rfl⟩,by omega⟩
       . have hc:¬ (k:Int)<(Y.length:Int):=dec_f hc
         have:k=Y.length:=by omega
         subst this
         have ei:IntKind.wrap IntKind.i64 ((i:Int)+(Y.length:Int))=((i+Y.length:Nat):Int):=by rw[wi64 (by omega) (by omega)];omega
         have ek:IntKind.wrap IntKind.i64 ((i:Int)+1)=((i+1:Nat):Int):=by rw[wi64 (by omega) (by omega)];omega
         have hf:=hM.fin (by omega)
         simp only[inS,toN,Option.getD_some,Int.toNat_natCast,ei,ek,wu32 hM.c0 hM.c1]
         refine⟨⟨by omega,by omega⟩,⟨i+1,_,by omega,hf,rfl⟩,by omega⟩
     . have hb:¬ (i:Int)<(X.length:Int):=dec_f hb
       have:i=X.length:=by omega
       subst this
       have hv:=hI.val
       rw[List.take_length,v1,v2] at hv
       have es:IntKind.wrap IntKind.i64 (sgn n*sgn m)=sgn (n*m):=by
        rw[q6P]
        rcases sgn_cases n with e1 | e1 | ⟨e1,_⟩<;>rcases sgn_cases m with e2 | e2 | ⟨e2,_⟩<;>rw[e1,e2]<;>rfl
       dsimp only
       rw[es]
       have hln:=hI.len
       refine (q2h (b:=some o) hI.dig ?_ (by simp only[Option.getD_some];omega)).mono ?_
       . rcases sgn_cases (n*m) with e | e | ⟨e,e0⟩
         . exact .inl e
         . exact .inr (.inl e)
         . refine .inr (.inr ⟨e,?_⟩)
           rw[Option.getD_some,hv]
           rcases Int.mul_eq_zero.1 e0 with rfl | rfl<;>simp
       . intro r hr
         rw[Option.getD_some,hv] at hr
         have:sgn (n*m)*((n.natAbs:Int)*(m.natAbs:Int))=n*m:=by
          have:=q6O (n*m)
          rw[Int.natAbs_mul] at this
          simpa using this
         rw[this] at hr
         exact hr
   . intro k1 hk1
     refine q00.2 ⟨fun h=>?_,fun h=>hk1 _ rfl⟩
     obtain⟨v,d⟩:=x
     obtain⟨w,e⟩:=y
     simp only[Bool.and_eq_true,Option.isNone_iff_eq_none] at h
     obtain⟨rfl,rfl⟩:=h
     have hx':=hx
     have hy':=hy
     obtain⟨rfl,h1,h2⟩:=hx
     obtain⟨rfl,h3,h4⟩:=hy
     dsimp only at h1 h2 h3 h4 hk1 hx' hy' ⊢
     have ab:∀ v:Int,-4611686018427387904<v->v<4611686018427387904->IntKind.wrap IntKind.u64 (maxI v (IntKind.wrap IntKind.i64 (0 - v)))=(v.natAbs:Int):=by
      intro v h1 h2
      rw[wi64 (by omega) (by omega)]
      unfold maxI
      split
      . rw[wu64 (by omega) (by omega)];omega
      . rw[wu64 (by omega) (by omega)];omega
     rw[ab v h1 h2,ab w h3 h4]
     have hp:(v.natAbs:Int)*(w.natAbs:Int)=((v*w).natAbs:Int):=by rw[Int.natAbs_mul];simp
     refine (s_Mul64 (by omega) (by omega) (by omega) (by omega)).mono ?_
     rintro _ rfl
     rw[hp]
     refine joinR (fun p=>∃ b:Bool,p=(((v*w).natAbs:Int) % 18446744073709551616,b,(v,none),(w,none),(0:Int),none)/\(b=true->((v*w).natAbs:Int)<4611686018427387904)) ?_ ?_
     . rintro _ ⟨b,rfl,hb⟩
       refine q00.2 ⟨fun h=>?_,fun h=>hk1 _ rfl⟩
       have hb:=hb h
       refine (q2Y hx').mono ?_
       rintro _ rfl
       refine (q2Y hy').mono ?_
       rintro _ rfl
       dsimp only
       have es:IntKind.wrap IntKind.i64 (sgn v*sgn w)=sgn (v*w):=by
        rw[q6P]
        rcases sgn_cases v with e1 | e1 | ⟨e1,_⟩<;>rcases sgn_cases w with e2 | e2 | ⟨e2,_⟩<;>rw[e1,e2]<;>rfl
       rw[es,Int.emod_eq_of_lt (by omega) (by omega),wi64 (x:=((v*w).natAbs:Int)) (by omega) (by omega),q6O,wi64 (by omega) (by omega)]
       exact⟨rfl,by omega,by omega⟩
     . intro k hk
       refine q00.2 ⟨fun h=>?_,fun h=>?_⟩
       . have h:((v*w).natAbs:Int) / 18446744073709551616=0:=dec_t h
         refine hk _ ⟨_,rfl,fun hb=>?_⟩
         have hb:((v*w).natAbs:Int) % 18446744073709551616<4611686018427387904:=dec_t hb
         omega
       . exact hk _ ⟨false,rfl,fun hb=>by simp at hb⟩
 . intro k hk
   refine q00.2 ⟨fun h=>hk _ (by rw[h];rfl),fun h=>hk _ (by rw[h];rfl)⟩
end Go.Proofs.Pf
namespace Go.Proofs.Pf
open Go Go.VM
def LongOf (x y:List Int) (r:Option (List Int)×Option (List Int)×Unit):Prop:=
 (∃ l,r.1=some l/\Dig l/\nv l=nv x / nv y/\l.length<=x.length+1)/\∃ l,r.2.1=some l/\Dig l/\nv l=nv x % nv y/\l.length<=y.length
def LongS:Prop:=∀ (x y:List Int),Dig x->Dig y->Trm y->2<=y.length->y.length<=x.length->x.length<=1073741824->
 callV Pg q37 [⟨tD,some x⟩,⟨tD,some y⟩] (.tup (.pair tD (.pair tD .unit))) fun r=>LongOf x y r
def QuoOf (n m:Int) (r:(Int×Option (List Int))×(Int×Option (List Int))×Unit):Prop:=IV r.1 (n.tdiv m)/\IV r.2.1 (n.tmod m)
theorem quo_sgn (n m:Int) (hm:m≠0):sgn n*sgn m*((n.natAbs:Int) / (m.natAbs:Int))=n.tdiv m/\sgn n*((n.natAbs:Int) % (m.natAbs:Int))=n.tmod m:=by
 have hn:=sgn3 n
 have hm':=sgn3 m
 have key:∀ a b:Int,0<=a->a.tdiv b=a / b/\a.tmod b=a % b:=fun a b h=>⟨Int.tdiv_eq_ediv_of_nonneg h,Int.tmod_eq_emod_of_nonneg h⟩
 rcases hn with ⟨e1,h1⟩ | ⟨e1,h1⟩ | ⟨e1,h1⟩<;>rcases hm' with ⟨e2,h2⟩ | ⟨e2,h2⟩ | ⟨e2,h2⟩<;>rw[e1,e2]
 . rw[show (n.natAbs:Int)=n by omega,show (m.natAbs:Int)=m by omega,(key n m (by omega)).1,(key n m (by omega)).2];omega
 . rw[show (n.natAbs:Int)=n by omega,show (m.natAbs:Int) = -m by omega]
   obtain⟨m',rfl⟩:∃ m',m = -m':=⟨-m,by omega⟩
   rw[Int.tdiv_neg,Int.tmod_neg,Int.neg_neg,(key n m' (by omega)).1,(key n m' (by omega)).2];omega
 . exact absurd h2 hm
 . obtain⟨n',rfl⟩:∃ n',n = -n':=⟨-n,by omega⟩
   rw[show ((-n').natAbs:Int)=n' by omega,show (m.natAbs:Int)=m by omega]
   rw[Int.neg_tdiv,Int.neg_tmod,(key n' m (by omega)).1,(key n' m (by omega)).2];omega
 . obtain⟨n',rfl⟩:∃ n',n = -n':=⟨-n,by omega⟩
   obtain⟨m',rfl⟩:∃ m',m = -m':=⟨-m,by omega⟩
   rw[show ((-n').natAbs:Int)=n' by omega,show ((-m').natAbs:Int)=m' by omega]
   rw[Int.neg_tdiv,Int.neg_tmod,Int.tdiv_neg,Int.tmod_neg,(key n' m' (by omega)).1,(key n' m' (by omega)).2];omega
 . exact absurd h2 hm
 all_goals (subst h1;simp)
theorem q5f {a b:Int}:cmpI a b<0↔a<b:=by
 unfold cmpI;split
 . constructor<;>intro<;>omega
 . split<;>constructor<;>intro<;>omega
theorem s_Quo (hlong:LongS) {x y:Int×Option (List Int)} {n m:Int} {k:Nat} (hx:IV x n) (hy:IV y m) (hm:m≠0) (fx:Fit k n) (hk:k<=1073741824):callV Pg q1M [⟨tEI,x⟩,⟨tEI,y⟩] (.tup (.pair tEI (.pair tEI .unit))) fun r=>QuoOf n m r:=by
 obtain⟨y1,y2⟩:=quo_sgn n m hm
 refine qjO x y ?_ (joinR (fun p=>p=(Option.isNone x.2 && Option.isNone y.2,x,y,((0:Int),none),((0:Int),none))) ?_ ?_)
 . obtain⟨r1,h1⟩:=IV_ex (n.tdiv m)
   obtain⟨r2,h2⟩:=IV_ex (n.tmod m)
   exact⟨(r1,r2,()),h1,h2⟩
 . rintro _ rfl
   refine q00.2 ⟨fun h=>?_,fun _=>?_⟩
   . obtain⟨v,d⟩:=x
     obtain⟨w,e⟩:=y
     simp only[Bool.and_eq_true,Option.isNone_iff_eq_none] at h
     obtain⟨rfl,rfl⟩:=h
     obtain⟨rfl,h1,h2⟩:=hx
     obtain⟨rfl,h3,h4⟩:=hy
     dsimp only at h1 h2 h3 h4 hm ⊢
     have q1:(v.tdiv w).natAbs<=v.natAbs:=by rw[Int.natAbs_tdiv];exact Nat.div_le_self _ _
     have q2:(v.tmod w).natAbs<=v.natAbs:=by rw[Int.natAbs_tmod];exact Nat.mod_le _ _
     refine⟨hm,hm,⟨?_,by omega,by omega⟩,rfl,by omega,by omega⟩
     exact wi64 (by omega) (by omega)
   . (try dsimp only)
     refine (q4q hx).mono ?_
     rintro⟨s,d,_⟩ ⟨e1,X,e2,d1,t1,v1⟩
     dsimp only at e1 e2;subst e1 e2
     refine (q4q hy).mono ?_
     rintro⟨s,d,_⟩ ⟨e1,Y,e2,d2,t2,v2⟩
     dsimp only at e1 e2;subst e1 e2
     have l1:=t1.fit d1 fx v1
     have hY:Y≠[]:=by rintro rfl;simp only[nv] at v2;omega
     refine (qaO (a:=some X) (b:=some Y) d1 d2 t1 t2 (by simp only[Option.getD_some];omega)).mono ?_
     rintro _ rfl
     simp only[Option.getD_some]
     refine q00.2 ⟨fun h=>?_,fun h=>?_⟩
     . have h:cmpI (nv X) (nv Y)<0:=dec_t h
       rw[q5f,v1,v2] at h
       rw[Int.ediv_eq_zero_of_lt (by omega) h,Int.mul_zero] at y1
       rw[Int.emod_eq_of_lt (by omega) h,q6O] at y2
       refine⟨?_,?_⟩
       . rw[<-y1];exact⟨rfl,by decide,by decide⟩
       . rw[<-y2];exact hx
     . have h:¬ cmpI (nv X) (nv Y)<0:=dec_f h
       rw[q5f] at h
       have hsn:¬ sgn n=0:=by intro e;have:=sgn_z e;subst this;simp at v1;omega
       have es:IntKind.wrap IntKind.i64 (sgn n*sgn m)=sgn n*sgn m:=by
        rcases sgn_cases n with e1 | e1 | ⟨e1,_⟩<;>rcases sgn_cases m with e2 | e2 | ⟨e2,_⟩<;>rw[e1,e2]<;>rfl
       have es2:∀ l:List Int,sgn n*sgn m=1∨sgn n*sgn m = -1∨(sgn n*sgn m=0/\nv l=0):=by
        intro l
        rcases sgn_cases n with e1 | e1 | ⟨e1,_⟩<;>rcases sgn_cases m with e2 | e2 | ⟨_,e2⟩
        all_goals first | exact absurd e2 hm | exact absurd e1 hsn | (rw[e1,e2];simp)
       have fin:∀ (q:Int×Option (List Int)) (r:Int×Option (List Int)) (A B:List Int),nv A=nv X / nv Y->nv B=nv X % nv Y->IV q (sgn n*sgn m*nv A)->IV r (sgn n*nv B)->QuoOf n m (q,r,()):=by
        intro q r A B hA hB hq hr
        rw[hA,v1,v2,y1] at hq
        rw[hB,v1,v2,y2] at hr
        exact⟨hq,hr⟩
       rw[es]
       refine q00.2 ⟨fun h2=>?_,fun h2=>?_⟩
       . have h2:(Y.length:Int)=1:=dec_t h2
         obtain⟨y0,rfl⟩:∃ y0,Y=[y0]:=by
          rcases Y with _ | ⟨y0,_ | ⟨_,_⟩⟩
          . exact absurd rfl hY
          . exact⟨y0,rfl⟩
          . simp at h2;omega
         have g:=d2 y0 (by simp)
         have hy0:y0≠0:=t2 y0 rfl
         refine⟨⟨by omega,by simp⟩,(s_short (x:=some X) (y:=y0) d1 (by omega) g.2 (by simp only[Option.getD_some];omega)).mono ?_⟩
         rintro⟨q,r,_⟩ ⟨l,e1,q1,q2,q3,e2⟩
         dsimp only[Option.getD_some] at e1 e2 q2 q3;subst e1 e2
         have ny:nv [y0]=y0:=by simp[nv]
         have hr0:=Int.emod_nonneg (nv X) hy0
         have hr1:=Int.emod_lt_of_pos (nv X) (show 0<y0 by omega)
         refine (q2h (b:=some l) q1 (es2 _) (by simp only[Option.getD_some];omega)).mono ?_
         intro p5 hp5
         refine (q2h (b:=some [nv X % y0]) (Dig.cons hr0 (by omega) Dig.nil) (sgn_ne hsn) (by simp)).mono ?_
         intro p6 hp6
         exact fin p5 p6 l [nv X % y0] (by rw[ny];exact q2) (by rw[ny];simp[nv]) hp5 hp6
       . have h2:¬ (Y.length:Int)=1:=dec_f h2
         have hl2:Y.length≠0:=fun e=>hY (List.eq_nil_of_length_eq_zero e)
         have hle:Y.length<=X.length:=by
          rcases Nat.lt_or_ge X.length Y.length with hl | hl
          . have:=q12 d1 d2 t2 hl;omega
          . exact hl
         refine (hlong X Y d1 d2 t2 (by omega) hle (by omega)).mono ?_
         rintro⟨q,r,_⟩ ⟨⟨A,e1,q1,q2,q3⟩,B,e2,r1,r2,r3⟩
         dsimp only at e1 e2;subst e1 e2
         refine (q2h (b:=some A) q1 (es2 _) (by simp only[Option.getD_some];omega)).mono ?_
         intro p5 hp5
         refine (q2h (b:=some B) r1 (sgn_ne hsn) (by simp only[Option.getD_some];omega)).mono ?_
         intro p6 hp6
         exact fin p5 p6 A B q2 r2 hp5 hp6
 . intro k hk
   refine q00.2 ⟨fun h=>hk _ (by rw[h];rfl),fun h=>hk _ (by rw[h];rfl)⟩
def ival (x:Int×Option (List Int)):Int:=
 match x.2 with
 | none=>x.1
 | some l=>x.1*nv l
theorem IV.val {x:Int×Option (List Int)} {n:Int} (h:IV x n):ival x=n:=by
 obtain⟨v,d⟩:=x
 cases d with
 | none=>exact h.1
 | some l=>
  obtain⟨_,_,_,h4⟩:=h
  show v*nv l=n
  rcases h4 with ⟨e1,e2⟩ | ⟨e1,e2⟩
  . have e1:v=1:=e1
    rw[e1,e2];omega
  . have e1:v = -1:=e1
    rw[e1,e2];omega
theorem s_Gcd (hlong:LongS) {x y:Int×Option (List Int)} {n m:Int} {k:Nat} (hx:IV x n) (hy:IV y m) (fx:Fit k n) (fy:Fit k m) (hk:k<=1073741824):callV Pg q2p [⟨tEI,x⟩,⟨tEI,y⟩] tEI fun r=>IV r (Int.gcd n m:Int):=by
 refine qjI x y (IV_ex _) ((s_Abs hx).mono fun p0 h0=>(s_Abs hy).mono fun p1 h1=>?_)
 refine loopE (fun p=>∃ a b:Nat,IV p.1 (a:Int)/\IV p.2.1 (b:Int)/\Nat.gcd a b=Int.gcd n m/\Fit k (a:Int)/\Fit k (b:Int)) (fun p=>(ival p.2.1).natAbs) ⟨n.natAbs,m.natAbs,h0,h1,rfl,fx.of (by simp),fy.of (by simp)⟩ ?_
 rintro⟨A,B,z⟩ ⟨a,b,ha,hb,hg,fa,fb⟩
 dsimp only at ha hb ⊢
 refine (q2Y hb).mono ?_
 rintro _ rfl
 refine q00.2 ⟨fun h=>?_,fun h=>?_⟩
 . have h:¬ sgn (b:Int)=0:=not_t h
   have hb0:b≠0:=by rintro rfl;exact h rfl
   refine (s_Quo hlong ha hb (by omega) fa hk).mono ?_
   rintro⟨q,r,_⟩ ⟨_,hr⟩
   dsimp only at hr ⊢
   have e:(a:Int).tmod (b:Int)=((a % b:Nat):Int):=by rw[Int.tmod_eq_emod_of_nonneg (by omega)];simp
   rw[e] at hr
   have hlt:a % b<b:=Nat.mod_lt _ (by omega)
   refine⟨⟨b,a % b,hb,hr,?_,fb,fb.of (by omega)⟩,?_⟩
   . rw[<-hg,Nat.gcd_comm b,<-Nat.gcd_rec b a,Nat.gcd_comm]
   . rw[hr.val,hb.val];omega
 . have h:sgn (b:Int)=0:=not_f h
   have hb0:b=0:=by have:=sgn_z h;omega
   subst hb0
   rw[<-hg,Nat.gcd_zero_right];exact ha
end Go.Proofs.Pf
namespace Go.Proofs.Pf
open Go Go.VM
set_option maxRecDepth 100000
def qcF:Ann:=(.s (.s (.s (.s (.seq (.reg [] [(2,([],true))] none) (.s (.s (.seq (.s (.blk none (.loop ⟨[(4,.own 58),(9,.own 45)],[.var 8 tI,.var 10 tL,.var 11 tI,.var 12 tI,.arr 58 tI,.arr 45 tI]⟩ (.s (.seq (.blk none (.s (.seq (.blk none (.loop ⟨[(4,.own 58),(9,.own 45)],[.var 8 tI,.var 10 tL,.var 11 tI,.var 12 tI,.var 13 tI,.arr 58 tI,.arr 45 tI]⟩ (.blk none (.s (.seq (.seq (.reg [] [(10,([],true))] none) (.cond none (.seq (.reg [] [(8,([],true))] none) .nil) .nil)) .nil))))) .nil))) .nil))))) (.seq (.reg [] [(4,([45],false))] none) .nil)))))))))
theorem ql6 {Q:(DL×(DL×Unit))->Prop} (a:DL) (b:DL) (hQ:∃ r,Q r) (h:
 (brV (decide ((szSl b)=(1:Int))) (inS b (0:Int)/\callV Pg q2H [⟨tL,a⟩,⟨tI,eltS (0:Int) b (0:Int)⟩] (.tup (.pair tL (.pair tI .unit))) (fun p0=>Q (p0.1,some [p0.2.1],()))) (callV Pg q1X [⟨tL,a⟩,⟨tL,b⟩] tI (fun p0=>brV (decide (p0<(0:Int))) (Q (none,a,())) (inS b (IntKind.wrap IntKind.i64 ((szSl b) - (1:Int)))/\((IntKind.wrap IntKind.i64 ((eltS (0:Int) b (IntKind.wrap IntKind.i64 ((szSl b) - (1:Int))))+(1:Int)))≠(0:Int))/\ownV Pg q1Z [⟨tL,a⟩,⟨tI,IntKind.wrap IntKind.i64 (Int.tdiv (1073741824:Int) (IntKind.wrap IntKind.i64 ((eltS (0:Int) b (IntKind.wrap IntKind.i64 ((szSl b) - (1:Int))))+(1:Int))))⟩] tI (fun p1=>callV Pg q1Z [⟨tL,b⟩,⟨tI,IntKind.wrap IntKind.i64 (Int.tdiv (1073741824:Int) (IntKind.wrap IntKind.i64 ((eltS (0:Int) b (IntKind.wrap IntKind.i64 ((szSl b) - (1:Int))))+(1:Int))))⟩] tL (fun p2=>inR p2 (0:Int) (szSl b)/\mkC 8 (IntKind.wrap IntKind.i64 ((szSl p1) - (szSl (slcS p2 (0:Int) (szSl b))))) (IntKind.wrap IntKind.i64 ((szSl p1) - (szSl (slcS p2 (0:Int) (szSl b)))))/\loopV (Int×DL×Int×Int×DL×DL) (fun k3  (i,j,k,l,m,n)=>brV (decide ((0:Int)<=l)) (inS n (IntKind.wrap IntKind.i64 (l+k))/\inS n (IntKind.wrap IntKind.i64 ((IntKind.wrap IntKind.i64 (l+k)) - (1:Int)))/\inS j (IntKind.wrap IntKind.i64 (k - (1:Int)))/\((eltS (0:Int) j (IntKind.wrap IntKind.i64 (k - (1:Int))))≠(0:Int))/\loopV (Int×DL×Int×Int×Int×DL×DL) (fun k5  (o,p,q,r,s,t,u)=>callV Pg q1Z [⟨tL,p⟩,⟨tI,s⟩] tL (fun p7=>callV Pg q2I [⟨tL,p7⟩] tL (fun p8=>inW u r (IntKind.wrap IntKind.i64 ((IntKind.wrap IntKind.i64 (r+q))+(1:Int)))/\appC 8 (some []) (lst (slcS u r (IntKind.wrap IntKind.i64 ((IntKind.wrap IntKind.i64 (r+q))+(1:Int)))))/\callV Pg q2I [⟨tL,appL (some []) (lst (slcS u r (IntKind.wrap IntKind.i64 ((IntKind.wrap IntKind.i64 (r+q))+(1:Int)))))⟩] tL (fun p9=>callV Pg q1X [⟨tL,p8⟩,⟨tL,p9⟩] tI (fun p10=>brV (decide (p10<=(0:Int))) (inW u r (IntKind.wrap IntKind.i64 ((IntKind.wrap IntKind.i64 (r+q))+(1:Int)))/\ownV Pg q1Y [⟨tL,slcS u r (IntKind.wrap IntKind.i64 ((IntKind.wrap IntKind.i64 (r+q))+(1:Int)))⟩,⟨tL,p7⟩] tI (fun p11=>inW u r (szSl u)/\inS t r/\k3 (o,p,q,IntKind.wrap IntKind.i64 (r - (1:Int)),setO t (toN r) s,cpyS u r (szSl u) p11))) (k5 (o,p,q,r,IntKind.wrap IntKind.i64 (s - (1:Int)),t,u))))))) (i,j,k,l,minI (IntKind.wrap IntKind.i64 (Int.tdiv (IntKind.wrap IntKind.i64 ((IntKind.wrap IntKind.i64 ((eltN (0:Int) n (toN (IntKind.wrap IntKind.i64 (l+k))))*(1073741824:Int)))+(eltN (0:Int) n (toN (IntKind.wrap IntKind.i64 ((IntKind.wrap IntKind.i64 (l+k)) - (1:Int))))))) (eltS (0:Int) j (IntKind.wrap IntKind.i64 (k - (1:Int)))))) (1073741823:Int),m,n)) (inW n (0:Int) k/\callV Pg q2H [⟨tL,slcS n (0:Int) k⟩,⟨tI,i⟩] (.tup (.pair tL (.pair tI .unit))) (fun p5=>Q (m,p5.1,())))) (IntKind.wrap IntKind.i64 (Int.tdiv (1073741824:Int) (IntKind.wrap IntKind.i64 ((eltS (0:Int) b (IntKind.wrap IntKind.i64 ((szSl b) - (1:Int))))+(1:Int)))),slcS p2 (0:Int) (szSl b),szSl (slcS p2 (0:Int) (szSl b)),IntKind.wrap IntKind.i64 ((IntKind.wrap IntKind.i64 ((szSl p1) - (szSl (slcS p2 (0:Int) (szSl b))))) - (1:Int)),some (repS (IntKind.wrap IntKind.i64 ((szSl p1) - (szSl (slcS p2 (0:Int) (szSl b))))) (0:Int)),p1)))))))):
 callV Pg q3v [⟨tL,a⟩,⟨tL,b⟩] (.tup (.pair tL (.pair tL .unit))) Q:=
 q02 (c:=q01 q8Y) (ann:=qcF) qfy rfl qim rfl rfl hQ (kcast (by kernel_rfl) h)
def qcH:Ann:=(.s (.s (.s (.seq (.s (.blk none (.loop ⟨[(5,.own 1005)],[.var 1 tI,.var 6 tI,.var 9 tL,.var 10 tI,.var 11 tI,.arr 1005 tI]⟩ .nil))) .nil))))
theorem ql8 {Q:DL->Prop} (a:DL) (b:Int) (hQ:∃ r,Q r) (h:
 (loopV (Int×Int×DL×Int×DE) (fun k0  (i,j,k,l,m)=>brV (decide (m.1<l)) (inS k m.1/\((1073741824:Int)≠(0:Int))/\appC 8 m.2 (lst (some [(Int.tmod (IntKind.wrap IntKind.i64 (j+(IntKind.wrap IntKind.i64 ((eltS (0:Int) k m.1)*i)))) (1073741824:Int))]))/\((1073741824:Int)≠(0:Int))/\k0 (i,IntKind.wrap IntKind.i64 (Int.tdiv (IntKind.wrap IntKind.i64 (j+(IntKind.wrap IntKind.i64 ((eltS (0:Int) k m.1)*i)))) (1073741824:Int)),k,l,IntKind.wrap IntKind.i64 (m.1+(1:Int)),appL m.2 (lst (some [(Int.tmod (IntKind.wrap IntKind.i64 (j+(IntKind.wrap IntKind.i64 ((eltS (0:Int) k m.1)*i)))) (1073741824:Int))])))) (appC 8 m.2 (lst (some [j]))/\Q (appL m.2 (lst (some [j]))))) (b,(0:Int),a,szSl a,(0:Int),none))):
 ownV Pg q1Z [⟨tL,a⟩,⟨tI,b⟩] tI Q:=
 q1l (c:=q01 q90) (ann:=qcH) qfA rfl qio rfl rfl hQ (kcast (by kernel_rfl) h)
def qcE:Ann:=let x:Shape:=⟨[(5,.own 1005)],[.var 0 tL,.var 1 tL,.var 6 tI,.var 9 tI,.var 10 tI,.arr 1005 tI]⟩;(.s (.s (.s (.seq (.s (.blk none (.loop x (.s (.s (.seq (.blk none (.s (.s (.seq (.s (.cond (some x) .nil .nil)) (.s (.cond (some x) .nil .nil)))))) .nil)))))) .nil))))
theorem ql5 {Q:DL->Prop} (a:DL) (b:DL) (hQ:∃ r,Q r) (h:
 (loopV (DL×DL×Int×Int×DE) (fun k0  (i,j,k,l,m)=>brV (decide (m.1<l)) (inS i m.1/\joinV (DL×DL×Int×Int×DE) (fun (n,o,p,q,r)=>joinV (DL×DL×Int×Int×DE) (fun (s,t,u,v,w)=>k0 (s,t,u,v,IntKind.wrap IntKind.i64 (w.1+(1:Int)),w.2)) (fun k3=>brV (decide (p<(0:Int))) (appC 8 r.2 (lst (some [(IntKind.wrap IntKind.i64 (p+(1073741824:Int)))]))/\k3 (n,o,-(1:Int),q,r.1,appL r.2 (lst (some [(IntKind.wrap IntKind.i64 (p+(1073741824:Int)))])))) (appC 8 r.2 (lst (some [p]))/\k3 (n,o,(0:Int),q,r.1,appL r.2 (lst (some [p])))))) (fun k2=>brV (decide (m.1<(szSl j))) (inS j m.1/\k2 (i,j,IntKind.wrap IntKind.i64 ((IntKind.wrap IntKind.i64 (k+(eltS (0:Int) i m.1))) - (eltS (0:Int) j m.1)),l,m)) (k2 (i,j,IntKind.wrap IntKind.i64 (k+(eltS (0:Int) i m.1)),l,m)))) (Q m.2)) (a,b,(0:Int),szSl a,(0:Int),none))):
 ownV Pg q1Y [⟨tL,a⟩,⟨tL,b⟩] tI Q:=
 q1l (c:=q01 q8X) (ann:=qcE) qfx rfl qil rfl rfl hQ (kcast (by kernel_rfl) h)
def qcr:Ann:=(.s (.seq (.seq (.reg [] [] (some ⟨[(2,.ref 2 0)],[.var 0 tI,.var 11 .bool,.box 2 tRI]⟩)) .nil) (.s (.s (.seq (.blk none (.loop ⟨[(2,.ref 2 0),(5,.own 1005)],[.var 0 tI,.var 4 tI,.box 2 tRI,.arr 1005 tI]⟩ .nil)) .nil)))))
theorem qkS {Q:DRI->Prop} (a:Int) (hQ:∃ r,Q r) (h:
 (joinV (Int×Bool×DRI) (fun (i,j,k)=>brV j (Q (i,false,none)) (((1073741824:Int)≠(0:Int))/\((1073741824:Int)≠(0:Int))/\loopV (Int×Int×DRI×DL) (fun k1  (l,m,n,o)=>brV (notB (decide (m=(0:Int)))) (((1073741824:Int)≠(0:Int))/\((1073741824:Int)≠(0:Int))/\appC 8 o (lst (some [(maxI (Int.tmod m (1073741824:Int)) (IntKind.wrap IntKind.i64 ((0:Int) - (Int.tmod m (1073741824:Int)))))]))/\k1 (l,IntKind.wrap IntKind.i64 (Int.tdiv m (1073741824:Int)),n,appL o (lst (some [(maxI (Int.tmod m (1073741824:Int)) (IntKind.wrap IntKind.i64 ((0:Int) - (Int.tmod m (1073741824:Int)))))])))) (Q ((0:Int),decide (l<(0:Int)),o))) (i,IntKind.wrap IntKind.i64 (Int.tdiv i (1073741824:Int)),k,some [(maxI (Int.tmod i (1073741824:Int)) (IntKind.wrap IntKind.i64 ((0:Int) - (Int.tmod i (1073741824:Int)))))]))) (fun k0=>brV (decide ((-(2305843009213693952:Int))<a)) (k0 (a,decide (a<(2305843009213693952:Int)),(0:Int),false,none)) (k0 (a,false,(0:Int),false,none))))):
 callV Pg q0r [⟨tI,a⟩] tRI Q:=
 q02 (c:=q01 q8K) (ann:=qcr) qfk rfl qi8 rfl rfl hQ (kcast (by kernel_rfl) h)
def qcm:Ann:=(.s (.seq (.seq (.reg [] [] (some ⟨[(2,.ref 2 0),(3,.ref 3 0),(4,.ref 4 0)],[.var 40 .bool,.box 2 tRI,.box 3 tRI,.box 4 tRI]⟩)) .nil) (.s (.s (.seq (.s (.blk none (.loop ⟨[(2,.ref 2 0),(3,.ref 3 0),(4,.ref 4 0),(7,.own 56)],[.var 5 tL,.var 6 tL,.var 58 tI,.var 59 tI,.box 2 tRI,.box 3 tRI,.box 4 tRI,.arr 56 tI]⟩ (.s (.s (.seq (.blk none (.s (.s (.seq (.s (.blk none (.loop ⟨[(2,.ref 2 0),(3,.ref 3 0),(4,.ref 4 0),(7,.own 56)],[.var 5 tL,.var 6 tL,.var 8 tI,.var 9 tI,.var 58 tI,.var 59 tI,.var 63 tI,.var 64 tI,.box 2 tRI,.box 3 tRI,.box 4 tRI,.arr 56 tI]⟩ .nil))) .nil)))) .nil)))))) (.seq (.reg [56] [] none) .nil))))))
theorem qkN {Q:DRI->Prop} (a:DRI) (b:DRI) (hQ:∃ r,Q r) (h:
 (joinV (Bool×DRI×DRR) (fun (i,j,k)=>brV i (Q (IntKind.wrap IntKind.i64 (j.1*k.1.1),false,none)) (callV Pg q0U [⟨tRI,j⟩] tL (fun p1=>callV Pg q0U [⟨tRI,k.1⟩] tL (fun p2=>mkC 8 (IntKind.wrap IntKind.i64 ((szSl p1)+(szSl p2))) (IntKind.wrap IntKind.i64 ((szSl p1)+(szSl p2)))/\loopV (DL×DL×Int×Int×DRI×DRI×DRI×DL) (fun k3  (l,m,n,o,p,q,r,s)=>brV (decide (o<n)) (loopV (DL×DL×Int×Int×Int×Int×Int×Int×DRI×DRI×DRI×DL) (fun k5  (t,u,v,w,x,y,z,e,f,g,c,d)=>brV (decide (e<z)) (inS d (IntKind.wrap IntKind.i64 (v+e))/\inS t v/\inS u e/\((1073741824:Int)≠(0:Int))/\inS d (IntKind.wrap IntKind.i64 (v+e))/\((1073741824:Int)≠(0:Int))/\k5 (t,u,v,IntKind.wrap IntKind.i64 (Int.tdiv (IntKind.wrap IntKind.i64 (w+(IntKind.wrap IntKind.i64 ((eltN (0:Int) d (toN (IntKind.wrap IntKind.i64 (v+e))))+(IntKind.wrap IntKind.i64 ((eltS (0:Int) t v)*(eltS (0:Int) u e))))))) (1073741824:Int)),x,y,z,IntKind.wrap IntKind.i64 (e+(1:Int)),f,g,c,setO d (toN (IntKind.wrap IntKind.i64 (v+e))) (Int.tmod (IntKind.wrap IntKind.i64 (w+(IntKind.wrap IntKind.i64 ((eltN (0:Int) d (toN (IntKind.wrap IntKind.i64 (v+e))))+(IntKind.wrap IntKind.i64 ((eltS (0:Int) t v)*(eltS (0:Int) u e))))))) (1073741824:Int)))) (inS d (IntKind.wrap IntKind.i64 (v+(szSl u)))/\k3 (t,u,x,IntKind.wrap IntKind.i64 (y+(1:Int)),f,g,c,setO d (toN (IntKind.wrap IntKind.i64 (v+(szSl u)))) w))) (l,m,o,(0:Int),n,o,szSl m,(0:Int),p,q,r,s)) (callV Pg q0g [⟨tRI,p⟩] tI (fun p5=>callV Pg q0g [⟨tRI,q⟩] tI (fun p6=>callV Pg q0X [⟨.bool,notB (decide (p5=p6))⟩,⟨tL,s⟩] tRI (fun p7=>Q p7))))) (p1,p2,szSl p1,(0:Int),j,k.1,k.2,some (repS (IntKind.wrap IntKind.i64 ((szSl p1)+(szSl p2))) (0:Int))))))) (fun k0=>brV (decide ((szSl a.2.2)=(0:Int))) (brV (decide ((szSl b.2.2)=(0:Int))) (brV (decide ((-(1073741824:Int))<a.1)) (brV (decide (a.1<(1073741824:Int))) (brV (decide ((-(1073741824:Int))<b.1)) (k0 (decide (b.1<(1073741824:Int)),a,b,(0:Int),false,none)) (k0 (false,a,b,(0:Int),false,none))) (k0 (false,a,b,(0:Int),false,none))) (k0 (false,a,b,(0:Int),false,none))) (k0 (false,a,b,(0:Int),false,none))) (k0 (false,a,b,(0:Int),false,none))))):
 callV Pg q0I [⟨tRI,a⟩,⟨tRI,b⟩] tRI Q:=
 q02 (c:=q01 q8F) (ann:=qcm) qff rfl qi3 rfl rfl hQ (kcast (by kernel_rfl) h)
def qcl:Ann:=(.s (.seq (.seq (.reg [] [] (some ⟨[(1,.ref 1 0)],[.var 17 .bool,.box 1 tRI]⟩)) .nil) .nil))
theorem qkM {Q:(Int×(Bool×Unit))->Prop} (a:DRI) (hQ:∃ r,Q r) (h:
 (joinV (Bool×DRI) (fun (i,j)=>brV i (Q ((0:Int),false,())) (Q (j.1,true,()))) (fun k0=>brV (decide ((0:Int)<(szSl a.2.2))) (k0 (true,a)) (brV (decide ((1152921504606846976:Int)<a.1)) (k0 (true,a)) (k0 (decide (a.1<(-(1152921504606846976:Int))),a)))))):
 callV Pg q2F [⟨tRI,a⟩] (.tup (.pair tI (.pair .bool .unit))) Q:=
 q02 (c:=q01 q8E) (ann:=qcl) qfe rfl qi2 rfl rfl hQ (kcast (by kernel_rfl) h)
def qcd:Ann:=(.s (.seq (.blk none (.loop ⟨[(2,.ref 2 0),(3,.ref 3 0),(4,.ref 4 0)],[.box 2 tRI,.box 3 tRI,.box 4 tRI]⟩ .nil)) .nil))
theorem qkE {Q:DRI->Prop} (a:DRI) (b:DRI) (hQ:∃ r,Q r) (h:
 (loopV (DRI×DRR) (fun k0  (i,j)=>callV Pg q0g [⟨tRI,j.1⟩] tI (fun p2=>brV (notB (decide (p2=(0:Int)))) (callV Pg q1T [⟨tRI,i⟩,⟨tRI,j.1⟩] (.tup (.pair tRI (.pair tRI .unit))) (fun p3=>k0 (j.1,p3.2.1,j.2))) (callV Pg q3p [⟨tRI,i⟩] tRI (fun p3=>Q p3)))) (a,b,(0:Int),false,none))):
 callV Pg q2C [⟨tRI,a⟩,⟨tRI,b⟩] tRI Q:=
 q02 (c:=q01 q8w) (ann:=qcd) qf6 rfl qhU rfl rfl hQ (kcast (by kernel_rfl) h)
def qcf:Ann:=.nil
theorem qkG {Q:Int->Prop} (a:DRI) (b:DRI) (hQ:∃ r,Q r) (h:
 (callV Pg q3q [⟨tRI,a⟩,⟨tRI,b⟩] tRI (fun p0=>callV Pg q0g [⟨tRI,p0⟩] tI (fun p1=>Q p1)))):
 callV Pg q2D [⟨tRI,a⟩,⟨tRI,b⟩] tI Q:=
 q02 (c:=q01 q8y) (ann:=qcf) qf8 rfl qhW rfl rfl hQ (kcast (by kernel_rfl) h)
def qck:Ann:=(.s (.seq (.blk none (.seq (.reg [] [] (some ⟨[(1,.ref 1 0)],[.var 3 .bool,.box 1 tRI]⟩)) (.cond none .nil (.seq (.reg [] [] (some ⟨[],[.var 17 .bool]⟩)) .nil)))) .nil))
theorem qkL {Q:Int->Prop} (a:DRI) (hQ:∃ r,Q r) (h:
 (joinV (Bool×DRI) (fun (i,j)=>brV i (Q (-(1:Int))) (joinV Bool (fun p1=>brV p1 (Q (1:Int)) (Q (0:Int))) (fun k1=>brV (decide ((0:Int)<(szSl j.2.2))) (k1 true) (k1 (decide ((0:Int)<j.1)))))) (fun k0=>brV (decide ((0:Int)<(szSl a.2.2))) (brV a.2.1 (k0 (true,a)) (k0 (decide (a.1<(0:Int)),a))) (k0 (decide (a.1<(0:Int)),a))))):
 callV Pg q0g [⟨tRI,a⟩] tI Q:=
 q02 (c:=q01 q8D) (ann:=qck) qfd rfl qi1 rfl rfl hQ (kcast (by kernel_rfl) h)
def qch:Ann:=(.s (.seq (.reg [] [] (some ⟨[(2,.ref 2 0)],[.box 2 tRI]⟩)) .nil))
theorem qkI {Q:DRI->Prop} (a:DRI) (hQ:∃ r,Q r) (h:
 (joinV DRI (fun p0=>Q p0) (fun k0=>brV (decide ((0:Int)<(szSl a.2.2))) (k0 (IntKind.wrap IntKind.i64 ((0:Int) - a.1),notB a.2.1,a.2.2)) (k0 (IntKind.wrap IntKind.i64 ((0:Int) - a.1),false,a.2.2))))):
 callV Pg q1a [⟨tRI,a⟩] tRI Q:=
 q02 (c:=q01 q8A) (ann:=qch) qfa rfl qhY rfl rfl hQ (kcast (by kernel_rfl) h)
def qci:Ann:=(.s (.seq (.seq (.reg [] [] (some ⟨[(2,.ref 2 0),(3,.ref 3 0),(4,.ref 4 0),(5,.ref 5 0)],[.var 17 .bool,.box 2 tRI,.box 3 tRI,.box 4 tRI,.box 5 tRI]⟩)) .nil) .nil))
theorem qkJ {Q:(DRI×(DRI×Unit))->Prop} (a:DRI) (b:DRI) (hQ:∃ r,Q r) (h:
 (joinV (Bool×DRI×DRI×DRR) (fun (i,j,k,_)=>brV i ((k.1≠(0:Int))/\(k.1≠(0:Int))/\Q ((IntKind.wrap IntKind.i64 (Int.tdiv j.1 k.1),false,none),(Int.tmod j.1 k.1,false,none),())) (callV Pg q0U [⟨tRI,j⟩] tL (fun p1=>callV Pg q0U [⟨tRI,k⟩] tL (fun p2=>callV Pg q3v [⟨tL,p1⟩,⟨tL,p2⟩] (.tup (.pair tL (.pair tL .unit))) (fun p3=>callV Pg q0g [⟨tRI,j⟩] tI (fun p4=>callV Pg q0g [⟨tRI,k⟩] tI (fun p5=>callV Pg q0X [⟨.bool,notB (decide (p4=p5))⟩,⟨tL,p3.1⟩] tRI (fun p6=>callV Pg q0g [⟨tRI,j⟩] tI (fun p7=>callV Pg q0X [⟨.bool,decide (p7<(0:Int))⟩,⟨tL,p3.2.1⟩] tRI (fun p8=>Q (p6,p8,()))))))))))) (fun k0=>brV (decide ((szSl a.2.2)=(0:Int))) (k0 (decide ((szSl b.2.2)=(0:Int)),a,b,z0)) (k0 (false,a,b,z0))))):
 callV Pg q1T [⟨tRI,a⟩,⟨tRI,b⟩] (.tup (.pair tRI (.pair tRI .unit))) Q:=
 q02 (c:=q01 q8B) (ann:=qci) qfb rfl qhZ rfl rfl hQ (kcast (by kernel_rfl) h)
def qcn:Ann:=(.s (.s (.s (.seq (.s (.blk none (.loop ⟨[(3,.own 1003)],[.var 4 tI,.arr 1003 tI]⟩ .nil))) .nil))))
theorem qkO {Q:DL->Prop} (a:DRI) (hQ:∃ r,Q r) (h:
 (brV (decide ((0:Int)<(szSl a.2.2))) (Q a.2.2) (loopV DE (fun k0  p1=>brV (decide ((0:Int)<p1.1)) (((1073741824:Int)≠(0:Int))/\appC 8 p1.2 (lst (some [(Int.tmod p1.1 (1073741824:Int))]))/\((1073741824:Int)≠(0:Int))/\k0 (IntKind.wrap IntKind.i64 (Int.tdiv p1.1 (1073741824:Int)),appL p1.2 (lst (some [(Int.tmod p1.1 (1073741824:Int))])))) (Q p1.2)) (maxI a.1 (IntKind.wrap IntKind.i64 ((0:Int) - a.1)),none)))):
 callV Pg q0U [⟨tRI,a⟩] tL Q:=
 q02 (c:=q01 q8G) (ann:=qcn) qfg rfl qi4 rfl rfl hQ (kcast (by kernel_rfl) h)
def qcG:Ann:=(.s (.seq (.blk none (.loop ⟨[(4,.ref 4 0)],[.var 0 .bool,.var 1 tL,.box 4 tRI]⟩ (.seq (.seq (.reg [] [] (some ⟨[(4,.ref 4 0)],[.var 0 .bool,.var 1 tL,.var 18 .bool,.box 4 tRI]⟩)) .nil) .nil))) (.seq (.seq (.reg [] [] (some ⟨[(4,.ref 4 0)],[.var 0 .bool,.var 1 tL,.var 37 .bool,.box 4 tRI]⟩)) .nil) (.s (.seq (.s (.blk none (.loop ⟨[(4,.ref 4 0)],[.var 0 .bool,.var 1 tL,.var 5 tI,.var 6 tI,.box 4 tRI]⟩ .nil))) (.seq (.s (.cond (some ⟨[(4,.ref 4 0)],[.var 5 tI,.box 4 tRI]⟩) .nil .nil)) .nil))))))
theorem ql7 {Q:DRI->Prop} (a:Bool) (b:DL) (hQ:∃ r,Q r) (h:
 (loopV (Bool×DL×DRI) (fun k0  (i,j,k)=>joinV (Bool×DL×Bool×DRI) (fun (l,m,n,o)=>brV n (inR m (0:Int) (IntKind.wrap IntKind.i64 ((szSl m) - (1:Int)))/\k0 (l,slcS m (0:Int) (IntKind.wrap IntKind.i64 ((szSl m) - (1:Int))),o)) (joinV (Bool×DL×Bool×DRI) (fun (p,q,r,s)=>brV r (Q ((0:Int),p,q)) (loopV (Bool×DL×Int×Int×DRI) (fun k4  (t,u,v,w,x)=>brV (decide ((0:Int)<=w)) (inS u w/\k4 (t,u,IntKind.wrap IntKind.i64 ((IntKind.wrap IntKind.i64 (v*(1073741824:Int)))+(eltS (0:Int) u w)),IntKind.wrap IntKind.i64 (w - (1:Int)),x)) (joinV (Int×DRI) (fun (y,_)=>Q (y,false,none)) (fun k6=>brV t (k6 (IntKind.wrap IntKind.i64 ((0:Int) - v),x)) (k6 (v,x))))) (p,q,(0:Int),IntKind.wrap IntKind.i64 ((szSl q) - (1:Int)),s))) (fun k3=>brV (decide ((3:Int)<(szSl m))) (k3 (l,m,true,o)) (brV (decide ((szSl m)=(3:Int))) (inS m (2:Int)/\k3 (l,m,decide ((2:Int)<=(eltS (0:Int) m (2:Int))),o)) (k3 (l,m,false,o)))))) (fun k2=>brV (decide ((0:Int)<(szSl j))) (inS j (IntKind.wrap IntKind.i64 ((szSl j) - (1:Int)))/\k2 (i,j,decide ((eltS (0:Int) j (IntKind.wrap IntKind.i64 ((szSl j) - (1:Int))))=(0:Int)),k)) (k2 (i,j,false,k)))) (a,b,(0:Int),false,none))):
 callV Pg q0X [⟨.bool,a⟩,⟨tL,b⟩] tRI Q:=
 q02 (c:=q01 q8Z) (ann:=qcG) qfz rfl qin rfl rfl hQ (kcast (by kernel_rfl) h)
def qcj:Ann:=(.s (.seq (.seq (.reg [] [] (some ⟨[(2,.ref 2 0),(3,.ref 3 0),(4,.ref 4 0)],[.var 18 .bool,.box 2 tRI,.box 3 tRI,.box 4 tRI]⟩)) .nil) .nil))
theorem qkK {Q:DRI->Prop} (a:DRI) (b:DRI) (hQ:∃ r,Q r) (h:
 (joinV (Bool×DRI×DRR) (fun (i,j,k)=>brV i (callV Pg q0r [⟨tI,IntKind.wrap IntKind.i64 (j.1+k.1.1)⟩] tRI (fun p1=>Q p1)) (callV Pg q0U [⟨tRI,j⟩] tL (fun p1=>callV Pg q0U [⟨tRI,k.1⟩] tL (fun p2=>callV Pg q0g [⟨tRI,j⟩] tI (fun p3=>callV Pg q0g [⟨tRI,k.1⟩] tI (fun p4=>brV (eqB (decide (p3<(0:Int))) (decide (p4<(0:Int)))) (callV Pg q3w [⟨tL,p1⟩,⟨tL,p2⟩] tL (fun p5=>callV Pg q0X [⟨.bool,decide (p3<(0:Int))⟩,⟨tL,p5⟩] tRI (fun p6=>Q p6))) (callV Pg q1X [⟨tL,p1⟩,⟨tL,p2⟩] tI (fun p5=>brV (decide ((0:Int)<=p5)) (callV Pg q1Y [⟨tL,p1⟩,⟨tL,p2⟩] tL (fun p6=>callV Pg q0X [⟨.bool,decide (p3<(0:Int))⟩,⟨tL,p6⟩] tRI (fun p7=>Q p7))) (callV Pg q1Y [⟨tL,p2⟩,⟨tL,p1⟩] tL (fun p6=>callV Pg q0X [⟨.bool,decide (p4<(0:Int))⟩,⟨tL,p6⟩] tRI (fun p7=>Q p7))))))))))) (fun k0=>brV (decide ((szSl a.2.2)=(0:Int))) (k0 (decide ((szSl b.2.2)=(0:Int)),a,b,(0:Int),false,none)) (k0 (false,a,b,(0:Int),false,none))))):
 callV Pg q2E [⟨tRI,a⟩,⟨tRI,b⟩] tRI Q:=
 q02 (c:=q01 q8C) (ann:=qcj) qfc rfl qi0 rfl rfl hQ (kcast (by kernel_rfl) h)
def qce:Ann:=.nil
theorem qkF {Q:DRI->Prop} (a:DRI) (hQ:∃ r,Q r) (h:
 (callV Pg q0g [⟨tRI,a⟩] tI (fun p0=>brV (decide (p0<(0:Int))) (callV Pg q1a [⟨tRI,a⟩] tRI (fun p1=>Q p1)) (Q a)))):
 callV Pg q3p [⟨tRI,a⟩] tRI Q:=
 q02 (c:=q01 q8x) (ann:=qce) qf7 rfl qhV rfl rfl hQ (kcast (by kernel_rfl) h)
def qcg:Ann:=.nil
theorem qkH {Q:DRI->Prop} (a:DRI) (b:DRI) (hQ:∃ r,Q r) (h:
 (callV Pg q1a [⟨tRI,b⟩] tRI (fun p0=>callV Pg q2E [⟨tRI,a⟩,⟨tRI,p0⟩] tRI (fun p1=>Q p1)))):
 callV Pg q3q [⟨tRI,a⟩,⟨tRI,b⟩] tRI Q:=
 q02 (c:=q01 q8z) (ann:=qcg) qf9 rfl qhX rfl rfl hQ (kcast (by kernel_rfl) h)
def qcJ:Ann:=let x:Shape:=⟨[(5,.own 1005)],[.var 0 tL,.var 1 tL,.var 6 tI,.var 7 tI,.arr 1005 tI]⟩;(.s (.s (.s (.seq (.s (.blk none (.loop x (.seq (.seq (.reg [] [] (some ⟨[(5,.own 1005)],[.var 0 tL,.var 1 tL,.var 6 tI,.var 7 tI,.var 21 .bool,.arr 1005 tI]⟩)) .nil) (.seq (.blk none (.seq (.s (.cond (some x) .nil .nil)) (.seq (.s (.cond (some x) .nil .nil)) .nil))) .nil))))) .nil))))
theorem qla {Q:DL->Prop} (a:DL) (b:DL) (hQ:∃ r,Q r) (h:
 (loopV (DL×DL×Int×DE) (fun k0  (i,j,k,l)=>joinV (DL×DL×Int×DRI) (fun (m,n,o,p)=>brV p.2.1 (joinV (DL×DL×Int×DE) (fun (q,r,s,t)=>joinV (DL×DL×Int×DE) (fun (u,v,w,x)=>((1073741824:Int)≠(0:Int))/\appC 8 x.2 (lst (some [(Int.tmod w (1073741824:Int))]))/\((1073741824:Int)≠(0:Int))/\k0 (u,v,IntKind.wrap IntKind.i64 (Int.tdiv w (1073741824:Int)),IntKind.wrap IntKind.i64 (x.1+(1:Int)),appL x.2 (lst (some [(Int.tmod w (1073741824:Int))])))) (fun k4=>brV (decide (t.1<(szSl r))) (inS r t.1/\k4 (q,r,IntKind.wrap IntKind.i64 (s+(eltS (0:Int) r t.1)),t)) (k4 (q,r,s,t)))) (fun k3=>brV (decide (p.1<(szSl m))) (inS m p.1/\k3 (m,n,IntKind.wrap IntKind.i64 (o+(eltS (0:Int) m p.1)),p.1,p.2.2)) (k3 (m,n,o,p.1,p.2.2)))) (Q p.2.2)) (fun k2=>brV (decide (l.1<(szSl i))) (k2 (i,j,k,l.1,true,l.2)) (brV (decide (l.1<(szSl j))) (k2 (i,j,k,l.1,true,l.2)) (k2 (i,j,k,l.1,decide ((0:Int)<k),l.2))))) (a,b,(0:Int),(0:Int),none))):
 callV Pg q3w [⟨tL,a⟩,⟨tL,b⟩] tL Q:=
 q02 (c:=q01 q92) (ann:=qcJ) qfC rfl qiq rfl rfl hQ (kcast (by kernel_rfl) h)
def qcD:Ann:=(.s (.s (.seq (.s (.blk none (.loop ⟨[],[.var 0 tL,.var 1 tL,.var 5 tI]⟩ .nil))) .nil)))
theorem ql4 {Q:Int->Prop} (a:DL) (b:DL) (hQ:∃ r,Q r) (h:
 (brV (notB (decide ((szSl a)=(szSl b)))) (brV (decide ((szSl a)<(szSl b))) (Q (-(1:Int))) (Q (1:Int))) (loopV (DL×DL×Int) (fun k0  (i,j,k)=>brV (decide ((0:Int)<=k)) (inS i k/\inS j k/\brV (decide ((eltS (0:Int) i k)<(eltS (0:Int) j k))) (Q (-(1:Int))) (inS i k/\inS j k/\brV (decide ((eltS (0:Int) j k)<(eltS (0:Int) i k))) (Q (1:Int)) (k0 (i,j,IntKind.wrap IntKind.i64 (k - (1:Int)))))) (Q (0:Int))) (a,b,IntKind.wrap IntKind.i64 ((szSl a) - (1:Int)))))):
 callV Pg q1X [⟨tL,a⟩,⟨tL,b⟩] tI Q:=
 q02 (c:=q01 q8W) (ann:=qcD) qfw rfl qik rfl rfl hQ (kcast (by kernel_rfl) h)
def qcI:Ann:=(.s (.s (.seq (.s (.blk none (.loop ⟨[(4,.own 9)],[.var 0 tL,.var 1 tI,.var 5 tI,.var 6 tI,.arr 9 tI]⟩ .nil))) .nil)))
theorem ql9 {Q:(DL×(Int×Unit))->Prop} (a:DL) (b:Int) (hQ:∃ r,Q r) (h:
 (mkC 8 (szSl a) (szSl a)/\loopV (DL×Int×Int×DE) (fun k0  (i,j,k,l)=>brV (decide ((0:Int)<=l.1)) (inS i l.1/\(j≠(0:Int))/\(j≠(0:Int))/\inS l.2 l.1/\k0 (i,j,Int.tmod (IntKind.wrap IntKind.i64 ((IntKind.wrap IntKind.i64 (k*(1073741824:Int)))+(eltS (0:Int) i l.1))) j,IntKind.wrap IntKind.i64 (l.1 - (1:Int)),setO l.2 (toN l.1) (IntKind.wrap IntKind.i64 (Int.tdiv (IntKind.wrap IntKind.i64 ((IntKind.wrap IntKind.i64 (k*(1073741824:Int)))+(eltS (0:Int) i l.1))) j)))) (Q (l.2,k,()))) (a,b,(0:Int),IntKind.wrap IntKind.i64 ((szSl a) - (1:Int)),some (repS (szSl a) (0:Int))))):
 callV Pg q2H [⟨tL,a⟩,⟨tI,b⟩] (.tup (.pair tL (.pair tI .unit))) Q:=
 q02 (c:=q01 q91) (ann:=qcI) qfB rfl qip rfl rfl hQ (kcast (by kernel_rfl) h)
def qcK:Ann:=(.s (.seq (.blk none (.loop ⟨[],[.var 0 tL]⟩ (.seq (.seq (.reg [] [] (some ⟨[],[.var 0 tL,.var 14 .bool]⟩)) .nil) .nil))) .nil))
theorem qlb {Q:DL->Prop} (a:DL) (hQ:∃ r,Q r) (h:
 (loopV DL (fun k0  p1=>joinV (DL×Bool) (fun (i,j)=>brV j (inR i (0:Int) (IntKind.wrap IntKind.i64 ((szSl i) - (1:Int)))/\k0 (slcS i (0:Int) (IntKind.wrap IntKind.i64 ((szSl i) - (1:Int))))) (Q i)) (fun k2=>brV (decide ((0:Int)<(szSl p1))) (inS p1 (IntKind.wrap IntKind.i64 ((szSl p1) - (1:Int)))/\k2 (p1,decide ((eltS (0:Int) p1 (IntKind.wrap IntKind.i64 ((szSl p1) - (1:Int))))=(0:Int)))) (k2 (p1,false)))) a)):
 callV Pg q2I [⟨tL,a⟩] tL Q:=
 q02 (c:=q01 q93) (ann:=qcK) qfD rfl qir rfl rfl hQ (kcast (by kernel_rfl) h)
end Go.Proofs.Pf
namespace Go.Proofs.Pf
open Go Go.VM
theorem q6Q (n:Int):sgn n=n.sign:=by
 rcases sgn3 n with ⟨e,h⟩ | ⟨e,h⟩ | ⟨e,h⟩
 . rw[e,Int.sign_eq_one_of_pos h]
 . rw[e,Int.sign_eq_neg_one_of_neg h]
 . rw[e,h];rfl
theorem q5s (n m:Int) (hm:m≠0):(Rat.divInt n m).num=sgn m*n.tdiv (Int.gcd n m):=by
 rw[Rat.num_divInt,q6Q,Int.gcd_comm m n]
 have hd:((Int.gcd n m:Nat):Int) ∣ n:=Int.gcd_dvd_left ..
 rw[Int.mul_ediv_assoc _ hd,Int.tdiv_eq_ediv_of_dvd hd]
theorem q5r (n m:Int) (hm:m≠0):((Rat.divInt n m).den:Int)=sgn m*m.tdiv (Int.gcd n m):=by
 rw[Rat.den_divInt,if_neg hm,q6Q,Int.gcd_comm m n]
 have hd:((Int.gcd n m:Nat):Int) ∣ m:=Int.gcd_dvd_right ..
 have e:m.sign*m=(m.natAbs:Int):=by
  rw[<-q6Q]
  rcases sgn3 m with ⟨e,h⟩ | ⟨e,h⟩ | ⟨e,h⟩<;>rw[e]<;>omega
 rw[Int.tdiv_eq_ediv_of_dvd hd,<-Int.mul_ediv_assoc _ hd,e]
 simp
def LowV (y:Int×Option (List Int)) (d:Int):Prop:=IV y d∨(IV y 0/\d=1)
def RV (x:(Int×Option (List Int))×(Int×Option (List Int))) (q:Rat):Prop:=IV x.1 q.num/\LowV x.2 (q.den:Int)
theorem RV_ex (q:Rat):∃ r,RV r q:=by
 obtain⟨a,ha⟩:=IV_ex q.num
 obtain⟨b,hb⟩:=IV_ex (q.den:Int)
 exact⟨(a,b),ha,.inl hb⟩
theorem q5B (hlong:LongS) {x y:Int×Option (List Int)} {n m:Int} {k:Nat} (hx:IV x n) (hy:IV y m) (hm:m≠0) (fx:Fit k n) (fy:Fit k m) (hk:k<=1073741824):callV Pg q1t [⟨tEI,x⟩,⟨tEI,y⟩] tER fun r=>RV r (Rat.divInt n m):=by
 refine qk1 x y (RV_ex _) ((s_Gcd hlong hx hy fx fy hk).mono fun g hg=>?_)
 have hgp:Int.gcd n m≠0:=fun e=>hm (Int.gcd_eq_zero_iff.1 e).2
 have fin:∀ p:(Int×Option (List Int))×(Int×Option (List Int)),IV p.1 (sgn m*n.tdiv (Int.gcd n m))->IV p.2 (sgn m*m.tdiv (Int.gcd n m))->RV p (Rat.divInt n m):=by
  intro p h1 h2
  rw[<-q5s n m hm] at h1
  rw[<-q5r n m hm] at h2
  exact⟨h1,.inl h2⟩
 have dd:((Int.gcd n m:Nat):Int) ∣ m:=Int.gcd_dvd_right ..
 have sq:sgn (m.tdiv (Int.gcd n m))=sgn m:=by
  have h1:=Int.mul_tdiv_cancel' dd
  have:sgn ((Int.gcd n m:Nat):Int)=1:=if_pos (by omega)
  have h2:sgn m=sgn (((Int.gcd n m:Nat):Int)*m.tdiv (Int.gcd n m)):=by rw[h1]
  rw[h2,q6P,this];omega
 refine joinR (fun p=>∃ b:Bool,p=(b,x,y,(((0:Int),none),((0:Int),none)),g)/\(b=false->Int.gcd n m=1)) ?_ ?_
 . rintro _ ⟨b,rfl,hb⟩
   refine joinR (fun p=>IV p.1 (n.tdiv (Int.gcd n m))/\IV p.2.1 (m.tdiv (Int.gcd n m))) ?_ ?_
   . rintro⟨p,q,z⟩ ⟨h1,h2⟩
     dsimp only at h1 h2 ⊢
     refine (q2Y h2).mono ?_
     rintro _ rfl
     refine joinR (fun p=>IV p.1 (sgn m*n.tdiv (Int.gcd n m))/\IV p.2.1 (sgn m*m.tdiv (Int.gcd n m))) ?_ ?_
     . rintro⟨p,q,z⟩ ⟨h1,h2⟩
       exact fin (p,q) h1 h2
     . intro k' hk'
       rw[sq]
       refine q00.2 ⟨fun h=>?_,fun h=>?_⟩
       . have h:sgn m<0:=dec_t h
         have em:sgn m = -1:=by rcases sgn3 m with ⟨e,_⟩ | ⟨e,_⟩ | ⟨e,_⟩<;>omega
         refine (s_Neg h1).mono fun p5 h5=>(s_Neg h2).mono fun p6 h6=>hk' _ ⟨?_,?_⟩
         . rw[em,Int.neg_mul,Int.one_mul];exact h5
         . rw[em,Int.neg_mul,Int.one_mul];exact h6
       . have h:¬ sgn m<0:=dec_f h
         have em:sgn m=1:=by rcases sgn3 m with ⟨e,_⟩ | ⟨e,_⟩ | ⟨e,h0⟩<;>omega
         refine hk' _ ⟨?_,?_⟩
         . rw[em,Int.one_mul];exact h1
         . rw[em,Int.one_mul];exact h2
   . intro k' hk'
     refine q00.2 ⟨fun h=>?_,fun h=>?_⟩
     . (try dsimp only)
       refine (s_Quo hlong hx hg (by omega) fx hk).mono ?_
       rintro⟨q,r,_⟩ ⟨h1,_⟩
       refine (s_Quo hlong hy hg (by omega) fy hk).mono ?_
       rintro⟨q2,r2,_⟩ ⟨h2,_⟩
       exact hk' _ ⟨h1,h2⟩
     . have e:=hb h
       refine hk' _ ?_
       rw[e]
       simp only[Int.natCast_one,Int.tdiv_one]
       exact⟨hx,hy⟩
 . intro k' hk'
   refine q00.2 ⟨fun h=>hk' _ ⟨true,rfl,fun h=>by simp at h⟩,fun h=>hk' _ ⟨_,rfl,fun h2=>?_⟩⟩
   have h:g.1=1:=not_f h
   obtain⟨v,d⟩:=g
   cases d with
   | some l=>simp[notB] at h2
   | none=>have e:v=((Int.gcd n m:Nat):Int):=hg.1;have h:v=1:=h;have e2:(1:Int)=((Int.gcd n m:Nat):Int):=(Eq.symm h).trans e;omega
end Go.Proofs.Pf
namespace Go.Proofs.Pf
open Go Go.VM
def RFit (k:Nat) (q:Rat):Prop:=Fit k q.num/\Fit k (q.den:Int)
theorem RFit.mono {k j:Nat} {q:Rat} (h:RFit k q) (hj:k<=j):RFit j q:=⟨h.1.mono hj,h.2.mono hj⟩
theorem s_one:callV Pg q38 [] tEI fun r=>IV r 1:=qk7 ⟨((1:Int),none),rfl,by decide,by decide⟩ ⟨rfl,by decide,by decide⟩
theorem s_Low {x:(Int×Option (List Int))×(Int×Option (List Int))} {q:Rat} (hx:RV x q):callV Pg q0q [⟨tER,x⟩] tEI fun r=>IV r (q.den:Int):=by
 have hd:q.den≠0:=q.den_nz
 refine qjU x (IV_ex _) ?_
 rcases hx.2 with h | ⟨h,h1⟩
 . refine (q2Y h).mono ?_
   rintro _ rfl
   refine q00.2 ⟨fun h2=>?_,fun h2=>h⟩
   have h2:sgn (q.den:Int)=0:=dec_t h2
   have:=sgn_z h2;omega
 . refine (q2Y h).mono ?_
   rintro _ rfl
   refine q00.2 ⟨fun h2=>?_,fun h2=>?_⟩
   . rw[h1];exact s_one.mono fun r hr=>hr
   . exact absurd (rfl:sgn 0=0) (dec_f h2)
theorem s_Top {x:(Int×Option (List Int))×(Int×Option (List Int))} {q:Rat} (hx:RV x q):callV Pg q36 [⟨tER,x⟩] tEI fun r=>IV r q.num:=
 qjZ x (IV_ex _) hx.1
theorem q5H {x:(Int×Option (List Int))×(Int×Option (List Int))} {q:Rat} (hx:RV x q):callV Pg q1s [⟨tER,x⟩] .bool fun b=>b=true->q.den=1:=by
 have hd:q.den≠0:=q.den_nz
 obtain⟨t,v,d⟩:=x
 refine qk0 _ ⟨false,fun h=>by simp at h⟩ (joinR (fun b=>b=true->q.den=1) (fun _ h=>h) fun k hk=>?_)
 refine q00.2 ⟨fun h=>hk _ fun h2=>?_,fun _=>hk _ fun h=>by simp at h⟩
 have hv1:v<=1:=dec_t h2
 cases d with
 | some l=>simp at h
 | none=>
  rcases hx.2 with h | ⟨_,h1⟩
  . have e:v=(q.den:Int):=h.1
    have e2:(q.den:Int)<=1:=by rw[<-e];exact hv1
    omega
  . omega
theorem q14 {x:(Int×Option (List Int))×(Int×Option (List Int))} {q:Rat} (hx:RV x q):callV Pg q0i [⟨tER,x⟩] tI fun r=>r=sgn q.num:=
 qjX x ⟨_,rfl⟩ ((q2Y hx.1).mono fun _ h=>h)
theorem s_RNeg {x:(Int×Option (List Int))×(Int×Option (List Int))} {q:Rat} (hx:RV x q):callV Pg q1N [⟨tER,x⟩] tER fun r=>RV r (-q):=
 qjW x (RV_ex _) ((s_Neg hx.1).mono fun _ h=>⟨h,hx.2⟩)
theorem q5D {n:Int} (h1:-9223372036854775808<=n) (h2:n<9223372036854775808):callV Pg q1u [⟨tI,n⟩] tER fun r=>RV r (n:Rat):=
 qk2 n (RV_ex _) ((s_Of h1 h2).mono fun _ h=>⟨h,.inr ⟨⟨rfl,by decide,by decide⟩,rfl⟩⟩)
end Go.Proofs.Pf
namespace Go.Proofs.Pf
open Go Go.VM
set_option maxRecDepth 100000
def qc6:Ann:=(.s (.s (.s (.seq (.seq (.reg [] [] (some ⟨[(2,.ref 2 0)],[.var 4 tI,.var 6 tI,.var 25 .bool,.box 2 tNum]⟩)) .nil) .nil))))
theorem w_num_Out {Q:((Int×Int)×(Int×Unit))->Prop} (a:DR) (hQ:∃ r,Q r) (h:
 (callV Pg q36 [⟨tER,a⟩] tEI (fun p0=>callV Pg q1L [⟨tEI,p0⟩,⟨tI,(1152921504606846976:Int)⟩] (.tup (.pair tI (.pair .bool .unit))) (fun p1=>callV Pg q0q [⟨tER,a⟩] tEI (fun p2=>callV Pg q1L [⟨tEI,p2⟩,⟨tI,(1152921504606846976:Int)⟩] (.tup (.pair tI (.pair .bool .unit))) (fun p3=>joinV (Int×Int×Bool×Int×Int) (fun (i,j,k,_)=>brV k (Q (((0:Int),(0:Int)),(3:Int),())) (Q ((i,j),(0:Int),()))) (fun k4=>brV (notB p1.2.1) (k4 (p1.1,p3.1,true,(0:Int),(0:Int))) (k4 (p1.1,p3.1,notB p3.2.1,(0:Int),(0:Int)))))))))):
 callV Pg q1R [⟨tER,a⟩] (.tup (.pair tNum (.pair tI .unit))) Q:=
 q02 (c:=q01 q8p) (ann:=qc6) e_num_Out rfl r_num_Out rfl rfl hQ (kcast (by kernel_rfl) h)
def qc8:Ann:=.nil
theorem w_num_Rat {Q:DR->Prop} (a:(Int×Int)) (hQ:∃ r,Q r) (h:
 (callV Pg q0T [⟨tI,a.1⟩] tEI (fun p0=>callV Pg q0T [⟨tI,a.2⟩] tEI (fun p1=>callV Pg q1t [⟨tEI,p0⟩,⟨tEI,p1⟩] tER (fun p2=>Q p2))))):
 callV Pg q1y [⟨tNum,a⟩] tER Q:=
 q02 (c:=q01 q8r) (ann:=qc8) e_num_Rat rfl r_num_Rat rfl rfl hQ (kcast (by kernel_rfl) h)
def qca:Ann:=(.s (.seq (.seq (.reg [] [] (some ⟨[(1,.ref 1 0)],[.var 22 .bool,.box 1 tNum]⟩)) .nil) .nil))
theorem qkB {Q:Bool->Prop} (a:(Int×Int)) (hQ:∃ r,Q r) (h:
 (joinV (Bool×Int×Int) (fun (i,j,k)=>brV i (Q false) (callV Pg q0T [⟨tI,j⟩] tEI (fun p1=>callV Pg q0T [⟨tI,k⟩] tEI (fun p2=>callV Pg q2p [⟨tEI,p1⟩,⟨tEI,p2⟩] tEI (fun p3=>callV Pg q1L [⟨tEI,p3⟩,⟨tI,(1152921504606846976:Int)⟩] (.tup (.pair tI (.pair .bool .unit))) (fun p4=>Q (decide (p4.1=(1:Int))))))))) (fun k0=>brV (decide (a.2<(1:Int))) (k0 (true,a)) (brV (decide ((1152921504606846976:Int)<a.2)) (k0 (true,a)) (brV (decide ((1152921504606846976:Int)<a.1)) (k0 (true,a)) (k0 (decide (a.1<(-(1152921504606846976:Int))),a))))))):
 callV Pg q1S [⟨tNum,a⟩] .bool Q:=
 q02 (c:=q01 q8t) (ann:=qca) qf3 rfl qhR rfl rfl hQ (kcast (by kernel_rfl) h)
end Go.Proofs.Pf
namespace Go.Proofs.Pf
open Go Go.VM
theorem rangeB {T S:Type} {step:(T->Prop)->T->Prop} {p0:T} {n:Nat} (f:Nat->S->T) (Inv:Nat->S->Prop) {B:(T->Prop)->Nat->S->Prop} {E:(T->Prop)->Nat->S->Prop} (s0:S) (h0:p0=f 0 s0) (hI:Inv 0 s0)
 (ix:T->Nat) (hix:∀ i s,ix (f i s)=i) (hs:∀ k i s,step k (f i s)=brV (decide ((i:Int)<(n:Int))) (B k i s) (E k i s))
 (hb:∀ k i s,i<n->Inv i s->(∀ s',Inv (i+1) s'->k (f (i+1) s'))->B k i s) (he:∀ k s,Inv n s->E k n s):loopV T step p0:=by
 refine loopE (fun p=>∃ i s,p=f i s/\i<=n/\Inv i s) (fun p=>n - ix p) ⟨0,s0,h0,Nat.zero_le _,hI⟩ ?_
 rintro _ ⟨i,s,rfl,hi,hx⟩
 rw[hs]
 refine q00.2 ⟨fun hc=>?_,fun hc=>?_⟩
 . have hc:(i:Int)<(n:Int):=dec_t hc
   have hc:i<n:=by omega
   refine hb _ i s hc hx fun s' h'=>⟨⟨i+1,s',rfl,hc,h'⟩,?_⟩
   rw[hix,hix];omega
 . have hc:¬ (i:Int)<(n:Int):=dec_f hc
   obtain rfl:i=n:=by omega
   exact he _ s hx
theorem br_t {b:Bool} {A B:Prop} (h:b=true) (hA:A):brV b A B:=by subst h;exact hA
theorem br_f {b:Bool} {A B:Prop} (h:b=false) (hB:B):brV b A B:=by subst h;exact hB
theorem br_c {b:Bool} {A B:Prop} (h1:b=true->A) (h2:b=false->B):brV b A B:=q00.2 ⟨h1,h2⟩
def optL {α:Type} (l:List α):Option (List α):=bif l.isEmpty then none else some l
theorem q07 {α:Type} (l:List α):(optL l).getD []=l:=by cases l<;>rfl
theorem q1k {α:Type} (l:List α) (x:α):appL (optL l) [x]=optL (l ++ [x]):=by cases l<;>rfl
theorem optL_some {α:Type} {l:List α} (h:l≠[]):optL l=some l:=by cases l;exact absurd rfl h;rfl
theorem in_s {α:Type} {l:Option (List α)} {i:Nat} (h:i<(l.getD []).length):inS l (i:Int):=⟨by omega,by omega⟩
theorem wi1 {i n:Nat} (h:i<n) (hn:n<=4611686018427387904):IntKind.wrap IntKind.i64 ((i:Int)+1)=((i+1:Nat):Int):=by rw[wi64 (by omega) (by omega)];rfl
abbrev tab {α:Type} (f:Nat->α) (n:Nat):List α:=(List.range n).map f
theorem q31 {α:Type} (f:Nat->α) (n:Nat):tab f (n+1)=tab f n ++ [f n]:=by simp[tab,List.range_succ]
theorem tab_len {α:Type} (f:Nat->α) (n:Nat):(tab f n).length=n:=by simp[tab]
theorem tab_get {α:Type} (f:Nat->α) (n i:Nat) (d:α) (h:i<n):(tab f n).getD i d=f i:=by
 simp[tab,List.getD,List.getElem?_range h]
end Go.Proofs.Pf
namespace Go.Proofs.Pf
open Go Go.VM
def q54:Lend:=⟨⟨[(1,.own 1000000001)],[.var 0 tMo,.var 2 tI,.arr 1000000001 (.agg (.pair (.agg (.pair tI (.pair (.bool) tL))) (.agg (.pair tI (.pair (.bool) tL)))))]⟩,⟨[(0,.own 1000),(1001,.own 1000000001)],[.arr 1000 (.agg (.pair (.agg (.pair tI (.pair (.bool) tL))) (.agg (.pair tI (.pair (.bool) tL))))),.arr 1000000001 (.agg (.pair (.agg (.pair tI (.pair (.bool) tL))) (.agg (.pair tI (.pair (.bool) tL)))))]⟩,1⟩
def q55:Lend:=⟨⟨[(0,.own 700000)],[.arr 700000 tI]⟩,⟨[(0,.own 1000)],[.arr 1000 tI]⟩,1⟩
def q56:Lend:=⟨⟨[(0,.own 1000000000)],[.arr 1000000000 tI]⟩,⟨[(1000,.own 1000000000)],[.arr 1000000000 tI]⟩,0⟩
def q57:Lend:=⟨⟨[(0,.own 1000000000)],[.var 1 tI,.var 2 tI,.arr 1000000000 tI]⟩,⟨[(1000,.own 1000000000)],[.arr 1000000000 tI]⟩,0⟩
def q5O:Lend:=⟨⟨[(0,.own 1000000000)],[.var 1 tI,.var 2 tI,.var 3 tI,.arr 1000000000 tI]⟩,⟨[(1000,.own 1000000000)],[.arr 1000000000 tI]⟩,0⟩
end Go.Proofs.Pf
namespace Go.Proofs.Pf
open Go Go.VM
set_option maxRecDepth 100000
def qcN:Ann:=(.s (.seq (.seq (.reg [] [] (some ⟨[(3,.ref 3 0)],[.var 25 .bool,.box 3 tMo]⟩)) .nil) (.seq (.s (.blk none (.loop ⟨[],[.var 27 (.sl tSt),.var 28 tI,.var 29 tI]⟩ (.s (.s (.seq (.blk none (.s (.s (.s (.blk none (.loop ⟨[],[.var 27 (.sl tSt),.var 28 tI,.var 29 tI,.var 38 (.sl tCh),.var 39 tI,.var 40 tI]⟩ .nil)))))) .nil)))))) .nil)))
theorem qle {Q:Bool->Prop} (a:Int) (b:DMo) (hQ:∃ r,Q r) (h:
 (joinV (Bool×DMo) (fun (i,j)=>brV i (Q false) (loopV (DMo×Int×Int) (fun k1  (k,l,m)=>brV (decide (m<l)) (inS k m/\brV (decide ((10:Int)<(szSl (eltS ((0:Int),(0:Int),none) k m).2.2))) (Q false) (loopV (DMo×Int×Int×Option (List DCh)×Int×Int) (fun k3  (n,o,p,q,r,s)=>brV (decide (s<r)) (inS q s/\brV (decide ((10:Int)<(szSl (eltS (((0:Int),(0:Int)),none) q s).2))) (Q false) (k3 (n,o,p,q,r,IntKind.wrap IntKind.i64 (s+(1:Int))))) (k1 (n,o,IntKind.wrap IntKind.i64 (p+(1:Int))))) (k,l,m,(eltS ((0:Int),(0:Int),none) k m).2.2,szSl (eltS ((0:Int),(0:Int),none) k m).2.2,(0:Int)))) (Q true)) (j,szSl j,(0:Int)))) (fun k0=>brV (decide (a<(szSl b))) (brV (decide ((szSl b)<=(40:Int))) (k0 (true,b)) (k0 (decide ((45:Int)<(szSl b)),b))) (k0 (decide ((45:Int)<(szSl b)),b))))):
 callV Pg q3y [⟨tI,a⟩,⟨tMo,b⟩] .bool Q:=
 q02 (c:=q01 q96) (ann:=qcN) qfG rfl qiu rfl rfl hQ (kcast (by kernel_rfl) h)
end Go.Proofs.Pf
namespace Go.Proofs.Pf
open Go Go.VM
set_option maxRecDepth 100000
def qcP:Ann:=(.s (.seq (.s (.blk none (.loop ⟨[],[.var 6 (.sl tSt),.var 7 tI,.var 8 tI]⟩ .nil))) .nil))
theorem qlg {Q:Bool->Prop} (a:DMo) (hQ:∃ r,Q r) (h:
 (loopV (DMo×Int×Int) (fun k0  (i,j,k)=>brV (decide (k<j)) (inS i k/\brV (notB (decide ((szSl (eltS ((0:Int),(0:Int),none) i k).2.2)=(1:Int)))) (Q false) (k0 (i,j,IntKind.wrap IntKind.i64 (k+(1:Int))))) (Q true)) (a,szSl a,(0:Int)))):
 callV Pg q3z [⟨tMo,a⟩] .bool Q:=
 q02 (c:=q01 q98) (ann:=qcP) qfI rfl qiw rfl rfl hQ (kcast (by kernel_rfl) h)
end Go.Proofs.Pf
