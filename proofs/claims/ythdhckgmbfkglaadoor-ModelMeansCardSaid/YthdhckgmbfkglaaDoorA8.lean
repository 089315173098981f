/- Typed pure data, a condition on code that says what a call gives, what the code of each function comes to, and what each function gives. -/
import Derived.Test.YthdhckgmbfkglaaDoorProg
import Derived.Lib.LaidTab
import Derived.Lib.ItoaNum
import Derived.Laws.CopyRow
import Derived.Laws.AppendOwn
import Derived.Laws.MakeOwn
import Derived.Laws.BytesString
import Derived.Laws.StructEq
import Derived.Laws.Small
import Derived.Tactics
import Derived.Calls
import Derived.Below
import Derived.KernelRfl
import Derived.Laws.Cells
import Derived.Test.YthdhckgmbfkglaaDoorA5
import Derived.Test.YthdhckgmbfkglaaDoorA7
set_option linter.unusedVariables false
set_option linter.unusedSimpArgs false
namespace Go.Proofs.Pf

open Go Go.VM

abbrev tEI : Ty := .agg (.pair (.int .i64) (.sl (.int .u32)))

abbrev tER : Ty := .agg (.pair tEI tEI)

abbrev tNum : Ty := .agg (.pair (.int .i64) (.int .i64))

abbrev tI : Ty := .int .i64

abbrev tD : Ty := .sl (.int .u32)

abbrev tU : Ty := .int .u32

abbrev tL : Ty := .sl tI

abbrev tBr : Ty := .agg (.pair tI tNum)

abbrev tCh : Ty := .agg (.pair tNum (.sl tBr))

abbrev tSt : Ty := .agg (.pair tI (.pair tI (.sl tCh)))

abbrev tMo : Ty := .agg (.sl tSt)

abbrev DL := Option (List Int)

abbrev DBr := Int × (Int × Int)

abbrev DCh := (Int × Int) × Option (List DBr)

abbrev DSt := Int × (Int × Option (List DCh))

abbrev DMo := Option (List DSt)

abbrev DE := Int × Option (List Int)

abbrev DR := DE × DE

def bodyOf (fn : Func) : Code := match fn.body with | some c => c | none => .skip

theorem kcast {a b : Prop} (h : a = b) (hb : b) : a := h ▸ hb

def bytesL (l : List Nat) : ByteArray := ⟨⟨l.map UInt8.ofNat⟩⟩

noncomputable abbrev Pg : Program := Go.Proofs.Tryd.prog

abbrev c_law04_ModelMeans : FuncId := 3

noncomputable abbrev f_law04_ModelMeans : Func := Go.Proofs.Tryd.f3

theorem e_law04_ModelMeans : Pg.funcs[c_law04_ModelMeans]? = some f_law04_ModelMeans := Go.Proofs.Tryd.func3

theorem r_law04_ModelMeans : ∀ args w, (callFunc c_law04_ModelMeans args).run Pg w = .ok (.enter c_law04_ModelMeans args) w := Go.Proofs.Tryd.call3

abbrev c_law04_few : FuncId := 4

noncomputable abbrev f_law04_few : Func := Go.Proofs.Tryd.f4

theorem e_law04_few : Pg.funcs[c_law04_few]? = some f_law04_few := Go.Proofs.Tryd.func4

theorem r_law04_few : ∀ args w, (callFunc c_law04_few args).run Pg w = .ok (.enter c_law04_few args) w := Go.Proofs.Tryd.call4

abbrev c_law04_awake : FuncId := 5

noncomputable abbrev f_law04_awake : Func := Go.Proofs.Tryd.f5

theorem e_law04_awake : Pg.funcs[c_law04_awake]? = some f_law04_awake := Go.Proofs.Tryd.func5

theorem r_law04_awake : ∀ args w, (callFunc c_law04_awake args).run Pg w = .ok (.enter c_law04_awake args) w := Go.Proofs.Tryd.call5

abbrev c_model_Fix : FuncId := 6

noncomputable abbrev f_model_Fix : Func := Go.Proofs.Tryd.f6

theorem e_model_Fix : Pg.funcs[c_model_Fix]? = some f_model_Fix := Go.Proofs.Tryd.func6

theorem r_model_Fix : ∀ args w, (callFunc c_model_Fix args).run Pg w = .ok (.enter c_model_Fix args) w := Go.Proofs.Tryd.call6

abbrev c_model_Chain : FuncId := 7

noncomputable abbrev f_model_Chain : Func := Go.Proofs.Tryd.f7

theorem e_model_Chain : Pg.funcs[c_model_Chain]? = some f_model_Chain := Go.Proofs.Tryd.func7

theorem r_model_Chain : ∀ args w, (callFunc c_model_Chain args).run Pg w = .ok (.enter c_model_Chain args) w := Go.Proofs.Tryd.call7

abbrev c_model_Count : FuncId := 8

noncomputable abbrev f_model_Count : Func := Go.Proofs.Tryd.f8

theorem e_model_Count : Pg.funcs[c_model_Count]? = some f_model_Count := Go.Proofs.Tryd.func8

theorem r_model_Count : ∀ args w, (callFunc c_model_Count args).run Pg w = .ok (.enter c_model_Count args) w := Go.Proofs.Tryd.call8

abbrev c_model_FixFor : FuncId := 9

noncomputable abbrev f_model_FixFor : Func := Go.Proofs.Tryd.f9

theorem e_model_FixFor : Pg.funcs[c_model_FixFor]? = some f_model_FixFor := Go.Proofs.Tryd.func9

theorem r_model_FixFor : ∀ args w, (callFunc c_model_FixFor args).run Pg w = .ok (.enter c_model_FixFor args) w := Go.Proofs.Tryd.call9

abbrev c_ref04_Identical : FuncId := 10

noncomputable abbrev f_ref04_Identical : Func := Go.Proofs.Tryd.f10

theorem e_ref04_Identical : Pg.funcs[c_ref04_Identical]? = some f_ref04_Identical := Go.Proofs.Tryd.func10

theorem r_ref04_Identical : ∀ args w, (callFunc c_ref04_Identical args).run Pg w = .ok (.enter c_ref04_Identical args) w := Go.Proofs.Tryd.call10

abbrev c_model_Nth : FuncId := 11

noncomputable abbrev f_model_Nth : Func := Go.Proofs.Tryd.f11

theorem e_model_Nth : Pg.funcs[c_model_Nth]? = some f_model_Nth := Go.Proofs.Tryd.func11

theorem r_model_Nth : ∀ args w, (callFunc c_model_Nth args).run Pg w = .ok (.enter c_model_Nth args) w := Go.Proofs.Tryd.call11

abbrev c_model_ValidStrategy : FuncId := 12

noncomputable abbrev f_model_ValidStrategy : Func := Go.Proofs.Tryd.f12

theorem e_model_ValidStrategy : Pg.funcs[c_model_ValidStrategy]? = some f_model_ValidStrategy := Go.Proofs.Tryd.func12

theorem r_model_ValidStrategy : ∀ args w, (callFunc c_model_ValidStrategy args).run Pg w = .ok (.enter c_model_ValidStrategy args) w := Go.Proofs.Tryd.call12

abbrev c_ref01_List : FuncId := 13

noncomputable abbrev f_ref01_List : Func := Go.Proofs.Tryd.f13

theorem e_ref01_List : Pg.funcs[c_ref01_List]? = some f_ref01_List := Go.Proofs.Tryd.func13

theorem r_ref01_List : ∀ args w, (callFunc c_ref01_List args).run Pg w = .ok (.enter c_ref01_List args) w := Go.Proofs.Tryd.call13

abbrev c_ref04_Few : FuncId := 14

noncomputable abbrev f_ref04_Few : Func := Go.Proofs.Tryd.f14

theorem e_ref04_Few : Pg.funcs[c_ref04_Few]? = some f_ref04_Few := Go.Proofs.Tryd.func14

theorem r_ref04_Few : ∀ args w, (callFunc c_ref04_Few args).run Pg w = .ok (.enter c_ref04_Few args) w := Go.Proofs.Tryd.call14

abbrev c_model_Print : FuncId := 15

noncomputable abbrev f_model_Print : Func := Go.Proofs.Tryd.f15

theorem e_model_Print : Pg.funcs[c_model_Print]? = some f_model_Print := Go.Proofs.Tryd.func15

theorem r_model_Print : ∀ args w, (callFunc c_model_Print args).run Pg w = .ok (.enter c_model_Print args) w := Go.Proofs.Tryd.call15

abbrev c_law04_dice : FuncId := 16

noncomputable abbrev f_law04_dice : Func := Go.Proofs.Tryd.f16

theorem e_law04_dice : Pg.funcs[c_law04_dice]? = some f_law04_dice := Go.Proofs.Tryd.func16

theorem r_law04_dice : ∀ args w, (callFunc c_law04_dice args).run Pg w = .ok (.enter c_law04_dice args) w := Go.Proofs.Tryd.call16

abbrev c_model_Valid : FuncId := 17

noncomputable abbrev f_model_Valid : Func := Go.Proofs.Tryd.f17

theorem e_model_Valid : Pg.funcs[c_model_Valid]? = some f_model_Valid := Go.Proofs.Tryd.func17

theorem r_model_Valid : ∀ args w, (callFunc c_model_Valid args).run Pg w = .ok (.enter c_model_Valid args) w := Go.Proofs.Tryd.call17

abbrev c_model_Strategy : FuncId := 18

noncomputable abbrev f_model_Strategy : Func := Go.Proofs.Tryd.f18

theorem e_model_Strategy : Pg.funcs[c_model_Strategy]? = some f_model_Strategy := Go.Proofs.Tryd.func18

theorem r_model_Strategy : ∀ args w, (callFunc c_model_Strategy args).run Pg w = .ok (.enter c_model_Strategy args) w := Go.Proofs.Tryd.call18

abbrev c_model_Fixed : FuncId := 19

noncomputable abbrev f_model_Fixed : Func := Go.Proofs.Tryd.f19

theorem e_model_Fixed : Pg.funcs[c_model_Fixed]? = some f_model_Fixed := Go.Proofs.Tryd.func19

theorem r_model_Fixed : ∀ args w, (callFunc c_model_Fixed args).run Pg w = .ok (.enter c_model_Fixed args) w := Go.Proofs.Tryd.call19

abbrev c_model_IsChain : FuncId := 20

noncomputable abbrev f_model_IsChain : Func := Go.Proofs.Tryd.f20

theorem e_model_IsChain : Pg.funcs[c_model_IsChain]? = some f_model_IsChain := Go.Proofs.Tryd.func20

theorem r_model_IsChain : ∀ args w, (callFunc c_model_IsChain args).run Pg w = .ok (.enter c_model_IsChain args) w := Go.Proofs.Tryd.call20

abbrev c_model_count : FuncId := 21

noncomputable abbrev f_model_count : Func := Go.Proofs.Tryd.f21

theorem e_model_count : Pg.funcs[c_model_count]? = some f_model_count := Go.Proofs.Tryd.func21

theorem r_model_count : ∀ args w, (callFunc c_model_count args).run Pg w = .ok (.enter c_model_count args) w := Go.Proofs.Tryd.call21

abbrev c_model_FixedFor : FuncId := 22

noncomputable abbrev f_model_FixedFor : Func := Go.Proofs.Tryd.f22

theorem e_model_FixedFor : Pg.funcs[c_model_FixedFor]? = some f_model_FixedFor := Go.Proofs.Tryd.func22

theorem r_model_FixedFor : ∀ args w, (callFunc c_model_FixedFor args).run Pg w = .ok (.enter c_model_FixedFor args) w := Go.Proofs.Tryd.call22

abbrev c_exact_Of : FuncId := 23

noncomputable abbrev f_exact_Of : Func := Go.Proofs.Tryd.f23

theorem e_exact_Of : Pg.funcs[c_exact_Of]? = some f_exact_Of := Go.Proofs.Tryd.func23

theorem r_exact_Of : ∀ args w, (callFunc c_exact_Of args).run Pg w = .ok (.enter c_exact_Of args) w := Go.Proofs.Tryd.call23

abbrev c_exact_Int_Mul : FuncId := 24

noncomputable abbrev f_exact_Int_Mul : Func := Go.Proofs.Tryd.f24

theorem e_exact_Int_Mul : Pg.funcs[c_exact_Int_Mul]? = some f_exact_Int_Mul := Go.Proofs.Tryd.func24

theorem r_exact_Int_Mul : ∀ args w, (callFunc c_exact_Int_Mul args).run Pg w = .ok (.enter c_exact_Int_Mul args) w := Go.Proofs.Tryd.call24

abbrev c_exact_Int_Cmp : FuncId := 25

noncomputable abbrev f_exact_Int_Cmp : Func := Go.Proofs.Tryd.f25

theorem e_exact_Int_Cmp : Pg.funcs[c_exact_Int_Cmp]? = some f_exact_Int_Cmp := Go.Proofs.Tryd.func25

theorem r_exact_Int_Cmp : ∀ args w, (callFunc c_exact_Int_Cmp args).run Pg w = .ok (.enter c_exact_Int_Cmp args) w := Go.Proofs.Tryd.call25

abbrev c_exact_Int_Quo : FuncId := 26

noncomputable abbrev f_exact_Int_Quo : Func := Go.Proofs.Tryd.f26

theorem e_exact_Int_Quo : Pg.funcs[c_exact_Int_Quo]? = some f_exact_Int_Quo := Go.Proofs.Tryd.func26

theorem r_exact_Int_Quo : ∀ args w, (callFunc c_exact_Int_Quo args).run Pg w = .ok (.enter c_exact_Int_Quo args) w := Go.Proofs.Tryd.call26

abbrev c_exact_Int_Int : FuncId := 27

noncomputable abbrev f_exact_Int_Int : Func := Go.Proofs.Tryd.f27

theorem e_exact_Int_Int : Pg.funcs[c_exact_Int_Int]? = some f_exact_Int_Int := Go.Proofs.Tryd.func27

theorem r_exact_Int_Int : ∀ args w, (callFunc c_exact_Int_Int args).run Pg w = .ok (.enter c_exact_Int_Int args) w := Go.Proofs.Tryd.call27

abbrev c_strings_Builder_WriteString : FuncId := 28

noncomputable abbrev f_strings_Builder_WriteString : Func := Go.Proofs.Tryd.f28

theorem e_strings_Builder_WriteString : Pg.funcs[c_strings_Builder_WriteString]? = some f_strings_Builder_WriteString := Go.Proofs.Tryd.func28

theorem r_strings_Builder_WriteString : ∀ args w, (callFunc c_strings_Builder_WriteString args).run Pg w = .ok (.enter c_strings_Builder_WriteString args) w := Go.Proofs.Tryd.call28

abbrev c_strconv_Itoa : FuncId := 29

theorem r_strconv_Itoa : ∀ args w, (callFunc c_strconv_Itoa args).run Pg w = .ok (.enter c_strconv_Itoa args) w := Go.Proofs.Tryd.call29

abbrev c_num_Print : FuncId := 30

noncomputable abbrev f_num_Print : Func := Go.Proofs.Tryd.f30

theorem e_num_Print : Pg.funcs[c_num_Print]? = some f_num_Print := Go.Proofs.Tryd.func30

theorem r_num_Print : ∀ args w, (callFunc c_num_Print args).run Pg w = .ok (.enter c_num_Print args) w := Go.Proofs.Tryd.call30

abbrev c_strings_Builder_Len : FuncId := 31

noncomputable abbrev f_strings_Builder_Len : Func := Go.Proofs.Tryd.f31

theorem e_strings_Builder_Len : Pg.funcs[c_strings_Builder_Len]? = some f_strings_Builder_Len := Go.Proofs.Tryd.func31

theorem r_strings_Builder_Len : ∀ args w, (callFunc c_strings_Builder_Len args).run Pg w = .ok (.enter c_strings_Builder_Len args) w := Go.Proofs.Tryd.call31

abbrev c_strings_Builder_String : FuncId := 32

noncomputable abbrev f_strings_Builder_String : Func := Go.Proofs.Tryd.f32

theorem e_strings_Builder_String : Pg.funcs[c_strings_Builder_String]? = some f_strings_Builder_String := Go.Proofs.Tryd.func32

theorem r_strings_Builder_String : ∀ args w, (callFunc c_strings_Builder_String args).run Pg w = .ok (.enter c_strings_Builder_String args) w := Go.Proofs.Tryd.call32

abbrev c_law04_num : FuncId := 33

noncomputable abbrev f_law04_num : Func := Go.Proofs.Tryd.f33

theorem e_law04_num : Pg.funcs[c_law04_num]? = some f_law04_num := Go.Proofs.Tryd.func33

theorem r_law04_num : ∀ args w, (callFunc c_law04_num args).run Pg w = .ok (.enter c_law04_num args) w := Go.Proofs.Tryd.call33

abbrev c_model_choice : FuncId := 34

noncomputable abbrev f_model_choice : Func := Go.Proofs.Tryd.f34

theorem e_model_choice : Pg.funcs[c_model_choice]? = some f_model_choice := Go.Proofs.Tryd.func34

theorem r_model_choice : ∀ args w, (callFunc c_model_choice args).run Pg w = .ok (.enter c_model_choice args) w := Go.Proofs.Tryd.call34

abbrev c_model_Kept : FuncId := 35

noncomputable abbrev f_model_Kept : Func := Go.Proofs.Tryd.f35

theorem e_model_Kept : Pg.funcs[c_model_Kept]? = some f_model_Kept := Go.Proofs.Tryd.func35

theorem r_model_Kept : ∀ args w, (callFunc c_model_Kept args).run Pg w = .ok (.enter c_model_Kept args) w := Go.Proofs.Tryd.call35

abbrev c_model_Fixed_1 : FuncId := 36

noncomputable abbrev f_model_Fixed_1 : Func := Go.Proofs.Tryd.f36

theorem e_model_Fixed_1 : Pg.funcs[c_model_Fixed_1]? = some f_model_Fixed_1 := Go.Proofs.Tryd.func36

theorem r_model_Fixed_1 : ∀ args w, (callFunc c_model_Fixed_1 args).run Pg w = .ok (.enter c_model_Fixed_1 args) w := Go.Proofs.Tryd.call36

abbrev c_slices_ContainsFuncapi_Stateapi_State : FuncId := 37

noncomputable abbrev f_slices_ContainsFuncapi_Stateapi_State : Func := Go.Proofs.Tryd.f37

theorem e_slices_ContainsFuncapi_Stateapi_State : Pg.funcs[c_slices_ContainsFuncapi_Stateapi_State]? = some f_slices_ContainsFuncapi_Stateapi_State := Go.Proofs.Tryd.func37

theorem r_slices_ContainsFuncapi_Stateapi_State : ∀ args w, (callFunc c_slices_ContainsFuncapi_Stateapi_State args).run Pg w = .ok (.enter c_slices_ContainsFuncapi_Stateapi_State args) w := Go.Proofs.Tryd.call37

abbrev c_model_IsChain_1 : FuncId := 38

noncomputable abbrev f_model_IsChain_1 : Func := Go.Proofs.Tryd.f38

theorem e_model_IsChain_1 : Pg.funcs[c_model_IsChain_1]? = some f_model_IsChain_1 := Go.Proofs.Tryd.func38

theorem r_model_IsChain_1 : ∀ args w, (callFunc c_model_IsChain_1 args).run Pg w = .ok (.enter c_model_IsChain_1 args) w := Go.Proofs.Tryd.call38

abbrev c_model_FixedFor_1 : FuncId := 39

noncomputable abbrev f_model_FixedFor_1 : Func := Go.Proofs.Tryd.f39

theorem e_model_FixedFor_1 : Pg.funcs[c_model_FixedFor_1]? = some f_model_FixedFor_1 := Go.Proofs.Tryd.func39

theorem r_model_FixedFor_1 : ∀ args w, (callFunc c_model_FixedFor_1 args).run Pg w = .ok (.enter c_model_FixedFor_1 args) w := Go.Proofs.Tryd.call39

abbrev c_math_bits_Mul64 : FuncId := 40

noncomputable abbrev f_math_bits_Mul64 : Func := Go.Proofs.Tryd.f40

theorem e_math_bits_Mul64 : Pg.funcs[c_math_bits_Mul64]? = some f_math_bits_Mul64 := Go.Proofs.Tryd.func40

theorem r_math_bits_Mul64 : ∀ args w, (callFunc c_math_bits_Mul64 args).run Pg w = .ok (.enter c_math_bits_Mul64 args) w := Go.Proofs.Tryd.call40

abbrev c_exact_Int_Sign : FuncId := 41

noncomputable abbrev f_exact_Int_Sign : Func := Go.Proofs.Tryd.f41

theorem e_exact_Int_Sign : Pg.funcs[c_exact_Int_Sign]? = some f_exact_Int_Sign := Go.Proofs.Tryd.func41

theorem r_exact_Int_Sign : ∀ args w, (callFunc c_exact_Int_Sign args).run Pg w = .ok (.enter c_exact_Int_Sign args) w := Go.Proofs.Tryd.call41

abbrev c_exact_Int_digits : FuncId := 42

noncomputable abbrev f_exact_Int_digits : Func := Go.Proofs.Tryd.f42

theorem e_exact_Int_digits : Pg.funcs[c_exact_Int_digits]? = some f_exact_Int_digits := Go.Proofs.Tryd.func42

theorem r_exact_Int_digits : ∀ args w, (callFunc c_exact_Int_digits args).run Pg w = .ok (.enter c_exact_Int_digits args) w := Go.Proofs.Tryd.call42

abbrev c_exact_made : FuncId := 43

noncomputable abbrev f_exact_made : Func := Go.Proofs.Tryd.f43

theorem e_exact_made : Pg.funcs[c_exact_made]? = some f_exact_made := Go.Proofs.Tryd.func43

theorem r_exact_made : ∀ args w, (callFunc c_exact_made args).run Pg w = .ok (.enter c_exact_made args) w := Go.Proofs.Tryd.call43

abbrev c_exact_Int_Sub : FuncId := 44

noncomputable abbrev f_exact_Int_Sub : Func := Go.Proofs.Tryd.f44

theorem e_exact_Int_Sub : Pg.funcs[c_exact_Int_Sub]? = some f_exact_Int_Sub := Go.Proofs.Tryd.func44

theorem r_exact_Int_Sub : ∀ args w, (callFunc c_exact_Int_Sub args).run Pg w = .ok (.enter c_exact_Int_Sub args) w := Go.Proofs.Tryd.call44

abbrev c_exact_compare : FuncId := 45

noncomputable abbrev f_exact_compare : Func := Go.Proofs.Tryd.f45

theorem e_exact_compare : Pg.funcs[c_exact_compare]? = some f_exact_compare := Go.Proofs.Tryd.func45

theorem r_exact_compare : ∀ args w, (callFunc c_exact_compare args).run Pg w = .ok (.enter c_exact_compare args) w := Go.Proofs.Tryd.call45

abbrev c_exact_short : FuncId := 46

noncomputable abbrev f_exact_short : Func := Go.Proofs.Tryd.f46

theorem e_exact_short : Pg.funcs[c_exact_short]? = some f_exact_short := Go.Proofs.Tryd.func46

theorem r_exact_short : ∀ args w, (callFunc c_exact_short args).run Pg w = .ok (.enter c_exact_short args) w := Go.Proofs.Tryd.call46

abbrev c_exact_long : FuncId := 47

noncomputable abbrev f_exact_long : Func := Go.Proofs.Tryd.f47

theorem e_exact_long : Pg.funcs[c_exact_long]? = some f_exact_long := Go.Proofs.Tryd.func47

theorem r_exact_long : ∀ args w, (callFunc c_exact_long args).run Pg w = .ok (.enter c_exact_long args) w := Go.Proofs.Tryd.call47

abbrev c_strings_Builder_copyCheck : FuncId := 48

theorem r_strings_Builder_copyCheck : ∀ args w, (callFunc c_strings_Builder_copyCheck args).run Pg w = .ok (.enter c_strings_Builder_copyCheck args) w := Go.Proofs.Tryd.call48

abbrev c_num_Valid : FuncId := 50

noncomputable abbrev f_num_Valid : Func := Go.Proofs.Tryd.f50

theorem e_num_Valid : Pg.funcs[c_num_Valid]? = some f_num_Valid := Go.Proofs.Tryd.func50

theorem r_num_Valid : ∀ args w, (callFunc c_num_Valid args).run Pg w = .ok (.enter c_num_Valid args) w := Go.Proofs.Tryd.call50

abbrev c_exact_Rat_Add : FuncId := 51

noncomputable abbrev f_exact_Rat_Add : Func := Go.Proofs.Tryd.f51

theorem e_exact_Rat_Add : Pg.funcs[c_exact_Rat_Add]? = some f_exact_Rat_Add := Go.Proofs.Tryd.func51

theorem r_exact_Rat_Add : ∀ args w, (callFunc c_exact_Rat_Add args).run Pg w = .ok (.enter c_exact_Rat_Add args) w := Go.Proofs.Tryd.call51

abbrev c_num_Rat : FuncId := 52

noncomputable abbrev f_num_Rat : Func := Go.Proofs.Tryd.f52

theorem e_num_Rat : Pg.funcs[c_num_Rat]? = some f_num_Rat := Go.Proofs.Tryd.func52

theorem r_num_Rat : ∀ args w, (callFunc c_num_Rat args).run Pg w = .ok (.enter c_num_Rat args) w := Go.Proofs.Tryd.call52

abbrev c_exact_Rat_Cmp : FuncId := 53

noncomputable abbrev f_exact_Rat_Cmp : Func := Go.Proofs.Tryd.f53

theorem e_exact_Rat_Cmp : Pg.funcs[c_exact_Rat_Cmp]? = some f_exact_Rat_Cmp := Go.Proofs.Tryd.func53

theorem r_exact_Rat_Cmp : ∀ args w, (callFunc c_exact_Rat_Cmp args).run Pg w = .ok (.enter c_exact_Rat_Cmp args) w := Go.Proofs.Tryd.call53

abbrev c_exact_Whole : FuncId := 54

noncomputable abbrev f_exact_Whole : Func := Go.Proofs.Tryd.f54

theorem e_exact_Whole : Pg.funcs[c_exact_Whole]? = some f_exact_Whole := Go.Proofs.Tryd.func54

theorem r_exact_Whole : ∀ args w, (callFunc c_exact_Whole args).run Pg w = .ok (.enter c_exact_Whole args) w := Go.Proofs.Tryd.call54

abbrev c_model_Own : FuncId := 55

noncomputable abbrev f_model_Own : Func := Go.Proofs.Tryd.f55

theorem e_model_Own : Pg.funcs[c_model_Own]? = some f_model_Own := Go.Proofs.Tryd.func55

theorem r_model_Own : ∀ args w, (callFunc c_model_Own args).run Pg w = .ok (.enter c_model_Own args) w := Go.Proofs.Tryd.call55

abbrev c_slices_IndexFuncapi_Stateapi_State : FuncId := 56

noncomputable abbrev f_slices_IndexFuncapi_Stateapi_State : Func := Go.Proofs.Tryd.f56

theorem e_slices_IndexFuncapi_Stateapi_State : Pg.funcs[c_slices_IndexFuncapi_Stateapi_State]? = some f_slices_IndexFuncapi_Stateapi_State := Go.Proofs.Tryd.func56

theorem r_slices_IndexFuncapi_Stateapi_State : ∀ args w, (callFunc c_slices_IndexFuncapi_Stateapi_State args).run Pg w = .ok (.enter c_slices_IndexFuncapi_Stateapi_State args) w := Go.Proofs.Tryd.call56

abbrev c_exact_trim : FuncId := 57

noncomputable abbrev f_exact_trim : Func := Go.Proofs.Tryd.f57

theorem e_exact_trim : Pg.funcs[c_exact_trim]? = some f_exact_trim := Go.Proofs.Tryd.func57

theorem r_exact_trim : ∀ args w, (callFunc c_exact_trim args).run Pg w = .ok (.enter c_exact_trim args) w := Go.Proofs.Tryd.call57

abbrev c_exact_Int_Add : FuncId := 58

noncomputable abbrev f_exact_Int_Add : Func := Go.Proofs.Tryd.f58

theorem e_exact_Int_Add : Pg.funcs[c_exact_Int_Add]? = some f_exact_Int_Add := Go.Proofs.Tryd.func58

theorem r_exact_Int_Add : ∀ args w, (callFunc c_exact_Int_Add args).run Pg w = .ok (.enter c_exact_Int_Add args) w := Go.Proofs.Tryd.call58

abbrev c_exact_Int_Neg : FuncId := 59

noncomputable abbrev f_exact_Int_Neg : Func := Go.Proofs.Tryd.f59

theorem e_exact_Int_Neg : Pg.funcs[c_exact_Int_Neg]? = some f_exact_Int_Neg := Go.Proofs.Tryd.func59

theorem r_exact_Int_Neg : ∀ args w, (callFunc c_exact_Int_Neg args).run Pg w = .ok (.enter c_exact_Int_Neg args) w := Go.Proofs.Tryd.call59

abbrev c_math_bits_Div32 : FuncId := 60

noncomputable abbrev f_math_bits_Div32 : Func := Go.Proofs.Tryd.f60

theorem e_math_bits_Div32 : Pg.funcs[c_math_bits_Div32]? = some f_math_bits_Div32 := Go.Proofs.Tryd.func60

theorem r_math_bits_Div32 : ∀ args w, (callFunc c_math_bits_Div32 args).run Pg w = .ok (.enter c_math_bits_Div32 args) w := Go.Proofs.Tryd.call60

abbrev c_math_bits_LeadingZeros32 : FuncId := 61

noncomputable abbrev f_math_bits_LeadingZeros32 : Func := Go.Proofs.Tryd.f61

theorem e_math_bits_LeadingZeros32 : Pg.funcs[c_math_bits_LeadingZeros32]? = some f_math_bits_LeadingZeros32 := Go.Proofs.Tryd.func61

theorem r_math_bits_LeadingZeros32 : ∀ args w, (callFunc c_math_bits_LeadingZeros32 args).run Pg w = .ok (.enter c_math_bits_LeadingZeros32 args) w := Go.Proofs.Tryd.call61

abbrev c_exact_shifted : FuncId := 62

noncomputable abbrev f_exact_shifted : Func := Go.Proofs.Tryd.f62

theorem e_exact_shifted : Pg.funcs[c_exact_shifted]? = some f_exact_shifted := Go.Proofs.Tryd.func62

theorem r_exact_shifted : ∀ args w, (callFunc c_exact_shifted args).run Pg w = .ok (.enter c_exact_shifted args) w := Go.Proofs.Tryd.call62

abbrev c_math_bits_Add32 : FuncId := 63

noncomputable abbrev f_math_bits_Add32 : Func := Go.Proofs.Tryd.f63

theorem e_math_bits_Add32 : Pg.funcs[c_math_bits_Add32]? = some f_math_bits_Add32 := Go.Proofs.Tryd.func63

theorem r_math_bits_Add32 : ∀ args w, (callFunc c_math_bits_Add32 args).run Pg w = .ok (.enter c_math_bits_Add32 args) w := Go.Proofs.Tryd.call63

abbrev c_exact_Gcd : FuncId := 66

noncomputable abbrev f_exact_Gcd : Func := Go.Proofs.Tryd.f66

theorem e_exact_Gcd : Pg.funcs[c_exact_Gcd]? = some f_exact_Gcd := Go.Proofs.Tryd.func66

theorem r_exact_Gcd : ∀ args w, (callFunc c_exact_Gcd args).run Pg w = .ok (.enter c_exact_Gcd args) w := Go.Proofs.Tryd.call66

abbrev c_exact_Rat_whole : FuncId := 67

noncomputable abbrev f_exact_Rat_whole : Func := Go.Proofs.Tryd.f67

theorem e_exact_Rat_whole : Pg.funcs[c_exact_Rat_whole]? = some f_exact_Rat_whole := Go.Proofs.Tryd.func67

theorem r_exact_Rat_whole : ∀ args w, (callFunc c_exact_Rat_whole args).run Pg w = .ok (.enter c_exact_Rat_whole args) w := Go.Proofs.Tryd.call67

abbrev c_exact_Ratio : FuncId := 68

noncomputable abbrev f_exact_Ratio : Func := Go.Proofs.Tryd.f68

theorem e_exact_Ratio : Pg.funcs[c_exact_Ratio]? = some f_exact_Ratio := Go.Proofs.Tryd.func68

theorem r_exact_Ratio : ∀ args w, (callFunc c_exact_Ratio args).run Pg w = .ok (.enter c_exact_Ratio args) w := Go.Proofs.Tryd.call68

abbrev c_exact_Rat_Low : FuncId := 69

noncomputable abbrev f_exact_Rat_Low : Func := Go.Proofs.Tryd.f69

theorem e_exact_Rat_Low : Pg.funcs[c_exact_Rat_Low]? = some f_exact_Rat_Low := Go.Proofs.Tryd.func69

theorem r_exact_Rat_Low : ∀ args w, (callFunc c_exact_Rat_Low args).run Pg w = .ok (.enter c_exact_Rat_Low args) w := Go.Proofs.Tryd.call69

abbrev c_exact_Rat_Sub : FuncId := 70

noncomputable abbrev f_exact_Rat_Sub : Func := Go.Proofs.Tryd.f70

theorem e_exact_Rat_Sub : Pg.funcs[c_exact_Rat_Sub]? = some f_exact_Rat_Sub := Go.Proofs.Tryd.func70

theorem r_exact_Rat_Sub : ∀ args w, (callFunc c_exact_Rat_Sub args).run Pg w = .ok (.enter c_exact_Rat_Sub args) w := Go.Proofs.Tryd.call70

abbrev c_exact_Rat_Sign : FuncId := 71

noncomputable abbrev f_exact_Rat_Sign : Func := Go.Proofs.Tryd.f71

theorem e_exact_Rat_Sign : Pg.funcs[c_exact_Rat_Sign]? = some f_exact_Rat_Sign := Go.Proofs.Tryd.func71

theorem r_exact_Rat_Sign : ∀ args w, (callFunc c_exact_Rat_Sign args).run Pg w = .ok (.enter c_exact_Rat_Sign args) w := Go.Proofs.Tryd.call71

abbrev c_slices_Cloneapi_Branchapi_Branch : FuncId := 72

noncomputable abbrev f_slices_Cloneapi_Branchapi_Branch : Func := Go.Proofs.Tryd.f72

theorem e_slices_Cloneapi_Branchapi_Branch : Pg.funcs[c_slices_Cloneapi_Branchapi_Branch]? = some f_slices_Cloneapi_Branchapi_Branch := Go.Proofs.Tryd.func72

theorem r_slices_Cloneapi_Branchapi_Branch : ∀ args w, (callFunc c_slices_Cloneapi_Branchapi_Branch args).run Pg w = .ok (.enter c_slices_Cloneapi_Branchapi_Branch args) w := Go.Proofs.Tryd.call72

abbrev c_exact_plus : FuncId := 73

noncomputable abbrev f_exact_plus : Func := Go.Proofs.Tryd.f73

theorem e_exact_plus : Pg.funcs[c_exact_plus]? = some f_exact_plus := Go.Proofs.Tryd.func73

theorem r_exact_plus : ∀ args w, (callFunc c_exact_plus args).run Pg w = .ok (.enter c_exact_plus args) w := Go.Proofs.Tryd.call73

abbrev c_exact_minus : FuncId := 74

noncomputable abbrev f_exact_minus : Func := Go.Proofs.Tryd.f74

theorem e_exact_minus : Pg.funcs[c_exact_minus]? = some f_exact_minus := Go.Proofs.Tryd.func74

theorem r_exact_minus : ∀ args w, (callFunc c_exact_minus args).run Pg w = .ok (.enter c_exact_minus args) w := Go.Proofs.Tryd.call74

abbrev c_math_bits_Len32 : FuncId := 75

noncomputable abbrev f_math_bits_Len32 : Func := Go.Proofs.Tryd.f75

theorem e_math_bits_Len32 : Pg.funcs[c_math_bits_Len32]? = some f_math_bits_Len32 := Go.Proofs.Tryd.func75

theorem r_math_bits_Len32 : ∀ args w, (callFunc c_math_bits_Len32 args).run Pg w = .ok (.enter c_math_bits_Len32 args) w := Go.Proofs.Tryd.call75

abbrev c_exact_Int_Abs : FuncId := 80

noncomputable abbrev f_exact_Int_Abs : Func := Go.Proofs.Tryd.f80

theorem e_exact_Int_Abs : Pg.funcs[c_exact_Int_Abs]? = some f_exact_Int_Abs := Go.Proofs.Tryd.func80

theorem r_exact_Int_Abs : ∀ args w, (callFunc c_exact_Int_Abs args).run Pg w = .ok (.enter c_exact_Int_Abs args) w := Go.Proofs.Tryd.call80

abbrev c_exact_one : FuncId := 81

noncomputable abbrev f_exact_one : Func := Go.Proofs.Tryd.f81

theorem e_exact_one : Pg.funcs[c_exact_one]? = some f_exact_one := Go.Proofs.Tryd.func81

theorem r_exact_one : ∀ args w, (callFunc c_exact_one args).run Pg w = .ok (.enter c_exact_one args) w := Go.Proofs.Tryd.call81

abbrev c_exact_Rat_Neg : FuncId := 82

noncomputable abbrev f_exact_Rat_Neg : Func := Go.Proofs.Tryd.f82

theorem e_exact_Rat_Neg : Pg.funcs[c_exact_Rat_Neg]? = some f_exact_Rat_Neg := Go.Proofs.Tryd.func82

theorem r_exact_Rat_Neg : ∀ args w, (callFunc c_exact_Rat_Neg args).run Pg w = .ok (.enter c_exact_Rat_Neg args) w := Go.Proofs.Tryd.call82

abbrev c_math_bits_Sub32 : FuncId := 83

noncomputable abbrev f_math_bits_Sub32 : Func := Go.Proofs.Tryd.f83

theorem e_math_bits_Sub32 : Pg.funcs[c_math_bits_Sub32]? = some f_math_bits_Sub32 := Go.Proofs.Tryd.func83

theorem r_math_bits_Sub32 : ∀ args w, (callFunc c_math_bits_Sub32 args).run Pg w = .ok (.enter c_math_bits_Sub32 args) w := Go.Proofs.Tryd.call83

end Go.Proofs.Pf

namespace Go.Proofs.Pf

open Go Go.VM

set_option maxRecDepth 100000

def an_exact_Gcd : Ann := (.seq .nil (.seq .nil (.seq (.blk none (.loop ⟨[(2, .ref 2 0), (3, .ref 3 0), (4, .ref 4 0)], [.box 2 tEI, .box 3 tEI, .box 4 tEI]⟩ .nil)) .nil)))

theorem w_exact_Gcd {Q : DE → Prop} (a : DE) (b : DE) (hQ : ∃ r, Q r) (h :
  (callV Pg c_exact_Int_Abs [⟨tEI, a⟩] tEI (fun p0 => (callV Pg c_exact_Int_Abs [⟨tEI, b⟩] tEI (fun p1 => (loopV (DE × DR) (fun k2 => (fun p3 => (callV Pg c_exact_Int_Sign [⟨tEI, p3.2.1⟩] tI (fun p4 => (brV (notB (decide (p4 = (0 : Int)))) (callV Pg c_exact_Int_Quo [⟨tEI, p3.1⟩, ⟨tEI, p3.2.1⟩] (.tup (.pair tEI (.pair tEI .unit))) (fun p5 => (k2 (p3.2.1, (p5.2.1, p3.2.2))))) (Q p3.1)))))) (p0, (p1, ((0 : Int), none))))))))) :
  callV Pg c_exact_Gcd [⟨tEI, a⟩, ⟨tEI, b⟩] tEI Q :=
  callV_of (c := bodyOf f_exact_Gcd) (ann := an_exact_Gcd) e_exact_Gcd rfl r_exact_Gcd rfl rfl hQ (kcast (by kernel_rfl) h)

def an_exact_Int_Abs : Ann := .nil

theorem w_exact_Int_Abs {Q : DE → Prop} (a : DE) (hQ : ∃ r, Q r) (h :
  (brV (decide (a.1 < (0 : Int))) (callV Pg c_exact_Int_Neg [⟨tEI, a⟩] tEI (fun p0 => (Q p0))) (Q a))) :
  callV Pg c_exact_Int_Abs [⟨tEI, a⟩] tEI Q :=
  callV_of (c := bodyOf f_exact_Int_Abs) (ann := an_exact_Int_Abs) e_exact_Int_Abs rfl r_exact_Int_Abs rfl rfl hQ (kcast (by kernel_rfl) h)

def an_exact_Int_Add : Ann := (.seq .nil (.seq (.seq (.reg [] [] (some ⟨[(2, .ref 2 0), (3, .ref 3 0), (4, .ref 4 0)], [.var 16 (.bool), .box 2 tEI, .box 3 tEI, .box 4 tEI]⟩)) .nil) .nil))

theorem w_exact_Int_Add {Q : DE → Prop} (a : DE) (b : DE) (hQ : ∃ r, Q r) (h :
  (joinV (Bool × (DE × DR)) (fun p0 => (brV p0.1 (callV Pg c_exact_Of [⟨tI, (IntKind.wrap IntKind.i64 (p0.2.1.1 + p0.2.2.1.1))⟩] tEI (fun p1 => (Q p1))) (callV Pg c_exact_Int_digits [⟨tEI, p0.2.1⟩] (.tup (.pair tI (.pair tD .unit))) (fun p1 => (callV Pg c_exact_Int_digits [⟨tEI, p0.2.2.1⟩] (.tup (.pair tI (.pair tD .unit))) (fun p2 => (brV (decide (p1.1 = (0 : Int))) (Q p0.2.2.1) (brV (decide (p2.1 = (0 : Int))) (Q p0.2.1) (brV (decide (p1.1 = p2.1)) (callV Pg c_exact_plus [⟨tD, p1.2.1⟩, ⟨tD, p2.2.1⟩] tD (fun p3 => (callV Pg c_exact_made [⟨tI, p1.1⟩, ⟨tD, p3⟩] tEI (fun p4 => (Q p4))))) (callV Pg c_exact_compare [⟨tD, p1.2.1⟩, ⟨tD, p2.2.1⟩] tI (fun p3 => (brV (decide ((0 : Int) ≤ p3)) (callV Pg c_exact_minus [⟨tD, p1.2.1⟩, ⟨tD, p2.2.1⟩] tD (fun p4 => (callV Pg c_exact_made [⟨tI, p1.1⟩, ⟨tD, p4⟩] tEI (fun p5 => (Q p5))))) (callV Pg c_exact_minus [⟨tD, p2.2.1⟩, ⟨tD, p1.2.1⟩] tD (fun p4 => (callV Pg c_exact_made [⟨tI, p2.1⟩, ⟨tD, p4⟩] tEI (fun p5 => (Q p5))))))))))))))))) (fun k0 => (brV (Option.isNone a.2) (k0 ((Option.isNone b.2), (a, (b, ((0 : Int), none))))) (k0 (false, (a, (b, ((0 : Int), none))))))))) :
  callV Pg c_exact_Int_Add [⟨tEI, a⟩, ⟨tEI, b⟩] tEI Q :=
  callV_of (c := bodyOf f_exact_Int_Add) (ann := an_exact_Int_Add) e_exact_Int_Add rfl r_exact_Int_Add rfl rfl hQ (kcast (by kernel_rfl) h)

def an_exact_Int_Int : Ann := (.seq .nil (.seq (.seq (.reg [] [] (some ⟨[(2, .ref 2 0)], [.var 21 (.bool), .box 2 tEI]⟩)) .nil) .nil))

theorem w_exact_Int_Int {Q : (Int × (Bool × Unit)) → Prop} (a : DE) (b : Int) (hQ : ∃ r, Q r) (h :
  (joinV (Bool × DE) (fun p0 => (brV p0.1 (Q ((0 : Int), (false, ()))) (Q (p0.2.1, (true, ()))))) (fun k0 => (brV (notB (Option.isNone a.2)) (k0 (true, a)) (brV (decide (b < a.1)) (k0 (true, a)) (k0 ((decide (a.1 < (IntKind.wrap IntKind.i64 ((0 : Int) - b)))), a))))))) :
  callV Pg c_exact_Int_Int [⟨tEI, a⟩, ⟨tI, b⟩] (.tup (.pair tI (.pair .bool .unit))) Q :=
  callV_of (c := bodyOf f_exact_Int_Int) (ann := an_exact_Int_Int) e_exact_Int_Int rfl r_exact_Int_Int rfl rfl hQ (kcast (by kernel_rfl) h)

def an_exact_Int_Neg : Ann := .nil

theorem w_exact_Int_Neg {Q : DE → Prop} (a : DE) (hQ : ∃ r, Q r) (h :
  (Q ((IntKind.wrap IntKind.i64 ((0 : Int) - a.1)), a.2))) :
  callV Pg c_exact_Int_Neg [⟨tEI, a⟩] tEI Q :=
  callV_of (c := bodyOf f_exact_Int_Neg) (ann := an_exact_Int_Neg) e_exact_Int_Neg rfl r_exact_Int_Neg rfl rfl hQ (kcast (by kernel_rfl) h)

def an_exact_Int_Quo : Ann := (.seq .nil (.seq (.seq (.reg [] [] (some ⟨[(2, .ref 2 0), (3, .ref 3 0), (4, .ref 4 0), (5, .ref 5 0)], [.var 21 (.bool), .box 2 tEI, .box 3 tEI, .box 4 tEI, .box 5 tEI]⟩)) .nil) (.seq .nil (.seq .nil (.seq .nil (.seq (.seq .nil (.cond none (.seq .nil (.seq (.reg [] [(8, ([68], false))] none) .nil)) .nil)) .nil))))))

theorem w_exact_Int_Quo {Q : (DE × (DE × Unit)) → Prop} (a : DE) (b : DE) (hQ : ∃ r, Q r) (h :
  (joinV (Bool × (DE × (DE × DR))) (fun p0 => (brV p0.1 ((p0.2.2.1.1 ≠ (0 : Int)) ∧ ((p0.2.2.1.1 ≠ (0 : Int)) ∧ (Q (((IntKind.wrap IntKind.i64 (Int.tdiv p0.2.1.1 p0.2.2.1.1)), none), (((Int.tmod p0.2.1.1 p0.2.2.1.1), none), ()))))) (callV Pg c_exact_Int_digits [⟨tEI, p0.2.1⟩] (.tup (.pair tI (.pair tD .unit))) (fun p1 => (callV Pg c_exact_Int_digits [⟨tEI, p0.2.2.1⟩] (.tup (.pair tI (.pair tD .unit))) (fun p2 => (callV Pg c_exact_compare [⟨tD, p1.2.1⟩, ⟨tD, p2.2.1⟩] tI (fun p3 => (brV (decide (p3 < (0 : Int))) (Q (((0 : Int), none), (p0.2.1, ()))) (brV (decide ((szSl p2.2.1) = (1 : Int))) ((inS p2.2.1 (0 : Int)) ∧ (callV Pg c_exact_short [⟨tD, p1.2.1⟩, ⟨tU, (eltS (0 : Int) p2.2.1 (0 : Int))⟩] (.tup (.pair tD (.pair tU .unit))) (fun p4 => (callV Pg c_exact_made [⟨tI, (IntKind.wrap IntKind.i64 (p1.1 * p2.1))⟩, ⟨tD, p4.1⟩] tEI (fun p5 => (callV Pg c_exact_made [⟨tI, p1.1⟩, ⟨tD, (some [p4.2.1])⟩] tEI (fun p6 => (Q (p5, (p6, ())))))))))) (callV Pg c_exact_long [⟨tD, p1.2.1⟩, ⟨tD, p2.2.1⟩] (.tup (.pair tD (.pair tD .unit))) (fun p4 => (callV Pg c_exact_made [⟨tI, (IntKind.wrap IntKind.i64 (p1.1 * p2.1))⟩, ⟨tD, p4.1⟩] tEI (fun p5 => (callV Pg c_exact_made [⟨tI, p1.1⟩, ⟨tD, p4.2.1⟩] tEI (fun p6 => (Q (p5, (p6, ()))))))))))))))))))) (fun k0 => (brV (Option.isNone a.2) (k0 ((Option.isNone b.2), (a, (b, (((0 : Int), none), ((0 : Int), none)))))) (k0 (false, (a, (b, (((0 : Int), none), ((0 : Int), none)))))))))) :
  callV Pg c_exact_Int_Quo [⟨tEI, a⟩, ⟨tEI, b⟩] (.tup (.pair tEI (.pair tEI .unit))) Q :=
  callV_of (c := bodyOf f_exact_Int_Quo) (ann := an_exact_Int_Quo) e_exact_Int_Quo rfl r_exact_Int_Quo rfl rfl hQ (kcast (by kernel_rfl) h)

def an_exact_Int_Sign : Ann := .nil

theorem w_exact_Int_Sign {Q : Int → Prop} (a : DE) (hQ : ∃ r, Q r) (h :
  (brV (decide ((0 : Int) < a.1)) (Q (1 : Int)) (brV (decide (a.1 < (0 : Int))) (Q (-(1 : Int))) (Q (0 : Int))))) :
  callV Pg c_exact_Int_Sign [⟨tEI, a⟩] tI Q :=
  callV_of (c := bodyOf f_exact_Int_Sign) (ann := an_exact_Int_Sign) e_exact_Int_Sign rfl r_exact_Int_Sign rfl rfl hQ (kcast (by kernel_rfl) h)

def an_exact_Int_Sub : Ann := .nil

theorem w_exact_Int_Sub {Q : DE → Prop} (a : DE) (b : DE) (hQ : ∃ r, Q r) (h :
  (callV Pg c_exact_Int_Neg [⟨tEI, b⟩] tEI (fun p0 => (callV Pg c_exact_Int_Add [⟨tEI, a⟩, ⟨tEI, p0⟩] tEI (fun p1 => (Q p1)))))) :
  callV Pg c_exact_Int_Sub [⟨tEI, a⟩, ⟨tEI, b⟩] tEI Q :=
  callV_of (c := bodyOf f_exact_Int_Sub) (ann := an_exact_Int_Sub) e_exact_Int_Sub rfl r_exact_Int_Sub rfl rfl hQ (kcast (by kernel_rfl) h)

def an_exact_Int_digits : Ann := (.seq .nil (.seq .nil (.seq .nil (.seq (.blk none (.seq .nil (.cond (some ⟨[], [.var 4 tI, .var 5 (.int .u64)]⟩) .nil (.seq .nil (.cond (some ⟨[], [.var 4 tI, .var 5 (.int .u64)]⟩) .nil .nil))))) (.seq (.reg [] [(7, ([34], false))] none) .nil)))))

theorem w_exact_Int_digits {Q : (Int × (DL × Unit)) → Prop} (a : DE) (hQ : ∃ r, Q r) (h :
  (brV (notB (Option.isNone a.2)) (Q (a.1, (a.2, ()))) (joinV (Int × Int) (fun p0 => (((0 : Int) ≤ (32 : Int)) ∧ (callV Pg c_exact_trim [⟨tD, (some [(IntKind.wrap IntKind.u32 p0.2), (IntKind.wrap IntKind.u32 (shrI IntKind.u64 p0.2 (32 : Int)))])⟩] tD (fun p1 => (Q (p0.1, (p1, ()))))))) (fun k0 => (brV (decide ((0 : Int) < a.1)) (k0 ((1 : Int), (IntKind.wrap IntKind.u64 a.1))) (joinV (Int × Int) (fun p1 => (k0 p1)) (fun k1 => (brV (decide (a.1 < (0 : Int))) (k1 ((-(1 : Int)), (IntKind.wrap IntKind.u64 (IntKind.wrap IntKind.i64 ((0 : Int) - a.1))))) (k1 ((0 : Int), (0 : Int))))))))))) :
  callV Pg c_exact_Int_digits [⟨tEI, a⟩] (.tup (.pair tI (.pair tD .unit))) Q :=
  callV_of (c := bodyOf f_exact_Int_digits) (ann := an_exact_Int_digits) e_exact_Int_digits rfl r_exact_Int_digits rfl rfl hQ (kcast (by kernel_rfl) h)

def an_exact_Of : Ann := (.seq .nil (.seq (.seq (.reg [] [] (some ⟨[(2, .ref 2 0)], [.var 0 tI, .var 10 (.bool), .box 2 tEI]⟩)) .nil) (.seq .nil (.seq .nil (.seq (.seq .nil (.cond (some ⟨[(2, .ref 2 0)], [.var 3 tI, .var 4 (.int .u64), .box 2 tEI]⟩) .nil .nil)) .nil)))))

theorem w_exact_Of {Q : DE → Prop} (a : Int) (hQ : ∃ r, Q r) (h :
  (joinV (Int × (Bool × DE)) (fun p0 => (brV p0.2.1 (Q (p0.1, none)) (joinV (Int × (Int × DE)) (fun p1 => (((0 : Int) ≤ (32 : Int)) ∧ (Q (p1.1, (some [(IntKind.wrap IntKind.u32 p1.2.1), (IntKind.wrap IntKind.u32 (shrI IntKind.u64 p1.2.1 (32 : Int)))]))))) (fun k1 => (brV (decide (p0.1 < (0 : Int))) (k1 ((-(1 : Int)), ((IntKind.wrap IntKind.u64 ((0 : Int) - (IntKind.wrap IntKind.u64 p0.1))), p0.2.2))) (k1 ((1 : Int), ((IntKind.wrap IntKind.u64 p0.1), p0.2.2)))))))) (fun k0 => (brV (decide ((-(4611686018427387904 : Int)) < a)) (k0 (a, ((decide (a < (4611686018427387904 : Int))), ((0 : Int), none)))) (k0 (a, (false, ((0 : Int), none)))))))) :
  callV Pg c_exact_Of [⟨tI, a⟩] tEI Q :=
  callV_of (c := bodyOf f_exact_Of) (ann := an_exact_Of) e_exact_Of rfl r_exact_Of rfl rfl hQ (kcast (by kernel_rfl) h)

def an_exact_Rat_Add : Ann := (.seq .nil (.seq (.seq (.reg [] [] (some ⟨[(2, .ref 2 0), (3, .ref 3 0), (4, .ref 4 0)], [.var 10 (.bool), .box 2 tER, .box 3 tER, .box 4 tER]⟩)) .nil) .nil))

theorem w_exact_Rat_Add {Q : DR → Prop} (a : DR) (b : DR) (hQ : ∃ r, Q r) (h :
  (joinV (Bool × (DR × (DR × DR))) (fun p0 => (brV p0.1 (callV Pg c_exact_Int_Add [⟨tEI, p0.2.1.1⟩, ⟨tEI, p0.2.2.1.1⟩] tEI (fun p1 => (Q (p1, ((0 : Int), none))))) (callV Pg c_exact_Rat_Low [⟨tER, (p0.2.2.1.1, p0.2.2.1.2)⟩] tEI (fun p1 => (callV Pg c_exact_Int_Mul [⟨tEI, p0.2.1.1⟩, ⟨tEI, p1⟩] tEI (fun p2 => (callV Pg c_exact_Rat_Low [⟨tER, (p0.2.1.1, p0.2.1.2)⟩] tEI (fun p3 => (callV Pg c_exact_Int_Mul [⟨tEI, p0.2.2.1.1⟩, ⟨tEI, p3⟩] tEI (fun p4 => (callV Pg c_exact_Int_Add [⟨tEI, p2⟩, ⟨tEI, p4⟩] tEI (fun p5 => (callV Pg c_exact_Rat_Low [⟨tER, (p0.2.1.1, p0.2.1.2)⟩] tEI (fun p6 => (callV Pg c_exact_Rat_Low [⟨tER, (p0.2.2.1.1, p0.2.2.1.2)⟩] tEI (fun p7 => (callV Pg c_exact_Int_Mul [⟨tEI, p6⟩, ⟨tEI, p7⟩] tEI (fun p8 => (callV Pg c_exact_Ratio [⟨tEI, p5⟩, ⟨tEI, p8⟩] tER (fun p9 => (Q (p9.1, p9.2)))))))))))))))))))))) (fun k0 => (callV Pg c_exact_Rat_whole [⟨tER, (a.1, a.2)⟩] .bool (fun p1 => (brV p1 (callV Pg c_exact_Rat_whole [⟨tER, (b.1, b.2)⟩] .bool (fun p2 => (k0 (p2, ((a.1, a.2), ((b.1, b.2), (((0 : Int), none), ((0 : Int), none)))))))) (k0 (false, ((a.1, a.2), ((b.1, b.2), (((0 : Int), none), ((0 : Int), none)))))))))))) :
  callV Pg c_exact_Rat_Add [⟨tER, a⟩, ⟨tER, b⟩] tER Q :=
  callV_of (c := bodyOf f_exact_Rat_Add) (ann := an_exact_Rat_Add) e_exact_Rat_Add rfl r_exact_Rat_Add rfl rfl hQ (kcast (by kernel_rfl) h)

def an_exact_Rat_Cmp : Ann := .nil

theorem w_exact_Rat_Cmp {Q : Int → Prop} (a : DR) (b : DR) (hQ : ∃ r, Q r) (h :
  (callV Pg c_exact_Rat_Sub [⟨tER, (a.1, a.2)⟩, ⟨tER, (b.1, b.2)⟩] tER (fun p0 => (callV Pg c_exact_Rat_Sign [⟨tER, (p0.1, p0.2)⟩] tI (fun p1 => (Q p1)))))) :
  callV Pg c_exact_Rat_Cmp [⟨tER, a⟩, ⟨tER, b⟩] tI Q :=
  callV_of (c := bodyOf f_exact_Rat_Cmp) (ann := an_exact_Rat_Cmp) e_exact_Rat_Cmp rfl r_exact_Rat_Cmp rfl rfl hQ (kcast (by kernel_rfl) h)

def an_exact_Rat_Low : Ann := .nil

theorem w_exact_Rat_Low {Q : DE → Prop} (a : DR) (hQ : ∃ r, Q r) (h :
  (callV Pg c_exact_Int_Sign [⟨tEI, a.2⟩] tI (fun p0 => (brV (decide (p0 = (0 : Int))) (callV Pg c_exact_one [] tEI (fun p1 => (Q p1))) (Q a.2))))) :
  callV Pg c_exact_Rat_Low [⟨tER, a⟩] tEI Q :=
  callV_of (c := bodyOf f_exact_Rat_Low) (ann := an_exact_Rat_Low) e_exact_Rat_Low rfl r_exact_Rat_Low rfl rfl hQ (kcast (by kernel_rfl) h)

def an_exact_Rat_Neg : Ann := .nil

theorem w_exact_Rat_Neg {Q : DR → Prop} (a : DR) (hQ : ∃ r, Q r) (h :
  (callV Pg c_exact_Int_Neg [⟨tEI, a.1⟩] tEI (fun p0 => (Q (p0, a.2))))) :
  callV Pg c_exact_Rat_Neg [⟨tER, a⟩] tER Q :=
  callV_of (c := bodyOf f_exact_Rat_Neg) (ann := an_exact_Rat_Neg) e_exact_Rat_Neg rfl r_exact_Rat_Neg rfl rfl hQ (kcast (by kernel_rfl) h)

def an_exact_Rat_Sign : Ann := .nil

theorem w_exact_Rat_Sign {Q : Int → Prop} (a : DR) (hQ : ∃ r, Q r) (h :
  (callV Pg c_exact_Int_Sign [⟨tEI, a.1⟩] tI (fun p0 => (Q p0)))) :
  callV Pg c_exact_Rat_Sign [⟨tER, a⟩] tI Q :=
  callV_of (c := bodyOf f_exact_Rat_Sign) (ann := an_exact_Rat_Sign) e_exact_Rat_Sign rfl r_exact_Rat_Sign rfl rfl hQ (kcast (by kernel_rfl) h)

def an_exact_Rat_Sub : Ann := .nil

theorem w_exact_Rat_Sub {Q : DR → Prop} (a : DR) (b : DR) (hQ : ∃ r, Q r) (h :
  (callV Pg c_exact_Rat_Neg [⟨tER, (b.1, b.2)⟩] tER (fun p0 => (callV Pg c_exact_Rat_Add [⟨tER, (a.1, a.2)⟩, ⟨tER, (p0.1, p0.2)⟩] tER (fun p1 => (Q (p1.1, p1.2))))))) :
  callV Pg c_exact_Rat_Sub [⟨tER, a⟩, ⟨tER, b⟩] tER Q :=
  callV_of (c := bodyOf f_exact_Rat_Sub) (ann := an_exact_Rat_Sub) e_exact_Rat_Sub rfl r_exact_Rat_Sub rfl rfl hQ (kcast (by kernel_rfl) h)

def an_exact_Rat_whole : Ann := (.seq .nil (.seq (.reg [] [] (some ⟨[], [.var 2 (.bool)]⟩)) .nil))

theorem w_exact_Rat_whole {Q : Bool → Prop} (a : DR) (hQ : ∃ r, Q r) (h :
  (joinV Bool (fun p0 => (Q p0)) (fun k0 => (brV (Option.isNone a.2.2) (k0 (decide (a.2.1 ≤ (1 : Int)))) (k0 false))))) :
  callV Pg c_exact_Rat_whole [⟨tER, a⟩] .bool Q :=
  callV_of (c := bodyOf f_exact_Rat_whole) (ann := an_exact_Rat_whole) e_exact_Rat_whole rfl r_exact_Rat_whole rfl rfl hQ (kcast (by kernel_rfl) h)

def an_exact_Ratio : Ann := (.seq .nil (.seq (.seq .nil (.seq (.reg [] [] (some ⟨[(2, .ref 2 0), (3, .ref 3 0), (4, .ref 4 0), (5, .ref 5 0)], [.var 16 (.bool), .box 2 tEI, .box 3 tEI, .box 4 tER, .box 5 tEI]⟩)) (.cond (some ⟨[(2, .ref 2 0), (3, .ref 3 0), (4, .ref 4 0)], [.box 2 tEI, .box 3 tEI, .box 4 tER]⟩) .nil .nil))) (.seq (.seq .nil (.cond (some ⟨[(2, .ref 2 0), (3, .ref 3 0), (4, .ref 4 0)], [.box 2 tEI, .box 3 tEI, .box 4 tER]⟩) .nil .nil)) .nil)))

theorem w_exact_Ratio {Q : DR → Prop} (a : DE) (b : DE) (hQ : ∃ r, Q r) (h :
  (callV Pg c_exact_Gcd [⟨tEI, a⟩, ⟨tEI, b⟩] tEI (fun p0 => (joinV (Bool × (DE × (DE × (DR × DE)))) (fun p1 => (joinV (DE × (DE × DR)) (fun p2 => (callV Pg c_exact_Int_Sign [⟨tEI, p2.2.1⟩] tI (fun p3 => (joinV (DE × (DE × DR)) (fun p4 => (Q (p4.1, p4.2.1))) (fun k4 => (brV (decide (p3 < (0 : Int))) (callV Pg c_exact_Int_Neg [⟨tEI, p2.1⟩] tEI (fun p5 => (callV Pg c_exact_Int_Neg [⟨tEI, p2.2.1⟩] tEI (fun p6 => (k4 (p5, (p6, (p2.2.2.1, p2.2.2.2)))))))) (k4 (p2.1, (p2.2.1, (p2.2.2.1, p2.2.2.2)))))))))) (fun k2 => (brV p1.1 (callV Pg c_exact_Int_Quo [⟨tEI, p1.2.1⟩, ⟨tEI, p1.2.2.2.2⟩] (.tup (.pair tEI (.pair tEI .unit))) (fun p3 => (callV Pg c_exact_Int_Quo [⟨tEI, p1.2.2.1⟩, ⟨tEI, p1.2.2.2.2⟩] (.tup (.pair tEI (.pair tEI .unit))) (fun p4 => (k2 (p3.1, (p4.1, (p1.2.2.2.1.1, p1.2.2.2.1.2)))))))) (k2 (p1.2.1, (p1.2.2.1, (p1.2.2.2.1.1, p1.2.2.2.1.2)))))))) (fun k1 => (brV (notB (decide (p0.1 = (1 : Int)))) (k1 (true, (a, (b, ((((0 : Int), none), ((0 : Int), none)), p0))))) (k1 ((notB (Option.isNone p0.2)), (a, (b, ((((0 : Int), none), ((0 : Int), none)), p0))))))))))) :
  callV Pg c_exact_Ratio [⟨tEI, a⟩, ⟨tEI, b⟩] tER Q :=
  callV_of (c := bodyOf f_exact_Ratio) (ann := an_exact_Ratio) e_exact_Ratio rfl r_exact_Ratio rfl rfl hQ (kcast (by kernel_rfl) h)

def an_exact_Whole : Ann := .nil

theorem w_exact_Whole {Q : DR → Prop} (a : Int) (hQ : ∃ r, Q r) (h :
  (callV Pg c_exact_Of [⟨tI, a⟩] tEI (fun p0 => (Q (p0, ((0 : Int), none)))))) :
  callV Pg c_exact_Whole [⟨tI, a⟩] tER Q :=
  callV_of (c := bodyOf f_exact_Whole) (ann := an_exact_Whole) e_exact_Whole rfl r_exact_Whole rfl rfl hQ (kcast (by kernel_rfl) h)

def an_exact_compare : Ann := (.seq .nil (.seq .nil (.seq (.seq .nil (.blk none (.loop ⟨[], [.var 0 tD, .var 1 tD, .var 5 tI]⟩ .nil))) .nil)))

theorem w_exact_compare {Q : Int → Prop} (a : DL) (b : DL) (hQ : ∃ r, Q r) (h :
  (brV (notB (decide ((szSl a) = (szSl b)))) (brV (decide ((szSl a) < (szSl b))) (Q (-(1 : Int))) (Q (1 : Int))) (loopV (DL × (DL × Int)) (fun k0 => (fun p1 => (brV (decide ((0 : Int) ≤ p1.2.2)) ((inS p1.1 p1.2.2) ∧ ((inS p1.2.1 p1.2.2) ∧ (brV (notB (decide ((eltS (0 : Int) p1.1 p1.2.2) = (eltS (0 : Int) p1.2.1 p1.2.2)))) ((inS p1.1 p1.2.2) ∧ ((inS p1.2.1 p1.2.2) ∧ (brV (decide ((eltS (0 : Int) p1.1 p1.2.2) < (eltS (0 : Int) p1.2.1 p1.2.2))) (Q (-(1 : Int))) (Q (1 : Int))))) (k0 (p1.1, (p1.2.1, (IntKind.wrap IntKind.i64 (p1.2.2 - (1 : Int))))))))) (Q (0 : Int))))) (a, (b, (IntKind.wrap IntKind.i64 ((szSl a) - (1 : Int)))))))) :
  callV Pg c_exact_compare [⟨tD, a⟩, ⟨tD, b⟩] tI Q :=
  callV_of (c := bodyOf f_exact_compare) (ann := an_exact_compare) e_exact_compare rfl r_exact_compare rfl rfl hQ (kcast (by kernel_rfl) h)

def an_exact_made : Ann := (.seq .nil (.seq .nil (.seq (.seq .nil (.cond (some ⟨[(4, .ref 4 0)], [.var 0 tI, .var 1 tD, .box 4 tEI]⟩) (.seq .nil (.seq (.seq .nil (.blk none (.loop ⟨[(4, .ref 4 0)], [.var 0 tI, .var 1 tD, .var 5 (.int .u64), .var 13 tD, .var 14 tI, .var 15 tI, .box 4 tEI]⟩ .nil))) .nil)) .nil)) .nil)))

theorem w_exact_made {Q : DE → Prop} (a : Int) (b : DL) (hQ : ∃ r, Q r) (h :
  (callV Pg c_exact_trim [⟨tD, b⟩] tD (fun p0 => (joinV (Int × (DL × DE)) (fun p1 => (Q (p1.1, p1.2.1))) (fun k1 => (brV (decide ((szSl p0) ≤ (2 : Int))) (loopV (Int × (DL × (Int × (DL × (Int × (Int × DE)))))) (fun k2 => (fun p3 => (brV (decide (p3.2.2.2.2.2.1 < p3.2.2.2.2.1)) ((inS p3.2.2.2.1 p3.2.2.2.2.2.1) ∧ (((0 : Int) ≤ (IntKind.wrap IntKind.i64 ((32 : Int) * p3.2.2.2.2.2.1))) ∧ (k2 (p3.1, (p3.2.1, ((bitI BinOp.or IntKind.u64 p3.2.2.1 (shlI IntKind.u64 (IntKind.wrap IntKind.u64 (eltS (0 : Int) p3.2.2.2.1 p3.2.2.2.2.2.1)) (IntKind.wrap IntKind.i64 ((32 : Int) * p3.2.2.2.2.2.1)))), (p3.2.2.2.1, (p3.2.2.2.2.1, ((IntKind.wrap IntKind.i64 (p3.2.2.2.2.2.1 + (1 : Int))), p3.2.2.2.2.2.2))))))))) (brV (decide (p3.2.2.1 < (4611686018427387904 : Int))) (Q ((IntKind.wrap IntKind.i64 (p3.1 * (IntKind.wrap IntKind.i64 p3.2.2.1))), none)) (k1 (p3.1, (p3.2.1, p3.2.2.2.2.2.2))))))) (a, (p0, ((0 : Int), (p0, ((szSl p0), ((0 : Int), ((0 : Int), none)))))))) (k1 (a, (p0, ((0 : Int), none)))))))))) :
  callV Pg c_exact_made [⟨tI, a⟩, ⟨tD, b⟩] tEI Q :=
  callV_of (c := bodyOf f_exact_made) (ann := an_exact_made) e_exact_made rfl r_exact_made rfl rfl hQ (kcast (by kernel_rfl) h)

def an_exact_minus : Ann := (.seq .nil (.seq .nil (.seq .nil (.seq (.seq .nil (.blk none (.loop ⟨[(5, .own 1005)], [.var 0 tD, .var 1 tD, .var 6 tU, .var 14 tI, .var 15 tI, .arr 1005 tU]⟩ (.seq .nil (.seq .nil (.seq (.blk none (.seq .nil (.seq .nil (.seq (.seq .nil (.cond (some ⟨[(5, .own 1005)], [.var 0 tD, .var 1 tD, .var 6 tU, .var 7 tI, .var 8 tU, .var 14 tI, .var 15 tI, .arr 1005 tU]⟩) .nil .nil)) .nil)))) .nil)))))) .nil))))

theorem w_exact_minus {Q : DL → Prop} (a : DL) (b : DL) (hQ : ∃ r, Q r) (h :
  ((mkC 4 (0 : Int) (szSl a)) ∧ (loopV (DL × (DL × (Int × (Int × DE)))) (fun k0 => (fun p1 => (brV (decide (p1.2.2.2.2.1 < p1.2.2.2.1)) (joinV (DL × (DL × (Int × (Int × (Int × (Int × DE)))))) (fun p2 => ((inS p2.1 p2.2.2.2.1) ∧ (callV Pg c_math_bits_Sub32 [⟨tU, (eltS (0 : Int) p2.1 p2.2.2.2.1)⟩, ⟨tU, p2.2.2.2.2.1⟩, ⟨tU, p2.2.2.1⟩] (.tup (.pair tU (.pair tU .unit))) (fun p3 => ((appC 4 p2.2.2.2.2.2.2.2 (lst (some [p3.1]))) ∧ (k0 (p2.1, (p2.2.1, (p3.2.1, (p2.2.2.2.2.2.1, ((IntKind.wrap IntKind.i64 (p2.2.2.2.2.2.2.1 + (1 : Int))), (appL p2.2.2.2.2.2.2.2 (lst (some [p3.1])))))))))))))) (fun k2 => (brV (decide (p1.2.2.2.2.1 < (szSl p1.2.1))) ((inS p1.2.1 p1.2.2.2.2.1) ∧ (k2 (p1.1, (p1.2.1, (p1.2.2.1, (p1.2.2.2.2.1, ((eltS (0 : Int) p1.2.1 p1.2.2.2.2.1), (p1.2.2.2.1, p1.2.2.2.2)))))))) (k2 (p1.1, (p1.2.1, (p1.2.2.1, (p1.2.2.2.2.1, ((0 : Int), (p1.2.2.2.1, p1.2.2.2.2)))))))))) (Q p1.2.2.2.2.2)))) (a, (b, ((0 : Int), ((szSl a), ((0 : Int), (some (repS (0 : Int) (0 : Int))))))))))) :
  callV Pg c_exact_minus [⟨tD, a⟩, ⟨tD, b⟩] tD Q :=
  callV_of (c := bodyOf f_exact_minus) (ann := an_exact_minus) e_exact_minus rfl r_exact_minus rfl rfl hQ (kcast (by kernel_rfl) h)

def an_exact_one : Ann := .nil

theorem w_exact_one {Q : DE → Prop} (hQ : ∃ r, Q r) (h :
  (Q ((1 : Int), none))) :
  callV Pg c_exact_one [] tEI Q :=
  callV_of (c := bodyOf f_exact_one) (ann := an_exact_one) e_exact_one rfl r_exact_one rfl rfl hQ (kcast (by kernel_rfl) h)

def an_exact_plus : Ann := (.seq .nil (.seq (.seq .nil (.cond (some ⟨[], [.var 0 tD, .var 1 tD]⟩) .nil .nil)) (.seq .nil (.seq .nil (.seq (.seq .nil (.blk none (.loop ⟨[(5, .own 1005)], [.var 0 tD, .var 1 tD, .var 6 tU, .var 22 tI, .var 23 tI, .arr 1005 tU]⟩ (.seq .nil (.seq .nil (.seq (.blk none (.seq .nil (.seq .nil (.seq (.seq .nil (.cond (some ⟨[(5, .own 1005)], [.var 0 tD, .var 1 tD, .var 6 tU, .var 7 tI, .var 8 tU, .var 22 tI, .var 23 tI, .arr 1005 tU]⟩) .nil .nil)) .nil)))) .nil)))))) .nil)))))

theorem w_exact_plus {Q : DL → Prop} (a : DL) (b : DL) (hQ : ∃ r, Q r) (h :
  (joinV (DL × DL) (fun p0 => ((mkC 4 (0 : Int) (IntKind.wrap IntKind.i64 ((szSl p0.1) + (1 : Int)))) ∧ (loopV (DL × (DL × (Int × (Int × DE)))) (fun k1 => (fun p2 => (brV (decide (p2.2.2.2.2.1 < p2.2.2.2.1)) (joinV (DL × (DL × (Int × (Int × (Int × (Int × DE)))))) (fun p3 => ((inS p3.1 p3.2.2.2.1) ∧ (callV Pg c_math_bits_Add32 [⟨tU, (eltS (0 : Int) p3.1 p3.2.2.2.1)⟩, ⟨tU, p3.2.2.2.2.1⟩, ⟨tU, p3.2.2.1⟩] (.tup (.pair tU (.pair tU .unit))) (fun p4 => ((appC 4 p3.2.2.2.2.2.2.2 (lst (some [p4.1]))) ∧ (k1 (p3.1, (p3.2.1, (p4.2.1, (p3.2.2.2.2.2.1, ((IntKind.wrap IntKind.i64 (p3.2.2.2.2.2.2.1 + (1 : Int))), (appL p3.2.2.2.2.2.2.2 (lst (some [p4.1])))))))))))))) (fun k3 => (brV (decide (p2.2.2.2.2.1 < (szSl p2.2.1))) ((inS p2.2.1 p2.2.2.2.2.1) ∧ (k3 (p2.1, (p2.2.1, (p2.2.2.1, (p2.2.2.2.2.1, ((eltS (0 : Int) p2.2.1 p2.2.2.2.2.1), (p2.2.2.2.1, p2.2.2.2.2)))))))) (k3 (p2.1, (p2.2.1, (p2.2.2.1, (p2.2.2.2.2.1, ((0 : Int), (p2.2.2.2.1, p2.2.2.2.2)))))))))) ((appC 4 p2.2.2.2.2.2 (lst (some [p2.2.2.1]))) ∧ (Q (appL p2.2.2.2.2.2 (lst (some [p2.2.2.1])))))))) (p0.1, (p0.2, ((0 : Int), ((szSl p0.1), ((0 : Int), (some (repS (0 : Int) (0 : Int))))))))))) (fun k0 => (brV (decide ((szSl a) < (szSl b))) (k0 (b, a)) (k0 (a, b)))))) :
  callV Pg c_exact_plus [⟨tD, a⟩, ⟨tD, b⟩] tD Q :=
  callV_of (c := bodyOf f_exact_plus) (ann := an_exact_plus) e_exact_plus rfl r_exact_plus rfl rfl hQ (kcast (by kernel_rfl) h)

def an_exact_shifted : Ann := (.seq .nil (.seq .nil (.seq (.seq .nil (.blk none (.loop ⟨[(5, .own 12)], [.var 1 tI, .var 13 tD, .var 14 tI, .var 15 tI, .arr 12 tU]⟩ .nil))) .nil)))

theorem w_exact_shifted {Q : DL → Prop} (a : DL) (b : Int) (hQ : ∃ r, Q r) (h :
  ((mkC 4 (IntKind.wrap IntKind.i64 ((szSl a) + (1 : Int))) (IntKind.wrap IntKind.i64 ((szSl a) + (1 : Int)))) ∧ (loopV (Int × (DL × (Int × DE))) (fun k0 => (fun p1 => (brV (decide (p1.2.2.2.1 < p1.2.2.1)) ((inS p1.2.1 p1.2.2.2.1) ∧ (((0 : Int) ≤ p1.1) ∧ ((inS p1.2.2.2.2 p1.2.2.2.1) ∧ ((inS p1.2.2.2.2 p1.2.2.2.1) ∧ (((0 : Int) ≤ (32 : Int)) ∧ ((inS (setO p1.2.2.2.2 (toN p1.2.2.2.1) (bitI BinOp.or IntKind.u32 (eltN (0 : Int) p1.2.2.2.2 (toN p1.2.2.2.1)) (IntKind.wrap IntKind.u32 (shlI IntKind.u64 (IntKind.wrap IntKind.u64 (eltS (0 : Int) p1.2.1 p1.2.2.2.1)) p1.1)))) (IntKind.wrap IntKind.i64 (p1.2.2.2.1 + (1 : Int)))) ∧ (k0 (p1.1, (p1.2.1, (p1.2.2.1, ((IntKind.wrap IntKind.i64 (p1.2.2.2.1 + (1 : Int))), (setO (setO p1.2.2.2.2 (toN p1.2.2.2.1) (bitI BinOp.or IntKind.u32 (eltN (0 : Int) p1.2.2.2.2 (toN p1.2.2.2.1)) (IntKind.wrap IntKind.u32 (shlI IntKind.u64 (IntKind.wrap IntKind.u64 (eltS (0 : Int) p1.2.1 p1.2.2.2.1)) p1.1)))) (toN (IntKind.wrap IntKind.i64 (p1.2.2.2.1 + (1 : Int)))) (IntKind.wrap IntKind.u32 (shrI IntKind.u64 (shlI IntKind.u64 (IntKind.wrap IntKind.u64 (eltS (0 : Int) p1.2.1 p1.2.2.2.1)) p1.1) (32 : Int))))))))))))))) (Q p1.2.2.2.2)))) (b, (a, ((szSl a), ((0 : Int), (some (repS (IntKind.wrap IntKind.i64 ((szSl a) + (1 : Int))) (0 : Int)))))))))) :
  ownV Pg c_exact_shifted [⟨tD, a⟩, ⟨tI, b⟩] tU Q :=
  ownV_of (c := bodyOf f_exact_shifted) (ann := an_exact_shifted) e_exact_shifted rfl r_exact_shifted rfl rfl hQ (kcast (by kernel_rfl) h)

def an_exact_short : Ann := (.seq .nil (.seq .nil (.seq .nil (.seq (.seq .nil (.blk none (.loop ⟨[(6, .own 11)], [.var 0 tD, .var 1 tU, .var 7 tU, .var 8 tI, .arr 11 tU]⟩ .nil))) .nil))))

theorem w_exact_short {Q : (DL × (Int × Unit)) → Prop} (a : DL) (b : Int) (hQ : ∃ r, Q r) (h :
  ((mkC 4 (szSl a) (szSl a)) ∧ (loopV (DL × (Int × (Int × DE))) (fun k0 => (fun p1 => (brV (decide ((0 : Int) ≤ p1.2.2.2.1)) ((inS p1.1 p1.2.2.2.1) ∧ (callV Pg c_math_bits_Div32 [⟨tU, p1.2.2.1⟩, ⟨tU, (eltS (0 : Int) p1.1 p1.2.2.2.1)⟩, ⟨tU, p1.2.1⟩] (.tup (.pair tU (.pair tU .unit))) (fun p2 => ((inS p1.2.2.2.2 p1.2.2.2.1) ∧ (k0 (p1.1, (p1.2.1, (p2.2.1, ((IntKind.wrap IntKind.i64 (p1.2.2.2.1 - (1 : Int))), (setO p1.2.2.2.2 (toN p1.2.2.2.1) p2.1)))))))))) (Q (p1.2.2.2.2, (p1.2.2.1, ())))))) (a, (b, ((0 : Int), ((IntKind.wrap IntKind.i64 ((szSl a) - (1 : Int))), (some (repS (szSl a) (0 : Int)))))))))) :
  callV Pg c_exact_short [⟨tD, a⟩, ⟨tU, b⟩] (.tup (.pair tD (.pair tU .unit))) Q :=
  callV_of (c := bodyOf f_exact_short) (ann := an_exact_short) e_exact_short rfl r_exact_short rfl rfl hQ (kcast (by kernel_rfl) h)

def an_exact_trim : Ann := (.seq .nil (.seq (.blk none (.loop ⟨[], [.var 0 tD]⟩ (.seq (.seq (.reg [] [] (some ⟨[], [.var 0 tD, .var 14 (.bool)]⟩)) .nil) .nil))) .nil))

theorem w_exact_trim {Q : DL → Prop} (a : DL) (hQ : ∃ r, Q r) (h :
  (loopV DL (fun k0 => (fun p1 => (joinV (DL × Bool) (fun p2 => (brV p2.2 ((inR p2.1 (0 : Int) (IntKind.wrap IntKind.i64 ((szSl p2.1) - (1 : Int)))) ∧ (k0 (slcS p2.1 (0 : Int) (IntKind.wrap IntKind.i64 ((szSl p2.1) - (1 : Int)))))) (Q p2.1))) (fun k2 => (brV (decide ((0 : Int) < (szSl p1))) ((inS p1 (IntKind.wrap IntKind.i64 ((szSl p1) - (1 : Int)))) ∧ (k2 (p1, (decide ((eltS (0 : Int) p1 (IntKind.wrap IntKind.i64 ((szSl p1) - (1 : Int)))) = (0 : Int)))))) (k2 (p1, false))))))) a)) :
  callV Pg c_exact_trim [⟨tD, a⟩] tD Q :=
  callV_of (c := bodyOf f_exact_trim) (ann := an_exact_trim) e_exact_trim rfl r_exact_trim rfl rfl hQ (kcast (by kernel_rfl) h)

def an_math_bits_Add32 : Ann := .nil

theorem w_math_bits_Add32 {Q : (Int × (Int × Unit)) → Prop} (a : Int) (b : Int) (c : Int) (hQ : ∃ r, Q r) (h :
  (((0 : Int) ≤ (32 : Int)) ∧ (Q ((IntKind.wrap IntKind.u32 (IntKind.wrap IntKind.u64 ((IntKind.wrap IntKind.u64 ((IntKind.wrap IntKind.u64 a) + (IntKind.wrap IntKind.u64 b))) + (IntKind.wrap IntKind.u64 c)))), ((IntKind.wrap IntKind.u32 (shrI IntKind.u64 (IntKind.wrap IntKind.u64 ((IntKind.wrap IntKind.u64 ((IntKind.wrap IntKind.u64 a) + (IntKind.wrap IntKind.u64 b))) + (IntKind.wrap IntKind.u64 c))) (32 : Int))), ()))))) :
  callV Pg c_math_bits_Add32 [⟨tU, a⟩, ⟨tU, b⟩, ⟨tU, c⟩] (.tup (.pair tU (.pair tU .unit))) Q :=
  callV_of (c := bodyOf f_math_bits_Add32) (ann := an_math_bits_Add32) e_math_bits_Add32 rfl r_math_bits_Add32 rfl rfl hQ (kcast (by kernel_rfl) h)

def an_math_bits_Div32 : Ann := (.seq .nil (.seq (.seq (.reg [] [] (some ⟨[], [.var 0 tU, .var 1 tU, .var 2 tU, .var 15 (.bool)]⟩)) .nil) .nil))

theorem w_math_bits_Div32 {Q : (Int × (Int × Unit)) → Prop} (a : Int) (b : Int) (c : Int) (hQ : ∃ r, Q r) (h :
  (joinV (Int × (Int × (Int × Bool))) (fun p0 => (brV p0.2.2.2 False (((0 : Int) ≤ (32 : Int)) ∧ (((IntKind.wrap IntKind.u64 p0.2.2.1) ≠ (0 : Int)) ∧ (((IntKind.wrap IntKind.u64 p0.2.2.1) ≠ (0 : Int)) ∧ (Q ((IntKind.wrap IntKind.u32 (IntKind.wrap IntKind.u64 (Int.tdiv (bitI BinOp.or IntKind.u64 (shlI IntKind.u64 (IntKind.wrap IntKind.u64 p0.1) (32 : Int)) (IntKind.wrap IntKind.u64 p0.2.1)) (IntKind.wrap IntKind.u64 p0.2.2.1)))), ((IntKind.wrap IntKind.u32 (Int.tmod (bitI BinOp.or IntKind.u64 (shlI IntKind.u64 (IntKind.wrap IntKind.u64 p0.1) (32 : Int)) (IntKind.wrap IntKind.u64 p0.2.1)) (IntKind.wrap IntKind.u64 p0.2.2.1))), ())))))))) (fun k0 => (brV (notB (decide (c = (0 : Int)))) (k0 (a, (b, (c, (decide (c ≤ a)))))) (k0 (a, (b, (c, false)))))))) :
  callV Pg c_math_bits_Div32 [⟨tU, a⟩, ⟨tU, b⟩, ⟨tU, c⟩] (.tup (.pair tU (.pair tU .unit))) Q :=
  callV_of (c := bodyOf f_math_bits_Div32) (ann := an_math_bits_Div32) e_math_bits_Div32 rfl r_math_bits_Div32 rfl rfl hQ (kcast (by kernel_rfl) h)

def an_math_bits_LeadingZeros32 : Ann := .nil

theorem w_math_bits_LeadingZeros32 {Q : Int → Prop} (a : Int) (hQ : ∃ r, Q r) (h :
  (callV Pg c_math_bits_Len32 [⟨tU, a⟩] tI (fun p0 => (Q (IntKind.wrap IntKind.i64 ((32 : Int) - p0)))))) :
  callV Pg c_math_bits_LeadingZeros32 [⟨tU, a⟩] tI Q :=
  callV_of (c := bodyOf f_math_bits_LeadingZeros32) (ann := an_math_bits_LeadingZeros32) e_math_bits_LeadingZeros32 rfl r_math_bits_LeadingZeros32 rfl rfl hQ (kcast (by kernel_rfl) h)

def an_math_bits_Len32 : Ann := (.seq .nil (.seq (.seq .nil (.cond (some ⟨[], [.var 0 tU, .var 2 tI]⟩) .nil .nil)) (.seq (.seq .nil (.cond (some ⟨[], [.var 0 tU, .var 2 tI]⟩) .nil .nil)) .nil)))

theorem w_math_bits_Len32 {Q : Int → Prop} (a : Int) (hQ : ∃ r, Q r) (h :
  (joinV (Int × Int) (fun p0 => (joinV (Int × Int) (fun p1 => ((((0 : Int) ≤ (IntKind.wrap IntKind.u8 p1.1)) ∧ ((IntKind.wrap IntKind.u8 p1.1) < (szStr (bytesL [0, 1, 2, 2, 3, 3, 3, 3, 4, 4, 4, 4, 4, 4, 4, 4, 5, 5, 5, 5, 5, 5, 5, 5, 5, 5, 5, 5, 5, 5, 5, 5, 6, 6, 6, 6, 6, 6, 6, 6, 6, 6, 6, 6, 6, 6, 6, 6, 6, 6, 6, 6, 6, 6, 6, 6, 6, 6, 6, 6, 6, 6, 6, 6, 7, 7, 7, 7, 7, 7, 7, 7, 7, 7, 7, 7, 7, 7, 7, 7, 7, 7, 7, 7, 7, 7, 7, 7, 7, 7, 7, 7, 7, 7, 7, 7, 7, 7, 7, 7, 7, 7, 7, 7, 7, 7, 7, 7, 7, 7, 7, 7, 7, 7, 7, 7, 7, 7, 7, 7, 7, 7, 7, 7, 7, 7, 7, 7, 8, 8, 8, 8, 8, 8, 8, 8, 8, 8, 8, 8, 8, 8, 8, 8, 8, 8, 8, 8, 8, 8, 8, 8, 8, 8, 8, 8, 8, 8, 8, 8, 8, 8, 8, 8, 8, 8, 8, 8, 8, 8, 8, 8, 8, 8, 8, 8, 8, 8, 8, 8, 8, 8, 8, 8, 8, 8, 8, 8, 8, 8, 8, 8, 8, 8, 8, 8, 8, 8, 8, 8, 8, 8, 8, 8, 8, 8, 8, 8, 8, 8, 8, 8, 8, 8, 8, 8, 8, 8, 8, 8, 8, 8, 8, 8, 8, 8, 8, 8, 8, 8, 8, 8, 8, 8, 8, 8, 8, 8, 8, 8, 8, 8, 8, 8, 8, 8, 8, 8, 8, 8, 8, 8, 8, 8, 8, 8])))) ∧ (Q (IntKind.wrap IntKind.i64 (p1.2 + (IntKind.wrap IntKind.i64 (byteAt (bytesL [0, 1, 2, 2, 3, 3, 3, 3, 4, 4, 4, 4, 4, 4, 4, 4, 5, 5, 5, 5, 5, 5, 5, 5, 5, 5, 5, 5, 5, 5, 5, 5, 6, 6, 6, 6, 6, 6, 6, 6, 6, 6, 6, 6, 6, 6, 6, 6, 6, 6, 6, 6, 6, 6, 6, 6, 6, 6, 6, 6, 6, 6, 6, 6, 7, 7, 7, 7, 7, 7, 7, 7, 7, 7, 7, 7, 7, 7, 7, 7, 7, 7, 7, 7, 7, 7, 7, 7, 7, 7, 7, 7, 7, 7, 7, 7, 7, 7, 7, 7, 7, 7, 7, 7, 7, 7, 7, 7, 7, 7, 7, 7, 7, 7, 7, 7, 7, 7, 7, 7, 7, 7, 7, 7, 7, 7, 7, 7, 8, 8, 8, 8, 8, 8, 8, 8, 8, 8, 8, 8, 8, 8, 8, 8, 8, 8, 8, 8, 8, 8, 8, 8, 8, 8, 8, 8, 8, 8, 8, 8, 8, 8, 8, 8, 8, 8, 8, 8, 8, 8, 8, 8, 8, 8, 8, 8, 8, 8, 8, 8, 8, 8, 8, 8, 8, 8, 8, 8, 8, 8, 8, 8, 8, 8, 8, 8, 8, 8, 8, 8, 8, 8, 8, 8, 8, 8, 8, 8, 8, 8, 8, 8, 8, 8, 8, 8, 8, 8, 8, 8, 8, 8, 8, 8, 8, 8, 8, 8, 8, 8, 8, 8, 8, 8, 8, 8, 8, 8, 8, 8, 8, 8, 8, 8, 8, 8, 8, 8, 8, 8, 8, 8, 8, 8, 8, 8]) (IntKind.wrap IntKind.u8 p1.1)))))))) (fun k1 => (brV (decide ((256 : Int) ≤ p0.1)) (((0 : Int) ≤ (8 : Int)) ∧ (k1 ((shrI IntKind.u32 p0.1 (8 : Int)), (IntKind.wrap IntKind.i64 (p0.2 + (8 : Int)))))) (k1 p0))))) (fun k0 => (brV (decide ((65536 : Int) ≤ a)) (((0 : Int) ≤ (16 : Int)) ∧ (k0 ((shrI IntKind.u32 a (16 : Int)), (16 : Int)))) (k0 (a, (0 : Int))))))) :
  callV Pg c_math_bits_Len32 [⟨tU, a⟩] tI Q :=
  callV_of (c := bodyOf f_math_bits_Len32) (ann := an_math_bits_Len32) e_math_bits_Len32 rfl r_math_bits_Len32 rfl rfl hQ (kcast (by kernel_rfl) h)

def an_math_bits_Mul64 : Ann := .nil

theorem w_math_bits_Mul64 {Q : (Int × (Int × Unit)) → Prop} (a : Int) (b : Int) (hQ : ∃ r, Q r) (h :
  (((0 : Int) ≤ (32 : Int)) ∧ (((0 : Int) ≤ (32 : Int)) ∧ (((0 : Int) ≤ (32 : Int)) ∧ (((0 : Int) ≤ (32 : Int)) ∧ (((0 : Int) ≤ (32 : Int)) ∧ (Q ((IntKind.wrap IntKind.u64 ((IntKind.wrap IntKind.u64 ((IntKind.wrap IntKind.u64 ((shrI IntKind.u64 a (32 : Int)) * (shrI IntKind.u64 b (32 : Int)))) + (shrI IntKind.u64 (IntKind.wrap IntKind.u64 ((IntKind.wrap IntKind.u64 ((shrI IntKind.u64 a (32 : Int)) * (bitI BinOp.and IntKind.u64 b (4294967295 : Int)))) + (shrI IntKind.u64 (IntKind.wrap IntKind.u64 ((bitI BinOp.and IntKind.u64 a (4294967295 : Int)) * (bitI BinOp.and IntKind.u64 b (4294967295 : Int)))) (32 : Int)))) (32 : Int)))) + (shrI IntKind.u64 (IntKind.wrap IntKind.u64 ((bitI BinOp.and IntKind.u64 (IntKind.wrap IntKind.u64 ((IntKind.wrap IntKind.u64 ((shrI IntKind.u64 a (32 : Int)) * (bitI BinOp.and IntKind.u64 b (4294967295 : Int)))) + (shrI IntKind.u64 (IntKind.wrap IntKind.u64 ((bitI BinOp.and IntKind.u64 a (4294967295 : Int)) * (bitI BinOp.and IntKind.u64 b (4294967295 : Int)))) (32 : Int)))) (4294967295 : Int)) + (IntKind.wrap IntKind.u64 ((bitI BinOp.and IntKind.u64 a (4294967295 : Int)) * (shrI IntKind.u64 b (32 : Int)))))) (32 : Int)))), ((IntKind.wrap IntKind.u64 (a * b)), ()))))))))) :
  callV Pg c_math_bits_Mul64 [⟨(.int .u64), a⟩, ⟨(.int .u64), b⟩] (.tup (.pair (.int .u64) (.pair (.int .u64) .unit))) Q :=
  callV_of (c := bodyOf f_math_bits_Mul64) (ann := an_math_bits_Mul64) e_math_bits_Mul64 rfl r_math_bits_Mul64 rfl rfl hQ (kcast (by kernel_rfl) h)

def an_math_bits_Sub32 : Ann := .nil

theorem w_math_bits_Sub32 {Q : (Int × (Int × Unit)) → Prop} (a : Int) (b : Int) (c : Int) (hQ : ∃ r, Q r) (h :
  (((0 : Int) ≤ (31 : Int)) ∧ (Q ((IntKind.wrap IntKind.u32 ((IntKind.wrap IntKind.u32 (a - b)) - c)), ((shrI IntKind.u32 (bitI BinOp.or IntKind.u32 (bitI BinOp.and IntKind.u32 (bitI BinOp.xor IntKind.u32 ((4294967296 : Int) - (1 : Int)) a) b) (bitI BinOp.and IntKind.u32 (bitI BinOp.xor IntKind.u32 ((4294967296 : Int) - (1 : Int)) (bitI BinOp.xor IntKind.u32 a b)) (IntKind.wrap IntKind.u32 ((IntKind.wrap IntKind.u32 (a - b)) - c)))) (31 : Int)), ()))))) :
  callV Pg c_math_bits_Sub32 [⟨tU, a⟩, ⟨tU, b⟩, ⟨tU, c⟩] (.tup (.pair tU (.pair tU .unit))) Q :=
  callV_of (c := bodyOf f_math_bits_Sub32) (ann := an_math_bits_Sub32) e_math_bits_Sub32 rfl r_math_bits_Sub32 rfl rfl hQ (kcast (by kernel_rfl) h)

end Go.Proofs.Pf

namespace Go.Proofs.Pf

open Go Go.VM

theorem joinE {T : Type} {k : T → Prop} {body : (T → Prop) → Prop} (h : body k) : joinV T k body := ⟨h⟩

theorem s_Add32 {a b c : Int} (ha : 0 ≤ a) (ha' : a < 4294967296) (hb : 0 ≤ b) (hb' : b < 4294967296) (hc : 0 ≤ c) (hc' : c < 4294967296) :
    callV Pg c_math_bits_Add32 [⟨tU, a⟩, ⟨tU, b⟩, ⟨tU, c⟩] (.tup (.pair tU (.pair tU .unit))) fun r => r = ((a + b + c) % 4294967296, (a + b + c) / 4294967296, ()) := by
  refine w_math_bits_Add32 a b c ⟨_, rfl⟩ ⟨by omega, ?_⟩
  simp only [wu64m, wu32m, shr64_32, Prod.mk.injEq, and_true]
  omega

theorem s_Sub32 {a b c : Int} (ha : 0 ≤ a) (ha' : a < 4294967296) (hb : 0 ≤ b) (hb' : b < 4294967296) (hc : 0 ≤ c) (hc' : c ≤ 1) :
    callV Pg c_math_bits_Sub32 [⟨tU, a⟩, ⟨tU, b⟩, ⟨tU, c⟩] (.tup (.pair tU (.pair tU .unit))) fun r => r = ((a - b - c) % 4294967296, (if a < b + c then 1 else 0), ()) := by
  refine w_math_bits_Sub32 a b c ⟨_, rfl⟩ ⟨by omega, ?_⟩
  have e : IntKind.wrap IntKind.u32 (IntKind.wrap IntKind.u32 (a - b) - c) = (a - b - c) % 4294967296 := by
    rw [wu32m, wu32m]; omega
  rw [e, borrow32 ha ha' hb hb' hc hc']

theorem s_Div32 {a b c : Int} (ha : 0 ≤ a) (hb : 0 ≤ b) (hb' : b < 4294967296) (hc' : c < 4294967296) (hac : a < c) :
    callV Pg c_math_bits_Div32 [⟨tU, a⟩, ⟨tU, b⟩, ⟨tU, c⟩] (.tup (.pair tU (.pair tU .unit))) fun r => r = ((a * 4294967296 + b) / c, (a * 4294967296 + b) % c, ()) := by
  refine w_math_bits_Div32 a b c ⟨_, rfl⟩ (joinE ?_)
  have e0 : decide (c = 0) = false := decide_eq_false (by omega)
  have e1 : decide (c ≤ a) = false := decide_eq_false (by omega)
  simp only [notB, e0, e1, Bool.not_false, brV]
  have ec : IntKind.wrap IntKind.u64 c = c := wu64 (by omega) (by omega)
  have ea : IntKind.wrap IntKind.u64 a = a := wu64 (by omega) (by omega)
  have eb : IntKind.wrap IntKind.u64 b = b := wu64 (by omega) (by omega)
  have es : bitI BinOp.or IntKind.u64 (shlI IntKind.u64 a 32) b = a * 4294967296 + b := by
    rw [shl64_32, Int.emod_eq_of_lt (by omega) (by omega), or64_32 hb hb' ha (by omega), Int.add_comm]
  rw [ec, ea, eb, es]
  refine ⟨by omega, by omega, by omega, ?_⟩
  have hn : 0 ≤ a * 4294967296 + b := by omega
  rw [Int.tdiv_eq_ediv_of_nonneg hn, Int.tmod_eq_emod_of_nonneg hn]
  have hq : (a * 4294967296 + b) / c < 4294967296 := by
    refine Int.ediv_lt_of_lt_mul (by omega) ?_
    have : (a + 1) * 4294967296 ≤ c * 4294967296 := by omega
    rw [Int.mul_comm 4294967296 c]; omega
  have hq0 : 0 ≤ (a * 4294967296 + b) / c := Int.ediv_nonneg hn (by omega)
  have hr := Int.emod_lt_of_pos (a * 4294967296 + b) (show 0 < c by omega)
  have hr0 := Int.emod_nonneg (a * 4294967296 + b) (show c ≠ 0 by omega)
  rw [wu64 hq0 (by omega), wu32 hq0 hq, wu32 hr0 (by omega)]

theorem s_Mul64 {a b : Int} (ha : 0 ≤ a) (ha' : a < 18446744073709551616) (hb : 0 ≤ b) (hb' : b < 18446744073709551616) :
    callV Pg c_math_bits_Mul64 [⟨.int .u64, a⟩, ⟨.int .u64, b⟩] (.tup (.pair (.int .u64) (.pair (.int .u64) .unit))) fun r => r = (a * b / 18446744073709551616, a * b % 18446744073709551616, ()) := by
  refine w_math_bits_Mul64 a b ⟨_, rfl⟩ ⟨by omega, by omega, by omega, by omega, by omega, ?_⟩
  rw [and64_32 ha ha', and64_32 hb hb']
  simp only [shr64_32]
  generalize ha1 : a / 4294967296 = a1
  generalize hb1 : b / 4294967296 = b1
  generalize ha0 : a % 4294967296 = a0
  generalize hb0 : b % 4294967296 = b0
  have e : a * b = a1 * b1 * 18446744073709551616 + (a1 * b0 + a0 * b1) * 4294967296 + a0 * b0 := by
    have e1 : a = a1 * 4294967296 + a0 := by omega
    have e2 : b = b1 * 4294967296 + b0 := by omega
    rw [e1, e2]; grind
  have bound : ∀ x y : Int, 0 ≤ x → x ≤ 4294967295 → 0 ≤ y → y ≤ 4294967295 → 0 ≤ x * y ∧ x * y ≤ 18446744065119617025 := by
    intro x y h1 h2 h3 h4
    refine ⟨Int.mul_nonneg h1 h3, ?_⟩
    have := Int.mul_le_mul h2 h4 h3 (by omega : (0 : Int) ≤ 4294967295)
    omega
  have p1 := bound a1 b1 (by omega) (by omega) (by omega) (by omega)
  have p2 := bound a1 b0 (by omega) (by omega) (by omega) (by omega)
  have p3 := bound a0 b1 (by omega) (by omega) (by omega) (by omega)
  have p4 := bound a0 b0 (by omega) (by omega) (by omega) (by omega)
  rw [wu64m (a * b), e]
  generalize a1 * b1 = x1 at *
  generalize a1 * b0 = x2 at *
  generalize a0 * b1 = x3 at *
  generalize a0 * b0 = x4 at *
  clear e ha1 hb1 ha0 hb0 bound
  have m : ∀ x : Int, 0 ≤ x → x < 18446744073709551616 → IntKind.wrap IntKind.u64 x = x := fun x h1 h2 => wu64 h1 h2
  rw [m x4 (by omega) (by omega), m x1 (by omega) (by omega), m x2 (by omega) (by omega), m x3 (by omega) (by omega)]
  rw [m (x2 + x4 / 4294967296) (by omega) (by omega)]
  rw [and64_32 (by omega) (by omega)]
  rw [m ((x2 + x4 / 4294967296) % 4294967296 + x3) (by omega) (by omega)]
  rw [m (x1 + (x2 + x4 / 4294967296) / 4294967296) (by omega) (by omega)]
  rw [m _ (by omega) (by omega)]
  simp only [Prod.mk.injEq, and_true]
  omega

def len8 : List Nat := [0, 1, 2, 2, 3, 3, 3, 3, 4, 4, 4, 4, 4, 4, 4, 4, 5, 5, 5, 5, 5, 5, 5, 5, 5, 5, 5, 5, 5, 5, 5, 5, 6, 6, 6, 6, 6, 6, 6, 6, 6, 6, 6, 6, 6, 6, 6, 6, 6, 6, 6, 6, 6, 6, 6, 6, 6, 6, 6, 6, 6, 6, 6, 6, 7, 7, 7, 7, 7, 7, 7, 7, 7, 7, 7, 7, 7, 7, 7, 7, 7, 7, 7, 7, 7, 7, 7, 7, 7, 7, 7, 7, 7, 7, 7, 7, 7, 7, 7, 7, 7, 7, 7, 7, 7, 7, 7, 7, 7, 7, 7, 7, 7, 7, 7, 7, 7, 7, 7, 7, 7, 7, 7, 7, 7, 7, 7, 7, 8, 8, 8, 8, 8, 8, 8, 8, 8, 8, 8, 8, 8, 8, 8, 8, 8, 8, 8, 8, 8, 8, 8, 8, 8, 8, 8, 8, 8, 8, 8, 8, 8, 8, 8, 8, 8, 8, 8, 8, 8, 8, 8, 8, 8, 8, 8, 8, 8, 8, 8, 8, 8, 8, 8, 8, 8, 8, 8, 8, 8, 8, 8, 8, 8, 8, 8, 8, 8, 8, 8, 8, 8, 8, 8, 8, 8, 8, 8, 8, 8, 8, 8, 8, 8, 8, 8, 8, 8, 8, 8, 8, 8, 8, 8, 8, 8, 8, 8, 8, 8, 8, 8, 8, 8, 8, 8, 8, 8, 8, 8, 8, 8, 8, 8, 8, 8, 8, 8, 8, 8, 8, 8, 8, 8, 8, 8, 8]

theorem len8_ok : (List.range 256).all (fun i => Nat.blt i (2 ^ len8.getD i 0) && (Nat.beq i 0 || Nat.ble (2 ^ len8.getD i 0) (2 * i)) && Nat.ble (len8.getD i 0) 8) = true := by decide +kernel

theorem byte8 {i : Int} (h1 : 0 ≤ i) (h2 : i < 256) : ∃ n : Nat, byteAt (bytesL len8) i = n ∧ n ≤ 8 ∧ i < 2 ^ n ∧ (0 < i → (2 : Int) ^ n ≤ 2 * i) := by
  have h := len8_ok
  rw [List.all_eq_true] at h
  have h := h i.toNat (by simp; omega)
  simp only [Bool.and_eq_true, Bool.or_eq_true, Nat.blt_eq, Nat.beq_eq, Nat.ble_eq] at h
  obtain ⟨⟨h3, h4⟩, h5⟩ := h
  refine ⟨len8.getD i.toNat 0, ?_, h5, ?_, fun hi => ?_⟩
  · have hl : len8.length = 256 := by decide +kernel
    have hi : i.toNat < len8.length := by omega
    simp only [List.getD, List.getElem?_eq_getElem hi, Option.getD_some] at h5
    simp only [byteAt, bytesL, List.getD, List.getElem?_map, List.getElem?_eq_getElem hi, Option.map_some, Option.getD_some]
    rw [UInt8.toNat_ofNat_of_lt' (by simp [UInt8.size]; omega)]
  · have : ((i.toNat : Nat) : Int) < ((2 ^ len8.getD i.toNat 0 : Nat) : Int) := Int.ofNat_lt.2 h3
    simp only [Int.natCast_pow] at this
    have e : ((2 : Nat) : Int) = 2 := rfl
    rw [e] at this; omega
  · have h4' := h4.resolve_left (by omega)
    have : ((2 ^ len8.getD i.toNat 0 : Nat) : Int) ≤ ((2 * i.toNat : Nat) : Int) := Int.ofNat_le.2 h4'
    simp only [Int.natCast_pow] at this
    have e : ((2 : Nat) : Int) = 2 := rfl
    rw [e] at this; omega

theorem len8_size : szStr (bytesL len8) = 256 := by decide +kernel

theorem len_ex {a : Int} (ha : 0 ≤ a) : ∀ k : Nat, a < 2 ^ k → ∃ n : Nat, n ≤ k ∧ a < 2 ^ n ∧ (0 < a → (2 : Int) ^ n ≤ 2 * a)
  | 0, h => ⟨0, Nat.le_refl _, h, fun h0 => by simp at h; omega⟩
  | k + 1, h => by
    by_cases h1 : a < 2 ^ k
    · obtain ⟨n, q1, q2⟩ := len_ex ha k h1
      exact ⟨n, by omega, q2⟩
    · exact ⟨k + 1, Nat.le_refl _, h, fun _ => by rw [Int.pow_succ]; omega⟩

def L32K (a : Int) (p : Int × Int) : Prop :=
  (((0 : Int) ≤ (IntKind.wrap IntKind.u8 p.1)) ∧ ((IntKind.wrap IntKind.u8 p.1) < (szStr (bytesL len8)))) ∧
      (∃ n : Nat, (IntKind.wrap IntKind.i64 (p.2 + (IntKind.wrap IntKind.i64 (byteAt (bytesL len8) (IntKind.wrap IntKind.u8 p.1))))) = n ∧ n ≤ 32 ∧ a < 2 ^ n ∧ (0 < a → (2 : Int) ^ n ≤ 2 * a))

/-- The length of a number in binary digits. -/
theorem s_Len32 {a : Int} (ha : 0 ≤ a) (ha' : a < 4294967296) :
    callV Pg c_math_bits_Len32 [⟨tU, a⟩] tI fun r => ∃ n : Nat, r = n ∧ n ≤ 32 ∧ a < 2 ^ n ∧ (0 < a → (2 : Int) ^ n ≤ 2 * a) := by
  refine w_math_bits_Len32 a ?_ (joinE ?_)
  · obtain ⟨n, q1, q2⟩ := len_ex ha 32 (by omega)
    exact ⟨n, n, rfl, q1, q2⟩
  have fin : ∀ p1 p2 : Int, 0 ≤ p1 → p1 < 256 → (0 < a → 0 < p1) → (∃ s : Nat, p2 = s ∧ s ≤ 24 ∧ (2 : Int) ^ s * p1 ≤ a ∧ a < 2 ^ s * (p1 + 1)) → L32K a (p1, p2) := by
    unfold L32K
    rintro p1 p2 h1 h2 h0 ⟨s, rfl, h3, h4, h5⟩
    have e : IntKind.wrap IntKind.u8 p1 = p1 := by rw [wu8m]; omega
    rw [e, len8_size]
    obtain ⟨n, q1, q2, q3, q4⟩ := byte8 h1 h2
    rw [q1, wi64 (x := (n : Int)) (by omega) (by omega), wi64 (by omega) (by omega)]
    have hs : (0 : Int) < 2 ^ s := Int.pow_pos (by decide)
    refine ⟨⟨h1, h2⟩, s + n, by omega, by omega, ?_, fun h0' => ?_⟩
    · rw [Int.pow_add]
      have : (2 : Int) ^ s * (p1 + 1) ≤ 2 ^ s * 2 ^ n := Int.mul_le_mul_of_nonneg_left (by omega) (by omega)
      omega
    · rw [Int.pow_add]
      have : (2 : Int) ^ s * 2 ^ n ≤ 2 ^ s * (2 * p1) := Int.mul_le_mul_of_nonneg_left (q4 (h0 h0')) (by omega)
      have e : (2 : Int) ^ s * (2 * p1) = 2 * (2 ^ s * p1) := by grind
      omega
  have two : ∀ p1 p2 : Int, 0 ≤ p1 → p1 < 65536 → (0 < a → 0 < p1) → (∃ s : Nat, p2 = s ∧ s ≤ 16 ∧ (2 : Int) ^ s * p1 ≤ a ∧ a < 2 ^ s * (p1 + 1)) → ∀ k : Int × Int → Prop,
      (∀ p1 p2 : Int, 0 ≤ p1 → p1 < 256 → (0 < a → 0 < p1) → (∃ s : Nat, p2 = s ∧ s ≤ 24 ∧ (2 : Int) ^ s * p1 ≤ a ∧ a < 2 ^ s * (p1 + 1)) → k (p1, p2)) →
      brV (decide ((256 : Int) ≤ p1)) (((0 : Int) ≤ (8 : Int)) ∧ (k ((shrI IntKind.u32 p1 (8 : Int)), (IntKind.wrap IntKind.i64 (p2 + (8 : Int)))))) (k (p1, p2)) := by
    rintro p1 p2 h1 h2 h0 ⟨s, rfl, h3, h4, h5⟩ k hk
    refine brV_iff.2 ⟨fun hb => ⟨by omega, ?_⟩, fun hb => ?_⟩
    · have hb := of_decide_eq_true hb
      have e : shrI IntKind.u32 p1 8 = p1 / 256 := shr32 p1 8
      rw [e, wi64 (by omega) (by omega)]
      refine hk _ _ (by omega) (by omega) (by omega) ⟨s + 8, by omega, by omega, ?_, ?_⟩
      · rw [Int.pow_add]
        have : (2 : Int) ^ s * (256 * (p1 / 256)) ≤ 2 ^ s * p1 := Int.mul_le_mul_of_nonneg_left (by omega) (Int.pow_nonneg (by decide))
        have e : (2 : Int) ^ s * 2 ^ 8 * (p1 / 256) = 2 ^ s * (256 * (p1 / 256)) := by grind
        omega
      · rw [Int.pow_add]
        have : (2 : Int) ^ s * (p1 + 1) ≤ 2 ^ s * (256 * (p1 / 256 + 1)) := Int.mul_le_mul_of_nonneg_left (by omega) (Int.pow_nonneg (by decide))
        have e : (2 : Int) ^ s * 2 ^ 8 * (p1 / 256 + 1) = 2 ^ s * (256 * (p1 / 256 + 1)) := by grind
        omega
    · have hb := of_decide_eq_false hb
      exact hk _ _ h1 (by omega) h0 ⟨s, rfl, by omega, h4, h5⟩
  refine brV_iff.2 ⟨fun hb => ⟨by omega, ?_⟩, fun hb => ?_⟩
  · have hb := of_decide_eq_true hb
    have e : shrI IntKind.u32 a 16 = a / 65536 := shr32 a 16
    rw [e]
    refine joinE ?_
    exact two (a / 65536) 16 (by omega) (by omega) (by omega) ⟨16, rfl, by omega, by omega, by omega⟩ (L32K a) fin
  · have hb := of_decide_eq_false hb
    refine joinE ?_
    exact two a 0 (by omega) (by omega) (by omega) ⟨0, rfl, by omega, by omega, by omega⟩ (L32K a) fin

theorem s_LeadingZeros32 {a : Int} (ha : 0 < a) (ha' : a < 4294967296) :
    callV Pg c_math_bits_LeadingZeros32 [⟨tU, a⟩] tI fun r => ∃ n : Nat, r = n ∧ n < 32 ∧ a * 2 ^ n < 4294967296 ∧ 2147483648 ≤ a * 2 ^ n := by
  have key : ∀ n : Nat, n ≤ 32 ∧ a < 2 ^ n ∧ (0 < a → (2 : Int) ^ n ≤ 2 * a) → ∃ m : Nat, IntKind.wrap IntKind.i64 ((32 : Int) - (n : Int)) = m ∧ m < 32 ∧ a * 2 ^ m < 4294967296 ∧ 2147483648 ≤ a * 2 ^ m := by
    rintro n ⟨h1, h2, h3⟩
    have h3 := h3 ha
    have hn : n ≠ 0 := by rintro rfl; simp at h2; omega
    refine ⟨32 - n, by rw [wi64 (by omega) (by omega)]; omega, by omega, ?_, ?_⟩
    · have e : (4294967296 : Int) = 2 ^ n * 2 ^ (32 - n) := by rw [← Int.pow_add, show n + (32 - n) = 32 by omega]; rfl
      rw [e]
      exact Int.mul_lt_mul_of_pos_right h2 (Int.pow_pos (by decide))
    · have e : (4294967296 : Int) = 2 ^ n * 2 ^ (32 - n) := by rw [← Int.pow_add, show n + (32 - n) = 32 by omega]; rfl
      have : (2 : Int) ^ n * 2 ^ (32 - n) ≤ 2 * a * 2 ^ (32 - n) := Int.mul_le_mul_of_nonneg_right h3 (Int.pow_nonneg (by decide))
      have e2 : 2 * a * (2 : Int) ^ (32 - n) = 2 * (a * 2 ^ (32 - n)) := by grind
      omega
  refine w_math_bits_LeadingZeros32 a ?_ ((s_Len32 (by omega) ha').mono ?_)
  · obtain ⟨n, q⟩ := len_ex (a := a) (by omega) 32 (by omega)
    obtain ⟨m, h⟩ := key n q
    exact ⟨m, m, rfl, h.2⟩
  · rintro r ⟨n, rfl, q⟩
    exact key n q

end Go.Proofs.Pf

namespace Go.Proofs.Pf

open Go Go.VM

theorem loopE {T : Type} {step : (T → Prop) → T → Prop} {p : T} (Inv : T → Prop) (μ : T → Nat) (h0 : Inv p) (h : ∀ p, Inv p → step (fun p' => Inv p' ∧ μ p' < μ p) p) : loopV T step p := ⟨Inv, μ, h0, h⟩

theorem s_trim {a : Option (List Int)} (ha : (a.getD []).length < 4611686018427387904) :
    callV Pg c_exact_trim [⟨tD, a⟩] tD fun r => r = a.map trim := by
  refine w_exact_trim a ⟨_, rfl⟩ (loopE (fun p => p.map trim = a.map trim ∧ (p.getD []).length ≤ (a.getD []).length) (fun p => (p.getD []).length) ⟨rfl, Nat.le_refl _⟩ ?_)
  rintro p ⟨h1, h2⟩
  refine joinE (brV_iff.2 ⟨fun hb => ?_, fun hb => ?_⟩)
  · have hb := of_decide_eq_true hb
    simp only [szSl] at hb ⊢
    rw [wi64 (by omega) (by omega)]
    cases p with
    | none => simp at hb
    | some l =>
      simp only [Option.getD_some] at *
      rcases List.eq_nil_or_concat l with rfl | ⟨l', x, rfl⟩
      · simp at hb
      · simp only [List.concat_eq_append] at *
        refine ⟨⟨by omega, by simp only [Option.getD_some]; omega⟩, brV_iff.2 ⟨fun hb2 => ?_, fun hb2 => ?_⟩⟩
        · have hb2 := of_decide_eq_true hb2
          have e : (((l' ++ [x]).length : Int) - 1).toNat = l'.length := by simp
          simp only [eltS, Option.getD_some, e] at hb2
          have hx : x = 0 := by simpa [List.getD] using hb2
          subst hx
          refine ⟨⟨by omega, by omega, by simp; omega⟩, ?_⟩
          simp only [slcS, Option.map_some, e]
          have e2 : ((l' ++ [0]).take l'.length).drop (0 : Int).toNat = l' := by simp
          rw [e2]
          refine ⟨⟨?_, ?_⟩, by simp⟩
          · rw [← h1]; simp [trim_snoc_zero]
          · simp at h2 ⊢; omega
        · have hb2 := of_decide_eq_false hb2
          have e : (((l' ++ [x]).length : Int) - 1).toNat = l'.length := by simp
          simp only [eltS, Option.getD_some, e] at hb2
          have hx : x ≠ 0 := by simpa [List.getD] using hb2
          show some (l' ++ [x]) = _
          rw [← h1]; simp [trim_snoc _ _ hx]
  · have hb := of_decide_eq_false hb
    show p = _
    cases p with
    | none => simpa using h1
    | some l =>
      simp only [szSl, Option.getD_some] at hb
      have : l = [] := by apply List.eq_nil_of_length_eq_zero; omega
      subst this
      rw [← h1]; rfl

/-- What an exact integer stands for. -/
def IV (x : Int × Option (List Int)) (n : Int) : Prop :=
  match x.2 with
  | none => x.1 = n ∧ -4611686018427387904 < n ∧ n < 4611686018427387904
  | some l => Dig l ∧ Trm l ∧ 4611686018427387904 ≤ nv l ∧ ((x.1 = 1 ∧ n = nv l) ∨ (x.1 = -1 ∧ n = -nv l))

theorem IV.none {v n : Int} (h : v = n) (h1 : -4611686018427387904 < n) (h2 : n < 4611686018427387904) : IV (v, none) n := ⟨h, h1, h2⟩

def sgn (n : Int) : Int := if 0 < n then 1 else if n < 0 then -1 else 0

theorem s_Sign {x : Int × Option (List Int)} {n : Int} (h : IV x n) : callV Pg c_exact_Int_Sign [⟨tEI, x⟩] tI fun r => r = sgn n := by
  refine w_exact_Int_Sign x ⟨_, rfl⟩ ?_
  obtain ⟨v, d⟩ := x
  have hv : (0 < v ↔ 0 < n) ∧ (v < 0 ↔ n < 0) := by
    cases d with
    | none => obtain ⟨h1, h2, h3⟩ := h; simp only at h1; omega
    | some l => obtain ⟨h1, h2, h3, h4⟩ := h; simp only at h4; omega
  simp only [brV_iff, decide_eq_true_eq, decide_eq_false_iff_not, sgn]
  refine ⟨fun h1 => ?_, fun h1 => ⟨fun h2 => ?_, fun h2 => ?_⟩⟩
  · rw [if_pos (by omega)]
  · rw [if_neg (by omega), if_pos (by omega)]
  · rw [if_neg (by omega), if_neg (by omega)]

theorem s_Neg {x : Int × Option (List Int)} {n : Int} (h : IV x n) : callV Pg c_exact_Int_Neg [⟨tEI, x⟩] tEI fun r => IV r (-n) := by
  have key : IV (IntKind.wrap IntKind.i64 (0 - x.1), x.2) (-n) := by
    obtain ⟨v, d⟩ := x
    cases d with
    | none => obtain ⟨h1, h2, h3⟩ := h; simp only at h1; exact ⟨by simp only; rw [wi64 (by omega) (by omega)]; omega, by omega, by omega⟩
    | some l =>
      obtain ⟨h1, h2, h3, h4⟩ := h; simp only at h4
      refine ⟨h1, h2, h3, ?_⟩
      simp only; rw [wi64 (by omega) (by omega)]; omega
  exact w_exact_Int_Neg x ⟨_, key⟩ key

theorem s_Abs {x : Int × Option (List Int)} {n : Int} (h : IV x n) : callV Pg c_exact_Int_Abs [⟨tEI, x⟩] tEI fun r => IV r n.natAbs := by
  obtain ⟨v, d⟩ := x
  have hv : (v < 0 ↔ n < 0) := by
    cases d with
    | none => obtain ⟨h1, h2, h3⟩ := h; simp only at h1; omega
    | some l => obtain ⟨h1, h2, h3, h4⟩ := h; simp only at h4; omega
  have hc := s_Neg h
  refine w_exact_Int_Abs (v, d) ?_ (brV_iff.2 ⟨fun hb => ?_, fun hb => ?_⟩)
  · by_cases h0 : n < 0
    · obtain ⟨r, hr⟩ := hc.ex; exact ⟨r, by rw [show (n.natAbs : Int) = -n by omega]; exact hr⟩
    · exact ⟨_, by rw [show (n.natAbs : Int) = n by omega]; exact h⟩
  · have hb := of_decide_eq_true hb
    refine hc.mono fun r hr => ?_
    simp only at hb
    rw [show (n.natAbs : Int) = -n by omega]; exact hr
  · have hb := of_decide_eq_false hb
    simp only at hb
    rw [show (n.natAbs : Int) = n by omega]; exact h

theorem nv_take_succ' (l : List Int) (i : Nat) : nv (l.take (i + 1)) = nv (l.take i) + 4294967296 ^ i * l.getD i 0 := by
  rcases Nat.lt_or_ge i l.length with h | h
  · exact nv_take_succ l i h
  · rw [List.take_of_length_le (by omega), List.take_of_length_le h]
    have : l.getD i 0 = 0 := by simp [List.getD, h]
    rw [this]; omega

/-- The digits of a sum. -/
def SumOf (a b : List Int) (r : Option (List Int)) : Prop := ∃ l, r = some l ∧ Dig l ∧ nv l = nv a + nv b ∧ l.length ≤ max a.length b.length + 1

theorem plus_ex {a b : List Int} (ha : Dig a) (hb : Dig b) : ∀ k : Nat, ∃ (o : List Int) (c : Int), o.length = k ∧ Dig o ∧ 0 ≤ c ∧ c ≤ 1 ∧ nv o + 4294967296 ^ k * c = nv (a.take k) + nv (b.take k)
  | 0 => ⟨[], 0, rfl, Dig.nil, by omega, by omega, by simp [nv]⟩
  | k + 1 => by
    obtain ⟨o, c, h1, h2, h3, h4, h5⟩ := plus_ex ha hb k
    have ga := ha.get k
    have gb := hb.get k
    refine ⟨o ++ [(a.getD k 0 + b.getD k 0 + c) % 4294967296], (a.getD k 0 + b.getD k 0 + c) / 4294967296, by simp [h1], h2.app (Dig.cons (by omega) (by omega) Dig.nil), by omega, by omega, ?_⟩
    rw [nv_snoc, nv_take_succ', nv_take_succ', h1, Int.pow_succ]
    have := Int.emod_add_mul_ediv (a.getD k 0 + b.getD k 0 + c) 4294967296
    generalize (a.getD k 0 + b.getD k 0 + c) % 4294967296 = x at *
    generalize (a.getD k 0 + b.getD k 0 + c) / 4294967296 = y at *
    grind

theorem plus_step {a b o : List Int} {c : Int} {k : Nat} (ha : Dig a) (hb : Dig b) (h1 : o.length = k) (h2 : Dig o) (h3 : 0 ≤ c) (h4 : c ≤ 1) (h5 : nv o + 4294967296 ^ k * c = nv (a.take k) + nv (b.take k)) :
    Dig (o ++ [(a.getD k 0 + b.getD k 0 + c) % 4294967296]) ∧ 0 ≤ (a.getD k 0 + b.getD k 0 + c) / 4294967296 ∧ (a.getD k 0 + b.getD k 0 + c) / 4294967296 ≤ 1 ∧
      nv (o ++ [(a.getD k 0 + b.getD k 0 + c) % 4294967296]) + 4294967296 ^ (k + 1) * ((a.getD k 0 + b.getD k 0 + c) / 4294967296) = nv (a.take (k + 1)) + nv (b.take (k + 1)) := by
  have ga := ha.get k
  have gb := hb.get k
  refine ⟨h2.app (Dig.cons (by omega) (by omega) Dig.nil), by omega, by omega, ?_⟩
  rw [nv_snoc, nv_take_succ', nv_take_succ', h1, Int.pow_succ]
  have := Int.emod_add_mul_ediv (a.getD k 0 + b.getD k 0 + c) 4294967296
  generalize (a.getD k 0 + b.getD k 0 + c) % 4294967296 = x at *
  generalize (a.getD k 0 + b.getD k 0 + c) / 4294967296 = y at *
  grind

theorem joinR {T : Type} {k : T → Prop} {body : (T → Prop) → Prop} (R : T → Prop) (hk : ∀ p, R p → k p) (hb : ∀ k' : T → Prop, (∀ p, R p → k' p) → body k') : joinV T k body := ⟨hb k hk⟩

theorem dec_t {p : Prop} [Decidable p] (h : decide p = true) : p := of_decide_eq_true h

theorem dec_f {p : Prop} [Decidable p] (h : decide p = false) : ¬ p := of_decide_eq_false h

/-- The invariant of a loop that makes a list of digits of two lists. -/
structure PInv (A B : Option (List Int)) (f : List Int → Int → Nat → Prop) (p : Option (List Int) × Option (List Int) × Int × Int × Int × Option (List Int)) : Prop where
  a : p.1 = A
  b : p.2.1 = B
  n : p.2.2.2.1 = ((A.getD []).length : Int)
  k : ∃ (k : Nat) (o : List Int), p.2.2.2.2.1 = k ∧ k ≤ (A.getD []).length ∧ p.2.2.2.2.2 = some o ∧ o.length = k ∧ f o p.2.2.1 k

theorem getD_out {l : Option (List Int)} {i : Nat} (h : ¬ i < (l.getD []).length) : (l.getD []).getD i 0 = 0 := by
  simp [List.getD, Nat.le_of_not_lt h]

theorem s_plus {a b : Option (List Int)} (ha : Dig (a.getD [])) (hb : Dig (b.getD [])) (la : (a.getD []).length ≤ 1099511627776) (lb : (b.getD []).length ≤ 1099511627776) :
    callV Pg c_exact_plus [⟨tD, a⟩, ⟨tD, b⟩] tD fun r => SumOf (a.getD []) (b.getD []) r := by
  refine w_exact_plus a b ?_ (joinR (fun p => Dig (p.1.getD []) ∧ Dig (p.2.getD []) ∧ (p.1.getD []).length ≤ 1099511627776 ∧ (p.2.getD []).length ≤ (p.1.getD []).length ∧ (∀ r, SumOf (p.1.getD []) (p.2.getD []) r → SumOf (a.getD []) (b.getD []) r)) ?_ ?_)
  · obtain ⟨o, c, h1, h2, h3, h4, h5⟩ := plus_ex ha hb (max (a.getD []).length (b.getD []).length)
    refine ⟨some (o ++ [c]), o ++ [c], rfl, h2.app (Dig.cons h3 (by omega) Dig.nil), ?_, by simp [h1]⟩
    rw [nv_snoc, h1, h5, List.take_of_length_le (by omega), List.take_of_length_le (by omega)]
  · rintro ⟨A, B⟩ ⟨h1, h2, h3, h4, h5⟩
    simp only at h1 h2 h3 h4 h5 ⊢
    refine ⟨?_, ?_⟩
    · simp only [szSl]; rw [wi64 (by omega) (by omega)]; simp only [mkC]; omega
    refine loopE (PInv A B fun o c k => Dig o ∧ 0 ≤ c ∧ c ≤ 1 ∧ nv o + 4294967296 ^ k * c = nv ((A.getD []).take k) + nv ((B.getD []).take k)) (fun p => ((A.getD []).length - p.2.2.2.2.1).toNat) ⟨rfl, rfl, rfl, 0, [], rfl, by omega, rfl, rfl, Dig.nil, Int.le_refl _, (by decide : (0 : Int) ≤ 1), by simp [nv]⟩ ?_
    rintro ⟨A', B', c, n, i, out⟩ ⟨e1, e2, e3, k, o, e4, e5, e6, e7, e8, e9, e10, e11⟩
    simp only at e1 e2 e3 e4 e6 e9 e10 e11; subst e1 e2 e3 e4 e6
    refine brV_iff.2 ⟨fun hb => ?_, fun hb => ?_⟩
    · have hb := dec_t hb
      simp only at hb
      refine joinR (fun p => p = (A', B', c, (k : Int), (B'.getD []).getD k 0, ((A'.getD []).length : Int), (k : Int), some o)) ?_ ?_
      · rintro _ rfl
        simp only
        have ga := h1.get k
        have gb := h2.get k
        refine ⟨⟨by omega, by omega⟩, (s_Add32 (by simpa [eltS] using ga.1) (by simpa [eltS] using ga.2) gb.1 gb.2 e9 (by omega)).mono ?_⟩
        rintro _ rfl
        refine ⟨?_, ⟨rfl, rfl, rfl, k + 1, o ++ [((A'.getD []).getD k 0 + (B'.getD []).getD k 0 + c) % 4294967296], ?_, by omega, rfl, by simp [e7], ?_⟩, ?_⟩
        · show (o.length + 1) * 4 ≤ 140737488355328; omega
        · show IntKind.wrap IntKind.i64 ((k : Int) + 1) = ((k + 1 : Nat) : Int); rw [wi64 (by omega) (by omega)]; omega
        · exact plus_step h1 h2 e7 e8 e9 e10 e11
        · show ((A'.getD []).length - IntKind.wrap IntKind.i64 ((k : Int) + 1)).toNat < (((A'.getD []).length : Int) - (k : Int)).toNat
          rw [wi64 (by omega) (by omega)]; omega
      · intro k' hk'
        refine brV_iff.2 ⟨fun hb2 => ?_, fun hb2 => ?_⟩
        · have hb2 := dec_t hb2
          simp only [szSl] at hb2
          refine ⟨⟨by dsimp only; omega, by dsimp only; omega⟩, hk' _ ?_⟩
          simp only [eltS, Int.toNat_natCast]
        · have hb2 := dec_f hb2
          simp only [szSl] at hb2
          refine hk' _ ?_
          rw [getD_out (by omega)]
    · have hb := dec_f hb
      simp only at hb
      have hk : k = (A'.getD []).length := by omega
      refine ⟨?_, h5 _ ⟨o ++ [c], rfl, e8.app (Dig.cons e9 (by omega) Dig.nil), ?_, by simp; omega⟩⟩
      · show (o.length + 1) * 4 ≤ 140737488355328; omega
      · rw [nv_snoc, e7, e11, hk, List.take_length, List.take_of_length_le (by omega)]
  · intro k' hk'
    refine brV_iff.2 ⟨fun hb2 => ?_, fun hb2 => ?_⟩
    · have hb2 := dec_t hb2
      simp only [szSl] at hb2
      refine hk' _ ⟨hb, ha, by omega, by simp only; omega, ?_⟩
      rintro r ⟨l, q1, q2, q3, q4⟩
      exact ⟨l, q1, q2, by rw [q3, Int.add_comm], by rw [Nat.max_comm]; exact q4⟩
    · have hb2 := dec_f hb2
      simp only [szSl] at hb2
      exact hk' _ ⟨ha, hb, la, by simp only; omega, fun r h => h⟩

theorem minus_step {a b o : List Int} {c : Int} {k : Nat} (ha : Dig a) (hb : Dig b) (h1 : o.length = k) (h2 : Dig o) (h3 : 0 ≤ c) (h4 : c ≤ 1) (h5 : nv o - 4294967296 ^ k * c = nv (a.take k) - nv (b.take k)) :
    Dig (o ++ [(a.getD k 0 - b.getD k 0 - c) % 4294967296]) ∧ 0 ≤ (if a.getD k 0 < b.getD k 0 + c then (1 : Int) else 0) ∧ (if a.getD k 0 < b.getD k 0 + c then (1 : Int) else 0) ≤ 1 ∧
      nv (o ++ [(a.getD k 0 - b.getD k 0 - c) % 4294967296]) - 4294967296 ^ (k + 1) * (if a.getD k 0 < b.getD k 0 + c then (1 : Int) else 0) = nv (a.take (k + 1)) - nv (b.take (k + 1)) := by
  have ga := ha.get k
  have gb := hb.get k
  have e : (a.getD k 0 - b.getD k 0 - c) % 4294967296 = a.getD k 0 - b.getD k 0 - c + 4294967296 * (if a.getD k 0 < b.getD k 0 + c then (1 : Int) else 0) := by split <;> omega
  have e0 : 0 ≤ (if a.getD k 0 < b.getD k 0 + c then (1 : Int) else 0) ∧ (if a.getD k 0 < b.getD k 0 + c then (1 : Int) else 0) ≤ 1 := by split <;> omega
  refine ⟨h2.app (Dig.cons (by omega) (by omega) Dig.nil), e0.1, e0.2, ?_⟩
  rw [nv_snoc, nv_take_succ', nv_take_succ', h1, Int.pow_succ, e]
  generalize (if a.getD k 0 < b.getD k 0 + c then (1 : Int) else 0) = y at *
  grind

theorem minus_ex {a b : List Int} (ha : Dig a) (hb : Dig b) : ∀ k : Nat, ∃ (o : List Int) (c : Int), o.length = k ∧ Dig o ∧ 0 ≤ c ∧ c ≤ 1 ∧ nv o - 4294967296 ^ k * c = nv (a.take k) - nv (b.take k)
  | 0 => ⟨[], 0, rfl, Dig.nil, by omega, by omega, by simp [nv]⟩
  | k + 1 => by
    obtain ⟨o, c, h1, h2, h3, h4, h5⟩ := minus_ex ha hb k
    obtain ⟨q1, q2, q3, q4⟩ := minus_step ha hb h1 h2 h3 h4 h5
    exact ⟨_, _, by simp [h1], q1, q2, q3, q4⟩

/-- No borrow is left. -/
theorem minus_fin {a b o : List Int} {c : Int} (h1 : o.length = a.length) (h2 : Dig o) (h3 : 0 ≤ c) (h4 : c ≤ 1) (h5 : nv o - 4294967296 ^ a.length * c = nv a - nv b) (h : nv b ≤ nv a) : nv o = nv a - nv b := by
  have hl := nv_lt h2
  rw [h1] at hl
  have : c = 0 := by
    rcases (by omega : c = 0 ∨ c = 1) with h | rfl
    · exact h
    · omega
  subst this; omega

/-- The digits of a difference. -/
def DifOf (a b : List Int) (r : Option (List Int)) : Prop := ∃ l, r = some l ∧ Dig l ∧ nv l = nv a - nv b ∧ l.length = a.length

theorem s_minus {a b : Option (List Int)} (ha : Dig (a.getD [])) (hb : Dig (b.getD [])) (la : (a.getD []).length ≤ 1099511627776) (lb : (b.getD []).length ≤ (a.getD []).length) (hle : nv (b.getD []) ≤ nv (a.getD [])) :
    callV Pg c_exact_minus [⟨tD, a⟩, ⟨tD, b⟩] tD fun r => DifOf (a.getD []) (b.getD []) r := by
  refine w_exact_minus a b ?_ ⟨?_, ?_⟩
  · obtain ⟨o, c, h1, h2, h3, h4, h5⟩ := minus_ex ha hb (a.getD []).length
    rw [List.take_length, List.take_of_length_le lb] at h5
    exact ⟨some o, o, rfl, h2, minus_fin h1 h2 h3 h4 h5 hle, h1⟩
  · simp only [szSl, mkC]; omega
  refine loopE (PInv a b fun o c k => Dig o ∧ 0 ≤ c ∧ c ≤ 1 ∧ nv o - 4294967296 ^ k * c = nv ((a.getD []).take k) - nv ((b.getD []).take k)) (fun p => ((a.getD []).length - p.2.2.2.2.1).toNat) ⟨rfl, rfl, rfl, 0, [], rfl, by omega, rfl, rfl, Dig.nil, Int.le_refl _, (by decide : (0 : Int) ≤ 1), by simp [nv]⟩ ?_
  rintro ⟨A', B', c, n, i, out⟩ ⟨e1, e2, e3, k, o, e4, e5, e6, e7, e8, e9, e10, e11⟩
  simp only at e1 e2 e3 e4 e6 e9 e10 e11; subst e1 e2 e3 e4 e6
  refine brV_iff.2 ⟨fun hbb => ?_, fun hbb => ?_⟩
  · have hb' := dec_t hbb
    simp only at hb'
    refine joinR (fun p => p = (A', B', c, (k : Int), (B'.getD []).getD k 0, ((A'.getD []).length : Int), (k : Int), some o)) ?_ ?_
    · rintro _ rfl
      simp only
      have ga := ha.get k
      have gb := hb.get k
      refine ⟨⟨by omega, by omega⟩, (s_Sub32 (by simpa [eltS] using ga.1) (by simpa [eltS] using ga.2) gb.1 gb.2 e9 e10).mono ?_⟩
      rintro _ rfl
      refine ⟨?_, ⟨rfl, rfl, rfl, k + 1, o ++ [((A'.getD []).getD k 0 - (B'.getD []).getD k 0 - c) % 4294967296], ?_, by omega, rfl, by simp [e7], ?_⟩, ?_⟩
      · show (o.length + 1) * 4 ≤ 140737488355328; omega
      · show IntKind.wrap IntKind.i64 ((k : Int) + 1) = ((k + 1 : Nat) : Int); rw [wi64 (by omega) (by omega)]; omega
      · exact minus_step ha hb e7 e8 e9 e10 e11
      · show ((A'.getD []).length - IntKind.wrap IntKind.i64 ((k : Int) + 1)).toNat < (((A'.getD []).length : Int) - (k : Int)).toNat
        rw [wi64 (by omega) (by omega)]; omega
    · intro k' hk'
      refine brV_iff.2 ⟨fun hb2 => ?_, fun hb2 => ?_⟩
      · have hb2 := dec_t hb2
        simp only [szSl] at hb2
        refine ⟨⟨by dsimp only; omega, by dsimp only; omega⟩, hk' _ ?_⟩
        simp only [eltS, Int.toNat_natCast]
      · have hb2 := dec_f hb2
        simp only [szSl] at hb2
        refine hk' _ ?_
        rw [getD_out (by omega)]
  · have hb' := dec_f hbb
    simp only at hb'
    have hk : k = (A'.getD []).length := by omega
    subst hk
    rw [List.take_length, List.take_of_length_le lb] at e11
    exact ⟨o, rfl, e8, minus_fin e7 e8 e9 e10 e11 hle, e7⟩

end Go.Proofs.Pf

namespace Go.Proofs.Pf

open Go Go.VM

theorem nv_cmp_top {a b : List Int} (ha : Dig a) (hb : Dig b) {k : Nat} (hl : a.length = b.length) (hk : k < a.length) (heq : nv (a.drop (k + 1)) = nv (b.drop (k + 1))) (hlt : a.getD k 0 < b.getD k 0) : nv a < nv b := by
  rw [nv_split a k (by omega), nv_split b k (by omega), nv_drop a k hk, nv_drop b k (by omega), heq]
  have h1 := nv_lt (ha.take k)
  have h2 := nv_nonneg (hb.take k)
  rw [List.length_take, Nat.min_eq_left (by omega)] at h1
  have hp := pow_pos32 k
  have : 4294967296 ^ k * (a.getD k 0 + 4294967296 * nv (b.drop (k + 1)) + 1) ≤ (4294967296 : Int) ^ k * (b.getD k 0 + 4294967296 * nv (b.drop (k + 1))) := Int.mul_le_mul_of_nonneg_left (by omega) (by omega)
  rw [Int.mul_add _ _ 1] at this
  omega

theorem not_t {p : Prop} [Decidable p] (h : notB (decide p) = true) : ¬ p := by simpa [notB] using h

theorem not_f {p : Prop} [Decidable p] (h : notB (decide p) = false) : p := by simpa [notB] using h

/-- Comparing numbers. -/
def cmpI (a b : Int) : Int := if a < b then -1 else if b < a then 1 else 0

theorem nv_lt_len {a b : List Int} (ha : Dig a) (hb : Dig b) (tb : Trm b) (h : a.length < b.length) : nv a < nv b := by
  have h1 := nv_lt ha
  have hne : b ≠ [] := by rintro rfl; simp at h
  have h2 := tb.ge hb hne
  have h3 := pow_mono32 (show a.length ≤ b.length - 1 by omega)
  omega

theorem s_compare {a b : Option (List Int)} (ha : Dig (a.getD [])) (hb : Dig (b.getD [])) (ta : Trm (a.getD [])) (tb : Trm (b.getD [])) (la : (a.getD []).length ≤ 1099511627776) :
    callV Pg c_exact_compare [⟨tD, a⟩, ⟨tD, b⟩] tI fun r => r = cmpI (nv (a.getD [])) (nv (b.getD [])) := by
  refine w_exact_compare a b ⟨_, rfl⟩ (brV_iff.2 ⟨fun h => brV_iff.2 ⟨fun h2 => ?_, fun h2 => ?_⟩, fun h => ?_⟩)
  · have h2 := dec_t h2
    simp only [szSl] at h2
    have := nv_lt_len ha hb tb (by omega)
    rw [cmpI, if_pos this]
  · have h2 := dec_f h2
    have h := not_t h
    simp only [szSl] at h h2
    have := nv_lt_len hb ha ta (by omega)
    rw [cmpI, if_neg (by omega), if_pos this]
  · have h := not_f h
    simp only [szSl] at h
    refine loopE (fun p => p.1 = a ∧ p.2.1 = b ∧ ∃ k : Nat, p.2.2 = (k : Int) - 1 ∧ k ≤ (a.getD []).length ∧ nv ((a.getD []).drop k) = nv ((b.getD []).drop k)) (fun p => (p.2.2 + 1).toNat) ⟨rfl, rfl, (a.getD []).length, ?_, Nat.le_refl _, ?_⟩ ?_
    · simp only [szSl]; exact wi64 (by omega) (by omega)
    · rw [List.drop_length, show (a.getD []).length = (b.getD []).length by omega, List.drop_length]
    · rintro ⟨A, B, i⟩ ⟨e1, e2, k, e3, h1, h2⟩
      simp only at e1 e2 e3; subst e1 e2 e3
      refine brV_iff.2 ⟨fun hc => ?_, fun hc => ?_⟩
      · have hc := dec_t hc
        simp only at hc
        obtain ⟨k, rfl⟩ : ∃ j, k = j + 1 := ⟨k - 1, by omega⟩
        have e : ((k + 1 : Nat) : Int) - 1 = (k : Int) := by omega
        have ek : (((k + 1 : Nat) : Int) - 1).toNat = k := by omega
        have i1 : inS A (((k + 1 : Nat) : Int) - 1) := ⟨by omega, by omega⟩
        have i2 : inS B (((k + 1 : Nat) : Int) - 1) := ⟨by omega, by omega⟩
        refine ⟨i1, i2, brV_iff.2 ⟨fun hd => ⟨i1, i2, brV_iff.2 ⟨fun hd2 => ?_, fun hd2 => ?_⟩⟩, fun hd => ?_⟩⟩
        · have hd2 := dec_t hd2
          simp only [eltS, ek] at hd2
          have := nv_cmp_top ha hb (by omega) (by omega) h2 hd2
          rw [cmpI, if_pos this]
        · have hd2 := dec_f hd2
          have hd := not_t hd
          simp only [eltS, ek] at hd hd2
          have := nv_cmp_top hb ha (by omega) (by omega) h2.symm (show (B.getD []).getD k 0 < (A.getD []).getD k 0 by omega)
          rw [cmpI, if_neg (by omega), if_pos this]
        · have hd := not_f hd
          simp only [eltS, ek] at hd
          refine ⟨⟨rfl, rfl, k, ?_, by omega, ?_⟩, ?_⟩
          · show IntKind.wrap IntKind.i64 (((k + 1 : Nat) : Int) - 1 - 1) = (k : Int) - 1; rw [wi64 (by omega) (by omega)]; omega
          · rw [nv_drop (A.getD []) k (by omega), nv_drop (B.getD []) k (by omega), hd, h2]
          · show (IntKind.wrap IntKind.i64 (((k + 1 : Nat) : Int) - 1 - 1) + 1).toNat < (((k + 1 : Nat) : Int) - 1 + 1).toNat; rw [wi64 (by omega) (by omega)]; omega
      · have hc := dec_f hc
        simp only at hc
        have : k = 0 := by omega
        subst this
        simp only [List.drop_zero] at h2
        rw [cmpI, if_neg (by omega), if_neg (by omega)]

/-- The digits of a number below 2^64. -/
theorem nv_two {m : Int} : nv [m % 4294967296, m / 4294967296] = m := by simp only [nv]; omega

theorem dig_two {m : Int} (h0 : 0 ≤ m) (h1 : m < 18446744073709551616) : Dig [m % 4294967296, m / 4294967296] :=
  Dig.cons (by omega) (by omega) (Dig.cons (by omega) (by omega) Dig.nil)

theorem split_two {m : Int} (h0 : 0 ≤ m) (h1 : m < 18446744073709551616) : [IntKind.wrap IntKind.u32 m, IntKind.wrap IntKind.u32 (shrI IntKind.u64 m 32)] = [m % 4294967296, m / 4294967296] := by
  rw [shr64_32, wu32m, wu32m, Int.emod_eq_of_lt (b := 4294967296) (a := m / 4294967296) (by omega) (by omega)]

/-- The sign and the digits of a number. -/
def DigOf (n : Int) (r : Int × Option (List Int) × Unit) : Prop := r.1 = sgn n ∧ ∃ l, r.2.1 = some l ∧ Dig l ∧ Trm l ∧ nv l = n.natAbs

theorem s_digits {x : Int × Option (List Int)} {n : Int} (h : IV x n) : callV Pg c_exact_Int_digits [⟨tEI, x⟩] (.tup (.pair tI (.pair tD .unit))) fun r => DigOf n r := by
  obtain ⟨v, d⟩ := x
  cases d with
  | some l =>
    obtain ⟨h1, h2, h3, h4⟩ := h
    simp only at h4
    have key : DigOf n (v, some l, ()) := by
      refine ⟨?_, l, rfl, h1, h2, by omega⟩
      simp only [sgn]
      rcases h4 with ⟨rfl, rfl⟩ | ⟨rfl, rfl⟩
      · rw [if_pos (by omega)]
      · rw [if_neg (by omega), if_pos (by omega)]
    exact w_exact_Int_digits _ ⟨_, key⟩ key
  | none =>
    obtain ⟨rfl, h1, h2⟩ := h
    simp only at h1 h2
    have key : DigOf v (sgn v, some (trim [(v.natAbs : Int) % 4294967296, (v.natAbs : Int) / 4294967296]), ()) :=
      ⟨rfl, _, rfl, (dig_two (by omega) (by omega)).trim, trm_trim _, by rw [nv_trim, nv_two]⟩
    refine w_exact_Int_digits _ ⟨_, key⟩ (brV_iff.2 ⟨fun h => by simp [notB] at h, fun _ => ?_⟩)
    refine (joinR (fun p => p = (sgn v, (v.natAbs : Int))) ?_ ?_)
    · rintro _ rfl
      refine ⟨by omega, ?_⟩
      simp only
      rw [split_two (by omega) (by omega)]
      refine (s_trim (by simp)).mono ?_
      rintro _ rfl
      exact key
    · intro k hk
      refine brV_iff.2 ⟨fun hc => ?_, fun hc => joinE (brV_iff.2 ⟨fun hd => ?_, fun hd => ?_⟩)⟩
      · have hc := dec_t hc
        simp only at hc
        refine hk _ ?_
        rw [wu64 (by omega) (by omega), sgn, if_pos hc, show (v.natAbs : Int) = v by omega]
      · have hd := dec_t hd
        simp only at hd
        refine hk _ ?_
        rw [wi64 (by omega) (by omega), wu64 (by omega) (by omega), sgn, if_neg (by omega), if_pos hd, show (v.natAbs : Int) = 0 - v by omega]
      · have hc := dec_f hc
        have hd := dec_f hd
        simp only at hc hd
        refine hk _ ?_
        rw [sgn, if_neg hc, if_neg hd, show (v.natAbs : Int) = 0 by omega]

end Go.Proofs.Pf

namespace Go.Proofs.Pf

open Go Go.VM

theorem cmpI_le {a b : Int} : 0 ≤ cmpI a b ↔ b ≤ a := by
  unfold cmpI; split
  · constructor <;> intro <;> omega
  · split <;> constructor <;> intro <;> omega

theorem cmpI_lt {a b : Int} (h : ¬ 0 ≤ cmpI a b) : a < b := by
  rw [cmpI_le] at h; omega

theorem nv_ex : ∀ (k : Nat) (a : Nat), a < k → ∃ l, Dig l ∧ Trm l ∧ nv l = (a : Int)
  | 0, a, h => by omega
  | k + 1, a, h => by
    by_cases h0 : a = 0
    · exact ⟨[], Dig.nil, fun d hd => by simp at hd, by simp [nv, h0]⟩
    · by_cases h1 : a < 4294967296
      · exact ⟨[(a : Int)], Dig.cons (by omega) (by omega) Dig.nil, fun d hd => by simp at hd; omega, by simp [nv]⟩
      · obtain ⟨l, q1, q2, q3⟩ := nv_ex k (a / 4294967296) (by omega)
        refine ⟨((a % 4294967296 : Nat) : Int) :: l, Dig.cons (by omega) (by omega) q1, ?_, by simp only [nv, q3]; omega⟩
        intro d hd
        cases l with
        | nil => simp only [nv] at q3; omega
        | cons x l => rw [List.getLast?_cons_cons] at hd; exact q2 d hd

/-- Every number has a form. -/
theorem IV_ex (n : Int) : ∃ r, IV r n := by
  by_cases h : -4611686018427387904 < n ∧ n < 4611686018427387904
  · exact ⟨(n, none), rfl, h.1, h.2⟩
  · obtain ⟨l, q1, q2, q3⟩ := nv_ex (n.natAbs + 1) n.natAbs (by omega)
    by_cases h0 : 0 < n
    · exact ⟨(1, some l), q1, q2, by omega, .inl ⟨rfl, by omega⟩⟩
    · exact ⟨(-1, some l), q1, q2, by omega, .inr ⟨rfl, by omega⟩⟩

theorem s_Of {n : Int} (h1 : -9223372036854775808 ≤ n) (h2 : n < 9223372036854775808) : callV Pg c_exact_Of [⟨tI, n⟩] tEI fun r => IV r n := by
  have big : ∀ s m : Int, 4611686018427387904 ≤ m → m ≤ 9223372036854775808 → ((s = 1 ∧ n = m) ∨ (s = -1 ∧ n = -m)) → IV (s, some [m % 4294967296, m / 4294967296]) n := by
    intro s m h3 h4 h5
    refine ⟨dig_two (by omega) (by omega), ?_, by rw [nv_two]; exact h3, by rw [nv_two]; exact h5⟩
    intro d hd
    simp at hd
    omega
  refine w_exact_Of n (IV_ex _) (joinR (fun p => ∃ b : Bool, p = (n, b, (0 : Int), none) ∧ (b = true ↔ -4611686018427387904 < n ∧ n < 4611686018427387904)) ?_ ?_)
  · rintro _ ⟨b, rfl, hb⟩
    refine brV_iff.2 ⟨fun h => ?_, fun h => ?_⟩
    · obtain ⟨h3, h4⟩ := hb.1 h
      exact ⟨rfl, h3, h4⟩
    · have h3 : ¬ (-4611686018427387904 < n ∧ n < 4611686018427387904) := fun h4 => by rw [hb.2 h4] at h; simp at h
      refine joinR (fun p => ∃ s m : Int, p = (s, m, (0 : Int), none) ∧ 4611686018427387904 ≤ m ∧ m ≤ 9223372036854775808 ∧ ((s = 1 ∧ n = m) ∨ (s = -1 ∧ n = -m))) ?_ ?_
      · rintro _ ⟨s, m, rfl, q1, q2, q3⟩
        refine ⟨by omega, ?_⟩
        simp only
        rw [split_two (by omega) (by omega)]
        exact big s m q1 q2 q3
      · intro k hk
        refine brV_iff.2 ⟨fun h => ?_, fun h => ?_⟩
        · have h := dec_t h
          simp only at h
          refine hk _ ⟨-1, -n, ?_, by omega, by omega, by omega⟩
          simp only [wu64m]
          rw [show ((0 : Int) - n % 18446744073709551616) % 18446744073709551616 = -n by omega]
        · have h := dec_f h
          simp only at h
          refine hk _ ⟨1, n, ?_, by omega, by omega, by omega⟩
          simp only
          rw [wu64 (by omega) (by omega)]
  · intro k hk
    refine brV_iff.2 ⟨fun h => ?_, fun h => ?_⟩
    · have h := dec_t h
      exact hk _ ⟨_, rfl, by simp only [decide_eq_true_eq]; omega⟩
    · have h := dec_f h
      exact hk _ ⟨_, rfl, by simp; omega⟩

theorem made_ok {s : Int} {l : List Int} (hl : Dig l) (hs : s = 1 ∨ s = -1 ∨ (s = 0 ∧ nv l = 0)) (hb : 4611686018427387904 ≤ nv l) : IV (s, some (trim l)) (s * nv l) := by
  refine ⟨hl.trim, trm_trim l, by rw [nv_trim]; exact hb, ?_⟩
  rw [nv_trim]
  rcases hs with rfl | rfl | ⟨_, h⟩
  · left; exact ⟨rfl, by omega⟩
  · right; exact ⟨rfl, by omega⟩
  · omega

theorem s_made {s : Int} {b : Option (List Int)} (hl : Dig (b.getD [])) (hs : s = 1 ∨ s = -1 ∨ (s = 0 ∧ nv (b.getD []) = 0)) (hlen : (b.getD []).length ≤ 1099511627776) :
    callV Pg c_exact_made [⟨tI, s⟩, ⟨tD, b⟩] tEI fun r => IV r (s * nv (b.getD [])) := by
  have hn := nv_nonneg hl
  have small : nv (b.getD []) < 4611686018427387904 → IV (s * nv (b.getD []), none) (s * nv (b.getD [])) := by
    intro h
    rcases hs with rfl | rfl | ⟨rfl, h0⟩
    · exact ⟨rfl, by omega, by omega⟩
    · exact ⟨rfl, by omega, by omega⟩
    · exact ⟨rfl, by omega, by omega⟩
  refine w_exact_made s b (IV_ex _) ((s_trim (by omega)).mono ?_)
  rintro _ rfl
  have fin : 4611686018427387904 ≤ nv (b.getD []) → IV (s, b.map trim) (s * nv (b.getD [])) := by
    intro h
    cases b with
    | none => simp [nv] at h
    | some l => exact made_ok hl hs h
  have ht : (b.map trim).getD [] = trim (b.getD []) := by cases b <;> rfl
  refine joinR (fun p => 4611686018427387904 ≤ nv (b.getD []) ∧ p.1 = s ∧ p.2.1 = b.map trim) ?_ ?_
  · rintro ⟨p1, p2, p3⟩ ⟨h, rfl, rfl⟩
    exact fin h
  · intro k hk
    refine brV_iff.2 ⟨fun h => ?_, fun h => ?_⟩
    · have h := dec_t h
      simp only [szSl, ht] at h
      have hd := hl.trim
      refine loopE (fun p => p.1 = s ∧ p.2.1 = b.map trim ∧ p.2.2.2.1 = b.map trim ∧ p.2.2.2.2.1 = ((trim (b.getD [])).length : Int) ∧ ∃ j : Nat, p.2.2.2.2.2.1 = j ∧ j ≤ (trim (b.getD [])).length ∧ p.2.2.1 = nv ((trim (b.getD [])).take j)) (fun p => ((trim (b.getD [])).length - p.2.2.2.2.2.1).toNat) ⟨rfl, rfl, rfl, by simp only [szSl, ht], 0, rfl, by omega, by simp [nv]⟩ ?_
      rintro ⟨q1, q2, q3, q4, q5, q6, q7⟩ ⟨e1, e2, e3, e4, j, e5, e6, e7⟩
      simp only at e1 e2 e3 e4 e5 e7; subst e1 e2 e3 e4 e5 e7
      refine brV_iff.2 ⟨fun hc => ?_, fun hc => ?_⟩
      · have hc := dec_t hc
        simp only at hc
        have g := hd.get j
        refine ⟨⟨by simp only; omega, by simp only [ht]; omega⟩, by simp only; rw [wi64 (by omega) (by omega)]; omega, ⟨rfl, rfl, rfl, rfl, j + 1, ?_, by omega, ?_⟩, ?_⟩
        · show IntKind.wrap IntKind.i64 ((j : Int) + 1) = ((j + 1 : Nat) : Int); rw [wi64 (by omega) (by omega)]; omega
        · show bitI BinOp.or IntKind.u64 (nv ((trim (b.getD [])).take j)) (shlI IntKind.u64 (IntKind.wrap IntKind.u64 (((b.map trim).getD []).getD ((j : Int)).toNat 0)) (IntKind.wrap IntKind.i64 (32 * (j : Int)))) = _
          rw [ht, Int.toNat_natCast, wi64 (by omega) (by omega), wu64 g.1 (by omega)]
          have e : (32 * (j : Int)) = ((32 * j : Nat) : Int) := by omega
          rw [e, shl64 _ _ (by omega), nv_take_succ _ _ (by omega)]
          have hp : (2 : Int) ^ (32 * j) = 4294967296 ^ j := by rw [Int.pow_mul]; rfl
          have hj : j = 0 ∨ j = 1 := by omega
          have htk := nv_lt (hd.take j)
          have htk0 := nv_nonneg (hd.take j)
          rw [List.length_take, Nat.min_eq_left (by omega)] at htk
          have hb1 : (trim (b.getD [])).getD j 0 * 2 ^ (32 * j) ≤ 4294967295 * 4294967296 := by
            rw [hp]; rcases hj with rfl | rfl
            · rw [show (4294967296 : Int) ^ 0 = 1 from rfl]; omega
            · rw [show (4294967296 : Int) ^ 1 = 4294967296 from rfl]; omega
          have hb2 : 0 ≤ (trim (b.getD [])).getD j 0 * 2 ^ (32 * j) := Int.mul_nonneg g.1 (Int.pow_nonneg (by decide))
          rw [Int.emod_eq_of_lt hb2 (by omega)]
          have hb3 : nv ((trim (b.getD [])).take j) ≤ 4294967295 := by
            rcases hj with rfl | rfl <;> simp at htk ⊢ <;> omega
          rw [or64 (32 * j) htk0 (by rw [hp]; exact htk) g.1 (by omega), hp, Int.mul_comm]
        · show ((trim (b.getD [])).length - IntKind.wrap IntKind.i64 ((j : Int) + 1)).toNat < ((trim (b.getD [])).length - (j : Int)).toNat
          rw [wi64 (by omega) (by omega)]; omega
      · have hc := dec_f hc
        simp only at hc
        have hj : j = (trim (b.getD [])).length := by omega
        subst hj
        simp only [List.take_length, nv_trim]
        refine brV_iff.2 ⟨fun hd => ?_, fun hd => ?_⟩
        · have hd := dec_t hd
          have := small hd
          rw [wi64 (x := nv (b.getD [])) (by omega) (by omega), wi64]
          · exact this
          · have := this.2.1; omega
          · have := this.2.2; omega
        · have hd := dec_f hd
          exact hk _ ⟨by omega, rfl, rfl⟩
    · have h := dec_f h
      simp only [szSl, ht] at h
      refine hk _ ⟨?_, rfl, rfl⟩
      have hne : trim (b.getD []) ≠ [] := by intro e; rw [e] at h; simp at h
      have h1 := (trm_trim (b.getD [])).ge hl.trim hne
      have h2 := pow_mono32 (show 2 ≤ (trim (b.getD [])).length - 1 by omega)
      rw [nv_trim] at h1
      omega

theorem sgn_ne {n : Int} {P : Prop} (h : ¬ sgn n = 0) : sgn n = 1 ∨ sgn n = -1 ∨ P := by
  unfold sgn at *; split at h <;> (try split at h) <;> simp_all

theorem sgn_z {n : Int} (h : sgn n = 0) : n = 0 := by
  unfold sgn at h
  by_cases h1 : 0 < n
  · rw [if_pos h1] at h; omega
  · rw [if_neg h1] at h
    by_cases h2 : n < 0
    · rw [if_pos h2] at h; omega
    · omega

theorem sgn3 (n : Int) : (sgn n = 1 ∧ 0 < n) ∨ (sgn n = -1 ∧ n < 0) ∨ (sgn n = 0 ∧ n = 0) := by
  by_cases h1 : 0 < n
  · exact .inl ⟨if_pos h1, h1⟩
  · by_cases h2 : n < 0
    · exact .inr (.inl ⟨by rw [sgn, if_neg h1, if_pos h2], h2⟩)
    · exact .inr (.inr ⟨by rw [sgn, if_neg h1, if_neg h2], by omega⟩)

theorem s_Add {x y : Int × Option (List Int)} {n m : Int} {k : Nat} (hx : IV x n) (hy : IV y m) (fx : Fit k n) (fy : Fit k m) (hk : k ≤ 1073741824) : callV Pg c_exact_Int_Add [⟨tEI, x⟩, ⟨tEI, y⟩] tEI fun r => IV r (n + m) := by
  have big : callV Pg c_exact_Int_digits [⟨tEI, x⟩] (.tup (.pair tI (.pair tD .unit))) (fun p1 => (callV Pg c_exact_Int_digits [⟨tEI, y⟩] (.tup (.pair tI (.pair tD .unit))) (fun p2 => (brV (decide (p1.1 = (0 : Int))) (IV y (n + m)) (brV (decide (p2.1 = (0 : Int))) (IV x (n + m)) (brV (decide (p1.1 = p2.1)) (callV Pg c_exact_plus [⟨tD, p1.2.1⟩, ⟨tD, p2.2.1⟩] tD (fun p3 => (callV Pg c_exact_made [⟨tI, p1.1⟩, ⟨tD, p3⟩] tEI (fun p4 => IV p4 (n + m))))) (callV Pg c_exact_compare [⟨tD, p1.2.1⟩, ⟨tD, p2.2.1⟩] tI (fun p3 => (brV (decide ((0 : Int) ≤ p3)) (callV Pg c_exact_minus [⟨tD, p1.2.1⟩, ⟨tD, p2.2.1⟩] tD (fun p4 => (callV Pg c_exact_made [⟨tI, p1.1⟩, ⟨tD, p4⟩] tEI (fun p5 => IV p5 (n + m))))) (callV Pg c_exact_minus [⟨tD, p2.2.1⟩, ⟨tD, p1.2.1⟩] tD (fun p4 => (callV Pg c_exact_made [⟨tI, p2.1⟩, ⟨tD, p4⟩] tEI (fun p5 => IV p5 (n + m)))))))))))))) := by
    refine (s_digits hx).mono ?_
    rintro ⟨s, d, _⟩ ⟨e1, l, e2, d1, t1, v1⟩
    simp only at e1 e2; subst e1 e2
    refine (s_digits hy).mono ?_
    rintro ⟨s, d, _⟩ ⟨e1, l2, e2, d2, t2, v2⟩
    simp only at e1 e2; subst e1 e2
    have l1 := t1.fit d1 fx v1
    have l2' := t2.fit d2 fy v2
    simp only
    refine brV_iff.2 ⟨fun h => ?_, fun h => brV_iff.2 ⟨fun h2 => ?_, fun h2 => brV_iff.2 ⟨fun h3 => ?_, fun h3 => ?_⟩⟩⟩
    · have h := dec_t h
      have : n = 0 := sgn_z h
      rw [this, Int.zero_add]; exact hy
    · have h2 := dec_t h2
      have : m = 0 := sgn_z h2
      rw [this, Int.add_zero]; exact hx
    · have h : ¬ sgn n = 0 := dec_f h
      have h3 : sgn n = sgn m := dec_t h3
      refine (s_plus (a := some l) (b := some l2) d1 d2 (by simp only [Option.getD_some]; omega) (by simp only [Option.getD_some]; omega)).mono ?_
      rintro _ ⟨l3, rfl, q1, q2, q3⟩
      simp only [Option.getD_some] at q2 q3
      refine (s_made (b := some l3) q1 (sgn_ne h) (by simp only [Option.getD_some]; omega)).mono ?_
      intro r hr
      have : sgn n * nv l3 = n + m := by
        rw [q2, v1, v2]
        have h2 : ¬ sgn m = 0 := dec_f h2
        clear q1 q2 q3 hr
        rcases sgn3 n with ⟨e1, w1⟩ | ⟨e1, w1⟩ | ⟨e1, w1⟩ <;> rcases sgn3 m with ⟨e2, w2⟩ | ⟨e2, w2⟩ | ⟨e2, w2⟩ <;> rw [e1] <;> omega
      rw [Option.getD_some, this] at hr
      exact hr
    · have h : ¬ sgn n = 0 := dec_f h
      have h2 : ¬ sgn m = 0 := dec_f h2
      have h3 : ¬ sgn n = sgn m := dec_f h3
      refine (s_compare (a := some l) (b := some l2) d1 d2 t1 t2 (by simp only [Option.getD_some]; omega)).mono ?_
      rintro _ rfl
      simp only [Option.getD_some]
      refine brV_iff.2 ⟨fun h4 => ?_, fun h4 => ?_⟩
      · have h4 := dec_t h4
        have hle : nv l2 ≤ nv l := by first | exact cmpI_le.1 h4 | exact Int.le_of_lt (cmpI_lt h4)
        refine (s_minus (a := some l) (b := some l2) d1 d2 (by simp only [Option.getD_some]; omega) ?_ hle).mono ?_
        · simp only [Option.getD_some]
          rcases Nat.lt_or_ge l.length l2.length with hl | hl
          · have := nv_lt_len d1 d2 t2 hl; omega
          · exact hl
        rintro _ ⟨l3, rfl, q1, q2, q3⟩
        simp only [Option.getD_some] at q2 q3
        refine (s_made (b := some l3) q1 (sgn_ne h) (by simp only [Option.getD_some]; omega)).mono ?_
        intro r hr
        have : sgn n * nv l3 = n + m := by
          rw [q2, v1, v2]
          clear q1 q2 q3 hle h4
          rcases sgn3 n with ⟨e1, w1⟩ | ⟨e1, w1⟩ | ⟨e1, w1⟩ <;> rcases sgn3 m with ⟨e2, w2⟩ | ⟨e2, w2⟩ | ⟨e2, w2⟩ <;> rw [e1] <;> omega
        rw [Option.getD_some, this] at hr
        exact hr
      · have h4 := dec_f h4
        have hle : nv l ≤ nv l2 := by first | exact cmpI_le.1 h4 | exact Int.le_of_lt (cmpI_lt h4)
        refine (s_minus (a := some l2) (b := some l) d2 d1 (by simp only [Option.getD_some]; omega) ?_ hle).mono ?_
        · simp only [Option.getD_some]
          rcases Nat.lt_or_ge l2.length l.length with hl | hl
          · have := nv_lt_len d2 d1 t1 hl; omega
          · exact hl
        rintro _ ⟨l3, rfl, q1, q2, q3⟩
        simp only [Option.getD_some] at q2 q3
        refine (s_made (b := some l3) q1 (sgn_ne h2) (by simp only [Option.getD_some]; omega)).mono ?_
        intro r hr
        have : sgn m * nv l3 = n + m := by
          rw [q2, v1, v2]
          clear q1 q2 q3 hle h4
          rcases sgn3 n with ⟨e1, w1⟩ | ⟨e1, w1⟩ | ⟨e1, w1⟩ <;> rcases sgn3 m with ⟨e2, w2⟩ | ⟨e2, w2⟩ | ⟨e2, w2⟩ <;> rw [e2] <;> omega
        rw [Option.getD_some, this] at hr
        exact hr
  refine w_exact_Int_Add x y (IV_ex _) (joinR (fun p => p = (Option.isNone x.2 && Option.isNone y.2, x, y, (0 : Int), none)) ?_ ?_)
  · rintro _ rfl
    refine brV_iff.2 ⟨fun h => ?_, fun h => big⟩
    obtain ⟨v, d⟩ := x
    obtain ⟨w, e⟩ := y
    simp only [Bool.and_eq_true, Option.isNone_iff_eq_none] at h
    obtain ⟨rfl, rfl⟩ := h
    obtain ⟨rfl, h1, h2⟩ := hx
    obtain ⟨rfl, h3, h4⟩ := hy
    simp only at h1 h2 h3 h4 ⊢
    rw [wi64 (by omega) (by omega)]
    exact s_Of (by omega) (by omega)
  · intro k hk
    refine brV_iff.2 ⟨fun h => hk _ (by rw [h]; rfl), fun h => hk _ (by rw [h]; rfl)⟩

theorem s_Sub {x y : Int × Option (List Int)} {n m : Int} {k : Nat} (hx : IV x n) (hy : IV y m) (fx : Fit k n) (fy : Fit k m) (hk : k ≤ 1073741824) : callV Pg c_exact_Int_Sub [⟨tEI, x⟩, ⟨tEI, y⟩] tEI fun r => IV r (n - m) := by
  refine w_exact_Int_Sub x y (IV_ex _) ((s_Neg hy).mono fun r hr => ?_)
  rw [show n - m = n + -m by omega]
  exact s_Add hx hr fx fy.neg hk

/-- A small number, or none. -/
def smallI (n b : Int) : Int × Bool × Unit := if n ≤ b ∧ -b ≤ n then (n, true, ()) else (0, false, ())

theorem s_Int {x : Int × Option (List Int)} {n b : Int} (hx : IV x n) (h0 : 0 ≤ b) (hb : b < 4611686018427387904) : callV Pg c_exact_Int_Int [⟨tEI, x⟩, ⟨tI, b⟩] (.tup (.pair tI (.pair .bool .unit))) fun r => r = smallI n b := by
  obtain ⟨v, d⟩ := x
  refine w_exact_Int_Int _ b ⟨_, rfl⟩ (joinR (fun p => (p.1 = true ∧ ¬ (n ≤ b ∧ -b ≤ n)) ∨ (p.1 = false ∧ (n ≤ b ∧ -b ≤ n) ∧ p.2.1 = n)) ?_ ?_)
  · rintro ⟨p, q⟩ h
    refine brV_iff.2 ⟨fun hp => ?_, fun hp => ?_⟩
    · simp only at hp; subst hp
      rcases h with ⟨_, h⟩ | ⟨h, _⟩
      · rw [smallI, if_neg h]
      · simp at h
    · simp only at hp; subst hp
      rcases h with ⟨h, _⟩ | ⟨_, h, h2⟩
      · simp at h
      · rw [smallI, if_pos h]; simp only at h2; rw [h2]
  · intro k hk
    cases d with
    | some l =>
      obtain ⟨h1, h2, h3, h4⟩ := hx
      refine brV_iff.2 ⟨fun h => hk _ (.inl ⟨rfl, by simp only at h4; omega⟩), fun h => by simp [notB] at h⟩
    | none =>
      obtain ⟨rfl, h1, h2⟩ := hx
      simp only at h1 h2 hk ⊢
      refine brV_iff.2 ⟨fun h => by simp [notB] at h, fun _ => brV_iff.2 ⟨fun h => ?_, fun h => ?_⟩⟩
      · have h := dec_t h
        exact hk _ (.inl ⟨rfl, by omega⟩)
      · have h := dec_f h
        rw [wi64 (by omega) (by omega)]
        by_cases h5 : v < 0 - b
        · exact hk _ (.inl ⟨decide_eq_true h5, by omega⟩)
        · exact hk _ (.inr ⟨decide_eq_false h5, by omega, rfl⟩)

end Go.Proofs.Pf

namespace Go.Proofs.Pf

open Go Go.VM

theorem divmod_of {a b q r : Int} (h : q * b + r = a) (h0 : 0 ≤ r) (h1 : r < b) : q = a / b ∧ r = a % b := by
  have hb : 0 < b := by omega
  have e : a = r + b * q := by rw [← h, Int.mul_comm]; omega
  constructor
  · rw [e, Int.add_mul_ediv_left _ _ (by omega), Int.ediv_eq_zero_of_lt h0 h1]; omega
  · rw [e, Int.add_mul_emod_self_left, Int.emod_eq_of_lt h0 h1]

/-- A quotient by a digit, and the rest. -/
def ShortOf (x : List Int) (y : Int) (r : Option (List Int) × Int × Unit) : Prop := ∃ l, r.1 = some l ∧ Dig l ∧ nv l = nv x / y ∧ l.length ≤ x.length ∧ r.2.1 = nv x % y

theorem nv_ex' {a : Int} (h : 0 ≤ a) {k : Nat} (hf : Fit k a) : ∃ l, Dig l ∧ Trm l ∧ nv l = a ∧ l.length ≤ k := by
  obtain ⟨l, q1, q2, q3⟩ := nv_ex (a.toNat + 1) a.toNat (by omega)
  have : nv l = a := by omega
  exact ⟨l, q1, q2, this, q2.fit q1 hf (by omega)⟩

theorem drop_set_same {l : List Int} {j : Nat} {x : Int} (h : j < l.length) : (l.set j x).drop j = x :: l.drop (j + 1) := by
  rw [List.drop_eq_getElem_cons (by simpa using h)]
  simp [List.drop_set]

theorem s_short {x : Option (List Int)} {y : Int} (hx : Dig (x.getD [])) (h0 : 0 < y) (h1 : y < 4294967296) (hl : (x.getD []).length ≤ 1099511627776) :
    callV Pg c_exact_short [⟨tD, x⟩, ⟨tU, y⟩] (.tup (.pair tD (.pair tU .unit))) fun r => ShortOf (x.getD []) y r := by
  have hn := nv_nonneg hx
  refine w_exact_short x y ?_ ⟨?_, ?_⟩
  · have hq : 0 ≤ nv (x.getD []) / y := Int.ediv_nonneg hn (by omega)
    have hq2 : nv (x.getD []) / y ≤ nv (x.getD []) := Int.ediv_le_self _ hn
    obtain ⟨l, q1, q2, q3, q4⟩ := nv_ex' (k := (x.getD []).length) hq ((fit_nv hx).of (by omega))
    exact ⟨(some l, _, ()), l, rfl, q1, q3, q4, rfl⟩
  · simp only [szSl, mkC]; omega
  refine loopE (fun p => p.1 = x ∧ p.2.1 = y ∧ 0 ≤ p.2.2.1 ∧ p.2.2.1 < y ∧ ∃ (k : Nat) (o : List Int), p.2.2.2.1 = (k : Int) - 1 ∧ k ≤ (x.getD []).length ∧ p.2.2.2.2 = some o ∧ o.length = (x.getD []).length ∧ Dig o ∧ nv (o.drop k) * y + p.2.2.1 = nv ((x.getD []).drop k)) (fun p => (p.2.2.2.1 + 1).toNat)
    ⟨rfl, rfl, Int.le_refl _, h0, (x.getD []).length, List.replicate (x.getD []).length 0, ?_, Nat.le_refl _, ?_, by simp, Dig.rep _, ?_⟩ ?_
  · show IntKind.wrap IntKind.i64 (((x.getD []).length : Int) - 1) = _; exact wi64 (by omega) (by omega)
  · show some (List.replicate (((x.getD []).length : Int)).toNat 0) = _; rw [Int.toNat_natCast]
  · rw [List.drop_of_length_le (by simp), List.drop_length]; simp [nv]
  rintro ⟨x', y', rest, i, out⟩ ⟨e1, e2, r0, r1, k, o, e3, hk, e4, hlo, hdo, hinv⟩
  have r0 : 0 ≤ rest := r0
  have r1 : rest < y := r1
  have hinv : nv (o.drop k) * y + rest = nv ((x.getD []).drop k) := hinv
  simp only at e1 e2 e3 e4; subst e1 e2 e3 e4
  refine brV_iff.2 ⟨fun hb => ?_, fun hb => ?_⟩
  · have hb : (0 : Int) ≤ (k : Int) - 1 := dec_t hb
    obtain ⟨j, rfl⟩ : ∃ j, k = j + 1 := ⟨k - 1, by omega⟩
    have ej : (((j + 1 : Nat) : Int) - 1).toNat = j := by omega
    have g := hx.get j
    refine ⟨⟨by dsimp only; omega, by dsimp only; omega⟩, ?_⟩
    have hd := s_Div32 (a := rest) (b := (x'.getD []).getD j 0) (c := y') r0 g.1 g.2 h1 r1
    simp only [eltS, ej]
    refine hd.mono ?_
    rintro _ rfl
    simp only
    have hm := Int.mul_ediv_add_emod (rest * 4294967296 + (x'.getD []).getD j 0) y'
    have hr0 := Int.emod_nonneg (rest * 4294967296 + (x'.getD []).getD j 0) (show y' ≠ 0 by omega)
    have hr1 := Int.emod_lt_of_pos (rest * 4294967296 + (x'.getD []).getD j 0) h0
    have hq0 : 0 ≤ (rest * 4294967296 + (x'.getD []).getD j 0) / y' := Int.ediv_nonneg (by omega) (by omega)
    have hq1 : (rest * 4294967296 + (x'.getD []).getD j 0) / y' < 4294967296 := by
      refine Int.ediv_lt_of_lt_mul h0 ?_
      have : (rest + 1) * 4294967296 ≤ y' * 4294967296 := by omega
      rw [Int.mul_comm 4294967296 y']; omega
    refine ⟨⟨by omega, by simp only [Option.getD_some]; omega⟩, ⟨trivial, trivial, hr0, hr1, j, o.set j ((rest * 4294967296 + (x'.getD []).getD j 0) / y'), ?_, by omega, ?_, by simp [hlo], hdo.set j hq0 hq1, ?_⟩, ?_⟩
    · show IntKind.wrap IntKind.i64 (((j + 1 : Nat) : Int) - 1 - 1) = (j : Int) - 1; rw [wi64 (by omega) (by omega)]; omega
    · rfl
    · show nv ((o.set j ((rest * 4294967296 + (x'.getD []).getD j 0) / y')).drop j) * y' + (rest * 4294967296 + (x'.getD []).getD j 0) % y' = nv ((x'.getD []).drop j)
      rw [drop_set_same (by omega), nv_drop (x'.getD []) j (by omega), ← hinv]
      simp only [nv]
      generalize (rest * 4294967296 + (x'.getD []).getD j 0) / y' = q at *
      generalize (rest * 4294967296 + (x'.getD []).getD j 0) % y' = r at *
      generalize nv (o.drop (j + 1)) = z at *
      grind
    · show (IntKind.wrap IntKind.i64 (((j + 1 : Nat) : Int) - 1 - 1) + 1).toNat < (((j + 1 : Nat) : Int) - 1 + 1).toNat; rw [wi64 (by omega) (by omega)]; omega
  · have hb : ¬ (0 : Int) ≤ (k : Int) - 1 := dec_f hb
    have : k = 0 := by omega
    subst this
    simp only [List.drop_zero] at hinv
    obtain ⟨q1, q2⟩ := divmod_of hinv r0 r1
    exact ⟨o, rfl, hdo, q1, by omega, q2⟩

end Go.Proofs.Pf

namespace Go.Proofs.Pf

open Go Go.VM

theorem or32 {x y : Int} (n : Nat) (hx : 0 ≤ x) (hxn : x < 2 ^ n) (hy : 0 ≤ y) (hxy : x + y * 2 ^ n < 4294967296) : bitI BinOp.or IntKind.u32 x (y * 2 ^ n) = x + y * 2 ^ n := by
  have hp : (0 : Int) < 2 ^ n := Int.pow_pos (by decide)
  have hyn : 0 ≤ y * 2 ^ n := Int.mul_nonneg hy (Int.le_of_lt hp)
  have hx64 : x < 2 ^ 32 := by omega
  have hy64 : y * 2 ^ n < 2 ^ 32 := by omega
  rw [bor32, BitVec.toNat_or, bvn 32 hx hx64, bvn 32 hyn hy64]
  have e : x.toNat ||| (y * 2 ^ n).toNat = x.toNat + (y * 2 ^ n).toNat := by
    have e1 : (y * 2 ^ n).toNat = 2 ^ n * y.toNat := by
      rw [Int.toNat_mul hy (Int.le_of_lt hp), Nat.mul_comm]
      congr 1
    rw [e1, Nat.or_comm, Nat.add_comm]
    refine (Nat.two_pow_add_eq_or_of_lt ?_ _).symm
    have : ((2 : Int) ^ n) = ((2 ^ n : Nat) : Int) := by simp
    omega
  rw [e, wu32m]
  omega

theorem take_set_ge {l : List Int} {i k : Nat} {x : Int} (h : k ≤ i) : (l.set i x).take k = l.take k := by
  rw [List.take_set, List.set_eq_of_length_le]
  simp; omega

theorem getD_set_same {l : List Int} {i : Nat} {x : Int} (h : i < l.length) : (l.set i x).getD i 0 = x := by
  simp [List.getD, h]

theorem getD_set_other {l : List Int} {i j : Nat} {x : Int} (h : i ≠ j) : (l.set i x).getD j 0 = l.getD j 0 := by
  simp [List.getD, List.getElem?_set_ne h]

theorem shl_digit {x : Int} {n : Nat} (h0 : 0 ≤ x) (h1 : x < 4294967296) (hn : n < 32) : ∃ y w : Int, x * 2 ^ n = y * 2 ^ n + 4294967296 * w ∧ 0 ≤ y ∧ y * 2 ^ n + 2 ^ n ≤ 4294967296 ∧ 0 ≤ w ∧ w < 2 ^ n ∧ (x * 2 ^ n) % 4294967296 = y * 2 ^ n ∧ (x * 2 ^ n) / 4294967296 = w := by
  have e : (4294967296 : Int) = 2 ^ (32 - n) * 2 ^ n := by rw [← Int.pow_add, show 32 - n + n = 32 by omega]; rfl
  have hp : (0 : Int) < 2 ^ n := Int.pow_pos (by decide)
  have hq : (0 : Int) < 2 ^ (32 - n) := Int.pow_pos (by decide)
  have hm0 := Int.emod_nonneg x (show (2 : Int) ^ (32 - n) ≠ 0 by omega)
  have hm1 := Int.emod_lt_of_pos x hq
  have hd := Int.mul_ediv_add_emod x (2 ^ (32 - n))
  have hd0 : 0 ≤ x / 2 ^ (32 - n) := Int.ediv_nonneg h0 (by omega)
  have hlt : x / 2 ^ (32 - n) < 2 ^ n := Int.ediv_lt_of_lt_mul hq (by rw [Int.mul_comm, ← e]; exact h1)
  generalize x % 2 ^ (32 - n) = y at *
  generalize x / 2 ^ (32 - n) = w at *
  have e1 : x * 2 ^ n = y * 2 ^ n + 4294967296 * w := by rw [← hd]; grind
  have e2 : y * 2 ^ n + 2 ^ n ≤ 4294967296 := by
    have : (y + 1) * 2 ^ n ≤ 2 ^ (32 - n) * 2 ^ n := Int.mul_le_mul_of_nonneg_right (by omega) (by omega)
    rw [← e, Int.add_mul] at this; omega
  have e3 : 0 ≤ y * 2 ^ n := Int.mul_nonneg hm0 (by omega)
  refine ⟨y, w, e1, hm0, e2, hd0, hlt, ?_, ?_⟩
  · rw [e1, Int.add_mul_emod_self_left, Int.emod_eq_of_lt e3 (by omega)]
  · rw [e1, Int.add_mul_ediv_left _ _ (by decide), Int.ediv_eq_zero_of_lt e3 (by omega)]; omega

/-- The digits of a product with a power of 2. -/
def ShiftOf (x : List Int) (n : Nat) (r : Option (List Int)) : Prop := ∃ l, r = some l ∧ Dig l ∧ nv l = nv x * 2 ^ n ∧ l.length = x.length + 1

theorem shift_step {x o : List Int} {n k : Nat} (hx : Dig x) (hn : n < 32) (hk : k < x.length) (hl : o.length = x.length + 1) (hd : Dig o) (hi : nv (o.take (k + 1)) = nv (x.take k) * 2 ^ n) (ho : o.getD k 0 < 2 ^ n) :
    bitI BinOp.or IntKind.u32 (o.getD k 0) (IntKind.wrap IntKind.u32 (shlI IntKind.u64 (IntKind.wrap IntKind.u64 (x.getD k 0)) (n : Int))) = o.getD k 0 + (x.getD k 0 * 2 ^ n) % 4294967296 ∧
    IntKind.wrap IntKind.u32 (shrI IntKind.u64 (shlI IntKind.u64 (IntKind.wrap IntKind.u64 (x.getD k 0)) (n : Int)) 32) = (x.getD k 0 * 2 ^ n) / 4294967296 ∧
    Dig ((o.set k (o.getD k 0 + (x.getD k 0 * 2 ^ n) % 4294967296)).set (k + 1) ((x.getD k 0 * 2 ^ n) / 4294967296)) ∧
    nv (((o.set k (o.getD k 0 + (x.getD k 0 * 2 ^ n) % 4294967296)).set (k + 1) ((x.getD k 0 * 2 ^ n) / 4294967296)).take (k + 2)) = nv (x.take (k + 1)) * 2 ^ n ∧
    ((o.set k (o.getD k 0 + (x.getD k 0 * 2 ^ n) % 4294967296)).set (k + 1) ((x.getD k 0 * 2 ^ n) / 4294967296)).getD (k + 1) 0 < 2 ^ n := by
  have g := hx.get k
  have go := hd.get k
  obtain ⟨y, w, q1, q2, q3, q4, q5, q6, q7⟩ := shl_digit g.1 g.2 hn
  have hp : (0 : Int) < 2 ^ n := Int.pow_pos (by decide)
  have hy0 : 0 ≤ y * 2 ^ n := Int.mul_nonneg q2 (by omega)
  have hn2 : (2 : Int) ^ n ≤ 2147483648 := by
    have e : (2147483648 : Int) = 2 ^ (31 - n) * 2 ^ n := by rw [← Int.pow_add, show 31 - n + n = 31 by omega]; rfl
    have : (0 : Int) < 2 ^ (31 - n) := Int.pow_pos (by decide)
    have : 1 * (2 : Int) ^ n ≤ 2 ^ (31 - n) * 2 ^ n := Int.mul_le_mul_of_nonneg_right (by omega) (by omega)
    omega
  have esh : shlI IntKind.u64 (IntKind.wrap IntKind.u64 (x.getD k 0)) (n : Int) = x.getD k 0 * 2 ^ n := by
    rw [wu64 g.1 (by omega), shl64 _ _ (by omega), Int.emod_eq_of_lt (by omega) (by omega)]
  rw [esh, q6, q7]
  refine ⟨?_, ?_, ?_, ?_, ?_⟩
  · rw [wu32m, q6]; exact or32 n go.1 ho q2 (by omega)
  · rw [shr64_32, q7]; exact wu32 q4 (by omega)
  · exact (hd.set k (by omega) (by omega)).set (k + 1) q4 (by omega)
  · rw [nv_take_succ', getD_set_same (by simp; omega), nv_take_succ', take_set_ge (by omega), take_set_ge (Nat.le_refl _), getD_set_other (by omega), getD_set_same (by omega), nv_take_succ' x]
    rw [nv_take_succ'] at hi
    rw [Int.add_mul, ← hi, Int.pow_succ]
    generalize o.getD k 0 = z at *
    generalize x.getD k 0 = v at *
    have : (4294967296 : Int) ^ k * v * 2 ^ n = 4294967296 ^ k * (y * 2 ^ n + 4294967296 * w) := by rw [← q1]; grind
    rw [this]
    generalize y * 2 ^ n = u at *
    grind
  · rw [getD_set_same (by simp; omega)]; exact q5

theorem shift_ex {x : List Int} {n : Nat} (hx : Dig x) (hn : n < 32) : ∃ r, ShiftOf x n r := by
  have h1 := nv_lt hx
  have h0 := nv_nonneg hx
  have hp : (0 : Int) < 2 ^ n := Int.pow_pos (by decide)
  have hn2 : (2 : Int) ^ n ≤ 4294967296 := by
    have e : (4294967296 : Int) = 2 ^ (32 - n) * 2 ^ n := by rw [← Int.pow_add, show 32 - n + n = 32 by omega]; rfl
    have : (0 : Int) < 2 ^ (32 - n) := Int.pow_pos (by decide)
    have : 1 * (2 : Int) ^ n ≤ 2 ^ (32 - n) * 2 ^ n := Int.mul_le_mul_of_nonneg_right (by omega) (by omega)
    omega
  obtain ⟨l, q1, q2, q3⟩ := digs_ex (x.length + 1) (nv x * 2 ^ n) (Int.mul_nonneg h0 (by omega)) (by
    rw [Int.pow_succ]
    have e1 : (nv x + 1) * 2 ^ n ≤ 4294967296 ^ x.length * 2 ^ n := Int.mul_le_mul_of_nonneg_right (by omega) (by omega)
    have e2 : (4294967296 : Int) ^ x.length * 2 ^ n ≤ 4294967296 ^ x.length * 4294967296 := Int.mul_le_mul_of_nonneg_left hn2 (by have := pow_pos32 x.length; omega)
    have e3 : (nv x + 1) * 2 ^ n = nv x * 2 ^ n + 2 ^ n := by rw [Int.add_mul, Int.one_mul]
    omega)
  exact ⟨some l, l, rfl, q1, q2, q3⟩

theorem s_shifted {x : Option (List Int)} {n : Nat} (hx : Dig (x.getD [])) (hn : n < 32) (hl : (x.getD []).length ≤ 1099511627776) : ownV Pg c_exact_shifted [⟨tD, x⟩, ⟨tI, (n : Int)⟩] tU fun r => ShiftOf (x.getD []) n r := by
  refine w_exact_shifted x (n : Int) (shift_ex hx hn) ⟨?_, ?_⟩
  · simp only [szSl]; rw [wi64 (by omega) (by omega)]; simp only [mkC]; omega
  refine loopE (fun p => p.1 = (n : Int) ∧ p.2.1 = x ∧ p.2.2.1 = ((x.getD []).length : Int) ∧ ∃ (k : Nat) (o : List Int), p.2.2.2.1 = k ∧ k ≤ (x.getD []).length ∧ p.2.2.2.2 = some o ∧ o.length = (x.getD []).length + 1 ∧ Dig o ∧ nv (o.take (k + 1)) = nv ((x.getD []).take k) * 2 ^ n ∧ o.getD k 0 < 2 ^ n) (fun p => ((x.getD []).length - p.2.2.2.1).toNat)
    ⟨rfl, rfl, rfl, 0, List.replicate ((x.getD []).length + 1) 0, rfl, by omega, ?_, by simp, Dig.rep _, ?_, ?_⟩ ?_
  · show some (List.replicate (IntKind.wrap IntKind.i64 (((x.getD []).length : Int) + 1)).toNat 0) = _
    rw [wi64 (by omega) (by omega)]; congr 2
  · simp [nv, List.replicate_succ]
  · have : (0 : Int) < 2 ^ n := Int.pow_pos (by decide)
    simpa [List.getD, List.replicate_succ] using this
  rintro ⟨n', x', len, i, out⟩ ⟨e1, e2, e3, k, o, e4, hk, e5, hlo, hdo, hi, ho⟩
  dsimp only at e1 e2 e3 e4 e5
  subst e1 e2 e3 e4 e5
  refine brV_iff.2 ⟨fun hb => ?_, fun hb => ?_⟩
  · have hb : (k : Int) < ((x'.getD []).length : Int) := dec_t hb
    obtain ⟨t1, t2, t3, t4, t5⟩ := shift_step hx hn (by omega) hlo hdo hi ho
    have ek : IntKind.wrap IntKind.i64 ((k : Int) + 1) = ((k + 1 : Nat) : Int) := by rw [wi64 (by omega) (by omega)]; omega
    simp only [inS, eltS, eltN, toN, ek, Int.toNat_natCast, Option.getD_some, t1, t2]
    refine ⟨⟨by omega, by omega⟩, by omega, ⟨by omega, by omega⟩, ⟨by omega, by omega⟩, by omega, ⟨by omega, ?_⟩, ⟨trivial, trivial, trivial, k + 1, _, rfl, by omega, rfl, by simp [hlo], t3, t4, t5⟩, ?_⟩
    · simp [setO]; omega
    · omega
  · have hb : ¬ (k : Int) < ((x'.getD []).length : Int) := dec_f hb
    have : k = (x'.getD []).length := by omega
    subst this
    rw [List.take_of_length_le (by omega), List.take_length] at hi
    exact ⟨o, rfl, hdo, hi, hlo⟩

end Go.Proofs.Pf

namespace Go.Proofs.Pf

open Go Go.VM

set_option maxRecDepth 100000

def an_exact_long : Ann := (.seq .nil (.seq .nil (.seq (.reg [] [(2, ([], true)), (5, ([], true)), (6, ([39], false))] none) (.seq .nil (.seq .nil (.seq (.seq .nil (.blk none (.loop ⟨[(7, .own 36), (10, .own 47)], [.var 6 tI, .var 8 tD, .var 9 tI, .var 11 tI, .arr 36 tU, .arr 47 tU]⟩ (.seq .nil (.seq (.blk none (.seq .nil (.seq .nil (.seq .nil (.seq (.blk (some ⟨[(7, .own 36), (10, .own 47)], [.var 6 tI, .var 8 tD, .var 9 tI, .var 11 tI, .var 13 (.int .u64), .arr 36 tU, .arr 47 tU]⟩) (.loop ⟨[(7, .own 36), (10, .own 47)], [.var 6 tI, .var 8 tD, .var 9 tI, .var 11 tI, .var 13 (.int .u64), .var 14 (.int .u64), .arr 36 tU, .arr 47 tU]⟩ (.seq (.seq (.reg [] [] (some ⟨[(7, .own 36), (10, .own 47)], [.var 6 tI, .var 8 tD, .var 9 tI, .var 11 tI, .var 13 (.int .u64), .var 14 (.int .u64), .var 113 (.bool), .arr 36 tU, .arr 47 tU]⟩)) .nil) .nil))) (.seq .nil (.seq (.seq .nil (.blk none (.loop ⟨[(7, .own 36), (10, .own 47)], [.var 6 tI, .var 8 tD, .var 9 tI, .var 11 tI, .var 13 (.int .u64), .var 15 (.int .u64), .var 16 (.int .u64), .var 126 tD, .var 127 tI, .var 128 tI, .arr 36 tU, .arr 47 tU]⟩ .nil))) (.seq .nil (.seq .nil (.seq (.seq .nil (.cond (some ⟨[(7, .own 36), (10, .own 47)], [.var 6 tI, .var 8 tD, .var 9 tI, .var 11 tI, .var 13 (.int .u64), .arr 36 tU, .arr 47 tU]⟩) (.seq .nil (.seq .nil (.seq (.seq .nil (.blk none (.loop ⟨[(7, .own 36), (10, .own 47)], [.var 6 tI, .var 8 tD, .var 9 tI, .var 11 tI, .var 13 (.int .u64), .var 22 tU, .var 187 tD, .var 188 tI, .var 189 tI, .arr 36 tU, .arr 47 tU]⟩ .nil))) .nil))) .nil)) .nil)))))))))) .nil))))) (.seq .nil (.seq (.seq .nil (.blk none (.loop ⟨[(7, .own 36), (10, .own 47), (25, .own 227)], [.var 6 tI, .var 229 tI, .var 230 tI, .arr 36 tU, .arr 47 tU, .arr 227 tU]⟩ .nil))) .nil))))))))

theorem w_exact_long {Q : (DL × (DL × Unit)) → Prop} (a : DL) (b : DL) (hQ : ∃ r, Q r) (h :
  ((inS b (IntKind.wrap IntKind.i64 ((szSl b) - (1 : Int)))) ∧ (callV Pg c_math_bits_LeadingZeros32 [⟨tU, (eltS (0 : Int) b (IntKind.wrap IntKind.i64 ((szSl b) - (1 : Int))))⟩] tI (fun p0 => (ownV Pg c_exact_shifted [⟨tD, a⟩, ⟨tI, p0⟩] tU (fun p1 => (ownV Pg c_exact_shifted [⟨tD, b⟩, ⟨tI, p0⟩] tU (fun p2 => (callV Pg c_exact_trim [⟨tD, p2⟩] tD (fun p3 => ((mkC 4 (IntKind.wrap IntKind.i64 ((szSl p1) - (szSl p3))) (IntKind.wrap IntKind.i64 ((szSl p1) - (szSl p3)))) ∧ (loopV (Int × (DL × (Int × (Int × (DL × DL))))) (fun k4 => (fun p5 => (brV (decide ((0 : Int) ≤ p5.2.2.2.1)) ((inS p5.2.2.2.2.1 (IntKind.wrap IntKind.i64 (p5.2.2.2.1 + p5.2.2.1))) ∧ (((0 : Int) ≤ (32 : Int)) ∧ ((inS p5.2.2.2.2.1 (IntKind.wrap IntKind.i64 ((IntKind.wrap IntKind.i64 (p5.2.2.2.1 + p5.2.2.1)) - (1 : Int)))) ∧ ((inS p5.2.1 (IntKind.wrap IntKind.i64 (p5.2.2.1 - (1 : Int)))) ∧ (((IntKind.wrap IntKind.u64 (eltS (0 : Int) p5.2.1 (IntKind.wrap IntKind.i64 (p5.2.2.1 - (1 : Int))))) ≠ (0 : Int)) ∧ ((inS p5.2.1 (IntKind.wrap IntKind.i64 (p5.2.2.1 - (1 : Int)))) ∧ (((IntKind.wrap IntKind.u64 (eltS (0 : Int) p5.2.1 (IntKind.wrap IntKind.i64 (p5.2.2.1 - (1 : Int))))) ≠ (0 : Int)) ∧ (joinV (Int × (DL × (Int × (Int × (Int × (DL × DL)))))) (fun p6 => (loopV (Int × (DL × (Int × (Int × (Int × (Int × (Int × (DL × (Int × (Int × (DL × DL))))))))))) (fun k7 => (fun p8 => (brV (decide (p8.2.2.2.2.2.2.2.2.2.1 < p8.2.2.2.2.2.2.2.2.1)) ((inS p8.2.2.2.2.2.2.2.1 p8.2.2.2.2.2.2.2.2.2.1) ∧ (((0 : Int) ≤ (32 : Int)) ∧ ((inS p8.2.2.2.2.2.2.2.2.2.2.1 (IntKind.wrap IntKind.i64 (p8.2.2.2.1 + p8.2.2.2.2.2.2.2.2.2.1))) ∧ ((inS p8.2.2.2.2.2.2.2.2.2.2.1 (IntKind.wrap IntKind.i64 (p8.2.2.2.1 + p8.2.2.2.2.2.2.2.2.2.1))) ∧ (((0 : Int) ≤ (63 : Int)) ∧ (k7 (p8.1, (p8.2.1, (p8.2.2.1, (p8.2.2.2.1, (p8.2.2.2.2.1, ((shrI IntKind.u64 (IntKind.wrap IntKind.u64 ((IntKind.wrap IntKind.u64 ((IntKind.wrap IntKind.u64 (eltN (0 : Int) p8.2.2.2.2.2.2.2.2.2.2.1 (toN (IntKind.wrap IntKind.i64 (p8.2.2.2.1 + p8.2.2.2.2.2.2.2.2.2.1))))) - (IntKind.wrap IntKind.u64 (IntKind.wrap IntKind.u32 (IntKind.wrap IntKind.u64 ((IntKind.wrap IntKind.u64 (p8.2.2.2.2.1 * (IntKind.wrap IntKind.u64 (eltS (0 : Int) p8.2.2.2.2.2.2.2.1 p8.2.2.2.2.2.2.2.2.2.1)))) + p8.2.2.2.2.2.2.1)))))) - p8.2.2.2.2.2.1)) (63 : Int)), ((shrI IntKind.u64 (IntKind.wrap IntKind.u64 ((IntKind.wrap IntKind.u64 (p8.2.2.2.2.1 * (IntKind.wrap IntKind.u64 (eltS (0 : Int) p8.2.2.2.2.2.2.2.1 p8.2.2.2.2.2.2.2.2.2.1)))) + p8.2.2.2.2.2.2.1)) (32 : Int)), (p8.2.2.2.2.2.2.2.1, (p8.2.2.2.2.2.2.2.2.1, ((IntKind.wrap IntKind.i64 (p8.2.2.2.2.2.2.2.2.2.1 + (1 : Int))), ((setO p8.2.2.2.2.2.2.2.2.2.2.1 (toN (IntKind.wrap IntKind.i64 (p8.2.2.2.1 + p8.2.2.2.2.2.2.2.2.2.1))) (IntKind.wrap IntKind.u32 (IntKind.wrap IntKind.u64 ((IntKind.wrap IntKind.u64 ((IntKind.wrap IntKind.u64 (eltN (0 : Int) p8.2.2.2.2.2.2.2.2.2.2.1 (toN (IntKind.wrap IntKind.i64 (p8.2.2.2.1 + p8.2.2.2.2.2.2.2.2.2.1))))) - (IntKind.wrap IntKind.u64 (IntKind.wrap IntKind.u32 (IntKind.wrap IntKind.u64 ((IntKind.wrap IntKind.u64 (p8.2.2.2.2.1 * (IntKind.wrap IntKind.u64 (eltS (0 : Int) p8.2.2.2.2.2.2.2.1 p8.2.2.2.2.2.2.2.2.2.1)))) + p8.2.2.2.2.2.2.1)))))) - p8.2.2.2.2.2.1)))), p8.2.2.2.2.2.2.2.2.2.2.2))))))))))))))))) ((inS p8.2.2.2.2.2.2.2.2.2.2.1 (IntKind.wrap IntKind.i64 (p8.2.2.2.1 + p8.2.2.1))) ∧ ((inS p8.2.2.2.2.2.2.2.2.2.2.1 (IntKind.wrap IntKind.i64 (p8.2.2.2.1 + p8.2.2.1))) ∧ (((0 : Int) ≤ (63 : Int)) ∧ (joinV (Int × (DL × (Int × (Int × (Int × (DL × DL)))))) (fun p9 => ((inS p9.2.2.2.2.2.2 p9.2.2.2.1) ∧ (k4 (p9.1, (p9.2.1, (p9.2.2.1, ((IntKind.wrap IntKind.i64 (p9.2.2.2.1 - (1 : Int))), (p9.2.2.2.2.2.1, (setO p9.2.2.2.2.2.2 (toN p9.2.2.2.1) (IntKind.wrap IntKind.u32 p9.2.2.2.2.1)))))))))) (fun k9 => (brV (decide ((shrI IntKind.u64 (IntKind.wrap IntKind.u64 ((IntKind.wrap IntKind.u64 ((IntKind.wrap IntKind.u64 (eltN (0 : Int) p8.2.2.2.2.2.2.2.2.2.2.1 (toN (IntKind.wrap IntKind.i64 (p8.2.2.2.1 + p8.2.2.1))))) - p8.2.2.2.2.2.2.1)) - p8.2.2.2.2.2.1)) (63 : Int)) = (1 : Int))) (loopV (Int × (DL × (Int × (Int × (Int × (Int × (DL × (Int × (Int × (DL × DL)))))))))) (fun k10 => (fun p11 => (brV (decide (p11.2.2.2.2.2.2.2.2.1 < p11.2.2.2.2.2.2.2.1)) ((inS p11.2.2.2.2.2.2.1 p11.2.2.2.2.2.2.2.2.1) ∧ ((inS p11.2.2.2.2.2.2.2.2.2.1 (IntKind.wrap IntKind.i64 (p11.2.2.2.1 + p11.2.2.2.2.2.2.2.2.1))) ∧ (callV Pg c_math_bits_Add32 [⟨tU, (eltN (0 : Int) p11.2.2.2.2.2.2.2.2.2.1 (toN (IntKind.wrap IntKind.i64 (p11.2.2.2.1 + p11.2.2.2.2.2.2.2.2.1))))⟩, ⟨tU, (eltS (0 : Int) p11.2.2.2.2.2.2.1 p11.2.2.2.2.2.2.2.2.1)⟩, ⟨tU, p11.2.2.2.2.2.1⟩] (.tup (.pair tU (.pair tU .unit))) (fun p12 => ((inS p11.2.2.2.2.2.2.2.2.2.1 (IntKind.wrap IntKind.i64 (p11.2.2.2.1 + p11.2.2.2.2.2.2.2.2.1))) ∧ (k10 (p11.1, (p11.2.1, (p11.2.2.1, (p11.2.2.2.1, (p11.2.2.2.2.1, (p12.2.1, (p11.2.2.2.2.2.2.1, (p11.2.2.2.2.2.2.2.1, ((IntKind.wrap IntKind.i64 (p11.2.2.2.2.2.2.2.2.1 + (1 : Int))), ((setO p11.2.2.2.2.2.2.2.2.2.1 (toN (IntKind.wrap IntKind.i64 (p11.2.2.2.1 + p11.2.2.2.2.2.2.2.2.1))) p12.1), p11.2.2.2.2.2.2.2.2.2.2)))))))))))))))) ((inS p11.2.2.2.2.2.2.2.2.2.1 (IntKind.wrap IntKind.i64 (p11.2.2.2.1 + p11.2.2.1))) ∧ ((inS p11.2.2.2.2.2.2.2.2.2.1 (IntKind.wrap IntKind.i64 (p11.2.2.2.1 + p11.2.2.1))) ∧ (k9 (p11.1, (p11.2.1, (p11.2.2.1, (p11.2.2.2.1, (p11.2.2.2.2.1, ((setO p11.2.2.2.2.2.2.2.2.2.1 (toN (IntKind.wrap IntKind.i64 (p11.2.2.2.1 + p11.2.2.1))) (IntKind.wrap IntKind.u32 ((eltN (0 : Int) p11.2.2.2.2.2.2.2.2.2.1 (toN (IntKind.wrap IntKind.i64 (p11.2.2.2.1 + p11.2.2.1)))) + p11.2.2.2.2.2.1))), p11.2.2.2.2.2.2.2.2.2.2)))))))))))) (p8.1, (p8.2.1, (p8.2.2.1, (p8.2.2.2.1, ((IntKind.wrap IntKind.u64 (p8.2.2.2.2.1 - (1 : Int))), ((0 : Int), (p8.2.1, ((szSl p8.2.1), ((0 : Int), ((setO p8.2.2.2.2.2.2.2.2.2.2.1 (toN (IntKind.wrap IntKind.i64 (p8.2.2.2.1 + p8.2.2.1))) (IntKind.wrap IntKind.u32 (IntKind.wrap IntKind.u64 ((IntKind.wrap IntKind.u64 ((IntKind.wrap IntKind.u64 (eltN (0 : Int) p8.2.2.2.2.2.2.2.2.2.2.1 (toN (IntKind.wrap IntKind.i64 (p8.2.2.2.1 + p8.2.2.1))))) - p8.2.2.2.2.2.2.1)) - p8.2.2.2.2.2.1)))), p8.2.2.2.2.2.2.2.2.2.2.2))))))))))) (k9 (p8.1, (p8.2.1, (p8.2.2.1, (p8.2.2.2.1, (p8.2.2.2.2.1, ((setO p8.2.2.2.2.2.2.2.2.2.2.1 (toN (IntKind.wrap IntKind.i64 (p8.2.2.2.1 + p8.2.2.1))) (IntKind.wrap IntKind.u32 (IntKind.wrap IntKind.u64 ((IntKind.wrap IntKind.u64 ((IntKind.wrap IntKind.u64 (eltN (0 : Int) p8.2.2.2.2.2.2.2.2.2.2.1 (toN (IntKind.wrap IntKind.i64 (p8.2.2.2.1 + p8.2.2.1))))) - p8.2.2.2.2.2.2.1)) - p8.2.2.2.2.2.1)))), p8.2.2.2.2.2.2.2.2.2.2.2)))))))))))))))) (p6.1, (p6.2.1, (p6.2.2.1, (p6.2.2.2.1, (p6.2.2.2.2.1, ((0 : Int), ((0 : Int), (p6.2.1, ((szSl p6.2.1), ((0 : Int), p6.2.2.2.2.2)))))))))))) (fun k6 => (loopV (Int × (DL × (Int × (Int × (Int × (Int × (DL × DL))))))) (fun k7 => (fun p8 => (joinV (Int × (DL × (Int × (Int × (Int × (Int × (Bool × (DL × DL)))))))) (fun p9 => (brV p9.2.2.2.2.2.2.1 ((inS p9.2.1 (IntKind.wrap IntKind.i64 (p9.2.2.1 - (1 : Int)))) ∧ (brV (decide ((4294967296 : Int) ≤ (IntKind.wrap IntKind.u64 (p9.2.2.2.2.2.1 + (IntKind.wrap IntKind.u64 (eltS (0 : Int) p9.2.1 (IntKind.wrap IntKind.i64 (p9.2.2.1 - (1 : Int))))))))) (k6 (p9.1, (p9.2.1, (p9.2.2.1, (p9.2.2.2.1, ((IntKind.wrap IntKind.u64 (p9.2.2.2.2.1 - (1 : Int))), p9.2.2.2.2.2.2.2)))))) (k7 (p9.1, (p9.2.1, (p9.2.2.1, (p9.2.2.2.1, ((IntKind.wrap IntKind.u64 (p9.2.2.2.2.1 - (1 : Int))), ((IntKind.wrap IntKind.u64 (p9.2.2.2.2.2.1 + (IntKind.wrap IntKind.u64 (eltS (0 : Int) p9.2.1 (IntKind.wrap IntKind.i64 (p9.2.2.1 - (1 : Int))))))), p9.2.2.2.2.2.2.2))))))))) (k6 (p9.1, (p9.2.1, (p9.2.2.1, (p9.2.2.2.1, (p9.2.2.2.2.1, p9.2.2.2.2.2.2.2)))))))) (fun k9 => (brV (decide ((4294967296 : Int) ≤ p8.2.2.2.2.1)) (k9 (p8.1, (p8.2.1, (p8.2.2.1, (p8.2.2.2.1, (p8.2.2.2.2.1, (p8.2.2.2.2.2.1, (true, p8.2.2.2.2.2.2)))))))) ((inS p8.2.1 (IntKind.wrap IntKind.i64 (p8.2.2.1 - (2 : Int)))) ∧ (((0 : Int) ≤ (32 : Int)) ∧ ((inS p8.2.2.2.2.2.2.1 (IntKind.wrap IntKind.i64 ((IntKind.wrap IntKind.i64 (p8.2.2.2.1 + p8.2.2.1)) - (2 : Int)))) ∧ (k9 (p8.1, (p8.2.1, (p8.2.2.1, (p8.2.2.2.1, (p8.2.2.2.2.1, (p8.2.2.2.2.2.1, ((decide ((bitI BinOp.or IntKind.u64 (shlI IntKind.u64 p8.2.2.2.2.2.1 (32 : Int)) (IntKind.wrap IntKind.u64 (eltN (0 : Int) p8.2.2.2.2.2.2.1 (toN (IntKind.wrap IntKind.i64 ((IntKind.wrap IntKind.i64 (p8.2.2.2.1 + p8.2.2.1)) - (2 : Int))))))) < (IntKind.wrap IntKind.u64 (p8.2.2.2.2.1 * (IntKind.wrap IntKind.u64 (eltS (0 : Int) p8.2.1 (IntKind.wrap IntKind.i64 (p8.2.2.1 - (2 : Int))))))))), p8.2.2.2.2.2.2)))))))))))))))) (p5.1, (p5.2.1, (p5.2.2.1, (p5.2.2.2.1, ((IntKind.wrap IntKind.u64 (Int.tdiv (bitI BinOp.or IntKind.u64 (shlI IntKind.u64 (IntKind.wrap IntKind.u64 (eltN (0 : Int) p5.2.2.2.2.1 (toN (IntKind.wrap IntKind.i64 (p5.2.2.2.1 + p5.2.2.1))))) (32 : Int)) (IntKind.wrap IntKind.u64 (eltN (0 : Int) p5.2.2.2.2.1 (toN (IntKind.wrap IntKind.i64 ((IntKind.wrap IntKind.i64 (p5.2.2.2.1 + p5.2.2.1)) - (1 : Int))))))) (IntKind.wrap IntKind.u64 (eltS (0 : Int) p5.2.1 (IntKind.wrap IntKind.i64 (p5.2.2.1 - (1 : Int))))))), ((Int.tmod (bitI BinOp.or IntKind.u64 (shlI IntKind.u64 (IntKind.wrap IntKind.u64 (eltN (0 : Int) p5.2.2.2.2.1 (toN (IntKind.wrap IntKind.i64 (p5.2.2.2.1 + p5.2.2.1))))) (32 : Int)) (IntKind.wrap IntKind.u64 (eltN (0 : Int) p5.2.2.2.2.1 (toN (IntKind.wrap IntKind.i64 ((IntKind.wrap IntKind.i64 (p5.2.2.2.1 + p5.2.2.1)) - (1 : Int))))))) (IntKind.wrap IntKind.u64 (eltS (0 : Int) p5.2.1 (IntKind.wrap IntKind.i64 (p5.2.2.1 - (1 : Int)))))), p5.2.2.2.2)))))))))))))))) ((mkC 4 p5.2.2.1 p5.2.2.1) ∧ (loopV (Int × (Int × (Int × (DL × (DL × DL))))) (fun k6 => (fun p7 => (brV (decide (p7.2.2.1 < p7.2.1)) ((inS p7.2.2.2.1 p7.2.2.1) ∧ ((inS p7.2.2.2.1 (IntKind.wrap IntKind.i64 (p7.2.2.1 + (1 : Int)))) ∧ (((0 : Int) ≤ (32 : Int)) ∧ (((0 : Int) ≤ p7.1) ∧ ((inS p7.2.2.2.2.2 p7.2.2.1) ∧ (k6 (p7.1, (p7.2.1, ((IntKind.wrap IntKind.i64 (p7.2.2.1 + (1 : Int))), (p7.2.2.2.1, (p7.2.2.2.2.1, (setO p7.2.2.2.2.2 (toN p7.2.2.1) (IntKind.wrap IntKind.u32 (shrI IntKind.u64 (bitI BinOp.or IntKind.u64 (IntKind.wrap IntKind.u64 (eltN (0 : Int) p7.2.2.2.1 (toN p7.2.2.1))) (shlI IntKind.u64 (IntKind.wrap IntKind.u64 (eltN (0 : Int) p7.2.2.2.1 (toN (IntKind.wrap IntKind.i64 (p7.2.2.1 + (1 : Int)))))) (32 : Int))) p7.1)))))))))))))) (Q (p7.2.2.2.2.1, (p7.2.2.2.2.2, ())))))) (p5.1, ((szSl (some (repS p5.2.2.1 (0 : Int)))), ((0 : Int), (p5.2.2.2.2.1, (p5.2.2.2.2.2, (some (repS p5.2.2.1 (0 : Int))))))))))))) (p0, (p3, ((szSl p3), ((IntKind.wrap IntKind.i64 ((IntKind.wrap IntKind.i64 ((szSl p1) - (szSl p3))) - (1 : Int))), (p1, (some (repS (IntKind.wrap IntKind.i64 ((szSl p1) - (szSl p3))) (0 : Int)))))))))))))))))))) :
  callV Pg c_exact_long [⟨tD, a⟩, ⟨tD, b⟩] (.tup (.pair tD (.pair tD .unit))) Q :=
  callV_of (c := bodyOf f_exact_long) (ann := an_exact_long) e_exact_long rfl r_exact_long rfl rfl hQ (kcast (by kernel_rfl) h)

def an_exact_Int_Mul : Ann := (.seq .nil (.seq (.seq (.reg [] [] (some ⟨[(2, .ref 2 0), (3, .ref 3 0), (4, .ref 4 0)], [.var 24 (.bool), .box 2 tEI, .box 3 tEI, .box 4 tEI]⟩)) (.cond (some ⟨[(2, .ref 2 0), (3, .ref 3 0), (4, .ref 4 0)], [.box 2 tEI, .box 3 tEI, .box 4 tEI]⟩) (.seq .nil (.seq (.reg [] [] (some ⟨[(2, .ref 2 0), (3, .ref 3 0), (4, .ref 4 0)], [.var 6 (.int .u64), .var 48 (.bool), .box 2 tEI, .box 3 tEI, .box 4 tEI]⟩)) .nil)) .nil)) (.seq .nil (.seq .nil (.seq .nil (.seq (.seq .nil (.blk none (.loop ⟨[(4, .ref 4 0), (11, .own 73)], [.var 7 tI, .var 9 tI, .var 10 tD, .var 74 tD, .var 75 tI, .var 76 tI, .box 4 tEI, .arr 73 tU]⟩ (.seq .nil (.seq .nil (.seq (.blk none (.seq .nil (.seq .nil (.seq (.seq .nil (.blk none (.loop ⟨[(4, .ref 4 0), (11, .own 73)], [.var 7 tI, .var 9 tI, .var 10 tD, .var 12 tI, .var 13 tU, .var 14 (.int .u64), .var 74 tD, .var 75 tI, .var 76 tI, .var 81 tD, .var 82 tI, .var 83 tI, .box 4 tEI, .arr 73 tU]⟩ .nil))) .nil)))) .nil)))))) (.seq (.reg [] [(4, ([73], false))] none) .nil)))))))

theorem w_exact_Int_Mul {Q : DE → Prop} (a : DE) (b : DE) (hQ : ∃ r, Q r) (h :
  (joinV (Bool × (DE × DR)) (fun p0 => (joinV (DE × DR) (fun p1 => (callV Pg c_exact_Int_digits [⟨tEI, p1.1⟩] (.tup (.pair tI (.pair tD .unit))) (fun p2 => (callV Pg c_exact_Int_digits [⟨tEI, p1.2.1⟩] (.tup (.pair tI (.pair tD .unit))) (fun p3 => ((mkC 4 (IntKind.wrap IntKind.i64 ((szSl p2.2.1) + (szSl p3.2.1))) (IntKind.wrap IntKind.i64 ((szSl p2.2.1) + (szSl p3.2.1)))) ∧ (loopV (Int × (Int × (DL × (DL × (Int × (Int × (DE × DL))))))) (fun k4 => (fun p5 => (brV (decide (p5.2.2.2.2.2.1 < p5.2.2.2.2.1)) ((inS p5.2.2.2.1 p5.2.2.2.2.2.1) ∧ (loopV (Int × (Int × (DL × (Int × (Int × (Int × (DL × (Int × (Int × (DL × (Int × (Int × (DE × DL))))))))))))) (fun k6 => (fun p7 => (brV (decide (p7.2.2.2.2.2.2.2.2.2.2.2.1 < p7.2.2.2.2.2.2.2.2.2.2.1)) ((inS p7.2.2.2.2.2.2.2.2.2.1 p7.2.2.2.2.2.2.2.2.2.2.2.1) ∧ ((inS p7.2.2.2.2.2.2.2.2.2.2.2.2.2 (IntKind.wrap IntKind.i64 (p7.2.2.2.1 + p7.2.2.2.2.2.2.2.2.2.2.2.1))) ∧ ((inS p7.2.2.2.2.2.2.2.2.2.2.2.2.2 (IntKind.wrap IntKind.i64 (p7.2.2.2.1 + p7.2.2.2.2.2.2.2.2.2.2.2.1))) ∧ (((0 : Int) ≤ (32 : Int)) ∧ (k6 (p7.1, (p7.2.1, (p7.2.2.1, (p7.2.2.2.1, (p7.2.2.2.2.1, ((shrI IntKind.u64 (IntKind.wrap IntKind.u64 (p7.2.2.2.2.2.1 + (IntKind.wrap IntKind.u64 ((IntKind.wrap IntKind.u64 ((IntKind.wrap IntKind.u64 p7.2.2.2.2.1) * (IntKind.wrap IntKind.u64 (eltS (0 : Int) p7.2.2.2.2.2.2.2.2.2.1 p7.2.2.2.2.2.2.2.2.2.2.2.1)))) + (IntKind.wrap IntKind.u64 (eltN (0 : Int) p7.2.2.2.2.2.2.2.2.2.2.2.2.2 (toN (IntKind.wrap IntKind.i64 (p7.2.2.2.1 + p7.2.2.2.2.2.2.2.2.2.2.2.1))))))))) (32 : Int)), (p7.2.2.2.2.2.2.1, (p7.2.2.2.2.2.2.2.1, (p7.2.2.2.2.2.2.2.2.1, (p7.2.2.2.2.2.2.2.2.2.1, (p7.2.2.2.2.2.2.2.2.2.2.1, ((IntKind.wrap IntKind.i64 (p7.2.2.2.2.2.2.2.2.2.2.2.1 + (1 : Int))), (p7.2.2.2.2.2.2.2.2.2.2.2.2.1, (setO p7.2.2.2.2.2.2.2.2.2.2.2.2.2 (toN (IntKind.wrap IntKind.i64 (p7.2.2.2.1 + p7.2.2.2.2.2.2.2.2.2.2.2.1))) (IntKind.wrap IntKind.u32 (IntKind.wrap IntKind.u64 (p7.2.2.2.2.2.1 + (IntKind.wrap IntKind.u64 ((IntKind.wrap IntKind.u64 ((IntKind.wrap IntKind.u64 p7.2.2.2.2.1) * (IntKind.wrap IntKind.u64 (eltS (0 : Int) p7.2.2.2.2.2.2.2.2.2.1 p7.2.2.2.2.2.2.2.2.2.2.2.1)))) + (IntKind.wrap IntKind.u64 (eltN (0 : Int) p7.2.2.2.2.2.2.2.2.2.2.2.2.2 (toN (IntKind.wrap IntKind.i64 (p7.2.2.2.1 + p7.2.2.2.2.2.2.2.2.2.2.2.1))))))))))))))))))))))))))))) ((inS p7.2.2.2.2.2.2.2.2.2.2.2.2.2 (IntKind.wrap IntKind.i64 (p7.2.2.2.1 + (szSl p7.2.2.1)))) ∧ (k4 (p7.1, (p7.2.1, (p7.2.2.1, (p7.2.2.2.2.2.2.1, (p7.2.2.2.2.2.2.2.1, ((IntKind.wrap IntKind.i64 (p7.2.2.2.2.2.2.2.2.1 + (1 : Int))), (p7.2.2.2.2.2.2.2.2.2.2.2.2.1, (setO p7.2.2.2.2.2.2.2.2.2.2.2.2.2 (toN (IntKind.wrap IntKind.i64 (p7.2.2.2.1 + (szSl p7.2.2.1)))) (IntKind.wrap IntKind.u32 p7.2.2.2.2.2.1)))))))))))))) (p5.1, (p5.2.1, (p5.2.2.1, (p5.2.2.2.2.2.1, ((eltS (0 : Int) p5.2.2.2.1 p5.2.2.2.2.2.1), ((0 : Int), (p5.2.2.2.1, (p5.2.2.2.2.1, (p5.2.2.2.2.2.1, (p5.2.2.1, ((szSl p5.2.2.1), ((0 : Int), (p5.2.2.2.2.2.2.1, p5.2.2.2.2.2.2.2))))))))))))))) (callV Pg c_exact_made [⟨tI, (IntKind.wrap IntKind.i64 (p5.1 * p5.2.1))⟩, ⟨tD, p5.2.2.2.2.2.2.2⟩] tEI (fun p6 => (Q p6)))))) (p2.1, (p3.1, (p3.2.1, (p2.2.1, ((szSl p2.2.1), ((0 : Int), (p1.2.2, (some (repS (IntKind.wrap IntKind.i64 ((szSl p2.2.1) + (szSl p3.2.1))) (0 : Int))))))))))))))))) (fun k1 => (brV p0.1 (callV Pg c_math_bits_Mul64 [⟨(.int .u64), (IntKind.wrap IntKind.u64 (maxI p0.2.1.1 (IntKind.wrap IntKind.i64 ((0 : Int) - p0.2.1.1))))⟩, ⟨(.int .u64), (IntKind.wrap IntKind.u64 (maxI p0.2.2.1.1 (IntKind.wrap IntKind.i64 ((0 : Int) - p0.2.2.1.1))))⟩] (.tup (.pair (.int .u64) (.pair (.int .u64) .unit))) (fun p2 => (joinV (Int × (Bool × (DE × DR))) (fun p3 => (brV p3.2.1 (callV Pg c_exact_Int_Sign [⟨tEI, p3.2.2.1⟩] tI (fun p4 => (callV Pg c_exact_Int_Sign [⟨tEI, p3.2.2.2.1⟩] tI (fun p5 => (Q ((IntKind.wrap IntKind.i64 ((IntKind.wrap IntKind.i64 (p4 * p5)) * (IntKind.wrap IntKind.i64 p3.1))), none)))))) (k1 (p3.2.2.1, (p3.2.2.2.1, p3.2.2.2.2))))) (fun k3 => (brV (decide (p2.1 = (0 : Int))) (k3 (p2.2.1, ((decide (p2.2.1 < (4611686018427387904 : Int))), (p0.2.1, (p0.2.2.1, p0.2.2.2))))) (k3 (p2.2.1, (false, (p0.2.1, (p0.2.2.1, p0.2.2.2)))))))))) (k1 (p0.2.1, (p0.2.2.1, p0.2.2.2))))))) (fun k0 => (brV (Option.isNone a.2) (k0 ((Option.isNone b.2), (a, (b, ((0 : Int), none))))) (k0 (false, (a, (b, ((0 : Int), none))))))))) :
  callV Pg c_exact_Int_Mul [⟨tEI, a⟩, ⟨tEI, b⟩] tEI Q :=
  callV_of (c := bodyOf f_exact_Int_Mul) (ann := an_exact_Int_Mul) e_exact_Int_Mul rfl r_exact_Int_Mul rfl rfl hQ (kcast (by kernel_rfl) h)

end Go.Proofs.Pf

namespace Go.Proofs.Pf

open Go Go.VM

theorem mul_dig {p q z c : Int} (hp : 0 ≤ p) (hp' : p < 4294967296) (hq : 0 ≤ q) (hq' : q < 4294967296) (hz : 0 ≤ z) (hz' : z < 4294967296) (hc : 0 ≤ c) (hc' : c < 4294967296) :
    0 ≤ p * q + z + c ∧ p * q + z + c < 18446744073709551616 ∧ IntKind.wrap IntKind.u64 (c + IntKind.wrap IntKind.u64 (IntKind.wrap IntKind.u64 (IntKind.wrap IntKind.u64 p * IntKind.wrap IntKind.u64 q) + IntKind.wrap IntKind.u64 z)) = p * q + z + c := by
  have h0 : 0 ≤ p * q := Int.mul_nonneg hp hq
  have h1 : p * q ≤ 4294967295 * 4294967295 := Int.mul_le_mul (by omega) (by omega) hq (by omega)
  rw [wu64 hp (by omega), wu64 hq (by omega), wu64 hz (by omega)]
  generalize p * q = m at *
  rw [wu64 h0 (by omega), wu64 (x := m + z) (by omega) (by omega), wu64 (by omega) (by omega)]
  omega

/-- The state of a product. -/
structure MInv (x y : List Int) (i : Nat) (o : List Int) : Prop where
  len : o.length = x.length + y.length
  dig : Dig o
  val : nv o = nv (x.take i) * nv y
  zero : ∀ j, i + y.length ≤ j → o.getD j 0 = 0

structure MIn (x y : List Int) (i k : Nat) (c : Int) (o : List Int) : Prop where
  len : o.length = x.length + y.length
  dig : Dig o
  c0 : 0 ≤ c
  c1 : c < 4294967296
  val : nv o + 4294967296 ^ (i + k) * c = nv (x.take i) * nv y + 4294967296 ^ i * x.getD i 0 * nv (y.take k)
  zero : ∀ j, i + y.length ≤ j → o.getD j 0 = 0

theorem MIn.start {x y : List Int} {i : Nat} {o : List Int} (h : MInv x y i o) : MIn x y i 0 0 o := ⟨h.len, h.dig, Int.le_refl _, by decide, by simp [nv, h.val], h.zero⟩

theorem MIn.step {x y : List Int} {i k : Nat} {c : Int} {o : List Int} (hx : Dig x) (hy : Dig y) (hi : i < x.length) (hk : k < y.length) (h : MIn x y i k c o) :
    MIn x y i (k + 1) ((x.getD i 0 * y.getD k 0 + o.getD (i + k) 0 + c) / 4294967296) (o.set (i + k) ((x.getD i 0 * y.getD k 0 + o.getD (i + k) 0 + c) % 4294967296)) := by
  have gx := hx.get i
  have gy := hy.get k
  have go := h.dig.get (i + k)
  have hl := h.len
  obtain ⟨m1, m2, _⟩ := mul_dig gx.1 gx.2 gy.1 gy.2 go.1 go.2 h.c0 h.c1
  refine ⟨by simp [hl], h.dig.set _ (by omega) (by omega), by omega, by omega, ?_, fun j hj => ?_⟩
  · rw [nv_set _ _ _ (by omega), nv_take_succ']
    have hv := h.val
    have hdm := Int.emod_add_mul_ediv (x.getD i 0 * y.getD k 0 + o.getD (i + k) 0 + c) 4294967296
    generalize (x.getD i 0 * y.getD k 0 + o.getD (i + k) 0 + c) % 4294967296 = d at *
    generalize (x.getD i 0 * y.getD k 0 + o.getD (i + k) 0 + c) / 4294967296 = e at *
    have e1 : (4294967296 : Int) ^ (i + (k + 1)) = 4294967296 ^ (i + k) * 4294967296 := by rw [← Nat.add_assoc, Int.pow_succ]
    have e2 : (4294967296 : Int) ^ (i + k) = 4294967296 ^ i * 4294967296 ^ k := Int.pow_add ..
    rw [e1]
    rw [e2] at hv ⊢
    generalize (4294967296 : Int) ^ i = bi at *
    generalize (4294967296 : Int) ^ k = bk at *
    grind
  · rw [getD_set_other (by omega)]; exact h.zero j hj

theorem MIn.fin {x y : List Int} {i : Nat} {c : Int} {o : List Int} (hi : i < x.length) (h : MIn x y i y.length c o) : MInv x y (i + 1) (o.set (i + y.length) c) := by
  have hl := h.len
  refine ⟨by simp [hl], h.dig.set _ h.c0 h.c1, ?_, fun j hj => ?_⟩
  · rw [nv_set _ _ _ (by omega), h.zero _ (Nat.le_refl _), nv_take_succ']
    have hv := h.val
    rw [List.take_length] at hv
    grind
  · rw [getD_set_other (by omega)]; exact h.zero j (by omega)

theorem sgn_mul (n m : Int) : sgn (n * m) = sgn n * sgn m := by
  rcases sgn3 n with ⟨e1, h1⟩ | ⟨e1, h1⟩ | ⟨e1, h1⟩ <;> rcases sgn3 m with ⟨e2, h2⟩ | ⟨e2, h2⟩ | ⟨e2, h2⟩ <;> rw [e1, e2]
  · have := Int.mul_pos h1 h2; rw [sgn, if_pos this]; rfl
  · have := Int.mul_neg_of_pos_of_neg h1 h2; rw [sgn, if_neg (by omega), if_pos this]; rfl
  · rw [h2]; simp [sgn]
  · have := Int.mul_neg_of_neg_of_pos h1 h2; rw [sgn, if_neg (by omega), if_pos this]; rfl
  · have := Int.mul_pos_of_neg_of_neg h1 h2; rw [sgn, if_pos this]; rfl
  · rw [h2]; simp [sgn]
  · rw [h1]; simp [sgn]
  · rw [h1]; simp [sgn]
  · rw [h1]; simp [sgn]

theorem sgn_abs (n : Int) : sgn n * n.natAbs = n := by
  rcases sgn3 n with ⟨e1, h1⟩ | ⟨e1, h1⟩ | ⟨e1, h1⟩ <;> rw [e1] <;> omega

theorem sgn_cases (n : Int) : sgn n = 1 ∨ sgn n = -1 ∨ (sgn n = 0 ∧ n = 0) := by
  rcases sgn3 n with ⟨e1, h1⟩ | ⟨e1, h1⟩ | ⟨e1, h1⟩
  · exact .inl e1
  · exact .inr (.inl e1)
  · exact .inr (.inr ⟨e1, h1⟩)

theorem s_Mul {x y : Int × Option (List Int)} {n m : Int} {k j : Nat} (hx : IV x n) (hy : IV y m) (fx : Fit k n) (fy : Fit j m) (hk : k ≤ 1073741824) (hj : j ≤ 1073741824) : callV Pg c_exact_Int_Mul [⟨tEI, x⟩, ⟨tEI, y⟩] tEI fun r => IV r (n * m) := by
  refine w_exact_Int_Mul x y (IV_ex _) (joinR (fun p => p = (Option.isNone x.2 && Option.isNone y.2, x, y, (0 : Int), none)) ?_ ?_)
  · rintro _ rfl
    refine joinR (fun p => p = (x, y, (0 : Int), none)) ?_ ?_
    · rintro _ rfl
      dsimp only
      refine (s_digits hx).mono ?_
      rintro ⟨s, d, _⟩ ⟨e1, X, e2, d1, t1, v1⟩
      dsimp only at e1 e2; subst e1 e2
      refine (s_digits hy).mono ?_
      rintro ⟨s, d, _⟩ ⟨e1, Y, e2, d2, t2, v2⟩
      dsimp only at e1 e2; subst e1 e2
      have l1 := t1.fit d1 fx v1
      have l2 := t2.fit d2 fy v2
      have el : IntKind.wrap IntKind.i64 ((X.length : Int) + (Y.length : Int)) = (X.length : Int) + (Y.length : Int) := wi64 (by omega) (by omega)
      refine ⟨?_, ?_⟩
      · show mkC 4 (IntKind.wrap IntKind.i64 ((X.length : Int) + (Y.length : Int))) (IntKind.wrap IntKind.i64 ((X.length : Int) + (Y.length : Int)))
        rw [el]; simp only [mkC]; omega
      refine loopE (fun p => ∃ (i : Nat) (o : List Int), i ≤ X.length ∧ MInv X Y i o ∧ p = (sgn n, sgn m, some Y, some X, (X.length : Int), (i : Int), ((0 : Int), none), some o)) (fun p => ((X.length : Int) - p.2.2.2.2.2.1).toNat) ⟨0, List.replicate (X.length + Y.length) 0, by omega, ⟨by simp, Dig.rep _, by rw [nv_rep]; simp [nv], fun j _ => ?_⟩, ?_⟩ ?_
      · simp only [List.getD, List.getElem?_replicate]; split <;> rfl
      · show (sgn n, sgn m, some Y, some X, (X.length : Int), (0 : Int), ((0 : Int), none), some (List.replicate (IntKind.wrap IntKind.i64 ((X.length : Int) + (Y.length : Int))).toNat 0)) = _
        rw [el]
        have : ((X.length : Int) + (Y.length : Int)).toNat = X.length + Y.length := by omega
        rw [this]; rfl
      rintro _ ⟨i, o, hi, hI, rfl⟩
      refine brV_iff.2 ⟨fun hb => ?_, fun hb => ?_⟩
      · have hb : (i : Int) < (X.length : Int) := dec_t hb
        refine ⟨⟨by dsimp only; omega, by dsimp only [Option.getD_some]; omega⟩, ?_⟩
        dsimp only
        simp only [eltS, Option.getD_some, Int.toNat_natCast, szSl]
        refine loopE (fun p => ∃ (k : Nat) (c : Int) (o : List Int), k ≤ Y.length ∧ MIn X Y i k c o ∧ p = (sgn n, sgn m, some Y, (i : Int), X.getD i 0, c, some X, (X.length : Int), (i : Int), some Y, (Y.length : Int), (k : Int), ((0 : Int), none), some o)) (fun p => ((Y.length : Int) - p.2.2.2.2.2.2.2.2.2.2.2.1).toNat) ⟨0, 0, o, by omega, MIn.start hI, rfl⟩ ?_
        rintro _ ⟨k, c, o, hk', hM, rfl⟩
        have hl := hM.len
        refine brV_iff.2 ⟨fun hc => ?_, fun hc => ?_⟩
        · have hc : (k : Int) < (Y.length : Int) := dec_t hc
          have ei : IntKind.wrap IntKind.i64 ((i : Int) + (k : Int)) = ((i + k : Nat) : Int) := by rw [wi64 (by omega) (by omega)]; omega
          have ek : IntKind.wrap IntKind.i64 ((k : Int) + 1) = ((k + 1 : Nat) : Int) := by rw [wi64 (by omega) (by omega)]; omega
          have gx := d1.get i
          have gy := d2.get k
          have go := hM.dig.get (i + k)
          obtain ⟨m1, m2, m3⟩ := mul_dig gx.1 gx.2 gy.1 gy.2 go.1 go.2 hM.c0 hM.c1
          have hst := hM.step d1 d2 (by omega) (by omega)
          simp only [inS, eltN, toN, Option.getD_some, Int.toNat_natCast, ei, ek, m3, shr64_32, wu32m]
          refine ⟨⟨by omega, by omega⟩, ⟨by omega, by omega⟩, ⟨by omega, by omega⟩, by omega, ⟨k + 1, _, _, by omega, hst, rfl⟩, by omega⟩
        · have hc : ¬ (k : Int) < (Y.length : Int) := dec_f hc
          have : k = Y.length := by omega
          subst this
          have ei : IntKind.wrap IntKind.i64 ((i : Int) + (Y.length : Int)) = ((i + Y.length : Nat) : Int) := by rw [wi64 (by omega) (by omega)]; omega
          have ek : IntKind.wrap IntKind.i64 ((i : Int) + 1) = ((i + 1 : Nat) : Int) := by rw [wi64 (by omega) (by omega)]; omega
          have hf := hM.fin (by omega)
          simp only [inS, toN, Option.getD_some, Int.toNat_natCast, ei, ek, wu32 hM.c0 hM.c1]
          refine ⟨⟨by omega, by omega⟩, ⟨i + 1, _, by omega, hf, rfl⟩, by omega⟩
      · have hb : ¬ (i : Int) < (X.length : Int) := dec_f hb
        have : i = X.length := by omega
        subst this
        have hv := hI.val
        rw [List.take_length, v1, v2] at hv
        have es : IntKind.wrap IntKind.i64 (sgn n * sgn m) = sgn (n * m) := by
          rw [sgn_mul]
          rcases sgn_cases n with e1 | e1 | ⟨e1, _⟩ <;> rcases sgn_cases m with e2 | e2 | ⟨e2, _⟩ <;> rw [e1, e2] <;> rfl
        dsimp only
        rw [es]
        have hln := hI.len
        refine (s_made (b := some o) hI.dig ?_ (by simp only [Option.getD_some]; omega)).mono ?_
        · rcases sgn_cases (n * m) with e | e | ⟨e, e0⟩
          · exact .inl e
          · exact .inr (.inl e)
          · refine .inr (.inr ⟨e, ?_⟩)
            rw [Option.getD_some, hv]
            rcases Int.mul_eq_zero.1 e0 with rfl | rfl <;> simp
        · intro r hr
          rw [Option.getD_some, hv] at hr
          have : sgn (n * m) * ((n.natAbs : Int) * (m.natAbs : Int)) = n * m := by
            have := sgn_abs (n * m)
            rw [Int.natAbs_mul] at this
            simpa using this
          rw [this] at hr
          exact hr
    · intro k1 hk1
      refine brV_iff.2 ⟨fun h => ?_, fun h => hk1 _ rfl⟩
      obtain ⟨v, d⟩ := x
      obtain ⟨w, e⟩ := y
      simp only [Bool.and_eq_true, Option.isNone_iff_eq_none] at h
      obtain ⟨rfl, rfl⟩ := h
      have hx' := hx
      have hy' := hy
      obtain ⟨rfl, h1, h2⟩ := hx
      obtain ⟨rfl, h3, h4⟩ := hy
      dsimp only at h1 h2 h3 h4 hk1 hx' hy' ⊢
      have ab : ∀ v : Int, -4611686018427387904 < v → v < 4611686018427387904 → IntKind.wrap IntKind.u64 (maxI v (IntKind.wrap IntKind.i64 (0 - v))) = (v.natAbs : Int) := by
        intro v h1 h2
        rw [wi64 (by omega) (by omega)]
        unfold maxI
        split
        · rw [wu64 (by omega) (by omega)]; omega
        · rw [wu64 (by omega) (by omega)]; omega
      rw [ab v h1 h2, ab w h3 h4]
      have hp : (v.natAbs : Int) * (w.natAbs : Int) = ((v * w).natAbs : Int) := by rw [Int.natAbs_mul]; simp
      refine (s_Mul64 (by omega) (by omega) (by omega) (by omega)).mono ?_
      rintro _ rfl
      rw [hp]
      refine joinR (fun p => ∃ b : Bool, p = (((v * w).natAbs : Int) % 18446744073709551616, b, (v, none), (w, none), (0 : Int), none) ∧ (b = true → ((v * w).natAbs : Int) < 4611686018427387904)) ?_ ?_
      · rintro _ ⟨b, rfl, hb⟩
        refine brV_iff.2 ⟨fun h => ?_, fun h => hk1 _ rfl⟩
        have hb := hb h
        refine (s_Sign hx').mono ?_
        rintro _ rfl
        refine (s_Sign hy').mono ?_
        rintro _ rfl
        dsimp only
        have es : IntKind.wrap IntKind.i64 (sgn v * sgn w) = sgn (v * w) := by
          rw [sgn_mul]
          rcases sgn_cases v with e1 | e1 | ⟨e1, _⟩ <;> rcases sgn_cases w with e2 | e2 | ⟨e2, _⟩ <;> rw [e1, e2] <;> rfl
        rw [es, Int.emod_eq_of_lt (by omega) (by omega), wi64 (x := ((v * w).natAbs : Int)) (by omega) (by omega), sgn_abs, wi64 (by omega) (by omega)]
        exact ⟨rfl, by omega, by omega⟩
      · intro k hk
        refine brV_iff.2 ⟨fun h => ?_, fun h => ?_⟩
        · have h : ((v * w).natAbs : Int) / 18446744073709551616 = 0 := dec_t h
          refine hk _ ⟨_, rfl, fun hb => ?_⟩
          have hb : ((v * w).natAbs : Int) % 18446744073709551616 < 4611686018427387904 := dec_t hb
          omega
        · exact hk _ ⟨false, rfl, fun hb => by simp at hb⟩
  · intro k hk
    refine brV_iff.2 ⟨fun h => hk _ (by rw [h]; rfl), fun h => hk _ (by rw [h]; rfl)⟩

end Go.Proofs.Pf

namespace Go.Proofs.Pf

open Go Go.VM

/-- A quotient and a rest, as digits. -/
def LongOf (x y : List Int) (r : Option (List Int) × Option (List Int) × Unit) : Prop :=
  (∃ l, r.1 = some l ∧ Dig l ∧ nv l = nv x / nv y ∧ l.length ≤ x.length + 1) ∧ ∃ l, r.2.1 = some l ∧ Dig l ∧ nv l = nv x % nv y ∧ l.length ≤ y.length

def LongS : Prop := ∀ (x y : List Int), Dig x → Dig y → Trm y → 2 ≤ y.length → y.length ≤ x.length → x.length ≤ 1073741824 →
  callV Pg c_exact_long [⟨tD, some x⟩, ⟨tD, some y⟩] (.tup (.pair tD (.pair tD .unit))) fun r => LongOf x y r

/-- The quotient toward 0 and the rest. -/
def QuoOf (n m : Int) (r : (Int × Option (List Int)) × (Int × Option (List Int)) × Unit) : Prop := IV r.1 (n.tdiv m) ∧ IV r.2.1 (n.tmod m)

theorem quo_sgn (n m : Int) (hm : m ≠ 0) : sgn n * sgn m * ((n.natAbs : Int) / (m.natAbs : Int)) = n.tdiv m ∧ sgn n * ((n.natAbs : Int) % (m.natAbs : Int)) = n.tmod m := by
  have hn := sgn3 n
  have hm' := sgn3 m
  have key : ∀ a b : Int, 0 ≤ a → a.tdiv b = a / b ∧ a.tmod b = a % b := fun a b h => ⟨Int.tdiv_eq_ediv_of_nonneg h, Int.tmod_eq_emod_of_nonneg h⟩
  rcases hn with ⟨e1, h1⟩ | ⟨e1, h1⟩ | ⟨e1, h1⟩ <;> rcases hm' with ⟨e2, h2⟩ | ⟨e2, h2⟩ | ⟨e2, h2⟩ <;> rw [e1, e2]
  · rw [show (n.natAbs : Int) = n by omega, show (m.natAbs : Int) = m by omega, (key n m (by omega)).1, (key n m (by omega)).2]; omega
  · rw [show (n.natAbs : Int) = n by omega, show (m.natAbs : Int) = -m by omega]
    obtain ⟨m', rfl⟩ : ∃ m', m = -m' := ⟨-m, by omega⟩
    rw [Int.tdiv_neg, Int.tmod_neg, Int.neg_neg, (key n m' (by omega)).1, (key n m' (by omega)).2]; omega
  · exact absurd h2 hm
  · obtain ⟨n', rfl⟩ : ∃ n', n = -n' := ⟨-n, by omega⟩
    rw [show ((-n').natAbs : Int) = n' by omega, show (m.natAbs : Int) = m by omega]
    rw [Int.neg_tdiv, Int.neg_tmod, (key n' m (by omega)).1, (key n' m (by omega)).2]; omega
  · obtain ⟨n', rfl⟩ : ∃ n', n = -n' := ⟨-n, by omega⟩
    obtain ⟨m', rfl⟩ : ∃ m', m = -m' := ⟨-m, by omega⟩
    rw [show ((-n').natAbs : Int) = n' by omega, show ((-m').natAbs : Int) = m' by omega]
    rw [Int.neg_tdiv, Int.neg_tmod, Int.tdiv_neg, Int.tmod_neg, (key n' m' (by omega)).1, (key n' m' (by omega)).2]; omega
  · exact absurd h2 hm
  all_goals (subst h1; simp)

theorem cmpI_neg {a b : Int} : cmpI a b < 0 ↔ a < b := by
  unfold cmpI; split
  · constructor <;> intro <;> omega
  · split <;> constructor <;> intro <;> omega

theorem s_Quo (hlong : LongS) {x y : Int × Option (List Int)} {n m : Int} {k : Nat} (hx : IV x n) (hy : IV y m) (hm : m ≠ 0) (fx : Fit k n) (hk : k ≤ 1073741824) : callV Pg c_exact_Int_Quo [⟨tEI, x⟩, ⟨tEI, y⟩] (.tup (.pair tEI (.pair tEI .unit))) fun r => QuoOf n m r := by
  obtain ⟨y1, y2⟩ := quo_sgn n m hm
  refine w_exact_Int_Quo x y ?_ (joinR (fun p => p = (Option.isNone x.2 && Option.isNone y.2, x, y, ((0 : Int), none), ((0 : Int), none))) ?_ ?_)
  · obtain ⟨r1, h1⟩ := IV_ex (n.tdiv m)
    obtain ⟨r2, h2⟩ := IV_ex (n.tmod m)
    exact ⟨(r1, r2, ()), h1, h2⟩
  · rintro _ rfl
    refine brV_iff.2 ⟨fun h => ?_, fun _ => ?_⟩
    · obtain ⟨v, d⟩ := x
      obtain ⟨w, e⟩ := y
      simp only [Bool.and_eq_true, Option.isNone_iff_eq_none] at h
      obtain ⟨rfl, rfl⟩ := h
      obtain ⟨rfl, h1, h2⟩ := hx
      obtain ⟨rfl, h3, h4⟩ := hy
      dsimp only at h1 h2 h3 h4 hm ⊢
      have q1 : (v.tdiv w).natAbs ≤ v.natAbs := by rw [Int.natAbs_tdiv]; exact Nat.div_le_self _ _
      have q2 : (v.tmod w).natAbs ≤ v.natAbs := by rw [Int.natAbs_tmod]; exact Nat.mod_le _ _
      refine ⟨hm, hm, ⟨?_, by omega, by omega⟩, rfl, by omega, by omega⟩
      exact wi64 (by omega) (by omega)
    · dsimp only
      refine (s_digits hx).mono ?_
      rintro ⟨s, d, _⟩ ⟨e1, X, e2, d1, t1, v1⟩
      dsimp only at e1 e2; subst e1 e2
      refine (s_digits hy).mono ?_
      rintro ⟨s, d, _⟩ ⟨e1, Y, e2, d2, t2, v2⟩
      dsimp only at e1 e2; subst e1 e2
      have l1 := t1.fit d1 fx v1
      have hY : Y ≠ [] := by rintro rfl; simp only [nv] at v2; omega
      refine (s_compare (a := some X) (b := some Y) d1 d2 t1 t2 (by simp only [Option.getD_some]; omega)).mono ?_
      rintro _ rfl
      simp only [Option.getD_some]
      refine brV_iff.2 ⟨fun h => ?_, fun h => ?_⟩
      · have h : cmpI (nv X) (nv Y) < 0 := dec_t h
        rw [cmpI_neg, v1, v2] at h
        rw [Int.ediv_eq_zero_of_lt (by omega) h, Int.mul_zero] at y1
        rw [Int.emod_eq_of_lt (by omega) h, sgn_abs] at y2
        refine ⟨?_, ?_⟩
        · rw [← y1]; exact ⟨rfl, by decide, by decide⟩
        · rw [← y2]; exact hx
      · have h : ¬ cmpI (nv X) (nv Y) < 0 := dec_f h
        rw [cmpI_neg] at h
        have hsn : ¬ sgn n = 0 := by intro e; have := sgn_z e; subst this; simp at v1; omega
        have es : IntKind.wrap IntKind.i64 (sgn n * sgn m) = sgn n * sgn m := by
          rcases sgn_cases n with e1 | e1 | ⟨e1, _⟩ <;> rcases sgn_cases m with e2 | e2 | ⟨e2, _⟩ <;> rw [e1, e2] <;> rfl
        have es2 : ∀ l : List Int, sgn n * sgn m = 1 ∨ sgn n * sgn m = -1 ∨ (sgn n * sgn m = 0 ∧ nv l = 0) := by
          intro l
          rcases sgn_cases n with e1 | e1 | ⟨e1, _⟩ <;> rcases sgn_cases m with e2 | e2 | ⟨_, e2⟩
          all_goals first | exact absurd e2 hm | exact absurd e1 hsn | (rw [e1, e2]; simp)
        -- what is made of the digits
        have fin : ∀ (q : Int × Option (List Int)) (r : Int × Option (List Int)) (A B : List Int), nv A = nv X / nv Y → nv B = nv X % nv Y → IV q (sgn n * sgn m * nv A) → IV r (sgn n * nv B) → QuoOf n m (q, r, ()) := by
          intro q r A B hA hB hq hr
          rw [hA, v1, v2, y1] at hq
          rw [hB, v1, v2, y2] at hr
          exact ⟨hq, hr⟩
        rw [es]
        refine brV_iff.2 ⟨fun h2 => ?_, fun h2 => ?_⟩
        · have h2 : (Y.length : Int) = 1 := dec_t h2
          obtain ⟨y0, rfl⟩ : ∃ y0, Y = [y0] := by
            rcases Y with _ | ⟨y0, _ | ⟨_, _⟩⟩
            · exact absurd rfl hY
            · exact ⟨y0, rfl⟩
            · simp at h2; omega
          have g := d2 y0 (by simp)
          have hy0 : y0 ≠ 0 := t2 y0 rfl
          refine ⟨⟨by omega, by simp⟩, (s_short (x := some X) (y := y0) d1 (by omega) g.2 (by simp only [Option.getD_some]; omega)).mono ?_⟩
          rintro ⟨q, r, _⟩ ⟨l, e1, q1, q2, q3, e2⟩
          dsimp only [Option.getD_some] at e1 e2 q2 q3; subst e1 e2
          have ny : nv [y0] = y0 := by simp [nv]
          have hr0 := Int.emod_nonneg (nv X) hy0
          have hr1 := Int.emod_lt_of_pos (nv X) (show 0 < y0 by omega)
          refine (s_made (b := some l) q1 (es2 _) (by simp only [Option.getD_some]; omega)).mono ?_
          intro p5 hp5
          refine (s_made (b := some [nv X % y0]) (Dig.cons hr0 (by omega) Dig.nil) (sgn_ne hsn) (by simp)).mono ?_
          intro p6 hp6
          exact fin p5 p6 l [nv X % y0] (by rw [ny]; exact q2) (by rw [ny]; simp [nv]) hp5 hp6
        · have h2 : ¬ (Y.length : Int) = 1 := dec_f h2
          have hl2 : Y.length ≠ 0 := fun e => hY (List.eq_nil_of_length_eq_zero e)
          have hle : Y.length ≤ X.length := by
            rcases Nat.lt_or_ge X.length Y.length with hl | hl
            · have := nv_lt_len d1 d2 t2 hl; omega
            · exact hl
          refine (hlong X Y d1 d2 t2 (by omega) hle (by omega)).mono ?_
          rintro ⟨q, r, _⟩ ⟨⟨A, e1, q1, q2, q3⟩, B, e2, r1, r2, r3⟩
          dsimp only at e1 e2; subst e1 e2
          refine (s_made (b := some A) q1 (es2 _) (by simp only [Option.getD_some]; omega)).mono ?_
          intro p5 hp5
          refine (s_made (b := some B) r1 (sgn_ne hsn) (by simp only [Option.getD_some]; omega)).mono ?_
          intro p6 hp6
          exact fin p5 p6 A B q2 r2 hp5 hp6
  · intro k hk
    refine brV_iff.2 ⟨fun h => hk _ (by rw [h]; rfl), fun h => hk _ (by rw [h]; rfl)⟩

def ival (x : Int × Option (List Int)) : Int :=
  match x.2 with
  | none => x.1
  | some l => x.1 * nv l

theorem IV.val {x : Int × Option (List Int)} {n : Int} (h : IV x n) : ival x = n := by
  obtain ⟨v, d⟩ := x
  cases d with
  | none => exact h.1
  | some l =>
    obtain ⟨_, _, _, h4⟩ := h
    show v * nv l = n
    rcases h4 with ⟨e1, e2⟩ | ⟨e1, e2⟩
    · have e1 : v = 1 := e1
      rw [e1, e2]; omega
    · have e1 : v = -1 := e1
      rw [e1, e2]; omega

theorem s_Gcd (hlong : LongS) {x y : Int × Option (List Int)} {n m : Int} {k : Nat} (hx : IV x n) (hy : IV y m) (fx : Fit k n) (fy : Fit k m) (hk : k ≤ 1073741824) : callV Pg c_exact_Gcd [⟨tEI, x⟩, ⟨tEI, y⟩] tEI fun r => IV r (Int.gcd n m : Int) := by
  refine w_exact_Gcd x y (IV_ex _) ((s_Abs hx).mono fun p0 h0 => (s_Abs hy).mono fun p1 h1 => ?_)
  refine loopE (fun p => ∃ a b : Nat, IV p.1 (a : Int) ∧ IV p.2.1 (b : Int) ∧ Nat.gcd a b = Int.gcd n m ∧ Fit k (a : Int) ∧ Fit k (b : Int)) (fun p => (ival p.2.1).natAbs) ⟨n.natAbs, m.natAbs, h0, h1, rfl, fx.of (by simp), fy.of (by simp)⟩ ?_
  rintro ⟨A, B, z⟩ ⟨a, b, ha, hb, hg, fa, fb⟩
  dsimp only at ha hb ⊢
  refine (s_Sign hb).mono ?_
  rintro _ rfl
  refine brV_iff.2 ⟨fun h => ?_, fun h => ?_⟩
  · have h : ¬ sgn (b : Int) = 0 := not_t h
    have hb0 : b ≠ 0 := by rintro rfl; exact h rfl
    refine (s_Quo hlong ha hb (by omega) fa hk).mono ?_
    rintro ⟨q, r, _⟩ ⟨_, hr⟩
    dsimp only at hr ⊢
    have e : (a : Int).tmod (b : Int) = ((a % b : Nat) : Int) := by rw [Int.tmod_eq_emod_of_nonneg (by omega)]; simp
    rw [e] at hr
    have hlt : a % b < b := Nat.mod_lt _ (by omega)
    refine ⟨⟨b, a % b, hb, hr, ?_, fb, fb.of (by omega)⟩, ?_⟩
    · rw [← hg, Nat.gcd_comm b, ← Nat.gcd_rec b a, Nat.gcd_comm]
    · rw [hr.val, hb.val]; omega
  · have h : sgn (b : Int) = 0 := not_f h
    have hb0 : b = 0 := by have := sgn_z h; omega
    subst hb0
    rw [← hg, Nat.gcd_zero_right]; exact ha

end Go.Proofs.Pf

namespace Go.Proofs.Pf.B

open Go Go.VM

theorem nv_cmp_top {a b : List Int} (ha : Dig a) (hb : Dig b) {k : Nat} (hl : a.length = b.length) (hk : k < a.length) (heq : nv (a.drop (k + 1)) = nv (b.drop (k + 1))) (hlt : a.getD k 0 < b.getD k 0) : nv a < nv b := by
  rw [nv_split a k (by omega), nv_split b k (by omega), nv_drop a k hk, nv_drop b k (by omega), heq]
  have h1 := nv_lt (ha.take k)
  have h2 := nv_nonneg (hb.take k)
  rw [List.length_take, Nat.min_eq_left (by omega)] at h1
  have hp := pow_posB k
  have : 1073741824 ^ k * (a.getD k 0 + 1073741824 * nv (b.drop (k + 1)) + 1) ≤ (1073741824 : Int) ^ k * (b.getD k 0 + 1073741824 * nv (b.drop (k + 1))) := Int.mul_le_mul_of_nonneg_left (by omega) (by omega)
  rw [Int.mul_add _ _ 1] at this
  omega

theorem nv_lt_len {a b : List Int} (ha : Dig a) (hb : Dig b) (tb : Trm b) (h : a.length < b.length) : nv a < nv b := by
  have h1 := nv_lt ha
  have hne : b ≠ [] := by rintro rfl; simp at h
  have h2 := tb.ge hb hne
  have h3 := pow_monoB (show a.length ≤ b.length - 1 by omega)
  omega

/-- What an integer of the reference stands for. -/
def RIV (x : Int × Bool × Option (List Int)) (n : Int) : Prop :=
  (x.2.2.getD [] = [] ∧ x.1 = n ∧ -2305843009213693952 < n ∧ n < 2305843009213693952) ∨
  (x.2.2.getD [] ≠ [] ∧ Dig (x.2.2.getD []) ∧ Trm (x.2.2.getD []) ∧ 2305843009213693952 ≤ nv (x.2.2.getD []) ∧ x.1 = 0 ∧ n = if x.2.1 = true then -nv (x.2.2.getD []) else nv (x.2.2.getD []))

theorem RIV.small {v n : Int} {b : Bool} (h : v = n) (h1 : -2305843009213693952 < n) (h2 : n < 2305843009213693952) : RIV (v, b, none) n := .inl ⟨rfl, h, h1, h2⟩

theorem nv_ex : ∀ (k : Nat) (a : Nat), a < k → ∃ l, Dig l ∧ Trm l ∧ nv l = (a : Int)
  | 0, a, h => by omega
  | k + 1, a, h => by
    by_cases h0 : a = 0
    · exact ⟨[], Dig.nil, fun d hd => by simp at hd, by rw [h0]; rfl⟩
    · by_cases h1 : a < 1073741824
      · exact ⟨[(a : Int)], Dig.cons (by omega) (by omega) Dig.nil, fun d hd => by simp at hd; omega, by simp [nv]⟩
      · obtain ⟨l, q1, q2, q3⟩ := nv_ex k (a / 1073741824) (by omega)
        refine ⟨((a % 1073741824 : Nat) : Int) :: l, Dig.cons (by omega) (by omega) q1, ?_, by simp only [nv, q3]; omega⟩
        intro d hd
        rcases List.eq_nil_or_concat l with rfl | ⟨l', x, rfl⟩
        · simp only [nv] at q3; omega
        · refine q2 d ?_
          simp only [List.concat_eq_append] at hd ⊢
          rw [← List.cons_append, List.getLast?_concat] at hd
          rw [List.getLast?_concat]; exact hd

end Go.Proofs.Pf.B

namespace Go.Proofs.Pf.B

open Go Go.VM

theorem getD_out {l : Option (List Int)} {i : Nat} (h : ¬ i < (l.getD []).length) : (l.getD []).getD i 0 = 0 := by
  simp [List.getD, Nat.le_of_not_lt h]

theorem nv_take_succ' (l : List Int) (i : Nat) : nv (l.take (i + 1)) = nv (l.take i) + 1073741824 ^ i * l.getD i 0 := by
  rcases Nat.lt_or_ge i l.length with h | h
  · exact nv_take_succ l i h
  · rw [List.take_of_length_le (by omega), List.take_of_length_le h]
    have : l.getD i 0 = 0 := by simp [List.getD, h]
    rw [this]; omega

def SumOf (a b : List Int) (r : Option (List Int)) : Prop := Dig (r.getD []) ∧ nv (r.getD []) = nv a + nv b ∧ (r.getD []).length ≤ max a.length b.length + 1

theorem plus_ex {a b : List Int} (ha : Dig a) (hb : Dig b) : ∃ r, SumOf a b r := by
  have h1 := nv_lt ha
  have h2 := nv_lt hb
  have h3 := nv_nonneg ha
  have h4 := nv_nonneg hb
  have h5 := pow_monoB (show a.length ≤ max a.length b.length by omega)
  have h6 := pow_monoB (show b.length ≤ max a.length b.length by omega)
  obtain ⟨l, q1, q2, q3⟩ := digs_ex (max a.length b.length + 1) (nv a + nv b) (by omega) (by rw [Int.pow_succ]; omega)
  exact ⟨some l, q1, q2, by simp only [Option.getD_some]; omega⟩

end Go.Proofs.Pf.B

namespace Go.Proofs.Pf.B

open Go Go.VM

def ShortOf (x : List Int) (y : Int) (r : Option (List Int) × Int × Unit) : Prop := Dig (r.1.getD []) ∧ nv (r.1.getD []) = nv x / y ∧ (r.1.getD []).length = x.length ∧ r.2.1 = nv x % y

theorem drop_set_same {l : List Int} {i : Nat} {x : Int} (h : i < l.length) : (l.set i x).drop i = x :: l.drop (i + 1) := by
  rw [List.drop_eq_getElem_cons (by simp; omega)]
  simp
  rw [List.drop_set_of_lt (by omega)]

end Go.Proofs.Pf.B

namespace Go.Proofs.Pf.B

open Go Go.VM

/-- Between two digits of the quotient. -/
structure DInv (V : Int) (u0 : List Int) (K : Nat) (u o : List Int) (n : Nat) : Prop where
  ul : u.length = u0.length
  ud : Dig u
  ol : o.length = u0.length - n
  od : Dig o
  oz : ∀ j, j < K → o.getD j 0 = 0
  kl : K ≤ u0.length - n
  val : nv u0 = nv o * V + nv u
  lt : nv u < V * 1073741824 ^ K

theorem getD_set_other {l : List Int} {i j : Nat} {x : Int} (h : i ≠ j) : (l.set i x).getD j 0 = l.getD j 0 := by
  simp [List.getD, List.getElem?_set_ne h]

/-- The part of the numerator, and what is left of it. -/
theorem DInv.step {V : Int} {u0 u o d : List Int} {k n : Nat} (h : DInv V u0 (k + 1) u o n) (hV : 0 < V) (hVn : V < 1073741824 ^ n) (hd : Dig d) (hdl : d.length = n + 1) (hn : n ≤ u0.length)
    (hdv : nv d = nv ((u.drop k).take (n + 1)) - V * (nv ((u.drop k).take (n + 1)) / V)) :
    0 ≤ nv ((u.drop k).take (n + 1)) / V ∧ nv ((u.drop k).take (n + 1)) / V < 1073741824 ∧
    DInv V u0 k (u.take k ++ d ++ u.drop (k + (n + 1))) (o.set k (nv ((u.drop k).take (n + 1)) / V)) n := by
  obtain ⟨ul, ud, ol, od, oz, kl, val, lt⟩ := h
  have hz : ZeroFrom u (k + (n + 1)) := by
    refine lt_zeroFrom ud (Int.lt_of_lt_of_le lt ?_)
    have : V * 1073741824 ^ (k + 1) ≤ 1073741824 ^ n * 1073741824 ^ (k + 1) := Int.mul_le_mul_of_nonneg_right (by omega) (by have := pow_posB (k + 1); omega)
    rw [← Int.pow_add, show n + (k + 1) = k + (n + 1) by omega] at this
    exact this
  have hW : nv (u.drop k) = nv ((u.drop k).take (n + 1)) := by
    rw [nv_split' (u.drop k) (n + 1), List.drop_drop, ZeroFrom.drop ud hz]; simp
  have hlow := take_lt ud k
  have hsp := nv_split' u k
  have hW0 := nv_nonneg (ud.drop k)
  have hWV : nv (u.drop k) < V * 1073741824 := by
    rw [hsp, Int.pow_succ] at lt
    have : 1073741824 ^ k * nv (u.drop k) < 1073741824 ^ k * (V * 1073741824) := by
      have e : V * (1073741824 ^ k * 1073741824) = 1073741824 ^ k * (V * 1073741824) := by grind
      omega
    exact Int.lt_of_mul_lt_mul_left this (by have := pow_posB k; omega)
  rw [← hW] at hdv ⊢
  have hq0 : 0 ≤ nv (u.drop k) / V := Int.ediv_nonneg hW0 (by omega)
  have hq1 : nv (u.drop k) / V < 1073741824 := Int.ediv_lt_of_lt_mul hV (by rw [Int.mul_comm]; exact hWV)
  refine ⟨hq0, hq1, ?_, ?_, by rw [List.length_set]; exact ol, od.set k hq0 hq1, ?_, by omega, ?_, ?_⟩
  · simp; omega
  · exact ((ud.take k).app hd).app (ud.drop _)
  · intro j hj; rw [getD_set_other (by omega)]; exact oz j (by omega)
  · rw [nv_set o k _ (by omega), oz k (by omega), nv_app, nv_app, ZeroFrom.drop ud hz, List.length_take, Nat.min_eq_left (by omega), hdv, val, hsp]
    generalize nv (u.drop k) / V = Q
    generalize nv (u.drop k) = W
    generalize nv (u.take k) = L
    generalize (1073741824 : Int) ^ k = K
    simp only [Int.mul_zero, Int.add_zero]
    grind
  · rw [nv_app, nv_app, ZeroFrom.drop ud hz, List.length_take, Nat.min_eq_left (by omega), hdv]
    have hr1 := Int.emod_lt_of_pos (nv (u.drop k)) hV
    have hr2 := Int.mul_ediv_add_emod (nv (u.drop k)) V
    have e : nv (u.drop k) - V * (nv (u.drop k) / V) = nv (u.drop k) % V := by omega
    rw [e]
    have h4 : 1073741824 ^ k * (nv (u.drop k) % V + 1) ≤ 1073741824 ^ k * V := Int.mul_le_mul_of_nonneg_left (by omega) (by have := pow_posB k; omega)
    rw [Int.mul_add, Int.mul_one, Int.mul_comm _ V] at h4
    simp only [Int.mul_zero, Int.add_zero]
    omega

end Go.Proofs.Pf.B

namespace Go.Proofs.Pf.B

open Go Go.VM

def rval (x : Int × Bool × Option (List Int)) : Int := if x.2.2.getD [] = [] then x.1 else if x.2.1 = true then -nv (x.2.2.getD []) else nv (x.2.2.getD [])

theorem RIV.val {x : Int × Bool × Option (List Int)} {n : Int} (h : RIV x n) : rval x = n := by
  rcases h with ⟨h1, h2, _⟩ | ⟨h1, _, _, _, _, h2⟩
  · rw [rval, if_pos h1, h2]
  · rw [rval, if_neg h1, h2]

end Go.Proofs.Pf.B

namespace Go.Proofs.Pf.B

open Go Go.VM

theorem mul_dig {p q z c : Int} (hp : 0 ≤ p) (hp' : p < 1073741824) (hq : 0 ≤ q) (hq' : q < 1073741824) (hz : 0 ≤ z) (hz' : z < 1073741824) (hc : 0 ≤ c) (hc' : c < 1073741824) :
    0 ≤ p * q + z + c ∧ p * q + z + c < 1152921504606846976 ∧ IntKind.wrap IntKind.i64 (c + IntKind.wrap IntKind.i64 (z + IntKind.wrap IntKind.i64 (p * q))) = p * q + z + c := by
  have h0 : 0 ≤ p * q := Int.mul_nonneg hp hq
  have h1 : p * q ≤ 1073741823 * 1073741823 := Int.mul_le_mul (by omega) (by omega) hq (by omega)
  generalize p * q = m at *
  rw [wi64 (x := m) (by omega) (by omega), wi64 (x := z + m) (by omega) (by omega), wi64 (by omega) (by omega)]
  omega

/-- The state of a product. -/
structure MInv (x y : List Int) (i : Nat) (o : List Int) : Prop where
  len : o.length = x.length + y.length
  dig : Dig o
  val : nv o = nv (x.take i) * nv y
  zero : ∀ j, i + y.length ≤ j → o.getD j 0 = 0

structure MIn (x y : List Int) (i k : Nat) (c : Int) (o : List Int) : Prop where
  len : o.length = x.length + y.length
  dig : Dig o
  c0 : 0 ≤ c
  c1 : c < 1073741824
  val : nv o + 1073741824 ^ (i + k) * c = nv (x.take i) * nv y + 1073741824 ^ i * x.getD i 0 * nv (y.take k)
  zero : ∀ j, i + y.length ≤ j → o.getD j 0 = 0

theorem MIn.start {x y : List Int} {i : Nat} {o : List Int} (h : MInv x y i o) : MIn x y i 0 0 o := ⟨h.len, h.dig, Int.le_refl _, by decide, by simp [nv, h.val], h.zero⟩

theorem MIn.step {x y : List Int} {i k : Nat} {c : Int} {o : List Int} (hx : Dig x) (hy : Dig y) (hi : i < x.length) (hk : k < y.length) (h : MIn x y i k c o) :
    MIn x y i (k + 1) ((x.getD i 0 * y.getD k 0 + o.getD (i + k) 0 + c) / 1073741824) (o.set (i + k) ((x.getD i 0 * y.getD k 0 + o.getD (i + k) 0 + c) % 1073741824)) := by
  have gx := hx.get i
  have gy := hy.get k
  have go := h.dig.get (i + k)
  have hl := h.len
  obtain ⟨m1, m2, _⟩ := mul_dig gx.1 gx.2 gy.1 gy.2 go.1 go.2 h.c0 h.c1
  refine ⟨by simp [hl], h.dig.set _ (by omega) (by omega), by omega, by omega, ?_, fun j hj => ?_⟩
  · rw [nv_set _ _ _ (by omega), nv_take_succ']
    have hv := h.val
    have hdm := Int.emod_add_mul_ediv (x.getD i 0 * y.getD k 0 + o.getD (i + k) 0 + c) 1073741824
    generalize (x.getD i 0 * y.getD k 0 + o.getD (i + k) 0 + c) % 1073741824 = d at *
    generalize (x.getD i 0 * y.getD k 0 + o.getD (i + k) 0 + c) / 1073741824 = e at *
    have e1 : (1073741824 : Int) ^ (i + (k + 1)) = 1073741824 ^ (i + k) * 1073741824 := by rw [← Nat.add_assoc, Int.pow_succ]
    have e2 : (1073741824 : Int) ^ (i + k) = 1073741824 ^ i * 1073741824 ^ k := Int.pow_add ..
    rw [e1]
    rw [e2] at hv ⊢
    generalize (1073741824 : Int) ^ i = bi at *
    generalize (1073741824 : Int) ^ k = bk at *
    grind
  · rw [getD_set_other (by omega)]; exact h.zero j hj

theorem MIn.fin {x y : List Int} {i : Nat} {c : Int} {o : List Int} (hi : i < x.length) (h : MIn x y i y.length c o) : MInv x y (i + 1) (o.set (i + y.length) c) := by
  have hl := h.len
  refine ⟨by simp [hl], h.dig.set _ h.c0 h.c1, ?_, fun j hj => ?_⟩
  · rw [nv_set _ _ _ (by omega), h.zero _ (Nat.le_refl _), nv_take_succ']
    have hv := h.val
    rw [List.take_length] at hv
    grind
  · rw [getD_set_other (by omega)]; exact h.zero j (by omega)

end Go.Proofs.Pf.B

namespace Go.Proofs.Pf

open Go Go.VM

theorem sgn_sign (n : Int) : sgn n = n.sign := by
  rcases sgn3 n with ⟨e, h⟩ | ⟨e, h⟩ | ⟨e, h⟩
  · rw [e, Int.sign_eq_one_of_pos h]
  · rw [e, Int.sign_eq_neg_one_of_neg h]
  · rw [e, h]; rfl

theorem ratio_num (n m : Int) (hm : m ≠ 0) : (Rat.divInt n m).num = sgn m * n.tdiv (Int.gcd n m) := by
  rw [Rat.num_divInt, sgn_sign, Int.gcd_comm m n]
  have hd : ((Int.gcd n m : Nat) : Int) ∣ n := Int.gcd_dvd_left ..
  rw [Int.mul_ediv_assoc _ hd, Int.tdiv_eq_ediv_of_dvd hd]

theorem ratio_den (n m : Int) (hm : m ≠ 0) : ((Rat.divInt n m).den : Int) = sgn m * m.tdiv (Int.gcd n m) := by
  rw [Rat.den_divInt, if_neg hm, sgn_sign, Int.gcd_comm m n]
  have hd : ((Int.gcd n m : Nat) : Int) ∣ m := Int.gcd_dvd_right ..
  have e : m.sign * m = (m.natAbs : Int) := by
    rw [← sgn_sign]
    rcases sgn3 m with ⟨e, h⟩ | ⟨e, h⟩ | ⟨e, h⟩ <;> rw [e] <;> omega
  rw [Int.tdiv_eq_ediv_of_dvd hd, ← Int.mul_ediv_assoc _ hd, e]
  simp

/-- What a fraction stands for. -/
def LowV (y : Int × Option (List Int)) (d : Int) : Prop := IV y d ∨ (IV y 0 ∧ d = 1)

def RV (x : (Int × Option (List Int)) × (Int × Option (List Int))) (q : Rat) : Prop := IV x.1 q.num ∧ LowV x.2 (q.den : Int)

theorem RV_ex (q : Rat) : ∃ r, RV r q := by
  obtain ⟨a, ha⟩ := IV_ex q.num
  obtain ⟨b, hb⟩ := IV_ex (q.den : Int)
  exact ⟨(a, b), ha, .inl hb⟩

theorem s_Ratio (hlong : LongS) {x y : Int × Option (List Int)} {n m : Int} {k : Nat} (hx : IV x n) (hy : IV y m) (hm : m ≠ 0) (fx : Fit k n) (fy : Fit k m) (hk : k ≤ 1073741824) : callV Pg c_exact_Ratio [⟨tEI, x⟩, ⟨tEI, y⟩] tER fun r => RV r (Rat.divInt n m) := by
  refine w_exact_Ratio x y (RV_ex _) ((s_Gcd hlong hx hy fx fy hk).mono fun g hg => ?_)
  have hgp : Int.gcd n m ≠ 0 := fun e => hm (Int.gcd_eq_zero_iff.1 e).2
  have fin : ∀ p : (Int × Option (List Int)) × (Int × Option (List Int)), IV p.1 (sgn m * n.tdiv (Int.gcd n m)) → IV p.2 (sgn m * m.tdiv (Int.gcd n m)) → RV p (Rat.divInt n m) := by
    intro p h1 h2
    rw [← ratio_num n m hm] at h1
    rw [← ratio_den n m hm] at h2
    exact ⟨h1, .inl h2⟩
  have dd : ((Int.gcd n m : Nat) : Int) ∣ m := Int.gcd_dvd_right ..
  have sq : sgn (m.tdiv (Int.gcd n m)) = sgn m := by
    have h1 := Int.mul_tdiv_cancel' dd
    have : sgn ((Int.gcd n m : Nat) : Int) = 1 := if_pos (by omega)
    have h2 : sgn m = sgn (((Int.gcd n m : Nat) : Int) * m.tdiv (Int.gcd n m)) := by rw [h1]
    rw [h2, sgn_mul, this]; omega
  refine joinR (fun p => ∃ b : Bool, p = (b, x, y, (((0 : Int), none), ((0 : Int), none)), g) ∧ (b = false → Int.gcd n m = 1)) ?_ ?_
  · rintro _ ⟨b, rfl, hb⟩
    refine joinR (fun p => IV p.1 (n.tdiv (Int.gcd n m)) ∧ IV p.2.1 (m.tdiv (Int.gcd n m))) ?_ ?_
    · rintro ⟨p, q, z⟩ ⟨h1, h2⟩
      dsimp only at h1 h2 ⊢
      refine (s_Sign h2).mono ?_
      rintro _ rfl
      refine joinR (fun p => IV p.1 (sgn m * n.tdiv (Int.gcd n m)) ∧ IV p.2.1 (sgn m * m.tdiv (Int.gcd n m))) ?_ ?_
      · rintro ⟨p, q, z⟩ ⟨h1, h2⟩
        exact fin (p, q) h1 h2
      · intro k' hk'
        rw [sq]
        refine brV_iff.2 ⟨fun h => ?_, fun h => ?_⟩
        · have h : sgn m < 0 := dec_t h
          have em : sgn m = -1 := by rcases sgn3 m with ⟨e, _⟩ | ⟨e, _⟩ | ⟨e, _⟩ <;> omega
          refine (s_Neg h1).mono fun p5 h5 => (s_Neg h2).mono fun p6 h6 => hk' _ ⟨?_, ?_⟩
          · rw [em, Int.neg_mul, Int.one_mul]; exact h5
          · rw [em, Int.neg_mul, Int.one_mul]; exact h6
        · have h : ¬ sgn m < 0 := dec_f h
          have em : sgn m = 1 := by rcases sgn3 m with ⟨e, _⟩ | ⟨e, _⟩ | ⟨e, h0⟩ <;> omega
          refine hk' _ ⟨?_, ?_⟩
          · rw [em, Int.one_mul]; exact h1
          · rw [em, Int.one_mul]; exact h2
    · intro k' hk'
      refine brV_iff.2 ⟨fun h => ?_, fun h => ?_⟩
      · dsimp only
        refine (s_Quo hlong hx hg (by omega) fx hk).mono ?_
        rintro ⟨q, r, _⟩ ⟨h1, _⟩
        refine (s_Quo hlong hy hg (by omega) fy hk).mono ?_
        rintro ⟨q2, r2, _⟩ ⟨h2, _⟩
        exact hk' _ ⟨h1, h2⟩
      · have e := hb h
        refine hk' _ ?_
        rw [e]
        simp only [Int.natCast_one, Int.tdiv_one]
        exact ⟨hx, hy⟩
  · intro k' hk'
    refine brV_iff.2 ⟨fun h => hk' _ ⟨true, rfl, fun h => by simp at h⟩, fun h => hk' _ ⟨_, rfl, fun h2 => ?_⟩⟩
    have h : g.1 = 1 := not_f h
    obtain ⟨v, d⟩ := g
    cases d with
    | some l => simp [notB] at h2
    | none => have e : v = ((Int.gcd n m : Nat) : Int) := hg.1; have h : v = 1 := h; have e2 : (1 : Int) = ((Int.gcd n m : Nat) : Int) := (Eq.symm h).trans e; omega

end Go.Proofs.Pf

namespace Go.Proofs.Pf

open Go Go.VM

/-- No part is too great. -/
def RFit (k : Nat) (q : Rat) : Prop := Fit k q.num ∧ Fit k (q.den : Int)

theorem RFit.mono {k j : Nat} {q : Rat} (h : RFit k q) (hj : k ≤ j) : RFit j q := ⟨h.1.mono hj, h.2.mono hj⟩

theorem s_one : callV Pg c_exact_one [] tEI fun r => IV r 1 := w_exact_one ⟨((1 : Int), none), rfl, by decide, by decide⟩ ⟨rfl, by decide, by decide⟩

theorem s_Low {x : (Int × Option (List Int)) × (Int × Option (List Int))} {q : Rat} (hx : RV x q) : callV Pg c_exact_Rat_Low [⟨tER, x⟩] tEI fun r => IV r (q.den : Int) := by
  have hd : q.den ≠ 0 := q.den_nz
  refine w_exact_Rat_Low x (IV_ex _) ?_
  rcases hx.2 with h | ⟨h, h1⟩
  · refine (s_Sign h).mono ?_
    rintro _ rfl
    refine brV_iff.2 ⟨fun h2 => ?_, fun h2 => h⟩
    have h2 : sgn (q.den : Int) = 0 := dec_t h2
    have := sgn_z h2; omega
  · refine (s_Sign h).mono ?_
    rintro _ rfl
    refine brV_iff.2 ⟨fun h2 => ?_, fun h2 => ?_⟩
    · rw [h1]; exact s_one.mono fun r hr => hr
    · exact absurd (rfl : sgn 0 = 0) (dec_f h2)

theorem s_whole {x : (Int × Option (List Int)) × (Int × Option (List Int))} {q : Rat} (hx : RV x q) : callV Pg c_exact_Rat_whole [⟨tER, x⟩] .bool fun b => b = true → q.den = 1 := by
  have hd : q.den ≠ 0 := q.den_nz
  obtain ⟨t, v, d⟩ := x
  refine w_exact_Rat_whole _ ⟨false, fun h => by simp at h⟩ (joinR (fun b => b = true → q.den = 1) (fun _ h => h) fun k hk => ?_)
  refine brV_iff.2 ⟨fun h => hk _ fun h2 => ?_, fun _ => hk _ fun h => by simp at h⟩
  have hv1 : v ≤ 1 := dec_t h2
  cases d with
  | some l => simp at h
  | none =>
    rcases hx.2 with h | ⟨_, h1⟩
    · have e : v = (q.den : Int) := h.1
      have e2 : (q.den : Int) ≤ 1 := by rw [← e]; exact hv1
      omega
    · omega

theorem s_RSign {x : (Int × Option (List Int)) × (Int × Option (List Int))} {q : Rat} (hx : RV x q) : callV Pg c_exact_Rat_Sign [⟨tER, x⟩] tI fun r => r = sgn q.num :=
  w_exact_Rat_Sign x ⟨_, rfl⟩ ((s_Sign hx.1).mono fun _ h => h)

theorem s_RNeg {x : (Int × Option (List Int)) × (Int × Option (List Int))} {q : Rat} (hx : RV x q) : callV Pg c_exact_Rat_Neg [⟨tER, x⟩] tER fun r => RV r (-q) :=
  w_exact_Rat_Neg x (RV_ex _) ((s_Neg hx.1).mono fun _ h => ⟨h, hx.2⟩)

theorem s_Whole {n : Int} (h1 : -9223372036854775808 ≤ n) (h2 : n < 9223372036854775808) : callV Pg c_exact_Whole [⟨tI, n⟩] tER fun r => RV r (n : Rat) :=
  w_exact_Whole n (RV_ex _) ((s_Of h1 h2).mono fun _ h => ⟨h, .inr ⟨⟨rfl, by decide, by decide⟩, rfl⟩⟩)

end Go.Proofs.Pf

namespace Go.Proofs.Pf

open Go Go.VM

set_option maxRecDepth 100000

def an_num_Rat : Ann := .nil

theorem w_num_Rat {Q : DR → Prop} (a : (Int × Int)) (hQ : ∃ r, Q r) (h :
  (callV Pg c_exact_Of [⟨tI, a.1⟩] tEI (fun p0 => (callV Pg c_exact_Of [⟨tI, a.2⟩] tEI (fun p1 => (callV Pg c_exact_Ratio [⟨tEI, p0⟩, ⟨tEI, p1⟩] tER (fun p2 => (Q (p2.1, p2.2))))))))) :
  callV Pg c_num_Rat [⟨tNum, a⟩] tER Q :=
  callV_of (c := bodyOf f_num_Rat) (ann := an_num_Rat) e_num_Rat rfl r_num_Rat rfl rfl hQ (kcast (by kernel_rfl) h)

def an_num_Valid : Ann := (.seq .nil (.seq (.seq (.reg [] [] (some ⟨[(1, .ref 1 0)], [.var 22 (.bool), .box 1 tNum]⟩)) .nil) .nil))

theorem w_num_Valid {Q : Bool → Prop} (a : (Int × Int)) (hQ : ∃ r, Q r) (h :
  (joinV (Bool × (Int × Int)) (fun p0 => (brV p0.1 (Q false) (callV Pg c_exact_Of [⟨tI, p0.2.1⟩] tEI (fun p1 => (callV Pg c_exact_Of [⟨tI, p0.2.2⟩] tEI (fun p2 => (callV Pg c_exact_Gcd [⟨tEI, p1⟩, ⟨tEI, p2⟩] tEI (fun p3 => (callV Pg c_exact_Int_Int [⟨tEI, p3⟩, ⟨tI, (1152921504606846976 : Int)⟩] (.tup (.pair tI (.pair .bool .unit))) (fun p4 => (Q (decide (p4.1 = (1 : Int)))))))))))))) (fun k0 => (brV (decide (a.2 < (1 : Int))) (k0 (true, a)) (brV (decide ((1152921504606846976 : Int) < a.2)) (k0 (true, a)) (brV (decide ((1152921504606846976 : Int) < a.1)) (k0 (true, a)) (k0 ((decide (a.1 < (-(1152921504606846976 : Int)))), a)))))))) :
  callV Pg c_num_Valid [⟨tNum, a⟩] .bool Q :=
  callV_of (c := bodyOf f_num_Valid) (ann := an_num_Valid) e_num_Valid rfl r_num_Valid rfl rfl hQ (kcast (by kernel_rfl) h)

end Go.Proofs.Pf

namespace Go.Proofs.Pf

open Go Go.VM

abbrev OL := Option (List Int)

/-- Between two digits of the quotient. -/
structure LInv (n : Nat) (v u0 : List Int) (p : Int × OL × Int × Int × OL × OL) (K : Nat) (u o : List Int) : Prop where
  en : p.1 = n
  ev : p.2.1 = some v
  em : p.2.2.1 = (v.length : Int)
  ek : p.2.2.2.1 = (K : Int) - 1
  eu : p.2.2.2.2.1 = some u
  eo : p.2.2.2.2.2 = some o
  ul : u.length = u0.length
  ud : Dig u
  ol : o.length = u0.length - v.length
  od : Dig o
  oz : ∀ j, j < K → o.getD j 0 = 0
  kl : K ≤ u0.length - v.length
  val : nv u0 = nv o * nv v + nv u
  lt : nv u < nv v * 4294967296 ^ K

theorem len_of {l : List Int} (hd : Dig l) (ht : Trm l) {k : Nat} (h1 : 4294967296 ^ k ≤ nv l) (h2 : nv l < 4294967296 ^ (k + 1)) : l.length = k + 1 := by
  have hne : l ≠ [] := by rintro rfl; simp only [nv] at h1; have := pow_pos32 k; omega
  have h3 := ht.ge hd hne
  have h4 := nv_lt hd
  have h5 : l.length ≠ 0 := fun e => hne (List.eq_nil_of_length_eq_zero e)
  rcases Nat.lt_or_ge l.length (k + 1) with h | h
  · have := pow_mono32 (show l.length ≤ k by omega); omega
  · rcases Nat.lt_or_ge (k + 1) l.length with h' | h'
    · have := pow_mono32 (show k + 1 ≤ l.length - 1 by omega); omega
    · omega

theorem long_ex {x y : List Int} (dx : Dig x) (dy : Dig y) (hy : 0 < nv y) : ∃ r, LongOf x y r := by
  have hx := nv_nonneg dx
  obtain ⟨a, a1, a2, a3⟩ := nv_ex ((nv x / nv y).toNat + 1) (nv x / nv y).toNat (by omega)
  obtain ⟨b, b1, b2, b3⟩ := nv_ex ((nv x % nv y).toNat + 1) (nv x % nv y).toNat (by omega)
  have h0 : 0 ≤ nv x / nv y := Int.ediv_nonneg hx (by omega)
  have h1 := Int.emod_nonneg (nv x) (show nv y ≠ 0 by omega)
  have h2 := Int.emod_lt_of_pos (nv x) hy
  have h3 : nv x / nv y ≤ nv x := Int.ediv_le_self _ hx
  have e1 : nv a = nv x / nv y := by omega
  have e2 : nv b = nv x % nv y := by omega
  refine ⟨(some a, some b, ()), ⟨a, rfl, a1, e1, ?_⟩, b, rfl, b1, e2, ?_⟩
  · have := a2.fit a1 (k := x.length) (n := nv a) ((fit_nv dx).of (by omega)) (by omega); omega
  · exact b2.fit b1 (k := y.length) (n := nv b) ((fit_nv dy).of (by omega)) (by omega)

theorem getLast_getD {l : List Int} (h : l ≠ []) : l.getLast? = some (l.getD (l.length - 1) 0) := by
  rw [List.getLast?_eq_some_getLast h, List.getLast_eq_getElem]
  have : 0 < l.length := List.length_pos_iff.2 h
  simp [List.getD, show l.length - 1 < l.length by omega]

set_option maxHeartbeats 4000000 in
theorem longS : LongS := by
  intro x y dx dy ty hy hxy hl
  have hyn : y ≠ [] := by rintro rfl; simp at hy
  have gy := dy.get (y.length - 1)
  have gy0 : y.getD (y.length - 1) 0 ≠ 0 := ty _ (getLast_getD hyn)
  have hyp : 0 < nv y := by have := ty.ge dy hyn; have := pow_pos32 (y.length - 1); omega
  have ew : IntKind.wrap IntKind.i64 (szSl (some y) - 1) = ((y.length - 1 : Nat) : Int) := by
    simp only [szSl, Option.getD_some]; rw [wi64 (by omega) (by omega)]; omega
  refine w_exact_long (some x) (some y) (long_ex dx dy hyp) ?_
  rw [ew]
  refine ⟨by simp only [inS, Option.getD_some]; omega, ?_⟩
  have ee : eltS (0 : Int) (some y) ((y.length - 1 : Nat) : Int) = y.getD (y.length - 1) 0 := by simp only [eltS, Option.getD_some, Int.toNat_natCast]
  rw [ee]
  refine (s_LeadingZeros32 (by omega) gy.2).mono ?_
  rintro _ ⟨n, rfl, hn, s1, s2⟩
  refine (s_shifted (x := some x) (n := n) dx hn (by simp only [Option.getD_some]; omega)).mono ?_
  rintro _ ⟨u0, rfl, du, vu, lu⟩
  refine (s_shifted (x := some y) (n := n) dy hn (by simp only [Option.getD_some]; omega)).mono ?_
  rintro _ ⟨v0, rfl, dv0, vv0, lv0⟩
  simp only [Option.getD_some] at vu lu vv0 lv0
  refine (s_trim (a := some v0) (by simp only [Option.getD_some]; omega)).mono ?_
  obtain ⟨v, hv⟩ : ∃ v, v = trim v0 := ⟨_, rfl⟩
  intro p3 hp3
  obtain rfl : p3 = some v := by rw [hp3, hv]; rfl
  clear hp3
  have dv : Dig v := hv ▸ dv0.trim
  have tv : Trm v := hv ▸ trm_trim v0
  have vv : nv v = nv y * 2 ^ n := by rw [hv, nv_trim, vv0]
  clear hv vv0 lv0 dv0
  -- how long the divisor is
  obtain ⟨m, hm⟩ : ∃ m, y.length = m + 2 := ⟨y.length - 2, by omega⟩
  have hp2 : (0 : Int) < 2 ^ n := Int.pow_pos (by decide)
  have hP := pow_pos32 m
  have n31 : (2 : Int) ^ n ≤ 2147483648 := by
    have e : (2147483648 : Int) = 2 ^ (31 - n) * 2 ^ n := by rw [← Int.pow_add, show 31 - n + n = 31 by omega]; rfl
    have : (0 : Int) < 2 ^ (31 - n) := Int.pow_pos (by decide)
    have : 1 * (2 : Int) ^ n ≤ 2 ^ (31 - n) * 2 ^ n := Int.mul_le_mul_of_nonneg_right (by omega) (by omega)
    omega
  obtain ⟨wy, wy0, wy1, wy2⟩ : ∃ w, 0 ≤ w ∧ w < 4294967296 ^ (m + 1) ∧ nv y = w + 4294967296 ^ (m + 1) * y.getD (m + 1) 0 := by
    refine ⟨nv (y.take (m + 1)), (take_lt dy _).1, (take_lt dy _).2, ?_⟩
    rw [nv_split' y (m + 1), nv_drop' y (m + 1), List.drop_of_length_le (by omega)]; simp [nv]
  have ely : y.length - 1 = m + 1 := by omega
  rw [ely] at gy gy0 s1 s2
  have vlow : 4294967296 ^ (m + 1) * 2147483648 ≤ nv v := by
    have h1 : 4294967296 ^ (m + 1) * 2147483648 ≤ 4294967296 ^ (m + 1) * (y.getD (m + 1) 0 * 2 ^ n) := Int.mul_le_mul_of_nonneg_left s2 (by have := pow_pos32 (m + 1); omega)
    have h2 : nv y * 2 ^ n = wy * 2 ^ n + 4294967296 ^ (m + 1) * (y.getD (m + 1) 0 * 2 ^ n) := by rw [wy2]; grind
    have h3 : 0 ≤ wy * 2 ^ n := Int.mul_nonneg wy0 (by omega)
    omega
  have vhigh : nv v < 4294967296 ^ (m + 2) := by
    have h2 : nv y * 2 ^ n = wy * 2 ^ n + 4294967296 ^ (m + 1) * (y.getD (m + 1) 0 * 2 ^ n) := by rw [wy2]; grind
    have h3 : (wy + 1) * 2 ^ n ≤ 4294967296 ^ (m + 1) * 2 ^ n := Int.mul_le_mul_of_nonneg_right (by omega) (by omega)
    have h4 : 4294967296 ^ (m + 1) * (y.getD (m + 1) 0 * 2 ^ n + 2 ^ n) ≤ 4294967296 ^ (m + 1) * 4294967296 := by
      refine Int.mul_le_mul_of_nonneg_left ?_ (by have := pow_pos32 (m + 1); omega)
      -- a multiple of 2^n below 2^32
      have e : (4294967296 : Int) = 2 ^ (32 - n) * 2 ^ n := by rw [← Int.pow_add, show 32 - n + n = 32 by omega]; rfl
      rw [e] at s1
      have s3 := Int.lt_of_mul_lt_mul_right s1 (by omega)
      have : (y.getD (m + 1) 0 + 1) * 2 ^ n ≤ 2 ^ (32 - n) * 2 ^ n := Int.mul_le_mul_of_nonneg_right (by omega) (by omega)
      rw [← e] at this
      have e2 : (y.getD (m + 1) 0 + 1) * 2 ^ n = y.getD (m + 1) 0 * 2 ^ n + 2 ^ n := by grind
      omega
    rw [Int.mul_add] at h4
    rw [show m + 2 = m + 1 + 1 by omega, Int.pow_succ]
    have e3 : (wy + 1) * 2 ^ n = wy * 2 ^ n + 2 ^ n := by grind
    omega
  have hlv : v.length = m + 2 := len_of dv tv (by omega) vhigh
  have vpos : 0 < nv v := by have := pow_pos32 (m + 1); omega
  obtain ⟨wv, wv0, wv1, wv2⟩ := win2 dv hlv
  have gv1 := dv.get (m + 1)
  have gv2 := dv.get m
  have v1l : 2147483648 ≤ v.getD (m + 1) 0 := by
    rw [Int.pow_succ] at vlow
    have h1 : 4294967296 ^ m * (v.getD m 0 + 1) ≤ 4294967296 ^ m * 4294967296 := Int.mul_le_mul_of_nonneg_left (by omega) (by omega)
    have h2 : 4294967296 ^ m * 4294967296 * 2147483648 < 4294967296 ^ m * 4294967296 * (v.getD (m + 1) 0 + 1) := by
      rw [wv2] at vlow
      generalize v.getD (m + 1) 0 = a at *
      generalize v.getD m 0 = b at *
      generalize (4294967296 : Int) ^ m = P at *
      have e1 : P * (b + 4294967296 * a) = P * b + P * 4294967296 * a := by grind
      have e2 : P * 4294967296 * (a + 1) = P * 4294967296 * a + P * 4294967296 := by grind
      have e3 : P * (b + 1) = P * b + P := by grind
      omega
    have := Int.lt_of_mul_lt_mul_left h2 (by omega)
    omega
  -- the lists
  have hlu : u0.length = x.length + 1 := lu
  have esz : IntKind.wrap IntKind.i64 (szSl (some u0) - szSl (some v)) = ((u0.length - v.length : Nat) : Int) := by
    simp only [szSl, Option.getD_some]; rw [wi64 (by omega) (by omega)]; omega
  have esz1 : IntKind.wrap IntKind.i64 (((u0.length - v.length : Nat) : Int) - 1) = ((u0.length - v.length : Nat) : Int) - 1 := wi64 (by omega) (by omega)
  rw [esz, esz1]
  refine ⟨by simp only [mkC]; omega, ?_⟩
  refine loopE (fun p => ∃ K u o, LInv n v u0 p K u o) (fun p => (p.2.2.2.1 + 1).toNat) ⟨u0.length - v.length, u0, List.replicate (u0.length - v.length) 0, ⟨rfl, rfl, rfl, rfl, rfl, ?_, rfl, du, by simp, Dig.rep _, fun j hj => by simp [List.getD, hj], Nat.le_refl _, by rw [nv_rep]; omega, ?_⟩⟩ ?_
  · simp only [repS, Int.toNat_natCast]
  · have h1 := nv_lt dx
    have e : x.length = (u0.length - v.length) + (m + 1) := by omega
    rw [vu]
    have h2 : (nv x + 1) * 2 ^ n ≤ 4294967296 ^ x.length * 2 ^ n := Int.mul_le_mul_of_nonneg_right (by omega) (by omega)
    have h3 : (4294967296 : Int) ^ x.length * 2 ^ n ≤ 4294967296 ^ x.length * 2147483648 := Int.mul_le_mul_of_nonneg_left n31 (by have := pow_pos32 x.length; omega)
    have h4 : (4294967296 : Int) ^ x.length * 2147483648 = 4294967296 ^ (m + 1) * 2147483648 * 4294967296 ^ (u0.length - v.length) := by rw [e, Int.pow_add]; grind
    have h5 : 4294967296 ^ (m + 1) * 2147483648 * 4294967296 ^ (u0.length - v.length) ≤ nv v * 4294967296 ^ (u0.length - v.length) := Int.mul_le_mul_of_nonneg_right vlow (by have := pow_pos32 (u0.length - v.length); omega)
    have h6 : (nv x + 1) * 2 ^ n = nv x * 2 ^ n + 2 ^ n := by grind
    omega
  rintro ⟨n', v', m', k', u', o'⟩ ⟨K, u, o, h⟩
  obtain rfl : n' = (n : Int) := h.en
  obtain rfl : v' = some v := h.ev
  obtain rfl : m' = (v.length : Int) := h.em
  obtain rfl : k' = (K : Int) - 1 := h.ek
  obtain rfl : u' = some u := h.eu
  obtain rfl : o' = some o := h.eo
  obtain ⟨_, _, _, _, _, _, ul, ud, ol, od, oz, kl, val, lt⟩ := h
  dsimp only
  refine brV_iff.2 ⟨fun hb => ?_, fun hb => ?_⟩
  · -- a digit
    have hb : (0 : Int) ≤ (K : Int) - 1 := dec_t hb
    obtain ⟨k, rfl⟩ : ∃ k, K = k + 1 := ⟨K - 1, by omega⟩
    have ek : ((k + 1 : Nat) : Int) - 1 = (k : Int) := by omega
    rw [ek, hlv]
    have hkm : k + m + 3 ≤ u0.length := by omega
    have e1 : IntKind.wrap IntKind.i64 ((k : Int) + ((m + 2 : Nat) : Int)) = ((k + m + 2 : Nat) : Int) := by rw [wi64 (by omega) (by omega)]; omega
    have e2 : IntKind.wrap IntKind.i64 (((k + m + 2 : Nat) : Int) - 1) = ((k + m + 1 : Nat) : Int) := by rw [wi64 (by omega) (by omega)]; omega
    have e3 : IntKind.wrap IntKind.i64 (((k + m + 2 : Nat) : Int) - 2) = ((k + m : Nat) : Int) := by rw [wi64 (by omega) (by omega)]; omega
    have e4 : IntKind.wrap IntKind.i64 (((m + 2 : Nat) : Int) - 1) = ((m + 1 : Nat) : Int) := by rw [wi64 (by omega) (by omega)]; omega
    have e5 : IntKind.wrap IntKind.i64 (((m + 2 : Nat) : Int) - 2) = ((m : Nat) : Int) := by rw [wi64 (by omega) (by omega)]; omega
    have gu0 := ud.get (k + m + 2)
    have gu1 := ud.get (k + m + 1)
    have gu2 := ud.get (k + m)
    have x1 : eltS (0 : Int) (some v) ((m + 1 : Nat) : Int) = v.getD (m + 1) 0 := by simp only [eltS, Option.getD_some, Int.toNat_natCast]
    have x2 : eltS (0 : Int) (some v) ((m : Nat) : Int) = v.getD m 0 := by simp only [eltS, Option.getD_some, Int.toNat_natCast]
    have x3 : eltN (0 : Int) (some u) (toN ((k + m + 2 : Nat) : Int)) = u.getD (k + m + 2) 0 := by simp only [eltN, toN, Option.getD_some, Int.toNat_natCast]
    have x4 : eltN (0 : Int) (some u) (toN ((k + m + 1 : Nat) : Int)) = u.getD (k + m + 1) 0 := by simp only [eltN, toN, Option.getD_some, Int.toNat_natCast]
    have x5 : eltN (0 : Int) (some u) (toN ((k + m : Nat) : Int)) = u.getD (k + m) 0 := by simp only [eltN, toN, Option.getD_some, Int.toNat_natCast]
    have y1 : IntKind.wrap IntKind.u64 (v.getD (m + 1) 0) = v.getD (m + 1) 0 := wu64 gv1.1 (by omega)
    have y2 : IntKind.wrap IntKind.u64 (v.getD m 0) = v.getD m 0 := wu64 gv2.1 (by omega)
    have y3 : IntKind.wrap IntKind.u64 (u.getD (k + m + 2) 0) = u.getD (k + m + 2) 0 := wu64 gu0.1 (by omega)
    have y4 : IntKind.wrap IntKind.u64 (u.getD (k + m + 1) 0) = u.getD (k + m + 1) 0 := wu64 gu1.1 (by omega)
    have y5 : IntKind.wrap IntKind.u64 (u.getD (k + m) 0) = u.getD (k + m) 0 := wu64 gu2.1 (by omega)
    have etop : bitI BinOp.or IntKind.u64 (shlI IntKind.u64 (u.getD (k + m + 2) 0) 32) (u.getD (k + m + 1) 0) = u.getD (k + m + 2) 0 * 4294967296 + u.getD (k + m + 1) 0 := by
      rw [shl64_32, Int.emod_eq_of_lt (by omega) (by omega), or64_32 gu1.1 gu1.2 gu0.1 gu0.2, Int.add_comm]
    -- the numbers of the estimate
    have uz : ZeroFrom u (k + m + 3) := by
      refine lt_zeroFrom ud (Int.lt_of_lt_of_le lt ?_)
      have : nv v * 4294967296 ^ (k + 1) ≤ 4294967296 ^ (m + 2) * 4294967296 ^ (k + 1) := Int.mul_le_mul_of_nonneg_right (by omega) (by have := pow_pos32 (k + 1); omega)
      rw [← Int.pow_add, show m + 2 + (k + 1) = k + m + 3 by omega] at this
      exact this
    obtain ⟨wu, wu0, wu1, wu2⟩ := win3 ud uz
    have uV : nv (u.drop k) < nv v * 4294967296 := by
      rw [nv_split' u k, Int.pow_succ] at lt
      have t := take_lt ud k
      have : 4294967296 ^ k * nv (u.drop k) < 4294967296 ^ k * (nv v * 4294967296) := by
        have e : nv v * (4294967296 ^ k * 4294967296) = 4294967296 ^ k * (nv v * 4294967296) := by grind
        omega
      exact Int.lt_of_mul_lt_mul_left this (by have := pow_pos32 k; omega)
    have est : Est (nv (u.drop k)) (nv v) (v.getD (m + 1) 0) (v.getD m 0) (u.getD (k + m) 0) (u.getD (k + m + 2) 0 * 4294967296 + u.getD (k + m + 1) 0) (4294967296 ^ m) :=
      est_mk hP wu2 wv2 wu0 wu1 wv0 wv1 v1l gv1.2 gv2.1 gv2.2 gu2.1 gu2.2 gu1.1 gu0.1 uV
    have uz' : ZeroFrom u (k + v.length + 1) := by rw [hlv]; exact uz
    have hkl : k + v.length < u.length := by omega
    simp only [e1, e2, e3, e4, e5, x1, x2, x3, x4, x5, y1, y2, y3, y4, y5, etop]
    have gtop : 0 ≤ u.getD (k + m + 2) 0 * 4294967296 + u.getD (k + m + 1) 0 ∧ u.getD (k + m + 2) 0 * 4294967296 + u.getD (k + m + 1) 0 < 18446744073709551616 := by omega
    have hq0 := est.q0
    have hqB := est.qB
    refine ⟨by simp only [inS, Option.getD_some]; omega, by first | trivial | omega, by simp only [inS, Option.getD_some]; omega, by simp only [inS, Option.getD_some]; omega, by omega, by simp only [inS, Option.getD_some]; omega, by omega, ?_⟩
    refine joinR (fun p => ∃ q, p = ((n : Int), some v, ((m + 2 : Nat) : Int), (k : Int), q, some u, some o) ∧ 0 ≤ q ∧ q < 4294967296 ∧ nv (u.drop k) / nv v ≤ q ∧ q - 1 ≤ nv (u.drop k) / nv v) ?_ ?_
    · -- the subtraction
      rintro _ ⟨q, rfl, q0, qB, ql, qh⟩
      dsimp only
      refine loopE (fun p => ∃ (i : Nat) (w : List Int) (b c : Int), p = ((n : Int), some v, ((m + 2 : Nat) : Int), (k : Int), q, b, c, some v, ((m + 2 : Nat) : Int), (i : Int), some w, some o) ∧ i ≤ m + 2 ∧ SubInv u v q k i w b c) (fun p => (((m + 2 : Nat) : Int) - p.2.2.2.2.2.2.2.2.2.1).toNat) ⟨0, u, 0, 0, ?_, by omega, ⟨rfl, ud, uz', by omega, by omega, by omega, by omega, by simp [nv]⟩⟩ ?_
      · simp only [szSl, Option.getD_some, hlv]; rfl
      rintro _ ⟨i, w, b, c, rfl, hi, hs⟩
      dsimp only
      have hwl : w.length = u0.length := hs.len.trans ul
      have b0 := hs.b0
      have b1 := hs.b1
      have c0 := hs.c0
      have c1 := hs.c1
      refine brV_iff.2 ⟨fun hb => ?_, fun hb => ?_⟩
      · have hb : (i : Int) < ((m + 2 : Nat) : Int) := dec_t hb
        have f1 : IntKind.wrap IntKind.i64 ((k : Int) + (i : Int)) = ((k + i : Nat) : Int) := by rw [wi64 (by omega) (by omega)]; omega
        have f2 : IntKind.wrap IntKind.i64 ((i : Int) + 1) = ((i + 1 : Nat) : Int) := by rw [wi64 (by omega) (by omega)]; omega
        have hst := hs.step dv (by omega) (by omega) q0 qB
        have gv := dv.get i
        have gw := hs.dig.get (k + i)
        have hbd := sub_bound q0 qB gv.1 gv.2 hs.c0 hs.c1
        obtain ⟨r1, r2, r3⟩ := sub_words gw.1 gw.2 hbd.1 hs.c0 hbd.2 hs.b0 hs.b1
        have y6 : IntKind.wrap IntKind.u64 (v.getD i 0) = v.getD i 0 := wu64 gv.1 (by omega)
        simp only [f1, f2, inS, eltS, eltN, toN, Option.getD_some, Int.toNat_natCast, y6, r1, r2, r3, setO, Option.map_some]
        exact ⟨by omega, by first | trivial | omega, by omega, by omega, by first | trivial | omega, ⟨i + 1, _, _, _, rfl, by omega, hst⟩, by omega⟩
      · have hb : ¬ (i : Int) < ((m + 2 : Nat) : Int) := dec_f hb
        obtain rfl : i = m + 2 := by omega
        have hs' : SubInv u v q k v.length w b c := by rw [hlv]; exact hs
        have hend := hs'.fin hkl
        have hr := hend.right ud uz' vpos dv ql qh
        rw [hlv, ← Nat.add_assoc] at hend hr
        have gw := hs.dig.get (k + m + 2)
        have et : shrI IntKind.u64 (IntKind.wrap IntKind.u64 (IntKind.wrap IntKind.u64 (IntKind.wrap IntKind.u64 (w.getD (k + m + 2) 0) - c) - b)) 63 = if w.getD (k + m + 2) 0 < c + b then 1 else 0 := by
          rw [shr64_63, wu64m, wu64m, wu64m]; split <;> omega
        have ed : IntKind.wrap IntKind.u32 (IntKind.wrap IntKind.u64 (IntKind.wrap IntKind.u64 (IntKind.wrap IntKind.u64 (w.getD (k + m + 2) 0) - c) - b)) = (w.getD (k + m + 2) 0 - c - b) % 4294967296 := by
          rw [wu32m, wu64m, wu64m, wu64m]; omega
        simp only [e1, inS, eltN, toN, Option.getD_some, Int.toNat_natCast, et, ed, setO, Option.map_some]
        refine ⟨by omega, by omega, by first | trivial | omega, ?_⟩
        refine joinR (fun p => ∃ u', p = ((n : Int), some v, ((m + 2 : Nat) : Int), (k : Int), nv (u.drop k) / nv v, some u', some o) ∧ Left u v k u') ?_ ?_
        · rintro _ ⟨u', rfl, hL⟩
          dsimp only
          have f3 : IntKind.wrap IntKind.u32 (nv (u.drop k) / nv v) = nv (u.drop k) / nv v := wu32 hq0 (by omega)
          have f4 : IntKind.wrap IntKind.i64 ((k : Int) - 1) = (k : Int) - 1 := wi64 (by omega) (by omega)
          simp only [f3, f4, inS, toN, Option.getD_some, Int.toNat_natCast, setO, Option.map_some]
          refine ⟨by omega, ⟨k, u', o.set k (nv (u.drop k) / nv v), ⟨rfl, rfl, by rw [hlv], rfl, rfl, rfl, hL.len.trans ul, hL.dig, by rw [List.length_set]; exact ol, od.set _ hq0 (by omega), ?_, by omega, out_step hL val (oz k (by omega)) (by omega), left_lt hL ud vpos⟩⟩, by omega⟩
          intro j hj; rw [getD_set_other (by omega)]; exact oz j (by omega)
        · intro k9 hk9
          generalize (if w.getD (k + m + 2) 0 < c + b then (1 : Int) else 0) = t at *
          refine brV_iff.2 ⟨fun hb2 => ?_, fun hb2 => ?_⟩
          · have ht1 : t = 1 := dec_t hb2
            have hq := hr.2 ht1
            have f5 : IntKind.wrap IntKind.u64 (q - 1) = nv (u.drop k) / nv v := by rw [wu64 (by omega) (by omega)]; omega
            refine loopE (fun p => ∃ (i : Nat) (z : List Int) (c' : Int), p = ((n : Int), some v, ((m + 2 : Nat) : Int), (k : Int), nv (u.drop k) / nv v, c', some v, ((m + 2 : Nat) : Int), (i : Int), some z, some o) ∧ i ≤ m + 2 ∧ AddInv (w.set (k + m + 2) ((w.getD (k + m + 2) 0 - c - b) % 4294967296)) v k i z c') (fun p => (((m + 2 : Nat) : Int) - p.2.2.2.2.2.2.2.2.1).toNat) ⟨0, _, 0, ?_, by omega, ⟨rfl, hend.dig, hend.zero, by omega, by omega, by simp [nv]⟩⟩ ?_
            · simp only [f5, szSl, Option.getD_some, hlv]; rfl
            rintro _ ⟨i, z, c', rfl, hi', ha⟩
            dsimp only
            have hzl : z.length = u0.length := ha.len.trans (hend.len.trans ul)
            have c0' := ha.c0
            have c1' := ha.c1
            refine brV_iff.2 ⟨fun hb => ?_, fun hb => ?_⟩
            · have hb : (i : Int) < ((m + 2 : Nat) : Int) := dec_t hb
              have f1 : IntKind.wrap IntKind.i64 ((k : Int) + (i : Int)) = ((k + i : Nat) : Int) := by rw [wi64 (by omega) (by omega)]; omega
              have f2 : IntKind.wrap IntKind.i64 ((i : Int) + 1) = ((i + 1 : Nat) : Int) := by rw [wi64 (by omega) (by omega)]; omega
              have gv := dv.get i
              have gz := ha.dig.get (k + i)
              have hst := ha.step dv (by omega) (by rw [hend.len]; omega)
              simp only [f1, f2, inS, eltS, eltN, toN, Option.getD_some, Int.toNat_natCast]
              refine ⟨by omega, by omega, (s_Add32 gz.1 gz.2 gv.1 gv.2 c0' (by omega)).mono ?_⟩
              rintro _ rfl
              simp only [setO, Option.map_some]
              exact ⟨by omega, ⟨i + 1, _, _, rfl, by omega, hst⟩, by omega⟩
            · have hb : ¬ (i : Int) < ((m + 2 : Nat) : Int) := dec_f hb
              obtain rfl : i = m + 2 := by omega
              have gz := ha.dig.get (k + m + 2)
              simp only [e1, inS, eltN, toN, Option.getD_some, Int.toNat_natCast, setO, Option.map_some]
              refine ⟨by omega, by omega, hk9 _ ⟨_, rfl, ?_⟩⟩
              rw [wu32m]
              have ha' : AddInv (w.set (k + m + 2) ((w.getD (k + m + 2) 0 - c - b) % 4294967296)) v k v.length z c' := by rw [hlv]; exact ha
              have := AddInv.left hend ht1 hq ha' ud uz' hkl vpos
              rw [hlv, ← Nat.add_assoc] at this
              exact this
          · have ht1 : ¬ t = 1 := dec_f hb2
            have ht0 : t = 0 := hend.t01.resolve_right ht1
            have hq := hr.1 ht0
            exact hk9 _ ⟨_, by rw [hq], hend.left ht0 hq⟩
    · -- the estimate
      intro k6 hk6
      generalize u.getD (k + m + 2) 0 * 4294967296 + u.getD (k + m + 1) 0 = top at *
      refine loopE (fun p => ∃ q r : Int, p = ((n : Int), some v, ((m + 2 : Nat) : Int), (k : Int), q, r, some u, some o) ∧ nv (u.drop k) / nv v ≤ q ∧ 0 ≤ r ∧ r < 4294967296 ∧ q * v.getD (m + 1) 0 + r = top ∧ q < 17179869184) (fun p => p.2.2.2.2.1.toNat) ⟨top / v.getD (m + 1) 0, top % v.getD (m + 1) 0, ?_, est.init, Int.emod_nonneg _ (by omega), ?_, ?_, ?_⟩ ?_
      · have hq : top / v.getD (m + 1) 0 < 17179869184 := Int.ediv_lt_of_lt_mul (by omega) (by omega)
        have hq' : 0 ≤ top / v.getD (m + 1) 0 := Int.ediv_nonneg (by omega) (by omega)
        rw [Int.tdiv_eq_ediv_of_nonneg gtop.1, Int.tmod_eq_emod_of_nonneg gtop.1, wu64 hq' (by omega)]
      · have := Int.emod_lt_of_pos top (show 0 < v.getD (m + 1) 0 by omega); omega
      · have := Int.mul_ediv_add_emod top (v.getD (m + 1) 0); rw [Int.mul_comm]; exact this
      · exact Int.ediv_lt_of_lt_mul (by omega) (by omega)
      rintro _ ⟨q, r, rfl, ql, r0, rB, he, qB⟩
      dsimp only
      refine joinR (fun p => p = ((n : Int), some v, ((m + 2 : Nat) : Int), (k : Int), q, r, decide (4294967296 ≤ q ∨ r * 4294967296 + u.getD (k + m) 0 < q * v.getD m 0), some u, some o)) ?_ ?_
      · rintro _ rfl
        simp only [e4, x1, y1]
        refine brV_iff.2 ⟨fun hb => ?_, fun hb => ?_⟩
        · have hb := dec_t hb
          have hnx := est.next ql he hb
          have f6 : IntKind.wrap IntKind.u64 (q - 1) = q - 1 := wu64 (by omega) (by omega)
          have f7 : IntKind.wrap IntKind.u64 (r + v.getD (m + 1) 0) = r + v.getD (m + 1) 0 := wu64 (by omega) (by omega)
          have he' : (q - 1) * v.getD (m + 1) 0 + (r + v.getD (m + 1) 0) = top := by rw [← he, Int.sub_mul]; omega
          simp only [f6, f7]
          refine ⟨by simp only [inS, Option.getD_some]; omega, brV_iff.2 ⟨fun h2 => ?_, fun h2 => ?_⟩⟩
          · have h2 : 4294967296 ≤ r + v.getD (m + 1) 0 := dec_t h2
            obtain ⟨w1, w2⟩ := est.brk (by omega) he' h2
            exact hk6 _ ⟨q - 1, rfl, by omega, w1, hnx, est.done hnx he' w1 w2⟩
          · have h2 : ¬ 4294967296 ≤ r + v.getD (m + 1) 0 := dec_f h2
            exact ⟨⟨q - 1, r + v.getD (m + 1) 0, rfl, hnx, by omega, by omega, he', by omega⟩, by omega⟩
        · have hb := dec_f hb
          exact hk6 _ ⟨q, rfl, by omega, by omega, ql, est.done ql he (by omega) (by omega)⟩
      · intro k9 hk9
        refine brV_iff.2 ⟨fun h2 => ?_, fun h2 => ?_⟩
        · have h2 : 4294967296 ≤ q := dec_t h2
          exact hk9 _ (by rw [decide_eq_true (Or.inl h2)])
        · have h2 : ¬ 4294967296 ≤ q := dec_f h2
          have eo : bitI BinOp.or IntKind.u64 (shlI IntKind.u64 r 32) (u.getD (k + m) 0) = r * 4294967296 + u.getD (k + m) 0 := by
            rw [shl64_32, Int.emod_eq_of_lt (by omega) (by omega), or64_32 gu2.1 gu2.2 r0 rB, Int.add_comm]
          have hb := sub_bound (q := q) (d := v.getD m 0) (carry := 0) (by omega) (by omega) gv2.1 gv2.2 (by omega) (by omega)
          have em : IntKind.wrap IntKind.u64 (q * v.getD m 0) = q * v.getD m 0 := wu64 hb.1 (by omega)
          simp only [e1, e3, e5, x2, x5, y2, y5, eo, em]
          refine ⟨by simp only [inS, Option.getD_some]; omega, by first | trivial | omega, by simp only [inS, Option.getD_some]; omega, hk9 _ ?_⟩
          have : decide (r * 4294967296 + u.getD (k + m) 0 < q * v.getD m 0) = decide (4294967296 ≤ q ∨ r * 4294967296 + u.getD (k + m) 0 < q * v.getD m 0) := decide_eq_decide.2 ⟨Or.inr, fun h => h.resolve_left h2⟩
          rw [this]
  · -- the rest
    have hb : ¬ (0 : Int) ≤ (K : Int) - 1 := dec_f hb
    obtain rfl : K = 0 := by omega
    simp only [Int.pow_zero, Int.mul_one] at lt
    rw [vu, vv] at val
    rw [vv] at lt
    have hR : nv u = (nv x - nv o * nv y) * 2 ^ n := by rw [Int.sub_mul, val]; grind
    have hu0 := nv_nonneg ud
    have hR0 : 0 ≤ nv x - nv o * nv y := by
      rw [hR] at hu0
      rcases Int.lt_or_le (nv x - nv o * nv y) 0 with h | h
      · have : (nv x - nv o * nv y) * 2 ^ n < 0 := Int.mul_neg_of_neg_of_pos h hp2
        omega
      · exact h
    have hR1 : nv x - nv o * nv y < nv y := by
      rw [hR] at lt
      exact Int.lt_of_mul_lt_mul_right lt (by omega)
    obtain ⟨d1, d2⟩ := divmod_of (show nv o * nv y + (nv x - nv o * nv y) = nv x by omega) hR0 hR1
    have hyB := nv_lt dy
    refine ⟨by simp only [mkC]; omega, ?_⟩
    refine loopE (fun p => ∃ (i : Nat) (rl : List Int), p = ((n : Int), (v.length : Int), (i : Int), some u, some o, some rl) ∧ i ≤ v.length ∧ rl.length = v.length ∧ Dig rl ∧ (∀ j, i ≤ j → rl.getD j 0 = 0) ∧ nv rl = (nv x - nv o * nv y) % 4294967296 ^ i) (fun p => ((v.length : Int) - p.2.2.1).toNat) ⟨0, List.replicate v.length 0, ?_, by omega, by simp, Dig.rep _, ?_, ?_⟩ ?_
    · simp only [repS, szSl, Int.toNat_natCast, Option.getD_some, List.length_replicate]; rfl
    · intro j _
      rcases Nat.lt_or_ge j v.length with h | h
      · simp [List.getD, h]
      · simp [List.getD, Nat.not_lt.2 h]
    · rw [nv_rep]; simp [Int.emod_one]
    rintro _ ⟨i, rl, rfl, hi, hrl, drl, zrl, vrl⟩
    dsimp only
    refine brV_iff.2 ⟨fun hb => ?_, fun hb => ?_⟩
    · have hb : (i : Int) < (v.length : Int) := dec_t hb
      have f2 : IntKind.wrap IntKind.i64 ((i : Int) + 1) = ((i + 1 : Nat) : Int) := by rw [wi64 (by omega) (by omega)]; omega
      have g0 := ud.get i
      have g1 := ud.get (i + 1)
      have es : shlI IntKind.u64 (u.getD (i + 1) 0) 32 = u.getD (i + 1) 0 * 4294967296 := by rw [shl64_32, Int.emod_eq_of_lt (by omega) (by omega)]
      have eo : bitI BinOp.or IntKind.u64 (u.getD i 0) (u.getD (i + 1) 0 * 4294967296) = u.getD i 0 + u.getD (i + 1) 0 * 4294967296 := or64 32 g0.1 (by omega) g1.1 (by omega)
      have ew : IntKind.wrap IntKind.u32 (shrI IntKind.u64 (u.getD i 0 + u.getD (i + 1) 0 * 4294967296) (n : Int)) = (nv x - nv o * nv y) / 4294967296 ^ i % 4294967296 := by
        rw [wu32m, shr64 _ _ (by omega), Int.mul_comm (u.getD (i + 1) 0)]
        exact rest_digit ud hn _ hR
      have h64a : IntKind.wrap IntKind.u64 (u.getD i 0) = u.getD i 0 := wu64 g0.1 (by omega)
      have h64b : IntKind.wrap IntKind.u64 (u.getD (i + 1) 0) = u.getD (i + 1) 0 := wu64 g1.1 (by omega)
      simp only [f2, inS, eltN, toN, Option.getD_some, Int.toNat_natCast, h64a, h64b, es, eo, ew, setO, Option.map_some]
      refine ⟨by omega, by omega, by first | trivial | omega, by omega, by omega, ⟨i + 1, _, rfl, by omega, by rw [List.length_set]; exact hrl, drl.set i (by omega) (by omega), ?_, rest_step (by omega) (zrl i (Nat.le_refl _)) vrl rfl⟩, by omega⟩
      intro j hj; rw [getD_set_other (by omega)]; exact zrl j (by omega)
    · have hb : ¬ (i : Int) < (v.length : Int) := dec_f hb
      obtain rfl : i = v.length := by omega
      rw [hlv, ← hm, Int.emod_eq_of_lt hR0 (by omega)] at vrl
      refine ⟨⟨o, rfl, od, d1, by omega⟩, rl, rfl, drl, by rw [vrl, d2], by omega⟩

end Go.Proofs.Pf

namespace Go.Proofs.Pf

open Go Go.VM

set_option maxRecDepth 100000

def an_exact_Int_Cmp : Ann := .nil

theorem w_exact_Int_Cmp {Q : Int → Prop} (a : DE) (b : DE) (hQ : ∃ r, Q r) (h :
  (callV Pg c_exact_Int_Sub [⟨tEI, a⟩, ⟨tEI, b⟩] tEI (fun p0 => (callV Pg c_exact_Int_Sign [⟨tEI, p0⟩] tI (fun p1 => (Q p1)))))) :
  callV Pg c_exact_Int_Cmp [⟨tEI, a⟩, ⟨tEI, b⟩] tI Q :=
  callV_of (c := bodyOf f_exact_Int_Cmp) (ann := an_exact_Int_Cmp) e_exact_Int_Cmp rfl r_exact_Int_Cmp rfl rfl hQ (kcast (by kernel_rfl) h)

def an_model_Valid : Ann := (.seq .nil (.seq .nil (.seq (.seq (.reg [] [] (some ⟨[(1, .ref 1 0)], [.var 3 tI, .var 16 (.bool), .box 1 tMo]⟩)) .nil) (.seq (.seq .nil (.blk none (.loop ⟨[], [.var 3 tI, .var 18 (.sl tSt), .var 19 tI, .var 20 tI]⟩ (.seq .nil (.seq .nil (.seq (.blk none (.seq .nil (.seq (.seq (.reg [] [] (some ⟨[(5, .ref 5 0)], [.var 3 tI, .var 18 (.sl tSt), .var 19 tI, .var 20 tI, .var 53 (.bool), .box 5 tSt]⟩)) .nil) (.seq .nil (.blk none (.loop ⟨[], [.var 3 tI, .var 18 (.sl tSt), .var 19 tI, .var 20 tI, .var 55 (.sl tCh), .var 56 tI, .var 57 tI]⟩ .nil)))))) .nil)))))) .nil))))

theorem w_model_Valid {Q : Bool → Prop} (a : DMo) (hQ : ∃ r, Q r) (h :
  (joinV (Int × (Bool × DMo)) (fun p0 => (brV p0.2.1 (Q false) (loopV (Int × (DMo × (Int × Int))) (fun k1 => (fun p2 => (brV (decide (p2.2.2.2 < p2.2.2.1)) ((inS p2.2.1 p2.2.2.2) ∧ (joinV (Int × (DMo × (Int × (Int × (Bool × DSt))))) (fun p3 => (brV p3.2.2.2.2.1 (Q false) (loopV (Int × (DMo × (Int × (Int × ((Option (List DCh)) × (Int × Int)))))) (fun k4 => (fun p5 => (brV (decide (p5.2.2.2.2.2.2 < p5.2.2.2.2.2.1)) ((inS p5.2.2.2.2.1 p5.2.2.2.2.2.2) ∧ (callV Pg c_model_choice [⟨tI, p5.1⟩, ⟨tCh, ((eltS (((0 : Int), (0 : Int)), none) p5.2.2.2.2.1 p5.2.2.2.2.2.2).1, (eltS (((0 : Int), (0 : Int)), none) p5.2.2.2.2.1 p5.2.2.2.2.2.2).2)⟩] .bool (fun p6 => (brV (notB p6) (Q false) (k4 (p5.1, (p5.2.1, (p5.2.2.1, (p5.2.2.2.1, (p5.2.2.2.2.1, (p5.2.2.2.2.2.1, (IntKind.wrap IntKind.i64 (p5.2.2.2.2.2.2 + (1 : Int)))))))))))))) (k1 (p5.1, (p5.2.1, (p5.2.2.1, (IntKind.wrap IntKind.i64 (p5.2.2.2.1 + (1 : Int)))))))))) (p3.1, (p3.2.1, (p3.2.2.1, (p3.2.2.2.1, (p3.2.2.2.2.2.2.2, ((szSl p3.2.2.2.2.2.2.2), (0 : Int)))))))))) (fun k3 => (brV (decide ((eltS ((0 : Int), ((0 : Int), none)) p2.2.1 p2.2.2.2).1 < (0 : Int))) (k3 (p2.1, (p2.2.1, (p2.2.2.1, (p2.2.2.2, (true, ((eltS ((0 : Int), ((0 : Int), none)) p2.2.1 p2.2.2.2).1, (eltS ((0 : Int), ((0 : Int), none)) p2.2.1 p2.2.2.2).2))))))) (brV (decide ((1 : Int) < (eltS ((0 : Int), ((0 : Int), none)) p2.2.1 p2.2.2.2).1)) (k3 (p2.1, (p2.2.1, (p2.2.2.1, (p2.2.2.2, (true, ((eltS ((0 : Int), ((0 : Int), none)) p2.2.1 p2.2.2.2).1, (eltS ((0 : Int), ((0 : Int), none)) p2.2.1 p2.2.2.2).2))))))) (brV (decide ((eltS ((0 : Int), ((0 : Int), none)) p2.2.1 p2.2.2.2).2.1 < (0 : Int))) (k3 (p2.1, (p2.2.1, (p2.2.2.1, (p2.2.2.2, (true, ((eltS ((0 : Int), ((0 : Int), none)) p2.2.1 p2.2.2.2).1, (eltS ((0 : Int), ((0 : Int), none)) p2.2.1 p2.2.2.2).2))))))) (brV (decide ((63 : Int) < (eltS ((0 : Int), ((0 : Int), none)) p2.2.1 p2.2.2.2).2.1)) (k3 (p2.1, (p2.2.1, (p2.2.2.1, (p2.2.2.2, (true, ((eltS ((0 : Int), ((0 : Int), none)) p2.2.1 p2.2.2.2).1, (eltS ((0 : Int), ((0 : Int), none)) p2.2.1 p2.2.2.2).2))))))) (brV (decide ((szSl (eltS ((0 : Int), ((0 : Int), none)) p2.2.1 p2.2.2.2).2.2) < (1 : Int))) (k3 (p2.1, (p2.2.1, (p2.2.2.1, (p2.2.2.2, (true, ((eltS ((0 : Int), ((0 : Int), none)) p2.2.1 p2.2.2.2).1, (eltS ((0 : Int), ((0 : Int), none)) p2.2.1 p2.2.2.2).2))))))) (k3 (p2.1, (p2.2.1, (p2.2.2.1, (p2.2.2.2, ((decide ((8 : Int) < (szSl (eltS ((0 : Int), ((0 : Int), none)) p2.2.1 p2.2.2.2).2.2))), ((eltS ((0 : Int), ((0 : Int), none)) p2.2.1 p2.2.2.2).1, (eltS ((0 : Int), ((0 : Int), none)) p2.2.1 p2.2.2.2).2))))))))))))))) (Q true)))) (p0.1, (p0.2.2, ((szSl p0.2.2), (0 : Int))))))) (fun k0 => (brV (decide ((szSl a) < (1 : Int))) (k0 ((szSl a), (true, a))) (k0 ((szSl a), ((decide ((40 : Int) < (szSl a))), a))))))) :
  callV Pg c_model_Valid [⟨tMo, a⟩] .bool Q :=
  callV_of (c := bodyOf f_model_Valid) (ann := an_model_Valid) e_model_Valid rfl r_model_Valid rfl rfl hQ (kcast (by kernel_rfl) h)

def an_model_choice : Ann := (.seq .nil (.seq (.seq (.reg [] [] (some ⟨[(3, .ref 3 0)], [.var 0 tI, .var 24 (.bool), .box 3 tCh]⟩)) .nil) (.seq .nil (.seq .nil (.seq (.seq .nil (.blk none (.loop ⟨[(5, .ref 5 0)], [.var 0 tI, .var 6 tI, .var 26 (.sl tBr), .var 27 tI, .var 28 tI, .box 5 tER]⟩ (.seq .nil (.seq .nil (.seq (.blk none (.seq .nil (.seq (.seq (.reg [] [] (some ⟨[(5, .ref 5 0), (8, .ref 8 0)], [.var 0 tI, .var 26 (.sl tBr), .var 27 tI, .var 28 tI, .var 53 (.bool), .box 5 tER, .box 8 tBr]⟩)) .nil) .nil))) .nil)))))) .nil)))))

theorem w_model_choice {Q : Bool → Prop} (a : Int) (b : DCh) (hQ : ∃ r, Q r) (h :
  (joinV (Int × (Bool × DCh)) (fun p0 => (brV p0.2.1 (Q false) (loopV (Int × (Int × ((Option (List DBr)) × (Int × (Int × DR))))) (fun k1 => (fun p2 => (brV (decide (p2.2.2.2.2.1 < p2.2.2.2.1)) ((inS p2.2.2.1 p2.2.2.2.2.1) ∧ (joinV (Int × ((Option (List DBr)) × (Int × (Int × (Bool × (DR × DBr)))))) (fun p3 => (brV p3.2.2.2.2.1 (Q false) (callV Pg c_num_Rat [⟨tNum, p3.2.2.2.2.2.2.2⟩] tER (fun p4 => (callV Pg c_exact_Rat_Add [⟨tER, (p3.2.2.2.2.2.1.1, p3.2.2.2.2.2.1.2)⟩, ⟨tER, (p4.1, p4.2)⟩] tER (fun p5 => (k1 (p3.1, (p3.2.2.2.2.2.2.1, (p3.2.1, (p3.2.2.1, ((IntKind.wrap IntKind.i64 (p3.2.2.2.1 + (1 : Int))), (p5.1, p5.2))))))))))))) (fun k3 => (brV (decide ((eltS ((0 : Int), ((0 : Int), (0 : Int))) p2.2.2.1 p2.2.2.2.2.1).1 ≤ p2.2.1)) (k3 (p2.1, (p2.2.2.1, (p2.2.2.2.1, (p2.2.2.2.2.1, (true, ((p2.2.2.2.2.2.1, p2.2.2.2.2.2.2), ((eltS ((0 : Int), ((0 : Int), (0 : Int))) p2.2.2.1 p2.2.2.2.2.1).1, (eltS ((0 : Int), ((0 : Int), (0 : Int))) p2.2.2.1 p2.2.2.2.2.1).2)))))))) (brV (decide (p2.1 ≤ (eltS ((0 : Int), ((0 : Int), (0 : Int))) p2.2.2.1 p2.2.2.2.2.1).1)) (k3 (p2.1, (p2.2.2.1, (p2.2.2.2.1, (p2.2.2.2.2.1, (true, ((p2.2.2.2.2.2.1, p2.2.2.2.2.2.2), ((eltS ((0 : Int), ((0 : Int), (0 : Int))) p2.2.2.1 p2.2.2.2.2.1).1, (eltS ((0 : Int), ((0 : Int), (0 : Int))) p2.2.2.1 p2.2.2.2.2.1).2)))))))) (callV Pg c_num_Valid [⟨tNum, (eltS ((0 : Int), ((0 : Int), (0 : Int))) p2.2.2.1 p2.2.2.2.2.1).2⟩] .bool (fun p4 => (brV (notB p4) (k3 (p2.1, (p2.2.2.1, (p2.2.2.2.1, (p2.2.2.2.2.1, (true, ((p2.2.2.2.2.2.1, p2.2.2.2.2.2.2), ((eltS ((0 : Int), ((0 : Int), (0 : Int))) p2.2.2.1 p2.2.2.2.2.1).1, (eltS ((0 : Int), ((0 : Int), (0 : Int))) p2.2.2.1 p2.2.2.2.2.1).2)))))))) (k3 (p2.1, (p2.2.2.1, (p2.2.2.2.1, (p2.2.2.2.2.1, ((decide ((eltS ((0 : Int), ((0 : Int), (0 : Int))) p2.2.2.1 p2.2.2.2.2.1).2.1 ≤ (0 : Int))), ((p2.2.2.2.2.2.1, p2.2.2.2.2.2.2), ((eltS ((0 : Int), ((0 : Int), (0 : Int))) p2.2.2.1 p2.2.2.2.2.1).1, (eltS ((0 : Int), ((0 : Int), (0 : Int))) p2.2.2.1 p2.2.2.2.2.1).2)))))))))))))))) (callV Pg c_exact_Whole [⟨tI, (1 : Int)⟩] tER (fun p3 => (callV Pg c_exact_Rat_Cmp [⟨tER, (p2.2.2.2.2.2.1, p2.2.2.2.2.2.2)⟩, ⟨tER, (p3.1, p3.2)⟩] tI (fun p4 => (Q (decide (p4 = (0 : Int))))))))))) (p0.1, ((-(1 : Int)), (p0.2.2.2, ((szSl p0.2.2.2), ((0 : Int), (((0 : Int), none), ((0 : Int), none)))))))))) (fun k0 => (callV Pg c_num_Valid [⟨tNum, b.1⟩] .bool (fun p1 => (brV (notB p1) (k0 (a, (true, (b.1, b.2)))) (brV (decide ((szSl b.2) < (1 : Int))) (k0 (a, (true, (b.1, b.2)))) (k0 (a, ((decide ((8 : Int) < (szSl b.2))), (b.1, b.2))))))))))) :
  callV Pg c_model_choice [⟨tI, a⟩, ⟨tCh, b⟩] .bool Q :=
  callV_of (c := bodyOf f_model_choice) (ann := an_model_choice) e_model_choice rfl r_model_choice rfl rfl hQ (kcast (by kernel_rfl) h)

def an_model_Count : Ann := .nil

theorem w_model_Count {Q : (Int × (Int × Unit)) → Prop} (a : DMo) (hQ : ∃ r, Q r) (h :
  (callV Pg c_model_Valid [⟨tMo, a⟩] .bool (fun p0 => (brV (notB p0) (Q ((0 : Int), ((1 : Int), ()))) (callV Pg c_model_count [⟨tMo, a⟩, ⟨tI, (0 : Int)⟩] tI (fun p1 => (brV (decide (p1 ≤ (1152921504606846976 : Int))) (Q (p1, ((0 : Int), ()))) (Q ((0 : Int), ((3 : Int), ())))))))))) :
  callV Pg c_model_Count [⟨tMo, a⟩] (.tup (.pair tI (.pair tI .unit))) Q :=
  callV_of (c := bodyOf f_model_Count) (ann := an_model_Count) e_model_Count rfl r_model_Count rfl rfl hQ (kcast (by kernel_rfl) h)

def an_model_count : Ann := (.seq .nil (.seq .nil (.seq (.seq .nil (.blk none (.loop ⟨[(5, .ref 5 0)], [.var 14 (.sl tSt), .var 15 tI, .var 16 tI, .box 5 tEI]⟩ .nil))) .nil)))

theorem w_model_count {Q : Int → Prop} (a : DMo) (b : Int) (hQ : ∃ r, Q r) (h :
  (callV Pg c_exact_Of [⟨tI, (1 : Int)⟩] tEI (fun p0 => ((inR a b (szSl a)) ∧ (loopV (DMo × (Int × (Int × DE))) (fun k1 => (fun p2 => (brV (decide (p2.2.2.1 < p2.2.1)) ((inS p2.1 p2.2.2.1) ∧ (callV Pg c_exact_Of [⟨tI, (szSl (eltS ((0 : Int), ((0 : Int), none)) p2.1 p2.2.2.1).2.2)⟩] tEI (fun p3 => (callV Pg c_exact_Int_Mul [⟨tEI, p2.2.2.2⟩, ⟨tEI, p3⟩] tEI (fun p4 => (k1 (p2.1, (p2.2.1, ((IntKind.wrap IntKind.i64 (p2.2.2.1 + (1 : Int))), p4))))))))) (callV Pg c_exact_Int_Int [⟨tEI, p2.2.2.2⟩, ⟨tI, (1152921504606846976 : Int)⟩] (.tup (.pair tI (.pair .bool .unit))) (fun p3 => (brV p3.2.1 (Q p3.1) (Q (1152921504606846977 : Int)))))))) ((slcS a b (szSl a)), ((szSl (slcS a b (szSl a))), ((0 : Int), p0)))))))) :
  callV Pg c_model_count [⟨tMo, a⟩, ⟨tI, b⟩] tI Q :=
  callV_of (c := bodyOf f_model_count) (ann := an_model_count) e_model_count rfl r_model_count rfl rfl hQ (kcast (by kernel_rfl) h)

def an_model_Nth : Ann := (.seq .nil (.seq .nil (.seq .nil (.seq .nil (.seq (.seq .nil (.blk none (.loop ⟨[(2, .ref 2 0), (6, .ref 6 0), (7, .ref 7 0)], [.var 1 tI, .var 21 (.sl tSt), .var 22 tI, .var 23 tI, .box 2 tMo, .box 6 tEI, .box 7 tEI]⟩ .nil))) (.seq (.seq (.reg [] [] (some ⟨[(2, .ref 2 0), (6, .ref 6 0)], [.var 41 (.bool), .box 2 tMo, .box 6 tEI]⟩)) .nil) (.seq .nil (.seq (.seq .nil (.blk none (.loop ⟨[(2, .ref 2 0), (6, .ref 6 0), (10, .own 45)], [.var 11 tI, .box 2 tMo, .box 6 tEI, .arr 45 tI]⟩ .nil))) .nil))))))))

theorem w_model_Nth {Q : (DL × (Int × Unit)) → Prop} (a : DMo) (b : Int) (hQ : ∃ r, Q r) (h :
  (callV Pg c_model_Valid [⟨tMo, a⟩] .bool (fun p0 => (brV (notB p0) (Q (none, ((1 : Int), ()))) (callV Pg c_exact_Of [⟨tI, b⟩] tEI (fun p1 => (callV Pg c_exact_Of [⟨tI, (1 : Int)⟩] tEI (fun p2 => (loopV (Int × (DMo × (Int × (Int × (DMo × DR))))) (fun k3 => (fun p4 => (brV (decide (p4.2.2.2.1 < p4.2.2.1)) ((inS p4.2.1 p4.2.2.2.1) ∧ (callV Pg c_exact_Of [⟨tI, (szSl (eltS ((0 : Int), ((0 : Int), none)) p4.2.1 p4.2.2.2.1).2.2)⟩] tEI (fun p5 => (callV Pg c_exact_Int_Mul [⟨tEI, p4.2.2.2.2.2.2⟩, ⟨tEI, p5⟩] tEI (fun p6 => (k3 (p4.1, (p4.2.1, (p4.2.2.1, ((IntKind.wrap IntKind.i64 (p4.2.2.2.1 + (1 : Int))), (p4.2.2.2.2.1, (p4.2.2.2.2.2.1, p6)))))))))))) (joinV (Bool × (DMo × DE)) (fun p5 => (brV p5.1 (Q (none, ((6 : Int), ()))) ((mkC 8 (szSl p5.2.1) (szSl p5.2.1)) ∧ (loopV (Int × (DMo × (DE × DL))) (fun k6 => (fun p7 => (brV (decide ((0 : Int) ≤ p7.1)) ((inS p7.2.1 p7.1) ∧ (callV Pg c_exact_Of [⟨tI, (szSl (eltS ((0 : Int), ((0 : Int), none)) p7.2.1 p7.1).2.2)⟩] tEI (fun p8 => (callV Pg c_exact_Int_Quo [⟨tEI, p7.2.2.1⟩, ⟨tEI, p8⟩] (.tup (.pair tEI (.pair tEI .unit))) (fun p9 => (callV Pg c_exact_Int_Int [⟨tEI, p9.2.1⟩, ⟨tI, (8 : Int)⟩] (.tup (.pair tI (.pair .bool .unit))) (fun p10 => ((inS p7.2.2.2 p7.1) ∧ (k6 ((IntKind.wrap IntKind.i64 (p7.1 - (1 : Int))), (p7.2.1, (p9.1, (setO p7.2.2.2 (toN p7.1) p10.1))))))))))))) (Q (p7.2.2.2, ((0 : Int), ())))))) ((IntKind.wrap IntKind.i64 ((szSl p5.2.1) - (1 : Int))), (p5.2.1, (p5.2.2, (some (repS (szSl p5.2.1) (0 : Int)))))))))) (fun k5 => (brV (decide (p4.1 < (0 : Int))) (k5 (true, (p4.2.2.2.2.1, p4.2.2.2.2.2.1))) (callV Pg c_exact_Int_Cmp [⟨tEI, p4.2.2.2.2.2.1⟩, ⟨tEI, p4.2.2.2.2.2.2⟩] tI (fun p6 => (k5 ((decide ((0 : Int) ≤ p6)), (p4.2.2.2.2.1, p4.2.2.2.2.2.1))))))))))) (b, (a, ((szSl a), ((0 : Int), (a, (p1, p2))))))))))))))) :
  callV Pg c_model_Nth [⟨tMo, a⟩, ⟨tI, b⟩] (.tup (.pair tL (.pair tI .unit))) Q :=
  callV_of (c := bodyOf f_model_Nth) (ann := an_model_Nth) e_model_Nth rfl r_model_Nth rfl rfl hQ (kcast (by kernel_rfl) h)

end Go.Proofs.Pf

namespace Go.Proofs.Pf

open Go Go.VM

set_option maxRecDepth 100000

def an_ref01_List : Ann := (.seq .nil (.seq .nil (.seq (.seq .nil (.blk none (.loop ⟨[], [.var 0 tL, .var 1 tL, .var 12 tI, .var 13 tI]⟩ .nil))) .nil)))

theorem w_ref01_List {Q : Bool → Prop} (a : DL) (b : DL) (hQ : ∃ r, Q r) (h :
  (brV (notB (decide ((szSl a) = (szSl b)))) (Q false) (loopV (DL × (DL × (Int × Int))) (fun k0 => (fun p1 => (brV (decide (p1.2.2.2 < p1.2.2.1)) ((inS p1.1 p1.2.2.2) ∧ ((inS p1.2.1 p1.2.2.2) ∧ (brV (notB (decide ((eltS (0 : Int) p1.1 p1.2.2.2) = (eltS (0 : Int) p1.2.1 p1.2.2.2)))) (Q false) (k0 (p1.1, (p1.2.1, (p1.2.2.1, (IntKind.wrap IntKind.i64 (p1.2.2.2 + (1 : Int)))))))))) (Q true)))) (a, (b, ((szSl a), (0 : Int))))))) :
  callV Pg c_ref01_List [⟨tL, a⟩, ⟨tL, b⟩] .bool Q :=
  callV_of (c := bodyOf f_ref01_List) (ann := an_ref01_List) e_ref01_List rfl r_ref01_List rfl rfl hQ (kcast (by kernel_rfl) h)

end Go.Proofs.Pf

namespace Go.Proofs.Pf

open Go Go.VM

set_option maxRecDepth 100000

def an_num_Print : Ann := (.seq .nil (.seq .nil (.seq .nil (.seq (.seq .nil (.cond (some ⟨[], [.var 4 (.str)]⟩) .nil .nil)) .nil))))

theorem w_num_Print {Q : (ByteArray × (Int × Unit)) → Prop} (a : (Int × Int)) (hQ : ∃ r, Q r) (h :
  (callV Pg c_num_Valid [⟨tNum, a⟩] .bool (fun p0 => (brV (notB p0) (Q ((bytesL []), ((1 : Int), ()))) (callV Pg c_strconv_Itoa [⟨tI, a.1⟩] .str (fun p1 => (joinV ByteArray (fun p2 => (Q (p2, ((0 : Int), ())))) (fun k2 => (brV (notB (decide (a.2 = (1 : Int)))) (callV Pg c_strconv_Itoa [⟨tI, a.2⟩] .str (fun p3 => ((catC (bytesL [47]) p3) ∧ ((catC p1 (catS (bytesL [47]) p3)) ∧ (k2 (catS p1 (catS (bytesL [47]) p3))))))) (k2 p1)))))))))) :
  callV Pg c_num_Print [⟨tNum, a⟩] (.tup (.pair .str (.pair tI .unit))) Q :=
  callV_of (c := bodyOf f_num_Print) (ann := an_num_Print) e_num_Print rfl r_num_Print rfl rfl hQ (kcast (by kernel_rfl) h)

end Go.Proofs.Pf

namespace Go.Proofs.Pf

open Go Go.VM

def L_strings_Builder_copyCheck_v0 : Lend := ⟨⟨[(0, .ref 1000000000 0)], [.box 1000000000 (.agg (.pair (.cst .nilPtr) (.own 700000))), .arr 700000 (.int .u8)]⟩, ⟨[(1000, .ref 1000000000 0)], [.box 1000000000 (.agg (.pair (.ref 1000000000 0) (.own 700000))), .arr 700000 (.int .u8)]⟩, 0⟩

def L_strings_Builder_copyCheck_v1 : Lend := ⟨⟨[(0, .ref 1000000000 0)], [.box 1000000000 (.agg (.pair (.ref 1000000000 0) (.own 700000))), .arr 700000 (.int .u8)]⟩, ⟨[(1000, .ref 1000000000 0)], [.box 1000000000 (.agg (.pair (.ref 1000000000 0) (.own 700000))), .arr 700000 (.int .u8)]⟩, 0⟩

def L_strings_Builder_Len : Lend := ⟨⟨[(0, .ref 1000000000 0)], [.box 1000000000 (.agg (.pair (.ref 1000000000 0) (.own 700000))), .arr 700000 (.int .u8)]⟩, ⟨[(1000, .ref 1000000000 0)], [.var 0 tI, .box 1000000000 (.agg (.pair (.ref 1000000000 0) (.own 501000))), .arr 501000 (.int .u8)]⟩, 1⟩

def L_strings_Builder_String : Lend := ⟨⟨[(0, .ref 1000000000 0)], [.box 1000000000 (.agg (.pair (.ref 1000000000 0) (.own 700000))), .arr 700000 (.int .u8)]⟩, ⟨[(1000, .ref 1000000000 0)], [.var 0 (.str), .box 1000000000 (.agg (.pair (.ref 1000000000 0) (.own 700000)))]⟩, 1⟩

def L_strings_Builder_WriteString_v0 : Lend := ⟨⟨[(0, .ref 1000000000 0)], [.var 1 (.str), .box 1000000000 (.agg (.pair (.cst .nilPtr) (.own 700000))), .arr 700000 (.int .u8)]⟩, ⟨[(1, .cst .nilIf), (1000, .ref 1000000000 0)], [.var 0 tI, .box 1000000000 (.agg (.pair (.ref 1000000000 0) (.own 501000))), .arr 501000 (.int .u8)]⟩, 2⟩

def L_strings_Builder_WriteString_v1 : Lend := ⟨⟨[(0, .ref 1000000000 0)], [.var 1 (.str), .box 1000000000 (.agg (.pair (.ref 1000000000 0) (.own 700000))), .arr 700000 (.int .u8)]⟩, ⟨[(1, .cst .nilIf), (1000, .ref 1000000000 0)], [.var 0 tI, .box 1000000000 (.agg (.pair (.ref 1000000000 0) (.own 501000))), .arr 501000 (.int .u8)]⟩, 2⟩

end Go.Proofs.Pf

namespace Go.Proofs.Pf

open Go Go.VM

/-- A loop over the numbers below `n`: its state is `f i s` at the start of round `i`. -/
theorem rangeB {T S : Type} {step : (T → Prop) → T → Prop} {p0 : T} {n : Nat} (f : Nat → S → T) (Inv : Nat → S → Prop) {B : (T → Prop) → Nat → S → Prop} {E : (T → Prop) → Nat → S → Prop} (s0 : S) (h0 : p0 = f 0 s0) (hI : Inv 0 s0)
    (ix : T → Nat) (hix : ∀ i s, ix (f i s) = i) (hs : ∀ k i s, step k (f i s) = brV (decide ((i : Int) < (n : Int))) (B k i s) (E k i s))
    (hb : ∀ k i s, i < n → Inv i s → (∀ s', Inv (i + 1) s' → k (f (i + 1) s')) → B k i s) (he : ∀ k s, Inv n s → E k n s) : loopV T step p0 := by
  refine loopE (fun p => ∃ i s, p = f i s ∧ i ≤ n ∧ Inv i s) (fun p => n - ix p) ⟨0, s0, h0, Nat.zero_le _, hI⟩ ?_
  rintro _ ⟨i, s, rfl, hi, hx⟩
  rw [hs]
  refine brV_iff.2 ⟨fun hc => ?_, fun hc => ?_⟩
  · have hc : (i : Int) < (n : Int) := dec_t hc
    have hc : i < n := by omega
    refine hb _ i s hc hx fun s' h' => ⟨⟨i + 1, s', rfl, hc, h'⟩, ?_⟩
    rw [hix, hix]; omega
  · have hc : ¬ (i : Int) < (n : Int) := dec_f hc
    obtain rfl : i = n := by omega
    exact he _ s hx

theorem br_t {b : Bool} {A B : Prop} (h : b = true) (hA : A) : brV b A B := by subst h; exact hA

theorem br_f {b : Bool} {A B : Prop} (h : b = false) (hB : B) : brV b A B := by subst h; exact hB

theorem br_c {b : Bool} {A B : Prop} (h1 : b = true → A) (h2 : b = false → B) : brV b A B := brV_iff.2 ⟨h1, h2⟩

def optL {α : Type} (l : List α) : Option (List α) := bif l.isEmpty then none else some l

theorem optL_get {α : Type} (l : List α) : (optL l).getD [] = l := by cases l <;> rfl

theorem optL_app {α : Type} (l : List α) (x : α) : appL (optL l) [x] = optL (l ++ [x]) := by cases l <;> rfl

/-- An index of a slice. -/
theorem in_s {α : Type} {l : Option (List α)} {i : Nat} (h : i < (l.getD []).length) : inS l (i : Int) := ⟨by omega, by omega⟩

theorem wi1 {i n : Nat} (h : i < n) (hn : n ≤ 4611686018427387904) : IntKind.wrap IntKind.i64 ((i : Int) + 1) = ((i + 1 : Nat) : Int) := by rw [wi64 (by omega) (by omega)]; rfl

/-- The first `n` values of a function. -/
abbrev tab {α : Type} (f : Nat → α) (n : Nat) : List α := (List.range n).map f

theorem tab_succ {α : Type} (f : Nat → α) (n : Nat) : tab f (n + 1) = tab f n ++ [f n] := by simp [tab, List.range_succ]

theorem tab_len {α : Type} (f : Nat → α) (n : Nat) : (tab f n).length = n := by simp [tab]

theorem tab_get {α : Type} (f : Nat → α) (n i : Nat) (d : α) (h : i < n) : (tab f n).getD i d = f i := by
  simp [tab, List.getD, List.getElem?_range h]

end Go.Proofs.Pf
