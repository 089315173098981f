/- What the code of each function comes to. -/
import Derived.Test.YtafjapndilbfcaaC
set_option linter.unusedVariables false
set_option linter.unusedSimpArgs false
namespace Go.Proofs.Pf
open Go Go.VM
set_option maxRecDepth 100000
def an_num_Add : Ann := .nil
theorem w_num_Add {Q : ((Int × Int) × (Int × Unit)) → Prop} (a : (Int × Int)) (b : (Int × Int)) (hQ : ∃ r, Q r) (h :
  (callV Pg c_num_with [⟨tNum, a⟩, ⟨tNum, b⟩, ⟨(.cst (.fn 47)), ()⟩] (.tup (.pair tNum (.pair tI .unit))) (fun p0 => (Q (p0.1, (p0.2.1, ())))))) :
  callV Pg c_num_Add [⟨tNum, a⟩, ⟨tNum, b⟩] (.tup (.pair tNum (.pair tI .unit))) Q :=
  callV_of (c := bodyOf f_num_Add) (ann := an_num_Add) e_num_Add rfl r_num_Add rfl rfl hQ (kcast (by kernel_rfl) h)

def an_num_Div : Ann := (.seq .nil (.seq (.blk none (.seq (.reg [] [] (some ⟨[(2, .ref 2 0), (3, .ref 3 0), (4, .ref 4 0)], [.var 6 (.bool), .box 2 (.agg (.pair (.int .i64) (.int .i64))), .box 3 (.agg (.pair (.int .i64) (.int .i64))), .box 4 (.agg (.pair (.int .i64) (.int .i64)))]⟩)) .nil)) .nil))
theorem w_num_Div {Q : ((Int × Int) × (Int × Unit)) → Prop} (a : (Int × Int)) (b : (Int × Int)) (hQ : ∃ r, Q r) (h :
  (joinV (Bool × ((Int × Int) × ((Int × Int) × (Int × Int)))) (fun p0 => (brV p0.1 (Q (((0 : Int), (0 : Int)), ((1 : Int), ()))) (brV (decide (p0.2.2.1.1 = (0 : Int))) (Q (((0 : Int), (0 : Int)), ((5 : Int), ()))) (callV Pg c_num_with [⟨tNum, p0.2.1⟩, ⟨tNum, p0.2.2.1⟩, ⟨(.cst (.fn 49)), ()⟩] (.tup (.pair tNum (.pair tI .unit))) (fun p1 => (Q (p1.1, (p1.2.1, ())))))))) (fun k0 => (callV Pg c_num_Valid [⟨tNum, a⟩] .bool (fun p1 => (brV (notB p1) (k0 (true, (a, (b, ((0 : Int), (0 : Int)))))) (callV Pg c_num_Valid [⟨tNum, b⟩] .bool (fun p2 => (k0 ((notB p2), (a, (b, ((0 : Int), (0 : Int)))))))))))))) :
  callV Pg c_num_Div [⟨tNum, a⟩, ⟨tNum, b⟩] (.tup (.pair tNum (.pair tI .unit))) Q :=
  callV_of (c := bodyOf f_num_Div) (ann := an_num_Div) e_num_Div rfl r_num_Div rfl rfl hQ (kcast (by kernel_rfl) h)

def an_num_Make : Ann := .nil
theorem w_num_Make {Q : ((Int × Int) × (Int × Unit)) → Prop} (a : Int) (b : Int) (hQ : ∃ r, Q r) (h :
  (brV (decide (b = (0 : Int))) (Q (((0 : Int), (0 : Int)), ((6 : Int), ()))) (callV Pg c_exact_Of [⟨tI, a⟩] tEI (fun p0 => (callV Pg c_exact_Of [⟨tI, b⟩] tEI (fun p1 => (callV Pg c_exact_Ratio [⟨tEI, p0⟩, ⟨tEI, p1⟩] tER (fun p2 => (callV Pg c_num_Out [⟨tER, (p2.1, p2.2)⟩] (.tup (.pair tNum (.pair tI .unit))) (fun p3 => (Q (p3.1, (p3.2.1, ()))))))))))))) :
  callV Pg c_num_Make [⟨tI, a⟩, ⟨tI, b⟩] (.tup (.pair tNum (.pair tI .unit))) Q :=
  callV_of (c := bodyOf f_num_Make) (ann := an_num_Make) e_num_Make rfl r_num_Make rfl rfl hQ (kcast (by kernel_rfl) h)

def an_num_Mul : Ann := .nil
theorem w_num_Mul {Q : ((Int × Int) × (Int × Unit)) → Prop} (a : (Int × Int)) (b : (Int × Int)) (hQ : ∃ r, Q r) (h :
  (callV Pg c_num_with [⟨tNum, a⟩, ⟨tNum, b⟩, ⟨(.cst (.fn 37)), ()⟩] (.tup (.pair tNum (.pair tI .unit))) (fun p0 => (Q (p0.1, (p0.2.1, ())))))) :
  callV Pg c_num_Mul [⟨tNum, a⟩, ⟨tNum, b⟩] (.tup (.pair tNum (.pair tI .unit))) Q :=
  callV_of (c := bodyOf f_num_Mul) (ann := an_num_Mul) e_num_Mul rfl r_num_Mul rfl rfl hQ (kcast (by kernel_rfl) h)

def an_num_Out : Ann := (.seq .nil (.seq .nil (.seq .nil (.seq (.seq (.reg [] [] (some ⟨[(2, .ref 2 0)], [.var 4 (.int .i64), .var 6 (.int .i64), .var 25 (.bool), .box 2 (.agg (.pair (.int .i64) (.int .i64)))]⟩)) .nil) .nil))))
theorem w_num_Out {Q : ((Int × Int) × (Int × Unit)) → Prop} (a : ((Int × (Option (List Int))) × (Int × (Option (List Int))))) (hQ : ∃ r, Q r) (h :
  (callV Pg c_exact_Rat_Top [⟨tER, (a.1, a.2)⟩] tEI (fun p0 => (callV Pg c_exact_Int_Int [⟨tEI, p0⟩, ⟨tI, (1152921504606846976 : Int)⟩] (.tup (.pair tI (.pair .bool .unit))) (fun p1 => (callV Pg c_exact_Rat_Low [⟨tER, (a.1, a.2)⟩] tEI (fun p2 => (callV Pg c_exact_Int_Int [⟨tEI, p2⟩, ⟨tI, (1152921504606846976 : Int)⟩] (.tup (.pair tI (.pair .bool .unit))) (fun p3 => (joinV (Int × (Int × (Bool × (Int × Int)))) (fun p4 => (brV p4.2.2.1 (Q (((0 : Int), (0 : Int)), ((3 : Int), ()))) (Q ((p4.1, p4.2.1), ((0 : Int), ()))))) (fun k4 => (brV (notB p1.2.1) (k4 (p1.1, (p3.1, (true, ((0 : Int), (0 : Int)))))) (k4 (p1.1, (p3.1, ((notB p3.2.1), ((0 : Int), (0 : Int)))))))))))))))))) :
  callV Pg c_num_Out [⟨tER, a⟩] (.tup (.pair tNum (.pair tI .unit))) Q :=
  callV_of (c := bodyOf f_num_Out) (ann := an_num_Out) e_num_Out rfl r_num_Out rfl rfl hQ (kcast (by kernel_rfl) h)

def an_num_Pow : Ann := (.seq .nil (.seq (.blk none (.seq .nil (.cond none .nil (.seq (.reg [] [] (some ⟨[(2, .ref 2 0), (4, .ref 4 0)], [.var 1 (.int .i64), .var 15 (.bool), .box 2 (.agg (.pair (.int .i64) (.int .i64))), .box 4 (.agg (.pair (.int .i64) (.int .i64)))]⟩)) .nil)))) (.seq .nil (.seq (.seq .nil (.blk none (.loop ⟨[(2, .ref 2 0), (4, .ref 4 0), (6, .ref 6 0), (7, .ref 7 0)], [.var 26 (.int .i64), .var 27 (.int .i64), .box 2 (.agg (.pair (.int .i64) (.int .i64))), .box 4 (.agg (.pair (.int .i64) (.int .i64))), .box 6 (.agg (.pair (.agg (.pair (.int .i64) (.sl (.int .u32)))) (.agg (.pair (.int .i64) (.sl (.int .u32)))))), .box 7 (.agg (.pair (.agg (.pair (.int .i64) (.sl (.int .u32)))) (.agg (.pair (.int .i64) (.sl (.int .u32))))))]⟩ (.seq .nil (.seq .nil (.seq (.blk none (.seq .nil (.seq .nil (.seq (.reg [] [] (some ⟨[(2, .ref 2 0), (4, .ref 4 0), (6, .ref 6 0), (7, .ref 7 0)], [.var 9 (.int .i64), .var 26 (.int .i64), .var 27 (.int .i64), .var 43 (.bool), .box 2 (.agg (.pair (.int .i64) (.int .i64))), .box 4 (.agg (.pair (.int .i64) (.int .i64))), .box 6 (.agg (.pair (.agg (.pair (.int .i64) (.sl (.int .u32)))) (.agg (.pair (.int .i64) (.sl (.int .u32)))))), .box 7 (.agg (.pair (.agg (.pair (.int .i64) (.sl (.int .u32)))) (.agg (.pair (.int .i64) (.sl (.int .u32))))))]⟩)) .nil)))) .nil)))))) .nil))))
theorem w_num_Pow {Q : ((Int × Int) × (Int × Unit)) → Prop} (a : (Int × Int)) (b : Int) (hQ : ∃ r, Q r) (h :
  (callV Pg c_num_Valid [⟨tNum, a⟩] .bool (fun p0 => (brV (notB p0) (Q (((0 : Int), (0 : Int)), ((1 : Int), ()))) (joinV (Int × (Bool × ((Int × Int) × (Int × Int)))) (fun p1 => (brV p1.2.1 (Q (((0 : Int), (0 : Int)), ((6 : Int), ()))) (callV Pg c_num_Rat [⟨tNum, p1.2.2.1⟩] tER (fun p2 => (callV Pg c_exact_Whole [⟨tI, (1 : Int)⟩] tER (fun p3 => (loopV (Int × (Int × ((Int × Int) × ((Int × Int) × (((Int × (Option (List Int))) × (Int × (Option (List Int)))) × ((Int × (Option (List Int))) × (Int × (Option (List Int))))))))) (fun k4 => (fun p5 => (brV (decide (p5.2.1 < p5.1)) (callV Pg c_exact_Rat_Mul [⟨tER, (p5.2.2.2.2.2.1, p5.2.2.2.2.2.2)⟩, ⟨tER, (p5.2.2.2.2.1.1, p5.2.2.2.2.1.2)⟩] tER (fun p6 => (callV Pg c_num_Out [⟨tER, (p6.1, p6.2)⟩] (.tup (.pair tNum (.pair tI .unit))) (fun p7 => (joinV (Int × (Int × (Int × (Bool × ((Int × Int) × ((Int × Int) × (((Int × (Option (List Int))) × (Int × (Option (List Int)))) × ((Int × (Option (List Int))) × (Int × (Option (List Int))))))))))) (fun p8 => (brV p8.2.2.2.1 (Q (((0 : Int), (0 : Int)), (p8.1, ()))) (k4 (p8.2.1, ((IntKind.wrap IntKind.i64 (p8.2.2.1 + (1 : Int))), (p8.2.2.2.2.1, (p8.2.2.2.2.2.1, ((p8.2.2.2.2.2.2.1.1, p8.2.2.2.2.2.2.1.2), (p8.2.2.2.2.2.2.2.1, p8.2.2.2.2.2.2.2.2))))))))) (fun k8 => (brV (notB (decide (p7.2.1 = (0 : Int)))) (k8 (p7.2.1, (p5.1, (p5.2.1, ((notB (decide (p5.2.2.1.1 = (0 : Int)))), (p5.2.2.1, (p5.2.2.2.1, ((p5.2.2.2.2.1.1, p5.2.2.2.2.1.2), (p6.1, p6.2))))))))) (k8 (p7.2.1, (p5.1, (p5.2.1, (false, (p5.2.2.1, (p5.2.2.2.1, ((p5.2.2.2.2.1.1, p5.2.2.2.2.1.2), (p6.1, p6.2)))))))))))))))) (callV Pg c_num_Out [⟨tER, (p5.2.2.2.2.2.1, p5.2.2.2.2.2.2)⟩] (.tup (.pair tNum (.pair tI .unit))) (fun p6 => (Q (p6.1, (p6.2.1, ())))))))) (p1.1, ((0 : Int), (p1.2.2.1, (p1.2.2.2, ((p2.1, p2.2), (p3.1, p3.2))))))))))))) (fun k1 => (brV (decide (b < (0 : Int))) (k1 (b, (true, (a, ((0 : Int), (0 : Int)))))) (k1 (b, ((decide ((10000 : Int) < b)), (a, ((0 : Int), (0 : Int))))))))))))) :
  callV Pg c_num_Pow [⟨tNum, a⟩, ⟨tI, b⟩] (.tup (.pair tNum (.pair tI .unit))) Q :=
  callV_of (c := bodyOf f_num_Pow) (ann := an_num_Pow) e_num_Pow rfl r_num_Pow rfl rfl hQ (kcast (by kernel_rfl) h)

def an_num_Rat : Ann := .nil
theorem w_num_Rat {Q : ((Int × (Option (List Int))) × (Int × (Option (List Int)))) → Prop} (a : (Int × Int)) (hQ : ∃ r, Q r) (h :
  (callV Pg c_exact_Of [⟨tI, a.1⟩] tEI (fun p0 => (callV Pg c_exact_Of [⟨tI, a.2⟩] tEI (fun p1 => (callV Pg c_exact_Ratio [⟨tEI, p0⟩, ⟨tEI, p1⟩] tER (fun p2 => (Q (p2.1, p2.2))))))))) :
  callV Pg c_num_Rat [⟨tNum, a⟩] tER Q :=
  callV_of (c := bodyOf f_num_Rat) (ann := an_num_Rat) e_num_Rat rfl r_num_Rat rfl rfl hQ (kcast (by kernel_rfl) h)

def an_num_Sub : Ann := .nil
theorem w_num_Sub {Q : ((Int × Int) × (Int × Unit)) → Prop} (a : (Int × Int)) (b : (Int × Int)) (hQ : ∃ r, Q r) (h :
  (callV Pg c_num_with [⟨tNum, a⟩, ⟨tNum, b⟩, ⟨(.cst (.fn 48)), ()⟩] (.tup (.pair tNum (.pair tI .unit))) (fun p0 => (Q (p0.1, (p0.2.1, ())))))) :
  callV Pg c_num_Sub [⟨tNum, a⟩, ⟨tNum, b⟩] (.tup (.pair tNum (.pair tI .unit))) Q :=
  callV_of (c := bodyOf f_num_Sub) (ann := an_num_Sub) e_num_Sub rfl r_num_Sub rfl rfl hQ (kcast (by kernel_rfl) h)

def an_num_Valid : Ann := (.seq .nil (.seq (.seq (.reg [] [] (some ⟨[(1, .ref 1 0)], [.var 22 (.bool), .box 1 (.agg (.pair (.int .i64) (.int .i64)))]⟩)) .nil) .nil))
theorem w_num_Valid {Q : Bool → Prop} (a : (Int × Int)) (hQ : ∃ r, Q r) (h :
  (joinV (Bool × (Int × Int)) (fun p0 => (brV p0.1 (Q false) (callV Pg c_exact_Of [⟨tI, p0.2.1⟩] tEI (fun p1 => (callV Pg c_exact_Of [⟨tI, p0.2.2⟩] tEI (fun p2 => (callV Pg c_exact_Gcd [⟨tEI, p1⟩, ⟨tEI, p2⟩] tEI (fun p3 => (callV Pg c_exact_Int_Int [⟨tEI, p3⟩, ⟨tI, (1152921504606846976 : Int)⟩] (.tup (.pair tI (.pair .bool .unit))) (fun p4 => (Q (decide (p4.1 = (1 : Int)))))))))))))) (fun k0 => (brV (decide (a.2 < (1 : Int))) (k0 (true, a)) (brV (decide ((1152921504606846976 : Int) < a.2)) (k0 (true, a)) (brV (decide ((1152921504606846976 : Int) < a.1)) (k0 (true, a)) (k0 ((decide (a.1 < (-(1152921504606846976 : Int)))), a)))))))) :
  callV Pg c_num_Valid [⟨tNum, a⟩] .bool Q :=
  callV_of (c := bodyOf f_num_Valid) (ann := an_num_Valid) e_num_Valid rfl r_num_Valid rfl rfl hQ (kcast (by kernel_rfl) h)

def an_num_with_37 : Ann := (.seq .nil (.seq (.seq (.reg [] [] (some ⟨[(2, .cst (.fn 37)), (3, .ref 3 0), (4, .ref 4 0), (6, .ref 6 0)], [.var 15 (.bool), .box 3 (.agg (.pair (.int .i64) (.int .i64))), .box 4 (.agg (.pair (.int .i64) (.int .i64))), .box 6 (.agg (.pair (.int .i64) (.int .i64)))]⟩)) .nil) .nil))
theorem w_num_with_37 {Q : ((Int × Int) × (Int × Unit)) → Prop} (a : (Int × Int)) (b : (Int × Int)) (c : Unit) (hQ : ∃ r, Q r) (h :
  (joinV (Bool × ((Int × Int) × ((Int × Int) × (Int × Int)))) (fun p0 => (brV p0.1 (Q (((0 : Int), (0 : Int)), ((1 : Int), ()))) (callV Pg c_num_Rat [⟨tNum, p0.2.1⟩] tER (fun p1 => (callV Pg c_num_Rat [⟨tNum, p0.2.2.1⟩] tER (fun p2 => (callV Pg c_exact_Rat_Mul [⟨tER, (p1.1, p1.2)⟩, ⟨tER, (p2.1, p2.2)⟩] tER (fun p3 => (callV Pg c_num_Out [⟨tER, (p3.1, p3.2)⟩] (.tup (.pair tNum (.pair tI .unit))) (fun p4 => (Q (p4.1, (p4.2.1, ()))))))))))))) (fun k0 => (callV Pg c_num_Valid [⟨tNum, a⟩] .bool (fun p1 => (brV (notB p1) (k0 (true, (a, (b, ((0 : Int), (0 : Int)))))) (callV Pg c_num_Valid [⟨tNum, b⟩] .bool (fun p2 => (k0 ((notB p2), (a, (b, ((0 : Int), (0 : Int)))))))))))))) :
  callV Pg c_num_with [⟨tNum, a⟩, ⟨tNum, b⟩, ⟨(.cst (.fn 37)), c⟩] (.tup (.pair tNum (.pair tI .unit))) Q :=
  callV_of (c := bodyOf f_num_with) (ann := an_num_with_37) e_num_with rfl r_num_with rfl rfl hQ (kcast (by kernel_rfl) h)

def an_num_with_47 : Ann := (.seq .nil (.seq (.seq (.reg [] [] (some ⟨[(2, .cst (.fn 47)), (3, .ref 3 0), (4, .ref 4 0), (6, .ref 6 0)], [.var 15 (.bool), .box 3 (.agg (.pair (.int .i64) (.int .i64))), .box 4 (.agg (.pair (.int .i64) (.int .i64))), .box 6 (.agg (.pair (.int .i64) (.int .i64)))]⟩)) .nil) .nil))
theorem w_num_with_47 {Q : ((Int × Int) × (Int × Unit)) → Prop} (a : (Int × Int)) (b : (Int × Int)) (c : Unit) (hQ : ∃ r, Q r) (h :
  (joinV (Bool × ((Int × Int) × ((Int × Int) × (Int × Int)))) (fun p0 => (brV p0.1 (Q (((0 : Int), (0 : Int)), ((1 : Int), ()))) (callV Pg c_num_Rat [⟨tNum, p0.2.1⟩] tER (fun p1 => (callV Pg c_num_Rat [⟨tNum, p0.2.2.1⟩] tER (fun p2 => (callV Pg c_exact_Rat_Add [⟨tER, (p1.1, p1.2)⟩, ⟨tER, (p2.1, p2.2)⟩] tER (fun p3 => (callV Pg c_num_Out [⟨tER, (p3.1, p3.2)⟩] (.tup (.pair tNum (.pair tI .unit))) (fun p4 => (Q (p4.1, (p4.2.1, ()))))))))))))) (fun k0 => (callV Pg c_num_Valid [⟨tNum, a⟩] .bool (fun p1 => (brV (notB p1) (k0 (true, (a, (b, ((0 : Int), (0 : Int)))))) (callV Pg c_num_Valid [⟨tNum, b⟩] .bool (fun p2 => (k0 ((notB p2), (a, (b, ((0 : Int), (0 : Int)))))))))))))) :
  callV Pg c_num_with [⟨tNum, a⟩, ⟨tNum, b⟩, ⟨(.cst (.fn 47)), c⟩] (.tup (.pair tNum (.pair tI .unit))) Q :=
  callV_of (c := bodyOf f_num_with) (ann := an_num_with_47) e_num_with rfl r_num_with rfl rfl hQ (kcast (by kernel_rfl) h)

def an_num_with_48 : Ann := (.seq .nil (.seq (.seq (.reg [] [] (some ⟨[(2, .cst (.fn 48)), (3, .ref 3 0), (4, .ref 4 0), (6, .ref 6 0)], [.var 15 (.bool), .box 3 (.agg (.pair (.int .i64) (.int .i64))), .box 4 (.agg (.pair (.int .i64) (.int .i64))), .box 6 (.agg (.pair (.int .i64) (.int .i64)))]⟩)) .nil) .nil))
theorem w_num_with_48 {Q : ((Int × Int) × (Int × Unit)) → Prop} (a : (Int × Int)) (b : (Int × Int)) (c : Unit) (hQ : ∃ r, Q r) (h :
  (joinV (Bool × ((Int × Int) × ((Int × Int) × (Int × Int)))) (fun p0 => (brV p0.1 (Q (((0 : Int), (0 : Int)), ((1 : Int), ()))) (callV Pg c_num_Rat [⟨tNum, p0.2.1⟩] tER (fun p1 => (callV Pg c_num_Rat [⟨tNum, p0.2.2.1⟩] tER (fun p2 => (callV Pg c_exact_Rat_Sub [⟨tER, (p1.1, p1.2)⟩, ⟨tER, (p2.1, p2.2)⟩] tER (fun p3 => (callV Pg c_num_Out [⟨tER, (p3.1, p3.2)⟩] (.tup (.pair tNum (.pair tI .unit))) (fun p4 => (Q (p4.1, (p4.2.1, ()))))))))))))) (fun k0 => (callV Pg c_num_Valid [⟨tNum, a⟩] .bool (fun p1 => (brV (notB p1) (k0 (true, (a, (b, ((0 : Int), (0 : Int)))))) (callV Pg c_num_Valid [⟨tNum, b⟩] .bool (fun p2 => (k0 ((notB p2), (a, (b, ((0 : Int), (0 : Int)))))))))))))) :
  callV Pg c_num_with [⟨tNum, a⟩, ⟨tNum, b⟩, ⟨(.cst (.fn 48)), c⟩] (.tup (.pair tNum (.pair tI .unit))) Q :=
  callV_of (c := bodyOf f_num_with) (ann := an_num_with_48) e_num_with rfl r_num_with rfl rfl hQ (kcast (by kernel_rfl) h)

def an_num_with_49 : Ann := (.seq .nil (.seq (.seq (.reg [] [] (some ⟨[(2, .cst (.fn 49)), (3, .ref 3 0), (4, .ref 4 0), (6, .ref 6 0)], [.var 15 (.bool), .box 3 (.agg (.pair (.int .i64) (.int .i64))), .box 4 (.agg (.pair (.int .i64) (.int .i64))), .box 6 (.agg (.pair (.int .i64) (.int .i64)))]⟩)) .nil) .nil))
theorem w_num_with_49 {Q : ((Int × Int) × (Int × Unit)) → Prop} (a : (Int × Int)) (b : (Int × Int)) (c : Unit) (hQ : ∃ r, Q r) (h :
  (joinV (Bool × ((Int × Int) × ((Int × Int) × (Int × Int)))) (fun p0 => (brV p0.1 (Q (((0 : Int), (0 : Int)), ((1 : Int), ()))) (callV Pg c_num_Rat [⟨tNum, p0.2.1⟩] tER (fun p1 => (callV Pg c_num_Rat [⟨tNum, p0.2.2.1⟩] tER (fun p2 => (callV Pg c_exact_Rat_Div [⟨tER, (p1.1, p1.2)⟩, ⟨tER, (p2.1, p2.2)⟩] tER (fun p3 => (callV Pg c_num_Out [⟨tER, (p3.1, p3.2)⟩] (.tup (.pair tNum (.pair tI .unit))) (fun p4 => (Q (p4.1, (p4.2.1, ()))))))))))))) (fun k0 => (callV Pg c_num_Valid [⟨tNum, a⟩] .bool (fun p1 => (brV (notB p1) (k0 (true, (a, (b, ((0 : Int), (0 : Int)))))) (callV Pg c_num_Valid [⟨tNum, b⟩] .bool (fun p2 => (k0 ((notB p2), (a, (b, ((0 : Int), (0 : Int)))))))))))))) :
  callV Pg c_num_with [⟨tNum, a⟩, ⟨tNum, b⟩, ⟨(.cst (.fn 49)), c⟩] (.tup (.pair tNum (.pair tI .unit))) Q :=
  callV_of (c := bodyOf f_num_with) (ann := an_num_with_49) e_num_with rfl r_num_with rfl rfl hQ (kcast (by kernel_rfl) h)

end Go.Proofs.Pf

