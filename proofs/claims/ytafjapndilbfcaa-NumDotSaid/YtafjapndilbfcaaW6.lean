/- What the code of each function comes to. -/
import Derived.Test.YtafjapndilbfcaaC
set_option linter.unusedVariables false
set_option linter.unusedSimpArgs false
namespace Go.Proofs.Pf
open Go Go.VM
set_option maxRecDepth 100000
def an_ref01_Add : Ann := .nil
theorem w_ref01_Add {Q : ((Int × Int) × (Int × Unit)) → Prop} (a : (Int × Int)) (b : (Int × Int)) (hQ : ∃ r, Q r) (h :
  (callV Pg c_ref01_All [⟨(.sl tNum), (some [a, b])⟩] .bool (fun p0 => (brV (notB p0) (Q (((0 : Int), (0 : Int)), ((1 : Int), ()))) (callV Pg c_ref01_To [⟨tNum, a⟩] tRR (fun p1 => (callV Pg c_ref01_To [⟨tNum, b⟩] tRR (fun p2 => (callV Pg c_ref01_Rat_Plus [⟨tRR, ((p1.1.1, p1.1.2), (p1.2.1, p1.2.2))⟩, ⟨tRR, ((p2.1.1, p2.1.2), (p2.2.1, p2.2.2))⟩] tRR (fun p3 => (callV Pg c_ref01_Num [⟨tRR, ((p3.1.1, p3.1.2), (p3.2.1, p3.2.2))⟩] (.tup (.pair tNum (.pair tI .unit))) (fun p4 => (Q (p4.1, (p4.2.1, ()))))))))))))))) :
  callV Pg c_ref01_Add [⟨tNum, a⟩, ⟨tNum, b⟩] (.tup (.pair tNum (.pair tI .unit))) Q :=
  callV_of (c := bodyOf f_ref01_Add) (ann := an_ref01_Add) e_ref01_Add rfl r_ref01_Add rfl rfl hQ (kcast (by kernel_rfl) h)

def an_ref01_All : Ann := (.seq .nil (.seq (.seq .nil (.blk none (.loop ⟨[], [.var 5 (.sl (.agg (.pair (.int .i64) (.int .i64)))), .var 6 (.int .i64), .var 7 (.int .i64)]⟩ .nil))) .nil))
theorem w_ref01_All {Q : Bool → Prop} (a : (Option (List (Int × Int)))) (hQ : ∃ r, Q r) (h :
  (loopV ((Option (List (Int × Int))) × (Int × Int)) (fun k0 => (fun p1 => (brV (decide (p1.2.2 < p1.2.1)) ((inS p1.1 p1.2.2) ∧ (callV Pg c_ref01_Valid [⟨tNum, (eltS ((0 : Int), (0 : Int)) p1.1 p1.2.2)⟩] .bool (fun p2 => (brV (notB p2) (Q false) (k0 (p1.1, (p1.2.1, (IntKind.wrap IntKind.i64 (p1.2.2 + (1 : Int)))))))))) (Q true)))) (a, ((szSl a), (0 : Int))))) :
  callV Pg c_ref01_All [⟨(.sl tNum), a⟩] .bool Q :=
  callV_of (c := bodyOf f_ref01_All) (ann := an_ref01_All) e_ref01_All rfl r_ref01_All rfl rfl hQ (kcast (by kernel_rfl) h)

def an_ref01_Between : Ann := (.seq .nil (.seq (.blk none (.seq .nil (.cond none .nil (.seq .nil (.cond none .nil (.seq (.reg [] [] (some ⟨[(2, .ref 2 0), (3, .ref 3 0), (4, .ref 4 0)], [.var 21 (.bool), .box 2 (.agg (.pair (.int .i64) (.int .i64))), .box 3 (.agg (.pair (.int .i64) (.int .i64))), .box 4 (.agg (.pair (.int .i64) (.int .i64)))]⟩)) .nil)))))) .nil))
theorem w_ref01_Between {Q : ((Int × Int) × (Int × Unit)) → Prop} (a : (Int × Int)) (b : (Int × Int)) (hQ : ∃ r, Q r) (h :
  (callV Pg c_ref01_All [⟨(.sl tNum), (some [a, b])⟩] .bool (fun p0 => (brV (notB p0) (Q (((0 : Int), (0 : Int)), ((1 : Int), ()))) (callV Pg c_ref01_To [⟨tNum, a⟩] tRR (fun p1 => (callV Pg c_ref01_To [⟨tNum, b⟩] tRR (fun p2 => (callV Pg c_ref01_Rat_Compare [⟨tRR, ((p1.1.1, p1.1.2), (p1.2.1, p1.2.2))⟩, ⟨tRR, ((p2.1.1, p2.1.2), (p2.2.1, p2.2.2))⟩] tI (fun p3 => (brV (decide ((0 : Int) < p3)) (Q (((0 : Int), (0 : Int)), ((6 : Int), ()))) (joinV (Bool × ((Int × Int) × ((Int × Int) × (Int × Int)))) (fun p4 => (brV p4.1 (Q (((0 : Int), (1 : Int)), ((0 : Int), ()))) (brV (decide ((0 : Int) < p4.2.1.1)) (callV Pg c_ref01_To [⟨tNum, p4.2.1⟩] tRR (fun p5 => (callV Pg c_ref01_To [⟨tNum, p4.2.2.1⟩] tRR (fun p6 => (callV Pg c_ref01_simplest [⟨tRR, ((p5.1.1, p5.1.2), (p5.2.1, p5.2.2))⟩, ⟨tRR, ((p6.1.1, p6.1.2), (p6.2.1, p6.2.2))⟩] tRR (fun p7 => (callV Pg c_ref01_Num [⟨tRR, ((p7.1.1, p7.1.2), (p7.2.1, p7.2.2))⟩] (.tup (.pair tNum (.pair tI .unit))) (fun p8 => (Q (p8.1, (p8.2.1, ()))))))))))) (callV Pg c_ref01_To [⟨tNum, p4.2.2.1⟩] tRR (fun p5 => (callV Pg c_ref01_Rat_Minus [⟨tRR, ((p5.1.1, p5.1.2), (p5.2.1, p5.2.2))⟩] tRR (fun p6 => (callV Pg c_ref01_To [⟨tNum, p4.2.1⟩] tRR (fun p7 => (callV Pg c_ref01_Rat_Minus [⟨tRR, ((p7.1.1, p7.1.2), (p7.2.1, p7.2.2))⟩] tRR (fun p8 => (callV Pg c_ref01_simplest [⟨tRR, ((p6.1.1, p6.1.2), (p6.2.1, p6.2.2))⟩, ⟨tRR, ((p8.1.1, p8.1.2), (p8.2.1, p8.2.2))⟩] tRR (fun p9 => (callV Pg c_ref01_Rat_Minus [⟨tRR, ((p9.1.1, p9.1.2), (p9.2.1, p9.2.2))⟩] tRR (fun p10 => (callV Pg c_ref01_Num [⟨tRR, ((p10.1.1, p10.1.2), (p10.2.1, p10.2.2))⟩] (.tup (.pair tNum (.pair tI .unit))) (fun p11 => (Q (p11.1, (p11.2.1, ())))))))))))))))))))) (fun k4 => (brV (decide (a.1 ≤ (0 : Int))) (k4 ((decide ((0 : Int) ≤ b.1)), (a, (b, ((0 : Int), (0 : Int)))))) (k4 (false, (a, (b, ((0 : Int), (0 : Int)))))))))))))))))))) :
  callV Pg c_ref01_Between [⟨tNum, a⟩, ⟨tNum, b⟩] (.tup (.pair tNum (.pair tI .unit))) Q :=
  callV_of (c := bodyOf f_ref01_Between) (ann := an_ref01_Between) e_ref01_Between rfl r_ref01_Between rfl rfl hQ (kcast (by kernel_rfl) h)

def an_ref01_Cmp : Ann := .nil
theorem w_ref01_Cmp {Q : (Int × (Int × Unit)) → Prop} (a : (Int × Int)) (b : (Int × Int)) (hQ : ∃ r, Q r) (h :
  (callV Pg c_ref01_All [⟨(.sl tNum), (some [a, b])⟩] .bool (fun p0 => (brV (notB p0) (Q ((0 : Int), ((1 : Int), ()))) (callV Pg c_ref01_To [⟨tNum, a⟩] tRR (fun p1 => (callV Pg c_ref01_To [⟨tNum, b⟩] tRR (fun p2 => (callV Pg c_ref01_Rat_Compare [⟨tRR, ((p1.1.1, p1.1.2), (p1.2.1, p1.2.2))⟩, ⟨tRR, ((p2.1.1, p2.1.2), (p2.2.1, p2.2.2))⟩] tI (fun p3 => (Q (p3, ((0 : Int), ()))))))))))))) :
  callV Pg c_ref01_Cmp [⟨tNum, a⟩, ⟨tNum, b⟩] (.tup (.pair tI (.pair tI .unit))) Q :=
  callV_of (c := bodyOf f_ref01_Cmp) (ann := an_ref01_Cmp) e_ref01_Cmp rfl r_ref01_Cmp rfl rfl hQ (kcast (by kernel_rfl) h)

def an_ref01_Div : Ann := .nil
theorem w_ref01_Div {Q : ((Int × Int) × (Int × Unit)) → Prop} (a : (Int × Int)) (b : (Int × Int)) (hQ : ∃ r, Q r) (h :
  (callV Pg c_ref01_All [⟨(.sl tNum), (some [a, b])⟩] .bool (fun p0 => (brV (notB p0) (Q (((0 : Int), (0 : Int)), ((1 : Int), ()))) (brV (decide (b.1 = (0 : Int))) (Q (((0 : Int), (0 : Int)), ((5 : Int), ()))) (callV Pg c_ref01_To [⟨tNum, a⟩] tRR (fun p1 => (callV Pg c_ref01_To [⟨tNum, b⟩] tRR (fun p2 => (callV Pg c_ref01_Rat_Over [⟨tRR, ((p1.1.1, p1.1.2), (p1.2.1, p1.2.2))⟩, ⟨tRR, ((p2.1.1, p2.1.2), (p2.2.1, p2.2.2))⟩] tRR (fun p3 => (callV Pg c_ref01_Num [⟨tRR, ((p3.1.1, p3.1.2), (p3.2.1, p3.2.2))⟩] (.tup (.pair tNum (.pair tI .unit))) (fun p4 => (Q (p4.1, (p4.2.1, ())))))))))))))))) :
  callV Pg c_ref01_Div [⟨tNum, a⟩, ⟨tNum, b⟩] (.tup (.pair tNum (.pair tI .unit))) Q :=
  callV_of (c := bodyOf f_ref01_Div) (ann := an_ref01_Div) e_ref01_Div rfl r_ref01_Div rfl rfl hQ (kcast (by kernel_rfl) h)

def an_ref01_Dot : Ann := (.seq .nil (.seq (.blk none (.seq (.reg [] [] (some ⟨[(4, .ref 4 0)], [.var 0 (.sl (.agg (.pair (.int .i64) (.int .i64)))), .var 1 (.sl (.agg (.pair (.int .i64) (.int .i64)))), .var 8 (.bool), .box 4 (.agg (.pair (.int .i64) (.int .i64)))]⟩)) .nil)) (.seq .nil (.seq (.seq .nil (.blk none (.loop ⟨[(4, .ref 4 0), (6, .ref 6 0)], [.var 0 (.sl (.agg (.pair (.int .i64) (.int .i64)))), .var 1 (.sl (.agg (.pair (.int .i64) (.int .i64)))), .var 27 (.int .i64), .var 28 (.int .i64), .box 4 (.agg (.pair (.int .i64) (.int .i64))), .box 6 (.agg (.pair (.agg (.pair (.int .i64) (.pair (.bool) (.sl (.int .i64))))) (.agg (.pair (.int .i64) (.pair (.bool) (.sl (.int .i64)))))))]⟩ .nil))) .nil))))
theorem w_ref01_Dot {Q : ((Int × Int) × (Int × Unit)) → Prop} (a : (Option (List (Int × Int)))) (b : (Option (List (Int × Int)))) (hQ : ∃ r, Q r) (h :
  (joinV ((Option (List (Int × Int))) × ((Option (List (Int × Int))) × (Bool × (Int × Int)))) (fun p0 => (brV p0.2.2.1 (Q (((0 : Int), (0 : Int)), ((1 : Int), ()))) (brV (notB (decide ((szSl p0.1) = (szSl p0.2.1)))) (Q (((0 : Int), (0 : Int)), ((2 : Int), ()))) (callV Pg c_ref01_Whole [⟨tI, (0 : Int)⟩] tRR (fun p1 => (loopV ((Option (List (Int × Int))) × ((Option (List (Int × Int))) × (Int × (Int × ((Int × Int) × ((Int × (Bool × (Option (List Int)))) × (Int × (Bool × (Option (List Int)))))))))) (fun k2 => (fun p3 => (brV (decide (p3.2.2.2.1 < p3.2.2.1)) ((inS p3.1 p3.2.2.2.1) ∧ (callV Pg c_ref01_To [⟨tNum, (eltS ((0 : Int), (0 : Int)) p3.1 p3.2.2.2.1)⟩] tRR (fun p4 => ((inS p3.2.1 p3.2.2.2.1) ∧ (callV Pg c_ref01_To [⟨tNum, (eltS ((0 : Int), (0 : Int)) p3.2.1 p3.2.2.2.1)⟩] tRR (fun p5 => (callV Pg c_ref01_Rat_Times [⟨tRR, ((p4.1.1, p4.1.2), (p4.2.1, p4.2.2))⟩, ⟨tRR, ((p5.1.1, p5.1.2), (p5.2.1, p5.2.2))⟩] tRR (fun p6 => (callV Pg c_ref01_Rat_Plus [⟨tRR, ((p3.2.2.2.2.2.1.1, p3.2.2.2.2.2.1.2), (p3.2.2.2.2.2.2.1, p3.2.2.2.2.2.2.2))⟩, ⟨tRR, ((p6.1.1, p6.1.2), (p6.2.1, p6.2.2))⟩] tRR (fun p7 => (k2 (p3.1, (p3.2.1, (p3.2.2.1, ((IntKind.wrap IntKind.i64 (p3.2.2.2.1 + (1 : Int))), (p3.2.2.2.2.1, ((p7.1.1, p7.1.2), (p7.2.1, p7.2.2)))))))))))))))))) (callV Pg c_ref01_Num [⟨tRR, ((p3.2.2.2.2.2.1.1, p3.2.2.2.2.2.1.2), (p3.2.2.2.2.2.2.1, p3.2.2.2.2.2.2.2))⟩] (.tup (.pair tNum (.pair tI .unit))) (fun p4 => (Q (p4.1, (p4.2.1, ())))))))) (p0.1, (p0.2.1, ((szSl p0.1), ((0 : Int), (p0.2.2.2, ((p1.1.1, p1.1.2), (p1.2.1, p1.2.2))))))))))))) (fun k0 => (callV Pg c_ref01_All [⟨(.sl tNum), a⟩] .bool (fun p1 => (brV (notB p1) (k0 (a, (b, (true, ((0 : Int), (0 : Int)))))) (callV Pg c_ref01_All [⟨(.sl tNum), b⟩] .bool (fun p2 => (k0 (a, (b, ((notB p2), ((0 : Int), (0 : Int)))))))))))))) :
  callV Pg c_ref01_Dot [⟨(.sl tNum), a⟩, ⟨(.sl tNum), b⟩] (.tup (.pair tNum (.pair tI .unit))) Q :=
  callV_of (c := bodyOf f_ref01_Dot) (ann := an_ref01_Dot) e_ref01_Dot rfl r_ref01_Dot rfl rfl hQ (kcast (by kernel_rfl) h)

def an_ref01_Down : Ann := .nil
theorem w_ref01_Down {Q : (Int × (Bool × (Option (List Int)))) → Prop} (a : ((Int × (Bool × (Option (List Int)))) × (Int × (Bool × (Option (List Int)))))) (hQ : ∃ r, Q r) (h :
  (callV Pg c_ref01_Int_Over [⟨tRI, (a.1.1, a.1.2)⟩, ⟨tRI, (a.2.1, a.2.2)⟩] (.tup (.pair tRI (.pair tRI .unit))) (fun p0 => (callV Pg c_ref01_Int_Sign [⟨tRI, (p0.2.1.1, p0.2.1.2)⟩] tI (fun p1 => (brV (decide (p1 < (0 : Int))) (callV Pg c_ref01_Of [⟨tI, (1 : Int)⟩] tRI (fun p2 => (callV Pg c_ref01_Int_Less [⟨tRI, (p0.1.1, p0.1.2)⟩, ⟨tRI, (p2.1, p2.2)⟩] tRI (fun p3 => (Q (p3.1, p3.2)))))) (Q (p0.1.1, p0.1.2)))))))) :
  callV Pg c_ref01_Down [⟨tRR, a⟩] tRI Q :=
  callV_of (c := bodyOf f_ref01_Down) (ann := an_ref01_Down) e_ref01_Down rfl r_ref01_Down rfl rfl hQ (kcast (by kernel_rfl) h)

def an_ref01_Fraction : Ann := .nil
theorem w_ref01_Fraction {Q : ((Int × Int) × (Int × Unit)) → Prop} (a : Int) (b : Int) (hQ : ∃ r, Q r) (h :
  (brV (decide (b = (0 : Int))) (Q (((0 : Int), (0 : Int)), ((6 : Int), ()))) (callV Pg c_ref01_Of [⟨tI, a⟩] tRI (fun p0 => (callV Pg c_ref01_Of [⟨tI, b⟩] tRI (fun p1 => (callV Pg c_ref01_Make [⟨tRI, (p0.1, p0.2)⟩, ⟨tRI, (p1.1, p1.2)⟩] tRR (fun p2 => (callV Pg c_ref01_Num [⟨tRR, ((p2.1.1, p2.1.2), (p2.2.1, p2.2.2))⟩] (.tup (.pair tNum (.pair tI .unit))) (fun p3 => (Q (p3.1, (p3.2.1, ()))))))))))))) :
  callV Pg c_ref01_Fraction [⟨tI, a⟩, ⟨tI, b⟩] (.tup (.pair tNum (.pair tI .unit))) Q :=
  callV_of (c := bodyOf f_ref01_Fraction) (ann := an_ref01_Fraction) e_ref01_Fraction rfl r_ref01_Fraction rfl rfl hQ (kcast (by kernel_rfl) h)

def an_ref01_From : Ann := (.seq .nil (.seq .nil (.seq .nil (.seq (.seq (.reg [] [] (some ⟨[(2, .ref 2 0)], [.var 4 (.int .i64), .var 6 (.int .i64), .var 25 (.bool), .box 2 (.agg (.pair (.int .i64) (.int .i64)))]⟩)) .nil) .nil))))
theorem w_ref01_From {Q : ((Int × Int) × (Bool × Unit)) → Prop} (a : ((Int × (Bool × (Option (List Int)))) × (Int × (Bool × (Option (List Int)))))) (hQ : ∃ r, Q r) (h :
  (callV Pg c_ref01_Int_Small [⟨tRI, (a.1.1, a.1.2)⟩] (.tup (.pair tI (.pair .bool .unit))) (fun p0 => (callV Pg c_ref01_Int_Small [⟨tRI, (a.2.1, a.2.2)⟩] (.tup (.pair tI (.pair .bool .unit))) (fun p1 => (joinV (Int × (Int × (Bool × (Int × Int)))) (fun p2 => (brV p2.2.2.1 (Q (((0 : Int), (0 : Int)), (false, ()))) (Q ((p2.1, p2.2.1), (true, ()))))) (fun k2 => (brV (notB p0.2.1) (k2 (p0.1, (p1.1, (true, ((0 : Int), (0 : Int)))))) (k2 (p0.1, (p1.1, ((notB p1.2.1), ((0 : Int), (0 : Int)))))))))))))) :
  callV Pg c_ref01_From [⟨tRR, a⟩] (.tup (.pair tNum (.pair .bool .unit))) Q :=
  callV_of (c := bodyOf f_ref01_From) (ann := an_ref01_From) e_ref01_From rfl r_ref01_From rfl rfl hQ (kcast (by kernel_rfl) h)

def an_ref01_Light : Ann := (.seq .nil (.seq (.seq .nil (.blk none (.loop ⟨[], [.var 5 (.sl (.agg (.pair (.int .i64) (.int .i64)))), .var 6 (.int .i64), .var 7 (.int .i64)]⟩ .nil))) .nil))
theorem w_ref01_Light {Q : Bool → Prop} (a : (Option (List (Int × Int)))) (hQ : ∃ r, Q r) (h :
  (loopV ((Option (List (Int × Int))) × (Int × Int)) (fun k0 => (fun p1 => (brV (decide (p1.2.2 < p1.2.1)) ((inS p1.1 p1.2.2) ∧ (brV (decide ((4096 : Int) < (eltS ((0 : Int), (0 : Int)) p1.1 p1.2.2).2)) (Q false) (k0 (p1.1, (p1.2.1, (IntKind.wrap IntKind.i64 (p1.2.2 + (1 : Int)))))))) (Q true)))) (a, ((szSl a), (0 : Int))))) :
  callV Pg c_ref01_Light [⟨(.sl tNum), a⟩] .bool Q :=
  callV_of (c := bodyOf f_ref01_Light) (ann := an_ref01_Light) e_ref01_Light rfl r_ref01_Light rfl rfl hQ (kcast (by kernel_rfl) h)

def an_ref01_Make : Ann := (.seq .nil (.seq (.seq .nil (.cond (some ⟨[(2, .ref 2 0), (3, .ref 3 0), (4, .ref 4 0)], [.box 2 (.agg (.pair (.int .i64) (.pair (.bool) (.sl (.int .i64))))), .box 3 (.agg (.pair (.int .i64) (.pair (.bool) (.sl (.int .i64))))), .box 4 (.agg (.pair (.agg (.pair (.int .i64) (.pair (.bool) (.sl (.int .i64))))) (.agg (.pair (.int .i64) (.pair (.bool) (.sl (.int .i64)))))))]⟩) .nil .nil)) (.seq .nil (.seq (.seq .nil (.cond (some ⟨[(2, .ref 2 0), (3, .ref 3 0), (4, .ref 4 0)], [.box 2 (.agg (.pair (.int .i64) (.pair (.bool) (.sl (.int .i64))))), .box 3 (.agg (.pair (.int .i64) (.pair (.bool) (.sl (.int .i64))))), .box 4 (.agg (.pair (.agg (.pair (.int .i64) (.pair (.bool) (.sl (.int .i64))))) (.agg (.pair (.int .i64) (.pair (.bool) (.sl (.int .i64)))))))]⟩) .nil .nil)) .nil))))
theorem w_ref01_Make {Q : ((Int × (Bool × (Option (List Int)))) × (Int × (Bool × (Option (List Int))))) → Prop} (a : (Int × (Bool × (Option (List Int))))) (b : (Int × (Bool × (Option (List Int))))) (hQ : ∃ r, Q r) (h :
  (callV Pg c_ref01_Int_Sign [⟨tRI, (b.1, b.2)⟩] tI (fun p0 => (joinV ((Int × (Bool × (Option (List Int)))) × ((Int × (Bool × (Option (List Int)))) × ((Int × (Bool × (Option (List Int)))) × (Int × (Bool × (Option (List Int))))))) (fun p1 => (callV Pg c_ref01_Gcd [⟨tRI, (p1.1.1, p1.1.2)⟩, ⟨tRI, (p1.2.1.1, p1.2.1.2)⟩] tRI (fun p2 => (callV Pg c_ref01_Of [⟨tI, (1 : Int)⟩] tRI (fun p3 => (callV Pg c_ref01_Int_Compare [⟨tRI, (p2.1, p2.2)⟩, ⟨tRI, (p3.1, p3.2)⟩] tI (fun p4 => (joinV ((Int × (Bool × (Option (List Int)))) × ((Int × (Bool × (Option (List Int)))) × ((Int × (Bool × (Option (List Int)))) × (Int × (Bool × (Option (List Int))))))) (fun p5 => (Q ((p5.1.1, p5.1.2), (p5.2.1.1, p5.2.1.2)))) (fun k5 => (brV (notB (decide (p4 = (0 : Int)))) (callV Pg c_ref01_Int_Over [⟨tRI, (p1.1.1, p1.1.2)⟩, ⟨tRI, (p2.1, p2.2)⟩] (.tup (.pair tRI (.pair tRI .unit))) (fun p6 => (callV Pg c_ref01_Int_Over [⟨tRI, (p1.2.1.1, p1.2.1.2)⟩, ⟨tRI, (p2.1, p2.2)⟩] (.tup (.pair tRI (.pair tRI .unit))) (fun p7 => (k5 ((p6.1.1, p6.1.2), ((p7.1.1, p7.1.2), ((p1.2.2.1.1, p1.2.2.1.2), (p1.2.2.2.1, p1.2.2.2.2))))))))) (k5 ((p1.1.1, p1.1.2), ((p1.2.1.1, p1.2.1.2), ((p1.2.2.1.1, p1.2.2.1.2), (p1.2.2.2.1, p1.2.2.2.2))))))))))))))) (fun k1 => (brV (decide (p0 < (0 : Int))) (callV Pg c_ref01_Int_Minus [⟨tRI, (a.1, a.2)⟩] tRI (fun p2 => (callV Pg c_ref01_Int_Minus [⟨tRI, (b.1, b.2)⟩] tRI (fun p3 => (k1 ((p2.1, p2.2), ((p3.1, p3.2), (((0 : Int), (false, none)), ((0 : Int), (false, none)))))))))) (k1 ((a.1, a.2), ((b.1, b.2), (((0 : Int), (false, none)), ((0 : Int), (false, none)))))))))))) :
  callV Pg c_ref01_Make [⟨tRI, a⟩, ⟨tRI, b⟩] tRR Q :=
  callV_of (c := bodyOf f_ref01_Make) (ann := an_ref01_Make) e_ref01_Make rfl r_ref01_Make rfl rfl hQ (kcast (by kernel_rfl) h)

def an_ref01_Mul : Ann := .nil
theorem w_ref01_Mul {Q : ((Int × Int) × (Int × Unit)) → Prop} (a : (Int × Int)) (b : (Int × Int)) (hQ : ∃ r, Q r) (h :
  (callV Pg c_ref01_All [⟨(.sl tNum), (some [a, b])⟩] .bool (fun p0 => (brV (notB p0) (Q (((0 : Int), (0 : Int)), ((1 : Int), ()))) (callV Pg c_ref01_To [⟨tNum, a⟩] tRR (fun p1 => (callV Pg c_ref01_To [⟨tNum, b⟩] tRR (fun p2 => (callV Pg c_ref01_Rat_Times [⟨tRR, ((p1.1.1, p1.1.2), (p1.2.1, p1.2.2))⟩, ⟨tRR, ((p2.1.1, p2.1.2), (p2.2.1, p2.2.2))⟩] tRR (fun p3 => (callV Pg c_ref01_Num [⟨tRR, ((p3.1.1, p3.1.2), (p3.2.1, p3.2.2))⟩] (.tup (.pair tNum (.pair tI .unit))) (fun p4 => (Q (p4.1, (p4.2.1, ()))))))))))))))) :
  callV Pg c_ref01_Mul [⟨tNum, a⟩, ⟨tNum, b⟩] (.tup (.pair tNum (.pair tI .unit))) Q :=
  callV_of (c := bodyOf f_ref01_Mul) (ann := an_ref01_Mul) e_ref01_Mul rfl r_ref01_Mul rfl rfl hQ (kcast (by kernel_rfl) h)

def an_ref01_Num : Ann := .nil
theorem w_ref01_Num {Q : ((Int × Int) × (Int × Unit)) → Prop} (a : ((Int × (Bool × (Option (List Int)))) × (Int × (Bool × (Option (List Int)))))) (hQ : ∃ r, Q r) (h :
  (callV Pg c_ref01_From [⟨tRR, ((a.1.1, a.1.2), (a.2.1, a.2.2))⟩] (.tup (.pair tNum (.pair .bool .unit))) (fun p0 => (brV (notB p0.2.1) (Q (((0 : Int), (0 : Int)), ((3 : Int), ()))) (Q (p0.1, ((0 : Int), ()))))))) :
  callV Pg c_ref01_Num [⟨tRR, a⟩] (.tup (.pair tNum (.pair tI .unit))) Q :=
  callV_of (c := bodyOf f_ref01_Num) (ann := an_ref01_Num) e_ref01_Num rfl r_ref01_Num rfl rfl hQ (kcast (by kernel_rfl) h)

def an_ref01_Pow : Ann := (.seq .nil (.seq (.blk none (.seq .nil (.cond none .nil (.seq (.reg [] [] (some ⟨[(2, .ref 2 0), (4, .ref 4 0)], [.var 1 (.int .i64), .var 17 (.bool), .box 2 (.agg (.pair (.int .i64) (.int .i64))), .box 4 (.agg (.pair (.int .i64) (.int .i64)))]⟩)) .nil)))) (.seq .nil (.seq (.seq .nil (.blk none (.loop ⟨[(2, .ref 2 0), (4, .ref 4 0), (6, .ref 6 0), (7, .ref 7 0)], [.var 27 (.int .i64), .var 28 (.int .i64), .box 2 (.agg (.pair (.int .i64) (.int .i64))), .box 4 (.agg (.pair (.int .i64) (.int .i64))), .box 6 (.agg (.pair (.int .i64) (.pair (.bool) (.sl (.int .i64))))), .box 7 (.agg (.pair (.int .i64) (.pair (.bool) (.sl (.int .i64)))))]⟩ (.seq .nil (.seq .nil (.seq (.blk none (.seq .nil (.seq .nil (.seq .nil (.seq (.reg [] [] (some ⟨[(2, .ref 2 0), (4, .ref 4 0), (6, .ref 6 0), (7, .ref 7 0)], [.var 27 (.int .i64), .var 28 (.int .i64), .var 55 (.bool), .box 2 (.agg (.pair (.int .i64) (.int .i64))), .box 4 (.agg (.pair (.int .i64) (.int .i64))), .box 6 (.agg (.pair (.int .i64) (.pair (.bool) (.sl (.int .i64))))), .box 7 (.agg (.pair (.int .i64) (.pair (.bool) (.sl (.int .i64)))))]⟩)) .nil))))) .nil)))))) .nil))))
theorem w_ref01_Pow {Q : ((Int × Int) × (Int × Unit)) → Prop} (a : (Int × Int)) (b : Int) (hQ : ∃ r, Q r) (h :
  (callV Pg c_ref01_Valid [⟨tNum, a⟩] .bool (fun p0 => (brV (notB p0) (Q (((0 : Int), (0 : Int)), ((1 : Int), ()))) (joinV (Int × (Bool × ((Int × Int) × (Int × Int)))) (fun p1 => (brV p1.2.1 (Q (((0 : Int), (0 : Int)), ((6 : Int), ()))) (callV Pg c_ref01_Of [⟨tI, (1 : Int)⟩] tRI (fun p2 => (callV Pg c_ref01_Of [⟨tI, (1 : Int)⟩] tRI (fun p3 => (loopV (Int × (Int × ((Int × Int) × ((Int × Int) × ((Int × (Bool × (Option (List Int)))) × (Int × (Bool × (Option (List Int))))))))) (fun k4 => (fun p5 => (brV (decide (p5.2.1 < p5.1)) (callV Pg c_ref01_Of [⟨tI, p5.2.2.1.1⟩] tRI (fun p6 => (callV Pg c_ref01_Int_Times [⟨tRI, (p5.2.2.2.2.1.1, p5.2.2.2.2.1.2)⟩, ⟨tRI, (p6.1, p6.2)⟩] tRI (fun p7 => (callV Pg c_ref01_Of [⟨tI, p5.2.2.1.2⟩] tRI (fun p8 => (callV Pg c_ref01_Int_Times [⟨tRI, (p5.2.2.2.2.2.1, p5.2.2.2.2.2.2)⟩, ⟨tRI, (p8.1, p8.2)⟩] tRI (fun p9 => (callV Pg c_ref01_Int_Small [⟨tRI, (p7.1, p7.2)⟩] (.tup (.pair tI (.pair .bool .unit))) (fun p10 => (callV Pg c_ref01_Int_Small [⟨tRI, (p9.1, p9.2)⟩] (.tup (.pair tI (.pair .bool .unit))) (fun p11 => (joinV (Int × (Int × (Bool × ((Int × Int) × ((Int × Int) × ((Int × (Bool × (Option (List Int)))) × (Int × (Bool × (Option (List Int)))))))))) (fun p12 => (brV p12.2.2.1 (Q (((0 : Int), (0 : Int)), ((3 : Int), ()))) (k4 (p12.1, ((IntKind.wrap IntKind.i64 (p12.2.1 + (1 : Int))), (p12.2.2.2.1, (p12.2.2.2.2.1, ((p12.2.2.2.2.2.1.1, p12.2.2.2.2.2.1.2), (p12.2.2.2.2.2.2.1, p12.2.2.2.2.2.2.2))))))))) (fun k12 => (brV (notB p10.2.1) (k12 (p5.1, (p5.2.1, (true, (p5.2.2.1, (p5.2.2.2.1, ((p7.1, p7.2), (p9.1, p9.2)))))))) (k12 (p5.1, (p5.2.1, ((notB p11.2.1), (p5.2.2.1, (p5.2.2.2.1, ((p7.1, p7.2), (p9.1, p9.2))))))))))))))))))))))) (callV Pg c_ref01_Num [⟨tRR, ((p5.2.2.2.2.1.1, p5.2.2.2.2.1.2), (p5.2.2.2.2.2.1, p5.2.2.2.2.2.2))⟩] (.tup (.pair tNum (.pair tI .unit))) (fun p6 => (Q (p6.1, (p6.2.1, ())))))))) (p1.1, ((0 : Int), (p1.2.2.1, (p1.2.2.2, ((p2.1, p2.2), (p3.1, p3.2))))))))))))) (fun k1 => (brV (decide (b < (0 : Int))) (k1 (b, (true, (a, ((0 : Int), (0 : Int)))))) (k1 (b, ((decide ((10000 : Int) < b)), (a, ((0 : Int), (0 : Int))))))))))))) :
  callV Pg c_ref01_Pow [⟨tNum, a⟩, ⟨tI, b⟩] (.tup (.pair tNum (.pair tI .unit))) Q :=
  callV_of (c := bodyOf f_ref01_Pow) (ann := an_ref01_Pow) e_ref01_Pow rfl r_ref01_Pow rfl rfl hQ (kcast (by kernel_rfl) h)

def an_ref01_Rat_Compare : Ann := .nil
theorem w_ref01_Rat_Compare {Q : Int → Prop} (a : ((Int × (Bool × (Option (List Int)))) × (Int × (Bool × (Option (List Int)))))) (b : ((Int × (Bool × (Option (List Int)))) × (Int × (Bool × (Option (List Int)))))) (hQ : ∃ r, Q r) (h :
  (callV Pg c_ref01_Rat_Less [⟨tRR, ((a.1.1, a.1.2), (a.2.1, a.2.2))⟩, ⟨tRR, ((b.1.1, b.1.2), (b.2.1, b.2.2))⟩] tRR (fun p0 => (callV Pg c_ref01_Rat_Sign [⟨tRR, ((p0.1.1, p0.1.2), (p0.2.1, p0.2.2))⟩] tI (fun p1 => (Q p1)))))) :
  callV Pg c_ref01_Rat_Compare [⟨tRR, a⟩, ⟨tRR, b⟩] tI Q :=
  callV_of (c := bodyOf f_ref01_Rat_Compare) (ann := an_ref01_Rat_Compare) e_ref01_Rat_Compare rfl r_ref01_Rat_Compare rfl rfl hQ (kcast (by kernel_rfl) h)

def an_ref01_Rat_Less : Ann := .nil
theorem w_ref01_Rat_Less {Q : ((Int × (Bool × (Option (List Int)))) × (Int × (Bool × (Option (List Int))))) → Prop} (a : ((Int × (Bool × (Option (List Int)))) × (Int × (Bool × (Option (List Int)))))) (b : ((Int × (Bool × (Option (List Int)))) × (Int × (Bool × (Option (List Int)))))) (hQ : ∃ r, Q r) (h :
  (callV Pg c_ref01_Rat_Minus [⟨tRR, ((b.1.1, b.1.2), (b.2.1, b.2.2))⟩] tRR (fun p0 => (callV Pg c_ref01_Rat_Plus [⟨tRR, ((a.1.1, a.1.2), (a.2.1, a.2.2))⟩, ⟨tRR, ((p0.1.1, p0.1.2), (p0.2.1, p0.2.2))⟩] tRR (fun p1 => (Q ((p1.1.1, p1.1.2), (p1.2.1, p1.2.2)))))))) :
  callV Pg c_ref01_Rat_Less [⟨tRR, a⟩, ⟨tRR, b⟩] tRR Q :=
  callV_of (c := bodyOf f_ref01_Rat_Less) (ann := an_ref01_Rat_Less) e_ref01_Rat_Less rfl r_ref01_Rat_Less rfl rfl hQ (kcast (by kernel_rfl) h)

def an_ref01_Rat_Minus : Ann := .nil
theorem w_ref01_Rat_Minus {Q : ((Int × (Bool × (Option (List Int)))) × (Int × (Bool × (Option (List Int))))) → Prop} (a : ((Int × (Bool × (Option (List Int)))) × (Int × (Bool × (Option (List Int)))))) (hQ : ∃ r, Q r) (h :
  (callV Pg c_ref01_Int_Minus [⟨tRI, (a.1.1, a.1.2)⟩] tRI (fun p0 => (Q ((p0.1, p0.2), (a.2.1, a.2.2)))))) :
  callV Pg c_ref01_Rat_Minus [⟨tRR, a⟩] tRR Q :=
  callV_of (c := bodyOf f_ref01_Rat_Minus) (ann := an_ref01_Rat_Minus) e_ref01_Rat_Minus rfl r_ref01_Rat_Minus rfl rfl hQ (kcast (by kernel_rfl) h)

def an_ref01_Rat_Over : Ann := .nil
theorem w_ref01_Rat_Over {Q : ((Int × (Bool × (Option (List Int)))) × (Int × (Bool × (Option (List Int))))) → Prop} (a : ((Int × (Bool × (Option (List Int)))) × (Int × (Bool × (Option (List Int)))))) (b : ((Int × (Bool × (Option (List Int)))) × (Int × (Bool × (Option (List Int)))))) (hQ : ∃ r, Q r) (h :
  (callV Pg c_ref01_Int_Times [⟨tRI, (a.1.1, a.1.2)⟩, ⟨tRI, (b.2.1, b.2.2)⟩] tRI (fun p0 => (callV Pg c_ref01_Int_Times [⟨tRI, (a.2.1, a.2.2)⟩, ⟨tRI, (b.1.1, b.1.2)⟩] tRI (fun p1 => (callV Pg c_ref01_Make [⟨tRI, (p0.1, p0.2)⟩, ⟨tRI, (p1.1, p1.2)⟩] tRR (fun p2 => (Q ((p2.1.1, p2.1.2), (p2.2.1, p2.2.2)))))))))) :
  callV Pg c_ref01_Rat_Over [⟨tRR, a⟩, ⟨tRR, b⟩] tRR Q :=
  callV_of (c := bodyOf f_ref01_Rat_Over) (ann := an_ref01_Rat_Over) e_ref01_Rat_Over rfl r_ref01_Rat_Over rfl rfl hQ (kcast (by kernel_rfl) h)

def an_ref01_Rat_Plus : Ann := .nil
theorem w_ref01_Rat_Plus {Q : ((Int × (Bool × (Option (List Int)))) × (Int × (Bool × (Option (List Int))))) → Prop} (a : ((Int × (Bool × (Option (List Int)))) × (Int × (Bool × (Option (List Int)))))) (b : ((Int × (Bool × (Option (List Int)))) × (Int × (Bool × (Option (List Int)))))) (hQ : ∃ r, Q r) (h :
  (callV Pg c_ref01_Int_Times [⟨tRI, (a.1.1, a.1.2)⟩, ⟨tRI, (b.2.1, b.2.2)⟩] tRI (fun p0 => (callV Pg c_ref01_Int_Times [⟨tRI, (b.1.1, b.1.2)⟩, ⟨tRI, (a.2.1, a.2.2)⟩] tRI (fun p1 => (callV Pg c_ref01_Int_Plus [⟨tRI, (p0.1, p0.2)⟩, ⟨tRI, (p1.1, p1.2)⟩] tRI (fun p2 => (callV Pg c_ref01_Int_Times [⟨tRI, (a.2.1, a.2.2)⟩, ⟨tRI, (b.2.1, b.2.2)⟩] tRI (fun p3 => (callV Pg c_ref01_Make [⟨tRI, (p2.1, p2.2)⟩, ⟨tRI, (p3.1, p3.2)⟩] tRR (fun p4 => (Q ((p4.1.1, p4.1.2), (p4.2.1, p4.2.2)))))))))))))) :
  callV Pg c_ref01_Rat_Plus [⟨tRR, a⟩, ⟨tRR, b⟩] tRR Q :=
  callV_of (c := bodyOf f_ref01_Rat_Plus) (ann := an_ref01_Rat_Plus) e_ref01_Rat_Plus rfl r_ref01_Rat_Plus rfl rfl hQ (kcast (by kernel_rfl) h)

def an_ref01_Rat_Sign : Ann := .nil
theorem w_ref01_Rat_Sign {Q : Int → Prop} (a : ((Int × (Bool × (Option (List Int)))) × (Int × (Bool × (Option (List Int)))))) (hQ : ∃ r, Q r) (h :
  (callV Pg c_ref01_Int_Sign [⟨tRI, (a.1.1, a.1.2)⟩] tI (fun p0 => (Q p0)))) :
  callV Pg c_ref01_Rat_Sign [⟨tRR, a⟩] tI Q :=
  callV_of (c := bodyOf f_ref01_Rat_Sign) (ann := an_ref01_Rat_Sign) e_ref01_Rat_Sign rfl r_ref01_Rat_Sign rfl rfl hQ (kcast (by kernel_rfl) h)

def an_ref01_Rat_Times : Ann := .nil
theorem w_ref01_Rat_Times {Q : ((Int × (Bool × (Option (List Int)))) × (Int × (Bool × (Option (List Int))))) → Prop} (a : ((Int × (Bool × (Option (List Int)))) × (Int × (Bool × (Option (List Int)))))) (b : ((Int × (Bool × (Option (List Int)))) × (Int × (Bool × (Option (List Int)))))) (hQ : ∃ r, Q r) (h :
  (callV Pg c_ref01_Int_Times [⟨tRI, (a.1.1, a.1.2)⟩, ⟨tRI, (b.1.1, b.1.2)⟩] tRI (fun p0 => (callV Pg c_ref01_Int_Times [⟨tRI, (a.2.1, a.2.2)⟩, ⟨tRI, (b.2.1, b.2.2)⟩] tRI (fun p1 => (callV Pg c_ref01_Make [⟨tRI, (p0.1, p0.2)⟩, ⟨tRI, (p1.1, p1.2)⟩] tRR (fun p2 => (Q ((p2.1.1, p2.1.2), (p2.2.1, p2.2.2)))))))))) :
  callV Pg c_ref01_Rat_Times [⟨tRR, a⟩, ⟨tRR, b⟩] tRR Q :=
  callV_of (c := bodyOf f_ref01_Rat_Times) (ann := an_ref01_Rat_Times) e_ref01_Rat_Times rfl r_ref01_Rat_Times rfl rfl hQ (kcast (by kernel_rfl) h)

def an_ref01_Same : Ann := (.seq .nil (.seq .nil (.seq (.seq .nil (.blk none (.loop ⟨[], [.var 0 (.sl (.agg (.pair (.int .i64) (.int .i64)))), .var 1 (.sl (.agg (.pair (.int .i64) (.int .i64)))), .var 12 (.int .i64), .var 13 (.int .i64)]⟩ .nil))) .nil)))
theorem w_ref01_Same {Q : Bool → Prop} (a : (Option (List (Int × Int)))) (b : (Option (List (Int × Int)))) (hQ : ∃ r, Q r) (h :
  (brV (notB (decide ((szSl a) = (szSl b)))) (Q false) (loopV ((Option (List (Int × Int))) × ((Option (List (Int × Int))) × (Int × Int))) (fun k0 => (fun p1 => (brV (decide (p1.2.2.2 < p1.2.2.1)) ((inS p1.1 p1.2.2.2) ∧ ((inS p1.2.1 p1.2.2.2) ∧ (brV (notB (andB (decide ((eltS ((0 : Int), (0 : Int)) p1.1 p1.2.2.2).1 = (eltS ((0 : Int), (0 : Int)) p1.2.1 p1.2.2.2).1)) (andB (decide ((eltS ((0 : Int), (0 : Int)) p1.1 p1.2.2.2).2 = (eltS ((0 : Int), (0 : Int)) p1.2.1 p1.2.2.2).2)) true))) (Q false) (k0 (p1.1, (p1.2.1, (p1.2.2.1, (IntKind.wrap IntKind.i64 (p1.2.2.2 + (1 : Int)))))))))) (Q true)))) (a, (b, ((szSl a), (0 : Int))))))) :
  callV Pg c_ref01_Same [⟨(.sl tNum), a⟩, ⟨(.sl tNum), b⟩] .bool Q :=
  callV_of (c := bodyOf f_ref01_Same) (ann := an_ref01_Same) e_ref01_Same rfl r_ref01_Same rfl rfl hQ (kcast (by kernel_rfl) h)

def an_ref01_Sub : Ann := .nil
theorem w_ref01_Sub {Q : ((Int × Int) × (Int × Unit)) → Prop} (a : (Int × Int)) (b : (Int × Int)) (hQ : ∃ r, Q r) (h :
  (callV Pg c_ref01_All [⟨(.sl tNum), (some [a, b])⟩] .bool (fun p0 => (brV (notB p0) (Q (((0 : Int), (0 : Int)), ((1 : Int), ()))) (callV Pg c_ref01_To [⟨tNum, a⟩] tRR (fun p1 => (callV Pg c_ref01_To [⟨tNum, b⟩] tRR (fun p2 => (callV Pg c_ref01_Rat_Less [⟨tRR, ((p1.1.1, p1.1.2), (p1.2.1, p1.2.2))⟩, ⟨tRR, ((p2.1.1, p2.1.2), (p2.2.1, p2.2.2))⟩] tRR (fun p3 => (callV Pg c_ref01_Num [⟨tRR, ((p3.1.1, p3.1.2), (p3.2.1, p3.2.2))⟩] (.tup (.pair tNum (.pair tI .unit))) (fun p4 => (Q (p4.1, (p4.2.1, ()))))))))))))))) :
  callV Pg c_ref01_Sub [⟨tNum, a⟩, ⟨tNum, b⟩] (.tup (.pair tNum (.pair tI .unit))) Q :=
  callV_of (c := bodyOf f_ref01_Sub) (ann := an_ref01_Sub) e_ref01_Sub rfl r_ref01_Sub rfl rfl hQ (kcast (by kernel_rfl) h)

def an_ref01_To : Ann := .nil
theorem w_ref01_To {Q : ((Int × (Bool × (Option (List Int)))) × (Int × (Bool × (Option (List Int))))) → Prop} (a : (Int × Int)) (hQ : ∃ r, Q r) (h :
  (callV Pg c_ref01_Of [⟨tI, a.1⟩] tRI (fun p0 => (callV Pg c_ref01_Of [⟨tI, a.2⟩] tRI (fun p1 => (Q ((p0.1, p0.2), (p1.1, p1.2)))))))) :
  callV Pg c_ref01_To [⟨tNum, a⟩] tRR Q :=
  callV_of (c := bodyOf f_ref01_To) (ann := an_ref01_To) e_ref01_To rfl r_ref01_To rfl rfl hQ (kcast (by kernel_rfl) h)

def an_ref01_Valid : Ann := (.seq .nil (.seq (.seq (.reg [] [] (some ⟨[(1, .ref 1 0)], [.var 20 (.bool), .box 1 (.agg (.pair (.int .i64) (.int .i64)))]⟩)) .nil) .nil))
theorem w_ref01_Valid {Q : Bool → Prop} (a : (Int × Int)) (hQ : ∃ r, Q r) (h :
  (joinV (Bool × (Int × Int)) (fun p0 => (brV p0.1 (Q false) (callV Pg c_ref01_Of [⟨tI, p0.2.1⟩] tRI (fun p1 => (callV Pg c_ref01_Of [⟨tI, p0.2.2⟩] tRI (fun p2 => (callV Pg c_ref01_Gcd [⟨tRI, (p1.1, p1.2)⟩, ⟨tRI, (p2.1, p2.2)⟩] tRI (fun p3 => (callV Pg c_ref01_Of [⟨tI, (1 : Int)⟩] tRI (fun p4 => (callV Pg c_ref01_Int_Compare [⟨tRI, (p3.1, p3.2)⟩, ⟨tRI, (p4.1, p4.2)⟩] tI (fun p5 => (Q (decide (p5 = (0 : Int)))))))))))))))) (fun k0 => (brV (decide (a.2 < (1 : Int))) (k0 (true, a)) (brV (decide ((1152921504606846976 : Int) < a.2)) (k0 (true, a)) (brV (decide ((1152921504606846976 : Int) < a.1)) (k0 (true, a)) (k0 ((decide (a.1 < (-(1152921504606846976 : Int)))), a)))))))) :
  callV Pg c_ref01_Valid [⟨tNum, a⟩] .bool Q :=
  callV_of (c := bodyOf f_ref01_Valid) (ann := an_ref01_Valid) e_ref01_Valid rfl r_ref01_Valid rfl rfl hQ (kcast (by kernel_rfl) h)

def an_ref01_Whole : Ann := .nil
theorem w_ref01_Whole {Q : ((Int × (Bool × (Option (List Int)))) × (Int × (Bool × (Option (List Int))))) → Prop} (a : Int) (hQ : ∃ r, Q r) (h :
  (callV Pg c_ref01_Of [⟨tI, a⟩] tRI (fun p0 => (callV Pg c_ref01_Of [⟨tI, (1 : Int)⟩] tRI (fun p1 => (Q ((p0.1, p0.2), (p1.1, p1.2)))))))) :
  callV Pg c_ref01_Whole [⟨tI, a⟩] tRR Q :=
  callV_of (c := bodyOf f_ref01_Whole) (ann := an_ref01_Whole) e_ref01_Whole rfl r_ref01_Whole rfl rfl hQ (kcast (by kernel_rfl) h)

def an_ref01_simplest : Ann := .nil
theorem w_ref01_simplest {Q : ((Int × (Bool × (Option (List Int)))) × (Int × (Bool × (Option (List Int))))) → Prop} (a : ((Int × (Bool × (Option (List Int)))) × (Int × (Bool × (Option (List Int)))))) (b : ((Int × (Bool × (Option (List Int)))) × (Int × (Bool × (Option (List Int)))))) (hQ : ∃ r, Q r) (h :
  (callV Pg c_ref01_Down [⟨tRR, ((a.1.1, a.1.2), (a.2.1, a.2.2))⟩] tRI (fun p0 => (callV Pg c_ref01_Of [⟨tI, (1 : Int)⟩] tRI (fun p1 => (callV Pg c_ref01_Rat_Compare [⟨tRR, ((a.1.1, a.1.2), (a.2.1, a.2.2))⟩, ⟨tRR, ((p0.1, p0.2), (p1.1, p1.2))⟩] tI (fun p2 => (brV (decide (p2 = (0 : Int))) (Q ((p0.1, p0.2), (p1.1, p1.2))) (callV Pg c_ref01_Whole [⟨tI, (1 : Int)⟩] tRR (fun p3 => (callV Pg c_ref01_Rat_Plus [⟨tRR, ((p0.1, p0.2), (p1.1, p1.2))⟩, ⟨tRR, ((p3.1.1, p3.1.2), (p3.2.1, p3.2.2))⟩] tRR (fun p4 => (callV Pg c_ref01_Rat_Compare [⟨tRR, ((p4.1.1, p4.1.2), (p4.2.1, p4.2.2))⟩, ⟨tRR, ((b.1.1, b.1.2), (b.2.1, b.2.2))⟩] tI (fun p5 => (brV (decide (p5 ≤ (0 : Int))) (callV Pg c_ref01_Whole [⟨tI, (1 : Int)⟩] tRR (fun p6 => (callV Pg c_ref01_Rat_Plus [⟨tRR, ((p0.1, p0.2), (p1.1, p1.2))⟩, ⟨tRR, ((p6.1.1, p6.1.2), (p6.2.1, p6.2.2))⟩] tRR (fun p7 => (Q ((p7.1.1, p7.1.2), (p7.2.1, p7.2.2))))))) (callV Pg c_ref01_Whole [⟨tI, (1 : Int)⟩] tRR (fun p6 => (callV Pg c_ref01_Rat_Less [⟨tRR, ((b.1.1, b.1.2), (b.2.1, b.2.2))⟩, ⟨tRR, ((p0.1, p0.2), (p1.1, p1.2))⟩] tRR (fun p7 => (callV Pg c_ref01_Rat_Over [⟨tRR, ((p6.1.1, p6.1.2), (p6.2.1, p6.2.2))⟩, ⟨tRR, ((p7.1.1, p7.1.2), (p7.2.1, p7.2.2))⟩] tRR (fun p8 => (callV Pg c_ref01_Whole [⟨tI, (1 : Int)⟩] tRR (fun p9 => (callV Pg c_ref01_Rat_Less [⟨tRR, ((a.1.1, a.1.2), (a.2.1, a.2.2))⟩, ⟨tRR, ((p0.1, p0.2), (p1.1, p1.2))⟩] tRR (fun p10 => (callV Pg c_ref01_Rat_Over [⟨tRR, ((p9.1.1, p9.1.2), (p9.2.1, p9.2.2))⟩, ⟨tRR, ((p10.1.1, p10.1.2), (p10.2.1, p10.2.2))⟩] tRR (fun p11 => (callV Pg c_ref01_simplest [⟨tRR, ((p8.1.1, p8.1.2), (p8.2.1, p8.2.2))⟩, ⟨tRR, ((p11.1.1, p11.1.2), (p11.2.1, p11.2.2))⟩] tRR (fun p12 => (callV Pg c_ref01_Whole [⟨tI, (1 : Int)⟩] tRR (fun p13 => (callV Pg c_ref01_Rat_Over [⟨tRR, ((p13.1.1, p13.1.2), (p13.2.1, p13.2.2))⟩, ⟨tRR, ((p12.1.1, p12.1.2), (p12.2.1, p12.2.2))⟩] tRR (fun p14 => (callV Pg c_ref01_Rat_Plus [⟨tRR, ((p0.1, p0.2), (p1.1, p1.2))⟩, ⟨tRR, ((p14.1.1, p14.1.2), (p14.2.1, p14.2.2))⟩] tRR (fun p15 => (Q ((p15.1.1, p15.1.2), (p15.2.1, p15.2.2)))))))))))))))))))))))))))))))))))))) :
  callV Pg c_ref01_simplest [⟨tRR, a⟩, ⟨tRR, b⟩] tRR Q :=
  callV_of (c := bodyOf f_ref01_simplest) (ann := an_ref01_simplest) e_ref01_simplest rfl r_ref01_simplest rfl rfl hQ (kcast (by kernel_rfl) h)

end Go.Proofs.Pf

