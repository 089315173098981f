/- What the code of each function comes to. -/
import Derived.Test.YtafjapndilbfcaaC
set_option linter.unusedVariables false
set_option linter.unusedSimpArgs false
namespace Go.Proofs.Pf
open Go Go.VM
set_option maxRecDepth 100000
def an_law01_NumMakes : Ann := (.seq .nil (.seq .nil (.seq .nil (.seq .nil (.seq .nil (.seq (.reg [] [] (some ⟨[], [.var 8 (.bool)]⟩)) .nil))))))
theorem w_law01_NumMakes {Q : Bool → Prop} (a : Int) (b : Int) (c : (Int × Int)) (d : Int) (hQ : ∃ r, Q r) (h :
  (callV Pg c_ref01_Fraction [⟨tI, a⟩, ⟨tI, b⟩] (.tup (.pair tNum (.pair tI .unit))) (fun p0 => (callV Pg c_ref01_Pow [⟨tNum, c⟩, ⟨tI, d⟩] (.tup (.pair tNum (.pair tI .unit))) (fun p1 => (callV Pg c_num_Make [⟨tI, a⟩, ⟨tI, b⟩] (.tup (.pair tNum (.pair tI .unit))) (fun p2 => (callV Pg c_num_Pow [⟨tNum, c⟩, ⟨tI, d⟩] (.tup (.pair tNum (.pair tI .unit))) (fun p3 => (joinV Bool (fun p4 => (Q p4)) (fun k4 => (brV (andB (decide (p2.1.1 = p0.1.1)) (andB (decide (p2.1.2 = p0.1.2)) true)) (brV (decide (p2.2.1 = p0.2.1)) (brV (andB (decide (p3.1.1 = p1.1.1)) (andB (decide (p3.1.2 = p1.1.2)) true)) (brV (decide (p3.2.1 = p1.2.1)) (callV Pg c_law01_awake [] .bool (fun p5 => (k4 p5))) (k4 false)) (k4 false)) (k4 false)) (k4 false))))))))))))) :
  callV Pg c_law01_NumMakes [⟨tI, a⟩, ⟨tI, b⟩, ⟨tNum, c⟩, ⟨tI, d⟩] .bool Q :=
  callV_of (c := bodyOf f_law01_NumMakes) (ann := an_law01_NumMakes) e_law01_NumMakes rfl r_law01_NumMakes rfl rfl hQ (kcast (by kernel_rfl) h)

def an_law01_NumPowers : Ann := (.seq .nil (.seq .nil (.seq .nil (.seq (.seq (.reg [] [] (some ⟨[(3, .ref 3 0), (7, .ref 7 0), (9, .ref 9 0)], [.var 1 (.int .i64), .var 2 (.int .i64), .var 38 (.bool), .box 3 (.agg (.pair (.int .i64) (.int .i64))), .box 7 (.agg (.pair (.int .i64) (.int .i64))), .box 9 (.agg (.pair (.int .i64) (.int .i64)))]⟩)) .nil) (.seq .nil (.seq .nil (.seq (.reg [] [] (some ⟨[], [.var 6 (.bool)]⟩)) .nil)))))))
theorem w_law01_NumPowers {Q : Bool → Prop} (a : (Int × Int)) (b : Int) (c : Int) (hQ : ∃ r, Q r) (h :
  (callV Pg c_num_Pow [⟨tNum, a⟩, ⟨tI, b⟩] (.tup (.pair tNum (.pair tI .unit))) (fun p0 => (callV Pg c_num_Pow [⟨tNum, a⟩, ⟨tI, c⟩] (.tup (.pair tNum (.pair tI .unit))) (fun p1 => (joinV (Int × (Int × (Bool × ((Int × Int) × ((Int × Int) × (Int × Int)))))) (fun p2 => (brV p2.2.2.1 (callV Pg c_law01_awake [] .bool (fun p3 => (Q p3))) (callV Pg c_num_Pow [⟨tNum, p2.2.2.2.1⟩, ⟨tI, (IntKind.wrap IntKind.i64 (p2.1 + p2.2.1))⟩] (.tup (.pair tNum (.pair tI .unit))) (fun p3 => (callV Pg c_num_Mul [⟨tNum, p2.2.2.2.2.1⟩, ⟨tNum, p2.2.2.2.2.2⟩] (.tup (.pair tNum (.pair tI .unit))) (fun p4 => (joinV Bool (fun p5 => (Q p5)) (fun k5 => (brV (decide (p3.2.1 = p4.2.1)) (brV (andB (decide (p3.1.1 = p4.1.1)) (andB (decide (p3.1.2 = p4.1.2)) true)) (callV Pg c_law01_awake [] .bool (fun p6 => (k5 p6))) (k5 false)) (k5 false)))))))))) (fun k2 => (brV (notB (decide (p0.2.1 = (0 : Int)))) (k2 (b, (c, (true, (a, (p0.1, p1.1)))))) (brV (notB (decide (p1.2.1 = (0 : Int)))) (k2 (b, (c, (true, (a, (p0.1, p1.1)))))) (k2 (b, (c, ((decide ((10000 : Int) < (IntKind.wrap IntKind.i64 (b + c)))), (a, (p0.1, p1.1))))))))))))))) :
  callV Pg c_law01_NumPowers [⟨tNum, a⟩, ⟨tI, b⟩, ⟨tI, c⟩] .bool Q :=
  callV_of (c := bodyOf f_law01_NumPowers) (ann := an_law01_NumPowers) e_law01_NumPowers rfl r_law01_NumPowers rfl rfl hQ (kcast (by kernel_rfl) h)

def an_law01_awake : Ann := (.seq .nil (.seq .nil (.seq .nil (.seq .nil (.seq (.reg [] [] (some ⟨[], [.var 0 (.bool)]⟩)) .nil)))))
theorem w_law01_awake {Q : Bool → Prop} (hQ : ∃ r, Q r) (h :
  (callV Pg c_num_Add [⟨tNum, ((1 : Int), (3 : Int))⟩, ⟨tNum, ((1 : Int), (6 : Int))⟩] (.tup (.pair tNum (.pair tI .unit))) (fun p0 => (callV Pg c_num_Pow [⟨tNum, ((-(2 : Int)), (3 : Int))⟩, ⟨tI, (3 : Int)⟩] (.tup (.pair tNum (.pair tI .unit))) (fun p1 => (callV Pg c_num_Add [⟨tNum, ((1152921504606846976 : Int), (1 : Int))⟩, ⟨tNum, ((1 : Int), (1 : Int))⟩] (.tup (.pair tNum (.pair tI .unit))) (fun p2 => (joinV Bool (fun p3 => (Q p3)) (fun k3 => (brV (andB (decide (p0.1.1 = (1 : Int))) (andB (decide (p0.1.2 = (2 : Int))) true)) (brV (decide (p0.2.1 = (0 : Int))) (brV (andB (decide (p1.1.1 = (-(8 : Int)))) (andB (decide (p1.1.2 = (27 : Int))) true)) (brV (decide (p1.2.1 = (0 : Int))) (k3 (decide (p2.2.1 = (3 : Int)))) (k3 false)) (k3 false)) (k3 false)) (k3 false))))))))))) :
  callV Pg c_law01_awake [] .bool Q :=
  callV_of (c := bodyOf f_law01_awake) (ann := an_law01_awake) e_law01_awake rfl r_law01_awake rfl rfl hQ (kcast (by kernel_rfl) h)

end Go.Proofs.Pf

