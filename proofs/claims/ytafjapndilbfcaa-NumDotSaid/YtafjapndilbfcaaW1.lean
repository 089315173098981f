/- What the code of each function comes to. -/
import Derived.Test.YtafjapndilbfcaaC
set_option linter.unusedVariables false
set_option linter.unusedSimpArgs false
namespace Go.Proofs.Pf
open Go Go.VM
set_option maxRecDepth 100000
def an_exact_Gcd : Ann := (.seq .nil (.seq .nil (.seq (.blk none (.loop ⟨[(2, .ref 2 0), (3, .ref 3 0), (4, .ref 4 0)], [.box 2 (.agg (.pair (.int .i64) (.sl (.int .u32)))), .box 3 (.agg (.pair (.int .i64) (.sl (.int .u32)))), .box 4 (.agg (.pair (.int .i64) (.sl (.int .u32))))]⟩ .nil)) .nil)))
theorem w_exact_Gcd {Q : (Int × (Option (List Int))) → Prop} (a : (Int × (Option (List Int)))) (b : (Int × (Option (List Int)))) (hQ : ∃ r, Q r) (h :
  (callV Pg c_exact_Int_Abs [⟨tEI, a⟩] tEI (fun p0 => (callV Pg c_exact_Int_Abs [⟨tEI, b⟩] tEI (fun p1 => (loopV ((Int × (Option (List Int))) × ((Int × (Option (List Int))) × (Int × (Option (List Int))))) (fun k2 => (fun p3 => (callV Pg c_exact_Int_Sign [⟨tEI, p3.2.1⟩] tI (fun p4 => (brV (notB (decide (p4 = (0 : Int)))) (callV Pg c_exact_Int_Quo [⟨tEI, p3.1⟩, ⟨tEI, p3.2.1⟩] (.tup (.pair tEI (.pair tEI .unit))) (fun p5 => (k2 (p3.2.1, (p5.2.1, p3.2.2))))) (Q p3.1)))))) (p0, (p1, ((0 : Int), none))))))))) :
  callV Pg c_exact_Gcd [⟨tEI, a⟩, ⟨tEI, b⟩] tEI Q :=
  callV_of (c := bodyOf f_exact_Gcd) (ann := an_exact_Gcd) e_exact_Gcd rfl r_exact_Gcd rfl rfl hQ (kcast (by kernel_rfl) h)

def an_exact_Int_Abs : Ann := .nil
theorem w_exact_Int_Abs {Q : (Int × (Option (List Int))) → Prop} (a : (Int × (Option (List Int)))) (hQ : ∃ r, Q r) (h :
  (brV (decide (a.1 < (0 : Int))) (callV Pg c_exact_Int_Neg [⟨tEI, a⟩] tEI (fun p0 => (Q p0))) (Q a))) :
  callV Pg c_exact_Int_Abs [⟨tEI, a⟩] tEI Q :=
  callV_of (c := bodyOf f_exact_Int_Abs) (ann := an_exact_Int_Abs) e_exact_Int_Abs rfl r_exact_Int_Abs rfl rfl hQ (kcast (by kernel_rfl) h)

def an_exact_Int_Add : Ann := (.seq .nil (.seq (.seq (.reg [] [] (some ⟨[(2, .ref 2 0), (3, .ref 3 0), (4, .ref 4 0)], [.var 16 (.bool), .box 2 (.agg (.pair (.int .i64) (.sl (.int .u32)))), .box 3 (.agg (.pair (.int .i64) (.sl (.int .u32)))), .box 4 (.agg (.pair (.int .i64) (.sl (.int .u32))))]⟩)) .nil) .nil))
theorem w_exact_Int_Add {Q : (Int × (Option (List Int))) → Prop} (a : (Int × (Option (List Int)))) (b : (Int × (Option (List Int)))) (hQ : ∃ r, Q r) (h :
  (joinV (Bool × ((Int × (Option (List Int))) × ((Int × (Option (List Int))) × (Int × (Option (List Int)))))) (fun p0 => (brV p0.1 (callV Pg c_exact_Of [⟨tI, (IntKind.wrap IntKind.i64 (p0.2.1.1 + p0.2.2.1.1))⟩] tEI (fun p1 => (Q p1))) (callV Pg c_exact_Int_digits [⟨tEI, p0.2.1⟩] (.tup (.pair tI (.pair tD .unit))) (fun p1 => (callV Pg c_exact_Int_digits [⟨tEI, p0.2.2.1⟩] (.tup (.pair tI (.pair tD .unit))) (fun p2 => (brV (decide (p1.1 = (0 : Int))) (Q p0.2.2.1) (brV (decide (p2.1 = (0 : Int))) (Q p0.2.1) (brV (decide (p1.1 = p2.1)) (callV Pg c_exact_plus [⟨tD, p1.2.1⟩, ⟨tD, p2.2.1⟩] tD (fun p3 => (callV Pg c_exact_made [⟨tI, p1.1⟩, ⟨tD, p3⟩] tEI (fun p4 => (Q p4))))) (callV Pg c_exact_compare [⟨tD, p1.2.1⟩, ⟨tD, p2.2.1⟩] tI (fun p3 => (brV (decide ((0 : Int) ≤ p3)) (callV Pg c_exact_minus [⟨tD, p1.2.1⟩, ⟨tD, p2.2.1⟩] tD (fun p4 => (callV Pg c_exact_made [⟨tI, p1.1⟩, ⟨tD, p4⟩] tEI (fun p5 => (Q p5))))) (callV Pg c_exact_minus [⟨tD, p2.2.1⟩, ⟨tD, p1.2.1⟩] tD (fun p4 => (callV Pg c_exact_made [⟨tI, p2.1⟩, ⟨tD, p4⟩] tEI (fun p5 => (Q p5))))))))))))))))) (fun k0 => (brV (Option.isNone a.2) (k0 ((Option.isNone b.2), (a, (b, ((0 : Int), none))))) (k0 (false, (a, (b, ((0 : Int), none))))))))) :
  callV Pg c_exact_Int_Add [⟨tEI, a⟩, ⟨tEI, b⟩] tEI Q :=
  callV_of (c := bodyOf f_exact_Int_Add) (ann := an_exact_Int_Add) e_exact_Int_Add rfl r_exact_Int_Add rfl rfl hQ (kcast (by kernel_rfl) h)

def an_exact_Int_Int : Ann := (.seq .nil (.seq (.seq (.reg [] [] (some ⟨[(2, .ref 2 0)], [.var 21 (.bool), .box 2 (.agg (.pair (.int .i64) (.sl (.int .u32))))]⟩)) .nil) .nil))
theorem w_exact_Int_Int {Q : (Int × (Bool × Unit)) → Prop} (a : (Int × (Option (List Int)))) (b : Int) (hQ : ∃ r, Q r) (h :
  (joinV (Bool × (Int × (Option (List Int)))) (fun p0 => (brV p0.1 (Q ((0 : Int), (false, ()))) (Q (p0.2.1, (true, ()))))) (fun k0 => (brV (notB (Option.isNone a.2)) (k0 (true, a)) (brV (decide (b < a.1)) (k0 (true, a)) (k0 ((decide (a.1 < (IntKind.wrap IntKind.i64 ((0 : Int) - b)))), a))))))) :
  callV Pg c_exact_Int_Int [⟨tEI, a⟩, ⟨tI, b⟩] (.tup (.pair tI (.pair .bool .unit))) Q :=
  callV_of (c := bodyOf f_exact_Int_Int) (ann := an_exact_Int_Int) e_exact_Int_Int rfl r_exact_Int_Int rfl rfl hQ (kcast (by kernel_rfl) h)

def an_exact_Int_Neg : Ann := .nil
theorem w_exact_Int_Neg {Q : (Int × (Option (List Int))) → Prop} (a : (Int × (Option (List Int)))) (hQ : ∃ r, Q r) (h :
  (Q ((IntKind.wrap IntKind.i64 ((0 : Int) - a.1)), a.2))) :
  callV Pg c_exact_Int_Neg [⟨tEI, a⟩] tEI Q :=
  callV_of (c := bodyOf f_exact_Int_Neg) (ann := an_exact_Int_Neg) e_exact_Int_Neg rfl r_exact_Int_Neg rfl rfl hQ (kcast (by kernel_rfl) h)

def an_exact_Int_Quo : Ann := (.seq .nil (.seq (.seq (.reg [] [] (some ⟨[(2, .ref 2 0), (3, .ref 3 0), (4, .ref 4 0), (5, .ref 5 0)], [.var 21 (.bool), .box 2 (.agg (.pair (.int .i64) (.sl (.int .u32)))), .box 3 (.agg (.pair (.int .i64) (.sl (.int .u32)))), .box 4 (.agg (.pair (.int .i64) (.sl (.int .u32)))), .box 5 (.agg (.pair (.int .i64) (.sl (.int .u32))))]⟩)) .nil) (.seq .nil (.seq .nil (.seq .nil (.seq (.seq .nil (.cond none (.seq .nil (.seq (.reg [] [(8, ([68], false))] none) .nil)) .nil)) .nil))))))
theorem w_exact_Int_Quo {Q : ((Int × (Option (List Int))) × ((Int × (Option (List Int))) × Unit)) → Prop} (a : (Int × (Option (List Int)))) (b : (Int × (Option (List Int)))) (hQ : ∃ r, Q r) (h :
  (joinV (Bool × ((Int × (Option (List Int))) × ((Int × (Option (List Int))) × ((Int × (Option (List Int))) × (Int × (Option (List Int))))))) (fun p0 => (brV p0.1 ((p0.2.2.1.1 ≠ (0 : Int)) ∧ ((p0.2.2.1.1 ≠ (0 : Int)) ∧ (Q (((IntKind.wrap IntKind.i64 (Int.tdiv p0.2.1.1 p0.2.2.1.1)), none), (((Int.tmod p0.2.1.1 p0.2.2.1.1), none), ()))))) (callV Pg c_exact_Int_digits [⟨tEI, p0.2.1⟩] (.tup (.pair tI (.pair tD .unit))) (fun p1 => (callV Pg c_exact_Int_digits [⟨tEI, p0.2.2.1⟩] (.tup (.pair tI (.pair tD .unit))) (fun p2 => (callV Pg c_exact_compare [⟨tD, p1.2.1⟩, ⟨tD, p2.2.1⟩] tI (fun p3 => (brV (decide (p3 < (0 : Int))) (Q (((0 : Int), none), (p0.2.1, ()))) (brV (decide ((szSl p2.2.1) = (1 : Int))) ((inS p2.2.1 (0 : Int)) ∧ (callV Pg c_exact_short [⟨tD, p1.2.1⟩, ⟨tU, (eltS (0 : Int) p2.2.1 (0 : Int))⟩] (.tup (.pair tD (.pair tU .unit))) (fun p4 => (callV Pg c_exact_made [⟨tI, (IntKind.wrap IntKind.i64 (p1.1 * p2.1))⟩, ⟨tD, p4.1⟩] tEI (fun p5 => (callV Pg c_exact_made [⟨tI, p1.1⟩, ⟨tD, (some [p4.2.1])⟩] tEI (fun p6 => (Q (p5, (p6, ())))))))))) (callV Pg c_exact_long [⟨tD, p1.2.1⟩, ⟨tD, p2.2.1⟩] (.tup (.pair tD (.pair tD .unit))) (fun p4 => (callV Pg c_exact_made [⟨tI, (IntKind.wrap IntKind.i64 (p1.1 * p2.1))⟩, ⟨tD, p4.1⟩] tEI (fun p5 => (callV Pg c_exact_made [⟨tI, p1.1⟩, ⟨tD, p4.2.1⟩] tEI (fun p6 => (Q (p5, (p6, ()))))))))))))))))))) (fun k0 => (brV (Option.isNone a.2) (k0 ((Option.isNone b.2), (a, (b, (((0 : Int), none), ((0 : Int), none)))))) (k0 (false, (a, (b, (((0 : Int), none), ((0 : Int), none)))))))))) :
  callV Pg c_exact_Int_Quo [⟨tEI, a⟩, ⟨tEI, b⟩] (.tup (.pair tEI (.pair tEI .unit))) Q :=
  callV_of (c := bodyOf f_exact_Int_Quo) (ann := an_exact_Int_Quo) e_exact_Int_Quo rfl r_exact_Int_Quo rfl rfl hQ (kcast (by kernel_rfl) h)

def an_exact_Int_Sign : Ann := .nil
theorem w_exact_Int_Sign {Q : Int → Prop} (a : (Int × (Option (List Int)))) (hQ : ∃ r, Q r) (h :
  (brV (decide ((0 : Int) < a.1)) (Q (1 : Int)) (brV (decide (a.1 < (0 : Int))) (Q (-(1 : Int))) (Q (0 : Int))))) :
  callV Pg c_exact_Int_Sign [⟨tEI, a⟩] tI Q :=
  callV_of (c := bodyOf f_exact_Int_Sign) (ann := an_exact_Int_Sign) e_exact_Int_Sign rfl r_exact_Int_Sign rfl rfl hQ (kcast (by kernel_rfl) h)

def an_exact_Int_Sub : Ann := .nil
theorem w_exact_Int_Sub {Q : (Int × (Option (List Int))) → Prop} (a : (Int × (Option (List Int)))) (b : (Int × (Option (List Int)))) (hQ : ∃ r, Q r) (h :
  (callV Pg c_exact_Int_Neg [⟨tEI, b⟩] tEI (fun p0 => (callV Pg c_exact_Int_Add [⟨tEI, a⟩, ⟨tEI, p0⟩] tEI (fun p1 => (Q p1)))))) :
  callV Pg c_exact_Int_Sub [⟨tEI, a⟩, ⟨tEI, b⟩] tEI Q :=
  callV_of (c := bodyOf f_exact_Int_Sub) (ann := an_exact_Int_Sub) e_exact_Int_Sub rfl r_exact_Int_Sub rfl rfl hQ (kcast (by kernel_rfl) h)

def an_exact_Int_digits : Ann := (.seq .nil (.seq .nil (.seq .nil (.seq (.blk none (.seq .nil (.cond (some ⟨[], [.var 4 (.int .i64), .var 5 (.int .u64)]⟩) .nil (.seq .nil (.cond (some ⟨[], [.var 4 (.int .i64), .var 5 (.int .u64)]⟩) .nil .nil))))) (.seq (.reg [] [(7, ([34], false))] none) .nil)))))
theorem w_exact_Int_digits {Q : (Int × ((Option (List Int)) × Unit)) → Prop} (a : (Int × (Option (List Int)))) (hQ : ∃ r, Q r) (h :
  (brV (notB (Option.isNone a.2)) (Q (a.1, (a.2, ()))) (joinV (Int × Int) (fun p0 => (((0 : Int) ≤ (32 : Int)) ∧ (callV Pg c_exact_trim [⟨tD, (some [(IntKind.wrap IntKind.u32 p0.2), (IntKind.wrap IntKind.u32 (shrI IntKind.u64 p0.2 (32 : Int)))])⟩] tD (fun p1 => (Q (p0.1, (p1, ()))))))) (fun k0 => (brV (decide ((0 : Int) < a.1)) (k0 ((1 : Int), (IntKind.wrap IntKind.u64 a.1))) (joinV (Int × Int) (fun p1 => (k0 p1)) (fun k1 => (brV (decide (a.1 < (0 : Int))) (k1 ((-(1 : Int)), (IntKind.wrap IntKind.u64 (IntKind.wrap IntKind.i64 ((0 : Int) - a.1))))) (k1 ((0 : Int), (0 : Int))))))))))) :
  callV Pg c_exact_Int_digits [⟨tEI, a⟩] (.tup (.pair tI (.pair tD .unit))) Q :=
  callV_of (c := bodyOf f_exact_Int_digits) (ann := an_exact_Int_digits) e_exact_Int_digits rfl r_exact_Int_digits rfl rfl hQ (kcast (by kernel_rfl) h)

def an_exact_Of : Ann := (.seq .nil (.seq (.seq (.reg [] [] (some ⟨[(2, .ref 2 0)], [.var 0 (.int .i64), .var 10 (.bool), .box 2 (.agg (.pair (.int .i64) (.sl (.int .u32))))]⟩)) .nil) (.seq .nil (.seq .nil (.seq (.seq .nil (.cond (some ⟨[(2, .ref 2 0)], [.var 3 (.int .i64), .var 4 (.int .u64), .box 2 (.agg (.pair (.int .i64) (.sl (.int .u32))))]⟩) .nil .nil)) .nil)))))
theorem w_exact_Of {Q : (Int × (Option (List Int))) → Prop} (a : Int) (hQ : ∃ r, Q r) (h :
  (joinV (Int × (Bool × (Int × (Option (List Int))))) (fun p0 => (brV p0.2.1 (Q (p0.1, none)) (joinV (Int × (Int × (Int × (Option (List Int))))) (fun p1 => (((0 : Int) ≤ (32 : Int)) ∧ (Q (p1.1, (some [(IntKind.wrap IntKind.u32 p1.2.1), (IntKind.wrap IntKind.u32 (shrI IntKind.u64 p1.2.1 (32 : Int)))]))))) (fun k1 => (brV (decide (p0.1 < (0 : Int))) (k1 ((-(1 : Int)), ((IntKind.wrap IntKind.u64 ((0 : Int) - (IntKind.wrap IntKind.u64 p0.1))), p0.2.2))) (k1 ((1 : Int), ((IntKind.wrap IntKind.u64 p0.1), p0.2.2)))))))) (fun k0 => (brV (decide ((-(4611686018427387904 : Int)) < a)) (k0 (a, ((decide (a < (4611686018427387904 : Int))), ((0 : Int), none)))) (k0 (a, (false, ((0 : Int), none)))))))) :
  callV Pg c_exact_Of [⟨tI, a⟩] tEI Q :=
  callV_of (c := bodyOf f_exact_Of) (ann := an_exact_Of) e_exact_Of rfl r_exact_Of rfl rfl hQ (kcast (by kernel_rfl) h)

def an_exact_Rat_Add : Ann := (.seq .nil (.seq (.seq (.reg [] [] (some ⟨[(2, .ref 2 0), (3, .ref 3 0), (4, .ref 4 0)], [.var 10 (.bool), .box 2 (.agg (.pair (.agg (.pair (.int .i64) (.sl (.int .u32)))) (.agg (.pair (.int .i64) (.sl (.int .u32)))))), .box 3 (.agg (.pair (.agg (.pair (.int .i64) (.sl (.int .u32)))) (.agg (.pair (.int .i64) (.sl (.int .u32)))))), .box 4 (.agg (.pair (.agg (.pair (.int .i64) (.sl (.int .u32)))) (.agg (.pair (.int .i64) (.sl (.int .u32))))))]⟩)) .nil) .nil))
theorem w_exact_Rat_Add {Q : ((Int × (Option (List Int))) × (Int × (Option (List Int)))) → Prop} (a : ((Int × (Option (List Int))) × (Int × (Option (List Int))))) (b : ((Int × (Option (List Int))) × (Int × (Option (List Int))))) (hQ : ∃ r, Q r) (h :
  (joinV (Bool × (((Int × (Option (List Int))) × (Int × (Option (List Int)))) × (((Int × (Option (List Int))) × (Int × (Option (List Int)))) × ((Int × (Option (List Int))) × (Int × (Option (List Int))))))) (fun p0 => (brV p0.1 (callV Pg c_exact_Int_Add [⟨tEI, p0.2.1.1⟩, ⟨tEI, p0.2.2.1.1⟩] tEI (fun p1 => (Q (p1, ((0 : Int), none))))) (callV Pg c_exact_Rat_Low [⟨tER, (p0.2.2.1.1, p0.2.2.1.2)⟩] tEI (fun p1 => (callV Pg c_exact_Int_Mul [⟨tEI, p0.2.1.1⟩, ⟨tEI, p1⟩] tEI (fun p2 => (callV Pg c_exact_Rat_Low [⟨tER, (p0.2.1.1, p0.2.1.2)⟩] tEI (fun p3 => (callV Pg c_exact_Int_Mul [⟨tEI, p0.2.2.1.1⟩, ⟨tEI, p3⟩] tEI (fun p4 => (callV Pg c_exact_Int_Add [⟨tEI, p2⟩, ⟨tEI, p4⟩] tEI (fun p5 => (callV Pg c_exact_Rat_Low [⟨tER, (p0.2.1.1, p0.2.1.2)⟩] tEI (fun p6 => (callV Pg c_exact_Rat_Low [⟨tER, (p0.2.2.1.1, p0.2.2.1.2)⟩] tEI (fun p7 => (callV Pg c_exact_Int_Mul [⟨tEI, p6⟩, ⟨tEI, p7⟩] tEI (fun p8 => (callV Pg c_exact_Ratio [⟨tEI, p5⟩, ⟨tEI, p8⟩] tER (fun p9 => (Q (p9.1, p9.2)))))))))))))))))))))) (fun k0 => (callV Pg c_exact_Rat_whole [⟨tER, (a.1, a.2)⟩] .bool (fun p1 => (brV p1 (callV Pg c_exact_Rat_whole [⟨tER, (b.1, b.2)⟩] .bool (fun p2 => (k0 (p2, ((a.1, a.2), ((b.1, b.2), (((0 : Int), none), ((0 : Int), none)))))))) (k0 (false, ((a.1, a.2), ((b.1, b.2), (((0 : Int), none), ((0 : Int), none)))))))))))) :
  callV Pg c_exact_Rat_Add [⟨tER, a⟩, ⟨tER, b⟩] tER Q :=
  callV_of (c := bodyOf f_exact_Rat_Add) (ann := an_exact_Rat_Add) e_exact_Rat_Add rfl r_exact_Rat_Add rfl rfl hQ (kcast (by kernel_rfl) h)

def an_exact_Rat_Cmp : Ann := .nil
theorem w_exact_Rat_Cmp {Q : Int → Prop} (a : ((Int × (Option (List Int))) × (Int × (Option (List Int))))) (b : ((Int × (Option (List Int))) × (Int × (Option (List Int))))) (hQ : ∃ r, Q r) (h :
  (callV Pg c_exact_Rat_Sub [⟨tER, (a.1, a.2)⟩, ⟨tER, (b.1, b.2)⟩] tER (fun p0 => (callV Pg c_exact_Rat_Sign [⟨tER, (p0.1, p0.2)⟩] tI (fun p1 => (Q p1)))))) :
  callV Pg c_exact_Rat_Cmp [⟨tER, a⟩, ⟨tER, b⟩] tI Q :=
  callV_of (c := bodyOf f_exact_Rat_Cmp) (ann := an_exact_Rat_Cmp) e_exact_Rat_Cmp rfl r_exact_Rat_Cmp rfl rfl hQ (kcast (by kernel_rfl) h)

def an_exact_Rat_Div : Ann := .nil
theorem w_exact_Rat_Div {Q : ((Int × (Option (List Int))) × (Int × (Option (List Int)))) → Prop} (a : ((Int × (Option (List Int))) × (Int × (Option (List Int))))) (b : ((Int × (Option (List Int))) × (Int × (Option (List Int))))) (hQ : ∃ r, Q r) (h :
  (callV Pg c_exact_Rat_Low [⟨tER, (b.1, b.2)⟩] tEI (fun p0 => (callV Pg c_exact_Int_Mul [⟨tEI, a.1⟩, ⟨tEI, p0⟩] tEI (fun p1 => (callV Pg c_exact_Rat_Low [⟨tER, (a.1, a.2)⟩] tEI (fun p2 => (callV Pg c_exact_Int_Mul [⟨tEI, p2⟩, ⟨tEI, b.1⟩] tEI (fun p3 => (callV Pg c_exact_Ratio [⟨tEI, p1⟩, ⟨tEI, p3⟩] tER (fun p4 => (Q (p4.1, p4.2))))))))))))) :
  callV Pg c_exact_Rat_Div [⟨tER, a⟩, ⟨tER, b⟩] tER Q :=
  callV_of (c := bodyOf f_exact_Rat_Div) (ann := an_exact_Rat_Div) e_exact_Rat_Div rfl r_exact_Rat_Div rfl rfl hQ (kcast (by kernel_rfl) h)

def an_exact_Rat_Floor : Ann := .nil
theorem w_exact_Rat_Floor {Q : (Int × (Option (List Int))) → Prop} (a : ((Int × (Option (List Int))) × (Int × (Option (List Int))))) (hQ : ∃ r, Q r) (h :
  (callV Pg c_exact_Rat_Low [⟨tER, (a.1, a.2)⟩] tEI (fun p0 => (callV Pg c_exact_Int_Quo [⟨tEI, a.1⟩, ⟨tEI, p0⟩] (.tup (.pair tEI (.pair tEI .unit))) (fun p1 => (callV Pg c_exact_Int_Sign [⟨tEI, p1.2.1⟩] tI (fun p2 => (brV (decide (p2 < (0 : Int))) (callV Pg c_exact_one [] tEI (fun p3 => (callV Pg c_exact_Int_Sub [⟨tEI, p1.1⟩, ⟨tEI, p3⟩] tEI (fun p4 => (Q p4))))) (Q p1.1))))))))) :
  callV Pg c_exact_Rat_Floor [⟨tER, a⟩] tEI Q :=
  callV_of (c := bodyOf f_exact_Rat_Floor) (ann := an_exact_Rat_Floor) e_exact_Rat_Floor rfl r_exact_Rat_Floor rfl rfl hQ (kcast (by kernel_rfl) h)

def an_exact_Rat_Low : Ann := .nil
theorem w_exact_Rat_Low {Q : (Int × (Option (List Int))) → Prop} (a : ((Int × (Option (List Int))) × (Int × (Option (List Int))))) (hQ : ∃ r, Q r) (h :
  (callV Pg c_exact_Int_Sign [⟨tEI, a.2⟩] tI (fun p0 => (brV (decide (p0 = (0 : Int))) (callV Pg c_exact_one [] tEI (fun p1 => (Q p1))) (Q a.2))))) :
  callV Pg c_exact_Rat_Low [⟨tER, a⟩] tEI Q :=
  callV_of (c := bodyOf f_exact_Rat_Low) (ann := an_exact_Rat_Low) e_exact_Rat_Low rfl r_exact_Rat_Low rfl rfl hQ (kcast (by kernel_rfl) h)

def an_exact_Rat_Mul : Ann := (.seq .nil (.seq (.seq (.reg [] [] (some ⟨[(2, .ref 2 0), (3, .ref 3 0), (4, .ref 4 0)], [.var 10 (.bool), .box 2 (.agg (.pair (.agg (.pair (.int .i64) (.sl (.int .u32)))) (.agg (.pair (.int .i64) (.sl (.int .u32)))))), .box 3 (.agg (.pair (.agg (.pair (.int .i64) (.sl (.int .u32)))) (.agg (.pair (.int .i64) (.sl (.int .u32)))))), .box 4 (.agg (.pair (.agg (.pair (.int .i64) (.sl (.int .u32)))) (.agg (.pair (.int .i64) (.sl (.int .u32))))))]⟩)) .nil) .nil))
theorem w_exact_Rat_Mul {Q : ((Int × (Option (List Int))) × (Int × (Option (List Int)))) → Prop} (a : ((Int × (Option (List Int))) × (Int × (Option (List Int))))) (b : ((Int × (Option (List Int))) × (Int × (Option (List Int))))) (hQ : ∃ r, Q r) (h :
  (joinV (Bool × (((Int × (Option (List Int))) × (Int × (Option (List Int)))) × (((Int × (Option (List Int))) × (Int × (Option (List Int)))) × ((Int × (Option (List Int))) × (Int × (Option (List Int))))))) (fun p0 => (brV p0.1 (callV Pg c_exact_Int_Mul [⟨tEI, p0.2.1.1⟩, ⟨tEI, p0.2.2.1.1⟩] tEI (fun p1 => (Q (p1, ((0 : Int), none))))) (callV Pg c_exact_Int_Mul [⟨tEI, p0.2.1.1⟩, ⟨tEI, p0.2.2.1.1⟩] tEI (fun p1 => (callV Pg c_exact_Rat_Low [⟨tER, (p0.2.1.1, p0.2.1.2)⟩] tEI (fun p2 => (callV Pg c_exact_Rat_Low [⟨tER, (p0.2.2.1.1, p0.2.2.1.2)⟩] tEI (fun p3 => (callV Pg c_exact_Int_Mul [⟨tEI, p2⟩, ⟨tEI, p3⟩] tEI (fun p4 => (callV Pg c_exact_Ratio [⟨tEI, p1⟩, ⟨tEI, p4⟩] tER (fun p5 => (Q (p5.1, p5.2)))))))))))))) (fun k0 => (callV Pg c_exact_Rat_whole [⟨tER, (a.1, a.2)⟩] .bool (fun p1 => (brV p1 (callV Pg c_exact_Rat_whole [⟨tER, (b.1, b.2)⟩] .bool (fun p2 => (k0 (p2, ((a.1, a.2), ((b.1, b.2), (((0 : Int), none), ((0 : Int), none)))))))) (k0 (false, ((a.1, a.2), ((b.1, b.2), (((0 : Int), none), ((0 : Int), none)))))))))))) :
  callV Pg c_exact_Rat_Mul [⟨tER, a⟩, ⟨tER, b⟩] tER Q :=
  callV_of (c := bodyOf f_exact_Rat_Mul) (ann := an_exact_Rat_Mul) e_exact_Rat_Mul rfl r_exact_Rat_Mul rfl rfl hQ (kcast (by kernel_rfl) h)

def an_exact_Rat_Neg : Ann := .nil
theorem w_exact_Rat_Neg {Q : ((Int × (Option (List Int))) × (Int × (Option (List Int)))) → Prop} (a : ((Int × (Option (List Int))) × (Int × (Option (List Int))))) (hQ : ∃ r, Q r) (h :
  (callV Pg c_exact_Int_Neg [⟨tEI, a.1⟩] tEI (fun p0 => (Q (p0, a.2))))) :
  callV Pg c_exact_Rat_Neg [⟨tER, a⟩] tER Q :=
  callV_of (c := bodyOf f_exact_Rat_Neg) (ann := an_exact_Rat_Neg) e_exact_Rat_Neg rfl r_exact_Rat_Neg rfl rfl hQ (kcast (by kernel_rfl) h)

def an_exact_Rat_Sign : Ann := .nil
theorem w_exact_Rat_Sign {Q : Int → Prop} (a : ((Int × (Option (List Int))) × (Int × (Option (List Int))))) (hQ : ∃ r, Q r) (h :
  (callV Pg c_exact_Int_Sign [⟨tEI, a.1⟩] tI (fun p0 => (Q p0)))) :
  callV Pg c_exact_Rat_Sign [⟨tER, a⟩] tI Q :=
  callV_of (c := bodyOf f_exact_Rat_Sign) (ann := an_exact_Rat_Sign) e_exact_Rat_Sign rfl r_exact_Rat_Sign rfl rfl hQ (kcast (by kernel_rfl) h)

def an_exact_Rat_Sub : Ann := .nil
theorem w_exact_Rat_Sub {Q : ((Int × (Option (List Int))) × (Int × (Option (List Int)))) → Prop} (a : ((Int × (Option (List Int))) × (Int × (Option (List Int))))) (b : ((Int × (Option (List Int))) × (Int × (Option (List Int))))) (hQ : ∃ r, Q r) (h :
  (callV Pg c_exact_Rat_Neg [⟨tER, (b.1, b.2)⟩] tER (fun p0 => (callV Pg c_exact_Rat_Add [⟨tER, (a.1, a.2)⟩, ⟨tER, (p0.1, p0.2)⟩] tER (fun p1 => (Q (p1.1, p1.2))))))) :
  callV Pg c_exact_Rat_Sub [⟨tER, a⟩, ⟨tER, b⟩] tER Q :=
  callV_of (c := bodyOf f_exact_Rat_Sub) (ann := an_exact_Rat_Sub) e_exact_Rat_Sub rfl r_exact_Rat_Sub rfl rfl hQ (kcast (by kernel_rfl) h)

def an_exact_Rat_Top : Ann := .nil
theorem w_exact_Rat_Top {Q : (Int × (Option (List Int))) → Prop} (a : ((Int × (Option (List Int))) × (Int × (Option (List Int))))) (hQ : ∃ r, Q r) (h :
  (Q a.1)) :
  callV Pg c_exact_Rat_Top [⟨tER, a⟩] tEI Q :=
  callV_of (c := bodyOf f_exact_Rat_Top) (ann := an_exact_Rat_Top) e_exact_Rat_Top rfl r_exact_Rat_Top rfl rfl hQ (kcast (by kernel_rfl) h)

def an_exact_Rat_whole : Ann := (.seq .nil (.seq (.reg [] [] (some ⟨[], [.var 2 (.bool)]⟩)) .nil))
theorem w_exact_Rat_whole {Q : Bool → Prop} (a : ((Int × (Option (List Int))) × (Int × (Option (List Int))))) (hQ : ∃ r, Q r) (h :
  (joinV Bool (fun p0 => (Q p0)) (fun k0 => (brV (Option.isNone a.2.2) (k0 (decide (a.2.1 ≤ (1 : Int)))) (k0 false))))) :
  callV Pg c_exact_Rat_whole [⟨tER, a⟩] .bool Q :=
  callV_of (c := bodyOf f_exact_Rat_whole) (ann := an_exact_Rat_whole) e_exact_Rat_whole rfl r_exact_Rat_whole rfl rfl hQ (kcast (by kernel_rfl) h)

def an_exact_Ratio : Ann := (.seq .nil (.seq (.seq .nil (.seq (.reg [] [] (some ⟨[(2, .ref 2 0), (3, .ref 3 0), (4, .ref 4 0), (5, .ref 5 0)], [.var 16 (.bool), .box 2 (.agg (.pair (.int .i64) (.sl (.int .u32)))), .box 3 (.agg (.pair (.int .i64) (.sl (.int .u32)))), .box 4 (.agg (.pair (.agg (.pair (.int .i64) (.sl (.int .u32)))) (.agg (.pair (.int .i64) (.sl (.int .u32)))))), .box 5 (.agg (.pair (.int .i64) (.sl (.int .u32))))]⟩)) (.cond (some ⟨[(2, .ref 2 0), (3, .ref 3 0), (4, .ref 4 0)], [.box 2 (.agg (.pair (.int .i64) (.sl (.int .u32)))), .box 3 (.agg (.pair (.int .i64) (.sl (.int .u32)))), .box 4 (.agg (.pair (.agg (.pair (.int .i64) (.sl (.int .u32)))) (.agg (.pair (.int .i64) (.sl (.int .u32))))))]⟩) .nil .nil))) (.seq (.seq .nil (.cond (some ⟨[(2, .ref 2 0), (3, .ref 3 0), (4, .ref 4 0)], [.box 2 (.agg (.pair (.int .i64) (.sl (.int .u32)))), .box 3 (.agg (.pair (.int .i64) (.sl (.int .u32)))), .box 4 (.agg (.pair (.agg (.pair (.int .i64) (.sl (.int .u32)))) (.agg (.pair (.int .i64) (.sl (.int .u32))))))]⟩) .nil .nil)) .nil)))
theorem w_exact_Ratio {Q : ((Int × (Option (List Int))) × (Int × (Option (List Int)))) → Prop} (a : (Int × (Option (List Int)))) (b : (Int × (Option (List Int)))) (hQ : ∃ r, Q r) (h :
  (callV Pg c_exact_Gcd [⟨tEI, a⟩, ⟨tEI, b⟩] tEI (fun p0 => (joinV (Bool × ((Int × (Option (List Int))) × ((Int × (Option (List Int))) × (((Int × (Option (List Int))) × (Int × (Option (List Int)))) × (Int × (Option (List Int))))))) (fun p1 => (joinV ((Int × (Option (List Int))) × ((Int × (Option (List Int))) × ((Int × (Option (List Int))) × (Int × (Option (List Int)))))) (fun p2 => (callV Pg c_exact_Int_Sign [⟨tEI, p2.2.1⟩] tI (fun p3 => (joinV ((Int × (Option (List Int))) × ((Int × (Option (List Int))) × ((Int × (Option (List Int))) × (Int × (Option (List Int)))))) (fun p4 => (Q (p4.1, p4.2.1))) (fun k4 => (brV (decide (p3 < (0 : Int))) (callV Pg c_exact_Int_Neg [⟨tEI, p2.1⟩] tEI (fun p5 => (callV Pg c_exact_Int_Neg [⟨tEI, p2.2.1⟩] tEI (fun p6 => (k4 (p5, (p6, (p2.2.2.1, p2.2.2.2)))))))) (k4 (p2.1, (p2.2.1, (p2.2.2.1, p2.2.2.2)))))))))) (fun k2 => (brV p1.1 (callV Pg c_exact_Int_Quo [⟨tEI, p1.2.1⟩, ⟨tEI, p1.2.2.2.2⟩] (.tup (.pair tEI (.pair tEI .unit))) (fun p3 => (callV Pg c_exact_Int_Quo [⟨tEI, p1.2.2.1⟩, ⟨tEI, p1.2.2.2.2⟩] (.tup (.pair tEI (.pair tEI .unit))) (fun p4 => (k2 (p3.1, (p4.1, (p1.2.2.2.1.1, p1.2.2.2.1.2)))))))) (k2 (p1.2.1, (p1.2.2.1, (p1.2.2.2.1.1, p1.2.2.2.1.2)))))))) (fun k1 => (brV (notB (decide (p0.1 = (1 : Int)))) (k1 (true, (a, (b, ((((0 : Int), none), ((0 : Int), none)), p0))))) (k1 ((notB (Option.isNone p0.2)), (a, (b, ((((0 : Int), none), ((0 : Int), none)), p0))))))))))) :
  callV Pg c_exact_Ratio [⟨tEI, a⟩, ⟨tEI, b⟩] tER Q :=
  callV_of (c := bodyOf f_exact_Ratio) (ann := an_exact_Ratio) e_exact_Ratio rfl r_exact_Ratio rfl rfl hQ (kcast (by kernel_rfl) h)

def an_exact_Whole : Ann := .nil
theorem w_exact_Whole {Q : ((Int × (Option (List Int))) × (Int × (Option (List Int)))) → Prop} (a : Int) (hQ : ∃ r, Q r) (h :
  (callV Pg c_exact_Of [⟨tI, a⟩] tEI (fun p0 => (Q (p0, ((0 : Int), none)))))) :
  callV Pg c_exact_Whole [⟨tI, a⟩] tER Q :=
  callV_of (c := bodyOf f_exact_Whole) (ann := an_exact_Whole) e_exact_Whole rfl r_exact_Whole rfl rfl hQ (kcast (by kernel_rfl) h)

def an_exact_compare : Ann := (.seq .nil (.seq .nil (.seq (.seq .nil (.blk none (.loop ⟨[], [.var 0 (.sl (.int .u32)), .var 1 (.sl (.int .u32)), .var 5 (.int .i64)]⟩ .nil))) .nil)))
theorem w_exact_compare {Q : Int → Prop} (a : (Option (List Int))) (b : (Option (List Int))) (hQ : ∃ r, Q r) (h :
  (brV (notB (decide ((szSl a) = (szSl b)))) (brV (decide ((szSl a) < (szSl b))) (Q (-(1 : Int))) (Q (1 : Int))) (loopV ((Option (List Int)) × ((Option (List Int)) × Int)) (fun k0 => (fun p1 => (brV (decide ((0 : Int) ≤ p1.2.2)) ((inS p1.1 p1.2.2) ∧ ((inS p1.2.1 p1.2.2) ∧ (brV (notB (decide ((eltS (0 : Int) p1.1 p1.2.2) = (eltS (0 : Int) p1.2.1 p1.2.2)))) ((inS p1.1 p1.2.2) ∧ ((inS p1.2.1 p1.2.2) ∧ (brV (decide ((eltS (0 : Int) p1.1 p1.2.2) < (eltS (0 : Int) p1.2.1 p1.2.2))) (Q (-(1 : Int))) (Q (1 : Int))))) (k0 (p1.1, (p1.2.1, (IntKind.wrap IntKind.i64 (p1.2.2 - (1 : Int))))))))) (Q (0 : Int))))) (a, (b, (IntKind.wrap IntKind.i64 ((szSl a) - (1 : Int)))))))) :
  callV Pg c_exact_compare [⟨tD, a⟩, ⟨tD, b⟩] tI Q :=
  callV_of (c := bodyOf f_exact_compare) (ann := an_exact_compare) e_exact_compare rfl r_exact_compare rfl rfl hQ (kcast (by kernel_rfl) h)

def an_exact_made : Ann := (.seq .nil (.seq .nil (.seq (.seq .nil (.cond (some ⟨[(4, .ref 4 0)], [.var 0 (.int .i64), .var 1 (.sl (.int .u32)), .box 4 (.agg (.pair (.int .i64) (.sl (.int .u32))))]⟩) (.seq .nil (.seq (.seq .nil (.blk none (.loop ⟨[(4, .ref 4 0)], [.var 0 (.int .i64), .var 1 (.sl (.int .u32)), .var 5 (.int .u64), .var 13 (.sl (.int .u32)), .var 14 (.int .i64), .var 15 (.int .i64), .box 4 (.agg (.pair (.int .i64) (.sl (.int .u32))))]⟩ .nil))) .nil)) .nil)) .nil)))
theorem w_exact_made {Q : (Int × (Option (List Int))) → Prop} (a : Int) (b : (Option (List Int))) (hQ : ∃ r, Q r) (h :
  (callV Pg c_exact_trim [⟨tD, b⟩] tD (fun p0 => (joinV (Int × ((Option (List Int)) × (Int × (Option (List Int))))) (fun p1 => (Q (p1.1, p1.2.1))) (fun k1 => (brV (decide ((szSl p0) ≤ (2 : Int))) (loopV (Int × ((Option (List Int)) × (Int × ((Option (List Int)) × (Int × (Int × (Int × (Option (List Int))))))))) (fun k2 => (fun p3 => (brV (decide (p3.2.2.2.2.2.1 < p3.2.2.2.2.1)) ((inS p3.2.2.2.1 p3.2.2.2.2.2.1) ∧ (((0 : Int) ≤ (IntKind.wrap IntKind.i64 ((32 : Int) * p3.2.2.2.2.2.1))) ∧ (k2 (p3.1, (p3.2.1, ((bitI BinOp.or IntKind.u64 p3.2.2.1 (shlI IntKind.u64 (IntKind.wrap IntKind.u64 (eltS (0 : Int) p3.2.2.2.1 p3.2.2.2.2.2.1)) (IntKind.wrap IntKind.i64 ((32 : Int) * p3.2.2.2.2.2.1)))), (p3.2.2.2.1, (p3.2.2.2.2.1, ((IntKind.wrap IntKind.i64 (p3.2.2.2.2.2.1 + (1 : Int))), p3.2.2.2.2.2.2))))))))) (brV (decide (p3.2.2.1 < (4611686018427387904 : Int))) (Q ((IntKind.wrap IntKind.i64 (p3.1 * (IntKind.wrap IntKind.i64 p3.2.2.1))), none)) (k1 (p3.1, (p3.2.1, p3.2.2.2.2.2.2))))))) (a, (p0, ((0 : Int), (p0, ((szSl p0), ((0 : Int), ((0 : Int), none)))))))) (k1 (a, (p0, ((0 : Int), none)))))))))) :
  callV Pg c_exact_made [⟨tI, a⟩, ⟨tD, b⟩] tEI Q :=
  callV_of (c := bodyOf f_exact_made) (ann := an_exact_made) e_exact_made rfl r_exact_made rfl rfl hQ (kcast (by kernel_rfl) h)

def an_exact_minus : Ann := (.seq .nil (.seq .nil (.seq .nil (.seq (.seq .nil (.blk none (.loop ⟨[(5, .own 1005)], [.var 0 (.sl (.int .u32)), .var 1 (.sl (.int .u32)), .var 6 (.int .u32), .var 14 (.int .i64), .var 15 (.int .i64), .arr 1005 (.int .u32)]⟩ (.seq .nil (.seq .nil (.seq (.blk none (.seq .nil (.seq .nil (.seq (.seq .nil (.cond (some ⟨[(5, .own 1005)], [.var 0 (.sl (.int .u32)), .var 1 (.sl (.int .u32)), .var 6 (.int .u32), .var 7 (.int .i64), .var 8 (.int .u32), .var 14 (.int .i64), .var 15 (.int .i64), .arr 1005 (.int .u32)]⟩) .nil .nil)) .nil)))) .nil)))))) .nil))))
theorem w_exact_minus {Q : (Option (List Int)) → Prop} (a : (Option (List Int))) (b : (Option (List Int))) (hQ : ∃ r, Q r) (h :
  ((mkC 4 (0 : Int) (szSl a)) ∧ (loopV ((Option (List Int)) × ((Option (List Int)) × (Int × (Int × (Int × (Option (List Int))))))) (fun k0 => (fun p1 => (brV (decide (p1.2.2.2.2.1 < p1.2.2.2.1)) (joinV ((Option (List Int)) × ((Option (List Int)) × (Int × (Int × (Int × (Int × (Int × (Option (List Int))))))))) (fun p2 => ((inS p2.1 p2.2.2.2.1) ∧ (callV Pg c_math_bits_Sub32 [⟨tU, (eltS (0 : Int) p2.1 p2.2.2.2.1)⟩, ⟨tU, p2.2.2.2.2.1⟩, ⟨tU, p2.2.2.1⟩] (.tup (.pair tU (.pair tU .unit))) (fun p3 => ((appC 4 p2.2.2.2.2.2.2.2 (lst (some [p3.1]))) ∧ (k0 (p2.1, (p2.2.1, (p3.2.1, (p2.2.2.2.2.2.1, ((IntKind.wrap IntKind.i64 (p2.2.2.2.2.2.2.1 + (1 : Int))), (appL p2.2.2.2.2.2.2.2 (lst (some [p3.1])))))))))))))) (fun k2 => (brV (decide (p1.2.2.2.2.1 < (szSl p1.2.1))) ((inS p1.2.1 p1.2.2.2.2.1) ∧ (k2 (p1.1, (p1.2.1, (p1.2.2.1, (p1.2.2.2.2.1, ((eltS (0 : Int) p1.2.1 p1.2.2.2.2.1), (p1.2.2.2.1, p1.2.2.2.2)))))))) (k2 (p1.1, (p1.2.1, (p1.2.2.1, (p1.2.2.2.2.1, ((0 : Int), (p1.2.2.2.1, p1.2.2.2.2)))))))))) (Q p1.2.2.2.2.2)))) (a, (b, ((0 : Int), ((szSl a), ((0 : Int), (some (repS (0 : Int) (0 : Int))))))))))) :
  callV Pg c_exact_minus [⟨tD, a⟩, ⟨tD, b⟩] tD Q :=
  callV_of (c := bodyOf f_exact_minus) (ann := an_exact_minus) e_exact_minus rfl r_exact_minus rfl rfl hQ (kcast (by kernel_rfl) h)

def an_exact_one : Ann := .nil
theorem w_exact_one {Q : (Int × (Option (List Int))) → Prop} (hQ : ∃ r, Q r) (h :
  (Q ((1 : Int), none))) :
  callV Pg c_exact_one [] tEI Q :=
  callV_of (c := bodyOf f_exact_one) (ann := an_exact_one) e_exact_one rfl r_exact_one rfl rfl hQ (kcast (by kernel_rfl) h)

def an_exact_plus : Ann := (.seq .nil (.seq (.seq .nil (.cond (some ⟨[], [.var 0 (.sl (.int .u32)), .var 1 (.sl (.int .u32))]⟩) .nil .nil)) (.seq .nil (.seq .nil (.seq (.seq .nil (.blk none (.loop ⟨[(5, .own 1005)], [.var 0 (.sl (.int .u32)), .var 1 (.sl (.int .u32)), .var 6 (.int .u32), .var 22 (.int .i64), .var 23 (.int .i64), .arr 1005 (.int .u32)]⟩ (.seq .nil (.seq .nil (.seq (.blk none (.seq .nil (.seq .nil (.seq (.seq .nil (.cond (some ⟨[(5, .own 1005)], [.var 0 (.sl (.int .u32)), .var 1 (.sl (.int .u32)), .var 6 (.int .u32), .var 7 (.int .i64), .var 8 (.int .u32), .var 22 (.int .i64), .var 23 (.int .i64), .arr 1005 (.int .u32)]⟩) .nil .nil)) .nil)))) .nil)))))) .nil)))))
theorem w_exact_plus {Q : (Option (List Int)) → Prop} (a : (Option (List Int))) (b : (Option (List Int))) (hQ : ∃ r, Q r) (h :
  (joinV ((Option (List Int)) × (Option (List Int))) (fun p0 => ((mkC 4 (0 : Int) (IntKind.wrap IntKind.i64 ((szSl p0.1) + (1 : Int)))) ∧ (loopV ((Option (List Int)) × ((Option (List Int)) × (Int × (Int × (Int × (Option (List Int))))))) (fun k1 => (fun p2 => (brV (decide (p2.2.2.2.2.1 < p2.2.2.2.1)) (joinV ((Option (List Int)) × ((Option (List Int)) × (Int × (Int × (Int × (Int × (Int × (Option (List Int))))))))) (fun p3 => ((inS p3.1 p3.2.2.2.1) ∧ (callV Pg c_math_bits_Add32 [⟨tU, (eltS (0 : Int) p3.1 p3.2.2.2.1)⟩, ⟨tU, p3.2.2.2.2.1⟩, ⟨tU, p3.2.2.1⟩] (.tup (.pair tU (.pair tU .unit))) (fun p4 => ((appC 4 p3.2.2.2.2.2.2.2 (lst (some [p4.1]))) ∧ (k1 (p3.1, (p3.2.1, (p4.2.1, (p3.2.2.2.2.2.1, ((IntKind.wrap IntKind.i64 (p3.2.2.2.2.2.2.1 + (1 : Int))), (appL p3.2.2.2.2.2.2.2 (lst (some [p4.1])))))))))))))) (fun k3 => (brV (decide (p2.2.2.2.2.1 < (szSl p2.2.1))) ((inS p2.2.1 p2.2.2.2.2.1) ∧ (k3 (p2.1, (p2.2.1, (p2.2.2.1, (p2.2.2.2.2.1, ((eltS (0 : Int) p2.2.1 p2.2.2.2.2.1), (p2.2.2.2.1, p2.2.2.2.2)))))))) (k3 (p2.1, (p2.2.1, (p2.2.2.1, (p2.2.2.2.2.1, ((0 : Int), (p2.2.2.2.1, p2.2.2.2.2)))))))))) ((appC 4 p2.2.2.2.2.2 (lst (some [p2.2.2.1]))) ∧ (Q (appL p2.2.2.2.2.2 (lst (some [p2.2.2.1])))))))) (p0.1, (p0.2, ((0 : Int), ((szSl p0.1), ((0 : Int), (some (repS (0 : Int) (0 : Int))))))))))) (fun k0 => (brV (decide ((szSl a) < (szSl b))) (k0 (b, a)) (k0 (a, b)))))) :
  callV Pg c_exact_plus [⟨tD, a⟩, ⟨tD, b⟩] tD Q :=
  callV_of (c := bodyOf f_exact_plus) (ann := an_exact_plus) e_exact_plus rfl r_exact_plus rfl rfl hQ (kcast (by kernel_rfl) h)

def an_exact_shifted : Ann := (.seq .nil (.seq .nil (.seq (.seq .nil (.blk none (.loop ⟨[(5, .own 12)], [.var 1 (.int .i64), .var 13 (.sl (.int .u32)), .var 14 (.int .i64), .var 15 (.int .i64), .arr 12 (.int .u32)]⟩ .nil))) .nil)))
theorem w_exact_shifted {Q : (Option (List Int)) → Prop} (a : (Option (List Int))) (b : Int) (hQ : ∃ r, Q r) (h :
  ((mkC 4 (IntKind.wrap IntKind.i64 ((szSl a) + (1 : Int))) (IntKind.wrap IntKind.i64 ((szSl a) + (1 : Int)))) ∧ (loopV (Int × ((Option (List Int)) × (Int × (Int × (Option (List Int)))))) (fun k0 => (fun p1 => (brV (decide (p1.2.2.2.1 < p1.2.2.1)) ((inS p1.2.1 p1.2.2.2.1) ∧ (((0 : Int) ≤ p1.1) ∧ ((inS p1.2.2.2.2 p1.2.2.2.1) ∧ ((inS p1.2.2.2.2 p1.2.2.2.1) ∧ (((0 : Int) ≤ (32 : Int)) ∧ ((inS (setO p1.2.2.2.2 (toN p1.2.2.2.1) (bitI BinOp.or IntKind.u32 (eltN (0 : Int) p1.2.2.2.2 (toN p1.2.2.2.1)) (IntKind.wrap IntKind.u32 (shlI IntKind.u64 (IntKind.wrap IntKind.u64 (eltS (0 : Int) p1.2.1 p1.2.2.2.1)) p1.1)))) (IntKind.wrap IntKind.i64 (p1.2.2.2.1 + (1 : Int)))) ∧ (k0 (p1.1, (p1.2.1, (p1.2.2.1, ((IntKind.wrap IntKind.i64 (p1.2.2.2.1 + (1 : Int))), (setO (setO p1.2.2.2.2 (toN p1.2.2.2.1) (bitI BinOp.or IntKind.u32 (eltN (0 : Int) p1.2.2.2.2 (toN p1.2.2.2.1)) (IntKind.wrap IntKind.u32 (shlI IntKind.u64 (IntKind.wrap IntKind.u64 (eltS (0 : Int) p1.2.1 p1.2.2.2.1)) p1.1)))) (toN (IntKind.wrap IntKind.i64 (p1.2.2.2.1 + (1 : Int)))) (IntKind.wrap IntKind.u32 (shrI IntKind.u64 (shlI IntKind.u64 (IntKind.wrap IntKind.u64 (eltS (0 : Int) p1.2.1 p1.2.2.2.1)) p1.1) (32 : Int))))))))))))))) (Q p1.2.2.2.2)))) (b, (a, ((szSl a), ((0 : Int), (some (repS (IntKind.wrap IntKind.i64 ((szSl a) + (1 : Int))) (0 : Int)))))))))) :
  ownV Pg c_exact_shifted [⟨tD, a⟩, ⟨tI, b⟩] tU Q :=
  ownV_of (c := bodyOf f_exact_shifted) (ann := an_exact_shifted) e_exact_shifted rfl r_exact_shifted rfl rfl hQ (kcast (by kernel_rfl) h)

def an_exact_short : Ann := (.seq .nil (.seq .nil (.seq .nil (.seq (.seq .nil (.blk none (.loop ⟨[(6, .own 11)], [.var 0 (.sl (.int .u32)), .var 1 (.int .u32), .var 7 (.int .u32), .var 8 (.int .i64), .arr 11 (.int .u32)]⟩ .nil))) .nil))))
theorem w_exact_short {Q : ((Option (List Int)) × (Int × Unit)) → Prop} (a : (Option (List Int))) (b : Int) (hQ : ∃ r, Q r) (h :
  ((mkC 4 (szSl a) (szSl a)) ∧ (loopV ((Option (List Int)) × (Int × (Int × (Int × (Option (List Int)))))) (fun k0 => (fun p1 => (brV (decide ((0 : Int) ≤ p1.2.2.2.1)) ((inS p1.1 p1.2.2.2.1) ∧ (callV Pg c_math_bits_Div32 [⟨tU, p1.2.2.1⟩, ⟨tU, (eltS (0 : Int) p1.1 p1.2.2.2.1)⟩, ⟨tU, p1.2.1⟩] (.tup (.pair tU (.pair tU .unit))) (fun p2 => ((inS p1.2.2.2.2 p1.2.2.2.1) ∧ (k0 (p1.1, (p1.2.1, (p2.2.1, ((IntKind.wrap IntKind.i64 (p1.2.2.2.1 - (1 : Int))), (setO p1.2.2.2.2 (toN p1.2.2.2.1) p2.1)))))))))) (Q (p1.2.2.2.2, (p1.2.2.1, ())))))) (a, (b, ((0 : Int), ((IntKind.wrap IntKind.i64 ((szSl a) - (1 : Int))), (some (repS (szSl a) (0 : Int)))))))))) :
  callV Pg c_exact_short [⟨tD, a⟩, ⟨tU, b⟩] (.tup (.pair tD (.pair tU .unit))) Q :=
  callV_of (c := bodyOf f_exact_short) (ann := an_exact_short) e_exact_short rfl r_exact_short rfl rfl hQ (kcast (by kernel_rfl) h)

def an_exact_trim : Ann := (.seq .nil (.seq (.blk none (.loop ⟨[], [.var 0 (.sl (.int .u32))]⟩ (.seq (.seq (.reg [] [] (some ⟨[], [.var 0 (.sl (.int .u32)), .var 14 (.bool)]⟩)) .nil) .nil))) .nil))
theorem w_exact_trim {Q : (Option (List Int)) → Prop} (a : (Option (List Int))) (hQ : ∃ r, Q r) (h :
  (loopV (Option (List Int)) (fun k0 => (fun p1 => (joinV ((Option (List Int)) × Bool) (fun p2 => (brV p2.2 ((inR p2.1 (0 : Int) (IntKind.wrap IntKind.i64 ((szSl p2.1) - (1 : Int)))) ∧ (k0 (slcS p2.1 (0 : Int) (IntKind.wrap IntKind.i64 ((szSl p2.1) - (1 : Int)))))) (Q p2.1))) (fun k2 => (brV (decide ((0 : Int) < (szSl p1))) ((inS p1 (IntKind.wrap IntKind.i64 ((szSl p1) - (1 : Int)))) ∧ (k2 (p1, (decide ((eltS (0 : Int) p1 (IntKind.wrap IntKind.i64 ((szSl p1) - (1 : Int)))) = (0 : Int)))))) (k2 (p1, false))))))) a)) :
  callV Pg c_exact_trim [⟨tD, a⟩] tD Q :=
  callV_of (c := bodyOf f_exact_trim) (ann := an_exact_trim) e_exact_trim rfl r_exact_trim rfl rfl hQ (kcast (by kernel_rfl) h)

def an_math_bits_Add32 : Ann := .nil
theorem w_math_bits_Add32 {Q : (Int × (Int × Unit)) → Prop} (a : Int) (b : Int) (c : Int) (hQ : ∃ r, Q r) (h :
  (((0 : Int) ≤ (32 : Int)) ∧ (Q ((IntKind.wrap IntKind.u32 (IntKind.wrap IntKind.u64 ((IntKind.wrap IntKind.u64 ((IntKind.wrap IntKind.u64 a) + (IntKind.wrap IntKind.u64 b))) + (IntKind.wrap IntKind.u64 c)))), ((IntKind.wrap IntKind.u32 (shrI IntKind.u64 (IntKind.wrap IntKind.u64 ((IntKind.wrap IntKind.u64 ((IntKind.wrap IntKind.u64 a) + (IntKind.wrap IntKind.u64 b))) + (IntKind.wrap IntKind.u64 c))) (32 : Int))), ()))))) :
  callV Pg c_math_bits_Add32 [⟨tU, a⟩, ⟨tU, b⟩, ⟨tU, c⟩] (.tup (.pair tU (.pair tU .unit))) Q :=
  callV_of (c := bodyOf f_math_bits_Add32) (ann := an_math_bits_Add32) e_math_bits_Add32 rfl r_math_bits_Add32 rfl rfl hQ (kcast (by kernel_rfl) h)

def an_math_bits_Div32 : Ann := (.seq .nil (.seq (.seq (.reg [] [] (some ⟨[], [.var 0 (.int .u32), .var 1 (.int .u32), .var 2 (.int .u32), .var 15 (.bool)]⟩)) .nil) .nil))
theorem w_math_bits_Div32 {Q : (Int × (Int × Unit)) → Prop} (a : Int) (b : Int) (c : Int) (hQ : ∃ r, Q r) (h :
  (joinV (Int × (Int × (Int × Bool))) (fun p0 => (brV p0.2.2.2 False (((0 : Int) ≤ (32 : Int)) ∧ (((IntKind.wrap IntKind.u64 p0.2.2.1) ≠ (0 : Int)) ∧ (((IntKind.wrap IntKind.u64 p0.2.2.1) ≠ (0 : Int)) ∧ (Q ((IntKind.wrap IntKind.u32 (IntKind.wrap IntKind.u64 (Int.tdiv (bitI BinOp.or IntKind.u64 (shlI IntKind.u64 (IntKind.wrap IntKind.u64 p0.1) (32 : Int)) (IntKind.wrap IntKind.u64 p0.2.1)) (IntKind.wrap IntKind.u64 p0.2.2.1)))), ((IntKind.wrap IntKind.u32 (Int.tmod (bitI BinOp.or IntKind.u64 (shlI IntKind.u64 (IntKind.wrap IntKind.u64 p0.1) (32 : Int)) (IntKind.wrap IntKind.u64 p0.2.1)) (IntKind.wrap IntKind.u64 p0.2.2.1))), ())))))))) (fun k0 => (brV (notB (decide (c = (0 : Int)))) (k0 (a, (b, (c, (decide (c ≤ a)))))) (k0 (a, (b, (c, false)))))))) :
  callV Pg c_math_bits_Div32 [⟨tU, a⟩, ⟨tU, b⟩, ⟨tU, c⟩] (.tup (.pair tU (.pair tU .unit))) Q :=
  callV_of (c := bodyOf f_math_bits_Div32) (ann := an_math_bits_Div32) e_math_bits_Div32 rfl r_math_bits_Div32 rfl rfl hQ (kcast (by kernel_rfl) h)

def an_math_bits_LeadingZeros32 : Ann := .nil
theorem w_math_bits_LeadingZeros32 {Q : Int → Prop} (a : Int) (hQ : ∃ r, Q r) (h :
  (callV Pg c_math_bits_Len32 [⟨tU, a⟩] tI (fun p0 => (Q (IntKind.wrap IntKind.i64 ((32 : Int) - p0)))))) :
  callV Pg c_math_bits_LeadingZeros32 [⟨tU, a⟩] tI Q :=
  callV_of (c := bodyOf f_math_bits_LeadingZeros32) (ann := an_math_bits_LeadingZeros32) e_math_bits_LeadingZeros32 rfl r_math_bits_LeadingZeros32 rfl rfl hQ (kcast (by kernel_rfl) h)

def an_math_bits_Len32 : Ann := (.seq .nil (.seq (.seq .nil (.cond (some ⟨[], [.var 0 (.int .u32), .var 2 (.int .i64)]⟩) .nil .nil)) (.seq (.seq .nil (.cond (some ⟨[], [.var 0 (.int .u32), .var 2 (.int .i64)]⟩) .nil .nil)) .nil)))
theorem w_math_bits_Len32 {Q : Int → Prop} (a : Int) (hQ : ∃ r, Q r) (h :
  (joinV (Int × Int) (fun p0 => (joinV (Int × Int) (fun p1 => ((((0 : Int) ≤ (IntKind.wrap IntKind.u8 p1.1)) ∧ ((IntKind.wrap IntKind.u8 p1.1) < (szStr (bytesL [0, 1, 2, 2, 3, 3, 3, 3, 4, 4, 4, 4, 4, 4, 4, 4, 5, 5, 5, 5, 5, 5, 5, 5, 5, 5, 5, 5, 5, 5, 5, 5, 6, 6, 6, 6, 6, 6, 6, 6, 6, 6, 6, 6, 6, 6, 6, 6, 6, 6, 6, 6, 6, 6, 6, 6, 6, 6, 6, 6, 6, 6, 6, 6, 7, 7, 7, 7, 7, 7, 7, 7, 7, 7, 7, 7, 7, 7, 7, 7, 7, 7, 7, 7, 7, 7, 7, 7, 7, 7, 7, 7, 7, 7, 7, 7, 7, 7, 7, 7, 7, 7, 7, 7, 7, 7, 7, 7, 7, 7, 7, 7, 7, 7, 7, 7, 7, 7, 7, 7, 7, 7, 7, 7, 7, 7, 7, 7, 8, 8, 8, 8, 8, 8, 8, 8, 8, 8, 8, 8, 8, 8, 8, 8, 8, 8, 8, 8, 8, 8, 8, 8, 8, 8, 8, 8, 8, 8, 8, 8, 8, 8, 8, 8, 8, 8, 8, 8, 8, 8, 8, 8, 8, 8, 8, 8, 8, 8, 8, 8, 8, 8, 8, 8, 8, 8, 8, 8, 8, 8, 8, 8, 8, 8, 8, 8, 8, 8, 8, 8, 8, 8, 8, 8, 8, 8, 8, 8, 8, 8, 8, 8, 8, 8, 8, 8, 8, 8, 8, 8, 8, 8, 8, 8, 8, 8, 8, 8, 8, 8, 8, 8, 8, 8, 8, 8, 8, 8, 8, 8, 8, 8, 8, 8, 8, 8, 8, 8, 8, 8, 8, 8, 8, 8, 8, 8])))) ∧ (Q (IntKind.wrap IntKind.i64 (p1.2 + (IntKind.wrap IntKind.i64 (byteAt (bytesL [0, 1, 2, 2, 3, 3, 3, 3, 4, 4, 4, 4, 4, 4, 4, 4, 5, 5, 5, 5, 5, 5, 5, 5, 5, 5, 5, 5, 5, 5, 5, 5, 6, 6, 6, 6, 6, 6, 6, 6, 6, 6, 6, 6, 6, 6, 6, 6, 6, 6, 6, 6, 6, 6, 6, 6, 6, 6, 6, 6, 6, 6, 6, 6, 7, 7, 7, 7, 7, 7, 7, 7, 7, 7, 7, 7, 7, 7, 7, 7, 7, 7, 7, 7, 7, 7, 7, 7, 7, 7, 7, 7, 7, 7, 7, 7, 7, 7, 7, 7, 7, 7, 7, 7, 7, 7, 7, 7, 7, 7, 7, 7, 7, 7, 7, 7, 7, 7, 7, 7, 7, 7, 7, 7, 7, 7, 7, 7, 8, 8, 8, 8, 8, 8, 8, 8, 8, 8, 8, 8, 8, 8, 8, 8, 8, 8, 8, 8, 8, 8, 8, 8, 8, 8, 8, 8, 8, 8, 8, 8, 8, 8, 8, 8, 8, 8, 8, 8, 8, 8, 8, 8, 8, 8, 8, 8, 8, 8, 8, 8, 8, 8, 8, 8, 8, 8, 8, 8, 8, 8, 8, 8, 8, 8, 8, 8, 8, 8, 8, 8, 8, 8, 8, 8, 8, 8, 8, 8, 8, 8, 8, 8, 8, 8, 8, 8, 8, 8, 8, 8, 8, 8, 8, 8, 8, 8, 8, 8, 8, 8, 8, 8, 8, 8, 8, 8, 8, 8, 8, 8, 8, 8, 8, 8, 8, 8, 8, 8, 8, 8, 8, 8, 8, 8, 8, 8]) (IntKind.wrap IntKind.u8 p1.1)))))))) (fun k1 => (brV (decide ((256 : Int) ≤ p0.1)) (((0 : Int) ≤ (8 : Int)) ∧ (k1 ((shrI IntKind.u32 p0.1 (8 : Int)), (IntKind.wrap IntKind.i64 (p0.2 + (8 : Int)))))) (k1 p0))))) (fun k0 => (brV (decide ((65536 : Int) ≤ a)) (((0 : Int) ≤ (16 : Int)) ∧ (k0 ((shrI IntKind.u32 a (16 : Int)), (16 : Int)))) (k0 (a, (0 : Int))))))) :
  callV Pg c_math_bits_Len32 [⟨tU, a⟩] tI Q :=
  callV_of (c := bodyOf f_math_bits_Len32) (ann := an_math_bits_Len32) e_math_bits_Len32 rfl r_math_bits_Len32 rfl rfl hQ (kcast (by kernel_rfl) h)

def an_math_bits_Mul64 : Ann := .nil
theorem w_math_bits_Mul64 {Q : (Int × (Int × Unit)) → Prop} (a : Int) (b : Int) (hQ : ∃ r, Q r) (h :
  (((0 : Int) ≤ (32 : Int)) ∧ (((0 : Int) ≤ (32 : Int)) ∧ (((0 : Int) ≤ (32 : Int)) ∧ (((0 : Int) ≤ (32 : Int)) ∧ (((0 : Int) ≤ (32 : Int)) ∧ (Q ((IntKind.wrap IntKind.u64 ((IntKind.wrap IntKind.u64 ((IntKind.wrap IntKind.u64 ((shrI IntKind.u64 a (32 : Int)) * (shrI IntKind.u64 b (32 : Int)))) + (shrI IntKind.u64 (IntKind.wrap IntKind.u64 ((IntKind.wrap IntKind.u64 ((shrI IntKind.u64 a (32 : Int)) * (bitI BinOp.and IntKind.u64 b (4294967295 : Int)))) + (shrI IntKind.u64 (IntKind.wrap IntKind.u64 ((bitI BinOp.and IntKind.u64 a (4294967295 : Int)) * (bitI BinOp.and IntKind.u64 b (4294967295 : Int)))) (32 : Int)))) (32 : Int)))) + (shrI IntKind.u64 (IntKind.wrap IntKind.u64 ((bitI BinOp.and IntKind.u64 (IntKind.wrap IntKind.u64 ((IntKind.wrap IntKind.u64 ((shrI IntKind.u64 a (32 : Int)) * (bitI BinOp.and IntKind.u64 b (4294967295 : Int)))) + (shrI IntKind.u64 (IntKind.wrap IntKind.u64 ((bitI BinOp.and IntKind.u64 a (4294967295 : Int)) * (bitI BinOp.and IntKind.u64 b (4294967295 : Int)))) (32 : Int)))) (4294967295 : Int)) + (IntKind.wrap IntKind.u64 ((bitI BinOp.and IntKind.u64 a (4294967295 : Int)) * (shrI IntKind.u64 b (32 : Int)))))) (32 : Int)))), ((IntKind.wrap IntKind.u64 (a * b)), ()))))))))) :
  callV Pg c_math_bits_Mul64 [⟨(.int .u64), a⟩, ⟨(.int .u64), b⟩] (.tup (.pair (.int .u64) (.pair (.int .u64) .unit))) Q :=
  callV_of (c := bodyOf f_math_bits_Mul64) (ann := an_math_bits_Mul64) e_math_bits_Mul64 rfl r_math_bits_Mul64 rfl rfl hQ (kcast (by kernel_rfl) h)

def an_math_bits_Sub32 : Ann := .nil
theorem w_math_bits_Sub32 {Q : (Int × (Int × Unit)) → Prop} (a : Int) (b : Int) (c : Int) (hQ : ∃ r, Q r) (h :
  (((0 : Int) ≤ (31 : Int)) ∧ (Q ((IntKind.wrap IntKind.u32 ((IntKind.wrap IntKind.u32 (a - b)) - c)), ((shrI IntKind.u32 (bitI BinOp.or IntKind.u32 (bitI BinOp.and IntKind.u32 (bitI BinOp.xor IntKind.u32 ((4294967296 : Int) - (1 : Int)) a) b) (bitI BinOp.and IntKind.u32 (bitI BinOp.xor IntKind.u32 ((4294967296 : Int) - (1 : Int)) (bitI BinOp.xor IntKind.u32 a b)) (IntKind.wrap IntKind.u32 ((IntKind.wrap IntKind.u32 (a - b)) - c)))) (31 : Int)), ()))))) :
  callV Pg c_math_bits_Sub32 [⟨tU, a⟩, ⟨tU, b⟩, ⟨tU, c⟩] (.tup (.pair tU (.pair tU .unit))) Q :=
  callV_of (c := bodyOf f_math_bits_Sub32) (ann := an_math_bits_Sub32) e_math_bits_Sub32 rfl r_math_bits_Sub32 rfl rfl hQ (kcast (by kernel_rfl) h)

end Go.Proofs.Pf

