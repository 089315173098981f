/- Typed pure data, a condition on code that says what a call gives, what the code of each function comes to, and what each function gives. -/
import Derived.Lib.LaidTab
import Derived.Lib.ItoaNum
import Derived.Laws.CopyRow
import Derived.Laws.AppendOwn
import Derived.Laws.MakeOwn
import Derived.Laws.BytesString
import Derived.Laws.StructEq
import Derived.Laws.Small
import Derived.Tactics
import Derived.Calls
import Derived.Below
import Derived.KernelRfl
import Derived.Laws.Cells
import Derived.Test.YthdhckgmbfkglaaGreatDoorProg
import Derived.Test.YthdhckgmbfkglaaGreatDoorA8
import Derived.Test.YthdhckgmbfkglaaGreatDoorA9
import Derived.Test.YthdhckgmbfkglaaGreatDoorA10
set_option linter.unusedVariables false
set_option linter.unusedSimpArgs false
namespace Go.Proofs.Pf

open Go Go.VM

variable {x y : (Int × Option (List Int)) × (Int × Option (List Int))} {q r : Rat} {k : Nat}

theorem RV_whole {a : Int × Option (List Int)} {n : Int} (h : IV a n) : RV (a, ((0 : Int), none)) (Rat.divInt n 1) := by
  obtain ⟨h1, h2⟩ := divInt_one n
  refine ⟨by rw [h1]; exact h, .inr ⟨⟨rfl, by decide, by decide⟩, by rw [h2]; rfl⟩⟩

theorem s_RAdd (hlong : LongS) (hx : RV x q) (hy : RV y r) (fx : RFit k q) (fy : RFit k r) (hk : k + k + 1 ≤ 1073741824) : callV Pg c_exact_Rat_Add [⟨tER, x⟩, ⟨tER, y⟩] tER fun z => RV z (q + r) := by
  have hq := q.den_nz
  have hr := r.den_nz
  refine w_exact_Rat_Add x y (RV_ex _) (joinR (fun p => ∃ b : Bool, p = (b, x, y, ((0 : Int), none), ((0 : Int), none)) ∧ (b = true → q.den = 1 ∧ r.den = 1)) ?_ ?_)
  · rintro _ ⟨b, rfl, hb⟩
    refine brV_iff.2 ⟨fun h => ?_, fun _ => ?_⟩
    · obtain ⟨h1, h2⟩ := hb h
      refine (s_Add hx.1 hy.1 fx.1 fy.1 (by omega)).mono fun p hp => ?_
      rw [rat_add, h1, h2]
      have e : q.num * ((1 : Nat) : Int) + r.num * ((1 : Nat) : Int) = q.num + r.num := by omega
      rw [e]
      exact RV_whole hp
    · refine (s_Low hy).mono fun p1 h1 => (s_Mul hx.1 h1 fx.1 fy.2 (by omega) (by omega)).mono fun p2 h2 => ?_
      refine (s_Low hx).mono fun p3 h3 => (s_Mul hy.1 h3 fy.1 fx.2 (by omega) (by omega)).mono fun p4 h4 => ?_
      refine (s_Add h2 h4 (fx.1.mul fy.2 (Nat.le_refl _)) (fy.1.mul fx.2 (Nat.le_refl _)) (by omega)).mono fun p5 h5 => ?_
      refine (s_Low hx).mono fun p6 h6 => (s_Low hy).mono fun p7 h7 => (s_Mul h6 h7 fx.2 fy.2 (by omega) (by omega)).mono fun p8 h8 => ?_
      refine (s_Ratio hlong h5 h8 ?_ ((fx.1.mul fy.2 (Nat.le_refl _)).add (fy.1.mul fx.2 (Nat.le_refl _)) (Nat.lt_succ_self _)) ((fx.2.mul fy.2 (Nat.le_refl _)).mono (Nat.le_succ _)) hk).mono fun p9 h9 => ?_
      · exact Int.mul_ne_zero (by omega) (by omega)
      · rw [rat_add]; exact h9
  · intro k' hk'
    refine (s_whole hx).mono fun b hb => brV_iff.2 ⟨fun h => ?_, fun _ => hk' _ ⟨false, rfl, fun h => by simp at h⟩⟩
    refine (s_whole hy).mono fun c hc => hk' _ ⟨c, rfl, fun h2 => ⟨hb h, hc h2⟩⟩

theorem s_RSub (hlong : LongS) (hx : RV x q) (hy : RV y r) (fx : RFit k q) (fy : RFit k r) (hk : k + k + 1 ≤ 1073741824) : callV Pg c_exact_Rat_Sub [⟨tER, x⟩, ⟨tER, y⟩] tER fun z => RV z (q - r) := by
  refine w_exact_Rat_Sub x y (RV_ex _) ((s_RNeg hy).mono fun p h => ?_)
  rw [Rat.sub_eq_add_neg]
  exact (s_RAdd hlong hx h fx ⟨fy.1.neg, fy.2⟩ hk).mono fun z hz => hz

end Go.Proofs.Pf

namespace Go.Proofs.Pf

open Go Go.VM

def NumOk (a : Int × Int) : Prop := 1 ≤ a.2 ∧ a.2 ≤ 1152921504606846976 ∧ a.1 ≤ 1152921504606846976 ∧ -1152921504606846976 ≤ a.1 ∧ Int.gcd a.1 a.2 = 1

instance (a : Int × Int) : Decidable (NumOk a) := by unfold NumOk; infer_instance

def numQ (a : Int × Int) : Rat := Rat.divInt a.1 a.2

theorem NumOk.q {a : Int × Int} (h : NumOk a) : (numQ a).num = a.1 ∧ ((numQ a).den : Int) = a.2 := by
  obtain ⟨h1, h2, h3, h4, h5⟩ := h
  have e : sgn a.2 = 1 := if_pos (by omega)
  rw [numQ, ratio_num _ _ (by omega), ratio_den _ _ (by omega), e, h5]
  simp

theorem fit_i64 {n : Int} (h1 : -9223372036854775808 ≤ n) (h2 : n < 9223372036854775808) : Fit 2 n := by
  unfold Fit
  rw [show (4294967296 : Int) ^ 2 = 18446744073709551616 from rfl]
  omega

theorem s_Valid (hlong : LongS) (a : Int × Int) : callV Pg c_num_Valid [⟨tNum, a⟩] .bool fun r => r = decide (NumOk a) := by
  refine w_num_Valid a ⟨_, rfl⟩ (joinR (fun p => ∃ b : Bool, p = (b, a) ∧ (b = true → ¬ NumOk a) ∧ (b = false → 1 ≤ a.2 ∧ a.2 ≤ 1152921504606846976 ∧ a.1 ≤ 1152921504606846976 ∧ -1152921504606846976 ≤ a.1)) ?_ ?_)
  · rintro _ ⟨b, rfl, h1, h2⟩
    refine brV_iff.2 ⟨fun h => ?_, fun h => ?_⟩
    · exact (decide_eq_false (h1 h)).symm
    · obtain ⟨q1, q2, q3, q4⟩ := h2 h
      refine (s_Of (n := a.1) (by omega) (by omega)).mono fun p1 e1 => (s_Of (n := a.2) (by omega) (by omega)).mono fun p2 e2 => ?_
      refine (s_Gcd hlong e1 e2 (fit_i64 (by omega) (by omega)) (fit_i64 (by omega) (by omega)) (by omega)).mono fun p3 e3 => (s_Int e3 (by decide) (by decide)).mono ?_
      rintro _ rfl
      refine decide_eq_decide.2 ?_
      unfold smallI NumOk
      split
      · constructor
        · intro h; have h : ((Int.gcd a.1 a.2 : Nat) : Int) = 1 := h; exact ⟨q1, q2, q3, q4, by omega⟩
        · rintro ⟨_, _, _, _, h⟩; show ((Int.gcd a.1 a.2 : Nat) : Int) = 1; omega
      · rename_i hn
        constructor
        · intro h; simp at h
        · rintro ⟨_, _, _, _, h⟩; exact absurd ⟨by omega, by omega⟩ hn
  · intro k hk
    refine brV_iff.2 ⟨fun h => hk _ ⟨true, rfl, fun _ hN => ?_, fun h => by simp at h⟩, fun h => brV_iff.2 ⟨fun h2 => hk _ ⟨true, rfl, fun _ hN => ?_, fun h => by simp at h⟩, fun h2 => brV_iff.2 ⟨fun h3 => hk _ ⟨true, rfl, fun _ hN => ?_, fun h => by simp at h⟩, fun h3 => hk _ ⟨_, rfl, fun h4 hN => ?_, fun h4 => ?_⟩⟩⟩⟩
    · have h : a.2 < 1 := dec_t h
      have := hN.1; omega
    · have h2 : 1152921504606846976 < a.2 := dec_t h2
      have := hN.2.1; omega
    · have h3 : 1152921504606846976 < a.1 := dec_t h3
      have := hN.2.2.1; omega
    · have h4 : a.1 < -1152921504606846976 := dec_t h4
      have := hN.2.2.2.1; omega
    · have h : ¬ a.2 < 1 := dec_f h
      have h2 : ¬ 1152921504606846976 < a.2 := dec_f h2
      have h3 : ¬ 1152921504606846976 < a.1 := dec_f h3
      have h4 : ¬ a.1 < -1152921504606846976 := dec_f h4
      omega

theorem s_Rat (hlong : LongS) {a : Int × Int} (h : NumOk a) : callV Pg c_num_Rat [⟨tNum, a⟩] tER fun r => RV r (numQ a) := by
  obtain ⟨q1, q2, q3, q4, _⟩ := h
  refine w_num_Rat a (RV_ex _) ((s_Of (n := a.1) (by omega) (by omega)).mono fun p1 e1 => (s_Of (n := a.2) (by omega) (by omega)).mono fun p2 e2 => ?_)
  exact (s_Ratio hlong e1 e2 (by omega) (fit_i64 (by omega) (by omega)) (fit_i64 (by omega) (by omega)) (by omega)).mono fun p h => h

theorem NumOk.fit {a : Int × Int} (h : NumOk a) : RFit 2 (numQ a) := by
  obtain ⟨e1, e2⟩ := h.q
  obtain ⟨q1, q2, q3, q4, _⟩ := h
  exact ⟨by rw [e1]; exact fit_i64 (by omega) (by omega), by rw [e2]; exact fit_i64 (by omega) (by omega)⟩

end Go.Proofs.Pf

namespace Go.Proofs.Pf

open Go Go.VM

theorem NumOk.ext {x y : Int × Int} (hx : NumOk x) (hy : NumOk y) (h : numQ x = numQ y) : x = y := by
  have e1 := hx.q
  have e2 := hy.q
  rw [h] at e1
  exact Prod.ext (e1.1.symm.trans e2.1) (e1.2.symm.trans e2.2)

end Go.Proofs.Pf

namespace Go.Proofs.Pf.B

open Go Go.VM

def RRV (x : (Int × Bool × Option (List Int)) × (Int × Bool × Option (List Int))) (q : Rat) : Prop := RIV x.1 q.num ∧ RIV x.2 (q.den : Int)

theorem RRV_ex (q : Rat) : ∃ r, RRV r q := by
  obtain ⟨a, ha⟩ := RIV_ex q.num
  obtain ⟨b, hb⟩ := RIV_ex (q.den : Int)
  exact ⟨(a, b), ha, hb⟩

def RFit (k : Nat) (q : Rat) : Prop := Fit k q.num ∧ Fit k (q.den : Int)

theorem RFit.mono {k j : Nat} {q : Rat} (h : RFit k q) (hj : k ≤ j) : RFit j q := ⟨h.1.mono hj, h.2.mono hj⟩

theorem fit_i64 {n : Int} (h1 : -9223372036854775808 ≤ n) (h2 : n < 9223372036854775808) : Fit 3 n := by
  unfold Fit
  rw [show (1073741824 : Int) ^ 3 = 1237940039285380274899124224 from rfl]
  omega

theorem r_Make {x y : Int × Bool × Option (List Int)} {n m : Int} {k : Nat} (hx : RIV x n) (hy : RIV y m) (hm : m ≠ 0) (fx : Fit k n) (fy : Fit k m) (hk : k ≤ 1073741824) : callV Pg c_ref01_Make [⟨tRI, x⟩, ⟨tRI, y⟩] tRR fun r => RRV r (Rat.divInt n m) := by
  refine w_ref01_Make x y (RRV_ex _) ((r_Sign hy).mono ?_)
  rintro _ rfl
  refine joinR (fun p => ∃ n' m' : Int, RIV p.1 n' ∧ RIV p.2.1 m' ∧ 0 < m' ∧ Rat.divInt n m = Rat.divInt n' m' ∧ Fit k n' ∧ Fit k m') ?_ ?_
  · rintro ⟨p, q, z⟩ ⟨n', m', h1, h2, hm', e, f1, f2⟩
    rw [e]
    dsimp only at h1 h2 ⊢
    have hg0 : Int.gcd n' m' ≠ 0 := fun e => by have := (Int.gcd_eq_zero_iff.1 e).2; omega
    have es : sgn m' = 1 := if_pos hm'
    have hn := ratio_num n' m' (by omega)
    have hd := ratio_den n' m' (by omega)
    rw [es, Int.one_mul] at hn hd
    have hgle : Int.gcd n' m' ≤ m'.natAbs := Nat.le_of_dvd (by omega) (Nat.gcd_dvd_right ..)
    refine (r_Gcd h1 h2 f1 f2 hk).mono fun g hg => (r_Of (n := 1) (by decide) (by decide)).mono fun o ho => ?_
    refine (r_ICompare hg ho (f2.of (by omega)) (fit_i64 (by decide) (by decide)) hk (by decide)).mono ?_
    rintro _ rfl
    refine joinR (fun p => RIV p.1 (n'.tdiv (Int.gcd n' m')) ∧ RIV p.2.1 (m'.tdiv (Int.gcd n' m'))) ?_ ?_
    · rintro ⟨p, q, z⟩ ⟨h3, h4⟩
      rw [← hn] at h3
      rw [← hd] at h4
      exact ⟨h3, h4⟩
    · intro k' hk'
      refine brV_iff.2 ⟨fun _ => ?_, fun h => ?_⟩
      · refine (r_Over h1 hg (by omega) f1 hk).mono ?_
        rintro ⟨q, r, _⟩ ⟨h3, _⟩
        refine (r_Over h2 hg (by omega) f2 hk).mono ?_
        rintro ⟨q2, r2, _⟩ ⟨h4, _⟩
        exact hk' _ ⟨h3, h4⟩
      · have h := sgn_z (not_f h)
        have e : ((Int.gcd n' m' : Nat) : Int) = 1 := by omega
        refine hk' _ ?_
        rw [e]
        simp only [Int.tdiv_one]
        exact ⟨h1, h2⟩
  · intro k' hk'
    refine brV_iff.2 ⟨fun h => ?_, fun h => ?_⟩
    · have h := dec_t h
      rw [sgn_neg] at h
      refine (r_Minus hx).mono fun p h1 => (r_Minus hy).mono fun q h2 => hk' _ ⟨-n, -m, h1, h2, by omega, ?_, fx.neg, fy.neg⟩
      exact (Rat.neg_divInt_neg ..).symm
    · have h := dec_f h
      rw [sgn_neg] at h
      exact hk' _ ⟨n, m, hx, hy, by omega, rfl, fx, fy⟩

variable {x y : (Int × Bool × Option (List Int)) × (Int × Bool × Option (List Int))} {q r : Rat} {k : Nat}

theorem r_Whole {n : Int} (h1 : -9223372036854775808 ≤ n) (h2 : n < 9223372036854775808) : callV Pg c_ref01_Whole [⟨tI, n⟩] tRR fun r => RRV r (n : Rat) :=
  w_ref01_Whole n (RRV_ex _) ((r_Of h1 h2).mono fun _ h => (r_Of (n := 1) (by decide) (by decide)).mono fun _ h' => ⟨h, h'⟩)

theorem r_RPlus (hx : RRV x q) (hy : RRV y r) (fx : RFit k q) (fy : RFit k r) (hk : k + k + 1 ≤ 1073741824) : callV Pg c_ref01_Rat_Plus [⟨tRR, x⟩, ⟨tRR, y⟩] tRR fun z => RRV z (q + r) := by
  have hq := q.den_nz
  have hr := r.den_nz
  refine w_ref01_Rat_Plus x y (RRV_ex _) ((r_Times hx.1 hy.2 fx.1 fy.2 (by omega) (by omega)).mono fun p1 h1 => (r_Times hy.1 hx.2 fy.1 fx.2 (by omega) (by omega)).mono fun p2 h2 => ?_)
  refine (r_Plus h1 h2 (fx.1.mul fy.2 (Nat.le_refl _)) (fy.1.mul fx.2 (Nat.le_refl _)) (by omega) (by omega)).mono fun p3 h3 => (r_Times hx.2 hy.2 fx.2 fy.2 (by omega) (by omega)).mono fun p4 h4 => ?_
  refine (r_Make h3 h4 ?_ ((fx.1.mul fy.2 (Nat.le_refl _)).add (fy.1.mul fx.2 (Nat.le_refl _)) (Nat.lt_succ_self _)) ((fx.2.mul fy.2 (Nat.le_refl _)).mono (Nat.le_succ _)) hk).mono fun p9 h9 => ?_
  · exact Int.mul_ne_zero (by omega) (by omega)
  · rw [rat_add]; exact h9

theorem r_RMinus (hx : RRV x q) : callV Pg c_ref01_Rat_Minus [⟨tRR, x⟩] tRR fun r => RRV r (-q) :=
  w_ref01_Rat_Minus x (RRV_ex _) ((r_Minus hx.1).mono fun _ h => ⟨h, hx.2⟩)

theorem r_RLess (hx : RRV x q) (hy : RRV y r) (fx : RFit k q) (fy : RFit k r) (hk : k + k + 1 ≤ 1073741824) : callV Pg c_ref01_Rat_Less [⟨tRR, x⟩, ⟨tRR, y⟩] tRR fun z => RRV z (q - r) := by
  refine w_ref01_Rat_Less x y (RRV_ex _) ((r_RMinus hy).mono fun p h => ?_)
  rw [Rat.sub_eq_add_neg]
  exact (r_RPlus hx h fx ⟨fy.1.neg, fy.2⟩ hk).mono fun z hz => hz

theorem r_RSign (hx : RRV x q) : callV Pg c_ref01_Rat_Sign [⟨tRR, x⟩] tI fun r => r = sgn q.num :=
  w_ref01_Rat_Sign x ⟨_, rfl⟩ ((r_Sign hx.1).mono fun _ h => h)

theorem r_RCompare (hx : RRV x q) (hy : RRV y r) (fx : RFit k q) (fy : RFit k r) (hk : k + k + 1 ≤ 1073741824) : callV Pg c_ref01_Rat_Compare [⟨tRR, x⟩, ⟨tRR, y⟩] tI fun z => z = sgn (q - r).num :=
  w_ref01_Rat_Compare x y ⟨_, rfl⟩ ((r_RLess hx hy fx fy hk).mono fun _ h => r_RSign h)

theorem r_To {a : Int × Int} (h : NumOk a) : callV Pg c_ref01_To [⟨tNum, a⟩] tRR fun r => RRV r (numQ a) := by
  obtain ⟨e1, e2⟩ := h.q
  obtain ⟨q1, q2, q3, q4, _⟩ := h
  refine w_ref01_To a (RRV_ex _) ((r_Of (n := a.1) (by omega) (by omega)).mono fun p1 h1 => (r_Of (n := a.2) (by omega) (by omega)).mono fun p2 h2 => ⟨?_, ?_⟩)
  · rw [e1]; exact h1
  · rw [e2]; exact h2

theorem ok_fit {a : Int × Int} (h : NumOk a) : RFit 3 (numQ a) := by
  obtain ⟨e1, e2⟩ := h.q
  obtain ⟨q1, q2, q3, q4, _⟩ := h
  exact ⟨by rw [e1]; exact fit_i64 (by omega) (by omega), by rw [e2]; exact fit_i64 (by omega) (by omega)⟩

theorem r_Valid (a : Int × Int) : callV Pg c_ref01_Valid [⟨tNum, a⟩] .bool fun r => r = decide (NumOk a) := by
  refine w_ref01_Valid a ⟨_, rfl⟩ (joinR (fun p => ∃ b : Bool, p = (b, a) ∧ (b = true → ¬ NumOk a) ∧ (b = false → 1 ≤ a.2 ∧ a.2 ≤ 1152921504606846976 ∧ a.1 ≤ 1152921504606846976 ∧ -1152921504606846976 ≤ a.1)) ?_ ?_)
  · rintro _ ⟨b, rfl, h1, h2⟩
    refine brV_iff.2 ⟨fun h => ?_, fun h => ?_⟩
    · exact (decide_eq_false (h1 h)).symm
    · obtain ⟨q1, q2, q3, q4⟩ := h2 h
      refine (r_Of (n := a.1) (by omega) (by omega)).mono fun p1 e1 => (r_Of (n := a.2) (by omega) (by omega)).mono fun p2 e2 => ?_
      have hgle : Int.gcd a.1 a.2 ≤ a.2.natAbs := Nat.le_of_dvd (by omega) (Nat.gcd_dvd_right ..)
      refine (r_Gcd e1 e2 (fit_i64 (by omega) (by omega)) (fit_i64 (by omega) (by omega)) (by omega)).mono fun p3 e3 => (r_Of (n := 1) (by decide) (by decide)).mono fun p4 e4 => ?_
      refine (r_ICompare e3 e4 (fit_i64 (by omega) (by omega)) (fit_i64 (by omega) (by omega)) (by omega) (by omega)).mono ?_
      rintro _ rfl
      refine decide_eq_decide.2 ?_
      unfold NumOk
      constructor
      · intro h; have h := sgn_z h; exact ⟨q1, q2, q3, q4, by omega⟩
      · rintro ⟨_, _, _, _, h⟩; rw [h]; rfl
  · intro k hk
    refine brV_iff.2 ⟨fun h => hk _ ⟨true, rfl, fun _ hN => ?_, fun h => by simp at h⟩, fun h => brV_iff.2 ⟨fun h2 => hk _ ⟨true, rfl, fun _ hN => ?_, fun h => by simp at h⟩, fun h2 => brV_iff.2 ⟨fun h3 => hk _ ⟨true, rfl, fun _ hN => ?_, fun h => by simp at h⟩, fun h3 => hk _ ⟨_, rfl, fun h4 hN => ?_, fun h4 => ?_⟩⟩⟩⟩
    · have h : a.2 < 1 := dec_t h
      have := hN.1; omega
    · have h2 : 1152921504606846976 < a.2 := dec_t h2
      have := hN.2.1; omega
    · have h3 : 1152921504606846976 < a.1 := dec_t h3
      have := hN.2.2.1; omega
    · have h4 : a.1 < -1152921504606846976 := dec_t h4
      have := hN.2.2.2.1; omega
    · have h : ¬ a.2 < 1 := dec_f h
      have h2 : ¬ 1152921504606846976 < a.2 := dec_f h2
      have h3 : ¬ 1152921504606846976 < a.1 := dec_f h3
      have h4 : ¬ a.1 < -1152921504606846976 := dec_f h4
      omega

end Go.Proofs.Pf.B

namespace Go.Proofs.Pf.B

open Go Go.VM

theorem s_RCmp {x y : (Int × Option (List Int)) × (Int × Option (List Int))} {q r : Rat} {k : Nat} (hx : RV x q) (hy : RV y r) (fx : Pf.RFit k q) (fy : Pf.RFit k r) (hk : k + k + 1 ≤ 1073741824) : callV Pg c_exact_Rat_Cmp [⟨tER, x⟩, ⟨tER, y⟩] tI fun z => z = sgn (q - r).num :=
  w_exact_Rat_Cmp x y ⟨_, rfl⟩ ((s_RSub longS hx hy fx fy hk).mono fun _ h => s_RSign h)

end Go.Proofs.Pf.B

namespace Go.Proofs.Pf

structure SPre (p q r s : Int) : Prop where
  p0 : 0 < p
  q0 : 0 < q
  r0 : 0 < r
  s0 : 0 < s
  le : p * s ≤ r * q

theorem SPre.next {p q r s : Int} (h : SPre p q r s) (h1 : ¬ p % q = 0) (h2 : ¬ (p / q + 1) * s ≤ r) :
    SPre s (r - p / q * s) q (p - p / q * q) ∧ r - p / q * s < s ∧ p - p / q * q < q := by
  obtain ⟨p0, q0, r0, s0, le⟩ := h
  have hd := Int.mul_ediv_add_emod p q
  have hm0 := Int.emod_nonneg p (show q ≠ 0 by omega)
  have hm1 := Int.emod_lt_of_pos p q0
  generalize p / q = n at *
  generalize p % q = m at *
  have e : p - n * q = m := by rw [Int.mul_comm n q]; omega
  have hr : 0 < r - n * s := by
    have h3 : q * (n * s) < q * r := by
      have h4 : p * s = q * (n * s) + m * s := by rw [← hd, Int.add_mul, Int.mul_assoc]
      have h5 : 0 < m * s := Int.mul_pos (by omega) s0
      rw [Int.mul_comm q r]; omega
    have := Int.lt_of_mul_lt_mul_left h3 (by omega)
    omega
  rw [e]
  refine ⟨⟨s0, hr, q0, by omega, ?_⟩, ?_, hm1⟩
  · rw [Int.mul_sub, ← e]; grind
  · rw [Int.add_mul, Int.one_mul] at h2; omega

theorem divInt_parts (n : Int) {m : Int} (hm : 0 < m) : (Rat.divInt n m).num * m = n * ((Rat.divInt n m).den : Int) ∧ (Rat.divInt n m).num.natAbs ≤ n.natAbs ∧ (Rat.divInt n m).den ≤ m.natAbs := by
  have e : sgn m = 1 := if_pos hm
  have h1 := ratio_num n m (by omega)
  have h2 := ratio_den n m (by omega)
  rw [e, Int.one_mul] at h1 h2
  have d1 : ((Int.gcd n m : Nat) : Int) ∣ n := Int.gcd_dvd_left ..
  have d2 : ((Int.gcd n m : Nat) : Int) ∣ m := Int.gcd_dvd_right ..
  have c1 := Int.mul_tdiv_cancel' d1
  have c2 := Int.mul_tdiv_cancel' d2
  refine ⟨?_, ?_, ?_⟩
  · rw [h1, h2]
    generalize ((Int.gcd n m : Nat) : Int) = g at *
    conv => lhs; rw [← c2]
    conv => rhs; rw [← c1]
    grind
  · rw [h1, Int.natAbs_tdiv]; exact Nat.div_le_self _ _
  · have : ((Rat.divInt n m).den : Int).natAbs ≤ m.natAbs := by rw [h2, Int.natAbs_tdiv]; exact Nat.div_le_self _ _
    omega

end Go.Proofs.Pf

namespace Go.Proofs.Pf.B

open Go Go.VM

theorem pfit_add {q r : Rat} {k j : Nat} (h : Pf.RFit k q) (g : Pf.RFit j r) : Pf.RFit (k + j + 1) (q + r) := by
  have hq := q.den_nz
  have hr := r.den_nz
  rw [rat_add]
  obtain ⟨_, h1, h2⟩ := divInt_parts (q.num * (r.den : Int) + r.num * (q.den : Int)) (show 0 < (q.den : Int) * (r.den : Int) from Int.mul_pos (by omega) (by omega))
  exact ⟨((h.1.mul g.2 (Nat.le_refl _)).add (g.1.mul h.2 (Nat.le_of_eq (Nat.add_comm _ _))) (Nat.lt_succ_self _)).of h1, ((h.2.mul g.2 (Nat.le_refl _)).mono (Nat.le_succ _)).of (by omega)⟩

theorem rfit_add {q r : Rat} {k j : Nat} (h : RFit k q) (g : RFit j r) : RFit (k + j + 1) (q + r) := by
  have hq := q.den_nz
  have hr := r.den_nz
  rw [rat_add]
  obtain ⟨_, h1, h2⟩ := divInt_parts (q.num * (r.den : Int) + r.num * (q.den : Int)) (show 0 < (q.den : Int) * (r.den : Int) from Int.mul_pos (by omega) (by omega))
  exact ⟨((h.1.mul g.2 (Nat.le_refl _)).add (g.1.mul h.2 (Nat.le_of_eq (Nat.add_comm _ _))) (Nat.lt_succ_self _)).of h1, ((h.2.mul g.2 (Nat.le_refl _)).mono (Nat.le_succ _)).of (by omega)⟩

theorem zero_rv : RV (((0 : Int), none), ((0 : Int), none)) (0 : Rat) := ⟨⟨rfl, by decide, by decide⟩, .inr ⟨⟨rfl, by decide, by decide⟩, rfl⟩⟩

theorem zero_pfit : Pf.RFit 1 (0 : Rat) := by unfold Pf.RFit Pf.Fit; decide

theorem zero_rfit : RFit 1 (0 : Rat) := by unfold RFit Fit; decide

end Go.Proofs.Pf.B

namespace Go.Proofs.Pf.B

open Go Go.VM

abbrev br (l : List DBr) (i : Nat) : DBr := l.getD i (0, (0, 0))

/-- The state that the branch before leads to. -/
def preTo (l : List DBr) : Nat → Int
  | 0 => -1
  | i + 1 => (br l i).1

def brOk (n : Int) (l : List DBr) (i : Nat) : Prop := preTo l i < (br l i).1 ∧ (br l i).1 < n ∧ NumOk (br l i).2 ∧ 0 < (br l i).2.1

instance (n : Int) (l : List DBr) (i : Nat) : Decidable (brOk n l i) := by unfold brOk; infer_instance

/-- The sum of the first chances. -/
def sumR (l : List DBr) : Nat → Rat
  | 0 => 0
  | i + 1 => sumR l i + numQ (br l i).2

def chOk (n : Int) (c : DCh) : Prop := NumOk c.1 ∧ (1 ≤ (c.2.getD []).length ∧ (c.2.getD []).length ≤ 8) ∧ (∀ i, i < (c.2.getD []).length → brOk n (c.2.getD []) i) ∧ sumR (c.2.getD []) (c.2.getD []).length = 1

instance (n : Int) (c : DCh) : Decidable (chOk n c) := by unfold chOk; infer_instance

theorem pre_le {n : Int} {l : List DBr} : ∀ {i : Nat}, (∀ j, j < i → brOk n l j) → -1 ≤ preTo l i
  | 0, _ => by simp [preTo]
  | i + 1, h => by
    have h1 := (h i (by omega)).1
    have h2 := pre_le (i := i) fun j hj => h j (by omega)
    show -1 ≤ (br l i).1
    omega

theorem sgn_sub_one {q : Rat} : sgn (q - 1).num = 0 ↔ q = 1 := by
  constructor
  · intro h
    have h0 : (q - 1).num = 0 := by
      unfold sgn at h
      repeat' split at h
      all_goals omega
    have h1 : q - 1 = 0 := Rat.num_eq_zero.1 h0
    have h2 : q - 1 + 1 = 0 + 1 := by rw [h1]
    rwa [Rat.sub_add_cancel, Rat.zero_add] at h2
  · rintro rfl
    rw [Rat.sub_self]; rfl

theorem eltS_br {l : Option (List DBr)} {i : Nat} : eltS ((0 : Int), ((0 : Int), (0 : Int))) l (i : Int) = br (l.getD []) i := by simp only [eltS, Int.toNat_natCast]

theorem one_rfit : Pf.RFit 1 (1 : Rat) := by unfold Pf.RFit Pf.Fit; decide

theorem s_choice (n : Int) (c : DCh) : callV Pg c_model_choice [⟨tI, n⟩, ⟨tCh, c⟩] .bool fun r => r = decide (chOk n c) := by
  refine w_model_choice n c ⟨_, rfl⟩ (joinR (fun p => ∃ b : Bool, p = (n, (b, c)) ∧ (b = true → ¬ chOk n c) ∧ (b = false → NumOk c.1 ∧ (1 ≤ (c.2.getD []).length ∧ (c.2.getD []).length ≤ 8))) ?_ ?_)
  · rintro _ ⟨b, rfl, h1, h2⟩
    dsimp only
    refine brV_iff.2 ⟨fun h => (decide_eq_false (h1 h)).symm, fun h => ?_⟩
    obtain ⟨g1, g2, g3⟩ := h2 h
    refine loopE (fun p => ∃ (i : Nat) (x : _), p = (n, (preTo (c.2.getD []) i, (c.2, (((c.2.getD []).length : Int), ((i : Int), x))))) ∧ i ≤ (c.2.getD []).length ∧ (∀ j, j < i → brOk n (c.2.getD []) j) ∧ RV x (sumR (c.2.getD []) i) ∧ Pf.RFit (3 * i + 1) (sumR (c.2.getD []) i)) (fun p => (c.2.getD []).length - p.2.2.2.2.1.toNat)
      ⟨0, (((0 : Int), none), ((0 : Int), none)), rfl, by omega, fun j h => by omega, zero_rv, zero_pfit⟩ ?_
    rintro _ ⟨i, x, rfl, hi, hall, hx, fx⟩
    dsimp only
    refine brV_iff.2 ⟨fun hc => ?_, fun hc => ?_⟩
    · have hc : (i : Int) < ((c.2.getD []).length : Int) := dec_t hc
      rw [eltS_br]
      refine ⟨⟨by omega, by omega⟩, ?_⟩
      refine joinR (fun p => ∃ b : Bool, p = (n, (c.2, (((c.2.getD []).length : Int), ((i : Int), (b, (x, br (c.2.getD []) i)))))) ∧ (b = true → ¬ brOk n (c.2.getD []) i) ∧ (b = false → brOk n (c.2.getD []) i)) ?_ ?_
      · rintro _ ⟨b, rfl, k1, k2⟩
        dsimp only
        refine brV_iff.2 ⟨fun h => (decide_eq_false fun hq => k1 h (hq.2.2.1 i (by omega))).symm, fun h => ?_⟩
        have hb := k2 h
        have o1 := hb.2.2.1
        refine (s_Rat longS o1).mono fun p4 h4 => ?_
        refine (s_RAdd longS hx h4 (fx.mono (show 3 * i + 1 ≤ 100 by omega)) (o1.fit.mono (by decide)) (by decide)).mono fun p5 h5 => ?_
        rw [wi64 (by omega) (by omega)]
        refine ⟨⟨i + 1, p5, rfl, by omega, fun j hj => ?_, h5, (pfit_add fx o1.fit).mono (by omega)⟩, by omega⟩
        rcases Nat.lt_or_ge j i with q | q
        · exact hall j q
        · obtain rfl : j = i := by omega
          exact hb
      · intro k hk
        refine brV_iff.2 ⟨fun h => hk _ ⟨true, rfl, fun _ hq => ?_, fun h => by cases h⟩, fun h => ?_⟩
        · have h := dec_t h; have := hq.1; omega
        have e1 := dec_f h
        refine brV_iff.2 ⟨fun h => hk _ ⟨true, rfl, fun _ hq => ?_, fun h => by cases h⟩, fun h => ?_⟩
        · have h := dec_t h; have := hq.2.1; omega
        have e2 := dec_f h
        refine (s_Valid longS _).mono ?_
        rintro _ rfl
        refine brV_iff.2 ⟨fun h => hk _ ⟨true, rfl, fun _ hq => not_t h hq.2.2.1, fun h => by cases h⟩, fun h => ?_⟩
        have e3 := not_f h
        refine hk _ ⟨_, rfl, fun h hq => ?_, fun h => ⟨by omega, by omega, e3, ?_⟩⟩
        · have h := dec_t h; have := hq.2.2.2; omega
        · have h := dec_f h; omega
    · have hc : ¬ (i : Int) < ((c.2.getD []).length : Int) := dec_f hc
      obtain rfl : i = (c.2.getD []).length := by omega
      refine (s_Whole (n := 1) (by decide) (by decide)).mono fun p3 h3 => ?_
      refine (s_RCmp hx h3 (fx.mono (show 3 * (c.2.getD []).length + 1 ≤ 100 by omega)) (one_rfit.mono (by decide)) (by decide)).mono ?_
      rintro _ rfl
      have e : decide (sgn (sumR (c.2.getD []) (c.2.getD []).length - ((1 : Int) : Rat)).num = (0 : Int)) = decide (chOk n c) := by
        rw [decide_eq_decide]
        exact sgn_sub_one.trans ⟨fun h => ⟨g1, ⟨g2, g3⟩, hall, h⟩, fun h => h.2.2.2⟩
      exact e
  · intro k hk
    refine (s_Valid longS _).mono ?_
    rintro _ rfl
    refine brV_iff.2 ⟨fun h => hk _ ⟨true, rfl, fun _ hq => not_t h hq.1, fun h => by cases h⟩, fun h => ?_⟩
    have e1 := not_f h
    refine brV_iff.2 ⟨fun h => hk _ ⟨true, rfl, fun _ hq => ?_, fun h => by cases h⟩, fun h => ?_⟩
    · have h : ((c.2.getD []).length : Int) < 1 := dec_t h
      have := hq.2.1.1; omega
    have e2 : ¬ ((c.2.getD []).length : Int) < 1 := dec_f h
    refine hk _ ⟨_, rfl, fun h hq => ?_, fun h => ⟨e1, by omega, ?_⟩⟩
    · have h : (8 : Int) < ((c.2.getD []).length : Int) := dec_t h
      have := hq.2.1.2; omega
    · have h : ¬ (8 : Int) < ((c.2.getD []).length : Int) := dec_f h
      omega

end Go.Proofs.Pf.B

namespace Go.Proofs.Pf.B

open Go Go.VM

theorem one_rrf : RFit 1 (1 : Rat) := by unfold RFit Fit; decide

theorem r_choice (n : Int) (c : DCh) (hn0 : 0 ≤ n) : callV Pg c_ref04_choice [⟨tCh, c⟩, ⟨tI, n⟩] .bool fun r => r = decide (chOk n c) := by
  refine w_ref04_choice c n ⟨_, rfl⟩ (joinR (fun p => ∃ b : Bool, p = (n, (b, c)) ∧ (b = true → ¬ chOk n c) ∧ (b = false → NumOk c.1 ∧ (1 ≤ (c.2.getD []).length ∧ (c.2.getD []).length ≤ 8))) ?_ ?_)
  · rintro _ ⟨b, rfl, h1, h2⟩
    dsimp only
    refine brV_iff.2 ⟨fun h => (decide_eq_false (h1 h)).symm, fun h => ?_⟩
    obtain ⟨g1, g2, g3⟩ := h2 h
    refine (r_Whole (n := 0) (by decide) (by decide)).mono fun p1 hp1 => ?_
    refine loopE (fun p => ∃ (i : Nat) (x : _), p = (n, (c.2, (((c.2.getD []).length : Int), ((i : Int), (c, x))))) ∧ i ≤ (c.2.getD []).length ∧ (∀ j, j < i → brOk n (c.2.getD []) j) ∧ RRV x (sumR (c.2.getD []) i) ∧ RFit (4 * i + 1) (sumR (c.2.getD []) i)) (fun p => (c.2.getD []).length - p.2.2.2.1.toNat)
      ⟨0, p1, rfl, by omega, fun j h => by omega, hp1, zero_rfit⟩ ?_
    rintro _ ⟨i, x, rfl, hi, hall, hx, fx⟩
    dsimp only
    refine brV_iff.2 ⟨fun hc => ?_, fun hc => ?_⟩
    · have hc : (i : Int) < ((c.2.getD []).length : Int) := dec_t hc
      rw [eltS_br]
      refine ⟨⟨by omega, by omega⟩, ?_⟩
      refine joinR (fun p => ∃ b : Bool, p = (n, (c.2, (((c.2.getD []).length : Int), ((i : Int), (b, (c, (x, br (c.2.getD []) i))))))) ∧ (b = true → ¬ brOk n (c.2.getD []) i) ∧ (b = false → brOk n (c.2.getD []) i)) ?_ ?_
      · rintro _ ⟨b, rfl, k1, k2⟩
        dsimp only
        refine brV_iff.2 ⟨fun h => (decide_eq_false fun hq => k1 h (hq.2.2.1 i (by omega))).symm, fun h => ?_⟩
        have hb := k2 h
        have o1 := hb.2.2.1
        refine (r_To o1).mono fun p5 h5 => ?_
        refine (r_RPlus hx h5 (fx.mono (show 4 * i + 1 ≤ 100 by omega)) ((ok_fit o1).mono (by decide)) (by decide)).mono fun p6 h6 => ?_
        rw [wi64 (by omega) (by omega)]
        refine ⟨⟨i + 1, p6, rfl, by omega, fun j hj => ?_, h6, (rfit_add fx (ok_fit o1)).mono (by omega)⟩, by omega⟩
        rcases Nat.lt_or_ge j i with q | q
        · exact hall j q
        · obtain rfl : j = i := by omega
          exact hb
      · intro k hk
        have hpre := pre_le hall
        refine brV_iff.2 ⟨fun h => hk _ ⟨true, rfl, fun _ hq => ?_, fun h => by cases h⟩, fun h => ?_⟩
        · have h := dec_t h; have := hq.1; omega
        have e1 := dec_f h
        refine brV_iff.2 ⟨fun h => hk _ ⟨true, rfl, fun _ hq => ?_, fun h => by cases h⟩, fun h => ?_⟩
        · have h := dec_t h; have := hq.2.1; omega
        have e2 := dec_f h
        have fin : preTo (c.2.getD []) i < (br (c.2.getD []) i).1 → callV Pg c_ref01_Valid [⟨tNum, (br (c.2.getD []) i).2⟩] .bool (fun p5 => (brV (notB p5) (k (n, (c.2, (((c.2.getD []).length : Int), ((i : Int), (true, (c, (x, br (c.2.getD []) i)))))))) (k (n, (c.2, (((c.2.getD []).length : Int), ((i : Int), (decide ((br (c.2.getD []) i).2.1 ≤ (0 : Int)), (c, (x, br (c.2.getD []) i)))))))))) := by
          intro hlt
          refine (r_Valid _).mono ?_
          rintro _ rfl
          refine brV_iff.2 ⟨fun h => hk _ ⟨true, rfl, fun _ hq => not_t h hq.2.2.1, fun h => by cases h⟩, fun h => ?_⟩
          have e3 := not_f h
          refine hk _ ⟨_, rfl, fun h hq => ?_, fun h => ⟨hlt, by omega, e3, ?_⟩⟩
          · have h := dec_t h; have := hq.2.2.2; omega
          · have h := dec_f h; omega
        refine brV_iff.2 ⟨fun h => ?_, fun h => ?_⟩
        · have h := dec_t h
          obtain ⟨j, rfl⟩ : ∃ j, i = j + 1 := ⟨i - 1, by omega⟩
          rw [wi64 (by omega) (by omega), show ((j + 1 : Nat) : Int) - 1 = (j : Int) by omega, eltS_br]
          refine ⟨⟨by omega, by omega⟩, brV_iff.2 ⟨fun h' => hk _ ⟨true, rfl, fun _ hq => ?_, fun h => by cases h⟩, fun h' => ?_⟩⟩
          · have h' := dec_t h'; have : (br (c.2.getD []) j).1 < _ := hq.1; omega
          · have h' := dec_f h'
            exact fin (show (br (c.2.getD []) j).1 < _ by omega)
        · have h := dec_f h
          obtain rfl : i = 0 := by omega
          exact fin (show (-1 : Int) < _ by omega)
    · have hc : ¬ (i : Int) < ((c.2.getD []).length : Int) := dec_f hc
      obtain rfl : i = (c.2.getD []).length := by omega
      refine (r_Whole (n := 1) (by decide) (by decide)).mono fun p3 h3 => ?_
      refine (r_RCompare hx h3 (fx.mono (show 4 * (c.2.getD []).length + 1 ≤ 100 by omega)) (one_rrf.mono (by decide)) (by decide)).mono ?_
      rintro _ rfl
      have e : decide (sgn (sumR (c.2.getD []) (c.2.getD []).length - ((1 : Int) : Rat)).num = (0 : Int)) = decide (chOk n c) := by
        rw [decide_eq_decide]
        exact sgn_sub_one.trans ⟨fun h => ⟨g1, ⟨g2, g3⟩, hall, h⟩, fun h => h.2.2.2⟩
      exact e
  · intro k hk
    refine (r_Valid _).mono ?_
    rintro _ rfl
    refine brV_iff.2 ⟨fun h => hk _ ⟨true, rfl, fun _ hq => not_t h hq.1, fun h => by cases h⟩, fun h => ?_⟩
    have e1 := not_f h
    refine brV_iff.2 ⟨fun h => hk _ ⟨true, rfl, fun _ hq => ?_, fun h => by cases h⟩, fun h => ?_⟩
    · have h : ((c.2.getD []).length : Int) < 1 := dec_t h
      have := hq.2.1.1; omega
    have e2 : ¬ ((c.2.getD []).length : Int) < 1 := dec_f h
    refine hk _ ⟨_, rfl, fun h hq => ?_, fun h => ⟨e1, by omega, ?_⟩⟩
    · have h : (8 : Int) < ((c.2.getD []).length : Int) := dec_t h
      have := hq.2.1.2; omega
    · have h : ¬ (8 : Int) < ((c.2.getD []).length : Int) := dec_f h
      omega

abbrev ch (l : List DCh) (i : Nat) : DCh := l.getD i (((0, 0), none))

abbrev stt (l : List DSt) (i : Nat) : DSt := l.getD i (0, (0, none))

/-- A state's owner, its Mark and the number of its choices. -/
def stHead (s : DSt) : Prop := (0 ≤ s.1 ∧ s.1 ≤ 1) ∧ (0 ≤ s.2.1 ∧ s.2.1 ≤ 63) ∧ (1 ≤ (s.2.2.getD []).length ∧ (s.2.2.getD []).length ≤ 8)

instance (s : DSt) : Decidable (stHead s) := by unfold stHead; infer_instance

def stOk (n : Int) (s : DSt) : Prop := stHead s ∧ ∀ j, j < (s.2.2.getD []).length → chOk n (ch (s.2.2.getD []) j)

instance (n : Int) (s : DSt) : Decidable (stOk n s) := by unfold stOk; infer_instance

def moOk (m : DMo) : Prop := (1 ≤ (m.getD []).length ∧ (m.getD []).length ≤ 40) ∧ ∀ i, i < (m.getD []).length → stOk (m.getD []).length (stt (m.getD []) i)

instance (m : DMo) : Decidable (moOk m) := by unfold moOk; infer_instance

theorem eltS_st {l : Option (List DSt)} {i : Nat} : eltS ((0 : Int), ((0 : Int), none)) l (i : Int) = stt (l.getD []) i := by simp only [eltS, Int.toNat_natCast]

theorem eltS_ch {l : Option (List DCh)} {i : Nat} : eltS (((0 : Int), (0 : Int)), none) l (i : Int) = ch (l.getD []) i := by simp only [eltS, Int.toNat_natCast]

theorem s_MValid (m : DMo) : callV Pg c_model_Valid [⟨tMo, m⟩] .bool fun r => r = decide (moOk m) := by
  refine w_model_Valid m ⟨_, rfl⟩ (joinR (fun p => ∃ b : Bool, p = (((m.getD []).length : Int), (b, m)) ∧ (b = true → ¬ moOk m) ∧ (b = false → 1 ≤ (m.getD []).length ∧ (m.getD []).length ≤ 40)) ?_ ?_)
  · rintro _ ⟨b, rfl, h1, h2⟩
    dsimp only
    refine brV_iff.2 ⟨fun h => (decide_eq_false (h1 h)).symm, fun h => ?_⟩
    obtain ⟨g1, g2⟩ := h2 h
    refine loopE (fun p => ∃ i : Nat, p = (((m.getD []).length : Int), (m, (((m.getD []).length : Int), (i : Int)))) ∧ i ≤ (m.getD []).length ∧ (∀ j, j < i → stOk (m.getD []).length (stt (m.getD []) j))) (fun p => (m.getD []).length - p.2.2.2.toNat)
      ⟨0, rfl, by omega, fun j h => by omega⟩ ?_
    rintro _ ⟨i, rfl, hi, hall⟩
    dsimp only
    refine brV_iff.2 ⟨fun hc => ?_, fun hc => ?_⟩
    · have hc : (i : Int) < ((m.getD []).length : Int) := dec_t hc
      rw [eltS_st]
      have no : ¬ stHead (stt (m.getD []) i) → ¬ moOk m := fun h hq => h (hq.2 i (by omega)).1
      refine ⟨⟨by omega, by omega⟩, joinR (fun p => ∃ b : Bool, p = (((m.getD []).length : Int), (m, (((m.getD []).length : Int), ((i : Int), (b, stt (m.getD []) i))))) ∧ (b = true → ¬ moOk m) ∧ (b = false → stHead (stt (m.getD []) i))) ?_ ?_⟩
      · rintro _ ⟨b, rfl, k1, k2⟩
        dsimp only
        refine brV_iff.2 ⟨fun h => (decide_eq_false (k1 h)).symm, fun h => ?_⟩
        have hh := k2 h
        obtain ⟨_, _, c1, c2⟩ := id hh
        refine loopE (fun p => ∃ j : Nat, p = (((m.getD []).length : Int), (m, (((m.getD []).length : Int), ((i : Int), ((stt (m.getD []) i).2.2, ((((stt (m.getD []) i).2.2.getD []).length : Int), (j : Int))))))) ∧ j ≤ ((stt (m.getD []) i).2.2.getD []).length ∧ (∀ k, k < j → chOk (m.getD []).length (ch ((stt (m.getD []) i).2.2.getD []) k)))
          (fun p => ((stt (m.getD []) i).2.2.getD []).length - p.2.2.2.2.2.2.toNat) ⟨0, rfl, by omega, fun j h => by omega⟩ ?_
        rintro _ ⟨j, rfl, hj, hch⟩
        dsimp only
        refine brV_iff.2 ⟨fun hd => ?_, fun hd => ?_⟩
        · have hd : (j : Int) < (((stt (m.getD []) i).2.2.getD []).length : Int) := dec_t hd
          rw [eltS_ch]
          refine ⟨⟨by omega, by omega⟩, (s_choice _ _).mono ?_⟩
          rintro _ rfl
          refine brV_iff.2 ⟨fun h => (decide_eq_false fun hq => not_t h ((hq.2 i (by omega)).2 j (by omega))).symm, fun h => ?_⟩
          have h3 := not_f h
          rw [wi64 (by omega) (by omega)]
          refine ⟨⟨j + 1, rfl, by omega, fun k hk => ?_⟩, by omega⟩
          rcases Nat.lt_or_ge k j with q | q
          · exact hch k q
          · obtain rfl : k = j := by omega
            exact h3
        · have hd : ¬ (j : Int) < (((stt (m.getD []) i).2.2.getD []).length : Int) := dec_f hd
          obtain rfl : j = ((stt (m.getD []) i).2.2.getD []).length := by omega
          rw [wi64 (by omega) (by omega)]
          refine ⟨⟨i + 1, rfl, by omega, fun k hk => ?_⟩, by omega⟩
          rcases Nat.lt_or_ge k i with q | q
          · exact hall k q
          · obtain rfl : k = i := by omega
            exact ⟨hh, hch⟩
      · intro k hk
        refine brV_iff.2 ⟨fun h => hk _ ⟨true, rfl, fun _ => no fun hq => ?_, fun h => by cases h⟩, fun h => ?_⟩
        · have h := dec_t h; have := hq.1; omega
        have e1 := dec_f h
        refine brV_iff.2 ⟨fun h => hk _ ⟨true, rfl, fun _ => no fun hq => ?_, fun h => by cases h⟩, fun h => ?_⟩
        · have h := dec_t h; have := hq.1; omega
        have e2 := dec_f h
        refine brV_iff.2 ⟨fun h => hk _ ⟨true, rfl, fun _ => no fun hq => ?_, fun h => by cases h⟩, fun h => ?_⟩
        · have h := dec_t h; have := hq.2.1; omega
        have e3 := dec_f h
        refine brV_iff.2 ⟨fun h => hk _ ⟨true, rfl, fun _ => no fun hq => ?_, fun h => by cases h⟩, fun h => ?_⟩
        · have h := dec_t h; have := hq.2.1; omega
        have e4 := dec_f h
        refine brV_iff.2 ⟨fun h => hk _ ⟨true, rfl, fun _ => no fun hq => ?_, fun h => by cases h⟩, fun h => ?_⟩
        · have h : (((stt (m.getD []) i).2.2.getD []).length : Int) < 1 := dec_t h
          have := hq.2.2; omega
        have e5 : ¬ (((stt (m.getD []) i).2.2.getD []).length : Int) < 1 := dec_f h
        refine hk _ ⟨_, rfl, fun h => no fun hq => ?_, fun h => ⟨⟨by omega, by omega⟩, ⟨by omega, by omega⟩, ⟨by omega, ?_⟩⟩⟩
        · have h : (8 : Int) < (((stt (m.getD []) i).2.2.getD []).length : Int) := dec_t h
          have := hq.2.2; omega
        · have h : ¬ (8 : Int) < (((stt (m.getD []) i).2.2.getD []).length : Int) := dec_f h
          omega
    · have hc : ¬ (i : Int) < ((m.getD []).length : Int) := dec_f hc
      obtain rfl : i = (m.getD []).length := by omega
      exact (decide_eq_true ⟨⟨g1, g2⟩, hall⟩).symm
  · intro k hk
    refine brV_iff.2 ⟨fun h => hk _ ⟨true, rfl, fun _ hq => ?_, fun h => by cases h⟩, fun h => ?_⟩
    · have h : ((m.getD []).length : Int) < 1 := dec_t h
      have := hq.1; omega
    have e5 : ¬ ((m.getD []).length : Int) < 1 := dec_f h
    refine hk _ ⟨_, rfl, fun h hq => ?_, fun h => ⟨by omega, ?_⟩⟩
    · have h : (40 : Int) < ((m.getD []).length : Int) := dec_t h
      have := hq.1; omega
    · have h : ¬ (40 : Int) < ((m.getD []).length : Int) := dec_f h
      omega

theorem r_MValid (m : DMo) : callV Pg c_ref04_Valid [⟨tMo, m⟩] .bool fun r => r = decide (moOk m) := by
  refine w_ref04_Valid m ⟨_, rfl⟩ (joinR (fun p => ∃ b : Bool, p = (b, m) ∧ (b = true → ¬ moOk m) ∧ (b = false → 1 ≤ (m.getD []).length ∧ (m.getD []).length ≤ 40)) ?_ ?_)
  · rintro _ ⟨b, rfl, h1, h2⟩
    dsimp only
    refine brV_iff.2 ⟨fun h => (decide_eq_false (h1 h)).symm, fun h => ?_⟩
    obtain ⟨g1, g2⟩ := h2 h
    refine loopE (fun p => ∃ i : Nat, p = (m, (((m.getD []).length : Int), ((i : Int), m))) ∧ i ≤ (m.getD []).length ∧ (∀ j, j < i → stOk (m.getD []).length (stt (m.getD []) j))) (fun p => (m.getD []).length - p.2.2.1.toNat)
      ⟨0, rfl, by omega, fun j h => by omega⟩ ?_
    rintro _ ⟨i, rfl, hi, hall⟩
    dsimp only
    refine brV_iff.2 ⟨fun hc => ?_, fun hc => ?_⟩
    · have hc : (i : Int) < ((m.getD []).length : Int) := dec_t hc
      rw [eltS_st]
      have no : ¬ stHead (stt (m.getD []) i) → ¬ moOk m := fun h hq => h (hq.2 i (by omega)).1
      refine ⟨⟨by omega, by omega⟩, joinR (fun p => ∃ b : Bool, p = (m, (((m.getD []).length : Int), ((i : Int), (b, (m, stt (m.getD []) i))))) ∧ (b = true → ¬ moOk m) ∧ (b = false → stHead (stt (m.getD []) i))) ?_ ?_⟩
      · rintro _ ⟨b, rfl, k1, k2⟩
        dsimp only
        refine brV_iff.2 ⟨fun h => (decide_eq_false (k1 h)).symm, fun h => ?_⟩
        have hh := k2 h
        obtain ⟨_, _, c1, c2⟩ := id hh
        refine loopE (fun p => ∃ j : Nat, p = (m, (((m.getD []).length : Int), ((i : Int), ((stt (m.getD []) i).2.2, ((((stt (m.getD []) i).2.2.getD []).length : Int), ((j : Int), m)))))) ∧ j ≤ ((stt (m.getD []) i).2.2.getD []).length ∧ (∀ k, k < j → chOk (m.getD []).length (ch ((stt (m.getD []) i).2.2.getD []) k)))
          (fun p => ((stt (m.getD []) i).2.2.getD []).length - p.2.2.2.2.2.1.toNat) ⟨0, rfl, by omega, fun j h => by omega⟩ ?_
        rintro _ ⟨j, rfl, hj, hch⟩
        dsimp only
        refine brV_iff.2 ⟨fun hd => ?_, fun hd => ?_⟩
        · have hd : (j : Int) < (((stt (m.getD []) i).2.2.getD []).length : Int) := dec_t hd
          rw [eltS_ch]
          refine ⟨⟨by omega, by omega⟩, (r_choice ((m.getD []).length : Int) _ (by omega)).mono ?_⟩
          rintro _ rfl
          refine brV_iff.2 ⟨fun h => (decide_eq_false fun hq => not_t h ((hq.2 i (by omega)).2 j (by omega))).symm, fun h => ?_⟩
          have h3 := not_f h
          rw [wi64 (by omega) (by omega)]
          refine ⟨⟨j + 1, rfl, by omega, fun k hk => ?_⟩, by omega⟩
          rcases Nat.lt_or_ge k j with q | q
          · exact hch k q
          · obtain rfl : k = j := by omega
            exact h3
        · have hd : ¬ (j : Int) < (((stt (m.getD []) i).2.2.getD []).length : Int) := dec_f hd
          obtain rfl : j = ((stt (m.getD []) i).2.2.getD []).length := by omega
          rw [wi64 (by omega) (by omega)]
          refine ⟨⟨i + 1, rfl, by omega, fun k hk => ?_⟩, by omega⟩
          rcases Nat.lt_or_ge k i with q | q
          · exact hall k q
          · obtain rfl : k = i := by omega
            exact ⟨hh, hch⟩
      · intro k hk
        refine brV_iff.2 ⟨fun h => hk _ ⟨true, rfl, fun _ => no fun hq => ?_, fun h => by cases h⟩, fun h => ?_⟩
        · have h := dec_t h; have := hq.1; omega
        have e1 := dec_f h
        refine brV_iff.2 ⟨fun h => hk _ ⟨true, rfl, fun _ => no fun hq => ?_, fun h => by cases h⟩, fun h => ?_⟩
        · have h := dec_t h; have := hq.1; omega
        have e2 := dec_f h
        refine brV_iff.2 ⟨fun h => hk _ ⟨true, rfl, fun _ => no fun hq => ?_, fun h => by cases h⟩, fun h => ?_⟩
        · have h := dec_t h; have := hq.2.1; omega
        have e3 := dec_f h
        refine brV_iff.2 ⟨fun h => hk _ ⟨true, rfl, fun _ => no fun hq => ?_, fun h => by cases h⟩, fun h => ?_⟩
        · have h := dec_t h; have := hq.2.1; omega
        have e4 := dec_f h
        refine brV_iff.2 ⟨fun h => hk _ ⟨true, rfl, fun _ => no fun hq => ?_, fun h => by cases h⟩, fun h => ?_⟩
        · have h : (((stt (m.getD []) i).2.2.getD []).length : Int) < 1 := dec_t h
          have := hq.2.2; omega
        have e5 : ¬ (((stt (m.getD []) i).2.2.getD []).length : Int) < 1 := dec_f h
        refine hk _ ⟨_, rfl, fun h => no fun hq => ?_, fun h => ⟨⟨by omega, by omega⟩, ⟨by omega, by omega⟩, ⟨by omega, ?_⟩⟩⟩
        · have h : (8 : Int) < (((stt (m.getD []) i).2.2.getD []).length : Int) := dec_t h
          have := hq.2.2; omega
        · have h : ¬ (8 : Int) < (((stt (m.getD []) i).2.2.getD []).length : Int) := dec_f h
          omega
    · have hc : ¬ (i : Int) < ((m.getD []).length : Int) := dec_f hc
      obtain rfl : i = (m.getD []).length := by omega
      exact (decide_eq_true ⟨⟨g1, g2⟩, hall⟩).symm
  · intro k hk
    refine brV_iff.2 ⟨fun h => hk _ ⟨true, rfl, fun _ hq => ?_, fun h => by cases h⟩, fun h => ?_⟩
    · have h : ((m.getD []).length : Int) < 1 := dec_t h
      have := hq.1; omega
    have e5 : ¬ ((m.getD []).length : Int) < 1 := dec_f h
    refine hk _ ⟨_, rfl, fun h hq => ?_, fun h => ⟨by omega, ?_⟩⟩
    · have h : (40 : Int) < ((m.getD []).length : Int) := dec_t h
      have := hq.1; omega
    · have h : ¬ (40 : Int) < ((m.getD []).length : Int) := dec_f h
      omega

end Go.Proofs.Pf.B

namespace Go.Proofs.Pf.B

open Go Go.VM

abbrev cntL (s : DSt) : Int := ((s.2.2.getD []).length : Int)

end Go.Proofs.Pf.B
