/- Typed pure data, a condition on code that says what a call gives, what the code of each function comes to, and what each function gives. -/
import Derived.Lib.LaidTab
import Derived.Lib.ItoaNum
import Derived.Laws.CopyRow
import Derived.Laws.AppendOwn
import Derived.Laws.MakeOwn
import Derived.Laws.BytesString
import Derived.Laws.StructEq
import Derived.Laws.Small
import Derived.Tactics
import Derived.Calls
import Derived.Below
import Derived.KernelRfl
import Derived.Laws.Cells
import Derived.Test.YthdhckgmbfkglaaDoorProg
import Derived.Test.YthdhckgmbfkglaaDoorA8
import Derived.Test.YthdhckgmbfkglaaDoorA9
set_option linter.unusedVariables false
set_option linter.unusedSimpArgs false
namespace Go.Proofs.Pf

open Go Go.VM

variable {x y : (Int × Option (List Int)) × (Int × Option (List Int))} {q r : Rat} {k : Nat}

theorem RV_whole {a : Int × Option (List Int)} {n : Int} (h : IV a n) : RV (a, ((0 : Int), none)) (Rat.divInt n 1) := by
  obtain ⟨h1, h2⟩ := divInt_one n
  refine ⟨by rw [h1]; exact h, .inr ⟨⟨rfl, by decide, by decide⟩, by rw [h2]; rfl⟩⟩

theorem s_RAdd (hlong : LongS) (hx : RV x q) (hy : RV y r) (fx : RFit k q) (fy : RFit k r) (hk : k + k + 1 ≤ 1073741824) : callV Pg c_exact_Rat_Add [⟨tER, x⟩, ⟨tER, y⟩] tER fun z => RV z (q + r) := by
  have hq := q.den_nz
  have hr := r.den_nz
  refine w_exact_Rat_Add x y (RV_ex _) (joinR (fun p => ∃ b : Bool, p = (b, x, y, ((0 : Int), none), ((0 : Int), none)) ∧ (b = true → q.den = 1 ∧ r.den = 1)) ?_ ?_)
  · rintro _ ⟨b, rfl, hb⟩
    refine brV_iff.2 ⟨fun h => ?_, fun _ => ?_⟩
    · obtain ⟨h1, h2⟩ := hb h
      refine (s_Add hx.1 hy.1 fx.1 fy.1 (by omega)).mono fun p hp => ?_
      rw [rat_add, h1, h2]
      have e : q.num * ((1 : Nat) : Int) + r.num * ((1 : Nat) : Int) = q.num + r.num := by omega
      rw [e]
      exact RV_whole hp
    · refine (s_Low hy).mono fun p1 h1 => (s_Mul hx.1 h1 fx.1 fy.2 (by omega) (by omega)).mono fun p2 h2 => ?_
      refine (s_Low hx).mono fun p3 h3 => (s_Mul hy.1 h3 fy.1 fx.2 (by omega) (by omega)).mono fun p4 h4 => ?_
      refine (s_Add h2 h4 (fx.1.mul fy.2 (Nat.le_refl _)) (fy.1.mul fx.2 (Nat.le_refl _)) (by omega)).mono fun p5 h5 => ?_
      refine (s_Low hx).mono fun p6 h6 => (s_Low hy).mono fun p7 h7 => (s_Mul h6 h7 fx.2 fy.2 (by omega) (by omega)).mono fun p8 h8 => ?_
      refine (s_Ratio hlong h5 h8 ?_ ((fx.1.mul fy.2 (Nat.le_refl _)).add (fy.1.mul fx.2 (Nat.le_refl _)) (Nat.lt_succ_self _)) ((fx.2.mul fy.2 (Nat.le_refl _)).mono (Nat.le_succ _)) hk).mono fun p9 h9 => ?_
      · exact Int.mul_ne_zero (by omega) (by omega)
      · rw [rat_add]; exact h9
  · intro k' hk'
    refine (s_whole hx).mono fun b hb => brV_iff.2 ⟨fun h => ?_, fun _ => hk' _ ⟨false, rfl, fun h => by simp at h⟩⟩
    refine (s_whole hy).mono fun c hc => hk' _ ⟨c, rfl, fun h2 => ⟨hb h, hc h2⟩⟩

theorem s_RSub (hlong : LongS) (hx : RV x q) (hy : RV y r) (fx : RFit k q) (fy : RFit k r) (hk : k + k + 1 ≤ 1073741824) : callV Pg c_exact_Rat_Sub [⟨tER, x⟩, ⟨tER, y⟩] tER fun z => RV z (q - r) := by
  refine w_exact_Rat_Sub x y (RV_ex _) ((s_RNeg hy).mono fun p h => ?_)
  rw [Rat.sub_eq_add_neg]
  exact (s_RAdd hlong hx h fx ⟨fy.1.neg, fy.2⟩ hk).mono fun z hz => hz

end Go.Proofs.Pf

namespace Go.Proofs.Pf

open Go Go.VM

def NumOk (a : Int × Int) : Prop := 1 ≤ a.2 ∧ a.2 ≤ 1152921504606846976 ∧ a.1 ≤ 1152921504606846976 ∧ -1152921504606846976 ≤ a.1 ∧ Int.gcd a.1 a.2 = 1

instance (a : Int × Int) : Decidable (NumOk a) := by unfold NumOk; infer_instance

def numQ (a : Int × Int) : Rat := Rat.divInt a.1 a.2

theorem NumOk.q {a : Int × Int} (h : NumOk a) : (numQ a).num = a.1 ∧ ((numQ a).den : Int) = a.2 := by
  obtain ⟨h1, h2, h3, h4, h5⟩ := h
  have e : sgn a.2 = 1 := if_pos (by omega)
  rw [numQ, ratio_num _ _ (by omega), ratio_den _ _ (by omega), e, h5]
  simp

theorem fit_i64 {n : Int} (h1 : -9223372036854775808 ≤ n) (h2 : n < 9223372036854775808) : Fit 2 n := by
  unfold Fit
  rw [show (4294967296 : Int) ^ 2 = 18446744073709551616 from rfl]
  omega

theorem s_Valid (hlong : LongS) (a : Int × Int) : callV Pg c_num_Valid [⟨tNum, a⟩] .bool fun r => r = decide (NumOk a) := by
  refine w_num_Valid a ⟨_, rfl⟩ (joinR (fun p => ∃ b : Bool, p = (b, a) ∧ (b = true → ¬ NumOk a) ∧ (b = false → 1 ≤ a.2 ∧ a.2 ≤ 1152921504606846976 ∧ a.1 ≤ 1152921504606846976 ∧ -1152921504606846976 ≤ a.1)) ?_ ?_)
  · rintro _ ⟨b, rfl, h1, h2⟩
    refine brV_iff.2 ⟨fun h => ?_, fun h => ?_⟩
    · exact (decide_eq_false (h1 h)).symm
    · obtain ⟨q1, q2, q3, q4⟩ := h2 h
      refine (s_Of (n := a.1) (by omega) (by omega)).mono fun p1 e1 => (s_Of (n := a.2) (by omega) (by omega)).mono fun p2 e2 => ?_
      refine (s_Gcd hlong e1 e2 (fit_i64 (by omega) (by omega)) (fit_i64 (by omega) (by omega)) (by omega)).mono fun p3 e3 => (s_Int e3 (by decide) (by decide)).mono ?_
      rintro _ rfl
      refine decide_eq_decide.2 ?_
      unfold smallI NumOk
      split
      · constructor
        · intro h; have h : ((Int.gcd a.1 a.2 : Nat) : Int) = 1 := h; exact ⟨q1, q2, q3, q4, by omega⟩
        · rintro ⟨_, _, _, _, h⟩; show ((Int.gcd a.1 a.2 : Nat) : Int) = 1; omega
      · rename_i hn
        constructor
        · intro h; simp at h
        · rintro ⟨_, _, _, _, h⟩; exact absurd ⟨by omega, by omega⟩ hn
  · intro k hk
    refine brV_iff.2 ⟨fun h => hk _ ⟨true, rfl, fun _ hN => ?_, fun h => by simp at h⟩, fun h => brV_iff.2 ⟨fun h2 => hk _ ⟨true, rfl, fun _ hN => ?_, fun h => by simp at h⟩, fun h2 => brV_iff.2 ⟨fun h3 => hk _ ⟨true, rfl, fun _ hN => ?_, fun h => by simp at h⟩, fun h3 => hk _ ⟨_, rfl, fun h4 hN => ?_, fun h4 => ?_⟩⟩⟩⟩
    · have h : a.2 < 1 := dec_t h
      have := hN.1; omega
    · have h2 : 1152921504606846976 < a.2 := dec_t h2
      have := hN.2.1; omega
    · have h3 : 1152921504606846976 < a.1 := dec_t h3
      have := hN.2.2.1; omega
    · have h4 : a.1 < -1152921504606846976 := dec_t h4
      have := hN.2.2.2.1; omega
    · have h : ¬ a.2 < 1 := dec_f h
      have h2 : ¬ 1152921504606846976 < a.2 := dec_f h2
      have h3 : ¬ 1152921504606846976 < a.1 := dec_f h3
      have h4 : ¬ a.1 < -1152921504606846976 := dec_f h4
      omega

theorem s_Rat (hlong : LongS) {a : Int × Int} (h : NumOk a) : callV Pg c_num_Rat [⟨tNum, a⟩] tER fun r => RV r (numQ a) := by
  obtain ⟨q1, q2, q3, q4, _⟩ := h
  refine w_num_Rat a (RV_ex _) ((s_Of (n := a.1) (by omega) (by omega)).mono fun p1 e1 => (s_Of (n := a.2) (by omega) (by omega)).mono fun p2 e2 => ?_)
  exact (s_Ratio hlong e1 e2 (by omega) (fit_i64 (by omega) (by omega)) (fit_i64 (by omega) (by omega)) (by omega)).mono fun p h => h

theorem NumOk.fit {a : Int × Int} (h : NumOk a) : RFit 2 (numQ a) := by
  obtain ⟨e1, e2⟩ := h.q
  obtain ⟨q1, q2, q3, q4, _⟩ := h
  exact ⟨by rw [e1]; exact fit_i64 (by omega) (by omega), by rw [e2]; exact fit_i64 (by omega) (by omega)⟩

end Go.Proofs.Pf

namespace Go.Proofs.Pf

open Go Go.VM

theorem NumOk.ext {x y : Int × Int} (hx : NumOk x) (hy : NumOk y) (h : numQ x = numQ y) : x = y := by
  have e1 := hx.q
  have e2 := hy.q
  rw [h] at e1
  exact Prod.ext (e1.1.symm.trans e2.1) (e1.2.symm.trans e2.2)

end Go.Proofs.Pf

namespace Go.Proofs.Pf.B

open Go Go.VM

def RFit (k : Nat) (q : Rat) : Prop := Fit k q.num ∧ Fit k (q.den : Int)

theorem RFit.mono {k j : Nat} {q : Rat} (h : RFit k q) (hj : k ≤ j) : RFit j q := ⟨h.1.mono hj, h.2.mono hj⟩

theorem fit_i64 {n : Int} (h1 : -9223372036854775808 ≤ n) (h2 : n < 9223372036854775808) : Fit 3 n := by
  unfold Fit
  rw [show (1073741824 : Int) ^ 3 = 1237940039285380274899124224 from rfl]
  omega

variable {x y : (Int × Bool × Option (List Int)) × (Int × Bool × Option (List Int))} {q r : Rat} {k : Nat}

end Go.Proofs.Pf.B

namespace Go.Proofs.Pf.B

open Go Go.VM

theorem s_RCmp {x y : (Int × Option (List Int)) × (Int × Option (List Int))} {q r : Rat} {k : Nat} (hx : RV x q) (hy : RV y r) (fx : Pf.RFit k q) (fy : Pf.RFit k r) (hk : k + k + 1 ≤ 1073741824) : callV Pg c_exact_Rat_Cmp [⟨tER, x⟩, ⟨tER, y⟩] tI fun z => z = sgn (q - r).num :=
  w_exact_Rat_Cmp x y ⟨_, rfl⟩ ((s_RSub longS hx hy fx fy hk).mono fun _ h => s_RSign h)

end Go.Proofs.Pf.B

namespace Go.Proofs.Pf

structure SPre (p q r s : Int) : Prop where
  p0 : 0 < p
  q0 : 0 < q
  r0 : 0 < r
  s0 : 0 < s
  le : p * s ≤ r * q

theorem SPre.next {p q r s : Int} (h : SPre p q r s) (h1 : ¬ p % q = 0) (h2 : ¬ (p / q + 1) * s ≤ r) :
    SPre s (r - p / q * s) q (p - p / q * q) ∧ r - p / q * s < s ∧ p - p / q * q < q := by
  obtain ⟨p0, q0, r0, s0, le⟩ := h
  have hd := Int.mul_ediv_add_emod p q
  have hm0 := Int.emod_nonneg p (show q ≠ 0 by omega)
  have hm1 := Int.emod_lt_of_pos p q0
  generalize p / q = n at *
  generalize p % q = m at *
  have e : p - n * q = m := by rw [Int.mul_comm n q]; omega
  have hr : 0 < r - n * s := by
    have h3 : q * (n * s) < q * r := by
      have h4 : p * s = q * (n * s) + m * s := by rw [← hd, Int.add_mul, Int.mul_assoc]
      have h5 : 0 < m * s := Int.mul_pos (by omega) s0
      rw [Int.mul_comm q r]; omega
    have := Int.lt_of_mul_lt_mul_left h3 (by omega)
    omega
  rw [e]
  refine ⟨⟨s0, hr, q0, by omega, ?_⟩, ?_, hm1⟩
  · rw [Int.mul_sub, ← e]; grind
  · rw [Int.add_mul, Int.one_mul] at h2; omega

theorem divInt_parts (n : Int) {m : Int} (hm : 0 < m) : (Rat.divInt n m).num * m = n * ((Rat.divInt n m).den : Int) ∧ (Rat.divInt n m).num.natAbs ≤ n.natAbs ∧ (Rat.divInt n m).den ≤ m.natAbs := by
  have e : sgn m = 1 := if_pos hm
  have h1 := ratio_num n m (by omega)
  have h2 := ratio_den n m (by omega)
  rw [e, Int.one_mul] at h1 h2
  have d1 : ((Int.gcd n m : Nat) : Int) ∣ n := Int.gcd_dvd_left ..
  have d2 : ((Int.gcd n m : Nat) : Int) ∣ m := Int.gcd_dvd_right ..
  have c1 := Int.mul_tdiv_cancel' d1
  have c2 := Int.mul_tdiv_cancel' d2
  refine ⟨?_, ?_, ?_⟩
  · rw [h1, h2]
    generalize ((Int.gcd n m : Nat) : Int) = g at *
    conv => lhs; rw [← c2]
    conv => rhs; rw [← c1]
    grind
  · rw [h1, Int.natAbs_tdiv]; exact Nat.div_le_self _ _
  · have : ((Rat.divInt n m).den : Int).natAbs ≤ m.natAbs := by rw [h2, Int.natAbs_tdiv]; exact Nat.div_le_self _ _
    omega

end Go.Proofs.Pf

namespace Go.Proofs.Pf.B

open Go Go.VM

theorem pfit_add {q r : Rat} {k j : Nat} (h : Pf.RFit k q) (g : Pf.RFit j r) : Pf.RFit (k + j + 1) (q + r) := by
  have hq := q.den_nz
  have hr := r.den_nz
  rw [rat_add]
  obtain ⟨_, h1, h2⟩ := divInt_parts (q.num * (r.den : Int) + r.num * (q.den : Int)) (show 0 < (q.den : Int) * (r.den : Int) from Int.mul_pos (by omega) (by omega))
  exact ⟨((h.1.mul g.2 (Nat.le_refl _)).add (g.1.mul h.2 (Nat.le_of_eq (Nat.add_comm _ _))) (Nat.lt_succ_self _)).of h1, ((h.2.mul g.2 (Nat.le_refl _)).mono (Nat.le_succ _)).of (by omega)⟩

theorem zero_rv : RV (((0 : Int), none), ((0 : Int), none)) (0 : Rat) := ⟨⟨rfl, by decide, by decide⟩, .inr ⟨⟨rfl, by decide, by decide⟩, rfl⟩⟩

theorem zero_pfit : Pf.RFit 1 (0 : Rat) := by unfold Pf.RFit Pf.Fit; decide

end Go.Proofs.Pf.B

namespace Go.Proofs.Pf.B

open Go Go.VM

abbrev br (l : List DBr) (i : Nat) : DBr := l.getD i (0, (0, 0))

/-- The state that the branch before leads to. -/
def preTo (l : List DBr) : Nat → Int
  | 0 => -1
  | i + 1 => (br l i).1

def brOk (n : Int) (l : List DBr) (i : Nat) : Prop := preTo l i < (br l i).1 ∧ (br l i).1 < n ∧ NumOk (br l i).2 ∧ 0 < (br l i).2.1

instance (n : Int) (l : List DBr) (i : Nat) : Decidable (brOk n l i) := by unfold brOk; infer_instance

/-- The sum of the first chances. -/
def sumR (l : List DBr) : Nat → Rat
  | 0 => 0
  | i + 1 => sumR l i + numQ (br l i).2

def chOk (n : Int) (c : DCh) : Prop := NumOk c.1 ∧ (1 ≤ (c.2.getD []).length ∧ (c.2.getD []).length ≤ 8) ∧ (∀ i, i < (c.2.getD []).length → brOk n (c.2.getD []) i) ∧ sumR (c.2.getD []) (c.2.getD []).length = 1

instance (n : Int) (c : DCh) : Decidable (chOk n c) := by unfold chOk; infer_instance

theorem pre_le {n : Int} {l : List DBr} : ∀ {i : Nat}, (∀ j, j < i → brOk n l j) → -1 ≤ preTo l i
  | 0, _ => by simp [preTo]
  | i + 1, h => by
    have h1 := (h i (by omega)).1
    have h2 := pre_le (i := i) fun j hj => h j (by omega)
    show -1 ≤ (br l i).1
    omega

theorem sgn_sub_one {q : Rat} : sgn (q - 1).num = 0 ↔ q = 1 := by
  constructor
  · intro h
    have h0 : (q - 1).num = 0 := by
      unfold sgn at h
      repeat' split at h
      all_goals omega
    have h1 : q - 1 = 0 := Rat.num_eq_zero.1 h0
    have h2 : q - 1 + 1 = 0 + 1 := by rw [h1]
    rwa [Rat.sub_add_cancel, Rat.zero_add] at h2
  · rintro rfl
    rw [Rat.sub_self]; rfl

theorem eltS_br {l : Option (List DBr)} {i : Nat} : eltS ((0 : Int), ((0 : Int), (0 : Int))) l (i : Int) = br (l.getD []) i := by simp only [eltS, Int.toNat_natCast]

theorem one_rfit : Pf.RFit 1 (1 : Rat) := by unfold Pf.RFit Pf.Fit; decide

theorem s_choice (n : Int) (c : DCh) : callV Pg c_model_choice [⟨tI, n⟩, ⟨tCh, c⟩] .bool fun r => r = decide (chOk n c) := by
  refine w_model_choice n c ⟨_, rfl⟩ (joinR (fun p => ∃ b : Bool, p = (n, (b, c)) ∧ (b = true → ¬ chOk n c) ∧ (b = false → NumOk c.1 ∧ (1 ≤ (c.2.getD []).length ∧ (c.2.getD []).length ≤ 8))) ?_ ?_)
  · rintro _ ⟨b, rfl, h1, h2⟩
    dsimp only
    refine brV_iff.2 ⟨fun h => (decide_eq_false (h1 h)).symm, fun h => ?_⟩
    obtain ⟨g1, g2, g3⟩ := h2 h
    refine loopE (fun p => ∃ (i : Nat) (x : _), p = (n, (preTo (c.2.getD []) i, (c.2, (((c.2.getD []).length : Int), ((i : Int), x))))) ∧ i ≤ (c.2.getD []).length ∧ (∀ j, j < i → brOk n (c.2.getD []) j) ∧ RV x (sumR (c.2.getD []) i) ∧ Pf.RFit (3 * i + 1) (sumR (c.2.getD []) i)) (fun p => (c.2.getD []).length - p.2.2.2.2.1.toNat)
      ⟨0, (((0 : Int), none), ((0 : Int), none)), rfl, by omega, fun j h => by omega, zero_rv, zero_pfit⟩ ?_
    rintro _ ⟨i, x, rfl, hi, hall, hx, fx⟩
    dsimp only
    refine brV_iff.2 ⟨fun hc => ?_, fun hc => ?_⟩
    · have hc : (i : Int) < ((c.2.getD []).length : Int) := dec_t hc
      rw [eltS_br]
      refine ⟨⟨by omega, by omega⟩, ?_⟩
      refine joinR (fun p => ∃ b : Bool, p = (n, (c.2, (((c.2.getD []).length : Int), ((i : Int), (b, (x, br (c.2.getD []) i)))))) ∧ (b = true → ¬ brOk n (c.2.getD []) i) ∧ (b = false → brOk n (c.2.getD []) i)) ?_ ?_
      · rintro _ ⟨b, rfl, k1, k2⟩
        dsimp only
        refine brV_iff.2 ⟨fun h => (decide_eq_false fun hq => k1 h (hq.2.2.1 i (by omega))).symm, fun h => ?_⟩
        have hb := k2 h
        have o1 := hb.2.2.1
        refine (s_Rat longS o1).mono fun p4 h4 => ?_
        refine (s_RAdd longS hx h4 (fx.mono (show 3 * i + 1 ≤ 100 by omega)) (o1.fit.mono (by decide)) (by decide)).mono fun p5 h5 => ?_
        rw [wi64 (by omega) (by omega)]
        refine ⟨⟨i + 1, p5, rfl, by omega, fun j hj => ?_, h5, (pfit_add fx o1.fit).mono (by omega)⟩, by omega⟩
        rcases Nat.lt_or_ge j i with q | q
        · exact hall j q
        · obtain rfl : j = i := by omega
          exact hb
      · intro k hk
        refine brV_iff.2 ⟨fun h => hk _ ⟨true, rfl, fun _ hq => ?_, fun h => by cases h⟩, fun h => ?_⟩
        · have h := dec_t h; have := hq.1; omega
        have e1 := dec_f h
        refine brV_iff.2 ⟨fun h => hk _ ⟨true, rfl, fun _ hq => ?_, fun h => by cases h⟩, fun h => ?_⟩
        · have h := dec_t h; have := hq.2.1; omega
        have e2 := dec_f h
        refine (s_Valid longS _).mono ?_
        rintro _ rfl
        refine brV_iff.2 ⟨fun h => hk _ ⟨true, rfl, fun _ hq => not_t h hq.2.2.1, fun h => by cases h⟩, fun h => ?_⟩
        have e3 := not_f h
        refine hk _ ⟨_, rfl, fun h hq => ?_, fun h => ⟨by omega, by omega, e3, ?_⟩⟩
        · have h := dec_t h; have := hq.2.2.2; omega
        · have h := dec_f h; omega
    · have hc : ¬ (i : Int) < ((c.2.getD []).length : Int) := dec_f hc
      obtain rfl : i = (c.2.getD []).length := by omega
      refine (s_Whole (n := 1) (by decide) (by decide)).mono fun p3 h3 => ?_
      refine (s_RCmp hx h3 (fx.mono (show 3 * (c.2.getD []).length + 1 ≤ 100 by omega)) (one_rfit.mono (by decide)) (by decide)).mono ?_
      rintro _ rfl
      have e : decide (sgn (sumR (c.2.getD []) (c.2.getD []).length - ((1 : Int) : Rat)).num = (0 : Int)) = decide (chOk n c) := by
        rw [decide_eq_decide]
        exact sgn_sub_one.trans ⟨fun h => ⟨g1, ⟨g2, g3⟩, hall, h⟩, fun h => h.2.2.2⟩
      exact e
  · intro k hk
    refine (s_Valid longS _).mono ?_
    rintro _ rfl
    refine brV_iff.2 ⟨fun h => hk _ ⟨true, rfl, fun _ hq => not_t h hq.1, fun h => by cases h⟩, fun h => ?_⟩
    have e1 := not_f h
    refine brV_iff.2 ⟨fun h => hk _ ⟨true, rfl, fun _ hq => ?_, fun h => by cases h⟩, fun h => ?_⟩
    · have h : ((c.2.getD []).length : Int) < 1 := dec_t h
      have := hq.2.1.1; omega
    have e2 : ¬ ((c.2.getD []).length : Int) < 1 := dec_f h
    refine hk _ ⟨_, rfl, fun h hq => ?_, fun h => ⟨e1, by omega, ?_⟩⟩
    · have h : (8 : Int) < ((c.2.getD []).length : Int) := dec_t h
      have := hq.2.1.2; omega
    · have h : ¬ (8 : Int) < ((c.2.getD []).length : Int) := dec_f h
      omega

end Go.Proofs.Pf.B

namespace Go.Proofs.Pf.B

open Go Go.VM

abbrev ch (l : List DCh) (i : Nat) : DCh := l.getD i (((0, 0), none))

abbrev stt (l : List DSt) (i : Nat) : DSt := l.getD i (0, (0, none))

/-- A state's owner, its Mark and the number of its choices. -/
def stHead (s : DSt) : Prop := (0 ≤ s.1 ∧ s.1 ≤ 1) ∧ (0 ≤ s.2.1 ∧ s.2.1 ≤ 63) ∧ (1 ≤ (s.2.2.getD []).length ∧ (s.2.2.getD []).length ≤ 8)

instance (s : DSt) : Decidable (stHead s) := by unfold stHead; infer_instance

def stOk (n : Int) (s : DSt) : Prop := stHead s ∧ ∀ j, j < (s.2.2.getD []).length → chOk n (ch (s.2.2.getD []) j)

instance (n : Int) (s : DSt) : Decidable (stOk n s) := by unfold stOk; infer_instance

def moOk (m : DMo) : Prop := (1 ≤ (m.getD []).length ∧ (m.getD []).length ≤ 40) ∧ ∀ i, i < (m.getD []).length → stOk (m.getD []).length (stt (m.getD []) i)

instance (m : DMo) : Decidable (moOk m) := by unfold moOk; infer_instance

theorem eltS_st {l : Option (List DSt)} {i : Nat} : eltS ((0 : Int), ((0 : Int), none)) l (i : Int) = stt (l.getD []) i := by simp only [eltS, Int.toNat_natCast]

theorem eltS_ch {l : Option (List DCh)} {i : Nat} : eltS (((0 : Int), (0 : Int)), none) l (i : Int) = ch (l.getD []) i := by simp only [eltS, Int.toNat_natCast]

theorem s_MValid (m : DMo) : callV Pg c_model_Valid [⟨tMo, m⟩] .bool fun r => r = decide (moOk m) := by
  refine w_model_Valid m ⟨_, rfl⟩ (joinR (fun p => ∃ b : Bool, p = (((m.getD []).length : Int), (b, m)) ∧ (b = true → ¬ moOk m) ∧ (b = false → 1 ≤ (m.getD []).length ∧ (m.getD []).length ≤ 40)) ?_ ?_)
  · rintro _ ⟨b, rfl, h1, h2⟩
    dsimp only
    refine brV_iff.2 ⟨fun h => (decide_eq_false (h1 h)).symm, fun h => ?_⟩
    obtain ⟨g1, g2⟩ := h2 h
    refine loopE (fun p => ∃ i : Nat, p = (((m.getD []).length : Int), (m, (((m.getD []).length : Int), (i : Int)))) ∧ i ≤ (m.getD []).length ∧ (∀ j, j < i → stOk (m.getD []).length (stt (m.getD []) j))) (fun p => (m.getD []).length - p.2.2.2.toNat)
      ⟨0, rfl, by omega, fun j h => by omega⟩ ?_
    rintro _ ⟨i, rfl, hi, hall⟩
    dsimp only
    refine brV_iff.2 ⟨fun hc => ?_, fun hc => ?_⟩
    · have hc : (i : Int) < ((m.getD []).length : Int) := dec_t hc
      rw [eltS_st]
      have no : ¬ stHead (stt (m.getD []) i) → ¬ moOk m := fun h hq => h (hq.2 i (by omega)).1
      refine ⟨⟨by omega, by omega⟩, joinR (fun p => ∃ b : Bool, p = (((m.getD []).length : Int), (m, (((m.getD []).length : Int), ((i : Int), (b, stt (m.getD []) i))))) ∧ (b = true → ¬ moOk m) ∧ (b = false → stHead (stt (m.getD []) i))) ?_ ?_⟩
      · rintro _ ⟨b, rfl, k1, k2⟩
        dsimp only
        refine brV_iff.2 ⟨fun h => (decide_eq_false (k1 h)).symm, fun h => ?_⟩
        have hh := k2 h
        obtain ⟨_, _, c1, c2⟩ := id hh
        refine loopE (fun p => ∃ j : Nat, p = (((m.getD []).length : Int), (m, (((m.getD []).length : Int), ((i : Int), ((stt (m.getD []) i).2.2, ((((stt (m.getD []) i).2.2.getD []).length : Int), (j : Int))))))) ∧ j ≤ ((stt (m.getD []) i).2.2.getD []).length ∧ (∀ k, k < j → chOk (m.getD []).length (ch ((stt (m.getD []) i).2.2.getD []) k)))
          (fun p => ((stt (m.getD []) i).2.2.getD []).length - p.2.2.2.2.2.2.toNat) ⟨0, rfl, by omega, fun j h => by omega⟩ ?_
        rintro _ ⟨j, rfl, hj, hch⟩
        dsimp only
        refine brV_iff.2 ⟨fun hd => ?_, fun hd => ?_⟩
        · have hd : (j : Int) < (((stt (m.getD []) i).2.2.getD []).length : Int) := dec_t hd
          rw [eltS_ch]
          refine ⟨⟨by omega, by omega⟩, (s_choice _ _).mono ?_⟩
          rintro _ rfl
          refine brV_iff.2 ⟨fun h => (decide_eq_false fun hq => not_t h ((hq.2 i (by omega)).2 j (by omega))).symm, fun h => ?_⟩
          have h3 := not_f h
          rw [wi64 (by omega) (by omega)]
          refine ⟨⟨j + 1, rfl, by omega, fun k hk => ?_⟩, by omega⟩
          rcases Nat.lt_or_ge k j with q | q
          · exact hch k q
          · obtain rfl : k = j := by omega
            exact h3
        · have hd : ¬ (j : Int) < (((stt (m.getD []) i).2.2.getD []).length : Int) := dec_f hd
          obtain rfl : j = ((stt (m.getD []) i).2.2.getD []).length := by omega
          rw [wi64 (by omega) (by omega)]
          refine ⟨⟨i + 1, rfl, by omega, fun k hk => ?_⟩, by omega⟩
          rcases Nat.lt_or_ge k i with q | q
          · exact hall k q
          · obtain rfl : k = i := by omega
            exact ⟨hh, hch⟩
      · intro k hk
        refine brV_iff.2 ⟨fun h => hk _ ⟨true, rfl, fun _ => no fun hq => ?_, fun h => by cases h⟩, fun h => ?_⟩
        · have h := dec_t h; have := hq.1; omega
        have e1 := dec_f h
        refine brV_iff.2 ⟨fun h => hk _ ⟨true, rfl, fun _ => no fun hq => ?_, fun h => by cases h⟩, fun h => ?_⟩
        · have h := dec_t h; have := hq.1; omega
        have e2 := dec_f h
        refine brV_iff.2 ⟨fun h => hk _ ⟨true, rfl, fun _ => no fun hq => ?_, fun h => by cases h⟩, fun h => ?_⟩
        · have h := dec_t h; have := hq.2.1; omega
        have e3 := dec_f h
        refine brV_iff.2 ⟨fun h => hk _ ⟨true, rfl, fun _ => no fun hq => ?_, fun h => by cases h⟩, fun h => ?_⟩
        · have h := dec_t h; have := hq.2.1; omega
        have e4 := dec_f h
        refine brV_iff.2 ⟨fun h => hk _ ⟨true, rfl, fun _ => no fun hq => ?_, fun h => by cases h⟩, fun h => ?_⟩
        · have h : (((stt (m.getD []) i).2.2.getD []).length : Int) < 1 := dec_t h
          have := hq.2.2; omega
        have e5 : ¬ (((stt (m.getD []) i).2.2.getD []).length : Int) < 1 := dec_f h
        refine hk _ ⟨_, rfl, fun h => no fun hq => ?_, fun h => ⟨⟨by omega, by omega⟩, ⟨by omega, by omega⟩, ⟨by omega, ?_⟩⟩⟩
        · have h : (8 : Int) < (((stt (m.getD []) i).2.2.getD []).length : Int) := dec_t h
          have := hq.2.2; omega
        · have h : ¬ (8 : Int) < (((stt (m.getD []) i).2.2.getD []).length : Int) := dec_f h
          omega
    · have hc : ¬ (i : Int) < ((m.getD []).length : Int) := dec_f hc
      obtain rfl : i = (m.getD []).length := by omega
      exact (decide_eq_true ⟨⟨g1, g2⟩, hall⟩).symm
  · intro k hk
    refine brV_iff.2 ⟨fun h => hk _ ⟨true, rfl, fun _ hq => ?_, fun h => by cases h⟩, fun h => ?_⟩
    · have h : ((m.getD []).length : Int) < 1 := dec_t h
      have := hq.1; omega
    have e5 : ¬ ((m.getD []).length : Int) < 1 := dec_f h
    refine hk _ ⟨_, rfl, fun h hq => ?_, fun h => ⟨by omega, ?_⟩⟩
    · have h : (40 : Int) < ((m.getD []).length : Int) := dec_t h
      have := hq.1; omega
    · have h : ¬ (40 : Int) < ((m.getD []).length : Int) := dec_f h
      omega

end Go.Proofs.Pf.B

namespace Go.Proofs.Pf.B

open Go Go.VM

abbrev cntL (s : DSt) : Int := ((s.2.2.getD []).length : Int)

/-- The product of the numbers of choices of the first states. -/
def prodTo (l : List DSt) : Nat → Int
  | 0 => 1
  | i + 1 => prodTo l i * cntL (stt l i)

abbrev prodM (m : DMo) : Int := prodTo (m.getD []) (m.getD []).length

theorem cnt_ok {m : DMo} (h : moOk m) {i : Nat} (hi : i < (m.getD []).length) : 1 ≤ cntL (stt (m.getD []) i) ∧ cntL (stt (m.getD []) i) ≤ 8 := by
  have := (h.2 i hi).1.2.2
  show (1 : Int) ≤ (((stt (m.getD []) i).2.2.getD []).length : Int) ∧ (((stt (m.getD []) i).2.2.getD []).length : Int) ≤ 8
  omega

theorem prod_ok {m : DMo} (h : moOk m) : ∀ {i : Nat}, i ≤ (m.getD []).length → 1 ≤ prodTo (m.getD []) i ∧ prodTo (m.getD []) i ≤ 8 ^ i
  | 0, _ => by simp [prodTo]
  | i + 1, hi => by
    obtain ⟨h1, h2⟩ := prod_ok h (i := i) (by omega)
    obtain ⟨h3, h4⟩ := cnt_ok h (show i < (m.getD []).length by omega)
    show 1 ≤ prodTo (m.getD []) i * cntL (stt (m.getD []) i) ∧ prodTo (m.getD []) i * cntL (stt (m.getD []) i) ≤ 8 ^ (i + 1)
    have h5 : (1 : Int) * 1 ≤ prodTo (m.getD []) i * cntL (stt (m.getD []) i) := Int.mul_le_mul h1 h3 (by decide) (by omega)
    have h6 : prodTo (m.getD []) i * cntL (stt (m.getD []) i) ≤ 8 ^ i * 8 := Int.mul_le_mul h2 h4 (by omega) (by omega)
    rw [Int.pow_succ]
    omega

theorem pow8_le {i : Nat} (h : i ≤ 40) : (8 : Int) ^ i ≤ 1329227995784915872903807060280344576 := by
  have h1 : 8 ^ i ≤ 8 ^ 40 := Nat.pow_le_pow_right (by decide) h
  have h2 : (8 : Nat) ^ 40 = 1329227995784915872903807060280344576 := by decide
  rw [h2] at h1
  have h3 := Int.ofNat_le.2 h1
  rw [Int.natCast_pow] at h3
  exact h3

theorem prod_fit {m : DMo} (h : moOk m) {i : Nat} (hi : i ≤ (m.getD []).length) : Pf.Fit 8 (prodTo (m.getD []) i) ∧ Fit 8 (prodTo (m.getD []) i) := by
  obtain ⟨h1, h2⟩ := prod_ok h hi
  have h3 := pow8_le (i := i) (by have := h.1; omega)
  constructor
  · unfold Pf.Fit
    rw [show (4294967296 : Int) ^ 8 = 115792089237316195423570985008687907853269984665640564039457584007913129639936 by decide]
    omega
  · unfold Fit
    rw [show (1073741824 : Int) ^ 8 = 1766847064778384329583297500742918515827483896875618958121606201292619776 by decide]
    omega

def cntV (m : DMo) : Int := if prodM m ≤ 1152921504606846976 then prodM m else 1152921504606846977

def countQ (m : DMo) : Int × Int × Unit := if moOk m then (if prodM m ≤ 1152921504606846976 then (prodM m, 0, ()) else (0, 3, ())) else (0, 1, ())

theorem s_count0 {m : DMo} (h : moOk m) : callV Pg c_model_count [⟨tMo, m⟩, ⟨tI, (0 : Int)⟩] tI fun r => r = cntV m := by
  have e : slcS m 0 (szSl m) = m := by
    cases m with
    | none => rfl
    | some l => simp [slcS, szSl]
  refine w_model_count m 0 ⟨_, rfl⟩ ((s_Of (n := 1) (by decide) (by decide)).mono fun p0 h0 => ?_)
  rw [e]
  refine ⟨⟨by omega, by show (0 : Int) ≤ ((m.getD []).length : Int); omega, Int.le_refl _⟩, ?_⟩
  refine loopE (fun p => ∃ (i : Nat) (x : _), p = (m, (((m.getD []).length : Int), ((i : Int), x))) ∧ i ≤ (m.getD []).length ∧ IV x (prodTo (m.getD []) i)) (fun p => (m.getD []).length - p.2.2.1.toNat) ⟨0, p0, rfl, by omega, h0⟩ ?_
  rintro _ ⟨i, x, rfl, hi, hx⟩
  dsimp only
  refine brV_iff.2 ⟨fun hc => ?_, fun hc => ?_⟩
  · have hc : (i : Int) < ((m.getD []).length : Int) := dec_t hc
    rw [eltS_st]
    obtain ⟨c1, c2⟩ := cnt_ok h (show i < (m.getD []).length by omega)
    refine ⟨⟨by omega, by omega⟩, (s_Of (n := cntL (stt (m.getD []) i)) (by omega) (by omega)).mono fun p3 h3 => ?_⟩
    refine (s_Mul hx h3 (prod_fit h hi).1 (Pf.fit_i64 (by omega) (by omega)) (by decide) (by decide)).mono fun p4 h4 => ?_
    have := h.1
    rw [wi64 (by omega) (by omega)]
    exact ⟨⟨i + 1, p4, rfl, by omega, h4⟩, by omega⟩
  · have hc : ¬ (i : Int) < ((m.getD []).length : Int) := dec_f hc
    obtain rfl : i = (m.getD []).length := by omega
    refine (s_Int hx (by decide) (by decide)).mono ?_
    rintro _ rfl
    have h1 : 1 ≤ prodM m := (prod_ok h (Nat.le_refl _)).1
    unfold smallI cntV
    by_cases g : prodM m ≤ 1152921504606846976
    · rw [if_pos ⟨g, by show -1152921504606846976 ≤ prodM m; omega⟩, if_pos g]; exact rfl
    · rw [if_neg fun q => g q.1, if_neg g]; exact rfl

theorem s_MCount (m : DMo) : callV Pg c_model_Count [⟨tMo, m⟩] (.tup (.pair tI (.pair tI .unit))) fun r => r = countQ m := by
  refine w_model_Count m ⟨_, rfl⟩ ((s_MValid m).mono ?_)
  rintro _ rfl
  refine brV_iff.2 ⟨fun hb => ?_, fun hb => ?_⟩
  · rw [countQ, if_neg (not_t hb)]
  have h := not_f hb
  rw [countQ, if_pos h]
  refine (s_count0 h).mono ?_
  rintro _ rfl
  unfold cntV
  by_cases g : prodM m ≤ 1152921504606846976
  · rw [if_pos g]
    exact brV_iff.2 ⟨fun _ => by rw [if_pos g], fun hc => absurd g (dec_f hc)⟩
  · rw [if_neg g]
    exact brV_iff.2 ⟨fun hc => absurd (show (1152921504606846977 : Int) ≤ 1152921504606846976 from dec_t hc) (by decide), fun hc => by rw [if_neg g]⟩

theorem s_ICmp {x y : Int × Option (List Int)} {n m : Int} {k : Nat} (hx : IV x n) (hy : IV y m) (fx : Pf.Fit k n) (fy : Pf.Fit k m) (hk : k ≤ 1073741824) : callV Pg c_exact_Int_Cmp [⟨tEI, x⟩, ⟨tEI, y⟩] tI fun r => r = Pf.sgn (n - m) :=
  w_exact_Int_Cmp x y ⟨_, rfl⟩ ((s_Sub hx hy fx fy hk).mono fun _ h => s_Sign h)

/-- The moves of a strategy, from the last state down. -/
def nthS (l : List DSt) : Nat → Int → Option (List Int) → Option (List Int)
  | 0, _, out => out
  | i + 1, x, out => nthS l i (x.tdiv (cntL (stt l i))) (setO out i (x.tmod (cntL (stt l i))))

def nthQ (m : DMo) (k : Int) : Option (List Int) × Int × Unit :=
  if moOk m then (if 0 ≤ k ∧ k < prodM m then (nthS (m.getD []) (m.getD []).length k (some (List.replicate (m.getD []).length 0)), 0, ()) else (none, 6, ())) else (none, 1, ())

theorem nthQ_no {m : DMo} {k : Int} (h : moOk m) (hk : ¬ (0 ≤ k ∧ k < prodM m)) : nthQ m k = (none, 6, ()) := by rw [nthQ, if_pos h, if_neg hk]

theorem nthQ_yes {m : DMo} {k : Int} (h : moOk m) (hk : 0 ≤ k ∧ k < prodM m) : nthQ m k = (nthS (m.getD []) (m.getD []).length k (some (List.replicate (m.getD []).length 0)), 0, ()) := by rw [nthQ, if_pos h, if_pos hk]

theorem set_len {out : Option (List Int)} {i : Nat} {y : Int} : ((setO out i y).getD []).length = (out.getD []).length := by cases out <;> simp [setO]

end Go.Proofs.Pf.B

namespace Go.Proofs.Pf.B

open Go Go.VM

theorem set_len' {out : Option (List Int)} {i : Nat} {y : Int} {n : Nat} (h : (out.getD []).length = n) : ((setO out i y).getD []).length = n := by rw [set_len]; exact h

theorem div_range {x c : Int} (h0 : 0 ≤ x) (h1 : x ≤ 9223372036854775807) (c1 : 1 ≤ c) : 0 ≤ x.tdiv c ∧ x.tdiv c ≤ 9223372036854775807 ∧ 0 ≤ x.tmod c ∧ x.tmod c < c := by
  rw [Int.tdiv_eq_ediv_of_nonneg h0, Int.tmod_eq_emod_of_nonneg h0]
  have h2 := Int.ediv_le_self (b := c) h0
  exact ⟨Int.ediv_nonneg h0 (by omega), by omega, Int.emod_nonneg _ (by omega), Int.emod_lt_of_pos _ (by omega)⟩

theorem s_Nth (m : DMo) (k : Int) (k0 : -9223372036854775808 ≤ k) (k1 : k ≤ 9223372036854775807) : callV Pg c_model_Nth [⟨tMo, m⟩, ⟨tI, k⟩] (.tup (.pair tL (.pair tI .unit))) fun r => r = nthQ m k := by
  refine w_model_Nth m k ⟨_, rfl⟩ ((s_MValid m).mono ?_)
  rintro _ rfl
  refine brV_iff.2 ⟨fun hb => ?_, fun hb => ?_⟩
  · rw [nthQ, if_neg (not_t hb)]
  have h := not_f hb
  have h40 := h.1
  refine (s_Of (n := k) (by omega) (by omega)).mono fun p1 hp1 => (s_Of (n := 1) (by decide) (by decide)).mono fun p2 hp2 => ?_
  refine loopE (fun p => ∃ (i : Nat) (x : _), p = (k, (m, (((m.getD []).length : Int), ((i : Int), (m, (p1, x)))))) ∧ i ≤ (m.getD []).length ∧ IV x (prodTo (m.getD []) i)) (fun p => (m.getD []).length - p.2.2.2.1.toNat) ⟨0, p2, rfl, by omega, hp2⟩ ?_
  rintro _ ⟨i, x, rfl, hi, hx⟩
  dsimp only
  refine brV_iff.2 ⟨fun hc => ?_, fun hc => ?_⟩
  · have hc : (i : Int) < ((m.getD []).length : Int) := dec_t hc
    rw [eltS_st]
    obtain ⟨c1, c2⟩ := cnt_ok h (show i < (m.getD []).length by omega)
    refine ⟨⟨by omega, by omega⟩, (s_Of (n := cntL (stt (m.getD []) i)) (by omega) (by omega)).mono fun p3 h3 => ?_⟩
    refine (s_Mul hx h3 (prod_fit h hi).1 (Pf.fit_i64 (by omega) (by omega)) (by decide) (by decide)).mono fun p4 h4 => ?_
    rw [wi64 (by omega) (by omega)]
    exact ⟨⟨i + 1, p4, rfl, by omega, h4⟩, by omega⟩
  have hc : ¬ (i : Int) < ((m.getD []).length : Int) := dec_f hc
  obtain rfl : i = (m.getD []).length := by omega
  refine joinR (fun p => ∃ b : Bool, p = (b, (m, p1)) ∧ (b = true → ¬ (0 ≤ k ∧ k < prodM m)) ∧ (b = false → 0 ≤ k ∧ k < prodM m)) ?_ ?_
  · rintro _ ⟨b, rfl, g1, g2⟩
    dsimp only
    refine brV_iff.2 ⟨fun hb => (nthQ_no h (g1 hb)).symm, fun hb => ?_⟩
    have hk := g2 hb
    refine ⟨⟨by show (0 : Int) ≤ ((m.getD []).length : Int); omega, Int.le_refl _, by show ((m.getD []).length : Int) * ((8 : Nat) : Int) ≤ 281474976710656; omega⟩, ?_⟩
    have e0 : (repS (szSl m) (0 : Int)) = List.replicate (m.getD []).length 0 := by simp [repS, szSl]
    rw [e0]
    refine loopE (fun p => ∃ (i : Nat) (x : _) (n : Int) (out : Option (List Int)), p = ((i : Int) - 1, (m, (x, out))) ∧ i ≤ (m.getD []).length ∧ IV x n ∧ 0 ≤ n ∧ n ≤ 9223372036854775807 ∧ (out.getD []).length = (m.getD []).length ∧
        nthS (m.getD []) i n out = nthS (m.getD []) (m.getD []).length k (some (List.replicate (m.getD []).length 0))) (fun p => (p.1 + 1).toNat)
      ⟨(m.getD []).length, p1, k, _, by rw [wi64 (by show -9223372036854775808 ≤ ((m.getD []).length : Int) - 1; omega) (by show ((m.getD []).length : Int) - 1 < _; omega)], by omega, hp1, hk.1, k1, by simp, rfl⟩ ?_
    rintro _ ⟨i, x, n, out, rfl, hi, hx, n0, n1, hl, hs⟩
    dsimp only
    refine brV_iff.2 ⟨fun hd => ?_, fun hd => ?_⟩
    · have hd := dec_t hd
      obtain ⟨j, rfl⟩ : ∃ j, i = j + 1 := ⟨i - 1, by omega⟩
      rw [show ((j + 1 : Nat) : Int) - 1 = (j : Int) by omega, eltS_st]
      obtain ⟨c1, c2⟩ := cnt_ok h (show j < (m.getD []).length by omega)
      obtain ⟨d1, d2, d3, d4⟩ := div_range n0 n1 c1
      refine ⟨⟨by omega, by omega⟩, (s_Of (n := cntL (stt (m.getD []) j)) (by omega) (by omega)).mono fun p8 h8 => ?_⟩
      refine (s_Quo longS hx h8 (by omega) (Pf.fit_i64 (by omega) (by omega)) (by decide)).mono ?_
      rintro p9 ⟨q1, q2⟩
      refine (s_Int q2 (by decide) (by decide)).mono ?_
      rintro _ rfl
      rw [smallI, if_pos ⟨by omega, by omega⟩]
      refine ⟨⟨by omega, by omega⟩, ?_⟩
      rw [wi64 (by omega) (by omega)]
      exact ⟨⟨j, p9.1, _, _, rfl, by omega, q1, d1, d2, set_len' hl, by rw [← hs]; simp only [nthS, toN, Int.toNat_natCast]⟩, by omega⟩
    · have hd := dec_f hd
      obtain rfl : i = 0 := by omega
      rw [nthQ_yes h hk, ← hs]; rfl
  · intro k' hk'
    refine brV_iff.2 ⟨fun hd => hk' _ ⟨true, rfl, fun _ g => ?_, fun h => by cases h⟩, fun hd => ?_⟩
    · have hd := dec_t hd; omega
    have hd := dec_f hd
    refine (s_ICmp hp1 hx ((Pf.fit_i64 (by omega) (by omega)).mono (by decide)) (prod_fit h (Nat.le_refl _)).1 (by decide)).mono ?_
    rintro _ rfl
    have e : (0 ≤ Pf.sgn (k - prodM m)) ↔ prodM m ≤ k := by unfold Pf.sgn; split <;> (try split) <;> omega
    refine hk' _ ⟨_, rfl, fun hq g => ?_, fun hq => ⟨by omega, ?_⟩⟩
    · have := e.1 (dec_t hq); omega
    · have := mt e.2 (dec_f hq); omega

end Go.Proofs.Pf.B

namespace Go.Proofs.Pf

open Go Go.VM

set_option maxRecDepth 100000

def an_strings_Builder_WriteString_v0 : Ann := (.seq .nil (.seq (.regL [] [] [(1, L_strings_Builder_copyCheck_v0)] none) .nil))

theorem w_strings_Builder_WriteString_v0 {Q : (Int × ((Unit × Unit) × DL)) → Prop} (a : ByteArray) (b : (Unit × Unit)) (c : DL) (hQ : ∃ r, Q r) (h :
  (lendV Pg c_strings_Builder_copyCheck 1 L_strings_Builder_copyCheck_v0 ((b.1, ()), c) (fun p0 => ((appC 1 p0.2 (lst (some (bytesI a)))) ∧ (Q ((szStr a), (((), ()), (appL p0.2 (lst (some (bytesI a))))))))))) :
  lendV Pg c_strings_Builder_WriteString 2 L_strings_Builder_WriteString_v0 (a, b, c) Q :=
  lendV_of (c := bodyOf f_strings_Builder_WriteString) (ann := an_strings_Builder_WriteString_v0) e_strings_Builder_WriteString rfl r_strings_Builder_WriteString rfl hQ rfl (kcast (by kernel_rfl) h)

def an_strings_Builder_WriteString_v1 : Ann := (.seq .nil (.seq (.regL [] [] [(1, L_strings_Builder_copyCheck_v1)] none) .nil))

theorem w_strings_Builder_WriteString_v1 {Q : (Int × ((Unit × Unit) × DL)) → Prop} (a : ByteArray) (b : (Unit × Unit)) (c : DL) (hQ : ∃ r, Q r) (h :
  (lendV Pg c_strings_Builder_copyCheck 1 L_strings_Builder_copyCheck_v1 (((), ()), c) (fun p0 => ((appC 1 p0.2 (lst (some (bytesI a)))) ∧ (Q ((szStr a), (((), ()), (appL p0.2 (lst (some (bytesI a))))))))))) :
  lendV Pg c_strings_Builder_WriteString 2 L_strings_Builder_WriteString_v1 (a, b, c) Q :=
  lendV_of (c := bodyOf f_strings_Builder_WriteString) (ann := an_strings_Builder_WriteString_v1) e_strings_Builder_WriteString rfl r_strings_Builder_WriteString rfl hQ rfl (kcast (by kernel_rfl) h)

def an_strings_Builder_Len : Ann := .nil

theorem w_strings_Builder_Len {Q : (Int × ((Unit × Unit) × DL)) → Prop} (a : (Unit × Unit)) (b : DL) (hQ : ∃ r, Q r) (h :
  (Q ((szSl b), (((), ()), b)))) :
  lendV Pg c_strings_Builder_Len 1 L_strings_Builder_Len (a, b) Q :=
  lendV_of (c := bodyOf f_strings_Builder_Len) (ann := an_strings_Builder_Len) e_strings_Builder_Len rfl r_strings_Builder_Len rfl hQ rfl (kcast (by kernel_rfl) h)

def an_strings_Builder_String : Ann := .nil

theorem w_strings_Builder_String {Q : (ByteArray × (Unit × Unit)) → Prop} (a : (Unit × Unit)) (b : DL) (hQ : ∃ r, Q r) (h :
  (((0 : Int) < (szSl b)) ∧ ((ustrC b 0 (szSl b)) ∧ (Q ((strOf b), ((), ())))))) :
  lendV Pg c_strings_Builder_String 1 L_strings_Builder_String (a, b) Q :=
  lendV_of (c := bodyOf f_strings_Builder_String) (ann := an_strings_Builder_String) e_strings_Builder_String rfl r_strings_Builder_String rfl hQ rfl (kcast (by kernel_rfl) h)

def an_model_Print : Ann := (.seq .nil (.seq .nil (.seq .nil (.seq (.regL [] [] [(6, L_strings_Builder_WriteString_v0)] none) (.seq (.seq .nil (.blk none (.loop ⟨[(4, .ref 4 0)], [.var 26 (.sl tSt), .var 27 tI, .var 28 tI, .box 4 (.agg (.pair (.ref 4 0) (.own 1004))), .arr 1004 (.int .u8)]⟩ (.seq .nil (.seq .nil (.seq (.blk none (.seq .nil (.seq (.regL [] [] [(10, L_strings_Builder_WriteString_v1)] none) (.seq .nil (.blk none (.loop ⟨[(4, .ref 4 0)], [.var 26 (.sl tSt), .var 27 tI, .var 28 tI, .var 44 (.sl tCh), .var 45 tI, .var 46 tI, .box 4 (.agg (.pair (.ref 4 0) (.own 1004))), .arr 1004 (.int .u8)]⟩ (.seq .nil (.seq .nil (.seq (.blk none (.seq .nil (.seq .nil (.seq (.regL [] [] [(3, L_strings_Builder_WriteString_v1)] none) (.seq (.seq .nil (.blk none (.loop ⟨[(4, .ref 4 0)], [.var 26 (.sl tSt), .var 27 tI, .var 28 tI, .var 44 (.sl tCh), .var 45 tI, .var 46 tI, .var 61 (.sl tBr), .var 62 tI, .var 63 tI, .box 4 (.agg (.pair (.ref 4 0) (.own 1004))), .arr 1004 (.int .u8)]⟩ (.seq .nil (.seq .nil (.seq (.blk none (.seq .nil (.seq (.seq .nil (.cond (some ⟨[(4, .ref 4 0), (12, .ref 12 0)], [.var 26 (.sl tSt), .var 27 tI, .var 28 tI, .var 44 (.sl tCh), .var 45 tI, .var 46 tI, .var 61 (.sl tBr), .var 62 tI, .var 63 tI, .box 4 (.agg (.pair (.ref 4 0) (.own 1004))), .box 12 tBr, .arr 1004 (.int .u8)]⟩) (.regL [] [] [(0, L_strings_Builder_WriteString_v1)] none) .nil)) (.seq .nil (.regL [] [] [(7, L_strings_Builder_WriteString_v1)] none))))) .nil)))))) (.regL [] [] [(0, L_strings_Builder_WriteString_v1)] none)))))) .nil))))))))) .nil)))))) (.seq (.seq (.regL [] [] [(0, L_strings_Builder_Len)] none) .nil) (.seq (.regL [] [] [(0, L_strings_Builder_String)] none) .nil)))))))

theorem w_model_Print {Q : (ByteArray × (Int × Unit)) → Prop} (a : DMo) (hQ : ∃ r, Q r) (h :
  (callV Pg c_model_Valid [⟨tMo, a⟩] .bool (fun p0 => (brV (notB p0) (Q ((bytesL []), ((1 : Int), ()))) (callV Pg c_strconv_Itoa [⟨tI, (szSl a)⟩] .str (fun p1 => ((catC (bytesL [109, 111, 100, 101, 108, 32]) p1) ∧ ((catC (catS (bytesL [109, 111, 100, 101, 108, 32]) p1) (bytesL [10])) ∧ (lendV Pg c_strings_Builder_WriteString 2 L_strings_Builder_WriteString_v0 ((catS (catS (bytesL [109, 111, 100, 101, 108, 32]) p1) (bytesL [10])), (((), ()), none)) (fun p2 => (loopV (DMo × (Int × (Int × ((Unit × Unit) × DL)))) (fun k3 => (fun p4 => (brV (decide (p4.2.2.1 < p4.2.1)) ((inS p4.1 p4.2.2.1) ∧ (callV Pg c_strconv_Itoa [⟨tI, (eltS ((0 : Int), ((0 : Int), none)) p4.1 p4.2.2.1).1⟩] .str (fun p5 => ((catC (bytesL [115, 116, 97, 116, 101, 32]) p5) ∧ ((catC (catS (bytesL [115, 116, 97, 116, 101, 32]) p5) (bytesL [32])) ∧ (callV Pg c_strconv_Itoa [⟨tI, (eltS ((0 : Int), ((0 : Int), none)) p4.1 p4.2.2.1).2.1⟩] .str (fun p6 => ((catC (catS (catS (bytesL [115, 116, 97, 116, 101, 32]) p5) (bytesL [32])) p6) ∧ ((catC (catS (catS (catS (bytesL [115, 116, 97, 116, 101, 32]) p5) (bytesL [32])) p6) (bytesL [10])) ∧ (lendV Pg c_strings_Builder_WriteString 2 L_strings_Builder_WriteString_v1 ((catS (catS (catS (catS (bytesL [115, 116, 97, 116, 101, 32]) p5) (bytesL [32])) p6) (bytesL [10])), (((), ()), p4.2.2.2.2)) (fun p7 => (loopV (DMo × (Int × (Int × ((Option (List DCh)) × (Int × (Int × ((Unit × Unit) × DL))))))) (fun k8 => (fun p9 => (brV (decide (p9.2.2.2.2.2.1 < p9.2.2.2.2.1)) ((inS p9.2.2.2.1 p9.2.2.2.2.2.1) ∧ (callV Pg c_num_Print [⟨tNum, (eltS (((0 : Int), (0 : Int)), none) p9.2.2.2.1 p9.2.2.2.2.2.1).1⟩] (.tup (.pair .str (.pair tI .unit))) (fun p10 => ((catC (bytesL [99, 104, 111, 105, 99, 101, 32]) p10.1) ∧ ((catC (catS (bytesL [99, 104, 111, 105, 99, 101, 32]) p10.1) (bytesL [58])) ∧ (lendV Pg c_strings_Builder_WriteString 2 L_strings_Builder_WriteString_v1 ((catS (catS (bytesL [99, 104, 111, 105, 99, 101, 32]) p10.1) (bytesL [58])), (((), ()), p9.2.2.2.2.2.2.2)) (fun p11 => (loopV (DMo × (Int × (Int × ((Option (List DCh)) × (Int × (Int × ((Option (List DBr)) × (Int × (Int × ((Unit × Unit) × DL)))))))))) (fun k12 => (fun p13 => (brV (decide (p13.2.2.2.2.2.2.2.2.1 < p13.2.2.2.2.2.2.2.1)) ((inS p13.2.2.2.2.2.2.1 p13.2.2.2.2.2.2.2.2.1) ∧ (joinV (DMo × (Int × (Int × ((Option (List DCh)) × (Int × (Int × ((Option (List DBr)) × (Int × (Int × ((Unit × Unit) × (DBr × DL))))))))))) (fun p14 => (callV Pg c_num_Print [⟨tNum, p14.2.2.2.2.2.2.2.2.2.2.1.2⟩] (.tup (.pair .str (.pair tI .unit))) (fun p15 => (callV Pg c_strconv_Itoa [⟨tI, p14.2.2.2.2.2.2.2.2.2.2.1.1⟩] .str (fun p16 => ((catC (bytesL [32]) p16) ∧ ((catC (catS (bytesL [32]) p16) (bytesL [32])) ∧ ((catC (catS (catS (bytesL [32]) p16) (bytesL [32])) p15.1) ∧ (lendV Pg c_strings_Builder_WriteString 2 L_strings_Builder_WriteString_v1 ((catS (catS (catS (bytesL [32]) p16) (bytesL [32])) p15.1), (((), ()), p14.2.2.2.2.2.2.2.2.2.2.2)) (fun p17 => (k12 (p14.1, (p14.2.1, (p14.2.2.1, (p14.2.2.2.1, (p14.2.2.2.2.1, (p14.2.2.2.2.2.1, (p14.2.2.2.2.2.2.1, (p14.2.2.2.2.2.2.2.1, ((IntKind.wrap IntKind.i64 (p14.2.2.2.2.2.2.2.2.1 + (1 : Int))), (((), ()), p17.2.2))))))))))))))))))))) (fun k14 => (brV (decide ((0 : Int) < p13.2.2.2.2.2.2.2.2.1)) (lendV Pg c_strings_Builder_WriteString 2 L_strings_Builder_WriteString_v1 ((bytesL [44]), (((), ()), p13.2.2.2.2.2.2.2.2.2.2)) (fun p15 => (k14 (p13.1, (p13.2.1, (p13.2.2.1, (p13.2.2.2.1, (p13.2.2.2.2.1, (p13.2.2.2.2.2.1, (p13.2.2.2.2.2.2.1, (p13.2.2.2.2.2.2.2.1, (p13.2.2.2.2.2.2.2.2.1, (((), ()), (((eltS ((0 : Int), ((0 : Int), (0 : Int))) p13.2.2.2.2.2.2.1 p13.2.2.2.2.2.2.2.2.1).1, (eltS ((0 : Int), ((0 : Int), (0 : Int))) p13.2.2.2.2.2.2.1 p13.2.2.2.2.2.2.2.2.1).2), p15.2.2)))))))))))))) (k14 (p13.1, (p13.2.1, (p13.2.2.1, (p13.2.2.2.1, (p13.2.2.2.2.1, (p13.2.2.2.2.2.1, (p13.2.2.2.2.2.2.1, (p13.2.2.2.2.2.2.2.1, (p13.2.2.2.2.2.2.2.2.1, (((), ()), (((eltS ((0 : Int), ((0 : Int), (0 : Int))) p13.2.2.2.2.2.2.1 p13.2.2.2.2.2.2.2.2.1).1, (eltS ((0 : Int), ((0 : Int), (0 : Int))) p13.2.2.2.2.2.2.1 p13.2.2.2.2.2.2.2.2.1).2), p13.2.2.2.2.2.2.2.2.2.2)))))))))))))))) (lendV Pg c_strings_Builder_WriteString 2 L_strings_Builder_WriteString_v1 ((bytesL [10]), (((), ()), p13.2.2.2.2.2.2.2.2.2.2)) (fun p14 => (k8 (p13.1, (p13.2.1, (p13.2.2.1, (p13.2.2.2.1, (p13.2.2.2.2.1, ((IntKind.wrap IntKind.i64 (p13.2.2.2.2.2.1 + (1 : Int))), (((), ()), p14.2.2))))))))))))) (p9.1, (p9.2.1, (p9.2.2.1, (p9.2.2.2.1, (p9.2.2.2.2.1, (p9.2.2.2.2.2.1, ((eltS (((0 : Int), (0 : Int)), none) p9.2.2.2.1 p9.2.2.2.2.2.1).2, ((szSl (eltS (((0 : Int), (0 : Int)), none) p9.2.2.2.1 p9.2.2.2.2.2.1).2), ((0 : Int), (((), ()), p11.2.2)))))))))))))))))) (k3 (p9.1, (p9.2.1, ((IntKind.wrap IntKind.i64 (p9.2.2.1 + (1 : Int))), (((), ()), p9.2.2.2.2.2.2.2)))))))) (p4.1, (p4.2.1, (p4.2.2.1, ((eltS ((0 : Int), ((0 : Int), none)) p4.1 p4.2.2.1).2.2, ((szSl (eltS ((0 : Int), ((0 : Int), none)) p4.1 p4.2.2.1).2.2), ((0 : Int), (((), ()), p7.2.2))))))))))))))))))) (lendV Pg c_strings_Builder_Len 1 L_strings_Builder_Len (((), ()), p4.2.2.2.2) (fun p5 => (brV (decide ((32768 : Int) < p5.1)) (Q ((bytesL []), ((3 : Int), ()))) (lendV Pg c_strings_Builder_String 1 L_strings_Builder_String (((), ()), p5.2.2) (fun p6 => (Q (p6.1, ((0 : Int), ()))))))))))) (a, ((szSl a), ((0 : Int), (((), ()), p2.2.2))))))))))))))) :
  callV Pg c_model_Print [⟨tMo, a⟩] (.tup (.pair .str (.pair tI .unit))) Q :=
  callV_of (c := bodyOf f_model_Print) (ann := an_model_Print) e_model_Print rfl r_model_Print rfl rfl hQ (kcast (by kernel_rfl) h)

end Go.Proofs.Pf

namespace Go.Proofs.Pf

open Go Go.VM

set_option maxRecDepth 100000

def an_law04_dice : Ann := (.seq .nil (.seq (.regL [] [(16, ([6, 15], false)), (23, ([22], false)), (30, ([29], false)), (32, ([17, 24, 31], false))] [(4, ⟨⟨[(0, .ref 0 0)], [.var 1 tNum, .var 3 tBr, .var 4 tNum, .box 0 tMo]⟩, ⟨[], []⟩, 1000⟩), (8, ⟨⟨[(0, .ref 0 0)], [.var 7 (.agg (.pair tNum (.own 6))), .var 8 tNum, .box 0 tMo, .arr 6 tBr]⟩, ⟨[], []⟩, 1000⟩), (12, ⟨⟨[(0, .ref 0 0)], [.var 7 (.agg (.pair tNum (.own 6))), .var 8 tNum, .var 10 tBr, .var 12 tBr, .box 0 tMo, .arr 6 tBr]⟩, ⟨[], []⟩, 1000⟩), (16, ⟨⟨[(0, .ref 0 0)], [.var 7 (.agg (.pair tNum (.own 6))), .var 16 (.agg (.pair tNum (.own 15))), .box 0 tMo, .arr 6 tBr, .arr 15 tBr]⟩, ⟨[], []⟩, 1000⟩), (20, ⟨⟨[(0, .ref 0 0)], [.var 18 (.agg (.pair tI (.pair tI (.own 17)))), .var 19 tNum, .var 20 tNum, .box 0 tMo, .arr 17 tCh]⟩, ⟨[], []⟩, 1000⟩), (24, ⟨⟨[(0, .ref 0 0), (24, .own 24)], [.var 18 (.agg (.pair tI (.pair tI (.own 17)))), .box 0 tMo, .arr 17 tCh, .arr 24 tCh]⟩, ⟨[], []⟩, 1000⟩), (28, ⟨⟨[(0, .ref 0 0)], [.var 18 (.agg (.pair tI (.pair tI (.own 17)))), .var 25 (.agg (.pair tI (.pair tI (.own 24)))), .var 26 tNum, .var 28 tBr, .box 0 tMo, .arr 17 tCh, .arr 24 tCh]⟩, ⟨[], []⟩, 1000⟩), (32, ⟨⟨[(0, .ref 0 0)], [.var 18 (.agg (.pair tI (.pair tI (.own 17)))), .var 25 (.agg (.pair tI (.pair tI (.own 24)))), .var 32 (.agg (.pair tI (.pair tI (.own 31)))), .box 0 tMo, .arr 17 tCh, .arr 24 tCh, .arr 31 tCh]⟩, ⟨[], []⟩, 1000⟩)] none) .nil))

theorem w_law04_dice {Q : DMo → Prop} (hQ : ∃ r, Q r) (h :
  (callV Pg c_law04_num [⟨tI, (0 : Int)⟩, ⟨tI, (1 : Int)⟩] tNum (fun p0 => (callV Pg c_law04_num [⟨tI, (2 : Int)⟩, ⟨tI, (3 : Int)⟩] tNum (fun p1 => (callV Pg c_law04_num [⟨tI, (1 : Int)⟩, ⟨tI, (3 : Int)⟩] tNum (fun p2 => (joinV ((Int × Int) × (DBr × ((Int × Int) × DMo))) (fun p3 => (callV Pg c_law04_num [⟨tI, (0 : Int)⟩, ⟨tI, (1 : Int)⟩] tNum (fun p4 => (joinV (((Int × Int) × Unit) × ((Int × Int) × (DMo × (Option (List DBr))))) (fun p5 => (callV Pg c_law04_num [⟨tI, (1 : Int)⟩, ⟨tI, (2 : Int)⟩] tNum (fun p6 => (callV Pg c_law04_num [⟨tI, (1 : Int)⟩, ⟨tI, (4 : Int)⟩] tNum (fun p7 => (joinV (((Int × Int) × Unit) × ((Int × Int) × (DBr × (DBr × (DMo × (Option (List DBr))))))) (fun p8 => (callV Pg c_law04_num [⟨tI, (1 : Int)⟩, ⟨tI, (4 : Int)⟩] tNum (fun p9 => (joinV (((Int × Int) × Unit) × (((Int × Int) × Unit) × (DMo × ((Option (List DBr)) × (Option (List DBr)))))) (fun p10 => (callV Pg c_law04_num [⟨tI, (0 : Int)⟩, ⟨tI, (1 : Int)⟩] tNum (fun p11 => (callV Pg c_law04_num [⟨tI, (1 : Int)⟩, ⟨tI, (1 : Int)⟩] tNum (fun p12 => (joinV ((Int × (Int × Unit)) × ((Int × Int) × ((Int × Int) × (DMo × (Option (List DCh)))))) (fun p13 => (joinV ((Int × (Int × Unit)) × (DMo × ((Option (List DCh)) × (Option (List DCh))))) (fun p14 => (callV Pg c_law04_num [⟨tI, (0 : Int)⟩, ⟨tI, (1 : Int)⟩] tNum (fun p15 => (callV Pg c_law04_num [⟨tI, (1 : Int)⟩, ⟨tI, (1 : Int)⟩] tNum (fun p16 => (joinV ((Int × (Int × Unit)) × ((Int × (Int × Unit)) × ((Int × Int) × (DBr × (DMo × ((Option (List DCh)) × (Option (List DCh)))))))) (fun p17 => (joinV ((Int × (Int × Unit)) × ((Int × (Int × Unit)) × ((Int × (Int × Unit)) × (DMo × ((Option (List DCh)) × ((Option (List DCh)) × (Option (List DCh)))))))) (fun p18 => (Q (some [(p18.1.1, (p18.1.2.1, p18.2.2.2.2.1)), (p18.2.1.1, (p18.2.1.2.1, p18.2.2.2.2.2.1)), (p18.2.2.1.1, (p18.2.2.1.2.1, p18.2.2.2.2.2.2))]))) (fun k18 => (k18 ((p17.1.1, (p17.1.2.1, ())), ((p17.2.1.1, (p17.2.1.2.1, ())), (((0 : Int), ((1 : Int), ())), (p17.2.2.2.2.1, (p17.2.2.2.2.2.1, (p17.2.2.2.2.2.2, (some [(p17.2.2.1, (some [(p17.2.2.2.1.1, p17.2.2.2.1.2)]))]))))))))))) (fun k17 => (k17 ((p14.1.1, (p14.1.2.1, ())), (((0 : Int), ((0 : Int), ())), (p15, (((2 : Int), p16), (p14.2.1, p14.2.2))))))))))))) (fun k14 => (k14 ((p13.1.1, (p13.1.2.1, ())), (p13.2.2.2.1, (p13.2.2.2.2, (some [(p13.2.1, (some [((1 : Int), p13.2.2.1)]))])))))))) (fun k13 => (k13 (((0 : Int), ((0 : Int), ())), (p11, (p12, (p10.2.2.1, (some [(p10.1.1, p10.2.2.2.1), (p10.2.1.1, p10.2.2.2.2)]))))))))))))) (fun k10 => (k10 ((p8.1.1, ()), ((p8.2.1, ()), (p8.2.2.2.2.1, (p8.2.2.2.2.2, (some [(p8.2.2.1.1, p8.2.2.1.2), (p8.2.2.2.1.1, p8.2.2.2.1.2), ((2 : Int), p9)]))))))))))) (fun k8 => (k8 ((p5.1.1, ()), (p5.2.1, (((0 : Int), p6), (((1 : Int), p7), p5.2.2)))))))))))) (fun k5 => (k5 ((p3.1, ()), (p4, (p3.2.2.2, (some [(p3.2.1.1, p3.2.1.2), ((2 : Int), p3.2.2.1)])))))))))) (fun k3 => (k3 (p0, (((1 : Int), p1), (p2, none))))))))))))) :
  callV Pg c_law04_dice [] tMo Q :=
  callV_of (c := bodyOf f_law04_dice) (ann := an_law04_dice) e_law04_dice rfl r_law04_dice rfl rfl hQ (kcast (by kernel_rfl) h)

def an_law04_awake : Ann := (.seq .nil (.seq .nil (.seq (.reg [] [] (some ⟨[], [.var 0 (.bool)]⟩)) .nil)))

theorem w_law04_awake {Q : Bool → Prop} (hQ : ∃ r, Q r) (h :
  (callV Pg c_law04_dice [] tMo (fun p0 => (callV Pg c_model_Print [⟨tMo, p0⟩] (.tup (.pair .str (.pair tI .unit))) (fun p1 => (joinV Bool (fun p2 => (Q p2)) (fun k2 => (brV (decide (p1.2.1 = (0 : Int))) (k2 (eqStr p1.1 (bytesL [109, 111, 100, 101, 108, 32, 51, 10, 115, 116, 97, 116, 101, 32, 48, 32, 48, 10, 99, 104, 111, 105, 99, 101, 32, 48, 58, 32, 49, 32, 50, 47, 51, 44, 32, 50, 32, 49, 47, 51, 10, 99, 104, 111, 105, 99, 101, 32, 48, 58, 32, 48, 32, 49, 47, 50, 44, 32, 49, 32, 49, 47, 52, 44, 32, 50, 32, 49, 47, 52, 10, 115, 116, 97, 116, 101, 32, 48, 32, 48, 10, 99, 104, 111, 105, 99, 101, 32, 48, 58, 32, 49, 32, 49, 10, 115, 116, 97, 116, 101, 32, 48, 32, 49, 10, 99, 104, 111, 105, 99, 101, 32, 48, 58, 32, 50, 32, 49, 10]))) (k2 false))))))))) :
  callV Pg c_law04_awake [] .bool Q :=
  callV_of (c := bodyOf f_law04_awake) (ann := an_law04_awake) e_law04_awake rfl r_law04_awake rfl rfl hQ (kcast (by kernel_rfl) h)

def an_law04_num : Ann := .nil

theorem w_law04_num {Q : (Int × Int) → Prop} (a : Int) (b : Int) (hQ : ∃ r, Q r) (h :
  (Q (a, b))) :
  callV Pg c_law04_num [⟨tI, a⟩, ⟨tI, b⟩] tNum Q :=
  callV_of (c := bodyOf f_law04_num) (ann := an_law04_num) e_law04_num rfl r_law04_num rfl rfl hQ (kcast (by kernel_rfl) h)

def an_law04_few : Ann := (.seq .nil (.seq (.seq .nil (.blk none (.loop ⟨[], [.var 5 (.sl tMo), .var 6 tI, .var 7 tI]⟩ .nil))) .nil))

theorem w_law04_few {Q : Bool → Prop} (a : (Option (List DMo))) (hQ : ∃ r, Q r) (h :
  (loopV ((Option (List DMo)) × (Int × Int)) (fun k0 => (fun p1 => (brV (decide (p1.2.2 < p1.2.1)) ((inS p1.1 p1.2.2) ∧ (callV Pg c_ref04_Few [⟨tI, (40 : Int)⟩, ⟨tMo, (eltS none p1.1 p1.2.2)⟩] .bool (fun p2 => (brV (notB p2) (Q false) (k0 (p1.1, (p1.2.1, (IntKind.wrap IntKind.i64 (p1.2.2 + (1 : Int)))))))))) (Q true)))) (a, ((szSl a), (0 : Int))))) :
  callV Pg c_law04_few [⟨(.sl tMo), a⟩] .bool Q :=
  callV_of (c := bodyOf f_law04_few) (ann := an_law04_few) e_law04_few rfl r_law04_few rfl rfl hQ (kcast (by kernel_rfl) h)

def an_ref04_Few : Ann := (.seq .nil (.seq (.seq (.reg [] [] (some ⟨[(3, .ref 3 0)], [.var 25 (.bool), .box 3 tMo]⟩)) .nil) (.seq (.seq .nil (.blk none (.loop ⟨[], [.var 27 (.sl tSt), .var 28 tI, .var 29 tI]⟩ (.seq .nil (.seq .nil (.seq (.blk none (.seq .nil (.seq .nil (.seq .nil (.blk none (.loop ⟨[], [.var 27 (.sl tSt), .var 28 tI, .var 29 tI, .var 38 (.sl tCh), .var 39 tI, .var 40 tI]⟩ .nil)))))) .nil)))))) .nil)))

theorem w_ref04_Few {Q : Bool → Prop} (a : Int) (b : DMo) (hQ : ∃ r, Q r) (h :
  (joinV (Bool × DMo) (fun p0 => (brV p0.1 (Q false) (loopV (DMo × (Int × Int)) (fun k1 => (fun p2 => (brV (decide (p2.2.2 < p2.2.1)) ((inS p2.1 p2.2.2) ∧ (brV (decide ((10 : Int) < (szSl (eltS ((0 : Int), ((0 : Int), none)) p2.1 p2.2.2).2.2))) (Q false) (loopV (DMo × (Int × (Int × ((Option (List DCh)) × (Int × Int))))) (fun k3 => (fun p4 => (brV (decide (p4.2.2.2.2.2 < p4.2.2.2.2.1)) ((inS p4.2.2.2.1 p4.2.2.2.2.2) ∧ (brV (decide ((10 : Int) < (szSl (eltS (((0 : Int), (0 : Int)), none) p4.2.2.2.1 p4.2.2.2.2.2).2))) (Q false) (k3 (p4.1, (p4.2.1, (p4.2.2.1, (p4.2.2.2.1, (p4.2.2.2.2.1, (IntKind.wrap IntKind.i64 (p4.2.2.2.2.2 + (1 : Int))))))))))) (k1 (p4.1, (p4.2.1, (IntKind.wrap IntKind.i64 (p4.2.2.1 + (1 : Int))))))))) (p2.1, (p2.2.1, (p2.2.2, ((eltS ((0 : Int), ((0 : Int), none)) p2.1 p2.2.2).2.2, ((szSl (eltS ((0 : Int), ((0 : Int), none)) p2.1 p2.2.2).2.2), (0 : Int))))))))) (Q true)))) (p0.2, ((szSl p0.2), (0 : Int)))))) (fun k0 => (brV (decide (a < (szSl b))) (brV (decide ((szSl b) ≤ (40 : Int))) (k0 (true, b)) (k0 ((decide ((45 : Int) < (szSl b))), b))) (k0 ((decide ((45 : Int) < (szSl b))), b)))))) :
  callV Pg c_ref04_Few [⟨tI, a⟩, ⟨tMo, b⟩] .bool Q :=
  callV_of (c := bodyOf f_ref04_Few) (ann := an_ref04_Few) e_ref04_Few rfl r_ref04_Few rfl rfl hQ (kcast (by kernel_rfl) h)

end Go.Proofs.Pf

namespace Go.Proofs.Pf

open Go Go.VM

set_option maxRecDepth 100000

def an_model_Chain : Ann := .nil

theorem w_model_Chain {Q : (Bool × (Int × Unit)) → Prop} (a : DMo) (hQ : ∃ r, Q r) (h :
  (callV Pg c_model_Valid [⟨tMo, a⟩] .bool (fun p0 => (brV (notB p0) (Q (false, ((1 : Int), ()))) (callV Pg c_model_IsChain [⟨tMo, a⟩] .bool (fun p1 => (Q (p1, ((0 : Int), ()))))))))) :
  callV Pg c_model_Chain [⟨tMo, a⟩] (.tup (.pair .bool (.pair tI .unit))) Q :=
  callV_of (c := bodyOf f_model_Chain) (ann := an_model_Chain) e_model_Chain rfl r_model_Chain rfl rfl hQ (kcast (by kernel_rfl) h)

def an_model_IsChain : Ann := .nil

theorem w_model_IsChain {Q : Bool → Prop} (a : DMo) (hQ : ∃ r, Q r) (h :
  (callV Pg c_slices_ContainsFuncapi_Stateapi_State [⟨(.sl tSt), a⟩, ⟨(.cst (.fn c_model_IsChain_1)), ()⟩] .bool (fun p0 => (Q (notB p0))))) :
  callV Pg c_model_IsChain [⟨tMo, a⟩] .bool Q :=
  callV_of (c := bodyOf f_model_IsChain) (ann := an_model_IsChain) e_model_IsChain rfl r_model_IsChain rfl rfl hQ (kcast (by kernel_rfl) h)

def an_model_IsChain_1 : Ann := .nil

theorem w_model_IsChain_1 {Q : Bool → Prop} (a : DSt) (hQ : ∃ r, Q r) (h :
  (Q (decide ((1 : Int) < (szSl a.2.2))))) :
  callV Pg c_model_IsChain_1 [⟨tSt, a⟩] .bool Q :=
  callV_of (c := bodyOf f_model_IsChain_1) (ann := an_model_IsChain_1) e_model_IsChain_1 rfl r_model_IsChain_1 rfl rfl hQ (kcast (by kernel_rfl) h)

def an_slices_IndexFuncapi_Stateapi_State : Ann := (.seq .nil (.seq (.seq .nil (.blk none (.loop ⟨[(1, .cst (.fn c_model_IsChain_1))], [.var 0 (.sl tSt), .var 7 tI, .var 8 tI]⟩ .nil))) .nil))

theorem w_slices_IndexFuncapi_Stateapi_State {Q : Int → Prop} (a : DMo) (b : Unit) (hQ : ∃ r, Q r) (h :
  (loopV (DMo × (Int × Int)) (fun k0 => (fun p1 => (brV (decide (p1.2.2 < p1.2.1)) ((inS p1.1 p1.2.2) ∧ (callV Pg c_model_IsChain_1 [⟨tSt, ((eltS ((0 : Int), ((0 : Int), none)) p1.1 p1.2.2).1, (eltS ((0 : Int), ((0 : Int), none)) p1.1 p1.2.2).2)⟩] .bool (fun p2 => (brV p2 (Q p1.2.2) (k0 (p1.1, (p1.2.1, (IntKind.wrap IntKind.i64 (p1.2.2 + (1 : Int)))))))))) (Q (-(1 : Int)))))) (a, ((szSl a), (0 : Int))))) :
  callV Pg c_slices_IndexFuncapi_Stateapi_State [⟨(.sl tSt), a⟩, ⟨(.cst (.fn c_model_IsChain_1)), b⟩] tI Q :=
  callV_of (c := bodyOf f_slices_IndexFuncapi_Stateapi_State) (ann := an_slices_IndexFuncapi_Stateapi_State) e_slices_IndexFuncapi_Stateapi_State rfl r_slices_IndexFuncapi_Stateapi_State rfl rfl hQ (kcast (by kernel_rfl) h)

def an_slices_ContainsFuncapi_Stateapi_State : Ann := .nil

theorem w_slices_ContainsFuncapi_Stateapi_State {Q : Bool → Prop} (a : DMo) (b : Unit) (hQ : ∃ r, Q r) (h :
  (callV Pg c_slices_IndexFuncapi_Stateapi_State [⟨(.sl tSt), a⟩, ⟨(.cst (.fn c_model_IsChain_1)), ()⟩] tI (fun p0 => (Q (decide ((0 : Int) ≤ p0)))))) :
  callV Pg c_slices_ContainsFuncapi_Stateapi_State [⟨(.sl tSt), a⟩, ⟨(.cst (.fn c_model_IsChain_1)), b⟩] .bool Q :=
  callV_of (c := bodyOf f_slices_ContainsFuncapi_Stateapi_State) (ann := an_slices_ContainsFuncapi_Stateapi_State) e_slices_ContainsFuncapi_Stateapi_State rfl r_slices_ContainsFuncapi_Stateapi_State rfl rfl hQ (kcast (by kernel_rfl) h)

def an_model_Strategy : Ann := (.seq .nil (.seq .nil (.seq (.seq .nil (.blk none (.loop ⟨[(2, .ref 2 0)], [.var 13 tL, .var 14 tI, .var 15 tI, .box 2 tMo]⟩ (.seq .nil (.seq .nil (.seq (.blk none (.seq .nil (.seq (.reg [] [] (some ⟨[(2, .ref 2 0)], [.var 13 tL, .var 14 tI, .var 15 tI, .var 32 (.bool), .box 2 tMo]⟩)) .nil))) .nil)))))) .nil)))

theorem w_model_Strategy {Q : Bool → Prop} (a : DMo) (b : DL) (hQ : ∃ r, Q r) (h :
  (brV (notB (decide ((szSl b) = (szSl a)))) (Q false) (loopV (DL × (Int × (Int × DMo))) (fun k0 => (fun p1 => (brV (decide (p1.2.2.1 < p1.2.1)) ((inS p1.1 p1.2.2.1) ∧ (joinV (DL × (Int × (Int × (Bool × DMo)))) (fun p2 => (brV p2.2.2.2.1 (Q false) (k0 (p2.1, (p2.2.1, ((IntKind.wrap IntKind.i64 (p2.2.2.1 + (1 : Int))), p2.2.2.2.2)))))) (fun k2 => (brV (decide ((eltS (0 : Int) p1.1 p1.2.2.1) < (0 : Int))) (k2 (p1.1, (p1.2.1, (p1.2.2.1, (true, p1.2.2.2))))) ((inS p1.2.2.2 p1.2.2.1) ∧ (k2 (p1.1, (p1.2.1, (p1.2.2.1, ((decide ((szSl (eltS ((0 : Int), ((0 : Int), none)) p1.2.2.2 p1.2.2.1).2.2) ≤ (eltS (0 : Int) p1.1 p1.2.2.1))), p1.2.2.2)))))))))) (Q true)))) (b, ((szSl b), ((0 : Int), a)))))) :
  callV Pg c_model_Strategy [⟨tMo, a⟩, ⟨tL, b⟩] .bool Q :=
  callV_of (c := bodyOf f_model_Strategy) (ann := an_model_Strategy) e_model_Strategy rfl r_model_Strategy rfl rfl hQ (kcast (by kernel_rfl) h)

def an_model_ValidStrategy : Ann := .nil

theorem w_model_ValidStrategy {Q : (Bool × (Int × Unit)) → Prop} (a : DMo) (b : DL) (hQ : ∃ r, Q r) (h :
  (callV Pg c_model_Valid [⟨tMo, a⟩] .bool (fun p0 => (brV (notB p0) (Q (false, ((1 : Int), ()))) (callV Pg c_model_Strategy [⟨tMo, a⟩, ⟨tL, b⟩] .bool (fun p1 => (Q (p1, ((0 : Int), ()))))))))) :
  callV Pg c_model_ValidStrategy [⟨tMo, a⟩, ⟨tL, b⟩] (.tup (.pair .bool (.pair tI .unit))) Q :=
  callV_of (c := bodyOf f_model_ValidStrategy) (ann := an_model_ValidStrategy) e_model_ValidStrategy rfl r_model_ValidStrategy rfl rfl hQ (kcast (by kernel_rfl) h)

end Go.Proofs.Pf

namespace Go.Proofs.Pf

open Go Go.VM

set_option maxRecDepth 100000

def an_ref04_Identical : Ann := (.seq .nil (.seq .nil (.seq (.seq .nil (.blk none (.loop ⟨[(3, .ref 3 0)], [.var 21 (.sl tSt), .var 22 tI, .var 23 tI, .box 3 tMo]⟩ (.seq .nil (.seq .nil (.seq (.blk none (.seq .nil (.seq .nil (.seq (.seq (.reg [] [] (some ⟨[(3, .ref 3 0), (6, .ref 6 0), (7, .ref 7 0)], [.var 21 (.sl tSt), .var 22 tI, .var 23 tI, .var 53 (.bool), .box 3 tMo, .box 6 tSt, .box 7 tSt]⟩)) .nil) (.seq .nil (.blk none (.loop ⟨[(3, .ref 3 0), (7, .ref 7 0)], [.var 21 (.sl tSt), .var 22 tI, .var 23 tI, .var 55 (.sl tCh), .var 56 tI, .var 57 tI, .box 3 tMo, .box 7 tSt]⟩ (.seq .nil (.seq .nil (.seq (.blk none (.seq .nil (.seq .nil (.seq (.seq (.reg [] [] (some ⟨[(3, .ref 3 0), (7, .ref 7 0), (9, .ref 9 0), (10, .ref 10 0)], [.var 21 (.sl tSt), .var 22 tI, .var 23 tI, .var 55 (.sl tCh), .var 56 tI, .var 57 tI, .var 80 (.bool), .box 3 tMo, .box 7 tSt, .box 9 tCh, .box 10 tCh]⟩)) .nil) (.seq .nil (.blk none (.loop ⟨[(3, .ref 3 0), (7, .ref 7 0), (10, .ref 10 0)], [.var 21 (.sl tSt), .var 22 tI, .var 23 tI, .var 55 (.sl tCh), .var 56 tI, .var 57 tI, .var 82 (.sl tBr), .var 83 tI, .var 84 tI, .box 3 tMo, .box 7 tSt, .box 10 tCh]⟩ .nil))))))) .nil)))))))))) .nil)))))) .nil)))

theorem w_ref04_Identical {Q : Bool → Prop} (a : DMo) (b : DMo) (hQ : ∃ r, Q r) (h :
  (brV (notB (decide ((szSl a) = (szSl b)))) (Q false) (loopV (DMo × (Int × (Int × DMo))) (fun k0 => (fun p1 => (brV (decide (p1.2.2.1 < p1.2.1)) ((inS p1.1 p1.2.2.1) ∧ ((inS p1.2.2.2 p1.2.2.1) ∧ (joinV (DMo × (Int × (Int × (Bool × (DMo × (DSt × DSt)))))) (fun p2 => (brV p2.2.2.2.1 (Q false) (loopV (DMo × (Int × (Int × ((Option (List DCh)) × (Int × (Int × (DMo × DSt))))))) (fun k3 => (fun p4 => (brV (decide (p4.2.2.2.2.2.1 < p4.2.2.2.2.1)) ((inS p4.2.2.2.1 p4.2.2.2.2.2.1) ∧ ((inS p4.2.2.2.2.2.2.2.2.2 p4.2.2.2.2.2.1) ∧ (joinV (DMo × (Int × (Int × ((Option (List DCh)) × (Int × (Int × (Bool × (DMo × (DSt × (DCh × DCh)))))))))) (fun p5 => (brV p5.2.2.2.2.2.2.1 (Q false) (loopV (DMo × (Int × (Int × ((Option (List DCh)) × (Int × (Int × ((Option (List DBr)) × (Int × (Int × (DMo × (DSt × DCh))))))))))) (fun k6 => (fun p7 => (brV (decide (p7.2.2.2.2.2.2.2.2.1 < p7.2.2.2.2.2.2.2.1)) ((inS p7.2.2.2.2.2.2.1 p7.2.2.2.2.2.2.2.2.1) ∧ ((inS p7.2.2.2.2.2.2.2.2.2.2.2.2 p7.2.2.2.2.2.2.2.2.1) ∧ (brV (notB (andB (decide ((eltS ((0 : Int), ((0 : Int), (0 : Int))) p7.2.2.2.2.2.2.1 p7.2.2.2.2.2.2.2.2.1).1 = (eltS ((0 : Int), ((0 : Int), (0 : Int))) p7.2.2.2.2.2.2.2.2.2.2.2.2 p7.2.2.2.2.2.2.2.2.1).1)) (andB (andB (decide ((eltS ((0 : Int), ((0 : Int), (0 : Int))) p7.2.2.2.2.2.2.1 p7.2.2.2.2.2.2.2.2.1).2.1 = (eltS ((0 : Int), ((0 : Int), (0 : Int))) p7.2.2.2.2.2.2.2.2.2.2.2.2 p7.2.2.2.2.2.2.2.2.1).2.1)) (andB (decide ((eltS ((0 : Int), ((0 : Int), (0 : Int))) p7.2.2.2.2.2.2.1 p7.2.2.2.2.2.2.2.2.1).2.2 = (eltS ((0 : Int), ((0 : Int), (0 : Int))) p7.2.2.2.2.2.2.2.2.2.2.2.2 p7.2.2.2.2.2.2.2.2.1).2.2)) true)) true))) (Q false) (k6 (p7.1, (p7.2.1, (p7.2.2.1, (p7.2.2.2.1, (p7.2.2.2.2.1, (p7.2.2.2.2.2.1, (p7.2.2.2.2.2.2.1, (p7.2.2.2.2.2.2.2.1, ((IntKind.wrap IntKind.i64 (p7.2.2.2.2.2.2.2.2.1 + (1 : Int))), (p7.2.2.2.2.2.2.2.2.2.1, ((p7.2.2.2.2.2.2.2.2.2.2.1.1, p7.2.2.2.2.2.2.2.2.2.2.1.2), (p7.2.2.2.2.2.2.2.2.2.2.2.1, p7.2.2.2.2.2.2.2.2.2.2.2.2)))))))))))))))) (k3 (p7.1, (p7.2.1, (p7.2.2.1, (p7.2.2.2.1, (p7.2.2.2.2.1, ((IntKind.wrap IntKind.i64 (p7.2.2.2.2.2.1 + (1 : Int))), (p7.2.2.2.2.2.2.2.2.2.1, (p7.2.2.2.2.2.2.2.2.2.2.1.1, p7.2.2.2.2.2.2.2.2.2.2.1.2)))))))))))) (p5.1, (p5.2.1, (p5.2.2.1, (p5.2.2.2.1, (p5.2.2.2.2.1, (p5.2.2.2.2.2.1, (p5.2.2.2.2.2.2.2.2.2.1.2, ((szSl p5.2.2.2.2.2.2.2.2.2.1.2), ((0 : Int), (p5.2.2.2.2.2.2.2.1, ((p5.2.2.2.2.2.2.2.2.1.1, p5.2.2.2.2.2.2.2.2.1.2), (p5.2.2.2.2.2.2.2.2.2.2.1, p5.2.2.2.2.2.2.2.2.2.2.2))))))))))))))) (fun k5 => (brV (notB (andB (decide ((eltS (((0 : Int), (0 : Int)), none) p4.2.2.2.1 p4.2.2.2.2.2.1).1.1 = (eltS (((0 : Int), (0 : Int)), none) p4.2.2.2.2.2.2.2.2.2 p4.2.2.2.2.2.1).1.1)) (andB (decide ((eltS (((0 : Int), (0 : Int)), none) p4.2.2.2.1 p4.2.2.2.2.2.1).1.2 = (eltS (((0 : Int), (0 : Int)), none) p4.2.2.2.2.2.2.2.2.2 p4.2.2.2.2.2.1).1.2)) true))) (k5 (p4.1, (p4.2.1, (p4.2.2.1, (p4.2.2.2.1, (p4.2.2.2.2.1, (p4.2.2.2.2.2.1, (true, (p4.2.2.2.2.2.2.1, ((p4.2.2.2.2.2.2.2.1, p4.2.2.2.2.2.2.2.2), (((eltS (((0 : Int), (0 : Int)), none) p4.2.2.2.1 p4.2.2.2.2.2.1).1, (eltS (((0 : Int), (0 : Int)), none) p4.2.2.2.1 p4.2.2.2.2.2.1).2), ((eltS (((0 : Int), (0 : Int)), none) p4.2.2.2.2.2.2.2.2.2 p4.2.2.2.2.2.1).1, (eltS (((0 : Int), (0 : Int)), none) p4.2.2.2.2.2.2.2.2.2 p4.2.2.2.2.2.1).2)))))))))))) (k5 (p4.1, (p4.2.1, (p4.2.2.1, (p4.2.2.2.1, (p4.2.2.2.2.1, (p4.2.2.2.2.2.1, ((notB (decide ((szSl (eltS (((0 : Int), (0 : Int)), none) p4.2.2.2.1 p4.2.2.2.2.2.1).2) = (szSl (eltS (((0 : Int), (0 : Int)), none) p4.2.2.2.2.2.2.2.2.2 p4.2.2.2.2.2.1).2)))), (p4.2.2.2.2.2.2.1, ((p4.2.2.2.2.2.2.2.1, p4.2.2.2.2.2.2.2.2), (((eltS (((0 : Int), (0 : Int)), none) p4.2.2.2.1 p4.2.2.2.2.2.1).1, (eltS (((0 : Int), (0 : Int)), none) p4.2.2.2.1 p4.2.2.2.2.2.1).2), ((eltS (((0 : Int), (0 : Int)), none) p4.2.2.2.2.2.2.2.2.2 p4.2.2.2.2.2.1).1, (eltS (((0 : Int), (0 : Int)), none) p4.2.2.2.2.2.2.2.2.2 p4.2.2.2.2.2.1).2))))))))))))))))) (k0 (p4.1, (p4.2.1, ((IntKind.wrap IntKind.i64 (p4.2.2.1 + (1 : Int))), p4.2.2.2.2.2.2.1))))))) (p2.1, (p2.2.1, (p2.2.2.1, (p2.2.2.2.2.2.1.2.2, ((szSl p2.2.2.2.2.2.1.2.2), ((0 : Int), (p2.2.2.2.2.1, (p2.2.2.2.2.2.2.1, p2.2.2.2.2.2.2.2))))))))))) (fun k2 => (brV (notB (decide ((eltS ((0 : Int), ((0 : Int), none)) p1.1 p1.2.2.1).1 = (eltS ((0 : Int), ((0 : Int), none)) p1.2.2.2 p1.2.2.1).1))) (k2 (p1.1, (p1.2.1, (p1.2.2.1, (true, (p1.2.2.2, (((eltS ((0 : Int), ((0 : Int), none)) p1.1 p1.2.2.1).1, (eltS ((0 : Int), ((0 : Int), none)) p1.1 p1.2.2.1).2), ((eltS ((0 : Int), ((0 : Int), none)) p1.2.2.2 p1.2.2.1).1, (eltS ((0 : Int), ((0 : Int), none)) p1.2.2.2 p1.2.2.1).2)))))))) (brV (notB (decide ((eltS ((0 : Int), ((0 : Int), none)) p1.1 p1.2.2.1).2.1 = (eltS ((0 : Int), ((0 : Int), none)) p1.2.2.2 p1.2.2.1).2.1))) (k2 (p1.1, (p1.2.1, (p1.2.2.1, (true, (p1.2.2.2, (((eltS ((0 : Int), ((0 : Int), none)) p1.1 p1.2.2.1).1, (eltS ((0 : Int), ((0 : Int), none)) p1.1 p1.2.2.1).2), ((eltS ((0 : Int), ((0 : Int), none)) p1.2.2.2 p1.2.2.1).1, (eltS ((0 : Int), ((0 : Int), none)) p1.2.2.2 p1.2.2.1).2)))))))) (k2 (p1.1, (p1.2.1, (p1.2.2.1, ((notB (decide ((szSl (eltS ((0 : Int), ((0 : Int), none)) p1.1 p1.2.2.1).2.2) = (szSl (eltS ((0 : Int), ((0 : Int), none)) p1.2.2.2 p1.2.2.1).2.2)))), (p1.2.2.2, (((eltS ((0 : Int), ((0 : Int), none)) p1.1 p1.2.2.1).1, (eltS ((0 : Int), ((0 : Int), none)) p1.1 p1.2.2.1).2), ((eltS ((0 : Int), ((0 : Int), none)) p1.2.2.2 p1.2.2.1).1, (eltS ((0 : Int), ((0 : Int), none)) p1.2.2.2 p1.2.2.1).2)))))))))))))) (Q true)))) (a, ((szSl a), ((0 : Int), b)))))) :
  callV Pg c_ref04_Identical [⟨tMo, a⟩, ⟨tMo, b⟩] .bool Q :=
  callV_of (c := bodyOf f_ref04_Identical) (ann := an_ref04_Identical) e_ref04_Identical rfl r_ref04_Identical rfl rfl hQ (kcast (by kernel_rfl) h)

end Go.Proofs.Pf

namespace Go.Proofs.Pf

open Go Go.VM

set_option maxRecDepth 100000

def an_model_Own : Ann := .nil

theorem w_model_Own {Q : DCh → Prop} (a : DCh) (hQ : ∃ r, Q r) (h :
  (callV Pg c_slices_Cloneapi_Branchapi_Branch [⟨(.sl tBr), a.2⟩] (.sl tBr) (fun p0 => (Q (a.1, p0))))) :
  callV Pg c_model_Own [⟨tCh, a⟩] tCh Q :=
  callV_of (c := bodyOf f_model_Own) (ann := an_model_Own) e_model_Own rfl r_model_Own rfl rfl hQ (kcast (by kernel_rfl) h)

def an_slices_Cloneapi_Branchapi_Branch : Ann := .nil

theorem w_slices_Cloneapi_Branchapi_Branch {Q : (Option (List DBr)) → Prop} (a : (Option (List DBr))) (hQ : ∃ r, Q r) (h :
  (brV (Option.isNone a) (Q none) ((appC 24 (some []) (lst a)) ∧ (Q (appL (some []) (lst a)))))) :
  callV Pg c_slices_Cloneapi_Branchapi_Branch [⟨(.sl tBr), a⟩] (.sl tBr) Q :=
  callV_of (c := bodyOf f_slices_Cloneapi_Branchapi_Branch) (ann := an_slices_Cloneapi_Branchapi_Branch) e_slices_Cloneapi_Branchapi_Branch rfl r_slices_Cloneapi_Branchapi_Branch rfl rfl hQ (kcast (by kernel_rfl) h)

def an_model_Fixed_1 : Ann := .nil

theorem w_model_Fixed_1 {Q : Bool → Prop} (a : Int) (b : Int) (c : DL) (hQ : ∃ r, Q r) (h :
  ((inS c a) ∧ (Q (decide ((eltS (0 : Int) c a) = b))))) :
  callV Pg c_model_Fixed_1 [⟨tI, a⟩, ⟨tI, b⟩, ⟨(.fref tL), c⟩] .bool Q :=
  callV_of (c := bodyOf f_model_Fixed_1) (ann := an_model_Fixed_1) e_model_Fixed_1 rfl r_model_Fixed_1 rfl rfl hQ (kcast (by kernel_rfl) h)

def an_model_FixedFor_1 : Ann := (.seq .nil (.seq (.reg [] [] (some ⟨[], [.var 7 (.bool)]⟩)) .nil))

theorem w_model_FixedFor_1 {Q : Bool → Prop} (a : Int) (b : Int) (c : DMo) (d : Int) (e : DL) (hQ : ∃ r, Q r) (h :
  (joinV Bool (fun p0 => (Q p0)) (fun k0 => ((inS c a) ∧ (brV (notB (decide ((eltS ((0 : Int), ((0 : Int), none)) c a).1 = d))) (k0 true) ((inS e a) ∧ (k0 (decide ((eltS (0 : Int) e a) = b))))))))) :
  callV Pg c_model_FixedFor_1 [⟨tI, a⟩, ⟨tI, b⟩, ⟨(.fref tMo), c⟩, ⟨(.fref tI), d⟩, ⟨(.fref tL), e⟩] .bool Q :=
  callV_of (c := bodyOf f_model_FixedFor_1) (ann := an_model_FixedFor_1) e_model_FixedFor_1 rfl r_model_FixedFor_1 rfl rfl hQ (kcast (by kernel_rfl) h)

def an_model_Kept_Fixed : Ann := (.seq .nil (.seq .nil (.seq (.seq .nil (.blk none (.loop ⟨[(4, .ref 4 0), (5, .ref 5 0)], [.var 1 (.clo c_model_Fixed_1 (.pair (.fref tL) (.unit))), .var 12 (.sl tSt), .var 13 tI, .var 14 tI, .box 4 tMo, .box 5 (.agg (.own 1005)), .arr 1005 tSt]⟩ (.seq .nil (.seq .nil (.seq (.blk none (.seq .nil (.seq .nil (.seq (.seq .nil (.blk none (.loop ⟨[(4, .ref 4 0), (5, .ref 5 0), (8, .ref 8 0)], [.var 1 (.clo c_model_Fixed_1 (.pair (.fref tL) (.unit))), .var 6 tI, .var 12 (.sl tSt), .var 13 tI, .var 14 tI, .var 25 (.sl tCh), .var 26 tI, .var 27 tI, .box 4 tMo, .box 5 (.agg (.own 1005)), .box 8 (.agg (.pair tI (.pair tI (.own 1008)))), .arr 1005 tSt, .arr 1008 tCh]⟩ (.seq .nil (.seq .nil (.seq (.blk none (.seq .nil (.seq .nil (.cond (some ⟨[(4, .ref 4 0), (5, .ref 5 0), (8, .ref 8 0)], [.var 1 (.clo c_model_Fixed_1 (.pair (.fref tL) (.unit))), .var 6 tI, .var 12 (.sl tSt), .var 13 tI, .var 14 tI, .var 25 (.sl tCh), .var 26 tI, .var 27 tI, .box 4 tMo, .box 5 (.agg (.own 1005)), .box 8 (.agg (.pair tI (.pair tI (.own 1008)))), .arr 1005 tSt, .arr 1008 tCh]⟩) .nil .nil)))) .nil)))))) (.reg [] [(3, ([1008], false))] none))))) .nil)))))) .nil)))

theorem w_model_Kept_Fixed {Q : DMo → Prop} (a : DMo) (b : (DL × Unit)) (hQ : ∃ r, Q r) (h :
  (loopV ((DL × Unit) × (DMo × (Int × (Int × (DMo × (Unit × DMo)))))) (fun k0 => (fun p1 => (brV (decide (p1.2.2.2.1 < p1.2.2.1)) ((inS p1.2.1 p1.2.2.2.1) ∧ (loopV ((DL × Unit) × (Int × (DMo × (Int × (Int × ((Option (List DCh)) × (Int × (Int × (DMo × (Unit × ((Int × (Int × Unit)) × (DMo × (Option (List DCh)))))))))))))) (fun k2 => (fun p3 => (brV (decide (p3.2.2.2.2.2.2.2.1 < p3.2.2.2.2.2.2.1)) ((inS p3.2.2.2.2.2.1 p3.2.2.2.2.2.2.2.1) ∧ (callV Pg c_model_Fixed_1 [⟨tI, p3.2.1⟩, ⟨tI, p3.2.2.2.2.2.2.2.1⟩, ⟨(.fref tL), p3.1.1⟩] .bool (fun p4 => (joinV ((DL × Unit) × (Int × (DMo × (Int × (Int × ((Option (List DCh)) × (Int × (Int × (DMo × (Unit × ((Int × (Int × Unit)) × (DMo × (Option (List DCh)))))))))))))) (fun p5 => (k2 (p5.1, (p5.2.1, (p5.2.2.1, (p5.2.2.2.1, (p5.2.2.2.2.1, (p5.2.2.2.2.2.1, (p5.2.2.2.2.2.2.1, ((IntKind.wrap IntKind.i64 (p5.2.2.2.2.2.2.2.1 + (1 : Int))), (p5.2.2.2.2.2.2.2.2.1, ((), ((p5.2.2.2.2.2.2.2.2.2.2.1.1, (p5.2.2.2.2.2.2.2.2.2.2.1.2.1, ())), p5.2.2.2.2.2.2.2.2.2.2.2))))))))))))) (fun k5 => (brV p4 (callV Pg c_model_Own [⟨tCh, ((eltS (((0 : Int), (0 : Int)), none) p3.2.2.2.2.2.1 p3.2.2.2.2.2.2.2.1).1, (eltS (((0 : Int), (0 : Int)), none) p3.2.2.2.2.2.1 p3.2.2.2.2.2.2.2.1).2)⟩] tCh (fun p6 => ((appC 40 p3.2.2.2.2.2.2.2.2.2.2.2.2 (lst (some [(p6.1, p6.2)]))) ∧ (k5 (p3.1, (p3.2.1, (p3.2.2.1, (p3.2.2.2.1, (p3.2.2.2.2.1, (p3.2.2.2.2.2.1, (p3.2.2.2.2.2.2.1, (p3.2.2.2.2.2.2.2.1, (p3.2.2.2.2.2.2.2.2.1, ((), ((p3.2.2.2.2.2.2.2.2.2.2.1.1, (p3.2.2.2.2.2.2.2.2.2.2.1.2.1, ())), (p3.2.2.2.2.2.2.2.2.2.2.2.1, (appL p3.2.2.2.2.2.2.2.2.2.2.2.2 (lst (some [(p6.1, p6.2)]))))))))))))))))))) (k5 (p3.1, (p3.2.1, (p3.2.2.1, (p3.2.2.2.1, (p3.2.2.2.2.1, (p3.2.2.2.2.2.1, (p3.2.2.2.2.2.2.1, (p3.2.2.2.2.2.2.2.1, (p3.2.2.2.2.2.2.2.2.1, ((), ((p3.2.2.2.2.2.2.2.2.2.2.1.1, (p3.2.2.2.2.2.2.2.2.2.2.1.2.1, ())), p3.2.2.2.2.2.2.2.2.2.2.2)))))))))))))))))) ((appC 40 p3.2.2.2.2.2.2.2.2.2.2.2.1 (lst (some [(p3.2.2.2.2.2.2.2.2.2.2.1.1, (p3.2.2.2.2.2.2.2.2.2.2.1.2.1, p3.2.2.2.2.2.2.2.2.2.2.2.2))]))) ∧ (k0 (p3.1, (p3.2.2.1, (p3.2.2.2.1, ((IntKind.wrap IntKind.i64 (p3.2.2.2.2.1 + (1 : Int))), (p3.2.2.2.2.2.2.2.2.1, ((), (appL p3.2.2.2.2.2.2.2.2.2.2.2.1 (lst (some [(p3.2.2.2.2.2.2.2.2.2.2.1.1, (p3.2.2.2.2.2.2.2.2.2.2.1.2.1, p3.2.2.2.2.2.2.2.2.2.2.2.2))])))))))))))))) (p1.1, (p1.2.2.2.1, (p1.2.1, (p1.2.2.1, (p1.2.2.2.1, ((eltS ((0 : Int), ((0 : Int), none)) p1.2.1 p1.2.2.2.1).2.2, ((szSl (eltS ((0 : Int), ((0 : Int), none)) p1.2.1 p1.2.2.2.1).2.2), ((0 : Int), (p1.2.2.2.2.1, ((), (((eltS ((0 : Int), ((0 : Int), none)) p1.2.1 p1.2.2.2.1).1, ((eltS ((0 : Int), ((0 : Int), none)) p1.2.1 p1.2.2.2.1).2.1, ())), (p1.2.2.2.2.2.2, none)))))))))))))) (Q p1.2.2.2.2.2.2)))) (b, (a, ((szSl a), ((0 : Int), (none, ((), none)))))))) :
  callV Pg c_model_Kept [⟨tMo, a⟩, ⟨(.clo c_model_Fixed_1 (.pair (.fref tL) .unit)), b⟩] tMo Q :=
  callV_of (c := bodyOf f_model_Kept) (ann := an_model_Kept_Fixed) e_model_Kept rfl r_model_Kept rfl rfl hQ (kcast (by kernel_rfl) h)

def an_model_Kept_FixedFor : Ann := (.seq .nil (.seq .nil (.seq (.seq .nil (.blk none (.loop ⟨[(4, .ref 4 0), (5, .ref 5 0)], [.var 1 (.clo c_model_FixedFor_1 (.pair (.fref tMo) (.pair (.fref tI) (.pair (.fref tL) (.unit))))), .var 12 (.sl tSt), .var 13 tI, .var 14 tI, .box 4 tMo, .box 5 (.agg (.own 1005)), .arr 1005 tSt]⟩ (.seq .nil (.seq .nil (.seq (.blk none (.seq .nil (.seq .nil (.seq (.seq .nil (.blk none (.loop ⟨[(4, .ref 4 0), (5, .ref 5 0), (8, .ref 8 0)], [.var 1 (.clo c_model_FixedFor_1 (.pair (.fref tMo) (.pair (.fref tI) (.pair (.fref tL) (.unit))))), .var 6 tI, .var 12 (.sl tSt), .var 13 tI, .var 14 tI, .var 25 (.sl tCh), .var 26 tI, .var 27 tI, .box 4 tMo, .box 5 (.agg (.own 1005)), .box 8 (.agg (.pair tI (.pair tI (.own 1008)))), .arr 1005 tSt, .arr 1008 tCh]⟩ (.seq .nil (.seq .nil (.seq (.blk none (.seq .nil (.seq .nil (.cond (some ⟨[(4, .ref 4 0), (5, .ref 5 0), (8, .ref 8 0)], [.var 1 (.clo c_model_FixedFor_1 (.pair (.fref tMo) (.pair (.fref tI) (.pair (.fref tL) (.unit))))), .var 6 tI, .var 12 (.sl tSt), .var 13 tI, .var 14 tI, .var 25 (.sl tCh), .var 26 tI, .var 27 tI, .box 4 tMo, .box 5 (.agg (.own 1005)), .box 8 (.agg (.pair tI (.pair tI (.own 1008)))), .arr 1005 tSt, .arr 1008 tCh]⟩) .nil .nil)))) .nil)))))) (.reg [] [(3, ([1008], false))] none))))) .nil)))))) .nil)))

theorem w_model_Kept_FixedFor {Q : DMo → Prop} (a : DMo) (b : (DMo × (Int × (DL × Unit)))) (hQ : ∃ r, Q r) (h :
  (loopV ((DMo × (Int × (DL × Unit))) × (DMo × (Int × (Int × (DMo × (Unit × DMo)))))) (fun k0 => (fun p1 => (brV (decide (p1.2.2.2.1 < p1.2.2.1)) ((inS p1.2.1 p1.2.2.2.1) ∧ (loopV ((DMo × (Int × (DL × Unit))) × (Int × (DMo × (Int × (Int × ((Option (List DCh)) × (Int × (Int × (DMo × (Unit × ((Int × (Int × Unit)) × (DMo × (Option (List DCh)))))))))))))) (fun k2 => (fun p3 => (brV (decide (p3.2.2.2.2.2.2.2.1 < p3.2.2.2.2.2.2.1)) ((inS p3.2.2.2.2.2.1 p3.2.2.2.2.2.2.2.1) ∧ (callV Pg c_model_FixedFor_1 [⟨tI, p3.2.1⟩, ⟨tI, p3.2.2.2.2.2.2.2.1⟩, ⟨(.fref tMo), p3.1.1⟩, ⟨(.fref tI), p3.1.2.1⟩, ⟨(.fref tL), p3.1.2.2.1⟩] .bool (fun p4 => (joinV ((DMo × (Int × (DL × Unit))) × (Int × (DMo × (Int × (Int × ((Option (List DCh)) × (Int × (Int × (DMo × (Unit × ((Int × (Int × Unit)) × (DMo × (Option (List DCh)))))))))))))) (fun p5 => (k2 (p5.1, (p5.2.1, (p5.2.2.1, (p5.2.2.2.1, (p5.2.2.2.2.1, (p5.2.2.2.2.2.1, (p5.2.2.2.2.2.2.1, ((IntKind.wrap IntKind.i64 (p5.2.2.2.2.2.2.2.1 + (1 : Int))), (p5.2.2.2.2.2.2.2.2.1, ((), ((p5.2.2.2.2.2.2.2.2.2.2.1.1, (p5.2.2.2.2.2.2.2.2.2.2.1.2.1, ())), p5.2.2.2.2.2.2.2.2.2.2.2))))))))))))) (fun k5 => (brV p4 (callV Pg c_model_Own [⟨tCh, ((eltS (((0 : Int), (0 : Int)), none) p3.2.2.2.2.2.1 p3.2.2.2.2.2.2.2.1).1, (eltS (((0 : Int), (0 : Int)), none) p3.2.2.2.2.2.1 p3.2.2.2.2.2.2.2.1).2)⟩] tCh (fun p6 => ((appC 40 p3.2.2.2.2.2.2.2.2.2.2.2.2 (lst (some [(p6.1, p6.2)]))) ∧ (k5 (p3.1, (p3.2.1, (p3.2.2.1, (p3.2.2.2.1, (p3.2.2.2.2.1, (p3.2.2.2.2.2.1, (p3.2.2.2.2.2.2.1, (p3.2.2.2.2.2.2.2.1, (p3.2.2.2.2.2.2.2.2.1, ((), ((p3.2.2.2.2.2.2.2.2.2.2.1.1, (p3.2.2.2.2.2.2.2.2.2.2.1.2.1, ())), (p3.2.2.2.2.2.2.2.2.2.2.2.1, (appL p3.2.2.2.2.2.2.2.2.2.2.2.2 (lst (some [(p6.1, p6.2)]))))))))))))))))))) (k5 (p3.1, (p3.2.1, (p3.2.2.1, (p3.2.2.2.1, (p3.2.2.2.2.1, (p3.2.2.2.2.2.1, (p3.2.2.2.2.2.2.1, (p3.2.2.2.2.2.2.2.1, (p3.2.2.2.2.2.2.2.2.1, ((), ((p3.2.2.2.2.2.2.2.2.2.2.1.1, (p3.2.2.2.2.2.2.2.2.2.2.1.2.1, ())), p3.2.2.2.2.2.2.2.2.2.2.2)))))))))))))))))) ((appC 40 p3.2.2.2.2.2.2.2.2.2.2.2.1 (lst (some [(p3.2.2.2.2.2.2.2.2.2.2.1.1, (p3.2.2.2.2.2.2.2.2.2.2.1.2.1, p3.2.2.2.2.2.2.2.2.2.2.2.2))]))) ∧ (k0 (p3.1, (p3.2.2.1, (p3.2.2.2.1, ((IntKind.wrap IntKind.i64 (p3.2.2.2.2.1 + (1 : Int))), (p3.2.2.2.2.2.2.2.2.1, ((), (appL p3.2.2.2.2.2.2.2.2.2.2.2.1 (lst (some [(p3.2.2.2.2.2.2.2.2.2.2.1.1, (p3.2.2.2.2.2.2.2.2.2.2.1.2.1, p3.2.2.2.2.2.2.2.2.2.2.2.2))])))))))))))))) (p1.1, (p1.2.2.2.1, (p1.2.1, (p1.2.2.1, (p1.2.2.2.1, ((eltS ((0 : Int), ((0 : Int), none)) p1.2.1 p1.2.2.2.1).2.2, ((szSl (eltS ((0 : Int), ((0 : Int), none)) p1.2.1 p1.2.2.2.1).2.2), ((0 : Int), (p1.2.2.2.2.1, ((), (((eltS ((0 : Int), ((0 : Int), none)) p1.2.1 p1.2.2.2.1).1, ((eltS ((0 : Int), ((0 : Int), none)) p1.2.1 p1.2.2.2.1).2.1, ())), (p1.2.2.2.2.2.2, none)))))))))))))) (Q p1.2.2.2.2.2.2)))) (b, (a, ((szSl a), ((0 : Int), (none, ((), none)))))))) :
  callV Pg c_model_Kept [⟨tMo, a⟩, ⟨(.clo c_model_FixedFor_1 (.pair (.fref tMo) (.pair (.fref tI) (.pair (.fref tL) .unit)))), b⟩] tMo Q :=
  callV_of (c := bodyOf f_model_Kept) (ann := an_model_Kept_FixedFor) e_model_Kept rfl r_model_Kept rfl rfl hQ (kcast (by kernel_rfl) h)

def an_model_Fixed : Ann := (.seq .nil (.seq (.reg [] [(2, ([3], false))] none) .nil))

theorem w_model_Fixed {Q : DMo → Prop} (a : DMo) (b : DL) (hQ : ∃ r, Q r) (h :
  (callV Pg c_model_Kept [⟨tMo, a⟩, ⟨(.clo c_model_Fixed_1 (.pair (.fref tL) .unit)), (b, ())⟩] tMo (fun p0 => (Q p0)))) :
  callV Pg c_model_Fixed [⟨tMo, a⟩, ⟨tL, b⟩] tMo Q :=
  callV_of (c := bodyOf f_model_Fixed) (ann := an_model_Fixed) e_model_Fixed rfl r_model_Fixed rfl rfl hQ (kcast (by kernel_rfl) h)

def an_model_FixedFor : Ann := (.seq .nil (.seq (.reg [] [(2, ([3, 5, 4], false))] none) .nil))

theorem w_model_FixedFor {Q : DMo → Prop} (a : DMo) (b : DL) (c : Int) (hQ : ∃ r, Q r) (h :
  (callV Pg c_model_Kept [⟨tMo, a⟩, ⟨(.clo c_model_FixedFor_1 (.pair (.fref tMo) (.pair (.fref tI) (.pair (.fref tL) .unit)))), (a, (c, (b, ())))⟩] tMo (fun p0 => (Q p0)))) :
  callV Pg c_model_FixedFor [⟨tMo, a⟩, ⟨tL, b⟩, ⟨tI, c⟩] tMo Q :=
  callV_of (c := bodyOf f_model_FixedFor) (ann := an_model_FixedFor) e_model_FixedFor rfl r_model_FixedFor rfl rfl hQ (kcast (by kernel_rfl) h)

def an_model_Fix : Ann := (.seq .nil (.seq (.seq (.reg [] [] (some ⟨[(2, .ref 2 0), (4, .ref 4 0)], [.var 1 tL, .var 14 (.bool), .box 2 tMo, .box 4 tMo]⟩)) .nil) .nil))

theorem w_model_Fix {Q : (DMo × (Int × Unit)) → Prop} (a : DMo) (b : DL) (hQ : ∃ r, Q r) (h :
  (joinV (DL × (Bool × (DMo × DMo))) (fun p0 => (brV p0.2.1 (Q (none, ((1 : Int), ()))) (callV Pg c_model_Fixed [⟨tMo, p0.2.2.1⟩, ⟨tL, p0.1⟩] tMo (fun p1 => (Q (p1, ((0 : Int), ()))))))) (fun k0 => (callV Pg c_model_Valid [⟨tMo, a⟩] .bool (fun p1 => (brV (notB p1) (k0 (b, (true, (a, none)))) (callV Pg c_model_Strategy [⟨tMo, a⟩, ⟨tL, b⟩] .bool (fun p2 => (k0 (b, ((notB p2), (a, none)))))))))))) :
  callV Pg c_model_Fix [⟨tMo, a⟩, ⟨tL, b⟩] (.tup (.pair tMo (.pair tI .unit))) Q :=
  callV_of (c := bodyOf f_model_Fix) (ann := an_model_Fix) e_model_Fix rfl r_model_Fix rfl rfl hQ (kcast (by kernel_rfl) h)

def an_model_FixFor : Ann := (.seq .nil (.seq (.blk none (.seq (.reg [] [] (some ⟨[(3, .ref 3 0), (6, .ref 6 0)], [.var 1 tL, .var 2 tI, .var 8 (.bool), .box 3 tMo, .box 6 tMo]⟩)) (.cond none .nil (.seq (.reg [] [] (some ⟨[(3, .ref 3 0), (6, .ref 6 0)], [.var 1 tL, .var 2 tI, .var 19 (.bool), .box 3 tMo, .box 6 tMo]⟩)) .nil)))) .nil))

theorem w_model_FixFor {Q : (DMo × (Int × Unit)) → Prop} (a : DMo) (b : DL) (c : Int) (hQ : ∃ r, Q r) (h :
  (joinV (DL × (Int × (Bool × (DMo × DMo)))) (fun p0 => (brV p0.2.2.1 (Q (none, ((1 : Int), ()))) (joinV (DL × (Int × (Bool × (DMo × DMo)))) (fun p1 => (brV p1.2.2.1 (Q (none, ((6 : Int), ()))) (callV Pg c_model_FixedFor [⟨tMo, p1.2.2.2.1⟩, ⟨tL, p1.1⟩, ⟨tI, p1.2.1⟩] tMo (fun p2 => (Q (p2, ((0 : Int), ()))))))) (fun k1 => (brV (decide (p0.2.1 < (0 : Int))) (k1 (p0.1, (p0.2.1, (true, p0.2.2.2)))) (k1 (p0.1, (p0.2.1, ((decide ((1 : Int) < p0.2.1)), p0.2.2.2))))))))) (fun k0 => (callV Pg c_model_Valid [⟨tMo, a⟩] .bool (fun p1 => (brV (notB p1) (k0 (b, (c, (true, (a, none))))) (callV Pg c_model_Strategy [⟨tMo, a⟩, ⟨tL, b⟩] .bool (fun p2 => (k0 (b, (c, ((notB p2), (a, none))))))))))))) :
  callV Pg c_model_FixFor [⟨tMo, a⟩, ⟨tL, b⟩, ⟨tI, c⟩] (.tup (.pair tMo (.pair tI .unit))) Q :=
  callV_of (c := bodyOf f_model_FixFor) (ann := an_model_FixFor) e_model_FixFor rfl r_model_FixFor rfl rfl hQ (kcast (by kernel_rfl) h)

end Go.Proofs.Pf

namespace Go.Proofs.Pf

open Go Go.VM

set_option maxRecDepth 100000

def an_law04_ModelMeans : Ann := (.seq .nil (.seq (.seq (.reg [] [] (some ⟨[(5, .ref 5 0)], [.var 1 tL, .var 2 tI, .var 3 tI, .var 4 tI, .var 37 (.bool), .box 5 tMo]⟩)) .nil) (.seq .nil (.seq (.seq .nil (.cond (some ⟨[(5, .ref 5 0)], [.var 3 tI, .var 4 tI, .box 5 tMo]⟩) (.seq .nil (.seq .nil (.seq (.seq (.reg [] [] (some ⟨[(5, .ref 5 0), (11, .ref 11 0)], [.var 1 tL, .var 2 tI, .var 3 tI, .var 4 tI, .var 79 (.bool), .box 5 tMo, .box 11 tMo]⟩)) .nil) (.seq .nil (.seq .nil (.cond (some ⟨[(5, .ref 5 0)], [.var 3 tI, .var 4 tI, .box 5 tMo]⟩) (.seq .nil (.seq (.seq .nil (.blk none (.loop ⟨[(5, .ref 5 0), (11, .ref 11 0), (17, .ref 17 0), (19, .own 91)], [.var 2 tI, .var 3 tI, .var 4 tI, .var 93 tI, .var 94 tI, .box 5 tMo, .box 11 tMo, .box 17 tMo, .arr 91 tI]⟩ (.seq .nil (.seq .nil (.seq (.blk none (.seq .nil (.seq .nil (.seq .nil (.cond (some ⟨[(5, .ref 5 0), (11, .ref 11 0), (17, .ref 17 0), (19, .own 91)], [.var 2 tI, .var 3 tI, .var 4 tI, .var 93 tI, .var 94 tI, .box 5 tMo, .box 11 tMo, .box 17 tMo, .arr 91 tI]⟩) .nil .nil))))) .nil)))))) (.seq (.reg [] [(4, ([91], false))] none) (.seq (.reg [] [] (some ⟨[(5, .ref 5 0)], [.var 3 tI, .var 4 tI, .var 131 (.bool), .box 5 tMo]⟩)) .nil)))) .nil)))))) .nil)) (.seq .nil (.seq .nil (.seq (.seq (.reg [] [] (some ⟨[(5, .ref 5 0)], [.var 3 tI, .var 4 tI, .var 23 tL, .var 25 tL, .var 149 (.bool), .box 5 tMo]⟩)) .nil) (.seq .nil (.seq (.reg [] [] (some ⟨[], [.var 10 (.bool)]⟩)) .nil)))))))))

theorem w_law04_ModelMeans {Q : Bool → Prop} (a : DMo) (b : DL) (c : Int) (d : Int) (e : Int) (hQ : ∃ r, Q r) (h :
  (joinV (DL × (Int × (Int × (Int × (Bool × DMo))))) (fun p0 => (brV p0.2.2.2.2.1 (callV Pg c_law04_awake [] .bool (fun p1 => (Q p1))) (callV Pg c_model_Fix [⟨tMo, p0.2.2.2.2.2⟩, ⟨tL, p0.1⟩] (.tup (.pair tMo (.pair tI .unit))) (fun p1 => (joinV (Int × (Int × DMo)) (fun p2 => (callV Pg c_model_Nth [⟨tMo, p2.2.2⟩, ⟨tI, p2.1⟩] (.tup (.pair tL (.pair tI .unit))) (fun p3 => (callV Pg c_model_Nth [⟨tMo, p2.2.2⟩, ⟨tI, p2.2.1⟩] (.tup (.pair tL (.pair tI .unit))) (fun p4 => (joinV (Int × (Int × (DL × (DL × (Bool × DMo))))) (fun p5 => (brV p5.2.2.2.2.1 (callV Pg c_law04_awake [] .bool (fun p6 => (Q p6))) (callV Pg c_model_ValidStrategy [⟨tMo, p5.2.2.2.2.2⟩, ⟨tL, p5.2.2.1⟩] (.tup (.pair .bool (.pair tI .unit))) (fun p6 => (joinV Bool (fun p7 => (Q p7)) (fun k7 => (brV (decide (p6.2.1 = (0 : Int))) (brV p6.1 (callV Pg c_ref01_List [⟨tL, p5.2.2.1⟩, ⟨tL, p5.2.2.2.1⟩] .bool (fun p8 => (brV (eqB (decide (p5.1 = p5.2.1)) p8) (callV Pg c_law04_awake [] .bool (fun p9 => (k7 p9))) (k7 false)))) (k7 false)) (k7 false)))))))) (fun k5 => (brV (notB (decide (p3.2.1 = (0 : Int)))) (k5 (p2.1, (p2.2.1, (p3.1, (p4.1, (true, p2.2.2)))))) (k5 (p2.1, (p2.2.1, (p3.1, (p4.1, ((notB (decide (p4.2.1 = (0 : Int)))), p2.2.2)))))))))))))) (fun k2 => (brV (decide (p1.2.1 = (0 : Int))) (callV Pg c_model_Chain [⟨tMo, p1.1⟩] (.tup (.pair .bool (.pair tI .unit))) (fun p3 => (callV Pg c_model_Count [⟨tMo, p1.1⟩] (.tup (.pair tI (.pair tI .unit))) (fun p4 => (joinV (DL × (Int × (Int × (Int × (Bool × (DMo × DMo)))))) (fun p5 => (brV p5.2.2.2.2.1 (Q false) (callV Pg c_model_FixFor [⟨tMo, p5.2.2.2.2.2.1⟩, ⟨tL, p5.1⟩, ⟨tI, p5.2.1⟩] (.tup (.pair tMo (.pair tI .unit))) (fun p6 => (joinV (Int × (Int × DMo)) (fun p7 => (k2 (p7.1, p7.2))) (fun k7 => (brV (decide (p6.2.1 = (0 : Int))) ((appC 8 (some []) (lst p5.1)) ∧ (loopV (Int × (Int × (Int × (Int × (Int × (DMo × (DMo × (DMo × DL)))))))) (fun k8 => (fun p9 => (brV (decide (p9.2.2.2.2.1 < p9.2.2.2.1)) (brV (notB (decide ((szSl p9.2.2.2.2.2.2.2.1) = (szSl p9.2.2.2.2.2.1)))) (Q false) ((inS p9.2.2.2.2.2.2.2.1 p9.2.2.2.2.1) ∧ (joinV (Int × (Int × (Int × (Int × (Int × (DMo × (DMo × (DMo × DL)))))))) (fun p10 => (k8 (p10.1, (p10.2.1, (p10.2.2.1, (p10.2.2.2.1, ((IntKind.wrap IntKind.i64 (p10.2.2.2.2.1 + (1 : Int))), (p10.2.2.2.2.2.1, (p10.2.2.2.2.2.2.1, p10.2.2.2.2.2.2.2))))))))) (fun k10 => (brV (decide ((eltS ((0 : Int), ((0 : Int), none)) p9.2.2.2.2.2.2.2.1 p9.2.2.2.2.1).1 = p9.1)) ((inS p9.2.2.2.2.2.2.2.2 p9.2.2.2.2.1) ∧ (k10 (p9.1, (p9.2.1, (p9.2.2.1, (p9.2.2.2.1, (p9.2.2.2.2.1, (p9.2.2.2.2.2.1, (p9.2.2.2.2.2.2.1, (p9.2.2.2.2.2.2.2.1, (setO p9.2.2.2.2.2.2.2.2 (toN p9.2.2.2.2.1) (0 : Int)))))))))))) (k10 (p9.1, (p9.2.1, (p9.2.2.1, (p9.2.2.2.1, (p9.2.2.2.2.1, (p9.2.2.2.2.2.1, (p9.2.2.2.2.2.2.1, p9.2.2.2.2.2.2.2))))))))))))) (callV Pg c_model_FixFor [⟨tMo, p9.2.2.2.2.2.2.2.1⟩, ⟨tL, p9.2.2.2.2.2.2.2.2⟩, ⟨tI, (IntKind.wrap IntKind.i64 ((1 : Int) - p9.1))⟩] (.tup (.pair tMo (.pair tI .unit))) (fun p10 => (joinV (Int × (Int × (Bool × DMo))) (fun p11 => (brV p11.2.2.1 (Q false) (k7 (p11.1, (p11.2.1, p11.2.2.2))))) (fun k11 => (brV (notB (decide (p10.2.1 = (0 : Int)))) (k11 (p9.2.1, (p9.2.2.1, (true, p9.2.2.2.2.2.1)))) (callV Pg c_ref04_Identical [⟨tMo, p10.1⟩, ⟨tMo, p9.2.2.2.2.2.2.1⟩] .bool (fun p12 => (k11 (p9.2.1, (p9.2.2.1, ((notB p12), p9.2.2.2.2.2.1)))))))))))))) (p5.2.1, (p5.2.2.1, (p5.2.2.2.1, ((szSl (appL (some []) (lst p5.1))), ((0 : Int), (p5.2.2.2.2.2.1, (p5.2.2.2.2.2.2, (p6.1, (appL (some []) (lst p5.1)))))))))))) (k7 (p5.2.2.1, (p5.2.2.2.1, p5.2.2.2.2.2.1)))))))))) (fun k5 => (brV (notB (decide (p3.2.1 = (0 : Int)))) (k5 (p0.1, (p0.2.1, (p0.2.2.1, (p0.2.2.2.1, (true, (p0.2.2.2.2.2, p1.1))))))) (brV (notB p3.1) (k5 (p0.1, (p0.2.1, (p0.2.2.1, (p0.2.2.2.1, (true, (p0.2.2.2.2.2, p1.1))))))) (brV (notB (decide (p4.2.1 = (0 : Int)))) (k5 (p0.1, (p0.2.1, (p0.2.2.1, (p0.2.2.2.1, (true, (p0.2.2.2.2.2, p1.1))))))) (brV (notB (decide (p4.1 = (1 : Int)))) (k5 (p0.1, (p0.2.1, (p0.2.2.1, (p0.2.2.2.1, (true, (p0.2.2.2.2.2, p1.1))))))) (k5 (p0.1, (p0.2.1, (p0.2.2.1, (p0.2.2.2.1, ((notB (decide ((szSl p1.1) = (szSl p0.2.2.2.2.2)))), (p0.2.2.2.2.2, p1.1))))))))))))))))) (k2 (p0.2.2.1, (p0.2.2.2.1, p0.2.2.2.2.2)))))))))) (fun k0 => (callV Pg c_law04_few [⟨(.sl tMo), (some [a])⟩] .bool (fun p1 => (brV (notB p1) (k0 (b, (c, (d, (e, (true, a)))))) (k0 (b, (c, (d, (e, ((decide ((60 : Int) < (szSl b))), a)))))))))))) :
  callV Pg c_law04_ModelMeans [⟨tMo, a⟩, ⟨tL, b⟩, ⟨tI, c⟩, ⟨tI, d⟩, ⟨tI, e⟩] .bool Q :=
  callV_of (c := bodyOf f_law04_ModelMeans) (ann := an_law04_ModelMeans) e_law04_ModelMeans rfl r_law04_ModelMeans rfl rfl hQ (kcast (by kernel_rfl) h)

end Go.Proofs.Pf
