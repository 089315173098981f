/- Typed pure data, a condition on code that says what a call gives, what the code of each function comes to, and what each function gives. -/
import Derived.Test.YtafjapndilbfcaaDoorProg
import Derived.Lib.LaidTab
import Derived.Lib.ItoaNum
import Derived.Laws.CopyRow
import Derived.Laws.AppendOwn
import Derived.Laws.MakeOwn
import Derived.Laws.BytesString
import Derived.Laws.StructEq
import Derived.Laws.Small
import Derived.Tactics
import Derived.Calls
import Derived.Below
import Derived.KernelRfl
import Derived.Laws.Cells
import Derived.Test.YtafjapndilbfcaaDoorA7
import Derived.Test.YtafjapndilbfcaaDoorA8
import Derived.Test.YtafjapndilbfcaaDoorA9
set_option linter.unusedVariables false
set_option linter.unusedSimpArgs false
namespace Go.Proofs.Pf

open Go Go.VM

variable {x y : (Int × Option (List Int)) × (Int × Option (List Int))} {q r : Rat} {k : Nat}

theorem RV_whole {a : Int × Option (List Int)} {n : Int} (h : IV a n) : RV (a, ((0 : Int), none)) (Rat.divInt n 1) := by
  obtain ⟨h1, h2⟩ := divInt_one n
  refine ⟨by rw [h1]; exact h, .inr ⟨⟨rfl, by decide, by decide⟩, by rw [h2]; rfl⟩⟩

theorem s_RMul (hlong : LongS) (hx : RV x q) (hy : RV y r) (fx : RFit k q) (fy : RFit k r) (hk : k + k ≤ 1073741824) : callV Pg c_exact_Rat_Mul [⟨tER, x⟩, ⟨tER, y⟩] tER fun z => RV z (q * r) := by
  have hq := q.den_nz
  have hr := r.den_nz
  refine w_exact_Rat_Mul x y (RV_ex _) (joinR (fun p => ∃ b : Bool, p = (b, x, y, ((0 : Int), none), ((0 : Int), none)) ∧ (b = true → q.den = 1 ∧ r.den = 1)) ?_ ?_)
  · rintro _ ⟨b, rfl, hb⟩
    have hm := s_Mul hx.1 hy.1 fx.1 fy.1 (by omega) (by omega)
    refine brV_iff.2 ⟨fun h => ?_, fun _ => ?_⟩
    · obtain ⟨h1, h2⟩ := hb h
      refine hm.mono fun p hp => ?_
      rw [rat_mul, h1, h2]
      exact RV_whole hp
    · refine hm.mono fun p1 h1 => (s_Low hx).mono fun p2 h2 => (s_Low hy).mono fun p3 h3 => (s_Mul h2 h3 fx.2 fy.2 (by omega) (by omega)).mono fun p4 h4 => ?_
      refine (s_Ratio hlong h1 h4 ?_ (fx.1.mul fy.1 (Nat.le_refl _)) (fx.2.mul fy.2 (Nat.le_refl _)) hk).mono fun p5 h5 => ?_
      · exact Int.mul_ne_zero (by omega) (by omega)
      · rw [rat_mul]; exact h5
  · intro k' hk'
    refine (s_whole hx).mono fun b hb => brV_iff.2 ⟨fun h => ?_, fun _ => hk' _ ⟨false, rfl, fun h => by simp at h⟩⟩
    refine (s_whole hy).mono fun c hc => hk' _ ⟨c, rfl, fun h2 => ⟨hb h, hc h2⟩⟩

theorem s_RAdd (hlong : LongS) (hx : RV x q) (hy : RV y r) (fx : RFit k q) (fy : RFit k r) (hk : k + k + 1 ≤ 1073741824) : callV Pg c_exact_Rat_Add [⟨tER, x⟩, ⟨tER, y⟩] tER fun z => RV z (q + r) := by
  have hq := q.den_nz
  have hr := r.den_nz
  refine w_exact_Rat_Add x y (RV_ex _) (joinR (fun p => ∃ b : Bool, p = (b, x, y, ((0 : Int), none), ((0 : Int), none)) ∧ (b = true → q.den = 1 ∧ r.den = 1)) ?_ ?_)
  · rintro _ ⟨b, rfl, hb⟩
    refine brV_iff.2 ⟨fun h => ?_, fun _ => ?_⟩
    · obtain ⟨h1, h2⟩ := hb h
      refine (s_Add hx.1 hy.1 fx.1 fy.1 (by omega)).mono fun p hp => ?_
      rw [rat_add, h1, h2]
      have e : q.num * ((1 : Nat) : Int) + r.num * ((1 : Nat) : Int) = q.num + r.num := by omega
      rw [e]
      exact RV_whole hp
    · refine (s_Low hy).mono fun p1 h1 => (s_Mul hx.1 h1 fx.1 fy.2 (by omega) (by omega)).mono fun p2 h2 => ?_
      refine (s_Low hx).mono fun p3 h3 => (s_Mul hy.1 h3 fy.1 fx.2 (by omega) (by omega)).mono fun p4 h4 => ?_
      refine (s_Add h2 h4 (fx.1.mul fy.2 (Nat.le_refl _)) (fy.1.mul fx.2 (Nat.le_refl _)) (by omega)).mono fun p5 h5 => ?_
      refine (s_Low hx).mono fun p6 h6 => (s_Low hy).mono fun p7 h7 => (s_Mul h6 h7 fx.2 fy.2 (by omega) (by omega)).mono fun p8 h8 => ?_
      refine (s_Ratio hlong h5 h8 ?_ ((fx.1.mul fy.2 (Nat.le_refl _)).add (fy.1.mul fx.2 (Nat.le_refl _)) (Nat.lt_succ_self _)) ((fx.2.mul fy.2 (Nat.le_refl _)).mono (Nat.le_succ _)) hk).mono fun p9 h9 => ?_
      · exact Int.mul_ne_zero (by omega) (by omega)
      · rw [rat_add]; exact h9
  · intro k' hk'
    refine (s_whole hx).mono fun b hb => brV_iff.2 ⟨fun h => ?_, fun _ => hk' _ ⟨false, rfl, fun h => by simp at h⟩⟩
    refine (s_whole hy).mono fun c hc => hk' _ ⟨c, rfl, fun h2 => ⟨hb h, hc h2⟩⟩

end Go.Proofs.Pf

namespace Go.Proofs.Pf

open Go Go.VM

def NumOk (a : Int × Int) : Prop := 1 ≤ a.2 ∧ a.2 ≤ 1152921504606846976 ∧ a.1 ≤ 1152921504606846976 ∧ -1152921504606846976 ≤ a.1 ∧ Int.gcd a.1 a.2 = 1

instance (a : Int × Int) : Decidable (NumOk a) := by unfold NumOk; infer_instance

def numQ (a : Int × Int) : Rat := Rat.divInt a.1 a.2

theorem NumOk.q {a : Int × Int} (h : NumOk a) : (numQ a).num = a.1 ∧ ((numQ a).den : Int) = a.2 := by
  obtain ⟨h1, h2, h3, h4, h5⟩ := h
  have e : sgn a.2 = 1 := if_pos (by omega)
  rw [numQ, ratio_num _ _ (by omega), ratio_den _ _ (by omega), e, h5]
  simp

/-- A number as a result. -/
def outQ (q : Rat) : (Int × Int) × Int × Unit := if q.num ≤ 1152921504606846976 ∧ -1152921504606846976 ≤ q.num ∧ (q.den : Int) ≤ 1152921504606846976 then ((q.num, (q.den : Int)), 0, ()) else ((0, 0), 3, ())

theorem s_Out {x : (Int × Option (List Int)) × (Int × Option (List Int))} {q : Rat} (hx : RV x q) : callV Pg c_num_Out [⟨tER, x⟩] (.tup (.pair tNum (.pair tI .unit))) fun r => r = outQ q := by
  refine w_num_Out x ⟨_, rfl⟩ ((s_Top hx).mono fun p0 h0 => (s_Int h0 (by decide) (by decide)).mono ?_)
  rintro _ rfl
  refine (s_Low hx).mono fun p2 h2 => (s_Int h2 (by decide) (by decide)).mono ?_
  rintro _ rfl
  have hd := q.den_nz
  have e1 : (smallI q.num 1152921504606846976).2.1 = decide (q.num ≤ 1152921504606846976 ∧ -1152921504606846976 ≤ q.num) := by unfold smallI; split <;> simp_all
  have e2 : (smallI (q.den : Int) 1152921504606846976).2.1 = decide ((q.den : Int) ≤ 1152921504606846976) := by
    unfold smallI; split
    · rename_i h; simp [h.1]
    · rename_i h; simp; omega
  have e3 : (q.num ≤ 1152921504606846976 ∧ -1152921504606846976 ≤ q.num) → (smallI q.num 1152921504606846976).1 = q.num := by intro h; rw [smallI, if_pos h]
  have e4 : ((q.den : Int) ≤ 1152921504606846976) → (smallI (q.den : Int) 1152921504606846976).1 = (q.den : Int) := by intro h; rw [smallI, if_pos ⟨h, by omega⟩]
  refine joinR (fun p => ∃ b : Bool, p = ((smallI q.num 1152921504606846976).1, (smallI (q.den : Int) 1152921504606846976).1, b, (0 : Int), (0 : Int)) ∧ (b = true ↔ ¬ (q.num ≤ 1152921504606846976 ∧ -1152921504606846976 ≤ q.num ∧ (q.den : Int) ≤ 1152921504606846976))) ?_ ?_
  · rintro _ ⟨b, rfl, hb⟩
    refine brV_iff.2 ⟨fun h => ?_, fun h => ?_⟩
    · rw [outQ, if_neg (hb.1 h)]
    · have h3 : q.num ≤ 1152921504606846976 ∧ -1152921504606846976 ≤ q.num ∧ (q.den : Int) ≤ 1152921504606846976 := by
        refine Classical.byContradiction fun hn => ?_
        have := hb.2 hn
        dsimp only at h
        rw [h] at this; simp at this
      rw [outQ, if_pos h3]
      dsimp only
      rw [e3 ⟨h3.1, h3.2.1⟩, e4 h3.2.2]
  · intro k hk
    rw [e1]
    refine brV_iff.2 ⟨fun h => hk _ ⟨true, rfl, ?_⟩, fun h => hk _ ⟨_, rfl, ?_⟩⟩
    · have h := not_t h
      simp only [true_iff]
      exact fun h2 => h ⟨h2.1, h2.2.1⟩
    · have h := not_f h
      rw [e2]
      simp only [notB, Bool.not_eq_true', decide_eq_false_iff_not]
      constructor
      · exact fun h1 h2 => h1 h2.2.2
      · exact fun h1 h2 => h1 ⟨h.1, h.2, h2⟩

theorem fit_i64 {n : Int} (h1 : -9223372036854775808 ≤ n) (h2 : n < 9223372036854775808) : Fit 2 n := by
  unfold Fit
  rw [show (4294967296 : Int) ^ 2 = 18446744073709551616 from rfl]
  omega

theorem s_Valid (hlong : LongS) (a : Int × Int) : callV Pg c_num_Valid [⟨tNum, a⟩] .bool fun r => r = decide (NumOk a) := by
  refine w_num_Valid a ⟨_, rfl⟩ (joinR (fun p => ∃ b : Bool, p = (b, a) ∧ (b = true → ¬ NumOk a) ∧ (b = false → 1 ≤ a.2 ∧ a.2 ≤ 1152921504606846976 ∧ a.1 ≤ 1152921504606846976 ∧ -1152921504606846976 ≤ a.1)) ?_ ?_)
  · rintro _ ⟨b, rfl, h1, h2⟩
    refine brV_iff.2 ⟨fun h => ?_, fun h => ?_⟩
    · exact (decide_eq_false (h1 h)).symm
    · obtain ⟨q1, q2, q3, q4⟩ := h2 h
      refine (s_Of (n := a.1) (by omega) (by omega)).mono fun p1 e1 => (s_Of (n := a.2) (by omega) (by omega)).mono fun p2 e2 => ?_
      refine (s_Gcd hlong e1 e2 (fit_i64 (by omega) (by omega)) (fit_i64 (by omega) (by omega)) (by omega)).mono fun p3 e3 => (s_Int e3 (by decide) (by decide)).mono ?_
      rintro _ rfl
      refine decide_eq_decide.2 ?_
      unfold smallI NumOk
      split
      · constructor
        · intro h; have h : ((Int.gcd a.1 a.2 : Nat) : Int) = 1 := h; exact ⟨q1, q2, q3, q4, by omega⟩
        · rintro ⟨_, _, _, _, h⟩; show ((Int.gcd a.1 a.2 : Nat) : Int) = 1; omega
      · rename_i hn
        constructor
        · intro h; simp at h
        · rintro ⟨_, _, _, _, h⟩; exact absurd ⟨by omega, by omega⟩ hn
  · intro k hk
    refine brV_iff.2 ⟨fun h => hk _ ⟨true, rfl, fun _ hN => ?_, fun h => by simp at h⟩, fun h => brV_iff.2 ⟨fun h2 => hk _ ⟨true, rfl, fun _ hN => ?_, fun h => by simp at h⟩, fun h2 => brV_iff.2 ⟨fun h3 => hk _ ⟨true, rfl, fun _ hN => ?_, fun h => by simp at h⟩, fun h3 => hk _ ⟨_, rfl, fun h4 hN => ?_, fun h4 => ?_⟩⟩⟩⟩
    · have h : a.2 < 1 := dec_t h
      have := hN.1; omega
    · have h2 : 1152921504606846976 < a.2 := dec_t h2
      have := hN.2.1; omega
    · have h3 : 1152921504606846976 < a.1 := dec_t h3
      have := hN.2.2.1; omega
    · have h4 : a.1 < -1152921504606846976 := dec_t h4
      have := hN.2.2.2.1; omega
    · have h : ¬ a.2 < 1 := dec_f h
      have h2 : ¬ 1152921504606846976 < a.2 := dec_f h2
      have h3 : ¬ 1152921504606846976 < a.1 := dec_f h3
      have h4 : ¬ a.1 < -1152921504606846976 := dec_f h4
      omega

theorem s_Rat (hlong : LongS) {a : Int × Int} (h : NumOk a) : callV Pg c_num_Rat [⟨tNum, a⟩] tER fun r => RV r (numQ a) := by
  obtain ⟨q1, q2, q3, q4, _⟩ := h
  refine w_num_Rat a (RV_ex _) ((s_Of (n := a.1) (by omega) (by omega)).mono fun p1 e1 => (s_Of (n := a.2) (by omega) (by omega)).mono fun p2 e2 => ?_)
  exact (s_Ratio hlong e1 e2 (by omega) (fit_i64 (by omega) (by omega)) (fit_i64 (by omega) (by omega)) (by omega)).mono fun p h => h

theorem NumOk.fit {a : Int × Int} (h : NumOk a) : RFit 2 (numQ a) := by
  obtain ⟨e1, e2⟩ := h.q
  obtain ⟨q1, q2, q3, q4, _⟩ := h
  exact ⟨by rw [e1]; exact fit_i64 (by omega) (by omega), by rw [e2]; exact fit_i64 (by omega) (by omega)⟩

/-- A result of two numbers. -/
def withQ (op : Rat → Rat → Rat) (a b : Int × Int) : (Int × Int) × Int × Unit := if NumOk a ∧ NumOk b then outQ (op (numQ a) (numQ b)) else ((0, 0), 1, ())

theorem s_with_Add (hlong : LongS) (a b : Int × Int) : callV Pg c_num_with [⟨tNum, a⟩, ⟨tNum, b⟩, ⟨(.cst (.fn c_exact_Rat_Add)), ()⟩] (.tup (.pair tNum (.pair tI .unit))) fun r => r = withQ (fun q r => q + r) a b := by
  refine w_num_with_exact_Rat_Add a b () ⟨_, rfl⟩ (joinR (fun p => ∃ c : Bool, p = (c, a, b, (0 : Int), (0 : Int)) ∧ (c = true ↔ ¬ (NumOk a ∧ NumOk b))) ?_ ?_)
  · rintro _ ⟨c, rfl, hc⟩
    refine brV_iff.2 ⟨fun h => ?_, fun h => ?_⟩
    · rw [withQ, if_neg (hc.1 h)]
    · have hN : NumOk a ∧ NumOk b := Classical.byContradiction fun hn => by
        have := hc.2 hn; dsimp only at h; rw [h] at this; simp at this
      refine (s_Rat hlong hN.1).mono fun p1 h1 => (s_Rat hlong hN.2).mono fun p2 h2 => ?_
      refine (s_RAdd hlong h1 h2 hN.1.fit hN.2.fit (by omega)).mono fun p3 h3 => (s_Out h3).mono ?_
      rintro _ rfl
      rw [withQ, if_pos hN]
  · intro k hk
    refine (s_Valid hlong a).mono ?_
    rintro _ rfl
    refine brV_iff.2 ⟨fun h => hk _ ⟨true, rfl, ?_⟩, fun h => (s_Valid hlong b).mono ?_⟩
    · have h := not_t h
      simp only [true_iff]; exact fun h2 => h h2.1
    · rintro _ rfl
      have h := not_f h
      refine hk _ ⟨_, rfl, ?_⟩
      simp only [notB, Bool.not_eq_true', decide_eq_false_iff_not]
      exact ⟨fun h1 h2 => h1 h2.2, fun h1 h2 => h1 ⟨h, h2⟩⟩

theorem s_NAdd (hlong : LongS) (a b : Int × Int) : callV Pg c_num_Add [⟨tNum, a⟩, ⟨tNum, b⟩] (.tup (.pair tNum (.pair tI .unit))) fun r => r = withQ (fun q r => q + r) a b :=
  w_num_Add a b ⟨_, rfl⟩ ((s_with_Add hlong a b).mono fun _ h => h)

end Go.Proofs.Pf

namespace Go.Proofs.Pf

open Go Go.VM

theorem pow_num (q : Rat) (n : Nat) : (q ^ n).num = q.num ^ n ∧ (q ^ n).den = q.den ^ n := by
  rw [Rat.pow_def]; exact ⟨rfl, rfl⟩

theorem natAbs_pow_mono {a : Int} (h : a ≠ 0) {k n : Nat} (hk : k ≤ n) : (a ^ k).natAbs ≤ (a ^ n).natAbs := by
  rw [Int.natAbs_pow, Int.natAbs_pow]
  exact Nat.pow_le_pow_right (by omega) hk

/-- Where a power is too great, so are the further ones. -/
theorem outQ_mono {q : Rat} (h0 : q.num ≠ 0) {k n : Nat} (hk : k ≤ n) (h : (outQ (q ^ k)).2.1 ≠ 0) : outQ (q ^ n) = ((0, 0), 3, ()) := by
  have h1 : ¬ ((q ^ k).num ≤ 1152921504606846976 ∧ -1152921504606846976 ≤ (q ^ k).num ∧ ((q ^ k).den : Int) ≤ 1152921504606846976) := by
    intro h2; rw [outQ, if_pos h2] at h; exact h rfl
  rw [outQ, if_neg]
  intro h2
  apply h1
  have e1 := natAbs_pow_mono h0 hk
  have e2 : q.den ^ k ≤ q.den ^ n := Nat.pow_le_pow_right (by have := q.den_nz; omega) hk
  rw [(pow_num q n).1, (pow_num q n).2] at h2
  rw [(pow_num q k).1, (pow_num q k).2]
  omega

end Go.Proofs.Pf

namespace Go.Proofs.Pf

open Go Go.VM

/-- A power as a number. -/
def powQ (a : Int × Int) (n : Int) : (Int × Int) × Int × Unit := if NumOk a then (if n < 0 ∨ 10000 < n then ((0, 0), 6, ()) else outQ (numQ a ^ n.toNat)) else ((0, 0), 1, ())

theorem outQ_fit {q : Rat} (h : (outQ q).2.1 = 0) : RFit 2 q := by
  unfold outQ at h
  split at h
  · rename_i h2
    have := q.den_nz
    exact ⟨fit_i64 (by omega) (by omega), fit_i64 (by omega) (by omega)⟩
  · simp at h

theorem zero_pow_fit (n : Nat) : RFit 2 ((0 : Rat) ^ n) := by
  have h := pow_num 0 n
  refine ⟨?_, ?_⟩
  · rw [h.1]
    cases n with
    | zero => exact fit_i64 (by decide) (by decide)
    | succ n => rw [Int.pow_succ]; simp; exact fit_i64 (by decide) (by decide)
  · rw [h.2]; simp; exact fit_i64 (by decide) (by decide)

theorem s_NPow (a : Int × Int) (n : Int) : callV Pg c_num_Pow [⟨tNum, a⟩, ⟨tI, n⟩] (.tup (.pair tNum (.pair tI .unit))) fun r => r = powQ a n := by
  have hlong := longS
  refine w_num_Pow a n ⟨_, rfl⟩ ((s_Valid hlong a).mono ?_)
  rintro _ rfl
  refine brV_iff.2 ⟨fun h => ?_, fun h => ?_⟩
  · have h := not_t h
    rw [powQ, if_neg h]
  have hN := not_f h
  refine joinR (fun p => p = (n, decide (n < 0 ∨ 10000 < n), a, (0 : Int), (0 : Int))) ?_ ?_
  · rintro _ rfl
    dsimp only
    refine brV_iff.2 ⟨fun h => ?_, fun h => ?_⟩
    · rw [powQ, if_pos hN, if_pos (dec_t h)]
    have h := dec_f h
    rw [powQ, if_pos hN, if_neg h]
    refine (s_Rat hlong hN).mono fun x hx => (s_Whole (n := 1) (by decide) (by decide)).mono fun y hy => ?_
    obtain ⟨m, rfl⟩ : ∃ m : Nat, n = m := ⟨n.toNat, by omega⟩
    rw [Int.toNat_natCast]
    refine loopE (fun p => ∃ (k : Nat) (o : _), p = ((m : Int), (k : Int), a, ((0 : Int), (0 : Int)), x, o) ∧ k ≤ m ∧ RV o (numQ a ^ k) ∧ RFit 2 (numQ a ^ k)) (fun p => ((m : Int) - p.2.1).toNat) ⟨0, y, rfl, by omega, ?_, ?_⟩ ?_
    · rw [Rat.pow_zero]; exact hy
    · rw [Rat.pow_zero]; exact ⟨fit_i64 (by decide) (by decide), fit_i64 (by decide) (by decide)⟩
    rintro _ ⟨k, o, rfl, hk, ho, fo⟩
    dsimp only
    refine brV_iff.2 ⟨fun h => ?_, fun h => ?_⟩
    · have h : (k : Int) < (m : Int) := dec_t h
      refine (s_RMul hlong ho hx fo hN.fit (by omega)).mono fun o' ho' => (s_Out ho').mono ?_
      rintro _ rfl
      have e : numQ a ^ k * numQ a = numQ a ^ (k + 1) := (Rat.pow_succ ..).symm
      rw [e] at ho' ⊢
      refine joinR (fun p => ∃ b : Bool, p = ((outQ (numQ a ^ (k + 1))).2.1, (m : Int), (k : Int), b, a, ((0 : Int), (0 : Int)), x, o') ∧ (b = true ↔ ((outQ (numQ a ^ (k + 1))).2.1 ≠ 0 ∧ a.1 ≠ 0))) ?_ ?_
      · rintro _ ⟨b, rfl, hb⟩
        dsimp only
        refine brV_iff.2 ⟨fun h2 => ?_, fun h2 => ?_⟩
        · obtain ⟨b1, b2⟩ := hb.1 h2
          have e0 : (numQ a).num ≠ 0 := by rw [hN.q.1]; exact b2
          rw [outQ_mono e0 (show k + 1 ≤ m by omega) b1]
          have : (outQ (numQ a ^ (k + 1))).2.1 = 3 := by
            unfold outQ at b1 ⊢; split at b1
            · simp at b1
            · rename_i hn; rw [if_neg hn]
          rw [this]
        · have e2 : IntKind.wrap IntKind.i64 ((k : Int) + 1) = ((k + 1 : Nat) : Int) := by rw [wi64 (by omega) (by omega)]; omega
          rw [e2]
          refine ⟨⟨k + 1, o', rfl, by omega, ho', ?_⟩, by omega⟩
          by_cases h3 : (outQ (numQ a ^ (k + 1))).2.1 = 0
          · exact outQ_fit h3
          · have h4 : a.1 = 0 := Classical.byContradiction fun hn => by
              have := hb.2 ⟨h3, hn⟩; rw [h2] at this; simp at this
            have : numQ a = 0 := by rw [← Rat.num_eq_zero, hN.q.1]; exact h4
            rw [this]; exact zero_pow_fit _
      · intro k' hk'
        refine brV_iff.2 ⟨fun h2 => hk' _ ⟨_, rfl, ?_⟩, fun h2 => hk' _ ⟨_, rfl, ?_⟩⟩
        · have h2 := not_t h2
          simp only [notB, Bool.not_eq_true', decide_eq_false_iff_not]
          exact ⟨fun h3 => ⟨h2, h3⟩, fun h3 => h3.2⟩
        · have h2 := not_f h2
          simp only [Bool.false_eq_true, false_iff]
          exact fun h3 => h3.1 h2
    · have h : ¬ (k : Int) < (m : Int) := dec_f h
      obtain rfl : k = m := by omega
      refine (s_Out ho).mono ?_
      rintro _ rfl
      rfl
  · intro k hk
    refine brV_iff.2 ⟨fun h => hk _ ?_, fun h => hk _ ?_⟩
    · have h : n < 0 := dec_t h
      rw [decide_eq_true (Or.inl h)]
    · have h : ¬ n < 0 := dec_f h
      have : decide (10000 < n) = decide (n < 0 ∨ 10000 < n) := decide_eq_decide.2 ⟨Or.inr, fun h2 => h2.resolve_left h⟩
      rw [this]

theorem s_awake : callV Pg c_law01_awake [] .bool fun r => r = true := by
  refine w_law01_awake ⟨_, rfl⟩ ((s_NAdd longS _ _).mono ?_)
  rintro _ rfl
  refine (s_NPow _ _).mono ?_
  rintro _ rfl
  refine (s_NAdd longS _ _).mono ?_
  rintro _ rfl
  have e1 : withQ (fun q r => q + r) ((1 : Int), (3 : Int)) ((1 : Int), (6 : Int)) = ((1, 2), 0, ()) := by decide +kernel
  have e2 : powQ (-(2 : Int), (3 : Int)) (3 : Int) = ((-8, 27), 0, ()) := by decide +kernel
  have e3 : withQ (fun q r => q + r) ((1152921504606846976 : Int), (1 : Int)) ((1 : Int), (1 : Int)) = ((0, 0), 3, ()) := by decide +kernel
  rw [e1, e2, e3]
  exact joinE rfl

end Go.Proofs.Pf

namespace Go.Proofs.Pf

open Go Go.VM

theorem outQ_num {a : Int × Int} (h : NumOk a) : outQ (numQ a) = (a, 0, ()) := by
  obtain ⟨e1, e2⟩ := h.q
  obtain ⟨q1, q2, q3, q4, _⟩ := h
  rw [outQ, if_pos (by rw [e1, e2]; exact ⟨q3, q4, q2⟩), e1, e2]

end Go.Proofs.Pf

namespace Go.Proofs.Pf.B

open Go Go.VM

def RRV (x : (Int × Bool × Option (List Int)) × (Int × Bool × Option (List Int))) (q : Rat) : Prop := RIV x.1 q.num ∧ RIV x.2 (q.den : Int)

theorem RRV_ex (q : Rat) : ∃ r, RRV r q := by
  obtain ⟨a, ha⟩ := RIV_ex q.num
  obtain ⟨b, hb⟩ := RIV_ex (q.den : Int)
  exact ⟨(a, b), ha, hb⟩

def RFit (k : Nat) (q : Rat) : Prop := Fit k q.num ∧ Fit k (q.den : Int)

theorem RFit.mono {k j : Nat} {q : Rat} (h : RFit k q) (hj : k ≤ j) : RFit j q := ⟨h.1.mono hj, h.2.mono hj⟩

theorem fit_i64 {n : Int} (h1 : -9223372036854775808 ≤ n) (h2 : n < 9223372036854775808) : Fit 3 n := by
  unfold Fit
  rw [show (1073741824 : Int) ^ 3 = 1237940039285380274899124224 from rfl]
  omega

theorem r_Make {x y : Int × Bool × Option (List Int)} {n m : Int} {k : Nat} (hx : RIV x n) (hy : RIV y m) (hm : m ≠ 0) (fx : Fit k n) (fy : Fit k m) (hk : k ≤ 1073741824) : callV Pg c_ref01_Make [⟨tRI, x⟩, ⟨tRI, y⟩] tRR fun r => RRV r (Rat.divInt n m) := by
  refine w_ref01_Make x y (RRV_ex _) ((r_Sign hy).mono ?_)
  rintro _ rfl
  refine joinR (fun p => ∃ n' m' : Int, RIV p.1 n' ∧ RIV p.2.1 m' ∧ 0 < m' ∧ Rat.divInt n m = Rat.divInt n' m' ∧ Fit k n' ∧ Fit k m') ?_ ?_
  · rintro ⟨p, q, z⟩ ⟨n', m', h1, h2, hm', e, f1, f2⟩
    rw [e]
    dsimp only at h1 h2 ⊢
    have hg0 : Int.gcd n' m' ≠ 0 := fun e => by have := (Int.gcd_eq_zero_iff.1 e).2; omega
    have es : sgn m' = 1 := if_pos hm'
    have hn := ratio_num n' m' (by omega)
    have hd := ratio_den n' m' (by omega)
    rw [es, Int.one_mul] at hn hd
    have hgle : Int.gcd n' m' ≤ m'.natAbs := Nat.le_of_dvd (by omega) (Nat.gcd_dvd_right ..)
    refine (r_Gcd h1 h2 f1 f2 hk).mono fun g hg => (r_Of (n := 1) (by decide) (by decide)).mono fun o ho => ?_
    refine (r_ICompare hg ho (f2.of (by omega)) (fit_i64 (by decide) (by decide)) hk (by decide)).mono ?_
    rintro _ rfl
    refine joinR (fun p => RIV p.1 (n'.tdiv (Int.gcd n' m')) ∧ RIV p.2.1 (m'.tdiv (Int.gcd n' m'))) ?_ ?_
    · rintro ⟨p, q, z⟩ ⟨h3, h4⟩
      rw [← hn] at h3
      rw [← hd] at h4
      exact ⟨h3, h4⟩
    · intro k' hk'
      refine brV_iff.2 ⟨fun _ => ?_, fun h => ?_⟩
      · refine (r_Over h1 hg (by omega) f1 hk).mono ?_
        rintro ⟨q, r, _⟩ ⟨h3, _⟩
        refine (r_Over h2 hg (by omega) f2 hk).mono ?_
        rintro ⟨q2, r2, _⟩ ⟨h4, _⟩
        exact hk' _ ⟨h3, h4⟩
      · have h := sgn_z (not_f h)
        have e : ((Int.gcd n' m' : Nat) : Int) = 1 := by omega
        refine hk' _ ?_
        rw [e]
        simp only [Int.tdiv_one]
        exact ⟨h1, h2⟩
  · intro k' hk'
    refine brV_iff.2 ⟨fun h => ?_, fun h => ?_⟩
    · have h := dec_t h
      rw [sgn_neg] at h
      refine (r_Minus hx).mono fun p h1 => (r_Minus hy).mono fun q h2 => hk' _ ⟨-n, -m, h1, h2, by omega, ?_, fx.neg, fy.neg⟩
      exact (Rat.neg_divInt_neg ..).symm
    · have h := dec_f h
      rw [sgn_neg] at h
      exact hk' _ ⟨n, m, hx, hy, by omega, rfl, fx, fy⟩

variable {x y : (Int × Bool × Option (List Int)) × (Int × Bool × Option (List Int))} {q r : Rat} {k : Nat}

/-- A number, if it is one. -/
def fromQ (q : Rat) : (Int × Int) × Bool × Unit := if q.num ≤ 1152921504606846976 ∧ -1152921504606846976 ≤ q.num ∧ (q.den : Int) ≤ 1152921504606846976 then ((q.num, (q.den : Int)), true, ()) else ((0, 0), false, ())

theorem r_From (hx : RRV x q) : callV Pg c_ref01_From [⟨tRR, x⟩] (.tup (.pair tNum (.pair .bool .unit))) fun r => r = fromQ q := by
  refine w_ref01_From x ⟨_, rfl⟩ ((r_Small hx.1).mono ?_)
  rintro _ rfl
  refine (r_Small hx.2).mono ?_
  rintro _ rfl
  have hd := q.den_nz
  have e1 : (smallI q.num 1152921504606846976).2.1 = decide (q.num ≤ 1152921504606846976 ∧ -1152921504606846976 ≤ q.num) := by unfold smallI; split <;> simp_all
  have e2 : (smallI (q.den : Int) 1152921504606846976).2.1 = decide ((q.den : Int) ≤ 1152921504606846976) := by
    unfold smallI; split
    · rename_i h; simp [h.1]
    · rename_i h; simp; omega
  have e3 : (q.num ≤ 1152921504606846976 ∧ -1152921504606846976 ≤ q.num) → (smallI q.num 1152921504606846976).1 = q.num := by intro h; rw [smallI, if_pos h]
  have e4 : ((q.den : Int) ≤ 1152921504606846976) → (smallI (q.den : Int) 1152921504606846976).1 = (q.den : Int) := by intro h; rw [smallI, if_pos ⟨h, by omega⟩]
  refine joinR (fun p => ∃ b : Bool, p = ((smallI q.num 1152921504606846976).1, (smallI (q.den : Int) 1152921504606846976).1, b, (0 : Int), (0 : Int)) ∧ (b = true ↔ ¬ (q.num ≤ 1152921504606846976 ∧ -1152921504606846976 ≤ q.num ∧ (q.den : Int) ≤ 1152921504606846976))) ?_ ?_
  · rintro _ ⟨b, rfl, hb⟩
    refine brV_iff.2 ⟨fun h => ?_, fun h => ?_⟩
    · rw [fromQ, if_neg (hb.1 h)]
    · have h3 : q.num ≤ 1152921504606846976 ∧ -1152921504606846976 ≤ q.num ∧ (q.den : Int) ≤ 1152921504606846976 := by
        refine Classical.byContradiction fun hn => ?_
        have := hb.2 hn
        dsimp only at h
        rw [h] at this; simp at this
      rw [fromQ, if_pos h3]
      dsimp only
      rw [e3 ⟨h3.1, h3.2.1⟩, e4 h3.2.2]
  · intro k hk
    rw [e1]
    refine brV_iff.2 ⟨fun h => hk _ ⟨true, rfl, ?_⟩, fun h => hk _ ⟨_, rfl, ?_⟩⟩
    · have h := not_t h
      simp only [true_iff]
      exact fun h2 => h ⟨h2.1, h2.2.1⟩
    · have h := not_f h
      rw [e2]
      simp only [notB, Bool.not_eq_true', decide_eq_false_iff_not]
      constructor
      · exact fun h1 h2 => h1 h2.2.2
      · exact fun h1 h2 => h1 ⟨h.1, h.2, h2⟩

theorem r_Num (hx : RRV x q) : callV Pg c_ref01_Num [⟨tRR, x⟩] (.tup (.pair tNum (.pair tI .unit))) fun r => r = outQ q := by
  refine w_ref01_Num x ⟨_, rfl⟩ ((r_From hx).mono ?_)
  rintro _ rfl
  unfold fromQ outQ
  split
  · exact brV_iff.2 ⟨fun h => by simp [notB] at h, fun _ => rfl⟩
  · exact brV_iff.2 ⟨fun _ => rfl, fun h => by simp [notB] at h⟩

theorem r_Valid (a : Int × Int) : callV Pg c_ref01_Valid [⟨tNum, a⟩] .bool fun r => r = decide (NumOk a) := by
  refine w_ref01_Valid a ⟨_, rfl⟩ (joinR (fun p => ∃ b : Bool, p = (b, a) ∧ (b = true → ¬ NumOk a) ∧ (b = false → 1 ≤ a.2 ∧ a.2 ≤ 1152921504606846976 ∧ a.1 ≤ 1152921504606846976 ∧ -1152921504606846976 ≤ a.1)) ?_ ?_)
  · rintro _ ⟨b, rfl, h1, h2⟩
    refine brV_iff.2 ⟨fun h => ?_, fun h => ?_⟩
    · exact (decide_eq_false (h1 h)).symm
    · obtain ⟨q1, q2, q3, q4⟩ := h2 h
      refine (r_Of (n := a.1) (by omega) (by omega)).mono fun p1 e1 => (r_Of (n := a.2) (by omega) (by omega)).mono fun p2 e2 => ?_
      have hgle : Int.gcd a.1 a.2 ≤ a.2.natAbs := Nat.le_of_dvd (by omega) (Nat.gcd_dvd_right ..)
      refine (r_Gcd e1 e2 (fit_i64 (by omega) (by omega)) (fit_i64 (by omega) (by omega)) (by omega)).mono fun p3 e3 => (r_Of (n := 1) (by decide) (by decide)).mono fun p4 e4 => ?_
      refine (r_ICompare e3 e4 (fit_i64 (by omega) (by omega)) (fit_i64 (by omega) (by omega)) (by omega) (by omega)).mono ?_
      rintro _ rfl
      refine decide_eq_decide.2 ?_
      unfold NumOk
      constructor
      · intro h; have h := sgn_z h; exact ⟨q1, q2, q3, q4, by omega⟩
      · rintro ⟨_, _, _, _, h⟩; rw [h]; rfl
  · intro k hk
    refine brV_iff.2 ⟨fun h => hk _ ⟨true, rfl, fun _ hN => ?_, fun h => by simp at h⟩, fun h => brV_iff.2 ⟨fun h2 => hk _ ⟨true, rfl, fun _ hN => ?_, fun h => by simp at h⟩, fun h2 => brV_iff.2 ⟨fun h3 => hk _ ⟨true, rfl, fun _ hN => ?_, fun h => by simp at h⟩, fun h3 => hk _ ⟨_, rfl, fun h4 hN => ?_, fun h4 => ?_⟩⟩⟩⟩
    · have h : a.2 < 1 := dec_t h
      have := hN.1; omega
    · have h2 : 1152921504606846976 < a.2 := dec_t h2
      have := hN.2.1; omega
    · have h3 : 1152921504606846976 < a.1 := dec_t h3
      have := hN.2.2.1; omega
    · have h4 : a.1 < -1152921504606846976 := dec_t h4
      have := hN.2.2.2.1; omega
    · have h : ¬ a.2 < 1 := dec_f h
      have h2 : ¬ 1152921504606846976 < a.2 := dec_f h2
      have h3 : ¬ 1152921504606846976 < a.1 := dec_f h3
      have h4 : ¬ a.1 < -1152921504606846976 := dec_f h4
      omega

end Go.Proofs.Pf.B
