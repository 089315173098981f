/- What each function gives. -/
import Derived.Test.YtafjapndilbfcaaC
import Derived.Test.YtafjapndilbfcaaS1
import Derived.Test.YtafjapndilbfcaaW3
import Derived.Test.YtafjapndilbfcaaW4
set_option linter.unusedVariables false
set_option linter.unusedSimpArgs false
namespace Go.Proofs.Pf
open Go Go.VM

theorem sgn_sign (n : Int) : sgn n = n.sign := by
  rcases sgn3 n with ⟨e, h⟩ | ⟨e, h⟩ | ⟨e, h⟩
  · rw [e, Int.sign_eq_one_of_pos h]
  · rw [e, Int.sign_eq_neg_one_of_neg h]
  · rw [e, h]; rfl

theorem ratio_num (n m : Int) (hm : m ≠ 0) : (Rat.divInt n m).num = sgn m * n.tdiv (Int.gcd n m) := by
  rw [Rat.num_divInt, sgn_sign, Int.gcd_comm m n]
  have hd : ((Int.gcd n m : Nat) : Int) ∣ n := Int.gcd_dvd_left ..
  rw [Int.mul_ediv_assoc _ hd, Int.tdiv_eq_ediv_of_dvd hd]

theorem ratio_den (n m : Int) (hm : m ≠ 0) : ((Rat.divInt n m).den : Int) = sgn m * m.tdiv (Int.gcd n m) := by
  rw [Rat.den_divInt, if_neg hm, sgn_sign, Int.gcd_comm m n]
  have hd : ((Int.gcd n m : Nat) : Int) ∣ m := Int.gcd_dvd_right ..
  have e : m.sign * m = (m.natAbs : Int) := by
    rw [← sgn_sign]
    rcases sgn3 m with ⟨e, h⟩ | ⟨e, h⟩ | ⟨e, h⟩ <;> rw [e] <;> omega
  rw [Int.tdiv_eq_ediv_of_dvd hd, ← Int.mul_ediv_assoc _ hd, e]
  simp

/-- What a fraction stands for. -/
def LowV (y : Int × Option (List Int)) (d : Int) : Prop := IV y d ∨ (IV y 0 ∧ d = 1)
def RV (x : (Int × Option (List Int)) × (Int × Option (List Int))) (q : Rat) : Prop := IV x.1 q.num ∧ LowV x.2 (q.den : Int)

theorem RV_ex (q : Rat) : ∃ r, RV r q := by
  obtain ⟨a, ha⟩ := IV_ex q.num
  obtain ⟨b, hb⟩ := IV_ex (q.den : Int)
  exact ⟨(a, b), ha, .inl hb⟩

theorem s_Ratio (hlong : LongS) {x y : Int × Option (List Int)} {n m : Int} {k : Nat} (hx : IV x n) (hy : IV y m) (hm : m ≠ 0) (fx : Fit k n) (fy : Fit k m) (hk : k ≤ 1073741824) : callV Pg c_exact_Ratio [⟨tEI, x⟩, ⟨tEI, y⟩] tER fun r => RV r (Rat.divInt n m) := by
  refine w_exact_Ratio x y (RV_ex _) ((s_Gcd hlong hx hy fx fy hk).mono fun g hg => ?_)
  have hgp : Int.gcd n m ≠ 0 := fun e => hm (Int.gcd_eq_zero_iff.1 e).2
  have fin : ∀ p : (Int × Option (List Int)) × (Int × Option (List Int)), IV p.1 (sgn m * n.tdiv (Int.gcd n m)) → IV p.2 (sgn m * m.tdiv (Int.gcd n m)) → RV p (Rat.divInt n m) := by
    intro p h1 h2
    rw [← ratio_num n m hm] at h1
    rw [← ratio_den n m hm] at h2
    exact ⟨h1, .inl h2⟩
  have dd : ((Int.gcd n m : Nat) : Int) ∣ m := Int.gcd_dvd_right ..
  have sq : sgn (m.tdiv (Int.gcd n m)) = sgn m := by
    have h1 := Int.mul_tdiv_cancel' dd
    have : sgn ((Int.gcd n m : Nat) : Int) = 1 := if_pos (by omega)
    have h2 : sgn m = sgn (((Int.gcd n m : Nat) : Int) * m.tdiv (Int.gcd n m)) := by rw [h1]
    rw [h2, sgn_mul, this]; omega
  refine joinR (fun p => ∃ b : Bool, p = (b, x, y, (((0 : Int), none), ((0 : Int), none)), g) ∧ (b = false → Int.gcd n m = 1)) ?_ ?_
  · rintro _ ⟨b, rfl, hb⟩
    refine joinR (fun p => IV p.1 (n.tdiv (Int.gcd n m)) ∧ IV p.2.1 (m.tdiv (Int.gcd n m))) ?_ ?_
    · rintro ⟨p, q, z⟩ ⟨h1, h2⟩
      dsimp only at h1 h2 ⊢
      refine (s_Sign h2).mono ?_
      rintro _ rfl
      refine joinR (fun p => IV p.1 (sgn m * n.tdiv (Int.gcd n m)) ∧ IV p.2.1 (sgn m * m.tdiv (Int.gcd n m))) ?_ ?_
      · rintro ⟨p, q, z⟩ ⟨h1, h2⟩
        exact fin (p, q) h1 h2
      · intro k' hk'
        rw [sq]
        refine brV_iff.2 ⟨fun h => ?_, fun h => ?_⟩
        · have h : sgn m < 0 := dec_t h
          have em : sgn m = -1 := by rcases sgn3 m with ⟨e, _⟩ | ⟨e, _⟩ | ⟨e, _⟩ <;> omega
          refine (s_Neg h1).mono fun p5 h5 => (s_Neg h2).mono fun p6 h6 => hk' _ ⟨?_, ?_⟩
          · rw [em, Int.neg_mul, Int.one_mul]; exact h5
          · rw [em, Int.neg_mul, Int.one_mul]; exact h6
        · have h : ¬ sgn m < 0 := dec_f h
          have em : sgn m = 1 := by rcases sgn3 m with ⟨e, _⟩ | ⟨e, _⟩ | ⟨e, h0⟩ <;> omega
          refine hk' _ ⟨?_, ?_⟩
          · rw [em, Int.one_mul]; exact h1
          · rw [em, Int.one_mul]; exact h2
    · intro k' hk'
      refine brV_iff.2 ⟨fun h => ?_, fun h => ?_⟩
      · dsimp only
        refine (s_Quo hlong hx hg (by omega) fx hk).mono ?_
        rintro ⟨q, r, _⟩ ⟨h1, _⟩
        refine (s_Quo hlong hy hg (by omega) fy hk).mono ?_
        rintro ⟨q2, r2, _⟩ ⟨h2, _⟩
        exact hk' _ ⟨h1, h2⟩
      · have e := hb h
        refine hk' _ ?_
        rw [e]
        simp only [Int.natCast_one, Int.tdiv_one]
        exact ⟨hx, hy⟩
  · intro k' hk'
    refine brV_iff.2 ⟨fun h => hk' _ ⟨true, rfl, fun h => by simp at h⟩, fun h => hk' _ ⟨_, rfl, fun h2 => ?_⟩⟩
    have h : g.1 = 1 := not_f h
    obtain ⟨v, d⟩ := g
    cases d with
    | some l => simp [notB] at h2
    | none => have e : v = ((Int.gcd n m : Nat) : Int) := hg.1; have h : v = 1 := h; have e2 : (1 : Int) = ((Int.gcd n m : Nat) : Int) := (Eq.symm h).trans e; omega

end Go.Proofs.Pf

namespace Go.Proofs.Pf
open Go Go.VM

/-- No part is too great. -/
def RFit (k : Nat) (q : Rat) : Prop := Fit k q.num ∧ Fit k (q.den : Int)

theorem RFit.mono {k j : Nat} {q : Rat} (h : RFit k q) (hj : k ≤ j) : RFit j q := ⟨h.1.mono hj, h.2.mono hj⟩

theorem rat_divInt (n : Int) (d : Nat) (h : d ≠ 0) : Rat.divInt n d = (n : Rat) / (d : Rat) := by
  rw [Rat.divInt_eq_div]
  rfl

theorem s_one : callV Pg c_exact_one [] tEI fun r => IV r 1 := w_exact_one ⟨((1 : Int), none), rfl, by decide, by decide⟩ ⟨rfl, by decide, by decide⟩

theorem s_Low {x : (Int × Option (List Int)) × (Int × Option (List Int))} {q : Rat} (hx : RV x q) : callV Pg c_exact_Rat_Low [⟨tER, x⟩] tEI fun r => IV r (q.den : Int) := by
  have hd : q.den ≠ 0 := q.den_nz
  refine w_exact_Rat_Low x (IV_ex _) ?_
  rcases hx.2 with h | ⟨h, h1⟩
  · refine (s_Sign h).mono ?_
    rintro _ rfl
    refine brV_iff.2 ⟨fun h2 => ?_, fun h2 => h⟩
    have h2 : sgn (q.den : Int) = 0 := dec_t h2
    have := sgn_z h2; omega
  · refine (s_Sign h).mono ?_
    rintro _ rfl
    refine brV_iff.2 ⟨fun h2 => ?_, fun h2 => ?_⟩
    · rw [h1]; exact s_one.mono fun r hr => hr
    · exact absurd (rfl : sgn 0 = 0) (dec_f h2)

theorem s_Top {x : (Int × Option (List Int)) × (Int × Option (List Int))} {q : Rat} (hx : RV x q) : callV Pg c_exact_Rat_Top [⟨tER, x⟩] tEI fun r => IV r q.num :=
  w_exact_Rat_Top x (IV_ex _) hx.1

theorem s_whole {x : (Int × Option (List Int)) × (Int × Option (List Int))} {q : Rat} (hx : RV x q) : callV Pg c_exact_Rat_whole [⟨tER, x⟩] .bool fun b => b = true → q.den = 1 := by
  have hd : q.den ≠ 0 := q.den_nz
  obtain ⟨t, v, d⟩ := x
  refine w_exact_Rat_whole _ ⟨false, fun h => by simp at h⟩ (joinR (fun b => b = true → q.den = 1) (fun _ h => h) fun k hk => ?_)
  refine brV_iff.2 ⟨fun h => hk _ fun h2 => ?_, fun _ => hk _ fun h => by simp at h⟩
  have hv1 : v ≤ 1 := dec_t h2
  cases d with
  | some l => simp at h
  | none =>
    rcases hx.2 with h | ⟨_, h1⟩
    · have e : v = (q.den : Int) := h.1
      have e2 : (q.den : Int) ≤ 1 := by rw [← e]; exact hv1
      omega
    · omega

theorem s_RSign {x : (Int × Option (List Int)) × (Int × Option (List Int))} {q : Rat} (hx : RV x q) : callV Pg c_exact_Rat_Sign [⟨tER, x⟩] tI fun r => r = sgn q.num :=
  w_exact_Rat_Sign x ⟨_, rfl⟩ ((s_Sign hx.1).mono fun _ h => h)

theorem s_RNeg {x : (Int × Option (List Int)) × (Int × Option (List Int))} {q : Rat} (hx : RV x q) : callV Pg c_exact_Rat_Neg [⟨tER, x⟩] tER fun r => RV r (-q) :=
  w_exact_Rat_Neg x (RV_ex _) ((s_Neg hx.1).mono fun _ h => ⟨h, hx.2⟩)

theorem s_Whole {n : Int} (h1 : -9223372036854775808 ≤ n) (h2 : n < 9223372036854775808) : callV Pg c_exact_Whole [⟨tI, n⟩] tER fun r => RV r (n : Rat) :=
  w_exact_Whole n (RV_ex _) ((s_Of h1 h2).mono fun _ h => ⟨h, .inr ⟨⟨rfl, by decide, by decide⟩, rfl⟩⟩)

end Go.Proofs.Pf

namespace Go.Proofs.Pf
open Go Go.VM

variable {x y : (Int × Option (List Int)) × (Int × Option (List Int))} {q r : Rat} {k : Nat}

theorem RV_whole {a : Int × Option (List Int)} {n : Int} (h : IV a n) : RV (a, ((0 : Int), none)) (Rat.divInt n 1) := by
  obtain ⟨h1, h2⟩ := divInt_one n
  refine ⟨by rw [h1]; exact h, .inr ⟨⟨rfl, by decide, by decide⟩, by rw [h2]; rfl⟩⟩

theorem s_RMul (hlong : LongS) (hx : RV x q) (hy : RV y r) (fx : RFit k q) (fy : RFit k r) (hk : k + k ≤ 1073741824) : callV Pg c_exact_Rat_Mul [⟨tER, x⟩, ⟨tER, y⟩] tER fun z => RV z (q * r) := by
  have hq := q.den_nz
  have hr := r.den_nz
  refine w_exact_Rat_Mul x y (RV_ex _) (joinR (fun p => ∃ b : Bool, p = (b, x, y, ((0 : Int), none), ((0 : Int), none)) ∧ (b = true → q.den = 1 ∧ r.den = 1)) ?_ ?_)
  · rintro _ ⟨b, rfl, hb⟩
    have hm := s_Mul hx.1 hy.1 fx.1 fy.1 (by omega) (by omega)
    refine brV_iff.2 ⟨fun h => ?_, fun _ => ?_⟩
    · obtain ⟨h1, h2⟩ := hb h
      refine hm.mono fun p hp => ?_
      rw [rat_mul, h1, h2]
      exact RV_whole hp
    · refine hm.mono fun p1 h1 => (s_Low hx).mono fun p2 h2 => (s_Low hy).mono fun p3 h3 => (s_Mul h2 h3 fx.2 fy.2 (by omega) (by omega)).mono fun p4 h4 => ?_
      refine (s_Ratio hlong h1 h4 ?_ (fx.1.mul fy.1 (Nat.le_refl _)) (fx.2.mul fy.2 (Nat.le_refl _)) hk).mono fun p5 h5 => ?_
      · exact Int.mul_ne_zero (by omega) (by omega)
      · rw [rat_mul]; exact h5
  · intro k' hk'
    refine (s_whole hx).mono fun b hb => brV_iff.2 ⟨fun h => ?_, fun _ => hk' _ ⟨false, rfl, fun h => by simp at h⟩⟩
    refine (s_whole hy).mono fun c hc => hk' _ ⟨c, rfl, fun h2 => ⟨hb h, hc h2⟩⟩

theorem s_RAdd (hlong : LongS) (hx : RV x q) (hy : RV y r) (fx : RFit k q) (fy : RFit k r) (hk : k + k + 1 ≤ 1073741824) : callV Pg c_exact_Rat_Add [⟨tER, x⟩, ⟨tER, y⟩] tER fun z => RV z (q + r) := by
  have hq := q.den_nz
  have hr := r.den_nz
  refine w_exact_Rat_Add x y (RV_ex _) (joinR (fun p => ∃ b : Bool, p = (b, x, y, ((0 : Int), none), ((0 : Int), none)) ∧ (b = true → q.den = 1 ∧ r.den = 1)) ?_ ?_)
  · rintro _ ⟨b, rfl, hb⟩
    refine brV_iff.2 ⟨fun h => ?_, fun _ => ?_⟩
    · obtain ⟨h1, h2⟩ := hb h
      refine (s_Add hx.1 hy.1 fx.1 fy.1 (by omega)).mono fun p hp => ?_
      rw [rat_add, h1, h2]
      have e : q.num * ((1 : Nat) : Int) + r.num * ((1 : Nat) : Int) = q.num + r.num := by omega
      rw [e]
      exact RV_whole hp
    · refine (s_Low hy).mono fun p1 h1 => (s_Mul hx.1 h1 fx.1 fy.2 (by omega) (by omega)).mono fun p2 h2 => ?_
      refine (s_Low hx).mono fun p3 h3 => (s_Mul hy.1 h3 fy.1 fx.2 (by omega) (by omega)).mono fun p4 h4 => ?_
      refine (s_Add h2 h4 (fx.1.mul fy.2 (Nat.le_refl _)) (fy.1.mul fx.2 (Nat.le_refl _)) (by omega)).mono fun p5 h5 => ?_
      refine (s_Low hx).mono fun p6 h6 => (s_Low hy).mono fun p7 h7 => (s_Mul h6 h7 fx.2 fy.2 (by omega) (by omega)).mono fun p8 h8 => ?_
      refine (s_Ratio hlong h5 h8 ?_ ((fx.1.mul fy.2 (Nat.le_refl _)).add (fy.1.mul fx.2 (Nat.le_refl _)) (Nat.lt_succ_self _)) ((fx.2.mul fy.2 (Nat.le_refl _)).mono (Nat.le_succ _)) hk).mono fun p9 h9 => ?_
      · exact Int.mul_ne_zero (by omega) (by omega)
      · rw [rat_add]; exact h9
  · intro k' hk'
    refine (s_whole hx).mono fun b hb => brV_iff.2 ⟨fun h => ?_, fun _ => hk' _ ⟨false, rfl, fun h => by simp at h⟩⟩
    refine (s_whole hy).mono fun c hc => hk' _ ⟨c, rfl, fun h2 => ⟨hb h, hc h2⟩⟩

theorem s_RSub (hlong : LongS) (hx : RV x q) (hy : RV y r) (fx : RFit k q) (fy : RFit k r) (hk : k + k + 1 ≤ 1073741824) : callV Pg c_exact_Rat_Sub [⟨tER, x⟩, ⟨tER, y⟩] tER fun z => RV z (q - r) := by
  refine w_exact_Rat_Sub x y (RV_ex _) ((s_RNeg hy).mono fun p h => ?_)
  rw [Rat.sub_eq_add_neg]
  exact (s_RAdd hlong hx h fx ⟨fy.1.neg, fy.2⟩ hk).mono fun z hz => hz

theorem s_RDiv (hlong : LongS) (hx : RV x q) (hy : RV y r) (fx : RFit k q) (fy : RFit k r) (hk : k + k ≤ 1073741824) (h0 : r ≠ 0) : callV Pg c_exact_Rat_Div [⟨tER, x⟩, ⟨tER, y⟩] tER fun z => RV z (q / r) := by
  have hq := q.den_nz
  refine w_exact_Rat_Div x y (RV_ex _) ((s_Low hy).mono fun p0 h1 => (s_Mul hx.1 h1 fx.1 fy.2 (by omega) (by omega)).mono fun p1 h2 => ?_)
  refine (s_Low hx).mono fun p2 h3 => (s_Mul h3 hy.1 fx.2 fy.1 (by omega) (by omega)).mono fun p3 h4 => ?_
  refine (s_Ratio hlong h2 h4 ?_ (fx.1.mul fy.2 (Nat.le_refl _)) (fx.2.mul fy.1 (Nat.le_refl _)) hk).mono fun p4 h5 => ?_
  · exact Int.mul_ne_zero (by omega) (fun e => h0 (Rat.num_eq_zero.1 e))
  · rw [rat_div]; exact h5

end Go.Proofs.Pf

namespace Go.Proofs.Pf
open Go Go.VM

def NumOk (a : Int × Int) : Prop := 1 ≤ a.2 ∧ a.2 ≤ 1152921504606846976 ∧ a.1 ≤ 1152921504606846976 ∧ -1152921504606846976 ≤ a.1 ∧ Int.gcd a.1 a.2 = 1

instance (a : Int × Int) : Decidable (NumOk a) := by unfold NumOk; infer_instance

def numQ (a : Int × Int) : Rat := Rat.divInt a.1 a.2

theorem NumOk.q {a : Int × Int} (h : NumOk a) : (numQ a).num = a.1 ∧ ((numQ a).den : Int) = a.2 := by
  obtain ⟨h1, h2, h3, h4, h5⟩ := h
  have e : sgn a.2 = 1 := if_pos (by omega)
  rw [numQ, ratio_num _ _ (by omega), ratio_den _ _ (by omega), e, h5]
  simp

/-- A number as a result. -/
def outQ (q : Rat) : (Int × Int) × Int × Unit := if q.num ≤ 1152921504606846976 ∧ -1152921504606846976 ≤ q.num ∧ (q.den : Int) ≤ 1152921504606846976 then ((q.num, (q.den : Int)), 0, ()) else ((0, 0), 3, ())

theorem s_Out {x : (Int × Option (List Int)) × (Int × Option (List Int))} {q : Rat} (hx : RV x q) : callV Pg c_num_Out [⟨tER, x⟩] (.tup (.pair tNum (.pair tI .unit))) fun r => r = outQ q := by
  refine w_num_Out x ⟨_, rfl⟩ ((s_Top hx).mono fun p0 h0 => (s_Int h0 (by decide) (by decide)).mono ?_)
  rintro _ rfl
  refine (s_Low hx).mono fun p2 h2 => (s_Int h2 (by decide) (by decide)).mono ?_
  rintro _ rfl
  have hd := q.den_nz
  have e1 : (smallI q.num 1152921504606846976).2.1 = decide (q.num ≤ 1152921504606846976 ∧ -1152921504606846976 ≤ q.num) := by unfold smallI; split <;> simp_all
  have e2 : (smallI (q.den : Int) 1152921504606846976).2.1 = decide ((q.den : Int) ≤ 1152921504606846976) := by
    unfold smallI; split
    · rename_i h; simp [h.1]
    · rename_i h; simp; omega
  have e3 : (q.num ≤ 1152921504606846976 ∧ -1152921504606846976 ≤ q.num) → (smallI q.num 1152921504606846976).1 = q.num := by intro h; rw [smallI, if_pos h]
  have e4 : ((q.den : Int) ≤ 1152921504606846976) → (smallI (q.den : Int) 1152921504606846976).1 = (q.den : Int) := by intro h; rw [smallI, if_pos ⟨h, by omega⟩]
  refine joinR (fun p => ∃ b : Bool, p = ((smallI q.num 1152921504606846976).1, (smallI (q.den : Int) 1152921504606846976).1, b, (0 : Int), (0 : Int)) ∧ (b = true ↔ ¬ (q.num ≤ 1152921504606846976 ∧ -1152921504606846976 ≤ q.num ∧ (q.den : Int) ≤ 1152921504606846976))) ?_ ?_
  · rintro _ ⟨b, rfl, hb⟩
    refine brV_iff.2 ⟨fun h => ?_, fun h => ?_⟩
    · rw [outQ, if_neg (hb.1 h)]
    · have h3 : q.num ≤ 1152921504606846976 ∧ -1152921504606846976 ≤ q.num ∧ (q.den : Int) ≤ 1152921504606846976 := by
        refine Classical.byContradiction fun hn => ?_
        have := hb.2 hn
        dsimp only at h
        rw [h] at this; simp at this
      rw [outQ, if_pos h3]
      dsimp only
      rw [e3 ⟨h3.1, h3.2.1⟩, e4 h3.2.2]
  · intro k hk
    rw [e1]
    refine brV_iff.2 ⟨fun h => hk _ ⟨true, rfl, ?_⟩, fun h => hk _ ⟨_, rfl, ?_⟩⟩
    · have h := not_t h
      simp only [true_iff]
      exact fun h2 => h ⟨h2.1, h2.2.1⟩
    · have h := not_f h
      rw [e2]
      simp only [notB, Bool.not_eq_true', decide_eq_false_iff_not]
      constructor
      · exact fun h1 h2 => h1 h2.2.2
      · exact fun h1 h2 => h1 ⟨h.1, h.2, h2⟩

theorem fit_i64 {n : Int} (h1 : -9223372036854775808 ≤ n) (h2 : n < 9223372036854775808) : Fit 2 n := by
  unfold Fit
  rw [show (4294967296 : Int) ^ 2 = 18446744073709551616 from rfl]
  omega

theorem s_Valid (hlong : LongS) (a : Int × Int) : callV Pg c_num_Valid [⟨tNum, a⟩] .bool fun r => r = decide (NumOk a) := by
  refine w_num_Valid a ⟨_, rfl⟩ (joinR (fun p => ∃ b : Bool, p = (b, a) ∧ (b = true → ¬ NumOk a) ∧ (b = false → 1 ≤ a.2 ∧ a.2 ≤ 1152921504606846976 ∧ a.1 ≤ 1152921504606846976 ∧ -1152921504606846976 ≤ a.1)) ?_ ?_)
  · rintro _ ⟨b, rfl, h1, h2⟩
    refine brV_iff.2 ⟨fun h => ?_, fun h => ?_⟩
    · exact (decide_eq_false (h1 h)).symm
    · obtain ⟨q1, q2, q3, q4⟩ := h2 h
      refine (s_Of (n := a.1) (by omega) (by omega)).mono fun p1 e1 => (s_Of (n := a.2) (by omega) (by omega)).mono fun p2 e2 => ?_
      refine (s_Gcd hlong e1 e2 (fit_i64 (by omega) (by omega)) (fit_i64 (by omega) (by omega)) (by omega)).mono fun p3 e3 => (s_Int e3 (by decide) (by decide)).mono ?_
      rintro _ rfl
      refine decide_eq_decide.2 ?_
      unfold smallI NumOk
      split
      · constructor
        · intro h; have h : ((Int.gcd a.1 a.2 : Nat) : Int) = 1 := h; exact ⟨q1, q2, q3, q4, by omega⟩
        · rintro ⟨_, _, _, _, h⟩; show ((Int.gcd a.1 a.2 : Nat) : Int) = 1; omega
      · rename_i hn
        constructor
        · intro h; simp at h
        · rintro ⟨_, _, _, _, h⟩; exact absurd ⟨by omega, by omega⟩ hn
  · intro k hk
    refine brV_iff.2 ⟨fun h => hk _ ⟨true, rfl, fun _ hN => ?_, fun h => by simp at h⟩, fun h => brV_iff.2 ⟨fun h2 => hk _ ⟨true, rfl, fun _ hN => ?_, fun h => by simp at h⟩, fun h2 => brV_iff.2 ⟨fun h3 => hk _ ⟨true, rfl, fun _ hN => ?_, fun h => by simp at h⟩, fun h3 => hk _ ⟨_, rfl, fun h4 hN => ?_, fun h4 => ?_⟩⟩⟩⟩
    · have h : a.2 < 1 := dec_t h
      have := hN.1; omega
    · have h2 : 1152921504606846976 < a.2 := dec_t h2
      have := hN.2.1; omega
    · have h3 : 1152921504606846976 < a.1 := dec_t h3
      have := hN.2.2.1; omega
    · have h4 : a.1 < -1152921504606846976 := dec_t h4
      have := hN.2.2.2.1; omega
    · have h : ¬ a.2 < 1 := dec_f h
      have h2 : ¬ 1152921504606846976 < a.2 := dec_f h2
      have h3 : ¬ 1152921504606846976 < a.1 := dec_f h3
      have h4 : ¬ a.1 < -1152921504606846976 := dec_f h4
      omega

theorem s_Rat (hlong : LongS) {a : Int × Int} (h : NumOk a) : callV Pg c_num_Rat [⟨tNum, a⟩] tER fun r => RV r (numQ a) := by
  obtain ⟨q1, q2, q3, q4, _⟩ := h
  refine w_num_Rat a (RV_ex _) ((s_Of (n := a.1) (by omega) (by omega)).mono fun p1 e1 => (s_Of (n := a.2) (by omega) (by omega)).mono fun p2 e2 => ?_)
  exact (s_Ratio hlong e1 e2 (by omega) (fit_i64 (by omega) (by omega)) (fit_i64 (by omega) (by omega)) (by omega)).mono fun p h => h

theorem NumOk.fit {a : Int × Int} (h : NumOk a) : RFit 2 (numQ a) := by
  obtain ⟨e1, e2⟩ := h.q
  obtain ⟨q1, q2, q3, q4, _⟩ := h
  exact ⟨by rw [e1]; exact fit_i64 (by omega) (by omega), by rw [e2]; exact fit_i64 (by omega) (by omega)⟩

/-- A result of two numbers. -/
def withQ (op : Rat → Rat → Rat) (a b : Int × Int) : (Int × Int) × Int × Unit := if NumOk a ∧ NumOk b then outQ (op (numQ a) (numQ b)) else ((0, 0), 1, ())

theorem s_with_37 (hlong : LongS) (a b : Int × Int) : callV Pg c_num_with [⟨tNum, a⟩, ⟨tNum, b⟩, ⟨(.cst (.fn 37)), ()⟩] (.tup (.pair tNum (.pair tI .unit))) fun r => r = withQ (fun q r => q * r) a b := by
  refine w_num_with_37 a b () ⟨_, rfl⟩ (joinR (fun p => ∃ c : Bool, p = (c, a, b, (0 : Int), (0 : Int)) ∧ (c = true ↔ ¬ (NumOk a ∧ NumOk b))) ?_ ?_)
  · rintro _ ⟨c, rfl, hc⟩
    refine brV_iff.2 ⟨fun h => ?_, fun h => ?_⟩
    · rw [withQ, if_neg (hc.1 h)]
    · have hN : NumOk a ∧ NumOk b := Classical.byContradiction fun hn => by
        have := hc.2 hn; dsimp only at h; rw [h] at this; simp at this
      refine (s_Rat hlong hN.1).mono fun p1 h1 => (s_Rat hlong hN.2).mono fun p2 h2 => ?_
      refine (s_RMul hlong h1 h2 hN.1.fit hN.2.fit (by omega)).mono fun p3 h3 => (s_Out h3).mono ?_
      rintro _ rfl
      rw [withQ, if_pos hN]
  · intro k hk
    refine (s_Valid hlong a).mono ?_
    rintro _ rfl
    refine brV_iff.2 ⟨fun h => hk _ ⟨true, rfl, ?_⟩, fun h => (s_Valid hlong b).mono ?_⟩
    · have h := not_t h
      simp only [true_iff]; exact fun h2 => h h2.1
    · rintro _ rfl
      have h := not_f h
      refine hk _ ⟨_, rfl, ?_⟩
      simp only [notB, Bool.not_eq_true', decide_eq_false_iff_not]
      exact ⟨fun h1 h2 => h1 h2.2, fun h1 h2 => h1 ⟨h, h2⟩⟩

theorem s_with_47 (hlong : LongS) (a b : Int × Int) : callV Pg c_num_with [⟨tNum, a⟩, ⟨tNum, b⟩, ⟨(.cst (.fn 47)), ()⟩] (.tup (.pair tNum (.pair tI .unit))) fun r => r = withQ (fun q r => q + r) a b := by
  refine w_num_with_47 a b () ⟨_, rfl⟩ (joinR (fun p => ∃ c : Bool, p = (c, a, b, (0 : Int), (0 : Int)) ∧ (c = true ↔ ¬ (NumOk a ∧ NumOk b))) ?_ ?_)
  · rintro _ ⟨c, rfl, hc⟩
    refine brV_iff.2 ⟨fun h => ?_, fun h => ?_⟩
    · rw [withQ, if_neg (hc.1 h)]
    · have hN : NumOk a ∧ NumOk b := Classical.byContradiction fun hn => by
        have := hc.2 hn; dsimp only at h; rw [h] at this; simp at this
      refine (s_Rat hlong hN.1).mono fun p1 h1 => (s_Rat hlong hN.2).mono fun p2 h2 => ?_
      refine (s_RAdd hlong h1 h2 hN.1.fit hN.2.fit (by omega)).mono fun p3 h3 => (s_Out h3).mono ?_
      rintro _ rfl
      rw [withQ, if_pos hN]
  · intro k hk
    refine (s_Valid hlong a).mono ?_
    rintro _ rfl
    refine brV_iff.2 ⟨fun h => hk _ ⟨true, rfl, ?_⟩, fun h => (s_Valid hlong b).mono ?_⟩
    · have h := not_t h
      simp only [true_iff]; exact fun h2 => h h2.1
    · rintro _ rfl
      have h := not_f h
      refine hk _ ⟨_, rfl, ?_⟩
      simp only [notB, Bool.not_eq_true', decide_eq_false_iff_not]
      exact ⟨fun h1 h2 => h1 h2.2, fun h1 h2 => h1 ⟨h, h2⟩⟩

theorem s_with_48 (hlong : LongS) (a b : Int × Int) : callV Pg c_num_with [⟨tNum, a⟩, ⟨tNum, b⟩, ⟨(.cst (.fn 48)), ()⟩] (.tup (.pair tNum (.pair tI .unit))) fun r => r = withQ (fun q r => q - r) a b := by
  refine w_num_with_48 a b () ⟨_, rfl⟩ (joinR (fun p => ∃ c : Bool, p = (c, a, b, (0 : Int), (0 : Int)) ∧ (c = true ↔ ¬ (NumOk a ∧ NumOk b))) ?_ ?_)
  · rintro _ ⟨c, rfl, hc⟩
    refine brV_iff.2 ⟨fun h => ?_, fun h => ?_⟩
    · rw [withQ, if_neg (hc.1 h)]
    · have hN : NumOk a ∧ NumOk b := Classical.byContradiction fun hn => by
        have := hc.2 hn; dsimp only at h; rw [h] at this; simp at this
      refine (s_Rat hlong hN.1).mono fun p1 h1 => (s_Rat hlong hN.2).mono fun p2 h2 => ?_
      refine (s_RSub hlong h1 h2 hN.1.fit hN.2.fit (by omega)).mono fun p3 h3 => (s_Out h3).mono ?_
      rintro _ rfl
      rw [withQ, if_pos hN]
  · intro k hk
    refine (s_Valid hlong a).mono ?_
    rintro _ rfl
    refine brV_iff.2 ⟨fun h => hk _ ⟨true, rfl, ?_⟩, fun h => (s_Valid hlong b).mono ?_⟩
    · have h := not_t h
      simp only [true_iff]; exact fun h2 => h h2.1
    · rintro _ rfl
      have h := not_f h
      refine hk _ ⟨_, rfl, ?_⟩
      simp only [notB, Bool.not_eq_true', decide_eq_false_iff_not]
      exact ⟨fun h1 h2 => h1 h2.2, fun h1 h2 => h1 ⟨h, h2⟩⟩

theorem s_NMul (hlong : LongS) (a b : Int × Int) : callV Pg c_num_Mul [⟨tNum, a⟩, ⟨tNum, b⟩] (.tup (.pair tNum (.pair tI .unit))) fun r => r = withQ (fun q r => q * r) a b :=
  w_num_Mul a b ⟨_, rfl⟩ ((s_with_37 hlong a b).mono fun _ h => h)
theorem s_NAdd (hlong : LongS) (a b : Int × Int) : callV Pg c_num_Add [⟨tNum, a⟩, ⟨tNum, b⟩] (.tup (.pair tNum (.pair tI .unit))) fun r => r = withQ (fun q r => q + r) a b :=
  w_num_Add a b ⟨_, rfl⟩ ((s_with_47 hlong a b).mono fun _ h => h)
theorem s_NSub (hlong : LongS) (a b : Int × Int) : callV Pg c_num_Sub [⟨tNum, a⟩, ⟨tNum, b⟩] (.tup (.pair tNum (.pair tI .unit))) fun r => r = withQ (fun q r => q - r) a b :=
  w_num_Sub a b ⟨_, rfl⟩ ((s_with_48 hlong a b).mono fun _ h => h)

end Go.Proofs.Pf

namespace Go.Proofs.Pf
open Go Go.VM

theorem pow_num (q : Rat) (n : Nat) : (q ^ n).num = q.num ^ n ∧ (q ^ n).den = q.den ^ n := by
  rw [Rat.pow_def]; exact ⟨rfl, rfl⟩

theorem natAbs_pow_mono {a : Int} (h : a ≠ 0) {k n : Nat} (hk : k ≤ n) : (a ^ k).natAbs ≤ (a ^ n).natAbs := by
  rw [Int.natAbs_pow, Int.natAbs_pow]
  exact Nat.pow_le_pow_right (by omega) hk

/-- Where a power is too great, so are the further ones. -/
theorem outQ_mono {q : Rat} (h0 : q.num ≠ 0) {k n : Nat} (hk : k ≤ n) (h : (outQ (q ^ k)).2.1 ≠ 0) : outQ (q ^ n) = ((0, 0), 3, ()) := by
  have h1 : ¬ ((q ^ k).num ≤ 1152921504606846976 ∧ -1152921504606846976 ≤ (q ^ k).num ∧ ((q ^ k).den : Int) ≤ 1152921504606846976) := by
    intro h2; rw [outQ, if_pos h2] at h; exact h rfl
  rw [outQ, if_neg]
  intro h2
  apply h1
  have e1 := natAbs_pow_mono h0 hk
  have e2 : q.den ^ k ≤ q.den ^ n := Nat.pow_le_pow_right (by have := q.den_nz; omega) hk
  rw [(pow_num q n).1, (pow_num q n).2] at h2
  rw [(pow_num q k).1, (pow_num q k).2]
  omega

end Go.Proofs.Pf

namespace Go.Proofs.Pf
open Go Go.VM

theorem numQ_ne {b : Int × Int} (h : NumOk b) (hb : b.1 ≠ 0) : numQ b ≠ 0 := by
  intro e
  have := h.q.1
  rw [e] at this
  exact hb this.symm

theorem s_with_49 (a b : Int × Int) (hb : b.1 ≠ 0) : callV Pg c_num_with [⟨tNum, a⟩, ⟨tNum, b⟩, ⟨(.cst (.fn 49)), ()⟩] (.tup (.pair tNum (.pair tI .unit))) fun r => r = withQ (fun q r => q / r) a b := by
  have hlong := longS
  refine w_num_with_49 a b () ⟨_, rfl⟩ (joinR (fun p => ∃ c : Bool, p = (c, a, b, (0 : Int), (0 : Int)) ∧ (c = true ↔ ¬ (NumOk a ∧ NumOk b))) ?_ ?_)
  · rintro _ ⟨c, rfl, hc⟩
    refine brV_iff.2 ⟨fun h => ?_, fun h => ?_⟩
    · rw [withQ, if_neg (hc.1 h)]
    · have hN : NumOk a ∧ NumOk b := Classical.byContradiction fun hn => by
        have := hc.2 hn; dsimp only at h; rw [h] at this; simp at this
      refine (s_Rat hlong hN.1).mono fun p1 h1 => (s_Rat hlong hN.2).mono fun p2 h2 => ?_
      refine (s_RDiv hlong h1 h2 hN.1.fit hN.2.fit (by omega) (numQ_ne hN.2 hb)).mono fun p3 h3 => (s_Out h3).mono ?_
      rintro _ rfl
      rw [withQ, if_pos hN]
  · intro k hk
    refine (s_Valid hlong a).mono ?_
    rintro _ rfl
    refine brV_iff.2 ⟨fun h => hk _ ⟨true, rfl, ?_⟩, fun h => (s_Valid hlong b).mono ?_⟩
    · have h := not_t h
      simp only [true_iff]; exact fun h2 => h h2.1
    · rintro _ rfl
      have h := not_f h
      refine hk _ ⟨_, rfl, ?_⟩
      simp only [notB, Bool.not_eq_true', decide_eq_false_iff_not]
      exact ⟨fun h1 h2 => h1 h2.2, fun h1 h2 => h1 ⟨h, h2⟩⟩

/-- What a quotient of two numbers is. -/
def divQ (a b : Int × Int) : (Int × Int) × Int × Unit := if NumOk a ∧ NumOk b then (if b.1 = 0 then ((0, 0), 5, ()) else outQ (numQ a / numQ b)) else ((0, 0), 1, ())

theorem s_NDiv (a b : Int × Int) : callV Pg c_num_Div [⟨tNum, a⟩, ⟨tNum, b⟩] (.tup (.pair tNum (.pair tI .unit))) fun r => r = divQ a b := by
  have hlong := longS
  refine w_num_Div a b ⟨_, rfl⟩ (joinR (fun p => ∃ c : Bool, p = (c, a, b, (0 : Int), (0 : Int)) ∧ (c = true ↔ ¬ (NumOk a ∧ NumOk b))) ?_ ?_)
  · rintro _ ⟨c, rfl, hc⟩
    refine brV_iff.2 ⟨fun h => ?_, fun h => ?_⟩
    · rw [divQ, if_neg (hc.1 h)]
    · have hN : NumOk a ∧ NumOk b := Classical.byContradiction fun hn => by
        have := hc.2 hn; dsimp only at h; rw [h] at this; simp at this
      rw [divQ, if_pos hN]
      refine brV_iff.2 ⟨fun h => ?_, fun h => ?_⟩
      · have h : b.1 = 0 := dec_t h
        rw [if_pos h]
      · have h : ¬ b.1 = 0 := dec_f h
        rw [if_neg h]
        refine (s_with_49 a b h).mono ?_
        rintro _ rfl
        rw [withQ, if_pos hN]
  · intro k hk
    refine (s_Valid hlong a).mono ?_
    rintro _ rfl
    refine brV_iff.2 ⟨fun h => hk _ ⟨true, rfl, ?_⟩, fun h => (s_Valid hlong b).mono ?_⟩
    · have h := not_t h
      simp only [true_iff]; exact fun h2 => h h2.1
    · rintro _ rfl
      have h := not_f h
      refine hk _ ⟨_, rfl, ?_⟩
      simp only [notB, Bool.not_eq_true', decide_eq_false_iff_not]
      exact ⟨fun h1 h2 => h1 h2.2, fun h1 h2 => h1 ⟨h, h2⟩⟩

/-- The quotient of two integers as a number. -/
def makeQ (n m : Int) : (Int × Int) × Int × Unit := if m = 0 then ((0, 0), 6, ()) else outQ (Rat.divInt n m)

theorem s_Make {n m : Int} (n1 : -9223372036854775808 ≤ n) (n2 : n < 9223372036854775808) (m1 : -9223372036854775808 ≤ m) (m2 : m < 9223372036854775808) :
    callV Pg c_num_Make [⟨tI, n⟩, ⟨tI, m⟩] (.tup (.pair tNum (.pair tI .unit))) fun r => r = makeQ n m := by
  refine w_num_Make n m ⟨_, rfl⟩ (brV_iff.2 ⟨fun h => ?_, fun h => ?_⟩)
  · have h : m = 0 := dec_t h
    rw [makeQ, if_pos h]
  · have h : ¬ m = 0 := dec_f h
    refine (s_Of n1 n2).mono fun p1 e1 => (s_Of m1 m2).mono fun p2 e2 => ?_
    refine (s_Ratio longS e1 e2 h (fit_i64 n1 n2) (fit_i64 m1 m2) (by omega)).mono fun p h3 => (s_Out h3).mono ?_
    rintro _ rfl
    rw [makeQ, if_neg h]

/-- A power as a number. -/
def powQ (a : Int × Int) (n : Int) : (Int × Int) × Int × Unit := if NumOk a then (if n < 0 ∨ 10000 < n then ((0, 0), 6, ()) else outQ (numQ a ^ n.toNat)) else ((0, 0), 1, ())

theorem outQ_fit {q : Rat} (h : (outQ q).2.1 = 0) : RFit 2 q := by
  unfold outQ at h
  split at h
  · rename_i h2
    have := q.den_nz
    exact ⟨fit_i64 (by omega) (by omega), fit_i64 (by omega) (by omega)⟩
  · simp at h

theorem zero_pow_fit (n : Nat) : RFit 2 ((0 : Rat) ^ n) := by
  have h := pow_num 0 n
  refine ⟨?_, ?_⟩
  · rw [h.1]
    cases n with
    | zero => exact fit_i64 (by decide) (by decide)
    | succ n => rw [Int.pow_succ]; simp; exact fit_i64 (by decide) (by decide)
  · rw [h.2]; simp; exact fit_i64 (by decide) (by decide)

theorem s_NPow (a : Int × Int) (n : Int) : callV Pg c_num_Pow [⟨tNum, a⟩, ⟨tI, n⟩] (.tup (.pair tNum (.pair tI .unit))) fun r => r = powQ a n := by
  have hlong := longS
  refine w_num_Pow a n ⟨_, rfl⟩ ((s_Valid hlong a).mono ?_)
  rintro _ rfl
  refine brV_iff.2 ⟨fun h => ?_, fun h => ?_⟩
  · have h := not_t h
    rw [powQ, if_neg h]
  have hN := not_f h
  refine joinR (fun p => p = (n, decide (n < 0 ∨ 10000 < n), a, (0 : Int), (0 : Int))) ?_ ?_
  · rintro _ rfl
    dsimp only
    refine brV_iff.2 ⟨fun h => ?_, fun h => ?_⟩
    · rw [powQ, if_pos hN, if_pos (dec_t h)]
    have h := dec_f h
    rw [powQ, if_pos hN, if_neg h]
    refine (s_Rat hlong hN).mono fun x hx => (s_Whole (n := 1) (by decide) (by decide)).mono fun y hy => ?_
    obtain ⟨m, rfl⟩ : ∃ m : Nat, n = m := ⟨n.toNat, by omega⟩
    rw [Int.toNat_natCast]
    refine loopE (fun p => ∃ (k : Nat) (o : _), p = ((m : Int), (k : Int), a, ((0 : Int), (0 : Int)), x, o) ∧ k ≤ m ∧ RV o (numQ a ^ k) ∧ RFit 2 (numQ a ^ k)) (fun p => ((m : Int) - p.2.1).toNat) ⟨0, y, rfl, by omega, ?_, ?_⟩ ?_
    · rw [Rat.pow_zero]; exact hy
    · rw [Rat.pow_zero]; exact ⟨fit_i64 (by decide) (by decide), fit_i64 (by decide) (by decide)⟩
    rintro _ ⟨k, o, rfl, hk, ho, fo⟩
    dsimp only
    refine brV_iff.2 ⟨fun h => ?_, fun h => ?_⟩
    · have h : (k : Int) < (m : Int) := dec_t h
      refine (s_RMul hlong ho hx fo hN.fit (by omega)).mono fun o' ho' => (s_Out ho').mono ?_
      rintro _ rfl
      have e : numQ a ^ k * numQ a = numQ a ^ (k + 1) := (Rat.pow_succ ..).symm
      rw [e] at ho' ⊢
      refine joinR (fun p => ∃ b : Bool, p = ((outQ (numQ a ^ (k + 1))).2.1, (m : Int), (k : Int), b, a, ((0 : Int), (0 : Int)), x, o') ∧ (b = true ↔ ((outQ (numQ a ^ (k + 1))).2.1 ≠ 0 ∧ a.1 ≠ 0))) ?_ ?_
      · rintro _ ⟨b, rfl, hb⟩
        dsimp only
        refine brV_iff.2 ⟨fun h2 => ?_, fun h2 => ?_⟩
        · obtain ⟨b1, b2⟩ := hb.1 h2
          have e0 : (numQ a).num ≠ 0 := by rw [hN.q.1]; exact b2
          rw [outQ_mono e0 (show k + 1 ≤ m by omega) b1]
          have : (outQ (numQ a ^ (k + 1))).2.1 = 3 := by
            unfold outQ at b1 ⊢; split at b1
            · simp at b1
            · rename_i hn; rw [if_neg hn]
          rw [this]
        · have e2 : IntKind.wrap IntKind.i64 ((k : Int) + 1) = ((k + 1 : Nat) : Int) := by rw [wi64 (by omega) (by omega)]; omega
          rw [e2]
          refine ⟨⟨k + 1, o', rfl, by omega, ho', ?_⟩, by omega⟩
          by_cases h3 : (outQ (numQ a ^ (k + 1))).2.1 = 0
          · exact outQ_fit h3
          · have h4 : a.1 = 0 := Classical.byContradiction fun hn => by
              have := hb.2 ⟨h3, hn⟩; rw [h2] at this; simp at this
            have : numQ a = 0 := by rw [← Rat.num_eq_zero, hN.q.1]; exact h4
            rw [this]; exact zero_pow_fit _
      · intro k' hk'
        refine brV_iff.2 ⟨fun h2 => hk' _ ⟨_, rfl, ?_⟩, fun h2 => hk' _ ⟨_, rfl, ?_⟩⟩
        · have h2 := not_t h2
          simp only [notB, Bool.not_eq_true', decide_eq_false_iff_not]
          exact ⟨fun h3 => ⟨h2, h3⟩, fun h3 => h3.2⟩
        · have h2 := not_f h2
          simp only [Bool.false_eq_true, false_iff]
          exact fun h3 => h3.1 h2
    · have h : ¬ (k : Int) < (m : Int) := dec_f h
      obtain rfl : k = m := by omega
      refine (s_Out ho).mono ?_
      rintro _ rfl
      rfl
  · intro k hk
    refine brV_iff.2 ⟨fun h => hk _ ?_, fun h => hk _ ?_⟩
    · have h : n < 0 := dec_t h
      rw [decide_eq_true (Or.inl h)]
    · have h : ¬ n < 0 := dec_f h
      have : decide (10000 < n) = decide (n < 0 ∨ 10000 < n) := decide_eq_decide.2 ⟨Or.inr, fun h2 => h2.resolve_left h⟩
      rw [this]

/-! The laws. -/

theorem rat_pow_add (q : Rat) (m n : Nat) : q ^ (m + n) = q ^ m * q ^ n := by
  induction n with
  | zero => rw [Nat.add_zero, Rat.pow_zero, Rat.mul_one]
  | succ n ih => rw [← Nat.add_assoc, Rat.pow_succ, ih, Rat.pow_succ, Rat.mul_assoc]

theorem outQ_ok {q : Rat} (h : (outQ q).2.1 = 0) : NumOk (outQ q).1 ∧ numQ (outQ q).1 = q := by
  unfold outQ at h ⊢
  split at h
  · rename_i h2
    rw [if_pos h2]
    have hd := q.den_nz
    refine ⟨⟨by dsimp only; omega, h2.2.2, h2.1, h2.2.1, ?_⟩, ?_⟩
    · have := q.reduced; unfold Nat.Coprime at this; exact this
    · exact Rat.num_divInt_den q
  · simp at h

theorem powQ_ok {a : Int × Int} {n : Int} (h : (powQ a n).2.1 = 0) : NumOk a ∧ 0 ≤ n ∧ n ≤ 10000 ∧ NumOk (powQ a n).1 ∧ numQ (powQ a n).1 = numQ a ^ n.toNat := by
  unfold powQ at h ⊢
  split at h
  · rename_i h1
    split at h
    · simp at h
    · rename_i h2
      rw [if_pos h1, if_neg h2]
      obtain ⟨q1, q2⟩ := outQ_ok h
      exact ⟨h1, by omega, by omega, q1, q2⟩
  · simp at h

theorem s_awake : callV Pg c_law01_awake [] .bool fun r => r = true := by
  refine w_law01_awake ⟨_, rfl⟩ ((s_NAdd longS _ _).mono ?_)
  rintro _ rfl
  refine (s_NPow _ _).mono ?_
  rintro _ rfl
  refine (s_NAdd longS _ _).mono ?_
  rintro _ rfl
  have e1 : withQ (fun q r => q + r) ((1 : Int), (3 : Int)) ((1 : Int), (6 : Int)) = ((1, 2), 0, ()) := by decide +kernel
  have e2 : powQ (-(2 : Int), (3 : Int)) (3 : Int) = ((-8, 27), 0, ()) := by decide +kernel
  have e3 : withQ (fun q r => q + r) ((1152921504606846976 : Int), (1 : Int)) ((1 : Int), (1 : Int)) = ((0, 0), 3, ()) := by decide +kernel
  rw [e1, e2, e3]
  exact joinE rfl

theorem s_NumPowers (a : Int × Int) (m n : Int) : callV Pg c_law01_NumPowers [⟨tNum, a⟩, ⟨tI, m⟩, ⟨tI, n⟩] .bool fun r => r = true := by
  refine w_law01_NumPowers a m n ⟨_, rfl⟩ ((s_NPow a m).mono ?_)
  rintro _ rfl
  refine (s_NPow a n).mono ?_
  rintro _ rfl
  refine joinR (fun p => ∃ b : Bool, p = (m, n, b, a, (powQ a m).1, (powQ a n).1) ∧ (b = false → (powQ a m).2.1 = 0 ∧ (powQ a n).2.1 = 0 ∧ m + n ≤ 10000)) ?_ ?_
  · rintro _ ⟨b, rfl, hb⟩
    dsimp only
    refine brV_iff.2 ⟨fun _ => s_awake.mono fun _ h => h, fun h => ?_⟩
    obtain ⟨h1, h2, h3⟩ := hb h
    obtain ⟨a1, a2, a3, a4, a5⟩ := powQ_ok h1
    obtain ⟨b1, b2, b3, b4, b5⟩ := powQ_ok h2
    rw [wi64 (by omega) (by omega)]
    refine (s_NPow a (m + n)).mono ?_
    rintro _ rfl
    refine (s_NMul longS _ _).mono ?_
    rintro _ rfl
    have e : powQ a (m + n) = withQ (fun q r => q * r) (powQ a m).1 (powQ a n).1 := by
      rw [withQ, if_pos ⟨a4, b4⟩, a5, b5]
      have : powQ a (m + n) = outQ (numQ a ^ (m + n).toNat) := by unfold powQ; rw [if_pos a1, if_neg (by omega)]
      rw [this, Int.toNat_add a2 b2]
      congr 1
      exact rat_pow_add _ _ _
    rw [e]
    generalize withQ (fun q r => q * r) (powQ a m).1 (powQ a n).1 = z
    refine joinE ?_
    have e1 : ∀ x : Int, decide (x = x) = true := fun x => decide_eq_true rfl
    rw [e1, e1, e1]
    exact s_awake.mono fun _ h => h
  · intro k hk
    refine brV_iff.2 ⟨fun h => hk _ ⟨true, rfl, fun h => by simp at h⟩, fun h => brV_iff.2 ⟨fun h2 => hk _ ⟨true, rfl, fun h => by simp at h⟩, fun h2 => hk _ ⟨_, rfl, fun h3 => ?_⟩⟩⟩
    have h := not_f h
    have h2 := not_f h2
    have h3 := dec_f h3
    obtain ⟨_, a2, a3, _⟩ := powQ_ok h
    obtain ⟨_, b2, b3, _⟩ := powQ_ok h2
    rw [wi64 (by omega) (by omega)] at h3
    exact ⟨h, h2, by omega⟩

end Go.Proofs.Pf

namespace Go.Proofs.Pf
open Go Go.VM

theorem eqNum (x y : Int × Int) : andB (decide (x.1 = y.1)) (andB (decide (x.2 = y.2)) true) = decide (x = y) := by
  obtain ⟨a, b⟩ := x
  obtain ⟨c, d⟩ := y
  by_cases h1 : a = c <;> by_cases h2 : b = d <;> simp [andB, h1, h2]

theorem NumOk.ext {x y : Int × Int} (hx : NumOk x) (hy : NumOk y) (h : numQ x = numQ y) : x = y := by
  have e1 := hx.q
  have e2 := hy.q
  rw [h] at e1
  exact Prod.ext (e1.1.symm.trans e2.1) (e1.2.symm.trans e2.2)

theorem outQ_num {a : Int × Int} (h : NumOk a) : outQ (numQ a) = (a, 0, ()) := by
  obtain ⟨e1, e2⟩ := h.q
  obtain ⟨q1, q2, q3, q4, _⟩ := h
  rw [outQ, if_pos (by rw [e1, e2]; exact ⟨q3, q4, q2⟩), e1, e2]

theorem withQ_ok {op : Rat → Rat → Rat} {a b : Int × Int} (h : (withQ op a b).2.1 = 0) : NumOk a ∧ NumOk b ∧ NumOk (withQ op a b).1 ∧ numQ (withQ op a b).1 = op (numQ a) (numQ b) := by
  unfold withQ at h ⊢
  split at h
  · rename_i hN
    rw [if_pos hN]
    obtain ⟨q1, q2⟩ := outQ_ok h
    exact ⟨hN.1, hN.2, q1, q2⟩
  · simp at h

theorem withQ_comm {op : Rat → Rat → Rat} (hc : ∀ q r, op q r = op r q) (a b : Int × Int) : withQ op a b = withQ op b a := by
  unfold withQ
  by_cases h : NumOk a ∧ NumOk b
  · rw [if_pos h, if_pos h.symm, hc]
  · rw [if_neg h, if_neg (fun h2 => h h2.symm)]

theorem divQ_ok {a b : Int × Int} (h : (divQ a b).2.1 = 0) : NumOk a ∧ NumOk b ∧ b.1 ≠ 0 ∧ NumOk (divQ a b).1 ∧ numQ (divQ a b).1 = numQ a / numQ b := by
  unfold divQ at h ⊢
  split at h
  · rename_i hN
    split at h
    · simp at h
    · rename_i hb
      rw [if_pos hN, if_neg hb]
      obtain ⟨q1, q2⟩ := outQ_ok h
      exact ⟨hN.1, hN.2, hb, q1, q2⟩
  · simp at h

theorem rat_mul_div {q r : Rat} (h : r ≠ 0) : q * r / r = q := by
  rw [Rat.div_def, Rat.mul_assoc, Rat.mul_inv_cancel r h, Rat.mul_one]

theorem rat_add_sub (q r : Rat) : q + r - r = q := by
  rw [Rat.sub_eq_add_neg, Rat.add_assoc, Rat.add_neg_cancel, Rat.add_zero]

theorem s_NumField (a b c : Int × Int) : callV Pg c_law01_NumField [⟨tNum, a⟩, ⟨tNum, b⟩, ⟨tNum, c⟩] .bool fun r => r = true := by
  refine w_law01_NumField a b c ⟨_, rfl⟩ ((s_NAdd longS a b).mono ?_)
  rintro _ rfl
  refine (s_NAdd longS b a).mono ?_
  rintro _ rfl
  refine (s_NMul longS a b).mono ?_
  rintro _ rfl
  refine (s_NMul longS b a).mono ?_
  rintro _ rfl
  have c1 := withQ_comm (op := fun q r => q + r) Rat.add_comm b a
  have c2 := withQ_comm (op := fun q r => q * r) Rat.mul_comm b a
  rw [c1, c2]
  clear c1 c2
  obtain ⟨p, hp⟩ : ∃ p, p = withQ (fun q r => q + r) a b := ⟨_, rfl⟩
  obtain ⟨m, hm⟩ : ∃ m, m = withQ (fun q r => q * r) a b := ⟨_, rfl⟩
  rw [← hp, ← hm]
  simp only [eqNum]
  refine joinR (fun x => x = (p.2.1, m.2.1, false, a, b, c, p.1, m.1)) ?_ ?_
  · rintro _ rfl
    refine joinR (fun x => x = (m.2.1, a, b, c, m.1)) ?_ ?_
    · -- behind the sums
      rintro _ rfl
      refine brV_iff.2 ⟨fun _ => s_awake.mono fun _ h => h, fun h => ?_⟩
      have hm0 : m.2.1 = 0 := not_f h
      rw [hm] at hm0
      obtain ⟨na, nb, nm, qm⟩ := withQ_ok hm0
      rw [← hm] at nm qm
      refine (s_NDiv m.1 b).mono ?_
      rintro _ rfl
      refine joinR (fun x => x = (false, a, b, c, m.1)) ?_ ?_
      · rintro _ rfl
        refine (s_NMul longS m.1 c).mono ?_
        rintro _ rfl
        refine (s_NMul longS b c).mono ?_
        rintro _ rfl
        refine (s_NMul longS a _).mono ?_
        rintro _ rfl
        refine joinE ?_
        refine brV_iff.2 ⟨fun _ => s_awake.mono fun _ h => h, fun h1 => brV_iff.2 ⟨fun _ => s_awake.mono fun _ h => h, fun h2 => brV_iff.2 ⟨fun _ => s_awake.mono fun _ h => h, fun h3 => brV_iff.2 ⟨fun _ => s_awake.mono fun _ h => h, fun h4 => ?_⟩⟩⟩⟩
        exfalso
        obtain ⟨_, _, n1, q1⟩ := withQ_ok (not_f h1)
        obtain ⟨_, _, n2, q2⟩ := withQ_ok (not_f h2)
        obtain ⟨_, _, n3, q3⟩ := withQ_ok (not_f h3)
        refine dec_f h4 (n1.ext n3 ?_)
        rw [q1, q3, q2, qm, Rat.mul_assoc]
      · intro k hk
        refine brV_iff.2 ⟨fun h1 => hk _ ?_, fun h1 => hk _ rfl⟩
        obtain ⟨_, _, hb0, n1, q1⟩ := divQ_ok (dec_t h1)
        have e : (divQ m.1 b).1 = a := by
          refine n1.ext na ?_
          rw [q1, qm, rat_mul_div (numQ_ne nb hb0)]
        rw [e, decide_eq_true rfl]; rfl
    · intro k5 hk5
      refine brV_iff.2 ⟨fun h => ?_, fun h => hk5 _ rfl⟩
      have hp0 : p.2.1 = 0 := dec_t h
      rw [hp] at hp0
      obtain ⟨na, nb, np, qp⟩ := withQ_ok hp0
      rw [← hp] at np qp
      refine (s_NSub longS p.1 b).mono ?_
      rintro _ rfl
      refine joinR (fun x => x = (m.2.1, false, a, b, c, p.1, m.1)) ?_ ?_
      · rintro _ rfl
        refine (s_NAdd longS p.1 c).mono ?_
        rintro _ rfl
        refine (s_NAdd longS b c).mono ?_
        rintro _ rfl
        refine (s_NAdd longS a _).mono ?_
        rintro _ rfl
        refine joinR (fun x => ∃ u v w, x = (m.2.1, false, a, b, c, p.1, m.1, u, v, w)) ?_ ?_
        · rintro _ ⟨u, v, w, rfl⟩
          refine (s_NMul longS p.1 c).mono ?_
          rintro _ rfl
          refine (s_NMul longS a c).mono ?_
          rintro _ rfl
          refine (s_NMul longS b c).mono ?_
          rintro _ rfl
          refine (s_NAdd longS _ _).mono ?_
          rintro _ rfl
          refine joinR (fun x => x = (m.2.1, false, a, b, c, m.1)) ?_ ?_
          · rintro _ rfl
            exact hk5 _ rfl
          · intro k hk
            refine brV_iff.2 ⟨fun h1 => brV_iff.2 ⟨fun h2 => brV_iff.2 ⟨fun h3 => brV_iff.2 ⟨fun h4 => hk _ ?_, fun _ => hk _ rfl⟩, fun _ => hk _ rfl⟩, fun _ => hk _ rfl⟩, fun _ => hk _ rfl⟩
            obtain ⟨_, _, n1, q1⟩ := withQ_ok (dec_t h1)
            obtain ⟨_, _, n2, q2⟩ := withQ_ok (dec_t h2)
            obtain ⟨_, _, n3, q3⟩ := withQ_ok (dec_t h3)
            obtain ⟨_, _, n4, q4⟩ := withQ_ok (dec_t h4)
            rw [decide_eq_true (n1.ext n4 (by rw [q1, q4, q2, q3, qp, Rat.add_mul]))]; rfl
        · intro k hk
          refine brV_iff.2 ⟨fun h1 => brV_iff.2 ⟨fun h2 => brV_iff.2 ⟨fun h3 => hk _ ⟨(withQ (fun q r => q + r) p.1 c).1, (withQ (fun q r => q + r) b c).1, (withQ (fun q r => q + r) a (withQ (fun q r => q + r) b c).1).1, ?_⟩, fun _ => hk _ ⟨_, _, _, rfl⟩⟩, fun _ => hk _ ⟨_, _, _, rfl⟩⟩, fun _ => hk _ ⟨_, _, _, rfl⟩⟩
          obtain ⟨_, _, n1, q1⟩ := withQ_ok (dec_t h1)
          obtain ⟨_, _, n2, q2⟩ := withQ_ok (dec_t h2)
          obtain ⟨_, _, n3, q3⟩ := withQ_ok (dec_t h3)
          rw [decide_eq_true (n1.ext n3 (by rw [q1, q3, q2, qp, Rat.add_assoc]))]; rfl
      · intro k hk
        refine brV_iff.2 ⟨fun h1 => hk _ ?_, fun _ => hk _ rfl⟩
        obtain ⟨_, _, n1, q1⟩ := withQ_ok (dec_t h1)
        rw [decide_eq_true (n1.ext na (by rw [q1, qp, rat_add_sub]))]; rfl
  · intro k hk
    simp only [decide_true, notB, andB, Bool.and_self, Bool.not_true, brV]
    exact hk _ rfl

end Go.Proofs.Pf

