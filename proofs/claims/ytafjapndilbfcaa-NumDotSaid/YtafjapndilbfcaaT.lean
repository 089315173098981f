/- What each function of the reference gives. -/
import Derived.Test.YtafjapndilbfcaaC
import Derived.Test.YtafjapndilbfcaaS1
import Derived.Test.YtafjapndilbfcaaW5
import Derived.Test.YtafjapndilbfcaaS2
import Derived.Test.YtafjapndilbfcaaW6
import Derived.Test.YtafjapndilbfcaaW7
set_option linter.unusedVariables false
set_option linter.unusedSimpArgs false
namespace Go.Proofs.Pf.B
open Go Go.VM

theorem nv_cmp_top {a b : List Int} (ha : Dig a) (hb : Dig b) {k : Nat} (hl : a.length = b.length) (hk : k < a.length) (heq : nv (a.drop (k + 1)) = nv (b.drop (k + 1))) (hlt : a.getD k 0 < b.getD k 0) : nv a < nv b := by
  rw [nv_split a k (by omega), nv_split b k (by omega), nv_drop a k hk, nv_drop b k (by omega), heq]
  have h1 := nv_lt (ha.take k)
  have h2 := nv_nonneg (hb.take k)
  rw [List.length_take, Nat.min_eq_left (by omega)] at h1
  have hp := pow_posB k
  have : 1073741824 ^ k * (a.getD k 0 + 1073741824 * nv (b.drop (k + 1)) + 1) ≤ (1073741824 : Int) ^ k * (b.getD k 0 + 1073741824 * nv (b.drop (k + 1))) := Int.mul_le_mul_of_nonneg_left (by omega) (by omega)
  rw [Int.mul_add _ _ 1] at this
  omega

theorem nv_lt_len {a b : List Int} (ha : Dig a) (hb : Dig b) (tb : Trm b) (h : a.length < b.length) : nv a < nv b := by
  have h1 := nv_lt ha
  have hne : b ≠ [] := by rintro rfl; simp at h
  have h2 := tb.ge hb hne
  have h3 := pow_monoB (show a.length ≤ b.length - 1 by omega)
  omega

theorem r_compare {a b : Option (List Int)} (ha : Dig (a.getD [])) (hb : Dig (b.getD [])) (ta : Trm (a.getD [])) (tb : Trm (b.getD [])) (la : (a.getD []).length ≤ 1099511627776) :
    callV Pg c_ref01_compare [⟨tL, a⟩, ⟨tL, b⟩] tI fun r => r = cmpI (nv (a.getD [])) (nv (b.getD [])) := by
  refine w_ref01_compare a b ⟨_, rfl⟩ (brV_iff.2 ⟨fun h => brV_iff.2 ⟨fun h2 => ?_, fun h2 => ?_⟩, fun h => ?_⟩)
  · have h2 := dec_t h2
    simp only [szSl] at h2
    have := nv_lt_len ha hb tb (by omega)
    rw [cmpI, if_pos this]
  · have h2 := dec_f h2
    have h := not_t h
    simp only [szSl] at h h2
    have := nv_lt_len hb ha ta (by omega)
    rw [cmpI, if_neg (by omega), if_pos this]
  · have h := not_f h
    simp only [szSl] at h
    refine loopE (fun p => p.1 = a ∧ p.2.1 = b ∧ ∃ k : Nat, p.2.2 = (k : Int) - 1 ∧ k ≤ (a.getD []).length ∧ nv ((a.getD []).drop k) = nv ((b.getD []).drop k)) (fun p => (p.2.2 + 1).toNat) ⟨rfl, rfl, (a.getD []).length, ?_, Nat.le_refl _, ?_⟩ ?_
    · simp only [szSl]; exact wi64 (by omega) (by omega)
    · rw [List.drop_length, show (a.getD []).length = (b.getD []).length by omega, List.drop_length]
    · rintro ⟨A, B, i⟩ ⟨e1, e2, k, e3, h1, h2⟩
      simp only at e1 e2 e3; subst e1 e2 e3
      refine brV_iff.2 ⟨fun hc => ?_, fun hc => ?_⟩
      · have hc := dec_t hc
        simp only at hc
        obtain ⟨k, rfl⟩ : ∃ j, k = j + 1 := ⟨k - 1, by omega⟩
        have ek : (((k + 1 : Nat) : Int) - 1).toNat = k := by omega
        have i1 : inS A (((k + 1 : Nat) : Int) - 1) := ⟨by omega, by omega⟩
        have i2 : inS B (((k + 1 : Nat) : Int) - 1) := ⟨by omega, by omega⟩
        refine ⟨i1, i2, brV_iff.2 ⟨fun hd => ?_, fun hd => ⟨i1, i2, brV_iff.2 ⟨fun hd2 => ?_, fun hd2 => ?_⟩⟩⟩⟩
        · have hd := dec_t hd
          simp only [eltS, ek] at hd
          have := nv_cmp_top ha hb (by omega) (by omega) h2 hd
          rw [cmpI, if_pos this]
        · have hd2 := dec_t hd2
          simp only [eltS, ek] at hd2
          have := nv_cmp_top hb ha (by omega) (by omega) h2.symm hd2
          rw [cmpI, if_neg (by omega), if_pos this]
        · have hd := dec_f hd
          have hd2 := dec_f hd2
          simp only [eltS, ek] at hd hd2
          have hd3 : (A.getD []).getD k 0 = (B.getD []).getD k 0 := by omega
          refine ⟨⟨rfl, rfl, k, ?_, by omega, ?_⟩, ?_⟩
          · show IntKind.wrap IntKind.i64 (((k + 1 : Nat) : Int) - 1 - 1) = (k : Int) - 1; rw [wi64 (by omega) (by omega)]; omega
          · rw [nv_drop (A.getD []) k (by omega), nv_drop (B.getD []) k (by omega), hd3, h2]
          · show (IntKind.wrap IntKind.i64 (((k + 1 : Nat) : Int) - 1 - 1) + 1).toNat < (((k + 1 : Nat) : Int) - 1 + 1).toNat; rw [wi64 (by omega) (by omega)]; omega
      · have hc := dec_f hc
        simp only at hc
        have : k = 0 := by omega
        subst this
        simp only [List.drop_zero] at h2
        rw [cmpI, if_neg (by omega), if_neg (by omega)]

theorem r_trim {a : Option (List Int)} (ha : (a.getD []).length < 4611686018427387904) :
    callV Pg c_ref01_trim [⟨tL, a⟩] tL fun r => r = a.map trim := by
  refine w_ref01_trim a ⟨_, rfl⟩ (loopE (fun p => p.map trim = a.map trim ∧ (p.getD []).length ≤ (a.getD []).length) (fun p => (p.getD []).length) ⟨rfl, Nat.le_refl _⟩ ?_)
  rintro p ⟨h1, h2⟩
  refine joinR (fun q => q.1 = p ∧ (q.2 = true → ∃ l', p = some (l' ++ [0])) ∧ (q.2 = false → p = a.map trim)) ?_ ?_
  · rintro ⟨q, c⟩ ⟨e, hc1, hc2⟩
    simp only at e; subst e
    refine brV_iff.2 ⟨fun h => ?_, fun h => hc2 h⟩
    obtain ⟨l', rfl⟩ := hc1 h
    simp only [szSl, Option.getD_some, List.length_append, List.length_cons, List.length_nil] at h2 ⊢
    rw [wi64 (by omega) (by omega)]
    have e : (((l'.length + (0 + 1) : Nat) : Int) - 1).toNat = l'.length := by omega
    refine ⟨⟨by omega, by omega, by simp; omega⟩, ?_⟩
    simp only [slcS, Option.map_some, e]
    have e2 : ((l' ++ [0]).take l'.length).drop (0 : Int).toNat = l' := by simp
    rw [e2]
    refine ⟨⟨?_, by simp only [Option.getD_some]; omega⟩, by simp⟩
    rw [← h1]; simp [trim_snoc_zero]
  · intro k hk
    refine brV_iff.2 ⟨fun hb => ?_, fun hb => hk _ ⟨rfl, fun h => by simp at h, fun _ => ?_⟩⟩
    · have hb := of_decide_eq_true hb
      simp only [szSl] at hb ⊢
      rw [wi64 (by omega) (by omega)]
      cases p with
      | none => simp at hb
      | some l =>
        simp only [Option.getD_some] at *
        rcases List.eq_nil_or_concat l with rfl | ⟨l', x, rfl⟩
        · simp at hb
        · simp only [List.concat_eq_append] at *
          have e : (((l' ++ [x]).length : Int) - 1).toNat = l'.length := by simp
          have ex : eltS (0 : Int) (some (l' ++ [x])) (((l' ++ [x]).length : Int) - 1) = x := by simp only [eltS, Option.getD_some, e]; simp [List.getD]
          refine ⟨⟨by omega, by simp only [Option.getD_some]; omega⟩, hk _ ⟨rfl, fun h => ?_, fun h => ?_⟩⟩
          · rw [ex] at h
            have h : x = 0 := of_decide_eq_true h
            exact ⟨l', by rw [h]⟩
          · rw [ex] at h
            have h : x ≠ 0 := of_decide_eq_false h
            rw [← h1]; simp [trim_snoc _ _ h]
    · have hb := of_decide_eq_false hb
      cases p with
      | none => simpa using h1
      | some l =>
        simp only [szSl, Option.getD_some] at hb
        have : l = [] := by apply List.eq_nil_of_length_eq_zero; omega
        subst this
        rw [← h1]; rfl

/-- What an integer of the reference stands for. -/
def RIV (x : Int × Bool × Option (List Int)) (n : Int) : Prop :=
  (x.2.2.getD [] = [] ∧ x.1 = n ∧ -2305843009213693952 < n ∧ n < 2305843009213693952) ∨
  (x.2.2.getD [] ≠ [] ∧ Dig (x.2.2.getD []) ∧ Trm (x.2.2.getD []) ∧ 2305843009213693952 ≤ nv (x.2.2.getD []) ∧ x.1 = 0 ∧ n = if x.2.1 = true then -nv (x.2.2.getD []) else nv (x.2.2.getD []))

theorem RIV.small {v n : Int} {b : Bool} (h : v = n) (h1 : -2305843009213693952 < n) (h2 : n < 2305843009213693952) : RIV (v, b, none) n := .inl ⟨rfl, h, h1, h2⟩

theorem nv_ex : ∀ (k : Nat) (a : Nat), a < k → ∃ l, Dig l ∧ Trm l ∧ nv l = (a : Int)
  | 0, a, h => by omega
  | k + 1, a, h => by
    by_cases h0 : a = 0
    · exact ⟨[], Dig.nil, fun d hd => by simp at hd, by rw [h0]; rfl⟩
    · by_cases h1 : a < 1073741824
      · exact ⟨[(a : Int)], Dig.cons (by omega) (by omega) Dig.nil, fun d hd => by simp at hd; omega, by simp [nv]⟩
      · obtain ⟨l, q1, q2, q3⟩ := nv_ex k (a / 1073741824) (by omega)
        refine ⟨((a % 1073741824 : Nat) : Int) :: l, Dig.cons (by omega) (by omega) q1, ?_, by simp only [nv, q3]; omega⟩
        intro d hd
        rcases List.eq_nil_or_concat l with rfl | ⟨l', x, rfl⟩
        · simp only [nv] at q3; omega
        · refine q2 d ?_
          simp only [List.concat_eq_append] at hd ⊢
          rw [← List.cons_append, List.getLast?_concat] at hd
          rw [List.getLast?_concat]; exact hd

theorem RIV_ex (n : Int) : ∃ r, RIV r n := by
  by_cases h : -2305843009213693952 < n ∧ n < 2305843009213693952
  · exact ⟨(n, false, none), .inl ⟨rfl, rfl, h.1, h.2⟩⟩
  · obtain ⟨l, q1, q2, q3⟩ := nv_ex (n.natAbs + 1) n.natAbs (by omega)
    refine ⟨(0, decide (n < 0), some l), .inr ⟨?_, q1, q2, ?_, rfl, ?_⟩⟩
    · rintro rfl; simp only [Option.getD_some, nv] at q3; omega
    · simp only [Option.getD_some, q3]; omega
    · simp only [Option.getD_some, q3, decide_eq_true_eq]; split <;> omega

theorem szSl_pos {l : Option (List Int)} : (0 < szSl l) ↔ l.getD [] ≠ [] := by
  simp only [szSl]
  constructor
  · intro h e; rw [e] at h; simp at h
  · intro h; have := List.length_pos_iff.2 h; omega

theorem r_Sign {x : Int × Bool × Option (List Int)} {n : Int} (h : RIV x n) : callV Pg c_ref01_Int_Sign [⟨tRI, x⟩] tI fun r => r = sgn n := by
  refine w_ref01_Int_Sign x ⟨_, rfl⟩ (joinR (fun p => p = (decide (n < 0), x)) ?_ ?_)
  · rintro _ rfl
    refine brV_iff.2 ⟨fun h1 => ?_, fun h1 => joinR (fun c => c = decide (0 < n)) ?_ ?_⟩
    · have h1 : n < 0 := dec_t h1
      rw [sgn, if_neg (by omega), if_pos h1]
    · rintro _ rfl
      have h1 : ¬ n < 0 := dec_f h1
      refine brV_iff.2 ⟨fun h2 => ?_, fun h2 => ?_⟩
      · have h2 := dec_t h2
        rw [sgn, if_pos h2]
      · have h2 := dec_f h2
        rw [sgn, if_neg h2, if_neg h1]
    · intro k hk
      have h1 : ¬ n < 0 := dec_f h1
      refine brV_iff.2 ⟨fun h2 => hk _ ?_, fun h2 => hk _ ?_⟩
      · have h2 := szSl_pos.1 (dec_t h2)
        rcases h with ⟨q, _⟩ | ⟨q1, q2, q3, q4, q5, q6⟩
        · exact absurd q h2
        · symm; apply decide_eq_true; split at q6 <;> omega
      · have h2 : ¬ 0 < szSl x.2.2 := dec_f h2
        rw [szSl_pos] at h2
        rcases h with ⟨q, q2, _⟩ | ⟨q1, _⟩
        · exact decide_eq_decide.2 (by rw [q2])
        · exact absurd q1 h2
  · intro k hk
    refine brV_iff.2 ⟨fun h2 => ?_, fun h2 => hk _ ?_⟩
    · have h2 := szSl_pos.1 (dec_t h2)
      rcases h with ⟨q, _⟩ | ⟨q1, q2, q3, q4, q5, q6⟩
      · exact absurd q h2
      · refine brV_iff.2 ⟨fun h3 => hk _ ?_, fun h3 => hk _ ?_⟩
        · rw [if_pos h3] at q6
          have : decide (n < 0) = true := decide_eq_true (by omega)
          rw [this]
        · rw [if_neg (by rw [h3]; simp)] at q6
          have e1 : decide (n < 0) = false := decide_eq_false (by omega)
          have e2 : decide (x.1 < 0) = false := decide_eq_false (by omega)
          rw [e1, e2]
    · have h2 : ¬ 0 < szSl x.2.2 := dec_f h2
      rw [szSl_pos] at h2
      rcases h with ⟨q, q2, _⟩ | ⟨q1, _⟩
      · show (decide (x.1 < 0), x) = _
        rw [q2]
      · exact absurd q1 h2

theorem r_Minus {x : Int × Bool × Option (List Int)} {n : Int} (h : RIV x n) : callV Pg c_ref01_Int_Minus [⟨tRI, x⟩] tRI fun r => RIV r (-n) := by
  refine w_ref01_Int_Minus x (RIV_ex _) (joinR (fun p => RIV p (-n)) (fun p hp => hp) ?_)
  intro k hk
  refine brV_iff.2 ⟨fun h2 => hk _ ?_, fun h2 => hk _ ?_⟩
  · have h2 := szSl_pos.1 (dec_t h2)
    rcases h with ⟨q, _⟩ | ⟨q1, q2, q3, q4, q5, q6⟩
    · exact absurd q h2
    · refine .inr ⟨q1, q2, q3, q4, ?_, ?_⟩
      · show IntKind.wrap IntKind.i64 (0 - x.1) = 0; rw [q5]; rfl
      · show -n = if notB x.2.1 = true then _ else _
        cases hx : x.2.1 <;> rw [hx] at q6 <;> simp [notB] at q6 ⊢ <;> omega
  · have h2 : ¬ 0 < szSl x.2.2 := dec_f h2
    rw [szSl_pos] at h2
    rcases h with ⟨q, q2, q3, q4⟩ | ⟨q1, _⟩
    · refine .inl ⟨q, ?_, by omega, by omega⟩
      show IntKind.wrap IntKind.i64 (0 - x.1) = -n
      rw [q2, wi64 (by omega) (by omega)]; omega
    · exact absurd q1 h2

theorem r_Abs {x : Int × Bool × Option (List Int)} {n : Int} (h : RIV x n) : callV Pg c_ref01_Int_Abs [⟨tRI, x⟩] tRI fun r => RIV r n.natAbs := by
  refine w_ref01_Int_Abs x (RIV_ex _) ((r_Sign h).mono ?_)
  rintro _ rfl
  refine brV_iff.2 ⟨fun hb => ?_, fun hb => ?_⟩
  · have hb : sgn n < 0 := dec_t hb
    have : n < 0 := by rcases sgn3 n with ⟨e, _⟩ | ⟨e, _⟩ | ⟨e, _⟩ <;> omega
    refine (r_Minus h).mono fun r hr => ?_
    rw [show (n.natAbs : Int) = -n by omega]; exact hr
  · have hb : ¬ sgn n < 0 := dec_f hb
    have : ¬ n < 0 := by rcases sgn3 n with ⟨e, _⟩ | ⟨e, _⟩ | ⟨e, _⟩ <;> omega
    rw [show (n.natAbs : Int) = n by omega]; exact h

theorem r_Small {x : Int × Bool × Option (List Int)} {n : Int} (h : RIV x n) : callV Pg c_ref01_Int_Small [⟨tRI, x⟩] (.tup (.pair tI (.pair .bool .unit))) fun r => r = smallI n 1152921504606846976 := by
  refine w_ref01_Int_Small x ⟨_, rfl⟩ (joinR (fun p => ∃ c : Bool, p = (c, x) ∧ (c = true → ¬ (n ≤ 1152921504606846976 ∧ -1152921504606846976 ≤ n)) ∧ (c = false → n ≤ 1152921504606846976 ∧ -1152921504606846976 ≤ n ∧ x.1 = n)) ?_ ?_)
  · rintro _ ⟨c, rfl, h1, h2⟩
    refine brV_iff.2 ⟨fun hb => ?_, fun hb => ?_⟩
    · rw [smallI, if_neg (h1 hb)]
    · obtain ⟨q1, q2, q3⟩ := h2 hb
      rw [smallI, if_pos ⟨q1, q2⟩, ← q3]
  · intro k hk
    refine brV_iff.2 ⟨fun h2 => hk _ ⟨true, rfl, fun _ => ?_, fun h => by simp at h⟩, fun h2 => ?_⟩
    · have h2 := szSl_pos.1 (dec_t h2)
      rcases h with ⟨q, _⟩ | ⟨q1, q2, q3, q4, q5, q6⟩
      · exact absurd q h2
      · split at q6 <;> omega
    · have h2 : ¬ 0 < szSl x.2.2 := dec_f h2
      rw [szSl_pos] at h2
      rcases h with ⟨q, q2, q3, q4⟩ | ⟨q1, _⟩
      · refine brV_iff.2 ⟨fun h3 => hk _ ⟨true, rfl, fun _ => ?_, fun h => by simp at h⟩, fun h3 => hk _ ⟨_, rfl, fun h4 => ?_, fun h4 => ?_⟩⟩
        · have h3 : 1152921504606846976 < x.1 := dec_t h3
          omega
        · have h4 : x.1 < -1152921504606846976 := dec_t h4
          omega
        · have h3 : ¬ 1152921504606846976 < x.1 := dec_f h3
          have h4 : ¬ x.1 < -1152921504606846976 := dec_f h4
          omega
      · exact absurd q1 h2

/-- The digits of the absolute value. -/
def ListOf (n : Int) (r : Option (List Int)) : Prop := Dig (r.getD []) ∧ Trm (r.getD []) ∧ nv (r.getD []) = n.natAbs

theorem appL_get {l : Option (List Int)} {x : Int} : (appL l (lst (some [x]))).getD [] = l.getD [] ++ [x] := by cases l <;> rfl

theorem r_list {x : Int × Bool × Option (List Int)} {n : Int} (h : RIV x n) : callV Pg c_ref01_Int_list [⟨tRI, x⟩] tL fun r => ListOf n r := by
  refine w_ref01_Int_list x ?_ (brV_iff.2 ⟨fun h2 => ?_, fun h2 => ?_⟩)
  · obtain ⟨l, q1, q2, q3⟩ := nv_ex (n.natAbs + 1) n.natAbs (by omega)
    exact ⟨some l, q1, q2, q3⟩
  · have h2 := szSl_pos.1 (dec_t h2)
    rcases h with ⟨q, _⟩ | ⟨q1, q2, q3, q4, q5, q6⟩
    · exact absurd q h2
    · exact ⟨q2, q3, by split at q6 <;> omega⟩
  · have h2 : ¬ 0 < szSl x.2.2 := dec_f h2
    rw [szSl_pos] at h2
    rcases h with ⟨q, q2, q3, q4⟩ | ⟨q1, _⟩
    case inr => exact absurd q1 h2
    have em : maxI x.1 (IntKind.wrap IntKind.i64 (0 - x.1)) = n.natAbs := by
      rw [q2, wi64 (by omega) (by omega), maxI]; split <;> omega
    rw [em]
    refine loopE (fun p => 0 ≤ p.1 ∧ p.1 < 2305843009213693952 ∧ Dig (p.2.getD []) ∧ nv (p.2.getD []) + 1073741824 ^ (p.2.getD []).length * p.1 = n.natAbs ∧ (p.1 = 0 → Trm (p.2.getD []))) (fun p => p.1.toNat) ⟨by omega, by omega, Dig.nil, by simp [nv], fun _ d hd => by simp at hd⟩ ?_
    rintro ⟨m, o⟩ ⟨m0, m1, hd, hv, ht⟩
    dsimp only at m0 m1 hd hv ht ⊢
    refine brV_iff.2 ⟨fun h3 => ?_, fun h3 => ?_⟩
    · have h3 : 0 < m := dec_t h3
      have hlen : (o.getD []).length ≤ 2 := by
        rcases Nat.lt_or_ge 2 (o.getD []).length with hl | hl
        · exfalso
          have h4 := pow_monoB (show 3 ≤ (o.getD []).length by omega)
          have h5 : (1073741824 : Int) ^ (o.getD []).length * 1 ≤ 1073741824 ^ (o.getD []).length * m := Int.mul_le_mul_of_nonneg_left (by omega) (by have := pow_posB (o.getD []).length; omega)
          have h6 := nv_nonneg hd
          have : (1073741824 : Int) ^ 3 = 1237940039285380274899124224 := by decide
          omega
        · exact hl
      rw [Int.tdiv_eq_ediv_of_nonneg m0, Int.tmod_eq_emod_of_nonneg m0, wi64 (by omega) (by omega)]
      refine ⟨by decide, ?_, by decide, ⟨by omega, by omega, ?_, ?_, ?_⟩, by omega⟩
      · show ((o.getD []).length + 1) * 8 ≤ 140737488355328; omega
      · rw [appL_get]; exact hd.app (Dig.cons (by omega) (by omega) Dig.nil)
      · rw [appL_get, nv_snoc, List.length_append, List.length_singleton, Int.pow_succ, ← hv]
        have := Int.emod_add_mul_ediv m 1073741824
        generalize m % 1073741824 = u at *
        generalize m / 1073741824 = v at *
        generalize (1073741824 : Int) ^ (o.getD []).length = K
        rw [← this]; grind
      · intro e d hd2
        rw [appL_get] at hd2
        simp at hd2; omega
    · have h3 : ¬ 0 < m := dec_f h3
      have : m = 0 := by omega
      subst this
      exact ⟨hd, ht rfl, by rw [← hv]; simp⟩

end Go.Proofs.Pf.B

namespace Go.Proofs.Pf.B
open Go Go.VM

def sg (b : Bool) (n : Int) : Int := if b = true then -n else n

theorem map_trim_get {b : Option (List Int)} : (b.map trim).getD [] = trim (b.getD []) := by cases b <;> rfl

theorem nv_drop_le {l : List Int} (h : Dig l) (k : Nat) : 0 ≤ nv (l.drop k) ∧ nv (l.drop k) ≤ nv l := by
  have h1 := nv_nonneg (h.drop k)
  have h2 := (take_lt h k).1
  have h3 := nv_split' l k
  have h4 := pow_posB k
  have h5 : 1 * nv (l.drop k) ≤ 1073741824 ^ k * nv (l.drop k) := Int.mul_le_mul_of_nonneg_right (by omega) h1
  omega

theorem three {t : List Int} (hd : Dig t) (ht : Trm t) : (3 < t.length → 2305843009213693952 ≤ nv t) ∧ (t.length = 3 → (2 ≤ t.getD 2 0 ↔ 2305843009213693952 ≤ nv t)) ∧ (t.length < 3 → nv t < 2305843009213693952) := by
  refine ⟨fun h => ?_, fun h => ?_, fun h => ?_⟩
  · have h1 := ht.ge hd (by rintro rfl; simp at h)
    have h2 := pow_monoB (show 3 ≤ t.length - 1 by omega)
    have : (1073741824 : Int) ^ 3 = 1237940039285380274899124224 := by decide
    omega
  · have h1 := take_lt hd 2
    have h2 := nv_split' t 2
    rw [nv_drop' t 2, List.drop_of_length_le (by omega)] at h2
    have : (1073741824 : Int) ^ 2 = 1152921504606846976 := by decide
    rw [this] at h1 h2
    simp only [nv] at h2
    constructor <;> intro <;> omega
  · have h1 := nv_lt hd
    have h2 := pow_monoB (show t.length ≤ 2 by omega)
    have : (1073741824 : Int) ^ 2 = 1152921504606846976 := by decide
    omega

theorem r_made {c : Bool} {b : Option (List Int)} (hl : Dig (b.getD [])) (hlen : (b.getD []).length ≤ 1099511627776) :
    callV Pg c_ref01_made [⟨.bool, c⟩, ⟨tL, b⟩] tRI fun r => RIV r (sg c (nv (b.getD []))) := by
  have hd := hl.trim
  have ht := trm_trim (b.getD [])
  have hv := nv_trim (b.getD [])
  have hn := nv_nonneg hl
  have hll := len_trim (b.getD [])
  obtain ⟨g1, g2, g3⟩ := three hd ht
  refine w_ref01_made c b (RIV_ex _) (loopE (fun p => p.1 = c ∧ p.2.1.map trim = b.map trim ∧ (p.2.1.getD []).length ≤ (b.getD []).length) (fun p => (p.2.1.getD []).length) ⟨rfl, rfl, Nat.le_refl _⟩ ?_)
  rintro ⟨c', p, j1, j2, j3⟩ ⟨hc', h1, h2⟩
  obtain rfl : c = c' := hc'.symm
  dsimp only at h1 h2 ⊢
  refine joinR (fun q => ∃ e : Bool, q = (c, p, e, j1, j2, j3) ∧ (e = true → ∃ l', p = some (l' ++ [0])) ∧ (e = false → p = b.map trim)) ?_ ?_
  · rintro _ ⟨e, rfl, hc1, hc2⟩
    refine brV_iff.2 ⟨fun h => ?_, fun h => ?_⟩
    · obtain ⟨l', rfl⟩ := hc1 h
      simp only [szSl, Option.getD_some, List.length_append, List.length_cons, List.length_nil] at h2 ⊢
      rw [wi64 (by omega) (by omega)]
      have e : (((l'.length + (0 + 1) : Nat) : Int) - 1).toNat = l'.length := by omega
      refine ⟨⟨by omega, by omega, by simp; omega⟩, ?_⟩
      simp only [slcS, Option.map_some, e]
      have e2 : ((l' ++ [0]).take l'.length).drop (0 : Int).toNat = l' := by simp
      rw [e2]
      refine ⟨⟨by trivial, ?_, by simp only [Option.getD_some]; omega⟩, by simp⟩
      rw [← h1]; simp [trim_snoc_zero]
    · obtain rfl := hc2 h
      have et : (b.map trim).getD [] = trim (b.getD []) := map_trim_get
      refine joinR (fun q => ∃ e : Bool, q = (c, b.map trim, e, j1, j2, j3) ∧ (e = true ↔ 2305843009213693952 ≤ nv (trim (b.getD [])))) ?_ ?_
      · rintro _ ⟨e, rfl, he⟩
        refine brV_iff.2 ⟨fun h => ?_, fun h => ?_⟩
        · have h5 := he.1 h
          refine .inr ⟨?_, ?_⟩
          · show (b.map trim).getD [] ≠ []
            rw [et]; intro e; rw [e] at h5; simp [nv] at h5
          · show Dig ((b.map trim).getD []) ∧ Trm ((b.map trim).getD []) ∧ 2305843009213693952 ≤ nv ((b.map trim).getD []) ∧ (0 : Int) = 0 ∧ sg c (nv (b.getD [])) = if c = true then -nv ((b.map trim).getD []) else nv ((b.map trim).getD [])
            rw [et]
            exact ⟨hd, ht, h5, rfl, by rw [hv]; rfl⟩
        · have h5 : ¬ 2305843009213693952 ≤ nv (trim (b.getD [])) := fun h6 => by have := he.2 h6; dsimp only at h; rw [h] at this; simp at this
          refine loopE (fun q => ∃ k : Nat, q = (c, b.map trim, nv ((trim (b.getD [])).drop k), (k : Int) - 1, j1, j2, j3) ∧ k ≤ (trim (b.getD [])).length) (fun q => (q.2.2.2.1 + 1).toNat) ⟨(trim (b.getD [])).length, ?_, Nat.le_refl _⟩ ?_
          · simp only [szSl, et]
            rw [wi64 (by omega) (by omega), List.drop_length]; rfl
          rintro _ ⟨k, rfl, hk⟩
          dsimp only
          refine brV_iff.2 ⟨fun h => ?_, fun h => ?_⟩
          · have h : (0 : Int) ≤ (k : Int) - 1 := dec_t h
            obtain ⟨k, rfl⟩ : ∃ j, k = j + 1 := ⟨k - 1, by omega⟩
            have ek : ((k + 1 : Nat) : Int) - 1 = (k : Int) := by omega
            have b1 := nv_drop_le hd (k + 1)
            have b2 := nv_drop_le hd k
            have b3 := nv_drop' (trim (b.getD [])) k
            have g := hd.get k
            have e1 : eltS (0 : Int) (b.map trim) (k : Int) = (trim (b.getD [])).getD k 0 := by simp only [eltS, et, Int.toNat_natCast]
            rw [ek, e1, wi64 (x := nv ((trim (b.getD [])).drop (k + 1)) * 1073741824) (by omega) (by omega), wi64 (x := nv ((trim (b.getD [])).drop (k + 1)) * 1073741824 + _) (by omega) (by omega), wi64 (x := (k : Int) - 1) (by omega) (by omega)]
            refine ⟨⟨by omega, by rw [et]; omega⟩, ⟨k, ?_, by omega⟩, by omega⟩
            rw [b3, Int.mul_comm, Int.add_comm]
          · have h : ¬ (0 : Int) ≤ (k : Int) - 1 := dec_f h
            obtain rfl : k = 0 := by omega
            simp only [List.drop_zero, hv] at h5 ⊢
            refine joinR (fun q => q.1 = sg c (nv (b.getD []))) (fun q hq => ?_) ?_
            · exact RIV.small hq (by unfold sg; split <;> omega) (by unfold sg; split <;> omega)
            · intro k hk
              refine brV_iff.2 ⟨fun h => hk _ ?_, fun h => hk _ ?_⟩
              · have h : c = true := h
                show IntKind.wrap IntKind.i64 (0 - nv (b.getD [])) = _
                rw [wi64 (by omega) (by omega), sg, if_pos h]; omega
              · have h : c = false := h
                show nv (b.getD []) = _
                rw [sg, h]; simp
      · intro k hk
        dsimp only
        refine brV_iff.2 ⟨fun h => hk _ ⟨true, rfl, ?_⟩, fun h => brV_iff.2 ⟨fun h2 => ?_, fun h2 => hk _ ⟨false, rfl, ?_⟩⟩⟩
        · have h := dec_t h
          simp only [szSl, et] at h
          have := g1 (by omega)
          simp [this]
        · have h2 := dec_t h2
          simp only [szSl, et] at h2
          refine ⟨⟨by omega, by rw [et]; omega⟩, hk _ ⟨_, rfl, ?_⟩⟩
          have e1 : eltS (0 : Int) (b.map trim) (2 : Int) = (trim (b.getD [])).getD 2 0 := by simp only [eltS, et]; rfl
          rw [e1, decide_eq_true_eq]
          exact g2 (by omega)
        · have h := dec_f h
          have h2 := dec_f h2
          simp only [szSl, et] at h h2
          have := g3 (by omega)
          simp; omega
  · intro k hk
    refine brV_iff.2 ⟨fun hb => ?_, fun hb => hk _ ⟨false, rfl, fun h => by simp at h, fun _ => ?_⟩⟩
    · have hb := of_decide_eq_true hb
      simp only [szSl] at hb ⊢
      rw [wi64 (by omega) (by omega)]
      cases p with
      | none => simp at hb
      | some l =>
        simp only [Option.getD_some] at *
        rcases List.eq_nil_or_concat l with rfl | ⟨l', x, rfl⟩
        · simp at hb
        · simp only [List.concat_eq_append] at *
          have e : (((l' ++ [x]).length : Int) - 1).toNat = l'.length := by simp
          have ex : eltS (0 : Int) (some (l' ++ [x])) (((l' ++ [x]).length : Int) - 1) = x := by simp only [eltS, Option.getD_some, e]; simp [List.getD]
          refine ⟨⟨by omega, by simp only [Option.getD_some]; omega⟩, hk _ ⟨_, rfl, fun h => ?_, fun h => ?_⟩⟩
          · rw [ex] at h
            have h : x = 0 := of_decide_eq_true h
            exact ⟨l', by rw [h]⟩
          · rw [ex] at h
            have h : x ≠ 0 := of_decide_eq_false h
            rw [← h1]; simp [trim_snoc _ _ h]
    · have hb := of_decide_eq_false hb
      cases p with
      | none => simpa using h1
      | some l =>
        simp only [szSl, Option.getD_some] at hb
        have : l = [] := by apply List.eq_nil_of_length_eq_zero; omega
        subst this
        rw [← h1]; rfl

theorem absI {a : Int} (h1 : -9223372036854775808 < a) (h2 : a < 9223372036854775808) : maxI a (IntKind.wrap IntKind.i64 (0 - a)) = a.natAbs := by
  rw [wi64 (by omega) (by omega), maxI]; split <;> omega

theorem abs_tmod (a : Int) : ((a.tmod 1073741824).natAbs : Int) = (a.natAbs : Int) % 1073741824 ∧ ((a.tdiv 1073741824).natAbs : Int) = (a.natAbs : Int) / 1073741824 := by
  rw [Int.natAbs_tmod, Int.natAbs_tdiv]; exact ⟨by simp, by show ((a.natAbs / 1073741824 : Nat) : Int) = _; simp⟩

theorem r_Of {n : Int} (n1 : -9223372036854775808 ≤ n) (n2 : n < 9223372036854775808) : callV Pg c_ref01_Of [⟨tI, n⟩] tRI fun r => RIV r n := by
  refine w_ref01_Of n (RIV_ex _) (joinR (fun p => ∃ c : Bool, p = (n, c, (0 : Int), false, none) ∧ (c = true ↔ -2305843009213693952 < n ∧ n < 2305843009213693952)) ?_ ?_)
  · rintro _ ⟨c, rfl, hc⟩
    refine brV_iff.2 ⟨fun h => ?_, fun h => ?_⟩
    · obtain ⟨q1, q2⟩ := hc.1 h
      exact RIV.small rfl q1 q2
    · have hbig : ¬ (-2305843009213693952 < n ∧ n < 2305843009213693952) := fun h3 => by have := hc.2 h3; dsimp only at h; rw [h] at this; simp at this
      have t0 := abs_tmod n
      have a0 : n.tmod 1073741824 = n.tmod 1073741824 := rfl
      refine ⟨by decide, by decide, ?_⟩
      dsimp only
      rw [absI (by omega) (by omega), wi64 (by omega) (by omega)]
      refine loopE (fun p => p.1 = n ∧ (p.2.1.natAbs : Int) < 9223372036854775808 ∧ Dig (p.2.2.2.getD []) ∧ p.2.2.2.getD [] ≠ [] ∧ nv (p.2.2.2.getD []) + 1073741824 ^ (p.2.2.2.getD []).length * p.2.1.natAbs = n.natAbs ∧ (p.2.1 = 0 → Trm (p.2.2.2.getD []))) (fun p => p.2.1.natAbs) ⟨rfl, by dsimp only; omega, ?_, by simp, ?_, ?_⟩ ?_
      · exact Dig.cons (by omega) (by omega) Dig.nil
      · simp only [Option.getD_some, nv, List.length_singleton, Int.pow_one, Int.mul_zero, Int.add_zero]; omega
      · intro e d hd
        simp at hd
        have e : n.tdiv 1073741824 = 0 := e
        have : ((n.tdiv 1073741824).natAbs : Int) = 0 := by rw [e]; rfl
        omega
      rintro ⟨n', m, ⟨k1, k2, k3⟩, o⟩ ⟨hn', m1, hd, hne, hv, ht⟩
      obtain rfl : n = n' := hn'.symm
      dsimp only at m1 hd hne hv ht ⊢
      refine brV_iff.2 ⟨fun h3 => ?_, fun h3 => ?_⟩
      · have h3 : ¬ m = 0 := not_t h3
        have t1 := abs_tmod m
        have hlen : (o.getD []).length ≤ 2 := by
          rcases Nat.lt_or_ge 2 (o.getD []).length with hl | hl
          · exfalso
            have h4 := pow_monoB (show 3 ≤ (o.getD []).length by omega)
            have h5 : (1073741824 : Int) ^ (o.getD []).length * 1 ≤ 1073741824 ^ (o.getD []).length * m.natAbs := Int.mul_le_mul_of_nonneg_left (by omega) (by have := pow_posB (o.getD []).length; omega)
            have h6 := nv_nonneg hd
            have : (1073741824 : Int) ^ 3 = 1237940039285380274899124224 := by decide
            omega
          · exact hl
        rw [absI (by omega) (by omega), wi64 (by omega) (by omega)]
        refine ⟨by decide, by decide, ?_, ⟨rfl, by omega, ?_, ?_, ?_, ?_⟩, by omega⟩
        · show ((o.getD []).length + 1) * 8 ≤ 140737488355328; omega
        · rw [appL_get]; exact hd.app (Dig.cons (by omega) (by omega) Dig.nil)
        · rw [appL_get]; simp
        · rw [appL_get, nv_snoc, List.length_append, List.length_singleton, Int.pow_succ, ← hv, t1.1, t1.2]
          have := Int.emod_add_mul_ediv (m.natAbs : Int) 1073741824
          generalize (m.natAbs : Int) % 1073741824 = u at *
          generalize (m.natAbs : Int) / 1073741824 = v at *
          generalize (1073741824 : Int) ^ (o.getD []).length = K
          rw [← this]; grind
        · intro e d hd2
          rw [appL_get, List.getLast?_concat] at hd2
          have : ((m.tdiv 1073741824).natAbs : Int) = 0 := by rw [e]; rfl
          simp at hd2; omega
      · have h3 : m = 0 := not_f h3
        subst h3
        simp only [Int.natAbs_zero, Int.natCast_zero, Int.mul_zero, Int.add_zero] at hv
        refine .inr ⟨hne, hd, ht rfl, by show 2305843009213693952 ≤ nv (o.getD []); omega, rfl, ?_⟩
        show n = if decide (n < 0) = true then -nv (o.getD []) else nv (o.getD [])
        rw [hv]
        by_cases hn0 : n < 0 <;> simp [hn0] <;> omega
  · intro k hk
    refine brV_iff.2 ⟨fun h => hk _ ⟨_, rfl, ?_⟩, fun h => hk _ ⟨false, rfl, ?_⟩⟩
    · have h : -2305843009213693952 < n := dec_t h
      rw [decide_eq_true_eq]
      exact ⟨fun h2 => ⟨h, h2⟩, fun h2 => h2.2⟩
    · have h : ¬ -2305843009213693952 < n := dec_f h
      simp; omega

theorem getD_out {l : Option (List Int)} {i : Nat} (h : ¬ i < (l.getD []).length) : (l.getD []).getD i 0 = 0 := by
  simp [List.getD, Nat.le_of_not_lt h]

theorem nv_take_succ' (l : List Int) (i : Nat) : nv (l.take (i + 1)) = nv (l.take i) + 1073741824 ^ i * l.getD i 0 := by
  rcases Nat.lt_or_ge i l.length with h | h
  · exact nv_take_succ l i h
  · rw [List.take_of_length_le (by omega), List.take_of_length_le h]
    have : l.getD i 0 = 0 := by simp [List.getD, h]
    rw [this]; omega

def SumOf (a b : List Int) (r : Option (List Int)) : Prop := Dig (r.getD []) ∧ nv (r.getD []) = nv a + nv b ∧ (r.getD []).length ≤ max a.length b.length + 1

theorem plus_ex {a b : List Int} (ha : Dig a) (hb : Dig b) : ∃ r, SumOf a b r := by
  have h1 := nv_lt ha
  have h2 := nv_lt hb
  have h3 := nv_nonneg ha
  have h4 := nv_nonneg hb
  have h5 := pow_monoB (show a.length ≤ max a.length b.length by omega)
  have h6 := pow_monoB (show b.length ≤ max a.length b.length by omega)
  obtain ⟨l, q1, q2, q3⟩ := digs_ex (max a.length b.length + 1) (nv a + nv b) (by omega) (by rw [Int.pow_succ]; omega)
  exact ⟨some l, q1, q2, by simp only [Option.getD_some]; omega⟩

theorem r_sum {a b : Option (List Int)} (ha : Dig (a.getD [])) (hb : Dig (b.getD [])) (la : (a.getD []).length ≤ 1099511627776) (lb : (b.getD []).length ≤ 1099511627776) :
    callV Pg c_ref01_sum [⟨tL, a⟩, ⟨tL, b⟩] tL fun r => SumOf (a.getD []) (b.getD []) r := by
  refine w_ref01_sum a b (plus_ex ha hb) ?_
  refine loopE (fun p => ∃ (k : Nat) (c : Int) (o : Option (List Int)), p = (a, b, c, (k : Int), o) ∧ k ≤ max (a.getD []).length (b.getD []).length + 1 ∧ 0 ≤ c ∧ c ≤ 1 ∧ (k = max (a.getD []).length (b.getD []).length + 1 → c = 0) ∧ Dig (o.getD []) ∧ (o.getD []).length = k ∧ nv (o.getD []) + 1073741824 ^ k * c = nv ((a.getD []).take k) + nv ((b.getD []).take k))
    (fun p => (max (a.getD []).length (b.getD []).length + 2 - p.2.2.2.1.toNat)) ⟨0, 0, none, rfl, by omega, by omega, by omega, fun _ => rfl, Dig.nil, rfl, by simp [nv]⟩ ?_
  rintro _ ⟨k, c, o, rfl, hk, c0, c1, cz, hd, hl, hv⟩
  dsimp only
  have ga := ha.get k
  have gb := hb.get k
  refine joinR (fun q => ∃ e : Bool, q = (a, b, c, (k : Int), e, o) ∧ (e = true ↔ (k < (a.getD []).length ∨ k < (b.getD []).length ∨ 0 < c))) ?_ ?_
  · rintro _ ⟨e, rfl, he⟩
    refine brV_iff.2 ⟨fun h => ?_, fun h => ?_⟩
    · have h := he.1 h
      refine joinR (fun q => q = (a, b, c + (a.getD []).getD k 0, (k : Int), o)) ?_ ?_
      · rintro _ rfl
        refine joinR (fun q => q = (a, b, c + (a.getD []).getD k 0 + (b.getD []).getD k 0, (k : Int), o)) ?_ ?_
        · rintro _ rfl
          dsimp only
          have hk' : k ≤ max (a.getD []).length (b.getD []).length := by
            rcases Nat.lt_or_ge (max (a.getD []).length (b.getD []).length) k with hh | hh
            · have := cz (by omega); omega
            · exact hh
          rw [Int.tdiv_eq_ediv_of_nonneg (by omega), Int.tmod_eq_emod_of_nonneg (by omega), wi64 (by omega) (by omega), wi64 (x := (k : Int) + 1) (by omega) (by omega)]
          refine ⟨by decide, ?_, by decide, ⟨k + 1, _, _, rfl, by omega, by omega, by omega, ?_, ?_, ?_, ?_⟩, by omega⟩
          · show ((o.getD []).length + 1) * 8 ≤ 140737488355328; omega
          · intro hkk
            have : (a.getD []).getD k 0 = 0 := getD_out (by omega)
            have : (b.getD []).getD k 0 = 0 := getD_out (by omega)
            omega
          · rw [appL_get]; exact hd.app (Dig.cons (by omega) (by omega) Dig.nil)
          · rw [appL_get]; simp [hl]
          · rw [appL_get, nv_snoc, nv_take_succ', nv_take_succ', hl, Int.pow_succ]
            have := Int.emod_add_mul_ediv (c + (a.getD []).getD k 0 + (b.getD []).getD k 0) 1073741824
            generalize (c + (a.getD []).getD k 0 + (b.getD []).getD k 0) % 1073741824 = x at *
            generalize (c + (a.getD []).getD k 0 + (b.getD []).getD k 0) / 1073741824 = y at *
            generalize (a.getD []).getD k 0 = u at *
            generalize (b.getD []).getD k 0 = v at *
            grind
        · intro k' hk'
          refine brV_iff.2 ⟨fun h3 => ?_, fun h3 => hk' _ ?_⟩
          · have h3 := dec_t h3
            simp only [szSl] at h3
            refine ⟨⟨by dsimp only; omega, by dsimp only; omega⟩, hk' _ ?_⟩
            simp only [eltS, Int.toNat_natCast]
            rw [wi64 (by omega) (by omega)]
          · have h3 := dec_f h3
            simp only [szSl] at h3
            have : (b.getD []).getD k 0 = 0 := getD_out (by omega)
            rw [this, Int.add_zero]
      · intro k' hk'
        refine brV_iff.2 ⟨fun h3 => ?_, fun h3 => hk' _ ?_⟩
        · have h3 := dec_t h3
          simp only [szSl] at h3
          refine ⟨⟨by dsimp only; omega, by dsimp only; omega⟩, hk' _ ?_⟩
          simp only [eltS, Int.toNat_natCast]
          rw [wi64 (by omega) (by omega)]
        · have h3 := dec_f h3
          simp only [szSl] at h3
          have : (a.getD []).getD k 0 = 0 := getD_out (by omega)
          rw [this, Int.add_zero]
    · have h : ¬ (k < (a.getD []).length ∨ k < (b.getD []).length ∨ 0 < c) := fun h3 => by have := he.2 h3; dsimp only at h; rw [h] at this; simp at this
      have : c = 0 := by omega
      subst this
      rw [List.take_of_length_le (by omega), List.take_of_length_le (by omega)] at hv
      exact ⟨hd, by rw [← hv]; simp, by show (o.getD []).length ≤ _; omega⟩
  · intro k' hk'
    refine brV_iff.2 ⟨fun h => hk' _ ⟨true, rfl, ?_⟩, fun h => brV_iff.2 ⟨fun h2 => hk' _ ⟨true, rfl, ?_⟩, fun h2 => hk' _ ⟨_, rfl, ?_⟩⟩⟩
    · have h := dec_t h
      simp only [szSl] at h
      simp; omega
    · have h2 := dec_t h2
      simp only [szSl] at h2
      simp; omega
    · have h := dec_f h
      have h2 := dec_f h2
      simp only [szSl] at h h2
      rw [decide_eq_true_eq]; omega

end Go.Proofs.Pf.B

namespace Go.Proofs.Pf.B
open Go Go.VM

def DiffOf (a b : List Int) (r : Option (List Int)) : Prop := Dig (r.getD []) ∧ nv (r.getD []) = nv a - nv b ∧ (r.getD []).length = a.length

theorem diff_ex {a b : List Int} (ha : Dig a) (hb : Dig b) (hle : nv b ≤ nv a) : ∃ r, DiffOf a b r := by
  have h1 := nv_lt ha
  have h2 := nv_nonneg hb
  obtain ⟨l, q1, q2, q3⟩ := digs_ex a.length (nv a - nv b) (by omega) (by omega)
  exact ⟨some l, q1, q2, q3⟩

theorem r_difference {a b : Option (List Int)} (ha : Dig (a.getD [])) (hb : Dig (b.getD [])) (hle : nv (b.getD []) ≤ nv (a.getD [])) (hlen : (b.getD []).length ≤ (a.getD []).length) (la : (a.getD []).length ≤ 1099511627776) :
    ownV Pg c_ref01_difference [⟨tL, a⟩, ⟨tL, b⟩] tI fun r => DiffOf (a.getD []) (b.getD []) r := by
  refine w_ref01_difference a b (diff_ex ha hb hle) ?_
  refine loopE (fun p => ∃ (k : Nat) (c : Int) (o : Option (List Int)), p = (a, b, c, ((a.getD []).length : Int), (k : Int), o) ∧ k ≤ (a.getD []).length ∧ -1 ≤ c ∧ c ≤ 0 ∧ Dig (o.getD []) ∧ (o.getD []).length = k ∧ nv (o.getD []) + 1073741824 ^ k * c = nv ((a.getD []).take k) - nv ((b.getD []).take k))
    (fun p => ((a.getD []).length - p.2.2.2.2.1.toNat)) ⟨0, 0, none, rfl, by omega, by omega, by omega, Dig.nil, rfl, by simp [nv]⟩ ?_
  rintro _ ⟨k, c, o, rfl, hk, c0, c1, hd, hl, hv⟩
  dsimp only
  have ga := ha.get k
  have gb := hb.get k
  refine brV_iff.2 ⟨fun h => ?_, fun h => ?_⟩
  · have h : (k : Int) < ((a.getD []).length : Int) := dec_t h
    have ea : eltS (0 : Int) a (k : Int) = (a.getD []).getD k 0 := by simp only [eltS, Int.toNat_natCast]
    have eb : eltS (0 : Int) b (k : Int) = (b.getD []).getD k 0 := by simp only [eltS, Int.toNat_natCast]
    rw [ea, eb, wi64 (x := c + (a.getD []).getD k 0) (by omega) (by omega), wi64 (x := c + (a.getD []).getD k 0 - (b.getD []).getD k 0) (by omega) (by omega)]
    refine ⟨⟨by omega, by omega⟩, ?_⟩
    have step : ∀ (x c' : Int), 0 ≤ x → x < 1073741824 → -1 ≤ c' → c' ≤ 0 → x + 1073741824 * c' = c + (a.getD []).getD k 0 - (b.getD []).getD k 0 →
        appC 8 o (lst (some [x])) ∧ (∃ (k1 : Nat) (c1 : Int) (o1 : Option (List Int)), (a, b, c', ((a.getD []).length : Int), IntKind.wrap IntKind.i64 ((k : Int) + 1), appL o (lst (some [x]))) = (a, b, c1, ((a.getD []).length : Int), (k1 : Int), o1) ∧ k1 ≤ (a.getD []).length ∧ -1 ≤ c1 ∧ c1 ≤ 0 ∧ Dig (o1.getD []) ∧ (o1.getD []).length = k1 ∧ nv (o1.getD []) + 1073741824 ^ k1 * c1 = nv ((a.getD []).take k1) - nv ((b.getD []).take k1)) ∧
          (a.getD []).length - (IntKind.wrap IntKind.i64 ((k : Int) + 1)).toNat < (a.getD []).length - ((k : Int)).toNat := by
      intro x c' x0 x1 y0 y1 e
      rw [wi64 (x := (k : Int) + 1) (by omega) (by omega)]
      refine ⟨?_, ⟨k + 1, c', _, rfl, by omega, y0, y1, ?_, ?_, ?_⟩, by omega⟩
      · show ((o.getD []).length + 1) * 8 ≤ 140737488355328; omega
      · rw [appL_get]; exact hd.app (Dig.cons x0 x1 Dig.nil)
      · rw [appL_get]; simp [hl]
      · rw [appL_get, nv_snoc, nv_take_succ', nv_take_succ', hl, Int.pow_succ]
        generalize (a.getD []).getD k 0 = u at *
        generalize (b.getD []).getD k 0 = v at *
        have : x = c + u - v - 1073741824 * c' := by omega
        rw [this]; grind
    refine joinR (fun q => q = (a, b, c + (a.getD []).getD k 0 - (b.getD []).getD k 0, ((a.getD []).length : Int), (k : Int), o)) ?_ ?_
    · rintro _ rfl
      dsimp only
      refine joinR (fun q => ∃ x c' : Int, q = (a, b, c', ((a.getD []).length : Int), (k : Int), appL o (lst (some [x]))) ∧ 0 ≤ x ∧ x < 1073741824 ∧ -1 ≤ c' ∧ c' ≤ 0 ∧ x + 1073741824 * c' = c + (a.getD []).getD k 0 - (b.getD []).getD k 0) ?_ ?_
      · rintro _ ⟨x, c', rfl, x0, x1, y0, y1, e⟩
        exact (step x c' x0 x1 y0 y1 e).2
      · intro k' hk'
        have hap : ∀ x : Int, appC 8 o (lst (some [x])) := fun x => by show ((o.getD []).length + 1) * 8 ≤ 140737488355328; omega
        refine brV_iff.2 ⟨fun h3 => ⟨hap _, hk' _ ⟨_, _, rfl, ?_, ?_, ?_, ?_, ?_⟩⟩, fun h3 => ⟨hap _, hk' _ ⟨_, _, rfl, ?_, ?_, ?_, ?_, ?_⟩⟩⟩
        all_goals first
          | have h3 : c + (a.getD []).getD k 0 - (b.getD []).getD k 0 < 0 := dec_t h3
          | have h3 : ¬ c + (a.getD []).getD k 0 - (b.getD []).getD k 0 < 0 := dec_f h3
        all_goals try rw [wi64 (by omega) (by omega)]
        all_goals omega
    · intro k' hk'
      refine brV_iff.2 ⟨fun h3 => ?_, fun h3 => hk' _ ?_⟩
      · have h3 := dec_t h3
        simp only [szSl] at h3
        exact ⟨⟨by omega, by omega⟩, hk' _ rfl⟩
      · have h3 := dec_f h3
        simp only [szSl] at h3
        have : (b.getD []).getD k 0 = 0 := getD_out (by omega)
        rw [this, Int.sub_zero]
  · have h : ¬ (k : Int) < ((a.getD []).length : Int) := dec_f h
    have hk' : k = (a.getD []).length := by omega
    rw [List.take_of_length_le (by omega), List.take_of_length_le (by omega)] at hv
    have h1 := nv_lt hd
    rw [hl] at h1
    rcases (show c = 0 ∨ c = -1 by omega) with rfl | rfl
    · exact ⟨hd, by rw [← hv]; simp, by rw [hl, hk']⟩
    · exfalso
      have := nv_nonneg hd
      omega

def ScaleOf (a : List Int) (f : Int) (r : Option (List Int)) : Prop := Dig (r.getD []) ∧ nv (r.getD []) = nv a * f ∧ (r.getD []).length = a.length + 1 ∧ r.isSome = true

theorem scale_ex {a : List Int} {f : Int} (ha : Dig a) (f0 : 0 ≤ f) (f1 : f < 1073741824) : ∃ r, ScaleOf a f r := by
  have h1 := nv_lt ha
  have h2 := nv_nonneg ha
  obtain ⟨l, q1, q2, q3⟩ := digs_ex (a.length + 1) (nv a * f) (Int.mul_nonneg h2 f0) (by
    rw [Int.pow_succ]
    exact Int.mul_lt_mul' (Int.le_of_lt h1) f1 f0 (pow_posB _))
  exact ⟨some l, q1, q2, q3, rfl⟩

theorem dig_mul {d f c : Int} (d0 : 0 ≤ d) (d1 : d < 1073741824) (f0 : 0 ≤ f) (f1 : f < 1073741824) (c0 : 0 ≤ c) (c1 : c < 1073741824) : 0 ≤ d * f ∧ d * f + c < 1152921504606846976 := by
  refine ⟨Int.mul_nonneg d0 f0, ?_⟩
  have : d * f ≤ 1073741823 * 1073741823 := Int.mul_le_mul (by omega) (by omega) f0 (by omega)
  omega

theorem r_scaled {a : Option (List Int)} {f : Int} (ha : Dig (a.getD [])) (f0 : 0 ≤ f) (f1 : f < 1073741824) (la : (a.getD []).length ≤ 1099511627776) :
    ownV Pg c_ref01_scaled [⟨tL, a⟩, ⟨tI, f⟩] tI fun r => ScaleOf (a.getD []) f r := by
  refine w_ref01_scaled a f (scale_ex ha f0 f1) ?_
  refine loopE (fun p => ∃ (k : Nat) (c : Int) (o : Option (List Int)), p = (f, c, a, ((a.getD []).length : Int), (k : Int), o) ∧ k ≤ (a.getD []).length ∧ 0 ≤ c ∧ c < 1073741824 ∧ Dig (o.getD []) ∧ (o.getD []).length = k ∧ nv (o.getD []) + 1073741824 ^ k * c = nv ((a.getD []).take k) * f)
    (fun p => ((a.getD []).length - p.2.2.2.2.1.toNat)) ⟨0, 0, none, rfl, by omega, by omega, by omega, Dig.nil, rfl, by simp [nv]⟩ ?_
  rintro _ ⟨k, c, o, rfl, hk, c0, c1, hd, hl, hv⟩
  dsimp only
  have ga := ha.get k
  have hm := dig_mul ga.1 ga.2 f0 f1 c0 c1
  refine brV_iff.2 ⟨fun h => ?_, fun h => ?_⟩
  · have h : (k : Int) < ((a.getD []).length : Int) := dec_t h
    have ea : eltS (0 : Int) a (k : Int) = (a.getD []).getD k 0 := by simp only [eltS, Int.toNat_natCast]
    rw [ea, wi64 (x := (a.getD []).getD k 0 * f) (by omega) (by omega), wi64 (x := c + (a.getD []).getD k 0 * f) (by omega) (by omega), Int.tdiv_eq_ediv_of_nonneg (by omega), Int.tmod_eq_emod_of_nonneg (by omega), wi64 (x := (c + (a.getD []).getD k 0 * f) / 1073741824) (by omega) (by omega), wi64 (x := (k : Int) + 1) (by omega) (by omega)]
    refine ⟨⟨by omega, by omega⟩, by decide, ?_, by decide, ⟨k + 1, _, _, rfl, by omega, by omega, by omega, ?_, ?_, ?_⟩, by omega⟩
    · show ((o.getD []).length + 1) * 8 ≤ 140737488355328; omega
    · rw [appL_get]; exact hd.app (Dig.cons (by omega) (by omega) Dig.nil)
    · rw [appL_get]; simp [hl]
    · rw [appL_get, nv_snoc, nv_take_succ', hl, Int.pow_succ, Int.add_mul, ← hv]
      have := Int.emod_add_mul_ediv (c + (a.getD []).getD k 0 * f) 1073741824
      generalize (c + (a.getD []).getD k 0 * f) % 1073741824 = x at *
      generalize (c + (a.getD []).getD k 0 * f) / 1073741824 = y at *
      generalize (a.getD []).getD k 0 = u at *
      have e : x = c + u * f - 1073741824 * y := by omega
      rw [e]; grind
  · have h : ¬ (k : Int) < ((a.getD []).length : Int) := dec_f h
    have hk' : k = (a.getD []).length := by omega
    rw [List.take_of_length_le (by omega)] at hv
    refine ⟨?_, ?_, ?_, ?_, ?_⟩
    · show ((o.getD []).length + 1) * 8 ≤ 140737488355328; omega
    · rw [appL_get]; exact hd.app (Dig.cons c0 c1 Dig.nil)
    · rw [appL_get, nv_snoc, hl, hv]
    · rw [appL_get]; simp [hl, hk']
    · cases o <;> rfl

def ShortOf (x : List Int) (y : Int) (r : Option (List Int) × Int × Unit) : Prop := Dig (r.1.getD []) ∧ nv (r.1.getD []) = nv x / y ∧ (r.1.getD []).length = x.length ∧ r.2.1 = nv x % y

theorem drop_set_same {l : List Int} {i : Nat} {x : Int} (h : i < l.length) : (l.set i x).drop i = x :: l.drop (i + 1) := by
  rw [List.drop_eq_getElem_cons (by simp; omega)]
  simp
  rw [List.drop_set_of_lt (by omega)]

theorem r_shorter {x : Option (List Int)} {y : Int} (hx : Dig (x.getD [])) (h0 : 0 < y) (h1 : y < 1073741824) (hl : (x.getD []).length ≤ 1099511627776) :
    callV Pg c_ref01_shorter [⟨tL, x⟩, ⟨tI, y⟩] (.tup (.pair tL (.pair tI .unit))) fun r => ShortOf (x.getD []) y r := by
  have hn := nv_nonneg hx
  refine w_ref01_shorter x y ?_ ⟨by simp only [mkC, szSl]; omega, ?_⟩
  · have h2 := nv_lt hx
    have h3 : nv (x.getD []) / y ≤ nv (x.getD []) := Int.ediv_le_self _ hn
    obtain ⟨l, q1, q2, q3⟩ := digs_ex (x.getD []).length (nv (x.getD []) / y) (Int.ediv_nonneg hn (by omega)) (by omega)
    exact ⟨(some l, nv (x.getD []) % y, ()), q1, q2, q3, rfl⟩
  refine loopE (fun p => ∃ (k : Nat) (r : Int) (o : List Int), p = (x, y, r, (k : Int) - 1, some o) ∧ k ≤ (x.getD []).length ∧ 0 ≤ r ∧ r < y ∧ Dig o ∧ o.length = (x.getD []).length ∧ nv (o.drop k) * y + r = nv ((x.getD []).drop k))
    (fun p => (p.2.2.2.1 + 1).toNat) ⟨(x.getD []).length, 0, List.replicate (x.getD []).length 0, ?_, Nat.le_refl _, by omega, h0, Dig.rep _, by simp, ?_⟩ ?_
  · simp only [szSl, repS, Int.toNat_natCast]; rw [wi64 (by omega) (by omega)]
  · rw [List.drop_of_length_le (by simp), List.drop_length]; simp [nv]
  rintro _ ⟨k, r, o, rfl, hk, r0, r1, hd, hlo, hv⟩
  dsimp only
  refine brV_iff.2 ⟨fun hb => ?_, fun hb => ?_⟩
  · have hb : (0 : Int) ≤ (k : Int) - 1 := dec_t hb
    obtain ⟨j, rfl⟩ : ∃ j, k = j + 1 := ⟨k - 1, by omega⟩
    have ek : ((j + 1 : Nat) : Int) - 1 = (j : Int) := by omega
    have g := hx.get j
    have ex : eltS (0 : Int) x (j : Int) = (x.getD []).getD j 0 := by simp only [eltS, Int.toNat_natCast]
    have hz0 : 0 ≤ r * 1073741824 + (x.getD []).getD j 0 := by omega
    have hz1 : r * 1073741824 + (x.getD []).getD j 0 < 1152921504606846976 := by omega
    have hm := Int.mul_ediv_add_emod (r * 1073741824 + (x.getD []).getD j 0) y
    have hr0 := Int.emod_nonneg (r * 1073741824 + (x.getD []).getD j 0) (show y ≠ 0 by omega)
    have hr1 := Int.emod_lt_of_pos (r * 1073741824 + (x.getD []).getD j 0) h0
    have hq0 : 0 ≤ (r * 1073741824 + (x.getD []).getD j 0) / y := Int.ediv_nonneg hz0 (by omega)
    have hq1 : (r * 1073741824 + (x.getD []).getD j 0) / y < 1073741824 := by
      refine Int.ediv_lt_of_lt_mul h0 ?_
      have : (r + 1) * 1073741824 ≤ y * 1073741824 := by omega
      rw [Int.mul_comm 1073741824 y]; omega
    rw [ek, ex, wi64 (x := r * 1073741824) (by omega) (by omega), wi64 (x := r * 1073741824 + _) (by omega) (by omega), Int.tdiv_eq_ediv_of_nonneg hz0, Int.tmod_eq_emod_of_nonneg hz0, wi64 (x := _ / y) (by omega) (by omega), wi64 (x := (j : Int) - 1) (by omega) (by omega)]
    refine ⟨⟨by omega, by omega⟩, by omega, by omega, ⟨by omega, by simp only [Option.getD_some]; omega⟩, ⟨j, _, o.set j ((r * 1073741824 + (x.getD []).getD j 0) / y), rfl, by omega, hr0, hr1, hd.set j hq0 hq1, by simp [hlo], ?_⟩, by omega⟩
    rw [drop_set_same (by omega), nv_drop (x.getD []) j (by omega), ← hv]
    simp only [nv]
    generalize (r * 1073741824 + (x.getD []).getD j 0) / y = q at *
    generalize (r * 1073741824 + (x.getD []).getD j 0) % y = s at *
    generalize nv (o.drop (j + 1)) = z at *
    grind
  · have hb : ¬ (0 : Int) ≤ (k : Int) - 1 := dec_f hb
    obtain rfl : k = 0 := by omega
    simp only [List.drop_zero] at hv
    obtain ⟨q1, q2⟩ := divmod_of hv r0 r1
    exact ⟨hd, q1, hlo, q2⟩

end Go.Proofs.Pf.B

namespace Go.Proofs.Pf.B
open Go Go.VM

def DivOf (x y : List Int) (r : Option (List Int) × Option (List Int) × Unit) : Prop :=
  (Dig (r.1.getD []) ∧ nv (r.1.getD []) = nv x / nv y ∧ (r.1.getD []).length ≤ x.length + 1) ∧ Dig (r.2.1.getD []) ∧ nv (r.2.1.getD []) = nv x % nv y ∧ (r.2.1.getD []).length ≤ x.length + 1

theorem div_ex {x y : List Int} (dx : Dig x) (hy : 0 < nv y) : ∃ r, DivOf x y r := by
  have hx := nv_nonneg dx
  have h1 := nv_lt dx
  have h0 : 0 ≤ nv x / nv y := Int.ediv_nonneg hx (by omega)
  have h3 : nv x / nv y ≤ nv x := Int.ediv_le_self _ hx
  have h4 := Int.emod_nonneg (nv x) (show nv y ≠ 0 by omega)
  have h5 : nv x % nv y ≤ nv x := by
    have := Int.mul_ediv_add_emod (nv x) (nv y)
    have : 0 ≤ nv y * (nv x / nv y) := Int.mul_nonneg (by omega) h0
    omega
  obtain ⟨a, a1, a2, a3⟩ := digs_ex x.length (nv x / nv y) h0 (by omega)
  obtain ⟨b, b1, b2, b3⟩ := digs_ex x.length (nv x % nv y) h4 (by omega)
  exact ⟨(some a, some b, ()), ⟨a1, a2, by simp only [Option.getD_some]; omega⟩, b1, b2, by simp only [Option.getD_some]; omega⟩

/-- Between two digits of the quotient. -/
structure DInv (V : Int) (u0 : List Int) (K : Nat) (u o : List Int) (n : Nat) : Prop where
  ul : u.length = u0.length
  ud : Dig u
  ol : o.length = u0.length - n
  od : Dig o
  oz : ∀ j, j < K → o.getD j 0 = 0
  kl : K ≤ u0.length - n
  val : nv u0 = nv o * V + nv u
  lt : nv u < V * 1073741824 ^ K

theorem getD_set_other {l : List Int} {i j : Nat} {x : Int} (h : i ≠ j) : (l.set i x).getD j 0 = l.getD j 0 := by
  simp [List.getD, List.getElem?_set_ne h]

/-- The part of the numerator, and what is left of it. -/
theorem DInv.step {V : Int} {u0 u o d : List Int} {k n : Nat} (h : DInv V u0 (k + 1) u o n) (hV : 0 < V) (hVn : V < 1073741824 ^ n) (hd : Dig d) (hdl : d.length = n + 1) (hn : n ≤ u0.length)
    (hdv : nv d = nv ((u.drop k).take (n + 1)) - V * (nv ((u.drop k).take (n + 1)) / V)) :
    0 ≤ nv ((u.drop k).take (n + 1)) / V ∧ nv ((u.drop k).take (n + 1)) / V < 1073741824 ∧
    DInv V u0 k (u.take k ++ d ++ u.drop (k + (n + 1))) (o.set k (nv ((u.drop k).take (n + 1)) / V)) n := by
  obtain ⟨ul, ud, ol, od, oz, kl, val, lt⟩ := h
  have hz : ZeroFrom u (k + (n + 1)) := by
    refine lt_zeroFrom ud (Int.lt_of_lt_of_le lt ?_)
    have : V * 1073741824 ^ (k + 1) ≤ 1073741824 ^ n * 1073741824 ^ (k + 1) := Int.mul_le_mul_of_nonneg_right (by omega) (by have := pow_posB (k + 1); omega)
    rw [← Int.pow_add, show n + (k + 1) = k + (n + 1) by omega] at this
    exact this
  have hW : nv (u.drop k) = nv ((u.drop k).take (n + 1)) := by
    rw [nv_split' (u.drop k) (n + 1), List.drop_drop, ZeroFrom.drop ud hz]; simp
  have hlow := take_lt ud k
  have hsp := nv_split' u k
  have hW0 := nv_nonneg (ud.drop k)
  have hWV : nv (u.drop k) < V * 1073741824 := by
    rw [hsp, Int.pow_succ] at lt
    have : 1073741824 ^ k * nv (u.drop k) < 1073741824 ^ k * (V * 1073741824) := by
      have e : V * (1073741824 ^ k * 1073741824) = 1073741824 ^ k * (V * 1073741824) := by grind
      omega
    exact Int.lt_of_mul_lt_mul_left this (by have := pow_posB k; omega)
  rw [← hW] at hdv ⊢
  have hq0 : 0 ≤ nv (u.drop k) / V := Int.ediv_nonneg hW0 (by omega)
  have hq1 : nv (u.drop k) / V < 1073741824 := Int.ediv_lt_of_lt_mul hV (by rw [Int.mul_comm]; exact hWV)
  refine ⟨hq0, hq1, ?_, ?_, by rw [List.length_set]; exact ol, od.set k hq0 hq1, ?_, by omega, ?_, ?_⟩
  · simp; omega
  · exact ((ud.take k).app hd).app (ud.drop _)
  · intro j hj; rw [getD_set_other (by omega)]; exact oz j (by omega)
  · rw [nv_set o k _ (by omega), oz k (by omega), nv_app, nv_app, ZeroFrom.drop ud hz, List.length_take, Nat.min_eq_left (by omega), hdv, val, hsp]
    generalize nv (u.drop k) / V = Q
    generalize nv (u.drop k) = W
    generalize nv (u.take k) = L
    generalize (1073741824 : Int) ^ k = K
    simp only [Int.mul_zero, Int.add_zero]
    grind
  · rw [nv_app, nv_app, ZeroFrom.drop ud hz, List.length_take, Nat.min_eq_left (by omega), hdv]
    have hr1 := Int.emod_lt_of_pos (nv (u.drop k)) hV
    have hr2 := Int.mul_ediv_add_emod (nv (u.drop k)) V
    have e : nv (u.drop k) - V * (nv (u.drop k) / V) = nv (u.drop k) % V := by omega
    rw [e]
    have h4 : 1073741824 ^ k * (nv (u.drop k) % V + 1) ≤ 1073741824 ^ k * V := Int.mul_le_mul_of_nonneg_left (by omega) (by have := pow_posB k; omega)
    rw [Int.mul_add, Int.mul_one, Int.mul_comm _ V] at h4
    simp only [Int.mul_zero, Int.add_zero]
    omega

/-- The estimate is not too small. -/
theorem est_win {V v1 wv : Int} {u : List Int} {k n : Nat} (ud : Dig u) (hz : ZeroFrom u (k + (n + 1 + 1))) (hv1 : 1 ≤ v1) (hV : V = wv + 1073741824 ^ n * v1) (w0 : 0 ≤ wv) :
    nv (u.drop k) / V ≤ (u.getD (k + n + 1) 0 * 1073741824 + u.getD (k + n) 0) / v1 := by
  have hP := pow_posB n
  refine est_ge (P := 1073741824 ^ n) hP ?_ ?_ (by omega) (nv_nonneg (ud.drop k))
  · rw [hV, Int.mul_comm]; omega
  · rw [nv_split' (u.drop k) n, List.drop_drop, nv_drop' u (k + n), nv_drop' u (k + n + 1)]
    have e : nv (u.drop (k + n + 1 + 1)) = 0 := by
      have := ZeroFrom.drop ud hz
      rwa [show k + (n + 1 + 1) = k + n + 1 + 1 by omega] at this
    rw [e]
    have t := take_lt (ud.drop k) n
    have e2 : (u.getD (k + n + 1) 0 * 1073741824 + u.getD (k + n) 0 + 1) * 1073741824 ^ n = 1073741824 ^ n * (u.getD (k + n) 0 + 1073741824 * (u.getD (k + n + 1) 0 + 1073741824 * 0)) + 1073741824 ^ n := by grind
    omega

set_option maxHeartbeats 2000000 in
theorem r_divided {x y : Option (List Int)} (dx : Dig (x.getD [])) (dy : Dig (y.getD [])) (tx : Trm (x.getD [])) (ty : Trm (y.getD [])) (hy : y.getD [] ≠ []) (hl : (x.getD []).length ≤ 1073741824) :
    callV Pg c_ref01_divided [⟨tL, x⟩, ⟨tL, y⟩] (.tup (.pair tL (.pair tL .unit))) fun r => DivOf (x.getD []) (y.getD []) r := by
  have hx0 := nv_nonneg dx
  have hyge := ty.ge dy hy
  have hyl : 0 < (y.getD []).length := List.length_pos_iff.2 hy
  have hyp : 0 < nv (y.getD []) := by have := pow_posB ((y.getD []).length - 1); omega
  refine w_ref01_divided x y (div_ex dx hyp) (brV_iff.2 ⟨fun h => ?_, fun h => ?_⟩)
  · have h : szSl y = 1 := dec_t h
    simp only [szSl] at h
    obtain ⟨y0, hy0⟩ : ∃ y0, y.getD [] = [y0] := by
      rcases e : y.getD [] with _ | ⟨y0, _ | ⟨_, _⟩⟩
      · exact absurd e hy
      · exact ⟨y0, rfl⟩
      · rw [e] at h; simp at h; omega
    have e0 : eltS (0 : Int) y 0 = y0 := by simp only [eltS, hy0]; rfl
    have g := dy y0 (by rw [hy0]; simp)
    have ny : nv (y.getD []) = y0 := by rw [hy0]; simp [nv]
    rw [e0]
    refine ⟨⟨by omega, by omega⟩, (r_shorter dx (by omega) g.2 (by omega)).mono ?_⟩
    rintro ⟨q, r, _⟩ ⟨q1, q2, q3, q4⟩
    dsimp only at q1 q2 q3 q4
    have q4 : r = nv (x.getD []) % y0 := q4
    subst q4
    have hr0 := Int.emod_nonneg (nv (x.getD [])) (show y0 ≠ 0 by omega)
    have hr1 := Int.emod_lt_of_pos (nv (x.getD [])) (show 0 < y0 by omega)
    refine ⟨⟨q1, by rw [ny]; exact q2, by show (q.getD []).length ≤ _; omega⟩, Dig.cons hr0 (by show nv (x.getD []) % y0 < _; omega) Dig.nil, ?_, ?_⟩
    · show nv [nv (x.getD []) % y0] = _; rw [ny]; simp [nv]
    · show ([nv (x.getD []) % y0] : List Int).length ≤ _; simp
  · refine (r_compare dx dy tx ty (by omega)).mono ?_
    rintro _ rfl
    refine brV_iff.2 ⟨fun h2 => ?_, fun h2 => ?_⟩
    · have h2 : cmpI (nv (x.getD [])) (nv (y.getD [])) < 0 := dec_t h2
      rw [cmpI_neg] at h2
      refine ⟨⟨Dig.nil, ?_, by simp⟩, dx, ?_, by dsimp only; omega⟩
      · show (0 : Int) = _; rw [Int.ediv_eq_zero_of_lt hx0 h2]
      · show nv (x.getD []) = _; rw [Int.emod_eq_of_lt hx0 h2]
    have h2 : ¬ cmpI (nv (x.getD [])) (nv (y.getD [])) < 0 := dec_f h2
    rw [cmpI_neg] at h2
    have h : ¬ szSl y = 1 := dec_f h
    simp only [szSl] at h
    have hle : (y.getD []).length ≤ (x.getD []).length := by
      rcases Nat.lt_or_ge (x.getD []).length (y.getD []).length with hl2 | hl2
      · have := nv_lt_len dx dy ty hl2; omega
      · exact hl2
    obtain ⟨m, hm⟩ : ∃ m, (y.getD []).length = m + 1 := ⟨(y.getD []).length - 1, by omega⟩
    have hm1 : 1 ≤ m := by omega
    have ew : IntKind.wrap IntKind.i64 (szSl y - 1) = (m : Int) := by simp only [szSl]; rw [wi64 (by omega) (by omega)]; omega
    have gy := dy.get m
    have gy0 : (y.getD []).getD m 0 ≠ 0 := by
      have hlast : (y.getD []).getLast? = some ((y.getD []).getD m 0) := by
        rw [List.getLast?_eq_some_getLast hy, List.getLast_eq_getElem]
        simp [List.getD, hm]
      exact ty _ hlast
    have ee : eltS (0 : Int) y (m : Int) = (y.getD []).getD m 0 := by simp only [eltS, Int.toNat_natCast]
    rw [ew, ee, wi64 (x := (y.getD []).getD m 0 + 1) (by omega) (by omega), Int.tdiv_eq_ediv_of_nonneg (by decide)]
    -- the factor
    obtain ⟨f, hf⟩ : ∃ f, f = 1073741824 / ((y.getD []).getD m 0 + 1) := ⟨_, rfl⟩
    have f1 : 1 ≤ f := by rw [hf]; exact Int.le_ediv_of_mul_le (by omega) (by omega)
    have f2 : f * ((y.getD []).getD m 0 + 1) ≤ 1073741824 := by rw [hf]; exact Int.ediv_mul_le _ (by omega)
    have f3 : f < 1073741824 := by
      have : f * 2 ≤ f * ((y.getD []).getD m 0 + 1) := Int.mul_le_mul_of_nonneg_left (by omega) (by omega)
      omega
    rw [← hf, wi64 (x := f) (by omega) (by omega)]
    refine ⟨⟨by omega, by omega⟩, by omega, ?_⟩
    refine (r_scaled dx (by omega) f3 (by omega)).mono ?_
    rintro u0' ⟨du, vu, lu, su⟩
    obtain ⟨u0, rfl⟩ : ∃ u0 : List Int, u0' = some u0 := by cases u0' with | none => simp at su | some l => exact ⟨l, rfl⟩
    simp only [Option.getD_some] at du vu lu
    refine (r_scaled dy (by omega) f3 (by omega)).val.mono ?_
    rintro v0' ⟨dv0, vv0, lv0, sv⟩
    obtain ⟨v0, rfl⟩ : ∃ v0 : List Int, v0' = some v0 := by cases v0' with | none => simp at sv | some l => exact ⟨l, rfl⟩
    simp only [Option.getD_some] at dv0 vv0 lv0
    -- the divisor
    have hPm := pow_posB m
    have ysp : nv (y.getD []) = nv ((y.getD []).take m) + 1073741824 ^ m * (y.getD []).getD m 0 := by
      rw [nv_split' (y.getD []) m, nv_drop' (y.getD []) m, List.drop_of_length_le (by omega)]; simp [nv]
    have ytk := take_lt dy m
    have vhigh : nv v0 < 1073741824 ^ (m + 1) := by
      rw [vv0, Int.pow_succ]
      have a1 : nv (y.getD []) < 1073741824 ^ m * ((y.getD []).getD m 0 + 1) := by rw [Int.mul_add, Int.mul_one]; omega
      have a2 : nv (y.getD []) * f < 1073741824 ^ m * ((y.getD []).getD m 0 + 1) * f := Int.mul_lt_mul_of_pos_right a1 (by omega)
      have a3 : 1073741824 ^ m * ((y.getD []).getD m 0 + 1) * f = 1073741824 ^ m * (f * ((y.getD []).getD m 0 + 1)) := by grind
      have a4 : 1073741824 ^ m * (f * ((y.getD []).getD m 0 + 1)) ≤ 1073741824 ^ m * 1073741824 := Int.mul_le_mul_of_nonneg_left f2 (by omega)
      omega
    have vlow : 1073741824 ^ m ≤ nv v0 := by
      rw [vv0]
      have a1 : 1073741824 ^ m * 1 ≤ 1073741824 ^ m * (y.getD []).getD m 0 := Int.mul_le_mul_of_nonneg_left (by omega) (by omega)
      have a2 : nv (y.getD []) * 1 ≤ nv (y.getD []) * f := Int.mul_le_mul_of_nonneg_left f1 (by omega)
      omega
    obtain ⟨v, hv⟩ : ∃ v : List Int, v = v0.take (m + 1) := ⟨_, rfl⟩
    have esl : slcS (some v0) 0 (szSl y) = some v := by
      simp only [slcS, szSl, Option.map_some, hm, hv, Int.toNat_natCast]; simp
    have dv : Dig v := hv ▸ dv0.take _
    have hvl : v.length = m + 1 := by rw [hv, List.length_take]; omega
    have vv : nv v = nv (y.getD []) * f := by
      rw [hv, ← vv0, nv_split' v0 (m + 1), ZeroFrom.drop dv0 (lt_zeroFrom dv0 vhigh)]; simp
    have hvv : nv v = nv v0 := by rw [vv, vv0]
    rw [← hvv] at vhigh vlow
    have vpos : 0 < nv v := by omega
    have vsp : nv v = nv (v.take m) + 1073741824 ^ m * v.getD m 0 := by
      rw [nv_split' v m, nv_drop' v m, List.drop_of_length_le (by omega)]; simp [nv]
    have vtk := take_lt dv m
    have gv := dv.get m
    have v1 : 1 ≤ v.getD m 0 := by
      rcases Int.lt_or_le (v.getD m 0) 1 with h3 | h3
      · have : v.getD m 0 = 0 := by omega
        rw [this] at vsp; omega
      · exact h3
    refine ⟨⟨by omega, by simp only [szSl]; omega, by simp only [szSl, Option.getD_some]; omega⟩, ?_⟩
    rw [esl]
    have esz : IntKind.wrap IntKind.i64 (szSl (some u0) - szSl (some v)) = ((u0.length - (m + 1) : Nat) : Int) := by
      simp only [szSl, Option.getD_some, hvl]; rw [wi64 (by omega) (by omega)]; omega
    rw [esz, wi64 (x := ((u0.length - (m + 1) : Nat) : Int) - 1) (by omega) (by omega)]
    refine ⟨by simp only [mkC]; omega, ?_⟩
    refine loopE (fun p => ∃ (K : Nat) (u o : List Int), p = (f, some v, ((m + 1 : Nat) : Int), (K : Int) - 1, some o, some u) ∧ DInv (nv v) u0 K u o (m + 1)) (fun p => (p.2.2.2.1 + 1).toNat) ⟨u0.length - (m + 1), u0, List.replicate (u0.length - (m + 1)) 0, ?_, ⟨rfl, du, by simp, Dig.rep _, fun j hj => by simp [List.getD, hj], Nat.le_refl _, by rw [nv_rep]; omega, ?_⟩⟩ ?_
    · simp only [szSl, Option.getD_some, hvl, repS, Int.toNat_natCast]
    · have h1 := nv_lt du
      have e : u0.length = (u0.length - (m + 1)) + (m + 1) := by omega
      -- the numerator is less than B^(n+1) f
      have a1 := nv_lt dx
      have a2 : nv (x.getD []) * f < 1073741824 ^ (x.getD []).length * f := Int.mul_lt_mul_of_pos_right a1 (by omega)
      have e2 : (x.getD []).length = (u0.length - (m + 1)) + m := by omega
      have a3 : (1073741824 : Int) ^ (x.getD []).length * f = (1073741824 ^ m * f) * 1073741824 ^ (u0.length - (m + 1)) := by rw [e2, Int.pow_add]; grind
      have a4 : 1073741824 ^ m * f ≤ nv v := by
        rw [vv]
        have b1 : 1073741824 ^ m * 1 ≤ 1073741824 ^ m * (y.getD []).getD m 0 := Int.mul_le_mul_of_nonneg_left (by omega) (by omega)
        exact Int.mul_le_mul_of_nonneg_right (by omega) (by omega)
      have a5 : (1073741824 ^ m * f) * 1073741824 ^ (u0.length - (m + 1)) ≤ nv v * 1073741824 ^ (u0.length - (m + 1)) := Int.mul_le_mul_of_nonneg_right a4 (by have := pow_posB (u0.length - (m + 1)); omega)
      rw [vu]; omega
    rintro _ ⟨K, u, o, rfl, hI⟩
    dsimp only
    have hI' := hI
    obtain ⟨ul, ud, ol, od, oz, kl, val, lt⟩ := hI'
    refine brV_iff.2 ⟨fun hb => ?_, fun hb => ?_⟩
    · have hb : (0 : Int) ≤ (K : Int) - 1 := dec_t hb
      obtain ⟨k, rfl⟩ : ∃ k, K = k + 1 := ⟨K - 1, by omega⟩
      have ek : ((k + 1 : Nat) : Int) - 1 = (k : Int) := by omega
      have e1 : IntKind.wrap IntKind.i64 ((k : Int) + ((m + 1 : Nat) : Int)) = ((k + m + 1 : Nat) : Int) := by rw [wi64 (by omega) (by omega)]; omega
      have e2 : IntKind.wrap IntKind.i64 (((k + m + 1 : Nat) : Int) - 1) = ((k + m : Nat) : Int) := by rw [wi64 (by omega) (by omega)]; omega
      have e3 : IntKind.wrap IntKind.i64 (((m + 1 : Nat) : Int) - 1) = (m : Int) := by rw [wi64 (by omega) (by omega)]; omega
      have e4 : IntKind.wrap IntKind.i64 (((k + m + 1 : Nat) : Int) + 1) = ((k + (m + 1 + 1) : Nat) : Int) := by rw [wi64 (by omega) (by omega)]; omega
      have gu0 := ud.get (k + m + 1)
      have gu1 := ud.get (k + m)
      have x1 : eltS (0 : Int) (some v) (m : Int) = v.getD m 0 := by simp only [eltS, Option.getD_some, Int.toNat_natCast]
      have x2 : eltN (0 : Int) (some u) (toN ((k + m + 1 : Nat) : Int)) = u.getD (k + m + 1) 0 := by simp only [eltN, toN, Option.getD_some, Int.toNat_natCast]
      have x3 : eltN (0 : Int) (some u) (toN ((k + m : Nat) : Int)) = u.getD (k + m) 0 := by simp only [eltN, toN, Option.getD_some, Int.toNat_natCast]
      have y1 : IntKind.wrap IntKind.i64 (u.getD (k + m + 1) 0 * 1073741824) = u.getD (k + m + 1) 0 * 1073741824 := wi64 (by omega) (by omega)
      have y2 : IntKind.wrap IntKind.i64 (u.getD (k + m + 1) 0 * 1073741824 + u.getD (k + m) 0) = u.getD (k + m + 1) 0 * 1073741824 + u.getD (k + m) 0 := wi64 (by omega) (by omega)
      have y3 : Int.tdiv (u.getD (k + m + 1) 0 * 1073741824 + u.getD (k + m) 0) (v.getD m 0) = (u.getD (k + m + 1) 0 * 1073741824 + u.getD (k + m) 0) / v.getD m 0 := Int.tdiv_eq_ediv_of_nonneg (by omega)
      have hest0 : 0 ≤ (u.getD (k + m + 1) 0 * 1073741824 + u.getD (k + m) 0) / v.getD m 0 := Int.ediv_nonneg (by omega) (by omega)
      have hest1 : (u.getD (k + m + 1) 0 * 1073741824 + u.getD (k + m) 0) / v.getD m 0 ≤ u.getD (k + m + 1) 0 * 1073741824 + u.getD (k + m) 0 := Int.ediv_le_self _ (by omega)
      have y4 : IntKind.wrap IntKind.i64 ((u.getD (k + m + 1) 0 * 1073741824 + u.getD (k + m) 0) / v.getD m 0) = (u.getD (k + m + 1) 0 * 1073741824 + u.getD (k + m) 0) / v.getD m 0 := wi64 (by omega) (by omega)
      have hz : ZeroFrom u (k + (m + 1 + 1)) := by
        refine lt_zeroFrom ud (Int.lt_of_lt_of_le lt ?_)
        have : nv v * 1073741824 ^ (k + 1) ≤ 1073741824 ^ (m + 1) * 1073741824 ^ (k + 1) := Int.mul_le_mul_of_nonneg_right (by omega) (by have := pow_posB (k + 1); omega)
        rw [← Int.pow_add, show m + 1 + (k + 1) = k + (m + 1 + 1) by omega] at this
        exact this
      have hW : nv (u.drop k) = nv ((u.drop k).take (m + 1 + 1)) := by
        rw [nv_split' (u.drop k) (m + 1 + 1), List.drop_drop, ZeroFrom.drop ud hz]; simp
      have hest := est_win (V := nv v) (wv := nv (v.take m)) ud hz v1 vsp vtk.1
      rw [hW] at hest
      have hlk : k + m + 2 ≤ u.length := by omega
      have hwl : ((u.drop k).take (m + 1 + 1)).length = m + 1 + 1 := by simp; omega
      have dW : Dig ((u.drop k).take (m + 1 + 1)) := (ud.drop k).take _
      have hW0 := nv_nonneg dW
      -- the digit
      have hq0 : 0 ≤ nv ((u.drop k).take (m + 1 + 1)) / nv v := Int.ediv_nonneg hW0 (by omega)
      have hqB : nv ((u.drop k).take (m + 1 + 1)) / nv v < 1073741824 := by
        rw [← hW]
        refine Int.ediv_lt_of_lt_mul vpos ?_
        rw [Int.mul_comm]
        have hsp := nv_split' u k
        have hlow := take_lt ud k
        rw [hsp, Int.pow_succ] at lt
        have : 1073741824 ^ k * nv (u.drop k) < 1073741824 ^ k * (nv v * 1073741824) := by
          have e : nv v * (1073741824 ^ k * 1073741824) = 1073741824 ^ k * (nv v * 1073741824) := by grind
          omega
        exact Int.lt_of_mul_lt_mul_left this (by have := pow_posB k; omega)
      rw [ek]
      simp only [e1, e2, e3, e4, x1, x2, x3, y1, y2, y3, y4]
      refine ⟨⟨by omega, by simp only [Option.getD_some]; omega⟩, ⟨by omega, by simp only [Option.getD_some]; omega⟩, ⟨by omega, by simp only [Option.getD_some]; omega⟩, by omega, ?_⟩
      refine loopE (fun p => ∃ e : Int, p = (f, some v, ((m + 1 : Nat) : Int), (k : Int), e, some o, some u) ∧ nv ((u.drop k).take (m + 1 + 1)) / nv v ≤ e ∧ e < 1073741824) (fun p => p.2.2.2.2.1.toNat) ⟨_, rfl, ?_, ?_⟩ ?_
      · unfold minI; split <;> omega
      · unfold minI; split <;> omega
      rintro _ ⟨e, rfl, q1, q2⟩
      dsimp only
      have esw : slcS (some u) (k : Int) ((k + (m + 1 + 1) : Nat) : Int) = some ((u.drop k).take (m + 1 + 1)) := by
        simp only [slcS, Option.map_some, Int.toNat_natCast]
        rw [List.drop_take]; simp
      have eap : appL (some []) (lst (some ((u.drop k).take (m + 1 + 1)))) = some ((u.drop k).take (m + 1 + 1)) := by simp [appL, lst, appS]
      have iw : inW (some u) (k : Int) ((k + (m + 1 + 1) : Nat) : Int) := ⟨rfl, by omega, by omega, by simp only [Option.getD_some]; omega⟩
      refine (r_scaled (a := some v) dv (by omega) q2 (by simp only [Option.getD_some]; omega)).val.mono ?_
      rintro p' ⟨dp, vp, lp, sp⟩
      simp only [Option.getD_some] at vp lp
      refine (r_trim (a := p') (by omega)).mono ?_
      rintro _ rfl
      simp only [e1, e4, esw, eap]
      refine ⟨iw, ?_, (r_trim (a := some ((u.drop k).take (m + 1 + 1))) (by simp only [Option.getD_some]; omega)).mono ?_⟩
      · show (0 + ((u.drop k).take (m + 1 + 1)).length) * 8 ≤ 140737488355328; omega
      rintro _ rfl
      refine (r_compare (by rw [map_trim_get]; exact dp.trim) (by rw [map_trim_get]; exact dW.trim) (by rw [map_trim_get]; exact trm_trim _) (by rw [map_trim_get]; exact trm_trim _) (by rw [map_trim_get]; have := len_trim (p'.getD []); omega)).mono ?_
      rintro _ rfl
      rw [map_trim_get, map_trim_get, nv_trim, nv_trim, vp]
      simp only [Option.getD_some]
      refine brV_iff.2 ⟨fun hc => ?_, fun hc => ?_⟩
      · have hc : cmpI (nv v * e) (nv ((u.drop k).take (m + 1 + 1))) ≤ 0 := dec_t hc
        have hle : nv v * e ≤ nv ((u.drop k).take (m + 1 + 1)) := by
          unfold cmpI at hc
          split at hc
          · omega
          · split at hc <;> omega
        have heq : e = nv ((u.drop k).take (m + 1 + 1)) / nv v := by
          have : e ≤ nv ((u.drop k).take (m + 1 + 1)) / nv v := Int.le_ediv_of_mul_le vpos (by rw [Int.mul_comm]; exact hle)
          omega
        refine ⟨iw, (r_difference (a := some ((u.drop k).take (m + 1 + 1))) (b := p') dW dp (by rw [vp]; exact hle) (by simp only [Option.getD_some]; omega) (by simp only [Option.getD_some]; omega)).mono ?_⟩
        rintro d ⟨dd, vd, ld⟩
        simp only [Option.getD_some] at vd ld
        rw [vp, heq] at vd
        obtain ⟨r0, r1, hnext⟩ := hI.step vpos vhigh dd (by omega) (by omega) vd
        have hcp : cpyS (some u) (k : Int) (szSl (some u)) d = some (u.take k ++ d.getD [] ++ u.drop (k + (m + 1 + 1))) := by
          simp only [cpyS, Option.map_some, szSl, Option.getD_some, Int.toNat_natCast, ld, hwl]
          rw [Nat.min_eq_right (by omega), List.take_of_length_le (l := d.getD []) (by omega)]
        rw [hcp]
        refine ⟨⟨rfl, by omega, by simp only [szSl, Option.getD_some]; omega, by simp only [szSl, Option.getD_some]; omega⟩, ⟨by omega, by simp only [Option.getD_some]; omega⟩, ⟨k, _, _, ?_, hnext⟩, ?_⟩
        · rw [wi64 (by omega) (by omega), heq]; simp only [setO, toN, Option.map_some, Int.toNat_natCast]
        · rw [wi64 (by omega) (by omega)]; omega
      · have hc : ¬ cmpI (nv v * e) (nv ((u.drop k).take (m + 1 + 1))) ≤ 0 := dec_f hc
        have hgt : nv ((u.drop k).take (m + 1 + 1)) < nv v * e := by
          unfold cmpI at hc
          split at hc
          · omega
          · split at hc <;> omega
        have hne : nv ((u.drop k).take (m + 1 + 1)) / nv v < e := Int.ediv_lt_of_lt_mul vpos (by rw [Int.mul_comm]; exact hgt)
        rw [wi64 (x := e - 1) (by omega) (by omega)]
        exact ⟨⟨e - 1, rfl, by omega, by omega⟩, by omega⟩
    · have hb : ¬ (0 : Int) ≤ (K : Int) - 1 := dec_f hb
      obtain rfl : K = 0 := by omega
      simp only [Int.pow_zero, Int.mul_one] at lt
      have hu0 := nv_nonneg ud
      have htk : nv (u.take (m + 1)) = nv u := by
        rw [nv_split' u (m + 1), ZeroFrom.drop ud (lt_zeroFrom ud (show nv u < 1073741824 ^ (m + 1) by omega))]; simp
      rw [vu, vv] at val
      have hR : nv u = (nv (x.getD []) - nv o * nv (y.getD [])) * f := by rw [Int.sub_mul, val]; grind
      have hR0 : 0 ≤ nv (x.getD []) - nv o * nv (y.getD []) := by
        rw [hR] at hu0
        rcases Int.lt_or_le (nv (x.getD []) - nv o * nv (y.getD [])) 0 with h | h
        · have : (nv (x.getD []) - nv o * nv (y.getD [])) * f < 0 := Int.mul_neg_of_neg_of_pos h (by omega)
          omega
        · exact h
      have hR1 : nv (x.getD []) - nv o * nv (y.getD []) < nv (y.getD []) := by
        rw [hR, vv] at lt
        exact Int.lt_of_mul_lt_mul_right lt (by omega)
      obtain ⟨d1, d2⟩ := divmod_of (show nv o * nv (y.getD []) + (nv (x.getD []) - nv o * nv (y.getD [])) = nv (x.getD []) by omega) hR0 hR1
      have esw : slcS (some u) (0 : Int) ((m + 1 : Nat) : Int) = some (u.take (m + 1)) := by simp only [slcS, Option.map_some, Int.toNat_natCast]; simp
      rw [esw]
      refine ⟨⟨rfl, by omega, by omega, by simp only [Option.getD_some]; omega⟩, (r_shorter (x := some (u.take (m + 1))) (ud.take _) (by omega) f3 (by simp; omega)).mono ?_⟩
      rintro ⟨q, r, _⟩ ⟨s1, s2, s3, s4⟩
      simp only [Option.getD_some] at s2 s3
      rw [htk, hR, Int.mul_ediv_cancel _ (by omega)] at s2
      refine ⟨⟨od, d1, by simp only [Option.getD_some]; omega⟩, s1, by rw [← d2]; exact s2, ?_⟩
      show (q.getD []).length ≤ _
      rw [s3, List.length_take]; omega

end Go.Proofs.Pf.B

namespace Go.Proofs.Pf.B
open Go Go.VM

theorem eqB_t {a b : Bool} (h : eqB a b = true) : a = b := by revert h; cases a <;> cases b <;> simp [eqB]
theorem eqB_f {a b : Bool} (h : eqB a b = false) : a ≠ b := by revert h; cases a <;> cases b <;> simp [eqB]

theorem sgn_neg {n : Int} : sgn n < 0 ↔ n < 0 := by
  rcases sgn3 n with ⟨e, h⟩ | ⟨e, h⟩ | ⟨e, h⟩ <;> rw [e] <;> constructor <;> intro <;> omega

theorem sg_dec {P : Prop} [Decidable P] {v n : Int} (h1 : P → n = -v) (h2 : ¬ P → n = v) : sg (decide P) v = n := by
  by_cases h : P
  · rw [h1 h]; simp [sg, h]
  · rw [h2 h]; simp [sg, h]

theorem r_Plus {x y : Int × Bool × Option (List Int)} {n m : Int} {k j : Nat} (hx : RIV x n) (hy : RIV y m) (fx : Fit k n) (fy : Fit j m) (hk : k ≤ 1073741824) (hj : j ≤ 1073741824) : callV Pg c_ref01_Int_Plus [⟨tRI, x⟩, ⟨tRI, y⟩] tRI fun r => RIV r (n + m) := by
  refine w_ref01_Int_Plus x y (RIV_ex _) (joinR (fun p => ∃ c : Bool, p = (c, x, y, ((0 : Int), false, none)) ∧ (c = true → x.2.2.getD [] = [] ∧ y.2.2.getD [] = [])) ?_ ?_)
  · rintro _ ⟨c, rfl, hc⟩
    refine brV_iff.2 ⟨fun h => ?_, fun _ => ?_⟩
    · obtain ⟨h1, h2⟩ := hc h
      rcases hx with ⟨_, q2, q3, q4⟩ | ⟨q1, _⟩
      case inr => exact absurd h1 q1
      rcases hy with ⟨_, p2, p3, p4⟩ | ⟨q1, _⟩
      case inr => exact absurd h2 q1
      dsimp only
      rw [q2, p2, wi64 (by omega) (by omega)]
      exact r_Of (by omega) (by omega)
    · dsimp only
      refine (r_list hx).mono ?_
      rintro X ⟨d1, t1, v1⟩
      refine (r_list hy).mono ?_
      rintro Y ⟨d2, t2, v2⟩
      refine (r_Sign hx).mono ?_
      rintro _ rfl
      refine (r_Sign hy).mono ?_
      rintro _ rfl
      have l1 := t1.fit d1 fx v1
      have l2 := t2.fit d2 fy v2
      refine brV_iff.2 ⟨fun h => ?_, fun h => ?_⟩
      · have h := eqB_t h
        rw [decide_eq_decide, sgn_neg, sgn_neg] at h
        refine (r_sum d1 d2 (by omega) (by omega)).mono ?_
        rintro S ⟨dS, vS, lS⟩
        refine (r_made dS (by omega)).mono ?_
        intro r hr
        rw [vS, v1, v2, sg_dec (n := n + m) (by rw [sgn_neg]; omega) (by rw [sgn_neg]; omega)] at hr
        exact hr
      · have h := eqB_f h
        simp only [ne_eq, decide_eq_decide, sgn_neg] at h
        refine (r_compare d1 d2 t1 t2 (by omega)).mono ?_
        rintro _ rfl
        refine brV_iff.2 ⟨fun h2 => ?_, fun h2 => ?_⟩
        · have h2 : 0 ≤ cmpI (nv (X.getD [])) (nv (Y.getD [])) := dec_t h2
          rw [cmpI_le] at h2
          have hl : (Y.getD []).length ≤ (X.getD []).length := by
            rcases Nat.lt_or_ge (X.getD []).length (Y.getD []).length with hl | hl
            · have := nv_lt_len d1 d2 t2 hl; omega
            · exact hl
          refine (r_difference d1 d2 h2 hl (by omega)).val.mono ?_
          rintro S ⟨dS, vS, lS⟩
          refine (r_made dS (by omega)).mono ?_
          intro r hr
          rw [vS, v1, v2, sg_dec (n := n + m) (by rw [sgn_neg]; omega) (by rw [sgn_neg]; omega)] at hr
          exact hr
        · have h2 : nv (X.getD []) < nv (Y.getD []) := cmpI_lt (dec_f h2)
          have hl : (X.getD []).length ≤ (Y.getD []).length := by
            rcases Nat.lt_or_ge (Y.getD []).length (X.getD []).length with hl | hl
            · have := nv_lt_len d2 d1 t1 hl; omega
            · exact hl
          refine (r_difference d2 d1 (by omega) hl (by omega)).val.mono ?_
          rintro S ⟨dS, vS, lS⟩
          refine (r_made dS (by omega)).mono ?_
          intro r hr
          rw [vS, v1, v2, sg_dec (n := n + m) (by rw [sgn_neg]; omega) (by rw [sgn_neg]; omega)] at hr
          exact hr
  · intro k hk
    refine brV_iff.2 ⟨fun h => hk _ ⟨_, rfl, fun h2 => ?_⟩, fun h => hk _ ⟨false, rfl, fun h2 => by simp at h2⟩⟩
    have h : szSl x.2.2 = 0 := dec_t h
    have h2 : szSl y.2.2 = 0 := dec_t h2
    simp only [szSl] at h h2
    exact ⟨List.eq_nil_of_length_eq_zero (by omega), List.eq_nil_of_length_eq_zero (by omega)⟩

theorem r_Less {x y : Int × Bool × Option (List Int)} {n m : Int} {k j : Nat} (hx : RIV x n) (hy : RIV y m) (fx : Fit k n) (fy : Fit j m) (hk : k ≤ 1073741824) (hj : j ≤ 1073741824) : callV Pg c_ref01_Int_Less [⟨tRI, x⟩, ⟨tRI, y⟩] tRI fun r => RIV r (n - m) := by
  refine w_ref01_Int_Less x y (RIV_ex _) ((r_Minus hy).mono fun p h => (r_Plus hx h fx fy.neg hk hj).mono fun r hr => ?_)
  rw [Int.sub_eq_add_neg]; exact hr

theorem r_ICompare {x y : Int × Bool × Option (List Int)} {n m : Int} {k j : Nat} (hx : RIV x n) (hy : RIV y m) (fx : Fit k n) (fy : Fit j m) (hk : k ≤ 1073741824) (hj : j ≤ 1073741824) : callV Pg c_ref01_Int_Compare [⟨tRI, x⟩, ⟨tRI, y⟩] tI fun r => r = sgn (n - m) :=
  w_ref01_Int_Compare x y ⟨_, rfl⟩ ((r_Less hx hy fx fy hk hj).mono fun p h => r_Sign h)

theorem r_Over {x y : Int × Bool × Option (List Int)} {n m : Int} {k : Nat} (hx : RIV x n) (hy : RIV y m) (hm : m ≠ 0) (fx : Fit k n) (hk : k ≤ 1073741824) : callV Pg c_ref01_Int_Over [⟨tRI, x⟩, ⟨tRI, y⟩] (.tup (.pair tRI (.pair tRI .unit))) fun r => RIV r.1 (n.tdiv m) ∧ RIV r.2.1 (n.tmod m) := by
  obtain ⟨y1, y2⟩ := quo_sgn n m hm
  refine w_ref01_Int_Over x y ?_ (joinR (fun p => ∃ c : Bool, p = (c, x, y, ((0 : Int), false, none), ((0 : Int), false, none)) ∧ (c = true → x.2.2.getD [] = [] ∧ y.2.2.getD [] = [])) ?_ ?_)
  · obtain ⟨a, ha⟩ := RIV_ex (n.tdiv m)
    obtain ⟨b, hb⟩ := RIV_ex (n.tmod m)
    exact ⟨(a, b, ()), ha, hb⟩
  · rintro _ ⟨c, rfl, hc⟩
    refine brV_iff.2 ⟨fun h => ?_, fun _ => ?_⟩
    · obtain ⟨h1, h2⟩ := hc h
      rcases hx with ⟨_, q2, q3, q4⟩ | ⟨q1, _⟩
      case inr => exact absurd h1 q1
      rcases hy with ⟨_, p2, p3, p4⟩ | ⟨q1, _⟩
      case inr => exact absurd h2 q1
      dsimp only
      rw [q2, p2]
      have g1 : (n.tdiv m).natAbs ≤ n.natAbs := by rw [Int.natAbs_tdiv]; exact Nat.div_le_self _ _
      have g2 : (n.tmod m).natAbs ≤ n.natAbs := by rw [Int.natAbs_tmod]; exact Nat.mod_le _ _
      rw [wi64 (by omega) (by omega)]
      exact ⟨hm, hm, RIV.small rfl (by omega) (by omega), RIV.small rfl (by omega) (by omega)⟩
    · dsimp only
      refine (r_list hx).mono ?_
      rintro X ⟨d1, t1, v1⟩
      refine (r_list hy).mono ?_
      rintro Y ⟨d2, t2, v2⟩
      have l1 := t1.fit d1 fx v1
      have hY : Y.getD [] ≠ [] := by intro e; rw [e] at v2; simp only [nv] at v2; omega
      refine (r_divided d1 d2 t1 t2 hY (by omega)).mono ?_
      rintro ⟨q, r, _⟩ ⟨⟨dq, vq, lq⟩, dr, vr, lr⟩
      dsimp only at dq vq lq dr vr lr ⊢
      rw [v1, v2] at vq vr
      refine (r_Sign hx).mono ?_
      rintro _ rfl
      refine (r_Sign hy).mono ?_
      rintro _ rfl
      refine (r_made dq (by omega)).mono ?_
      intro p hp
      refine (r_Sign hx).mono ?_
      rintro _ rfl
      refine (r_made dr (by omega)).mono ?_
      intro p2 hp2
      have z : n = 0 → ((n.natAbs : Int) / m.natAbs = 0) := by rintro rfl; simp
      have e1 : sg (notB (decide (sgn n = sgn m))) (nv (q.getD [])) = n.tdiv m := by
        rw [vq, ← y1]
        rcases sgn3 n with ⟨e1, h1⟩ | ⟨e1, h1⟩ | ⟨e1, h1⟩ <;> rcases sgn3 m with ⟨e2, h2⟩ | ⟨e2, h2⟩ | ⟨e2, h2⟩ <;> rw [e1, e2]
        · simp [sg]
        · simp [sg]
        · exact absurd h2 hm
        · simp [sg]
        · simp [sg]
        · exact absurd h2 hm
        all_goals (rw [z h1]; simp [sg])
      have e2 : sg (decide (sgn n < 0)) (nv (r.getD [])) = n.tmod m := by
        rw [vr, ← y2]
        rcases sgn3 n with ⟨e1, h1⟩ | ⟨e1, h1⟩ | ⟨e1, h1⟩ <;> rw [e1]
        · simp [sg]
        · simp [sg]
        · rw [h1]; simp [sg]
      rw [e1] at hp
      rw [e2] at hp2
      exact ⟨hp, hp2⟩
  · intro k hk
    refine brV_iff.2 ⟨fun h => hk _ ⟨_, rfl, fun h2 => ?_⟩, fun h => hk _ ⟨false, rfl, fun h2 => by simp at h2⟩⟩
    have h : szSl x.2.2 = 0 := dec_t h
    have h2 : szSl y.2.2 = 0 := dec_t h2
    simp only [szSl] at h h2
    exact ⟨List.eq_nil_of_length_eq_zero (by omega), List.eq_nil_of_length_eq_zero (by omega)⟩

def rval (x : Int × Bool × Option (List Int)) : Int := if x.2.2.getD [] = [] then x.1 else if x.2.1 = true then -nv (x.2.2.getD []) else nv (x.2.2.getD [])

theorem RIV.val {x : Int × Bool × Option (List Int)} {n : Int} (h : RIV x n) : rval x = n := by
  rcases h with ⟨h1, h2, _⟩ | ⟨h1, _, _, _, _, h2⟩
  · rw [rval, if_pos h1, h2]
  · rw [rval, if_neg h1, h2]

theorem r_Gcd {x y : Int × Bool × Option (List Int)} {n m : Int} {k : Nat} (hx : RIV x n) (hy : RIV y m) (fx : Fit k n) (fy : Fit k m) (hk : k ≤ 1073741824) : callV Pg c_ref01_Gcd [⟨tRI, x⟩, ⟨tRI, y⟩] tRI fun r => RIV r (Int.gcd n m : Int) := by
  refine w_ref01_Gcd x y (RIV_ex _) ?_
  refine loopE (fun p => ∃ a b : Int, RIV p.1 a ∧ RIV p.2.1 b ∧ Int.gcd a b = Int.gcd n m ∧ Fit k a ∧ Fit k b) (fun p => (rval p.2.1).natAbs) ⟨n, m, hx, hy, rfl, fx, fy⟩ ?_
  rintro ⟨A, B, z⟩ ⟨a, b, ha, hb, hg, fa, fb⟩
  dsimp only at ha hb ⊢
  refine (r_Sign hb).mono ?_
  rintro _ rfl
  refine brV_iff.2 ⟨fun h => ?_, fun h => ?_⟩
  · have h : ¬ sgn b = 0 := not_t h
    have hb0 : b ≠ 0 := by rintro rfl; exact h rfl
    refine (r_Over ha hb hb0 fa hk).mono ?_
    rintro ⟨q, r, _⟩ ⟨_, hr⟩
    dsimp only at hr ⊢
    have hlt : (a.tmod b).natAbs < b.natAbs := by rw [Int.natAbs_tmod]; exact Nat.mod_lt _ (by omega)
    refine ⟨⟨b, a.tmod b, hb, hr, ?_, fb, fb.of (by omega)⟩, ?_⟩
    · rw [← hg]; unfold Int.gcd; rw [Int.natAbs_tmod, Nat.gcd_comm b.natAbs, ← Nat.gcd_rec b.natAbs a.natAbs, Nat.gcd_comm]
    · rw [hr.val, hb.val]; exact hlt
  · have h : sgn b = 0 := not_f h
    have hb0 : b = 0 := sgn_z h
    subst hb0
    refine (r_Abs ha).mono fun r hr => ?_
    rw [← hg]; unfold Int.gcd
    rw [Int.natAbs_zero, Nat.gcd_zero_right]; exact hr

end Go.Proofs.Pf.B

namespace Go.Proofs.Pf.B
open Go Go.VM

theorem mul_dig {p q z c : Int} (hp : 0 ≤ p) (hp' : p < 1073741824) (hq : 0 ≤ q) (hq' : q < 1073741824) (hz : 0 ≤ z) (hz' : z < 1073741824) (hc : 0 ≤ c) (hc' : c < 1073741824) :
    0 ≤ p * q + z + c ∧ p * q + z + c < 1152921504606846976 ∧ IntKind.wrap IntKind.i64 (c + IntKind.wrap IntKind.i64 (z + IntKind.wrap IntKind.i64 (p * q))) = p * q + z + c := by
  have h0 : 0 ≤ p * q := Int.mul_nonneg hp hq
  have h1 : p * q ≤ 1073741823 * 1073741823 := Int.mul_le_mul (by omega) (by omega) hq (by omega)
  generalize p * q = m at *
  rw [wi64 (x := m) (by omega) (by omega), wi64 (x := z + m) (by omega) (by omega), wi64 (by omega) (by omega)]
  omega

/-- The state of a product. -/
structure MInv (x y : List Int) (i : Nat) (o : List Int) : Prop where
  len : o.length = x.length + y.length
  dig : Dig o
  val : nv o = nv (x.take i) * nv y
  zero : ∀ j, i + y.length ≤ j → o.getD j 0 = 0

structure MIn (x y : List Int) (i k : Nat) (c : Int) (o : List Int) : Prop where
  len : o.length = x.length + y.length
  dig : Dig o
  c0 : 0 ≤ c
  c1 : c < 1073741824
  val : nv o + 1073741824 ^ (i + k) * c = nv (x.take i) * nv y + 1073741824 ^ i * x.getD i 0 * nv (y.take k)
  zero : ∀ j, i + y.length ≤ j → o.getD j 0 = 0

theorem MIn.start {x y : List Int} {i : Nat} {o : List Int} (h : MInv x y i o) : MIn x y i 0 0 o := ⟨h.len, h.dig, Int.le_refl _, by decide, by simp [nv, h.val], h.zero⟩

theorem MIn.step {x y : List Int} {i k : Nat} {c : Int} {o : List Int} (hx : Dig x) (hy : Dig y) (hi : i < x.length) (hk : k < y.length) (h : MIn x y i k c o) :
    MIn x y i (k + 1) ((x.getD i 0 * y.getD k 0 + o.getD (i + k) 0 + c) / 1073741824) (o.set (i + k) ((x.getD i 0 * y.getD k 0 + o.getD (i + k) 0 + c) % 1073741824)) := by
  have gx := hx.get i
  have gy := hy.get k
  have go := h.dig.get (i + k)
  have hl := h.len
  obtain ⟨m1, m2, _⟩ := mul_dig gx.1 gx.2 gy.1 gy.2 go.1 go.2 h.c0 h.c1
  refine ⟨by simp [hl], h.dig.set _ (by omega) (by omega), by omega, by omega, ?_, fun j hj => ?_⟩
  · rw [nv_set _ _ _ (by omega), nv_take_succ']
    have hv := h.val
    have hdm := Int.emod_add_mul_ediv (x.getD i 0 * y.getD k 0 + o.getD (i + k) 0 + c) 1073741824
    generalize (x.getD i 0 * y.getD k 0 + o.getD (i + k) 0 + c) % 1073741824 = d at *
    generalize (x.getD i 0 * y.getD k 0 + o.getD (i + k) 0 + c) / 1073741824 = e at *
    have e1 : (1073741824 : Int) ^ (i + (k + 1)) = 1073741824 ^ (i + k) * 1073741824 := by rw [← Nat.add_assoc, Int.pow_succ]
    have e2 : (1073741824 : Int) ^ (i + k) = 1073741824 ^ i * 1073741824 ^ k := Int.pow_add ..
    rw [e1]
    rw [e2] at hv ⊢
    generalize (1073741824 : Int) ^ i = bi at *
    generalize (1073741824 : Int) ^ k = bk at *
    grind
  · rw [getD_set_other (by omega)]; exact h.zero j hj

theorem MIn.fin {x y : List Int} {i : Nat} {c : Int} {o : List Int} (hi : i < x.length) (h : MIn x y i y.length c o) : MInv x y (i + 1) (o.set (i + y.length) c) := by
  have hl := h.len
  refine ⟨by simp [hl], h.dig.set _ h.c0 h.c1, ?_, fun j hj => ?_⟩
  · rw [nv_set _ _ _ (by omega), h.zero _ (Nat.le_refl _), nv_take_succ']
    have hv := h.val
    rw [List.take_length] at hv
    grind
  · rw [getD_set_other (by omega)]; exact h.zero j (by omega)

theorem r_Times {x y : Int × Bool × Option (List Int)} {n m : Int} {k j : Nat} (hx : RIV x n) (hy : RIV y m) (fx : Fit k n) (fy : Fit j m) (hk : k ≤ 1073741824) (hj : j ≤ 1073741824) : callV Pg c_ref01_Int_Times [⟨tRI, x⟩, ⟨tRI, y⟩] tRI fun r => RIV r (n * m) := by
  refine w_ref01_Int_Times x y (RIV_ex _) (joinR (fun p => ∃ c : Bool, p = (c, x, y, ((0 : Int), false, none)) ∧ (c = true → x.2.2.getD [] = [] ∧ y.2.2.getD [] = [] ∧ -1073741824 < x.1 ∧ x.1 < 1073741824 ∧ -1073741824 < y.1 ∧ y.1 < 1073741824)) ?_ ?_)
  · rintro _ ⟨c, rfl, hc⟩
    refine brV_iff.2 ⟨fun h => ?_, fun _ => ?_⟩
    · obtain ⟨h1, h2, b1, b2, b3, b4⟩ := hc h
      rcases hx with ⟨_, q2, q3, q4⟩ | ⟨q1, _⟩
      case inr => exact absurd h1 q1
      rcases hy with ⟨_, p2, p3, p4⟩ | ⟨q1, _⟩
      case inr => exact absurd h2 q1
      dsimp only
      rw [q2] at b1 b2
      rw [p2] at b3 b4
      have g : (n * m).natAbs ≤ 1073741823 * 1073741823 := by rw [Int.natAbs_mul]; exact Nat.mul_le_mul (by omega) (by omega)
      rw [q2, p2, wi64 (by omega) (by omega)]
      exact RIV.small rfl (by omega) (by omega)
    · dsimp only
      refine (r_list hx).mono ?_
      rintro X' ⟨d1, t1, v1⟩
      refine (r_list hy).mono ?_
      rintro Y' ⟨d2, t2, v2⟩
      have l1 := t1.fit d1 fx v1
      have l2 := t2.fit d2 fy v2
      obtain ⟨X, hX⟩ : ∃ X : List Int, X = X'.getD [] := ⟨_, rfl⟩
      obtain ⟨Y, hY⟩ : ∃ Y : List Int, Y = Y'.getD [] := ⟨_, rfl⟩
      rw [← hX] at d1 t1 v1 l1
      rw [← hY] at d2 t2 v2 l2
      have sX : szSl X' = (X.length : Int) := by simp only [szSl, hX]
      have sY : szSl Y' = (Y.length : Int) := by simp only [szSl, hY]
      have el : IntKind.wrap IntKind.i64 ((X.length : Int) + (Y.length : Int)) = ((X.length + Y.length : Nat) : Int) := by rw [wi64 (by omega) (by omega)]; omega
      rw [sX, sY, el]
      refine ⟨by simp only [mkC]; omega, ?_⟩
      refine loopE (fun p => ∃ (i : Nat) (o : List Int), i ≤ X.length ∧ MInv X Y i o ∧ p = (X', Y', (X.length : Int), (i : Int), x, y, ((0 : Int), false, none), some o)) (fun p => ((X.length : Int) - p.2.2.2.1).toNat) ⟨0, List.replicate (X.length + Y.length) 0, by omega, ⟨by simp, Dig.rep _, by rw [nv_rep]; simp [nv], fun j _ => ?_⟩, ?_⟩ ?_
      · simp only [List.getD, List.getElem?_replicate]; split <;> rfl
      · simp only [repS, Int.toNat_natCast]; rfl
      rintro _ ⟨i, o, hi, hI, rfl⟩
      refine brV_iff.2 ⟨fun hb => ?_, fun hb => ?_⟩
      · have hb : (i : Int) < (X.length : Int) := dec_t hb
        dsimp only
        rw [sY]
        refine loopE (fun p => ∃ (k : Nat) (c : Int) (o : List Int), k ≤ Y.length ∧ MIn X Y i k c o ∧ p = (X', Y', (i : Int), c, (X.length : Int), (i : Int), (Y.length : Int), (k : Int), x, y, ((0 : Int), false, none), some o)) (fun p => ((Y.length : Int) - p.2.2.2.2.2.2.2.1).toNat) ⟨0, 0, o, by omega, MIn.start hI, rfl⟩ ?_
        rintro _ ⟨k, c, o, hk', hM, rfl⟩
        have hl := hM.len
        dsimp only
        refine brV_iff.2 ⟨fun hc => ?_, fun hc => ?_⟩
        · have hc : (k : Int) < (Y.length : Int) := dec_t hc
          have ei : IntKind.wrap IntKind.i64 ((i : Int) + (k : Int)) = ((i + k : Nat) : Int) := by rw [wi64 (by omega) (by omega)]; omega
          have ek : IntKind.wrap IntKind.i64 ((k : Int) + 1) = ((k + 1 : Nat) : Int) := by rw [wi64 (by omega) (by omega)]; omega
          have gx := d1.get i
          have gy := d2.get k
          have go := hM.dig.get (i + k)
          obtain ⟨m1, m2, m3⟩ := mul_dig gx.1 gx.2 gy.1 gy.2 go.1 go.2 hM.c0 hM.c1
          have hst := hM.step d1 d2 (by omega) (by omega)
          simp only [inS, eltN, eltS, toN, Option.getD_some, Int.toNat_natCast, ei, ek, ← hX, ← hY, m3]
          rw [Int.tdiv_eq_ediv_of_nonneg m1, Int.tmod_eq_emod_of_nonneg m1, wi64 (by omega) (by omega)]
          refine ⟨⟨by omega, by omega⟩, ⟨by omega, by omega⟩, ⟨by omega, by omega⟩, by decide, ⟨by omega, by omega⟩, by decide, ⟨k + 1, _, _, by omega, hst, rfl⟩, by omega⟩
        · have hc : ¬ (k : Int) < (Y.length : Int) := dec_f hc
          have : k = Y.length := by omega
          subst this
          have ei : IntKind.wrap IntKind.i64 ((i : Int) + (Y.length : Int)) = ((i + Y.length : Nat) : Int) := by rw [wi64 (by omega) (by omega)]; omega
          have ek : IntKind.wrap IntKind.i64 ((i : Int) + 1) = ((i + 1 : Nat) : Int) := by rw [wi64 (by omega) (by omega)]; omega
          have hf := hM.fin (by omega)
          simp only [inS, toN, Option.getD_some, Int.toNat_natCast, sY, ei, ek]
          refine ⟨⟨by omega, by omega⟩, ⟨i + 1, _, by omega, hf, rfl⟩, by omega⟩
      · have hb : ¬ (i : Int) < (X.length : Int) := dec_f hb
        have : i = X.length := by omega
        subst this
        have hv := hI.val
        rw [List.take_length, v1, v2] at hv
        dsimp only
        refine (r_Sign hx).mono ?_
        rintro _ rfl
        refine (r_Sign hy).mono ?_
        rintro _ rfl
        have hln := hI.len
        refine (r_made (b := some o) hI.dig (by simp only [Option.getD_some]; omega)).mono ?_
        intro r hr
        have e1 : sg (notB (decide (sgn n = sgn m))) (nv o) = n * m := by
          rw [hv]
          rcases sgn3 n with ⟨e1, h1⟩ | ⟨e1, h1⟩ | ⟨e1, h1⟩ <;> rcases sgn3 m with ⟨e2, h2⟩ | ⟨e2, h2⟩ | ⟨e2, h2⟩ <;> rw [e1, e2]
          · rw [show (n.natAbs : Int) = n by omega, show (m.natAbs : Int) = m by omega]; simp [sg]
          · rw [show (n.natAbs : Int) = n by omega, show (m.natAbs : Int) = -m by omega]; simp [sg, Int.mul_neg]
          · subst h2; simp [sg]
          · rw [show (n.natAbs : Int) = -n by omega, show (m.natAbs : Int) = m by omega]; simp [sg, Int.neg_mul]
          · rw [show (n.natAbs : Int) = -n by omega, show (m.natAbs : Int) = -m by omega]; simp [sg, Int.neg_mul_neg]
          · subst h2; simp [sg]
          all_goals (subst h1; simp [sg])
        simp only [Option.getD_some] at hr
        rw [e1] at hr
        exact hr
  · intro k hk
    have nf := hk (false, x, y, ((0 : Int), false, none)) ⟨false, rfl, fun h2 => by simp at h2⟩
    refine brV_iff.2 ⟨fun h1 => brV_iff.2 ⟨fun h2 => brV_iff.2 ⟨fun h3 => brV_iff.2 ⟨fun h4 => brV_iff.2 ⟨fun h5 => hk _ ⟨_, rfl, fun h6 => ?_⟩, fun _ => nf⟩, fun _ => nf⟩, fun _ => nf⟩, fun _ => nf⟩, fun _ => nf⟩
    have h1 : szSl x.2.2 = 0 := dec_t h1
    have h2 : szSl y.2.2 = 0 := dec_t h2
    simp only [szSl] at h1 h2
    exact ⟨List.eq_nil_of_length_eq_zero (by omega), List.eq_nil_of_length_eq_zero (by omega), dec_t h3, dec_t h4, dec_t h5, dec_t h6⟩

end Go.Proofs.Pf.B

namespace Go.Proofs.Pf.B
open Go Go.VM

def RRV (x : (Int × Bool × Option (List Int)) × (Int × Bool × Option (List Int))) (q : Rat) : Prop := RIV x.1 q.num ∧ RIV x.2 (q.den : Int)

theorem RRV_ex (q : Rat) : ∃ r, RRV r q := by
  obtain ⟨a, ha⟩ := RIV_ex q.num
  obtain ⟨b, hb⟩ := RIV_ex (q.den : Int)
  exact ⟨(a, b), ha, hb⟩

def RFit (k : Nat) (q : Rat) : Prop := Fit k q.num ∧ Fit k (q.den : Int)

theorem RFit.mono {k j : Nat} {q : Rat} (h : RFit k q) (hj : k ≤ j) : RFit j q := ⟨h.1.mono hj, h.2.mono hj⟩

theorem fit_i64 {n : Int} (h1 : -9223372036854775808 ≤ n) (h2 : n < 9223372036854775808) : Fit 3 n := by
  unfold Fit
  rw [show (1073741824 : Int) ^ 3 = 1237940039285380274899124224 from rfl]
  omega

theorem r_Make {x y : Int × Bool × Option (List Int)} {n m : Int} {k : Nat} (hx : RIV x n) (hy : RIV y m) (hm : m ≠ 0) (fx : Fit k n) (fy : Fit k m) (hk : k ≤ 1073741824) : callV Pg c_ref01_Make [⟨tRI, x⟩, ⟨tRI, y⟩] tRR fun r => RRV r (Rat.divInt n m) := by
  refine w_ref01_Make x y (RRV_ex _) ((r_Sign hy).mono ?_)
  rintro _ rfl
  refine joinR (fun p => ∃ n' m' : Int, RIV p.1 n' ∧ RIV p.2.1 m' ∧ 0 < m' ∧ Rat.divInt n m = Rat.divInt n' m' ∧ Fit k n' ∧ Fit k m') ?_ ?_
  · rintro ⟨p, q, z⟩ ⟨n', m', h1, h2, hm', e, f1, f2⟩
    rw [e]
    dsimp only at h1 h2 ⊢
    have hg0 : Int.gcd n' m' ≠ 0 := fun e => by have := (Int.gcd_eq_zero_iff.1 e).2; omega
    have es : sgn m' = 1 := if_pos hm'
    have hn := ratio_num n' m' (by omega)
    have hd := ratio_den n' m' (by omega)
    rw [es, Int.one_mul] at hn hd
    have hgle : Int.gcd n' m' ≤ m'.natAbs := Nat.le_of_dvd (by omega) (Nat.gcd_dvd_right ..)
    refine (r_Gcd h1 h2 f1 f2 hk).mono fun g hg => (r_Of (n := 1) (by decide) (by decide)).mono fun o ho => ?_
    refine (r_ICompare hg ho (f2.of (by omega)) (fit_i64 (by decide) (by decide)) hk (by decide)).mono ?_
    rintro _ rfl
    refine joinR (fun p => RIV p.1 (n'.tdiv (Int.gcd n' m')) ∧ RIV p.2.1 (m'.tdiv (Int.gcd n' m'))) ?_ ?_
    · rintro ⟨p, q, z⟩ ⟨h3, h4⟩
      rw [← hn] at h3
      rw [← hd] at h4
      exact ⟨h3, h4⟩
    · intro k' hk'
      refine brV_iff.2 ⟨fun _ => ?_, fun h => ?_⟩
      · refine (r_Over h1 hg (by omega) f1 hk).mono ?_
        rintro ⟨q, r, _⟩ ⟨h3, _⟩
        refine (r_Over h2 hg (by omega) f2 hk).mono ?_
        rintro ⟨q2, r2, _⟩ ⟨h4, _⟩
        exact hk' _ ⟨h3, h4⟩
      · have h := sgn_z (not_f h)
        have e : ((Int.gcd n' m' : Nat) : Int) = 1 := by omega
        refine hk' _ ?_
        rw [e]
        simp only [Int.tdiv_one]
        exact ⟨h1, h2⟩
  · intro k' hk'
    refine brV_iff.2 ⟨fun h => ?_, fun h => ?_⟩
    · have h := dec_t h
      rw [sgn_neg] at h
      refine (r_Minus hx).mono fun p h1 => (r_Minus hy).mono fun q h2 => hk' _ ⟨-n, -m, h1, h2, by omega, ?_, fx.neg, fy.neg⟩
      exact (Rat.neg_divInt_neg ..).symm
    · have h := dec_f h
      rw [sgn_neg] at h
      exact hk' _ ⟨n, m, hx, hy, by omega, rfl, fx, fy⟩

variable {x y : (Int × Bool × Option (List Int)) × (Int × Bool × Option (List Int))} {q r : Rat} {k : Nat}

theorem r_Whole {n : Int} (h1 : -9223372036854775808 ≤ n) (h2 : n < 9223372036854775808) : callV Pg c_ref01_Whole [⟨tI, n⟩] tRR fun r => RRV r (n : Rat) :=
  w_ref01_Whole n (RRV_ex _) ((r_Of h1 h2).mono fun _ h => (r_Of (n := 1) (by decide) (by decide)).mono fun _ h' => ⟨h, h'⟩)

theorem r_RPlus (hx : RRV x q) (hy : RRV y r) (fx : RFit k q) (fy : RFit k r) (hk : k + k + 1 ≤ 1073741824) : callV Pg c_ref01_Rat_Plus [⟨tRR, x⟩, ⟨tRR, y⟩] tRR fun z => RRV z (q + r) := by
  have hq := q.den_nz
  have hr := r.den_nz
  refine w_ref01_Rat_Plus x y (RRV_ex _) ((r_Times hx.1 hy.2 fx.1 fy.2 (by omega) (by omega)).mono fun p1 h1 => (r_Times hy.1 hx.2 fy.1 fx.2 (by omega) (by omega)).mono fun p2 h2 => ?_)
  refine (r_Plus h1 h2 (fx.1.mul fy.2 (Nat.le_refl _)) (fy.1.mul fx.2 (Nat.le_refl _)) (by omega) (by omega)).mono fun p3 h3 => (r_Times hx.2 hy.2 fx.2 fy.2 (by omega) (by omega)).mono fun p4 h4 => ?_
  refine (r_Make h3 h4 ?_ ((fx.1.mul fy.2 (Nat.le_refl _)).add (fy.1.mul fx.2 (Nat.le_refl _)) (Nat.lt_succ_self _)) ((fx.2.mul fy.2 (Nat.le_refl _)).mono (Nat.le_succ _)) hk).mono fun p9 h9 => ?_
  · exact Int.mul_ne_zero (by omega) (by omega)
  · rw [rat_add]; exact h9

theorem r_RMinus (hx : RRV x q) : callV Pg c_ref01_Rat_Minus [⟨tRR, x⟩] tRR fun r => RRV r (-q) :=
  w_ref01_Rat_Minus x (RRV_ex _) ((r_Minus hx.1).mono fun _ h => ⟨h, hx.2⟩)

theorem r_RLess (hx : RRV x q) (hy : RRV y r) (fx : RFit k q) (fy : RFit k r) (hk : k + k + 1 ≤ 1073741824) : callV Pg c_ref01_Rat_Less [⟨tRR, x⟩, ⟨tRR, y⟩] tRR fun z => RRV z (q - r) := by
  refine w_ref01_Rat_Less x y (RRV_ex _) ((r_RMinus hy).mono fun p h => ?_)
  rw [Rat.sub_eq_add_neg]
  exact (r_RPlus hx h fx ⟨fy.1.neg, fy.2⟩ hk).mono fun z hz => hz

theorem r_RTimes (hx : RRV x q) (hy : RRV y r) (fx : RFit k q) (fy : RFit k r) (hk : k + k ≤ 1073741824) : callV Pg c_ref01_Rat_Times [⟨tRR, x⟩, ⟨tRR, y⟩] tRR fun z => RRV z (q * r) := by
  have hq := q.den_nz
  have hr := r.den_nz
  refine w_ref01_Rat_Times x y (RRV_ex _) ((r_Times hx.1 hy.1 fx.1 fy.1 (by omega) (by omega)).mono fun p1 h1 => (r_Times hx.2 hy.2 fx.2 fy.2 (by omega) (by omega)).mono fun p2 h2 => ?_)
  refine (r_Make h1 h2 ?_ (fx.1.mul fy.1 (Nat.le_refl _)) (fx.2.mul fy.2 (Nat.le_refl _)) hk).mono fun p9 h9 => ?_
  · exact Int.mul_ne_zero (by omega) (by omega)
  · rw [rat_mul]; exact h9

theorem r_ROver (hx : RRV x q) (hy : RRV y r) (fx : RFit k q) (fy : RFit k r) (hk : k + k ≤ 1073741824) (h0 : r ≠ 0) : callV Pg c_ref01_Rat_Over [⟨tRR, x⟩, ⟨tRR, y⟩] tRR fun z => RRV z (q / r) := by
  have hq := q.den_nz
  refine w_ref01_Rat_Over x y (RRV_ex _) ((r_Times hx.1 hy.2 fx.1 fy.2 (by omega) (by omega)).mono fun p1 h1 => (r_Times hx.2 hy.1 fx.2 fy.1 (by omega) (by omega)).mono fun p2 h2 => ?_)
  refine (r_Make h1 h2 ?_ (fx.1.mul fy.2 (Nat.le_refl _)) (fx.2.mul fy.1 (Nat.le_refl _)) hk).mono fun p9 h9 => ?_
  · exact Int.mul_ne_zero (by omega) (fun e => h0 (Rat.num_eq_zero.1 e))
  · rw [rat_div]; exact h9

theorem r_RSign (hx : RRV x q) : callV Pg c_ref01_Rat_Sign [⟨tRR, x⟩] tI fun r => r = sgn q.num :=
  w_ref01_Rat_Sign x ⟨_, rfl⟩ ((r_Sign hx.1).mono fun _ h => h)

theorem r_RCompare (hx : RRV x q) (hy : RRV y r) (fx : RFit k q) (fy : RFit k r) (hk : k + k + 1 ≤ 1073741824) : callV Pg c_ref01_Rat_Compare [⟨tRR, x⟩, ⟨tRR, y⟩] tI fun z => z = sgn (q - r).num :=
  w_ref01_Rat_Compare x y ⟨_, rfl⟩ ((r_RLess hx hy fx fy hk).mono fun _ h => r_RSign h)

theorem r_To {a : Int × Int} (h : NumOk a) : callV Pg c_ref01_To [⟨tNum, a⟩] tRR fun r => RRV r (numQ a) := by
  obtain ⟨e1, e2⟩ := h.q
  obtain ⟨q1, q2, q3, q4, _⟩ := h
  refine w_ref01_To a (RRV_ex _) ((r_Of (n := a.1) (by omega) (by omega)).mono fun p1 h1 => (r_Of (n := a.2) (by omega) (by omega)).mono fun p2 h2 => ⟨?_, ?_⟩)
  · rw [e1]; exact h1
  · rw [e2]; exact h2

theorem ok_fit {a : Int × Int} (h : NumOk a) : RFit 3 (numQ a) := by
  obtain ⟨e1, e2⟩ := h.q
  obtain ⟨q1, q2, q3, q4, _⟩ := h
  exact ⟨by rw [e1]; exact fit_i64 (by omega) (by omega), by rw [e2]; exact fit_i64 (by omega) (by omega)⟩

/-- A number, if it is one. -/
def fromQ (q : Rat) : (Int × Int) × Bool × Unit := if q.num ≤ 1152921504606846976 ∧ -1152921504606846976 ≤ q.num ∧ (q.den : Int) ≤ 1152921504606846976 then ((q.num, (q.den : Int)), true, ()) else ((0, 0), false, ())

theorem r_From (hx : RRV x q) : callV Pg c_ref01_From [⟨tRR, x⟩] (.tup (.pair tNum (.pair .bool .unit))) fun r => r = fromQ q := by
  refine w_ref01_From x ⟨_, rfl⟩ ((r_Small hx.1).mono ?_)
  rintro _ rfl
  refine (r_Small hx.2).mono ?_
  rintro _ rfl
  have hd := q.den_nz
  have e1 : (smallI q.num 1152921504606846976).2.1 = decide (q.num ≤ 1152921504606846976 ∧ -1152921504606846976 ≤ q.num) := by unfold smallI; split <;> simp_all
  have e2 : (smallI (q.den : Int) 1152921504606846976).2.1 = decide ((q.den : Int) ≤ 1152921504606846976) := by
    unfold smallI; split
    · rename_i h; simp [h.1]
    · rename_i h; simp; omega
  have e3 : (q.num ≤ 1152921504606846976 ∧ -1152921504606846976 ≤ q.num) → (smallI q.num 1152921504606846976).1 = q.num := by intro h; rw [smallI, if_pos h]
  have e4 : ((q.den : Int) ≤ 1152921504606846976) → (smallI (q.den : Int) 1152921504606846976).1 = (q.den : Int) := by intro h; rw [smallI, if_pos ⟨h, by omega⟩]
  refine joinR (fun p => ∃ b : Bool, p = ((smallI q.num 1152921504606846976).1, (smallI (q.den : Int) 1152921504606846976).1, b, (0 : Int), (0 : Int)) ∧ (b = true ↔ ¬ (q.num ≤ 1152921504606846976 ∧ -1152921504606846976 ≤ q.num ∧ (q.den : Int) ≤ 1152921504606846976))) ?_ ?_
  · rintro _ ⟨b, rfl, hb⟩
    refine brV_iff.2 ⟨fun h => ?_, fun h => ?_⟩
    · rw [fromQ, if_neg (hb.1 h)]
    · have h3 : q.num ≤ 1152921504606846976 ∧ -1152921504606846976 ≤ q.num ∧ (q.den : Int) ≤ 1152921504606846976 := by
        refine Classical.byContradiction fun hn => ?_
        have := hb.2 hn
        dsimp only at h
        rw [h] at this; simp at this
      rw [fromQ, if_pos h3]
      dsimp only
      rw [e3 ⟨h3.1, h3.2.1⟩, e4 h3.2.2]
  · intro k hk
    rw [e1]
    refine brV_iff.2 ⟨fun h => hk _ ⟨true, rfl, ?_⟩, fun h => hk _ ⟨_, rfl, ?_⟩⟩
    · have h := not_t h
      simp only [true_iff]
      exact fun h2 => h ⟨h2.1, h2.2.1⟩
    · have h := not_f h
      rw [e2]
      simp only [notB, Bool.not_eq_true', decide_eq_false_iff_not]
      constructor
      · exact fun h1 h2 => h1 h2.2.2
      · exact fun h1 h2 => h1 ⟨h.1, h.2, h2⟩

theorem r_Num (hx : RRV x q) : callV Pg c_ref01_Num [⟨tRR, x⟩] (.tup (.pair tNum (.pair tI .unit))) fun r => r = outQ q := by
  refine w_ref01_Num x ⟨_, rfl⟩ ((r_From hx).mono ?_)
  rintro _ rfl
  unfold fromQ outQ
  split
  · exact brV_iff.2 ⟨fun h => by simp [notB] at h, fun _ => rfl⟩
  · exact brV_iff.2 ⟨fun _ => rfl, fun h => by simp [notB] at h⟩

theorem r_Valid (a : Int × Int) : callV Pg c_ref01_Valid [⟨tNum, a⟩] .bool fun r => r = decide (NumOk a) := by
  refine w_ref01_Valid a ⟨_, rfl⟩ (joinR (fun p => ∃ b : Bool, p = (b, a) ∧ (b = true → ¬ NumOk a) ∧ (b = false → 1 ≤ a.2 ∧ a.2 ≤ 1152921504606846976 ∧ a.1 ≤ 1152921504606846976 ∧ -1152921504606846976 ≤ a.1)) ?_ ?_)
  · rintro _ ⟨b, rfl, h1, h2⟩
    refine brV_iff.2 ⟨fun h => ?_, fun h => ?_⟩
    · exact (decide_eq_false (h1 h)).symm
    · obtain ⟨q1, q2, q3, q4⟩ := h2 h
      refine (r_Of (n := a.1) (by omega) (by omega)).mono fun p1 e1 => (r_Of (n := a.2) (by omega) (by omega)).mono fun p2 e2 => ?_
      have hgle : Int.gcd a.1 a.2 ≤ a.2.natAbs := Nat.le_of_dvd (by omega) (Nat.gcd_dvd_right ..)
      refine (r_Gcd e1 e2 (fit_i64 (by omega) (by omega)) (fit_i64 (by omega) (by omega)) (by omega)).mono fun p3 e3 => (r_Of (n := 1) (by decide) (by decide)).mono fun p4 e4 => ?_
      refine (r_ICompare e3 e4 (fit_i64 (by omega) (by omega)) (fit_i64 (by omega) (by omega)) (by omega) (by omega)).mono ?_
      rintro _ rfl
      refine decide_eq_decide.2 ?_
      unfold NumOk
      constructor
      · intro h; have h := sgn_z h; exact ⟨q1, q2, q3, q4, by omega⟩
      · rintro ⟨_, _, _, _, h⟩; rw [h]; rfl
  · intro k hk
    refine brV_iff.2 ⟨fun h => hk _ ⟨true, rfl, fun _ hN => ?_, fun h => by simp at h⟩, fun h => brV_iff.2 ⟨fun h2 => hk _ ⟨true, rfl, fun _ hN => ?_, fun h => by simp at h⟩, fun h2 => brV_iff.2 ⟨fun h3 => hk _ ⟨true, rfl, fun _ hN => ?_, fun h => by simp at h⟩, fun h3 => hk _ ⟨_, rfl, fun h4 hN => ?_, fun h4 => ?_⟩⟩⟩⟩
    · have h : a.2 < 1 := dec_t h
      have := hN.1; omega
    · have h2 : 1152921504606846976 < a.2 := dec_t h2
      have := hN.2.1; omega
    · have h3 : 1152921504606846976 < a.1 := dec_t h3
      have := hN.2.2.1; omega
    · have h4 : a.1 < -1152921504606846976 := dec_t h4
      have := hN.2.2.2.1; omega
    · have h : ¬ a.2 < 1 := dec_f h
      have h2 : ¬ 1152921504606846976 < a.2 := dec_f h2
      have h3 : ¬ 1152921504606846976 < a.1 := dec_f h3
      have h4 : ¬ a.1 < -1152921504606846976 := dec_f h4
      omega

theorem r_All (l : Option (List (Int × Int))) (hl : (l.getD []).length < 4611686018427387904) : callV Pg c_ref01_All [⟨(.sl tNum), l⟩] .bool fun r => r = decide (∀ a ∈ l.getD [], NumOk a) := by
  refine w_ref01_All l ⟨_, rfl⟩ (loopE (fun p => ∃ k : Nat, p = (l, ((l.getD []).length : Int), (k : Int)) ∧ k ≤ (l.getD []).length ∧ ∀ a ∈ (l.getD []).take k, NumOk a) (fun p => ((l.getD []).length : Nat) - p.2.2.toNat) ⟨0, rfl, by omega, fun a h => by simp at h⟩ ?_)
  rintro _ ⟨k, rfl, hk, hall⟩
  dsimp only
  refine brV_iff.2 ⟨fun h => ?_, fun h => ?_⟩
  · have h : (k : Int) < ((l.getD []).length : Int) := dec_t h
    have e : eltS ((0 : Int), (0 : Int)) l (k : Int) = (l.getD [])[k]'(by omega) := by simp only [eltS, Int.toNat_natCast]; simp [List.getD, show k < (l.getD []).length by omega]
    rw [e]
    refine ⟨⟨by omega, by omega⟩, (r_Valid _).mono ?_⟩
    rintro _ rfl
    refine brV_iff.2 ⟨fun h2 => ?_, fun h2 => ?_⟩
    · have h2 := not_t h2
      exact (decide_eq_false fun h3 => h2 (h3 _ (List.getElem_mem _))).symm
    · have h2 := not_f h2
      rw [wi64 (by omega) (by omega)]
      refine ⟨⟨k + 1, rfl, by omega, ?_⟩, by omega⟩
      rw [List.take_succ_eq_append_getElem (by omega)]
      intro a ha
      rcases List.mem_append.1 ha with ha | ha
      · exact hall a ha
      · rw [List.mem_singleton.1 ha]; exact h2
  · have h : ¬ (k : Int) < ((l.getD []).length : Int) := dec_f h
    rw [List.take_of_length_le (by omega)] at hall
    exact (decide_eq_true hall).symm

theorem r_All2 (a b : Int × Int) : callV Pg c_ref01_All [⟨(.sl tNum), some [a, b]⟩] .bool fun r => r = decide (NumOk a ∧ NumOk b) := by
  refine (r_All (some [a, b]) (by simp)).mono ?_
  rintro _ rfl
  exact decide_eq_decide.2 (by simp)

theorem r_Fraction {n m : Int} (n1 : -9223372036854775808 ≤ n) (n2 : n < 9223372036854775808) (m1 : -9223372036854775808 ≤ m) (m2 : m < 9223372036854775808) :
    callV Pg c_ref01_Fraction [⟨tI, n⟩, ⟨tI, m⟩] (.tup (.pair tNum (.pair tI .unit))) fun r => r = makeQ n m := by
  refine w_ref01_Fraction n m ⟨_, rfl⟩ (brV_iff.2 ⟨fun h => ?_, fun h => ?_⟩)
  · have h : m = 0 := dec_t h
    rw [makeQ, if_pos h]
  · have h : ¬ m = 0 := dec_f h
    refine (r_Of n1 n2).mono fun p1 e1 => (r_Of m1 m2).mono fun p2 e2 => ?_
    refine (r_Make e1 e2 h (fit_i64 n1 n2) (fit_i64 m1 m2) (by omega)).mono fun p h3 => (r_Num h3).mono ?_
    rintro _ rfl
    rw [makeQ, if_neg h]

end Go.Proofs.Pf.B

namespace Go.Proofs.Pf.B
open Go Go.VM

theorem small_t (n : Int) : (smallI n 1152921504606846976).2.1 = decide (n ≤ 1152921504606846976 ∧ -1152921504606846976 ≤ n) := by
  unfold smallI; split <;> simp_all

theorem outQ_small (q : Rat) : (outQ q).2.1 = 0 ↔ (q.num ≤ 1152921504606846976 ∧ -1152921504606846976 ≤ q.num) ∧ ((q.den : Int) ≤ 1152921504606846976 ∧ -1152921504606846976 ≤ (q.den : Int)) := by
  unfold outQ
  split
  · rename_i h; simp only [true_iff]; exact ⟨⟨h.1, h.2.1⟩, h.2.2, by omega⟩
  · rename_i h
    refine ⟨fun h2 => by simp at h2, fun h2 => absurd ⟨h2.1.1, h2.1.2, h2.2.1⟩ h⟩

theorem r_Pow (a : Int × Int) (n : Int) : callV Pg c_ref01_Pow [⟨tNum, a⟩, ⟨tI, n⟩] (.tup (.pair tNum (.pair tI .unit))) fun r => r = powQ a n := by
  refine w_ref01_Pow a n ⟨_, rfl⟩ ((r_Valid a).mono ?_)
  rintro _ rfl
  refine brV_iff.2 ⟨fun h => ?_, fun h => ?_⟩
  · have h := not_t h
    rw [powQ, if_neg h]
  have hN := not_f h
  refine joinR (fun p => p = (n, decide (n < 0 ∨ 10000 < n), a, (0 : Int), (0 : Int))) ?_ ?_
  · rintro _ rfl
    dsimp only
    refine brV_iff.2 ⟨fun h => ?_, fun h => ?_⟩
    · rw [powQ, if_pos hN, if_pos (dec_t h)]
    have h := dec_f h
    rw [powQ, if_pos hN, if_neg h]
    obtain ⟨m, rfl⟩ : ∃ m : Nat, n = m := ⟨n.toNat, by omega⟩
    rw [Int.toNat_natCast]
    have hb := hN
    obtain ⟨b1, b2, b3, b4, b5⟩ := hb
    have en : ∀ k : Nat, (numQ a ^ k).num = a.1 ^ k := fun k => by rw [(pow_num _ k).1, hN.q.1]
    have ed : ∀ k : Nat, ((numQ a ^ k).den : Int) = a.2 ^ k := fun k => by rw [(pow_num _ k).2, Int.natCast_pow, hN.q.2]
    refine (r_Of (n := 1) (by decide) (by decide)).mono fun x hx => (r_Of (n := 1) (by decide) (by decide)).mono fun y hy => ?_
    refine loopE (fun p => ∃ (k : Nat) (P Q : _), p = ((m : Int), (k : Int), a, ((0 : Int), (0 : Int)), P, Q) ∧ k ≤ m ∧ RRV (P, Q) (numQ a ^ k) ∧ RFit 3 (numQ a ^ k)) (fun p => ((m : Int) - p.2.1).toNat) ⟨0, x, y, rfl, by omega, ?_, ?_⟩ ?_
    · rw [Rat.pow_zero]; exact ⟨hx, hy⟩
    · rw [Rat.pow_zero]; exact ⟨fit_i64 (by decide) (by decide), fit_i64 (by decide) (by decide)⟩
    rintro _ ⟨k, P, Q, rfl, hk, hPQ, fo⟩
    dsimp only
    refine brV_iff.2 ⟨fun h => ?_, fun h => ?_⟩
    · have h : (k : Int) < (m : Int) := dec_t h
      refine (r_Of (n := a.1) (by omega) (by omega)).mono fun p6 h6 => (r_Times hPQ.1 h6 fo.1 (fit_i64 (by omega) (by omega)) (by omega) (by omega)).mono fun p7 h7 => ?_
      refine (r_Of (n := a.2) (by omega) (by omega)).mono fun p8 h8 => (r_Times hPQ.2 h8 fo.2 (fit_i64 (by omega) (by omega)) (by omega) (by omega)).mono fun p9 h9 => ?_
      rw [en, ← Int.pow_succ, ← en (k + 1)] at h7
      rw [ed, ← Int.pow_succ, ← ed (k + 1)] at h9
      refine (r_Small h7).mono ?_
      rintro _ rfl
      refine (r_Small h9).mono ?_
      rintro _ rfl
      rw [small_t, small_t]
      have key := outQ_small (numQ a ^ (k + 1))
      refine joinR (fun p => ∃ b : Bool, p = ((m : Int), (k : Int), b, a, ((0 : Int), (0 : Int)), p7, p9) ∧ (b = true ↔ (outQ (numQ a ^ (k + 1))).2.1 ≠ 0)) ?_ ?_
      · rintro _ ⟨b, rfl, hb⟩
        dsimp only
        refine brV_iff.2 ⟨fun h2 => ?_, fun h2 => ?_⟩
        · have h3 := hb.1 h2
          have e0 : (numQ a).num ≠ 0 := by
            rw [hN.q.1]
            intro e
            apply h3
            rw [key, en, ed]
            have e1 : a.2 = 1 := by rw [e] at b5; simp at b5; omega
            rw [e, e1, Int.one_pow, Int.pow_succ]; omega
          rw [outQ_mono e0 (show k + 1 ≤ m by omega) h3]
        · have e2 : IntKind.wrap IntKind.i64 ((k : Int) + 1) = ((k + 1 : Nat) : Int) := by rw [wi64 (by omega) (by omega)]; omega
          rw [e2]
          have h3 : (outQ (numQ a ^ (k + 1))).2.1 = 0 := Classical.byContradiction fun hn => by
            have := hb.2 hn; rw [h2] at this; simp at this
          have h4 := key.1 h3
          exact ⟨⟨k + 1, p7, p9, rfl, by omega, ⟨h7, h9⟩, fit_i64 (by omega) (by omega), fit_i64 (by omega) (by omega)⟩, by omega⟩
      · intro k' hk'
        refine brV_iff.2 ⟨fun h2 => hk' _ ⟨_, rfl, ?_⟩, fun h2 => hk' _ ⟨_, rfl, ?_⟩⟩
        · have h2 := not_t h2
          simp only [true_iff]
          exact fun h3 => h2 (key.1 h3).1
        · have h2 := not_f h2
          simp only [notB, Bool.not_eq_true', decide_eq_false_iff_not]
          exact ⟨fun h3 h4 => h3 (key.1 h4).2, fun h3 h4 => h3 (key.2 ⟨h2, h4⟩)⟩
    · have h : ¬ (k : Int) < (m : Int) := dec_f h
      obtain rfl : k = m := by omega
      refine (r_Num (x := (P, Q)) hPQ).mono ?_
      rintro _ rfl
      rfl
  · intro k hk
    refine brV_iff.2 ⟨fun h => hk _ ?_, fun h => hk _ ?_⟩
    · have h : n < 0 := dec_t h
      rw [decide_eq_true (Or.inl h)]
    · have h : ¬ n < 0 := dec_f h
      have : decide (10000 < n) = decide (n < 0 ∨ 10000 < n) := decide_eq_decide.2 ⟨Or.inr, fun h2 => h2.resolve_left h⟩
      rw [this]

theorem s_NumMakes (n m : Int) (a : Int × Int) (e : Int) (n1 : -9223372036854775808 ≤ n) (n2 : n < 9223372036854775808) (m1 : -9223372036854775808 ≤ m) (m2 : m < 9223372036854775808) (_e1 : -9223372036854775808 ≤ e) (_e2 : e < 9223372036854775808) :
    callV Pg c_law01_NumMakes [⟨tI, n⟩, ⟨tI, m⟩, ⟨tNum, a⟩, ⟨tI, e⟩] .bool fun r => r = true := by
  refine w_law01_NumMakes n m a e ⟨_, rfl⟩ ((r_Fraction n1 n2 m1 m2).mono ?_)
  rintro _ rfl
  refine (r_Pow a e).mono ?_
  rintro _ rfl
  refine (s_Make n1 n2 m1 m2).mono ?_
  rintro _ rfl
  refine (s_NPow a e).mono ?_
  rintro _ rfl
  refine joinR (fun p => p = true) (fun p h => h) fun k hk => ?_
  rw [eqNum, eqNum]
  refine brV_iff.2 ⟨fun _ => brV_iff.2 ⟨fun _ => brV_iff.2 ⟨fun _ => brV_iff.2 ⟨fun _ => s_awake.mono fun r hr => hk r hr, fun h => absurd rfl (dec_f h)⟩, fun h => absurd rfl (dec_f h)⟩, fun h => absurd rfl (dec_f h)⟩, fun h => absurd rfl (dec_f h)⟩

end Go.Proofs.Pf.B

namespace Go.Proofs.Pf.B
open Go Go.VM

theorem s_RCmp {x y : (Int × Option (List Int)) × (Int × Option (List Int))} {q r : Rat} {k : Nat} (hx : RV x q) (hy : RV y r) (fx : Pf.RFit k q) (fy : Pf.RFit k r) (hk : k + k + 1 ≤ 1073741824) : callV Pg c_exact_Rat_Cmp [⟨tER, x⟩, ⟨tER, y⟩] tI fun z => z = sgn (q - r).num :=
  w_exact_Rat_Cmp x y ⟨_, rfl⟩ ((s_RSub longS hx hy fx fy hk).mono fun _ h => s_RSign h)

/-- What the comparison of two numbers is. -/
def cmpQ (a b : Int × Int) : Int × Int × Unit := if NumOk a ∧ NumOk b then (sgn (numQ a - numQ b).num, 0, ()) else (0, 1, ())

theorem s_NCmp (a b : Int × Int) : callV Pg c_num_Cmp [⟨tNum, a⟩, ⟨tNum, b⟩] (.tup (.pair tI (.pair tI .unit))) fun r => r = cmpQ a b := by
  refine w_num_Cmp a b ⟨_, rfl⟩ (joinR (fun p => ∃ c : Bool, p = (c, a, b) ∧ (c = true ↔ ¬ (NumOk a ∧ NumOk b))) ?_ ?_)
  · rintro _ ⟨c, rfl, hc⟩
    refine brV_iff.2 ⟨fun h => ?_, fun h => ?_⟩
    · rw [cmpQ, if_neg (hc.1 h)]
    · have hN : NumOk a ∧ NumOk b := Classical.byContradiction fun hn => by
        have := hc.2 hn; dsimp only at h; rw [h] at this; simp at this
      refine (s_Rat longS hN.1).mono fun p1 h1 => (s_Rat longS hN.2).mono fun p2 h2 => ?_
      refine (s_RCmp h1 h2 hN.1.fit hN.2.fit (by omega)).mono ?_
      rintro _ rfl
      rw [cmpQ, if_pos hN]
  · intro k hk
    refine (s_Valid longS a).mono ?_
    rintro _ rfl
    refine brV_iff.2 ⟨fun h => hk _ ⟨true, rfl, ?_⟩, fun h => (s_Valid longS b).mono ?_⟩
    · have h := not_t h
      simp only [true_iff]; exact fun h2 => h h2.1
    · rintro _ rfl
      have h := not_f h
      refine hk _ ⟨_, rfl, ?_⟩
      simp only [notB, Bool.not_eq_true', decide_eq_false_iff_not]
      exact ⟨fun h1 h2 => h1 h2.2, fun h1 h2 => h1 ⟨h, h2⟩⟩

theorem r_Cmp (a b : Int × Int) : callV Pg c_ref01_Cmp [⟨tNum, a⟩, ⟨tNum, b⟩] (.tup (.pair tI (.pair tI .unit))) fun r => r = cmpQ a b := by
  refine w_ref01_Cmp a b ⟨_, rfl⟩ ((r_All2 a b).mono ?_)
  rintro _ rfl
  refine brV_iff.2 ⟨fun h => ?_, fun h => ?_⟩
  · rw [cmpQ, if_neg (not_t h)]
  · have hN := not_f h
    refine (r_To hN.1).mono fun p1 h1 => (r_To hN.2).mono fun p2 h2 => (r_RCompare h1 h2 (ok_fit hN.1) (ok_fit hN.2) (by omega)).mono ?_
    rintro _ rfl
    rw [cmpQ, if_pos hN]

theorem r_Add (a b : Int × Int) : callV Pg c_ref01_Add [⟨tNum, a⟩, ⟨tNum, b⟩] (.tup (.pair tNum (.pair tI .unit))) fun r => r = withQ (fun q r => q + r) a b := by
  refine w_ref01_Add a b ⟨_, rfl⟩ ((r_All2 a b).mono ?_)
  rintro _ rfl
  refine brV_iff.2 ⟨fun h => ?_, fun h => ?_⟩
  · rw [withQ, if_neg (not_t h)]
  · have hN := not_f h
    refine (r_To hN.1).mono fun p1 h1 => (r_To hN.2).mono fun p2 h2 => (r_RPlus h1 h2 (ok_fit hN.1) (ok_fit hN.2) (by omega)).mono fun p3 h3 => (r_Num h3).mono ?_
    rintro _ rfl
    rw [withQ, if_pos hN]

theorem r_Sub (a b : Int × Int) : callV Pg c_ref01_Sub [⟨tNum, a⟩, ⟨tNum, b⟩] (.tup (.pair tNum (.pair tI .unit))) fun r => r = withQ (fun q r => q - r) a b := by
  refine w_ref01_Sub a b ⟨_, rfl⟩ ((r_All2 a b).mono ?_)
  rintro _ rfl
  refine brV_iff.2 ⟨fun h => ?_, fun h => ?_⟩
  · rw [withQ, if_neg (not_t h)]
  · have hN := not_f h
    refine (r_To hN.1).mono fun p1 h1 => (r_To hN.2).mono fun p2 h2 => (r_RLess h1 h2 (ok_fit hN.1) (ok_fit hN.2) (by omega)).mono fun p3 h3 => (r_Num h3).mono ?_
    rintro _ rfl
    rw [withQ, if_pos hN]

theorem r_Mul (a b : Int × Int) : callV Pg c_ref01_Mul [⟨tNum, a⟩, ⟨tNum, b⟩] (.tup (.pair tNum (.pair tI .unit))) fun r => r = withQ (fun q r => q * r) a b := by
  refine w_ref01_Mul a b ⟨_, rfl⟩ ((r_All2 a b).mono ?_)
  rintro _ rfl
  refine brV_iff.2 ⟨fun h => ?_, fun h => ?_⟩
  · rw [withQ, if_neg (not_t h)]
  · have hN := not_f h
    refine (r_To hN.1).mono fun p1 h1 => (r_To hN.2).mono fun p2 h2 => (r_RTimes h1 h2 (ok_fit hN.1) (ok_fit hN.2) (by omega)).mono fun p3 h3 => (r_Num h3).mono ?_
    rintro _ rfl
    rw [withQ, if_pos hN]

theorem r_Div (a b : Int × Int) : callV Pg c_ref01_Div [⟨tNum, a⟩, ⟨tNum, b⟩] (.tup (.pair tNum (.pair tI .unit))) fun r => r = divQ a b := by
  refine w_ref01_Div a b ⟨_, rfl⟩ ((r_All2 a b).mono ?_)
  rintro _ rfl
  refine brV_iff.2 ⟨fun h => ?_, fun h => ?_⟩
  · rw [divQ, if_neg (not_t h)]
  · have hN := not_f h
    rw [divQ, if_pos hN]
    refine brV_iff.2 ⟨fun h => ?_, fun h => ?_⟩
    · have h : b.1 = 0 := dec_t h
      rw [if_pos h]
    · have h : ¬ b.1 = 0 := dec_f h
      rw [if_neg h]
      refine (r_To hN.1).mono fun p1 h1 => (r_To hN.2).mono fun p2 h2 => (r_ROver h1 h2 (ok_fit hN.1) (ok_fit hN.2) (by omega) (numQ_ne hN.2 h)).mono fun p3 h3 => (r_Num h3).mono ?_
      rintro _ rfl
      rfl

theorem eqB_refl (b : Bool) : ¬ eqB b b = false := by cases b <;> simp [eqB]

theorem s_NumArithmetic (a b : Int × Int) : callV Pg c_law01_NumArithmetic [⟨tNum, a⟩, ⟨tNum, b⟩] .bool fun r => r = true := by
  refine w_law01_NumArithmetic a b ⟨_, rfl⟩ ((s_NAdd longS a b).mono ?_)
  rintro _ rfl
  refine (r_Add a b).mono ?_
  rintro _ rfl
  refine (s_NSub longS a b).mono ?_
  rintro _ rfl
  refine (r_Sub a b).mono ?_
  rintro _ rfl
  refine (s_NMul longS a b).mono ?_
  rintro _ rfl
  refine (r_Mul a b).mono ?_
  rintro _ rfl
  refine (s_NDiv a b).mono ?_
  rintro _ rfl
  refine (r_Div a b).mono ?_
  rintro _ rfl
  refine (s_NCmp a b).mono ?_
  rintro _ rfl
  refine (r_Cmp a b).mono ?_
  rintro _ rfl
  refine joinR (fun p => p = true) (fun p h => h) fun k hk => (s_Valid longS a).mono ?_
  rintro _ rfl
  refine (r_Valid a).mono ?_
  rintro _ rfl
  rw [eqNum, eqNum, eqNum, eqNum]
  refine brV_iff.2 ⟨fun _ => ?_, fun h => absurd h (eqB_refl _)⟩
  iterate 10 refine brV_iff.2 ⟨fun _ => ?_, fun h => absurd rfl (dec_f h)⟩
  exact s_awake.mono fun r hr => hk r hr

end Go.Proofs.Pf.B

namespace Go.Proofs.Pf

/-- The simplest of the fractions from p / q to r / s, in at most k steps. -/
def simS : Nat → Int → Int → Int → Int → Int × Int
  | 0, _, _, _, _ => (0, 1)
  | k + 1, p, q, r, s =>
    if p % q = 0 then (p / q, 1)
    else if (p / q + 1) * s ≤ r then (p / q + 1, 1)
    else (p / q * (simS k s (r - p / q * s) q (p - p / q * q)).1 + (simS k s (r - p / q * s) q (p - p / q * q)).2, (simS k s (r - p / q * s) q (p - p / q * q)).1)

structure SPre (p q r s : Int) : Prop where
  p0 : 0 < p
  q0 : 0 < q
  r0 : 0 < r
  s0 : 0 < s
  le : p * s ≤ r * q

theorem SPre.next {p q r s : Int} (h : SPre p q r s) (h1 : ¬ p % q = 0) (h2 : ¬ (p / q + 1) * s ≤ r) :
    SPre s (r - p / q * s) q (p - p / q * q) ∧ r - p / q * s < s ∧ p - p / q * q < q := by
  obtain ⟨p0, q0, r0, s0, le⟩ := h
  have hd := Int.mul_ediv_add_emod p q
  have hm0 := Int.emod_nonneg p (show q ≠ 0 by omega)
  have hm1 := Int.emod_lt_of_pos p q0
  generalize p / q = n at *
  generalize p % q = m at *
  have e : p - n * q = m := by rw [Int.mul_comm n q]; omega
  have hr : 0 < r - n * s := by
    have h3 : q * (n * s) < q * r := by
      have h4 : p * s = q * (n * s) + m * s := by rw [← hd, Int.add_mul, Int.mul_assoc]
      have h5 : 0 < m * s := Int.mul_pos (by omega) s0
      rw [Int.mul_comm q r]; omega
    have := Int.lt_of_mul_lt_mul_left h3 (by omega)
    omega
  rw [e]
  refine ⟨⟨s0, hr, q0, by omega, ?_⟩, ?_, hm1⟩
  · rw [Int.mul_sub, ← e]; grind
  · rw [Int.add_mul, Int.one_mul] at h2; omega

/-- What the simplest fraction is. -/
theorem simS_facts : ∀ (k : Nat) {p q r s : Int}, SPre p q r s → q + s ≤ k →
    0 < (simS k p q r s).1 ∧ 0 < (simS k p q r s).2 ∧ p * (simS k p q r s).2 ≤ (simS k p q r s).1 * q ∧ (simS k p q r s).1 * s ≤ r * (simS k p q r s).2 ∧
    ∀ u v : Int, 0 < v → p * v ≤ u * q → u * s ≤ r * v → (simS k p q r s).1 ≤ u ∧ (simS k p q r s).2 ≤ v
  | 0, p, q, r, s, h, hk => by have := h.q0; have := h.s0; omega
  | k + 1, p, q, r, s, h, hk => by
    have h' := h
    obtain ⟨p0, q0, r0, s0, le⟩ := h'
    have hd := Int.mul_ediv_add_emod p q
    have hm0 := Int.emod_nonneg p (show q ≠ 0 by omega)
    have hm1 := Int.emod_lt_of_pos p q0
    have hn0 : 0 ≤ p / q := Int.ediv_nonneg (by omega) (by omega)
    rw [simS]
    by_cases h1 : p % q = 0
    · rw [if_pos h1]
      have e : p = q * (p / q) := by omega
      have hn : 0 < p / q := by
        rcases Int.lt_or_le 0 (p / q) with h2 | h2
        · exact h2
        · have : p / q = 0 := by omega
          rw [this] at e; omega
      generalize p / q = n at *
      refine ⟨hn, by omega, by dsimp only; rw [Int.mul_one, e, Int.mul_comm]; omega, ?_, fun u v hv hu _ => ⟨?_, by dsimp only; omega⟩⟩
      · dsimp only
        rw [e] at le
        have : q * (n * s) ≤ q * r := by rw [← Int.mul_assoc, Int.mul_comm q r]; exact le
        have := Int.le_of_mul_le_mul_left this q0
        omega
      · dsimp only
        rw [e] at hu
        have h3 : q * (n * v) ≤ q * u := by rw [← Int.mul_assoc, Int.mul_comm q u]; exact hu
        have h4 := Int.le_of_mul_le_mul_left h3 q0
        have h5 : n * 1 ≤ n * v := Int.mul_le_mul_of_nonneg_left (by omega) hn0
        omega
    · rw [if_neg h1]
      by_cases h2 : (p / q + 1) * s ≤ r
      · rw [if_pos h2]
        generalize p / q = n at *
        generalize p % q = m at *
        refine ⟨by dsimp only; omega, by omega, ?_, by dsimp only; omega, fun u v hv hu _ => ⟨?_, by dsimp only; omega⟩⟩
        · dsimp only; rw [Int.add_mul, Int.mul_comm n q]; omega
        · dsimp only
          have h3 : q * (n * v) < q * u := by
            have h4 : p * v = q * (n * v) + m * v := by rw [← hd, Int.add_mul, Int.mul_assoc]
            have h5 : 0 < m * v := Int.mul_pos (by omega) hv
            rw [Int.mul_comm q u]; omega
          have h4 := Int.lt_of_mul_lt_mul_left h3 (by omega)
          have h5 : n * 1 ≤ n * v := Int.mul_le_mul_of_nonneg_left (by omega) hn0
          omega
      · rw [if_neg h2]
        obtain ⟨hP, hs, hq⟩ := h.next h1 h2
        obtain ⟨x0, y0, a1, a2, a3⟩ := simS_facts k hP (by omega)
        generalize simS k s (r - p / q * s) q (p - p / q * q) = X at *
        obtain ⟨x, y⟩ := X
        dsimp only at x0 y0 a1 a2 a3 ⊢
        generalize p / q = n at *
        refine ⟨?_, x0, ?_, ?_, fun u v hv hu hu2 => ?_⟩
        · have := Int.mul_nonneg hn0 (Int.le_of_lt x0); omega
        · rw [Int.mul_sub, Int.mul_comm q y, Int.mul_comm x] at a2
          rw [Int.add_mul]
          have e : n * x * q = n * q * x := by rw [Int.mul_assoc, Int.mul_comm x q, Int.mul_assoc]
          rw [e]
          rw [Int.mul_comm x (n * q)] at a2
          omega
        · rw [Int.mul_sub] at a1
          rw [Int.add_mul]
          have e : n * x * s = x * (n * s) := by rw [Int.mul_comm n x, Int.mul_assoc]
          rw [e, Int.mul_comm r x, Int.mul_comm y s]
          omega
        · have hpos : 0 < u - n * v := by
            have h3 : q * (n * v) < q * u := by
              have h4 : p * v = q * (n * v) + p % q * v := by
                have h6 : p = q * n + p % q := by omega
                conv => lhs; rw [h6]
                rw [Int.add_mul, Int.mul_assoc]
              have h5 : 0 < p % q * v := Int.mul_pos (by omega) hv
              rw [Int.mul_comm q u]; omega
            have := Int.lt_of_mul_lt_mul_left h3 (by omega)
            omega
          obtain ⟨b1, b2⟩ := a3 v (u - n * v) hpos (by rw [Int.mul_sub, Int.mul_sub, Int.mul_comm s u, Int.mul_comm v r]; have : s * (n * v) = v * (n * s) := by grind
                                                       omega)
            (by rw [Int.mul_sub, Int.mul_sub, Int.mul_comm v p, Int.mul_comm q u]; have : q * (n * v) = v * (n * q) := by grind
                omega)
          refine ⟨?_, b1⟩
          have := Int.mul_le_mul_of_nonneg_left b1 hn0
          omega

theorem simS_le {k : Nat} {p q r s : Int} (h : SPre p q r s) (hk : q + s ≤ k) : (simS k p q r s).1 ≤ p ∧ (simS k p q r s).2 ≤ q ∧ (simS k p q r s).1 ≤ r ∧ (simS k p q r s).2 ≤ s := by
  obtain ⟨_, _, _, _, a⟩ := simS_facts k h hk
  obtain ⟨h1, h2⟩ := a p q h.q0 (Int.le_refl _) h.le
  obtain ⟨h3, h4⟩ := a r s h.s0 h.le (Int.le_refl _)
  exact ⟨h1, h2, h3, h4⟩

/-! Fractions as quotients of any integers. -/

theorem divInt_parts (n : Int) {m : Int} (hm : 0 < m) : (Rat.divInt n m).num * m = n * ((Rat.divInt n m).den : Int) ∧ (Rat.divInt n m).num.natAbs ≤ n.natAbs ∧ (Rat.divInt n m).den ≤ m.natAbs := by
  have e : sgn m = 1 := if_pos hm
  have h1 := ratio_num n m (by omega)
  have h2 := ratio_den n m (by omega)
  rw [e, Int.one_mul] at h1 h2
  have d1 : ((Int.gcd n m : Nat) : Int) ∣ n := Int.gcd_dvd_left ..
  have d2 : ((Int.gcd n m : Nat) : Int) ∣ m := Int.gcd_dvd_right ..
  have c1 := Int.mul_tdiv_cancel' d1
  have c2 := Int.mul_tdiv_cancel' d2
  refine ⟨?_, ?_, ?_⟩
  · rw [h1, h2]
    generalize ((Int.gcd n m : Nat) : Int) = g at *
    conv => lhs; rw [← c2]
    conv => rhs; rw [← c1]
    grind
  · rw [h1, Int.natAbs_tdiv]; exact Nat.div_le_self _ _
  · have : ((Rat.divInt n m).den : Int).natAbs ≤ m.natAbs := by rw [h2, Int.natAbs_tdiv]; exact Nat.div_le_self _ _
    omega

theorem divInt_floor {n m : Int} (hm : 0 < m) : (Rat.divInt n m).num / ((Rat.divInt n m).den : Int) = n / m := by
  have hd := (Rat.divInt n m).den_nz
  have h := (divInt_parts n hm).1
  rw [← Int.mul_ediv_mul_of_pos _ _ hm, Int.mul_comm m, h, Int.mul_comm n, Int.mul_comm m, Int.mul_ediv_mul_of_pos _ _ (by omega)]

theorem divInt_sgn (n : Int) {m : Int} (hm : 0 < m) : sgn (Rat.divInt n m).num = sgn n := by
  have hd := (Rat.divInt n m).den_nz
  have h := (divInt_parts n hm).1
  have h1 : sgn ((Rat.divInt n m).num * m) = sgn (n * ((Rat.divInt n m).den : Int)) := by rw [h]
  rw [sgn_mul, sgn_mul, show sgn m = 1 from if_pos hm, show sgn ((Rat.divInt n m).den : Int) = 1 from if_pos (by omega)] at h1
  omega

theorem divInt_cmp {p q r s : Int} (hq : 0 < q) (hs : 0 < s) : sgn (Rat.divInt p q - Rat.divInt r s).num = sgn (p * s - r * q) := by
  rw [Rat.divInt_sub_divInt _ _ (by omega) (by omega), divInt_sgn _ (Int.mul_pos hq hs)]

theorem one_divInt : ((1 : Int) : Rat) = Rat.divInt 1 1 := by decide

theorem divInt_sub_whole (p n : Int) {q : Int} (hq : 0 < q) : Rat.divInt p q - Rat.divInt n 1 = Rat.divInt (p - n * q) q := by
  rw [Rat.divInt_sub_divInt _ _ (by omega) (by omega), Int.mul_one, Int.mul_one]

theorem divInt_add_one (n : Int) : Rat.divInt n 1 + ((1 : Int) : Rat) = Rat.divInt (n + 1) 1 := by
  rw [one_divInt, Rat.divInt_add_divInt _ _ (by omega) (by omega)]; simp

theorem one_div_divInt (p q : Int) : ((1 : Int) : Rat) / Rat.divInt p q = Rat.divInt q p := by
  rw [Rat.div_def, Rat.inv_divInt, one_divInt, Rat.divInt_mul_divInt]; simp

theorem divInt_fin (n x y : Int) (hx : 0 < x) : Rat.divInt n 1 + Rat.divInt y x = Rat.divInt (n * x + y) x := by
  rw [Rat.divInt_add_divInt _ _ (by omega) (by omega)]; simp

theorem divInt_ne {p q : Int} (hp : 0 < p) (hq : 0 < q) : Rat.divInt p q ≠ 0 := by
  intro e
  have h := divInt_sgn p hq
  rw [e, show sgn p = 1 from if_pos hp] at h
  simp [sgn] at h

end Go.Proofs.Pf

namespace Go.Proofs.Pf.B
open Go Go.VM

theorem sgn_le {n : Int} : sgn n ≤ 0 ↔ n ≤ 0 := by
  rcases sgn3 n with ⟨e, h⟩ | ⟨e, h⟩ | ⟨e, h⟩ <;> rw [e] <;> constructor <;> intro <;> omega

theorem sgn_pos {n : Int} : 0 < sgn n ↔ 0 < n := by
  rcases sgn3 n with ⟨e, h⟩ | ⟨e, h⟩ | ⟨e, h⟩ <;> rw [e] <;> constructor <;> intro <;> omega

theorem s_Floor {x : (Int × Option (List Int)) × (Int × Option (List Int))} {q : Rat} (hx : RV x q) (h0 : 0 ≤ q.num) (fx : Pf.RFit 2 q) : callV Pg c_exact_Rat_Floor [⟨tER, x⟩] tEI fun r => IV r (q.num / (q.den : Int)) := by
  have hd := q.den_nz
  refine w_exact_Rat_Floor x (IV_ex _) ((s_Low hx).mono fun p0 h1 => (s_Quo longS hx.1 h1 (by omega) fx.1 (by omega)).mono ?_)
  rintro ⟨a, b, _⟩ ⟨h2, h3⟩
  dsimp only at h2 h3 ⊢
  rw [Int.tdiv_eq_ediv_of_nonneg h0] at h2
  rw [Int.tmod_eq_emod_of_nonneg h0] at h3
  refine (s_Sign h3).mono ?_
  rintro _ rfl
  refine brV_iff.2 ⟨fun h => ?_, fun h => h2⟩
  have h := dec_t h
  rw [sgn_neg] at h
  have := Int.emod_nonneg q.num (show (q.den : Int) ≠ 0 by omega)
  omega

theorem r_Down {x : (Int × Bool × Option (List Int)) × (Int × Bool × Option (List Int))} {q : Rat} (hx : RRV x q) (h0 : 0 ≤ q.num) (fx : RFit 3 q) : callV Pg c_ref01_Down [⟨tRR, x⟩] tRI fun r => RIV r (q.num / (q.den : Int)) := by
  have hd := q.den_nz
  refine w_ref01_Down x (RIV_ex _) ((r_Over hx.1 hx.2 (by omega) fx.1 (by omega)).mono ?_)
  rintro ⟨a, b, _⟩ ⟨h2, h3⟩
  dsimp only at h2 h3 ⊢
  rw [Int.tdiv_eq_ediv_of_nonneg h0] at h2
  rw [Int.tmod_eq_emod_of_nonneg h0] at h3
  refine (r_Sign h3).mono ?_
  rintro _ rfl
  refine brV_iff.2 ⟨fun h => ?_, fun h => h2⟩
  have h := dec_t h
  rw [sgn_neg] at h
  have := Int.emod_nonneg q.num (show (q.den : Int) ≠ 0 by omega)
  omega

theorem fitP {n m : Int} (hm : 0 < m) (m1 : m < 9223372036854775808) (n1 : -9223372036854775808 ≤ n) (n2 : n < 9223372036854775808) : Pf.RFit 2 (Rat.divInt n m) := by
  obtain ⟨_, h1, h2⟩ := divInt_parts n hm
  exact ⟨(Pf.fit_i64 n1 n2).of h1, (Pf.fit_i64 (n := m) (by omega) m1).of (by omega)⟩

theorem fitR {n m : Int} (hm : 0 < m) (m1 : m < 9223372036854775808) (n1 : -9223372036854775808 ≤ n) (n2 : n < 9223372036854775808) : RFit 3 (Rat.divInt n m) := by
  obtain ⟨_, h1, h2⟩ := divInt_parts n hm
  exact ⟨(fit_i64 n1 n2).of h1, (fit_i64 (n := m) (by omega) m1).of (by omega)⟩

theorem floor_le {p q : Int} (hp : 0 < p) (hq : 0 < q) : 0 ≤ p / q ∧ p / q ≤ p := ⟨Int.ediv_nonneg (by omega) (by omega), Int.ediv_le_self _ (by omega)⟩

theorem floor_eq {p q : Int} : p / q * q - p = 0 ↔ p % q = 0 := by
  have := Int.mul_ediv_add_emod p q
  rw [Int.mul_comm]; omega

theorem s_simplest : ∀ (k : Nat) {p q r s : Int} {x y : (Int × Option (List Int)) × (Int × Option (List Int))}, SPre p q r s → q + s ≤ k → p ≤ 1152921504606846976 → q ≤ 1152921504606846976 → r ≤ 1152921504606846976 → s ≤ 1152921504606846976 →
    RV x (Rat.divInt p q) → RV y (Rat.divInt r s) → callV Pg c_num_simplest [⟨tER, x⟩, ⟨tER, y⟩] tER fun z => RV z (Rat.divInt (simS k p q r s).1 (simS k p q r s).2)
  | 0, p, q, r, s, x, y, h, hk, p1, q1, r1, s1, hx, hy => by have := h.q0; have := h.s0; omega
  | k + 1, p, q, r, s, x, y, h, hk, p1, q1, r1, s1, hx, hy => by
    have hp := h.p0
    have hq := h.q0
    have hr := h.r0
    have hs := h.s0
    obtain ⟨n0, n1⟩ := floor_le hp hq
    have fx : Pf.RFit 2 (Rat.divInt p q) := fitP hq (by omega) (by omega) (by omega)
    have fy : Pf.RFit 2 (Rat.divInt r s) := fitP hs (by omega) (by omega) (by omega)
    have fn : Pf.RFit 2 (Rat.divInt (p / q) 1) := fitP (by decide) (by decide) (by omega) (by omega)
    have f1 : Pf.RFit 2 ((1 : Int) : Rat) := by rw [one_divInt]; exact fitP (by decide) (by decide) (by decide) (by decide)
    have hnum : 0 ≤ (Rat.divInt p q).num := by
      have h2 := divInt_sgn p hq
      rw [show sgn p = 1 from if_pos hp] at h2
      have : 0 < (Rat.divInt p q).num := sgn_pos.1 (by omega)
      omega
    refine w_num_simplest x y (RV_ex _) ((s_Floor hx hnum fx).mono fun p0 h0 => (s_Of (n := 1) (by decide) (by decide)).mono fun o ho => ?_)
    rw [divInt_floor hq] at h0
    refine (s_Ratio longS h0 ho (by decide) (Pf.fit_i64 (by omega) (by omega)) (Pf.fit_i64 (by decide) (by decide)) (by decide)).mono fun p2 h2 => ?_
    refine (s_RCmp h2 hx fn fx (by decide)).mono ?_
    rintro _ rfl
    rw [divInt_cmp (by decide) hq, Int.mul_one]
    rw [simS]
    refine brV_iff.2 ⟨fun h3 => ?_, fun h3 => ?_⟩
    · have h3 := sgn_z (dec_t h3)
      rw [floor_eq] at h3
      rw [if_pos h3]; exact h2
    have h3 : ¬ p % q = 0 := fun e => dec_f h3 (by rw [floor_eq.2 e]; rfl)
    rw [if_neg h3]
    refine (s_Whole (n := 1) (by decide) (by decide)).mono fun p4 h4 => (s_RAdd longS h2 h4 fn f1 (by decide)).mono fun p5 h5 => ?_
    rw [divInt_add_one] at h5
    refine (s_RCmp h5 hy (fitP (by decide) (by decide) (by omega) (by omega)) fy (by decide)).mono ?_
    rintro _ rfl
    rw [divInt_cmp (by decide) hs, Int.mul_one]
    refine brV_iff.2 ⟨fun h6 => ?_, fun h6 => ?_⟩
    · have h6 := dec_t h6
      rw [sgn_le] at h6
      rw [if_pos (by omega)]; exact h5
    have h6 := dec_f h6
    rw [sgn_le] at h6
    have h6 : ¬ (p / q + 1) * s ≤ r := by omega
    rw [if_neg h6]
    obtain ⟨hP, b1, b2⟩ := h.next h3 h6
    have g1 := hP.q0
    have g2 := hP.s0
    refine (s_Whole (n := 1) (by decide) (by decide)).mono fun p7 h7 => (s_RSub longS hy h2 fy fn (by decide)).mono fun p8 h8 => ?_
    rw [divInt_sub_whole _ _ hs] at h8
    refine (s_RDiv longS h7 h8 f1 (fitP hs (by omega) (by omega) (by omega)) (by decide) (divInt_ne g1 hs)).mono fun p9 h9 => ?_
    rw [one_div_divInt] at h9
    refine (s_Whole (n := 1) (by decide) (by decide)).mono fun p10 h10 => (s_RSub longS hx h2 fx fn (by decide)).mono fun p11 h11 => ?_
    rw [divInt_sub_whole _ _ hq] at h11
    refine (s_RDiv longS h10 h11 f1 (fitP hq (by omega) (by omega) (by omega)) (by decide) (divInt_ne g2 hq)).mono fun p12 h12 => ?_
    rw [one_div_divInt] at h12
    refine (s_simplest k hP (by omega) (by omega) (by omega) (by omega) (by omega) h9 h12).mono fun p13 h13 => ?_
    obtain ⟨x0, y0, _⟩ := simS_facts k hP (by omega)
    obtain ⟨c1, c2, _⟩ := simS_le hP (show r - p / q * s + (p - p / q * q) ≤ k by omega)
    refine (s_Whole (n := 1) (by decide) (by decide)).mono fun p14 h14 => (s_RDiv longS h14 h13 f1 (fitP y0 (by omega) (by omega) (by omega)) (by decide) (divInt_ne x0 y0)).mono fun p15 h15 => ?_
    rw [one_div_divInt] at h15
    refine (s_RAdd longS h2 h15 fn (fitP x0 (by omega) (by omega) (by omega)) (by decide)).mono fun p16 h16 => ?_
    rw [divInt_fin _ _ _ x0] at h16
    exact h16

theorem r_simplest : ∀ (k : Nat) {p q r s : Int} {x y : (Int × Bool × Option (List Int)) × (Int × Bool × Option (List Int))}, SPre p q r s → q + s ≤ k → p ≤ 1152921504606846976 → q ≤ 1152921504606846976 → r ≤ 1152921504606846976 → s ≤ 1152921504606846976 →
    RRV x (Rat.divInt p q) → RRV y (Rat.divInt r s) → callV Pg c_ref01_simplest [⟨tRR, x⟩, ⟨tRR, y⟩] tRR fun z => RRV z (Rat.divInt (simS k p q r s).1 (simS k p q r s).2)
  | 0, p, q, r, s, x, y, h, hk, p1, q1, r1, s1, hx, hy => by have := h.q0; have := h.s0; omega
  | k + 1, p, q, r, s, x, y, h, hk, p1, q1, r1, s1, hx, hy => by
    have hp := h.p0
    have hq := h.q0
    have hr := h.r0
    have hs := h.s0
    obtain ⟨n0, n1⟩ := floor_le hp hq
    have fx : RFit 3 (Rat.divInt p q) := fitR hq (by omega) (by omega) (by omega)
    have fy : RFit 3 (Rat.divInt r s) := fitR hs (by omega) (by omega) (by omega)
    have fn : RFit 3 (Rat.divInt (p / q) 1) := fitR (by decide) (by decide) (by omega) (by omega)
    have f1 : RFit 3 ((1 : Int) : Rat) := by rw [one_divInt]; exact fitR (by decide) (by decide) (by decide) (by decide)
    have hnum : 0 ≤ (Rat.divInt p q).num := by
      have h2 := divInt_sgn p hq
      rw [show sgn p = 1 from if_pos hp] at h2
      have : 0 < (Rat.divInt p q).num := sgn_pos.1 (by omega)
      omega
    refine w_ref01_simplest x y (RRV_ex _) ((r_Down hx hnum fx).mono fun p0 h0 => (r_Of (n := 1) (by decide) (by decide)).mono fun o ho => ?_)
    rw [divInt_floor hq] at h0
    have h2 : RRV (p0, o) (Rat.divInt (p / q) 1) := by
      obtain ⟨e1, e2⟩ := divInt_one (p / q)
      exact ⟨by rw [e1]; exact h0, by rw [e2]; exact ho⟩
    refine (r_RCompare hx h2 fx fn (by decide)).mono ?_
    rintro _ rfl
    rw [divInt_cmp hq (by decide), Int.mul_one]
    rw [simS]
    refine brV_iff.2 ⟨fun h3 => ?_, fun h3 => ?_⟩
    · have h3 := sgn_z (dec_t h3)
      have h3 : p % q = 0 := floor_eq.1 (by omega)
      rw [if_pos h3]; exact h2
    have h3 : ¬ p % q = 0 := fun e => dec_f h3 (by have := floor_eq.2 e; rw [show p - p / q * q = 0 by omega]; rfl)
    rw [if_neg h3]
    refine (r_Whole (n := 1) (by decide) (by decide)).mono fun p4 h4 => (r_RPlus (x := (p0, o)) h2 h4 fn f1 (by decide)).mono fun p5 h5 => ?_
    rw [divInt_add_one] at h5
    refine (r_RCompare h5 hy (fitR (by decide) (by decide) (by omega) (by omega)) fy (by decide)).mono ?_
    rintro _ rfl
    rw [divInt_cmp (by decide) hs, Int.mul_one]
    refine brV_iff.2 ⟨fun h6 => ?_, fun h6 => ?_⟩
    · have h6 := dec_t h6
      rw [sgn_le] at h6
      rw [if_pos (by omega)]
      refine (r_Whole (n := 1) (by decide) (by decide)).mono fun p6 h7 => (r_RPlus (x := (p0, o)) h2 h7 fn f1 (by decide)).mono fun p7 h8 => ?_
      rw [divInt_add_one] at h8
      exact h8
    have h6 := dec_f h6
    rw [sgn_le] at h6
    have h6 : ¬ (p / q + 1) * s ≤ r := by omega
    rw [if_neg h6]
    obtain ⟨hP, b1, b2⟩ := h.next h3 h6
    have g1 := hP.q0
    have g2 := hP.s0
    refine (r_Whole (n := 1) (by decide) (by decide)).mono fun p7 h7 => (r_RLess (y := (p0, o)) hy h2 fy fn (by decide)).mono fun p8 h8 => ?_
    rw [divInt_sub_whole _ _ hs] at h8
    refine (r_ROver h7 h8 f1 (fitR hs (by omega) (by omega) (by omega)) (by decide) (divInt_ne g1 hs)).mono fun p9 h9 => ?_
    rw [one_div_divInt] at h9
    refine (r_Whole (n := 1) (by decide) (by decide)).mono fun p10 h10 => (r_RLess (y := (p0, o)) hx h2 fx fn (by decide)).mono fun p11 h11 => ?_
    rw [divInt_sub_whole _ _ hq] at h11
    refine (r_ROver h10 h11 f1 (fitR hq (by omega) (by omega) (by omega)) (by decide) (divInt_ne g2 hq)).mono fun p12 h12 => ?_
    rw [one_div_divInt] at h12
    refine (r_simplest k hP (by omega) (by omega) (by omega) (by omega) (by omega) h9 h12).mono fun p13 h13 => ?_
    obtain ⟨x0, y0, _⟩ := simS_facts k hP (by omega)
    obtain ⟨c1, c2, _⟩ := simS_le hP (show r - p / q * s + (p - p / q * q) ≤ k by omega)
    refine (r_Whole (n := 1) (by decide) (by decide)).mono fun p14 h14 => (r_ROver h14 h13 f1 (fitR y0 (by omega) (by omega) (by omega)) (by decide) (divInt_ne x0 y0)).mono fun p15 h15 => ?_
    rw [one_div_divInt] at h15
    refine (r_RPlus (x := (p0, o)) h2 h15 fn (fitR x0 (by omega) (by omega) (by omega)) (by decide)).mono fun p16 h16 => ?_
    rw [divInt_fin _ _ _ x0] at h16
    exact h16

end Go.Proofs.Pf.B

namespace Go.Proofs.Pf.B
open Go Go.VM

def betQ (a b : Int × Int) : (Int × Int) × Int × Unit :=
  if NumOk a ∧ NumOk b then
    (if 0 < a.1 * b.2 - b.1 * a.2 then ((0, 0), 6, ())
     else if a.1 ≤ 0 ∧ 0 ≤ b.1 then ((0, 1), 0, ())
     else if b.1 < 0 then outQ (-(Rat.divInt (simS (a.2 + b.2).toNat (-b.1) b.2 (-a.1) a.2).1 (simS (a.2 + b.2).toNat (-b.1) b.2 (-a.1) a.2).2))
     else outQ (Rat.divInt (simS (a.2 + b.2).toNat a.1 a.2 b.1 b.2).1 (simS (a.2 + b.2).toNat a.1 a.2 b.1 b.2).2))
  else ((0, 0), 1, ())

theorem bet_pos {a b : Int × Int} (ha : NumOk a) (hb : NumOk b) (h : ¬ 0 < a.1 * b.2 - b.1 * a.2) (h2 : ¬ (a.1 ≤ 0 ∧ 0 ≤ b.1)) (h3 : ¬ b.1 < 0) : SPre a.1 a.2 b.1 b.2 := by
  obtain ⟨a1, _⟩ := ha
  obtain ⟨b1, _⟩ := hb
  have hpa : 0 < a.1 := by omega
  refine ⟨hpa, by omega, ?_, by omega, by omega⟩
  have h4 : 0 < a.1 * b.2 := Int.mul_pos hpa (by omega)
  rcases Int.lt_or_le 0 b.1 with h5 | h5
  · exact h5
  · have : b.1 = 0 := by omega
    rw [this] at h; simp at h; omega

theorem bet_neg {a b : Int × Int} (ha : NumOk a) (hb : NumOk b) (h : ¬ 0 < a.1 * b.2 - b.1 * a.2) (h3 : b.1 < 0) : SPre (-b.1) b.2 (-a.1) a.2 := by
  obtain ⟨a1, _⟩ := ha
  obtain ⟨b1, _⟩ := hb
  have h4 : b.1 * a.2 < 0 := Int.mul_neg_of_neg_of_pos h3 (by omega)
  have hpa : a.1 < 0 := by
    rcases Int.lt_or_le a.1 0 with h5 | h5
    · exact h5
    · have := Int.mul_nonneg h5 (show 0 ≤ b.2 by omega); omega
  exact ⟨by omega, by omega, by omega, by omega, by rw [Int.neg_mul, Int.neg_mul]; omega⟩

theorem sgn_numQ {a : Int × Int} (h : NumOk a) : sgn (numQ a).num = sgn a.1 := by rw [h.q.1]

theorem s_NBetween (a b : Int × Int) : callV Pg c_num_Between [⟨tNum, a⟩, ⟨tNum, b⟩] (.tup (.pair tNum (.pair tI .unit))) fun r => r = betQ a b := by
  refine w_num_Between a b ⟨_, rfl⟩ (joinR (fun p => ∃ c : Bool, p = (c, a, b, (0 : Int), (0 : Int)) ∧ (c = true ↔ ¬ (NumOk a ∧ NumOk b))) ?_ ?_)
  · rintro _ ⟨c, rfl, hc⟩
    refine brV_iff.2 ⟨fun h => ?_, fun h => ?_⟩
    · rw [betQ, if_neg (hc.1 h)]
    · have hN : NumOk a ∧ NumOk b := Classical.byContradiction fun hn => by
        have := hc.2 hn; dsimp only at h; rw [h] at this; simp at this
      rw [betQ, if_pos hN]
      obtain ⟨hA, hB⟩ := hN
      obtain ⟨a1, a2, a3, a4, _⟩ := id hA
      obtain ⟨b1, b2, b3, b4, _⟩ := id hB
      refine (s_Rat longS hA).mono fun p1 h1 => (s_Rat longS hB).mono fun p2 h2 => ?_
      refine (s_RCmp h1 h2 hA.fit hB.fit (by omega)).mono ?_
      rintro _ rfl
      have ec : sgn (numQ a - numQ b).num = sgn (a.1 * b.2 - b.1 * a.2) := divInt_cmp (by omega) (by omega)
      rw [ec]
      refine brV_iff.2 ⟨fun h3 => ?_, fun h3 => ?_⟩
      · rw [if_pos (sgn_pos.1 (dec_t h3))]
      have h3 : ¬ 0 < a.1 * b.2 - b.1 * a.2 := fun e => dec_f h3 (sgn_pos.2 e)
      rw [if_neg h3]
      refine joinR (fun p => ∃ c : Bool, p = (c, ((0 : Int), (0 : Int)), p1, p2) ∧ (c = true ↔ a.1 ≤ 0 ∧ 0 ≤ b.1)) ?_ ?_
      · rintro _ ⟨c, rfl, hc⟩
        dsimp only
        refine brV_iff.2 ⟨fun h4 => ?_, fun h4 => ?_⟩
        · rw [if_pos (hc.1 h4)]
        have h4 : ¬ (a.1 ≤ 0 ∧ 0 ≤ b.1) := fun e => by have := hc.2 e; rw [h4] at this; simp at this
        rw [if_neg h4]
        refine (s_RSign h2).mono ?_
        rintro _ rfl
        rw [sgn_numQ hB]
        refine brV_iff.2 ⟨fun h5 => ?_, fun h5 => ?_⟩
        · have h5 : b.1 < 0 := sgn_neg.1 (dec_t h5)
          rw [if_pos h5]
          have hP := bet_neg hA hB h3 h5
          refine (s_RNeg h2).mono fun p6 h6 => (s_RNeg h1).mono fun p7 h7 => ?_
          unfold numQ at h6 h7
          rw [Rat.neg_divInt] at h6 h7
          refine (s_simplest (a.2 + b.2).toNat hP (by omega) (by omega) (by omega) (by omega) (by omega) h6 h7).mono fun p8 h8 => (s_RNeg h8).mono fun p9 h9 => (s_Out h9).mono ?_
          rintro _ rfl
          rfl
        · have h5 : ¬ b.1 < 0 := fun e => dec_f h5 (sgn_neg.2 e)
          rw [if_neg h5]
          have hP := bet_pos hA hB h3 h4 h5
          refine (s_simplest (a.2 + b.2).toNat hP (by omega) (by omega) (by omega) (by omega) (by omega) h1 h2).mono fun p8 h8 => (s_Out h8).mono ?_
          rintro _ rfl
          rfl
      · intro k hk
        refine (s_RSign h1).mono ?_
        rintro _ rfl
        rw [sgn_numQ hA]
        refine brV_iff.2 ⟨fun h4 => (s_RSign h2).mono ?_, fun h4 => hk _ ⟨false, rfl, ?_⟩⟩
        · rintro _ rfl
          have h4 : a.1 ≤ 0 := sgn_le.1 (dec_t h4)
          rw [sgn_numQ hB]
          refine hk _ ⟨_, rfl, ?_⟩
          rw [decide_eq_true_eq]
          have e : 0 ≤ sgn b.1 ↔ 0 ≤ b.1 := by
            have := sgn_neg (n := b.1); omega
          rw [e]; exact ⟨fun h => ⟨h4, h⟩, fun h => h.2⟩
        · have h4 : ¬ a.1 ≤ 0 := fun e => dec_f h4 (sgn_le.2 e)
          simp; omega
  · intro k hk
    refine (s_Valid longS a).mono ?_
    rintro _ rfl
    refine brV_iff.2 ⟨fun h => hk _ ⟨true, rfl, ?_⟩, fun h => (s_Valid longS b).mono ?_⟩
    · have h := not_t h
      simp only [true_iff]; exact fun h2 => h h2.1
    · rintro _ rfl
      have h := not_f h
      refine hk _ ⟨_, rfl, ?_⟩
      simp only [notB, Bool.not_eq_true', decide_eq_false_iff_not]
      exact ⟨fun h1 h2 => h1 h2.2, fun h1 h2 => h1 ⟨h, h2⟩⟩

theorem r_Between (a b : Int × Int) : callV Pg c_ref01_Between [⟨tNum, a⟩, ⟨tNum, b⟩] (.tup (.pair tNum (.pair tI .unit))) fun r => r = betQ a b := by
  refine w_ref01_Between a b ⟨_, rfl⟩ ((r_All2 a b).mono ?_)
  rintro _ rfl
  refine brV_iff.2 ⟨fun h => ?_, fun h => ?_⟩
  · rw [betQ, if_neg (not_t h)]
  have hN := not_f h
  rw [betQ, if_pos hN]
  obtain ⟨hA, hB⟩ := hN
  obtain ⟨a1, a2, a3, a4, _⟩ := id hA
  obtain ⟨b1, b2, b3, b4, _⟩ := id hB
  refine (r_To hA).mono fun p1 h1 => (r_To hB).mono fun p2 h2 => (r_RCompare h1 h2 (ok_fit hA) (ok_fit hB) (by omega)).mono ?_
  rintro _ rfl
  have ec : sgn (numQ a - numQ b).num = sgn (a.1 * b.2 - b.1 * a.2) := divInt_cmp (by omega) (by omega)
  rw [ec]
  refine brV_iff.2 ⟨fun h3 => ?_, fun h3 => ?_⟩
  · rw [if_pos (sgn_pos.1 (dec_t h3))]
  have h3 : ¬ 0 < a.1 * b.2 - b.1 * a.2 := fun e => dec_f h3 (sgn_pos.2 e)
  rw [if_neg h3]
  refine joinR (fun p => ∃ c : Bool, p = (c, a, b, ((0 : Int), (0 : Int))) ∧ (c = true ↔ a.1 ≤ 0 ∧ 0 ≤ b.1)) ?_ ?_
  · rintro _ ⟨c, rfl, hc⟩
    dsimp only
    refine brV_iff.2 ⟨fun h4 => ?_, fun h4 => ?_⟩
    · rw [if_pos (hc.1 h4)]
    have h4 : ¬ (a.1 ≤ 0 ∧ 0 ≤ b.1) := fun e => by have := hc.2 e; rw [h4] at this; simp at this
    rw [if_neg h4]
    refine brV_iff.2 ⟨fun h5 => ?_, fun h5 => ?_⟩
    · have h5 : 0 < a.1 := dec_t h5
      have h6 : ¬ b.1 < 0 := fun e => by have := (bet_neg hA hB h3 e).r0; omega
      rw [if_neg h6]
      have hP := bet_pos hA hB h3 h4 h6
      refine (r_To hA).mono fun q1 h1 => (r_To hB).mono fun q2 h2 => ?_
      refine (r_simplest (a.2 + b.2).toNat hP (by omega) (by omega) (by omega) (by omega) (by omega) h1 h2).mono fun p8 h8 => (r_Num h8).mono ?_
      rintro _ rfl
      rfl
    · have h5 : ¬ 0 < a.1 := dec_f h5
      have h6 : b.1 < 0 := by omega
      rw [if_pos h6]
      have hP := bet_neg hA hB h3 h6
      refine (r_To hB).mono fun q2 h2 => (r_RMinus h2).mono fun q6 h6 => (r_To hA).mono fun q1 h1 => (r_RMinus h1).mono fun q7 h7 => ?_
      unfold numQ at h6 h7
      rw [Rat.neg_divInt] at h6 h7
      refine (r_simplest (a.2 + b.2).toNat hP (by omega) (by omega) (by omega) (by omega) (by omega) h6 h7).mono fun p8 h8 => (r_RMinus h8).mono fun p9 h9 => (r_Num h9).mono ?_
      rintro _ rfl
      rfl
  · intro k hk
    refine brV_iff.2 ⟨fun h4 => hk _ ⟨_, rfl, ?_⟩, fun h4 => hk _ ⟨false, rfl, ?_⟩⟩
    · have h4 : a.1 ≤ 0 := dec_t h4
      rw [decide_eq_true_eq]
      exact ⟨fun h => ⟨h4, h⟩, fun h => h.2⟩
    · have h4 : ¬ a.1 ≤ 0 := dec_f h4
      simp; omega

theorem s_NumBetween (a b : Int × Int) : callV Pg c_law01_NumBetween [⟨tNum, a⟩, ⟨tNum, b⟩] .bool fun r => r = true := by
  refine w_law01_NumBetween a b ⟨_, rfl⟩ ((s_NBetween a b).mono ?_)
  rintro _ rfl
  refine (r_Between a b).mono ?_
  rintro _ rfl
  refine joinR (fun p => p = true) (fun p h => h) fun k hk => ?_
  rw [eqNum]
  refine brV_iff.2 ⟨fun _ => brV_iff.2 ⟨fun _ => s_awake.mono fun r hr => hk r hr, fun h => absurd rfl (dec_f h)⟩, fun h => absurd rfl (dec_f h)⟩

end Go.Proofs.Pf.B

namespace Go.Proofs.Pf.B
open Go Go.VM

theorem numQ_cmp {a b : Int × Int} (ha : NumOk a) (hb : NumOk b) : sgn (numQ a - numQ b).num = sgn (a.1 * b.2 - b.1 * a.2) := by
  obtain ⟨a1, _⟩ := ha
  obtain ⟨b1, _⟩ := hb
  exact divInt_cmp (by omega) (by omega)

/-- What the number between two is. -/
theorem betQ_facts {a b : Int × Int} (h : (betQ a b).2.1 = 0) : NumOk a ∧ NumOk b ∧ NumOk (betQ a b).1 ∧
    a.1 * (betQ a b).1.2 ≤ (betQ a b).1.1 * a.2 ∧ (betQ a b).1.1 * b.2 ≤ b.1 * (betQ a b).1.2 ∧
    ∀ c : Int × Int, NumOk c → a.1 * c.2 ≤ c.1 * a.2 → c.1 * b.2 ≤ b.1 * c.2 → (betQ a b).1.2 ≤ c.2 ∧ (betQ a b).1.1.natAbs ≤ c.1.natAbs := by
  unfold betQ at h ⊢
  by_cases hN : NumOk a ∧ NumOk b
  case neg => rw [if_neg hN] at h; simp at h
  rw [if_pos hN] at h ⊢
  obtain ⟨hA, hB⟩ := hN
  obtain ⟨a1, a2, a3, a4, _⟩ := id hA
  obtain ⟨b1, b2, b3, b4, _⟩ := id hB
  refine ⟨hA, hB, ?_⟩
  by_cases h1 : 0 < a.1 * b.2 - b.1 * a.2
  · rw [if_pos h1] at h; simp at h
  rw [if_neg h1] at h ⊢
  by_cases h2 : a.1 ≤ 0 ∧ 0 ≤ b.1
  · rw [if_pos h2] at h ⊢
    refine ⟨by decide, by dsimp only; omega, by dsimp only; omega, fun c hc _ _ => ⟨?_, by simp⟩⟩
    have := hc.1; dsimp only; omega
  rw [if_neg h2] at h ⊢
  by_cases h3 : b.1 < 0
  · rw [if_pos h3] at h ⊢
    have hP := bet_neg hA hB h1 h3
    obtain ⟨x0, y0, f1, f2, f3⟩ := simS_facts (a.2 + b.2).toNat hP (by omega)
    generalize simS (a.2 + b.2).toNat (-b.1) b.2 (-a.1) a.2 = X at *
    obtain ⟨x, y⟩ := X
    dsimp only at x0 y0 f1 f2 f3 h ⊢
    rw [Rat.neg_divInt] at h ⊢
    obtain ⟨k1, k2⟩ := outQ_ok h
    obtain ⟨e1, e2⟩ := k1.q
    rw [k2] at e1 e2
    obtain ⟨g1, g2, g3⟩ := divInt_parts (-x) y0
    rw [e1, e2] at g1
    rw [e1] at g2
    have g3 : (outQ (Rat.divInt (-x) y)).1.2 ≤ y := by omega
    generalize (outQ (Rat.divInt (-x) y)).1 = p at *
    have p0 := k1.1
    refine ⟨k1, ?_, ?_, fun c hc c1 c2 => ?_⟩
    · have : y * (a.1 * p.2) ≤ y * (p.1 * a.2) := by
        have e : y * (p.1 * a.2) = -x * p.2 * a.2 := by rw [← g1]; grind
        have e3 : p.2 * (x * a.2) ≤ p.2 * (-a.1 * y) := Int.mul_le_mul_of_nonneg_left f2 (by omega)
        rw [e]
        have e4 : p.2 * (x * a.2) = -(-x * p.2 * a.2) := by grind
        have e5 : p.2 * (-a.1 * y) = -(y * (a.1 * p.2)) := by grind
        omega
      exact Int.le_of_mul_le_mul_left this y0
    · have : y * (p.1 * b.2) ≤ y * (b.1 * p.2) := by
        have e : y * (p.1 * b.2) = -x * p.2 * b.2 := by rw [← g1]; grind
        have e3 : p.2 * (-b.1 * y) ≤ p.2 * (x * b.2) := Int.mul_le_mul_of_nonneg_left f1 (by omega)
        rw [e]
        have e4 : p.2 * (x * b.2) = -(-x * p.2 * b.2) := by grind
        have e5 : p.2 * (-b.1 * y) = -(y * (b.1 * p.2)) := by grind
        omega
      exact Int.le_of_mul_le_mul_left this y0
    · have hc0 := hc.1
      obtain ⟨m1, m2⟩ := f3 (-c.1) c.2 (by omega) (by rw [Int.neg_mul, Int.neg_mul]; omega) (by rw [Int.neg_mul, Int.neg_mul]; omega)
      omega
  · rw [if_neg h3] at h ⊢
    have hP := bet_pos hA hB h1 h2 h3
    obtain ⟨x0, y0, f1, f2, f3⟩ := simS_facts (a.2 + b.2).toNat hP (by omega)
    generalize simS (a.2 + b.2).toNat a.1 a.2 b.1 b.2 = X at *
    obtain ⟨x, y⟩ := X
    dsimp only at x0 y0 f1 f2 f3 h ⊢
    obtain ⟨k1, k2⟩ := outQ_ok h
    obtain ⟨e1, e2⟩ := k1.q
    rw [k2] at e1 e2
    obtain ⟨g1, g2, g3⟩ := divInt_parts x y0
    rw [e1, e2] at g1
    rw [e1] at g2
    have g3 : (outQ (Rat.divInt x y)).1.2 ≤ y := by omega
    generalize (outQ (Rat.divInt x y)).1 = p at *
    have p0 := k1.1
    refine ⟨k1, ?_, ?_, fun c hc c1 c2 => ?_⟩
    · have : y * (a.1 * p.2) ≤ y * (p.1 * a.2) := by
        have e : y * (p.1 * a.2) = p.2 * (x * a.2) := by rw [← Int.mul_assoc, Int.mul_comm y, g1]; grind
        have e3 : p.2 * (a.1 * y) ≤ p.2 * (x * a.2) := Int.mul_le_mul_of_nonneg_left f1 (by omega)
        have e5 : p.2 * (a.1 * y) = y * (a.1 * p.2) := by grind
        omega
      exact Int.le_of_mul_le_mul_left this y0
    · have : y * (p.1 * b.2) ≤ y * (b.1 * p.2) := by
        have e : y * (p.1 * b.2) = p.2 * (x * b.2) := by rw [← Int.mul_assoc, Int.mul_comm y, g1]; grind
        have e3 : p.2 * (x * b.2) ≤ p.2 * (b.1 * y) := Int.mul_le_mul_of_nonneg_left f2 (by omega)
        have e5 : p.2 * (b.1 * y) = y * (b.1 * p.2) := by grind
        omega
      exact Int.le_of_mul_le_mul_left this y0
    · have hc0 := hc.1
      obtain ⟨m1, m2⟩ := f3 c.1 c.2 (by omega) c1 c2
      omega

theorem s_NumLeast (a b c : Int × Int) : callV Pg c_law01_NumLeast [⟨tNum, a⟩, ⟨tNum, b⟩, ⟨tNum, c⟩] .bool fun r => r = true := by
  refine w_law01_NumLeast a b c ⟨_, rfl⟩ ((s_NBetween a b).mono ?_)
  rintro _ rfl
  refine brV_iff.2 ⟨fun _ => s_awake.mono fun _ h => h, fun h => ?_⟩
  have h0 := not_f h
  obtain ⟨hA, hB, hP, w1, w2, w3⟩ := betQ_facts h0
  generalize (betQ a b).1 = p at *
  refine joinR (fun q => q = (false, a, b, c, p)) ?_ ?_
  · rintro _ rfl
    refine brV_iff.2 ⟨fun h => by simp at h, fun _ => ?_⟩
    dsimp only
    refine joinR (fun q => ∃ e : Bool, q = (e, c, p) ∧ (e = false → NumOk c ∧ a.1 * c.2 ≤ c.1 * a.2 ∧ c.1 * b.2 ≤ b.1 * c.2)) ?_ ?_
    · rintro _ ⟨e, rfl, he⟩
      refine brV_iff.2 ⟨fun _ => s_awake.mono fun _ h => h, fun h => ?_⟩
      obtain ⟨hC, c1, c2⟩ := he h
      obtain ⟨m1, m2⟩ := w3 c hC c1 c2
      obtain ⟨_, _, p3, p4, _⟩ := id hP
      obtain ⟨_, _, q3, q4, _⟩ := id hC
      dsimp only
      refine joinR (fun p => p = true) (fun p h => h) fun k hk => ?_
      refine brV_iff.2 ⟨fun _ => s_awake.mono fun r hr => hk r hr, fun h1 => ?_⟩
      have h1 : ¬ p.2 < c.2 := dec_f h1
      refine brV_iff.2 ⟨fun _ => ?_, fun h2 => ?_⟩
      · rw [absI (a := p.1) (by omega) (by omega), absI (a := c.1) (by omega) (by omega)]
        refine brV_iff.2 ⟨fun _ => s_awake.mono fun r hr => hk r hr, fun h3 => ?_⟩
        have h3 : ¬ (p.1.natAbs : Int) ≤ (c.1.natAbs : Int) := dec_f h3
        omega
      · have h2 : ¬ c.2 = p.2 := dec_f h2
        omega
    · intro k hk
      refine (r_Valid c).mono ?_
      rintro _ rfl
      refine brV_iff.2 ⟨fun _ => hk _ ⟨true, rfl, fun h => by simp at h⟩, fun h => ?_⟩
      have hC := not_f h
      refine (r_To hA).mono fun p4 h4 => (r_To hC).mono fun p5 h5 => (r_RCompare h4 h5 (ok_fit hA) (ok_fit hC) (by omega)).mono ?_
      rintro _ rfl
      rw [numQ_cmp hA hC]
      refine brV_iff.2 ⟨fun _ => hk _ ⟨true, rfl, fun h => by simp at h⟩, fun h => ?_⟩
      have c1 : ¬ 0 < a.1 * c.2 - c.1 * a.2 := fun e => dec_f h (sgn_pos.2 e)
      refine (r_To hC).mono fun p7 h7 => (r_To hB).mono fun p8 h8 => (r_RCompare h7 h8 (ok_fit hC) (ok_fit hB) (by omega)).mono ?_
      rintro _ rfl
      rw [numQ_cmp hC hB]
      refine hk _ ⟨_, rfl, fun h => ⟨hC, by omega, ?_⟩⟩
      have c2 : ¬ 0 < c.1 * b.2 - b.1 * c.2 := fun e => dec_f h (sgn_pos.2 e)
      omega
  · intro k hk
    refine (r_Valid p).mono ?_
    rintro _ rfl
    refine brV_iff.2 ⟨fun h => absurd hP (not_t h), fun _ => ?_⟩
    refine (r_To hA).mono fun p4 h4 => (r_To hP).mono fun p5 h5 => (r_RCompare h4 h5 (ok_fit hA) (ok_fit hP) (by omega)).mono ?_
    rintro _ rfl
    rw [numQ_cmp hA hP]
    refine brV_iff.2 ⟨fun h => ?_, fun _ => ?_⟩
    · have := sgn_pos.1 (dec_t h); omega
    refine (r_To hP).mono fun p7 h7 => (r_To hB).mono fun p8 h8 => (r_RCompare h7 h8 (ok_fit hP) (ok_fit hB) (by omega)).mono ?_
    rintro _ rfl
    rw [numQ_cmp hP hB]
    have e : decide (0 < sgn (p.1 * b.2 - b.1 * p.2)) = false := decide_eq_false fun e => by have := sgn_pos.1 e; omega
    rw [e]
    exact hk _ rfl

end Go.Proofs.Pf.B

namespace Go.Proofs.Pf.B
open Go Go.VM

/-- The sum of the first products. -/
def dotR (l m : List (Int × Int)) : Nat → Rat
  | 0 => 0
  | i + 1 => dotR l m i + numQ (l.getD i (0, 0)) * numQ (m.getD i (0, 0))

def dotQ (l m : List (Int × Int)) : (Int × Int) × Int × Unit :=
  if (∀ a ∈ l, NumOk a) ∧ (∀ a ∈ m, NumOk a) then (if l.length = m.length then outQ (dotR l m l.length) else ((0, 0), 2, ())) else ((0, 0), 1, ())

theorem pfit_mul {q r : Rat} {k j : Nat} (h : Pf.RFit k q) (g : Pf.RFit j r) : Pf.RFit (k + j) (q * r) := by
  have hq := q.den_nz
  have hr := r.den_nz
  rw [rat_mul]
  obtain ⟨_, h1, h2⟩ := divInt_parts (q.num * r.num) (show 0 < (q.den : Int) * (r.den : Int) from Int.mul_pos (by omega) (by omega))
  exact ⟨(h.1.mul g.1 (Nat.le_refl _)).of h1, (h.2.mul g.2 (Nat.le_refl _)).of (by omega)⟩

theorem pfit_add {q r : Rat} {k j : Nat} (h : Pf.RFit k q) (g : Pf.RFit j r) : Pf.RFit (k + j + 1) (q + r) := by
  have hq := q.den_nz
  have hr := r.den_nz
  rw [rat_add]
  obtain ⟨_, h1, h2⟩ := divInt_parts (q.num * (r.den : Int) + r.num * (q.den : Int)) (show 0 < (q.den : Int) * (r.den : Int) from Int.mul_pos (by omega) (by omega))
  exact ⟨((h.1.mul g.2 (Nat.le_refl _)).add (g.1.mul h.2 (Nat.le_of_eq (Nat.add_comm _ _))) (Nat.lt_succ_self _)).of h1, ((h.2.mul g.2 (Nat.le_refl _)).mono (Nat.le_succ _)).of (by omega)⟩

theorem rfit_mul {q r : Rat} {k j : Nat} (h : RFit k q) (g : RFit j r) : RFit (k + j) (q * r) := by
  have hq := q.den_nz
  have hr := r.den_nz
  rw [rat_mul]
  obtain ⟨_, h1, h2⟩ := divInt_parts (q.num * r.num) (show 0 < (q.den : Int) * (r.den : Int) from Int.mul_pos (by omega) (by omega))
  exact ⟨(h.1.mul g.1 (Nat.le_refl _)).of h1, (h.2.mul g.2 (Nat.le_refl _)).of (by omega)⟩

theorem rfit_add {q r : Rat} {k j : Nat} (h : RFit k q) (g : RFit j r) : RFit (k + j + 1) (q + r) := by
  have hq := q.den_nz
  have hr := r.den_nz
  rw [rat_add]
  obtain ⟨_, h1, h2⟩ := divInt_parts (q.num * (r.den : Int) + r.num * (q.den : Int)) (show 0 < (q.den : Int) * (r.den : Int) from Int.mul_pos (by omega) (by omega))
  exact ⟨((h.1.mul g.2 (Nat.le_refl _)).add (g.1.mul h.2 (Nat.le_of_eq (Nat.add_comm _ _))) (Nat.lt_succ_self _)).of h1, ((h.2.mul g.2 (Nat.le_refl _)).mono (Nat.le_succ _)).of (by omega)⟩

theorem getD_mem {l : List (Int × Int)} {i : Nat} (h : i < l.length) : l.getD i (0, 0) ∈ l := by
  have : l.getD i (0, 0) = l[i] := by simp [List.getD, h]
  rw [this]; exact List.getElem_mem _

theorem take_all {P : Int × Int → Prop} {l : List (Int × Int)} {i : Nat} (h : i < l.length) (h1 : ∀ a ∈ l.take i, P a) (h2 : P (l.getD i (0, 0))) : ∀ a ∈ l.take (i + 1), P a := by
  rw [List.take_succ_eq_append_getElem h]
  intro a ha
  rcases List.mem_append.1 ha with ha | ha
  · exact h1 a ha
  · rw [List.mem_singleton.1 ha]
    have : l.getD i (0, 0) = l[i] := by simp [List.getD, h]
    rw [← this]; exact h2

theorem zero_rv : RV (((0 : Int), none), ((0 : Int), none)) (0 : Rat) := ⟨⟨rfl, by decide, by decide⟩, .inr ⟨⟨rfl, by decide, by decide⟩, rfl⟩⟩
theorem zero_pfit : Pf.RFit 1 (0 : Rat) := by unfold Pf.RFit Pf.Fit; decide
theorem zero_rfit : RFit 1 (0 : Rat) := by unfold RFit Fit; decide

theorem s_NDot (l m : Option (List (Int × Int))) (hl : (l.getD []).length ≤ 200) (hm : (m.getD []).length ≤ 200) : callV Pg c_num_Dot [⟨(.sl tNum), l⟩, ⟨(.sl tNum), m⟩] (.tup (.pair tNum (.pair tI .unit))) fun r => r = dotQ (l.getD []) (m.getD []) := by
  refine w_num_Dot l m ⟨_, rfl⟩ (loopE (fun p => ∃ i : Nat, p = (l, m, [l, m], (i : Int), (0 : Int), (0 : Int)) ∧ i ≤ 2 ∧ (1 ≤ i → ∀ a ∈ l.getD [], NumOk a) ∧ (2 ≤ i → ∀ a ∈ m.getD [], NumOk a)) (fun p => (2 - p.2.2.2.1).toNat) ⟨0, rfl, by omega, fun h => by omega, fun h => by omega⟩ ?_)
  rintro _ ⟨i, rfl, hi, h1, h2⟩
  dsimp only
  refine brV_iff.2 ⟨fun hb => ?_, fun hb => ?_⟩
  · have hb : (i : Int) < 2 := dec_t hb
    obtain ⟨k, ek, hk, hk1, hk2⟩ : ∃ k : Option (List (Int × Int)), eltS none (some [l, m]) (i : Int) = k ∧ (k.getD []).length ≤ 200 ∧ ((¬ ∀ a ∈ k.getD [], NumOk a) → ¬ ((∀ a ∈ l.getD [], NumOk a) ∧ (∀ a ∈ m.getD [], NumOk a))) ∧
        ((∀ a ∈ k.getD [], NumOk a) → (1 ≤ i + 1 → ∀ a ∈ l.getD [], NumOk a) ∧ (2 ≤ i + 1 → ∀ a ∈ m.getD [], NumOk a)) := by
      rcases (show i = 0 ∨ i = 1 by omega) with rfl | rfl
      · exact ⟨l, rfl, hl, fun h g => h g.1, fun h => ⟨fun _ => h, fun h => by omega⟩⟩
      · exact ⟨m, rfl, hm, fun h g => h g.2, fun h => ⟨fun _ => h1 (by omega), fun _ => h⟩⟩
    rw [ek]
    refine ⟨⟨by omega, hb⟩, ?_⟩
    refine loopE (fun p => ∃ j : Nat, p = (l, m, [l, m], (i : Int), k, szSl k, (j : Int), (0 : Int), (0 : Int)) ∧ j ≤ (k.getD []).length ∧ ∀ a ∈ (k.getD []).take j, NumOk a) (fun p => (k.getD []).length - p.2.2.2.2.2.2.1.toNat) ⟨0, rfl, by omega, fun a h => by simp at h⟩ ?_
    rintro _ ⟨j, rfl, hj, hall⟩
    dsimp only
    refine brV_iff.2 ⟨fun hc => ?_, fun hc => ?_⟩
    · have hc : (j : Int) < ((k.getD []).length : Int) := dec_t hc
      have e : eltS ((0 : Int), (0 : Int)) k (j : Int) = (k.getD []).getD j (0, 0) := by simp only [eltS, Int.toNat_natCast]
      rw [e]
      refine ⟨⟨by omega, by omega⟩, (s_Valid longS _).mono ?_⟩
      rintro _ rfl
      refine brV_iff.2 ⟨fun h3 => ?_, fun h3 => ?_⟩
      · have h3 := not_t h3
        rw [dotQ, if_neg (hk1 fun h => h3 (h _ (getD_mem (by omega))))]
      · have h3 := not_f h3
        rw [wi64 (by omega) (by omega)]
        exact ⟨⟨j + 1, rfl, by omega, take_all (by omega) hall h3⟩, by omega⟩
    · have hc : ¬ (j : Int) < ((k.getD []).length : Int) := dec_f hc
      rw [List.take_of_length_le (by omega)] at hall
      obtain ⟨g1, g2⟩ := hk2 hall
      rw [wi64 (by omega) (by omega)]
      exact ⟨⟨i + 1, rfl, by omega, g1, g2⟩, by omega⟩
  · have hb : ¬ (i : Int) < 2 := dec_f hb
    have hA := h1 (by omega)
    have hB := h2 (by omega)
    rw [dotQ, if_pos ⟨hA, hB⟩]
    refine brV_iff.2 ⟨fun h => ?_, fun h => ?_⟩
    · have h : ¬ ((l.getD []).length : Int) = ((m.getD []).length : Int) := not_t h
      rw [if_neg (by omega)]
    have h : ((l.getD []).length : Int) = ((m.getD []).length : Int) := not_f h
    rw [if_pos (by omega)]
    refine loopE (fun p => ∃ (j : Nat) (x : _), p = (l, m, ((l.getD []).length : Int), (j : Int), ((0 : Int), (0 : Int)), x) ∧ j ≤ (l.getD []).length ∧ RV x (dotR (l.getD []) (m.getD []) j) ∧ Pf.RFit (5 * j + 1) (dotR (l.getD []) (m.getD []) j)) (fun p => (l.getD []).length - p.2.2.2.1.toNat)
      ⟨0, (((0 : Int), none), ((0 : Int), none)), rfl, by omega, zero_rv, zero_pfit⟩ ?_
    rintro _ ⟨j, x, rfl, hj, hx, fx⟩
    dsimp only
    refine brV_iff.2 ⟨fun hc => ?_, fun hc => ?_⟩
    · have hc : (j : Int) < ((l.getD []).length : Int) := dec_t hc
      have e1 : eltS ((0 : Int), (0 : Int)) l (j : Int) = (l.getD []).getD j (0, 0) := by simp only [eltS, Int.toNat_natCast]
      have e2 : eltS ((0 : Int), (0 : Int)) m (j : Int) = (m.getD []).getD j (0, 0) := by simp only [eltS, Int.toNat_natCast]
      rw [e1, e2]
      have o1 := hA _ (getD_mem (show j < (l.getD []).length by omega))
      have o2 := hB _ (getD_mem (show j < (m.getD []).length by omega))
      have fm := pfit_mul o1.fit o2.fit
      refine ⟨⟨by omega, by omega⟩, (s_Rat longS o1).mono fun p4 h4 => ⟨⟨by omega, by omega⟩, (s_Rat longS o2).mono fun p5 h5 => ?_⟩⟩
      refine (s_RMul longS h4 h5 o1.fit o2.fit (by decide)).mono fun p6 h6 => (s_RAdd longS hx h6 (fx.mono (show 5 * j + 1 ≤ 1010 by omega)) (fm.mono (by decide)) (by decide)).mono fun p7 h7 => ?_
      rw [wi64 (by omega) (by omega)]
      exact ⟨⟨j + 1, p7, rfl, by omega, h7, (pfit_add fx fm).mono (by omega)⟩, by omega⟩
    · have hc : ¬ (j : Int) < ((l.getD []).length : Int) := dec_f hc
      obtain rfl : j = (l.getD []).length := by omega
      refine (s_Out hx).mono ?_
      rintro _ rfl
      rfl

theorem r_Dot (l m : Option (List (Int × Int))) (hl : (l.getD []).length ≤ 200) (hm : (m.getD []).length ≤ 200) : callV Pg c_ref01_Dot [⟨(.sl tNum), l⟩, ⟨(.sl tNum), m⟩] (.tup (.pair tNum (.pair tI .unit))) fun r => r = dotQ (l.getD []) (m.getD []) := by
  refine w_ref01_Dot l m ⟨_, rfl⟩ (joinR (fun p => ∃ c : Bool, p = (l, m, c, (0 : Int), (0 : Int)) ∧ (c = true ↔ ¬ ((∀ a ∈ l.getD [], NumOk a) ∧ (∀ a ∈ m.getD [], NumOk a)))) ?_ ?_)
  · rintro _ ⟨c, rfl, hc⟩
    refine brV_iff.2 ⟨fun h => ?_, fun h => ?_⟩
    · rw [dotQ, if_neg (hc.1 h)]
    have hN : (∀ a ∈ l.getD [], NumOk a) ∧ (∀ a ∈ m.getD [], NumOk a) := Classical.byContradiction fun hn => by
      have := hc.2 hn; dsimp only at h; rw [h] at this; simp at this
    obtain ⟨hA, hB⟩ := hN
    rw [dotQ, if_pos ⟨hA, hB⟩]
    refine brV_iff.2 ⟨fun h => ?_, fun h => ?_⟩
    · have h : ¬ ((l.getD []).length : Int) = ((m.getD []).length : Int) := not_t h
      rw [if_neg (by omega)]
    have h : ((l.getD []).length : Int) = ((m.getD []).length : Int) := not_f h
    rw [if_pos (by omega)]
    refine (r_Whole (n := 0) (by decide) (by decide)).mono fun x0 hx0 => ?_
    refine loopE (fun p => ∃ (j : Nat) (x : _), p = (l, m, ((l.getD []).length : Int), (j : Int), ((0 : Int), (0 : Int)), x) ∧ j ≤ (l.getD []).length ∧ RRV x (dotR (l.getD []) (m.getD []) j) ∧ RFit (7 * j + 1) (dotR (l.getD []) (m.getD []) j)) (fun p => (l.getD []).length - p.2.2.2.1.toNat)
      ⟨0, x0, rfl, by omega, hx0, zero_rfit⟩ ?_
    rintro _ ⟨j, x, rfl, hj, hx, fx⟩
    dsimp only
    refine brV_iff.2 ⟨fun hc => ?_, fun hc => ?_⟩
    · have hc : (j : Int) < ((l.getD []).length : Int) := dec_t hc
      have e1 : eltS ((0 : Int), (0 : Int)) l (j : Int) = (l.getD []).getD j (0, 0) := by simp only [eltS, Int.toNat_natCast]
      have e2 : eltS ((0 : Int), (0 : Int)) m (j : Int) = (m.getD []).getD j (0, 0) := by simp only [eltS, Int.toNat_natCast]
      rw [e1, e2]
      have o1 := hA _ (getD_mem (show j < (l.getD []).length by omega))
      have o2 := hB _ (getD_mem (show j < (m.getD []).length by omega))
      have fm := rfit_mul (ok_fit o1) (ok_fit o2)
      refine ⟨⟨by omega, by omega⟩, (r_To o1).mono fun p4 h4 => ⟨⟨by omega, by omega⟩, (r_To o2).mono fun p5 h5 => ?_⟩⟩
      refine (r_RTimes h4 h5 (ok_fit o1) (ok_fit o2) (by decide)).mono fun p6 h6 => (r_RPlus hx h6 (fx.mono (show 7 * j + 1 ≤ 1410 by omega)) (fm.mono (by decide)) (by decide)).mono fun p7 h7 => ?_
      rw [wi64 (by omega) (by omega)]
      exact ⟨⟨j + 1, p7, rfl, by omega, h7, (rfit_add fx fm).mono (by omega)⟩, by omega⟩
    · have hc : ¬ (j : Int) < ((l.getD []).length : Int) := dec_f hc
      obtain rfl : j = (l.getD []).length := by omega
      refine (r_Num hx).mono ?_
      rintro _ rfl
      rfl
  · intro k hk
    refine (r_All l (by omega)).mono ?_
    rintro _ rfl
    refine brV_iff.2 ⟨fun h => hk _ ⟨true, rfl, ?_⟩, fun h => (r_All m (by omega)).mono ?_⟩
    · have h := not_t h
      simp only [true_iff]; exact fun h2 => h h2.1
    · rintro _ rfl
      have h := not_f h
      refine hk _ ⟨_, rfl, ?_⟩
      simp only [notB, Bool.not_eq_true', decide_eq_false_iff_not]
      exact ⟨fun h1 h2 => h1 h2.2, fun h1 h2 => h1 ⟨h, h2⟩⟩

theorem r_Light (l : Option (List (Int × Int))) (hl : (l.getD []).length ≤ 200) : callV Pg c_ref01_Light [⟨(.sl tNum), l⟩] .bool fun _ => True := by
  refine w_ref01_Light l ⟨false, trivial⟩ (loopE (fun p => ∃ j : Nat, p = (l, ((l.getD []).length : Int), (j : Int)) ∧ j ≤ (l.getD []).length) (fun p => (l.getD []).length - p.2.2.toNat) ⟨0, rfl, by omega⟩ ?_)
  rintro _ ⟨j, rfl, hj⟩
  dsimp only
  refine brV_iff.2 ⟨fun hc => ?_, fun _ => trivial⟩
  have hc : (j : Int) < ((l.getD []).length : Int) := dec_t hc
  refine ⟨⟨by omega, by omega⟩, brV_iff.2 ⟨fun _ => trivial, fun _ => ?_⟩⟩
  rw [wi64 (by omega) (by omega)]
  exact ⟨⟨j + 1, rfl, by omega⟩, by omega⟩

theorem r_Same (l m : Option (List (Int × Int))) (he : m.getD [] = l.getD []) (hl : (l.getD []).length ≤ 200) : callV Pg c_ref01_Same [⟨(.sl tNum), l⟩, ⟨(.sl tNum), m⟩] .bool fun r => r = true := by
  refine w_ref01_Same l m ⟨_, rfl⟩ (brV_iff.2 ⟨fun h => ?_, fun _ => ?_⟩)
  · have h : ¬ ((l.getD []).length : Int) = ((m.getD []).length : Int) := not_t h
    rw [he] at h; exact absurd rfl h
  refine loopE (fun p => ∃ j : Nat, p = (l, m, ((l.getD []).length : Int), (j : Int)) ∧ j ≤ (l.getD []).length) (fun p => (l.getD []).length - p.2.2.2.toNat) ⟨0, rfl, by omega⟩ ?_
  rintro _ ⟨j, rfl, hj⟩
  dsimp only
  refine brV_iff.2 ⟨fun hc => ?_, fun _ => rfl⟩
  have hc : (j : Int) < ((l.getD []).length : Int) := dec_t hc
  have e : eltS ((0 : Int), (0 : Int)) m (j : Int) = eltS ((0 : Int), (0 : Int)) l (j : Int) := by simp only [eltS, he]
  refine ⟨⟨by omega, by omega⟩, ⟨by omega, by rw [he]; omega⟩, ?_⟩
  rw [e, eqNum]
  refine brV_iff.2 ⟨fun h => absurd rfl (not_t h), fun _ => ?_⟩
  rw [wi64 (by omega) (by omega)]
  exact ⟨⟨j + 1, rfl, by omega⟩, by omega⟩

theorem app_get {l : Option (List (Int × Int))} : (appL (some []) (lst l)).getD [] = l.getD [] := by cases l <;> simp [appL, lst, appS]

theorem s_NumDot (l m : Option (List (Int × Int))) : callV Pg c_law01_NumDot [⟨(.sl tNum), l⟩, ⟨(.sl tNum), m⟩] .bool fun r => r = true := by
  refine w_law01_NumDot l m ⟨_, rfl⟩ (joinR (fun p => ∃ c : Bool, p = (l, m, c) ∧ (c = false → (l.getD []).length ≤ 200 ∧ (m.getD []).length ≤ 200)) ?_ ?_)
  · rintro _ ⟨c, rfl, hc⟩
    refine brV_iff.2 ⟨fun _ => s_awake.mono fun _ h => h, fun h => ?_⟩
    obtain ⟨hl, hm⟩ := hc h
    dsimp only
    refine (r_Dot l m hl hm).mono ?_
    rintro _ rfl
    refine ⟨?_, ?_, (s_NDot l m hl hm).mono ?_⟩
    · show (0 + (l.getD []).length) * 16 ≤ 140737488355328; omega
    · show (0 + (m.getD []).length) * 16 ≤ 140737488355328; omega
    rintro _ rfl
    refine joinR (fun p => p = true) (fun p h => h) fun k hk => ?_
    rw [eqNum]
    refine brV_iff.2 ⟨fun _ => brV_iff.2 ⟨fun _ => ?_, fun h => absurd rfl (dec_f h)⟩, fun h => absurd rfl (dec_f h)⟩
    refine (r_Same l _ app_get hl).mono ?_
    rintro _ rfl
    refine brV_iff.2 ⟨fun _ => (r_Same m _ app_get hm).mono ?_, fun h => by simp at h⟩
    rintro _ rfl
    exact brV_iff.2 ⟨fun _ => s_awake.mono fun r hr => hk r hr, fun h => by simp at h⟩
  · intro k hk
    refine brV_iff.2 ⟨fun _ => hk _ ⟨true, rfl, fun h => by simp at h⟩, fun h1 => brV_iff.2 ⟨fun _ => hk _ ⟨true, rfl, fun h => by simp at h⟩, fun h2 => ?_⟩⟩
    have h1 : ¬ (200 : Int) < ((l.getD []).length : Int) := dec_f h1
    have h2 : ¬ (200 : Int) < ((m.getD []).length : Int) := dec_f h2
    have hl : (l.getD []).length ≤ 200 := by omega
    have hm : (m.getD []).length ≤ 200 := by omega
    refine brV_iff.2 ⟨fun _ => (r_Light l hl).mono fun b _ => brV_iff.2 ⟨fun _ => (r_Light m hm).mono fun c _ => hk _ ⟨_, rfl, fun _ => ⟨hl, hm⟩⟩, fun _ => hk _ ⟨_, rfl, fun _ => ⟨hl, hm⟩⟩⟩, fun _ => hk _ ⟨_, rfl, fun _ => ⟨hl, hm⟩⟩⟩

end Go.Proofs.Pf.B

