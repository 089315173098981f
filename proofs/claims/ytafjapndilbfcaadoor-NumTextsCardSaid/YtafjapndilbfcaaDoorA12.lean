/- Typed pure data, a condition on code that says what a call gives, what the code of each function comes to, and what each function gives. -/
import Derived.Lib.AppendIntMem
import Derived.Test.YtafjapndilbfcaaDoorA6
import Derived.Test.YtafjapndilbfcaaDoorA8
import Derived.Test.YtafjapndilbfcaaDoorA10
import Derived.Test.YtafjapndilbfcaaDoorA11
set_option linter.unusedVariables false
set_option linter.unusedSimpArgs false
namespace Go.Proofs.Pf.B

open Go Go.VM

/-- The numeral of an integer, as a string. -/
def itoaB (n : Int) : ByteArray := ⟨(Lib.itoa n).toArray⟩

theorem bl_itoaB (n : Int) : bl (itoaB n) = Lib.itoa n := by simp [bl, itoaB]

theorem tab_of {w : World} (h : Gl Pg w) (hs : (Pg.globalNamed "internal/strconv.uint64pow10").isSome = true) : Lib.TabIs Pg w "internal/strconv.uint64pow10" .u64 Lib.pow10Tab := by
  obtain ⟨g, hg⟩ := Option.isSome_iff_exists.1 hs
  exact h g hg

theorem s_Itoa {n : Int} (h0 : -9223372036854775808 ≤ n) (h1 : n < 9223372036854775808) : callV Pg c_strconv_Itoa [⟨tI, n⟩] .str fun r => r = itoaB n := by
  refine ⟨r_strconv_Itoa, ⟨_, rfl⟩, fun w F vals hF hg hv => ?_⟩
  match vals, hv with
  | [v], hv =>
    obtain ⟨hv, -⟩ := hv
    rw [vrep_int] at hv
    subst hv
    refine (Tryd.strconv_Itoa n h0 (by omega) w (tab_of hg (by kernel_rfl))).mono ?_
    rintro e w' ⟨rfl, k, os, rfl⟩
    exact ⟨_, _, rfl, vrep_str.2 rfl, rfl, Lib.below_grow _ _ (Nat.le_refl _) _ _⟩

theorem bytesL_bl (l : List Nat) : bl (bytesL l) = l.map UInt8.ofNat := by simp [bl, bytesL]

/-- One byte of a numeral. -/
theorem digit_byte {m : Int} (h0 : 0 ≤ m) (h1 : m < 10) : IntKind.wrap IntKind.u8 (IntKind.wrap IntKind.i64 ((48 : Int) + m)) = 48 + m := by
  rw [wi64 (by omega) (by omega), wu8m, Int.emod_eq_of_lt (by omega) (by omega)]

theorem dec_small {n : Nat} (h : n ≤ 1152921504606846976) : (Lib.decDigits n).length ≤ 40 := dec_len (Nat.lt_of_le_of_lt h (by decide))

theorem r_Digits0 : ∀ (k : Nat) (n : Int), 0 ≤ n → n < k → n ≤ 1152921504606846976 → callV Pg c_ref01_Digits [⟨tI, n⟩] .str fun r => r = itoaB n := by
  intro k
  induction k with
  | zero => intro n h0 hk; omega
  | succ k ih =>
    intro n h0 hk hn
    refine w_ref01_Digits n ⟨_, rfl⟩ (brV_iff.2 ⟨fun hb => absurd (dec_t hb) (by omega), fun _ => ⟨by decide, ?_⟩⟩)
    have hm0 : 0 ≤ Int.tmod n 10 := Int.tmod_nonneg _ h0
    have hm1 : Int.tmod n 10 < 10 := Int.tmod_lt_of_pos _ (by decide)
    have em : Int.tmod n 10 = n % 10 := Int.tmod_eq_emod_of_nonneg h0
    have ed : Int.tdiv n 10 = n / 10 := Int.tdiv_eq_ediv_of_nonneg h0
    rw [digit_byte hm0 hm1]
    have one : bl (strOf (some [(48 : Int) + Int.tmod n 10])) = [UInt8.ofNat (48 + n.toNat % 10)] := by
      rw [bl_strOf, em]
      simp only [List.map_cons, List.map_nil, List.cons.injEq, and_true]
      congr 1
      omega
    have ei : Lib.itoa n = Lib.decDigits n.toNat := by rw [Lib.itoa, if_neg (by omega)]
    refine brV_iff.2 ⟨fun hb => ?_, fun hb => ⟨by decide, ?_⟩⟩
    · have hb : n < 10 := dec_t hb
      apply bl_inj
      rw [one, bl_itoaB, ei, Lib.decDigits, dif_pos (by omega), Nat.mod_eq_of_lt (by omega)]
    · have hb : ¬ n < 10 := dec_f hb
      rw [wi64 (by omega) (by omega), ed]
      refine (ih (n / 10) (by omega) (by omega) (by omega)).mono ?_
      rintro _ rfl
      have e2 : Lib.itoa (n / 10) = Lib.decDigits (n.toNat / 10) := by
        rw [Lib.itoa, if_neg (by omega)]; congr 1; omega
      refine ⟨?_, ?_⟩
      · have h1 : (itoaB (n / 10)).size = (bl (itoaB (n / 10))).length := by simp [bl]
        have h2 : (strOf (some [(48 : Int) + Int.tmod n 10])).size = (bl (strOf (some [(48 : Int) + Int.tmod n 10]))).length := by simp [bl]
        unfold catC
        rw [h1, h2, one, bl_itoaB, e2]
        have := dec_small (n := n.toNat / 10) (by omega)
        simp only [List.length_singleton]; omega
      · apply bl_inj
        rw [bl_app, one, bl_itoaB, bl_itoaB, ei, e2, Lib.decDigits.eq_1 n.toNat, dif_neg (by omega)]

theorem itoa_len {n : Int} (h : n.natAbs ≤ 1152921504606846976) : (Lib.itoa n).length ≤ 41 := by
  unfold Lib.itoa
  split
  · have := dec_small h; simp only [List.length_cons]; omega
  · have := dec_small (n := n.toNat) (by omega); omega

theorem size_bl (s : ByteArray) : s.size = (bl s).length := by simp [bl]

theorem r_Digits {n : Int} (hn : n.natAbs ≤ 1152921504606846976) : callV Pg c_ref01_Digits [⟨tI, n⟩] .str fun r => r = itoaB n := by
  by_cases h : n < 0
  · refine w_ref01_Digits n ⟨_, rfl⟩ (brV_iff.2 ⟨fun _ => ?_, fun hb => absurd h (dec_f hb)⟩)
    rw [wi64 (by omega) (by omega)]
    refine (r_Digits0 1152921504606846977 (0 - n) (by omega) (by omega) (by omega)).mono ?_
    rintro _ rfl
    have e : bl (itoaB (0 - n)) = Lib.decDigits n.natAbs := by
      rw [bl_itoaB, Lib.itoa, if_neg (by omega)]; congr 1; omega
    refine ⟨?_, ?_⟩
    · unfold catC
      rw [size_bl, size_bl, e, bytesL_bl]
      have := dec_small hn
      simp only [List.length_map, List.length_singleton]; omega
    · apply bl_inj
      rw [bl_app, e, bytesL_bl, bl_itoaB, Lib.itoa, if_pos h]; rfl
  · exact r_Digits0 1152921504606846977 n (by omega) (by omega) (by omega)

/-- The printed form of a number. -/
def printL (a : Int × Int) : List UInt8 := if a.2 = 1 then Lib.itoa a.1 else Lib.itoa a.1 ++ 47 :: Lib.itoa a.2

def printB (a : Int × Int) : ByteArray := ⟨(printL a).toArray⟩

theorem bl_printB (a : Int × Int) : bl (printB a) = printL a := by simp [bl, printB]

def printQ (a : Int × Int) : ByteArray × Int × Unit := if NumOk a then (printB a, 0, ()) else (⟨#[]⟩, 1, ())

theorem print_len {a : Int × Int} (h : NumOk a) : (printL a).length ≤ 90 := by
  obtain ⟨h1, h2, h3, h4, _⟩ := h
  have e1 := itoa_len (n := a.1) (by omega)
  have e2 := itoa_len (n := a.2) (by omega)
  unfold printL
  split
  · omega
  · simp only [List.length_append, List.length_cons]; omega

theorem s_NPrint (a : Int × Int) : callV Pg c_num_Print [⟨tNum, a⟩] (.tup (.pair .str (.pair tI .unit))) fun r => r = printQ a := by
  refine w_num_Print a ⟨_, rfl⟩ ((s_Valid longS a).mono ?_)
  rintro _ rfl
  refine brV_iff.2 ⟨fun hb => ?_, fun hb => ?_⟩
  · rw [printQ, if_neg (not_t hb)]; rfl
  · have hv : NumOk a := not_f hb
    rw [printQ, if_pos hv]
    have hv' := hv
    obtain ⟨h1, h2, h3, h4, _⟩ := hv'
    refine (s_Itoa (n := a.1) (by omega) (by omega)).mono ?_
    rintro _ rfl
    have l1 := itoa_len (n := a.1) (by omega)
    have l2 := itoa_len (n := a.2) (by omega)
    refine joinR (fun p => p = printB a) (by rintro _ rfl; rfl) fun k hk => brV_iff.2 ⟨fun hb => ?_, fun hb => ?_⟩
    · have hb : ¬ a.2 = 1 := not_t hb
      refine (s_Itoa (n := a.2) (by omega) (by omega)).mono ?_
      rintro _ rfl
      refine ⟨?_, ?_, hk _ ?_⟩
      · unfold catC; rw [size_bl, size_bl, bytesL_bl, bl_itoaB]; simp only [List.length_map, List.length_singleton]; omega
      · unfold catC; rw [size_bl, size_bl, bl_app, bytesL_bl, bl_itoaB, bl_itoaB]; simp only [List.length_append, List.length_map, List.length_singleton]; omega
      · apply bl_inj
        rw [bl_app, bl_app, bytesL_bl, bl_itoaB, bl_itoaB, bl_printB, printL, if_neg hb]; rfl
    · have hb : a.2 = 1 := not_f hb
      refine hk _ (bl_inj ?_)
      rw [bl_itoaB, bl_printB, printL, if_pos hb]

theorem r_Write {a : Int × Int} (hv : NumOk a) : callV Pg c_ref01_Write [⟨tNum, a⟩] .str fun r => r = printB a := by
  have hv' := hv
  obtain ⟨h1, h2, h3, h4, _⟩ := hv'
  have l1 := itoa_len (n := a.1) (by omega)
  have l2 := itoa_len (n := a.2) (by omega)
  refine w_ref01_Write a ⟨_, rfl⟩ (brV_iff.2 ⟨fun hb => ?_, fun hb => ?_⟩)
  · have hb : a.2 = 1 := dec_t hb
    refine (r_Digits (n := a.1) (by omega)).mono ?_
    rintro _ rfl
    apply bl_inj
    rw [bl_itoaB, bl_printB, printL, if_pos hb]
  · have hb : ¬ a.2 = 1 := dec_f hb
    refine (r_Digits (n := a.1) (by omega)).mono ?_
    rintro _ rfl
    refine ⟨?_, (r_Digits (n := a.2) (by omega)).mono ?_⟩
    · unfold catC; rw [size_bl, size_bl, bytesL_bl, bl_itoaB]; simp only [List.length_map, List.length_singleton]; omega
    rintro _ rfl
    refine ⟨?_, ?_⟩
    · unfold catC; rw [size_bl, size_bl, bl_app, bytesL_bl, bl_itoaB, bl_itoaB]; simp only [List.length_append, List.length_map, List.length_singleton]; omega
    · apply bl_inj
      rw [bl_app, bl_app, bytesL_bl, bl_itoaB, bl_itoaB, bl_printB, printL, if_neg hb]; simp

theorem r_Print (a : Int × Int) : callV Pg c_ref01_Print [⟨tNum, a⟩] (.tup (.pair .str (.pair tI .unit))) fun r => r = printQ a := by
  refine w_ref01_Print a ⟨_, rfl⟩ ((r_Valid a).mono ?_)
  rintro _ rfl
  refine brV_iff.2 ⟨fun hb => ?_, fun hb => ?_⟩
  · rw [printQ, if_neg (not_t hb)]; rfl
  · have hv : NumOk a := not_f hb
    rw [printQ, if_pos hv]
    refine (r_Write hv).mono ?_
    rintro _ rfl
    rfl

end Go.Proofs.Pf.B

namespace Go.Proofs.Pf.B

open Go Go.VM

set_option exponentiation.threshold 500

theorem dval_take_lt {l : List UInt8} {i : Nat} (hl : l.length ≤ 400) (h : ∀ c ∈ l.take i, isDig c = true) : dval (l.take i) < 10 ^ 400 :=
  Nat.lt_of_lt_of_le (dval_lt _ h) (Nat.pow_le_pow_right (by decide) (by rw [List.length_take]; omega))

theorem pfit_dval {n : Nat} (h : n < 10 ^ 400) : Pf.Fit 42 (n : Int) := by
  have : (n : Int) < ((10 ^ 400 : Nat) : Int) := by exact_mod_cast h
  have h2 : ((10 ^ 400 : Nat) : Int) < (4294967296 : Int) ^ 42 := by decide
  unfold Pf.Fit; omega

theorem fit_dval {n : Nat} (h : n < 10 ^ 400) : Fit 45 (n : Int) := by
  have : (n : Int) < ((10 ^ 400 : Nat) : Int) := by exact_mod_cast h
  have h2 : ((10 ^ 400 : Nat) : Int) < (1073741824 : Int) ^ 45 := by decide
  unfold Fit; omega

/-- A digit's number. -/
theorem dig_num {c : UInt8} (h : isDig c = true) : IntKind.wrap IntKind.i64 (IntKind.wrap IntKind.u8 ((c.toNat : Int) - (48 : Int))) = ((c.toNat - 48 : Nat) : Int) := by
  simp only [isDig, decide_eq_true_eq] at h
  rw [wu8m, Int.emod_eq_of_lt (by omega) (by omega), wi64 (by omega) (by omega)]
  omega

theorem isDig_iff {c : UInt8} : isDig c = true ↔ (48 : Int) ≤ (c.toNat : Int) ∧ (c.toNat : Int) ≤ (57 : Int) := by
  simp only [isDig, decide_eq_true_eq]; omega

theorem isDig_f {c : UInt8} : isDig c = false ↔ ¬ ((48 : Int) ≤ (c.toNat : Int) ∧ (c.toNat : Int) ≤ (57 : Int)) := by
  rw [← isDig_iff]; simp

theorem take_snoc_dig {l : List UInt8} {i : Nat} (hi : i < l.length) (h : ∀ c ∈ l.take i, isDig c = true) (hd : isDig l[i] = true) : ∀ c ∈ l.take (i + 1), isDig c = true := by
  rw [take_succ_get hi]
  intro c hc
  rcases List.mem_append.1 hc with hc | hc
  · exact h c hc
  · rw [List.mem_singleton.1 hc]; exact hd

theorem s_digits (a : ByteArray) (ha : (bl a).length ≤ 400) : callV Pg c_num_digits [⟨.str, a⟩] (.tup (.pair tEI (.pair .str (.pair .bool .unit)))) fun r =>
    IV r.1 (dval (pre (bl a)) : Int) ∧ bl r.2.1 = post (bl a) ∧ r.2.2.1 = decide (pre (bl a) ≠ []) := by
  refine w_num_digits a ?_ (loopE (fun p => ∃ (i : Nat) (x : _), p = (a, (i : Int), ((0 : Int), none), x) ∧ i ≤ (bl a).length ∧ (∀ c ∈ (bl a).take i, isDig c = true) ∧ IV x (dval ((bl a).take i) : Int)) (fun p => (bl a).length - p.2.1.toNat)
    ⟨0, ((0 : Int), none), rfl, by omega, by simp, (⟨rfl, by decide, by decide⟩ : IV ((0 : Int), none) 0)⟩ ?_)
  · obtain ⟨x, hx⟩ := IV_ex (dval (pre (bl a)) : Int)
    exact ⟨(x, ⟨(post (bl a)).toArray⟩, decide (pre (bl a) ≠ []), ()), hx, bl_mk _, rfl⟩
  rintro _ ⟨i, x, rfl, hi, hd, hx⟩
  dsimp only
  refine joinR (fun p => ∃ c : Bool, p = (a, (i : Int), c, ((0 : Int), none), x) ∧ (c = true ↔ ∃ h : i < (bl a).length, isDig (bl a)[i] = true)) ?_ ?_
  · rintro _ ⟨c, rfl, hc⟩
    dsimp only
    refine brV_iff.2 ⟨fun h => ?_, fun h => ?_⟩
    · obtain ⟨h1, h2⟩ := hc.1 h
      refine (s_Of (by decide) (by decide)).mono fun t ht => ?_
      have f1 := pfit_dval (dval_take_lt ha hd)
      have f2 : Pf.Fit 1 (10 : Int) := by unfold Pf.Fit; decide
      refine (s_Mul hx ht f1 f2 (by decide) (by decide)).mono fun y hy => ⟨⟨by omega, by rw [bl_len]; omega⟩, ?_⟩
      rw [byteAt_bl, Int.toNat_natCast, getD_get h1, dig_num h2]
      refine (s_Of (by omega) (by have := UInt8.toNat_lt (bl a)[i]; omega)).mono fun d hd' => ?_
      have f3 : Pf.Fit 43 (((bl a)[i].toNat - 48 : Nat) : Int) := by
        have := UInt8.toNat_lt (bl a)[i]
        have h3 : (256 : Int) < 4294967296 ^ 43 := by decide
        unfold Pf.Fit; omega
      refine (s_Add hy hd' (f1.mul f2 (Nat.le_refl _)) f3 (by decide)).mono fun z hz => ?_
      rw [wi64 (by omega) (by omega)]
      refine ⟨⟨i + 1, z, rfl, by omega, take_snoc_dig h1 hd h2, ?_⟩, by omega⟩
      rw [take_succ_get h1, dval_snoc]
      exact_mod_cast hz
    · have hn : ∀ h : i < (bl a).length, isDig (bl a)[i] = false := by
        intro h1
        cases e : isDig (bl a)[i] with
        | false => rfl
        | true => rw [hc.2 ⟨h1, e⟩] at h; simp at h
      obtain ⟨q1, q2⟩ := pre_at (bl a) i hi hd hn
      refine ⟨⟨by omega, by rw [bl_len]; omega, Int.le_refl _⟩, ?_, ?_, ?_⟩
      · rw [q1]; exact hx
      · rw [bl_sub, bl_len, q2]; simp
      · rw [q1]
        apply decide_eq_decide.2
        cases i with
        | zero => simp
        | succ i =>
          refine ⟨fun _ he => ?_, fun _ => by omega⟩
          have : ((bl a).take (i + 1)).length = 0 := by rw [he]; rfl
          rw [List.length_take] at this; omega
  · intro k hk
    refine brV_iff.2 ⟨fun h => ?_, fun h => ?_⟩
    · have h : (i : Int) < szStr a := dec_t h
      rw [bl_len] at h
      have h' : i < (bl a).length := by omega
      refine ⟨⟨by omega, by rw [bl_len]; omega⟩, ?_⟩
      rw [byteAt_bl, Int.toNat_natCast, getD_get h']
      refine brV_iff.2 ⟨fun h1 => ⟨⟨by omega, by rw [bl_len]; omega⟩, hk _ ⟨_, rfl, ?_⟩⟩, fun h1 => hk _ ⟨_, rfl, ?_⟩⟩
      · have h1 : (48 : Int) ≤ ((bl a)[i].toNat : Int) := dec_t h1
        refine ⟨fun h2 => ⟨h', isDig_iff.2 ⟨h1, dec_t h2⟩⟩, fun ⟨_, h2⟩ => decide_eq_true (isDig_iff.1 h2).2⟩
      · have h1 : ¬ (48 : Int) ≤ ((bl a)[i].toNat : Int) := dec_f h1
        exact ⟨fun h => by simp at h, fun ⟨_, h2⟩ => absurd (isDig_iff.1 h2).1 h1⟩
    · have h : ¬ (i : Int) < szStr a := dec_f h
      rw [bl_len] at h
      exact hk _ ⟨_, rfl, ⟨fun h => by simp at h, fun ⟨h2, _⟩ => by omega⟩⟩

end Go.Proofs.Pf.B

namespace Go.Proofs.Pf.B

open Go Go.VM

set_option exponentiation.threshold 500

theorem nodig_of {c : UInt8} : isDig c = false ↔ ((c.toNat : Int) < 48 ∨ (57 : Int) < (c.toNat : Int)) := by
  rw [isDig_f]; omega

theorem take_full {l : List UInt8} {i : Nat} (hi : l.length ≤ i) (h : ∀ c ∈ l.take i, isDig c = true) : allDig l = true := by
  rw [List.take_of_length_le hi] at h
  exact allDig_mem.2 h

theorem nil_bl (a : ByteArray) : notB (eqStr a (bytesL [])) = !(bl a).isEmpty := by
  rw [eqStr_bl, bytesL_bl]
  cases bl a <;> simp [notB]

theorem r_Long (a : ByteArray) (ha : (bl a).length ≤ 400) : callV Pg c_ref01_Long [⟨.str, a⟩] (.tup (.pair tRI (.pair .bool .unit))) fun r =>
    r.2.1 = (allDig (bl a) && !(bl a).isEmpty) ∧ (r.2.1 = true → RIV r.1 (dval (bl a) : Int)) := by
  refine w_ref01_Long a ?_ ((r_Of (by decide) (by decide)).mono fun p0 h0 => loopE (fun p => ∃ (i : Nat) (x : _), p = (a, (i : Int), ((0 : Int), false, none), x) ∧ i ≤ (bl a).length ∧ (∀ c ∈ (bl a).take i, isDig c = true) ∧ RIV x (dval ((bl a).take i) : Int)) (fun p => (bl a).length - p.2.1.toNat)
    ⟨0, p0, rfl, by omega, by simp, h0⟩ ?_)
  · obtain ⟨x, hx⟩ := RIV_ex (dval (bl a) : Int)
    exact ⟨(x, (allDig (bl a) && !(bl a).isEmpty), ()), rfl, fun _ => hx⟩
  rintro _ ⟨i, x, rfl, hi, hd, hx⟩
  dsimp only
  refine brV_iff.2 ⟨fun h => ?_, fun h => ?_⟩
  · have h : (i : Int) < szStr a := dec_t h
    rw [bl_len] at h
    have h1 : i < (bl a).length := by omega
    refine joinR (fun p => ∃ c : Bool, p = (a, (i : Int), c, ((0 : Int), false, none), x) ∧ (c = true ↔ isDig (bl a)[i] = false)) ?_ ?_
    · rintro _ ⟨c, rfl, hc⟩
      dsimp only
      refine brV_iff.2 ⟨fun h => ?_, fun h => ?_⟩
      · have hn := hc.1 h
        have e : allDig (bl a) = false := by
          cases e : allDig (bl a) with
          | false => rfl
          | true => rw [allDig_mem.1 e _ (List.getElem_mem h1)] at hn; simp at hn
        refine ⟨by rw [e]; rfl, fun h => by simp at h⟩
      · have h2 : isDig (bl a)[i] = true := by
          cases e : isDig (bl a)[i] with
          | true => rfl
          | false => rw [hc.2 e] at h; simp at h
        refine (r_Of (by decide) (by decide)).mono fun t ht => ?_
        have f1 := fit_dval (dval_take_lt ha hd)
        have f2 : Fit 1 (10 : Int) := by unfold Fit; decide
        refine (r_Times hx ht f1 f2 (by decide) (by decide)).mono fun y hy => ⟨⟨by omega, by rw [bl_len]; omega⟩, ?_⟩
        rw [byteAt_bl, Int.toNat_natCast, getD_get h1, dig_num h2]
        refine (r_Of (by omega) (by have := UInt8.toNat_lt (bl a)[i]; omega)).mono fun d hd' => ?_
        have f3 : Fit 46 (((bl a)[i].toNat - 48 : Nat) : Int) := by
          have := UInt8.toNat_lt (bl a)[i]
          have h3 : (256 : Int) < 1073741824 ^ 46 := by decide
          unfold Fit; omega
        refine (r_Plus hy hd' (f1.mul f2 (Nat.le_refl _)) f3 (by decide) (by decide)).mono fun z hz => ?_
        rw [wi64 (by omega) (by omega)]
        refine ⟨⟨i + 1, z, rfl, by omega, take_snoc_dig h1 hd h2, ?_⟩, by omega⟩
        rw [take_succ_get h1, dval_snoc]
        exact_mod_cast hz
    · intro k hk
      refine ⟨⟨by omega, by rw [bl_len]; omega⟩, ?_⟩
      rw [byteAt_bl, Int.toNat_natCast, getD_get h1]
      refine brV_iff.2 ⟨fun h2 => hk _ ⟨_, rfl, ?_⟩, fun h2 => ⟨⟨by omega, by rw [bl_len]; omega⟩, hk _ ⟨_, rfl, ?_⟩⟩⟩
      · exact ⟨fun _ => nodig_of.2 (.inl (dec_t h2)), fun _ => rfl⟩
      · have h2 : ¬ ((bl a)[i].toNat : Int) < 48 := dec_f h2
        refine ⟨fun h3 => nodig_of.2 (.inr (dec_t h3)), fun h3 => decide_eq_true ((nodig_of.1 h3).resolve_left h2)⟩
  · have h : ¬ (i : Int) < szStr a := dec_f h
    rw [bl_len] at h
    have e := take_full (by omega) hd
    rw [List.take_of_length_le (by omega)] at hx
    refine ⟨?_, fun _ => hx⟩
    rw [nil_bl, e]; rfl

structure Shp where
  part : Nat
  zero : Bool
  sl : Nat

def shStep1 (s : Shp) (c : UInt8) : Option Shp :=
  if isDig c = true then some ⟨s.part + 1, s.zero && decide (c = 48), s.sl⟩
    else if c = 47 ∧ 0 < s.part ∧ s.sl = 0 then some ⟨0, true, 1⟩ else none

def shStep (s : Option Shp) (c : UInt8) : Option Shp :=
  match s with
  | none => none
  | some s => shStep1 s c

def shAll (l : List UInt8) : Option Shp := l.foldl shStep (some ⟨0, true, 0⟩)

def shOk : Option Shp → Bool
  | none => false
  | some s => decide (0 < s.part) && (decide (s.sl = 0) || !s.zero)

theorem shAll_snoc (l : List UInt8) (c : UInt8) : shAll (l ++ [c]) = shStep (shAll l) c := by rw [shAll, List.foldl_append]; rfl

theorem shStep_dig (s : Shp) {c : UInt8} (h : isDig c = true) : shStep (some s) c = some ⟨s.part + 1, s.zero && decide (c = 48), s.sl⟩ := by
  show shStep1 s c = _
  rw [shStep1, if_pos h]

theorem shStep_sl (s : Shp) : shStep (some s) 47 = if 0 < s.part ∧ s.sl = 0 then some ⟨0, true, 1⟩ else none := by
  show shStep1 s 47 = _
  rw [shStep1, if_neg (by rw [slash_no_dig]; decide)]
  by_cases h : 0 < s.part ∧ s.sl = 0
  · rw [if_pos h, if_pos ⟨rfl, h⟩]
  · rw [if_neg h, if_neg fun g => h g.2]

theorem shStep_no (s : Shp) {c : UInt8} (h : isDig c = false) (hc : ¬ (c = 47 ∧ s.sl = 0)) : shStep (some s) c = none := by
  show shStep1 s c = _
  rw [shStep1, if_neg (by rw [h]; decide), if_neg fun g => hc ⟨g.1, g.2.2⟩]

theorem shNone : ∀ (l : List UInt8), l.foldl shStep none = none
  | [] => rfl
  | _ :: l => shNone l

/-- Are all 0? -/
theorem dvalF_zero : ∀ (l : List UInt8) (n : Nat), (∀ c ∈ l, isDig c = true) → (dvalF n l = 0 ↔ n = 0 ∧ ∀ c ∈ l, c = 48)
  | [], n, _ => by simp [dvalF]
  | c :: l, n, h => by
    have h1 := h c (by simp)
    simp only [isDig, decide_eq_true_eq] at h1
    have e : dvalF n (c :: l) = dvalF (n * 10 + (c.toNat - 48)) l := rfl
    rw [e, dvalF_zero l _ fun c hc => h c (by simp [hc])]
    have hc : c = 48 ↔ c.toNat = 48 := ⟨fun h => by rw [h]; rfl, fun h => UInt8.toNat_inj.1 (by rw [h]; rfl)⟩
    constructor
    · rintro ⟨q1, q2⟩
      refine ⟨by omega, fun d hd => ?_⟩
      rcases List.mem_cons.1 hd with rfl | hd
      · exact hc.2 (by omega)
      · exact q2 d hd
    · rintro ⟨rfl, q2⟩
      have := hc.1 (q2 c (by simp))
      exact ⟨by omega, fun d hd => q2 d (by simp [hd])⟩

/-- The digits at the head. -/
theorem sh_dig : ∀ (l : List UInt8) (s : Shp), (∀ c ∈ l, isDig c = true) → l.foldl shStep (some s) = some ⟨s.part + l.length, s.zero && l.all (· == 48), s.sl⟩
  | [], s, _ => by simp
  | c :: l, s, h => by
    have h1 := h c (by simp)
    rw [List.foldl_cons]
    rw [shStep_dig s h1, sh_dig l _ fun c hc => h c (by simp [hc])]
    simp only [List.length_cons, List.all_cons, Option.some.injEq, Shp.mk.injEq, and_true]
    refine ⟨by omega, ?_⟩
    rw [Bool.and_assoc]
    congr 1

theorem shaped_form (s : List UInt8) : shOk (shAll s) = form s := by
  obtain ⟨t1, t2, t3⟩ := top_post s
  have hp := pre_dig s
  have hs : s = pre s ++ post s := (List.takeWhile_append_dropWhile (p := isDig)).symm
  have e0 : shAll s = (post s).foldl shStep (some ⟨(pre s).length, (pre s).all (· == 48), 0⟩) := by
    conv => lhs; rw [hs]
    rw [shAll, List.foldl_append, sh_dig _ _ hp]; simp
  clear hs
  cases hq : post s with
  | nil =>
    obtain ⟨h1, h2, h3⟩ := t1 hq
    rw [e0, hq]
    have ha : allDig s = true := post_nil hq
    rw [h3]
    have h4 : dval ([49] : List UInt8) = 1 := rfl
    simp only [List.foldl_nil, shOk, form, h1, h2, ha, h4]
    cases s <;> simp [allDig, isDig]
  | cons c t =>
    by_cases hc : c = 47
    · subst hc
      obtain ⟨h1, h2⟩ := t2 t hq
      rw [e0, hq, List.foldl_cons]
      have e1 : shStep (some ⟨(pre s).length, (pre s).all (· == 48), 0⟩) 47 = if 0 < (pre s).length then some ⟨0, true, 1⟩ else none := by
        rw [shStep_sl]; simp only [and_true]
      rw [e1]
      simp only [form, h1, h2]
      have hpa : allDig (pre s) = true := allDig_mem.2 hp
      rw [hpa]
      by_cases hl : 0 < (pre s).length
      · rw [if_pos hl]
        have hne : (pre s).isEmpty = false := by cases h : pre s with
          | nil => rw [h] at hl; simp at hl
          | cons => rfl
        rw [hne]
        simp only [Bool.not_false, Bool.and_self, Bool.true_and]
        -- the second part
        cases hr : post t with
        | nil =>
          have hd : allDig t = true := post_nil hr
          rw [sh_dig t _ (allDig_mem.1 hd)]
          simp only [shOk, Nat.zero_add, hd, Bool.true_and, Nat.one_ne_zero, decide_false, Bool.false_or]
          have hz := dvalF_zero t 0 (allDig_mem.1 hd)
          have : (!(dval t == 0)) = !(t.all (· == 48)) := by
            congr 1
            rw [Bool.eq_iff_iff]
            simp only [beq_iff_eq, List.all_eq_true]
            unfold dval; rw [hz]; simp
          rw [this]
          cases t <;> simp
        | cons d u =>
          have hd : allDig t = false := by
            cases e : allDig t with
            | false => rfl
            | true => rw [(pre_all t e).2] at hr; simp at hr
          rw [hd]
          simp only [Bool.false_and, Bool.and_false]
          have ht : t = pre t ++ (d :: u) := by rw [← hr]; exact (List.takeWhile_append_dropWhile (p := isDig)).symm
          have hdn : isDig d = false := by
            have := List.head?_dropWhile_not (p := isDig) (l := t)
            have hr' : List.dropWhile isDig t = d :: u := hr
            rw [hr'] at this
            simpa using this
          rw [ht, List.foldl_append, sh_dig _ _ (pre_dig t), List.foldl_cons]
          rw [shStep_no _ hdn fun g => by simp at g, shNone]; rfl
      · rw [if_neg hl, shNone]
        have hne : pre s = [] := by cases h : pre s with
          | nil => rfl
          | cons => rw [h] at hl; simp at hl
        rw [hne]; simp [shOk]
    · have hf := t3 c t hq hc
      rw [form, hf]
      simp only [Bool.false_and]
      have hdn : isDig c = false := by
        have := List.head?_dropWhile_not (p := isDig) (l := s)
        have hr' : List.dropWhile isDig s = c :: t := hq
        rw [hr'] at this
        simpa using this
      rw [e0, hq, List.foldl_cons]
      rw [shStep_no _ hdn fun g => hc g.1, shNone]; rfl

end Go.Proofs.Pf.B

namespace Go.Proofs.Pf.B

open Go Go.VM

set_option exponentiation.threshold 500

theorem u8_48 (c : UInt8) : decide ((c.toNat : Int) = (48 : Int)) = decide (c = 48) := by
  apply decide_eq_decide.2
  constructor
  · intro h; exact UInt8.toNat_inj.1 (by have : (48 : UInt8).toNat = 48 := rfl; omega)
  · intro h; rw [h]; rfl

theorem u8_eq {c : UInt8} {n : Nat} (hn : n < 256) : (c.toNat : Int) = (n : Int) ↔ c = UInt8.ofNat n := by
  constructor
  · intro h; exact UInt8.toNat_inj.1 (by rw [UInt8.toNat_ofNat']; omega)
  · intro h; rw [h, UInt8.toNat_ofNat']; omega

theorem shAll_none {l : List UInt8} {i : Nat} (h : shAll (l.take i) = none) : shAll l = none := by
  conv => lhs; rw [← List.take_append_drop i l]
  have h' : (l.take i).foldl shStep (some ⟨0, true, 0⟩) = none := h
  rw [shAll, List.foldl_append, h', shNone]

theorem s_shaped (a : ByteArray) (ha : (bl a).length ≤ 400) : callV Pg c_num_shaped [⟨.str, a⟩] .bool fun r => r = form (bl a) := by
  refine w_num_shaped a ⟨_, rfl⟩ (loopE (fun p => ∃ (i : Nat) (s : Shp), p = (a, (s.part : Int), s.zero, (s.sl : Int), szStr a, (i : Int)) ∧ i ≤ (bl a).length ∧ s.part ≤ i ∧ shAll ((bl a).take i) = some s) (fun p => (bl a).length - p.2.2.2.2.2.toNat)
    ⟨0, ⟨0, true, 0⟩, rfl, by omega, by simp, rfl⟩ ?_)
  rintro _ ⟨i, s, rfl, hi, hpi, hs⟩
  dsimp only
  refine brV_iff.2 ⟨fun h => ?_, fun h => ?_⟩
  · have h : (i : Int) < szStr a := dec_t h
    rw [bl_len] at h
    have h1 : i < (bl a).length := by omega
    refine ⟨⟨by omega, by rw [bl_len]; omega⟩, ?_⟩
    have eb : byteAt a (i : Int) = ((bl a)[i].toNat : Int) := by rw [byteAt_bl, Int.toNat_natCast, getD_get h1]
    rw [eb]
    have es : shAll ((bl a).take (i + 1)) = shStep (some s) (bl a)[i] := by rw [take_succ_get h1, shAll_snoc, hs]
    refine joinR (fun p => ∃ c : Bool, p = (a, (s.part : Int), s.zero, (s.sl : Int), ((bl a)[i].toNat : Int), szStr a, (i : Int), c) ∧ c = isDig (bl a)[i]) ?_ ?_
    · rintro _ ⟨c, rfl, hc⟩
      dsimp only
      refine joinR (fun p => ∃ t : Shp, p = (a, (t.part : Int), t.zero, (t.sl : Int), szStr a, (i : Int)) ∧ t.part ≤ i + 1 ∧ shAll ((bl a).take (i + 1)) = some t) ?_ ?_
      · rintro _ ⟨t, rfl, ht, hst⟩
        dsimp only
        rw [wi64 (by omega) (by omega)]
        exact ⟨⟨i + 1, t, rfl, by omega, ht, hst⟩, by omega⟩
      · intro k hk
        refine brV_iff.2 ⟨fun h2 => ?_, fun h2 => ?_⟩
        · rw [hc] at h2
          rw [shStep_dig s h2] at es
          refine joinR (fun p => p = (a, ((s.part + 1 : Nat) : Int), s.zero && decide ((bl a)[i] = 48), (s.sl : Int), szStr a, (i : Int))) ?_ ?_
          · rintro _ rfl
            exact hk _ ⟨_, rfl, by simpa using hpi, es⟩
          · intro k' hk'
            have ew : IntKind.wrap IntKind.i64 ((s.part : Int) + (1 : Int)) = ((s.part + 1 : Nat) : Int) := by rw [wi64 (by omega) (by omega)]; omega
            rw [ew, u8_48]
            refine brV_iff.2 ⟨fun h3 => hk' _ ?_, fun h3 => hk' _ ?_⟩
            · rw [show s.zero = true from h3, Bool.true_and]
            · rw [show s.zero = false from h3, Bool.false_and]
        · rw [hc] at h2
          refine joinR (fun p => ∃ c : Bool, p = (a, szStr a, (i : Int), c) ∧ (c = true ↔ (bl a)[i] = 47 ∧ 0 < s.part ∧ s.sl = 0)) ?_ ?_
          · rintro _ ⟨c2, rfl, hc2⟩
            dsimp only
            have e1 : shStep (some s) (bl a)[i] = if (bl a)[i] = 47 ∧ 0 < s.part ∧ s.sl = 0 then some ⟨0, true, 1⟩ else none := by
              show shStep1 s _ = _
              rw [shStep1, if_neg (by rw [h2]; decide)]
            refine brV_iff.2 ⟨fun h3 => ?_, fun h3 => ?_⟩
            · rw [e1, if_pos (hc2.1 h3)] at es
              exact hk _ ⟨⟨0, true, 1⟩, rfl, by simp, es⟩
            · have h4 : ¬ ((bl a)[i] = 47 ∧ 0 < s.part ∧ s.sl = 0) := fun g => by rw [hc2.2 g] at h3; simp at h3
              rw [e1, if_neg h4] at es
              rw [← shaped_form, shAll_none es]; rfl
          · intro k' hk'
            refine brV_iff.2 ⟨fun h3 => brV_iff.2 ⟨fun h4 => ?_, fun h4 => ?_⟩, fun h3 => ?_⟩
            · have h3 := (u8_eq (n := 47) (by decide)).1 (dec_t h3)
              have h4 : (0 : Int) < (s.part : Int) := dec_t h4
              refine hk' _ ⟨_, rfl, ?_⟩
              exact ⟨fun h5 => ⟨h3, by omega, by have h5 : (s.sl : Int) = 0 := dec_t h5; omega⟩, fun h5 => decide_eq_true (by have := h5.2.2; omega)⟩
            · have h4 : ¬ (0 : Int) < (s.part : Int) := dec_f h4
              exact hk' _ ⟨_, rfl, ⟨fun h => by simp at h, fun h5 => by have := h5.2.1; omega⟩⟩
            · have h3 : ¬ ((bl a)[i].toNat : Int) = 47 := dec_f h3
              exact hk' _ ⟨_, rfl, ⟨fun h => by simp at h, fun h5 => absurd ((u8_eq (n := 47) (by decide)).2 h5.1) h3⟩⟩
    · intro k hk
      refine brV_iff.2 ⟨fun h2 => hk _ ⟨_, rfl, ?_⟩, fun h2 => hk _ ⟨_, rfl, ?_⟩⟩
      · have h2 : (48 : Int) ≤ ((bl a)[i].toNat : Int) := dec_t h2
        simp only [isDig]
        apply decide_eq_decide.2; omega
      · have h2 : ¬ (48 : Int) ≤ ((bl a)[i].toNat : Int) := dec_f h2
        simp only [isDig]
        exact (decide_eq_false (by omega)).symm
  · have h : ¬ (i : Int) < szStr a := dec_f h
    rw [bl_len] at h
    rw [List.take_of_length_le (by omega)] at hs
    rw [← shaped_form, hs]
    refine joinR (fun p => p = shOk (some s)) (by rintro _ rfl; rfl) fun k hk => brV_iff.2 ⟨fun h2 => brV_iff.2 ⟨fun h3 => hk _ ?_, fun h3 => hk _ ?_⟩, fun h2 => hk _ ?_⟩
    · have h2 : (0 : Int) < (s.part : Int) := dec_t h2
      have h3 : (s.sl : Int) = 0 := dec_t h3
      have a1 : 0 < s.part := by omega
      have a2 : s.sl = 0 := by omega
      simp [shOk, a1, a2]
    · have h2 : (0 : Int) < (s.part : Int) := dec_t h2
      have h3 : ¬ (s.sl : Int) = 0 := dec_f h3
      have a1 : 0 < s.part := by omega
      have a2 : ¬ s.sl = 0 := by omega
      simp [shOk, a1, a2, notB]
    · have h2 : ¬ (0 : Int) < (s.part : Int) := dec_f h2
      have a1 : s.part = 0 := by omega
      simp [shOk, a1]

/-- The sign and the rest. -/
def neg (l : List UInt8) : Bool := l.head? == some 45

def body (l : List UInt8) : List UInt8 := if neg l then l.tail else l

def parseQ (l : List UInt8) : (Int × Int) × Int × Unit :=
  if form (body l) = true then (if 200 < l.length then ((0, 0), 3, ()) else outQ (Rat.divInt (if neg l then -(dval (top (body l)) : Int) else (dval (top (body l)) : Int)) (dval (low (body l)) : Int))) else ((0, 0), 4, ())

theorem top_len (s : List UInt8) : (top s).length ≤ s.length := (List.takeWhile_prefix _).length_le

theorem low_len {s : List UInt8} (h : s ≠ []) : (low s).length ≤ s.length := by
  unfold low
  have h1 : (s.dropWhile (· != 47)).length ≤ s.length := (List.dropWhile_suffix _).length_le
  split
  · cases s with
    | nil => exact absurd rfl h
    | cons => simp
  · rename_i t e
    rw [e] at h1
    simp only [List.length_cons] at h1; omega

/-- No slash behind the first digits. -/
theorem form_else {s : List UInt8} (h : ¬ (pre s ≠ [] ∧ ∃ t, post s = 47 :: t)) : ((pre s ≠ [] ∧ post s = []) ↔ form s = true) ∧ (form s = true → top s = pre s ∧ low s = [49]) := by
  obtain ⟨t1, t2, t3⟩ := top_post s
  cases hq : post s with
  | nil =>
    obtain ⟨h1, h2, h3⟩ := t1 hq
    have ha : allDig s = true := post_nil hq
    have h4 : dval ([49] : List UInt8) = 1 := rfl
    have e : form s = !(pre s).isEmpty := by
      rw [h3]
      simp only [form, h1, h2, ha, h4]
      cases s <;> simp [allDig, isDig]
    refine ⟨?_, fun _ => ⟨by rw [h1, h3], h2⟩⟩
    rw [e]
    cases hp : pre s <;> simp
  | cons c t =>
    have hn : form s ≠ true := by
      by_cases hc : c = 47
      · subst hc
        have hp : pre s = [] := by
          cases hp : pre s with
          | nil => rfl
          | cons d u => exact absurd ⟨by rw [hp]; simp, t, hq⟩ h
        obtain ⟨h1, _⟩ := t2 t hq
        intro hf
        simp [form, h1, hp] at hf
      · intro hf
        have := t3 c t hq hc
        simp [form, this] at hf
    exact ⟨⟨fun h => by simp at h, fun h => absurd h hn⟩, fun h => absurd h hn⟩

/-- A slash behind the first digits. -/
theorem form_then {s t : List UInt8} (h : pre s ≠ []) (hq : post s = 47 :: t) : ((pre t ≠ [] ∧ post t = [] ∧ dval (pre t) ≠ 0) ↔ form s = true) ∧ (form s = true → top s = pre s ∧ low s = pre t) := by
  obtain ⟨_, t2, _⟩ := top_post s
  obtain ⟨h1, h2⟩ := t2 t hq
  have hd : allDig (pre s) = true := allDig_mem.2 (pre_dig s)
  have he : (pre s).isEmpty = false := by cases hp : pre s <;> simp_all
  have e : form s = (allDig t && !t.isEmpty && !(dval t == 0)) := by
    simp only [form, h1, h2, hd, he]; simp
  cases hr : post t with
  | nil =>
    have ha := post_nil hr
    obtain ⟨p1, _⟩ := pre_all t ha
    rw [e, p1, ha]
    refine ⟨?_, fun _ => ⟨h1, h2⟩⟩
    cases t <;> simp
  | cons c u =>
    have ha : allDig t = false := by
      cases e : allDig t with
      | false => rfl
      | true => rw [(pre_all t e).2] at hr; simp at hr
    rw [e, ha]
    exact ⟨⟨fun h => by simp at h, fun h => by simp at h⟩, fun h => by simp at h⟩

theorem neg_cons (l : List UInt8) : neg l = true ↔ ∃ t, l = 45 :: t := by
  cases l with
  | nil => simp [neg]
  | cons c t => simp [neg]

theorem body_len (l : List UInt8) : (body l).length ≤ l.length := by
  unfold body; split
  · simp
  · omega

theorem head_byte {a : ByteArray} {c : UInt8} {t : List UInt8} (h : bl a = c :: t) : byteAt a 0 = (c.toNat : Int) := by
  rw [byteAt_bl, h]; rfl

theorem sub_tail (a : ByteArray) : bl (subStr a 1 (szStr a)) = (bl a).tail := by
  rw [bl_sub, bl_len]; simp

theorem ne_nil_bl {a : ByteArray} (h : notB (eqStr a (bytesL [])) = true) : ∃ c t, bl a = c :: t := by
  rw [nil_bl] at h
  cases hb : bl a with
  | nil => rw [hb] at h; simp at h
  | cons c t => exact ⟨c, t, rfl⟩

theorem nil_bl' {a : ByteArray} (h : notB (eqStr a (bytesL [])) = false) : bl a = [] := by
  rw [nil_bl] at h
  cases hb : bl a with
  | nil => rfl
  | cons c t => rw [hb] at h; simp at h

end Go.Proofs.Pf.B

namespace Go.Proofs.Pf.B

open Go Go.VM

set_option exponentiation.threshold 500

/-- What the program has read behind the sign. -/
def ParsR (s : List UInt8) (rest : ByteArray) (is : Bool) (x y : Int × Option (List Int)) (k m : Nat) : Prop :=
  IV x (k : Int) ∧ IV y (m : Int) ∧ k < 10 ^ 400 ∧ m < 10 ^ 400 ∧ ((is = true ∧ bl rest = [] ∧ m ≠ 0) ↔ form s = true) ∧ (form s = true → k = dval (top s) ∧ m = dval (low s))

theorem pre_len (s : List UInt8) : (pre s).length ≤ s.length := (List.takeWhile_prefix _).length_le

theorem post_len (s : List UInt8) : (post s).length ≤ s.length := (List.dropWhile_suffix _).length_le

theorem pre_val {s : List UInt8} (h : s.length ≤ 400) : dval (pre s) < 10 ^ 400 :=
  Nat.lt_of_lt_of_le (dval_lt _ (pre_dig s)) (Nat.pow_le_pow_right (by decide) (Nat.le_trans (pre_len s) h))

theorem sgn_zero (n : Nat) : sgn (n : Int) = 0 ↔ n = 0 := by unfold sgn; split <;> (try split) <;> omega

theorem s_Parse (a : ByteArray) (ha : (bl a).length ≤ 400) : callV Pg c_num_Parse [⟨.str, a⟩] (.tup (.pair tNum (.pair tI .unit))) fun r => r = parseQ (bl a) := by
  refine w_num_Parse a ⟨_, rfl⟩ (joinR (fun p => p = (a, a, false, neg (bl a), (0 : Int), (0 : Int))) ?_ ?_)
  case refine_2 =>
    intro k hk
    refine brV_iff.2 ⟨fun h => ?_, fun h => ?_⟩
    · obtain ⟨c, t, e⟩ := ne_nil_bl h
      refine ⟨⟨by omega, by rw [bl_len, e, List.length_cons]; omega⟩, hk _ ?_⟩
      have : decide (byteAt a (0 : Int) = (45 : Int)) = neg (bl a) := by
        rw [head_byte e, e]
        have e2 : neg (c :: t) = decide (c = 45) := by rw [Bool.eq_iff_iff]; simp [neg]
        rw [e2]; apply decide_eq_decide.2
        exact u8_eq (n := 45) (by decide)
      rw [this]
    · have e := nil_bl' h
      refine hk _ ?_
      rw [e]; rfl
  case refine_1 =>
  rintro _ rfl
  dsimp only
  refine joinR (fun p => ∃ s : ByteArray, p = (a, s, neg (bl a), (0 : Int), (0 : Int)) ∧ bl s = body (bl a)) ?_ ?_
  case refine_2 =>
    intro k hk
    refine brV_iff.2 ⟨fun h => ?_, fun h => ?_⟩
    · have h : neg (bl a) = true := h
      obtain ⟨t, e⟩ := (neg_cons _).1 h
      refine ⟨⟨by omega, by rw [bl_len, e, List.length_cons]; omega, Int.le_refl _⟩, hk _ ⟨subStr a 1 (szStr a), ?_, ?_⟩⟩
      · rw [h]
      · rw [sub_tail, body, if_pos h]
    · have h : neg (bl a) = false := h
      refine hk _ ⟨a, by rw [h], ?_⟩
      rw [body, if_neg (by rw [h]; decide)]
  case refine_1 =>
  rintro _ ⟨s, rfl, hs⟩
  dsimp only
  have hsl : (bl s).length ≤ 400 := by rw [hs]; exact Nat.le_trans (body_len _) ha
  refine joinR (fun p => p = (s, neg (bl a), decide (200 < (bl a).length), decide (200 < (bl a).length) && !form (bl s), (0 : Int), (0 : Int))) ?_ ?_
  case refine_2 =>
    intro k hk
    have e2 : decide ((200 : Int) < szStr a) = decide (200 < (bl a).length) := by apply decide_eq_decide.2; rw [bl_len]; omega
    rw [e2]
    refine brV_iff.2 ⟨fun h => ?_, fun h => ?_⟩
    · refine (s_shaped s hsl).mono ?_
      rintro _ rfl
      refine hk _ ?_
      rw [h]; rfl
    · refine hk _ ?_
      rw [h]; rfl
  case refine_1 =>
  rintro _ rfl
  dsimp only
  refine brV_iff.2 ⟨fun h => ?_, fun h => brV_iff.2 ⟨fun h2 => ?_, fun h2 => ?_⟩⟩
  · have h : (decide (200 < (bl a).length) && !form (bl s)) = true := h
    simp only [Bool.and_eq_true, Bool.not_eq_true'] at h
    rw [parseQ, ← hs, if_neg (by rw [h.2]; decide)]
  · have h2 : decide (200 < (bl a).length) = true := h2
    have h : (decide (200 < (bl a).length) && !form (bl s)) = false := h
    rw [h2] at h
    simp only [Bool.true_and, Bool.not_eq_false'] at h
    rw [parseQ, ← hs, if_pos h, if_pos (of_decide_eq_true h2)]
  have h2 : ¬ 200 < (bl a).length := of_decide_eq_false h2
  refine (s_digits s hsl).mono ?_
  rintro ⟨x, rest, is, u⟩ ⟨hx, hrest, his⟩
  dsimp only at hx hrest his ⊢
  subst his
  refine (s_Of (by decide) (by decide)).mono fun y hy => ?_
  refine joinR (fun p => ∃ c : Bool, p = (neg (bl a), rest, decide (pre (bl s) ≠ []), c, ((0 : Int), (0 : Int)), (x, y)) ∧ (c = true ↔ pre (bl s) ≠ [] ∧ ∃ t, post (bl s) = 47 :: t)) ?_ ?_
  case refine_2 =>
    intro k hk
    refine brV_iff.2 ⟨fun h => brV_iff.2 ⟨fun h3 => ?_, fun h3 => ?_⟩, fun h => ?_⟩
    · obtain ⟨c, t, e⟩ := ne_nil_bl h3
      refine ⟨⟨by omega, by rw [bl_len, e, List.length_cons]; omega⟩, hk _ ⟨_, rfl, ?_⟩⟩
      have h : pre (bl s) ≠ [] := dec_t h
      rw [head_byte e]
      rw [hrest] at e
      rw [e]
      constructor
      · intro h4
        have h4 := (u8_eq (n := 47) (by decide)).1 (dec_t h4)
        exact ⟨h, t, by rw [h4]; rfl⟩
      · rintro ⟨_, t', e'⟩
        simp only [List.cons.injEq] at e'
        exact decide_eq_true ((u8_eq (n := 47) (by decide)).2 e'.1)
    · have e := nil_bl' h3
      rw [hrest] at e
      exact hk _ ⟨_, rfl, ⟨fun h => by simp at h, fun ⟨_, t, e'⟩ => by rw [e] at e'; simp at e'⟩⟩
    · have h : ¬ pre (bl s) ≠ [] := dec_f h
      exact hk _ ⟨_, rfl, ⟨fun h => by simp at h, fun h' => absurd h'.1 h⟩⟩
  case refine_1 =>
  rintro _ ⟨c, rfl, hc⟩
  dsimp only
  refine joinR (fun p => ∃ (rest : ByteArray) (is : Bool) (x y : _) (k m : Nat), p = (neg (bl a), rest, is, ((0 : Int), (0 : Int)), (x, y)) ∧ ParsR (bl s) rest is x y k m) ?_ ?_
  case refine_2 =>
    intro k hk
    refine brV_iff.2 ⟨fun h => ?_, fun h => ?_⟩
    · obtain ⟨h3, t, h4⟩ := hc.1 h
      have hr : bl (subStr rest 1 (szStr rest)) = t := by rw [sub_tail, hrest, h4]; rfl
      refine ⟨⟨by omega, by rw [bl_len, hrest, h4, List.length_cons]; omega, Int.le_refl _⟩, ?_⟩
      have hl := post_len (bl s)
      rw [h4, List.length_cons] at hl
      refine (s_digits _ (by rw [hr]; omega)).mono ?_
      rintro ⟨z, rest2, is2, u2⟩ ⟨hz, hrest2, his2⟩
      dsimp only at hz hrest2 his2 ⊢
      rw [hr] at hz hrest2 his2
      subst his2
      refine hk _ ⟨_, _, _, _, _, _, rfl, hx, hz, pre_val hsl, pre_val (by omega), ?_⟩
      obtain ⟨f1, f2⟩ := form_then h3 h4
      rw [hrest2]
      refine ⟨by rw [← f1, decide_eq_true_eq], fun hf => ?_⟩
      obtain ⟨g1, g2⟩ := f2 hf
      rw [g1, g2]; exact ⟨rfl, rfl⟩
    · have h3 : ¬ (pre (bl s) ≠ [] ∧ ∃ t, post (bl s) = 47 :: t) := fun h' => by rw [hc.2 h'] at h; simp at h
      obtain ⟨f1, f2⟩ := form_else h3
      refine hk _ ⟨_, _, _, _, _, 1, rfl, hx, hy, pre_val hsl, by decide, ?_⟩
      rw [hrest]
      refine ⟨by rw [← f1, decide_eq_true_eq]; simp, fun hf => ?_⟩
      obtain ⟨g1, g2⟩ := f2 hf
      rw [g1, g2]; exact ⟨rfl, rfl⟩
  case refine_1 =>
  rintro _ ⟨rest, is, x, y, k, m, rfl, hx, hy, hk400, hm400, hf, hv⟩
  dsimp only
  refine joinR (fun p => p = (neg (bl a), !form (bl s), ((0 : Int), (0 : Int)), (x, y))) ?_ ?_
  case refine_2 =>
    intro k hk
    refine brV_iff.2 ⟨fun h => hk _ ?_, fun h => brV_iff.2 ⟨fun h3 => hk _ ?_, fun h3 => ?_⟩⟩
    · have h : is = false := by simpa [notB] using h
      have : form (bl s) = false := by
        cases e : form (bl s) with
        | false => rfl
        | true => have := (hf.2 e).1; rw [h] at this; simp at this
      rw [this]; rfl
    · obtain ⟨c, t, e⟩ := ne_nil_bl h3
      have : form (bl s) = false := by
        cases e2 : form (bl s) with
        | false => rfl
        | true => have := (hf.2 e2).2.1; rw [e] at this; simp at this
      rw [this]; rfl
    · have h : is = true := by simpa [notB] using h
      have h3 := nil_bl' h3
      refine (s_Sign hy).mono ?_
      rintro _ rfl
      refine hk _ ?_
      have : decide (sgn (m : Int) = (0 : Int)) = !form (bl s) := by
        rw [Bool.eq_iff_iff, decide_eq_true_eq, sgn_zero, Bool.not_eq_true']
        constructor
        · intro hm
          cases e2 : form (bl s) with
          | false => rfl
          | true => exact absurd hm (hf.2 e2).2.2
        · intro e2
          apply Classical.byContradiction
          intro hm
          rw [hf.1 ⟨h, h3, hm⟩] at e2; simp at e2
      rw [this]
  case refine_1 =>
  rintro _ rfl
  dsimp only
  refine brV_iff.2 ⟨fun h => ?_, fun h => ?_⟩
  · have h : form (bl s) = false := by simpa using h
    rw [parseQ, ← hs, if_neg (by rw [h]; decide)]
  have h : form (bl s) = true := by simpa using h
  obtain ⟨e1, e2⟩ := hv h
  have hm := (hf.2 h).2.2
  rw [parseQ, ← hs, if_pos h, if_neg h2, ← e1, ← e2]
  refine joinR (fun p => ∃ z, p = (((0 : Int), (0 : Int)), (z, y)) ∧ IV z (if neg (bl a) then -(k : Int) else (k : Int))) ?_ ?_
  case refine_2 =>
    intro k' hk
    refine brV_iff.2 ⟨fun h => ?_, fun h => ?_⟩
    · refine (s_Neg hx).mono fun z hz => hk _ ⟨z, rfl, ?_⟩
      rw [if_pos h]; exact hz
    · refine hk _ ⟨x, rfl, ?_⟩
      rw [if_neg (by rw [show neg (bl a) = false from h]; decide)]; exact hx
  case refine_1 =>
  rintro _ ⟨z, rfl, hz⟩
  dsimp only
  have f1 : Pf.Fit 42 (if neg (bl a) then -(k : Int) else (k : Int)) := by
    split
    · exact (pfit_dval hk400).neg
    · exact pfit_dval hk400
  refine (s_Ratio longS hz hy (by omega) f1 (pfit_dval hm400) (by decide)).mono fun q hq => (s_Out hq).mono ?_
  rintro _ rfl
  rfl

end Go.Proofs.Pf.B

namespace Go.Proofs.Pf.B

open Go Go.VM

set_option exponentiation.threshold 500

/-- Up to here there is no slash, and here is one. -/
theorem slash_at : ∀ (s : List UInt8) (i : Nat), (∀ c ∈ s.take i, c ≠ 47) → (h : i < s.length) → s[i] = 47 → top s = s.take i ∧ low s = s.drop (i + 1)
  | [], i, _, h, _ => by simp at h
  | a :: s, 0, _, _, h => by
    simp only [List.getElem_cons_zero] at h
    subst h
    simp [top, low]
  | a :: s, i + 1, h1, h2, h3 => by
    have ha : (a != 47) = true := by
      have := h1 a (by simp)
      simpa using this
    obtain ⟨q1, q2⟩ := slash_at s i (fun c hc => h1 c (by simp [hc])) (by simpa using h2) (by simpa using h3)
    have e2 : top (a :: s) = a :: top s := by simp [top, ha]
    have e3 : low (a :: s) = low s := by simp [low, ha]
    rw [e2, e3, q1, q2]; simp

theorem slash_none : ∀ (s : List UInt8), (∀ c ∈ s, c ≠ 47) → top s = s ∧ low s = [49]
  | [], _ => by simp [top, low]
  | a :: s, h1 => by
    have ha : (a != 47) = true := by
      have := h1 a (by simp)
      simpa using this
    obtain ⟨q1, q2⟩ := slash_none s fun c hc => h1 c (by simp [hc])
    have e2 : top (a :: s) = a :: top s := by simp [top, ha]
    have e3 : low (a :: s) = low s := by simp [low, ha]
    rw [e2, e3, q1, q2]; simp

theorem low_le (s : List UInt8) (h : s.length ≤ 400) : (low s).length ≤ 400 := by
  cases s with
  | nil => simp [low]
  | cons c t => exact Nat.le_trans (low_len (by simp)) h

theorem form_parts (s : List UInt8) : form s = true ↔ (allDig (top s) && !(top s).isEmpty) = true ∧ (allDig (low s) && !(low s).isEmpty) = true ∧ dval (low s) ≠ 0 := by
  unfold form
  simp only [Bool.and_eq_true, Bool.not_eq_true', beq_eq_false_iff_ne, ne_eq, and_assoc]

theorem ref_neg {a : ByteArray} {k : ByteArray × ByteArray × Bool × Int × Int → Prop} (hk : ∀ p, p = (a, a, neg (bl a), (0 : Int), (0 : Int)) → k p) :
    brV (notB (eqStr a (bytesL []))) (((0 : Int) ≤ 0 ∧ 0 < szStr a) ∧ k (a, a, decide (byteAt a 0 = 45), 0, 0)) (k (a, a, false, 0, 0)) := by
  refine brV_iff.2 ⟨fun h => ?_, fun h => ?_⟩
  · obtain ⟨c, t, e⟩ := ne_nil_bl h
    refine ⟨⟨by omega, by rw [bl_len, e, List.length_cons]; omega⟩, hk _ ?_⟩
    have : decide (byteAt a (0 : Int) = (45 : Int)) = neg (bl a) := by
      rw [head_byte e, e]
      have e2 : neg (c :: t) = decide (c = 45) := by rw [Bool.eq_iff_iff]; simp [neg]
      rw [e2]; apply decide_eq_decide.2
      exact u8_eq (n := 45) (by decide)
    rw [this]
  · have e := nil_bl' h
    refine hk _ ?_
    rw [e]; rfl

theorem r_Parse (a : ByteArray) (ha : (bl a).length ≤ 400) : callV Pg c_ref01_Parse [⟨.str, a⟩] (.tup (.pair tNum (.pair tI .unit))) fun r => r = parseQ (bl a) := by
  refine w_ref01_Parse a ⟨_, rfl⟩ (joinR (fun p => p = (a, a, neg (bl a), (0 : Int), (0 : Int))) ?_ fun k hk => ref_neg hk)
  rintro _ rfl
  dsimp only
  refine joinR (fun p => ∃ s : ByteArray, p = (a, s, neg (bl a), (0 : Int), (0 : Int)) ∧ bl s = body (bl a)) ?_ ?_
  case refine_2 =>
    intro k hk
    refine brV_iff.2 ⟨fun h => ?_, fun h => ?_⟩
    · have h : neg (bl a) = true := h
      obtain ⟨t, e⟩ := (neg_cons _).1 h
      refine ⟨⟨by omega, by rw [bl_len, e, List.length_cons]; omega, Int.le_refl _⟩, hk _ ⟨subStr a 1 (szStr a), rfl, ?_⟩⟩
      rw [sub_tail, body, if_pos h]
    · have h : neg (bl a) = false := h
      refine hk _ ⟨a, rfl, ?_⟩
      rw [body, if_neg (by rw [h]; decide)]
  case refine_1 =>
  rintro _ ⟨s, rfl, hs⟩
  dsimp only
  have hsl : (bl s).length ≤ 400 := by rw [hs]; exact Nat.le_trans (body_len _) ha
  refine joinR (fun p => ∃ s' l : ByteArray, p = (a, s', neg (bl a), l, (0 : Int), (0 : Int)) ∧ bl s' = top (bl s) ∧ bl l = low (bl s)) ?_ ?_
  case refine_2 =>
    intro k hk
    refine loopE (fun p => ∃ i : Nat, p = (a, s, neg (bl a), bytesL [49], (i : Int), (0 : Int), (0 : Int)) ∧ i ≤ (bl s).length ∧ ∀ c ∈ (bl s).take i, c ≠ 47) (fun p => (bl s).length - p.2.2.2.2.1.toNat) ⟨0, rfl, by omega, by simp⟩ ?_
    rintro _ ⟨i, rfl, hi, hd⟩
    dsimp only
    refine brV_iff.2 ⟨fun h => ?_, fun h => ?_⟩
    · have h : (i : Int) < szStr s := dec_t h
      rw [bl_len] at h
      have h1 : i < (bl s).length := by omega
      refine ⟨⟨by omega, by rw [bl_len]; omega⟩, ?_⟩
      rw [byteAt_bl, Int.toNat_natCast, getD_get h1]
      refine brV_iff.2 ⟨fun h2 => ?_, fun h2 => ?_⟩
      · have h2 := (u8_eq (n := 47) (by decide)).1 (dec_t h2)
        obtain ⟨q1, q2⟩ := slash_at (bl s) i hd h1 h2
        rw [wi64 (by omega) (by omega)]
        refine ⟨⟨by omega, by omega, by rw [size_bl]; omega⟩, ⟨by omega, by rw [bl_len]; omega, Int.le_refl _⟩, hk _ ⟨_, _, rfl, ?_, ?_⟩⟩
        · rw [bl_sub, q1]; simp
        · rw [bl_sub, bl_len, q2]
          have : ((i : Int) + 1).toNat = i + 1 := by omega
          rw [this]; simp
      · have h2 : ¬ ((bl s)[i].toNat : Int) = 47 := dec_f h2
        rw [wi64 (by omega) (by omega)]
        refine ⟨⟨i + 1, rfl, by omega, ?_⟩, by omega⟩
        rw [take_succ_get h1]
        intro c hc
        rcases List.mem_append.1 hc with hc | hc
        · exact hd c hc
        · rw [List.mem_singleton.1 hc]; exact fun e => h2 ((u8_eq (n := 47) (by decide)).2 e)
    · have h : ¬ (i : Int) < szStr s := dec_f h
      rw [bl_len] at h
      rw [List.take_of_length_le (by omega)] at hd
      obtain ⟨q1, q2⟩ := slash_none _ hd
      exact hk _ ⟨s, _, rfl, q1.symm, by rw [q2, bytesL_bl]; rfl⟩
  case refine_1 =>
  rintro _ ⟨s', l, rfl, e1, e2⟩
  dsimp only
  refine (r_Long s' (by rw [e1]; exact Nat.le_trans (top_len _) hsl)).mono ?_
  rintro ⟨x, b1, u1⟩ ⟨g1, g2⟩
  refine (r_Long l (by rw [e2]; exact low_le _ hsl)).mono ?_
  rintro ⟨y, b2, u2⟩ ⟨g3, g4⟩
  dsimp only at g1 g2 g3 g4 ⊢
  rw [e1] at g1 g2
  rw [e2] at g3 g4
  have hform := form_parts (bl s)
  rw [← g1, ← g3] at hform
  refine joinR (fun p => p = (a, neg (bl a), !form (bl s), ((0 : Int), (0 : Int)), (x, y))) ?_ ?_
  case refine_2 =>
    intro k hk
    refine brV_iff.2 ⟨fun h => hk _ ?_, fun h => brV_iff.2 ⟨fun h3 => hk _ ?_, fun h3 => ?_⟩⟩
    · have h : b1 = false := by simpa [notB] using h
      have : form (bl s) = false := by
        cases e : form (bl s) with
        | false => rfl
        | true => have := (hform.1 e).1; rw [h] at this; simp at this
      rw [this]; rfl
    · have h3 : b2 = false := by simpa [notB] using h3
      have : form (bl s) = false := by
        cases e : form (bl s) with
        | false => rfl
        | true => have := (hform.1 e).2.1; rw [h3] at this; simp at this
      rw [this]; rfl
    · have h : b1 = true := by simpa [notB] using h
      have h3 : b2 = true := by simpa [notB] using h3
      refine (r_Sign (g4 h3)).mono ?_
      rintro _ rfl
      refine hk _ ?_
      have : decide (sgn (dval (low (bl s)) : Int) = (0 : Int)) = !form (bl s) := by
        rw [Bool.eq_iff_iff, decide_eq_true_eq, sgn_zero, Bool.not_eq_true']
        constructor
        · intro hm
          cases e : form (bl s) with
          | false => rfl
          | true => exact absurd hm (hform.1 e).2.2
        · intro e
          apply Classical.byContradiction
          intro hm
          rw [hform.2 ⟨h, h3, hm⟩] at e; simp at e
      rw [this]
  case refine_1 =>
  rintro _ rfl
  dsimp only
  refine brV_iff.2 ⟨fun h => ?_, fun h => ?_⟩
  · have h : form (bl s) = false := by simpa using h
    rw [parseQ, ← hs, if_neg (by rw [h]; decide)]
  have h : form (bl s) = true := by simpa using h
  obtain ⟨h1, h2, hm⟩ := hform.1 h
  have hx := g2 h1
  have hy := g4 h2
  rw [g1] at h1
  rw [g3] at h2
  simp only [Bool.and_eq_true] at h1 h2
  have k400 : dval (top (bl s)) < 10 ^ 400 := Nat.lt_of_lt_of_le (dval_lt _ (allDig_mem.1 h1.1)) (Nat.pow_le_pow_right (by decide) (Nat.le_trans (top_len _) hsl))
  have m400 : dval (low (bl s)) < 10 ^ 400 := Nat.lt_of_lt_of_le (dval_lt _ (allDig_mem.1 h2.1)) (Nat.pow_le_pow_right (by decide) (low_le _ hsl))
  rw [parseQ, ← hs, if_pos h]
  refine brV_iff.2 ⟨fun h => ?_, fun h => ?_⟩
  · have h : (200 : Int) < szStr a := dec_t h
    rw [bl_len] at h
    rw [if_pos (by omega)]
  have h : ¬ (200 : Int) < szStr a := dec_f h
  rw [bl_len] at h
  rw [if_neg (by omega)]
  refine joinR (fun p => ∃ z, p = (((0 : Int), (0 : Int)), (z, y)) ∧ RIV z (if neg (bl a) then -(dval (top (bl s)) : Int) else (dval (top (bl s)) : Int))) ?_ ?_
  case refine_2 =>
    intro k' hk
    refine brV_iff.2 ⟨fun h => ?_, fun h => ?_⟩
    · refine (r_Minus hx).mono fun z hz => hk _ ⟨z, rfl, ?_⟩
      rw [if_pos h]; exact hz
    · refine hk _ ⟨x, rfl, ?_⟩
      rw [if_neg (by rw [show neg (bl a) = false from h]; decide)]; exact hx
  case refine_1 =>
  rintro _ ⟨z, rfl, hz⟩
  dsimp only
  have f1 : Fit 45 (if neg (bl a) then -(dval (top (bl s)) : Int) else (dval (top (bl s)) : Int)) := by
    split
    · exact (fit_dval k400).neg
    · exact fit_dval k400
  refine (r_Make hz hy (by omega) f1 (fit_dval m400) (by decide)).mono fun q hq => (r_Num hq).mono ?_
  rintro _ rfl
  rfl

theorem itoa_neg (n : Int) : neg (Lib.itoa n) = decide (n < 0) ∧ body (Lib.itoa n) = Lib.decDigits n.natAbs := by
  by_cases h : n < 0
  · rw [Lib.itoa, if_pos h]
    simp [neg, body, h]
  · have e : n.toNat = n.natAbs := by omega
    rw [Lib.itoa, if_neg h, e]
    obtain ⟨d1, d2, _⟩ := dec_dig n.natAbs
    have hn : neg (Lib.decDigits n.natAbs) = false := by
      cases hd : Lib.decDigits n.natAbs with
      | nil => exact absurd hd d2
      | cons c t =>
        rw [hd] at d1
        simp only [allDig, List.all_cons, Bool.and_eq_true] at d1
        cases e : neg (c :: t) with
        | false => rfl
        | true =>
          obtain ⟨t', e'⟩ := (neg_cons _).1 e
          simp only [List.cons.injEq] at e'
          have := d1.1
          rw [e'.1] at this
          simp [isDig] at this
    rw [hn, body, if_neg (by rw [hn]; decide)]
    simp [h]

theorem parse_print {a : Int × Int} (h : NumOk a) : parseQ (printL a) = (a, 0, ()) := by
  have hl := print_len h
  have h' := h
  obtain ⟨h1, h2, h3, h4, _⟩ := h'
  obtain ⟨n1, n2⟩ := itoa_neg a.1
  obtain ⟨d1, d2, d3⟩ := dec_dig a.1.natAbs
  obtain ⟨e1, e2, e3⟩ := dec_dig a.2.natAbs
  have b1 : neg (printL a) = decide (a.1 < 0) ∧ body (printL a) = Lib.decDigits a.1.natAbs ++ (if a.2 = 1 then [] else 47 :: Lib.decDigits a.2.natAbs) := by
    unfold printL
    have ne : Lib.itoa a.1 ≠ [] := by
      unfold Lib.itoa; split
      · simp
      · obtain ⟨_, q, _⟩ := dec_dig a.1.toNat; exact q
    have ei : Lib.itoa a.2 = Lib.decDigits a.2.natAbs := by
      rw [Lib.itoa, if_neg (by omega)]; congr 1; omega
    split
    · rename_i hc
      exact ⟨n1, by rw [n2]; simp⟩
    · rename_i hc
      rw [ei]
      obtain ⟨c, t, ec⟩ : ∃ c t, Lib.itoa a.1 = c :: t := by
        cases hh : Lib.itoa a.1 with
        | nil => exact absurd hh ne
        | cons c t => exact ⟨c, t, rfl⟩
      rw [ec] at n1 n2 ⊢
      have g : neg (c :: t ++ 47 :: Lib.decDigits a.2.natAbs) = neg (c :: t) := rfl
      rw [g]
      refine ⟨n1, ?_⟩
      unfold body at n2 ⊢
      rw [g]
      split
      · rename_i hb; rw [if_pos hb] at n2; rw [← n2]; rfl
      · rename_i hb; rw [if_neg hb] at n2; rw [← n2]
  obtain ⟨b1, b2⟩ := b1
  have hd : ∀ c ∈ Lib.decDigits a.1.natAbs, c ≠ 47 := fun c hc e => by
    have := allDig_mem.1 d1 c hc
    rw [e, slash_no_dig] at this; simp at this
  have ht : top (body (printL a)) = Lib.decDigits a.1.natAbs ∧ low (body (printL a)) = (if a.2 = 1 then [49] else Lib.decDigits a.2.natAbs) := by
    rw [b2]
    split
    · rw [List.append_nil]; exact slash_none _ hd
    · have := slash_at (Lib.decDigits a.1.natAbs ++ 47 :: Lib.decDigits a.2.natAbs) (Lib.decDigits a.1.natAbs).length (by simpa using hd) (by simp) (by simp)
      rw [this.1, this.2]; simp
  obtain ⟨t1, t2⟩ := ht
  have hlow : allDig (low (body (printL a))) = true ∧ (low (body (printL a))).isEmpty = false ∧ (dval (low (body (printL a))) : Int) = a.2 := by
    rw [t2]
    split
    · rename_i hc; refine ⟨by decide, rfl, ?_⟩; rw [hc]; rfl
    · refine ⟨e1, ?_, ?_⟩
      · cases hh : Lib.decDigits a.2.natAbs with
        | nil => exact absurd hh e2
        | cons => rfl
      · rw [e3]; omega
  obtain ⟨l1, l2, l3⟩ := hlow
  have hf : form (body (printL a)) = true := by
    have q : (Lib.decDigits a.1.natAbs).isEmpty = false := by
      cases hh : Lib.decDigits a.1.natAbs with
      | nil => exact absurd hh d2
      | cons => rfl
    have q2 : dval (low (body (printL a))) ≠ 0 := by omega
    rw [form_parts, t1, d1, q, l1, l2]
    exact ⟨rfl, rfl, q2⟩
  rw [parseQ, if_pos hf, if_neg (by omega), t1, d3, l3, b1]
  have e : (if decide (a.1 < 0) = true then -((a.1.natAbs : Nat) : Int) else ((a.1.natAbs : Nat) : Int)) = a.1 := by
    by_cases hc : a.1 < 0
    · rw [if_pos (decide_eq_true hc)]; omega
    · rw [if_neg (by simpa using hc)]; omega
  rw [e]
  exact outQ_num h

theorem s_NumTexts (a : Int × Int) (t : ByteArray) : callV Pg c_law01_NumTexts [⟨tNum, a⟩, ⟨.str, t⟩] .bool fun r => r = true := by
  refine w_law01_NumTexts a t ⟨_, rfl⟩ (brV_iff.2 ⟨fun _ => s_awake.mono fun _ h => h, fun hl => ?_⟩)
  have hl : ¬ (400 : Int) < szStr t := dec_f hl
  rw [bl_len] at hl
  have hl : (bl t).length ≤ 400 := by omega
  refine (s_NPrint a).mono ?_
  rintro _ rfl
  refine (r_Print a).mono ?_
  rintro _ rfl
  refine (s_Parse t hl).mono ?_
  rintro _ rfl
  refine (r_Parse t hl).mono ?_
  rintro _ rfl
  refine joinR (fun p => p = ((printQ a).1, (printQ a).2.1, false, a)) ?_ ?_
  case refine_2 =>
    intro k hk
    refine brV_iff.2 ⟨fun h => ?_, fun _ => brV_iff.2 ⟨fun h => ?_, fun _ => brV_iff.2 ⟨fun h => ?_, fun _ => hk _ ?_⟩⟩⟩
    · rw [eqStr_bl] at h; simp [notB] at h
    · simp [notB] at h
    · simp [notB, andB] at h
    · simp [notB]
  case refine_1 =>
  rintro _ rfl
  dsimp only
  refine brV_iff.2 ⟨fun h => by simp at h, fun _ => brV_iff.2 ⟨fun _ => s_awake.mono fun _ h => h, fun h => ?_⟩⟩
  have h : (printQ a).2.1 = 0 := not_f h
  have hv : NumOk a := by
    apply Classical.byContradiction
    intro hn
    rw [printQ, if_neg hn] at h; simp at h
  rw [printQ, if_pos hv]
  refine (s_Parse (printB a) (by rw [bl_printB]; have := print_len hv; omega)).mono ?_
  rintro _ rfl
  rw [bl_printB, parse_print hv]
  refine joinR (fun p => p = true) (by rintro _ rfl; rfl) fun k hk => brV_iff.2 ⟨fun _ => brV_iff.2 ⟨fun _ => s_awake.mono fun _ h => hk _ h, fun h => ?_⟩, fun h => ?_⟩
  · simp [andB] at h
  · simp at h

end Go.Proofs.Pf.B
