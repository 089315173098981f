/- What each function gives. -/
import Derived.Test.YtafjapndilbfcaaC
import Derived.Test.YtafjapndilbfcaaW1
import Derived.Test.YtafjapndilbfcaaW2
set_option linter.unusedVariables false
set_option linter.unusedSimpArgs false
namespace Go.Proofs.Pf
open Go Go.VM

theorem joinE {T : Type} {k : T → Prop} {body : (T → Prop) → Prop} (h : body k) : joinV T k body := ⟨h⟩

theorem s_Add32 {a b c : Int} (ha : 0 ≤ a) (ha' : a < 4294967296) (hb : 0 ≤ b) (hb' : b < 4294967296) (hc : 0 ≤ c) (hc' : c < 4294967296) :
    callV Pg c_math_bits_Add32 [⟨tU, a⟩, ⟨tU, b⟩, ⟨tU, c⟩] (.tup (.pair tU (.pair tU .unit))) fun r => r = ((a + b + c) % 4294967296, (a + b + c) / 4294967296, ()) := by
  refine w_math_bits_Add32 a b c ⟨_, rfl⟩ ⟨by omega, ?_⟩
  simp only [wu64m, wu32m, shr64_32, Prod.mk.injEq, and_true]
  omega

theorem s_Sub32 {a b c : Int} (ha : 0 ≤ a) (ha' : a < 4294967296) (hb : 0 ≤ b) (hb' : b < 4294967296) (hc : 0 ≤ c) (hc' : c ≤ 1) :
    callV Pg c_math_bits_Sub32 [⟨tU, a⟩, ⟨tU, b⟩, ⟨tU, c⟩] (.tup (.pair tU (.pair tU .unit))) fun r => r = ((a - b - c) % 4294967296, (if a < b + c then 1 else 0), ()) := by
  refine w_math_bits_Sub32 a b c ⟨_, rfl⟩ ⟨by omega, ?_⟩
  have e : IntKind.wrap IntKind.u32 (IntKind.wrap IntKind.u32 (a - b) - c) = (a - b - c) % 4294967296 := by
    rw [wu32m, wu32m]; omega
  rw [e, borrow32 ha ha' hb hb' hc hc']

theorem s_Div32 {a b c : Int} (ha : 0 ≤ a) (hb : 0 ≤ b) (hb' : b < 4294967296) (hc' : c < 4294967296) (hac : a < c) :
    callV Pg c_math_bits_Div32 [⟨tU, a⟩, ⟨tU, b⟩, ⟨tU, c⟩] (.tup (.pair tU (.pair tU .unit))) fun r => r = ((a * 4294967296 + b) / c, (a * 4294967296 + b) % c, ()) := by
  refine w_math_bits_Div32 a b c ⟨_, rfl⟩ (joinE ?_)
  have e0 : decide (c = 0) = false := decide_eq_false (by omega)
  have e1 : decide (c ≤ a) = false := decide_eq_false (by omega)
  simp only [notB, e0, e1, Bool.not_false, brV]
  have ec : IntKind.wrap IntKind.u64 c = c := wu64 (by omega) (by omega)
  have ea : IntKind.wrap IntKind.u64 a = a := wu64 (by omega) (by omega)
  have eb : IntKind.wrap IntKind.u64 b = b := wu64 (by omega) (by omega)
  have es : bitI BinOp.or IntKind.u64 (shlI IntKind.u64 a 32) b = a * 4294967296 + b := by
    rw [shl64_32, Int.emod_eq_of_lt (by omega) (by omega), or64_32 hb hb' ha (by omega), Int.add_comm]
  rw [ec, ea, eb, es]
  refine ⟨by omega, by omega, by omega, ?_⟩
  have hn : 0 ≤ a * 4294967296 + b := by omega
  rw [Int.tdiv_eq_ediv_of_nonneg hn, Int.tmod_eq_emod_of_nonneg hn]
  have hq : (a * 4294967296 + b) / c < 4294967296 := by
    refine Int.ediv_lt_of_lt_mul (by omega) ?_
    have : (a + 1) * 4294967296 ≤ c * 4294967296 := by omega
    rw [Int.mul_comm 4294967296 c]; omega
  have hq0 : 0 ≤ (a * 4294967296 + b) / c := Int.ediv_nonneg hn (by omega)
  have hr := Int.emod_lt_of_pos (a * 4294967296 + b) (show 0 < c by omega)
  have hr0 := Int.emod_nonneg (a * 4294967296 + b) (show c ≠ 0 by omega)
  rw [wu64 hq0 (by omega), wu32 hq0 hq, wu32 hr0 (by omega)]

theorem s_Mul64 {a b : Int} (ha : 0 ≤ a) (ha' : a < 18446744073709551616) (hb : 0 ≤ b) (hb' : b < 18446744073709551616) :
    callV Pg c_math_bits_Mul64 [⟨.int .u64, a⟩, ⟨.int .u64, b⟩] (.tup (.pair (.int .u64) (.pair (.int .u64) .unit))) fun r => r = (a * b / 18446744073709551616, a * b % 18446744073709551616, ()) := by
  refine w_math_bits_Mul64 a b ⟨_, rfl⟩ ⟨by omega, by omega, by omega, by omega, by omega, ?_⟩
  rw [and64_32 ha ha', and64_32 hb hb']
  simp only [shr64_32]
  generalize ha1 : a / 4294967296 = a1
  generalize hb1 : b / 4294967296 = b1
  generalize ha0 : a % 4294967296 = a0
  generalize hb0 : b % 4294967296 = b0
  have e : a * b = a1 * b1 * 18446744073709551616 + (a1 * b0 + a0 * b1) * 4294967296 + a0 * b0 := by
    have e1 : a = a1 * 4294967296 + a0 := by omega
    have e2 : b = b1 * 4294967296 + b0 := by omega
    rw [e1, e2]; grind
  have bound : ∀ x y : Int, 0 ≤ x → x ≤ 4294967295 → 0 ≤ y → y ≤ 4294967295 → 0 ≤ x * y ∧ x * y ≤ 18446744065119617025 := by
    intro x y h1 h2 h3 h4
    refine ⟨Int.mul_nonneg h1 h3, ?_⟩
    have := Int.mul_le_mul h2 h4 h3 (by omega : (0 : Int) ≤ 4294967295)
    omega
  have p1 := bound a1 b1 (by omega) (by omega) (by omega) (by omega)
  have p2 := bound a1 b0 (by omega) (by omega) (by omega) (by omega)
  have p3 := bound a0 b1 (by omega) (by omega) (by omega) (by omega)
  have p4 := bound a0 b0 (by omega) (by omega) (by omega) (by omega)
  rw [wu64m (a * b), e]
  generalize a1 * b1 = x1 at *
  generalize a1 * b0 = x2 at *
  generalize a0 * b1 = x3 at *
  generalize a0 * b0 = x4 at *
  clear e ha1 hb1 ha0 hb0 bound
  have m : ∀ x : Int, 0 ≤ x → x < 18446744073709551616 → IntKind.wrap IntKind.u64 x = x := fun x h1 h2 => wu64 h1 h2
  rw [m x4 (by omega) (by omega), m x1 (by omega) (by omega), m x2 (by omega) (by omega), m x3 (by omega) (by omega)]
  rw [m (x2 + x4 / 4294967296) (by omega) (by omega)]
  rw [and64_32 (by omega) (by omega)]
  rw [m ((x2 + x4 / 4294967296) % 4294967296 + x3) (by omega) (by omega)]
  rw [m (x1 + (x2 + x4 / 4294967296) / 4294967296) (by omega) (by omega)]
  rw [m _ (by omega) (by omega)]
  simp only [Prod.mk.injEq, and_true]
  omega

def len8 : List Nat := [0, 1, 2, 2, 3, 3, 3, 3, 4, 4, 4, 4, 4, 4, 4, 4, 5, 5, 5, 5, 5, 5, 5, 5, 5, 5, 5, 5, 5, 5, 5, 5, 6, 6, 6, 6, 6, 6, 6, 6, 6, 6, 6, 6, 6, 6, 6, 6, 6, 6, 6, 6, 6, 6, 6, 6, 6, 6, 6, 6, 6, 6, 6, 6, 7, 7, 7, 7, 7, 7, 7, 7, 7, 7, 7, 7, 7, 7, 7, 7, 7, 7, 7, 7, 7, 7, 7, 7, 7, 7, 7, 7, 7, 7, 7, 7, 7, 7, 7, 7, 7, 7, 7, 7, 7, 7, 7, 7, 7, 7, 7, 7, 7, 7, 7, 7, 7, 7, 7, 7, 7, 7, 7, 7, 7, 7, 7, 7, 8, 8, 8, 8, 8, 8, 8, 8, 8, 8, 8, 8, 8, 8, 8, 8, 8, 8, 8, 8, 8, 8, 8, 8, 8, 8, 8, 8, 8, 8, 8, 8, 8, 8, 8, 8, 8, 8, 8, 8, 8, 8, 8, 8, 8, 8, 8, 8, 8, 8, 8, 8, 8, 8, 8, 8, 8, 8, 8, 8, 8, 8, 8, 8, 8, 8, 8, 8, 8, 8, 8, 8, 8, 8, 8, 8, 8, 8, 8, 8, 8, 8, 8, 8, 8, 8, 8, 8, 8, 8, 8, 8, 8, 8, 8, 8, 8, 8, 8, 8, 8, 8, 8, 8, 8, 8, 8, 8, 8, 8, 8, 8, 8, 8, 8, 8, 8, 8, 8, 8, 8, 8, 8, 8, 8, 8, 8, 8]

theorem len8_ok : (List.range 256).all (fun i => Nat.blt i (2 ^ len8.getD i 0) && (Nat.beq i 0 || Nat.ble (2 ^ len8.getD i 0) (2 * i)) && Nat.ble (len8.getD i 0) 8) = true := by decide +kernel

theorem byte8 {i : Int} (h1 : 0 ≤ i) (h2 : i < 256) : ∃ n : Nat, byteAt (bytesL len8) i = n ∧ n ≤ 8 ∧ i < 2 ^ n ∧ (0 < i → (2 : Int) ^ n ≤ 2 * i) := by
  have h := len8_ok
  rw [List.all_eq_true] at h
  have h := h i.toNat (by simp; omega)
  simp only [Bool.and_eq_true, Bool.or_eq_true, Nat.blt_eq, Nat.beq_eq, Nat.ble_eq] at h
  obtain ⟨⟨h3, h4⟩, h5⟩ := h
  refine ⟨len8.getD i.toNat 0, ?_, h5, ?_, fun hi => ?_⟩
  · have hl : len8.length = 256 := by decide +kernel
    have hi : i.toNat < len8.length := by omega
    simp only [List.getD, List.getElem?_eq_getElem hi, Option.getD_some] at h5
    simp only [byteAt, bytesL, List.getD, List.getElem?_map, List.getElem?_eq_getElem hi, Option.map_some, Option.getD_some]
    rw [UInt8.toNat_ofNat_of_lt' (by simp [UInt8.size]; omega)]
  · have : ((i.toNat : Nat) : Int) < ((2 ^ len8.getD i.toNat 0 : Nat) : Int) := Int.ofNat_lt.2 h3
    simp only [Int.natCast_pow] at this
    have e : ((2 : Nat) : Int) = 2 := rfl
    rw [e] at this; omega
  · have h4' := h4.resolve_left (by omega)
    have : ((2 ^ len8.getD i.toNat 0 : Nat) : Int) ≤ ((2 * i.toNat : Nat) : Int) := Int.ofNat_le.2 h4'
    simp only [Int.natCast_pow] at this
    have e : ((2 : Nat) : Int) = 2 := rfl
    rw [e] at this; omega

theorem len8_size : szStr (bytesL len8) = 256 := by decide +kernel

theorem len_ex {a : Int} (ha : 0 ≤ a) : ∀ k : Nat, a < 2 ^ k → ∃ n : Nat, n ≤ k ∧ a < 2 ^ n ∧ (0 < a → (2 : Int) ^ n ≤ 2 * a)
  | 0, h => ⟨0, Nat.le_refl _, h, fun h0 => by simp at h; omega⟩
  | k + 1, h => by
    by_cases h1 : a < 2 ^ k
    · obtain ⟨n, q1, q2⟩ := len_ex ha k h1
      exact ⟨n, by omega, q2⟩
    · exact ⟨k + 1, Nat.le_refl _, h, fun _ => by rw [Int.pow_succ]; omega⟩

def L32K (a : Int) (p : Int × Int) : Prop :=
  (((0 : Int) ≤ (IntKind.wrap IntKind.u8 p.1)) ∧ ((IntKind.wrap IntKind.u8 p.1) < (szStr (bytesL len8)))) ∧
      (∃ n : Nat, (IntKind.wrap IntKind.i64 (p.2 + (IntKind.wrap IntKind.i64 (byteAt (bytesL len8) (IntKind.wrap IntKind.u8 p.1))))) = n ∧ n ≤ 32 ∧ a < 2 ^ n ∧ (0 < a → (2 : Int) ^ n ≤ 2 * a))

/-- The length of a number in binary digits. -/
theorem s_Len32 {a : Int} (ha : 0 ≤ a) (ha' : a < 4294967296) :
    callV Pg c_math_bits_Len32 [⟨tU, a⟩] tI fun r => ∃ n : Nat, r = n ∧ n ≤ 32 ∧ a < 2 ^ n ∧ (0 < a → (2 : Int) ^ n ≤ 2 * a) := by
  refine w_math_bits_Len32 a ?_ (joinE ?_)
  · obtain ⟨n, q1, q2⟩ := len_ex ha 32 (by omega)
    exact ⟨n, n, rfl, q1, q2⟩
  have fin : ∀ p1 p2 : Int, 0 ≤ p1 → p1 < 256 → (0 < a → 0 < p1) → (∃ s : Nat, p2 = s ∧ s ≤ 24 ∧ (2 : Int) ^ s * p1 ≤ a ∧ a < 2 ^ s * (p1 + 1)) → L32K a (p1, p2) := by
    unfold L32K
    rintro p1 p2 h1 h2 h0 ⟨s, rfl, h3, h4, h5⟩
    have e : IntKind.wrap IntKind.u8 p1 = p1 := by rw [wu8m]; omega
    rw [e, len8_size]
    obtain ⟨n, q1, q2, q3, q4⟩ := byte8 h1 h2
    rw [q1, wi64 (x := (n : Int)) (by omega) (by omega), wi64 (by omega) (by omega)]
    have hs : (0 : Int) < 2 ^ s := Int.pow_pos (by decide)
    refine ⟨⟨h1, h2⟩, s + n, by omega, by omega, ?_, fun h0' => ?_⟩
    · rw [Int.pow_add]
      have : (2 : Int) ^ s * (p1 + 1) ≤ 2 ^ s * 2 ^ n := Int.mul_le_mul_of_nonneg_left (by omega) (by omega)
      omega
    · rw [Int.pow_add]
      have : (2 : Int) ^ s * 2 ^ n ≤ 2 ^ s * (2 * p1) := Int.mul_le_mul_of_nonneg_left (q4 (h0 h0')) (by omega)
      have e : (2 : Int) ^ s * (2 * p1) = 2 * (2 ^ s * p1) := by grind
      omega
  have two : ∀ p1 p2 : Int, 0 ≤ p1 → p1 < 65536 → (0 < a → 0 < p1) → (∃ s : Nat, p2 = s ∧ s ≤ 16 ∧ (2 : Int) ^ s * p1 ≤ a ∧ a < 2 ^ s * (p1 + 1)) → ∀ k : Int × Int → Prop,
      (∀ p1 p2 : Int, 0 ≤ p1 → p1 < 256 → (0 < a → 0 < p1) → (∃ s : Nat, p2 = s ∧ s ≤ 24 ∧ (2 : Int) ^ s * p1 ≤ a ∧ a < 2 ^ s * (p1 + 1)) → k (p1, p2)) →
      brV (decide ((256 : Int) ≤ p1)) (((0 : Int) ≤ (8 : Int)) ∧ (k ((shrI IntKind.u32 p1 (8 : Int)), (IntKind.wrap IntKind.i64 (p2 + (8 : Int)))))) (k (p1, p2)) := by
    rintro p1 p2 h1 h2 h0 ⟨s, rfl, h3, h4, h5⟩ k hk
    refine brV_iff.2 ⟨fun hb => ⟨by omega, ?_⟩, fun hb => ?_⟩
    · have hb := of_decide_eq_true hb
      have e : shrI IntKind.u32 p1 8 = p1 / 256 := shr32 p1 8
      rw [e, wi64 (by omega) (by omega)]
      refine hk _ _ (by omega) (by omega) (by omega) ⟨s + 8, by omega, by omega, ?_, ?_⟩
      · rw [Int.pow_add]
        have : (2 : Int) ^ s * (256 * (p1 / 256)) ≤ 2 ^ s * p1 := Int.mul_le_mul_of_nonneg_left (by omega) (Int.pow_nonneg (by decide))
        have e : (2 : Int) ^ s * 2 ^ 8 * (p1 / 256) = 2 ^ s * (256 * (p1 / 256)) := by grind
        omega
      · rw [Int.pow_add]
        have : (2 : Int) ^ s * (p1 + 1) ≤ 2 ^ s * (256 * (p1 / 256 + 1)) := Int.mul_le_mul_of_nonneg_left (by omega) (Int.pow_nonneg (by decide))
        have e : (2 : Int) ^ s * 2 ^ 8 * (p1 / 256 + 1) = 2 ^ s * (256 * (p1 / 256 + 1)) := by grind
        omega
    · have hb := of_decide_eq_false hb
      exact hk _ _ h1 (by omega) h0 ⟨s, rfl, by omega, h4, h5⟩
  refine brV_iff.2 ⟨fun hb => ⟨by omega, ?_⟩, fun hb => ?_⟩
  · have hb := of_decide_eq_true hb
    have e : shrI IntKind.u32 a 16 = a / 65536 := shr32 a 16
    rw [e]
    refine joinE ?_
    exact two (a / 65536) 16 (by omega) (by omega) (by omega) ⟨16, rfl, by omega, by omega, by omega⟩ (L32K a) fin
  · have hb := of_decide_eq_false hb
    refine joinE ?_
    exact two a 0 (by omega) (by omega) (by omega) ⟨0, rfl, by omega, by omega, by omega⟩ (L32K a) fin

theorem s_LeadingZeros32 {a : Int} (ha : 0 < a) (ha' : a < 4294967296) :
    callV Pg c_math_bits_LeadingZeros32 [⟨tU, a⟩] tI fun r => ∃ n : Nat, r = n ∧ n < 32 ∧ a * 2 ^ n < 4294967296 ∧ 2147483648 ≤ a * 2 ^ n := by
  have key : ∀ n : Nat, n ≤ 32 ∧ a < 2 ^ n ∧ (0 < a → (2 : Int) ^ n ≤ 2 * a) → ∃ m : Nat, IntKind.wrap IntKind.i64 ((32 : Int) - (n : Int)) = m ∧ m < 32 ∧ a * 2 ^ m < 4294967296 ∧ 2147483648 ≤ a * 2 ^ m := by
    rintro n ⟨h1, h2, h3⟩
    have h3 := h3 ha
    have hn : n ≠ 0 := by rintro rfl; simp at h2; omega
    refine ⟨32 - n, by rw [wi64 (by omega) (by omega)]; omega, by omega, ?_, ?_⟩
    · have e : (4294967296 : Int) = 2 ^ n * 2 ^ (32 - n) := by rw [← Int.pow_add, show n + (32 - n) = 32 by omega]; rfl
      rw [e]
      exact Int.mul_lt_mul_of_pos_right h2 (Int.pow_pos (by decide))
    · have e : (4294967296 : Int) = 2 ^ n * 2 ^ (32 - n) := by rw [← Int.pow_add, show n + (32 - n) = 32 by omega]; rfl
      have : (2 : Int) ^ n * 2 ^ (32 - n) ≤ 2 * a * 2 ^ (32 - n) := Int.mul_le_mul_of_nonneg_right h3 (Int.pow_nonneg (by decide))
      have e2 : 2 * a * (2 : Int) ^ (32 - n) = 2 * (a * 2 ^ (32 - n)) := by grind
      omega
  refine w_math_bits_LeadingZeros32 a ?_ ((s_Len32 (by omega) ha').mono ?_)
  · obtain ⟨n, q⟩ := len_ex (a := a) (by omega) 32 (by omega)
    obtain ⟨m, h⟩ := key n q
    exact ⟨m, m, rfl, h.2⟩
  · rintro r ⟨n, rfl, q⟩
    exact key n q

end Go.Proofs.Pf

namespace Go.Proofs.Pf
open Go Go.VM

theorem loopE {T : Type} {step : (T → Prop) → T → Prop} {p : T} (Inv : T → Prop) (μ : T → Nat) (h0 : Inv p) (h : ∀ p, Inv p → step (fun p' => Inv p' ∧ μ p' < μ p) p) : loopV T step p := ⟨Inv, μ, h0, h⟩

theorem s_trim {a : Option (List Int)} (ha : (a.getD []).length < 4611686018427387904) :
    callV Pg c_exact_trim [⟨tD, a⟩] tD fun r => r = a.map trim := by
  refine w_exact_trim a ⟨_, rfl⟩ (loopE (fun p => p.map trim = a.map trim ∧ (p.getD []).length ≤ (a.getD []).length) (fun p => (p.getD []).length) ⟨rfl, Nat.le_refl _⟩ ?_)
  rintro p ⟨h1, h2⟩
  refine joinE (brV_iff.2 ⟨fun hb => ?_, fun hb => ?_⟩)
  · have hb := of_decide_eq_true hb
    simp only [szSl] at hb ⊢
    rw [wi64 (by omega) (by omega)]
    cases p with
    | none => simp at hb
    | some l =>
      simp only [Option.getD_some] at *
      rcases List.eq_nil_or_concat l with rfl | ⟨l', x, rfl⟩
      · simp at hb
      · simp only [List.concat_eq_append] at *
        refine ⟨⟨by omega, by simp only [Option.getD_some]; omega⟩, brV_iff.2 ⟨fun hb2 => ?_, fun hb2 => ?_⟩⟩
        · have hb2 := of_decide_eq_true hb2
          have e : (((l' ++ [x]).length : Int) - 1).toNat = l'.length := by simp
          simp only [eltS, Option.getD_some, e] at hb2
          have hx : x = 0 := by simpa [List.getD] using hb2
          subst hx
          refine ⟨⟨by omega, by omega, by simp; omega⟩, ?_⟩
          simp only [slcS, Option.map_some, e]
          have e2 : ((l' ++ [0]).take l'.length).drop (0 : Int).toNat = l' := by simp
          rw [e2]
          refine ⟨⟨?_, ?_⟩, by simp⟩
          · rw [← h1]; simp [trim_snoc_zero]
          · simp at h2 ⊢; omega
        · have hb2 := of_decide_eq_false hb2
          have e : (((l' ++ [x]).length : Int) - 1).toNat = l'.length := by simp
          simp only [eltS, Option.getD_some, e] at hb2
          have hx : x ≠ 0 := by simpa [List.getD] using hb2
          show some (l' ++ [x]) = _
          rw [← h1]; simp [trim_snoc _ _ hx]
  · have hb := of_decide_eq_false hb
    show p = _
    cases p with
    | none => simpa using h1
    | some l =>
      simp only [szSl, Option.getD_some] at hb
      have : l = [] := by apply List.eq_nil_of_length_eq_zero; omega
      subst this
      rw [← h1]; rfl

/-- What an exact integer stands for. -/
def IV (x : Int × Option (List Int)) (n : Int) : Prop :=
  match x.2 with
  | none => x.1 = n ∧ -4611686018427387904 < n ∧ n < 4611686018427387904
  | some l => Dig l ∧ Trm l ∧ 4611686018427387904 ≤ nv l ∧ ((x.1 = 1 ∧ n = nv l) ∨ (x.1 = -1 ∧ n = -nv l))

theorem IV.none {v n : Int} (h : v = n) (h1 : -4611686018427387904 < n) (h2 : n < 4611686018427387904) : IV (v, none) n := ⟨h, h1, h2⟩

def sgn (n : Int) : Int := if 0 < n then 1 else if n < 0 then -1 else 0

theorem s_Sign {x : Int × Option (List Int)} {n : Int} (h : IV x n) : callV Pg c_exact_Int_Sign [⟨tEI, x⟩] tI fun r => r = sgn n := by
  refine w_exact_Int_Sign x ⟨_, rfl⟩ ?_
  obtain ⟨v, d⟩ := x
  have hv : (0 < v ↔ 0 < n) ∧ (v < 0 ↔ n < 0) := by
    cases d with
    | none => obtain ⟨h1, h2, h3⟩ := h; simp only at h1; omega
    | some l => obtain ⟨h1, h2, h3, h4⟩ := h; simp only at h4; omega
  simp only [brV_iff, decide_eq_true_eq, decide_eq_false_iff_not, sgn]
  refine ⟨fun h1 => ?_, fun h1 => ⟨fun h2 => ?_, fun h2 => ?_⟩⟩
  · rw [if_pos (by omega)]
  · rw [if_neg (by omega), if_pos (by omega)]
  · rw [if_neg (by omega), if_neg (by omega)]

theorem s_Neg {x : Int × Option (List Int)} {n : Int} (h : IV x n) : callV Pg c_exact_Int_Neg [⟨tEI, x⟩] tEI fun r => IV r (-n) := by
  have key : IV (IntKind.wrap IntKind.i64 (0 - x.1), x.2) (-n) := by
    obtain ⟨v, d⟩ := x
    cases d with
    | none => obtain ⟨h1, h2, h3⟩ := h; simp only at h1; exact ⟨by simp only; rw [wi64 (by omega) (by omega)]; omega, by omega, by omega⟩
    | some l =>
      obtain ⟨h1, h2, h3, h4⟩ := h; simp only at h4
      refine ⟨h1, h2, h3, ?_⟩
      simp only; rw [wi64 (by omega) (by omega)]; omega
  exact w_exact_Int_Neg x ⟨_, key⟩ key

theorem s_Abs {x : Int × Option (List Int)} {n : Int} (h : IV x n) : callV Pg c_exact_Int_Abs [⟨tEI, x⟩] tEI fun r => IV r n.natAbs := by
  obtain ⟨v, d⟩ := x
  have hv : (v < 0 ↔ n < 0) := by
    cases d with
    | none => obtain ⟨h1, h2, h3⟩ := h; simp only at h1; omega
    | some l => obtain ⟨h1, h2, h3, h4⟩ := h; simp only at h4; omega
  have hc := s_Neg h
  refine w_exact_Int_Abs (v, d) ?_ (brV_iff.2 ⟨fun hb => ?_, fun hb => ?_⟩)
  · by_cases h0 : n < 0
    · obtain ⟨r, hr⟩ := hc.ex; exact ⟨r, by rw [show (n.natAbs : Int) = -n by omega]; exact hr⟩
    · exact ⟨_, by rw [show (n.natAbs : Int) = n by omega]; exact h⟩
  · have hb := of_decide_eq_true hb
    refine hc.mono fun r hr => ?_
    simp only at hb
    rw [show (n.natAbs : Int) = -n by omega]; exact hr
  · have hb := of_decide_eq_false hb
    simp only at hb
    rw [show (n.natAbs : Int) = n by omega]; exact h

theorem nv_take_succ' (l : List Int) (i : Nat) : nv (l.take (i + 1)) = nv (l.take i) + 4294967296 ^ i * l.getD i 0 := by
  rcases Nat.lt_or_ge i l.length with h | h
  · exact nv_take_succ l i h
  · rw [List.take_of_length_le (by omega), List.take_of_length_le h]
    have : l.getD i 0 = 0 := by simp [List.getD, h]
    rw [this]; omega

/-- The digits of a sum. -/
def SumOf (a b : List Int) (r : Option (List Int)) : Prop := ∃ l, r = some l ∧ Dig l ∧ nv l = nv a + nv b ∧ l.length ≤ max a.length b.length + 1

theorem plus_ex {a b : List Int} (ha : Dig a) (hb : Dig b) : ∀ k : Nat, ∃ (o : List Int) (c : Int), o.length = k ∧ Dig o ∧ 0 ≤ c ∧ c ≤ 1 ∧ nv o + 4294967296 ^ k * c = nv (a.take k) + nv (b.take k)
  | 0 => ⟨[], 0, rfl, Dig.nil, by omega, by omega, by simp [nv]⟩
  | k + 1 => by
    obtain ⟨o, c, h1, h2, h3, h4, h5⟩ := plus_ex ha hb k
    have ga := ha.get k
    have gb := hb.get k
    refine ⟨o ++ [(a.getD k 0 + b.getD k 0 + c) % 4294967296], (a.getD k 0 + b.getD k 0 + c) / 4294967296, by simp [h1], h2.app (Dig.cons (by omega) (by omega) Dig.nil), by omega, by omega, ?_⟩
    rw [nv_snoc, nv_take_succ', nv_take_succ', h1, Int.pow_succ]
    have := Int.emod_add_mul_ediv (a.getD k 0 + b.getD k 0 + c) 4294967296
    generalize (a.getD k 0 + b.getD k 0 + c) % 4294967296 = x at *
    generalize (a.getD k 0 + b.getD k 0 + c) / 4294967296 = y at *
    grind

theorem plus_step {a b o : List Int} {c : Int} {k : Nat} (ha : Dig a) (hb : Dig b) (h1 : o.length = k) (h2 : Dig o) (h3 : 0 ≤ c) (h4 : c ≤ 1) (h5 : nv o + 4294967296 ^ k * c = nv (a.take k) + nv (b.take k)) :
    Dig (o ++ [(a.getD k 0 + b.getD k 0 + c) % 4294967296]) ∧ 0 ≤ (a.getD k 0 + b.getD k 0 + c) / 4294967296 ∧ (a.getD k 0 + b.getD k 0 + c) / 4294967296 ≤ 1 ∧
      nv (o ++ [(a.getD k 0 + b.getD k 0 + c) % 4294967296]) + 4294967296 ^ (k + 1) * ((a.getD k 0 + b.getD k 0 + c) / 4294967296) = nv (a.take (k + 1)) + nv (b.take (k + 1)) := by
  have ga := ha.get k
  have gb := hb.get k
  refine ⟨h2.app (Dig.cons (by omega) (by omega) Dig.nil), by omega, by omega, ?_⟩
  rw [nv_snoc, nv_take_succ', nv_take_succ', h1, Int.pow_succ]
  have := Int.emod_add_mul_ediv (a.getD k 0 + b.getD k 0 + c) 4294967296
  generalize (a.getD k 0 + b.getD k 0 + c) % 4294967296 = x at *
  generalize (a.getD k 0 + b.getD k 0 + c) / 4294967296 = y at *
  grind

theorem joinR {T : Type} {k : T → Prop} {body : (T → Prop) → Prop} (R : T → Prop) (hk : ∀ p, R p → k p) (hb : ∀ k' : T → Prop, (∀ p, R p → k' p) → body k') : joinV T k body := ⟨hb k hk⟩

theorem dec_t {p : Prop} [Decidable p] (h : decide p = true) : p := of_decide_eq_true h
theorem dec_f {p : Prop} [Decidable p] (h : decide p = false) : ¬ p := of_decide_eq_false h

/-- The invariant of a loop that makes a list of digits of two lists. -/
structure PInv (A B : Option (List Int)) (f : List Int → Int → Nat → Prop) (p : Option (List Int) × Option (List Int) × Int × Int × Int × Option (List Int)) : Prop where
  a : p.1 = A
  b : p.2.1 = B
  n : p.2.2.2.1 = ((A.getD []).length : Int)
  k : ∃ (k : Nat) (o : List Int), p.2.2.2.2.1 = k ∧ k ≤ (A.getD []).length ∧ p.2.2.2.2.2 = some o ∧ o.length = k ∧ f o p.2.2.1 k

theorem getD_out {l : Option (List Int)} {i : Nat} (h : ¬ i < (l.getD []).length) : (l.getD []).getD i 0 = 0 := by
  simp [List.getD, Nat.le_of_not_lt h]

theorem s_plus {a b : Option (List Int)} (ha : Dig (a.getD [])) (hb : Dig (b.getD [])) (la : (a.getD []).length ≤ 1099511627776) (lb : (b.getD []).length ≤ 1099511627776) :
    callV Pg c_exact_plus [⟨tD, a⟩, ⟨tD, b⟩] tD fun r => SumOf (a.getD []) (b.getD []) r := by
  refine w_exact_plus a b ?_ (joinR (fun p => Dig (p.1.getD []) ∧ Dig (p.2.getD []) ∧ (p.1.getD []).length ≤ 1099511627776 ∧ (p.2.getD []).length ≤ (p.1.getD []).length ∧ (∀ r, SumOf (p.1.getD []) (p.2.getD []) r → SumOf (a.getD []) (b.getD []) r)) ?_ ?_)
  · obtain ⟨o, c, h1, h2, h3, h4, h5⟩ := plus_ex ha hb (max (a.getD []).length (b.getD []).length)
    refine ⟨some (o ++ [c]), o ++ [c], rfl, h2.app (Dig.cons h3 (by omega) Dig.nil), ?_, by simp [h1]⟩
    rw [nv_snoc, h1, h5, List.take_of_length_le (by omega), List.take_of_length_le (by omega)]
  · rintro ⟨A, B⟩ ⟨h1, h2, h3, h4, h5⟩
    simp only at h1 h2 h3 h4 h5 ⊢
    refine ⟨?_, ?_⟩
    · simp only [szSl]; rw [wi64 (by omega) (by omega)]; simp only [mkC]; omega
    refine loopE (PInv A B fun o c k => Dig o ∧ 0 ≤ c ∧ c ≤ 1 ∧ nv o + 4294967296 ^ k * c = nv ((A.getD []).take k) + nv ((B.getD []).take k)) (fun p => ((A.getD []).length - p.2.2.2.2.1).toNat) ⟨rfl, rfl, rfl, 0, [], rfl, by omega, rfl, rfl, Dig.nil, Int.le_refl _, (by decide : (0 : Int) ≤ 1), by simp [nv]⟩ ?_
    rintro ⟨A', B', c, n, i, out⟩ ⟨e1, e2, e3, k, o, e4, e5, e6, e7, e8, e9, e10, e11⟩
    simp only at e1 e2 e3 e4 e6 e9 e10 e11; subst e1 e2 e3 e4 e6
    refine brV_iff.2 ⟨fun hb => ?_, fun hb => ?_⟩
    · have hb := dec_t hb
      simp only at hb
      refine joinR (fun p => p = (A', B', c, (k : Int), (B'.getD []).getD k 0, ((A'.getD []).length : Int), (k : Int), some o)) ?_ ?_
      · rintro _ rfl
        simp only
        have ga := h1.get k
        have gb := h2.get k
        refine ⟨⟨by omega, by omega⟩, (s_Add32 (by simpa [eltS] using ga.1) (by simpa [eltS] using ga.2) gb.1 gb.2 e9 (by omega)).mono ?_⟩
        rintro _ rfl
        refine ⟨?_, ⟨rfl, rfl, rfl, k + 1, o ++ [((A'.getD []).getD k 0 + (B'.getD []).getD k 0 + c) % 4294967296], ?_, by omega, rfl, by simp [e7], ?_⟩, ?_⟩
        · show (o.length + 1) * 4 ≤ 140737488355328; omega
        · show IntKind.wrap IntKind.i64 ((k : Int) + 1) = ((k + 1 : Nat) : Int); rw [wi64 (by omega) (by omega)]; omega
        · exact plus_step h1 h2 e7 e8 e9 e10 e11
        · show ((A'.getD []).length - IntKind.wrap IntKind.i64 ((k : Int) + 1)).toNat < (((A'.getD []).length : Int) - (k : Int)).toNat
          rw [wi64 (by omega) (by omega)]; omega
      · intro k' hk'
        refine brV_iff.2 ⟨fun hb2 => ?_, fun hb2 => ?_⟩
        · have hb2 := dec_t hb2
          simp only [szSl] at hb2
          refine ⟨⟨by dsimp only; omega, by dsimp only; omega⟩, hk' _ ?_⟩
          simp only [eltS, Int.toNat_natCast]
        · have hb2 := dec_f hb2
          simp only [szSl] at hb2
          refine hk' _ ?_
          rw [getD_out (by omega)]
    · have hb := dec_f hb
      simp only at hb
      have hk : k = (A'.getD []).length := by omega
      refine ⟨?_, h5 _ ⟨o ++ [c], rfl, e8.app (Dig.cons e9 (by omega) Dig.nil), ?_, by simp; omega⟩⟩
      · show (o.length + 1) * 4 ≤ 140737488355328; omega
      · rw [nv_snoc, e7, e11, hk, List.take_length, List.take_of_length_le (by omega)]
  · intro k' hk'
    refine brV_iff.2 ⟨fun hb2 => ?_, fun hb2 => ?_⟩
    · have hb2 := dec_t hb2
      simp only [szSl] at hb2
      refine hk' _ ⟨hb, ha, by omega, by simp only; omega, ?_⟩
      rintro r ⟨l, q1, q2, q3, q4⟩
      exact ⟨l, q1, q2, by rw [q3, Int.add_comm], by rw [Nat.max_comm]; exact q4⟩
    · have hb2 := dec_f hb2
      simp only [szSl] at hb2
      exact hk' _ ⟨ha, hb, la, by simp only; omega, fun r h => h⟩

theorem minus_step {a b o : List Int} {c : Int} {k : Nat} (ha : Dig a) (hb : Dig b) (h1 : o.length = k) (h2 : Dig o) (h3 : 0 ≤ c) (h4 : c ≤ 1) (h5 : nv o - 4294967296 ^ k * c = nv (a.take k) - nv (b.take k)) :
    Dig (o ++ [(a.getD k 0 - b.getD k 0 - c) % 4294967296]) ∧ 0 ≤ (if a.getD k 0 < b.getD k 0 + c then (1 : Int) else 0) ∧ (if a.getD k 0 < b.getD k 0 + c then (1 : Int) else 0) ≤ 1 ∧
      nv (o ++ [(a.getD k 0 - b.getD k 0 - c) % 4294967296]) - 4294967296 ^ (k + 1) * (if a.getD k 0 < b.getD k 0 + c then (1 : Int) else 0) = nv (a.take (k + 1)) - nv (b.take (k + 1)) := by
  have ga := ha.get k
  have gb := hb.get k
  have e : (a.getD k 0 - b.getD k 0 - c) % 4294967296 = a.getD k 0 - b.getD k 0 - c + 4294967296 * (if a.getD k 0 < b.getD k 0 + c then (1 : Int) else 0) := by split <;> omega
  have e0 : 0 ≤ (if a.getD k 0 < b.getD k 0 + c then (1 : Int) else 0) ∧ (if a.getD k 0 < b.getD k 0 + c then (1 : Int) else 0) ≤ 1 := by split <;> omega
  refine ⟨h2.app (Dig.cons (by omega) (by omega) Dig.nil), e0.1, e0.2, ?_⟩
  rw [nv_snoc, nv_take_succ', nv_take_succ', h1, Int.pow_succ, e]
  generalize (if a.getD k 0 < b.getD k 0 + c then (1 : Int) else 0) = y at *
  grind

theorem minus_ex {a b : List Int} (ha : Dig a) (hb : Dig b) : ∀ k : Nat, ∃ (o : List Int) (c : Int), o.length = k ∧ Dig o ∧ 0 ≤ c ∧ c ≤ 1 ∧ nv o - 4294967296 ^ k * c = nv (a.take k) - nv (b.take k)
  | 0 => ⟨[], 0, rfl, Dig.nil, by omega, by omega, by simp [nv]⟩
  | k + 1 => by
    obtain ⟨o, c, h1, h2, h3, h4, h5⟩ := minus_ex ha hb k
    obtain ⟨q1, q2, q3, q4⟩ := minus_step ha hb h1 h2 h3 h4 h5
    exact ⟨_, _, by simp [h1], q1, q2, q3, q4⟩

/-- No borrow is left. -/
theorem minus_fin {a b o : List Int} {c : Int} (h1 : o.length = a.length) (h2 : Dig o) (h3 : 0 ≤ c) (h4 : c ≤ 1) (h5 : nv o - 4294967296 ^ a.length * c = nv a - nv b) (h : nv b ≤ nv a) : nv o = nv a - nv b := by
  have hl := nv_lt h2
  rw [h1] at hl
  have : c = 0 := by
    rcases (by omega : c = 0 ∨ c = 1) with h | rfl
    · exact h
    · omega
  subst this; omega

/-- The digits of a difference. -/
def DifOf (a b : List Int) (r : Option (List Int)) : Prop := ∃ l, r = some l ∧ Dig l ∧ nv l = nv a - nv b ∧ l.length = a.length

theorem s_minus {a b : Option (List Int)} (ha : Dig (a.getD [])) (hb : Dig (b.getD [])) (la : (a.getD []).length ≤ 1099511627776) (lb : (b.getD []).length ≤ (a.getD []).length) (hle : nv (b.getD []) ≤ nv (a.getD [])) :
    callV Pg c_exact_minus [⟨tD, a⟩, ⟨tD, b⟩] tD fun r => DifOf (a.getD []) (b.getD []) r := by
  refine w_exact_minus a b ?_ ⟨?_, ?_⟩
  · obtain ⟨o, c, h1, h2, h3, h4, h5⟩ := minus_ex ha hb (a.getD []).length
    rw [List.take_length, List.take_of_length_le lb] at h5
    exact ⟨some o, o, rfl, h2, minus_fin h1 h2 h3 h4 h5 hle, h1⟩
  · simp only [szSl, mkC]; omega
  refine loopE (PInv a b fun o c k => Dig o ∧ 0 ≤ c ∧ c ≤ 1 ∧ nv o - 4294967296 ^ k * c = nv ((a.getD []).take k) - nv ((b.getD []).take k)) (fun p => ((a.getD []).length - p.2.2.2.2.1).toNat) ⟨rfl, rfl, rfl, 0, [], rfl, by omega, rfl, rfl, Dig.nil, Int.le_refl _, (by decide : (0 : Int) ≤ 1), by simp [nv]⟩ ?_
  rintro ⟨A', B', c, n, i, out⟩ ⟨e1, e2, e3, k, o, e4, e5, e6, e7, e8, e9, e10, e11⟩
  simp only at e1 e2 e3 e4 e6 e9 e10 e11; subst e1 e2 e3 e4 e6
  refine brV_iff.2 ⟨fun hbb => ?_, fun hbb => ?_⟩
  · have hb' := dec_t hbb
    simp only at hb'
    refine joinR (fun p => p = (A', B', c, (k : Int), (B'.getD []).getD k 0, ((A'.getD []).length : Int), (k : Int), some o)) ?_ ?_
    · rintro _ rfl
      simp only
      have ga := ha.get k
      have gb := hb.get k
      refine ⟨⟨by omega, by omega⟩, (s_Sub32 (by simpa [eltS] using ga.1) (by simpa [eltS] using ga.2) gb.1 gb.2 e9 e10).mono ?_⟩
      rintro _ rfl
      refine ⟨?_, ⟨rfl, rfl, rfl, k + 1, o ++ [((A'.getD []).getD k 0 - (B'.getD []).getD k 0 - c) % 4294967296], ?_, by omega, rfl, by simp [e7], ?_⟩, ?_⟩
      · show (o.length + 1) * 4 ≤ 140737488355328; omega
      · show IntKind.wrap IntKind.i64 ((k : Int) + 1) = ((k + 1 : Nat) : Int); rw [wi64 (by omega) (by omega)]; omega
      · exact minus_step ha hb e7 e8 e9 e10 e11
      · show ((A'.getD []).length - IntKind.wrap IntKind.i64 ((k : Int) + 1)).toNat < (((A'.getD []).length : Int) - (k : Int)).toNat
        rw [wi64 (by omega) (by omega)]; omega
    · intro k' hk'
      refine brV_iff.2 ⟨fun hb2 => ?_, fun hb2 => ?_⟩
      · have hb2 := dec_t hb2
        simp only [szSl] at hb2
        refine ⟨⟨by dsimp only; omega, by dsimp only; omega⟩, hk' _ ?_⟩
        simp only [eltS, Int.toNat_natCast]
      · have hb2 := dec_f hb2
        simp only [szSl] at hb2
        refine hk' _ ?_
        rw [getD_out (by omega)]
  · have hb' := dec_f hbb
    simp only at hb'
    have hk : k = (A'.getD []).length := by omega
    subst hk
    rw [List.take_length, List.take_of_length_le lb] at e11
    exact ⟨o, rfl, e8, minus_fin e7 e8 e9 e10 e11 hle, e7⟩

end Go.Proofs.Pf

namespace Go.Proofs.Pf
open Go Go.VM

theorem nv_cmp_top {a b : List Int} (ha : Dig a) (hb : Dig b) {k : Nat} (hl : a.length = b.length) (hk : k < a.length) (heq : nv (a.drop (k + 1)) = nv (b.drop (k + 1))) (hlt : a.getD k 0 < b.getD k 0) : nv a < nv b := by
  rw [nv_split a k (by omega), nv_split b k (by omega), nv_drop a k hk, nv_drop b k (by omega), heq]
  have h1 := nv_lt (ha.take k)
  have h2 := nv_nonneg (hb.take k)
  rw [List.length_take, Nat.min_eq_left (by omega)] at h1
  have hp := pow_pos32 k
  have : 4294967296 ^ k * (a.getD k 0 + 4294967296 * nv (b.drop (k + 1)) + 1) ≤ (4294967296 : Int) ^ k * (b.getD k 0 + 4294967296 * nv (b.drop (k + 1))) := Int.mul_le_mul_of_nonneg_left (by omega) (by omega)
  rw [Int.mul_add _ _ 1] at this
  omega

theorem not_t {p : Prop} [Decidable p] (h : notB (decide p) = true) : ¬ p := by simpa [notB] using h
theorem not_f {p : Prop} [Decidable p] (h : notB (decide p) = false) : p := by simpa [notB] using h

/-- Comparing numbers. -/
def cmpI (a b : Int) : Int := if a < b then -1 else if b < a then 1 else 0

theorem nv_lt_len {a b : List Int} (ha : Dig a) (hb : Dig b) (tb : Trm b) (h : a.length < b.length) : nv a < nv b := by
  have h1 := nv_lt ha
  have hne : b ≠ [] := by rintro rfl; simp at h
  have h2 := tb.ge hb hne
  have h3 := pow_mono32 (show a.length ≤ b.length - 1 by omega)
  omega

theorem s_compare {a b : Option (List Int)} (ha : Dig (a.getD [])) (hb : Dig (b.getD [])) (ta : Trm (a.getD [])) (tb : Trm (b.getD [])) (la : (a.getD []).length ≤ 1099511627776) :
    callV Pg c_exact_compare [⟨tD, a⟩, ⟨tD, b⟩] tI fun r => r = cmpI (nv (a.getD [])) (nv (b.getD [])) := by
  refine w_exact_compare a b ⟨_, rfl⟩ (brV_iff.2 ⟨fun h => brV_iff.2 ⟨fun h2 => ?_, fun h2 => ?_⟩, fun h => ?_⟩)
  · have h2 := dec_t h2
    simp only [szSl] at h2
    have := nv_lt_len ha hb tb (by omega)
    rw [cmpI, if_pos this]
  · have h2 := dec_f h2
    have h := not_t h
    simp only [szSl] at h h2
    have := nv_lt_len hb ha ta (by omega)
    rw [cmpI, if_neg (by omega), if_pos this]
  · have h := not_f h
    simp only [szSl] at h
    refine loopE (fun p => p.1 = a ∧ p.2.1 = b ∧ ∃ k : Nat, p.2.2 = (k : Int) - 1 ∧ k ≤ (a.getD []).length ∧ nv ((a.getD []).drop k) = nv ((b.getD []).drop k)) (fun p => (p.2.2 + 1).toNat) ⟨rfl, rfl, (a.getD []).length, ?_, Nat.le_refl _, ?_⟩ ?_
    · simp only [szSl]; exact wi64 (by omega) (by omega)
    · rw [List.drop_length, show (a.getD []).length = (b.getD []).length by omega, List.drop_length]
    · rintro ⟨A, B, i⟩ ⟨e1, e2, k, e3, h1, h2⟩
      simp only at e1 e2 e3; subst e1 e2 e3
      refine brV_iff.2 ⟨fun hc => ?_, fun hc => ?_⟩
      · have hc := dec_t hc
        simp only at hc
        obtain ⟨k, rfl⟩ : ∃ j, k = j + 1 := ⟨k - 1, by omega⟩
        have e : ((k + 1 : Nat) : Int) - 1 = (k : Int) := by omega
        have ek : (((k + 1 : Nat) : Int) - 1).toNat = k := by omega
        have i1 : inS A (((k + 1 : Nat) : Int) - 1) := ⟨by omega, by omega⟩
        have i2 : inS B (((k + 1 : Nat) : Int) - 1) := ⟨by omega, by omega⟩
        refine ⟨i1, i2, brV_iff.2 ⟨fun hd => ⟨i1, i2, brV_iff.2 ⟨fun hd2 => ?_, fun hd2 => ?_⟩⟩, fun hd => ?_⟩⟩
        · have hd2 := dec_t hd2
          simp only [eltS, ek] at hd2
          have := nv_cmp_top ha hb (by omega) (by omega) h2 hd2
          rw [cmpI, if_pos this]
        · have hd2 := dec_f hd2
          have hd := not_t hd
          simp only [eltS, ek] at hd hd2
          have := nv_cmp_top hb ha (by omega) (by omega) h2.symm (show (B.getD []).getD k 0 < (A.getD []).getD k 0 by omega)
          rw [cmpI, if_neg (by omega), if_pos this]
        · have hd := not_f hd
          simp only [eltS, ek] at hd
          refine ⟨⟨rfl, rfl, k, ?_, by omega, ?_⟩, ?_⟩
          · show IntKind.wrap IntKind.i64 (((k + 1 : Nat) : Int) - 1 - 1) = (k : Int) - 1; rw [wi64 (by omega) (by omega)]; omega
          · rw [nv_drop (A.getD []) k (by omega), nv_drop (B.getD []) k (by omega), hd, h2]
          · show (IntKind.wrap IntKind.i64 (((k + 1 : Nat) : Int) - 1 - 1) + 1).toNat < (((k + 1 : Nat) : Int) - 1 + 1).toNat; rw [wi64 (by omega) (by omega)]; omega
      · have hc := dec_f hc
        simp only at hc
        have : k = 0 := by omega
        subst this
        simp only [List.drop_zero] at h2
        rw [cmpI, if_neg (by omega), if_neg (by omega)]

/-- The digits of a number below 2^64. -/
theorem nv_two {m : Int} : nv [m % 4294967296, m / 4294967296] = m := by simp only [nv]; omega
theorem dig_two {m : Int} (h0 : 0 ≤ m) (h1 : m < 18446744073709551616) : Dig [m % 4294967296, m / 4294967296] :=
  Dig.cons (by omega) (by omega) (Dig.cons (by omega) (by omega) Dig.nil)
theorem split_two {m : Int} (h0 : 0 ≤ m) (h1 : m < 18446744073709551616) : [IntKind.wrap IntKind.u32 m, IntKind.wrap IntKind.u32 (shrI IntKind.u64 m 32)] = [m % 4294967296, m / 4294967296] := by
  rw [shr64_32, wu32m, wu32m, Int.emod_eq_of_lt (b := 4294967296) (a := m / 4294967296) (by omega) (by omega)]

/-- The sign and the digits of a number. -/
def DigOf (n : Int) (r : Int × Option (List Int) × Unit) : Prop := r.1 = sgn n ∧ ∃ l, r.2.1 = some l ∧ Dig l ∧ Trm l ∧ nv l = n.natAbs

theorem s_digits {x : Int × Option (List Int)} {n : Int} (h : IV x n) : callV Pg c_exact_Int_digits [⟨tEI, x⟩] (.tup (.pair tI (.pair tD .unit))) fun r => DigOf n r := by
  obtain ⟨v, d⟩ := x
  cases d with
  | some l =>
    obtain ⟨h1, h2, h3, h4⟩ := h
    simp only at h4
    have key : DigOf n (v, some l, ()) := by
      refine ⟨?_, l, rfl, h1, h2, by omega⟩
      simp only [sgn]
      rcases h4 with ⟨rfl, rfl⟩ | ⟨rfl, rfl⟩
      · rw [if_pos (by omega)]
      · rw [if_neg (by omega), if_pos (by omega)]
    exact w_exact_Int_digits _ ⟨_, key⟩ key
  | none =>
    obtain ⟨rfl, h1, h2⟩ := h
    simp only at h1 h2
    have key : DigOf v (sgn v, some (trim [(v.natAbs : Int) % 4294967296, (v.natAbs : Int) / 4294967296]), ()) :=
      ⟨rfl, _, rfl, (dig_two (by omega) (by omega)).trim, trm_trim _, by rw [nv_trim, nv_two]⟩
    refine w_exact_Int_digits _ ⟨_, key⟩ (brV_iff.2 ⟨fun h => by simp [notB] at h, fun _ => ?_⟩)
    refine (joinR (fun p => p = (sgn v, (v.natAbs : Int))) ?_ ?_)
    · rintro _ rfl
      refine ⟨by omega, ?_⟩
      simp only
      rw [split_two (by omega) (by omega)]
      refine (s_trim (by simp)).mono ?_
      rintro _ rfl
      exact key
    · intro k hk
      refine brV_iff.2 ⟨fun hc => ?_, fun hc => joinE (brV_iff.2 ⟨fun hd => ?_, fun hd => ?_⟩)⟩
      · have hc := dec_t hc
        simp only at hc
        refine hk _ ?_
        rw [wu64 (by omega) (by omega), sgn, if_pos hc, show (v.natAbs : Int) = v by omega]
      · have hd := dec_t hd
        simp only at hd
        refine hk _ ?_
        rw [wi64 (by omega) (by omega), wu64 (by omega) (by omega), sgn, if_neg (by omega), if_pos hd, show (v.natAbs : Int) = 0 - v by omega]
      · have hc := dec_f hc
        have hd := dec_f hd
        simp only at hc hd
        refine hk _ ?_
        rw [sgn, if_neg hc, if_neg hd, show (v.natAbs : Int) = 0 by omega]

end Go.Proofs.Pf

namespace Go.Proofs.Pf
open Go Go.VM

theorem cmpI_le {a b : Int} : 0 ≤ cmpI a b ↔ b ≤ a := by
  unfold cmpI; split
  · constructor <;> intro <;> omega
  · split <;> constructor <;> intro <;> omega
theorem cmpI_lt {a b : Int} (h : ¬ 0 ≤ cmpI a b) : a < b := by
  rw [cmpI_le] at h; omega

theorem nv_ex : ∀ (k : Nat) (a : Nat), a < k → ∃ l, Dig l ∧ Trm l ∧ nv l = (a : Int)
  | 0, a, h => by omega
  | k + 1, a, h => by
    by_cases h0 : a = 0
    · exact ⟨[], Dig.nil, fun d hd => by simp at hd, by simp [nv, h0]⟩
    · by_cases h1 : a < 4294967296
      · exact ⟨[(a : Int)], Dig.cons (by omega) (by omega) Dig.nil, fun d hd => by simp at hd; omega, by simp [nv]⟩
      · obtain ⟨l, q1, q2, q3⟩ := nv_ex k (a / 4294967296) (by omega)
        refine ⟨((a % 4294967296 : Nat) : Int) :: l, Dig.cons (by omega) (by omega) q1, ?_, by simp only [nv, q3]; omega⟩
        intro d hd
        cases l with
        | nil => simp only [nv] at q3; omega
        | cons x l => rw [List.getLast?_cons_cons] at hd; exact q2 d hd

/-- Every number has a form. -/
theorem IV_ex (n : Int) : ∃ r, IV r n := by
  by_cases h : -4611686018427387904 < n ∧ n < 4611686018427387904
  · exact ⟨(n, none), rfl, h.1, h.2⟩
  · obtain ⟨l, q1, q2, q3⟩ := nv_ex (n.natAbs + 1) n.natAbs (by omega)
    by_cases h0 : 0 < n
    · exact ⟨(1, some l), q1, q2, by omega, .inl ⟨rfl, by omega⟩⟩
    · exact ⟨(-1, some l), q1, q2, by omega, .inr ⟨rfl, by omega⟩⟩

theorem s_Of {n : Int} (h1 : -9223372036854775808 ≤ n) (h2 : n < 9223372036854775808) : callV Pg c_exact_Of [⟨tI, n⟩] tEI fun r => IV r n := by
  have big : ∀ s m : Int, 4611686018427387904 ≤ m → m ≤ 9223372036854775808 → ((s = 1 ∧ n = m) ∨ (s = -1 ∧ n = -m)) → IV (s, some [m % 4294967296, m / 4294967296]) n := by
    intro s m h3 h4 h5
    refine ⟨dig_two (by omega) (by omega), ?_, by rw [nv_two]; exact h3, by rw [nv_two]; exact h5⟩
    intro d hd
    simp at hd
    omega
  refine w_exact_Of n (IV_ex _) (joinR (fun p => ∃ b : Bool, p = (n, b, (0 : Int), none) ∧ (b = true ↔ -4611686018427387904 < n ∧ n < 4611686018427387904)) ?_ ?_)
  · rintro _ ⟨b, rfl, hb⟩
    refine brV_iff.2 ⟨fun h => ?_, fun h => ?_⟩
    · obtain ⟨h3, h4⟩ := hb.1 h
      exact ⟨rfl, h3, h4⟩
    · have h3 : ¬ (-4611686018427387904 < n ∧ n < 4611686018427387904) := fun h4 => by rw [hb.2 h4] at h; simp at h
      refine joinR (fun p => ∃ s m : Int, p = (s, m, (0 : Int), none) ∧ 4611686018427387904 ≤ m ∧ m ≤ 9223372036854775808 ∧ ((s = 1 ∧ n = m) ∨ (s = -1 ∧ n = -m))) ?_ ?_
      · rintro _ ⟨s, m, rfl, q1, q2, q3⟩
        refine ⟨by omega, ?_⟩
        simp only
        rw [split_two (by omega) (by omega)]
        exact big s m q1 q2 q3
      · intro k hk
        refine brV_iff.2 ⟨fun h => ?_, fun h => ?_⟩
        · have h := dec_t h
          simp only at h
          refine hk _ ⟨-1, -n, ?_, by omega, by omega, by omega⟩
          simp only [wu64m]
          rw [show ((0 : Int) - n % 18446744073709551616) % 18446744073709551616 = -n by omega]
        · have h := dec_f h
          simp only at h
          refine hk _ ⟨1, n, ?_, by omega, by omega, by omega⟩
          simp only
          rw [wu64 (by omega) (by omega)]
  · intro k hk
    refine brV_iff.2 ⟨fun h => ?_, fun h => ?_⟩
    · have h := dec_t h
      exact hk _ ⟨_, rfl, by simp only [decide_eq_true_eq]; omega⟩
    · have h := dec_f h
      exact hk _ ⟨_, rfl, by simp; omega⟩

theorem made_ok {s : Int} {l : List Int} (hl : Dig l) (hs : s = 1 ∨ s = -1 ∨ (s = 0 ∧ nv l = 0)) (hb : 4611686018427387904 ≤ nv l) : IV (s, some (trim l)) (s * nv l) := by
  refine ⟨hl.trim, trm_trim l, by rw [nv_trim]; exact hb, ?_⟩
  rw [nv_trim]
  rcases hs with rfl | rfl | ⟨_, h⟩
  · left; exact ⟨rfl, by omega⟩
  · right; exact ⟨rfl, by omega⟩
  · omega

theorem s_made {s : Int} {b : Option (List Int)} (hl : Dig (b.getD [])) (hs : s = 1 ∨ s = -1 ∨ (s = 0 ∧ nv (b.getD []) = 0)) (hlen : (b.getD []).length ≤ 1099511627776) :
    callV Pg c_exact_made [⟨tI, s⟩, ⟨tD, b⟩] tEI fun r => IV r (s * nv (b.getD [])) := by
  have hn := nv_nonneg hl
  have small : nv (b.getD []) < 4611686018427387904 → IV (s * nv (b.getD []), none) (s * nv (b.getD [])) := by
    intro h
    rcases hs with rfl | rfl | ⟨rfl, h0⟩
    · exact ⟨rfl, by omega, by omega⟩
    · exact ⟨rfl, by omega, by omega⟩
    · exact ⟨rfl, by omega, by omega⟩
  refine w_exact_made s b (IV_ex _) ((s_trim (by omega)).mono ?_)
  rintro _ rfl
  have fin : 4611686018427387904 ≤ nv (b.getD []) → IV (s, b.map trim) (s * nv (b.getD [])) := by
    intro h
    cases b with
    | none => simp [nv] at h
    | some l => exact made_ok hl hs h
  have ht : (b.map trim).getD [] = trim (b.getD []) := by cases b <;> rfl
  refine joinR (fun p => 4611686018427387904 ≤ nv (b.getD []) ∧ p.1 = s ∧ p.2.1 = b.map trim) ?_ ?_
  · rintro ⟨p1, p2, p3⟩ ⟨h, rfl, rfl⟩
    exact fin h
  · intro k hk
    refine brV_iff.2 ⟨fun h => ?_, fun h => ?_⟩
    · have h := dec_t h
      simp only [szSl, ht] at h
      have hd := hl.trim
      refine loopE (fun p => p.1 = s ∧ p.2.1 = b.map trim ∧ p.2.2.2.1 = b.map trim ∧ p.2.2.2.2.1 = ((trim (b.getD [])).length : Int) ∧ ∃ j : Nat, p.2.2.2.2.2.1 = j ∧ j ≤ (trim (b.getD [])).length ∧ p.2.2.1 = nv ((trim (b.getD [])).take j)) (fun p => ((trim (b.getD [])).length - p.2.2.2.2.2.1).toNat) ⟨rfl, rfl, rfl, by simp only [szSl, ht], 0, rfl, by omega, by simp [nv]⟩ ?_
      rintro ⟨q1, q2, q3, q4, q5, q6, q7⟩ ⟨e1, e2, e3, e4, j, e5, e6, e7⟩
      simp only at e1 e2 e3 e4 e5 e7; subst e1 e2 e3 e4 e5 e7
      refine brV_iff.2 ⟨fun hc => ?_, fun hc => ?_⟩
      · have hc := dec_t hc
        simp only at hc
        have g := hd.get j
        refine ⟨⟨by simp only; omega, by simp only [ht]; omega⟩, by simp only; rw [wi64 (by omega) (by omega)]; omega, ⟨rfl, rfl, rfl, rfl, j + 1, ?_, by omega, ?_⟩, ?_⟩
        · show IntKind.wrap IntKind.i64 ((j : Int) + 1) = ((j + 1 : Nat) : Int); rw [wi64 (by omega) (by omega)]; omega
        · show bitI BinOp.or IntKind.u64 (nv ((trim (b.getD [])).take j)) (shlI IntKind.u64 (IntKind.wrap IntKind.u64 (((b.map trim).getD []).getD ((j : Int)).toNat 0)) (IntKind.wrap IntKind.i64 (32 * (j : Int)))) = _
          rw [ht, Int.toNat_natCast, wi64 (by omega) (by omega), wu64 g.1 (by omega)]
          have e : (32 * (j : Int)) = ((32 * j : Nat) : Int) := by omega
          rw [e, shl64 _ _ (by omega), nv_take_succ _ _ (by omega)]
          have hp : (2 : Int) ^ (32 * j) = 4294967296 ^ j := by rw [Int.pow_mul]; rfl
          have hj : j = 0 ∨ j = 1 := by omega
          have htk := nv_lt (hd.take j)
          have htk0 := nv_nonneg (hd.take j)
          rw [List.length_take, Nat.min_eq_left (by omega)] at htk
          have hb1 : (trim (b.getD [])).getD j 0 * 2 ^ (32 * j) ≤ 4294967295 * 4294967296 := by
            rw [hp]; rcases hj with rfl | rfl
            · rw [show (4294967296 : Int) ^ 0 = 1 from rfl]; omega
            · rw [show (4294967296 : Int) ^ 1 = 4294967296 from rfl]; omega
          have hb2 : 0 ≤ (trim (b.getD [])).getD j 0 * 2 ^ (32 * j) := Int.mul_nonneg g.1 (Int.pow_nonneg (by decide))
          rw [Int.emod_eq_of_lt hb2 (by omega)]
          have hb3 : nv ((trim (b.getD [])).take j) ≤ 4294967295 := by
            rcases hj with rfl | rfl <;> simp at htk ⊢ <;> omega
          rw [or64 (32 * j) htk0 (by rw [hp]; exact htk) g.1 (by omega), hp, Int.mul_comm]
        · show ((trim (b.getD [])).length - IntKind.wrap IntKind.i64 ((j : Int) + 1)).toNat < ((trim (b.getD [])).length - (j : Int)).toNat
          rw [wi64 (by omega) (by omega)]; omega
      · have hc := dec_f hc
        simp only at hc
        have hj : j = (trim (b.getD [])).length := by omega
        subst hj
        simp only [List.take_length, nv_trim]
        refine brV_iff.2 ⟨fun hd => ?_, fun hd => ?_⟩
        · have hd := dec_t hd
          have := small hd
          rw [wi64 (x := nv (b.getD [])) (by omega) (by omega), wi64]
          · exact this
          · have := this.2.1; omega
          · have := this.2.2; omega
        · have hd := dec_f hd
          exact hk _ ⟨by omega, rfl, rfl⟩
    · have h := dec_f h
      simp only [szSl, ht] at h
      refine hk _ ⟨?_, rfl, rfl⟩
      have hne : trim (b.getD []) ≠ [] := by intro e; rw [e] at h; simp at h
      have h1 := (trm_trim (b.getD [])).ge hl.trim hne
      have h2 := pow_mono32 (show 2 ≤ (trim (b.getD [])).length - 1 by omega)
      rw [nv_trim] at h1
      omega

theorem sgn_ne {n : Int} {P : Prop} (h : ¬ sgn n = 0) : sgn n = 1 ∨ sgn n = -1 ∨ P := by
  unfold sgn at *; split at h <;> (try split at h) <;> simp_all

theorem sgn_z {n : Int} (h : sgn n = 0) : n = 0 := by
  unfold sgn at h
  by_cases h1 : 0 < n
  · rw [if_pos h1] at h; omega
  · rw [if_neg h1] at h
    by_cases h2 : n < 0
    · rw [if_pos h2] at h; omega
    · omega

theorem sgn3 (n : Int) : (sgn n = 1 ∧ 0 < n) ∨ (sgn n = -1 ∧ n < 0) ∨ (sgn n = 0 ∧ n = 0) := by
  by_cases h1 : 0 < n
  · exact .inl ⟨if_pos h1, h1⟩
  · by_cases h2 : n < 0
    · exact .inr (.inl ⟨by rw [sgn, if_neg h1, if_pos h2], h2⟩)
    · exact .inr (.inr ⟨by rw [sgn, if_neg h1, if_neg h2], by omega⟩)

theorem fit62 {n : Int} (h1 : -4611686018427387904 < n) (h2 : n < 4611686018427387904) : Fit 2 n := by
  unfold Fit
  rw [show (4294967296 : Int) ^ 2 = 18446744073709551616 from rfl]
  omega

theorem s_Add {x y : Int × Option (List Int)} {n m : Int} {k : Nat} (hx : IV x n) (hy : IV y m) (fx : Fit k n) (fy : Fit k m) (hk : k ≤ 1073741824) : callV Pg c_exact_Int_Add [⟨tEI, x⟩, ⟨tEI, y⟩] tEI fun r => IV r (n + m) := by
  have big : callV Pg c_exact_Int_digits [⟨tEI, x⟩] (.tup (.pair tI (.pair tD .unit))) (fun p1 => (callV Pg c_exact_Int_digits [⟨tEI, y⟩] (.tup (.pair tI (.pair tD .unit))) (fun p2 => (brV (decide (p1.1 = (0 : Int))) (IV y (n + m)) (brV (decide (p2.1 = (0 : Int))) (IV x (n + m)) (brV (decide (p1.1 = p2.1)) (callV Pg c_exact_plus [⟨tD, p1.2.1⟩, ⟨tD, p2.2.1⟩] tD (fun p3 => (callV Pg c_exact_made [⟨tI, p1.1⟩, ⟨tD, p3⟩] tEI (fun p4 => IV p4 (n + m))))) (callV Pg c_exact_compare [⟨tD, p1.2.1⟩, ⟨tD, p2.2.1⟩] tI (fun p3 => (brV (decide ((0 : Int) ≤ p3)) (callV Pg c_exact_minus [⟨tD, p1.2.1⟩, ⟨tD, p2.2.1⟩] tD (fun p4 => (callV Pg c_exact_made [⟨tI, p1.1⟩, ⟨tD, p4⟩] tEI (fun p5 => IV p5 (n + m))))) (callV Pg c_exact_minus [⟨tD, p2.2.1⟩, ⟨tD, p1.2.1⟩] tD (fun p4 => (callV Pg c_exact_made [⟨tI, p2.1⟩, ⟨tD, p4⟩] tEI (fun p5 => IV p5 (n + m)))))))))))))) := by
    refine (s_digits hx).mono ?_
    rintro ⟨s, d, _⟩ ⟨e1, l, e2, d1, t1, v1⟩
    simp only at e1 e2; subst e1 e2
    refine (s_digits hy).mono ?_
    rintro ⟨s, d, _⟩ ⟨e1, l2, e2, d2, t2, v2⟩
    simp only at e1 e2; subst e1 e2
    have l1 := t1.fit d1 fx v1
    have l2' := t2.fit d2 fy v2
    simp only
    refine brV_iff.2 ⟨fun h => ?_, fun h => brV_iff.2 ⟨fun h2 => ?_, fun h2 => brV_iff.2 ⟨fun h3 => ?_, fun h3 => ?_⟩⟩⟩
    · have h := dec_t h
      have : n = 0 := sgn_z h
      rw [this, Int.zero_add]; exact hy
    · have h2 := dec_t h2
      have : m = 0 := sgn_z h2
      rw [this, Int.add_zero]; exact hx
    · have h : ¬ sgn n = 0 := dec_f h
      have h3 : sgn n = sgn m := dec_t h3
      refine (s_plus (a := some l) (b := some l2) d1 d2 (by simp only [Option.getD_some]; omega) (by simp only [Option.getD_some]; omega)).mono ?_
      rintro _ ⟨l3, rfl, q1, q2, q3⟩
      simp only [Option.getD_some] at q2 q3
      refine (s_made (b := some l3) q1 (sgn_ne h) (by simp only [Option.getD_some]; omega)).mono ?_
      intro r hr
      have : sgn n * nv l3 = n + m := by
        rw [q2, v1, v2]
        have h2 : ¬ sgn m = 0 := dec_f h2
        clear q1 q2 q3 hr
        rcases sgn3 n with ⟨e1, w1⟩ | ⟨e1, w1⟩ | ⟨e1, w1⟩ <;> rcases sgn3 m with ⟨e2, w2⟩ | ⟨e2, w2⟩ | ⟨e2, w2⟩ <;> rw [e1] <;> omega
      rw [Option.getD_some, this] at hr
      exact hr
    · have h : ¬ sgn n = 0 := dec_f h
      have h2 : ¬ sgn m = 0 := dec_f h2
      have h3 : ¬ sgn n = sgn m := dec_f h3
      refine (s_compare (a := some l) (b := some l2) d1 d2 t1 t2 (by simp only [Option.getD_some]; omega)).mono ?_
      rintro _ rfl
      simp only [Option.getD_some]
      refine brV_iff.2 ⟨fun h4 => ?_, fun h4 => ?_⟩
      · have h4 := dec_t h4
        have hle : nv l2 ≤ nv l := by first | exact cmpI_le.1 h4 | exact Int.le_of_lt (cmpI_lt h4)
        refine (s_minus (a := some l) (b := some l2) d1 d2 (by simp only [Option.getD_some]; omega) ?_ hle).mono ?_
        · simp only [Option.getD_some]
          rcases Nat.lt_or_ge l.length l2.length with hl | hl
          · have := nv_lt_len d1 d2 t2 hl; omega
          · exact hl
        rintro _ ⟨l3, rfl, q1, q2, q3⟩
        simp only [Option.getD_some] at q2 q3
        refine (s_made (b := some l3) q1 (sgn_ne h) (by simp only [Option.getD_some]; omega)).mono ?_
        intro r hr
        have : sgn n * nv l3 = n + m := by
          rw [q2, v1, v2]
          clear q1 q2 q3 hle h4
          rcases sgn3 n with ⟨e1, w1⟩ | ⟨e1, w1⟩ | ⟨e1, w1⟩ <;> rcases sgn3 m with ⟨e2, w2⟩ | ⟨e2, w2⟩ | ⟨e2, w2⟩ <;> rw [e1] <;> omega
        rw [Option.getD_some, this] at hr
        exact hr
      · have h4 := dec_f h4
        have hle : nv l ≤ nv l2 := by first | exact cmpI_le.1 h4 | exact Int.le_of_lt (cmpI_lt h4)
        refine (s_minus (a := some l2) (b := some l) d2 d1 (by simp only [Option.getD_some]; omega) ?_ hle).mono ?_
        · simp only [Option.getD_some]
          rcases Nat.lt_or_ge l2.length l.length with hl | hl
          · have := nv_lt_len d2 d1 t1 hl; omega
          · exact hl
        rintro _ ⟨l3, rfl, q1, q2, q3⟩
        simp only [Option.getD_some] at q2 q3
        refine (s_made (b := some l3) q1 (sgn_ne h2) (by simp only [Option.getD_some]; omega)).mono ?_
        intro r hr
        have : sgn m * nv l3 = n + m := by
          rw [q2, v1, v2]
          clear q1 q2 q3 hle h4
          rcases sgn3 n with ⟨e1, w1⟩ | ⟨e1, w1⟩ | ⟨e1, w1⟩ <;> rcases sgn3 m with ⟨e2, w2⟩ | ⟨e2, w2⟩ | ⟨e2, w2⟩ <;> rw [e2] <;> omega
        rw [Option.getD_some, this] at hr
        exact hr
  refine w_exact_Int_Add x y (IV_ex _) (joinR (fun p => p = (Option.isNone x.2 && Option.isNone y.2, x, y, (0 : Int), none)) ?_ ?_)
  · rintro _ rfl
    refine brV_iff.2 ⟨fun h => ?_, fun h => big⟩
    obtain ⟨v, d⟩ := x
    obtain ⟨w, e⟩ := y
    simp only [Bool.and_eq_true, Option.isNone_iff_eq_none] at h
    obtain ⟨rfl, rfl⟩ := h
    obtain ⟨rfl, h1, h2⟩ := hx
    obtain ⟨rfl, h3, h4⟩ := hy
    simp only at h1 h2 h3 h4 ⊢
    rw [wi64 (by omega) (by omega)]
    exact s_Of (by omega) (by omega)
  · intro k hk
    refine brV_iff.2 ⟨fun h => hk _ (by rw [h]; rfl), fun h => hk _ (by rw [h]; rfl)⟩

theorem s_Sub {x y : Int × Option (List Int)} {n m : Int} {k : Nat} (hx : IV x n) (hy : IV y m) (fx : Fit k n) (fy : Fit k m) (hk : k ≤ 1073741824) : callV Pg c_exact_Int_Sub [⟨tEI, x⟩, ⟨tEI, y⟩] tEI fun r => IV r (n - m) := by
  refine w_exact_Int_Sub x y (IV_ex _) ((s_Neg hy).mono fun r hr => ?_)
  rw [show n - m = n + -m by omega]
  exact s_Add hx hr fx fy.neg hk

/-- A small number, or none. -/
def smallI (n b : Int) : Int × Bool × Unit := if n ≤ b ∧ -b ≤ n then (n, true, ()) else (0, false, ())

theorem s_Int {x : Int × Option (List Int)} {n b : Int} (hx : IV x n) (h0 : 0 ≤ b) (hb : b < 4611686018427387904) : callV Pg c_exact_Int_Int [⟨tEI, x⟩, ⟨tI, b⟩] (.tup (.pair tI (.pair .bool .unit))) fun r => r = smallI n b := by
  obtain ⟨v, d⟩ := x
  refine w_exact_Int_Int _ b ⟨_, rfl⟩ (joinR (fun p => (p.1 = true ∧ ¬ (n ≤ b ∧ -b ≤ n)) ∨ (p.1 = false ∧ (n ≤ b ∧ -b ≤ n) ∧ p.2.1 = n)) ?_ ?_)
  · rintro ⟨p, q⟩ h
    refine brV_iff.2 ⟨fun hp => ?_, fun hp => ?_⟩
    · simp only at hp; subst hp
      rcases h with ⟨_, h⟩ | ⟨h, _⟩
      · rw [smallI, if_neg h]
      · simp at h
    · simp only at hp; subst hp
      rcases h with ⟨h, _⟩ | ⟨_, h, h2⟩
      · simp at h
      · rw [smallI, if_pos h]; simp only at h2; rw [h2]
  · intro k hk
    cases d with
    | some l =>
      obtain ⟨h1, h2, h3, h4⟩ := hx
      refine brV_iff.2 ⟨fun h => hk _ (.inl ⟨rfl, by simp only at h4; omega⟩), fun h => by simp [notB] at h⟩
    | none =>
      obtain ⟨rfl, h1, h2⟩ := hx
      simp only at h1 h2 hk ⊢
      refine brV_iff.2 ⟨fun h => by simp [notB] at h, fun _ => brV_iff.2 ⟨fun h => ?_, fun h => ?_⟩⟩
      · have h := dec_t h
        exact hk _ (.inl ⟨rfl, by omega⟩)
      · have h := dec_f h
        rw [wi64 (by omega) (by omega)]
        by_cases h5 : v < 0 - b
        · exact hk _ (.inl ⟨decide_eq_true h5, by omega⟩)
        · exact hk _ (.inr ⟨decide_eq_false h5, by omega, rfl⟩)

end Go.Proofs.Pf

namespace Go.Proofs.Pf
open Go Go.VM

theorem divmod_of {a b q r : Int} (h : q * b + r = a) (h0 : 0 ≤ r) (h1 : r < b) : q = a / b ∧ r = a % b := by
  have hb : 0 < b := by omega
  have e : a = r + b * q := by rw [← h, Int.mul_comm]; omega
  constructor
  · rw [e, Int.add_mul_ediv_left _ _ (by omega), Int.ediv_eq_zero_of_lt h0 h1]; omega
  · rw [e, Int.add_mul_emod_self_left, Int.emod_eq_of_lt h0 h1]

/-- A quotient by a digit, and the rest. -/
def ShortOf (x : List Int) (y : Int) (r : Option (List Int) × Int × Unit) : Prop := ∃ l, r.1 = some l ∧ Dig l ∧ nv l = nv x / y ∧ l.length ≤ x.length ∧ r.2.1 = nv x % y

theorem nv_ex' {a : Int} (h : 0 ≤ a) {k : Nat} (hf : Fit k a) : ∃ l, Dig l ∧ Trm l ∧ nv l = a ∧ l.length ≤ k := by
  obtain ⟨l, q1, q2, q3⟩ := nv_ex (a.toNat + 1) a.toNat (by omega)
  have : nv l = a := by omega
  exact ⟨l, q1, q2, this, q2.fit q1 hf (by omega)⟩

theorem drop_set_same {l : List Int} {j : Nat} {x : Int} (h : j < l.length) : (l.set j x).drop j = x :: l.drop (j + 1) := by
  rw [List.drop_eq_getElem_cons (by simpa using h)]
  simp [List.drop_set]

theorem s_short {x : Option (List Int)} {y : Int} (hx : Dig (x.getD [])) (h0 : 0 < y) (h1 : y < 4294967296) (hl : (x.getD []).length ≤ 1099511627776) :
    callV Pg c_exact_short [⟨tD, x⟩, ⟨tU, y⟩] (.tup (.pair tD (.pair tU .unit))) fun r => ShortOf (x.getD []) y r := by
  have hn := nv_nonneg hx
  refine w_exact_short x y ?_ ⟨?_, ?_⟩
  · have hq : 0 ≤ nv (x.getD []) / y := Int.ediv_nonneg hn (by omega)
    have hq2 : nv (x.getD []) / y ≤ nv (x.getD []) := Int.ediv_le_self _ hn
    obtain ⟨l, q1, q2, q3, q4⟩ := nv_ex' (k := (x.getD []).length) hq ((fit_nv hx).of (by omega))
    exact ⟨(some l, _, ()), l, rfl, q1, q3, q4, rfl⟩
  · simp only [szSl, mkC]; omega
  refine loopE (fun p => p.1 = x ∧ p.2.1 = y ∧ 0 ≤ p.2.2.1 ∧ p.2.2.1 < y ∧ ∃ (k : Nat) (o : List Int), p.2.2.2.1 = (k : Int) - 1 ∧ k ≤ (x.getD []).length ∧ p.2.2.2.2 = some o ∧ o.length = (x.getD []).length ∧ Dig o ∧ nv (o.drop k) * y + p.2.2.1 = nv ((x.getD []).drop k)) (fun p => (p.2.2.2.1 + 1).toNat)
    ⟨rfl, rfl, Int.le_refl _, h0, (x.getD []).length, List.replicate (x.getD []).length 0, ?_, Nat.le_refl _, ?_, by simp, Dig.rep _, ?_⟩ ?_
  · show IntKind.wrap IntKind.i64 (((x.getD []).length : Int) - 1) = _; exact wi64 (by omega) (by omega)
  · show some (List.replicate (((x.getD []).length : Int)).toNat 0) = _; rw [Int.toNat_natCast]
  · rw [List.drop_of_length_le (by simp), List.drop_length]; simp [nv]
  rintro ⟨x', y', rest, i, out⟩ ⟨e1, e2, r0, r1, k, o, e3, hk, e4, hlo, hdo, hinv⟩
  have r0 : 0 ≤ rest := r0
  have r1 : rest < y := r1
  have hinv : nv (o.drop k) * y + rest = nv ((x.getD []).drop k) := hinv
  simp only at e1 e2 e3 e4; subst e1 e2 e3 e4
  refine brV_iff.2 ⟨fun hb => ?_, fun hb => ?_⟩
  · have hb : (0 : Int) ≤ (k : Int) - 1 := dec_t hb
    obtain ⟨j, rfl⟩ : ∃ j, k = j + 1 := ⟨k - 1, by omega⟩
    have ej : (((j + 1 : Nat) : Int) - 1).toNat = j := by omega
    have g := hx.get j
    refine ⟨⟨by dsimp only; omega, by dsimp only; omega⟩, ?_⟩
    have hd := s_Div32 (a := rest) (b := (x'.getD []).getD j 0) (c := y') r0 g.1 g.2 h1 r1
    simp only [eltS, ej]
    refine hd.mono ?_
    rintro _ rfl
    simp only
    have hm := Int.mul_ediv_add_emod (rest * 4294967296 + (x'.getD []).getD j 0) y'
    have hr0 := Int.emod_nonneg (rest * 4294967296 + (x'.getD []).getD j 0) (show y' ≠ 0 by omega)
    have hr1 := Int.emod_lt_of_pos (rest * 4294967296 + (x'.getD []).getD j 0) h0
    have hq0 : 0 ≤ (rest * 4294967296 + (x'.getD []).getD j 0) / y' := Int.ediv_nonneg (by omega) (by omega)
    have hq1 : (rest * 4294967296 + (x'.getD []).getD j 0) / y' < 4294967296 := by
      refine Int.ediv_lt_of_lt_mul h0 ?_
      have : (rest + 1) * 4294967296 ≤ y' * 4294967296 := by omega
      rw [Int.mul_comm 4294967296 y']; omega
    refine ⟨⟨by omega, by simp only [Option.getD_some]; omega⟩, ⟨trivial, trivial, hr0, hr1, j, o.set j ((rest * 4294967296 + (x'.getD []).getD j 0) / y'), ?_, by omega, ?_, by simp [hlo], hdo.set j hq0 hq1, ?_⟩, ?_⟩
    · show IntKind.wrap IntKind.i64 (((j + 1 : Nat) : Int) - 1 - 1) = (j : Int) - 1; rw [wi64 (by omega) (by omega)]; omega
    · rfl
    · show nv ((o.set j ((rest * 4294967296 + (x'.getD []).getD j 0) / y')).drop j) * y' + (rest * 4294967296 + (x'.getD []).getD j 0) % y' = nv ((x'.getD []).drop j)
      rw [drop_set_same (by omega), nv_drop (x'.getD []) j (by omega), ← hinv]
      simp only [nv]
      generalize (rest * 4294967296 + (x'.getD []).getD j 0) / y' = q at *
      generalize (rest * 4294967296 + (x'.getD []).getD j 0) % y' = r at *
      generalize nv (o.drop (j + 1)) = z at *
      grind
    · show (IntKind.wrap IntKind.i64 (((j + 1 : Nat) : Int) - 1 - 1) + 1).toNat < (((j + 1 : Nat) : Int) - 1 + 1).toNat; rw [wi64 (by omega) (by omega)]; omega
  · have hb : ¬ (0 : Int) ≤ (k : Int) - 1 := dec_f hb
    have : k = 0 := by omega
    subst this
    simp only [List.drop_zero] at hinv
    obtain ⟨q1, q2⟩ := divmod_of hinv r0 r1
    exact ⟨o, rfl, hdo, q1, by omega, q2⟩

end Go.Proofs.Pf

namespace Go.Proofs.Pf
open Go Go.VM

theorem or32 {x y : Int} (n : Nat) (hx : 0 ≤ x) (hxn : x < 2 ^ n) (hy : 0 ≤ y) (hxy : x + y * 2 ^ n < 4294967296) : bitI BinOp.or IntKind.u32 x (y * 2 ^ n) = x + y * 2 ^ n := by
  have hp : (0 : Int) < 2 ^ n := Int.pow_pos (by decide)
  have hyn : 0 ≤ y * 2 ^ n := Int.mul_nonneg hy (Int.le_of_lt hp)
  have hx64 : x < 2 ^ 32 := by omega
  have hy64 : y * 2 ^ n < 2 ^ 32 := by omega
  rw [bor32, BitVec.toNat_or, bvn 32 hx hx64, bvn 32 hyn hy64]
  have e : x.toNat ||| (y * 2 ^ n).toNat = x.toNat + (y * 2 ^ n).toNat := by
    have e1 : (y * 2 ^ n).toNat = 2 ^ n * y.toNat := by
      rw [Int.toNat_mul hy (Int.le_of_lt hp), Nat.mul_comm]
      congr 1
    rw [e1, Nat.or_comm, Nat.add_comm]
    refine (Nat.two_pow_add_eq_or_of_lt ?_ _).symm
    have : ((2 : Int) ^ n) = ((2 ^ n : Nat) : Int) := by simp
    omega
  rw [e, wu32m]
  omega

theorem take_set_ge {l : List Int} {i k : Nat} {x : Int} (h : k ≤ i) : (l.set i x).take k = l.take k := by
  rw [List.take_set, List.set_eq_of_length_le]
  simp; omega

theorem getD_set_same {l : List Int} {i : Nat} {x : Int} (h : i < l.length) : (l.set i x).getD i 0 = x := by
  simp [List.getD, h]
theorem getD_set_other {l : List Int} {i j : Nat} {x : Int} (h : i ≠ j) : (l.set i x).getD j 0 = l.getD j 0 := by
  simp [List.getD, List.getElem?_set_ne h]

theorem shl_digit {x : Int} {n : Nat} (h0 : 0 ≤ x) (h1 : x < 4294967296) (hn : n < 32) : ∃ y w : Int, x * 2 ^ n = y * 2 ^ n + 4294967296 * w ∧ 0 ≤ y ∧ y * 2 ^ n + 2 ^ n ≤ 4294967296 ∧ 0 ≤ w ∧ w < 2 ^ n ∧ (x * 2 ^ n) % 4294967296 = y * 2 ^ n ∧ (x * 2 ^ n) / 4294967296 = w := by
  have e : (4294967296 : Int) = 2 ^ (32 - n) * 2 ^ n := by rw [← Int.pow_add, show 32 - n + n = 32 by omega]; rfl
  have hp : (0 : Int) < 2 ^ n := Int.pow_pos (by decide)
  have hq : (0 : Int) < 2 ^ (32 - n) := Int.pow_pos (by decide)
  have hm0 := Int.emod_nonneg x (show (2 : Int) ^ (32 - n) ≠ 0 by omega)
  have hm1 := Int.emod_lt_of_pos x hq
  have hd := Int.mul_ediv_add_emod x (2 ^ (32 - n))
  have hd0 : 0 ≤ x / 2 ^ (32 - n) := Int.ediv_nonneg h0 (by omega)
  have hlt : x / 2 ^ (32 - n) < 2 ^ n := Int.ediv_lt_of_lt_mul hq (by rw [Int.mul_comm, ← e]; exact h1)
  generalize x % 2 ^ (32 - n) = y at *
  generalize x / 2 ^ (32 - n) = w at *
  have e1 : x * 2 ^ n = y * 2 ^ n + 4294967296 * w := by rw [← hd]; grind
  have e2 : y * 2 ^ n + 2 ^ n ≤ 4294967296 := by
    have : (y + 1) * 2 ^ n ≤ 2 ^ (32 - n) * 2 ^ n := Int.mul_le_mul_of_nonneg_right (by omega) (by omega)
    rw [← e, Int.add_mul] at this; omega
  have e3 : 0 ≤ y * 2 ^ n := Int.mul_nonneg hm0 (by omega)
  refine ⟨y, w, e1, hm0, e2, hd0, hlt, ?_, ?_⟩
  · rw [e1, Int.add_mul_emod_self_left, Int.emod_eq_of_lt e3 (by omega)]
  · rw [e1, Int.add_mul_ediv_left _ _ (by decide), Int.ediv_eq_zero_of_lt e3 (by omega)]; omega

/-- The digits of a product with a power of 2. -/
def ShiftOf (x : List Int) (n : Nat) (r : Option (List Int)) : Prop := ∃ l, r = some l ∧ Dig l ∧ nv l = nv x * 2 ^ n ∧ l.length = x.length + 1

theorem shift_step {x o : List Int} {n k : Nat} (hx : Dig x) (hn : n < 32) (hk : k < x.length) (hl : o.length = x.length + 1) (hd : Dig o) (hi : nv (o.take (k + 1)) = nv (x.take k) * 2 ^ n) (ho : o.getD k 0 < 2 ^ n) :
    bitI BinOp.or IntKind.u32 (o.getD k 0) (IntKind.wrap IntKind.u32 (shlI IntKind.u64 (IntKind.wrap IntKind.u64 (x.getD k 0)) (n : Int))) = o.getD k 0 + (x.getD k 0 * 2 ^ n) % 4294967296 ∧
    IntKind.wrap IntKind.u32 (shrI IntKind.u64 (shlI IntKind.u64 (IntKind.wrap IntKind.u64 (x.getD k 0)) (n : Int)) 32) = (x.getD k 0 * 2 ^ n) / 4294967296 ∧
    Dig ((o.set k (o.getD k 0 + (x.getD k 0 * 2 ^ n) % 4294967296)).set (k + 1) ((x.getD k 0 * 2 ^ n) / 4294967296)) ∧
    nv (((o.set k (o.getD k 0 + (x.getD k 0 * 2 ^ n) % 4294967296)).set (k + 1) ((x.getD k 0 * 2 ^ n) / 4294967296)).take (k + 2)) = nv (x.take (k + 1)) * 2 ^ n ∧
    ((o.set k (o.getD k 0 + (x.getD k 0 * 2 ^ n) % 4294967296)).set (k + 1) ((x.getD k 0 * 2 ^ n) / 4294967296)).getD (k + 1) 0 < 2 ^ n := by
  have g := hx.get k
  have go := hd.get k
  obtain ⟨y, w, q1, q2, q3, q4, q5, q6, q7⟩ := shl_digit g.1 g.2 hn
  have hp : (0 : Int) < 2 ^ n := Int.pow_pos (by decide)
  have hy0 : 0 ≤ y * 2 ^ n := Int.mul_nonneg q2 (by omega)
  have hn2 : (2 : Int) ^ n ≤ 2147483648 := by
    have e : (2147483648 : Int) = 2 ^ (31 - n) * 2 ^ n := by rw [← Int.pow_add, show 31 - n + n = 31 by omega]; rfl
    have : (0 : Int) < 2 ^ (31 - n) := Int.pow_pos (by decide)
    have : 1 * (2 : Int) ^ n ≤ 2 ^ (31 - n) * 2 ^ n := Int.mul_le_mul_of_nonneg_right (by omega) (by omega)
    omega
  have esh : shlI IntKind.u64 (IntKind.wrap IntKind.u64 (x.getD k 0)) (n : Int) = x.getD k 0 * 2 ^ n := by
    rw [wu64 g.1 (by omega), shl64 _ _ (by omega), Int.emod_eq_of_lt (by omega) (by omega)]
  rw [esh, q6, q7]
  refine ⟨?_, ?_, ?_, ?_, ?_⟩
  · rw [wu32m, q6]; exact or32 n go.1 ho q2 (by omega)
  · rw [shr64_32, q7]; exact wu32 q4 (by omega)
  · exact (hd.set k (by omega) (by omega)).set (k + 1) q4 (by omega)
  · rw [nv_take_succ', getD_set_same (by simp; omega), nv_take_succ', take_set_ge (by omega), take_set_ge (Nat.le_refl _), getD_set_other (by omega), getD_set_same (by omega), nv_take_succ' x]
    rw [nv_take_succ'] at hi
    rw [Int.add_mul, ← hi, Int.pow_succ]
    generalize o.getD k 0 = z at *
    generalize x.getD k 0 = v at *
    have : (4294967296 : Int) ^ k * v * 2 ^ n = 4294967296 ^ k * (y * 2 ^ n + 4294967296 * w) := by rw [← q1]; grind
    rw [this]
    generalize y * 2 ^ n = u at *
    grind
  · rw [getD_set_same (by simp; omega)]; exact q5

theorem shift_ex {x : List Int} {n : Nat} (hx : Dig x) (hn : n < 32) : ∃ r, ShiftOf x n r := by
  have h1 := nv_lt hx
  have h0 := nv_nonneg hx
  have hp : (0 : Int) < 2 ^ n := Int.pow_pos (by decide)
  have hn2 : (2 : Int) ^ n ≤ 4294967296 := by
    have e : (4294967296 : Int) = 2 ^ (32 - n) * 2 ^ n := by rw [← Int.pow_add, show 32 - n + n = 32 by omega]; rfl
    have : (0 : Int) < 2 ^ (32 - n) := Int.pow_pos (by decide)
    have : 1 * (2 : Int) ^ n ≤ 2 ^ (32 - n) * 2 ^ n := Int.mul_le_mul_of_nonneg_right (by omega) (by omega)
    omega
  obtain ⟨l, q1, q2, q3⟩ := digs_ex (x.length + 1) (nv x * 2 ^ n) (Int.mul_nonneg h0 (by omega)) (by
    rw [Int.pow_succ]
    have e1 : (nv x + 1) * 2 ^ n ≤ 4294967296 ^ x.length * 2 ^ n := Int.mul_le_mul_of_nonneg_right (by omega) (by omega)
    have e2 : (4294967296 : Int) ^ x.length * 2 ^ n ≤ 4294967296 ^ x.length * 4294967296 := Int.mul_le_mul_of_nonneg_left hn2 (by have := pow_pos32 x.length; omega)
    have e3 : (nv x + 1) * 2 ^ n = nv x * 2 ^ n + 2 ^ n := by rw [Int.add_mul, Int.one_mul]
    omega)
  exact ⟨some l, l, rfl, q1, q2, q3⟩

theorem s_shifted {x : Option (List Int)} {n : Nat} (hx : Dig (x.getD [])) (hn : n < 32) (hl : (x.getD []).length ≤ 1099511627776) : ownV Pg c_exact_shifted [⟨tD, x⟩, ⟨tI, (n : Int)⟩] tU fun r => ShiftOf (x.getD []) n r := by
  refine w_exact_shifted x (n : Int) (shift_ex hx hn) ⟨?_, ?_⟩
  · simp only [szSl]; rw [wi64 (by omega) (by omega)]; simp only [mkC]; omega
  refine loopE (fun p => p.1 = (n : Int) ∧ p.2.1 = x ∧ p.2.2.1 = ((x.getD []).length : Int) ∧ ∃ (k : Nat) (o : List Int), p.2.2.2.1 = k ∧ k ≤ (x.getD []).length ∧ p.2.2.2.2 = some o ∧ o.length = (x.getD []).length + 1 ∧ Dig o ∧ nv (o.take (k + 1)) = nv ((x.getD []).take k) * 2 ^ n ∧ o.getD k 0 < 2 ^ n) (fun p => ((x.getD []).length - p.2.2.2.1).toNat)
    ⟨rfl, rfl, rfl, 0, List.replicate ((x.getD []).length + 1) 0, rfl, by omega, ?_, by simp, Dig.rep _, ?_, ?_⟩ ?_
  · show some (List.replicate (IntKind.wrap IntKind.i64 (((x.getD []).length : Int) + 1)).toNat 0) = _
    rw [wi64 (by omega) (by omega)]; congr 2
  · simp [nv, List.replicate_succ]
  · have : (0 : Int) < 2 ^ n := Int.pow_pos (by decide)
    simpa [List.getD, List.replicate_succ] using this
  rintro ⟨n', x', len, i, out⟩ ⟨e1, e2, e3, k, o, e4, hk, e5, hlo, hdo, hi, ho⟩
  dsimp only at e1 e2 e3 e4 e5
  subst e1 e2 e3 e4 e5
  refine brV_iff.2 ⟨fun hb => ?_, fun hb => ?_⟩
  · have hb : (k : Int) < ((x'.getD []).length : Int) := dec_t hb
    obtain ⟨t1, t2, t3, t4, t5⟩ := shift_step hx hn (by omega) hlo hdo hi ho
    have ek : IntKind.wrap IntKind.i64 ((k : Int) + 1) = ((k + 1 : Nat) : Int) := by rw [wi64 (by omega) (by omega)]; omega
    simp only [inS, eltS, eltN, toN, ek, Int.toNat_natCast, Option.getD_some, t1, t2]
    refine ⟨⟨by omega, by omega⟩, by omega, ⟨by omega, by omega⟩, ⟨by omega, by omega⟩, by omega, ⟨by omega, ?_⟩, ⟨trivial, trivial, trivial, k + 1, _, rfl, by omega, rfl, by simp [hlo], t3, t4, t5⟩, ?_⟩
    · simp [setO]; omega
    · omega
  · have hb : ¬ (k : Int) < ((x'.getD []).length : Int) := dec_f hb
    have : k = (x'.getD []).length := by omega
    subst this
    rw [List.take_of_length_le (by omega), List.take_length] at hi
    exact ⟨o, rfl, hdo, hi, hlo⟩

end Go.Proofs.Pf

namespace Go.Proofs.Pf
open Go Go.VM

theorem mul_dig {p q z c : Int} (hp : 0 ≤ p) (hp' : p < 4294967296) (hq : 0 ≤ q) (hq' : q < 4294967296) (hz : 0 ≤ z) (hz' : z < 4294967296) (hc : 0 ≤ c) (hc' : c < 4294967296) :
    0 ≤ p * q + z + c ∧ p * q + z + c < 18446744073709551616 ∧ IntKind.wrap IntKind.u64 (c + IntKind.wrap IntKind.u64 (IntKind.wrap IntKind.u64 (IntKind.wrap IntKind.u64 p * IntKind.wrap IntKind.u64 q) + IntKind.wrap IntKind.u64 z)) = p * q + z + c := by
  have h0 : 0 ≤ p * q := Int.mul_nonneg hp hq
  have h1 : p * q ≤ 4294967295 * 4294967295 := Int.mul_le_mul (by omega) (by omega) hq (by omega)
  rw [wu64 hp (by omega), wu64 hq (by omega), wu64 hz (by omega)]
  generalize p * q = m at *
  rw [wu64 h0 (by omega), wu64 (x := m + z) (by omega) (by omega), wu64 (by omega) (by omega)]
  omega

/-- The state of a product. -/
structure MInv (x y : List Int) (i : Nat) (o : List Int) : Prop where
  len : o.length = x.length + y.length
  dig : Dig o
  val : nv o = nv (x.take i) * nv y
  zero : ∀ j, i + y.length ≤ j → o.getD j 0 = 0

structure MIn (x y : List Int) (i k : Nat) (c : Int) (o : List Int) : Prop where
  len : o.length = x.length + y.length
  dig : Dig o
  c0 : 0 ≤ c
  c1 : c < 4294967296
  val : nv o + 4294967296 ^ (i + k) * c = nv (x.take i) * nv y + 4294967296 ^ i * x.getD i 0 * nv (y.take k)
  zero : ∀ j, i + y.length ≤ j → o.getD j 0 = 0

theorem MIn.start {x y : List Int} {i : Nat} {o : List Int} (h : MInv x y i o) : MIn x y i 0 0 o := ⟨h.len, h.dig, Int.le_refl _, by decide, by simp [nv, h.val], h.zero⟩

theorem MIn.step {x y : List Int} {i k : Nat} {c : Int} {o : List Int} (hx : Dig x) (hy : Dig y) (hi : i < x.length) (hk : k < y.length) (h : MIn x y i k c o) :
    MIn x y i (k + 1) ((x.getD i 0 * y.getD k 0 + o.getD (i + k) 0 + c) / 4294967296) (o.set (i + k) ((x.getD i 0 * y.getD k 0 + o.getD (i + k) 0 + c) % 4294967296)) := by
  have gx := hx.get i
  have gy := hy.get k
  have go := h.dig.get (i + k)
  have hl := h.len
  obtain ⟨m1, m2, _⟩ := mul_dig gx.1 gx.2 gy.1 gy.2 go.1 go.2 h.c0 h.c1
  refine ⟨by simp [hl], h.dig.set _ (by omega) (by omega), by omega, by omega, ?_, fun j hj => ?_⟩
  · rw [nv_set _ _ _ (by omega), nv_take_succ']
    have hv := h.val
    have hdm := Int.emod_add_mul_ediv (x.getD i 0 * y.getD k 0 + o.getD (i + k) 0 + c) 4294967296
    generalize (x.getD i 0 * y.getD k 0 + o.getD (i + k) 0 + c) % 4294967296 = d at *
    generalize (x.getD i 0 * y.getD k 0 + o.getD (i + k) 0 + c) / 4294967296 = e at *
    have e1 : (4294967296 : Int) ^ (i + (k + 1)) = 4294967296 ^ (i + k) * 4294967296 := by rw [← Nat.add_assoc, Int.pow_succ]
    have e2 : (4294967296 : Int) ^ (i + k) = 4294967296 ^ i * 4294967296 ^ k := Int.pow_add ..
    rw [e1]
    rw [e2] at hv ⊢
    generalize (4294967296 : Int) ^ i = bi at *
    generalize (4294967296 : Int) ^ k = bk at *
    grind
  · rw [getD_set_other (by omega)]; exact h.zero j hj

theorem MIn.fin {x y : List Int} {i : Nat} {c : Int} {o : List Int} (hi : i < x.length) (h : MIn x y i y.length c o) : MInv x y (i + 1) (o.set (i + y.length) c) := by
  have hl := h.len
  refine ⟨by simp [hl], h.dig.set _ h.c0 h.c1, ?_, fun j hj => ?_⟩
  · rw [nv_set _ _ _ (by omega), h.zero _ (Nat.le_refl _), nv_take_succ']
    have hv := h.val
    rw [List.take_length] at hv
    grind
  · rw [getD_set_other (by omega)]; exact h.zero j (by omega)

theorem sgn_mul (n m : Int) : sgn (n * m) = sgn n * sgn m := by
  rcases sgn3 n with ⟨e1, h1⟩ | ⟨e1, h1⟩ | ⟨e1, h1⟩ <;> rcases sgn3 m with ⟨e2, h2⟩ | ⟨e2, h2⟩ | ⟨e2, h2⟩ <;> rw [e1, e2]
  · have := Int.mul_pos h1 h2; rw [sgn, if_pos this]; rfl
  · have := Int.mul_neg_of_pos_of_neg h1 h2; rw [sgn, if_neg (by omega), if_pos this]; rfl
  · rw [h2]; simp [sgn]
  · have := Int.mul_neg_of_neg_of_pos h1 h2; rw [sgn, if_neg (by omega), if_pos this]; rfl
  · have := Int.mul_pos_of_neg_of_neg h1 h2; rw [sgn, if_pos this]; rfl
  · rw [h2]; simp [sgn]
  · rw [h1]; simp [sgn]
  · rw [h1]; simp [sgn]
  · rw [h1]; simp [sgn]

theorem sgn_abs (n : Int) : sgn n * n.natAbs = n := by
  rcases sgn3 n with ⟨e1, h1⟩ | ⟨e1, h1⟩ | ⟨e1, h1⟩ <;> rw [e1] <;> omega

theorem sgn_cases (n : Int) : sgn n = 1 ∨ sgn n = -1 ∨ (sgn n = 0 ∧ n = 0) := by
  rcases sgn3 n with ⟨e1, h1⟩ | ⟨e1, h1⟩ | ⟨e1, h1⟩
  · exact .inl e1
  · exact .inr (.inl e1)
  · exact .inr (.inr ⟨e1, h1⟩)

theorem s_Mul {x y : Int × Option (List Int)} {n m : Int} {k j : Nat} (hx : IV x n) (hy : IV y m) (fx : Fit k n) (fy : Fit j m) (hk : k ≤ 1073741824) (hj : j ≤ 1073741824) : callV Pg c_exact_Int_Mul [⟨tEI, x⟩, ⟨tEI, y⟩] tEI fun r => IV r (n * m) := by
  refine w_exact_Int_Mul x y (IV_ex _) (joinR (fun p => p = (Option.isNone x.2 && Option.isNone y.2, x, y, (0 : Int), none)) ?_ ?_)
  · rintro _ rfl
    refine joinR (fun p => p = (x, y, (0 : Int), none)) ?_ ?_
    · rintro _ rfl
      dsimp only
      refine (s_digits hx).mono ?_
      rintro ⟨s, d, _⟩ ⟨e1, X, e2, d1, t1, v1⟩
      dsimp only at e1 e2; subst e1 e2
      refine (s_digits hy).mono ?_
      rintro ⟨s, d, _⟩ ⟨e1, Y, e2, d2, t2, v2⟩
      dsimp only at e1 e2; subst e1 e2
      have l1 := t1.fit d1 fx v1
      have l2 := t2.fit d2 fy v2
      have el : IntKind.wrap IntKind.i64 ((X.length : Int) + (Y.length : Int)) = (X.length : Int) + (Y.length : Int) := wi64 (by omega) (by omega)
      refine ⟨?_, ?_⟩
      · show mkC 4 (IntKind.wrap IntKind.i64 ((X.length : Int) + (Y.length : Int))) (IntKind.wrap IntKind.i64 ((X.length : Int) + (Y.length : Int)))
        rw [el]; simp only [mkC]; omega
      refine loopE (fun p => ∃ (i : Nat) (o : List Int), i ≤ X.length ∧ MInv X Y i o ∧ p = (sgn n, sgn m, some Y, some X, (X.length : Int), (i : Int), ((0 : Int), none), some o)) (fun p => ((X.length : Int) - p.2.2.2.2.2.1).toNat) ⟨0, List.replicate (X.length + Y.length) 0, by omega, ⟨by simp, Dig.rep _, by rw [nv_rep]; simp [nv], fun j _ => ?_⟩, ?_⟩ ?_
      · simp only [List.getD, List.getElem?_replicate]; split <;> rfl
      · show (sgn n, sgn m, some Y, some X, (X.length : Int), (0 : Int), ((0 : Int), none), some (List.replicate (IntKind.wrap IntKind.i64 ((X.length : Int) + (Y.length : Int))).toNat 0)) = _
        rw [el]
        have : ((X.length : Int) + (Y.length : Int)).toNat = X.length + Y.length := by omega
        rw [this]; rfl
      rintro _ ⟨i, o, hi, hI, rfl⟩
      refine brV_iff.2 ⟨fun hb => ?_, fun hb => ?_⟩
      · have hb : (i : Int) < (X.length : Int) := dec_t hb
        refine ⟨⟨by dsimp only; omega, by dsimp only [Option.getD_some]; omega⟩, ?_⟩
        dsimp only
        simp only [eltS, Option.getD_some, Int.toNat_natCast, szSl]
        refine loopE (fun p => ∃ (k : Nat) (c : Int) (o : List Int), k ≤ Y.length ∧ MIn X Y i k c o ∧ p = (sgn n, sgn m, some Y, (i : Int), X.getD i 0, c, some X, (X.length : Int), (i : Int), some Y, (Y.length : Int), (k : Int), ((0 : Int), none), some o)) (fun p => ((Y.length : Int) - p.2.2.2.2.2.2.2.2.2.2.2.1).toNat) ⟨0, 0, o, by omega, MIn.start hI, rfl⟩ ?_
        rintro _ ⟨k, c, o, hk', hM, rfl⟩
        have hl := hM.len
        refine brV_iff.2 ⟨fun hc => ?_, fun hc => ?_⟩
        · have hc : (k : Int) < (Y.length : Int) := dec_t hc
          have ei : IntKind.wrap IntKind.i64 ((i : Int) + (k : Int)) = ((i + k : Nat) : Int) := by rw [wi64 (by omega) (by omega)]; omega
          have ek : IntKind.wrap IntKind.i64 ((k : Int) + 1) = ((k + 1 : Nat) : Int) := by rw [wi64 (by omega) (by omega)]; omega
          have gx := d1.get i
          have gy := d2.get k
          have go := hM.dig.get (i + k)
          obtain ⟨m1, m2, m3⟩ := mul_dig gx.1 gx.2 gy.1 gy.2 go.1 go.2 hM.c0 hM.c1
          have hst := hM.step d1 d2 (by omega) (by omega)
          simp only [inS, eltN, toN, Option.getD_some, Int.toNat_natCast, ei, ek, m3, shr64_32, wu32m]
          refine ⟨⟨by omega, by omega⟩, ⟨by omega, by omega⟩, ⟨by omega, by omega⟩, by omega, ⟨k + 1, _, _, by omega, hst, rfl⟩, by omega⟩
        · have hc : ¬ (k : Int) < (Y.length : Int) := dec_f hc
          have : k = Y.length := by omega
          subst this
          have ei : IntKind.wrap IntKind.i64 ((i : Int) + (Y.length : Int)) = ((i + Y.length : Nat) : Int) := by rw [wi64 (by omega) (by omega)]; omega
          have ek : IntKind.wrap IntKind.i64 ((i : Int) + 1) = ((i + 1 : Nat) : Int) := by rw [wi64 (by omega) (by omega)]; omega
          have hf := hM.fin (by omega)
          simp only [inS, toN, Option.getD_some, Int.toNat_natCast, ei, ek, wu32 hM.c0 hM.c1]
          refine ⟨⟨by omega, by omega⟩, ⟨i + 1, _, by omega, hf, rfl⟩, by omega⟩
      · have hb : ¬ (i : Int) < (X.length : Int) := dec_f hb
        have : i = X.length := by omega
        subst this
        have hv := hI.val
        rw [List.take_length, v1, v2] at hv
        have es : IntKind.wrap IntKind.i64 (sgn n * sgn m) = sgn (n * m) := by
          rw [sgn_mul]
          rcases sgn_cases n with e1 | e1 | ⟨e1, _⟩ <;> rcases sgn_cases m with e2 | e2 | ⟨e2, _⟩ <;> rw [e1, e2] <;> rfl
        dsimp only
        rw [es]
        have hln := hI.len
        refine (s_made (b := some o) hI.dig ?_ (by simp only [Option.getD_some]; omega)).mono ?_
        · rcases sgn_cases (n * m) with e | e | ⟨e, e0⟩
          · exact .inl e
          · exact .inr (.inl e)
          · refine .inr (.inr ⟨e, ?_⟩)
            rw [Option.getD_some, hv]
            rcases Int.mul_eq_zero.1 e0 with rfl | rfl <;> simp
        · intro r hr
          rw [Option.getD_some, hv] at hr
          have : sgn (n * m) * ((n.natAbs : Int) * (m.natAbs : Int)) = n * m := by
            have := sgn_abs (n * m)
            rw [Int.natAbs_mul] at this
            simpa using this
          rw [this] at hr
          exact hr
    · intro k1 hk1
      refine brV_iff.2 ⟨fun h => ?_, fun h => hk1 _ rfl⟩
      obtain ⟨v, d⟩ := x
      obtain ⟨w, e⟩ := y
      simp only [Bool.and_eq_true, Option.isNone_iff_eq_none] at h
      obtain ⟨rfl, rfl⟩ := h
      have hx' := hx
      have hy' := hy
      obtain ⟨rfl, h1, h2⟩ := hx
      obtain ⟨rfl, h3, h4⟩ := hy
      dsimp only at h1 h2 h3 h4 hk1 hx' hy' ⊢
      have ab : ∀ v : Int, -4611686018427387904 < v → v < 4611686018427387904 → IntKind.wrap IntKind.u64 (maxI v (IntKind.wrap IntKind.i64 (0 - v))) = (v.natAbs : Int) := by
        intro v h1 h2
        rw [wi64 (by omega) (by omega)]
        unfold maxI
        split
        · rw [wu64 (by omega) (by omega)]; omega
        · rw [wu64 (by omega) (by omega)]; omega
      rw [ab v h1 h2, ab w h3 h4]
      have hp : (v.natAbs : Int) * (w.natAbs : Int) = ((v * w).natAbs : Int) := by rw [Int.natAbs_mul]; simp
      refine (s_Mul64 (by omega) (by omega) (by omega) (by omega)).mono ?_
      rintro _ rfl
      rw [hp]
      refine joinR (fun p => ∃ b : Bool, p = (((v * w).natAbs : Int) % 18446744073709551616, b, (v, none), (w, none), (0 : Int), none) ∧ (b = true → ((v * w).natAbs : Int) < 4611686018427387904)) ?_ ?_
      · rintro _ ⟨b, rfl, hb⟩
        refine brV_iff.2 ⟨fun h => ?_, fun h => hk1 _ rfl⟩
        have hb := hb h
        refine (s_Sign hx').mono ?_
        rintro _ rfl
        refine (s_Sign hy').mono ?_
        rintro _ rfl
        dsimp only
        have es : IntKind.wrap IntKind.i64 (sgn v * sgn w) = sgn (v * w) := by
          rw [sgn_mul]
          rcases sgn_cases v with e1 | e1 | ⟨e1, _⟩ <;> rcases sgn_cases w with e2 | e2 | ⟨e2, _⟩ <;> rw [e1, e2] <;> rfl
        rw [es, Int.emod_eq_of_lt (by omega) (by omega), wi64 (x := ((v * w).natAbs : Int)) (by omega) (by omega), sgn_abs, wi64 (by omega) (by omega)]
        exact ⟨rfl, by omega, by omega⟩
      · intro k hk
        refine brV_iff.2 ⟨fun h => ?_, fun h => ?_⟩
        · have h : ((v * w).natAbs : Int) / 18446744073709551616 = 0 := dec_t h
          refine hk _ ⟨_, rfl, fun hb => ?_⟩
          have hb : ((v * w).natAbs : Int) % 18446744073709551616 < 4611686018427387904 := dec_t hb
          omega
        · exact hk _ ⟨false, rfl, fun hb => by simp at hb⟩
  · intro k hk
    refine brV_iff.2 ⟨fun h => hk _ (by rw [h]; rfl), fun h => hk _ (by rw [h]; rfl)⟩

end Go.Proofs.Pf

namespace Go.Proofs.Pf
open Go Go.VM

/-- A quotient and a rest, as digits. -/
def LongOf (x y : List Int) (r : Option (List Int) × Option (List Int) × Unit) : Prop :=
  (∃ l, r.1 = some l ∧ Dig l ∧ nv l = nv x / nv y ∧ l.length ≤ x.length + 1) ∧ ∃ l, r.2.1 = some l ∧ Dig l ∧ nv l = nv x % nv y ∧ l.length ≤ y.length

def LongS : Prop := ∀ (x y : List Int), Dig x → Dig y → Trm y → 2 ≤ y.length → y.length ≤ x.length → x.length ≤ 1073741824 →
  callV Pg c_exact_long [⟨tD, some x⟩, ⟨tD, some y⟩] (.tup (.pair tD (.pair tD .unit))) fun r => LongOf x y r

/-- The quotient toward 0 and the rest. -/
def QuoOf (n m : Int) (r : (Int × Option (List Int)) × (Int × Option (List Int)) × Unit) : Prop := IV r.1 (n.tdiv m) ∧ IV r.2.1 (n.tmod m)

theorem quo_sgn (n m : Int) (hm : m ≠ 0) : sgn n * sgn m * ((n.natAbs : Int) / (m.natAbs : Int)) = n.tdiv m ∧ sgn n * ((n.natAbs : Int) % (m.natAbs : Int)) = n.tmod m := by
  have hn := sgn3 n
  have hm' := sgn3 m
  have key : ∀ a b : Int, 0 ≤ a → a.tdiv b = a / b ∧ a.tmod b = a % b := fun a b h => ⟨Int.tdiv_eq_ediv_of_nonneg h, Int.tmod_eq_emod_of_nonneg h⟩
  rcases hn with ⟨e1, h1⟩ | ⟨e1, h1⟩ | ⟨e1, h1⟩ <;> rcases hm' with ⟨e2, h2⟩ | ⟨e2, h2⟩ | ⟨e2, h2⟩ <;> rw [e1, e2]
  · rw [show (n.natAbs : Int) = n by omega, show (m.natAbs : Int) = m by omega, (key n m (by omega)).1, (key n m (by omega)).2]; omega
  · rw [show (n.natAbs : Int) = n by omega, show (m.natAbs : Int) = -m by omega]
    obtain ⟨m', rfl⟩ : ∃ m', m = -m' := ⟨-m, by omega⟩
    rw [Int.tdiv_neg, Int.tmod_neg, Int.neg_neg, (key n m' (by omega)).1, (key n m' (by omega)).2]; omega
  · exact absurd h2 hm
  · obtain ⟨n', rfl⟩ : ∃ n', n = -n' := ⟨-n, by omega⟩
    rw [show ((-n').natAbs : Int) = n' by omega, show (m.natAbs : Int) = m by omega]
    rw [Int.neg_tdiv, Int.neg_tmod, (key n' m (by omega)).1, (key n' m (by omega)).2]; omega
  · obtain ⟨n', rfl⟩ : ∃ n', n = -n' := ⟨-n, by omega⟩
    obtain ⟨m', rfl⟩ : ∃ m', m = -m' := ⟨-m, by omega⟩
    rw [show ((-n').natAbs : Int) = n' by omega, show ((-m').natAbs : Int) = m' by omega]
    rw [Int.neg_tdiv, Int.neg_tmod, Int.tdiv_neg, Int.tmod_neg, (key n' m' (by omega)).1, (key n' m' (by omega)).2]; omega
  · exact absurd h2 hm
  all_goals (subst h1; simp)

theorem cmpI_neg {a b : Int} : cmpI a b < 0 ↔ a < b := by
  unfold cmpI; split
  · constructor <;> intro <;> omega
  · split <;> constructor <;> intro <;> omega

theorem s_Quo (hlong : LongS) {x y : Int × Option (List Int)} {n m : Int} {k : Nat} (hx : IV x n) (hy : IV y m) (hm : m ≠ 0) (fx : Fit k n) (hk : k ≤ 1073741824) : callV Pg c_exact_Int_Quo [⟨tEI, x⟩, ⟨tEI, y⟩] (.tup (.pair tEI (.pair tEI .unit))) fun r => QuoOf n m r := by
  obtain ⟨y1, y2⟩ := quo_sgn n m hm
  refine w_exact_Int_Quo x y ?_ (joinR (fun p => p = (Option.isNone x.2 && Option.isNone y.2, x, y, ((0 : Int), none), ((0 : Int), none))) ?_ ?_)
  · obtain ⟨r1, h1⟩ := IV_ex (n.tdiv m)
    obtain ⟨r2, h2⟩ := IV_ex (n.tmod m)
    exact ⟨(r1, r2, ()), h1, h2⟩
  · rintro _ rfl
    refine brV_iff.2 ⟨fun h => ?_, fun _ => ?_⟩
    · obtain ⟨v, d⟩ := x
      obtain ⟨w, e⟩ := y
      simp only [Bool.and_eq_true, Option.isNone_iff_eq_none] at h
      obtain ⟨rfl, rfl⟩ := h
      obtain ⟨rfl, h1, h2⟩ := hx
      obtain ⟨rfl, h3, h4⟩ := hy
      dsimp only at h1 h2 h3 h4 hm ⊢
      have q1 : (v.tdiv w).natAbs ≤ v.natAbs := by rw [Int.natAbs_tdiv]; exact Nat.div_le_self _ _
      have q2 : (v.tmod w).natAbs ≤ v.natAbs := by rw [Int.natAbs_tmod]; exact Nat.mod_le _ _
      refine ⟨hm, hm, ⟨?_, by omega, by omega⟩, rfl, by omega, by omega⟩
      exact wi64 (by omega) (by omega)
    · dsimp only
      refine (s_digits hx).mono ?_
      rintro ⟨s, d, _⟩ ⟨e1, X, e2, d1, t1, v1⟩
      dsimp only at e1 e2; subst e1 e2
      refine (s_digits hy).mono ?_
      rintro ⟨s, d, _⟩ ⟨e1, Y, e2, d2, t2, v2⟩
      dsimp only at e1 e2; subst e1 e2
      have l1 := t1.fit d1 fx v1
      have hY : Y ≠ [] := by rintro rfl; simp only [nv] at v2; omega
      refine (s_compare (a := some X) (b := some Y) d1 d2 t1 t2 (by simp only [Option.getD_some]; omega)).mono ?_
      rintro _ rfl
      simp only [Option.getD_some]
      refine brV_iff.2 ⟨fun h => ?_, fun h => ?_⟩
      · have h : cmpI (nv X) (nv Y) < 0 := dec_t h
        rw [cmpI_neg, v1, v2] at h
        rw [Int.ediv_eq_zero_of_lt (by omega) h, Int.mul_zero] at y1
        rw [Int.emod_eq_of_lt (by omega) h, sgn_abs] at y2
        refine ⟨?_, ?_⟩
        · rw [← y1]; exact ⟨rfl, by decide, by decide⟩
        · rw [← y2]; exact hx
      · have h : ¬ cmpI (nv X) (nv Y) < 0 := dec_f h
        rw [cmpI_neg] at h
        have hsn : ¬ sgn n = 0 := by intro e; have := sgn_z e; subst this; simp at v1; omega
        have es : IntKind.wrap IntKind.i64 (sgn n * sgn m) = sgn n * sgn m := by
          rcases sgn_cases n with e1 | e1 | ⟨e1, _⟩ <;> rcases sgn_cases m with e2 | e2 | ⟨e2, _⟩ <;> rw [e1, e2] <;> rfl
        have es2 : ∀ l : List Int, sgn n * sgn m = 1 ∨ sgn n * sgn m = -1 ∨ (sgn n * sgn m = 0 ∧ nv l = 0) := by
          intro l
          rcases sgn_cases n with e1 | e1 | ⟨e1, _⟩ <;> rcases sgn_cases m with e2 | e2 | ⟨_, e2⟩
          all_goals first | exact absurd e2 hm | exact absurd e1 hsn | (rw [e1, e2]; simp)
        -- what is made of the digits
        have fin : ∀ (q : Int × Option (List Int)) (r : Int × Option (List Int)) (A B : List Int), nv A = nv X / nv Y → nv B = nv X % nv Y → IV q (sgn n * sgn m * nv A) → IV r (sgn n * nv B) → QuoOf n m (q, r, ()) := by
          intro q r A B hA hB hq hr
          rw [hA, v1, v2, y1] at hq
          rw [hB, v1, v2, y2] at hr
          exact ⟨hq, hr⟩
        rw [es]
        refine brV_iff.2 ⟨fun h2 => ?_, fun h2 => ?_⟩
        · have h2 : (Y.length : Int) = 1 := dec_t h2
          obtain ⟨y0, rfl⟩ : ∃ y0, Y = [y0] := by
            rcases Y with _ | ⟨y0, _ | ⟨_, _⟩⟩
            · exact absurd rfl hY
            · exact ⟨y0, rfl⟩
            · simp at h2; omega
          have g := d2 y0 (by simp)
          have hy0 : y0 ≠ 0 := t2 y0 rfl
          refine ⟨⟨by omega, by simp⟩, (s_short (x := some X) (y := y0) d1 (by omega) g.2 (by simp only [Option.getD_some]; omega)).mono ?_⟩
          rintro ⟨q, r, _⟩ ⟨l, e1, q1, q2, q3, e2⟩
          dsimp only [Option.getD_some] at e1 e2 q2 q3; subst e1 e2
          have ny : nv [y0] = y0 := by simp [nv]
          have hr0 := Int.emod_nonneg (nv X) hy0
          have hr1 := Int.emod_lt_of_pos (nv X) (show 0 < y0 by omega)
          refine (s_made (b := some l) q1 (es2 _) (by simp only [Option.getD_some]; omega)).mono ?_
          intro p5 hp5
          refine (s_made (b := some [nv X % y0]) (Dig.cons hr0 (by omega) Dig.nil) (sgn_ne hsn) (by simp)).mono ?_
          intro p6 hp6
          exact fin p5 p6 l [nv X % y0] (by rw [ny]; exact q2) (by rw [ny]; simp [nv]) hp5 hp6
        · have h2 : ¬ (Y.length : Int) = 1 := dec_f h2
          have hl2 : Y.length ≠ 0 := fun e => hY (List.eq_nil_of_length_eq_zero e)
          have hle : Y.length ≤ X.length := by
            rcases Nat.lt_or_ge X.length Y.length with hl | hl
            · have := nv_lt_len d1 d2 t2 hl; omega
            · exact hl
          refine (hlong X Y d1 d2 t2 (by omega) hle (by omega)).mono ?_
          rintro ⟨q, r, _⟩ ⟨⟨A, e1, q1, q2, q3⟩, B, e2, r1, r2, r3⟩
          dsimp only at e1 e2; subst e1 e2
          refine (s_made (b := some A) q1 (es2 _) (by simp only [Option.getD_some]; omega)).mono ?_
          intro p5 hp5
          refine (s_made (b := some B) r1 (sgn_ne hsn) (by simp only [Option.getD_some]; omega)).mono ?_
          intro p6 hp6
          exact fin p5 p6 A B q2 r2 hp5 hp6
  · intro k hk
    refine brV_iff.2 ⟨fun h => hk _ (by rw [h]; rfl), fun h => hk _ (by rw [h]; rfl)⟩

def ival (x : Int × Option (List Int)) : Int :=
  match x.2 with
  | none => x.1
  | some l => x.1 * nv l

theorem IV.val {x : Int × Option (List Int)} {n : Int} (h : IV x n) : ival x = n := by
  obtain ⟨v, d⟩ := x
  cases d with
  | none => exact h.1
  | some l =>
    obtain ⟨_, _, _, h4⟩ := h
    show v * nv l = n
    rcases h4 with ⟨e1, e2⟩ | ⟨e1, e2⟩
    · have e1 : v = 1 := e1
      rw [e1, e2]; omega
    · have e1 : v = -1 := e1
      rw [e1, e2]; omega

theorem s_Gcd (hlong : LongS) {x y : Int × Option (List Int)} {n m : Int} {k : Nat} (hx : IV x n) (hy : IV y m) (fx : Fit k n) (fy : Fit k m) (hk : k ≤ 1073741824) : callV Pg c_exact_Gcd [⟨tEI, x⟩, ⟨tEI, y⟩] tEI fun r => IV r (Int.gcd n m : Int) := by
  refine w_exact_Gcd x y (IV_ex _) ((s_Abs hx).mono fun p0 h0 => (s_Abs hy).mono fun p1 h1 => ?_)
  refine loopE (fun p => ∃ a b : Nat, IV p.1 (a : Int) ∧ IV p.2.1 (b : Int) ∧ Nat.gcd a b = Int.gcd n m ∧ Fit k (a : Int) ∧ Fit k (b : Int)) (fun p => (ival p.2.1).natAbs) ⟨n.natAbs, m.natAbs, h0, h1, rfl, fx.of (by simp), fy.of (by simp)⟩ ?_
  rintro ⟨A, B, z⟩ ⟨a, b, ha, hb, hg, fa, fb⟩
  dsimp only at ha hb ⊢
  refine (s_Sign hb).mono ?_
  rintro _ rfl
  refine brV_iff.2 ⟨fun h => ?_, fun h => ?_⟩
  · have h : ¬ sgn (b : Int) = 0 := not_t h
    have hb0 : b ≠ 0 := by rintro rfl; exact h rfl
    refine (s_Quo hlong ha hb (by omega) fa hk).mono ?_
    rintro ⟨q, r, _⟩ ⟨_, hr⟩
    dsimp only at hr ⊢
    have e : (a : Int).tmod (b : Int) = ((a % b : Nat) : Int) := by rw [Int.tmod_eq_emod_of_nonneg (by omega)]; simp
    rw [e] at hr
    have hlt : a % b < b := Nat.mod_lt _ (by omega)
    refine ⟨⟨b, a % b, hb, hr, ?_, fb, fb.of (by omega)⟩, ?_⟩
    · rw [← hg, Nat.gcd_comm b, ← Nat.gcd_rec b a, Nat.gcd_comm]
    · rw [hr.val, hb.val]; omega
  · have h : sgn (b : Int) = 0 := not_f h
    have hb0 : b = 0 := by have := sgn_z h; omega
    subst hb0
    rw [← hg, Nat.gcd_zero_right]; exact ha

end Go.Proofs.Pf

namespace Go.Proofs.Pf
open Go Go.VM

abbrev OL := Option (List Int)

/-- Between two digits of the quotient. -/
structure LInv (n : Nat) (v u0 : List Int) (p : Int × OL × Int × Int × OL × OL) (K : Nat) (u o : List Int) : Prop where
  en : p.1 = n
  ev : p.2.1 = some v
  em : p.2.2.1 = (v.length : Int)
  ek : p.2.2.2.1 = (K : Int) - 1
  eu : p.2.2.2.2.1 = some u
  eo : p.2.2.2.2.2 = some o
  ul : u.length = u0.length
  ud : Dig u
  ol : o.length = u0.length - v.length
  od : Dig o
  oz : ∀ j, j < K → o.getD j 0 = 0
  kl : K ≤ u0.length - v.length
  val : nv u0 = nv o * nv v + nv u
  lt : nv u < nv v * 4294967296 ^ K

theorem len_of {l : List Int} (hd : Dig l) (ht : Trm l) {k : Nat} (h1 : 4294967296 ^ k ≤ nv l) (h2 : nv l < 4294967296 ^ (k + 1)) : l.length = k + 1 := by
  have hne : l ≠ [] := by rintro rfl; simp only [nv] at h1; have := pow_pos32 k; omega
  have h3 := ht.ge hd hne
  have h4 := nv_lt hd
  have h5 : l.length ≠ 0 := fun e => hne (List.eq_nil_of_length_eq_zero e)
  rcases Nat.lt_or_ge l.length (k + 1) with h | h
  · have := pow_mono32 (show l.length ≤ k by omega); omega
  · rcases Nat.lt_or_ge (k + 1) l.length with h' | h'
    · have := pow_mono32 (show k + 1 ≤ l.length - 1 by omega); omega
    · omega

theorem long_ex {x y : List Int} (dx : Dig x) (dy : Dig y) (hy : 0 < nv y) : ∃ r, LongOf x y r := by
  have hx := nv_nonneg dx
  obtain ⟨a, a1, a2, a3⟩ := nv_ex ((nv x / nv y).toNat + 1) (nv x / nv y).toNat (by omega)
  obtain ⟨b, b1, b2, b3⟩ := nv_ex ((nv x % nv y).toNat + 1) (nv x % nv y).toNat (by omega)
  have h0 : 0 ≤ nv x / nv y := Int.ediv_nonneg hx (by omega)
  have h1 := Int.emod_nonneg (nv x) (show nv y ≠ 0 by omega)
  have h2 := Int.emod_lt_of_pos (nv x) hy
  have h3 : nv x / nv y ≤ nv x := Int.ediv_le_self _ hx
  have e1 : nv a = nv x / nv y := by omega
  have e2 : nv b = nv x % nv y := by omega
  refine ⟨(some a, some b, ()), ⟨a, rfl, a1, e1, ?_⟩, b, rfl, b1, e2, ?_⟩
  · have := a2.fit a1 (k := x.length) (n := nv a) ((fit_nv dx).of (by omega)) (by omega); omega
  · exact b2.fit b1 (k := y.length) (n := nv b) ((fit_nv dy).of (by omega)) (by omega)

theorem getLast_getD {l : List Int} (h : l ≠ []) : l.getLast? = some (l.getD (l.length - 1) 0) := by
  rw [List.getLast?_eq_some_getLast h, List.getLast_eq_getElem]
  have : 0 < l.length := List.length_pos_iff.2 h
  simp [List.getD, show l.length - 1 < l.length by omega]

set_option maxHeartbeats 4000000 in
theorem longS : LongS := by
  intro x y dx dy ty hy hxy hl
  have hyn : y ≠ [] := by rintro rfl; simp at hy
  have gy := dy.get (y.length - 1)
  have gy0 : y.getD (y.length - 1) 0 ≠ 0 := ty _ (getLast_getD hyn)
  have hyp : 0 < nv y := by have := ty.ge dy hyn; have := pow_pos32 (y.length - 1); omega
  have ew : IntKind.wrap IntKind.i64 (szSl (some y) - 1) = ((y.length - 1 : Nat) : Int) := by
    simp only [szSl, Option.getD_some]; rw [wi64 (by omega) (by omega)]; omega
  refine w_exact_long (some x) (some y) (long_ex dx dy hyp) ?_
  rw [ew]
  refine ⟨by simp only [inS, Option.getD_some]; omega, ?_⟩
  have ee : eltS (0 : Int) (some y) ((y.length - 1 : Nat) : Int) = y.getD (y.length - 1) 0 := by simp only [eltS, Option.getD_some, Int.toNat_natCast]
  rw [ee]
  refine (s_LeadingZeros32 (by omega) gy.2).mono ?_
  rintro _ ⟨n, rfl, hn, s1, s2⟩
  refine (s_shifted (x := some x) (n := n) dx hn (by simp only [Option.getD_some]; omega)).mono ?_
  rintro _ ⟨u0, rfl, du, vu, lu⟩
  refine (s_shifted (x := some y) (n := n) dy hn (by simp only [Option.getD_some]; omega)).mono ?_
  rintro _ ⟨v0, rfl, dv0, vv0, lv0⟩
  simp only [Option.getD_some] at vu lu vv0 lv0
  refine (s_trim (a := some v0) (by simp only [Option.getD_some]; omega)).mono ?_
  obtain ⟨v, hv⟩ : ∃ v, v = trim v0 := ⟨_, rfl⟩
  intro p3 hp3
  obtain rfl : p3 = some v := by rw [hp3, hv]; rfl
  clear hp3
  have dv : Dig v := hv ▸ dv0.trim
  have tv : Trm v := hv ▸ trm_trim v0
  have vv : nv v = nv y * 2 ^ n := by rw [hv, nv_trim, vv0]
  clear hv vv0 lv0 dv0
  -- how long the divisor is
  obtain ⟨m, hm⟩ : ∃ m, y.length = m + 2 := ⟨y.length - 2, by omega⟩
  have hp2 : (0 : Int) < 2 ^ n := Int.pow_pos (by decide)
  have hP := pow_pos32 m
  have n31 : (2 : Int) ^ n ≤ 2147483648 := by
    have e : (2147483648 : Int) = 2 ^ (31 - n) * 2 ^ n := by rw [← Int.pow_add, show 31 - n + n = 31 by omega]; rfl
    have : (0 : Int) < 2 ^ (31 - n) := Int.pow_pos (by decide)
    have : 1 * (2 : Int) ^ n ≤ 2 ^ (31 - n) * 2 ^ n := Int.mul_le_mul_of_nonneg_right (by omega) (by omega)
    omega
  obtain ⟨wy, wy0, wy1, wy2⟩ : ∃ w, 0 ≤ w ∧ w < 4294967296 ^ (m + 1) ∧ nv y = w + 4294967296 ^ (m + 1) * y.getD (m + 1) 0 := by
    refine ⟨nv (y.take (m + 1)), (take_lt dy _).1, (take_lt dy _).2, ?_⟩
    rw [nv_split' y (m + 1), nv_drop' y (m + 1), List.drop_of_length_le (by omega)]; simp [nv]
  have ely : y.length - 1 = m + 1 := by omega
  rw [ely] at gy gy0 s1 s2
  have vlow : 4294967296 ^ (m + 1) * 2147483648 ≤ nv v := by
    have h1 : 4294967296 ^ (m + 1) * 2147483648 ≤ 4294967296 ^ (m + 1) * (y.getD (m + 1) 0 * 2 ^ n) := Int.mul_le_mul_of_nonneg_left s2 (by have := pow_pos32 (m + 1); omega)
    have h2 : nv y * 2 ^ n = wy * 2 ^ n + 4294967296 ^ (m + 1) * (y.getD (m + 1) 0 * 2 ^ n) := by rw [wy2]; grind
    have h3 : 0 ≤ wy * 2 ^ n := Int.mul_nonneg wy0 (by omega)
    omega
  have vhigh : nv v < 4294967296 ^ (m + 2) := by
    have h2 : nv y * 2 ^ n = wy * 2 ^ n + 4294967296 ^ (m + 1) * (y.getD (m + 1) 0 * 2 ^ n) := by rw [wy2]; grind
    have h3 : (wy + 1) * 2 ^ n ≤ 4294967296 ^ (m + 1) * 2 ^ n := Int.mul_le_mul_of_nonneg_right (by omega) (by omega)
    have h4 : 4294967296 ^ (m + 1) * (y.getD (m + 1) 0 * 2 ^ n + 2 ^ n) ≤ 4294967296 ^ (m + 1) * 4294967296 := by
      refine Int.mul_le_mul_of_nonneg_left ?_ (by have := pow_pos32 (m + 1); omega)
      -- a multiple of 2^n below 2^32
      have e : (4294967296 : Int) = 2 ^ (32 - n) * 2 ^ n := by rw [← Int.pow_add, show 32 - n + n = 32 by omega]; rfl
      rw [e] at s1
      have s3 := Int.lt_of_mul_lt_mul_right s1 (by omega)
      have : (y.getD (m + 1) 0 + 1) * 2 ^ n ≤ 2 ^ (32 - n) * 2 ^ n := Int.mul_le_mul_of_nonneg_right (by omega) (by omega)
      rw [← e] at this
      have e2 : (y.getD (m + 1) 0 + 1) * 2 ^ n = y.getD (m + 1) 0 * 2 ^ n + 2 ^ n := by grind
      omega
    rw [Int.mul_add] at h4
    rw [show m + 2 = m + 1 + 1 by omega, Int.pow_succ]
    have e3 : (wy + 1) * 2 ^ n = wy * 2 ^ n + 2 ^ n := by grind
    omega
  have hlv : v.length = m + 2 := len_of dv tv (by omega) vhigh
  have vpos : 0 < nv v := by have := pow_pos32 (m + 1); omega
  obtain ⟨wv, wv0, wv1, wv2⟩ := win2 dv hlv
  have gv1 := dv.get (m + 1)
  have gv2 := dv.get m
  have v1l : 2147483648 ≤ v.getD (m + 1) 0 := by
    rw [Int.pow_succ] at vlow
    have h1 : 4294967296 ^ m * (v.getD m 0 + 1) ≤ 4294967296 ^ m * 4294967296 := Int.mul_le_mul_of_nonneg_left (by omega) (by omega)
    have h2 : 4294967296 ^ m * 4294967296 * 2147483648 < 4294967296 ^ m * 4294967296 * (v.getD (m + 1) 0 + 1) := by
      rw [wv2] at vlow
      generalize v.getD (m + 1) 0 = a at *
      generalize v.getD m 0 = b at *
      generalize (4294967296 : Int) ^ m = P at *
      have e1 : P * (b + 4294967296 * a) = P * b + P * 4294967296 * a := by grind
      have e2 : P * 4294967296 * (a + 1) = P * 4294967296 * a + P * 4294967296 := by grind
      have e3 : P * (b + 1) = P * b + P := by grind
      omega
    have := Int.lt_of_mul_lt_mul_left h2 (by omega)
    omega
  -- the lists
  have hlu : u0.length = x.length + 1 := lu
  have esz : IntKind.wrap IntKind.i64 (szSl (some u0) - szSl (some v)) = ((u0.length - v.length : Nat) : Int) := by
    simp only [szSl, Option.getD_some]; rw [wi64 (by omega) (by omega)]; omega
  have esz1 : IntKind.wrap IntKind.i64 (((u0.length - v.length : Nat) : Int) - 1) = ((u0.length - v.length : Nat) : Int) - 1 := wi64 (by omega) (by omega)
  rw [esz, esz1]
  refine ⟨by simp only [mkC]; omega, ?_⟩
  refine loopE (fun p => ∃ K u o, LInv n v u0 p K u o) (fun p => (p.2.2.2.1 + 1).toNat) ⟨u0.length - v.length, u0, List.replicate (u0.length - v.length) 0, ⟨rfl, rfl, rfl, rfl, rfl, ?_, rfl, du, by simp, Dig.rep _, fun j hj => by simp [List.getD, hj], Nat.le_refl _, by rw [nv_rep]; omega, ?_⟩⟩ ?_
  · simp only [repS, Int.toNat_natCast]
  · have h1 := nv_lt dx
    have e : x.length = (u0.length - v.length) + (m + 1) := by omega
    rw [vu]
    have h2 : (nv x + 1) * 2 ^ n ≤ 4294967296 ^ x.length * 2 ^ n := Int.mul_le_mul_of_nonneg_right (by omega) (by omega)
    have h3 : (4294967296 : Int) ^ x.length * 2 ^ n ≤ 4294967296 ^ x.length * 2147483648 := Int.mul_le_mul_of_nonneg_left n31 (by have := pow_pos32 x.length; omega)
    have h4 : (4294967296 : Int) ^ x.length * 2147483648 = 4294967296 ^ (m + 1) * 2147483648 * 4294967296 ^ (u0.length - v.length) := by rw [e, Int.pow_add]; grind
    have h5 : 4294967296 ^ (m + 1) * 2147483648 * 4294967296 ^ (u0.length - v.length) ≤ nv v * 4294967296 ^ (u0.length - v.length) := Int.mul_le_mul_of_nonneg_right vlow (by have := pow_pos32 (u0.length - v.length); omega)
    have h6 : (nv x + 1) * 2 ^ n = nv x * 2 ^ n + 2 ^ n := by grind
    omega
  rintro ⟨n', v', m', k', u', o'⟩ ⟨K, u, o, h⟩
  obtain rfl : n' = (n : Int) := h.en
  obtain rfl : v' = some v := h.ev
  obtain rfl : m' = (v.length : Int) := h.em
  obtain rfl : k' = (K : Int) - 1 := h.ek
  obtain rfl : u' = some u := h.eu
  obtain rfl : o' = some o := h.eo
  obtain ⟨_, _, _, _, _, _, ul, ud, ol, od, oz, kl, val, lt⟩ := h
  dsimp only
  refine brV_iff.2 ⟨fun hb => ?_, fun hb => ?_⟩
  · -- a digit
    have hb : (0 : Int) ≤ (K : Int) - 1 := dec_t hb
    obtain ⟨k, rfl⟩ : ∃ k, K = k + 1 := ⟨K - 1, by omega⟩
    have ek : ((k + 1 : Nat) : Int) - 1 = (k : Int) := by omega
    rw [ek, hlv]
    have hkm : k + m + 3 ≤ u0.length := by omega
    have e1 : IntKind.wrap IntKind.i64 ((k : Int) + ((m + 2 : Nat) : Int)) = ((k + m + 2 : Nat) : Int) := by rw [wi64 (by omega) (by omega)]; omega
    have e2 : IntKind.wrap IntKind.i64 (((k + m + 2 : Nat) : Int) - 1) = ((k + m + 1 : Nat) : Int) := by rw [wi64 (by omega) (by omega)]; omega
    have e3 : IntKind.wrap IntKind.i64 (((k + m + 2 : Nat) : Int) - 2) = ((k + m : Nat) : Int) := by rw [wi64 (by omega) (by omega)]; omega
    have e4 : IntKind.wrap IntKind.i64 (((m + 2 : Nat) : Int) - 1) = ((m + 1 : Nat) : Int) := by rw [wi64 (by omega) (by omega)]; omega
    have e5 : IntKind.wrap IntKind.i64 (((m + 2 : Nat) : Int) - 2) = ((m : Nat) : Int) := by rw [wi64 (by omega) (by omega)]; omega
    have gu0 := ud.get (k + m + 2)
    have gu1 := ud.get (k + m + 1)
    have gu2 := ud.get (k + m)
    have x1 : eltS (0 : Int) (some v) ((m + 1 : Nat) : Int) = v.getD (m + 1) 0 := by simp only [eltS, Option.getD_some, Int.toNat_natCast]
    have x2 : eltS (0 : Int) (some v) ((m : Nat) : Int) = v.getD m 0 := by simp only [eltS, Option.getD_some, Int.toNat_natCast]
    have x3 : eltN (0 : Int) (some u) (toN ((k + m + 2 : Nat) : Int)) = u.getD (k + m + 2) 0 := by simp only [eltN, toN, Option.getD_some, Int.toNat_natCast]
    have x4 : eltN (0 : Int) (some u) (toN ((k + m + 1 : Nat) : Int)) = u.getD (k + m + 1) 0 := by simp only [eltN, toN, Option.getD_some, Int.toNat_natCast]
    have x5 : eltN (0 : Int) (some u) (toN ((k + m : Nat) : Int)) = u.getD (k + m) 0 := by simp only [eltN, toN, Option.getD_some, Int.toNat_natCast]
    have y1 : IntKind.wrap IntKind.u64 (v.getD (m + 1) 0) = v.getD (m + 1) 0 := wu64 gv1.1 (by omega)
    have y2 : IntKind.wrap IntKind.u64 (v.getD m 0) = v.getD m 0 := wu64 gv2.1 (by omega)
    have y3 : IntKind.wrap IntKind.u64 (u.getD (k + m + 2) 0) = u.getD (k + m + 2) 0 := wu64 gu0.1 (by omega)
    have y4 : IntKind.wrap IntKind.u64 (u.getD (k + m + 1) 0) = u.getD (k + m + 1) 0 := wu64 gu1.1 (by omega)
    have y5 : IntKind.wrap IntKind.u64 (u.getD (k + m) 0) = u.getD (k + m) 0 := wu64 gu2.1 (by omega)
    have etop : bitI BinOp.or IntKind.u64 (shlI IntKind.u64 (u.getD (k + m + 2) 0) 32) (u.getD (k + m + 1) 0) = u.getD (k + m + 2) 0 * 4294967296 + u.getD (k + m + 1) 0 := by
      rw [shl64_32, Int.emod_eq_of_lt (by omega) (by omega), or64_32 gu1.1 gu1.2 gu0.1 gu0.2, Int.add_comm]
    -- the numbers of the estimate
    have uz : ZeroFrom u (k + m + 3) := by
      refine lt_zeroFrom ud (Int.lt_of_lt_of_le lt ?_)
      have : nv v * 4294967296 ^ (k + 1) ≤ 4294967296 ^ (m + 2) * 4294967296 ^ (k + 1) := Int.mul_le_mul_of_nonneg_right (by omega) (by have := pow_pos32 (k + 1); omega)
      rw [← Int.pow_add, show m + 2 + (k + 1) = k + m + 3 by omega] at this
      exact this
    obtain ⟨wu, wu0, wu1, wu2⟩ := win3 ud uz
    have uV : nv (u.drop k) < nv v * 4294967296 := by
      rw [nv_split' u k, Int.pow_succ] at lt
      have t := take_lt ud k
      have : 4294967296 ^ k * nv (u.drop k) < 4294967296 ^ k * (nv v * 4294967296) := by
        have e : nv v * (4294967296 ^ k * 4294967296) = 4294967296 ^ k * (nv v * 4294967296) := by grind
        omega
      exact Int.lt_of_mul_lt_mul_left this (by have := pow_pos32 k; omega)
    have est : Est (nv (u.drop k)) (nv v) (v.getD (m + 1) 0) (v.getD m 0) (u.getD (k + m) 0) (u.getD (k + m + 2) 0 * 4294967296 + u.getD (k + m + 1) 0) (4294967296 ^ m) :=
      est_mk hP wu2 wv2 wu0 wu1 wv0 wv1 v1l gv1.2 gv2.1 gv2.2 gu2.1 gu2.2 gu1.1 gu0.1 uV
    have uz' : ZeroFrom u (k + v.length + 1) := by rw [hlv]; exact uz
    have hkl : k + v.length < u.length := by omega
    simp only [e1, e2, e3, e4, e5, x1, x2, x3, x4, x5, y1, y2, y3, y4, y5, etop]
    have gtop : 0 ≤ u.getD (k + m + 2) 0 * 4294967296 + u.getD (k + m + 1) 0 ∧ u.getD (k + m + 2) 0 * 4294967296 + u.getD (k + m + 1) 0 < 18446744073709551616 := by omega
    have hq0 := est.q0
    have hqB := est.qB
    refine ⟨by simp only [inS, Option.getD_some]; omega, by first | trivial | omega, by simp only [inS, Option.getD_some]; omega, by simp only [inS, Option.getD_some]; omega, by omega, by simp only [inS, Option.getD_some]; omega, by omega, ?_⟩
    refine joinR (fun p => ∃ q, p = ((n : Int), some v, ((m + 2 : Nat) : Int), (k : Int), q, some u, some o) ∧ 0 ≤ q ∧ q < 4294967296 ∧ nv (u.drop k) / nv v ≤ q ∧ q - 1 ≤ nv (u.drop k) / nv v) ?_ ?_
    · -- the subtraction
      rintro _ ⟨q, rfl, q0, qB, ql, qh⟩
      dsimp only
      refine loopE (fun p => ∃ (i : Nat) (w : List Int) (b c : Int), p = ((n : Int), some v, ((m + 2 : Nat) : Int), (k : Int), q, b, c, some v, ((m + 2 : Nat) : Int), (i : Int), some w, some o) ∧ i ≤ m + 2 ∧ SubInv u v q k i w b c) (fun p => (((m + 2 : Nat) : Int) - p.2.2.2.2.2.2.2.2.2.1).toNat) ⟨0, u, 0, 0, ?_, by omega, ⟨rfl, ud, uz', by omega, by omega, by omega, by omega, by simp [nv]⟩⟩ ?_
      · simp only [szSl, Option.getD_some, hlv]; rfl
      rintro _ ⟨i, w, b, c, rfl, hi, hs⟩
      dsimp only
      have hwl : w.length = u0.length := hs.len.trans ul
      have b0 := hs.b0
      have b1 := hs.b1
      have c0 := hs.c0
      have c1 := hs.c1
      refine brV_iff.2 ⟨fun hb => ?_, fun hb => ?_⟩
      · have hb : (i : Int) < ((m + 2 : Nat) : Int) := dec_t hb
        have f1 : IntKind.wrap IntKind.i64 ((k : Int) + (i : Int)) = ((k + i : Nat) : Int) := by rw [wi64 (by omega) (by omega)]; omega
        have f2 : IntKind.wrap IntKind.i64 ((i : Int) + 1) = ((i + 1 : Nat) : Int) := by rw [wi64 (by omega) (by omega)]; omega
        have hst := hs.step dv (by omega) (by omega) q0 qB
        have gv := dv.get i
        have gw := hs.dig.get (k + i)
        have hbd := sub_bound q0 qB gv.1 gv.2 hs.c0 hs.c1
        obtain ⟨r1, r2, r3⟩ := sub_words gw.1 gw.2 hbd.1 hs.c0 hbd.2 hs.b0 hs.b1
        have y6 : IntKind.wrap IntKind.u64 (v.getD i 0) = v.getD i 0 := wu64 gv.1 (by omega)
        simp only [f1, f2, inS, eltS, eltN, toN, Option.getD_some, Int.toNat_natCast, y6, r1, r2, r3, setO, Option.map_some]
        exact ⟨by omega, by first | trivial | omega, by omega, by omega, by first | trivial | omega, ⟨i + 1, _, _, _, rfl, by omega, hst⟩, by omega⟩
      · have hb : ¬ (i : Int) < ((m + 2 : Nat) : Int) := dec_f hb
        obtain rfl : i = m + 2 := by omega
        have hs' : SubInv u v q k v.length w b c := by rw [hlv]; exact hs
        have hend := hs'.fin hkl
        have hr := hend.right ud uz' vpos dv ql qh
        rw [hlv, ← Nat.add_assoc] at hend hr
        have gw := hs.dig.get (k + m + 2)
        have et : shrI IntKind.u64 (IntKind.wrap IntKind.u64 (IntKind.wrap IntKind.u64 (IntKind.wrap IntKind.u64 (w.getD (k + m + 2) 0) - c) - b)) 63 = if w.getD (k + m + 2) 0 < c + b then 1 else 0 := by
          rw [shr64_63, wu64m, wu64m, wu64m]; split <;> omega
        have ed : IntKind.wrap IntKind.u32 (IntKind.wrap IntKind.u64 (IntKind.wrap IntKind.u64 (IntKind.wrap IntKind.u64 (w.getD (k + m + 2) 0) - c) - b)) = (w.getD (k + m + 2) 0 - c - b) % 4294967296 := by
          rw [wu32m, wu64m, wu64m, wu64m]; omega
        simp only [e1, inS, eltN, toN, Option.getD_some, Int.toNat_natCast, et, ed, setO, Option.map_some]
        refine ⟨by omega, by omega, by first | trivial | omega, ?_⟩
        refine joinR (fun p => ∃ u', p = ((n : Int), some v, ((m + 2 : Nat) : Int), (k : Int), nv (u.drop k) / nv v, some u', some o) ∧ Left u v k u') ?_ ?_
        · rintro _ ⟨u', rfl, hL⟩
          dsimp only
          have f3 : IntKind.wrap IntKind.u32 (nv (u.drop k) / nv v) = nv (u.drop k) / nv v := wu32 hq0 (by omega)
          have f4 : IntKind.wrap IntKind.i64 ((k : Int) - 1) = (k : Int) - 1 := wi64 (by omega) (by omega)
          simp only [f3, f4, inS, toN, Option.getD_some, Int.toNat_natCast, setO, Option.map_some]
          refine ⟨by omega, ⟨k, u', o.set k (nv (u.drop k) / nv v), ⟨rfl, rfl, by rw [hlv], rfl, rfl, rfl, hL.len.trans ul, hL.dig, by rw [List.length_set]; exact ol, od.set _ hq0 (by omega), ?_, by omega, out_step hL val (oz k (by omega)) (by omega), left_lt hL ud vpos⟩⟩, by omega⟩
          intro j hj; rw [getD_set_other (by omega)]; exact oz j (by omega)
        · intro k9 hk9
          generalize (if w.getD (k + m + 2) 0 < c + b then (1 : Int) else 0) = t at *
          refine brV_iff.2 ⟨fun hb2 => ?_, fun hb2 => ?_⟩
          · have ht1 : t = 1 := dec_t hb2
            have hq := hr.2 ht1
            have f5 : IntKind.wrap IntKind.u64 (q - 1) = nv (u.drop k) / nv v := by rw [wu64 (by omega) (by omega)]; omega
            refine loopE (fun p => ∃ (i : Nat) (z : List Int) (c' : Int), p = ((n : Int), some v, ((m + 2 : Nat) : Int), (k : Int), nv (u.drop k) / nv v, c', some v, ((m + 2 : Nat) : Int), (i : Int), some z, some o) ∧ i ≤ m + 2 ∧ AddInv (w.set (k + m + 2) ((w.getD (k + m + 2) 0 - c - b) % 4294967296)) v k i z c') (fun p => (((m + 2 : Nat) : Int) - p.2.2.2.2.2.2.2.2.1).toNat) ⟨0, _, 0, ?_, by omega, ⟨rfl, hend.dig, hend.zero, by omega, by omega, by simp [nv]⟩⟩ ?_
            · simp only [f5, szSl, Option.getD_some, hlv]; rfl
            rintro _ ⟨i, z, c', rfl, hi', ha⟩
            dsimp only
            have hzl : z.length = u0.length := ha.len.trans (hend.len.trans ul)
            have c0' := ha.c0
            have c1' := ha.c1
            refine brV_iff.2 ⟨fun hb => ?_, fun hb => ?_⟩
            · have hb : (i : Int) < ((m + 2 : Nat) : Int) := dec_t hb
              have f1 : IntKind.wrap IntKind.i64 ((k : Int) + (i : Int)) = ((k + i : Nat) : Int) := by rw [wi64 (by omega) (by omega)]; omega
              have f2 : IntKind.wrap IntKind.i64 ((i : Int) + 1) = ((i + 1 : Nat) : Int) := by rw [wi64 (by omega) (by omega)]; omega
              have gv := dv.get i
              have gz := ha.dig.get (k + i)
              have hst := ha.step dv (by omega) (by rw [hend.len]; omega)
              simp only [f1, f2, inS, eltS, eltN, toN, Option.getD_some, Int.toNat_natCast]
              refine ⟨by omega, by omega, (s_Add32 gz.1 gz.2 gv.1 gv.2 c0' (by omega)).mono ?_⟩
              rintro _ rfl
              simp only [setO, Option.map_some]
              exact ⟨by omega, ⟨i + 1, _, _, rfl, by omega, hst⟩, by omega⟩
            · have hb : ¬ (i : Int) < ((m + 2 : Nat) : Int) := dec_f hb
              obtain rfl : i = m + 2 := by omega
              have gz := ha.dig.get (k + m + 2)
              simp only [e1, inS, eltN, toN, Option.getD_some, Int.toNat_natCast, setO, Option.map_some]
              refine ⟨by omega, by omega, hk9 _ ⟨_, rfl, ?_⟩⟩
              rw [wu32m]
              have ha' : AddInv (w.set (k + m + 2) ((w.getD (k + m + 2) 0 - c - b) % 4294967296)) v k v.length z c' := by rw [hlv]; exact ha
              have := AddInv.left hend ht1 hq ha' ud uz' hkl vpos
              rw [hlv, ← Nat.add_assoc] at this
              exact this
          · have ht1 : ¬ t = 1 := dec_f hb2
            have ht0 : t = 0 := hend.t01.resolve_right ht1
            have hq := hr.1 ht0
            exact hk9 _ ⟨_, by rw [hq], hend.left ht0 hq⟩
    · -- the estimate
      intro k6 hk6
      generalize u.getD (k + m + 2) 0 * 4294967296 + u.getD (k + m + 1) 0 = top at *
      refine loopE (fun p => ∃ q r : Int, p = ((n : Int), some v, ((m + 2 : Nat) : Int), (k : Int), q, r, some u, some o) ∧ nv (u.drop k) / nv v ≤ q ∧ 0 ≤ r ∧ r < 4294967296 ∧ q * v.getD (m + 1) 0 + r = top ∧ q < 17179869184) (fun p => p.2.2.2.2.1.toNat) ⟨top / v.getD (m + 1) 0, top % v.getD (m + 1) 0, ?_, est.init, Int.emod_nonneg _ (by omega), ?_, ?_, ?_⟩ ?_
      · have hq : top / v.getD (m + 1) 0 < 17179869184 := Int.ediv_lt_of_lt_mul (by omega) (by omega)
        have hq' : 0 ≤ top / v.getD (m + 1) 0 := Int.ediv_nonneg (by omega) (by omega)
        rw [Int.tdiv_eq_ediv_of_nonneg gtop.1, Int.tmod_eq_emod_of_nonneg gtop.1, wu64 hq' (by omega)]
      · have := Int.emod_lt_of_pos top (show 0 < v.getD (m + 1) 0 by omega); omega
      · have := Int.mul_ediv_add_emod top (v.getD (m + 1) 0); rw [Int.mul_comm]; exact this
      · exact Int.ediv_lt_of_lt_mul (by omega) (by omega)
      rintro _ ⟨q, r, rfl, ql, r0, rB, he, qB⟩
      dsimp only
      refine joinR (fun p => p = ((n : Int), some v, ((m + 2 : Nat) : Int), (k : Int), q, r, decide (4294967296 ≤ q ∨ r * 4294967296 + u.getD (k + m) 0 < q * v.getD m 0), some u, some o)) ?_ ?_
      · rintro _ rfl
        simp only [e4, x1, y1]
        refine brV_iff.2 ⟨fun hb => ?_, fun hb => ?_⟩
        · have hb := dec_t hb
          have hnx := est.next ql he hb
          have f6 : IntKind.wrap IntKind.u64 (q - 1) = q - 1 := wu64 (by omega) (by omega)
          have f7 : IntKind.wrap IntKind.u64 (r + v.getD (m + 1) 0) = r + v.getD (m + 1) 0 := wu64 (by omega) (by omega)
          have he' : (q - 1) * v.getD (m + 1) 0 + (r + v.getD (m + 1) 0) = top := by rw [← he, Int.sub_mul]; omega
          simp only [f6, f7]
          refine ⟨by simp only [inS, Option.getD_some]; omega, brV_iff.2 ⟨fun h2 => ?_, fun h2 => ?_⟩⟩
          · have h2 : 4294967296 ≤ r + v.getD (m + 1) 0 := dec_t h2
            obtain ⟨w1, w2⟩ := est.brk (by omega) he' h2
            exact hk6 _ ⟨q - 1, rfl, by omega, w1, hnx, est.done hnx he' w1 w2⟩
          · have h2 : ¬ 4294967296 ≤ r + v.getD (m + 1) 0 := dec_f h2
            exact ⟨⟨q - 1, r + v.getD (m + 1) 0, rfl, hnx, by omega, by omega, he', by omega⟩, by omega⟩
        · have hb := dec_f hb
          exact hk6 _ ⟨q, rfl, by omega, by omega, ql, est.done ql he (by omega) (by omega)⟩
      · intro k9 hk9
        refine brV_iff.2 ⟨fun h2 => ?_, fun h2 => ?_⟩
        · have h2 : 4294967296 ≤ q := dec_t h2
          exact hk9 _ (by rw [decide_eq_true (Or.inl h2)])
        · have h2 : ¬ 4294967296 ≤ q := dec_f h2
          have eo : bitI BinOp.or IntKind.u64 (shlI IntKind.u64 r 32) (u.getD (k + m) 0) = r * 4294967296 + u.getD (k + m) 0 := by
            rw [shl64_32, Int.emod_eq_of_lt (by omega) (by omega), or64_32 gu2.1 gu2.2 r0 rB, Int.add_comm]
          have hb := sub_bound (q := q) (d := v.getD m 0) (carry := 0) (by omega) (by omega) gv2.1 gv2.2 (by omega) (by omega)
          have em : IntKind.wrap IntKind.u64 (q * v.getD m 0) = q * v.getD m 0 := wu64 hb.1 (by omega)
          simp only [e1, e3, e5, x2, x5, y2, y5, eo, em]
          refine ⟨by simp only [inS, Option.getD_some]; omega, by first | trivial | omega, by simp only [inS, Option.getD_some]; omega, hk9 _ ?_⟩
          have : decide (r * 4294967296 + u.getD (k + m) 0 < q * v.getD m 0) = decide (4294967296 ≤ q ∨ r * 4294967296 + u.getD (k + m) 0 < q * v.getD m 0) := decide_eq_decide.2 ⟨Or.inr, fun h => h.resolve_left h2⟩
          rw [this]
  · -- the rest
    have hb : ¬ (0 : Int) ≤ (K : Int) - 1 := dec_f hb
    obtain rfl : K = 0 := by omega
    simp only [Int.pow_zero, Int.mul_one] at lt
    rw [vu, vv] at val
    rw [vv] at lt
    have hR : nv u = (nv x - nv o * nv y) * 2 ^ n := by rw [Int.sub_mul, val]; grind
    have hu0 := nv_nonneg ud
    have hR0 : 0 ≤ nv x - nv o * nv y := by
      rw [hR] at hu0
      rcases Int.lt_or_le (nv x - nv o * nv y) 0 with h | h
      · have : (nv x - nv o * nv y) * 2 ^ n < 0 := Int.mul_neg_of_neg_of_pos h hp2
        omega
      · exact h
    have hR1 : nv x - nv o * nv y < nv y := by
      rw [hR] at lt
      exact Int.lt_of_mul_lt_mul_right lt (by omega)
    obtain ⟨d1, d2⟩ := divmod_of (show nv o * nv y + (nv x - nv o * nv y) = nv x by omega) hR0 hR1
    have hyB := nv_lt dy
    refine ⟨by simp only [mkC]; omega, ?_⟩
    refine loopE (fun p => ∃ (i : Nat) (rl : List Int), p = ((n : Int), (v.length : Int), (i : Int), some u, some o, some rl) ∧ i ≤ v.length ∧ rl.length = v.length ∧ Dig rl ∧ (∀ j, i ≤ j → rl.getD j 0 = 0) ∧ nv rl = (nv x - nv o * nv y) % 4294967296 ^ i) (fun p => ((v.length : Int) - p.2.2.1).toNat) ⟨0, List.replicate v.length 0, ?_, by omega, by simp, Dig.rep _, ?_, ?_⟩ ?_
    · simp only [repS, szSl, Int.toNat_natCast, Option.getD_some, List.length_replicate]; rfl
    · intro j _
      rcases Nat.lt_or_ge j v.length with h | h
      · simp [List.getD, h]
      · simp [List.getD, Nat.not_lt.2 h]
    · rw [nv_rep]; simp [Int.emod_one]
    rintro _ ⟨i, rl, rfl, hi, hrl, drl, zrl, vrl⟩
    dsimp only
    refine brV_iff.2 ⟨fun hb => ?_, fun hb => ?_⟩
    · have hb : (i : Int) < (v.length : Int) := dec_t hb
      have f2 : IntKind.wrap IntKind.i64 ((i : Int) + 1) = ((i + 1 : Nat) : Int) := by rw [wi64 (by omega) (by omega)]; omega
      have g0 := ud.get i
      have g1 := ud.get (i + 1)
      have es : shlI IntKind.u64 (u.getD (i + 1) 0) 32 = u.getD (i + 1) 0 * 4294967296 := by rw [shl64_32, Int.emod_eq_of_lt (by omega) (by omega)]
      have eo : bitI BinOp.or IntKind.u64 (u.getD i 0) (u.getD (i + 1) 0 * 4294967296) = u.getD i 0 + u.getD (i + 1) 0 * 4294967296 := or64 32 g0.1 (by omega) g1.1 (by omega)
      have ew : IntKind.wrap IntKind.u32 (shrI IntKind.u64 (u.getD i 0 + u.getD (i + 1) 0 * 4294967296) (n : Int)) = (nv x - nv o * nv y) / 4294967296 ^ i % 4294967296 := by
        rw [wu32m, shr64 _ _ (by omega), Int.mul_comm (u.getD (i + 1) 0)]
        exact rest_digit ud hn _ hR
      have h64a : IntKind.wrap IntKind.u64 (u.getD i 0) = u.getD i 0 := wu64 g0.1 (by omega)
      have h64b : IntKind.wrap IntKind.u64 (u.getD (i + 1) 0) = u.getD (i + 1) 0 := wu64 g1.1 (by omega)
      simp only [f2, inS, eltN, toN, Option.getD_some, Int.toNat_natCast, h64a, h64b, es, eo, ew, setO, Option.map_some]
      refine ⟨by omega, by omega, by first | trivial | omega, by omega, by omega, ⟨i + 1, _, rfl, by omega, by rw [List.length_set]; exact hrl, drl.set i (by omega) (by omega), ?_, rest_step (by omega) (zrl i (Nat.le_refl _)) vrl rfl⟩, by omega⟩
      intro j hj; rw [getD_set_other (by omega)]; exact zrl j (by omega)
    · have hb : ¬ (i : Int) < (v.length : Int) := dec_f hb
      obtain rfl : i = v.length := by omega
      rw [hlv, ← hm, Int.emod_eq_of_lt hR0 (by omega)] at vrl
      refine ⟨⟨o, rfl, od, d1, by omega⟩, rl, rfl, drl, by rw [vrl, d2], by omega⟩

end Go.Proofs.Pf

