/- Typed pure data, a condition on code that says what a call gives, what the code of each function comes to, and what each function gives. -/
import Derived.Test.YthdhckgmbfkglaaGreatDoorA9
import Derived.Test.YthdhckgmbfkglaaGreatDoorA11
import Derived.Test.YthdhckgmbfkglaaGreatDoorA13
import Derived.Test.YthdhckgmbfkglaaGreatDoorA14
set_option linter.unusedVariables false
set_option linter.unusedSimpArgs false
namespace Go.Proofs.Pf.B

open Go Go.VM

abbrev Buf := Option (List Int)

def ints (l : List UInt8) : List Int := l.map fun b => (b.toNat : Int)

/-- What the builder holds. -/
def BufIs (b : Buf) (l : List UInt8) : Prop := b.getD [] = ints l

theorem bytesI_bl (s : ByteArray) : bytesI s = ints (bl s) := rfl

theorem ints_len (l : List UInt8) : (ints l).length = l.length := by simp [ints]

theorem appL_getB (c : Buf) (ys : List Int) : (appL c ys).getD [] = c.getD [] ++ ys := by
  cases c with
  | none => cases ys <;> rfl
  | some l => rfl

theorem BufIs.app {b : Buf} {l : List UInt8} (h : BufIs b l) (s : ByteArray) : BufIs (appL b (bytesI s)) (l ++ bl s) := by
  unfold BufIs at *
  rw [appL_getB, h, bytesI_bl]; simp [ints]

theorem BufIs.len {b : Buf} {l : List UInt8} (h : BufIs b l) : (b.getD []).length = l.length := by rw [h, ints_len]

theorem BufIs.str {b : Buf} {l : List UInt8} (h : BufIs b l) : strOf b = ⟨l.toArray⟩ := by
  apply bl_inj
  have e : strOf b = strOf (some (b.getD [])) := rfl
  rw [e, bl_strOf, h, bl_mk]
  simp only [ints, List.map_map]
  conv => rhs; rw [← List.map_id l]
  refine List.map_congr_left fun x _ => ?_
  simp

theorem s_Write {a : ByteArray} {c : Buf} {l : List UInt8} {Q : Int × (Unit × Unit) × Buf → Prop} (hc : BufIs c l) (hl : l.length ≤ 1000000) (ha : (bl a).length ≤ 1000000) (h : ∀ c', BufIs c' (l ++ bl a) → Q (szStr a, (((), ()), c'))) :
    lendV Pg c_strings_Builder_WriteString 2 L_strings_Builder_WriteString_v1 (a, (((), ()), c)) Q := by
  have h2 := h _ (hc.app a)
  refine w_strings_Builder_WriteString_v1 a ((), ()) c ⟨_, h2⟩ (s_copyCheck_used ⟨?_, h2⟩)
  show ((c.getD []).length + (bytesI a).length) * 1 ≤ 140737488355328
  rw [hc.len, bytesI_bl, ints_len]; omega

theorem s_Write0 {a : ByteArray} {Q : Int × (Unit × Unit) × Buf → Prop} (ha : (bl a).length ≤ 1000000) (h : ∀ c', BufIs c' (bl a) → Q (szStr a, (((), ()), c'))) :
    lendV Pg c_strings_Builder_WriteString 2 L_strings_Builder_WriteString_v0 (a, (((), ()), none)) Q := by
  have h2 := h _ (BufIs.app (b := none) (l := []) rfl a)
  refine w_strings_Builder_WriteString_v0 a ((), ()) none ⟨_, h2⟩ (s_copyCheck_fresh ⟨?_, h2⟩)
  show (0 + (bytesI a).length) * 1 ≤ 140737488355328
  rw [bytesI_bl, ints_len]; omega

theorem s_BLen {c : Buf} {Q : Int × (Unit × Unit) × Buf → Prop} (h : Q (szSl c, (((), ()), c))) : lendV Pg c_strings_Builder_Len 1 L_strings_Builder_Len (((), ()), c) Q :=
  w_strings_Builder_Len ((), ()) c ⟨_, h⟩ h

theorem s_BString {c : Buf} {l : List UInt8} {Q : ByteArray × Unit × Unit → Prop} (hc : BufIs c l) (h0 : 0 < l.length) (hl : l.length ≤ 1000000) (h : Q (⟨l.toArray⟩, ((), ()))) : lendV Pg c_strings_Builder_String 1 L_strings_Builder_String (((), ()), c) Q := by
  have e : szSl c = (l.length : Int) := by show ((c.getD []).length : Int) = _; rw [hc.len]
  refine w_strings_Builder_String ((), ()) c ⟨_, h⟩ ⟨by rw [e]; omega, ⟨rfl, rfl, by rw [e]; omega, by rw [e]; omega⟩, ?_⟩
  rw [hc.str]; exact h

abbrev lit (l : List Nat) : List UInt8 := l.map UInt8.ofNat

def brS (l : List DBr) : Nat → List UInt8
  | 0 => []
  | k + 1 => brS l k ++ (if 0 < k then lit [44] else []) ++ (lit [32] ++ Lib.itoa (br l k).1 ++ lit [32] ++ printL (br l k).2)

def chS (l : List DCh) : Nat → List UInt8
  | 0 => []
  | j + 1 => chS l j ++ (lit [99, 104, 111, 105, 99, 101, 32] ++ printL (ch l j).1 ++ lit [58]) ++ brS ((ch l j).2.getD []) ((ch l j).2.getD []).length ++ lit [10]

def stS (l : List DSt) : Nat → List UInt8
  | 0 => []
  | i + 1 => stS l i ++ (lit [115, 116, 97, 116, 101, 32] ++ Lib.itoa (stt l i).1 ++ lit [32] ++ Lib.itoa (stt l i).2.1 ++ lit [10]) ++ chS ((stt l i).2.2.getD []) ((stt l i).2.2.getD []).length

def hdS (m : DMo) : List UInt8 := lit [109, 111, 100, 101, 108, 32] ++ Lib.itoa ((m.getD []).length : Int) ++ lit [10]

def moS (m : DMo) : List UInt8 := hdS m ++ stS (m.getD []) (m.getD []).length

def prtQ (m : DMo) : ByteArray × Int × Unit := if moOk m then (if 32768 < (moS m).length then (bytesL [], 3, ()) else (⟨(moS m).toArray⟩, 0, ())) else (bytesL [], 1, ())

theorem bl_lit (l : List Nat) : bl (bytesL l) = lit l := bytesL_bl l

theorem cat_bl (a b : ByteArray) : bl (catS a b) = bl a ++ bl b := bl_app a b

theorem catC_of {a b : ByteArray} (h : (bl a).length + (bl b).length ≤ 1000000) : catC a b := by
  unfold catC
  rw [size_bl, size_bl]; omega

theorem brS_len {n : Int} {l : List DBr} (hn : n ≤ 40) : ∀ {k : Nat}, (∀ j, j < k → brOk n l j) → (brS l k).length ≤ 140 * k
  | 0, _ => by simp [brS]
  | k + 1, h => by
    have h1 := brS_len hn (k := k) fun j hj => h j (by omega)
    obtain ⟨b1, b2, b3, b4⟩ := h k (by omega)
    have b0 := pre_le (i := k) fun j hj => h j (by omega)
    have h2 := itoa_len (n := (br l k).1) (by omega)
    have h3 := print_len b3
    have h4 : (if 0 < k then lit [44] else []).length ≤ 1 := by split <;> decide
    simp only [brS, List.length_append, List.length_map, List.length_cons, List.length_nil] at h4 ⊢
    omega

theorem chS_len {n : Int} {l : List DCh} (hn : n ≤ 40) : ∀ {j : Nat}, (∀ i, i < j → chOk n (ch l i)) → (chS l j).length ≤ 1300 * j
  | 0, _ => by simp [chS]
  | j + 1, h => by
    have h1 := chS_len hn (j := j) fun i hi => h i (by omega)
    obtain ⟨b1, b2, b3, b4⟩ := h j (by omega)
    have h2 := brS_len hn b3
    have h3 := print_len b1
    simp only [chS, List.length_append, List.length_map, List.length_cons, List.length_nil]
    omega

theorem stS_len {m : DMo} (h : moOk m) : ∀ {i : Nat}, i ≤ (m.getD []).length → (stS (m.getD []) i).length ≤ 11000 * i
  | 0, _ => by simp [stS]
  | i + 1, hi => by
    have h1 := stS_len h (i := i) (by omega)
    obtain ⟨⟨b1, b2, b3⟩, b4⟩ := h.2 i (by omega)
    have h2 := chS_len (by have := h.1; omega) b4
    have h3 := itoa_len (n := (stt (m.getD []) i).1) (by omega)
    have h4 := itoa_len (n := (stt (m.getD []) i).2.1) (by omega)
    simp only [stS, List.length_append, List.length_map, List.length_cons, List.length_nil]
    omega

end Go.Proofs.Pf.B

namespace Go.Proofs.Pf.B

open Go Go.VM

abbrev len (m : DMo) : Nat := (m.getD []).length

theorem s_MPrint (m : DMo) : callV Pg c_model_Print [⟨tMo, m⟩] (.tup (.pair .str (.pair tI .unit))) fun r => r = prtQ m := by
  refine w_model_Print m ⟨_, rfl⟩ ((s_MValid m).mono ?_)
  rintro _ rfl
  refine brV_iff.2 ⟨fun hb => ?_, fun hb => ?_⟩
  · rw [prtQ, if_neg (not_t hb)]
  have h := not_f hb
  have h40 := h.1
  rw [prtQ, if_pos h]
  have i0 := itoa_len (n := ((m.getD []).length : Int)) (by omega)
  refine (s_Itoa (n := ((m.getD []).length : Int)) (by omega) (by omega)).mono ?_
  rintro _ rfl
  refine ⟨catC_of (by rw [bl_lit, bl_itoaB]; simp only [List.length_map, List.length_cons, List.length_nil]; omega), catC_of (by rw [cat_bl, bl_lit, bl_lit, bl_itoaB]; simp only [List.length_append, List.length_map, List.length_cons, List.length_nil]; omega), ?_⟩
  have hh : bl (catS (catS (bytesL [109, 111, 100, 101, 108, 32]) (itoaB ((m.getD []).length : Int))) (bytesL [10])) = hdS m := by rw [cat_bl, cat_bl, bl_lit, bl_lit, bl_itoaB]; rfl
  have hhl : (hdS m).length ≤ 100 := by
    simp only [hdS, List.length_append, List.length_map, List.length_cons, List.length_nil]; omega
  refine s_Write0 (by rw [hh]; omega) fun c0 hc0 => ?_
  rw [hh] at hc0
  refine loopE (fun p => ∃ (i : Nat) (b : Buf), p = (m, (((m.getD []).length : Int), ((i : Int), (((), ()), b)))) ∧ i ≤ (m.getD []).length ∧ BufIs b (hdS m ++ stS (m.getD []) i)) (fun p => (m.getD []).length - p.2.2.1.toNat) ⟨0, c0, rfl, by omega, by simpa [stS] using hc0⟩ ?_
  rintro _ ⟨i, b, rfl, hi, hbuf⟩
  dsimp only
  have hl1 : (hdS m ++ stS (m.getD []) i).length ≤ 100 + 11000 * i := by
    have := stS_len h hi
    simp only [List.length_append]; omega
  refine brV_iff.2 ⟨fun hc => ?_, fun hc => ?_⟩
  · have hc : (i : Int) < ((m.getD []).length : Int) := dec_t hc
    rw [eltS_st]
    obtain ⟨⟨b1, b2, b3⟩, b4⟩ := h.2 i (by omega)
    have i1 := itoa_len (n := (stt (m.getD []) i).1) (by omega)
    have i2 := itoa_len (n := (stt (m.getD []) i).2.1) (by omega)
    refine ⟨⟨by omega, by omega⟩, (s_Itoa (n := (stt (m.getD []) i).1) (by omega) (by omega)).mono ?_⟩
    rintro _ rfl
    refine ⟨catC_of (by rw [bl_lit, bl_itoaB]; simp only [List.length_map, List.length_cons, List.length_nil]; omega), catC_of (by rw [cat_bl, bl_lit, bl_lit, bl_itoaB]; simp only [List.length_append, List.length_map, List.length_cons, List.length_nil]; omega), ?_⟩
    refine (s_Itoa (n := (stt (m.getD []) i).2.1) (by omega) (by omega)).mono ?_
    rintro _ rfl
    refine ⟨catC_of (by rw [cat_bl, cat_bl, bl_lit, bl_lit, bl_itoaB, bl_itoaB]; simp only [List.length_append, List.length_map, List.length_cons, List.length_nil]; omega), catC_of (by rw [cat_bl, cat_bl, cat_bl, bl_lit, bl_lit, bl_lit, bl_itoaB, bl_itoaB]; simp only [List.length_append, List.length_map, List.length_cons, List.length_nil]; omega), ?_⟩
    have hs : bl (catS (catS (catS (catS (bytesL [115, 116, 97, 116, 101, 32]) (itoaB (stt (m.getD []) i).1)) (bytesL [32])) (itoaB (stt (m.getD []) i).2.1)) (bytesL [10])) = lit [115, 116, 97, 116, 101, 32] ++ Lib.itoa (stt (m.getD []) i).1 ++ lit [32] ++ Lib.itoa (stt (m.getD []) i).2.1 ++ lit [10] := by
      rw [cat_bl, cat_bl, cat_bl, cat_bl, bl_lit, bl_lit, bl_lit, bl_itoaB, bl_itoaB]
    have hsl : (lit [115, 116, 97, 116, 101, 32] ++ Lib.itoa (stt (m.getD []) i).1 ++ lit [32] ++ Lib.itoa (stt (m.getD []) i).2.1 ++ lit [10]).length ≤ 100 := by
      simp only [List.length_append, List.length_map, List.length_cons, List.length_nil]; omega
    refine s_Write hbuf (by omega) (by rw [hs]; omega) fun c1 hc1 => ?_
    rw [hs] at hc1
    -- the state's choices
    refine loopE (fun p => ∃ (j : Nat) (b : Buf), p = (m, (((m.getD []).length : Int), ((i : Int), ((stt (m.getD []) i).2.2, ((((stt (m.getD []) i).2.2.getD []).length : Int), ((j : Int), (((), ()), b))))))) ∧ j ≤ ((stt (m.getD []) i).2.2.getD []).length ∧
        BufIs b ((hdS m ++ stS (m.getD []) i) ++ (lit [115, 116, 97, 116, 101, 32] ++ Lib.itoa (stt (m.getD []) i).1 ++ lit [32] ++ Lib.itoa (stt (m.getD []) i).2.1 ++ lit [10]) ++ chS ((stt (m.getD []) i).2.2.getD []) j))
      (fun p => ((stt (m.getD []) i).2.2.getD []).length - p.2.2.2.2.2.1.toNat) ⟨0, c1, rfl, by omega, by simpa [chS] using hc1⟩ ?_
    rintro _ ⟨j, b, rfl, hj, hbuf2⟩
    dsimp only
    generalize hpre : (hdS m ++ stS (m.getD []) i) ++ (lit [115, 116, 97, 116, 101, 32] ++ Lib.itoa (stt (m.getD []) i).1 ++ lit [32] ++ Lib.itoa (stt (m.getD []) i).2.1 ++ lit [10]) = pre at hbuf2 ⊢
    have hprel : pre.length ≤ 200 + 11000 * i := by rw [← hpre, List.length_append]; omega
    have hcl : (chS ((stt (m.getD []) i).2.2.getD []) j).length ≤ 1300 * j := chS_len (n := ((m.getD []).length : Int)) (by omega) fun k hk => b4 k (by omega)
    have hl2 : (pre ++ chS ((stt (m.getD []) i).2.2.getD []) j).length ≤ 200 + 11000 * i + 1300 * j := by rw [List.length_append]; omega
    refine brV_iff.2 ⟨fun hd => ?_, fun hd => ?_⟩
    · have hd : (j : Int) < (((stt (m.getD []) i).2.2.getD []).length : Int) := dec_t hd
      rw [eltS_ch]
      generalize hch : ch ((stt (m.getD []) i).2.2.getD []) j = c
      have hcok : chOk ((m.getD []).length : Int) c := hch ▸ b4 j (by omega)
      obtain ⟨d1, d2, d3, d4⟩ := hcok
      have pl := print_len d1
      refine ⟨⟨by omega, by omega⟩, (s_NPrint c.1).mono ?_⟩
      rintro _ rfl
      rw [printQ, if_pos d1]
      refine ⟨catC_of (by rw [bl_lit, bl_printB]; simp only [List.length_map, List.length_cons, List.length_nil]; omega), catC_of (by rw [cat_bl, bl_lit, bl_lit, bl_printB]; simp only [List.length_append, List.length_map, List.length_cons, List.length_nil]; omega), ?_⟩
      have hs2 : bl (catS (catS (bytesL [99, 104, 111, 105, 99, 101, 32]) (printB c.1)) (bytesL [58])) = lit [99, 104, 111, 105, 99, 101, 32] ++ printL c.1 ++ lit [58] := by
        rw [cat_bl, cat_bl, bl_lit, bl_lit, bl_printB]
      have hs2l : (lit [99, 104, 111, 105, 99, 101, 32] ++ printL c.1 ++ lit [58]).length ≤ 100 := by
        simp only [List.length_append, List.length_map, List.length_cons, List.length_nil]; omega
      refine s_Write hbuf2 (by omega) (by rw [hs2]; omega) fun c2 hc2 => ?_
      rw [hs2] at hc2
      generalize hpre2 : (pre ++ chS ((stt (m.getD []) i).2.2.getD []) j) ++ (lit [99, 104, 111, 105, 99, 101, 32] ++ printL c.1 ++ lit [58]) = pre2 at hc2
      have hpre2l : pre2.length ≤ 300 + 11000 * i + 1300 * j := by rw [← hpre2, List.length_append]; omega
      -- the choice's branches
      refine loopE (fun p => ∃ (k : Nat) (b : Buf), p = (m, (((m.getD []).length : Int), ((i : Int), ((stt (m.getD []) i).2.2, ((((stt (m.getD []) i).2.2.getD []).length : Int), ((j : Int), (c.2, (((c.2.getD []).length : Int), ((k : Int), (((), ()), b)))))))))) ∧ k ≤ (c.2.getD []).length ∧
          BufIs b (pre2 ++ brS (c.2.getD []) k)) (fun p => (c.2.getD []).length - p.2.2.2.2.2.2.2.2.1.toNat) ⟨0, c2, rfl, by omega, by simpa [brS] using hc2⟩ ?_
      rintro _ ⟨k, b, rfl, hk, hbuf3⟩
      dsimp only
      have hbl : (brS (c.2.getD []) k).length ≤ 140 * k := brS_len (n := ((m.getD []).length : Int)) (by omega) fun q hq => d3 q (by omega)
      have hl3 : (pre2 ++ brS (c.2.getD []) k).length ≤ 300 + 11000 * i + 1300 * j + 140 * k := by rw [List.length_append]; omega
      refine brV_iff.2 ⟨fun he => ?_, fun he => ?_⟩
      · have he : (k : Int) < ((c.2.getD []).length : Int) := dec_t he
        rw [eltS_br]
        obtain ⟨f1, f2, f3, f4⟩ := d3 k (by omega)
        have f0 := pre_le (i := k) fun q hq => d3 q (by omega)
        have i3 := itoa_len (n := (br (c.2.getD []) k).1) (by omega)
        have pl3 := print_len f3
        refine ⟨⟨by omega, by omega⟩, joinR (fun p => ∃ b : Buf, p = (m, (((m.getD []).length : Int), ((i : Int), ((stt (m.getD []) i).2.2, ((((stt (m.getD []) i).2.2.getD []).length : Int), ((j : Int), (c.2, (((c.2.getD []).length : Int), ((k : Int), (((), ()), (br (c.2.getD []) k, b))))))))))) ∧
            BufIs b (pre2 ++ brS (c.2.getD []) k ++ (if 0 < k then lit [44] else []))) ?_ ?_⟩
        · rintro _ ⟨b, rfl, hbuf4⟩
          dsimp only
          have hl4 : (pre2 ++ brS (c.2.getD []) k ++ (if 0 < k then lit [44] else [])).length ≤ 400 + 11000 * i + 1300 * j + 140 * k := by
            have h4 : (if 0 < k then lit [44] else []).length ≤ 1 := by split <;> decide
            rw [List.length_append]; omega
          refine (s_NPrint _).mono ?_
          rintro _ rfl
          rw [printQ, if_pos f3]
          refine (s_Itoa (n := (br (c.2.getD []) k).1) (by omega) (by omega)).mono ?_
          rintro _ rfl
          refine ⟨catC_of (by rw [bl_lit, bl_itoaB]; simp only [List.length_map, List.length_cons, List.length_nil]; omega), catC_of (by rw [cat_bl, bl_lit, bl_itoaB]; simp only [List.length_append, List.length_map, List.length_cons, List.length_nil]; omega), catC_of (by rw [cat_bl, cat_bl, bl_lit, bl_itoaB, bl_printB]; simp only [List.length_append, List.length_map, List.length_cons, List.length_nil]; omega), ?_⟩
          have hs3 : bl (catS (catS (catS (bytesL [32]) (itoaB (br (c.2.getD []) k).1)) (bytesL [32])) (printB (br (c.2.getD []) k).2)) = lit [32] ++ Lib.itoa (br (c.2.getD []) k).1 ++ lit [32] ++ printL (br (c.2.getD []) k).2 := by
            rw [cat_bl, cat_bl, cat_bl, bl_lit, bl_itoaB, bl_printB]
          refine s_Write hbuf4 (by omega) (by rw [hs3]; simp only [List.length_append, List.length_map, List.length_cons, List.length_nil]; omega) fun c4 hc4 => ?_
          rw [hs3] at hc4
          rw [wi64 (by omega) (by omega)]
          refine ⟨⟨k + 1, c4, rfl, by omega, ?_⟩, by omega⟩
          have e : pre2 ++ brS (c.2.getD []) (k + 1) = pre2 ++ brS (c.2.getD []) k ++ (if 0 < k then lit [44] else []) ++ (lit [32] ++ Lib.itoa (br (c.2.getD []) k).1 ++ lit [32] ++ printL (br (c.2.getD []) k).2) := by
            simp only [brS, List.append_assoc]
          rw [e]; exact hc4
        · intro k' hk'
          refine brV_iff.2 ⟨fun hf => ?_, fun hf => ?_⟩
          · have hf : (0 : Int) < (k : Int) := dec_t hf
            refine s_Write hbuf3 (by omega) (by rw [bl_lit]; decide) fun c4 hc4 => hk' _ ⟨c4, rfl, ?_⟩
            rw [bl_lit] at hc4
            rw [if_pos (by omega)]; exact hc4
          · have hf : ¬ (0 : Int) < (k : Int) := dec_f hf
            refine hk' _ ⟨b, rfl, ?_⟩
            rw [if_neg (by omega), List.append_nil]; exact hbuf3
      · have he : ¬ (k : Int) < ((c.2.getD []).length : Int) := dec_f he
        obtain rfl : k = (c.2.getD []).length := by omega
        refine s_Write hbuf3 (by omega) (by rw [bl_lit]; decide) fun c4 hc4 => ?_
        rw [bl_lit] at hc4
        rw [wi64 (by omega) (by omega)]
        refine ⟨⟨j + 1, c4, rfl, by omega, ?_⟩, by omega⟩
        have e : pre ++ chS ((stt (m.getD []) i).2.2.getD []) (j + 1) = pre2 ++ brS (c.2.getD []) (c.2.getD []).length ++ lit [10] := by
          rw [← hpre2, ← hch]
          simp only [chS, List.append_assoc]
        rw [e]; exact hc4
    · have hd : ¬ (j : Int) < (((stt (m.getD []) i).2.2.getD []).length : Int) := dec_f hd
      obtain rfl : j = ((stt (m.getD []) i).2.2.getD []).length := by omega
      rw [wi64 (by omega) (by omega)]
      refine ⟨⟨i + 1, b, rfl, by omega, ?_⟩, by omega⟩
      have e : hdS m ++ stS (m.getD []) (i + 1) = pre ++ chS ((stt (m.getD []) i).2.2.getD []) ((stt (m.getD []) i).2.2.getD []).length := by
        rw [← hpre]
        simp only [stS, List.append_assoc]
      rw [e]; exact hbuf2
  · have hc : ¬ (i : Int) < ((m.getD []).length : Int) := dec_f hc
    obtain rfl : i = (m.getD []).length := by omega
    have e1 : szSl b = ((moS m).length : Int) := by show ((b.getD []).length : Int) = _; rw [hbuf.len]; rfl
    refine s_BLen ?_
    dsimp only
    rw [e1]
    have hpos : 0 < (moS m).length := by
      simp only [moS, hdS, List.length_append, List.length_map, List.length_cons]; omega
    refine brV_iff.2 ⟨fun hf => ?_, fun hf => ?_⟩
    · have hf : (32768 : Int) < ((moS m).length : Int) := dec_t hf
      rw [if_pos (by omega)]
    · have hf : ¬ (32768 : Int) < ((moS m).length : Int) := dec_f hf
      rw [if_neg (by omega)]
      exact s_BString (l := moS m) hbuf hpos (by omega) rfl

end Go.Proofs.Pf.B

namespace Go.Proofs.Pf.B

open Go Go.VM

def diceM : DMo := some [(0, 0, some [((0, 1), some [(1, 2, 3), (2, 1, 3)]), ((0, 1), some [(0, 1, 2), (1, 1, 4), (2, 1, 4)])]), (0, 0, some [((0, 1), some [(1, 1, 1)])]), (0, 1, some [((0, 1), some [(2, 1, 1)])])]

theorem s_lnum (a b : Int) : callV Pg c_law04_num [⟨tI, a⟩, ⟨tI, b⟩] tNum fun r => r = (a, b) := w_law04_num a b ⟨_, rfl⟩ rfl

theorem s_dice : callV Pg c_law04_dice [] tMo fun r => r = diceM := by
  refine w_law04_dice ⟨_, rfl⟩ ?_
  refine (s_lnum 0 1).mono ?_; rintro _ rfl
  refine (s_lnum 2 3).mono ?_; rintro _ rfl
  refine (s_lnum 1 3).mono ?_; rintro _ rfl
  refine joinE ?_
  refine (s_lnum 0 1).mono ?_; rintro _ rfl
  refine joinE ?_
  refine (s_lnum 1 2).mono ?_; rintro _ rfl
  refine (s_lnum 1 4).mono ?_; rintro _ rfl
  refine joinE ?_
  refine (s_lnum 1 4).mono ?_; rintro _ rfl
  refine joinE ?_
  refine (s_lnum 0 1).mono ?_; rintro _ rfl
  refine (s_lnum 1 1).mono ?_; rintro _ rfl
  refine joinE ?_
  refine joinE ?_
  refine (s_lnum 0 1).mono ?_; rintro _ rfl
  refine (s_lnum 1 1).mono ?_; rintro _ rfl
  refine joinE ?_
  refine joinE ?_
  rfl

theorem dice_ok : moOk diceM := by decide +kernel

theorem dice_text : moS diceM = lit [109, 111, 100, 101, 108, 32, 51, 10, 115, 116, 97, 116, 101, 32, 48, 32, 48, 10, 99, 104, 111, 105, 99, 101, 32, 48, 58, 32, 49, 32, 50, 47, 51, 44, 32, 50, 32, 49, 47, 51, 10, 99, 104, 111, 105, 99, 101, 32, 48, 58, 32, 48, 32, 49, 47, 50, 44, 32, 49, 32, 49, 47, 52, 44, 32, 50, 32, 49, 47, 52, 10, 115, 116, 97, 116, 101, 32, 48, 32, 48, 10, 99, 104, 111, 105, 99, 101, 32, 48, 58, 32, 49, 32, 49, 10, 115, 116, 97, 116, 101, 32, 48, 32, 49, 10, 99, 104, 111, 105, 99, 101, 32, 48, 58, 32, 50, 32, 49, 10] := by
  decide +kernel

theorem s_awake4 : callV Pg c_law04_awake [] .bool fun r => r = true := by
  refine w_law04_awake ⟨_, rfl⟩ (s_dice.mono ?_)
  rintro _ rfl
  refine (s_MPrint diceM).mono ?_
  rintro _ rfl
  rw [prtQ, if_pos dice_ok, dice_text, if_neg (by decide)]
  refine joinE (brV_iff.2 ⟨fun _ => ?_, fun h => absurd rfl (dec_f h)⟩)
  show eqStr _ _ = true
  rw [eqStr_bl, bl_mk, bl_lit]
  exact decide_eq_true rfl

theorem r_List (a b : Option (List Int)) (ha : (a.getD []).length < 9223372036854775807) : callV Pg c_ref01_List [⟨tL, a⟩, ⟨tL, b⟩] .bool fun r => r = decide (a.getD [] = b.getD []) := by
  refine w_ref01_List a b ⟨_, rfl⟩ (brV_iff.2 ⟨fun h => ?_, fun h => ?_⟩)
  · have h : ¬ ((a.getD []).length : Int) = ((b.getD []).length : Int) := not_t h
    exact (decide_eq_false fun e => h (by rw [e])).symm
  have hl : ((a.getD []).length : Int) = ((b.getD []).length : Int) := not_f h
  refine loopE (fun p => ∃ i : Nat, p = (a, (b, (((a.getD []).length : Int), (i : Int)))) ∧ i ≤ (a.getD []).length ∧ (a.getD []).take i = (b.getD []).take i) (fun p => (a.getD []).length - p.2.2.2.toNat) ⟨0, rfl, by omega, rfl⟩ ?_
  rintro _ ⟨i, rfl, hi, ht⟩
  dsimp only
  refine brV_iff.2 ⟨fun hc => ?_, fun hc => ?_⟩
  · have hc : (i : Int) < ((a.getD []).length : Int) := dec_t hc
    refine ⟨⟨by omega, by omega⟩, ⟨by omega, by omega⟩, ?_⟩
    have e1 : eltS (0 : Int) a (i : Int) = (a.getD []).getD i 0 := by simp only [eltS, Int.toNat_natCast]
    have e2 : eltS (0 : Int) b (i : Int) = (b.getD []).getD i 0 := by simp only [eltS, Int.toNat_natCast]
    rw [e1, e2]
    refine brV_iff.2 ⟨fun h => ?_, fun h => ?_⟩
    · exact (decide_eq_false fun e => not_t h (by rw [e])).symm
    · have h := not_f h
      rw [wi64 (by omega) (by omega)]
      refine ⟨⟨i + 1, rfl, by omega, ?_⟩, by omega⟩
      have g1 : (a.getD []).getD i 0 = (a.getD [])[i]'(by omega) := by simp [List.getD, show i < (a.getD []).length by omega]
      have g2 : (b.getD []).getD i 0 = (b.getD [])[i]'(by omega) := by simp [List.getD, show i < (b.getD []).length by omega]
      rw [List.take_succ_eq_append_getElem (by omega), List.take_succ_eq_append_getElem (by omega), ht, ← g1, ← g2, h]
  · have hc : ¬ (i : Int) < ((a.getD []).length : Int) := dec_f hc
    obtain rfl : i = (a.getD []).length := by omega
    rw [List.take_of_length_le (Nat.le_refl _), List.take_of_length_le (by omega)] at ht
    exact (decide_eq_true ht).symm

/-- Are the lists short? -/
theorem r_Few (n : Int) (m : DMo) : callV Pg c_ref04_Few [⟨tI, n⟩, ⟨tMo, m⟩] .bool fun _ => True := by
  refine w_ref04_Few n m ⟨false, trivial⟩ (joinR (fun p => ∃ b : Bool, p = (b, m) ∧ (b = false → (m.getD []).length ≤ 45)) ?_ ?_)
  · rintro _ ⟨b, rfl, hb⟩
    dsimp only
    refine brV_iff.2 ⟨fun _ => trivial, fun h => ?_⟩
    have hb := hb h
    refine loopE (fun p => ∃ i : Nat, p = (m, (((m.getD []).length : Int), (i : Int))) ∧ i ≤ (m.getD []).length) (fun p => (m.getD []).length - p.2.2.toNat) ⟨0, rfl, by omega⟩ ?_
    rintro _ ⟨i, rfl, hi⟩
    dsimp only
    refine brV_iff.2 ⟨fun hc => ?_, fun _ => trivial⟩
    have hc : (i : Int) < ((m.getD []).length : Int) := dec_t hc
    rw [eltS_st]
    refine ⟨⟨by omega, by omega⟩, brV_iff.2 ⟨fun _ => trivial, fun h10 => ?_⟩⟩
    have h10 : ¬ (10 : Int) < (((stt (m.getD []) i).2.2.getD []).length : Int) := dec_f h10
    refine loopE (fun p => ∃ j : Nat, p = (m, (((m.getD []).length : Int), ((i : Int), ((stt (m.getD []) i).2.2, ((((stt (m.getD []) i).2.2.getD []).length : Int), (j : Int)))))) ∧ j ≤ ((stt (m.getD []) i).2.2.getD []).length) (fun p => ((stt (m.getD []) i).2.2.getD []).length - p.2.2.2.2.2.toNat) ⟨0, rfl, by omega⟩ ?_
    rintro _ ⟨j, rfl, hj⟩
    dsimp only
    refine brV_iff.2 ⟨fun hd => ?_, fun _ => ?_⟩
    · have hd : (j : Int) < (((stt (m.getD []) i).2.2.getD []).length : Int) := dec_t hd
      refine ⟨⟨by omega, by omega⟩, brV_iff.2 ⟨fun _ => trivial, fun _ => ?_⟩⟩
      rw [wi64 (by omega) (by omega)]
      exact ⟨⟨j + 1, rfl, by omega⟩, by omega⟩
    · rw [wi64 (by omega) (by omega)]
      exact ⟨⟨i + 1, rfl, by omega⟩, by omega⟩
  · intro k hk
    have fin : k ((decide ((45 : Int) < szSl m)), m) := hk _ ⟨_, rfl, fun h => by have h : ¬ (45 : Int) < ((m.getD []).length : Int) := dec_f h; omega⟩
    refine brV_iff.2 ⟨fun _ => brV_iff.2 ⟨fun _ => hk _ ⟨true, rfl, fun h => by cases h⟩, fun _ => fin⟩, fun _ => fin⟩

theorem s_few (l : List DMo) (hl : l.length ≤ 10) : callV Pg c_law04_few [⟨.sl tMo, some l⟩] .bool fun _ => True := by
  refine w_law04_few (some l) ⟨false, trivial⟩ (loopE (fun p => ∃ i : Nat, p = (some l, ((l.length : Int), (i : Int))) ∧ i ≤ l.length) (fun p => l.length - p.2.2.toNat) ⟨0, rfl, by omega⟩ ?_)
  rintro _ ⟨i, rfl, hi⟩
  dsimp only
  refine brV_iff.2 ⟨fun hc => ?_, fun _ => trivial⟩
  have hc : (i : Int) < (l.length : Int) := dec_t hc
  refine ⟨⟨by omega, by simpa using hc⟩, (r_Few 40 _).mono fun _ _ => brV_iff.2 ⟨fun _ => trivial, fun _ => ?_⟩⟩
  rw [wi64 (by omega) (by omega)]
  exact ⟨⟨i + 1, rfl, by omega⟩, by omega⟩

theorem nthS_len (l : List DSt) : ∀ (i : Nat) (x : Int) (out : Option (List Int)), ((nthS l i x out).getD []).length = (out.getD []).length
  | 0, _, _ => rfl
  | i + 1, x, out => by rw [nthS, nthS_len, set_len]

theorem nthQ_len {m : DMo} {k : Int} : ((nthQ m k).1.getD []).length ≤ 40 := by
  unfold nthQ
  split
  · rename_i h
    split
    · have := h.1
      rw [nthS_len]; simp; omega
    · decide
  · decide

theorem s_ModelCounts (m : DMo) (k : Int) (k0 : -9223372036854775808 ≤ k) (k1 : k ≤ 9223372036854775807) : callV Pg c_law04_ModelCounts [⟨tMo, m⟩, ⟨tI, k⟩] .bool fun r => r = true := by
  refine w_law04_ModelCounts m k ⟨_, rfl⟩ ((s_few [m] (by simp)).mono fun p0 _ => ?_)
  refine brV_iff.2 ⟨fun _ => s_awake4.mono fun _ h => h, fun _ => ?_⟩
  refine (r_MCount m).mono ?_
  rintro _ rfl
  refine (r_Nth m k k0 k1).mono ?_
  rintro _ rfl
  refine (s_MCount m).mono ?_
  rintro _ rfl
  refine (s_Nth m k k0 k1).mono ?_
  rintro _ rfl
  refine joinE ?_
  refine brV_iff.2 ⟨fun _ => brV_iff.2 ⟨fun _ => ?_, fun h => absurd rfl (dec_f h)⟩, fun h => absurd rfl (dec_f h)⟩
  refine (r_List _ _ (by have := nthQ_len (m := m) (k := k); omega)).mono ?_
  rintro _ rfl
  refine brV_iff.2 ⟨fun _ => brV_iff.2 ⟨fun _ => ?_, fun h => absurd rfl (dec_f h)⟩, fun h => absurd rfl (dec_f h)⟩
  exact s_awake4.mono fun _ h => h

end Go.Proofs.Pf.B
