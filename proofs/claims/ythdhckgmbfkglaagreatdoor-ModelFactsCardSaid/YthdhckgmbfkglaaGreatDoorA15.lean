/- Typed pure data, a condition on code that says what a call gives, what the code of each function comes to, and what each function gives. -/
import Derived.Lib.LaidTab
import Derived.Lib.ItoaNum
import Derived.Laws.CopyRow
import Derived.Laws.AppendOwn
import Derived.Laws.MakeOwn
import Derived.Laws.BytesString
import Derived.Laws.StructEq
import Derived.Laws.Small
import Derived.Tactics
import Derived.Calls
import Derived.Below
import Derived.KernelRfl
import Derived.Laws.Cells
import Derived.Test.YthdhckgmbfkglaaGreatDoorProg
import Derived.Test.YthdhckgmbfkglaaGreatDoorA9
import Derived.Test.YthdhckgmbfkglaaGreatDoorA11
import Derived.Test.YthdhckgmbfkglaaGreatDoorA13
import Derived.Test.YthdhckgmbfkglaaGreatDoorA14
set_option linter.unusedVariables false
set_option linter.unusedSimpArgs false
namespace Go.Proofs.Pf.B

open Go Go.VM

abbrev Buf := Option (List Int)

def ints (l : List UInt8) : List Int := l.map fun b => (b.toNat : Int)

/-- What the builder holds. -/
def BufIs (b : Buf) (l : List UInt8) : Prop := b.getD [] = ints l

theorem bytesI_bl (s : ByteArray) : bytesI s = ints (bl s) := rfl

theorem ints_len (l : List UInt8) : (ints l).length = l.length := by simp [ints]

theorem appL_getB (c : Buf) (ys : List Int) : (appL c ys).getD [] = c.getD [] ++ ys := by
  cases c with
  | none => cases ys <;> rfl
  | some l => rfl

theorem BufIs.app {b : Buf} {l : List UInt8} (h : BufIs b l) (s : ByteArray) : BufIs (appL b (bytesI s)) (l ++ bl s) := by
  unfold BufIs at *
  rw [appL_getB, h, bytesI_bl]; simp [ints]

theorem BufIs.len {b : Buf} {l : List UInt8} (h : BufIs b l) : (b.getD []).length = l.length := by rw [h, ints_len]

theorem BufIs.str {b : Buf} {l : List UInt8} (h : BufIs b l) : strOf b = ⟨l.toArray⟩ := by
  apply bl_inj
  have e : strOf b = strOf (some (b.getD [])) := rfl
  rw [e, bl_strOf, h, bl_mk]
  simp only [ints, List.map_map]
  conv => rhs; rw [← List.map_id l]
  refine List.map_congr_left fun x _ => ?_
  simp

theorem s_Write {a : ByteArray} {c : Buf} {l : List UInt8} {Q : Int × (Unit × Unit) × Buf → Prop} (hc : BufIs c l) (hl : l.length ≤ 1000000) (ha : (bl a).length ≤ 1000000) (h : ∀ c', BufIs c' (l ++ bl a) → Q (szStr a, (((), ()), c'))) :
    lendV Pg c_strings_Builder_WriteString 2 L_strings_Builder_WriteString_v1 (a, (((), ()), c)) Q := by
  have h2 := h _ (hc.app a)
  refine w_strings_Builder_WriteString_v1 a ((), ()) c ⟨_, h2⟩ (s_copyCheck_used ⟨?_, h2⟩)
  show ((c.getD []).length + (bytesI a).length) * 1 ≤ 140737488355328
  rw [hc.len, bytesI_bl, ints_len]; omega

theorem s_Write0 {a : ByteArray} {Q : Int × (Unit × Unit) × Buf → Prop} (ha : (bl a).length ≤ 1000000) (h : ∀ c', BufIs c' (bl a) → Q (szStr a, (((), ()), c'))) :
    lendV Pg c_strings_Builder_WriteString 2 L_strings_Builder_WriteString_v0 (a, (((), ()), none)) Q := by
  have h2 := h _ (BufIs.app (b := none) (l := []) rfl a)
  refine w_strings_Builder_WriteString_v0 a ((), ()) none ⟨_, h2⟩ (s_copyCheck_fresh ⟨?_, h2⟩)
  show (0 + (bytesI a).length) * 1 ≤ 140737488355328
  rw [bytesI_bl, ints_len]; omega

theorem s_BLen {c : Buf} {Q : Int × (Unit × Unit) × Buf → Prop} (h : Q (szSl c, (((), ()), c))) : lendV Pg c_strings_Builder_Len 1 L_strings_Builder_Len (((), ()), c) Q :=
  w_strings_Builder_Len ((), ()) c ⟨_, h⟩ h

theorem s_BString {c : Buf} {l : List UInt8} {Q : ByteArray × Unit × Unit → Prop} (hc : BufIs c l) (h0 : 0 < l.length) (hl : l.length ≤ 1000000) (h : Q (⟨l.toArray⟩, ((), ()))) : lendV Pg c_strings_Builder_String 1 L_strings_Builder_String (((), ()), c) Q := by
  have e : szSl c = (l.length : Int) := by show ((c.getD []).length : Int) = _; rw [hc.len]
  refine w_strings_Builder_String ((), ()) c ⟨_, h⟩ ⟨by rw [e]; omega, ⟨rfl, rfl, by rw [e]; omega, by rw [e]; omega⟩, ?_⟩
  rw [hc.str]; exact h

abbrev lit (l : List Nat) : List UInt8 := l.map UInt8.ofNat

def brS (l : List DBr) : Nat → List UInt8
  | 0 => []
  | k + 1 => brS l k ++ (if 0 < k then lit [44] else []) ++ (lit [32] ++ Lib.itoa (br l k).1 ++ lit [32] ++ printL (br l k).2)

def chS (l : List DCh) : Nat → List UInt8
  | 0 => []
  | j + 1 => chS l j ++ (lit [99, 104, 111, 105, 99, 101, 32] ++ printL (ch l j).1 ++ lit [58]) ++ brS ((ch l j).2.getD []) ((ch l j).2.getD []).length ++ lit [10]

def stS (l : List DSt) : Nat → List UInt8
  | 0 => []
  | i + 1 => stS l i ++ (lit [115, 116, 97, 116, 101, 32] ++ Lib.itoa (stt l i).1 ++ lit [32] ++ Lib.itoa (stt l i).2.1 ++ lit [10]) ++ chS ((stt l i).2.2.getD []) ((stt l i).2.2.getD []).length

def hdS (m : DMo) : List UInt8 := lit [109, 111, 100, 101, 108, 32] ++ Lib.itoa ((m.getD []).length : Int) ++ lit [10]

def moS (m : DMo) : List UInt8 := hdS m ++ stS (m.getD []) (m.getD []).length

def prtQ (m : DMo) : ByteArray × Int × Unit := if moOk m then (if 32768 < (moS m).length then (bytesL [], 3, ()) else (⟨(moS m).toArray⟩, 0, ())) else (bytesL [], 1, ())

theorem bl_lit (l : List Nat) : bl (bytesL l) = lit l := bytesL_bl l

theorem cat_bl (a b : ByteArray) : bl (catS a b) = bl a ++ bl b := bl_app a b

theorem catC_of {a b : ByteArray} (h : (bl a).length + (bl b).length ≤ 1000000) : catC a b := by
  unfold catC
  rw [size_bl, size_bl]; omega

theorem brS_len {n : Int} {l : List DBr} (hn : n ≤ 40) : ∀ {k : Nat}, (∀ j, j < k → brOk n l j) → (brS l k).length ≤ 140 * k
  | 0, _ => by simp [brS]
  | k + 1, h => by
    have h1 := brS_len hn (k := k) fun j hj => h j (by omega)
    obtain ⟨b1, b2, b3, b4⟩ := h k (by omega)
    have b0 := pre_le (i := k) fun j hj => h j (by omega)
    have h2 := itoa_len (n := (br l k).1) (by omega)
    have h3 := print_len b3
    have h4 : (if 0 < k then lit [44] else []).length ≤ 1 := by split <;> decide
    simp only [brS, List.length_append, List.length_map, List.length_cons, List.length_nil] at h4 ⊢
    omega

theorem chS_len {n : Int} {l : List DCh} (hn : n ≤ 40) : ∀ {j : Nat}, (∀ i, i < j → chOk n (ch l i)) → (chS l j).length ≤ 1300 * j
  | 0, _ => by simp [chS]
  | j + 1, h => by
    have h1 := chS_len hn (j := j) fun i hi => h i (by omega)
    obtain ⟨b1, b2, b3, b4⟩ := h j (by omega)
    have h2 := brS_len hn b3
    have h3 := print_len b1
    simp only [chS, List.length_append, List.length_map, List.length_cons, List.length_nil]
    omega

theorem stS_len {m : DMo} (h : moOk m) : ∀ {i : Nat}, i ≤ (m.getD []).length → (stS (m.getD []) i).length ≤ 11000 * i
  | 0, _ => by simp [stS]
  | i + 1, hi => by
    have h1 := stS_len h (i := i) (by omega)
    obtain ⟨⟨b1, b2, b3⟩, b4⟩ := h.2 i (by omega)
    have h2 := chS_len (by have := h.1; omega) b4
    have h3 := itoa_len (n := (stt (m.getD []) i).1) (by omega)
    have h4 := itoa_len (n := (stt (m.getD []) i).2.1) (by omega)
    simp only [stS, List.length_append, List.length_map, List.length_cons, List.length_nil]
    omega

end Go.Proofs.Pf.B

namespace Go.Proofs.Pf.B

open Go Go.VM

abbrev len (m : DMo) : Nat := (m.getD []).length

theorem s_MPrint (m : DMo) : callV Pg c_model_Print [⟨tMo, m⟩] (.tup (.pair .str (.pair tI .unit))) fun r => r = prtQ m := by
  refine w_model_Print m ⟨_, rfl⟩ ((s_MValid m).mono ?_)
  rintro _ rfl
  refine brV_iff.2 ⟨fun hb => ?_, fun hb => ?_⟩
  · rw [prtQ, if_neg (not_t hb)]
  have h := not_f hb
  have h40 := h.1
  rw [prtQ, if_pos h]
  have i0 := itoa_len (n := ((m.getD []).length : Int)) (by omega)
  refine (s_Itoa (n := ((m.getD []).length : Int)) (by omega) (by omega)).mono ?_
  rintro _ rfl
  refine ⟨catC_of (by rw [bl_lit, bl_itoaB]; simp only [List.length_map, List.length_cons, List.length_nil]; omega), catC_of (by rw [cat_bl, bl_lit, bl_lit, bl_itoaB]; simp only [List.length_append, List.length_map, List.length_cons, List.length_nil]; omega), ?_⟩
  have hh : bl (catS (catS (bytesL [109, 111, 100, 101, 108, 32]) (itoaB ((m.getD []).length : Int))) (bytesL [10])) = hdS m := by rw [cat_bl, cat_bl, bl_lit, bl_lit, bl_itoaB]; rfl
  have hhl : (hdS m).length ≤ 100 := by
    simp only [hdS, List.length_append, List.length_map, List.length_cons, List.length_nil]; omega
  refine s_Write0 (by rw [hh]; omega) fun c0 hc0 => ?_
  rw [hh] at hc0
  refine loopE (fun p => ∃ (i : Nat) (b : Buf), p = (m, (((m.getD []).length : Int), ((i : Int), (((), ()), b)))) ∧ i ≤ (m.getD []).length ∧ BufIs b (hdS m ++ stS (m.getD []) i)) (fun p => (m.getD []).length - p.2.2.1.toNat) ⟨0, c0, rfl, by omega, by simpa [stS] using hc0⟩ ?_
  rintro _ ⟨i, b, rfl, hi, hbuf⟩
  dsimp only
  have hl1 : (hdS m ++ stS (m.getD []) i).length ≤ 100 + 11000 * i := by
    have := stS_len h hi
    simp only [List.length_append]; omega
  refine brV_iff.2 ⟨fun hc => ?_, fun hc => ?_⟩
  · have hc : (i : Int) < ((m.getD []).length : Int) := dec_t hc
    rw [eltS_st]
    obtain ⟨⟨b1, b2, b3⟩, b4⟩ := h.2 i (by omega)
    have i1 := itoa_len (n := (stt (m.getD []) i).1) (by omega)
    have i2 := itoa_len (n := (stt (m.getD []) i).2.1) (by omega)
    refine ⟨⟨by omega, by omega⟩, (s_Itoa (n := (stt (m.getD []) i).1) (by omega) (by omega)).mono ?_⟩
    rintro _ rfl
    refine ⟨catC_of (by rw [bl_lit, bl_itoaB]; simp only [List.length_map, List.length_cons, List.length_nil]; omega), catC_of (by rw [cat_bl, bl_lit, bl_lit, bl_itoaB]; simp only [List.length_append, List.length_map, List.length_cons, List.length_nil]; omega), ?_⟩
    refine (s_Itoa (n := (stt (m.getD []) i).2.1) (by omega) (by omega)).mono ?_
    rintro _ rfl
    refine ⟨catC_of (by rw [cat_bl, cat_bl, bl_lit, bl_lit, bl_itoaB, bl_itoaB]; simp only [List.length_append, List.length_map, List.length_cons, List.length_nil]; omega), catC_of (by rw [cat_bl, cat_bl, cat_bl, bl_lit, bl_lit, bl_lit, bl_itoaB, bl_itoaB]; simp only [List.length_append, List.length_map, List.length_cons, List.length_nil]; omega), ?_⟩
    have hs : bl (catS (catS (catS (catS (bytesL [115, 116, 97, 116, 101, 32]) (itoaB (stt (m.getD []) i).1)) (bytesL [32])) (itoaB (stt (m.getD []) i).2.1)) (bytesL [10])) = lit [115, 116, 97, 116, 101, 32] ++ Lib.itoa (stt (m.getD []) i).1 ++ lit [32] ++ Lib.itoa (stt (m.getD []) i).2.1 ++ lit [10] := by
      rw [cat_bl, cat_bl, cat_bl, cat_bl, bl_lit, bl_lit, bl_lit, bl_itoaB, bl_itoaB]
    have hsl : (lit [115, 116, 97, 116, 101, 32] ++ Lib.itoa (stt (m.getD []) i).1 ++ lit [32] ++ Lib.itoa (stt (m.getD []) i).2.1 ++ lit [10]).length ≤ 100 := by
      simp only [List.length_append, List.length_map, List.length_cons, List.length_nil]; omega
    refine s_Write hbuf (by omega) (by rw [hs]; omega) fun c1 hc1 => ?_
    rw [hs] at hc1
    -- the state's choices
    refine loopE (fun p => ∃ (j : Nat) (b : Buf), p = (m, (((m.getD []).length : Int), ((i : Int), ((stt (m.getD []) i).2.2, ((((stt (m.getD []) i).2.2.getD []).length : Int), ((j : Int), (((), ()), b))))))) ∧ j ≤ ((stt (m.getD []) i).2.2.getD []).length ∧
        BufIs b ((hdS m ++ stS (m.getD []) i) ++ (lit [115, 116, 97, 116, 101, 32] ++ Lib.itoa (stt (m.getD []) i).1 ++ lit [32] ++ Lib.itoa (stt (m.getD []) i).2.1 ++ lit [10]) ++ chS ((stt (m.getD []) i).2.2.getD []) j))
      (fun p => ((stt (m.getD []) i).2.2.getD []).length - p.2.2.2.2.2.1.toNat) ⟨0, c1, rfl, by omega, by simpa [chS] using hc1⟩ ?_
    rintro _ ⟨j, b, rfl, hj, hbuf2⟩
    dsimp only
    generalize hpre : (hdS m ++ stS (m.getD []) i) ++ (lit [115, 116, 97, 116, 101, 32] ++ Lib.itoa (stt (m.getD []) i).1 ++ lit [32] ++ Lib.itoa (stt (m.getD []) i).2.1 ++ lit [10]) = pre at hbuf2 ⊢
    have hprel : pre.length ≤ 200 + 11000 * i := by rw [← hpre, List.length_append]; omega
    have hcl : (chS ((stt (m.getD []) i).2.2.getD []) j).length ≤ 1300 * j := chS_len (n := ((m.getD []).length : Int)) (by omega) fun k hk => b4 k (by omega)
    have hl2 : (pre ++ chS ((stt (m.getD []) i).2.2.getD []) j).length ≤ 200 + 11000 * i + 1300 * j := by rw [List.length_append]; omega
    refine brV_iff.2 ⟨fun hd => ?_, fun hd => ?_⟩
    · have hd : (j : Int) < (((stt (m.getD []) i).2.2.getD []).length : Int) := dec_t hd
      rw [eltS_ch]
      generalize hch : ch ((stt (m.getD []) i).2.2.getD []) j = c
      have hcok : chOk ((m.getD []).length : Int) c := hch ▸ b4 j (by omega)
      obtain ⟨d1, d2, d3, d4⟩ := hcok
      have pl := print_len d1
      refine ⟨⟨by omega, by omega⟩, (s_NPrint c.1).mono ?_⟩
      rintro _ rfl
      rw [printQ, if_pos d1]
      refine ⟨catC_of (by rw [bl_lit, bl_printB]; simp only [List.length_map, List.length_cons, List.length_nil]; omega), catC_of (by rw [cat_bl, bl_lit, bl_lit, bl_printB]; simp only [List.length_append, List.length_map, List.length_cons, List.length_nil]; omega), ?_⟩
      have hs2 : bl (catS (catS (bytesL [99, 104, 111, 105, 99, 101, 32]) (printB c.1)) (bytesL [58])) = lit [99, 104, 111, 105, 99, 101, 32] ++ printL c.1 ++ lit [58] := by
        rw [cat_bl, cat_bl, bl_lit, bl_lit, bl_printB]
      have hs2l : (lit [99, 104, 111, 105, 99, 101, 32] ++ printL c.1 ++ lit [58]).length ≤ 100 := by
        simp only [List.length_append, List.length_map, List.length_cons, List.length_nil]; omega
      refine s_Write hbuf2 (by omega) (by rw [hs2]; omega) fun c2 hc2 => ?_
      rw [hs2] at hc2
      generalize hpre2 : (pre ++ chS ((stt (m.getD []) i).2.2.getD []) j) ++ (lit [99, 104, 111, 105, 99, 101, 32] ++ printL c.1 ++ lit [58]) = pre2 at hc2
      have hpre2l : pre2.length ≤ 300 + 11000 * i + 1300 * j := by rw [← hpre2, List.length_append]; omega
      -- the choice's branches
      refine loopE (fun p => ∃ (k : Nat) (b : Buf), p = (m, (((m.getD []).length : Int), ((i : Int), ((stt (m.getD []) i).2.2, ((((stt (m.getD []) i).2.2.getD []).length : Int), ((j : Int), (c.2, (((c.2.getD []).length : Int), ((k : Int), (((), ()), b)))))))))) ∧ k ≤ (c.2.getD []).length ∧
          BufIs b (pre2 ++ brS (c.2.getD []) k)) (fun p => (c.2.getD []).length - p.2.2.2.2.2.2.2.2.1.toNat) ⟨0, c2, rfl, by omega, by simpa [brS] using hc2⟩ ?_
      rintro _ ⟨k, b, rfl, hk, hbuf3⟩
      dsimp only
      have hbl : (brS (c.2.getD []) k).length ≤ 140 * k := brS_len (n := ((m.getD []).length : Int)) (by omega) fun q hq => d3 q (by omega)
      have hl3 : (pre2 ++ brS (c.2.getD []) k).length ≤ 300 + 11000 * i + 1300 * j + 140 * k := by rw [List.length_append]; omega
      refine brV_iff.2 ⟨fun he => ?_, fun he => ?_⟩
      · have he : (k : Int) < ((c.2.getD []).length : Int) := dec_t he
        rw [eltS_br]
        obtain ⟨f1, f2, f3, f4⟩ := d3 k (by omega)
        have f0 := pre_le (i := k) fun q hq => d3 q (by omega)
        have i3 := itoa_len (n := (br (c.2.getD []) k).1) (by omega)
        have pl3 := print_len f3
        refine ⟨⟨by omega, by omega⟩, joinR (fun p => ∃ b : Buf, p = (m, (((m.getD []).length : Int), ((i : Int), ((stt (m.getD []) i).2.2, ((((stt (m.getD []) i).2.2.getD []).length : Int), ((j : Int), (c.2, (((c.2.getD []).length : Int), ((k : Int), (((), ()), (br (c.2.getD []) k, b))))))))))) ∧
            BufIs b (pre2 ++ brS (c.2.getD []) k ++ (if 0 < k then lit [44] else []))) ?_ ?_⟩
        · rintro _ ⟨b, rfl, hbuf4⟩
          dsimp only
          have hl4 : (pre2 ++ brS (c.2.getD []) k ++ (if 0 < k then lit [44] else [])).length ≤ 400 + 11000 * i + 1300 * j + 140 * k := by
            have h4 : (if 0 < k then lit [44] else []).length ≤ 1 := by split <;> decide
            rw [List.length_append]; omega
          refine (s_NPrint _).mono ?_
          rintro _ rfl
          rw [printQ, if_pos f3]
          refine (s_Itoa (n := (br (c.2.getD []) k).1) (by omega) (by omega)).mono ?_
          rintro _ rfl
          refine ⟨catC_of (by rw [bl_lit, bl_itoaB]; simp only [List.length_map, List.length_cons, List.length_nil]; omega), catC_of (by rw [cat_bl, bl_lit, bl_itoaB]; simp only [List.length_append, List.length_map, List.length_cons, List.length_nil]; omega), catC_of (by rw [cat_bl, cat_bl, bl_lit, bl_itoaB, bl_printB]; simp only [List.length_append, List.length_map, List.length_cons, List.length_nil]; omega), ?_⟩
          have hs3 : bl (catS (catS (catS (bytesL [32]) (itoaB (br (c.2.getD []) k).1)) (bytesL [32])) (printB (br (c.2.getD []) k).2)) = lit [32] ++ Lib.itoa (br (c.2.getD []) k).1 ++ lit [32] ++ printL (br (c.2.getD []) k).2 := by
            rw [cat_bl, cat_bl, cat_bl, bl_lit, bl_itoaB, bl_printB]
          refine s_Write hbuf4 (by omega) (by rw [hs3]; simp only [List.length_append, List.length_map, List.length_cons, List.length_nil]; omega) fun c4 hc4 => ?_
          rw [hs3] at hc4
          rw [wi64 (by omega) (by omega)]
          refine ⟨⟨k + 1, c4, rfl, by omega, ?_⟩, by omega⟩
          have e : pre2 ++ brS (c.2.getD []) (k + 1) = pre2 ++ brS (c.2.getD []) k ++ (if 0 < k then lit [44] else []) ++ (lit [32] ++ Lib.itoa (br (c.2.getD []) k).1 ++ lit [32] ++ printL (br (c.2.getD []) k).2) := by
            simp only [brS, List.append_assoc]
          rw [e]; exact hc4
        · intro k' hk'
          refine brV_iff.2 ⟨fun hf => ?_, fun hf => ?_⟩
          · have hf : (0 : Int) < (k : Int) := dec_t hf
            refine s_Write hbuf3 (by omega) (by rw [bl_lit]; decide) fun c4 hc4 => hk' _ ⟨c4, rfl, ?_⟩
            rw [bl_lit] at hc4
            rw [if_pos (by omega)]; exact hc4
          · have hf : ¬ (0 : Int) < (k : Int) := dec_f hf
            refine hk' _ ⟨b, rfl, ?_⟩
            rw [if_neg (by omega), List.append_nil]; exact hbuf3
      · have he : ¬ (k : Int) < ((c.2.getD []).length : Int) := dec_f he
        obtain rfl : k = (c.2.getD []).length := by omega
        refine s_Write hbuf3 (by omega) (by rw [bl_lit]; decide) fun c4 hc4 => ?_
        rw [bl_lit] at hc4
        rw [wi64 (by omega) (by omega)]
        refine ⟨⟨j + 1, c4, rfl, by omega, ?_⟩, by omega⟩
        have e : pre ++ chS ((stt (m.getD []) i).2.2.getD []) (j + 1) = pre2 ++ brS (c.2.getD []) (c.2.getD []).length ++ lit [10] := by
          rw [← hpre2, ← hch]
          simp only [chS, List.append_assoc]
        rw [e]; exact hc4
    · have hd : ¬ (j : Int) < (((stt (m.getD []) i).2.2.getD []).length : Int) := dec_f hd
      obtain rfl : j = ((stt (m.getD []) i).2.2.getD []).length := by omega
      rw [wi64 (by omega) (by omega)]
      refine ⟨⟨i + 1, b, rfl, by omega, ?_⟩, by omega⟩
      have e : hdS m ++ stS (m.getD []) (i + 1) = pre ++ chS ((stt (m.getD []) i).2.2.getD []) ((stt (m.getD []) i).2.2.getD []).length := by
        rw [← hpre]
        simp only [stS, List.append_assoc]
      rw [e]; exact hbuf2
  · have hc : ¬ (i : Int) < ((m.getD []).length : Int) := dec_f hc
    obtain rfl : i = (m.getD []).length := by omega
    have e1 : szSl b = ((moS m).length : Int) := by show ((b.getD []).length : Int) = _; rw [hbuf.len]; rfl
    refine s_BLen ?_
    dsimp only
    rw [e1]
    have hpos : 0 < (moS m).length := by
      simp only [moS, hdS, List.length_append, List.length_map, List.length_cons]; omega
    refine brV_iff.2 ⟨fun hf => ?_, fun hf => ?_⟩
    · have hf : (32768 : Int) < ((moS m).length : Int) := dec_t hf
      rw [if_pos (by omega)]
    · have hf : ¬ (32768 : Int) < ((moS m).length : Int) := dec_f hf
      rw [if_neg (by omega)]
      exact s_BString (l := moS m) hbuf hpos (by omega) rfl

end Go.Proofs.Pf.B

namespace Go.Proofs.Pf.B

open Go Go.VM

def diceM : DMo := some [(0, 0, some [((0, 1), some [(1, 2, 3), (2, 1, 3)]), ((0, 1), some [(0, 1, 2), (1, 1, 4), (2, 1, 4)])]), (0, 0, some [((0, 1), some [(1, 1, 1)])]), (0, 1, some [((0, 1), some [(2, 1, 1)])])]

theorem s_lnum (a b : Int) : callV Pg c_law04_num [⟨tI, a⟩, ⟨tI, b⟩] tNum fun r => r = (a, b) := w_law04_num a b ⟨_, rfl⟩ rfl

theorem s_dice : callV Pg c_law04_dice [] tMo fun r => r = diceM := by
  refine w_law04_dice ⟨_, rfl⟩ ?_
  refine (s_lnum 0 1).mono ?_; rintro _ rfl
  refine (s_lnum 2 3).mono ?_; rintro _ rfl
  refine (s_lnum 1 3).mono ?_; rintro _ rfl
  refine joinE ?_
  refine (s_lnum 0 1).mono ?_; rintro _ rfl
  refine joinE ?_
  refine (s_lnum 1 2).mono ?_; rintro _ rfl
  refine (s_lnum 1 4).mono ?_; rintro _ rfl
  refine joinE ?_
  refine (s_lnum 1 4).mono ?_; rintro _ rfl
  refine joinE ?_
  refine (s_lnum 0 1).mono ?_; rintro _ rfl
  refine (s_lnum 1 1).mono ?_; rintro _ rfl
  refine joinE ?_
  refine joinE ?_
  refine (s_lnum 0 1).mono ?_; rintro _ rfl
  refine (s_lnum 1 1).mono ?_; rintro _ rfl
  refine joinE ?_
  refine joinE ?_
  rfl

theorem dice_ok : moOk diceM := by decide +kernel

theorem dice_text : moS diceM = lit [109, 111, 100, 101, 108, 32, 51, 10, 115, 116, 97, 116, 101, 32, 48, 32, 48, 10, 99, 104, 111, 105, 99, 101, 32, 48, 58, 32, 49, 32, 50, 47, 51, 44, 32, 50, 32, 49, 47, 51, 10, 99, 104, 111, 105, 99, 101, 32, 48, 58, 32, 48, 32, 49, 47, 50, 44, 32, 49, 32, 49, 47, 52, 44, 32, 50, 32, 49, 47, 52, 10, 115, 116, 97, 116, 101, 32, 48, 32, 48, 10, 99, 104, 111, 105, 99, 101, 32, 48, 58, 32, 49, 32, 49, 10, 115, 116, 97, 116, 101, 32, 48, 32, 49, 10, 99, 104, 111, 105, 99, 101, 32, 48, 58, 32, 50, 32, 49, 10] := by
  decide +kernel

theorem s_awake4 : callV Pg c_law04_awake [] .bool fun r => r = true := by
  refine w_law04_awake ⟨_, rfl⟩ (s_dice.mono ?_)
  rintro _ rfl
  refine (s_MPrint diceM).mono ?_
  rintro _ rfl
  rw [prtQ, if_pos dice_ok, dice_text, if_neg (by decide)]
  refine joinE (brV_iff.2 ⟨fun _ => ?_, fun h => absurd rfl (dec_f h)⟩)
  show eqStr _ _ = true
  rw [eqStr_bl, bl_mk, bl_lit]
  exact decide_eq_true rfl

end Go.Proofs.Pf.B

namespace Go.Proofs.Pf.B

open Go Go.VM

abbrev int (l : List Int) (i : Nat) : Int := l.getD i 0

theorem eltS_int {l : Option (List Int)} {i : Nat} : eltS (0 : Int) l (i : Int) = int (l.getD []) i := by simp only [eltS, Int.toNat_natCast]

def preI (l : List Int) : Nat → Int
  | 0 => -1
  | i + 1 => int l i

def setAt (n : Int) (l : List Int) (i : Nat) : Prop := preI l i < int l i ∧ int l i < n

instance (n : Int) (l : List Int) (i : Nat) : Decidable (setAt n l i) := by unfold setAt; infer_instance

def setOk (n : Int) (l : List Int) : Prop := ∀ i, i < l.length → setAt n l i

instance (n : Int) (l : List Int) : Decidable (setOk n l) := by unfold setOk; infer_instance

theorem preI_le {n : Int} {l : List Int} : ∀ {i : Nat}, (∀ j, j < i → setAt n l j) → -1 ≤ preI l i
  | 0, _ => by simp [preI]
  | i + 1, h => by
    have h1 := (h i (by omega)).1
    have h2 := preI_le (i := i) fun j hj => h j (by omega)
    show -1 ≤ int l i
    omega

theorem s_Set (m : DMo) (l : Option (List Int)) (hl : (l.getD []).length < 4611686018427387904) : callV Pg c_model_Set [⟨tMo, m⟩, ⟨tL, l⟩] .bool fun r => r = decide (setOk ((m.getD []).length : Int) (l.getD [])) := by
  refine w_model_Set m l ⟨_, rfl⟩ (loopE (fun p => ∃ i : Nat, p = (preI (l.getD []) i, (l, (((l.getD []).length : Int), ((i : Int), m)))) ∧ i ≤ (l.getD []).length ∧ ∀ j, j < i → setAt ((m.getD []).length : Int) (l.getD []) j) (fun p => (l.getD []).length - p.2.2.2.1.toNat) ⟨0, rfl, by omega, fun j h => by omega⟩ ?_)
  rintro _ ⟨i, rfl, hi, hall⟩
  dsimp only
  refine brV_iff.2 ⟨fun hc => ?_, fun hc => ?_⟩
  · have hc : (i : Int) < ((l.getD []).length : Int) := dec_t hc
    rw [eltS_int]
    refine ⟨⟨by omega, by omega⟩, joinR (fun p => ∃ b : Bool, p = (int (l.getD []) i, (l, (((l.getD []).length : Int), ((i : Int), (b, m))))) ∧ (b = true → ¬ setAt ((m.getD []).length : Int) (l.getD []) i) ∧ (b = false → setAt ((m.getD []).length : Int) (l.getD []) i)) ?_ ?_⟩
    · rintro _ ⟨b, rfl, h1, h2⟩
      dsimp only
      refine brV_iff.2 ⟨fun h => (decide_eq_false fun hq => h1 h (hq i (by omega))).symm, fun h => ?_⟩
      rw [wi64 (by omega) (by omega)]
      refine ⟨⟨i + 1, rfl, by omega, fun j hj => ?_⟩, by omega⟩
      rcases Nat.lt_or_ge j i with q | q
      · exact hall j q
      · obtain rfl : j = i := by omega
        exact h2 h
    · intro k hk
      refine brV_iff.2 ⟨fun h => hk _ ⟨true, rfl, fun _ hq => ?_, fun h => by cases h⟩, fun h => ?_⟩
      · have h := dec_t h; have := hq.1; omega
      have e1 := dec_f h
      refine hk _ ⟨_, rfl, fun h hq => ?_, fun h => ⟨by omega, ?_⟩⟩
      · have h : ((m.getD []).length : Int) ≤ int (l.getD []) i := dec_t h
        have := hq.2; omega
      · have h : ¬ ((m.getD []).length : Int) ≤ int (l.getD []) i := dec_f h
        omega
  · have hc : ¬ (i : Int) < ((l.getD []).length : Int) := dec_f hc
    obtain rfl : i = (l.getD []).length := by omega
    exact (decide_eq_true hall).symm

theorem r_Set (m : DMo) (l : Option (List Int)) (hl : (l.getD []).length < 4611686018427387904) : callV Pg c_ref04_Set [⟨tMo, m⟩, ⟨tL, l⟩] .bool fun r => r = decide (setOk ((m.getD []).length : Int) (l.getD [])) := by
  refine w_ref04_Set m l ⟨_, rfl⟩ (loopE (fun p => ∃ i : Nat, p = (l, (l, (((l.getD []).length : Int), ((i : Int), m)))) ∧ i ≤ (l.getD []).length ∧ ∀ j, j < i → setAt ((m.getD []).length : Int) (l.getD []) j) (fun p => (l.getD []).length - p.2.2.2.1.toNat) ⟨0, rfl, by omega, fun j h => by omega⟩ ?_)
  rintro _ ⟨i, rfl, hi, hall⟩
  dsimp only
  refine brV_iff.2 ⟨fun hc => ?_, fun hc => ?_⟩
  · have hc : (i : Int) < ((l.getD []).length : Int) := dec_t hc
    have hpre := preI_le hall
    rw [eltS_int]
    refine ⟨⟨by omega, by omega⟩, joinR (fun p => ∃ b : Bool, p = (l, (l, (((l.getD []).length : Int), ((i : Int), (b, m))))) ∧ (b = true → ¬ setAt ((m.getD []).length : Int) (l.getD []) i) ∧ (b = false → setAt ((m.getD []).length : Int) (l.getD []) i)) ?_ ?_⟩
    · rintro _ ⟨b, rfl, h1, h2⟩
      dsimp only
      refine brV_iff.2 ⟨fun h => (decide_eq_false fun hq => h1 h (hq i (by omega))).symm, fun h => ?_⟩
      rw [wi64 (by omega) (by omega)]
      refine ⟨⟨i + 1, rfl, by omega, fun j hj => ?_⟩, by omega⟩
      rcases Nat.lt_or_ge j i with q | q
      · exact hall j q
      · obtain rfl : j = i := by omega
        exact h2 h
    · intro k hk
      refine brV_iff.2 ⟨fun h => hk _ ⟨true, rfl, fun _ hq => ?_, fun h => by cases h⟩, fun h => ?_⟩
      · have h := dec_t h; have := hq.1; omega
      have e1 := dec_f h
      refine brV_iff.2 ⟨fun h => hk _ ⟨true, rfl, fun _ hq => ?_, fun h => by cases h⟩, fun h => ?_⟩
      · have h : ((m.getD []).length : Int) ≤ int (l.getD []) i := dec_t h
        have := hq.2; omega
      have e2 : ¬ ((m.getD []).length : Int) ≤ int (l.getD []) i := dec_f h
      refine brV_iff.2 ⟨fun h => ?_, fun h => ?_⟩
      · have h := dec_t h
        obtain ⟨j, rfl⟩ : ∃ j, i = j + 1 := ⟨i - 1, by omega⟩
        rw [wi64 (by omega) (by omega), show ((j + 1 : Nat) : Int) - 1 = (j : Int) by omega, eltS_int]
        refine ⟨⟨by omega, by omega⟩, hk _ ⟨_, rfl, fun h hq => ?_, fun h => ⟨?_, by omega⟩⟩⟩
        · have h := dec_t h; have : int (l.getD []) j < _ := hq.1; omega
        · have h := dec_f h
          show int (l.getD []) j < _
          omega
      · have h := dec_f h
        obtain rfl : i = 0 := by omega
        exact hk _ ⟨false, rfl, (fun h => by cases h), (fun _ => ⟨show (-1 : Int) < _ by omega, by omega⟩)⟩
  · have hc : ¬ (i : Int) < ((l.getD []).length : Int) := dec_f hc
    obtain rfl : i = (l.getD []).length := by omega
    exact (decide_eq_true hall).symm

def strAt (m : List DSt) (l : List Int) (i : Nat) : Prop := 0 ≤ int l i ∧ int l i < cntL (stt m i)

instance (m : List DSt) (l : List Int) (i : Nat) : Decidable (strAt m l i) := by unfold strAt; infer_instance

def strOk (m : DMo) (l : List Int) : Prop := l.length = (m.getD []).length ∧ ∀ i, i < l.length → strAt (m.getD []) l i

instance (m : DMo) (l : List Int) : Decidable (strOk m l) := by unfold strOk; infer_instance

theorem s_Strategy (m : DMo) (l : Option (List Int)) (hl : (l.getD []).length < 4611686018427387904) : callV Pg c_model_Strategy [⟨tMo, m⟩, ⟨tL, l⟩] .bool fun r => r = decide (strOk m (l.getD [])) := by
  refine w_model_Strategy m l ⟨_, rfl⟩ (brV_iff.2 ⟨fun h => ?_, fun h => ?_⟩)
  · have h : ¬ ((l.getD []).length : Int) = ((m.getD []).length : Int) := not_t h
    exact (decide_eq_false fun hq => h (by rw [hq.1])).symm
  have hlen : ((l.getD []).length : Int) = ((m.getD []).length : Int) := not_f h
  refine loopE (fun p => ∃ i : Nat, p = (l, (((l.getD []).length : Int), ((i : Int), m))) ∧ i ≤ (l.getD []).length ∧ ∀ j, j < i → strAt (m.getD []) (l.getD []) j) (fun p => (l.getD []).length - p.2.2.1.toNat) ⟨0, rfl, by omega, fun j h => by omega⟩ ?_
  rintro _ ⟨i, rfl, hi, hall⟩
  dsimp only
  refine brV_iff.2 ⟨fun hc => ?_, fun hc => ?_⟩
  · have hc : (i : Int) < ((l.getD []).length : Int) := dec_t hc
    rw [eltS_int]
    refine ⟨⟨by omega, by omega⟩, joinR (fun p => ∃ b : Bool, p = (l, (((l.getD []).length : Int), ((i : Int), (b, m)))) ∧ (b = true → ¬ strAt (m.getD []) (l.getD []) i) ∧ (b = false → strAt (m.getD []) (l.getD []) i)) ?_ ?_⟩
    · rintro _ ⟨b, rfl, h1, h2⟩
      dsimp only
      refine brV_iff.2 ⟨fun h => (decide_eq_false fun hq => h1 h (hq.2 i (by omega))).symm, fun h => ?_⟩
      rw [wi64 (by omega) (by omega)]
      refine ⟨⟨i + 1, rfl, by omega, fun j hj => ?_⟩, by omega⟩
      rcases Nat.lt_or_ge j i with q | q
      · exact hall j q
      · obtain rfl : j = i := by omega
        exact h2 h
    · intro k hk
      refine brV_iff.2 ⟨fun h => hk _ ⟨true, rfl, fun _ hq => ?_, fun h => by cases h⟩, fun h => ?_⟩
      · have h := dec_t h; have := hq.1; omega
      have e1 := dec_f h
      rw [eltS_st]
      refine ⟨⟨by omega, by omega⟩, hk _ ⟨_, rfl, fun h hq => ?_, fun h => ⟨by omega, ?_⟩⟩⟩
      · have h : cntL (stt (m.getD []) i) ≤ int (l.getD []) i := dec_t h
        have := hq.2; omega
      · have h : ¬ cntL (stt (m.getD []) i) ≤ int (l.getD []) i := dec_f h
        omega
  · have hc : ¬ (i : Int) < ((l.getD []).length : Int) := dec_f hc
    obtain rfl : i = (l.getD []).length := by omega
    exact (decide_eq_true ⟨by omega, hall⟩).symm

theorem r_Strategy (m : DMo) (l : Option (List Int)) (hl : (l.getD []).length < 4611686018427387904) : callV Pg c_ref04_Strategy [⟨tMo, m⟩, ⟨tL, l⟩] .bool fun r => r = decide (strOk m (l.getD [])) := by
  refine w_ref04_Strategy m l ⟨_, rfl⟩ (brV_iff.2 ⟨fun h => ?_, fun h => ?_⟩)
  · have h : ¬ ((l.getD []).length : Int) = ((m.getD []).length : Int) := not_t h
    exact (decide_eq_false fun hq => h (by rw [hq.1])).symm
  have hlen : ((l.getD []).length : Int) = ((m.getD []).length : Int) := not_f h
  refine loopE (fun p => ∃ i : Nat, p = (l, (((l.getD []).length : Int), ((i : Int), m))) ∧ i ≤ (l.getD []).length ∧ ∀ j, j < i → strAt (m.getD []) (l.getD []) j) (fun p => (l.getD []).length - p.2.2.1.toNat) ⟨0, rfl, by omega, fun j h => by omega⟩ ?_
  rintro _ ⟨i, rfl, hi, hall⟩
  dsimp only
  refine brV_iff.2 ⟨fun hc => ?_, fun hc => ?_⟩
  · have hc : (i : Int) < ((l.getD []).length : Int) := dec_t hc
    rw [eltS_int]
    refine ⟨⟨by omega, by omega⟩, joinR (fun p => ∃ b : Bool, p = (l, (((l.getD []).length : Int), ((i : Int), (b, m)))) ∧ (b = true → ¬ strAt (m.getD []) (l.getD []) i) ∧ (b = false → strAt (m.getD []) (l.getD []) i)) ?_ ?_⟩
    · rintro _ ⟨b, rfl, h1, h2⟩
      dsimp only
      refine brV_iff.2 ⟨fun h => (decide_eq_false fun hq => h1 h (hq.2 i (by omega))).symm, fun h => ?_⟩
      rw [wi64 (by omega) (by omega)]
      refine ⟨⟨i + 1, rfl, by omega, fun j hj => ?_⟩, by omega⟩
      rcases Nat.lt_or_ge j i with q | q
      · exact hall j q
      · obtain rfl : j = i := by omega
        exact h2 h
    · intro k hk
      refine brV_iff.2 ⟨fun h => hk _ ⟨true, rfl, fun _ hq => ?_, fun h => by cases h⟩, fun h => ?_⟩
      · have h := dec_t h; have := hq.1; omega
      have e1 := dec_f h
      rw [eltS_st]
      refine ⟨⟨by omega, by omega⟩, hk _ ⟨_, rfl, fun h hq => ?_, fun h => ⟨by omega, ?_⟩⟩⟩
      · have h : cntL (stt (m.getD []) i) ≤ int (l.getD []) i := dec_t h
        have := hq.2; omega
      · have h : ¬ cntL (stt (m.getD []) i) ≤ int (l.getD []) i := dec_f h
        omega
  · have hc : ¬ (i : Int) < ((l.getD []).length : Int) := dec_f hc
    obtain rfl : i = (l.getD []).length := by omega
    exact (decide_eq_true ⟨by omega, hall⟩).symm

def vQ (m : DMo) (b : Bool) : Bool × Int × Unit := if moOk m then (b, 0, ()) else (false, 1, ())

theorem s_ValidSet (m : DMo) (l : Option (List Int)) (hl : (l.getD []).length < 4611686018427387904) : callV Pg c_model_ValidSet [⟨tMo, m⟩, ⟨tL, l⟩] (.tup (.pair .bool (.pair tI .unit))) fun r => r = vQ m (decide (setOk ((m.getD []).length : Int) (l.getD []))) := by
  refine w_model_ValidSet m l ⟨_, rfl⟩ ((s_MValid m).mono ?_)
  rintro _ rfl
  refine brV_iff.2 ⟨fun hb => by rw [vQ, if_neg (not_t hb)], fun hb => (s_Set m l hl).mono ?_⟩
  rintro _ rfl
  rw [vQ, if_pos (not_f hb)]

theorem r_ValidSet (m : DMo) (l : Option (List Int)) (hl : (l.getD []).length < 4611686018427387904) : callV Pg c_ref04_ValidSet [⟨tMo, m⟩, ⟨tL, l⟩] (.tup (.pair .bool (.pair tI .unit))) fun r => r = vQ m (decide (setOk ((m.getD []).length : Int) (l.getD []))) := by
  refine w_ref04_ValidSet m l ⟨_, rfl⟩ ((r_MValid m).mono ?_)
  rintro _ rfl
  refine brV_iff.2 ⟨fun hb => by rw [vQ, if_neg (not_t hb)], fun hb => (r_Set m l hl).mono ?_⟩
  rintro _ rfl
  rw [vQ, if_pos (not_f hb)]

theorem s_ValidStrategy (m : DMo) (l : Option (List Int)) (hl : (l.getD []).length < 4611686018427387904) : callV Pg c_model_ValidStrategy [⟨tMo, m⟩, ⟨tL, l⟩] (.tup (.pair .bool (.pair tI .unit))) fun r => r = vQ m (decide (strOk m (l.getD []))) := by
  refine w_model_ValidStrategy m l ⟨_, rfl⟩ ((s_MValid m).mono ?_)
  rintro _ rfl
  refine brV_iff.2 ⟨fun hb => by rw [vQ, if_neg (not_t hb)], fun hb => (s_Strategy m l hl).mono ?_⟩
  rintro _ rfl
  rw [vQ, if_pos (not_f hb)]

theorem r_ValidStrategy (m : DMo) (l : Option (List Int)) (hl : (l.getD []).length < 4611686018427387904) : callV Pg c_ref04_ValidStrategy [⟨tMo, m⟩, ⟨tL, l⟩] (.tup (.pair .bool (.pair tI .unit))) fun r => r = vQ m (decide (strOk m (l.getD []))) := by
  refine w_ref04_ValidStrategy m l ⟨_, rfl⟩ ((r_MValid m).mono ?_)
  rintro _ rfl
  refine brV_iff.2 ⟨fun hb => by rw [vQ, if_neg (not_t hb)], fun hb => (r_Strategy m l hl).mono ?_⟩
  rintro _ rfl
  rw [vQ, if_pos (not_f hb)]

end Go.Proofs.Pf.B

namespace Go.Proofs.Pf.B

open Go Go.VM

def single (m : DMo) : Prop := ∀ i, i < (m.getD []).length → ((stt (m.getD []) i).2.2.getD []).length = 1

instance (m : DMo) : Decidable (single m) := by unfold single; infer_instance

theorem s_IsChain_1 (s : DSt) : callV Pg c_model_IsChain_1 [⟨tSt, s⟩] .bool fun r => r = decide ((1 : Int) < ((s.2.2.getD []).length : Int)) := w_model_IsChain_1 s ⟨_, rfl⟩ rfl

theorem s_IsChain {m : DMo} (h : moOk m) : callV Pg c_model_IsChain [⟨tMo, m⟩] .bool fun r => r = decide (single m) := by
  have h40 := h.1
  refine w_model_IsChain m ⟨_, rfl⟩ (w_slices_ContainsFuncapi_Stateapi_State m () ⟨!decide (single m), by cases decide (single m) <;> rfl⟩ ?_)
  have key : callV Pg c_slices_IndexFuncapi_Stateapi_State [⟨.sl tSt, m⟩, ⟨.cst (.fn c_model_IsChain_1), ()⟩] tI fun r => notB (decide (0 ≤ r)) = decide (single m) := by
    refine w_slices_IndexFuncapi_Stateapi_State m () ?_ (loopE (fun p => ∃ i : Nat, p = (m, (((m.getD []).length : Int), (i : Int))) ∧ i ≤ (m.getD []).length ∧ ∀ j, j < i → ((stt (m.getD []) j).2.2.getD []).length = 1) (fun p => (m.getD []).length - p.2.2.toNat) ⟨0, rfl, by omega, fun j hj => by omega⟩ ?_)
    · by_cases g : single m
      · exact ⟨-1, by rw [decide_eq_true g]; rfl⟩
      · exact ⟨0, by rw [decide_eq_false g]; rfl⟩
    rintro _ ⟨i, rfl, hi, hall⟩
    dsimp only
    refine brV_iff.2 ⟨fun hc => ?_, fun hc => ?_⟩
    · have hc : (i : Int) < ((m.getD []).length : Int) := dec_t hc
      rw [eltS_st]
      have hb := (h.2 i (by omega)).1.2.2
      refine ⟨⟨by omega, by omega⟩, (s_IsChain_1 (stt (m.getD []) i)).mono ?_⟩
      rintro _ rfl
      refine brV_iff.2 ⟨fun hd => ?_, fun hd => ?_⟩
      · have hd : (1 : Int) < (((stt (m.getD []) i).2.2.getD []).length : Int) := dec_t hd
        have g : ¬ single m := fun g => by have := g i (by omega); omega
        rw [decide_eq_false g, decide_eq_true (show (0 : Int) ≤ (i : Int) by omega)]; rfl
      · have hd : ¬ (1 : Int) < (((stt (m.getD []) i).2.2.getD []).length : Int) := dec_f hd
        rw [wi64 (by omega) (by omega)]
        refine ⟨⟨i + 1, rfl, by omega, fun j hj => ?_⟩, by omega⟩
        rcases Nat.lt_or_ge j i with q | q
        · exact hall j q
        · obtain rfl : j = i := by omega
          omega
    · have hc : ¬ (i : Int) < ((m.getD []).length : Int) := dec_f hc
      obtain rfl : i = (m.getD []).length := by omega
      rw [decide_eq_true (show single m from hall)]; rfl
  exact key.mono fun r hr => hr

theorem r_Single {m : DMo} (h : moOk m) : callV Pg c_ref04_Single [⟨tMo, m⟩] .bool fun r => r = decide (single m) := by
  have h40 := h.1
  refine w_ref04_Single m ⟨_, rfl⟩ (loopE (fun p => ∃ i : Nat, p = (m, (((m.getD []).length : Int), (i : Int))) ∧ i ≤ (m.getD []).length ∧ ∀ j, j < i → ((stt (m.getD []) j).2.2.getD []).length = 1) (fun p => (m.getD []).length - p.2.2.toNat) ⟨0, rfl, by omega, fun j hj => by omega⟩ ?_)
  rintro _ ⟨i, rfl, hi, hall⟩
  dsimp only
  refine brV_iff.2 ⟨fun hc => ?_, fun hc => ?_⟩
  · have hc : (i : Int) < ((m.getD []).length : Int) := dec_t hc
    rw [eltS_st]
    refine ⟨⟨by omega, by omega⟩, brV_iff.2 ⟨fun hd => ?_, fun hd => ?_⟩⟩
    · have hd : ¬ (((stt (m.getD []) i).2.2.getD []).length : Int) = 1 := not_t hd
      exact (decide_eq_false fun g => hd (by have := g i (by omega); omega)).symm
    · have hd : (((stt (m.getD []) i).2.2.getD []).length : Int) = 1 := not_f hd
      rw [wi64 (by omega) (by omega)]
      refine ⟨⟨i + 1, rfl, by omega, fun j hj => ?_⟩, by omega⟩
      rcases Nat.lt_or_ge j i with q | q
      · exact hall j q
      · obtain rfl : j = i := by omega
        omega
  · have hc : ¬ (i : Int) < ((m.getD []).length : Int) := dec_f hc
    obtain rfl : i = (m.getD []).length := by omega
    exact (decide_eq_true (show single m from hall)).symm

theorem s_Chain (m : DMo) : callV Pg c_model_Chain [⟨tMo, m⟩] (.tup (.pair .bool (.pair tI .unit))) fun r => r = vQ m (decide (single m)) := by
  refine w_model_Chain m ⟨_, rfl⟩ ((s_MValid m).mono ?_)
  rintro _ rfl
  refine brV_iff.2 ⟨fun hb => by rw [vQ, if_neg (not_t hb)], fun hb => (s_IsChain (not_f hb)).mono ?_⟩
  rintro _ rfl
  rw [vQ, if_pos (not_f hb)]

theorem r_Chain (m : DMo) : callV Pg c_ref04_Chain [⟨tMo, m⟩] (.tup (.pair .bool (.pair tI .unit))) fun r => r = vQ m (decide (single m)) := by
  refine w_ref04_Chain m ⟨_, rfl⟩ ((r_MValid m).mono ?_)
  rintro _ rfl
  refine brV_iff.2 ⟨fun hb => by rw [vQ, if_neg (not_t hb)], fun hb => (r_Single (not_f hb)).mono ?_⟩
  rintro _ rfl
  rw [vQ, if_pos (not_f hb)]

end Go.Proofs.Pf.B

namespace Go.Proofs.Pf.B

open Go Go.VM

def evenB (l : List DBr) : Prop := ∀ k, k < l.length → Int.tmod 12 (br l k).2.2 = 0

instance (l : List DBr) : Decidable (evenB l) := by unfold evenB; infer_instance

def easyCh (c : DCh) : Prop := c.1.2 = 1 ∧ c.1.1 ≤ 100 ∧ -100 ≤ c.1.1 ∧ evenB (c.2.getD [])

instance (c : DCh) : Decidable (easyCh c) := by unfold easyCh; infer_instance

def easyS (s : DSt) : Prop := ∀ j, j < (s.2.2.getD []).length → easyCh (ch (s.2.2.getD []) j)

instance (s : DSt) : Decidable (easyS s) := by unfold easyS; infer_instance

def plainM (m : DMo) : Prop := (∀ i, i < (m.getD []).length → easyS (stt (m.getD []) i)) ∧ (m.getD []).length ≤ 8

instance (m : DMo) : Decidable (plainM m) := by unfold plainM; infer_instance

theorem s_Plain_1 (b : DBr) (h : b.2.2 ≠ 0) : callV Pg c_model_Plain_1 [⟨tBr, b⟩] .bool fun r => r = notB (decide (Int.tmod 12 b.2.2 = 0)) := w_model_Plain_1 b ⟨_, rfl⟩ ⟨h, rfl⟩

theorem s_Odd (l : Option (List DBr)) (hl : (l.getD []).length ≤ 100) (hd : ∀ k, k < (l.getD []).length → (br (l.getD []) k).2.2 ≠ 0) : callV Pg c_slices_ContainsFuncapi_Branchapi_Branch [⟨.sl tBr, l⟩, ⟨.cst (.fn c_model_Plain_1), ()⟩] .bool fun r => r = !decide (evenB (l.getD [])) := by
  refine w_slices_ContainsFuncapi_Branchapi_Branch l () ⟨_, rfl⟩ ?_
  refine w_slices_IndexFuncapi_Branchapi_Branch l () ?_ (loopE (fun p => ∃ i : Nat, p = (l, (((l.getD []).length : Int), (i : Int))) ∧ i ≤ (l.getD []).length ∧ ∀ j, j < i → Int.tmod 12 (br (l.getD []) j).2.2 = 0) (fun p => (l.getD []).length - p.2.2.toNat) ⟨0, rfl, by omega, fun j hj => by omega⟩ ?_)
  · by_cases g : evenB (l.getD [])
    · exact ⟨-1, by rw [decide_eq_true g]; rfl⟩
    · exact ⟨0, by rw [decide_eq_false g]; rfl⟩
  rintro _ ⟨i, rfl, hi, hall⟩
  dsimp only
  refine brV_iff.2 ⟨fun hc => ?_, fun hc => ?_⟩
  · have hc : (i : Int) < ((l.getD []).length : Int) := dec_t hc
    rw [eltS_br]
    refine ⟨⟨by omega, by omega⟩, (s_Plain_1 (br (l.getD []) i) (hd i (by omega))).mono ?_⟩
    rintro _ rfl
    refine brV_iff.2 ⟨fun he => ?_, fun he => ?_⟩
    · have he := not_t he
      have g : ¬ evenB (l.getD []) := fun g => he (g i (by omega))
      rw [decide_eq_false g, decide_eq_true (show (0 : Int) ≤ (i : Int) by omega)]; rfl
    · have he := not_f he
      rw [wi64 (by omega) (by omega)]
      refine ⟨⟨i + 1, rfl, by omega, fun j hj => ?_⟩, by omega⟩
      rcases Nat.lt_or_ge j i with q | q
      · exact hall j q
      · obtain rfl : j = i := by omega
        exact he
  · have hc : ¬ (i : Int) < ((l.getD []).length : Int) := dec_f hc
    obtain rfl : i = (l.getD []).length := by omega
    rw [decide_eq_true (show evenB (l.getD []) from hall)]; rfl

theorem s_Plain (m : DMo) : callV Pg c_model_Plain [⟨tMo, m⟩] (.tup (.pair .bool (.pair tI .unit))) fun r => r = vQ m (decide (plainM m)) := by
  refine w_model_Plain m ⟨_, rfl⟩ ((s_MValid m).mono ?_)
  rintro _ rfl
  refine brV_iff.2 ⟨fun hb => by rw [vQ, if_neg (not_t hb)], fun hb => ?_⟩
  have h := not_f hb
  have h40 := h.1
  rw [vQ, if_pos h]
  refine loopE (fun p => ∃ i : Nat, p = (m, (((m.getD []).length : Int), ((i : Int), m))) ∧ i ≤ (m.getD []).length ∧ ∀ j, j < i → easyS (stt (m.getD []) j)) (fun p => (m.getD []).length - p.2.2.1.toNat) ⟨0, rfl, by omega, fun j hj => by omega⟩ ?_
  rintro _ ⟨i, rfl, hi, hall⟩
  dsimp only
  refine brV_iff.2 ⟨fun hc => ?_, fun hc => ?_⟩
  · have hc : (i : Int) < ((m.getD []).length : Int) := dec_t hc
    rw [eltS_st]
    obtain ⟨⟨_, _, b3⟩, b4⟩ := h.2 i (by omega)
    refine ⟨⟨by omega, by omega⟩, ?_⟩
    refine loopE (fun p => ∃ j : Nat, p = (m, (((m.getD []).length : Int), ((i : Int), ((stt (m.getD []) i).2.2, ((((stt (m.getD []) i).2.2.getD []).length : Int), ((j : Int), m)))))) ∧ j ≤ ((stt (m.getD []) i).2.2.getD []).length ∧ ∀ k, k < j → easyCh (ch ((stt (m.getD []) i).2.2.getD []) k))
      (fun p => ((stt (m.getD []) i).2.2.getD []).length - p.2.2.2.2.2.1.toNat) ⟨0, rfl, by omega, fun j hj => by omega⟩ ?_
    rintro _ ⟨j, rfl, hj, hall2⟩
    dsimp only
    refine brV_iff.2 ⟨fun hd => ?_, fun hd => ?_⟩
    · have hd : (j : Int) < (((stt (m.getD []) i).2.2.getD []).length : Int) := dec_t hd
      rw [eltS_ch]
      obtain ⟨d1, d2, d3, d4⟩ := b4 j (by omega)
      refine ⟨⟨by omega, by omega⟩, joinR (fun p => ∃ b : Bool, p = (m, (((m.getD []).length : Int), ((i : Int), ((stt (m.getD []) i).2.2, ((((stt (m.getD []) i).2.2.getD []).length : Int), ((j : Int), (b, m))))))) ∧ (b = true → ¬ easyCh (ch ((stt (m.getD []) i).2.2.getD []) j)) ∧ (b = false → easyCh (ch ((stt (m.getD []) i).2.2.getD []) j))) ?_ ?_⟩
      · rintro _ ⟨b, rfl, h1, h2⟩
        dsimp only
        refine brV_iff.2 ⟨fun hb => ?_, fun hb => ?_⟩
        · rw [decide_eq_false fun g : plainM m => h1 hb (g.1 i (by omega) j (by omega))]
        · rw [wi64 (by omega) (by omega)]
          refine ⟨⟨j + 1, rfl, by omega, fun k hk => ?_⟩, by omega⟩
          rcases Nat.lt_or_ge k j with q | q
          · exact hall2 k q
          · obtain rfl : k = j := by omega
            exact h2 hb
      · intro k hk
        refine brV_iff.2 ⟨fun g => hk _ ⟨true, rfl, fun _ e => not_t g e.1, fun h => by cases h⟩, fun g1 => ?_⟩
        refine brV_iff.2 ⟨fun g => hk _ ⟨true, rfl, fun _ e => ?_, fun h => by cases h⟩, fun g2 => ?_⟩
        · have g := dec_t g; have := e.2.1; omega
        refine brV_iff.2 ⟨fun g => hk _ ⟨true, rfl, fun _ e => ?_, fun h => by cases h⟩, fun g3 => ?_⟩
        · have g := dec_t g; have := e.2.2.1; omega
        have g1 := not_f g1
        have g2 := dec_f g2
        have g3 := dec_f g3
        refine (s_Odd _ (by omega) fun q hq => ?_).mono ?_
        · have := (d3 q hq).2.2.1.1; omega
        rintro _ rfl
        refine hk _ ⟨_, rfl, fun g e => ?_, fun g => ⟨g1, by omega, by omega, ?_⟩⟩
        · rw [decide_eq_true e.2.2.2] at g; cases g
        · by_cases q : evenB ((ch ((stt (m.getD []) i).2.2.getD []) j).2.getD [])
          · exact q
          · rw [decide_eq_false q] at g; cases g
    · have hd : ¬ (j : Int) < (((stt (m.getD []) i).2.2.getD []).length : Int) := dec_f hd
      obtain rfl : j = ((stt (m.getD []) i).2.2.getD []).length := by omega
      rw [wi64 (by omega) (by omega)]
      refine ⟨⟨i + 1, rfl, by omega, fun k hk => ?_⟩, by omega⟩
      rcases Nat.lt_or_ge k i with q | q
      · exact hall k q
      · obtain rfl : k = i := by omega
        exact hall2
  · have hc : ¬ (i : Int) < ((m.getD []).length : Int) := dec_f hc
    obtain rfl : i = (m.getD []).length := by omega
    have e : decide (szSl m ≤ (8 : Int)) = decide (plainM m) := by
      rw [decide_eq_decide]
      show ((m.getD []).length : Int) ≤ 8 ↔ _
      exact ⟨fun g => ⟨hall, by omega⟩, fun g => by have := g.2; omega⟩
    rw [e]

theorem r_Easy {m : DMo} (h : moOk m) : callV Pg c_ref04_Easy [⟨tMo, m⟩] .bool fun r => r = decide (plainM m) := by
  have h40 := h.1
  refine w_ref04_Easy m ⟨_, rfl⟩ (loopE (fun p => ∃ i : Nat, p = (m, (((m.getD []).length : Int), ((i : Int), m))) ∧ i ≤ (m.getD []).length ∧ ∀ j, j < i → easyS (stt (m.getD []) j)) (fun p => (m.getD []).length - p.2.2.1.toNat) ⟨0, rfl, by omega, fun j hj => by omega⟩ ?_)
  rintro _ ⟨i, rfl, hi, hall⟩
  dsimp only
  refine brV_iff.2 ⟨fun hc => ?_, fun hc => ?_⟩
  · have hc : (i : Int) < ((m.getD []).length : Int) := dec_t hc
    rw [eltS_st]
    obtain ⟨⟨_, _, b3⟩, b4⟩ := h.2 i (by omega)
    refine ⟨⟨by omega, by omega⟩, ?_⟩
    refine loopE (fun p => ∃ j : Nat, p = (m, (((m.getD []).length : Int), ((i : Int), ((stt (m.getD []) i).2.2, ((((stt (m.getD []) i).2.2.getD []).length : Int), ((j : Int), m)))))) ∧ j ≤ ((stt (m.getD []) i).2.2.getD []).length ∧ ∀ k, k < j → easyCh (ch ((stt (m.getD []) i).2.2.getD []) k))
      (fun p => ((stt (m.getD []) i).2.2.getD []).length - p.2.2.2.2.2.1.toNat) ⟨0, rfl, by omega, fun j hj => by omega⟩ ?_
    rintro _ ⟨j, rfl, hj, hall2⟩
    dsimp only
    refine brV_iff.2 ⟨fun hd => ?_, fun hd => ?_⟩
    · have hd : (j : Int) < (((stt (m.getD []) i).2.2.getD []).length : Int) := dec_t hd
      rw [eltS_ch]
      generalize hch : ch ((stt (m.getD []) i).2.2.getD []) j = c
      obtain ⟨d1, d2, d3, d4⟩ : chOk ((m.getD []).length : Int) c := hch ▸ b4 j (by omega)
      have no : ¬ easyCh c → ¬ plainM m := fun q g => q (hch ▸ g.1 i (by omega) j (by omega))
      refine ⟨⟨by omega, by omega⟩, joinR (fun p => ∃ b : Bool, p = (m, (((m.getD []).length : Int), ((i : Int), ((stt (m.getD []) i).2.2, ((((stt (m.getD []) i).2.2.getD []).length : Int), ((j : Int), (b, (m, c)))))))) ∧ (b = true → ¬ easyCh c) ∧ (b = false → c.1.2 = 1 ∧ c.1.1 ≤ 100 ∧ -100 ≤ c.1.1)) ?_ ?_⟩
      · rintro _ ⟨b, rfl, h1, h2⟩
        dsimp only
        refine brV_iff.2 ⟨fun hb => (decide_eq_false (no (h1 hb))).symm, fun hb => ?_⟩
        obtain ⟨g1, g2, g3⟩ := h2 hb
        refine loopE (fun p => ∃ k : Nat, p = (m, (((m.getD []).length : Int), ((i : Int), ((stt (m.getD []) i).2.2, ((((stt (m.getD []) i).2.2.getD []).length : Int), ((j : Int), (c.2, (((c.2.getD []).length : Int), ((k : Int), m))))))))) ∧ k ≤ (c.2.getD []).length ∧ ∀ q, q < k → Int.tmod 12 (br (c.2.getD []) q).2.2 = 0)
          (fun p => (c.2.getD []).length - p.2.2.2.2.2.2.2.2.1.toNat) ⟨0, rfl, by omega, fun j hj => by omega⟩ ?_
        rintro _ ⟨k, rfl, hk, hall3⟩
        dsimp only
        refine brV_iff.2 ⟨fun he => ?_, fun he => ?_⟩
        · have he : (k : Int) < ((c.2.getD []).length : Int) := dec_t he
          rw [eltS_br]
          have hden := (d3 k (by omega)).2.2.1.1
          refine ⟨⟨by omega, by omega⟩, by omega, brV_iff.2 ⟨fun hf => ?_, fun hf => ?_⟩⟩
          · exact (decide_eq_false (no fun e => not_t hf (e.2.2.2 k (by omega)))).symm
          · have hf := not_f hf
            rw [wi64 (by omega) (by omega)]
            refine ⟨⟨k + 1, rfl, by omega, fun q hq => ?_⟩, by omega⟩
            rcases Nat.lt_or_ge q k with z | z
            · exact hall3 q z
            · obtain rfl : q = k := by omega
              exact hf
        · have he : ¬ (k : Int) < ((c.2.getD []).length : Int) := dec_f he
          obtain rfl : k = (c.2.getD []).length := by omega
          rw [wi64 (by omega) (by omega)]
          refine ⟨⟨j + 1, rfl, by omega, fun q hq => ?_⟩, by omega⟩
          rcases Nat.lt_or_ge q j with z | z
          · exact hall2 q z
          · obtain rfl : q = j := by omega
            rw [hch]; exact ⟨g1, g2, g3, hall3⟩
      · intro k hk
        refine brV_iff.2 ⟨fun g => hk _ ⟨true, rfl, fun _ e => not_t g e.1, fun h => by cases h⟩, fun g1 => ?_⟩
        refine brV_iff.2 ⟨fun g => hk _ ⟨true, rfl, fun _ e => ?_, fun h => by cases h⟩, fun g2 => ?_⟩
        · have g := dec_t g; have := e.2.1; omega
        have g1 := not_f g1
        have g2 := dec_f g2
        refine hk _ ⟨_, rfl, fun g e => ?_, fun g => ⟨g1, by omega, ?_⟩⟩
        · have g := dec_t g; have := e.2.2.1; omega
        · have g := dec_f g; omega
    · have hd : ¬ (j : Int) < (((stt (m.getD []) i).2.2.getD []).length : Int) := dec_f hd
      obtain rfl : j = ((stt (m.getD []) i).2.2.getD []).length := by omega
      rw [wi64 (by omega) (by omega)]
      refine ⟨⟨i + 1, rfl, by omega, fun k hk => ?_⟩, by omega⟩
      rcases Nat.lt_or_ge k i with q | q
      · exact hall k q
      · obtain rfl : k = i := by omega
        exact hall2
  · have hc : ¬ (i : Int) < ((m.getD []).length : Int) := dec_f hc
    obtain rfl : i = (m.getD []).length := by omega
    have e : decide (szSl m ≤ (8 : Int)) = decide (plainM m) := by
      rw [decide_eq_decide]
      show ((m.getD []).length : Int) ≤ 8 ↔ _
      exact ⟨fun g => ⟨hall, by omega⟩, fun g => by have := g.2; omega⟩
    exact e

theorem r_Plain (m : DMo) : callV Pg c_ref04_Plain [⟨tMo, m⟩] (.tup (.pair .bool (.pair tI .unit))) fun r => r = vQ m (decide (plainM m)) := by
  refine w_ref04_Plain m ⟨_, rfl⟩ ((r_MValid m).mono ?_)
  rintro _ rfl
  refine brV_iff.2 ⟨fun hb => by rw [vQ, if_neg (not_t hb)], fun hb => (r_Easy (not_f hb)).mono ?_⟩
  rintro _ rfl
  rw [vQ, if_pos (not_f hb)]

end Go.Proofs.Pf.B

namespace Go.Proofs.Pf.B

open Go Go.VM

def fewSt (s : DSt) : Prop := (s.2.2.getD []).length ≤ 10 ∧ ∀ j, j < (s.2.2.getD []).length → ((ch (s.2.2.getD []) j).2.getD []).length ≤ 10

def fewOk (m : DMo) : Prop := (m.getD []).length ≤ 45 ∧ ∀ i, i < (m.getD []).length → fewSt (stt (m.getD []) i)

theorem r_Few2 (n : Int) (m : DMo) : callV Pg c_ref04_Few [⟨tI, n⟩, ⟨tMo, m⟩] .bool fun r => r = true → fewOk m := by
  refine w_ref04_Few n m ⟨false, fun h => by cases h⟩ (joinR (fun p => ∃ b : Bool, p = (b, m) ∧ (b = false → (m.getD []).length ≤ 45)) ?_ ?_)
  · rintro _ ⟨b, rfl, hb⟩
    dsimp only
    refine brV_iff.2 ⟨fun _ h => (by cases h), fun h => ?_⟩
    have hb := hb h
    refine loopE (fun p => ∃ i : Nat, p = (m, (((m.getD []).length : Int), (i : Int))) ∧ i ≤ (m.getD []).length ∧ ∀ j, j < i → fewSt (stt (m.getD []) j)) (fun p => (m.getD []).length - p.2.2.toNat) ⟨0, rfl, by omega, fun j h => by omega⟩ ?_
    rintro _ ⟨i, rfl, hi, hall⟩
    dsimp only
    refine brV_iff.2 ⟨fun hc => ?_, fun hc _ => ?_⟩
    · have hc : (i : Int) < ((m.getD []).length : Int) := dec_t hc
      rw [eltS_st]
      refine ⟨⟨by omega, by omega⟩, brV_iff.2 ⟨fun _ h => (by cases h), fun h10 => ?_⟩⟩
      have h10 : ¬ (10 : Int) < (((stt (m.getD []) i).2.2.getD []).length : Int) := dec_f h10
      refine loopE (fun p => ∃ j : Nat, p = (m, (((m.getD []).length : Int), ((i : Int), ((stt (m.getD []) i).2.2, ((((stt (m.getD []) i).2.2.getD []).length : Int), (j : Int)))))) ∧ j ≤ ((stt (m.getD []) i).2.2.getD []).length ∧ ∀ k, k < j → ((ch ((stt (m.getD []) i).2.2.getD []) k).2.getD []).length ≤ 10)
        (fun p => ((stt (m.getD []) i).2.2.getD []).length - p.2.2.2.2.2.toNat) ⟨0, rfl, by omega, fun j h => by omega⟩ ?_
      rintro _ ⟨j, rfl, hj, hall2⟩
      dsimp only
      refine brV_iff.2 ⟨fun hd => ?_, fun hd => ?_⟩
      · have hd : (j : Int) < (((stt (m.getD []) i).2.2.getD []).length : Int) := dec_t hd
        rw [eltS_ch]
        refine ⟨⟨by omega, by omega⟩, brV_iff.2 ⟨fun _ h => (by cases h), fun he => ?_⟩⟩
        have he : ¬ (10 : Int) < (((ch ((stt (m.getD []) i).2.2.getD []) j).2.getD []).length : Int) := dec_f he
        rw [wi64 (by omega) (by omega)]
        refine ⟨⟨j + 1, rfl, by omega, fun k hk => ?_⟩, by omega⟩
        rcases Nat.lt_or_ge k j with q | q
        · exact hall2 k q
        · obtain rfl : k = j := by omega
          omega
      · have hd : ¬ (j : Int) < (((stt (m.getD []) i).2.2.getD []).length : Int) := dec_f hd
        obtain rfl : j = ((stt (m.getD []) i).2.2.getD []).length := by omega
        rw [wi64 (by omega) (by omega)]
        refine ⟨⟨i + 1, rfl, by omega, fun k hk => ?_⟩, by omega⟩
        rcases Nat.lt_or_ge k i with q | q
        · exact hall k q
        · obtain rfl : k = i := by omega
          exact ⟨by omega, hall2⟩
    · have hc : ¬ (i : Int) < ((m.getD []).length : Int) := dec_f hc
      obtain rfl : i = (m.getD []).length := by omega
      exact ⟨hb, hall⟩
  · intro k hk
    have fin : k ((decide ((45 : Int) < szSl m)), m) := hk _ ⟨_, rfl, fun h => by have h : ¬ (45 : Int) < ((m.getD []).length : Int) := dec_f h; omega⟩
    refine brV_iff.2 ⟨fun _ => brV_iff.2 ⟨fun _ => hk _ ⟨true, rfl, fun h => by cases h⟩, fun _ => fin⟩, fun _ => fin⟩

theorem s_few2 (l : List DMo) (hl : l.length ≤ 10) : callV Pg c_law04_few [⟨.sl tMo, some l⟩] .bool fun r => r = true → ∀ i, i < l.length → fewOk (l.getD i none) := by
  refine w_law04_few (some l) ⟨false, fun h => by cases h⟩ (loopE (fun p => ∃ i : Nat, p = (some l, ((l.length : Int), (i : Int))) ∧ i ≤ l.length ∧ ∀ j, j < i → fewOk (l.getD j none)) (fun p => l.length - p.2.2.toNat) ⟨0, rfl, by omega, fun j h => by omega⟩ ?_)
  rintro _ ⟨i, rfl, hi, hall⟩
  dsimp only
  refine brV_iff.2 ⟨fun hc => ?_, fun hc _ => ?_⟩
  · have hc : (i : Int) < (l.length : Int) := dec_t hc
    refine ⟨⟨by omega, by simpa using hc⟩, (r_Few2 40 _).mono fun p hp => brV_iff.2 ⟨fun _ h => (by cases h), fun hb => ?_⟩⟩
    rw [wi64 (by omega) (by omega)]
    refine ⟨⟨i + 1, rfl, by omega, fun j hj => ?_⟩, by omega⟩
    rcases Nat.lt_or_ge j i with q | q
    · exact hall j q
    · obtain rfl : j = i := by omega
      have hp := hp (by cases p <;> simp [notB] at hb ⊢)
      simpa only [eltS, Option.getD_some, Int.toNat_natCast] using hp
  · have hc : ¬ (i : Int) < (l.length : Int) := dec_f hc
    obtain rfl : i = l.length := by omega
    exact hall

def chEq (c d : DCh) : Prop := c.1 = d.1 ∧ c.2.getD [] = d.2.getD []

instance (c d : DCh) : Decidable (chEq c d) := by unfold chEq; infer_instance

def stEq (s t : DSt) : Prop := s.1 = t.1 ∧ s.2.1 = t.2.1 ∧ (s.2.2.getD []).length = (t.2.2.getD []).length ∧ ∀ j, j < (s.2.2.getD []).length → chEq (ch (s.2.2.getD []) j) (ch (t.2.2.getD []) j)

instance (s t : DSt) : Decidable (stEq s t) := by unfold stEq; infer_instance

def moEq (a b : DMo) : Prop := (a.getD []).length = (b.getD []).length ∧ ∀ i, i < (a.getD []).length → stEq (stt (a.getD []) i) (stt (b.getD []) i)

instance (a b : DMo) : Decidable (moEq a b) := by unfold moEq; infer_instance

theorem num_eq (x y : Int × Int) : andB (decide (x.1 = y.1)) (andB (decide (x.2 = y.2)) true) = decide (x = y) := by
  obtain ⟨a, b⟩ := x; obtain ⟨c, d⟩ := y
  by_cases h : a = c <;> by_cases g : b = d <;> simp [andB, h, g]

theorem br_eq (x y : DBr) : andB (decide (x.1 = y.1)) (andB (andB (decide (x.2.1 = y.2.1)) (andB (decide (x.2.2 = y.2.2)) true)) true) = decide (x = y) := by
  rw [num_eq]
  obtain ⟨a, b⟩ := x; obtain ⟨c, d⟩ := y
  by_cases h : a = c <;> by_cases g : b = d <;> simp [andB, h, g]

theorem list_eq {l r : List DBr} (hl : l.length = r.length) (h : ∀ k, k < l.length → br l k = br r k) : l = r := by
  apply List.ext_getElem hl
  intro i h1 h2
  have := h i h1
  simpa [br, List.getD, h1, h2] using this

theorem s_EqBr (a b : Option (List DBr)) (ha : (a.getD []).length ≤ 100) : callV Pg c_slices_Equalapi_Branchapi_Branch [⟨.sl tBr, a⟩, ⟨.sl tBr, b⟩] .bool fun r => r = decide (a.getD [] = b.getD []) := by
  refine w_slices_Equalapi_Branchapi_Branch a b ⟨_, rfl⟩ (brV_iff.2 ⟨fun h => ?_, fun h => ?_⟩)
  · have h : ¬ ((a.getD []).length : Int) = ((b.getD []).length : Int) := not_t h
    exact (decide_eq_false fun e => h (by rw [e])).symm
  have hl : ((a.getD []).length : Int) = ((b.getD []).length : Int) := not_f h
  refine loopE (fun p => ∃ i : Nat, p = (a, (b, (((a.getD []).length : Int), (i : Int)))) ∧ i ≤ (a.getD []).length ∧ ∀ j, j < i → br (a.getD []) j = br (b.getD []) j) (fun p => (a.getD []).length - p.2.2.2.toNat) ⟨0, rfl, by omega, fun j h => by omega⟩ ?_
  rintro _ ⟨i, rfl, hi, hall⟩
  dsimp only
  refine brV_iff.2 ⟨fun hc => ?_, fun hc => ?_⟩
  · have hc : (i : Int) < ((a.getD []).length : Int) := dec_t hc
    rw [eltS_br, eltS_br, br_eq]
    refine ⟨⟨by omega, by omega⟩, ⟨by omega, by omega⟩, brV_iff.2 ⟨fun h => ?_, fun h => ?_⟩⟩
    · exact (decide_eq_false fun e => not_t h (by rw [e])).symm
    · have h := not_f h
      rw [wi64 (by omega) (by omega)]
      refine ⟨⟨i + 1, rfl, by omega, fun j hj => ?_⟩, by omega⟩
      rcases Nat.lt_or_ge j i with q | q
      · exact hall j q
      · obtain rfl : j = i := by omega
        exact h
  · have hc : ¬ (i : Int) < ((a.getD []).length : Int) := dec_f hc
    obtain rfl : i = (a.getD []).length := by omega
    exact (decide_eq_true (list_eq (by omega) hall)).symm

theorem s_Id11 (c d : DCh) (hc : (c.2.getD []).length ≤ 100) : callV Pg c_model_Identical_1_1 [⟨tCh, c⟩, ⟨tCh, d⟩] .bool fun r => r = decide (chEq c d) := by
  refine w_model_Identical_1_1 c d ⟨_, rfl⟩ (joinE ?_)
  rw [num_eq]
  refine brV_iff.2 ⟨fun h => (s_EqBr c.2 d.2 hc).mono ?_, fun h => ?_⟩
  · rintro _ rfl
    have h := dec_t h
    show decide _ = decide _
    rw [decide_eq_decide]; exact ⟨fun g => ⟨h, g⟩, fun g => g.2⟩
  · exact (decide_eq_false fun g : chEq c d => dec_f h g.1).symm

theorem s_EqCh (a b : Option (List DCh)) (ha : (a.getD []).length ≤ 100) (hb : ∀ j, j < (a.getD []).length → ((ch (a.getD []) j).2.getD []).length ≤ 100) :
    callV Pg c_slices_EqualFuncapi_Choiceapi_Choiceapi_Choiceapi_Choice [⟨.sl tCh, a⟩, ⟨.sl tCh, b⟩, ⟨.cst (.fn c_model_Identical_1_1), ()⟩] .bool fun r => r = decide ((a.getD []).length = (b.getD []).length ∧ ∀ j, j < (a.getD []).length → chEq (ch (a.getD []) j) (ch (b.getD []) j)) := by
  refine w_slices_EqualFuncapi_Choiceapi_Choiceapi_Choiceapi_Choice a b () ⟨_, rfl⟩ (brV_iff.2 ⟨fun h => ?_, fun h => ?_⟩)
  · have h : ¬ ((a.getD []).length : Int) = ((b.getD []).length : Int) := not_t h
    exact (decide_eq_false fun e => h (by rw [e.1])).symm
  have hl : ((a.getD []).length : Int) = ((b.getD []).length : Int) := not_f h
  refine loopE (fun p => ∃ i : Nat, p = (b, (a, (((a.getD []).length : Int), (i : Int)))) ∧ i ≤ (a.getD []).length ∧ ∀ j, j < i → chEq (ch (a.getD []) j) (ch (b.getD []) j)) (fun p => (a.getD []).length - p.2.2.2.toNat) ⟨0, rfl, by omega, fun j h => by omega⟩ ?_
  rintro _ ⟨i, rfl, hi, hall⟩
  dsimp only
  refine brV_iff.2 ⟨fun hc => ?_, fun hc => ?_⟩
  · have hc : (i : Int) < ((a.getD []).length : Int) := dec_t hc
    rw [eltS_ch, eltS_ch]
    refine ⟨⟨by omega, by omega⟩, ⟨by omega, by omega⟩, (s_Id11 (ch (a.getD []) i) (ch (b.getD []) i) (hb i (by omega))).mono ?_⟩
    rintro _ rfl
    refine brV_iff.2 ⟨fun h => ?_, fun h => ?_⟩
    · exact (decide_eq_false fun e => not_t h (e.2 i (by omega))).symm
    · have h := not_f h
      rw [wi64 (by omega) (by omega)]
      refine ⟨⟨i + 1, rfl, by omega, fun j hj => ?_⟩, by omega⟩
      rcases Nat.lt_or_ge j i with q | q
      · exact hall j q
      · obtain rfl : j = i := by omega
        exact h
  · have hc : ¬ (i : Int) < ((a.getD []).length : Int) := dec_f hc
    obtain rfl : i = (a.getD []).length := by omega
    exact (decide_eq_true ⟨by omega, hall⟩).symm

theorem s_Id1 (s t : DSt) (hs : fewSt s) : callV Pg c_model_Identical_1 [⟨tSt, s⟩, ⟨tSt, t⟩] .bool fun r => r = decide (stEq s t) := by
  refine w_model_Identical_1 s t ⟨_, rfl⟩ (joinE (brV_iff.2 ⟨fun h => brV_iff.2 ⟨fun g => (s_EqCh s.2.2 t.2.2 (by have := hs.1; omega) fun j hj => by have := hs.2 j hj; omega).mono ?_, fun g => ?_⟩, fun h => ?_⟩))
  · rintro _ rfl
    show decide _ = decide _
    rw [decide_eq_decide]
    exact ⟨fun e => ⟨dec_t h, dec_t g, e.1, e.2⟩, fun e => ⟨e.2.2.1, e.2.2.2⟩⟩
  · exact (decide_eq_false fun e : stEq s t => dec_f g e.2.1).symm
  · exact (decide_eq_false fun e : stEq s t => dec_f h e.1).symm

theorem s_Identical (a b : DMo) (ha : fewOk a) : callV Pg c_model_Identical [⟨tMo, a⟩, ⟨tMo, b⟩] .bool fun r => r = decide (moEq a b) := by
  refine w_model_Identical a b ⟨_, rfl⟩ (w_slices_EqualFuncapi_Stateapi_Stateapi_Stateapi_State a b () ⟨_, rfl⟩ (brV_iff.2 ⟨fun h => ?_, fun h => ?_⟩))
  · have h : ¬ ((a.getD []).length : Int) = ((b.getD []).length : Int) := not_t h
    exact (decide_eq_false fun e : moEq a b => h (by rw [e.1])).symm
  have hl : ((a.getD []).length : Int) = ((b.getD []).length : Int) := not_f h
  have h45 := ha.1
  refine loopE (fun p => ∃ i : Nat, p = (b, (a, (((a.getD []).length : Int), (i : Int)))) ∧ i ≤ (a.getD []).length ∧ ∀ j, j < i → stEq (stt (a.getD []) j) (stt (b.getD []) j)) (fun p => (a.getD []).length - p.2.2.2.toNat) ⟨0, rfl, by omega, fun j h => by omega⟩ ?_
  rintro _ ⟨i, rfl, hi, hall⟩
  dsimp only
  refine brV_iff.2 ⟨fun hc => ?_, fun hc => ?_⟩
  · have hc : (i : Int) < ((a.getD []).length : Int) := dec_t hc
    rw [eltS_st, eltS_st]
    refine ⟨⟨by omega, by omega⟩, ⟨by omega, by omega⟩, (s_Id1 (stt (a.getD []) i) (stt (b.getD []) i) (ha.2 i (by omega))).mono ?_⟩
    rintro _ rfl
    refine brV_iff.2 ⟨fun h => ?_, fun h => ?_⟩
    · exact (decide_eq_false fun e : moEq a b => not_t h (e.2 i (by omega))).symm
    · have h := not_f h
      rw [wi64 (by omega) (by omega)]
      refine ⟨⟨i + 1, rfl, by omega, fun j hj => ?_⟩, by omega⟩
      rcases Nat.lt_or_ge j i with q | q
      · exact hall j q
      · obtain rfl : j = i := by omega
        exact h
  · have hc : ¬ (i : Int) < ((a.getD []).length : Int) := dec_f hc
    obtain rfl : i = (a.getD []).length := by omega
    exact (decide_eq_true (show moEq a b from ⟨by omega, hall⟩)).symm

end Go.Proofs.Pf.B

namespace Go.Proofs.Pf.B

open Go Go.VM

theorem r_Identical (a b : DMo) (ha : fewOk a) : callV Pg c_ref04_Identical [⟨tMo, a⟩, ⟨tMo, b⟩] .bool fun r => r = decide (moEq a b) := by
  refine w_ref04_Identical a b ⟨_, rfl⟩ (brV_iff.2 ⟨fun h => ?_, fun h => ?_⟩)
  · have h : ¬ ((a.getD []).length : Int) = ((b.getD []).length : Int) := not_t h
    exact (decide_eq_false fun e : moEq a b => h (by rw [e.1])).symm
  have hl : ((a.getD []).length : Int) = ((b.getD []).length : Int) := not_f h
  have h45 := ha.1
  refine loopE (fun p => ∃ i : Nat, p = (a, (((a.getD []).length : Int), ((i : Int), b))) ∧ i ≤ (a.getD []).length ∧ ∀ j, j < i → stEq (stt (a.getD []) j) (stt (b.getD []) j)) (fun p => (a.getD []).length - p.2.2.1.toNat) ⟨0, rfl, by omega, fun j h => by omega⟩ ?_
  rintro _ ⟨i, rfl, hi, hall⟩
  dsimp only
  refine brV_iff.2 ⟨fun hc => ?_, fun hc => ?_⟩
  · have hc : (i : Int) < ((a.getD []).length : Int) := dec_t hc
    rw [eltS_st, eltS_st]
    generalize hs : stt (a.getD []) i = s
    generalize ht : stt (b.getD []) i = t
    obtain ⟨f1, f2⟩ : fewSt s := hs ▸ ha.2 i (by omega)
    have no : ¬ stEq s t → ¬ moEq a b := fun q e => q (hs ▸ ht ▸ e.2 i (by omega))
    refine ⟨⟨by omega, by omega⟩, ⟨by omega, by omega⟩, joinR (fun p => ∃ q : Bool, p = (a, (((a.getD []).length : Int), ((i : Int), (q, (b, (s, t)))))) ∧ (q = true → ¬ stEq s t) ∧ (q = false → s.1 = t.1 ∧ s.2.1 = t.2.1 ∧ (s.2.2.getD []).length = (t.2.2.getD []).length)) ?_ ?_⟩
    · rintro _ ⟨q, rfl, h1, h2⟩
      dsimp only
      refine brV_iff.2 ⟨fun hq => (decide_eq_false (no (h1 hq))).symm, fun hq => ?_⟩
      obtain ⟨g1, g2, g3⟩ := h2 hq
      refine loopE (fun p => ∃ j : Nat, p = (a, (((a.getD []).length : Int), ((i : Int), (s.2.2, (((s.2.2.getD []).length : Int), ((j : Int), (b, t))))))) ∧ j ≤ (s.2.2.getD []).length ∧ ∀ k, k < j → chEq (ch (s.2.2.getD []) k) (ch (t.2.2.getD []) k))
        (fun p => (s.2.2.getD []).length - p.2.2.2.2.2.1.toNat) ⟨0, rfl, by omega, fun j h => by omega⟩ ?_
      rintro _ ⟨j, rfl, hj, hall2⟩
      dsimp only
      refine brV_iff.2 ⟨fun hd => ?_, fun hd => ?_⟩
      · have hd : (j : Int) < ((s.2.2.getD []).length : Int) := dec_t hd
        rw [eltS_ch, eltS_ch, num_eq]
        generalize hcc : ch (s.2.2.getD []) j = c
        generalize hdd : ch (t.2.2.getD []) j = d
        have f3 : (c.2.getD []).length ≤ 10 := hcc ▸ f2 j (by omega)
        have no2 : ¬ chEq c d → ¬ moEq a b := fun q => no fun e => q (hcc ▸ hdd ▸ e.2.2.2 j (by omega))
        refine ⟨⟨by omega, by omega⟩, ⟨by omega, by omega⟩, joinR (fun p => ∃ q : Bool, p = (a, (((a.getD []).length : Int), ((i : Int), (s.2.2, (((s.2.2.getD []).length : Int), ((j : Int), (q, (b, (t, (c, d)))))))))) ∧ (q = true → ¬ chEq c d) ∧ (q = false → c.1 = d.1 ∧ (c.2.getD []).length = (d.2.getD []).length)) ?_ ?_⟩
        · rintro _ ⟨q, rfl, k1, k2⟩
          dsimp only
          refine brV_iff.2 ⟨fun hq => (decide_eq_false (no2 (k1 hq))).symm, fun hq => ?_⟩
          obtain ⟨e1, e2⟩ := k2 hq
          refine loopE (fun p => ∃ k : Nat, p = (a, (((a.getD []).length : Int), ((i : Int), (s.2.2, (((s.2.2.getD []).length : Int), ((j : Int), (c.2, (((c.2.getD []).length : Int), ((k : Int), (b, (t, d))))))))))) ∧ k ≤ (c.2.getD []).length ∧ ∀ q, q < k → br (c.2.getD []) q = br (d.2.getD []) q)
            (fun p => (c.2.getD []).length - p.2.2.2.2.2.2.2.2.1.toNat) ⟨0, rfl, by omega, fun j h => by omega⟩ ?_
          rintro _ ⟨k, rfl, hk, hall3⟩
          dsimp only
          refine brV_iff.2 ⟨fun he => ?_, fun he => ?_⟩
          · have he : (k : Int) < ((c.2.getD []).length : Int) := dec_t he
            rw [eltS_br, eltS_br, br_eq]
            refine ⟨⟨by omega, by omega⟩, ⟨by omega, by omega⟩, brV_iff.2 ⟨fun hf => ?_, fun hf => ?_⟩⟩
            · exact (decide_eq_false (no2 fun e => not_t hf (by rw [e.2]))).symm
            · have hf := not_f hf
              rw [wi64 (by omega) (by omega)]
              refine ⟨⟨k + 1, rfl, by omega, fun q hq => ?_⟩, by omega⟩
              rcases Nat.lt_or_ge q k with z | z
              · exact hall3 q z
              · obtain rfl : q = k := by omega
                exact hf
          · have he : ¬ (k : Int) < ((c.2.getD []).length : Int) := dec_f he
            obtain rfl : k = (c.2.getD []).length := by omega
            rw [wi64 (by omega) (by omega)]
            refine ⟨⟨j + 1, rfl, by omega, fun q hq => ?_⟩, by omega⟩
            rcases Nat.lt_or_ge q j with z | z
            · exact hall2 q z
            · obtain rfl : q = j := by omega
              rw [hcc, hdd]; exact ⟨e1, list_eq e2 hall3⟩
        · intro k hk
          refine brV_iff.2 ⟨fun g => hk _ ⟨true, rfl, fun _ e => not_t g e.1, fun h => by cases h⟩, fun g => ?_⟩
          have g := not_f g
          refine hk _ ⟨_, rfl, fun h e => ?_, fun h => ⟨g, ?_⟩⟩
          · have h : ¬ ((c.2.getD []).length : Int) = ((d.2.getD []).length : Int) := not_t h
            exact h (by rw [e.2])
          · have h : ((c.2.getD []).length : Int) = ((d.2.getD []).length : Int) := not_f h
            omega
      · have hd : ¬ (j : Int) < ((s.2.2.getD []).length : Int) := dec_f hd
        obtain rfl : j = (s.2.2.getD []).length := by omega
        rw [wi64 (by omega) (by omega)]
        refine ⟨⟨i + 1, rfl, by omega, fun k hk => ?_⟩, by omega⟩
        rcases Nat.lt_or_ge k i with q | q
        · exact hall k q
        · obtain rfl : k = i := by omega
          rw [hs, ht]; exact ⟨g1, g2, g3, hall2⟩
    · intro k hk
      refine brV_iff.2 ⟨fun g => hk _ ⟨true, rfl, fun _ e => not_t g e.1, fun h => by cases h⟩, fun g1 => ?_⟩
      refine brV_iff.2 ⟨fun g => hk _ ⟨true, rfl, fun _ e => not_t g e.2.1, fun h => by cases h⟩, fun g2 => ?_⟩
      refine hk _ ⟨_, rfl, fun h e => ?_, fun h => ⟨not_f g1, not_f g2, ?_⟩⟩
      · have h : ¬ ((s.2.2.getD []).length : Int) = ((t.2.2.getD []).length : Int) := not_t h
        exact h (by rw [e.2.2.1])
      · have h : ((s.2.2.getD []).length : Int) = ((t.2.2.getD []).length : Int) := not_f h
        omega
  · have hc : ¬ (i : Int) < ((a.getD []).length : Int) := dec_f hc
    obtain rfl : i = (a.getD []).length := by omega
    exact (decide_eq_true (show moEq a b from ⟨by omega, hall⟩)).symm

theorem eqB_self (b : Bool) : eqB b b = true := by cases b <;> rfl

theorem br_t {b : Bool} {A B : Prop} (h : b = true) (hA : A) : brV b A B := by subst h; exact hA

theorem s_ModelFacts (a b : DMo) (c : Option (List Int)) : callV Pg c_law04_ModelFacts [⟨tMo, a⟩, ⟨tMo, b⟩, ⟨tL, c⟩] .bool fun r => r = true := by
  refine w_law04_ModelFacts a b c ⟨_, rfl⟩ (joinR (fun p => ∃ q : Bool, p = (c, (q, (a, b))) ∧ (q = false → fewOk a ∧ (c.getD []).length ≤ 60)) ?_ ?_)
  · rintro _ ⟨q, rfl, hq⟩
    dsimp only
    refine brV_iff.2 ⟨fun _ => s_awake4.mono fun _ h => h, fun h => ?_⟩
    obtain ⟨ha, hc⟩ := hq h
    refine (r_Chain a).mono ?_; rintro _ rfl
    refine (r_Plain a).mono ?_; rintro _ rfl
    refine (r_ValidSet a c (by omega)).mono ?_; rintro _ rfl
    refine (r_ValidStrategy a c (by omega)).mono ?_; rintro _ rfl
    refine (s_Chain a).mono ?_; rintro _ rfl
    refine (s_Plain a).mono ?_; rintro _ rfl
    refine (s_ValidSet a c (by omega)).mono ?_; rintro _ rfl
    refine (s_ValidStrategy a c (by omega)).mono ?_; rintro _ rfl
    refine joinE ?_
    refine (s_MValid a).mono ?_; rintro _ rfl
    refine (r_MValid a).mono ?_; rintro _ rfl
    refine br_t (eqB_self _) (br_t (eqB_self _) (br_t (decide_eq_true rfl) (br_t (eqB_self _) (br_t (decide_eq_true rfl) (br_t (eqB_self _) (br_t (decide_eq_true rfl) (br_t (eqB_self _) (br_t (decide_eq_true rfl) ?_))))))))
    refine (s_Identical a b ha).mono ?_; rintro _ rfl
    refine (r_Identical a b ha).mono ?_; rintro _ rfl
    exact br_t (eqB_self _) (s_awake4.mono fun _ h => h)
  · intro k hk
    refine (s_few2 [a, b] (by simp)).mono fun p hp => brV_iff.2 ⟨fun _ => hk _ ⟨true, rfl, fun h => by cases h⟩, fun h => hk _ ⟨_, rfl, fun g => ⟨?_, ?_⟩⟩⟩
    · have hp := hp (by cases p <;> simp [notB] at h ⊢)
      exact hp 0 (by simp)
    · have g : ¬ (60 : Int) < ((c.getD []).length : Int) := dec_f g
      omega

end Go.Proofs.Pf.B
