/- Typed pure data, a condition on code that says what a call gives, what the code of each function comes to, and what each function gives. -/
import Derived.Lib.LaidTab
import Derived.Lib.ItoaNum
import Derived.Laws.CopyRow
import Derived.Laws.AppendOwn
import Derived.Laws.MakeOwn
import Derived.Laws.BytesString
import Derived.Laws.StructEq
import Derived.Laws.Small
import Derived.Tactics
import Derived.Calls
import Derived.Below
import Derived.KernelRfl
import Derived.Laws.Cells
import Derived.Test.YthdhckgmbfkglaaGreatDoorProg
import Derived.Test.YthdhckgmbfkglaaGreatDoorA9
import Derived.Test.YthdhckgmbfkglaaGreatDoorA11
import Derived.Test.YthdhckgmbfkglaaGreatDoorA13
import Derived.Test.YthdhckgmbfkglaaGreatDoorA14
set_option linter.unusedVariables false
set_option linter.unusedSimpArgs false
namespace Go.Proofs.Pf.B

open Go Go.VM

abbrev Buf := Option (List Int)

def ints (l : List UInt8) : List Int := l.map fun b => (b.toNat : Int)

/-- What the builder holds. -/
def BufIs (b : Buf) (l : List UInt8) : Prop := b.getD [] = ints l

theorem bytesI_bl (s : ByteArray) : bytesI s = ints (bl s) := rfl

theorem ints_len (l : List UInt8) : (ints l).length = l.length := by simp [ints]

theorem appL_getB (c : Buf) (ys : List Int) : (appL c ys).getD [] = c.getD [] ++ ys := by
  cases c with
  | none => cases ys <;> rfl
  | some l => rfl

theorem BufIs.app {b : Buf} {l : List UInt8} (h : BufIs b l) (s : ByteArray) : BufIs (appL b (bytesI s)) (l ++ bl s) := by
  unfold BufIs at *
  rw [appL_getB, h, bytesI_bl]; simp [ints]

theorem BufIs.len {b : Buf} {l : List UInt8} (h : BufIs b l) : (b.getD []).length = l.length := by rw [h, ints_len]

theorem BufIs.str {b : Buf} {l : List UInt8} (h : BufIs b l) : strOf b = ⟨l.toArray⟩ := by
  apply bl_inj
  have e : strOf b = strOf (some (b.getD [])) := rfl
  rw [e, bl_strOf, h, bl_mk]
  simp only [ints, List.map_map]
  conv => rhs; rw [← List.map_id l]
  refine List.map_congr_left fun x _ => ?_
  simp

theorem s_Write {a : ByteArray} {c : Buf} {l : List UInt8} {Q : Int × (Unit × Unit) × Buf → Prop} (hc : BufIs c l) (hl : l.length ≤ 1000000) (ha : (bl a).length ≤ 1000000) (h : ∀ c', BufIs c' (l ++ bl a) → Q (szStr a, (((), ()), c'))) :
    lendV Pg c_strings_Builder_WriteString 2 L_strings_Builder_WriteString_v1 (a, (((), ()), c)) Q := by
  have h2 := h _ (hc.app a)
  refine w_strings_Builder_WriteString_v1 a ((), ()) c ⟨_, h2⟩ (s_copyCheck_used ⟨?_, h2⟩)
  show ((c.getD []).length + (bytesI a).length) * 1 ≤ 140737488355328
  rw [hc.len, bytesI_bl, ints_len]; omega

theorem s_Write0 {a : ByteArray} {Q : Int × (Unit × Unit) × Buf → Prop} (ha : (bl a).length ≤ 1000000) (h : ∀ c', BufIs c' (bl a) → Q (szStr a, (((), ()), c'))) :
    lendV Pg c_strings_Builder_WriteString 2 L_strings_Builder_WriteString_v0 (a, (((), ()), none)) Q := by
  have h2 := h _ (BufIs.app (b := none) (l := []) rfl a)
  refine w_strings_Builder_WriteString_v0 a ((), ()) none ⟨_, h2⟩ (s_copyCheck_fresh ⟨?_, h2⟩)
  show (0 + (bytesI a).length) * 1 ≤ 140737488355328
  rw [bytesI_bl, ints_len]; omega

theorem s_BLen {c : Buf} {Q : Int × (Unit × Unit) × Buf → Prop} (h : Q (szSl c, (((), ()), c))) : lendV Pg c_strings_Builder_Len 1 L_strings_Builder_Len (((), ()), c) Q :=
  w_strings_Builder_Len ((), ()) c ⟨_, h⟩ h

theorem s_BString {c : Buf} {l : List UInt8} {Q : ByteArray × Unit × Unit → Prop} (hc : BufIs c l) (h0 : 0 < l.length) (hl : l.length ≤ 1000000) (h : Q (⟨l.toArray⟩, ((), ()))) : lendV Pg c_strings_Builder_String 1 L_strings_Builder_String (((), ()), c) Q := by
  have e : szSl c = (l.length : Int) := by show ((c.getD []).length : Int) = _; rw [hc.len]
  refine w_strings_Builder_String ((), ()) c ⟨_, h⟩ ⟨by rw [e]; omega, ⟨rfl, rfl, by rw [e]; omega, by rw [e]; omega⟩, ?_⟩
  rw [hc.str]; exact h

abbrev lit (l : List Nat) : List UInt8 := l.map UInt8.ofNat

def brS (l : List DBr) : Nat → List UInt8
  | 0 => []
  | k + 1 => brS l k ++ (if 0 < k then lit [44] else []) ++ (lit [32] ++ Lib.itoa (br l k).1 ++ lit [32] ++ printL (br l k).2)

def chS (l : List DCh) : Nat → List UInt8
  | 0 => []
  | j + 1 => chS l j ++ (lit [99, 104, 111, 105, 99, 101, 32] ++ printL (ch l j).1 ++ lit [58]) ++ brS ((ch l j).2.getD []) ((ch l j).2.getD []).length ++ lit [10]

def stS (l : List DSt) : Nat → List UInt8
  | 0 => []
  | i + 1 => stS l i ++ (lit [115, 116, 97, 116, 101, 32] ++ Lib.itoa (stt l i).1 ++ lit [32] ++ Lib.itoa (stt l i).2.1 ++ lit [10]) ++ chS ((stt l i).2.2.getD []) ((stt l i).2.2.getD []).length

def hdS (m : DMo) : List UInt8 := lit [109, 111, 100, 101, 108, 32] ++ Lib.itoa ((m.getD []).length : Int) ++ lit [10]

def moS (m : DMo) : List UInt8 := hdS m ++ stS (m.getD []) (m.getD []).length

def prtQ (m : DMo) : ByteArray × Int × Unit := if moOk m then (if 32768 < (moS m).length then (bytesL [], 3, ()) else (⟨(moS m).toArray⟩, 0, ())) else (bytesL [], 1, ())

theorem bl_lit (l : List Nat) : bl (bytesL l) = lit l := bytesL_bl l

theorem cat_bl (a b : ByteArray) : bl (catS a b) = bl a ++ bl b := bl_app a b

theorem catC_of {a b : ByteArray} (h : (bl a).length + (bl b).length ≤ 1000000) : catC a b := by
  unfold catC
  rw [size_bl, size_bl]; omega

theorem brS_len {n : Int} {l : List DBr} (hn : n ≤ 40) : ∀ {k : Nat}, (∀ j, j < k → brOk n l j) → (brS l k).length ≤ 140 * k
  | 0, _ => by simp [brS]
  | k + 1, h => by
    have h1 := brS_len hn (k := k) fun j hj => h j (by omega)
    obtain ⟨b1, b2, b3, b4⟩ := h k (by omega)
    have b0 := pre_le (i := k) fun j hj => h j (by omega)
    have h2 := itoa_len (n := (br l k).1) (by omega)
    have h3 := print_len b3
    have h4 : (if 0 < k then lit [44] else []).length ≤ 1 := by split <;> decide
    simp only [brS, List.length_append, List.length_map, List.length_cons, List.length_nil] at h4 ⊢
    omega

theorem chS_len {n : Int} {l : List DCh} (hn : n ≤ 40) : ∀ {j : Nat}, (∀ i, i < j → chOk n (ch l i)) → (chS l j).length ≤ 1300 * j
  | 0, _ => by simp [chS]
  | j + 1, h => by
    have h1 := chS_len hn (j := j) fun i hi => h i (by omega)
    obtain ⟨b1, b2, b3, b4⟩ := h j (by omega)
    have h2 := brS_len hn b3
    have h3 := print_len b1
    simp only [chS, List.length_append, List.length_map, List.length_cons, List.length_nil]
    omega

theorem stS_len {m : DMo} (h : moOk m) : ∀ {i : Nat}, i ≤ (m.getD []).length → (stS (m.getD []) i).length ≤ 11000 * i
  | 0, _ => by simp [stS]
  | i + 1, hi => by
    have h1 := stS_len h (i := i) (by omega)
    obtain ⟨⟨b1, b2, b3⟩, b4⟩ := h.2 i (by omega)
    have h2 := chS_len (by have := h.1; omega) b4
    have h3 := itoa_len (n := (stt (m.getD []) i).1) (by omega)
    have h4 := itoa_len (n := (stt (m.getD []) i).2.1) (by omega)
    simp only [stS, List.length_append, List.length_map, List.length_cons, List.length_nil]
    omega

end Go.Proofs.Pf.B

namespace Go.Proofs.Pf.B

open Go Go.VM

abbrev len (m : DMo) : Nat := (m.getD []).length

theorem s_MPrint (m : DMo) : callV Pg c_model_Print [⟨tMo, m⟩] (.tup (.pair .str (.pair tI .unit))) fun r => r = prtQ m := by
  refine w_model_Print m ⟨_, rfl⟩ ((s_MValid m).mono ?_)
  rintro _ rfl
  refine brV_iff.2 ⟨fun hb => ?_, fun hb => ?_⟩
  · rw [prtQ, if_neg (not_t hb)]
  have h := not_f hb
  have h40 := h.1
  rw [prtQ, if_pos h]
  have i0 := itoa_len (n := ((m.getD []).length : Int)) (by omega)
  refine (s_Itoa (n := ((m.getD []).length : Int)) (by omega) (by omega)).mono ?_
  rintro _ rfl
  refine ⟨catC_of (by rw [bl_lit, bl_itoaB]; simp only [List.length_map, List.length_cons, List.length_nil]; omega), catC_of (by rw [cat_bl, bl_lit, bl_lit, bl_itoaB]; simp only [List.length_append, List.length_map, List.length_cons, List.length_nil]; omega), ?_⟩
  have hh : bl (catS (catS (bytesL [109, 111, 100, 101, 108, 32]) (itoaB ((m.getD []).length : Int))) (bytesL [10])) = hdS m := by rw [cat_bl, cat_bl, bl_lit, bl_lit, bl_itoaB]; rfl
  have hhl : (hdS m).length ≤ 100 := by
    simp only [hdS, List.length_append, List.length_map, List.length_cons, List.length_nil]; omega
  refine s_Write0 (by rw [hh]; omega) fun c0 hc0 => ?_
  rw [hh] at hc0
  refine loopE (fun p => ∃ (i : Nat) (b : Buf), p = (m, (((m.getD []).length : Int), ((i : Int), (((), ()), b)))) ∧ i ≤ (m.getD []).length ∧ BufIs b (hdS m ++ stS (m.getD []) i)) (fun p => (m.getD []).length - p.2.2.1.toNat) ⟨0, c0, rfl, by omega, by simpa [stS] using hc0⟩ ?_
  rintro _ ⟨i, b, rfl, hi, hbuf⟩
  dsimp only
  have hl1 : (hdS m ++ stS (m.getD []) i).length ≤ 100 + 11000 * i := by
    have := stS_len h hi
    simp only [List.length_append]; omega
  refine brV_iff.2 ⟨fun hc => ?_, fun hc => ?_⟩
  · have hc : (i : Int) < ((m.getD []).length : Int) := dec_t hc
    rw [eltS_st]
    obtain ⟨⟨b1, b2, b3⟩, b4⟩ := h.2 i (by omega)
    have i1 := itoa_len (n := (stt (m.getD []) i).1) (by omega)
    have i2 := itoa_len (n := (stt (m.getD []) i).2.1) (by omega)
    refine ⟨⟨by omega, by omega⟩, (s_Itoa (n := (stt (m.getD []) i).1) (by omega) (by omega)).mono ?_⟩
    rintro _ rfl
    refine ⟨catC_of (by rw [bl_lit, bl_itoaB]; simp only [List.length_map, List.length_cons, List.length_nil]; omega), catC_of (by rw [cat_bl, bl_lit, bl_lit, bl_itoaB]; simp only [List.length_append, List.length_map, List.length_cons, List.length_nil]; omega), ?_⟩
    refine (s_Itoa (n := (stt (m.getD []) i).2.1) (by omega) (by omega)).mono ?_
    rintro _ rfl
    refine ⟨catC_of (by rw [cat_bl, cat_bl, bl_lit, bl_lit, bl_itoaB, bl_itoaB]; simp only [List.length_append, List.length_map, List.length_cons, List.length_nil]; omega), catC_of (by rw [cat_bl, cat_bl, cat_bl, bl_lit, bl_lit, bl_lit, bl_itoaB, bl_itoaB]; simp only [List.length_append, List.length_map, List.length_cons, List.length_nil]; omega), ?_⟩
    have hs : bl (catS (catS (catS (catS (bytesL [115, 116, 97, 116, 101, 32]) (itoaB (stt (m.getD []) i).1)) (bytesL [32])) (itoaB (stt (m.getD []) i).2.1)) (bytesL [10])) = lit [115, 116, 97, 116, 101, 32] ++ Lib.itoa (stt (m.getD []) i).1 ++ lit [32] ++ Lib.itoa (stt (m.getD []) i).2.1 ++ lit [10] := by
      rw [cat_bl, cat_bl, cat_bl, cat_bl, bl_lit, bl_lit, bl_lit, bl_itoaB, bl_itoaB]
    have hsl : (lit [115, 116, 97, 116, 101, 32] ++ Lib.itoa (stt (m.getD []) i).1 ++ lit [32] ++ Lib.itoa (stt (m.getD []) i).2.1 ++ lit [10]).length ≤ 100 := by
      simp only [List.length_append, List.length_map, List.length_cons, List.length_nil]; omega
    refine s_Write hbuf (by omega) (by rw [hs]; omega) fun c1 hc1 => ?_
    rw [hs] at hc1
    -- the state's choices
    refine loopE (fun p => ∃ (j : Nat) (b : Buf), p = (m, (((m.getD []).length : Int), ((i : Int), ((stt (m.getD []) i).2.2, ((((stt (m.getD []) i).2.2.getD []).length : Int), ((j : Int), (((), ()), b))))))) ∧ j ≤ ((stt (m.getD []) i).2.2.getD []).length ∧
        BufIs b ((hdS m ++ stS (m.getD []) i) ++ (lit [115, 116, 97, 116, 101, 32] ++ Lib.itoa (stt (m.getD []) i).1 ++ lit [32] ++ Lib.itoa (stt (m.getD []) i).2.1 ++ lit [10]) ++ chS ((stt (m.getD []) i).2.2.getD []) j))
      (fun p => ((stt (m.getD []) i).2.2.getD []).length - p.2.2.2.2.2.1.toNat) ⟨0, c1, rfl, by omega, by simpa [chS] using hc1⟩ ?_
    rintro _ ⟨j, b, rfl, hj, hbuf2⟩
    dsimp only
    generalize hpre : (hdS m ++ stS (m.getD []) i) ++ (lit [115, 116, 97, 116, 101, 32] ++ Lib.itoa (stt (m.getD []) i).1 ++ lit [32] ++ Lib.itoa (stt (m.getD []) i).2.1 ++ lit [10]) = pre at hbuf2 ⊢
    have hprel : pre.length ≤ 200 + 11000 * i := by rw [← hpre, List.length_append]; omega
    have hcl : (chS ((stt (m.getD []) i).2.2.getD []) j).length ≤ 1300 * j := chS_len (n := ((m.getD []).length : Int)) (by omega) fun k hk => b4 k (by omega)
    have hl2 : (pre ++ chS ((stt (m.getD []) i).2.2.getD []) j).length ≤ 200 + 11000 * i + 1300 * j := by rw [List.length_append]; omega
    refine brV_iff.2 ⟨fun hd => ?_, fun hd => ?_⟩
    · have hd : (j : Int) < (((stt (m.getD []) i).2.2.getD []).length : Int) := dec_t hd
      rw [eltS_ch]
      generalize hch : ch ((stt (m.getD []) i).2.2.getD []) j = c
      have hcok : chOk ((m.getD []).length : Int) c := hch ▸ b4 j (by omega)
      obtain ⟨d1, d2, d3, d4⟩ := hcok
      have pl := print_len d1
      refine ⟨⟨by omega, by omega⟩, (s_NPrint c.1).mono ?_⟩
      rintro _ rfl
      rw [printQ, if_pos d1]
      refine ⟨catC_of (by rw [bl_lit, bl_printB]; simp only [List.length_map, List.length_cons, List.length_nil]; omega), catC_of (by rw [cat_bl, bl_lit, bl_lit, bl_printB]; simp only [List.length_append, List.length_map, List.length_cons, List.length_nil]; omega), ?_⟩
      have hs2 : bl (catS (catS (bytesL [99, 104, 111, 105, 99, 101, 32]) (printB c.1)) (bytesL [58])) = lit [99, 104, 111, 105, 99, 101, 32] ++ printL c.1 ++ lit [58] := by
        rw [cat_bl, cat_bl, bl_lit, bl_lit, bl_printB]
      have hs2l : (lit [99, 104, 111, 105, 99, 101, 32] ++ printL c.1 ++ lit [58]).length ≤ 100 := by
        simp only [List.length_append, List.length_map, List.length_cons, List.length_nil]; omega
      refine s_Write hbuf2 (by omega) (by rw [hs2]; omega) fun c2 hc2 => ?_
      rw [hs2] at hc2
      generalize hpre2 : (pre ++ chS ((stt (m.getD []) i).2.2.getD []) j) ++ (lit [99, 104, 111, 105, 99, 101, 32] ++ printL c.1 ++ lit [58]) = pre2 at hc2
      have hpre2l : pre2.length ≤ 300 + 11000 * i + 1300 * j := by rw [← hpre2, List.length_append]; omega
      -- the choice's branches
      refine loopE (fun p => ∃ (k : Nat) (b : Buf), p = (m, (((m.getD []).length : Int), ((i : Int), ((stt (m.getD []) i).2.2, ((((stt (m.getD []) i).2.2.getD []).length : Int), ((j : Int), (c.2, (((c.2.getD []).length : Int), ((k : Int), (((), ()), b)))))))))) ∧ k ≤ (c.2.getD []).length ∧
          BufIs b (pre2 ++ brS (c.2.getD []) k)) (fun p => (c.2.getD []).length - p.2.2.2.2.2.2.2.2.1.toNat) ⟨0, c2, rfl, by omega, by simpa [brS] using hc2⟩ ?_
      rintro _ ⟨k, b, rfl, hk, hbuf3⟩
      dsimp only
      have hbl : (brS (c.2.getD []) k).length ≤ 140 * k := brS_len (n := ((m.getD []).length : Int)) (by omega) fun q hq => d3 q (by omega)
      have hl3 : (pre2 ++ brS (c.2.getD []) k).length ≤ 300 + 11000 * i + 1300 * j + 140 * k := by rw [List.length_append]; omega
      refine brV_iff.2 ⟨fun he => ?_, fun he => ?_⟩
      · have he : (k : Int) < ((c.2.getD []).length : Int) := dec_t he
        rw [eltS_br]
        obtain ⟨f1, f2, f3, f4⟩ := d3 k (by omega)
        have f0 := pre_le (i := k) fun q hq => d3 q (by omega)
        have i3 := itoa_len (n := (br (c.2.getD []) k).1) (by omega)
        have pl3 := print_len f3
        refine ⟨⟨by omega, by omega⟩, joinR (fun p => ∃ b : Buf, p = (m, (((m.getD []).length : Int), ((i : Int), ((stt (m.getD []) i).2.2, ((((stt (m.getD []) i).2.2.getD []).length : Int), ((j : Int), (c.2, (((c.2.getD []).length : Int), ((k : Int), (((), ()), (br (c.2.getD []) k, b))))))))))) ∧
            BufIs b (pre2 ++ brS (c.2.getD []) k ++ (if 0 < k then lit [44] else []))) ?_ ?_⟩
        · rintro _ ⟨b, rfl, hbuf4⟩
          dsimp only
          have hl4 : (pre2 ++ brS (c.2.getD []) k ++ (if 0 < k then lit [44] else [])).length ≤ 400 + 11000 * i + 1300 * j + 140 * k := by
            have h4 : (if 0 < k then lit [44] else []).length ≤ 1 := by split <;> decide
            rw [List.length_append]; omega
          refine (s_NPrint _).mono ?_
          rintro _ rfl
          rw [printQ, if_pos f3]
          refine (s_Itoa (n := (br (c.2.getD []) k).1) (by omega) (by omega)).mono ?_
          rintro _ rfl
          refine ⟨catC_of (by rw [bl_lit, bl_itoaB]; simp only [List.length_map, List.length_cons, List.length_nil]; omega), catC_of (by rw [cat_bl, bl_lit, bl_itoaB]; simp only [List.length_append, List.length_map, List.length_cons, List.length_nil]; omega), catC_of (by rw [cat_bl, cat_bl, bl_lit, bl_itoaB, bl_printB]; simp only [List.length_append, List.length_map, List.length_cons, List.length_nil]; omega), ?_⟩
          have hs3 : bl (catS (catS (catS (bytesL [32]) (itoaB (br (c.2.getD []) k).1)) (bytesL [32])) (printB (br (c.2.getD []) k).2)) = lit [32] ++ Lib.itoa (br (c.2.getD []) k).1 ++ lit [32] ++ printL (br (c.2.getD []) k).2 := by
            rw [cat_bl, cat_bl, cat_bl, bl_lit, bl_itoaB, bl_printB]
          refine s_Write hbuf4 (by omega) (by rw [hs3]; simp only [List.length_append, List.length_map, List.length_cons, List.length_nil]; omega) fun c4 hc4 => ?_
          rw [hs3] at hc4
          rw [wi64 (by omega) (by omega)]
          refine ⟨⟨k + 1, c4, rfl, by omega, ?_⟩, by omega⟩
          have e : pre2 ++ brS (c.2.getD []) (k + 1) = pre2 ++ brS (c.2.getD []) k ++ (if 0 < k then lit [44] else []) ++ (lit [32] ++ Lib.itoa (br (c.2.getD []) k).1 ++ lit [32] ++ printL (br (c.2.getD []) k).2) := by
            simp only [brS, List.append_assoc]
          rw [e]; exact hc4
        · intro k' hk'
          refine brV_iff.2 ⟨fun hf => ?_, fun hf => ?_⟩
          · have hf : (0 : Int) < (k : Int) := dec_t hf
            refine s_Write hbuf3 (by omega) (by rw [bl_lit]; decide) fun c4 hc4 => hk' _ ⟨c4, rfl, ?_⟩
            rw [bl_lit] at hc4
            rw [if_pos (by omega)]; exact hc4
          · have hf : ¬ (0 : Int) < (k : Int) := dec_f hf
            refine hk' _ ⟨b, rfl, ?_⟩
            rw [if_neg (by omega), List.append_nil]; exact hbuf3
      · have he : ¬ (k : Int) < ((c.2.getD []).length : Int) := dec_f he
        obtain rfl : k = (c.2.getD []).length := by omega
        refine s_Write hbuf3 (by omega) (by rw [bl_lit]; decide) fun c4 hc4 => ?_
        rw [bl_lit] at hc4
        rw [wi64 (by omega) (by omega)]
        refine ⟨⟨j + 1, c4, rfl, by omega, ?_⟩, by omega⟩
        have e : pre ++ chS ((stt (m.getD []) i).2.2.getD []) (j + 1) = pre2 ++ brS (c.2.getD []) (c.2.getD []).length ++ lit [10] := by
          rw [← hpre2, ← hch]
          simp only [chS, List.append_assoc]
        rw [e]; exact hc4
    · have hd : ¬ (j : Int) < (((stt (m.getD []) i).2.2.getD []).length : Int) := dec_f hd
      obtain rfl : j = ((stt (m.getD []) i).2.2.getD []).length := by omega
      rw [wi64 (by omega) (by omega)]
      refine ⟨⟨i + 1, b, rfl, by omega, ?_⟩, by omega⟩
      have e : hdS m ++ stS (m.getD []) (i + 1) = pre ++ chS ((stt (m.getD []) i).2.2.getD []) ((stt (m.getD []) i).2.2.getD []).length := by
        rw [← hpre]
        simp only [stS, List.append_assoc]
      rw [e]; exact hbuf2
  · have hc : ¬ (i : Int) < ((m.getD []).length : Int) := dec_f hc
    obtain rfl : i = (m.getD []).length := by omega
    have e1 : szSl b = ((moS m).length : Int) := by show ((b.getD []).length : Int) = _; rw [hbuf.len]; rfl
    refine s_BLen ?_
    dsimp only
    rw [e1]
    have hpos : 0 < (moS m).length := by
      simp only [moS, hdS, List.length_append, List.length_map, List.length_cons]; omega
    refine brV_iff.2 ⟨fun hf => ?_, fun hf => ?_⟩
    · have hf : (32768 : Int) < ((moS m).length : Int) := dec_t hf
      rw [if_pos (by omega)]
    · have hf : ¬ (32768 : Int) < ((moS m).length : Int) := dec_f hf
      rw [if_neg (by omega)]
      exact s_BString (l := moS m) hbuf hpos (by omega) rfl

end Go.Proofs.Pf.B

namespace Go.Proofs.Pf.B

open Go Go.VM

def diceM : DMo := some [(0, 0, some [((0, 1), some [(1, 2, 3), (2, 1, 3)]), ((0, 1), some [(0, 1, 2), (1, 1, 4), (2, 1, 4)])]), (0, 0, some [((0, 1), some [(1, 1, 1)])]), (0, 1, some [((0, 1), some [(2, 1, 1)])])]

theorem s_lnum (a b : Int) : callV Pg c_law04_num [⟨tI, a⟩, ⟨tI, b⟩] tNum fun r => r = (a, b) := w_law04_num a b ⟨_, rfl⟩ rfl

theorem s_dice : callV Pg c_law04_dice [] tMo fun r => r = diceM := by
  refine w_law04_dice ⟨_, rfl⟩ ?_
  refine (s_lnum 0 1).mono ?_; rintro _ rfl
  refine (s_lnum 2 3).mono ?_; rintro _ rfl
  refine (s_lnum 1 3).mono ?_; rintro _ rfl
  refine joinE ?_
  refine (s_lnum 0 1).mono ?_; rintro _ rfl
  refine joinE ?_
  refine (s_lnum 1 2).mono ?_; rintro _ rfl
  refine (s_lnum 1 4).mono ?_; rintro _ rfl
  refine joinE ?_
  refine (s_lnum 1 4).mono ?_; rintro _ rfl
  refine joinE ?_
  refine (s_lnum 0 1).mono ?_; rintro _ rfl
  refine (s_lnum 1 1).mono ?_; rintro _ rfl
  refine joinE ?_
  refine joinE ?_
  refine (s_lnum 0 1).mono ?_; rintro _ rfl
  refine (s_lnum 1 1).mono ?_; rintro _ rfl
  refine joinE ?_
  refine joinE ?_
  rfl

theorem dice_ok : moOk diceM := by decide +kernel

theorem dice_text : moS diceM = lit [109, 111, 100, 101, 108, 32, 51, 10, 115, 116, 97, 116, 101, 32, 48, 32, 48, 10, 99, 104, 111, 105, 99, 101, 32, 48, 58, 32, 49, 32, 50, 47, 51, 44, 32, 50, 32, 49, 47, 51, 10, 99, 104, 111, 105, 99, 101, 32, 48, 58, 32, 48, 32, 49, 47, 50, 44, 32, 49, 32, 49, 47, 52, 44, 32, 50, 32, 49, 47, 52, 10, 115, 116, 97, 116, 101, 32, 48, 32, 48, 10, 99, 104, 111, 105, 99, 101, 32, 48, 58, 32, 49, 32, 49, 10, 115, 116, 97, 116, 101, 32, 48, 32, 49, 10, 99, 104, 111, 105, 99, 101, 32, 48, 58, 32, 50, 32, 49, 10] := by
  decide +kernel

theorem s_awake4 : callV Pg c_law04_awake [] .bool fun r => r = true := by
  refine w_law04_awake ⟨_, rfl⟩ (s_dice.mono ?_)
  rintro _ rfl
  refine (s_MPrint diceM).mono ?_
  rintro _ rfl
  rw [prtQ, if_pos dice_ok, dice_text, if_neg (by decide)]
  refine joinE (brV_iff.2 ⟨fun _ => ?_, fun h => absurd rfl (dec_f h)⟩)
  show eqStr _ _ = true
  rw [eqStr_bl, bl_mk, bl_lit]
  exact decide_eq_true rfl

end Go.Proofs.Pf.B

namespace Go.Proofs.Pf.B

open Go Go.VM

abbrev int (l : List Int) (i : Nat) : Int := l.getD i 0

theorem eltS_int {l : Option (List Int)} {i : Nat} : eltS (0 : Int) l (i : Int) = int (l.getD []) i := by simp only [eltS, Int.toNat_natCast]

def preI (l : List Int) : Nat → Int
  | 0 => -1
  | i + 1 => int l i

def setAt (n : Int) (l : List Int) (i : Nat) : Prop := preI l i < int l i ∧ int l i < n

instance (n : Int) (l : List Int) (i : Nat) : Decidable (setAt n l i) := by unfold setAt; infer_instance

def setOk (n : Int) (l : List Int) : Prop := ∀ i, i < l.length → setAt n l i

instance (n : Int) (l : List Int) : Decidable (setOk n l) := by unfold setOk; infer_instance

theorem preI_le {n : Int} {l : List Int} : ∀ {i : Nat}, (∀ j, j < i → setAt n l j) → -1 ≤ preI l i
  | 0, _ => by simp [preI]
  | i + 1, h => by
    have h1 := (h i (by omega)).1
    have h2 := preI_le (i := i) fun j hj => h j (by omega)
    show -1 ≤ int l i
    omega

theorem s_Set (m : DMo) (l : Option (List Int)) (hl : (l.getD []).length < 4611686018427387904) : callV Pg c_model_Set [⟨tMo, m⟩, ⟨tL, l⟩] .bool fun r => r = decide (setOk ((m.getD []).length : Int) (l.getD [])) := by
  refine w_model_Set m l ⟨_, rfl⟩ (loopE (fun p => ∃ i : Nat, p = (preI (l.getD []) i, (l, (((l.getD []).length : Int), ((i : Int), m)))) ∧ i ≤ (l.getD []).length ∧ ∀ j, j < i → setAt ((m.getD []).length : Int) (l.getD []) j) (fun p => (l.getD []).length - p.2.2.2.1.toNat) ⟨0, rfl, by omega, fun j h => by omega⟩ ?_)
  rintro _ ⟨i, rfl, hi, hall⟩
  dsimp only
  refine brV_iff.2 ⟨fun hc => ?_, fun hc => ?_⟩
  · have hc : (i : Int) < ((l.getD []).length : Int) := dec_t hc
    rw [eltS_int]
    refine ⟨⟨by omega, by omega⟩, joinR (fun p => ∃ b : Bool, p = (int (l.getD []) i, (l, (((l.getD []).length : Int), ((i : Int), (b, m))))) ∧ (b = true → ¬ setAt ((m.getD []).length : Int) (l.getD []) i) ∧ (b = false → setAt ((m.getD []).length : Int) (l.getD []) i)) ?_ ?_⟩
    · rintro _ ⟨b, rfl, h1, h2⟩
      dsimp only
      refine brV_iff.2 ⟨fun h => (decide_eq_false fun hq => h1 h (hq i (by omega))).symm, fun h => ?_⟩
      rw [wi64 (by omega) (by omega)]
      refine ⟨⟨i + 1, rfl, by omega, fun j hj => ?_⟩, by omega⟩
      rcases Nat.lt_or_ge j i with q | q
      · exact hall j q
      · obtain rfl : j = i := by omega
        exact h2 h
    · intro k hk
      refine brV_iff.2 ⟨fun h => hk _ ⟨true, rfl, fun _ hq => ?_, fun h => by cases h⟩, fun h => ?_⟩
      · have h := dec_t h; have := hq.1; omega
      have e1 := dec_f h
      refine hk _ ⟨_, rfl, fun h hq => ?_, fun h => ⟨by omega, ?_⟩⟩
      · have h : ((m.getD []).length : Int) ≤ int (l.getD []) i := dec_t h
        have := hq.2; omega
      · have h : ¬ ((m.getD []).length : Int) ≤ int (l.getD []) i := dec_f h
        omega
  · have hc : ¬ (i : Int) < ((l.getD []).length : Int) := dec_f hc
    obtain rfl : i = (l.getD []).length := by omega
    exact (decide_eq_true hall).symm

theorem r_Set (m : DMo) (l : Option (List Int)) (hl : (l.getD []).length < 4611686018427387904) : callV Pg c_ref04_Set [⟨tMo, m⟩, ⟨tL, l⟩] .bool fun r => r = decide (setOk ((m.getD []).length : Int) (l.getD [])) := by
  refine w_ref04_Set m l ⟨_, rfl⟩ (loopE (fun p => ∃ i : Nat, p = (l, (l, (((l.getD []).length : Int), ((i : Int), m)))) ∧ i ≤ (l.getD []).length ∧ ∀ j, j < i → setAt ((m.getD []).length : Int) (l.getD []) j) (fun p => (l.getD []).length - p.2.2.2.1.toNat) ⟨0, rfl, by omega, fun j h => by omega⟩ ?_)
  rintro _ ⟨i, rfl, hi, hall⟩
  dsimp only
  refine brV_iff.2 ⟨fun hc => ?_, fun hc => ?_⟩
  · have hc : (i : Int) < ((l.getD []).length : Int) := dec_t hc
    have hpre := preI_le hall
    rw [eltS_int]
    refine ⟨⟨by omega, by omega⟩, joinR (fun p => ∃ b : Bool, p = (l, (l, (((l.getD []).length : Int), ((i : Int), (b, m))))) ∧ (b = true → ¬ setAt ((m.getD []).length : Int) (l.getD []) i) ∧ (b = false → setAt ((m.getD []).length : Int) (l.getD []) i)) ?_ ?_⟩
    · rintro _ ⟨b, rfl, h1, h2⟩
      dsimp only
      refine brV_iff.2 ⟨fun h => (decide_eq_false fun hq => h1 h (hq i (by omega))).symm, fun h => ?_⟩
      rw [wi64 (by omega) (by omega)]
      refine ⟨⟨i + 1, rfl, by omega, fun j hj => ?_⟩, by omega⟩
      rcases Nat.lt_or_ge j i with q | q
      · exact hall j q
      · obtain rfl : j = i := by omega
        exact h2 h
    · intro k hk
      refine brV_iff.2 ⟨fun h => hk _ ⟨true, rfl, fun _ hq => ?_, fun h => by cases h⟩, fun h => ?_⟩
      · have h := dec_t h; have := hq.1; omega
      have e1 := dec_f h
      refine brV_iff.2 ⟨fun h => hk _ ⟨true, rfl, fun _ hq => ?_, fun h => by cases h⟩, fun h => ?_⟩
      · have h : ((m.getD []).length : Int) ≤ int (l.getD []) i := dec_t h
        have := hq.2; omega
      have e2 : ¬ ((m.getD []).length : Int) ≤ int (l.getD []) i := dec_f h
      refine brV_iff.2 ⟨fun h => ?_, fun h => ?_⟩
      · have h := dec_t h
        obtain ⟨j, rfl⟩ : ∃ j, i = j + 1 := ⟨i - 1, by omega⟩
        rw [wi64 (by omega) (by omega), show ((j + 1 : Nat) : Int) - 1 = (j : Int) by omega, eltS_int]
        refine ⟨⟨by omega, by omega⟩, hk _ ⟨_, rfl, fun h hq => ?_, fun h => ⟨?_, by omega⟩⟩⟩
        · have h := dec_t h; have : int (l.getD []) j < _ := hq.1; omega
        · have h := dec_f h
          show int (l.getD []) j < _
          omega
      · have h := dec_f h
        obtain rfl : i = 0 := by omega
        exact hk _ ⟨false, rfl, (fun h => by cases h), (fun _ => ⟨show (-1 : Int) < _ by omega, by omega⟩)⟩
  · have hc : ¬ (i : Int) < ((l.getD []).length : Int) := dec_f hc
    obtain rfl : i = (l.getD []).length := by omega
    exact (decide_eq_true hall).symm

def strAt (m : List DSt) (l : List Int) (i : Nat) : Prop := 0 ≤ int l i ∧ int l i < cntL (stt m i)

instance (m : List DSt) (l : List Int) (i : Nat) : Decidable (strAt m l i) := by unfold strAt; infer_instance

def strOk (m : DMo) (l : List Int) : Prop := l.length = (m.getD []).length ∧ ∀ i, i < l.length → strAt (m.getD []) l i

instance (m : DMo) (l : List Int) : Decidable (strOk m l) := by unfold strOk; infer_instance

theorem s_Strategy (m : DMo) (l : Option (List Int)) (hl : (l.getD []).length < 4611686018427387904) : callV Pg c_model_Strategy [⟨tMo, m⟩, ⟨tL, l⟩] .bool fun r => r = decide (strOk m (l.getD [])) := by
  refine w_model_Strategy m l ⟨_, rfl⟩ (brV_iff.2 ⟨fun h => ?_, fun h => ?_⟩)
  · have h : ¬ ((l.getD []).length : Int) = ((m.getD []).length : Int) := not_t h
    exact (decide_eq_false fun hq => h (by rw [hq.1])).symm
  have hlen : ((l.getD []).length : Int) = ((m.getD []).length : Int) := not_f h
  refine loopE (fun p => ∃ i : Nat, p = (l, (((l.getD []).length : Int), ((i : Int), m))) ∧ i ≤ (l.getD []).length ∧ ∀ j, j < i → strAt (m.getD []) (l.getD []) j) (fun p => (l.getD []).length - p.2.2.1.toNat) ⟨0, rfl, by omega, fun j h => by omega⟩ ?_
  rintro _ ⟨i, rfl, hi, hall⟩
  dsimp only
  refine brV_iff.2 ⟨fun hc => ?_, fun hc => ?_⟩
  · have hc : (i : Int) < ((l.getD []).length : Int) := dec_t hc
    rw [eltS_int]
    refine ⟨⟨by omega, by omega⟩, joinR (fun p => ∃ b : Bool, p = (l, (((l.getD []).length : Int), ((i : Int), (b, m)))) ∧ (b = true → ¬ strAt (m.getD []) (l.getD []) i) ∧ (b = false → strAt (m.getD []) (l.getD []) i)) ?_ ?_⟩
    · rintro _ ⟨b, rfl, h1, h2⟩
      dsimp only
      refine brV_iff.2 ⟨fun h => (decide_eq_false fun hq => h1 h (hq.2 i (by omega))).symm, fun h => ?_⟩
      rw [wi64 (by omega) (by omega)]
      refine ⟨⟨i + 1, rfl, by omega, fun j hj => ?_⟩, by omega⟩
      rcases Nat.lt_or_ge j i with q | q
      · exact hall j q
      · obtain rfl : j = i := by omega
        exact h2 h
    · intro k hk
      refine brV_iff.2 ⟨fun h => hk _ ⟨true, rfl, fun _ hq => ?_, fun h => by cases h⟩, fun h => ?_⟩
      · have h := dec_t h; have := hq.1; omega
      have e1 := dec_f h
      rw [eltS_st]
      refine ⟨⟨by omega, by omega⟩, hk _ ⟨_, rfl, fun h hq => ?_, fun h => ⟨by omega, ?_⟩⟩⟩
      · have h : cntL (stt (m.getD []) i) ≤ int (l.getD []) i := dec_t h
        have := hq.2; omega
      · have h : ¬ cntL (stt (m.getD []) i) ≤ int (l.getD []) i := dec_f h
        omega
  · have hc : ¬ (i : Int) < ((l.getD []).length : Int) := dec_f hc
    obtain rfl : i = (l.getD []).length := by omega
    exact (decide_eq_true ⟨by omega, hall⟩).symm

theorem r_Strategy (m : DMo) (l : Option (List Int)) (hl : (l.getD []).length < 4611686018427387904) : callV Pg c_ref04_Strategy [⟨tMo, m⟩, ⟨tL, l⟩] .bool fun r => r = decide (strOk m (l.getD [])) := by
  refine w_ref04_Strategy m l ⟨_, rfl⟩ (brV_iff.2 ⟨fun h => ?_, fun h => ?_⟩)
  · have h : ¬ ((l.getD []).length : Int) = ((m.getD []).length : Int) := not_t h
    exact (decide_eq_false fun hq => h (by rw [hq.1])).symm
  have hlen : ((l.getD []).length : Int) = ((m.getD []).length : Int) := not_f h
  refine loopE (fun p => ∃ i : Nat, p = (l, (((l.getD []).length : Int), ((i : Int), m))) ∧ i ≤ (l.getD []).length ∧ ∀ j, j < i → strAt (m.getD []) (l.getD []) j) (fun p => (l.getD []).length - p.2.2.1.toNat) ⟨0, rfl, by omega, fun j h => by omega⟩ ?_
  rintro _ ⟨i, rfl, hi, hall⟩
  dsimp only
  refine brV_iff.2 ⟨fun hc => ?_, fun hc => ?_⟩
  · have hc : (i : Int) < ((l.getD []).length : Int) := dec_t hc
    rw [eltS_int]
    refine ⟨⟨by omega, by omega⟩, joinR (fun p => ∃ b : Bool, p = (l, (((l.getD []).length : Int), ((i : Int), (b, m)))) ∧ (b = true → ¬ strAt (m.getD []) (l.getD []) i) ∧ (b = false → strAt (m.getD []) (l.getD []) i)) ?_ ?_⟩
    · rintro _ ⟨b, rfl, h1, h2⟩
      dsimp only
      refine brV_iff.2 ⟨fun h => (decide_eq_false fun hq => h1 h (hq.2 i (by omega))).symm, fun h => ?_⟩
      rw [wi64 (by omega) (by omega)]
      refine ⟨⟨i + 1, rfl, by omega, fun j hj => ?_⟩, by omega⟩
      rcases Nat.lt_or_ge j i with q | q
      · exact hall j q
      · obtain rfl : j = i := by omega
        exact h2 h
    · intro k hk
      refine brV_iff.2 ⟨fun h => hk _ ⟨true, rfl, fun _ hq => ?_, fun h => by cases h⟩, fun h => ?_⟩
      · have h := dec_t h; have := hq.1; omega
      have e1 := dec_f h
      rw [eltS_st]
      refine ⟨⟨by omega, by omega⟩, hk _ ⟨_, rfl, fun h hq => ?_, fun h => ⟨by omega, ?_⟩⟩⟩
      · have h : cntL (stt (m.getD []) i) ≤ int (l.getD []) i := dec_t h
        have := hq.2; omega
      · have h : ¬ cntL (stt (m.getD []) i) ≤ int (l.getD []) i := dec_f h
        omega
  · have hc : ¬ (i : Int) < ((l.getD []).length : Int) := dec_f hc
    obtain rfl : i = (l.getD []).length := by omega
    exact (decide_eq_true ⟨by omega, hall⟩).symm

end Go.Proofs.Pf.B

namespace Go.Proofs.Pf.B

open Go Go.VM

def single (m : DMo) : Prop := ∀ i, i < (m.getD []).length → ((stt (m.getD []) i).2.2.getD []).length = 1

instance (m : DMo) : Decidable (single m) := by unfold single; infer_instance

end Go.Proofs.Pf.B

namespace Go.Proofs.Pf.B

open Go Go.VM

def evenB (l : List DBr) : Prop := ∀ k, k < l.length → Int.tmod 12 (br l k).2.2 = 0

instance (l : List DBr) : Decidable (evenB l) := by unfold evenB; infer_instance

def easyCh (c : DCh) : Prop := c.1.2 = 1 ∧ c.1.1 ≤ 100 ∧ -100 ≤ c.1.1 ∧ evenB (c.2.getD [])

instance (c : DCh) : Decidable (easyCh c) := by unfold easyCh; infer_instance

def easyS (s : DSt) : Prop := ∀ j, j < (s.2.2.getD []).length → easyCh (ch (s.2.2.getD []) j)

instance (s : DSt) : Decidable (easyS s) := by unfold easyS; infer_instance

def plainM (m : DMo) : Prop := (∀ i, i < (m.getD []).length → easyS (stt (m.getD []) i)) ∧ (m.getD []).length ≤ 8

instance (m : DMo) : Decidable (plainM m) := by unfold plainM; infer_instance

end Go.Proofs.Pf.B

namespace Go.Proofs.Pf.B

open Go Go.VM

def fewSt (s : DSt) : Prop := (s.2.2.getD []).length ≤ 10 ∧ ∀ j, j < (s.2.2.getD []).length → ((ch (s.2.2.getD []) j).2.getD []).length ≤ 10

def fewOk (m : DMo) : Prop := (m.getD []).length ≤ 45 ∧ ∀ i, i < (m.getD []).length → fewSt (stt (m.getD []) i)

theorem r_Few2 (n : Int) (m : DMo) : callV Pg c_ref04_Few [⟨tI, n⟩, ⟨tMo, m⟩] .bool fun r => r = true → fewOk m := by
  refine w_ref04_Few n m ⟨false, fun h => by cases h⟩ (joinR (fun p => ∃ b : Bool, p = (b, m) ∧ (b = false → (m.getD []).length ≤ 45)) ?_ ?_)
  · rintro _ ⟨b, rfl, hb⟩
    dsimp only
    refine brV_iff.2 ⟨fun _ h => (by cases h), fun h => ?_⟩
    have hb := hb h
    refine loopE (fun p => ∃ i : Nat, p = (m, (((m.getD []).length : Int), (i : Int))) ∧ i ≤ (m.getD []).length ∧ ∀ j, j < i → fewSt (stt (m.getD []) j)) (fun p => (m.getD []).length - p.2.2.toNat) ⟨0, rfl, by omega, fun j h => by omega⟩ ?_
    rintro _ ⟨i, rfl, hi, hall⟩
    dsimp only
    refine brV_iff.2 ⟨fun hc => ?_, fun hc _ => ?_⟩
    · have hc : (i : Int) < ((m.getD []).length : Int) := dec_t hc
      rw [eltS_st]
      refine ⟨⟨by omega, by omega⟩, brV_iff.2 ⟨fun _ h => (by cases h), fun h10 => ?_⟩⟩
      have h10 : ¬ (10 : Int) < (((stt (m.getD []) i).2.2.getD []).length : Int) := dec_f h10
      refine loopE (fun p => ∃ j : Nat, p = (m, (((m.getD []).length : Int), ((i : Int), ((stt (m.getD []) i).2.2, ((((stt (m.getD []) i).2.2.getD []).length : Int), (j : Int)))))) ∧ j ≤ ((stt (m.getD []) i).2.2.getD []).length ∧ ∀ k, k < j → ((ch ((stt (m.getD []) i).2.2.getD []) k).2.getD []).length ≤ 10)
        (fun p => ((stt (m.getD []) i).2.2.getD []).length - p.2.2.2.2.2.toNat) ⟨0, rfl, by omega, fun j h => by omega⟩ ?_
      rintro _ ⟨j, rfl, hj, hall2⟩
      dsimp only
      refine brV_iff.2 ⟨fun hd => ?_, fun hd => ?_⟩
      · have hd : (j : Int) < (((stt (m.getD []) i).2.2.getD []).length : Int) := dec_t hd
        rw [eltS_ch]
        refine ⟨⟨by omega, by omega⟩, brV_iff.2 ⟨fun _ h => (by cases h), fun he => ?_⟩⟩
        have he : ¬ (10 : Int) < (((ch ((stt (m.getD []) i).2.2.getD []) j).2.getD []).length : Int) := dec_f he
        rw [wi64 (by omega) (by omega)]
        refine ⟨⟨j + 1, rfl, by omega, fun k hk => ?_⟩, by omega⟩
        rcases Nat.lt_or_ge k j with q | q
        · exact hall2 k q
        · obtain rfl : k = j := by omega
          omega
      · have hd : ¬ (j : Int) < (((stt (m.getD []) i).2.2.getD []).length : Int) := dec_f hd
        obtain rfl : j = ((stt (m.getD []) i).2.2.getD []).length := by omega
        rw [wi64 (by omega) (by omega)]
        refine ⟨⟨i + 1, rfl, by omega, fun k hk => ?_⟩, by omega⟩
        rcases Nat.lt_or_ge k i with q | q
        · exact hall k q
        · obtain rfl : k = i := by omega
          exact ⟨by omega, hall2⟩
    · have hc : ¬ (i : Int) < ((m.getD []).length : Int) := dec_f hc
      obtain rfl : i = (m.getD []).length := by omega
      exact ⟨hb, hall⟩
  · intro k hk
    have fin : k ((decide ((45 : Int) < szSl m)), m) := hk _ ⟨_, rfl, fun h => by have h : ¬ (45 : Int) < ((m.getD []).length : Int) := dec_f h; omega⟩
    refine brV_iff.2 ⟨fun _ => brV_iff.2 ⟨fun _ => hk _ ⟨true, rfl, fun h => by cases h⟩, fun _ => fin⟩, fun _ => fin⟩

theorem s_few2 (l : List DMo) (hl : l.length ≤ 10) : callV Pg c_law04_few [⟨.sl tMo, some l⟩] .bool fun r => r = true → ∀ i, i < l.length → fewOk (l.getD i none) := by
  refine w_law04_few (some l) ⟨false, fun h => by cases h⟩ (loopE (fun p => ∃ i : Nat, p = (some l, ((l.length : Int), (i : Int))) ∧ i ≤ l.length ∧ ∀ j, j < i → fewOk (l.getD j none)) (fun p => l.length - p.2.2.toNat) ⟨0, rfl, by omega, fun j h => by omega⟩ ?_)
  rintro _ ⟨i, rfl, hi, hall⟩
  dsimp only
  refine brV_iff.2 ⟨fun hc => ?_, fun hc _ => ?_⟩
  · have hc : (i : Int) < (l.length : Int) := dec_t hc
    refine ⟨⟨by omega, by simpa using hc⟩, (r_Few2 40 _).mono fun p hp => brV_iff.2 ⟨fun _ h => (by cases h), fun hb => ?_⟩⟩
    rw [wi64 (by omega) (by omega)]
    refine ⟨⟨i + 1, rfl, by omega, fun j hj => ?_⟩, by omega⟩
    rcases Nat.lt_or_ge j i with q | q
    · exact hall j q
    · obtain rfl : j = i := by omega
      have hp := hp (by cases p <;> simp [notB] at hb ⊢)
      simpa only [eltS, Option.getD_some, Int.toNat_natCast] using hp
  · have hc : ¬ (i : Int) < (l.length : Int) := dec_f hc
    obtain rfl : i = l.length := by omega
    exact hall

def chEq (c d : DCh) : Prop := c.1 = d.1 ∧ c.2.getD [] = d.2.getD []

instance (c d : DCh) : Decidable (chEq c d) := by unfold chEq; infer_instance

def stEq (s t : DSt) : Prop := s.1 = t.1 ∧ s.2.1 = t.2.1 ∧ (s.2.2.getD []).length = (t.2.2.getD []).length ∧ ∀ j, j < (s.2.2.getD []).length → chEq (ch (s.2.2.getD []) j) (ch (t.2.2.getD []) j)

instance (s t : DSt) : Decidable (stEq s t) := by unfold stEq; infer_instance

def moEq (a b : DMo) : Prop := (a.getD []).length = (b.getD []).length ∧ ∀ i, i < (a.getD []).length → stEq (stt (a.getD []) i) (stt (b.getD []) i)

instance (a b : DMo) : Decidable (moEq a b) := by unfold moEq; infer_instance

theorem num_eq (x y : Int × Int) : andB (decide (x.1 = y.1)) (andB (decide (x.2 = y.2)) true) = decide (x = y) := by
  obtain ⟨a, b⟩ := x; obtain ⟨c, d⟩ := y
  by_cases h : a = c <;> by_cases g : b = d <;> simp [andB, h, g]

theorem br_eq (x y : DBr) : andB (decide (x.1 = y.1)) (andB (andB (decide (x.2.1 = y.2.1)) (andB (decide (x.2.2 = y.2.2)) true)) true) = decide (x = y) := by
  rw [num_eq]
  obtain ⟨a, b⟩ := x; obtain ⟨c, d⟩ := y
  by_cases h : a = c <;> by_cases g : b = d <;> simp [andB, h, g]

theorem list_eq {l r : List DBr} (hl : l.length = r.length) (h : ∀ k, k < l.length → br l k = br r k) : l = r := by
  apply List.ext_getElem hl
  intro i h1 h2
  have := h i h1
  simpa [br, List.getD, h1, h2] using this

end Go.Proofs.Pf.B

namespace Go.Proofs.Pf.B

open Go Go.VM

theorem r_Identical (a b : DMo) (ha : fewOk a) : callV Pg c_ref04_Identical [⟨tMo, a⟩, ⟨tMo, b⟩] .bool fun r => r = decide (moEq a b) := by
  refine w_ref04_Identical a b ⟨_, rfl⟩ (brV_iff.2 ⟨fun h => ?_, fun h => ?_⟩)
  · have h : ¬ ((a.getD []).length : Int) = ((b.getD []).length : Int) := not_t h
    exact (decide_eq_false fun e : moEq a b => h (by rw [e.1])).symm
  have hl : ((a.getD []).length : Int) = ((b.getD []).length : Int) := not_f h
  have h45 := ha.1
  refine loopE (fun p => ∃ i : Nat, p = (a, (((a.getD []).length : Int), ((i : Int), b))) ∧ i ≤ (a.getD []).length ∧ ∀ j, j < i → stEq (stt (a.getD []) j) (stt (b.getD []) j)) (fun p => (a.getD []).length - p.2.2.1.toNat) ⟨0, rfl, by omega, fun j h => by omega⟩ ?_
  rintro _ ⟨i, rfl, hi, hall⟩
  dsimp only
  refine brV_iff.2 ⟨fun hc => ?_, fun hc => ?_⟩
  · have hc : (i : Int) < ((a.getD []).length : Int) := dec_t hc
    rw [eltS_st, eltS_st]
    generalize hs : stt (a.getD []) i = s
    generalize ht : stt (b.getD []) i = t
    obtain ⟨f1, f2⟩ : fewSt s := hs ▸ ha.2 i (by omega)
    have no : ¬ stEq s t → ¬ moEq a b := fun q e => q (hs ▸ ht ▸ e.2 i (by omega))
    refine ⟨⟨by omega, by omega⟩, ⟨by omega, by omega⟩, joinR (fun p => ∃ q : Bool, p = (a, (((a.getD []).length : Int), ((i : Int), (q, (b, (s, t)))))) ∧ (q = true → ¬ stEq s t) ∧ (q = false → s.1 = t.1 ∧ s.2.1 = t.2.1 ∧ (s.2.2.getD []).length = (t.2.2.getD []).length)) ?_ ?_⟩
    · rintro _ ⟨q, rfl, h1, h2⟩
      dsimp only
      refine brV_iff.2 ⟨fun hq => (decide_eq_false (no (h1 hq))).symm, fun hq => ?_⟩
      obtain ⟨g1, g2, g3⟩ := h2 hq
      refine loopE (fun p => ∃ j : Nat, p = (a, (((a.getD []).length : Int), ((i : Int), (s.2.2, (((s.2.2.getD []).length : Int), ((j : Int), (b, t))))))) ∧ j ≤ (s.2.2.getD []).length ∧ ∀ k, k < j → chEq (ch (s.2.2.getD []) k) (ch (t.2.2.getD []) k))
        (fun p => (s.2.2.getD []).length - p.2.2.2.2.2.1.toNat) ⟨0, rfl, by omega, fun j h => by omega⟩ ?_
      rintro _ ⟨j, rfl, hj, hall2⟩
      dsimp only
      refine brV_iff.2 ⟨fun hd => ?_, fun hd => ?_⟩
      · have hd : (j : Int) < ((s.2.2.getD []).length : Int) := dec_t hd
        rw [eltS_ch, eltS_ch, num_eq]
        generalize hcc : ch (s.2.2.getD []) j = c
        generalize hdd : ch (t.2.2.getD []) j = d
        have f3 : (c.2.getD []).length ≤ 10 := hcc ▸ f2 j (by omega)
        have no2 : ¬ chEq c d → ¬ moEq a b := fun q => no fun e => q (hcc ▸ hdd ▸ e.2.2.2 j (by omega))
        refine ⟨⟨by omega, by omega⟩, ⟨by omega, by omega⟩, joinR (fun p => ∃ q : Bool, p = (a, (((a.getD []).length : Int), ((i : Int), (s.2.2, (((s.2.2.getD []).length : Int), ((j : Int), (q, (b, (t, (c, d)))))))))) ∧ (q = true → ¬ chEq c d) ∧ (q = false → c.1 = d.1 ∧ (c.2.getD []).length = (d.2.getD []).length)) ?_ ?_⟩
        · rintro _ ⟨q, rfl, k1, k2⟩
          dsimp only
          refine brV_iff.2 ⟨fun hq => (decide_eq_false (no2 (k1 hq))).symm, fun hq => ?_⟩
          obtain ⟨e1, e2⟩ := k2 hq
          refine loopE (fun p => ∃ k : Nat, p = (a, (((a.getD []).length : Int), ((i : Int), (s.2.2, (((s.2.2.getD []).length : Int), ((j : Int), (c.2, (((c.2.getD []).length : Int), ((k : Int), (b, (t, d))))))))))) ∧ k ≤ (c.2.getD []).length ∧ ∀ q, q < k → br (c.2.getD []) q = br (d.2.getD []) q)
            (fun p => (c.2.getD []).length - p.2.2.2.2.2.2.2.2.1.toNat) ⟨0, rfl, by omega, fun j h => by omega⟩ ?_
          rintro _ ⟨k, rfl, hk, hall3⟩
          dsimp only
          refine brV_iff.2 ⟨fun he => ?_, fun he => ?_⟩
          · have he : (k : Int) < ((c.2.getD []).length : Int) := dec_t he
            rw [eltS_br, eltS_br, br_eq]
            refine ⟨⟨by omega, by omega⟩, ⟨by omega, by omega⟩, brV_iff.2 ⟨fun hf => ?_, fun hf => ?_⟩⟩
            · exact (decide_eq_false (no2 fun e => not_t hf (by rw [e.2]))).symm
            · have hf := not_f hf
              rw [wi64 (by omega) (by omega)]
              refine ⟨⟨k + 1, rfl, by omega, fun q hq => ?_⟩, by omega⟩
              rcases Nat.lt_or_ge q k with z | z
              · exact hall3 q z
              · obtain rfl : q = k := by omega
                exact hf
          · have he : ¬ (k : Int) < ((c.2.getD []).length : Int) := dec_f he
            obtain rfl : k = (c.2.getD []).length := by omega
            rw [wi64 (by omega) (by omega)]
            refine ⟨⟨j + 1, rfl, by omega, fun q hq => ?_⟩, by omega⟩
            rcases Nat.lt_or_ge q j with z | z
            · exact hall2 q z
            · obtain rfl : q = j := by omega
              rw [hcc, hdd]; exact ⟨e1, list_eq e2 hall3⟩
        · intro k hk
          refine brV_iff.2 ⟨fun g => hk _ ⟨true, rfl, fun _ e => not_t g e.1, fun h => by cases h⟩, fun g => ?_⟩
          have g := not_f g
          refine hk _ ⟨_, rfl, fun h e => ?_, fun h => ⟨g, ?_⟩⟩
          · have h : ¬ ((c.2.getD []).length : Int) = ((d.2.getD []).length : Int) := not_t h
            exact h (by rw [e.2])
          · have h : ((c.2.getD []).length : Int) = ((d.2.getD []).length : Int) := not_f h
            omega
      · have hd : ¬ (j : Int) < ((s.2.2.getD []).length : Int) := dec_f hd
        obtain rfl : j = (s.2.2.getD []).length := by omega
        rw [wi64 (by omega) (by omega)]
        refine ⟨⟨i + 1, rfl, by omega, fun k hk => ?_⟩, by omega⟩
        rcases Nat.lt_or_ge k i with q | q
        · exact hall k q
        · obtain rfl : k = i := by omega
          rw [hs, ht]; exact ⟨g1, g2, g3, hall2⟩
    · intro k hk
      refine brV_iff.2 ⟨fun g => hk _ ⟨true, rfl, fun _ e => not_t g e.1, fun h => by cases h⟩, fun g1 => ?_⟩
      refine brV_iff.2 ⟨fun g => hk _ ⟨true, rfl, fun _ e => not_t g e.2.1, fun h => by cases h⟩, fun g2 => ?_⟩
      refine hk _ ⟨_, rfl, fun h e => ?_, fun h => ⟨not_f g1, not_f g2, ?_⟩⟩
      · have h : ¬ ((s.2.2.getD []).length : Int) = ((t.2.2.getD []).length : Int) := not_t h
        exact h (by rw [e.2.2.1])
      · have h : ((s.2.2.getD []).length : Int) = ((t.2.2.getD []).length : Int) := not_f h
        omega
  · have hc : ¬ (i : Int) < ((a.getD []).length : Int) := dec_f hc
    obtain rfl : i = (a.getD []).length := by omega
    exact (decide_eq_true (show moEq a b from ⟨by omega, hall⟩)).symm

theorem br_t {b : Bool} {A B : Prop} (h : b = true) (hA : A) : brV b A B := by subst h; exact hA

end Go.Proofs.Pf.B

namespace Go.Proofs.Pf.B

open Go Go.VM

abbrev cho (s : DSt) : List DCh := s.2.2.getD []

/-- Some of the first `n` choices. -/
def filt (g : Nat → Bool) (l : List DCh) (n : Nat) : List DCh := ((List.range n).filter g).map (ch l)

theorem filt_succ (g : Nat → Bool) (l : List DCh) (n : Nat) : filt g l (n + 1) = filt g l n ++ (if g n = true then [ch l n] else []) := by
  unfold filt
  rw [List.range_succ, List.filter_append, List.map_append]
  congr 1
  by_cases h : g n = true
  · rw [if_pos h]; simp [h]
  · rw [if_neg h]; simp [h]

theorem filt_len (g : Nat → Bool) (l : List DCh) (n : Nat) : (filt g l n).length ≤ n := by
  unfold filt
  rw [List.length_map]
  exact Nat.le_trans (List.length_filter_le _ _) (by simp)

def keptS (g : Nat → Bool) (s : DSt) : DSt := (s.1, (s.2.1, optL (filt g (cho s) (cho s).length)))

def keptL (g : Nat → Nat → Bool) (l : List DSt) (n : Nat) : List DSt := tab (fun i => keptS (g i) (stt l i)) n

theorem keptL_succ (g : Nat → Nat → Bool) (l : List DSt) (n : Nat) : keptL g l (n + 1) = keptL g l n ++ [keptS (g n) (stt l n)] := tab_succ _ _

theorem keptL_len (g : Nat → Nat → Bool) (l : List DSt) (n : Nat) : (keptL g l n).length = n := tab_len _ _

def gAll (_ _ : Nat) : Bool := true

def gFix (l : DL) (i k : Nat) : Bool := decide (int (l.getD []) i = (k : Int))

def gFor (m : DMo) (l : DL) (pl : Int) (i k : Nat) : Bool := !decide ((stt (m.getD []) i).1 = pl) || decide (int (l.getD []) i = (k : Int))

/-- A model with the choices that `g` keeps. -/
def keptM (g : Nat → Nat → Bool) (m : DMo) : DMo := optL (keptL g (m.getD []) (m.getD []).length)

theorem s_Own (c : DCh) (h : (c.2.getD []).length ≤ 1000) : callV Pg c_model_Own [⟨tCh, c⟩] tCh fun r => r = c := by
  refine w_model_Own c ⟨_, rfl⟩ (w_slices_Cloneapi_Branchapi_Branch c.2 ?_ (br_c (fun hb => ?_) fun hb => ?_))
  · exact ⟨c.2, rfl⟩
  · obtain ⟨x, y⟩ := c
    cases y with
    | none => rfl
    | some y => cases hb
  · obtain ⟨x, y⟩ := c
    cases y with
    | none => cases hb
    | some y =>
      refine ⟨?_, rfl⟩
      show (0 + y.length) * 24 ≤ 140737488355328
      have h : y.length ≤ 1000 := h
      omega

/-- A model that is small enough to be copied. -/
def smallM (m : DMo) : Prop := (m.getD []).length ≤ 1000 ∧ ∀ i, i < (m.getD []).length → (cho (stt (m.getD []) i)).length ≤ 1000 ∧ ∀ j, j < (cho (stt (m.getD []) i)).length → ((ch (cho (stt (m.getD []) i)) j).2.getD []).length ≤ 1000

theorem moOk.small {m : DMo} (h : moOk m) : smallM m := by
  refine ⟨by have := h.1; omega, fun i hi => ⟨by have := (h.2 i hi).1.2.2; show ((stt (m.getD []) i).2.2.getD []).length ≤ 1000; omega, fun j hj => ?_⟩⟩
  have := ((h.2 i hi).2 j hj).2.1
  show ((ch ((stt (m.getD []) i).2.2.getD []) j).2.getD []).length ≤ 1000
  omega

theorem fewOk.small {m : DMo} (h : fewOk m) : smallM m := by
  refine ⟨by have := h.1; omega, fun i hi => ⟨by have := (h.2 i hi).1; show ((stt (m.getD []) i).2.2.getD []).length ≤ 1000; omega, fun j hj => ?_⟩⟩
  have := (h.2 i hi).2 j hj
  show ((ch ((stt (m.getD []) i).2.2.getD []) j).2.getD []).length ≤ 1000
  omega

theorem s_KeptAll (m : DMo) {Q : Unit × DMo → Prop} (hm : smallM m) (hq : Q ((), keptM gAll m)) : lendV Pg c_model_Kept 2 L_model_Kept_v0 m Q := by
  obtain ⟨hm1, hm2⟩ := hm
  refine w_model_Kept_v0 m ⟨_, hq⟩ (rangeB (n := (m.getD []).length) (fun i x => (m, (((m.getD []).length : Int), ((i : Int), (none, ((), x)))))) (fun i x => x = optL (keptL gAll (m.getD []) i)) none rfl rfl (fun p => p.2.2.1.toNat) (fun _ _ => rfl) (fun _ _ _ => rfl) ?_ ?_)
  · intro k i x hi hx hk
    dsimp only
    subst hx
    rw [eltS_st]
    obtain ⟨hc, hbr⟩ := hm2 i hi
    generalize hs : stt (m.getD []) i = s at *
    refine ⟨in_s hi, rangeB (n := (cho s).length) (fun j y => ((i : Int), (m, (((m.getD []).length : Int), ((i : Int), (s.2.2, (((cho s).length : Int), ((j : Int), (none, ((), ((s.1, (s.2.1, ())), (optL (keptL gAll (m.getD []) i), y)))))))))))) (fun j y => y = optL (filt (gAll i) (cho s) j)) none rfl rfl (fun p => p.2.2.2.2.2.2.1.toNat) (fun _ _ => rfl) (fun _ _ _ => rfl) ?_ ?_⟩
    · intro k2 j y hj hy hk2
      dsimp only
      subst hy
      rw [eltS_ch]
      refine ⟨in_s hj, (w_model_Copy_1 _ _ ⟨_, rfl⟩ rfl : callV Pg c_model_Copy_1 [⟨tI, (i : Int)⟩, ⟨tI, (j : Int)⟩] .bool fun r => r = gAll i j).mono ?_⟩
      intro b hb
      subst hb
      refine joinE (br_c (fun hb => ?_) fun hb => ?_)
      · refine (s_Own _ (hbr j hj)).mono ?_
        rintro _ rfl
        have hl := filt_len (gAll i) (cho s) j
        refine ⟨?_, ?_⟩
        · show (((optL (filt (gAll i) (cho s) j)).getD []).length + 1) * 40 ≤ 140737488355328
          rw [optL_get]; omega
        · dsimp only
          rw [wi1 hj (by omega)]
          refine hk2 _ ?_
          show appL (optL (filt (gAll i) (cho s) j)) [ch (cho s) j] = _
          rw [optL_app, filt_succ, if_pos hb]
      · dsimp only
        rw [wi1 hj (by omega)]
        refine hk2 _ ?_
        rw [filt_succ, if_neg (by rw [hb]; exact Bool.false_ne_true), List.append_nil]
    · intro k2 y hy
      dsimp only
      subst hy
      refine ⟨?_, ?_⟩
      · show (((optL (keptL gAll (m.getD []) i)).getD []).length + 1) * 40 ≤ 140737488355328
        rw [optL_get, keptL_len]; omega
      · rw [wi1 hi (by omega)]
        refine hk _ ?_
        show appL (optL (keptL gAll (m.getD []) i)) [(s.1, (s.2.1, optL (filt (gAll i) (cho s) (cho s).length)))] = _
        rw [optL_app, keptL_succ, hs]; rfl
  · intro k x hx
    subst hx
    exact hq

theorem s_KeptFixed (m : DMo) (l : DL) (hm : smallM m) (hl : (l.getD []).length = (m.getD []).length) : callV Pg c_model_Kept [⟨tMo, m⟩, ⟨(.clo c_model_Fixed_1 (.pair (.fref tL) .unit)), (l, ())⟩] tMo fun r => r = keptM (gFix l) m := by
  obtain ⟨hm1, hm2⟩ := hm
  refine w_model_Kept_Fixed m (l, ()) ⟨_, rfl⟩ (rangeB (n := (m.getD []).length) (fun i x => ((l, ()), (m, (((m.getD []).length : Int), ((i : Int), (none, ((), x))))))) (fun i x => x = optL (keptL (gFix l) (m.getD []) i)) none rfl rfl (fun p => p.2.2.2.1.toNat) (fun _ _ => rfl) (fun _ _ _ => rfl) ?_ ?_)
  · intro k i x hi hx hk
    dsimp only
    subst hx
    rw [eltS_st]
    obtain ⟨hc, hbr⟩ := hm2 i hi
    generalize hs : stt (m.getD []) i = s at *
    refine ⟨in_s hi, rangeB (n := (cho s).length) (fun j y => ((l, ()), ((i : Int), (m, (((m.getD []).length : Int), ((i : Int), (s.2.2, (((cho s).length : Int), ((j : Int), (none, ((), ((s.1, (s.2.1, ())), (optL (keptL (gFix l) (m.getD []) i), y))))))))))))) (fun j y => y = optL (filt ((gFix l) i) (cho s) j)) none rfl rfl (fun p => p.2.2.2.2.2.2.2.1.toNat) (fun _ _ => rfl) (fun _ _ _ => rfl) ?_ ?_⟩
    · intro k2 j y hj hy hk2
      dsimp only
      subst hy
      rw [eltS_ch]
      refine ⟨in_s hj, (w_model_Fixed_1 _ _ l ⟨_, rfl⟩ ⟨in_s (by rw [hl]; exact hi), by rw [eltS_int]; rfl⟩ : callV Pg c_model_Fixed_1 [⟨tI, (i : Int)⟩, ⟨tI, (j : Int)⟩, ⟨(.fref tL), l⟩] .bool fun r => r = gFix l i j).mono ?_⟩
      intro b hb
      subst hb
      refine joinE (br_c (fun hb => ?_) fun hb => ?_)
      · refine (s_Own _ (hbr j hj)).mono ?_
        rintro _ rfl
        have hl := filt_len ((gFix l) i) (cho s) j
        refine ⟨?_, ?_⟩
        · show (((optL (filt ((gFix l) i) (cho s) j)).getD []).length + 1) * 40 ≤ 140737488355328
          rw [optL_get]; omega
        · dsimp only
          rw [wi1 hj (by omega)]
          refine hk2 _ ?_
          show appL (optL (filt ((gFix l) i) (cho s) j)) [ch (cho s) j] = _
          rw [optL_app, filt_succ, if_pos hb]
      · dsimp only
        rw [wi1 hj (by omega)]
        refine hk2 _ ?_
        rw [filt_succ, if_neg (by rw [hb]; exact Bool.false_ne_true), List.append_nil]
    · intro k2 y hy
      dsimp only
      subst hy
      refine ⟨?_, ?_⟩
      · show (((optL (keptL (gFix l) (m.getD []) i)).getD []).length + 1) * 40 ≤ 140737488355328
        rw [optL_get, keptL_len]; omega
      · rw [wi1 hi (by omega)]
        refine hk _ ?_
        show appL (optL (keptL (gFix l) (m.getD []) i)) [(s.1, (s.2.1, optL (filt ((gFix l) i) (cho s) (cho s).length)))] = _
        rw [optL_app, keptL_succ, hs]; rfl
  · intro k x hx
    subst hx
    rfl

theorem s_FixedFor1 (m : DMo) (l : DL) (pl : Int) (i j : Nat) (hi : i < (m.getD []).length) (hl : i < (l.getD []).length) :
    callV Pg c_model_FixedFor_1 [⟨tI, (i : Int)⟩, ⟨tI, (j : Int)⟩, ⟨(.fref tMo), m⟩, ⟨(.fref tI), pl⟩, ⟨(.fref tL), l⟩] .bool fun r => r = gFor m l pl i j := by
  refine w_model_FixedFor_1 _ _ m pl l ⟨_, rfl⟩ (joinE ⟨in_s hi, br_c (fun hb => ?_) fun hb => ⟨in_s hl, ?_⟩⟩)
  · rw [eltS_st] at hb
    show true = _
    rw [gFor, show (!decide ((stt (m.getD []) i).1 = pl)) = true from hb]; rfl
  · rw [eltS_st] at hb
    rw [eltS_int, gFor, show (!decide ((stt (m.getD []) i).1 = pl)) = false from hb]; rfl

theorem s_KeptFixedFor (m : DMo) (l : DL) (pl : Int) (hm : smallM m) (hl : (l.getD []).length = (m.getD []).length) : callV Pg c_model_Kept [⟨tMo, m⟩, ⟨(.clo c_model_FixedFor_1 (.pair (.fref tMo) (.pair (.fref tI) (.pair (.fref tL) .unit)))), (m, (pl, (l, ())))⟩] tMo fun r => r = keptM (gFor m l pl) m := by
  obtain ⟨hm1, hm2⟩ := hm
  refine w_model_Kept_FixedFor m (m, (pl, (l, ()))) ⟨_, rfl⟩ (rangeB (n := (m.getD []).length) (fun i x => ((m, (pl, (l, ()))), (m, (((m.getD []).length : Int), ((i : Int), (none, ((), x))))))) (fun i x => x = optL (keptL (gFor m l pl) (m.getD []) i)) none rfl rfl (fun p => p.2.2.2.1.toNat) (fun _ _ => rfl) (fun _ _ _ => rfl) ?_ ?_)
  · intro k i x hi hx hk
    dsimp only
    subst hx
    rw [eltS_st]
    obtain ⟨hc, hbr⟩ := hm2 i hi
    generalize hs : stt (m.getD []) i = s at *
    refine ⟨in_s hi, rangeB (n := (cho s).length) (fun j y => ((m, (pl, (l, ()))), ((i : Int), (m, (((m.getD []).length : Int), ((i : Int), (s.2.2, (((cho s).length : Int), ((j : Int), (none, ((), ((s.1, (s.2.1, ())), (optL (keptL (gFor m l pl) (m.getD []) i), y))))))))))))) (fun j y => y = optL (filt ((gFor m l pl) i) (cho s) j)) none rfl rfl (fun p => p.2.2.2.2.2.2.2.1.toNat) (fun _ _ => rfl) (fun _ _ _ => rfl) ?_ ?_⟩
    · intro k2 j y hj hy hk2
      dsimp only
      subst hy
      rw [eltS_ch]
      refine ⟨in_s hj, (s_FixedFor1 m l pl i j hi (by rw [hl]; exact hi)).mono ?_⟩
      intro b hb
      subst hb
      refine joinE (br_c (fun hb => ?_) fun hb => ?_)
      · refine (s_Own _ (hbr j hj)).mono ?_
        rintro _ rfl
        have hl := filt_len ((gFor m l pl) i) (cho s) j
        refine ⟨?_, ?_⟩
        · show (((optL (filt ((gFor m l pl) i) (cho s) j)).getD []).length + 1) * 40 ≤ 140737488355328
          rw [optL_get]; omega
        · dsimp only
          rw [wi1 hj (by omega)]
          refine hk2 _ ?_
          show appL (optL (filt ((gFor m l pl) i) (cho s) j)) [ch (cho s) j] = _
          rw [optL_app, filt_succ, if_pos hb]
      · dsimp only
        rw [wi1 hj (by omega)]
        refine hk2 _ ?_
        rw [filt_succ, if_neg (by rw [hb]; exact Bool.false_ne_true), List.append_nil]
    · intro k2 y hy
      dsimp only
      subst hy
      refine ⟨?_, ?_⟩
      · show (((optL (keptL (gFor m l pl) (m.getD []) i)).getD []).length + 1) * 40 ≤ 140737488355328
        rw [optL_get, keptL_len]; omega
      · rw [wi1 hi (by omega)]
        refine hk _ ?_
        show appL (optL (keptL (gFor m l pl) (m.getD []) i)) [(s.1, (s.2.1, optL (filt ((gFor m l pl) i) (cho s) (cho s).length)))] = _
        rw [optL_app, keptL_succ, hs]; rfl
  · intro k x hx
    subst hx
    rfl

end Go.Proofs.Pf.B

namespace Go.Proofs.Pf.B

open Go Go.VM

abbrev n_ (m : DMo) : Nat := (m.getD []).length

abbrev sm (m : DMo) (i : Nat) : DSt := stt (m.getD []) i

/-- The model with the given states. -/
abbrev tabM (f : Nat → DSt) (n : Nat) : DMo := optL (tab f n)

theorem tabM_n (f : Nat → DSt) (n : Nat) : n_ (tabM f n) = n := by show ((optL (tab f n)).getD []).length = n; rw [optL_get, tab_len]

theorem tabM_s (f : Nat → DSt) {n i : Nat} (h : i < n) : sm (tabM f n) i = f i := by show stt ((optL (tab f n)).getD []) i = f i; rw [optL_get]; exact tab_get f n i _ h

theorem tabM_app (f : Nat → DSt) (n : Nat) : appL (tabM f n) [f n] = tabM f (n + 1) := by rw [optL_app, ← tab_succ]

theorem tabM_len (f : Nat → DSt) (n : Nat) : ((tabM f n).getD []).length = n := tabM_n f n

theorem keptM_tab (g : Nat → Nat → Bool) (m : DMo) : keptM g m = tabM (fun i => keptS (g i) (sm m i)) (n_ m) := rfl

def cpC (c : DCh) : DCh := (c.1, some (c.2.getD []))

def cpS (s : DSt) : DSt := (s.1, (s.2.1, optL (tab (fun j => cpC (ch (cho s) j)) (cho s).length)))

def copyM (m : DMo) : DMo := tabM (fun i => cpS (sm m i)) (n_ m)

theorem r_Copy (m : DMo) (hm : smallM m) : callV Pg c_ref04_Copy [⟨tMo, m⟩] tMo fun r => r = copyM m := by
  obtain ⟨hm1, hm2⟩ : n_ m ≤ 1000 ∧ ∀ i, i < n_ m → (cho (sm m i)).length ≤ 1000 ∧ ∀ j, j < (cho (sm m i)).length → ((ch (cho (sm m i)) j).2.getD []).length ≤ 1000 := hm
  refine w_ref04_Copy m ⟨_, rfl⟩ (rangeB (n := n_ m) (fun i x => (m, ((n_ m : Int), ((i : Int), (none, ((), x)))))) (fun i x => x = tabM (fun i => cpS (sm m i)) i) none rfl rfl (fun p => p.2.2.1.toNat) (fun _ _ => rfl) (fun _ _ _ => rfl) ?_ ?_)
  · intro k i x hi hx hk
    dsimp only
    subst hx
    rw [eltS_st]
    obtain ⟨hc, hbr⟩ := hm2 i hi
    refine ⟨in_s hi, rangeB (n := (cho (sm m i)).length) (fun j y => (m, ((n_ m : Int), ((i : Int), ((sm m i).2.2, (((cho (sm m i)).length : Int), ((j : Int), (none, ((), (((sm m i).1, ((sm m i).2.1, ())), (tabM (fun i => cpS (sm m i)) i, y))))))))))) (fun j y => y = optL (tab (fun j => cpC (ch (cho (sm m i)) j)) j)) none rfl rfl (fun p => p.2.2.2.2.2.1.toNat) (fun _ _ => rfl) (fun _ _ _ => rfl) ?_ ?_⟩
    · intro k2 j y hj hy hk2
      dsimp only
      subst hy
      rw [eltS_ch]
      refine ⟨in_s hj, ?_, ?_, ?_⟩
      · have := hbr j hj
        show (0 + ((ch (cho (sm m i)) j).2.getD []).length) * 24 ≤ 140737488355328
        omega
      · show ((((optL (tab (fun j => cpC (ch (cho (sm m i)) j)) j)).getD []).length + 1) * 40 ≤ 140737488355328)
        rw [optL_get, tab_len]; omega
      · rw [wi1 hj (by omega)]
        refine hk2 _ ?_
        show appL _ [cpC (ch (cho (sm m i)) j)] = _
        rw [optL_app, ← tab_succ (fun j => cpC (ch (cho (sm m i)) j)) j]
    · intro k2 y hy
      dsimp only
      subst hy
      refine ⟨?_, ?_⟩
      · show ((((tabM (fun i => cpS (sm m i)) i).getD []).length + 1) * 40 ≤ 140737488355328)
        rw [tabM_len]; omega
      · rw [wi1 hi (by omega)]
        exact hk _ (tabM_app (fun i => cpS (sm m i)) i)
  · intro k x hx; exact hx

theorem cp_cho (s : DSt) : cho (cpS s) = tab (fun j => cpC (ch (cho s) j)) (cho s).length := optL_get _

theorem cp_len (s : DSt) : (cho (cpS s)).length = (cho s).length := by rw [cp_cho, tab_len]

theorem cp_ch (s : DSt) {j : Nat} (h : j < (cho s).length) : ch (cho (cpS s)) j = cpC (ch (cho s) j) := by rw [cp_cho]; exact tab_get _ _ _ _ h

theorem cp_eq (s : DSt) : stEq (cpS s) s := ⟨rfl, rfl, cp_len s, fun j hj => by rw [cp_ch s (by rw [← cp_len]; exact hj)]; exact ⟨rfl, rfl⟩⟩

theorem copy_eq (m : DMo) : moEq (copyM m) m := ⟨tabM_n _ _, fun i hi => by
  have hi : i < n_ m := by rw [← tabM_n (fun i => cpS (sm m i)) (n_ m)]; exact hi
  have := tabM_s (fun i => cpS (sm m i)) hi
  show stEq (sm (copyM m) i) (sm m i)
  rw [copyM, this]; exact cp_eq _⟩

theorem chEq.ok {n : Int} {c d : DCh} (h : chEq c d) (hd : chOk n d) : chOk n c := by
  unfold chOk at *; rw [h.1, h.2]; exact hd

theorem chEq.symm {c d : DCh} (h : chEq c d) : chEq d c := ⟨h.1.symm, h.2.symm⟩

theorem stEq.symm {s t : DSt} (h : stEq s t) : stEq t s := ⟨h.1.symm, h.2.1.symm, h.2.2.1.symm, fun j hj => (h.2.2.2 j (by rw [h.2.2.1]; exact hj)).symm⟩

theorem moEq.symm {a b : DMo} (h : moEq a b) : moEq b a := ⟨h.1.symm, fun i hi => (h.2 i (by rw [h.1]; exact hi)).symm⟩

theorem stEq.ok {n : Int} {s t : DSt} (h : stEq s t) (ht : stOk n t) : stOk n s := by
  obtain ⟨h1, h2, h3, h4⟩ := h
  obtain ⟨t1, t2⟩ := ht
  refine ⟨?_, fun j hj => (h4 j hj).ok (t2 j (by rw [← h3]; exact hj))⟩
  unfold stHead at *
  rw [h1, h2, h3]; exact t1

theorem moEq.ok {a b : DMo} (h : moEq a b) (hb : moOk b) : moOk a := by
  refine ⟨by rw [h.1]; exact hb.1, fun i hi => ?_⟩
  rw [h.1]
  exact (h.2 i hi).ok (hb.2 i (by rw [← h.1]; exact hi))

theorem moEq.ok_iff {a b : DMo} (h : moEq a b) : moOk a ↔ moOk b := ⟨h.symm.ok, h.ok⟩

theorem moEq.str {a b : DMo} (h : moEq a b) {l : List Int} (hb : strOk b l) : strOk a l := by
  refine ⟨by rw [h.1]; exact hb.1, fun i hi => ?_⟩
  have h1 := hb.2 i hi
  have h2 := (h.2 i (by rw [h.1, ← hb.1]; exact hi)).2.2.1
  unfold strAt at *
  rw [show cntL (stt (a.getD []) i) = cntL (stt (b.getD []) i) from congrArg Nat.cast h2]; exact h1

theorem moEq.str_iff {a b : DMo} (h : moEq a b) {l : List Int} : strOk a l ↔ strOk b l := ⟨h.symm.str, h.str⟩

theorem stEq.refl (s : DSt) : stEq s s := ⟨rfl, rfl, rfl, fun _ _ => ⟨rfl, rfl⟩⟩

theorem moEq.refl (m : DMo) : moEq m m := ⟨rfl, fun _ _ => stEq.refl _⟩

theorem chEq.trans {c d e : DCh} (h : chEq c d) (g : chEq d e) : chEq c e := ⟨h.1.trans g.1, h.2.trans g.2⟩

theorem stEq.trans {s t u : DSt} (h : stEq s t) (g : stEq t u) : stEq s u :=
  ⟨h.1.trans g.1, h.2.1.trans g.2.1, h.2.2.1.trans g.2.2.1, fun j hj => (h.2.2.2 j hj).trans (g.2.2.2 j (by rw [← h.2.2.1]; exact hj))⟩

theorem moEq.trans {a b c : DMo} (h : moEq a b) (g : moEq b c) : moEq a c := ⟨h.1.trans g.1, fun i hi => (h.2 i hi).trans (g.2 i (by rw [← h.1]; exact hi))⟩

/-- The reference's fixed models. -/
def fixS (l : DL) (pl : Int) (i : Nat) (s : DSt) : DSt := if pl < 0 ∨ s.1 = pl then (s.1, (s.2.1, slcS s.2.2 (int (l.getD []) i) (int (l.getD []) i + 1))) else s

def fixM (l : DL) (pl : Int) (m : DMo) : DMo := tabM (fun i => fixS l pl i (sm m i)) (n_ m)

theorem r_Fixed (m : DMo) (l : DL) (pl : Int) (hm : n_ m ≤ 1000) (hl : strOk m (l.getD [])) (hc : ∀ i, i < n_ m → (cho (sm m i)).length ≤ 1000) : callV Pg c_ref04_Fixed [⟨tMo, m⟩, ⟨tL, l⟩, ⟨tI, pl⟩] tMo fun r => r = fixM l pl m := by
  refine w_ref04_Fixed m l pl ⟨_, rfl⟩ (rangeB (n := n_ m) (fun i x => (l, (pl, (m, ((n_ m : Int), ((i : Int), (none, ((), x)))))))) (fun i x => x = tabM (fun i => fixS l pl i (sm m i)) i) none rfl rfl (fun p => p.2.2.2.2.1.toNat) (fun _ _ => rfl) (fun _ _ _ => rfl) ?_ ?_)
  · intro k i x hi hx hk
    dsimp only
    subst hx
    rw [eltS_st]
    have hin : i < (l.getD []).length := by rw [hl.1]; exact hi
    have hat : 0 ≤ int (l.getD []) i ∧ int (l.getD []) i < ((cho (sm m i)).length : Int) := hl.2 i hin
    have hci := hc i hi
    refine ⟨in_s hi, joinR (fun p => ∃ b : Bool, p = (l, (pl, ((i : Int), (m, ((n_ m : Int), ((i : Int), (b, (none, ((), (sm m i, tabM (fun i => fixS l pl i (sm m i)) i)))))))))) ∧ (b = true ↔ pl < 0 ∨ (sm m i).1 = pl)) ?_ ?_⟩
    · rintro _ ⟨b, rfl, hb⟩
      dsimp only
      refine joinR (fun p => p = (l, (pl, (m, ((n_ m : Int), ((i : Int), (none, ((), (fixS l pl i (sm m i), tabM (fun i => fixS l pl i (sm m i)) i))))))))) ?_ ?_
      · rintro _ rfl
        dsimp only
        refine ⟨?_, ?_⟩
        · show ((((tabM (fun i => fixS l pl i (sm m i)) i).getD []).length + 1) * 40 ≤ 140737488355328)
          rw [tabM_len]; omega
        · rw [wi1 hi (by omega)]
          exact hk _ (tabM_app (fun i => fixS l pl i (sm m i)) i)
      · intro k' hk'
        refine br_c (fun h => ?_) fun h => ?_
        · rw [eltS_int]
          rw [wi64 (by omega) (by omega)]
          refine ⟨in_s hin, in_s hin, ⟨hat.1, by omega, (by show int (l.getD []) i + 1 ≤ ((cho (sm m i)).length : Int); omega)⟩, hk' _ ?_⟩
          · rw [fixS, if_pos (hb.1 h)]
        · refine hk' _ ?_
          rw [fixS, if_neg (fun q => by rw [hb.2 q] at h; cases h)]
    · intro k' hk'
      refine br_c (fun h => hk' _ ⟨true, rfl, ⟨fun _ => .inl (dec_t h), fun _ => rfl⟩⟩) fun h => hk' _ ⟨_, rfl, ?_⟩
      have h := dec_f h
      rw [decide_eq_true_iff]
      exact ⟨.inr, fun q => q.resolve_left h⟩
  · intro k x hx; exact hx

theorem r_In (l : DL) (x : Int) (hl : (l.getD []).length ≤ 1000000) : callV Pg c_ref04_In [⟨tL, l⟩, ⟨tI, x⟩] .bool fun r => r = (l.getD []).contains x := by
  refine w_ref04_In l x ⟨_, rfl⟩ (rangeB (n := (l.getD []).length) (S := Unit) (fun i _ => (x, (l, (((l.getD []).length : Int), (i : Int))))) (fun i _ => ∀ j, j < i → int (l.getD []) j ≠ x) () rfl (fun j h => absurd h (Nat.not_lt_zero j)) (fun p => p.2.2.2.toNat) (fun _ _ => rfl) (fun _ _ _ => rfl) ?_ ?_)
  · intro k i _ hi hx hk
    dsimp only
    rw [eltS_int]
    refine ⟨in_s hi, br_c (fun h => ?_) fun h => ?_⟩
    · have h := dec_t h
      symm
      rw [List.contains_iff_mem, ← h]
      simp only [int, List.getD, List.getElem?_eq_getElem hi, Option.getD_some]
      exact List.getElem_mem hi
    · have h := dec_f h
      rw [wi1 hi (by omega)]
      refine hk () fun j hj => ?_
      rcases Nat.lt_or_ge j i with q | q
      · exact hx j q
      · obtain rfl : j = i := by omega
        exact h
  · intro k _ hx
    symm
    rw [Bool.eq_false_iff]
    intro h
    rw [List.contains_iff_mem] at h
    obtain ⟨i, hi, e⟩ := List.getElem_of_mem h
    exact hx i hi (by simp only [int, List.getD, List.getElem?_eq_getElem hi, Option.getD_some]; exact e)

/-- The choice to stay. -/
def loopC (i : Int) : DCh := ((0, 1), some [(i, (1, 1))])

def absS (l : DL) (f : Nat → DSt) (i : Nat) : DSt := if (l.getD []).contains (i : Int) = true then ((f i).1, ((f i).2.1, some [loopC i])) else f i

theorem r_Absorbing (m : DMo) (l : DL) (hm : n_ m ≤ 1000) (hl : (l.getD []).length ≤ 1000000) : callV Pg c_ref04_Absorbing [⟨tMo, m⟩, ⟨tL, l⟩] tMo fun r => r = tabM (absS l (sm m)) (n_ m) := by
  refine w_ref04_Absorbing m l ⟨_, rfl⟩ (rangeB (n := n_ m) (fun i x => (l, (m, ((n_ m : Int), ((i : Int), (none, ((), x))))))) (fun i x => x = tabM (absS l (sm m)) i) none rfl rfl (fun p => p.2.2.2.1.toNat) (fun _ _ => rfl) (fun _ _ _ => rfl) ?_ ?_)
  · intro k i x hi hx hk
    dsimp only
    subst hx
    rw [eltS_st]
    refine ⟨in_s hi, (r_In l i hl).mono ?_⟩
    rintro _ rfl
    refine joinR (fun p => p = (l, (m, ((n_ m : Int), ((i : Int), (none, ((), (absS l (sm m) i, tabM (absS l (sm m)) i)))))))) ?_ ?_
    · rintro _ rfl
      dsimp only
      refine ⟨?_, ?_⟩
      · show ((((tabM (absS l (sm m)) i).getD []).length + 1) * 40 ≤ 140737488355328)
        rw [tabM_len]; omega
      · rw [wi1 hi (by omega)]
        exact hk _ (tabM_app (absS l (sm m)) i)
    · intro k' hk'
      refine br_c (fun h => (w_ref04_Loop (i : Int) ⟨_, rfl⟩ rfl : callV Pg c_ref04_Loop [⟨tI, (i : Int)⟩] tCh fun r => r = loopC i).mono ?_) fun h => hk' _ ?_
      · rintro _ rfl
        refine hk' _ ?_
        rw [absS, if_pos h]
      · rw [absS, if_neg (by rw [h]; exact Bool.false_ne_true)]
  · intro k x hx; exact hx

theorem tab_set {α : Type} (f : Nat → α) (n i : Nat) (y : α) : (tab f n).set i y = tab (fun j => if j = i then y else f j) n := by
  apply List.ext_getElem?
  intro j
  simp only [List.getElem?_set, tab, List.getElem?_map, List.length_map, List.length_range]
  rcases Nat.lt_or_ge j n with h | h
  · rw [List.getElem?_range h]
    simp only [Option.map_some]
    by_cases e : i = j
    · subst e; simp [h]
    · rw [if_neg e, if_neg (fun q => e q.symm)]
  · rw [List.getElem?_eq_none (by simpa using h)]
    simp only [Option.map_none]
    by_cases e : i = j
    · subst e; simp; omega
    · rw [if_neg e]

/-- The model in which the first states of a goal are final. -/
def goalS (l : List Int) (f : Nat → DSt) (i j : Nat) : DSt := if (l.take i).contains (j : Int) = true then ((f j).1, ((f j).2.1, some [loopC j])) else f j

def goalQ (m : DMo) (l : DL) : DMo × Int × Unit := if moOk m ∧ setOk (n_ m : Int) (l.getD []) then (tabM (goalS (l.getD []) (fun i => keptS (gAll i) (sm m i)) (l.getD []).length) (n_ m), 0, ()) else (none, 1, ())

theorem set_ge {n : Int} {l : List Int} (h : setOk n l) {i : Nat} (hi : i < l.length) : 0 ≤ int l i ∧ int l i < n := by
  have h1 := h i hi
  have h2 := preI_le (n := n) (l := l) (i := i) fun j hj => h j (by omega)
  exact ⟨by have := h1.1; omega, h1.2⟩

theorem goalS_succ {l : List Int} {f : Nat → DSt} {i : Nat} (hi : i < l.length) (h0 : 0 ≤ int l i) (j : Nat) : goalS l f (i + 1) j = if j = (int l i).toNat then ((goalS l f i j).1, ((goalS l f i j).2.1, some [loopC (int l i)])) else goalS l f i j := by
  have e : (l.take (i + 1)).contains (j : Int) = ((l.take i).contains (j : Int) || decide ((j : Int) = int l i)) := by
    rw [List.take_add_one, List.getElem?_eq_getElem hi]
    simp only [int, List.getD, List.getElem?_eq_getElem hi, Option.getD_some, Option.toList_some]
    rw [Bool.eq_iff_iff]
    simp only [List.contains_iff_mem, List.mem_append, List.mem_singleton, Bool.or_eq_true, decide_eq_true_eq]
  unfold goalS
  rw [e]
  by_cases hj : j = (int l i).toNat
  · have hj' : (j : Int) = int l i := by omega
    rw [if_pos hj, if_pos (by simp [hj'])]
    by_cases hc : (l.take i).contains (j : Int) = true
    · rw [if_pos hc, hj']
    · rw [if_neg hc, hj']
  · have hj' : ¬ (j : Int) = int l i := by omega
    rw [if_neg hj]
    simp only [hj', decide_false, Bool.or_false]

theorem s_Goal (m : DMo) (l : DL) (hl : (l.getD []).length ≤ 1000000) : callV Pg c_model_Goal [⟨tMo, m⟩, ⟨tL, l⟩] (.tup (.pair tMo (.pair tI .unit))) fun r => r = goalQ m l := by
  refine w_model_Goal m l ⟨_, rfl⟩ (joinR (fun p => ∃ b : Bool, p = (l, (b, (m, none))) ∧ (b = false ↔ moOk m ∧ setOk (n_ m : Int) (l.getD []))) ?_ ?_)
  · rintro _ ⟨b, rfl, hb⟩
    dsimp only
    refine br_c (fun h => ?_) fun h => ?_
    · rw [goalQ, if_neg (fun q => by rw [hb.2 q] at h; cases h)]
    · obtain ⟨hm, hs⟩ := hb.1 h
      have hm1 : 1 ≤ n_ m ∧ n_ m ≤ 40 := hm.1
      rw [goalQ, if_pos ⟨hm, hs⟩]
      have fin : ∀ Q : Unit × DMo → Prop, Q ((), keptM gAll m) → lendV Pg c_model_Copy 1 L_model_Copy_v0 m Q := fun Q hq => w_model_Copy_v0 m ⟨_, hq⟩ (s_KeptAll m hm.small hq)
      refine fin _ ?_
      dsimp only
      rw [keptM_tab]
      generalize hf : (fun i => keptS (gAll i) (sm m i)) = f
      refine rangeB (n := (l.getD []).length) (fun i x => (l, (((l.getD []).length : Int), ((i : Int), (none, ((), x)))))) (fun i x => x = some (tab (goalS (l.getD []) f i) (n_ m))) (tabM f (n_ m)) rfl ?_ (fun p => p.2.2.1.toNat) (fun _ _ => rfl) (fun _ _ _ => rfl) ?_ ?_
      · show optL (tab f (n_ m)) = _
        rw [optL_some (fun e => by have := tab_len f (n_ m); rw [e] at this; have : 0 = n_ m := this; omega)]
        congr 1
      · intro k i x hi hx hk
        dsimp only
        subst hx
        rw [eltS_int]
        obtain ⟨g1, g2⟩ := set_ge hs hi
        refine ⟨in_s hi, (w_model_stay (int (l.getD []) i) ⟨_, rfl⟩ rfl : callV Pg c_model_stay [⟨tI, int (l.getD []) i⟩] tCh fun r => r = loopC (int (l.getD []) i)).mono ?_⟩
        rintro _ rfl
        refine ⟨⟨g1, by rw [Option.getD_some, tab_len]; exact g2⟩, ?_⟩
        rw [wi1 hi (by omega)]
        refine hk _ ?_
        show some ((tab (goalS (l.getD []) f i) (n_ m)).set (int (l.getD []) i).toNat _) = _
        rw [tab_set]
        refine congrArg some (congrArg (fun g => tab g (n_ m)) (funext fun j => ?_))
        rw [goalS_succ hi g1]
        by_cases hj : j = (int (l.getD []) i).toNat
        · rw [if_pos hj, if_pos hj]
          have e : eltN ((0 : Int), ((0 : Int), none)) (some (tab (goalS (l.getD []) f i) (n_ m))) (toN (int (l.getD []) i)) = goalS (l.getD []) f i j := by
            rw [hj]; exact tab_get _ _ _ _ (by show (int (l.getD []) i).toNat < n_ m; omega)
          rw [e]
        · rw [if_neg hj, if_neg hj]
      · intro k x hx
        subst hx
        show (_, (0 : Int), ()) = (optL _, (0 : Int), ())
        rw [optL_some (fun e => by have := tab_len (goalS (l.getD []) f (l.getD []).length) (n_ m); rw [e] at this; have : 0 = n_ m := this; omega)]
  · intro k hk
    refine (s_MValid m).mono ?_
    rintro _ rfl
    refine br_c (fun h => hk _ ⟨true, rfl, ⟨fun h => (by cases h), fun q => absurd q.1 (not_t h)⟩⟩) fun h => (s_Set m l (by omega)).mono ?_
    rintro _ rfl
    refine hk _ ⟨_, rfl, ?_⟩
    have h := not_f h
    constructor
    · intro q; exact ⟨h, not_f q⟩
    · intro q; show (!decide _) = false; rw [decide_eq_true q.2]; rfl

end Go.Proofs.Pf.B

namespace Go.Proofs.Pf.B

open Go Go.VM

theorem filt_none {g : Nat → Bool} {l : List DCh} : ∀ {n : Nat}, (∀ k, k < n → g k = false) → filt g l n = []
  | 0, _ => rfl
  | n + 1, h => by rw [filt_succ, filt_none (fun k hk => h k (by omega)), if_neg (by rw [h n (by omega)]; exact Bool.false_ne_true)]; rfl

theorem filt_one {g : Nat → Bool} {l : List DCh} {c : Nat} (h : ∀ k, g k = decide (k = c)) : ∀ {n : Nat}, c < n → filt g l n = [ch l c]
  | 0, hc => absurd hc (Nat.not_lt_zero _)
  | n + 1, hc => by
    rw [filt_succ]
    by_cases e : n = c
    · subst e
      rw [filt_none (fun k hk => by rw [h]; exact decide_eq_false (by omega)), if_pos (by rw [h]; exact decide_eq_true rfl)]; rfl
    · rw [filt_one h (by omega), if_neg (by rw [h, decide_eq_false e]; exact Bool.false_ne_true)]; rfl

theorem filt_all {g : Nat → Bool} {l : List DCh} : ∀ {n : Nat}, (∀ k, k < n → g k = true) → filt g l n = tab (ch l) n
  | 0, _ => rfl
  | n + 1, h => by rw [filt_succ, filt_all (fun k hk => h k (by omega)), if_pos (h n (by omega)), tab_succ]

theorem drop_take_one {α : Type} (l : List α) (c : Nat) (d : α) (h : c < l.length) : (l.take (c + 1)).drop c = [l.getD c d] := by
  rw [List.take_add_one, List.drop_append_of_le_length (by simp; omega), List.drop_of_length_le (by simp; omega), List.getElem?_eq_getElem h]
  simp [List.getD, List.getElem?_eq_getElem h]

theorem kept_one {g : Nat → Bool} {s : DSt} {c : Int} (hg : ∀ k : Nat, g k = decide (c = (k : Int))) (h0 : 0 ≤ c) (h1 : c < ((cho s).length : Int)) : stEq (keptS g s) (s.1, (s.2.1, slcS (cpS s).2.2 c (c + 1))) := by
  have hc : c.toNat < (cho s).length := by omega
  have e1 : cho (keptS g s) = [ch (cho s) c.toNat] := by
    show (optL _).getD [] = _
    rw [optL_get]
    exact filt_one (fun k => by rw [hg, decide_eq_decide]; omega) hc
  have e2 : (slcS (cpS s).2.2 c (c + 1)).getD [] = [cpC (ch (cho s) c.toNat)] := by
    have h2 := cp_cho s
    have h3 : (cpS s).2.2 = some (tab (fun j => cpC (ch (cho s) j)) (cho s).length) := optL_some (fun e => by have := tab_len (fun j => cpC (ch (cho s) j)) (cho s).length; rw [e] at this; simp at this; omega)
    rw [h3]
    simp only [slcS, Option.map_some, Option.getD_some, show (c + 1).toNat = c.toNat + 1 by omega]
    rw [drop_take_one _ _ ((0, 0), none) (by rw [tab_len]; exact hc), tab_get _ _ _ _ hc]
  refine ⟨rfl, rfl, ?_, fun j hj => ?_⟩
  · show (cho (keptS g s)).length = ((slcS (cpS s).2.2 c (c + 1)).getD []).length
    rw [e1, e2]; rfl
  · have hj : j < (cho (keptS g s)).length := hj
    show chEq (ch (cho (keptS g s)) j) (ch ((slcS (cpS s).2.2 c (c + 1)).getD []) j)
    rw [e1] at hj ⊢
    rw [e2]
    obtain rfl : j = 0 := by simpa using hj
    exact ⟨rfl, rfl⟩

theorem kept_all {g : Nat → Bool} {s : DSt} (hg : ∀ k, k < (cho s).length → g k = true) : stEq (keptS g s) (cpS s) := by
  have e1 : cho (keptS g s) = tab (ch (cho s)) (cho s).length := by
    show (optL _).getD [] = _
    rw [optL_get]; exact filt_all hg
  refine ⟨rfl, rfl, ?_, fun j hj => ?_⟩
  · show (cho (keptS g s)).length = (cho (cpS s)).length
    rw [e1, tab_len, cp_len]
  · have hj : j < (cho (keptS g s)).length := hj
    show chEq (ch (cho (keptS g s)) j) (ch (cho (cpS s)) j)
    rw [e1, tab_len] at hj
    rw [e1, cp_ch s hj, show ch (tab (ch (cho s)) (cho s).length) j = ch (cho s) j from tab_get _ _ _ _ hj]
    exact ⟨rfl, rfl⟩

theorem tabM_eq {f g : Nat → DSt} {n : Nat} (h : ∀ i, i < n → stEq (f i) (g i)) : moEq (tabM f n) (tabM g n) := by
  refine ⟨(tabM_n f n).trans (tabM_n g n).symm, fun i hi => ?_⟩
  have hi : i < n := by rw [← tabM_n f n]; exact hi
  show stEq (sm (tabM f n) i) (sm (tabM g n) i)
  rw [tabM_s f hi, tabM_s g hi]; exact h i hi

theorem copy_n (m : DMo) : n_ (copyM m) = n_ m := tabM_n _ _

theorem copy_s (m : DMo) {i : Nat} (h : i < n_ m) : sm (copyM m) i = cpS (sm m i) := tabM_s _ h

/-- The program's fixed model and the reference's. -/
theorem fix_eq {g : Nat → Nat → Bool} {m : DMo} {l : DL} {pl : Int} (hs : strOk m (l.getD [])) (hg : ∀ i, i < n_ m → (if pl < 0 ∨ (sm m i).1 = pl then ∀ k : Nat, g i k = decide (int (l.getD []) i = (k : Int)) else ∀ k, g i k = true)) :
    moEq (keptM g m) (fixM l pl (copyM m)) := by
  rw [keptM_tab, fixM, copy_n]
  refine tabM_eq fun i hi => ?_
  rw [copy_s m hi]
  have hg := hg i hi
  have hat : 0 ≤ int (l.getD []) i ∧ int (l.getD []) i < ((cho (sm m i)).length : Int) := hs.2 i (by rw [hs.1]; exact hi)
  unfold fixS
  by_cases hp : pl < 0 ∨ (sm m i).1 = pl
  · rw [if_pos hp] at hg
    rw [if_pos (show pl < 0 ∨ (cpS (sm m i)).1 = pl from hp)]
    exact kept_one hg hat.1 hat.2
  · rw [if_neg hp] at hg
    rw [if_neg (show ¬ (pl < 0 ∨ (cpS (sm m i)).1 = pl) from hp)]
    exact kept_all fun k _ => hg k

def fixQ (m : DMo) (l : DL) : DMo × Int × Unit := if moOk m ∧ strOk m (l.getD []) then (keptM (gFix l) m, 0, ()) else (none, 1, ())

theorem s_Fix (m : DMo) (l : DL) (hl : (l.getD []).length < 4611686018427387904) : callV Pg c_model_Fix [⟨tMo, m⟩, ⟨tL, l⟩] (.tup (.pair tMo (.pair tI .unit))) fun r => r = fixQ m l := by
  refine w_model_Fix m l ⟨_, rfl⟩ (joinR (fun p => ∃ b : Bool, p = (l, (b, (m, none))) ∧ (b = false ↔ moOk m ∧ strOk m (l.getD []))) ?_ ?_)
  · rintro _ ⟨b, rfl, hb⟩
    dsimp only
    refine br_c (fun h => ?_) fun h => ?_
    · rw [fixQ, if_neg (fun q => by rw [hb.2 q] at h; cases h)]
    · have h := hb.1 h
      rw [fixQ, if_pos h]
      refine (w_model_Fixed m l ⟨_, rfl⟩ ((s_KeptFixed m l h.1.small h.2.1).mono fun _ h => h) : callV Pg c_model_Fixed [⟨tMo, m⟩, ⟨tL, l⟩] tMo fun r => r = keptM (gFix l) m).mono ?_
      rintro _ rfl; rfl
  · intro k hk
    refine (s_MValid m).mono ?_
    rintro _ rfl
    refine br_c (fun h => hk _ ⟨true, rfl, ⟨fun h => (by cases h), fun q => absurd q.1 (not_t h)⟩⟩) fun h => (s_Strategy m l hl).mono ?_
    rintro _ rfl
    refine hk _ ⟨_, rfl, ?_⟩
    have h := not_f h
    exact ⟨fun q => ⟨h, not_f q⟩, fun q => by show (!decide _) = false; rw [decide_eq_true q.2]; rfl⟩

def rfixQ (m : DMo) (l : DL) : DMo × Int × Unit := if moOk m ∧ strOk m (l.getD []) then (fixM l (-1) m, 0, ()) else (none, 1, ())

theorem r_Fix (m : DMo) (l : DL) (hl : (l.getD []).length < 4611686018427387904) : callV Pg c_ref04_Fix [⟨tMo, m⟩, ⟨tL, l⟩] (.tup (.pair tMo (.pair tI .unit))) fun r => r = rfixQ m l := by
  refine w_ref04_Fix m l ⟨_, rfl⟩ (joinR (fun p => ∃ b : Bool, p = (l, (b, (m, none))) ∧ (b = false ↔ moOk m ∧ strOk m (l.getD []))) ?_ ?_)
  · rintro _ ⟨b, rfl, hb⟩
    dsimp only
    refine br_c (fun h => ?_) fun h => ?_
    · rw [rfixQ, if_neg (fun q => by rw [hb.2 q] at h; cases h)]
    · have h := hb.1 h
      rw [rfixQ, if_pos h]
      obtain ⟨hs1, hs2⟩ := h.1.small
      refine (r_Fixed m l (-1) hs1 h.2 fun i hi => (hs2 i hi).1).mono ?_
      rintro _ rfl; rfl
  · intro k hk
    refine (r_MValid m).mono ?_
    rintro _ rfl
    refine br_c (fun h => hk _ ⟨true, rfl, ⟨fun h => (by cases h), fun q => absurd q.1 (not_t h)⟩⟩) fun h => (r_Strategy m l hl).mono ?_
    rintro _ rfl
    refine hk _ ⟨_, rfl, ?_⟩
    have h := not_f h
    exact ⟨fun q => ⟨h, not_f q⟩, fun q => by show (!decide _) = false; rw [decide_eq_true q.2]; rfl⟩

def ffQ (ok : Prop) [Decidable ok] (r : DMo) (pl : Int) : DMo × Int × Unit := if ok then (if 0 ≤ pl ∧ pl ≤ 1 then (r, 0, ()) else (none, 6, ())) else (none, 1, ())

theorem s_FixFor (m : DMo) (l : DL) (pl : Int) (hl : (l.getD []).length < 4611686018427387904) : callV Pg c_model_FixFor [⟨tMo, m⟩, ⟨tL, l⟩, ⟨tI, pl⟩] (.tup (.pair tMo (.pair tI .unit))) fun r => r = ffQ (moOk m ∧ strOk m (l.getD [])) (keptM (gFor m l pl) m) pl := by
  refine w_model_FixFor m l pl ⟨_, rfl⟩ (joinR (fun p => ∃ b : Bool, p = (l, (pl, (b, (m, none)))) ∧ (b = false ↔ moOk m ∧ strOk m (l.getD []))) ?_ ?_)
  · rintro _ ⟨b, rfl, hb⟩
    dsimp only
    refine br_c (fun h => ?_) fun h => ?_
    · rw [ffQ, if_neg (fun q => by rw [hb.2 q] at h; cases h)]
    · have h := hb.1 h
      rw [ffQ, if_pos h]
      refine joinR (fun p => ∃ b : Bool, p = (l, (pl, (b, (m, none)))) ∧ (b = false ↔ 0 ≤ pl ∧ pl ≤ 1)) ?_ ?_
      · rintro _ ⟨b, rfl, hb⟩
        dsimp only
        refine br_c (fun h => ?_) fun h2 => ?_
        · rw [if_neg (fun q => by rw [hb.2 q] at h; cases h)]
        · rw [if_pos (hb.1 h2)]
          refine (w_model_FixedFor m l pl ⟨_, rfl⟩ ((s_KeptFixedFor m l pl h.1.small h.2.1).mono fun _ h => h) : callV Pg c_model_FixedFor [⟨tMo, m⟩, ⟨tL, l⟩, ⟨tI, pl⟩] tMo fun r => r = keptM (gFor m l pl) m).mono ?_
          rintro _ rfl; rfl
      · intro k hk
        refine br_c (fun h => hk _ ⟨true, rfl, ⟨fun h => (by cases h), fun q => by have := dec_t h; omega⟩⟩) fun h => hk _ ⟨_, rfl, ?_⟩
        have h := dec_f h
        rw [decide_eq_false_iff_not]; omega
  · intro k hk
    refine (s_MValid m).mono ?_
    rintro _ rfl
    refine br_c (fun h => hk _ ⟨true, rfl, ⟨fun h => (by cases h), fun q => absurd q.1 (not_t h)⟩⟩) fun h => (s_Strategy m l hl).mono ?_
    rintro _ rfl
    refine hk _ ⟨_, rfl, ?_⟩
    have h := not_f h
    exact ⟨fun q => ⟨h, not_f q⟩, fun q => by show (!decide _) = false; rw [decide_eq_true q.2]; rfl⟩

theorem r_FixFor (m : DMo) (l : DL) (pl : Int) (hl : (l.getD []).length < 4611686018427387904) : callV Pg c_ref04_FixFor [⟨tMo, m⟩, ⟨tL, l⟩, ⟨tI, pl⟩] (.tup (.pair tMo (.pair tI .unit))) fun r => r = ffQ (moOk m ∧ strOk m (l.getD [])) (fixM l pl m) pl := by
  refine w_ref04_FixFor m l pl ⟨_, rfl⟩ (joinR (fun p => ∃ b : Bool, p = (l, (pl, (b, (m, none)))) ∧ (b = false ↔ moOk m ∧ strOk m (l.getD []))) ?_ ?_)
  · rintro _ ⟨b, rfl, hb⟩
    dsimp only
    refine br_c (fun h => ?_) fun h => ?_
    · rw [ffQ, if_neg (fun q => by rw [hb.2 q] at h; cases h)]
    · have h := hb.1 h
      rw [ffQ, if_pos h]
      refine joinR (fun p => ∃ b : Bool, p = (l, (pl, (b, (m, none)))) ∧ (b = false ↔ 0 ≤ pl ∧ pl ≤ 1)) ?_ ?_
      · rintro _ ⟨b, rfl, hb⟩
        dsimp only
        refine br_c (fun h => ?_) fun h2 => ?_
        · rw [if_neg (fun q => by rw [hb.2 q] at h; cases h)]
        · rw [if_pos (hb.1 h2)]
          obtain ⟨hs1, hs2⟩ := h.1.small
          refine (r_Fixed m l pl hs1 h.2 fun i hi => (hs2 i hi).1).mono ?_
          rintro _ rfl; rfl
      · intro k hk
        refine br_c (fun h => hk _ ⟨_, rfl, ?_⟩) fun h => hk _ ⟨false, rfl, ⟨fun _ => by have h := not_f h; omega, fun _ => rfl⟩⟩
        have h : ¬ pl = 0 := not_t h
        constructor
        · intro q
          have q : pl = 1 := not_f q
          omega
        · intro q
          show (!decide (pl = 1)) = false
          rw [decide_eq_true (by omega)]; rfl
  · intro k hk
    refine (r_MValid m).mono ?_
    rintro _ rfl
    refine br_c (fun h => hk _ ⟨true, rfl, ⟨fun h => (by cases h), fun q => absurd q.1 (not_t h)⟩⟩) fun h => (r_Strategy m l hl).mono ?_
    rintro _ rfl
    refine hk _ ⟨_, rfl, ?_⟩
    have h := not_f h
    exact ⟨fun q => ⟨h, not_f q⟩, fun q => by show (!decide _) = false; rw [decide_eq_true q.2]; rfl⟩

def rgoalQ (m : DMo) (l : DL) : DMo × Int × Unit := if moOk m ∧ setOk (n_ m : Int) (l.getD []) then (tabM (absS l (sm m)) (n_ m), 0, ()) else (none, 1, ())

theorem r_Goal (m : DMo) (l : DL) (hl : (l.getD []).length ≤ 1000000) : callV Pg c_ref04_Goal [⟨tMo, m⟩, ⟨tL, l⟩] (.tup (.pair tMo (.pair tI .unit))) fun r => r = rgoalQ m l := by
  refine w_ref04_Goal m l ⟨_, rfl⟩ (joinR (fun p => ∃ b : Bool, p = (l, (b, (m, none))) ∧ (b = false ↔ moOk m ∧ setOk (n_ m : Int) (l.getD []))) ?_ ?_)
  · rintro _ ⟨b, rfl, hb⟩
    dsimp only
    refine br_c (fun h => ?_) fun h => ?_
    · rw [rgoalQ, if_neg (fun q => by rw [hb.2 q] at h; cases h)]
    · have h := hb.1 h
      rw [rgoalQ, if_pos h]
      refine (r_Absorbing m l h.1.small.1 hl).mono ?_
      rintro _ rfl; rfl
  · intro k hk
    refine (r_MValid m).mono ?_
    rintro _ rfl
    refine br_c (fun h => hk _ ⟨true, rfl, ⟨fun h => (by cases h), fun q => absurd q.1 (not_t h)⟩⟩) fun h => (r_Set m l (by omega)).mono ?_
    rintro _ rfl
    refine hk _ ⟨_, rfl, ?_⟩
    have h := not_f h
    exact ⟨fun q => ⟨h, not_f q⟩, fun q => by show (!decide _) = false; rw [decide_eq_true q.2]; rfl⟩

theorem few_none : fewOk none := ⟨by decide, fun i hi => absurd hi (Nat.not_lt_zero i)⟩

theorem few_tab {f : Nat → DSt} {n : Nat} (hn : n ≤ 45) (h : ∀ i, i < n → fewSt (f i)) : fewOk (tabM f n) := by
  refine ⟨by rw [tabM_len]; exact hn, fun i hi => ?_⟩
  have hi : i < n := by rw [← tabM_n f n]; exact hi
  show fewSt (sm (tabM f n) i)
  rw [tabM_s f hi]; exact h i hi

theorem filt_mem {g : Nat → Bool} {l : List DCh} {n : Nat} {c : DCh} (h : c ∈ filt g l n) : ∃ j, j < n ∧ c = ch l j := by
  unfold filt at h
  obtain ⟨j, hj, e⟩ := List.mem_map.1 h
  rw [List.mem_filter, List.mem_range] at hj
  exact ⟨j, hj.1, e.symm⟩

theorem few_kept {g : Nat → Bool} {s : DSt} (h : fewSt s) : fewSt (keptS g s) := by
  have e : cho (keptS g s) = filt g (cho s) (cho s).length := optL_get _
  have hl := filt_len g (cho s) (cho s).length
  have h1 : (cho s).length ≤ 10 := h.1
  refine ⟨?_, fun j hj => ?_⟩
  · show (cho (keptS g s)).length ≤ 10
    rw [e]; omega
  · have hj : j < (cho (keptS g s)).length := hj
    show ((ch (cho (keptS g s)) j).2.getD []).length ≤ 10
    rw [e] at hj ⊢
    have hm : ch (filt g (cho s) (cho s).length) j ∈ filt g (cho s) (cho s).length := by
      simp only [ch, List.getD, List.getElem?_eq_getElem hj, Option.getD_some]; exact List.getElem_mem hj
    obtain ⟨i, hi, ei⟩ := filt_mem hm
    rw [ei]; exact h.2 i hi

theorem few_keptM {g : Nat → Nat → Bool} {m : DMo} (h : fewOk m) : fewOk (keptM g m) := few_tab h.1 fun i hi => few_kept (h.2 i hi)

theorem r_Id {a b : DMo} (ha : fewOk a) (h : moEq a b) : callV Pg c_ref04_Identical [⟨tMo, a⟩, ⟨tMo, b⟩] .bool fun r => r = true :=
  (r_Identical a b ha).mono fun _ e => e.trans (decide_eq_true h)

theorem fixes_same (m : DMo) (l : DL) (hf : fewOk m) : fewOk (fixQ m l).1 ∧ moEq (fixQ m l).1 (rfixQ (copyM m) l).1 ∧ (fixQ m l).2 = (rfixQ (copyM m) l).2 := by
  unfold fixQ rfixQ
  by_cases h : moOk m ∧ strOk m (l.getD [])
  · rw [if_pos h, if_pos ⟨(copy_eq m).ok_iff.2 h.1, (copy_eq m).str_iff.2 h.2⟩]
    exact ⟨few_keptM hf, fix_eq h.2 fun i _ => by rw [if_pos (.inl (by decide))]; exact fun k => rfl, rfl⟩
  · rw [if_neg h, if_neg fun q => h ⟨(copy_eq m).ok_iff.1 q.1, (copy_eq m).str_iff.1 q.2⟩]
    exact ⟨few_none, moEq.refl _, rfl⟩

theorem fixFor_same (m : DMo) (l : DL) (pl : Int) (hf : fewOk m) : fewOk (ffQ (moOk m ∧ strOk m (l.getD [])) (keptM (gFor m l pl) m) pl).1 ∧
    moEq (ffQ (moOk m ∧ strOk m (l.getD [])) (keptM (gFor m l pl) m) pl).1 (ffQ (moOk (copyM m) ∧ strOk (copyM m) (l.getD [])) (fixM l pl (copyM m)) pl).1 ∧
    (ffQ (moOk m ∧ strOk m (l.getD [])) (keptM (gFor m l pl) m) pl).2 = (ffQ (moOk (copyM m) ∧ strOk (copyM m) (l.getD [])) (fixM l pl (copyM m)) pl).2 := by
  unfold ffQ
  by_cases h : moOk m ∧ strOk m (l.getD [])
  · have h' : moOk (copyM m) ∧ strOk (copyM m) (l.getD []) := ⟨(copy_eq m).ok_iff.2 h.1, (copy_eq m).str_iff.2 h.2⟩
    rw [if_pos h, if_pos h']
    by_cases hp : 0 ≤ pl ∧ pl ≤ 1
    · rw [if_pos hp, if_pos hp]
      refine ⟨few_keptM hf, fix_eq h.2 fun i _ => ?_, rfl⟩
      by_cases e : (sm m i).1 = pl
      · rw [if_pos (.inr e)]
        intro k
        show (!decide ((sm m i).1 = pl) || decide (int (l.getD []) i = (k : Int))) = _
        rw [decide_eq_true e]; rfl
      · rw [if_neg (by omega)]
        intro k
        show (!decide ((sm m i).1 = pl) || decide (int (l.getD []) i = (k : Int))) = _
        rw [decide_eq_false e]; rfl
    · rw [if_neg hp, if_neg hp]; exact ⟨few_none, moEq.refl _, rfl⟩
  · rw [if_neg h, if_neg fun q => h ⟨(copy_eq m).ok_iff.1 q.1, (copy_eq m).str_iff.1 q.2⟩]
    exact ⟨few_none, moEq.refl _, rfl⟩

theorem few_loop (a b c : Int) : fewSt (a, (b, some [loopC c])) := by
  refine ⟨(by decide : (1 : Nat) ≤ 10), fun j hj => ?_⟩
  obtain rfl : j = 0 := by simpa using hj
  exact (by decide : (1 : Nat) ≤ 10)

theorem goal_same (m : DMo) (l : DL) (hf : fewOk m) : fewOk (goalQ m l).1 ∧ moEq (goalQ m l).1 (rgoalQ (copyM m) l).1 ∧ (goalQ m l).2 = (rgoalQ (copyM m) l).2 := by
  unfold goalQ rgoalQ
  have hn := copy_n m
  by_cases h : moOk m ∧ setOk (n_ m : Int) (l.getD [])
  · rw [if_pos h, if_pos ⟨(copy_eq m).ok_iff.2 h.1, by rw [hn]; exact h.2⟩]
    refine ⟨few_tab hf.1 fun i hi => ?_, ?_, rfl⟩
    · unfold goalS
      split
      · exact few_loop _ _ _
      · exact few_kept (hf.2 i hi)
    · dsimp only
      rw [hn]
      refine tabM_eq fun i hi => ?_
      unfold goalS absS
      rw [List.take_length, copy_s m hi]
      by_cases hc : (l.getD []).contains (i : Int) = true
      · rw [if_pos hc, if_pos hc]; exact stEq.refl _
      · rw [if_neg hc, if_neg hc]; exact kept_all fun _ _ => rfl
  · rw [if_neg h, if_neg fun q => h ⟨(copy_eq m).ok_iff.1 q.1, by rw [← hn]; exact q.2⟩]
    exact ⟨few_none, moEq.refl _, rfl⟩

theorem s_ModelFixes (a : DMo) (b : DL) (c : Int) (d : DL) : callV Pg c_law04_ModelFixes [⟨tMo, a⟩, ⟨tL, b⟩, ⟨tI, c⟩, ⟨tL, d⟩] .bool fun r => r = true := by
  refine w_law04_ModelFixes a b c d ⟨_, rfl⟩ (joinR (fun p => ∃ q : Bool, p = (b, (c, (d, (q, a)))) ∧ (q = false → fewOk a ∧ (b.getD []).length ≤ 60 ∧ (d.getD []).length ≤ 60)) ?_ ?_)
  · rintro _ ⟨q, rfl, hq⟩
    dsimp only
    refine brV_iff.2 ⟨fun _ => s_awake4.mono fun _ h => h, fun h => ?_⟩
    obtain ⟨hf, hb, hd⟩ := hq h
    obtain ⟨f1, f2, f3⟩ := fixes_same a b hf
    obtain ⟨g1, g2, g3⟩ := fixFor_same a b c hf
    obtain ⟨h1, h2, h3⟩ := goal_same a d hf
    have hcp := r_Copy a hf.small
    refine hcp.mono ?_; rintro _ rfl
    refine (r_Fix (copyM a) b (by omega)).mono ?_; rintro _ rfl
    refine hcp.mono ?_; rintro _ rfl
    refine (r_FixFor (copyM a) b c (by omega)).mono ?_; rintro _ rfl
    refine hcp.mono ?_; rintro _ rfl
    refine (r_Goal (copyM a) d (by omega)).mono ?_; rintro _ rfl
    refine (s_Fix a b (by omega)).mono ?_; rintro _ rfl
    refine (s_FixFor a b c (by omega)).mono ?_; rintro _ rfl
    refine (s_Goal a d (by omega)).mono ?_; rintro _ rfl
    refine joinE ?_
    refine (r_Id f1 f2).mono ?_; rintro _ rfl
    refine br_t rfl (br_t (decide_eq_true (congrArg Prod.fst f3)) ?_)
    refine (r_Id g1 g2).mono ?_; rintro _ rfl
    refine br_t rfl (br_t (decide_eq_true (congrArg Prod.fst g3)) ?_)
    refine (r_Id h1 h2).mono ?_; rintro _ rfl
    exact br_t rfl (br_t (decide_eq_true (congrArg Prod.fst h3)) (s_awake4.mono fun _ h => h))
  · intro k hk
    refine (s_few2 [a] (by simp)).mono fun p hp => brV_iff.2 ⟨fun _ => hk _ ⟨true, rfl, fun h => by cases h⟩, fun h => ?_⟩
    have hf : fewOk a := hp (by cases p <;> simp [notB] at h ⊢) 0 (by simp)
    refine brV_iff.2 ⟨fun _ => hk _ ⟨true, rfl, fun h => by cases h⟩, fun h1 => hk _ ⟨_, rfl, fun h2 => ⟨hf, ?_, ?_⟩⟩⟩
    · have h1 : ¬ (60 : Int) < ((b.getD []).length : Int) := dec_f h1
      omega
    · have h2 : ¬ (60 : Int) < ((d.getD []).length : Int) := dec_f h2
      omega

end Go.Proofs.Pf.B
