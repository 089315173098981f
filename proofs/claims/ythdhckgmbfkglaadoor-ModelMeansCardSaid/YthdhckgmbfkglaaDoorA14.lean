/- Typed pure data, a condition on code that says what a call gives, what the code of each function comes to, and what each function gives. -/
import Derived.Test.YthdhckgmbfkglaaDoorProg
import Derived.Lib.LaidTab
import Derived.Lib.ItoaNum
import Derived.Laws.CopyRow
import Derived.Laws.AppendOwn
import Derived.Laws.MakeOwn
import Derived.Laws.BytesString
import Derived.Laws.StructEq
import Derived.Laws.Small
import Derived.Tactics
import Derived.Calls
import Derived.Below
import Derived.KernelRfl
import Derived.Laws.Cells
import Derived.Test.YthdhckgmbfkglaaDoorA8
import Derived.Test.YthdhckgmbfkglaaDoorA10
import Derived.Test.YthdhckgmbfkglaaDoorA12
import Derived.Test.YthdhckgmbfkglaaDoorA13
set_option linter.unusedVariables false
set_option linter.unusedSimpArgs false
namespace Go.Proofs.Pf.B

open Go Go.VM

abbrev Buf := Option (List Int)

def ints (l : List UInt8) : List Int := l.map fun b => (b.toNat : Int)

/-- What the builder holds. -/
def BufIs (b : Buf) (l : List UInt8) : Prop := b.getD [] = ints l

theorem bytesI_bl (s : ByteArray) : bytesI s = ints (bl s) := rfl

theorem ints_len (l : List UInt8) : (ints l).length = l.length := by simp [ints]

theorem appL_getB (c : Buf) (ys : List Int) : (appL c ys).getD [] = c.getD [] ++ ys := by
  cases c with
  | none => cases ys <;> rfl
  | some l => rfl

theorem BufIs.app {b : Buf} {l : List UInt8} (h : BufIs b l) (s : ByteArray) : BufIs (appL b (bytesI s)) (l ++ bl s) := by
  unfold BufIs at *
  rw [appL_getB, h, bytesI_bl]; simp [ints]

theorem BufIs.len {b : Buf} {l : List UInt8} (h : BufIs b l) : (b.getD []).length = l.length := by rw [h, ints_len]

theorem BufIs.str {b : Buf} {l : List UInt8} (h : BufIs b l) : strOf b = ⟨l.toArray⟩ := by
  apply bl_inj
  have e : strOf b = strOf (some (b.getD [])) := rfl
  rw [e, bl_strOf, h, bl_mk]
  simp only [ints, List.map_map]
  conv => rhs; rw [← List.map_id l]
  refine List.map_congr_left fun x _ => ?_
  simp

theorem s_Write {a : ByteArray} {c : Buf} {l : List UInt8} {Q : Int × (Unit × Unit) × Buf → Prop} (hc : BufIs c l) (hl : l.length ≤ 1000000) (ha : (bl a).length ≤ 1000000) (h : ∀ c', BufIs c' (l ++ bl a) → Q (szStr a, (((), ()), c'))) :
    lendV Pg c_strings_Builder_WriteString 2 L_strings_Builder_WriteString_v1 (a, (((), ()), c)) Q := by
  have h2 := h _ (hc.app a)
  refine w_strings_Builder_WriteString_v1 a ((), ()) c ⟨_, h2⟩ (s_copyCheck_used ⟨?_, h2⟩)
  show ((c.getD []).length + (bytesI a).length) * 1 ≤ 140737488355328
  rw [hc.len, bytesI_bl, ints_len]; omega

theorem s_Write0 {a : ByteArray} {Q : Int × (Unit × Unit) × Buf → Prop} (ha : (bl a).length ≤ 1000000) (h : ∀ c', BufIs c' (bl a) → Q (szStr a, (((), ()), c'))) :
    lendV Pg c_strings_Builder_WriteString 2 L_strings_Builder_WriteString_v0 (a, (((), ()), none)) Q := by
  have h2 := h _ (BufIs.app (b := none) (l := []) rfl a)
  refine w_strings_Builder_WriteString_v0 a ((), ()) none ⟨_, h2⟩ (s_copyCheck_fresh ⟨?_, h2⟩)
  show (0 + (bytesI a).length) * 1 ≤ 140737488355328
  rw [bytesI_bl, ints_len]; omega

theorem s_BLen {c : Buf} {Q : Int × (Unit × Unit) × Buf → Prop} (h : Q (szSl c, (((), ()), c))) : lendV Pg c_strings_Builder_Len 1 L_strings_Builder_Len (((), ()), c) Q :=
  w_strings_Builder_Len ((), ()) c ⟨_, h⟩ h

theorem s_BString {c : Buf} {l : List UInt8} {Q : ByteArray × Unit × Unit → Prop} (hc : BufIs c l) (h0 : 0 < l.length) (hl : l.length ≤ 1000000) (h : Q (⟨l.toArray⟩, ((), ()))) : lendV Pg c_strings_Builder_String 1 L_strings_Builder_String (((), ()), c) Q := by
  have e : szSl c = (l.length : Int) := by show ((c.getD []).length : Int) = _; rw [hc.len]
  refine w_strings_Builder_String ((), ()) c ⟨_, h⟩ ⟨by rw [e]; omega, ⟨rfl, rfl, by rw [e]; omega, by rw [e]; omega⟩, ?_⟩
  rw [hc.str]; exact h

abbrev lit (l : List Nat) : List UInt8 := l.map UInt8.ofNat

def brS (l : List DBr) : Nat → List UInt8
  | 0 => []
  | k + 1 => brS l k ++ (if 0 < k then lit [44] else []) ++ (lit [32] ++ Lib.itoa (br l k).1 ++ lit [32] ++ printL (br l k).2)

def chS (l : List DCh) : Nat → List UInt8
  | 0 => []
  | j + 1 => chS l j ++ (lit [99, 104, 111, 105, 99, 101, 32] ++ printL (ch l j).1 ++ lit [58]) ++ brS ((ch l j).2.getD []) ((ch l j).2.getD []).length ++ lit [10]

def stS (l : List DSt) : Nat → List UInt8
  | 0 => []
  | i + 1 => stS l i ++ (lit [115, 116, 97, 116, 101, 32] ++ Lib.itoa (stt l i).1 ++ lit [32] ++ Lib.itoa (stt l i).2.1 ++ lit [10]) ++ chS ((stt l i).2.2.getD []) ((stt l i).2.2.getD []).length

def hdS (m : DMo) : List UInt8 := lit [109, 111, 100, 101, 108, 32] ++ Lib.itoa ((m.getD []).length : Int) ++ lit [10]

def moS (m : DMo) : List UInt8 := hdS m ++ stS (m.getD []) (m.getD []).length

def prtQ (m : DMo) : ByteArray × Int × Unit := if moOk m then (if 32768 < (moS m).length then (bytesL [], 3, ()) else (⟨(moS m).toArray⟩, 0, ())) else (bytesL [], 1, ())

theorem bl_lit (l : List Nat) : bl (bytesL l) = lit l := bytesL_bl l

theorem cat_bl (a b : ByteArray) : bl (catS a b) = bl a ++ bl b := bl_app a b

theorem catC_of {a b : ByteArray} (h : (bl a).length + (bl b).length ≤ 1000000) : catC a b := by
  unfold catC
  rw [size_bl, size_bl]; omega

theorem brS_len {n : Int} {l : List DBr} (hn : n ≤ 40) : ∀ {k : Nat}, (∀ j, j < k → brOk n l j) → (brS l k).length ≤ 140 * k
  | 0, _ => by simp [brS]
  | k + 1, h => by
    have h1 := brS_len hn (k := k) fun j hj => h j (by omega)
    obtain ⟨b1, b2, b3, b4⟩ := h k (by omega)
    have b0 := pre_le (i := k) fun j hj => h j (by omega)
    have h2 := itoa_len (n := (br l k).1) (by omega)
    have h3 := print_len b3
    have h4 : (if 0 < k then lit [44] else []).length ≤ 1 := by split <;> decide
    simp only [brS, List.length_append, List.length_map, List.length_cons, List.length_nil] at h4 ⊢
    omega

theorem chS_len {n : Int} {l : List DCh} (hn : n ≤ 40) : ∀ {j : Nat}, (∀ i, i < j → chOk n (ch l i)) → (chS l j).length ≤ 1300 * j
  | 0, _ => by simp [chS]
  | j + 1, h => by
    have h1 := chS_len hn (j := j) fun i hi => h i (by omega)
    obtain ⟨b1, b2, b3, b4⟩ := h j (by omega)
    have h2 := brS_len hn b3
    have h3 := print_len b1
    simp only [chS, List.length_append, List.length_map, List.length_cons, List.length_nil]
    omega

theorem stS_len {m : DMo} (h : moOk m) : ∀ {i : Nat}, i ≤ (m.getD []).length → (stS (m.getD []) i).length ≤ 11000 * i
  | 0, _ => by simp [stS]
  | i + 1, hi => by
    have h1 := stS_len h (i := i) (by omega)
    obtain ⟨⟨b1, b2, b3⟩, b4⟩ := h.2 i (by omega)
    have h2 := chS_len (by have := h.1; omega) b4
    have h3 := itoa_len (n := (stt (m.getD []) i).1) (by omega)
    have h4 := itoa_len (n := (stt (m.getD []) i).2.1) (by omega)
    simp only [stS, List.length_append, List.length_map, List.length_cons, List.length_nil]
    omega

end Go.Proofs.Pf.B

namespace Go.Proofs.Pf.B

open Go Go.VM

abbrev len (m : DMo) : Nat := (m.getD []).length

theorem s_MPrint (m : DMo) : callV Pg c_model_Print [⟨tMo, m⟩] (.tup (.pair .str (.pair tI .unit))) fun r => r = prtQ m := by
  refine w_model_Print m ⟨_, rfl⟩ ((s_MValid m).mono ?_)
  rintro _ rfl
  refine brV_iff.2 ⟨fun hb => ?_, fun hb => ?_⟩
  · rw [prtQ, if_neg (not_t hb)]
  have h := not_f hb
  have h40 := h.1
  rw [prtQ, if_pos h]
  have i0 := itoa_len (n := ((m.getD []).length : Int)) (by omega)
  refine (s_Itoa (n := ((m.getD []).length : Int)) (by omega) (by omega)).mono ?_
  rintro _ rfl
  refine ⟨catC_of (by rw [bl_lit, bl_itoaB]; simp only [List.length_map, List.length_cons, List.length_nil]; omega), catC_of (by rw [cat_bl, bl_lit, bl_lit, bl_itoaB]; simp only [List.length_append, List.length_map, List.length_cons, List.length_nil]; omega), ?_⟩
  have hh : bl (catS (catS (bytesL [109, 111, 100, 101, 108, 32]) (itoaB ((m.getD []).length : Int))) (bytesL [10])) = hdS m := by rw [cat_bl, cat_bl, bl_lit, bl_lit, bl_itoaB]; rfl
  have hhl : (hdS m).length ≤ 100 := by
    simp only [hdS, List.length_append, List.length_map, List.length_cons, List.length_nil]; omega
  refine s_Write0 (by rw [hh]; omega) fun c0 hc0 => ?_
  rw [hh] at hc0
  refine loopE (fun p => ∃ (i : Nat) (b : Buf), p = (m, (((m.getD []).length : Int), ((i : Int), (((), ()), b)))) ∧ i ≤ (m.getD []).length ∧ BufIs b (hdS m ++ stS (m.getD []) i)) (fun p => (m.getD []).length - p.2.2.1.toNat) ⟨0, c0, rfl, by omega, by simpa [stS] using hc0⟩ ?_
  rintro _ ⟨i, b, rfl, hi, hbuf⟩
  dsimp only
  have hl1 : (hdS m ++ stS (m.getD []) i).length ≤ 100 + 11000 * i := by
    have := stS_len h hi
    simp only [List.length_append]; omega
  refine brV_iff.2 ⟨fun hc => ?_, fun hc => ?_⟩
  · have hc : (i : Int) < ((m.getD []).length : Int) := dec_t hc
    rw [eltS_st]
    obtain ⟨⟨b1, b2, b3⟩, b4⟩ := h.2 i (by omega)
    have i1 := itoa_len (n := (stt (m.getD []) i).1) (by omega)
    have i2 := itoa_len (n := (stt (m.getD []) i).2.1) (by omega)
    refine ⟨⟨by omega, by omega⟩, (s_Itoa (n := (stt (m.getD []) i).1) (by omega) (by omega)).mono ?_⟩
    rintro _ rfl
    refine ⟨catC_of (by rw [bl_lit, bl_itoaB]; simp only [List.length_map, List.length_cons, List.length_nil]; omega), catC_of (by rw [cat_bl, bl_lit, bl_lit, bl_itoaB]; simp only [List.length_append, List.length_map, List.length_cons, List.length_nil]; omega), ?_⟩
    refine (s_Itoa (n := (stt (m.getD []) i).2.1) (by omega) (by omega)).mono ?_
    rintro _ rfl
    refine ⟨catC_of (by rw [cat_bl, cat_bl, bl_lit, bl_lit, bl_itoaB, bl_itoaB]; simp only [List.length_append, List.length_map, List.length_cons, List.length_nil]; omega), catC_of (by rw [cat_bl, cat_bl, cat_bl, bl_lit, bl_lit, bl_lit, bl_itoaB, bl_itoaB]; simp only [List.length_append, List.length_map, List.length_cons, List.length_nil]; omega), ?_⟩
    have hs : bl (catS (catS (catS (catS (bytesL [115, 116, 97, 116, 101, 32]) (itoaB (stt (m.getD []) i).1)) (bytesL [32])) (itoaB (stt (m.getD []) i).2.1)) (bytesL [10])) = lit [115, 116, 97, 116, 101, 32] ++ Lib.itoa (stt (m.getD []) i).1 ++ lit [32] ++ Lib.itoa (stt (m.getD []) i).2.1 ++ lit [10] := by
      rw [cat_bl, cat_bl, cat_bl, cat_bl, bl_lit, bl_lit, bl_lit, bl_itoaB, bl_itoaB]
    have hsl : (lit [115, 116, 97, 116, 101, 32] ++ Lib.itoa (stt (m.getD []) i).1 ++ lit [32] ++ Lib.itoa (stt (m.getD []) i).2.1 ++ lit [10]).length ≤ 100 := by
      simp only [List.length_append, List.length_map, List.length_cons, List.length_nil]; omega
    refine s_Write hbuf (by omega) (by rw [hs]; omega) fun c1 hc1 => ?_
    rw [hs] at hc1
    -- the state's choices
    refine loopE (fun p => ∃ (j : Nat) (b : Buf), p = (m, (((m.getD []).length : Int), ((i : Int), ((stt (m.getD []) i).2.2, ((((stt (m.getD []) i).2.2.getD []).length : Int), ((j : Int), (((), ()), b))))))) ∧ j ≤ ((stt (m.getD []) i).2.2.getD []).length ∧
        BufIs b ((hdS m ++ stS (m.getD []) i) ++ (lit [115, 116, 97, 116, 101, 32] ++ Lib.itoa (stt (m.getD []) i).1 ++ lit [32] ++ Lib.itoa (stt (m.getD []) i).2.1 ++ lit [10]) ++ chS ((stt (m.getD []) i).2.2.getD []) j))
      (fun p => ((stt (m.getD []) i).2.2.getD []).length - p.2.2.2.2.2.1.toNat) ⟨0, c1, rfl, by omega, by simpa [chS] using hc1⟩ ?_
    rintro _ ⟨j, b, rfl, hj, hbuf2⟩
    dsimp only
    generalize hpre : (hdS m ++ stS (m.getD []) i) ++ (lit [115, 116, 97, 116, 101, 32] ++ Lib.itoa (stt (m.getD []) i).1 ++ lit [32] ++ Lib.itoa (stt (m.getD []) i).2.1 ++ lit [10]) = pre at hbuf2 ⊢
    have hprel : pre.length ≤ 200 + 11000 * i := by rw [← hpre, List.length_append]; omega
    have hcl : (chS ((stt (m.getD []) i).2.2.getD []) j).length ≤ 1300 * j := chS_len (n := ((m.getD []).length : Int)) (by omega) fun k hk => b4 k (by omega)
    have hl2 : (pre ++ chS ((stt (m.getD []) i).2.2.getD []) j).length ≤ 200 + 11000 * i + 1300 * j := by rw [List.length_append]; omega
    refine brV_iff.2 ⟨fun hd => ?_, fun hd => ?_⟩
    · have hd : (j : Int) < (((stt (m.getD []) i).2.2.getD []).length : Int) := dec_t hd
      rw [eltS_ch]
      generalize hch : ch ((stt (m.getD []) i).2.2.getD []) j = c
      have hcok : chOk ((m.getD []).length : Int) c := hch ▸ b4 j (by omega)
      obtain ⟨d1, d2, d3, d4⟩ := hcok
      have pl := print_len d1
      refine ⟨⟨by omega, by omega⟩, (s_NPrint c.1).mono ?_⟩
      rintro _ rfl
      rw [printQ, if_pos d1]
      refine ⟨catC_of (by rw [bl_lit, bl_printB]; simp only [List.length_map, List.length_cons, List.length_nil]; omega), catC_of (by rw [cat_bl, bl_lit, bl_lit, bl_printB]; simp only [List.length_append, List.length_map, List.length_cons, List.length_nil]; omega), ?_⟩
      have hs2 : bl (catS (catS (bytesL [99, 104, 111, 105, 99, 101, 32]) (printB c.1)) (bytesL [58])) = lit [99, 104, 111, 105, 99, 101, 32] ++ printL c.1 ++ lit [58] := by
        rw [cat_bl, cat_bl, bl_lit, bl_lit, bl_printB]
      have hs2l : (lit [99, 104, 111, 105, 99, 101, 32] ++ printL c.1 ++ lit [58]).length ≤ 100 := by
        simp only [List.length_append, List.length_map, List.length_cons, List.length_nil]; omega
      refine s_Write hbuf2 (by omega) (by rw [hs2]; omega) fun c2 hc2 => ?_
      rw [hs2] at hc2
      generalize hpre2 : (pre ++ chS ((stt (m.getD []) i).2.2.getD []) j) ++ (lit [99, 104, 111, 105, 99, 101, 32] ++ printL c.1 ++ lit [58]) = pre2 at hc2
      have hpre2l : pre2.length ≤ 300 + 11000 * i + 1300 * j := by rw [← hpre2, List.length_append]; omega
      -- the choice's branches
      refine loopE (fun p => ∃ (k : Nat) (b : Buf), p = (m, (((m.getD []).length : Int), ((i : Int), ((stt (m.getD []) i).2.2, ((((stt (m.getD []) i).2.2.getD []).length : Int), ((j : Int), (c.2, (((c.2.getD []).length : Int), ((k : Int), (((), ()), b)))))))))) ∧ k ≤ (c.2.getD []).length ∧
          BufIs b (pre2 ++ brS (c.2.getD []) k)) (fun p => (c.2.getD []).length - p.2.2.2.2.2.2.2.2.1.toNat) ⟨0, c2, rfl, by omega, by simpa [brS] using hc2⟩ ?_
      rintro _ ⟨k, b, rfl, hk, hbuf3⟩
      dsimp only
      have hbl : (brS (c.2.getD []) k).length ≤ 140 * k := brS_len (n := ((m.getD []).length : Int)) (by omega) fun q hq => d3 q (by omega)
      have hl3 : (pre2 ++ brS (c.2.getD []) k).length ≤ 300 + 11000 * i + 1300 * j + 140 * k := by rw [List.length_append]; omega
      refine brV_iff.2 ⟨fun he => ?_, fun he => ?_⟩
      · have he : (k : Int) < ((c.2.getD []).length : Int) := dec_t he
        rw [eltS_br]
        obtain ⟨f1, f2, f3, f4⟩ := d3 k (by omega)
        have f0 := pre_le (i := k) fun q hq => d3 q (by omega)
        have i3 := itoa_len (n := (br (c.2.getD []) k).1) (by omega)
        have pl3 := print_len f3
        refine ⟨⟨by omega, by omega⟩, joinR (fun p => ∃ b : Buf, p = (m, (((m.getD []).length : Int), ((i : Int), ((stt (m.getD []) i).2.2, ((((stt (m.getD []) i).2.2.getD []).length : Int), ((j : Int), (c.2, (((c.2.getD []).length : Int), ((k : Int), (((), ()), (br (c.2.getD []) k, b))))))))))) ∧
            BufIs b (pre2 ++ brS (c.2.getD []) k ++ (if 0 < k then lit [44] else []))) ?_ ?_⟩
        · rintro _ ⟨b, rfl, hbuf4⟩
          dsimp only
          have hl4 : (pre2 ++ brS (c.2.getD []) k ++ (if 0 < k then lit [44] else [])).length ≤ 400 + 11000 * i + 1300 * j + 140 * k := by
            have h4 : (if 0 < k then lit [44] else []).length ≤ 1 := by split <;> decide
            rw [List.length_append]; omega
          refine (s_NPrint _).mono ?_
          rintro _ rfl
          rw [printQ, if_pos f3]
          refine (s_Itoa (n := (br (c.2.getD []) k).1) (by omega) (by omega)).mono ?_
          rintro _ rfl
          refine ⟨catC_of (by rw [bl_lit, bl_itoaB]; simp only [List.length_map, List.length_cons, List.length_nil]; omega), catC_of (by rw [cat_bl, bl_lit, bl_itoaB]; simp only [List.length_append, List.length_map, List.length_cons, List.length_nil]; omega), catC_of (by rw [cat_bl, cat_bl, bl_lit, bl_itoaB, bl_printB]; simp only [List.length_append, List.length_map, List.length_cons, List.length_nil]; omega), ?_⟩
          have hs3 : bl (catS (catS (catS (bytesL [32]) (itoaB (br (c.2.getD []) k).1)) (bytesL [32])) (printB (br (c.2.getD []) k).2)) = lit [32] ++ Lib.itoa (br (c.2.getD []) k).1 ++ lit [32] ++ printL (br (c.2.getD []) k).2 := by
            rw [cat_bl, cat_bl, cat_bl, bl_lit, bl_itoaB, bl_printB]
          refine s_Write hbuf4 (by omega) (by rw [hs3]; simp only [List.length_append, List.length_map, List.length_cons, List.length_nil]; omega) fun c4 hc4 => ?_
          rw [hs3] at hc4
          rw [wi64 (by omega) (by omega)]
          refine ⟨⟨k + 1, c4, rfl, by omega, ?_⟩, by omega⟩
          have e : pre2 ++ brS (c.2.getD []) (k + 1) = pre2 ++ brS (c.2.getD []) k ++ (if 0 < k then lit [44] else []) ++ (lit [32] ++ Lib.itoa (br (c.2.getD []) k).1 ++ lit [32] ++ printL (br (c.2.getD []) k).2) := by
            simp only [brS, List.append_assoc]
          rw [e]; exact hc4
        · intro k' hk'
          refine brV_iff.2 ⟨fun hf => ?_, fun hf => ?_⟩
          · have hf : (0 : Int) < (k : Int) := dec_t hf
            refine s_Write hbuf3 (by omega) (by rw [bl_lit]; decide) fun c4 hc4 => hk' _ ⟨c4, rfl, ?_⟩
            rw [bl_lit] at hc4
            rw [if_pos (by omega)]; exact hc4
          · have hf : ¬ (0 : Int) < (k : Int) := dec_f hf
            refine hk' _ ⟨b, rfl, ?_⟩
            rw [if_neg (by omega), List.append_nil]; exact hbuf3
      · have he : ¬ (k : Int) < ((c.2.getD []).length : Int) := dec_f he
        obtain rfl : k = (c.2.getD []).length := by omega
        refine s_Write hbuf3 (by omega) (by rw [bl_lit]; decide) fun c4 hc4 => ?_
        rw [bl_lit] at hc4
        rw [wi64 (by omega) (by omega)]
        refine ⟨⟨j + 1, c4, rfl, by omega, ?_⟩, by omega⟩
        have e : pre ++ chS ((stt (m.getD []) i).2.2.getD []) (j + 1) = pre2 ++ brS (c.2.getD []) (c.2.getD []).length ++ lit [10] := by
          rw [← hpre2, ← hch]
          simp only [chS, List.append_assoc]
        rw [e]; exact hc4
    · have hd : ¬ (j : Int) < (((stt (m.getD []) i).2.2.getD []).length : Int) := dec_f hd
      obtain rfl : j = ((stt (m.getD []) i).2.2.getD []).length := by omega
      rw [wi64 (by omega) (by omega)]
      refine ⟨⟨i + 1, b, rfl, by omega, ?_⟩, by omega⟩
      have e : hdS m ++ stS (m.getD []) (i + 1) = pre ++ chS ((stt (m.getD []) i).2.2.getD []) ((stt (m.getD []) i).2.2.getD []).length := by
        rw [← hpre]
        simp only [stS, List.append_assoc]
      rw [e]; exact hbuf2
  · have hc : ¬ (i : Int) < ((m.getD []).length : Int) := dec_f hc
    obtain rfl : i = (m.getD []).length := by omega
    have e1 : szSl b = ((moS m).length : Int) := by show ((b.getD []).length : Int) = _; rw [hbuf.len]; rfl
    refine s_BLen ?_
    dsimp only
    rw [e1]
    have hpos : 0 < (moS m).length := by
      simp only [moS, hdS, List.length_append, List.length_map, List.length_cons]; omega
    refine brV_iff.2 ⟨fun hf => ?_, fun hf => ?_⟩
    · have hf : (32768 : Int) < ((moS m).length : Int) := dec_t hf
      rw [if_pos (by omega)]
    · have hf : ¬ (32768 : Int) < ((moS m).length : Int) := dec_f hf
      rw [if_neg (by omega)]
      exact s_BString (l := moS m) hbuf hpos (by omega) rfl

end Go.Proofs.Pf.B

namespace Go.Proofs.Pf.B

open Go Go.VM

def diceM : DMo := some [(0, 0, some [((0, 1), some [(1, 2, 3), (2, 1, 3)]), ((0, 1), some [(0, 1, 2), (1, 1, 4), (2, 1, 4)])]), (0, 0, some [((0, 1), some [(1, 1, 1)])]), (0, 1, some [((0, 1), some [(2, 1, 1)])])]

theorem s_lnum (a b : Int) : callV Pg c_law04_num [⟨tI, a⟩, ⟨tI, b⟩] tNum fun r => r = (a, b) := w_law04_num a b ⟨_, rfl⟩ rfl

theorem s_dice : callV Pg c_law04_dice [] tMo fun r => r = diceM := by
  refine w_law04_dice ⟨_, rfl⟩ ?_
  refine (s_lnum 0 1).mono ?_; rintro _ rfl
  refine (s_lnum 2 3).mono ?_; rintro _ rfl
  refine (s_lnum 1 3).mono ?_; rintro _ rfl
  refine joinE ?_
  refine (s_lnum 0 1).mono ?_; rintro _ rfl
  refine joinE ?_
  refine (s_lnum 1 2).mono ?_; rintro _ rfl
  refine (s_lnum 1 4).mono ?_; rintro _ rfl
  refine joinE ?_
  refine (s_lnum 1 4).mono ?_; rintro _ rfl
  refine joinE ?_
  refine (s_lnum 0 1).mono ?_; rintro _ rfl
  refine (s_lnum 1 1).mono ?_; rintro _ rfl
  refine joinE ?_
  refine joinE ?_
  refine (s_lnum 0 1).mono ?_; rintro _ rfl
  refine (s_lnum 1 1).mono ?_; rintro _ rfl
  refine joinE ?_
  refine joinE ?_
  rfl

theorem dice_ok : moOk diceM := by decide +kernel

theorem dice_text : moS diceM = lit [109, 111, 100, 101, 108, 32, 51, 10, 115, 116, 97, 116, 101, 32, 48, 32, 48, 10, 99, 104, 111, 105, 99, 101, 32, 48, 58, 32, 49, 32, 50, 47, 51, 44, 32, 50, 32, 49, 47, 51, 10, 99, 104, 111, 105, 99, 101, 32, 48, 58, 32, 48, 32, 49, 47, 50, 44, 32, 49, 32, 49, 47, 52, 44, 32, 50, 32, 49, 47, 52, 10, 115, 116, 97, 116, 101, 32, 48, 32, 48, 10, 99, 104, 111, 105, 99, 101, 32, 48, 58, 32, 49, 32, 49, 10, 115, 116, 97, 116, 101, 32, 48, 32, 49, 10, 99, 104, 111, 105, 99, 101, 32, 48, 58, 32, 50, 32, 49, 10] := by
  decide +kernel

theorem s_awake4 : callV Pg c_law04_awake [] .bool fun r => r = true := by
  refine w_law04_awake ⟨_, rfl⟩ (s_dice.mono ?_)
  rintro _ rfl
  refine (s_MPrint diceM).mono ?_
  rintro _ rfl
  rw [prtQ, if_pos dice_ok, dice_text, if_neg (by decide)]
  refine joinE (brV_iff.2 ⟨fun _ => ?_, fun h => absurd rfl (dec_f h)⟩)
  show eqStr _ _ = true
  rw [eqStr_bl, bl_mk, bl_lit]
  exact decide_eq_true rfl

theorem r_List (a b : Option (List Int)) (ha : (a.getD []).length < 9223372036854775807) : callV Pg c_ref01_List [⟨tL, a⟩, ⟨tL, b⟩] .bool fun r => r = decide (a.getD [] = b.getD []) := by
  refine w_ref01_List a b ⟨_, rfl⟩ (brV_iff.2 ⟨fun h => ?_, fun h => ?_⟩)
  · have h : ¬ ((a.getD []).length : Int) = ((b.getD []).length : Int) := not_t h
    exact (decide_eq_false fun e => h (by rw [e])).symm
  have hl : ((a.getD []).length : Int) = ((b.getD []).length : Int) := not_f h
  refine loopE (fun p => ∃ i : Nat, p = (a, (b, (((a.getD []).length : Int), (i : Int)))) ∧ i ≤ (a.getD []).length ∧ (a.getD []).take i = (b.getD []).take i) (fun p => (a.getD []).length - p.2.2.2.toNat) ⟨0, rfl, by omega, rfl⟩ ?_
  rintro _ ⟨i, rfl, hi, ht⟩
  dsimp only
  refine brV_iff.2 ⟨fun hc => ?_, fun hc => ?_⟩
  · have hc : (i : Int) < ((a.getD []).length : Int) := dec_t hc
    refine ⟨⟨by omega, by omega⟩, ⟨by omega, by omega⟩, ?_⟩
    have e1 : eltS (0 : Int) a (i : Int) = (a.getD []).getD i 0 := by simp only [eltS, Int.toNat_natCast]
    have e2 : eltS (0 : Int) b (i : Int) = (b.getD []).getD i 0 := by simp only [eltS, Int.toNat_natCast]
    rw [e1, e2]
    refine brV_iff.2 ⟨fun h => ?_, fun h => ?_⟩
    · exact (decide_eq_false fun e => not_t h (by rw [e])).symm
    · have h := not_f h
      rw [wi64 (by omega) (by omega)]
      refine ⟨⟨i + 1, rfl, by omega, ?_⟩, by omega⟩
      have g1 : (a.getD []).getD i 0 = (a.getD [])[i]'(by omega) := by simp [List.getD, show i < (a.getD []).length by omega]
      have g2 : (b.getD []).getD i 0 = (b.getD [])[i]'(by omega) := by simp [List.getD, show i < (b.getD []).length by omega]
      rw [List.take_succ_eq_append_getElem (by omega), List.take_succ_eq_append_getElem (by omega), ht, ← g1, ← g2, h]
  · have hc : ¬ (i : Int) < ((a.getD []).length : Int) := dec_f hc
    obtain rfl : i = (a.getD []).length := by omega
    rw [List.take_of_length_le (Nat.le_refl _), List.take_of_length_le (by omega)] at ht
    exact (decide_eq_true ht).symm

end Go.Proofs.Pf.B

namespace Go.Proofs.Pf.B

open Go Go.VM

abbrev int (l : List Int) (i : Nat) : Int := l.getD i 0

theorem eltS_int {l : Option (List Int)} {i : Nat} : eltS (0 : Int) l (i : Int) = int (l.getD []) i := by simp only [eltS, Int.toNat_natCast]

def preI (l : List Int) : Nat → Int
  | 0 => -1
  | i + 1 => int l i

def setAt (n : Int) (l : List Int) (i : Nat) : Prop := preI l i < int l i ∧ int l i < n

instance (n : Int) (l : List Int) (i : Nat) : Decidable (setAt n l i) := by unfold setAt; infer_instance

def setOk (n : Int) (l : List Int) : Prop := ∀ i, i < l.length → setAt n l i

instance (n : Int) (l : List Int) : Decidable (setOk n l) := by unfold setOk; infer_instance

def strAt (m : List DSt) (l : List Int) (i : Nat) : Prop := 0 ≤ int l i ∧ int l i < cntL (stt m i)

instance (m : List DSt) (l : List Int) (i : Nat) : Decidable (strAt m l i) := by unfold strAt; infer_instance

def strOk (m : DMo) (l : List Int) : Prop := l.length = (m.getD []).length ∧ ∀ i, i < l.length → strAt (m.getD []) l i

instance (m : DMo) (l : List Int) : Decidable (strOk m l) := by unfold strOk; infer_instance

theorem s_Strategy (m : DMo) (l : Option (List Int)) (hl : (l.getD []).length < 4611686018427387904) : callV Pg c_model_Strategy [⟨tMo, m⟩, ⟨tL, l⟩] .bool fun r => r = decide (strOk m (l.getD [])) := by
  refine w_model_Strategy m l ⟨_, rfl⟩ (brV_iff.2 ⟨fun h => ?_, fun h => ?_⟩)
  · have h : ¬ ((l.getD []).length : Int) = ((m.getD []).length : Int) := not_t h
    exact (decide_eq_false fun hq => h (by rw [hq.1])).symm
  have hlen : ((l.getD []).length : Int) = ((m.getD []).length : Int) := not_f h
  refine loopE (fun p => ∃ i : Nat, p = (l, (((l.getD []).length : Int), ((i : Int), m))) ∧ i ≤ (l.getD []).length ∧ ∀ j, j < i → strAt (m.getD []) (l.getD []) j) (fun p => (l.getD []).length - p.2.2.1.toNat) ⟨0, rfl, by omega, fun j h => by omega⟩ ?_
  rintro _ ⟨i, rfl, hi, hall⟩
  dsimp only
  refine brV_iff.2 ⟨fun hc => ?_, fun hc => ?_⟩
  · have hc : (i : Int) < ((l.getD []).length : Int) := dec_t hc
    rw [eltS_int]
    refine ⟨⟨by omega, by omega⟩, joinR (fun p => ∃ b : Bool, p = (l, (((l.getD []).length : Int), ((i : Int), (b, m)))) ∧ (b = true → ¬ strAt (m.getD []) (l.getD []) i) ∧ (b = false → strAt (m.getD []) (l.getD []) i)) ?_ ?_⟩
    · rintro _ ⟨b, rfl, h1, h2⟩
      dsimp only
      refine brV_iff.2 ⟨fun h => (decide_eq_false fun hq => h1 h (hq.2 i (by omega))).symm, fun h => ?_⟩
      rw [wi64 (by omega) (by omega)]
      refine ⟨⟨i + 1, rfl, by omega, fun j hj => ?_⟩, by omega⟩
      rcases Nat.lt_or_ge j i with q | q
      · exact hall j q
      · obtain rfl : j = i := by omega
        exact h2 h
    · intro k hk
      refine brV_iff.2 ⟨fun h => hk _ ⟨true, rfl, fun _ hq => ?_, fun h => by cases h⟩, fun h => ?_⟩
      · have h := dec_t h; have := hq.1; omega
      have e1 := dec_f h
      rw [eltS_st]
      refine ⟨⟨by omega, by omega⟩, hk _ ⟨_, rfl, fun h hq => ?_, fun h => ⟨by omega, ?_⟩⟩⟩
      · have h : cntL (stt (m.getD []) i) ≤ int (l.getD []) i := dec_t h
        have := hq.2; omega
      · have h : ¬ cntL (stt (m.getD []) i) ≤ int (l.getD []) i := dec_f h
        omega
  · have hc : ¬ (i : Int) < ((l.getD []).length : Int) := dec_f hc
    obtain rfl : i = (l.getD []).length := by omega
    exact (decide_eq_true ⟨by omega, hall⟩).symm

def vQ (m : DMo) (b : Bool) : Bool × Int × Unit := if moOk m then (b, 0, ()) else (false, 1, ())

theorem s_ValidStrategy (m : DMo) (l : Option (List Int)) (hl : (l.getD []).length < 4611686018427387904) : callV Pg c_model_ValidStrategy [⟨tMo, m⟩, ⟨tL, l⟩] (.tup (.pair .bool (.pair tI .unit))) fun r => r = vQ m (decide (strOk m (l.getD []))) := by
  refine w_model_ValidStrategy m l ⟨_, rfl⟩ ((s_MValid m).mono ?_)
  rintro _ rfl
  refine brV_iff.2 ⟨fun hb => by rw [vQ, if_neg (not_t hb)], fun hb => (s_Strategy m l hl).mono ?_⟩
  rintro _ rfl
  rw [vQ, if_pos (not_f hb)]

end Go.Proofs.Pf.B

namespace Go.Proofs.Pf.B

open Go Go.VM

def single (m : DMo) : Prop := ∀ i, i < (m.getD []).length → ((stt (m.getD []) i).2.2.getD []).length = 1

instance (m : DMo) : Decidable (single m) := by unfold single; infer_instance

theorem s_IsChain_1 (s : DSt) : callV Pg c_model_IsChain_1 [⟨tSt, s⟩] .bool fun r => r = decide ((1 : Int) < ((s.2.2.getD []).length : Int)) := w_model_IsChain_1 s ⟨_, rfl⟩ rfl

theorem s_IsChain {m : DMo} (h : moOk m) : callV Pg c_model_IsChain [⟨tMo, m⟩] .bool fun r => r = decide (single m) := by
  have h40 := h.1
  refine w_model_IsChain m ⟨_, rfl⟩ (w_slices_ContainsFuncapi_Stateapi_State m () ⟨!decide (single m), by cases decide (single m) <;> rfl⟩ ?_)
  have key : callV Pg c_slices_IndexFuncapi_Stateapi_State [⟨.sl tSt, m⟩, ⟨.cst (.fn c_model_IsChain_1), ()⟩] tI fun r => notB (decide (0 ≤ r)) = decide (single m) := by
    refine w_slices_IndexFuncapi_Stateapi_State m () ?_ (loopE (fun p => ∃ i : Nat, p = (m, (((m.getD []).length : Int), (i : Int))) ∧ i ≤ (m.getD []).length ∧ ∀ j, j < i → ((stt (m.getD []) j).2.2.getD []).length = 1) (fun p => (m.getD []).length - p.2.2.toNat) ⟨0, rfl, by omega, fun j hj => by omega⟩ ?_)
    · by_cases g : single m
      · exact ⟨-1, by rw [decide_eq_true g]; rfl⟩
      · exact ⟨0, by rw [decide_eq_false g]; rfl⟩
    rintro _ ⟨i, rfl, hi, hall⟩
    dsimp only
    refine brV_iff.2 ⟨fun hc => ?_, fun hc => ?_⟩
    · have hc : (i : Int) < ((m.getD []).length : Int) := dec_t hc
      rw [eltS_st]
      have hb := (h.2 i (by omega)).1.2.2
      refine ⟨⟨by omega, by omega⟩, (s_IsChain_1 (stt (m.getD []) i)).mono ?_⟩
      rintro _ rfl
      refine brV_iff.2 ⟨fun hd => ?_, fun hd => ?_⟩
      · have hd : (1 : Int) < (((stt (m.getD []) i).2.2.getD []).length : Int) := dec_t hd
        have g : ¬ single m := fun g => by have := g i (by omega); omega
        rw [decide_eq_false g, decide_eq_true (show (0 : Int) ≤ (i : Int) by omega)]; rfl
      · have hd : ¬ (1 : Int) < (((stt (m.getD []) i).2.2.getD []).length : Int) := dec_f hd
        rw [wi64 (by omega) (by omega)]
        refine ⟨⟨i + 1, rfl, by omega, fun j hj => ?_⟩, by omega⟩
        rcases Nat.lt_or_ge j i with q | q
        · exact hall j q
        · obtain rfl : j = i := by omega
          omega
    · have hc : ¬ (i : Int) < ((m.getD []).length : Int) := dec_f hc
      obtain rfl : i = (m.getD []).length := by omega
      rw [decide_eq_true (show single m from hall)]; rfl
  exact key.mono fun r hr => hr

theorem s_Chain (m : DMo) : callV Pg c_model_Chain [⟨tMo, m⟩] (.tup (.pair .bool (.pair tI .unit))) fun r => r = vQ m (decide (single m)) := by
  refine w_model_Chain m ⟨_, rfl⟩ ((s_MValid m).mono ?_)
  rintro _ rfl
  refine brV_iff.2 ⟨fun hb => by rw [vQ, if_neg (not_t hb)], fun hb => (s_IsChain (not_f hb)).mono ?_⟩
  rintro _ rfl
  rw [vQ, if_pos (not_f hb)]

end Go.Proofs.Pf.B

namespace Go.Proofs.Pf.B

open Go Go.VM

def evenB (l : List DBr) : Prop := ∀ k, k < l.length → Int.tmod 12 (br l k).2.2 = 0

instance (l : List DBr) : Decidable (evenB l) := by unfold evenB; infer_instance

def easyCh (c : DCh) : Prop := c.1.2 = 1 ∧ c.1.1 ≤ 100 ∧ -100 ≤ c.1.1 ∧ evenB (c.2.getD [])

instance (c : DCh) : Decidable (easyCh c) := by unfold easyCh; infer_instance

def easyS (s : DSt) : Prop := ∀ j, j < (s.2.2.getD []).length → easyCh (ch (s.2.2.getD []) j)

instance (s : DSt) : Decidable (easyS s) := by unfold easyS; infer_instance

def plainM (m : DMo) : Prop := (∀ i, i < (m.getD []).length → easyS (stt (m.getD []) i)) ∧ (m.getD []).length ≤ 8

instance (m : DMo) : Decidable (plainM m) := by unfold plainM; infer_instance

end Go.Proofs.Pf.B

namespace Go.Proofs.Pf.B

open Go Go.VM

def fewSt (s : DSt) : Prop := (s.2.2.getD []).length ≤ 10 ∧ ∀ j, j < (s.2.2.getD []).length → ((ch (s.2.2.getD []) j).2.getD []).length ≤ 10

def fewOk (m : DMo) : Prop := (m.getD []).length ≤ 45 ∧ ∀ i, i < (m.getD []).length → fewSt (stt (m.getD []) i)

theorem r_Few2 (n : Int) (m : DMo) : callV Pg c_ref04_Few [⟨tI, n⟩, ⟨tMo, m⟩] .bool fun r => r = true → fewOk m := by
  refine w_ref04_Few n m ⟨false, fun h => by cases h⟩ (joinR (fun p => ∃ b : Bool, p = (b, m) ∧ (b = false → (m.getD []).length ≤ 45)) ?_ ?_)
  · rintro _ ⟨b, rfl, hb⟩
    dsimp only
    refine brV_iff.2 ⟨fun _ h => (by cases h), fun h => ?_⟩
    have hb := hb h
    refine loopE (fun p => ∃ i : Nat, p = (m, (((m.getD []).length : Int), (i : Int))) ∧ i ≤ (m.getD []).length ∧ ∀ j, j < i → fewSt (stt (m.getD []) j)) (fun p => (m.getD []).length - p.2.2.toNat) ⟨0, rfl, by omega, fun j h => by omega⟩ ?_
    rintro _ ⟨i, rfl, hi, hall⟩
    dsimp only
    refine brV_iff.2 ⟨fun hc => ?_, fun hc _ => ?_⟩
    · have hc : (i : Int) < ((m.getD []).length : Int) := dec_t hc
      rw [eltS_st]
      refine ⟨⟨by omega, by omega⟩, brV_iff.2 ⟨fun _ h => (by cases h), fun h10 => ?_⟩⟩
      have h10 : ¬ (10 : Int) < (((stt (m.getD []) i).2.2.getD []).length : Int) := dec_f h10
      refine loopE (fun p => ∃ j : Nat, p = (m, (((m.getD []).length : Int), ((i : Int), ((stt (m.getD []) i).2.2, ((((stt (m.getD []) i).2.2.getD []).length : Int), (j : Int)))))) ∧ j ≤ ((stt (m.getD []) i).2.2.getD []).length ∧ ∀ k, k < j → ((ch ((stt (m.getD []) i).2.2.getD []) k).2.getD []).length ≤ 10)
        (fun p => ((stt (m.getD []) i).2.2.getD []).length - p.2.2.2.2.2.toNat) ⟨0, rfl, by omega, fun j h => by omega⟩ ?_
      rintro _ ⟨j, rfl, hj, hall2⟩
      dsimp only
      refine brV_iff.2 ⟨fun hd => ?_, fun hd => ?_⟩
      · have hd : (j : Int) < (((stt (m.getD []) i).2.2.getD []).length : Int) := dec_t hd
        rw [eltS_ch]
        refine ⟨⟨by omega, by omega⟩, brV_iff.2 ⟨fun _ h => (by cases h), fun he => ?_⟩⟩
        have he : ¬ (10 : Int) < (((ch ((stt (m.getD []) i).2.2.getD []) j).2.getD []).length : Int) := dec_f he
        rw [wi64 (by omega) (by omega)]
        refine ⟨⟨j + 1, rfl, by omega, fun k hk => ?_⟩, by omega⟩
        rcases Nat.lt_or_ge k j with q | q
        · exact hall2 k q
        · obtain rfl : k = j := by omega
          omega
      · have hd : ¬ (j : Int) < (((stt (m.getD []) i).2.2.getD []).length : Int) := dec_f hd
        obtain rfl : j = ((stt (m.getD []) i).2.2.getD []).length := by omega
        rw [wi64 (by omega) (by omega)]
        refine ⟨⟨i + 1, rfl, by omega, fun k hk => ?_⟩, by omega⟩
        rcases Nat.lt_or_ge k i with q | q
        · exact hall k q
        · obtain rfl : k = i := by omega
          exact ⟨by omega, hall2⟩
    · have hc : ¬ (i : Int) < ((m.getD []).length : Int) := dec_f hc
      obtain rfl : i = (m.getD []).length := by omega
      exact ⟨hb, hall⟩
  · intro k hk
    have fin : k ((decide ((45 : Int) < szSl m)), m) := hk _ ⟨_, rfl, fun h => by have h : ¬ (45 : Int) < ((m.getD []).length : Int) := dec_f h; omega⟩
    refine brV_iff.2 ⟨fun _ => brV_iff.2 ⟨fun _ => hk _ ⟨true, rfl, fun h => by cases h⟩, fun _ => fin⟩, fun _ => fin⟩

theorem s_few2 (l : List DMo) (hl : l.length ≤ 10) : callV Pg c_law04_few [⟨.sl tMo, some l⟩] .bool fun r => r = true → ∀ i, i < l.length → fewOk (l.getD i none) := by
  refine w_law04_few (some l) ⟨false, fun h => by cases h⟩ (loopE (fun p => ∃ i : Nat, p = (some l, ((l.length : Int), (i : Int))) ∧ i ≤ l.length ∧ ∀ j, j < i → fewOk (l.getD j none)) (fun p => l.length - p.2.2.toNat) ⟨0, rfl, by omega, fun j h => by omega⟩ ?_)
  rintro _ ⟨i, rfl, hi, hall⟩
  dsimp only
  refine brV_iff.2 ⟨fun hc => ?_, fun hc _ => ?_⟩
  · have hc : (i : Int) < (l.length : Int) := dec_t hc
    refine ⟨⟨by omega, by simpa using hc⟩, (r_Few2 40 _).mono fun p hp => brV_iff.2 ⟨fun _ h => (by cases h), fun hb => ?_⟩⟩
    rw [wi64 (by omega) (by omega)]
    refine ⟨⟨i + 1, rfl, by omega, fun j hj => ?_⟩, by omega⟩
    rcases Nat.lt_or_ge j i with q | q
    · exact hall j q
    · obtain rfl : j = i := by omega
      have hp := hp (by cases p <;> simp [notB] at hb ⊢)
      simpa only [eltS, Option.getD_some, Int.toNat_natCast] using hp
  · have hc : ¬ (i : Int) < (l.length : Int) := dec_f hc
    obtain rfl : i = l.length := by omega
    exact hall

def chEq (c d : DCh) : Prop := c.1 = d.1 ∧ c.2.getD [] = d.2.getD []

instance (c d : DCh) : Decidable (chEq c d) := by unfold chEq; infer_instance

def stEq (s t : DSt) : Prop := s.1 = t.1 ∧ s.2.1 = t.2.1 ∧ (s.2.2.getD []).length = (t.2.2.getD []).length ∧ ∀ j, j < (s.2.2.getD []).length → chEq (ch (s.2.2.getD []) j) (ch (t.2.2.getD []) j)

instance (s t : DSt) : Decidable (stEq s t) := by unfold stEq; infer_instance

def moEq (a b : DMo) : Prop := (a.getD []).length = (b.getD []).length ∧ ∀ i, i < (a.getD []).length → stEq (stt (a.getD []) i) (stt (b.getD []) i)

instance (a b : DMo) : Decidable (moEq a b) := by unfold moEq; infer_instance

theorem num_eq (x y : Int × Int) : andB (decide (x.1 = y.1)) (andB (decide (x.2 = y.2)) true) = decide (x = y) := by
  obtain ⟨a, b⟩ := x; obtain ⟨c, d⟩ := y
  by_cases h : a = c <;> by_cases g : b = d <;> simp [andB, h, g]

theorem br_eq (x y : DBr) : andB (decide (x.1 = y.1)) (andB (andB (decide (x.2.1 = y.2.1)) (andB (decide (x.2.2 = y.2.2)) true)) true) = decide (x = y) := by
  rw [num_eq]
  obtain ⟨a, b⟩ := x; obtain ⟨c, d⟩ := y
  by_cases h : a = c <;> by_cases g : b = d <;> simp [andB, h, g]

theorem list_eq {l r : List DBr} (hl : l.length = r.length) (h : ∀ k, k < l.length → br l k = br r k) : l = r := by
  apply List.ext_getElem hl
  intro i h1 h2
  have := h i h1
  simpa [br, List.getD, h1, h2] using this

end Go.Proofs.Pf.B

namespace Go.Proofs.Pf.B

open Go Go.VM

theorem r_Identical (a b : DMo) (ha : fewOk a) : callV Pg c_ref04_Identical [⟨tMo, a⟩, ⟨tMo, b⟩] .bool fun r => r = decide (moEq a b) := by
  refine w_ref04_Identical a b ⟨_, rfl⟩ (brV_iff.2 ⟨fun h => ?_, fun h => ?_⟩)
  · have h : ¬ ((a.getD []).length : Int) = ((b.getD []).length : Int) := not_t h
    exact (decide_eq_false fun e : moEq a b => h (by rw [e.1])).symm
  have hl : ((a.getD []).length : Int) = ((b.getD []).length : Int) := not_f h
  have h45 := ha.1
  refine loopE (fun p => ∃ i : Nat, p = (a, (((a.getD []).length : Int), ((i : Int), b))) ∧ i ≤ (a.getD []).length ∧ ∀ j, j < i → stEq (stt (a.getD []) j) (stt (b.getD []) j)) (fun p => (a.getD []).length - p.2.2.1.toNat) ⟨0, rfl, by omega, fun j h => by omega⟩ ?_
  rintro _ ⟨i, rfl, hi, hall⟩
  dsimp only
  refine brV_iff.2 ⟨fun hc => ?_, fun hc => ?_⟩
  · have hc : (i : Int) < ((a.getD []).length : Int) := dec_t hc
    rw [eltS_st, eltS_st]
    generalize hs : stt (a.getD []) i = s
    generalize ht : stt (b.getD []) i = t
    obtain ⟨f1, f2⟩ : fewSt s := hs ▸ ha.2 i (by omega)
    have no : ¬ stEq s t → ¬ moEq a b := fun q e => q (hs ▸ ht ▸ e.2 i (by omega))
    refine ⟨⟨by omega, by omega⟩, ⟨by omega, by omega⟩, joinR (fun p => ∃ q : Bool, p = (a, (((a.getD []).length : Int), ((i : Int), (q, (b, (s, t)))))) ∧ (q = true → ¬ stEq s t) ∧ (q = false → s.1 = t.1 ∧ s.2.1 = t.2.1 ∧ (s.2.2.getD []).length = (t.2.2.getD []).length)) ?_ ?_⟩
    · rintro _ ⟨q, rfl, h1, h2⟩
      dsimp only
      refine brV_iff.2 ⟨fun hq => (decide_eq_false (no (h1 hq))).symm, fun hq => ?_⟩
      obtain ⟨g1, g2, g3⟩ := h2 hq
      refine loopE (fun p => ∃ j : Nat, p = (a, (((a.getD []).length : Int), ((i : Int), (s.2.2, (((s.2.2.getD []).length : Int), ((j : Int), (b, t))))))) ∧ j ≤ (s.2.2.getD []).length ∧ ∀ k, k < j → chEq (ch (s.2.2.getD []) k) (ch (t.2.2.getD []) k))
        (fun p => (s.2.2.getD []).length - p.2.2.2.2.2.1.toNat) ⟨0, rfl, by omega, fun j h => by omega⟩ ?_
      rintro _ ⟨j, rfl, hj, hall2⟩
      dsimp only
      refine brV_iff.2 ⟨fun hd => ?_, fun hd => ?_⟩
      · have hd : (j : Int) < ((s.2.2.getD []).length : Int) := dec_t hd
        rw [eltS_ch, eltS_ch, num_eq]
        generalize hcc : ch (s.2.2.getD []) j = c
        generalize hdd : ch (t.2.2.getD []) j = d
        have f3 : (c.2.getD []).length ≤ 10 := hcc ▸ f2 j (by omega)
        have no2 : ¬ chEq c d → ¬ moEq a b := fun q => no fun e => q (hcc ▸ hdd ▸ e.2.2.2 j (by omega))
        refine ⟨⟨by omega, by omega⟩, ⟨by omega, by omega⟩, joinR (fun p => ∃ q : Bool, p = (a, (((a.getD []).length : Int), ((i : Int), (s.2.2, (((s.2.2.getD []).length : Int), ((j : Int), (q, (b, (t, (c, d)))))))))) ∧ (q = true → ¬ chEq c d) ∧ (q = false → c.1 = d.1 ∧ (c.2.getD []).length = (d.2.getD []).length)) ?_ ?_⟩
        · rintro _ ⟨q, rfl, k1, k2⟩
          dsimp only
          refine brV_iff.2 ⟨fun hq => (decide_eq_false (no2 (k1 hq))).symm, fun hq => ?_⟩
          obtain ⟨e1, e2⟩ := k2 hq
          refine loopE (fun p => ∃ k : Nat, p = (a, (((a.getD []).length : Int), ((i : Int), (s.2.2, (((s.2.2.getD []).length : Int), ((j : Int), (c.2, (((c.2.getD []).length : Int), ((k : Int), (b, (t, d))))))))))) ∧ k ≤ (c.2.getD []).length ∧ ∀ q, q < k → br (c.2.getD []) q = br (d.2.getD []) q)
            (fun p => (c.2.getD []).length - p.2.2.2.2.2.2.2.2.1.toNat) ⟨0, rfl, by omega, fun j h => by omega⟩ ?_
          rintro _ ⟨k, rfl, hk, hall3⟩
          dsimp only
          refine brV_iff.2 ⟨fun he => ?_, fun he => ?_⟩
          · have he : (k : Int) < ((c.2.getD []).length : Int) := dec_t he
            rw [eltS_br, eltS_br, br_eq]
            refine ⟨⟨by omega, by omega⟩, ⟨by omega, by omega⟩, brV_iff.2 ⟨fun hf => ?_, fun hf => ?_⟩⟩
            · exact (decide_eq_false (no2 fun e => not_t hf (by rw [e.2]))).symm
            · have hf := not_f hf
              rw [wi64 (by omega) (by omega)]
              refine ⟨⟨k + 1, rfl, by omega, fun q hq => ?_⟩, by omega⟩
              rcases Nat.lt_or_ge q k with z | z
              · exact hall3 q z
              · obtain rfl : q = k := by omega
                exact hf
          · have he : ¬ (k : Int) < ((c.2.getD []).length : Int) := dec_f he
            obtain rfl : k = (c.2.getD []).length := by omega
            rw [wi64 (by omega) (by omega)]
            refine ⟨⟨j + 1, rfl, by omega, fun q hq => ?_⟩, by omega⟩
            rcases Nat.lt_or_ge q j with z | z
            · exact hall2 q z
            · obtain rfl : q = j := by omega
              rw [hcc, hdd]; exact ⟨e1, list_eq e2 hall3⟩
        · intro k hk
          refine brV_iff.2 ⟨fun g => hk _ ⟨true, rfl, fun _ e => not_t g e.1, fun h => by cases h⟩, fun g => ?_⟩
          have g := not_f g
          refine hk _ ⟨_, rfl, fun h e => ?_, fun h => ⟨g, ?_⟩⟩
          · have h : ¬ ((c.2.getD []).length : Int) = ((d.2.getD []).length : Int) := not_t h
            exact h (by rw [e.2])
          · have h : ((c.2.getD []).length : Int) = ((d.2.getD []).length : Int) := not_f h
            omega
      · have hd : ¬ (j : Int) < ((s.2.2.getD []).length : Int) := dec_f hd
        obtain rfl : j = (s.2.2.getD []).length := by omega
        rw [wi64 (by omega) (by omega)]
        refine ⟨⟨i + 1, rfl, by omega, fun k hk => ?_⟩, by omega⟩
        rcases Nat.lt_or_ge k i with q | q
        · exact hall k q
        · obtain rfl : k = i := by omega
          rw [hs, ht]; exact ⟨g1, g2, g3, hall2⟩
    · intro k hk
      refine brV_iff.2 ⟨fun g => hk _ ⟨true, rfl, fun _ e => not_t g e.1, fun h => by cases h⟩, fun g1 => ?_⟩
      refine brV_iff.2 ⟨fun g => hk _ ⟨true, rfl, fun _ e => not_t g e.2.1, fun h => by cases h⟩, fun g2 => ?_⟩
      refine hk _ ⟨_, rfl, fun h e => ?_, fun h => ⟨not_f g1, not_f g2, ?_⟩⟩
      · have h : ¬ ((s.2.2.getD []).length : Int) = ((t.2.2.getD []).length : Int) := not_t h
        exact h (by rw [e.2.2.1])
      · have h : ((s.2.2.getD []).length : Int) = ((t.2.2.getD []).length : Int) := not_f h
        omega
  · have hc : ¬ (i : Int) < ((a.getD []).length : Int) := dec_f hc
    obtain rfl : i = (a.getD []).length := by omega
    exact (decide_eq_true (show moEq a b from ⟨by omega, hall⟩)).symm

theorem eqB_self (b : Bool) : eqB b b = true := by cases b <;> rfl

theorem br_t {b : Bool} {A B : Prop} (h : b = true) (hA : A) : brV b A B := by subst h; exact hA

end Go.Proofs.Pf.B

namespace Go.Proofs.Pf.B

open Go Go.VM

abbrev cho (s : DSt) : List DCh := s.2.2.getD []

/-- Some of the first `n` choices. -/
def filt (g : Nat → Bool) (l : List DCh) (n : Nat) : List DCh := ((List.range n).filter g).map (ch l)

theorem filt_succ (g : Nat → Bool) (l : List DCh) (n : Nat) : filt g l (n + 1) = filt g l n ++ (if g n = true then [ch l n] else []) := by
  unfold filt
  rw [List.range_succ, List.filter_append, List.map_append]
  congr 1
  by_cases h : g n = true
  · rw [if_pos h]; simp [h]
  · rw [if_neg h]; simp [h]

theorem filt_len (g : Nat → Bool) (l : List DCh) (n : Nat) : (filt g l n).length ≤ n := by
  unfold filt
  rw [List.length_map]
  exact Nat.le_trans (List.length_filter_le _ _) (by simp)

def keptS (g : Nat → Bool) (s : DSt) : DSt := (s.1, (s.2.1, optL (filt g (cho s) (cho s).length)))

def keptL (g : Nat → Nat → Bool) (l : List DSt) (n : Nat) : List DSt := tab (fun i => keptS (g i) (stt l i)) n

theorem keptL_succ (g : Nat → Nat → Bool) (l : List DSt) (n : Nat) : keptL g l (n + 1) = keptL g l n ++ [keptS (g n) (stt l n)] := tab_succ _ _

theorem keptL_len (g : Nat → Nat → Bool) (l : List DSt) (n : Nat) : (keptL g l n).length = n := tab_len _ _

def gFix (l : DL) (i k : Nat) : Bool := decide (int (l.getD []) i = (k : Int))

def gFor (m : DMo) (l : DL) (pl : Int) (i k : Nat) : Bool := !decide ((stt (m.getD []) i).1 = pl) || decide (int (l.getD []) i = (k : Int))

/-- A model with the choices that `g` keeps. -/
def keptM (g : Nat → Nat → Bool) (m : DMo) : DMo := optL (keptL g (m.getD []) (m.getD []).length)

theorem s_Own (c : DCh) (h : (c.2.getD []).length ≤ 1000) : callV Pg c_model_Own [⟨tCh, c⟩] tCh fun r => r = c := by
  refine w_model_Own c ⟨_, rfl⟩ (w_slices_Cloneapi_Branchapi_Branch c.2 ?_ (br_c (fun hb => ?_) fun hb => ?_))
  · exact ⟨c.2, rfl⟩
  · obtain ⟨x, y⟩ := c
    cases y with
    | none => rfl
    | some y => cases hb
  · obtain ⟨x, y⟩ := c
    cases y with
    | none => cases hb
    | some y =>
      refine ⟨?_, rfl⟩
      show (0 + y.length) * 24 ≤ 140737488355328
      have h : y.length ≤ 1000 := h
      omega

/-- A model that is small enough to be copied. -/
def smallM (m : DMo) : Prop := (m.getD []).length ≤ 1000 ∧ ∀ i, i < (m.getD []).length → (cho (stt (m.getD []) i)).length ≤ 1000 ∧ ∀ j, j < (cho (stt (m.getD []) i)).length → ((ch (cho (stt (m.getD []) i)) j).2.getD []).length ≤ 1000

theorem moOk.small {m : DMo} (h : moOk m) : smallM m := by
  refine ⟨by have := h.1; omega, fun i hi => ⟨by have := (h.2 i hi).1.2.2; show ((stt (m.getD []) i).2.2.getD []).length ≤ 1000; omega, fun j hj => ?_⟩⟩
  have := ((h.2 i hi).2 j hj).2.1
  show ((ch ((stt (m.getD []) i).2.2.getD []) j).2.getD []).length ≤ 1000
  omega

theorem fewOk.small {m : DMo} (h : fewOk m) : smallM m := by
  refine ⟨by have := h.1; omega, fun i hi => ⟨by have := (h.2 i hi).1; show ((stt (m.getD []) i).2.2.getD []).length ≤ 1000; omega, fun j hj => ?_⟩⟩
  have := (h.2 i hi).2 j hj
  show ((ch ((stt (m.getD []) i).2.2.getD []) j).2.getD []).length ≤ 1000
  omega

theorem s_KeptFixed (m : DMo) (l : DL) (hm : smallM m) (hl : (l.getD []).length = (m.getD []).length) : callV Pg c_model_Kept [⟨tMo, m⟩, ⟨(.clo c_model_Fixed_1 (.pair (.fref tL) .unit)), (l, ())⟩] tMo fun r => r = keptM (gFix l) m := by
  obtain ⟨hm1, hm2⟩ := hm
  refine w_model_Kept_Fixed m (l, ()) ⟨_, rfl⟩ (rangeB (n := (m.getD []).length) (fun i x => ((l, ()), (m, (((m.getD []).length : Int), ((i : Int), (none, ((), x))))))) (fun i x => x = optL (keptL (gFix l) (m.getD []) i)) none rfl rfl (fun p => p.2.2.2.1.toNat) (fun _ _ => rfl) (fun _ _ _ => rfl) ?_ ?_)
  · intro k i x hi hx hk
    dsimp only
    subst hx
    rw [eltS_st]
    obtain ⟨hc, hbr⟩ := hm2 i hi
    generalize hs : stt (m.getD []) i = s at *
    refine ⟨in_s hi, rangeB (n := (cho s).length) (fun j y => ((l, ()), ((i : Int), (m, (((m.getD []).length : Int), ((i : Int), (s.2.2, (((cho s).length : Int), ((j : Int), (none, ((), ((s.1, (s.2.1, ())), (optL (keptL (gFix l) (m.getD []) i), y))))))))))))) (fun j y => y = optL (filt ((gFix l) i) (cho s) j)) none rfl rfl (fun p => p.2.2.2.2.2.2.2.1.toNat) (fun _ _ => rfl) (fun _ _ _ => rfl) ?_ ?_⟩
    · intro k2 j y hj hy hk2
      dsimp only
      subst hy
      rw [eltS_ch]
      refine ⟨in_s hj, (w_model_Fixed_1 _ _ l ⟨_, rfl⟩ ⟨in_s (by rw [hl]; exact hi), by rw [eltS_int]; rfl⟩ : callV Pg c_model_Fixed_1 [⟨tI, (i : Int)⟩, ⟨tI, (j : Int)⟩, ⟨(.fref tL), l⟩] .bool fun r => r = gFix l i j).mono ?_⟩
      intro b hb
      subst hb
      refine joinE (br_c (fun hb => ?_) fun hb => ?_)
      · refine (s_Own _ (hbr j hj)).mono ?_
        rintro _ rfl
        have hl := filt_len ((gFix l) i) (cho s) j
        refine ⟨?_, ?_⟩
        · show (((optL (filt ((gFix l) i) (cho s) j)).getD []).length + 1) * 40 ≤ 140737488355328
          rw [optL_get]; omega
        · dsimp only
          rw [wi1 hj (by omega)]
          refine hk2 _ ?_
          show appL (optL (filt ((gFix l) i) (cho s) j)) [ch (cho s) j] = _
          rw [optL_app, filt_succ, if_pos hb]
      · dsimp only
        rw [wi1 hj (by omega)]
        refine hk2 _ ?_
        rw [filt_succ, if_neg (by rw [hb]; exact Bool.false_ne_true), List.append_nil]
    · intro k2 y hy
      dsimp only
      subst hy
      refine ⟨?_, ?_⟩
      · show (((optL (keptL (gFix l) (m.getD []) i)).getD []).length + 1) * 40 ≤ 140737488355328
        rw [optL_get, keptL_len]; omega
      · rw [wi1 hi (by omega)]
        refine hk _ ?_
        show appL (optL (keptL (gFix l) (m.getD []) i)) [(s.1, (s.2.1, optL (filt ((gFix l) i) (cho s) (cho s).length)))] = _
        rw [optL_app, keptL_succ, hs]; rfl
  · intro k x hx
    subst hx
    rfl

theorem s_FixedFor1 (m : DMo) (l : DL) (pl : Int) (i j : Nat) (hi : i < (m.getD []).length) (hl : i < (l.getD []).length) :
    callV Pg c_model_FixedFor_1 [⟨tI, (i : Int)⟩, ⟨tI, (j : Int)⟩, ⟨(.fref tMo), m⟩, ⟨(.fref tI), pl⟩, ⟨(.fref tL), l⟩] .bool fun r => r = gFor m l pl i j := by
  refine w_model_FixedFor_1 _ _ m pl l ⟨_, rfl⟩ (joinE ⟨in_s hi, br_c (fun hb => ?_) fun hb => ⟨in_s hl, ?_⟩⟩)
  · rw [eltS_st] at hb
    show true = _
    rw [gFor, show (!decide ((stt (m.getD []) i).1 = pl)) = true from hb]; rfl
  · rw [eltS_st] at hb
    rw [eltS_int, gFor, show (!decide ((stt (m.getD []) i).1 = pl)) = false from hb]; rfl

theorem s_KeptFixedFor (m : DMo) (l : DL) (pl : Int) (hm : smallM m) (hl : (l.getD []).length = (m.getD []).length) : callV Pg c_model_Kept [⟨tMo, m⟩, ⟨(.clo c_model_FixedFor_1 (.pair (.fref tMo) (.pair (.fref tI) (.pair (.fref tL) .unit)))), (m, (pl, (l, ())))⟩] tMo fun r => r = keptM (gFor m l pl) m := by
  obtain ⟨hm1, hm2⟩ := hm
  refine w_model_Kept_FixedFor m (m, (pl, (l, ()))) ⟨_, rfl⟩ (rangeB (n := (m.getD []).length) (fun i x => ((m, (pl, (l, ()))), (m, (((m.getD []).length : Int), ((i : Int), (none, ((), x))))))) (fun i x => x = optL (keptL (gFor m l pl) (m.getD []) i)) none rfl rfl (fun p => p.2.2.2.1.toNat) (fun _ _ => rfl) (fun _ _ _ => rfl) ?_ ?_)
  · intro k i x hi hx hk
    dsimp only
    subst hx
    rw [eltS_st]
    obtain ⟨hc, hbr⟩ := hm2 i hi
    generalize hs : stt (m.getD []) i = s at *
    refine ⟨in_s hi, rangeB (n := (cho s).length) (fun j y => ((m, (pl, (l, ()))), ((i : Int), (m, (((m.getD []).length : Int), ((i : Int), (s.2.2, (((cho s).length : Int), ((j : Int), (none, ((), ((s.1, (s.2.1, ())), (optL (keptL (gFor m l pl) (m.getD []) i), y))))))))))))) (fun j y => y = optL (filt ((gFor m l pl) i) (cho s) j)) none rfl rfl (fun p => p.2.2.2.2.2.2.2.1.toNat) (fun _ _ => rfl) (fun _ _ _ => rfl) ?_ ?_⟩
    · intro k2 j y hj hy hk2
      dsimp only
      subst hy
      rw [eltS_ch]
      refine ⟨in_s hj, (s_FixedFor1 m l pl i j hi (by rw [hl]; exact hi)).mono ?_⟩
      intro b hb
      subst hb
      refine joinE (br_c (fun hb => ?_) fun hb => ?_)
      · refine (s_Own _ (hbr j hj)).mono ?_
        rintro _ rfl
        have hl := filt_len ((gFor m l pl) i) (cho s) j
        refine ⟨?_, ?_⟩
        · show (((optL (filt ((gFor m l pl) i) (cho s) j)).getD []).length + 1) * 40 ≤ 140737488355328
          rw [optL_get]; omega
        · dsimp only
          rw [wi1 hj (by omega)]
          refine hk2 _ ?_
          show appL (optL (filt ((gFor m l pl) i) (cho s) j)) [ch (cho s) j] = _
          rw [optL_app, filt_succ, if_pos hb]
      · dsimp only
        rw [wi1 hj (by omega)]
        refine hk2 _ ?_
        rw [filt_succ, if_neg (by rw [hb]; exact Bool.false_ne_true), List.append_nil]
    · intro k2 y hy
      dsimp only
      subst hy
      refine ⟨?_, ?_⟩
      · show (((optL (keptL (gFor m l pl) (m.getD []) i)).getD []).length + 1) * 40 ≤ 140737488355328
        rw [optL_get, keptL_len]; omega
      · rw [wi1 hi (by omega)]
        refine hk _ ?_
        show appL (optL (keptL (gFor m l pl) (m.getD []) i)) [(s.1, (s.2.1, optL (filt ((gFor m l pl) i) (cho s) (cho s).length)))] = _
        rw [optL_app, keptL_succ, hs]; rfl
  · intro k x hx
    subst hx
    rfl

end Go.Proofs.Pf.B

namespace Go.Proofs.Pf.B

open Go Go.VM

abbrev n_ (m : DMo) : Nat := (m.getD []).length

abbrev sm (m : DMo) (i : Nat) : DSt := stt (m.getD []) i

/-- The model with the given states. -/
abbrev tabM (f : Nat → DSt) (n : Nat) : DMo := optL (tab f n)

theorem tabM_n (f : Nat → DSt) (n : Nat) : n_ (tabM f n) = n := by show ((optL (tab f n)).getD []).length = n; rw [optL_get, tab_len]

theorem tabM_s (f : Nat → DSt) {n i : Nat} (h : i < n) : sm (tabM f n) i = f i := by show stt ((optL (tab f n)).getD []) i = f i; rw [optL_get]; exact tab_get f n i _ h

theorem tabM_len (f : Nat → DSt) (n : Nat) : ((tabM f n).getD []).length = n := tabM_n f n

theorem keptM_tab (g : Nat → Nat → Bool) (m : DMo) : keptM g m = tabM (fun i => keptS (g i) (sm m i)) (n_ m) := rfl

theorem chEq.ok {n : Int} {c d : DCh} (h : chEq c d) (hd : chOk n d) : chOk n c := by
  unfold chOk at *; rw [h.1, h.2]; exact hd

theorem chEq.symm {c d : DCh} (h : chEq c d) : chEq d c := ⟨h.1.symm, h.2.symm⟩

theorem stEq.symm {s t : DSt} (h : stEq s t) : stEq t s := ⟨h.1.symm, h.2.1.symm, h.2.2.1.symm, fun j hj => (h.2.2.2 j (by rw [h.2.2.1]; exact hj)).symm⟩

theorem moEq.symm {a b : DMo} (h : moEq a b) : moEq b a := ⟨h.1.symm, fun i hi => (h.2 i (by rw [h.1]; exact hi)).symm⟩

theorem stEq.ok {n : Int} {s t : DSt} (h : stEq s t) (ht : stOk n t) : stOk n s := by
  obtain ⟨h1, h2, h3, h4⟩ := h
  obtain ⟨t1, t2⟩ := ht
  refine ⟨?_, fun j hj => (h4 j hj).ok (t2 j (by rw [← h3]; exact hj))⟩
  unfold stHead at *
  rw [h1, h2, h3]; exact t1

theorem moEq.ok {a b : DMo} (h : moEq a b) (hb : moOk b) : moOk a := by
  refine ⟨by rw [h.1]; exact hb.1, fun i hi => ?_⟩
  rw [h.1]
  exact (h.2 i hi).ok (hb.2 i (by rw [← h.1]; exact hi))

theorem moEq.str {a b : DMo} (h : moEq a b) {l : List Int} (hb : strOk b l) : strOk a l := by
  refine ⟨by rw [h.1]; exact hb.1, fun i hi => ?_⟩
  have h1 := hb.2 i hi
  have h2 := (h.2 i (by rw [h.1, ← hb.1]; exact hi)).2.2.1
  unfold strAt at *
  rw [show cntL (stt (a.getD []) i) = cntL (stt (b.getD []) i) from congrArg Nat.cast h2]; exact h1

theorem stEq.refl (s : DSt) : stEq s s := ⟨rfl, rfl, rfl, fun _ _ => ⟨rfl, rfl⟩⟩

theorem moEq.refl (m : DMo) : moEq m m := ⟨rfl, fun _ _ => stEq.refl _⟩

theorem chEq.trans {c d e : DCh} (h : chEq c d) (g : chEq d e) : chEq c e := ⟨h.1.trans g.1, h.2.trans g.2⟩

theorem stEq.trans {s t u : DSt} (h : stEq s t) (g : stEq t u) : stEq s u :=
  ⟨h.1.trans g.1, h.2.1.trans g.2.1, h.2.2.1.trans g.2.2.1, fun j hj => (h.2.2.2 j hj).trans (g.2.2.2 j (by rw [← h.2.2.1]; exact hj))⟩

theorem moEq.trans {a b c : DMo} (h : moEq a b) (g : moEq b c) : moEq a c := ⟨h.1.trans g.1, fun i hi => (h.2 i hi).trans (g.2 i (by rw [← h.1]; exact hi))⟩

theorem tab_set {α : Type} (f : Nat → α) (n i : Nat) (y : α) : (tab f n).set i y = tab (fun j => if j = i then y else f j) n := by
  apply List.ext_getElem?
  intro j
  simp only [List.getElem?_set, tab, List.getElem?_map, List.length_map, List.length_range]
  rcases Nat.lt_or_ge j n with h | h
  · rw [List.getElem?_range h]
    simp only [Option.map_some]
    by_cases e : i = j
    · subst e; simp [h]
    · rw [if_neg e, if_neg (fun q => e q.symm)]
  · rw [List.getElem?_eq_none (by simpa using h)]
    simp only [Option.map_none]
    by_cases e : i = j
    · subst e; simp; omega
    · rw [if_neg e]

end Go.Proofs.Pf.B

namespace Go.Proofs.Pf.B

open Go Go.VM

theorem filt_none {g : Nat → Bool} {l : List DCh} : ∀ {n : Nat}, (∀ k, k < n → g k = false) → filt g l n = []
  | 0, _ => rfl
  | n + 1, h => by rw [filt_succ, filt_none (fun k hk => h k (by omega)), if_neg (by rw [h n (by omega)]; exact Bool.false_ne_true)]; rfl

theorem filt_one {g : Nat → Bool} {l : List DCh} {c : Nat} (h : ∀ k, g k = decide (k = c)) : ∀ {n : Nat}, c < n → filt g l n = [ch l c]
  | 0, hc => absurd hc (Nat.not_lt_zero _)
  | n + 1, hc => by
    rw [filt_succ]
    by_cases e : n = c
    · subst e
      rw [filt_none (fun k hk => by rw [h]; exact decide_eq_false (by omega)), if_pos (by rw [h]; exact decide_eq_true rfl)]; rfl
    · rw [filt_one h (by omega), if_neg (by rw [h, decide_eq_false e]; exact Bool.false_ne_true)]; rfl

theorem filt_all {g : Nat → Bool} {l : List DCh} : ∀ {n : Nat}, (∀ k, k < n → g k = true) → filt g l n = tab (ch l) n
  | 0, _ => rfl
  | n + 1, h => by rw [filt_succ, filt_all (fun k hk => h k (by omega)), if_pos (h n (by omega)), tab_succ]

theorem tabM_eq {f g : Nat → DSt} {n : Nat} (h : ∀ i, i < n → stEq (f i) (g i)) : moEq (tabM f n) (tabM g n) := by
  refine ⟨(tabM_n f n).trans (tabM_n g n).symm, fun i hi => ?_⟩
  have hi : i < n := by rw [← tabM_n f n]; exact hi
  show stEq (sm (tabM f n) i) (sm (tabM g n) i)
  rw [tabM_s f hi, tabM_s g hi]; exact h i hi

def fixQ (m : DMo) (l : DL) : DMo × Int × Unit := if moOk m ∧ strOk m (l.getD []) then (keptM (gFix l) m, 0, ()) else (none, 1, ())

theorem fixQ_ok {m : DMo} {l : DL} (h : moOk m ∧ strOk m (l.getD [])) : fixQ m l = (keptM (gFix l) m, 0, ()) := if_pos h

theorem s_Fix (m : DMo) (l : DL) (hl : (l.getD []).length < 4611686018427387904) : callV Pg c_model_Fix [⟨tMo, m⟩, ⟨tL, l⟩] (.tup (.pair tMo (.pair tI .unit))) fun r => r = fixQ m l := by
  refine w_model_Fix m l ⟨_, rfl⟩ (joinR (fun p => ∃ b : Bool, p = (l, (b, (m, none))) ∧ (b = false ↔ moOk m ∧ strOk m (l.getD []))) ?_ ?_)
  · rintro _ ⟨b, rfl, hb⟩
    dsimp only
    refine br_c (fun h => ?_) fun h => ?_
    · rw [fixQ, if_neg (fun q => by rw [hb.2 q] at h; cases h)]
    · have h := hb.1 h
      rw [fixQ, if_pos h]
      refine (w_model_Fixed m l ⟨_, rfl⟩ ((s_KeptFixed m l h.1.small h.2.1).mono fun _ h => h) : callV Pg c_model_Fixed [⟨tMo, m⟩, ⟨tL, l⟩] tMo fun r => r = keptM (gFix l) m).mono ?_
      rintro _ rfl; rfl
  · intro k hk
    refine (s_MValid m).mono ?_
    rintro _ rfl
    refine br_c (fun h => hk _ ⟨true, rfl, ⟨fun h => (by cases h), fun q => absurd q.1 (not_t h)⟩⟩) fun h => (s_Strategy m l hl).mono ?_
    rintro _ rfl
    refine hk _ ⟨_, rfl, ?_⟩
    have h := not_f h
    exact ⟨fun q => ⟨h, not_f q⟩, fun q => by show (!decide _) = false; rw [decide_eq_true q.2]; rfl⟩

def ffQ (ok : Prop) [Decidable ok] (r : DMo) (pl : Int) : DMo × Int × Unit := if ok then (if 0 ≤ pl ∧ pl ≤ 1 then (r, 0, ()) else (none, 6, ())) else (none, 1, ())

theorem s_FixFor (m : DMo) (l : DL) (pl : Int) (hl : (l.getD []).length < 4611686018427387904) : callV Pg c_model_FixFor [⟨tMo, m⟩, ⟨tL, l⟩, ⟨tI, pl⟩] (.tup (.pair tMo (.pair tI .unit))) fun r => r = ffQ (moOk m ∧ strOk m (l.getD [])) (keptM (gFor m l pl) m) pl := by
  refine w_model_FixFor m l pl ⟨_, rfl⟩ (joinR (fun p => ∃ b : Bool, p = (l, (pl, (b, (m, none)))) ∧ (b = false ↔ moOk m ∧ strOk m (l.getD []))) ?_ ?_)
  · rintro _ ⟨b, rfl, hb⟩
    dsimp only
    refine br_c (fun h => ?_) fun h => ?_
    · rw [ffQ, if_neg (fun q => by rw [hb.2 q] at h; cases h)]
    · have h := hb.1 h
      rw [ffQ, if_pos h]
      refine joinR (fun p => ∃ b : Bool, p = (l, (pl, (b, (m, none)))) ∧ (b = false ↔ 0 ≤ pl ∧ pl ≤ 1)) ?_ ?_
      · rintro _ ⟨b, rfl, hb⟩
        dsimp only
        refine br_c (fun h => ?_) fun h2 => ?_
        · rw [if_neg (fun q => by rw [hb.2 q] at h; cases h)]
        · rw [if_pos (hb.1 h2)]
          refine (w_model_FixedFor m l pl ⟨_, rfl⟩ ((s_KeptFixedFor m l pl h.1.small h.2.1).mono fun _ h => h) : callV Pg c_model_FixedFor [⟨tMo, m⟩, ⟨tL, l⟩, ⟨tI, pl⟩] tMo fun r => r = keptM (gFor m l pl) m).mono ?_
          rintro _ rfl; rfl
      · intro k hk
        refine br_c (fun h => hk _ ⟨true, rfl, ⟨fun h => (by cases h), fun q => by have := dec_t h; omega⟩⟩) fun h => hk _ ⟨_, rfl, ?_⟩
        have h := dec_f h
        rw [decide_eq_false_iff_not]; omega
  · intro k hk
    refine (s_MValid m).mono ?_
    rintro _ rfl
    refine br_c (fun h => hk _ ⟨true, rfl, ⟨fun h => (by cases h), fun q => absurd q.1 (not_t h)⟩⟩) fun h => (s_Strategy m l hl).mono ?_
    rintro _ rfl
    refine hk _ ⟨_, rfl, ?_⟩
    have h := not_f h
    exact ⟨fun q => ⟨h, not_f q⟩, fun q => by show (!decide _) = false; rw [decide_eq_true q.2]; rfl⟩

theorem few_tab {f : Nat → DSt} {n : Nat} (hn : n ≤ 45) (h : ∀ i, i < n → fewSt (f i)) : fewOk (tabM f n) := by
  refine ⟨by rw [tabM_len]; exact hn, fun i hi => ?_⟩
  have hi : i < n := by rw [← tabM_n f n]; exact hi
  show fewSt (sm (tabM f n) i)
  rw [tabM_s f hi]; exact h i hi

theorem filt_mem {g : Nat → Bool} {l : List DCh} {n : Nat} {c : DCh} (h : c ∈ filt g l n) : ∃ j, j < n ∧ c = ch l j := by
  unfold filt at h
  obtain ⟨j, hj, e⟩ := List.mem_map.1 h
  rw [List.mem_filter, List.mem_range] at hj
  exact ⟨j, hj.1, e.symm⟩

theorem few_kept {g : Nat → Bool} {s : DSt} (h : fewSt s) : fewSt (keptS g s) := by
  have e : cho (keptS g s) = filt g (cho s) (cho s).length := optL_get _
  have hl := filt_len g (cho s) (cho s).length
  have h1 : (cho s).length ≤ 10 := h.1
  refine ⟨?_, fun j hj => ?_⟩
  · show (cho (keptS g s)).length ≤ 10
    rw [e]; omega
  · have hj : j < (cho (keptS g s)).length := hj
    show ((ch (cho (keptS g s)) j).2.getD []).length ≤ 10
    rw [e] at hj ⊢
    have hm : ch (filt g (cho s) (cho s).length) j ∈ filt g (cho s) (cho s).length := by
      simp only [ch, List.getD, List.getElem?_eq_getElem hj, Option.getD_some]; exact List.getElem_mem hj
    obtain ⟨i, hi, ei⟩ := filt_mem hm
    rw [ei]; exact h.2 i hi

theorem few_keptM {g : Nat → Nat → Bool} {m : DMo} (h : fewOk m) : fewOk (keptM g m) := few_tab h.1 fun i hi => few_kept (h.2 i hi)

theorem r_Id {a b : DMo} (ha : fewOk a) (h : moEq a b) : callV Pg c_ref04_Identical [⟨tMo, a⟩, ⟨tMo, b⟩] .bool fun r => r = true :=
  (r_Identical a b ha).mono fun _ e => e.trans (decide_eq_true h)

end Go.Proofs.Pf.B

namespace Go.Proofs.Pf.B

open Go Go.VM

theorem int_set_same {l : List Int} {i : Nat} {x : Int} (h : i < l.length) : int (l.set i x) i = x := by
  simp [int, List.getD, h]

theorem int_set_other {l : List Int} {i j : Nat} {x : Int} (h : i ≠ j) : int (l.set i x) j = int l j := by
  simp [int, List.getD, List.getElem?_set_ne h]

/-- The number of the first moves. -/
def valTo (l : List DSt) (a : List Int) : Nat → Int
  | 0 => 0
  | i + 1 => valTo l a i * cntL (stt l i) + int a i

theorem nthS_ex (l : List DSt) : ∀ (i : Nat) (n : Int) (out : List Int), ∃ r, nthS l i n (some out) = some r ∧ r.length = out.length ∧ ∀ j, i ≤ j → int r j = int out j
  | 0, n, out => ⟨out, rfl, rfl, fun _ _ => rfl⟩
  | i + 1, n, out => by
    obtain ⟨r, h1, h2, h3⟩ := nthS_ex l i (n.tdiv (cntL (stt l i))) (out.set i (n.tmod (cntL (stt l i))))
    refine ⟨r, h1, by rw [h2, List.length_set], fun j hj => ?_⟩
    rw [h3 j (by omega)]; exact int_set_other (by omega)

theorem nthS_val {l : List DSt} (hc : ∀ j, j < l.length → 1 ≤ cntL (stt l j)) : ∀ (i : Nat) (n : Int) (out r : List Int), i ≤ l.length → i ≤ out.length → 0 ≤ n → n < prodTo l i → nthS l i n (some out) = some r → valTo l r i = n ∧ ∀ j, j < i → 0 ≤ int r j ∧ int r j < cntL (stt l j)
  | 0, n, out, r, _, _, h0, h1, _ => ⟨by have h1 : n < 1 := h1; show (0 : Int) = n; omega, fun j h => absurd h (Nat.not_lt_zero j)⟩
  | i + 1, n, out, r, hl, ho, h0, h1, hr => by
    have c1 := hc i (by omega)
    have hr : nthS l i (n.tdiv (cntL (stt l i))) (some (out.set i (n.tmod (cntL (stt l i))))) = some r := hr
    rw [Int.tdiv_eq_ediv_of_nonneg h0, Int.tmod_eq_emod_of_nonneg h0] at hr
    have h1 : n < prodTo l i * cntL (stt l i) := h1
    have e1 := Int.emod_add_mul_ediv n (cntL (stt l i))
    have e2 := Int.emod_nonneg n (show cntL (stt l i) ≠ 0 by omega)
    have e3 := Int.emod_lt_of_pos n (show 0 < cntL (stt l i) by omega)
    have d0 : 0 ≤ n / cntL (stt l i) := Int.ediv_nonneg h0 (by omega)
    have d1 : n / cntL (stt l i) < prodTo l i := Int.ediv_lt_of_lt_mul (by omega) (by rw [Int.mul_comm] at h1 ⊢; exact h1)
    obtain ⟨q1, q2⟩ := nthS_val hc i _ _ r (by omega) (by simp; omega) d0 d1 hr
    obtain ⟨r', g1, g2, g3⟩ := nthS_ex l i (n / cntL (stt l i)) (out.set i (n % cntL (stt l i)))
    rw [hr] at g1
    cases g1
    have hri : int r i = n % cntL (stt l i) := by rw [g3 i (Nat.le_refl _)]; exact int_set_same (by omega)
    refine ⟨?_, fun j hj => ?_⟩
    · show valTo l r i * cntL (stt l i) + int r i = n
      rw [q1, hri, Int.mul_comm]; omega
    · rcases Nat.lt_or_ge j i with h | h
      · exact q2 j h
      · obtain rfl : j = i := by omega
        rw [hri]; exact ⟨e2, e3⟩

theorem nthQ_ok {m : DMo} {k : Int} (h : (nthQ m k).2.1 = 0) : moOk m ∧ strOk m ((nthQ m k).1.getD []) ∧ valTo (m.getD []) ((nthQ m k).1.getD []) (n_ m) = k := by
  unfold nthQ at h ⊢
  by_cases hm : moOk m
  · rw [if_pos hm] at h ⊢
    by_cases hk : 0 ≤ k ∧ k < prodM m
    · rw [if_pos hk]
      obtain ⟨r, h1, h2, h3⟩ := nthS_ex (m.getD []) (n_ m) k (List.replicate (n_ m) 0)
      have h4 := nthS_val (l := m.getD []) (fun j hj => (cnt_ok hm hj).1) (n_ m) k _ r (Nat.le_refl _) (by simp) hk.1 hk.2 h1
      have e : nthS (m.getD []) (m.getD []).length k (some (List.replicate (m.getD []).length 0)) = some r := h1
      dsimp only
      rw [e]
      have hl : r.length = n_ m := by rw [h2]; simp
      exact ⟨hm, ⟨hl, fun i hi => h4.2 i (by rw [← hl]; exact hi)⟩, h4.1⟩
    · rw [if_neg hk] at h; cases h
  · rw [if_neg hm] at h; cases h

theorem nth_same {m : DMo} {j k : Int} (hj : (nthQ m j).2.1 = 0) (hk : (nthQ m k).2.1 = 0) : decide (j = k) = decide ((nthQ m j).1.getD [] = (nthQ m k).1.getD []) := by
  rw [decide_eq_decide]
  constructor
  · rintro rfl; rfl
  · intro e
    rw [← (nthQ_ok hj).2.2, e, (nthQ_ok hk).2.2]

theorem kept_cho (g : Nat → Bool) (s : DSt) : cho (keptS g s) = filt g (cho s) (cho s).length := optL_get _

theorem keptM_n (g : Nat → Nat → Bool) (m : DMo) : n_ (keptM g m) = n_ m := tabM_n _ _

theorem keptM_s (g : Nat → Nat → Bool) (m : DMo) {i : Nat} (h : i < n_ m) : sm (keptM g m) i = keptS (g i) (sm m i) := tabM_s _ h

theorem ch_mem {l : List DCh} {j : Nat} (h : j < l.length) : ch l j ∈ l := by
  simp only [ch, List.getD, List.getElem?_eq_getElem h, Option.getD_some]; exact List.getElem_mem h

theorem keptM_ok {g : Nat → Nat → Bool} {m : DMo} (hm : moOk m) (hg : ∀ i, i < n_ m → ∃ k, k < (cho (sm m i)).length ∧ g i k = true) : moOk (keptM g m) := by
  have hn := keptM_n g m
  refine ⟨by show 1 ≤ n_ (keptM g m) ∧ n_ (keptM g m) ≤ 40; rw [hn]; exact hm.1, fun i hi => ?_⟩
  have hi : i < n_ m := by rw [← hn]; exact hi
  show stOk (n_ (keptM g m) : Int) (sm (keptM g m) i)
  rw [hn, keptM_s g m hi]
  obtain ⟨⟨h1, h2, h3⟩, h4⟩ : stOk (n_ m : Int) (sm m i) := hm.2 i hi
  have e := kept_cho (g i) (sm m i)
  have hl := filt_len (g i) (cho (sm m i)) (cho (sm m i)).length
  have h3 : 1 ≤ (cho (sm m i)).length ∧ (cho (sm m i)).length ≤ 8 := h3
  obtain ⟨k, hk1, hk2⟩ := hg i hi
  have hpos : 1 ≤ (filt (g i) (cho (sm m i)) (cho (sm m i)).length).length := by
    have : ch (cho (sm m i)) k ∈ filt (g i) (cho (sm m i)) (cho (sm m i)).length := List.mem_map.2 ⟨k, List.mem_filter.2 ⟨List.mem_range.2 hk1, hk2⟩, rfl⟩
    exact List.length_pos_of_mem this
  refine ⟨⟨h1, h2, ?_⟩, fun j hj => ?_⟩
  · show 1 ≤ (cho (keptS (g i) (sm m i))).length ∧ (cho (keptS (g i) (sm m i))).length ≤ 8
    rw [e]; omega
  · have hj : j < (cho (keptS (g i) (sm m i))).length := hj
    show chOk _ (ch (cho (keptS (g i) (sm m i))) j)
    rw [e] at hj ⊢
    obtain ⟨q, hq, eq⟩ := filt_mem (ch_mem hj)
    rw [eq]; exact h4 q hq

theorem kept_single {g : Nat → Bool} {s : DSt} {c : Int} (hg : ∀ k : Nat, g k = decide (c = (k : Int))) (h0 : 0 ≤ c) (h1 : c < ((cho s).length : Int)) : cho (keptS g s) = [ch (cho s) c.toNat] := by
  rw [kept_cho]
  exact filt_one (fun k => by rw [hg, decide_eq_decide]; omega) (by omega)

theorem str_at {m : DMo} {l : DL} (h : strOk m (l.getD [])) {i : Nat} (hi : i < n_ m) : 0 ≤ int (l.getD []) i ∧ int (l.getD []) i < ((cho (sm m i)).length : Int) := h.2 i (by rw [h.1]; exact hi)

theorem fix_ok {m : DMo} {l : DL} (hm : moOk m) (hs : strOk m (l.getD [])) : moOk (keptM (gFix l) m) ∧ single (keptM (gFix l) m) := by
  refine ⟨keptM_ok hm fun i hi => ?_, fun i hi => ?_⟩
  · have := str_at hs hi
    exact ⟨(int (l.getD []) i).toNat, by omega, decide_eq_true (by omega)⟩
  · have hi : i < n_ m := by rw [← keptM_n (gFix l) m]; exact hi
    have := str_at hs hi
    show (cho (sm (keptM (gFix l) m) i)).length = 1
    rw [keptM_s _ m hi, kept_single (g := gFix l i) (c := int (l.getD []) i) (fun k => rfl) this.1 this.2]; rfl

theorem single_prod {m : DMo} (h : single m) : ∀ {i : Nat}, i ≤ n_ m → prodTo (m.getD []) i = 1
  | 0, _ => rfl
  | i + 1, hi => by
    have h1 : cntL (stt (m.getD []) i) = 1 := congrArg Nat.cast (h i (by show i < n_ m; omega))
    show prodTo (m.getD []) i * cntL (stt (m.getD []) i) = 1
    rw [h1, single_prod h (by omega)]; rfl

theorem single_count {m : DMo} (hm : moOk m) (h : single m) : countQ m = (1, 0, ()) := by
  have e : prodM m = 1 := single_prod h (Nat.le_refl _)
  rw [countQ, if_pos hm, if_pos (by rw [e]; decide), e]

/-- What is left to choose for the other player. -/
def leftL (m : DMo) (l : List Int) (pl : Int) (n : Nat) : List Int := (List.range l.length).map fun i => if i < n ∧ (sm m i).1 = pl then 0 else int l i

theorem left_len (m : DMo) (l : List Int) (pl : Int) (n : Nat) : (leftL m l pl n).length = l.length := by simp [leftL]

theorem left_int (m : DMo) (l : List Int) (pl : Int) (n : Nat) {i : Nat} (h : i < l.length) : int (leftL m l pl n) i = if i < n ∧ (sm m i).1 = pl then 0 else int l i := by
  simp [int, leftL, List.getD, List.getElem?_range h]

theorem left_zero (m : DMo) (l : List Int) (pl : Int) : leftL m l pl 0 = l := by
  apply List.ext_getElem?
  intro i
  rcases Nat.lt_or_ge i l.length with h | h
  · simp [leftL, List.getElem?_range h, int, List.getD, h]
  · rw [List.getElem?_eq_none (by rw [left_len]; exact h), List.getElem?_eq_none h]

theorem left_skip {m : DMo} {l : List Int} {pl : Int} {n : Nat} (h : (sm m n).1 ≠ pl) : leftL m l pl (n + 1) = leftL m l pl n := by
  unfold leftL
  congr 1
  funext i
  by_cases e : i = n
  · subst e; rw [if_neg (fun q => h q.2), if_neg (fun q => h q.2)]
  · by_cases q : i < n ∧ (sm m i).1 = pl
    · rw [if_pos ⟨by omega, q.2⟩, if_pos q]
    · rw [if_neg (fun r => q ⟨by omega, r.2⟩), if_neg q]

theorem left_set {m : DMo} {l : List Int} {pl : Int} {n : Nat} (h : (sm m n).1 = pl) : (leftL m l pl n).set n 0 = leftL m l pl (n + 1) := by
  have := tab_set (fun i => if i < n ∧ (sm m i).1 = pl then 0 else int l i) l.length n (0 : Int)
  show (tab _ _).set n 0 = tab _ _
  rw [this]
  congr 1
  funext i
  by_cases e : i = n
  · subst e; rw [if_pos rfl, if_pos ⟨by omega, h⟩]
  · rw [if_neg e]
    by_cases q : i < n ∧ (sm m i).1 = pl
    · rw [if_pos q, if_pos ⟨by omega, q.2⟩]
    · rw [if_neg q, if_neg (fun r => q ⟨by omega, r.2⟩)]

theorem gFor_eq (m : DMo) (l : DL) (pl : Int) (i k : Nat) : gFor m l pl i k = (!decide ((sm m i).1 = pl) || decide (int (l.getD []) i = (k : Int))) := rfl

/-- Fixed for one player, then for the other one. -/
theorem for_both {m : DMo} {l : DL} {pl : Int} (hm : moOk m) (hs : strOk m (l.getD [])) (hp : 0 ≤ pl ∧ pl ≤ 1) :
    moOk (keptM (gFor m l pl) m) ∧ strOk (keptM (gFor m l pl) m) (leftL m (l.getD []) pl (n_ m)) ∧
      moEq (keptM (gFor (keptM (gFor m l pl) m) (some (leftL m (l.getD []) pl (n_ m))) (1 - pl)) (keptM (gFor m l pl) m)) (keptM (gFix l) m) := by
  have hn := keptM_n (gFor m l pl) m
  have hlen : (l.getD []).length = n_ m := hs.1
  have own : ∀ i, i < n_ m → (sm m i).1 = pl ∨ (sm m i).1 = 1 - pl := by
    intro i hi
    have := (hm.2 i hi).1.1
    have h1 : 0 ≤ (sm m i).1 ∧ (sm m i).1 ≤ 1 := this
    omega
  -- what is kept
  have one : ∀ i, i < n_ m → (sm m i).1 = pl → ∀ k : Nat, gFor m l pl i k = decide (int (l.getD []) i = (k : Int)) := by
    intro i hi e k
    rw [gFor_eq, decide_eq_true e]; rfl
  have all : ∀ i, (sm m i).1 ≠ pl → ∀ k : Nat, gFor m l pl i k = true := by
    intro i e k
    rw [gFor_eq, decide_eq_false e]; rfl
  have c1 : ∀ i, i < n_ m → (sm m i).1 = pl → cho (keptS (gFor m l pl i) (sm m i)) = [ch (cho (sm m i)) (int (l.getD []) i).toNat] := by
    intro i hi e
    have := str_at hs hi
    exact kept_single (one i hi e) this.1 this.2
  have c2 : ∀ i, (sm m i).1 ≠ pl → cho (keptS (gFor m l pl i) (sm m i)) = tab (ch (cho (sm m i))) (cho (sm m i)).length := by
    intro i e
    rw [kept_cho]; exact filt_all fun k _ => all i e k
  have hok : moOk (keptM (gFor m l pl) m) := keptM_ok hm fun i hi => by
    have := str_at hs hi
    refine ⟨(int (l.getD []) i).toNat, by omega, ?_⟩
    by_cases e : (sm m i).1 = pl
    · rw [one i hi e]; exact decide_eq_true (by omega)
    · exact all i e _
  have hat : ∀ i, i < n_ m → 0 ≤ int (leftL m (l.getD []) pl (n_ m)) i ∧ int (leftL m (l.getD []) pl (n_ m)) i < ((cho (keptS (gFor m l pl i) (sm m i))).length : Int) := by
    intro i hi
    have h1 := str_at hs hi
    rw [left_int _ _ _ _ (by omega)]
    by_cases e : (sm m i).1 = pl
    · rw [if_pos ⟨hi, e⟩, c1 i hi e]; exact ⟨by decide, (by decide : (0 : Int) < ((1 : Nat) : Int))⟩
    · rw [if_neg (fun q => e q.2), c2 i e, tab_len]; exact h1
  refine ⟨hok, ⟨by rw [left_len]; show _ = n_ _; rw [hn]; exact hlen, fun i hi => ?_⟩, ?_⟩
  · rw [left_len, hlen] at hi
    have := hat i hi
    show 0 ≤ _ ∧ _ < ((cho (sm (keptM (gFor m l pl) m) i)).length : Int)
    rw [keptM_s _ m hi]; exact this
  · rw [keptM_tab (gFor (keptM (gFor m l pl) m) (some (leftL m (l.getD []) pl (n_ m))) (1 - pl)), keptM_tab (gFix l), hn]
    refine tabM_eq fun i hi => ?_
    rw [keptM_s _ m hi]
    have h1 := str_at hs hi
    have e2 : cho (keptS (gFix l i) (sm m i)) = [ch (cho (sm m i)) (int (l.getD []) i).toNat] := kept_single (fun k => rfl) h1.1 h1.2
    have hg : ∀ k, gFor (keptM (gFor m l pl) m) (some (leftL m (l.getD []) pl (n_ m))) (1 - pl) i k = (!decide ((sm m i).1 = 1 - pl) || decide (int (leftL m (l.getD []) pl (n_ m)) i = (k : Int))) := by
      intro k
      rw [gFor_eq, keptM_s _ m hi]; rfl
    have e1 : cho (keptS (gFor (keptM (gFor m l pl) m) (some (leftL m (l.getD []) pl (n_ m))) (1 - pl) i) (keptS (gFor m l pl i) (sm m i))) = [ch (cho (sm m i)) (int (l.getD []) i).toNat] := by
      rcases own i hi with e | e
      · rw [kept_cho, filt_all (fun k _ => by rw [hg, decide_eq_false (by omega)]; rfl), c1 i hi e]; rfl
      · have hne : (sm m i).1 ≠ pl := by omega
        have hl : int (leftL m (l.getD []) pl (n_ m)) i = int (l.getD []) i := by rw [left_int _ _ _ _ (by omega), if_neg (fun q => hne q.2)]
        rw [kept_single (c := int (l.getD []) i) (fun k => by rw [hg, decide_eq_true e, hl]; rfl) h1.1 (by rw [c2 i hne, tab_len]; exact h1.2), c2 i hne]
        congr 1
        exact tab_get _ _ _ _ (by omega)
    refine ⟨rfl, rfl, ?_, fun j hj => ?_⟩
    · show (cho _).length = (cho _).length
      rw [e1, e2]
    · show chEq (ch (cho _) j) (ch (cho _) j)
      rw [e1, e2]; exact ⟨rfl, rfl⟩

end Go.Proofs.Pf.B

namespace Go.Proofs.Pf.B

open Go Go.VM

theorem s_ModelMeans (a : DMo) (b : DL) (c d e : Int) (c0 : -9223372036854775808 ≤ c) (c1 : c < 9223372036854775808) (d0 : -9223372036854775808 ≤ d) (d1 : d < 9223372036854775808) (e0 : -9223372036854775808 ≤ e) (e1 : e < 9223372036854775808) :
    callV Pg c_law04_ModelMeans [⟨tMo, a⟩, ⟨tL, b⟩, ⟨tI, c⟩, ⟨tI, d⟩, ⟨tI, e⟩] .bool fun r => r = true := by
  refine w_law04_ModelMeans a b c d e ⟨_, rfl⟩ (joinR (fun p => ∃ q : Bool, p = (b, (c, (d, (e, (q, a))))) ∧ (q = false → fewOk a ∧ (b.getD []).length ≤ 60)) ?_ ?_)
  · rintro _ ⟨q, rfl, hq⟩
    dsimp only
    refine br_c (fun _ => s_awake4.mono fun _ h => h) fun h => ?_
    obtain ⟨hf, hb⟩ := hq h
    refine (s_Fix a b (by omega)).mono ?_
    rintro _ rfl
    refine joinR (fun p => p = (d, (e, a))) ?_ ?_
    · rintro _ rfl
      dsimp only
      refine (s_Nth a d d0 (by omega)).mono ?_; rintro _ rfl
      refine (s_Nth a e e0 (by omega)).mono ?_; rintro _ rfl
      refine joinR (fun p => ∃ q : Bool, p = (d, (e, ((nthQ a d).1, ((nthQ a e).1, (q, a))))) ∧ (q = false → (nthQ a d).2.1 = 0 ∧ (nthQ a e).2.1 = 0)) ?_ ?_
      · rintro _ ⟨q, rfl, hq⟩
        dsimp only
        refine br_c (fun _ => s_awake4.mono fun _ h => h) fun h => ?_
        obtain ⟨h1, h2⟩ := hq h
        obtain ⟨hm, hs, _⟩ := nthQ_ok h1
        have hl : ((nthQ a d).1.getD []).length = n_ a := hs.1
        have h45 : n_ a ≤ 45 := hf.1
        refine (s_ValidStrategy a (nthQ a d).1 (by omega)).mono ?_
        rintro _ rfl
        rw [vQ, if_pos hm]
        refine joinE (br_t (decide_eq_true rfl) (br_t (decide_eq_true hs) ((r_List _ _ (by omega)).mono ?_)))
        rintro _ rfl
        refine br_t ?_ (s_awake4.mono fun _ h => h)
        rw [nth_same h1 h2]; exact eqB_self _
      · intro k hk
        refine br_c (fun _ => hk _ ⟨true, rfl, fun h => by cases h⟩) fun h => hk _ ⟨_, rfl, fun h3 => ⟨?_, ?_⟩⟩
        · exact not_f h
        · exact not_f h3
    · intro k hk
      refine br_c (fun h => ?_) fun _ => hk _ rfl
      have h0 : (fixQ a b).2.1 = 0 := dec_t h
      have hms : moOk a ∧ strOk a (b.getD []) := by
        by_cases q : moOk a ∧ strOk a (b.getD [])
        · exact q
        · rw [fixQ, if_neg q] at h0; cases h0
      obtain ⟨hm, hs⟩ := hms
      obtain ⟨hpo, hps⟩ := fix_ok hm hs
      have hn40 : n_ a ≤ 40 := hm.1.2
      have hbl : (b.getD []).length = n_ a := hs.1
      rw [fixQ_ok ⟨hm, hs⟩]
      dsimp only
      refine (s_Chain _).mono ?_; rintro _ rfl
      refine (s_MCount _).mono ?_; rintro _ rfl
      rw [single_count hpo hps, vQ, if_pos hpo, decide_eq_true hps]
      refine joinR (fun p => p = (b, (c, (d, (e, (false, (a, keptM (gFix b) a))))))) ?_ ?_
      · rintro _ rfl
        dsimp only
        refine br_f rfl ((s_FixFor a b c (by omega)).mono ?_)
        rintro _ rfl
        refine joinR (fun p => p = (d, (e, a))) (fun p hp => hk p hp) ?_
        intro k' hk'
        refine br_c (fun h => ?_) fun _ => hk' _ rfl
        have h6 : (ffQ (moOk a ∧ strOk a (b.getD [])) (keptM (gFor a b c) a) c).2.1 = 0 := dec_t h
        have hc : 0 ≤ c ∧ c ≤ 1 := by
          by_cases q : 0 ≤ c ∧ c ≤ 1
          · exact q
          · rw [ffQ, if_pos ⟨hm, hs⟩, if_neg q] at h6; cases h6
        rw [ffQ, if_pos ⟨hm, hs⟩, if_pos hc]
        dsimp only
        obtain ⟨f1, f2, f3⟩ := for_both hm hs hc
        generalize hQ : keptM (gFor a b c) a = mq at *
        have hqn : n_ mq = n_ a := by rw [← hQ]; exact keptM_n _ _
        have hqo : ∀ i, i < n_ a → (sm mq i).1 = (sm a i).1 := fun i hi => by rw [← hQ, keptM_s _ a hi]; rfl
        have happ : appL (some []) (lst b) = some (b.getD []) := rfl
        rw [happ]
        refine ⟨?_, rangeB (n := n_ a) (fun i t => (c, (d, (e, ((n_ a : Int), ((i : Int), (a, (keptM (gFix b) a, (mq, t)))))))))  (fun i t => t = some (leftL a (b.getD []) c i)) (some (b.getD [])) ?_ ?_ (fun p => p.2.2.2.2.1.toNat) (fun _ _ => rfl) (fun _ _ _ => rfl) ?_ ?_⟩
        · show (0 + (b.getD []).length) * 8 ≤ 140737488355328
          omega
        · show (c, (d, (e, (((b.getD []).length : Int), _)))) = _
          rw [hbl]; rfl
        · rw [left_zero]
        · intro k2 i t hi ht hk2
          dsimp only
          subst ht
          refine br_f ?_ ⟨in_s (by show i < n_ mq; rw [hqn]; exact hi), ?_⟩
          · show (!decide ((n_ mq : Int) = (n_ a : Int))) = false
            rw [hqn, decide_eq_true rfl]; rfl
          · rw [eltS_st]
            refine joinE ?_
            dsimp only
            rw [wi1 hi (by omega)]
            refine br_c (fun h => ?_) fun h => ?_
            · have h : (sm mq i).1 = c := dec_t h
              rw [hqo i hi] at h
              refine ⟨in_s (by rw [Option.getD_some, left_len, hbl]; exact hi), hk2 _ ?_⟩
              rw [← left_set h]
              rfl
            · have h : ¬ (sm mq i).1 = c := dec_f h
              rw [hqo i hi] at h
              exact hk2 _ (by rw [left_skip h])
        · intro k2 t ht
          dsimp only
          subst ht
          rw [wi64 (by omega) (by omega)]
          refine (s_FixFor mq (some (leftL a (b.getD []) c (n_ a))) (1 - c) (by rw [Option.getD_some, left_len, hbl]; omega)).mono ?_
          rintro _ rfl
          rw [ffQ, if_pos ⟨f1, f2⟩, if_pos (by omega)]
          refine joinR (fun p => p = (d, (e, (false, a)))) ?_ ?_
          · rintro _ rfl
            exact br_f rfl (hk' _ rfl)
          · intro k3 hk3
            refine br_f (by show (!decide ((0 : Int) = 0)) = false; rfl) ((r_Id (few_keptM (by rw [← hQ]; exact few_keptM hf)) f3).mono ?_)
            rintro _ rfl
            exact hk3 _ rfl
      · intro k' hk'
        refine br_f rfl (br_f rfl (br_f rfl (br_f rfl (hk' _ ?_))))
        have e : notB (decide (szSl (keptM (gFix b) a) = szSl a)) = false := by
          show (!decide ((n_ (keptM (gFix b) a) : Int) = (n_ a : Int))) = false
          rw [keptM_n, decide_eq_true rfl]; rfl
        rw [e]
  · intro k hk
    refine (s_few2 [a] (by simp)).mono fun p hp => br_c (fun _ => hk _ ⟨true, rfl, fun h => by cases h⟩) fun h => hk _ ⟨_, rfl, fun h2 => ⟨?_, ?_⟩⟩
    · exact hp (by cases p <;> simp [notB] at h ⊢) 0 (by simp)
    · have h2 : ¬ (60 : Int) < ((b.getD []).length : Int) := dec_f h2
      omega

end Go.Proofs.Pf.B
