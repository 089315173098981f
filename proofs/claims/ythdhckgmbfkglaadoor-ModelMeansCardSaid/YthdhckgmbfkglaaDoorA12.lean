/- Typed pure data, a condition on code that says what a call gives, what the code of each function comes to, and what each function gives. -/
import Derived.Lib.AppendIntMem
import Derived.Test.YthdhckgmbfkglaaDoorA7
import Derived.Test.YthdhckgmbfkglaaDoorA8
import Derived.Test.YthdhckgmbfkglaaDoorA10
import Derived.Test.YthdhckgmbfkglaaDoorA11
set_option linter.unusedVariables false
set_option linter.unusedSimpArgs false
namespace Go.Proofs.Pf.B

open Go Go.VM

/-- The numeral of an integer, as a string. -/
def itoaB (n : Int) : ByteArray := ⟨(Lib.itoa n).toArray⟩

theorem bl_itoaB (n : Int) : bl (itoaB n) = Lib.itoa n := by simp [bl, itoaB]

theorem tab_of {w : World} (h : Gl Pg w) (hs : (Pg.globalNamed "internal/strconv.uint64pow10").isSome = true) : Lib.TabIs Pg w "internal/strconv.uint64pow10" .u64 Lib.pow10Tab := by
  obtain ⟨g, hg⟩ := Option.isSome_iff_exists.1 hs
  exact h g hg

theorem s_Itoa {n : Int} (h0 : -9223372036854775808 ≤ n) (h1 : n < 9223372036854775808) : callV Pg c_strconv_Itoa [⟨tI, n⟩] .str fun r => r = itoaB n := by
  refine ⟨r_strconv_Itoa, ⟨_, rfl⟩, fun w F vals hF hg hv => ?_⟩
  match vals, hv with
  | [v], hv =>
    obtain ⟨hv, -⟩ := hv
    rw [vrep_int] at hv
    subst hv
    refine (Tryd.strconv_Itoa n h0 (by omega) w (tab_of hg (by kernel_rfl))).mono ?_
    rintro e w' ⟨rfl, k, os, rfl⟩
    exact ⟨_, _, rfl, vrep_str.2 rfl, rfl, Lib.below_grow _ _ (Nat.le_refl _) _ _⟩

theorem bytesL_bl (l : List Nat) : bl (bytesL l) = l.map UInt8.ofNat := by simp [bl, bytesL]

theorem dec_small {n : Nat} (h : n ≤ 1152921504606846976) : (Lib.decDigits n).length ≤ 40 := dec_len (Nat.lt_of_le_of_lt h (by decide))

theorem itoa_len {n : Int} (h : n.natAbs ≤ 1152921504606846976) : (Lib.itoa n).length ≤ 41 := by
  unfold Lib.itoa
  split
  · have := dec_small h; simp only [List.length_cons]; omega
  · have := dec_small (n := n.toNat) (by omega); omega

theorem size_bl (s : ByteArray) : s.size = (bl s).length := by simp [bl]

/-- The printed form of a number. -/
def printL (a : Int × Int) : List UInt8 := if a.2 = 1 then Lib.itoa a.1 else Lib.itoa a.1 ++ 47 :: Lib.itoa a.2

def printB (a : Int × Int) : ByteArray := ⟨(printL a).toArray⟩

theorem bl_printB (a : Int × Int) : bl (printB a) = printL a := by simp [bl, printB]

def printQ (a : Int × Int) : ByteArray × Int × Unit := if NumOk a then (printB a, 0, ()) else (⟨#[]⟩, 1, ())

theorem print_len {a : Int × Int} (h : NumOk a) : (printL a).length ≤ 90 := by
  obtain ⟨h1, h2, h3, h4, _⟩ := h
  have e1 := itoa_len (n := a.1) (by omega)
  have e2 := itoa_len (n := a.2) (by omega)
  unfold printL
  split
  · omega
  · simp only [List.length_append, List.length_cons]; omega

theorem s_NPrint (a : Int × Int) : callV Pg c_num_Print [⟨tNum, a⟩] (.tup (.pair .str (.pair tI .unit))) fun r => r = printQ a := by
  refine w_num_Print a ⟨_, rfl⟩ ((s_Valid longS a).mono ?_)
  rintro _ rfl
  refine brV_iff.2 ⟨fun hb => ?_, fun hb => ?_⟩
  · rw [printQ, if_neg (not_t hb)]; rfl
  · have hv : NumOk a := not_f hb
    rw [printQ, if_pos hv]
    have hv' := hv
    obtain ⟨h1, h2, h3, h4, _⟩ := hv'
    refine (s_Itoa (n := a.1) (by omega) (by omega)).mono ?_
    rintro _ rfl
    have l1 := itoa_len (n := a.1) (by omega)
    have l2 := itoa_len (n := a.2) (by omega)
    refine joinR (fun p => p = printB a) (by rintro _ rfl; rfl) fun k hk => brV_iff.2 ⟨fun hb => ?_, fun hb => ?_⟩
    · have hb : ¬ a.2 = 1 := not_t hb
      refine (s_Itoa (n := a.2) (by omega) (by omega)).mono ?_
      rintro _ rfl
      refine ⟨?_, ?_, hk _ ?_⟩
      · unfold catC; rw [size_bl, size_bl, bytesL_bl, bl_itoaB]; simp only [List.length_map, List.length_singleton]; omega
      · unfold catC; rw [size_bl, size_bl, bl_app, bytesL_bl, bl_itoaB, bl_itoaB]; simp only [List.length_append, List.length_map, List.length_singleton]; omega
      · apply bl_inj
        rw [bl_app, bl_app, bytesL_bl, bl_itoaB, bl_itoaB, bl_printB, printL, if_neg hb]; rfl
    · have hb : a.2 = 1 := not_f hb
      refine hk _ (bl_inj ?_)
      rw [bl_itoaB, bl_printB, printL, if_pos hb]

end Go.Proofs.Pf.B
