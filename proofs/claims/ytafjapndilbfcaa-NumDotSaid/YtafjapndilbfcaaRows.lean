/-
  No cell of these rows narrows 'for every input' (looked for: loops, veiled, ifaces, maps, wideKeys, modest, calm, conditions, laid).
  DERIVED. THE GIVEN ROWS OF THIS SEAT. 7 by the template 'for every input the law returns true; each argument reads behind the call as it read before'; 0 by the template 'total and deterministic' (their statements: YtafjapndilbfcaaTotals.lean).
  GIVEN WITH THE SEED: the statements are not yours to turn. If you find one false, say at which input.
  Laid BY PROGRAM, IN A SANDBOX (cutbox-rows.mjs): the forced cells as the released guide's own fill.sh prints them over the translation 139570aac1efe5cc… (all of the seat's roots in one cut). By AI agents, Wed Nov 11 2026. No macro, syntax, notation, axiom, sorry.
-/
import Derived.Test.YtafjapndilbfcaaChecked
import GoSem.Claim
import GoSem.ClaimJoined
import GoSem.ClaimMapViews
import Derived.JoinedTies
import Derived.KernelRfl
namespace Go.Proofs.Ytafjapndilbfcaa
/- THE CELL 'sum', in the pinned program and in every row, IS THE sha256 OF THE DUMP (.gsa) THAT YtafjapndilbfcaaProg.lean LOADS. Nothing in Lean hashes anything: it is a label: what it is worth is what the hold of that sum in a sandbox is worth. -/
noncomputable def Try.pinned : Pinned := { name := "ytafjapndilbfcaa", sum := "139570aac1efe5cc6171fb9520d6eccb7d7b39b4814ae5da8dfecb14ece2ef2f", checked := Try.checked }
namespace Rows
def none {H : Type} : Left H := { results := [], args := [] }

/-- 'diceboxlaw01.NumPowers': WHATEVER THE INPUT: true; the input reads as it did. -/
def numPowersSpec : ChangeSpec := { name := "numPowers", fn := fun _ => fun
  | [d1, d2, d3] => { results := [.lit (.bool true)], args := [d1, d2, d3] }
  | _ => none }
def numPowersRow : OpenClaim := { program := "ytafjapndilbfcaa", sum := "139570aac1efe5cc6171fb9520d6eccb7d7b39b4814ae5da8dfecb14ece2ef2f", func := "dicebox/diceboxlaw01.NumPowers", spec := "numPowers", unfollowed := true, recurses := true, named := ["math/bits.overflowError"], apart := false }
def NumPowersSaid : Prop := numPowersRow.holds Try.pinned (OpenSpec.ofChange numPowersSpec)

/-- ITS FALSE NEIGHBOUR: 'it returns false'. Refute it at one input. -/
def numPowersWrong : ChangeSpec := { name := "numPowers", fn := fun _ => fun
  | [d1, d2, d3] => { results := [.lit (.bool false)], args := [d1, d2, d3] }
  | _ => none }
def NumPowersWrongFalsely : Prop := numPowersRow.holds Try.pinned (OpenSpec.ofChange numPowersWrong)

/-- 'diceboxlaw01.NumMakes': WHATEVER THE INPUT: true; the input reads as it did. -/
def numMakesSpec : ChangeSpec := { name := "numMakes", fn := fun _ => fun
  | [d1, d2, d3, d4] => { results := [.lit (.bool true)], args := [d1, d2, d3, d4] }
  | _ => none }
def numMakesRow : OpenClaim := { program := "ytafjapndilbfcaa", sum := "139570aac1efe5cc6171fb9520d6eccb7d7b39b4814ae5da8dfecb14ece2ef2f", func := "dicebox/diceboxlaw01.NumMakes", spec := "numMakes", unfollowed := true, recurses := true, named := ["math/bits.overflowError"], apart := false }
def NumMakesSaid : Prop := numMakesRow.holds Try.pinned (OpenSpec.ofChange numMakesSpec)

/-- ITS FALSE NEIGHBOUR: 'it returns false'. Refute it at one input. -/
def numMakesWrong : ChangeSpec := { name := "numMakes", fn := fun _ => fun
  | [d1, d2, d3, d4] => { results := [.lit (.bool false)], args := [d1, d2, d3, d4] }
  | _ => none }
def NumMakesWrongFalsely : Prop := numMakesRow.holds Try.pinned (OpenSpec.ofChange numMakesWrong)

/-- 'diceboxlaw01.NumField': WHATEVER THE INPUT: true; the input reads as it did. -/
def numFieldSpec : ChangeSpec := { name := "numField", fn := fun _ => fun
  | [d1, d2, d3] => { results := [.lit (.bool true)], args := [d1, d2, d3] }
  | _ => none }
def numFieldRow : OpenClaim := { program := "ytafjapndilbfcaa", sum := "139570aac1efe5cc6171fb9520d6eccb7d7b39b4814ae5da8dfecb14ece2ef2f", func := "dicebox/diceboxlaw01.NumField", spec := "numField", unfollowed := true, recurses := true, named := ["math/bits.overflowError"], apart := false }
def NumFieldSaid : Prop := numFieldRow.holds Try.pinned (OpenSpec.ofChange numFieldSpec)

/-- ITS FALSE NEIGHBOUR: 'it returns false'. Refute it at one input. -/
def numFieldWrong : ChangeSpec := { name := "numField", fn := fun _ => fun
  | [d1, d2, d3] => { results := [.lit (.bool false)], args := [d1, d2, d3] }
  | _ => none }
def NumFieldWrongFalsely : Prop := numFieldRow.holds Try.pinned (OpenSpec.ofChange numFieldWrong)

/-- 'diceboxlaw01.NumDot': WHATEVER THE INPUT: true; the input reads as it did. -/
def numDotSpec : ChangeSpec := { name := "numDot", fn := fun _ => fun
  | [d1, d2] => { results := [.lit (.bool true)], args := [d1, d2] }
  | _ => none }
def numDotRow : OpenClaim := { program := "ytafjapndilbfcaa", sum := "139570aac1efe5cc6171fb9520d6eccb7d7b39b4814ae5da8dfecb14ece2ef2f", func := "dicebox/diceboxlaw01.NumDot", spec := "numDot", unfollowed := true, recurses := true, named := ["math/bits.overflowError"], apart := false }
def NumDotSaid : Prop := numDotRow.holds Try.pinned (OpenSpec.ofChange numDotSpec)

/-- ITS FALSE NEIGHBOUR: 'it returns false'. Refute it at one input. -/
def numDotWrong : ChangeSpec := { name := "numDot", fn := fun _ => fun
  | [d1, d2] => { results := [.lit (.bool false)], args := [d1, d2] }
  | _ => none }
def NumDotWrongFalsely : Prop := numDotRow.holds Try.pinned (OpenSpec.ofChange numDotWrong)

/-- 'diceboxlaw01.NumArithmetic': WHATEVER THE INPUT: true; the input reads as it did. -/
def numArithmeticSpec : ChangeSpec := { name := "numArithmetic", fn := fun _ => fun
  | [d1, d2] => { results := [.lit (.bool true)], args := [d1, d2] }
  | _ => none }
def numArithmeticRow : OpenClaim := { program := "ytafjapndilbfcaa", sum := "139570aac1efe5cc6171fb9520d6eccb7d7b39b4814ae5da8dfecb14ece2ef2f", func := "dicebox/diceboxlaw01.NumArithmetic", spec := "numArithmetic", unfollowed := true, recurses := true, named := ["math/bits.overflowError"], apart := false }
def NumArithmeticSaid : Prop := numArithmeticRow.holds Try.pinned (OpenSpec.ofChange numArithmeticSpec)

/-- ITS FALSE NEIGHBOUR: 'it returns false'. Refute it at one input. -/
def numArithmeticWrong : ChangeSpec := { name := "numArithmetic", fn := fun _ => fun
  | [d1, d2] => { results := [.lit (.bool false)], args := [d1, d2] }
  | _ => none }
def NumArithmeticWrongFalsely : Prop := numArithmeticRow.holds Try.pinned (OpenSpec.ofChange numArithmeticWrong)

/-- 'diceboxlaw01.NumBetween': WHATEVER THE INPUT: true; the input reads as it did. -/
def numBetweenSpec : ChangeSpec := { name := "numBetween", fn := fun _ => fun
  | [d1, d2] => { results := [.lit (.bool true)], args := [d1, d2] }
  | _ => none }
def numBetweenRow : OpenClaim := { program := "ytafjapndilbfcaa", sum := "139570aac1efe5cc6171fb9520d6eccb7d7b39b4814ae5da8dfecb14ece2ef2f", func := "dicebox/diceboxlaw01.NumBetween", spec := "numBetween", unfollowed := true, recurses := true, named := ["math/bits.overflowError"], apart := false }
def NumBetweenSaid : Prop := numBetweenRow.holds Try.pinned (OpenSpec.ofChange numBetweenSpec)

/-- ITS FALSE NEIGHBOUR: 'it returns false'. Refute it at one input. -/
def numBetweenWrong : ChangeSpec := { name := "numBetween", fn := fun _ => fun
  | [d1, d2] => { results := [.lit (.bool false)], args := [d1, d2] }
  | _ => none }
def NumBetweenWrongFalsely : Prop := numBetweenRow.holds Try.pinned (OpenSpec.ofChange numBetweenWrong)

/-- 'diceboxlaw01.NumLeast': WHATEVER THE INPUT: true; the input reads as it did. -/
def numLeastSpec : ChangeSpec := { name := "numLeast", fn := fun _ => fun
  | [d1, d2, d3] => { results := [.lit (.bool true)], args := [d1, d2, d3] }
  | _ => none }
def numLeastRow : OpenClaim := { program := "ytafjapndilbfcaa", sum := "139570aac1efe5cc6171fb9520d6eccb7d7b39b4814ae5da8dfecb14ece2ef2f", func := "dicebox/diceboxlaw01.NumLeast", spec := "numLeast", unfollowed := true, recurses := true, named := ["math/bits.overflowError"], apart := false }
def NumLeastSaid : Prop := numLeastRow.holds Try.pinned (OpenSpec.ofChange numLeastSpec)

/-- ITS FALSE NEIGHBOUR: 'it returns false'. Refute it at one input. -/
def numLeastWrong : ChangeSpec := { name := "numLeast", fn := fun _ => fun
  | [d1, d2, d3] => { results := [.lit (.bool false)], args := [d1, d2, d3] }
  | _ => none }
def NumLeastWrongFalsely : Prop := numLeastRow.holds Try.pinned (OpenSpec.ofChange numLeastWrong)

/- THE SECOND FORM. 'bulk': how many values and letters a reading holds, each counted each time it is reached (what is shared counts as often as it is met; a slice's spare places count too). A statement '..UptoSaid' is the law's where the arguments, and the package variables that the reading takes, are together of bulk at most 1048576: NARROWER than '..Said'. Prove '..Said' where nothing that the law and all that it calls make is longer than what came in: it says more and counts as full. Else prove '..UptoSaid'. A law counts once. -/
mutual
def uptoBulk {H : Type} : DataW H → Nat
  | .lit (.string bytes) => bytes.length + 1
  | .lit _ => 1
  | .nil => 1
  | .ptr d => uptoBulk d + 1
  | .slice elems spare => uptoBulkAll elems + uptoBulkAll spare + 1
  | .agg parts => uptoBulkAll parts + 1
  | .iface _ d => uptoBulk d + 1
  | .map entries => uptoBulkEntries entries + 1
  | .held _ => 1
def uptoBulkAll {H : Type} : List (DataW H) → Nat
  | [] => 0
  | d :: r => uptoBulk d + uptoBulkAll r
def uptoBulkEntries {H : Type} : List (Lit × DataW H) → Nat
  | [] => 0
  | x :: r => uptoBulkEntry x + uptoBulkEntries r
def uptoBulkEntry {H : Type} : Lit × DataW H → Nat
  | (.string bytes, d) => bytes.length + uptoBulk d + 1
  | (_, d) => uptoBulk d + 1
 end
def uptoSmall : (H : Type) → List (DataW H) → Bool := fun _ ds => decide (uptoBulkAll ds ≤ 1048576)
def OpenSpec.upto (s : _root_.Go.ChangeSpec) : _root_.Go.OpenSpec := { _root_.Go.OpenSpec.ofChange s with cond := some uptoSmall }

/-- 'diceboxlaw01.NumPowers', WHERE WHAT IT READS IS OF BULK AT MOST 1048576: true; the input reads as it did. -/
def numPowersUptoRow : OpenClaim := { program := "ytafjapndilbfcaa", sum := "139570aac1efe5cc6171fb9520d6eccb7d7b39b4814ae5da8dfecb14ece2ef2f", func := "dicebox/diceboxlaw01.NumPowers", spec := "numPowers", unfollowed := true, recurses := true, named := ["math/bits.overflowError"], apart := false, narrowed := true }
def NumPowersUptoSaid : Prop := numPowersUptoRow.holds Try.pinned (OpenSpec.upto numPowersSpec)

/-- 'diceboxlaw01.NumMakes', WHERE WHAT IT READS IS OF BULK AT MOST 1048576: true; the input reads as it did. -/
def numMakesUptoRow : OpenClaim := { program := "ytafjapndilbfcaa", sum := "139570aac1efe5cc6171fb9520d6eccb7d7b39b4814ae5da8dfecb14ece2ef2f", func := "dicebox/diceboxlaw01.NumMakes", spec := "numMakes", unfollowed := true, recurses := true, named := ["math/bits.overflowError"], apart := false, narrowed := true }
def NumMakesUptoSaid : Prop := numMakesUptoRow.holds Try.pinned (OpenSpec.upto numMakesSpec)

/-- 'diceboxlaw01.NumField', WHERE WHAT IT READS IS OF BULK AT MOST 1048576: true; the input reads as it did. -/
def numFieldUptoRow : OpenClaim := { program := "ytafjapndilbfcaa", sum := "139570aac1efe5cc6171fb9520d6eccb7d7b39b4814ae5da8dfecb14ece2ef2f", func := "dicebox/diceboxlaw01.NumField", spec := "numField", unfollowed := true, recurses := true, named := ["math/bits.overflowError"], apart := false, narrowed := true }
def NumFieldUptoSaid : Prop := numFieldUptoRow.holds Try.pinned (OpenSpec.upto numFieldSpec)

/-- 'diceboxlaw01.NumDot', WHERE WHAT IT READS IS OF BULK AT MOST 1048576: true; the input reads as it did. -/
def numDotUptoRow : OpenClaim := { program := "ytafjapndilbfcaa", sum := "139570aac1efe5cc6171fb9520d6eccb7d7b39b4814ae5da8dfecb14ece2ef2f", func := "dicebox/diceboxlaw01.NumDot", spec := "numDot", unfollowed := true, recurses := true, named := ["math/bits.overflowError"], apart := false, narrowed := true }
def NumDotUptoSaid : Prop := numDotUptoRow.holds Try.pinned (OpenSpec.upto numDotSpec)

/-- 'diceboxlaw01.NumArithmetic', WHERE WHAT IT READS IS OF BULK AT MOST 1048576: true; the input reads as it did. -/
def numArithmeticUptoRow : OpenClaim := { program := "ytafjapndilbfcaa", sum := "139570aac1efe5cc6171fb9520d6eccb7d7b39b4814ae5da8dfecb14ece2ef2f", func := "dicebox/diceboxlaw01.NumArithmetic", spec := "numArithmetic", unfollowed := true, recurses := true, named := ["math/bits.overflowError"], apart := false, narrowed := true }
def NumArithmeticUptoSaid : Prop := numArithmeticUptoRow.holds Try.pinned (OpenSpec.upto numArithmeticSpec)

/-- 'diceboxlaw01.NumBetween', WHERE WHAT IT READS IS OF BULK AT MOST 1048576: true; the input reads as it did. -/
def numBetweenUptoRow : OpenClaim := { program := "ytafjapndilbfcaa", sum := "139570aac1efe5cc6171fb9520d6eccb7d7b39b4814ae5da8dfecb14ece2ef2f", func := "dicebox/diceboxlaw01.NumBetween", spec := "numBetween", unfollowed := true, recurses := true, named := ["math/bits.overflowError"], apart := false, narrowed := true }
def NumBetweenUptoSaid : Prop := numBetweenUptoRow.holds Try.pinned (OpenSpec.upto numBetweenSpec)

/-- 'diceboxlaw01.NumLeast', WHERE WHAT IT READS IS OF BULK AT MOST 1048576: true; the input reads as it did. -/
def numLeastUptoRow : OpenClaim := { program := "ytafjapndilbfcaa", sum := "139570aac1efe5cc6171fb9520d6eccb7d7b39b4814ae5da8dfecb14ece2ef2f", func := "dicebox/diceboxlaw01.NumLeast", spec := "numLeast", unfollowed := true, recurses := true, named := ["math/bits.overflowError"], apart := false, narrowed := true }
def NumLeastUptoSaid : Prop := numLeastUptoRow.holds Try.pinned (OpenSpec.upto numLeastSpec)

end Rows
end Go.Proofs.Ytafjapndilbfcaa
