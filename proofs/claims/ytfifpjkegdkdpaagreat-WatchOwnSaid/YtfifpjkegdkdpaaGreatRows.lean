/-
  No cell of these rows narrows 'for every input' (looked for: loops, veiled, ifaces, maps, wideKeys, modest, calm, conditions, laid).
  DERIVED. THE GIVEN ROWS OF THIS SEAT. 3 by the template 'for every input the law returns true; each argument reads behind the call as it read before'; 0 by the template 'total and deterministic' (their statements: YtfifpjkegdkdpaaGreatTotals.lean).
  GIVEN WITH THE SEED: the statements are not yours to turn. If you find one false, say at which input.
  Laid BY PROGRAM, IN A SANDBOX (cutbox-rows.mjs): the forced cells as the released guide's own fill.sh prints them over the translation db5fc3f12deba96b… (all of the seat's roots in one cut). By AI agents, Wed Nov 11 2026. No macro, syntax, notation, axiom, sorry.
-/
import Derived.Test.YtfifpjkegdkdpaaGreatChecked
import GoSem.Claim
import GoSem.ClaimJoined
import GoSem.ClaimMapViews
import Derived.JoinedTies
import Derived.KernelRfl
namespace Go.Proofs.YtfifpjkegdkdpaaGreat
/- THE CELL 'sum', in the pinned program and in every row, IS THE sha256 OF THE DUMP (.gsa) THAT YtfifpjkegdkdpaaGreatProg.lean LOADS. Nothing in Lean hashes anything: it is a label: what it is worth is what the hold of that sum in a sandbox is worth. -/
noncomputable def Tryz.pinned : Pinned := { name := "ytfifpjkegdkdpaagreat", sum := "db5fc3f12deba96bb1365f25851aa8f7ef46fac507e607de7191925393e6ead6", checked := Tryz.checked }
namespace Rows
def none {H : Type} : Left H := { results := [], args := [] }

/-- 'diceboxlaw20.WatchLaws': WHATEVER THE INPUT: true; the input reads as it did. -/
def watchLawsSpec : ChangeSpec := { name := "watchLaws", fn := fun _ => fun
  | [d1, d2, d3, d4, d5] => { results := [.lit (.bool true)], args := [d1, d2, d3, d4, d5] }
  | _ => none }
def watchLawsRow : OpenClaim := { program := "ytfifpjkegdkdpaagreat", sum := "db5fc3f12deba96bb1365f25851aa8f7ef46fac507e607de7191925393e6ead6", func := "dicebox/diceboxlaw20.WatchLaws", spec := "watchLaws", unfollowed := true, recurses := true, named := ["math/bits.overflowError"], apart := false }
def WatchLawsSaid : Prop := watchLawsRow.holds Tryz.pinned (OpenSpec.ofChange watchLawsSpec)

/-- ITS FALSE NEIGHBOUR: 'it returns false'. Refute it at one input. -/
def watchLawsWrong : ChangeSpec := { name := "watchLaws", fn := fun _ => fun
  | [d1, d2, d3, d4, d5] => { results := [.lit (.bool false)], args := [d1, d2, d3, d4, d5] }
  | _ => none }
def WatchLawsWrongFalsely : Prop := watchLawsRow.holds Tryz.pinned (OpenSpec.ofChange watchLawsWrong)

/-- 'diceboxlaw20.WatchThen': WHATEVER THE INPUT: true; the input reads as it did. -/
def watchThenSpec : ChangeSpec := { name := "watchThen", fn := fun _ => fun
  | [d1, d2, d3, d4] => { results := [.lit (.bool true)], args := [d1, d2, d3, d4] }
  | _ => none }
def watchThenRow : OpenClaim := { program := "ytfifpjkegdkdpaagreat", sum := "db5fc3f12deba96bb1365f25851aa8f7ef46fac507e607de7191925393e6ead6", func := "dicebox/diceboxlaw20.WatchThen", spec := "watchThen", unfollowed := true, recurses := true, named := ["math/bits.overflowError"], apart := false }
def WatchThenSaid : Prop := watchThenRow.holds Tryz.pinned (OpenSpec.ofChange watchThenSpec)

/-- ITS FALSE NEIGHBOUR: 'it returns false'. Refute it at one input. -/
def watchThenWrong : ChangeSpec := { name := "watchThen", fn := fun _ => fun
  | [d1, d2, d3, d4] => { results := [.lit (.bool false)], args := [d1, d2, d3, d4] }
  | _ => none }
def WatchThenWrongFalsely : Prop := watchThenRow.holds Tryz.pinned (OpenSpec.ofChange watchThenWrong)

/-- 'diceboxlaw20.WatchOwn': WHATEVER THE INPUT: true; the input reads as it did. -/
def watchOwnSpec : ChangeSpec := { name := "watchOwn", fn := fun _ => fun
  | [d1, d2, d3, d4, d5, d6] => { results := [.lit (.bool true)], args := [d1, d2, d3, d4, d5, d6] }
  | _ => none }
def watchOwnRow : OpenClaim := { program := "ytfifpjkegdkdpaagreat", sum := "db5fc3f12deba96bb1365f25851aa8f7ef46fac507e607de7191925393e6ead6", func := "dicebox/diceboxlaw20.WatchOwn", spec := "watchOwn", unfollowed := true, recurses := true, named := ["math/bits.overflowError"], apart := false }
def WatchOwnSaid : Prop := watchOwnRow.holds Tryz.pinned (OpenSpec.ofChange watchOwnSpec)

/-- ITS FALSE NEIGHBOUR: 'it returns false'. Refute it at one input. -/
def watchOwnWrong : ChangeSpec := { name := "watchOwn", fn := fun _ => fun
  | [d1, d2, d3, d4, d5, d6] => { results := [.lit (.bool false)], args := [d1, d2, d3, d4, d5, d6] }
  | _ => none }
def WatchOwnWrongFalsely : Prop := watchOwnRow.holds Tryz.pinned (OpenSpec.ofChange watchOwnWrong)

/- THE SECOND FORM. 'bulk': how many values and letters a reading holds, each counted each time it is reached (what is shared counts as often as it is met; a slice's spare places count too). A statement '..UptoSaid' is the law's where the arguments, and the package variables that the reading takes, are together of bulk at most 1048576: NARROWER than '..Said'. Prove '..Said' where nothing that the law and all that it calls make is longer than what came in: it says more and counts as full. Else prove '..UptoSaid'. A law counts once. -/
mutual
def uptoBulk {H : Type} : DataW H → Nat
  | .lit (.string bytes) => bytes.length + 1
  | .lit _ => 1
  | .nil => 1
  | .ptr d => uptoBulk d + 1
  | .slice elems spare => uptoBulkAll elems + uptoBulkAll spare + 1
  | .agg parts => uptoBulkAll parts + 1
  | .iface _ d => uptoBulk d + 1
  | .map entries => uptoBulkEntries entries + 1
  | .held _ => 1
def uptoBulkAll {H : Type} : List (DataW H) → Nat
  | [] => 0
  | d :: r => uptoBulk d + uptoBulkAll r
def uptoBulkEntries {H : Type} : List (Lit × DataW H) → Nat
  | [] => 0
  | x :: r => uptoBulkEntry x + uptoBulkEntries r
def uptoBulkEntry {H : Type} : Lit × DataW H → Nat
  | (.string bytes, d) => bytes.length + uptoBulk d + 1
  | (_, d) => uptoBulk d + 1
 end
def uptoSmall : (H : Type) → List (DataW H) → Bool := fun _ ds => decide (uptoBulkAll ds ≤ 1048576)
def OpenSpec.upto (s : _root_.Go.ChangeSpec) : _root_.Go.OpenSpec := { _root_.Go.OpenSpec.ofChange s with cond := some uptoSmall }

/-- 'diceboxlaw20.WatchLaws', WHERE WHAT IT READS IS OF BULK AT MOST 1048576: true; the input reads as it did. -/
def watchLawsUptoRow : OpenClaim := { program := "ytfifpjkegdkdpaagreat", sum := "db5fc3f12deba96bb1365f25851aa8f7ef46fac507e607de7191925393e6ead6", func := "dicebox/diceboxlaw20.WatchLaws", spec := "watchLaws", unfollowed := true, recurses := true, named := ["math/bits.overflowError"], apart := false, narrowed := true }
def WatchLawsUptoSaid : Prop := watchLawsUptoRow.holds Tryz.pinned (OpenSpec.upto watchLawsSpec)

/-- 'diceboxlaw20.WatchThen', WHERE WHAT IT READS IS OF BULK AT MOST 1048576: true; the input reads as it did. -/
def watchThenUptoRow : OpenClaim := { program := "ytfifpjkegdkdpaagreat", sum := "db5fc3f12deba96bb1365f25851aa8f7ef46fac507e607de7191925393e6ead6", func := "dicebox/diceboxlaw20.WatchThen", spec := "watchThen", unfollowed := true, recurses := true, named := ["math/bits.overflowError"], apart := false, narrowed := true }
def WatchThenUptoSaid : Prop := watchThenUptoRow.holds Tryz.pinned (OpenSpec.upto watchThenSpec)

/-- 'diceboxlaw20.WatchOwn', WHERE WHAT IT READS IS OF BULK AT MOST 1048576: true; the input reads as it did. -/
def watchOwnUptoRow : OpenClaim := { program := "ytfifpjkegdkdpaagreat", sum := "db5fc3f12deba96bb1365f25851aa8f7ef46fac507e607de7191925393e6ead6", func := "dicebox/diceboxlaw20.WatchOwn", spec := "watchOwn", unfollowed := true, recurses := true, named := ["math/bits.overflowError"], apart := false, narrowed := true }
def WatchOwnUptoSaid : Prop := watchOwnUptoRow.holds Tryz.pinned (OpenSpec.upto watchOwnSpec)

end Rows
end Go.Proofs.YtfifpjkegdkdpaaGreat
