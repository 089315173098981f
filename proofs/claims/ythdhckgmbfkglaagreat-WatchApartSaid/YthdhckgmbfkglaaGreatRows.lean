/-
  No cell of these rows narrows 'for every input' (looked for: loops, veiled, ifaces, maps, wideKeys, modest, calm, conditions, laid).
  DERIVED. THE GIVEN ROWS OF THIS SEAT. 3 by the template 'for every input the law returns true; each argument reads behind the call as it read before'; 0 by the template 'total and deterministic' (their statements: YthdhckgmbfkglaaGreatTotals.lean).
  GIVEN WITH THE SEED: the statements are not yours to turn. If you find one false, say at which input.
  Laid BY PROGRAM, IN A SANDBOX (cutbox-rows.mjs): the forced cells as the released guide's own fill.sh prints them over the translation 3d24fedc123f0982… (all of the seat's roots in one cut). By AI agents, Wed Nov 11 2026. No macro, syntax, notation, axiom, sorry.
-/
import Derived.Test.YthdhckgmbfkglaaGreatChecked
import GoSem.Claim
import GoSem.ClaimJoined
import GoSem.ClaimMapViews
import Derived.JoinedTies
import Derived.KernelRfl
namespace Go.Proofs.YthdhckgmbfkglaaGreat
/- THE CELL 'sum', in the pinned program and in every row, IS THE sha256 OF THE DUMP (.gsa) THAT YthdhckgmbfkglaaGreatProg.lean LOADS. Nothing in Lean hashes anything: it is a label: what it is worth is what the hold of that sum in a sandbox is worth. -/
noncomputable def Tryz.pinned : Pinned := { name := "ythdhckgmbfkglaagreat", sum := "3d24fedc123f0982f4672f6aeada253cb8362de8dc998f917b7cb1d89048f16e", checked := Tryz.checked }
namespace Rows
def none {H : Type} : Left H := { results := [], args := [] }

/-- 'diceboxlaw20.WatchNow': WHATEVER THE INPUT: true; the input reads as it did. -/
def watchNowSpec : ChangeSpec := { name := "watchNow", fn := fun _ => fun
  | [d1, d2, d3] => { results := [.lit (.bool true)], args := [d1, d2, d3] }
  | _ => none }
def watchNowRow : OpenClaim := { program := "ythdhckgmbfkglaagreat", sum := "3d24fedc123f0982f4672f6aeada253cb8362de8dc998f917b7cb1d89048f16e", func := "dicebox/diceboxlaw20.WatchNow", spec := "watchNow", unfollowed := true, recurses := true, named := ["math/bits.overflowError"], apart := false }
def WatchNowSaid : Prop := watchNowRow.holds Tryz.pinned (OpenSpec.ofChange watchNowSpec)

/-- ITS FALSE NEIGHBOUR: 'it returns false'. Refute it at one input. -/
def watchNowWrong : ChangeSpec := { name := "watchNow", fn := fun _ => fun
  | [d1, d2, d3] => { results := [.lit (.bool false)], args := [d1, d2, d3] }
  | _ => none }
def WatchNowWrongFalsely : Prop := watchNowRow.holds Tryz.pinned (OpenSpec.ofChange watchNowWrong)

/-- 'diceboxlaw20.WatchApart': WHATEVER THE INPUT: true; the input reads as it did. -/
def watchApartSpec : ChangeSpec := { name := "watchApart", fn := fun _ => fun
  | [d1, d2, d3] => { results := [.lit (.bool true)], args := [d1, d2, d3] }
  | _ => none }
def watchApartRow : OpenClaim := { program := "ythdhckgmbfkglaagreat", sum := "3d24fedc123f0982f4672f6aeada253cb8362de8dc998f917b7cb1d89048f16e", func := "dicebox/diceboxlaw20.WatchApart", spec := "watchApart", unfollowed := true, recurses := true, named := ["math/bits.overflowError"], apart := false }
def WatchApartSaid : Prop := watchApartRow.holds Tryz.pinned (OpenSpec.ofChange watchApartSpec)

/-- ITS FALSE NEIGHBOUR: 'it returns false'. Refute it at one input. -/
def watchApartWrong : ChangeSpec := { name := "watchApart", fn := fun _ => fun
  | [d1, d2, d3] => { results := [.lit (.bool false)], args := [d1, d2, d3] }
  | _ => none }
def WatchApartWrongFalsely : Prop := watchApartRow.holds Tryz.pinned (OpenSpec.ofChange watchApartWrong)

/-- 'diceboxlaw20.WatchCoin': WHATEVER THE INPUT: true; the input reads as it did. -/
def watchCoinSpec : ChangeSpec := { name := "watchCoin", fn := fun _ => fun
  | [d1, d2] => { results := [.lit (.bool true)], args := [d1, d2] }
  | _ => none }
def watchCoinRow : OpenClaim := { program := "ythdhckgmbfkglaagreat", sum := "3d24fedc123f0982f4672f6aeada253cb8362de8dc998f917b7cb1d89048f16e", func := "dicebox/diceboxlaw20.WatchCoin", spec := "watchCoin", unfollowed := true, recurses := true, named := ["math/bits.overflowError"], apart := false }
def WatchCoinSaid : Prop := watchCoinRow.holds Tryz.pinned (OpenSpec.ofChange watchCoinSpec)

/-- ITS FALSE NEIGHBOUR: 'it returns false'. Refute it at one input. -/
def watchCoinWrong : ChangeSpec := { name := "watchCoin", fn := fun _ => fun
  | [d1, d2] => { results := [.lit (.bool false)], args := [d1, d2] }
  | _ => none }
def WatchCoinWrongFalsely : Prop := watchCoinRow.holds Tryz.pinned (OpenSpec.ofChange watchCoinWrong)

/- THE SECOND FORM. 'bulk': how many values and letters a reading holds, each counted each time it is reached (what is shared counts as often as it is met; a slice's spare places count too). A statement '..UptoSaid' is the law's where the arguments, and the package variables that the reading takes, are together of bulk at most 1048576: NARROWER than '..Said'. Prove '..Said' where nothing that the law and all that it calls make is longer than what came in: it says more and counts as full. Else prove '..UptoSaid'. A law counts once. -/
mutual
def uptoBulk {H : Type} : DataW H → Nat
  | .lit (.string bytes) => bytes.length + 1
  | .lit _ => 1
  | .nil => 1
  | .ptr d => uptoBulk d + 1
  | .slice elems spare => uptoBulkAll elems + uptoBulkAll spare + 1
  | .agg parts => uptoBulkAll parts + 1
  | .iface _ d => uptoBulk d + 1
  | .map entries => uptoBulkEntries entries + 1
  | .held _ => 1
def uptoBulkAll {H : Type} : List (DataW H) → Nat
  | [] => 0
  | d :: r => uptoBulk d + uptoBulkAll r
def uptoBulkEntries {H : Type} : List (Lit × DataW H) → Nat
  | [] => 0
  | x :: r => uptoBulkEntry x + uptoBulkEntries r
def uptoBulkEntry {H : Type} : Lit × DataW H → Nat
  | (.string bytes, d) => bytes.length + uptoBulk d + 1
  | (_, d) => uptoBulk d + 1
 end
def uptoSmall : (H : Type) → List (DataW H) → Bool := fun _ ds => decide (uptoBulkAll ds ≤ 1048576)
def OpenSpec.upto (s : _root_.Go.ChangeSpec) : _root_.Go.OpenSpec := { _root_.Go.OpenSpec.ofChange s with cond := some uptoSmall }

/-- 'diceboxlaw20.WatchNow', WHERE WHAT IT READS IS OF BULK AT MOST 1048576: true; the input reads as it did. -/
def watchNowUptoRow : OpenClaim := { program := "ythdhckgmbfkglaagreat", sum := "3d24fedc123f0982f4672f6aeada253cb8362de8dc998f917b7cb1d89048f16e", func := "dicebox/diceboxlaw20.WatchNow", spec := "watchNow", unfollowed := true, recurses := true, named := ["math/bits.overflowError"], apart := false, narrowed := true }
def WatchNowUptoSaid : Prop := watchNowUptoRow.holds Tryz.pinned (OpenSpec.upto watchNowSpec)

/-- 'diceboxlaw20.WatchApart', WHERE WHAT IT READS IS OF BULK AT MOST 1048576: true; the input reads as it did. -/
def watchApartUptoRow : OpenClaim := { program := "ythdhckgmbfkglaagreat", sum := "3d24fedc123f0982f4672f6aeada253cb8362de8dc998f917b7cb1d89048f16e", func := "dicebox/diceboxlaw20.WatchApart", spec := "watchApart", unfollowed := true, recurses := true, named := ["math/bits.overflowError"], apart := false, narrowed := true }
def WatchApartUptoSaid : Prop := watchApartUptoRow.holds Tryz.pinned (OpenSpec.upto watchApartSpec)

/-- 'diceboxlaw20.WatchCoin', WHERE WHAT IT READS IS OF BULK AT MOST 1048576: true; the input reads as it did. -/
def watchCoinUptoRow : OpenClaim := { program := "ythdhckgmbfkglaagreat", sum := "3d24fedc123f0982f4672f6aeada253cb8362de8dc998f917b7cb1d89048f16e", func := "dicebox/diceboxlaw20.WatchCoin", spec := "watchCoin", unfollowed := true, recurses := true, named := ["math/bits.overflowError"], apart := false, narrowed := true }
def WatchCoinUptoSaid : Prop := watchCoinUptoRow.holds Tryz.pinned (OpenSpec.upto watchCoinSpec)

end Rows
end Go.Proofs.YthdhckgmbfkglaaGreat
