/-
  No cell of these rows narrows 'for every input' (looked for: loops, veiled, ifaces, maps, wideKeys, modest, calm, conditions, laid).
  DERIVED. THE GIVEN ROWS OF THIS SEAT. 2 by the template 'for every input the law returns true; each argument reads behind the call as it read before'; 0 by the template 'total and deterministic' (their statements: YtcdbamkjlghckaaTotals.lean).
  GIVEN WITH THE SEED: the statements are not yours to turn. If you find one false, say at which input.
  Laid BY PROGRAM, IN A SANDBOX (cutbox-rows.mjs): the forced cells as the released guide's own fill.sh prints them over the translation e37b8ad67480c998… (all of the seat's roots in one cut). By AI agents, Wed Nov 11 2026. No macro, syntax, notation, axiom, sorry.
-/
import Derived.Test.YtcdbamkjlghckaaChecked
import GoSem.Claim
import GoSem.ClaimJoined
import GoSem.ClaimMapViews
import Derived.JoinedTies
import Derived.KernelRfl
namespace Go.Proofs.Ytcdbamkjlghckaa
/- THE CELL 'sum', in the pinned program and in every row, IS THE sha256 OF THE DUMP (.gsa) THAT YtcdbamkjlghckaaProg.lean LOADS. Nothing in Lean hashes anything: it is a label: what it is worth is what the hold of that sum in a sandbox is worth. -/
noncomputable def Try.pinned : Pinned := { name := "ytcdbamkjlghckaa", sum := "e37b8ad67480c99895dcbed073ea64b74bdd017ef3c3ca135756c98ef996707f", checked := Try.checked }
namespace Rows
def none {H : Type} : Left H := { results := [], args := [] }

/-- 'pawllaw14.HelpMany': WHATEVER THE INPUT: true; the input reads as it did. -/
def helpManySpec : ChangeSpec := { name := "helpMany", fn := fun _ => fun
  | [d1, d2] => { results := [.lit (.bool true)], args := [d1, d2] }
  | _ => none }
def helpManyRow : OpenClaim := { program := "ytcdbamkjlghckaa", sum := "e37b8ad67480c99895dcbed073ea64b74bdd017ef3c3ca135756c98ef996707f", func := "pawl/pawllaw14.HelpMany", spec := "helpMany", unfollowed := true, recurses := true, apart := false }
def HelpManySaid : Prop := helpManyRow.holds Try.pinned (OpenSpec.ofChange helpManySpec)

/-- ITS FALSE NEIGHBOUR: 'it returns false'. Refute it at one input. -/
def helpManyWrong : ChangeSpec := { name := "helpMany", fn := fun _ => fun
  | [d1, d2] => { results := [.lit (.bool false)], args := [d1, d2] }
  | _ => none }
def HelpManyWrongFalsely : Prop := helpManyRow.holds Try.pinned (OpenSpec.ofChange helpManyWrong)

/-- 'pawllaw14.HelpRace': WHATEVER THE INPUT: true; the input reads as it did. -/
def helpRaceSpec : ChangeSpec := { name := "helpRace", fn := fun _ => fun
  | [d1, d2, d3] => { results := [.lit (.bool true)], args := [d1, d2, d3] }
  | _ => none }
def helpRaceRow : OpenClaim := { program := "ytcdbamkjlghckaa", sum := "e37b8ad67480c99895dcbed073ea64b74bdd017ef3c3ca135756c98ef996707f", func := "pawl/pawllaw14.HelpRace", spec := "helpRace", unfollowed := true, recurses := true, apart := false }
def HelpRaceSaid : Prop := helpRaceRow.holds Try.pinned (OpenSpec.ofChange helpRaceSpec)

/-- ITS FALSE NEIGHBOUR: 'it returns false'. Refute it at one input. -/
def helpRaceWrong : ChangeSpec := { name := "helpRace", fn := fun _ => fun
  | [d1, d2, d3] => { results := [.lit (.bool false)], args := [d1, d2, d3] }
  | _ => none }
def HelpRaceWrongFalsely : Prop := helpRaceRow.holds Try.pinned (OpenSpec.ofChange helpRaceWrong)

/- THE SECOND FORM. 'bulk': how many values and letters a reading holds, each counted each time it is reached (what is shared counts as often as it is met; a slice's spare places count too). A statement '..UptoSaid' is the law's where the arguments, and the package variables that the reading takes, are together of bulk at most 1048576: NARROWER than '..Said'. Prove '..Said' where nothing that the law and all that it calls make is longer than what came in: it says more and counts as full. Else prove '..UptoSaid'. A law counts once. -/
mutual
def uptoBulk {H : Type} : DataW H → Nat
  | .lit (.string bytes) => bytes.length + 1
  | .lit _ => 1
  | .nil => 1
  | .ptr d => uptoBulk d + 1
  | .slice elems spare => uptoBulkAll elems + uptoBulkAll spare + 1
  | .agg parts => uptoBulkAll parts + 1
  | .iface _ d => uptoBulk d + 1
  | .map entries => uptoBulkEntries entries + 1
  | .held _ => 1
def uptoBulkAll {H : Type} : List (DataW H) → Nat
  | [] => 0
  | d :: r => uptoBulk d + uptoBulkAll r
def uptoBulkEntries {H : Type} : List (Lit × DataW H) → Nat
  | [] => 0
  | x :: r => uptoBulkEntry x + uptoBulkEntries r
def uptoBulkEntry {H : Type} : Lit × DataW H → Nat
  | (.string bytes, d) => bytes.length + uptoBulk d + 1
  | (_, d) => uptoBulk d + 1
 end
def uptoSmall : (H : Type) → List (DataW H) → Bool := fun _ ds => decide (uptoBulkAll ds ≤ 1048576)
def OpenSpec.upto (s : _root_.Go.ChangeSpec) : _root_.Go.OpenSpec := { _root_.Go.OpenSpec.ofChange s with cond := some uptoSmall }

/-- 'pawllaw14.HelpMany', WHERE WHAT IT READS IS OF BULK AT MOST 1048576: true; the input reads as it did. -/
def helpManyUptoRow : OpenClaim := { program := "ytcdbamkjlghckaa", sum := "e37b8ad67480c99895dcbed073ea64b74bdd017ef3c3ca135756c98ef996707f", func := "pawl/pawllaw14.HelpMany", spec := "helpMany", unfollowed := true, recurses := true, apart := false, narrowed := true }
def HelpManyUptoSaid : Prop := helpManyUptoRow.holds Try.pinned (OpenSpec.upto helpManySpec)

/-- 'pawllaw14.HelpRace', WHERE WHAT IT READS IS OF BULK AT MOST 1048576: true; the input reads as it did. -/
def helpRaceUptoRow : OpenClaim := { program := "ytcdbamkjlghckaa", sum := "e37b8ad67480c99895dcbed073ea64b74bdd017ef3c3ca135756c98ef996707f", func := "pawl/pawllaw14.HelpRace", spec := "helpRace", unfollowed := true, recurses := true, apart := false, narrowed := true }
def HelpRaceUptoSaid : Prop := helpRaceUptoRow.holds Try.pinned (OpenSpec.upto helpRaceSpec)

end Rows
end Go.Proofs.Ytcdbamkjlghckaa
