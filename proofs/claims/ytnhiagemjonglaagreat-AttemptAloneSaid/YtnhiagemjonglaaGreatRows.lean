/-
  No cell of these rows narrows 'for every input' (looked for: loops, veiled, ifaces, maps, wideKeys, modest, calm, conditions, laid).
  DERIVED. THE GIVEN ROWS OF THIS SEAT. 6 by the template 'for every input the law returns true; each argument reads behind the call as it read before'; 0 by the template 'total and deterministic' (their statements: YtnhiagemjonglaaGreatTotals.lean).
  GIVEN WITH THE SEED: the statements are not yours to turn. If you find one false, say at which input.
  Laid BY PROGRAM, IN A SANDBOX (cutbox-rows.mjs): the forced cells as the released guide's own fill.sh prints them over the translation bd79a4d78e158567… (all of the seat's roots in one cut). By AI agents, Wed Nov 11 2026. No macro, syntax, notation, axiom, sorry.
-/
import Derived.Test.YtnhiagemjonglaaGreatChecked
import GoSem.Claim
import GoSem.ClaimJoined
import GoSem.ClaimMapViews
import Derived.JoinedTies
import Derived.KernelRfl
namespace Go.Proofs.YtnhiagemjonglaaGreat
/- THE CELL 'sum', in the pinned program and in every row, IS THE sha256 OF THE DUMP (.gsa) THAT YtnhiagemjonglaaGreatProg.lean LOADS. Nothing in Lean hashes anything: it is a label: what it is worth is what the hold of that sum in a sandbox is worth. -/
noncomputable def Tryz.pinned : Pinned := { name := "ytnhiagemjonglaagreat", sum := "bd79a4d78e158567074022ab0d7f88e9c05b669125911cf2a659751933b8afbf", checked := Tryz.checked }
namespace Rows
def none {H : Type} : Left H := { results := [], args := [] }

/-- 'pawllaw17.AttemptForms': WHATEVER THE INPUT: true; the input reads as it did. -/
def attemptFormsSpec : ChangeSpec := { name := "attemptForms", fn := fun _ => fun
  | [d1, d2] => { results := [.lit (.bool true)], args := [d1, d2] }
  | _ => none }
def attemptFormsRow : OpenClaim := { program := "ytnhiagemjonglaagreat", sum := "bd79a4d78e158567074022ab0d7f88e9c05b669125911cf2a659751933b8afbf", func := "pawl/pawllaw17.AttemptForms", spec := "attemptForms", unfollowed := true, recurses := true, apart := false }
def AttemptFormsSaid : Prop := attemptFormsRow.holds Tryz.pinned (OpenSpec.ofChange attemptFormsSpec)

/-- ITS FALSE NEIGHBOUR: 'it returns false'. Refute it at one input. -/
def attemptFormsWrong : ChangeSpec := { name := "attemptForms", fn := fun _ => fun
  | [d1, d2] => { results := [.lit (.bool false)], args := [d1, d2] }
  | _ => none }
def AttemptFormsWrongFalsely : Prop := attemptFormsRow.holds Tryz.pinned (OpenSpec.ofChange attemptFormsWrong)

/-- 'pawllaw17.AttemptAlone': WHATEVER THE INPUT: true; the input reads as it did. -/
def attemptAloneSpec : ChangeSpec := { name := "attemptAlone", fn := fun _ => fun
  | [d1, d2, d3, d4] => { results := [.lit (.bool true)], args := [d1, d2, d3, d4] }
  | _ => none }
def attemptAloneRow : OpenClaim := { program := "ytnhiagemjonglaagreat", sum := "bd79a4d78e158567074022ab0d7f88e9c05b669125911cf2a659751933b8afbf", func := "pawl/pawllaw17.AttemptAlone", spec := "attemptAlone", unfollowed := true, recurses := true, apart := false }
def AttemptAloneSaid : Prop := attemptAloneRow.holds Tryz.pinned (OpenSpec.ofChange attemptAloneSpec)

/-- ITS FALSE NEIGHBOUR: 'it returns false'. Refute it at one input. -/
def attemptAloneWrong : ChangeSpec := { name := "attemptAlone", fn := fun _ => fun
  | [d1, d2, d3, d4] => { results := [.lit (.bool false)], args := [d1, d2, d3, d4] }
  | _ => none }
def AttemptAloneWrongFalsely : Prop := attemptAloneRow.holds Tryz.pinned (OpenSpec.ofChange attemptAloneWrong)

/-- 'pawllaw17.AttemptTwo': WHATEVER THE INPUT: true; the input reads as it did. -/
def attemptTwoSpec : ChangeSpec := { name := "attemptTwo", fn := fun _ => fun
  | [d1, d2, d3, d4] => { results := [.lit (.bool true)], args := [d1, d2, d3, d4] }
  | _ => none }
def attemptTwoRow : OpenClaim := { program := "ytnhiagemjonglaagreat", sum := "bd79a4d78e158567074022ab0d7f88e9c05b669125911cf2a659751933b8afbf", func := "pawl/pawllaw17.AttemptTwo", spec := "attemptTwo", unfollowed := true, recurses := true, apart := false }
def AttemptTwoSaid : Prop := attemptTwoRow.holds Tryz.pinned (OpenSpec.ofChange attemptTwoSpec)

/-- ITS FALSE NEIGHBOUR: 'it returns false'. Refute it at one input. -/
def attemptTwoWrong : ChangeSpec := { name := "attemptTwo", fn := fun _ => fun
  | [d1, d2, d3, d4] => { results := [.lit (.bool false)], args := [d1, d2, d3, d4] }
  | _ => none }
def AttemptTwoWrongFalsely : Prop := attemptTwoRow.holds Tryz.pinned (OpenSpec.ofChange attemptTwoWrong)

/-- 'pawllaw17.AttemptStale': WHATEVER THE INPUT: true; the input reads as it did. -/
def attemptStaleSpec : ChangeSpec := { name := "attemptStale", fn := fun _ => fun
  | [d1, d2, d3, d4] => { results := [.lit (.bool true)], args := [d1, d2, d3, d4] }
  | _ => none }
def attemptStaleRow : OpenClaim := { program := "ytnhiagemjonglaagreat", sum := "bd79a4d78e158567074022ab0d7f88e9c05b669125911cf2a659751933b8afbf", func := "pawl/pawllaw17.AttemptStale", spec := "attemptStale", unfollowed := true, recurses := true, apart := false }
def AttemptStaleSaid : Prop := attemptStaleRow.holds Tryz.pinned (OpenSpec.ofChange attemptStaleSpec)

/-- ITS FALSE NEIGHBOUR: 'it returns false'. Refute it at one input. -/
def attemptStaleWrong : ChangeSpec := { name := "attemptStale", fn := fun _ => fun
  | [d1, d2, d3, d4] => { results := [.lit (.bool false)], args := [d1, d2, d3, d4] }
  | _ => none }
def AttemptStaleWrongFalsely : Prop := attemptStaleRow.holds Tryz.pinned (OpenSpec.ofChange attemptStaleWrong)

/-- 'pawllaw17.Attempts': WHATEVER THE INPUT: true; the input reads as it did. -/
def attemptsSpec : ChangeSpec := { name := "attempts", fn := fun _ => fun
  | [d1, d2, d3, d4] => { results := [.lit (.bool true)], args := [d1, d2, d3, d4] }
  | _ => none }
def attemptsRow : OpenClaim := { program := "ytnhiagemjonglaagreat", sum := "bd79a4d78e158567074022ab0d7f88e9c05b669125911cf2a659751933b8afbf", func := "pawl/pawllaw17.Attempts", spec := "attempts", unfollowed := true, recurses := true, apart := false }
def AttemptsSaid : Prop := attemptsRow.holds Tryz.pinned (OpenSpec.ofChange attemptsSpec)

/-- ITS FALSE NEIGHBOUR: 'it returns false'. Refute it at one input. -/
def attemptsWrong : ChangeSpec := { name := "attempts", fn := fun _ => fun
  | [d1, d2, d3, d4] => { results := [.lit (.bool false)], args := [d1, d2, d3, d4] }
  | _ => none }
def AttemptsWrongFalsely : Prop := attemptsRow.holds Tryz.pinned (OpenSpec.ofChange attemptsWrong)

/-- 'pawllaw17.AttemptThrough': WHATEVER THE INPUT: true; the input reads as it did. -/
def attemptThroughSpec : ChangeSpec := { name := "attemptThrough", fn := fun _ => fun
  | [d1, d2, d3] => { results := [.lit (.bool true)], args := [d1, d2, d3] }
  | _ => none }
def attemptThroughRow : OpenClaim := { program := "ytnhiagemjonglaagreat", sum := "bd79a4d78e158567074022ab0d7f88e9c05b669125911cf2a659751933b8afbf", func := "pawl/pawllaw17.AttemptThrough", spec := "attemptThrough", unfollowed := true, recurses := true, apart := false }
def AttemptThroughSaid : Prop := attemptThroughRow.holds Tryz.pinned (OpenSpec.ofChange attemptThroughSpec)

/-- ITS FALSE NEIGHBOUR: 'it returns false'. Refute it at one input. -/
def attemptThroughWrong : ChangeSpec := { name := "attemptThrough", fn := fun _ => fun
  | [d1, d2, d3] => { results := [.lit (.bool false)], args := [d1, d2, d3] }
  | _ => none }
def AttemptThroughWrongFalsely : Prop := attemptThroughRow.holds Tryz.pinned (OpenSpec.ofChange attemptThroughWrong)

/- THE SECOND FORM. 'bulk': how many values and letters a reading holds, each counted each time it is reached (what is shared counts as often as it is met; a slice's spare places count too). A statement '..UptoSaid' is the law's where the arguments, and the package variables that the reading takes, are together of bulk at most 1048576: NARROWER than '..Said'. Prove '..Said' where nothing that the law and all that it calls make is longer than what came in: it says more and counts as full. Else prove '..UptoSaid'. A law counts once. -/
mutual
def uptoBulk {H : Type} : DataW H → Nat
  | .lit (.string bytes) => bytes.length + 1
  | .lit _ => 1
  | .nil => 1
  | .ptr d => uptoBulk d + 1
  | .slice elems spare => uptoBulkAll elems + uptoBulkAll spare + 1
  | .agg parts => uptoBulkAll parts + 1
  | .iface _ d => uptoBulk d + 1
  | .map entries => uptoBulkEntries entries + 1
  | .held _ => 1
def uptoBulkAll {H : Type} : List (DataW H) → Nat
  | [] => 0
  | d :: r => uptoBulk d + uptoBulkAll r
def uptoBulkEntries {H : Type} : List (Lit × DataW H) → Nat
  | [] => 0
  | x :: r => uptoBulkEntry x + uptoBulkEntries r
def uptoBulkEntry {H : Type} : Lit × DataW H → Nat
  | (.string bytes, d) => bytes.length + uptoBulk d + 1
  | (_, d) => uptoBulk d + 1
 end
def uptoSmall : (H : Type) → List (DataW H) → Bool := fun _ ds => decide (uptoBulkAll ds ≤ 1048576)
def OpenSpec.upto (s : _root_.Go.ChangeSpec) : _root_.Go.OpenSpec := { _root_.Go.OpenSpec.ofChange s with cond := some uptoSmall }

/-- 'pawllaw17.AttemptForms', WHERE WHAT IT READS IS OF BULK AT MOST 1048576: true; the input reads as it did. -/
def attemptFormsUptoRow : OpenClaim := { program := "ytnhiagemjonglaagreat", sum := "bd79a4d78e158567074022ab0d7f88e9c05b669125911cf2a659751933b8afbf", func := "pawl/pawllaw17.AttemptForms", spec := "attemptForms", unfollowed := true, recurses := true, apart := false, narrowed := true }
def AttemptFormsUptoSaid : Prop := attemptFormsUptoRow.holds Tryz.pinned (OpenSpec.upto attemptFormsSpec)

/-- 'pawllaw17.AttemptAlone', WHERE WHAT IT READS IS OF BULK AT MOST 1048576: true; the input reads as it did. -/
def attemptAloneUptoRow : OpenClaim := { program := "ytnhiagemjonglaagreat", sum := "bd79a4d78e158567074022ab0d7f88e9c05b669125911cf2a659751933b8afbf", func := "pawl/pawllaw17.AttemptAlone", spec := "attemptAlone", unfollowed := true, recurses := true, apart := false, narrowed := true }
def AttemptAloneUptoSaid : Prop := attemptAloneUptoRow.holds Tryz.pinned (OpenSpec.upto attemptAloneSpec)

/-- 'pawllaw17.AttemptTwo', WHERE WHAT IT READS IS OF BULK AT MOST 1048576: true; the input reads as it did. -/
def attemptTwoUptoRow : OpenClaim := { program := "ytnhiagemjonglaagreat", sum := "bd79a4d78e158567074022ab0d7f88e9c05b669125911cf2a659751933b8afbf", func := "pawl/pawllaw17.AttemptTwo", spec := "attemptTwo", unfollowed := true, recurses := true, apart := false, narrowed := true }
def AttemptTwoUptoSaid : Prop := attemptTwoUptoRow.holds Tryz.pinned (OpenSpec.upto attemptTwoSpec)

/-- 'pawllaw17.AttemptStale', WHERE WHAT IT READS IS OF BULK AT MOST 1048576: true; the input reads as it did. -/
def attemptStaleUptoRow : OpenClaim := { program := "ytnhiagemjonglaagreat", sum := "bd79a4d78e158567074022ab0d7f88e9c05b669125911cf2a659751933b8afbf", func := "pawl/pawllaw17.AttemptStale", spec := "attemptStale", unfollowed := true, recurses := true, apart := false, narrowed := true }
def AttemptStaleUptoSaid : Prop := attemptStaleUptoRow.holds Tryz.pinned (OpenSpec.upto attemptStaleSpec)

/-- 'pawllaw17.Attempts', WHERE WHAT IT READS IS OF BULK AT MOST 1048576: true; the input reads as it did. -/
def attemptsUptoRow : OpenClaim := { program := "ytnhiagemjonglaagreat", sum := "bd79a4d78e158567074022ab0d7f88e9c05b669125911cf2a659751933b8afbf", func := "pawl/pawllaw17.Attempts", spec := "attempts", unfollowed := true, recurses := true, apart := false, narrowed := true }
def AttemptsUptoSaid : Prop := attemptsUptoRow.holds Tryz.pinned (OpenSpec.upto attemptsSpec)

/-- 'pawllaw17.AttemptThrough', WHERE WHAT IT READS IS OF BULK AT MOST 1048576: true; the input reads as it did. -/
def attemptThroughUptoRow : OpenClaim := { program := "ytnhiagemjonglaagreat", sum := "bd79a4d78e158567074022ab0d7f88e9c05b669125911cf2a659751933b8afbf", func := "pawl/pawllaw17.AttemptThrough", spec := "attemptThrough", unfollowed := true, recurses := true, apart := false, narrowed := true }
def AttemptThroughUptoSaid : Prop := attemptThroughUptoRow.holds Tryz.pinned (OpenSpec.upto attemptThroughSpec)

end Rows
end Go.Proofs.YtnhiagemjonglaaGreat
