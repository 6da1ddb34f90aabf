/-
  No cell of these rows narrows 'for every input' (looked for: loops, veiled, ifaces, maps, wideKeys, modest, calm, conditions, laid).
  DERIVED. THE GIVEN ROWS OF THIS SEAT. 3 by the template 'for every input the law returns true; each argument reads behind the call as it read before'; 0 by the template 'total and deterministic' (their statements: YtkcgphbgbibhfaaTotals.lean).
  GIVEN WITH THE SEED: the statements are not yours to turn. If you find one false, say at which input.
  Laid BY PROGRAM, IN A SANDBOX (cutbox-rows.mjs): the forced cells as the released guide's own fill.sh prints them over the translation c481262e3037277d… (all of the seat's roots in one cut). By AI agents, Wed Nov 11 2026. No macro, syntax, notation, axiom, sorry.
-/
import Derived.Test.YtkcgphbgbibhfaaChecked
import GoSem.Claim
import GoSem.ClaimJoined
import GoSem.ClaimMapViews
import Derived.JoinedTies
import Derived.KernelRfl
namespace Go.Proofs.Ytkcgphbgbibhfaa
/- THE CELL 'sum', in the pinned program and in every row, IS THE sha256 OF THE DUMP (.gsa) THAT YtkcgphbgbibhfaaProg.lean LOADS. Nothing in Lean hashes anything: it is a label: what it is worth is what the hold of that sum in a sandbox is worth. -/
noncomputable def Try.pinned : Pinned := { name := "ytkcgphbgbibhfaa", sum := "c481262e3037277d2c607e8f55fc676a9d720a53b12903c9ae5c2a0de7ba22d7", checked := Try.checked }
namespace Rows
def none {H : Type} : Left H := { results := [], args := [] }

/-- 'pawllaw25.Tallies': WHATEVER THE INPUT: true; the input reads as it did. -/
def talliesSpec : ChangeSpec := { name := "tallies", fn := fun _ => fun
  | [d1, d2] => { results := [.lit (.bool true)], args := [d1, d2] }
  | _ => none }
def talliesRow : OpenClaim := { program := "ytkcgphbgbibhfaa", sum := "c481262e3037277d2c607e8f55fc676a9d720a53b12903c9ae5c2a0de7ba22d7", func := "pawl/pawllaw25.Tallies", spec := "tallies", apart := false }
def TalliesSaid : Prop := talliesRow.holds Try.pinned (OpenSpec.ofChange talliesSpec)

/-- ITS FALSE NEIGHBOUR: 'it returns false'. Refute it at one input. -/
def talliesWrong : ChangeSpec := { name := "tallies", fn := fun _ => fun
  | [d1, d2] => { results := [.lit (.bool false)], args := [d1, d2] }
  | _ => none }
def TalliesWrongFalsely : Prop := talliesRow.holds Try.pinned (OpenSpec.ofChange talliesWrong)

/-- 'pawllaw25.TallySums': WHATEVER THE INPUT: true; the input reads as it did. -/
def tallySumsSpec : ChangeSpec := { name := "tallySums", fn := fun _ => fun
  | [d1, d2] => { results := [.lit (.bool true)], args := [d1, d2] }
  | _ => none }
def tallySumsRow : OpenClaim := { program := "ytkcgphbgbibhfaa", sum := "c481262e3037277d2c607e8f55fc676a9d720a53b12903c9ae5c2a0de7ba22d7", func := "pawl/pawllaw25.TallySums", spec := "tallySums", apart := false }
def TallySumsSaid : Prop := tallySumsRow.holds Try.pinned (OpenSpec.ofChange tallySumsSpec)

/-- ITS FALSE NEIGHBOUR: 'it returns false'. Refute it at one input. -/
def tallySumsWrong : ChangeSpec := { name := "tallySums", fn := fun _ => fun
  | [d1, d2] => { results := [.lit (.bool false)], args := [d1, d2] }
  | _ => none }
def TallySumsWrongFalsely : Prop := tallySumsRow.holds Try.pinned (OpenSpec.ofChange tallySumsWrong)

/-- 'pawllaw25.TallyForms': WHATEVER THE INPUT: true; the input reads as it did. -/
def tallyFormsSpec : ChangeSpec := { name := "tallyForms", fn := fun _ => fun
  | [d1, d2] => { results := [.lit (.bool true)], args := [d1, d2] }
  | _ => none }
def tallyFormsRow : OpenClaim := { program := "ytkcgphbgbibhfaa", sum := "c481262e3037277d2c607e8f55fc676a9d720a53b12903c9ae5c2a0de7ba22d7", func := "pawl/pawllaw25.TallyForms", spec := "tallyForms", apart := false }
def TallyFormsSaid : Prop := tallyFormsRow.holds Try.pinned (OpenSpec.ofChange tallyFormsSpec)

/-- ITS FALSE NEIGHBOUR: 'it returns false'. Refute it at one input. -/
def tallyFormsWrong : ChangeSpec := { name := "tallyForms", fn := fun _ => fun
  | [d1, d2] => { results := [.lit (.bool false)], args := [d1, d2] }
  | _ => none }
def TallyFormsWrongFalsely : Prop := tallyFormsRow.holds Try.pinned (OpenSpec.ofChange tallyFormsWrong)

/- THE SECOND FORM. 'bulk': how many values and letters a reading holds, each counted each time it is reached (what is shared counts as often as it is met; a slice's spare places count too). A statement '..UptoSaid' is the law's where the arguments, and the package variables that the reading takes, are together of bulk at most 1048576: NARROWER than '..Said'. Prove '..Said' where nothing that the law and all that it calls make is longer than what came in: it says more and counts as full. Else prove '..UptoSaid'. A law counts once. -/
mutual
def uptoBulk {H : Type} : DataW H → Nat
  | .lit (.string bytes) => bytes.length + 1
  | .lit _ => 1
  | .nil => 1
  | .ptr d => uptoBulk d + 1
  | .slice elems spare => uptoBulkAll elems + uptoBulkAll spare + 1
  | .agg parts => uptoBulkAll parts + 1
  | .iface _ d => uptoBulk d + 1
  | .map entries => uptoBulkEntries entries + 1
  | .held _ => 1
def uptoBulkAll {H : Type} : List (DataW H) → Nat
  | [] => 0
  | d :: r => uptoBulk d + uptoBulkAll r
def uptoBulkEntries {H : Type} : List (Lit × DataW H) → Nat
  | [] => 0
  | x :: r => uptoBulkEntry x + uptoBulkEntries r
def uptoBulkEntry {H : Type} : Lit × DataW H → Nat
  | (.string bytes, d) => bytes.length + uptoBulk d + 1
  | (_, d) => uptoBulk d + 1
 end
def uptoSmall : (H : Type) → List (DataW H) → Bool := fun _ ds => decide (uptoBulkAll ds ≤ 1048576)
def OpenSpec.upto (s : _root_.Go.ChangeSpec) : _root_.Go.OpenSpec := { _root_.Go.OpenSpec.ofChange s with cond := some uptoSmall }

/-- 'pawllaw25.Tallies', WHERE WHAT IT READS IS OF BULK AT MOST 1048576: true; the input reads as it did. -/
def talliesUptoRow : OpenClaim := { program := "ytkcgphbgbibhfaa", sum := "c481262e3037277d2c607e8f55fc676a9d720a53b12903c9ae5c2a0de7ba22d7", func := "pawl/pawllaw25.Tallies", spec := "tallies", apart := false, narrowed := true }
def TalliesUptoSaid : Prop := talliesUptoRow.holds Try.pinned (OpenSpec.upto talliesSpec)

/-- 'pawllaw25.TallySums', WHERE WHAT IT READS IS OF BULK AT MOST 1048576: true; the input reads as it did. -/
def tallySumsUptoRow : OpenClaim := { program := "ytkcgphbgbibhfaa", sum := "c481262e3037277d2c607e8f55fc676a9d720a53b12903c9ae5c2a0de7ba22d7", func := "pawl/pawllaw25.TallySums", spec := "tallySums", apart := false, narrowed := true }
def TallySumsUptoSaid : Prop := tallySumsUptoRow.holds Try.pinned (OpenSpec.upto tallySumsSpec)

/-- 'pawllaw25.TallyForms', WHERE WHAT IT READS IS OF BULK AT MOST 1048576: true; the input reads as it did. -/
def tallyFormsUptoRow : OpenClaim := { program := "ytkcgphbgbibhfaa", sum := "c481262e3037277d2c607e8f55fc676a9d720a53b12903c9ae5c2a0de7ba22d7", func := "pawl/pawllaw25.TallyForms", spec := "tallyForms", apart := false, narrowed := true }
def TallyFormsUptoSaid : Prop := tallyFormsUptoRow.holds Try.pinned (OpenSpec.upto tallyFormsSpec)

end Rows
end Go.Proofs.Ytkcgphbgbibhfaa
