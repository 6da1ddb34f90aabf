/-
  No cell of these rows narrows 'for every input' (looked for: loops, veiled, ifaces, maps, wideKeys, modest, calm, conditions, laid).
  DERIVED. THE GIVEN ROWS OF THIS SEAT. 10 by the template 'for every input the law returns true; each argument reads behind the call as it read before'; 0 by the template 'total and deterministic' (their statements: YtfcignalfdifnaaTotals.lean).
  GIVEN WITH THE SEED: the statements are not yours to turn. If you find one false, say at which input.
  Laid BY PROGRAM, IN A SANDBOX (cutbox-rows.mjs): the forced cells as the released guide's own fill.sh prints them over the translation c5b6e094957263b0… (all of the seat's roots in one cut). By AI agents, Wed Nov 11 2026. No macro, syntax, notation, axiom, sorry.
-/
import Derived.Test.YtfcignalfdifnaaChecked
import GoSem.Claim
import GoSem.ClaimJoined
import GoSem.ClaimMapViews
import Derived.JoinedTies
import Derived.KernelRfl
namespace Go.Proofs.Ytfcignalfdifnaa
/- THE CELL 'sum', in the pinned program and in every row, IS THE sha256 OF THE DUMP (.gsa) THAT YtfcignalfdifnaaProg.lean LOADS. Nothing in Lean hashes anything: it is a label: what it is worth is what the hold of that sum in a sandbox is worth. -/
noncomputable def Try.pinned : Pinned := { name := "ytfcignalfdifnaa", sum := "c5b6e094957263b01ccbae286bcf2b1d035e287bfaefada003f39c554a401e55", checked := Try.checked }
namespace Rows
def none {H : Type} : Left H := { results := [], args := [] }

/-- 'pawllaw14.HelpAlone': WHATEVER THE INPUT: true; the input reads as it did. -/
def helpAloneSpec : ChangeSpec := { name := "helpAlone", fn := fun _ => fun
  | [d1, d2, d3, d4] => { results := [.lit (.bool true)], args := [d1, d2, d3, d4] }
  | _ => none }
def helpAloneRow : OpenClaim := { program := "ytfcignalfdifnaa", sum := "c5b6e094957263b01ccbae286bcf2b1d035e287bfaefada003f39c554a401e55", func := "pawl/pawllaw14.HelpAlone", spec := "helpAlone", unfollowed := true, recurses := true, apart := false }
def HelpAloneSaid : Prop := helpAloneRow.holds Try.pinned (OpenSpec.ofChange helpAloneSpec)

/-- ITS FALSE NEIGHBOUR: 'it returns false'. Refute it at one input. -/
def helpAloneWrong : ChangeSpec := { name := "helpAlone", fn := fun _ => fun
  | [d1, d2, d3, d4] => { results := [.lit (.bool false)], args := [d1, d2, d3, d4] }
  | _ => none }
def HelpAloneWrongFalsely : Prop := helpAloneRow.holds Try.pinned (OpenSpec.ofChange helpAloneWrong)

/-- 'pawllaw14.HelpMany': WHATEVER THE INPUT: true; the input reads as it did. -/
def helpManySpec : ChangeSpec := { name := "helpMany", fn := fun _ => fun
  | [d1, d2] => { results := [.lit (.bool true)], args := [d1, d2] }
  | _ => none }
def helpManyRow : OpenClaim := { program := "ytfcignalfdifnaa", sum := "c5b6e094957263b01ccbae286bcf2b1d035e287bfaefada003f39c554a401e55", func := "pawl/pawllaw14.HelpMany", spec := "helpMany", unfollowed := true, recurses := true, apart := false }
def HelpManySaid : Prop := helpManyRow.holds Try.pinned (OpenSpec.ofChange helpManySpec)

/-- ITS FALSE NEIGHBOUR: 'it returns false'. Refute it at one input. -/
def helpManyWrong : ChangeSpec := { name := "helpMany", fn := fun _ => fun
  | [d1, d2] => { results := [.lit (.bool false)], args := [d1, d2] }
  | _ => none }
def HelpManyWrongFalsely : Prop := helpManyRow.holds Try.pinned (OpenSpec.ofChange helpManyWrong)

/-- 'pawllaw14.HelpForms': WHATEVER THE INPUT: true; the input reads as it did. -/
def helpFormsSpec : ChangeSpec := { name := "helpForms", fn := fun _ => fun
  | [d1, d2] => { results := [.lit (.bool true)], args := [d1, d2] }
  | _ => none }
def helpFormsRow : OpenClaim := { program := "ytfcignalfdifnaa", sum := "c5b6e094957263b01ccbae286bcf2b1d035e287bfaefada003f39c554a401e55", func := "pawl/pawllaw14.HelpForms", spec := "helpForms", unfollowed := true, recurses := true, apart := false }
def HelpFormsSaid : Prop := helpFormsRow.holds Try.pinned (OpenSpec.ofChange helpFormsSpec)

/-- ITS FALSE NEIGHBOUR: 'it returns false'. Refute it at one input. -/
def helpFormsWrong : ChangeSpec := { name := "helpForms", fn := fun _ => fun
  | [d1, d2] => { results := [.lit (.bool false)], args := [d1, d2] }
  | _ => none }
def HelpFormsWrongFalsely : Prop := helpFormsRow.holds Try.pinned (OpenSpec.ofChange helpFormsWrong)

/-- 'pawllaw14.HelpRace': WHATEVER THE INPUT: true; the input reads as it did. -/
def helpRaceSpec : ChangeSpec := { name := "helpRace", fn := fun _ => fun
  | [d1, d2, d3] => { results := [.lit (.bool true)], args := [d1, d2, d3] }
  | _ => none }
def helpRaceRow : OpenClaim := { program := "ytfcignalfdifnaa", sum := "c5b6e094957263b01ccbae286bcf2b1d035e287bfaefada003f39c554a401e55", func := "pawl/pawllaw14.HelpRace", spec := "helpRace", unfollowed := true, recurses := true, apart := false }
def HelpRaceSaid : Prop := helpRaceRow.holds Try.pinned (OpenSpec.ofChange helpRaceSpec)

/-- ITS FALSE NEIGHBOUR: 'it returns false'. Refute it at one input. -/
def helpRaceWrong : ChangeSpec := { name := "helpRace", fn := fun _ => fun
  | [d1, d2, d3] => { results := [.lit (.bool false)], args := [d1, d2, d3] }
  | _ => none }
def HelpRaceWrongFalsely : Prop := helpRaceRow.holds Try.pinned (OpenSpec.ofChange helpRaceWrong)

/-- 'pawllaw14.HelpEntry': WHATEVER THE INPUT: true; the input reads as it did. -/
def helpEntrySpec : ChangeSpec := { name := "helpEntry", fn := fun _ => fun
  | [d1, d2, d3, d4, d5] => { results := [.lit (.bool true)], args := [d1, d2, d3, d4, d5] }
  | _ => none }
def helpEntryRow : OpenClaim := { program := "ytfcignalfdifnaa", sum := "c5b6e094957263b01ccbae286bcf2b1d035e287bfaefada003f39c554a401e55", func := "pawl/pawllaw14.HelpEntry", spec := "helpEntry", unfollowed := true, recurses := true, apart := false }
def HelpEntrySaid : Prop := helpEntryRow.holds Try.pinned (OpenSpec.ofChange helpEntrySpec)

/-- ITS FALSE NEIGHBOUR: 'it returns false'. Refute it at one input. -/
def helpEntryWrong : ChangeSpec := { name := "helpEntry", fn := fun _ => fun
  | [d1, d2, d3, d4, d5] => { results := [.lit (.bool false)], args := [d1, d2, d3, d4, d5] }
  | _ => none }
def HelpEntryWrongFalsely : Prop := helpEntryRow.holds Try.pinned (OpenSpec.ofChange helpEntryWrong)

/-- 'pawllaw14.HelpDone': WHATEVER THE INPUT: true; the input reads as it did. -/
def helpDoneSpec : ChangeSpec := { name := "helpDone", fn := fun _ => fun
  | [d1, d2, d3] => { results := [.lit (.bool true)], args := [d1, d2, d3] }
  | _ => none }
def helpDoneRow : OpenClaim := { program := "ytfcignalfdifnaa", sum := "c5b6e094957263b01ccbae286bcf2b1d035e287bfaefada003f39c554a401e55", func := "pawl/pawllaw14.HelpDone", spec := "helpDone", unfollowed := true, recurses := true, apart := false }
def HelpDoneSaid : Prop := helpDoneRow.holds Try.pinned (OpenSpec.ofChange helpDoneSpec)

/-- ITS FALSE NEIGHBOUR: 'it returns false'. Refute it at one input. -/
def helpDoneWrong : ChangeSpec := { name := "helpDone", fn := fun _ => fun
  | [d1, d2, d3] => { results := [.lit (.bool false)], args := [d1, d2, d3] }
  | _ => none }
def HelpDoneWrongFalsely : Prop := helpDoneRow.holds Try.pinned (OpenSpec.ofChange helpDoneWrong)

/-- 'pawllaw14.HelpSteps': WHATEVER THE INPUT: true; the input reads as it did. -/
def helpStepsSpec : ChangeSpec := { name := "helpSteps", fn := fun _ => fun
  | [d1, d2] => { results := [.lit (.bool true)], args := [d1, d2] }
  | _ => none }
def helpStepsRow : OpenClaim := { program := "ytfcignalfdifnaa", sum := "c5b6e094957263b01ccbae286bcf2b1d035e287bfaefada003f39c554a401e55", func := "pawl/pawllaw14.HelpSteps", spec := "helpSteps", unfollowed := true, recurses := true, apart := false }
def HelpStepsSaid : Prop := helpStepsRow.holds Try.pinned (OpenSpec.ofChange helpStepsSpec)

/-- ITS FALSE NEIGHBOUR: 'it returns false'. Refute it at one input. -/
def helpStepsWrong : ChangeSpec := { name := "helpSteps", fn := fun _ => fun
  | [d1, d2] => { results := [.lit (.bool false)], args := [d1, d2] }
  | _ => none }
def HelpStepsWrongFalsely : Prop := helpStepsRow.holds Try.pinned (OpenSpec.ofChange helpStepsWrong)

/-- 'pawllaw14.HelpLoses': WHATEVER THE INPUT: true; the input reads as it did. -/
def helpLosesSpec : ChangeSpec := { name := "helpLoses", fn := fun _ => fun
  | [d1, d2, d3] => { results := [.lit (.bool true)], args := [d1, d2, d3] }
  | _ => none }
def helpLosesRow : OpenClaim := { program := "ytfcignalfdifnaa", sum := "c5b6e094957263b01ccbae286bcf2b1d035e287bfaefada003f39c554a401e55", func := "pawl/pawllaw14.HelpLoses", spec := "helpLoses", unfollowed := true, recurses := true, apart := false }
def HelpLosesSaid : Prop := helpLosesRow.holds Try.pinned (OpenSpec.ofChange helpLosesSpec)

/-- ITS FALSE NEIGHBOUR: 'it returns false'. Refute it at one input. -/
def helpLosesWrong : ChangeSpec := { name := "helpLoses", fn := fun _ => fun
  | [d1, d2, d3] => { results := [.lit (.bool false)], args := [d1, d2, d3] }
  | _ => none }
def HelpLosesWrongFalsely : Prop := helpLosesRow.holds Try.pinned (OpenSpec.ofChange helpLosesWrong)

/-- 'pawllaw14.HelpMeets': WHATEVER THE INPUT: true; the input reads as it did. -/
def helpMeetsSpec : ChangeSpec := { name := "helpMeets", fn := fun _ => fun
  | [d1, d2, d3, d4] => { results := [.lit (.bool true)], args := [d1, d2, d3, d4] }
  | _ => none }
def helpMeetsRow : OpenClaim := { program := "ytfcignalfdifnaa", sum := "c5b6e094957263b01ccbae286bcf2b1d035e287bfaefada003f39c554a401e55", func := "pawl/pawllaw14.HelpMeets", spec := "helpMeets", unfollowed := true, recurses := true, apart := false }
def HelpMeetsSaid : Prop := helpMeetsRow.holds Try.pinned (OpenSpec.ofChange helpMeetsSpec)

/-- ITS FALSE NEIGHBOUR: 'it returns false'. Refute it at one input. -/
def helpMeetsWrong : ChangeSpec := { name := "helpMeets", fn := fun _ => fun
  | [d1, d2, d3, d4] => { results := [.lit (.bool false)], args := [d1, d2, d3, d4] }
  | _ => none }
def HelpMeetsWrongFalsely : Prop := helpMeetsRow.holds Try.pinned (OpenSpec.ofChange helpMeetsWrong)

/-- 'pawllaw14.Helps': WHATEVER THE INPUT: true; the input reads as it did. -/
def helpsSpec : ChangeSpec := { name := "helps", fn := fun _ => fun
  | [d1, d2, d3, d4, d5] => { results := [.lit (.bool true)], args := [d1, d2, d3, d4, d5] }
  | _ => none }
def helpsRow : OpenClaim := { program := "ytfcignalfdifnaa", sum := "c5b6e094957263b01ccbae286bcf2b1d035e287bfaefada003f39c554a401e55", func := "pawl/pawllaw14.Helps", spec := "helps", unfollowed := true, recurses := true, apart := false }
def HelpsSaid : Prop := helpsRow.holds Try.pinned (OpenSpec.ofChange helpsSpec)

/-- ITS FALSE NEIGHBOUR: 'it returns false'. Refute it at one input. -/
def helpsWrong : ChangeSpec := { name := "helps", fn := fun _ => fun
  | [d1, d2, d3, d4, d5] => { results := [.lit (.bool false)], args := [d1, d2, d3, d4, d5] }
  | _ => none }
def HelpsWrongFalsely : Prop := helpsRow.holds Try.pinned (OpenSpec.ofChange helpsWrong)

/- THE SECOND FORM. 'bulk': how many values and letters a reading holds, each counted each time it is reached (what is shared counts as often as it is met; a slice's spare places count too). A statement '..UptoSaid' is the law's where the arguments, and the package variables that the reading takes, are together of bulk at most 1048576: NARROWER than '..Said'. Prove '..Said' where nothing that the law and all that it calls make is longer than what came in: it says more and counts as full. Else prove '..UptoSaid'. A law counts once. -/
mutual
def uptoBulk {H : Type} : DataW H → Nat
  | .lit (.string bytes) => bytes.length + 1
  | .lit _ => 1
  | .nil => 1
  | .ptr d => uptoBulk d + 1
  | .slice elems spare => uptoBulkAll elems + uptoBulkAll spare + 1
  | .agg parts => uptoBulkAll parts + 1
  | .iface _ d => uptoBulk d + 1
  | .map entries => uptoBulkEntries entries + 1
  | .held _ => 1
def uptoBulkAll {H : Type} : List (DataW H) → Nat
  | [] => 0
  | d :: r => uptoBulk d + uptoBulkAll r
def uptoBulkEntries {H : Type} : List (Lit × DataW H) → Nat
  | [] => 0
  | x :: r => uptoBulkEntry x + uptoBulkEntries r
def uptoBulkEntry {H : Type} : Lit × DataW H → Nat
  | (.string bytes, d) => bytes.length + uptoBulk d + 1
  | (_, d) => uptoBulk d + 1
 end
def uptoSmall : (H : Type) → List (DataW H) → Bool := fun _ ds => decide (uptoBulkAll ds ≤ 1048576)
def OpenSpec.upto (s : _root_.Go.ChangeSpec) : _root_.Go.OpenSpec := { _root_.Go.OpenSpec.ofChange s with cond := some uptoSmall }

/-- 'pawllaw14.HelpAlone', WHERE WHAT IT READS IS OF BULK AT MOST 1048576: true; the input reads as it did. -/
def helpAloneUptoRow : OpenClaim := { program := "ytfcignalfdifnaa", sum := "c5b6e094957263b01ccbae286bcf2b1d035e287bfaefada003f39c554a401e55", func := "pawl/pawllaw14.HelpAlone", spec := "helpAlone", unfollowed := true, recurses := true, apart := false, narrowed := true }
def HelpAloneUptoSaid : Prop := helpAloneUptoRow.holds Try.pinned (OpenSpec.upto helpAloneSpec)

/-- 'pawllaw14.HelpMany', WHERE WHAT IT READS IS OF BULK AT MOST 1048576: true; the input reads as it did. -/
def helpManyUptoRow : OpenClaim := { program := "ytfcignalfdifnaa", sum := "c5b6e094957263b01ccbae286bcf2b1d035e287bfaefada003f39c554a401e55", func := "pawl/pawllaw14.HelpMany", spec := "helpMany", unfollowed := true, recurses := true, apart := false, narrowed := true }
def HelpManyUptoSaid : Prop := helpManyUptoRow.holds Try.pinned (OpenSpec.upto helpManySpec)

/-- 'pawllaw14.HelpForms', WHERE WHAT IT READS IS OF BULK AT MOST 1048576: true; the input reads as it did. -/
def helpFormsUptoRow : OpenClaim := { program := "ytfcignalfdifnaa", sum := "c5b6e094957263b01ccbae286bcf2b1d035e287bfaefada003f39c554a401e55", func := "pawl/pawllaw14.HelpForms", spec := "helpForms", unfollowed := true, recurses := true, apart := false, narrowed := true }
def HelpFormsUptoSaid : Prop := helpFormsUptoRow.holds Try.pinned (OpenSpec.upto helpFormsSpec)

/-- 'pawllaw14.HelpRace', WHERE WHAT IT READS IS OF BULK AT MOST 1048576: true; the input reads as it did. -/
def helpRaceUptoRow : OpenClaim := { program := "ytfcignalfdifnaa", sum := "c5b6e094957263b01ccbae286bcf2b1d035e287bfaefada003f39c554a401e55", func := "pawl/pawllaw14.HelpRace", spec := "helpRace", unfollowed := true, recurses := true, apart := false, narrowed := true }
def HelpRaceUptoSaid : Prop := helpRaceUptoRow.holds Try.pinned (OpenSpec.upto helpRaceSpec)

/-- 'pawllaw14.HelpEntry', WHERE WHAT IT READS IS OF BULK AT MOST 1048576: true; the input reads as it did. -/
def helpEntryUptoRow : OpenClaim := { program := "ytfcignalfdifnaa", sum := "c5b6e094957263b01ccbae286bcf2b1d035e287bfaefada003f39c554a401e55", func := "pawl/pawllaw14.HelpEntry", spec := "helpEntry", unfollowed := true, recurses := true, apart := false, narrowed := true }
def HelpEntryUptoSaid : Prop := helpEntryUptoRow.holds Try.pinned (OpenSpec.upto helpEntrySpec)

/-- 'pawllaw14.HelpDone', WHERE WHAT IT READS IS OF BULK AT MOST 1048576: true; the input reads as it did. -/
def helpDoneUptoRow : OpenClaim := { program := "ytfcignalfdifnaa", sum := "c5b6e094957263b01ccbae286bcf2b1d035e287bfaefada003f39c554a401e55", func := "pawl/pawllaw14.HelpDone", spec := "helpDone", unfollowed := true, recurses := true, apart := false, narrowed := true }
def HelpDoneUptoSaid : Prop := helpDoneUptoRow.holds Try.pinned (OpenSpec.upto helpDoneSpec)

/-- 'pawllaw14.HelpSteps', WHERE WHAT IT READS IS OF BULK AT MOST 1048576: true; the input reads as it did. -/
def helpStepsUptoRow : OpenClaim := { program := "ytfcignalfdifnaa", sum := "c5b6e094957263b01ccbae286bcf2b1d035e287bfaefada003f39c554a401e55", func := "pawl/pawllaw14.HelpSteps", spec := "helpSteps", unfollowed := true, recurses := true, apart := false, narrowed := true }
def HelpStepsUptoSaid : Prop := helpStepsUptoRow.holds Try.pinned (OpenSpec.upto helpStepsSpec)

/-- 'pawllaw14.HelpLoses', WHERE WHAT IT READS IS OF BULK AT MOST 1048576: true; the input reads as it did. -/
def helpLosesUptoRow : OpenClaim := { program := "ytfcignalfdifnaa", sum := "c5b6e094957263b01ccbae286bcf2b1d035e287bfaefada003f39c554a401e55", func := "pawl/pawllaw14.HelpLoses", spec := "helpLoses", unfollowed := true, recurses := true, apart := false, narrowed := true }
def HelpLosesUptoSaid : Prop := helpLosesUptoRow.holds Try.pinned (OpenSpec.upto helpLosesSpec)

/-- 'pawllaw14.HelpMeets', WHERE WHAT IT READS IS OF BULK AT MOST 1048576: true; the input reads as it did. -/
def helpMeetsUptoRow : OpenClaim := { program := "ytfcignalfdifnaa", sum := "c5b6e094957263b01ccbae286bcf2b1d035e287bfaefada003f39c554a401e55", func := "pawl/pawllaw14.HelpMeets", spec := "helpMeets", unfollowed := true, recurses := true, apart := false, narrowed := true }
def HelpMeetsUptoSaid : Prop := helpMeetsUptoRow.holds Try.pinned (OpenSpec.upto helpMeetsSpec)

/-- 'pawllaw14.Helps', WHERE WHAT IT READS IS OF BULK AT MOST 1048576: true; the input reads as it did. -/
def helpsUptoRow : OpenClaim := { program := "ytfcignalfdifnaa", sum := "c5b6e094957263b01ccbae286bcf2b1d035e287bfaefada003f39c554a401e55", func := "pawl/pawllaw14.Helps", spec := "helps", unfollowed := true, recurses := true, apart := false, narrowed := true }
def HelpsUptoSaid : Prop := helpsUptoRow.holds Try.pinned (OpenSpec.upto helpsSpec)

end Rows
end Go.Proofs.Ytfcignalfdifnaa
