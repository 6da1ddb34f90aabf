/-
  No cell of these rows narrows 'for every input' (looked for: loops, veiled, ifaces, maps, wideKeys, modest, calm, conditions, laid).
  DERIVED. THE GIVEN ROWS OF THIS SEAT. 5 by the template 'for every input the law returns true; each argument reads behind the call as it read before'; 0 by the template 'total and deterministic' (their statements: YtiopeicakfjbfaaTotals.lean).
  GIVEN WITH THE SEED: the statements are not yours to turn. If you find one false, say at which input.
  Laid BY PROGRAM, IN A SANDBOX (cutbox-rows.mjs): the forced cells as the released guide's own fill.sh prints them over the translation 82106b554e6bb51d… (all of the seat's roots in one cut). By AI agents, Wed Nov 11 2026. No macro, syntax, notation, axiom, sorry.
-/
import Derived.Test.YtiopeicakfjbfaaChecked
import GoSem.Claim
import GoSem.ClaimJoined
import GoSem.ClaimMapViews
import Derived.JoinedTies
import Derived.KernelRfl
namespace Go.Proofs.Ytiopeicakfjbfaa
/- THE CELL 'sum', in the pinned program and in every row, IS THE sha256 OF THE DUMP (.gsa) THAT YtiopeicakfjbfaaProg.lean LOADS. Nothing in Lean hashes anything: it is a label: what it is worth is what the hold of that sum in a sandbox is worth. -/
noncomputable def Try.pinned : Pinned := { name := "ytiopeicakfjbfaa", sum := "82106b554e6bb51d16ebd887ce21ccba55b2cd3c25d18753448fae6e60a2a909", checked := Try.checked }
namespace Rows
def none {H : Type} : Left H := { results := [], args := [] }

/-- 'pawllaw15.ReadValues': WHATEVER THE INPUT: true; the input reads as it did. -/
def readValuesSpec : ChangeSpec := { name := "readValues", fn := fun _ => fun
  | [d1, d2, d3, d4] => { results := [.lit (.bool true)], args := [d1, d2, d3, d4] }
  | _ => none }
def readValuesRow : OpenClaim := { program := "ytiopeicakfjbfaa", sum := "82106b554e6bb51d16ebd887ce21ccba55b2cd3c25d18753448fae6e60a2a909", func := "pawl/pawllaw15.ReadValues", spec := "readValues", unfollowed := true, recurses := true, apart := false }
def ReadValuesSaid : Prop := readValuesRow.holds Try.pinned (OpenSpec.ofChange readValuesSpec)

/-- ITS FALSE NEIGHBOUR: 'it returns false'. Refute it at one input. -/
def readValuesWrong : ChangeSpec := { name := "readValues", fn := fun _ => fun
  | [d1, d2, d3, d4] => { results := [.lit (.bool false)], args := [d1, d2, d3, d4] }
  | _ => none }
def ReadValuesWrongFalsely : Prop := readValuesRow.holds Try.pinned (OpenSpec.ofChange readValuesWrong)

/-- 'pawllaw15.ReadMany': WHATEVER THE INPUT: true; the input reads as it did. -/
def readManySpec : ChangeSpec := { name := "readMany", fn := fun _ => fun
  | [d1, d2] => { results := [.lit (.bool true)], args := [d1, d2] }
  | _ => none }
def readManyRow : OpenClaim := { program := "ytiopeicakfjbfaa", sum := "82106b554e6bb51d16ebd887ce21ccba55b2cd3c25d18753448fae6e60a2a909", func := "pawl/pawllaw15.ReadMany", spec := "readMany", unfollowed := true, recurses := true, apart := false }
def ReadManySaid : Prop := readManyRow.holds Try.pinned (OpenSpec.ofChange readManySpec)

/-- ITS FALSE NEIGHBOUR: 'it returns false'. Refute it at one input. -/
def readManyWrong : ChangeSpec := { name := "readMany", fn := fun _ => fun
  | [d1, d2] => { results := [.lit (.bool false)], args := [d1, d2] }
  | _ => none }
def ReadManyWrongFalsely : Prop := readManyRow.holds Try.pinned (OpenSpec.ofChange readManyWrong)

/-- 'pawllaw15.ReadForms': WHATEVER THE INPUT: true; the input reads as it did. -/
def readFormsSpec : ChangeSpec := { name := "readForms", fn := fun _ => fun
  | [d1, d2] => { results := [.lit (.bool true)], args := [d1, d2] }
  | _ => none }
def readFormsRow : OpenClaim := { program := "ytiopeicakfjbfaa", sum := "82106b554e6bb51d16ebd887ce21ccba55b2cd3c25d18753448fae6e60a2a909", func := "pawl/pawllaw15.ReadForms", spec := "readForms", unfollowed := true, recurses := true, apart := false }
def ReadFormsSaid : Prop := readFormsRow.holds Try.pinned (OpenSpec.ofChange readFormsSpec)

/-- ITS FALSE NEIGHBOUR: 'it returns false'. Refute it at one input. -/
def readFormsWrong : ChangeSpec := { name := "readForms", fn := fun _ => fun
  | [d1, d2] => { results := [.lit (.bool false)], args := [d1, d2] }
  | _ => none }
def ReadFormsWrongFalsely : Prop := readFormsRow.holds Try.pinned (OpenSpec.ofChange readFormsWrong)

/-- 'pawllaw15.ReadLooks': WHATEVER THE INPUT: true; the input reads as it did. -/
def readLooksSpec : ChangeSpec := { name := "readLooks", fn := fun _ => fun
  | [d1, d2, d3, d4] => { results := [.lit (.bool true)], args := [d1, d2, d3, d4] }
  | _ => none }
def readLooksRow : OpenClaim := { program := "ytiopeicakfjbfaa", sum := "82106b554e6bb51d16ebd887ce21ccba55b2cd3c25d18753448fae6e60a2a909", func := "pawl/pawllaw15.ReadLooks", spec := "readLooks", unfollowed := true, recurses := true, apart := false }
def ReadLooksSaid : Prop := readLooksRow.holds Try.pinned (OpenSpec.ofChange readLooksSpec)

/-- ITS FALSE NEIGHBOUR: 'it returns false'. Refute it at one input. -/
def readLooksWrong : ChangeSpec := { name := "readLooks", fn := fun _ => fun
  | [d1, d2, d3, d4] => { results := [.lit (.bool false)], args := [d1, d2, d3, d4] }
  | _ => none }
def ReadLooksWrongFalsely : Prop := readLooksRow.holds Try.pinned (OpenSpec.ofChange readLooksWrong)

/-- 'pawllaw15.Reads': WHATEVER THE INPUT: true; the input reads as it did. -/
def readsSpec : ChangeSpec := { name := "reads", fn := fun _ => fun
  | [d1, d2, d3, d4, d5] => { results := [.lit (.bool true)], args := [d1, d2, d3, d4, d5] }
  | _ => none }
def readsRow : OpenClaim := { program := "ytiopeicakfjbfaa", sum := "82106b554e6bb51d16ebd887ce21ccba55b2cd3c25d18753448fae6e60a2a909", func := "pawl/pawllaw15.Reads", spec := "reads", unfollowed := true, recurses := true, apart := false }
def ReadsSaid : Prop := readsRow.holds Try.pinned (OpenSpec.ofChange readsSpec)

/-- ITS FALSE NEIGHBOUR: 'it returns false'. Refute it at one input. -/
def readsWrong : ChangeSpec := { name := "reads", fn := fun _ => fun
  | [d1, d2, d3, d4, d5] => { results := [.lit (.bool false)], args := [d1, d2, d3, d4, d5] }
  | _ => none }
def ReadsWrongFalsely : Prop := readsRow.holds Try.pinned (OpenSpec.ofChange readsWrong)

/- THE SECOND FORM. 'bulk': how many values and letters a reading holds, each counted each time it is reached (what is shared counts as often as it is met; a slice's spare places count too). A statement '..UptoSaid' is the law's where the arguments, and the package variables that the reading takes, are together of bulk at most 1048576: NARROWER than '..Said'. Prove '..Said' where nothing that the law and all that it calls make is longer than what came in: it says more and counts as full. Else prove '..UptoSaid'. A law counts once. -/
mutual
def uptoBulk {H : Type} : DataW H → Nat
  | .lit (.string bytes) => bytes.length + 1
  | .lit _ => 1
  | .nil => 1
  | .ptr d => uptoBulk d + 1
  | .slice elems spare => uptoBulkAll elems + uptoBulkAll spare + 1
  | .agg parts => uptoBulkAll parts + 1
  | .iface _ d => uptoBulk d + 1
  | .map entries => uptoBulkEntries entries + 1
  | .held _ => 1
def uptoBulkAll {H : Type} : List (DataW H) → Nat
  | [] => 0
  | d :: r => uptoBulk d + uptoBulkAll r
def uptoBulkEntries {H : Type} : List (Lit × DataW H) → Nat
  | [] => 0
  | x :: r => uptoBulkEntry x + uptoBulkEntries r
def uptoBulkEntry {H : Type} : Lit × DataW H → Nat
  | (.string bytes, d) => bytes.length + uptoBulk d + 1
  | (_, d) => uptoBulk d + 1
 end
def uptoSmall : (H : Type) → List (DataW H) → Bool := fun _ ds => decide (uptoBulkAll ds ≤ 1048576)
def OpenSpec.upto (s : _root_.Go.ChangeSpec) : _root_.Go.OpenSpec := { _root_.Go.OpenSpec.ofChange s with cond := some uptoSmall }

/-- 'pawllaw15.ReadValues', WHERE WHAT IT READS IS OF BULK AT MOST 1048576: true; the input reads as it did. -/
def readValuesUptoRow : OpenClaim := { program := "ytiopeicakfjbfaa", sum := "82106b554e6bb51d16ebd887ce21ccba55b2cd3c25d18753448fae6e60a2a909", func := "pawl/pawllaw15.ReadValues", spec := "readValues", unfollowed := true, recurses := true, apart := false, narrowed := true }
def ReadValuesUptoSaid : Prop := readValuesUptoRow.holds Try.pinned (OpenSpec.upto readValuesSpec)

/-- 'pawllaw15.ReadMany', WHERE WHAT IT READS IS OF BULK AT MOST 1048576: true; the input reads as it did. -/
def readManyUptoRow : OpenClaim := { program := "ytiopeicakfjbfaa", sum := "82106b554e6bb51d16ebd887ce21ccba55b2cd3c25d18753448fae6e60a2a909", func := "pawl/pawllaw15.ReadMany", spec := "readMany", unfollowed := true, recurses := true, apart := false, narrowed := true }
def ReadManyUptoSaid : Prop := readManyUptoRow.holds Try.pinned (OpenSpec.upto readManySpec)

/-- 'pawllaw15.ReadForms', WHERE WHAT IT READS IS OF BULK AT MOST 1048576: true; the input reads as it did. -/
def readFormsUptoRow : OpenClaim := { program := "ytiopeicakfjbfaa", sum := "82106b554e6bb51d16ebd887ce21ccba55b2cd3c25d18753448fae6e60a2a909", func := "pawl/pawllaw15.ReadForms", spec := "readForms", unfollowed := true, recurses := true, apart := false, narrowed := true }
def ReadFormsUptoSaid : Prop := readFormsUptoRow.holds Try.pinned (OpenSpec.upto readFormsSpec)

/-- 'pawllaw15.ReadLooks', WHERE WHAT IT READS IS OF BULK AT MOST 1048576: true; the input reads as it did. -/
def readLooksUptoRow : OpenClaim := { program := "ytiopeicakfjbfaa", sum := "82106b554e6bb51d16ebd887ce21ccba55b2cd3c25d18753448fae6e60a2a909", func := "pawl/pawllaw15.ReadLooks", spec := "readLooks", unfollowed := true, recurses := true, apart := false, narrowed := true }
def ReadLooksUptoSaid : Prop := readLooksUptoRow.holds Try.pinned (OpenSpec.upto readLooksSpec)

/-- 'pawllaw15.Reads', WHERE WHAT IT READS IS OF BULK AT MOST 1048576: true; the input reads as it did. -/
def readsUptoRow : OpenClaim := { program := "ytiopeicakfjbfaa", sum := "82106b554e6bb51d16ebd887ce21ccba55b2cd3c25d18753448fae6e60a2a909", func := "pawl/pawllaw15.Reads", spec := "reads", unfollowed := true, recurses := true, apart := false, narrowed := true }
def ReadsUptoSaid : Prop := readsUptoRow.holds Try.pinned (OpenSpec.upto readsSpec)

end Rows
end Go.Proofs.Ytiopeicakfjbfaa
