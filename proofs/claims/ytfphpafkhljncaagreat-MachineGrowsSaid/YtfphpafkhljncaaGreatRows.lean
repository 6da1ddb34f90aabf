/-
  No cell of these rows narrows 'for every input' (looked for: loops, veiled, ifaces, maps, wideKeys, modest, calm, conditions, laid).
  DERIVED. THE GIVEN ROWS OF THIS SEAT. 23 by the template 'for every input the law returns true; each argument reads behind the call as it read before'; 0 by the template 'total and deterministic' (their statements: YtfphpafkhljncaaGreatTotals.lean).
  GIVEN WITH THE SEED: the statements are not yours to turn. If you find one false, say at which input.
  Laid BY PROGRAM, IN A SANDBOX (cutbox-rows.mjs): the forced cells as the released guide's own fill.sh prints them over the translation 49fa065cc40d0d1c… (all of the seat's roots in one cut). By AI agents, Wed Nov 11 2026. No macro, syntax, notation, axiom, sorry.
-/
import Derived.Test.YtfphpafkhljncaaGreatChecked
import GoSem.Claim
import GoSem.ClaimJoined
import GoSem.ClaimMapViews
import Derived.JoinedTies
import Derived.KernelRfl
namespace Go.Proofs.YtfphpafkhljncaaGreat
/- THE CELL 'sum', in the pinned program and in every row, IS THE sha256 OF THE DUMP (.gsa) THAT YtfphpafkhljncaaGreatProg.lean LOADS. Nothing in Lean hashes anything: it is a label: what it is worth is what the hold of that sum in a sandbox is worth. -/
noncomputable def Tryz.pinned : Pinned := { name := "ytfphpafkhljncaagreat", sum := "49fa065cc40d0d1cfc64e99454d566812d38f931a1e372423325b8d08725f3cb", checked := Tryz.checked }
namespace Rows
def none {H : Type} : Left H := { results := [], args := [] }

/-- 'pawllaw18.ThreadForms': WHATEVER THE INPUT: true; the input reads as it did. -/
def threadFormsSpec : ChangeSpec := { name := "threadForms", fn := fun _ => fun
  | [d1, d2] => { results := [.lit (.bool true)], args := [d1, d2] }
  | _ => none }
def threadFormsRow : OpenClaim := { program := "ytfphpafkhljncaagreat", sum := "49fa065cc40d0d1cfc64e99454d566812d38f931a1e372423325b8d08725f3cb", func := "pawl/pawllaw18.ThreadForms", spec := "threadForms", unfollowed := true, recurses := true, apart := false }
def ThreadFormsSaid : Prop := threadFormsRow.holds Tryz.pinned (OpenSpec.ofChange threadFormsSpec)

/-- ITS FALSE NEIGHBOUR: 'it returns false'. Refute it at one input. -/
def threadFormsWrong : ChangeSpec := { name := "threadForms", fn := fun _ => fun
  | [d1, d2] => { results := [.lit (.bool false)], args := [d1, d2] }
  | _ => none }
def ThreadFormsWrongFalsely : Prop := threadFormsRow.holds Tryz.pinned (OpenSpec.ofChange threadFormsWrong)

/-- 'pawllaw18.ThreadLives': WHATEVER THE INPUT: true; the input reads as it did. -/
def threadLivesSpec : ChangeSpec := { name := "threadLives", fn := fun _ => fun
  | [d] => { results := [.lit (.bool true)], args := [d] }
  | _ => none }
def threadLivesRow : OpenClaim := { program := "ytfphpafkhljncaagreat", sum := "49fa065cc40d0d1cfc64e99454d566812d38f931a1e372423325b8d08725f3cb", func := "pawl/pawllaw18.ThreadLives", spec := "threadLives", unfollowed := true, recurses := true, apart := false }
def ThreadLivesSaid : Prop := threadLivesRow.holds Tryz.pinned (OpenSpec.ofChange threadLivesSpec)

/-- ITS FALSE NEIGHBOUR: 'it returns false'. Refute it at one input. -/
def threadLivesWrong : ChangeSpec := { name := "threadLives", fn := fun _ => fun
  | [d] => { results := [.lit (.bool false)], args := [d] }
  | _ => none }
def ThreadLivesWrongFalsely : Prop := threadLivesRow.holds Tryz.pinned (OpenSpec.ofChange threadLivesWrong)

/-- 'pawllaw18.ThreadMemory': WHATEVER THE INPUT: true; the input reads as it did. -/
def threadMemorySpec : ChangeSpec := { name := "threadMemory", fn := fun _ => fun
  | [d1, d2] => { results := [.lit (.bool true)], args := [d1, d2] }
  | _ => none }
def threadMemoryRow : OpenClaim := { program := "ytfphpafkhljncaagreat", sum := "49fa065cc40d0d1cfc64e99454d566812d38f931a1e372423325b8d08725f3cb", func := "pawl/pawllaw18.ThreadMemory", spec := "threadMemory", unfollowed := true, recurses := true, apart := false }
def ThreadMemorySaid : Prop := threadMemoryRow.holds Tryz.pinned (OpenSpec.ofChange threadMemorySpec)

/-- ITS FALSE NEIGHBOUR: 'it returns false'. Refute it at one input. -/
def threadMemoryWrong : ChangeSpec := { name := "threadMemory", fn := fun _ => fun
  | [d1, d2] => { results := [.lit (.bool false)], args := [d1, d2] }
  | _ => none }
def ThreadMemoryWrongFalsely : Prop := threadMemoryRow.holds Tryz.pinned (OpenSpec.ofChange threadMemoryWrong)

/-- 'pawllaw18.ThreadPauses': WHATEVER THE INPUT: true; the input reads as it did. -/
def threadPausesSpec : ChangeSpec := { name := "threadPauses", fn := fun _ => fun
  | [d1, d2] => { results := [.lit (.bool true)], args := [d1, d2] }
  | _ => none }
def threadPausesRow : OpenClaim := { program := "ytfphpafkhljncaagreat", sum := "49fa065cc40d0d1cfc64e99454d566812d38f931a1e372423325b8d08725f3cb", func := "pawl/pawllaw18.ThreadPauses", spec := "threadPauses", unfollowed := true, recurses := true, apart := false }
def ThreadPausesSaid : Prop := threadPausesRow.holds Tryz.pinned (OpenSpec.ofChange threadPausesSpec)

/-- ITS FALSE NEIGHBOUR: 'it returns false'. Refute it at one input. -/
def threadPausesWrong : ChangeSpec := { name := "threadPauses", fn := fun _ => fun
  | [d1, d2] => { results := [.lit (.bool false)], args := [d1, d2] }
  | _ => none }
def ThreadPausesWrongFalsely : Prop := threadPausesRow.holds Tryz.pinned (OpenSpec.ofChange threadPausesWrong)

/-- 'pawllaw24.Trims': WHATEVER THE INPUT: true; the input reads as it did. -/
def trimsSpec : ChangeSpec := { name := "trims", fn := fun _ => fun
  | [d1, d2] => { results := [.lit (.bool true)], args := [d1, d2] }
  | _ => none }
def trimsRow : OpenClaim := { program := "ytfphpafkhljncaagreat", sum := "49fa065cc40d0d1cfc64e99454d566812d38f931a1e372423325b8d08725f3cb", func := "pawl/pawllaw24.Trims", spec := "trims", unfollowed := true, recurses := true, apart := false }
def TrimsSaid : Prop := trimsRow.holds Tryz.pinned (OpenSpec.ofChange trimsSpec)

/-- ITS FALSE NEIGHBOUR: 'it returns false'. Refute it at one input. -/
def trimsWrong : ChangeSpec := { name := "trims", fn := fun _ => fun
  | [d1, d2] => { results := [.lit (.bool false)], args := [d1, d2] }
  | _ => none }
def TrimsWrongFalsely : Prop := trimsRow.holds Tryz.pinned (OpenSpec.ofChange trimsWrong)

/-- 'pawllaw24.TrimAgain': WHATEVER THE INPUT: true; the input reads as it did. -/
def trimAgainSpec : ChangeSpec := { name := "trimAgain", fn := fun _ => fun
  | [d1, d2] => { results := [.lit (.bool true)], args := [d1, d2] }
  | _ => none }
def trimAgainRow : OpenClaim := { program := "ytfphpafkhljncaagreat", sum := "49fa065cc40d0d1cfc64e99454d566812d38f931a1e372423325b8d08725f3cb", func := "pawl/pawllaw24.TrimAgain", spec := "trimAgain", unfollowed := true, recurses := true, apart := false }
def TrimAgainSaid : Prop := trimAgainRow.holds Tryz.pinned (OpenSpec.ofChange trimAgainSpec)

/-- ITS FALSE NEIGHBOUR: 'it returns false'. Refute it at one input. -/
def trimAgainWrong : ChangeSpec := { name := "trimAgain", fn := fun _ => fun
  | [d1, d2] => { results := [.lit (.bool false)], args := [d1, d2] }
  | _ => none }
def TrimAgainWrongFalsely : Prop := trimAgainRow.holds Tryz.pinned (OpenSpec.ofChange trimAgainWrong)

/-- 'pawllaw21.SafeRuns': WHATEVER THE INPUT: true; the input reads as it did. -/
def safeRunsSpec : ChangeSpec := { name := "safeRuns", fn := fun _ => fun
  | [d1, d2] => { results := [.lit (.bool true)], args := [d1, d2] }
  | _ => none }
def safeRunsRow : OpenClaim := { program := "ytfphpafkhljncaagreat", sum := "49fa065cc40d0d1cfc64e99454d566812d38f931a1e372423325b8d08725f3cb", func := "pawl/pawllaw21.SafeRuns", spec := "safeRuns", unfollowed := true, recurses := true, apart := false }
def SafeRunsSaid : Prop := safeRunsRow.holds Tryz.pinned (OpenSpec.ofChange safeRunsSpec)

/-- ITS FALSE NEIGHBOUR: 'it returns false'. Refute it at one input. -/
def safeRunsWrong : ChangeSpec := { name := "safeRuns", fn := fun _ => fun
  | [d1, d2] => { results := [.lit (.bool false)], args := [d1, d2] }
  | _ => none }
def SafeRunsWrongFalsely : Prop := safeRunsRow.holds Tryz.pinned (OpenSpec.ofChange safeRunsWrong)

/-- 'pawllaw25.TallyRuns': WHATEVER THE INPUT: true; the input reads as it did. -/
def tallyRunsSpec : ChangeSpec := { name := "tallyRuns", fn := fun _ => fun
  | [d1, d2] => { results := [.lit (.bool true)], args := [d1, d2] }
  | _ => none }
def tallyRunsRow : OpenClaim := { program := "ytfphpafkhljncaagreat", sum := "49fa065cc40d0d1cfc64e99454d566812d38f931a1e372423325b8d08725f3cb", func := "pawl/pawllaw25.TallyRuns", spec := "tallyRuns", unfollowed := true, recurses := true, apart := false }
def TallyRunsSaid : Prop := tallyRunsRow.holds Tryz.pinned (OpenSpec.ofChange tallyRunsSpec)

/-- ITS FALSE NEIGHBOUR: 'it returns false'. Refute it at one input. -/
def tallyRunsWrong : ChangeSpec := { name := "tallyRuns", fn := fun _ => fun
  | [d1, d2] => { results := [.lit (.bool false)], args := [d1, d2] }
  | _ => none }
def TallyRunsWrongFalsely : Prop := tallyRunsRow.holds Tryz.pinned (OpenSpec.ofChange tallyRunsWrong)

/-- 'pawllaw19.Machines': WHATEVER THE INPUT: true; the input reads as it did. -/
def machinesSpec : ChangeSpec := { name := "machines", fn := fun _ => fun
  | [d1, d2] => { results := [.lit (.bool true)], args := [d1, d2] }
  | _ => none }
def machinesRow : OpenClaim := { program := "ytfphpafkhljncaagreat", sum := "49fa065cc40d0d1cfc64e99454d566812d38f931a1e372423325b8d08725f3cb", func := "pawl/pawllaw19.Machines", spec := "machines", unfollowed := true, recurses := true, apart := false }
def MachinesSaid : Prop := machinesRow.holds Tryz.pinned (OpenSpec.ofChange machinesSpec)

/-- ITS FALSE NEIGHBOUR: 'it returns false'. Refute it at one input. -/
def machinesWrong : ChangeSpec := { name := "machines", fn := fun _ => fun
  | [d1, d2] => { results := [.lit (.bool false)], args := [d1, d2] }
  | _ => none }
def MachinesWrongFalsely : Prop := machinesRow.holds Tryz.pinned (OpenSpec.ofChange machinesWrong)

/-- 'pawllaw19.MachineForms': WHATEVER THE INPUT: true; the input reads as it did. -/
def machineFormsSpec : ChangeSpec := { name := "machineForms", fn := fun _ => fun
  | [d1, d2, d3] => { results := [.lit (.bool true)], args := [d1, d2, d3] }
  | _ => none }
def machineFormsRow : OpenClaim := { program := "ytfphpafkhljncaagreat", sum := "49fa065cc40d0d1cfc64e99454d566812d38f931a1e372423325b8d08725f3cb", func := "pawl/pawllaw19.MachineForms", spec := "machineForms", unfollowed := true, recurses := true, apart := false }
def MachineFormsSaid : Prop := machineFormsRow.holds Tryz.pinned (OpenSpec.ofChange machineFormsSpec)

/-- ITS FALSE NEIGHBOUR: 'it returns false'. Refute it at one input. -/
def machineFormsWrong : ChangeSpec := { name := "machineForms", fn := fun _ => fun
  | [d1, d2, d3] => { results := [.lit (.bool false)], args := [d1, d2, d3] }
  | _ => none }
def MachineFormsWrongFalsely : Prop := machineFormsRow.holds Tryz.pinned (OpenSpec.ofChange machineFormsWrong)

/-- 'pawllaw19.MachineTwins': WHATEVER THE INPUT: true; the input reads as it did. -/
def machineTwinsSpec : ChangeSpec := { name := "machineTwins", fn := fun _ => fun
  | [d1, d2] => { results := [.lit (.bool true)], args := [d1, d2] }
  | _ => none }
def machineTwinsRow : OpenClaim := { program := "ytfphpafkhljncaagreat", sum := "49fa065cc40d0d1cfc64e99454d566812d38f931a1e372423325b8d08725f3cb", func := "pawl/pawllaw19.MachineTwins", spec := "machineTwins", unfollowed := true, recurses := true, apart := false }
def MachineTwinsSaid : Prop := machineTwinsRow.holds Tryz.pinned (OpenSpec.ofChange machineTwinsSpec)

/-- ITS FALSE NEIGHBOUR: 'it returns false'. Refute it at one input. -/
def machineTwinsWrong : ChangeSpec := { name := "machineTwins", fn := fun _ => fun
  | [d1, d2] => { results := [.lit (.bool false)], args := [d1, d2] }
  | _ => none }
def MachineTwinsWrongFalsely : Prop := machineTwinsRow.holds Tryz.pinned (OpenSpec.ofChange machineTwinsWrong)

/-- 'pawllaw19.MachineTouches': WHATEVER THE INPUT: true; the input reads as it did. -/
def machineTouchesSpec : ChangeSpec := { name := "machineTouches", fn := fun _ => fun
  | [d1, d2] => { results := [.lit (.bool true)], args := [d1, d2] }
  | _ => none }
def machineTouchesRow : OpenClaim := { program := "ytfphpafkhljncaagreat", sum := "49fa065cc40d0d1cfc64e99454d566812d38f931a1e372423325b8d08725f3cb", func := "pawl/pawllaw19.MachineTouches", spec := "machineTouches", unfollowed := true, recurses := true, apart := false }
def MachineTouchesSaid : Prop := machineTouchesRow.holds Tryz.pinned (OpenSpec.ofChange machineTouchesSpec)

/-- ITS FALSE NEIGHBOUR: 'it returns false'. Refute it at one input. -/
def machineTouchesWrong : ChangeSpec := { name := "machineTouches", fn := fun _ => fun
  | [d1, d2] => { results := [.lit (.bool false)], args := [d1, d2] }
  | _ => none }
def MachineTouchesWrongFalsely : Prop := machineTouchesRow.holds Tryz.pinned (OpenSpec.ofChange machineTouchesWrong)

/-- 'pawllaw19.MachineDecided': WHATEVER THE INPUT: true; the input reads as it did. -/
def machineDecidedSpec : ChangeSpec := { name := "machineDecided", fn := fun _ => fun
  | [d1, d2] => { results := [.lit (.bool true)], args := [d1, d2] }
  | _ => none }
def machineDecidedRow : OpenClaim := { program := "ytfphpafkhljncaagreat", sum := "49fa065cc40d0d1cfc64e99454d566812d38f931a1e372423325b8d08725f3cb", func := "pawl/pawllaw19.MachineDecided", spec := "machineDecided", unfollowed := true, recurses := true, apart := false }
def MachineDecidedSaid : Prop := machineDecidedRow.holds Tryz.pinned (OpenSpec.ofChange machineDecidedSpec)

/-- ITS FALSE NEIGHBOUR: 'it returns false'. Refute it at one input. -/
def machineDecidedWrong : ChangeSpec := { name := "machineDecided", fn := fun _ => fun
  | [d1, d2] => { results := [.lit (.bool false)], args := [d1, d2] }
  | _ => none }
def MachineDecidedWrongFalsely : Prop := machineDecidedRow.holds Tryz.pinned (OpenSpec.ofChange machineDecidedWrong)

/-- 'pawllaw19.MachineGrows': WHATEVER THE INPUT: true; the input reads as it did. -/
def machineGrowsSpec : ChangeSpec := { name := "machineGrows", fn := fun _ => fun
  | [d1, d2] => { results := [.lit (.bool true)], args := [d1, d2] }
  | _ => none }
def machineGrowsRow : OpenClaim := { program := "ytfphpafkhljncaagreat", sum := "49fa065cc40d0d1cfc64e99454d566812d38f931a1e372423325b8d08725f3cb", func := "pawl/pawllaw19.MachineGrows", spec := "machineGrows", unfollowed := true, recurses := true, apart := false }
def MachineGrowsSaid : Prop := machineGrowsRow.holds Tryz.pinned (OpenSpec.ofChange machineGrowsSpec)

/-- ITS FALSE NEIGHBOUR: 'it returns false'. Refute it at one input. -/
def machineGrowsWrong : ChangeSpec := { name := "machineGrows", fn := fun _ => fun
  | [d1, d2] => { results := [.lit (.bool false)], args := [d1, d2] }
  | _ => none }
def MachineGrowsWrongFalsely : Prop := machineGrowsRow.holds Tryz.pinned (OpenSpec.ofChange machineGrowsWrong)

/-- 'pawllaw19.MachineIdle': WHATEVER THE INPUT: true; the input reads as it did. -/
def machineIdleSpec : ChangeSpec := { name := "machineIdle", fn := fun _ => fun
  | [d1, d2] => { results := [.lit (.bool true)], args := [d1, d2] }
  | _ => none }
def machineIdleRow : OpenClaim := { program := "ytfphpafkhljncaagreat", sum := "49fa065cc40d0d1cfc64e99454d566812d38f931a1e372423325b8d08725f3cb", func := "pawl/pawllaw19.MachineIdle", spec := "machineIdle", unfollowed := true, recurses := true, apart := false }
def MachineIdleSaid : Prop := machineIdleRow.holds Tryz.pinned (OpenSpec.ofChange machineIdleSpec)

/-- ITS FALSE NEIGHBOUR: 'it returns false'. Refute it at one input. -/
def machineIdleWrong : ChangeSpec := { name := "machineIdle", fn := fun _ => fun
  | [d1, d2] => { results := [.lit (.bool false)], args := [d1, d2] }
  | _ => none }
def MachineIdleWrongFalsely : Prop := machineIdleRow.holds Tryz.pinned (OpenSpec.ofChange machineIdleWrong)

/-- 'pawllaw22.Stocks': WHATEVER THE INPUT: true; the input reads as it did. -/
def stocksSpec : ChangeSpec := { name := "stocks", fn := fun _ => fun
  | [d1, d2] => { results := [.lit (.bool true)], args := [d1, d2] }
  | _ => none }
def stocksRow : OpenClaim := { program := "ytfphpafkhljncaagreat", sum := "49fa065cc40d0d1cfc64e99454d566812d38f931a1e372423325b8d08725f3cb", func := "pawl/pawllaw22.Stocks", spec := "stocks", unfollowed := true, recurses := true, apart := false }
def StocksSaid : Prop := stocksRow.holds Tryz.pinned (OpenSpec.ofChange stocksSpec)

/-- ITS FALSE NEIGHBOUR: 'it returns false'. Refute it at one input. -/
def stocksWrong : ChangeSpec := { name := "stocks", fn := fun _ => fun
  | [d1, d2] => { results := [.lit (.bool false)], args := [d1, d2] }
  | _ => none }
def StocksWrongFalsely : Prop := stocksRow.holds Tryz.pinned (OpenSpec.ofChange stocksWrong)

/-- 'pawllaw22.StockWhole': WHATEVER THE INPUT: true; the input reads as it did. -/
def stockWholeSpec : ChangeSpec := { name := "stockWhole", fn := fun _ => fun
  | [d1, d2] => { results := [.lit (.bool true)], args := [d1, d2] }
  | _ => none }
def stockWholeRow : OpenClaim := { program := "ytfphpafkhljncaagreat", sum := "49fa065cc40d0d1cfc64e99454d566812d38f931a1e372423325b8d08725f3cb", func := "pawl/pawllaw22.StockWhole", spec := "stockWhole", unfollowed := true, recurses := true, apart := false }
def StockWholeSaid : Prop := stockWholeRow.holds Tryz.pinned (OpenSpec.ofChange stockWholeSpec)

/-- ITS FALSE NEIGHBOUR: 'it returns false'. Refute it at one input. -/
def stockWholeWrong : ChangeSpec := { name := "stockWhole", fn := fun _ => fun
  | [d1, d2] => { results := [.lit (.bool false)], args := [d1, d2] }
  | _ => none }
def StockWholeWrongFalsely : Prop := stockWholeRow.holds Tryz.pinned (OpenSpec.ofChange stockWholeWrong)

/-- 'pawllaw22.StockMoves': WHATEVER THE INPUT: true; the input reads as it did. -/
def stockMovesSpec : ChangeSpec := { name := "stockMoves", fn := fun _ => fun
  | [d1, d2] => { results := [.lit (.bool true)], args := [d1, d2] }
  | _ => none }
def stockMovesRow : OpenClaim := { program := "ytfphpafkhljncaagreat", sum := "49fa065cc40d0d1cfc64e99454d566812d38f931a1e372423325b8d08725f3cb", func := "pawl/pawllaw22.StockMoves", spec := "stockMoves", unfollowed := true, recurses := true, apart := false }
def StockMovesSaid : Prop := stockMovesRow.holds Tryz.pinned (OpenSpec.ofChange stockMovesSpec)

/-- ITS FALSE NEIGHBOUR: 'it returns false'. Refute it at one input. -/
def stockMovesWrong : ChangeSpec := { name := "stockMoves", fn := fun _ => fun
  | [d1, d2] => { results := [.lit (.bool false)], args := [d1, d2] }
  | _ => none }
def StockMovesWrongFalsely : Prop := stockMovesRow.holds Tryz.pinned (OpenSpec.ofChange stockMovesWrong)

/-- 'pawllaw24.TrimSame': WHATEVER THE INPUT: true; the input reads as it did. -/
def trimSameSpec : ChangeSpec := { name := "trimSame", fn := fun _ => fun
  | [d1, d2] => { results := [.lit (.bool true)], args := [d1, d2] }
  | _ => none }
def trimSameRow : OpenClaim := { program := "ytfphpafkhljncaagreat", sum := "49fa065cc40d0d1cfc64e99454d566812d38f931a1e372423325b8d08725f3cb", func := "pawl/pawllaw24.TrimSame", spec := "trimSame", unfollowed := true, recurses := true, apart := false }
def TrimSameSaid : Prop := trimSameRow.holds Tryz.pinned (OpenSpec.ofChange trimSameSpec)

/-- ITS FALSE NEIGHBOUR: 'it returns false'. Refute it at one input. -/
def trimSameWrong : ChangeSpec := { name := "trimSame", fn := fun _ => fun
  | [d1, d2] => { results := [.lit (.bool false)], args := [d1, d2] }
  | _ => none }
def TrimSameWrongFalsely : Prop := trimSameRow.holds Tryz.pinned (OpenSpec.ofChange trimSameWrong)

/-- 'pawllaw22.StockDrain': WHATEVER THE INPUT: true; the input reads as it did. -/
def stockDrainSpec : ChangeSpec := { name := "stockDrain", fn := fun _ => fun
  | [d] => { results := [.lit (.bool true)], args := [d] }
  | _ => none }
def stockDrainRow : OpenClaim := { program := "ytfphpafkhljncaagreat", sum := "49fa065cc40d0d1cfc64e99454d566812d38f931a1e372423325b8d08725f3cb", func := "pawl/pawllaw22.StockDrain", spec := "stockDrain", unfollowed := true, recurses := true, apart := false }
def StockDrainSaid : Prop := stockDrainRow.holds Tryz.pinned (OpenSpec.ofChange stockDrainSpec)

/-- ITS FALSE NEIGHBOUR: 'it returns false'. Refute it at one input. -/
def stockDrainWrong : ChangeSpec := { name := "stockDrain", fn := fun _ => fun
  | [d] => { results := [.lit (.bool false)], args := [d] }
  | _ => none }
def StockDrainWrongFalsely : Prop := stockDrainRow.holds Tryz.pinned (OpenSpec.ofChange stockDrainWrong)

/-- 'pawllaw18.ThreadAlone': WHATEVER THE INPUT: true; the input reads as it did. -/
def threadAloneSpec : ChangeSpec := { name := "threadAlone", fn := fun _ => fun
  | [d1, d2] => { results := [.lit (.bool true)], args := [d1, d2] }
  | _ => none }
def threadAloneRow : OpenClaim := { program := "ytfphpafkhljncaagreat", sum := "49fa065cc40d0d1cfc64e99454d566812d38f931a1e372423325b8d08725f3cb", func := "pawl/pawllaw18.ThreadAlone", spec := "threadAlone", unfollowed := true, recurses := true, apart := false }
def ThreadAloneSaid : Prop := threadAloneRow.holds Tryz.pinned (OpenSpec.ofChange threadAloneSpec)

/-- ITS FALSE NEIGHBOUR: 'it returns false'. Refute it at one input. -/
def threadAloneWrong : ChangeSpec := { name := "threadAlone", fn := fun _ => fun
  | [d1, d2] => { results := [.lit (.bool false)], args := [d1, d2] }
  | _ => none }
def ThreadAloneWrongFalsely : Prop := threadAloneRow.holds Tryz.pinned (OpenSpec.ofChange threadAloneWrong)

/-- 'pawllaw22.StockStalls': WHATEVER THE INPUT: true; the input reads as it did. -/
def stockStallsSpec : ChangeSpec := { name := "stockStalls", fn := fun _ => fun
  | [d1, d2] => { results := [.lit (.bool true)], args := [d1, d2] }
  | _ => none }
def stockStallsRow : OpenClaim := { program := "ytfphpafkhljncaagreat", sum := "49fa065cc40d0d1cfc64e99454d566812d38f931a1e372423325b8d08725f3cb", func := "pawl/pawllaw22.StockStalls", spec := "stockStalls", unfollowed := true, recurses := true, apart := false }
def StockStallsSaid : Prop := stockStallsRow.holds Tryz.pinned (OpenSpec.ofChange stockStallsSpec)

/-- ITS FALSE NEIGHBOUR: 'it returns false'. Refute it at one input. -/
def stockStallsWrong : ChangeSpec := { name := "stockStalls", fn := fun _ => fun
  | [d1, d2] => { results := [.lit (.bool false)], args := [d1, d2] }
  | _ => none }
def StockStallsWrongFalsely : Prop := stockStallsRow.holds Tryz.pinned (OpenSpec.ofChange stockStallsWrong)

/-- 'pawllaw19.MachineSerial': WHATEVER THE INPUT: true; the input reads as it did. -/
def machineSerialSpec : ChangeSpec := { name := "machineSerial", fn := fun _ => fun
  | [d1, d2] => { results := [.lit (.bool true)], args := [d1, d2] }
  | _ => none }
def machineSerialRow : OpenClaim := { program := "ytfphpafkhljncaagreat", sum := "49fa065cc40d0d1cfc64e99454d566812d38f931a1e372423325b8d08725f3cb", func := "pawl/pawllaw19.MachineSerial", spec := "machineSerial", unfollowed := true, recurses := true, apart := false }
def MachineSerialSaid : Prop := machineSerialRow.holds Tryz.pinned (OpenSpec.ofChange machineSerialSpec)

/-- ITS FALSE NEIGHBOUR: 'it returns false'. Refute it at one input. -/
def machineSerialWrong : ChangeSpec := { name := "machineSerial", fn := fun _ => fun
  | [d1, d2] => { results := [.lit (.bool false)], args := [d1, d2] }
  | _ => none }
def MachineSerialWrongFalsely : Prop := machineSerialRow.holds Tryz.pinned (OpenSpec.ofChange machineSerialWrong)

/- THE SECOND FORM. 'bulk': how many values and letters a reading holds, each counted each time it is reached (what is shared counts as often as it is met; a slice's spare places count too). A statement '..UptoSaid' is the law's where the arguments, and the package variables that the reading takes, are together of bulk at most 1048576: NARROWER than '..Said'. Prove '..Said' where nothing that the law and all that it calls make is longer than what came in: it says more and counts as full. Else prove '..UptoSaid'. A law counts once. -/
mutual
def uptoBulk {H : Type} : DataW H → Nat
  | .lit (.string bytes) => bytes.length + 1
  | .lit _ => 1
  | .nil => 1
  | .ptr d => uptoBulk d + 1
  | .slice elems spare => uptoBulkAll elems + uptoBulkAll spare + 1
  | .agg parts => uptoBulkAll parts + 1
  | .iface _ d => uptoBulk d + 1
  | .map entries => uptoBulkEntries entries + 1
  | .held _ => 1
def uptoBulkAll {H : Type} : List (DataW H) → Nat
  | [] => 0
  | d :: r => uptoBulk d + uptoBulkAll r
def uptoBulkEntries {H : Type} : List (Lit × DataW H) → Nat
  | [] => 0
  | x :: r => uptoBulkEntry x + uptoBulkEntries r
def uptoBulkEntry {H : Type} : Lit × DataW H → Nat
  | (.string bytes, d) => bytes.length + uptoBulk d + 1
  | (_, d) => uptoBulk d + 1
 end
def uptoSmall : (H : Type) → List (DataW H) → Bool := fun _ ds => decide (uptoBulkAll ds ≤ 1048576)
def OpenSpec.upto (s : _root_.Go.ChangeSpec) : _root_.Go.OpenSpec := { _root_.Go.OpenSpec.ofChange s with cond := some uptoSmall }

/-- 'pawllaw18.ThreadForms', WHERE WHAT IT READS IS OF BULK AT MOST 1048576: true; the input reads as it did. -/
def threadFormsUptoRow : OpenClaim := { program := "ytfphpafkhljncaagreat", sum := "49fa065cc40d0d1cfc64e99454d566812d38f931a1e372423325b8d08725f3cb", func := "pawl/pawllaw18.ThreadForms", spec := "threadForms", unfollowed := true, recurses := true, apart := false, narrowed := true }
def ThreadFormsUptoSaid : Prop := threadFormsUptoRow.holds Tryz.pinned (OpenSpec.upto threadFormsSpec)

/-- 'pawllaw18.ThreadLives', WHERE WHAT IT READS IS OF BULK AT MOST 1048576: true; the input reads as it did. -/
def threadLivesUptoRow : OpenClaim := { program := "ytfphpafkhljncaagreat", sum := "49fa065cc40d0d1cfc64e99454d566812d38f931a1e372423325b8d08725f3cb", func := "pawl/pawllaw18.ThreadLives", spec := "threadLives", unfollowed := true, recurses := true, apart := false, narrowed := true }
def ThreadLivesUptoSaid : Prop := threadLivesUptoRow.holds Tryz.pinned (OpenSpec.upto threadLivesSpec)

/-- 'pawllaw18.ThreadMemory', WHERE WHAT IT READS IS OF BULK AT MOST 1048576: true; the input reads as it did. -/
def threadMemoryUptoRow : OpenClaim := { program := "ytfphpafkhljncaagreat", sum := "49fa065cc40d0d1cfc64e99454d566812d38f931a1e372423325b8d08725f3cb", func := "pawl/pawllaw18.ThreadMemory", spec := "threadMemory", unfollowed := true, recurses := true, apart := false, narrowed := true }
def ThreadMemoryUptoSaid : Prop := threadMemoryUptoRow.holds Tryz.pinned (OpenSpec.upto threadMemorySpec)

/-- 'pawllaw18.ThreadPauses', WHERE WHAT IT READS IS OF BULK AT MOST 1048576: true; the input reads as it did. -/
def threadPausesUptoRow : OpenClaim := { program := "ytfphpafkhljncaagreat", sum := "49fa065cc40d0d1cfc64e99454d566812d38f931a1e372423325b8d08725f3cb", func := "pawl/pawllaw18.ThreadPauses", spec := "threadPauses", unfollowed := true, recurses := true, apart := false, narrowed := true }
def ThreadPausesUptoSaid : Prop := threadPausesUptoRow.holds Tryz.pinned (OpenSpec.upto threadPausesSpec)

/-- 'pawllaw24.Trims', WHERE WHAT IT READS IS OF BULK AT MOST 1048576: true; the input reads as it did. -/
def trimsUptoRow : OpenClaim := { program := "ytfphpafkhljncaagreat", sum := "49fa065cc40d0d1cfc64e99454d566812d38f931a1e372423325b8d08725f3cb", func := "pawl/pawllaw24.Trims", spec := "trims", unfollowed := true, recurses := true, apart := false, narrowed := true }
def TrimsUptoSaid : Prop := trimsUptoRow.holds Tryz.pinned (OpenSpec.upto trimsSpec)

/-- 'pawllaw24.TrimAgain', WHERE WHAT IT READS IS OF BULK AT MOST 1048576: true; the input reads as it did. -/
def trimAgainUptoRow : OpenClaim := { program := "ytfphpafkhljncaagreat", sum := "49fa065cc40d0d1cfc64e99454d566812d38f931a1e372423325b8d08725f3cb", func := "pawl/pawllaw24.TrimAgain", spec := "trimAgain", unfollowed := true, recurses := true, apart := false, narrowed := true }
def TrimAgainUptoSaid : Prop := trimAgainUptoRow.holds Tryz.pinned (OpenSpec.upto trimAgainSpec)

/-- 'pawllaw21.SafeRuns', WHERE WHAT IT READS IS OF BULK AT MOST 1048576: true; the input reads as it did. -/
def safeRunsUptoRow : OpenClaim := { program := "ytfphpafkhljncaagreat", sum := "49fa065cc40d0d1cfc64e99454d566812d38f931a1e372423325b8d08725f3cb", func := "pawl/pawllaw21.SafeRuns", spec := "safeRuns", unfollowed := true, recurses := true, apart := false, narrowed := true }
def SafeRunsUptoSaid : Prop := safeRunsUptoRow.holds Tryz.pinned (OpenSpec.upto safeRunsSpec)

/-- 'pawllaw25.TallyRuns', WHERE WHAT IT READS IS OF BULK AT MOST 1048576: true; the input reads as it did. -/
def tallyRunsUptoRow : OpenClaim := { program := "ytfphpafkhljncaagreat", sum := "49fa065cc40d0d1cfc64e99454d566812d38f931a1e372423325b8d08725f3cb", func := "pawl/pawllaw25.TallyRuns", spec := "tallyRuns", unfollowed := true, recurses := true, apart := false, narrowed := true }
def TallyRunsUptoSaid : Prop := tallyRunsUptoRow.holds Tryz.pinned (OpenSpec.upto tallyRunsSpec)

/-- 'pawllaw19.Machines', WHERE WHAT IT READS IS OF BULK AT MOST 1048576: true; the input reads as it did. -/
def machinesUptoRow : OpenClaim := { program := "ytfphpafkhljncaagreat", sum := "49fa065cc40d0d1cfc64e99454d566812d38f931a1e372423325b8d08725f3cb", func := "pawl/pawllaw19.Machines", spec := "machines", unfollowed := true, recurses := true, apart := false, narrowed := true }
def MachinesUptoSaid : Prop := machinesUptoRow.holds Tryz.pinned (OpenSpec.upto machinesSpec)

/-- 'pawllaw19.MachineForms', WHERE WHAT IT READS IS OF BULK AT MOST 1048576: true; the input reads as it did. -/
def machineFormsUptoRow : OpenClaim := { program := "ytfphpafkhljncaagreat", sum := "49fa065cc40d0d1cfc64e99454d566812d38f931a1e372423325b8d08725f3cb", func := "pawl/pawllaw19.MachineForms", spec := "machineForms", unfollowed := true, recurses := true, apart := false, narrowed := true }
def MachineFormsUptoSaid : Prop := machineFormsUptoRow.holds Tryz.pinned (OpenSpec.upto machineFormsSpec)

/-- 'pawllaw19.MachineTwins', WHERE WHAT IT READS IS OF BULK AT MOST 1048576: true; the input reads as it did. -/
def machineTwinsUptoRow : OpenClaim := { program := "ytfphpafkhljncaagreat", sum := "49fa065cc40d0d1cfc64e99454d566812d38f931a1e372423325b8d08725f3cb", func := "pawl/pawllaw19.MachineTwins", spec := "machineTwins", unfollowed := true, recurses := true, apart := false, narrowed := true }
def MachineTwinsUptoSaid : Prop := machineTwinsUptoRow.holds Tryz.pinned (OpenSpec.upto machineTwinsSpec)

/-- 'pawllaw19.MachineTouches', WHERE WHAT IT READS IS OF BULK AT MOST 1048576: true; the input reads as it did. -/
def machineTouchesUptoRow : OpenClaim := { program := "ytfphpafkhljncaagreat", sum := "49fa065cc40d0d1cfc64e99454d566812d38f931a1e372423325b8d08725f3cb", func := "pawl/pawllaw19.MachineTouches", spec := "machineTouches", unfollowed := true, recurses := true, apart := false, narrowed := true }
def MachineTouchesUptoSaid : Prop := machineTouchesUptoRow.holds Tryz.pinned (OpenSpec.upto machineTouchesSpec)

/-- 'pawllaw19.MachineDecided', WHERE WHAT IT READS IS OF BULK AT MOST 1048576: true; the input reads as it did. -/
def machineDecidedUptoRow : OpenClaim := { program := "ytfphpafkhljncaagreat", sum := "49fa065cc40d0d1cfc64e99454d566812d38f931a1e372423325b8d08725f3cb", func := "pawl/pawllaw19.MachineDecided", spec := "machineDecided", unfollowed := true, recurses := true, apart := false, narrowed := true }
def MachineDecidedUptoSaid : Prop := machineDecidedUptoRow.holds Tryz.pinned (OpenSpec.upto machineDecidedSpec)

/-- 'pawllaw19.MachineGrows', WHERE WHAT IT READS IS OF BULK AT MOST 1048576: true; the input reads as it did. -/
def machineGrowsUptoRow : OpenClaim := { program := "ytfphpafkhljncaagreat", sum := "49fa065cc40d0d1cfc64e99454d566812d38f931a1e372423325b8d08725f3cb", func := "pawl/pawllaw19.MachineGrows", spec := "machineGrows", unfollowed := true, recurses := true, apart := false, narrowed := true }
def MachineGrowsUptoSaid : Prop := machineGrowsUptoRow.holds Tryz.pinned (OpenSpec.upto machineGrowsSpec)

/-- 'pawllaw19.MachineIdle', WHERE WHAT IT READS IS OF BULK AT MOST 1048576: true; the input reads as it did. -/
def machineIdleUptoRow : OpenClaim := { program := "ytfphpafkhljncaagreat", sum := "49fa065cc40d0d1cfc64e99454d566812d38f931a1e372423325b8d08725f3cb", func := "pawl/pawllaw19.MachineIdle", spec := "machineIdle", unfollowed := true, recurses := true, apart := false, narrowed := true }
def MachineIdleUptoSaid : Prop := machineIdleUptoRow.holds Tryz.pinned (OpenSpec.upto machineIdleSpec)

/-- 'pawllaw22.Stocks', WHERE WHAT IT READS IS OF BULK AT MOST 1048576: true; the input reads as it did. -/
def stocksUptoRow : OpenClaim := { program := "ytfphpafkhljncaagreat", sum := "49fa065cc40d0d1cfc64e99454d566812d38f931a1e372423325b8d08725f3cb", func := "pawl/pawllaw22.Stocks", spec := "stocks", unfollowed := true, recurses := true, apart := false, narrowed := true }
def StocksUptoSaid : Prop := stocksUptoRow.holds Tryz.pinned (OpenSpec.upto stocksSpec)

/-- 'pawllaw22.StockWhole', WHERE WHAT IT READS IS OF BULK AT MOST 1048576: true; the input reads as it did. -/
def stockWholeUptoRow : OpenClaim := { program := "ytfphpafkhljncaagreat", sum := "49fa065cc40d0d1cfc64e99454d566812d38f931a1e372423325b8d08725f3cb", func := "pawl/pawllaw22.StockWhole", spec := "stockWhole", unfollowed := true, recurses := true, apart := false, narrowed := true }
def StockWholeUptoSaid : Prop := stockWholeUptoRow.holds Tryz.pinned (OpenSpec.upto stockWholeSpec)

/-- 'pawllaw22.StockMoves', WHERE WHAT IT READS IS OF BULK AT MOST 1048576: true; the input reads as it did. -/
def stockMovesUptoRow : OpenClaim := { program := "ytfphpafkhljncaagreat", sum := "49fa065cc40d0d1cfc64e99454d566812d38f931a1e372423325b8d08725f3cb", func := "pawl/pawllaw22.StockMoves", spec := "stockMoves", unfollowed := true, recurses := true, apart := false, narrowed := true }
def StockMovesUptoSaid : Prop := stockMovesUptoRow.holds Tryz.pinned (OpenSpec.upto stockMovesSpec)

/-- 'pawllaw24.TrimSame', WHERE WHAT IT READS IS OF BULK AT MOST 1048576: true; the input reads as it did. -/
def trimSameUptoRow : OpenClaim := { program := "ytfphpafkhljncaagreat", sum := "49fa065cc40d0d1cfc64e99454d566812d38f931a1e372423325b8d08725f3cb", func := "pawl/pawllaw24.TrimSame", spec := "trimSame", unfollowed := true, recurses := true, apart := false, narrowed := true }
def TrimSameUptoSaid : Prop := trimSameUptoRow.holds Tryz.pinned (OpenSpec.upto trimSameSpec)

/-- 'pawllaw22.StockDrain', WHERE WHAT IT READS IS OF BULK AT MOST 1048576: true; the input reads as it did. -/
def stockDrainUptoRow : OpenClaim := { program := "ytfphpafkhljncaagreat", sum := "49fa065cc40d0d1cfc64e99454d566812d38f931a1e372423325b8d08725f3cb", func := "pawl/pawllaw22.StockDrain", spec := "stockDrain", unfollowed := true, recurses := true, apart := false, narrowed := true }
def StockDrainUptoSaid : Prop := stockDrainUptoRow.holds Tryz.pinned (OpenSpec.upto stockDrainSpec)

/-- 'pawllaw18.ThreadAlone', WHERE WHAT IT READS IS OF BULK AT MOST 1048576: true; the input reads as it did. -/
def threadAloneUptoRow : OpenClaim := { program := "ytfphpafkhljncaagreat", sum := "49fa065cc40d0d1cfc64e99454d566812d38f931a1e372423325b8d08725f3cb", func := "pawl/pawllaw18.ThreadAlone", spec := "threadAlone", unfollowed := true, recurses := true, apart := false, narrowed := true }
def ThreadAloneUptoSaid : Prop := threadAloneUptoRow.holds Tryz.pinned (OpenSpec.upto threadAloneSpec)

/-- 'pawllaw22.StockStalls', WHERE WHAT IT READS IS OF BULK AT MOST 1048576: true; the input reads as it did. -/
def stockStallsUptoRow : OpenClaim := { program := "ytfphpafkhljncaagreat", sum := "49fa065cc40d0d1cfc64e99454d566812d38f931a1e372423325b8d08725f3cb", func := "pawl/pawllaw22.StockStalls", spec := "stockStalls", unfollowed := true, recurses := true, apart := false, narrowed := true }
def StockStallsUptoSaid : Prop := stockStallsUptoRow.holds Tryz.pinned (OpenSpec.upto stockStallsSpec)

/-- 'pawllaw19.MachineSerial', WHERE WHAT IT READS IS OF BULK AT MOST 1048576: true; the input reads as it did. -/
def machineSerialUptoRow : OpenClaim := { program := "ytfphpafkhljncaagreat", sum := "49fa065cc40d0d1cfc64e99454d566812d38f931a1e372423325b8d08725f3cb", func := "pawl/pawllaw19.MachineSerial", spec := "machineSerial", unfollowed := true, recurses := true, apart := false, narrowed := true }
def MachineSerialUptoSaid : Prop := machineSerialUptoRow.holds Tryz.pinned (OpenSpec.upto machineSerialSpec)

end Rows
end Go.Proofs.YtfphpafkhljncaaGreat
