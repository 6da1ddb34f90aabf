/- Closed facts of the loaded program, each for itself. Nothing here is a statement on the program. -/
import Derived.Test.YtfphpafkhljncaaGreatRows
import Derived.KernelRfl
import Derived.ProofKit
import Derived.JoinedOf
namespace Go.Proofs.YtfphpafkhljncaaGreat
open Go
theorem fct_laid : laidOutB Tryz.pinned.checked.prog = true := by kernel_rfl
theorem fct_maps : mapsRowed Tryz.pinned.checked.prog = true := by kernel_rfl
theorem fct_stops : (Tryz.pinned.checked.prog.stops == []) = true := by kernel_rfl
theorem fct_knobs : (Tryz.pinned.checked.prog.stopKnobs == []) = true := by kernel_rfl
theorem fct_plain : (Rows.machineTwinsRow.plainKeys == Tryz.pinned.checked.prog.plainKeys) = true := by kernel_rfl
theorem fct_heard : Tryz.pinned.checked.prog.stopsHeard = true := by kernel_rfl
theorem fct_lifted : (Rows.machineTwinsRow.lifted == Tryz.pinned.checked.prog.liftsFinal) = true := by kernel_rfl
theorem fct_make : (Tryz.pinned.checked.prog.make == some Rows.machineTwinsRow.make) = true := by kernel_rfl
end Go.Proofs.YtfphpafkhljncaaGreat
