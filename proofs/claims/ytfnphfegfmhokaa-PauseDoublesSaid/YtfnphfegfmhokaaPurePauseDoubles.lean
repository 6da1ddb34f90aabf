/- Proved: for both kinds of threads, each pause is twice the one ahead, at most the greatest; no condition. -/
import Derived.Test.YtfnphfegfmhokaaPPauseDoublesx1
namespace Go.Proofs.Ytfnphfegfmhokaa.Pure
open Go.RowKit Go.Proofs.Ytfnphfegfmhokaa.PPauseDoubles Go.Proofs.YtfnphfegfmhokaaW.PrintWords Go.Proofs.YtfnphfegfmhokaaW.PrintLast Go.Proofs.YtfnphfegfmhokaaW.PrintMore

theorem PauseDoubles : pawllaw16_PauseDoubles.Pure := by
  intro a0
  refine ⟨60, ?_⟩
  cases a0 <;> decide +kernel

end Go.Proofs.Ytfnphfegfmhokaa.Pure
