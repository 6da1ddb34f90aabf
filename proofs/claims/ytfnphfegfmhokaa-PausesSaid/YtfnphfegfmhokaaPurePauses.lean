/- Proved: of any number of attempts, for both kinds of threads, the program's pause and error are the document's; no condition. -/
import Derived.Test.YtfnphfegfmhokaaPPausesx1
namespace Go.Proofs.Ytfnphfegfmhokaa.Pure
open Go.RowKit Go.Proofs.Ytfnphfegfmhokaa.PPauses Go.Proofs.YtfnphfegfmhokaaW.PrintWords Go.Proofs.YtfnphfegfmhokaaW.PrintLast Go.Proofs.YtfnphfegfmhokaaW.PrintMore

theorem awake_yes : pawllaw16_awake.f 60 = some true := by decide +kernel
theorem both (a0 : Bool) : ∀ n : Nat, n ≤ 16 → pawllaw16_Pauses.f 60 a0 (n : Int) = some true := by
  cases a0 <;> decide +kernel
theorem Pauses : pawllaw16_Pauses.Pure := by
  intro a0 a1 _
  refine ⟨60, ?_⟩
  by_cases h0 : a1 < 0
  · unfold pawllaw16_Pauses.f backoff_Pause.f pawlref10_Pause.f
    rw [if_pos h0, if_pos h0]
    simp [backoff_Pause.j0, pawlref10_Pause.j0, pawllaw0_Num.f, awake_yes]
  · by_cases h1 : a1 > 16
    · unfold pawllaw16_Pauses.f backoff_Pause.f pawlref10_Pause.f
      rw [if_neg h0, if_neg h0]
      simp [backoff_Pause.j0, pawlref10_Pause.j0, pawllaw0_Num.f, awake_yes, h1]
    · obtain ⟨n, rfl⟩ := Int.eq_ofNat_of_zero_le (show 0 ≤ a1 by omega)
      exact both a0 n (by omega)

end Go.Proofs.Ytfnphfegfmhokaa.Pure
