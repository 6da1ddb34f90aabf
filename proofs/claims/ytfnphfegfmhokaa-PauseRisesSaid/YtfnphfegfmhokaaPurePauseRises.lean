/- Proved: of more attempts the pause is never less, from 1 to the greatest, and who is not polite has none; no condition. -/
import Derived.Test.YtfnphfegfmhokaaPPauseRisesx1
namespace Go.Proofs.Ytfnphfegfmhokaa.Pure
open Go.RowKit Go.Proofs.Ytfnphfegfmhokaa.PPauseRises Go.Proofs.YtfnphfegfmhokaaW.PrintWords Go.Proofs.YtfnphfegfmhokaaW.PrintLast Go.Proofs.YtfnphfegfmhokaaW.PrintMore

theorem awake_yes : pawllaw16_awake.f 60 = some true := by decide +kernel
theorem pauses (x y : Int) (hx : 1 ≤ x) (hx' : x ≤ 16) (hy : 1 ≤ y) (hy' : y ≤ 16) :
    ∃ p q r h, backoff_Pause.f 60 true (mn x y) = some (p, 0) ∧ backoff_Pause.f 60 true (mx x y) = some (q, 0) ∧ backoff_Pause.f 60 false x = some (r, 0) ∧ backoff_Pause.f 60 true (wrap64 (16 + x)) = some (h, 1600) ∧ 1 ≤ p ∧ p ≤ q ∧ q ≤ 8 ∧ r = 0 := by
  have key : ∀ n : Nat, n ≤ 16 → 1 ≤ n → ∀ m : Nat, m ≤ 16 → 1 ≤ m →
      ((backoff_Pause.f 60 true (mn n m)).bind fun p => (backoff_Pause.f 60 true (mx n m)).bind fun q => (backoff_Pause.f 60 false n).bind fun r => (backoff_Pause.f 60 true (wrap64 (16 + n))).bind fun h => some (decide (p.2 = 0 ∧ q.2 = 0 ∧ r.2 = 0 ∧ h.2 = 1600 ∧ 1 ≤ p.1 ∧ p.1 ≤ q.1 ∧ q.1 ≤ 8 ∧ r.1 = 0))) = some true := by
    decide +kernel
  obtain ⟨n, rfl⟩ := Int.eq_ofNat_of_zero_le (show 0 ≤ x by omega)
  obtain ⟨m, rfl⟩ := Int.eq_ofNat_of_zero_le (show 0 ≤ y by omega)
  have := key n (by omega) (by omega) m (by omega) (by omega)
  simp only [Option.bind_eq_some_iff, Option.some.injEq, decide_eq_true_eq] at this
  obtain ⟨⟨p, p2⟩, hp, ⟨q, q2⟩, hq, ⟨r, r2⟩, hr, ⟨h, h2⟩, hh, rfl, rfl, rfl, rfl, g1, g2, g3, g4⟩ := this
  exact ⟨p, q, r, h, hp, hq, hr, hh, g1, g2, g3, g4⟩
theorem within (a : Int) : 1 ≤ wrap64 (1 + wrap64 (Int.tmod (IntKind.u64.wrap a) 16)) ∧ wrap64 (1 + wrap64 (Int.tmod (IntKind.u64.wrap a) 16)) ≤ 16 := by
  have h0 : 0 ≤ IntKind.u64.wrap a := by
    unfold IntKind.wrap
    simp [IntKind.bits, IntKind.signed]
    exact Int.emod_nonneg _ (by decide)
  generalize IntKind.u64.wrap a = b at *
  have h1 : 0 ≤ Int.tmod b 16 := Int.tmod_nonneg _ h0
  have h2 : Int.tmod b 16 < 16 := Int.tmod_lt_of_pos _ (by decide)
  generalize Int.tmod b 16 = c at *
  unfold wrap64
  omega
theorem PauseRises : pawllaw16_PauseRises.Pure := by
  intro a0 a1 _ _
  refine ⟨60, ?_⟩
  obtain ⟨l0, u0⟩ := within a0
  obtain ⟨l1, u1⟩ := within a1
  unfold pawllaw16_PauseRises.f
  generalize wrap64 (1 + wrap64 (Int.tmod (IntKind.u64.wrap a0) 16)) = x at *
  generalize wrap64 (1 + wrap64 (Int.tmod (IntKind.u64.wrap a1) 16)) = y at *
  obtain ⟨p, q, r, h, hp, hq, hr, hh, g1, g2, g3, g4⟩ := pauses x y l0 u0 l1 u1
  rw [awake_yes]
  simp [hp, hq, hr, hh, pawllaw0_Num.f, g1, g2, g3, g4]

end Go.Proofs.Ytfnphfegfmhokaa.Pure
