/- Contracts of functions of the program, as the laws use them. -/
import Derived.Test.YtfnphfegfmhokaaSafe2
namespace Go.Proofs.Ytfnphfegfmhokaa
open Go GW Go.Proofs
set_option linter.unusedVariables false
set_option linter.unusedSimpArgs false
theorem and_mask (a : Int) (k : Nat) (hk : k < 63) : IntKind.i64.wrap (BitVec.ofInt 64 a &&& BitVec.ofInt 64 ((2 ^ k - 1 : Nat) : Int)).toNat = a % ((2 ^ k : Nat) : Int) := by
  have hp : 2 ^ k < 2 ^ 63 := Nat.pow_lt_pow_right (by decide) hk
  have hp2 : 0 < 2 ^ k := Nat.two_pow_pos k
  have h1 : (BitVec.ofInt 64 ((2 ^ k - 1 : Nat) : Int)).toNat = 2 ^ k - 1 := by
    rw [BitVec.toNat_ofInt]
    have : ((2 ^ k - 1 : Nat) : Int) % ((2 ^ 64 : Nat) : Int) = ((2 ^ k - 1 : Nat) : Int) := Int.emod_eq_of_lt (by omega) (by omega)
    rw [this]; simp
  have h2 : (BitVec.ofInt 64 a &&& BitVec.ofInt 64 ((2 ^ k - 1 : Nat) : Int)).toNat = (BitVec.ofInt 64 a).toNat % 2 ^ k := by
    rw [BitVec.toNat_and, h1, Nat.and_two_pow_sub_one_eq_mod]
  rw [h2, BitVec.toNat_ofInt]
  have h3 : (((a % ((2 ^ 64 : Nat) : Int)).toNat % 2 ^ k : Nat) : Int) = a % ((2 ^ k : Nat) : Int) := by
    have hnn : 0 ≤ a % ((2 ^ 64 : Nat) : Int) := Int.emod_nonneg _ (by decide)
    rw [Int.natCast_emod, Int.toNat_of_nonneg hnn]
    refine Int.emod_emod_of_dvd a ?_
    exact Int.natCast_dvd_natCast.2 (Nat.pow_dvd_pow 2 (by omega))
  rw [h3]
  have h4 : 0 ≤ a % ((2 ^ k : Nat) : Int) := Int.emod_nonneg _ (by omega)
  have h5 : a % ((2 ^ k : Nat) : Int) < ((2 ^ k : Nat) : Int) := Int.emod_lt_of_pos _ (by omega)
  exact wrap_id (by omega) (by omega)
theorem binV_and_mask (a : Int) (k : Nat) (hk : k < 63) {m : Int} (hm : m = ((2 ^ k - 1 : Nat) : Int)) : binV .and (.int .i64 a) (.int .i64 m) = some (.int .i64 (a % ((2 ^ k : Nat) : Int))) := by
  subst hm
  simp only [binV, intB, if_true]
  rw [← and_mask a k hk]; rfl
theorem unV_neg (k : IntKind) (n : Int) : unV .neg (.int k n) = some (.int k (k.wrap (0 - n))) := rfl
theorem u64_nonneg (a : Int) : 0 ≤ IntKind.u64.wrap a := by unfold IntKind.wrap; simp [IntKind.bits, IntKind.signed]; exact Int.emod_nonneg _ (by decide)
theorem fin8 {v : Value} {ts : List Touch} {h : GH} (r : rowsAt h 8 v (ts.map Touch.enc)) (hb : ts.any Touch.bad = true) : S8_j1 v (i64 2) (i64 0) h (fun v _ => v = .bool true) := by
  unfold S8_j1
  refine T_Check r ?_
  have : checkN ts = (0, 2100) := by unfold checkN; rw [hb]; rfl
  unfold checkP; rw [this]
  refine bnd_of rfl (bnd_of rfl (bnd_of rfl (ifV_t rfl ?_)))
  refine T_Num (bnd_of rfl (ifV_t rfl (bnd_of rfl (ifV_t rfl ?_))))
  refine T_Num (bnd_of rfl ?_)
  rfl
theorem T_SafeForms {which x at_ : Int} {h : GH} : T Try.prog 8 [.int .i64 which, .int .i64 x, .int .i64 at_] h fun v _ => v = .bool true := by
  apply S8_T
  unfold S8
  refine T_awake21 ?_
  refine bnd_of rfl (ifV_f rfl ?_)
  refine bnd_of (binV_and_mask x 10 (by decide) (by decide)) ?_
  have d1 : 0 ≤ x % ((2 ^ 10 : Nat) : Int) := Int.emod_nonneg _ (by decide)
  have d2 : x % ((2 ^ 10 : Nat) : Int) < 1024 := Int.emod_lt_of_pos _ (by decide)
  generalize x % ((2 ^ 10 : Nat) : Int) = e at *
  refine bnd_of (binV_add _ _ _) ?_
  rw [wrap_id (by omega) (by omega)]
  obtain ⟨d, hd⟩ : ∃ d, d = 1 + e := ⟨_, rfl⟩
  rw [← hd]
  have hd1 : 1 ≤ d := by omega
  have hd2 : d ≤ 1024 := by omega
  clear hd
  refine bnd_of rfl (bnd_of rfl (bnd_of rfl ?_))
  unfold bsV
  refine bnd_of rfl ?_
  intro b hb
  refine T_Check (ts := [⟨0, 0, 3, 0, 0, -1, 0, 0⟩, ⟨0, 0, 40, 0, 0, 0, 2, 2⟩, ⟨0, 0, 90, 0, 0, 1, 1, 1⟩]) (rowsAt_of (upd_same _ _ _) rfl (by decide) (by decide) (by simp [Touch.enc]) (Nat.zero_le _) ⟨[], rfl⟩) ?_
  have e1 : checkN [⟨0, 0, 3, 0, 0, -1, 0, 0⟩, ⟨0, 0, 40, 0, 0, 0, 2, 2⟩, ⟨0, 0, 90, 0, 0, 1, 1, 1⟩] = (2, 0) := by decide +kernel
  unfold checkP; rw [e1]
  refine bnd_of rfl (bnd_of rfl ?_)
  have hrow : (upd h b (.row 41 [i64 0, i64 0, i64 3, i64 0, i64 0, i64 (-1), i64 0, i64 0, i64 0, i64 0, i64 40, i64 0, i64 0, i64 0, i64 2, i64 2, i64 0, i64 0, i64 90, i64 0, i64 0, i64 1, i64 1, i64 1] 24 true)) = (upd h b (.row 41 [i64 0, i64 0, i64 3, i64 0, i64 0, i64 (-1), i64 0, i64 0, i64 0, i64 0, i64 40, i64 0, i64 0, i64 0, i64 2, i64 2, i64 0, i64 0, i64 90, i64 0, i64 0, i64 1, i64 1, i64 1] 24 true)) := rfl
  refine bnd_of (cvV_int _ _ _) ?_
  refine bnd_of (binV_rem _ _ _) ?_
  refine bnd_of (cvV_int _ _ _) ?_
  refine bnd_of (cvV_int _ _ _) ?_
  refine bnd_of (binV_rem _ _ _) ?_
  have hu := u64_nonneg at_
  have hv := u64_nonneg which
  generalize IntKind.u64.wrap at_ = u at *
  generalize IntKind.u64.wrap which = w at *
  have t1 : 0 ≤ u.tmod 3 := Int.tmod_nonneg _ hu
  have t2 : u.tmod 3 < 3 := Int.tmod_lt_of_pos _ (by omega)
  have t3 : 0 ≤ w.tmod 6 := Int.tmod_nonneg _ hv
  have t4 : w.tmod 6 < 6 := Int.tmod_lt_of_pos _ (by omega)
  generalize u.tmod 3 = i at *
  generalize w.tmod 6 = c at *
  rw [wrap_id (by omega) (by omega)]
  obtain rfl | rfl | rfl | rfl | rfl | rfl : c = 0 ∨ c = 1 ∨ c = 2 ∨ c = 3 ∨ c = 4 ∨ c = 5 := by omega
  · refine bnd_of rfl (ifV_t rfl ?_)
    refine bnd_of (binV_add _ _ _) ?_
    rw [wrap_id (by omega) (by omega)]
    obtain rfl | rfl | rfl : i = 0 ∨ i = 1 ∨ i = 2 := by omega
    · refine bnd_of rfl (bnd_of rfl (bnd_of (by rw [stV_same]; exact if_pos ⟨rfl, by decide, rfl⟩) ?_))
      refine fin8 (ts := [⟨0, 0, 633 + d, 0, 0, -1, 0, 0⟩, ⟨0, 0, 40, 0, 0, 0, 2, 2⟩, ⟨0, 0, 90, 0, 0, 1, 1, 1⟩]) (rowsAt_of (upd_same _ _ _) rfl (by decide) (by decide) (by simp [Touch.enc]) (Nat.zero_le _) ⟨[], rfl⟩) ?_
      simp [Touch.bad]; omega
    · refine bnd_of rfl (bnd_of rfl (bnd_of (by rw [stV_same]; exact if_pos ⟨rfl, by decide, rfl⟩) ?_))
      refine fin8 (ts := [⟨0, 0, 3, 0, 0, -1, 0, 0⟩, ⟨0, 0, 633 + d, 0, 0, 0, 2, 2⟩, ⟨0, 0, 90, 0, 0, 1, 1, 1⟩]) (rowsAt_of (upd_same _ _ _) rfl (by decide) (by decide) (by simp [Touch.enc]) (Nat.zero_le _) ⟨[], rfl⟩) ?_
      simp [Touch.bad]; omega
    · refine bnd_of rfl (bnd_of rfl (bnd_of (by rw [stV_same]; exact if_pos ⟨rfl, by decide, rfl⟩) ?_))
      refine fin8 (ts := [⟨0, 0, 3, 0, 0, -1, 0, 0⟩, ⟨0, 0, 40, 0, 0, 0, 2, 2⟩, ⟨0, 0, 633 + d, 0, 0, 1, 1, 1⟩]) (rowsAt_of (upd_same _ _ _) rfl (by decide) (by decide) (by simp [Touch.enc]) (Nat.zero_le _) ⟨[], rfl⟩) ?_
      simp [Touch.bad]; omega
  · refine bnd_of rfl (ifV_f rfl ?_); refine bnd_of rfl (ifV_t rfl ?_)
    refine bnd_of (unV_neg _ _) ?_
    rw [wrap_id (by omega) (by omega)]
    obtain rfl | rfl | rfl : i = 0 ∨ i = 1 ∨ i = 2 := by omega
    · refine bnd_of rfl (bnd_of rfl (bnd_of (by rw [stV_same]; exact if_pos ⟨rfl, by decide, rfl⟩) ?_))
      refine fin8 (ts := [⟨0, 0, 0 - d, 0, 0, -1, 0, 0⟩, ⟨0, 0, 40, 0, 0, 0, 2, 2⟩, ⟨0, 0, 90, 0, 0, 1, 1, 1⟩]) (rowsAt_of (upd_same _ _ _) rfl (by decide) (by decide) (by simp [Touch.enc]) (Nat.zero_le _) ⟨[], rfl⟩) ?_
      simp [Touch.bad]; omega
    · refine bnd_of rfl (bnd_of rfl (bnd_of (by rw [stV_same]; exact if_pos ⟨rfl, by decide, rfl⟩) ?_))
      refine fin8 (ts := [⟨0, 0, 3, 0, 0, -1, 0, 0⟩, ⟨0, 0, 0 - d, 0, 0, 0, 2, 2⟩, ⟨0, 0, 90, 0, 0, 1, 1, 1⟩]) (rowsAt_of (upd_same _ _ _) rfl (by decide) (by decide) (by simp [Touch.enc]) (Nat.zero_le _) ⟨[], rfl⟩) ?_
      simp [Touch.bad]; omega
    · refine bnd_of rfl (bnd_of rfl (bnd_of (by rw [stV_same]; exact if_pos ⟨rfl, by decide, rfl⟩) ?_))
      refine fin8 (ts := [⟨0, 0, 3, 0, 0, -1, 0, 0⟩, ⟨0, 0, 40, 0, 0, 0, 2, 2⟩, ⟨0, 0, 0 - d, 0, 0, 1, 1, 1⟩]) (rowsAt_of (upd_same _ _ _) rfl (by decide) (by decide) (by simp [Touch.enc]) (Nat.zero_le _) ⟨[], rfl⟩) ?_
      simp [Touch.bad]; omega
  · refine bnd_of rfl (ifV_f rfl ?_); refine bnd_of rfl (ifV_f rfl ?_); refine bnd_of rfl (ifV_t rfl ?_)
    refine bnd_of (binV_add _ _ _) ?_
    rw [wrap_id (by omega) (by omega)]
    obtain rfl | rfl | rfl : i = 0 ∨ i = 1 ∨ i = 2 := by omega
    · refine bnd_of rfl (bnd_of rfl (bnd_of (by rw [stV_same]; exact if_pos ⟨rfl, by decide, rfl⟩) ?_))
      refine fin8 (ts := [⟨0, 0, 3, 0, 0, 11 + d, 0, 0⟩, ⟨0, 0, 40, 0, 0, 0, 2, 2⟩, ⟨0, 0, 90, 0, 0, 1, 1, 1⟩]) (rowsAt_of (upd_same _ _ _) rfl (by decide) (by decide) (by simp [Touch.enc]) (Nat.zero_le _) ⟨[], rfl⟩) ?_
      simp [Touch.bad]; omega
    · refine bnd_of rfl (bnd_of rfl (bnd_of (by rw [stV_same]; exact if_pos ⟨rfl, by decide, rfl⟩) ?_))
      refine fin8 (ts := [⟨0, 0, 3, 0, 0, -1, 0, 0⟩, ⟨0, 0, 40, 0, 0, 11 + d, 2, 2⟩, ⟨0, 0, 90, 0, 0, 1, 1, 1⟩]) (rowsAt_of (upd_same _ _ _) rfl (by decide) (by decide) (by simp [Touch.enc]) (Nat.zero_le _) ⟨[], rfl⟩) ?_
      simp [Touch.bad]; omega
    · refine bnd_of rfl (bnd_of rfl (bnd_of (by rw [stV_same]; exact if_pos ⟨rfl, by decide, rfl⟩) ?_))
      refine fin8 (ts := [⟨0, 0, 3, 0, 0, -1, 0, 0⟩, ⟨0, 0, 40, 0, 0, 0, 2, 2⟩, ⟨0, 0, 90, 0, 0, 11 + d, 1, 1⟩]) (rowsAt_of (upd_same _ _ _) rfl (by decide) (by decide) (by simp [Touch.enc]) (Nat.zero_le _) ⟨[], rfl⟩) ?_
      simp [Touch.bad]; omega
  · refine bnd_of rfl (ifV_f rfl ?_); refine bnd_of rfl (ifV_f rfl ?_); refine bnd_of rfl (ifV_f rfl ?_); refine bnd_of rfl (ifV_t rfl ?_)
    refine bnd_of (binV_sub _ _ _) ?_
    rw [wrap_id (by omega) (by omega)]
    obtain rfl | rfl | rfl : i = 0 ∨ i = 1 ∨ i = 2 := by omega
    · refine bnd_of rfl (bnd_of rfl (bnd_of (by rw [stV_same]; exact if_pos ⟨rfl, by decide, rfl⟩) ?_))
      refine fin8 (ts := [⟨0, 0, 3, 0, 0, -1 - d, 0, 0⟩, ⟨0, 0, 40, 0, 0, 0, 2, 2⟩, ⟨0, 0, 90, 0, 0, 1, 1, 1⟩]) (rowsAt_of (upd_same _ _ _) rfl (by decide) (by decide) (by simp [Touch.enc]) (Nat.zero_le _) ⟨[], rfl⟩) ?_
      simp [Touch.bad]; omega
    · refine bnd_of rfl (bnd_of rfl (bnd_of (by rw [stV_same]; exact if_pos ⟨rfl, by decide, rfl⟩) ?_))
      refine fin8 (ts := [⟨0, 0, 3, 0, 0, -1, 0, 0⟩, ⟨0, 0, 40, 0, 0, -1 - d, 2, 2⟩, ⟨0, 0, 90, 0, 0, 1, 1, 1⟩]) (rowsAt_of (upd_same _ _ _) rfl (by decide) (by decide) (by simp [Touch.enc]) (Nat.zero_le _) ⟨[], rfl⟩) ?_
      simp [Touch.bad]; omega
    · refine bnd_of rfl (bnd_of rfl (bnd_of (by rw [stV_same]; exact if_pos ⟨rfl, by decide, rfl⟩) ?_))
      refine fin8 (ts := [⟨0, 0, 3, 0, 0, -1, 0, 0⟩, ⟨0, 0, 40, 0, 0, 0, 2, 2⟩, ⟨0, 0, 90, 0, 0, -1 - d, 1, 1⟩]) (rowsAt_of (upd_same _ _ _) rfl (by decide) (by decide) (by simp [Touch.enc]) (Nat.zero_le _) ⟨[], rfl⟩) ?_
      simp [Touch.bad]; omega
  · refine bnd_of rfl (ifV_f rfl ?_); refine bnd_of rfl (ifV_f rfl ?_); refine bnd_of rfl (ifV_f rfl ?_); refine bnd_of rfl (ifV_f rfl ?_); refine bnd_of rfl (ifV_t rfl ?_)
    refine bnd_of (binV_add _ _ _) ?_
    rw [wrap_id (by omega) (by omega)]
    refine bnd_of rfl (bnd_of rfl (bnd_of (by rw [stV_same]; exact if_pos ⟨rfl, by decide, rfl⟩) ?_))
    refine fin8 (ts := [⟨0, 0, 3, 0, 0, -1, 0, 0⟩, ⟨0, 0, 40, 0, 0, 0, 2, 2 + d⟩, ⟨0, 0, 90, 0, 0, 1, 1, 1⟩]) (rowsAt_of (upd_same _ _ _) rfl (by decide) (by decide) (by simp [Touch.enc]) (Nat.zero_le _) ⟨[], rfl⟩) ?_
    simp [Touch.bad]; omega
  · refine bnd_of rfl (ifV_f rfl ?_); refine bnd_of rfl (ifV_f rfl ?_); refine bnd_of rfl (ifV_f rfl ?_); refine bnd_of rfl (ifV_f rfl ?_); refine bnd_of rfl (ifV_f rfl ?_)
    refine bnd_of (binV_add _ _ _) ?_
    rw [wrap_id (by omega) (by omega)]
    refine bnd_of rfl (bnd_of rfl (bnd_of (by rw [stV_same]; exact if_pos ⟨rfl, by decide, rfl⟩) ?_))
    refine fin8 (ts := [⟨0, 0, 3, 0, 0, -1, 0, 0⟩, ⟨0, 0, 40, 0, 0, 0, 2, 2⟩, ⟨0, 0, 90, 0, 0, 1, 1 + d, 1⟩]) (rowsAt_of (upd_same _ _ _) rfl (by decide) (by decide) (by simp [Touch.enc]) (Nat.zero_le _) ⟨[], rfl⟩) ?_
    simp [Touch.bad]; omega
end Go.Proofs.Ytfnphfegfmhokaa
