/- Proved: attempts at any operations over any words and descriptors answer, step by step in any row, as the document tells, and leave the same words; no condition. -/
import Derived.Test.YtnhiagemjonglaaGreatRows
import Derived.Test.YtnhiagemjonglaaGreatKZ
import Derived.WalkKit
import Derived.ProofKit
import Derived.OpenShut
import Derived.ShutString
import Derived.ChangeOld
import Derived.Below
import Derived.SizedLaws
import Derived.Carry
namespace Go.Proofs.YtnhiagemjonglaaGreat.attempts
open Go.ChangeShapes Go.WideShapes Go.ChangeAt Go.RowKit
open Go.ChangeMaps (open_string shut_string)
open Go.Proofs.YtnhiagemjonglaaGreat.GW
set_option linter.unusedVariables false
set_option linter.unusedSimpArgs false
theorem own : ownKnob Tryz.prog.godebug = none := by kernel_rfl
theorem laid : laidOutB Tryz.prog = true := by kernel_rfl
set_option maxRecDepth 100000 in
theorem lifted (os : Os) (started : os.Started) (H : Type) (enc : TypeId × Value → H) :
    ReturnsInHanded {} Tryz.checked os 7 .any (Rows.attemptsSpec.pre6 enc Tryz.prog Tryz.f7 Rows.attemptsRow.domain false) (Rows.attemptsSpec.post enc Tryz.prog Tryz.f7 false true false false) := by
  refine returnsInHanded_of_change_sized (C := Tryz.checked) own started (by kernel_rfl) Tryz.func7
    (ChangeSpec.witness6 (enc := enc) (C := Tryz.checked) false ⟨#[], #[.slice none 0 0, .slice none 0 0, .slice none 0 0, .slice none 0 0], []⟩ 12 (by kernel_rfl) (by kernel_rfl) (by kernel_rfl) (by kernel_rfl)) ?_
  intro W base args ds gs before hval0 hW hcnd hsz0 _
  have hsz : (DataW.weightsEach Tryz.prog (Tryz.f7.params.toList ++ Rows.attemptsSpec.plain.varTypes Tryz.prog) (ds ++ gs)).all (· ≤ reachBytes) = true := hsz0
  have hval : ∀ (j : Nat) t v, Tryz.f7.params[j]? = some t → args[j]? = some v → Value.okWide Tryz.prog W .any base t v := hval0
  have hW' := hW
  obtain ⟨p, q, hA0, hV, rfl, hfz, hnd⟩ := hW
  have hA : DataW.TrodAll enc Tryz.prog W 0 (fun _ => true) true Tryz.f7.params.toList args.toList ds p := hA0
  rw [Tryz.params7] at hA hval hsz
  obtain ⟨v0, vs0, d0, ds0, p0, q0, hargs, rfl, rfl, h0, r0⟩ := trodAll_cons hA
  obtain ⟨v1, vs1, d1, ds1, p1, q1, rfl, rfl, rfl, h1, r1⟩ := trodAll_cons r0
  obtain ⟨v2, vs2, d2, ds2, p2, q2, rfl, rfl, rfl, h2, r2⟩ := trodAll_cons r1
  obtain ⟨v3, vs3, d3, ds3, p3, q3, rfl, rfl, rfl, h3, r3⟩ := trodAll_cons r2
  obtain ⟨rfl, rfl, rfl⟩ := trodAll_nil r3
  obtain rfl : args = #[v0, v1, v2, v3] := by cases args; simp_all
  obtain ⟨rfl, rfl⟩ := trodVars_none hV
  have k0 := h0
  have l0 : ∀ x ∈ p0, x.block < W.heap.size := fun x hx => by simpa using hW'.lt x (by simp [hx])
  have c0 := slice_cell Tryz.underlying45 (hval 0 45 v0 rfl rfl)
  have k1 := h1
  have l1 : ∀ x ∈ p1, x.block < W.heap.size := fun x hx => by simpa using hW'.lt x (by simp [hx])
  have c1 := slice_cell Tryz.underlying66 (hval 1 66 v1 rfl rfl)
  have k2 := h2
  have l2 : ∀ x ∈ p2, x.block < W.heap.size := fun x hx => by simpa using hW'.lt x (by simp [hx])
  have c2 := slice_cell Tryz.underlying67 (hval 2 67 v2 rfl rfl)
  have k3 := h3
  have l3 : ∀ x ∈ p3, x.block < W.heap.size := fun x hx => by simpa using hW'.lt x (by simp [hx])
  have c3 := slice_cell Tryz.underlying45 (hval 3 45 v3 rfl rfl)
  have hwt : (d0.weights Tryz.prog 45).all (· ≤ reachBytes) = true ∧ (d1.weights Tryz.prog 66).all (· ≤ reachBytes) = true ∧ (d2.weights Tryz.prog 67).all (· ≤ reachBytes) = true ∧ (d3.weights Tryz.prog 45).all (· ≤ reachBytes) = true ∧ True := by
    simp only [DataW.weightsEach, List.cons_append, List.nil_append, List.all_append, Bool.and_eq_true] at hsz
    exact ⟨hsz.1, hsz.2.1, hsz.2.2.1, hsz.2.2.2.1, trivial⟩
  obtain ⟨fuel0, t0⟩ := h0
  rw [c0] at t0
  obtain ⟨u0, ts0, hu0, rows0, rng0, len0⟩ := open_i64s t0 hwt.1
  obtain rfl : v0 = u0 := by simpa using hu0
  obtain ⟨fuel1, t1⟩ := h1
  rw [c1] at t1
  obtain ⟨u1, us1, ts1, hu1, rows1, len1⟩ := open_swapss t1 hwt.2.1
  obtain rfl : v1 = u1 := by simpa using hu1
  obtain ⟨fuel2, t2⟩ := h2
  rw [c2] at t2
  obtain ⟨u2, es2, ts2, hu2, rows2, all2⟩ := open_txns t2 hwt.2.2.1
  obtain rfl : v2 = u2 := by simpa using hu2
  obtain ⟨fuel3, t3⟩ := h3
  rw [c3] at t3
  obtain ⟨u3, ts3, hu3, rows3, rng3, len3⟩ := open_i64s t3 hwt.2.2.2.1
  obtain rfl : v3 = u3 := by simpa using hu3
  clear hA0 hval0 hsz0 hsz
  refine (law_calls (T_Attempts (All.one (P := baseP (full W)) (HLe.refl _)) rows0 rows1 rows2 all2 rows3 rng0 rng3 fun _ => rfl)).mono fun e W' ⟨he, bel⟩ => ?_
  subst he
  exact ⟨_, rfl, _, _, _, [], _, [], hW', trodAll_mk1 (shut_bool Tryz.underlying4 _), (trodAll_cons_mk (Below.trod laid (by kernel_rfl) (of_decide_eq_true (by kernel_rfl)) k0 bel l0) (trodAll_cons_mk (Below.trod laid (by kernel_rfl) (of_decide_eq_true (by kernel_rfl)) k1 bel l1) (trodAll_cons_mk (Below.trod laid (by kernel_rfl) (of_decide_eq_true (by kernel_rfl)) k2 bel l2) (trodAll_cons_mk (Below.trod laid (by kernel_rfl) (of_decide_eq_true (by kernel_rfl)) k3 bel l3) trodAll_mk0)))), rfl, bel.frame _, fun h => by cases h⟩
theorem over : Rows.attemptsRow.holds Tryz.pinned (OpenSpec.ofChange Rows.attemptsSpec) :=
  OpenClaim.holds_of_wide 7 Tryz.f7 rfl rfl rfl rfl rfl rfl rfl ⟨rfl, rfl, rfl, rfl, rfl⟩ rfl rfl rfl rfl rfl (by kernel_rfl) Tryz.func7 (by kernel_rfl)
    (of_decide_eq_true (by kernel_rfl)) (by unfold Func.isWrapper; first | (rw [if_pos (by decide +kernel)]; kernel_rfl) | (rw [if_neg (by decide +kernel)]; exact ⟨rfl, rfl⟩))
    (fun os started H enc _ => lifted os started H enc)
theorem proved : Rows.AttemptsSaid := over
end Go.Proofs.YtnhiagemjonglaaGreat.attempts
namespace Go.Proofs.YtnhiagemjonglaaGreat
/-- The row, under a short name, for the claim. -/
theorem attempts_holds : Rows.AttemptsSaid := attempts.proved
#print axioms attempts_holds
end Go.Proofs.YtnhiagemjonglaaGreat
