/- Proved: a slot waits for three epochs, and goes then, once, for any acts; no condition. -/
import Derived.Test.YtfnphfegfmhokaaRows
import Derived.Test.YtfnphfegfmhokaaLimbo7
import Derived.Test.YtfnphfegfmhokaaG16
import Derived.WalkKit
import Derived.ProofKit
import Derived.OpenShut
import Derived.ShutString
import Derived.ChangeOld
import Derived.Below
import Derived.SizedLaws
import Derived.Carry
namespace Go.Proofs.Ytfnphfegfmhokaa.limboWaits
open Go.ChangeShapes Go.WideShapes Go.ChangeAt Go.RowKit
open Go.ChangeMaps (open_string shut_string)
open Go.Proofs.Ytfnphfegfmhokaa.GW
set_option linter.unusedVariables false
set_option linter.unusedSimpArgs false
theorem own : ownKnob Try.prog.godebug = none := by kernel_rfl
theorem laid : laidOutB Try.prog = true := by kernel_rfl
set_option maxRecDepth 100000 in
theorem lifted (os : Os) (started : os.Started) (H : Type) (enc : TypeId × Value → H) :
    ReturnsInHanded {} Try.checked os 10 .any (Rows.limboWaitsSpec.pre6 enc Try.prog Try.f10 Rows.limboWaitsRow.domain false) (Rows.limboWaitsSpec.post enc Try.prog Try.f10 false true false false) := by
  refine returnsInHanded_of_change_sized (C := Try.checked) own started (by kernel_rfl) Try.func10
    (ChangeSpec.witness6 (enc := enc) (C := Try.checked) false ⟨#[], #[.slice none 0 0], []⟩ 12 (by kernel_rfl) (by kernel_rfl) (by kernel_rfl) (by kernel_rfl)) ?_
  intro W base args ds gs before hval0 hW hcnd hsz0 _
  have hsz : (DataW.weightsEach Try.prog (Try.f10.params.toList ++ Rows.limboWaitsSpec.plain.varTypes Try.prog) (ds ++ gs)).all (· ≤ reachBytes) = true := hsz0
  have hval : ∀ (j : Nat) t v, Try.f10.params[j]? = some t → args[j]? = some v → Value.okWide Try.prog W .any base t v := hval0
  have hW' := hW
  obtain ⟨p, q, hA0, hV, rfl, hfz, hnd⟩ := hW
  have hA : DataW.TrodAll enc Try.prog W 0 (fun _ => true) true Try.f10.params.toList args.toList ds p := hA0
  rw [Try.params10] at hA hval hsz
  obtain ⟨v0, vs0, d0, ds0, p0, q0, hargs, rfl, rfl, h0, r0⟩ := trodAll_cons hA
  obtain ⟨rfl, rfl, rfl⟩ := trodAll_nil r0
  obtain rfl : args = #[v0] := by cases args; simp_all
  obtain ⟨rfl, rfl⟩ := trodVars_none hV
  have k0 := h0
  have l0 : ∀ x ∈ p0, x.block < W.heap.size := fun x hx => by simpa using hW'.lt x (by simp [hx])
  have c0 := slice_cell Try.underlying49 (hval 0 49 v0 rfl rfl)
  have hwt : (d0.weights Try.prog 49).all (· ≤ reachBytes) = true ∧ True := by
    simp only [DataW.weightsEach, List.cons_append, List.nil_append, List.all_append, Bool.and_eq_true] at hsz
    exact ⟨hsz.1, trivial⟩
  obtain ⟨fuel0, t0⟩ := h0
  rw [c0] at t0
  obtain ⟨u0, ts0, hu0, rows0, len0⟩ := open_rows encI Try.underlying49 (size := 1) (by kernel_rfl) (by decide) (fun _ => rfl) (fun fuel cs d ps h => by
    obtain ⟨x, hx, _⟩ := open_int_cs (P := Try.prog) Try.underlying3 h
    exact ⟨x, hx⟩) t0 hwt.1
  obtain rfl : v0 = u0 := by simpa using hu0
  have hlen0 : (ts0.length + 2) * 8 ≤ 140737488355328 := by
    have hb : Try.prog.bytesOf 3 = 8 := by kernel_rfl
    rw [hb] at len0; unfold reachBytes at len0; omega
  clear hA0 hval0 hsz0 hsz
  refine (law_calls (T_LimboWaits rows0 hlen0)).mono fun e W' ⟨he, bel⟩ => ?_
  subst he
  exact ⟨_, rfl, _, _, _, [], _, [], hW', trodAll_mk1 (shut_bool Try.underlying4 _), (trodAll_cons_mk (Below.trod laid (by kernel_rfl) (of_decide_eq_true (by kernel_rfl)) k0 bel l0) trodAll_mk0), rfl, bel.frame _, fun h => by cases h⟩
theorem over : Rows.limboWaitsRow.holds Try.pinned (OpenSpec.ofChange Rows.limboWaitsSpec) :=
  OpenClaim.holds_of_wide 10 Try.f10 rfl rfl rfl rfl rfl rfl rfl ⟨rfl, rfl, rfl, rfl, rfl⟩ rfl rfl rfl rfl rfl (by kernel_rfl) Try.func10 (by kernel_rfl)
    (of_decide_eq_true (by kernel_rfl)) (by unfold Func.isWrapper; first | (rw [if_pos (by decide +kernel)]; kernel_rfl) | (rw [if_neg (by decide +kernel)]; exact ⟨rfl, rfl⟩))
    (fun os started H enc _ => lifted os started H enc)
theorem proved : Rows.LimboWaitsSaid := over
end Go.Proofs.Ytfnphfegfmhokaa.limboWaits
namespace Go.Proofs.Ytfnphfegfmhokaa
/-- The row, under a short name, for the claim. -/
theorem limboWaits_holds : Rows.LimboWaitsSaid := limboWaits.proved
#print axioms limboWaits_holds
end Go.Proofs.Ytfnphfegfmhokaa
