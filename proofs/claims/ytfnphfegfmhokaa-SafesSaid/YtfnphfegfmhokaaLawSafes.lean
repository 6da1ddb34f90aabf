/- Proved: what Check tells of touches is what the document tells, and they stay, for any touches; no condition. -/
import Derived.Test.YtfnphfegfmhokaaRows
import Derived.Test.YtfnphfegfmhokaaSafe4
import Derived.Test.YtfnphfegfmhokaaG16
import Derived.WalkKit
import Derived.ProofKit
import Derived.OpenShut
import Derived.ShutString
import Derived.ChangeOld
import Derived.Below
import Derived.SizedLaws
import Derived.Carry
namespace Go.Proofs.Ytfnphfegfmhokaa.safes
open Go.ChangeShapes Go.WideShapes Go.ChangeAt Go.RowKit
open Go.ChangeMaps (open_string shut_string)
open Go.Proofs.Ytfnphfegfmhokaa.GW
set_option linter.unusedVariables false
set_option linter.unusedSimpArgs false
theorem own : ownKnob Try.prog.godebug = none := by kernel_rfl
theorem laid : laidOutB Try.prog = true := by kernel_rfl
set_option maxRecDepth 100000 in
theorem lifted (os : Os) (started : os.Started) (H : Type) (enc : TypeId × Value → H) :
    ReturnsInHanded {} Try.checked os 6 .any (Rows.safesSpec.pre6 enc Try.prog Try.f6 Rows.safesRow.domain false) (Rows.safesSpec.post enc Try.prog Try.f6 false true false false) := by
  refine returnsInHanded_of_change_sized (C := Try.checked) own started (by kernel_rfl) Try.func6
    (ChangeSpec.witness6 (enc := enc) (C := Try.checked) false ⟨#[], #[.slice none 0 0], []⟩ 12 (by kernel_rfl) (by kernel_rfl) (by kernel_rfl) (by kernel_rfl)) ?_
  intro W base args ds gs before hval0 hW hcnd hsz0 _
  have hsz : (DataW.weightsEach Try.prog (Try.f6.params.toList ++ Rows.safesSpec.plain.varTypes Try.prog) (ds ++ gs)).all (· ≤ reachBytes) = true := hsz0
  have hval : ∀ (j : Nat) t v, Try.f6.params[j]? = some t → args[j]? = some v → Value.okWide Try.prog W .any base t v := hval0
  have hW' := hW
  obtain ⟨p, q, hA0, hV, rfl, hfz, hnd⟩ := hW
  have hA : DataW.TrodAll enc Try.prog W 0 (fun _ => true) true Try.f6.params.toList args.toList ds p := hA0
  rw [Try.params6] at hA hval hsz
  obtain ⟨v0, vs0, d0, ds0, p0, q0, hargs, rfl, rfl, h0, r0⟩ := trodAll_cons hA
  obtain ⟨rfl, rfl, rfl⟩ := trodAll_nil r0
  obtain rfl : args = #[v0] := by cases args; simp_all
  obtain ⟨rfl, rfl⟩ := trodVars_none hV
  have k0 := h0
  have l0 : ∀ x ∈ p0, x.block < W.heap.size := fun x hx => by simpa using hW'.lt x (by simp [hx])
  have c0 := slice_cell Try.underlying33 (hval 0 33 v0 rfl rfl)
  have hwt : (d0.weights Try.prog 33).all (· ≤ reachBytes) = true ∧ True := by
    simp only [DataW.weightsEach, List.cons_append, List.nil_append, List.all_append, Bool.and_eq_true] at hsz
    exact ⟨hsz.1, trivial⟩
  have touches : ∀ (fuel : Nat) (cs : List Value) (d : DataW H) (ps : List MemPlace), DataW.trod enc Try.prog W 0 (fun _ => true) true fuel 41 cs = some (d, ps) → ∃ x : Touch, cs = x.enc := by
    intro fuel cs d ps h
    obtain ⟨xs, hl, hc, _⟩ := open_ints_struct (P := Try.prog) Try.underlying41 (by kernel_rfl) (fun i f hf => by
      have hi : i < 8 := by have := (Array.getElem?_eq_some_iff.1 hf).1; simpa using this
      match i, hi with
      | 0, _ | 1, _ | 2, _ | 3, _ | 4, _ | 5, _ | 6, _ | 7, _ => simp at hf; subst hf; exact ⟨rfl, by kernel_rfl, by kernel_rfl⟩) h
    match xs, hl with
    | [x0, x1, x2, x3, x4, x5, x6, x7], _ => exact ⟨⟨x0, x1, x2, x3, x4, x5, x6, x7⟩, hc⟩
  obtain ⟨fuel0, t0⟩ := h0
  rw [c0] at t0
  obtain ⟨u0, ts, hu0, rows0, len0⟩ := open_rows Touch.enc Try.underlying33 (size := 8) (by kernel_rfl) (by decide) (fun _ => rfl) touches t0 hwt.1
  obtain rfl : v0 = u0 := by simpa using hu0
  have hlen : (ts.length + 2) * 64 ≤ 140737488355328 := by
    have hb : Try.prog.bytesOf 41 = 64 := by kernel_rfl
    rw [hb] at len0; unfold reachBytes at len0; omega
  clear hA0 hval0 hsz0 hsz
  refine (law_calls (T_Safes rows0 hlen)).mono fun e W' ⟨he, bel⟩ => ?_
  subst he
  exact ⟨_, rfl, _, _, _, [], _, [], hW', trodAll_mk1 (shut_bool Try.underlying4 _), (trodAll_cons_mk (Below.trod laid (by kernel_rfl) (of_decide_eq_true (by kernel_rfl)) k0 bel l0) trodAll_mk0), rfl, bel.frame _, fun h => by cases h⟩
theorem over : Rows.safesRow.holds Try.pinned (OpenSpec.ofChange Rows.safesSpec) :=
  OpenClaim.holds_of_wide 6 Try.f6 rfl rfl rfl rfl rfl rfl rfl ⟨rfl, rfl, rfl, rfl, rfl⟩ rfl rfl rfl rfl rfl (by kernel_rfl) Try.func6 (by kernel_rfl)
    (of_decide_eq_true (by kernel_rfl)) (by unfold Func.isWrapper; first | (rw [if_pos (by decide +kernel)]; kernel_rfl) | (rw [if_neg (by decide +kernel)]; exact ⟨rfl, rfl⟩))
    (fun os started H enc _ => lifted os started H enc)
theorem proved : Rows.SafesSaid := over
end Go.Proofs.Ytfnphfegfmhokaa.safes
namespace Go.Proofs.Ytfnphfegfmhokaa
/-- The row, under a short name, for the claim. -/
theorem safes_holds : Rows.SafesSaid := safes.proved
#print axioms safes_holds
end Go.Proofs.Ytfnphfegfmhokaa
