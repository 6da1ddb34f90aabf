/- Proved: picks that are trimmed lead to the same cells and answers, for any plan and picks; no condition. -/
import Derived.Test.YtcpfkkppfgolaaaGreatDoorRows
import Derived.Test.YtcpfkkppfgolaaaGreatDoorTTR10
import Derived.Test.YtcpfkkppfgolaaaGreatDoorTie
import Derived.Test.YtcpfkkppfgolaaaGreatDoorCards
import Derived.WalkKit
import Derived.ProofKit
import Derived.OpenShut
import Derived.ShutString
import Derived.ChangeOld
import Derived.Below
import Derived.SizedLaws
import Derived.Carry
import Derived.Lay
import Derived.Handed
import Derived.LaidLaws
import Derived.LaidHandle
import Derived.SevenTiedAt
namespace Go.Proofs.YtcpfkkppfgolaaaGreatDoor.topTrim
open Go.ChangeShapes Go.WideShapes Go.ChangeAt Go.RowKit
open Go.ChangeMaps (open_string shut_string)
open Go.Proofs.YtcpfkkppfgolaaaGreatDoor.GW
set_option linter.unusedVariables false
set_option linter.unusedSimpArgs false
theorem own : ownKnob Tryz.prog.godebug = none := by kernel_rfl
theorem laid : laidOutB Tryz.prog = true := by kernel_rfl
theorem lay (os : Os) (args : Array Value) : laidMetH Tryz.prog Rows.topTrimRow.laid ((World.laidAll Tryz.prog os Rows.topTrimRow.laid).forCall (fun _ _ => 0) ⟨#[], args, []⟩).memory :=
  laidMetH_of_parts (laidMet_laidAll args (by kernel_rfl) (by kernel_rfl)) (by kernel_rfl)
set_option maxRecDepth 100000 in
theorem lifted (os : Os) (started : os.Started) (H : Type) (enc : TypeId × Value → H) :
    ReturnsInHanded {} Tryz.checked os 3 .any (fun w args => (Rows.topTrimSpec.pre enc Tryz.prog Tryz.f3 Rows.topTrimRow.domain false w args ∧ laidMetH Tryz.prog Rows.topTrimRow.laid w) ∧ sizedMet enc Tryz.prog Tryz.f3 (OpenSpec.ofChange Rows.topTrimSpec) false w args)
      (Rows.topTrimSpec.post enc Tryz.prog Tryz.f3 false true false false) := by
  refine returnsInHanded_of_change_and (C := Tryz.checked) (X := fun w _ => laidMetH Tryz.prog Rows.topTrimRow.laid w) (fun _ _ _ hh h => h.of_heap hh) own started (by kernel_rfl) Tryz.func3
    (ChangeSpec.witness_at (enc := enc) (C := Tryz.checked) (os := os) (X := fun w _ => laidMetH Tryz.prog Rows.topTrimRow.laid w) false (World.laidAll Tryz.prog os Rows.topTrimRow.laid) #[.agg #[.slice none 0 0, .int .i64 0, .bool false], .slice none 0 0] 12 (World.laidAll_os _ _ _) (by kernel_rfl) (by kernel_rfl) (by kernel_rfl) (by kernel_rfl) (by kernel_rfl) (lay os _)) ?_
  intro W base args ds gs before hval0 hW hcnd hsz0 _ _
  have hsz : (DataW.weightsEach Tryz.prog (Tryz.f3.params.toList ++ Rows.topTrimSpec.plain.varTypes Tryz.prog) (ds ++ gs)).all (· ≤ reachBytes) = true := hsz0
  have hval : ∀ (j : Nat) t v, Tryz.f3.params[j]? = some t → args[j]? = some v → Value.okWide Tryz.prog W .any base t v := hval0
  have hW' := hW
  obtain ⟨p, q, hA0, hV, rfl, hfz, hnd⟩ := hW
  have hA : DataW.TrodAll enc Tryz.prog W 0 (fun _ => true) true Tryz.f3.params.toList args.toList ds p := hA0
  rw [Tryz.params3] at hA hval hsz
  obtain ⟨v0, vs0, d0, ds0, p0, q0, hargs, rfl, rfl, h0, r0⟩ := trodAll_cons hA
  obtain ⟨v1, vs1, d1, ds1, p1, q1, rfl, rfl, rfl, h1, r1⟩ := trodAll_cons r0
  obtain ⟨rfl, rfl, rfl⟩ := trodAll_nil r1
  obtain rfl : args = #[v0, v1] := by cases args; simp_all
  obtain ⟨rfl, rfl⟩ := trodVars_none hV
  have k0 := h0
  have l0 : ∀ x ∈ p0, x.block < W.heap.size := fun x hx => by simpa using hW'.lt x (by simp [hx])
  have k1 := h1
  have l1 : ∀ x ∈ p1, x.block < W.heap.size := fun x hx => by simpa using hW'.lt x (by simp [hx])
  have c1 := slice_cell Tryz.underlying25 (hval 1 25 v1 rfl rfl)
  have hwt : (d0.weights Tryz.prog 24).all (· ≤ reachBytes) = true ∧ (d1.weights Tryz.prog 25).all (· ≤ reachBytes) = true ∧ True := by
    simp only [DataW.weightsEach, List.cons_append, List.nil_append, List.all_append, Bool.and_eq_true] at hsz
    exact ⟨hsz.1, hsz.2.1, trivial⟩
  obtain ⟨u0, pl0, hv0, hp0⟩ := open_plan (hval 0 24 v0 rfl rfl) h0 hwt.1
  subst hv0
  obtain ⟨fuel1, t1⟩ := h1
  rw [c1] at t1
  obtain ⟨u1, ts1, hu1, rows1, rng1, len1⟩ := open_i64s t1 hwt.2.1
  obtain rfl : v1 = u1 := by simpa using hu1
  clear hA0 hval0 hsz0 hsz
  refine (law_calls (T_TopTrim (All.one (P := baseP (full W)) (HLe.refl _)) hp0 rows1 fun _ => rfl)).mono fun e W' ⟨he, bel⟩ => ?_
  subst he
  exact ⟨_, rfl, _, _, _, [], _, [], hW', trodAll_mk1 (shut_bool Tryz.underlying4 _), (trodAll_cons_mk (Below.trod laid (by kernel_rfl) (of_decide_eq_true (by kernel_rfl)) k0 bel l0) (trodAll_cons_mk (Below.trod laid (by kernel_rfl) (of_decide_eq_true (by kernel_rfl)) k1 bel l1) trodAll_mk0)), rfl, bel.frame _, fun h => by cases h⟩
theorem over : Rows.topTrimRow.holds Tryz.pinned (OpenSpec.ofChange Rows.topTrimSpec) :=
  OpenClaim.holds_of_wide 3 Tryz.f3 rfl rfl rfl rfl rfl rfl rfl ⟨rfl, rfl, rfl, rfl, rfl⟩ rfl rfl rfl rfl rfl (by kernel_rfl) Tryz.func3 (by kernel_rfl)
    (of_decide_eq_true (by kernel_rfl)) (by unfold Func.isWrapper; first | (rw [if_pos (by decide +kernel)]; kernel_rfl) | (rw [if_neg (by decide +kernel)]; exact ⟨rfl, rfl⟩))
    (fun os started H enc _ => lifted os started H enc)
theorem proved : Rows.TopTrimSaid := over
theorem fnum : Tryz.prog.funcNamed "pawl/pawltop.TopTrim" = some 3 := by kernel_rfl
theorem looks0 : true = Tryz.prog.looks [] := by kernel_rfl
theorem noStand : (Tryz.f3.params.toList.all fun t => !Tryz.prog.wantsStandIn t) = true := by kernel_rfl
theorem card : Rows.TopTrimCardSaid :=
  Claim7.holds_tied_plain_at .later [] Rows.topTrimCard.laidKinds true Rows.topTrimCard.stood.harness true
    proved (fun _ h => by cases h) (by kernel_rfl) (fun _ h => by cases h) topTrim_row_tie rfl ⟨rfl, rfl⟩ (by kernel_rfl) rfl
    (fun f fn hf hfn => by
      obtain rfl : f = 3 := (Option.some.inj (fnum.symm.trans hf)).symm
      obtain rfl : fn = Tryz.f3 := (Option.some.inj (Tryz.func3.symm.trans hfn)).symm
      exact ⟨looks0, fun j t ht => by
        have := List.all_eq_true.1 noStand t (by rw [← Array.getElem?_toList] at ht; exact List.mem_of_getElem? ht)
        exact show Tryz.prog.wantsStandIn t = false by simpa using this⟩)
    (by kernel_rfl)
end Go.Proofs.YtcpfkkppfgolaaaGreatDoor.topTrim
namespace Go.Proofs.YtcpfkkppfgolaaaGreatDoor
/-- The card, under a short name, for the claim. -/
theorem topTrimCard_holds : Rows.TopTrimCardSaid := topTrim.card
#print axioms topTrimCard_holds
end Go.Proofs.YtcpfkkppfgolaaaGreatDoor
