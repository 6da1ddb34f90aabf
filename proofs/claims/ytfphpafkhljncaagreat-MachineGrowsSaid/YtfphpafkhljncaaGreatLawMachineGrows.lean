/- Proved: events and touches grow at their ends alone, what was answered stays, for any plan and picks; no condition. -/
import Derived.Test.YtfphpafkhljncaaGreatRows
import Derived.Test.YtfphpafkhljncaaGreatQQ8
import Derived.Test.YtfphpafkhljncaaGreatFact
import Derived.Test.YtfphpafkhljncaaGreatFact2
import Derived.JoinedOf
import Derived.WalkKit
import Derived.ProofKit
import Derived.OpenShut
import Derived.ShutString
import Derived.ChangeOld
import Derived.Below
import Derived.SizedLaws
import Derived.Carry
namespace Go.Proofs.YtfphpafkhljncaaGreat.machineGrows
open Go.ChangeShapes Go.WideShapes Go.ChangeAt Go.RowKit
open Go.ChangeMaps (open_string shut_string)
open Go.Proofs.YtfphpafkhljncaaGreat.GW
set_option linter.unusedVariables false
set_option linter.unusedSimpArgs false
theorem own : ownKnob Tryz.prog.godebug = none := by kernel_rfl
theorem laid : laidOutB Tryz.prog = true := fct_laid
set_option maxRecDepth 100000 in
theorem lifted (os : Os) (started : os.Started) (H : Type) (enc : TypeId × Value → H) :
    ReturnsInHanded {} Tryz.checked os 16 .any (Rows.machineGrowsSpec.pre6 enc Tryz.prog Tryz.f16 Rows.machineGrowsRow.domain false) (Rows.machineGrowsSpec.post enc Tryz.prog Tryz.f16 false true false false) := by
  refine returnsInHanded_of_change_sized (C := Tryz.checked) own started (by kernel_rfl) Tryz.func16
    (ChangeSpec.witness6 (enc := enc) (C := Tryz.checked) false ⟨#[], #[.agg #[.slice none 0 0, .int .i64 0, .bool false], .slice none 0 0], []⟩ 12 (by kernel_rfl) (by kernel_rfl) (by kernel_rfl) (by kernel_rfl)) ?_
  intro W base args ds gs before hval0 hW hcnd hsz0 _
  have hsz : (DataW.weightsEach Tryz.prog (Tryz.f16.params.toList ++ Rows.machineGrowsSpec.plain.varTypes Tryz.prog) (ds ++ gs)).all (· ≤ reachBytes) = true := hsz0
  have hval : ∀ (j : Nat) t v, Tryz.f16.params[j]? = some t → args[j]? = some v → Value.okWide Tryz.prog W .any base t v := hval0
  have hW' := hW
  obtain ⟨p, q, hA0, hV, rfl, hfz, hnd⟩ := hW
  have hA : DataW.TrodAll enc Tryz.prog W 0 (fun _ => true) true Tryz.f16.params.toList args.toList ds p := hA0
  rw [Tryz.params16] at hA hval hsz
  obtain ⟨v0, vs0, d0, ds0, p0, q0, hargs, rfl, rfl, h0, r0⟩ := trodAll_cons hA
  obtain ⟨v1, vs1, d1, ds1, p1, q1, rfl, rfl, rfl, h1, r1⟩ := trodAll_cons r0
  obtain ⟨rfl, rfl, rfl⟩ := trodAll_nil r1
  obtain rfl : args = #[v0, v1] := by cases args; simp_all
  obtain ⟨rfl, rfl⟩ := trodVars_none hV
  have k0 := h0
  have l0 : ∀ x ∈ p0, x.block < W.heap.size := fun x hx => by simpa using hW'.lt x (by simp [hx])
  have k1 := h1
  have l1 : ∀ x ∈ p1, x.block < W.heap.size := fun x hx => by simpa using hW'.lt x (by simp [hx])
  have c1 := slice_cell Tryz.underlying52 (hval 1 52 v1 rfl rfl)
  have hwt : (d0.weights Tryz.prog 67).all (· ≤ reachBytes) = true ∧ (d1.weights Tryz.prog 52).all (· ≤ reachBytes) = true ∧ True := by
    simp only [DataW.weightsEach, List.cons_append, List.nil_append, List.all_append, Bool.and_eq_true] at hsz
    exact ⟨hsz.1, hsz.2.1, trivial⟩
  obtain ⟨u0, pl0, hv0, hp0⟩ := open_plan (hval 0 67 v0 rfl rfl) h0 hwt.1
  subst hv0
  obtain ⟨fuel1, t1⟩ := h1
  rw [c1] at t1
  obtain ⟨u1, ts1, hu1, rows1, rng1, len1⟩ := open_i64s t1 hwt.2.1
  obtain rfl : v1 = u1 := by simpa using hu1
  clear hA0 hval0 hsz0 hsz
  refine (law_calls (T_MachineGrows (All.one (P := baseP (full W)) (HLe.refl _)) hp0 rows1 fun _ => rfl)).mono fun e W' ⟨he, bel⟩ => ?_
  subst he
  exact ⟨_, rfl, _, _, _, [], _, [], hW', trodAll_mk1 (shut_bool Tryz.underlying4 _), (trodAll_cons_mk (Below.trod laid (by kernel_rfl) (of_decide_eq_true (by kernel_rfl)) k0 bel l0) (trodAll_cons_mk (Below.trod laid (by kernel_rfl) (of_decide_eq_true (by kernel_rfl)) k1 bel l1) trodAll_mk0)), rfl, bel.frame _, fun h => by cases h⟩
theorem and2 {a b : Bool} (x : a = true) (y : b = true) : (a && b) = true := by rw [x, y]; rfl
theorem fct1 : (Rows.machineGrowsRow.wf (OpenSpec.ofChange Rows.machineGrowsSpec)) = true := by kernel_rfl
theorem fct4 : (Tryz.f16.params.all (Tryz.pinned.checked.prog.readableRec ·)) = true := by kernel_rfl
theorem fct5 : (namedTie Tryz.pinned.checked.prog Rows.machineGrowsRow.named Rows.machineGrowsSpec.vars) = true := by kernel_rfl
theorem fct6 : ((Rows.machineGrowsRow.stops == [])) = true := by kernel_rfl
theorem fct8 : ((Rows.machineGrowsRow.knobs == [])) = true := by kernel_rfl
theorem fct10 : ((Rows.machineGrowsRow.inPlace == Tryz.pinned.checked.prog.inPlace 16)) = true := by kernel_rfl
theorem fct11 : ((Rows.machineGrowsRow.unfollowed == Tryz.pinned.checked.prog.unfollowed 16)) = true := by kernel_rfl
theorem fct12 : ((Rows.machineGrowsRow.recurses == Tryz.pinned.checked.prog.recurses 16)) = true := by kernel_rfl
theorem fct13 : ((Rows.machineGrowsRow.named == Tryz.pinned.checked.prog.varsNamed 16)) = true := by kernel_rfl
theorem fct14 : ((Rows.machineGrowsRow.maps == (Tryz.f16.params.toList ++ Rows.machineGrowsSpec.plain.varTypes Tryz.pinned.checked.prog).any (Tryz.pinned.checked.prog.mapsRec ·))) = true := by kernel_rfl
theorem fct15 : ((Rows.machineGrowsRow.ifaces == (Tryz.f16.params.toList ++ Rows.machineGrowsSpec.plain.varTypes Tryz.pinned.checked.prog).any (Tryz.pinned.checked.prog.ifacesRec ·))) = true := by kernel_rfl
theorem fct16 : ((Rows.machineGrowsRow.mapsOut == Tryz.pinned.checked.prog.mapsAmong Tryz.f16.resultTypes.toList)) = true := by kernel_rfl
theorem fct17 : ((Rows.machineGrowsRow.loops == (Tryz.f16.params.toList ++ Rows.machineGrowsSpec.plain.varTypes Tryz.pinned.checked.prog).any (Tryz.pinned.checked.prog.loopsFrom ·))) = true := by kernel_rfl
theorem fct18 : ((Rows.machineGrowsRow.wideKeys == (Tryz.f16.params.toList ++ Rows.machineGrowsSpec.plain.varTypes Tryz.pinned.checked.prog ++ Tryz.f16.resultTypes.toList).any (Tryz.pinned.checked.prog.wideKeysFrom ·))) = true := by kernel_rfl
theorem fct19 : (Rows.machineGrowsSpec.vars.all (Tryz.pinned.checked.prog.varReadable ·)) = true := by kernel_rfl
theorem fct20 : (Tryz.f16.resultTypes.all (fun t => Tryz.pinned.checked.prog.readableRec t && decide (t < Tryz.pinned.checked.prog.types.size))) = true := by kernel_rfl
theorem fct21 : ((Rows.machineGrowsRow.ifacesOut == Tryz.f16.resultTypes.toList.any (Tryz.pinned.checked.prog.ifacesRec ·))) = true := by kernel_rfl
theorem fct22 : ((Rows.machineGrowsRow.loopsOut == Tryz.f16.resultTypes.toList.any (Tryz.pinned.checked.prog.loopsFrom ·))) = true := by kernel_rfl
theorem fct24 : (Rows.machineGrowsRow.shortTexts.isNone) = true := by kernel_rfl
theorem fct29 : ((Rows.machineGrowsRow.kinds == (if Rows.machineGrowsRow.domain.isEmpty then [] else Tryz.f16.params.toList.map fun t => match Tryz.pinned.checked.prog.underlying t with | some (.int k) => some k | _ => none))) = true := by kernel_rfl
theorem fct30 : ((Rows.machineGrowsRow.pinned == Rows.machineGrowsRow.pinnedBy)) = true := by kernel_rfl
theorem fct31 : ((Rows.machineGrowsRow.veiled == (Tryz.f16.params.toList ++ Rows.machineGrowsSpec.plain.varTypes Tryz.pinned.checked.prog ++ Tryz.f16.resultTypes.toList).any (Tryz.pinned.checked.prog.veiledRec ·))) = true := by kernel_rfl
theorem fct32 : (Rows.machineGrowsRow.veiledFits Tryz.pinned.checked.prog Tryz.f16.params.toList (Tryz.f16.params.toList ++ Rows.machineGrowsSpec.plain.varTypes Tryz.pinned.checked.prog ++ Tryz.f16.resultTypes.toList)) = true := by kernel_rfl
set_option maxRecDepth 100000 in
theorem fcts : joinedFacts Tryz.pinned.checked.prog 16 Tryz.f16 Rows.machineGrowsSpec Rows.machineGrowsRow = true := by
  unfold joinedFacts
  exact (and2 (and2 (and2 (and2 (and2 (and2 (and2 (and2 (and2 (and2 (and2 (and2 (and2 (and2 (and2 (and2 (and2 (and2 (and2 (and2 (and2 (and2 (and2 (and2 (and2 (and2 (and2 (and2 (and2 (and2 (and2 fct1 fct_laid) fct_maps) fct4) fct5) fct6) fct_stops) fct8) fct_knobs) fct10) fct11) fct12) fct13) fct14) fct15) fct16) fct17) fct18) fct19) fct20) fct21) fct22) fct_plain) fct24) fct_heard) fct_enter) fct_lifted) fct_make) fct29) fct30) fct31) fct32)
theorem fctN : Tryz.pinned.checked.prog.funcNamed Rows.machineGrowsRow.func = some 16 := by kernel_rfl
theorem fctI : Tryz.f16.isInstance Tryz.pinned.checked.prog Rows.machineGrowsRow.origin Rows.machineGrowsRow.targs := of_decide_eq_true (by kernel_rfl)
theorem fctW : Tryz.f16.isWrapper Tryz.pinned.checked.prog Rows.machineGrowsRow.wrapper Rows.machineGrowsRow.mainSum := by
  unfold Func.isWrapper
  first | (rw [if_pos (by decide +kernel)]; kernel_rfl) | (rw [if_neg (by decide +kernel)]; exact ⟨rfl, rfl⟩)
theorem over : Rows.machineGrowsRow.holds Tryz.pinned (OpenSpec.ofChange Rows.machineGrowsSpec) :=
  OpenClaim.holds_of_wide 16 Tryz.f16 rfl rfl rfl rfl rfl rfl rfl ⟨rfl, rfl, rfl, rfl, rfl⟩ rfl rfl rfl rfl rfl fctN Tryz.func16 fcts fctI fctW
    (fun os started H enc _ => lifted os started H enc)
theorem proved : Rows.MachineGrowsSaid := over
end Go.Proofs.YtfphpafkhljncaaGreat.machineGrows
namespace Go.Proofs.YtfphpafkhljncaaGreat
/-- The row, under a short name, for the claim. -/
theorem machineGrows_holds : Rows.MachineGrowsSaid := machineGrows.proved
#print axioms machineGrows_holds
end Go.Proofs.YtfphpafkhljncaaGreat
