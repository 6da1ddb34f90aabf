/- Proved: numbers and transactions that are none are told so, for any numbers; no condition. -/
import Derived.Test.YtfphpafkhljncaaGreatRows
import Derived.Test.YtfphpafkhljncaaGreatQA10
import Derived.Test.YtfphpafkhljncaaGreatFact
import Derived.Test.YtfphpafkhljncaaGreatFact2
import Derived.JoinedOf
import Derived.WalkKit
import Derived.ProofKit
import Derived.OpenShut
import Derived.ShutString
import Derived.ChangeOld
import Derived.Below
import Derived.SizedLaws
import Derived.Carry
namespace Go.Proofs.YtfphpafkhljncaaGreat.threadForms
open Go.ChangeShapes Go.WideShapes Go.ChangeAt Go.RowKit
open Go.ChangeMaps (open_string shut_string)
open Go.Proofs.YtfphpafkhljncaaGreat.GW
set_option linter.unusedVariables false
set_option linter.unusedSimpArgs false
theorem own : ownKnob Tryz.prog.godebug = none := by kernel_rfl
theorem laid : laidOutB Tryz.prog = true := fct_laid
set_option maxRecDepth 100000 in
theorem lifted (os : Os) (started : os.Started) (H : Type) (enc : TypeId × Value → H) :
    ReturnsInHanded {} Tryz.checked os 3 .any (Rows.threadFormsSpec.pre6 enc Tryz.prog Tryz.f3 Rows.threadFormsRow.domain false) (Rows.threadFormsSpec.post enc Tryz.prog Tryz.f3 false true false false) := by
  refine returnsInHanded_of_change_sized (C := Tryz.checked) own started (by kernel_rfl) Tryz.func3
    (ChangeSpec.witness6 (enc := enc) (C := Tryz.checked) false ⟨#[], #[.int .i64 0, .int .i64 0], []⟩ 12 (by kernel_rfl) (by kernel_rfl) (by kernel_rfl) (by kernel_rfl)) ?_
  intro W base args ds gs before hval0 hW hcnd hsz0 _
  have hsz : (DataW.weightsEach Tryz.prog (Tryz.f3.params.toList ++ Rows.threadFormsSpec.plain.varTypes Tryz.prog) (ds ++ gs)).all (· ≤ reachBytes) = true := hsz0
  have hval : ∀ (j : Nat) t v, Tryz.f3.params[j]? = some t → args[j]? = some v → Value.okWide Tryz.prog W .any base t v := hval0
  have hW' := hW
  obtain ⟨p, q, hA0, hV, rfl, hfz, hnd⟩ := hW
  have hA : DataW.TrodAll enc Tryz.prog W 0 (fun _ => true) true Tryz.f3.params.toList args.toList ds p := hA0
  rw [Tryz.params3] at hA hval hsz
  obtain ⟨v0, vs0, d0, ds0, p0, q0, hargs, rfl, rfl, h0, r0⟩ := trodAll_cons hA
  obtain ⟨v1, vs1, d1, ds1, p1, q1, rfl, rfl, rfl, h1, r1⟩ := trodAll_cons r0
  obtain ⟨rfl, rfl, rfl⟩ := trodAll_nil r1
  obtain rfl : args = #[v0, v1] := by cases args; simp_all
  obtain ⟨rfl, rfl⟩ := trodVars_none hV
  obtain ⟨a0, rfl, rfl, rfl, w0⟩ := open_int Tryz.underlying3 (hval 0 3 v0 rfl rfl) h0
  obtain ⟨a1, rfl, rfl, rfl, w1⟩ := open_int Tryz.underlying3 (hval 1 3 v1 rfl rfl) h1
  clear hA0 hval0 hsz0 hsz
  refine (law_calls (T_ThreadForms (which := a0) (x := a1) (All.one (P := baseP (full W)) (HLe.refl _)) fun _ => rfl)).mono fun e W' ⟨he, bel⟩ => ?_
  subst he
  exact ⟨_, rfl, _, _, _, [], _, [], hW', trodAll_mk1 (shut_bool Tryz.underlying4 _), (trodAll_cons_mk (shut_int Tryz.underlying3 w0) (trodAll_cons_mk (shut_int Tryz.underlying3 w1) trodAll_mk0)), rfl, bel.frame _, fun h => by cases h⟩
theorem and2 {a b : Bool} (x : a = true) (y : b = true) : (a && b) = true := by rw [x, y]; rfl
theorem fct1 : (Rows.threadFormsRow.wf (OpenSpec.ofChange Rows.threadFormsSpec)) = true := by kernel_rfl
theorem fct4 : (Tryz.f3.params.all (Tryz.pinned.checked.prog.readableRec ·)) = true := by kernel_rfl
theorem fct5 : (namedTie Tryz.pinned.checked.prog Rows.threadFormsRow.named Rows.threadFormsSpec.vars) = true := by kernel_rfl
theorem fct6 : ((Rows.threadFormsRow.stops == [])) = true := by kernel_rfl
theorem fct8 : ((Rows.threadFormsRow.knobs == [])) = true := by kernel_rfl
theorem fct10 : ((Rows.threadFormsRow.inPlace == Tryz.pinned.checked.prog.inPlace 3)) = true := by kernel_rfl
theorem fct11 : ((Rows.threadFormsRow.unfollowed == Tryz.pinned.checked.prog.unfollowed 3)) = true := by kernel_rfl
theorem fct12 : ((Rows.threadFormsRow.recurses == Tryz.pinned.checked.prog.recurses 3)) = true := by kernel_rfl
theorem fct13 : ((Rows.threadFormsRow.named == Tryz.pinned.checked.prog.varsNamed 3)) = true := by kernel_rfl
theorem fct14 : ((Rows.threadFormsRow.maps == (Tryz.f3.params.toList ++ Rows.threadFormsSpec.plain.varTypes Tryz.pinned.checked.prog).any (Tryz.pinned.checked.prog.mapsRec ·))) = true := by kernel_rfl
theorem fct15 : ((Rows.threadFormsRow.ifaces == (Tryz.f3.params.toList ++ Rows.threadFormsSpec.plain.varTypes Tryz.pinned.checked.prog).any (Tryz.pinned.checked.prog.ifacesRec ·))) = true := by kernel_rfl
theorem fct16 : ((Rows.threadFormsRow.mapsOut == Tryz.pinned.checked.prog.mapsAmong Tryz.f3.resultTypes.toList)) = true := by kernel_rfl
theorem fct17 : ((Rows.threadFormsRow.loops == (Tryz.f3.params.toList ++ Rows.threadFormsSpec.plain.varTypes Tryz.pinned.checked.prog).any (Tryz.pinned.checked.prog.loopsFrom ·))) = true := by kernel_rfl
theorem fct18 : ((Rows.threadFormsRow.wideKeys == (Tryz.f3.params.toList ++ Rows.threadFormsSpec.plain.varTypes Tryz.pinned.checked.prog ++ Tryz.f3.resultTypes.toList).any (Tryz.pinned.checked.prog.wideKeysFrom ·))) = true := by kernel_rfl
theorem fct19 : (Rows.threadFormsSpec.vars.all (Tryz.pinned.checked.prog.varReadable ·)) = true := by kernel_rfl
theorem fct20 : (Tryz.f3.resultTypes.all (fun t => Tryz.pinned.checked.prog.readableRec t && decide (t < Tryz.pinned.checked.prog.types.size))) = true := by kernel_rfl
theorem fct21 : ((Rows.threadFormsRow.ifacesOut == Tryz.f3.resultTypes.toList.any (Tryz.pinned.checked.prog.ifacesRec ·))) = true := by kernel_rfl
theorem fct22 : ((Rows.threadFormsRow.loopsOut == Tryz.f3.resultTypes.toList.any (Tryz.pinned.checked.prog.loopsFrom ·))) = true := by kernel_rfl
theorem fct24 : (Rows.threadFormsRow.shortTexts.isNone) = true := by kernel_rfl
theorem fct29 : ((Rows.threadFormsRow.kinds == (if Rows.threadFormsRow.domain.isEmpty then [] else Tryz.f3.params.toList.map fun t => match Tryz.pinned.checked.prog.underlying t with | some (.int k) => some k | _ => none))) = true := by kernel_rfl
theorem fct30 : ((Rows.threadFormsRow.pinned == Rows.threadFormsRow.pinnedBy)) = true := by kernel_rfl
theorem fct31 : ((Rows.threadFormsRow.veiled == (Tryz.f3.params.toList ++ Rows.threadFormsSpec.plain.varTypes Tryz.pinned.checked.prog ++ Tryz.f3.resultTypes.toList).any (Tryz.pinned.checked.prog.veiledRec ·))) = true := by kernel_rfl
theorem fct32 : (Rows.threadFormsRow.veiledFits Tryz.pinned.checked.prog Tryz.f3.params.toList (Tryz.f3.params.toList ++ Rows.threadFormsSpec.plain.varTypes Tryz.pinned.checked.prog ++ Tryz.f3.resultTypes.toList)) = true := by kernel_rfl
set_option maxRecDepth 100000 in
theorem fcts : joinedFacts Tryz.pinned.checked.prog 3 Tryz.f3 Rows.threadFormsSpec Rows.threadFormsRow = true := by
  unfold joinedFacts
  exact (and2 (and2 (and2 (and2 (and2 (and2 (and2 (and2 (and2 (and2 (and2 (and2 (and2 (and2 (and2 (and2 (and2 (and2 (and2 (and2 (and2 (and2 (and2 (and2 (and2 (and2 (and2 (and2 (and2 (and2 (and2 fct1 fct_laid) fct_maps) fct4) fct5) fct6) fct_stops) fct8) fct_knobs) fct10) fct11) fct12) fct13) fct14) fct15) fct16) fct17) fct18) fct19) fct20) fct21) fct22) fct_plain) fct24) fct_heard) fct_enter) fct_lifted) fct_make) fct29) fct30) fct31) fct32)
theorem fctN : Tryz.pinned.checked.prog.funcNamed Rows.threadFormsRow.func = some 3 := by kernel_rfl
theorem fctI : Tryz.f3.isInstance Tryz.pinned.checked.prog Rows.threadFormsRow.origin Rows.threadFormsRow.targs := of_decide_eq_true (by kernel_rfl)
theorem fctW : Tryz.f3.isWrapper Tryz.pinned.checked.prog Rows.threadFormsRow.wrapper Rows.threadFormsRow.mainSum := by
  unfold Func.isWrapper
  first | (rw [if_pos (by decide +kernel)]; kernel_rfl) | (rw [if_neg (by decide +kernel)]; exact ⟨rfl, rfl⟩)
theorem over : Rows.threadFormsRow.holds Tryz.pinned (OpenSpec.ofChange Rows.threadFormsSpec) :=
  OpenClaim.holds_of_wide 3 Tryz.f3 rfl rfl rfl rfl rfl rfl rfl ⟨rfl, rfl, rfl, rfl, rfl⟩ rfl rfl rfl rfl rfl fctN Tryz.func3 fcts fctI fctW
    (fun os started H enc _ => lifted os started H enc)
theorem proved : Rows.ThreadFormsSaid := over
end Go.Proofs.YtfphpafkhljncaaGreat.threadForms
namespace Go.Proofs.YtfphpafkhljncaaGreat
/-- The row, under a short name, for the claim. -/
theorem threadForms_holds : Rows.ThreadFormsSaid := threadForms.proved
#print axioms threadForms_holds
end Go.Proofs.YtfphpafkhljncaaGreat
