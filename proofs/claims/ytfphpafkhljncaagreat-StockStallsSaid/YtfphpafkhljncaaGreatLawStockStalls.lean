/- Proved: while one thread stays in its region the epoch is at most one more and nothing is ripe, for any numbers; no condition. -/
import Derived.Test.YtfphpafkhljncaaGreatRows
import Derived.Test.YtfphpafkhljncaaGreatQK8
import Derived.Test.YtfphpafkhljncaaGreatFact
import Derived.Test.YtfphpafkhljncaaGreatFact2
import Derived.JoinedOf
import Derived.WalkKit
import Derived.ProofKit
import Derived.OpenShut
import Derived.ShutString
import Derived.ChangeOld
import Derived.Below
import Derived.SizedLaws
import Derived.Carry
namespace Go.Proofs.YtfphpafkhljncaaGreat.stockStalls
open Go.ChangeShapes Go.WideShapes Go.ChangeAt Go.RowKit
open Go.ChangeMaps (open_string shut_string)
open Go.Proofs.YtfphpafkhljncaaGreat.GW
set_option linter.unusedVariables false
set_option linter.unusedSimpArgs false
theorem own : ownKnob Tryz.prog.godebug = none := by kernel_rfl
theorem laid : laidOutB Tryz.prog = true := fct_laid
set_option maxRecDepth 100000 in
theorem lifted (os : Os) (started : os.Started) (H : Type) (enc : TypeId × Value → H) :
    ReturnsInHanded {} Tryz.checked os 24 .any (Rows.stockStallsSpec.pre6 enc Tryz.prog Tryz.f24 Rows.stockStallsRow.domain false) (Rows.stockStallsSpec.post enc Tryz.prog Tryz.f24 false true false false) := by
  refine returnsInHanded_of_change_sized (C := Tryz.checked) own started (by kernel_rfl) Tryz.func24
    (ChangeSpec.witness6 (enc := enc) (C := Tryz.checked) false ⟨#[], #[.int .i64 0, .int .i64 0], []⟩ 12 (by kernel_rfl) (by kernel_rfl) (by kernel_rfl) (by kernel_rfl)) ?_
  intro W base args ds gs before hval0 hW hcnd hsz0 _
  have hsz : (DataW.weightsEach Tryz.prog (Tryz.f24.params.toList ++ Rows.stockStallsSpec.plain.varTypes Tryz.prog) (ds ++ gs)).all (· ≤ reachBytes) = true := hsz0
  have hval : ∀ (j : Nat) t v, Tryz.f24.params[j]? = some t → args[j]? = some v → Value.okWide Tryz.prog W .any base t v := hval0
  have hW' := hW
  obtain ⟨p, q, hA0, hV, rfl, hfz, hnd⟩ := hW
  have hA : DataW.TrodAll enc Tryz.prog W 0 (fun _ => true) true Tryz.f24.params.toList args.toList ds p := hA0
  rw [Tryz.params24] at hA hval hsz
  obtain ⟨v0, vs0, d0, ds0, p0, q0, hargs, rfl, rfl, h0, r0⟩ := trodAll_cons hA
  obtain ⟨v1, vs1, d1, ds1, p1, q1, rfl, rfl, rfl, h1, r1⟩ := trodAll_cons r0
  obtain ⟨rfl, rfl, rfl⟩ := trodAll_nil r1
  obtain rfl : args = #[v0, v1] := by cases args; simp_all
  obtain ⟨rfl, rfl⟩ := trodVars_none hV
  obtain ⟨a0, rfl, rfl, rfl, w0⟩ := open_int Tryz.underlying3 (hval 0 3 v0 rfl rfl) h0
  obtain ⟨a1, rfl, rfl, rfl, w1⟩ := open_int Tryz.underlying3 (hval 1 3 v1 rfl rfl) h1
  clear hA0 hval0 hsz0 hsz
  refine (law_calls (T_StockStalls (steps := a0) (many := a1) (All.one (P := baseP (full W)) (HLe.refl _)) fun _ => rfl)).mono fun e W' ⟨he, bel⟩ => ?_
  subst he
  exact ⟨_, rfl, _, _, _, [], _, [], hW', trodAll_mk1 (shut_bool Tryz.underlying4 _), (trodAll_cons_mk (shut_int Tryz.underlying3 w0) (trodAll_cons_mk (shut_int Tryz.underlying3 w1) trodAll_mk0)), rfl, bel.frame _, fun h => by cases h⟩
theorem and2 {a b : Bool} (x : a = true) (y : b = true) : (a && b) = true := by rw [x, y]; rfl
theorem fct1 : (Rows.stockStallsRow.wf (OpenSpec.ofChange Rows.stockStallsSpec)) = true := by kernel_rfl
theorem fct4 : (Tryz.f24.params.all (Tryz.pinned.checked.prog.readableRec ·)) = true := by kernel_rfl
theorem fct5 : (namedTie Tryz.pinned.checked.prog Rows.stockStallsRow.named Rows.stockStallsSpec.vars) = true := by kernel_rfl
theorem fct6 : ((Rows.stockStallsRow.stops == [])) = true := by kernel_rfl
theorem fct8 : ((Rows.stockStallsRow.knobs == [])) = true := by kernel_rfl
theorem fct10 : ((Rows.stockStallsRow.inPlace == Tryz.pinned.checked.prog.inPlace 24)) = true := by kernel_rfl
theorem fct11 : ((Rows.stockStallsRow.unfollowed == Tryz.pinned.checked.prog.unfollowed 24)) = true := by kernel_rfl
theorem fct12 : ((Rows.stockStallsRow.recurses == Tryz.pinned.checked.prog.recurses 24)) = true := by kernel_rfl
theorem fct13 : ((Rows.stockStallsRow.named == Tryz.pinned.checked.prog.varsNamed 24)) = true := by kernel_rfl
theorem fct14 : ((Rows.stockStallsRow.maps == (Tryz.f24.params.toList ++ Rows.stockStallsSpec.plain.varTypes Tryz.pinned.checked.prog).any (Tryz.pinned.checked.prog.mapsRec ·))) = true := by kernel_rfl
theorem fct15 : ((Rows.stockStallsRow.ifaces == (Tryz.f24.params.toList ++ Rows.stockStallsSpec.plain.varTypes Tryz.pinned.checked.prog).any (Tryz.pinned.checked.prog.ifacesRec ·))) = true := by kernel_rfl
theorem fct16 : ((Rows.stockStallsRow.mapsOut == Tryz.pinned.checked.prog.mapsAmong Tryz.f24.resultTypes.toList)) = true := by kernel_rfl
theorem fct17 : ((Rows.stockStallsRow.loops == (Tryz.f24.params.toList ++ Rows.stockStallsSpec.plain.varTypes Tryz.pinned.checked.prog).any (Tryz.pinned.checked.prog.loopsFrom ·))) = true := by kernel_rfl
theorem fct18 : ((Rows.stockStallsRow.wideKeys == (Tryz.f24.params.toList ++ Rows.stockStallsSpec.plain.varTypes Tryz.pinned.checked.prog ++ Tryz.f24.resultTypes.toList).any (Tryz.pinned.checked.prog.wideKeysFrom ·))) = true := by kernel_rfl
theorem fct19 : (Rows.stockStallsSpec.vars.all (Tryz.pinned.checked.prog.varReadable ·)) = true := by kernel_rfl
theorem fct20 : (Tryz.f24.resultTypes.all (fun t => Tryz.pinned.checked.prog.readableRec t && decide (t < Tryz.pinned.checked.prog.types.size))) = true := by kernel_rfl
theorem fct21 : ((Rows.stockStallsRow.ifacesOut == Tryz.f24.resultTypes.toList.any (Tryz.pinned.checked.prog.ifacesRec ·))) = true := by kernel_rfl
theorem fct22 : ((Rows.stockStallsRow.loopsOut == Tryz.f24.resultTypes.toList.any (Tryz.pinned.checked.prog.loopsFrom ·))) = true := by kernel_rfl
theorem fct24 : (Rows.stockStallsRow.shortTexts.isNone) = true := by kernel_rfl
theorem fct29 : ((Rows.stockStallsRow.kinds == (if Rows.stockStallsRow.domain.isEmpty then [] else Tryz.f24.params.toList.map fun t => match Tryz.pinned.checked.prog.underlying t with | some (.int k) => some k | _ => none))) = true := by kernel_rfl
theorem fct30 : ((Rows.stockStallsRow.pinned == Rows.stockStallsRow.pinnedBy)) = true := by kernel_rfl
theorem fct31 : ((Rows.stockStallsRow.veiled == (Tryz.f24.params.toList ++ Rows.stockStallsSpec.plain.varTypes Tryz.pinned.checked.prog ++ Tryz.f24.resultTypes.toList).any (Tryz.pinned.checked.prog.veiledRec ·))) = true := by kernel_rfl
theorem fct32 : (Rows.stockStallsRow.veiledFits Tryz.pinned.checked.prog Tryz.f24.params.toList (Tryz.f24.params.toList ++ Rows.stockStallsSpec.plain.varTypes Tryz.pinned.checked.prog ++ Tryz.f24.resultTypes.toList)) = true := by kernel_rfl
set_option maxRecDepth 100000 in
theorem fcts : joinedFacts Tryz.pinned.checked.prog 24 Tryz.f24 Rows.stockStallsSpec Rows.stockStallsRow = true := by
  unfold joinedFacts
  exact (and2 (and2 (and2 (and2 (and2 (and2 (and2 (and2 (and2 (and2 (and2 (and2 (and2 (and2 (and2 (and2 (and2 (and2 (and2 (and2 (and2 (and2 (and2 (and2 (and2 (and2 (and2 (and2 (and2 (and2 (and2 fct1 fct_laid) fct_maps) fct4) fct5) fct6) fct_stops) fct8) fct_knobs) fct10) fct11) fct12) fct13) fct14) fct15) fct16) fct17) fct18) fct19) fct20) fct21) fct22) fct_plain) fct24) fct_heard) fct_enter) fct_lifted) fct_make) fct29) fct30) fct31) fct32)
theorem fctN : Tryz.pinned.checked.prog.funcNamed Rows.stockStallsRow.func = some 24 := by kernel_rfl
theorem fctI : Tryz.f24.isInstance Tryz.pinned.checked.prog Rows.stockStallsRow.origin Rows.stockStallsRow.targs := of_decide_eq_true (by kernel_rfl)
theorem fctW : Tryz.f24.isWrapper Tryz.pinned.checked.prog Rows.stockStallsRow.wrapper Rows.stockStallsRow.mainSum := by
  unfold Func.isWrapper
  first | (rw [if_pos (by decide +kernel)]; kernel_rfl) | (rw [if_neg (by decide +kernel)]; exact ⟨rfl, rfl⟩)
theorem over : Rows.stockStallsRow.holds Tryz.pinned (OpenSpec.ofChange Rows.stockStallsSpec) :=
  OpenClaim.holds_of_wide 24 Tryz.f24 rfl rfl rfl rfl rfl rfl rfl ⟨rfl, rfl, rfl, rfl, rfl⟩ rfl rfl rfl rfl rfl fctN Tryz.func24 fcts fctI fctW
    (fun os started H enc _ => lifted os started H enc)
theorem proved : Rows.StockStallsSaid := over
end Go.Proofs.YtfphpafkhljncaaGreat.stockStalls
namespace Go.Proofs.YtfphpafkhljncaaGreat
/-- The row, under a short name, for the claim. -/
theorem stockStalls_holds : Rows.StockStallsSaid := stockStalls.proved
#print axioms stockStalls_holds
end Go.Proofs.YtfphpafkhljncaaGreat
