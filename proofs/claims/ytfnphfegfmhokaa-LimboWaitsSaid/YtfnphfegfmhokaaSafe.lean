/- Contracts of functions of the program, as the laws use them. -/
import Derived.Test.YtfnphfegfmhokaaFlatTouch
namespace Go.Proofs.Ytfnphfegfmhokaa
open Go GW Go.Proofs
set_option linter.unusedVariables false
set_option linter.unusedSimpArgs false
def Touch.bad (t : Touch) : Bool := !(decide (0 ≤ t.at_ ∧ t.at_ < 634)) || (!decide (t.slot = -1) && (!(decide (0 ≤ t.slot ∧ t.slot < 12)) || !decide (t.gen = t.live)))
def through (ts : List Touch) : Int := ((ts.filter fun t => !decide (t.slot = -1)).length : Int)
theorem through_snoc (ts : List Touch) (t : Touch) : through (ts ++ [t]) = through ts + if t.slot = -1 then 0 else 1 := by
  unfold through; rw [List.filter_append]; by_cases h : t.slot = -1 <;> simp [h]
theorem through_bound (ts : List Touch) : 0 ≤ through ts ∧ through ts ≤ ts.length := by
  unfold through; exact ⟨by omega, by have := List.length_filter_le (fun t : Touch => !decide (t.slot = -1)) ts; omega⟩
def checkN (ts : List Touch) : Int × Int := if ts.any Touch.bad then (0, 2100) else (through ts, 0)
def checkP (ts : List Touch) : Value := .tuple #[i64 (checkN ts).1, i64 (checkN ts).2]
theorem T_Check {v : Value} {ts : List Touch} {h : GH} {K : Value → GH → Prop} (r : rowsAt h 8 v (ts.map Touch.enc)) (hK : K (checkP ts) h) : T Try.prog 19 [v] h K := by
  apply T.drop
  apply S19_T
  unfold S19
  have ⟨a, n, cap, hv, hlen, hmc, hmax, _⟩ := r
  subst hv
  simp only [lnV_slice, bnd_some]
  refine Lfp_fam (ι := Nat) (fun i => [i64 (through (ts.take i)), .slice a n cap, i64 n, i64 i]) (fun i h' => i ≤ n ∧ HLe h h' ∧ (ts.take i).any Touch.bad = false) (fun i => n - i) ?_ 0 h ⟨by omega, .refl _, by simp⟩
  intro i h' X ⟨hi, hle, hok⟩ again
  simp only [tup_zero, tup_succ, binV_lss, bnd_some, ifV_dec]
  simp only [List.length_map] at hlen
  have hbound := through_bound (ts.take i)
  have hlt := List.length_take_le i ts
  split
  · rename_i hlt
    have hlt' : i < ts.length := by omega
    obtain ⟨t, ht⟩ : ∃ t, ts[i]? = some t := ⟨_, List.getElem?_eq_getElem hlt'⟩
    obtain ⟨p, hp, hl⟩ := (r.le hle).get (i := i) (c := t.enc) (by simp [ht]) .i64
    have htake : ts.take (i + 1) = ts.take i ++ [t] := by rw [List.take_add_one, ht]; rfl
    have hmem : t ∈ ts := List.mem_of_getElem? ht
    have hw : IntKind.i64.wrap ((i : Int) + 1) = ((i + 1 : Nat) : Int) := by rw [wrap_id (by omega) (by omega)]; rfl
    have hw2 : IntKind.i64.wrap (through (ts.take i) + 1) = through (ts.take i) + 1 := wrap_id (by omega) (by omega)
    simp only [hp, hl, bnd_some]
    intro b hb
    have hn := hle.none hb
    have bad : t.bad = true → ∃ h0, HLe h0 (upd h' b (.row 41 t.enc 8 true)) ∧ K (.tuple #[.int .i64 0, .int .i64 2100]) h0 := by
      intro hbad
      refine ⟨h, hle.new _ hn, ?_⟩
      have : checkP ts = .tuple #[.int .i64 0, .int .i64 2100] := by
        have : checkN ts = (0, 2100) := by unfold checkN; rw [if_pos]; rw [List.any_eq_true]; exact ⟨t, hmem, hbad⟩
        unfold checkP; rw [this]
      rw [← this]; exact hK
    have good : t.bad = false → X (tup [i64 (through (ts.take i) + if t.slot = -1 then 0 else 1), .slice a n cap, i64 n, i64 (i + 1 : Nat)]) (upd h' b (.row 41 t.enc 8 true)) := by
      intro hg
      have := again (i + 1) (upd h' b (.row 41 t.enc 8 true)) ⟨by omega, hle.new _ hn, by rw [htake, List.any_append, hok]; simp [hg]⟩ (by omega)
      rw [htake, through_snoc] at this
      exact this
    simp only [bnd_some, bnd_none, ifV_true, ifV_false, ifV_dec, ifV_iff, Bool.not_eq_true, Bool.not_eq_eq_eq_not, Bool.not_true, Bool.not_false, decide_eq_true_eq, decide_eq_false_iff_not, tup_zero, tup_succ, binV_add, binV_sub, binV_mul, binV_quo, binV_rem, binV_lss, binV_leq, binV_gtr, binV_geq, eqI_int, cvV_int, unV_not, lnV_slice, exV_tuple, ncV_pointer, faV_pointer, pickO_true, pickO_false, cells_agg, cells_int, cells_bool, cells_pointer, cells_slice, cells_iface, cells_nilIface, cells_func, cells_nilFunc, one_int, one_bool, one_pointer, one_slice, one_iface, one_nilIface, one_func, one_nilFunc, ldV_same, ldV_same_agg, stV_same, upd_same, upd_upd, setCells_nil, setCells_cons, List.set_cons_zero, List.set_cons_succ, List.length_cons, List.length_nil, List.size_toArray, List.all_cons, List.all_nil, Bool.and_true, Bool.and_self, Nat.zero_add, Nat.add_zero, Nat.reduceAdd, Nat.reduceLeDiff, Nat.le_refl, and_self, and_true, true_and, if_true, if_false, List.getElem?_cons_zero, List.getElem?_cons_succ, List.getElem?_toArray, List.drop_zero, List.drop_succ_cons, List.take_succ_cons, List.take_zero, List.take_nil, reduceIte, Int.reduceNeg, Int.reduceEq, Int.reduceLT, Int.reduceLE, Nat.reduceEqDiff, List.length_set, Touch.enc]
    simp only [Touch.enc] at bad good
    refine T_Below ?_
    simp only [bnd_some, bnd_none, ifV_true, ifV_false, ifV_dec, ifV_iff, Bool.not_eq_true, Bool.not_eq_eq_eq_not, Bool.not_true, Bool.not_false, decide_eq_true_eq, decide_eq_false_iff_not, tup_zero, tup_succ, binV_add, binV_sub, binV_mul, binV_quo, binV_rem, binV_lss, binV_leq, binV_gtr, binV_geq, eqI_int, cvV_int, unV_not, lnV_slice, exV_tuple, ncV_pointer, faV_pointer, pickO_true, pickO_false, cells_agg, cells_int, cells_bool, cells_pointer, cells_slice, cells_iface, cells_nilIface, cells_func, cells_nilFunc, one_int, one_bool, one_pointer, one_slice, one_iface, one_nilIface, one_func, one_nilFunc, ldV_same, ldV_same_agg, stV_same, upd_same, upd_upd, setCells_nil, setCells_cons, List.set_cons_zero, List.set_cons_succ, List.length_cons, List.length_nil, List.size_toArray, List.all_cons, List.all_nil, Bool.and_true, Bool.and_self, Nat.zero_add, Nat.add_zero, Nat.reduceAdd, Nat.reduceLeDiff, Nat.le_refl, and_self, and_true, true_and, if_true, if_false, List.getElem?_cons_zero, List.getElem?_cons_succ, List.getElem?_toArray, List.drop_zero, List.drop_succ_cons, List.take_succ_cons, List.take_zero, List.take_nil, reduceIte, Int.reduceNeg, Int.reduceEq, Int.reduceLT, Int.reduceLE, Nat.reduceEqDiff, List.length_set]
    by_cases c1 : 0 ≤ t.at_ ∧ t.at_ < 634
    · by_cases c2 : t.slot = -1
      · simp only [c1, c2, and_self, decide_true, decide_false, not_true_eq_false, if_true, if_false, reduceCtorEq, Bool.not_true, Bool.false_eq_true]
        simp only [bnd_some, bnd_none, ifV_true, ifV_false, ifV_dec, ifV_iff, Bool.not_eq_true, Bool.not_eq_eq_eq_not, Bool.not_true, Bool.not_false, decide_eq_true_eq, decide_eq_false_iff_not, tup_zero, tup_succ, binV_add, binV_sub, binV_mul, binV_quo, binV_rem, binV_lss, binV_leq, binV_gtr, binV_geq, eqI_int, cvV_int, unV_not, lnV_slice, exV_tuple, ncV_pointer, faV_pointer, pickO_true, pickO_false, cells_agg, cells_int, cells_bool, cells_pointer, cells_slice, cells_iface, cells_nilIface, cells_func, cells_nilFunc, one_int, one_bool, one_pointer, one_slice, one_iface, one_nilIface, one_func, one_nilFunc, ldV_same, ldV_same_agg, stV_same, upd_same, upd_upd, setCells_nil, setCells_cons, List.set_cons_zero, List.set_cons_succ, List.length_cons, List.length_nil, List.size_toArray, List.all_cons, List.all_nil, Bool.and_true, Bool.and_self, Nat.zero_add, Nat.add_zero, Nat.reduceAdd, Nat.reduceLeDiff, Nat.le_refl, and_self, and_true, true_and, if_true, if_false, List.getElem?_cons_zero, List.getElem?_cons_succ, List.getElem?_toArray, List.drop_zero, List.drop_succ_cons, List.take_succ_cons, List.take_zero, List.take_nil, reduceIte, Int.reduceNeg, Int.reduceEq, Int.reduceLT, Int.reduceLE, Nat.reduceEqDiff, List.length_set, hw]
        have := good (by simp [Touch.bad, c1, c2])
        simpa [c2] using this
      · simp only [c1, c2, and_self, decide_true, decide_false, not_true_eq_false, if_true, if_false, reduceCtorEq, Bool.not_true, Bool.false_eq_true, not_false_eq_true]
        refine T_Below ?_
        by_cases c3 : 0 ≤ t.slot ∧ t.slot < 12
        · simp only [c3, and_self, decide_true]
          simp only [bnd_some, bnd_none, ifV_true, ifV_false, ifV_dec, ifV_iff, Bool.not_eq_true, Bool.not_eq_eq_eq_not, Bool.not_true, Bool.not_false, decide_eq_true_eq, decide_eq_false_iff_not, tup_zero, tup_succ, binV_add, binV_sub, binV_mul, binV_quo, binV_rem, binV_lss, binV_leq, binV_gtr, binV_geq, eqI_int, cvV_int, unV_not, lnV_slice, exV_tuple, ncV_pointer, faV_pointer, pickO_true, pickO_false, cells_agg, cells_int, cells_bool, cells_pointer, cells_slice, cells_iface, cells_nilIface, cells_func, cells_nilFunc, one_int, one_bool, one_pointer, one_slice, one_iface, one_nilIface, one_func, one_nilFunc, ldV_same, ldV_same_agg, stV_same, upd_same, upd_upd, setCells_nil, setCells_cons, List.set_cons_zero, List.set_cons_succ, List.length_cons, List.length_nil, List.size_toArray, List.all_cons, List.all_nil, Bool.and_true, Bool.and_self, Nat.zero_add, Nat.add_zero, Nat.reduceAdd, Nat.reduceLeDiff, Nat.le_refl, and_self, and_true, true_and, if_true, if_false, List.getElem?_cons_zero, List.getElem?_cons_succ, List.getElem?_toArray, List.drop_zero, List.drop_succ_cons, List.take_succ_cons, List.take_zero, List.take_nil, reduceIte, Int.reduceNeg, Int.reduceEq, Int.reduceLT, Int.reduceLE, Nat.reduceEqDiff, List.length_set]
          by_cases c4 : t.gen = t.live
          · simp only [c4, decide_true, c2, decide_false, not_true_eq_false, not_false_eq_true, if_true, if_false, reduceCtorEq, Bool.false_eq_true]
            simp only [bnd_some, bnd_none, ifV_true, ifV_false, ifV_dec, ifV_iff, Bool.not_eq_true, Bool.not_eq_eq_eq_not, Bool.not_true, Bool.not_false, decide_eq_true_eq, decide_eq_false_iff_not, tup_zero, tup_succ, binV_add, binV_sub, binV_mul, binV_quo, binV_rem, binV_lss, binV_leq, binV_gtr, binV_geq, eqI_int, cvV_int, unV_not, lnV_slice, exV_tuple, ncV_pointer, faV_pointer, pickO_true, pickO_false, cells_agg, cells_int, cells_bool, cells_pointer, cells_slice, cells_iface, cells_nilIface, cells_func, cells_nilFunc, one_int, one_bool, one_pointer, one_slice, one_iface, one_nilIface, one_func, one_nilFunc, ldV_same, ldV_same_agg, stV_same, upd_same, upd_upd, setCells_nil, setCells_cons, List.set_cons_zero, List.set_cons_succ, List.length_cons, List.length_nil, List.size_toArray, List.all_cons, List.all_nil, Bool.and_true, Bool.and_self, Nat.zero_add, Nat.add_zero, Nat.reduceAdd, Nat.reduceLeDiff, Nat.le_refl, and_self, and_true, true_and, if_true, if_false, List.getElem?_cons_zero, List.getElem?_cons_succ, List.getElem?_toArray, List.drop_zero, List.drop_succ_cons, List.take_succ_cons, List.take_zero, List.take_nil, reduceIte, Int.reduceNeg, Int.reduceEq, Int.reduceLT, Int.reduceLE, Nat.reduceEqDiff, List.length_set, hw, hw2]
            have := good (by simp [Touch.bad, c1, c2, c3, c4])
            simpa [c2, c4] using this
          · simp only [c4, decide_false, not_false_eq_true, if_true]
            exact bad (by simp [Touch.bad, c1, c2, c3, c4])
        · simp only [c3, decide_false]
          simpa using bad (by simp [Touch.bad, c1, c2, c3])
    · simp only [c1, decide_false]
      simpa using bad (by simp [Touch.bad, c1])
  · have hn : i = n := by omega
    refine ⟨h, hle, ?_⟩
    have : checkP ts = .tuple #[i64 (through (ts.take i)), i64 0] := by
      have hall : ts.take i = ts := List.take_of_length_le (by omega)
      rw [hall] at hok ⊢
      have : checkN ts = (through ts, 0) := by unfold checkN; rw [hok]; rfl
      unfold checkP; rw [this]
    rw [← this]; exact hK
end Go.Proofs.Ytfnphfegfmhokaa
