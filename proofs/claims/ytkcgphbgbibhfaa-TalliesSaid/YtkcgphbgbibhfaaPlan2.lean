/- Plans: what a function that is handed one reads. Nothing here is a statement on the program. -/
import Derived.Test.YtkcgphbgbibhfaaPlan
namespace Go.Proofs.Ytkcgphbgbibhfaa
open Go GW Go.Proofs
set_option linter.unusedVariables false
set_option linter.unusedSimpArgs false
theorem op_eq4 (k a b x k' a' b' x' : Int) : eqP Try.prog 10000 52 (.agg [.int .i64 k, .int .i64 a, .int .i64 b, .int .i64 x].toArray) (.agg [.int .i64 k', .int .i64 a', .int .i64 b', .int .i64 x'].toArray) = some (decide (k = k' ∧ a = a' ∧ b = b' ∧ x = x')) := by
  have := Op.eqLaw ⟨k, a, b, x⟩ ⟨k', a', b', x'⟩
  simp only [Op.enc, Op.mk.injEq] at this
  exact this
theorem T_OpMayRef {x : Op} {h : GH} {K : Value → GH → Prop} (hK : K (.bool x.may) h) : T Try.prog 17 [.agg x.enc.toArray] h K := by
  apply T.drop
  apply S17_T
  unfold S17
  obtain ⟨k, a, b, x⟩ := x
  intro b1 hb1
  refine bnd_of rfl (bnd_of (v := i64 k) (by rw [ldV_same]; rfl) (bnd_of rfl (bnd_of (v := i64 a) (by rw [ldV_same]; rfl) (bnd_of rfl ?_))))
  intro b2 hb2
  have hne : b1 ≠ b2 := by rintro rfl; simp at hb2
  refine bnd_of (v := upd (upd h b1 (.row 52 [i64 k, i64 a, i64 b, i64 x] 4 true)) b2 (.row 52 [i64 k, i64 a, i64 0, i64 0] 4 true)) (by rw [stV_same]; rfl) ?_
  have l : ∀ g, HLe h (upd (upd h b1 (.row 52 [i64 k, i64 a, i64 b, i64 x] 4 true)) b2 g) := fun g => ((HLe.refl h).new _ hb1).new _ (((HLe.refl h).new _ hb1).none hb2)
  have fin : ∀ g z, z = (Op.mk k a b x).may → ∃ h0, HLe h0 (upd (upd h b1 (.row 52 [i64 k, i64 a, i64 b, i64 x] 4 true)) b2 g) ∧ K (.bool z) h0 := fun g z e => ⟨h, l g, by rw [e]; exact hK⟩
  unfold S17_j1 S17_j2 S17_j3 S17_j4 S17_j5
  simp only [bnd_some, bnd_none, ifV_true, ifV_false, ifV_dec, ifV_iff, Bool.not_eq_true, Bool.not_eq_eq_eq_not, Bool.not_true, Bool.not_false, decide_eq_true_eq, decide_eq_false_iff_not, tup_zero, tup_succ, binV_add, binV_sub, binV_mul, binV_quo, binV_rem, binV_lss, binV_leq, binV_gtr, binV_geq, eqI_int, cvV_int, unV_not, lnV_slice, exV_tuple, ncV_pointer, faV_pointer, pickO_true, pickO_false, cells_agg, cells_int, cells_bool, cells_pointer, cells_slice, cells_iface, cells_nilIface, cells_func, cells_nilFunc, one_int, one_bool, one_pointer, one_slice, one_iface, one_nilIface, one_func, one_nilFunc, ldV_same, ldV_same_agg, stV_same, upd_same, upd_upd, setCells_nil, setCells_cons, List.set_cons_zero, List.set_cons_succ, List.length_cons, List.length_nil, List.size_toArray, List.all_cons, List.all_nil, Bool.and_true, Bool.and_self, Nat.zero_add, Nat.add_zero, Nat.reduceAdd, Nat.reduceLeDiff, Nat.le_refl, and_self, and_true, true_and, if_true, if_false, List.getElem?_cons_zero, List.getElem?_cons_succ, List.getElem?_toArray, List.drop_zero, List.drop_succ_cons, List.take_succ_cons, List.take_zero, List.take_nil, reduceIte, Int.reduceNeg, Int.reduceEq, Int.reduceLT, Int.reduceLE, Nat.reduceEqDiff, List.length_set, ldV_other hne, op_eq4]
  have cases : k = 0 ∨ k = 1 ∨ k = 2 ∨ k = 3 ∨ k = 4 ∨ k = 5 ∨ k = 6 ∨ k = 7 ∨ k = 8 ∨ k = 9 ∨ k = 10 ∨ ruleOf k = none := by
    unfold ruleOf
    by_cases h0 : 0 ≤ k ∧ k < 11
    · omega
    · repeat rw [if_neg (by omega)]
      simp
  rcases cases with rfl | rfl | rfl | rfl | rfl | rfl | rfl | rfl | rfl | rfl | rfl | hk
  all_goals clear hK
  iterate 11 rotate_left
  · have n (j : Int) (hj : 0 ≤ j ∧ j < 11) : k ≠ j := by
      rintro rfl
      unfold ruleOf at hk
      by_cases q0 : k = 0; · simp [q0] at hk
      by_cases q1 : k = 1; · simp [q1] at hk
      by_cases q2 : k = 2; · simp [q2] at hk
      by_cases q3 : k = 3; · simp [q3] at hk
      by_cases q4 : k = 4; · simp [q4] at hk
      by_cases q5 : k = 5; · simp [q5] at hk
      by_cases q6 : k = 6; · simp [q6] at hk
      by_cases q7 : k = 7; · simp [q7] at hk
      by_cases q8 : k = 8; · simp [q8] at hk
      by_cases q9 : k = 9; · simp [q9] at hk
      by_cases q10 : k = 10; · simp [q10] at hk
      omega
    have hm : (Op.mk k a b x).may = false := by unfold Op.may; rw [hk]
    (try simp only [bnd_some, bnd_none, ifV_true, ifV_false, ifV_dec, ifV_iff, Bool.not_eq_true, Bool.not_eq_eq_eq_not, Bool.not_true, Bool.not_false, decide_eq_true_eq, decide_eq_false_iff_not, tup_zero, tup_succ, binV_add, binV_sub, binV_mul, binV_quo, binV_rem, binV_lss, binV_leq, binV_gtr, binV_geq, eqI_int, cvV_int, unV_not, lnV_slice, exV_tuple, ncV_pointer, faV_pointer, pickO_true, pickO_false, cells_agg, cells_int, cells_bool, cells_pointer, cells_slice, cells_iface, cells_nilIface, cells_func, cells_nilFunc, one_int, one_bool, one_pointer, one_slice, one_iface, one_nilIface, one_func, one_nilFunc, ldV_same, ldV_same_agg, stV_same, upd_same, upd_upd, setCells_nil, setCells_cons, List.set_cons_zero, List.set_cons_succ, List.length_cons, List.length_nil, List.size_toArray, List.all_cons, List.all_nil, Bool.and_true, Bool.and_self, Nat.zero_add, Nat.add_zero, Nat.reduceAdd, Nat.reduceLeDiff, Nat.le_refl, and_self, and_true, true_and, if_true, if_false, List.getElem?_cons_zero, List.getElem?_cons_succ, List.getElem?_toArray, List.drop_zero, List.drop_succ_cons, List.take_succ_cons, List.take_zero, List.take_nil, reduceIte, Int.reduceNeg, Int.reduceEq, Int.reduceLT, Int.reduceLE, Nat.reduceEqDiff, List.length_set, n 0 (by decide), n 1 (by decide), n 2 (by decide), n 3 (by decide), n 4 (by decide), n 5 (by decide), n 6 (by decide), n 7 (by decide), n 8 (by decide), n 9 (by decide), n 10 (by decide)])
    repeat' split
    all_goals first | (exact fin _ _ hm.symm) | (exfalso; simp_all; done)
  all_goals (try simp only [bnd_some, bnd_none, ifV_true, ifV_false, ifV_dec, ifV_iff, Bool.not_eq_true, Bool.not_eq_eq_eq_not, Bool.not_true, Bool.not_false, decide_eq_true_eq, decide_eq_false_iff_not, tup_zero, tup_succ, binV_add, binV_sub, binV_mul, binV_quo, binV_rem, binV_lss, binV_leq, binV_gtr, binV_geq, eqI_int, cvV_int, unV_not, lnV_slice, exV_tuple, ncV_pointer, faV_pointer, pickO_true, pickO_false, cells_agg, cells_int, cells_bool, cells_pointer, cells_slice, cells_iface, cells_nilIface, cells_func, cells_nilFunc, one_int, one_bool, one_pointer, one_slice, one_iface, one_nilIface, one_func, one_nilFunc, ldV_same, ldV_same_agg, stV_same, upd_same, upd_upd, setCells_nil, setCells_cons, List.set_cons_zero, List.set_cons_succ, List.length_cons, List.length_nil, List.size_toArray, List.all_cons, List.all_nil, Bool.and_true, Bool.and_self, Nat.zero_add, Nat.add_zero, Nat.reduceAdd, Nat.reduceLeDiff, Nat.le_refl, and_self, and_true, true_and, if_true, if_false, List.getElem?_cons_zero, List.getElem?_cons_succ, List.getElem?_toArray, List.drop_zero, List.drop_succ_cons, List.take_succ_cons, List.take_zero, List.take_nil, reduceIte, Int.reduceNeg, Int.reduceEq, Int.reduceLT, Int.reduceLE, Nat.reduceEqDiff, List.length_set])
  all_goals repeat' split
  all_goals first | (exfalso; simp_all; done) | (refine fin _ _ ?_; rw [Bool.eq_iff_iff]; simp [Op.may, ruleOf] <;> omega)
end Go.Proofs.Ytkcgphbgbibhfaa
