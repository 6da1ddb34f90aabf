/- Contracts of functions of the program, as the laws use them. -/
import Derived.Test.YtkcgphbgbibhfaaTally2
import Derived.Test.YtkcgphbgbibhfaaMask
namespace Go.Proofs.Ytkcgphbgbibhfaa
open Go GW Go.Proofs
set_option linter.unusedVariables false
set_option linter.unusedSimpArgs false
theorem bad_thread {e : Event} (h : ¬ (0 ≤ e.thread ∧ e.thread < 2)) : e.bad 2 = true := by
  unfold Event.bad
  have : decide (0 ≤ e.thread ∧ e.thread < ((2 : Nat) : Int)) = false := decide_eq_false h
  rw [this]; rfl
theorem bad_end {e : Event} (h : ¬ (0 ≤ e.end_ ∧ e.end_ < 3)) : e.bad 2 = true := by
  unfold Event.bad; rw [decide_eq_false h]; simp
theorem forms_end {h : GH} {vp : Value} {b1 b2 : Nat} {gv : Value} {p : Plan} {e : Event} {w : Value} (hw : w = .slice none 0 0) (he : e.answers = []) (e1 : h b1 = some (.row 24 (planC vp p) 3 true)) (e2 : h b2 = some (.row 40 (e.cells w) 8 true)) (hp : threadsAt h vp p.threads)
    (o : own h 3 gv ([[0, 0, 0], [2, 0, 0]].map encL)) (hbad : countOk p [e] = false) :
    S5_j1 (.pointer (some ⟨b1, 0, none⟩)) (.pointer (some ⟨b2, 0, none⟩)) gv (i64 0) h (fun v _ => v = .bool true) := by
  unfold S5_j1
  refine bnd_of (v := .agg (planC vp p).toArray) (by rw [ldV_agg e1 _ _ (Nat.le_refl 3)]; rfl) ?_
  refine bnd_of (v := .agg (e.cells w).toArray) (by rw [ldV_agg e2 _ _ (Nat.le_refl 8)]; rfl) ?_
  subst hw
  refine bsV_rows (size := 8) [e.cells (.slice none 0 0)] rfl rfl (by simp) (by simp [good, Event.cells, one_int, one_slice]) fun v3 h3 o3 l3 f3 => ?_
  refine T_Count_bad (p := p) (es := [e]) (hp.le l3) ⟨_, o3.rows, .cons (evC_nil rfl he) .nil⟩ hbad ?_
  have r := o.rows.le l3
  obtain ⟨q2, hq2, hlq2⟩ := r.get (i := 1) (c := encL [2, 0, 0]) rfl .i64
  refine bnd_of rfl (bnd_of rfl ?_)
  refine T_Num (bnd_of rfl (ifV_t rfl ?_))
  refine bnd_of r.len (bnd_of rfl (ifV_t rfl ?_))
  refine bnd_of hq2 (bnd_of hlq2 (bnd_of rfl (bnd_of (three_eq [2, 0, 0] [2, 0, 0] rfl rfl) (ifV_t rfl ?_))))
  refine bnd_of rfl (bnd_of rfl (ifV_t rfl ?_))
  refine T_Num (bnd_of rfl ?_)
  rfl
theorem T_TallyForms {which x : Int} {h : GH} : T Try.prog 5 [i64 which, i64 x] h fun v _ => v = .bool true := by
  apply S5_T
  unfold S5
  refine T_awake25 (bnd_of rfl (ifV_f rfl ?_))
  refine bnd_of (binV_and_mask x 10 (by decide) (by decide)) ?_
  have d1 : 0 ≤ x % ((2 ^ 10 : Nat) : Int) := Int.emod_nonneg _ (by decide)
  have d2 : x % ((2 ^ 10 : Nat) : Int) < ((2 ^ 10 : Nat) : Int) := Int.emod_lt_of_pos _ (by decide)
  generalize x % ((2 ^ 10 : Nat) : Int) = y at *
  refine bnd_of (binV_add _ _ _) ?_
  rw [wrap_id (by omega) (by omega)]
  generalize hd : 1 + y = d
  have hd1 : 1 ≤ d ∧ d ≤ 1024 := by omega
  clear hd
  refine bsV_rows (size := 1) [[.slice none 0 0], [.slice none 0 0]] rfl rfl (by decide) (by simp [good, one_slice]) fun v1 h1 o1 l1 f1 => ?_
  have ⟨sa, sc, hv1, _⟩ := o1
  subst hv1
  generalize hgv : Value.slice sa (List.length [[Value.slice none 0 0], [Value.slice none 0 0]]) sc = v1 at *
  refine bnd_of (v := planC v1 ⟨[[], []], 1, false⟩) (by subst hgv; rfl) ?_
  refine new_st (planC v1 ⟨[[], []], 1, false⟩) rfl rfl rfl (by subst hgv; rfl) fun b2 h2 f2 e2 l2 => ?_
  refine bnd_of rfl ?_
  refine new_st ((ev 1 0 3).cells (.slice none 0 0)) rfl rfl rfl rfl fun b3 h3 f3 e3 l3 => ?_
  refine bnd_of (v := .agg (planC v1 ⟨[[], []], 1, false⟩).toArray) (by rw [ldV_agg (l3 _ _ e2) _ _ (Nat.le_refl 3)]; rfl) ?_
  refine bnd_of (v := .agg ((ev 1 0 3).cells (.slice none 0 0)).toArray) (by rw [ldV_agg e3 _ _ (Nat.le_refl 8)]; rfl) ?_
  refine bnd_of (v := .agg ((ev 1 0 3).cells (.slice none 0 0)).toArray) (by rw [ldV_agg e3 _ _ (Nat.le_refl 8)]; rfl) ?_
  refine bsV_rows (size := 8) [(ev 1 0 3).cells (.slice none 0 0), (ev 1 0 3).cells (.slice none 0 0)] rfl rfl (by decide) (by simp [good, Event.cells, one_int, one_slice]) fun v4 h4 o4 l4 f4 => ?_
  have p1 : threadsAt h1 v1 (Plan.mk [[], []] 1 false).threads := two_threads o1.rows
  refine T_Count_good (p := ⟨[[], []], 1, false⟩) (es := [ev 1 0 3, ev 1 0 3]) (p1.le (l2.trans (l3.trans l4))) ⟨_, o4.rows, .cons (evC_nil rfl rfl) (.cons (evC_nil rfl rfl) .nil)⟩ (by decide) fun v5 h5 o5 l5 f5 => ?_
  have ec : counts (Plan.mk [[], []] 1 false).threads.length [ev 1 0 3, ev 1 0 3] = [[0, 0, 0], [2, 0, 0]] := by decide
  rw [ec] at o5
  have x2 := (l3.trans (l4.trans l5)) _ _ e2
  have x3 := (l4.trans l5) _ _ e3
  have p5 := p1.le (l2.trans (l3.trans (l4.trans l5)))
  have hne : b2 ≠ b3 := by
    rintro rfl
    rw [e2] at f3; cases f3
  have n2 : ¬ blk v5 b2 := fun q => by have := f5 _ q; rw [(l3.trans l4) _ _ e2] at this; cases this
  have n3 : ¬ blk v5 b3 := fun q => by have := f5 _ q; rw [l4 _ _ e3] at this; cases this
  refine bnd_of rfl (bnd_of rfl ?_)
  have hu := u64_nonneg which
  refine bnd_of (cvV_int _ _ _) ?_
  generalize IntKind.u64.wrap which = u at *
  refine bnd_of (v := .int .u64 (u.tmod 6)) (by rw [binV_rem]; rfl) ?_
  generalize u.tmod 6 = k
  -- an event that is turned
  have evs : ∀ (j : Nat) (z : Int) (e : Event), e.answers = [] → setCells ((ev 1 0 3).cells (.slice none 0 0)) j [i64 z] = e.cells (.slice none 0 0) → j < 8 → countOk ⟨[[], []], 1, false⟩ [e] = false →
      bnd (stV 1 (.pointer (some ⟨b3, 0 + j, none⟩)) (i64 z) h5) fun h6 => S5_j1 (.pointer (some ⟨b2, 0, none⟩)) (.pointer (some ⟨b3, 0, none⟩)) v5 (i64 0) h6 (fun v _ => v = .bool true) := by
    intro j z e ha hs hj hb
    refine bnd_of (stV_row x3 1 (0 + j) (i64 z) rfl (by have : ((ev 1 0 3).cells (.slice none 0 0)).length = 8 := rfl; omega) rfl) ?_
    have hc : setCells ((ev 1 0 3).cells (.slice none 0 0)) (0 + j) (i64 z).cells.toList = e.cells (.slice none 0 0) := by rw [Nat.zero_add]; exact hs
    rw [hc]
    refine forms_end (vp := v1) (p := ⟨[[], []], 1, false⟩) rfl ha ?_ (upd_same _ _ _) ?_ (o5.upd _ n3) hb
    · rw [upd_ne hne]; exact x2
    · exact p1.le ((l2.trans (l3.trans (l4.trans l5))).new _ (l2.none f3))
  have bads : ∀ e : Event, (e.bad 2 = true) → countOk ⟨[[], []], 1, false⟩ [e] = false := fun e he => by
    unfold countOk
    have : [e].any (Event.bad (Plan.mk [[], []] 1 false).threads.length) = true := by simp [he]
    rw [this]; simp
  refine bnd_of (eqI_int _ _ _) ?_
  rw [ifV_dec]
  split
  · refine bnd_of (binV_add _ _ _) ?_
    rw [wrap_id (by omega) (by omega)]
    refine bnd_of rfl ?_
    exact evs 0 (1 + d) (ev (1 + d) 0 3) rfl rfl (by decide) (bads _ (bad_thread (by simp only [ev]; omega)))
  refine bnd_of (eqI_int _ _ _) ?_
  rw [ifV_dec]
  split
  · refine bnd_of (unV_neg _ _) ?_
    rw [wrap_id (by omega) (by omega)]
    refine bnd_of rfl ?_
    exact evs 0 (0 - d) (ev (0 - d) 0 3) rfl rfl (by decide) (bads _ (bad_thread (by simp only [ev]; omega)))
  refine bnd_of (eqI_int _ _ _) ?_
  rw [ifV_dec]
  split
  · refine bnd_of (binV_add _ _ _) ?_
    rw [wrap_id (by omega) (by omega)]
    refine bnd_of rfl ?_
    exact evs 5 (2 + d) (ev 1 (2 + d) 3) rfl rfl (by decide) (bads _ (bad_end (by simp only [ev]; omega)))
  refine bnd_of (eqI_int _ _ _) ?_
  rw [ifV_dec]
  split
  · refine bnd_of (unV_neg _ _) ?_
    rw [wrap_id (by omega) (by omega)]
    refine bnd_of rfl ?_
    exact evs 5 (0 - d) (ev 1 (0 - d) 3) rfl rfl (by decide) (bads _ (bad_end (by simp only [ev]; omega)))
  have pl : ∀ (g : GObj), HLe h1 (upd h5 b2 g) := fun g => (l2.trans (l3.trans (l4.trans l5))).new _ f2
  refine bnd_of (eqI_int _ _ _) ?_
  rw [ifV_dec]
  split
  · refine bnd_of (binV_sub _ _ _) ?_
    rw [wrap_id (by omega) (by omega)]
    refine bnd_of rfl (bnd_of (v := upd h5 b2 (.row 24 (planC v1 ⟨[[], []], 1 - d, false⟩) 3 true)) (by rw [stV_row x2 1 (0 + 1) (i64 (1 - d)) rfl (Nat.le_of_ble_eq_true rfl) rfl]; rfl) ?_)
    refine forms_end (vp := v1) (p := ⟨[[], []], 1 - d, false⟩) (e := ev 1 0 3) rfl rfl (upd_same _ _ _) ?_ (p1.le (pl _)) (o5.upd _ n2) ?_
    · rw [upd_ne (Ne.symm hne)]; exact x3
    · unfold countOk Plan.may; simp; omega
  · refine bnd_of rfl (bnd_of (v := upd h5 b2 (.row 24 (planC (.slice none 0 0) ⟨[], 1, false⟩) 3 true)) (by rw [stV_row x2 1 (0 + 0) (.slice none 0 0) rfl (Nat.le_of_ble_eq_true rfl) rfl]; rfl) ?_)
    refine forms_end (vp := .slice none 0 0) (p := ⟨[], 1, false⟩) (e := ev 1 0 3) rfl rfl (upd_same _ _ _) ?_ (threadsAt_nil _) (o5.upd _ n2) (by decide)
    rw [upd_ne (Ne.symm hne)]; exact x3
end Go.Proofs.Ytkcgphbgbibhfaa
