/- Contracts of functions of the program, as the laws use them. -/
import Derived.Test.YtkcgphbgbibhfaaTally2
namespace Go.Proofs.Ytkcgphbgbibhfaa
open Go GW Go.Proofs
set_option linter.unusedVariables false
set_option linter.unusedSimpArgs false
theorem T_CountRef {v ev : Value} {p : Plan} {es : List Event} {h : GH} {K : Value → GH → Prop} (hp : threadsAt h v p.threads) (he : eventsAt h ev es)
    (k0 : countOk p es = false → K (.tuple #[.slice none 0 0, i64 2500]) h)
    (k1 : countOk p es = true → ∀ v' h', own h' 3 v' ((counts p.threads.length es).map encL) → HLe h h' → (∀ b, blk v' b → h b = none) → K (.tuple #[v', i64 0]) h') : T Try.prog 8 [.agg (planC v p).toArray, ev] h K := by
  apply T.drop
  apply S8_T
  unfold S8
  intro b hb
  have l := (HLe.refl h).new (.row 24 (planC v p) 3 true) hb
  have e0 : (upd h b (.row 24 (planC v p) 3 true)) b = some (.row 24 (planC v p) 3 true) := upd_same _ _ _
  refine bnd_of (v := .agg (planC v p).toArray) (by rw [ldV_same_agg]; rfl) ?_
  refine T_PlanMay (hp.le l) (bnd_of rfl ?_)
  rw [ifV_iff]
  split
  · rename_i hm
    exact ⟨h, l, k0 (by unfold countOk; simp at hm; rw [hm]; rfl)⟩
  rename_i hm
  have hm : p.may = true := by simpa using hm
  have hn : 1 ≤ p.threads.length ∧ p.threads.length ≤ 4 := by
    unfold Plan.may at hm; simp at hm; omega
  obtain ⟨ts, rt, at_⟩ := hp
  obtain ⟨cs, rc, ac⟩ := he
  have hln := rt.len
  rw [at_.1] at hln
  have hmc := rc.max
  rw [ac.1] at hmc
  refine bnd_of rfl (bnd_of (v := v) (by rw [ldV_same]; rfl) (bnd_of hln ?_))
  refine mkV_rows ⟨rfl, rfl⟩ (by omega) (by omega) fun out h1 o1 l1 f1 => ?_
  have hrep : List.replicate p.threads.length [Value.int .i64 0, .int .i64 0, .int .i64 0] = (counts p.threads.length (es.take 0)).map encL := by
    unfold counts; simp [encL]
  rw [hrep] at o1
  have z := Cts.zero p.threads.length
  generalize hN : p.threads.length = n at *
  refine Lfp_fam (ι := Nat) (fun i => [ev, out, i64 i]) (fun i h' => i ≤ es.length ∧ HLe h h' ∧ own h' 3 out ((counts n (es.take i)).map encL) ∧ Cts n i (counts n (es.take i)) ∧ (es.take i).any (Event.bad n) = false) (fun i => es.length - i) ?_ 0 h1 ⟨Nat.zero_le _, l.trans l1, o1, z, rfl⟩
  intro i h2 X ⟨hi, l2, o2, ct, hok⟩ again
  have hlc := (rc.le l2).len
  rw [ac.1] at hlc
  simp only [tup_zero, tup_succ, hlc, binV_lss, bnd_some, ifV_dec]
  have hfr : ∀ b, blk out b → h b = none := fun b' hb' => l.none (f1 b' hb')
  split
  · rename_i hlt
    obtain ⟨e, hee⟩ : ∃ e, es[i]? = some e := ⟨_, List.getElem?_eq_getElem (by omega)⟩
    obtain ⟨c, hc, w, rfl, rw1⟩ := ac.get hee
    obtain ⟨q, hq, hlq⟩ := (rc.le l2).get (i := i) (c := e.cells w) hc .i64
    have hw1 : oneCell w = true := by obtain ⟨_, _, _, rfl, _⟩ := rw1; rfl
    refine bnd_of hq (bnd_of hlq ?_)
    refine new_st (e.cells w) rfl rfl rfl (by unfold Event.cells; simp [one_int, hw1]) fun b3 h3 f3 e3 l3 => ?_
    have l23 := l2.trans l3
    have bad : e.bad n = true → ∃ h0, HLe h0 h3 ∧ K (.tuple #[.slice none 0 0, i64 2500]) h0 := fun hbad => by
      refine ⟨h, l23, k0 ?_⟩
      unfold countOk; rw [hN, any_true hee hbad]; simp
    have o3 := o2.le l3
    have hlo := o3.rows.len
    rw [List.length_map, ct.len] at hlo
    refine bnd_of rfl (bnd_of (v := i64 e.thread) (by rw [ldV_cell e3]; rfl) (bnd_of (binV_lss _ _ _) ?_))
    rw [ifV_dec]
    split
    · exact bad (by unfold Event.bad; rw [decide_eq_false (by omega)]; rfl)
    refine bnd_of rfl (bnd_of (v := i64 e.thread) (by rw [ldV_cell e3]; rfl) (bnd_of hlo (bnd_of (binV_geq _ _ _) ?_)))
    rw [ifV_dec]
    split
    · exact bad (by unfold Event.bad; rw [decide_eq_false (by omega)]; rfl)
    refine bnd_of rfl (bnd_of (v := i64 e.end_) (by rw [ldV_cell e3]; rfl) (bnd_of (binV_lss _ _ _) ?_))
    rw [ifV_dec]
    split
    · exact bad (by unfold Event.bad; rw [decide_eq_false (p := 0 ≤ e.end_ ∧ e.end_ < 3) (by omega)]; simp)
    refine bnd_of rfl (bnd_of (v := i64 e.end_) (by rw [ldV_cell e3]; rfl) (bnd_of (binV_gtr _ _ _) ?_))
    rw [ifV_dec]
    split
    · exact bad (by unfold Event.bad; rw [decide_eq_false (p := 0 ≤ e.end_ ∧ e.end_ < 3) (by omega)]; simp)
    have c1 : 0 ≤ e.thread ∧ e.thread < n := by omega
    have c2 : 0 ≤ e.end_ ∧ e.end_ < 3 := by omega
    have hbf : e.bad n = false := by unfold Event.bad; rw [decide_eq_true c1, decide_eq_true c2]; rfl
    have hstep := counts_snoc (n := n) hee
    have ct2 := ct.step hbf
    rw [← hstep] at ct2
    have hok2 := any_snoc hee hok hbf
    have hwi : IntKind.i64.wrap ((i : Int) + 1) = ((i + 1 : Nat) : Int) := by rw [wrap_id (by omega) (by omega)]; rfl
    unfold S8_j1
    refine bnd_of rfl (bnd_of (v := i64 e.answered) (by rw [ldV_cell e3]; rfl) (bnd_of (binV_geq _ _ _) ?_))
    rw [ifV_dec]
    split
    · rename_i ha
      obtain ⟨t, ht⟩ := Int.eq_ofNat_of_zero_le c1.1
      obtain ⟨k, hk⟩ := Int.eq_ofNat_of_zero_le c2.1
      have ht2 : e.thread.toNat = t := by omega
      have hk2 : e.end_.toNat = k := by omega
      obtain ⟨d, x, g1, g2, g3, g4, g5, g6⟩ := ct.get (t := t) (e := k) (by omega) (by omega)
      obtain ⟨bo, a1, a2, a3, a4, _⟩ := o3.at (i := t) (c := encL d) (by rw [List.getElem?_map, g1]; rfl) .i64
      refine bnd_of rfl (bnd_of (v := i64 t) (by rw [ldV_cell e3, ← ht]; rfl) ?_)
      refine bnd_of a1 (bnd_of a4 ?_)
      have hdl : (encL d).length = 3 := by unfold encL; rw [List.length_map]; exact g3
      have hone : (encL d).all oneCell = true := by
        rw [List.all_eq_true]; intro y hy
        obtain ⟨z, _, rfl⟩ := List.mem_map.1 hy
        rfl
      refine new_st (encL d) rfl hdl rfl hone fun b5 h5 f5 e5 l5 => ?_
      have e35 := l5 _ _ e3
      refine bnd_of rfl (bnd_of (v := i64 k) (by rw [ldV_cell e35, ← hk]; rfl) ?_)
      refine bnd_of rfl (bnd_of (v := i64 k) (by rw [ldV_cell e35, ← hk]; rfl) ?_)
      refine bnd_of (iaV_at (by omega) .i64) (bnd_of (v := i64 x) (by rw [ldV_cell e5, Nat.zero_add, Nat.mul_one]; unfold encL; rw [List.getElem?_map, g2]; rfl) (bnd_of (binV_add _ _ _) ?_))
      rw [wrap_id (n := x + 1) (by omega) (by omega)]
      refine bnd_of (iaV_at (by omega) .i64) (bnd_of (st_ints e5 (by omega) (x + 1)) ?_)
      have hne : b3 ≠ b5 := by
        rintro rfl
        rw [e3] at f5; cases f5
      have l6 : HLe h3 (upd h5 b5 (.row 35 ((d.set k (x + 1)).map i64) 3 true)) := l5.new _ f5
      refine bnd_of rfl (bnd_of (v := i64 t) (by rw [ldV_cell (l6 _ _ e3), ← ht]; rfl) ?_)
      have hdl2 : ((d.set k (x + 1)).map i64).length = 3 := by rw [List.length_map, List.length_set]; exact g3
      refine bnd_of (v := .agg (encL (d.set k (x + 1))).toArray) (by rw [ldV_agg (upd_same _ _ _) _ _ (by omega), List.drop_zero, List.take_of_length_le (by omega)]; rfl) ?_
      obtain ⟨bo2, a1', a2', _, _, a5'⟩ := (o3.le l6).at (i := t) (c := encL d) (by rw [List.getElem?_map, g1]; rfl) .i64
      have hone2 : (encL (d.set k (x + 1))).all oneCell = true := by
        rw [List.all_eq_true]; intro y hy
        obtain ⟨z, _, rfl⟩ := List.mem_map.1 hy
        rfl
      obtain ⟨h7, s1, s2, s3, s4⟩ := a5' 0 3 (.agg (encL (d.set k (x + 1))).toArray) hdl2 (by omega) hone2
      refine bnd_of a1' (bnd_of s1 (bnd_of (binV_add _ _ _) ?_))
      rw [hwi]
      refine again (i + 1) h7 ⟨by omega, (l23.trans l6).keep s3 hfr, ?_, ct2, hok2⟩ (by omega)
      have hst : stepE (counts n (es.take i)) e = (counts n (es.take i)).set t (d.set k (x + 1)) := by
        unfold stepE; rw [if_pos ha, ht2, hk2, g6]
      have hsc : setCells (encL d) 0 (Value.agg (encL (d.set k (x + 1))).toArray).cells.toList = encL (d.set k (x + 1)) :=
        setCells_all (by rw [hdl]; exact hdl2)
      rw [hstep, hst, ← map_encL_set, ← hsc]
      exact s2
    · rename_i ha
      refine bnd_of (binV_add _ _ _) ?_
      rw [hwi]
      refine again (i + 1) h3 ⟨by omega, l23, ?_, ct2, hok2⟩ (by omega)
      have hst : stepE (counts n (es.take i)) e = counts n (es.take i) := by unfold stepE; rw [if_neg ha]
      rw [hstep, hst]; exact o3
  · rename_i hge
    rw [List.take_of_length_le (by omega)] at o2 hok
    exact ⟨h2, .refl _, k1 (by unfold countOk; rw [hm, hN, hok]; rfl) out h2 o2 l2 hfr⟩
/-- a heap without a slice's own row -/
def less (v : Value) (h : GH) : GH := fun b => match v with | .slice (some a) _ _ => if a.block = b then none else h b | _ => h b
theorem less_eq {v : Value} {h : GH} {b : Nat} (n : ¬ blk v b) : less v h b = h b := by
  unfold less
  split
  · rename_i a _ _
    have n : ¬ a.block = b := n
    rw [if_neg n]
  · rfl
theorem less_blk {v : Value} {h : GH} {b : Nat} (n : blk v b) : less v h b = none := by
  unfold less
  split
  · rename_i a _ _
    have n : a.block = b := n
    rw [if_pos n]
  · rename_i hq
    unfold blk at n
    split at n
    · exact (hq _ _ _ rfl).elim
    · exact n.elim
theorem less_le (v : Value) (h : GH) : HLe (less v h) h := fun b g e => by
  by_cases n : blk v b
  · rw [less_blk n] at e; cases e
  · rw [less_eq n] at e; exact e
theorem less_keep {v v' : Value} {h h' : GH} (k : Keep (blk v) h h') (f : ∀ b, blk v' b → blk v b ∨ h b = none) : HLe (less v h) (less v' h') := fun b g e => by
  by_cases n : blk v b
  · rw [less_blk n] at e; cases e
  · rw [less_eq n] at e
    have : ¬ blk v' b := fun q => by
      rcases f b q with q2 | q2
      · exact n q2
      · rw [q2] at e; cases e
    rw [less_eq this]; exact k b g e n
theorem less_mono {v : Value} {h h' : GH} (l : HLe h h') : HLe (less v h) (less v h') := fun b g e => by
  by_cases n : blk v b
  · rw [less_blk n] at e; cases e
  · rw [less_eq n] at e ⊢; exact l b g e
theorem le_less {v : Value} {h h' : GH} (l : HLe h h') (f : ∀ b, blk v b → h b = none) : HLe h (less v h') := fun b g e => by
  by_cases n : blk v b
  · rw [f b n] at e; cases e
  · rw [less_eq n]; exact l b g e
theorem ev_good (e : Event) {w : Value} (hw : oneCell w = true) : good 8 (e.cells w) := by
  refine ⟨rfl, ?_⟩
  unfold Event.cells; simp [one_int, hw]
theorem T_CopyEvents {v : Value} {es : List Event} {h : GH} {K : Value → GH → Prop} (he : eventsAt h v es) (hb : (es.length + 2) * 80 ≤ 140737488355328) (ha : ∀ e ∈ es, (e.answers.length + 2) * 16 ≤ 140737488355328)
    (k : ∀ v' h', eventsAt h' v' es → HLe h h' → K v' h') : T Try.prog 6 [v] h K := by
  apply S6_T
  unfold S6
  obtain ⟨cs, rc, ac⟩ := he
  refine Lfp_fam (ι := Nat × Value × List (List Value)) (fun q => [v, q.2.1, i64 q.1]) (fun q h' => q.1 ≤ es.length ∧ own h' 8 q.2.1 q.2.2 ∧ HLe h (less q.2.1 h') ∧ All2 (evC (less q.2.1 h')) q.2.2 (es.take q.1)) (fun q => es.length - q.1) ?_ (0, .slice none 0 0, []) h ⟨Nat.zero_le _, own_nil _ _, .refl _, .nil⟩
  rintro ⟨i, out, ds⟩ h1 X ⟨hi, o1, l1, a1⟩ again
  simp only at hi o1 l1 a1
  have hl1 : HLe h h1 := l1.trans (less_le _ _)
  have hlc := (rc.le hl1).len
  rw [ac.1] at hlc
  simp only [tup_zero, tup_succ, hlc, binV_lss, bnd_some, ifV_dec]
  split
  · rename_i hlt
    obtain ⟨e, hee⟩ : ∃ e, es[i]? = some e := ⟨_, List.getElem?_eq_getElem (by omega)⟩
    obtain ⟨c, hc, w, rfl, rw1⟩ := ac.get hee
    have hea := ha e (List.mem_of_getElem? hee)
    obtain ⟨q, hq, hlq⟩ := (rc.le hl1).get (i := i) (c := e.cells w) hc .i64
    have hw1 : oneCell w = true := by obtain ⟨_, _, _, rfl, _⟩ := rw1; rfl
    refine bnd_of hq (bnd_of hlq ?_)
    refine new_st (e.cells w) rfl rfl rfl (ev_good e hw1).2 fun b2 h2 f2 e2 l2 => ?_
    refine bsV_rows (size := 2) [] rfl rfl (by decide) (fun c hc => by cases hc) fun v3 h3 o3 l3 f3 => ?_
    refine bnd_of rfl (bnd_of (v := w) (by rw [ldV_cell (l3 _ _ e2)]; rfl) ?_)
    have l23 := l2.trans l3
    refine own_ap o3 (rw1.le (hl1.trans l23)) (Answer.all_good _) (by decide) (by simp; omega) fun v4 h4 o4 kp4 f4 => ?_
    rw [List.nil_append] at o4
    have l4 : HLe h2 h4 := l3.keep kp4 f3
    have hw4 : oneCell v4 = true := by obtain ⟨_, _, rfl, _⟩ := o4; rfl
    have n4 : ∀ b, blk v4 b → h2 b = none := fun b hb => by
      rcases f4 b hb with q | q
      · exact f3 b q
      · exact l3.none q
    have hc4 : v4.cells = #[v4] := by obtain ⟨_, _, rfl, _⟩ := o4; rfl
    refine bnd_of rfl (bnd_of (v := upd h4 b2 (.row 40 (e.cells v4) 8 true)) ?_ ?_)
    · rw [stV_row (l4 _ _ e2) 1 (0 + 7) v4 (by rw [hc4]; rfl) (Nat.le_of_ble_eq_true rfl) (by rw [hc4]; simp [hw4]), hc4]; rfl
    have o5 : own (upd h4 b2 (.row 40 (e.cells v4) 8 true)) 2 v4 (e.answers.map Answer.enc) := o4.upd _ fun q => by
      have := n4 _ q
      rw [e2] at this; cases this
    have l5 : HLe h1 (upd h4 b2 (.row 40 (e.cells v4) 8 true)) := (l2.trans l4).new _ f2
    refine bnd_of (v := .agg (e.cells v4).toArray) (by rw [ldV_agg (upd_same _ _ _) _ _ (Nat.le_refl 8)]; rfl) ?_
    have hds : ds.length = i := by have := a1.1; rw [List.length_take] at this; omega
    refine own_lit (new := [e.cells v4]) ?_ rfl (fun c hc => by simp at hc; subst hc; exact ev_good e hw4) (o1.le l5) (by decide) (by simp; omega) fun v6 h6 o6 kp6 f6 => ?_
    · rfl
    refine bnd_of (binV_add _ _ _) ?_
    have hmc := rc.max
    rw [ac.1] at hmc
    rw [wrap_id (by omega) (by omega)]
    have l6 := less_keep kp6 f6
    refine again (i + 1, v6, ds ++ [e.cells v4]) h6 ⟨by simp only; omega, o6, (l1.trans (less_mono l5)).trans l6, ?_⟩ (by simp only; omega)
    simp only
    have ht : es.take (i + 1) = es.take i ++ [e] := by rw [List.take_add_one, hee]; rfl
    rw [ht]
    have a2 := a1.mono (S := evC (less v6 h6)) fun x y q => q.le ((less_mono l5).trans l6)
    refine ⟨by simp [a1.1], fun j x y hx hy => ?_⟩
    rcases Nat.lt_or_ge j ds.length with q | q
    · rw [List.getElem?_append_left q] at hx
      rw [List.getElem?_append_left (by rw [← a1.1]; exact q)] at hy
      exact a2.2 j x y hx hy
    · rw [List.getElem?_append_right q] at hx
      rw [List.getElem?_append_right (by rw [← a1.1]; exact q), ← a1.1] at hy
      generalize j - ds.length = m at hx hy
      cases m with
      | zero =>
        simp at hx hy
        subst hx; subst hy
        refine ⟨v4, rfl, ?_⟩
        have hv4 : ∀ b, blk v4 b → ¬ blk out b := fun b hb hq => by
          obtain ⟨g, e⟩ := o1.known hq
          have := l2.none (n4 b hb)
          rw [this] at e; cases e
        have o5' : own (less out (upd h4 b2 (.row 40 (e.cells v4) 8 true))) 2 v4 (e.answers.map Answer.enc) :=
          o5.keep (S := blk out) (fun b g e n => by rw [less_eq n]; exact e) hv4
        exact (o5'.le l6).rows
      | succ m => simp at hx
  · rename_i hge
    rw [List.take_of_length_le (by omega)] at a1
    exact k out h1 ⟨ds, o1.rows, a1.mono fun x y q => q.le (less_le _ _)⟩ hl1
theorem T_SameEvent {e : Event} {w w' : Value} {h : GH} {K : Value → GH → Prop} (r : rowsAt h 2 w (e.answers.map Answer.enc)) (r' : rowsAt h 2 w' (e.answers.map Answer.enc)) (hK : K (.bool true) h) : T Try.prog 15 [.agg (e.cells w).toArray, .agg (e.cells w').toArray] h K := by
  apply T.drop
  apply S15_T
  unfold S15
  intro b1 hb1
  have l1 := (HLe.refl h).new (.row 40 (e.cells w) 8 true) hb1
  intro b2 hb2
  have hne : b1 ≠ b2 := by rintro rfl; simp at hb2
  have l2 := l1.new (.row 40 (e.cells w') 8 true) (l1.none hb2)
  have x1 (j : Nat) (y : Value) (hj : (e.cells w)[j]? = some y) : ldV 1 false (.pointer (some ⟨b1, 0 + j, none⟩)) (upd (upd h b1 (.row 40 (e.cells w) 8 true)) b2 (.row 40 (e.cells w') 8 true)) = some y := by
    rw [ldV_other hne, ldV_same, Nat.zero_add]; exact hj
  have x2 (j : Nat) (y : Value) (hj : (e.cells w')[j]? = some y) : ldV 1 false (.pointer (some ⟨b2, 0 + j, none⟩)) (upd (upd h b1 (.row 40 (e.cells w) 8 true)) b2 (.row 40 (e.cells w') 8 true)) = some y := by
    rw [ldV_same, Nat.zero_add]; exact hj
  refine bnd_of rfl (bnd_of (x1 0 _ rfl) (bnd_of rfl (bnd_of (x2 0 _ rfl) (bnd_of (eqI_int _ _ _) (ifV_t (by rw [decide_eq_true rfl]) ?_)))))
  refine bnd_of rfl (bnd_of (x1 1 _ rfl) (bnd_of rfl (bnd_of (x2 1 _ rfl) (bnd_of (eqI_int _ _ _) (ifV_t (by rw [decide_eq_true rfl]) ?_)))))
  refine bnd_of rfl (bnd_of (x1 2 _ rfl) (bnd_of rfl (bnd_of (x2 2 _ rfl) (bnd_of (eqI_int _ _ _) (ifV_t (by rw [decide_eq_true rfl]) ?_)))))
  refine bnd_of rfl (bnd_of (x1 3 _ rfl) (bnd_of rfl (bnd_of (x2 3 _ rfl) (bnd_of (eqI_int _ _ _) (ifV_t (by rw [decide_eq_true rfl]) ?_)))))
  refine bnd_of rfl (bnd_of (x1 4 _ rfl) (bnd_of rfl (bnd_of (x2 4 _ rfl) (bnd_of (eqI_int _ _ _) (ifV_t (by rw [decide_eq_true rfl]) ?_)))))
  refine bnd_of rfl (bnd_of (x1 5 _ rfl) (bnd_of rfl (bnd_of (x2 5 _ rfl) (bnd_of (eqI_int _ _ _) (ifV_t (by rw [decide_eq_true rfl]) ?_)))))
  refine bnd_of rfl (bnd_of (x1 6 _ rfl) (bnd_of rfl (bnd_of (x2 6 _ rfl) (bnd_of (eqI_int _ _ _) (ifV_t (by rw [decide_eq_true rfl]) ?_)))))
  refine bnd_of rfl (bnd_of (x1 7 _ rfl) (bnd_of rfl (bnd_of (x2 7 _ rfl) ?_)))
  refine T_SameAnswers (r.le l2) (r'.le l2) ⟨h, l2, ?_⟩
  rw [decide_eq_true rfl]; exact hK
theorem T_SameEvents {v w : Value} {es : List Event} {h : GH} {K : Value → GH → Prop} (a : eventsAt h v es) (b : eventsAt h w es) (hK : K (.bool true) h) : T Try.prog 10 [v, w] h K := by
  apply S10_T
  unfold S10
  obtain ⟨cs, rc, ac⟩ := a
  obtain ⟨ds, rd, ad⟩ := b
  have hlc := rc.len
  have hmc := rc.max
  have hld := rd.len
  rw [ac.1] at hlc hmc
  rw [ad.1] at hld
  refine bnd_of hlc (bnd_of hld (bnd_of (eqI_int _ _ _) ?_))
  rw [decide_eq_true rfl]
  refine ifV_f rfl ?_
  refine Lfp_fam (ι := Nat) (fun i => [v, w, i64 i]) (fun i h' => i ≤ es.length ∧ h' = h) (fun i => es.length - i) ?_ 0 h ⟨Nat.zero_le _, rfl⟩
  intro i h' X ⟨hi, hh⟩ again
  subst hh
  simp only [tup_zero, tup_succ, hlc, binV_lss, bnd_some, ifV_dec]
  split
  · rename_i hlt
    obtain ⟨e, hee⟩ : ∃ e, es[i]? = some e := ⟨_, List.getElem?_eq_getElem (by omega)⟩
    obtain ⟨c, hc, u, rfl, ru⟩ := ac.get hee
    obtain ⟨d, hd, u', rfl, ru'⟩ := ad.get hee
    obtain ⟨q, hq, hlq⟩ := rc.get (i := i) hc .i64
    obtain ⟨q', hq', hlq'⟩ := rd.get (i := i) hd .i64
    refine bnd_of hq (bnd_of hlq (bnd_of hq' (bnd_of hlq' ?_)))
    refine T_SameEvent ru ru' (bnd_of rfl (ifV_f rfl (bnd_of (binV_add _ _ _) ?_)))
    rw [wrap_id (by omega) (by omega)]
    exact again (i + 1) h' ⟨by omega, rfl⟩ (by omega)
  · exact hK
def countL (p : Plan) (es : List Event) : List (List Int) := if countOk p es = true then counts p.threads.length es else []
def countE (p : Plan) (es : List Event) : Int := if countOk p es = true then 0 else 2500
theorem T_Count_all {v ev : Value} {p : Plan} {es : List Event} {h : GH} {K : Value → GH → Prop} (hp : threadsAt h v p.threads) (he : eventsAt h ev es)
    (k : ∀ v' h', own h' 3 v' ((countL p es).map encL) → HLe h h' → K (.tuple #[v', i64 (countE p es)]) h') : T Try.prog 7 [.agg (planC v p).toArray, ev] h K := by
  refine T_Count hp he (fun q => ?_) fun q v' h' o l f => ?_
  · have := k (.slice none 0 0) h (by unfold countL; rw [if_neg (by rw [q]; decide)]; exact own_nil _ _) (.refl _)
    unfold countE at this; rw [if_neg (by rw [q]; decide)] at this; exact this
  · have := k v' h' (by unfold countL; rw [if_pos q]; exact o) l
    unfold countE at this; rw [if_pos q] at this; exact this
theorem T_CountRef_all {v ev : Value} {p : Plan} {es : List Event} {h : GH} {K : Value → GH → Prop} (hp : threadsAt h v p.threads) (he : eventsAt h ev es)
    (k : ∀ v' h', own h' 3 v' ((countL p es).map encL) → HLe h h' → K (.tuple #[v', i64 (countE p es)]) h') : T Try.prog 8 [.agg (planC v p).toArray, ev] h K := by
  refine T_CountRef hp he (fun q => ?_) fun q v' h' o l f => ?_
  · have := k (.slice none 0 0) h (by unfold countL; rw [if_neg (by rw [q]; decide)]; exact own_nil _ _) (.refl _)
    unfold countE at this; rw [if_neg (by rw [q]; decide)] at this; exact this
  · have := k v' h' (by unfold countL; rw [if_pos q]; exact o) l
    unfold countE at this; rw [if_pos q] at this; exact this
theorem countL_three (p : Plan) (es : List Event) : ∀ c ∈ countL p es, c.length = 3 := by
  unfold countL
  split
  · rename_i hok
    have hm : p.may = true ∧ es.any (Event.bad p.threads.length) = false := by
      unfold countOk at hok; simpa using hok
    obtain ⟨ca, _⟩ := counts_all hm.2 es.length (Nat.le_refl _)
    rw [List.take_length] at ca
    exact ca.three
  · intro c hc; cases hc
theorem T_Tallies {v ev : Value} {p : Plan} {es : List Event} {h : GH} (hp : threadsAt h v p.threads) (he : eventsAt h ev es) (hb : (es.length + 2) * 80 ≤ 140737488355328) (ha : ∀ e ∈ es, (e.answers.length + 2) * 16 ≤ 140737488355328) : T Try.prog 3 [.agg (planC v p).toArray, ev] h fun v _ => v = .bool true := by
  apply S3_T
  unfold S3
  intro b hb0
  have l := (HLe.refl h).new (.row 24 (planC v p) 3 true) hb0
  have e0 : (upd h b (.row 24 (planC v p) 3 true)) b = some (.row 24 (planC v p) 3 true) := upd_same _ _ _
  refine T_CopyEvents (he.le l) hb ha fun xs h1 hx l1 => ?_
  refine bnd_of (v := .agg (planC v p).toArray) (by rw [ldV_agg (l1 _ _ e0) _ _ (Nat.le_refl 3)]; rfl) ?_
  refine T_Count_all (hp.le (l.trans l1)) hx fun a h2 o2 l2 => ?_
  have l12 := l1.trans l2
  refine bnd_of rfl (bnd_of rfl (bnd_of (v := .agg (planC v p).toArray) (by rw [ldV_agg (l12 _ _ e0) _ _ (Nat.le_refl 3)]; rfl) ?_))
  refine T_CountRef_all (hp.le (l.trans l12)) (he.le (l.trans l12)) fun c h3 o3 l3 => ?_
  refine bnd_of rfl (bnd_of rfl ?_)
  have ra := o2.rows.le l3
  have rc := o3.rows
  have hla := ra.len
  have hma := ra.max
  rw [List.length_map] at hla hma
  have hlc := rc.len
  rw [List.length_map] at hlc
  refine bnd_of hla (bnd_of hlc (bnd_of (eqI_int _ _ _) ?_))
  rw [decide_eq_true rfl]
  refine ifV_f rfl ?_
  refine T_Num (bnd_of (eqI_int _ _ _) ?_)
  rw [decide_eq_true rfl]
  refine ifV_f rfl ?_
  refine T_SameEvents (hx.le (l2.trans l3)) (he.le (l.trans (l12.trans l3))) (bnd_of rfl (ifV_f rfl ?_))
  unfold S3_j1
  have h3' := countL_three p es
  generalize countL p es = cs at *
  refine Lfp_fam (ι := Nat) (fun i => [a, c, i64 i]) (fun i h' => i ≤ cs.length ∧ h' = h3) (fun i => cs.length - i) ?_ 0 h3 ⟨Nat.zero_le _, rfl⟩
  intro i h' X ⟨hi, hh⟩ again
  subst hh
  simp only [tup_zero, tup_succ, hla, binV_lss, bnd_some, ifV_dec]
  split
  · rename_i hlt
    obtain ⟨d, hd⟩ : ∃ d, cs[i]? = some d := ⟨_, List.getElem?_eq_getElem (by omega)⟩
    have hd3 := h3' d (List.mem_of_getElem? hd)
    obtain ⟨q, hq, hlq⟩ := ra.get (i := i) (c := encL d) (by rw [List.getElem?_map, hd]; rfl) .i64
    obtain ⟨q', hq', hlq'⟩ := rc.get (i := i) (c := encL d) (by rw [List.getElem?_map, hd]; rfl) .i64
    refine bnd_of hq (bnd_of hlq (bnd_of hq' (bnd_of hlq' (bnd_of (three_eq d d hd3 hd3) ?_))))
    rw [decide_eq_true rfl]
    refine ifV_f rfl (bnd_of (binV_add _ _ _) ?_)
    rw [wrap_id (by omega) (by omega)]
    exact again (i + 1) h' ⟨by omega, rfl⟩ (by omega)
  · exact T_awake25 rfl
end Go.Proofs.Ytkcgphbgbibhfaa
