/- Contracts of functions of the program, as the laws use them. -/
import Derived.Test.YtkcgphbgbibhfaaTally
namespace Go.Proofs.Ytkcgphbgbibhfaa
open Go GW Go.Proofs
set_option linter.unusedVariables false
set_option linter.unusedSimpArgs false
theorem T_Count_bad {v ev : Value} {p : Plan} {es : List Event} {h : GH} {K : Value → GH → Prop} (hp : threadsAt h v p.threads) (he : eventsAt h ev es) (hb : countOk p es = false)
    (k : K (.tuple #[.slice none 0 0, i64 2500]) h) : T Try.prog 7 [.agg (planC v p).toArray, ev] h K :=
  T_Count hp he (fun _ => k) fun q => by rw [hb] at q; cases q
theorem T_Count_good {v ev : Value} {p : Plan} {es : List Event} {h : GH} {K : Value → GH → Prop} (hp : threadsAt h v p.threads) (he : eventsAt h ev es) (hb : countOk p es = true)
    (k : ∀ v' h', own h' 3 v' ((counts p.threads.length es).map encL) → HLe h h' → (∀ b, blk v' b → h b = none) → K (.tuple #[v', i64 0]) h') : T Try.prog 7 [.agg (planC v p).toArray, ev] h K :=
  T_Count hp he (fun q => by rw [hb] at q; cases q) fun _ => k
theorem eventsAt_nil (h : GH) : eventsAt h (.slice none 0 0) [] := ⟨[], rowsAt_nil h 8, rfl, fun i x y hx => by simp at hx⟩
theorem threadsAt_nil (h : GH) : threadsAt h (.slice none 0 0) [] := ⟨[], rowsAt_nil h 1, rfl, fun i x y hx => by simp at hx⟩
theorem thrC_nil (h : GH) : thrC h [.slice none 0 0] [] := ⟨_, [], rfl, rowsAt_nil h 1, rfl, fun i x y hx => by simp at hx⟩
theorem evC_nil {h : GH} {c : List Value} {e : Event} (h1 : c = e.cells (.slice none 0 0)) (h2 : e.answers = []) : evC h c e := ⟨_, h1, by rw [h2]; exact rowsAt_nil h 2⟩
theorem All2.nil {α β : Type} {R : α → β → Prop} : All2 R [] [] := ⟨rfl, fun i x y hx => by simp at hx⟩
theorem All2.cons {α β : Type} {R : α → β → Prop} {x : α} {y : β} {xs : List α} {ys : List β} (h : R x y) (a : All2 R xs ys) : All2 R (x :: xs) (y :: ys) := by
  refine ⟨by simp [a.1], fun i u w hu hw => ?_⟩
  cases i with
  | zero => simp at hu hw; subst hu; subst hw; exact h
  | succ i => exact a.2 i u w (by simpa using hu) (by simpa using hw)
theorem two_threads {h : GH} {v : Value} (o : rowsAt h 1 v [[.slice none 0 0], [.slice none 0 0]]) : threadsAt h v [[], []] :=
  ⟨_, o, .cons (thrC_nil h) (.cons (thrC_nil h) .nil)⟩
theorem three_eq (c d : List Int) (hc : c.length = 3) (hd : d.length = 3) : eqP Try.prog 10000 35 (.agg (encL c).toArray) (.agg (encL d).toArray) = some (decide (c = d)) := by
  match c, hc, d, hd with
  | [x, y, z], _, [x', y', z'], _ =>
    have h : eqP Try.prog 10000 35 (.agg (encL [x, y, z]).toArray) (.agg (encL [x', y', z']).toArray) = some ((x == x') && ((y == y') && ((z == z') && true))) := by kernel_rfl
    rw [h]
    simp [Bool.decide_and, Bool.beq_eq_decide_eq]
def ev (t e a : Int) : Event := ⟨t, 0, 0, 0, a, e, 0, []⟩
theorem T_awake25 {h : GH} {K : Value → GH → Prop} (hK : K (.bool true) h) : T Try.prog 11 [] h K := by
  apply T.drop
  apply S11_T
  unfold S11
  refine bsV_rows (size := 1) [[.slice none 0 0], [.slice none 0 0]] rfl rfl (by decide) (by simp [good, one_slice]) fun v1 h1 o1 l1 f1 => ?_
  have ⟨sa, sc, hv1, _⟩ := o1
  subst hv1
  generalize hgv : Value.slice sa (List.length [[Value.slice none 0 0], [Value.slice none 0 0]]) sc = v1 at *
  refine bnd_of (v := planC v1 ⟨[[], []], 1, false⟩) (by subst hgv; rfl) ?_
  refine new_st (planC v1 ⟨[[], []], 1, false⟩) rfl rfl rfl (by subst hgv; rfl) fun b2 h2 f2 e2 l2 => ?_
  refine bnd_of rfl (bnd_of rfl (bnd_of rfl (bnd_of rfl ?_)))
  refine bsV_rows (size := 8) [(ev 1 0 3).cells (.slice none 0 0), (ev 1 2 4).cells (.slice none 0 0), (ev 0 0 (-1)).cells (.slice none 0 0), (ev 1 1 0).cells (.slice none 0 0)] rfl rfl (by decide) (by simp [good, Event.cells, one_int, one_slice]) fun v3 h3 o3 l3 f3 => ?_
  have p1 : threadsAt h1 v1 (Plan.mk [[], []] 1 false).threads := two_threads o1.rows
  refine bnd_of (v := .agg (planC v1 ⟨[[], []], 1, false⟩).toArray) (by rw [ldV_agg (l3 _ _ e2) _ _ (Nat.le_refl 3)]; rfl) ?_
  refine T_Count_good (p := ⟨[[], []], 1, false⟩) (es := [ev 1 0 3, ev 1 2 4, ev 0 0 (-1), ev 1 1 0]) (p1.le (l2.trans l3)) ⟨_, o3.rows, .cons (evC_nil rfl rfl) (.cons (evC_nil rfl rfl) (.cons (evC_nil rfl rfl) (.cons (evC_nil rfl rfl) .nil)))⟩ (by decide) fun v4 h4 o4 l4 f4 => ?_
  have ec : counts (Plan.mk [[], []] 1 false).threads.length [ev 1 0 3, ev 1 2 4, ev 0 0 (-1), ev 1 1 0] = [[0, 0, 0], [1, 1, 1]] := by decide
  rw [ec] at o4
  refine bnd_of rfl (bnd_of rfl (bnd_of (v := .agg (planC v1 ⟨[[], []], 1, false⟩).toArray) (by rw [ldV_agg (l4 _ _ (l3 _ _ e2)) _ _ (Nat.le_refl 3)]; rfl) (bnd_of rfl ?_)))
  refine bsV_rows (size := 8) [(ev 2 0 0).cells (.slice none 0 0)] rfl rfl (by decide) (by simp [good, Event.cells, one_int, one_slice]) fun v5 h5 o5 l5 f5 => ?_
  refine T_Count_bad (p := ⟨[[], []], 1, false⟩) (es := [ev 2 0 0]) (p1.le (l2.trans (l3.trans (l4.trans l5)))) ⟨_, o5.rows, .cons (evC_nil rfl rfl) .nil⟩ (by decide) ?_
  refine bnd_of rfl (bnd_of rfl (bnd_of rfl ?_))
  refine T_Count_bad (v := .slice none 0 0) (p := ⟨[], 0, false⟩) (es := []) (threadsAt_nil _) (eventsAt_nil _) (by decide) ?_
  refine bnd_of rfl (bnd_of rfl ?_)
  have r4 := o4.rows.le l5
  refine bnd_of r4.len (bnd_of rfl (ifV_t rfl ?_))
  obtain ⟨q, hq, hlq⟩ := r4.get (i := 0) (c := encL [0, 0, 0]) rfl .i64
  obtain ⟨q2, hq2, hlq2⟩ := r4.get (i := 1) (c := encL [1, 1, 1]) rfl .i64
  refine bnd_of hq (bnd_of hlq (bnd_of rfl (bnd_of (three_eq [0, 0, 0] [0, 0, 0] rfl rfl) (ifV_t rfl ?_))))
  refine bnd_of hq2 (bnd_of hlq2 (bnd_of rfl (bnd_of (three_eq [1, 1, 1] [1, 1, 1] rfl rfl) (ifV_t rfl ?_))))
  refine T_Num (bnd_of rfl (ifV_t rfl ?_))
  refine T_Num (bnd_of rfl (ifV_t rfl ?_))
  refine T_Num (bnd_of rfl ?_)
  exact ⟨h, l1.trans (l2.trans (l3.trans (l4.trans l5))), hK⟩
def sumL : List Int → Int
  | [] => 0
  | x :: r => x + sumL r
def tot : List (List Int) → Int
  | [] => 0
  | c :: r => sumL c + tot r
theorem sumL_set : ∀ {d : List Int} {e : Nat} {x y : Int}, d[e]? = some x → sumL (d.set e y) = sumL d - x + y := by
  intro d
  induction d with
  | nil => intro e x y h; simp at h
  | cons a d ih =>
    intro e x y h
    cases e with
    | zero => simp at h; subst h; simp [sumL]; omega
    | succ e => simp only [List.set_cons_succ, sumL]; rw [ih (by simpa using h)]; omega
theorem tot_set : ∀ {cs : List (List Int)} {t : Nat} {d d' : List Int}, cs[t]? = some d → tot (cs.set t d') = tot cs - sumL d + sumL d' := by
  intro d
  induction d with
  | nil => intro e x y h; simp at h
  | cons a d ih =>
    intro e x y h
    cases e with
    | zero => simp at h; subst h; simp [tot]; omega
    | succ e => simp only [List.set_cons_succ, tot]; rw [ih (by simpa using h)]; omega
theorem tot_snoc (cs : List (List Int)) (c : List Int) : tot (cs ++ [c]) = tot cs + sumL c := by
  induction cs with
  | nil => simp [tot]
  | cons a cs ih => simp only [List.cons_append, tot, ih]; omega
def wants (es : List Event) : Int := ((es.filter fun e => decide (0 ≤ e.answered)).length : Int)
theorem wants_snoc (es : List Event) (e : Event) : wants (es ++ [e]) = wants es + if 0 ≤ e.answered then 1 else 0 := by
  unfold wants; rw [List.filter_append]; by_cases h : 0 ≤ e.answered <;> simp [h]
theorem wants_bound (es : List Event) : 0 ≤ wants es ∧ wants es ≤ es.length := by
  unfold wants; exact ⟨by omega, by have := List.length_filter_le (fun e : Event => decide (0 ≤ e.answered)) es; omega⟩
theorem tot_zero (n : Nat) : tot (List.replicate n [0, 0, 0]) = 0 := by
  induction n with
  | zero => rfl
  | succ n ih => rw [List.replicate_succ]; simp only [tot, ih, sumL]; rfl
theorem counts_all {n : Nat} {es : List Event} (h : es.any (Event.bad n) = false) : ∀ i, i ≤ es.length → Cts n i (counts n (es.take i)) ∧ tot (counts n (es.take i)) = wants (es.take i) := by
  intro i
  induction i with
  | zero => intro _; exact ⟨Cts.zero n, by unfold counts; simp only [List.take_zero, List.foldl_nil]; rw [tot_zero]; rfl⟩
  | succ i ih =>
    intro hi
    obtain ⟨h1, h2⟩ := ih (by omega)
    obtain ⟨e, he⟩ : ∃ e, es[i]? = some e := ⟨_, List.getElem?_eq_getElem (by omega)⟩
    have hb : e.bad n = false := by
      rw [← Bool.not_eq_true]; intro q
      rw [any_true he q] at h; cases h
    rw [counts_snoc he]
    refine ⟨h1.step hb, ?_⟩
    have ht : es.take (i + 1) = es.take i ++ [e] := by rw [List.take_add_one, he]; rfl
    rw [ht, wants_snoc, ← h2]
    unfold stepE
    split
    · have hb2 := hb
      unfold Event.bad at hb2
      simp at hb2
      obtain ⟨d, x, g1, g2, g3, g4, g5, g6⟩ := h1.get (t := e.thread.toNat) (e := e.end_.toNat) (by omega) (by omega)
      rw [g6, tot_set g1, sumL_set g2]; omega
    · omega
theorem sum_three {c : List Int} (h : c.length = 3) : ∃ x y z, c = [x, y, z] := by
  match c, h with
  | [x, y, z], _ => exact ⟨x, y, z, rfl⟩
theorem tot_bound {n m : Nat} {cs : List (List Int)} (c : Cts n m cs) : ∀ i, i ≤ cs.length → 0 ≤ tot (cs.take i) ∧ tot (cs.take i) ≤ i * (3 * m) := by
  intro i
  induction i with
  | zero => intro _; simp [tot]
  | succ i ih =>
    intro hi
    obtain ⟨d, hd⟩ : ∃ d, cs[i]? = some d := ⟨_, List.getElem?_eq_getElem (by omega)⟩
    have hm := List.mem_of_getElem? hd
    obtain ⟨x, y, z, rfl⟩ := sum_three (c.three d hm)
    have b1 := c.bound _ hm x (by simp)
    have b2 := c.bound _ hm y (by simp)
    have b3 := c.bound _ hm z (by simp)
    have := ih (by omega)
    rw [List.take_add_one, hd]
    simp only [Option.toList_some]
    rw [tot_snoc]
    simp only [sumL]
    have e1 : ((i + 1 : Nat) : Int) * (3 * m) = i * (3 * m) + 3 * m := by rw [Int.natCast_add, Int.add_mul]; omega
    rw [e1]
    omega
theorem T_TallySums {v ev : Value} {p : Plan} {es : List Event} {h : GH} (hp : threadsAt h v p.threads) (he : eventsAt h ev es) (hlen : es.length * 80 ≤ 140737488355328) : T Try.prog 4 [.agg (planC v p).toArray, ev] h fun v _ => v = .bool true := by
  apply S4_T
  unfold S4
  intro b hb
  have l := (HLe.refl h).new (.row 24 (planC v p) 3 true) hb
  have e0 : (upd h b (.row 24 (planC v p) 3 true)) b = some (.row 24 (planC v p) 3 true) := upd_same _ _ _
  refine T_awake25 (bnd_of rfl (ifV_f rfl ?_))
  refine bnd_of (v := .agg (planC v p).toArray) (by rw [ldV_same_agg]; rfl) ?_
  refine T_Count (hp.le l) (he.le l) (fun hbad => ?_) fun hok out h1 o1 l1 f1 => ?_
  · refine bnd_of rfl (bnd_of rfl ?_)
    refine T_Num (bnd_of rfl (ifV_t rfl ?_))
    exact bnd_of rfl (bnd_of rfl rfl)
  refine bnd_of rfl (bnd_of rfl ?_)
  refine T_Num (bnd_of rfl (ifV_f rfl ?_))
  have hm : p.may = true ∧ es.any (Event.bad p.threads.length) = false := by
    unfold countOk at hok; simpa using hok
  have hn : 1 ≤ p.threads.length ∧ p.threads.length ≤ 4 := by
    have := hm.1
    unfold Plan.may at this; simp at this; omega
  obtain ⟨ca, ta⟩ := counts_all hm.2 es.length (Nat.le_refl _)
  rw [List.take_length] at ca ta
  have r1 := o1.rows
  have hln := r1.len
  rw [List.length_map, ca.len] at hln
  have hb2 := tot_bound ca
  rw [ca.len] at hb2
  generalize counts p.threads.length es = cs at *
  refine Lfp_fam (ι := Nat) (fun i => [ev, .pointer (some ⟨b, 0, none⟩), out, i64 (tot (cs.take i)), i64 0, i64 i]) (fun i h' => i ≤ p.threads.length ∧ h' = h1) (fun i => p.threads.length - i) ?_ 0 h1 ⟨Nat.zero_le _, rfl⟩
  intro i h2 X ⟨hi, hh⟩ again
  subst hh
  have hbi := hb2 i hi
  simp only [tup_zero, tup_succ, hln, binV_lss, bnd_some, ifV_dec]
  have hcast : (i : Int) * (3 * es.length) ≤ 4 * (3 * es.length) := Int.mul_le_mul_of_nonneg_right (by omega) (by omega)
  split
  · rename_i hlt
    obtain ⟨d, hd⟩ : ∃ d, cs[i]? = some d := ⟨_, List.getElem?_eq_getElem (by rw [ca.len]; omega)⟩
    have hmem := List.mem_of_getElem? hd
    obtain ⟨x, y, z, rfl⟩ := sum_three (ca.three d hmem)
    have b1 := ca.bound _ hmem x (by simp)
    have b2 := ca.bound _ hmem y (by simp)
    have b3 := ca.bound _ hmem z (by simp)
    obtain ⟨bo, o, e2, hf, ha⟩ := r1.fld (i := i) (c := encL [x, y, z]) (by rw [List.getElem?_map, hd]; rfl) .i64
    refine bnd_of e2 (bnd_of (iaV_at (i := 0) (by decide) .i64) (bnd_of (hf 0 (i64 x) rfl) (bnd_of (binV_add _ _ _) ?_)))
    rw [wrap_id (by omega) (by omega)]
    refine bnd_of e2 (bnd_of (iaV_at (i := 1) (by decide) .i64) (bnd_of (hf 1 (i64 y) rfl) (bnd_of (binV_add _ _ _) ?_)))
    rw [wrap_id (by omega) (by omega)]
    refine bnd_of e2 (bnd_of (iaV_at (i := 2) (by decide) .i64) (bnd_of (hf 2 (i64 z) rfl) (bnd_of (binV_add _ _ _) (bnd_of (binV_add _ _ _) ?_))))
    rw [wrap_id (by omega) (by omega), wrap_id (by omega) (by omega)]
    have := again (i + 1) h2 ⟨by omega, rfl⟩ (by omega)
    rw [List.take_add_one, hd] at this
    simp only [Option.toList_some] at this
    rw [tot_snoc] at this
    simp only [sumL] at this
    have e3 : tot (cs.take i) + (x + (y + (z + 0))) = tot (cs.take i) + x + y + z := by omega
    rw [e3] at this
    exact this
  · rename_i hge
    have hall : cs.take i = cs := List.take_of_length_le (by rw [ca.len]; omega)
    rw [hall, ta]
    obtain ⟨ec, rc, ac⟩ := he
    have rc1 := rc.le (l.trans l1)
    have hlc := rc1.len
    rw [ac.1] at hlc
    refine Lfp_fam (ι := Nat) (fun j => [ev, .pointer (some ⟨b, 0, none⟩), out, i64 (wants es), i64 (wants (es.take j)), i64 j]) (fun j h' => j ≤ es.length ∧ h' = h2) (fun j => es.length - j) ?_ 0 h2 ⟨Nat.zero_le _, rfl⟩
    intro j h3 Y ⟨hj, hh⟩ again2
    subst hh
    simp only [tup_zero, tup_succ, hlc, binV_lss, bnd_some, ifV_dec]
    have hwb := wants_bound (es.take j)
    have htl := List.length_take_le j es
    split
    · rename_i hlt
      obtain ⟨e, hee⟩ : ∃ e, es[j]? = some e := ⟨_, List.getElem?_eq_getElem (by omega)⟩
      obtain ⟨c, hc, w, rfl, rw1⟩ := ac.get hee
      obtain ⟨bo, o, e2, hf, ha⟩ := rc1.fld (i := j) hc .i64
      have ht : es.take (j + 1) = es.take j ++ [e] := by rw [List.take_add_one, hee]; rfl
      have hw := wants_snoc (es.take j) e
      rw [← ht] at hw
      refine bnd_of e2 (bnd_of rfl (bnd_of (hf 4 (i64 e.answered) rfl) (bnd_of (binV_geq _ _ _) ?_)))
      rw [ifV_dec]
      split
      · rename_i hge2
        refine bnd_of (binV_add _ _ _) (bnd_of (binV_add _ _ _) ?_)
        rw [wrap_id (by omega) (by omega), wrap_id (by omega) (by omega)]
        have := again2 (j + 1) h3 ⟨by omega, rfl⟩ (by omega)
        rw [hw, if_pos hge2] at this
        exact this
      · rename_i hge2
        refine bnd_of (binV_add _ _ _) ?_
        rw [wrap_id (by omega) (by omega)]
        have := again2 (j + 1) h3 ⟨by omega, rfl⟩ (by omega)
        rw [hw, if_neg hge2, Int.add_zero] at this
        exact this
    · rename_i hge2
      have hall2 : es.take j = es := List.take_of_length_le (by omega)
      rw [hall2]
      refine bnd_of (eqI_int _ _ _) ?_
      rw [decide_eq_true rfl, ifV_true]
      obtain ⟨ets, rt, at_⟩ := hp
      have hlt2 := rt.len
      rw [at_.1] at hlt2
      refine bnd_of hln (bnd_of rfl (bnd_of (v := v) (by rw [ldV_cell (l1 _ _ e0)]; rfl) (bnd_of hlt2 (bnd_of (eqI_int _ _ _) ?_))))
      rw [decide_eq_true rfl]
end Go.Proofs.Ytkcgphbgbibhfaa
