/- Several texts in one; nothing here is a statement on the program. -/
import Derived.Test.YtfphpafkhljncaaGreatQB8
namespace Go.Proofs.YtfphpafkhljncaaGreat
open Go GW Go.Proofs
attribute [local irreducible] bnd ldV stV ifV binV eqI
set_option linter.unusedVariables false
set_option linter.unusedSimpArgs false
set_option maxRecDepth 20000
theorem Mc.sim.events {M N : Mc} (s : M.sim N) : M.events.map Event.nrm = N.events.map Event.nrm := by
  have key : ∀ xs ys : List Th, xs.map Th.nrm = ys.map Th.nrm → (xs.flatMap Th.evs).map Event.nrm = (ys.flatMap Th.evs).map Event.nrm := by
    intro xs
    induction xs with
    | nil =>
      intro ys h
      cases ys with
      | nil => rfl
      | cons y ys => cases h
    | cons x xs ih =>
      intro ys h
      cases ys with
      | nil => cases h
      | cons y ys =>
        simp only [List.map_cons, List.cons.injEq] at h
        have e : x.evs.map Event.nrm = y.evs.map Event.nrm := congrArg Th.evs h.1
        simp only [List.flatMap_cons, List.map_append, ih ys h.2, e]
  exact key _ _ s.ths
theorem Mc.sim.done {M N : Mc} (s : M.sim N) : M.done = N.done := by
  have key : ∀ xs ys : List Th, xs.map Th.nrm = ys.map Th.nrm → xs.all Th.done = ys.all Th.done := by
    intro xs
    induction xs with
    | nil =>
      intro ys h
      cases ys with
      | nil => rfl
      | cons y ys => cases h
    | cons x xs ih =>
      intro ys h
      cases ys with
      | nil => cases h
      | cons y ys =>
        simp only [List.map_cons, List.cons.injEq] at h
        have e : x.done = y.done := by rw [← Th.done_nrm (x := x), h.1, Th.done_nrm]
        simp only [List.all_cons, ih ys h.2, e]
  exact key _ _ s.ths
theorem sg_eq {a b : Int} (h : sg a = sg b) : decide (0 ≤ a) = decide (0 ≤ b) := by
  exact decide_eq_decide.2 (by rw [← sg_pos a, h, sg_pos b])
theorem Mc.run_snoc {M : Mc} {ks : List Int} {k : Int} : M.run (ks ++ [k]) = ((M.run ks).pick k).1 := by
  unfold Mc.run
  rw [List.foldl_append]; rfl
theorem Mc.run_ok {ks : List Int} : ∀ {M : Mc}, M.ok → (M.run ks).ok := by
  induction ks with
  | nil => intro M h; exact h
  | cons k ks ih => intro M h; exact ih (Mc.pick_ok h)
section
variable {a b d : Nat} {R : List Part} {h g : GH} {K : Value → GH → Prop} {v pv : Value} {p : Plan} {picks : List Int} {M N : Mc}
theorem T_TrimSame (hp : All [baseP g] h) (ht : threadsAt g v p.threads) (rp : rowsAt g 1 pv (picks.map encI)) (hK : ∀ h', K (.bool true) h') : T Tryz.prog 21 [.agg (planC v p).toArray, pv] h K := by
  apply S21_T
  unfold S21
  refine nw hp (.row 67 (planC v p) 3 true) rfl fun d h1 hp => ?_
  refine T_rawake hp fun h2 hp => ?_
  refine wk ?_
  have j4 : ∀ (M N : Mc) s1 s11 e1 e2 us ws (R : List Part) h' k1 k2, M.sim N → us.length = M.events.length → ws.length = N.events.length → All R h' → (∀ h', All R h' → evR e1 us M.events h') → (∀ h', All R h' → evR e2 ws N.events h') → S21_j4 s1 s11 e1 e2 h' K k1 k2 := by
    intro M N s1 s11 e1 e2 us ws R h' k1 k2 s hu hw hp r1 r2
    unfold S21_j4
    have se := s.events
    have hl : M.events.length = N.events.length := by have := congrArg List.length se; simpa using this
    have l1 : lnV e1 = some (i64 M.events.length) := by have := (r1 _ hp).1.len; rw [evCs_len hu] at this; exact this
    have hm : M.events.length ≤ 9223372036854775807 := by have := (r1 _ hp).1.max; rw [evCs_len hu] at this; exact this
    refine Lfp_fam (ι := Nat) (fun i => [e1, e2, i64 i]) (fun i h'' => i ≤ M.events.length ∧ h'' = h') (fun i => M.events.length - i) ?_ 0 h' ⟨by omega, rfl⟩
    rintro i h3 X ⟨hi, rfl⟩ again
    simp only [tup_zero, tup_succ]
    refine bnd_of l1 ?_
    refine wk ?_
    refine ifV_cases (fun c => ?_) fun c => hK _
    obtain ⟨e, he⟩ : ∃ e, M.events[i]? = some e := ⟨_, List.getElem?_eq_getElem (by omega)⟩
    obtain ⟨f, hf⟩ : ∃ f, N.events[i]? = some f := ⟨_, List.getElem?_eq_getElem (by omega)⟩
    obtain ⟨u, hu'⟩ : ∃ u, us[i]? = some u := ⟨_, List.getElem?_eq_getElem (by omega)⟩
    obtain ⟨w, hw'⟩ : ∃ w, ws[i]? = some w := ⟨_, List.getElem?_eq_getElem (by omega)⟩
    have en : e.nrm = f.nrm := by
      have h1 : (M.events.map Event.nrm)[i]? = some e.nrm := by rw [List.getElem?_map, he]; rfl
      rw [se, List.getElem?_map, hf] at h1
      exact (Option.some.inj h1).symm
    have n1 : sg e.decided = sg f.decided := congrArg Event.decided en
    have n2 : sg e.answered = sg f.answered := congrArg Event.answered en
    have n3 : e.end_ = f.end_ := by have := congrArg Event.end_ en; exact this
    have n4 : e.attempts = f.attempts := by have := congrArg Event.attempts en; exact this
    have n5 : e.answers = f.answers := by have := congrArg Event.answers en; exact this
    obtain ⟨b1, o1, p1, q1, _⟩ := (r1 _ hp).1.fld (evCs_get he hu') .i64
    obtain ⟨b2, o2, p2, q2, _⟩ := (r2 _ hp).1.fld (evCs_get hf hw') .i64
    refine bnd_of p1 (bnd_of rfl (bnd_of (q1 4 _ rfl) ?_))
    refine wk ?_
    refine bnd_of p2 (bnd_of rfl (bnd_of (q2 4 _ rfl) ?_))
    refine wk ?_
    rw [sg_eq n2, beq_self_eq_true]
    refine wk ?_
    refine bnd_of p1 (bnd_of rfl (bnd_of (q1 3 _ rfl) ?_))
    refine wk ?_
    refine bnd_of p2 (bnd_of rfl (bnd_of (q2 3 _ rfl) ?_))
    refine wk ?_
    rw [sg_eq n1, beq_self_eq_true]
    refine wk ?_
    refine bnd_of p1 (bnd_of rfl (bnd_of (q1 6 _ rfl) ?_))
    refine bnd_of p2 (bnd_of rfl (bnd_of (q2 6 _ rfl) ?_))
    refine wk ?_
    rw [n4, decide_eq_true rfl]
    refine wk ?_
    refine bnd_of p1 (bnd_of rfl (bnd_of (q1 5 _ rfl) ?_))
    refine bnd_of p2 (bnd_of rfl (bnd_of (q2 5 _ rfl) ?_))
    refine wk ?_
    rw [n3, decide_eq_true rfl]
    refine wk ?_
    refine bnd_of p1 (bnd_of rfl (bnd_of (q1 7 _ rfl) ?_))
    refine bnd_of p2 (bnd_of rfl (bnd_of (q2 7 _ rfl) ?_))
    refine T_SameAnswers ((r1 _ hp).2 i e u he hu') ((r2 _ hp).2 i f w hf hw') ?_
    rw [decide_eq_true n5]
    refine wk ?_
    exact again (i + 1) _ ⟨by omega, rfl⟩ (by omega)
  have j1 : ∀ (qv : Value) (ks : List Int), ks.length ≤ 400 → rowsAt g 1 qv (ks.map encI) → S21_j1 qv (ptr d) h2 K := by
    intro qv ks hk rq
    have hpl : lnV qv = some (i64 ks.length) := by have := rq.len; rw [List.length_map] at this; exact this
    unfold S21_j1
    refine la0 hp (c := planC v p) (Nat.le_refl 3) rfl ?_
    refine T_Trim hp (fun h' hp => All.baseLe hp.tail) ht (fun h' hp => rq.le (All.baseLe hp.tail)) fun v4 h3 hp => ?_
    refine wk ?_
    refine la1 hp (c := planC v p) (Nat.le_refl 3) rfl ?_
    refine T_mNew hp (fun h' hp => All.baseLe hp.tail.tail) ht (fun hm h4 hp => ?_) fun hm b1 h4 hp => ?_
    · refine wk ?_
      refine la1 hp (c := planC v p) (Nat.le_refl 3) rfl ?_
      refine T_mNew hp (fun h' hp => All.baseLe hp.tail.tail) ht (fun _ h5 hp => ?_) fun hm2 => by rw [hm] at hm2; cases hm2
      refine wk ?_
      refine T_Num ?_
      have e0 : trimE p ks = 2400 := by unfold trimE; rw [if_neg (by rw [hm]; simp)]
      have e1 : trimA p ks = [] := by unfold trimA; rw [if_neg (by rw [hm]; simp)]
      rw [e1] at hp
      rw [e0]
      refine wk ?_
      unfold S21_j2
      refine wk ?_
      have l4 : lnV v4 = some (i64 0) := by have := All.len hp; exact this
      refine bnd_of l4 ?_
      refine wk ?_
      refine T_Num ?_
      refine wk ?_
      exact hK _
    refine wk ?_
    refine la2 hp (c := planC v p) (Nat.le_refl 3) rfl ?_
    refine T_mNew hp (fun h' hp => All.baseLe hp.tail.tail.tail) ht (fun hm2 => by rw [hm] at hm2; cases hm2) fun _ b2 h5 hp => ?_
    refine wk ?_
    have e0 : trimE p ks = 0 := by unfold trimE; rw [if_pos ⟨hm, by omega⟩]
    have e1 : trimA p ks = (trims (Mc.new p) ks).1 := by unfold trimA; rw [if_pos ⟨hm, by omega⟩]
    rw [e0]
    rw [e1] at hp
    refine T_Num ?_
    refine wk ?_
    refine T_Num ?_
    refine wk ?_
    refine T_Num ?_
    refine wk ?_
    unfold S21_j2
    refine wk ?_
    have o0 := Mc.new_ok hm
    have tr := trims_run (ks := ks) (M := Mc.new p)
    have sim := trims_sim (ks := ks) (Mc.sim.refl (Mc.new p)) o0 o0 Mc.new_una (by show 0 + (ks.length : Int) ≤ 65536; omega) (by show 0 + (ks.length : Int) ≤ 65536; omega)
    have sh := trims_short (ks := ks) (M := Mc.new p)
    generalize (trims (Mc.new p) ks).2 = N at tr sim
    generalize (trims (Mc.new p) ks).1 = qs at hp tr sh
    have l4 : lnV v4 = some (i64 qs.length) := by have := All.len (hn (hp.up 2)); rw [List.length_map] at this; exact this
    unfold S21_j3
    refine Lfp_fam (ι := Nat) (fun i => [qv, v4, ptr b1, ptr b2, i64 i]) (fun i h' => i ≤ ks.length ∧ All (mcP b1 ((Mc.new p).run (ks.take i)) :: mcP b2 (Mc.new p) :: rowP 1 v4 (qs.map encI) :: [baseP g]) h') (fun i => ks.length - i) ?_ 0 h5 ⟨by omega, hn (hp.re 5 [1, 0, 2, 4])⟩
    clear hp
    rintro i h6 X ⟨hi, hp⟩ again
    simp only [tup_zero, tup_succ]
    have oM : ((Mc.new p).run (ks.take i)).ok := Mc.run_ok o0
    refine bnd_of hpl ?_
    refine wk ?_
    refine ifV_cases (fun c => ?_) fun c => ?_
    · obtain ⟨x, hx⟩ : ∃ x, ks[i]? = some x := ⟨_, List.getElem?_eq_getElem (by omega)⟩
      obtain ⟨q, d1, d2⟩ := (rq.le (All.baseLe hp.tail.tail.tail)).get1 (i := i) (x := i64 x) (by rw [List.getElem?_map, hx]; rfl) .i64
      refine bnd_of d1 (bnd_of d2 ?_)
      refine T_mPick hp oM fun h7 hp => ?_
      refine wk ?_
      refine again (i + 1) _ ⟨by omega, ?_⟩ (by omega)
      have e1 : ks.take (i + 1) = ks.take i ++ [x] := by rw [List.take_add_one, hx]; rfl
      rw [e1, Mc.run_snoc]
      exact hp
    have hik : i = ks.length := by omega
    subst hik
    clear again
    rw [List.take_length] at hp oM
    refine Lfp_fam (ι := Nat) (fun j => [v4, ptr b1, ptr b2, i64 j]) (fun j h' => j ≤ qs.length ∧ All (mcP b1 ((Mc.new p).run ks) :: mcP b2 ((Mc.new p).run (qs.take j)) :: rowP 1 v4 (qs.map encI) :: [baseP g]) h') (fun j => qs.length - j) ?_ 0 h6 ⟨by omega, hp⟩
    clear hp
    rintro j h7 Y ⟨hj, hp⟩ again
    simp only [tup_zero, tup_succ]
    have oN : ((Mc.new p).run (qs.take j)).ok := Mc.run_ok o0
    refine bnd_of l4 ?_
    refine wk ?_
    refine ifV_cases (fun c => ?_) fun c => ?_
    · obtain ⟨x, hx⟩ : ∃ x, qs[j]? = some x := ⟨_, List.getElem?_eq_getElem (by omega)⟩
      obtain ⟨q, d1, d2⟩ := (All.rows (hn (hp.up 2))).get1 (i := j) (x := i64 x) (by rw [List.getElem?_map, hx]; rfl) .i64
      refine bnd_of d1 (bnd_of d2 ?_)
      refine T_mPick (hn (hp.up 1)) oN fun h7 hp => ?_
      refine wk ?_
      refine again (j + 1) _ ⟨by omega, ?_⟩ (by omega)
      have e1 : qs.take (j + 1) = qs.take j ++ [x] := by rw [List.take_add_one, hx]; rfl
      rw [e1, Mc.run_snoc]
      exact hn (hp.re 2 [1, 0])
    have hjk : j = qs.length := by omega
    subst hjk
    clear again
    rw [List.take_length, tr] at hp oN
    generalize (Mc.new p).run ks = M at hp oM sim
    have sl : M.events.length = N.events.length := by have := congrArg List.length sim.events; simpa using this
    refine T_mEvents hp oM fun e1 h8 hp => ?_
    refine T_mEvents (hn (hp.up 2)) oN fun e2 h9 hp => ?_
    have n1 : lnV e1 = some (i64 M.events.length) := evP_len (evoP_evs (hn (hp.up 2)))
    have n2 : lnV e2 = some (i64 N.events.length) := evP_len (evoP_evs hp)
    refine bnd_of n1 (bnd_of n2 ?_)
    refine wk ?_
    rw [sl, decide_eq_true rfl]
    refine wk ?_
    refine T_mWords (hn (hp.up 3)) fun w1 h10 hp => ?_
    refine T_mWords (hn (hp.up 3)) fun w2 h11 hp => ?_
    refine T_SameInts (All.rows (hn (hp.up 2))) (All.rows hp) ?_
    rw [decide_eq_true (by rw [sim.A])]
    refine wk ?_
    replace hp := hn (hp.re 6 [1, 3, 4, 5])
    refine T_mTouches (hn (hp.up 1)) oM fun w1 h12 hp => ?_
    refine T_mTouches (hn (hp.up 2)) oN fun w2 h13 hp => ?_
    refine T_SameTouchs (All.rows (hn (hp.up 2))) (All.rows hp) ?_
    rw [decide_eq_true sim.ts]
    refine wk ?_
    replace hp := hn (hp.re 6 [1, 3, 4, 5])
    refine T_mDone (hn (hp.up 1)) oM ?_
    refine T_mDone hp oN ?_
    rw [sim.done]
    refine wk ?_
    rw [beq_self_eq_true]
    refine wk ?_
    refine evoP_open (hn (hp.up 3)) fun us hu hp => ?_
    refine evoP_open (hn (hp.up 4)) fun ws hw hp => ?_
    exact j4 M N _ _ e1 e2 us ws _ _ _ _ sim hu hw hp (fun h' hp => evR_of (hn (hp.re 4 [2, 3]))) (fun h' hp => evR_of hp)
  have hpl : lnV pv = some (i64 picks.length) := by have := rp.len; rw [List.length_map] at this; exact this
  refine bnd_of hpl ?_
  refine wk ?_
  refine ifV_cases (fun c => ?_) fun c => ?_
  · obtain ⟨v', e, r⟩ := rp.take (k := 400) (by rw [List.length_map]; omega) .i64
    refine bnd_of e ?_
    rw [← List.map_take] at r
    exact j1 _ _ (by rw [List.length_take]; omega) r
  · exact j1 _ _ (by omega) rp
end
end Go.Proofs.YtfphpafkhljncaaGreat
