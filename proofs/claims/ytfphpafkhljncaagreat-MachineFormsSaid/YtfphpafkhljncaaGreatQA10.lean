/- Several texts in one; nothing here is a statement on the program. -/
import Derived.Test.YtfphpafkhljncaaGreatQA9
namespace Go.Proofs.YtfphpafkhljncaaGreat
open Go GW Go.Proofs
attribute [local irreducible] bnd ldV stV ifV binV eqI
set_option linter.unusedVariables false
set_option linter.unusedSimpArgs false
set_option maxRecDepth 20000
theorem Event.ext8 {a b : Event} : a = b ↔ a.thread = b.thread ∧ a.index = b.index ∧ a.begun = b.begun ∧ a.decided = b.decided ∧ a.answered = b.answered ∧ a.end_ = b.end_ ∧ a.attempts = b.attempts ∧ a.answers = b.answers := by
  cases a; cases b; simp
instance : DecidableEq Event := fun a b => decidable_of_iff _ Event.ext8.symm
section
variable {a b : Nat} {R : List Part} {h g : GH} {K : Value → GH → Prop} {v w : Value} {es fs : List Event} {us ws : List Value}
/-- rows of events that are read -/
def evR (v : Value) (us : List Value) (es : List Event) (h : GH) : Prop := rowsAt h 8 v (evCs es us) ∧ ansP us es h
theorem evR_of (hp : All (rowP 8 v (evCs es us) :: All (ansO us es) :: R) h) : evR v us es h :=
  ⟨All.rows hp, ansO_le ((hn (hp.up 1)).mono1 (P := All (ansO us es)) fun _ _ l p => All.le l p)⟩
theorem T_SameEvent {e f : Event} {x y : Value} {ad1 ad2 : Option Addr} {n1 n2 c1 c2 : Nat} (ex : x = .slice ad1 n1 c1) (ey : y = .slice ad2 n2 c2) (hp : All R h) (h1 : ∀ h', All R h' → rowsAt h' 2 x (e.answers.map Answer.enc)) (h2 : ∀ h', All R h' → rowsAt h' 2 y (f.answers.map Answer.enc)) (hK : ∀ h', All R h' → K (.bool (decide (e = f))) h') :
    T Tryz.prog 68 [.agg (e.cells x).toArray, .agg (f.cells y).toArray] h K := by
  apply S68_T
  unfold S68
  subst ex ey
  refine nw hp (.row 56 (e.cells (.slice ad1 n1 c1)) 8 true) rfl fun d1 h3 hp => ?_
  refine nw hp (.row 56 (f.cells (.slice ad2 n2 c2)) 8 true) rfl fun d2 h4 hp => ?_
  have no : ∀ {c : Prop} [Decidable c], ¬ c → (e = f → c) → K (.bool false) h4 := by
    intro c _ hc hi
    have := hK _ hp.tail.tail
    rw [decide_eq_false (fun q => hc (hi q))] at this; exact this
  unfold Event.cells at hp
  refine wk ?_
  refine ifV_cases (fun q1 => ?_) fun q1 => no q1 fun q => by rw [q]
  refine wk ?_
  refine ifV_cases (fun q2 => ?_) fun q2 => no q2 fun q => by rw [q]
  refine wk ?_
  refine ifV_cases (fun q3 => ?_) fun q3 => no q3 fun q => by rw [q]
  refine wk ?_
  refine ifV_cases (fun q4 => ?_) fun q4 => no q4 fun q => by rw [q]
  refine wk ?_
  refine ifV_cases (fun q5 => ?_) fun q5 => no q5 fun q => by rw [q]
  refine wk ?_
  refine ifV_cases (fun q6 => ?_) fun q6 => no q6 fun q => by rw [q]
  refine wk ?_
  refine ifV_cases (fun q7 => ?_) fun q7 => no q7 fun q => by rw [q]
  refine wk ?_
  refine T_SameAnswers (h1 _ hp.tail.tail) (h2 _ hp.tail.tail) ?_
  have e1 : decide (e.answers = f.answers) = decide (e = f) := decide_eq_decide.2 (by
    rw [Event.ext8]
    exact ⟨fun q => ⟨q1, q2, q3, q4, q5, q6, q7, q⟩, fun q => q.2.2.2.2.2.2.2⟩)
  rw [e1]
  exact hK _ hp.tail.tail
theorem T_SameEvents (hp : All R h) (h1 : ∀ h', All R h' → evR v us es h') (h2 : ∀ h', All R h' → evR w ws fs h') (l1 : us.length = es.length) (l2 : ws.length = fs.length) (hK : ∀ h', All R h' → K (.bool (decide (es = fs))) h') :
    T Tryz.prog 62 [v, w] h K := by
  apply S62_T
  unfold S62
  have hv : lnV v = some (i64 es.length) := by have := (h1 _ hp).1.len; rw [evCs_len l1] at this; exact this
  have hw : lnV w = some (i64 fs.length) := by have := (h2 _ hp).1.len; rw [evCs_len l2] at this; exact this
  have hm : es.length ≤ 9223372036854775807 := by have := (h1 _ hp).1.max; rw [evCs_len l1] at this; exact this
  refine bnd_of hv ?_
  refine bnd_of hw ?_
  refine wk ?_
  refine ifN_cases (fun c => ?_) fun c => ?_
  · have := hK _ hp
    rw [decide_eq_false (fun q => c (by rw [q]))] at this
    exact this
  have hlen : es.length = fs.length := by omega
  refine Lfp_fam (ι := Nat) (fun i => [v, w, i64 i]) (fun i h' => i ≤ es.length ∧ All R h' ∧ es.take i = fs.take i) (fun i => es.length - i) ?_ 0 h ⟨by omega, hp, by simp⟩
  clear hp
  rintro i h3 X ⟨hi, hp, hs⟩ again
  simp only [tup_zero, tup_succ]
  refine bnd_of hv ?_
  refine wk ?_
  refine ifV_cases (fun c => ?_) fun c => ?_
  · obtain ⟨e, he⟩ : ∃ e, es[i]? = some e := ⟨_, List.getElem?_eq_getElem (by omega)⟩
    obtain ⟨f, hf⟩ : ∃ f, fs[i]? = some f := ⟨_, List.getElem?_eq_getElem (by omega)⟩
    obtain ⟨u, hu⟩ : ∃ u, us[i]? = some u := ⟨_, List.getElem?_eq_getElem (by omega)⟩
    obtain ⟨x, hx⟩ : ∃ x, ws[i]? = some x := ⟨_, List.getElem?_eq_getElem (by omega)⟩
    obtain ⟨p, d1, d2⟩ := (h1 _ hp).1.get (evCs_get he hu) .i64
    obtain ⟨q, d3, d4⟩ := (h2 _ hp).1.get (evCs_get hf hx) .i64
    refine bnd_of d1 (bnd_of d2 (bnd_of d3 (bnd_of d4 ?_)))
    obtain ⟨a1, n1, c1, e1, _⟩ := (h1 _ hp).2 i e u he hu
    obtain ⟨a2, n2, c2, e2, _⟩ := (h2 _ hp).2 i f x hf hx
    refine T_SameEvent e1 e2 hp (fun h' hp => (h1 _ hp).2 i e u he hu) (fun h' hp => (h2 _ hp).2 i f x hf hx) fun h4 hp => ?_
    by_cases q : e = f
    · rw [decide_eq_true q]
      refine wk ?_
      refine again (i + 1) _ ⟨by omega, hp, ?_⟩ (by omega)
      rw [List.take_add_one, List.take_add_one, hs, he, hf, q]
    · rw [decide_eq_false q]
      refine wk ?_
      have := hK _ hp
      rw [decide_eq_false (fun z => q (by rw [z, hf] at he; cases he; rfl))] at this
      exact this
  · have hie : i = es.length := by omega
    subst hie
    have e3 : fs.take es.length = fs := by rw [hlen, List.take_length]
    rw [List.take_length, e3] at hs
    have := hK _ hp
    rw [decide_eq_true hs] at this
    exact this
theorem T_SpoilTouchs {ts : List Touch} (hp : All (rowP 8 v (ts.map Touch.enc) :: R) h) (hK : ∀ h', All R h' → K (.tuple #[]) h') : T Tryz.prog 67 [v] h K := by
  apply S67_T
  unfold S67
  refine Lfp_fam (ι := Nat × List Touch) (fun p => [v, i64 p.1]) (fun p h' => p.1 ≤ ts.length ∧ p.2.length = ts.length ∧ All (rowP 8 v (p.2.map Touch.enc) :: R) h') (fun p => ts.length - p.1) ?_ (0, ts) h ⟨by omega, rfl, hp⟩
  rintro ⟨i, xs⟩ h2 X ⟨hi, hl, hp⟩ again
  simp only at hi hl hp
  simp only [tup_zero, tup_succ]
  have hmx := (All.rows hp).max
  rw [List.length_map] at hmx
  have hln := All.len hp
  rw [List.length_map] at hln
  refine bnd_of hln ?_
  refine wk ?_
  refine ifV_cases (fun q => ?_) fun q => hK _ hp.tail
  obtain ⟨o, ho⟩ : ∃ o, xs[i]? = some o := ⟨_, List.getElem?_eq_getElem (by omega)⟩
  have hoe : (xs.map Touch.enc)[i]? = some o.enc := by rw [List.getElem?_map, ho]; rfl
  obtain ⟨bb, i1, i2, i3, i4⟩ := hp.elt hoe .i64
  obtain ⟨y, hy⟩ := binV_xor o.at_ 90
  obtain ⟨h3, e3, hp3⟩ := i4 2 1 (i64 y) rfl (by decide) rfl
  refine bnd_of i1 (bnd_of rfl (bnd_of (i2 2 1 _ rfl) (bnd_of hy (bnd_of i1 (bnd_of rfl (bnd_of e3 ?_))))))
  refine wk ?_
  refine again (i + 1, xs.set i { o with at_ := y }) _ ⟨by simp only; omega, by simp only [List.length_set]; omega, ?_⟩ (by simp only; omega)
  simp only
  rw [List.map_set]
  exact hp3
theorem T_SpoilInts {xs0 : List Int} (hp : All (rowP 1 v (xs0.map encI) :: R) h) (hK : ∀ h', All R h' → K (.tuple #[]) h') : T Tryz.prog 44 [v] h K := by
  apply S44_T
  unfold S44
  refine Lfp_fam (ι := Nat × List Int) (fun p => [v, i64 p.1]) (fun p h' => p.1 ≤ xs0.length ∧ p.2.length = xs0.length ∧ All (rowP 1 v (p.2.map encI) :: R) h') (fun p => xs0.length - p.1) ?_ (0, xs0) h ⟨by omega, rfl, hp⟩
  rintro ⟨i, xs⟩ h2 X ⟨hi, hl, hp⟩ again
  simp only at hi hl hp
  simp only [tup_zero, tup_succ]
  have hmx := (All.rows hp).max
  rw [List.length_map] at hmx
  have hln := All.len hp
  rw [List.length_map] at hln
  refine bnd_of hln ?_
  refine wk ?_
  refine ifV_cases (fun q => ?_) fun q => hK _ hp.tail
  obtain ⟨o, ho⟩ : ∃ o, xs[i]? = some o := ⟨_, List.getElem?_eq_getElem (by omega)⟩
  have hoe : (xs.map encI)[i]? = some [i64 o] := by rw [List.getElem?_map, ho]; rfl
  obtain ⟨bb, i1, i2, i3, i4⟩ := hp.elt hoe .i64
  obtain ⟨h3, e3, hp3⟩ := i4 0 1 (i64 (IntKind.i64.wrap (-9 - o))) rfl (by decide) rfl
  refine bnd_of i1 (bnd_of (i2 0 1 _ rfl) (bnd_of (binV_sub _ _ _) (bnd_of i1 (bnd_of e3 ?_))))
  refine wk ?_
  refine again (i + 1, xs.set i (IntKind.i64.wrap (-9 - o))) _ ⟨by simp only; omega, by simp only [List.length_set]; omega, ?_⟩ (by simp only; omega)
  simp only
  rw [List.map_set]
  exact hp3
theorem T_SpoilEvents (hp : All (evoP v es :: R) h) (hK : ∀ h', All R h' → K (.tuple #[]) h') : T Tryz.prog 64 [v] h K := by
  apply S64_T
  unfold S64
  refine evoP_open hp fun us hl hp => ?_
  -- answers that are still to be spoiled are whole
  have split : ∀ {i : Nat} {e : Event} {u : Value} {R' : List Part} {h'}, es[i]? = some e → us[i]? = some u → All (All (ansO (us.drop i) (es.drop i)) :: R') h' → All (rowP 2 u (e.answers.map Answer.enc) :: All (ansO (us.drop (i + 1)) (es.drop (i + 1))) :: R') h' := by
    intro i e u R' h' he hu hp
    have h1 := (List.getElem?_eq_some_iff.1 he).1
    have h2 := (List.getElem?_eq_some_iff.1 hu).1
    have e1 : us.drop i = u :: us.drop (i + 1) := by
      rw [List.drop_eq_getElem_cons h2]; rw [List.getElem?_eq_getElem h2] at hu; cases hu; rfl
    have e2 : es.drop i = e :: es.drop (i + 1) := by
      rw [List.drop_eq_getElem_cons h1]; rw [List.getElem?_eq_getElem h1] at he; cases he; rfl
    rw [e1, e2] at hp
    have hp : All (All (rowP 2 u (e.answers.map Answer.enc) :: ansO (us.drop (i + 1)) (es.drop (i + 1))) :: R') h' := hp
    have := All.flat (l := [rowP 2 u (e.answers.map Answer.enc), All (ansO (us.drop (i + 1)) (es.drop (i + 1)))]) (hp.head fun _ z => Sep.mono (fun _ z => z) (fun _ z => All.one z) z)
    exact this
  refine Lfp_fam (ι := Nat × List Event) (fun p => [v, i64 p.1]) (fun p h' => p.1 ≤ es.length ∧ p.2.length = es.length ∧ All (rowP 8 v (evCs p.2 us) :: All (ansO (us.drop p.1) (es.drop p.1)) :: R) h') (fun p => es.length - p.1) ?_ (0, es) h ⟨by omega, rfl, hp⟩
  clear hp
  rintro ⟨i, xs⟩ h2 X ⟨hi, hx, hp⟩ again
  simp only at hi hx hp
  simp only [tup_zero, tup_succ]
  have hl2 : us.length = xs.length := by omega
  have hmx := (All.rows hp).max
  rw [evCs_len hl2] at hmx
  have hln := All.len hp
  rw [evCs_len hl2] at hln
  refine bnd_of hln ?_
  refine wk ?_
  refine ifV_cases (fun q => ?_) fun q => hK _ hp.tail.tail
  obtain ⟨o, ho⟩ : ∃ o, xs[i]? = some o := ⟨_, List.getElem?_eq_getElem (by omega)⟩
  obtain ⟨e, he⟩ : ∃ e, es[i]? = some e := ⟨_, List.getElem?_eq_getElem (by omega)⟩
  obtain ⟨u, hu⟩ : ∃ u, us[i]? = some u := ⟨_, List.getElem?_eq_getElem (by omega)⟩
  obtain ⟨bb, i1, i2, i3, i4⟩ := hp.elt (evCs_get ho hu) .i64
  refine bnd_of i1 (bnd_of rfl (bnd_of (i2 7 1 u rfl) ?_))
  refine T_SpoilAnswers (split he hu (hn (hp.up 1))) fun h3 hp => ?_
  replace hp := hn (hp.up 1)
  obtain ⟨y, hy⟩ := binV_xor o.decided 90
  obtain ⟨bb2, j1, j2, _, j4⟩ := hp.elt (evCs_get ho hu) .i64
  rw [i1] at j1
  cases j1
  obtain ⟨h4, e3, hp3⟩ := j4 3 1 (i64 y) rfl (by decide) rfl
  refine bnd_of i1 (bnd_of rfl (bnd_of (j2 3 1 _ rfl) (bnd_of hy (bnd_of i1 (bnd_of rfl (bnd_of e3 ?_))))))
  refine wk ?_
  refine again (i + 1, xs.set i { o with decided := y }) _ ⟨by simp only; omega, by simp only [List.length_set]; omega, ?_⟩ (by simp only; omega)
  simp only
  have e5 := evCs_set hl2 (i := i) (e := { o with decided := y }) (w := u)
  rw [set_self hu] at e5
  rw [← e5]
  exact hp3
end
end Go.Proofs.YtfphpafkhljncaaGreat
namespace Go.Proofs.YtfphpafkhljncaaGreat
open Go GW Go.Proofs
attribute [local irreducible] bnd ldV stV ifV binV eqI
set_option linter.unusedVariables false
set_option linter.unusedSimpArgs false
set_option maxRecDepth 20000
section
variable {h g : GH} {K : Value → GH → Prop} {v pv : Value} {p : Plan} {picks : List Int}
theorem T_MachineTwins (hp : All [baseP g] h) (ht : threadsAt g v p.threads) (rp : rowsAt g 1 pv (picks.map encI)) (hK : ∀ h', K (.bool true) h') : T Tryz.prog 13 [.agg (planC v p).toArray, pv] h K := by
  apply S13_T
  unfold S13
  have hpl : lnV pv = some (i64 picks.length) := by have := rp.len; rw [List.length_map] at this; exact this
  have hpm : picks.length ≤ 9223372036854775807 := by have := rp.max; rw [List.length_map] at this; exact this
  refine nw hp (.row 67 (planC v p) 3 true) rfl fun d h1 hp => ?_
  refine T_mawake hp fun h2 hp => ?_
  refine wk ?_
  refine la0 hp (c := planC v p) (Nat.le_refl 3) rfl ?_
  refine T_mNew hp (fun h' hp => All.baseLe hp.tail) ht (fun hm h3 hp => ?_) fun hm b1 h3 hp => ?_
  · refine wk ?_
    refine la0 hp (c := planC v p) (Nat.le_refl 3) rfl ?_
    refine T_mNew hp (fun h' hp => All.baseLe hp.tail) ht (fun hm h4 hp => ?_) fun hm2 => by rw [hm] at hm2; cases hm2
    refine wk ?_
    refine T_Num ?_
    refine wk ?_
    unfold S13_j1
    refine wk ?_
    exact hK _
  · refine wk ?_
    refine la1 hp (c := planC v p) (Nat.le_refl 3) rfl ?_
    refine T_mNew hp (fun h' hp => All.baseLe hp.tail.tail) ht (fun hm2 => by rw [hm] at hm2; cases hm2) fun hm2 b2 h4 hp => ?_
    refine wk ?_
    refine T_Num ?_
    refine wk ?_
    refine T_Num ?_
    refine wk ?_
    unfold S13_j1
    refine wk ?_
    unfold S13_j2
    refine Lfp_fam (ι := Nat × Mc) (fun q => [pv, ptr d, ptr b1, ptr b2, i64 q.1]) (fun q h' => q.1 ≤ picks.length ∧ q.1 ≤ 300 ∧ q.2.ok ∧ All (mcP b2 q.2 :: mcP b1 q.2 :: pts d (.row 67 (planC v p) 3 true) :: [baseP g]) h') (fun q => picks.length - q.1) ?_ (0, Mc.new p) h4 ⟨by omega, by omega, Mc.new_ok hm, hp⟩
    clear hp
    rintro ⟨i, M⟩ h5 X ⟨hi, hi3, o, hp⟩ again
    simp only at hi hi3 o hp
    simp only [tup_zero, tup_succ]
    have fin : ∀ s a, S13_j5 s (ptr b1) (ptr b2) h5 K a := by
      intro s a
      clear again
      unfold S13_j5
      refine T_mEvents (hn (hp.up 1)) o fun e1 h6 hp => ?_
      refine T_mEvents (hn (hp.up 2)) o fun e2 h7 hp => ?_
      refine evoP_open hp fun us hu hp => ?_
      refine evoP_open (hn (hp.up 3)) fun ws hw hp => ?_
      refine T_SameEvents hp (fun h' hp => evR_of hp) (fun h' hp => evR_of (hn (hp.re 4 [2, 3]))) hw hu fun h8 hp => ?_
      rw [decide_eq_true rfl]
      refine wk ?_
      replace hp := hn (hp.re 8 [4, 5, 6, 7])
      refine T_mTouches (hn (hp.up 1)) o fun t1 h9 hp => ?_
      refine T_mTouches (hn (hp.up 2)) o fun t2 h10 hp => ?_
      refine T_SameTouchs (All.rows (hn (hp.up 2))) (All.rows hp) ?_
      rw [decide_eq_true rfl]
      refine wk ?_
      replace hp := hn (hp.re 6 [1, 3, 4, 5])
      refine T_mWords (hn (hp.up 1)) fun t1 h11 hp => ?_
      refine T_mWords (hn (hp.up 2)) fun t2 h12 hp => ?_
      refine T_SameInts (All.rows (hn (hp.up 2))) (All.rows hp) ?_
      rw [decide_eq_true rfl]
      refine wk ?_
      replace hp := hn (hp.re 6 [1, 3, 4, 5])
      refine T_mDone (hn (hp.up 1)) o ?_
      refine T_mDone hp o ?_
      refine wk ?_
      rw [beq_self_eq_true]
      exact hK _
    refine bnd_of hpl ?_
    refine wk ?_
    refine ifV_cases (fun c => ?_) fun c => fin _ _
    refine wk ?_
    refine ifV_cases (fun c2 => ?_) fun c2 => fin _ _
    unfold S13_j3
    obtain ⟨x, hx⟩ : ∃ x, picks[i]? = some x := ⟨_, List.getElem?_eq_getElem (by omega)⟩
    have hb : ∀ {h'} {P1 P2 P3 : Part}, All (P1 :: P2 :: P3 :: [baseP g]) h' → HLe g h' := fun hp => All.baseLe hp.tail.tail.tail
    have get : ∀ {h'}, HLe g h' → ∃ q, isV 1 pv (i64 i) = some q ∧ ldV 1 false q h' = some (i64 x) := fun hl => (rp.le hl).get1 (by rw [List.getElem?_map, hx]; rfl) .i64
    obtain ⟨q1, d1, d2⟩ := get (hb hp)
    refine bnd_of d1 (bnd_of d2 ?_)
    refine T_mPick (hn (hp.up 1)) o fun h6 hp => ?_
    refine wk ?_
    obtain ⟨q2, d3, d4⟩ := get (hb hp)
    rw [d1] at d3
    cases d3
    refine bnd_of d1 (bnd_of d4 ?_)
    refine T_mPick (hn (hp.up 1)) o fun h7 hp => ?_
    have o2 := Mc.pick_ok (k := x) o
    generalize M.pick x = r at hp o2
    obtain ⟨M', is, e⟩ := r
    dsimp only at hp o2 ⊢
    refine wk ?_
    rw [beq_self_eq_true]
    refine wk ?_
    refine T_Num ?_
    refine T_Num ?_
    refine wk ?_
    rw [decide_eq_true rfl]
    refine wk ?_
    unfold S13_j4
    refine bnd_of (binV_and_mask i 6 (by decide) (by decide)) ?_
    refine wk ?_
    refine ifV_cases (fun c3 => ?_) fun c3 => ?_
    · refine T_mEvents hp o2 fun e2 h8 hp => ?_
      refine T_SpoilEvents hp fun h9 hp => ?_
      refine T_mTouches hp o2 fun x2 h10 hp => ?_
      refine T_SpoilTouchs hp fun h11 hp => ?_
      refine T_mWords hp fun w2 h12 hp => ?_
      refine T_SpoilInts hp fun h13 hp => ?_
      refine la2 hp (c := planC v p) (Nat.le_refl 3) rfl ?_
      refine T_mNew hp (fun h' hp => hb hp) ht (fun hm2 => by rw [hm] at hm2; cases hm2) fun _ b3 h14 hp => ?_
      refine wk ?_
      exact again (i + 1, M') _ ⟨by simp only; omega, by simp only; omega, o2, hp.tail⟩ (by simp only; omega)
    · refine wk ?_
      exact again (i + 1, M') _ ⟨by simp only; omega, by simp only; omega, o2, hp⟩ (by simp only; omega)
end
end Go.Proofs.YtfphpafkhljncaaGreat
namespace Go.Proofs.YtfphpafkhljncaaGreat
open Go GW Go.Proofs
attribute [local irreducible] bnd ldV stV ifV binV eqI
set_option linter.unusedVariables false
set_option linter.unusedSimpArgs false
set_option maxRecDepth 20000
def mformsP : Plan := ⟨[[[⟨9, 0, 0, 0⟩]]], 1, false⟩
theorem mformsP_may : mformsP.may = true := by decide
section
variable {h g : GH} {K : Value → GH → Prop} {v pv : Value} {picks : List Int} {which x : Int} {R : List Part}
theorem All2.rep {n : Nat} {h : GH} : All2 (thrC h) (List.replicate n [Value.slice none 0 0]) (List.replicate n ([] : List (List Op))) := by
  refine ⟨by simp, fun i u w hu hw => ?_⟩
  have h1 : u = [Value.slice none 0 0] := List.eq_of_mem_replicate (List.mem_of_getElem? hu)
  have h2 : w = [] := List.eq_of_mem_replicate (List.mem_of_getElem? hw)
  subst h1 h2
  exact thrC_nil
theorem u64_case (w : Int) (n : Nat) (hn : 0 < n) (hn2 : n < 100) : ∃ k : Nat, k < n ∧ ∃ a, cvV .u64 (i64 w) = some (.int .u64 a) ∧ binV .rem (.int .u64 a) (.int .u64 n) = some (.int .u64 k) := by
  have h0 : 0 ≤ IntKind.u64.wrap w := by unfold IntKind.wrap; simp [IntKind.bits, IntKind.signed]; exact Int.emod_nonneg _ (by decide)
  have h2 := Int.emod_nonneg (IntKind.u64.wrap w) (show (n : Int) ≠ 0 by omega)
  have h3 := Int.emod_lt_of_pos (IntKind.u64.wrap w) (show (0 : Int) < n by omega)
  refine ⟨(IntKind.u64.wrap w % n).toNat, by omega, IntKind.u64.wrap w, rfl, ?_⟩
  rw [binV_rem, if_neg (by omega), Int.tmod_eq_emod_of_nonneg h0]
  congr 2
  omega
theorem T_MachineForms (hp : All [baseP g] h) (rp : rowsAt g 1 pv (picks.map encI)) (hK : ∀ h', K (.bool true) h') : T Tryz.prog 12 [i64 which, i64 x, pv] h K := by
  apply S12_T
  unfold S12
  have hpl : lnV pv = some (i64 picks.length) := by have := rp.len; rw [List.length_map] at this; exact this
  have hpm : picks.length ≤ 9223372036854775807 := by have := rp.max; rw [List.length_map] at this; exact this
  refine T_mawake hp fun h2 hp => ?_
  refine wk ?_
  refine bnd_of (binV_and_mask x 10 (by decide) (by decide)) ?_
  have d0 : 0 ≤ x % ((2 ^ 10 : Nat) : Int) := Int.emod_nonneg _ (by decide)
  have d1 : x % ((2 ^ 10 : Nat) : Int) < 1024 := Int.emod_lt_of_pos _ (by decide)
  generalize x % ((2 ^ 10 : Nat) : Int) = y at d0 d1
  refine wk ?_
  obtain ⟨d, hd⟩ : ∃ d, 1 + y = d := ⟨_, rfl⟩
  rw [hd]
  have e0 : 1 ≤ d := by omega
  have e1 : d ≤ 1024 := by omega
  clear hd d0 d1
  refine bs0 (size := 4) hp ([Op.mk 9 0 0 0].map Op.enc) rfl rfl (by simp) (Op.all_good _) fun v2 h1 hp => ?_
  obtain ⟨a2, n2, c2, rfl⟩ := All.isSlice hp
  refine wk ?_
  refine bs0 (size := 1) hp [[.slice a2 n2 c2]] rfl rfl (by simp) (fun c hc => by rw [List.mem_singleton.1 hc]; exact ⟨rfl, rfl⟩) fun v5 h2 hp => ?_
  obtain ⟨a5, n5, c5, rfl⟩ := All.isSlice hp
  refine bs0 (size := 1) hp [[.slice a5 n5 c5]] rfl rfl (by simp) (fun c hc => by rw [List.mem_singleton.1 hc]; exact ⟨rfl, rfl⟩) fun v7 h3 hp => ?_
  obtain ⟨a7, n7, c7, rfl⟩ := All.isSlice hp
  refine wk ?_
  obtain ⟨g1, pg, hp⟩ := All.base (All.fold (l := [_, _, _]) hp)
  have ht : threadsAt g1 (.slice a7 n7 c7) mformsP.threads := by
    have r1 := All.rows pg
    have r2 := All.rows (hn (pg.up 1))
    have r3 := All.rows (hn (pg.up 2))
    exact ⟨_, r1, .cons (thrC_mk r2 (.cons (txnC_mk r3) .nil)) .nil⟩
  refine nwst hp (.row 67 (planC (.slice a7 n7 c7) mformsP) 3 true) rfl rfl rfl rfl fun dp h4 hp => ?_
  refine la0 hp (c := planC (.slice a7 n7 c7) mformsP) (Nat.le_refl 3) rfl ?_
  replace hp := hn (hp.re 3 [1, 2])
  refine T_mNew' hp ht mformsP_may fun b h5 hp => ?_
  refine wk ?_
  replace hp := hn (hp.re 3 [0, 2])
  -- the other plan
  refine bs0 (size := 1) hp [[.slice none 0 0]] rfl rfl (by simp) (fun c hc => by rw [List.mem_singleton.1 hc]; exact ⟨rfl, rfl⟩) fun v8 h6 hp => ?_
  obtain ⟨a8, n8, c8, rfl⟩ := All.isSlice hp
  refine wk ?_
  refine nwst hp (.row 67 [.slice a8 n8 c8, i64 1, .bool false] 3 true) rfl rfl rfl rfl fun qd h7 hp => ?_
  have o1 := Mc.new_ok mformsP_may
  have j1 : ∀ (u : Value) (q : Plan) (P : Part) h', q.may = false → (∀ g2, P g2 → threadsAt g2 u q.threads) → All (pts qd (.row 67 (planC u q) 3 true) :: P :: mcP b (Mc.new mformsP) :: [baseP g]) h' → S12_j1 pv (i64 d) (ptr b) (i64 0) (ptr qd) h' K := by
    intro u q P h' hq ht2 hp
    unfold S12_j1
    obtain ⟨g2, pg2, hp⟩ := All.base (hn (hp.up 1))
    refine la1 hp (c := planC u q) (Nat.le_refl 3) rfl ?_
    refine T_mNewBad (g := g2) hp (fun h' hp => All.baseLe hp) (ht2 g2 pg2) hq fun h8 hp => ?_
    refine wk ?_
    refine T_Num ?_
    refine wk ?_
    replace hp := hn (hp.re 4 [2, 3])
    unfold S12_j2
    refine Lfp_fam (ι := Nat × Mc) (fun q => [pv, i64 d, ptr b, .pointer none, i64 1900, i64 q.1]) (fun q h' => q.1 ≤ picks.length ∧ q.1 ≤ 10 ∧ q.2.ok ∧ q.2.ths.length = 1 ∧ All (mcP b q.2 :: [baseP g]) h') (fun q => picks.length - q.1) ?_ (0, Mc.new mformsP) h8 ⟨by omega, by omega, o1, rfl, hp⟩
    clear hp
    rintro ⟨i, M⟩ h9 X ⟨hi, hi2, o, hl, hp⟩ again
    simp only at hi hi2 o hl hp
    simp only [tup_zero, tup_succ]
    have fin : ∀ s a, S12_j3 s (i64 d) (ptr b) (.pointer none) (i64 1900) h9 K a := by
      intro s a
      clear again
      unfold S12_j3
      refine T_mWords hp fun ws h10 hp => ?_
      refine T_mTouches (hn (hp.up 1)) o fun ts h11 hp => ?_
      refine T_mEvents (hn (hp.up 1)) o fun es h12 hp => ?_
      have no : ∀ k : Int, k = d ∨ k = -d → M.pick k = (M, false, 1900) := fun k hk => Mc.pick_no (.inl (by rw [hl]; omega))
      refine T_mPick (hn (hp.up 1)) o fun h13 hp => ?_
      rw [no d (.inl rfl)] at hp ⊢
      refine wk ?_
      rw [show IntKind.i64.wrap (0 - d) = -d by rw [wrap_id (by omega) (by omega)]; omega]
      refine T_mPick hp o fun h14 hp => ?_
      rw [no (-d) (.inr rfl)] at hp ⊢
      refine wk ?_
      refine T_mPickNil ?_
      refine wk ?_
      refine T_Num ?_
      refine wk ?_
      refine T_Num ?_
      refine wk ?_
      refine T_Num ?_
      refine wk ?_
      refine T_Num ?_
      refine wk ?_
      refine T_mWordsNil ?_
      refine wk ?_
      refine T_mTouchesNil ?_
      refine wk ?_
      refine T_mEventsNil ?_
      refine wk ?_
      refine T_mWords hp fun ws2 h15 hp => ?_
      refine T_SameInts (All.rows hp) (All.rows (hn (hp.up 4))) ?_
      rw [decide_eq_true rfl]
      refine wk ?_
      refine T_mTouches (hn (hp.up 1)) o fun ts2 h16 hp => ?_
      refine T_SameTouchs (All.rows hp) (All.rows (hn (hp.up 4))) ?_
      rw [decide_eq_true rfl]
      refine wk ?_
      refine T_mEvents (hn (hp.up 1)) o fun es2 h17 hp => ?_
      replace hp := hn (hp.re 5 [0, 4])
      refine evoP_open hp fun us hu hp => ?_
      refine evoP_open (hn (hp.up 2)) fun xs hx hp => ?_
      refine T_SameEvents hp (fun h' hp => evR_of (hn (hp.re 4 [2, 3]))) (fun h' hp => evR_of hp) hu hx fun h8 hp => ?_
      rw [decide_eq_true rfl]
      exact hK _
    refine bnd_of hpl ?_
    refine wk ?_
    refine ifV_cases (fun c => ?_) fun c => fin _ _
    refine wk ?_
    refine ifV_cases (fun c2 => ?_) fun c2 => fin _ _
    refine T_mPick hp o fun h10 hp => ?_
    have hl2 : (M.pick 0).1.ths.length = 1 := by
      unfold Mc.pick
      split
      · exact hl
      · split
        · exact hl
        · show (if _ = true then decAll _ _ _ else _ : List Th).length = 1
          split
          · rw [decAll_len, List.length_set]; exact hl
          · rw [List.length_set]; exact hl
    refine wk ?_
    exact again (i + 1, (M.pick 0).1) _ ⟨by simp only; omega, by simp only; omega, Mc.pick_ok o, hl2, hp⟩ (by simp only; omega)
  have thr0 : ∀ g2, rowP 1 (.slice a8 n8 c8) [[.slice none 0 0]] g2 → threadsAt g2 (.slice a8 n8 c8) [[]] := fun g2 r => ⟨_, r.rows, .cons thrC_nil .nil⟩
  obtain ⟨k, hk, ua, hz1, hu1⟩ := u64_case which 5 (by decide) (by decide)
  refine bnd_of hz1 (bnd_of hu1 ?_)
  have cs : k = 0 ∨ k = 1 ∨ k = 2 ∨ k = 3 ∨ k = 4 := by omega
  rcases cs with rfl | rfl | rfl | rfl | rfl
  · refine bnd_of (eqI_int _ _ _) (ifV_p (by decide) ?_)
    refine wk ?_
    refine st0 hp (.row 67 (planC (.slice a8 n8 c8) ⟨[[]], 16 + d, false⟩) 3 true) rfl (by simp) rfl rfl fun h8 hp => ?_
    refine j1 _ ⟨[[]], 16 + d, false⟩ _ _ ?_ thr0 hp
    exact Plan.may_not fun q => by have := q.2.2.2; simp only at this; omega
  · refine bnd_of (eqI_int _ _ _) (ifV_n (by decide) ?_)
    refine bnd_of (eqI_int _ _ _) (ifV_p (by decide) ?_)
    refine wk ?_
    refine st0 hp (.row 67 (planC (.slice a8 n8 c8) ⟨[[]], 1 - d, false⟩) 3 true) rfl (by simp) rfl rfl fun h8 hp => ?_
    refine j1 _ ⟨[[]], 1 - d, false⟩ _ _ ?_ thr0 hp
    exact Plan.may_not fun q => by have := q.2.2.1; simp only at this; omega
  · refine bnd_of (eqI_int _ _ _) (ifV_n (by decide) ?_)
    refine bnd_of (eqI_int _ _ _) (ifV_n (by decide) ?_)
    refine bnd_of (eqI_int _ _ _) (ifV_p (by decide) ?_)
    refine wk ?_
    refine st0 hp (.row 67 (planC (.slice none 0 0) ⟨[], 1, false⟩) 3 true) rfl (by simp) rfl rfl fun h8 hp => ?_
    exact j1 _ ⟨[], 1, false⟩ _ _ rfl (fun g2 _ => threadsAt_nil) hp
  · refine bnd_of (eqI_int _ _ _) (ifV_n (by decide) ?_)
    refine bnd_of (eqI_int _ _ _) (ifV_n (by decide) ?_)
    refine bnd_of (eqI_int _ _ _) (ifV_n (by decide) ?_)
    refine bnd_of (eqI_int _ _ _) (ifV_p (by decide) ?_)
    refine wk ?_
    obtain ⟨m, hm⟩ := Int.eq_ofNat_of_zero_le (show 0 ≤ 4 + d by omega)
    rw [hm]
    refine mk0 (size := 1) (zero := [.slice none 0 0]) hp ⟨rfl, rfl⟩ (by omega) (by omega) fun mv h8 hp => ?_
    obtain ⟨am, nm, cm, rfl⟩ := All.isSlice hp
    replace hp := hn (hp.re 3 [1, 0])
    refine wk ?_
    refine st0 hp (.row 67 (planC (.slice am nm cm) ⟨List.replicate m [], 1, false⟩) 3 true) rfl (by simp) rfl rfl fun h9 hp => ?_
    refine j1 _ ⟨List.replicate m [], 1, false⟩ _ _ ?_ (fun g2 r => ⟨_, r.rows, All2.rep⟩) hp
    exact Plan.may_not fun q => by have := q.2.1; simp only [List.length_replicate] at this; omega
  · refine bnd_of (eqI_int _ _ _) (ifV_n (by decide) ?_)
    refine bnd_of (eqI_int _ _ _) (ifV_n (by decide) ?_)
    refine bnd_of (eqI_int _ _ _) (ifV_n (by decide) ?_)
    refine bnd_of (eqI_int _ _ _) (ifV_n (by decide) ?_)
    refine wk ?_
    refine bs0 (size := 4) hp ([Op.mk 9 0 0 d].map Op.enc) rfl rfl (by simp) (Op.all_good _) fun w2 h8 hp => ?_
    obtain ⟨b2, m2, k2, rfl⟩ := All.isSlice hp
    refine wk ?_
    refine bs0 (size := 1) hp [[.slice b2 m2 k2]] rfl rfl (by simp) (fun c hc => by rw [List.mem_singleton.1 hc]; exact ⟨rfl, rfl⟩) fun w5 h9 hp => ?_
    obtain ⟨b5, m5, k5, rfl⟩ := All.isSlice hp
    replace hp := hn (hp.re 4 [3, 2, 0, 1])
    obtain ⟨eb, i1, _, _, i4⟩ := All.elt (i := 0) hp (c := [.slice none 0 0]) rfl .i64
    refine bnd_of i1 ?_
    obtain ⟨h10, s1, hp⟩ := i4 0 1 (.slice b5 m5 k5) rfl (by decide) rfl
    refine bnd_of s1 ?_
    have hp := All.fold (l := [_, _, _]) (hn (hp.re 4 [0, 2, 3, 1]))
    refine j1 (.slice a8 n8 c8) ⟨[[[⟨9, 0, 0, d⟩]]], 1, false⟩ _ _ ?_ (fun g2 pg => ?_) (hn (hp.re 2 [1, 0]))
    · have : (Op.mk 9 0 0 d).may = false := by
        have hd : decide (d < 1) = false := decide_eq_false (by omega)
        simp [Op.may, ruleOf, hd]
      simp [Plan.may, thrMay, Txn.may, this]
    · have r1 := All.rows pg
      have r2 := All.rows (hn (pg.up 1))
      have r3 := All.rows (hn (pg.up 2))
      exact ⟨_, r1, .cons (thrC_mk r2 (.cons (txnC_mk r3) .nil)) .nil⟩
end
end Go.Proofs.YtfphpafkhljncaaGreat
namespace Go.Proofs.YtfphpafkhljncaaGreat
open Go GW Go.Proofs
set_option linter.unusedVariables false
set_option linter.unusedSimpArgs false
set_option maxRecDepth 20000
/-- touches of so many threads lead from words to words -/
def Rep (n : Int) : List Int → List Touch → List Int → Prop
  | ws, [], ws' => ws = ws'
  | ws, t :: ts, ws' => (0 ≤ t.at_ ∧ t.at_ < 634 ∧ ws[t.at_.toNat]? = some t.was ∧ (t.kind = 0 → t.now = t.was) ∧ 0 ≤ t.thread ∧ t.thread < n) ∧ Rep n (ws.set t.at_.toNat t.now) ts ws'
theorem Rep.snoc {n : Int} : ∀ {ts : List Touch} {ws ws' : List Int} {t : Touch}, Rep n ws ts ws' → 0 ≤ t.at_ → t.at_ < 634 → ws'[t.at_.toNat]? = some t.was → (t.kind = 0 → t.now = t.was) → 0 ≤ t.thread → t.thread < n → Rep n ws (ts ++ [t]) (ws'.set t.at_.toNat t.now) := by
  intro ts
  induction ts with
  | nil => intro ws ws' t h h1 h2 h3 h4 h5 h6; cases h; exact ⟨⟨h1, h2, h3, h4, h5, h6⟩, rfl⟩
  | cons x ts ih => intro ws ws' t h h1 h2 h3 h4 h5 h6; exact ⟨h.1, ih h.2 h1 h2 h3 h4 h5 h6⟩
structure Mc.rep (M : Mc) (n : Int) : Prop where
  len : (M.ths.length : Int) = n
  way : ∀ x ∈ M.ths, x.way
  rep : Rep n newAr.ws M.ts M.A.ws
theorem Mc.new_rep (p : Plan) : (Mc.new p).rep p.threads.length := by
  refine ⟨by show ((Mc.threads _ _ _ _ _).length : Int) = _; rw [Mc.threads_len], fun x hx => ?_, rfl⟩
  obtain ⟨j, t, _, rfl⟩ := Mc.threads_mem hx
  exact .inr Th.new_on
theorem Th.ok.ops_may {x : Th} (o : x.ok) (h : x.evs ≠ []) : Txn.may x.ops = true := by
  obtain ⟨e, he⟩ : ∃ e, x.evs.getLast? = some e := by
    cases hl : x.evs.getLast? with
    | none => rw [List.getLast?_eq_none_iff] at hl; exact absurd hl h
    | some e => exact ⟨e, rfl⟩
  have hi := o.idx (x.evs.length - 1) e (by rw [← List.getLast?_eq_getElem?]; exact he)
  have hl := List.length_pos_iff.2 h
  have hev := o.evs
  unfold Th.ops
  rw [he]
  simp only
  rw [hi, Int.toNat_natCast, List.getD_eq_getElem?_getD, List.getElem?_eq_getElem (by omega)]
  exact (thrMay_spec o.txns).2 _ (List.getElem_mem _)
theorem Th.ok.mays {x : Th} (o : x.ok) (h : x.evs ≠ []) {L : List Int} (hL : ∀ y ∈ L, 0 ≤ y ∧ y < 65535) : Mays x L := by
  intro s s0 s1
  have i0 := o.i0; have i1 := o.i1; have n1 := o.n1
  have hy : 0 ≤ L.getD s.toNat 0 ∧ L.getD s.toNat 0 < 65535 := by
    rw [List.getD_eq_getElem?_getD]
    cases e : L[s.toNat]? with
    | none => exact ⟨by decide, by decide⟩
    | some y => exact hL y (List.mem_of_getElem? e)
  refine ⟨⟨i0, by omega⟩, ⟨o.q0, o.q1⟩, ?_, o.ops_may h⟩
  unfold lifeMay
  exact decide_eq_true ⟨s0, s1, by omega, by omega⟩
theorem Th.decide_way {x : Th} {s pick : Int} (h : x.way) : (x.decide s pick).way := by
  unfold Th.decide
  split
  · rcases h with h | h
    · exact .inl h
    · exact .inr ⟨h.ent, h.adv, h.tri, h.pop, h.push⟩
  · exact h
theorem Mc.pick_rep {M : Mc} {n k : Int} (o : M.ok) (r : M.rep n) (hp : M.picks < 65535) : (M.pick k).1.rep n := by
  unfold Mc.pick
  split
  · exact r
  · rename_i c
    split
    · exact r
    · rename_i x hx
      have ox := o.ths x (List.mem_of_getElem? hx)
      have wx := r.way x (List.mem_of_getElem? hx)
      have len := r.len
      have hL : ∀ y ∈ M.L, 0 ≤ y ∧ y < 65535 := fun y hy => by have := o.L2 y hy; omega
      -- the life that is taken is of a transaction that is there
      have key : (x.step M.A M.L M.picks).1.way ∧ ((x.step M.A M.L M.picks).2.1 = true → Acd M.A (x.step M.A M.L M.picks).2.2.2.1) ∧ ((x.step M.A M.L M.picks).2.1 = false → (x.step M.A M.L M.picks).2.2.2.1 = M.A) := by
        by_cases he : x.evs = []
        · have hx1 : x.next = none := by
            cases hn : x.next with
            | none => rfl
            | some a => exact absurd he (ox.1.live (.inl (by rw [hn]; simp)))
          exact Th.step_way0 ox.1 wx o.A hx1
        · exact Th.step_way ox.1 wx o.A (ox.1.mays he hL)
      generalize x.step M.A M.L M.picks = s at key
      obtain ⟨k1, k2, k3⟩ := key
      simp only
      have wy : ∀ y ∈ M.ths.set k.toNat s.1, y.way := fun y hy => by
        rcases List.mem_or_eq_of_mem_set hy with q | q
        · exact r.way y q
        · subst q; exact k1
      refine ⟨?_, fun y hy => ?_, ?_⟩
      · show (((if s.2.1 = true then decAll _ _ _ else _ : List Th).length : Nat) : Int) = n
        split
        · rw [decAll_len, List.length_set]; exact len
        · rw [List.length_set]; exact len
      · simp only at hy
        split at hy
        · unfold decAll at hy
          split at hy
          · obtain ⟨z, hz, rfl⟩ := List.mem_map.1 hy
            exact Th.decide_way (wy z hz)
          · exact wy y hy
        · exact wy y hy
      · show Rep n newAr.ws (if s.2.1 = true then M.ts ++ [_] else M.ts) s.2.2.2.1.ws
        cases hs : s.2.1 with
        | false => rw [if_neg (by decide), k3 hs]; exact r.rep
        | true =>
          rw [if_pos rfl]
          obtain ⟨kd, i, was, now, i0, i1, hw, h0, hB⟩ := k2 hs
          have hat := (o.A.at i0 i1).1
          have e2 : (noteT s.2.2.2.1 s.2.2.2.2 k s.1).at_ = (i.toNat : Int) := by rw [hB]; rfl
          have e3 : (noteT s.2.2.2.1 s.2.2.2.2 k s.1).was = was := by rw [hB]; rfl
          have e4 : (noteT s.2.2.2.1 s.2.2.2.2 k s.1).now = now := by rw [hB]; rfl
          have e1 : (noteT s.2.2.2.1 s.2.2.2.2 k s.1).kind = kd := by rw [hB]; rfl
          have e5 : s.2.2.2.1.ws = M.A.ws.set i.toNat now := by rw [hB]; rfl
          have := r.rep.snoc (t := noteT s.2.2.2.1 s.2.2.2.2 k s.1) (by rw [e2]; omega) (by rw [e2]; omega) (by rw [e2, e3, Int.toNat_natCast, hw]; exact hat) (by rw [e1, e3, e4]; exact h0) (by show 0 ≤ k; omega) (by show k < n; omega)
          rw [e2, e4, Int.toNat_natCast, ← e5] at this
          exact this
theorem Mc.pick_picks {M : Mc} {k : Int} : (M.pick k).1.picks ≤ M.picks + 1 := by
  unfold Mc.pick
  split
  · simp only; omega
  · split
    · simp only; omega
    · exact Int.le_refl _
end Go.Proofs.YtfphpafkhljncaaGreat
namespace Go.Proofs.YtfphpafkhljncaaGreat
open Go GW Go.Proofs
attribute [local irreducible] bnd ldV stV ifV binV eqI
set_option linter.unusedVariables false
set_option linter.unusedSimpArgs false
set_option maxRecDepth 20000
section
variable {h g : GH} {K : Value → GH → Prop} {v pv : Value} {p : Plan} {picks : List Int}
theorem T_MachineTouches (hp : All [baseP g] h) (ht : threadsAt g v p.threads) (rp : rowsAt g 1 pv (picks.map encI)) (hK : ∀ h', K (.bool true) h') : T Tryz.prog 14 [.agg (planC v p).toArray, pv] h K := by
  apply S14_T
  unfold S14
  have hpl : lnV pv = some (i64 picks.length) := by have := rp.len; rw [List.length_map] at this; exact this
  have hpm : picks.length ≤ 9223372036854775807 := by have := rp.max; rw [List.length_map] at this; exact this
  have hvl : lnV v = some (i64 p.threads.length) := by
    obtain ⟨es, r, a2⟩ := ht
    have := r.len
    rw [a2.1] at this; exact this
  refine nw hp (.row 67 (planC v p) 3 true) rfl fun d h1 hp => ?_
  refine T_mawake hp fun h2 hp => ?_
  refine wk ?_
  refine la0 hp (c := planC v p) (Nat.le_refl 3) rfl ?_
  refine T_mNew hp (fun h' hp => All.baseLe hp.tail) ht (fun hm h3 hp => ?_) fun hm b h3 hp => ?_
  · refine wk ?_
    refine T_Num ?_
    refine wk ?_
    exact hK _
  refine wk ?_
  refine T_Num ?_
  refine wk ?_
  unfold S14_j1
  refine T_mWords hp fun wv h4 hp => ?_
  have hw0 : lnV wv = some (i64 newAr.ws.length) := by have := All.len hp; rw [List.length_map] at this; exact this
  rw [newAr_ok.words] at hw0
  refine bnd_of hw0 ?_
  refine wk ?_
  refine Lfp_fam (ι := Nat × Mc) (fun q => [pv, ptr d, ptr b, wv, i64 q.1]) (fun q h' => q.1 ≤ picks.length ∧ q.1 ≤ 400 ∧ q.2.ok ∧ q.2.rep p.threads.length ∧ q.2.picks ≤ q.1 ∧ All (mcP b q.2 :: rowP 1 wv (newAr.ws.map encI) :: pts d (.row 67 (planC v p) 3 true) :: [baseP g]) h') (fun q => picks.length - q.1) ?_ (0, Mc.new p) h4 ⟨by omega, by omega, Mc.new_ok hm, Mc.new_rep p, Int.le_refl 0, hn (hp.re 4 [1, 0, 2, 3])⟩
  clear hp
  rintro ⟨i, M⟩ h5 X ⟨hi, hi4, o, rep, hpk, hp⟩ again
  simp only at hi hi4 o rep hpk hp
  simp only [tup_zero, tup_succ]
  have fin : ∀ s a, S14_j3 s (ptr d) (ptr b) wv h5 K a := by
    intro s a
    clear again
    unfold S14_j3
    refine T_mTouches hp o fun xv h6 hp => ?_
    have hxl : lnV xv = some (i64 M.ts.length) := by have := All.len hp; rw [List.length_map] at this; exact this
    have hxm : (M.ts.length : Int) ≤ 65536 := by have := o.ts; have := o.p1; omega
    refine Lfp_fam (ι := Nat × List Int) (fun q => [ptr d, ptr b, wv, xv, i64 q.1]) (fun q h' => q.1 ≤ M.ts.length ∧ Rep p.threads.length q.2 (M.ts.drop q.1) M.A.ws ∧ All (rowP 1 wv (q.2.map encI) :: pts d (.row 67 (planC v p) 3 true) :: rowP 8 xv (M.ts.map Touch.enc) :: mcP b M :: [baseP g]) h') (fun q => M.ts.length - q.1) ?_ (0, newAr.ws) h6 ⟨by simp, rep.rep, hn (hp.re 5 [2, 3, 0, 1, 4])⟩
    clear hp
    rintro ⟨j, ws⟩ h7 Y ⟨hj, hr, hp⟩ again
    simp only at hj hr hp
    simp only [tup_zero, tup_succ]
    refine bnd_of hxl ?_
    refine wk ?_
    refine ifV_cases (fun c => ?_) fun c => ?_
    · have hjl : j < M.ts.length := by omega
      obtain ⟨t, hte⟩ : ∃ t, M.ts[j]? = some t := ⟨_, List.getElem?_eq_getElem hjl⟩
      have hdrop : M.ts.drop j = t :: M.ts.drop (j + 1) := by
        rw [List.drop_eq_getElem_cons hjl]
        rw [List.getElem?_eq_getElem hjl] at hte; cases hte; rfl
      rw [hdrop] at hr
      obtain ⟨⟨t0, t1, t2, t3, t4, t5⟩, hr⟩ := hr
      obtain ⟨px, x1, x2⟩ := (All.rows (hn (hp.up 2))).get (i := j) (c := t.enc) (by rw [List.getElem?_map, hte]; rfl) .i64
      refine bnd_of x1 (bnd_of x2 ?_)
      refine nwst hp (.row 60 t.enc 8 true) rfl rfl rfl rfl fun e h8 hp => ?_
      obtain ⟨a, ea⟩ := Int.eq_ofNat_of_zero_le t0
      have hta : ws[a]? = some t.was := by rw [ea, Int.toNat_natCast] at t2; exact t2
      have hele : (ws.map encI)[a]? = some [i64 t.was] := by rw [List.getElem?_map, hta]; rfl
      rw [ea, Int.toNat_natCast] at hr
      have hp0 := hp
      have fin2 : All (pts e (.row 60 t.enc 8 true) :: rowP 1 wv (ws.map encI) :: pts d (.row 67 (planC v p) 3 true) :: rowP 8 xv (M.ts.map Touch.enc) :: mcP b M :: [baseP g]) h8 →
          bnd (isV 1 wv (i64 t.at_)) fun v47 => bnd (stV 1 v47 (i64 t.now) h8) fun h48 => bnd (binV .add (i64 j) (.int .i64 1)) fun v49 => Y (tup [ptr d, ptr b, wv, xv, v49]) h48 := by
        intro hp
        replace hp := hn (hp.up 1)
        rw [ea]
        obtain ⟨wb, w1, _, _, w4⟩ := All.elt hp hele .i64
        obtain ⟨h9, s1, hp⟩ := w4 0 1 (i64 t.now) rfl (by decide) rfl
        refine bnd_of w1 (bnd_of s1 ?_)
        refine wk ?_
        refine again (j + 1, ws.set a t.now) _ ⟨by simp only; omega, hr, ?_⟩ (by simp only; omega)
        have e9 : (ws.map encI).set a (setCells [i64 t.was] 0 (i64 t.now).cells.toList) = (ws.set a t.now).map encI := by rw [List.map_set]; rfl
        rw [e9] at hp
        exact hn (hp.re 6 [0, 2, 3, 4, 5])
      unfold Touch.enc planC at hp
      refine wk ?_
      refine ifV_n (by omega) ?_
      refine wk ?_
      refine ifV_n (by omega) ?_
      refine wk ?_
      obtain ⟨pw, w1, w2⟩ := (All.rows (hn (hp.up 1))).get1 (i := a) (x := i64 t.was) hele .i64
      rw [ea]
      refine bnd_of w1 (bnd_of w2 ?_)
      refine wk ?_
      rw [decide_eq_true rfl]
      refine wk ?_
      refine ifV_cases (fun c2 => ?_) fun c2 => ?_
      · refine wk ?_
        refine ifN_cases (fun c3 => absurd (t3 c2) c3) fun c3 => ?_
        refine wk ?_
        refine ifV_n (by omega) ?_
        refine wk ?_
        refine bnd_of hvl ?_
        refine wk ?_
        refine ifV_n (by omega) ?_
        refine wk ?_
        exact fin2 hp0
      · refine wk ?_
        refine ifV_n (by omega) ?_
        refine wk ?_
        refine bnd_of hvl ?_
        refine wk ?_
        refine ifV_n (by omega) ?_
        refine wk ?_
        exact fin2 hp0
    · have hje : j = M.ts.length := by omega
      subst hje
      rw [List.drop_length] at hr
      have hr : ws = M.A.ws := hr
      refine T_mWords (hn (hp.up 3)) fun w2 h8 hp => ?_
      refine T_SameInts (All.rows (hn (hp.up 2))) (All.rows hp) ?_
      rw [decide_eq_true hr]
      exact hK _
  refine bnd_of hpl ?_
  refine wk ?_
  refine ifV_cases (fun c => ?_) fun c => fin _ _
  refine wk ?_
  refine ifV_cases (fun c2 => ?_) fun c2 => fin _ _
  unfold S14_j2
  obtain ⟨x, hx⟩ : ∃ x, picks[i]? = some x := ⟨_, List.getElem?_eq_getElem (by omega)⟩
  obtain ⟨q1, d1, d2⟩ := (rp.le (All.baseLe hp.tail.tail.tail)).get1 (i := i) (x := i64 x) (by rw [List.getElem?_map, hx]; rfl) .i64
  refine bnd_of d1 (bnd_of d2 ?_)
  refine T_mPick hp o fun h6 hp => ?_
  refine wk ?_
  exact again (i + 1, (M.pick x).1) _ ⟨by simp only; omega, by simp only; omega, Mc.pick_ok o, Mc.pick_rep o rep (by omega), by have := Mc.pick_picks (M := M) (k := x); simp only; omega, hp⟩ (by simp only; omega)
end
end Go.Proofs.YtfphpafkhljncaaGreat
namespace Go.Proofs.YtfphpafkhljncaaGreat
open Go GW Go.Proofs
attribute [local irreducible] bnd ldV stV ifV binV eqI
set_option linter.unusedVariables false
set_option linter.unusedSimpArgs false
set_option maxRecDepth 20000
theorem stock_eq (k a b x k' a' b' x' : Int) : eqP Tryz.prog 10000 44 (.agg [.int .i64 k, .int .i64 a, .int .i64 b, .int .i64 x].toArray) (.agg [.int .i64 k', .int .i64 a', .int .i64 b', .int .i64 x'].toArray) = some (decide (k = k' ∧ a = a' ∧ b = b' ∧ x = x')) := by
  have h : eqP Tryz.prog 10000 44 (.agg [.int .i64 k, .int .i64 a, .int .i64 b, .int .i64 x].toArray) (.agg [.int .i64 k', .int .i64 a', .int .i64 b', .int .i64 x'].toArray) = some ((k == k') && ((a == a') && ((b == b') && ((x == x') && true)))) := by kernel_rfl
  rw [h]; simp [Bool.decide_and, Bool.beq_eq_decide_eq]
/-- steps at picks from 10 on, until it is done -/
def truns : Nat → Nat → Th → Ar → List Int → Option (Th × Ar × List Int × Nat)
  | 0, i, x, A, L => some (x, A, L, i)
  | n + 1, i, x, A, L => match x.done with
    | true => some (x, A, L, i)
    | false => match x.step A L (10 + i) with
      | (x', true, 0, A', L') => truns n (i + 1) x' A' L'
      | _ => none
def tawakeX : Th := Th.new 0 2 3 false [[⟨0, 1, 0, 9⟩]]
def tawakeY : Th := Th.new 1 2 3 true []
def tawakeFin (r : Option (Th × Ar × List Int × Nat)) : Bool := match r with
  | some (x, A, L, i) => (match x.evs with
      | [e] => decide (e.begun = 10) && (decide (e.decided = -1) && (decide (e.answered = 40) && (decide (e.end_ = 0) && (decide (e.attempts = 1) && decide (e.answers = [⟨0, 9⟩])))))
      | _ => false) && (decide (i = 31) && (x.done && (decide (x.stock = [0, 0, 1, 0]) && (decide (L[0]? = some 1) && decide (A.at 1 = 40)))))
  | none => false
theorem tawake_fin : tawakeFin (truns 60 0 tawakeX newAr (List.replicate 12 0)) = true := by decide +kernel
theorem tawakeX_may : Th.may 0 2 3 [[⟨0, 1, 0, 9⟩]] := by decide
theorem tawakeY_may : Th.may 1 2 3 [] := by decide
section
variable {a b lb : Nat} {R : List Part} {h g : GH} {K : Value → GH → Prop} {A : Ar} {x : Th} {U : TypeId} {v1 v2 v3 : Value}
theorem T_thStepNil1 (hK : K (.tuple #[.bool false, i64 1]) h) : T Tryz.prog 29 [.pointer none, v1, v2, v3] h K := by
  apply S29_T
  unfold S29
  refine wk ?_
  unfold S29_j1
  refine wk ?_
  exact hK
theorem T_thStepNil2 (hK : K (.tuple #[.bool false, i64 1]) h) : T Tryz.prog 29 [ptr b, .pointer none, v2, v3] h K := by
  apply S29_T
  unfold S29
  refine wk ?_
  unfold S29_j1
  refine wk ?_
  exact hK
theorem T_thStepNil3 (hK : K (.tuple #[.bool false, i64 1]) h) : T Tryz.prog 29 [ptr b, ptr a, .pointer none, v3] h K := by
  apply S29_T
  unfold S29
  refine wk ?_
  unfold S29_j1
  refine wk ?_
  exact hK
theorem T_thStockNil (hp : All R h) (hK : ∀ h', All R h' → K (.agg #[i64 0, i64 0, i64 0, i64 0]) h') : T Tryz.prog 32 [.pointer none] h K := by
  apply S32_T
  unfold S32
  refine nw hp (.row 44 [i64 0, i64 0, i64 0, i64 0] 4 true) rfl fun b h1 hp => ?_
  refine wk ?_
  refine st0 hp (.row 44 [i64 0, i64 0, i64 0, i64 0] 4 true) rfl (Nat.le_refl 4) rfl rfl fun h2 hp => ?_
  refine la0 hp (c := [i64 0, i64 0, i64 0, i64 0]) (Nat.le_refl 4) rfl ?_
  exact hK _ hp.tail
/-- a thread that is there, one that is not -/
theorem T_thNewY {id n k : Int} {pol : Bool} {tsv : Value} {ts : List (List Op)} {cs0 : List (List Value)} (hp : All R h) (hs : ∀ h', All R h' → tv1 tsv cs0 ts h') (m : Th.may id n k ts)
    (ky : ∀ b h', All (thP b (.new id n k pol ts) :: R) h' → K (.tuple #[ptr b, i64 0]) h') : T Tryz.prog 27 [i64 id, i64 n, i64 k, .bool pol, tsv] h K := T_thNew hp hs (fun q => absurd m q) fun _ => ky
theorem T_thNewN {id n k : Int} {pol : Bool} {tsv : Value} {ts : List (List Op)} {cs0 : List (List Value)} (hp : All R h) (hs : ∀ h', All R h' → tv1 tsv cs0 ts h') (m : ¬ Th.may id n k ts)
    (kn : ∀ h', All R h' → K (.tuple #[.pointer none, i64 1800]) h') : T Tryz.prog 27 [i64 id, i64 n, i64 k, .bool pol, tsv] h K := T_thNew hp hs (fun _ => kn) fun q => absurd q m
theorem tv1_nil {h : GH} : tv1 (.slice none 0 0) [] [] h := ⟨rowsAt_nil _ _, .nil⟩
theorem lives0_ok : Lok (List.replicate 12 0) := ⟨rfl, fun x hx => by rw [List.eq_of_mem_replicate hx]; exact ⟨by decide, by decide⟩⟩
/-- lives that steps lead to -/
theorem Th.step_lok {L : List Int} {pick : Int} {N : Int} (hN : N < 4611686018427387903) (l : L.length = 12 ∧ ∀ y ∈ L, 0 ≤ y ∧ y ≤ N) : (x.step A L pick).2.2.2.2.length = 12 ∧ ∀ y ∈ (x.step A L pick).2.2.2.2, 0 ≤ y ∧ y ≤ N + 1 := by
  have old : ∀ z ∈ L, 0 ≤ z ∧ z ≤ N + 1 := fun z hz => by have := l.2 z hz; omega
  rcases Th.step_lives (A := A) (x := x) (L := L) (pick := pick) with e | ⟨s, e⟩
  · rw [e]; exact ⟨l.1, old⟩
  · rw [e]
    unfold lived
    refine ⟨by rw [List.length_set]; exact l.1, fun y hy => ?_⟩
    rcases List.mem_or_eq_of_mem_set hy with q | q
    · exact old y q
    · rw [q, List.getD_eq_getElem?_getD]
      cases hg : L[s.toNat]? with
      | none =>
        simp only [Option.getD_none]
        rcases Int.lt_or_le N 0 with c | c
        · cases L with
          | nil => simp at l
          | cons z _ => have := l.2 z (by simp); omega
        · omega
      | some z => have := l.2 z (List.mem_of_getElem? hg); simp only [Option.getD_some]; omega
theorem lok_of {L : List Int} {N : Int} (hN : N < 4611686018427387903) (l : L.length = 12 ∧ ∀ y ∈ L, 0 ≤ y ∧ y ≤ N) : Lok L := ⟨l.1, fun y hy => by have := l.2 y hy; omega⟩
set_option maxHeartbeats 1000000 in
theorem T_tawake (hp : All R h) (hK : ∀ h', All R h' → K (.bool true) h') : T Tryz.prog 26 [] h K := by
  apply S26_T
  unfold S26
  refine T_arenaNew hp fun a h1 hp => ?_
  refine bnd_of rfl ?_
  refine bs0 (size := 4) hp ([Op.mk 0 1 0 9].map Op.enc) rfl rfl (by simp) (Op.all_good _) fun v2 h2 hp => ?_
  obtain ⟨a2, n2, c2, rfl⟩ := All.isSlice hp
  refine bnd_of rfl ?_
  refine bs0 (size := 1) hp [[.slice a2 n2 c2]] rfl rfl (by simp) (fun c hc => by rw [List.mem_singleton.1 hc]; exact ⟨rfl, rfl⟩) fun v5 h3 hp => ?_
  refine T_thNewY (ts := [[⟨0, 1, 0, 9⟩]]) (cs0 := [[.slice a2 n2 c2]]) hp (fun h' hp => ⟨All.rows hp, .cons ⟨_, rfl, All.rows (hn (hp.up 1))⟩ .nil⟩) tawakeX_may fun b h4 hp => ?_
  refine wk ?_
  refine T_thNewN (ts := []) hp (fun h' hp => tv1_nil) (by decide) fun h5 hp => ?_
  refine wk ?_
  refine T_thNewY (ts := []) hp (fun h' hp => tv1_nil) tawakeY_may fun c h6 hp => ?_
  refine wk ?_
  replace hp := hn (hp.re 5 [4, 0, 1])
  unfold S26_j1
  refine nw hp (lvRow 36 12 [] (List.replicate 12 0) []) rfl fun lb h7 hp => ?_
  -- the idle one
  replace hp := hn (hp.re 4 [1, 0, 2, 3])
  have okY := Th.new_ok (pol := true) tawakeY_may
  have okX := Th.new_ok (pol := false) tawakeX_may
  refine T_thStep (pre := []) (post := []) hp okY lives0_ok (by decide) fun h8 hp => ?_
  have sy : tawakeY.step newAr (List.replicate 12 0) 0 = (tawakeY, false, 0, newAr, List.replicate 12 0) := rfl
  unfold tawakeY at sy
  rw [sy] at hp ⊢
  refine wk ?_
  refine T_thDone (hn (hp.up 3)) (Nat.zero_le _) ?_
  have fin := tawake_fin
  cases hr : truns 60 0 tawakeX newAr (List.replicate 12 0) with
  | none => rw [hr] at fin; cases fin
  | some z =>
    obtain ⟨x', A', L', i'⟩ := z
    rw [hr] at fin
    refine Lfp_fam (ι := Nat × Th × Ar × List Int) (fun q => [ptr a, ptr b, i64 0, i64 1800, ptr c, i64 0, ptr lb, .bool false, i64 0, .bool false, i64 q.1, i64 q.1]) (fun q h' => q.1 ≤ 60 ∧ q.2.1.ok ∧ Short q.2.1.evs ∧ (q.2.2.2.length = 12 ∧ ∀ y ∈ q.2.2.2, 0 ≤ y ∧ y ≤ q.1) ∧ truns (60 - q.1) q.1 q.2.1 q.2.2.1 q.2.2.2 = some (x', A', L', i') ∧ All (arP 138 a q.2.2.1 :: pts lb (lvRow 36 12 [] q.2.2.2 []) :: thP b q.2.1 :: thP c tawakeY :: R) h') (fun q => 60 - q.1) ?_ (0, tawakeX, newAr, List.replicate 12 0) h8 ⟨by omega, okX, (fun e h => by cases h), ⟨rfl, fun y hy => by rw [List.eq_of_mem_replicate hy]; exact ⟨by decide, by decide⟩⟩, hr, hn (hp.re 4 [0, 1, 3, 2])⟩
    clear hp hr
    rintro ⟨i, x, A, L⟩ h9 X ⟨hi, ox, sx, lx, hr, hp⟩ again
    simp only at hi ox sx lx hr hp
    simp only [tup_zero, tup_succ]
    have hA := (arP.at hp).2
    have key : (x, A, L, i) = (x', A', L', i') → ∀ s k, S26_j3 s (ptr a) (ptr b) (i64 0) (i64 1800) (ptr c) (i64 0) (ptr lb) (.bool false) (i64 0) (.bool false) (i64 i) h9 K k := by
      intro e s k
      clear again hr
      cases e
      unfold tawakeFin at fin
      simp only [Bool.and_eq_true, decide_eq_true_eq] at fin
      obtain ⟨f1, f2, f3, f4, f5, f6⟩ := fin
      subst f2
      unfold S26_j3
      refine T_thEvents (hn (hp.up 2)) ox.evs8 sx fun ev h10 hp => ?_
      refine T_thStock (hn (hp.up 1)) ox fun h11 hp => ?_
      rw [f4]
      refine nwst hp (.row 44 [i64 0, i64 0, i64 1, i64 0] 4 true) rfl rfl rfl rfl fun sb h12 hp => ?_
      refine T_thStepNil2 ?_
      refine wk ?_
      refine T_thStepNil3 ?_
      refine wk ?_
      refine L_Load (hn (hp.up 3)) (by decide) (by decide) fun h13 hp => ?_
      rw [f6]
      refine wk ?_
      cases hes : x'.evs with
      | nil => rw [hes] at f1; cases f1
      | cons e es =>
        cases es with
        | cons e2 es => rw [hes] at f1; cases f1
        | nil =>
          rw [hes] at f1 hp
          simp only [Bool.and_eq_true, decide_eq_true_eq] at f1
          obtain ⟨g1, g2, g3, g4, g5, g6⟩ := f1
          have el : lnV ev = some (i64 1) := evP_len (evoP_evs (hn (hp.up 3)))
          refine bnd_of el ?_
          refine wk ?_
          refine T_Num ?_
          refine wk ?_
          refine T_Num ?_
          refine wk ?_
          refine T_Num ?_
          refine wk ?_
          refine T_Num ?_
          refine wk ?_
          refine T_thDone (hn (hp.up 5)) (Nat.zero_le _) ?_
          refine wk ?_
          replace hp := hn (hp.re 6 [3, 1, 4])
          refine evoP_open hp fun ws hl hp => ?_
          obtain ⟨w, rfl⟩ : ∃ w, ws = [w] := by
            match ws, hl with
            | [w], _ => exact ⟨w, rfl⟩
          obtain ⟨eb, i1, i2, _, _⟩ := All.elt (i := 0) hp (c := e.cells w) rfl .i64
          have l2 := i2 2 1 (i64 e.begun) rfl
          have l3 := i2 3 1 (i64 e.decided) rfl
          have l4 := i2 4 1 (i64 e.answered) rfl
          have l5 := i2 5 1 (i64 e.end_) rfl
          have l6 := i2 6 1 (i64 e.attempts) rfl
          have l7 := i2 7 1 w rfl
          rw [g1] at l2
          rw [g2] at l3
          rw [g3] at l4
          rw [g4] at l5
          rw [g5] at l6
          refine bnd_of i1 (bnd_of rfl (bnd_of l2 ?_))
          refine wk ?_
          refine bnd_of i1 (bnd_of rfl (bnd_of l4 ?_))
          refine wk ?_
          refine bnd_of i1 (bnd_of rfl (bnd_of l3 ?_))
          refine wk ?_
          refine bnd_of i1 (bnd_of rfl (bnd_of l5 ?_))
          refine wk ?_
          refine bnd_of i1 (bnd_of rfl (bnd_of l6 ?_))
          refine wk ?_
          refine bnd_of i1 (bnd_of rfl (bnd_of l7 ?_))
          refine wk ?_
          refine bs0 (size := 2) hp ([Answer.mk 0 9].map Answer.enc) rfl rfl (by simp) (Answer.all_good _) fun bv h14 hp => ?_
          have ra : rowsAt h14 2 w (e.answers.map Answer.enc) := ((hn (hp.up 2)).mono1 (P := All (ansO [w] [e])) (fun _ _ l p => All.le l p)) |> fun z => ansO_le z 0 e w rfl rfl
          refine T_SameAnswers ra (All.rows hp) ?_
          rw [decide_eq_true g6]
          refine wk ?_
          replace hp := hn (hp.re 5 [3, 4])
          refine la0 hp (c := [i64 0, i64 0, i64 1, i64 0]) (Nat.le_refl 4) rfl ?_
          refine bnd_of rfl ?_
          refine bnd_of (stock_eq 0 0 1 0 0 0 1 0) ?_
          refine wk ?_
          have hL0 : L'.getD 0 0 = 1 := by rw [List.getD_eq_getElem?_getD, f5]; rfl
          have := lv_ld (s := 0) (pre := []) (hn (hp.up 1)) (by rw [lx.1]; decide)
          rw [hL0] at this
          refine bnd_of this ?_
          refine wk ?_
          refine T_Num ?_
          refine wk ?_
          refine T_Num ?_
          refine wk ?_
          refine T_Num ?_
          refine wk ?_
          exact hK _ hp.tail.tail
    have n60 : i < 60 ∨ i = 60 := by omega
    refine wk ?_
    refine ifV_cases (fun c1 => ?_) fun c1 => ?_
    · obtain ⟨n, hn1⟩ : ∃ n, 60 - i = n + 1 := ⟨59 - i, by omega⟩
      rw [hn1] at hr
      unfold truns at hr
      refine T_thDone (hn (hp.up 2)) ox.evs8 ?_
      cases hd : x.done with
      | true =>
        rw [hd] at hr
        refine wk ?_
        exact key (Option.some.inj hr) _ _
      | false =>
        rw [hd] at hr
        simp only at hr
        refine wk ?_
        unfold S26_j2
        refine wk ?_
        refine T_thStep (pre := []) (post := []) hp ox (lok_of (N := i) (by omega) lx) (by omega) fun h10 hp => ?_
        have s := Th.step_ok (L := L) (pick := 10 + (i : Int)) ox hA (by omega)
        have sl := Th.step_lok (x := x) (A := A) (pick := 10 + (i : Int)) (N := i) (by omega) lx
        have ss := Th.step_short (A := A) (L := L) (pick := 10 + (i : Int)) ox sx
        generalize x.step A L (10 + (i : Int)) = r at hp hr s sl ss ⊢
        obtain ⟨x2, is, e, A2, L2⟩ := r
        split at hr
        · rename_i heq
          cases heq
          refine wk ?_
          refine T_Num ?_
          refine wk ?_
          refine again (i + 1, x2, A2, L2) _ ⟨by simp only; omega, s.1, ss, ⟨sl.1, fun y hy => by have := sl.2 y hy; simp only; omega⟩, ?_, hp⟩ (by simp only; omega)
          have : 60 - (i + 1) = n := by omega
          simp only [this]; exact hr
        · cases hr
    · have hi60 : 60 - i = 0 := by omega
      rw [hi60] at hr
      unfold truns at hr
      exact key (Option.some.inj hr) _ _
end
end Go.Proofs.YtfphpafkhljncaaGreat
namespace Go.Proofs.YtfphpafkhljncaaGreat
open Go GW Go.Proofs
attribute [local irreducible] bnd ldV stV ifV binV eqI
set_option linter.unusedVariables false
set_option linter.unusedSimpArgs false
set_option maxRecDepth 20000
section
variable {h g : GH} {K : Value → GH → Prop} {which x : Int} {R : List Part}
theorem All2.rep1 {n : Nat} {h : GH} : All2 (fun c t => ∃ w, c = [w] ∧ rowsAt h 4 w ((t : List Op).map Op.enc)) (List.replicate n [Value.slice none 0 0]) (List.replicate n ([] : List Op)) := by
  refine ⟨by simp, fun i u w hu hw => ?_⟩
  have h1 : u = [Value.slice none 0 0] := List.eq_of_mem_replicate (List.mem_of_getElem? hu)
  have h2 : w = [] := List.eq_of_mem_replicate (List.mem_of_getElem? hw)
  subst h1 h2
  exact ⟨_, rfl, rowsAt_nil _ _⟩
theorem T_ThreadForms (hp : All R h) (hK : ∀ h', K (.bool true) h') : T Tryz.prog 3 [i64 which, i64 x] h K := by
  apply S3_T
  unfold S3
  refine T_tawake hp fun h2 hp => ?_
  refine wk ?_
  refine bnd_of (binV_and_mask x 10 (by decide) (by decide)) ?_
  have d0 : 0 ≤ x % ((2 ^ 10 : Nat) : Int) := Int.emod_nonneg _ (by decide)
  have d1 : x % ((2 ^ 10 : Nat) : Int) < 1024 := Int.emod_lt_of_pos _ (by decide)
  generalize x % ((2 ^ 10 : Nat) : Int) = y at d0 d1
  refine wk ?_
  obtain ⟨d, hd⟩ : ∃ d, 1 + y = d := ⟨_, rfl⟩
  rw [hd]
  have e0 : 1 ≤ d := by omega
  have e1 : d ≤ 1024 := by omega
  clear hd d0 d1
  refine bs0 (size := 4) hp ([Op.mk 5 0 0 0].map Op.enc) rfl rfl (by simp) (Op.all_good _) fun v2 h1 hp => ?_
  obtain ⟨a2, n2, c2, rfl⟩ := All.isSlice hp
  refine wk ?_
  refine bs0 (size := 1) hp [[.slice a2 n2 c2]] rfl rfl (by simp) (fun c hc => by rw [List.mem_singleton.1 hc]; exact ⟨rfl, rfl⟩) fun v5 h2 hp => ?_
  obtain ⟨a5, n5, c5, rfl⟩ := All.isSlice hp
  have j1 : ∀ (id n k : Int) (u : Value) (cs0 : List (List Value)) (ts : List (List Op)) (R' : List Part) h', ¬ Th.may id n k ts → All R' h' → (∀ h', All R' h' → tv1 u cs0 ts h') → S3_j1 (i64 id) (i64 n) (i64 k) u h' K := by
    intro id n k u cs0 ts R' h' hm hp hs
    unfold S3_j1
    refine T_thNewN hp hs hm fun h3 hp => ?_
    refine wk ?_
    refine T_arenaNew hp fun a h4 hp => ?_
    refine nw hp (lvRow 36 12 [] (List.replicate 12 0) []) rfl fun lb h5 hp => ?_
    refine T_thStepNil1 ?_
    refine wk ?_
    refine T_Num ?_
    refine wk ?_
    refine T_Num ?_
    refine wk ?_
    refine T_thEventsNil ?_
    refine wk ?_
    refine T_thStockNil hp fun h6 hp => ?_
    refine bnd_of rfl ?_
    refine bnd_of (stock_eq 0 0 0 0 0 0 0 0) ?_
    exact hK _
  have base : ∀ h', All (rowP 1 (.slice a5 n5 c5) [[.slice a2 n2 c2]] :: rowP 4 (.slice a2 n2 c2) ([Op.mk 5 0 0 0].map Op.enc) :: R) h' → tv1 (.slice a5 n5 c5) [[.slice a2 n2 c2]] [[⟨5, 0, 0, 0⟩]] h' := fun h' hp => ⟨All.rows hp, .cons ⟨_, rfl, All.rows (hn (hp.up 1))⟩ .nil⟩
  have neg : ∀ {K' : Value → Prop}, K' (i64 (-d)) → bnd (unV .neg (i64 d)) K' := by
    intro K' k
    refine bnd_of (v := i64 (-d)) ?_ k
    have : IntKind.i64.wrap (0 - d) = 0 - d := wrap_id (by omega) (by omega)
    show some (Value.int .i64 (IntKind.i64.wrap (0 - d))) = _
    rw [this, Int.zero_sub]
  obtain ⟨k, hk, ua, hz1, hu1⟩ := u64_case which 9 (by decide) (by decide)
  refine bnd_of hz1 (bnd_of hu1 ?_)
  have cs : k = 0 ∨ k = 1 ∨ k = 2 ∨ k = 3 ∨ k = 4 ∨ k = 5 ∨ k = 6 ∨ k = 7 ∨ k = 8 := by omega
  rcases cs with rfl | rfl | rfl | rfl | rfl | rfl | rfl | rfl | rfl
  · refine bnd_of (eqI_int _ _ _) (ifV_p (by decide) ?_)
    refine wk ?_
    exact j1 (1 + d) 2 3 _ _ _ _ _ (fun m => by have := m.2.1; omega) hp base
  · refine bnd_of (eqI_int _ _ _) (ifV_n (by decide) ?_)
    refine bnd_of (eqI_int _ _ _) (ifV_p (by decide) ?_)
    refine neg ?_
    exact j1 (-d) 2 3 _ _ _ _ _ (fun m => by have := m.2.1; omega) hp base
  · refine bnd_of (eqI_int _ _ _) (ifV_n (by decide) ?_)
    refine bnd_of (eqI_int _ _ _) (ifV_n (by decide) ?_)
    refine bnd_of (eqI_int _ _ _) (ifV_p (by decide) ?_)
    refine wk ?_
    exact j1 1 (4 + d) 3 _ _ _ _ _ (fun m => by have := m.1; omega) hp base
  · refine bnd_of (eqI_int _ _ _) (ifV_n (by decide) ?_)
    refine bnd_of (eqI_int _ _ _) (ifV_n (by decide) ?_)
    refine bnd_of (eqI_int _ _ _) (ifV_n (by decide) ?_)
    refine bnd_of (eqI_int _ _ _) (ifV_p (by decide) ?_)
    refine wk ?_
    exact j1 1 (1 - d) 3 _ _ _ _ _ (fun m => by have := m.1; omega) hp base
  · refine bnd_of (eqI_int _ _ _) (ifV_n (by decide) ?_)
    refine bnd_of (eqI_int _ _ _) (ifV_n (by decide) ?_)
    refine bnd_of (eqI_int _ _ _) (ifV_n (by decide) ?_)
    refine bnd_of (eqI_int _ _ _) (ifV_n (by decide) ?_)
    refine bnd_of (eqI_int _ _ _) (ifV_p (by decide) ?_)
    refine wk ?_
    exact j1 1 2 (16 + d) _ _ _ _ _ (fun m => by have := m.2.2.1; omega) hp base
  · refine bnd_of (eqI_int _ _ _) (ifV_n (by decide) ?_)
    refine bnd_of (eqI_int _ _ _) (ifV_n (by decide) ?_)
    refine bnd_of (eqI_int _ _ _) (ifV_n (by decide) ?_)
    refine bnd_of (eqI_int _ _ _) (ifV_n (by decide) ?_)
    refine bnd_of (eqI_int _ _ _) (ifV_n (by decide) ?_)
    refine bnd_of (eqI_int _ _ _) (ifV_p (by decide) ?_)
    refine wk ?_
    exact j1 1 2 (1 - d) _ _ _ _ _ (fun m => by have := m.2.2.1; omega) hp base
  · refine bnd_of (eqI_int _ _ _) (ifV_n (by decide) ?_)
    refine bnd_of (eqI_int _ _ _) (ifV_n (by decide) ?_)
    refine bnd_of (eqI_int _ _ _) (ifV_n (by decide) ?_)
    refine bnd_of (eqI_int _ _ _) (ifV_n (by decide) ?_)
    refine bnd_of (eqI_int _ _ _) (ifV_n (by decide) ?_)
    refine bnd_of (eqI_int _ _ _) (ifV_n (by decide) ?_)
    refine bnd_of (eqI_int _ _ _) (ifV_p (by decide) ?_)
    refine wk ?_
    refine bs0 (size := 1) hp [[.slice none 0 0]] rfl rfl (by simp) (fun c hc => by rw [List.mem_singleton.1 hc]; exact ⟨rfl, rfl⟩) fun sv h3 hp => ?_
    have r2 := hp.rows
    refine ap0 (hn (hp.up 1)) r2 (fun c hc => by rw [List.mem_singleton.1 hc]; exact ⟨rfl, rfl⟩) (by decide) (by simp) fun v6 h4 hp => ?_
    refine j1 1 2 3 _ _ [[⟨5, 0, 0, 0⟩], []] _ _ (fun m => ?_) hp fun h' hp => ⟨All.rows hp, .cons ⟨_, rfl, All.rows (hn (hp.up 2))⟩ (.cons ⟨_, rfl, rowsAt_nil _ _⟩ .nil)⟩
    exact absurd m.2.2.2 (by decide)
  · refine bnd_of (eqI_int _ _ _) (ifV_n (by decide) ?_)
    refine bnd_of (eqI_int _ _ _) (ifV_n (by decide) ?_)
    refine bnd_of (eqI_int _ _ _) (ifV_n (by decide) ?_)
    refine bnd_of (eqI_int _ _ _) (ifV_n (by decide) ?_)
    refine bnd_of (eqI_int _ _ _) (ifV_n (by decide) ?_)
    refine bnd_of (eqI_int _ _ _) (ifV_n (by decide) ?_)
    refine bnd_of (eqI_int _ _ _) (ifV_n (by decide) ?_)
    refine bnd_of (eqI_int _ _ _) (ifV_p (by decide) ?_)
    obtain ⟨p1, q1, q2⟩ := (All.rows hp).get1 (i := 0) (x := .slice a2 n2 c2) rfl .i64
    obtain ⟨b0, o0, j1', j2', _⟩ := (All.rows hp).fld (i := 0) (c := [.slice a2 n2 c2]) rfl .i64
    refine bnd_of j1' (bnd_of rfl (bnd_of (j2' 0 _ rfl) ?_))
    replace hp := hn (hp.up 1)
    obtain ⟨eb, i1, _, _, i4⟩ := All.elt (i := 0) hp (c := (Op.mk 5 0 0 0).enc) rfl .i64
    obtain ⟨h3, s1, hp⟩ := i4 1 1 (i64 d) rfl (by decide) rfl
    refine bnd_of i1 (bnd_of rfl (bnd_of s1 ?_))
    replace hp := hn (hp.up 1)
    refine j1 1 2 3 _ _ [[⟨5, d, 0, 0⟩]] _ _ (fun m => ?_) hp fun h' hp => ⟨All.rows hp, .cons ⟨_, rfl, All.rows (hn (hp.up 1))⟩ .nil⟩
    have hd : decide (d < 1) = false := decide_eq_false (by omega)
    have : (Op.mk 5 d 0 0).may = false := by simp [Op.may, ruleOf, hd]
    have m4 := m.2.2.2
    simp [thrMay, Txn.may, this] at m4
  · refine bnd_of (eqI_int _ _ _) (ifV_n (by decide) ?_)
    refine bnd_of (eqI_int _ _ _) (ifV_n (by decide) ?_)
    refine bnd_of (eqI_int _ _ _) (ifV_n (by decide) ?_)
    refine bnd_of (eqI_int _ _ _) (ifV_n (by decide) ?_)
    refine bnd_of (eqI_int _ _ _) (ifV_n (by decide) ?_)
    refine bnd_of (eqI_int _ _ _) (ifV_n (by decide) ?_)
    refine bnd_of (eqI_int _ _ _) (ifV_n (by decide) ?_)
    refine bnd_of (eqI_int _ _ _) (ifV_n (by decide) ?_)
    refine wk ?_
    obtain ⟨m, hm⟩ := Int.eq_ofNat_of_zero_le (show 0 ≤ 8 + d by omega)
    rw [hm]
    refine mk0 (size := 1) (zero := [.slice none 0 0]) hp ⟨rfl, rfl⟩ (by omega) (by omega) fun mv h8 hp => ?_
    refine j1 1 2 3 _ _ (List.replicate m []) _ _ (fun q => ?_) hp fun h' hp => ⟨All.rows hp, All2.rep1⟩
    have := (thrMay_spec q.2.2.2).1
    rw [List.length_replicate] at this
    omega
end
end Go.Proofs.YtfphpafkhljncaaGreat
