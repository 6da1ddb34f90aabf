/- Several texts in one; nothing here is a statement on the program. -/
import Derived.Test.YtfphpafkhljncaaGreatQC8
namespace Go.Proofs.YtfphpafkhljncaaGreat
open Go GW Go.Proofs
attribute [local irreducible] bnd ldV stV ifV binV eqI
set_option linter.unusedVariables false
set_option linter.unusedSimpArgs false
set_option maxRecDepth 20000
theorem own_part {h h' : GH} {size : Nat} {v : Value} {cs : List (List Value)} {R : List Part} (o : own h' size v cs) (l : HLe h h') (f : ∀ b, blk v b → h b = none) (hp : All R h) : All (rowP size v cs :: R) h' := by
  have o2 := o
  obtain ⟨a, cap, h1, h2, h3, h4, h5⟩ := o
  rcases h5 with ⟨rfl, rfl, rfl⟩ | ⟨b, T, rfl, e⟩
  · subst h1
    exact ⟨fun _ => none, h, fun b => .inl rfl, (fun b g q => by cases q), l, rowP.of_own ⟨none, 0, rfl, h2, h3, h4, .inl ⟨rfl, rfl, rfl⟩⟩, hp⟩
  · subst h1
    have hb := f b rfl
    refine ⟨fun x => if x = b then some (.row T cs.flatten (cap * size) true) else none, h, fun x => ?_, fun x g q => ?_, l, rowP.of_own ⟨_, cap, rfl, h2, h3, h4, .inr ⟨b, T, rfl, if_pos rfl⟩⟩, hp⟩
    · by_cases q : x = b
      · subst q; exact .inr hb
      · exact .inl (if_neg q)
    · simp only at q
      split at q
      · rename_i c; cases q; rw [c]; exact e
      · cases q
section
variable {h g : GH} {R : List Part} {K : Value → GH → Prop} {v pv ev : Value} {p : Plan} {picks : List Int} {us : List Value} {es : List Event}
theorem eventsAt_R (r : evR ev us es h) (hl : us.length = es.length) : eventsAt h ev es := by
  obtain ⟨r1, r2⟩ := r
  refine ⟨_, r1, by unfold evCs; rw [List.length_zipWith, hl, Nat.min_self], fun i x y hx hy => ?_⟩
  obtain ⟨u, hu⟩ : ∃ u, us[i]? = some u := ⟨_, List.getElem?_eq_getElem (by have := (List.getElem?_eq_some_iff.1 hy).1; omega)⟩
  unfold evCs at hx
  rw [List.getElem?_zipWith, hy, hu] at hx
  cases hx
  exact ⟨u, rfl, r2 i y u hy hu⟩
theorem T_CountP (hp : All R h) (hv : threadsAt h v p.threads) (he : eventsAt h ev es) (ok : countOk p es = true) (hK : ∀ v' h', All (rowP 3 v' ((counts p.threads.length es).map encL) :: R) h' → K (.tuple #[v', i64 0]) h') : T Tryz.prog 52 [.agg (planC v p).toArray, ev] h K :=
  T_Count_good hv he ok fun v' h' o l f => hK v' h' (own_part o l f hp)
end
def s3 : List Int → Int
  | [] => 0
  | x :: r => x + s3 r
def t3 : List (List Int) → Int
  | [] => 0
  | c :: r => s3 c + t3 r
theorem s3_snoc (cs : List Int) (c : Int) : s3 (cs ++ [c]) = s3 cs + c := by
  induction cs with
  | nil => simp [s3]
  | cons a cs ih => simp only [List.cons_append, s3, ih]; omega
theorem t3_snoc (cs : List (List Int)) (c : List Int) : t3 (cs ++ [c]) = t3 cs + s3 c := by
  induction cs with
  | nil => simp [t3]
  | cons a cs ih => simp only [List.cons_append, t3, ih]; omega
theorem t3_set : ∀ {cs : List (List Int)} {t : Nat} {d d' : List Int}, cs[t]? = some d → t3 (cs.set t d') = t3 cs - s3 d + s3 d' := by
  intro cs
  induction cs with
  | nil => intro e x y h; simp at h
  | cons a cs ih =>
    intro e x y h
    cases e with
    | zero => simp at h; subst h; simp [t3]; omega
    | succ e => simp only [List.set_cons_succ, t3]; rw [ih (by simpa using h)]; omega
theorem s3_take {c : List Int} {k : Nat} {x : Int} (h : c[k]? = some x) : s3 (c.take (k + 1)) = s3 (c.take k) + x := by
  rw [List.take_add_one, h]; exact s3_snoc _ _
theorem t3_take {c : List (List Int)} {k : Nat} {x : List Int} (h : c[k]? = some x) : t3 (c.take (k + 1)) = t3 (c.take k) + s3 x := by
  rw [List.take_add_one, h]; exact t3_snoc _ _
/-- what the law looks at -/
structure Cmp (p : Plan) (cs ds : List (List Int)) : Prop where
  lc : cs.length = p.threads.length
  ld : ds.length = p.threads.length
  th : p.threads.length ≤ 4
  row : ∀ t, t < p.threads.length → ∃ a b c a' b' c' : Int, ∃ tx, cs[t]? = some [a, b, c] ∧ ds[t]? = some [a', b', c'] ∧ p.threads[t]? = some tx ∧ 0 ≤ a ∧ a ≤ a' ∧ 0 ≤ b ∧ b ≤ b' ∧ 0 ≤ c ∧ c ≤ c' ∧ a' + b' + c' ≤ tx.length ∧ tx.length ≤ 8
  up : ∀ t, 0 ≤ t3 (ds.take t) - t3 (cs.take t) ∧ t3 (ds.take t) - t3 (cs.take t) ≤ 1
theorem Upm.up {cs ds : List (List Int)} (u : Upm cs ds) (t : Nat) : 0 ≤ t3 (ds.take t) - t3 (cs.take t) ∧ t3 (ds.take t) - t3 (cs.take t) ≤ 1 := by
  obtain ⟨i, a, b, rfl, h, ⟨x, y, z, x', y', z', rfl, rfl, h1, h2, h3, h4⟩⟩ := u
  rw [List.take_set]
  by_cases c : i < (cs.take t).length
  · have hl : (cs.take t).length ≤ cs.length := by rw [List.length_take]; omega
    rcases h with h | h
    · rw [t3_set (d := [x, y, z]) (by rw [List.getElem?_take_of_lt (by rw [List.length_take] at c; omega)]; exact h)]
      simp only [s3]; omega
    · omega
  · rw [List.set_eq_of_length_le (by omega)]; omega
theorem Upm.row {cs ds : List (List Int)} (u : Upm cs ds) {t : Nat} {a b c : Int} (h : cs[t]? = some [a, b, c]) : ∃ a' b' c' : Int, ds[t]? = some [a', b', c'] ∧ a ≤ a' ∧ b ≤ b' ∧ c ≤ c' := by
  obtain ⟨i, d, e, rfl, h0, ⟨x, y, z, x', y', z', rfl, rfl, h1, h2, h3, h4⟩⟩ := u
  have ht := (List.getElem?_eq_some_iff.1 h).1
  by_cases q : i = t
  · subst q
    rcases h0 with h0 | h0
    · rw [h] at h0; cases h0
      exact ⟨x', y', z', List.getElem?_set_self ht, h1, h2, h3⟩
    · omega
  · exact ⟨a, b, c, by rw [List.getElem?_set_ne q]; exact h, Int.le_refl _, Int.le_refl _, Int.le_refl _⟩
theorem Mc.tal.cmp {p : Plan} {M : Mc} {k : Int} (hm : p.may = true) (t : M.tal p) : Cmp p M.c3 (M.pick k).1.c3 := by
  obtain ⟨t2, u⟩ := Mc.pick_tal (k := k) t
  obtain ⟨m1, m2, m3, m4, m5⟩ := Plan.may_spec hm
  refine ⟨by unfold Mc.c3; rw [List.length_map]; exact t.len, by unfold Mc.c3; rw [List.length_map]; exact t2.len, m2, fun i hi => ?_, u.up⟩
  obtain ⟨x, hx⟩ : ∃ x, M.ths[i]? = some x := ⟨_, List.getElem?_eq_getElem (by rw [t.len]; exact hi)⟩
  obtain ⟨y, hy⟩ : ∃ y, (M.pick k).1.ths[i]? = some y := ⟨_, List.getElem?_eq_getElem (by rw [t2.len]; exact hi)⟩
  have hc : M.c3[i]? = some (YtfphpafkhljncaaGreat.c3 x.evs) := by unfold Mc.c3; rw [List.getElem?_map, hx]; rfl
  have hd : (M.pick k).1.c3[i]? = some (YtfphpafkhljncaaGreat.c3 y.evs) := by unfold Mc.c3; rw [List.getElem?_map, hy]; rfl
  obtain ⟨a', b', c', e1, e2, e3, e4⟩ := u.row hc
  rw [hd] at e1
  have e1 := Option.some.inj e1
  have hb := cnE_bound y.evs
  have hl := (t2.ok.ths y (List.mem_of_getElem? hy)).1.evs
  obtain ⟨q1, q2, q3⟩ := t2.ths i y hy
  have h8 := (thrMay_spec (m5 _ (List.mem_of_getElem? q2))).1
  unfold YtfphpafkhljncaaGreat.c3 at e1
  obtain ⟨f1, f2, f3⟩ : (cnE y.evs 0 : Int) = a' ∧ (cnE y.evs 1 : Int) = b' ∧ (cnE y.evs 2 : Int) = c' := by simpa using e1
  refine ⟨_, _, _, a', b', c', y.txns, hc, by rw [hd]; exact congrArg some e1, q2, by omega, e2, by omega, e3, by omega, e4, by omega, h8⟩
theorem Cmp.k {a b c a' b' c' : Int} (k : Nat) (hk : k < 3) (h1 : 0 ≤ a ∧ a ≤ a') (h2 : 0 ≤ b ∧ b ≤ b') (h3 : 0 ≤ c ∧ c ≤ c') (hs : a' + b' + c' ≤ 8) :
    ∃ x y, [a, b, c][k]? = some x ∧ [a', b', c'][k]? = some y ∧ 0 ≤ x ∧ x ≤ y ∧ y ≤ 8 ∧ 0 ≤ s3 ([a, b, c].take k) ∧ s3 ([a, b, c].take k) ≤ 16 ∧ 0 ≤ s3 ([a', b', c'].take k) ∧ s3 ([a', b', c'].take k) ≤ 16 := by
  have : k = 0 ∨ k = 1 ∨ k = 2 := by omega
  rcases this with rfl | rfl | rfl
  · exact ⟨a, a', rfl, rfl, by omega, by omega, by omega, by simp [s3], by simp [s3], by simp [s3], by simp [s3]⟩
  · refine ⟨b, b', rfl, rfl, by omega, by omega, by omega, ?_, ?_, ?_, ?_⟩ <;> simp [s3] <;> omega
  · refine ⟨c, c', rfl, rfl, by omega, by omega, by omega, ?_, ?_, ?_, ?_⟩ <;> simp [s3] <;> omega
theorem rd3 {h : GH} {v : Value} {cs : List (List Int)} (r : rowsAt h 3 v (cs.map encL)) {t k : Nat} {c : List Int} {x : Int} (hc : cs[t]? = some c) (hx : c[k]? = some x) (hk : k < 3) {K : Value → Prop} (k' : K (i64 x)) :
    bnd (isV 3 v (i64 t)) fun v10 => bnd (iaV 3 1 v10 (i64 k)) fun v11 => bnd (ldV 1 false v11 h) K := by
  obtain ⟨bo, o, e2, hf, ha⟩ := r.fld (i := t) (c := encL c) (by rw [List.getElem?_map, hc]; rfl) .i64
  refine bnd_of e2 (bnd_of (iaV_at (by omega) .i64) ?_)
  rw [Nat.mul_one]
  exact bnd_of (hf k (i64 x) (by unfold encL; rw [List.getElem?_map, hx]; rfl)) k'
section
variable {h g : GH} {K : Value → GH → Prop} {v pv : Value} {p : Plan} {picks : List Int}
theorem T_TallyRuns (hp : All [baseP g] h) (ht : threadsAt g v p.threads) (rp : rowsAt g 1 pv (picks.map encI)) (hK : ∀ h', K (.bool true) h') : T Tryz.prog 10 [.agg (planC v p).toArray, pv] h K := by
  apply S10_T
  unfold S10
  have hpl : lnV pv = some (i64 picks.length) := by have := rp.len; rw [List.length_map] at this; exact this
  have hpm : picks.length ≤ 9223372036854775807 := by have := rp.max; rw [List.length_map] at this; exact this
  refine nw hp (.row 67 (planC v p) 3 true) rfl fun d h1 hp => ?_
  refine T_awake25 ?_
  refine wk ?_
  refine la0 hp (c := planC v p) (Nat.le_refl 3) rfl ?_
  refine T_mNew hp (fun h' hp => All.baseLe hp.tail) ht (fun hm h3 hp => ?_) fun hm b1 h3 hp => ?_
  · refine wk ?_
    refine T_Num ?_
    refine wk ?_
    exact hK _
  have ob := ht
  obtain ⟨tcs, rt, at_⟩ := ht
  have hvl : lnV v = some (i64 p.threads.length) := by have := rt.len; rw [at_.1] at this; exact this
  obtain ⟨m1, m2, m3, m4, m5⟩ := Plan.may_spec hm
  refine wk ?_
  refine T_Num ?_
  refine wk ?_
  unfold S10_j1
  refine bnd_of rfl ?_
  refine ld1 hp (v := v) rfl ?_
  refine bnd_of hvl ?_
  refine mk0 (n := p.threads.length) hp ⟨rfl, rfl⟩ (by omega) (by omega) fun wv h4 hp => ?_
  have hz : List.replicate p.threads.length [Value.int .i64 0, .int .i64 0, .int .i64 0] = (Mc.new p).c3.map encL := by
    rw [Mc.new_c3, List.map_replicate]; rfl
  rw [hz] at hp
  refine Lfp_fam (ι := Nat × Mc × Value) (fun q => [pv, ptr d, ptr b1, q.2.2, i64 q.1]) (fun q h' => q.1 ≤ picks.length ∧ q.2.1.tal p ∧ All (rowP 3 q.2.2 (q.2.1.c3.map encL) :: mcP b1 q.2.1 :: pts d (.row 67 (planC v p) 3 true) :: [baseP g]) h') (fun q => picks.length - q.1) ?_ (0, Mc.new p, wv) h4 ⟨by simp, Mc.new_tal hm, hp⟩
  clear hp
  rintro ⟨i, M, wv⟩ h5 X ⟨hi, ta, hp⟩ again
  simp only at hi ta hp
  simp only [tup_zero, tup_succ]
  refine bnd_of hpl ?_
  refine wk ?_
  refine ifV_cases (fun c => ?_) fun c => hK _
  refine wk ?_
  refine ifV_cases (fun c2 => ?_) fun c2 => hK _
  unfold S10_j2
  obtain ⟨x, hx⟩ : ∃ x, picks[i]? = some x := ⟨_, List.getElem?_eq_getElem (by omega)⟩
  obtain ⟨q1, d1, d2⟩ := (rp.le (All.baseLe hp.tail.tail.tail)).get1 (by rw [List.getElem?_map, hx]; rfl) .i64
  refine bnd_of d1 (bnd_of d2 ?_)
  refine T_mPick (hn (hp.up 1)) ta.ok fun h6 hp => ?_
  obtain ⟨t2, _⟩ := Mc.pick_tal (k := x) ta
  have cm := ta.cmp (k := x) hm
  generalize (M.pick x).1 = M' at hp t2 cm
  refine la2 hp (c := planC v p) (Nat.le_refl 3) rfl ?_
  refine T_mEvents hp t2.ok fun ev h7 hp => ?_
  refine ⟨by rw [ldV_agg (hp.pt (i := 3) rfl) _ _ (Nat.le_refl 3)]; rfl, ?_⟩
  refine evoP_open hp fun us hu hp => ?_
  refine T_CountP hp (ob.le (All.baseLe hp.tail.tail.tail.tail.tail)) (eventsAt_R (evR_of hp) hu) (by unfold countOk; rw [hm, t2.bad]; rfl) fun dv h8 hp => ?_
  rw [t2.counts] at hp
  replace hp := hn (hp.re 6 [0, 4, 3, 5])
  have hln := All.len hp
  rw [List.length_map, cm.ld] at hln
  refine wk ?_
  refine T_Num ?_
  refine wk ?_
  refine bnd_of hln ?_
  refine wk ?_
  refine bnd_of hvl ?_
  refine wk ?_
  rw [decide_eq_true rfl]
  refine wk ?_
  unfold S10_j3
  have rd := All.rows hp
  have rw_ := All.rows (hn (hp.up 1))
  have ep : ∀ {K' : Value → Prop}, K' v → bnd (ldV 1 false (.pointer (some ⟨d, 0 + 0, none⟩)) h8) K' := fun k => by
    refine ld3 hp (v := v) rfl k
  have thr : ∀ (t : Nat) tx, p.threads[t]? = some tx → ∀ {K' : Value → Prop}, K' (i64 tx.length) → bnd (isV 1 v (i64 t)) fun v32 => bnd (ldV 1 false v32 h8) fun v33 => bnd (lnV v33) K' := fun t tx htx K' k => by
    obtain ⟨cc, hcc, w, es, rfl, r1, a1⟩ := at_.get htx
    obtain ⟨q, e1, e2⟩ := (rt.le (All.baseLe (hp.tail.tail.tail.tail))).get1 hcc .i64
    have hwl : lnV w = some (i64 tx.length) := by have := r1.len; rw [a1.1] at this; exact this
    exact bnd_of e1 (bnd_of e2 (bnd_of hwl k))
  have nxt : ∀ {K' : Prop}, ((again' : i + 1 ≤ picks.length) → K') → K' := fun k => k (by omega)
  have hX := fun h' q => again (i + 1, M', dv) h' q (by simp only; omega)
  clear again
  generalize hcs : M.c3 = cs at cm rw_
  generalize hds : M'.c3 = ds at cm rd hp hX
  refine Lfp_fam (ι := Nat) (fun t => [pv, ptr d, ptr b1, wv, i64 i, dv, i64 (t3 (ds.take t) - t3 (cs.take t)), i64 t]) (fun t h' => t ≤ p.threads.length ∧ h' = h8) (fun t => p.threads.length - t) ?_ 0 h8 ⟨Nat.zero_le _, rfl⟩
  rintro t h9 Y ⟨htn, rfl⟩ againT
  simp only [tup_zero, tup_succ]
  have upt := cm.up t
  refine bnd_of hln ?_
  refine wk ?_
  refine ifV_cases (fun c3 => ?_) fun c3 => ?_
  · have htl : t < p.threads.length := by omega
    obtain ⟨a, b, e, a', b', e', tx, g1, g2, g3, r1, r2, r3, r4, r5, r6, r7, r8⟩ := cm.row t htl
    refine Lfp_fam (ι := Nat × Int × Int) (fun q => [pv, ptr d, ptr b1, wv, i64 i, dv, i64 q.2.1, i64 t, i64 q.2.2, i64 q.1]) (fun q h' => q.1 ≤ 3 ∧ h' = h9 ∧ q.2.1 = t3 (ds.take t) - t3 (cs.take t) + s3 ([a', b', e'].take q.1) - s3 ([a, b, e].take q.1) ∧ q.2.2 = s3 ([a', b', e'].take q.1)) (fun q => 3 - q.1) ?_ (0, t3 (ds.take t) - t3 (cs.take t), 0) h9 ⟨by simp, rfl, by simp [s3], by simp [s3]⟩
    rintro ⟨k, mr, al⟩ h10 Z ⟨hk, rfl, hmr, hal⟩ againK
    simp only at hk hmr hal
    simp only [tup_zero, tup_succ]
    refine wk ?_
    refine ifV_cases (fun c4 => ?_) fun c4 => ?_
    · obtain ⟨x1, y1, u1, u2, u3, u4, u5, u6, u7, u8, u9⟩ := Cmp.k (a := a) (b := b) (c := e) (a' := a') (b' := b') (c' := e') k (by omega) ⟨r1, r2⟩ ⟨r3, r4⟩ ⟨r5, r6⟩ (by omega)
      refine rd3 rd g2 u2 (by omega) ?_
      refine rd3 rw_ g1 u1 (by omega) ?_
      refine wk ?_
      refine ifV_cases (fun c5 => by exfalso; omega) fun c5 => ?_
      refine rd3 rd g2 u2 (by omega) ?_
      refine bnd_of (binV_add _ _ _) ?_
      rw [wrap_id (by omega) (by omega)]
      refine rd3 rw_ g1 u1 (by omega) ?_
      refine bnd_of (binV_sub _ _ _) ?_
      rw [wrap_id (by omega) (by omega)]
      refine rd3 rd g2 u2 (by omega) ?_
      refine bnd_of (binV_add _ _ _) ?_
      rw [wrap_id (by omega) (by omega)]
      refine bnd_of (binV_add _ _ _) ?_
      rw [wrap_id (by omega) (by omega)]
      exact againK (k + 1, mr + y1 - x1, al + y1) _ ⟨by simp only; omega, rfl, by simp only; rw [s3_take u1, s3_take u2]; omega, by simp only; rw [s3_take u2]; omega⟩ (by simp only; omega)
    · have : k = 3 := by omega
      subst this
      have s1 : s3 ([a', b', e'].take 3) = a' + b' + e' := by simp [s3]; omega
      have s2 : s3 ([a, b, e].take 3) = a + b + e := by simp [s3]; omega
      have s1' : s3 [a', b', e'] = a' + b' + e' := by simp [s3]; omega
      have s2' : s3 [a, b, e] = a + b + e := by simp [s3]; omega
      refine bnd_of rfl (ep ?_)
      refine thr t tx g3 ?_
      refine wk ?_
      refine ifV_cases (fun c5 => by exfalso; rw [s1] at hal; omega) fun c5 => ?_
      refine bnd_of (binV_add _ _ _) ?_
      rw [wrap_id (by omega) (by omega)]
      have := againT (t + 1) _ ⟨by omega, rfl⟩ (by omega)
      rw [t3_take g1, t3_take g2, s1', s2'] at this
      have e1 : t3 (ds.take t) + (a' + b' + e') - (t3 (cs.take t) + (a + b + e)) = mr := by rw [hmr, s1, s2]; omega
      rw [e1] at this
      exact this
  · refine wk ?_
    refine ifV_cases (fun c5 => by exfalso; omega) fun c5 => ?_
    refine bnd_of (binV_add _ _ _) ?_
    rw [wrap_id (by omega) (by omega)]
    refine hX _ ⟨by simp only; omega, t2, ?_⟩
    exact hn (hp.re 3 [0, 2])
end
end Go.Proofs.YtfphpafkhljncaaGreat
