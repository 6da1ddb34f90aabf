/- Several texts in one; nothing here is a statement on the program. -/
import Derived.Test.YtfphpafkhljncaaGreatQL7
set_option linter.unusedVariables false
set_option linter.unusedSimpArgs false
namespace Go.Proofs.YtfphpafkhljncaaGreat
open Go GW Go.Proofs
attribute [local irreducible] bnd ldV stV ifV binV eqI
set_option maxRecDepth 20000
def Th.mv (x : Th) (i : Nat) : Th := { x with cache := x.cache ++ x.ripe.take i, ripe := x.ripe.drop i }
theorem Th.mv_zero (x : Th) : x.mv 0 = x := by
  unfold Th.mv; simp
theorem Th.mv_cached {x : Th} {i : Nat} (h0 : x.push = none) (hi : i ≤ x.ripe.length) (hc : i + x.cache.length ≤ 2) (h : i = x.ripe.length ∨ 2 ≤ i + x.cache.length) : x.mv i = x.cached := by
  unfold Th.mv Th.cached
  rw [h0]
  simp only
  rcases h with h | h
  · have e1 : x.ripe.take i = x.ripe.take (2 - x.cache.length) := by rw [List.take_of_length_le (by omega), List.take_of_length_le (by omega)]
    have e2 : x.ripe.drop i = x.ripe.drop (2 - x.cache.length) := by rw [List.drop_of_length_le (by omega), List.drop_of_length_le (by omega)]
    rw [e1, e2]
  · have : i = 2 - x.cache.length := by omega
    rw [this]
theorem Th.cached_some {x : Th} (h : x.push ≠ none) : x.cached = x := by
  unfold Th.cached
  split
  · rename_i e; exact absurd e h
  · rfl
theorem All.isSliceR {v : Value} {us : List Int} {R : List Part} {h : GH} (hp : All (rdP v us :: R) h) : ∃ ad ln cap, v = .slice ad ln cap := by
  obtain ⟨ad, n, cap, e, _⟩ := hp.rd
  exact ⟨_, _, _, e⟩
section
variable {a b tb lb sz : Nat} {U : TypeId} {pre post : List Value} {pick : Int} {A : Ar} {L : List Int} {R : List Part} {h : GH} {K : Value → GH → Prop} {x : Th}
theorem T_frees (hp : All (arP 138 a A :: pts tb (trRow b a (lvP pre.length lb) pick) :: pts lb (lvRow U sz pre L post) :: thP b x :: R) h) (o : x.ok) (hx : x.next = some .fre) (live : x.evs ≠ []) (lo : Lok L)
    (hK : ∀ h', All (arP 138 a (x.fres A L).1.2.2 :: pts tb (trRow b a (lvP pre.length lb) pick) :: pts lb (lvRow U sz pre (x.fres A L).2 post) :: thP b (x.fres A L).1.1 :: R) h' → K (i64 (x.fres A L).1.2.1) h') : T Tryz.prog 135 [ptr tb] h K := by
  apply S135_T
  unfold S135
  have hc := o.cl
  have oc := Th.cached_ok o
  have lc : x.cached.evs ≠ [] := by unfold Th.cached; split <;> exact live
  -- behind the loop
  have fin : ∀ s4 again h', All (arP 138 a A :: pts tb (trRow b a (lvP pre.length lb) pick) :: pts lb (lvRow U sz pre L post) :: thP b x.cached :: R) h' → S135_j2 s4 (ptr tb) (ptr b) h' K again := by
    intro s4 again h' hp
    unfold Th.fres at hK
    simp only at hK
    generalize x.cached = y at hp oc lc hK
    unfold S135_j2
    have hp0 := hp
    refine tho hp fun v hp => ?_
    unfold thRow at hp
    refine wk ?_
    have hlen : lnV v.rv = some (i64 y.ripe.length) := by have := (All.rd (hn (hp.up 8))).len; rw [List.length_map] at this; exact this
    refine bnd_of hlen ?_
    refine bnd_of (eqI_int _ _ _) ?_
    cases hr : y.ripe with
    | nil =>
      rw [hr] at hK
      refine wk ?_
      refine T_takes hp0 oc lc lo fun h1 hp => ?_
      exact hK _ hp
    | cons s r =>
      have hm := oc.ri s (by rw [hr]; simp)
      rw [hr] at hK
      dsimp only at hK
      have po : (y.push.getD (.new s)).ok := by
        cases hq : y.push with
        | none => exact Push.new_ok hm.1 hm.2
        | some q => exact oc.push q hq
      refine ifV_n (by simp only [List.length_cons]; omega) ?_
      have j3 : ∀ h', All (arP 138 a A :: pts tb (trRow b a (lvP pre.length lb) pick) :: pts lb (lvRow U sz pre L post) :: thP b { y with push := some (y.push.getD (.new s)) } :: R) h' → S135_j3 s4 (ptr tb) (ptr b) h' K again := by
        intro h' hp
        generalize y.push.getD (.new s) = q at hp po hK
        unfold S135_j3
        refine tho hp fun v hp => ?_
        unfold thRow trRow at hp
        refine wk ?_
        obtain ⟨qb, e, hp1⟩ := opP_some (hn (hp.up 10))
        replace hp := hp1
        rw [e] at hp ⊢
        clear hp1
        replace hp := hp.re 4 [1, 2, 3, 0]
        replace hp := Go.Proofs.YtfphpafkhljncaaGreat.hn hp
        refine wk ?_
        replace hp := hp.re 4 [2, 3, 0, 1]
        replace hp := Go.Proofs.YtfphpafkhljncaaGreat.hn hp
        refine T_pushStep hp po fun h2 hp => ?_
        generalize q.step A = z at hp hK
        obtain ⟨q', code, B⟩ := z
        dsimp only at hp hK ⊢
        refine wk ?_
        have back : ∀ {h'} {w : Th} {v' : ThV} {c : Option Push} {ri : List Int}, All (arP 138 a B :: opP pushP v'.up c :: pts b (thRow w v') :: pts tb (trRow b a (lvP pre.length lb) pick) :: pts lb (lvRow U sz pre L post) :: tvP v'.tv y.txns :: evsP v'.ev y.evs :: rowP 1 v'.cv (y.cache.map encI) :: rowP 2 v'.lv (y.limbo.map Ret.enc) :: rdP v'.rv ri :: opP entP v'.ep y.ent :: opP popP v'.pp y.pop :: opP attP v'.ap y.att :: opP advP v'.dp y.adv :: R) h' →
            w.txns = y.txns → w.evs = y.evs → w.cache = y.cache → w.limbo = y.limbo → w.ripe = ri → w.ent = y.ent → w.push = c → w.pop = y.pop → w.att = y.att → w.adv = y.adv →
            All (arP 138 a B :: pts tb (trRow b a (lvP pre.length lb) pick) :: pts lb (lvRow U sz pre L post) :: thP b w :: R) h' := by
          intro h' w v' c ri hp e1 e2 e3 e4 e5 e6 e7 e8 e9 e10
          refine ths (v := v') ?_
          rw [e1, e2, e3, e4, e5, e6, e7, e8, e9, e10]
          exact hn (hp.re 14 [2, 3, 0, 4, 5, 6, 7, 8, 9, 10, 1, 11, 12, 13])
        unfold S135_j4
        cases hov : q'.l.over with
        | false =>
          rw [if_neg (by rw [hov]; simp)] at hK
          refine wk ?_
          refine hK _ (back (v' := { v with up := ptr qb }) (c := some q') (ri := y.ripe) ?_ rfl rfl rfl rfl hr.symm rfl rfl rfl rfl rfl)
          have := opP_mk (P := pushP) (hn (hp.up 1))
          exact hn (this.re 5 [1, 0, 2, 3, 4])
        | true =>
          refine wk ?_
          refine ifV_cases (fun c => ?_) fun c => ?_
          · rw [if_pos ⟨hov, c⟩] at hK
            subst c
            replace hp := hp.re 4 [2, 3, 1, 0]
            replace hp := Go.Proofs.YtfphpafkhljncaaGreat.hn hp
            refine wk ?_
            -- its tail
            rw [hr] at hp
            obtain ⟨v', d1, hp1⟩ := All.rdTl (hn (hp.up 9))
            refine bnd_of d1 ?_
            replace hp := hn (hp1.re 3 [1, 2, 0])
            clear hp1
            refine wk ?_
            refine st0 hp (thRow { y with push := none } { v with up := .pointer none }) rfl (Nat.le_of_ble_eq_true rfl) rfl rfl fun h3 hp => ?_
            obtain ⟨ad, ln, cap, rfl⟩ := All.isSliceR (hn (hp.up 2))
            unfold thRow at hp
            refine wk ?_
            refine st0 hp (thRow { y with push := none, ripe := r } { v with up := .pointer none, rv := .slice ad ln cap }) rfl (Nat.le_of_ble_eq_true rfl) rfl rfl fun h4 hp => ?_
            refine hK _ (back (w := { y with push := none, ripe := r }) (v' := { v with up := .pointer none, rv := .slice ad ln cap }) (c := none) (ri := r) ?_ rfl rfl rfl rfl rfl rfl rfl rfl rfl rfl)
            have z2 : All (pts b (thRow { y with push := none, ripe := r } { v with up := .pointer none, rv := .slice ad ln cap }) :: pts tb (trRow b a (lvP pre.length lb) pick) :: arP 138 a B :: pts lb (lvRow U sz pre L post) :: tvP v.tv y.txns :: evsP v.ev y.evs :: rowP 1 v.cv (y.cache.map encI) :: rowP 2 v.lv (y.limbo.map Ret.enc) :: rdP (.slice ad ln cap) r :: opP entP v.ep y.ent :: opP popP v.pp y.pop :: opP attP v.ap y.att :: opP advP v.dp y.adv :: R) h4 := by
              exact hn (hp.re 14 [0, 1, 4, 5, 6, 7, 8, 9, 2, 10, 11, 12, 13])
            have := opP_no (P := pushP) z2
            exact hn (this.re 5 [3, 0, 1, 2, 4])
          · rw [if_neg (fun q => c q.2)] at hK
            refine hK _ (back (v' := { v with up := ptr qb }) (c := some q') (ri := y.ripe) ?_ rfl rfl rfl rfl hr.symm rfl rfl rfl rfl rfl)
            have := opP_mk (P := pushP) (hn (hp.up 1))
            exact hn (this.re 5 [1, 0, 2, 3, 4])
      refine wk ?_
      cases hq : y.push with
      | none =>
        rw [hq] at hp
        have e := opP_none (hn (hp.up 10))
        rw [e]
        refine wk ?_
        obtain ⟨p, d1, d2⟩ := (All.rd (hn (hp.up 8))).get1 (i := 0) (x := i64 s) (by rw [hr]; rfl) .i64
        refine bnd_of d1 (bnd_of d2 ?_)
        refine T_NewPush (hn (hp.re 14 [0, 1, 2, 3, 4, 5, 6, 7, 8, 9, 11, 12, 13])) hm.1 hm.2 fun qb h1 hp => ?_
        replace hp := hp.re 2 [1, 0]
        replace hp := Go.Proofs.YtfphpafkhljncaaGreat.hn hp
        refine wk ?_
        refine st0 hp (thRow y { v with up := ptr qb }) rfl (Nat.le_of_ble_eq_true rfl) rfl rfl fun h2 hp => ?_
        refine j3 _ (ths (v := { v with up := ptr qb }) ?_)
        have := opP_mk (P := pushP) (y := Push.new s) (hn (hp.up 1))
        rw [hq]
        exact hn (this.re 14 [1, 2, 3, 4, 5, 6, 7, 8, 9, 10, 0, 11, 12, 13])
      | some q =>
        have hq2 := hq
        rw [hq] at hp
        obtain ⟨qb, e, _⟩ := opP_some (hn (hp.up 10))
        rw [e]
        refine wk ?_
        have ex : ({ y with push := some (y.push.getD (.new s)) } : Th) = y := by
          rw [hq]; show ({ y with push := some q } : Th) = y; rw [← hq]
        exact j3 _ (by rw [ex]; exact hp0)
  -- the loop
  have hp0 := hp
  refine tho hp fun v hp => ?_
  unfold thRow trRow at hp
  refine wk ?_
  clear hp v
  have start := hp0
  rw [← Th.mv_zero x] at start
  refine Lfp_fam (ι := Nat) (fun _ => [ptr tb, ptr b]) (fun i h' => i ≤ x.ripe.length ∧ i + x.cache.length ≤ 2 ∧ (i ≠ 0 → x.push = none) ∧ All (arP 138 a A :: pts tb (trRow b a (lvP pre.length lb) pick) :: pts lb (lvRow U sz pre L post) :: thP b (x.mv i) :: R) h') (fun i => 2 - i) ?_ 0 h ⟨by omega, by omega, fun h => absurd rfl h, start⟩
  clear hp0 start
  rintro i h1 X ⟨hi, hi2, hi3, hp⟩ again
  simp only [tup_zero, tup_succ]
  have hp0 := hp
  refine tho hp fun v hp => ?_
  unfold thRow at hp
  refine wk ?_
  have epu : (x.mv i).push = x.push := rfl
  have eca : (x.mv i).cache = x.cache ++ x.ripe.take i := rfl
  have eri : (x.mv i).ripe = x.ripe.drop i := rfl
  have ecl : (x.mv i).cache.length = x.cache.length + i := by rw [eca, List.length_append, List.length_take]; omega
  have erl : (x.mv i).ripe.length = x.ripe.length - i := by rw [eri, List.length_drop]
  cases hq : x.push with
  | some q =>
    rw [epu, hq] at hp
    obtain ⟨qb, e, _⟩ := opP_some (hn (hp.up 10))
    rw [e]
    refine wk ?_
    have i0 : i = 0 := by
      rcases Nat.eq_zero_or_pos i with z | z
      · exact z
      · have := hi3 (by omega); rw [hq] at this; cases this
    subst i0
    rw [Th.mv_zero] at hp0
    exact fin _ _ _ (by rw [Th.cached_some (by rw [hq]; simp)]; exact hp0)
  | none =>
    rw [epu, hq] at hp
    have e := opP_none (hn (hp.up 10))
    rw [e]
    refine wk ?_
    have hlen : lnV v.rv = some (i64 (x.mv i).ripe.length) := by have := (All.rd (hn (hp.up 8))).len; rw [List.length_map] at this; exact this
    refine bnd_of hlen ?_
    refine wk ?_
    refine ifV_cases (fun c => ?_) fun c => ?_
    · refine wk ?_
      have hclen : lnV v.cv = some (i64 (x.mv i).cache.length) := by have := All.len (hn (hp.up 6)); rw [List.length_map] at this; exact this
      refine bnd_of hclen ?_
      refine wk ?_
      refine ifV_cases (fun c2 => ?_) fun c2 => ?_
      · unfold S135_j1
        refine wk ?_
        obtain ⟨s, hs⟩ : ∃ s, x.ripe[i]? = some s := ⟨_, List.getElem?_eq_getElem (by omega)⟩
        have hcons : x.ripe.drop i = s :: x.ripe.drop (i + 1) := by
          have hlt : i < x.ripe.length := by omega
          rw [List.drop_eq_getElem_cons hlt]
          rw [List.getElem?_eq_getElem hlt] at hs
          cases hs; rfl
        rw [eri, hcons] at hp
        obtain ⟨p, d1, d2⟩ := (All.rd (hn (hp.up 8))).get1 (i := 0) (x := i64 s) rfl .i64
        refine bnd_of d1 (bnd_of d2 ?_)
        refine wk ?_
        obtain ⟨v', d3, hp1⟩ := All.rdTl (hn (hp.up 8))
        refine bnd_of d3 ?_
        obtain ⟨ad0, ln0, cap0, rfl⟩ := All.isSliceR hp1
        replace hp := hn (hp1.re 9 [7, 0, 1, 2, 3, 4, 5, 6, 8])
        clear hp1
        refine bs0 (size := 1) hp ([s].map encI) rfl rfl (by simp) (encI_good _) fun sv h2 hp => ?_
        have r2 := hp.rows
        refine ap0 (hn (hp.up 1)) r2 (encI_good _) (by decide) (by simp only [List.length_map, List.length_cons, List.length_nil]; omega) fun cv' h3 hp => ?_
        obtain ⟨ad, ln, cap, rfl⟩ := All.isSlice hp
        replace hp := hn (hp.re 10 [3, 0, 2, 4, 5, 6, 7, 8, 9])
        refine wk ?_
        refine st0 hp (thRow (x.mv (i + 1)) { v with cv := .slice ad ln cap }) rfl (Nat.le_of_ble_eq_true rfl) rfl rfl fun h4 hp => ?_
        unfold thRow at hp
        refine wk ?_
        refine st0 hp (thRow (x.mv (i + 1)) { v with cv := .slice ad ln cap, rv := .slice ad0 ln0 cap0 }) rfl (Nat.le_of_ble_eq_true rfl) rfl rfl fun h5 hp => ?_
        refine again (i + 1) _ ⟨by omega, by omega, fun _ => hq, ?_⟩ (by omega)
        refine ths (v := { v with cv := .slice ad ln cap, rv := .slice ad0 ln0 cap0 }) ?_
        have ec2 : (x.mv (i + 1)).cache.map encI = (x.mv i).cache.map encI ++ [s].map encI := by
          show (x.cache ++ x.ripe.take (i + 1)).map encI = (x.cache ++ x.ripe.take i).map encI ++ [s].map encI
          rw [List.take_add_one, hs, ← List.map_append, List.append_assoc]; rfl
        rw [ec2]
        have epu2 : (x.mv (i + 1)).push = none := hq
        rw [epu2]
        exact hn (hp.re 9 [0, 3, 4, 5, 6, 7, 1, 8, 2])
      · exact fin _ _ _ (by rw [← Th.mv_cached hq hi hi2 (by omega)]; exact hp0)
    · exact fin _ _ _ (by rw [← Th.mv_cached hq hi hi2 (by omega)]; exact hp0)
end
end Go.Proofs.YtfphpafkhljncaaGreat
namespace Go.Proofs.YtfphpafkhljncaaGreat
open Go GW Go.Proofs
attribute [local irreducible] bnd ldV stV ifV binV eqI
set_option maxRecDepth 20000
section
variable {R : List Part} {h : GH} {K : Value → GH → Prop}
theorem T_atWonNil (hK : K (.bool false) h) : T Tryz.prog 227 [.pointer none] h K := by
  apply S227_T
  unfold S227
  refine wk ?_
  exact hK
theorem T_atAnswersNil (hK : K (.slice none 0 0) h) : T Tryz.prog 252 [.pointer none] h K := by
  apply S252_T
  unfold S252
  refine wk ?_
  exact hK
theorem ansP_set {v' : Value} {ws : List Value} {es : List Event} {i : Nat} {e' : Event} (hp : All (rowP 2 v' (e'.answers.map Answer.enc) :: ansP ws es :: R) h) : All (ansP (ws.set i v') (es.set i e') :: R) h := by
  refine (All.fold (l := [_, _]) hp).head fun h1 z j e w he hw => ?_
  rw [List.getElem?_set] at he hw
  split at he
  · rename_i c
    rw [if_pos c] at hw
    split at he
    · split at hw
      · cases he; cases hw; exact All.rows z
      · cases hw
    · cases he
  · rename_i c
    rw [if_neg c] at hw
    exact (z.tail.mono1 ansP.mono) j e w he hw
theorem ansP_same {ws : List Value} {es : List Event} {i : Nat} {e0 e' : Event} (he0 : es[i]? = some e0) (ha : e'.answers = e0.answers) (hp : All (ansP ws es :: R) h) : All (ansP ws (es.set i e') :: R) h := by
  refine hp.head fun h1 z j e w he hw => ?_
  rw [List.getElem?_set] at he
  split at he
  · rename_i c
    split at he
    · cases he; subst c; rw [ha]; exact z _ e0 w he0 hw
    · cases he
  · exact z j e w he hw
theorem ev_st {v : Value} {cs : List (List Value)} {c : List Value} {i eb j : Nat} {y : Value} {K : GH → Prop} (hp : All (rowP 8 v cs :: R) h) (hc : cs[i]? = some c) (hi : isV 8 v (i64 i) = some (.pointer (some ⟨eb, i * 8, none⟩))) (hy : y.cells.size = 1) (hy2 : y.cells.toList = [y]) (hj : j < 8)
    (k : ∀ h', All (rowP 8 v (cs.set i (c.set j y)) :: R) h' → K h') (ho : oneCell y = true := by rfl) : bnd (stV 1 (.pointer (some ⟨eb, i * 8 + j, none⟩)) y h) K := by
  obtain ⟨b', i1, _, _, i4⟩ := All.elt hp hc .i64
  rw [hi] at i1
  cases i1
  obtain ⟨h', e, hp⟩ := i4 j 1 y hy (by omega) (by rw [hy2]; simp [ho])
  rw [hy2] at hp
  exact bnd_of e (k _ hp)
theorem evTurn_set {es : List Event} {e : Event} {f : Event → Event} (h : es.getLast? = some e) : evTurn es f = es.set (es.length - 1) (f e) := by
  unfold evTurn; rw [h]
end
theorem Th.ok.limbo_small {x : Th} (o : x.ok) : x.limbo.length ≤ 200 := by
  have h1 := o.cap; have h2 := o.evs; have h3 := thrMay_spec o.txns; have h4 := o.t1; have h5 := o.k1
  have f : flagOf x.next ≤ 1 := by unfold flagOf; split <;> omega
  omega
section
variable {P1 P2 P3 : Part} {a b tb : Nat} {lp : Value} {pick : Int} {A : Ar} {R : List Part} {h : GH} {K : Value → GH → Prop} {x : Th}
theorem T_enters (hp : All (arP 138 a A :: pts tb (trRow b a lp pick) :: P3 :: thP b x :: R) h) (o : x.ok)
    (hK : ∀ h', All (arP 138 a (x.ents A).2.2 :: pts tb (trRow b a lp pick) :: P3 :: thP b (x.ents A).1 :: R) h' → K (i64 (x.ents A).2.1) h') : T Tryz.prog 114 [ptr tb] h K := by
  apply S114_T
  unfold S114
  have hp0 := hp
  refine tho hp fun v hp => ?_
  unfold thRow trRow at hp
  refine wk ?_
  unfold Th.ents at hK
  cases he : x.ent with
  | none =>
    rw [he] at hp hK
    dsimp only at hK
    have e := opP_none (hn (hp.up 9))
    rw [e]
    refine wk ?_
    refine T_enterStepNil ?_
    refine wk ?_
    unfold S114_j1
    refine wk ?_
    exact hK _ hp0
  | some n =>
    have on := o.ent n he
    rw [he] at hp hK
    dsimp only at hK
    obtain ⟨nb, e, hp1⟩ := opP_some (hn (hp.up 9))
    replace hp := hp1
    rw [e] at hp ⊢
    clear hp1
    replace hp := hp.re 4 [1, 2, 3, 0]
    replace hp := Go.Proofs.YtfphpafkhljncaaGreat.hn hp
    refine wk ?_
    replace hp := hp.re 4 [2, 3, 0, 1]
    replace hp := Go.Proofs.YtfphpafkhljncaaGreat.hn hp
    refine T_enterStep hp on fun h2 hp => ?_
    have os := (Ent.step_ok on (arP.at hp0).2).1
    generalize n.step A = z at hp hK os
    obtain ⟨n', code, B⟩ := z
    dsimp only at hp hK os ⊢
    refine wk ?_
    have back : ∀ {h'} {w : Th} {v' : ThV} {c : Option Ent} {ri : List Int} {li : List Ret}, All (arP 138 a B :: opP entP v'.ep c :: pts b (thRow w v') :: pts tb (trRow b a lp pick) :: P3 :: tvP v'.tv x.txns :: evsP v'.ev x.evs :: rowP 1 v'.cv (x.cache.map encI) :: rowP 2 v'.lv (li.map Ret.enc) :: rdP v'.rv ri :: opP pushP v'.up x.push :: opP popP v'.pp x.pop :: opP attP v'.ap x.att :: opP advP v'.dp x.adv :: R) h' →
        w.txns = x.txns → w.evs = x.evs → w.cache = x.cache → w.limbo = li → w.ripe = ri → w.ent = c → w.push = x.push → w.pop = x.pop → w.att = x.att → w.adv = x.adv →
        All (arP 138 a B :: pts tb (trRow b a lp pick) :: P3 :: thP b w :: R) h' := by
      intro h' w v' c ri li hp e1 e2 e3 e4 e5 e6 e7 e8 e9 e10
      refine ths (v := v') ?_
      rw [e1, e2, e3, e4, e5, e6, e7, e8, e9, e10]
      exact hn (hp.re 14 [2, 3, 0, 4, 5, 6, 7, 8, 9, 1, 10, 11, 12, 13])
    unfold S114_j1
    cases hov : n'.over with
    | false =>
      rw [if_neg (by rw [hov]; simp)] at hK
      refine wk ?_
      refine hK _ (back (v' := { v with ep := ptr nb }) (c := some n') (ri := x.ripe) (li := x.limbo) ?_ rfl rfl rfl rfl rfl rfl rfl rfl rfl rfl)
      have := opP_mk (P := entP) (hn (hp.up 1))
      exact hn (this.re 2 [1, 0])
    | true =>
      refine wk ?_
      refine ifV_cases (fun c => ?_) fun c => ?_
      · rw [if_pos ⟨hov, c⟩] at hK
        subst c
        replace hp := hp.re 4 [2, 3, 1, 0]
        replace hp := Go.Proofs.YtfphpafkhljncaaGreat.hn hp
        refine wk ?_
        refine T_entEpoch (hn (hp.up 2)) ?_
        refine wk ?_
        refine T_limboTake hp (fun h' hp => All.rows (hn (hp.up 8))) o.li os.e0 (by have := os.e1; omega) (by have := o.limbo_small; omega) fun v1 v2 h3 hp => ?_
        obtain ⟨ad1, ln1, cap1, rfl⟩ := All.isSlice hp
        obtain ⟨ad2, ln2, cap2, rfl⟩ := All.isSlice (hn (hp.up 1))
        have hp := hp.head (Q := rdP _ _) fun _ z => z.rows
        replace hp := hn (hp.re 12 [2, 3, 0, 1, 4, 5, 6, 7, 8, 9])
        refine wk ?_
        refine st0 hp (thRow x { v with ep := ptr nb, rv := .slice ad1 ln1 cap1 }) rfl (Nat.le_of_ble_eq_true rfl) rfl rfl fun h4 hp => ?_
        unfold thRow at hp
        refine wk ?_
        refine st0 hp (thRow x { v with ep := ptr nb, rv := .slice ad1 ln1 cap1, lv := .slice ad2 ln2 cap2 }) rfl (Nat.le_of_ble_eq_true rfl) rfl rfl fun h5 hp => ?_
        unfold thRow at hp
        refine wk ?_
        refine st0 hp (thRow { x with next := some .fre } { v with ep := ptr nb, rv := .slice ad1 ln1 cap1, lv := .slice ad2 ln2 cap2 }) rfl (Nat.le_of_ble_eq_true rfl) rfl rfl fun h6 hp => ?_
        refine hK _ (back (v' := { v with ep := ptr nb, rv := .slice ad1 ln1 cap1, lv := .slice ad2 ln2 cap2 }) (c := some n') (ri := ripes x.limbo n'.e) (li := rests x.limbo n'.e) ?_ rfl rfl rfl rfl rfl rfl rfl rfl rfl rfl)
        have := opP_mk (P := entP) (hn (hp.up 4))
        exact hn (this.re 10 [5, 0, 1, 2, 6, 7, 8, 9, 4, 3])
      · rw [if_neg (fun q => c q.2)] at hK
        refine hK _ (back (v' := { v with ep := ptr nb }) (c := some n') (ri := x.ripe) (li := x.limbo) ?_ rfl rfl rfl rfl rfl rfl rfl rfl rfl rfl)
        have := opP_mk (P := entP) (hn (hp.up 1))
        exact hn (this.re 2 [1, 0])
theorem T_retires (hp : All (arP 138 a A :: pts tb (trRow b a lp pick) :: P3 :: thP b x :: R) h) (o : x.ok)
    (hK : ∀ h', All (arP 138 a (x.rets A).2.2 :: pts tb (trRow b a lp pick) :: P3 :: thP b (x.rets A).1 :: R) h' → K (i64 (x.rets A).2.1) h') : T Tryz.prog 204 [ptr tb] h K := by
  apply S204_T
  unfold S204
  have hA := (arP.at hp).2
  have olim := o.limbo_small
  replace hp := hn (hp.re 4 [1, 0, 2, 3])
  unfold trRow at hp
  refine wk ?_
  replace hp := hn (hp.re 4 [1, 0, 2, 3])
  refine L_Load hp (by decide) (by decide) fun h1 hp => ?_
  refine wk ?_
  refine T_epOf (Ar.at_range hA 29).2 ?_
  refine wk ?_
  unfold Th.rets at hK
  cases hi : epIs (A.at 29) with
  | false =>
    rw [hi] at hK
    refine wk ?_
    exact hK _ hp
  | true =>
    rw [hi, if_pos rfl] at hK
    refine wk ?_
    refine tho hp fun v hp => ?_
    unfold thRow at hp
    refine wk ?_
    replace hp := hn (hp.re 8 [7, 0, 1, 2, 3, 4, 5, 6])
    refine bs0 (size := 2) hp ([Ret.mk x.slot (valOf (A.at 29))].map Ret.enc) rfl rfl (by simp) (ret_good _) fun sv h2 hp => ?_
    have r2 := hp.rows
    refine ap0 (hn (hp.up 1)) r2 (ret_good _) (by decide) (by simp only [List.length_map, List.length_cons, List.length_nil]; omega) fun lv' h3 hp => ?_
    obtain ⟨ad, ln, cap, rfl⟩ := All.isSlice hp
    rw [← List.map_append] at hp
    replace hp := hn (hp.re 9 [2, 0, 3, 4, 5, 6, 7, 8])
    refine wk ?_
    refine st0 hp (thRow x { v with lv := .slice ad ln cap }) rfl (Nat.le_of_ble_eq_true rfl) rfl rfl fun h4 hp => ?_
    unfold thRow at hp
    refine wk ?_
    refine st0 hp (thRow { x with slot := -1 } { v with lv := .slice ad ln cap }) rfl (Nat.le_of_ble_eq_true rfl) rfl rfl fun h5 hp => ?_
    unfold thRow at hp
    refine wk ?_
    refine st0 hp (thRow { x with slot := -1, next := some .lea } { v with lv := .slice ad ln cap }) rfl (Nat.le_of_ble_eq_true rfl) rfl rfl fun h6 hp => ?_
    unfold thRow at hp
    refine wk ?_
    have back : ∀ {h'} {w : Th}, All (pts b (thRow w { v with lv := .slice ad ln cap }) :: rowP 2 (.slice ad ln cap) ((x.limbo ++ [Ret.mk x.slot (valOf (A.at 29))]).map Ret.enc) :: pts tb (trRow b a lp pick) :: arP 138 a (A.ld 29) :: P3 :: tvP v.tv x.txns :: evsP v.ev x.evs :: rowP 1 v.cv (x.cache.map encI) :: rdP v.rv x.ripe :: opP entP v.ep x.ent :: opP pushP v.up x.push :: opP popP v.pp x.pop :: opP attP v.ap x.att :: opP advP v.dp x.adv :: R) h' →
        w.txns = x.txns → w.evs = x.evs → w.cache = x.cache → w.limbo = x.limbo ++ [Ret.mk x.slot (valOf (A.at 29))] → w.ripe = x.ripe → w.ent = x.ent → w.push = x.push → w.pop = x.pop → w.att = x.att → w.adv = x.adv →
        All (arP 138 a (A.ld 29) :: pts tb (trRow b a lp pick) :: P3 :: thP b w :: R) h' := by
      intro h' w hp e1 e2 e3 e4 e5 e6 e7 e8 e9 e10
      refine ths (v := { v with lv := .slice ad ln cap }) ?_
      rw [e1, e2, e3, e4, e5, e6, e7, e8, e9, e10]
      exact hn (hp.re 9 [0, 2, 3, 4, 5, 6, 7, 1, 8])
    cases ha : x.att with
    | none =>
      have hwv : (x.att.map At.won).getD false = false := by rw [ha]; rfl
      rw [hwv, if_neg (by decide)] at hK
      have e := opP_none (P := attP) (hn ((show All _ h6 from by rw [ha] at hp; exact hp).up 12))
      rw [e]
      refine T_atWonNil ?_
      refine wk ?_
      exact hK _ (back hp rfl rfl rfl rfl rfl rfl rfl rfl rfl rfl)
    | some y =>
      have hwv : (x.att.map At.won).getD false = y.won := by rw [ha]; rfl
      rw [hwv] at hK
      obtain ⟨yb, e, hq⟩ := opP_some (P := attP) (hn ((show All _ h6 from by rw [ha] at hp; exact hp).up 12))
      rw [e]
      refine T_atWon hq ?_
      cases hw : y.won with
      | true =>
        rw [hw, if_pos rfl] at hK
        refine wk ?_
        refine st0 hp (thRow { x with slot := -1, next := some .lea, end_ := 0 } { v with lv := .slice ad ln cap }) rfl (Nat.le_of_ble_eq_true rfl) rfl rfl fun h7 hp => ?_
        exact hK _ (back hp rfl rfl rfl rfl rfl rfl rfl rfl rfl rfl)
      | false =>
        rw [hw, if_neg (by decide)] at hK
        refine wk ?_
        exact hK _ (back hp rfl rfl rfl rfl rfl rfl rfl rfl rfl rfl)
theorem T_leaves (hp : All (arP 138 a A :: pts tb (trRow b a lp pick) :: P3 :: thP b x :: R) h) (o : x.ok)
    (hK : ∀ h', All (arP 138 a (x.leas A).2.2 :: pts tb (trRow b a lp pick) :: P3 :: thP b (x.leas A).1 :: R) h' → K (i64 (x.leas A).2.1) h') : T Tryz.prog 185 [ptr tb] h K := by
  apply S185_T
  unfold S185
  have n0 := o.n0; have n1 := o.n1; have i0 := o.i0; have i1 := o.i1
  refine tho hp fun v hp => ?_
  unfold thRow trRow at hp
  refine wk ?_
  refine T_NewAdvance (hn (hp.re 14 [0, 1, 2, 3, 4, 5, 6, 7, 8, 9, 10, 11, 12])) n0 n1 fun db h1 hp => ?_
  replace hp := hn (hp.re 3 [1, 2, 0])
  refine wk ?_
  refine st0 hp (thRow x { v with dp := ptr db }) rfl (Nat.le_of_ble_eq_true rfl) rfl rfl fun h2 hp => ?_
  unfold thRow at hp
  refine wk ?_
  refine st0 hp (thRow { x with next := some .adv } { v with dp := ptr db }) rfl (Nat.le_of_ble_eq_true rfl) rfl rfl fun h3 hp => ?_
  unfold thRow at hp
  refine wk ?_
  replace hp := hn (hp.up 3)
  refine T_leave hp i0 (show x.id < 4 by omega) fun h4 hp => ?_
  refine hK _ (ths (v := { v with dp := ptr db }) ?_)
  have := opP_mk (P := advP) (y := Adv.new x.n) (hn (hp.up 3))
  exact hn (this.re 14 [2, 3, 1, 4, 5, 6, 7, 8, 9, 10, 11, 12, 13, 0])
theorem T_answer (hp : All (P1 :: P2 :: P3 :: thP b x :: R) h) (t0 : 0 ≤ x.tries) (t1 : x.tries < x.k) (k1 : x.k ≤ 16) (live : x.evs ≠ []) (oe : x.evs.length ≤ 8) (oa : ∀ n, x.att = some n → n.ans.length ≤ 2)
    (hK : ∀ h', All (P1 :: P2 :: P3 :: thP b (x.answer pick) :: R) h' → K (.tuple #[]) h') : T Tryz.prog 229 [ptr b, i64 pick] h K := by
  apply S229_T
  unfold S229
  refine tho hp fun v hp => ?_
  unfold thRow at hp
  refine wk ?_
  refine st0 hp (thRow { x with next := none } v) rfl (Nat.le_of_ble_eq_true rfl) rfl rfl fun h1 hp => ?_
  unfold thRow at hp
  refine wk ?_
  refine st0 hp (thRow { x with next := none, tries := x.tries + 1 } v) rfl (Nat.le_of_ble_eq_true rfl) rfl rfl fun h2 hp => ?_
  replace hp := hn (hp.up 5)
  refine evsP_open hp fun ws hl hp => ?_
  obtain ⟨e, w, g1, g2, g3, g4⟩ := evCs_last hl live
  obtain ⟨eb, i1, i2, i3, i4⟩ := All.elt hp g4 .i64
  have hlen : lnV v.ev = some (i64 x.evs.length) := by have := All.len hp; rw [evCs_len hl] at this; exact this
  have l0 := List.length_pos_iff.2 live
  replace hp := hn (hp.re 3 [2, 0, 1])
  refine T_event (x := { x with next := none, tries := x.tries + 1 }) hp hlen l0 (by omega) i1 ?_
  clear i2 i3 i4
  unfold thRow at hp
  refine wk ?_
  replace hp := hn (hp.up 1)
  refine ev_st (j := 6) hp g4 i1 rfl rfl (by decide) fun h3 hp => ?_
  rw [show (e.cells w).set 6 (i64 (x.tries + 1)) = ({ e with attempts := x.tries + 1 } : Event).cells w from rfl, evCs_set hl, set_self g3] at hp
  have hp := (ansP_same g2 (e' := { e with attempts := x.tries + 1 }) rfl (hn (hp.up 2))).re 3 [1, 2, 0]
  replace hp := hn hp
  -- the event, as it is now
  have g2' : (x.evs.set (x.evs.length - 1) { e with attempts := x.tries + 1 })[x.evs.length - 1]? = some { e with attempts := x.tries + 1 } := List.getElem?_set_self (by omega)
  have hl' : ws.length = (x.evs.set (x.evs.length - 1) { e with attempts := x.tries + 1 }).length := by rw [List.length_set]; exact hl
  have back : ∀ {h'} {y : Th} {v' : ThV} {es' : List Event} {ws' : List Value}, ws'.length = es'.length → All (rowP 8 v'.ev (evCs es' ws') :: ansP ws' es' :: pts b (thRow y v') :: P2 :: P1 :: P3 :: tvP v'.tv x.txns :: rowP 1 v'.cv (x.cache.map encI) :: rowP 2 v'.lv (x.limbo.map Ret.enc) :: rdP v'.rv x.ripe :: opP entP v'.ep x.ent :: opP pushP v'.up x.push :: opP popP v'.pp x.pop :: opP attP v'.ap x.att :: opP advP v'.dp x.adv :: R) h' →
      y.txns = x.txns → y.evs = es' → y.cache = x.cache → y.limbo = x.limbo → y.ripe = x.ripe → y.ent = x.ent → y.push = x.push → y.pop = x.pop → y.att = x.att → y.adv = x.adv →
      All (P1 :: P2 :: P3 :: thP b y :: R) h' := by
    intro h' y v' es' ws' hw hp e1 e2 e3 e4 e5 e6 e7 e8 e9 e10
    refine ths (v := v') ?_
    rw [e1, e2, e3, e4, e5, e6, e7, e8, e9, e10]
    have := evsP_shut hw hp
    exact hn (this.re 6 [1, 2, 3, 4, 5, 0])
  unfold Th.answer at hK
  replace hp := hn (hp.re 3 [1, 0, 2])
  refine wk ?_
  have j2 : ∀ h', ¬ (x.end_ = 2 ∧ x.tries + 1 < x.k) → All (pts b (thRow { x with next := none, tries := x.tries + 1 } v) :: rowP 8 v.ev (evCs (x.evs.set (x.evs.length - 1) { e with attempts := x.tries + 1 }) ws) :: ansP ws (x.evs.set (x.evs.length - 1) { e with attempts := x.tries + 1 }) :: P2 :: P1 :: P3 :: tvP v.tv x.txns :: rowP 1 v.cv (x.cache.map encI) :: rowP 2 v.lv (x.limbo.map Ret.enc) :: rdP v.rv x.ripe :: opP entP v.ep x.ent :: opP pushP v.up x.push :: opP popP v.pp x.pop :: opP attP v.ap x.att :: opP advP v.dp x.adv :: R) h' →
      S229_j2 (ptr b) (i64 pick) (.pointer (some ⟨eb, (x.evs.length - 1) * 8, none⟩)) h' K := by
    intro h' c hp
    rw [if_neg c] at hK
    have j3 : ∀ h' w' (rs : List Answer), rs = (if x.end_ = 0 then (x.att.map At.ans).getD [] else e.answers) → All (pts b (thRow { x with next := none, tries := x.tries + 1 } v) :: rowP 8 v.ev (evCs (x.evs.set (x.evs.length - 1) { e with attempts := x.tries + 1, answers := rs }) (ws.set (x.evs.length - 1) w')) :: ansP (ws.set (x.evs.length - 1) w') (x.evs.set (x.evs.length - 1) { e with attempts := x.tries + 1, answers := rs }) :: P2 :: P1 :: P3 :: tvP v.tv x.txns :: rowP 1 v.cv (x.cache.map encI) :: rowP 2 v.lv (x.limbo.map Ret.enc) :: rdP v.rv x.ripe :: opP entP v.ep x.ent :: opP pushP v.up x.push :: opP popP v.pp x.pop :: opP attP v.ap x.att :: opP advP v.dp x.adv :: R) h' →
        S229_j3 (ptr b) (i64 pick) (.pointer (some ⟨eb, (x.evs.length - 1) * 8, none⟩)) h' K := by
      intro h' w' rs ers hp
      have q2 : (x.evs.set (x.evs.length - 1) { e with attempts := x.tries + 1, answers := rs })[x.evs.length - 1]? = some { e with attempts := x.tries + 1, answers := rs } := List.getElem?_set_self (by omega)
      have q3 : (ws.set (x.evs.length - 1) w')[x.evs.length - 1]? = some w' := List.getElem?_set_self (by omega)
      have ql : (ws.set (x.evs.length - 1) w').length = (x.evs.set (x.evs.length - 1) { e with attempts := x.tries + 1, answers := rs }).length := by rw [List.length_set, List.length_set]; exact hl
      unfold S229_j3
      unfold thRow at hp
      refine wk ?_
      replace hp := hn (hp.up 1)
      refine ev_st (j := 5) hp (evCs_get q2 q3) i1 rfl rfl (by decide) fun h4 hp => ?_
      rw [show (({ e with attempts := x.tries + 1, answers := rs } : Event).cells w').set 5 (i64 x.end_) = ({ e with attempts := x.tries + 1, answers := rs, end_ := x.end_ } : Event).cells w' from rfl, evCs_set ql, set_self q3, List.set_set] at hp
      refine wk ?_
      refine ev_st (j := 4) hp (evCs_get (List.getElem?_set_self (by omega)) q3) i1 rfl rfl (by decide) fun h5 hp => ?_
      rw [show (({ e with attempts := x.tries + 1, answers := rs, end_ := x.end_ } : Event).cells w').set 4 (i64 pick) = ({ e with attempts := x.tries + 1, answers := rs, end_ := x.end_, answered := pick } : Event).cells w' from rfl, evCs_set (by rw [List.length_set, List.length_set]; exact hl), set_self q3, List.set_set] at hp
      refine wk ?_
      replace hp := hn (hp.up 1)
      refine st0 hp (thRow { x with next := none, tries := 0 } v) rfl (Nat.le_of_ble_eq_true rfl) rfl rfl fun h6 hp => ?_
      have hp := (ansP_same q2 (e' := { e with attempts := x.tries + 1, answers := rs, end_ := x.end_, answered := pick }) rfl (hn (hp.up 2))).re 3 [2, 0, 1]
      rw [List.set_set] at hp
      replace hp := hn hp
      refine hK _ (back (v' := v) (ws' := ws.set (x.evs.length - 1) w') (es' := x.evs.set (x.evs.length - 1) { e with attempts := x.tries + 1, answers := rs, end_ := x.end_, answered := pick }) (by rw [List.length_set, List.length_set]; exact hl) hp rfl ?_ rfl rfl rfl rfl rfl rfl rfl rfl)
      show evTurn x.evs _ = _
      rw [evTurn_set g1, ers]
    unfold S229_j2
    unfold thRow at hp
    refine wk ?_
    refine ifV_cases (fun c0 => ?_) fun c0 => ?_
    · refine wk ?_
      cases ha : x.att with
      | none =>
        have ee := opP_none (P := attP) (hn ((show All _ h' from by rw [ha] at hp; exact hp).up 13))
        rw [ee]
        refine T_atAnswersNil ?_
        refine wk ?_
        replace hp := hn (hp.up 1)
        refine ev_st (j := 7) hp (evCs_get g2' g3) i1 rfl rfl (by decide) fun h4 hp => ?_
        rw [show (({ e with attempts := x.tries + 1 } : Event).cells w).set 7 (.slice none 0 0) = ({ e with attempts := x.tries + 1, answers := [] } : Event).cells (.slice none 0 0) from rfl, evCs_set hl', List.set_set] at hp
        have hp := ansP_set (i := x.evs.length - 1) (e' := { e with attempts := x.tries + 1, answers := [] }) ((hn (hp.up 2)).emp_cons (rowP_nil _ _))
        rw [List.set_set] at hp
        exact j3 _ _ [] (by rw [if_pos c0, ha]; rfl) (hn (hp.re 3 [2, 1, 0]))
      | some y =>
        obtain ⟨yb, ee, hq⟩ := opP_some (P := attP) (hn ((show All _ h' from by rw [ha] at hp; exact hp).up 13))
        rw [ee]
        refine T_atAnswers hq (by have := oa y ha; omega) fun av h4 hp => ?_
        obtain ⟨ad, ln, cap, rfl⟩ := All.isSlice hp
        have hp := opP_mk (P := attP) (hn (hp.up 1))
        rw [← ee, ← ha] at hp
        replace hp := hn (hp.re 16 [3, 1, 4, 2, 5, 6, 7, 8, 9, 10, 11, 12, 13, 14, 0, 15])
        refine wk ?_
        refine ev_st (j := 7) hp (evCs_get g2' g3) i1 rfl rfl (by decide) fun h5 hp => ?_
        rw [show (({ e with attempts := x.tries + 1 } : Event).cells w).set 7 (.slice ad ln cap) = ({ e with attempts := x.tries + 1, answers := y.ans } : Event).cells (.slice ad ln cap) from rfl, evCs_set hl', List.set_set] at hp
        have hp := ansP_set (i := x.evs.length - 1) (e' := { e with attempts := x.tries + 1, answers := y.ans }) (hn (hp.re 3 [1, 2, 0]))
        rw [List.set_set] at hp
        exact j3 _ _ y.ans (by rw [if_pos c0, ha]; rfl) (hn (hp.re 3 [2, 1, 0]))
    · refine j3 _ w e.answers (by rw [if_neg c0]) ?_
      rw [set_self g3]
      exact hp
  refine ifV_cases (fun c => ?_) fun c => ?_
  · refine wk ?_
    unfold S229_j1
    refine ifV_cases (fun c2 => ?_) fun c2 => ?_
    · rw [if_pos ⟨c, c2⟩] at hK
      refine wk ?_
      refine T_Pause (by omega) (by omega) ?_
      refine wk ?_
      refine st0 hp (thRow { x with next := none, tries := x.tries + 1, pause := pauseM x.pol (x.tries + 1) } v) rfl (Nat.le_of_ble_eq_true rfl) rfl rfl fun h4 hp => ?_
      refine hK _ (back hl' (hn (hp.re 3 [1, 2, 0])) rfl ?_ rfl rfl rfl rfl rfl rfl rfl rfl)
      show evTurn x.evs _ = _
      rw [evTurn_set g1]
    · exact j2 _ (fun q => c2 q.2) hp
  · unfold S229_j1
    refine wk ?_
    exact j2 _ (fun q => c q.1) hp
end
end Go.Proofs.YtfphpafkhljncaaGreat
namespace Go.Proofs.YtfphpafkhljncaaGreat
open Go GW Go.Proofs
attribute [local irreducible] bnd ldV stV ifV binV eqI
set_option maxRecDepth 20000
section
variable {P1 P2 P3 : Part} {a b tb lb sz : Nat} {U : TypeId} {pre post : List Value} {lp : Value} {pick : Int} {A : Ar} {L : List Int} {R : List Part} {h : GH} {K : Value → GH → Prop} {x : Th}
theorem T_advances (hp : All (arP 138 a A :: pts tb (trRow b a lp pick) :: P3 :: thP b x :: R) h) (o : x.ok) (hx : x.next = some .adv)
    (hK : ∀ h', All (arP 138 a (x.advs A pick).2.2 :: pts tb (trRow b a lp pick) :: P3 :: thP b (x.advs A pick).1 :: R) h' → K (i64 (x.advs A pick).2.1) h') : T Tryz.prog 207 [ptr tb] h K := by
  apply S207_T
  unfold S207
  have live := o.live (.inl (by rw [hx]; simp))
  have oe : x.evs.length ≤ 8 := by have := o.evs; have := thrMay_spec o.txns; omega
  have hp0 := hp
  refine tho hp fun v hp => ?_
  unfold thRow trRow at hp
  refine wk ?_
  unfold Th.advs at hK
  cases he : x.adv with
  | none =>
    rw [he] at hp hK
    dsimp only at hK
    have e := opP_none (hn (hp.up 13))
    rw [e]
    refine wk ?_
    refine T_advStepNil ?_
    refine wk ?_
    unfold S207_j1
    refine wk ?_
    exact hK _ hp0
  | some d =>
    have od := o.adv d he
    rw [he] at hp hK
    dsimp only at hK
    obtain ⟨db, e, hp1⟩ := opP_some (hn (hp.up 13))
    replace hp := hp1
    rw [e] at hp ⊢
    clear hp1
    replace hp := hp.re 4 [1, 2, 3, 0]
    replace hp := Go.Proofs.YtfphpafkhljncaaGreat.hn hp
    refine wk ?_
    replace hp := hp.re 4 [2, 3, 0, 1]
    replace hp := Go.Proofs.YtfphpafkhljncaaGreat.hn hp
    refine T_advStep hp od fun h2 hp => ?_
    generalize d.step A = z at hp hK
    obtain ⟨d', code, B⟩ := z
    dsimp only at hp hK ⊢
    refine wk ?_
    have hp2 : All (arP 138 a B :: pts tb (trRow b a lp pick) :: P3 :: thP b { x with adv := some d' } :: R) h2 := by
      refine ths (v := { v with dp := ptr db }) ?_
      have := opP_mk (P := advP) (hn (hp.up 1))
      exact hn (this.re 14 [2, 3, 1, 4, 5, 6, 7, 8, 9, 10, 11, 12, 13, 0])
    unfold S207_j1
    cases hov : d'.over with
    | false =>
      rw [if_neg (by rw [hov]; simp)] at hK
      refine wk ?_
      exact hK _ hp2
    | true =>
      refine wk ?_
      refine ifV_cases (fun c => ?_) fun c => ?_
      · rw [if_pos ⟨hov, c⟩] at hK
        subst c
        replace hp := hn (hp2.re 4 [1, 0, 2, 3])
        unfold trRow at hp
        refine wk ?_
        refine T_answer hp o.t0 o.t1 o.k1 live oe (fun n hn => (o.att n hn).2) fun h3 hp => ?_
        exact hK _ (hn (hp.re 4 [1, 0, 2, 3]))
      · rw [if_neg (fun q => c q.2)] at hK
        exact hK _ hp2
theorem T_thDone (hp : All (thP b x :: R) h) (oe : x.evs.length ≤ 8) (hK : K (.bool x.done) h) : T Tryz.prog 33 [ptr b] h K := by
  apply S33_T
  unfold S33
  refine thP_open hp fun v hp => ?_
  unfold thRow at hp
  refine wk ?_
  have hlen := evP_len (hn (hp.up 2))
  refine bnd_of hlen ?_
  refine wk ?_
  have htl : lnV v.tv = some (i64 x.txns.length) := by
    refine tvP_open (hn (hp.up 1)) fun cs hq => ?_
    have := hq.mono1 tv1.mono
    have h2 := this.1.len
    rw [this.2.1] at h2; exact h2
  refine bnd_of htl ?_
  refine wk ?_
  unfold Th.done at hK
  refine ifV_cases (fun c => ?_) fun c => ?_
  · rw [decide_eq_true (by omega), Bool.true_and] at hK
    refine wk ?_
    refine ifV_cases (fun c2 => ?_) fun c2 => ?_
    · have : x.evs = [] := List.length_eq_zero_iff.1 (by omega)
      rw [this] at hK
      exact hK
    · refine wk ?_
      refine evsP_open (hn (hp.up 2)) fun ws hl hp => ?_
      have live : x.evs ≠ [] := fun e => c2 (by rw [e]; rfl)
      obtain ⟨e, w, g1, g2, g3, g4⟩ := evCs_last hl live
      obtain ⟨eb, i1, i2, i3, i4⟩ := All.elt hp g4 .i64
      rw [g1] at hK
      have l0 := List.length_pos_iff.2 live
      rw [show (x.evs.length : Int) - 1 = ((x.evs.length - 1 : Nat) : Int) by omega]
      refine bnd_of i1 (bnd_of rfl (bnd_of (i2 4 1 (i64 e.answered) rfl) ?_))
      refine wk ?_
      exact hK
  · rw [decide_eq_false (by omega), Bool.false_and] at hK
    refine wk ?_
    exact hK
theorem evCs_snoc {es : List Event} {ws : List Value} (hl : ws.length = es.length) {e : Event} {w : Value} : evCs es ws ++ [e.cells w] = evCs (es ++ [e]) (ws ++ [w]) := by
  unfold evCs
  rw [List.zipWith_append hl.symm]; rfl
theorem ansP_snoc {ws : List Value} {es : List Event} {e' : Event} (ha : e'.answers = []) (hl : ws.length = es.length) (hp : All (ansP ws es :: R) h) : All (ansP (ws ++ [.slice none 0 0]) (es ++ [e']) :: R) h := by
  refine hp.head fun h1 z j e w he hw => ?_
  rw [List.getElem?_append] at he hw
  split at he
  · rw [if_pos (by omega)] at hw; exact z j e w he hw
  · rw [if_neg (by omega)] at hw
    have : j - es.length = 0 := by
      rcases Nat.eq_zero_or_pos (j - es.length) with q | q
      · exact q
      · rw [List.getElem?_eq_none (by simp; omega)] at he; cases he
    rw [this] at he
    rw [hl, this] at hw
    cases he; cases hw
    rw [ha]; exact rowsAt_nil _ _
theorem T_begin (hp : All (thP b x :: R) h) (o : x.ok) (hx : x.next = none)
    (hK : ∀ h', All (thP b (x.begin pick).1 :: R) h' → K (.bool (x.begin pick).2) h') : T Tryz.prog 79 [ptr b, i64 pick] h K := by
  apply S79_T
  unfold S79
  have oe : x.evs.length ≤ 8 := by have := o.evs; have := thrMay_spec o.txns; omega
  refine T_thDone hp oe ?_
  unfold Th.begin at hK
  cases hd : x.done with
  | true => rw [hd] at hK; refine wk ?_; exact hK _ hp
  | false =>
    rw [hd] at hK
    simp only [Bool.false_eq_true, if_false] at hK
    refine wk ?_
    refine thP_open hp fun v hp => ?_
    have p1 := o.p1; have i0 := o.i0; have i1 := o.i1; have n1 := o.n1
    unfold thRow at hp
    refine wk ?_
    refine ifV_cases (fun c => ?_) fun c => ?_
    · rw [if_pos c] at hK
      refine wk ?_
      refine st0 hp (thRow { x with pause := x.pause - 1 } v) rfl (Nat.le_of_ble_eq_true rfl) rfl rfl fun h1 hp => ?_
      exact hK _ (thP_shut (v := v) (x := { x with pause := x.pause - 1 }) hp)
    · rw [if_neg c] at hK
      have j1 : ∀ (es : List Event) (ev : Value) h', es = (if x.tries = 0 then x.evs ++ [⟨x.id, x.evs.length, pick, -1, -1, 0, 0, []⟩] else x.evs) → All (pts b (thRow x { v with ev := ev }) :: tvP v.tv x.txns :: evsP ev es :: rowP 1 v.cv (x.cache.map encI) :: rowP 2 v.lv (x.limbo.map Ret.enc) :: rdP v.rv x.ripe :: opP entP v.ep x.ent :: opP pushP v.up x.push :: opP popP v.pp x.pop :: opP attP v.ap x.att :: opP advP v.dp x.adv :: R) h' →
          S79_j1 (ptr b) h' K := by
        intro es ev h' ees hp
        unfold S79_j1
        unfold thRow at hp
        refine wk ?_
        refine T_NewEnter (hn (hp.re 11 [0, 1, 2, 3, 4, 5, 7, 8, 9, 10])) i0 (by omega) fun nb h1 hp => ?_
        replace hp := hn (hp.re 2 [1, 0])
        refine wk ?_
        refine st0 hp (thRow x { v with ev := ev, ep := ptr nb }) rfl (Nat.le_of_ble_eq_true rfl) rfl rfl fun h2 hp => ?_
        unfold thRow at hp
        refine wk ?_
        refine st0 hp (thRow { x with end_ := 2 } { v with ev := ev, ep := ptr nb }) rfl (Nat.le_of_ble_eq_true rfl) rfl rfl fun h3 hp => ?_
        unfold thRow at hp
        refine wk ?_
        refine st0 hp (thRow { x with end_ := 2, next := some .ent } { v with ev := ev, ep := ptr nb }) rfl (Nat.le_of_ble_eq_true rfl) rfl rfl fun h4 hp => ?_
        refine hK _ (thP_shut (v := { v with ev := ev, ep := ptr nb }) ?_)
        have := opP_mk (P := entP) (y := Ent.new x.id) (hn (hp.up 1))
        have := hn (this.re 11 [1, 2, 3, 4, 5, 6, 0, 7, 8, 9, 10])
        rw [ees] at this
        exact this
      refine wk ?_
      refine ifV_cases (fun c2 => ?_) fun c2 => ?_
      · refine wk ?_
        have hlen := evP_len (hn (hp.up 2))
        refine bnd_of hlen (bnd_of rfl ?_)
        replace hp := hn (hp.up 2)
        refine evsP_open hp fun ws hl hp => ?_
        have eg : good 8 ((⟨x.id, x.evs.length, pick, -1, -1, 0, 0, []⟩ : Event).cells (.slice none 0 0)) := ⟨rfl, rfl⟩
        refine bs0 (size := 8) hp [(⟨x.id, x.evs.length, pick, -1, -1, 0, 0, []⟩ : Event).cells (.slice none 0 0)] rfl rfl (by simp) (fun c hc => by rw [List.mem_singleton.1 hc]; exact eg) fun sv h2 hp => ?_
        have r2 := hp.rows
        refine ap0 (hn (hp.up 1)) r2 (fun c hc => by rw [List.mem_singleton.1 hc]; exact eg) (by decide) (by rw [evCs_len hl]; simp only [List.length_cons, List.length_nil]; omega) fun ev' h3 hp => ?_
        obtain ⟨ad, ln, cap, rfl⟩ := All.isSlice hp
        rw [evCs_snoc hl] at hp
        have hp := ansP_snoc (e' := ⟨x.id, x.evs.length, pick, -1, -1, 0, 0, []⟩) rfl hl (hn (hp.re 3 [2, 0]))
        have hl2 : (ws ++ [Value.slice none 0 0]).length = (x.evs ++ [(⟨x.id, x.evs.length, pick, -1, -1, 0, 0, []⟩ : Event)]).length := by simp [hl]
        have hp := evsP_shut hl2 (hn (hp.re 2 [1, 0]))
        replace hp := hn (hp.re 3 [1, 2, 0])
        refine wk ?_
        refine st0 hp (thRow x { v with ev := .slice ad ln cap }) rfl (Nat.le_of_ble_eq_true rfl) rfl rfl fun h4 hp => ?_
        exact j1 _ _ _ (by rw [if_pos c2]) hp
      · refine wk ?_
        exact j1 x.evs v.ev _ (by rw [if_neg c2]) hp
def Th.z (x : Th) : Th := { x with ts := -1, tg := 0 }
theorem Th.step_dead (h : x.dead = true) : x.step A L pick = (x, false, 1800, A, L) := by unfold Th.step; rw [if_pos h]
theorem Th.step_some {a : Act} (h : x.dead = false) (hx : x.next = some a) : x.step A L pick = Th.ended (x.z.act A L pick a) := by
  unfold Th.step
  rw [if_neg (by rw [h]; decide)]
  show (match x.next with | some a => Th.ended (x.z.act A L pick a) | none => _) = _
  rw [hx]
theorem Th.step_none (h : x.dead = false) (hx : x.next = none) : x.step A L pick = if (x.z.begin pick).2 then Th.ended ((x.z.begin pick).1.act A L pick .ent) else ((x.z.begin pick).1, false, 0, A, L) := by
  unfold Th.step
  rw [if_neg (by rw [h]; decide)]
  show (match x.next with | some a => _ | none => if (x.z.begin pick).2 then Th.ended ((x.z.begin pick).1.act A L pick .ent) else ((x.z.begin pick).1, false, 0, A, L)) = _
  rw [hx]
theorem T_thStep (hp : All (arP 138 a A :: pts lb (lvRow U sz pre L post) :: thP b x :: R) h) (o : x.ok) (lo : Lok L) (hpick : 0 ≤ pick)
    (hK : ∀ h', All (arP 138 a (x.step A L pick).2.2.2.1 :: pts lb (lvRow U sz pre (x.step A L pick).2.2.2.2 post) :: thP b (x.step A L pick).1 :: R) h' → K (.tuple #[.bool (x.step A L pick).2.1, i64 (x.step A L pick).2.2.1]) h') : T Tryz.prog 29 [ptr b, ptr a, lvP pre.length lb, i64 pick] h K := by
  apply S29_T
  unfold S29
  unfold lvP
  refine wk ?_
  unfold S29_j1
  refine wk ?_
  refine thP_open (hn (hp.up 2)) fun v hq => ?_
  replace hp := hq
  clear hq
  unfold thRow at hp
  refine wk ?_
  cases hd : x.dead with
  | true =>
    rw [Th.step_dead hd] at hK
    refine wk ?_
    exact hK _ (hn ((thP_shut (v := v) hp).re 3 [1, 2, 0]))
  | false =>
    refine wk ?_
    unfold S29_j2
    refine wk ?_
    refine st0 hp (thRow { x with ts := -1, tg := 0 } v) rfl (Nat.le_of_ble_eq_true rfl) rfl rfl fun h1 hp => ?_
    have o1 : x.z.ok := { o with }
    have j3 : ∀ (y : Th) (act : Act) h', y.ok → y.next = some act → All (arP 138 a A :: pts lb (lvRow U sz pre L post) :: thP b y :: R) h' →
        (∀ h'', All (arP 138 a (Th.ended (y.act A L pick act)).2.2.2.1 :: pts lb (lvRow U sz pre (Th.ended (y.act A L pick act)).2.2.2.2 post) :: thP b (Th.ended (y.act A L pick act)).1 :: R) h'' → K (.tuple #[.bool (Th.ended (y.act A L pick act)).2.1, i64 (Th.ended (y.act A L pick act)).2.2.1]) h'') →
        S29_j3 (ptr b) (ptr a) (.pointer (some ⟨lb, pre.length, none⟩)) (i64 pick) h' K := by
      intro y act h' oy hy hp hK
      unfold S29_j3
      refine thP_open (hn (hp.up 2)) fun v hq => ?_
      have hp0 := hp
      replace hp := hq
      clear hq
      unfold thRow at hp
      refine wk ?_
      replace hp := hp0
      refine nw hp (trRow b a (lvP pre.length lb) pick) rfl fun tb h2 hp => ?_
      replace hp := hn (hp.re 4 [1, 0, 2, 3])
      have live := oy.live (.inl (by rw [hy]; simp))
      -- behind the action
      have fin : ∀ (r : (Th × Int × Ar) × List Int) h', r = y.act A L pick act → All (arP 138 a r.1.2.2 :: pts tb (trRow b a (lvP pre.length lb) pick) :: pts lb (lvRow U sz pre r.2 post) :: thP b r.1.1 :: R) h' →
          bnd (eqI (i64 r.1.2.1) (.int .i64 0)) fun b9 => ifV (.bool (!b9)) (bnd (ncV (ptr b)) fun v10 => bnd (faV 7 v10) fun v11 => bnd (stV 1 v11 (.bool true) h') fun h12 => K (.tuple #[(.bool true), (.int .i64 1800)]) h12) (K (.tuple #[(.bool true), (.int .i64 0)]) h') := by
        intro r h' er hp
        rw [← er] at hK
        unfold Th.ended at hK
        refine wk ?_
        by_cases c : r.1.2.1 = 0
        · rw [if_pos c] at hK
          rw [decide_eq_true c]
          refine wk ?_
          exact hK _ (hn (hp.re 4 [0, 2, 3]))
        · rw [if_neg c] at hK
          rw [decide_eq_false c]
          refine wk ?_
          refine thP_open (hn (hp.up 3)) fun v hq => ?_
          replace hp := hq
          clear hq
          unfold thRow at hp
          refine wk ?_
          refine st0 hp (thRow { r.1.1 with dead := true } v) rfl (Nat.le_of_ble_eq_true rfl) rfl rfl fun h3 hp => ?_
          have := thP_shut (v := v) (x := { r.1.1 with dead := true }) hp
          exact hK _ (hn (this.re 4 [1, 3, 0]))
      rw [hy]
      cases act with
      | ent => exact T_enters hp oy fun h3 hp => fin (y.act A L pick .ent) _ rfl hp
      | fre => exact T_frees hp oy hy live lo fun h3 hp => fin (y.act A L pick .fre) _ rfl hp
      | tak => exact T_takes hp oy live lo fun h3 hp => fin (y.act A L pick .tak) _ rfl hp
      | tri => exact T_tries hp (fun n hn => (oy.att n hn).1) fun h3 hp => fin (y.act A L pick .tri) _ rfl hp
      | ret => exact T_retires hp oy fun h3 hp => fin (y.act A L pick .ret) _ rfl hp
      | lea => exact T_leaves hp oy fun h3 hp => fin (y.act A L pick .lea) _ rfl hp
      | adv => exact T_advances hp oy hy fun h3 hp => fin (y.act A L pick .adv) _ rfl hp
    unfold thRow at hp
    refine wk ?_
    have hp1 : All (thP b x.z :: arP 138 a A :: pts lb (lvRow U sz pre L post) :: R) h1 := thP_shut (v := v) hp
    cases hnx : x.next with
    | some act =>
      rw [Th.step_some hd hnx] at hK
      have enx : eqK NK.func true (actV (some act)) Value.nilFunc = some false := by cases act <;> rfl
      refine bnd_of enx ?_
      refine wk ?_
      exact j3 _ act _ o1 hnx (hn (hp1.re 3 [1, 2, 0])) hK
    | none =>
      rw [Th.step_none hd hnx] at hK
      refine wk ?_
      refine T_begin (pick := pick) hp1 o1 hnx fun h2 hp => ?_
      have hb := Th.begin_ok (pick := pick) o1 hnx
      generalize x.z.begin pick = r at hp hK hb
      obtain ⟨y, bb⟩ := r
      dsimp only at hp hK hb ⊢
      cases bb with
      | false =>
        rw [if_neg (by decide)] at hK
        refine wk ?_
        exact hK _ (hn (hp.re 3 [1, 2, 0]))
      | true =>
        rw [if_pos rfl] at hK
        refine wk ?_
        exact j3 y .ent _ hb.1 (hb.2 rfl) (hn (hp.re 3 [1, 2, 0])) hK
end
end Go.Proofs.YtfphpafkhljncaaGreat
namespace Go.Proofs.YtfphpafkhljncaaGreat
open Go GW Go.Proofs
attribute [local irreducible] bnd ldV stV ifV binV eqI
set_option maxRecDepth 20000
def ansO : List Value → List Event → List Part
  | w :: ws, e :: es => rowP 2 w (e.answers.map Answer.enc) :: ansO ws es
  | _, _ => []
def evoP (v : Value) (es : List Event) : Part := fun h => ∃ ws, All [evP v ws es, All (ansO ws es)] h
def Short (es : List Event) : Prop := ∀ e ∈ es, e.answers.length ≤ 2
section
variable {R : List Part} {h : GH} {K : Value → GH → Prop} {b : Nat} {x : Th}
theorem ansO_le : ∀ {ws : List Value} {es : List Event} {h : GH}, All (ansO ws es) h → ansP ws es h := by
  intro ws
  induction ws with
  | nil => intro es h _ i e w _ h2; simp at h2
  | cons w ws ih =>
    intro es h z i e w' h1 h2
    cases es with
    | nil => simp at h1
    | cons x es =>
      have z : All (rowP 2 w (x.answers.map Answer.enc) :: ansO ws es) h := z
      cases i with
      | zero => simp at h1 h2; subst h1; subst h2; exact All.rows z
      | succ i => exact ih z.tail i e w' (by simpa using h1) (by simpa using h2)
theorem evoP_open {C : Prop} {v : Value} {es : List Event} (hp : All (evoP v es :: R) h) (k : ∀ ws, ws.length = es.length → All (rowP 8 v (evCs es ws) :: All (ansO ws es) :: R) h → C) : C := by
  obtain ⟨ws, hp⟩ := All.ex hp
  have hp : All (evP v ws es :: All (ansO ws es) :: R) h := All.flat hp
  obtain ⟨e, hp⟩ := All.pure hp
  exact k ws e hp
theorem evoP_shut {v : Value} {ws : List Value} {es : List Event} (hl : ws.length = es.length) (hp : All (rowP 8 v (evCs es ws) :: All (ansO ws es) :: R) h) : All (evoP v es :: R) h :=
  (All.fold (l := [evP v ws es, All (ansO ws es)]) (hp.head fun _ z => ⟨hl, z⟩)).head fun h1 z => ⟨ws, z⟩
theorem evoP_evs {v : Value} {es : List Event} (hp : All (evoP v es :: R) h) : All (evsP v es :: R) h :=
  evoP_open hp fun ws hl hp => evsP_shut hl (hp.mono2 fun _ z => z.head fun _ p => ansO_le p)
theorem T_CloneAnswersR {v : Value} {xs : List Answer} (hp : All R h) (hr : ∀ h', All R h' → rowsAt h' 2 v (xs.map Answer.enc)) (hb : xs.length ≤ 1000) (hK : ∀ v' h', All (rowP 2 v' (xs.map Answer.enc) :: R) h' → K v' h') : T Tryz.prog 81 [v] h K := by
  apply S81_T
  unfold S81
  have r := hr _ hp
  obtain ⟨ad, n, cap, rfl, hl, h1, h2, hx⟩ := r
  rw [List.length_map] at hl
  cases ad with
  | none =>
    have hx0 : xs = [] := by
      cases xs with
      | nil => rfl
      | cons y ys =>
        obtain ⟨bb, off, T, pre, sz, f, e, _⟩ := hx 0 y.enc rfl
        cases e
    subst hx0
    have n0 : n = 0 := hl.symm
    subst n0
    by_cases hc : cap = 0
    · subst hc
      refine wk ?_
      exact hK _ _ (hp.emp_cons (rowP_nil 2 _))
    · refine wk ?_
      exact hK _ _ (hp.emp_cons (rowP_nil 2 _))
  | some q =>
    refine wk ?_
    refine bs0 (size := 2) hp [] rfl rfl (by simp) (fun c hc => by cases hc) fun nv h1 hp => ?_
    have hr := hr _ hp.tail
    refine ap0 hp hr (Answer.all_good xs) (by decide) (by simp; omega) fun nv' h2 hp => ?_
    exact hK _ _ hp
theorem evs_good {v : Value} {es : List Event} {ws : List Value} (hp : All (rowP 8 v (evCs es ws) :: R) h) : ∀ c ∈ evCs es ws, Go.Proofs.YtfphpafkhljncaaGreat.good 8 c := hp.row.good.1
theorem T_CloneEvents {v : Value} {es : List Event} {ws : List Value} (hp : All R h) (hr : ∀ h', All R h' → rowsAt h' 8 v (evCs es ws)) (hg : ∀ c ∈ evCs es ws, Go.Proofs.YtfphpafkhljncaaGreat.good 8 c) (hb : (evCs es ws).length ≤ 1000) (hK : ∀ v' h', All (rowP 8 v' (evCs es ws) :: R) h' → K v' h') : T Tryz.prog 80 [v] h K := by
  apply S80_T
  unfold S80
  have r := hr _ hp
  obtain ⟨ad, n, cap, rfl, hl, h1, h2, hx⟩ := r
  generalize evCs es ws = cs at *
  cases ad with
  | none =>
    have hx0 : cs = [] := by
      cases cs with
      | nil => rfl
      | cons y ys =>
        obtain ⟨bb, off, T, pre, sz, f, e, _⟩ := hx 0 y rfl
        cases e
    subst hx0
    have n0 : n = 0 := hl.symm
    subst n0
    by_cases hc : cap = 0
    · subst hc
      refine wk ?_
      exact hK _ _ (hp.emp_cons (rowP_nil 8 _))
    · refine wk ?_
      exact hK _ _ (hp.emp_cons (rowP_nil 8 _))
  | some q =>
    refine wk ?_
    refine bs0 (size := 8) hp [] rfl rfl (by simp) (fun c hc => by cases hc) fun nv h1 hp => ?_
    have hr := hr _ hp.tail
    refine ap0 hp hr hg (by decide) (by simp; omega) fun nv' h2 hp => ?_
    exact hK _ _ hp
end
end Go.Proofs.YtfphpafkhljncaaGreat
namespace Go.Proofs.YtfphpafkhljncaaGreat
open Go GW Go.Proofs
attribute [local irreducible] bnd ldV stV ifV binV eqI
set_option maxRecDepth 20000
def Th.stock (x : Th) : List Int := [0, x.cache.length, x.limbo.length, x.ripe.length + if x.slot = -1 then 0 else 1]
section
variable {R : List Part} {h : GH} {K : Value → GH → Prop} {b : Nat} {x : Th} {pick s : Int}
theorem ansO_app : ∀ {ws : List Value} {es : List Event} {w : Value} {e : Event}, ws.length = es.length → ansO (ws ++ [w]) (es ++ [e]) = ansO ws es ++ [rowP 2 w (e.answers.map Answer.enc)] := by
  intro ws
  induction ws with
  | nil =>
    intro es w e hl
    cases es with
    | nil => rfl
    | cons x es => simp at hl
  | cons w0 ws ih =>
    intro es w e hl
    cases es with
    | nil => simp at hl
    | cons x es =>
      show rowP 2 w0 (x.answers.map Answer.enc) :: ansO (ws ++ [w]) (es ++ [e]) = _
      rw [ih (by simpa using hl)]; rfl
theorem ansO_snoc {ws : List Value} {es : List Event} {w : Value} {e : Event} (hl : ws.length = es.length) (hp : All (rowP 2 w (e.answers.map Answer.enc) :: All (ansO ws es) :: R) h) : All (All (ansO (ws ++ [w]) (es ++ [e])) :: R) h := by
  rw [ansO_app hl]
  refine (All.fold (l := [rowP 2 w (e.answers.map Answer.enc), All (ansO ws es)]) hp).head fun h1 z => ?_
  exact All.app (Sep.mono (fun _ z => z) (fun _ z => All.one z) (Sep.comm (Sep.mono (fun _ z => z) (fun _ z => by
    obtain ⟨h3, h4, _, l3, _, p, _⟩ := z
    exact All.le l3 p) z)))
theorem T_thEvents (hp : All (thP b x :: R) h) (oe : x.evs.length ≤ 8) (os : Short x.evs) (hK : ∀ v' h', All (evoP v' x.evs :: thP b x :: R) h' → K v' h') : T Tryz.prog 31 [ptr b] h K := by
  apply S31_T
  unfold S31
  refine wk ?_
  refine thP_open hp fun v hp => ?_
  unfold thRow at hp
  refine wk ?_
  replace hp := hn (hp.up 2)
  refine evsP_open hp fun ws hl hp => ?_
  have hg := evs_good hp
  have hcl := evCs_len hl
  refine T_CloneEvents hp (fun h' hp => All.rows hp) hg (by omega) fun v' h1 hp => ?_
  have hlen : lnV v' = some (i64 x.evs.length) := by have := All.len hp; rw [hcl] at this; exact this
  refine bnd_of hlen ?_
  -- i: so many are copied; us: their answers' places, then the old ones'
  refine Lfp_fam (ι := Nat × List Value) (fun p => [v', i64 x.evs.length, i64 p.1]) (fun p h' => p.1 ≤ x.evs.length ∧ p.2.length = p.1 ∧ All (rowP 8 v' (evCs x.evs (p.2 ++ ws.drop p.1)) :: All (ansO p.2 (x.evs.take p.1)) :: rowP 8 v.ev (evCs x.evs ws) :: ansP ws x.evs :: pts b (thRow x v) :: tvP v.tv x.txns :: rowP 1 v.cv (x.cache.map encI) :: rowP 2 v.lv (x.limbo.map Ret.enc) :: rdP v.rv x.ripe :: opP entP v.ep x.ent :: opP pushP v.up x.push :: opP popP v.pp x.pop :: opP attP v.ap x.att :: opP advP v.dp x.adv :: R) h') (fun p => x.evs.length - p.1) ?_ (0, []) h1 ⟨by simp, rfl, ?_⟩
  rotate_left
  · have z := All.emp_cons (P := All (ansO [] (x.evs.take 0))) hp (by exact trivial)
    exact hn (z.re 2 [1, 0])
  clear hp
  rintro ⟨i, us⟩ h2 X ⟨hi, hu, hp⟩ again
  simp only at hi hu hp
  simp only [tup_zero, tup_succ]
  refine wk ?_
  refine ifV_cases (fun c => ?_) fun c => ?_
  · obtain ⟨e, he⟩ : ∃ e, x.evs[i]? = some e := ⟨_, List.getElem?_eq_getElem (by omega)⟩
    obtain ⟨w, hw⟩ : ∃ w, ws[i]? = some w := ⟨_, List.getElem?_eq_getElem (by omega)⟩
    have hw2 : (us ++ ws.drop i)[i]? = some w := by
      rw [List.getElem?_append_right (by omega), hu, Nat.sub_self, List.getElem?_drop, Nat.add_zero]; exact hw
    obtain ⟨eb, i1, i2, i3, i4⟩ := All.elt hp (evCs_get he hw2) .i64
    refine bnd_of i1 (bnd_of rfl (bnd_of (i2 7 1 w rfl) ?_))
    have hsh := os e (List.mem_of_getElem? he)
    refine T_CloneAnswersR hp (fun h' hp => ((hn (hp.up 3)).mono1 ansP.mono) i e w he hw) (by omega) fun w' h3 hp => ?_
    replace hp := hn (hp.re 2 [1, 0])
    refine bnd_of i1 (bnd_of rfl ?_)
    obtain ⟨ad, ln, cap, rfl⟩ := All.isSlice (hn (hp.up 1))
    refine ev_st (j := 7) hp (evCs_get he hw2) i1 rfl rfl (by decide) fun h4 hp => ?_
    have hl2 : (us ++ ws.drop i).length = x.evs.length := by rw [List.length_append, List.length_drop]; omega
    rw [show (e.cells w).set 7 (.slice ad ln cap) = e.cells (.slice ad ln cap) from rfl, evCs_set hl2, set_self he] at hp
    refine wk ?_
    refine again (i + 1, us ++ [.slice ad ln cap]) _ ⟨by simp only; omega, by simp [hu], ?_⟩ (by simp only; omega)
    have hz := ansO_snoc (e := e) (ws := us) (es := x.evs.take i) (by rw [List.length_take]; omega) (hn (hp.re 3 [1, 2, 0]))
    have e1 : x.evs.take i ++ [e] = x.evs.take (i + 1) := by rw [List.take_add_one, he]; rfl
    have hdrop : ws.drop i = w :: ws.drop (i + 1) := by
      have hlt : i < ws.length := by omega
      rw [List.drop_eq_getElem_cons hlt]
      rw [List.getElem?_eq_getElem hlt] at hw
      cases hw; rfl
    have e2 : (us ++ ws.drop i).set i (.slice ad ln cap) = us ++ [.slice ad ln cap] ++ ws.drop (i + 1) := by
      rw [List.set_append_right _ _ (by omega), hu, Nat.sub_self, hdrop, List.set_cons_zero, List.append_assoc]; rfl
    rw [e1] at hz
    rw [e2] at hz
    exact hn (hz.re 2 [1, 0])
  · have hie : i = x.evs.length := by omega
    subst hie
    have e3 : us ++ ws.drop x.evs.length = us := by rw [← hl, List.drop_length, List.append_nil]
    rw [e3, List.take_length] at hp
    refine hK _ _ ?_
    have hp := evoP_shut hu hp
    have hp := evsP_shut hl (hn (hp.re 3 [1, 2, 0]))
    have hp := hn (hp.re 12 [2, 3, 0, 4, 5, 6, 7, 8, 9, 10, 11, 1])
    have := thP_shut (v := v) hp
    exact hn (this.re 2 [1, 0])
theorem T_thStock (hp : All (thP b x :: R) h) (o : x.ok) (hK : ∀ h', All (thP b x :: R) h' → K (.agg (x.stock.map i64).toArray) h') : T Tryz.prog 32 [ptr b] h K := by
  apply S32_T
  unfold S32
  have hrl : x.ripe.length ≤ 200 := by
    have h1 := o.cap; have h2 := o.evs; have h3 := thrMay_spec o.txns; have h4 := o.t1; have h5 := o.k1
    have f : flagOf x.next ≤ 1 := by unfold flagOf; split <;> omega
    omega
  refine nw hp (.row 44 [i64 0, i64 0, i64 0, i64 0] 4 true) rfl fun v1 h1 hp => ?_
  refine wk ?_
  have hp0 := hp
  replace hp := hn (hp.re 2 [1, 0])
  refine thP_open hp fun v hp => ?_
  unfold thRow at hp
  refine wk ?_
  have l1 : lnV v.cv = some (i64 x.cache.length) := by have := All.len (hn (hp.up 3)); rw [List.length_map] at this; exact this
  have l2 : lnV v.lv = some (i64 x.limbo.length) := by have := All.len (hn (hp.up 4)); rw [List.length_map] at this; exact this
  have l3 : lnV v.rv = some (i64 x.ripe.length) := by have := (All.rd (hn (hp.up 5))).len; rw [List.length_map] at this; exact this
  refine bnd_of l1 ?_
  refine wk ?_
  refine bnd_of l2 ?_
  refine wk ?_
  refine bnd_of l3 ?_
  refine wk ?_
  clear hp
  refine nwst hp0 (.row 44 [i64 0, i64 x.cache.length, i64 x.limbo.length, i64 x.ripe.length] 4 true) rfl rfl rfl rfl fun v2 h2 hp => ?_
  have hp0 := hp
  replace hp := hn (hp.re 3 [2, 0, 1])
  refine thP_open hp fun v hp => ?_
  unfold thRow at hp
  refine wk ?_
  clear hp
  have hp := hp0
  unfold Th.stock at hK
  by_cases c : x.slot = -1
  · rw [if_pos c, Int.add_zero] at hK
    rw [decide_eq_true c]
    refine wk ?_
    refine la0 hp (c := [i64 0, i64 x.cache.length, i64 x.limbo.length, i64 x.ripe.length]) (Nat.le_refl 4) rfl ?_
    refine st1 hp (.row 44 [i64 0, i64 x.cache.length, i64 x.limbo.length, i64 x.ripe.length] 4 true) rfl (Nat.le_refl 4) rfl rfl fun h3 hp => ?_
    refine la1 hp (c := [i64 0, i64 x.cache.length, i64 x.limbo.length, i64 x.ripe.length]) (Nat.le_refl 4) rfl ?_
    exact hK _ hp.tail.tail
  · rw [if_neg c] at hK
    rw [decide_eq_false c]
    refine wk ?_
    refine st0 hp (.row 44 [i64 0, i64 x.cache.length, i64 x.limbo.length, i64 (x.ripe.length + 1)] 4 true) rfl (by simp) rfl rfl fun h3 hp => ?_
    refine la0 hp (c := [i64 0, i64 x.cache.length, i64 x.limbo.length, i64 (x.ripe.length + 1)]) (Nat.le_refl 4) rfl ?_
    refine st1 hp (.row 44 [i64 0, i64 x.cache.length, i64 x.limbo.length, i64 (x.ripe.length + 1)] 4 true) rfl (Nat.le_refl 4) rfl rfl fun h4 hp => ?_
    refine la1 hp (c := [i64 0, i64 x.cache.length, i64 x.limbo.length, i64 (x.ripe.length + 1)]) (Nat.le_refl 4) rfl ?_
    exact hK _ hp.tail.tail
end
end Go.Proofs.YtfphpafkhljncaaGreat
namespace Go.Proofs.YtfphpafkhljncaaGreat
open Go GW Go.Proofs
attribute [local irreducible] bnd ldV stV ifV binV eqI
set_option maxRecDepth 20000
instance {id n k : Int} {ts : List (List Op)} : Decidable (Th.may id n k ts) := by unfold Th.may; infer_instance
def opsC (cs : List (List Value)) (ts : List (List Op)) : Part := fun h => All2 (txnC h) cs ts
theorem All2.snoc {α β : Type} {R : α → β → Prop} {xs : List α} {ys : List β} {x : α} {y : β} (a : All2 R xs ys) (r : R x y) : All2 R (xs ++ [x]) (ys ++ [y]) := by
  refine ⟨by simp [a.1], fun i u v hu hv => ?_⟩
  have hl := a.1
  rw [List.getElem?_append] at hu hv
  split at hu
  · rw [if_pos (by omega)] at hv; exact a.2 i u v hu hv
  · rw [if_neg (by omega)] at hv
    have : i - xs.length = 0 := by
      rcases Nat.eq_zero_or_pos (i - xs.length) with q | q
      · exact q
      · rw [List.getElem?_eq_none (by simp; omega)] at hu; cases hu
    rw [this] at hu
    rw [← hl, this] at hv
    cases hu; cases hv; exact r
section
variable {R : List Part} {h : GH} {K : Value → GH → Prop} {b : Nat} {x : Th} {id n k : Int} {pol : Bool} {tsv : Value} {ts : List (List Op)}
theorem opsC_snoc {cs : List (List Value)} {ts : List (List Op)} {w : Value} {t : List Op} (hp : All (rowP 4 w (t.map Op.enc) :: opsC cs ts :: R) h) : All (opsC (cs ++ [[w]]) (ts ++ [t]) :: R) h := by
  refine (All.fold (l := [rowP 4 w (t.map Op.enc), opsC cs ts]) hp).head fun h1 z => ?_
  refine All2.snoc ((z.tail.mono1 (P := opsC cs ts) (fun _ _ l p => p.mono fun _ _ q => q.le l))) ⟨w, rfl, All.rows z⟩
theorem tv1_len {v : Value} {cs : List (List Value)} {ts : List (List Op)} (r : tv1 v cs ts h) : lnV v = some (i64 ts.length) ∧ ts.length ≤ 9223372036854775807 := by
  obtain ⟨r, a⟩ := r
  have := r.len
  rw [a.1] at this
  exact ⟨this, by rw [← a.1]; exact r.max⟩
theorem T_thNew (hp : All R h) {cs0 : List (List Value)} (hs : ∀ h', All R h' → tv1 tsv cs0 ts h') (kn : ¬ Th.may id n k ts → ∀ h', All R h' → K (.tuple #[.pointer none, i64 1800]) h')
    (ky : Th.may id n k ts → ∀ b h', All (thP b (.new id n k pol ts) :: R) h' → K (.tuple #[ptr b, i64 0]) h') : T Tryz.prog 27 [i64 id, i64 n, i64 k, .bool pol, tsv] h K := by
  apply S27_T
  unfold S27
  refine wk ?_
  refine ifV_cases (fun c => kn (fun m => by have := m.1; omega) _ hp) fun c => ?_
  refine wk ?_
  refine ifV_cases (fun c2 => kn (fun m => by have := m.1; omega) _ hp) fun c2 => ?_
  refine T_Below ?_
  refine wk ?_
  refine ifN_cases (fun c3 => kn (fun m => c3 m.2.1) _ hp) fun c3 => ?_
  obtain ⟨ad, ln, cap, etv⟩ : ∃ ad ln cap, tsv = .slice ad ln cap := by
    obtain ⟨⟨a, n, cap, e, _⟩, _⟩ := hs _ hp
    exact ⟨_, _, _, e⟩
  refine bs0 (size := 1) hp [[tsv]] (by rw [etv]; rfl) rfl (by simp) (fun c hc => by rw [List.mem_singleton.1 hc, etv]; exact ⟨rfl, rfl⟩) fun pv h1 hp => ?_
  refine wk ?_
  have thr : threadsAt h1 pv [ts] := ⟨[[tsv]], All.rows hp, rfl, fun i u v hu hv => by
    cases i with
    | zero =>
      simp at hu hv; subst hu; subst hv
      obtain ⟨r1, r2⟩ := hs _ hp.tail
      exact ⟨tsv, cs0, rfl, r1, r2⟩
    | succ i => simp at hu⟩
  obtain ⟨pa, pl, pc, rfl⟩ := All.isSlice hp
  refine wk ?_
  refine T_scriptMay (p := ⟨[ts], k, false⟩) thr ?_
  replace hp := hp.tail
  refine wk ?_
  cases hm : (Plan.mk [ts] k false).may with
  | false =>
    refine wk ?_
    refine kn (fun m => ?_) _ hp
    unfold Plan.may at hm
    simp only [List.length_cons, List.length_nil, List.all_cons, List.all_nil, Bool.and_true, m.2.2.2, Bool.and_true, decide_eq_false_iff_not] at hm
    exact hm ⟨by omega, by omega, m.2.2.1.1, m.2.2.1.2⟩
  | true =>
    refine wk ?_
    have hm2 : Th.may id n k ts := by
      unfold Plan.may at hm
      simp only [List.length_cons, List.length_nil, List.all_cons, List.all_nil, Bool.and_true, Bool.and_eq_true, decide_eq_true_eq] at hm
      exact ⟨by omega, c3, ⟨hm.1.2.2.1, hm.1.2.2.2⟩, hm.2⟩
    clear kn
    have ky := ky hm2
    have hts := thrMay_spec hm2.2.2.2
    unfold S27_j1
    refine wk ?_
    let V (tv : Value) : ThV := ⟨tv, .slice none 0 0, .slice none 0 0, .slice none 0 0, .slice none 0 0, .pointer none, .pointer none, .pointer none, .pointer none, .pointer none⟩
    refine nw hp (thRow { Th.new id n k pol ts with ts := 0 } (V (.slice none 0 0))) rfl fun b h2 hp => ?_
    have hlen := (tv1_len (hs _ hp.tail)).1
    refine bnd_of hlen ?_
    refine Lfp_fam (ι := Nat × Value × List (List Value)) (fun p => [ptr b, tsv, i64 ts.length, i64 p.1]) (fun p h' => p.1 ≤ ts.length ∧ All (pts b (thRow { Th.new id n k pol ts with ts := 0 } (V p.2.1)) :: rowP 1 p.2.1 p.2.2 :: opsC p.2.2 (ts.take p.1) :: R) h') (fun p => ts.length - p.1) ?_ (0, .slice none 0 0, []) h2 ⟨by simp, ?_⟩
    rotate_left
    · have z1 := All.emp_cons (P := opsC [] (ts.take 0)) hp ⟨rfl, fun i u v hu => by simp at hu⟩
      have z2 := All.emp_cons (P := rowP 1 (.slice none 0 0) []) z1 (rowP_nil _ _)
      exact hn (z2.re 3 [2, 0, 1])
    clear hp
    rintro ⟨i, tv, cs⟩ h3 X ⟨hi, hp⟩ again
    simp only at hi hp
    simp only [tup_zero, tup_succ]
    have hcl : cs.length = i := by
      have := (hn (hp.up 2)).mono1 (P := opsC cs (ts.take i)) (fun _ _ l p => p.mono fun _ _ q => q.le l)
      rw [this.1, List.length_take]; omega
    refine wk ?_
    refine ifV_cases (fun c => ?_) fun c => ?_
    · obtain ⟨t, ht⟩ : ∃ t, ts[i]? = some t := ⟨_, List.getElem?_eq_getElem (by omega)⟩
      have htm := hts.2 t (List.mem_of_getElem? ht)
      obtain ⟨ct, hct, w, rfl, hw⟩ := (hs _ hp.tail.tail.tail).2.get ht
      obtain ⟨p, d1, d2⟩ := (hs _ hp.tail.tail.tail).1.get hct .i64
      refine bnd_of d1 (bnd_of d2 ?_)
      obtain ⟨wa, wn, wc, rfl⟩ : ∃ ad ln cap, w = .slice ad ln cap := by
        obtain ⟨ad, ln, cap, e, _⟩ := hw; exact ⟨_, _, _, e⟩
      have hrow : ∀ h', All R h' → rowsAt h' 4 (.slice wa wn wc) (t.map Op.enc) := fun h' hr => by
        obtain ⟨c2, hc2, w2, e2, r2⟩ := (hs _ hr).2.get ht
        rw [hct] at hc2
        cases hc2; cases e2; exact r2
      refine nwst hp (.row 27 [.slice wa wn wc] 1 true) rfl rfl rfl rfl fun tb h4 hp => ?_
      replace hp := hn (hp.re 2 [1, 0])
      unfold thRow at hp
      refine wk ?_
      have ht2 : t.length ≤ 1000 ∧ t ≠ [] := by
        unfold Txn.may at htm
        simp only [Bool.and_eq_true, decide_eq_true_eq] at htm
        refine ⟨by omega, fun e => ?_⟩
        rw [e] at htm; simp at htm
      refine T_CloneOps hp (fun h' hp => hrow _ hp.tail.tail.tail.tail) ht2.1 ht2.2 fun nv h5 hp => ?_
      obtain ⟨na, nl, nc, rfl⟩ := All.isSlice hp
      replace hp := hn (hp.re 3 [1, 0])
      refine wk ?_
      replace hp := hn (hp.re 4 [2, 1, 3, 0])
      refine bs0 (size := 1) hp [[.slice na nl nc]] rfl rfl (by simp) (fun c hc => by rw [List.mem_singleton.1 hc]; exact ⟨rfl, rfl⟩) fun sv h6 hp => ?_
      have r2 := hp.rows
      refine ap0 (hn (hp.up 1)) r2 (fun c hc => by rw [List.mem_singleton.1 hc]; exact ⟨rfl, rfl⟩) (by decide) (by simp only [List.length_cons, List.length_nil]; omega) fun tv' h7 hp => ?_
      obtain ⟨ta, tl, tc, rfl⟩ := All.isSlice hp
      replace hp := hn (hp.re 5 [4, 0, 2, 3])
      refine wk ?_
      refine st0 hp (thRow { Th.new id n k pol ts with ts := 0 } (V (.slice ta tl tc))) rfl (Nat.le_of_ble_eq_true rfl) rfl rfl fun h8 hp => ?_
      refine wk ?_
      refine again (i + 1, .slice ta tl tc, cs ++ [[.slice na nl nc]]) _ ⟨by simp only; omega, ?_⟩ (by simp only; omega)
      have hp := opsC_snoc (hn (hp.re 4 [2, 3, 0, 1]))
      have e1 : ts.take i ++ [t] = ts.take (i + 1) := by rw [List.take_add_one, ht]; rfl
      rw [e1] at hp
      exact hn (hp.re 3 [1, 2, 0])
    · have hie : i = ts.length := by omega
      subst hie
      rw [List.take_length] at hp
      unfold thRow at hp
      refine wk ?_
      refine st0 hp (thRow (.new id n k pol ts) (V tv)) rfl (Nat.le_of_ble_eq_true rfl) rfl rfl fun h4 hp => ?_
      refine ky b _ (thP_shut (v := V tv) ?_)
      have hp := All.fold (l := [rowP 1 tv cs, opsC cs ts]) (hn (hp.re 3 [1, 2, 0]))
      have hp := hp.head (Q := tvP tv ts) fun h1 z => ⟨cs, All.rows z, z.tail.mono1 (P := opsC cs ts) (fun _ _ l p => p.mono fun _ _ q => q.le l)⟩
      have hp := opP_no (P := advP) hp
      have hp := opP_no (P := attP) hp
      have hp := opP_no (P := popP) hp
      have hp := opP_no (P := pushP) hp
      have hp := opP_no (P := entP) hp
      have hp := hp.emp_cons (P := rdP (.slice none 0 0) []) (rowsAt_nil _ _)
      have hp := hp.emp_cons (P := rowP 2 (.slice none 0 0) []) (rowP_nil _ _)
      have hp := hp.emp_cons (P := rowP 1 (.slice none 0 0) []) (rowP_nil _ _)
      have hp := hp.emp_cons (P := evsP (.slice none 0 0) []) ⟨[], All.two ⟨rfl, rowP_nil _ _⟩ fun i e w h => by simp at h⟩
      exact hn (hp.re 11 [10, 9, 0, 1, 2, 3, 4, 5, 6, 7, 8])
end
end Go.Proofs.YtfphpafkhljncaaGreat
namespace Go.Proofs.YtfphpafkhljncaaGreat
open Go GW Go.Proofs
inductive Acc (P : Int → Prop) (A : Ar) : Ar → Prop
  | none : Acc P A A
  | ld (i : Int) (h0 : 0 ≤ i) (h1 : i < 634) : Acc P A (A.ld i)
  | put (i x : Int) (h0 : 0 ≤ i) (h1 : i < 634) (p : P i) (hx : I64 x) : Acc P A (A.put i x)
  | cas (i o x : Int) (h0 : 0 ≤ i) (h1 : i < 634) (p : P i) (hx : I64 x) : Acc P A (A.cas i o x)
section
variable {A : Ar} {t q : Int}
theorem Pop.step_acc {p : Pop} (o : p.ok) : Acc (fun i => i = 16) A (p.step A).2.2 := by
  have ol := o.l
  unfold Pop.step
  split
  · exact .none
  · rename_i hov
    have hov : p.l.over = false := by simpa using hov
    split
    · split <;> exact .ld _ (by omega) (by omega)
    · have f := o.f hov (by assumption)
      split
      · split <;> exact .ld _ (by omega) (by omega)
      · have a0 := ol.a0; have a1 := ol.a1
        have n := o.n2 hov (by omega)
        have tr := Lst.turned_range (l := p.l) ol.c0 o.n0 n
        split <;> exact .cas _ _ _ (by omega) (by omega) rfl tr
end
section
variable {A : Ar} {x : Th} {L : List Int} {pick : Int}
end
section
variable {A : Ar} {x : Th} {L : List Int} {pick : Int}
end
structure Touch where
  thread : Int
  kind : Int
  at_ : Int
  was : Int
  now : Int
  slot : Int
  gen : Int
  live : Int
def Touch.ints (t : Touch) : List Int := [t.thread, t.kind, t.at_, t.was, t.now, t.slot, t.gen, t.live]
theorem Touch.ext_ints {a b : Touch} (h : a.ints = b.ints) : a = b := by
  cases a; cases b; simpa [Touch.ints] using h
instance : DecidableEq Touch := fun a b => if h : a.ints = b.ints then .isTrue (Touch.ext_ints h) else .isFalse fun e => h (by rw [e])
structure Mc where
  A : Ar
  ths : List Th
  L : List Int
  picks : Int
  ts : List Touch
section
variable {A : Ar} {x : Th} {L : List Int} {pick s : Int}
theorem evTurn_mem {es : List Event} {f : Event → Event} {e : Event} (h : e ∈ evTurn es f) : e ∈ es ∨ ∃ e0 ∈ es, e = f e0 := by
  obtain ⟨i, hi, he⟩ := List.mem_iff_getElem.1 h
  obtain ⟨e0, h1, h2⟩ := evTurn_get (show (evTurn es f)[i]? = some e by rw [List.getElem?_eq_getElem hi, he])
  rcases h2 with ⟨rfl, _⟩ | ⟨rfl, _⟩
  · exact .inl (List.mem_of_getElem? h1)
  · exact .inr ⟨e0, List.mem_of_getElem? h1, rfl⟩
theorem Th.answer_short (o : ∀ n, x.att = some n → n.ans.length ≤ 2) (h : Short x.evs) : Short (x.answer pick).evs := by
  unfold Th.answer
  split
  · intro e he
    rcases evTurn_mem he with h1 | ⟨e0, h1, rfl⟩
    · exact h e h1
    · exact h e0 h1
  · intro e he
    rcases evTurn_mem he with h1 | ⟨e0, h1, rfl⟩
    · exact h e h1
    · simp only
      split
      · cases ha : x.att with
        | none => simp
        | some n => exact o n ha
      · exact h e0 h1
theorem Th.act_evs {a : Act} (h : a ≠ .adv) : (x.act A L pick a).1.1.evs = x.evs := by
  have tris : ∀ y : Th, (y.tris A).1.evs = y.evs := fun y => by unfold Th.tris; split <;> rfl
  have taks : ∀ y : Th, (y.taks A L).1.1.evs = y.evs := fun y => by
    unfold Th.taks
    split
    · rw [tris]; rfl
    · simp only
      split
      · rfl
      · split <;> rfl
  cases a with
  | ent =>
    show (x.ents A).1.evs = x.evs
    unfold Th.ents
    cases x.ent with
    | none => rfl
    | some n => simp only; split <;> rfl
  | fre =>
    unfold Th.act Th.fres
    have hc : x.cached.evs = x.evs := by unfold Th.cached; split <;> rfl
    simp only
    split
    · rw [taks, hc]
    · split <;> exact hc
  | tak => exact taks x
  | tri => exact tris x
  | ret => show (x.rets A).1.evs = x.evs; unfold Th.rets; split <;> rfl
  | lea => rfl
  | adv => exact absurd rfl h
theorem Th.act_short {a : Act} (o : x.ok) (h : Short x.evs) : Short (x.act A L pick a).1.1.evs := by
  by_cases e : a = .adv
  · subst e
    unfold Th.act Th.advs
    cases hd : x.adv with
    | none => exact h
    | some d =>
      simp only
      split
      · exact Th.answer_short (x := { x with adv := some (d.step A).1 }) (fun n hn => (o.att n hn).2) h
      · exact h
  · rw [Th.act_evs e]; exact h
theorem Th.ended_evs {r : (Th × Int × Ar) × List Int} : (Th.ended r).1.evs = r.1.1.evs := by unfold Th.ended; split <;> rfl
theorem Th.begin_short (h : Short x.evs) : Short (x.begin pick).1.evs := by
  unfold Th.begin
  split
  · exact h
  · split
    · exact h
    · simp only
      split
      · intro e he
        rcases List.mem_append.1 he with h1 | h1
        · exact h e h1
        · rw [List.mem_singleton.1 h1]; exact Nat.zero_le 2
      · exact h
theorem Th.step_short (o : x.ok) (h : Short x.evs) : Short (x.step A L pick).1.evs := by
  cases hd : x.dead with
  | true => rw [Th.step_dead hd]; exact h
  | false =>
    have o1 : x.z.ok := { o with }
    cases hx : x.next with
    | some a => rw [Th.step_some hd hx, Th.ended_evs]; exact Th.act_short o1 h
    | none =>
      rw [Th.step_none hd hx]
      have b := Th.begin_ok (pick := pick) o1 hx
      have bs := Th.begin_short (pick := pick) (x := x.z) h
      split
      · rw [Th.ended_evs]; exact Th.act_short b.1 bs
      · exact bs
theorem Th.step_lives : (x.step A L pick).2.2.2.2 = L ∨ ∃ s, (x.step A L pick).2.2.2.2 = lived s L := by
  have taks : ∀ y : Th, (y.taks A L).2 = L ∨ ∃ s, (y.taks A L).2 = lived s L := fun y => by
    unfold Th.taks
    split
    · exact .inr ⟨_, rfl⟩
    · simp only
      split
      · exact .inl rfl
      · split
        · exact .inl rfl
        · exact .inr ⟨_, rfl⟩
  have act : ∀ (y : Th) a, (y.act A L pick a).2 = L ∨ ∃ s, (y.act A L pick a).2 = lived s L := fun y a => by
    cases a with
    | fre =>
      unfold Th.act Th.fres
      simp only
      split
      · exact taks _
      · split <;> exact .inl rfl
    | tak => exact taks _
    | _ => exact .inl rfl
  have ended : ∀ r : (Th × Int × Ar) × List Int, (Th.ended r).2.2.2.2 = r.2 := fun r => by unfold Th.ended; split <;> rfl
  cases hd : x.dead with
  | true => rw [Th.step_dead hd]; exact .inl rfl
  | false =>
    cases hx : x.next with
    | some a => rw [Th.step_some hd hx, ended]; exact act _ _
    | none =>
      rw [Th.step_none hd hx]
      split
      · rw [ended]; exact act _ _
      · exact .inl rfl
end
attribute [local irreducible] bnd ldV stV ifV binV eqI
set_option maxRecDepth 20000
section
variable {a b : Nat} {R : List Part} {h : GH} {K : Value → GH → Prop} {M : Mc} {k : Int}
theorem Th.ok.evs8 {x : Th} (o : x.ok) : x.evs.length ≤ 8 := by have := o.evs; have := thrMay_spec o.txns; omega
end
end Go.Proofs.YtfphpafkhljncaaGreat
namespace Go.Proofs.YtfphpafkhljncaaGreat
open Go GW Go.Proofs
attribute [local irreducible] bnd ldV stV ifV binV eqI
set_option maxRecDepth 20000
theorem All2.nil {α β : Type} {R : α → β → Prop} : All2 R [] [] := ⟨rfl, fun i x y h => by simp at h⟩
theorem All2.cons {α β : Type} {R : α → β → Prop} {x : α} {y : β} {xs : List α} {ys : List β} (r : R x y) (a : All2 R xs ys) : All2 R (x :: xs) (y :: ys) := by
  refine ⟨by simp [a.1], fun i u v hu hv => ?_⟩
  cases i with
  | zero => simp at hu hv; subst hu; subst hv; exact r
  | succ i => exact a.2 i u v (by simpa using hu) (by simpa using hv)
theorem All.baseLe {g : GH} {R : List Part} {h : GH} (hp : All (baseP g :: R) h) : HLe g h := by
  obtain ⟨h1, h2, d, l1, l2, p, q⟩ := hp
  exact HLe.trans p l1
section
variable {a b : Nat} {R : List Part} {h g : GH} {K : Value → GH → Prop} {M : Mc} {k : Int} {v : Value} {p : Plan}
end
end Go.Proofs.YtfphpafkhljncaaGreat
namespace Go.Proofs.YtfphpafkhljncaaGreat
open Go GW Go.Proofs
attribute [local irreducible] bnd ldV stV ifV binV eqI
set_option maxRecDepth 20000
theorem Event.ext8 {a b : Event} : a = b ↔ a.thread = b.thread ∧ a.index = b.index ∧ a.begun = b.begun ∧ a.decided = b.decided ∧ a.answered = b.answered ∧ a.end_ = b.end_ ∧ a.attempts = b.attempts ∧ a.answers = b.answers := by
  cases a; cases b; simp
instance : DecidableEq Event := fun a b => decidable_of_iff _ Event.ext8.symm
section
variable {a b : Nat} {R : List Part} {h g : GH} {K : Value → GH → Prop} {v w : Value} {es fs : List Event} {us ws : List Value}
end
end Go.Proofs.YtfphpafkhljncaaGreat
namespace Go.Proofs.YtfphpafkhljncaaGreat
open Go GW Go.Proofs
attribute [local irreducible] bnd ldV stV ifV binV eqI
set_option maxRecDepth 20000
theorem stock_eq (k a b x k' a' b' x' : Int) : eqP Tryz.prog 10000 44 (.agg [.int .i64 k, .int .i64 a, .int .i64 b, .int .i64 x].toArray) (.agg [.int .i64 k', .int .i64 a', .int .i64 b', .int .i64 x'].toArray) = some (decide (k = k' ∧ a = a' ∧ b = b' ∧ x = x')) := by
  have h : eqP Tryz.prog 10000 44 (.agg [.int .i64 k, .int .i64 a, .int .i64 b, .int .i64 x].toArray) (.agg [.int .i64 k', .int .i64 a', .int .i64 b', .int .i64 x'].toArray) = some ((k == k') && ((a == a') && ((b == b') && ((x == x') && true)))) := by kernel_rfl
  rw [h]; simp [Bool.decide_and, Bool.beq_eq_decide_eq]
def truns : Nat → Nat → Th → Ar → List Int → Option (Th × Ar × List Int × Nat)
  | 0, i, x, A, L => some (x, A, L, i)
  | n + 1, i, x, A, L => match x.done with
    | true => some (x, A, L, i)
    | false => match x.step A L (10 + i) with
      | (x', true, 0, A', L') => truns n (i + 1) x' A' L'
      | _ => none
def tawakeX : Th := Th.new 0 2 3 false [[⟨0, 1, 0, 9⟩]]
def tawakeY : Th := Th.new 1 2 3 true []
def tawakeFin (r : Option (Th × Ar × List Int × Nat)) : Bool := match r with
  | some (x, A, L, i) => (match x.evs with
      | [e] => decide (e.begun = 10) && (decide (e.decided = -1) && (decide (e.answered = 40) && (decide (e.end_ = 0) && (decide (e.attempts = 1) && decide (e.answers = [⟨0, 9⟩])))))
      | _ => false) && (decide (i = 31) && (x.done && (decide (x.stock = [0, 0, 1, 0]) && (decide (L[0]? = some 1) && decide (A.at 1 = 40)))))
  | none => false
theorem tawake_fin : tawakeFin (truns 60 0 tawakeX newAr (List.replicate 12 0)) = true := by decide +kernel
theorem tawakeX_may : Th.may 0 2 3 [[⟨0, 1, 0, 9⟩]] := by decide
theorem tawakeY_may : Th.may 1 2 3 [] := by decide
section
variable {a b lb : Nat} {R : List Part} {h g : GH} {K : Value → GH → Prop} {A : Ar} {x : Th} {U : TypeId} {v1 v2 v3 : Value}
theorem T_thStepNil2 (hK : K (.tuple #[.bool false, i64 1]) h) : T Tryz.prog 29 [ptr b, .pointer none, v2, v3] h K := by
  apply S29_T
  unfold S29
  refine wk ?_
  unfold S29_j1
  refine wk ?_
  exact hK
theorem T_thStepNil3 (hK : K (.tuple #[.bool false, i64 1]) h) : T Tryz.prog 29 [ptr b, ptr a, .pointer none, v3] h K := by
  apply S29_T
  unfold S29
  refine wk ?_
  unfold S29_j1
  refine wk ?_
  exact hK
theorem T_thNewY {id n k : Int} {pol : Bool} {tsv : Value} {ts : List (List Op)} {cs0 : List (List Value)} (hp : All R h) (hs : ∀ h', All R h' → tv1 tsv cs0 ts h') (m : Th.may id n k ts)
    (ky : ∀ b h', All (thP b (.new id n k pol ts) :: R) h' → K (.tuple #[ptr b, i64 0]) h') : T Tryz.prog 27 [i64 id, i64 n, i64 k, .bool pol, tsv] h K := T_thNew hp hs (fun q => absurd m q) fun _ => ky
theorem T_thNewN {id n k : Int} {pol : Bool} {tsv : Value} {ts : List (List Op)} {cs0 : List (List Value)} (hp : All R h) (hs : ∀ h', All R h' → tv1 tsv cs0 ts h') (m : ¬ Th.may id n k ts)
    (kn : ∀ h', All R h' → K (.tuple #[.pointer none, i64 1800]) h') : T Tryz.prog 27 [i64 id, i64 n, i64 k, .bool pol, tsv] h K := T_thNew hp hs (fun _ => kn) fun q => absurd q m
theorem tv1_nil {h : GH} : tv1 (.slice none 0 0) [] [] h := ⟨rowsAt_nil _ _, .nil⟩
theorem lives0_ok : Lok (List.replicate 12 0) := ⟨rfl, fun x hx => by rw [List.eq_of_mem_replicate hx]; exact ⟨by decide, by decide⟩⟩
theorem Th.step_lok {L : List Int} {pick : Int} {N : Int} (hN : N < 4611686018427387903) (l : L.length = 12 ∧ ∀ y ∈ L, 0 ≤ y ∧ y ≤ N) : (x.step A L pick).2.2.2.2.length = 12 ∧ ∀ y ∈ (x.step A L pick).2.2.2.2, 0 ≤ y ∧ y ≤ N + 1 := by
  have old : ∀ z ∈ L, 0 ≤ z ∧ z ≤ N + 1 := fun z hz => by have := l.2 z hz; omega
  rcases Th.step_lives (A := A) (x := x) (L := L) (pick := pick) with e | ⟨s, e⟩
  · rw [e]; exact ⟨l.1, old⟩
  · rw [e]
    unfold lived
    refine ⟨by rw [List.length_set]; exact l.1, fun y hy => ?_⟩
    rcases List.mem_or_eq_of_mem_set hy with q | q
    · exact old y q
    · rw [q, List.getD_eq_getElem?_getD]
      cases hg : L[s.toNat]? with
      | none =>
        simp only [Option.getD_none]
        rcases Int.lt_or_le N 0 with c | c
        · cases L with
          | nil => simp at l
          | cons z _ => have := l.2 z (by simp); omega
        · omega
      | some z => have := l.2 z (List.mem_of_getElem? hg); simp only [Option.getD_some]; omega
theorem lok_of {L : List Int} {N : Int} (hN : N < 4611686018427387903) (l : L.length = 12 ∧ ∀ y ∈ L, 0 ≤ y ∧ y ≤ N) : Lok L := ⟨l.1, fun y hy => by have := l.2 y hy; omega⟩
set_option maxHeartbeats 1000000 in
theorem T_tawake (hp : All R h) (hK : ∀ h', All R h' → K (.bool true) h') : T Tryz.prog 26 [] h K := by
  apply S26_T
  unfold S26
  refine T_arenaNew hp fun a h1 hp => ?_
  refine bnd_of rfl ?_
  refine bs0 (size := 4) hp ([Op.mk 0 1 0 9].map Op.enc) rfl rfl (by simp) (Op.all_good _) fun v2 h2 hp => ?_
  obtain ⟨a2, n2, c2, rfl⟩ := All.isSlice hp
  refine bnd_of rfl ?_
  refine bs0 (size := 1) hp [[.slice a2 n2 c2]] rfl rfl (by simp) (fun c hc => by rw [List.mem_singleton.1 hc]; exact ⟨rfl, rfl⟩) fun v5 h3 hp => ?_
  refine T_thNewY (ts := [[⟨0, 1, 0, 9⟩]]) (cs0 := [[.slice a2 n2 c2]]) hp (fun h' hp => ⟨All.rows hp, .cons ⟨_, rfl, All.rows (hn (hp.up 1))⟩ .nil⟩) tawakeX_may fun b h4 hp => ?_
  refine wk ?_
  refine T_thNewN (ts := []) hp (fun h' hp => tv1_nil) (by decide) fun h5 hp => ?_
  refine wk ?_
  refine T_thNewY (ts := []) hp (fun h' hp => tv1_nil) tawakeY_may fun c h6 hp => ?_
  refine wk ?_
  replace hp := hn (hp.re 5 [4, 0, 1])
  unfold S26_j1
  refine nw hp (lvRow 36 12 [] (List.replicate 12 0) []) rfl fun lb h7 hp => ?_
  -- the idle one
  replace hp := hn (hp.re 4 [1, 0, 2, 3])
  have okY := Th.new_ok (pol := true) tawakeY_may
  have okX := Th.new_ok (pol := false) tawakeX_may
  refine T_thStep (pre := []) (post := []) hp okY lives0_ok (by decide) fun h8 hp => ?_
  have sy : tawakeY.step newAr (List.replicate 12 0) 0 = (tawakeY, false, 0, newAr, List.replicate 12 0) := rfl
  unfold tawakeY at sy
  rw [sy] at hp ⊢
  refine wk ?_
  refine T_thDone (hn (hp.up 3)) (Nat.zero_le _) ?_
  have fin := tawake_fin
  cases hr : truns 60 0 tawakeX newAr (List.replicate 12 0) with
  | none => rw [hr] at fin; cases fin
  | some z =>
    obtain ⟨x', A', L', i'⟩ := z
    rw [hr] at fin
    refine Lfp_fam (ι := Nat × Th × Ar × List Int) (fun q => [ptr a, ptr b, i64 0, i64 1800, ptr c, i64 0, ptr lb, .bool false, i64 0, .bool false, i64 q.1, i64 q.1]) (fun q h' => q.1 ≤ 60 ∧ q.2.1.ok ∧ Short q.2.1.evs ∧ (q.2.2.2.length = 12 ∧ ∀ y ∈ q.2.2.2, 0 ≤ y ∧ y ≤ q.1) ∧ truns (60 - q.1) q.1 q.2.1 q.2.2.1 q.2.2.2 = some (x', A', L', i') ∧ All (arP 138 a q.2.2.1 :: pts lb (lvRow 36 12 [] q.2.2.2 []) :: thP b q.2.1 :: thP c tawakeY :: R) h') (fun q => 60 - q.1) ?_ (0, tawakeX, newAr, List.replicate 12 0) h8 ⟨by omega, okX, (fun e h => by cases h), ⟨rfl, fun y hy => by rw [List.eq_of_mem_replicate hy]; exact ⟨by decide, by decide⟩⟩, hr, hn (hp.re 4 [0, 1, 3, 2])⟩
    clear hp hr
    rintro ⟨i, x, A, L⟩ h9 X ⟨hi, ox, sx, lx, hr, hp⟩ again
    simp only at hi ox sx lx hr hp
    simp only [tup_zero, tup_succ]
    have hA := (arP.at hp).2
    have key : (x, A, L, i) = (x', A', L', i') → ∀ s k, S26_j3 s (ptr a) (ptr b) (i64 0) (i64 1800) (ptr c) (i64 0) (ptr lb) (.bool false) (i64 0) (.bool false) (i64 i) h9 K k := by
      intro e s k
      clear again hr
      cases e
      unfold tawakeFin at fin
      simp only [Bool.and_eq_true, decide_eq_true_eq] at fin
      obtain ⟨f1, f2, f3, f4, f5, f6⟩ := fin
      subst f2
      unfold S26_j3
      refine T_thEvents (hn (hp.up 2)) ox.evs8 sx fun ev h10 hp => ?_
      refine T_thStock (hn (hp.up 1)) ox fun h11 hp => ?_
      rw [f4]
      refine nwst hp (.row 44 [i64 0, i64 0, i64 1, i64 0] 4 true) rfl rfl rfl rfl fun sb h12 hp => ?_
      refine T_thStepNil2 ?_
      refine wk ?_
      refine T_thStepNil3 ?_
      refine wk ?_
      refine L_Load (hn (hp.up 3)) (by decide) (by decide) fun h13 hp => ?_
      rw [f6]
      refine wk ?_
      cases hes : x'.evs with
      | nil => rw [hes] at f1; cases f1
      | cons e es =>
        cases es with
        | cons e2 es => rw [hes] at f1; cases f1
        | nil =>
          rw [hes] at f1 hp
          simp only [Bool.and_eq_true, decide_eq_true_eq] at f1
          obtain ⟨g1, g2, g3, g4, g5, g6⟩ := f1
          have el : lnV ev = some (i64 1) := evP_len (evoP_evs (hn (hp.up 3)))
          refine bnd_of el ?_
          refine wk ?_
          refine T_Num ?_
          refine wk ?_
          refine T_Num ?_
          refine wk ?_
          refine T_Num ?_
          refine wk ?_
          refine T_Num ?_
          refine wk ?_
          refine T_thDone (hn (hp.up 5)) (Nat.zero_le _) ?_
          refine wk ?_
          replace hp := hn (hp.re 6 [3, 1, 4])
          refine evoP_open hp fun ws hl hp => ?_
          obtain ⟨w, rfl⟩ : ∃ w, ws = [w] := by
            match ws, hl with
            | [w], _ => exact ⟨w, rfl⟩
          obtain ⟨eb, i1, i2, _, _⟩ := All.elt (i := 0) hp (c := e.cells w) rfl .i64
          have l2 := i2 2 1 (i64 e.begun) rfl
          have l3 := i2 3 1 (i64 e.decided) rfl
          have l4 := i2 4 1 (i64 e.answered) rfl
          have l5 := i2 5 1 (i64 e.end_) rfl
          have l6 := i2 6 1 (i64 e.attempts) rfl
          have l7 := i2 7 1 w rfl
          rw [g1] at l2
          rw [g2] at l3
          rw [g3] at l4
          rw [g4] at l5
          rw [g5] at l6
          refine bnd_of i1 (bnd_of rfl (bnd_of l2 ?_))
          refine wk ?_
          refine bnd_of i1 (bnd_of rfl (bnd_of l4 ?_))
          refine wk ?_
          refine bnd_of i1 (bnd_of rfl (bnd_of l3 ?_))
          refine wk ?_
          refine bnd_of i1 (bnd_of rfl (bnd_of l5 ?_))
          refine wk ?_
          refine bnd_of i1 (bnd_of rfl (bnd_of l6 ?_))
          refine wk ?_
          refine bnd_of i1 (bnd_of rfl (bnd_of l7 ?_))
          refine wk ?_
          refine bs0 (size := 2) hp ([Answer.mk 0 9].map Answer.enc) rfl rfl (by simp) (Answer.all_good _) fun bv h14 hp => ?_
          have ra : rowsAt h14 2 w (e.answers.map Answer.enc) := ((hn (hp.up 2)).mono1 (P := All (ansO [w] [e])) (fun _ _ l p => All.le l p)) |> fun z => ansO_le z 0 e w rfl rfl
          refine T_SameAnswers ra (All.rows hp) ?_
          rw [decide_eq_true g6]
          refine wk ?_
          replace hp := hn (hp.re 5 [3, 4])
          refine la0 hp (c := [i64 0, i64 0, i64 1, i64 0]) (Nat.le_refl 4) rfl ?_
          refine bnd_of rfl ?_
          refine bnd_of (stock_eq 0 0 1 0 0 0 1 0) ?_
          refine wk ?_
          have hL0 : L'.getD 0 0 = 1 := by rw [List.getD_eq_getElem?_getD, f5]; rfl
          have := lv_ld (s := 0) (pre := []) (hn (hp.up 1)) (by rw [lx.1]; decide)
          rw [hL0] at this
          refine bnd_of this ?_
          refine wk ?_
          refine T_Num ?_
          refine wk ?_
          refine T_Num ?_
          refine wk ?_
          refine T_Num ?_
          refine wk ?_
          exact hK _ hp.tail.tail
    have n60 : i < 60 ∨ i = 60 := by omega
    refine wk ?_
    refine ifV_cases (fun c1 => ?_) fun c1 => ?_
    · obtain ⟨n, hn1⟩ : ∃ n, 60 - i = n + 1 := ⟨59 - i, by omega⟩
      rw [hn1] at hr
      unfold truns at hr
      refine T_thDone (hn (hp.up 2)) ox.evs8 ?_
      cases hd : x.done with
      | true =>
        rw [hd] at hr
        refine wk ?_
        exact key (Option.some.inj hr) _ _
      | false =>
        rw [hd] at hr
        simp only at hr
        refine wk ?_
        unfold S26_j2
        refine wk ?_
        refine T_thStep (pre := []) (post := []) hp ox (lok_of (N := i) (by omega) lx) (by omega) fun h10 hp => ?_
        have s := Th.step_ok (L := L) (pick := 10 + (i : Int)) ox hA (by omega)
        have sl := Th.step_lok (x := x) (A := A) (pick := 10 + (i : Int)) (N := i) (by omega) lx
        have ss := Th.step_short (A := A) (L := L) (pick := 10 + (i : Int)) ox sx
        generalize x.step A L (10 + (i : Int)) = r at hp hr s sl ss ⊢
        obtain ⟨x2, is, e, A2, L2⟩ := r
        split at hr
        · rename_i heq
          cases heq
          refine wk ?_
          refine T_Num ?_
          refine wk ?_
          refine again (i + 1, x2, A2, L2) _ ⟨by simp only; omega, s.1, ss, ⟨sl.1, fun y hy => by have := sl.2 y hy; simp only; omega⟩, ?_, hp⟩ (by simp only; omega)
          have : 60 - (i + 1) = n := by omega
          simp only [this]; exact hr
        · cases hr
    · have hi60 : 60 - i = 0 := by omega
      rw [hi60] at hr
      unfold truns at hr
      exact key (Option.some.inj hr) _ _
end
end Go.Proofs.YtfphpafkhljncaaGreat
namespace Go.Proofs.YtfphpafkhljncaaGreat
open Go GW Go.Proofs
def sg (x : Int) : Int := if 0 ≤ x then 0 else -1
section
variable {x : Th} {A : Ar} {L : List Int} {pick s : Int}
end
structure Th.una (x : Th) : Prop where
  u : x.next ≠ none ∨ x.tries ≠ 0 → ∃ e, x.evs.getLast? = some e ∧ e.answered = -1
  d : x.dead = true → x.next ≠ none
theorem Th.new_una {id n k : Int} {pol : Bool} {ts : List (List Op)} : (Th.new id n k pol ts).una := ⟨(fun h => by rcases h with h | h <;> exact absurd rfl h), fun h => by cases h⟩
theorem evTurn_last {es : List Event} {f : Event → Event} : (evTurn es f).getLast? = es.getLast?.map f := by
  unfold evTurn
  cases h : es.getLast? with
  | none => rw [h]; rfl
  | some e =>
    have hl : 0 < es.length := by
      cases es with
      | nil => cases h
      | cons _ _ => simp
    show (es.set (es.length - 1) (f e)).getLast? = some (f e)
    rw [List.getLast?_eq_getElem?, List.length_set, List.getElem?_set_self (by omega)]
section
variable {A : Ar} {x : Th} {L : List Int} {pick s : Int}
theorem Th.una.of {y : Th} (u : x.una) (hx : x.next ≠ none) (h1 : y.evs = x.evs) (h2 : y.dead = true → y.next ≠ none) : y.una := ⟨fun _ => by rw [h1]; exact u.u (.inl hx), h2⟩
theorem Th.act_next {a : Act} (hn : x.next = some a) (h : a ≠ .adv) : (x.act A L pick a).1.1.next ≠ none ∧ (x.act A L pick a).1.1.dead = x.dead := by
  have tris : ∀ y : Th, y.next ≠ none → (y.tris A).1.next ≠ none ∧ (y.tris A).1.dead = y.dead := fun y hy => by
    unfold Th.tris; split
    · exact ⟨hy, rfl⟩
    · refine ⟨?_, rfl⟩
      simp only
      split
      · intro h; cases h
      · exact hy
  have taks : ∀ y : Th, (y.taks A L).1.1.next ≠ none ∧ (y.taks A L).1.1.dead = y.dead := fun y => by
    unfold Th.taks
    split
    · exact tris _ (fun h => by cases h)
    · simp only
      split
      · exact ⟨(fun h => by cases h), rfl⟩
      · split
        · exact ⟨(fun h => by cases h), rfl⟩
        · exact ⟨(fun h => by cases h), rfl⟩
  have hne : x.next ≠ none := by rw [hn]; simp
  cases a with
  | ent =>
    show (x.ents A).1.next ≠ none ∧ (x.ents A).1.dead = x.dead
    unfold Th.ents
    cases x.ent with
    | none => exact ⟨hne, rfl⟩
    | some n =>
      simp only
      split
      · exact ⟨(fun h => by cases h), rfl⟩
      · exact ⟨hne, rfl⟩
  | fre =>
    show (x.fres A L).1.1.next ≠ none ∧ (x.fres A L).1.1.dead = x.dead
    unfold Th.fres
    have hc : x.cached.next = x.next ∧ x.cached.dead = x.dead := by unfold Th.cached; split <;> exact ⟨rfl, rfl⟩
    simp only
    split
    · have := taks x.cached; rw [hc.2] at this; exact this
    · split
      · refine ⟨?_, hc.2⟩; show x.cached.next ≠ none; rw [hc.1]; exact hne
      · refine ⟨?_, hc.2⟩; show x.cached.next ≠ none; rw [hc.1]; exact hne
  | tak => exact taks x
  | tri => exact tris x hne
  | ret =>
    show (x.rets A).1.next ≠ none ∧ (x.rets A).1.dead = x.dead
    unfold Th.rets
    split
    · exact ⟨(fun h => by cases h), rfl⟩
    · exact ⟨hne, rfl⟩
  | lea => exact ⟨(fun h => by cases h), rfl⟩
  | adv => exact absurd rfl h
theorem Th.act_una {a : Act} (o : x.ok) (u : x.una) (hx : x.dead = false) (hn : x.next = some a) : (x.act A L pick a).1.1.una ∧ ((x.act A L pick a).1.2.1 ≠ 0 → (x.act A L pick a).1.1.next ≠ none) := by
  have hne : x.next ≠ none := by rw [hn]; simp
  by_cases ha : a = .adv
  · subst ha
    show (x.advs A pick).1.una ∧ ((x.advs A pick).2.1 ≠ 0 → (x.advs A pick).1.next ≠ none)
    obtain ⟨e, h1, h2⟩ := u.u (.inl hne)
    unfold Th.advs
    cases hd : x.adv with
    | none => exact ⟨u, fun _ => hne⟩
    | some d =>
      simp only
      split
      · refine ⟨?_, fun h => absurd rfl h⟩
        unfold Th.answer
        simp only
        split
        · exact ⟨fun _ => ⟨{ e with attempts := x.tries + 1 }, by simp only; rw [evTurn_last, h1]; rfl, h2⟩, fun h => by simp only at h; rw [hx] at h; cases h⟩
        · exact ⟨(fun h => by rcases h with h | h <;> exact absurd rfl h), fun h => by simp only at h; rw [hx] at h; cases h⟩
      · exact ⟨⟨fun _ => ⟨e, h1, h2⟩, u.d⟩, fun _ => hne⟩
  · obtain ⟨n1, n2⟩ := Th.act_next (A := A) (L := L) (pick := pick) hn ha
    exact ⟨u.of hne (Th.act_evs ha) fun _ => n1, fun _ => n1⟩
theorem Th.ended_una {r : (Th × Int × Ar) × List Int} (h : r.1.1.una ∧ (r.1.2.1 ≠ 0 → r.1.1.next ≠ none)) : (Th.ended r).1.una := by
  unfold Th.ended
  split
  · exact h.1
  · rename_i c; exact ⟨h.1.u, fun _ => h.2 c⟩
theorem Th.begin_una (u : x.una) (hn : x.next = none) (hd : x.dead = false) : (x.begin pick).1.una ∧ (x.begin pick).1.dead = false := by
  unfold Th.begin
  split
  · exact ⟨u, hd⟩
  · split
    · exact ⟨⟨u.u, u.d⟩, hd⟩
    · refine ⟨⟨fun _ => ?_, fun _ h => by cases h⟩, hd⟩
      simp only
      by_cases c : x.tries = 0
      · rw [if_pos c]
        exact ⟨_, List.getLast?_concat, rfl⟩
      · rw [if_neg c]
        exact u.u (.inr c)
theorem Th.step_una (o : x.ok) (u : x.una) : (x.step A L pick).1.una := by
  cases hd : x.dead with
  | true => rw [Th.step_dead hd]; exact u
  | false =>
    have o1 : x.z.ok := { o with }
    have u1 : x.z.una := ⟨u.u, u.d⟩
    cases hx : x.next with
    | some a => rw [Th.step_some hd hx]; exact Th.ended_una (Th.act_una o1 u1 hd hx)
    | none =>
      rw [Th.step_none hd hx]
      have b := Th.begin_ok (pick := pick) o1 hx
      have bu := Th.begin_una (pick := pick) u1 hx hd
      split
      · rename_i q
        exact Th.ended_una (Th.act_una b.1 bu.1 bu.2 (b.2 q))
      · exact bu.1
theorem Th.una.done (u : x.una) (h : x.done = true) : x.next = none ∧ x.dead = false := by
  have hn : x.next = none := by
    cases hx : x.next with
    | none => rfl
    | some a =>
      exfalso
      obtain ⟨e, h1, h2⟩ := u.u (.inl (by rw [hx]; simp))
      unfold Th.done at h
      rw [h1] at h
      simp only [Bool.and_eq_true, decide_eq_true_eq] at h
      omega
  refine ⟨hn, ?_⟩
  cases hd : x.dead with
  | false => rfl
  | true => exact absurd hn (u.d hd)
end
set_option maxRecDepth 20000
theorem open_txns6 {H : Type} {enc : TypeId × Value → H} {W : World} {fuel : Nat} {cs : List Value} {d : DataW H} {ps : List MemPlace} (h : DataW.trod enc Tryz.prog W 0 (fun _ => true) true fuel 28 cs = some (d, ps)) (hw : (d.weights Tryz.prog 28).all (· ≤ reachBytes) = true) :
    ∃ v es, ∃ ts : List (List Op), cs = [v] ∧ rowsAt (full W) 1 v es ∧ All2 (fun c t => ∃ w, c = [w] ∧ rowsAt (full W) 4 w (t.map Op.enc)) es ts := by
  obtain ⟨ts, w, es, hc, r, a⟩ := open_thread h hw
  exact ⟨w, es, ts, hc, r, a⟩
def At.Thr (x y : At) : Prop := y.slot = x.slot ∧ y.gen = x.gen ∧ (y.ts = -1 ∨ y.ts = x.slot ∧ y.tg = x.gen)
inductive Ago : At → Ar → Nat → At → Ar → Prop
  | refl (x : At) (A : Ar) : Ago x A 0 x A
  | step {x : At} {A : Ar} {n : Nat} {x' : At} {A' : Ar} : x.over = false → (x.step A).2.1 = 0 → x.Thr (x.step A).1 → Ago (x.step A).1 (x.step A).2.2 n x' A' → Ago x A (n + 1) x' A'
theorem Ago.trans {x : At} {A : Ar} {n : Nat} {x1 : At} {A1 : Ar} (a : Ago x A n x1 A1) : ∀ {m : Nat} {x2 : At} {A2 : Ar}, Ago x1 A1 m x2 A2 → Ago x A (n + m) x2 A2 := by
  induction a with
  | refl => intro m x2 A2 b; rw [Nat.zero_add]; exact b
  | step h1 h2 hk _ ih => intro m x2 A2 b; rw [Nat.add_right_comm]; exact .step h1 h2 hk (ih b)
theorem Ago.one {x x1 : At} {A A1 : Ar} (ho : x.over = false) (h : x.step A = (x1, 0, A1)) (ht : x.Thr x1) : Ago x A 1 x1 A1 := .step ho (by rw [h]) (by rw [h]; exact ht) (by rw [h]; exact .refl _ _)
theorem Ago.ok {x : At} {A : Ar} {n : Nat} {x' : At} {A' : Ar} (a : Ago x A n x' A') : x.ok → A.ok → x'.ok ∧ A'.ok := by
  induction a with
  | refl => intro h1 h2; exact ⟨h1, h2⟩
  | step _ _ _ _ ih => intro h1 h2; have := At.step_ok h1 h2; exact ih this.1 this.2
structure At.Same (x y : At) : Prop where
  over : y.over = false
  t : y.t = x.t
  q : y.q = x.q
  slot : y.slot = x.slot
  gen : y.gen = x.gen
  ops : y.ops = x.ops
  won : y.won = x.won
  ans : y.ans = x.ans
theorem At.wr_step {x : At} {A : Ar} {w : Wr} (ho : x.over = false) (hs : x.st = .wr w) : x.step A = ({ x with ts := x.slot, tg := x.gen, st := if (w.step A).2.1 then .hp (.new x.t x.q (.who (.new x.slot x.gen))) else .wr (w.step A).1 }, 0, (w.step A).2.2) := by
  unfold At.step
  rw [if_neg (by rw [ho]; decide), hs]
theorem Ago.wr : ∀ (l1 : List Int) {l2 : List Int} {a : Int} {x : At} {A : Ar}, x.over = false → x.st = .wr ⟨a, l1 ++ l2⟩ → l2 ≠ [] → ∃ y, Ago x A l1.length y (putRow a l1 A) ∧ y.st = .wr ⟨a + l1.length, l2⟩ ∧ x.Same y := by
  intro l1
  induction l1 with
  | nil => intro l2 a x A ho hs _; exact ⟨x, .refl _ _, by rw [hs]; simp, ⟨ho, rfl, rfl, rfl, rfl, rfl, rfl, rfl⟩⟩
  | cons v l1 ih =>
    intro l2 a x A ho hs hn
    have e := At.wr_step (A := A) ho hs
    have e0 : ((v :: l1) ++ l2 : List Int) = v :: (l1 ++ l2) := rfl
    have e1 : (⟨a, (v :: l1) ++ l2⟩ : Wr).step A = (⟨a + 1, l1 ++ l2⟩, false, A.put a v) := by
      unfold Wr.step
      simp only [e0]
      have : (l1 ++ l2).isEmpty = false := by cases l1 with
        | nil => cases l2 with
          | nil => exact absurd rfl hn
          | cons _ _ => rfl
        | cons _ _ => rfl
      rw [this]
    rw [e1] at e
    obtain ⟨y, k1, k2, k3⟩ := ih (x := { x with ts := x.slot, tg := x.gen, st := .wr ⟨a + 1, l1 ++ l2⟩ }) (A := A.put a v) ho rfl hn
    have k0 := Ago.one ho e ⟨rfl, rfl, .inr ⟨rfl, rfl⟩⟩
    refine ⟨y, ?_, ?_, ⟨k3.over, k3.t, k3.q, k3.slot, k3.gen, k3.ops, k3.won, k3.ans⟩⟩
    · have := k0.trans k1
      rw [List.length_cons, Nat.add_comm]; exact this
    · rw [k2, List.length_cons]; congr 2; omega
theorem Ago.wrAll {l : List Int} {a : Int} {x : At} {A : Ar} (ho : x.over = false) (hs : x.st = .wr ⟨a, l⟩) (hn : l ≠ []) : ∃ y, Ago x A l.length y (putRow a l A) ∧ y.st = .hp (.new x.t x.q (.who (.new x.slot x.gen))) ∧ x.Same y := by
  obtain ⟨l1, v, rfl⟩ : ∃ l1 v, l = l1 ++ [v] := ⟨l.dropLast, l.getLast hn, (List.dropLast_concat_getLast hn).symm⟩
  obtain ⟨y, k1, k2, k3⟩ := Ago.wr l1 (l2 := [v]) (A := A) ho hs (by simp)
  have e := At.wr_step (A := putRow a l1 A) k3.over k2
  have e1 : (⟨a + l1.length, [v]⟩ : Wr).step (putRow a l1 A) = (⟨a + l1.length + 1, []⟩, true, (putRow a l1 A).put (a + l1.length) v) := rfl
  rw [e1] at e
  have k4 := Ago.one k3.over e ⟨rfl, rfl, .inr ⟨rfl, rfl⟩⟩
  refine ⟨{ y with ts := y.slot, tg := y.gen, st := .hp (.new y.t y.q (.who (.new y.slot y.gen))) }, ?_, ?_, ⟨k3.over, k3.t, k3.q, k3.slot, k3.gen, k3.ops, k3.won, k3.ans⟩⟩
  · have := k1.trans k4
    have e2 : putRow a (l1 ++ [v]) A = (putRow a l1 A).put (a + l1.length) v := by
      clear hs hn k1 k2 k3 k4 e e1 this
      induction l1 generalizing a A with
      | nil => show A.put a v = A.put (a + ((0 : Nat) : Int)) v; rw [Int.natCast_zero, Int.add_zero]
      | cons u l1 ih =>
        show putRow (a + 1) (l1 ++ [v]) (A.put a u) = _
        rw [ih]
        show (putRow (a + 1) l1 (A.put a u)).put _ v = (putRow (a + 1) l1 (A.put a u)).put _ v
        congr 1; simp only [List.length_cons]; omega
    rw [e2, List.length_append]; exact this
  · simp only [k3.t, k3.q, k3.slot, k3.gen]
theorem At.step_hp {x : At} {A : Ar} {H : Help} (ho : x.over = false) (hs : x.st = .hp H) (h0 : (H.step A).2.1 = 0) : x.step A = ({ x with q := (H.step A).1.q, ts := (H.step A).1.slot, tg := (H.step A).1.gen, st := .hp (H.step A).1, over := (H.step A).1.over, won := (H.step A).1.over && (H.step A).1.won }, 0, (H.step A).2.2) := by
  unfold At.step
  rw [if_neg (by rw [ho]; decide), hs]
  simp only [h0]
  rfl
def At.helped (x : At) (H : Help) : At := { x with q := H.q, ts := H.slot, tg := H.gen, st := .hp H, over := H.over, won := H.over && H.won }
theorem Ago.help {H : Help} {A : Ar} {n : Nat} {H' : Help} {A' : Ar} (a : Goes H A n H' A') : ∀ {x : At}, 0 < n → x.over = false → x.st = .hp H → H.rest = [] → H.top.s = x.slot → H.top.g = x.gen → Ago x A n (x.helped H') A' := by
  induction a with
  | refl => intro x h; omega
  | @step H A n H' A' h1 h2 hk h3 ih =>
    intro x _ ho hs hr hts htg
    have e := At.step_hp (A := A) ho hs h2
    obtain ⟨k1, k2, k3, k4, k5⟩ := hk hr
    refine .step ho (by rw [e]) (by rw [e]; exact ⟨rfl, rfl, .inr ⟨by rw [← hts]; exact k4, by rw [← htg]; exact k5⟩⟩) ?_
    rw [e]
    cases n with
    | zero => cases h3; exact .refl _ _
    | succ n =>
      have hov : (H.step A).1.over = false := by cases h3 with | step a _ _ _ => exact a
      exact ih (x := x.helped (H.step A).1) (by omega) hov rfl k1 (by rw [k2]; exact hts) (by rw [k3]; exact htg)
theorem At.step_rd {x : At} {A : Ar} {v : Vw} {t q c y : Int} (ho : x.over = false) (hs : x.st = .rd (.new t q c) v) (hp : plainOf (A.at c) = some y) : x.step A = ({ x with q := q, ts := -1, tg := 0, st := .rd ⟨t, q, c, y, none, -1, 0, true⟩ v }.known v c y, 0, A.ld c) := by
  have e : (Rd.new t q c).step A = (⟨t, q, c, y, none, -1, 0, true⟩, 0, A.ld c) := by
    unfold Rd.step
    simp only [Rd.new, Bool.false_eq_true, if_false]
    unfold Rd.load
    simp only [hp]
  unfold At.step
  rw [if_neg (by rw [ho]; decide), hs]
  simp only [e]
  rfl
structure Wk.Full (W : Wk) : Prop where
  ln : W.v.n.length = 16
  need : W.need = none
  all : ∀ i : Nat, i < 16 → W.v.k.getD i false = true
structure Vw.Kn (v F : Vw) : Prop where
  ln : v.n.length = 16
  same : ∀ i : Nat, v.k.getD i false = true → v.n.getD i 0 = F.n.getD i 0
structure Smm {α : Type} (f : Wk → α × Wk) : Prop where
  dead : ∀ w, w.need.isSome = true → (f w).2 = w
  full : ∀ W : Wk, W.Full → (f W).2.Full
  keep : ∀ w, (f w).2.v.k = w.v.k ∧ (f w).2.v.w = w.v.w
  sim : ∀ w W : Wk, w.need = none → W.Full → w.v.Kn W.v → (f w).2.need = none → (f w).1 = (f W).1 ∧ (f w).2.v.Kn (f W).2.v
  unk : ∀ w c, w.need = none → (f w).2.need = some c → w.v.k.getD c.toNat false = false
def Cell (c : Int) : Prop := 0 ≤ c ∧ c < 16
section
variable {α β : Type}
theorem Smm.ret (a : α) : Smm fun w => (a, w) := ⟨fun _ _ => rfl, fun _ h => h, fun _ => ⟨rfl, rfl⟩, fun w W _ _ k _ => ⟨rfl, k⟩, fun w c h1 h2 => by rw [h1] at h2; cases h2⟩
theorem Smm.bind {f : Wk → α × Wk} {g : α → Wk → β × Wk} (a : Smm f) (b : ∀ x, Smm (g x)) : Smm fun w => g (f w).1 (f w).2 := by
  have keepN : ∀ w, ((g (f w).1 (f w).2).2.need = none) → (f w).2.need = none := fun w h => by
    cases e : (f w).2.need with
    | none => rfl
    | some c =>
      have := (b (f w).1).dead (f w).2 (by rw [e]; rfl)
      rw [this, e] at h; cases h
  refine ⟨fun w h => ?_, fun W h => (b _).full _ (a.full W h), fun w => ?_, fun w W h1 h2 h3 h4 => ?_, fun w c h1 h2 => ?_⟩
  · have e := a.dead w h
    simp only [e]
    exact (b _).dead w h
  · have := a.keep w
    have := (b (f w).1).keep (f w).2
    simp_all
  · have hn := keepN w h4
    have s := a.sim w W h1 h2 h3 hn
    have t := (b (f w).1).sim (f w).2 (f W).2 hn (a.full W h2) s.2 h4
    rw [s.1] at t ⊢
    exact t
  · cases e : (f w).2.need with
    | none =>
      have := (b (f w).1).unk (f w).2 c e h2
      rw [(a.keep w).1] at this; exact this
    | some d =>
      have := (b (f w).1).dead (f w).2 (by rw [e]; rfl)
      simp only [this, e] at h2
      cases h2
      exact a.unk w c h1 e
open Classical in
theorem Smm.bindP {f : Wk → α × Wk} {g : α → Wk → β × Wk} {P : α → Prop} (a : Smm f) (hP : ∀ w, P (f w).1) (b : ∀ x, P x → Smm (g x)) : Smm fun w => g (f w).1 (f w).2 := by
  have e : (fun w => g (f w).1 (f w).2) = fun w => (fun x w => if P x then g x w else ((g x wkZ).1, w)) (f w).1 (f w).2 := by
    funext w; simp only [if_pos (hP w)]
  rw [e]
  refine Smm.bind (g := fun x w => if P x then g x w else ((g x wkZ).1, w)) a fun x => ?_
  by_cases h : P x
  · simp only [if_pos h]; exact b x h
  · simp only [if_neg h]; exact Smm.ret _
theorem Smm.ite {c : Prop} [Decidable c] {f g : Wk → α × Wk} (a : Smm f) (b : Smm g) : Smm fun w => if c then f w else g w := by
  by_cases h : c
  · simp only [if_pos h]; exact a
  · simp only [if_neg h]; exact b
theorem Smm.get {c : Int} (hc : Cell c) : Smm fun w => w.get c := by
  obtain ⟨c0, c1⟩ := hc
  refine ⟨fun w h => ?_, fun W h => ?_, fun w => ?_, fun w W h1 h2 h3 h4 => ?_, fun w d h1 h2 => ?_⟩
  · unfold Wk.get; rw [if_pos h]
  · unfold Wk.get
    rw [if_neg (by rw [h.need]; decide), if_pos (h.all _ (by omega))]; exact h
  · unfold Wk.get; repeat' split
    all_goals exact ⟨rfl, rfl⟩
  · unfold Wk.get at h4 ⊢
    have n1 : w.need.isSome = false := by rw [h1]; rfl
    have n2 : W.need.isSome = false := by rw [h2.need]; rfl
    have k2 := h2.all c.toNat (by omega)
    simp only [n1, n2, k2, Bool.false_eq_true, if_false, if_true] at h4 ⊢
    by_cases k : w.v.k.getD c.toNat false = true
    · simp only [if_pos k]; exact ⟨h3.same _ k, h3⟩
    · rw [if_neg k] at h4; cases h4
  · unfold Wk.get at h2
    rw [if_neg (by rw [h1]; decide)] at h2
    by_cases k : w.v.k.getD c.toNat false = true
    · rw [if_pos k, h1] at h2; cases h2
    · rw [if_neg k] at h2; cases h2; simpa using k
theorem Smm.set (c x : Int) : Smm fun w => ((), w.set c x) := by
  refine ⟨fun w h => ?_, fun W h => ?_, fun w => ?_, fun w W h1 h2 h3 h4 => ?_, fun w d h1 h2 => ?_⟩
  · unfold Wk.set; rw [if_pos h]
  · unfold Wk.set
    rw [if_neg (by rw [h.need]; decide)]
    exact ⟨by simp [h.ln], h.need, h.all⟩
  · unfold Wk.set; split <;> exact ⟨rfl, rfl⟩
  · refine ⟨rfl, ?_⟩
    unfold Wk.set
    rw [if_neg (by rw [h1]; decide), if_neg (by rw [h2.need]; decide)]
    refine ⟨by simp [h3.ln], fun i hi => ?_⟩
    have := h3.same i hi
    have l1 := h3.ln
    have l2 := h2.ln
    simp only [List.getD_eq_getElem?_getD, List.getElem?_set] at this ⊢
    split
    · rename_i e
      split <;> split <;> first | rfl | omega
    · exact this
  · unfold Wk.set at h2
    rw [if_neg (by rw [h1]; decide)] at h2
    simp only at h2
    rw [h1] at h2; cases h2
theorem Smm.get_ {c : Int} (hc : Cell c) {g : Int → Wk → β × Wk} (b : ∀ x, Smm (g x)) : Smm fun w => g (w.get c).1 (w.get c).2 := Smm.bind (Smm.get hc) b
theorem Smm.set_ {c x : Int} {g : Wk → β × Wk} (b : Smm g) : Smm fun w => g (w.set c x) := Smm.bind (g := fun _ => g) (Smm.set c x) fun _ => b
def LvC (key lev : Int) : Prop := -1 ≤ key ∧ key < 5 ∧ 0 ≤ lev ∧ lev ≤ 1
theorem LvC.cell {key lev : Int} (h : LvC key lev) : Cell (lk key lev) := by
  obtain ⟨h1, h2, h3, h4⟩ := h
  unfold Cell lk; omega
theorem Smm.next {key lev : Int} (h : LvC key lev) : Smm fun w => w.next key lev :=
  Smm.get_ (g := fun x w => (if x - 1 ≤ key ∨ 5 ≤ x - 1 then -1 else x - 1, w)) h.cell fun x => Smm.ret _
theorem Wk.next_rng {w : Wk} {key lev : Int} : (w.next key lev).1 = -1 ∨ key < (w.next key lev).1 ∧ (w.next key lev).1 < 5 := by
  unfold Wk.next; simp only; split
  · exact .inl rfl
  · right; omega
theorem Smm.st {f : Wk → Wk} {g : Wk → β × Wk} (a : Smm fun w => ((), f w)) (b : Smm g) : Smm fun w => g (f w) := Smm.bind (f := fun w => ((), f w)) (g := fun _ => g) a fun _ => b
theorem Smm.next_ {key lev : Int} (h : LvC key lev) {g : Int → Wk → β × Wk} (b : ∀ x, x = -1 ∨ key < x ∧ x < 5 → Smm (g x)) : Smm fun w => g (w.next key lev).1 (w.next key lev).2 :=
  Smm.bindP (P := fun x => x = -1 ∨ key < x ∧ x < 5) (Smm.next h) (fun w => Wk.next_rng) b
theorem Wk.before_rng {key lev : Int} : ∀ {n : Nat} {w : Wk} {f : Int}, -1 ≤ f → f < 5 → -1 ≤ (w.before n key f lev).1 ∧ (w.before n key f lev).1 < 5 := by
  intro n
  induction n with
  | zero => intro w f h0 h1; exact ⟨h0, h1⟩
  | succ n ih =>
    intro w f h0 h1
    unfold Wk.before
    split
    · exact ⟨h0, h1⟩
    · rename_i c
      have := Wk.next_rng (w := w) (key := f) (lev := lev)
      exact ih (by omega) (by omega)
theorem Smm.before {key lev : Int} (l0 : 0 ≤ lev) (l1 : lev ≤ 1) : ∀ {n : Nat} {f : Int}, -1 ≤ f → f < 5 → Smm fun w => w.before n key f lev := by
  intro n
  induction n with
  | zero => intro f _ _; exact Smm.ret _
  | succ n ih =>
    intro f h0 h1
    refine Smm.next_ (g := fun x w => if x = -1 ∨ key ≤ x then (f, w) else w.before n key x lev) ⟨h0, h1, l0, l1⟩ fun x hx => ?_
    exact Smm.ite (Smm.ret _) (ih (by omega) (by omega))
theorem Smm.bits {b : Int} : ∀ {n : Nat} {x out : Int}, -1 ≤ x → x < 5 → Smm fun w => w.bits n x b out := by
  intro n
  induction n with
  | zero => intro x out _ _; exact Smm.ret _
  | succ n ih =>
    intro x out h0 h1
    exact Smm.ite (c := x = -1 ∨ b < x) (Smm.ret _) (Smm.next_ (g := fun y w => w.bits n y b (bor out (bshl x))) ⟨h0, h1, by decide, by decide⟩ fun y hy => ih (by omega) (by omega))
theorem Smm.put {a k lev : Int} (h1 : LvC k lev) (h2 : LvC a lev) : Smm fun w => ((), w.put a k lev) :=
  Smm.get_ (g := fun _ w => (fun y w2 => ((), (Wk.set w2 (lk k lev) y).set (lk a lev) (k + 1))) (w.get (lk a lev)).1 (w.get (lk a lev)).2) h1.cell fun _ =>
    Smm.get_ (g := fun y w2 => ((), (Wk.set w2 (lk k lev) y).set (lk a lev) (k + 1))) h2.cell fun y => Smm.set_ (g := fun w => ((), w.set (lk a lev) (k + 1))) (Smm.set _ _)
theorem Smm.drop {a k lev : Int} (h1 : LvC k lev) : Smm fun w => ((), w.drop a k lev) :=
  Smm.get_ (g := fun y w2 => ((), (Wk.set w2 (lk a lev) y).set (lk k lev) 0)) h1.cell fun y => Smm.set_ (g := fun w => ((), w.set (lk k lev) 0)) (Smm.set _ _)
theorem Smm.insert {o : Op} {hi lo x : Int} (lh : LvC hi 1) (ll : LvC lo 0) (la : 0 ≤ o.a ∧ o.a < 5) : Smm fun w => w.insert o hi lo x := by
  have l0 : LvC o.a 0 := ⟨by omega, la.2, by decide, by decide⟩
  have l1 : LvC o.a 1 := ⟨by omega, la.2, by decide, by decide⟩
  refine Smm.ite (c := x = o.a) (Smm.ret _) ?_
  by_cases h : o.x = 1
  · simp only [if_pos h]
    exact Smm.st (f := fun w => w.put lo o.a 0) (g := fun w => ((⟨0, o.a⟩ : Answer), w.put hi o.a 1)) (Smm.put l0 ll) (Smm.st (f := fun w => w.put hi o.a 1) (g := fun w => (_, w)) (Smm.put l1 lh) (Smm.ret _))
  · simp only [if_neg h]
    exact Smm.st (f := fun w => w.put lo o.a 0) (g := fun w => (_, w)) (Smm.put l0 ll) (Smm.ret _)
theorem Smm.erase {o : Op} {hi lo x : Int} (lh : LvC hi 1) (ll : LvC lo 0) (la : 0 ≤ o.a ∧ o.a < 5) : Smm fun w => w.erase o hi lo x := by
  have l0 : LvC o.a 0 := ⟨by omega, la.2, by decide, by decide⟩
  have l1 : LvC o.a 1 := ⟨by omega, la.2, by decide, by decide⟩
  refine Smm.ite (c := x = o.a) ?_ (Smm.ret _)
  refine Smm.st (f := fun w => w.drop lo o.a 0) (g := fun w => (fun y w2 => ((⟨0, o.a⟩ : Answer), if y = o.a then Wk.drop w2 hi o.a 1 else w2)) (w.next hi 1).1 (w.next hi 1).2) (Smm.drop l0) ?_
  refine Smm.next_ (g := fun y w2 => ((⟨0, o.a⟩ : Answer), if y = o.a then Wk.drop w2 hi o.a 1 else w2)) lh fun y _ => ?_
  by_cases h : y = o.a
  · simp only [if_pos h]; exact Smm.st (f := fun w => w.drop hi o.a 1) (g := fun w => (_, w)) (Smm.drop l1) (Smm.ret _)
  · simp only [if_neg h]; exact Smm.ret _
theorem Smm.skip {o : Op} (la : 0 ≤ o.a ∧ o.a < 5) : Smm fun w => w.skip o := by
  refine Smm.ite (c := o.kind = 9) (Smm.next_ (g := fun x w => ((if x = -1 then ⟨2, 0⟩ else ⟨0, x⟩ : Answer), w)) ⟨by decide, by decide, by decide, by decide⟩ fun x _ => Smm.ret _) ?_
  refine Smm.bindP (f := fun w => w.before 7 o.a (-1) 1) (P := fun x => -1 ≤ x ∧ x < 5)
    (g := fun hi w => (fun lo w => (fun at_ w => if o.kind = 8 then ((⟨0, if at_ = o.a then 1 else 0⟩ : Answer), w) else
      if o.kind = 10 then (⟨0, (Wk.bits 7 w at_ o.b 0).1⟩, (Wk.bits 7 w at_ o.b 0).2) else
      if o.kind = 6 then w.insert o hi lo at_ else w.erase o hi lo at_) (w.next lo 0).1 (w.next lo 0).2) (w.before 7 o.a hi 0).1 (w.before 7 o.a hi 0).2)
    (Smm.before (by decide) (by decide) (by decide) (by decide)) (fun w => Wk.before_rng (by decide) (by decide)) fun hi hh => ?_
  refine Smm.bindP (f := fun w => w.before 7 o.a hi 0) (P := fun x => -1 ≤ x ∧ x < 5)
    (g := fun lo w => (fun at_ w => if o.kind = 8 then ((⟨0, if at_ = o.a then 1 else 0⟩ : Answer), w) else
      if o.kind = 10 then (⟨0, (Wk.bits 7 w at_ o.b 0).1⟩, (Wk.bits 7 w at_ o.b 0).2) else
      if o.kind = 6 then w.insert o hi lo at_ else w.erase o hi lo at_) (w.next lo 0).1 (w.next lo 0).2)
    (Smm.before (by decide) (by decide) hh.1 hh.2) (fun w => Wk.before_rng hh.1 hh.2) fun lo hl => ?_
  refine Smm.next_ (g := fun at_ w => if o.kind = 8 then ((⟨0, if at_ = o.a then 1 else 0⟩ : Answer), w) else
      if o.kind = 10 then (⟨0, (Wk.bits 7 w at_ o.b 0).1⟩, (Wk.bits 7 w at_ o.b 0).2) else
      if o.kind = 6 then w.insert o hi lo at_ else w.erase o hi lo at_) ⟨hl.1, hl.2, by decide, by decide⟩ fun x hx => ?_
  refine Smm.ite (Smm.ret _) (Smm.ite ?_ (Smm.ite ?_ ?_))
  · exact Smm.bind (f := fun w => w.bits 7 x o.b 0) (g := fun y w => ((⟨0, y⟩ : Answer), w)) (Smm.bits (by omega) (by omega)) fun y => Smm.ret _
  · exact Smm.insert ⟨hh.1, hh.2, by decide, by decide⟩ ⟨hl.1, hl.2, by decide, by decide⟩ la
  · exact Smm.erase ⟨hh.1, hh.2, by decide, by decide⟩ ⟨hl.1, hl.2, by decide, by decide⟩ la
theorem Smm.sum : ∀ {n : Nat} {i all : Int}, 0 ≤ i → i + n ≤ 16 → Smm fun w => w.sum n i all := by
  intro n
  induction n with
  | zero => intro i all _ _; exact Smm.ret _
  | succ n ih =>
    intro i all h0 h1
    exact Smm.get_ (g := fun x w => w.sum n (i + 1) (all + max 0 (x - 1))) ⟨h0, by omega⟩ fun x => ih (by omega) (by omega)
theorem Smm.bank {o : Op} (ho : Bk o) : Smm fun w => w.bank o := by
  obtain ⟨⟨a0, a1⟩, ⟨b0, b1⟩, x0, x1⟩ := ho
  refine Smm.ite (c := o.kind = 5) (Smm.bind (f := fun w => w.sum 4 0 0) (g := fun y w => ((⟨0, y⟩ : Answer), w)) (Smm.sum (by decide) (by decide)) fun y => Smm.ret _) ?_
  refine Smm.get_ (g := fun g w => if o.kind = 0 then (if 0 < g then ((⟨1, 0⟩ : Answer), w) else (⟨0, o.x⟩, w.set o.a (o.x + 1))) else
    if o.kind = 4 then (fun g2 w =>
      if g = 0 ∨ g2 = 0 then ((⟨2, 0⟩ : Answer), w) else
      if g - 1 < o.x then (⟨3, 0⟩, w) else
      if o.a = o.b then (⟨0, g - 1⟩, w) else
      if 1048575 < g2 - 1 + o.x then (⟨4, 0⟩, w) else
      (⟨0, g - 1 - o.x⟩, (Wk.set w o.b (g2 - 1 + o.x + 1)).set o.a (g - 1 - o.x + 1))) (w.get o.b).1 (w.get o.b).2
    else
    if g = 0 then (⟨2, 0⟩, w) else
    if o.kind = 1 then (⟨0, g - 1⟩, w.set o.a 0) else
    if o.kind = 2 then (if 1048575 < g - 1 + o.x then (⟨4, 0⟩, w) else (⟨0, g - 1 + o.x⟩, w.set o.a (g - 1 + o.x + 1))) else
    if g - 1 < o.x then (⟨3, 0⟩, w) else (⟨0, g - 1 - o.x⟩, w.set o.a (g - 1 - o.x + 1))) ⟨a0, by omega⟩ fun g => ?_
  have one : ∀ (a : Answer) (c x : Int), Smm fun w => (a, Wk.set w c x) := fun a c x => Smm.set_ (g := fun w => (a, w)) (Smm.ret a)
  refine Smm.ite (Smm.ite (Smm.ret _) (one _ _ _)) (Smm.ite ?_ (Smm.ite (Smm.ret _) (Smm.ite (one _ _ _) (Smm.ite (Smm.ite (Smm.ret _) (one _ _ _)) (Smm.ite (Smm.ret _) (one _ _ _))))))
  refine Smm.get_ (g := fun g2 w =>
      if g = 0 ∨ g2 = 0 then ((⟨2, 0⟩ : Answer), w) else
      if g - 1 < o.x then (⟨3, 0⟩, w) else
      if o.a = o.b then (⟨0, g - 1⟩, w) else
      if 1048575 < g2 - 1 + o.x then (⟨4, 0⟩, w) else
      (⟨0, g - 1 - o.x⟩, (Wk.set w o.b (g2 - 1 + o.x + 1)).set o.a (g - 1 - o.x + 1))) ⟨b0, by omega⟩ fun g2 => ?_
  refine Smm.ite (Smm.ret _) (Smm.ite (Smm.ret _) (Smm.ite (Smm.ret _) (Smm.ite (Smm.ret _) ?_)))
  exact Smm.set_ (g := fun w => ((⟨0, g - 1 - o.x⟩ : Answer), Wk.set w o.a (g - 1 - o.x + 1))) (one _ _ _)
end
section
variable {α β : Type} {k : List Bool}
def Unt (k : List Bool) (f : Wk → α × Wk) : Prop := ∀ w W : Wk, w.v.k = k → w.need = none → W.Full → w.v.Kn W.v → (f w).2.need = none → ∀ i : Nat, k.getD i false = false → (f W).2.v.n.getD i 0 = W.v.n.getD i 0
def Kw (k : List Bool) (c : Int) : Prop := k.getD c.toNat false = true
theorem Unt.ret (a : α) : Unt k fun w => (a, w) := fun _ _ _ _ _ _ _ _ _ => rfl
theorem Unt.bind {f : Wk → α × Wk} {g : α → Wk → β × Wk} {P : α → Prop} (a : Smm f) (ua : Unt k f) (dead : ∀ x w, w.need.isSome = true → (g x w).2 = w)
    (hP : ∀ w, w.v.k = k → w.need = none → (f w).2.need = none → P (f w).1) (ub : ∀ x, P x → Unt k (g x)) : Unt k fun w => g (f w).1 (f w).2 := by
  intro w W hk h1 h2 h3 h4 i hi
  have hl : (f w).2.need = none := by
    cases e : (f w).2.need with
    | none => rfl
    | some c =>
      have := dead (f w).1 (f w).2 (by rw [e]; rfl)
      simp only [this, e] at h4; cases h4
  have s := a.sim w W h1 h2 h3 hl
  have p := hP w hk h1 hl
  have u1 := ua w W hk h1 h2 h3 hl i hi
  have u2 := ub (f w).1 p (f w).2 (f W).2 (by rw [(a.keep w).1]; exact hk) hl (a.full W h2) s.2 h4 i hi
  rw [s.1] at u2
  show (g (f W).1 (f W).2).2.v.n.getD i 0 = _
  rw [u2, u1]
theorem Unt.ite {c : Prop} [Decidable c] {f g : Wk → α × Wk} (a : Unt k f) (b : Unt k g) : Unt k fun w => if c then f w else g w := by
  by_cases h : c
  · simp only [if_pos h]; exact a
  · simp only [if_neg h]; exact b
theorem Unt.get {c : Int} (hc : Cell c) : Unt k fun w => w.get c := by
  intro w W _ _ h2 _ _ i _
  obtain ⟨c0, c1⟩ := hc
  simp only
  unfold Wk.get
  rw [if_neg (by rw [h2.need]; decide), if_pos (h2.all _ (by omega))]
theorem get_known {w : Wk} {c : Int} (h1 : w.need = none) (h : (w.get c).2.need = none) : Kw w.v.k c := by
  unfold Wk.get at h
  rw [if_neg (by rw [h1]; decide)] at h
  by_cases q : w.v.k.getD c.toNat false = true
  · exact q
  · rw [if_neg q] at h; cases h
theorem Unt.get_ {c : Int} (hc : Cell c) {g : Int → Wk → β × Wk} (b : ∀ x, Smm (g x)) (u : Kw k c → ∀ x, Unt k (g x)) : Unt k fun w => g (w.get c).1 (w.get c).2 :=
  Unt.bind (P := fun _ => Kw k c) (Smm.get hc) (Unt.get hc) (fun x => (b x).dead) (fun w hk h1 h2 => by rw [← hk]; exact get_known h1 h2) fun x h => u h x
theorem Unt.set_ {c x : Int} (hc : Kw k c) {g : Wk → β × Wk} (b : Smm g) (u : Unt k g) : Unt k fun w => g (w.set c x) := by
  refine Unt.bind (f := fun w => ((), w.set c x)) (g := fun _ => g) (P := fun _ => True) (Smm.set c x) ?_ (fun _ => b.dead) (fun _ _ _ _ => trivial) fun _ _ => u
  intro w W hk h1 h2 h3 h4 i hi
  simp only
  unfold Wk.set
  rw [if_neg (by rw [h2.need]; decide)]
  simp only [List.getD_eq_getElem?_getD, List.getElem?_set]
  split
  · rename_i e
    unfold Kw at hc
    rw [e, hi] at hc; cases hc
  · rfl
theorem Unt.st {f : Wk → Wk} {g : Wk → β × Wk} (a : Smm fun w => ((), f w)) (ua : Unt k fun w => ((), f w)) (b : Smm g) (ub : Unt k g) : Unt k fun w => g (f w) :=
  Unt.bind (f := fun w => ((), f w)) (g := fun _ => g) (P := fun _ => True) a ua (fun _ => b.dead) (fun _ _ _ _ => trivial) fun _ _ => ub
theorem Unt.next {key lev : Int} (h : LvC key lev) : Unt k fun w => w.next key lev :=
  Unt.get_ (g := fun x w => (if x - 1 ≤ key ∨ 5 ≤ x - 1 then -1 else x - 1, w)) h.cell (fun x => Smm.ret _) fun _ x => Unt.ret _
theorem next_known {w : Wk} {key lev : Int} (h1 : w.need = none) (h : (w.next key lev).2.need = none) : Kw w.v.k (lk key lev) := get_known h1 h
theorem Unt.next_ {key lev : Int} (h : LvC key lev) {g : Int → Wk → β × Wk} (d : ∀ x w, w.need.isSome = true → (g x w).2 = w) (u : Kw k (lk key lev) → ∀ x, x = -1 ∨ key < x ∧ x < 5 → Unt k (g x)) : Unt k fun w => g (w.next key lev).1 (w.next key lev).2 :=
  Unt.bind (P := fun x => Kw k (lk key lev) ∧ (x = -1 ∨ key < x ∧ x < 5)) (Smm.next h) (Unt.next h) d (fun w hk h1 h2 => ⟨by rw [← hk]; exact next_known h1 h2, Wk.next_rng⟩) fun x q => u q.1 x q.2
theorem Unt.before {key lev : Int} (l0 : 0 ≤ lev) (l1 : lev ≤ 1) : ∀ {n : Nat} {f : Int}, -1 ≤ f → f < 5 → Unt k fun w => w.before n key f lev := by
  intro n
  induction n with
  | zero => intro f _ _; exact Unt.ret _
  | succ n ih =>
    intro f h0 h1
    refine Unt.next_ (g := fun x w => if x = -1 ∨ key ≤ x then (f, w) else w.before n key x lev) ⟨h0, h1, l0, l1⟩ (fun x w hw => ?_) fun _ x hx => ?_
    · split
      · rfl
      · obtain ⟨c, hc⟩ := Option.isSome_iff_exists.1 hw
        exact Wk.before_asked hc
    · by_cases c : x = -1 ∨ key ≤ x
      · simp only [if_pos c]; exact Unt.ret _
      · simp only [if_neg c]; exact ih (by omega) (by omega)
theorem before_known {key lev : Int} (l0 : 0 ≤ lev) (l1 : lev ≤ 1) : ∀ {n : Nat} {f : Int} {w : Wk}, -1 ≤ f → f < 5 → w.need = none → (w.before (n + 1) key f lev).2.need = none → 4 ≤ n + f → Kw w.v.k (lk (w.before (n + 1) key f lev).1 lev) := by
  intro n
  induction n with
  | zero =>
    intro f w h0 h1 hn h hf
    have r := Wk.next_rng (w := w) (key := f) (lev := lev)
    unfold Wk.before at h ⊢
    have c : (w.next f lev).1 = -1 ∨ key ≤ (w.next f lev).1 := by left; omega
    rw [if_pos c] at h ⊢
    exact next_known hn h
  | succ n ih =>
    intro f w h0 h1 hn h hf
    unfold Wk.before at h ⊢
    split
    · rename_i c; rw [if_pos c] at h; exact next_known hn h
    · rename_i c
      rw [if_neg c] at h
      have r := Wk.next_rng (w := w) (key := f) (lev := lev)
      have hl : (w.next f lev).2.need = none := by
        cases e : (w.next f lev).2.need with
        | none => rfl
        | some d => rw [Wk.before_asked e, e] at h; cases h
      have := ih (f := (w.next f lev).1) (w := (w.next f lev).2) (by omega) (by omega) hl h (by omega)
      have kk := ((Smm.next (key := f) (lev := lev) ⟨h0, h1, l0, l1⟩).keep w).1
      rw [show (w.next f lev).2.v.k = w.v.k from kk] at this; exact this
theorem Unt.bits {b : Int} : ∀ {n : Nat} {x out : Int}, -1 ≤ x → x < 5 → Unt k fun w => w.bits n x b out := by
  intro n
  induction n with
  | zero => intro x out _ _; exact Unt.ret _
  | succ n ih =>
    intro x out h0 h1
    exact Unt.ite (c := x = -1 ∨ b < x) (Unt.ret _) (Unt.next_ (g := fun y w => w.bits n y b (bor out (bshl x))) ⟨h0, h1, by decide, by decide⟩ (fun x w hw => by
      obtain ⟨c, hc⟩ := Option.isSome_iff_exists.1 hw
      exact Wk.bits_asked hc) fun _ y hy => ih (by omega) (by omega))
theorem Unt.put {a key lev : Int} (h1 : LvC key lev) (h2 : LvC a lev) : Unt k fun w => ((), w.put a key lev) :=
  Unt.get_ (g := fun _ w => (fun y w2 => ((), (Wk.set w2 (lk key lev) y).set (lk a lev) (key + 1))) (w.get (lk a lev)).1 (w.get (lk a lev)).2) h1.cell (fun _ =>
    Smm.get_ (g := fun y w2 => ((), (Wk.set w2 (lk key lev) y).set (lk a lev) (key + 1))) h2.cell fun y => Smm.set_ (g := fun w => ((), w.set (lk a lev) (key + 1))) (Smm.set _ _)) fun k1 _ =>
    Unt.get_ (g := fun y w2 => ((), (Wk.set w2 (lk key lev) y).set (lk a lev) (key + 1))) h2.cell (fun y => Smm.set_ (g := fun w => ((), w.set (lk a lev) (key + 1))) (Smm.set _ _)) fun k2 y =>
      Unt.set_ (g := fun w => ((), w.set (lk a lev) (key + 1))) k1 (Smm.set _ _) (Unt.set_ (g := fun w => ((), w)) k2 (Smm.ret _) (Unt.ret _))
theorem Unt.drop {a key lev : Int} (h1 : LvC key lev) (ka : Kw k (lk a lev)) : Unt k fun w => ((), w.drop a key lev) :=
  Unt.get_ (g := fun y w2 => ((), (Wk.set w2 (lk a lev) y).set (lk key lev) 0)) h1.cell (fun y => Smm.set_ (g := fun w => ((), w.set (lk key lev) 0)) (Smm.set _ _)) fun k1 y =>
    Unt.set_ (g := fun w => ((), w.set (lk key lev) 0)) ka (Smm.set _ _) (Unt.set_ (g := fun w => ((), w)) k1 (Smm.ret _) (Unt.ret _))
theorem Unt.insert {o : Op} {hi lo x : Int} (lh : LvC hi 1) (ll : LvC lo 0) (la : 0 ≤ o.a ∧ o.a < 5) : Unt k fun w => w.insert o hi lo x := by
  have l0 : LvC o.a 0 := ⟨by omega, la.2, by decide, by decide⟩
  have l1 : LvC o.a 1 := ⟨by omega, la.2, by decide, by decide⟩
  refine Unt.ite (c := x = o.a) (Unt.ret _) ?_
  by_cases h : o.x = 1
  · simp only [if_pos h]
    exact Unt.st (f := fun w => w.put lo o.a 0) (g := fun w => ((⟨0, o.a⟩ : Answer), w.put hi o.a 1)) (Smm.put l0 ll) (Unt.put l0 ll) (Smm.st (f := fun w => w.put hi o.a 1) (g := fun w => (_, w)) (Smm.put l1 lh) (Smm.ret _))
      (Unt.st (f := fun w => w.put hi o.a 1) (g := fun w => (_, w)) (Smm.put l1 lh) (Unt.put l1 lh) (Smm.ret _) (Unt.ret _))
  · simp only [if_neg h]
    exact Unt.st (f := fun w => w.put lo o.a 0) (g := fun w => (_, w)) (Smm.put l0 ll) (Unt.put l0 ll) (Smm.ret _) (Unt.ret _)
theorem Unt.erase {o : Op} {hi lo x : Int} (lh : LvC hi 1) (ll : LvC lo 0) (la : 0 ≤ o.a ∧ o.a < 5) (kl : Kw k (lk lo 0)) : Unt k fun w => w.erase o hi lo x := by
  have l0 : LvC o.a 0 := ⟨by omega, la.2, by decide, by decide⟩
  have l1 : LvC o.a 1 := ⟨by omega, la.2, by decide, by decide⟩
  refine Unt.ite (c := x = o.a) ?_ (Unt.ret _)
  have sg : ∀ y, Smm fun w2 => ((⟨0, o.a⟩ : Answer), if y = o.a then Wk.drop w2 hi o.a 1 else w2) := fun y => by
    by_cases h : y = o.a
    · simp only [if_pos h]; exact Smm.st (f := fun w => w.drop hi o.a 1) (g := fun w => (_, w)) (Smm.drop l1) (Smm.ret _)
    · simp only [if_neg h]; exact Smm.ret _
  refine Unt.st (f := fun w => w.drop lo o.a 0) (g := fun w => (fun y w2 => ((⟨0, o.a⟩ : Answer), if y = o.a then Wk.drop w2 hi o.a 1 else w2)) (w.next hi 1).1 (w.next hi 1).2) (Smm.drop l0) (Unt.drop l0 kl)
    (Smm.next_ (g := fun y w2 => ((⟨0, o.a⟩ : Answer), if y = o.a then Wk.drop w2 hi o.a 1 else w2)) lh fun y _ => sg y) ?_
  refine Unt.next_ (g := fun y w2 => ((⟨0, o.a⟩ : Answer), if y = o.a then Wk.drop w2 hi o.a 1 else w2)) lh (fun y w hw => (sg y).dead w hw) fun kh y _ => ?_
  by_cases h : y = o.a
  · simp only [if_pos h]; exact Unt.st (f := fun w => w.drop hi o.a 1) (g := fun w => (_, w)) (Smm.drop l1) (Unt.drop l1 kh) (Smm.ret _) (Unt.ret _)
  · simp only [if_neg h]; exact Unt.ret _
def skG (o : Op) (hi lo at_ : Int) (w : Wk) : Answer × Wk := if o.kind = 8 then ((⟨0, if at_ = o.a then 1 else 0⟩ : Answer), w) else
      if o.kind = 10 then (⟨0, (Wk.bits 7 w at_ o.b 0).1⟩, (Wk.bits 7 w at_ o.b 0).2) else
      if o.kind = 6 then w.insert o hi lo at_ else w.erase o hi lo at_
theorem skG_dead {o : Op} {hi lo x : Int} {w : Wk} (hw : w.need.isSome = true) : (skG o hi lo x w).2 = w := by
  obtain ⟨c, hc⟩ := Option.isSome_iff_exists.1 hw
  unfold skG
  split
  · rfl
  · split
    · exact Wk.bits_asked hc
    · split
      · unfold Wk.insert
        split
        · rfl
        · simp only [Wk.put_asked hc]; split <;> rfl
      · unfold Wk.erase
        split
        · simp only [Wk.drop_asked hc, Wk.next_asked hc]; split <;> rfl
        · rfl
theorem Unt.skip {o : Op} (la : 0 ≤ o.a ∧ o.a < 5) : Unt k fun w => w.skip o := by
  refine Unt.ite (c := o.kind = 9) (Unt.next_ (g := fun x w => ((if x = -1 then ⟨2, 0⟩ else ⟨0, x⟩ : Answer), w)) ⟨by decide, by decide, by decide, by decide⟩ (fun _ _ _ => rfl) fun _ x _ => Unt.ret _) ?_
  have d1 : ∀ lo hi w, w.need.isSome = true → ((fun at_ w => skG o hi lo at_ w) (Wk.next w lo 0).1 (w.next lo 0).2).2 = w := fun lo hi w hw => by
    obtain ⟨c, hc⟩ := Option.isSome_iff_exists.1 hw
    simp only [Wk.next_asked hc]
    exact skG_dead hw
  refine Unt.bind (f := fun w => w.before 7 o.a (-1) 1) (P := fun x => -1 ≤ x ∧ x < 5)
    (g := fun hi w => (fun lo w => (fun at_ w => skG o hi lo at_ w) (w.next lo 0).1 (w.next lo 0).2) (w.before 7 o.a hi 0).1 (w.before 7 o.a hi 0).2)
    (Smm.before (by decide) (by decide) (by decide) (by decide)) (Unt.before (by decide) (by decide) (by decide) (by decide)) (fun x w hw => ?_) (fun w _ _ _ => Wk.before_rng (by decide) (by decide)) fun hi hh => ?_
  · obtain ⟨c, hc⟩ := Option.isSome_iff_exists.1 hw
    have := d1 (Wk.before 7 w o.a x 0).1 x w hw
    simp only [Wk.before_asked hc] at this ⊢
    exact this
  refine Unt.bind (f := fun w => w.before 7 o.a hi 0) (P := fun x => (-1 ≤ x ∧ x < 5) ∧ Kw k (lk x 0))
    (g := fun lo w => (fun at_ w => skG o hi lo at_ w) (w.next lo 0).1 (w.next lo 0).2)
    (Smm.before (by decide) (by decide) hh.1 hh.2) (Unt.before (by decide) (by decide) hh.1 hh.2) (fun x w hw => d1 x hi w hw) (fun w hk h1 h2 => ⟨Wk.before_rng hh.1 hh.2, by rw [← hk]; exact before_known (n := 6) (by decide) (by decide) hh.1 hh.2 h1 h2 (by omega)⟩) fun lo hl => ?_
  refine Unt.next_ (g := fun at_ w => skG o hi lo at_ w) ⟨hl.1.1, hl.1.2, by decide, by decide⟩ (fun x w hw => skG_dead hw) fun kl x hx => ?_
  refine Unt.ite (Unt.ret _) (Unt.ite ?_ (Unt.ite ?_ ?_))
  · exact Unt.bind (f := fun w => w.bits 7 x o.b 0) (g := fun y w => ((⟨0, y⟩ : Answer), w)) (P := fun _ => True) (Smm.bits (by omega) (by omega)) (Unt.bits (by omega) (by omega)) (fun _ _ _ => rfl) (fun _ _ _ _ => trivial) fun y _ => Unt.ret _
  · exact Unt.insert ⟨hh.1, hh.2, by decide, by decide⟩ ⟨hl.1.1, hl.1.2, by decide, by decide⟩ la
  · exact Unt.erase ⟨hh.1, hh.2, by decide, by decide⟩ ⟨hl.1.1, hl.1.2, by decide, by decide⟩ la hl.2
theorem Unt.sum : ∀ {n : Nat} {i all : Int}, 0 ≤ i → i + n ≤ 16 → Unt k fun w => w.sum n i all := by
  intro n
  induction n with
  | zero => intro i all _ _; exact Unt.ret _
  | succ n ih =>
    intro i all h0 h1
    exact Unt.get_ (g := fun x w => w.sum n (i + 1) (all + max 0 (x - 1))) ⟨h0, by omega⟩ (fun x => Smm.sum (by omega) (by omega)) fun _ x => ih (by omega) (by omega)
theorem Unt.bank {o : Op} (ho : Bk o) : Unt k fun w => w.bank o := by
  obtain ⟨⟨a0, a1⟩, ⟨b0, b1⟩, x0, x1⟩ := ho
  have one : ∀ (a : Answer) (c x : Int), Smm fun w => (a, Wk.set w c x) := fun a c x => Smm.set_ (g := fun w => (a, w)) (Smm.ret a)
  have oneU : ∀ (a : Answer) (c x : Int), Kw k c → Unt k fun w => (a, Wk.set w c x) := fun a c x h => Unt.set_ (g := fun w => (a, w)) h (Smm.ret a) (Unt.ret a)
  refine Unt.ite (c := o.kind = 5) (Unt.bind (f := fun w => w.sum 4 0 0) (g := fun y w => ((⟨0, y⟩ : Answer), w)) (P := fun _ => True) (Smm.sum (by decide) (by decide)) (Unt.sum (by decide) (by decide)) (fun _ _ _ => rfl) (fun _ _ _ _ => trivial) fun y _ => Unt.ret _) ?_
  have g2s : ∀ g g2 : Int, Smm fun w => if g = 0 ∨ g2 = 0 then ((⟨2, 0⟩ : Answer), w) else
      if g - 1 < o.x then (⟨3, 0⟩, w) else
      if o.a = o.b then (⟨0, g - 1⟩, w) else
      if 1048575 < g2 - 1 + o.x then (⟨4, 0⟩, w) else
      (⟨0, g - 1 - o.x⟩, (Wk.set w o.b (g2 - 1 + o.x + 1)).set o.a (g - 1 - o.x + 1)) := fun g g2 =>
    Smm.ite (Smm.ret _) (Smm.ite (Smm.ret _) (Smm.ite (Smm.ret _) (Smm.ite (Smm.ret _) (Smm.set_ (g := fun w => ((⟨0, g - 1 - o.x⟩ : Answer), Wk.set w o.a (g - 1 - o.x + 1))) (one _ _ _)))))
  refine Unt.get_ (g := fun g w => if o.kind = 0 then (if 0 < g then ((⟨1, 0⟩ : Answer), w) else (⟨0, o.x⟩, w.set o.a (o.x + 1))) else
    if o.kind = 4 then (fun g2 w =>
      if g = 0 ∨ g2 = 0 then ((⟨2, 0⟩ : Answer), w) else
      if g - 1 < o.x then (⟨3, 0⟩, w) else
      if o.a = o.b then (⟨0, g - 1⟩, w) else
      if 1048575 < g2 - 1 + o.x then (⟨4, 0⟩, w) else
      (⟨0, g - 1 - o.x⟩, (Wk.set w o.b (g2 - 1 + o.x + 1)).set o.a (g - 1 - o.x + 1))) (w.get o.b).1 (w.get o.b).2
    else
    if g = 0 then (⟨2, 0⟩, w) else
    if o.kind = 1 then (⟨0, g - 1⟩, w.set o.a 0) else
    if o.kind = 2 then (if 1048575 < g - 1 + o.x then (⟨4, 0⟩, w) else (⟨0, g - 1 + o.x⟩, w.set o.a (g - 1 + o.x + 1))) else
    if g - 1 < o.x then (⟨3, 0⟩, w) else (⟨0, g - 1 - o.x⟩, w.set o.a (g - 1 - o.x + 1))) ⟨a0, by omega⟩ (fun g => ?_) fun ka g => ?_
  · refine Smm.ite (Smm.ite (Smm.ret _) (one _ _ _)) (Smm.ite ?_ (Smm.ite (Smm.ret _) (Smm.ite (one _ _ _) (Smm.ite (Smm.ite (Smm.ret _) (one _ _ _)) (Smm.ite (Smm.ret _) (one _ _ _))))))
    exact Smm.get_ (g := fun g2 w => if g = 0 ∨ g2 = 0 then ((⟨2, 0⟩ : Answer), w) else
      if g - 1 < o.x then (⟨3, 0⟩, w) else
      if o.a = o.b then (⟨0, g - 1⟩, w) else
      if 1048575 < g2 - 1 + o.x then (⟨4, 0⟩, w) else
      (⟨0, g - 1 - o.x⟩, (Wk.set w o.b (g2 - 1 + o.x + 1)).set o.a (g - 1 - o.x + 1))) ⟨b0, by omega⟩ fun g2 => g2s g g2
  · refine Unt.ite (Unt.ite (Unt.ret _) (oneU _ _ _ ka)) (Unt.ite ?_ (Unt.ite (Unt.ret _) (Unt.ite (oneU _ _ _ ka) (Unt.ite (Unt.ite (Unt.ret _) (oneU _ _ _ ka)) (Unt.ite (Unt.ret _) (oneU _ _ _ ka))))))
    refine Unt.get_ (g := fun g2 w => if g = 0 ∨ g2 = 0 then ((⟨2, 0⟩ : Answer), w) else
      if g - 1 < o.x then (⟨3, 0⟩, w) else
      if o.a = o.b then (⟨0, g - 1⟩, w) else
      if 1048575 < g2 - 1 + o.x then (⟨4, 0⟩, w) else
      (⟨0, g - 1 - o.x⟩, (Wk.set w o.b (g2 - 1 + o.x + 1)).set o.a (g - 1 - o.x + 1))) ⟨b0, by omega⟩ (fun g2 => g2s g g2) fun kb g2 => ?_
    refine Unt.ite (Unt.ret _) (Unt.ite (Unt.ret _) (Unt.ite (Unt.ret _) (Unt.ite (Unt.ret _) ?_)))
    exact Unt.set_ (g := fun w => ((⟨0, g - 1 - o.x⟩ : Answer), Wk.set w o.a (g - 1 - o.x + 1))) kb (one _ _ _) (oneU _ _ _ ka)
end
structure Vw.Fl (F : Vw) : Prop where
  ln : F.n.length = 16
  all : ∀ i : Nat, i < 16 → F.k.getD i false = true
def Op.run (o : Op) (w : Wk) : Answer × Wk := if o.kind ≤ 5 then w.bank o else w.skip o
theorem Op.run_smm {o : Op} (m : o.may = true) : Smm o.run := by
  have : o.run = fun w => if o.kind ≤ 5 then w.bank o else w.skip o := rfl
  rw [this]
  by_cases h : o.kind ≤ 5
  · simp only [if_pos h]; exact Smm.bank (Op.may_bk m h)
  · simp only [if_neg h]; exact Smm.skip (Op.may_sk m)
theorem Op.run_unt {o : Op} (m : o.may = true) {k : List Bool} : Unt k o.run := by
  have : o.run = fun w => if o.kind ≤ 5 then w.bank o else w.skip o := rfl
  rw [this]
  by_cases h : o.kind ≤ 5
  · simp only [if_pos h]; exact Unt.bank (Op.may_bk m h)
  · simp only [if_neg h]; exact Unt.skip (Op.may_sk m)
theorem Vw.one_run {v : Vw} {o : Op} : v.one o = match (o.run ⟨v, none⟩).2.need with
  | some c => ⟨some c, v, []⟩
  | none => ⟨none, if (o.run ⟨v, none⟩).1.code = 0 then (o.run ⟨v, none⟩).2.v else v, [(o.run ⟨v, none⟩).1]⟩ := rfl
theorem Vw.one_full {F : Vw} {o : Op} (m : o.may = true) (f : F.Fl) : (F.one o).need = none ∧ (F.one o).view.Fl := by
  have h := (Op.run_smm m).full ⟨F, none⟩ ⟨f.ln, rfl, f.all⟩
  rw [Vw.one_run, h.need]
  refine ⟨rfl, ?_⟩
  simp only
  split
  · exact ⟨h.ln, h.all⟩
  · exact f
theorem Vw.one_unk {v : Vw} {o : Op} (m : o.may = true) {c : Int} (h : (v.one o).need = some c) : v.k.getD c.toNat false = false := by
  rw [Vw.one_run] at h
  cases e : (o.run ⟨v, none⟩).2.need with
  | none => rw [e] at h; cases h
  | some d => rw [e] at h; cases h; exact (Op.run_smm m).unk ⟨v, none⟩ c rfl e
theorem Vw.one_sim {v F : Vw} {o : Op} (m : o.may = true) (f : F.Fl) (kn : v.Kn F) (h : (v.one o).need = none) : (v.one o).ans = (F.one o).ans ∧ (v.one o).view.Kn (F.one o).view ∧ (v.one o).view.k = v.k ∧ (v.one o).view.w = v.w ∧
    ∀ i : Nat, v.k.getD i false = false → (F.one o).view.n.getD i 0 = F.n.getD i 0 := by
  have hf := (Op.run_smm m).full ⟨F, none⟩ ⟨f.ln, rfl, f.all⟩
  have hn : (o.run ⟨v, none⟩).2.need = none := by
    rw [Vw.one_run] at h
    cases e : (o.run ⟨v, none⟩).2.need with
    | none => rfl
    | some d => rw [e] at h; cases h
  have s := (Op.run_smm m).sim ⟨v, none⟩ ⟨F, none⟩ rfl ⟨f.ln, rfl, f.all⟩ kn hn
  have u := Op.run_unt m (k := v.k) ⟨v, none⟩ ⟨F, none⟩ rfl rfl ⟨f.ln, rfl, f.all⟩ kn hn
  have kp := (Op.run_smm m).keep ⟨v, none⟩
  rw [Vw.one_run, Vw.one_run, hn, hf.need]
  simp only
  rw [s.1]
  by_cases c : (o.run ⟨F, none⟩).1.code = 0
  · rw [if_pos c, if_pos c]; exact ⟨rfl, s.2, kp.1, kp.2, u⟩
  · rw [if_neg c, if_neg c]; exact ⟨rfl, kn, rfl, rfl, fun _ _ => rfl⟩
theorem Vw.doFrom_sim {v F : Vw} (kn0 : v.Kn F) : ∀ {os : List Op} {w W : Vw} {rs : List Answer}, (∀ o ∈ os, o.may = true) → W.Fl → w.Kn W → w.k = v.k → w.w = v.w → (∀ i : Nat, v.k.getD i false = false → W.n.getD i 0 = F.n.getD i 0) →
    (∀ c, (v.doFrom os w rs).need = some c → v.k.getD c.toNat false = false) ∧ ((v.doFrom os w rs).need = none → (F.doFrom os W rs).need = none ∧ (v.doFrom os w rs).ans = (F.doFrom os W rs).ans ∧ (v.doFrom os w rs).view.Kn (F.doFrom os W rs).view ∧
      (v.doFrom os w rs).view.k = v.k ∧ (v.doFrom os w rs).view.w = v.w ∧ ∀ i : Nat, v.k.getD i false = false → (F.doFrom os W rs).view.n.getD i 0 = F.n.getD i 0) := by
  intro os
  induction os with
  | nil => intro w W rs _ f kn hk hw hu; exact ⟨(fun c h => by cases h), fun _ => ⟨rfl, rfl, kn, hk, hw, hu⟩⟩
  | cons o os ih =>
    intro w W rs hm f kn hk hw hu
    have m := hm o (by simp)
    have ff := Vw.one_full m f
    unfold Vw.doFrom
    cases e : (w.one o).need with
    | some d =>
      refine ⟨fun c h => ?_, fun h => by cases h⟩
      cases h
      have := Vw.one_unk m e
      rw [hk] at this; exact this
    | none =>
      have s := Vw.one_sim m f kn e
      rw [ff.1]
      simp only
      rw [s.1]
      split
      · exact ih (fun o ho => hm o (List.mem_cons_of_mem _ ho)) ff.2 s.2.1 (by rw [s.2.2.1, hk]) (by rw [s.2.2.2.1, hw]) fun i hi => by
          rw [s.2.2.2.2 i (by rw [hk]; exact hi), hu i hi]
      · exact ⟨(fun c h => by cases h), fun _ => ⟨rfl, rfl, kn0, rfl, rfl, fun _ _ => rfl⟩⟩
theorem Txn.may_mem {ops : List Op} (m : Txn.may ops = true) : ∀ o ∈ ops, o.may = true := by
  unfold Txn.may at m
  simp only [Bool.and_eq_true, List.all_eq_true] at m
  exact m.1
theorem Vw.do_sim {v F : Vw} {ops : List Op} (m : Txn.may ops = true) (f : F.Fl) (kn : v.Kn F) :
    (∀ c, (v.do_ ops).need = some c → v.k.getD c.toNat false = false) ∧ ((v.do_ ops).need = none → (F.do_ ops).need = none ∧ (v.do_ ops).ans = (F.do_ ops).ans ∧ (v.do_ ops).view.Kn (F.do_ ops).view ∧
      (v.do_ ops).view.k = v.k ∧ (v.do_ ops).view.w = v.w ∧ ∀ i : Nat, v.k.getD i false = false → (F.do_ ops).view.n.getD i 0 = F.n.getD i 0) :=
  Vw.doFrom_sim kn (Txn.may_mem m) f kn rfl rfl fun _ _ => rfl
theorem Vw.rowsFrom_mem {v : Vw} {d : Sw} : ∀ {n i : Nat}, d ∈ v.rowsFrom i n ↔ ∃ j : Nat, i ≤ j ∧ j < i + n ∧ v.k.getD j false = true ∧ d = ⟨j, v.w.getD j 0, v.n.getD j 0⟩ := by
  intro n
  induction n with
  | zero =>
    intro i
    refine ⟨(fun h => by cases h), fun ⟨j, h1, h2, _⟩ => by omega⟩
  | succ n ih =>
    intro i
    unfold Vw.rowsFrom
    rw [List.mem_append, ih]
    constructor
    · rintro (h | ⟨j, h1, h2, h3⟩)
      · split at h
        · rename_i c
          rw [List.mem_singleton] at h
          exact ⟨i, by omega, by omega, c, h⟩
        · cases h
      · exact ⟨j, by omega, by omega, h3⟩
    · rintro ⟨j, h1, h2, h3, h4⟩
      by_cases e : j = i
      · subst e; left; rw [if_pos h3, List.mem_singleton]; exact h4
      · right; exact ⟨j, by omega, by omega, h3, h4⟩
def unkn (k : List Bool) : Nat := (k.filter fun b => !b).length
theorem unkn_set : ∀ {k : List Bool} {i : Nat}, i < k.length → k.getD i false = false → unkn (k.set i true) + 1 = unkn k := by
  intro k
  induction k with
  | nil => intro i h; simp at h
  | cons b k ih =>
    intro i h e
    cases i with
    | zero =>
      simp at e; subst e
      simp [unkn]
    | succ i =>
      simp only [List.length_cons] at h
      have := ih (i := i) (by omega) (by simpa using e)
      unfold unkn at this ⊢
      simp only [List.set_cons_succ, List.filter_cons]
      split <;> first | omega | (simp only [List.length_cons]; omega)
section
variable {A : Ar} {F : Vw}
structure Vw.Mem (F : Vw) (A : Ar) : Prop where
  fl : F.Fl
  val : ∀ i : Nat, i < 16 → Vw.val (F.n.getD i 0)
  at_ : ∀ i : Nat, i < 16 → A.at i = F.n.getD i 0 * 4
theorem Vw.Mem.ld (m : F.Mem A) (ok : A.ok) {i : Int} (h0 : 0 ≤ i) (h1 : i < 634) : F.Mem (A.ld i) :=
  ⟨m.fl, m.val, fun j hj => by rw [at_ld ok h0 h1 (by omega) (by omega)]; exact m.at_ j hj⟩
structure Vw.Rd (v F : Vw) : Prop where
  ok : v.ok
  kn : v.Kn F
  was : ∀ i : Nat, v.k.getD i false = true → v.w.getD i 0 = F.n.getD i 0
theorem Vw.Rd.know {v : Vw} (r : v.Rd F) {c : Nat} (hc : c < 16) (f : F.Fl) (hv : Vw.val (F.n.getD c 0)) : (v.know c (F.n.getD c 0)).Rd F := by
  have lk := r.ok.lk; have lw := r.ok.lw; have ln := r.ok.ln
  refine ⟨Vw.know_ok r.ok hv, ⟨by simp [Vw.know, ln], fun i hi => ?_⟩, fun i hi => ?_⟩
  · unfold Vw.know at hi ⊢
    simp only [List.getD_eq_getElem?_getD, List.getElem?_set, Int.toNat_natCast] at hi ⊢
    split at hi
    · rename_i e; rw [if_pos e, if_pos (by omega), ← e]; rfl
    · rename_i e; rw [if_neg e]
      have := r.kn.same i (by rw [List.getD_eq_getElem?_getD]; exact hi)
      simpa [List.getD_eq_getElem?_getD] using this
  · unfold Vw.know at hi ⊢
    simp only [List.getD_eq_getElem?_getD, List.getElem?_set, Int.toNat_natCast] at hi ⊢
    split at hi
    · rename_i e; rw [if_pos e, if_pos (by omega), ← e]; rfl
    · rename_i e; rw [if_neg e]
      have := r.was i (by rw [List.getD_eq_getElem?_getD]; exact hi)
      simpa [List.getD_eq_getElem?_getD] using this
theorem Vw.Rd.zero (h : F.Fl) : vwZ.Rd F := by
  have : ∀ i : Nat, vwZ.k.getD i false = false := fun i => by
    rw [List.getD_eq_getElem?_getD]
    cases e : vwZ.k[i]? with
    | none => rfl
    | some x => exact List.eq_of_mem_replicate (List.mem_of_getElem? e)
  exact ⟨vwZ_ok, ⟨rfl, fun i hi => by rw [this i] at hi; cases hi⟩, fun i hi => by rw [this i] at hi; cases hi⟩
theorem reads_all {ops : List Op} (mo : Txn.may ops = true) : ∀ (u : Nat) {x : At} {v : Vw} {c : Int} {A : Ar}, unkn v.k = u → A.ok → F.Mem A → v.Rd F → (v.do_ ops).need = some c → x.over = false → x.ops = ops → x.st = .rd (.new x.t x.q c) v →
    ∃ n y, ∃ v' : Vw, ∃ A', Ago x A n y A' ∧ 1 ≤ n ∧ n ≤ u ∧ A'.ok ∧ F.Mem A' ∧ (∀ j, 0 ≤ j → j < 634 → A'.at j = A.at j) ∧ v'.Rd F ∧ (v'.do_ ops).need = none ∧ y.over = false ∧ y.st = .wr (newWr x.slot x.gen (v'.do_ ops).view.rows) ∧ y.ans = (v'.do_ ops).ans ∧
      y.t = x.t ∧ y.q = x.q ∧ y.slot = x.slot ∧ y.gen = x.gen ∧ y.won = x.won ∧ y.ops = ops := by
  intro u
  induction u with
  | zero =>
    intro x v c A hu hA hm hv hn ho hops hs
    have uk := (Vw.do_sim mo hm.fl hv.kn).1 c hn
    have cr := ((Vw.do_ok hv.ok mo).2 c hn).1
    have := unkn_set (k := v.k) (i := c.toNat) (by have := hv.ok.lk; omega) uk
    omega
  | succ u ih =>
    intro x v c A hu hA hm hv hn ho hops hs
    have uk := (Vw.do_sim mo hm.fl hv.kn).1 c hn
    obtain ⟨c0, c1⟩ := ((Vw.do_ok hv.ok mo).2 c hn).1
    have us := unkn_set (k := v.k) (i := c.toNat) (by have := hv.ok.lk; omega) uk
    obtain ⟨k, rfl⟩ := Int.eq_ofNat_of_zero_le c0
    have hk : k < 16 := by omega
    have val := hm.val k hk
    have st := At.step_rd (A := A) (v := v) (t := x.t) (q := x.q) (c := k) (y := F.n.getD k 0) ho hs (by rw [hm.at_ k hk]; exact plainOf_val val.1 val.2)
    have hv2 := hv.know hk hm.fl val
    have hA2 := hA.ld (k : Int)
    have hm2 := hm.ld hA (i := (k : Int)) (by omega) (by omega)
    have at2 : ∀ j, 0 ≤ j → j < 634 → (A.ld k).at j = A.at j := fun j j0 j1 => at_ld hA (by omega) (by omega) j0 j1
    have hu2 : unkn (v.know k (F.n.getD k 0)).k = u := by
      show unkn (v.k.set (k : Int).toNat true) = u
      omega
    unfold At.known at st
    rw [show ({ x with q := x.q, ts := -1, tg := 0, st := .rd ⟨x.t, x.q, (k : Int), F.n.getD k 0, none, -1, 0, true⟩ v } : At).ops = ops from hops] at st
    cases hn2 : ((v.know k (F.n.getD k 0)).do_ ops).need with
    | none =>
      unfold At.asked at st
      rw [hn2] at st
      exact ⟨1, _, v.know k (F.n.getD k 0), A.ld k, Ago.one ho st ⟨rfl, rfl, .inl rfl⟩, by omega, by omega, hA2, hm2, at2, hv2, hn2, ho, rfl, rfl, rfl, rfl, rfl, rfl, rfl, rfl⟩
    | some d =>
      have dv := ((Vw.do_ok hv2.ok mo).2 d hn2).2.1
      unfold At.asked at st
      rw [hn2] at st
      simp only at st
      rw [dv] at st
      obtain ⟨n, y, v', A', g, n1, n2, r⟩ := ih (x := { x with q := x.q, ops := ops, ts := -1, tg := 0, st := .rd (.new x.t x.q d) (v.know k (F.n.getD k 0)) }) hu2 hA2 hm2 hv2 hn2 ho rfl rfl
      refine ⟨1 + n, y, v', A', (Ago.one ho st ⟨rfl, rfl, .inl rfl⟩).trans g, by omega, by omega, r.1, r.2.1, fun j j0 j1 => by rw [r.2.2.1 j j0 j1, at2 j j0 j1], r.2.2.2⟩
theorem Vw.rows_get {v : Vw} {i : Nat} {d : Sw} (h : v.rows[i]? = some d) : ∃ j : Nat, j < 16 ∧ v.k.getD j false = true ∧ d = ⟨j, v.w.getD j 0, v.n.getD j 0⟩ := by
  obtain ⟨j, _, h2, h3⟩ := Vw.rowsFrom_mem.1 (List.mem_of_getElem? h)
  exact ⟨j, by omega, h3⟩
theorem attempt_alone {ops : List Op} {t q slot gen : Int} (m : At.may t q slot gen ops) (hA : A.ok) (hm : F.Mem A) :
    ∃ n x' A', Ago (At.new t q slot gen ops) A n x' A' ∧ 1 ≤ n ∧ n ≤ 199 ∧ x'.over = true ∧ x'.won = true ∧ x'.ans = (F.do_ ops).ans ∧ x'.ok ∧ A'.ok ∧ (∀ i : Nat, i < 16 → A'.at i = (F.do_ ops).view.n.getD i 0 * 4) ∧
      (∀ j, 16 ≤ j → j < 634 → (j < baseOf slot ∨ baseOf slot + 50 ≤ j) → A'.at j = A.at j) ∧ x'.ts = slot ∧ x'.tg = gen := by
  obtain ⟨⟨t0, t1⟩, ⟨q0, q1⟩, ml, mo⟩ := m
  have mm : At.may t q slot gen ops := ⟨⟨t0, t1⟩, ⟨q0, q1⟩, ml, mo⟩
  have hl := ml
  unfold lifeMay at hl
  simp only [decide_eq_true_eq] at hl
  obtain ⟨c, c0, c1, e⟩ := vwZ_do mo
  have hs : (At.new t q slot gen ops).st = .rd (.new t q c) vwZ := by
    show AtSt.rd (.new t q (needN (vwZ.do_ ops).need)) vwZ = _
    rw [e]; rfl
  obtain ⟨n, y, v, B, g, n1, n2, okB, mB, atB, rd, hn, yo, ys, ya, yt, yq, ysl, yg, yw, yops⟩ := reads_all (F := F) mo (unkn vwZ.k) (x := .new t q slot gen ops) rfl hA hm (Vw.Rd.zero hm.fl) (by rw [e]) rfl rfl hs
  have hu : unkn vwZ.k = 16 := by decide
  have sim := (Vw.do_sim mo hm.fl rd.kn).2 hn
  obtain ⟨s1, s2, s3, s4, s5, s6⟩ := sim
  have vok := (Vw.do_ok rd.ok mo).1
  generalize hmv : v.do_ ops = M at *
  have ms := Vw.rows_may vok
  have rlen := sw_len ms
  have dl := descRow_len gen M.view.rows
  have rr := descRow_range hl.2.2.1 hl.2.2.2 ms
  have hb : baseOf slot = 34 + slot * 50 := rfl
  obtain ⟨u, g2, us, uS⟩ := Ago.wrAll (x := y) (a := baseOf slot) (l := descRow gen M.view.rows) (A := B) yo ys (fun e => by rw [e] at dl; simp at dl; omega)
  have okC := putRow_ok (a := baseOf slot) okB rr
  have atC := at_putRow (a := baseOf slot) okB rr (by omega) (by rw [dl]; omega)
  rw [dl] at g2 atC
  generalize putRow (baseOf slot) (descRow gen M.view.rows) B = C at g2 okC atC
  have on : On C (Wh.new slot gen) 0 M.view.rows := ⟨okC, ⟨hl.1, hl.2.1, hl.2.2.1, hl.2.2.2⟩, ms, Dsc.of_row fun j j0 j1 => by
    have j2 : j < ((2 + 3 * M.view.rows.length : Nat) : Int) := by rw [← dl]; exact j1
    show C.at (baseOf slot + j) = _
    rw [atC _ (by omega) (by omega), if_pos (by omega)]; congr 1; omega⟩
  rw [yt, yq, ysl, yg] at us
  have okH : (Help.new t q (.who (.new slot gen))).ok := ⟨t0, t1, q0, q1, by constructor <;> simp [Help.new], zero64, fun _ => ⟨Wh.new_ok ⟨hl.1, hl.2.1, hl.2.2.1, hl.2.2.2⟩, (fun _ h => by cases h), by simp [Help.new]⟩⟩
  have cellC : ∀ i : Nat, i < 16 → C.at i = F.n.getD i 0 * 4 := fun i hi => by
    rw [atC _ (by omega) (by omega), if_neg (by omega)]; exact mB.at_ i hi
  obtain ⟨f, D, g3, on3, c3, r3⟩ := alone_wins (s := slot) (g := gen) (H := .new t q (.who (.new slot gen))) on rfl rfl rfl rfl rfl okH fun i d hd => by
    obtain ⟨j, hj, kj, rfl⟩ := Vw.rows_get hd
    show C.at (j : Int) = M.view.w.getD j 0 * 4
    rw [cellC j hj, s5, rd.was j (by rw [← s4]; exact kj)]
  have g4 := Ago.help g3 (by omega) uS.over us rfl (by show slot = u.slot; rw [uS.slot, ysl]; rfl) (by show gen = u.gen; rw [uS.gen, yg]; rfl)
  have all := (g.trans g2).trans g4
  have fin := all.ok (At.new_ok mm) hA
  refine ⟨_, _, D, all, by omega, by omega, rfl, rfl, ?_, fin.1, fin.2, fun i hi => ?_, fun j j0 j1 jb => ?_, rfl, rfl⟩
  · show u.ans = _
    rw [uS.ans, ya, s2]
  · by_cases k : v.k.getD i false = true
    · have hd : (⟨(i : Int), M.view.w.getD i 0, M.view.n.getD i 0⟩ : Sw) ∈ M.view.rows := Vw.rowsFrom_mem.2 ⟨i, by omega, by omega, by rw [s4]; exact k, rfl⟩
      obtain ⟨p, hp, ep⟩ := List.mem_iff_getElem.1 hd
      have := c3 p _ (by rw [List.getElem?_eq_getElem hp, ep])
      simp only at this
      rw [this, s3.same i (by rw [s4]; exact k)]
    · have k : v.k.getD i false = false := by simpa using k
      rw [r3 _ (by omega) (by omega) (by omega) (fun p d hd => by
        obtain ⟨j, hj, kj, rfl⟩ := Vw.rows_get hd
        rw [s4] at kj
        intro e
        have : j = i := by simp only at e; omega
        rw [this, k] at kj; cases kj), cellC i hi, s6 i k]
  · rw [r3 j (by omega) j1 (by omega) (fun p d hd => by
      obtain ⟨i, hi, _, rfl⟩ := Vw.rows_get hd
      simp only; omega), atC _ (by omega) j1, if_neg (by omega), atB j (by omega) j1]
end
def Kp (A B : Ar) : Prop := ∀ i, 16 ≤ i → i < 29 → B.at i = A.at i
def Chn (A : Ar) : Int → List Int → Prop
  | f, [] => f = 0
  | f, s :: r => f = s + 1 ∧ (0 ≤ s ∧ s < 12) ∧ ∃ w, A.at (17 + s) = w * 4 ∧ Chn A w r
theorem Chn.rng {A : Ar} {f : Int} {fr : List Int} (h : Chn A f fr) : 0 ≤ f ∧ f ≤ 12 := by
  cases fr with
  | nil => have : f = 0 := h; omega
  | cons s r => obtain ⟨h1, h2, _⟩ := h; omega
theorem Chn.cong {A B : Ar} : ∀ {fr : List Int} {f : Int}, (∀ s ∈ fr, B.at (17 + s) = A.at (17 + s)) → Chn A f fr → Chn B f fr := by
  intro fr
  induction fr with
  | nil => intro f _ h; exact h
  | cons s r ih =>
    intro f e h
    obtain ⟨h1, h2, w, h3, h4⟩ := h
    exact ⟨h1, h2, w, by rw [e s (by simp)]; exact h3, ih (fun s hs => e s (List.mem_cons_of_mem _ hs)) h4⟩
theorem Chn.mem {A : Ar} : ∀ {fr : List Int} {f : Int}, Chn A f fr → ∀ s ∈ fr, 0 ≤ s ∧ s < 12 := by
  intro fr
  induction fr with
  | nil => intro f _ s hs; cases hs
  | cons a r ih =>
    intro f h s hs
    obtain ⟨h1, h2, w, h3, h4⟩ := h
    rcases List.mem_cons.1 hs with rfl | hs
    · exact h2
    · exact ih h4 s hs
structure Fre (A : Ar) (fr : List Int) (c : Int) : Prop where
  hd : ∃ f, A.at 16 = (c * 16 + f) * 4 ∧ Chn A f fr
  nx : ∀ s, 0 ≤ s → s < 12 → ∃ w, A.at (17 + s) = w * 4 ∧ 0 ≤ w ∧ w ≤ 12
  c0 : 0 ≤ c
theorem Fre.kp {A B : Ar} {fr : List Int} {c : Int} (F : Fre A fr c) (k : Kp A B) : Fre B fr c := by
  obtain ⟨f, h1, h2⟩ := F.hd
  refine ⟨⟨f, by rw [k 16 (by decide) (by decide)]; exact h1, h2.cong fun s hs => ?_⟩, fun s h0 h1 => ?_, F.c0⟩
  · have := h2.mem s hs
    exact k _ (by omega) (by omega)
  · rw [k _ (by omega) (by omega)]; exact F.nx s h0 h1
theorem head_word {x c f : Int} (h : x = (c * 16 + f) * 4) (c0 : 0 ≤ c) (c1 : c < 100000) (f0 : 0 ≤ f) (f1 : f ≤ 12) : hdIs x = true ∧ valOf x / 16 = c ∧ valOf x % 16 = f := by
  have v : valOf x = c * 16 + f := by rw [h]; exact valOf_val (by omega) (by omega)
  have p : plainOf x = some (c * 16 + f) := by rw [h]; exact plainOf_val (by omega) (by omega)
  refine ⟨?_, by rw [v]; omega, by rw [v]; omega⟩
  unfold hdIs
  rw [p, v, decide_eq_true (by omega), decide_eq_true (by omega)]
  rfl
theorem next_word {x w : Int} (h : x = w * 4) (w0 : 0 ≤ w) (w1 : w ≤ 12) : nxIs x = true ∧ valOf x = w := by
  have v : valOf x = w := by rw [h]; exact valOf_val (by omega) (by omega)
  refine ⟨?_, v⟩
  unfold nxIs
  rw [v, h, plainOf_val (by omega) (by omega), decide_eq_true (by omega)]
  rfl
structure Lst.own (l : Lst) : Prop where
  ov : l.over = false
  ld : l.at_ ≠ 0 → l.word = (l.count * 16 + l.first) * 4 ∧ l.first ≤ 12
structure Pop.own (p : Pop) (A : Ar) (c : Int) : Prop where
  l : p.l.own
  old : p.l.at_ ≠ 0 → p.l.count ≤ c ∧ (p.l.count = c → A.at 16 = p.l.word)
  st : p.l.at_ = 2 → p.l.count = c → A.at (17 + p.l.first - 1) = p.next * 4
  sl : p.slot = -1
theorem Pop.new_own {A : Ar} {c : Int} : Pop.new.own A c := ⟨⟨rfl, fun h => absurd rfl h⟩, fun h => absurd rfl h, fun h => by simp [Pop.new] at h, rfl⟩
theorem Kp.ld {A : Ar} {i : Int} (hA : A.ok) (h0 : 0 ≤ i) (h1 : i < 634) : Kp A (A.ld i) := fun j j0 j1 => at_ld hA h0 h1 (by omega) (by omega)
theorem Kp.fail {A : Ar} {o x : Int} (hA : A.ok) (h : A.at 16 ≠ o) : Kp A (A.cas 16 o x) := fun j j0 j1 => by
  rw [at_cas hA (by decide) (by decide) (by omega) (by omega), if_neg h]
  split
  · rename_i e; rw [← e]
  · rfl
theorem Pop.step_own {p : Pop} {A : Ar} {fr : List Int} {c : Int} (o : p.ok) (w : p.own A c) (hA : A.ok) (F : Fre A fr c) (hc : c < 90000) :
    (p.step A).2.1 = 0 ∧ (((p.step A).1.l.over = false ∧ Kp A (p.step A).2.2 ∧ (p.step A).1.own (p.step A).2.2 c) ∨
      ((p.step A).1.l.over = true ∧ (p.step A).1.slot = -1 ∧ Kp A (p.step A).2.2) ∨
      ((p.step A).1.l.over = true ∧ ∃ s fr', fr = s :: fr' ∧ (p.step A).1.slot = s ∧ (0 ≤ s ∧ s < 12) ∧ Fre (p.step A).2.2 fr' (c + 1) ∧ ∀ i, 17 ≤ i → i < 29 → (p.step A).2.2.at i = A.at i)) := by
  obtain ⟨f, f1, f2⟩ := F.hd
  have fr0 := f2.rng
  have c0 := F.c0
  obtain ⟨d1, d2, d3⟩ := head_word f1 c0 (by omega) fr0.1 fr0.2
  have ol := o.l
  have a0 := ol.a0; have a1 := ol.a1
  unfold Pop.step
  rw [if_neg (by rw [w.l.ov]; decide)]
  by_cases h0 : p.l.at_ = 0
  · rw [if_pos h0, if_pos d1]
    refine ⟨rfl, ?_⟩
    have k := Kp.ld (i := 16) hA (by decide) (by decide)
    by_cases hf : f = 0
    · refine .inr (.inl ⟨?_, w.sl, k⟩)
      rw [d3]; exact decide_eq_true hf
    · refine .inl ⟨?_, k, ⟨⟨?_, fun _ => ⟨?_, ?_⟩⟩, fun _ => ⟨?_, fun _ => ?_⟩, fun h => ?_, w.sl⟩⟩
      · rw [d3]; exact decide_eq_false hf
      · rw [d3]; exact decide_eq_false hf
      · show A.at 16 = (valOf (A.at 16) / 16 * 16 + valOf (A.at 16) % 16) * 4
        rw [d2, d3]; exact f1
      · show valOf (A.at 16) % 16 ≤ 12
        rw [d3]; exact fr0.2
      · show valOf (A.at 16) / 16 ≤ c
        rw [d2]; exact Int.le_refl c
      · exact k 16 (by decide) (by decide)
      · simp [Lst.loaded] at h
  · rw [if_neg h0]
    have pf := o.f w.l.ov h0
    have l1 := w.l.ld h0
    have od := w.old h0
    by_cases h1 : p.l.at_ = 1
    · rw [if_pos h1]
      obtain ⟨v, v1, v2, v3⟩ := F.nx (p.l.first - 1) (by omega) (by omega)
      have v1 : A.at (17 + p.l.first - 1) = v * 4 := by rw [show 17 + p.l.first - 1 = 17 + (p.l.first - 1) by omega]; exact v1
      obtain ⟨n1, n2⟩ := next_word v1 v2 v3
      rw [if_pos n1]
      have k := Kp.ld (i := 17 + p.l.first - 1) hA (by omega) (by omega)
      refine ⟨rfl, .inl ⟨w.l.ov, k, ⟨⟨w.l.ov, fun _ => l1⟩, fun _ => ⟨od.1, fun q => ?_⟩, fun _ q => ?_, w.sl⟩⟩⟩
      · rw [k 16 (by decide) (by decide)]; exact od.2 q
      · show (A.ld (17 + p.l.first - 1)).at (17 + p.l.first - 1) = valOf (A.at (17 + p.l.first - 1)) * 4
        rw [k _ (by omega) (by omega), n2]; exact v1
    · rw [if_neg h1]
      have h2 : p.l.at_ = 2 := by omega
      by_cases hw : A.at 16 = p.l.word
      · rw [if_pos hw]
        refine ⟨rfl, .inr (.inr ⟨rfl, ?_⟩)⟩
        have cc : p.l.count = c := by omega
        have ff : p.l.first = f := by omega
        have st := w.st h2 cc
        cases fr with
        | nil => have : f = 0 := f2; omega
        | cons s r =>
          obtain ⟨e1, e2, v, e3, e4⟩ := f2
          have hv : p.next = v := by rw [show 17 + p.l.first - 1 = 17 + s by omega, e3] at st; omega
          have vr := e4.rng
          have at16 : ∀ i, 0 ≤ i → i < 634 → (A.cas 16 p.l.word (p.l.turned p.next)).at i = if 16 = i then ((c + 1) * 16 + v) * 4 else A.at i := fun i i0 i1 => by
            rw [at_cas hA (by decide) (by decide) i0 i1, if_pos hw, hv]
            unfold Lst.turned
            rw [cc, Int.emod_eq_of_lt (by omega) (by omega)]
          have oth : ∀ i, 17 ≤ i → i < 29 → (A.cas 16 p.l.word (p.l.turned p.next)).at i = A.at i := fun i i0 i1 => by rw [at16 i (by omega) (by omega), if_neg (by omega)]
          refine ⟨s, r, rfl, (by show p.l.first - 1 = s; omega), e2, ⟨⟨v, by rw [at16 16 (by decide) (by decide)]; rfl, e4.cong fun t ht => ?_⟩, fun t t0 t1 => by rw [oth _ (by omega) (by omega)]; exact F.nx t t0 t1, by omega⟩, oth⟩
          have := e4.mem t ht
          exact oth _ (by omega) (by omega)
      · rw [if_neg hw]
        have k := Kp.fail (x := p.l.turned p.next) hA hw
        exact ⟨rfl, .inl ⟨w.l.ov, k, ⟨⟨w.l.ov, fun h => absurd rfl h⟩, (fun h => absurd rfl h), (fun h => by simp at h), w.sl⟩⟩⟩
def twelve : List Int := [0, 1, 2, 3, 4, 5, 6, 7, 8, 9, 10, 11]
theorem newAr_fre : Fre newAr twelve 0 := by
  refine ⟨⟨1, by decide, ?_⟩, fun s h0 h1 => ?_, Int.le_refl 0⟩
  · refine ⟨rfl, by decide, 2, by decide, rfl, by decide, 3, by decide, rfl, by decide, 4, by decide, rfl, by decide, 5, by decide, rfl, by decide, 6, by decide, rfl, by decide, 7, by decide, rfl, by decide, 8, by decide, rfl, by decide, 9, by decide, rfl, by decide, 10, by decide, rfl, by decide, 11, by decide, rfl, by decide, 12, by decide, rfl, by decide, 0, by decide, rfl⟩
  · have : s = 0 ∨ s = 1 ∨ s = 2 ∨ s = 3 ∨ s = 4 ∨ s = 5 ∨ s = 6 ∨ s = 7 ∨ s = 8 ∨ s = 9 ∨ s = 10 ∨ s = 11 := by omega
    rcases this with rfl | rfl | rfl | rfl | rfl | rfl | rfl | rfl | rfl | rfl | rfl | rfl
    · exact ⟨2, by decide, by decide, by decide⟩
    · exact ⟨3, by decide, by decide, by decide⟩
    · exact ⟨4, by decide, by decide, by decide⟩
    · exact ⟨5, by decide, by decide, by decide⟩
    · exact ⟨6, by decide, by decide, by decide⟩
    · exact ⟨7, by decide, by decide, by decide⟩
    · exact ⟨8, by decide, by decide, by decide⟩
    · exact ⟨9, by decide, by decide, by decide⟩
    · exact ⟨10, by decide, by decide, by decide⟩
    · exact ⟨11, by decide, by decide, by decide⟩
    · exact ⟨12, by decide, by decide, by decide⟩
    · exact ⟨0, by decide, by decide, by decide⟩
theorem Vw.do_full {F : Vw} {ops : List Op} (m : Txn.may ops = true) (f : F.Fl) : (F.do_ ops).need = none ∧ (F.do_ ops).view.Fl := by
  have key : ∀ (os : List Op) (W : Vw) (rs : List Answer), (∀ o ∈ os, o.may = true) → W.Fl → (F.doFrom os W rs).need = none ∧ (F.doFrom os W rs).view.Fl := by
    intro os
    induction os with
    | nil => intro W rs _ w; exact ⟨rfl, w⟩
    | cons o os ih =>
      intro W rs hm w
      have ff := Vw.one_full (hm o (by simp)) w
      unfold Vw.doFrom
      rw [ff.1]
      simp only
      split
      · exact ih _ _ (fun o ho => hm o (List.mem_cons_of_mem _ ho)) ff.2
      · exact ⟨rfl, f⟩
  exact key ops F [] (Txn.may_mem m) f
structure Qt (F : Vw) (A : Ar) (fr : List Int) (c e t w : Int) : Prop where
  ok : A.ok
  fok : F.ok
  mem : F.Mem A
  fre : Fre A fr c
  ep : A.at 29 = e * 4
  e0 : 0 ≤ e
  e1 : e < 1000000
  say : ∀ i, 30 ≤ i → i < 34 → A.at i = if i = 30 + t then w else 0
section
variable {F : Vw} {A B : Ar} {fr : List Int} {c e t w : Int}
theorem Qt.cong (Q : Qt F A fr c e t w) (hB : B.ok) (h : ∀ j, 0 ≤ j → j < 34 → B.at j = A.at j) : Qt F B fr c e t w :=
  ⟨hB, Q.fok, ⟨Q.mem.fl, Q.mem.val, fun i hi => by rw [h i (by omega) (by omega)]; exact Q.mem.at_ i hi⟩, Q.fre.kp fun i h0 h1 => h i (by omega) (by omega), by rw [h 29 (by decide) (by decide)]; exact Q.ep, Q.e0, Q.e1, fun i h0 h1 => by rw [h i (by omega) (by omega)]; exact Q.say i h0 h1⟩
theorem Qt.ld (Q : Qt F A fr c e t w) {i : Int} (h0 : 0 ≤ i) (h1 : i < 634) : Qt F (A.ld i) fr c e t w :=
  Q.cong (Q.ok.ld i) fun j j0 j1 => at_ld Q.ok h0 h1 (by omega) (by omega)
theorem Qt.told (Q : Qt F A fr c e t w) {u : Int} (t0 : 0 ≤ t) (t1 : t < 4) (hu : I64 u) : Qt F (A.put (30 + t) u) fr c e t u := by
  have at_ : ∀ j, 0 ≤ j → j < 634 → (A.put (30 + t) u).at j = if 30 + t = j then u else A.at j := fun j j0 j1 => at_put Q.ok (by omega) (by omega) j0 j1
  refine ⟨Q.ok.put _ hu, Q.fok, ⟨Q.mem.fl, Q.mem.val, fun i hi => ?_⟩, Q.fre.kp fun i h0 h1 => ?_, ?_, Q.e0, Q.e1, fun i h0 h1 => ?_⟩
  · rw [at_ i (by omega) (by omega), if_neg (by omega)]; exact Q.mem.at_ i hi
  · rw [at_ i (by omega) (by omega), if_neg (by omega)]
  · rw [at_ 29 (by decide) (by decide), if_neg (by omega)]; exact Q.ep
  · rw [at_ i (by omega) (by omega)]
    by_cases z : i = 30 + t
    · rw [if_pos z.symm, if_pos z]
    · rw [if_neg (fun q => z q.symm), if_neg z, Q.say i h0 h1, if_neg z]
theorem Qt.epoch (Q : Qt F A fr c e t w) : epIs (A.at 29) = true ∧ valOf (A.at 29) = e := by
  have e0 := Q.e0; have e1 := Q.e1
  have v : valOf (A.at 29) = e := by rw [Q.ep]; exact valOf_val (by omega) (by omega)
  refine ⟨?_, v⟩
  unfold epIs
  rw [v, Q.ep, plainOf_val (by omega) (by omega), decide_eq_true (by omega)]; rfl
theorem Ent.step_1 (Q : Qt F A fr c e t w) : (Ent.new t).step A = (⟨t, e, false, true, false⟩, 0, A.ld 29) := by
  unfold Ent.step Ent.new
  rw [if_neg (by simp), if_neg (by simp), if_pos Q.epoch.1, Q.epoch.2]
  rfl
theorem Ent.step_3 (Q : Qt F A fr c e t w) : (Ent.mk t e true true false).step A = (⟨t, e, false, true, true⟩, 0, A.ld 29) := by
  unfold Ent.step
  rw [if_neg (by simp), if_neg (by simp), if_pos Q.epoch.1, Q.epoch.2]
  simp
end
structure Stp (L : List Int) (y : Th) (M : List Int) : Prop where
  thr : y.ts = -1 ∨ 0 ≤ y.ts ∧ y.ts < 12 ∧ y.tg = M.getD y.ts.toNat 0
  liv : M = L ∨ ∃ s, 0 ≤ s ∧ s < 12 ∧ M = lived s L
  lim : y.limbo.length ≤ 3
  hold : y.cache.length + y.limbo.length + (y.ripe.length + if y.slot = -1 then 0 else 1) ≤ 4
  used : y.ripe.length ≤ 1
inductive TGo : Int → Th → Ar → List Int → Nat → Th → Ar → List Int → Prop
  | refl (p : Int) (x : Th) (A : Ar) (L : List Int) : TGo p x A L 0 x A L
  | step {p : Int} {x : Th} {A : Ar} {L : List Int} {n : Nat} {y : Th} {B : Ar} {M : List Int} {z : Th} {C : Ar} {N : List Int} : x.step A L p = (y, true, 0, B, M) → Stp L y M → TGo (p + 1) y B M n z C N → TGo p x A L (n + 1) z C N
section
variable {p : Int} {x y z : Th} {A B C : Ar} {L M N : List Int} {n m : Nat}
theorem TGo.one (h : x.step A L p = (y, true, 0, B, M)) (s : Stp L y M) : TGo p x A L 1 y B M := .step h s (.refl _ _ _ _)
theorem TGo.trans (a : TGo p x A L n y B M) : TGo (p + n) y B M m z C N → TGo p x A L (n + m) z C N := by
  induction a with
  | refl p x A L => intro b; rw [Nat.zero_add]; simpa using b
  | @step p x A L n y B M z' C' N' h s _ ih =>
    intro b
    rw [Nat.add_right_comm]
    exact .step h s (ih (by rw [show p + 1 + (n : Int) = p + ((n + 1 : Nat) : Int) by omega]; exact b))
theorem TGo.to (a : TGo p x A L n y B M) {q : Int} {k : Nat} (hq : q = p + n) (b : TGo q y B M m z C N) (hk : k = n + m) : TGo p x A L k z C N := by
  subst hq; subst hk; exact a.trans b
theorem TGo.first (a : TGo p x A L n y B M) (h0 : 1 ≤ n) {x' : Th} {L' : List Int} (h : x'.step A L' p = x.step A L p) (hs : ∀ y M, Stp L y M → L = M → Stp L' y M) (hl : ∀ y B M, x.step A L p = (y, true, 0, B, M) → L = M) : TGo p x' A L' n y B M := by
  cases a with
  | refl => omega
  | step h1 s r => exact .step (by rw [h]; exact h1) (hs _ _ s (hl _ _ _ h1)) r
theorem tri_run {a a' : At} (g : Ago a A n a' B) : ∀ {p : Int} {x : Th}, 1 ≤ n → a'.over = true → x.next = some .tri → x.dead = false → x.att = some a → 0 ≤ a.slot → a.slot < 12 → L.getD a.slot.toNat 0 = a.gen → x.limbo.length ≤ 3 →
    x.cache.length + x.limbo.length + (x.ripe.length + if x.slot = -1 then 0 else 1) ≤ 4 → x.ripe.length ≤ 1 → TGo p x A L n { x with att := some a', ts := a'.ts, tg := a'.tg, seq := a'.q, next := some .ret } B L := by
  induction g with
  | refl => intro p x h; omega
  | @step a A n a' B h1 h2 h3 h4 ih =>
    intro p x _ ho hx hd ha s0 s1 hL b1 b2 b3
    have st : ∀ nx, (if (a.step A).1.over then some Act.ret else x.next) = nx → x.step A L p = ({ x with att := some (a.step A).1, ts := (a.step A).1.ts, tg := (a.step A).1.tg, seq := (a.step A).1.q, next := nx }, true, 0, (a.step A).2.2, L) := by
      intro nx hn
      rw [Th.step_some hd hx]
      have : x.z.act A L p .tri = (({ x with att := some (a.step A).1, ts := (a.step A).1.ts, tg := (a.step A).1.tg, seq := (a.step A).1.q, next := nx }, (a.step A).2.1, (a.step A).2.2), L) := by
        show (x.z.tris A, L) = _
        unfold Th.tris
        have : x.z.att = some a := ha
        rw [this, ← hn]
        rfl
      rw [this, h2]
      rfl
    have sp : ∀ nx, Stp L { x with att := some (a.step A).1, ts := (a.step A).1.ts, tg := (a.step A).1.tg, seq := (a.step A).1.q, next := nx } L := fun nx => by
      refine ⟨?_, .inl rfl, b1, b2, b3⟩
      rcases h3.2.2 with q | ⟨q1, q2⟩
      · exact .inl q
      · exact .inr ⟨by show 0 ≤ (a.step A).1.ts; omega, by show (a.step A).1.ts < 12; omega, by show (a.step A).1.tg = L.getD (a.step A).1.ts.toNat 0; rw [q1, q2]; exact hL.symm⟩
    cases n with
    | zero =>
      cases h4
      exact .one (st _ (by rw [ho]; rfl)) (sp _)
    | succ n =>
      have hov : (a.step A).1.over = false := by cases h4 with | step q _ _ _ => exact q
      have s1' := st x.next (by rw [hov]; rfl)
      refine .step s1' (sp _) ?_
      have := ih (p := p + 1) (x := { x with att := some (a.step A).1, ts := (a.step A).1.ts, tg := (a.step A).1.tg, seq := (a.step A).1.q, next := x.next }) (by omega) ho hx hd rfl (by rw [h3.1]; exact s0) (by rw [h3.1]; exact s1) (by rw [h3.1, h3.2.1]; exact hL) b1 b2 b3
      exact this
end
theorem Acc.same {P : Int → Prop} {A B : Ar} (a : Acc P A B) (hA : A.ok) {j : Int} (h0 : 0 ≤ j) (h1 : j < 634) (h : ¬ P j) : B.at j = A.at j := by
  cases a with
  | none => rfl
  | ld i i0 i1 => exact at_ld hA i0 i1 h0 h1
  | put i x i0 i1 p hx => rw [at_put hA i0 i1 h0 h1, if_neg]; rintro rfl; exact h p
  | cas i o x i0 i1 p hx => rw [at_cas hA i0 i1 h0 h1, if_neg]; rintro rfl; exact h p
def Th.ev0 (x : Th) (p : Int) : Event := ⟨x.id, x.evs.length, p, -1, -1, 0, 0, []⟩
structure Rst (x : Th) : Prop where
  nd : x.dead = false
  nx : x.next = none
  tr : x.tries = 0
  pa : x.pause = 0
  ca : x.cache = []
  ri : x.ripe = []
  sl : x.slot = -1
  pu : x.push = none
  po : x.pop = none
inductive Lq : List Ret → Int → Prop
  | nil (e : Int) : Lq [] e
  | one (a e : Int) : Lq [⟨a, e - 1⟩] e
  | two (a b e : Int) : Lq [⟨a, e - 2⟩, ⟨b, e - 1⟩] e
  | three (a b c e : Int) : Lq [⟨a, e - 3⟩, ⟨b, e - 2⟩, ⟨c, e - 1⟩] e
theorem Lq.len {rs : List Ret} {e : Int} (h : Lq rs e) : rs.length ≤ 3 := by cases h <;> simp
theorem Lq.take {rs : List Ret} {e : Int} (h : Lq rs e) : (ripes rs e = [] ∧ rests rs e = rs ∧ rs.length ≤ 2 ∧ ∀ s, Lq (rs ++ [⟨s, e⟩]) (e + 1)) ∨
    (rs.length = 3 ∧ ∃ a r1 r2, rs = [⟨a, e - 3⟩, r1, r2] ∧ ripes rs e = [a] ∧ rests rs e = [r1, r2] ∧ ∀ s, Lq [r1, r2, ⟨s, e⟩] (e + 1)) := by
  have k3 : ∀ a, isRipe e ⟨a, e - 3⟩ = true := fun a => decide_eq_true (by simp only; omega)
  have k2 : ∀ a, isRipe e ⟨a, e - 2⟩ = false := fun a => decide_eq_false (by simp only; omega)
  have k1 : ∀ a, isRipe e ⟨a, e - 1⟩ = false := fun a => decide_eq_false (by simp only; omega)
  have f1 : e + 1 - 1 = e := by omega
  have f2 : e + 1 - 2 = e - 1 := by omega
  have f3 : e + 1 - 3 = e - 2 := by omega
  cases h with
  | nil => exact .inl ⟨rfl, rfl, by simp, fun s => by have := Lq.one s (e + 1); rw [f1] at this; exact this⟩
  | one a => exact .inl ⟨by simp [ripes, k1], by simp [rests, k1], by simp, fun s => by have := Lq.two a s (e + 1); rw [f1, f2] at this; exact this⟩
  | two a b => exact .inl ⟨by simp [ripes, k1, k2], by simp [rests, k1, k2], by simp, fun s => by have := Lq.three a b s (e + 1); rw [f1, f2, f3] at this; exact this⟩
  | three a b c => exact .inr ⟨rfl, a, _, _, rfl, by simp [ripes, k1, k2, k3], by simp [rests, k1, k2, k3], fun s => by have := Lq.three b c s (e + 1); rw [f1, f2, f3] at this; exact this⟩
def Th.q1 (x : Th) (e p : Int) : Th := { x with ts := -1, tg := 0, evs := x.evs ++ [x.ev0 p], ent := some ⟨x.id, e, false, true, false⟩, end_ := 2, next := some .ent }
def Th.q2 (x : Th) (e p : Int) : Th := { x with ts := -1, tg := 0, evs := x.evs ++ [x.ev0 p], ent := some ⟨x.id, e, true, true, false⟩, end_ := 2, next := some .ent }
def Th.q3 (x : Th) (e p : Int) : Th := { x with ts := -1, tg := 0, evs := x.evs ++ [x.ev0 p], ent := some ⟨x.id, e, false, true, true⟩, end_ := 2, ripe := ripes x.limbo e, limbo := rests x.limbo e, next := some .fre }
def Th.q4 (x : Th) (e p s : Int) (li : List Ret) (L : List Int) : Th := { x with ts := -1, tg := 0, evs := x.evs ++ [x.ev0 p], ent := some ⟨x.id, e, false, true, true⟩, end_ := 2, cache := [], ripe := [], push := none, pop := none, limbo := li, slot := s, att := some (.new x.id x.seq s (L.getD s.toNat 0 + 1) (x.txns.getD x.evs.length [])), next := some .tri }
section
variable {F : Vw} {A : Ar} {fr : List Int} {c e w p s : Int} {x : Th} {L : List Int}
theorem q_enter (r : Rst x) (hd : x.done = false) (lq : Lq x.limbo e) (Q : Qt F A fr c e x.id 0) (i0 : 0 ≤ x.id) (i1 : x.id < 4) : ∃ B, TGo p x A L 3 (x.q3 e p) B L ∧ Qt F B fr c e x.id ((e + 1) * 4) := by
  have e0 := Q.e0; have e1 := Q.e1
  have ll := lq.len
  have s1 : x.step A L p = (x.q1 e p, true, 0, A.ld 29, L) := by
    rw [Th.step_none r.nd r.nx]
    have hb : x.z.begin p = ({ x with ts := -1, tg := 0, evs := x.evs ++ [x.ev0 p], ent := some (.new x.id), end_ := 2, next := some .ent }, true) := by
      unfold Th.begin
      rw [if_neg (show ¬ x.z.done = true by rw [show x.z.done = x.done from rfl, hd]; decide), if_neg (show ¬ 0 < x.z.pause by rw [show x.z.pause = x.pause from rfl, r.pa]; decide), if_pos (show x.z.tries = 0 from r.tr)]
      rfl
    rw [hb]
    simp only [if_true]
    unfold Th.act Th.ents
    simp only
    rw [Ent.step_1 Q]
    rfl
  have Q1 := Q.ld (i := 29) (by decide) (by decide)
  have s2 : (x.q1 e p).step (A.ld 29) L (p + 1) = (x.q2 e p, true, 0, (A.ld 29).put (30 + x.id) ((e + 1) * 4), L) := by
    rw [Th.step_some (x := x.q1 e p) (a := .ent) r.nd rfl]
    rfl
  have Q2 := Q1.told (u := (e + 1) * 4) i0 i1 (by constructor <;> omega)
  have s3 : (x.q2 e p).step ((A.ld 29).put (30 + x.id) ((e + 1) * 4)) L (p + 1 + 1) = (x.q3 e p, true, 0, ((A.ld 29).put (30 + x.id) ((e + 1) * 4)).ld 29, L) := by
    rw [Th.step_some (x := x.q2 e p) (a := .ent) r.nd rfl]
    unfold Th.act Th.ents Th.q2
    simp only [Th.z]
    rw [Ent.step_3 Q2]
    rfl
  have Q3 := Q2.ld (i := 29) (by decide) (by decide)
  have b : ∀ li : List Ret, li.length ≤ 3 → ∀ ri : List Int, ri.length + li.length ≤ 3 → ri.length ≤ 1 → x.cache.length + li.length + (ri.length + if x.slot = -1 then 0 else 1) ≤ 4 := fun li h1 ri h2 h3 => by
    rw [r.ca, r.sl, if_pos rfl]; simp only [List.length_nil]; omega
  have hr0 : x.ripe.length = 0 := by rw [r.ri]; rfl
  have rl := ripes_rests x.limbo e
  have r1 : (ripes x.limbo e).length ≤ 1 := by
    rcases lq.take with ⟨q, _⟩ | ⟨_, a, _, _, _, q, _⟩ <;> rw [q] <;> simp
  refine ⟨_, .step s1 ⟨.inl rfl, .inl rfl, ll, b x.limbo ll x.ripe (by omega) (by omega), by show x.ripe.length ≤ 1; omega⟩ (.step s2 ⟨.inl rfl, .inl rfl, ll, b x.limbo ll x.ripe (by omega) (by omega), by show x.ripe.length ≤ 1; omega⟩ (.one s3 ⟨.inl rfl, .inl rfl, ?_, ?_, r1⟩)), Q3⟩
  · show (rests x.limbo e).length ≤ 3; omega
  · exact b (rests x.limbo e) (by omega) (ripes x.limbo e) (by omega) r1
theorem ops_snoc (x : Th) (e p : Int) : (x.q3 e p).ops = x.txns.getD x.evs.length [] := by
  unfold Th.ops Th.q3
  simp only [List.getLast?_append, List.getLast?_singleton, Option.some_or, Th.ev0]
  rfl
theorem with_may {y : Th} {s : Int} {L : List Int} {ops : List Op} (ho : y.ops = ops) (m : At.may y.id y.seq s (L.getD s.toNat 0 + 1) ops) : y.with_ s L = { y with slot := s, att := some (.new y.id y.seq s (L.getD s.toNat 0 + 1) ops), next := some .tri } := by
  subst ho
  unfold Th.with_
  rw [if_pos m]
theorem q_cached {r1 r2 : Ret} (r : Rst x) (h1 : ripes x.limbo e = [s]) (h2 : rests x.limbo e = [r1, r2]) (m : At.may x.id x.seq s (L.getD s.toNat 0 + 1) (x.txns.getD x.evs.length [])) :
    ∀ q, (x.q3 e p).step A L q = (x.q4 e p s [r1, r2] L).step A (lived s L) q := by
  intro q
  rw [Th.step_some (x := x.q3 e p) (a := .fre) r.nd rfl, Th.step_some (x := x.q4 e p s [r1, r2] L) (a := .tri) r.nd rfl]
  show Th.ended ((x.q3 e p).z.fres A L) = Th.ended ((x.q4 e p s [r1, r2] L).z.tris A, lived s L)
  congr 1
  have hc : (x.q3 e p).z.cached = { x.q3 e p with cache := [s], ripe := [] } := by
    unfold Th.cached Th.z Th.q3
    simp only [r.pu, r.ca, h1]
    rfl
  unfold Th.fres
  rw [hc]
  simp only
  rw [taks_1 (x := { x.q3 e p with cache := [s], ripe := [] }) (s := s) r.po rfl]
  have : (({ { x.q3 e p with cache := [s], ripe := [] } with cache := [s].dropLast } : Th).with_ s L) = (x.q4 e p s [r1, r2] L).z := by
    have ho : Th.ops { { x.q3 e p with cache := [s], ripe := [] } with cache := [s].dropLast } = x.txns.getD x.evs.length [] := ops_snoc x e p
    refine (with_may ho m).trans ?_
    unfold Th.z Th.q4 Th.q3
    simp only [r.pu, r.po, h2]
    rfl
  exact congrArg (fun y : Th => (y.tris A, lived s L)) this
theorem pop_three (hA : A.ok) (F : Fre A (s :: fr) c) (hc : c < 80000) : ∃ p1 p2 p3 A1 A2 A3, Pop.new.step A = (p1, 0, A1) ∧ p1.l.over = false ∧ p1.step A1 = (p2, 0, A2) ∧ p2.l.over = false ∧ p2.step A2 = (p3, 0, A3) ∧ p3.l.over = true ∧ p3.slot = s ∧
    (0 ≤ s ∧ s < 12) ∧ A1.ok ∧ A2.ok ∧ A3.ok ∧ Fre A3 fr (c + 1) ∧ ∀ j, 0 ≤ j → j < 634 → j ≠ 16 → A3.at j = A.at j := by
  obtain ⟨f, f1, f2⟩ := F.hd
  have fr0 := f2.rng
  have c0 := F.c0
  obtain ⟨d1, d2, d3⟩ := head_word f1 c0 (by omega) fr0.1 fr0.2
  obtain ⟨g1, g2, v, g3, g4⟩ := f2
  have x1 := Pop.step_own Pop.new_ok (Pop.new_own (A := A) (c := c)) hA F (by omega)
  have y1 := Pop.step_ok Pop.new_ok hA
  have z1 := Pop.step_acc (A := A) Pop.new_ok
  have e1 : (Pop.new.step A).1.l.over = false ∧ (Pop.new.step A).1.l.at_ = 1 ∧ (Pop.new.step A).1.l.word = A.at 16 := by
    unfold Pop.step
    rw [if_neg (by decide), if_pos (show Pop.new.l.at_ = 0 from rfl), if_pos d1, d3]
    exact ⟨decide_eq_false (by omega), rfl, rfl⟩
  generalize Pop.new.step A = q1 at *
  obtain ⟨p1, k1, A1⟩ := q1
  simp only at x1 y1 z1 e1
  obtain ⟨rfl, x1⟩ := x1
  have x1 : Kp A A1 ∧ p1.own A1 c := by
    rcases x1 with ⟨_, a, b⟩ | ⟨q, _⟩ | ⟨q, _⟩
    · exact ⟨a, b⟩
    · rw [e1.1] at q; cases q
    · rw [e1.1] at q; cases q
  have F1 := F.kp x1.1
  have x2 := Pop.step_own y1.1 x1.2 y1.2 F1 (by omega)
  have y2 := Pop.step_ok y1.1 y1.2
  have z2 := Pop.step_acc (A := A1) y1.1
  have e2 : (p1.step A1).1.l.over = false ∧ (p1.step A1).1.l.at_ = 2 ∧ (p1.step A1).1.l.word = A.at 16 := by
    have h0 := x2.1
    unfold Pop.step at h0 ⊢
    rw [if_neg (by rw [e1.1]; decide), if_neg (by rw [e1.2.1]; decide), if_pos e1.2.1] at h0 ⊢
    split
    · exact ⟨e1.1, rfl, e1.2.2⟩
    · rename_i hn
      rw [if_neg hn] at h0
      cases h0
  generalize hq2 : p1.step A1 = q2 at *
  obtain ⟨p2, k2, A2⟩ := q2
  simp only at x2 y2 z2 e2
  obtain ⟨rfl, x2⟩ := x2
  have x2 : Kp A1 A2 ∧ p2.own A2 c := by
    rcases x2 with ⟨_, a, b⟩ | ⟨q, _⟩ | ⟨q, _⟩
    · exact ⟨a, b⟩
    · rw [e2.1] at q; cases q
    · rw [e2.1] at q; cases q
  have F2 := F1.kp x2.1
  have x3 := Pop.step_own y2.1 x2.2 y2.2 F2 (by omega)
  have y3 := Pop.step_ok y2.1 y2.2
  have z3 := Pop.step_acc (A := A2) y2.1
  have pf := y2.1.f e2.1 (by omega)
  have hw : A2.at 16 = p2.l.word := by rw [e2.2.2, x2.1 16 (by decide) (by decide), x1.1 16 (by decide) (by decide)]
  have e3 : (p2.step A2).1.l.over = true ∧ (p2.step A2).1.slot ≠ -1 := by
    unfold Pop.step
    rw [if_neg (by rw [e2.1]; decide), if_neg (by omega), if_neg (by omega), if_pos hw]
    exact ⟨rfl, by show p2.l.first - 1 ≠ -1; omega⟩
  generalize hq3 : p2.step A2 = q3 at *
  obtain ⟨p3, k3, A3⟩ := q3
  simp only at x3 y3 z3 e3
  obtain ⟨rfl, x3⟩ := x3
  rcases x3 with ⟨q, _⟩ | ⟨_, q, _⟩ | ⟨_, s', fr', h1, h2, h3, h4, _⟩
  · rw [e3.1] at q; cases q
  · exact absurd q e3.2
  · cases h1
    exact ⟨p1, p2, p3, A1, A2, A3, rfl, e1.1, hq2, e2.1, hq3, e3.1, h2, h3, y1.2, y2.2, y3.2, h4, fun j j0 j1 jn => by
      rw [z3.same y2.2 j0 j1 jn, z2.same y1.2 j0 j1 jn, z1.same hA j0 j1 jn]⟩
theorem taks_got {y : Th} {p2 p3 : Pop} {A2 A3 : Ar} {L : List Int} {s : Int} (hp : y.pop = some p2) (hs : p2.step A2 = (p3, 0, A3)) (ho : p3.l.over = true) (hsl : p3.slot = s) (h0 : 0 ≤ s) : y.taks A2 L = ((({ y with pop := none } : Th).with_ s L, 0, A3), lived s L) := by
  rw [taks_2 (fun h => by rw [hp] at h; cases h)]
  unfold Th.taks2
  rw [hp]
  simp only [Option.getD_some]
  rw [hs]
  simp only
  rw [if_neg (by rw [ho]; simp), if_neg (by rw [hsl]; omega), hsl]
theorem q_popped (r : Rst x) (h1 : ripes x.limbo e = []) (h2 : rests x.limbo e = x.limbo) (lq : Lq x.limbo e) (Q : Qt F A (s :: fr) c e x.id w) (hc : c < 80000) (m : At.may x.id x.seq s (L.getD s.toNat 0 + 1) (x.txns.getD x.evs.length [])) :
    ∃ B, TGo (p + 3) (x.q3 e p) A L 3 (x.q4 e p s x.limbo L) B (lived s L) ∧ Qt F B fr (c + 1) e x.id w := by
  obtain ⟨p1, p2, p3, A1, A2, A3, a1, a2, a3, a4, a5, a6, a7, a8, a9, a10, a11, a12, a13⟩ := pop_three Q.ok Q.fre hc
  have ll := lq.len
  have st : ∀ {q : Int} {z : Th} {A : Ar} {pp : Option Pop} {po : Pop} {A' : Ar}, z.dead = false → z.next = some .tak ∨ (z.next = some .fre ∧ z.push = none ∧ z.cached.ripe = [] ∧ z.z.cached = z.z) → z.pop = pp → z.cache = [] → (pp.getD .new).step A = (po, 0, A') → po.l.over = false → z.step A L q = ({ z with ts := -1, tg := 0, pop := some po, next := some .tak }, true, 0, A', L) := by
    intro q z A pp po A' hd hn hp hc hs ho
    have key : z.z.taks A L = (({ z with ts := -1, tg := 0, pop := some po, next := some .tak }, 0, A'), L) := by
      rw [taks_2 (x := z.z) (fun _ => hc)]
      unfold Th.taks2
      have : z.z.pop = pp := hp
      rw [this, hs]
      simp only
      rw [if_pos (.inl ho)]
      rfl
    rcases hn with hn | ⟨hn, hpu, hcr, hcz⟩
    · rw [Th.step_some hd hn]
      show Th.ended (z.z.taks A L) = _
      rw [key]; rfl
    · rw [Th.step_some hd hn]
      show Th.ended (z.z.fres A L) = _
      unfold Th.fres
      rw [hcz]
      have : z.z.ripe = [] := by
        have e : z.z.cached.ripe = z.cached.ripe := by
          unfold Th.cached
          show (match z.push with | none => _ | some _ => _ : Th).ripe = (match z.push with | none => _ | some _ => _ : Th).ripe
          rw [hpu]
          rfl
        rw [← hcz, e]; exact hcr
      simp only [this]
      rw [key]; rfl
  have c3 : (x.q3 e p).cached = x.q3 e p := by
    unfold Th.cached Th.q3
    simp only [r.pu, r.ca, h1, List.take_nil, List.drop_nil, List.append_nil]
  have c3z : (x.q3 e p).z.cached = (x.q3 e p).z := by
    unfold Th.cached Th.z Th.q3
    simp only [r.pu, r.ca, h1, List.take_nil, List.drop_nil, List.append_nil]
  have s1 := st (q := p + 3) (z := x.q3 e p) (A := A) r.nd (.inr ⟨rfl, r.pu, by rw [c3]; exact h1, c3z⟩) r.po r.ca a1 a2
  have s2 := st (q := p + 3 + 1) (z := { x.q3 e p with ts := -1, tg := 0, pop := some p1, next := some .tak }) (A := A1) r.nd (.inl rfl) rfl r.ca a3 a4
  have s3 : ({ x.q3 e p with ts := -1, tg := 0, pop := some p2, next := some .tak } : Th).step A2 L (p + 3 + 1 + 1) = (x.q4 e p s x.limbo L, true, 0, A3, lived s L) := by
    rw [Th.step_some (x := { x.q3 e p with ts := -1, tg := 0, pop := some p2, next := some .tak }) (a := .tak) r.nd rfl]
    have key : ({ x.q3 e p with ts := -1, tg := 0, pop := some p2, next := some .tak } : Th).taks A2 L = ((x.q4 e p s x.limbo L, 0, A3), lived s L) := by
      rw [taks_got (y := { x.q3 e p with ts := -1, tg := 0, pop := some p2, next := some .tak }) rfl a5 a6 a7 a8.1]
      have : ({ x.q3 e p with ts := -1, tg := 0, pop := none, next := some .tak } : Th).with_ s L = x.q4 e p s x.limbo L := by
        have ho : Th.ops { x.q3 e p with ts := -1, tg := 0, pop := none, next := some .tak } = x.txns.getD x.evs.length [] := ops_snoc x e p
        refine (with_may ho m).trans ?_
        unfold Th.q4 Th.q3
        simp only [r.pu, r.ca, h1, h2]
      exact congrArg (fun y : Th => ((y, (0 : Int), A3), lived s L)) this
    show Th.ended (({ x.q3 e p with ts := -1, tg := 0, pop := some p2, next := some .tak } : Th).taks A2 L) = _
    rw [key]; rfl
  have l3 : (rests x.limbo e).length ≤ 3 := by rw [h2]; exact ll
  have b3 : x.cache.length + (rests x.limbo e).length + ((ripes x.limbo e).length + if x.slot = -1 then 0 else 1) ≤ 4 := by
    rw [r.ca, r.sl, if_pos rfl, h1]; simp only [List.length_nil]; omega
  have r3 : (ripes x.limbo e).length ≤ 1 := by rw [h1]; simp
  refine ⟨A3, .step s1 ⟨.inl rfl, .inl rfl, l3, b3, r3⟩ (.step s2 ⟨.inl rfl, .inl rfl, l3, b3, r3⟩ (.one s3 ⟨.inl rfl, .inr ⟨s, a8.1, a8.2, rfl⟩, ll, ?_, by show ([] : List Int).length ≤ 1; simp⟩)), ?_⟩
  · show ([] : List Int).length + x.limbo.length + (([] : List Int).length + if s = -1 then 0 else 1) ≤ 4
    simp only [List.length_nil]
    split <;> omega
  · refine ⟨a11, Q.fok, ⟨Q.mem.fl, Q.mem.val, fun i hi => by rw [a13 i (by omega) (by omega) (by omega)]; exact Q.mem.at_ i hi⟩, a12, by rw [a13 29 (by decide) (by decide) (by decide)]; exact Q.ep, Q.e0, Q.e1, fun i i0 i1 => by rw [a13 i (by omega) (by omega) (by omega)]; exact Q.say i i0 i1⟩
end
end Go.Proofs.YtfphpafkhljncaaGreat
