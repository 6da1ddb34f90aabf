/- Several texts in one; nothing here is a statement on the program. -/
import Derived.Test.YtfphpafkhljncaaGreatQD7
namespace Go.Proofs.YtfphpafkhljncaaGreat
open Go GW Go.Proofs
attribute [local irreducible] bnd ldV stV ifV binV eqI
set_option linter.unusedVariables false
set_option linter.unusedSimpArgs false
set_option maxRecDepth 20000
section
variable {R : List Part} {h : GH} {K : Value → GH → Prop}
theorem T_atWonNil (hK : K (.bool false) h) : T Tryz.prog 227 [.pointer none] h K := by
  apply S227_T
  unfold S227
  refine wk ?_
  exact hK
theorem T_atAnswersNil (hK : K (.slice none 0 0) h) : T Tryz.prog 252 [.pointer none] h K := by
  apply S252_T
  unfold S252
  refine wk ?_
  exact hK
theorem ansP_set {v' : Value} {ws : List Value} {es : List Event} {i : Nat} {e' : Event} (hp : All (rowP 2 v' (e'.answers.map Answer.enc) :: ansP ws es :: R) h) : All (ansP (ws.set i v') (es.set i e') :: R) h := by
  refine (All.fold (l := [_, _]) hp).head fun h1 z j e w he hw => ?_
  rw [List.getElem?_set] at he hw
  split at he
  · rename_i c
    rw [if_pos c] at hw
    split at he
    · split at hw
      · cases he; cases hw; exact All.rows z
      · cases hw
    · cases he
  · rename_i c
    rw [if_neg c] at hw
    exact (z.tail.mono1 ansP.mono) j e w he hw
theorem ansP_same {ws : List Value} {es : List Event} {i : Nat} {e0 e' : Event} (he0 : es[i]? = some e0) (ha : e'.answers = e0.answers) (hp : All (ansP ws es :: R) h) : All (ansP ws (es.set i e') :: R) h := by
  refine hp.head fun h1 z j e w he hw => ?_
  rw [List.getElem?_set] at he
  split at he
  · rename_i c
    split at he
    · cases he; subst c; rw [ha]; exact z _ e0 w he0 hw
    · cases he
  · exact z j e w he hw
theorem ev_st {v : Value} {cs : List (List Value)} {c : List Value} {i eb j : Nat} {y : Value} {K : GH → Prop} (hp : All (rowP 8 v cs :: R) h) (hc : cs[i]? = some c) (hi : isV 8 v (i64 i) = some (.pointer (some ⟨eb, i * 8, none⟩))) (hy : y.cells.size = 1) (hy2 : y.cells.toList = [y]) (hj : j < 8)
    (k : ∀ h', All (rowP 8 v (cs.set i (c.set j y)) :: R) h' → K h') (ho : oneCell y = true := by rfl) : bnd (stV 1 (.pointer (some ⟨eb, i * 8 + j, none⟩)) y h) K := by
  obtain ⟨b', i1, _, _, i4⟩ := All.elt hp hc .i64
  rw [hi] at i1
  cases i1
  obtain ⟨h', e, hp⟩ := i4 j 1 y hy (by omega) (by rw [hy2]; simp [ho])
  rw [hy2] at hp
  exact bnd_of e (k _ hp)
theorem evTurn_set {es : List Event} {e : Event} {f : Event → Event} (h : es.getLast? = some e) : evTurn es f = es.set (es.length - 1) (f e) := by
  unfold evTurn; rw [h]
end
theorem Th.ok.limbo_small {x : Th} (o : x.ok) : x.limbo.length ≤ 200 := by
  have h1 := o.cap; have h2 := o.evs; have h3 := thrMay_spec o.txns; have h4 := o.t1; have h5 := o.k1
  have f : flagOf x.next ≤ 1 := by unfold flagOf; split <;> omega
  omega
section
variable {P1 P2 P3 : Part} {a b tb : Nat} {lp : Value} {pick : Int} {A : Ar} {R : List Part} {h : GH} {K : Value → GH → Prop} {x : Th}
theorem T_enters (hp : All (arP 138 a A :: pts tb (trRow b a lp pick) :: P3 :: thP b x :: R) h) (o : x.ok)
    (hK : ∀ h', All (arP 138 a (x.ents A).2.2 :: pts tb (trRow b a lp pick) :: P3 :: thP b (x.ents A).1 :: R) h' → K (i64 (x.ents A).2.1) h') : T Tryz.prog 114 [ptr tb] h K := by
  apply S114_T
  unfold S114
  have hp0 := hp
  refine tho hp fun v hp => ?_
  unfold thRow trRow at hp
  refine wk ?_
  unfold Th.ents at hK
  cases he : x.ent with
  | none =>
    rw [he] at hp hK
    dsimp only at hK
    have e := opP_none (hn (hp.up 9))
    rw [e]
    refine wk ?_
    refine T_enterStepNil ?_
    refine wk ?_
    unfold S114_j1
    refine wk ?_
    exact hK _ hp0
  | some n =>
    have on := o.ent n he
    rw [he] at hp hK
    dsimp only at hK
    obtain ⟨nb, e, hp1⟩ := opP_some (hn (hp.up 9))
    replace hp := hp1
    rw [e] at hp ⊢
    clear hp1
    replace hp := hp.re 4 [1, 2, 3, 0]
    replace hp := Go.Proofs.YtfphpafkhljncaaGreat.hn hp
    refine wk ?_
    replace hp := hp.re 4 [2, 3, 0, 1]
    replace hp := Go.Proofs.YtfphpafkhljncaaGreat.hn hp
    refine T_enterStep hp on fun h2 hp => ?_
    have os := (Ent.step_ok on (arP.at hp0).2).1
    generalize n.step A = z at hp hK os
    obtain ⟨n', code, B⟩ := z
    dsimp only at hp hK os ⊢
    refine wk ?_
    have back : ∀ {h'} {w : Th} {v' : ThV} {c : Option Ent} {ri : List Int} {li : List Ret}, All (arP 138 a B :: opP entP v'.ep c :: pts b (thRow w v') :: pts tb (trRow b a lp pick) :: P3 :: tvP v'.tv x.txns :: evsP v'.ev x.evs :: rowP 1 v'.cv (x.cache.map encI) :: rowP 2 v'.lv (li.map Ret.enc) :: rdP v'.rv ri :: opP pushP v'.up x.push :: opP popP v'.pp x.pop :: opP attP v'.ap x.att :: opP advP v'.dp x.adv :: R) h' →
        w.txns = x.txns → w.evs = x.evs → w.cache = x.cache → w.limbo = li → w.ripe = ri → w.ent = c → w.push = x.push → w.pop = x.pop → w.att = x.att → w.adv = x.adv →
        All (arP 138 a B :: pts tb (trRow b a lp pick) :: P3 :: thP b w :: R) h' := by
      intro h' w v' c ri li hp e1 e2 e3 e4 e5 e6 e7 e8 e9 e10
      refine ths (v := v') ?_
      rw [e1, e2, e3, e4, e5, e6, e7, e8, e9, e10]
      exact hn (hp.re 14 [2, 3, 0, 4, 5, 6, 7, 8, 9, 1, 10, 11, 12, 13])
    unfold S114_j1
    cases hov : n'.over with
    | false =>
      rw [if_neg (by rw [hov]; simp)] at hK
      refine wk ?_
      refine hK _ (back (v' := { v with ep := ptr nb }) (c := some n') (ri := x.ripe) (li := x.limbo) ?_ rfl rfl rfl rfl rfl rfl rfl rfl rfl rfl)
      have := opP_mk (P := entP) (hn (hp.up 1))
      exact hn (this.re 2 [1, 0])
    | true =>
      refine wk ?_
      refine ifV_cases (fun c => ?_) fun c => ?_
      · rw [if_pos ⟨hov, c⟩] at hK
        subst c
        replace hp := hp.re 4 [2, 3, 1, 0]
        replace hp := Go.Proofs.YtfphpafkhljncaaGreat.hn hp
        refine wk ?_
        refine T_entEpoch (hn (hp.up 2)) ?_
        refine wk ?_
        refine T_limboTake hp (fun h' hp => All.rows (hn (hp.up 8))) o.li os.e0 (by have := os.e1; omega) (by have := o.limbo_small; omega) fun v1 v2 h3 hp => ?_
        obtain ⟨ad1, ln1, cap1, rfl⟩ := All.isSlice hp
        obtain ⟨ad2, ln2, cap2, rfl⟩ := All.isSlice (hn (hp.up 1))
        have hp := hp.head (Q := rdP _ _) fun _ z => z.rows
        replace hp := hn (hp.re 12 [2, 3, 0, 1, 4, 5, 6, 7, 8, 9])
        refine wk ?_
        refine st0 hp (thRow x { v with ep := ptr nb, rv := .slice ad1 ln1 cap1 }) rfl (Nat.le_of_ble_eq_true rfl) rfl rfl fun h4 hp => ?_
        unfold thRow at hp
        refine wk ?_
        refine st0 hp (thRow x { v with ep := ptr nb, rv := .slice ad1 ln1 cap1, lv := .slice ad2 ln2 cap2 }) rfl (Nat.le_of_ble_eq_true rfl) rfl rfl fun h5 hp => ?_
        unfold thRow at hp
        refine wk ?_
        refine st0 hp (thRow { x with next := some .fre } { v with ep := ptr nb, rv := .slice ad1 ln1 cap1, lv := .slice ad2 ln2 cap2 }) rfl (Nat.le_of_ble_eq_true rfl) rfl rfl fun h6 hp => ?_
        refine hK _ (back (v' := { v with ep := ptr nb, rv := .slice ad1 ln1 cap1, lv := .slice ad2 ln2 cap2 }) (c := some n') (ri := ripes x.limbo n'.e) (li := rests x.limbo n'.e) ?_ rfl rfl rfl rfl rfl rfl rfl rfl rfl rfl)
        have := opP_mk (P := entP) (hn (hp.up 4))
        exact hn (this.re 10 [5, 0, 1, 2, 6, 7, 8, 9, 4, 3])
      · rw [if_neg (fun q => c q.2)] at hK
        refine hK _ (back (v' := { v with ep := ptr nb }) (c := some n') (ri := x.ripe) (li := x.limbo) ?_ rfl rfl rfl rfl rfl rfl rfl rfl rfl rfl)
        have := opP_mk (P := entP) (hn (hp.up 1))
        exact hn (this.re 2 [1, 0])
theorem T_retires (hp : All (arP 138 a A :: pts tb (trRow b a lp pick) :: P3 :: thP b x :: R) h) (o : x.ok)
    (hK : ∀ h', All (arP 138 a (x.rets A).2.2 :: pts tb (trRow b a lp pick) :: P3 :: thP b (x.rets A).1 :: R) h' → K (i64 (x.rets A).2.1) h') : T Tryz.prog 204 [ptr tb] h K := by
  apply S204_T
  unfold S204
  have hA := (arP.at hp).2
  have olim := o.limbo_small
  replace hp := hn (hp.re 4 [1, 0, 2, 3])
  unfold trRow at hp
  refine wk ?_
  replace hp := hn (hp.re 4 [1, 0, 2, 3])
  refine L_Load hp (by decide) (by decide) fun h1 hp => ?_
  refine wk ?_
  refine T_epOf (Ar.at_range hA 29).2 ?_
  refine wk ?_
  unfold Th.rets at hK
  cases hi : epIs (A.at 29) with
  | false =>
    rw [hi] at hK
    refine wk ?_
    exact hK _ hp
  | true =>
    rw [hi, if_pos rfl] at hK
    refine wk ?_
    refine tho hp fun v hp => ?_
    unfold thRow at hp
    refine wk ?_
    replace hp := hn (hp.re 8 [7, 0, 1, 2, 3, 4, 5, 6])
    refine bs0 (size := 2) hp ([Ret.mk x.slot (valOf (A.at 29))].map Ret.enc) rfl rfl (by simp) (ret_good _) fun sv h2 hp => ?_
    have r2 := hp.rows
    refine ap0 (hn (hp.up 1)) r2 (ret_good _) (by decide) (by simp only [List.length_map, List.length_cons, List.length_nil]; omega) fun lv' h3 hp => ?_
    obtain ⟨ad, ln, cap, rfl⟩ := All.isSlice hp
    rw [← List.map_append] at hp
    replace hp := hn (hp.re 9 [2, 0, 3, 4, 5, 6, 7, 8])
    refine wk ?_
    refine st0 hp (thRow x { v with lv := .slice ad ln cap }) rfl (Nat.le_of_ble_eq_true rfl) rfl rfl fun h4 hp => ?_
    unfold thRow at hp
    refine wk ?_
    refine st0 hp (thRow { x with slot := -1 } { v with lv := .slice ad ln cap }) rfl (Nat.le_of_ble_eq_true rfl) rfl rfl fun h5 hp => ?_
    unfold thRow at hp
    refine wk ?_
    refine st0 hp (thRow { x with slot := -1, next := some .lea } { v with lv := .slice ad ln cap }) rfl (Nat.le_of_ble_eq_true rfl) rfl rfl fun h6 hp => ?_
    unfold thRow at hp
    refine wk ?_
    have back : ∀ {h'} {w : Th}, All (pts b (thRow w { v with lv := .slice ad ln cap }) :: rowP 2 (.slice ad ln cap) ((x.limbo ++ [Ret.mk x.slot (valOf (A.at 29))]).map Ret.enc) :: pts tb (trRow b a lp pick) :: arP 138 a (A.ld 29) :: P3 :: tvP v.tv x.txns :: evsP v.ev x.evs :: rowP 1 v.cv (x.cache.map encI) :: rdP v.rv x.ripe :: opP entP v.ep x.ent :: opP pushP v.up x.push :: opP popP v.pp x.pop :: opP attP v.ap x.att :: opP advP v.dp x.adv :: R) h' →
        w.txns = x.txns → w.evs = x.evs → w.cache = x.cache → w.limbo = x.limbo ++ [Ret.mk x.slot (valOf (A.at 29))] → w.ripe = x.ripe → w.ent = x.ent → w.push = x.push → w.pop = x.pop → w.att = x.att → w.adv = x.adv →
        All (arP 138 a (A.ld 29) :: pts tb (trRow b a lp pick) :: P3 :: thP b w :: R) h' := by
      intro h' w hp e1 e2 e3 e4 e5 e6 e7 e8 e9 e10
      refine ths (v := { v with lv := .slice ad ln cap }) ?_
      rw [e1, e2, e3, e4, e5, e6, e7, e8, e9, e10]
      exact hn (hp.re 9 [0, 2, 3, 4, 5, 6, 7, 1, 8])
    cases ha : x.att with
    | none =>
      have hwv : (x.att.map At.won).getD false = false := by rw [ha]; rfl
      rw [hwv, if_neg (by decide)] at hK
      have e := opP_none (P := attP) (hn ((show All _ h6 from by rw [ha] at hp; exact hp).up 12))
      rw [e]
      refine T_atWonNil ?_
      refine wk ?_
      exact hK _ (back hp rfl rfl rfl rfl rfl rfl rfl rfl rfl rfl)
    | some y =>
      have hwv : (x.att.map At.won).getD false = y.won := by rw [ha]; rfl
      rw [hwv] at hK
      obtain ⟨yb, e, hq⟩ := opP_some (P := attP) (hn ((show All _ h6 from by rw [ha] at hp; exact hp).up 12))
      rw [e]
      refine T_atWon hq ?_
      cases hw : y.won with
      | true =>
        rw [hw, if_pos rfl] at hK
        refine wk ?_
        refine st0 hp (thRow { x with slot := -1, next := some .lea, end_ := 0 } { v with lv := .slice ad ln cap }) rfl (Nat.le_of_ble_eq_true rfl) rfl rfl fun h7 hp => ?_
        exact hK _ (back hp rfl rfl rfl rfl rfl rfl rfl rfl rfl rfl)
      | false =>
        rw [hw, if_neg (by decide)] at hK
        refine wk ?_
        exact hK _ (back hp rfl rfl rfl rfl rfl rfl rfl rfl rfl rfl)
theorem T_leaves (hp : All (arP 138 a A :: pts tb (trRow b a lp pick) :: P3 :: thP b x :: R) h) (o : x.ok)
    (hK : ∀ h', All (arP 138 a (x.leas A).2.2 :: pts tb (trRow b a lp pick) :: P3 :: thP b (x.leas A).1 :: R) h' → K (i64 (x.leas A).2.1) h') : T Tryz.prog 185 [ptr tb] h K := by
  apply S185_T
  unfold S185
  have n0 := o.n0; have n1 := o.n1; have i0 := o.i0; have i1 := o.i1
  refine tho hp fun v hp => ?_
  unfold thRow trRow at hp
  refine wk ?_
  refine T_NewAdvance (hn (hp.re 14 [0, 1, 2, 3, 4, 5, 6, 7, 8, 9, 10, 11, 12])) n0 n1 fun db h1 hp => ?_
  replace hp := hn (hp.re 3 [1, 2, 0])
  refine wk ?_
  refine st0 hp (thRow x { v with dp := ptr db }) rfl (Nat.le_of_ble_eq_true rfl) rfl rfl fun h2 hp => ?_
  unfold thRow at hp
  refine wk ?_
  refine st0 hp (thRow { x with next := some .adv } { v with dp := ptr db }) rfl (Nat.le_of_ble_eq_true rfl) rfl rfl fun h3 hp => ?_
  unfold thRow at hp
  refine wk ?_
  replace hp := hn (hp.up 3)
  refine T_leave hp i0 (show x.id < 4 by omega) fun h4 hp => ?_
  refine hK _ (ths (v := { v with dp := ptr db }) ?_)
  have := opP_mk (P := advP) (y := Adv.new x.n) (hn (hp.up 3))
  exact hn (this.re 14 [2, 3, 1, 4, 5, 6, 7, 8, 9, 10, 11, 12, 13, 0])
theorem T_answer (hp : All (P1 :: P2 :: P3 :: thP b x :: R) h) (t0 : 0 ≤ x.tries) (t1 : x.tries < x.k) (k1 : x.k ≤ 16) (live : x.evs ≠ []) (oe : x.evs.length ≤ 8) (oa : ∀ n, x.att = some n → n.ans.length ≤ 2)
    (hK : ∀ h', All (P1 :: P2 :: P3 :: thP b (x.answer pick) :: R) h' → K (.tuple #[]) h') : T Tryz.prog 229 [ptr b, i64 pick] h K := by
  apply S229_T
  unfold S229
  refine tho hp fun v hp => ?_
  unfold thRow at hp
  refine wk ?_
  refine st0 hp (thRow { x with next := none } v) rfl (Nat.le_of_ble_eq_true rfl) rfl rfl fun h1 hp => ?_
  unfold thRow at hp
  refine wk ?_
  refine st0 hp (thRow { x with next := none, tries := x.tries + 1 } v) rfl (Nat.le_of_ble_eq_true rfl) rfl rfl fun h2 hp => ?_
  replace hp := hn (hp.up 5)
  refine evsP_open hp fun ws hl hp => ?_
  obtain ⟨e, w, g1, g2, g3, g4⟩ := evCs_last hl live
  obtain ⟨eb, i1, i2, i3, i4⟩ := All.elt hp g4 .i64
  have hlen : lnV v.ev = some (i64 x.evs.length) := by have := All.len hp; rw [evCs_len hl] at this; exact this
  have l0 := List.length_pos_iff.2 live
  replace hp := hn (hp.re 3 [2, 0, 1])
  refine T_event (x := { x with next := none, tries := x.tries + 1 }) hp hlen l0 (by omega) i1 ?_
  clear i2 i3 i4
  unfold thRow at hp
  refine wk ?_
  replace hp := hn (hp.up 1)
  refine ev_st (j := 6) hp g4 i1 rfl rfl (by decide) fun h3 hp => ?_
  rw [show (e.cells w).set 6 (i64 (x.tries + 1)) = ({ e with attempts := x.tries + 1 } : Event).cells w from rfl, evCs_set hl, set_self g3] at hp
  have hp := (ansP_same g2 (e' := { e with attempts := x.tries + 1 }) rfl (hn (hp.up 2))).re 3 [1, 2, 0]
  replace hp := hn hp
  -- the event, as it is now
  have g2' : (x.evs.set (x.evs.length - 1) { e with attempts := x.tries + 1 })[x.evs.length - 1]? = some { e with attempts := x.tries + 1 } := List.getElem?_set_self (by omega)
  have hl' : ws.length = (x.evs.set (x.evs.length - 1) { e with attempts := x.tries + 1 }).length := by rw [List.length_set]; exact hl
  have back : ∀ {h'} {y : Th} {v' : ThV} {es' : List Event} {ws' : List Value}, ws'.length = es'.length → All (rowP 8 v'.ev (evCs es' ws') :: ansP ws' es' :: pts b (thRow y v') :: P2 :: P1 :: P3 :: tvP v'.tv x.txns :: rowP 1 v'.cv (x.cache.map encI) :: rowP 2 v'.lv (x.limbo.map Ret.enc) :: rdP v'.rv x.ripe :: opP entP v'.ep x.ent :: opP pushP v'.up x.push :: opP popP v'.pp x.pop :: opP attP v'.ap x.att :: opP advP v'.dp x.adv :: R) h' →
      y.txns = x.txns → y.evs = es' → y.cache = x.cache → y.limbo = x.limbo → y.ripe = x.ripe → y.ent = x.ent → y.push = x.push → y.pop = x.pop → y.att = x.att → y.adv = x.adv →
      All (P1 :: P2 :: P3 :: thP b y :: R) h' := by
    intro h' y v' es' ws' hw hp e1 e2 e3 e4 e5 e6 e7 e8 e9 e10
    refine ths (v := v') ?_
    rw [e1, e2, e3, e4, e5, e6, e7, e8, e9, e10]
    have := evsP_shut hw hp
    exact hn (this.re 6 [1, 2, 3, 4, 5, 0])
  unfold Th.answer at hK
  replace hp := hn (hp.re 3 [1, 0, 2])
  refine wk ?_
  have j2 : ∀ h', ¬ (x.end_ = 2 ∧ x.tries + 1 < x.k) → All (pts b (thRow { x with next := none, tries := x.tries + 1 } v) :: rowP 8 v.ev (evCs (x.evs.set (x.evs.length - 1) { e with attempts := x.tries + 1 }) ws) :: ansP ws (x.evs.set (x.evs.length - 1) { e with attempts := x.tries + 1 }) :: P2 :: P1 :: P3 :: tvP v.tv x.txns :: rowP 1 v.cv (x.cache.map encI) :: rowP 2 v.lv (x.limbo.map Ret.enc) :: rdP v.rv x.ripe :: opP entP v.ep x.ent :: opP pushP v.up x.push :: opP popP v.pp x.pop :: opP attP v.ap x.att :: opP advP v.dp x.adv :: R) h' →
      S229_j2 (ptr b) (i64 pick) (.pointer (some ⟨eb, (x.evs.length - 1) * 8, none⟩)) h' K := by
    intro h' c hp
    rw [if_neg c] at hK
    have j3 : ∀ h' w' (rs : List Answer), rs = (if x.end_ = 0 then (x.att.map At.ans).getD [] else e.answers) → All (pts b (thRow { x with next := none, tries := x.tries + 1 } v) :: rowP 8 v.ev (evCs (x.evs.set (x.evs.length - 1) { e with attempts := x.tries + 1, answers := rs }) (ws.set (x.evs.length - 1) w')) :: ansP (ws.set (x.evs.length - 1) w') (x.evs.set (x.evs.length - 1) { e with attempts := x.tries + 1, answers := rs }) :: P2 :: P1 :: P3 :: tvP v.tv x.txns :: rowP 1 v.cv (x.cache.map encI) :: rowP 2 v.lv (x.limbo.map Ret.enc) :: rdP v.rv x.ripe :: opP entP v.ep x.ent :: opP pushP v.up x.push :: opP popP v.pp x.pop :: opP attP v.ap x.att :: opP advP v.dp x.adv :: R) h' →
        S229_j3 (ptr b) (i64 pick) (.pointer (some ⟨eb, (x.evs.length - 1) * 8, none⟩)) h' K := by
      intro h' w' rs ers hp
      have q2 : (x.evs.set (x.evs.length - 1) { e with attempts := x.tries + 1, answers := rs })[x.evs.length - 1]? = some { e with attempts := x.tries + 1, answers := rs } := List.getElem?_set_self (by omega)
      have q3 : (ws.set (x.evs.length - 1) w')[x.evs.length - 1]? = some w' := List.getElem?_set_self (by omega)
      have ql : (ws.set (x.evs.length - 1) w').length = (x.evs.set (x.evs.length - 1) { e with attempts := x.tries + 1, answers := rs }).length := by rw [List.length_set, List.length_set]; exact hl
      unfold S229_j3
      unfold thRow at hp
      refine wk ?_
      replace hp := hn (hp.up 1)
      refine ev_st (j := 5) hp (evCs_get q2 q3) i1 rfl rfl (by decide) fun h4 hp => ?_
      rw [show (({ e with attempts := x.tries + 1, answers := rs } : Event).cells w').set 5 (i64 x.end_) = ({ e with attempts := x.tries + 1, answers := rs, end_ := x.end_ } : Event).cells w' from rfl, evCs_set ql, set_self q3, List.set_set] at hp
      refine wk ?_
      refine ev_st (j := 4) hp (evCs_get (List.getElem?_set_self (by omega)) q3) i1 rfl rfl (by decide) fun h5 hp => ?_
      rw [show (({ e with attempts := x.tries + 1, answers := rs, end_ := x.end_ } : Event).cells w').set 4 (i64 pick) = ({ e with attempts := x.tries + 1, answers := rs, end_ := x.end_, answered := pick } : Event).cells w' from rfl, evCs_set (by rw [List.length_set, List.length_set]; exact hl), set_self q3, List.set_set] at hp
      refine wk ?_
      replace hp := hn (hp.up 1)
      refine st0 hp (thRow { x with next := none, tries := 0 } v) rfl (Nat.le_of_ble_eq_true rfl) rfl rfl fun h6 hp => ?_
      have hp := (ansP_same q2 (e' := { e with attempts := x.tries + 1, answers := rs, end_ := x.end_, answered := pick }) rfl (hn (hp.up 2))).re 3 [2, 0, 1]
      rw [List.set_set] at hp
      replace hp := hn hp
      refine hK _ (back (v' := v) (ws' := ws.set (x.evs.length - 1) w') (es' := x.evs.set (x.evs.length - 1) { e with attempts := x.tries + 1, answers := rs, end_ := x.end_, answered := pick }) (by rw [List.length_set, List.length_set]; exact hl) hp rfl ?_ rfl rfl rfl rfl rfl rfl rfl rfl)
      show evTurn x.evs _ = _
      rw [evTurn_set g1, ers]
    unfold S229_j2
    unfold thRow at hp
    refine wk ?_
    refine ifV_cases (fun c0 => ?_) fun c0 => ?_
    · refine wk ?_
      cases ha : x.att with
      | none =>
        have ee := opP_none (P := attP) (hn ((show All _ h' from by rw [ha] at hp; exact hp).up 13))
        rw [ee]
        refine T_atAnswersNil ?_
        refine wk ?_
        replace hp := hn (hp.up 1)
        refine ev_st (j := 7) hp (evCs_get g2' g3) i1 rfl rfl (by decide) fun h4 hp => ?_
        rw [show (({ e with attempts := x.tries + 1 } : Event).cells w).set 7 (.slice none 0 0) = ({ e with attempts := x.tries + 1, answers := [] } : Event).cells (.slice none 0 0) from rfl, evCs_set hl', List.set_set] at hp
        have hp := ansP_set (i := x.evs.length - 1) (e' := { e with attempts := x.tries + 1, answers := [] }) ((hn (hp.up 2)).emp_cons (rowP_nil _ _))
        rw [List.set_set] at hp
        exact j3 _ _ [] (by rw [if_pos c0, ha]; rfl) (hn (hp.re 3 [2, 1, 0]))
      | some y =>
        obtain ⟨yb, ee, hq⟩ := opP_some (P := attP) (hn ((show All _ h' from by rw [ha] at hp; exact hp).up 13))
        rw [ee]
        refine T_atAnswers hq (by have := oa y ha; omega) fun av h4 hp => ?_
        obtain ⟨ad, ln, cap, rfl⟩ := All.isSlice hp
        have hp := opP_mk (P := attP) (hn (hp.up 1))
        rw [← ee, ← ha] at hp
        replace hp := hn (hp.re 16 [3, 1, 4, 2, 5, 6, 7, 8, 9, 10, 11, 12, 13, 14, 0, 15])
        refine wk ?_
        refine ev_st (j := 7) hp (evCs_get g2' g3) i1 rfl rfl (by decide) fun h5 hp => ?_
        rw [show (({ e with attempts := x.tries + 1 } : Event).cells w).set 7 (.slice ad ln cap) = ({ e with attempts := x.tries + 1, answers := y.ans } : Event).cells (.slice ad ln cap) from rfl, evCs_set hl', List.set_set] at hp
        have hp := ansP_set (i := x.evs.length - 1) (e' := { e with attempts := x.tries + 1, answers := y.ans }) (hn (hp.re 3 [1, 2, 0]))
        rw [List.set_set] at hp
        exact j3 _ _ y.ans (by rw [if_pos c0, ha]; rfl) (hn (hp.re 3 [2, 1, 0]))
    · refine j3 _ w e.answers (by rw [if_neg c0]) ?_
      rw [set_self g3]
      exact hp
  refine ifV_cases (fun c => ?_) fun c => ?_
  · refine wk ?_
    unfold S229_j1
    refine ifV_cases (fun c2 => ?_) fun c2 => ?_
    · rw [if_pos ⟨c, c2⟩] at hK
      refine wk ?_
      refine T_Pause (by omega) (by omega) ?_
      refine wk ?_
      refine st0 hp (thRow { x with next := none, tries := x.tries + 1, pause := pauseM x.pol (x.tries + 1) } v) rfl (Nat.le_of_ble_eq_true rfl) rfl rfl fun h4 hp => ?_
      refine hK _ (back hl' (hn (hp.re 3 [1, 2, 0])) rfl ?_ rfl rfl rfl rfl rfl rfl rfl rfl)
      show evTurn x.evs _ = _
      rw [evTurn_set g1]
    · exact j2 _ (fun q => c2 q.2) hp
  · unfold S229_j1
    refine wk ?_
    exact j2 _ (fun q => c q.1) hp
end
end Go.Proofs.YtfphpafkhljncaaGreat
namespace Go.Proofs.YtfphpafkhljncaaGreat
open Go GW Go.Proofs
attribute [local irreducible] bnd ldV stV ifV binV eqI
set_option linter.unusedVariables false
set_option linter.unusedSimpArgs false
set_option maxRecDepth 20000
section
variable {P1 P2 P3 : Part} {a b tb lb sz : Nat} {U : TypeId} {pre post : List Value} {lp : Value} {pick : Int} {A : Ar} {L : List Int} {R : List Part} {h : GH} {K : Value → GH → Prop} {x : Th}
theorem T_advances (hp : All (arP 138 a A :: pts tb (trRow b a lp pick) :: P3 :: thP b x :: R) h) (o : x.ok) (hx : x.next = some .adv)
    (hK : ∀ h', All (arP 138 a (x.advs A pick).2.2 :: pts tb (trRow b a lp pick) :: P3 :: thP b (x.advs A pick).1 :: R) h' → K (i64 (x.advs A pick).2.1) h') : T Tryz.prog 207 [ptr tb] h K := by
  apply S207_T
  unfold S207
  have live := o.live (.inl (by rw [hx]; simp))
  have oe : x.evs.length ≤ 8 := by have := o.evs; have := thrMay_spec o.txns; omega
  have hp0 := hp
  refine tho hp fun v hp => ?_
  unfold thRow trRow at hp
  refine wk ?_
  unfold Th.advs at hK
  cases he : x.adv with
  | none =>
    rw [he] at hp hK
    dsimp only at hK
    have e := opP_none (hn (hp.up 13))
    rw [e]
    refine wk ?_
    refine T_advStepNil ?_
    refine wk ?_
    unfold S207_j1
    refine wk ?_
    exact hK _ hp0
  | some d =>
    have od := o.adv d he
    rw [he] at hp hK
    dsimp only at hK
    obtain ⟨db, e, hp1⟩ := opP_some (hn (hp.up 13))
    replace hp := hp1
    rw [e] at hp ⊢
    clear hp1
    replace hp := hp.re 4 [1, 2, 3, 0]
    replace hp := Go.Proofs.YtfphpafkhljncaaGreat.hn hp
    refine wk ?_
    replace hp := hp.re 4 [2, 3, 0, 1]
    replace hp := Go.Proofs.YtfphpafkhljncaaGreat.hn hp
    refine T_advStep hp od fun h2 hp => ?_
    generalize d.step A = z at hp hK
    obtain ⟨d', code, B⟩ := z
    dsimp only at hp hK ⊢
    refine wk ?_
    have hp2 : All (arP 138 a B :: pts tb (trRow b a lp pick) :: P3 :: thP b { x with adv := some d' } :: R) h2 := by
      refine ths (v := { v with dp := ptr db }) ?_
      have := opP_mk (P := advP) (hn (hp.up 1))
      exact hn (this.re 14 [2, 3, 1, 4, 5, 6, 7, 8, 9, 10, 11, 12, 13, 0])
    unfold S207_j1
    cases hov : d'.over with
    | false =>
      rw [if_neg (by rw [hov]; simp)] at hK
      refine wk ?_
      exact hK _ hp2
    | true =>
      refine wk ?_
      refine ifV_cases (fun c => ?_) fun c => ?_
      · rw [if_pos ⟨hov, c⟩] at hK
        subst c
        replace hp := hn (hp2.re 4 [1, 0, 2, 3])
        unfold trRow at hp
        refine wk ?_
        refine T_answer hp o.t0 o.t1 o.k1 live oe (fun n hn => (o.att n hn).2) fun h3 hp => ?_
        exact hK _ (hn (hp.re 4 [1, 0, 2, 3]))
      · rw [if_neg (fun q => c q.2)] at hK
        exact hK _ hp2
theorem T_thDone (hp : All (thP b x :: R) h) (oe : x.evs.length ≤ 8) (hK : K (.bool x.done) h) : T Tryz.prog 33 [ptr b] h K := by
  apply S33_T
  unfold S33
  refine thP_open hp fun v hp => ?_
  unfold thRow at hp
  refine wk ?_
  have hlen := evP_len (hn (hp.up 2))
  refine bnd_of hlen ?_
  refine wk ?_
  have htl : lnV v.tv = some (i64 x.txns.length) := by
    refine tvP_open (hn (hp.up 1)) fun cs hq => ?_
    have := hq.mono1 tv1.mono
    have h2 := this.1.len
    rw [this.2.1] at h2; exact h2
  refine bnd_of htl ?_
  refine wk ?_
  unfold Th.done at hK
  refine ifV_cases (fun c => ?_) fun c => ?_
  · rw [decide_eq_true (by omega), Bool.true_and] at hK
    refine wk ?_
    refine ifV_cases (fun c2 => ?_) fun c2 => ?_
    · have : x.evs = [] := List.length_eq_zero_iff.1 (by omega)
      rw [this] at hK
      exact hK
    · refine wk ?_
      refine evsP_open (hn (hp.up 2)) fun ws hl hp => ?_
      have live : x.evs ≠ [] := fun e => c2 (by rw [e]; rfl)
      obtain ⟨e, w, g1, g2, g3, g4⟩ := evCs_last hl live
      obtain ⟨eb, i1, i2, i3, i4⟩ := All.elt hp g4 .i64
      rw [g1] at hK
      have l0 := List.length_pos_iff.2 live
      rw [show (x.evs.length : Int) - 1 = ((x.evs.length - 1 : Nat) : Int) by omega]
      refine bnd_of i1 (bnd_of rfl (bnd_of (i2 4 1 (i64 e.answered) rfl) ?_))
      refine wk ?_
      exact hK
  · rw [decide_eq_false (by omega), Bool.false_and] at hK
    refine wk ?_
    exact hK
theorem evCs_snoc {es : List Event} {ws : List Value} (hl : ws.length = es.length) {e : Event} {w : Value} : evCs es ws ++ [e.cells w] = evCs (es ++ [e]) (ws ++ [w]) := by
  unfold evCs
  rw [List.zipWith_append hl.symm]; rfl
theorem ansP_snoc {ws : List Value} {es : List Event} {e' : Event} (ha : e'.answers = []) (hl : ws.length = es.length) (hp : All (ansP ws es :: R) h) : All (ansP (ws ++ [.slice none 0 0]) (es ++ [e']) :: R) h := by
  refine hp.head fun h1 z j e w he hw => ?_
  rw [List.getElem?_append] at he hw
  split at he
  · rw [if_pos (by omega)] at hw; exact z j e w he hw
  · rw [if_neg (by omega)] at hw
    have : j - es.length = 0 := by
      rcases Nat.eq_zero_or_pos (j - es.length) with q | q
      · exact q
      · rw [List.getElem?_eq_none (by simp; omega)] at he; cases he
    rw [this] at he
    rw [hl, this] at hw
    cases he; cases hw
    rw [ha]; exact rowsAt_nil _ _
theorem T_begin (hp : All (thP b x :: R) h) (o : x.ok) (hx : x.next = none)
    (hK : ∀ h', All (thP b (x.begin pick).1 :: R) h' → K (.bool (x.begin pick).2) h') : T Tryz.prog 79 [ptr b, i64 pick] h K := by
  apply S79_T
  unfold S79
  have oe : x.evs.length ≤ 8 := by have := o.evs; have := thrMay_spec o.txns; omega
  refine T_thDone hp oe ?_
  unfold Th.begin at hK
  cases hd : x.done with
  | true => rw [hd] at hK; refine wk ?_; exact hK _ hp
  | false =>
    rw [hd] at hK
    simp only [Bool.false_eq_true, if_false] at hK
    refine wk ?_
    refine thP_open hp fun v hp => ?_
    have p1 := o.p1; have i0 := o.i0; have i1 := o.i1; have n1 := o.n1
    unfold thRow at hp
    refine wk ?_
    refine ifV_cases (fun c => ?_) fun c => ?_
    · rw [if_pos c] at hK
      refine wk ?_
      refine st0 hp (thRow { x with pause := x.pause - 1 } v) rfl (Nat.le_of_ble_eq_true rfl) rfl rfl fun h1 hp => ?_
      exact hK _ (thP_shut (v := v) (x := { x with pause := x.pause - 1 }) hp)
    · rw [if_neg c] at hK
      have j1 : ∀ (es : List Event) (ev : Value) h', es = (if x.tries = 0 then x.evs ++ [⟨x.id, x.evs.length, pick, -1, -1, 0, 0, []⟩] else x.evs) → All (pts b (thRow x { v with ev := ev }) :: tvP v.tv x.txns :: evsP ev es :: rowP 1 v.cv (x.cache.map encI) :: rowP 2 v.lv (x.limbo.map Ret.enc) :: rdP v.rv x.ripe :: opP entP v.ep x.ent :: opP pushP v.up x.push :: opP popP v.pp x.pop :: opP attP v.ap x.att :: opP advP v.dp x.adv :: R) h' →
          S79_j1 (ptr b) h' K := by
        intro es ev h' ees hp
        unfold S79_j1
        unfold thRow at hp
        refine wk ?_
        refine T_NewEnter (hn (hp.re 11 [0, 1, 2, 3, 4, 5, 7, 8, 9, 10])) i0 (by omega) fun nb h1 hp => ?_
        replace hp := hn (hp.re 2 [1, 0])
        refine wk ?_
        refine st0 hp (thRow x { v with ev := ev, ep := ptr nb }) rfl (Nat.le_of_ble_eq_true rfl) rfl rfl fun h2 hp => ?_
        unfold thRow at hp
        refine wk ?_
        refine st0 hp (thRow { x with end_ := 2 } { v with ev := ev, ep := ptr nb }) rfl (Nat.le_of_ble_eq_true rfl) rfl rfl fun h3 hp => ?_
        unfold thRow at hp
        refine wk ?_
        refine st0 hp (thRow { x with end_ := 2, next := some .ent } { v with ev := ev, ep := ptr nb }) rfl (Nat.le_of_ble_eq_true rfl) rfl rfl fun h4 hp => ?_
        refine hK _ (thP_shut (v := { v with ev := ev, ep := ptr nb }) ?_)
        have := opP_mk (P := entP) (y := Ent.new x.id) (hn (hp.up 1))
        have := hn (this.re 11 [1, 2, 3, 4, 5, 6, 0, 7, 8, 9, 10])
        rw [ees] at this
        exact this
      refine wk ?_
      refine ifV_cases (fun c2 => ?_) fun c2 => ?_
      · refine wk ?_
        have hlen := evP_len (hn (hp.up 2))
        refine bnd_of hlen (bnd_of rfl ?_)
        replace hp := hn (hp.up 2)
        refine evsP_open hp fun ws hl hp => ?_
        have eg : good 8 ((⟨x.id, x.evs.length, pick, -1, -1, 0, 0, []⟩ : Event).cells (.slice none 0 0)) := ⟨rfl, rfl⟩
        refine bs0 (size := 8) hp [(⟨x.id, x.evs.length, pick, -1, -1, 0, 0, []⟩ : Event).cells (.slice none 0 0)] rfl rfl (by simp) (fun c hc => by rw [List.mem_singleton.1 hc]; exact eg) fun sv h2 hp => ?_
        have r2 := hp.rows
        refine ap0 (hn (hp.up 1)) r2 (fun c hc => by rw [List.mem_singleton.1 hc]; exact eg) (by decide) (by rw [evCs_len hl]; simp only [List.length_cons, List.length_nil]; omega) fun ev' h3 hp => ?_
        obtain ⟨ad, ln, cap, rfl⟩ := All.isSlice hp
        rw [evCs_snoc hl] at hp
        have hp := ansP_snoc (e' := ⟨x.id, x.evs.length, pick, -1, -1, 0, 0, []⟩) rfl hl (hn (hp.re 3 [2, 0]))
        have hl2 : (ws ++ [Value.slice none 0 0]).length = (x.evs ++ [(⟨x.id, x.evs.length, pick, -1, -1, 0, 0, []⟩ : Event)]).length := by simp [hl]
        have hp := evsP_shut hl2 (hn (hp.re 2 [1, 0]))
        replace hp := hn (hp.re 3 [1, 2, 0])
        refine wk ?_
        refine st0 hp (thRow x { v with ev := .slice ad ln cap }) rfl (Nat.le_of_ble_eq_true rfl) rfl rfl fun h4 hp => ?_
        exact j1 _ _ _ (by rw [if_pos c2]) hp
      · refine wk ?_
        exact j1 x.evs v.ev _ (by rw [if_neg c2]) hp
def Th.z (x : Th) : Th := { x with ts := -1, tg := 0 }
theorem Th.step_dead (h : x.dead = true) : x.step A L pick = (x, false, 1800, A, L) := by unfold Th.step; rw [if_pos h]
theorem Th.step_some {a : Act} (h : x.dead = false) (hx : x.next = some a) : x.step A L pick = Th.ended (x.z.act A L pick a) := by
  unfold Th.step
  rw [if_neg (by rw [h]; decide)]
  show (match x.next with | some a => Th.ended (x.z.act A L pick a) | none => _) = _
  rw [hx]
theorem Th.step_none (h : x.dead = false) (hx : x.next = none) : x.step A L pick = if (x.z.begin pick).2 then Th.ended ((x.z.begin pick).1.act A L pick .ent) else ((x.z.begin pick).1, false, 0, A, L) := by
  unfold Th.step
  rw [if_neg (by rw [h]; decide)]
  show (match x.next with | some a => _ | none => if (x.z.begin pick).2 then Th.ended ((x.z.begin pick).1.act A L pick .ent) else ((x.z.begin pick).1, false, 0, A, L)) = _
  rw [hx]
theorem T_thStep (hp : All (arP 138 a A :: pts lb (lvRow U sz pre L post) :: thP b x :: R) h) (o : x.ok) (lo : Lok L) (hpick : 0 ≤ pick)
    (hK : ∀ h', All (arP 138 a (x.step A L pick).2.2.2.1 :: pts lb (lvRow U sz pre (x.step A L pick).2.2.2.2 post) :: thP b (x.step A L pick).1 :: R) h' → K (.tuple #[.bool (x.step A L pick).2.1, i64 (x.step A L pick).2.2.1]) h') : T Tryz.prog 29 [ptr b, ptr a, lvP pre.length lb, i64 pick] h K := by
  apply S29_T
  unfold S29
  unfold lvP
  refine wk ?_
  unfold S29_j1
  refine wk ?_
  refine thP_open (hn (hp.up 2)) fun v hq => ?_
  replace hp := hq
  clear hq
  unfold thRow at hp
  refine wk ?_
  cases hd : x.dead with
  | true =>
    rw [Th.step_dead hd] at hK
    refine wk ?_
    exact hK _ (hn ((thP_shut (v := v) hp).re 3 [1, 2, 0]))
  | false =>
    refine wk ?_
    unfold S29_j2
    refine wk ?_
    refine st0 hp (thRow { x with ts := -1, tg := 0 } v) rfl (Nat.le_of_ble_eq_true rfl) rfl rfl fun h1 hp => ?_
    have o1 : x.z.ok := { o with }
    have j3 : ∀ (y : Th) (act : Act) h', y.ok → y.next = some act → All (arP 138 a A :: pts lb (lvRow U sz pre L post) :: thP b y :: R) h' →
        (∀ h'', All (arP 138 a (Th.ended (y.act A L pick act)).2.2.2.1 :: pts lb (lvRow U sz pre (Th.ended (y.act A L pick act)).2.2.2.2 post) :: thP b (Th.ended (y.act A L pick act)).1 :: R) h'' → K (.tuple #[.bool (Th.ended (y.act A L pick act)).2.1, i64 (Th.ended (y.act A L pick act)).2.2.1]) h'') →
        S29_j3 (ptr b) (ptr a) (.pointer (some ⟨lb, pre.length, none⟩)) (i64 pick) h' K := by
      intro y act h' oy hy hp hK
      unfold S29_j3
      refine thP_open (hn (hp.up 2)) fun v hq => ?_
      have hp0 := hp
      replace hp := hq
      clear hq
      unfold thRow at hp
      refine wk ?_
      replace hp := hp0
      refine nw hp (trRow b a (lvP pre.length lb) pick) rfl fun tb h2 hp => ?_
      replace hp := hn (hp.re 4 [1, 0, 2, 3])
      have live := oy.live (.inl (by rw [hy]; simp))
      -- behind the action
      have fin : ∀ (r : (Th × Int × Ar) × List Int) h', r = y.act A L pick act → All (arP 138 a r.1.2.2 :: pts tb (trRow b a (lvP pre.length lb) pick) :: pts lb (lvRow U sz pre r.2 post) :: thP b r.1.1 :: R) h' →
          bnd (eqI (i64 r.1.2.1) (.int .i64 0)) fun b9 => ifV (.bool (!b9)) (bnd (ncV (ptr b)) fun v10 => bnd (faV 7 v10) fun v11 => bnd (stV 1 v11 (.bool true) h') fun h12 => K (.tuple #[(.bool true), (.int .i64 1800)]) h12) (K (.tuple #[(.bool true), (.int .i64 0)]) h') := by
        intro r h' er hp
        rw [← er] at hK
        unfold Th.ended at hK
        refine wk ?_
        by_cases c : r.1.2.1 = 0
        · rw [if_pos c] at hK
          rw [decide_eq_true c]
          refine wk ?_
          exact hK _ (hn (hp.re 4 [0, 2, 3]))
        · rw [if_neg c] at hK
          rw [decide_eq_false c]
          refine wk ?_
          refine thP_open (hn (hp.up 3)) fun v hq => ?_
          replace hp := hq
          clear hq
          unfold thRow at hp
          refine wk ?_
          refine st0 hp (thRow { r.1.1 with dead := true } v) rfl (Nat.le_of_ble_eq_true rfl) rfl rfl fun h3 hp => ?_
          have := thP_shut (v := v) (x := { r.1.1 with dead := true }) hp
          exact hK _ (hn (this.re 4 [1, 3, 0]))
      rw [hy]
      cases act with
      | ent => exact T_enters hp oy fun h3 hp => fin (y.act A L pick .ent) _ rfl hp
      | fre => exact T_frees hp oy hy live lo fun h3 hp => fin (y.act A L pick .fre) _ rfl hp
      | tak => exact T_takes hp oy live lo fun h3 hp => fin (y.act A L pick .tak) _ rfl hp
      | tri => exact T_tries hp (fun n hn => (oy.att n hn).1) fun h3 hp => fin (y.act A L pick .tri) _ rfl hp
      | ret => exact T_retires hp oy fun h3 hp => fin (y.act A L pick .ret) _ rfl hp
      | lea => exact T_leaves hp oy fun h3 hp => fin (y.act A L pick .lea) _ rfl hp
      | adv => exact T_advances hp oy hy fun h3 hp => fin (y.act A L pick .adv) _ rfl hp
    unfold thRow at hp
    refine wk ?_
    have hp1 : All (thP b x.z :: arP 138 a A :: pts lb (lvRow U sz pre L post) :: R) h1 := thP_shut (v := v) hp
    cases hnx : x.next with
    | some act =>
      rw [Th.step_some hd hnx] at hK
      have enx : eqK NK.func true (actV (some act)) Value.nilFunc = some false := by cases act <;> rfl
      refine bnd_of enx ?_
      refine wk ?_
      exact j3 _ act _ o1 hnx (hn (hp1.re 3 [1, 2, 0])) hK
    | none =>
      rw [Th.step_none hd hnx] at hK
      refine wk ?_
      refine T_begin (pick := pick) hp1 o1 hnx fun h2 hp => ?_
      have hb := Th.begin_ok (pick := pick) o1 hnx
      generalize x.z.begin pick = r at hp hK hb
      obtain ⟨y, bb⟩ := r
      dsimp only at hp hK hb ⊢
      cases bb with
      | false =>
        rw [if_neg (by decide)] at hK
        refine wk ?_
        exact hK _ (hn (hp.re 3 [1, 2, 0]))
      | true =>
        rw [if_pos rfl] at hK
        refine wk ?_
        exact j3 y .ent _ hb.1 (hb.2 rfl) (hn (hp.re 3 [1, 2, 0])) hK
end
end Go.Proofs.YtfphpafkhljncaaGreat
namespace Go.Proofs.YtfphpafkhljncaaGreat
open Go GW Go.Proofs
attribute [local irreducible] bnd ldV stV ifV binV eqI
set_option linter.unusedVariables false
set_option linter.unusedSimpArgs false
set_option maxRecDepth 20000
/-- events of one's own, their answers too -/
def ansO : List Value → List Event → List Part
  | w :: ws, e :: es => rowP 2 w (e.answers.map Answer.enc) :: ansO ws es
  | _, _ => []
def evoP (v : Value) (es : List Event) : Part := fun h => ∃ ws, All [evP v ws es, All (ansO ws es)] h
/-- short answers -/
def Short (es : List Event) : Prop := ∀ e ∈ es, e.answers.length ≤ 2
section
variable {R : List Part} {h : GH} {K : Value → GH → Prop} {b : Nat} {x : Th}
theorem ansO_le : ∀ {ws : List Value} {es : List Event} {h : GH}, All (ansO ws es) h → ansP ws es h := by
  intro ws
  induction ws with
  | nil => intro es h _ i e w _ h2; simp at h2
  | cons w ws ih =>
    intro es h z i e w' h1 h2
    cases es with
    | nil => simp at h1
    | cons x es =>
      have z : All (rowP 2 w (x.answers.map Answer.enc) :: ansO ws es) h := z
      cases i with
      | zero => simp at h1 h2; subst h1; subst h2; exact All.rows z
      | succ i => exact ih z.tail i e w' (by simpa using h1) (by simpa using h2)
theorem evoP_open {C : Prop} {v : Value} {es : List Event} (hp : All (evoP v es :: R) h) (k : ∀ ws, ws.length = es.length → All (rowP 8 v (evCs es ws) :: All (ansO ws es) :: R) h → C) : C := by
  obtain ⟨ws, hp⟩ := All.ex hp
  have hp : All (evP v ws es :: All (ansO ws es) :: R) h := All.flat hp
  obtain ⟨e, hp⟩ := All.pure hp
  exact k ws e hp
theorem evoP_shut {v : Value} {ws : List Value} {es : List Event} (hl : ws.length = es.length) (hp : All (rowP 8 v (evCs es ws) :: All (ansO ws es) :: R) h) : All (evoP v es :: R) h :=
  (All.fold (l := [evP v ws es, All (ansO ws es)]) (hp.head fun _ z => ⟨hl, z⟩)).head fun h1 z => ⟨ws, z⟩
theorem evoP_evs {v : Value} {es : List Event} (hp : All (evoP v es :: R) h) : All (evsP v es :: R) h :=
  evoP_open hp fun ws hl hp => evsP_shut hl (hp.mono2 fun _ z => z.head fun _ p => ansO_le p)
theorem T_CloneAnswersR {v : Value} {xs : List Answer} (hp : All R h) (hr : ∀ h', All R h' → rowsAt h' 2 v (xs.map Answer.enc)) (hb : xs.length ≤ 1000) (hK : ∀ v' h', All (rowP 2 v' (xs.map Answer.enc) :: R) h' → K v' h') : T Tryz.prog 81 [v] h K := by
  apply S81_T
  unfold S81
  have r := hr _ hp
  obtain ⟨ad, n, cap, rfl, hl, h1, h2, hx⟩ := r
  rw [List.length_map] at hl
  cases ad with
  | none =>
    have hx0 : xs = [] := by
      cases xs with
      | nil => rfl
      | cons y ys =>
        obtain ⟨bb, off, T, pre, sz, f, e, _⟩ := hx 0 y.enc rfl
        cases e
    subst hx0
    have n0 : n = 0 := hl.symm
    subst n0
    by_cases hc : cap = 0
    · subst hc
      refine wk ?_
      exact hK _ _ (hp.emp_cons (rowP_nil 2 _))
    · refine wk ?_
      exact hK _ _ (hp.emp_cons (rowP_nil 2 _))
  | some q =>
    refine wk ?_
    refine bs0 (size := 2) hp [] rfl rfl (by simp) (fun c hc => by cases hc) fun nv h1 hp => ?_
    have hr := hr _ hp.tail
    refine ap0 hp hr (Answer.all_good xs) (by decide) (by simp; omega) fun nv' h2 hp => ?_
    exact hK _ _ hp
theorem Event.good (e : Event) {ad : Option Addr} {n c : Nat} : Go.Proofs.YtfphpafkhljncaaGreat.good 8 (e.cells (.slice ad n c)) := ⟨rfl, rfl⟩
theorem evs_good {v : Value} {es : List Event} {ws : List Value} (hp : All (rowP 8 v (evCs es ws) :: R) h) : ∀ c ∈ evCs es ws, Go.Proofs.YtfphpafkhljncaaGreat.good 8 c := hp.row.good.1
theorem T_CloneEvents {v : Value} {es : List Event} {ws : List Value} (hp : All R h) (hr : ∀ h', All R h' → rowsAt h' 8 v (evCs es ws)) (hg : ∀ c ∈ evCs es ws, Go.Proofs.YtfphpafkhljncaaGreat.good 8 c) (hb : (evCs es ws).length ≤ 1000) (hK : ∀ v' h', All (rowP 8 v' (evCs es ws) :: R) h' → K v' h') : T Tryz.prog 80 [v] h K := by
  apply S80_T
  unfold S80
  have r := hr _ hp
  obtain ⟨ad, n, cap, rfl, hl, h1, h2, hx⟩ := r
  generalize evCs es ws = cs at *
  cases ad with
  | none =>
    have hx0 : cs = [] := by
      cases cs with
      | nil => rfl
      | cons y ys =>
        obtain ⟨bb, off, T, pre, sz, f, e, _⟩ := hx 0 y rfl
        cases e
    subst hx0
    have n0 : n = 0 := hl.symm
    subst n0
    by_cases hc : cap = 0
    · subst hc
      refine wk ?_
      exact hK _ _ (hp.emp_cons (rowP_nil 8 _))
    · refine wk ?_
      exact hK _ _ (hp.emp_cons (rowP_nil 8 _))
  | some q =>
    refine wk ?_
    refine bs0 (size := 8) hp [] rfl rfl (by simp) (fun c hc => by cases hc) fun nv h1 hp => ?_
    have hr := hr _ hp.tail
    refine ap0 hp hr hg (by decide) (by simp; omega) fun nv' h2 hp => ?_
    exact hK _ _ hp
end
end Go.Proofs.YtfphpafkhljncaaGreat
namespace Go.Proofs.YtfphpafkhljncaaGreat
open Go GW Go.Proofs
attribute [local irreducible] bnd ldV stV ifV binV eqI
set_option linter.unusedVariables false
set_option linter.unusedSimpArgs false
set_option maxRecDepth 20000
def Th.stock (x : Th) : List Int := [0, x.cache.length, x.limbo.length, x.ripe.length + if x.slot = -1 then 0 else 1]
section
variable {R : List Part} {h : GH} {K : Value → GH → Prop} {b : Nat} {x : Th} {pick s : Int}
theorem ansO_app : ∀ {ws : List Value} {es : List Event} {w : Value} {e : Event}, ws.length = es.length → ansO (ws ++ [w]) (es ++ [e]) = ansO ws es ++ [rowP 2 w (e.answers.map Answer.enc)] := by
  intro ws
  induction ws with
  | nil =>
    intro es w e hl
    cases es with
    | nil => rfl
    | cons x es => simp at hl
  | cons w0 ws ih =>
    intro es w e hl
    cases es with
    | nil => simp at hl
    | cons x es =>
      show rowP 2 w0 (x.answers.map Answer.enc) :: ansO (ws ++ [w]) (es ++ [e]) = _
      rw [ih (by simpa using hl)]; rfl
theorem ansO_snoc {ws : List Value} {es : List Event} {w : Value} {e : Event} (hl : ws.length = es.length) (hp : All (rowP 2 w (e.answers.map Answer.enc) :: All (ansO ws es) :: R) h) : All (All (ansO (ws ++ [w]) (es ++ [e])) :: R) h := by
  rw [ansO_app hl]
  refine (All.fold (l := [rowP 2 w (e.answers.map Answer.enc), All (ansO ws es)]) hp).head fun h1 z => ?_
  exact All.app (Sep.mono (fun _ z => z) (fun _ z => All.one z) (Sep.comm (Sep.mono (fun _ z => z) (fun _ z => by
    obtain ⟨h3, h4, _, l3, _, p, _⟩ := z
    exact All.le l3 p) z)))
theorem T_thEvents (hp : All (thP b x :: R) h) (oe : x.evs.length ≤ 8) (os : Short x.evs) (hK : ∀ v' h', All (evoP v' x.evs :: thP b x :: R) h' → K v' h') : T Tryz.prog 31 [ptr b] h K := by
  apply S31_T
  unfold S31
  refine wk ?_
  refine thP_open hp fun v hp => ?_
  unfold thRow at hp
  refine wk ?_
  replace hp := hn (hp.up 2)
  refine evsP_open hp fun ws hl hp => ?_
  have hg := evs_good hp
  have hcl := evCs_len hl
  refine T_CloneEvents hp (fun h' hp => All.rows hp) hg (by omega) fun v' h1 hp => ?_
  have hlen : lnV v' = some (i64 x.evs.length) := by have := All.len hp; rw [hcl] at this; exact this
  refine bnd_of hlen ?_
  -- i: so many are copied; us: their answers' places, then the old ones'
  refine Lfp_fam (ι := Nat × List Value) (fun p => [v', i64 x.evs.length, i64 p.1]) (fun p h' => p.1 ≤ x.evs.length ∧ p.2.length = p.1 ∧ All (rowP 8 v' (evCs x.evs (p.2 ++ ws.drop p.1)) :: All (ansO p.2 (x.evs.take p.1)) :: rowP 8 v.ev (evCs x.evs ws) :: ansP ws x.evs :: pts b (thRow x v) :: tvP v.tv x.txns :: rowP 1 v.cv (x.cache.map encI) :: rowP 2 v.lv (x.limbo.map Ret.enc) :: rdP v.rv x.ripe :: opP entP v.ep x.ent :: opP pushP v.up x.push :: opP popP v.pp x.pop :: opP attP v.ap x.att :: opP advP v.dp x.adv :: R) h') (fun p => x.evs.length - p.1) ?_ (0, []) h1 ⟨by simp, rfl, ?_⟩
  rotate_left
  · have z := All.emp_cons (P := All (ansO [] (x.evs.take 0))) hp (by exact trivial)
    exact hn (z.re 2 [1, 0])
  clear hp
  rintro ⟨i, us⟩ h2 X ⟨hi, hu, hp⟩ again
  simp only at hi hu hp
  simp only [tup_zero, tup_succ]
  refine wk ?_
  refine ifV_cases (fun c => ?_) fun c => ?_
  · obtain ⟨e, he⟩ : ∃ e, x.evs[i]? = some e := ⟨_, List.getElem?_eq_getElem (by omega)⟩
    obtain ⟨w, hw⟩ : ∃ w, ws[i]? = some w := ⟨_, List.getElem?_eq_getElem (by omega)⟩
    have hw2 : (us ++ ws.drop i)[i]? = some w := by
      rw [List.getElem?_append_right (by omega), hu, Nat.sub_self, List.getElem?_drop, Nat.add_zero]; exact hw
    obtain ⟨eb, i1, i2, i3, i4⟩ := All.elt hp (evCs_get he hw2) .i64
    refine bnd_of i1 (bnd_of rfl (bnd_of (i2 7 1 w rfl) ?_))
    have hsh := os e (List.mem_of_getElem? he)
    refine T_CloneAnswersR hp (fun h' hp => ((hn (hp.up 3)).mono1 ansP.mono) i e w he hw) (by omega) fun w' h3 hp => ?_
    replace hp := hn (hp.re 2 [1, 0])
    refine bnd_of i1 (bnd_of rfl ?_)
    obtain ⟨ad, ln, cap, rfl⟩ := All.isSlice (hn (hp.up 1))
    refine ev_st (j := 7) hp (evCs_get he hw2) i1 rfl rfl (by decide) fun h4 hp => ?_
    have hl2 : (us ++ ws.drop i).length = x.evs.length := by rw [List.length_append, List.length_drop]; omega
    rw [show (e.cells w).set 7 (.slice ad ln cap) = e.cells (.slice ad ln cap) from rfl, evCs_set hl2, set_self he] at hp
    refine wk ?_
    refine again (i + 1, us ++ [.slice ad ln cap]) _ ⟨by simp only; omega, by simp [hu], ?_⟩ (by simp only; omega)
    have hz := ansO_snoc (e := e) (ws := us) (es := x.evs.take i) (by rw [List.length_take]; omega) (hn (hp.re 3 [1, 2, 0]))
    have e1 : x.evs.take i ++ [e] = x.evs.take (i + 1) := by rw [List.take_add_one, he]; rfl
    have hdrop : ws.drop i = w :: ws.drop (i + 1) := by
      have hlt : i < ws.length := by omega
      rw [List.drop_eq_getElem_cons hlt]
      rw [List.getElem?_eq_getElem hlt] at hw
      cases hw; rfl
    have e2 : (us ++ ws.drop i).set i (.slice ad ln cap) = us ++ [.slice ad ln cap] ++ ws.drop (i + 1) := by
      rw [List.set_append_right _ _ (by omega), hu, Nat.sub_self, hdrop, List.set_cons_zero, List.append_assoc]; rfl
    rw [e1] at hz
    rw [e2] at hz
    exact hn (hz.re 2 [1, 0])
  · have hie : i = x.evs.length := by omega
    subst hie
    have e3 : us ++ ws.drop x.evs.length = us := by rw [← hl, List.drop_length, List.append_nil]
    rw [e3, List.take_length] at hp
    refine hK _ _ ?_
    have hp := evoP_shut hu hp
    have hp := evsP_shut hl (hn (hp.re 3 [1, 2, 0]))
    have hp := hn (hp.re 12 [2, 3, 0, 4, 5, 6, 7, 8, 9, 10, 11, 1])
    have := thP_shut (v := v) hp
    exact hn (this.re 2 [1, 0])
theorem T_thStock (hp : All (thP b x :: R) h) (o : x.ok) (hK : ∀ h', All (thP b x :: R) h' → K (.agg (x.stock.map i64).toArray) h') : T Tryz.prog 32 [ptr b] h K := by
  apply S32_T
  unfold S32
  have hrl : x.ripe.length ≤ 200 := by
    have h1 := o.cap; have h2 := o.evs; have h3 := thrMay_spec o.txns; have h4 := o.t1; have h5 := o.k1
    have f : flagOf x.next ≤ 1 := by unfold flagOf; split <;> omega
    omega
  refine nw hp (.row 44 [i64 0, i64 0, i64 0, i64 0] 4 true) rfl fun v1 h1 hp => ?_
  refine wk ?_
  have hp0 := hp
  replace hp := hn (hp.re 2 [1, 0])
  refine thP_open hp fun v hp => ?_
  unfold thRow at hp
  refine wk ?_
  have l1 : lnV v.cv = some (i64 x.cache.length) := by have := All.len (hn (hp.up 3)); rw [List.length_map] at this; exact this
  have l2 : lnV v.lv = some (i64 x.limbo.length) := by have := All.len (hn (hp.up 4)); rw [List.length_map] at this; exact this
  have l3 : lnV v.rv = some (i64 x.ripe.length) := by have := (All.rd (hn (hp.up 5))).len; rw [List.length_map] at this; exact this
  refine bnd_of l1 ?_
  refine wk ?_
  refine bnd_of l2 ?_
  refine wk ?_
  refine bnd_of l3 ?_
  refine wk ?_
  clear hp
  refine nwst hp0 (.row 44 [i64 0, i64 x.cache.length, i64 x.limbo.length, i64 x.ripe.length] 4 true) rfl rfl rfl rfl fun v2 h2 hp => ?_
  have hp0 := hp
  replace hp := hn (hp.re 3 [2, 0, 1])
  refine thP_open hp fun v hp => ?_
  unfold thRow at hp
  refine wk ?_
  clear hp
  have hp := hp0
  unfold Th.stock at hK
  by_cases c : x.slot = -1
  · rw [if_pos c, Int.add_zero] at hK
    rw [decide_eq_true c]
    refine wk ?_
    refine la0 hp (c := [i64 0, i64 x.cache.length, i64 x.limbo.length, i64 x.ripe.length]) (Nat.le_refl 4) rfl ?_
    refine st1 hp (.row 44 [i64 0, i64 x.cache.length, i64 x.limbo.length, i64 x.ripe.length] 4 true) rfl (Nat.le_refl 4) rfl rfl fun h3 hp => ?_
    refine la1 hp (c := [i64 0, i64 x.cache.length, i64 x.limbo.length, i64 x.ripe.length]) (Nat.le_refl 4) rfl ?_
    exact hK _ hp.tail.tail
  · rw [if_neg c] at hK
    rw [decide_eq_false c]
    refine wk ?_
    refine st0 hp (.row 44 [i64 0, i64 x.cache.length, i64 x.limbo.length, i64 (x.ripe.length + 1)] 4 true) rfl (by simp) rfl rfl fun h3 hp => ?_
    refine la0 hp (c := [i64 0, i64 x.cache.length, i64 x.limbo.length, i64 (x.ripe.length + 1)]) (Nat.le_refl 4) rfl ?_
    refine st1 hp (.row 44 [i64 0, i64 x.cache.length, i64 x.limbo.length, i64 (x.ripe.length + 1)] 4 true) rfl (Nat.le_refl 4) rfl rfl fun h4 hp => ?_
    refine la1 hp (c := [i64 0, i64 x.cache.length, i64 x.limbo.length, i64 (x.ripe.length + 1)]) (Nat.le_refl 4) rfl ?_
    exact hK _ hp.tail.tail
end
end Go.Proofs.YtfphpafkhljncaaGreat
namespace Go.Proofs.YtfphpafkhljncaaGreat
open Go GW Go.Proofs
attribute [local irreducible] bnd ldV stV ifV binV eqI
set_option linter.unusedVariables false
set_option linter.unusedSimpArgs false
set_option maxRecDepth 20000
instance {id n k : Int} {ts : List (List Op)} : Decidable (Th.may id n k ts) := by unfold Th.may; infer_instance
/-- rows of operations that are copied -/
def opsC (cs : List (List Value)) (ts : List (List Op)) : Part := fun h => All2 (txnC h) cs ts
theorem All2.snoc {α β : Type} {R : α → β → Prop} {xs : List α} {ys : List β} {x : α} {y : β} (a : All2 R xs ys) (r : R x y) : All2 R (xs ++ [x]) (ys ++ [y]) := by
  refine ⟨by simp [a.1], fun i u v hu hv => ?_⟩
  have hl := a.1
  rw [List.getElem?_append] at hu hv
  split at hu
  · rw [if_pos (by omega)] at hv; exact a.2 i u v hu hv
  · rw [if_neg (by omega)] at hv
    have : i - xs.length = 0 := by
      rcases Nat.eq_zero_or_pos (i - xs.length) with q | q
      · exact q
      · rw [List.getElem?_eq_none (by simp; omega)] at hu; cases hu
    rw [this] at hu
    rw [← hl, this] at hv
    cases hu; cases hv; exact r
section
variable {R : List Part} {h : GH} {K : Value → GH → Prop} {b : Nat} {x : Th} {id n k : Int} {pol : Bool} {tsv : Value} {ts : List (List Op)}
theorem opsC_snoc {cs : List (List Value)} {ts : List (List Op)} {w : Value} {t : List Op} (hp : All (rowP 4 w (t.map Op.enc) :: opsC cs ts :: R) h) : All (opsC (cs ++ [[w]]) (ts ++ [t]) :: R) h := by
  refine (All.fold (l := [rowP 4 w (t.map Op.enc), opsC cs ts]) hp).head fun h1 z => ?_
  refine All2.snoc ((z.tail.mono1 (P := opsC cs ts) (fun _ _ l p => p.mono fun _ _ q => q.le l))) ⟨w, rfl, All.rows z⟩
theorem tv1_len {v : Value} {cs : List (List Value)} {ts : List (List Op)} (r : tv1 v cs ts h) : lnV v = some (i64 ts.length) ∧ ts.length ≤ 9223372036854775807 := by
  obtain ⟨r, a⟩ := r
  have := r.len
  rw [a.1] at this
  exact ⟨this, by rw [← a.1]; exact r.max⟩
theorem T_thNew (hp : All R h) {cs0 : List (List Value)} (hs : ∀ h', All R h' → tv1 tsv cs0 ts h') (kn : ¬ Th.may id n k ts → ∀ h', All R h' → K (.tuple #[.pointer none, i64 1800]) h')
    (ky : Th.may id n k ts → ∀ b h', All (thP b (.new id n k pol ts) :: R) h' → K (.tuple #[ptr b, i64 0]) h') : T Tryz.prog 27 [i64 id, i64 n, i64 k, .bool pol, tsv] h K := by
  apply S27_T
  unfold S27
  refine wk ?_
  refine ifV_cases (fun c => kn (fun m => by have := m.1; omega) _ hp) fun c => ?_
  refine wk ?_
  refine ifV_cases (fun c2 => kn (fun m => by have := m.1; omega) _ hp) fun c2 => ?_
  refine T_Below ?_
  refine wk ?_
  refine ifN_cases (fun c3 => kn (fun m => c3 m.2.1) _ hp) fun c3 => ?_
  obtain ⟨ad, ln, cap, etv⟩ : ∃ ad ln cap, tsv = .slice ad ln cap := by
    obtain ⟨⟨a, n, cap, e, _⟩, _⟩ := hs _ hp
    exact ⟨_, _, _, e⟩
  refine bs0 (size := 1) hp [[tsv]] (by rw [etv]; rfl) rfl (by simp) (fun c hc => by rw [List.mem_singleton.1 hc, etv]; exact ⟨rfl, rfl⟩) fun pv h1 hp => ?_
  refine wk ?_
  have thr : threadsAt h1 pv [ts] := ⟨[[tsv]], All.rows hp, rfl, fun i u v hu hv => by
    cases i with
    | zero =>
      simp at hu hv; subst hu; subst hv
      obtain ⟨r1, r2⟩ := hs _ hp.tail
      exact ⟨tsv, cs0, rfl, r1, r2⟩
    | succ i => simp at hu⟩
  obtain ⟨pa, pl, pc, rfl⟩ := All.isSlice hp
  refine wk ?_
  refine T_scriptMay (p := ⟨[ts], k, false⟩) thr ?_
  replace hp := hp.tail
  refine wk ?_
  cases hm : (Plan.mk [ts] k false).may with
  | false =>
    refine wk ?_
    refine kn (fun m => ?_) _ hp
    unfold Plan.may at hm
    simp only [List.length_cons, List.length_nil, List.all_cons, List.all_nil, Bool.and_true, m.2.2.2, Bool.and_true, decide_eq_false_iff_not] at hm
    exact hm ⟨by omega, by omega, m.2.2.1.1, m.2.2.1.2⟩
  | true =>
    refine wk ?_
    have hm2 : Th.may id n k ts := by
      unfold Plan.may at hm
      simp only [List.length_cons, List.length_nil, List.all_cons, List.all_nil, Bool.and_true, Bool.and_eq_true, decide_eq_true_eq] at hm
      exact ⟨by omega, c3, ⟨hm.1.2.2.1, hm.1.2.2.2⟩, hm.2⟩
    clear kn
    have ky := ky hm2
    have hts := thrMay_spec hm2.2.2.2
    unfold S27_j1
    refine wk ?_
    let V (tv : Value) : ThV := ⟨tv, .slice none 0 0, .slice none 0 0, .slice none 0 0, .slice none 0 0, .pointer none, .pointer none, .pointer none, .pointer none, .pointer none⟩
    refine nw hp (thRow { Th.new id n k pol ts with ts := 0 } (V (.slice none 0 0))) rfl fun b h2 hp => ?_
    have hlen := (tv1_len (hs _ hp.tail)).1
    refine bnd_of hlen ?_
    refine Lfp_fam (ι := Nat × Value × List (List Value)) (fun p => [ptr b, tsv, i64 ts.length, i64 p.1]) (fun p h' => p.1 ≤ ts.length ∧ All (pts b (thRow { Th.new id n k pol ts with ts := 0 } (V p.2.1)) :: rowP 1 p.2.1 p.2.2 :: opsC p.2.2 (ts.take p.1) :: R) h') (fun p => ts.length - p.1) ?_ (0, .slice none 0 0, []) h2 ⟨by simp, ?_⟩
    rotate_left
    · have z1 := All.emp_cons (P := opsC [] (ts.take 0)) hp ⟨rfl, fun i u v hu => by simp at hu⟩
      have z2 := All.emp_cons (P := rowP 1 (.slice none 0 0) []) z1 (rowP_nil _ _)
      exact hn (z2.re 3 [2, 0, 1])
    clear hp
    rintro ⟨i, tv, cs⟩ h3 X ⟨hi, hp⟩ again
    simp only at hi hp
    simp only [tup_zero, tup_succ]
    have hcl : cs.length = i := by
      have := (hn (hp.up 2)).mono1 (P := opsC cs (ts.take i)) (fun _ _ l p => p.mono fun _ _ q => q.le l)
      rw [this.1, List.length_take]; omega
    refine wk ?_
    refine ifV_cases (fun c => ?_) fun c => ?_
    · obtain ⟨t, ht⟩ : ∃ t, ts[i]? = some t := ⟨_, List.getElem?_eq_getElem (by omega)⟩
      have htm := hts.2 t (List.mem_of_getElem? ht)
      obtain ⟨ct, hct, w, rfl, hw⟩ := (hs _ hp.tail.tail.tail).2.get ht
      obtain ⟨p, d1, d2⟩ := (hs _ hp.tail.tail.tail).1.get hct .i64
      refine bnd_of d1 (bnd_of d2 ?_)
      obtain ⟨wa, wn, wc, rfl⟩ : ∃ ad ln cap, w = .slice ad ln cap := by
        obtain ⟨ad, ln, cap, e, _⟩ := hw; exact ⟨_, _, _, e⟩
      have hrow : ∀ h', All R h' → rowsAt h' 4 (.slice wa wn wc) (t.map Op.enc) := fun h' hr => by
        obtain ⟨c2, hc2, w2, e2, r2⟩ := (hs _ hr).2.get ht
        rw [hct] at hc2
        cases hc2; cases e2; exact r2
      refine nwst hp (.row 27 [.slice wa wn wc] 1 true) rfl rfl rfl rfl fun tb h4 hp => ?_
      replace hp := hn (hp.re 2 [1, 0])
      unfold thRow at hp
      refine wk ?_
      have ht2 : t.length ≤ 1000 ∧ t ≠ [] := by
        unfold Txn.may at htm
        simp only [Bool.and_eq_true, decide_eq_true_eq] at htm
        refine ⟨by omega, fun e => ?_⟩
        rw [e] at htm; simp at htm
      refine T_CloneOps hp (fun h' hp => hrow _ hp.tail.tail.tail.tail) ht2.1 ht2.2 fun nv h5 hp => ?_
      obtain ⟨na, nl, nc, rfl⟩ := All.isSlice hp
      replace hp := hn (hp.re 3 [1, 0])
      refine wk ?_
      replace hp := hn (hp.re 4 [2, 1, 3, 0])
      refine bs0 (size := 1) hp [[.slice na nl nc]] rfl rfl (by simp) (fun c hc => by rw [List.mem_singleton.1 hc]; exact ⟨rfl, rfl⟩) fun sv h6 hp => ?_
      have r2 := hp.rows
      refine ap0 (hn (hp.up 1)) r2 (fun c hc => by rw [List.mem_singleton.1 hc]; exact ⟨rfl, rfl⟩) (by decide) (by simp only [List.length_cons, List.length_nil]; omega) fun tv' h7 hp => ?_
      obtain ⟨ta, tl, tc, rfl⟩ := All.isSlice hp
      replace hp := hn (hp.re 5 [4, 0, 2, 3])
      refine wk ?_
      refine st0 hp (thRow { Th.new id n k pol ts with ts := 0 } (V (.slice ta tl tc))) rfl (Nat.le_of_ble_eq_true rfl) rfl rfl fun h8 hp => ?_
      refine wk ?_
      refine again (i + 1, .slice ta tl tc, cs ++ [[.slice na nl nc]]) _ ⟨by simp only; omega, ?_⟩ (by simp only; omega)
      have hp := opsC_snoc (hn (hp.re 4 [2, 3, 0, 1]))
      have e1 : ts.take i ++ [t] = ts.take (i + 1) := by rw [List.take_add_one, ht]; rfl
      rw [e1] at hp
      exact hn (hp.re 3 [1, 2, 0])
    · have hie : i = ts.length := by omega
      subst hie
      rw [List.take_length] at hp
      unfold thRow at hp
      refine wk ?_
      refine st0 hp (thRow (.new id n k pol ts) (V tv)) rfl (Nat.le_of_ble_eq_true rfl) rfl rfl fun h4 hp => ?_
      refine ky b _ (thP_shut (v := V tv) ?_)
      have hp := All.fold (l := [rowP 1 tv cs, opsC cs ts]) (hn (hp.re 3 [1, 2, 0]))
      have hp := hp.head (Q := tvP tv ts) fun h1 z => ⟨cs, All.rows z, z.tail.mono1 (P := opsC cs ts) (fun _ _ l p => p.mono fun _ _ q => q.le l)⟩
      have hp := opP_no (P := advP) hp
      have hp := opP_no (P := attP) hp
      have hp := opP_no (P := popP) hp
      have hp := opP_no (P := pushP) hp
      have hp := opP_no (P := entP) hp
      have hp := hp.emp_cons (P := rdP (.slice none 0 0) []) (rowsAt_nil _ _)
      have hp := hp.emp_cons (P := rowP 2 (.slice none 0 0) []) (rowP_nil _ _)
      have hp := hp.emp_cons (P := rowP 1 (.slice none 0 0) []) (rowP_nil _ _)
      have hp := hp.emp_cons (P := evsP (.slice none 0 0) []) ⟨[], All.two ⟨rfl, rowP_nil _ _⟩ fun i e w h => by simp at h⟩
      exact hn (hp.re 11 [10, 9, 0, 1, 2, 3, 4, 5, 6, 7, 8])
end
end Go.Proofs.YtfphpafkhljncaaGreat
namespace Go.Proofs.YtfphpafkhljncaaGreat
open Go GW Go.Proofs
set_option linter.unusedVariables false
set_option linter.unusedSimpArgs false
/-- no access, or one; what it writes is within P -/
inductive Acc (P : Int → Prop) (A : Ar) : Ar → Prop
  | none : Acc P A A
  | ld (i : Int) (h0 : 0 ≤ i) (h1 : i < 634) : Acc P A (A.ld i)
  | put (i x : Int) (h0 : 0 ≤ i) (h1 : i < 634) (p : P i) (hx : I64 x) : Acc P A (A.put i x)
  | cas (i o x : Int) (h0 : 0 ≤ i) (h1 : i < 634) (p : P i) (hx : I64 x) : Acc P A (A.cas i o x)
theorem Acc.mono {P Q : Int → Prop} {A B : Ar} (a : Acc P A B) (h : ∀ i, P i → Q i) : Acc Q A B := by
  cases a with
  | none => exact .none
  | ld i h0 h1 => exact .ld i h0 h1
  | put i x h0 h1 p hx => exact .put i x h0 h1 (h _ p) hx
  | cas i o x h0 h1 p hx => exact .cas i o x h0 h1 (h _ p) hx
theorem Acc.ok {P : Int → Prop} {A B : Ar} (a : Acc P A B) (o : A.ok) : B.ok := by
  cases a with
  | none => exact o
  | ld i h0 h1 => exact o.ld i
  | put i x h0 h1 p hx => exact o.put i hx
  | cas i ol x h0 h1 p hx => exact o.cas i ol hx
/-- what an access is: kind, place, what was, what is then -/
structure Ar.lok (A : Ar) : Prop where
  at0 : 0 ≤ A.last.getD 2 0
  at1 : A.last.getD 2 0 < 634
  was : I64 (A.last.getD 3 0)
  now : I64 (A.last.getD 4 0)
theorem Acc.lok {P : Int → Prop} {A B : Ar} (a : Acc P A B) (o : A.ok) (l : A.lok) : B.lok := by
  cases a with
  | none => exact l
  | ld i h0 h1 => exact ⟨Int.natCast_nonneg _, (by show ((i.toNat : Nat) : Int) < 634; omega), Ar.at_range o i, Ar.at_range o i⟩
  | put i x h0 h1 p hx => exact ⟨Int.natCast_nonneg _, (by show ((i.toNat : Nat) : Int) < 634; omega), Ar.at_range o i, hx⟩
  | cas i ol x h0 h1 p hx =>
    refine ⟨Int.natCast_nonneg _, (by show ((i.toNat : Nat) : Int) < 634; omega), Ar.at_range o i, ?_⟩
    show I64 (if A.at i = ol then x else A.at i)
    split
    · exact hx
    · exact Ar.at_range o i
/-- where attempts write -/
def inAtt (i : Int) : Prop := i < 16 ∨ 34 ≤ i
section
variable {A : Ar} {t q : Int}
theorem Wh.step_acc {w : Wh} (ok : w.ok) (hA : A.ok) (t0 : 0 ≤ t) (t1 : t < 4) (q0 : 0 ≤ q) (q1 : q < 1048576) : Acc inAtt A (w.step t q A).a := by
  obtain ⟨s, g, pc, i, k, cell, was, put, x, opn, won⟩ := w
  obtain ⟨life, i0, i1, i2, k1, k0, c0, c1, was1, put1, x1, pc1, pc0, ref⟩ := ok
  simp only at life i0 i1 i2 k1 k0 c0 c1 was1 put1 x1 pc1 pc0 ref
  have s0 := life.s0; have s1 := life.s1
  have hb : baseOf s = 34 + s * 50 := rfl
  have st : ∀ d, 0 ≤ d → d < 4 → I64 (stateW g d) := fun d h0 h1 => stateW_range life.g0 life.g1 h0 h1
  have : pc = 1 ∨ pc = 2 ∨ pc = 3 ∨ pc = 4 ∨ pc = 5 ∨ pc = 6 ∨ pc = 7 ∨ pc = 8 ∨ pc = 9 ∨ pc = 10 ∨ pc = 11 ∨ pc = 12 ∨ pc = 13 ∨ pc = 14 := by omega
  rcases this with rfl | rfl | rfl | rfl | rfl | rfl | rfl | rfl | rfl | rfl | rfl | rfl | rfl | rfl
  · exact .ld _ (by (first | omega | (simp only; omega))) (by (first | omega | (simp only; omega)))
  · exact .ld _ (by (first | omega | (simp only; omega))) (by (first | omega | (simp only; omega)))
  · have := i2 (by decide) (by decide) (by decide) (by decide); exact .ld _ (by (first | omega | (simp only; omega))) (by (first | omega | (simp only; omega)))
  · have := i2 (by decide) (by decide) (by decide) (by decide); exact .ld _ (by (first | omega | (simp only; omega))) (by (first | omega | (simp only; omega)))
  · have hi := i2 (by decide) (by decide) (by decide) (by decide)
    have hp := entry_range life i0 hi t0 t1 q0 q1
    rw [Wh.step5 rfl]
    unfold Wh.swapIn
    have key : Acc inAtt A (A.cas cell was (Form.entry s g i t q).number) := .cas _ _ _ c0 (by (first | omega | (simp only; omega))) (.inl c1) hp
    simp only
    split
    · exact key
    · split
      · exact key
      · exact key
      · exact key
      · split <;> exact key
  · exact .ld _ (by (first | omega | (simp only; omega))) (by (first | omega | (simp only; omega)))
  · refine .cas _ _ _ c0 (by (first | omega | (simp only; omega))) (.inl c1) ?_
    simp only [Wh.mine]; split
    · exact mcas_range life
    · exact was1
  · exact .cas _ _ _ (by (first | omega | (simp only; omega))) (by (first | omega | (simp only; omega))) (.inr (by (first | omega | (simp only; omega)))) (st 1 (by decide) (by decide))
  · exact .cas _ _ _ (by (first | omega | (simp only; omega))) (by (first | omega | (simp only; omega))) (.inr (by (first | omega | (simp only; omega)))) (st 2 (by decide) (by decide))
  · exact .ld _ (by (first | omega | (simp only; omega))) (by (first | omega | (simp only; omega)))
  · have := i2 (by decide) (by decide) (by decide) (by decide); exact .ld _ (by (first | omega | (simp only; omega))) (by (first | omega | (simp only; omega)))
  · have := i2 (by decide) (by decide) (by decide) (by decide)
    refine .ld _ ?_ ?_ <;> simp only <;> split <;> omega
  · exact .cas _ _ _ c0 (by (first | omega | (simp only; omega))) (.inl c1) x1
  · simp only [Wh.step]
    split <;> exact .ld _ (by (first | omega | (simp only; omega))) (by (first | omega | (simp only; omega)))
theorem En.step_acc {f : En} (ok : f.ok) (hA : A.ok) : Acc inAtt A (f.step q A).a := by
  obtain ⟨s, g, e, t', q', pc, cell, was, opn⟩ := f
  obtain ⟨life, e0, e1, t0, t1, q0', q1', c0, c1, was1, pc1⟩ := ok
  simp only at life e0 e1 t0 t1 q0' q1' c0 c1 was1 pc1
  have s0 := life.s0; have s1 := life.s1
  have hb : baseOf s = 34 + s * 50 := rfl
  have : pc = 0 ∨ pc = 1 ∨ pc = 2 ∨ pc = 3 := by omega
  rcases this with rfl | rfl | rfl | rfl
  · exact .ld _ (by (first | omega | (simp only; omega))) (by (first | omega | (simp only; omega)))
  · exact .ld _ (by (first | omega | (simp only; omega))) (by (first | omega | (simp only; omega)))
  · exact .ld _ (by (first | omega | (simp only; omega))) (by (first | omega | (simp only; omega)))
  · refine .cas _ _ _ c0 (by (first | omega | (simp only; omega))) (.inl c1) ?_
    simp only; split
    · exact mcas_range life
    · exact was1
theorem Help.step_acc {H : Help} (ok : H.ok) (hA : A.ok) : Acc inAtt A (H.step A).2.2 := by
  cases c : H.over with
  | true =>
    have e : H.step A = (H, 0, A) := by unfold Help.step; rw [c]; rfl
    rw [e]; exact .none
  | false =>
    rw [Help.step_eq c]
    obtain ⟨k1, k2, k3⟩ := ok.frames c
    show Acc inAtt A (H.top.step H.t H.q A).a
    cases ht : H.top with
    | who w => rw [ht] at k1; exact Wh.step_acc k1 hA ok.t0 ok.t1 ok.q0 ok.q1
    | ent f => rw [ht] at k1; exact En.step_acc k1 hA
theorem Rd.step_acc {r : Rd} (o : r.ok) (hA : A.ok) : Acc inAtt A (r.step A).2.2 := by
  have c0 := o.c0; have c1 := o.c1
  unfold Rd.step
  split
  · exact .none
  · split
    · rename_i H e
      exact Help.step_acc (o.help H e).1 hA
    · unfold Rd.load
      have key : Acc inAtt A (A.ld r.cell) := .ld _ c0 (by omega)
      split
      · exact key
      · split <;> exact key
/-- a writer's places -/
theorem At.step_acc {x : At} (o : x.ok) (hA : A.ok) (hw : ∀ w, x.st = .wr w → 34 ≤ w.addr) : Acc inAtt A (x.step A).2.2 := by
  unfold At.step
  split
  · exact .none
  · have hs := o.st
    split
    · rename_i r v e
      rw [e] at hs
      have key := Rd.step_acc hs.1 hA
      simp only
      split
      · exact key
      · split <;> exact key
    · rename_i w e
      rw [e] at hs
      have hs : w.ok := hs
      show Acc inAtt A (w.step A).2.2
      unfold Wr.step
      have a0 := hs.a0; have a1 := hs.a1
      split
      · exact .none
      · rename_i y r el
        rw [el] at a1
        simp only [List.length_cons] at a1
        exact .put _ _ a0 (by omega) (.inr (hw w e)) (hs.range y (by rw [el]; simp))
    · rename_i H e
      rw [e] at hs
      have key := Help.step_acc hs.1 hA
      simp only
      split <;> exact key
theorem At.step_wr {x : At} (o : x.ok) (hw : ∀ w, x.st = .wr w → 34 ≤ w.addr) : ∀ w, (x.step A).1.st = .wr w → 34 ≤ w.addr := by
  have hl := o.life
  unfold lifeMay at hl
  simp only [decide_eq_true_eq] at hl
  have asked : ∀ (y : At) m, y.slot = x.slot → ∀ w, (y.asked m).st = .wr w → 34 ≤ w.addr := by
    intro y m hy w hw
    unfold At.asked at hw
    split at hw
    · cases hw
    · cases hw; rw [hy]; show 34 ≤ 34 + x.slot * 50; omega
  unfold At.step
  split
  · exact hw
  · split
    · simp only
      split
      · intro w h; cases h
      · split
        · exact asked _ _ rfl
        · intro w h; cases h
    · rename_i w0 e
      intro w h
      simp only at h
      split at h
      · cases h
      · cases h
        have := hw w0 e
        unfold Wr.step
        split
        · exact this
        · show 34 ≤ w0.addr + 1; omega
    · simp only
      split <;> (intro w h; cases h)
theorem Ent.step_acc {n : Ent} (o : n.ok) : Acc (fun i => 30 ≤ i ∧ i < 34) A (n.step A).2.2 := by
  have := o.t0; have := o.t1; have := o.e0; have := o.e1
  unfold Ent.step
  split
  · exact .none
  · split
    · exact .put _ _ (by omega) (by omega) (by constructor <;> omega) (by constructor <;> omega)
    · split <;> exact .ld _ (by omega) (by omega)
theorem Adv.step_acc {d : Adv} (o : d.ok) : Acc (fun i => i = 29) A (d.step A).2.2 := by
  have := o.a1; have := o.n1; have := o.e0; have := o.e1
  unfold Adv.step
  split
  · exact .none
  · split
    · split <;> exact .ld _ (by omega) (by omega)
    · split
      · split <;> exact .ld _ (by omega) (by omega)
      · exact .cas _ _ _ (by omega) (by omega) rfl (by constructor <;> omega)
theorem Pop.step_acc {p : Pop} (o : p.ok) : Acc (fun i => i = 16) A (p.step A).2.2 := by
  have ol := o.l
  unfold Pop.step
  split
  · exact .none
  · rename_i hov
    have hov : p.l.over = false := by simpa using hov
    split
    · split <;> exact .ld _ (by omega) (by omega)
    · have f := o.f hov (by assumption)
      split
      · split <;> exact .ld _ (by omega) (by omega)
      · have a0 := ol.a0; have a1 := ol.a1
        have n := o.n2 hov (by omega)
        have tr := Lst.turned_range (l := p.l) ol.c0 o.n0 n
        split <;> exact .cas _ _ _ (by omega) (by omega) rfl tr
theorem Push.step_acc {p : Push} (o : p.ok) : Acc (fun i => 16 ≤ i ∧ i < 29) A (p.step A).2.2 := by
  have ol := o.l
  have s0 := o.s0; have s1 := o.s1; have f0 := ol.f0; have f1 := ol.f1
  unfold Push.step
  split
  · exact .none
  · split
    · split <;> exact .ld _ (by omega) (by omega)
    · split
      · exact .put _ _ (by omega) (by omega) (by constructor <;> omega) (by constructor <;> omega)
      · exact .cas _ _ _ (by omega) (by omega) (by constructor <;> omega) (Lst.turned_range ol.c0 (by omega) (by omega))
end
def Th.wrs (x : Th) : Prop := ∀ a, x.att = some a → ∀ w, a.st = .wr w → 34 ≤ w.addr
section
variable {A : Ar} {x : Th} {L : List Int} {pick : Int}
abbrev anyP : Int → Prop := fun _ => True
theorem Th.tris_acc (o : x.ok) (hw : x.wrs) (hA : A.ok) : Acc anyP A (x.tris A).2.2 ∧ (x.tris A).1.wrs := by
  unfold Th.tris
  cases e : x.att with
  | none => exact ⟨.none, hw⟩
  | some a =>
    refine ⟨(At.step_acc (o.att a e).1 hA (hw a e)).mono fun _ _ => trivial, fun b hb => ?_⟩
    cases hb
    exact At.step_wr (o.att a e).1 (hw a e)
theorem Th.with_wrs {s : Int} (h0 : 0 ≤ s) : (x.with_ s L).wrs := by
  intro a ha w hw
  unfold Th.with_ at ha
  simp only at ha
  split at ha
  · cases ha; cases hw
  · cases ha
theorem Th.taks_acc (o : x.ok) (hw : x.wrs) (hA : A.ok) (hn : x.next = some .tak ∨ x.next = some .fre) : Acc anyP A (x.taks A L).1.2.2 ∧ (x.taks A L).1.1.wrs := by
  have main : ∀ p : Option Pop, x.pop = p →
      let q := (p.getD .new).step A
      let r : (Th × Int × Ar) × List Int := if q.1.l.over = false ∨ q.2.1 ≠ 0 then (({ x with pop := some q.1, next := some .tak }, q.2.1, q.2.2), L) else
        if q.1.slot = -1 then (({ x with pop := none, end_ := 1, next := some .lea }, 0, q.2.2), L) else
        ((({ x with pop := none } : Th).with_ q.1.slot L, 0, q.2.2), lived q.1.slot L)
      Acc anyP A r.1.2.2 ∧ r.1.1.wrs := by
    intro p hp
    have po : (p.getD .new).ok := by
      cases p with
      | none => exact Pop.new_ok
      | some p => exact o.pop p hp
    have s := Pop.step_ok po hA
    have a : Acc anyP A ((p.getD .new).step A).2.2 := (Pop.step_acc po).mono fun _ _ => trivial
    simp only
    split
    · exact ⟨a, hw⟩
    · split
      · exact ⟨a, hw⟩
      · have h0 := s.1.s0
        exact ⟨a, Th.with_wrs (by omega)⟩
  unfold Th.taks
  cases hp : x.pop with
  | some p => exact main _ hp
  | none =>
    cases hl : x.cache.getLast? with
    | none => exact main _ hp
    | some s =>
      have hm := o.ca s (List.mem_of_getLast? hl)
      have hc := o.cap
      have hlive := o.live (.inl (by rcases hn with h | h <;> (rw [h]; simp)))
      have hc2 : x.limbo.length + x.ripe.length + 16 ≤ 16 * x.evs.length + x.tries.toNat := by
        rcases hn with h | h <;> (rw [h] at hc; simp only [restOf, flagOf] at hc; omega)
      have o1 : ({ x with cache := x.cache.dropLast, pop := none, next := some .tak } : Th).ok := { o with
        pop := fun n h => by cases h
        cl := by show (x.cache.dropLast).length ≤ 2; rw [List.length_dropLast]; have := o.cl; omega
        ca := fun s hs => o.ca s (List.dropLast_subset _ hs)
        live := fun _ => hlive
        ans := fun h => by cases h
        s2 := fun h => by rcases h with h | h <;> cases h
        cap := by simp only [restOf, flagOf]; omega }
      have := Th.with_ok (L := L) o1 rfl hm.1 hm.2
      exact Th.tris_acc this (Th.with_wrs hm.1) hA
theorem Th.fres_acc (o : x.ok) (hw : x.wrs) (hA : A.ok) (hn : x.next = some .fre) : Acc anyP A (x.fres A L).1.2.2 ∧ (x.fres A L).1.1.wrs := by
  have oc := Th.cached_ok o
  have hn' : x.cached.next = some .fre := by rw [Th.cached_next]; exact hn
  have hw' : x.cached.wrs := by unfold Th.cached; split <;> exact hw
  unfold Th.fres
  simp only
  generalize x.cached = y at oc hn' hw' ⊢
  split
  · exact Th.taks_acc oc hw' hA (.inr hn')
  · rename_i s r hr
    have hm := oc.ri s (by rw [hr]; simp)
    have po : (y.push.getD (.new s)).ok := by
      cases hp : y.push with
      | none => exact Push.new_ok hm.1 hm.2
      | some p => exact oc.push p hp
    have a : Acc anyP A ((y.push.getD (.new s)).step A).2.2 := (Push.step_acc po).mono fun _ _ => trivial
    split <;> exact ⟨a, hw'⟩
theorem Th.act_acc {a : Act} (o : x.ok) (hw : x.wrs) (hA : A.ok) (hn : x.next = some a) : Acc anyP A (x.act A L pick a).1.2.2 ∧ (x.act A L pick a).1.1.wrs := by
  cases a with
  | ent =>
    unfold Th.act Th.ents
    cases e : x.ent with
    | none => exact ⟨.none, hw⟩
    | some n =>
      have a : Acc anyP A (n.step A).2.2 := (Ent.step_acc (o.ent n e)).mono fun _ _ => trivial
      simp only
      split <;> exact ⟨a, hw⟩
  | fre => exact Th.fres_acc o hw hA hn
  | tak => exact Th.taks_acc o hw hA (.inl hn)
  | tri => exact Th.tris_acc o hw hA
  | ret =>
    unfold Th.act Th.rets
    simp only
    split <;> exact ⟨.ld _ (by omega) (by omega), hw⟩
  | lea =>
    have i0 := o.i0; have i1 := o.i1; have n1 := o.n1
    exact ⟨.put _ _ (by omega) (by omega) trivial zero64, hw⟩
  | adv =>
    unfold Th.act Th.advs
    cases e : x.adv with
    | none => exact ⟨.none, hw⟩
    | some d =>
      have a : Acc anyP A (d.step A).2.2 := (Adv.step_acc (o.adv d e)).mono fun _ _ => trivial
      simp only
      split
      · refine ⟨a, ?_⟩
        unfold Th.answer
        split <;> exact hw
      · exact ⟨a, hw⟩
theorem Th.ended_acc {r : (Th × Int × Ar) × List Int} (h : Acc anyP A r.1.2.2 ∧ r.1.1.wrs) : Acc anyP A (Th.ended r).2.2.2.1 ∧ (Th.ended r).1.wrs := by
  unfold Th.ended
  split <;> exact h
theorem Th.step_acc (o : x.ok) (hw : x.wrs) (hA : A.ok) : Acc anyP A (x.step A L pick).2.2.2.1 ∧ (x.step A L pick).1.wrs := by
  unfold Th.step
  split
  · exact ⟨.none, hw⟩
  · have o1 : ({ x with ts := -1, tg := 0 } : Th).ok := { o with }
    simp only
    split
    · rename_i a e
      exact Th.ended_acc (Th.act_acc o1 hw hA e)
    · rename_i e
      have b := Th.begin_ok (pick := pick) o1 e
      have bw : (({ x with ts := -1, tg := 0 } : Th).begin pick).1.wrs := by
        unfold Th.begin
        split
        · exact hw
        · split <;> exact hw
      split
      · rename_i q
        exact Th.ended_acc (Th.act_acc b.1 bw hA (b.2 q))
      · exact ⟨.none, bw⟩
end
section
variable {A : Ar} {x : Th} {L : List Int} {pick : Int}
theorem Help.step_slot {H : Help} (ok : H.ok) (ho : H.over = false) : 0 ≤ (H.step A).1.slot ∧ (H.step A).1.slot < 12 := by
  rw [Help.step_eq ho]
  have hl := Fr.life (ok.frames ho).1
  have key : ∀ o : Out, (H.take o).1.slot = H.top.s := by
    intro o
    unfold Help.take
    simp only
    split
    · rfl
    · split
      · split <;> rfl
      · split
        · rfl
        · split <;> rfl
  show 0 ≤ (H.take _).1.slot ∧ (H.take _).1.slot < 12
  rw [key]
  exact ⟨hl.s0, hl.s1⟩
theorem Rd.step_slot {r : Rd} (ok : r.ok) (ho : r.over = false) : -1 ≤ (r.step A).1.slot ∧ (r.step A).1.slot < 12 := by
  unfold Rd.step
  rw [if_neg (by rw [ho]; decide)]
  split
  · rename_i H e
    have h := ok.help H e
    have := Help.step_slot (A := A) h.1 h.2
    exact ⟨by show -1 ≤ (H.step A).1.slot; omega, this.2⟩
  · unfold Rd.load
    split
    · exact ⟨Int.le_refl (-1), by show (-1 : Int) < 12; decide⟩
    · split <;> exact ⟨Int.le_refl (-1), by show (-1 : Int) < 12; decide⟩
def At.tsr (a : At) : Prop := -1 ≤ a.ts ∧ a.ts < 12
theorem At.step_tsr {a : At} (o : a.ok) (h : a.tsr) : (a.step A).1.tsr := by
  have hl := o.life
  unfold lifeMay at hl
  simp only [decide_eq_true_eq] at hl
  have asked : ∀ (y : At) m, y.tsr → (y.asked m).tsr := by
    intro y m hy
    unfold At.asked
    split <;> exact hy
  unfold At.step
  split
  · exact h
  · rename_i ho
    have ho : a.over = false := by simpa using ho
    have hs := o.st
    split
    · rename_i r v e
      rw [e] at hs
      have key := Rd.step_slot (A := A) hs.1 (hs.2.2 ho)
      simp only
      split
      · exact key
      · split
        · exact asked _ _ key
        · exact key
    · exact ⟨by show -1 ≤ a.slot; omega, hl.2.1⟩
    · rename_i H e
      rw [e] at hs
      have key := Help.step_slot (A := A) hs.1 (hs.2 ho)
      simp only
      split
      · exact ⟨by show -1 ≤ (H.step A).1.slot; omega, key.2⟩
      · exact ⟨by show -1 ≤ (H.step A).1.slot; omega, key.2⟩
def Th.tsr (x : Th) : Prop := (-1 ≤ x.ts ∧ x.ts < 12) ∧ ∀ a, x.att = some a → a.tsr
theorem Th.tris_tsr (o : ∀ n, x.att = some n → n.ok) (h : x.tsr) : (x.tris A).1.tsr := by
  unfold Th.tris
  cases e : x.att with
  | none => exact h
  | some a =>
    have := At.step_tsr (A := A) (o a e) (h.2 a e)
    exact ⟨this, fun b hb => by cases hb; exact this⟩
theorem Th.with_tsr {s : Int} (h : x.tsr) : (x.with_ s L).tsr := by
  refine ⟨h.1, fun a ha => ?_⟩
  unfold Th.with_ at ha
  simp only at ha
  split at ha
  · cases ha; exact ⟨Int.le_refl (-1), by show (-1 : Int) < 12; decide⟩
  · cases ha
theorem Th.taks_tsr (h : x.tsr) : (x.taks A L).1.1.tsr := by
  unfold Th.taks
  split
  · refine Th.tris_tsr (fun n hn => ?_) (Th.with_tsr h)
    unfold Th.with_ at hn
    simp only at hn
    split at hn
    · rename_i m; cases hn; exact At.new_ok m
    · cases hn
  · simp only
    split
    · exact h
    · split
      · exact h
      · exact Th.with_tsr h
theorem Th.act_tsr {a : Act} (o : x.ok) (h : x.tsr) : (x.act A L pick a).1.1.tsr := by
  cases a with
  | ent =>
    show (x.ents A).1.tsr
    unfold Th.ents
    cases x.ent with
    | none => exact h
    | some n => simp only; split <;> exact h
  | fre =>
    show (x.fres A L).1.1.tsr
    unfold Th.fres
    have hc : x.cached.tsr := by unfold Th.cached; split <;> exact h
    simp only
    split
    · exact Th.taks_tsr hc
    · split <;> exact hc
  | tak => exact Th.taks_tsr h
  | tri => exact Th.tris_tsr (fun n hn => (o.att n hn).1) h
  | ret => show (x.rets A).1.tsr; unfold Th.rets; split <;> exact h
  | lea => exact h
  | adv =>
    show (x.advs A pick).1.tsr
    unfold Th.advs
    cases x.adv with
    | none => exact h
    | some d =>
      simp only
      split
      · unfold Th.answer; split <;> exact h
      · exact h
theorem Th.ended_tsr {r : (Th × Int × Ar) × List Int} (h : r.1.1.tsr) : (Th.ended r).1.tsr := by unfold Th.ended; split <;> exact h
theorem Th.step_tsr (o : x.ok) (h : x.tsr) : (x.step A L pick).1.tsr := by
  unfold Th.step
  split
  · exact h
  · have o1 : ({ x with ts := -1, tg := 0 } : Th).ok := { o with }
    have h1 : ({ x with ts := -1, tg := 0 } : Th).tsr := ⟨⟨Int.le_refl (-1), by show (-1 : Int) < 12; decide⟩, h.2⟩
    simp only
    split
    · exact Th.ended_tsr (Th.act_tsr o1 h1)
    · rename_i e
      have b := Th.begin_ok (pick := pick) o1 e
      have bw : (({ x with ts := -1, tg := 0 } : Th).begin pick).1.tsr := by
        unfold Th.begin
        split
        · exact h1
        · split <;> exact h1
      split
      · exact Th.ended_tsr (Th.act_tsr b.1 bw)
      · exact bw
theorem Th.decide_tsr {s : Int} (h : x.tsr) : (x.decide s pick).tsr := by unfold Th.decide; split <;> exact h
end
end Go.Proofs.YtfphpafkhljncaaGreat
namespace Go.Proofs.YtfphpafkhljncaaGreat
open Go GW Go.Proofs
set_option linter.unusedVariables false
set_option linter.unusedSimpArgs false
structure Touch where
  thread : Int
  kind : Int
  at_ : Int
  was : Int
  now : Int
  slot : Int
  gen : Int
  live : Int
def Touch.ints (t : Touch) : List Int := [t.thread, t.kind, t.at_, t.was, t.now, t.slot, t.gen, t.live]
def Touch.enc (t : Touch) : List Value := [i64 t.thread, i64 t.kind, i64 t.at_, i64 t.was, i64 t.now, i64 t.slot, i64 t.gen, i64 t.live]
theorem Touch.ext_ints {a b : Touch} (h : a.ints = b.ints) : a = b := by
  cases a; cases b; simpa [Touch.ints] using h
instance : DecidableEq Touch := fun a b => if h : a.ints = b.ints then .isTrue (Touch.ext_ints h) else .isFalse fun e => h (by rw [e])
theorem Touch.enc_good (t : Touch) : good 8 t.enc := ⟨rfl, rfl⟩
theorem Touch.all_good (ts : List Touch) : ∀ c ∈ ts.map Touch.enc, good 8 c := by
  intro c hc
  obtain ⟨t, _, rfl⟩ := List.mem_map.1 hc
  exact t.enc_good
theorem Touch.eqLaw (a b : Touch) : eqP Tryz.prog 10000 60 (.agg a.enc.toArray) (.agg b.enc.toArray) = some (decide (a = b)) := by
  have h : eqP Tryz.prog 10000 60 (.agg a.enc.toArray) (.agg b.enc.toArray) = some ((a.thread == b.thread) && ((a.kind == b.kind) && ((a.at_ == b.at_) && ((a.was == b.was) && ((a.now == b.now) && ((a.slot == b.slot) && ((a.gen == b.gen) && ((a.live == b.live) && true)))))))) := by kernel_rfl
  rw [h]
  cases a; cases b
  simp [Bool.decide_and, Bool.beq_eq_decide_eq]
end Go.Proofs.YtfphpafkhljncaaGreat
namespace Go.Proofs.YtfphpafkhljncaaGreat
open Go GW Go.Proofs
set_option linter.unusedVariables false
set_option linter.unusedSimpArgs false
structure Mc where
  A : Ar
  ths : List Th
  L : List Int
  picks : Int
  ts : List Touch
def Mc.threads : Int → Int → Int → Bool → List (List (List Op)) → List Th
  | _, _, _, _, [] => []
  | i, n, k, pol, t :: ts => Th.new i n k pol t :: Mc.threads (i + 1) n k pol ts
def Mc.new (p : Plan) : Mc := ⟨newAr, Mc.threads 0 p.threads.length p.attempts p.polite p.threads, List.replicate 12 0, 0, []⟩
/-- the access that was the last one, as a thread's -/
def Ar.lst (A : Ar) (i : Nat) : Int := A.last.getD i 0
def noteT (A : Ar) (L : List Int) (k : Int) (x : Th) : Touch := ⟨k, A.lst 1, A.lst 2, A.lst 3, A.lst 4, x.ts, x.tg, if 0 ≤ x.ts then L.getD x.ts.toNat 0 else A.lst 7⟩
/-- the slot whose descriptor an access let win -/
def Touch.dec (t : Touch) : Option Int :=
  if t.kind ≠ 2 ∨ t.was = t.now ∨ t.at_ < 34 ∨ t.at_ ≠ baseOf ((t.at_ - 34) / 50) ∨ (plainOf t.now).isSome = false then none else
  if t.now = stateW (valOf t.now / 4) 1 then some ((t.at_ - 34) / 50) else none
def decAll (t : Touch) (pick : Int) (xs : List Th) : List Th := match t.dec with
  | some s => xs.map fun x => x.decide s pick
  | none => xs
def Mc.pick (M : Mc) (k : Int) : Mc × Bool × Int :=
  if ¬ (0 ≤ k ∧ k < M.ths.length) ∨ 65536 ≤ M.picks then (M, false, 1900) else
  match M.ths[k.toNat]? with
  | none => (M, false, 1900)
  | some x =>
    let o := x.step M.A M.L M.picks
    let xs := M.ths.set k.toNat o.1
    let t := noteT o.2.2.2.1 o.2.2.2.2 k o.1
    ({ A := o.2.2.2.1, ths := if o.2.1 then decAll t M.picks xs else xs, L := o.2.2.2.2, picks := M.picks + 1, ts := if o.2.1 then M.ts ++ [t] else M.ts }, o.2.1, if o.2.2.1 = 0 then 0 else 1900)
def Mc.done (M : Mc) : Bool := M.ths.all Th.done
def Mc.events (M : Mc) : List Event := M.ths.flatMap Th.evs
structure Mc.ok (M : Mc) : Prop where
  A : M.A.ok
  l : M.A.lok
  ths : ∀ x ∈ M.ths, x.ok ∧ x.wrs ∧ Short x.evs ∧ x.tsr
  n : M.ths.length ≤ 4
  L : M.L.length = 12
  L2 : ∀ y ∈ M.L, 0 ≤ y ∧ y ≤ M.picks
  p0 : 0 ≤ M.picks
  p1 : M.picks ≤ 65536
  ts : (M.ts.length : Int) ≤ M.picks
theorem newAr_lok : newAr.lok := ⟨by decide, by decide, by constructor <;> decide, by constructor <;> decide⟩
theorem Mc.threads_mem : ∀ {ts : List (List (List Op))} {i n k : Int} {pol : Bool} {x : Th}, x ∈ Mc.threads i n k pol ts → ∃ (j : Nat) (t : List (List Op)), ts[j]? = some t ∧ x = Th.new (i + j) n k pol t := by
  intro ts
  induction ts with
  | nil => intro i n k pol x h; cases h
  | cons t ts ih =>
    intro i n k pol x h
    rcases List.mem_cons.1 h with rfl | h
    · exact ⟨0, t, rfl, by simp⟩
    · obtain ⟨j, t', h1, h2⟩ := ih h
      refine ⟨j + 1, t', h1, ?_⟩
      rw [h2]; congr 1; omega
theorem Mc.threads_len : ∀ {ts : List (List (List Op))} {i n k : Int} {pol : Bool}, (Mc.threads i n k pol ts).length = ts.length := by
  intro ts
  induction ts with
  | nil => intros; rfl
  | cons t ts ih => intro i n k pol; simp [Mc.threads, ih]
theorem Plan.may_spec {p : Plan} (h : p.may = true) : 1 ≤ p.threads.length ∧ p.threads.length ≤ 4 ∧ 1 ≤ p.attempts ∧ p.attempts ≤ 16 ∧ ∀ t ∈ p.threads, thrMay t = true := by
  unfold Plan.may at h
  simp only [Bool.and_eq_true, decide_eq_true_eq, List.all_eq_true] at h
  exact ⟨h.1.1, h.1.2.1, h.1.2.2.1, h.1.2.2.2, h.2⟩
theorem Mc.new_ok {p : Plan} (h : p.may = true) : (Mc.new p).ok := by
  obtain ⟨h1, h2, h3, h4, h5⟩ := Plan.may_spec h
  refine ⟨newAr_ok, newAr_lok, fun x hx => ?_, by show (Mc.threads _ _ _ _ _).length ≤ 4; rw [Mc.threads_len]; exact h2, rfl, fun y hy => ?_, Int.le_refl 0, (by show (0 : Int) ≤ 65536; decide), Int.le_refl 0⟩
  · obtain ⟨j, t, e1, rfl⟩ := Mc.threads_mem hx
    have hj := (List.getElem?_eq_some_iff.1 e1).1
    refine ⟨Th.new_ok ⟨by omega, by omega, ⟨h3, h4⟩, h5 t (List.mem_of_getElem? e1)⟩, (fun a h => by cases h), (fun e h => by cases h), ⟨⟨Int.le_refl (-1), by show (-1 : Int) < 12; decide⟩, fun a h => by cases h⟩⟩
  · have : y = 0 := List.eq_of_mem_replicate (n := 12) hy
    subst this
    exact ⟨Int.le_refl 0, Int.le_refl 0⟩
section
variable {A : Ar} {x : Th} {L : List Int} {pick s : Int}
theorem evTurn_mem {es : List Event} {f : Event → Event} {e : Event} (h : e ∈ evTurn es f) : e ∈ es ∨ ∃ e0 ∈ es, e = f e0 := by
  obtain ⟨i, hi, he⟩ := List.mem_iff_getElem.1 h
  obtain ⟨e0, h1, h2⟩ := evTurn_get (show (evTurn es f)[i]? = some e by rw [List.getElem?_eq_getElem hi, he])
  rcases h2 with ⟨rfl, _⟩ | ⟨rfl, _⟩
  · exact .inl (List.mem_of_getElem? h1)
  · exact .inr ⟨e0, List.mem_of_getElem? h1, rfl⟩
theorem Th.answer_short (o : ∀ n, x.att = some n → n.ans.length ≤ 2) (h : Short x.evs) : Short (x.answer pick).evs := by
  unfold Th.answer
  split
  · intro e he
    rcases evTurn_mem he with h1 | ⟨e0, h1, rfl⟩
    · exact h e h1
    · exact h e0 h1
  · intro e he
    rcases evTurn_mem he with h1 | ⟨e0, h1, rfl⟩
    · exact h e h1
    · simp only
      split
      · cases ha : x.att with
        | none => simp
        | some n => exact o n ha
      · exact h e0 h1
/-- an action that is not the last one turns no event -/
theorem Th.act_evs {a : Act} (h : a ≠ .adv) : (x.act A L pick a).1.1.evs = x.evs := by
  have tris : ∀ y : Th, (y.tris A).1.evs = y.evs := fun y => by unfold Th.tris; split <;> rfl
  have taks : ∀ y : Th, (y.taks A L).1.1.evs = y.evs := fun y => by
    unfold Th.taks
    split
    · rw [tris]; rfl
    · simp only
      split
      · rfl
      · split <;> rfl
  cases a with
  | ent =>
    show (x.ents A).1.evs = x.evs
    unfold Th.ents
    cases x.ent with
    | none => rfl
    | some n => simp only; split <;> rfl
  | fre =>
    unfold Th.act Th.fres
    have hc : x.cached.evs = x.evs := by unfold Th.cached; split <;> rfl
    simp only
    split
    · rw [taks, hc]
    · split <;> exact hc
  | tak => exact taks x
  | tri => exact tris x
  | ret => show (x.rets A).1.evs = x.evs; unfold Th.rets; split <;> rfl
  | lea => rfl
  | adv => exact absurd rfl h
theorem Th.act_short {a : Act} (o : x.ok) (h : Short x.evs) : Short (x.act A L pick a).1.1.evs := by
  by_cases e : a = .adv
  · subst e
    unfold Th.act Th.advs
    cases hd : x.adv with
    | none => exact h
    | some d =>
      simp only
      split
      · exact Th.answer_short (x := { x with adv := some (d.step A).1 }) (fun n hn => (o.att n hn).2) h
      · exact h
  · rw [Th.act_evs e]; exact h
theorem Th.ended_evs {r : (Th × Int × Ar) × List Int} : (Th.ended r).1.evs = r.1.1.evs := by unfold Th.ended; split <;> rfl
theorem Th.begin_short (h : Short x.evs) : Short (x.begin pick).1.evs := by
  unfold Th.begin
  split
  · exact h
  · split
    · exact h
    · simp only
      split
      · intro e he
        rcases List.mem_append.1 he with h1 | h1
        · exact h e h1
        · rw [List.mem_singleton.1 h1]; exact Nat.zero_le 2
      · exact h
theorem Th.step_short (o : x.ok) (h : Short x.evs) : Short (x.step A L pick).1.evs := by
  cases hd : x.dead with
  | true => rw [Th.step_dead hd]; exact h
  | false =>
    have o1 : x.z.ok := { o with }
    cases hx : x.next with
    | some a => rw [Th.step_some hd hx, Th.ended_evs]; exact Th.act_short o1 h
    | none =>
      rw [Th.step_none hd hx]
      have b := Th.begin_ok (pick := pick) o1 hx
      have bs := Th.begin_short (pick := pick) (x := x.z) h
      split
      · rw [Th.ended_evs]; exact Th.act_short b.1 bs
      · exact bs
theorem Th.decide_short (h : Short x.evs) : Short (x.decide s pick).evs := by
  unfold Th.decide
  split
  · intro e he
    rcases evTurn_mem he with h1 | ⟨e0, h1, rfl⟩
    · exact h e h1
    · exact h e0 h1
  · exact h
/-- lives: one at most is one more -/
theorem Th.step_lives : (x.step A L pick).2.2.2.2 = L ∨ ∃ s, (x.step A L pick).2.2.2.2 = lived s L := by
  have taks : ∀ y : Th, (y.taks A L).2 = L ∨ ∃ s, (y.taks A L).2 = lived s L := fun y => by
    unfold Th.taks
    split
    · exact .inr ⟨_, rfl⟩
    · simp only
      split
      · exact .inl rfl
      · split
        · exact .inl rfl
        · exact .inr ⟨_, rfl⟩
  have act : ∀ (y : Th) a, (y.act A L pick a).2 = L ∨ ∃ s, (y.act A L pick a).2 = lived s L := fun y a => by
    cases a with
    | fre =>
      unfold Th.act Th.fres
      simp only
      split
      · exact taks _
      · split <;> exact .inl rfl
    | tak => exact taks _
    | _ => exact .inl rfl
  have ended : ∀ r : (Th × Int × Ar) × List Int, (Th.ended r).2.2.2.2 = r.2 := fun r => by unfold Th.ended; split <;> rfl
  cases hd : x.dead with
  | true => rw [Th.step_dead hd]; exact .inl rfl
  | false =>
    cases hx : x.next with
    | some a => rw [Th.step_some hd hx, ended]; exact act _ _
    | none =>
      rw [Th.step_none hd hx]
      split
      · rw [ended]; exact act _ _
      · exact .inl rfl
theorem Th.decide_wrs (h : x.wrs) : (x.decide s pick).wrs := by unfold Th.decide; split <;> exact h
end
theorem decAll_len {t : Touch} {pick : Int} {xs : List Th} : (decAll t pick xs).length = xs.length := by
  unfold decAll; split
  · rw [List.length_map]
  · rfl
theorem Mc.pick_ok {M : Mc} {k : Int} (o : M.ok) : (M.pick k).1.ok := by
  unfold Mc.pick
  split
  · exact o
  · rename_i c
    split
    · exact o
    · rename_i x hx
      have hp : M.picks < 65536 := by omega
      have ox := o.ths x (List.mem_of_getElem? hx)
      have s := Th.step_ok (L := M.L) ox.1 o.A o.p0
      have a := Th.step_acc (L := M.L) (pick := M.picks) ox.1 ox.2.1 o.A
      have hs := Th.step_short (A := M.A) (L := M.L) (pick := M.picks) ox.1 ox.2.2.1
      have ht := Th.step_tsr (A := M.A) (L := M.L) (pick := M.picks) ox.1 ox.2.2.2
      have hl := Th.step_lives (A := M.A) (x := x) (L := M.L) (pick := M.picks)
      generalize x.step M.A M.L M.picks = r at s a hs hl ht
      simp only
      have base : ∀ y ∈ M.ths.set k.toNat r.1, y.ok ∧ y.wrs ∧ Short y.evs ∧ y.tsr := fun y hy => by
        rcases List.mem_or_eq_of_mem_set hy with q | q
        · exact o.ths y q
        · subst q; exact ⟨s.1, a.2, hs, ht⟩
      refine ⟨s.2, a.1.lok o.A o.l, fun y hy => ?_, ?_, ?_, fun y hy => ?_, (by have := o.p0; show 0 ≤ M.picks + 1; omega), (by show M.picks + 1 ≤ 65536; omega), ?_⟩
      · simp only at hy
        split at hy
        · unfold decAll at hy
          split at hy
          · obtain ⟨z, hz, rfl⟩ := List.mem_map.1 hy
            have := base z hz
            exact ⟨Th.decide_ok this.1, Th.decide_wrs this.2.1, Th.decide_short this.2.2.1, Th.decide_tsr this.2.2.2⟩
          · exact base y hy
        · exact base y hy
      · show (if r.2.1 = true then decAll _ _ _ else _ : List Th).length ≤ 4
        have := o.n
        split
        · rw [decAll_len, List.length_set]; exact this
        · rw [List.length_set]; exact this
      · show r.2.2.2.2.length = 12
        have := o.L
        rcases hl with e | ⟨s, e⟩
        · rw [e]; exact this
        · rw [e]; unfold lived; rw [List.length_set]; exact this
      · show 0 ≤ y ∧ y ≤ M.picks + 1
        simp only at hy
        have old : ∀ z ∈ M.L, 0 ≤ z ∧ z ≤ M.picks + 1 := fun z hz => by have := o.L2 z hz; omega
        rcases hl with e | ⟨s, e⟩
        · rw [e] at hy; exact old y hy
        · rw [e] at hy
          unfold lived at hy
          rcases List.mem_or_eq_of_mem_set hy with q | q
          · exact old y q
          · rw [q, List.getD_eq_getElem?_getD]
            have p0 := o.p0
            cases hg : M.L[s.toNat]? with
            | none => simp only [Option.getD_none]; omega
            | some z => have := o.L2 z (List.mem_of_getElem? hg); simp only [Option.getD_some]; omega
      · show ((if r.2.1 = true then M.ts ++ [_] else M.ts : List Touch).length : Int) ≤ M.picks + 1
        have := o.ts
        split
        · simp only [List.length_append, List.length_singleton]; omega
        · omega
end Go.Proofs.YtfphpafkhljncaaGreat
namespace Go.Proofs.YtfphpafkhljncaaGreat
open Go GW Go.Proofs
attribute [local irreducible] bnd ldV stV ifV binV eqI
set_option linter.unusedVariables false
set_option linter.unusedSimpArgs false
set_option maxRecDepth 20000
section
variable {a b : Nat} {R : List Part} {h : GH} {K : Value → GH → Prop} {M : Mc} {k : Int}
theorem Th.ok.evs8 {x : Th} (o : x.ok) : x.evs.length ≤ 8 := by have := o.evs; have := thrMay_spec o.txns; omega
end
end Go.Proofs.YtfphpafkhljncaaGreat
namespace Go.Proofs.YtfphpafkhljncaaGreat
open Go GW Go.Proofs
attribute [local irreducible] bnd ldV stV ifV binV eqI
set_option linter.unusedVariables false
set_option linter.unusedSimpArgs false
set_option maxRecDepth 20000
theorem All2.nil {α β : Type} {R : α → β → Prop} : All2 R [] [] := ⟨rfl, fun i x y h => by simp at h⟩
theorem All2.cons {α β : Type} {R : α → β → Prop} {x : α} {y : β} {xs : List α} {ys : List β} (r : R x y) (a : All2 R xs ys) : All2 R (x :: xs) (y :: ys) := by
  refine ⟨by simp [a.1], fun i u v hu hv => ?_⟩
  cases i with
  | zero => simp at hu hv; subst hu; subst hv; exact r
  | succ i => exact a.2 i u v (by simpa using hu) (by simpa using hv)
/-- a part that is read from now on -/
theorem All.base {P : Part} {R : List Part} {h : GH} (hp : All (P :: R) h) : ∃ g, P g ∧ All (baseP g :: R) h := by
  obtain ⟨h1, h2, d, l1, l2, p, q⟩ := hp
  exact ⟨h1, p, h1, h2, d, l1, l2, HLe.refl _, q⟩
theorem All.baseLe {g : GH} {R : List Part} {h : GH} (hp : All (baseP g :: R) h) : HLe g h := by
  obtain ⟨h1, h2, d, l1, l2, p, q⟩ := hp
  exact HLe.trans p l1
section
variable {a b : Nat} {R : List Part} {h g : GH} {K : Value → GH → Prop} {M : Mc} {k : Int} {v : Value} {p : Plan}
end
end Go.Proofs.YtfphpafkhljncaaGreat
namespace Go.Proofs.YtfphpafkhljncaaGreat
open Go GW Go.Proofs
set_option linter.unusedVariables false
set_option linter.unusedSimpArgs false
/-- an access: what was there, what is then -/
def Acd (A B : Ar) : Prop := ∃ k i was now, 0 ≤ i ∧ i < 634 ∧ was = A.at i ∧ (k = 0 → now = was) ∧ B = A.touch k i.toNat was now
theorem Acd.ld (A : Ar) {i : Int} (h0 : 0 ≤ i) (h1 : i < 634) : Acd A (A.ld i) := ⟨0, i, A.at i, A.at i, h0, h1, rfl, fun _ => rfl, rfl⟩
theorem Acd.put (A : Ar) {i : Int} (x : Int) (h0 : 0 ≤ i) (h1 : i < 634) : Acd A (A.put i x) := ⟨1, i, A.at i, x, h0, h1, rfl, (fun h => by cases h), rfl⟩
theorem Acd.cas (A : Ar) {i : Int} (o x : Int) (h0 : 0 ≤ i) (h1 : i < 634) : Acd A (A.cas i o x) := ⟨2, i, A.at i, _, h0, h1, rfl, (fun h => by cases h), rfl⟩
section
variable {A : Ar} {t q : Int}
/-- it goes on -/
def At.on (x : At) : Prop := x.over = false ∧ ∀ w, x.st = .wr w → w.left ≠ []
end
/-- what it goes through is under way -/
structure Th.on (x : Th) : Prop where
  ent : x.next = some .ent → ∃ n, x.ent = some n ∧ n.over = false
  adv : x.next = some .adv → ∃ d, x.adv = some d ∧ d.over = false
  tri : x.next = some .tri → ∃ a, x.att = some a ∧ a.on
  pop : ∀ p, x.pop = some p → p.l.over = false
  push : ∀ p, x.push = some p → p.l.over = false
section
variable {A : Ar} {x : Th} {L : List Int} {pick : Int}
theorem Ent.step_err {n : Ent} (h : n.over = false) (h2 : (n.step A).1.over = true) (h3 : (n.step A).2.1 ≠ 0) : True := trivial
end
end Go.Proofs.YtfphpafkhljncaaGreat
namespace Go.Proofs.YtfphpafkhljncaaGreat
open Go GW Go.Proofs
attribute [local irreducible] bnd ldV stV ifV binV eqI
set_option linter.unusedVariables false
set_option linter.unusedSimpArgs false
set_option maxRecDepth 20000
theorem Event.ext8 {a b : Event} : a = b ↔ a.thread = b.thread ∧ a.index = b.index ∧ a.begun = b.begun ∧ a.decided = b.decided ∧ a.answered = b.answered ∧ a.end_ = b.end_ ∧ a.attempts = b.attempts ∧ a.answers = b.answers := by
  cases a; cases b; simp
instance : DecidableEq Event := fun a b => decidable_of_iff _ Event.ext8.symm
section
variable {a b : Nat} {R : List Part} {h g : GH} {K : Value → GH → Prop} {v w : Value} {es fs : List Event} {us ws : List Value}
end
end Go.Proofs.YtfphpafkhljncaaGreat
namespace Go.Proofs.YtfphpafkhljncaaGreat
open Go GW Go.Proofs
set_option linter.unusedVariables false
set_option linter.unusedSimpArgs false
set_option maxRecDepth 20000
/-- touches of so many threads lead from words to words -/
def Rep (n : Int) : List Int → List Touch → List Int → Prop
  | ws, [], ws' => ws = ws'
  | ws, t :: ts, ws' => (0 ≤ t.at_ ∧ t.at_ < 634 ∧ ws[t.at_.toNat]? = some t.was ∧ (t.kind = 0 → t.now = t.was) ∧ 0 ≤ t.thread ∧ t.thread < n) ∧ Rep n (ws.set t.at_.toNat t.now) ts ws'
theorem Rep.snoc {n : Int} : ∀ {ts : List Touch} {ws ws' : List Int} {t : Touch}, Rep n ws ts ws' → 0 ≤ t.at_ → t.at_ < 634 → ws'[t.at_.toNat]? = some t.was → (t.kind = 0 → t.now = t.was) → 0 ≤ t.thread → t.thread < n → Rep n ws (ts ++ [t]) (ws'.set t.at_.toNat t.now) := by
  intro ts
  induction ts with
  | nil => intro ws ws' t h h1 h2 h3 h4 h5 h6; cases h; exact ⟨⟨h1, h2, h3, h4, h5, h6⟩, rfl⟩
  | cons x ts ih => intro ws ws' t h h1 h2 h3 h4 h5 h6; exact ⟨h.1, ih h.2 h1 h2 h3 h4 h5 h6⟩
end Go.Proofs.YtfphpafkhljncaaGreat
namespace Go.Proofs.YtfphpafkhljncaaGreat
open Go GW Go.Proofs
attribute [local irreducible] bnd ldV stV ifV binV eqI
set_option linter.unusedVariables false
set_option linter.unusedSimpArgs false
set_option maxRecDepth 20000
theorem stock_eq (k a b x k' a' b' x' : Int) : eqP Tryz.prog 10000 44 (.agg [.int .i64 k, .int .i64 a, .int .i64 b, .int .i64 x].toArray) (.agg [.int .i64 k', .int .i64 a', .int .i64 b', .int .i64 x'].toArray) = some (decide (k = k' ∧ a = a' ∧ b = b' ∧ x = x')) := by
  have h : eqP Tryz.prog 10000 44 (.agg [.int .i64 k, .int .i64 a, .int .i64 b, .int .i64 x].toArray) (.agg [.int .i64 k', .int .i64 a', .int .i64 b', .int .i64 x'].toArray) = some ((k == k') && ((a == a') && ((b == b') && ((x == x') && true)))) := by kernel_rfl
  rw [h]; simp [Bool.decide_and, Bool.beq_eq_decide_eq]
/-- steps at picks from 10 on, until it is done -/
def truns : Nat → Nat → Th → Ar → List Int → Option (Th × Ar × List Int × Nat)
  | 0, i, x, A, L => some (x, A, L, i)
  | n + 1, i, x, A, L => match x.done with
    | true => some (x, A, L, i)
    | false => match x.step A L (10 + i) with
      | (x', true, 0, A', L') => truns n (i + 1) x' A' L'
      | _ => none
def tawakeX : Th := Th.new 0 2 3 false [[⟨0, 1, 0, 9⟩]]
def tawakeY : Th := Th.new 1 2 3 true []
def tawakeFin (r : Option (Th × Ar × List Int × Nat)) : Bool := match r with
  | some (x, A, L, i) => (match x.evs with
      | [e] => decide (e.begun = 10) && (decide (e.decided = -1) && (decide (e.answered = 40) && (decide (e.end_ = 0) && (decide (e.attempts = 1) && decide (e.answers = [⟨0, 9⟩])))))
      | _ => false) && (decide (i = 31) && (x.done && (decide (x.stock = [0, 0, 1, 0]) && (decide (L[0]? = some 1) && decide (A.at 1 = 40)))))
  | none => false
theorem tawake_fin : tawakeFin (truns 60 0 tawakeX newAr (List.replicate 12 0)) = true := by decide +kernel
theorem tawakeX_may : Th.may 0 2 3 [[⟨0, 1, 0, 9⟩]] := by decide
theorem tawakeY_may : Th.may 1 2 3 [] := by decide
section
variable {a b lb : Nat} {R : List Part} {h g : GH} {K : Value → GH → Prop} {A : Ar} {x : Th} {U : TypeId} {v1 v2 v3 : Value}
theorem T_thStepNil2 (hK : K (.tuple #[.bool false, i64 1]) h) : T Tryz.prog 29 [ptr b, .pointer none, v2, v3] h K := by
  apply S29_T
  unfold S29
  refine wk ?_
  unfold S29_j1
  refine wk ?_
  exact hK
theorem T_thStepNil3 (hK : K (.tuple #[.bool false, i64 1]) h) : T Tryz.prog 29 [ptr b, ptr a, .pointer none, v3] h K := by
  apply S29_T
  unfold S29
  refine wk ?_
  unfold S29_j1
  refine wk ?_
  exact hK
/-- a thread that is there, one that is not -/
theorem T_thNewY {id n k : Int} {pol : Bool} {tsv : Value} {ts : List (List Op)} {cs0 : List (List Value)} (hp : All R h) (hs : ∀ h', All R h' → tv1 tsv cs0 ts h') (m : Th.may id n k ts)
    (ky : ∀ b h', All (thP b (.new id n k pol ts) :: R) h' → K (.tuple #[ptr b, i64 0]) h') : T Tryz.prog 27 [i64 id, i64 n, i64 k, .bool pol, tsv] h K := T_thNew hp hs (fun q => absurd m q) fun _ => ky
theorem T_thNewN {id n k : Int} {pol : Bool} {tsv : Value} {ts : List (List Op)} {cs0 : List (List Value)} (hp : All R h) (hs : ∀ h', All R h' → tv1 tsv cs0 ts h') (m : ¬ Th.may id n k ts)
    (kn : ∀ h', All R h' → K (.tuple #[.pointer none, i64 1800]) h') : T Tryz.prog 27 [i64 id, i64 n, i64 k, .bool pol, tsv] h K := T_thNew hp hs (fun _ => kn) fun q => absurd q m
theorem tv1_nil {h : GH} : tv1 (.slice none 0 0) [] [] h := ⟨rowsAt_nil _ _, .nil⟩
theorem lives0_ok : Lok (List.replicate 12 0) := ⟨rfl, fun x hx => by rw [List.eq_of_mem_replicate hx]; exact ⟨by decide, by decide⟩⟩
/-- lives that steps lead to -/
theorem Th.step_lok {L : List Int} {pick : Int} {N : Int} (hN : N < 4611686018427387903) (l : L.length = 12 ∧ ∀ y ∈ L, 0 ≤ y ∧ y ≤ N) : (x.step A L pick).2.2.2.2.length = 12 ∧ ∀ y ∈ (x.step A L pick).2.2.2.2, 0 ≤ y ∧ y ≤ N + 1 := by
  have old : ∀ z ∈ L, 0 ≤ z ∧ z ≤ N + 1 := fun z hz => by have := l.2 z hz; omega
  rcases Th.step_lives (A := A) (x := x) (L := L) (pick := pick) with e | ⟨s, e⟩
  · rw [e]; exact ⟨l.1, old⟩
  · rw [e]
    unfold lived
    refine ⟨by rw [List.length_set]; exact l.1, fun y hy => ?_⟩
    rcases List.mem_or_eq_of_mem_set hy with q | q
    · exact old y q
    · rw [q, List.getD_eq_getElem?_getD]
      cases hg : L[s.toNat]? with
      | none =>
        simp only [Option.getD_none]
        rcases Int.lt_or_le N 0 with c | c
        · cases L with
          | nil => simp at l
          | cons z _ => have := l.2 z (by simp); omega
        · omega
      | some z => have := l.2 z (List.mem_of_getElem? hg); simp only [Option.getD_some]; omega
theorem lok_of {L : List Int} {N : Int} (hN : N < 4611686018427387903) (l : L.length = 12 ∧ ∀ y ∈ L, 0 ≤ y ∧ y ≤ N) : Lok L := ⟨l.1, fun y hy => by have := l.2 y hy; omega⟩
set_option maxHeartbeats 1000000 in
theorem T_tawake (hp : All R h) (hK : ∀ h', All R h' → K (.bool true) h') : T Tryz.prog 26 [] h K := by
  apply S26_T
  unfold S26
  refine T_arenaNew hp fun a h1 hp => ?_
  refine bnd_of rfl ?_
  refine bs0 (size := 4) hp ([Op.mk 0 1 0 9].map Op.enc) rfl rfl (by simp) (Op.all_good _) fun v2 h2 hp => ?_
  obtain ⟨a2, n2, c2, rfl⟩ := All.isSlice hp
  refine bnd_of rfl ?_
  refine bs0 (size := 1) hp [[.slice a2 n2 c2]] rfl rfl (by simp) (fun c hc => by rw [List.mem_singleton.1 hc]; exact ⟨rfl, rfl⟩) fun v5 h3 hp => ?_
  refine T_thNewY (ts := [[⟨0, 1, 0, 9⟩]]) (cs0 := [[.slice a2 n2 c2]]) hp (fun h' hp => ⟨All.rows hp, .cons ⟨_, rfl, All.rows (hn (hp.up 1))⟩ .nil⟩) tawakeX_may fun b h4 hp => ?_
  refine wk ?_
  refine T_thNewN (ts := []) hp (fun h' hp => tv1_nil) (by decide) fun h5 hp => ?_
  refine wk ?_
  refine T_thNewY (ts := []) hp (fun h' hp => tv1_nil) tawakeY_may fun c h6 hp => ?_
  refine wk ?_
  replace hp := hn (hp.re 5 [4, 0, 1])
  unfold S26_j1
  refine nw hp (lvRow 36 12 [] (List.replicate 12 0) []) rfl fun lb h7 hp => ?_
  -- the idle one
  replace hp := hn (hp.re 4 [1, 0, 2, 3])
  have okY := Th.new_ok (pol := true) tawakeY_may
  have okX := Th.new_ok (pol := false) tawakeX_may
  refine T_thStep (pre := []) (post := []) hp okY lives0_ok (by decide) fun h8 hp => ?_
  have sy : tawakeY.step newAr (List.replicate 12 0) 0 = (tawakeY, false, 0, newAr, List.replicate 12 0) := rfl
  unfold tawakeY at sy
  rw [sy] at hp ⊢
  refine wk ?_
  refine T_thDone (hn (hp.up 3)) (Nat.zero_le _) ?_
  have fin := tawake_fin
  cases hr : truns 60 0 tawakeX newAr (List.replicate 12 0) with
  | none => rw [hr] at fin; cases fin
  | some z =>
    obtain ⟨x', A', L', i'⟩ := z
    rw [hr] at fin
    refine Lfp_fam (ι := Nat × Th × Ar × List Int) (fun q => [ptr a, ptr b, i64 0, i64 1800, ptr c, i64 0, ptr lb, .bool false, i64 0, .bool false, i64 q.1, i64 q.1]) (fun q h' => q.1 ≤ 60 ∧ q.2.1.ok ∧ Short q.2.1.evs ∧ (q.2.2.2.length = 12 ∧ ∀ y ∈ q.2.2.2, 0 ≤ y ∧ y ≤ q.1) ∧ truns (60 - q.1) q.1 q.2.1 q.2.2.1 q.2.2.2 = some (x', A', L', i') ∧ All (arP 138 a q.2.2.1 :: pts lb (lvRow 36 12 [] q.2.2.2 []) :: thP b q.2.1 :: thP c tawakeY :: R) h') (fun q => 60 - q.1) ?_ (0, tawakeX, newAr, List.replicate 12 0) h8 ⟨by omega, okX, (fun e h => by cases h), ⟨rfl, fun y hy => by rw [List.eq_of_mem_replicate hy]; exact ⟨by decide, by decide⟩⟩, hr, hn (hp.re 4 [0, 1, 3, 2])⟩
    clear hp hr
    rintro ⟨i, x, A, L⟩ h9 X ⟨hi, ox, sx, lx, hr, hp⟩ again
    simp only at hi ox sx lx hr hp
    simp only [tup_zero, tup_succ]
    have hA := (arP.at hp).2
    have key : (x, A, L, i) = (x', A', L', i') → ∀ s k, S26_j3 s (ptr a) (ptr b) (i64 0) (i64 1800) (ptr c) (i64 0) (ptr lb) (.bool false) (i64 0) (.bool false) (i64 i) h9 K k := by
      intro e s k
      clear again hr
      cases e
      unfold tawakeFin at fin
      simp only [Bool.and_eq_true, decide_eq_true_eq] at fin
      obtain ⟨f1, f2, f3, f4, f5, f6⟩ := fin
      subst f2
      unfold S26_j3
      refine T_thEvents (hn (hp.up 2)) ox.evs8 sx fun ev h10 hp => ?_
      refine T_thStock (hn (hp.up 1)) ox fun h11 hp => ?_
      rw [f4]
      refine nwst hp (.row 44 [i64 0, i64 0, i64 1, i64 0] 4 true) rfl rfl rfl rfl fun sb h12 hp => ?_
      refine T_thStepNil2 ?_
      refine wk ?_
      refine T_thStepNil3 ?_
      refine wk ?_
      refine L_Load (hn (hp.up 3)) (by decide) (by decide) fun h13 hp => ?_
      rw [f6]
      refine wk ?_
      cases hes : x'.evs with
      | nil => rw [hes] at f1; cases f1
      | cons e es =>
        cases es with
        | cons e2 es => rw [hes] at f1; cases f1
        | nil =>
          rw [hes] at f1 hp
          simp only [Bool.and_eq_true, decide_eq_true_eq] at f1
          obtain ⟨g1, g2, g3, g4, g5, g6⟩ := f1
          have el : lnV ev = some (i64 1) := evP_len (evoP_evs (hn (hp.up 3)))
          refine bnd_of el ?_
          refine wk ?_
          refine T_Num ?_
          refine wk ?_
          refine T_Num ?_
          refine wk ?_
          refine T_Num ?_
          refine wk ?_
          refine T_Num ?_
          refine wk ?_
          refine T_thDone (hn (hp.up 5)) (Nat.zero_le _) ?_
          refine wk ?_
          replace hp := hn (hp.re 6 [3, 1, 4])
          refine evoP_open hp fun ws hl hp => ?_
          obtain ⟨w, rfl⟩ : ∃ w, ws = [w] := by
            match ws, hl with
            | [w], _ => exact ⟨w, rfl⟩
          obtain ⟨eb, i1, i2, _, _⟩ := All.elt (i := 0) hp (c := e.cells w) rfl .i64
          have l2 := i2 2 1 (i64 e.begun) rfl
          have l3 := i2 3 1 (i64 e.decided) rfl
          have l4 := i2 4 1 (i64 e.answered) rfl
          have l5 := i2 5 1 (i64 e.end_) rfl
          have l6 := i2 6 1 (i64 e.attempts) rfl
          have l7 := i2 7 1 w rfl
          rw [g1] at l2
          rw [g2] at l3
          rw [g3] at l4
          rw [g4] at l5
          rw [g5] at l6
          refine bnd_of i1 (bnd_of rfl (bnd_of l2 ?_))
          refine wk ?_
          refine bnd_of i1 (bnd_of rfl (bnd_of l4 ?_))
          refine wk ?_
          refine bnd_of i1 (bnd_of rfl (bnd_of l3 ?_))
          refine wk ?_
          refine bnd_of i1 (bnd_of rfl (bnd_of l5 ?_))
          refine wk ?_
          refine bnd_of i1 (bnd_of rfl (bnd_of l6 ?_))
          refine wk ?_
          refine bnd_of i1 (bnd_of rfl (bnd_of l7 ?_))
          refine wk ?_
          refine bs0 (size := 2) hp ([Answer.mk 0 9].map Answer.enc) rfl rfl (by simp) (Answer.all_good _) fun bv h14 hp => ?_
          have ra : rowsAt h14 2 w (e.answers.map Answer.enc) := ((hn (hp.up 2)).mono1 (P := All (ansO [w] [e])) (fun _ _ l p => All.le l p)) |> fun z => ansO_le z 0 e w rfl rfl
          refine T_SameAnswers ra (All.rows hp) ?_
          rw [decide_eq_true g6]
          refine wk ?_
          replace hp := hn (hp.re 5 [3, 4])
          refine la0 hp (c := [i64 0, i64 0, i64 1, i64 0]) (Nat.le_refl 4) rfl ?_
          refine bnd_of rfl ?_
          refine bnd_of (stock_eq 0 0 1 0 0 0 1 0) ?_
          refine wk ?_
          have hL0 : L'.getD 0 0 = 1 := by rw [List.getD_eq_getElem?_getD, f5]; rfl
          have := lv_ld (s := 0) (pre := []) (hn (hp.up 1)) (by rw [lx.1]; decide)
          rw [hL0] at this
          refine bnd_of this ?_
          refine wk ?_
          refine T_Num ?_
          refine wk ?_
          refine T_Num ?_
          refine wk ?_
          refine T_Num ?_
          refine wk ?_
          exact hK _ hp.tail.tail
    have n60 : i < 60 ∨ i = 60 := by omega
    refine wk ?_
    refine ifV_cases (fun c1 => ?_) fun c1 => ?_
    · obtain ⟨n, hn1⟩ : ∃ n, 60 - i = n + 1 := ⟨59 - i, by omega⟩
      rw [hn1] at hr
      unfold truns at hr
      refine T_thDone (hn (hp.up 2)) ox.evs8 ?_
      cases hd : x.done with
      | true =>
        rw [hd] at hr
        refine wk ?_
        exact key (Option.some.inj hr) _ _
      | false =>
        rw [hd] at hr
        simp only at hr
        refine wk ?_
        unfold S26_j2
        refine wk ?_
        refine T_thStep (pre := []) (post := []) hp ox (lok_of (N := i) (by omega) lx) (by omega) fun h10 hp => ?_
        have s := Th.step_ok (L := L) (pick := 10 + (i : Int)) ox hA (by omega)
        have sl := Th.step_lok (x := x) (A := A) (pick := 10 + (i : Int)) (N := i) (by omega) lx
        have ss := Th.step_short (A := A) (L := L) (pick := 10 + (i : Int)) ox sx
        generalize x.step A L (10 + (i : Int)) = r at hp hr s sl ss ⊢
        obtain ⟨x2, is, e, A2, L2⟩ := r
        split at hr
        · rename_i heq
          cases heq
          refine wk ?_
          refine T_Num ?_
          refine wk ?_
          refine again (i + 1, x2, A2, L2) _ ⟨by simp only; omega, s.1, ss, ⟨sl.1, fun y hy => by have := sl.2 y hy; simp only; omega⟩, ?_, hp⟩ (by simp only; omega)
          have : 60 - (i + 1) = n := by omega
          simp only [this]; exact hr
        · cases hr
    · have hi60 : 60 - i = 0 := by omega
      rw [hi60] at hr
      unfold truns at hr
      exact key (Option.some.inj hr) _ _
end
end Go.Proofs.YtfphpafkhljncaaGreat
namespace Go.Proofs.YtfphpafkhljncaaGreat
open Go GW Go.Proofs
set_option linter.unusedVariables false
set_option linter.unusedSimpArgs false
def sg (x : Int) : Int := if 0 ≤ x then 0 else -1
def Event.nrm (e : Event) : Event := { e with begun := 0, decided := sg e.decided, answered := sg e.answered }
theorem sg_pos (x : Int) : 0 ≤ sg x ↔ 0 ≤ x := by unfold sg; split <;> omega
def Th.we (x : Th) (es : List Event) : Th := { x with evs := es }
def Th.nw (x : Th) : Th := x.we (x.evs.map Event.nrm)
def Th.nrm (x : Th) : Th := { x with evs := x.evs.map Event.nrm, ts := -1, tg := 0 }
section
variable {x : Th} {A : Ar} {L : List Int} {pick s : Int}
theorem Th.done_nw : x.nw.done = x.done := by
  unfold Th.done Th.nw Th.we
  simp only [List.length_map, List.getLast?_map]
  cases x.evs.getLast? with
  | none => rfl
  | some e =>
    show (_ && Decidable.decide (0 ≤ sg e.answered)) = (_ && Decidable.decide (0 ≤ e.answered))
    rw [decide_eq_decide.2 (sg_pos e.answered)]
end
structure Mc.sim (M N : Mc) : Prop where
  A : M.A = N.A
  L : M.L = N.L
  ts : M.ts = N.ts
  ths : M.ths.map Th.nrm = N.ths.map Th.nrm
theorem Mc.sim.refl (M : Mc) : M.sim M := ⟨rfl, rfl, rfl, rfl⟩
theorem Mc.sim.len {M N : Mc} (s : M.sim N) : M.ths.length = N.ths.length := by have := congrArg List.length s.ths; simpa using this
theorem Mc.sim.get {M N : Mc} (s : M.sim N) {i : Nat} {x : Th} (h : M.ths[i]? = some x) : ∃ y, N.ths[i]? = some y ∧ x.nrm = y.nrm := by
  have h1 : (M.ths.map Th.nrm)[i]? = some x.nrm := by rw [List.getElem?_map, h]; rfl
  rw [s.ths, List.getElem?_map] at h1
  cases h2 : N.ths[i]? with
  | none => rw [h2] at h1; cases h1
  | some y => rw [h2] at h1; exact ⟨y, rfl, (Option.some.inj h1).symm⟩
theorem Th.done_nrm {x : Th} : x.nrm.done = x.done := Th.done_nw
end Go.Proofs.YtfphpafkhljncaaGreat
namespace Go.Proofs.YtfphpafkhljncaaGreat
open Go GW Go.Proofs
set_option linter.unusedVariables false
set_option linter.unusedSimpArgs false
structure Th.una (x : Th) : Prop where
  u : x.next ≠ none ∨ x.tries ≠ 0 → ∃ e, x.evs.getLast? = some e ∧ e.answered = -1
  d : x.dead = true → x.next ≠ none
section
variable {A : Ar} {x : Th} {L : List Int} {pick s : Int}
theorem Th.una.of {y : Th} (u : x.una) (hx : x.next ≠ none) (h1 : y.evs = x.evs) (h2 : y.dead = true → y.next ≠ none) : y.una := ⟨fun _ => by rw [h1]; exact u.u (.inl hx), h2⟩
theorem Th.una.done (u : x.una) (h : x.done = true) : x.next = none ∧ x.dead = false := by
  have hn : x.next = none := by
    cases hx : x.next with
    | none => rfl
    | some a =>
      exfalso
      obtain ⟨e, h1, h2⟩ := u.u (.inl (by rw [hx]; simp))
      unfold Th.done at h
      rw [h1] at h
      simp only [Bool.and_eq_true, decide_eq_true_eq] at h
      omega
  refine ⟨hn, ?_⟩
  cases hd : x.dead with
  | false => rfl
  | true => exact absurd hn (u.d hd)
end
/-- all picks, and those that count -/
def Mc.run (M : Mc) (ks : List Int) : Mc := ks.foldl (fun M k => (M.pick k).1) M
end Go.Proofs.YtfphpafkhljncaaGreat
namespace Go.Proofs.YtfphpafkhljncaaGreat
open Go GW Go.Proofs
attribute [local irreducible] bnd ldV stV ifV binV eqI
set_option linter.unusedVariables false
set_option linter.unusedSimpArgs false
set_option maxRecDepth 20000
theorem Mc.sim.events {M N : Mc} (s : M.sim N) : M.events.map Event.nrm = N.events.map Event.nrm := by
  have key : ∀ xs ys : List Th, xs.map Th.nrm = ys.map Th.nrm → (xs.flatMap Th.evs).map Event.nrm = (ys.flatMap Th.evs).map Event.nrm := by
    intro xs
    induction xs with
    | nil =>
      intro ys h
      cases ys with
      | nil => rfl
      | cons y ys => cases h
    | cons x xs ih =>
      intro ys h
      cases ys with
      | nil => cases h
      | cons y ys =>
        simp only [List.map_cons, List.cons.injEq] at h
        have e : x.evs.map Event.nrm = y.evs.map Event.nrm := congrArg Th.evs h.1
        simp only [List.flatMap_cons, List.map_append, ih ys h.2, e]
  exact key _ _ s.ths
theorem Mc.sim.done {M N : Mc} (s : M.sim N) : M.done = N.done := by
  have key : ∀ xs ys : List Th, xs.map Th.nrm = ys.map Th.nrm → xs.all Th.done = ys.all Th.done := by
    intro xs
    induction xs with
    | nil =>
      intro ys h
      cases ys with
      | nil => rfl
      | cons y ys => cases h
    | cons x xs ih =>
      intro ys h
      cases ys with
      | nil => cases h
      | cons y ys =>
        simp only [List.map_cons, List.cons.injEq] at h
        have e : x.done = y.done := by rw [← Th.done_nrm (x := x), h.1, Th.done_nrm]
        simp only [List.all_cons, ih ys h.2, e]
  exact key _ _ s.ths
theorem Mc.run_ok {ks : List Int} : ∀ {M : Mc}, M.ok → (M.run ks).ok := by
  induction ks with
  | nil => intro M h; exact h
  | cons k ks ih => intro M h; exact ih (Mc.pick_ok h)
section
variable {a b d : Nat} {R : List Part} {h g : GH} {K : Value → GH → Prop} {v pv : Value} {p : Plan} {picks : List Int} {M N : Mc}
end
end Go.Proofs.YtfphpafkhljncaaGreat
namespace Go.Proofs.YtfphpafkhljncaaGreat
open Go GW Go.Proofs
set_option linter.unusedVariables false
set_option linter.unusedSimpArgs false
set_option maxRecDepth 20000
def evC (h : GH) (c : List Value) (e : Event) : Prop := ∃ w, c = e.cells w ∧ rowsAt h 2 w (e.answers.map Answer.enc)
def eventsAt (h : GH) (v : Value) (es : List Event) : Prop := ∃ cs, rowsAt h 8 v cs ∧ All2 (evC h) cs es
theorem evC.le {h h' : GH} {c : List Value} {e : Event} (a : evC h c e) (l : HLe h h') : evC h' c e := by
  obtain ⟨w, h1, h2⟩ := a
  exact ⟨w, h1, h2.le l⟩
theorem eventsAt.le {h h' : GH} {v : Value} {es : List Event} (a : eventsAt h v es) (l : HLe h h') : eventsAt h' v es := by
  obtain ⟨cs, h1, h2⟩ := a
  exact ⟨cs, h1.le l, h2.mono fun x y q => q.le l⟩
def Event.bad (n : Nat) (e : Event) : Bool := !decide (0 ≤ e.thread ∧ e.thread < n) || !decide (0 ≤ e.end_ ∧ e.end_ < 3)
def bump (cs : List (List Int)) (t e : Nat) : List (List Int) := cs.set t (((cs[t]?).getD []).set e ((((cs[t]?).getD [])[e]?).getD 0 + 1))
def stepE (cs : List (List Int)) (e : Event) : List (List Int) := if 0 ≤ e.answered then bump cs e.thread.toNat e.end_.toNat else cs
/-- what is known of the counts of so many events -/
structure Cts (n m : Nat) (cs : List (List Int)) : Prop where
  len : cs.length = n
  three : ∀ c ∈ cs, c.length = 3
  bound : ∀ c ∈ cs, ∀ x ∈ c, 0 ≤ x ∧ x ≤ m
theorem Cts.zero (n : Nat) : Cts n 0 (List.replicate n [0, 0, 0]) :=
  ⟨by simp, fun c hc => by rw [(List.mem_replicate.1 hc).2]; rfl, fun c hc x hx => by
    rw [(List.mem_replicate.1 hc).2] at hx
    simp at hx; omega⟩
theorem Cts.get {n m : Nat} {cs : List (List Int)} (c : Cts n m cs) {t e : Nat} (ht : t < n) (he : e < 3) : ∃ d x, cs[t]? = some d ∧ d[e]? = some x ∧ d.length = 3 ∧ 0 ≤ x ∧ x ≤ m ∧ bump cs t e = cs.set t (d.set e (x + 1)) := by
  obtain ⟨d, hd⟩ : ∃ d, cs[t]? = some d := ⟨_, List.getElem?_eq_getElem (by rw [c.len]; exact ht)⟩
  have hm := List.mem_of_getElem? hd
  have h3 := c.three d hm
  obtain ⟨x, hx⟩ : ∃ x, d[e]? = some x := ⟨_, List.getElem?_eq_getElem (by omega)⟩
  have hb := c.bound d hm x (List.mem_of_getElem? hx)
  exact ⟨d, x, hd, hx, h3, hb.1, hb.2, by unfold bump; rw [hd]; simp only [Option.getD_some]; rw [hx]; rfl⟩
theorem Cts.step {n m : Nat} {cs : List (List Int)} (c : Cts n m cs) {e : Event} (h : e.bad n = false) : Cts n (m + 1) (stepE cs e) := by
  unfold Event.bad at h
  simp at h
  unfold stepE
  split
  · obtain ⟨d, x, h1, h2, h3, h4, h5, h6⟩ := c.get (t := e.thread.toNat) (e := e.end_.toNat) (by omega) (by omega)
    rw [h6]
    refine ⟨by rw [List.length_set]; exact c.len, fun y hy => ?_, fun y hy z hz => ?_⟩
    · rcases List.mem_or_eq_of_mem_set hy with q | q
      · exact c.three y q
      · rw [q, List.length_set]; exact h3
    · rcases List.mem_or_eq_of_mem_set hy with q | q
      · have := c.bound y q z hz; omega
      · rw [q] at hz
        rcases List.mem_or_eq_of_mem_set hz with q2 | q2
        · have := c.bound d (List.mem_of_getElem? h1) z q2; omega
        · omega
  · refine ⟨c.len, c.three, fun y hy z hz => ?_⟩
    have := c.bound y hy z hz; omega
def ev (t e a : Int) : Event := ⟨t, 0, 0, 0, a, e, 0, []⟩
end Go.Proofs.YtfphpafkhljncaaGreat
namespace Go.Proofs.YtfphpafkhljncaaGreat
open Go GW Go.Proofs
set_option linter.unusedVariables false
set_option linter.unusedSimpArgs false
def cnE (es : List Event) (k : Nat) : Nat := es.countP fun e => decide (0 ≤ e.answered) && decide (e.end_.toNat = k)
def c3 (es : List Event) : List Int := [(cnE es 0 : Int), (cnE es 1 : Int), (cnE es 2 : Int)]
def evI (i : Int) (es : List Event) : Prop := ∀ e ∈ es, e.thread = i ∧ 0 ≤ e.end_ ∧ e.end_ ≤ 2
/-- what a step may do to the counts -/
structure Ups (c d : List Int) : Prop where
  ex : ∃ a b e a' b' e' : Int, c = [a, b, e] ∧ d = [a', b', e'] ∧ a ≤ a' ∧ b ≤ b' ∧ e ≤ e' ∧ a' + b' + e' ≤ a + b + e + 1
section
variable {A : Ar} {x : Th} {L : List Int} {pick s : Int}
end
/-- a machine of a plan, as to its events -/
structure Mc.tal (p : Plan) (M : Mc) : Prop where
  ok : M.ok
  una : ∀ x ∈ M.ths, x.una
  len : M.ths.length = p.threads.length
  ths : ∀ (i : Nat) x, M.ths[i]? = some x → x.id = i ∧ p.threads[i]? = some x.txns ∧ evI i x.evs
def Mc.c3 (M : Mc) : List (List Int) := M.ths.map fun x => YtfphpafkhljncaaGreat.c3 x.evs
theorem Mc.tal.bad {p : Plan} {M : Mc} (t : M.tal p) : M.events.any (Event.bad p.threads.length) = false := by
  rw [← Bool.not_eq_true]
  intro q
  obtain ⟨e, he, hb⟩ := List.any_eq_true.1 q
  obtain ⟨x, hx, hex⟩ := List.mem_flatMap.1 he
  obtain ⟨i, hi, hxi⟩ := List.mem_iff_getElem.1 hx
  have h1 := (t.ths i x (by rw [List.getElem?_eq_getElem hi, hxi])).2.2 e hex
  have := t.len
  unfold Event.bad at hb
  simp at hb
  omega
/-- two rows of counts: all the same but at one place, where it is one more at most -/
def Upm (c d : List (List Int)) : Prop := ∃ (i : Nat) (a b : List Int), d = c.set i b ∧ (c[i]? = some a ∨ c.length ≤ i) ∧ Ups a b
end Go.Proofs.YtfphpafkhljncaaGreat
namespace Go.Proofs.YtfphpafkhljncaaGreat
open Go GW Go.Proofs
attribute [local irreducible] bnd ldV stV ifV binV eqI
set_option linter.unusedVariables false
set_option linter.unusedSimpArgs false
set_option maxRecDepth 20000
section
variable {h g : GH} {R : List Part} {K : Value → GH → Prop} {v pv ev : Value} {p : Plan} {picks : List Int} {us : List Value} {es : List Event}
end
def s3 : List Int → Int
  | [] => 0
  | x :: r => x + s3 r
def t3 : List (List Int) → Int
  | [] => 0
  | c :: r => s3 c + t3 r
theorem t3_set : ∀ {cs : List (List Int)} {t : Nat} {d d' : List Int}, cs[t]? = some d → t3 (cs.set t d') = t3 cs - s3 d + s3 d' := by
  intro cs
  induction cs with
  | nil => intro e x y h; simp at h
  | cons a cs ih =>
    intro e x y h
    cases e with
    | zero => simp at h; subst h; simp [t3]; omega
    | succ e => simp only [List.set_cons_succ, t3]; rw [ih (by simpa using h)]; omega
/-- what the law looks at -/
structure Cmp (p : Plan) (cs ds : List (List Int)) : Prop where
  lc : cs.length = p.threads.length
  ld : ds.length = p.threads.length
  th : p.threads.length ≤ 4
  row : ∀ t, t < p.threads.length → ∃ a b c a' b' c' : Int, ∃ tx, cs[t]? = some [a, b, c] ∧ ds[t]? = some [a', b', c'] ∧ p.threads[t]? = some tx ∧ 0 ≤ a ∧ a ≤ a' ∧ 0 ≤ b ∧ b ≤ b' ∧ 0 ≤ c ∧ c ≤ c' ∧ a' + b' + c' ≤ tx.length ∧ tx.length ≤ 8
  up : ∀ t, 0 ≤ t3 (ds.take t) - t3 (cs.take t) ∧ t3 (ds.take t) - t3 (cs.take t) ≤ 1
theorem Upm.up {cs ds : List (List Int)} (u : Upm cs ds) (t : Nat) : 0 ≤ t3 (ds.take t) - t3 (cs.take t) ∧ t3 (ds.take t) - t3 (cs.take t) ≤ 1 := by
  obtain ⟨i, a, b, rfl, h, ⟨x, y, z, x', y', z', rfl, rfl, h1, h2, h3, h4⟩⟩ := u
  rw [List.take_set]
  by_cases c : i < (cs.take t).length
  · have hl : (cs.take t).length ≤ cs.length := by rw [List.length_take]; omega
    rcases h with h | h
    · rw [t3_set (d := [x, y, z]) (by rw [List.getElem?_take_of_lt (by rw [List.length_take] at c; omega)]; exact h)]
      simp only [s3]; omega
    · omega
  · rw [List.set_eq_of_length_le (by omega)]; omega
theorem Upm.row {cs ds : List (List Int)} (u : Upm cs ds) {t : Nat} {a b c : Int} (h : cs[t]? = some [a, b, c]) : ∃ a' b' c' : Int, ds[t]? = some [a', b', c'] ∧ a ≤ a' ∧ b ≤ b' ∧ c ≤ c' := by
  obtain ⟨i, d, e, rfl, h0, ⟨x, y, z, x', y', z', rfl, rfl, h1, h2, h3, h4⟩⟩ := u
  have ht := (List.getElem?_eq_some_iff.1 h).1
  by_cases q : i = t
  · subst q
    rcases h0 with h0 | h0
    · rw [h] at h0; cases h0
      exact ⟨x', y', z', List.getElem?_set_self ht, h1, h2, h3⟩
    · omega
  · exact ⟨a, b, c, by rw [List.getElem?_set_ne q]; exact h, Int.le_refl _, Int.le_refl _, Int.le_refl _⟩
theorem Cmp.k {a b c a' b' c' : Int} (k : Nat) (hk : k < 3) (h1 : 0 ≤ a ∧ a ≤ a') (h2 : 0 ≤ b ∧ b ≤ b') (h3 : 0 ≤ c ∧ c ≤ c') (hs : a' + b' + c' ≤ 8) :
    ∃ x y, [a, b, c][k]? = some x ∧ [a', b', c'][k]? = some y ∧ 0 ≤ x ∧ x ≤ y ∧ y ≤ 8 ∧ 0 ≤ s3 ([a, b, c].take k) ∧ s3 ([a, b, c].take k) ≤ 16 ∧ 0 ≤ s3 ([a', b', c'].take k) ∧ s3 ([a', b', c'].take k) ≤ 16 := by
  have : k = 0 ∨ k = 1 ∨ k = 2 := by omega
  rcases this with rfl | rfl | rfl
  · exact ⟨a, a', rfl, rfl, by omega, by omega, by omega, by simp [s3], by simp [s3], by simp [s3], by simp [s3]⟩
  · refine ⟨b, b', rfl, rfl, by omega, by omega, by omega, ?_, ?_, ?_, ?_⟩ <;> simp [s3] <;> omega
  · refine ⟨c, c', rfl, rfl, by omega, by omega, by omega, ?_, ?_, ?_, ?_⟩ <;> simp [s3] <;> omega
section
variable {h g : GH} {K : Value → GH → Prop} {v pv : Value} {p : Plan} {picks : List Int}
end
end Go.Proofs.YtfphpafkhljncaaGreat
namespace Go.Proofs.YtfphpafkhljncaaGreat
open Go GW Go.Proofs
set_option linter.unusedVariables false
set_option maxRecDepth 20000
theorem open_txns6 {H : Type} {enc : TypeId × Value → H} {W : World} {fuel : Nat} {cs : List Value} {d : DataW H} {ps : List MemPlace} (h : DataW.trod enc Tryz.prog W 0 (fun _ => true) true fuel 28 cs = some (d, ps)) (hw : (d.weights Tryz.prog 28).all (· ≤ reachBytes) = true) :
    ∃ v es, ∃ ts : List (List Op), cs = [v] ∧ rowsAt (full W) 1 v es ∧ All2 (fun c t => ∃ w, c = [w] ∧ rowsAt (full W) 4 w (t.map Op.enc)) es ts := by
  obtain ⟨ts, w, es, hc, r, a⟩ := open_thread h hw
  exact ⟨w, es, ts, hc, r, a⟩
end Go.Proofs.YtfphpafkhljncaaGreat
namespace Go.Proofs.YtfphpafkhljncaaGreat
open Go GW Go.Proofs
set_option linter.unusedVariables false
set_option linter.unusedSimpArgs false
set_option maxRecDepth 20000
def mw0 : List Int := newAr.ws.set 16 0
def mw (e z : Int) : List Int := (mw0.set 29 (e * 4)).set 30 z
theorem mw0_len : mw0.length = 634 := by unfold mw0; rw [List.length_set]; exact initW_len 11
theorem mw0_00 : mw 0 0 = mw0 := by decide +kernel
theorem mw_z (e : Int) : mw e 0 = mw0.set 29 (e * 4) := by
  unfold mw
  have h30 : mw0[30]? = some 0 := by decide +kernel
  have hl : 30 < mw0.length := by rw [mw0_len]; decide
  have h2 : (mw0.set 29 (e * 4))[30]? = some 0 := by rw [List.getElem?_set_ne (by decide)]; exact h30
  obtain ⟨hi, he⟩ := List.getElem?_eq_some_iff.1 h2
  conv => lhs; rw [← he]
  exact List.set_getElem_self hi
structure AW (A : Ar) (e z : Int) : Prop where
  ok : A.ok
  ws : A.ws = mw e z
section
variable {A : Ar} {e z : Int}
theorem AW.at16 (a : AW A e z) : A.at 16 = 0 := by
  unfold Ar.at; rw [a.ws, List.getD_eq_getElem?_getD]
  show ((mw e z)[16]?).getD 0 = 0
  unfold mw
  rw [List.getElem?_set_ne (by decide), List.getElem?_set_ne (by decide)]
  decide +kernel
theorem AW.at29 (a : AW A e z) : A.at 29 = e * 4 := by
  unfold Ar.at; rw [a.ws, List.getD_eq_getElem?_getD]
  show ((mw e z)[29]?).getD 0 = _
  unfold mw
  rw [List.getElem?_set_ne (by decide), List.getElem?_set_self (by rw [mw0_len]; decide)]; rfl
theorem AW.at30 (a : AW A e z) : A.at 30 = z := by
  unfold Ar.at; rw [a.ws, List.getD_eq_getElem?_getD]
  show ((mw e z)[30]?).getD 0 = _
  unfold mw
  rw [List.getElem?_set_self (by rw [List.length_set, mw0_len]; decide)]; rfl
theorem AW.ld (a : AW A e z) {i : Int} (h0 : 0 ≤ i) (h1 : i < 634) : AW (A.ld i) e z := ⟨a.ok.ld _, by rw [Ar.ld_ws a.ok h0 h1]; exact a.ws⟩
theorem AW.put30 (a : AW A e z) {y : Int} (h : I64 y) : AW (A.put 30 y) e y := ⟨a.ok.put _ h, by
  show A.ws.set 30 y = _
  rw [a.ws]; unfold mw; rw [List.set_set]⟩
theorem AW.cas29 (a : AW A e z) (h0 : 0 ≤ e) (h1 : e < 1000) : AW (A.cas 29 (e * 4) ((e + 1) * 4)) (e + 1) z := ⟨a.ok.cas _ _ (by constructor <;> omega), by
  show A.ws.set 29 (if A.at 29 = e * 4 then (e + 1) * 4 else A.at 29) = _
  rw [if_pos a.at29, a.ws]; unfold mw
  rw [List.set_comm _ _ (by decide), List.set_set]⟩
/-- a thread between its steps -/
def tm (k : Int) (txns : List (List Op)) (evs : List Event) (nx : Option Act) (ent : Option Ent) (adv : Option Adv) (end_ : Int) : Th :=
  ⟨0, 1, k, false, txns, evs, nx, false, 0, 0, 0, [], [], [], -1, ent, none, none, none, adv, end_, -1, 0⟩
def evM (e : Event) : Prop := e.end_ = 1 ∧ e.attempts = 1 ∧ e.decided = -1 ∧ e.answers = [] ∧ 0 ≤ e.answered
def evU (e : Event) : Prop := e.decided = -1 ∧ e.answers = [] ∧ e.answered = -1
/-- transaction t, step j of it -/
def Tm (k : Int) (txns : List (List Op)) (t j : Nat) (x : Th) (A : Ar) : Prop :=
  match j with
  | 0 => AW A t 0 ∧ ∃ evs ent adv en, (evs.length = t ∧ ∀ e ∈ evs, evM e) ∧ x = tm k txns evs none ent adv en
  | j + 1 => ∃ evs u adv, ((evs.length = t ∧ ∀ e ∈ evs, evM e) ∧ evU u) ∧ ∃ ent,
    match j with
    | 0 => AW A t 0 ∧ x = tm k txns (evs ++ [u]) (some .ent) (some ⟨0, t, false, true, false⟩) adv 2
    | 1 => AW A t ((t + 1) * 4) ∧ x = tm k txns (evs ++ [u]) (some .ent) (some ⟨0, t, true, true, false⟩) adv 2
    | 2 => AW A t ((t + 1) * 4) ∧ x = tm k txns (evs ++ [u]) (some .fre) ent adv 2
    | 3 => AW A t ((t + 1) * 4) ∧ x = tm k txns (evs ++ [u]) (some .lea) ent adv 1
    | 4 => AW A t 0 ∧ x = tm k txns (evs ++ [u]) (some .adv) ent (some (.new 1)) 1
    | 5 => AW A t 0 ∧ x = tm k txns (evs ++ [u]) (some .adv) ent (some ⟨1, 0, t, false, false⟩) 1
    | _ => AW A t 0 ∧ x = tm k txns (evs ++ [u]) (some .adv) ent (some ⟨1, 1, t, false, false⟩) 1
variable {k pick : Int} {txns : List (List Op)} {evs : List Event} {u : Event} {nx : Option Act} {ent : Option Ent} {adv : Option Adv} {en : Int} {L : List Int} {t : Nat}
theorem tm_z : (tm k txns evs nx ent adv en).z = tm k txns evs nx ent adv en := rfl
theorem epIs_val (h0 : 0 ≤ e) (h1 : e < 1000) : epIs (e * 4) = true := by
  unfold epIs; rw [plainOf_val h0 (by omega), valOf_val h0 (by omega)]
  simp only [Option.isSome_some, Bool.true_and, decide_eq_true_eq]; omega
theorem tm_evs (h : evs.length < txns.length) (o : ∀ e ∈ evs, evM e) : (tm k txns evs none ent adv en).done = false := by
  unfold Th.done
  show (decide (evs.length = txns.length) && _) = false
  rw [decide_eq_false (by omega)]; rfl
theorem tm_fin (h : evs.length = txns.length) (o : ∀ e ∈ evs, evM e) : (tm k txns evs none ent adv en).done = true := by
  unfold Th.done
  show (decide (evs.length = txns.length) && (match evs.getLast? with | none => true | some e => decide (0 ≤ e.answered))) = true
  rw [decide_eq_true h, Bool.true_and]
  cases hl : evs.getLast? with
  | none => rfl
  | some e => exact decide_eq_true (o e (List.mem_of_getLast? hl)).2.2.2.2
/-- one step more -/
theorem Tm.step {j : Nat} {x : Th} (ht : t < txns.length) (h8 : txns.length ≤ 8) (hj : j < 8) (hp : 0 ≤ pick) (h : Tm k txns t j x A) :
    (x.step A L pick).2.2.1 = 0 ∧ (x.step A L pick).2.2.2.2 = L ∧ (if j = 7 then Tm k txns (t + 1) 0 (x.step A L pick).1 (x.step A L pick).2.2.2.1 else Tm k txns t (j + 1) (x.step A L pick).1 (x.step A L pick).2.2.2.1) := by
  have e0 : (0 : Int) ≤ t := by omega
  have e1 : (t : Int) < 1000 := by omega
  have hep := epIs_val e0 e1
  have hpl := plainOf_val e0 (show (t : Int) < 1099511627776 by omega)
  have hvl := valOf_val e0 (show (t : Int) < 1099511627776 by omega)
  have : j = 0 ∨ j = 1 ∨ j = 2 ∨ j = 3 ∨ j = 4 ∨ j = 5 ∨ j = 6 ∨ j = 7 := by omega
  rcases this with rfl | rfl | rfl | rfl | rfl | rfl | rfl | rfl
  · obtain ⟨a, evs, ent, adv, en, ⟨h1, h2⟩, rfl⟩ := h
    have hs : (tm k txns evs none ent adv en).step A L pick = (tm k txns (evs ++ [⟨0, evs.length, pick, -1, -1, 0, 0, []⟩]) (some .ent) (some ⟨0, t, false, true, false⟩) adv 2, true, 0, A.ld 29, L) := by
      rw [Th.step_none rfl rfl, tm_z]
      have hb : (tm k txns evs none ent adv en).begin pick = (tm k txns (evs ++ [⟨0, evs.length, pick, -1, -1, 0, 0, []⟩]) (some .ent) (some (.new 0)) adv 2, true) := by
        unfold Th.begin
        rw [tm_evs (by omega) h2]; rfl
      rw [hb, if_pos rfl]
      have hn : Ent.step (.new 0) A = (⟨0, t, false, true, false⟩, 0, A.ld 29) := by
        unfold Ent.step Ent.new
        rw [a.at29, hep, hvl]; rfl
      unfold Th.act Th.ents
      show Th.ended ((if (Ent.step (.new 0) A).1.over = true ∧ (Ent.step (.new 0) A).2.1 = 0 then _ else _), L) = _
      rw [hn]; rfl
    rw [hs]
    exact ⟨rfl, rfl, evs, _, adv, ⟨⟨h1, h2⟩, rfl, rfl, rfl⟩, none, a.ld (by decide) (by decide), rfl⟩
  · obtain ⟨evs, u, adv, ⟨h1, h2⟩, ent, a, rfl⟩ := h
    have hs : (tm k txns (evs ++ [u]) (some .ent) (some ⟨0, t, false, true, false⟩) adv 2).step A L pick = (tm k txns (evs ++ [u]) (some .ent) (some ⟨0, t, true, true, false⟩) adv 2, true, 0, A.put 30 ((t + 1) * 4), L) := by
      rw [Th.step_some rfl rfl, tm_z]
      rfl
    rw [hs]
    exact ⟨rfl, rfl, evs, u, adv, ⟨h1, h2⟩, none, a.put30 (by constructor <;> omega), rfl⟩
  · obtain ⟨evs, u, adv, ⟨h1, h2⟩, ent, a, rfl⟩ := h
    have hs : (tm k txns (evs ++ [u]) (some .ent) (some ⟨0, t, true, true, false⟩) adv 2).step A L pick = (tm k txns (evs ++ [u]) (some .fre) (some ⟨0, t, false, true, true⟩) adv 2, true, 0, A.ld 29, L) := by
      rw [Th.step_some rfl rfl, tm_z]
      have hn : Ent.step ⟨0, t, true, true, false⟩ A = (⟨0, t, false, true, true⟩, 0, A.ld 29) := by
        unfold Ent.step
        rw [a.at29, hep, hvl]
        show ((⟨0, t, false, true, true && decide ((t : Int) = t)⟩, 0, A.ld 29) : Ent × Int × Ar) = _
        rw [decide_eq_true rfl]; rfl
      unfold Th.act Th.ents
      show Th.ended ((if (Ent.step ⟨0, t, true, true, false⟩ A).1.over = true ∧ (Ent.step ⟨0, t, true, true, false⟩ A).2.1 = 0 then _ else _), L) = _
      rw [hn]; rfl
    rw [hs]
    exact ⟨rfl, rfl, evs, u, adv, ⟨h1, h2⟩, _, a.ld (by decide) (by decide), rfl⟩
  · obtain ⟨evs, u, adv, ⟨h1, h2⟩, ent, a, rfl⟩ := h
    have hs : (tm k txns (evs ++ [u]) (some .fre) ent adv 2).step A L pick = (tm k txns (evs ++ [u]) (some .lea) ent adv 1, true, 0, A.ld 16, L) := by
      rw [Th.step_some rfl rfl, tm_z]
      have h16 : hdIs (0 : Int) = true ∧ valOf (0 : Int) = 0 := by decide
      have hn : Pop.step .new A = (⟨⟨1, 0, 0, 0, true⟩, 0, -1⟩, 0, A.ld 16) := by
        unfold Pop.step Pop.new
        have hl : ∀ l : Lst, l.loaded A = { l with word := 0, count := 0, first := 0, at_ := 1 } := fun l => by
          unfold Lst.loaded; rw [a.at16, h16.2]; rfl
        rw [hl, a.at16, h16.1, h16.2]; rfl
      show Th.ended ((tm k txns (evs ++ [u]) (some .fre) ent adv 2).fres A L) = _
      have hf : (tm k txns (evs ++ [u]) (some .fre) ent adv 2).fres A L = (tm k txns (evs ++ [u]) (some .fre) ent adv 2).taks A L := rfl
      rw [hf]
      unfold Th.taks
      show Th.ended (if (Pop.step .new A).1.l.over = false ∨ (Pop.step .new A).2.1 ≠ 0 then _ else if (Pop.step .new A).1.slot = -1 then _ else _) = _
      rw [if_neg (by rw [hn]; simp), if_pos (by rw [hn])]
      show Th.ended ((tm k txns (evs ++ [u]) (some .lea) ent adv 1, 0, (Pop.step .new A).2.2), L) = _
      rw [hn]; rfl
    rw [hs]
    exact ⟨rfl, rfl, evs, u, adv, ⟨h1, h2⟩, ent, a.ld (by decide) (by decide), rfl⟩
  · obtain ⟨evs, u, adv, ⟨h1, h2⟩, ent, a, rfl⟩ := h
    have hs : (tm k txns (evs ++ [u]) (some .lea) ent adv 1).step A L pick = (tm k txns (evs ++ [u]) (some .adv) ent (some (.new 1)) 1, true, 0, A.put 30 0, L) := by
      rw [Th.step_some rfl rfl, tm_z]
      rfl
    rw [hs]
    exact ⟨rfl, rfl, evs, u, none, ⟨h1, h2⟩, ent, a.put30 (by constructor <;> decide), rfl⟩
  · obtain ⟨evs, u, adv, ⟨h1, h2⟩, ent, a, rfl⟩ := h
    have hs : (tm k txns (evs ++ [u]) (some .adv) ent (some (.new 1)) 1).step A L pick = (tm k txns (evs ++ [u]) (some .adv) ent (some ⟨1, 0, t, false, false⟩) 1, true, 0, A.ld 29, L) := by
      rw [Th.step_some rfl rfl, tm_z]
      have hn : Adv.step (.new 1) A = (⟨1, 0, t, false, false⟩, 0, A.ld 29) := by
        unfold Adv.step Adv.new
        rw [a.at29, hep, hvl]; rfl
      show Th.ended ((if (Adv.step (.new 1) A).1.over = true ∧ (Adv.step (.new 1) A).2.1 = 0 then _ else _), L) = _
      rw [hn]; rfl
    rw [hs]
    exact ⟨rfl, rfl, evs, u, none, ⟨h1, h2⟩, ent, a.ld (by decide) (by decide), rfl⟩
  · obtain ⟨evs, u, adv, ⟨h1, h2⟩, ent, a, rfl⟩ := h
    have hs : (tm k txns (evs ++ [u]) (some .adv) ent (some ⟨1, 0, t, false, false⟩) 1).step A L pick = (tm k txns (evs ++ [u]) (some .adv) ent (some ⟨1, 1, t, false, false⟩) 1, true, 0, A.ld 30, L) := by
      rw [Th.step_some rfl rfl, tm_z]
      have h0 : (plainOf (0 : Int)).isSome = true ∧ valOf (0 : Int) = 0 := by decide
      have hn : Adv.step ⟨1, 0, t, false, false⟩ A = (⟨1, 1, t, false, false⟩, 0, A.ld 30) := by
        unfold Adv.step
        have h30 : A.at (30 + 0) = 0 := a.at30
        rw [show (Adv.mk 1 0 t false false).asked = 0 from rfl, h30, h0.1, h0.2]; rfl
      show Th.ended ((if (Adv.step ⟨1, 0, t, false, false⟩ A).1.over = true ∧ (Adv.step ⟨1, 0, t, false, false⟩ A).2.1 = 0 then _ else _), L) = _
      rw [hn]; rfl
    rw [hs]
    exact ⟨rfl, rfl, evs, u, none, ⟨h1, h2⟩, ent, a.ld (by decide) (by decide), rfl⟩
  · obtain ⟨evs, u, adv, ⟨h1, h2⟩, ent, a, rfl⟩ := h
    have hs : ∃ d, (tm k txns (evs ++ [u]) (some .adv) ent (some ⟨1, 1, t, false, false⟩) 1).step A L pick = (tm k txns (evTurn (evs ++ [u]) fun e => { e with attempts := 1, answers := e.answers, end_ := 1, answered := pick }) none ent (some d) 1, true, 0, A.cas 29 (t * 4) ((t + 1) * 4), L) := by
      rw [Th.step_some rfl rfl, tm_z]
      exact ⟨_, rfl⟩
    obtain ⟨d, hs⟩ := hs
    rw [hs]
    refine ⟨rfl, rfl, ?_⟩
    rw [if_pos rfl]
    have ht : evTurn (evs ++ [u]) (fun e => { e with attempts := 1, answers := e.answers, end_ := 1, answered := pick }) = evs ++ [{ u with attempts := 1, end_ := 1, answered := pick }] := by
      unfold evTurn
      rw [List.getLast?_concat]
      simp
    rw [ht]
    refine ⟨a.cas29 e0 e1, _, ent, some d, 1, ⟨by simp [h1.1], fun e he => ?_⟩, rfl⟩
    rcases List.mem_append.1 he with q | q
    · exact h1.2 e q
    · rw [List.mem_singleton.1 q]
      exact ⟨rfl, rfl, h2.1, h2.2.1, hp⟩
theorem tm_open {nx : Option Act} (h : u.answered = -1) : (tm k txns (evs ++ [u]) nx ent adv en).done = false := by
  unfold Th.done
  show (decide ((evs ++ [u]).length = txns.length) && (match (evs ++ [u]).getLast? with | none => true | some e => decide (0 ≤ e.answered))) = false
  rw [List.getLast?_concat]
  show (_ && decide (0 ≤ u.answered)) = false
  rw [h, show decide ((0 : Int) ≤ -1) = false from rfl, Bool.and_false]
theorem Tm.done {x : Th} (h8 : t ≤ txns.length) {j : Nat} (hj : j < 8) (h : Tm k txns t j x A) : x.done = decide (t = txns.length ∧ j = 0) := by
  have : j = 0 ∨ j = 1 ∨ j = 2 ∨ j = 3 ∨ j = 4 ∨ j = 5 ∨ j = 6 ∨ j = 7 := by omega
  rcases this with rfl | rfl | rfl | rfl | rfl | rfl | rfl | rfl
  · obtain ⟨a, evs, ent, adv, en, ⟨h1, h2⟩, rfl⟩ := h
    by_cases c : t = txns.length
    · rw [tm_fin (by omega) h2, decide_eq_true ⟨c, rfl⟩]
    · rw [tm_evs (by omega) h2, decide_eq_false (fun q => c q.1)]
  all_goals
    obtain ⟨evs, u, adv, ⟨h1, h2⟩, ent, a, rfl⟩ := h
    rw [decide_eq_false (fun q => absurd q.2 (by decide))]
    exact tm_open h2.2.2
end
end Go.Proofs.YtfphpafkhljncaaGreat
namespace Go.Proofs.YtfphpafkhljncaaGreat
open Go GW Go.Proofs
attribute [local irreducible] bnd ldV stV ifV binV eqI
set_option linter.unusedVariables false
set_option linter.unusedSimpArgs false
set_option maxRecDepth 20000
section
variable {h g : GH} {K : Value → GH → Prop} {tsv : Value} {cs0 : List (List Value)} {ts : List (List Op)} {att : Int}
theorem T_ThreadMemory (hp : All [baseP g] h) (ht : tv1 tsv cs0 ts g) (hK : ∀ h', K (.bool true) h') : T Tryz.prog 5 [tsv, i64 att] h K := by
  apply S5_T
  unfold S5
  have hvl : lnV tsv = some (i64 ts.length) := by have := ht.1.len; rw [ht.2.1] at this; exact this
  refine T_tawake hp fun h1 hp => ?_
  refine wk ?_
  refine T_arenaNew hp fun a h2 hp => ?_
  refine bnd_of (binV_and_mask att 3 (by decide) (by decide)) ?_
  have k0 : 0 ≤ att % ((2 ^ 3 : Nat) : Int) := Int.emod_nonneg _ (by decide)
  have k1 : att % ((2 ^ 3 : Nat) : Int) < 8 := Int.emod_lt_of_pos _ (by decide)
  generalize att % ((2 ^ 3 : Nat) : Int) = y at k0 k1
  refine bnd_of (binV_add _ _ _) ?_
  rw [wrap_id (by omega) (by omega)]
  obtain ⟨k, hk⟩ : ∃ k, 1 + y = k := ⟨_, rfl⟩
  rw [hk]
  have tvh : ∀ {h' : GH}, HLe g h' → tv1 tsv cs0 ts h' := fun l => ⟨ht.1.le l, ⟨ht.2.1, fun i x y hx hy => by
    obtain ⟨w, e1, e2⟩ := ht.2.2 i x y hx hy
    exact ⟨w, e1, e2.le l⟩⟩⟩
  refine T_thNew hp (fun h' hp => tvh (All.baseLe hp.tail)) (fun hm h3 hp => ?_) fun hm b h3 hp => ?_
  · refine wk ?_
    refine T_Num ?_
    refine wk ?_
    unfold S5_j1
    refine wk ?_
    exact hK _
  have hmay := thrMay_spec hm.2.2.2
  refine wk ?_
  refine T_Num ?_
  refine wk ?_
  unfold S5_j1
  refine wk ?_
  unfold S5_j2
  refine L_Store (hn (hp.up 1)) (by decide) (by decide) (by constructor <;> decide) fun h4 hp => ?_
  have aw : AW (newAr.put 16 0) 0 0 := ⟨newAr_ok.put _ (by constructor <;> decide), mw0_00.symm⟩
  generalize newAr.put 16 0 = A0 at hp aw
  refine T_All hp fun bv h5 hp => ?_
  rw [aw.ws, mw0_00] at hp
  refine nw hp (lvRow 36 12 [] (List.replicate 12 0) []) rfl fun lb h6 hp => ?_
  replace hp := hn (hp.re 4 [2, 0, 3, 1])
  have ox0 := Th.new_ok (pol := false) hm
  refine Lfp_fam (ι := Nat × Nat × Th × Ar) (fun q => [tsv, ptr a, ptr b, bv, ptr lb, i64 (8 * q.1 + q.2.1 : Nat), i64 (8 * q.1 + q.2.1 : Nat)]) (fun q h' => q.1 ≤ ts.length ∧ q.2.1 < 8 ∧ (q.1 = ts.length → q.2.1 = 0) ∧ q.2.2.1.ok ∧ Short q.2.2.1.evs ∧ Tm k ts q.1 q.2.1 q.2.2.1 q.2.2.2 ∧ All (arP 138 a q.2.2.2 :: pts lb (lvRow 36 12 [] (List.replicate 12 0) []) :: thP b q.2.2.1 :: rowP 1 bv (mw0.map encI) :: [baseP g]) h') (fun q => 8 * ts.length - (8 * q.1 + q.2.1)) ?_ (0, 0, Th.new 0 1 k false ts, A0) h6 ⟨Nat.zero_le _, (by show 0 < 8; decide), fun _ => rfl, ox0, (fun e h => by cases h), ⟨aw, [], none, none, 0, ⟨rfl, fun e h => by cases h⟩, rfl⟩, hp⟩
  clear hp
  rintro ⟨t, j, x, A⟩ h7 X ⟨ht1, hj, htj, ox, sx, tmx, hp⟩ again
  simp only at ht1 hj htj ox sx tmx hp
  simp only [tup_zero, tup_succ]
  have hA := (arP.at hp).2
  have h8 := hmay.1
  refine wk ?_
  refine ifV_cases (fun c1 => ?_) fun c1 => by exfalso; omega
  refine T_thDone (hn (hp.up 2)) ox.evs8 ?_
  rw [Tm.done ht1 hj tmx]
  by_cases c : t = ts.length ∧ j = 0
  · rw [decide_eq_true c]
    obtain ⟨rfl, rfl⟩ := c
    clear again
    refine wk ?_
    unfold S5_j4
    refine T_thEvents (hn (hp.up 2)) ox.evs8 sx fun ev h8 hp => ?_
    refine T_thDone (hn (hp.up 1)) ox.evs8 ?_
    rw [Tm.done ht1 hj tmx, decide_eq_true ⟨rfl, rfl⟩]
    obtain ⟨aw2, evs, ent, adv, en, ⟨q1, q2⟩, rfl⟩ := tmx
    refine wk ?_
    have el : lnV ev = some (i64 evs.length) := evP_len (evoP_evs hp)
    refine bnd_of el (bnd_of hvl ?_)
    rw [q1]
    refine wk ?_
    rw [decide_eq_true rfl]
    refine wk ?_
    refine bnd_of hvl ?_
    refine wk ?_
    rw [decide_eq_true (by omega)]
    refine wk ?_
    unfold S5_j5
    refine evoP_open hp fun ws hl hp => ?_
    rw [show (tm k ts evs none ent adv en).evs = evs from rfl] at hp hl
    refine Lfp_fam (ι := Nat) (fun i => [tsv, ptr a, ptr b, bv, ev, i64 i]) (fun i h' => i ≤ evs.length ∧ h' = h8) (fun i => evs.length - i) ?_ 0 h8 ⟨Nat.zero_le _, rfl⟩
    rintro i h9 Y ⟨hi, rfl⟩ again
    simp only [tup_zero, tup_succ]
    refine bnd_of el ?_
    refine wk ?_
    refine ifV_cases (fun c2 => ?_) fun c2 => ?_
    · obtain ⟨e, he⟩ : ∃ e, evs[i]? = some e := ⟨_, List.getElem?_eq_getElem (by omega)⟩
      obtain ⟨w, hw⟩ : ∃ w, ws[i]? = some w := ⟨_, List.getElem?_eq_getElem (by omega)⟩
      obtain ⟨f1, f2, f3, f4, f5⟩ := q2 e (List.mem_of_getElem? he)
      obtain ⟨eb, i1, i2, _, _⟩ := All.elt (i := i) hp (c := e.cells w) (by unfold evCs; rw [List.getElem?_zipWith, he, hw]) .i64
      have l3 := i2 3 1 (i64 e.decided) rfl
      have l5 := i2 5 1 (i64 e.end_) rfl
      have l6 := i2 6 1 (i64 e.attempts) rfl
      have l7 := i2 7 1 w rfl
      rw [f3] at l3
      rw [f1] at l5
      rw [f2] at l6
      refine bnd_of i1 (bnd_of rfl (bnd_of l5 ?_))
      refine wk ?_
      refine bnd_of i1 (bnd_of rfl (bnd_of l6 ?_))
      refine wk ?_
      refine bnd_of i1 (bnd_of rfl (bnd_of l3 ?_))
      refine wk ?_
      refine bnd_of i1 (bnd_of rfl (bnd_of l7 ?_))
      have ra : rowsAt h9 2 w (e.answers.map Answer.enc) := ((hn (hp.up 1)).mono1 (P := All (ansO ws evs)) (fun _ _ l p => All.le l p)) |> fun z => ansO_le z i e w he hw
      have rl := ra.len
      rw [f4] at rl
      refine bnd_of rl ?_
      refine wk ?_
      exact again (i + 1) _ ⟨by omega, rfl⟩ (by omega)
    · clear again
      refine T_All (hn (hp.up 3)) fun av h10 hp => ?_
      rw [aw2.ws, mw_z] at hp
      have bl : lnV bv = some (i64 634) := by have := All.len (hn (hp.up 6)); rw [List.length_map, mw0_len] at this; exact this
      have al : lnV av = some (i64 634) := by have := All.len hp; rw [List.length_map, List.length_set, mw0_len] at this; exact this
      refine bnd_of bl ?_
      refine wk ?_
      refine bnd_of al ?_
      refine wk ?_
      unfold S5_j6
      have h29 : ((mw0.set 29 ((ts.length : Int) * 4)).map encI)[29]? = some [i64 ((ts.length : Int) * 4)] := by
        rw [List.getElem?_map, List.getElem?_set_self (by rw [mw0_len]; decide)]; rfl
      have m29 : mw0[29]? = some 0 := by decide +kernel
      have hc29 : (mw0.map encI)[29]? = some [i64 0] := by rw [List.getElem?_map, m29]; rfl
      obtain ⟨ab, i1, i2, _, _⟩ := All.elt (i := 29) hp h29 .i64
      have l1 := i2 0 1 (i64 ((ts.length : Int) * 4)) rfl
      refine bnd_of i1 (bnd_of l1 ?_)
      replace hp := hn (hp.re 7 [6, 0, 4])
      obtain ⟨bb, j1, j2, _, j3⟩ := All.elt (i := 29) hp hc29 .i64
      obtain ⟨h11, s1, hp⟩ := j3 0 1 (i64 ((ts.length : Int) * 4)) rfl (by omega) rfl
      refine bnd_of j1 (bnd_of s1 ?_)
      have hset : (mw0.map encI).set 29 (setCells [i64 0] 0 (i64 ((ts.length : Int) * 4)).cells.toList) = (mw0.set 29 ((ts.length : Int) * 4)).map encI := by rw [List.map_set]; rfl
      rw [hset] at hp
      refine T_SameInts (All.rows hp) (All.rows (hn (hp.up 1))) ?_
      rw [decide_eq_true rfl]
      refine wk ?_
      replace hp := hn (hp.re 3 [1, 2])
      obtain ⟨ab, i1, i2, _, _⟩ := All.elt (i := 29) hp h29 .i64
      have l1 := i2 0 1 (i64 ((ts.length : Int) * 4)) rfl
      refine bnd_of i1 (bnd_of l1 ?_)
      refine bnd_of hvl ?_
      refine wk ?_
      rw [decide_eq_true (by omega)]
      refine wk ?_
      refine T_thStock (hn (hp.up 1)) ox fun h12 hp => ?_
      refine bnd_of rfl ?_
      refine bnd_of (stock_eq 0 0 0 0 0 0 0 0) ?_
      exact hK _
  · rw [decide_eq_false c]
    have htl : t < ts.length := by
      rcases Nat.lt_or_ge t ts.length with q | q
      · exact q
      · exact absurd ⟨by omega, htj (by omega)⟩ c
    refine wk ?_
    unfold S5_j3
    refine T_thStep (pre := []) (post := []) hp ox lives0_ok (by omega) fun h10 hp => ?_
    obtain ⟨r1, r2, r3⟩ := Tm.step (L := List.replicate 12 0) (pick := ((8 * t + j : Nat) : Int)) htl h8 hj (by omega) tmx
    have s := Th.step_ok (L := List.replicate 12 0) (pick := ((8 * t + j : Nat) : Int)) ox hA (by omega)
    have ss := Th.step_short (A := A) (L := List.replicate 12 0) (pick := ((8 * t + j : Nat) : Int)) ox sx
    generalize x.step A (List.replicate 12 0) ((8 * t + j : Nat) : Int) = r at hp r1 r2 r3 s ss ⊢
    obtain ⟨x2, is, e, A2, L2⟩ := r
    simp only at r1 r2 r3 s ss hp ⊢
    subst r1 r2
    refine wk ?_
    refine T_Num ?_
    refine wk ?_
    by_cases c7 : j = 7
    · rw [if_pos c7] at r3
      have := again (t + 1, 0, x2, A2) _ ⟨by simp only; omega, by simp only; omega, fun _ => rfl, s.1, ss, r3, hp⟩ (by simp only; omega)
      subst c7
      exact this
    · rw [if_neg c7] at r3
      exact again (t, j + 1, x2, A2) _ ⟨by simp only; omega, by simp only; omega, fun q => by simp only at q; omega, s.1, ss, r3, hp⟩ (by simp only; omega)
end
end Go.Proofs.YtfphpafkhljncaaGreat
