/- Several texts in one; nothing here is a statement on the program. -/
import Derived.Test.YtkflebignnmomaaGreatKF8
set_option linter.unusedVariables false
set_option linter.unusedSimpArgs false
namespace Go.Proofs.YtkflebignnmomaaGreat
open Go GW Go.Proofs
attribute [local irreducible] bnd ldV stV ifV binV eqI
set_option maxRecDepth 20000
section
variable {R : List Part} {h : GH} {K : Value → GH → Prop}
theorem T_atWonNil (hK : K (.bool false) h) : T Tryz.prog 98 [.pointer none] h K := by
  apply S98_T
  unfold S98
  refine wk ?_
  exact hK
theorem T_atAnswersNil (hK : K (.slice none 0 0) h) : T Tryz.prog 113 [.pointer none] h K := by
  apply S113_T
  unfold S113
  refine wk ?_
  exact hK
theorem ansP_set {v' : Value} {ws : List Value} {es : List Event} {i : Nat} {e' : Event} (hp : All (rowP 2 v' (e'.answers.map Answer.enc) :: ansP ws es :: R) h) : All (ansP (ws.set i v') (es.set i e') :: R) h := by
  refine (All.fold (l := [_, _]) hp).head fun h1 z j e w he hw => ?_
  rw [List.getElem?_set] at he hw
  split at he
  · rename_i c
    rw [if_pos c] at hw
    split at he
    · split at hw
      · cases he; cases hw; exact All.rows z
      · cases hw
    · cases he
  · rename_i c
    rw [if_neg c] at hw
    exact (z.tail.mono1 ansP.mono) j e w he hw
theorem ansP_same {ws : List Value} {es : List Event} {i : Nat} {e0 e' : Event} (he0 : es[i]? = some e0) (ha : e'.answers = e0.answers) (hp : All (ansP ws es :: R) h) : All (ansP ws (es.set i e') :: R) h := by
  refine hp.head fun h1 z j e w he hw => ?_
  rw [List.getElem?_set] at he
  split at he
  · rename_i c
    split at he
    · cases he; subst c; rw [ha]; exact z _ e0 w he0 hw
    · cases he
  · exact z j e w he hw
theorem ev_st {v : Value} {cs : List (List Value)} {c : List Value} {i eb j : Nat} {y : Value} {K : GH → Prop} (hp : All (rowP 8 v cs :: R) h) (hc : cs[i]? = some c) (hi : isV 8 v (i64 i) = some (.pointer (some ⟨eb, i * 8, none⟩))) (hy : y.cells.size = 1) (hy2 : y.cells.toList = [y]) (hj : j < 8)
    (k : ∀ h', All (rowP 8 v (cs.set i (c.set j y)) :: R) h' → K h') (ho : oneCell y = true := by rfl) : bnd (stV 1 (.pointer (some ⟨eb, i * 8 + j, none⟩)) y h) K := by
  obtain ⟨b', i1, _, _, i4⟩ := All.elt hp hc .i64
  rw [hi] at i1
  cases i1
  obtain ⟨h', e, hp⟩ := i4 j 1 y hy (by omega) (by rw [hy2]; simp [ho])
  rw [hy2] at hp
  exact bnd_of e (k _ hp)
theorem evTurn_set {es : List Event} {e : Event} {f : Event → Event} (h : es.getLast? = some e) : evTurn es f = es.set (es.length - 1) (f e) := by
  unfold evTurn; rw [h]
end
theorem Th.ok.limbo_small {x : Th} (o : x.ok) : x.limbo.length ≤ 200 := by
  have h1 := o.cap; have h2 := o.evs; have h3 := thrMay_spec o.txns; have h4 := o.t1; have h5 := o.k1
  have f : flagOf x.next ≤ 1 := by unfold flagOf; split <;> omega
  omega
section
variable {P1 P2 P3 : Part} {a b tb : Nat} {lp : Value} {pick : Int} {A : Ar} {R : List Part} {h : GH} {K : Value → GH → Prop} {x : Th}
theorem T_enters (hp : All (arP 75 a A :: pts tb (trRow b a lp pick) :: P3 :: thP b x :: R) h) (o : x.ok)
    (hK : ∀ h', All (arP 75 a (x.ents A).2.2 :: pts tb (trRow b a lp pick) :: P3 :: thP b (x.ents A).1 :: R) h' → K (i64 (x.ents A).2.1) h') : T Tryz.prog 40 [ptr tb] h K := by
  apply S40_T
  unfold S40
  have hp0 := hp
  refine tho hp fun v hp => ?_
  unfold thRow trRow at hp
  refine wk ?_
  unfold Th.ents at hK
  cases he : x.ent with
  | none =>
    rw [he] at hp hK
    dsimp only at hK
    have e := opP_none (hn (hp.up 9))
    rw [e]
    refine wk ?_
    refine T_enterStepNil ?_
    refine wk ?_
    unfold S40_j1
    refine wk ?_
    exact hK _ hp0
  | some n =>
    have on := o.ent n he
    rw [he] at hp hK
    dsimp only at hK
    obtain ⟨nb, e, hp1⟩ := opP_some (hn (hp.up 9))
    replace hp := hp1
    rw [e] at hp ⊢
    clear hp1
    replace hp := hp.re 4 [1, 2, 3, 0]
    replace hp := Go.Proofs.YtkflebignnmomaaGreat.hn hp
    refine wk ?_
    replace hp := hp.re 4 [2, 3, 0, 1]
    replace hp := Go.Proofs.YtkflebignnmomaaGreat.hn hp
    refine T_enterStep hp on fun h2 hp => ?_
    have os := (Ent.step_ok on (arP.at hp0).2).1
    generalize n.step A = z at hp hK os
    obtain ⟨n', code, B⟩ := z
    dsimp only at hp hK os ⊢
    refine wk ?_
    have back : ∀ {h'} {w : Th} {v' : ThV} {c : Option Ent} {ri : List Int} {li : List Ret}, All (arP 75 a B :: opP entP v'.ep c :: pts b (thRow w v') :: pts tb (trRow b a lp pick) :: P3 :: tvP v'.tv x.txns :: evsP v'.ev x.evs :: rowP 1 v'.cv (x.cache.map encI) :: rowP 2 v'.lv (li.map Ret.enc) :: rdP v'.rv ri :: opP pushP v'.up x.push :: opP popP v'.pp x.pop :: opP attP v'.ap x.att :: opP advP v'.dp x.adv :: R) h' →
        w.txns = x.txns → w.evs = x.evs → w.cache = x.cache → w.limbo = li → w.ripe = ri → w.ent = c → w.push = x.push → w.pop = x.pop → w.att = x.att → w.adv = x.adv →
        All (arP 75 a B :: pts tb (trRow b a lp pick) :: P3 :: thP b w :: R) h' := by
      intro h' w v' c ri li hp e1 e2 e3 e4 e5 e6 e7 e8 e9 e10
      refine ths (v := v') ?_
      rw [e1, e2, e3, e4, e5, e6, e7, e8, e9, e10]
      exact hn (hp.re 14 [2, 3, 0, 4, 5, 6, 7, 8, 9, 1, 10, 11, 12, 13])
    unfold S40_j1
    cases hov : n'.over with
    | false =>
      rw [if_neg (by rw [hov]; simp)] at hK
      refine wk ?_
      refine hK _ (back (v' := { v with ep := ptr nb }) (c := some n') (ri := x.ripe) (li := x.limbo) ?_ rfl rfl rfl rfl rfl rfl rfl rfl rfl rfl)
      have := opP_mk (P := entP) (hn (hp.up 1))
      exact hn (this.re 2 [1, 0])
    | true =>
      refine wk ?_
      refine ifV_cases (fun c => ?_) fun c => ?_
      · rw [if_pos ⟨hov, c⟩] at hK
        subst c
        replace hp := hp.re 4 [2, 3, 1, 0]
        replace hp := Go.Proofs.YtkflebignnmomaaGreat.hn hp
        refine wk ?_
        refine T_entEpoch (hn (hp.up 2)) ?_
        refine wk ?_
        refine T_limboTake hp (fun h' hp => All.rows (hn (hp.up 8))) o.li os.e0 (by have := os.e1; omega) (by have := o.limbo_small; omega) fun v1 v2 h3 hp => ?_
        obtain ⟨ad1, ln1, cap1, rfl⟩ := All.isSlice hp
        obtain ⟨ad2, ln2, cap2, rfl⟩ := All.isSlice (hn (hp.up 1))
        have hp := hp.head (Q := rdP _ _) fun _ z => z.rows
        replace hp := hn (hp.re 12 [2, 3, 0, 1, 4, 5, 6, 7, 8, 9])
        refine wk ?_
        refine st0 hp (thRow x { v with ep := ptr nb, rv := .slice ad1 ln1 cap1 }) rfl (Nat.le_of_ble_eq_true rfl) rfl rfl fun h4 hp => ?_
        unfold thRow at hp
        refine wk ?_
        refine st0 hp (thRow x { v with ep := ptr nb, rv := .slice ad1 ln1 cap1, lv := .slice ad2 ln2 cap2 }) rfl (Nat.le_of_ble_eq_true rfl) rfl rfl fun h5 hp => ?_
        unfold thRow at hp
        refine wk ?_
        refine st0 hp (thRow { x with next := some .fre } { v with ep := ptr nb, rv := .slice ad1 ln1 cap1, lv := .slice ad2 ln2 cap2 }) rfl (Nat.le_of_ble_eq_true rfl) rfl rfl fun h6 hp => ?_
        refine hK _ (back (v' := { v with ep := ptr nb, rv := .slice ad1 ln1 cap1, lv := .slice ad2 ln2 cap2 }) (c := some n') (ri := ripes x.limbo n'.e) (li := rests x.limbo n'.e) ?_ rfl rfl rfl rfl rfl rfl rfl rfl rfl rfl)
        have := opP_mk (P := entP) (hn (hp.up 4))
        exact hn (this.re 10 [5, 0, 1, 2, 6, 7, 8, 9, 4, 3])
      · rw [if_neg (fun q => c q.2)] at hK
        refine hK _ (back (v' := { v with ep := ptr nb }) (c := some n') (ri := x.ripe) (li := x.limbo) ?_ rfl rfl rfl rfl rfl rfl rfl rfl rfl rfl)
        have := opP_mk (P := entP) (hn (hp.up 1))
        exact hn (this.re 2 [1, 0])
theorem T_retires (hp : All (arP 75 a A :: pts tb (trRow b a lp pick) :: P3 :: thP b x :: R) h) (o : x.ok)
    (hK : ∀ h', All (arP 75 a (x.rets A).2.2 :: pts tb (trRow b a lp pick) :: P3 :: thP b (x.rets A).1 :: R) h' → K (i64 (x.rets A).2.1) h') : T Tryz.prog 82 [ptr tb] h K := by
  apply S82_T
  unfold S82
  have hA := (arP.at hp).2
  have olim := o.limbo_small
  replace hp := hn (hp.re 4 [1, 0, 2, 3])
  unfold trRow at hp
  refine wk ?_
  replace hp := hn (hp.re 4 [1, 0, 2, 3])
  refine L_Load hp (by decide) (by decide) fun h1 hp => ?_
  refine wk ?_
  refine T_epOf (Ar.at_range hA 29).2 ?_
  refine wk ?_
  unfold Th.rets at hK
  cases hi : epIs (A.at 29) with
  | false =>
    rw [hi] at hK
    refine wk ?_
    exact hK _ hp
  | true =>
    rw [hi, if_pos rfl] at hK
    refine wk ?_
    refine tho hp fun v hp => ?_
    unfold thRow at hp
    refine wk ?_
    replace hp := hn (hp.re 8 [7, 0, 1, 2, 3, 4, 5, 6])
    refine bs0 (size := 2) hp ([Ret.mk x.slot (valOf (A.at 29))].map Ret.enc) rfl rfl (by simp) (ret_good _) fun sv h2 hp => ?_
    have r2 := hp.rows
    refine ap0 (hn (hp.up 1)) r2 (ret_good _) (by decide) (by simp only [List.length_map, List.length_cons, List.length_nil]; omega) fun lv' h3 hp => ?_
    obtain ⟨ad, ln, cap, rfl⟩ := All.isSlice hp
    rw [← List.map_append] at hp
    replace hp := hn (hp.re 9 [2, 0, 3, 4, 5, 6, 7, 8])
    refine wk ?_
    refine st0 hp (thRow x { v with lv := .slice ad ln cap }) rfl (Nat.le_of_ble_eq_true rfl) rfl rfl fun h4 hp => ?_
    unfold thRow at hp
    refine wk ?_
    refine st0 hp (thRow { x with slot := -1 } { v with lv := .slice ad ln cap }) rfl (Nat.le_of_ble_eq_true rfl) rfl rfl fun h5 hp => ?_
    unfold thRow at hp
    refine wk ?_
    refine st0 hp (thRow { x with slot := -1, next := some .lea } { v with lv := .slice ad ln cap }) rfl (Nat.le_of_ble_eq_true rfl) rfl rfl fun h6 hp => ?_
    unfold thRow at hp
    refine wk ?_
    have back : ∀ {h'} {w : Th}, All (pts b (thRow w { v with lv := .slice ad ln cap }) :: rowP 2 (.slice ad ln cap) ((x.limbo ++ [Ret.mk x.slot (valOf (A.at 29))]).map Ret.enc) :: pts tb (trRow b a lp pick) :: arP 75 a (A.ld 29) :: P3 :: tvP v.tv x.txns :: evsP v.ev x.evs :: rowP 1 v.cv (x.cache.map encI) :: rdP v.rv x.ripe :: opP entP v.ep x.ent :: opP pushP v.up x.push :: opP popP v.pp x.pop :: opP attP v.ap x.att :: opP advP v.dp x.adv :: R) h' →
        w.txns = x.txns → w.evs = x.evs → w.cache = x.cache → w.limbo = x.limbo ++ [Ret.mk x.slot (valOf (A.at 29))] → w.ripe = x.ripe → w.ent = x.ent → w.push = x.push → w.pop = x.pop → w.att = x.att → w.adv = x.adv →
        All (arP 75 a (A.ld 29) :: pts tb (trRow b a lp pick) :: P3 :: thP b w :: R) h' := by
      intro h' w hp e1 e2 e3 e4 e5 e6 e7 e8 e9 e10
      refine ths (v := { v with lv := .slice ad ln cap }) ?_
      rw [e1, e2, e3, e4, e5, e6, e7, e8, e9, e10]
      exact hn (hp.re 9 [0, 2, 3, 4, 5, 6, 7, 1, 8])
    cases ha : x.att with
    | none =>
      have hwv : (x.att.map At.won).getD false = false := by rw [ha]; rfl
      rw [hwv, if_neg (by decide)] at hK
      have e := opP_none (P := attP) (hn ((show All _ h6 from by rw [ha] at hp; exact hp).up 12))
      rw [e]
      refine T_atWonNil ?_
      refine wk ?_
      exact hK _ (back hp rfl rfl rfl rfl rfl rfl rfl rfl rfl rfl)
    | some y =>
      have hwv : (x.att.map At.won).getD false = y.won := by rw [ha]; rfl
      rw [hwv] at hK
      obtain ⟨yb, e, hq⟩ := opP_some (P := attP) (hn ((show All _ h6 from by rw [ha] at hp; exact hp).up 12))
      rw [e]
      refine T_atWon hq ?_
      cases hw : y.won with
      | true =>
        rw [hw, if_pos rfl] at hK
        refine wk ?_
        refine st0 hp (thRow { x with slot := -1, next := some .lea, end_ := 0 } { v with lv := .slice ad ln cap }) rfl (Nat.le_of_ble_eq_true rfl) rfl rfl fun h7 hp => ?_
        exact hK _ (back hp rfl rfl rfl rfl rfl rfl rfl rfl rfl rfl)
      | false =>
        rw [hw, if_neg (by decide)] at hK
        refine wk ?_
        exact hK _ (back hp rfl rfl rfl rfl rfl rfl rfl rfl rfl rfl)
theorem T_leaves (hp : All (arP 75 a A :: pts tb (trRow b a lp pick) :: P3 :: thP b x :: R) h) (o : x.ok)
    (hK : ∀ h', All (arP 75 a (x.leas A).2.2 :: pts tb (trRow b a lp pick) :: P3 :: thP b (x.leas A).1 :: R) h' → K (i64 (x.leas A).2.1) h') : T Tryz.prog 70 [ptr tb] h K := by
  apply S70_T
  unfold S70
  have n0 := o.n0; have n1 := o.n1; have i0 := o.i0; have i1 := o.i1
  refine tho hp fun v hp => ?_
  unfold thRow trRow at hp
  refine wk ?_
  refine T_NewAdvance (hn (hp.re 14 [0, 1, 2, 3, 4, 5, 6, 7, 8, 9, 10, 11, 12])) n0 n1 fun db h1 hp => ?_
  replace hp := hn (hp.re 3 [1, 2, 0])
  refine wk ?_
  refine st0 hp (thRow x { v with dp := ptr db }) rfl (Nat.le_of_ble_eq_true rfl) rfl rfl fun h2 hp => ?_
  unfold thRow at hp
  refine wk ?_
  refine st0 hp (thRow { x with next := some .adv } { v with dp := ptr db }) rfl (Nat.le_of_ble_eq_true rfl) rfl rfl fun h3 hp => ?_
  unfold thRow at hp
  refine wk ?_
  replace hp := hn (hp.up 3)
  refine T_leave hp i0 (show x.id < 4 by omega) fun h4 hp => ?_
  refine hK _ (ths (v := { v with dp := ptr db }) ?_)
  have := opP_mk (P := advP) (y := Adv.new x.n) (hn (hp.up 3))
  exact hn (this.re 14 [2, 3, 1, 4, 5, 6, 7, 8, 9, 10, 11, 12, 13, 0])
theorem T_answer (hp : All (P1 :: P2 :: P3 :: thP b x :: R) h) (t0 : 0 ≤ x.tries) (t1 : x.tries < x.k) (k1 : x.k ≤ 16) (live : x.evs ≠ []) (oe : x.evs.length ≤ 8) (oa : ∀ n, x.att = some n → n.ans.length ≤ 2)
    (hK : ∀ h', All (P1 :: P2 :: P3 :: thP b (x.answer pick) :: R) h' → K (.tuple #[]) h') : T Tryz.prog 100 [ptr b, i64 pick] h K := by
  apply S100_T
  unfold S100
  refine tho hp fun v hp => ?_
  unfold thRow at hp
  refine wk ?_
  refine st0 hp (thRow { x with next := none } v) rfl (Nat.le_of_ble_eq_true rfl) rfl rfl fun h1 hp => ?_
  unfold thRow at hp
  refine wk ?_
  refine st0 hp (thRow { x with next := none, tries := x.tries + 1 } v) rfl (Nat.le_of_ble_eq_true rfl) rfl rfl fun h2 hp => ?_
  replace hp := hn (hp.up 5)
  refine evsP_open hp fun ws hl hp => ?_
  obtain ⟨e, w, g1, g2, g3, g4⟩ := evCs_last hl live
  obtain ⟨eb, i1, i2, i3, i4⟩ := All.elt hp g4 .i64
  have hlen : lnV v.ev = some (i64 x.evs.length) := by have := All.len hp; rw [evCs_len hl] at this; exact this
  have l0 := List.length_pos_iff.2 live
  replace hp := hn (hp.re 3 [2, 0, 1])
  refine T_event (x := { x with next := none, tries := x.tries + 1 }) hp hlen l0 (by omega) i1 ?_
  clear i2 i3 i4
  unfold thRow at hp
  refine wk ?_
  replace hp := hn (hp.up 1)
  refine ev_st (j := 6) hp g4 i1 rfl rfl (by decide) fun h3 hp => ?_
  rw [show (e.cells w).set 6 (i64 (x.tries + 1)) = ({ e with attempts := x.tries + 1 } : Event).cells w from rfl, evCs_set hl, set_self g3] at hp
  have hp := (ansP_same g2 (e' := { e with attempts := x.tries + 1 }) rfl (hn (hp.up 2))).re 3 [1, 2, 0]
  replace hp := hn hp
  -- the event, as it is now
  have g2' : (x.evs.set (x.evs.length - 1) { e with attempts := x.tries + 1 })[x.evs.length - 1]? = some { e with attempts := x.tries + 1 } := List.getElem?_set_self (by omega)
  have hl' : ws.length = (x.evs.set (x.evs.length - 1) { e with attempts := x.tries + 1 }).length := by rw [List.length_set]; exact hl
  have back : ∀ {h'} {y : Th} {v' : ThV} {es' : List Event} {ws' : List Value}, ws'.length = es'.length → All (rowP 8 v'.ev (evCs es' ws') :: ansP ws' es' :: pts b (thRow y v') :: P2 :: P1 :: P3 :: tvP v'.tv x.txns :: rowP 1 v'.cv (x.cache.map encI) :: rowP 2 v'.lv (x.limbo.map Ret.enc) :: rdP v'.rv x.ripe :: opP entP v'.ep x.ent :: opP pushP v'.up x.push :: opP popP v'.pp x.pop :: opP attP v'.ap x.att :: opP advP v'.dp x.adv :: R) h' →
      y.txns = x.txns → y.evs = es' → y.cache = x.cache → y.limbo = x.limbo → y.ripe = x.ripe → y.ent = x.ent → y.push = x.push → y.pop = x.pop → y.att = x.att → y.adv = x.adv →
      All (P1 :: P2 :: P3 :: thP b y :: R) h' := by
    intro h' y v' es' ws' hw hp e1 e2 e3 e4 e5 e6 e7 e8 e9 e10
    refine ths (v := v') ?_
    rw [e1, e2, e3, e4, e5, e6, e7, e8, e9, e10]
    have := evsP_shut hw hp
    exact hn (this.re 6 [1, 2, 3, 4, 5, 0])
  unfold Th.answer at hK
  replace hp := hn (hp.re 3 [1, 0, 2])
  refine wk ?_
  have j2 : ∀ h', ¬ (x.end_ = 2 ∧ x.tries + 1 < x.k) → All (pts b (thRow { x with next := none, tries := x.tries + 1 } v) :: rowP 8 v.ev (evCs (x.evs.set (x.evs.length - 1) { e with attempts := x.tries + 1 }) ws) :: ansP ws (x.evs.set (x.evs.length - 1) { e with attempts := x.tries + 1 }) :: P2 :: P1 :: P3 :: tvP v.tv x.txns :: rowP 1 v.cv (x.cache.map encI) :: rowP 2 v.lv (x.limbo.map Ret.enc) :: rdP v.rv x.ripe :: opP entP v.ep x.ent :: opP pushP v.up x.push :: opP popP v.pp x.pop :: opP attP v.ap x.att :: opP advP v.dp x.adv :: R) h' →
      S100_j2 (ptr b) (i64 pick) (.pointer (some ⟨eb, (x.evs.length - 1) * 8, none⟩)) h' K := by
    intro h' c hp
    rw [if_neg c] at hK
    have j3 : ∀ h' w' (rs : List Answer), rs = (if x.end_ = 0 then (x.att.map At.ans).getD [] else e.answers) → All (pts b (thRow { x with next := none, tries := x.tries + 1 } v) :: rowP 8 v.ev (evCs (x.evs.set (x.evs.length - 1) { e with attempts := x.tries + 1, answers := rs }) (ws.set (x.evs.length - 1) w')) :: ansP (ws.set (x.evs.length - 1) w') (x.evs.set (x.evs.length - 1) { e with attempts := x.tries + 1, answers := rs }) :: P2 :: P1 :: P3 :: tvP v.tv x.txns :: rowP 1 v.cv (x.cache.map encI) :: rowP 2 v.lv (x.limbo.map Ret.enc) :: rdP v.rv x.ripe :: opP entP v.ep x.ent :: opP pushP v.up x.push :: opP popP v.pp x.pop :: opP attP v.ap x.att :: opP advP v.dp x.adv :: R) h' →
        S100_j3 (ptr b) (i64 pick) (.pointer (some ⟨eb, (x.evs.length - 1) * 8, none⟩)) h' K := by
      intro h' w' rs ers hp
      have q2 : (x.evs.set (x.evs.length - 1) { e with attempts := x.tries + 1, answers := rs })[x.evs.length - 1]? = some { e with attempts := x.tries + 1, answers := rs } := List.getElem?_set_self (by omega)
      have q3 : (ws.set (x.evs.length - 1) w')[x.evs.length - 1]? = some w' := List.getElem?_set_self (by omega)
      have ql : (ws.set (x.evs.length - 1) w').length = (x.evs.set (x.evs.length - 1) { e with attempts := x.tries + 1, answers := rs }).length := by rw [List.length_set, List.length_set]; exact hl
      unfold S100_j3
      unfold thRow at hp
      refine wk ?_
      replace hp := hn (hp.up 1)
      refine ev_st (j := 5) hp (evCs_get q2 q3) i1 rfl rfl (by decide) fun h4 hp => ?_
      rw [show (({ e with attempts := x.tries + 1, answers := rs } : Event).cells w').set 5 (i64 x.end_) = ({ e with attempts := x.tries + 1, answers := rs, end_ := x.end_ } : Event).cells w' from rfl, evCs_set ql, set_self q3, List.set_set] at hp
      refine wk ?_
      refine ev_st (j := 4) hp (evCs_get (List.getElem?_set_self (by omega)) q3) i1 rfl rfl (by decide) fun h5 hp => ?_
      rw [show (({ e with attempts := x.tries + 1, answers := rs, end_ := x.end_ } : Event).cells w').set 4 (i64 pick) = ({ e with attempts := x.tries + 1, answers := rs, end_ := x.end_, answered := pick } : Event).cells w' from rfl, evCs_set (by rw [List.length_set, List.length_set]; exact hl), set_self q3, List.set_set] at hp
      refine wk ?_
      replace hp := hn (hp.up 1)
      refine st0 hp (thRow { x with next := none, tries := 0 } v) rfl (Nat.le_of_ble_eq_true rfl) rfl rfl fun h6 hp => ?_
      have hp := (ansP_same q2 (e' := { e with attempts := x.tries + 1, answers := rs, end_ := x.end_, answered := pick }) rfl (hn (hp.up 2))).re 3 [2, 0, 1]
      rw [List.set_set] at hp
      replace hp := hn hp
      refine hK _ (back (v' := v) (ws' := ws.set (x.evs.length - 1) w') (es' := x.evs.set (x.evs.length - 1) { e with attempts := x.tries + 1, answers := rs, end_ := x.end_, answered := pick }) (by rw [List.length_set, List.length_set]; exact hl) hp rfl ?_ rfl rfl rfl rfl rfl rfl rfl rfl)
      show evTurn x.evs _ = _
      rw [evTurn_set g1, ers]
    unfold S100_j2
    unfold thRow at hp
    refine wk ?_
    refine ifV_cases (fun c0 => ?_) fun c0 => ?_
    · refine wk ?_
      cases ha : x.att with
      | none =>
        have ee := opP_none (P := attP) (hn ((show All _ h' from by rw [ha] at hp; exact hp).up 13))
        rw [ee]
        refine T_atAnswersNil ?_
        refine wk ?_
        replace hp := hn (hp.up 1)
        refine ev_st (j := 7) hp (evCs_get g2' g3) i1 rfl rfl (by decide) fun h4 hp => ?_
        rw [show (({ e with attempts := x.tries + 1 } : Event).cells w).set 7 (.slice none 0 0) = ({ e with attempts := x.tries + 1, answers := [] } : Event).cells (.slice none 0 0) from rfl, evCs_set hl', List.set_set] at hp
        have hp := ansP_set (i := x.evs.length - 1) (e' := { e with attempts := x.tries + 1, answers := [] }) ((hn (hp.up 2)).emp_cons (rowP_nil _ _))
        rw [List.set_set] at hp
        exact j3 _ _ [] (by rw [if_pos c0, ha]; rfl) (hn (hp.re 3 [2, 1, 0]))
      | some y =>
        obtain ⟨yb, ee, hq⟩ := opP_some (P := attP) (hn ((show All _ h' from by rw [ha] at hp; exact hp).up 13))
        rw [ee]
        refine T_atAnswers hq (by have := oa y ha; omega) fun av h4 hp => ?_
        obtain ⟨ad, ln, cap, rfl⟩ := All.isSlice hp
        have hp := opP_mk (P := attP) (hn (hp.up 1))
        rw [← ee, ← ha] at hp
        replace hp := hn (hp.re 16 [3, 1, 4, 2, 5, 6, 7, 8, 9, 10, 11, 12, 13, 14, 0, 15])
        refine wk ?_
        refine ev_st (j := 7) hp (evCs_get g2' g3) i1 rfl rfl (by decide) fun h5 hp => ?_
        rw [show (({ e with attempts := x.tries + 1 } : Event).cells w).set 7 (.slice ad ln cap) = ({ e with attempts := x.tries + 1, answers := y.ans } : Event).cells (.slice ad ln cap) from rfl, evCs_set hl', List.set_set] at hp
        have hp := ansP_set (i := x.evs.length - 1) (e' := { e with attempts := x.tries + 1, answers := y.ans }) (hn (hp.re 3 [1, 2, 0]))
        rw [List.set_set] at hp
        exact j3 _ _ y.ans (by rw [if_pos c0, ha]; rfl) (hn (hp.re 3 [2, 1, 0]))
    · refine j3 _ w e.answers (by rw [if_neg c0]) ?_
      rw [set_self g3]
      exact hp
  refine ifV_cases (fun c => ?_) fun c => ?_
  · refine wk ?_
    unfold S100_j1
    refine ifV_cases (fun c2 => ?_) fun c2 => ?_
    · rw [if_pos ⟨c, c2⟩] at hK
      refine wk ?_
      refine T_Pause (by omega) (by omega) ?_
      refine wk ?_
      refine st0 hp (thRow { x with next := none, tries := x.tries + 1, pause := pauseM x.pol (x.tries + 1) } v) rfl (Nat.le_of_ble_eq_true rfl) rfl rfl fun h4 hp => ?_
      refine hK _ (back hl' (hn (hp.re 3 [1, 2, 0])) rfl ?_ rfl rfl rfl rfl rfl rfl rfl rfl)
      show evTurn x.evs _ = _
      rw [evTurn_set g1]
    · exact j2 _ (fun q => c2 q.2) hp
  · unfold S100_j1
    refine wk ?_
    exact j2 _ (fun q => c q.1) hp
end
end Go.Proofs.YtkflebignnmomaaGreat
namespace Go.Proofs.YtkflebignnmomaaGreat
open Go GW Go.Proofs
attribute [local irreducible] bnd ldV stV ifV binV eqI
set_option maxRecDepth 20000
section
variable {P1 P2 P3 : Part} {a b tb lb sz : Nat} {U : TypeId} {pre post : List Value} {lp : Value} {pick : Int} {A : Ar} {L : List Int} {R : List Part} {h : GH} {K : Value → GH → Prop} {x : Th}
theorem T_advances (hp : All (arP 75 a A :: pts tb (trRow b a lp pick) :: P3 :: thP b x :: R) h) (o : x.ok) (hx : x.next = some .adv)
    (hK : ∀ h', All (arP 75 a (x.advs A pick).2.2 :: pts tb (trRow b a lp pick) :: P3 :: thP b (x.advs A pick).1 :: R) h' → K (i64 (x.advs A pick).2.1) h') : T Tryz.prog 86 [ptr tb] h K := by
  apply S86_T
  unfold S86
  have live := o.live (.inl (by rw [hx]; simp))
  have oe : x.evs.length ≤ 8 := by have := o.evs; have := thrMay_spec o.txns; omega
  have hp0 := hp
  refine tho hp fun v hp => ?_
  unfold thRow trRow at hp
  refine wk ?_
  unfold Th.advs at hK
  cases he : x.adv with
  | none =>
    rw [he] at hp hK
    dsimp only at hK
    have e := opP_none (hn (hp.up 13))
    rw [e]
    refine wk ?_
    refine T_advStepNil ?_
    refine wk ?_
    unfold S86_j1
    refine wk ?_
    exact hK _ hp0
  | some d =>
    have od := o.adv d he
    rw [he] at hp hK
    dsimp only at hK
    obtain ⟨db, e, hp1⟩ := opP_some (hn (hp.up 13))
    replace hp := hp1
    rw [e] at hp ⊢
    clear hp1
    replace hp := hp.re 4 [1, 2, 3, 0]
    replace hp := Go.Proofs.YtkflebignnmomaaGreat.hn hp
    refine wk ?_
    replace hp := hp.re 4 [2, 3, 0, 1]
    replace hp := Go.Proofs.YtkflebignnmomaaGreat.hn hp
    refine T_advStep hp od fun h2 hp => ?_
    generalize d.step A = z at hp hK
    obtain ⟨d', code, B⟩ := z
    dsimp only at hp hK ⊢
    refine wk ?_
    have hp2 : All (arP 75 a B :: pts tb (trRow b a lp pick) :: P3 :: thP b { x with adv := some d' } :: R) h2 := by
      refine ths (v := { v with dp := ptr db }) ?_
      have := opP_mk (P := advP) (hn (hp.up 1))
      exact hn (this.re 14 [2, 3, 1, 4, 5, 6, 7, 8, 9, 10, 11, 12, 13, 0])
    unfold S86_j1
    cases hov : d'.over with
    | false =>
      rw [if_neg (by rw [hov]; simp)] at hK
      refine wk ?_
      exact hK _ hp2
    | true =>
      refine wk ?_
      refine ifV_cases (fun c => ?_) fun c => ?_
      · rw [if_pos ⟨hov, c⟩] at hK
        subst c
        replace hp := hn (hp2.re 4 [1, 0, 2, 3])
        unfold trRow at hp
        refine wk ?_
        refine T_answer hp o.t0 o.t1 o.k1 live oe (fun n hn => (o.att n hn).2) fun h3 hp => ?_
        exact hK _ (hn (hp.re 4 [1, 0, 2, 3]))
      · rw [if_neg (fun q => c q.2)] at hK
        exact hK _ hp2
theorem T_thDone (hp : All (thP b x :: R) h) (oe : x.evs.length ≤ 8) (hK : K (.bool x.done) h) : T Tryz.prog 24 [ptr b] h K := by
  apply S24_T
  unfold S24
  refine thP_open hp fun v hp => ?_
  unfold thRow at hp
  refine wk ?_
  have hlen := evP_len (hn (hp.up 2))
  refine bnd_of hlen ?_
  refine wk ?_
  have htl : lnV v.tv = some (i64 x.txns.length) := by
    refine tvP_open (hn (hp.up 1)) fun cs hq => ?_
    have := hq.mono1 tv1.mono
    have h2 := this.1.len
    rw [this.2.1] at h2; exact h2
  refine bnd_of htl ?_
  refine wk ?_
  unfold Th.done at hK
  refine ifV_cases (fun c => ?_) fun c => ?_
  · rw [decide_eq_true (by omega), Bool.true_and] at hK
    refine wk ?_
    refine ifV_cases (fun c2 => ?_) fun c2 => ?_
    · have : x.evs = [] := List.length_eq_zero_iff.1 (by omega)
      rw [this] at hK
      exact hK
    · refine wk ?_
      refine evsP_open (hn (hp.up 2)) fun ws hl hp => ?_
      have live : x.evs ≠ [] := fun e => c2 (by rw [e]; rfl)
      obtain ⟨e, w, g1, g2, g3, g4⟩ := evCs_last hl live
      obtain ⟨eb, i1, i2, i3, i4⟩ := All.elt hp g4 .i64
      rw [g1] at hK
      have l0 := List.length_pos_iff.2 live
      rw [show (x.evs.length : Int) - 1 = ((x.evs.length - 1 : Nat) : Int) by omega]
      refine bnd_of i1 (bnd_of rfl (bnd_of (i2 4 1 (i64 e.answered) rfl) ?_))
      refine wk ?_
      exact hK
  · rw [decide_eq_false (by omega), Bool.false_and] at hK
    refine wk ?_
    exact hK
theorem evCs_snoc {es : List Event} {ws : List Value} (hl : ws.length = es.length) {e : Event} {w : Value} : evCs es ws ++ [e.cells w] = evCs (es ++ [e]) (ws ++ [w]) := by
  unfold evCs
  rw [List.zipWith_append hl.symm]; rfl
theorem ansP_snoc {ws : List Value} {es : List Event} {e' : Event} (ha : e'.answers = []) (hl : ws.length = es.length) (hp : All (ansP ws es :: R) h) : All (ansP (ws ++ [.slice none 0 0]) (es ++ [e']) :: R) h := by
  refine hp.head fun h1 z j e w he hw => ?_
  rw [List.getElem?_append] at he hw
  split at he
  · rw [if_pos (by omega)] at hw; exact z j e w he hw
  · rw [if_neg (by omega)] at hw
    have : j - es.length = 0 := by
      rcases Nat.eq_zero_or_pos (j - es.length) with q | q
      · exact q
      · rw [List.getElem?_eq_none (by simp; omega)] at he; cases he
    rw [this] at he
    rw [hl, this] at hw
    cases he; cases hw
    rw [ha]; exact rowsAt_nil _ _
theorem T_begin (hp : All (thP b x :: R) h) (o : x.ok) (hx : x.next = none)
    (hK : ∀ h', All (thP b (x.begin pick).1 :: R) h' → K (.bool (x.begin pick).2) h') : T Tryz.prog 28 [ptr b, i64 pick] h K := by
  apply S28_T
  unfold S28
  have oe : x.evs.length ≤ 8 := by have := o.evs; have := thrMay_spec o.txns; omega
  refine T_thDone hp oe ?_
  unfold Th.begin at hK
  cases hd : x.done with
  | true => rw [hd] at hK; refine wk ?_; exact hK _ hp
  | false =>
    rw [hd] at hK
    simp only [Bool.false_eq_true, if_false] at hK
    refine wk ?_
    refine thP_open hp fun v hp => ?_
    have p1 := o.p1; have i0 := o.i0; have i1 := o.i1; have n1 := o.n1
    unfold thRow at hp
    refine wk ?_
    refine ifV_cases (fun c => ?_) fun c => ?_
    · rw [if_pos c] at hK
      refine wk ?_
      refine st0 hp (thRow { x with pause := x.pause - 1 } v) rfl (Nat.le_of_ble_eq_true rfl) rfl rfl fun h1 hp => ?_
      exact hK _ (thP_shut (v := v) (x := { x with pause := x.pause - 1 }) hp)
    · rw [if_neg c] at hK
      have j1 : ∀ (es : List Event) (ev : Value) h', es = (if x.tries = 0 then x.evs ++ [⟨x.id, x.evs.length, pick, -1, -1, 0, 0, []⟩] else x.evs) → All (pts b (thRow x { v with ev := ev }) :: tvP v.tv x.txns :: evsP ev es :: rowP 1 v.cv (x.cache.map encI) :: rowP 2 v.lv (x.limbo.map Ret.enc) :: rdP v.rv x.ripe :: opP entP v.ep x.ent :: opP pushP v.up x.push :: opP popP v.pp x.pop :: opP attP v.ap x.att :: opP advP v.dp x.adv :: R) h' →
          S28_j1 (ptr b) h' K := by
        intro es ev h' ees hp
        unfold S28_j1
        unfold thRow at hp
        refine wk ?_
        refine T_NewEnter (hn (hp.re 11 [0, 1, 2, 3, 4, 5, 7, 8, 9, 10])) i0 (by omega) fun nb h1 hp => ?_
        replace hp := hn (hp.re 2 [1, 0])
        refine wk ?_
        refine st0 hp (thRow x { v with ev := ev, ep := ptr nb }) rfl (Nat.le_of_ble_eq_true rfl) rfl rfl fun h2 hp => ?_
        unfold thRow at hp
        refine wk ?_
        refine st0 hp (thRow { x with end_ := 2 } { v with ev := ev, ep := ptr nb }) rfl (Nat.le_of_ble_eq_true rfl) rfl rfl fun h3 hp => ?_
        unfold thRow at hp
        refine wk ?_
        refine st0 hp (thRow { x with end_ := 2, next := some .ent } { v with ev := ev, ep := ptr nb }) rfl (Nat.le_of_ble_eq_true rfl) rfl rfl fun h4 hp => ?_
        refine hK _ (thP_shut (v := { v with ev := ev, ep := ptr nb }) ?_)
        have := opP_mk (P := entP) (y := Ent.new x.id) (hn (hp.up 1))
        have := hn (this.re 11 [1, 2, 3, 4, 5, 6, 0, 7, 8, 9, 10])
        rw [ees] at this
        exact this
      refine wk ?_
      refine ifV_cases (fun c2 => ?_) fun c2 => ?_
      · refine wk ?_
        have hlen := evP_len (hn (hp.up 2))
        refine bnd_of hlen (bnd_of rfl ?_)
        replace hp := hn (hp.up 2)
        refine evsP_open hp fun ws hl hp => ?_
        have eg : good 8 ((⟨x.id, x.evs.length, pick, -1, -1, 0, 0, []⟩ : Event).cells (.slice none 0 0)) := ⟨rfl, rfl⟩
        refine bs0 (size := 8) hp [(⟨x.id, x.evs.length, pick, -1, -1, 0, 0, []⟩ : Event).cells (.slice none 0 0)] rfl rfl (by simp) (fun c hc => by rw [List.mem_singleton.1 hc]; exact eg) fun sv h2 hp => ?_
        have r2 := hp.rows
        refine ap0 (hn (hp.up 1)) r2 (fun c hc => by rw [List.mem_singleton.1 hc]; exact eg) (by decide) (by rw [evCs_len hl]; simp only [List.length_cons, List.length_nil]; omega) fun ev' h3 hp => ?_
        obtain ⟨ad, ln, cap, rfl⟩ := All.isSlice hp
        rw [evCs_snoc hl] at hp
        have hp := ansP_snoc (e' := ⟨x.id, x.evs.length, pick, -1, -1, 0, 0, []⟩) rfl hl (hn (hp.re 3 [2, 0]))
        have hl2 : (ws ++ [Value.slice none 0 0]).length = (x.evs ++ [(⟨x.id, x.evs.length, pick, -1, -1, 0, 0, []⟩ : Event)]).length := by simp [hl]
        have hp := evsP_shut hl2 (hn (hp.re 2 [1, 0]))
        replace hp := hn (hp.re 3 [1, 2, 0])
        refine wk ?_
        refine st0 hp (thRow x { v with ev := .slice ad ln cap }) rfl (Nat.le_of_ble_eq_true rfl) rfl rfl fun h4 hp => ?_
        exact j1 _ _ _ (by rw [if_pos c2]) hp
      · refine wk ?_
        exact j1 x.evs v.ev _ (by rw [if_neg c2]) hp
def Th.z (x : Th) : Th := { x with ts := -1, tg := 0 }
theorem Th.step_dead (h : x.dead = true) : x.step A L pick = (x, false, 1800, A, L) := by unfold Th.step; rw [if_pos h]
theorem Th.step_some {a : Act} (h : x.dead = false) (hx : x.next = some a) : x.step A L pick = Th.ended (x.z.act A L pick a) := by
  unfold Th.step
  rw [if_neg (by rw [h]; decide)]
  show (match x.next with | some a => Th.ended (x.z.act A L pick a) | none => _) = _
  rw [hx]
theorem Th.step_none (h : x.dead = false) (hx : x.next = none) : x.step A L pick = if (x.z.begin pick).2 then Th.ended ((x.z.begin pick).1.act A L pick .ent) else ((x.z.begin pick).1, false, 0, A, L) := by
  unfold Th.step
  rw [if_neg (by rw [h]; decide)]
  show (match x.next with | some a => _ | none => if (x.z.begin pick).2 then Th.ended ((x.z.begin pick).1.act A L pick .ent) else ((x.z.begin pick).1, false, 0, A, L)) = _
  rw [hx]
theorem T_thStep (hp : All (arP 75 a A :: pts lb (lvRow U sz pre L post) :: thP b x :: R) h) (o : x.ok) (lo : Lok L) (hpick : 0 ≤ pick)
    (hK : ∀ h', All (arP 75 a (x.step A L pick).2.2.2.1 :: pts lb (lvRow U sz pre (x.step A L pick).2.2.2.2 post) :: thP b (x.step A L pick).1 :: R) h' → K (.tuple #[.bool (x.step A L pick).2.1, i64 (x.step A L pick).2.2.1]) h') : T Tryz.prog 17 [ptr b, ptr a, lvP pre.length lb, i64 pick] h K := by
  apply S17_T
  unfold S17
  unfold lvP
  refine wk ?_
  unfold S17_j1
  refine wk ?_
  refine thP_open (hn (hp.up 2)) fun v hq => ?_
  replace hp := hq
  clear hq
  unfold thRow at hp
  refine wk ?_
  cases hd : x.dead with
  | true =>
    rw [Th.step_dead hd] at hK
    refine wk ?_
    exact hK _ (hn ((thP_shut (v := v) hp).re 3 [1, 2, 0]))
  | false =>
    refine wk ?_
    unfold S17_j2
    refine wk ?_
    refine st0 hp (thRow { x with ts := -1, tg := 0 } v) rfl (Nat.le_of_ble_eq_true rfl) rfl rfl fun h1 hp => ?_
    have o1 : x.z.ok := { o with }
    have j3 : ∀ (y : Th) (act : Act) h', y.ok → y.next = some act → All (arP 75 a A :: pts lb (lvRow U sz pre L post) :: thP b y :: R) h' →
        (∀ h'', All (arP 75 a (Th.ended (y.act A L pick act)).2.2.2.1 :: pts lb (lvRow U sz pre (Th.ended (y.act A L pick act)).2.2.2.2 post) :: thP b (Th.ended (y.act A L pick act)).1 :: R) h'' → K (.tuple #[.bool (Th.ended (y.act A L pick act)).2.1, i64 (Th.ended (y.act A L pick act)).2.2.1]) h'') →
        S17_j3 (ptr b) (ptr a) (.pointer (some ⟨lb, pre.length, none⟩)) (i64 pick) h' K := by
      intro y act h' oy hy hp hK
      unfold S17_j3
      refine thP_open (hn (hp.up 2)) fun v hq => ?_
      have hp0 := hp
      replace hp := hq
      clear hq
      unfold thRow at hp
      refine wk ?_
      replace hp := hp0
      refine nw hp (trRow b a (lvP pre.length lb) pick) rfl fun tb h2 hp => ?_
      replace hp := hn (hp.re 4 [1, 0, 2, 3])
      have live := oy.live (.inl (by rw [hy]; simp))
      -- behind the action
      have fin : ∀ (r : (Th × Int × Ar) × List Int) h', r = y.act A L pick act → All (arP 75 a r.1.2.2 :: pts tb (trRow b a (lvP pre.length lb) pick) :: pts lb (lvRow U sz pre r.2 post) :: thP b r.1.1 :: R) h' →
          bnd (eqI (i64 r.1.2.1) (.int .i64 0)) fun b9 => ifV (.bool (!b9)) (bnd (ncV (ptr b)) fun v10 => bnd (faV 7 v10) fun v11 => bnd (stV 1 v11 (.bool true) h') fun h12 => K (.tuple #[(.bool true), (.int .i64 1800)]) h12) (K (.tuple #[(.bool true), (.int .i64 0)]) h') := by
        intro r h' er hp
        rw [← er] at hK
        unfold Th.ended at hK
        refine wk ?_
        by_cases c : r.1.2.1 = 0
        · rw [if_pos c] at hK
          rw [decide_eq_true c]
          refine wk ?_
          exact hK _ (hn (hp.re 4 [0, 2, 3]))
        · rw [if_neg c] at hK
          rw [decide_eq_false c]
          refine wk ?_
          refine thP_open (hn (hp.up 3)) fun v hq => ?_
          replace hp := hq
          clear hq
          unfold thRow at hp
          refine wk ?_
          refine st0 hp (thRow { r.1.1 with dead := true } v) rfl (Nat.le_of_ble_eq_true rfl) rfl rfl fun h3 hp => ?_
          have := thP_shut (v := v) (x := { r.1.1 with dead := true }) hp
          exact hK _ (hn (this.re 4 [1, 3, 0]))
      rw [hy]
      cases act with
      | ent => exact T_enters hp oy fun h3 hp => fin (y.act A L pick .ent) _ rfl hp
      | fre => exact T_frees hp oy hy live lo fun h3 hp => fin (y.act A L pick .fre) _ rfl hp
      | tak => exact T_takes hp oy live lo fun h3 hp => fin (y.act A L pick .tak) _ rfl hp
      | tri => exact T_tries hp (fun n hn => (oy.att n hn).1) fun h3 hp => fin (y.act A L pick .tri) _ rfl hp
      | ret => exact T_retires hp oy fun h3 hp => fin (y.act A L pick .ret) _ rfl hp
      | lea => exact T_leaves hp oy fun h3 hp => fin (y.act A L pick .lea) _ rfl hp
      | adv => exact T_advances hp oy hy fun h3 hp => fin (y.act A L pick .adv) _ rfl hp
    unfold thRow at hp
    refine wk ?_
    have hp1 : All (thP b x.z :: arP 75 a A :: pts lb (lvRow U sz pre L post) :: R) h1 := thP_shut (v := v) hp
    cases hnx : x.next with
    | some act =>
      rw [Th.step_some hd hnx] at hK
      have enx : eqK NK.func true (actV (some act)) Value.nilFunc = some false := by cases act <;> rfl
      refine bnd_of enx ?_
      refine wk ?_
      exact j3 _ act _ o1 hnx (hn (hp1.re 3 [1, 2, 0])) hK
    | none =>
      rw [Th.step_none hd hnx] at hK
      refine wk ?_
      refine T_begin (pick := pick) hp1 o1 hnx fun h2 hp => ?_
      have hb := Th.begin_ok (pick := pick) o1 hnx
      generalize x.z.begin pick = r at hp hK hb
      obtain ⟨y, bb⟩ := r
      dsimp only at hp hK hb ⊢
      cases bb with
      | false =>
        rw [if_neg (by decide)] at hK
        refine wk ?_
        exact hK _ (hn (hp.re 3 [1, 2, 0]))
      | true =>
        rw [if_pos rfl] at hK
        refine wk ?_
        exact j3 y .ent _ hb.1 (hb.2 rfl) (hn (hp.re 3 [1, 2, 0])) hK
end
end Go.Proofs.YtkflebignnmomaaGreat
namespace Go.Proofs.YtkflebignnmomaaGreat
open Go GW Go.Proofs
theorem Plan.may_of {p : Plan} (h1 : 1 ≤ p.threads.length) (h2 : p.threads.length ≤ 4) (h3 : 1 ≤ p.attempts) (h4 : p.attempts ≤ 16) : p.may = p.threads.all thrMay := by
  unfold Plan.may; rw [decide_eq_true ⟨h1, h2, h3, h4⟩]; rfl
theorem Plan.may_not {p : Plan} (h : ¬ (1 ≤ p.threads.length ∧ p.threads.length ≤ 4 ∧ 1 ≤ p.attempts ∧ p.attempts ≤ 16)) : p.may = false := by
  unfold Plan.may; rw [decide_eq_false h]; rfl
theorem all_false {α : Type} {p : α → Bool} {l : List α} {x : α} {i : Nat} (h : l[i]? = some x) (hx : p x = false) : l.all p = false :=
  List.all_eq_false.2 ⟨x, List.mem_of_getElem? h, by rw [hx]; decide⟩
theorem all_snoc {α : Type} {p : α → Bool} {l : List α} {x : α} {i : Nat} (h : l[i]? = some x) (ht : (l.take i).all p = true) (hx : p x = true) : (l.take (i + 1)).all p = true := by
  rw [List.take_add_one, h, List.all_append, ht]; simpa using hx
theorem T_scriptMay {v : Value} {p : Plan} {h : GH} {K : Value → GH → Prop} (hp : threadsAt h v p.threads) (hK : K (.bool p.may) h) : T Tryz.prog 13 [.agg (planC v p).toArray] h K := by
  apply T.drop
  apply S13_T
  unfold S13
  obtain ⟨es, re, ae⟩ := hp
  have hln := re.len
  have hmx := re.max
  rw [ae.1] at hln hmx
  intro b hb
  have l := (HLe.refl h).new (.row 24 (planC v p) 3 true) hb
  refine bnd_of rfl (bnd_of (v := v) (by rw [ldV_same]; rfl) (bnd_of hln (bnd_of (binV_lss _ _ _) ?_)))
  rw [ifV_dec]
  split
  · rename_i c1
    rw [Plan.may_not (by omega)] at hK
    exact ⟨h, l, hK⟩
  rename_i c1
  refine bnd_of rfl (bnd_of (v := v) (by rw [ldV_same]; rfl) (bnd_of hln (bnd_of (binV_gtr _ _ _) ?_)))
  rw [ifV_dec]
  split
  · rename_i c2
    rw [Plan.may_not (by omega)] at hK
    exact ⟨h, l, hK⟩
  rename_i c2
  refine bnd_of rfl (bnd_of (v := i64 p.attempts) (by rw [ldV_same]; rfl) (bnd_of (binV_lss _ _ _) ?_))
  rw [ifV_dec]
  split
  · rename_i c3
    rw [Plan.may_not (by omega)] at hK
    exact ⟨h, l, hK⟩
  rename_i c3
  refine bnd_of rfl (bnd_of (v := i64 p.attempts) (by rw [ldV_same]; rfl) (bnd_of (binV_gtr _ _ _) ?_))
  rw [ifV_dec]
  split
  · rename_i c4
    rw [Plan.may_not (by omega)] at hK
    exact ⟨h, l, hK⟩
  rename_i c4
  rw [Plan.may_of (by omega) (by omega) (by omega) (by omega)] at hK
  unfold S13_j1
  refine bnd_of rfl (bnd_of (v := v) (by rw [ldV_same]; rfl) (bnd_of hln ?_))
  refine Lfp_fam (ι := Nat) (fun i => [v, i64 p.threads.length, i64 i]) (fun i h' => i ≤ p.threads.length ∧ HLe h h' ∧ (p.threads.take i).all thrMay = true) (fun i => p.threads.length - i) ?_ 0 _ ⟨Nat.zero_le _, l, rfl⟩
  intro i h1 X ⟨hi, l1, hok⟩ again
  simp only [tup_zero, tup_succ, binV_lss, bnd_some, ifV_dec]
  split
  · rename_i hlt
    obtain ⟨ts, hts⟩ : ∃ ts, p.threads[i]? = some ts := ⟨_, List.getElem?_eq_getElem (by omega)⟩
    obtain ⟨c, hc, w, ws, rfl, rw1, aw⟩ := ae.get hts
    have hlw := rw1.len
    have hmw := rw1.max
    rw [aw.1] at hlw hmw
    obtain ⟨q, hq, hlq⟩ := (re.le l1).get1 (i := i) (x := w) hc .i64
    refine bnd_of hq (bnd_of hlq (bnd_of hlw (bnd_of (binV_gtr _ _ _) ?_)))
    rw [ifV_dec]
    split
    · rename_i c5
      rw [all_false hts (by unfold thrMay; rw [decide_eq_false (by omega)]; rfl)] at hK
      exact ⟨h, l1, hK⟩
    rename_i c5
    refine bnd_of hlw ?_
    refine Lfp_fam (ι := Nat) (fun j => [v, i64 p.threads.length, i64 i, w, i64 ts.length, i64 j]) (fun j h' => j ≤ ts.length ∧ HLe h h' ∧ (ts.take j).all Txn.may = true) (fun j => ts.length - j) ?_ 0 _ ⟨Nat.zero_le _, l1, rfl⟩
    intro j h2 Y ⟨hj, l2, hok2⟩ again2
    simp only [tup_zero, tup_succ, binV_lss, bnd_some, ifV_dec]
    split
    · rename_i hlt2
      obtain ⟨t, ht⟩ : ∃ t, ts[j]? = some t := ⟨_, List.getElem?_eq_getElem (by omega)⟩
      obtain ⟨c, hc2, u, rfl, ru⟩ := aw.get ht
      obtain ⟨q2, hq2, hlq2⟩ := (rw1.le l2).get (i := j) (c := [u]) hc2 .i64
      refine bnd_of hq2 (bnd_of hlq2 ?_)
      intro b3 hb3
      have l3 := l2.new (.row 49 [u] 1 true) (l2.none hb3)
      by_cases hu : oneCell u = true
      · refine bnd_of (v := upd h2 b3 (.row 49 [u] 1 true)) (by rw [stV_same, if_pos ⟨rfl, by decide, by simp [cells_agg, hu]⟩]; rfl) ?_
        refine bnd_of rfl (bnd_of (v := u) (by rw [ldV_same]; rfl) ?_)
        refine T_OpsMay (ru.le l3) (bnd_of rfl ?_)
        rw [ifV_iff]
        split
        · rename_i hm
          rw [all_false hts (by unfold thrMay; rw [all_false ht (by simpa using hm)]; simp)] at hK
          exact ⟨h, l3, hK⟩
        · rename_i hm
          refine bnd_of (binV_add _ _ _) ?_
          rw [wrap_id (by omega) (by omega)]
          exact again2 (j + 1) _ ⟨by omega, l3, all_snoc ht hok2 (by simpa using hm)⟩ (by omega)
      · obtain ⟨_, _, _, rfl, _⟩ := ru
        exact absurd rfl hu
    · rename_i hge
      rw [List.take_of_length_le (by omega)] at hok2
      refine bnd_of (binV_add _ _ _) ?_
      rw [wrap_id (by omega) (by omega)]
      exact again (i + 1) _ ⟨by omega, l2, all_snoc hts hok (by unfold thrMay; rw [hok2, decide_eq_true (by omega)]; rfl)⟩ (by omega)
  · rename_i hge
    rw [List.take_of_length_le (by omega)] at hok
    rw [hok] at hK
    exact ⟨h, l1, hK⟩
attribute [local irreducible] bnd ldV stV ifV binV eqI
set_option maxRecDepth 20000
def ansO : List Value → List Event → List Part
  | w :: ws, e :: es => rowP 2 w (e.answers.map Answer.enc) :: ansO ws es
  | _, _ => []
def evoP (v : Value) (es : List Event) : Part := fun h => ∃ ws, All [evP v ws es, All (ansO ws es)] h
def Short (es : List Event) : Prop := ∀ e ∈ es, e.answers.length ≤ 2
section
variable {R : List Part} {h : GH} {K : Value → GH → Prop} {b : Nat} {x : Th}
theorem ansO_le : ∀ {ws : List Value} {es : List Event} {h : GH}, All (ansO ws es) h → ansP ws es h := by
  intro ws
  induction ws with
  | nil => intro es h _ i e w _ h2; simp at h2
  | cons w ws ih =>
    intro es h z i e w' h1 h2
    cases es with
    | nil => simp at h1
    | cons x es =>
      have z : All (rowP 2 w (x.answers.map Answer.enc) :: ansO ws es) h := z
      cases i with
      | zero => simp at h1 h2; subst h1; subst h2; exact All.rows z
      | succ i => exact ih z.tail i e w' (by simpa using h1) (by simpa using h2)
theorem evoP_open {C : Prop} {v : Value} {es : List Event} (hp : All (evoP v es :: R) h) (k : ∀ ws, ws.length = es.length → All (rowP 8 v (evCs es ws) :: All (ansO ws es) :: R) h → C) : C := by
  obtain ⟨ws, hp⟩ := All.ex hp
  have hp : All (evP v ws es :: All (ansO ws es) :: R) h := All.flat hp
  obtain ⟨e, hp⟩ := All.pure hp
  exact k ws e hp
theorem evoP_shut {v : Value} {ws : List Value} {es : List Event} (hl : ws.length = es.length) (hp : All (rowP 8 v (evCs es ws) :: All (ansO ws es) :: R) h) : All (evoP v es :: R) h :=
  (All.fold (l := [evP v ws es, All (ansO ws es)]) (hp.head fun _ z => ⟨hl, z⟩)).head fun h1 z => ⟨ws, z⟩
theorem evoP_evs {v : Value} {es : List Event} (hp : All (evoP v es :: R) h) : All (evsP v es :: R) h :=
  evoP_open hp fun ws hl hp => evsP_shut hl (hp.mono2 fun _ z => z.head fun _ p => ansO_le p)
theorem evoP_nil : evoP (.slice none 0 0) [] h := ⟨[], All.two ⟨rfl, rowP_nil _ _⟩ trivial⟩
theorem T_CloneAnswersR {v : Value} {xs : List Answer} (hp : All R h) (hr : ∀ h', All R h' → rowsAt h' 2 v (xs.map Answer.enc)) (hb : xs.length ≤ 1000) (hK : ∀ v' h', All (rowP 2 v' (xs.map Answer.enc) :: R) h' → K v' h') : T Tryz.prog 34 [v] h K := by
  apply S34_T
  unfold S34
  have r := hr _ hp
  obtain ⟨ad, n, cap, rfl, hl, h1, h2, hx⟩ := r
  rw [List.length_map] at hl
  cases ad with
  | none =>
    have hx0 : xs = [] := by
      cases xs with
      | nil => rfl
      | cons y ys =>
        obtain ⟨bb, off, T, pre, sz, f, e, _⟩ := hx 0 y.enc rfl
        cases e
    subst hx0
    have n0 : n = 0 := hl.symm
    subst n0
    by_cases hc : cap = 0
    · subst hc
      refine wk ?_
      exact hK _ _ (hp.emp_cons (rowP_nil 2 _))
    · refine wk ?_
      exact hK _ _ (hp.emp_cons (rowP_nil 2 _))
  | some q =>
    refine wk ?_
    refine bs0 (size := 2) hp [] rfl rfl (by simp) (fun c hc => by cases hc) fun nv h1 hp => ?_
    have hr := hr _ hp.tail
    refine ap0 hp hr (Answer.all_good xs) (by decide) (by simp; omega) fun nv' h2 hp => ?_
    exact hK _ _ hp
theorem evs_good {v : Value} {es : List Event} {ws : List Value} (hp : All (rowP 8 v (evCs es ws) :: R) h) : ∀ c ∈ evCs es ws, Go.Proofs.YtkflebignnmomaaGreat.good 8 c := hp.row.good.1
theorem T_CloneEvents {v : Value} {es : List Event} {ws : List Value} (hp : All R h) (hr : ∀ h', All R h' → rowsAt h' 8 v (evCs es ws)) (hg : ∀ c ∈ evCs es ws, Go.Proofs.YtkflebignnmomaaGreat.good 8 c) (hb : (evCs es ws).length ≤ 1000) (hK : ∀ v' h', All (rowP 8 v' (evCs es ws) :: R) h' → K v' h') : T Tryz.prog 33 [v] h K := by
  apply S33_T
  unfold S33
  have r := hr _ hp
  obtain ⟨ad, n, cap, rfl, hl, h1, h2, hx⟩ := r
  generalize evCs es ws = cs at *
  cases ad with
  | none =>
    have hx0 : cs = [] := by
      cases cs with
      | nil => rfl
      | cons y ys =>
        obtain ⟨bb, off, T, pre, sz, f, e, _⟩ := hx 0 y rfl
        cases e
    subst hx0
    have n0 : n = 0 := hl.symm
    subst n0
    by_cases hc : cap = 0
    · subst hc
      refine wk ?_
      exact hK _ _ (hp.emp_cons (rowP_nil 8 _))
    · refine wk ?_
      exact hK _ _ (hp.emp_cons (rowP_nil 8 _))
  | some q =>
    refine wk ?_
    refine bs0 (size := 8) hp [] rfl rfl (by simp) (fun c hc => by cases hc) fun nv h1 hp => ?_
    have hr := hr _ hp.tail
    refine ap0 hp hr hg (by decide) (by simp; omega) fun nv' h2 hp => ?_
    exact hK _ _ hp
end
end Go.Proofs.YtkflebignnmomaaGreat
namespace Go.Proofs.YtkflebignnmomaaGreat
open Go GW Go.Proofs
attribute [local irreducible] bnd ldV stV ifV binV eqI
set_option maxRecDepth 20000
section
variable {R : List Part} {h : GH} {K : Value → GH → Prop} {b : Nat} {x : Th} {pick s : Int}
theorem ansO_app : ∀ {ws : List Value} {es : List Event} {w : Value} {e : Event}, ws.length = es.length → ansO (ws ++ [w]) (es ++ [e]) = ansO ws es ++ [rowP 2 w (e.answers.map Answer.enc)] := by
  intro ws
  induction ws with
  | nil =>
    intro es w e hl
    cases es with
    | nil => rfl
    | cons x es => simp at hl
  | cons w0 ws ih =>
    intro es w e hl
    cases es with
    | nil => simp at hl
    | cons x es =>
      show rowP 2 w0 (x.answers.map Answer.enc) :: ansO (ws ++ [w]) (es ++ [e]) = _
      rw [ih (by simpa using hl)]; rfl
theorem ansO_snoc {ws : List Value} {es : List Event} {w : Value} {e : Event} (hl : ws.length = es.length) (hp : All (rowP 2 w (e.answers.map Answer.enc) :: All (ansO ws es) :: R) h) : All (All (ansO (ws ++ [w]) (es ++ [e])) :: R) h := by
  rw [ansO_app hl]
  refine (All.fold (l := [rowP 2 w (e.answers.map Answer.enc), All (ansO ws es)]) hp).head fun h1 z => ?_
  exact All.app (Sep.mono (fun _ z => z) (fun _ z => All.one z) (Sep.comm (Sep.mono (fun _ z => z) (fun _ z => by
    obtain ⟨h3, h4, _, l3, _, p, _⟩ := z
    exact All.le l3 p) z)))
theorem T_thEvents (hp : All (thP b x :: R) h) (oe : x.evs.length ≤ 8) (os : Short x.evs) (hK : ∀ v' h', All (evoP v' x.evs :: thP b x :: R) h' → K v' h') : T Tryz.prog 20 [ptr b] h K := by
  apply S20_T
  unfold S20
  refine wk ?_
  refine thP_open hp fun v hp => ?_
  unfold thRow at hp
  refine wk ?_
  replace hp := hn (hp.up 2)
  refine evsP_open hp fun ws hl hp => ?_
  have hg := evs_good hp
  have hcl := evCs_len hl
  refine T_CloneEvents hp (fun h' hp => All.rows hp) hg (by omega) fun v' h1 hp => ?_
  have hlen : lnV v' = some (i64 x.evs.length) := by have := All.len hp; rw [hcl] at this; exact this
  refine bnd_of hlen ?_
  -- i: so many are copied; us: their answers' places, then the old ones'
  refine Lfp_fam (ι := Nat × List Value) (fun p => [v', i64 x.evs.length, i64 p.1]) (fun p h' => p.1 ≤ x.evs.length ∧ p.2.length = p.1 ∧ All (rowP 8 v' (evCs x.evs (p.2 ++ ws.drop p.1)) :: All (ansO p.2 (x.evs.take p.1)) :: rowP 8 v.ev (evCs x.evs ws) :: ansP ws x.evs :: pts b (thRow x v) :: tvP v.tv x.txns :: rowP 1 v.cv (x.cache.map encI) :: rowP 2 v.lv (x.limbo.map Ret.enc) :: rdP v.rv x.ripe :: opP entP v.ep x.ent :: opP pushP v.up x.push :: opP popP v.pp x.pop :: opP attP v.ap x.att :: opP advP v.dp x.adv :: R) h') (fun p => x.evs.length - p.1) ?_ (0, []) h1 ⟨by simp, rfl, ?_⟩
  rotate_left
  · have z := All.emp_cons (P := All (ansO [] (x.evs.take 0))) hp (by exact trivial)
    exact hn (z.re 2 [1, 0])
  clear hp
  rintro ⟨i, us⟩ h2 X ⟨hi, hu, hp⟩ again
  simp only at hi hu hp
  simp only [tup_zero, tup_succ]
  refine wk ?_
  refine ifV_cases (fun c => ?_) fun c => ?_
  · obtain ⟨e, he⟩ : ∃ e, x.evs[i]? = some e := ⟨_, List.getElem?_eq_getElem (by omega)⟩
    obtain ⟨w, hw⟩ : ∃ w, ws[i]? = some w := ⟨_, List.getElem?_eq_getElem (by omega)⟩
    have hw2 : (us ++ ws.drop i)[i]? = some w := by
      rw [List.getElem?_append_right (by omega), hu, Nat.sub_self, List.getElem?_drop, Nat.add_zero]; exact hw
    obtain ⟨eb, i1, i2, i3, i4⟩ := All.elt hp (evCs_get he hw2) .i64
    refine bnd_of i1 (bnd_of rfl (bnd_of (i2 7 1 w rfl) ?_))
    have hsh := os e (List.mem_of_getElem? he)
    refine T_CloneAnswersR hp (fun h' hp => ((hn (hp.up 3)).mono1 ansP.mono) i e w he hw) (by omega) fun w' h3 hp => ?_
    replace hp := hn (hp.re 2 [1, 0])
    refine bnd_of i1 (bnd_of rfl ?_)
    obtain ⟨ad, ln, cap, rfl⟩ := All.isSlice (hn (hp.up 1))
    refine ev_st (j := 7) hp (evCs_get he hw2) i1 rfl rfl (by decide) fun h4 hp => ?_
    have hl2 : (us ++ ws.drop i).length = x.evs.length := by rw [List.length_append, List.length_drop]; omega
    rw [show (e.cells w).set 7 (.slice ad ln cap) = e.cells (.slice ad ln cap) from rfl, evCs_set hl2, set_self he] at hp
    refine wk ?_
    refine again (i + 1, us ++ [.slice ad ln cap]) _ ⟨by simp only; omega, by simp [hu], ?_⟩ (by simp only; omega)
    have hz := ansO_snoc (e := e) (ws := us) (es := x.evs.take i) (by rw [List.length_take]; omega) (hn (hp.re 3 [1, 2, 0]))
    have e1 : x.evs.take i ++ [e] = x.evs.take (i + 1) := by rw [List.take_add_one, he]; rfl
    have hdrop : ws.drop i = w :: ws.drop (i + 1) := by
      have hlt : i < ws.length := by omega
      rw [List.drop_eq_getElem_cons hlt]
      rw [List.getElem?_eq_getElem hlt] at hw
      cases hw; rfl
    have e2 : (us ++ ws.drop i).set i (.slice ad ln cap) = us ++ [.slice ad ln cap] ++ ws.drop (i + 1) := by
      rw [List.set_append_right _ _ (by omega), hu, Nat.sub_self, hdrop, List.set_cons_zero, List.append_assoc]; rfl
    rw [e1] at hz
    rw [e2] at hz
    exact hn (hz.re 2 [1, 0])
  · have hie : i = x.evs.length := by omega
    subst hie
    have e3 : us ++ ws.drop x.evs.length = us := by rw [← hl, List.drop_length, List.append_nil]
    rw [e3, List.take_length] at hp
    refine hK _ _ ?_
    have hp := evoP_shut hu hp
    have hp := evsP_shut hl (hn (hp.re 3 [1, 2, 0]))
    have hp := hn (hp.re 12 [2, 3, 0, 4, 5, 6, 7, 8, 9, 10, 11, 1])
    have := thP_shut (v := v) hp
    exact hn (this.re 2 [1, 0])
theorem T_thThrough (hp : All (thP b x :: R) h) (hK : K (.tuple #[i64 x.ts, i64 x.tg]) h) : T Tryz.prog 30 [ptr b] h K := by
  apply S30_T
  unfold S30
  refine thP_open hp fun v hp => ?_
  unfold thRow at hp
  refine wk ?_
  exact hK
theorem T_thDecide (hp : All (thP b x :: R) h) (oe : x.evs.length ≤ 8) (hK : ∀ h', All (thP b (x.decide s pick) :: R) h' → K (.tuple #[]) h') : T Tryz.prog 32 [ptr b, i64 s, i64 pick] h K := by
  apply S32_T
  unfold S32
  have hp0 := hp
  refine thP_open hp fun v hp => ?_
  have hp1 := hp
  unfold thRow at hp
  refine wk ?_
  unfold Th.decide at hK
  refine ifV_cases (fun c => ?_) fun c => ?_
  · rw [if_pos c] at hK
    refine wk ?_
    have hlen := evP_len (hn (hp.up 2))
    refine bnd_of hlen ?_
    refine wk ?_
    refine ifV_cases (fun c2 => ?_) fun c2 => ?_
    · have l0 : 0 < x.evs.length := by omega
      have live : x.evs ≠ [] := List.length_pos_iff.1 l0
      replace hp := hn (hp1.up 2)
      refine evsP_open hp fun ws hl hp => ?_
      obtain ⟨e, w, g1, g2, g3, g4⟩ := evCs_last hl live
      obtain ⟨eb, i1, _, _, _⟩ := All.elt hp g4 .i64
      replace hp := hn (hp.up 2)
      refine T_event (v := v) (x := x) hp hlen l0 (by omega) i1 ?_
      refine wk ?_
      replace hp := hn (hp.up 1)
      refine ev_st (j := 3) hp g4 i1 rfl rfl (by decide) fun h2 hp => ?_
      rw [show (e.cells w).set 3 (i64 pick) = ({ e with decided := pick } : Event).cells w from rfl, evCs_set hl, set_self g3] at hp
      have hp := ansP_same g2 (e' := { e with decided := pick }) rfl (hn (hp.up 2))
      have hp := evsP_shut (ws := ws) (es := x.evs.set (x.evs.length - 1) { e with decided := pick }) (by rw [List.length_set]; exact hl) (hn (hp.re 2 [1, 0]))
      refine hK _ (thP_shut (v := v) ?_)
      show All (pts b (thRow x v) :: tvP v.tv x.txns :: evsP v.ev (evTurn x.evs fun e => { e with decided := pick }) :: _) _
      rw [evTurn_set g1]
      exact hn (hp.re 3 [1, 2, 0])
    · have he : x.evs = [] := List.length_eq_zero_iff.1 (by omega)
      have e2 : ({ x with evs := evTurn x.evs fun e => { e with decided := pick } } : Th) = x := by
        have : (evTurn x.evs fun e => { e with decided := pick }) = x.evs := by rw [he]; rfl
        rw [this]
      rw [e2] at hK
      exact hK _ hp0
  · rw [if_neg c] at hK
    exact hK _ hp0
end
end Go.Proofs.YtkflebignnmomaaGreat
namespace Go.Proofs.YtkflebignnmomaaGreat
open Go GW Go.Proofs
attribute [local irreducible] bnd ldV stV ifV binV eqI
set_option maxRecDepth 20000
instance {id n k : Int} {ts : List (List Op)} : Decidable (Th.may id n k ts) := by unfold Th.may; infer_instance
def opsC (cs : List (List Value)) (ts : List (List Op)) : Part := fun h => All2 (txnC h) cs ts
theorem All2.snoc {α β : Type} {R : α → β → Prop} {xs : List α} {ys : List β} {x : α} {y : β} (a : All2 R xs ys) (r : R x y) : All2 R (xs ++ [x]) (ys ++ [y]) := by
  refine ⟨by simp [a.1], fun i u v hu hv => ?_⟩
  have hl := a.1
  rw [List.getElem?_append] at hu hv
  split at hu
  · rw [if_pos (by omega)] at hv; exact a.2 i u v hu hv
  · rw [if_neg (by omega)] at hv
    have : i - xs.length = 0 := by
      rcases Nat.eq_zero_or_pos (i - xs.length) with q | q
      · exact q
      · rw [List.getElem?_eq_none (by simp; omega)] at hu; cases hu
    rw [this] at hu
    rw [← hl, this] at hv
    cases hu; cases hv; exact r
section
variable {R : List Part} {h : GH} {K : Value → GH → Prop} {b : Nat} {x : Th} {id n k : Int} {pol : Bool} {tsv : Value} {ts : List (List Op)}
theorem opsC_snoc {cs : List (List Value)} {ts : List (List Op)} {w : Value} {t : List Op} (hp : All (rowP 4 w (t.map Op.enc) :: opsC cs ts :: R) h) : All (opsC (cs ++ [[w]]) (ts ++ [t]) :: R) h := by
  refine (All.fold (l := [rowP 4 w (t.map Op.enc), opsC cs ts]) hp).head fun h1 z => ?_
  refine All2.snoc ((z.tail.mono1 (P := opsC cs ts) (fun _ _ l p => p.mono fun _ _ q => q.le l))) ⟨w, rfl, All.rows z⟩
theorem tv1_len {v : Value} {cs : List (List Value)} {ts : List (List Op)} (r : tv1 v cs ts h) : lnV v = some (i64 ts.length) ∧ ts.length ≤ 9223372036854775807 := by
  obtain ⟨r, a⟩ := r
  have := r.len
  rw [a.1] at this
  exact ⟨this, by rw [← a.1]; exact r.max⟩
theorem T_thNew (hp : All R h) {cs0 : List (List Value)} (hs : ∀ h', All R h' → tv1 tsv cs0 ts h') (kn : ¬ Th.may id n k ts → ∀ h', All R h' → K (.tuple #[.pointer none, i64 1800]) h')
    (ky : Th.may id n k ts → ∀ b h', All (thP b (.new id n k pol ts) :: R) h' → K (.tuple #[ptr b, i64 0]) h') : T Tryz.prog 15 [i64 id, i64 n, i64 k, .bool pol, tsv] h K := by
  apply S15_T
  unfold S15
  refine wk ?_
  refine ifV_cases (fun c => kn (fun m => by have := m.1; omega) _ hp) fun c => ?_
  refine wk ?_
  refine ifV_cases (fun c2 => kn (fun m => by have := m.1; omega) _ hp) fun c2 => ?_
  refine T_Below ?_
  refine wk ?_
  refine ifN_cases (fun c3 => kn (fun m => c3 m.2.1) _ hp) fun c3 => ?_
  obtain ⟨ad, ln, cap, etv⟩ : ∃ ad ln cap, tsv = .slice ad ln cap := by
    obtain ⟨⟨a, n, cap, e, _⟩, _⟩ := hs _ hp
    exact ⟨_, _, _, e⟩
  refine bs0 (size := 1) hp [[tsv]] (by rw [etv]; rfl) rfl (by simp) (fun c hc => by rw [List.mem_singleton.1 hc, etv]; exact ⟨rfl, rfl⟩) fun pv h1 hp => ?_
  refine wk ?_
  have thr : threadsAt h1 pv [ts] := ⟨[[tsv]], All.rows hp, rfl, fun i u v hu hv => by
    cases i with
    | zero =>
      simp at hu hv; subst hu; subst hv
      obtain ⟨r1, r2⟩ := hs _ hp.tail
      exact ⟨tsv, cs0, rfl, r1, r2⟩
    | succ i => simp at hu⟩
  obtain ⟨pa, pl, pc, rfl⟩ := All.isSlice hp
  refine wk ?_
  refine T_scriptMay (p := ⟨[ts], k, false⟩) thr ?_
  replace hp := hp.tail
  refine wk ?_
  cases hm : (Plan.mk [ts] k false).may with
  | false =>
    refine wk ?_
    refine kn (fun m => ?_) _ hp
    unfold Plan.may at hm
    simp only [List.length_cons, List.length_nil, List.all_cons, List.all_nil, Bool.and_true, m.2.2.2, Bool.and_true, decide_eq_false_iff_not] at hm
    exact hm ⟨by omega, by omega, m.2.2.1.1, m.2.2.1.2⟩
  | true =>
    refine wk ?_
    have hm2 : Th.may id n k ts := by
      unfold Plan.may at hm
      simp only [List.length_cons, List.length_nil, List.all_cons, List.all_nil, Bool.and_true, Bool.and_eq_true, decide_eq_true_eq] at hm
      exact ⟨by omega, c3, ⟨hm.1.2.2.1, hm.1.2.2.2⟩, hm.2⟩
    clear kn
    have ky := ky hm2
    have hts := thrMay_spec hm2.2.2.2
    unfold S15_j1
    refine wk ?_
    let V (tv : Value) : ThV := ⟨tv, .slice none 0 0, .slice none 0 0, .slice none 0 0, .slice none 0 0, .pointer none, .pointer none, .pointer none, .pointer none, .pointer none⟩
    refine nw hp (thRow { Th.new id n k pol ts with ts := 0 } (V (.slice none 0 0))) rfl fun b h2 hp => ?_
    have hlen := (tv1_len (hs _ hp.tail)).1
    refine bnd_of hlen ?_
    refine Lfp_fam (ι := Nat × Value × List (List Value)) (fun p => [ptr b, tsv, i64 ts.length, i64 p.1]) (fun p h' => p.1 ≤ ts.length ∧ All (pts b (thRow { Th.new id n k pol ts with ts := 0 } (V p.2.1)) :: rowP 1 p.2.1 p.2.2 :: opsC p.2.2 (ts.take p.1) :: R) h') (fun p => ts.length - p.1) ?_ (0, .slice none 0 0, []) h2 ⟨by simp, ?_⟩
    rotate_left
    · have z1 := All.emp_cons (P := opsC [] (ts.take 0)) hp ⟨rfl, fun i u v hu => by simp at hu⟩
      have z2 := All.emp_cons (P := rowP 1 (.slice none 0 0) []) z1 (rowP_nil _ _)
      exact hn (z2.re 3 [2, 0, 1])
    clear hp
    rintro ⟨i, tv, cs⟩ h3 X ⟨hi, hp⟩ again
    simp only at hi hp
    simp only [tup_zero, tup_succ]
    have hcl : cs.length = i := by
      have := (hn (hp.up 2)).mono1 (P := opsC cs (ts.take i)) (fun _ _ l p => p.mono fun _ _ q => q.le l)
      rw [this.1, List.length_take]; omega
    refine wk ?_
    refine ifV_cases (fun c => ?_) fun c => ?_
    · obtain ⟨t, ht⟩ : ∃ t, ts[i]? = some t := ⟨_, List.getElem?_eq_getElem (by omega)⟩
      have htm := hts.2 t (List.mem_of_getElem? ht)
      obtain ⟨ct, hct, w, rfl, hw⟩ := (hs _ hp.tail.tail.tail).2.get ht
      obtain ⟨p, d1, d2⟩ := (hs _ hp.tail.tail.tail).1.get hct .i64
      refine bnd_of d1 (bnd_of d2 ?_)
      obtain ⟨wa, wn, wc, rfl⟩ : ∃ ad ln cap, w = .slice ad ln cap := by
        obtain ⟨ad, ln, cap, e, _⟩ := hw; exact ⟨_, _, _, e⟩
      have hrow : ∀ h', All R h' → rowsAt h' 4 (.slice wa wn wc) (t.map Op.enc) := fun h' hr => by
        obtain ⟨c2, hc2, w2, e2, r2⟩ := (hs _ hr).2.get ht
        rw [hct] at hc2
        cases hc2; cases e2; exact r2
      refine nwst hp (.row 49 [.slice wa wn wc] 1 true) rfl rfl rfl rfl fun tb h4 hp => ?_
      replace hp := hn (hp.re 2 [1, 0])
      unfold thRow at hp
      refine wk ?_
      have ht2 : t.length ≤ 1000 ∧ t ≠ [] := by
        unfold Txn.may at htm
        simp only [Bool.and_eq_true, decide_eq_true_eq] at htm
        refine ⟨by omega, fun e => ?_⟩
        rw [e] at htm; simp at htm
      refine T_CloneOps hp (fun h' hp => hrow _ hp.tail.tail.tail.tail) ht2.1 ht2.2 fun nv h5 hp => ?_
      obtain ⟨na, nl, nc, rfl⟩ := All.isSlice hp
      replace hp := hn (hp.re 3 [1, 0])
      refine wk ?_
      replace hp := hn (hp.re 4 [2, 1, 3, 0])
      refine bs0 (size := 1) hp [[.slice na nl nc]] rfl rfl (by simp) (fun c hc => by rw [List.mem_singleton.1 hc]; exact ⟨rfl, rfl⟩) fun sv h6 hp => ?_
      have r2 := hp.rows
      refine ap0 (hn (hp.up 1)) r2 (fun c hc => by rw [List.mem_singleton.1 hc]; exact ⟨rfl, rfl⟩) (by decide) (by simp only [List.length_cons, List.length_nil]; omega) fun tv' h7 hp => ?_
      obtain ⟨ta, tl, tc, rfl⟩ := All.isSlice hp
      replace hp := hn (hp.re 5 [4, 0, 2, 3])
      refine wk ?_
      refine st0 hp (thRow { Th.new id n k pol ts with ts := 0 } (V (.slice ta tl tc))) rfl (Nat.le_of_ble_eq_true rfl) rfl rfl fun h8 hp => ?_
      refine wk ?_
      refine again (i + 1, .slice ta tl tc, cs ++ [[.slice na nl nc]]) _ ⟨by simp only; omega, ?_⟩ (by simp only; omega)
      have hp := opsC_snoc (hn (hp.re 4 [2, 3, 0, 1]))
      have e1 : ts.take i ++ [t] = ts.take (i + 1) := by rw [List.take_add_one, ht]; rfl
      rw [e1] at hp
      exact hn (hp.re 3 [1, 2, 0])
    · have hie : i = ts.length := by omega
      subst hie
      rw [List.take_length] at hp
      unfold thRow at hp
      refine wk ?_
      refine st0 hp (thRow (.new id n k pol ts) (V tv)) rfl (Nat.le_of_ble_eq_true rfl) rfl rfl fun h4 hp => ?_
      refine ky b _ (thP_shut (v := V tv) ?_)
      have hp := All.fold (l := [rowP 1 tv cs, opsC cs ts]) (hn (hp.re 3 [1, 2, 0]))
      have hp := hp.head (Q := tvP tv ts) fun h1 z => ⟨cs, All.rows z, z.tail.mono1 (P := opsC cs ts) (fun _ _ l p => p.mono fun _ _ q => q.le l)⟩
      have hp := opP_no (P := advP) hp
      have hp := opP_no (P := attP) hp
      have hp := opP_no (P := popP) hp
      have hp := opP_no (P := pushP) hp
      have hp := opP_no (P := entP) hp
      have hp := hp.emp_cons (P := rdP (.slice none 0 0) []) (rowsAt_nil _ _)
      have hp := hp.emp_cons (P := rowP 2 (.slice none 0 0) []) (rowP_nil _ _)
      have hp := hp.emp_cons (P := rowP 1 (.slice none 0 0) []) (rowP_nil _ _)
      have hp := hp.emp_cons (P := evsP (.slice none 0 0) []) ⟨[], All.two ⟨rfl, rowP_nil _ _⟩ fun i e w h => by simp at h⟩
      exact hn (hp.re 11 [10, 9, 0, 1, 2, 3, 4, 5, 6, 7, 8])
end
end Go.Proofs.YtkflebignnmomaaGreat
namespace Go.Proofs.YtkflebignnmomaaGreat
open Go GW Go.Proofs
structure Touch where
  thread : Int
  kind : Int
  at_ : Int
  was : Int
  now : Int
  slot : Int
  gen : Int
  live : Int
def Touch.ints (t : Touch) : List Int := [t.thread, t.kind, t.at_, t.was, t.now, t.slot, t.gen, t.live]
def Touch.enc (t : Touch) : List Value := [i64 t.thread, i64 t.kind, i64 t.at_, i64 t.was, i64 t.now, i64 t.slot, i64 t.gen, i64 t.live]
theorem Touch.ext_ints {a b : Touch} (h : a.ints = b.ints) : a = b := by
  cases a; cases b; simpa [Touch.ints] using h
instance : DecidableEq Touch := fun a b => if h : a.ints = b.ints then .isTrue (Touch.ext_ints h) else .isFalse fun e => h (by rw [e])
theorem Touch.enc_good (t : Touch) : good 8 t.enc := ⟨rfl, rfl⟩
theorem Touch.all_good (ts : List Touch) : ∀ c ∈ ts.map Touch.enc, good 8 c := by
  intro c hc
  obtain ⟨t, _, rfl⟩ := List.mem_map.1 hc
  exact t.enc_good
theorem Touch.eqLaw (a b : Touch) : eqP Tryz.prog 10000 37 (.agg a.enc.toArray) (.agg b.enc.toArray) = some (decide (a = b)) := by
  have h : eqP Tryz.prog 10000 37 (.agg a.enc.toArray) (.agg b.enc.toArray) = some ((a.thread == b.thread) && ((a.kind == b.kind) && ((a.at_ == b.at_) && ((a.was == b.was) && ((a.now == b.now) && ((a.slot == b.slot) && ((a.gen == b.gen) && ((a.live == b.live) && true)))))))) := by kernel_rfl
  rw [h]
  cases a; cases b
  simp [Bool.decide_and, Bool.beq_eq_decide_eq]
structure Mc where
  A : Ar
  ths : List Th
  L : List Int
  picks : Int
  ts : List Touch
def Mc.threads : Int → Int → Int → Bool → List (List (List Op)) → List Th
  | _, _, _, _, [] => []
  | i, n, k, pol, t :: ts => Th.new i n k pol t :: Mc.threads (i + 1) n k pol ts
def Mc.new (p : Plan) : Mc := ⟨newAr, Mc.threads 0 p.threads.length p.attempts p.polite p.threads, List.replicate 12 0, 0, []⟩
def Ar.lst (A : Ar) (i : Nat) : Int := A.last.getD i 0
def noteT (A : Ar) (L : List Int) (k : Int) (x : Th) : Touch := ⟨k, A.lst 1, A.lst 2, A.lst 3, A.lst 4, x.ts, x.tg, if 0 ≤ x.ts then L.getD x.ts.toNat 0 else A.lst 7⟩
def Touch.dec (t : Touch) : Option Int :=
  if t.kind ≠ 2 ∨ t.was = t.now ∨ t.at_ < 34 ∨ t.at_ ≠ baseOf ((t.at_ - 34) / 50) ∨ (plainOf t.now).isSome = false then none else
  if t.now = stateW (valOf t.now / 4) 1 then some ((t.at_ - 34) / 50) else none
def decAll (t : Touch) (pick : Int) (xs : List Th) : List Th := match t.dec with
  | some s => xs.map fun x => x.decide s pick
  | none => xs
def Mc.pick (M : Mc) (k : Int) : Mc × Bool × Int :=
  if ¬ (0 ≤ k ∧ k < M.ths.length) ∨ 65536 ≤ M.picks then (M, false, 1900) else
  match M.ths[k.toNat]? with
  | none => (M, false, 1900)
  | some x =>
    let o := x.step M.A M.L M.picks
    let xs := M.ths.set k.toNat o.1
    let t := noteT o.2.2.2.1 o.2.2.2.2 k o.1
    ({ A := o.2.2.2.1, ths := if o.2.1 then decAll t M.picks xs else xs, L := o.2.2.2.2, picks := M.picks + 1, ts := if o.2.1 then M.ts ++ [t] else M.ts }, o.2.1, if o.2.2.1 = 0 then 0 else 1900)
def Mc.done (M : Mc) : Bool := M.ths.all Th.done
def Mc.events (M : Mc) : List Event := M.ths.flatMap Th.evs
structure Mc.ok (M : Mc) : Prop where
  A : M.A.ok
  l : M.A.lok
  ths : ∀ x ∈ M.ths, x.ok ∧ x.wrs ∧ Short x.evs ∧ x.tsr
  n : M.ths.length ≤ 4
  L : M.L.length = 12
  L2 : ∀ y ∈ M.L, 0 ≤ y ∧ y ≤ M.picks
  p0 : 0 ≤ M.picks
  p1 : M.picks ≤ 65536
  ts : (M.ts.length : Int) ≤ M.picks
theorem newAr_lok : newAr.lok := ⟨by decide, by decide, by constructor <;> decide, by constructor <;> decide, fun h => absurd h (by decide)⟩
theorem Mc.threads_mem : ∀ {ts : List (List (List Op))} {i n k : Int} {pol : Bool} {x : Th}, x ∈ Mc.threads i n k pol ts → ∃ (j : Nat) (t : List (List Op)), ts[j]? = some t ∧ x = Th.new (i + j) n k pol t := by
  intro ts
  induction ts with
  | nil => intro i n k pol x h; cases h
  | cons t ts ih =>
    intro i n k pol x h
    rcases List.mem_cons.1 h with rfl | h
    · exact ⟨0, t, rfl, by simp⟩
    · obtain ⟨j, t', h1, h2⟩ := ih h
      refine ⟨j + 1, t', h1, ?_⟩
      rw [h2]; congr 1; omega
theorem Mc.threads_len : ∀ {ts : List (List (List Op))} {i n k : Int} {pol : Bool}, (Mc.threads i n k pol ts).length = ts.length := by
  intro ts
  induction ts with
  | nil => intros; rfl
  | cons t ts ih => intro i n k pol; simp [Mc.threads, ih]
theorem Plan.may_spec {p : Plan} (h : p.may = true) : 1 ≤ p.threads.length ∧ p.threads.length ≤ 4 ∧ 1 ≤ p.attempts ∧ p.attempts ≤ 16 ∧ ∀ t ∈ p.threads, thrMay t = true := by
  unfold Plan.may at h
  simp only [Bool.and_eq_true, decide_eq_true_eq, List.all_eq_true] at h
  exact ⟨h.1.1, h.1.2.1, h.1.2.2.1, h.1.2.2.2, h.2⟩
theorem Mc.new_ok {p : Plan} (h : p.may = true) : (Mc.new p).ok := by
  obtain ⟨h1, h2, h3, h4, h5⟩ := Plan.may_spec h
  refine ⟨newAr_ok, newAr_lok, fun x hx => ?_, by show (Mc.threads _ _ _ _ _).length ≤ 4; rw [Mc.threads_len]; exact h2, rfl, fun y hy => ?_, Int.le_refl 0, (by show (0 : Int) ≤ 65536; decide), Int.le_refl 0⟩
  · obtain ⟨j, t, e1, rfl⟩ := Mc.threads_mem hx
    have hj := (List.getElem?_eq_some_iff.1 e1).1
    refine ⟨Th.new_ok ⟨by omega, by omega, ⟨h3, h4⟩, h5 t (List.mem_of_getElem? e1)⟩, (fun a h => by cases h), (fun e h => by cases h), ⟨⟨Int.le_refl (-1), by show (-1 : Int) < 12; decide⟩, fun a h => by cases h⟩⟩
  · have : y = 0 := List.eq_of_mem_replicate (n := 12) hy
    subst this
    exact ⟨Int.le_refl 0, Int.le_refl 0⟩
section
variable {A : Ar} {x : Th} {L : List Int} {pick s : Int}
theorem evTurn_mem {es : List Event} {f : Event → Event} {e : Event} (h : e ∈ evTurn es f) : e ∈ es ∨ ∃ e0 ∈ es, e = f e0 := by
  obtain ⟨i, hi, he⟩ := List.mem_iff_getElem.1 h
  obtain ⟨e0, h1, h2⟩ := evTurn_get (show (evTurn es f)[i]? = some e by rw [List.getElem?_eq_getElem hi, he])
  rcases h2 with ⟨rfl, _⟩ | ⟨rfl, _⟩
  · exact .inl (List.mem_of_getElem? h1)
  · exact .inr ⟨e0, List.mem_of_getElem? h1, rfl⟩
theorem Th.answer_short (o : ∀ n, x.att = some n → n.ans.length ≤ 2) (h : Short x.evs) : Short (x.answer pick).evs := by
  unfold Th.answer
  split
  · intro e he
    rcases evTurn_mem he with h1 | ⟨e0, h1, rfl⟩
    · exact h e h1
    · exact h e0 h1
  · intro e he
    rcases evTurn_mem he with h1 | ⟨e0, h1, rfl⟩
    · exact h e h1
    · simp only
      split
      · cases ha : x.att with
        | none => simp
        | some n => exact o n ha
      · exact h e0 h1
theorem Th.act_evs {a : Act} (h : a ≠ .adv) : (x.act A L pick a).1.1.evs = x.evs := by
  have tris : ∀ y : Th, (y.tris A).1.evs = y.evs := fun y => by unfold Th.tris; split <;> rfl
  have taks : ∀ y : Th, (y.taks A L).1.1.evs = y.evs := fun y => by
    unfold Th.taks
    split
    · rw [tris]; rfl
    · simp only
      split
      · rfl
      · split <;> rfl
  cases a with
  | ent =>
    show (x.ents A).1.evs = x.evs
    unfold Th.ents
    cases x.ent with
    | none => rfl
    | some n => simp only; split <;> rfl
  | fre =>
    unfold Th.act Th.fres
    have hc : x.cached.evs = x.evs := by unfold Th.cached; split <;> rfl
    simp only
    split
    · rw [taks, hc]
    · split <;> exact hc
  | tak => exact taks x
  | tri => exact tris x
  | ret => show (x.rets A).1.evs = x.evs; unfold Th.rets; split <;> rfl
  | lea => rfl
  | adv => exact absurd rfl h
theorem Th.act_short {a : Act} (o : x.ok) (h : Short x.evs) : Short (x.act A L pick a).1.1.evs := by
  by_cases e : a = .adv
  · subst e
    unfold Th.act Th.advs
    cases hd : x.adv with
    | none => exact h
    | some d =>
      simp only
      split
      · exact Th.answer_short (x := { x with adv := some (d.step A).1 }) (fun n hn => (o.att n hn).2) h
      · exact h
  · rw [Th.act_evs e]; exact h
theorem Th.ended_evs {r : (Th × Int × Ar) × List Int} : (Th.ended r).1.evs = r.1.1.evs := by unfold Th.ended; split <;> rfl
theorem Th.begin_short (h : Short x.evs) : Short (x.begin pick).1.evs := by
  unfold Th.begin
  split
  · exact h
  · split
    · exact h
    · simp only
      split
      · intro e he
        rcases List.mem_append.1 he with h1 | h1
        · exact h e h1
        · rw [List.mem_singleton.1 h1]; exact Nat.zero_le 2
      · exact h
theorem Th.step_short (o : x.ok) (h : Short x.evs) : Short (x.step A L pick).1.evs := by
  cases hd : x.dead with
  | true => rw [Th.step_dead hd]; exact h
  | false =>
    have o1 : x.z.ok := { o with }
    cases hx : x.next with
    | some a => rw [Th.step_some hd hx, Th.ended_evs]; exact Th.act_short o1 h
    | none =>
      rw [Th.step_none hd hx]
      have b := Th.begin_ok (pick := pick) o1 hx
      have bs := Th.begin_short (pick := pick) (x := x.z) h
      split
      · rw [Th.ended_evs]; exact Th.act_short b.1 bs
      · exact bs
theorem Th.decide_short (h : Short x.evs) : Short (x.decide s pick).evs := by
  unfold Th.decide
  split
  · intro e he
    rcases evTurn_mem he with h1 | ⟨e0, h1, rfl⟩
    · exact h e h1
    · exact h e0 h1
  · exact h
theorem Th.step_lives : (x.step A L pick).2.2.2.2 = L ∨ ∃ s, (x.step A L pick).2.2.2.2 = lived s L := by
  have taks : ∀ y : Th, (y.taks A L).2 = L ∨ ∃ s, (y.taks A L).2 = lived s L := fun y => by
    unfold Th.taks
    split
    · exact .inr ⟨_, rfl⟩
    · simp only
      split
      · exact .inl rfl
      · split
        · exact .inl rfl
        · exact .inr ⟨_, rfl⟩
  have act : ∀ (y : Th) a, (y.act A L pick a).2 = L ∨ ∃ s, (y.act A L pick a).2 = lived s L := fun y a => by
    cases a with
    | fre =>
      unfold Th.act Th.fres
      simp only
      split
      · exact taks _
      · split <;> exact .inl rfl
    | tak => exact taks _
    | _ => exact .inl rfl
  have ended : ∀ r : (Th × Int × Ar) × List Int, (Th.ended r).2.2.2.2 = r.2 := fun r => by unfold Th.ended; split <;> rfl
  cases hd : x.dead with
  | true => rw [Th.step_dead hd]; exact .inl rfl
  | false =>
    cases hx : x.next with
    | some a => rw [Th.step_some hd hx, ended]; exact act _ _
    | none =>
      rw [Th.step_none hd hx]
      split
      · rw [ended]; exact act _ _
      · exact .inl rfl
theorem Th.decide_wrs (h : x.wrs) : (x.decide s pick).wrs := by unfold Th.decide; split <;> exact h
end
theorem decAll_len {t : Touch} {pick : Int} {xs : List Th} : (decAll t pick xs).length = xs.length := by
  unfold decAll; split
  · rw [List.length_map]
  · rfl
theorem Mc.pick_ok {M : Mc} {k : Int} (o : M.ok) : (M.pick k).1.ok := by
  unfold Mc.pick
  split
  · exact o
  · rename_i c
    split
    · exact o
    · rename_i x hx
      have hp : M.picks < 65536 := by omega
      have ox := o.ths x (List.mem_of_getElem? hx)
      have s := Th.step_ok (L := M.L) ox.1 o.A o.p0
      have a := Th.step_acc (L := M.L) (pick := M.picks) ox.1 ox.2.1 o.A
      have hs := Th.step_short (A := M.A) (L := M.L) (pick := M.picks) ox.1 ox.2.2.1
      have ht := Th.step_tsr (A := M.A) (L := M.L) (pick := M.picks) ox.1 ox.2.2.2
      have hl := Th.step_lives (A := M.A) (x := x) (L := M.L) (pick := M.picks)
      generalize x.step M.A M.L M.picks = r at s a hs hl ht
      simp only
      have base : ∀ y ∈ M.ths.set k.toNat r.1, y.ok ∧ y.wrs ∧ Short y.evs ∧ y.tsr := fun y hy => by
        rcases List.mem_or_eq_of_mem_set hy with q | q
        · exact o.ths y q
        · subst q; exact ⟨s.1, a.2, hs, ht⟩
      refine ⟨s.2, a.1.lok o.A o.l, fun y hy => ?_, ?_, ?_, fun y hy => ?_, (by have := o.p0; show 0 ≤ M.picks + 1; omega), (by show M.picks + 1 ≤ 65536; omega), ?_⟩
      · simp only at hy
        split at hy
        · unfold decAll at hy
          split at hy
          · obtain ⟨z, hz, rfl⟩ := List.mem_map.1 hy
            have := base z hz
            exact ⟨Th.decide_ok this.1, Th.decide_wrs this.2.1, Th.decide_short this.2.2.1, Th.decide_tsr this.2.2.2⟩
          · exact base y hy
        · exact base y hy
      · show (if r.2.1 = true then decAll _ _ _ else _ : List Th).length ≤ 4
        have := o.n
        split
        · rw [decAll_len, List.length_set]; exact this
        · rw [List.length_set]; exact this
      · show r.2.2.2.2.length = 12
        have := o.L
        rcases hl with e | ⟨s, e⟩
        · rw [e]; exact this
        · rw [e]; unfold lived; rw [List.length_set]; exact this
      · show 0 ≤ y ∧ y ≤ M.picks + 1
        simp only at hy
        have old : ∀ z ∈ M.L, 0 ≤ z ∧ z ≤ M.picks + 1 := fun z hz => by have := o.L2 z hz; omega
        rcases hl with e | ⟨s, e⟩
        · rw [e] at hy; exact old y hy
        · rw [e] at hy
          unfold lived at hy
          rcases List.mem_or_eq_of_mem_set hy with q | q
          · exact old y q
          · rw [q, List.getD_eq_getElem?_getD]
            have p0 := o.p0
            cases hg : M.L[s.toNat]? with
            | none => simp only [Option.getD_none]; omega
            | some z => have := o.L2 z (List.mem_of_getElem? hg); simp only [Option.getD_some]; omega
      · show ((if r.2.1 = true then M.ts ++ [_] else M.ts : List Touch).length : Int) ≤ M.picks + 1
        have := o.ts
        split
        · simp only [List.length_append, List.length_singleton]; omega
        · omega
attribute [local irreducible] bnd ldV stV ifV binV eqI
set_option maxRecDepth 20000
def mcRow (a : Nat) (tv : Value) (L : List Int) (picks : Int) (xv : Value) : GObj := lvRow 61 16 [ptr a, tv] L [i64 picks, xv]
def mcP (b : Nat) (M : Mc) : Part := fun h => ∃ (a : Nat) (bs : List Nat) (tv xv : Value), All [pts b (mcRow a tv M.L M.picks xv), arP 75 a M.A, rowP 1 tv (bs.map encP), rowP 8 xv (M.ts.map Touch.enc), eachP thP bs M.ths] h
section
variable {a b : Nat} {R : List Part} {h : GH} {K : Value → GH → Prop} {M : Mc}
theorem mcP_open {C : Prop} (hp : All (mcP b M :: R) h) (k : ∀ a bs tv xv, All (pts b (mcRow a tv M.L M.picks xv) :: arP 75 a M.A :: rowP 1 tv (bs.map encP) :: rowP 8 xv (M.ts.map Touch.enc) :: eachP thP bs M.ths :: R) h → C) : C := by
  obtain ⟨a, hp⟩ := All.ex hp
  obtain ⟨bs, hp⟩ := All.ex hp
  obtain ⟨tv, hp⟩ := All.ex hp
  obtain ⟨xv, hp⟩ := All.ex hp
  exact k a bs tv xv (All.flat hp)
theorem mcP_shut {a : Nat} {bs : List Nat} {tv xv : Value} (hp : All (pts b (mcRow a tv M.L M.picks xv) :: arP 75 a M.A :: rowP 1 tv (bs.map encP) :: rowP 8 xv (M.ts.map Touch.enc) :: eachP thP bs M.ths :: R) h) : All (mcP b M :: R) h :=
  (All.fold (l := [_, _, _, _, _]) hp).head fun h1 z => ⟨a, bs, tv, xv, z⟩
theorem lv_ld2 {U : TypeId} {sz n k : Nat} {pre post : List Value} {L : List Int} {v : Value} (hp : All (pts b (lvRow U sz pre L post) :: R) h) (j : Nat) (hv : post[j]? = some v) (hk : k = pre.length + L.length + j) : ldV n false (.pointer (some ⟨b, k, none⟩)) h = some v := by
  rw [ldV_cell hp.pt0, hk, List.getElem?_append_right (by omega), List.getElem?_append_right (by rw [List.length_map]; omega), List.length_map]
  rw [show pre.length + L.length + j - pre.length - L.length = j by omega]
  exact hv
theorem lv_st2 {U : TypeId} {sz k : Nat} {pre post : List Value} {L : List Int} {y : Value} {K : GH → Prop} (hp : All (pts b (lvRow U sz pre L post) :: R) h) (j : Nat) (hj : j < post.length) (hk : k = pre.length + L.length + j) (hy : y.cells.size = 1) (hy2 : y.cells.toList = [y])
    (k' : ∀ h', All (pts b (lvRow U sz pre L (post.set j y)) :: R) h' → K h') (ho : oneCell y = true := by rfl) : bnd (stV 1 (.pointer (some ⟨b, k, none⟩)) y h) K := by
  refine st0 hp (lvRow U sz pre L (post.set j y)) hy (by simp only [List.length_append, List.length_map]; omega) (by rw [hy2]; simp [ho]) ?_ k'
  rw [hy2]
  show GObj.row _ ((pre ++ (L.map i64 ++ post)).set k y) _ _ = _
  rw [hk, List.set_append_right _ _ (by omega), List.set_append_right _ _ (by rw [List.length_map]; omega), List.length_map]
  rw [show pre.length + L.length + j - pre.length - L.length = j by omega]
  rfl
theorem T_StateW {g st : Int} (h0 : 0 ≤ g) (h1 : g < 1099511627776) (h2 : 0 ≤ st) (h3 : st < 4) (hK : K (i64 (stateW g st)) h) : T Tryz.prog 43 [i64 g, i64 st] h K := by
  apply S43_T
  unfold S43
  refine wk ?_
  refine T_Of (by omega) (by omega) ?_
  exact hK
theorem quo4 {x : Int} (h : 0 ≤ x) (h2 : x < 1099511627776) : binV .quo (i64 x) (.int .i64 4) = some (i64 (x / 4)) := quo_nn h (by omega) (by decide)
theorem T_decides {d : Nat} {t : Touch} (hp : All (pts d (.row 37 t.enc 8 true) :: R) h) (a0 : 0 ≤ t.at_) (a1 : t.at_ < 634) (hn : I64 t.now)
    (hK : (∀ s, t.dec = none → K (.tuple #[i64 s, .bool false]) h) ∧ ∀ s, t.dec = some s → K (.tuple #[i64 s, .bool true]) h) : T Tryz.prog 31 [ptr d] h K := by
  apply S31_T
  unfold S31
  obtain ⟨k1, k2⟩ := hK
  unfold Touch.dec at k1 k2
  have hp0 := hp
  unfold Touch.enc at hp
  refine wk ?_
  -- the slot, if there is one
  have hq : ∃ sv, binV .quo (i64 (t.at_ - 34)) (.int .i64 50) = some (i64 sv) ∧ (34 ≤ t.at_ → sv = (t.at_ - 34) / 50) := by
    rcases Int.lt_or_le t.at_ 34 with c | c
    · refine ⟨(t.at_ - 34).tdiv 50, ?_, fun q => by omega⟩
      have hr : (t.at_ - 34).tdiv 50 = 0 := by
        have all : ∀ k : Fin 34, ((k.val : Int) - 34).tdiv 50 = 0 := by decide
        have := all ⟨t.at_.toNat, by omega⟩
        simp only at this
        rw [show ((t.at_.toNat : Nat) : Int) = t.at_ by omega] at this
        exact this
      rw [binV_quo, if_neg (by decide), hr]; rfl
    · exact ⟨(t.at_ - 34) / 50, quo_nn (by omega) (by omega) (by decide), fun _ => rfl⟩
  obtain ⟨sv, q1, q2⟩ := hq
  refine bnd_of q1 ?_
  refine wk ?_
  refine T_Plain hn.2 ?_
  refine wk ?_
  refine ifN_cases (fun c => ?_) fun c => ?_
  · exact k1 _ (by rw [if_pos (.inl c)])
  refine wk ?_
  refine ifV_cases (fun c2 => ?_) fun c2 => ?_
  · exact k1 _ (by rw [if_pos (.inr (.inl c2))])
  refine wk ?_
  refine ifV_cases (fun c3 => ?_) fun c3 => ?_
  · exact k1 _ (by rw [if_pos (.inr (.inr (.inl c3)))])
  have c3 : 34 ≤ t.at_ := by omega
  have q2 := q2 c3
  subst q2
  refine wk ?_
  refine T_Base (by omega) (by omega) ?_
  refine wk ?_
  refine ifN_cases (fun c4 => ?_) fun c4 => ?_
  · exact k1 _ (by rw [if_pos (.inr (.inr (.inr (.inl c4))))])
  cases hpl : plainOf t.now with
  | none =>
    refine wk ?_
    exact k1 _ (by rw [if_pos (.inr (.inr (.inr (.inr (by rw [hpl]; rfl)))))])
  | some v =>
    simp only [Option.getD_some]
    refine wk ?_
    unfold S31_j1
    have hv := plainOf_range hpl
    refine wk ?_
    refine bnd_of (quo4 hv.1 hv.2) ?_
    refine T_StateW (by have := hv.1; omega) (by have := hv.2; omega) (by decide) (by decide) ?_
    refine wk ?_
    have ev : valOf t.now = v := by unfold valOf; rw [hpl]; rfl
    have hno : ¬ (t.kind ≠ 2 ∨ t.was = t.now ∨ t.at_ < 34 ∨ t.at_ ≠ baseOf ((t.at_ - 34) / 50) ∨ (plainOf t.now).isSome = false) := by
      rw [hpl]
      rintro (q | q | q | q | q)
      · exact q c
      · exact c2 q
      · omega
      · exact q c4
      · cases q
    rw [if_neg hno, ev] at k1
    rw [if_neg hno, ev] at k2
    by_cases c5 : t.now = stateW (v / 4) 1
    · rw [decide_eq_true c5]
      exact k2 _ (by rw [if_pos c5])
    · rw [decide_eq_false c5]
      exact k1 _ (by rw [if_neg c5])
end
end Go.Proofs.YtkflebignnmomaaGreat
namespace Go.Proofs.YtkflebignnmomaaGreat
open Go GW Go.Proofs
attribute [local irreducible] bnd ldV stV ifV binV eqI
set_option maxRecDepth 20000
theorem list8 {l : List Int} (h : l.length = 8) : ∃ a0 a1 a2 a3 a4 a5 a6 a7, l = [a0, a1, a2, a3, a4, a5, a6, a7] := by
  match l, h with
  | [a0, a1, a2, a3, a4, a5, a6, a7], _ => exact ⟨_, _, _, _, _, _, _, _, rfl⟩
theorem map_part {α : Type} {f : α → α} {l : List α} {i : Nat} {x : α} (h : l[i]? = some x) : ((l.take i).map f ++ l.drop i).set i (f x) = (l.take (i + 1)).map f ++ l.drop (i + 1) := by
  have hi := (List.getElem?_eq_some_iff.1 h).1
  have e : l.drop i = x :: l.drop (i + 1) := by
    rw [List.drop_eq_getElem_cons hi]
    rw [List.getElem?_eq_getElem hi] at h; cases h; rfl
  have hl : ((l.take i).map f).length = i := by rw [List.length_map, List.length_take]; omega
  rw [List.set_append_right _ _ (by omega), hl, Nat.sub_self, e, List.set_cons_zero, List.take_add_one, h, List.map_append, List.append_assoc]; rfl
theorem map_part_get {α : Type} {f : α → α} {l : List α} {i : Nat} {x : α} (h : l[i]? = some x) : ((l.take i).map f ++ l.drop i)[i]? = some x := by
  have hi := (List.getElem?_eq_some_iff.1 h).1
  have hl : ((l.take i).map f).length = i := by rw [List.length_map, List.length_take]; omega
  rw [List.getElem?_append_right (by omega), hl, Nat.sub_self, List.getElem?_drop]; exact h
section
variable {a b : Nat} {R : List Part} {h : GH} {K : Value → GH → Prop} {M : Mc} {bs : List Nat} {xs : List Th} {tv xv : Value} {L : List Int} {picks : Int} {ts : List Touch} {A : Ar}
theorem T_note {k : Nat} {x : Th} (hp : All (pts b (mcRow a tv L picks xv) :: arP 75 a A :: rowP 1 tv (bs.map encP) :: rowP 8 xv (ts.map Touch.enc) :: eachP thP bs xs :: R) h) (hx : xs[k]? = some x) (tr : x.tsr) (hL : L.length = 12) (lok : A.lok) (hm : ts.length ≤ 100000) (oe : ∀ y ∈ xs, y.evs.length ≤ 8) (hn4 : xs.length ≤ 4)
    (hK : ∀ xv' h', All (pts b (mcRow a tv L picks xv') :: arP 75 a A :: rowP 1 tv (bs.map encP) :: rowP 8 xv' ((ts ++ [noteT A L k x]).map Touch.enc) :: eachP thP bs (decAll (noteT A L k x) picks xs) :: R) h' → K (.tuple #[]) h') : T Tryz.prog 18 [ptr b, i64 k] h K := by
  apply S18_T
  unfold S18
  have hA := (arP.at (hn (hp.up 1))).2
  obtain ⟨l0, l1, l2, l3, l4, l5, l6, l7, el⟩ := list8 hA.touch
  have lok' := lok
  have bl : bs.length = xs.length := All.case (hn (hp.up 4)) fun h1 p _ => eachP_len p
  have kl : k < xs.length := (List.getElem?_eq_some_iff.1 hx).1
  obtain ⟨tb, htb⟩ : ∃ tb, bs[k]? = some tb := ⟨_, List.getElem?_eq_getElem (by omega)⟩
  unfold mcRow lvRow at hp
  refine wk ?_
  refine T_Last (hn (hp.up 1)) ?_
  refine wk ?_
  rw [el]
  refine nwst hp (.row 37 [i64 l0, i64 l1, i64 l2, i64 l3, i64 l4, i64 l5, i64 l6, i64 l7] 8 true) rfl rfl rfl rfl fun d h1 hp => ?_
  refine wk ?_
  refine st0 hp (.row 37 [i64 k, i64 l1, i64 l2, i64 l3, i64 l4, i64 l5, i64 l6, i64 l7] 8 true) rfl (by simp) rfl rfl fun h2 hp => ?_
  refine wk ?_
  obtain ⟨p, e1, e2⟩ := (All.rows (hn (hp.up 3))).get1 (i := k) (x := ptr tb) (by rw [List.getElem?_map, htb]; rfl) .i64
  refine bnd_of e1 (bnd_of e2 ?_)
  refine T_thThrough (eachP_at htb hx (hn (hp.up 5))) ?_
  refine wk ?_
  refine st0 hp (.row 37 [i64 k, i64 l1, i64 l2, i64 l3, i64 l4, i64 x.ts, i64 l6, i64 l7] 8 true) rfl (by simp) rfl rfl fun h3 hp => ?_
  refine wk ?_
  refine st0 hp (.row 37 [i64 k, i64 l1, i64 l2, i64 l3, i64 l4, i64 x.ts, i64 x.tg, i64 l7] 8 true) rfl (by simp) rfl rfl fun h4 hp => ?_
  refine wk ?_
  have j1 : ∀ h', All (pts d (.row 37 (noteT A L k x).enc 8 true) :: pts b (mcRow a tv L picks xv) :: arP 75 a A :: rowP 1 tv (bs.map encP) :: rowP 8 xv (ts.map Touch.enc) :: eachP thP bs xs :: R) h' → S18_j1 (ptr b) (ptr d) h' K := by
    intro h' hp
    have ta : (noteT A L k x).at_ = l2 := by show A.last.getD 2 0 = l2; rw [el]; rfl
    have tn : (noteT A L k x).now = l4 := by show A.last.getD 4 0 = l4; rw [el]; rfl
    have k1 := lok.at0; have k2 := lok.at1; have k3 := lok.now
    rw [el] at k1 k2 k3
    generalize noteT A L k x = t at hp hK ta tn
    unfold S18_j1
    refine wk ?_
    have ld15 : ∀ {h'} {R'} {xv}, All (pts b (mcRow a tv L picks xv) :: R') h' → ldV 1 false (.pointer (some ⟨b, 0 + 15, none⟩)) h' = some xv := fun hp => lv_ld2 hp 1 rfl (by rw [hL]; rfl)
    have ld14 : ∀ {h'} {R'} {xv}, All (pts b (mcRow a tv L picks xv) :: R') h' → ldV 1 false (.pointer (some ⟨b, 0 + 14, none⟩)) h' = some (i64 picks) := fun hp => lv_ld2 hp 0 rfl (by rw [hL]; rfl)
    refine bnd_of (ld15 (hn (hp.up 1))) ?_
    refine la0 hp (c := t.enc) (Nat.le_refl 8) rfl ?_
    refine bs0 (size := 8) hp ([t].map Touch.enc) rfl rfl (by simp) (Touch.all_good _) fun sv h5 hp => ?_
    have r2 := hp.rows
    refine ap0 (hn (hp.up 5)) r2 (Touch.all_good _) (by decide) (by simp only [List.length_map, List.length_cons, List.length_nil]; omega) fun xv' h6 hp => ?_
    rw [← List.map_append] at hp
    obtain ⟨ad, ln, cap, rfl⟩ := All.isSlice hp
    replace hp := hn (hp.re 7 [3, 2, 4, 5, 0, 6])
    refine wk ?_
    unfold mcRow at hp
    refine lv_st2 hp 1 (by simp) (by rw [hL]; rfl) rfl rfl fun h7 hp => ?_
    replace hp : All (pts b (mcRow a tv L picks (.slice ad ln cap)) :: _) h7 := hp
    replace hp := hn (hp.re 2 [1, 0])
    refine T_decides hp (by rw [ta]; exact k1) (by rw [ta]; exact k2) (by rw [tn]; exact k3) ⟨fun s hd => ?_, fun s hd => ?_⟩
    · unfold decAll at hK
      rw [hd] at hK
      refine wk ?_
      exact hK _ _ hp.tail
    · unfold decAll at hK
      rw [hd] at hK
      dsimp only at hK
      replace hp := hp.tail
      unfold mcRow lvRow at hp
      refine wk ?_
      have htl : lnV tv = some (i64 xs.length) := by have := All.len (hn (hp.up 2)); rw [List.length_map, bl] at this; exact this
      refine bnd_of htl ?_
      refine Lfp_fam (ι := Nat) (fun i => [ptr b, i64 s, tv, i64 xs.length, i64 i]) (fun i h' => i ≤ xs.length ∧ All (pts b (mcRow a tv L picks (.slice ad ln cap)) :: arP 75 a A :: rowP 1 tv (bs.map encP) :: rowP 8 (.slice ad ln cap) ((ts ++ [t]).map Touch.enc) :: eachP thP bs ((xs.take i).map (fun x => x.decide s picks) ++ xs.drop i) :: R) h') (fun i => xs.length - i) ?_ 0 h7 ⟨by omega, hp⟩
      clear hp
      rintro i h8 X ⟨hi, hp⟩ again
      simp only [tup_zero, tup_succ]
      refine wk ?_
      refine ifV_cases (fun c => ?_) fun c => ?_
      · obtain ⟨y, hy⟩ : ∃ y, xs[i]? = some y := ⟨_, List.getElem?_eq_getElem (by omega)⟩
        obtain ⟨yb, hyb⟩ : ∃ yb, bs[i]? = some yb := ⟨_, List.getElem?_eq_getElem (by omega)⟩
        obtain ⟨p, e1, e2⟩ := (All.rows (hn (hp.up 2))).get1 (i := i) (x := ptr yb) (by rw [List.getElem?_map, hyb]; rfl) .i64
        refine bnd_of e1 (bnd_of e2 ?_)
        refine wk ?_
        refine bnd_of (ld14 hp) ?_
        have hy2 := map_part_get (f := fun x : Th => x.decide s picks) hy
        refine T_thDecide (eachP_at hyb hy2 (hn (hp.up 4))) (oe y (List.mem_of_getElem? hy)) fun h9 hp => ?_
        have hp := eachP_put (b := y.decide s picks) hyb (by simp only [List.length_append, List.length_map, List.length_take, List.length_drop]; omega) hp
        rw [map_part (f := fun x : Th => x.decide s picks) hy] at hp
        refine wk ?_
        exact again (i + 1) _ ⟨by omega, hn (hp.re 5 [1, 2, 3, 4, 0])⟩ (by omega)
      · have : i = xs.length := by omega
        subst this
        rw [List.take_length, List.drop_length, List.append_nil] at hp
        exact hK _ _ hp
  have tr0 := tr.1.1; have tr1 := tr.1.2
  have hp0 : All (pts d (.row 37 [i64 k, i64 l1, i64 l2, i64 l3, i64 l4, i64 x.ts, i64 x.tg, i64 l7] 8 true) :: pts b (mcRow a tv L picks xv) :: arP 75 a A :: rowP 1 tv (bs.map encP) :: rowP 8 xv (ts.map Touch.enc) :: eachP thP bs xs :: R) h4 := hp
  refine ifV_cases (fun c => ?_) fun c => ?_
  · obtain ⟨n, en⟩ := Int.eq_ofNat_of_zero_le c
    refine wk ?_
    rw [en]
    refine bnd_of (iaV_at (by omega) .i64) ?_
    have hl : ldV 1 false (.pointer (some ⟨b, 2 + n * 1, none⟩)) h4 = some (i64 (L.getD n 0)) := lv_ld (pre := [ptr a, tv]) (hn (hp0.up 1)) (by omega)
    refine bnd_of hl ?_
    refine wk ?_
    refine st0 hp (.row 37 [i64 k, i64 l1, i64 l2, i64 l3, i64 l4, i64 x.ts, i64 x.tg, i64 (L.getD n 0)] 8 true) rfl (by simp) rfl (by rw [en]; rfl) fun h5 hp => ?_
    refine j1 _ ?_
    have e : (noteT A L k x).enc = [i64 k, i64 l1, i64 l2, i64 l3, i64 l4, i64 x.ts, i64 x.tg, i64 (L.getD n 0)] := by
      unfold noteT Ar.lst Touch.enc
      rw [el, if_pos c, en]; rfl
    rw [e]
    exact hp
  · refine j1 _ ?_
    have e : (noteT A L k x).enc = [i64 k, i64 l1, i64 l2, i64 l3, i64 l4, i64 x.ts, i64 x.tg, i64 l7] := by
      unfold noteT Ar.lst Touch.enc
      rw [el, if_neg c]; rfl
    rw [e]
    exact hp
end
end Go.Proofs.YtkflebignnmomaaGreat
namespace Go.Proofs.YtkflebignnmomaaGreat
open Go GW Go.Proofs
attribute [local irreducible] bnd ldV stV ifV binV eqI
set_option maxRecDepth 20000
section
variable {a b : Nat} {R : List Part} {h : GH} {K : Value → GH → Prop} {M : Mc} {k : Int}
theorem Mc.pick_no (c : ¬ (0 ≤ k ∧ k < M.ths.length) ∨ 65536 ≤ M.picks) : M.pick k = (M, false, 1900) := by unfold Mc.pick; rw [if_pos c]
theorem Mc.pick_yes {n : Nat} {x : Th} (hx : M.ths[n]? = some x) (hp : M.picks < 65536) : M.pick n =
    ({ A := (x.step M.A M.L M.picks).2.2.2.1, ths := if (x.step M.A M.L M.picks).2.1 then decAll (noteT (x.step M.A M.L M.picks).2.2.2.1 (x.step M.A M.L M.picks).2.2.2.2 n (x.step M.A M.L M.picks).1) M.picks (M.ths.set n (x.step M.A M.L M.picks).1) else M.ths.set n (x.step M.A M.L M.picks).1, L := (x.step M.A M.L M.picks).2.2.2.2, picks := M.picks + 1, ts := if (x.step M.A M.L M.picks).2.1 then M.ts ++ [noteT (x.step M.A M.L M.picks).2.2.2.1 (x.step M.A M.L M.picks).2.2.2.2 n (x.step M.A M.L M.picks).1] else M.ts }, (x.step M.A M.L M.picks).2.1, if (x.step M.A M.L M.picks).2.2.1 = 0 then 0 else 1900) := by
  have hn := (List.getElem?_eq_some_iff.1 hx).1
  unfold Mc.pick
  rw [if_neg (by omega)]
  simp only [Int.toNat_natCast, hx]
theorem Th.ok.evs8 {x : Th} (o : x.ok) : x.evs.length ≤ 8 := by have := o.evs; have := thrMay_spec o.txns; omega
theorem T_mPick (hp : All (mcP b M :: R) h) (o : M.ok) (hK : ∀ h', All (mcP b (M.pick k).1 :: R) h' → K (.tuple #[.bool (M.pick k).2.1, i64 (M.pick k).2.2]) h') : T Tryz.prog 7 [ptr b, i64 k] h K := by
  apply S7_T
  unfold S7
  refine wk ?_
  have hp00 := hp
  refine mcP_open hp fun a bs tv xv hp => ?_
  have bl : bs.length = M.ths.length := All.case (hn (hp.up 4)) fun h1 p _ => eachP_len p
  have ld14 : ∀ {h'} {R'} {L : List Int} {xv}, L.length = 12 → All (pts b (mcRow a tv L M.picks xv) :: R') h' → ldV 1 false (.pointer (some ⟨b, 0 + 14, none⟩)) h' = some (i64 M.picks) := fun hL hp => lv_ld2 hp 0 rfl (by rw [hL]; rfl)
  have hp0 := hp
  unfold mcRow lvRow at hp
  refine wk ?_
  have htl : lnV tv = some (i64 M.ths.length) := by have := All.len (hn (hp.up 2)); rw [List.length_map, bl] at this; exact this
  refine bnd_of htl ?_
  refine T_Below ?_
  refine wk ?_
  refine ifN_cases (fun c => ?_) fun c => ?_
  · rw [Mc.pick_no (.inl c)] at hK
    exact hK _ hp00
  refine wk ?_
  refine bnd_of (ld14 o.L hp0) ?_
  refine wk ?_
  refine ifV_cases (fun c2 => ?_) fun c2 => ?_
  · rw [Mc.pick_no (.inr c2)] at hK
    exact hK _ hp00
  obtain ⟨n, rfl⟩ := Int.eq_ofNat_of_zero_le c.1
  have hn0 : n < M.ths.length := by omega
  obtain ⟨x, hx⟩ : ∃ x, M.ths[n]? = some x := ⟨_, List.getElem?_eq_getElem hn0⟩
  obtain ⟨tb, htb⟩ : ∃ tb, bs[n]? = some tb := ⟨_, List.getElem?_eq_getElem (by omega)⟩
  rw [Mc.pick_yes hx (by omega)] at hK
  have ox := o.ths x (List.mem_of_getElem? hx)
  have s := Th.step_ok (L := M.L) ox.1 o.A o.p0
  have ac := Th.step_acc (L := M.L) (pick := M.picks) ox.1 ox.2.1 o.A
  have trs := Th.step_tsr (A := M.A) (L := M.L) (pick := M.picks) ox.1 ox.2.2.2
  have hl := Th.step_lives (A := M.A) (x := x) (L := M.L) (pick := M.picks)
  have hlok := ac.1.lok o.A o.l
  unfold S7_j1
  refine wk ?_
  obtain ⟨p, e1, e2⟩ := (All.rows (hn (hp.up 2))).get1 (i := n) (x := ptr tb) (by rw [List.getElem?_map, htb]; rfl) .i64
  refine bnd_of e1 (bnd_of e2 ?_)
  refine wk ?_
  refine bnd_of (ld14 o.L hp0) ?_
  have p0 := o.p0
  have hLok : Lok M.L := ⟨o.L, fun y hy => by have := o.L2 y hy; have := o.p1; omega⟩
  have hp1 := eachP_at htb hx (hn (hp0.up 4))
  replace hp1 : All (arP 75 a M.A :: pts b (lvRow 61 16 [ptr a, tv] M.L [i64 M.picks, xv]) :: thP tb x :: eachP thP (bs.eraseIdx n) (M.ths.eraseIdx n) :: rowP 1 tv (bs.map encP) :: rowP 8 xv (M.ts.map Touch.enc) :: R) h := hn (hp1.re 6 [3, 2, 0, 1, 4, 5])
  refine T_thStep hp1 ox.1 hLok p0 fun h1 hp => ?_
  clear hp1 hp0
  generalize x.step M.A M.L M.picks = r at hp hK s ac trs hl hlok
  obtain ⟨x', is, code, A', L'⟩ := r
  dsimp only at hp hK s ac trs hl hlok ⊢
  have hL' : L'.length = 12 := by
    rcases hl with e | ⟨s, e⟩
    · rw [e]; exact o.L
    · rw [e]; unfold lived; rw [List.length_set]; exact o.L
  have hp2 := eachP_put (b := x') htb hn0 (hn (hp.re 4 [2, 3, 0, 1]))
  replace hp2 : All (pts b (mcRow a tv L' M.picks xv) :: arP 75 a A' :: rowP 1 tv (bs.map encP) :: rowP 8 xv (M.ts.map Touch.enc) :: eachP thP bs (M.ths.set n x') :: R) h1 := hn (hp2.re 5 [2, 1, 3, 4, 0])
  clear hp
  have j2 : ∀ (xv' : Value) (ths : List Th) (ts : List Touch) h', (∀ h'', All (mcP b ⟨A', ths, L', M.picks + 1, ts⟩ :: R) h'' → K (.tuple #[.bool is, i64 (if code = 0 then 0 else 1900)]) h'') → All (pts b (mcRow a tv L' M.picks xv') :: arP 75 a A' :: rowP 1 tv (bs.map encP) :: rowP 8 xv' (ts.map Touch.enc) :: eachP thP bs ths :: R) h' → S7_j2 (ptr b) (.bool is) (i64 code) h' K := by
    intro xv' ths ts h' hK hp
    unfold S7_j2
    refine wk ?_
    refine bnd_of (ld14 hL' hp) ?_
    refine wk ?_
    unfold mcRow at hp
    refine lv_st2 hp 0 (by simp) (by rw [hL']; rfl) rfl rfl fun h2 hp => ?_
    replace hp : All (pts b (mcRow a tv L' (M.picks + 1) xv') :: _) h2 := hp
    have := hK _ (mcP_shut (M := ⟨A', ths, L', M.picks + 1, ts⟩) hp)
    refine wk ?_
    by_cases c : code = 0
    · rw [if_pos c] at this
      rw [decide_eq_true c]
      refine wk ?_
      exact this
    · rw [if_neg c] at this
      rw [decide_eq_false c]
      refine wk ?_
      exact this
  refine wk ?_
  have hx2 : (M.ths.set n x')[n]? = some x' := List.getElem?_set_self hn0
  cases is with
  | false =>
    refine wk ?_
    exact j2 xv _ _ _ hK hp2
  | true =>
    refine wk ?_
    refine T_note hp2 hx2 trs hL' hlok (by have := o.ts; have := o.p1; omega) (fun y hy => ?_) (by rw [List.length_set]; exact o.n) fun xv' h2 hp => ?_
    · rcases List.mem_or_eq_of_mem_set hy with q | q
      · exact (o.ths y q).1.evs8
      · subst q; exact s.1.evs8
    · exact j2 xv' _ _ _ hK hp
end
end Go.Proofs.YtkflebignnmomaaGreat
namespace Go.Proofs.YtkflebignnmomaaGreat
open Go GW Go.Proofs
attribute [local irreducible] bnd ldV stV ifV binV eqI
set_option maxRecDepth 20000
theorem Mc.threads_snoc : ∀ {ts : List (List (List Op))} {i n k : Int} {pol : Bool} {t : List (List Op)}, Mc.threads i n k pol (ts ++ [t]) = Mc.threads i n k pol ts ++ [Th.new (i + ts.length) n k pol t] := by
  intro ts
  induction ts with
  | nil => intro i n k pol t; simp [Mc.threads]
  | cons x ts ih =>
    intro i n k pol t
    show Th.new i n k pol x :: Mc.threads (i + 1) n k pol (ts ++ [t]) = _
    rw [ih]
    show _ = Th.new i n k pol x :: (Mc.threads (i + 1) n k pol ts ++ _)
    congr 4
    simp only [List.length_cons]; omega
def allEvents (xs : List Th) : List Event := xs.flatMap Th.evs
section
variable {a b : Nat} {R : List Part} {h g : GH} {K : Value → GH → Prop} {M : Mc} {k : Int} {v : Value} {p : Plan}
theorem T_mNew (hp : All R h) (hg : ∀ h', All R h' → HLe g h') (ht : threadsAt g v p.threads) (kn : p.may = false → ∀ h', All R h' → K (.tuple #[.pointer none, i64 1900]) h')
    (ky : p.may = true → ∀ b h', All (mcP b (Mc.new p) :: R) h' → K (.tuple #[ptr b, i64 0]) h') : T Tryz.prog 5 [.agg (planC v p).toArray] h K := by
  apply S5_T
  unfold S5
  refine nw hp (.row 24 (planC v p) 3 true) rfl fun d h1 hp => ?_
  refine la0 hp (c := planC v p) (Nat.le_refl 3) rfl ?_
  refine T_scriptMay (ht.le (hg _ hp.tail)) ?_
  refine wk ?_
  cases hm : p.may with
  | false => refine wk ?_; exact kn hm _ hp.tail
  | true =>
    refine wk ?_
    have ky := ky hm
    obtain ⟨m1, m2, m3, m4, m5⟩ := Plan.may_spec hm
    refine T_arenaNew hp fun a h2 hp => ?_
    refine wk ?_
    refine nw hp (mcRow a (.slice none 0 0) (List.replicate 12 0) 0 (.slice none 0 0)) rfl fun b h3 hp => ?_
    replace hp := hn (hp.re 3 [2, 0, 1])
    unfold planC at hp
    refine wk ?_
    have hlen : lnV v = some (i64 p.threads.length) := by
      obtain ⟨es, r, a2⟩ := ht
      have := r.len
      rw [a2.1] at this; exact this
    refine bnd_of hlen ?_
    refine Lfp_fam (ι := Nat × List Nat × Value) (fun q => [ptr d, ptr b, v, i64 p.threads.length, i64 q.1]) (fun q h' => q.1 ≤ p.threads.length ∧ q.2.1.length = q.1 ∧ All (pts d (.row 24 [v, i64 p.attempts, .bool p.polite] 3 true) :: pts b (mcRow a q.2.2 (List.replicate 12 0) 0 (.slice none 0 0)) :: arP 75 a newAr :: rowP 1 q.2.2 (q.2.1.map encP) :: eachP thP q.2.1 (Mc.threads 0 p.threads.length p.attempts p.polite (p.threads.take q.1)) :: R) h') (fun q => p.threads.length - q.1) ?_ (0, [], .slice none 0 0) h3 ⟨by simp, rfl, ?_⟩
    rotate_left
    · have z1 := All.emp_cons (P := eachP thP [] (Mc.threads 0 p.threads.length p.attempts p.polite (p.threads.take 0))) hp (by exact trivial)
      have z2 := All.emp_cons (P := rowP 1 (.slice none 0 0) []) z1 (rowP_nil _ _)
      exact hn (z2.re 5 [2, 3, 4, 0, 1])
    clear hp
    rintro ⟨i, bs, tv⟩ h4 X ⟨hi, hbl, hp⟩ again
    simp only at hi hbl hp
    simp only [tup_zero, tup_succ]
    refine wk ?_
    refine ifV_cases (fun c => ?_) fun c => ?_
    · obtain ⟨t, hti⟩ : ∃ t, p.threads[i]? = some t := ⟨_, List.getElem?_eq_getElem (by omega)⟩
      obtain ⟨es0, r0, a0⟩ := ht
      obtain ⟨c0, hc0, w, cs, rfl, rw_, aw⟩ := a0.get hti
      have hgR : ∀ {h'} {P1 P2 P3 P4 P5 : Part}, All (P1 :: P2 :: P3 :: P4 :: P5 :: R) h' → HLe g h' := fun hp => hg _ hp.tail.tail.tail.tail.tail
      obtain ⟨q, d1, d2⟩ := (r0.le (hgR hp)).get1 hc0 .i64
      refine bnd_of d1 (bnd_of d2 ?_)
      refine wk ?_
      refine bnd_of hlen ?_
      refine wk ?_
      refine T_thNew (ts := t) (cs0 := cs) hp (fun h' hp => ⟨rw_.le (hgR hp), aw.mono fun x y z => z.le (hgR hp)⟩) (fun m => ?_) fun _ tb h5 hp => ?_
      · exact absurd ⟨⟨by omega, by omega⟩, ⟨by omega, by omega⟩, ⟨m3, m4⟩, m5 t (List.mem_of_getElem? hti)⟩ m
      replace hp := hn (hp.re 3 [2, 1, 0])
      unfold mcRow lvRow at hp
      refine wk ?_
      replace hp := hn (hp.re 5 [4, 0, 1, 2, 3])
      refine bs0 (size := 1) hp ([tb].map encP) rfl rfl (by simp) (encP_good _) fun sv h6 hp => ?_
      have r2 := hp.rows
      refine ap0 (hn (hp.up 1)) r2 (encP_good _) (by decide) (by simp only [List.length_map, List.length_cons, List.length_nil]; omega) fun tv' h7 hp => ?_
      obtain ⟨ad, ln, cap, rfl⟩ := All.isSlice hp
      rw [← List.map_append] at hp
      replace hp := hn (hp.re 7 [2, 0, 3, 4, 5, 6])
      refine wk ?_
      refine st0 hp (mcRow a (.slice ad ln cap) (List.replicate 12 0) 0 (.slice none 0 0)) rfl (by simp) rfl rfl fun h8 hp => ?_
      refine wk ?_
      refine again (i + 1, bs ++ [tb], .slice ad ln cap) _ ⟨by simp only; omega, by simp [hbl], ?_⟩ (by simp only; omega)
      have hp := eachP_snoc (hn (hp.re 6 [3, 5, 0, 1, 2, 4]))
      have e1 : p.threads.take (i + 1) = p.threads.take i ++ [t] := by rw [List.take_add_one, hti]; rfl
      have e2 : Mc.threads 0 p.threads.length p.attempts p.polite (p.threads.take i) ++ [Th.new i p.threads.length p.attempts p.polite t] = Mc.threads 0 p.threads.length p.attempts p.polite (p.threads.take (i + 1)) := by
        rw [e1, Mc.threads_snoc, List.length_take]; congr 3; omega
      rw [e2] at hp
      exact hn (hp.re 5 [3, 1, 4, 2, 0])
    · have hie : i = p.threads.length := by omega
      subst hie
      rw [List.take_length] at hp
      have z1 := All.emp_cons (P := rowP 8 (.slice none 0 0) []) hp (rowP_nil _ _)
      exact ky b _ (mcP_shut (M := Mc.new p) (hn (z1.re 6 [2, 3, 4, 0, 5])))
theorem T_mDone (hp : All (mcP b M :: R) h) (o : M.ok) (hK : K (.bool M.done) h) : T Tryz.prog 11 [ptr b] h K := by
  apply S11_T
  unfold S11
  refine mcP_open hp fun a bs tv xv hp => ?_
  have bl : bs.length = M.ths.length := All.case (hn (hp.up 4)) fun h1 p _ => eachP_len p
  unfold mcRow lvRow at hp
  refine wk ?_
  have htl : lnV tv = some (i64 M.ths.length) := by have := All.len (hn (hp.up 2)); rw [List.length_map, bl] at this; exact this
  apply S22_T
  unfold S22
  apply S36_T
  unfold S36
  refine bnd_of htl ?_
  have on := o.n
  refine Lfp_fam (ι := Nat) (fun i => [tv, .func (.func 23) #[] #[], i64 M.ths.length, i64 i]) (fun i h' => i ≤ M.ths.length ∧ h' = h ∧ (M.ths.take i).all Th.done = true) (fun i => M.ths.length - i) ?_ 0 h ⟨by omega, rfl, by simp⟩
  rintro i h1 X ⟨hi, rfl, ha⟩ again
  simp only [tup_zero, tup_succ]
  refine wk ?_
  refine ifV_cases (fun c => ?_) fun c => ?_
  · obtain ⟨x, hx⟩ : ∃ x, M.ths[i]? = some x := ⟨_, List.getElem?_eq_getElem (by omega)⟩
    obtain ⟨tb, htb⟩ : ∃ tb, bs[i]? = some tb := ⟨_, List.getElem?_eq_getElem (by omega)⟩
    obtain ⟨p, e1, e2⟩ := (All.rows (hn (hp.up 2))).get1 (i := i) (x := ptr tb) (by rw [List.getElem?_map, htb]; rfl) .i64
    refine bnd_of e1 (bnd_of e2 ?_)
    show T Tryz.prog 23 [ptr tb] h1 _
    apply S23_T
    unfold S23
    refine T_thDone (eachP_at htb hx (hn (hp.up 4))) (o.ths x (List.mem_of_getElem? hx)).1.evs8 ?_
    refine wk ?_
    cases hd : x.done with
    | true =>
      refine wk ?_
      refine again (i + 1) _ ⟨by omega, rfl, ?_⟩ (by omega)
      rw [List.take_add_one, hx, List.all_append, ha]
      simp [hd]
    | false =>
      refine wk ?_
      have e : M.done = false := by
        unfold Mc.done
        rw [List.all_eq_false]
        exact ⟨x, List.mem_of_getElem? hx, by rw [hd]; decide⟩
      rw [e] at hK
      rw [decide_eq_true (by omega : (0 : Int) ≤ (i : Int))]
      refine wk ?_
      exact hK
  · have : i = M.ths.length := by omega
    subst this
    rw [List.take_length] at ha
    have e : M.done = true := ha
    rw [e] at hK
    refine wk ?_
    exact hK
theorem evCs_app {es es' : List Event} {ws ws' : List Value} (hl : ws.length = es.length) : evCs es ws ++ evCs es' ws' = evCs (es ++ es') (ws ++ ws') := by
  unfold evCs
  rw [List.zipWith_append hl.symm]
theorem ansO_app2 : ∀ {ws ws' : List Value} {es es' : List Event}, ws.length = es.length → ansO (ws ++ ws') (es ++ es') = ansO ws es ++ ansO ws' es' := by
  intro ws
  induction ws with
  | nil =>
    intro ws' es es' hl
    cases es with
    | nil => rfl
    | cons x es => simp at hl
  | cons w0 ws ih =>
    intro ws' es es' hl
    cases es with
    | nil => simp at hl
    | cons x es =>
      show rowP 2 w0 (x.answers.map Answer.enc) :: ansO (ws ++ ws') (es ++ es') = _
      rw [ih (by simpa using hl)]; rfl
theorem T_mEvents (hp : All (mcP b M :: R) h) (o : M.ok) (hK : ∀ v' h', All (evoP v' M.events :: mcP b M :: R) h' → K v' h') : T Tryz.prog 9 [ptr b] h K := by
  apply S9_T
  unfold S9
  refine mcP_open hp fun a bs tv xv hp => ?_
  have bl : bs.length = M.ths.length := All.case (hn (hp.up 4)) fun h1 p _ => eachP_len p
  have hp0 := hp
  unfold mcRow lvRow at hp
  refine wk ?_
  have htl : lnV tv = some (i64 M.ths.length) := by have := All.len (hn (hp.up 2)); rw [List.length_map, bl] at this; exact this
  refine bnd_of htl ?_
  have on := o.n
  clear hp
  refine Lfp_fam (ι := Nat × Value) (fun p => [p.2, tv, i64 M.ths.length, i64 p.1]) (fun p h' => p.1 ≤ M.ths.length ∧ (allEvents (M.ths.take p.1)).length ≤ 8 * p.1 ∧ All (evoP p.2 (allEvents (M.ths.take p.1)) :: pts b (mcRow a tv M.L M.picks xv) :: arP 75 a M.A :: rowP 1 tv (bs.map encP) :: rowP 8 xv (M.ts.map Touch.enc) :: eachP thP bs M.ths :: R) h') (fun p => M.ths.length - p.1) ?_ (0, .slice none 0 0) h ⟨by simp, by simp [allEvents], hp0.emp_cons evoP_nil⟩
  clear hp0
  rintro ⟨i, ov⟩ h1 X ⟨hi, hle, hp⟩ again
  simp only at hi hle hp
  simp only [tup_zero, tup_succ]
  refine wk ?_
  refine ifV_cases (fun c => ?_) fun c => ?_
  · obtain ⟨x, hx⟩ : ∃ x, M.ths[i]? = some x := ⟨_, List.getElem?_eq_getElem (by omega)⟩
    obtain ⟨tb, htb⟩ : ∃ tb, bs[i]? = some tb := ⟨_, List.getElem?_eq_getElem (by omega)⟩
    obtain ⟨p, e1, e2⟩ := (All.rows (hn (hp.up 3))).get1 (i := i) (x := ptr tb) (by rw [List.getElem?_map, htb]; rfl) .i64
    refine bnd_of e1 (bnd_of e2 ?_)
    have ox := o.ths x (List.mem_of_getElem? hx)
    have h8 := ox.1.evs8
    refine T_thEvents (eachP_at htb hx (hn (hp.up 5))) h8 ox.2.2.1 fun nv h2 hp => ?_
    have hp := eachP_put (P := thP) (ys := M.ths) (b := x) htb (by omega) (hn (hp.re 3 [1, 2, 0]))
    rw [set_self hx] at hp
    refine evoP_open (hn (hp.up 1)) fun ws hl hp => ?_
    have hg := evs_good hp
    replace hp := hn (hp.re 4 [3, 0, 1, 2])
    refine evoP_open hp fun us hu hp => ?_
    have hg2 := evs_good hp
    have r2 := All.rows (hn (hp.up 2))
    refine ap0 hp r2 hg (by decide) (by rw [evCs_len hl, evCs_len hu]; omega) fun ov' h3 hp => ?_
    rw [evCs_app hu] at hp
    refine wk ?_
    have e1 : allEvents (M.ths.take (i + 1)) = allEvents (M.ths.take i) ++ x.evs := by
      unfold allEvents
      rw [List.take_add_one, hx, List.flatMap_append]; simp
    refine again (i + 1, ov') _ ⟨by simp only; omega, by simp only [e1, List.length_append]; omega, ?_⟩ (by simp only; omega)
    simp only [e1]
    refine evoP_shut (ws := us ++ ws) (by simp [hu, hl]) ?_
    rw [ansO_app2 hu]
    have hp := All.fold (l := [All (ansO us (allEvents (M.ths.take i))), All (ansO ws x.evs)]) (hn (hp.re 4 [1, 3, 0]))
    have hp := hp.head (Q := All (ansO us (allEvents (M.ths.take i)) ++ ansO ws x.evs)) fun h1 z => All.app (Sep.mono (fun _ z => z) (fun _ z => by
      obtain ⟨h3, h4, _, l3, _, p, _⟩ := z
      exact All.le l3 p) z)
    exact hn (hp.re 7 [1, 0, 3, 4, 5, 6, 2])
  · have : i = M.ths.length := by omega
    subst this
    rw [List.take_length] at hp
    refine hK _ _ ?_
    have := mcP_shut (M := M) (hn (hp.re 6 [1, 2, 3, 4, 5, 0]))
    exact hn (this.re 2 [1, 0])
theorem T_CloneTouchs {v : Value} {xs : List Touch} (hp : All R h) (hr : ∀ h', All R h' → rowsAt h' 8 v (xs.map Touch.enc)) (hb : xs.length ≤ 100000) (hK : ∀ v' h', All (rowP 8 v' (xs.map Touch.enc) :: R) h' → K v' h') : T Tryz.prog 19 [v] h K := by
  apply S19_T
  unfold S19
  have r := hr _ hp
  obtain ⟨ad, n, cap, rfl, hl, h1, h2, hx⟩ := r
  rw [List.length_map] at hl
  cases ad with
  | none =>
    have hx0 : xs = [] := by
      cases xs with
      | nil => rfl
      | cons y ys =>
        obtain ⟨bb, off, T, pre, sz, f, e, _⟩ := hx 0 y.enc rfl
        cases e
    subst hx0
    have n0 : n = 0 := hl.symm
    subst n0
    by_cases hc : cap = 0
    · subst hc
      refine wk ?_
      exact hK _ _ (hp.emp_cons (rowP_nil 8 _))
    · refine wk ?_
      exact hK _ _ (hp.emp_cons (rowP_nil 8 _))
  | some q =>
    refine wk ?_
    refine bs0 (size := 8) hp [] rfl rfl (by simp) (fun c hc => by cases hc) fun nv h1 hp => ?_
    have hr := hr _ hp.tail
    refine ap0 hp hr (Touch.all_good xs) (by decide) (by simp only [List.length_map, List.length_nil]; omega) fun nv' h2 hp => ?_
    exact hK _ _ hp
theorem T_mTouches (hp : All (mcP b M :: R) h) (o : M.ok) (hK : ∀ v' h', All (rowP 8 v' (M.ts.map Touch.enc) :: mcP b M :: R) h' → K v' h') : T Tryz.prog 8 [ptr b] h K := by
  apply S8_T
  unfold S8
  refine wk ?_
  refine mcP_open hp fun a bs tv xv hp => ?_
  have e : ldV 1 false (.pointer (some ⟨b, 0 + 15, none⟩)) h = some xv := lv_ld2 hp 1 rfl (by rw [o.L]; rfl)
  refine wk ?_
  refine bnd_of e ?_
  have p1 := o.p1; have ts := o.ts
  refine T_CloneTouchs (xs := M.ts) hp (fun h' hp => All.rows (hn (hp.up 3))) (by omega) fun v' h2 hp => ?_
  refine hK _ _ ?_
  have := mcP_shut (M := M) (hn (hp.re 6 [1, 2, 3, 4, 5, 0]))
  exact hn (this.re 2 [1, 0])
theorem T_mWords (hp : All (mcP b M :: R) h) (hK : ∀ v' h', All (rowP 1 v' (M.A.ws.map encI) :: mcP b M :: R) h' → K v' h') : T Tryz.prog 10 [ptr b] h K := by
  apply S10_T
  unfold S10
  refine mcP_open hp fun a bs tv xv hp => ?_
  have hp0 := hp
  unfold mcRow lvRow at hp
  refine wk ?_
  refine T_All (hn (hp0.up 1)) fun v' h2 hp => ?_
  refine hK _ _ ?_
  have := mcP_shut (M := M) (hn (hp.re 6 [2, 1, 3, 4, 5, 0]))
  exact hn (this.re 2 [1, 0])
end
end Go.Proofs.YtkflebignnmomaaGreat
namespace Go.Proofs.YtkflebignnmomaaGreat
open Go GW Go.Proofs
attribute [local irreducible] bnd ldV stV ifV binV eqI
set_option maxRecDepth 20000
theorem All2.nil {α β : Type} {R : α → β → Prop} : All2 R [] [] := ⟨rfl, fun i x y h => by simp at h⟩
theorem All2.cons {α β : Type} {R : α → β → Prop} {x : α} {y : β} {xs : List α} {ys : List β} (r : R x y) (a : All2 R xs ys) : All2 R (x :: xs) (y :: ys) := by
  refine ⟨by simp [a.1], fun i u v hu hv => ?_⟩
  cases i with
  | zero => simp at hu hv; subst hu; subst hv; exact r
  | succ i => exact a.2 i u v (by simpa using hu) (by simpa using hv)
theorem txnC_mk {h : GH} {w : Value} {t : List Op} (r : rowsAt h 4 w (t.map Op.enc)) : txnC h [w] t := ⟨w, rfl, r⟩
theorem thrC_mk {h : GH} {w : Value} {es : List (List Value)} {ts : List (List Op)} (r : rowsAt h 1 w es) (a : All2 (txnC h) es ts) : thrC h [w] ts := ⟨w, es, rfl, r, a⟩
theorem thrC_nil {h : GH} : thrC h [.slice none 0 0] [] := ⟨_, [], rfl, rowsAt_nil _ _, .nil⟩
theorem All.base {P : Part} {R : List Part} {h : GH} (hp : All (P :: R) h) : ∃ g, P g ∧ All (baseP g :: R) h := by
  obtain ⟨h1, h2, d, l1, l2, p, q⟩ := hp
  exact ⟨h1, p, h1, h2, d, l1, l2, HLe.refl _, q⟩
theorem All.baseLe {g : GH} {R : List Part} {h : GH} (hp : All (baseP g :: R) h) : HLe g h := by
  obtain ⟨h1, h2, d, l1, l2, p, q⟩ := hp
  exact HLe.trans p l1
def mruns : Nat → Mc → Option Mc
  | 0, M => some M
  | n + 1, M => match (M.pick 0).2 with
    | (true, 0) => mruns n (M.pick 0).1
    | _ => none
def mawakeP : Plan := ⟨[[[⟨0, 1, 0, 9⟩]], []], 2, false⟩
def mawakeM : Mc := (((Mc.new mawakeP).pick 1).1.pick 2).1
def mawakeFin (r : Option Mc) : Bool := match r with
  | some M => (match M.events with
      | [e] => decide (e.begun = 1) && (decide (e.decided = 20) && (decide (e.answered = 31) && decide (e.answers = [⟨0, 9⟩])))
      | _ => false) && (decide (M.ts.length = 31) && (decide (M.ts[0]? = some ⟨0, 0, 29, 0, 0, -1, 0, 0⟩) && (M.done && decide (M.A.at 1 = 40))))
  | none => false
theorem mawake_fin : mawakeFin (mruns 31 mawakeM) = true := by decide +kernel
theorem mawake_pick : (((Mc.new mawakeP).pick 1).2 = (false, 0)) ∧ (((Mc.new mawakeP).pick 1).1.pick 2).2 = (false, 1900) := by decide +kernel
theorem mawakeP_may : mawakeP.may = true := by decide
section
variable {a b : Nat} {R : List Part} {h g : GH} {K : Value → GH → Prop} {M : Mc} {k : Int} {v : Value} {p : Plan}
theorem T_mNew' (hp : All (baseP g :: R) h) (ht : threadsAt g v p.threads) (hm : p.may = true) (ky : ∀ b h', All (mcP b (Mc.new p) :: baseP g :: R) h' → K (.tuple #[ptr b, i64 0]) h') : T Tryz.prog 5 [.agg (planC v p).toArray] h K :=
  T_mNew hp (fun h' hp => All.baseLe hp) ht (fun e => by rw [hm] at e; cases e) fun _ b h' hp => ky b h' hp
theorem T_mNewBad (hp : All R h) (hg : ∀ h', All R h' → HLe g h') (ht : threadsAt g v p.threads) (hm : p.may = false) (kn : ∀ h', All R h' → K (.tuple #[.pointer none, i64 1900]) h') : T Tryz.prog 5 [.agg (planC v p).toArray] h K :=
  T_mNew hp hg ht (fun _ => kn) fun e => by rw [hm] at e; cases e
theorem HLe.none_le (h : GH) : HLe (fun _ => none) h := fun b g e => by cases e
theorem threadsAt_nil {h : GH} : threadsAt h (.slice none 0 0) [] := ⟨[], rowsAt_nil _ _, .nil⟩
theorem eachMc_ok {n : Nat} {M M' : Mc} (h : mruns n M = some M') (o : M.ok) : M'.ok := by
  induction n generalizing M with
  | zero => cases h; exact o
  | succ n ih =>
    unfold mruns at h
    split at h
    · exact ih h (Mc.pick_ok o)
    · cases h
theorem T_mawake (hp : All R h) (hK : ∀ h', All R h' → K (.bool true) h') : T Tryz.prog 4 [] h K := by
  apply S4_T
  unfold S4
  refine bnd_of rfl ?_
  refine bs0 (size := 4) hp ([Op.mk 0 1 0 9].map Op.enc) rfl rfl (by simp) (Op.all_good _) fun v2 h1 hp => ?_
  obtain ⟨a2, n2, c2, rfl⟩ := All.isSlice hp
  refine bnd_of rfl ?_
  refine bs0 (size := 1) hp [[.slice a2 n2 c2]] rfl rfl (by simp) (fun c hc => by rw [List.mem_singleton.1 hc]; exact ⟨rfl, rfl⟩) fun v5 h2 hp => ?_
  obtain ⟨a5, n5, c5, rfl⟩ := All.isSlice hp
  refine bs0 (size := 1) hp [[.slice a5 n5 c5], [.slice none 0 0]] rfl rfl (by simp) (fun c hc => by
    rcases List.mem_cons.1 hc with rfl | hc
    · exact ⟨rfl, rfl⟩
    · rw [List.mem_singleton.1 hc]; exact ⟨rfl, rfl⟩) fun v7 h3 hp => ?_
  obtain ⟨a7, n7, c7, rfl⟩ := All.isSlice hp
  refine bnd_of rfl ?_
  obtain ⟨g, pg, hp⟩ := All.base (All.fold (l := [_, _, _]) hp)
  have ht : threadsAt g (.slice a7 n7 c7) mawakeP.threads := by
    have r1 := All.rows pg
    have r2 := All.rows (hn (pg.up 1))
    have r3 := All.rows (hn (pg.up 2))
    exact ⟨_, r1, .cons (thrC_mk r2 (.cons (txnC_mk r3) .nil)) (.cons thrC_nil .nil)⟩
  refine nwst hp (.row 24 (planC (.slice a7 n7 c7) mawakeP) 3 true) rfl rfl rfl rfl fun d h4 hp => ?_
  refine la0 hp (c := planC (.slice a7 n7 c7) mawakeP) (Nat.le_refl 3) rfl ?_
  replace hp := hn (hp.re 2 [1])
  refine T_mNew' hp ht mawakeP_may fun b h5 hp => ?_
  refine wk ?_
  refine T_mNewBad (g := fun _ => none) (v := .slice none 0 0) (p := ⟨[], 0, false⟩) hp (fun h' hp => HLe.none_le _) threadsAt_nil rfl fun h6 hp => ?_
  refine wk ?_
  refine T_Num ?_
  refine wk ?_
  replace hp := hn (hp.re 2 [0])
  have o0 := Mc.new_ok mawakeP_may
  have pk := mawake_pick
  unfold S4_j1
  refine T_mPick hp o0 fun h7 hp => ?_
  rw [pk.1]
  refine wk ?_
  refine T_mPick hp (Mc.pick_ok o0) fun h8 hp => ?_
  rw [pk.2]
  refine wk ?_
  replace hp : All (mcP b mawakeM :: R) h8 := hp
  have fin := mawake_fin
  have o1 : mawakeM.ok := Mc.pick_ok (Mc.pick_ok o0)
  cases hr : mruns 31 mawakeM with
  | none => rw [hr] at fin; cases fin
  | some M' =>
    rw [hr] at fin
    have oM := eachMc_ok hr o1
    refine Lfp_fam (ι := Nat × Mc) (fun q => [ptr b, i64 1900, .bool false, i64 0, i64 1900, i64 q.1]) (fun q h' => q.1 ≤ 31 ∧ q.2.ok ∧ mruns (31 - q.1) q.2 = some M' ∧ All (mcP b q.2 :: R) h') (fun q => 31 - q.1) ?_ (0, mawakeM) h8 ⟨by simp, o1, hr, hp⟩
    clear hp hr
    rintro ⟨i, M⟩ h9 X ⟨hi, oo, hr, hp⟩ again
    simp only at hi oo hr hp
    simp only [tup_zero, tup_succ]
    refine wk ?_
    refine ifV_cases (fun c => ?_) fun c => ?_
    · obtain ⟨n, hn1⟩ : ∃ n, 31 - i = n + 1 := ⟨30 - i, by omega⟩
      rw [hn1] at hr
      unfold mruns at hr
      refine T_mPick hp oo fun h10 hp => ?_
      split at hr
      · rename_i e
        rw [e]
        refine wk ?_
        refine T_Num ?_
        refine wk ?_
        refine again (i + 1, (M.pick 0).1) _ ⟨by simp only; omega, Mc.pick_ok oo, ?_, hp⟩ (by simp only; omega)
        have : 31 - (i + 1) = n := by omega
        simp only [this]; exact hr
      · cases hr
    · have hi31 : 31 - i = 0 := by omega
      rw [hi31] at hr
      cases hr
      unfold mawakeFin at fin
      simp only [Bool.and_eq_true, decide_eq_true_eq] at fin
      obtain ⟨f1, f2, f3, f4, f5⟩ := fin
      refine T_mEvents hp oo fun ev h10 hp => ?_
      cases hes : M'.events with
      | nil => rw [hes] at f1; cases f1
      | cons e es =>
        cases es with
        | cons e2 es => rw [hes] at f1; cases f1
        | nil =>
          rw [hes] at f1 hp
          simp only [Bool.and_eq_true, decide_eq_true_eq] at f1
          obtain ⟨g1, g2, g3, g4⟩ := f1
          refine T_mTouches (hn (hp.up 1)) oo fun xv h11 hp => ?_
          refine T_mWords (hn (hp.up 1)) fun wv h12 hp => ?_
          have el : lnV ev = some (i64 1) := evP_len (evoP_evs (hn (hp.up 3)))
          have xl : lnV xv = some (i64 M'.ts.length) := by have := All.len (hn (hp.up 2)); rw [List.length_map] at this; exact this
          have wl : lnV wv = some (i64 M'.A.ws.length) := by have := All.len hp; rw [List.length_map] at this; exact this
          rw [f2] at xl
          rw [oo.A.words] at wl
          refine bnd_of el ?_
          refine wk ?_
          refine bnd_of xl ?_
          refine wk ?_
          refine bnd_of wl ?_
          refine wk ?_
          unfold S4_j2
          refine T_Num ?_
          refine wk ?_
          refine T_Num ?_
          refine wk ?_
          refine T_Num ?_
          refine wk ?_
          refine T_mDone (hn (hp.up 1)) oo ?_
          rw [f4]
          refine wk ?_
          refine evoP_open (hn (hp.up 3)) fun ws hl hp => ?_
          obtain ⟨w, rfl⟩ : ∃ w, ws = [w] := by
            match ws, hl with
            | [w], _ => exact ⟨w, rfl⟩
          obtain ⟨eb, i1, i2, _, _⟩ := All.elt (i := 0) hp (c := e.cells w) rfl .i64
          have l2 := i2 2 1 (i64 e.begun) rfl
          have l3 := i2 3 1 (i64 e.decided) rfl
          have l4 := i2 4 1 (i64 e.answered) rfl
          have l7 := i2 7 1 w rfl
          rw [g1] at l2
          rw [g2] at l3
          rw [g3] at l4
          refine bnd_of i1 (bnd_of rfl (bnd_of l2 ?_))
          refine wk ?_
          refine bnd_of i1 (bnd_of rfl (bnd_of l3 ?_))
          refine wk ?_
          refine bnd_of i1 (bnd_of rfl (bnd_of l4 ?_))
          refine wk ?_
          refine bnd_of i1 (bnd_of rfl (bnd_of l7 ?_))
          refine wk ?_
          refine bs0 (size := 2) hp ([Answer.mk 0 9].map Answer.enc) rfl rfl (by simp) (Answer.all_good _) fun bv h13 hp => ?_
          have ra : rowsAt h13 2 w (e.answers.map Answer.enc) := ((hn (hp.up 2)).mono1 (P := All (ansO [w] [e])) (fun _ _ l p => All.le l p)) |> fun z => ansO_le z 0 e w rfl rfl
          refine T_SameAnswers ra (All.rows hp) ?_
          rw [decide_eq_true g4]
          refine wk ?_
          obtain ⟨t0, ht0⟩ : ∃ t0, M'.ts[0]? = some t0 := ⟨_, f3⟩
          rw [ht0] at f3
          cases f3
          obtain ⟨px, x1, x2⟩ := (All.rows (hn (hp.up 5))).get (i := 0) (c := (Touch.mk 0 0 29 0 0 (-1) 0 0).enc) (by rw [List.getElem?_map, ht0]; rfl) .i64
          refine bnd_of x1 (bnd_of x2 ?_)
          refine bnd_of rfl ?_
          refine bnd_of (Touch.eqLaw ⟨0, 0, 29, 0, 0, -1, 0, 0⟩ ⟨0, 0, 29, 0, 0, -1, 0, 0⟩) ?_
          rw [decide_eq_true rfl]
          refine wk ?_
          have hw1 : M'.A.ws[1]? = some 40 := by
            have := (oo.A.at (i := 1) (by decide) (by decide)).1
            rw [f5] at this; exact this
          obtain ⟨pw, y1, y2⟩ := (All.rows (hn (hp.up 3))).get1 (i := 1) (x := i64 40) (by rw [List.getElem?_map, hw1]; rfl) .i64
          refine bnd_of y1 (bnd_of y2 ?_)
          refine wk ?_
          exact hK _ hp.tail.tail.tail.tail.tail.tail
end
end Go.Proofs.YtkflebignnmomaaGreat
namespace Go.Proofs.YtkflebignnmomaaGreat
open Go GW Go.Proofs
set_option maxRecDepth 20000
theorem Event.ext8 {a b : Event} : a = b ↔ a.thread = b.thread ∧ a.index = b.index ∧ a.begun = b.begun ∧ a.decided = b.decided ∧ a.answered = b.answered ∧ a.end_ = b.end_ ∧ a.attempts = b.attempts ∧ a.answers = b.answers := by
  cases a; cases b; simp
instance : DecidableEq Event := fun a b => decidable_of_iff _ Event.ext8.symm
section
variable {a b : Nat} {R : List Part} {h g : GH} {K : Value → GH → Prop} {v w : Value} {es fs : List Event} {us ws : List Value}
end
def Acd (A B : Ar) : Prop := ∃ k i was now, 0 ≤ i ∧ i < 634 ∧ was = A.at i ∧ (k = 0 → now = was) ∧ B = A.touch k i.toNat was now
theorem Acd.ld (A : Ar) {i : Int} (h0 : 0 ≤ i) (h1 : i < 634) : Acd A (A.ld i) := ⟨0, i, A.at i, A.at i, h0, h1, rfl, fun _ => rfl, rfl⟩
theorem Acd.put (A : Ar) {i : Int} (x : Int) (h0 : 0 ≤ i) (h1 : i < 634) : Acd A (A.put i x) := ⟨1, i, A.at i, x, h0, h1, rfl, (fun h => by cases h), rfl⟩
theorem Acd.cas (A : Ar) {i : Int} (o x : Int) (h0 : 0 ≤ i) (h1 : i < 634) : Acd A (A.cas i o x) := ⟨2, i, A.at i, _, h0, h1, rfl, (fun h => by cases h), rfl⟩
section
variable {A : Ar} {t q : Int}
theorem Wh.step_acd {w : Wh} (ok : w.ok) : Acd A (w.step t q A).a := by
  obtain ⟨s, g, pc, i, k, cell, was, put, x, opn, won⟩ := w
  obtain ⟨life, i0, i1, i2, k1, k0, c0, c1, was1, put1, x1, pc1, pc0, ref⟩ := ok
  simp only at life i0 i1 i2 k1 k0 c0 c1 was1 put1 x1 pc1 pc0 ref
  have s0 := life.s0; have s1 := life.s1
  have hb : baseOf s = 34 + s * 50 := rfl
  have : pc = 1 ∨ pc = 2 ∨ pc = 3 ∨ pc = 4 ∨ pc = 5 ∨ pc = 6 ∨ pc = 7 ∨ pc = 8 ∨ pc = 9 ∨ pc = 10 ∨ pc = 11 ∨ pc = 12 ∨ pc = 13 ∨ pc = 14 := by omega
  rcases this with rfl | rfl | rfl | rfl | rfl | rfl | rfl | rfl | rfl | rfl | rfl | rfl | rfl | rfl
  · exact .ld _ (by (first | omega | (simp only; omega))) (by (first | omega | (simp only; omega)))
  · exact .ld _ (by (first | omega | (simp only; omega))) (by (first | omega | (simp only; omega)))
  · have := i2 (by decide) (by decide) (by decide) (by decide); exact .ld _ (by (first | omega | (simp only; omega))) (by (first | omega | (simp only; omega)))
  · have := i2 (by decide) (by decide) (by decide) (by decide); exact .ld _ (by (first | omega | (simp only; omega))) (by (first | omega | (simp only; omega)))
  · rw [Wh.step5 rfl]
    unfold Wh.swapIn
    have key : Acd A (A.cas cell was (Form.entry s g i t q).number) := .cas _ _ _ c0 (by (first | omega | (simp only; omega)))
    simp only
    split
    · exact key
    · split
      · exact key
      · exact key
      · exact key
      · split <;> exact key
  · exact .ld _ (by (first | omega | (simp only; omega))) (by (first | omega | (simp only; omega)))
  · exact .cas _ _ _ c0 (by (first | omega | (simp only; omega)))
  · exact .cas _ _ _ (by (first | omega | (simp only; omega))) (by (first | omega | (simp only; omega)))
  · exact .cas _ _ _ (by (first | omega | (simp only; omega))) (by (first | omega | (simp only; omega)))
  · exact .ld _ (by (first | omega | (simp only; omega))) (by (first | omega | (simp only; omega)))
  · have := i2 (by decide) (by decide) (by decide) (by decide); exact .ld _ (by (first | omega | (simp only; omega))) (by (first | omega | (simp only; omega)))
  · have := i2 (by decide) (by decide) (by decide) (by decide)
    refine .ld _ ?_ ?_ <;> simp only <;> split <;> omega
  · exact .cas _ _ _ c0 (by (first | omega | (simp only; omega)))
  · simp only [Wh.step]
    split <;> exact .ld _ (by (first | omega | (simp only; omega))) (by (first | omega | (simp only; omega)))
theorem En.step_acd {f : En} (ok : f.ok) : Acd A (f.step q A).a := by
  obtain ⟨s, g, e, t', q', pc, cell, was, opn⟩ := f
  obtain ⟨life, e0, e1, t0, t1, q0', q1', c0, c1, was1, pc1⟩ := ok
  simp only at life e0 e1 t0 t1 q0' q1' c0 c1 was1 pc1
  have s0 := life.s0; have s1 := life.s1
  have hb : baseOf s = 34 + s * 50 := rfl
  have : pc = 0 ∨ pc = 1 ∨ pc = 2 ∨ pc = 3 := by omega
  rcases this with rfl | rfl | rfl | rfl
  · exact .ld _ (by (first | omega | (simp only; omega))) (by (first | omega | (simp only; omega)))
  · exact .ld _ (by (first | omega | (simp only; omega))) (by (first | omega | (simp only; omega)))
  · exact .ld _ (by (first | omega | (simp only; omega))) (by (first | omega | (simp only; omega)))
  · exact .cas _ _ _ c0 (by (first | omega | (simp only; omega)))
theorem Help.step_acd {H : Help} (ok : H.ok) (c : H.over = false) : Acd A (H.step A).2.2 := by
  rw [Help.step_eq c]
  obtain ⟨k1, k2, k3⟩ := ok.frames c
  show Acd A (H.top.step H.t H.q A).a
  cases ht : H.top with
  | who w => rw [ht] at k1; exact Wh.step_acd k1
  | ent f => rw [ht] at k1; exact En.step_acd k1
theorem Rd.step_acd {r : Rd} (o : r.ok) (ho : r.over = false) : Acd A (r.step A).2.2 := by
  have c0 := o.c0; have c1 := o.c1
  unfold Rd.step
  rw [if_neg (by rw [ho]; decide)]
  split
  · rename_i H e
    exact Help.step_acd (o.help H e).1 (o.help H e).2
  · unfold Rd.load
    have key : Acd A (A.ld r.cell) := .ld _ c0 (by omega)
    split
    · exact key
    · split <;> exact key
def At.on (x : At) : Prop := x.over = false ∧ ∀ w, x.st = .wr w → w.left ≠ []
theorem At.step_acd {x : At} (o : x.ok) (h : x.on) : Acd A (x.step A).2.2 := by
  obtain ⟨ho, hw⟩ := h
  unfold At.step
  rw [if_neg (by rw [ho]; decide)]
  have hs := o.st
  split
  · rename_i r v e
    rw [e] at hs
    have key := Rd.step_acd (A := A) hs.1 (hs.2.2 ho)
    simp only
    split
    · exact key
    · split <;> exact key
  · rename_i w e
    rw [e] at hs
    have hs : w.ok := hs
    show Acd A (w.step A).2.2
    unfold Wr.step
    have a0 := hs.a0; have a1 := hs.a1
    split
    · rename_i el; exact absurd el (hw w e)
    · rename_i y r el
      rw [el] at a1
      simp only [List.length_cons] at a1
      exact .put _ _ a0 (by omega)
  · rename_i H e
    rw [e] at hs
    have key := Help.step_acd (A := A) hs.1 (hs.2 ho)
    simp only
    split <;> exact key
theorem At.step_on {x : At} (h : x.on) (h2 : (x.step A).1.over = false) : (x.step A).1.on := by
  obtain ⟨ho, hw⟩ := h
  refine ⟨h2, ?_⟩
  have asked : ∀ (y : At) m, ∀ w, (y.asked m).st = .wr w → w.left ≠ [] := by
    intro y m w hw
    unfold At.asked at hw
    split at hw
    · cases hw
    · cases hw
      simp [newWr, descRow]
  unfold At.step at h2 ⊢
  rw [if_neg (by rw [ho]; decide)] at h2 ⊢
  split
  · rename_i r v e
    simp only
    split
    · intro w h; cases h
    · split
      · exact asked _ _
      · intro w h; cases h
  · rename_i w0 e
    intro w h
    simp only at h
    split at h
    · cases h
    · rename_i hn
      cases h
      unfold Wr.step at hn ⊢
      split
      · rename_i el; exact absurd el (hw w0 e)
      · rename_i y r el
        rw [el] at hn
        intro q
        simp only at q
        rw [q] at hn
        exact hn rfl
  · simp only
    split <;> (intro w h; cases h)
theorem Ent.step_acd {n : Ent} (o : n.ok) (h : n.over = false) : Acd A (n.step A).2.2 := by
  have := o.t0; have := o.t1; have := o.e0; have := o.e1
  unfold Ent.step
  rw [if_neg (by rw [h]; decide)]
  split
  · exact .put _ _ (by omega) (by omega)
  · split <;> exact .ld _ (by omega) (by omega)
theorem Adv.step_acd {d : Adv} (o : d.ok) (h : d.over = false) : Acd A (d.step A).2.2 := by
  have := o.a1; have := o.n1; have := o.e0; have := o.e1
  unfold Adv.step
  rw [if_neg (by rw [h]; decide)]
  split
  · split <;> exact .ld _ (by omega) (by omega)
  · split
    · split <;> exact .ld _ (by omega) (by omega)
    · exact .cas _ _ _ (by omega) (by omega)
theorem Pop.step_acd {p : Pop} (o : p.ok) (hov : p.l.over = false) : Acd A (p.step A).2.2 := by
  have ol := o.l
  unfold Pop.step
  rw [if_neg (by rw [hov]; decide)]
  split
  · split <;> exact .ld _ (by omega) (by omega)
  · have f := o.f hov (by assumption)
    split
    · split <;> exact .ld _ (by omega) (by omega)
    · split <;> exact .cas _ _ _ (by omega) (by omega)
theorem Push.step_acd {p : Push} (o : p.ok) (hov : p.l.over = false) : Acd A (p.step A).2.2 := by
  have ol := o.l
  have s0 := o.s0; have s1 := o.s1; have f0 := ol.f0; have f1 := ol.f1
  unfold Push.step
  rw [if_neg (by rw [hov]; decide)]
  split
  · split <;> exact .ld _ (by omega) (by omega)
  · split
    · exact .put _ _ (by omega) (by omega)
    · exact .cas _ _ _ (by omega) (by omega)
end
structure Th.on (x : Th) : Prop where
  ent : x.next = some .ent → ∃ n, x.ent = some n ∧ n.over = false
  adv : x.next = some .adv → ∃ d, x.adv = some d ∧ d.over = false
  tri : x.next = some .tri → ∃ a, x.att = some a ∧ a.on
  pop : ∀ p, x.pop = some p → p.l.over = false
  push : ∀ p, x.push = some p → p.l.over = false
theorem Th.new_on {id n k : Int} {pol : Bool} {ts : List (List Op)} : (Th.new id n k pol ts).on := ⟨(fun h => by cases h), (fun h => by cases h), (fun h => by cases h), (fun p h => by cases h), fun p h => by cases h⟩
def Good (A : Ar) (r : Th × Int × Ar) : Prop := Acd A r.2.2 ∧ (r.2.1 = 0 → r.1.on)
section
variable {A : Ar} {x : Th} {L : List Int} {pick : Int}
theorem Th.ents_good (o : x.ok) (w : x.on) (hn : x.next = some .ent) : Good A (x.ents A) := by
  obtain ⟨n, e, ho⟩ := w.ent hn
  have a := Ent.step_acd (A := A) (o.ent n e) ho
  unfold Th.ents
  rw [e]
  simp only
  split
  · exact ⟨a, fun _ => ⟨(fun h => by cases h), (fun h => by cases h), (fun h => by cases h), w.pop, w.push⟩⟩
  · rename_i c
    refine ⟨a, fun h0 => ⟨fun _ => ⟨_, rfl, ?_⟩, (fun h => by simp only at h; rw [hn] at h; cases h), (fun h => by simp only at h; rw [hn] at h; cases h), w.pop, w.push⟩⟩
    cases hov : (n.step A).1.over with
    | false => rfl
    | true => exact absurd ⟨hov, h0⟩ c
theorem Th.tris_good (o : ∀ n, x.att = some n → n.ok) (w : x.on) (ht : ∃ a, x.att = some a ∧ a.on) (hn : x.next = some .tri) : Good A (x.tris A) := by
  obtain ⟨a, e, ho⟩ := ht
  have ac := At.step_acd (A := A) (o a e) ho
  unfold Th.tris
  rw [e]
  refine ⟨ac, fun _ => ⟨?_, ?_, ?_, w.pop, w.push⟩⟩
  · intro h; simp only at h; split at h
    · cases h
    · rw [hn] at h; cases h
  · intro h; simp only at h; split at h
    · cases h
    · rw [hn] at h; cases h
  · intro h
    simp only at h
    split at h
    · cases h
    · rename_i c
      exact ⟨_, rfl, At.step_on ho (by simpa using c)⟩
theorem Th.with_on {s : Int} (w : x.on) (m : At.may x.id x.seq s (L.getD s.toNat 0 + 1) x.ops) : (x.with_ s L).on := by
  refine ⟨(fun h => by cases h), (fun h => by cases h), fun _ => ?_, w.pop, w.push⟩
  unfold Th.with_
  rw [if_pos m]
  exact ⟨_, rfl, rfl, fun w h => by cases h⟩
def Mays (x : Th) (L : List Int) : Prop := ∀ s : Int, 0 ≤ s → s < 12 → At.may x.id x.seq s (L.getD s.toNat 0 + 1) x.ops
theorem Th.taks_good (o : x.ok) (w : x.on) (hA : A.ok) (m : Mays x L) : Good A (x.taks A L).1 := by
  have main : ∀ p : Option Pop, x.pop = p →
      let q := (p.getD .new).step A
      let r : (Th × Int × Ar) × List Int := if q.1.l.over = false ∨ q.2.1 ≠ 0 then (({ x with pop := some q.1, next := some .tak }, q.2.1, q.2.2), L) else
        if q.1.slot = -1 then (({ x with pop := none, end_ := 1, next := some .lea }, 0, q.2.2), L) else
        ((({ x with pop := none } : Th).with_ q.1.slot L, 0, q.2.2), lived q.1.slot L)
      Good A r.1 := by
    intro p hp
    have po : (p.getD .new).ok ∧ (p.getD .new).l.over = false := by
      cases p with
      | none => exact ⟨Pop.new_ok, rfl⟩
      | some p => exact ⟨o.pop p hp, w.pop p hp⟩
    have s := Pop.step_ok po.1 hA
    have a := Pop.step_acd (A := A) po.1 po.2
    simp only
    split
    · rename_i c
      refine ⟨a, fun h0 => ⟨(fun h => by cases h), (fun h => by cases h), (fun h => by cases h), fun p h => ?_, w.push⟩⟩
      cases h
      rcases c with c | c
      · exact c
      · exact absurd h0 c
    · split
      · exact ⟨a, fun _ => ⟨(fun h => by cases h), (fun h => by cases h), (fun h => by cases h), (fun p h => by cases h), w.push⟩⟩
      · have h0 := s.1.s0
        have h1 := s.1.s1
        have wp : ({ x with pop := none } : Th).on := ⟨w.ent, w.adv, w.tri, (fun p h => by cases h), w.push⟩
        exact ⟨a, fun _ => Th.with_on wp (m _ (by omega) h1)⟩
  unfold Th.taks
  cases hp : x.pop with
  | some p => exact main _ hp
  | none =>
    cases hl : x.cache.getLast? with
    | none => exact main _ hp
    | some s =>
      have hm := o.ca s (List.mem_of_getLast? hl)
      have wp : ({ x with cache := x.cache.dropLast, pop := none } : Th).on := ⟨w.ent, w.adv, w.tri, (fun p h => by cases h), w.push⟩
      have w2 := Th.with_on (L := L) wp (m s hm.1 hm.2)
      refine Th.tris_good (fun n hn => ?_) w2 (w2.tri rfl) rfl
      unfold Th.with_ at hn
      simp only at hn
      split at hn
      · rename_i m'; cases hn; exact At.new_ok m'
      · cases hn
theorem Th.fres_good (o : x.ok) (w : x.on) (hA : A.ok) (m : Mays x L) (hn : x.next = some .fre) : Good A (x.fres A L).1 := by
  have oc := Th.cached_ok o
  have wc : x.cached.on := by
    unfold Th.cached; split
    · exact ⟨w.ent, w.adv, w.tri, w.pop, w.push⟩
    · exact w
  have mc : Mays x.cached L := by unfold Th.cached; split <;> exact m
  have nc : x.cached.next = some .fre := by rw [Th.cached_next]; exact hn
  unfold Th.fres
  simp only
  generalize x.cached = y at oc wc mc nc ⊢
  split
  · exact Th.taks_good oc wc hA mc
  · rename_i s r hr
    have hm := oc.ri s (by rw [hr]; simp)
    have po : (y.push.getD (.new s)).ok ∧ (y.push.getD (.new s)).l.over = false := by
      cases hp : y.push with
      | none => exact ⟨Push.new_ok hm.1 hm.2, rfl⟩
      | some p => exact ⟨oc.push p hp, wc.push p hp⟩
    have a := Push.step_acd (A := A) po.1 po.2
    have nx : ∀ {z : Option Act}, z = some .fre → z ≠ some .ent ∧ z ≠ some .adv ∧ z ≠ some .tri := fun h => by rw [h]; exact ⟨(by decide), (by decide), (by decide)⟩
    obtain ⟨n1, n2, n3⟩ := nx nc
    split
    · exact ⟨a, fun _ => ⟨(fun h => absurd h n1), (fun h => absurd h n2), (fun h => absurd h n3), wc.pop, fun p h => by cases h⟩⟩
    · rename_i c
      refine ⟨a, fun h0 => ⟨(fun h => absurd h n1), (fun h => absurd h n2), (fun h => absurd h n3), wc.pop, fun p h => ?_⟩⟩
      cases h
      cases hov : ((y.push.getD (.new s)).step A).1.l.over with
      | false => rfl
      | true => exact absurd ⟨hov, h0⟩ c
theorem Th.act_good {a : Act} (o : x.ok) (w : x.on) (hA : A.ok) (m : Mays x L) (hn : x.next = some a) : Good A (x.act A L pick a).1 := by
  cases a with
  | ent => exact Th.ents_good o w hn
  | fre => exact Th.fres_good o w hA m hn
  | tak => exact Th.taks_good o w hA m
  | tri => exact Th.tris_good (fun n hn => (o.att n hn).1) w (w.tri hn) hn
  | ret =>
    show Good A (x.rets A)
    unfold Th.rets
    split
    · exact ⟨.ld _ (by omega) (by omega), fun _ => ⟨(fun h => by cases h), (fun h => by cases h), (fun h => by cases h), w.pop, w.push⟩⟩
    · exact ⟨.ld _ (by omega) (by omega), fun _ => w⟩
  | lea =>
    have i0 := o.i0; have i1 := o.i1; have n1 := o.n1
    exact ⟨.put _ _ (by omega) (by omega), fun _ => ⟨(fun h => by cases h), (fun _ => ⟨_, rfl, rfl⟩), (fun h => by cases h), w.pop, w.push⟩⟩
  | adv =>
    obtain ⟨d, e, ho⟩ := w.adv hn
    have a := Adv.step_acd (A := A) (o.adv d e) ho
    show Good A (x.advs A pick)
    unfold Th.advs
    rw [e]
    simp only
    split
    · refine ⟨a, fun _ => ?_⟩
      unfold Th.answer
      split <;> exact ⟨(fun h => by cases h), (fun h => by cases h), (fun h => by cases h), w.pop, w.push⟩
    · rename_i c
      refine ⟨a, fun h0 => ⟨(fun h => by simp only at h; rw [hn] at h; cases h), fun _ => ⟨_, rfl, ?_⟩, (fun h => by simp only at h; rw [hn] at h; cases h), w.pop, w.push⟩⟩
      cases hov : (d.step A).1.over with
      | false => rfl
      | true => exact absurd ⟨hov, h0⟩ c
def Th.way (x : Th) : Prop := x.dead = true ∨ x.on
theorem Th.ended_way (r : (Th × Int × Ar) × List Int) (h : Good A r.1) : (Th.ended r).1.way ∧ ((Th.ended r).2.1 = true → Acd A (Th.ended r).2.2.2.1) ∧ ((Th.ended r).2.1 = false → (Th.ended r).2.2.2.1 = A) := by
  unfold Th.ended
  split
  · rename_i c; exact ⟨.inr (h.2 c), fun _ => h.1, fun h => by cases h⟩
  · exact ⟨.inl rfl, fun _ => h.1, fun h => by cases h⟩
theorem Th.step_way (o : x.ok) (w : x.way) (hA : A.ok) (m : Mays x L) : (x.step A L pick).1.way ∧ ((x.step A L pick).2.1 = true → Acd A (x.step A L pick).2.2.2.1) ∧ ((x.step A L pick).2.1 = false → (x.step A L pick).2.2.2.1 = A) := by
  cases hd : x.dead with
  | true => rw [Th.step_dead hd]; exact ⟨.inl hd, (fun h => by cases h), fun _ => rfl⟩
  | false =>
    have w : x.on := by
      rcases w with q | q
      · rw [hd] at q; cases q
      · exact q
    have o1 : x.z.ok := { o with }
    have w1 : x.z.on := ⟨w.ent, w.adv, w.tri, w.pop, w.push⟩
    have ended : ∀ r : (Th × Int × Ar) × List Int, Good A r.1 → (Th.ended r).1.way ∧ ((Th.ended r).2.1 = true → Acd A (Th.ended r).2.2.2.1) ∧ ((Th.ended r).2.1 = false → (Th.ended r).2.2.2.1 = A) := by
      intro r h
      unfold Th.ended
      split
      · rename_i c; exact ⟨.inr (h.2 c), fun _ => h.1, fun h => by cases h⟩
      · exact ⟨.inl rfl, fun _ => h.1, fun h => by cases h⟩
    cases hx : x.next with
    | some a => rw [Th.step_some hd hx]; exact ended _ (Th.act_good o1 w1 hA m hx)
    | none =>
      rw [Th.step_none hd hx]
      have b := Th.begin_ok (pick := pick) o1 hx
      have hops : (x.z.begin pick).1.next = some .ent → (x.z.begin pick).2 = true := by
        unfold Th.begin
        split
        · intro h; have : x.next = some .ent := h; rw [hx] at this; cases this
        · split
          · intro h; have : x.next = some .ent := h; rw [hx] at this; cases this
          · intro _; rfl
      have wb : (x.z.begin pick).1.on := by
        unfold Th.begin
        split
        · exact w1
        · split
          · exact ⟨w1.ent, w1.adv, w1.tri, w1.pop, w1.push⟩
          · exact ⟨(fun _ => ⟨_, rfl, rfl⟩), (fun h => by cases h), (fun h => by cases h), w1.pop, w1.push⟩
      split
      · rename_i q
        have g := Th.ents_good (A := A) b.1 wb (b.2 q)
        exact ended (_, L) g
      · exact ⟨.inr wb, (fun h => by cases h), fun _ => rfl⟩
theorem Th.step_way0 (o : x.ok) (w : x.way) (hA : A.ok) (hx : x.next = none) : (x.step A L pick).1.way ∧ ((x.step A L pick).2.1 = true → Acd A (x.step A L pick).2.2.2.1) ∧ ((x.step A L pick).2.1 = false → (x.step A L pick).2.2.2.1 = A) := by
  cases hd : x.dead with
  | true => rw [Th.step_dead hd]; exact ⟨.inl hd, (fun h => by cases h), fun _ => rfl⟩
  | false =>
    have w : x.on := by
      rcases w with q | q
      · rw [hd] at q; cases q
      · exact q
    have o1 : x.z.ok := { o with }
    have w1 : x.z.on := ⟨w.ent, w.adv, w.tri, w.pop, w.push⟩
    rw [Th.step_none hd hx]
    have b := Th.begin_ok (pick := pick) o1 hx
    have wb : (x.z.begin pick).1.on := by
      unfold Th.begin
      split
      · exact w1
      · split
        · exact ⟨w1.ent, w1.adv, w1.tri, w1.pop, w1.push⟩
        · exact ⟨(fun _ => ⟨_, rfl, rfl⟩), (fun h => by cases h), (fun h => by cases h), w1.pop, w1.push⟩
    split
    · rename_i q
      have g := Th.ents_good (A := A) b.1 wb (b.2 q)
      exact Th.ended_way (_, L) g
    · exact ⟨.inr wb, (fun h => by cases h), fun _ => rfl⟩
end
def Kp (A B : Ar) : Prop := ∀ i, 16 ≤ i → i < 29 → B.at i = A.at i
theorem Kp.refl (A : Ar) : Kp A A := fun _ _ _ => rfl
theorem Acc.kp {P : Int → Prop} {A B : Ar} (a : Acc P A B) (hA : A.ok) (h : ∀ i, P i → i < 16 ∨ 29 ≤ i) : Kp A B := by
  intro j h0 h1
  cases a with
  | none => rfl
  | ld i i0 i1 => exact at_ld hA i0 i1 (by omega) (by omega)
  | put i x i0 i1 p hx => have := h i p; rw [at_put hA i0 i1 (by omega) (by omega), if_neg (by omega)]
  | cas i o x i0 i1 p hx hd => have := h i p; rw [at_cas hA i0 i1 (by omega) (by omega), if_neg (by omega)]
def Chn (A : Ar) : Int → List Int → Prop
  | f, [] => f = 0
  | f, s :: r => f = s + 1 ∧ (0 ≤ s ∧ s < 12) ∧ ∃ w, A.at (17 + s) = w * 4 ∧ Chn A w r
theorem Chn.rng {A : Ar} {f : Int} {fr : List Int} (h : Chn A f fr) : 0 ≤ f ∧ f ≤ 12 := by
  cases fr with
  | nil => have : f = 0 := h; omega
  | cons s r => obtain ⟨h1, h2, _⟩ := h; omega
theorem Chn.cong {A B : Ar} : ∀ {fr : List Int} {f : Int}, (∀ s ∈ fr, B.at (17 + s) = A.at (17 + s)) → Chn A f fr → Chn B f fr := by
  intro fr
  induction fr with
  | nil => intro f _ h; exact h
  | cons s r ih =>
    intro f e h
    obtain ⟨h1, h2, w, h3, h4⟩ := h
    exact ⟨h1, h2, w, by rw [e s (by simp)]; exact h3, ih (fun s hs => e s (List.mem_cons_of_mem _ hs)) h4⟩
theorem Chn.mem {A : Ar} : ∀ {fr : List Int} {f : Int}, Chn A f fr → ∀ s ∈ fr, 0 ≤ s ∧ s < 12 := by
  intro fr
  induction fr with
  | nil => intro f _ s hs; cases hs
  | cons a r ih =>
    intro f h s hs
    obtain ⟨h1, h2, w, h3, h4⟩ := h
    rcases List.mem_cons.1 hs with rfl | hs
    · exact h2
    · exact ih h4 s hs
structure Fre (A : Ar) (fr : List Int) (c : Int) : Prop where
  hd : ∃ f, A.at 16 = (c * 16 + f) * 4 ∧ Chn A f fr
  nx : ∀ s, 0 ≤ s → s < 12 → ∃ w, A.at (17 + s) = w * 4 ∧ 0 ≤ w ∧ w ≤ 12
  c0 : 0 ≤ c
theorem Fre.kp {A B : Ar} {fr : List Int} {c : Int} (F : Fre A fr c) (k : Kp A B) : Fre B fr c := by
  obtain ⟨f, h1, h2⟩ := F.hd
  refine ⟨⟨f, by rw [k 16 (by decide) (by decide)]; exact h1, h2.cong fun s hs => ?_⟩, fun s h0 h1 => ?_, F.c0⟩
  · have := h2.mem s hs
    exact k _ (by omega) (by omega)
  · rw [k _ (by omega) (by omega)]; exact F.nx s h0 h1
theorem head_word {x c f : Int} (h : x = (c * 16 + f) * 4) (c0 : 0 ≤ c) (c1 : c < 100000) (f0 : 0 ≤ f) (f1 : f ≤ 12) : hdIs x = true ∧ valOf x / 16 = c ∧ valOf x % 16 = f := by
  have v : valOf x = c * 16 + f := by rw [h]; exact valOf_val (by omega) (by omega)
  have p : plainOf x = some (c * 16 + f) := by rw [h]; exact plainOf_val (by omega) (by omega)
  refine ⟨?_, by rw [v]; omega, by rw [v]; omega⟩
  unfold hdIs
  rw [p, v, decide_eq_true (by omega), decide_eq_true (by omega)]
  rfl
theorem next_word {x w : Int} (h : x = w * 4) (w0 : 0 ≤ w) (w1 : w ≤ 12) : nxIs x = true ∧ valOf x = w := by
  have v : valOf x = w := by rw [h]; exact valOf_val (by omega) (by omega)
  refine ⟨?_, v⟩
  unfold nxIs
  rw [v, h, plainOf_val (by omega) (by omega), decide_eq_true (by omega)]
  rfl
structure Lst.own (l : Lst) : Prop where
  ov : l.over = false
  ld : l.at_ ≠ 0 → l.word = (l.count * 16 + l.first) * 4 ∧ l.first ≤ 12
structure Push.own (p : Push) (A : Ar) : Prop where
  l : p.l.own
  st : p.l.at_ = 2 → A.at (17 + p.slot) = p.l.first * 4
structure Pop.own (p : Pop) (A : Ar) (c : Int) : Prop where
  l : p.l.own
  old : p.l.at_ ≠ 0 → p.l.count ≤ c ∧ (p.l.count = c → A.at 16 = p.l.word)
  st : p.l.at_ = 2 → p.l.count = c → A.at (17 + p.l.first - 1) = p.next * 4
  sl : p.slot = -1
def Th.hold (x : Th) : List Int := x.cache ++ (x.limbo.map Ret.slot ++ (x.ripe ++ if x.slot = -1 then [] else [x.slot]))
structure Th.own (x : Th) (A : Ar) (c : Int) : Prop where
  ri : x.next ≠ some .fre → x.ripe = [] ∧ x.push = none
  sl : x.slot ≠ -1 → x.next = some .tri ∨ x.next = some .ret
  po : x.pop ≠ none → x.next = some .tak
  push : ∀ p, x.push = some p → p.own A ∧ x.ripe.head? = some p.slot
  pop : ∀ p, x.pop = some p → p.own A c
def Swp (hs : Int → Prop) (A B : Ar) (c d : Int) : Prop :=
  (d = c + 1 ∧ ∀ i, 17 ≤ i → i < 29 → B.at i = A.at i) ∨
  (d = c ∧ B.at 16 = A.at 16 ∧ ∀ s, 0 ≤ s → s < 12 → ¬ hs s → B.at (17 + s) = A.at (17 + s))
theorem Swp.kp {hs : Int → Prop} {A B : Ar} {c : Int} (k : Kp A B) : Swp hs A B c c := .inr ⟨rfl, k 16 (by decide) (by decide), fun s h0 h1 _ => k _ (by omega) (by omega)⟩
theorem Th.own.other {y : Th} {A B : Ar} {c d : Int} {fr : List Int} {hs : Int → Prop} (w : y.own A c) (oy : y.ok) (F : Fre A fr c) (hc : c < 100000) (s : Swp hs A B c d) (hd : ∀ s, hs s → s ∉ y.ripe ∧ s ∉ fr) : y.own B d := by
  refine ⟨w.ri, w.sl, w.po, fun p hp => ?_, fun p hp => ?_⟩
  · obtain ⟨o, h2⟩ := w.push p hp
    have op := oy.push p hp
    refine ⟨⟨o.l, fun h => ?_⟩, h2⟩
    rw [← o.st h]
    have p0 := op.s0; have p1 := op.s1
    rcases s with ⟨_, k⟩ | ⟨_, _, k⟩
    · exact k _ (by omega) (by omega)
    · exact k _ (by omega) (by omega) fun q => (hd _ q).1 (List.mem_of_mem_head? (by rw [h2]; rfl))
  · have o := w.pop p hp
    have op := oy.pop p hp
    rcases s with ⟨e, k⟩ | ⟨e, k1, k2⟩
    · subst e
      exact ⟨o.l, fun h => by have := (o.old h).1; exact ⟨by omega, fun q => by omega⟩, fun h q => by have := (o.old (by omega)).1; omega, o.sl⟩
    · subst e
      refine ⟨o.l, fun h => ⟨(o.old h).1, fun q => by rw [k1]; exact (o.old h).2 q⟩, fun h q => ?_, o.sl⟩
      have f := op.f o.l.ov (by omega)
      rw [← o.st h q, show 17 + p.l.first - 1 = 17 + (p.l.first - 1) by omega]
      refine k2 _ (by omega) (by omega) fun z => (hd _ z).2 ?_
      obtain ⟨g, g1, g2⟩ := F.hd
      have e1 := (o.l.ld (by omega)).1
      have e2 := (o.old (by omega)).2 q
      have e3 := g2.rng
      have : g = p.l.first := by omega
      cases fr with
      | nil => have : g = 0 := g2; omega
      | cons s r => have : g = s + 1 := g2.1; rw [show p.l.first - 1 = s by omega]; simp
theorem Th.own.kp {y : Th} {A B : Ar} {c : Int} (w : y.own A c) (oy : y.ok) (k : Kp A B) : y.own B c := by
  refine ⟨w.ri, w.sl, w.po, fun p hp => ?_, fun p hp => ?_⟩
  · obtain ⟨o, h2⟩ := w.push p hp
    have op := oy.push p hp
    have p0 := op.s0; have p1 := op.s1
    exact ⟨⟨o.l, fun h => by rw [k _ (by omega) (by omega)]; exact o.st h⟩, h2⟩
  · have o := w.pop p hp
    have op := oy.pop p hp
    refine ⟨o.l, fun h => ⟨(o.old h).1, fun q => by rw [k 16 (by decide) (by decide)]; exact (o.old h).2 q⟩, fun h q => ?_, o.sl⟩
    have f := op.f o.l.ov (by omega)
    rw [k _ (by omega) (by omega)]; exact o.st h q
structure Res (x : Th) (A : Ar) (fr : List Int) (c : Int) (y : Th) (B : Ar) : Prop where
  ex : ∃ fr' d, Fre B fr' d ∧ y.own B d ∧ Swp (· ∈ x.ripe) A B c d ∧ (∀ s, fr'.count s + y.hold.count s = fr.count s + x.hold.count s) ∧ fr'.length ≤ fr.length + 1 ∧ fr.length ≤ fr'.length + 1
theorem Res.same {x y : Th} {A B : Ar} {fr : List Int} {c : Int} (F : Fre A fr c) (k : Kp A B) (w : y.own B c) (h : ∀ s, y.hold.count s = x.hold.count s) : Res x A fr c y B :=
  ⟨fr, c, F.kp k, w, .kp k, fun s => by rw [h], by omega, by omega⟩
theorem Res.of {x x1 y : Th} {A B : Ar} {fr : List Int} {c : Int} (r : Res x1 A fr c y B) (h : ∀ s, x1.hold.count s = x.hold.count s) (hs : ∀ s, s ∈ x1.ripe → s ∈ x.ripe) : Res x A fr c y B := by
  obtain ⟨fr', d, h1, h2, h3, h4, h5⟩ := r.ex
  refine ⟨fr', d, h1, h2, ?_, fun s => by rw [h4 s, h s], h5⟩
  rcases h3 with h3 | ⟨e1, e2, e3⟩
  · exact .inl h3
  · exact .inr ⟨e1, e2, fun s h0 h1 hn => e3 s h0 h1 fun q => hn (hs s q)⟩
theorem Pop.new_own {A : Ar} {c : Int} : Pop.new.own A c := ⟨⟨rfl, fun h => absurd rfl h⟩, fun h => absurd rfl h, fun h => by simp [Pop.new] at h, rfl⟩
theorem Push.new_own {A : Ar} {s : Int} : (Push.new s).own A := ⟨⟨rfl, fun h => absurd rfl h⟩, fun h => by simp [Push.new] at h⟩
theorem Kp.ld {A : Ar} {i : Int} (hA : A.ok) (h0 : 0 ≤ i) (h1 : i < 634) : Kp A (A.ld i) := fun j j0 j1 => at_ld hA h0 h1 (by omega) (by omega)
theorem Kp.fail {A : Ar} {o x : Int} (hA : A.ok) (h : A.at 16 ≠ o) : Kp A (A.cas 16 o x) := fun j j0 j1 => by
  rw [at_cas hA (by decide) (by decide) (by omega) (by omega), if_neg h]
  split
  · rename_i e; rw [← e]
  · rfl
theorem Pop.step_own {p : Pop} {A : Ar} {fr : List Int} {c : Int} (o : p.ok) (w : p.own A c) (hA : A.ok) (F : Fre A fr c) (hc : c < 90000) :
    (p.step A).2.1 = 0 ∧ (((p.step A).1.l.over = false ∧ Kp A (p.step A).2.2 ∧ (p.step A).1.own (p.step A).2.2 c) ∨
      ((p.step A).1.l.over = true ∧ (p.step A).1.slot = -1 ∧ Kp A (p.step A).2.2) ∨
      ((p.step A).1.l.over = true ∧ ∃ s fr', fr = s :: fr' ∧ (p.step A).1.slot = s ∧ (0 ≤ s ∧ s < 12) ∧ Fre (p.step A).2.2 fr' (c + 1) ∧ ∀ i, 17 ≤ i → i < 29 → (p.step A).2.2.at i = A.at i)) := by
  obtain ⟨f, f1, f2⟩ := F.hd
  have fr0 := f2.rng
  have c0 := F.c0
  obtain ⟨d1, d2, d3⟩ := head_word f1 c0 (by omega) fr0.1 fr0.2
  have ol := o.l
  have a0 := ol.a0; have a1 := ol.a1
  unfold Pop.step
  rw [if_neg (by rw [w.l.ov]; decide)]
  by_cases h0 : p.l.at_ = 0
  · rw [if_pos h0, if_pos d1]
    refine ⟨rfl, ?_⟩
    have k := Kp.ld (i := 16) hA (by decide) (by decide)
    by_cases hf : f = 0
    · refine .inr (.inl ⟨?_, w.sl, k⟩)
      rw [d3]; exact decide_eq_true hf
    · refine .inl ⟨?_, k, ⟨⟨?_, fun _ => ⟨?_, ?_⟩⟩, fun _ => ⟨?_, fun _ => ?_⟩, fun h => ?_, w.sl⟩⟩
      · rw [d3]; exact decide_eq_false hf
      · rw [d3]; exact decide_eq_false hf
      · show A.at 16 = (valOf (A.at 16) / 16 * 16 + valOf (A.at 16) % 16) * 4
        rw [d2, d3]; exact f1
      · show valOf (A.at 16) % 16 ≤ 12
        rw [d3]; exact fr0.2
      · show valOf (A.at 16) / 16 ≤ c
        rw [d2]; exact Int.le_refl c
      · exact k 16 (by decide) (by decide)
      · simp [Lst.loaded] at h
  · rw [if_neg h0]
    have pf := o.f w.l.ov h0
    have l1 := w.l.ld h0
    have od := w.old h0
    by_cases h1 : p.l.at_ = 1
    · rw [if_pos h1]
      obtain ⟨v, v1, v2, v3⟩ := F.nx (p.l.first - 1) (by omega) (by omega)
      have v1 : A.at (17 + p.l.first - 1) = v * 4 := by rw [show 17 + p.l.first - 1 = 17 + (p.l.first - 1) by omega]; exact v1
      obtain ⟨n1, n2⟩ := next_word v1 v2 v3
      rw [if_pos n1]
      have k := Kp.ld (i := 17 + p.l.first - 1) hA (by omega) (by omega)
      refine ⟨rfl, .inl ⟨w.l.ov, k, ⟨⟨w.l.ov, fun _ => l1⟩, fun _ => ⟨od.1, fun q => ?_⟩, fun _ q => ?_, w.sl⟩⟩⟩
      · rw [k 16 (by decide) (by decide)]; exact od.2 q
      · show (A.ld (17 + p.l.first - 1)).at (17 + p.l.first - 1) = valOf (A.at (17 + p.l.first - 1)) * 4
        rw [k _ (by omega) (by omega), n2]; exact v1
    · rw [if_neg h1]
      have h2 : p.l.at_ = 2 := by omega
      by_cases hw : A.at 16 = p.l.word
      · rw [if_pos hw]
        refine ⟨rfl, .inr (.inr ⟨rfl, ?_⟩)⟩
        have cc : p.l.count = c := by omega
        have ff : p.l.first = f := by omega
        have st := w.st h2 cc
        cases fr with
        | nil => have : f = 0 := f2; omega
        | cons s r =>
          obtain ⟨e1, e2, v, e3, e4⟩ := f2
          have hv : p.next = v := by rw [show 17 + p.l.first - 1 = 17 + s by omega, e3] at st; omega
          have vr := e4.rng
          have at16 : ∀ i, 0 ≤ i → i < 634 → (A.cas 16 p.l.word (p.l.turned p.next)).at i = if 16 = i then ((c + 1) * 16 + v) * 4 else A.at i := fun i i0 i1 => by
            rw [at_cas hA (by decide) (by decide) i0 i1, if_pos hw, hv]
            unfold Lst.turned
            rw [cc, Int.emod_eq_of_lt (by omega) (by omega)]
          have oth : ∀ i, 17 ≤ i → i < 29 → (A.cas 16 p.l.word (p.l.turned p.next)).at i = A.at i := fun i i0 i1 => by rw [at16 i (by omega) (by omega), if_neg (by omega)]
          refine ⟨s, r, rfl, (by show p.l.first - 1 = s; omega), e2, ⟨⟨v, by rw [at16 16 (by decide) (by decide)]; rfl, e4.cong fun t ht => ?_⟩, fun t t0 t1 => by rw [oth _ (by omega) (by omega)]; exact F.nx t t0 t1, by omega⟩, oth⟩
          have := e4.mem t ht
          exact oth _ (by omega) (by omega)
      · rw [if_neg hw]
        have k := Kp.fail (x := p.l.turned p.next) hA hw
        exact ⟨rfl, .inl ⟨w.l.ov, k, ⟨⟨w.l.ov, fun h => absurd rfl h⟩, (fun h => absurd rfl h), (fun h => by simp at h), w.sl⟩⟩⟩
theorem Push.step_own {p : Push} {A : Ar} {fr : List Int} {c : Int} (o : p.ok) (w : p.own A) (hA : A.ok) (F : Fre A fr c) (hc : c < 90000) (hs : p.slot ∉ fr) :
    (p.step A).2.1 = 0 ∧ (p.step A).1.slot = p.slot ∧ (((p.step A).1.l.over = false ∧ (p.step A).1.own (p.step A).2.2 ∧ Fre (p.step A).2.2 fr c ∧ Swp (· = p.slot) A (p.step A).2.2 c c) ∨
      ((p.step A).1.l.over = true ∧ Fre (p.step A).2.2 (p.slot :: fr) (c + 1) ∧ ∀ i, 17 ≤ i → i < 29 → (p.step A).2.2.at i = A.at i)) := by
  obtain ⟨f, f1, f2⟩ := F.hd
  have fr0 := f2.rng
  have c0 := F.c0
  obtain ⟨d1, d2, d3⟩ := head_word f1 c0 (by omega) fr0.1 fr0.2
  have ol := o.l
  have a0 := ol.a0; have a1 := ol.a1
  have p0 := o.s0; have p1 := o.s1
  unfold Push.step
  rw [if_neg (by rw [w.l.ov]; decide)]
  by_cases h0 : p.l.at_ = 0
  · rw [if_pos h0, if_pos d1]
    have k := Kp.ld (i := 16) hA (by decide) (by decide)
    refine ⟨rfl, rfl, .inl ⟨w.l.ov, ⟨⟨w.l.ov, fun _ => ⟨?_, ?_⟩⟩, fun h => ?_⟩, F.kp k, .kp k⟩⟩
    · show A.at 16 = (valOf (A.at 16) / 16 * 16 + valOf (A.at 16) % 16) * 4
      rw [d2, d3]; exact f1
    · show valOf (A.at 16) % 16 ≤ 12
      rw [d3]; exact fr0.2
    · simp [Lst.loaded] at h
  · rw [if_neg h0]
    have l1 := w.l.ld h0
    have g0 := ol.f0
    by_cases h1 : p.l.at_ = 1
    · rw [if_pos h1]
      have at17 : ∀ i, 0 ≤ i → i < 634 → (A.put (17 + p.slot) (p.l.first * 4)).at i = if 17 + p.slot = i then p.l.first * 4 else A.at i := fun i i0 i1 => at_put hA (by omega) (by omega) i0 i1
      refine ⟨rfl, rfl, .inl ⟨w.l.ov, ⟨⟨w.l.ov, fun _ => l1⟩, fun _ => ?_⟩, ⟨⟨f, ?_, f2.cong fun t ht => ?_⟩, fun t t0 t1 => ?_, c0⟩, .inr ⟨rfl, ?_, fun t t0 t1 hn => ?_⟩⟩⟩
      · show (A.put (17 + p.slot) (p.l.first * 4)).at (17 + p.slot) = p.l.first * 4
        rw [at17 _ (by omega) (by omega), if_pos rfl]
      · rw [at17 _ (by omega) (by omega), if_neg (by omega)]; exact f1
      · have := f2.mem t ht
        rw [at17 _ (by omega) (by omega), if_neg fun e => hs (by rw [show p.slot = t by omega]; exact ht)]
      · show ∃ w, (A.put (17 + p.slot) (p.l.first * 4)).at (17 + t) = w * 4 ∧ 0 ≤ w ∧ w ≤ 12
        rw [at17 _ (by omega) (by omega)]
        split
        · exact ⟨_, rfl, g0, l1.2⟩
        · exact F.nx t t0 t1
      · rw [at17 _ (by omega) (by omega), if_neg (by omega)]
      · rw [at17 _ (by omega) (by omega), if_neg fun e => hn (by omega)]
    · rw [if_neg h1]
      have h2 : p.l.at_ = 2 := by omega
      have st := w.st h2
      by_cases hw : A.at 16 = p.l.word
      · have ff : p.l.first = f := by have := ol.f1; omega
        have cc : p.l.count = c := by omega
        have at16 : ∀ i, 0 ≤ i → i < 634 → (A.cas 16 p.l.word (p.l.turned (p.slot + 1))).at i = if 16 = i then ((c + 1) * 16 + (p.slot + 1)) * 4 else A.at i := fun i i0 i1 => by
          rw [at_cas hA (by decide) (by decide) i0 i1, if_pos hw]
          unfold Lst.turned
          rw [cc, Int.emod_eq_of_lt (by omega) (by omega)]
        have oth : ∀ i, 17 ≤ i → i < 29 → (A.cas 16 p.l.word (p.l.turned (p.slot + 1))).at i = A.at i := fun i i0 i1 => by rw [at16 i (by omega) (by omega), if_neg (by omega)]
        refine ⟨rfl, rfl, .inr ⟨decide_eq_true hw, ⟨⟨p.slot + 1, by rw [at16 16 (by decide) (by decide)]; rfl, rfl, ⟨p0, p1⟩, f, ?_, f2.cong fun t ht => ?_⟩, fun t t0 t1 => by rw [oth _ (by omega) (by omega)]; exact F.nx t t0 t1, by omega⟩, oth⟩⟩
        · rw [oth _ (by omega) (by omega), st, ff]
        · have := f2.mem t ht
          exact oth _ (by omega) (by omega)
      · have k := Kp.fail (x := p.l.turned (p.slot + 1)) hA hw
        exact ⟨rfl, rfl, .inl ⟨decide_eq_false hw, ⟨⟨decide_eq_false hw, fun h => absurd rfl h⟩, (fun h => by simp at h)⟩, F.kp k, .kp k⟩⟩
theorem hold_count (x : Th) (s : Int) : x.hold.count s = x.cache.count s + ((x.limbo.map Ret.slot).count s + (x.ripe.count s + (if x.slot = -1 then [] else [x.slot] : List Int).count s)) := by
  unfold Th.hold
  rw [List.count_append, List.count_append, List.count_append]
theorem Th.own.idle {y : Th} {A : Ar} {c : Int} (h1 : y.ripe = []) (h2 : y.push = none) (h3 : y.slot = -1) (h4 : y.pop = none) : y.own A c :=
  ⟨fun _ => ⟨h1, h2⟩, fun h => absurd h3 h, fun h => absurd h4 h, fun p hp => by rw [h2] at hp; (cases hp), fun p hp => by rw [h4] at hp; (cases hp)⟩
section
variable {A : Ar} {x : Th} {L : List Int} {pick c : Int} {fr : List Int}
theorem Th.own.rest (w : x.own A c) (h : x.next ≠ some .fre ∧ x.next ≠ some .tri ∧ x.next ≠ some .ret ∧ x.next ≠ some .tak) : x.ripe = [] ∧ x.push = none ∧ x.slot = -1 ∧ x.pop = none := by
  obtain ⟨n1, n2, n3, n4⟩ := h
  have r := w.ri n1
  refine ⟨r.1, r.2, ?_, ?_⟩
  · by_cases e : x.slot = -1
    · exact e
    · rcases w.sl e with h | h
      · exact absurd h n2
      · exact absurd h n3
  · cases e : x.pop with
    | none => rfl
    | some p => exact absurd (w.po (by rw [e]; simp)) n4
theorem Th.tris_own (ox : x.ok) (hw : x.wrs) (hA : A.ok) (F : Fre A fr c) (w : x.own A c) (hn : x.next = some .tri) : Res x A fr c (x.tris A).1 (x.tris A).2.2 := by
  unfold Th.tris
  cases e : x.att with
  | none => exact .same F (.refl A) w fun _ => rfl
  | some a =>
    have k := (At.step_acc (ox.att a e).1 hA (hw a e)).kp hA fun i p => by unfold inAtt at p; omega
    have w1 := w.kp ox k
    refine .same F k ⟨fun _ => w1.ri (by rw [hn]; simp), fun _ => ?_, fun h => ?_, w1.push, w1.pop⟩ fun _ => rfl
    · simp only
      split
      · exact .inr rfl
      · exact .inl hn
    · have := w.po h
      rw [hn] at this; cases this
theorem Th.with_own {s : Int} (h1 : x.ripe = []) (h2 : x.push = none) (h4 : x.pop = none) : (x.with_ s L).own A c :=
  ⟨fun _ => ⟨h1, h2⟩, fun _ => .inl rfl, fun h => absurd h4 h, fun p hp => by have hp : x.push = some p := hp; rw [h2] at hp; (cases hp), fun p hp => by have hp : x.pop = some p := hp; rw [h4] at hp; (cases hp)⟩
theorem with_count {s t : Int} (hs : s ≠ -1) (h3 : x.slot = -1) : (x.with_ s L).hold.count t = x.hold.count t + [s].count t := by
  rw [hold_count, hold_count, h3]
  show _ + (_ + (_ + (if s = -1 then [] else [s] : List Int).count t)) = _
  rw [if_neg hs, if_pos rfl]
  simp only [Th.with_, List.count_nil]
  omega
theorem Th.taks_own (ox : x.ok) (hw : x.wrs) (hA : A.ok) (F : Fre A fr c) (hc : c < 90000) (w : x.own A c) (hn : x.next = some .tak ∨ x.next = some .fre) (hr : x.ripe = []) (hq : x.push = none) :
    Res x A fr c (x.taks A L).1.1 (x.taks A L).1.2.2 := by
  have h3 : x.slot = -1 := by
    by_cases e : x.slot = -1
    · exact e
    · rcases w.sl e with h | h <;> rcases hn with q | q <;> (rw [q] at h; cases h)
  have main : ∀ p : Option Pop, x.pop = p →
      let q := (p.getD .new).step A
      let r : (Th × Int × Ar) × List Int := if q.1.l.over = false ∨ q.2.1 ≠ 0 then (({ x with pop := some q.1, next := some .tak }, q.2.1, q.2.2), L) else
        if q.1.slot = -1 then (({ x with pop := none, end_ := 1, next := some .lea }, 0, q.2.2), L) else
        ((({ x with pop := none } : Th).with_ q.1.slot L, 0, q.2.2), lived q.1.slot L)
      Res x A fr c r.1.1 r.1.2.2 := by
    intro p hp
    have po : (p.getD .new).ok ∧ (p.getD .new).own A c := by
      cases p with
      | none => exact ⟨Pop.new_ok, Pop.new_own⟩
      | some p => exact ⟨ox.pop p hp, w.pop p hp⟩
    obtain ⟨s0, s1⟩ := Pop.step_own po.1 po.2 hA F hc
    generalize (p.getD .new).step A = q at s0 s1
    simp only
    rcases s1 with ⟨s1, k, wq⟩ | ⟨s1, s2, k⟩ | ⟨s1, s, fr', e1, e2, e3, F', k⟩
    · rw [if_pos (.inl s1)]
      exact .same F k ⟨fun _ => ⟨hr, hq⟩, fun h => absurd h3 h, fun _ => rfl, fun p hp => by have hp : x.push = some p := hp; rw [hq] at hp; (cases hp), fun p hp => by cases hp; exact wq⟩ fun _ => rfl
    · rw [if_neg (by rw [s1, s0]; simp), if_pos s2]
      exact .same F k (.idle hr hq h3 rfl) fun _ => rfl
    · rw [if_neg (by rw [s1, s0]; simp), if_neg (by omega), e2]
      subst e1
      refine ⟨fr', c + 1, F', Th.with_own hr hq rfl, .inl ⟨rfl, k⟩, fun t => ?_, by simp only [List.length_cons]; omega, by simp only [List.length_cons]; omega⟩
      have g1 := with_count (x := { x with pop := none }) (L := L) (s := s) (t := t) (by omega) h3
      have g2 : ({ x with pop := none } : Th).hold.count t = x.hold.count t := rfl
      have g3 : (s :: fr').count t = fr'.count t + [s].count t := by rw [List.count_cons, List.count_singleton]
      show fr'.count t + (({ x with pop := none } : Th).with_ s L).hold.count t = (s :: fr').count t + x.hold.count t
      omega
  unfold Th.taks
  cases hp : x.pop with
  | some p => exact main _ hp
  | none =>
    cases hl : x.cache.getLast? with
    | none => exact main _ hp
    | some s =>
      have hm := ox.ca s (List.mem_of_getLast? hl)
      have hcp := ox.cap
      have hlive := ox.live (.inl (by rcases hn with h | h <;> (rw [h]; simp)))
      have hc2 : x.limbo.length + x.ripe.length + 16 ≤ 16 * x.evs.length + x.tries.toNat := by
        rcases hn with h | h <;> (rw [h] at hcp; simp only [restOf, flagOf] at hcp; omega)
      have o1 : ({ x with cache := x.cache.dropLast, pop := none, next := some .tak } : Th).ok := { ox with
        pop := fun n h => by cases h
        cl := by show (x.cache.dropLast).length ≤ 2; rw [List.length_dropLast]; have := ox.cl; omega
        ca := fun s hs => ox.ca s (List.dropLast_subset _ hs)
        live := fun _ => hlive
        ans := fun h => by cases h
        s2 := fun h => by rcases h with h | h <;> cases h
        cap := by simp only [restOf, flagOf]; omega }
      have o2 := Th.with_ok (L := L) o1 rfl hm.1 hm.2
      have e : ({ x with cache := x.cache.dropLast } : Th).with_ s L = ({ x with cache := x.cache.dropLast, pop := none, next := some .tak } : Th).with_ s L := by
        unfold Th.with_ Th.ops
        simp only [hp]
      refine .of (x1 := ({ x with cache := x.cache.dropLast } : Th).with_ s L) ?_ (fun t => ?_) fun t ht => ht
      · rw [e]
        exact Th.tris_own o2 (Th.with_wrs hm.1) hA F (Th.with_own hr hq rfl) rfl
      · rw [with_count (x := { x with cache := x.cache.dropLast }) (by omega) h3, hold_count, hold_count]
        have hcs : x.cache = x.cache.dropLast ++ [s] := by
          obtain ⟨ys, hy⟩ := List.getLast?_eq_some_iff.1 hl
          rw [hy, List.dropLast_concat]
        have : x.cache.count t = x.cache.dropLast.count t + [s].count t := by
          rw [← List.count_append, ← hcs]
        simp only
        omega
theorem cached_count (t : Int) : x.cached.hold.count t = x.hold.count t := by
  unfold Th.cached
  split
  · rw [hold_count, hold_count]
    simp only [List.count_append]
    have : (x.ripe.take (2 - x.cache.length)).count t + (x.ripe.drop (2 - x.cache.length)).count t = x.ripe.count t := by
      rw [← List.count_append, List.take_append_drop]
    omega
  · rfl
theorem Th.cached_own (w : x.own A c) (hn : x.next = some .fre) : x.cached.own A c := by
  unfold Th.cached
  split
  · rename_i h
    exact ⟨fun q => absurd hn q, w.sl, w.po, fun p hp => by have hp : x.push = some p := hp; rw [h] at hp; (cases hp), w.pop⟩
  · exact w
theorem Th.cached_sub {s : Int} (h : s ∈ x.cached.ripe) : s ∈ x.ripe := by
  unfold Th.cached at h
  split at h
  · exact List.mem_of_mem_drop h
  · exact h
theorem Th.fres_own (ox : x.ok) (hw : x.wrs) (hA : A.ok) (F : Fre A fr c) (hc : c < 90000) (w : x.own A c) (hn : x.next = some .fre) (hd : ∀ s ∈ x.ripe, s ∉ fr) :
    Res x A fr c (x.fres A L).1.1 (x.fres A L).1.2.2 := by
  have oc := Th.cached_ok ox
  have hn' : x.cached.next = some .fre := by rw [Th.cached_next]; exact hn
  have hw' : x.cached.wrs := by unfold Th.cached; split <;> exact hw
  have wc := Th.cached_own w hn
  refine .of (x1 := x.cached) ?_ (fun t => cached_count t) fun s => Th.cached_sub
  have hd : ∀ s ∈ x.cached.ripe, s ∉ fr := fun s hs => hd s (Th.cached_sub hs)
  unfold Th.fres
  simp only
  generalize x.cached = y at oc hn' hw' wc hd ⊢
  split
  · rename_i hr
    refine Th.taks_own oc hw' hA F hc wc (.inr hn') hr ?_
    cases e : y.push with
    | none => rfl
    | some p => have := (wc.push p e).2; rw [hr] at this; cases this
  · rename_i s r hr
    have hm := oc.ri s (by rw [hr]; simp)
    have hpo : y.pop = none := by
      cases e : y.pop with
      | none => rfl
      | some p => have := wc.po (by rw [e]; simp); rw [hn'] at this; cases this
    have hsl : y.slot = -1 := by
      by_cases e : y.slot = -1
      · exact e
      · rcases wc.sl e with h | h <;> (rw [hn'] at h; cases h)
    have po : (y.push.getD (.new s)).ok ∧ (y.push.getD (.new s)).own A ∧ (y.push.getD (.new s)).slot = s := by
      cases hp : y.push with
      | none => exact ⟨Push.new_ok hm.1 hm.2, Push.new_own, rfl⟩
      | some p =>
        have := (wc.push p hp).2
        rw [hr] at this
        cases this
        exact ⟨oc.push p hp, (wc.push p hp).1, rfl⟩
    have hsf : s ∉ fr := hd s (by rw [hr]; simp)
    obtain ⟨s0, s2, s1⟩ := Push.step_own po.1 po.2.1 hA F hc (by rw [po.2.2]; exact hsf)
    rw [po.2.2] at s1 s2
    generalize (y.push.getD (.new s)).step A = q at s0 s1 s2
    rcases s1 with ⟨s1, wq, F', sw⟩ | ⟨s1, F', k⟩
    · rw [if_neg (by rw [s1]; simp)]
      refine ⟨fr, c, F', ⟨fun z => absurd hn' z, fun h => absurd hsl h, fun h => absurd hpo h, fun p hp => ?_, fun p hp => ?_⟩, ?_, fun _ => rfl, by omega, by omega⟩
      · cases hp
        exact ⟨wq, by show y.ripe.head? = _; rw [hr, s2]; rfl⟩
      · have hp : y.pop = some p := hp
        rw [hpo] at hp; cases hp
      · rcases sw with sw | ⟨e1, e2, e3⟩
        · exact .inl sw
        · exact .inr ⟨e1, e2, fun t t0 t1 hn => e3 t t0 t1 fun z => hn (by rw [z, hr]; simp)⟩
    · rw [if_pos ⟨s1, s0⟩]
      refine ⟨s :: fr, c + 1, F', ⟨fun z => absurd hn' z, fun h => absurd hsl h, fun h => absurd hpo h, (fun p hp => by cases hp), fun p hp => ?_⟩, .inl ⟨rfl, k⟩, fun t => ?_, by simp only [List.length_cons]; omega, by simp only [List.length_cons]; omega⟩
      · have hp : y.pop = some p := hp
        rw [hpo] at hp; cases hp
      · rw [hold_count, hold_count, hr]
        simp only [List.count_cons]
        omega
theorem ripes_count (rs : List Ret) (e t : Int) : (ripes rs e).count t + ((rests rs e).map Ret.slot).count t = (rs.map Ret.slot).count t := by
  induction rs with
  | nil => rfl
  | cons r rs ih =>
    unfold ripes rests at ih ⊢
    simp only [List.filter_cons]
    cases isRipe e r <;> simp [List.count_cons] at ih ⊢ <;> omega
theorem Th.answer_own {B : Ar} {d : Int} (h : x.ripe = [] ∧ x.push = none ∧ x.slot = -1 ∧ x.pop = none) : (x.answer pick).own B d ∧ (x.answer pick).hold = x.hold := by
  unfold Th.answer
  split
  · exact ⟨.idle h.1 h.2.1 h.2.2.1 h.2.2.2, rfl⟩
  · exact ⟨.idle h.1 h.2.1 h.2.2.1 h.2.2.2, rfl⟩
theorem Th.act_own {a : Act} (ox : x.ok) (hw : x.wrs) (hA : A.ok) (F : Fre A fr c) (hc : c < 90000) (w : x.own A c) (hn : x.next = some a) (hd : ∀ s ∈ x.ripe, s ∉ fr) :
    Res x A fr c (x.act A L pick a).1.1 (x.act A L pick a).1.2.2 := by
  have i0 := ox.i0; have i1 := ox.i1; have n1 := ox.n1
  cases a with
  | ent =>
    obtain ⟨h1, h2, h3, h4⟩ := w.rest (by rw [hn]; simp)
    unfold Th.act Th.ents
    cases e : x.ent with
    | none => exact .same F (.refl A) w fun _ => rfl
    | some n =>
      have k := (Ent.step_acc (A := A) (ox.ent n e)).kp hA fun i p => by omega
      simp only
      split
      · refine .same F k ⟨fun z => absurd rfl z, fun h => absurd h3 h, fun h => absurd h4 h, fun p hp => by have hp : x.push = some p := hp; rw [h2] at hp; (cases hp), fun p hp => by have hp : x.pop = some p := hp; rw [h4] at hp; (cases hp)⟩ fun t => ?_
        rw [hold_count, hold_count, h1]
        have := ripes_count x.limbo (n.step A).1.e t
        simp only [List.count_nil]
        omega
      · exact .same F k (.idle h1 h2 h3 h4) fun _ => rfl
  | fre => exact Th.fres_own ox hw hA F hc w hn hd
  | tak => have r := w.ri (by rw [hn]; simp); exact Th.taks_own ox hw hA F hc w (.inl hn) r.1 r.2
  | tri => exact Th.tris_own ox hw hA F w hn
  | ret =>
    obtain ⟨h1, h2⟩ := w.ri (by rw [hn]; simp)
    have h4 : x.pop = none := by
      cases e : x.pop with
      | none => rfl
      | some p => have := w.po (by rw [e]; simp); rw [hn] at this; cases this
    have k := Kp.ld (i := 29) hA (by decide) (by decide)
    have s2 := ox.s2 (.inr hn)
    unfold Th.act Th.rets
    simp only
    split
    · refine .same F k (.idle h1 h2 rfl h4) fun t => ?_
      rw [hold_count, hold_count]
      rw [if_neg (show ¬ x.slot = -1 by omega)]
      simp only [List.map_append, List.count_append, List.map_cons, List.map_nil, if_true, List.count_nil]
      omega
    · exact .same F k (w.kp ox k) fun _ => rfl
  | lea =>
    obtain ⟨h1, h2, h3, h4⟩ := w.rest (by rw [hn]; simp)
    have k : Kp A (A.put (30 + x.id) 0) := fun j j0 j1 => by rw [at_put hA (by omega) (by omega) (by omega) (by omega), if_neg (by omega)]
    exact .same F k (.idle h1 h2 h3 h4) fun _ => rfl
  | adv =>
    obtain ⟨h1, h2, h3, h4⟩ := w.rest (by rw [hn]; simp)
    unfold Th.act Th.advs
    cases e : x.adv with
    | none => exact .same F (.refl A) w fun _ => rfl
    | some d =>
      have k := (Adv.step_acc (A := A) (ox.adv d e)).kp hA fun i p => by omega
      simp only
      split
      · obtain ⟨q1, q2⟩ := Th.answer_own (x := { x with adv := some (d.step A).1 }) (pick := pick) (B := (d.step A).2.2) (d := c) ⟨h1, h2, h3, h4⟩
        exact .same F k q1 fun t => by rw [q2]; rfl
      · exact .same F k (.idle h1 h2 h3 h4) fun _ => rfl
theorem Th.ended_own {r : (Th × Int × Ar) × List Int} (h : Res x A fr c r.1.1 r.1.2.2) : Res x A fr c (Th.ended r).1 (Th.ended r).2.2.2.1 := by
  unfold Th.ended
  split
  · exact h
  · obtain ⟨fr', d, h1, h2, h3⟩ := h.ex
    exact ⟨fr', d, h1, ⟨h2.ri, h2.sl, h2.po, h2.push, h2.pop⟩, h3⟩
theorem Th.step_own (ox : x.ok) (hw : x.wrs) (hA : A.ok) (F : Fre A fr c) (hc : c < 90000) (w : x.own A c) (hd : ∀ s ∈ x.ripe, s ∉ fr) :
    Res x A fr c (x.step A L pick).1 (x.step A L pick).2.2.2.1 := by
  unfold Th.step
  split
  · exact .same F (.refl A) w fun _ => rfl
  · have o1 : ({ x with ts := -1, tg := 0 } : Th).ok := { ox with }
    have w1 : ({ x with ts := -1, tg := 0 } : Th).own A c := ⟨w.ri, w.sl, w.po, w.push, w.pop⟩
    simp only
    split
    · rename_i a e
      exact Th.ended_own (.of (x1 := { x with ts := -1, tg := 0 }) (Th.act_own o1 hw hA F hc w1 e hd) (fun _ => rfl) fun _ h => h)
    · rename_i e
      have b := Th.begin_ok (pick := pick) o1 e
      obtain ⟨h1, h2, h3, h4⟩ := w1.rest (by rw [e]; simp)
      have bw : (({ x with ts := -1, tg := 0 } : Th).begin pick).1.wrs ∧ (({ x with ts := -1, tg := 0 } : Th).begin pick).1.own A c ∧ (∀ t, (({ x with ts := -1, tg := 0 } : Th).begin pick).1.hold.count t = x.hold.count t) ∧ (({ x with ts := -1, tg := 0 } : Th).begin pick).1.ripe = x.ripe := by
        unfold Th.begin
        split
        · exact ⟨hw, w1, fun _ => rfl, rfl⟩
        · split
          · exact ⟨hw, .idle h1 h2 h3 h4, fun _ => rfl, rfl⟩
          · exact ⟨hw, .idle h1 h2 h3 h4, fun _ => rfl, rfl⟩
      split
      · rename_i q
        exact Th.ended_own (.of (Th.act_own b.1 bw.1 hA F hc bw.2.1 (b.2 q) (by rw [bw.2.2.2]; exact hd)) bw.2.2.1 fun s h => by rw [bw.2.2.2] at h; exact h)
      · exact .same F (.refl A) bw.2.1 bw.2.2.1
end
theorem sum_set {α : Type} {f : α → Nat} {x y : α} : ∀ {xs : List α} {i : Nat}, xs[i]? = some x → ((xs.set i y).map f).sum + f x = (xs.map f).sum + f y := by
  intro xs
  induction xs with
  | nil => intro i h; cases h
  | cons a xs ih =>
    intro i h
    cases i with
    | zero => simp at h; subst h; simp; omega
    | succ i => have := ih (i := i) (by simpa using h); simp only [List.set_cons_succ, List.map_cons, List.sum_cons]; omega
theorem sum_one {α : Type} {f : α → Nat} {x : α} : ∀ {xs : List α} {i : Nat}, xs[i]? = some x → f x ≤ (xs.map f).sum := by
  intro xs
  induction xs with
  | nil => intro i h; cases h
  | cons a xs ih =>
    intro i h
    cases i with
    | zero => simp at h; subst h; simp
    | succ i => have := ih (i := i) (by simpa using h); simp only [List.map_cons, List.sum_cons]; omega
theorem sum_two {α : Type} {f : α → Nat} {x y : α} : ∀ {xs : List α} {i j : Nat}, xs[i]? = some x → xs[j]? = some y → i ≠ j → f x + f y ≤ (xs.map f).sum := by
  intro xs
  induction xs with
  | nil => intro i j h; cases h
  | cons a xs ih =>
    intro i j h h2 hij
    cases i with
    | zero =>
      cases j with
      | zero => exact absurd rfl hij
      | succ j =>
        simp at h; subst h
        have := sum_one (f := f) (xs := xs) (i := j) (by simpa using h2)
        simp only [List.map_cons, List.sum_cons]; omega
    | succ i =>
      cases j with
      | zero =>
        simp at h2; subst h2
        have := sum_one (f := f) (xs := xs) (i := i) (by simpa using h)
        simp only [List.map_cons, List.sum_cons]; omega
      | succ j =>
        have := ih (i := i) (j := j) (by simpa using h) (by simpa using h2) (by omega)
        simp only [List.map_cons, List.sum_cons]; omega
structure Mc.si (M : Mc) (fr : List Int) (c : Int) : Prop where
  F : Fre M.A fr c
  c1 : c ≤ M.picks
  own : ∀ x ∈ M.ths, x.own M.A c
  all : ∀ s, fr.count s + (M.ths.map fun x => x.hold.count s).sum = if 0 ≤ s ∧ s < 12 then 1 else 0
def twelve : List Int := [0, 1, 2, 3, 4, 5, 6, 7, 8, 9, 10, 11]
theorem twelve_count (s : Int) : twelve.count s = if 0 ≤ s ∧ s < 12 then 1 else 0 := by
  split
  · rename_i h
    have : s = 0 ∨ s = 1 ∨ s = 2 ∨ s = 3 ∨ s = 4 ∨ s = 5 ∨ s = 6 ∨ s = 7 ∨ s = 8 ∨ s = 9 ∨ s = 10 ∨ s = 11 := by omega
    rcases this with rfl | rfl | rfl | rfl | rfl | rfl | rfl | rfl | rfl | rfl | rfl | rfl <;> decide
  · rename_i h
    refine List.count_eq_zero.2 fun z => h ?_
    simp only [twelve, List.mem_cons, List.not_mem_nil, or_false] at z
    omega
theorem newAr_fre : Fre newAr twelve 0 := by
  refine ⟨⟨1, by decide, ?_⟩, fun s h0 h1 => ?_, Int.le_refl 0⟩
  · refine ⟨rfl, by decide, 2, by decide, rfl, by decide, 3, by decide, rfl, by decide, 4, by decide, rfl, by decide, 5, by decide, rfl, by decide, 6, by decide, rfl, by decide, 7, by decide, rfl, by decide, 8, by decide, rfl, by decide, 9, by decide, rfl, by decide, 10, by decide, rfl, by decide, 11, by decide, rfl, by decide, 12, by decide, rfl, by decide, 0, by decide, rfl⟩
  · have : s = 0 ∨ s = 1 ∨ s = 2 ∨ s = 3 ∨ s = 4 ∨ s = 5 ∨ s = 6 ∨ s = 7 ∨ s = 8 ∨ s = 9 ∨ s = 10 ∨ s = 11 := by omega
    rcases this with rfl | rfl | rfl | rfl | rfl | rfl | rfl | rfl | rfl | rfl | rfl | rfl
    · exact ⟨2, by decide, by decide, by decide⟩
    · exact ⟨3, by decide, by decide, by decide⟩
    · exact ⟨4, by decide, by decide, by decide⟩
    · exact ⟨5, by decide, by decide, by decide⟩
    · exact ⟨6, by decide, by decide, by decide⟩
    · exact ⟨7, by decide, by decide, by decide⟩
    · exact ⟨8, by decide, by decide, by decide⟩
    · exact ⟨9, by decide, by decide, by decide⟩
    · exact ⟨10, by decide, by decide, by decide⟩
    · exact ⟨11, by decide, by decide, by decide⟩
    · exact ⟨12, by decide, by decide, by decide⟩
    · exact ⟨0, by decide, by decide, by decide⟩
theorem Mc.new_si {p : Plan} : (Mc.new p).si twelve 0 := by
  refine ⟨newAr_fre, Int.le_refl 0, fun x hx => ?_, fun s => ?_⟩
  · obtain ⟨j, t, e1, rfl⟩ := Mc.threads_mem hx
    exact .idle rfl rfl rfl rfl
  · rw [twelve_count]
    have : ((Mc.new p).ths.map fun x => x.hold.count s).sum = 0 := by
      rw [List.map_congr_left (g := fun _ => 0) fun x hx => ?_]
      · generalize (Mc.new p).ths = xs
        induction xs with
        | nil => rfl
        | cons a xs ih => simpa using ih
      · obtain ⟨j, t, e1, rfl⟩ := Mc.threads_mem hx
        rfl
    rw [this]; rfl
theorem decide_own {x : Th} {A : Ar} {c s pick : Int} (w : x.own A c) : (x.decide s pick).own A c ∧ (x.decide s pick).hold = x.hold := by
  unfold Th.decide
  split
  · exact ⟨⟨w.ri, w.sl, w.po, w.push, w.pop⟩, rfl⟩
  · exact ⟨w, rfl⟩
theorem Mc.pick_si {M : Mc} {k c : Int} {fr : List Int} (o : M.ok) (S : M.si fr c) : ∃ fr' c', (M.pick k).1.si fr' c' ∧ fr'.length ≤ fr.length + 1 ∧ fr.length ≤ fr'.length + 1 := by
  unfold Mc.pick
  split
  · exact ⟨fr, c, S, by omega, by omega⟩
  · rename_i hk
    split
    · exact ⟨fr, c, S, by omega, by omega⟩
    · rename_i x hx
      have ox := o.ths x (List.mem_of_getElem? hx)
      have hc : c < 90000 := by have := S.c1; have := o.p1; omega
      have c0 := S.F.c0
      have hd : ∀ s ∈ x.ripe, s ∉ fr := fun s h1 h2 => by
        have a1 := S.all s
        have a2 := sum_one (f := fun x : Th => x.hold.count s) hx
        have a3 := List.count_pos_iff.2 h2
        have a4 := List.count_pos_iff.2 h1
        have a5 := hold_count x s
        split at a1 <;> omega
      obtain ⟨fr', d, r1, r2, r3, r4, r5⟩ := (Th.step_own (L := M.L) (pick := M.picks) ox.1 ox.2.1 o.A S.F hc (S.own x (List.mem_of_getElem? hx)) hd).ex
      generalize x.step M.A M.L M.picks = r at r1 r2 r3 r4
      simp only
      have dd : d ≤ c + 1 := by rcases r3 with ⟨e, _⟩ | ⟨e, _⟩ <;> omega
      have base : ∀ y ∈ M.ths.set k.toNat r.1, y.own r.2.2.2.1 d := fun y hy => by
        obtain ⟨j, hj, he⟩ := List.mem_iff_getElem.1 hy
        have hg : (M.ths.set k.toNat r.1)[j]? = some y := by rw [List.getElem?_eq_getElem hj, he]
        rw [List.getElem?_set] at hg
        split at hg
        · split at hg
          · cases hg; exact r2
          · cases hg
        · rename_i ne
          have oy := o.ths y (List.mem_of_getElem? hg)
          refine (S.own y (List.mem_of_getElem? hg)).other oy.1 S.F (by omega) r3 fun s hs => ⟨fun q => ?_, hd s hs⟩
          have a1 := S.all s
          have a2 := sum_two (f := fun x : Th => x.hold.count s) hx hg ne
          have a3 := List.count_pos_iff.2 q
          have a4 := List.count_pos_iff.2 hs
          have a5 := hold_count x s
          have a6 := hold_count y s
          split at a1 <;> omega
      have cnt : ∀ s, fr'.count s + ((M.ths.set k.toNat r.1).map fun x => x.hold.count s).sum = if 0 ≤ s ∧ s < 12 then 1 else 0 := fun s => by
        have a1 := S.all s
        have a2 := sum_set (f := fun x : Th => x.hold.count s) (y := r.1) hx
        have a3 := r4 s
        omega
      refine ⟨fr', d, ⟨r1, by show d ≤ M.picks + 1; have := S.c1; omega, fun y hy => ?_, fun s => ?_⟩, r5⟩
      · simp only at hy
        split at hy
        · unfold decAll at hy
          split at hy
          · obtain ⟨z, hz, rfl⟩ := List.mem_map.1 hy
            exact (decide_own (base z hz)).1
          · exact base y hy
        · exact base y hy
      · rw [← cnt s]
        congr 2
        show List.map _ (if r.2.1 = true then decAll _ _ _ else _ : List Th) = _
        split
        · unfold decAll
          split
          · rw [List.map_map]
            refine List.map_congr_left fun z hz => ?_
            show ((z.decide _ _).hold).count s = _
            rw [(decide_own (base z hz)).2]
          · rfl
        · rfl
structure Dw where
  g : Int
  ds : List Sw
  rq : Prop
structure Stk where
  q : Int
  fs : List Fr
def mw (s g : Int) : Int := (Form.mcas s g).number
def ew (s g : Int) (n : Nat) (t q : Int) : Int := (Form.entry s g n t q).number
def Held (A : Ar) (s : Int) (d : Dw) (n : Nat) : Prop := ∀ (j : Nat) e, j < n → d.ds[j]? = some e → A.at e.c = mw s d.g
def DOk (A : Ar) (s : Int) (d : Dw) : Prop := Life s d.g ∧ swMay d.ds = true ∧ ∃ st : Int, (0 ≤ st ∧ st < 3) ∧ Dsc A s d.g st d.ds
def Opn (A : Ar) (s : Int) (d : Dw) : Prop := A.at (baseOf s) = stateW d.g 0
def Won (A : Ar) (s : Int) (d : Dw) : Prop := A.at (baseOf s) = stateW d.g 1
structure Ix (d : Dw) (w : Wh) (n : Nat) (e : Sw) : Prop where
  i : w.i = n
  k : w.k = d.ds.length
  e : d.ds[n]? = some e
def Pu (A : Ar) (t q : Int) (d : Dw) (w : Wh) (n : Nat) : Prop := (Opn A w.s d → A.at w.cell = w.put ∨ A.at w.cell = mw w.s d.g) ∧ ∃ q', w.put = ew w.s d.g n t q' ∧ 0 ≤ q' ∧ q' < q
def Ph (D : Int → Option Dw) (L : Prop) (A : Ar) (t q : Int) (d : Dw) (w : Wh) : Prop :=
  match w.pc with
  | 1 => True
  | 2 => True
  | 3 => ∃ n e, Ix d w n e ∧ (Opn A w.s d → Held A w.s d n)
  | 4 => ∃ n e, Ix d w n e ∧ (Opn A w.s d → Held A w.s d n) ∧ w.cell = e.c
  | 5 => ∃ n e, Ix d w n e ∧ (Opn A w.s d → Held A w.s d n) ∧ w.cell = e.c ∧ w.was = e.w * 4
  | 6 => ∃ n e, Ix d w n e ∧ (Opn A w.s d → Held A w.s d n) ∧ w.cell = e.c ∧ w.was = e.w * 4 ∧ Pu A t q d w n
  | 7 => ∃ n e, Ix d w n e ∧ (Opn A w.s d → Held A w.s d n) ∧ w.cell = e.c ∧ w.was = e.w * 4 ∧ Pu A t q d w n ∧ (w.opn = true → A.at w.cell = w.put → ¬ Won A w.s d) ∧ (w.opn = false → ¬ Opn A w.s d)
  | 8 => Opn A w.s d → Held A w.s d d.ds.length
  | 9 => Opn A w.s d → L
  | 10 => ¬ Opn A w.s d ∧ (w.won = true ↔ Won A w.s d)
  | 11 => ∃ n e, Ix d w n e ∧ ¬ Opn A w.s d ∧ (w.won = true ↔ Won A w.s d)
  | 12 => ∃ n e, Ix d w n e ∧ ¬ Opn A w.s d ∧ (w.won = true ↔ Won A w.s d) ∧ w.cell = e.c
  | 13 => ∃ n e, Ix d w n e ∧ ¬ Opn A w.s d ∧ (w.won = true ↔ Won A w.s d) ∧ w.cell = e.c ∧ w.x = (if w.won then e.n else e.w) * 4
  | 14 => ∃ n e, Ix d w n e ∧ (Opn A w.s d → Held A w.s d n) ∧ w.cell = e.c ∧ w.was = e.w * 4 ∧ ∃ s' d', D s' = some d' ∧ s' ≠ w.s ∧ w.x = mw s' d'.g ∧ (Opn A s' d' → A.at w.cell = w.x)
  | _ => False
def EPh (A : Ar) (d : Dw) (e : Sw) (f : En) : Prop :=
  match f.pc with
  | 0 => True
  | 1 => f.cell = e.c
  | 2 => f.cell = e.c ∧ f.was = e.w * 4
  | 3 => f.cell = e.c ∧ f.was = e.w * 4 ∧ (f.opn = true → A.at f.cell = (Form.entry f.s f.g f.e f.t f.q).number → ¬ Won A f.s d) ∧ (f.opn = false → ¬ Opn A f.s d)
  | _ => False
def FrOk (D : Int → Option Dw) (Lo : Int → Prop) (A : Ar) (F : Int → Stk) (t q : Int) : Fr → Prop
  | .who w => ∃ d, D w.s = some d ∧ w.g = d.g ∧ Ph D (Lo w.s) A t q d w
  | .ent f => ∃ d e n, D f.s = some d ∧ f.g = d.g ∧ f.e = (n : Nat) ∧ d.ds[n]? = some e ∧ (0 ≤ f.q ∧ f.q < (F f.t).q) ∧ (0 ≤ f.t ∧ f.t < 4) ∧ EPh A d e f
def RF (s : Int) (i : Nat) : Fr → Prop
  | .who w => w.s = s ∧ (w.pc ≤ 10 ∨ w.pc = 14 ∨ w.i ≤ i)
  | .ent _ => False
structure Qs where
  qt : Int → Int → Prop
  pt : Int → Int → Prop
def Resp (Q : Qs) (F : Int → Stk) (s : Int) (i : Nat) : Prop := ∃ t f, Q.qt s t ∧ f ∈ (F t).fs ∧ RF s i f
def Dg (p : Nat) : Prop := p ≠ 1 ∧ (p < 10 ∨ p = 14)
def Ref (s : Int) : Fr → Prop
  | .who w => w.s = s ∨ (w.pc = 14 ∧ ∃ g, Life s g ∧ w.x = mw s g)
  | .ent f => f.s = s
structure Owns (w : Wh) (s : Int) (n : Nat) (e : Sw) (p : Int) : Prop where
  s : w.s = s
  i : w.i = n
  cell : w.cell = e.c
  was : w.was = e.w * 4
  put : w.put = p
  pc : w.pc = 6 ∨ w.pc = 7
inductive Cell (D : Int → Option Dw) (Q : Qs) (A : Ar) (F : Int → Stk) (M : Int → Int) (c : Int) : Prop where
  | val {v : Int} (h : plainOf (A.at c) = some v) (m : M c = A.at c)
  | mc {s : Int} {d : Dw} {n : Nat} {e : Sw} (hd : D s = some d) (he : d.ds[n]? = some e) (hc : e.c = c) (ha : A.at c = mw s d.g)
      (m1 : Won A s d → M c = e.n * 4) (m0 : ¬ Won A s d → M c = e.w * 4) (hh : Opn A s d → Held A s d n) (r : d.rq → Resp Q F s n)
  | en {s : Int} {d : Dw} {n : Nat} {e : Sw} {t q : Int} (hd : D s = some d) (he : d.ds[n]? = some e) (hc : e.c = c) (ha : A.at c = ew s d.g n t q) (t0 : 0 ≤ t ∧ t < 4) (q0 : 0 ≤ q ∧ q < (F t).q)
      (m : M c = e.w * 4) {w : Wh} {r : List Fr} (ho : (F t).fs = .who w :: r) (o : Owns w s n e (A.at c))
def Nx (A : Ar) (u : Wh) : List Fr → Prop
  | .who w :: _ => u.s ≠ w.s ∧ (A.at (baseOf u.s) = stateW u.g 0 → A.at w.cell = mw u.s u.g)
  | _ => True
def Up (u : Wh) : List Fr → Prop
  | .who w :: _ => w.cell < u.cell
  | _ => True
def Ord (A : Ar) : List Fr → Prop
  | [] => True
  | .who w :: r => w.pc = 5 ∧ Nx A w r ∧ Up w r ∧ Ord A r
  | .ent _ :: _ => False
def Und (A : Ar) : List Fr → Prop
  | [] => True
  | .who w :: r => w.pc = 5 ∧ Nx A w r ∧ Ord A r
  | .ent _ :: _ => False
def Chain (A : Ar) : List Fr → Prop
  | [] => True
  | .who w :: r => Nx A w r ∧ (w.pc = 14 → A.at (baseOf w.s) = stateW w.g 0 → Up w r) ∧ Ord A r
  | .ent _ :: r => Und A r
structure MI (D : Int → Option Dw) (Q : Qs) (Lo : Int → Prop) (A : Ar) (F : Int → Stk) (M : Int → Int) : Prop where
  ok : A.ok
  ds : ∀ s d, D s = some d → DOk A s d
  cells : ∀ c, 0 ≤ c → c < 16 → Cell D Q A F M c
  fr : ∀ t f, f ∈ (F t).fs → FrOk D Lo A F t (F t).q f
  ch : ∀ t, Chain A (F t).fs
  lost : ∀ s d, D s = some d → A.at (baseOf s) = stateW d.g 2 → Lo s
  q0 : ∀ t, 0 ≤ (F t).q ∧ (F t).q < 1048576
  t0 : ∀ t, (F t).fs ≠ [] → 0 ≤ t ∧ t < 4
  qd : ∀ t w d, Fr.who w ∈ (F t).fs → D w.s = some d → d.rq → Dg w.pc → Q.qt w.s t
  qo : ∀ s d, D s = some d → d.rq → Opn A s d → ∀ t, Q.qt s t
  pf : ∀ t f s d, f ∈ (F t).fs → Ref s f → D s = some d → d.rq → Q.pt s t
section
variable {D : Int → Option Dw} {Q : Qs} {Lo : Int → Prop} {A B : Ar} {F : Int → Stk} {M : Int → Int} {t q s s' : Int} {d d' : Dw} {n n' : Nat} {e e' : Sw}
theorem DOk.lt (h : DOk A s d) (he : d.ds[n]? = some e) : n < 16 ∧ 0 ≤ e.c ∧ e.c < 16 ∧ 0 ≤ e.w ∧ e.w < 1099511627776 ∧ 0 ≤ e.n ∧ e.n < 1099511627776 := by
  have := sw_len h.2.1
  have m := sw_mem h.2.1 he
  have := (List.getElem?_eq_some_iff.1 he).1
  exact ⟨by omega, m⟩
theorem mw_inj (h : Life s d.g) (h' : Life s' d'.g) (e : mw s d.g = mw s' d'.g) : s = s' ∧ d.g = d'.g := by
  have := number_inj (may_mcas.2 ⟨h.s0, h.s1, h.g0, h.g1⟩) (may_mcas.2 ⟨h'.s0, h'.s1, h'.g0, h'.g1⟩) e
  injection this with a b
  exact ⟨a, b⟩
theorem mw_read (h : Life s d.g) : read (mw s d.g) = some (.mcas s d.g) := read_number (may_mcas.2 ⟨h.s0, h.s1, h.g0, h.g1⟩)
theorem mw_ew {g g' : Int} {t q : Int} : mw s g ≠ ew s' g' n t q := fun h => entry_not_mcas h.symm
theorem val_read {x v : Int} (h : plainOf x = some v) : read x = some (.val v) ∧ x = v * 4 ∧ 0 ≤ v ∧ v < 1099511627776 := by
  have e : read x = some (.val v) := by
    unfold plainOf at h
    revert h
    cases read x with
    | none => intro h; cases h
    | some f => cases f <;> intro h <;> simp at h; rw [h]
  have r := may_val.1 (number_of_read e).1
  have := (number_of_read e).2.1
  simp only [Form.number] at this
  exact ⟨e, by omega, r⟩
theorem ew_range (h : Life s d.g) (hn : n < 16) (t0 : 0 ≤ t ∧ t < 4) (q0 : 0 ≤ q ∧ q < 1048576) : (Form.entry s d.g n t q).may = true := may_entry.2 ⟨h.s0, h.s1, h.g0, h.g1, by omega, by omega, t0.1, t0.2, q0.1, q0.2⟩
theorem ew_inj {t' q' : Int} (h : Life s d.g) (h' : Life s' d'.g) (hn : n < 16) (hn' : n' < 16) (t0 : 0 ≤ t ∧ t < 4) (t0' : 0 ≤ t' ∧ t' < 4) (q0 : 0 ≤ q ∧ q < 1048576) (q0' : 0 ≤ q' ∧ q' < 1048576)
    (e : ew s d.g n t q = ew s' d'.g n' t' q') : s = s' ∧ d.g = d'.g ∧ n = n' ∧ t = t' ∧ q = q' := by
  have := number_inj (ew_range h hn t0 q0) (ew_range h' hn' t0' q0') e
  injection this with a b c d e
  exact ⟨a, b, by omega, d, e⟩
structure Rel (D : Int → Option Dw) (F : Int → Stk) (A B : Ar) : Prop where
  st : ∀ s d, D s = some d → (Opn B s d → Opn A s d) ∧ (¬ Opn A s d → B.at (baseOf s) = A.at (baseOf s))
  keep : ∀ s d, D s = some d → Opn B s d → ∀ c, 0 ≤ c → c < 16 → A.at c = mw s d.g → B.at c = mw s d.g
  ent : ∀ s d n e t q, D s = some d → d.ds[n]? = some e → 0 ≤ t ∧ t < 4 → 0 ≤ q ∧ q < (F t).q → Opn B s d → A.at e.c = ew s d.g n t q → B.at e.c = ew s d.g n t q ∨ B.at e.c = mw s d.g
  old : ∀ s d n e t q, D s = some d → d.ds[n]? = some e → 0 ≤ t ∧ t < 4 → 0 ≤ q ∧ q < (F t).q → B.at e.c = ew s d.g n t q → A.at e.c = ew s d.g n t q ∧ (Won B s d → Won A s d)
  new : ∀ s d n e, D s = some d → d.ds[n]? = some e → B.at e.c = mw s d.g → A.at e.c = mw s d.g ∨ ∃ t q, (0 ≤ t ∧ t < 4) ∧ (0 ≤ q ∧ q < 1048576) ∧ A.at e.c = ew s d.g n t q
end
section
variable {D : Int → Option Dw} {Q : Qs} {Lo : Int → Prop} {A B : Ar} {F : Int → Stk} {M : Int → Int} {t q q' s : Int} {d : Dw} {n : Nat} {e : Sw}
theorem base_at {s : Int} (h : Life s d.g) : 16 ≤ baseOf s ∧ baseOf s < 634 := by
  have := h.s0; have := h.s1; unfold baseOf; omega
theorem DOk.same (h : ∀ j, 0 ≤ j → j < 634 → B.at j = A.at j) (o : DOk A s d) : DOk B s d := by
  obtain ⟨l, m, st, hst, D⟩ := o
  have := l.s0; have := l.s1
  exact ⟨l, m, st, hst, D.keep m fun j j0 j1 => h j (by unfold baseOf at j0; omega) (by unfold baseOf at j1; omega)⟩
theorem DOk.cell (h : ∀ j, 16 ≤ j → j < 634 → B.at j = A.at j) (o : DOk A s d) : DOk B s d := by
  obtain ⟨l, m, st, hst, D⟩ := o
  have := l.s0; have := l.s1
  exact ⟨l, m, st, hst, D.keep m fun j j0 j1 => h j (by unfold baseOf at j0; omega) (by unfold baseOf at j1; omega)⟩
end
def nxt (o : Out) (r : List Fr) : List Fr := match o.atop.bind newFr with
  | some f => f :: o.fr :: r
  | none => if o.over then r else o.fr :: r
section
variable {D : Int → Option Dw} {Q : Qs} {Lo : Int → Prop} {A B : Ar} {F : Int → Stk} {M : Int → Int} {t q q' s : Int} {d : Dw} {n : Nat} {e : Sw} {w w' : Wh} {r : List Fr}
theorem ld_same {i : Int} (ok : A.ok) (h0 : 0 ≤ i) (h1 : i < 634) : ∀ j, 0 ≤ j → j < 634 → (A.ld i).at j = A.at j := fun j j0 j1 => at_ld ok h0 h1 j0 j1
end
end Go.Proofs.YtkflebignnmomaaGreat
