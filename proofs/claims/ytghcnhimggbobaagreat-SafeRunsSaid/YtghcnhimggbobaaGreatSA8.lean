/- Several texts in one; nothing here is a statement on the program. -/
import Derived.Test.YtghcnhimggbobaaGreatSA7
set_option linter.unusedVariables false
set_option linter.unusedSimpArgs false
namespace Go.Proofs.YtghcnhimggbobaaGreat
open Go GW Go.Proofs
attribute [local irreducible] bnd ldV stV ifV binV eqI
set_option maxRecDepth 20000
section
variable {P1 P2 P3 : Part} {a b tb lb sz : Nat} {U : TypeId} {pre post : List Value} {lp : Value} {pick : Int} {A : Ar} {L : List Int} {R : List Part} {h : GH} {K : Value → GH → Prop} {x : Th}
theorem T_advances (hp : All (arP 63 a A :: pts tb (trRow b a lp pick) :: P3 :: thP b x :: R) h) (o : x.ok) (hx : x.next = some .adv)
    (hK : ∀ h', All (arP 63 a (x.advs A pick).2.2 :: pts tb (trRow b a lp pick) :: P3 :: thP b (x.advs A pick).1 :: R) h' → K (i64 (x.advs A pick).2.1) h') : T Tryz.prog 75 [ptr tb] h K := by
  apply S75_T
  unfold S75
  have live := o.live (.inl (by rw [hx]; simp))
  have oe : x.evs.length ≤ 8 := by have := o.evs; have := thrMay_spec o.txns; omega
  have hp0 := hp
  refine tho hp fun v hp => ?_
  unfold thRow trRow at hp
  refine wk ?_
  unfold Th.advs at hK
  cases he : x.adv with
  | none =>
    rw [he] at hp hK
    dsimp only at hK
    have e := opP_none (hn (hp.up 13))
    rw [e]
    refine wk ?_
    refine T_advStepNil ?_
    refine wk ?_
    unfold S75_j1
    refine wk ?_
    exact hK _ hp0
  | some d =>
    have od := o.adv d he
    rw [he] at hp hK
    dsimp only at hK
    obtain ⟨db, e, hp1⟩ := opP_some (hn (hp.up 13))
    replace hp := hp1
    rw [e] at hp ⊢
    clear hp1
    replace hp := hp.re 4 [1, 2, 3, 0]
    replace hp := Go.Proofs.YtghcnhimggbobaaGreat.hn hp
    refine wk ?_
    replace hp := hp.re 4 [2, 3, 0, 1]
    replace hp := Go.Proofs.YtghcnhimggbobaaGreat.hn hp
    refine T_advStep hp od fun h2 hp => ?_
    generalize d.step A = z at hp hK
    obtain ⟨d', code, B⟩ := z
    dsimp only at hp hK ⊢
    refine wk ?_
    have hp2 : All (arP 63 a B :: pts tb (trRow b a lp pick) :: P3 :: thP b { x with adv := some d' } :: R) h2 := by
      refine ths (v := { v with dp := ptr db }) ?_
      have := opP_mk (P := advP) (hn (hp.up 1))
      exact hn (this.re 14 [2, 3, 1, 4, 5, 6, 7, 8, 9, 10, 11, 12, 13, 0])
    unfold S75_j1
    cases hov : d'.over with
    | false =>
      rw [if_neg (by rw [hov]; simp)] at hK
      refine wk ?_
      exact hK _ hp2
    | true =>
      refine wk ?_
      refine ifV_cases (fun c => ?_) fun c => ?_
      · rw [if_pos ⟨hov, c⟩] at hK
        subst c
        replace hp := hn (hp2.re 4 [1, 0, 2, 3])
        unfold trRow at hp
        refine wk ?_
        refine T_answer hp o.t0 o.t1 o.k1 live oe (fun n hn => (o.att n hn).2) fun h3 hp => ?_
        exact hK _ (hn (hp.re 4 [1, 0, 2, 3]))
      · rw [if_neg (fun q => c q.2)] at hK
        exact hK _ hp2
theorem T_thDone (hp : All (thP b x :: R) h) (oe : x.evs.length ≤ 8) (hK : K (.bool x.done) h) : T Tryz.prog 27 [ptr b] h K := by
  apply S27_T
  unfold S27
  refine thP_open hp fun v hp => ?_
  unfold thRow at hp
  refine wk ?_
  have hlen := evP_len (hn (hp.up 2))
  refine bnd_of hlen ?_
  refine wk ?_
  have htl : lnV v.tv = some (i64 x.txns.length) := by
    refine tvP_open (hn (hp.up 1)) fun cs hq => ?_
    have := hq.mono1 tv1.mono
    have h2 := this.1.len
    rw [this.2.1] at h2; exact h2
  refine bnd_of htl ?_
  refine wk ?_
  unfold Th.done at hK
  refine ifV_cases (fun c => ?_) fun c => ?_
  · rw [decide_eq_true (by omega), Bool.true_and] at hK
    refine wk ?_
    refine ifV_cases (fun c2 => ?_) fun c2 => ?_
    · have : x.evs = [] := List.length_eq_zero_iff.1 (by omega)
      rw [this] at hK
      exact hK
    · refine wk ?_
      refine evsP_open (hn (hp.up 2)) fun ws hl hp => ?_
      have live : x.evs ≠ [] := fun e => c2 (by rw [e]; rfl)
      obtain ⟨e, w, g1, g2, g3, g4⟩ := evCs_last hl live
      obtain ⟨eb, i1, i2, i3, i4⟩ := All.elt hp g4 .i64
      rw [g1] at hK
      have l0 := List.length_pos_iff.2 live
      rw [show (x.evs.length : Int) - 1 = ((x.evs.length - 1 : Nat) : Int) by omega]
      refine bnd_of i1 (bnd_of rfl (bnd_of (i2 4 1 (i64 e.answered) rfl) ?_))
      refine wk ?_
      exact hK
  · rw [decide_eq_false (by omega), Bool.false_and] at hK
    refine wk ?_
    exact hK
theorem evCs_snoc {es : List Event} {ws : List Value} (hl : ws.length = es.length) {e : Event} {w : Value} : evCs es ws ++ [e.cells w] = evCs (es ++ [e]) (ws ++ [w]) := by
  unfold evCs
  rw [List.zipWith_append hl.symm]; rfl
theorem ansP_snoc {ws : List Value} {es : List Event} {e' : Event} (ha : e'.answers = []) (hl : ws.length = es.length) (hp : All (ansP ws es :: R) h) : All (ansP (ws ++ [.slice none 0 0]) (es ++ [e']) :: R) h := by
  refine hp.head fun h1 z j e w he hw => ?_
  rw [List.getElem?_append] at he hw
  split at he
  · rw [if_pos (by omega)] at hw; exact z j e w he hw
  · rw [if_neg (by omega)] at hw
    have : j - es.length = 0 := by
      rcases Nat.eq_zero_or_pos (j - es.length) with q | q
      · exact q
      · rw [List.getElem?_eq_none (by simp; omega)] at he; cases he
    rw [this] at he
    rw [hl, this] at hw
    cases he; cases hw
    rw [ha]; exact rowsAt_nil _ _
theorem T_begin (hp : All (thP b x :: R) h) (o : x.ok) (hx : x.next = none)
    (hK : ∀ h', All (thP b (x.begin pick).1 :: R) h' → K (.bool (x.begin pick).2) h') : T Tryz.prog 20 [ptr b, i64 pick] h K := by
  apply S20_T
  unfold S20
  have oe : x.evs.length ≤ 8 := by have := o.evs; have := thrMay_spec o.txns; omega
  refine T_thDone hp oe ?_
  unfold Th.begin at hK
  cases hd : x.done with
  | true => rw [hd] at hK; refine wk ?_; exact hK _ hp
  | false =>
    rw [hd] at hK
    simp only [Bool.false_eq_true, if_false] at hK
    refine wk ?_
    refine thP_open hp fun v hp => ?_
    have p1 := o.p1; have i0 := o.i0; have i1 := o.i1; have n1 := o.n1
    unfold thRow at hp
    refine wk ?_
    refine ifV_cases (fun c => ?_) fun c => ?_
    · rw [if_pos c] at hK
      refine wk ?_
      refine st0 hp (thRow { x with pause := x.pause - 1 } v) rfl (Nat.le_of_ble_eq_true rfl) rfl rfl fun h1 hp => ?_
      exact hK _ (thP_shut (v := v) (x := { x with pause := x.pause - 1 }) hp)
    · rw [if_neg c] at hK
      have j1 : ∀ (es : List Event) (ev : Value) h', es = (if x.tries = 0 then x.evs ++ [⟨x.id, x.evs.length, pick, -1, -1, 0, 0, []⟩] else x.evs) → All (pts b (thRow x { v with ev := ev }) :: tvP v.tv x.txns :: evsP ev es :: rowP 1 v.cv (x.cache.map encI) :: rowP 2 v.lv (x.limbo.map Ret.enc) :: rdP v.rv x.ripe :: opP entP v.ep x.ent :: opP pushP v.up x.push :: opP popP v.pp x.pop :: opP attP v.ap x.att :: opP advP v.dp x.adv :: R) h' →
          S20_j1 (ptr b) h' K := by
        intro es ev h' ees hp
        unfold S20_j1
        unfold thRow at hp
        refine wk ?_
        refine T_NewEnter (hn (hp.re 11 [0, 1, 2, 3, 4, 5, 7, 8, 9, 10])) i0 (by omega) fun nb h1 hp => ?_
        replace hp := hn (hp.re 2 [1, 0])
        refine wk ?_
        refine st0 hp (thRow x { v with ev := ev, ep := ptr nb }) rfl (Nat.le_of_ble_eq_true rfl) rfl rfl fun h2 hp => ?_
        unfold thRow at hp
        refine wk ?_
        refine st0 hp (thRow { x with end_ := 2 } { v with ev := ev, ep := ptr nb }) rfl (Nat.le_of_ble_eq_true rfl) rfl rfl fun h3 hp => ?_
        unfold thRow at hp
        refine wk ?_
        refine st0 hp (thRow { x with end_ := 2, next := some .ent } { v with ev := ev, ep := ptr nb }) rfl (Nat.le_of_ble_eq_true rfl) rfl rfl fun h4 hp => ?_
        refine hK _ (thP_shut (v := { v with ev := ev, ep := ptr nb }) ?_)
        have := opP_mk (P := entP) (y := Ent.new x.id) (hn (hp.up 1))
        have := hn (this.re 11 [1, 2, 3, 4, 5, 6, 0, 7, 8, 9, 10])
        rw [ees] at this
        exact this
      refine wk ?_
      refine ifV_cases (fun c2 => ?_) fun c2 => ?_
      · refine wk ?_
        have hlen := evP_len (hn (hp.up 2))
        refine bnd_of hlen (bnd_of rfl ?_)
        replace hp := hn (hp.up 2)
        refine evsP_open hp fun ws hl hp => ?_
        have eg : good 8 ((⟨x.id, x.evs.length, pick, -1, -1, 0, 0, []⟩ : Event).cells (.slice none 0 0)) := ⟨rfl, rfl⟩
        refine bs0 (size := 8) hp [(⟨x.id, x.evs.length, pick, -1, -1, 0, 0, []⟩ : Event).cells (.slice none 0 0)] rfl rfl (by simp) (fun c hc => by rw [List.mem_singleton.1 hc]; exact eg) fun sv h2 hp => ?_
        have r2 := hp.rows
        refine ap0 (hn (hp.up 1)) r2 (fun c hc => by rw [List.mem_singleton.1 hc]; exact eg) (by decide) (by rw [evCs_len hl]; simp only [List.length_cons, List.length_nil]; omega) fun ev' h3 hp => ?_
        obtain ⟨ad, ln, cap, rfl⟩ := All.isSlice hp
        rw [evCs_snoc hl] at hp
        have hp := ansP_snoc (e' := ⟨x.id, x.evs.length, pick, -1, -1, 0, 0, []⟩) rfl hl (hn (hp.re 3 [2, 0]))
        have hl2 : (ws ++ [Value.slice none 0 0]).length = (x.evs ++ [(⟨x.id, x.evs.length, pick, -1, -1, 0, 0, []⟩ : Event)]).length := by simp [hl]
        have hp := evsP_shut hl2 (hn (hp.re 2 [1, 0]))
        replace hp := hn (hp.re 3 [1, 2, 0])
        refine wk ?_
        refine st0 hp (thRow x { v with ev := .slice ad ln cap }) rfl (Nat.le_of_ble_eq_true rfl) rfl rfl fun h4 hp => ?_
        exact j1 _ _ _ (by rw [if_pos c2]) hp
      · refine wk ?_
        exact j1 x.evs v.ev _ (by rw [if_neg c2]) hp
def Th.z (x : Th) : Th := { x with ts := -1, tg := 0 }
theorem Th.step_dead (h : x.dead = true) : x.step A L pick = (x, false, 1800, A, L) := by unfold Th.step; rw [if_pos h]
theorem Th.step_some {a : Act} (h : x.dead = false) (hx : x.next = some a) : x.step A L pick = Th.ended (x.z.act A L pick a) := by
  unfold Th.step
  rw [if_neg (by rw [h]; decide)]
  show (match x.next with | some a => Th.ended (x.z.act A L pick a) | none => _) = _
  rw [hx]
theorem Th.step_none (h : x.dead = false) (hx : x.next = none) : x.step A L pick = if (x.z.begin pick).2 then Th.ended ((x.z.begin pick).1.act A L pick .ent) else ((x.z.begin pick).1, false, 0, A, L) := by
  unfold Th.step
  rw [if_neg (by rw [h]; decide)]
  show (match x.next with | some a => _ | none => if (x.z.begin pick).2 then Th.ended ((x.z.begin pick).1.act A L pick .ent) else ((x.z.begin pick).1, false, 0, A, L)) = _
  rw [hx]
theorem T_thStep (hp : All (arP 63 a A :: pts lb (lvRow U sz pre L post) :: thP b x :: R) h) (o : x.ok) (lo : Lok L) (hpick : 0 ≤ pick)
    (hK : ∀ h', All (arP 63 a (x.step A L pick).2.2.2.1 :: pts lb (lvRow U sz pre (x.step A L pick).2.2.2.2 post) :: thP b (x.step A L pick).1 :: R) h' → K (.tuple #[.bool (x.step A L pick).2.1, i64 (x.step A L pick).2.2.1]) h') : T Tryz.prog 14 [ptr b, ptr a, lvP pre.length lb, i64 pick] h K := by
  apply S14_T
  unfold S14
  unfold lvP
  refine wk ?_
  unfold S14_j1
  refine wk ?_
  refine thP_open (hn (hp.up 2)) fun v hq => ?_
  replace hp := hq
  clear hq
  unfold thRow at hp
  refine wk ?_
  cases hd : x.dead with
  | true =>
    rw [Th.step_dead hd] at hK
    refine wk ?_
    exact hK _ (hn ((thP_shut (v := v) hp).re 3 [1, 2, 0]))
  | false =>
    refine wk ?_
    unfold S14_j2
    refine wk ?_
    refine st0 hp (thRow { x with ts := -1, tg := 0 } v) rfl (Nat.le_of_ble_eq_true rfl) rfl rfl fun h1 hp => ?_
    have o1 : x.z.ok := { o with }
    have j3 : ∀ (y : Th) (act : Act) h', y.ok → y.next = some act → All (arP 63 a A :: pts lb (lvRow U sz pre L post) :: thP b y :: R) h' →
        (∀ h'', All (arP 63 a (Th.ended (y.act A L pick act)).2.2.2.1 :: pts lb (lvRow U sz pre (Th.ended (y.act A L pick act)).2.2.2.2 post) :: thP b (Th.ended (y.act A L pick act)).1 :: R) h'' → K (.tuple #[.bool (Th.ended (y.act A L pick act)).2.1, i64 (Th.ended (y.act A L pick act)).2.2.1]) h'') →
        S14_j3 (ptr b) (ptr a) (.pointer (some ⟨lb, pre.length, none⟩)) (i64 pick) h' K := by
      intro y act h' oy hy hp hK
      unfold S14_j3
      refine thP_open (hn (hp.up 2)) fun v hq => ?_
      have hp0 := hp
      replace hp := hq
      clear hq
      unfold thRow at hp
      refine wk ?_
      replace hp := hp0
      refine nw hp (trRow b a (lvP pre.length lb) pick) rfl fun tb h2 hp => ?_
      replace hp := hn (hp.re 4 [1, 0, 2, 3])
      have live := oy.live (.inl (by rw [hy]; simp))
      -- behind the action
      have fin : ∀ (r : (Th × Int × Ar) × List Int) h', r = y.act A L pick act → All (arP 63 a r.1.2.2 :: pts tb (trRow b a (lvP pre.length lb) pick) :: pts lb (lvRow U sz pre r.2 post) :: thP b r.1.1 :: R) h' →
          bnd (eqI (i64 r.1.2.1) (.int .i64 0)) fun b9 => ifV (.bool (!b9)) (bnd (ncV (ptr b)) fun v10 => bnd (faV 7 v10) fun v11 => bnd (stV 1 v11 (.bool true) h') fun h12 => K (.tuple #[(.bool true), (.int .i64 1800)]) h12) (K (.tuple #[(.bool true), (.int .i64 0)]) h') := by
        intro r h' er hp
        rw [← er] at hK
        unfold Th.ended at hK
        refine wk ?_
        by_cases c : r.1.2.1 = 0
        · rw [if_pos c] at hK
          rw [decide_eq_true c]
          refine wk ?_
          exact hK _ (hn (hp.re 4 [0, 2, 3]))
        · rw [if_neg c] at hK
          rw [decide_eq_false c]
          refine wk ?_
          refine thP_open (hn (hp.up 3)) fun v hq => ?_
          replace hp := hq
          clear hq
          unfold thRow at hp
          refine wk ?_
          refine st0 hp (thRow { r.1.1 with dead := true } v) rfl (Nat.le_of_ble_eq_true rfl) rfl rfl fun h3 hp => ?_
          have := thP_shut (v := v) (x := { r.1.1 with dead := true }) hp
          exact hK _ (hn (this.re 4 [1, 3, 0]))
      rw [hy]
      cases act with
      | ent => exact T_enters hp oy fun h3 hp => fin (y.act A L pick .ent) _ rfl hp
      | fre => exact T_frees hp oy hy live lo fun h3 hp => fin (y.act A L pick .fre) _ rfl hp
      | tak => exact T_takes hp oy live lo fun h3 hp => fin (y.act A L pick .tak) _ rfl hp
      | tri => exact T_tries hp (fun n hn => (oy.att n hn).1) fun h3 hp => fin (y.act A L pick .tri) _ rfl hp
      | ret => exact T_retires hp oy fun h3 hp => fin (y.act A L pick .ret) _ rfl hp
      | lea => exact T_leaves hp oy fun h3 hp => fin (y.act A L pick .lea) _ rfl hp
      | adv => exact T_advances hp oy hy fun h3 hp => fin (y.act A L pick .adv) _ rfl hp
    unfold thRow at hp
    refine wk ?_
    have hp1 : All (thP b x.z :: arP 63 a A :: pts lb (lvRow U sz pre L post) :: R) h1 := thP_shut (v := v) hp
    cases hnx : x.next with
    | some act =>
      rw [Th.step_some hd hnx] at hK
      have enx : eqK NK.func true (actV (some act)) Value.nilFunc = some false := by cases act <;> rfl
      refine bnd_of enx ?_
      refine wk ?_
      exact j3 _ act _ o1 hnx (hn (hp1.re 3 [1, 2, 0])) hK
    | none =>
      rw [Th.step_none hd hnx] at hK
      refine wk ?_
      refine T_begin (pick := pick) hp1 o1 hnx fun h2 hp => ?_
      have hb := Th.begin_ok (pick := pick) o1 hnx
      generalize x.z.begin pick = r at hp hK hb
      obtain ⟨y, bb⟩ := r
      dsimp only at hp hK hb ⊢
      cases bb with
      | false =>
        rw [if_neg (by decide)] at hK
        refine wk ?_
        exact hK _ (hn (hp.re 3 [1, 2, 0]))
      | true =>
        rw [if_pos rfl] at hK
        refine wk ?_
        exact j3 y .ent _ hb.1 (hb.2 rfl) (hn (hp.re 3 [1, 2, 0])) hK
end
end Go.Proofs.YtghcnhimggbobaaGreat
namespace Go.Proofs.YtghcnhimggbobaaGreat
open Go GW Go.Proofs
theorem Plan.may_of {p : Plan} (h1 : 1 ≤ p.threads.length) (h2 : p.threads.length ≤ 4) (h3 : 1 ≤ p.attempts) (h4 : p.attempts ≤ 16) : p.may = p.threads.all thrMay := by
  unfold Plan.may; rw [decide_eq_true ⟨h1, h2, h3, h4⟩]; rfl
theorem Plan.may_not {p : Plan} (h : ¬ (1 ≤ p.threads.length ∧ p.threads.length ≤ 4 ∧ 1 ≤ p.attempts ∧ p.attempts ≤ 16)) : p.may = false := by
  unfold Plan.may; rw [decide_eq_false h]; rfl
theorem all_false {α : Type} {p : α → Bool} {l : List α} {x : α} {i : Nat} (h : l[i]? = some x) (hx : p x = false) : l.all p = false :=
  List.all_eq_false.2 ⟨x, List.mem_of_getElem? h, by rw [hx]; decide⟩
theorem all_snoc {α : Type} {p : α → Bool} {l : List α} {x : α} {i : Nat} (h : l[i]? = some x) (ht : (l.take i).all p = true) (hx : p x = true) : (l.take (i + 1)).all p = true := by
  rw [List.take_add_one, h, List.all_append, ht]; simpa using hx
theorem T_scriptMay {v : Value} {p : Plan} {h : GH} {K : Value → GH → Prop} (hp : threadsAt h v p.threads) (hK : K (.bool p.may) h) : T Tryz.prog 10 [.agg (planC v p).toArray] h K := by
  apply T.drop
  apply S10_T
  unfold S10
  obtain ⟨es, re, ae⟩ := hp
  have hln := re.len
  have hmx := re.max
  rw [ae.1] at hln hmx
  intro b hb
  have l := (HLe.refl h).new (.row 24 (planC v p) 3 true) hb
  refine bnd_of rfl (bnd_of (v := v) (by rw [ldV_same]; rfl) (bnd_of hln (bnd_of (binV_lss _ _ _) ?_)))
  rw [ifV_dec]
  split
  · rename_i c1
    rw [Plan.may_not (by omega)] at hK
    exact ⟨h, l, hK⟩
  rename_i c1
  refine bnd_of rfl (bnd_of (v := v) (by rw [ldV_same]; rfl) (bnd_of hln (bnd_of (binV_gtr _ _ _) ?_)))
  rw [ifV_dec]
  split
  · rename_i c2
    rw [Plan.may_not (by omega)] at hK
    exact ⟨h, l, hK⟩
  rename_i c2
  refine bnd_of rfl (bnd_of (v := i64 p.attempts) (by rw [ldV_same]; rfl) (bnd_of (binV_lss _ _ _) ?_))
  rw [ifV_dec]
  split
  · rename_i c3
    rw [Plan.may_not (by omega)] at hK
    exact ⟨h, l, hK⟩
  rename_i c3
  refine bnd_of rfl (bnd_of (v := i64 p.attempts) (by rw [ldV_same]; rfl) (bnd_of (binV_gtr _ _ _) ?_))
  rw [ifV_dec]
  split
  · rename_i c4
    rw [Plan.may_not (by omega)] at hK
    exact ⟨h, l, hK⟩
  rename_i c4
  rw [Plan.may_of (by omega) (by omega) (by omega) (by omega)] at hK
  unfold S10_j1
  refine bnd_of rfl (bnd_of (v := v) (by rw [ldV_same]; rfl) (bnd_of hln ?_))
  refine Lfp_fam (ι := Nat) (fun i => [v, i64 p.threads.length, i64 i]) (fun i h' => i ≤ p.threads.length ∧ HLe h h' ∧ (p.threads.take i).all thrMay = true) (fun i => p.threads.length - i) ?_ 0 _ ⟨Nat.zero_le _, l, rfl⟩
  intro i h1 X ⟨hi, l1, hok⟩ again
  simp only [tup_zero, tup_succ, binV_lss, bnd_some, ifV_dec]
  split
  · rename_i hlt
    obtain ⟨ts, hts⟩ : ∃ ts, p.threads[i]? = some ts := ⟨_, List.getElem?_eq_getElem (by omega)⟩
    obtain ⟨c, hc, w, ws, rfl, rw1, aw⟩ := ae.get hts
    have hlw := rw1.len
    have hmw := rw1.max
    rw [aw.1] at hlw hmw
    obtain ⟨q, hq, hlq⟩ := (re.le l1).get1 (i := i) (x := w) hc .i64
    refine bnd_of hq (bnd_of hlq (bnd_of hlw (bnd_of (binV_gtr _ _ _) ?_)))
    rw [ifV_dec]
    split
    · rename_i c5
      rw [all_false hts (by unfold thrMay; rw [decide_eq_false (by omega)]; rfl)] at hK
      exact ⟨h, l1, hK⟩
    rename_i c5
    refine bnd_of hlw ?_
    refine Lfp_fam (ι := Nat) (fun j => [v, i64 p.threads.length, i64 i, w, i64 ts.length, i64 j]) (fun j h' => j ≤ ts.length ∧ HLe h h' ∧ (ts.take j).all Txn.may = true) (fun j => ts.length - j) ?_ 0 _ ⟨Nat.zero_le _, l1, rfl⟩
    intro j h2 Y ⟨hj, l2, hok2⟩ again2
    simp only [tup_zero, tup_succ, binV_lss, bnd_some, ifV_dec]
    split
    · rename_i hlt2
      obtain ⟨t, ht⟩ : ∃ t, ts[j]? = some t := ⟨_, List.getElem?_eq_getElem (by omega)⟩
      obtain ⟨c, hc2, u, rfl, ru⟩ := aw.get ht
      obtain ⟨q2, hq2, hlq2⟩ := (rw1.le l2).get (i := j) (c := [u]) hc2 .i64
      refine bnd_of hq2 (bnd_of hlq2 ?_)
      intro b3 hb3
      have l3 := l2.new (.row 59 [u] 1 true) (l2.none hb3)
      by_cases hu : oneCell u = true
      · refine bnd_of (v := upd h2 b3 (.row 59 [u] 1 true)) (by rw [stV_same, if_pos ⟨rfl, by decide, by simp [cells_agg, hu]⟩]; rfl) ?_
        refine bnd_of rfl (bnd_of (v := u) (by rw [ldV_same]; rfl) ?_)
        refine T_OpsMay (ru.le l3) (bnd_of rfl ?_)
        rw [ifV_iff]
        split
        · rename_i hm
          rw [all_false hts (by unfold thrMay; rw [all_false ht (by simpa using hm)]; simp)] at hK
          exact ⟨h, l3, hK⟩
        · rename_i hm
          refine bnd_of (binV_add _ _ _) ?_
          rw [wrap_id (by omega) (by omega)]
          exact again2 (j + 1) _ ⟨by omega, l3, all_snoc ht hok2 (by simpa using hm)⟩ (by omega)
      · obtain ⟨_, _, _, rfl, _⟩ := ru
        exact absurd rfl hu
    · rename_i hge
      rw [List.take_of_length_le (by omega)] at hok2
      refine bnd_of (binV_add _ _ _) ?_
      rw [wrap_id (by omega) (by omega)]
      exact again (i + 1) _ ⟨by omega, l2, all_snoc hts hok (by unfold thrMay; rw [hok2, decide_eq_true (by omega)]; rfl)⟩ (by omega)
  · rename_i hge
    rw [List.take_of_length_le (by omega)] at hok
    rw [hok] at hK
    exact ⟨h, l1, hK⟩
attribute [local irreducible] bnd ldV stV ifV binV eqI
set_option maxRecDepth 20000
def Short (es : List Event) : Prop := ∀ e ∈ es, e.answers.length ≤ 2
section
variable {R : List Part} {h : GH} {K : Value → GH → Prop} {b : Nat} {x : Th}
end
end Go.Proofs.YtghcnhimggbobaaGreat
namespace Go.Proofs.YtghcnhimggbobaaGreat
open Go GW Go.Proofs
attribute [local irreducible] bnd ldV stV ifV binV eqI
set_option maxRecDepth 20000
section
variable {R : List Part} {h : GH} {K : Value → GH → Prop} {b : Nat} {x : Th} {pick s : Int}
theorem T_thThrough (hp : All (thP b x :: R) h) (hK : K (.tuple #[i64 x.ts, i64 x.tg]) h) : T Tryz.prog 22 [ptr b] h K := by
  apply S22_T
  unfold S22
  refine thP_open hp fun v hp => ?_
  unfold thRow at hp
  refine wk ?_
  exact hK
theorem T_thDecide (hp : All (thP b x :: R) h) (oe : x.evs.length ≤ 8) (hK : ∀ h', All (thP b (x.decide s pick) :: R) h' → K (.tuple #[]) h') : T Tryz.prog 24 [ptr b, i64 s, i64 pick] h K := by
  apply S24_T
  unfold S24
  have hp0 := hp
  refine thP_open hp fun v hp => ?_
  have hp1 := hp
  unfold thRow at hp
  refine wk ?_
  unfold Th.decide at hK
  refine ifV_cases (fun c => ?_) fun c => ?_
  · rw [if_pos c] at hK
    refine wk ?_
    have hlen := evP_len (hn (hp.up 2))
    refine bnd_of hlen ?_
    refine wk ?_
    refine ifV_cases (fun c2 => ?_) fun c2 => ?_
    · have l0 : 0 < x.evs.length := by omega
      have live : x.evs ≠ [] := List.length_pos_iff.1 l0
      replace hp := hn (hp1.up 2)
      refine evsP_open hp fun ws hl hp => ?_
      obtain ⟨e, w, g1, g2, g3, g4⟩ := evCs_last hl live
      obtain ⟨eb, i1, _, _, _⟩ := All.elt hp g4 .i64
      replace hp := hn (hp.up 2)
      refine T_event (v := v) (x := x) hp hlen l0 (by omega) i1 ?_
      refine wk ?_
      replace hp := hn (hp.up 1)
      refine ev_st (j := 3) hp g4 i1 rfl rfl (by decide) fun h2 hp => ?_
      rw [show (e.cells w).set 3 (i64 pick) = ({ e with decided := pick } : Event).cells w from rfl, evCs_set hl, set_self g3] at hp
      have hp := ansP_same g2 (e' := { e with decided := pick }) rfl (hn (hp.up 2))
      have hp := evsP_shut (ws := ws) (es := x.evs.set (x.evs.length - 1) { e with decided := pick }) (by rw [List.length_set]; exact hl) (hn (hp.re 2 [1, 0]))
      refine hK _ (thP_shut (v := v) ?_)
      show All (pts b (thRow x v) :: tvP v.tv x.txns :: evsP v.ev (evTurn x.evs fun e => { e with decided := pick }) :: _) _
      rw [evTurn_set g1]
      exact hn (hp.re 3 [1, 2, 0])
    · have he : x.evs = [] := List.length_eq_zero_iff.1 (by omega)
      have e2 : ({ x with evs := evTurn x.evs fun e => { e with decided := pick } } : Th) = x := by
        have : (evTurn x.evs fun e => { e with decided := pick }) = x.evs := by rw [he]; rfl
        rw [this]
      rw [e2] at hK
      exact hK _ hp0
  · rw [if_neg c] at hK
    exact hK _ hp0
end
end Go.Proofs.YtghcnhimggbobaaGreat
namespace Go.Proofs.YtghcnhimggbobaaGreat
open Go GW Go.Proofs
attribute [local irreducible] bnd ldV stV ifV binV eqI
set_option maxRecDepth 20000
instance {id n k : Int} {ts : List (List Op)} : Decidable (Th.may id n k ts) := by unfold Th.may; infer_instance
def opsC (cs : List (List Value)) (ts : List (List Op)) : Part := fun h => All2 (txnC h) cs ts
theorem All2.snoc {α β : Type} {R : α → β → Prop} {xs : List α} {ys : List β} {x : α} {y : β} (a : All2 R xs ys) (r : R x y) : All2 R (xs ++ [x]) (ys ++ [y]) := by
  refine ⟨by simp [a.1], fun i u v hu hv => ?_⟩
  have hl := a.1
  rw [List.getElem?_append] at hu hv
  split at hu
  · rw [if_pos (by omega)] at hv; exact a.2 i u v hu hv
  · rw [if_neg (by omega)] at hv
    have : i - xs.length = 0 := by
      rcases Nat.eq_zero_or_pos (i - xs.length) with q | q
      · exact q
      · rw [List.getElem?_eq_none (by simp; omega)] at hu; cases hu
    rw [this] at hu
    rw [← hl, this] at hv
    cases hu; cases hv; exact r
section
variable {R : List Part} {h : GH} {K : Value → GH → Prop} {b : Nat} {x : Th} {id n k : Int} {pol : Bool} {tsv : Value} {ts : List (List Op)}
theorem opsC_snoc {cs : List (List Value)} {ts : List (List Op)} {w : Value} {t : List Op} (hp : All (rowP 4 w (t.map Op.enc) :: opsC cs ts :: R) h) : All (opsC (cs ++ [[w]]) (ts ++ [t]) :: R) h := by
  refine (All.fold (l := [rowP 4 w (t.map Op.enc), opsC cs ts]) hp).head fun h1 z => ?_
  refine All2.snoc ((z.tail.mono1 (P := opsC cs ts) (fun _ _ l p => p.mono fun _ _ q => q.le l))) ⟨w, rfl, All.rows z⟩
theorem tv1_len {v : Value} {cs : List (List Value)} {ts : List (List Op)} (r : tv1 v cs ts h) : lnV v = some (i64 ts.length) ∧ ts.length ≤ 9223372036854775807 := by
  obtain ⟨r, a⟩ := r
  have := r.len
  rw [a.1] at this
  exact ⟨this, by rw [← a.1]; exact r.max⟩
theorem T_thNew (hp : All R h) {cs0 : List (List Value)} (hs : ∀ h', All R h' → tv1 tsv cs0 ts h') (kn : ¬ Th.may id n k ts → ∀ h', All R h' → K (.tuple #[.pointer none, i64 1800]) h')
    (ky : Th.may id n k ts → ∀ b h', All (thP b (.new id n k pol ts) :: R) h' → K (.tuple #[ptr b, i64 0]) h') : T Tryz.prog 12 [i64 id, i64 n, i64 k, .bool pol, tsv] h K := by
  apply S12_T
  unfold S12
  refine wk ?_
  refine ifV_cases (fun c => kn (fun m => by have := m.1; omega) _ hp) fun c => ?_
  refine wk ?_
  refine ifV_cases (fun c2 => kn (fun m => by have := m.1; omega) _ hp) fun c2 => ?_
  refine T_Below ?_
  refine wk ?_
  refine ifN_cases (fun c3 => kn (fun m => c3 m.2.1) _ hp) fun c3 => ?_
  obtain ⟨ad, ln, cap, etv⟩ : ∃ ad ln cap, tsv = .slice ad ln cap := by
    obtain ⟨⟨a, n, cap, e, _⟩, _⟩ := hs _ hp
    exact ⟨_, _, _, e⟩
  refine bs0 (size := 1) hp [[tsv]] (by rw [etv]; rfl) rfl (by simp) (fun c hc => by rw [List.mem_singleton.1 hc, etv]; exact ⟨rfl, rfl⟩) fun pv h1 hp => ?_
  refine wk ?_
  have thr : threadsAt h1 pv [ts] := ⟨[[tsv]], All.rows hp, rfl, fun i u v hu hv => by
    cases i with
    | zero =>
      simp at hu hv; subst hu; subst hv
      obtain ⟨r1, r2⟩ := hs _ hp.tail
      exact ⟨tsv, cs0, rfl, r1, r2⟩
    | succ i => simp at hu⟩
  obtain ⟨pa, pl, pc, rfl⟩ := All.isSlice hp
  refine wk ?_
  refine T_scriptMay (p := ⟨[ts], k, false⟩) thr ?_
  replace hp := hp.tail
  refine wk ?_
  cases hm : (Plan.mk [ts] k false).may with
  | false =>
    refine wk ?_
    refine kn (fun m => ?_) _ hp
    unfold Plan.may at hm
    simp only [List.length_cons, List.length_nil, List.all_cons, List.all_nil, Bool.and_true, m.2.2.2, Bool.and_true, decide_eq_false_iff_not] at hm
    exact hm ⟨by omega, by omega, m.2.2.1.1, m.2.2.1.2⟩
  | true =>
    refine wk ?_
    have hm2 : Th.may id n k ts := by
      unfold Plan.may at hm
      simp only [List.length_cons, List.length_nil, List.all_cons, List.all_nil, Bool.and_true, Bool.and_eq_true, decide_eq_true_eq] at hm
      exact ⟨by omega, c3, ⟨hm.1.2.2.1, hm.1.2.2.2⟩, hm.2⟩
    clear kn
    have ky := ky hm2
    have hts := thrMay_spec hm2.2.2.2
    unfold S12_j1
    refine wk ?_
    let V (tv : Value) : ThV := ⟨tv, .slice none 0 0, .slice none 0 0, .slice none 0 0, .slice none 0 0, .pointer none, .pointer none, .pointer none, .pointer none, .pointer none⟩
    refine nw hp (thRow { Th.new id n k pol ts with ts := 0 } (V (.slice none 0 0))) rfl fun b h2 hp => ?_
    have hlen := (tv1_len (hs _ hp.tail)).1
    refine bnd_of hlen ?_
    refine Lfp_fam (ι := Nat × Value × List (List Value)) (fun p => [ptr b, tsv, i64 ts.length, i64 p.1]) (fun p h' => p.1 ≤ ts.length ∧ All (pts b (thRow { Th.new id n k pol ts with ts := 0 } (V p.2.1)) :: rowP 1 p.2.1 p.2.2 :: opsC p.2.2 (ts.take p.1) :: R) h') (fun p => ts.length - p.1) ?_ (0, .slice none 0 0, []) h2 ⟨by simp, ?_⟩
    rotate_left
    · have z1 := All.emp_cons (P := opsC [] (ts.take 0)) hp ⟨rfl, fun i u v hu => by simp at hu⟩
      have z2 := All.emp_cons (P := rowP 1 (.slice none 0 0) []) z1 (rowP_nil _ _)
      exact hn (z2.re 3 [2, 0, 1])
    clear hp
    rintro ⟨i, tv, cs⟩ h3 X ⟨hi, hp⟩ again
    simp only at hi hp
    simp only [tup_zero, tup_succ]
    have hcl : cs.length = i := by
      have := (hn (hp.up 2)).mono1 (P := opsC cs (ts.take i)) (fun _ _ l p => p.mono fun _ _ q => q.le l)
      rw [this.1, List.length_take]; omega
    refine wk ?_
    refine ifV_cases (fun c => ?_) fun c => ?_
    · obtain ⟨t, ht⟩ : ∃ t, ts[i]? = some t := ⟨_, List.getElem?_eq_getElem (by omega)⟩
      have htm := hts.2 t (List.mem_of_getElem? ht)
      obtain ⟨ct, hct, w, rfl, hw⟩ := (hs _ hp.tail.tail.tail).2.get ht
      obtain ⟨p, d1, d2⟩ := (hs _ hp.tail.tail.tail).1.get hct .i64
      refine bnd_of d1 (bnd_of d2 ?_)
      obtain ⟨wa, wn, wc, rfl⟩ : ∃ ad ln cap, w = .slice ad ln cap := by
        obtain ⟨ad, ln, cap, e, _⟩ := hw; exact ⟨_, _, _, e⟩
      have hrow : ∀ h', All R h' → rowsAt h' 4 (.slice wa wn wc) (t.map Op.enc) := fun h' hr => by
        obtain ⟨c2, hc2, w2, e2, r2⟩ := (hs _ hr).2.get ht
        rw [hct] at hc2
        cases hc2; cases e2; exact r2
      refine nwst hp (.row 59 [.slice wa wn wc] 1 true) rfl rfl rfl rfl fun tb h4 hp => ?_
      replace hp := hn (hp.re 2 [1, 0])
      unfold thRow at hp
      refine wk ?_
      have ht2 : t.length ≤ 1000 ∧ t ≠ [] := by
        unfold Txn.may at htm
        simp only [Bool.and_eq_true, decide_eq_true_eq] at htm
        refine ⟨by omega, fun e => ?_⟩
        rw [e] at htm; simp at htm
      refine T_CloneOps hp (fun h' hp => hrow _ hp.tail.tail.tail.tail) ht2.1 ht2.2 fun nv h5 hp => ?_
      obtain ⟨na, nl, nc, rfl⟩ := All.isSlice hp
      replace hp := hn (hp.re 3 [1, 0])
      refine wk ?_
      replace hp := hn (hp.re 4 [2, 1, 3, 0])
      refine bs0 (size := 1) hp [[.slice na nl nc]] rfl rfl (by simp) (fun c hc => by rw [List.mem_singleton.1 hc]; exact ⟨rfl, rfl⟩) fun sv h6 hp => ?_
      have r2 := hp.rows
      refine ap0 (hn (hp.up 1)) r2 (fun c hc => by rw [List.mem_singleton.1 hc]; exact ⟨rfl, rfl⟩) (by decide) (by simp only [List.length_cons, List.length_nil]; omega) fun tv' h7 hp => ?_
      obtain ⟨ta, tl, tc, rfl⟩ := All.isSlice hp
      replace hp := hn (hp.re 5 [4, 0, 2, 3])
      refine wk ?_
      refine st0 hp (thRow { Th.new id n k pol ts with ts := 0 } (V (.slice ta tl tc))) rfl (Nat.le_of_ble_eq_true rfl) rfl rfl fun h8 hp => ?_
      refine wk ?_
      refine again (i + 1, .slice ta tl tc, cs ++ [[.slice na nl nc]]) _ ⟨by simp only; omega, ?_⟩ (by simp only; omega)
      have hp := opsC_snoc (hn (hp.re 4 [2, 3, 0, 1]))
      have e1 : ts.take i ++ [t] = ts.take (i + 1) := by rw [List.take_add_one, ht]; rfl
      rw [e1] at hp
      exact hn (hp.re 3 [1, 2, 0])
    · have hie : i = ts.length := by omega
      subst hie
      rw [List.take_length] at hp
      unfold thRow at hp
      refine wk ?_
      refine st0 hp (thRow (.new id n k pol ts) (V tv)) rfl (Nat.le_of_ble_eq_true rfl) rfl rfl fun h4 hp => ?_
      refine ky b _ (thP_shut (v := V tv) ?_)
      have hp := All.fold (l := [rowP 1 tv cs, opsC cs ts]) (hn (hp.re 3 [1, 2, 0]))
      have hp := hp.head (Q := tvP tv ts) fun h1 z => ⟨cs, All.rows z, z.tail.mono1 (P := opsC cs ts) (fun _ _ l p => p.mono fun _ _ q => q.le l)⟩
      have hp := opP_no (P := advP) hp
      have hp := opP_no (P := attP) hp
      have hp := opP_no (P := popP) hp
      have hp := opP_no (P := pushP) hp
      have hp := opP_no (P := entP) hp
      have hp := hp.emp_cons (P := rdP (.slice none 0 0) []) (rowsAt_nil _ _)
      have hp := hp.emp_cons (P := rowP 2 (.slice none 0 0) []) (rowP_nil _ _)
      have hp := hp.emp_cons (P := rowP 1 (.slice none 0 0) []) (rowP_nil _ _)
      have hp := hp.emp_cons (P := evsP (.slice none 0 0) []) ⟨[], All.two ⟨rfl, rowP_nil _ _⟩ fun i e w h => by simp at h⟩
      exact hn (hp.re 11 [10, 9, 0, 1, 2, 3, 4, 5, 6, 7, 8])
end
end Go.Proofs.YtghcnhimggbobaaGreat
namespace Go.Proofs.YtghcnhimggbobaaGreat
open Go GW Go.Proofs
structure Touch where
  thread : Int
  kind : Int
  at_ : Int
  was : Int
  now : Int
  slot : Int
  gen : Int
  live : Int
def Touch.ints (t : Touch) : List Int := [t.thread, t.kind, t.at_, t.was, t.now, t.slot, t.gen, t.live]
def Touch.enc (t : Touch) : List Value := [i64 t.thread, i64 t.kind, i64 t.at_, i64 t.was, i64 t.now, i64 t.slot, i64 t.gen, i64 t.live]
theorem Touch.ext_ints {a b : Touch} (h : a.ints = b.ints) : a = b := by
  cases a; cases b; simpa [Touch.ints] using h
instance : DecidableEq Touch := fun a b => if h : a.ints = b.ints then .isTrue (Touch.ext_ints h) else .isFalse fun e => h (by rw [e])
theorem Touch.enc_good (t : Touch) : good 8 t.enc := ⟨rfl, rfl⟩
theorem Touch.all_good (ts : List Touch) : ∀ c ∈ ts.map Touch.enc, good 8 c := by
  intro c hc
  obtain ⟨t, _, rfl⟩ := List.mem_map.1 hc
  exact t.enc_good
structure Mc where
  A : Ar
  ths : List Th
  L : List Int
  picks : Int
  ts : List Touch
def Mc.threads : Int → Int → Int → Bool → List (List (List Op)) → List Th
  | _, _, _, _, [] => []
  | i, n, k, pol, t :: ts => Th.new i n k pol t :: Mc.threads (i + 1) n k pol ts
def Mc.new (p : Plan) : Mc := ⟨newAr, Mc.threads 0 p.threads.length p.attempts p.polite p.threads, List.replicate 12 0, 0, []⟩
def Ar.lst (A : Ar) (i : Nat) : Int := A.last.getD i 0
def noteT (A : Ar) (L : List Int) (k : Int) (x : Th) : Touch := ⟨k, A.lst 1, A.lst 2, A.lst 3, A.lst 4, x.ts, x.tg, if 0 ≤ x.ts then L.getD x.ts.toNat 0 else A.lst 7⟩
def Touch.dec (t : Touch) : Option Int :=
  if t.kind ≠ 2 ∨ t.was = t.now ∨ t.at_ < 34 ∨ t.at_ ≠ baseOf ((t.at_ - 34) / 50) ∨ (plainOf t.now).isSome = false then none else
  if t.now = stateW (valOf t.now / 4) 1 then some ((t.at_ - 34) / 50) else none
def decAll (t : Touch) (pick : Int) (xs : List Th) : List Th := match t.dec with
  | some s => xs.map fun x => x.decide s pick
  | none => xs
def Mc.pick (M : Mc) (k : Int) : Mc × Bool × Int :=
  if ¬ (0 ≤ k ∧ k < M.ths.length) ∨ 65536 ≤ M.picks then (M, false, 1900) else
  match M.ths[k.toNat]? with
  | none => (M, false, 1900)
  | some x =>
    let o := x.step M.A M.L M.picks
    let xs := M.ths.set k.toNat o.1
    let t := noteT o.2.2.2.1 o.2.2.2.2 k o.1
    ({ A := o.2.2.2.1, ths := if o.2.1 then decAll t M.picks xs else xs, L := o.2.2.2.2, picks := M.picks + 1, ts := if o.2.1 then M.ts ++ [t] else M.ts }, o.2.1, if o.2.2.1 = 0 then 0 else 1900)
structure Mc.ok (M : Mc) : Prop where
  A : M.A.ok
  l : M.A.lok
  ths : ∀ x ∈ M.ths, x.ok ∧ x.wrs ∧ Short x.evs ∧ x.tsr
  n : M.ths.length ≤ 4
  L : M.L.length = 12
  L2 : ∀ y ∈ M.L, 0 ≤ y ∧ y ≤ M.picks
  p0 : 0 ≤ M.picks
  p1 : M.picks ≤ 65536
  ts : (M.ts.length : Int) ≤ M.picks
theorem newAr_lok : newAr.lok := ⟨by decide, by decide, by constructor <;> decide, by constructor <;> decide, fun h => absurd h (by decide)⟩
theorem Mc.threads_mem : ∀ {ts : List (List (List Op))} {i n k : Int} {pol : Bool} {x : Th}, x ∈ Mc.threads i n k pol ts → ∃ (j : Nat) (t : List (List Op)), ts[j]? = some t ∧ x = Th.new (i + j) n k pol t := by
  intro ts
  induction ts with
  | nil => intro i n k pol x h; cases h
  | cons t ts ih =>
    intro i n k pol x h
    rcases List.mem_cons.1 h with rfl | h
    · exact ⟨0, t, rfl, by simp⟩
    · obtain ⟨j, t', h1, h2⟩ := ih h
      refine ⟨j + 1, t', h1, ?_⟩
      rw [h2]; congr 1; omega
theorem Mc.threads_len : ∀ {ts : List (List (List Op))} {i n k : Int} {pol : Bool}, (Mc.threads i n k pol ts).length = ts.length := by
  intro ts
  induction ts with
  | nil => intros; rfl
  | cons t ts ih => intro i n k pol; simp [Mc.threads, ih]
theorem Plan.may_spec {p : Plan} (h : p.may = true) : 1 ≤ p.threads.length ∧ p.threads.length ≤ 4 ∧ 1 ≤ p.attempts ∧ p.attempts ≤ 16 ∧ ∀ t ∈ p.threads, thrMay t = true := by
  unfold Plan.may at h
  simp only [Bool.and_eq_true, decide_eq_true_eq, List.all_eq_true] at h
  exact ⟨h.1.1, h.1.2.1, h.1.2.2.1, h.1.2.2.2, h.2⟩
theorem Mc.new_ok {p : Plan} (h : p.may = true) : (Mc.new p).ok := by
  obtain ⟨h1, h2, h3, h4, h5⟩ := Plan.may_spec h
  refine ⟨newAr_ok, newAr_lok, fun x hx => ?_, by show (Mc.threads _ _ _ _ _).length ≤ 4; rw [Mc.threads_len]; exact h2, rfl, fun y hy => ?_, Int.le_refl 0, (by show (0 : Int) ≤ 65536; decide), Int.le_refl 0⟩
  · obtain ⟨j, t, e1, rfl⟩ := Mc.threads_mem hx
    have hj := (List.getElem?_eq_some_iff.1 e1).1
    refine ⟨Th.new_ok ⟨by omega, by omega, ⟨h3, h4⟩, h5 t (List.mem_of_getElem? e1)⟩, (fun a h => by cases h), (fun e h => by cases h), ⟨⟨Int.le_refl (-1), by show (-1 : Int) < 12; decide⟩, fun a h => by cases h⟩⟩
  · have : y = 0 := List.eq_of_mem_replicate (n := 12) hy
    subst this
    exact ⟨Int.le_refl 0, Int.le_refl 0⟩
section
variable {A : Ar} {x : Th} {L : List Int} {pick s : Int}
theorem evTurn_mem {es : List Event} {f : Event → Event} {e : Event} (h : e ∈ evTurn es f) : e ∈ es ∨ ∃ e0 ∈ es, e = f e0 := by
  obtain ⟨i, hi, he⟩ := List.mem_iff_getElem.1 h
  obtain ⟨e0, h1, h2⟩ := evTurn_get (show (evTurn es f)[i]? = some e by rw [List.getElem?_eq_getElem hi, he])
  rcases h2 with ⟨rfl, _⟩ | ⟨rfl, _⟩
  · exact .inl (List.mem_of_getElem? h1)
  · exact .inr ⟨e0, List.mem_of_getElem? h1, rfl⟩
theorem Th.answer_short (o : ∀ n, x.att = some n → n.ans.length ≤ 2) (h : Short x.evs) : Short (x.answer pick).evs := by
  unfold Th.answer
  split
  · intro e he
    rcases evTurn_mem he with h1 | ⟨e0, h1, rfl⟩
    · exact h e h1
    · exact h e0 h1
  · intro e he
    rcases evTurn_mem he with h1 | ⟨e0, h1, rfl⟩
    · exact h e h1
    · simp only
      split
      · cases ha : x.att with
        | none => simp
        | some n => exact o n ha
      · exact h e0 h1
theorem Th.act_evs {a : Act} (h : a ≠ .adv) : (x.act A L pick a).1.1.evs = x.evs := by
  have tris : ∀ y : Th, (y.tris A).1.evs = y.evs := fun y => by unfold Th.tris; split <;> rfl
  have taks : ∀ y : Th, (y.taks A L).1.1.evs = y.evs := fun y => by
    unfold Th.taks
    split
    · rw [tris]; rfl
    · simp only
      split
      · rfl
      · split <;> rfl
  cases a with
  | ent =>
    show (x.ents A).1.evs = x.evs
    unfold Th.ents
    cases x.ent with
    | none => rfl
    | some n => simp only; split <;> rfl
  | fre =>
    unfold Th.act Th.fres
    have hc : x.cached.evs = x.evs := by unfold Th.cached; split <;> rfl
    simp only
    split
    · rw [taks, hc]
    · split <;> exact hc
  | tak => exact taks x
  | tri => exact tris x
  | ret => show (x.rets A).1.evs = x.evs; unfold Th.rets; split <;> rfl
  | lea => rfl
  | adv => exact absurd rfl h
theorem Th.act_short {a : Act} (o : x.ok) (h : Short x.evs) : Short (x.act A L pick a).1.1.evs := by
  by_cases e : a = .adv
  · subst e
    unfold Th.act Th.advs
    cases hd : x.adv with
    | none => exact h
    | some d =>
      simp only
      split
      · exact Th.answer_short (x := { x with adv := some (d.step A).1 }) (fun n hn => (o.att n hn).2) h
      · exact h
  · rw [Th.act_evs e]; exact h
theorem Th.ended_evs {r : (Th × Int × Ar) × List Int} : (Th.ended r).1.evs = r.1.1.evs := by unfold Th.ended; split <;> rfl
theorem Th.begin_short (h : Short x.evs) : Short (x.begin pick).1.evs := by
  unfold Th.begin
  split
  · exact h
  · split
    · exact h
    · simp only
      split
      · intro e he
        rcases List.mem_append.1 he with h1 | h1
        · exact h e h1
        · rw [List.mem_singleton.1 h1]; exact Nat.zero_le 2
      · exact h
theorem Th.step_short (o : x.ok) (h : Short x.evs) : Short (x.step A L pick).1.evs := by
  cases hd : x.dead with
  | true => rw [Th.step_dead hd]; exact h
  | false =>
    have o1 : x.z.ok := { o with }
    cases hx : x.next with
    | some a => rw [Th.step_some hd hx, Th.ended_evs]; exact Th.act_short o1 h
    | none =>
      rw [Th.step_none hd hx]
      have b := Th.begin_ok (pick := pick) o1 hx
      have bs := Th.begin_short (pick := pick) (x := x.z) h
      split
      · rw [Th.ended_evs]; exact Th.act_short b.1 bs
      · exact bs
theorem Th.decide_short (h : Short x.evs) : Short (x.decide s pick).evs := by
  unfold Th.decide
  split
  · intro e he
    rcases evTurn_mem he with h1 | ⟨e0, h1, rfl⟩
    · exact h e h1
    · exact h e0 h1
  · exact h
theorem Th.step_lives : (x.step A L pick).2.2.2.2 = L ∨ ∃ s, (x.step A L pick).2.2.2.2 = lived s L := by
  have taks : ∀ y : Th, (y.taks A L).2 = L ∨ ∃ s, (y.taks A L).2 = lived s L := fun y => by
    unfold Th.taks
    split
    · exact .inr ⟨_, rfl⟩
    · simp only
      split
      · exact .inl rfl
      · split
        · exact .inl rfl
        · exact .inr ⟨_, rfl⟩
  have act : ∀ (y : Th) a, (y.act A L pick a).2 = L ∨ ∃ s, (y.act A L pick a).2 = lived s L := fun y a => by
    cases a with
    | fre =>
      unfold Th.act Th.fres
      simp only
      split
      · exact taks _
      · split <;> exact .inl rfl
    | tak => exact taks _
    | _ => exact .inl rfl
  have ended : ∀ r : (Th × Int × Ar) × List Int, (Th.ended r).2.2.2.2 = r.2 := fun r => by unfold Th.ended; split <;> rfl
  cases hd : x.dead with
  | true => rw [Th.step_dead hd]; exact .inl rfl
  | false =>
    cases hx : x.next with
    | some a => rw [Th.step_some hd hx, ended]; exact act _ _
    | none =>
      rw [Th.step_none hd hx]
      split
      · rw [ended]; exact act _ _
      · exact .inl rfl
theorem Th.decide_wrs (h : x.wrs) : (x.decide s pick).wrs := by unfold Th.decide; split <;> exact h
end
theorem decAll_len {t : Touch} {pick : Int} {xs : List Th} : (decAll t pick xs).length = xs.length := by
  unfold decAll; split
  · rw [List.length_map]
  · rfl
theorem Mc.pick_ok {M : Mc} {k : Int} (o : M.ok) : (M.pick k).1.ok := by
  unfold Mc.pick
  split
  · exact o
  · rename_i c
    split
    · exact o
    · rename_i x hx
      have hp : M.picks < 65536 := by omega
      have ox := o.ths x (List.mem_of_getElem? hx)
      have s := Th.step_ok (L := M.L) ox.1 o.A o.p0
      have a := Th.step_acc (L := M.L) (pick := M.picks) ox.1 ox.2.1 o.A
      have hs := Th.step_short (A := M.A) (L := M.L) (pick := M.picks) ox.1 ox.2.2.1
      have ht := Th.step_tsr (A := M.A) (L := M.L) (pick := M.picks) ox.1 ox.2.2.2
      have hl := Th.step_lives (A := M.A) (x := x) (L := M.L) (pick := M.picks)
      generalize x.step M.A M.L M.picks = r at s a hs hl ht
      simp only
      have base : ∀ y ∈ M.ths.set k.toNat r.1, y.ok ∧ y.wrs ∧ Short y.evs ∧ y.tsr := fun y hy => by
        rcases List.mem_or_eq_of_mem_set hy with q | q
        · exact o.ths y q
        · subst q; exact ⟨s.1, a.2, hs, ht⟩
      refine ⟨s.2, a.1.lok o.A o.l, fun y hy => ?_, ?_, ?_, fun y hy => ?_, (by have := o.p0; show 0 ≤ M.picks + 1; omega), (by show M.picks + 1 ≤ 65536; omega), ?_⟩
      · simp only at hy
        split at hy
        · unfold decAll at hy
          split at hy
          · obtain ⟨z, hz, rfl⟩ := List.mem_map.1 hy
            have := base z hz
            exact ⟨Th.decide_ok this.1, Th.decide_wrs this.2.1, Th.decide_short this.2.2.1, Th.decide_tsr this.2.2.2⟩
          · exact base y hy
        · exact base y hy
      · show (if r.2.1 = true then decAll _ _ _ else _ : List Th).length ≤ 4
        have := o.n
        split
        · rw [decAll_len, List.length_set]; exact this
        · rw [List.length_set]; exact this
      · show r.2.2.2.2.length = 12
        have := o.L
        rcases hl with e | ⟨s, e⟩
        · rw [e]; exact this
        · rw [e]; unfold lived; rw [List.length_set]; exact this
      · show 0 ≤ y ∧ y ≤ M.picks + 1
        simp only at hy
        have old : ∀ z ∈ M.L, 0 ≤ z ∧ z ≤ M.picks + 1 := fun z hz => by have := o.L2 z hz; omega
        rcases hl with e | ⟨s, e⟩
        · rw [e] at hy; exact old y hy
        · rw [e] at hy
          unfold lived at hy
          rcases List.mem_or_eq_of_mem_set hy with q | q
          · exact old y q
          · rw [q, List.getD_eq_getElem?_getD]
            have p0 := o.p0
            cases hg : M.L[s.toNat]? with
            | none => simp only [Option.getD_none]; omega
            | some z => have := o.L2 z (List.mem_of_getElem? hg); simp only [Option.getD_some]; omega
      · show ((if r.2.1 = true then M.ts ++ [_] else M.ts : List Touch).length : Int) ≤ M.picks + 1
        have := o.ts
        split
        · simp only [List.length_append, List.length_singleton]; omega
        · omega
attribute [local irreducible] bnd ldV stV ifV binV eqI
set_option maxRecDepth 20000
def mcRow (a : Nat) (tv : Value) (L : List Int) (picks : Int) (xv : Value) : GObj := lvRow 47 16 [ptr a, tv] L [i64 picks, xv]
def mcP (b : Nat) (M : Mc) : Part := fun h => ∃ (a : Nat) (bs : List Nat) (tv xv : Value), All [pts b (mcRow a tv M.L M.picks xv), arP 63 a M.A, rowP 1 tv (bs.map encP), rowP 8 xv (M.ts.map Touch.enc), eachP thP bs M.ths] h
section
variable {a b : Nat} {R : List Part} {h : GH} {K : Value → GH → Prop} {M : Mc}
theorem mcP_open {C : Prop} (hp : All (mcP b M :: R) h) (k : ∀ a bs tv xv, All (pts b (mcRow a tv M.L M.picks xv) :: arP 63 a M.A :: rowP 1 tv (bs.map encP) :: rowP 8 xv (M.ts.map Touch.enc) :: eachP thP bs M.ths :: R) h → C) : C := by
  obtain ⟨a, hp⟩ := All.ex hp
  obtain ⟨bs, hp⟩ := All.ex hp
  obtain ⟨tv, hp⟩ := All.ex hp
  obtain ⟨xv, hp⟩ := All.ex hp
  exact k a bs tv xv (All.flat hp)
theorem mcP_shut {a : Nat} {bs : List Nat} {tv xv : Value} (hp : All (pts b (mcRow a tv M.L M.picks xv) :: arP 63 a M.A :: rowP 1 tv (bs.map encP) :: rowP 8 xv (M.ts.map Touch.enc) :: eachP thP bs M.ths :: R) h) : All (mcP b M :: R) h :=
  (All.fold (l := [_, _, _, _, _]) hp).head fun h1 z => ⟨a, bs, tv, xv, z⟩
theorem lv_ld2 {U : TypeId} {sz n k : Nat} {pre post : List Value} {L : List Int} {v : Value} (hp : All (pts b (lvRow U sz pre L post) :: R) h) (j : Nat) (hv : post[j]? = some v) (hk : k = pre.length + L.length + j) : ldV n false (.pointer (some ⟨b, k, none⟩)) h = some v := by
  rw [ldV_cell hp.pt0, hk, List.getElem?_append_right (by omega), List.getElem?_append_right (by rw [List.length_map]; omega), List.length_map]
  rw [show pre.length + L.length + j - pre.length - L.length = j by omega]
  exact hv
theorem lv_st2 {U : TypeId} {sz k : Nat} {pre post : List Value} {L : List Int} {y : Value} {K : GH → Prop} (hp : All (pts b (lvRow U sz pre L post) :: R) h) (j : Nat) (hj : j < post.length) (hk : k = pre.length + L.length + j) (hy : y.cells.size = 1) (hy2 : y.cells.toList = [y])
    (k' : ∀ h', All (pts b (lvRow U sz pre L (post.set j y)) :: R) h' → K h') (ho : oneCell y = true := by rfl) : bnd (stV 1 (.pointer (some ⟨b, k, none⟩)) y h) K := by
  refine st0 hp (lvRow U sz pre L (post.set j y)) hy (by simp only [List.length_append, List.length_map]; omega) (by rw [hy2]; simp [ho]) ?_ k'
  rw [hy2]
  show GObj.row _ ((pre ++ (L.map i64 ++ post)).set k y) _ _ = _
  rw [hk, List.set_append_right _ _ (by omega), List.set_append_right _ _ (by rw [List.length_map]; omega), List.length_map]
  rw [show pre.length + L.length + j - pre.length - L.length = j by omega]
  rfl
theorem T_StateW {g st : Int} (h0 : 0 ≤ g) (h1 : g < 1099511627776) (h2 : 0 ≤ st) (h3 : st < 4) (hK : K (i64 (stateW g st)) h) : T Tryz.prog 32 [i64 g, i64 st] h K := by
  apply S32_T
  unfold S32
  refine wk ?_
  refine T_Of (by omega) (by omega) ?_
  exact hK
theorem quo4 {x : Int} (h : 0 ≤ x) (h2 : x < 1099511627776) : binV .quo (i64 x) (.int .i64 4) = some (i64 (x / 4)) := quo_nn h (by omega) (by decide)
theorem T_decides {d : Nat} {t : Touch} (hp : All (pts d (.row 39 t.enc 8 true) :: R) h) (a0 : 0 ≤ t.at_) (a1 : t.at_ < 634) (hn : I64 t.now)
    (hK : (∀ s, t.dec = none → K (.tuple #[i64 s, .bool false]) h) ∧ ∀ s, t.dec = some s → K (.tuple #[i64 s, .bool true]) h) : T Tryz.prog 23 [ptr d] h K := by
  apply S23_T
  unfold S23
  obtain ⟨k1, k2⟩ := hK
  unfold Touch.dec at k1 k2
  have hp0 := hp
  unfold Touch.enc at hp
  refine wk ?_
  -- the slot, if there is one
  have hq : ∃ sv, binV .quo (i64 (t.at_ - 34)) (.int .i64 50) = some (i64 sv) ∧ (34 ≤ t.at_ → sv = (t.at_ - 34) / 50) := by
    rcases Int.lt_or_le t.at_ 34 with c | c
    · refine ⟨(t.at_ - 34).tdiv 50, ?_, fun q => by omega⟩
      have hr : (t.at_ - 34).tdiv 50 = 0 := by
        have all : ∀ k : Fin 34, ((k.val : Int) - 34).tdiv 50 = 0 := by decide
        have := all ⟨t.at_.toNat, by omega⟩
        simp only at this
        rw [show ((t.at_.toNat : Nat) : Int) = t.at_ by omega] at this
        exact this
      rw [binV_quo, if_neg (by decide), hr]; rfl
    · exact ⟨(t.at_ - 34) / 50, quo_nn (by omega) (by omega) (by decide), fun _ => rfl⟩
  obtain ⟨sv, q1, q2⟩ := hq
  refine bnd_of q1 ?_
  refine wk ?_
  refine T_Plain hn.2 ?_
  refine wk ?_
  refine ifN_cases (fun c => ?_) fun c => ?_
  · exact k1 _ (by rw [if_pos (.inl c)])
  refine wk ?_
  refine ifV_cases (fun c2 => ?_) fun c2 => ?_
  · exact k1 _ (by rw [if_pos (.inr (.inl c2))])
  refine wk ?_
  refine ifV_cases (fun c3 => ?_) fun c3 => ?_
  · exact k1 _ (by rw [if_pos (.inr (.inr (.inl c3)))])
  have c3 : 34 ≤ t.at_ := by omega
  have q2 := q2 c3
  subst q2
  refine wk ?_
  refine T_Base (by omega) (by omega) ?_
  refine wk ?_
  refine ifN_cases (fun c4 => ?_) fun c4 => ?_
  · exact k1 _ (by rw [if_pos (.inr (.inr (.inr (.inl c4))))])
  cases hpl : plainOf t.now with
  | none =>
    refine wk ?_
    exact k1 _ (by rw [if_pos (.inr (.inr (.inr (.inr (by rw [hpl]; rfl)))))])
  | some v =>
    simp only [Option.getD_some]
    refine wk ?_
    unfold S23_j1
    have hv := plainOf_range hpl
    refine wk ?_
    refine bnd_of (quo4 hv.1 hv.2) ?_
    refine T_StateW (by have := hv.1; omega) (by have := hv.2; omega) (by decide) (by decide) ?_
    refine wk ?_
    have ev : valOf t.now = v := by unfold valOf; rw [hpl]; rfl
    have hno : ¬ (t.kind ≠ 2 ∨ t.was = t.now ∨ t.at_ < 34 ∨ t.at_ ≠ baseOf ((t.at_ - 34) / 50) ∨ (plainOf t.now).isSome = false) := by
      rw [hpl]
      rintro (q | q | q | q | q)
      · exact q c
      · exact c2 q
      · omega
      · exact q c4
      · cases q
    rw [if_neg hno, ev] at k1
    rw [if_neg hno, ev] at k2
    by_cases c5 : t.now = stateW (v / 4) 1
    · rw [decide_eq_true c5]
      exact k2 _ (by rw [if_pos c5])
    · rw [decide_eq_false c5]
      exact k1 _ (by rw [if_neg c5])
end
end Go.Proofs.YtghcnhimggbobaaGreat
namespace Go.Proofs.YtghcnhimggbobaaGreat
open Go GW Go.Proofs
attribute [local irreducible] bnd ldV stV ifV binV eqI
set_option maxRecDepth 20000
theorem list8 {l : List Int} (h : l.length = 8) : ∃ a0 a1 a2 a3 a4 a5 a6 a7, l = [a0, a1, a2, a3, a4, a5, a6, a7] := by
  match l, h with
  | [a0, a1, a2, a3, a4, a5, a6, a7], _ => exact ⟨_, _, _, _, _, _, _, _, rfl⟩
theorem map_part {α : Type} {f : α → α} {l : List α} {i : Nat} {x : α} (h : l[i]? = some x) : ((l.take i).map f ++ l.drop i).set i (f x) = (l.take (i + 1)).map f ++ l.drop (i + 1) := by
  have hi := (List.getElem?_eq_some_iff.1 h).1
  have e : l.drop i = x :: l.drop (i + 1) := by
    rw [List.drop_eq_getElem_cons hi]
    rw [List.getElem?_eq_getElem hi] at h; cases h; rfl
  have hl : ((l.take i).map f).length = i := by rw [List.length_map, List.length_take]; omega
  rw [List.set_append_right _ _ (by omega), hl, Nat.sub_self, e, List.set_cons_zero, List.take_add_one, h, List.map_append, List.append_assoc]; rfl
theorem map_part_get {α : Type} {f : α → α} {l : List α} {i : Nat} {x : α} (h : l[i]? = some x) : ((l.take i).map f ++ l.drop i)[i]? = some x := by
  have hi := (List.getElem?_eq_some_iff.1 h).1
  have hl : ((l.take i).map f).length = i := by rw [List.length_map, List.length_take]; omega
  rw [List.getElem?_append_right (by omega), hl, Nat.sub_self, List.getElem?_drop]; exact h
section
variable {a b : Nat} {R : List Part} {h : GH} {K : Value → GH → Prop} {M : Mc} {bs : List Nat} {xs : List Th} {tv xv : Value} {L : List Int} {picks : Int} {ts : List Touch} {A : Ar}
theorem T_note {k : Nat} {x : Th} (hp : All (pts b (mcRow a tv L picks xv) :: arP 63 a A :: rowP 1 tv (bs.map encP) :: rowP 8 xv (ts.map Touch.enc) :: eachP thP bs xs :: R) h) (hx : xs[k]? = some x) (tr : x.tsr) (hL : L.length = 12) (lok : A.lok) (hm : ts.length ≤ 100000) (oe : ∀ y ∈ xs, y.evs.length ≤ 8) (hn4 : xs.length ≤ 4)
    (hK : ∀ xv' h', All (pts b (mcRow a tv L picks xv') :: arP 63 a A :: rowP 1 tv (bs.map encP) :: rowP 8 xv' ((ts ++ [noteT A L k x]).map Touch.enc) :: eachP thP bs (decAll (noteT A L k x) picks xs) :: R) h' → K (.tuple #[]) h') : T Tryz.prog 15 [ptr b, i64 k] h K := by
  apply S15_T
  unfold S15
  have hA := (arP.at (hn (hp.up 1))).2
  obtain ⟨l0, l1, l2, l3, l4, l5, l6, l7, el⟩ := list8 hA.touch
  have lok' := lok
  have bl : bs.length = xs.length := All.case (hn (hp.up 4)) fun h1 p _ => eachP_len p
  have kl : k < xs.length := (List.getElem?_eq_some_iff.1 hx).1
  obtain ⟨tb, htb⟩ : ∃ tb, bs[k]? = some tb := ⟨_, List.getElem?_eq_getElem (by omega)⟩
  unfold mcRow lvRow at hp
  refine wk ?_
  refine T_Last (hn (hp.up 1)) ?_
  refine wk ?_
  rw [el]
  refine nwst hp (.row 39 [i64 l0, i64 l1, i64 l2, i64 l3, i64 l4, i64 l5, i64 l6, i64 l7] 8 true) rfl rfl rfl rfl fun d h1 hp => ?_
  refine wk ?_
  refine st0 hp (.row 39 [i64 k, i64 l1, i64 l2, i64 l3, i64 l4, i64 l5, i64 l6, i64 l7] 8 true) rfl (by simp) rfl rfl fun h2 hp => ?_
  refine wk ?_
  obtain ⟨p, e1, e2⟩ := (All.rows (hn (hp.up 3))).get1 (i := k) (x := ptr tb) (by rw [List.getElem?_map, htb]; rfl) .i64
  refine bnd_of e1 (bnd_of e2 ?_)
  refine T_thThrough (eachP_at htb hx (hn (hp.up 5))) ?_
  refine wk ?_
  refine st0 hp (.row 39 [i64 k, i64 l1, i64 l2, i64 l3, i64 l4, i64 x.ts, i64 l6, i64 l7] 8 true) rfl (by simp) rfl rfl fun h3 hp => ?_
  refine wk ?_
  refine st0 hp (.row 39 [i64 k, i64 l1, i64 l2, i64 l3, i64 l4, i64 x.ts, i64 x.tg, i64 l7] 8 true) rfl (by simp) rfl rfl fun h4 hp => ?_
  refine wk ?_
  have j1 : ∀ h', All (pts d (.row 39 (noteT A L k x).enc 8 true) :: pts b (mcRow a tv L picks xv) :: arP 63 a A :: rowP 1 tv (bs.map encP) :: rowP 8 xv (ts.map Touch.enc) :: eachP thP bs xs :: R) h' → S15_j1 (ptr b) (ptr d) h' K := by
    intro h' hp
    have ta : (noteT A L k x).at_ = l2 := by show A.last.getD 2 0 = l2; rw [el]; rfl
    have tn : (noteT A L k x).now = l4 := by show A.last.getD 4 0 = l4; rw [el]; rfl
    have k1 := lok.at0; have k2 := lok.at1; have k3 := lok.now
    rw [el] at k1 k2 k3
    generalize noteT A L k x = t at hp hK ta tn
    unfold S15_j1
    refine wk ?_
    have ld15 : ∀ {h'} {R'} {xv}, All (pts b (mcRow a tv L picks xv) :: R') h' → ldV 1 false (.pointer (some ⟨b, 0 + 15, none⟩)) h' = some xv := fun hp => lv_ld2 hp 1 rfl (by rw [hL]; rfl)
    have ld14 : ∀ {h'} {R'} {xv}, All (pts b (mcRow a tv L picks xv) :: R') h' → ldV 1 false (.pointer (some ⟨b, 0 + 14, none⟩)) h' = some (i64 picks) := fun hp => lv_ld2 hp 0 rfl (by rw [hL]; rfl)
    refine bnd_of (ld15 (hn (hp.up 1))) ?_
    refine la0 hp (c := t.enc) (Nat.le_refl 8) rfl ?_
    refine bs0 (size := 8) hp ([t].map Touch.enc) rfl rfl (by simp) (Touch.all_good _) fun sv h5 hp => ?_
    have r2 := hp.rows
    refine ap0 (hn (hp.up 5)) r2 (Touch.all_good _) (by decide) (by simp only [List.length_map, List.length_cons, List.length_nil]; omega) fun xv' h6 hp => ?_
    rw [← List.map_append] at hp
    obtain ⟨ad, ln, cap, rfl⟩ := All.isSlice hp
    replace hp := hn (hp.re 7 [3, 2, 4, 5, 0, 6])
    refine wk ?_
    unfold mcRow at hp
    refine lv_st2 hp 1 (by simp) (by rw [hL]; rfl) rfl rfl fun h7 hp => ?_
    replace hp : All (pts b (mcRow a tv L picks (.slice ad ln cap)) :: _) h7 := hp
    replace hp := hn (hp.re 2 [1, 0])
    refine T_decides hp (by rw [ta]; exact k1) (by rw [ta]; exact k2) (by rw [tn]; exact k3) ⟨fun s hd => ?_, fun s hd => ?_⟩
    · unfold decAll at hK
      rw [hd] at hK
      refine wk ?_
      exact hK _ _ hp.tail
    · unfold decAll at hK
      rw [hd] at hK
      dsimp only at hK
      replace hp := hp.tail
      unfold mcRow lvRow at hp
      refine wk ?_
      have htl : lnV tv = some (i64 xs.length) := by have := All.len (hn (hp.up 2)); rw [List.length_map, bl] at this; exact this
      refine bnd_of htl ?_
      refine Lfp_fam (ι := Nat) (fun i => [ptr b, i64 s, tv, i64 xs.length, i64 i]) (fun i h' => i ≤ xs.length ∧ All (pts b (mcRow a tv L picks (.slice ad ln cap)) :: arP 63 a A :: rowP 1 tv (bs.map encP) :: rowP 8 (.slice ad ln cap) ((ts ++ [t]).map Touch.enc) :: eachP thP bs ((xs.take i).map (fun x => x.decide s picks) ++ xs.drop i) :: R) h') (fun i => xs.length - i) ?_ 0 h7 ⟨by omega, hp⟩
      clear hp
      rintro i h8 X ⟨hi, hp⟩ again
      simp only [tup_zero, tup_succ]
      refine wk ?_
      refine ifV_cases (fun c => ?_) fun c => ?_
      · obtain ⟨y, hy⟩ : ∃ y, xs[i]? = some y := ⟨_, List.getElem?_eq_getElem (by omega)⟩
        obtain ⟨yb, hyb⟩ : ∃ yb, bs[i]? = some yb := ⟨_, List.getElem?_eq_getElem (by omega)⟩
        obtain ⟨p, e1, e2⟩ := (All.rows (hn (hp.up 2))).get1 (i := i) (x := ptr yb) (by rw [List.getElem?_map, hyb]; rfl) .i64
        refine bnd_of e1 (bnd_of e2 ?_)
        refine wk ?_
        refine bnd_of (ld14 hp) ?_
        have hy2 := map_part_get (f := fun x : Th => x.decide s picks) hy
        refine T_thDecide (eachP_at hyb hy2 (hn (hp.up 4))) (oe y (List.mem_of_getElem? hy)) fun h9 hp => ?_
        have hp := eachP_put (b := y.decide s picks) hyb (by simp only [List.length_append, List.length_map, List.length_take, List.length_drop]; omega) hp
        rw [map_part (f := fun x : Th => x.decide s picks) hy] at hp
        refine wk ?_
        exact again (i + 1) _ ⟨by omega, hn (hp.re 5 [1, 2, 3, 4, 0])⟩ (by omega)
      · have : i = xs.length := by omega
        subst this
        rw [List.take_length, List.drop_length, List.append_nil] at hp
        exact hK _ _ hp
  have tr0 := tr.1.1; have tr1 := tr.1.2
  have hp0 : All (pts d (.row 39 [i64 k, i64 l1, i64 l2, i64 l3, i64 l4, i64 x.ts, i64 x.tg, i64 l7] 8 true) :: pts b (mcRow a tv L picks xv) :: arP 63 a A :: rowP 1 tv (bs.map encP) :: rowP 8 xv (ts.map Touch.enc) :: eachP thP bs xs :: R) h4 := hp
  refine ifV_cases (fun c => ?_) fun c => ?_
  · obtain ⟨n, en⟩ := Int.eq_ofNat_of_zero_le c
    refine wk ?_
    rw [en]
    refine bnd_of (iaV_at (by omega) .i64) ?_
    have hl : ldV 1 false (.pointer (some ⟨b, 2 + n * 1, none⟩)) h4 = some (i64 (L.getD n 0)) := lv_ld (pre := [ptr a, tv]) (hn (hp0.up 1)) (by omega)
    refine bnd_of hl ?_
    refine wk ?_
    refine st0 hp (.row 39 [i64 k, i64 l1, i64 l2, i64 l3, i64 l4, i64 x.ts, i64 x.tg, i64 (L.getD n 0)] 8 true) rfl (by simp) rfl (by rw [en]; rfl) fun h5 hp => ?_
    refine j1 _ ?_
    have e : (noteT A L k x).enc = [i64 k, i64 l1, i64 l2, i64 l3, i64 l4, i64 x.ts, i64 x.tg, i64 (L.getD n 0)] := by
      unfold noteT Ar.lst Touch.enc
      rw [el, if_pos c, en]; rfl
    rw [e]
    exact hp
  · refine j1 _ ?_
    have e : (noteT A L k x).enc = [i64 k, i64 l1, i64 l2, i64 l3, i64 l4, i64 x.ts, i64 x.tg, i64 l7] := by
      unfold noteT Ar.lst Touch.enc
      rw [el, if_neg c]; rfl
    rw [e]
    exact hp
end
end Go.Proofs.YtghcnhimggbobaaGreat
namespace Go.Proofs.YtghcnhimggbobaaGreat
open Go GW Go.Proofs
attribute [local irreducible] bnd ldV stV ifV binV eqI
set_option maxRecDepth 20000
section
variable {a b : Nat} {R : List Part} {h : GH} {K : Value → GH → Prop} {M : Mc} {k : Int}
theorem Mc.pick_no (c : ¬ (0 ≤ k ∧ k < M.ths.length) ∨ 65536 ≤ M.picks) : M.pick k = (M, false, 1900) := by unfold Mc.pick; rw [if_pos c]
theorem Mc.pick_yes {n : Nat} {x : Th} (hx : M.ths[n]? = some x) (hp : M.picks < 65536) : M.pick n =
    ({ A := (x.step M.A M.L M.picks).2.2.2.1, ths := if (x.step M.A M.L M.picks).2.1 then decAll (noteT (x.step M.A M.L M.picks).2.2.2.1 (x.step M.A M.L M.picks).2.2.2.2 n (x.step M.A M.L M.picks).1) M.picks (M.ths.set n (x.step M.A M.L M.picks).1) else M.ths.set n (x.step M.A M.L M.picks).1, L := (x.step M.A M.L M.picks).2.2.2.2, picks := M.picks + 1, ts := if (x.step M.A M.L M.picks).2.1 then M.ts ++ [noteT (x.step M.A M.L M.picks).2.2.2.1 (x.step M.A M.L M.picks).2.2.2.2 n (x.step M.A M.L M.picks).1] else M.ts }, (x.step M.A M.L M.picks).2.1, if (x.step M.A M.L M.picks).2.2.1 = 0 then 0 else 1900) := by
  have hn := (List.getElem?_eq_some_iff.1 hx).1
  unfold Mc.pick
  rw [if_neg (by omega)]
  simp only [Int.toNat_natCast, hx]
theorem Th.ok.evs8 {x : Th} (o : x.ok) : x.evs.length ≤ 8 := by have := o.evs; have := thrMay_spec o.txns; omega
theorem T_mPick (hp : All (mcP b M :: R) h) (o : M.ok) (hK : ∀ h', All (mcP b (M.pick k).1 :: R) h' → K (.tuple #[.bool (M.pick k).2.1, i64 (M.pick k).2.2]) h') : T Tryz.prog 7 [ptr b, i64 k] h K := by
  apply S7_T
  unfold S7
  refine wk ?_
  have hp00 := hp
  refine mcP_open hp fun a bs tv xv hp => ?_
  have bl : bs.length = M.ths.length := All.case (hn (hp.up 4)) fun h1 p _ => eachP_len p
  have ld14 : ∀ {h'} {R'} {L : List Int} {xv}, L.length = 12 → All (pts b (mcRow a tv L M.picks xv) :: R') h' → ldV 1 false (.pointer (some ⟨b, 0 + 14, none⟩)) h' = some (i64 M.picks) := fun hL hp => lv_ld2 hp 0 rfl (by rw [hL]; rfl)
  have hp0 := hp
  unfold mcRow lvRow at hp
  refine wk ?_
  have htl : lnV tv = some (i64 M.ths.length) := by have := All.len (hn (hp.up 2)); rw [List.length_map, bl] at this; exact this
  refine bnd_of htl ?_
  refine T_Below ?_
  refine wk ?_
  refine ifN_cases (fun c => ?_) fun c => ?_
  · rw [Mc.pick_no (.inl c)] at hK
    exact hK _ hp00
  refine wk ?_
  refine bnd_of (ld14 o.L hp0) ?_
  refine wk ?_
  refine ifV_cases (fun c2 => ?_) fun c2 => ?_
  · rw [Mc.pick_no (.inr c2)] at hK
    exact hK _ hp00
  obtain ⟨n, rfl⟩ := Int.eq_ofNat_of_zero_le c.1
  have hn0 : n < M.ths.length := by omega
  obtain ⟨x, hx⟩ : ∃ x, M.ths[n]? = some x := ⟨_, List.getElem?_eq_getElem hn0⟩
  obtain ⟨tb, htb⟩ : ∃ tb, bs[n]? = some tb := ⟨_, List.getElem?_eq_getElem (by omega)⟩
  rw [Mc.pick_yes hx (by omega)] at hK
  have ox := o.ths x (List.mem_of_getElem? hx)
  have s := Th.step_ok (L := M.L) ox.1 o.A o.p0
  have ac := Th.step_acc (L := M.L) (pick := M.picks) ox.1 ox.2.1 o.A
  have trs := Th.step_tsr (A := M.A) (L := M.L) (pick := M.picks) ox.1 ox.2.2.2
  have hl := Th.step_lives (A := M.A) (x := x) (L := M.L) (pick := M.picks)
  have hlok := ac.1.lok o.A o.l
  unfold S7_j1
  refine wk ?_
  obtain ⟨p, e1, e2⟩ := (All.rows (hn (hp.up 2))).get1 (i := n) (x := ptr tb) (by rw [List.getElem?_map, htb]; rfl) .i64
  refine bnd_of e1 (bnd_of e2 ?_)
  refine wk ?_
  refine bnd_of (ld14 o.L hp0) ?_
  have p0 := o.p0
  have hLok : Lok M.L := ⟨o.L, fun y hy => by have := o.L2 y hy; have := o.p1; omega⟩
  have hp1 := eachP_at htb hx (hn (hp0.up 4))
  replace hp1 : All (arP 63 a M.A :: pts b (lvRow 47 16 [ptr a, tv] M.L [i64 M.picks, xv]) :: thP tb x :: eachP thP (bs.eraseIdx n) (M.ths.eraseIdx n) :: rowP 1 tv (bs.map encP) :: rowP 8 xv (M.ts.map Touch.enc) :: R) h := hn (hp1.re 6 [3, 2, 0, 1, 4, 5])
  refine T_thStep hp1 ox.1 hLok p0 fun h1 hp => ?_
  clear hp1 hp0
  generalize x.step M.A M.L M.picks = r at hp hK s ac trs hl hlok
  obtain ⟨x', is, code, A', L'⟩ := r
  dsimp only at hp hK s ac trs hl hlok ⊢
  have hL' : L'.length = 12 := by
    rcases hl with e | ⟨s, e⟩
    · rw [e]; exact o.L
    · rw [e]; unfold lived; rw [List.length_set]; exact o.L
  have hp2 := eachP_put (b := x') htb hn0 (hn (hp.re 4 [2, 3, 0, 1]))
  replace hp2 : All (pts b (mcRow a tv L' M.picks xv) :: arP 63 a A' :: rowP 1 tv (bs.map encP) :: rowP 8 xv (M.ts.map Touch.enc) :: eachP thP bs (M.ths.set n x') :: R) h1 := hn (hp2.re 5 [2, 1, 3, 4, 0])
  clear hp
  have j2 : ∀ (xv' : Value) (ths : List Th) (ts : List Touch) h', (∀ h'', All (mcP b ⟨A', ths, L', M.picks + 1, ts⟩ :: R) h'' → K (.tuple #[.bool is, i64 (if code = 0 then 0 else 1900)]) h'') → All (pts b (mcRow a tv L' M.picks xv') :: arP 63 a A' :: rowP 1 tv (bs.map encP) :: rowP 8 xv' (ts.map Touch.enc) :: eachP thP bs ths :: R) h' → S7_j2 (ptr b) (.bool is) (i64 code) h' K := by
    intro xv' ths ts h' hK hp
    unfold S7_j2
    refine wk ?_
    refine bnd_of (ld14 hL' hp) ?_
    refine wk ?_
    unfold mcRow at hp
    refine lv_st2 hp 0 (by simp) (by rw [hL']; rfl) rfl rfl fun h2 hp => ?_
    replace hp : All (pts b (mcRow a tv L' (M.picks + 1) xv') :: _) h2 := hp
    have := hK _ (mcP_shut (M := ⟨A', ths, L', M.picks + 1, ts⟩) hp)
    refine wk ?_
    by_cases c : code = 0
    · rw [if_pos c] at this
      rw [decide_eq_true c]
      refine wk ?_
      exact this
    · rw [if_neg c] at this
      rw [decide_eq_false c]
      refine wk ?_
      exact this
  refine wk ?_
  have hx2 : (M.ths.set n x')[n]? = some x' := List.getElem?_set_self hn0
  cases is with
  | false =>
    refine wk ?_
    exact j2 xv _ _ _ hK hp2
  | true =>
    refine wk ?_
    refine T_note hp2 hx2 trs hL' hlok (by have := o.ts; have := o.p1; omega) (fun y hy => ?_) (by rw [List.length_set]; exact o.n) fun xv' h2 hp => ?_
    · rcases List.mem_or_eq_of_mem_set hy with q | q
      · exact (o.ths y q).1.evs8
      · subst q; exact s.1.evs8
    · exact j2 xv' _ _ _ hK hp
end
end Go.Proofs.YtghcnhimggbobaaGreat
namespace Go.Proofs.YtghcnhimggbobaaGreat
open Go GW Go.Proofs
attribute [local irreducible] bnd ldV stV ifV binV eqI
set_option maxRecDepth 20000
theorem Mc.threads_snoc : ∀ {ts : List (List (List Op))} {i n k : Int} {pol : Bool} {t : List (List Op)}, Mc.threads i n k pol (ts ++ [t]) = Mc.threads i n k pol ts ++ [Th.new (i + ts.length) n k pol t] := by
  intro ts
  induction ts with
  | nil => intro i n k pol t; simp [Mc.threads]
  | cons x ts ih =>
    intro i n k pol t
    show Th.new i n k pol x :: Mc.threads (i + 1) n k pol (ts ++ [t]) = _
    rw [ih]
    show _ = Th.new i n k pol x :: (Mc.threads (i + 1) n k pol ts ++ _)
    congr 4
    simp only [List.length_cons]; omega
section
variable {a b : Nat} {R : List Part} {h g : GH} {K : Value → GH → Prop} {M : Mc} {k : Int} {v : Value} {p : Plan}
theorem T_mNew (hp : All R h) (hg : ∀ h', All R h' → HLe g h') (ht : threadsAt g v p.threads) (kn : p.may = false → ∀ h', All R h' → K (.tuple #[.pointer none, i64 1900]) h')
    (ky : p.may = true → ∀ b h', All (mcP b (Mc.new p) :: R) h' → K (.tuple #[ptr b, i64 0]) h') : T Tryz.prog 5 [.agg (planC v p).toArray] h K := by
  apply S5_T
  unfold S5
  refine nw hp (.row 24 (planC v p) 3 true) rfl fun d h1 hp => ?_
  refine la0 hp (c := planC v p) (Nat.le_refl 3) rfl ?_
  refine T_scriptMay (ht.le (hg _ hp.tail)) ?_
  refine wk ?_
  cases hm : p.may with
  | false => refine wk ?_; exact kn hm _ hp.tail
  | true =>
    refine wk ?_
    have ky := ky hm
    obtain ⟨m1, m2, m3, m4, m5⟩ := Plan.may_spec hm
    refine T_arenaNew hp fun a h2 hp => ?_
    refine wk ?_
    refine nw hp (mcRow a (.slice none 0 0) (List.replicate 12 0) 0 (.slice none 0 0)) rfl fun b h3 hp => ?_
    replace hp := hn (hp.re 3 [2, 0, 1])
    unfold planC at hp
    refine wk ?_
    have hlen : lnV v = some (i64 p.threads.length) := by
      obtain ⟨es, r, a2⟩ := ht
      have := r.len
      rw [a2.1] at this; exact this
    refine bnd_of hlen ?_
    refine Lfp_fam (ι := Nat × List Nat × Value) (fun q => [ptr d, ptr b, v, i64 p.threads.length, i64 q.1]) (fun q h' => q.1 ≤ p.threads.length ∧ q.2.1.length = q.1 ∧ All (pts d (.row 24 [v, i64 p.attempts, .bool p.polite] 3 true) :: pts b (mcRow a q.2.2 (List.replicate 12 0) 0 (.slice none 0 0)) :: arP 63 a newAr :: rowP 1 q.2.2 (q.2.1.map encP) :: eachP thP q.2.1 (Mc.threads 0 p.threads.length p.attempts p.polite (p.threads.take q.1)) :: R) h') (fun q => p.threads.length - q.1) ?_ (0, [], .slice none 0 0) h3 ⟨by simp, rfl, ?_⟩
    rotate_left
    · have z1 := All.emp_cons (P := eachP thP [] (Mc.threads 0 p.threads.length p.attempts p.polite (p.threads.take 0))) hp (by exact trivial)
      have z2 := All.emp_cons (P := rowP 1 (.slice none 0 0) []) z1 (rowP_nil _ _)
      exact hn (z2.re 5 [2, 3, 4, 0, 1])
    clear hp
    rintro ⟨i, bs, tv⟩ h4 X ⟨hi, hbl, hp⟩ again
    simp only at hi hbl hp
    simp only [tup_zero, tup_succ]
    refine wk ?_
    refine ifV_cases (fun c => ?_) fun c => ?_
    · obtain ⟨t, hti⟩ : ∃ t, p.threads[i]? = some t := ⟨_, List.getElem?_eq_getElem (by omega)⟩
      obtain ⟨es0, r0, a0⟩ := ht
      obtain ⟨c0, hc0, w, cs, rfl, rw_, aw⟩ := a0.get hti
      have hgR : ∀ {h'} {P1 P2 P3 P4 P5 : Part}, All (P1 :: P2 :: P3 :: P4 :: P5 :: R) h' → HLe g h' := fun hp => hg _ hp.tail.tail.tail.tail.tail
      obtain ⟨q, d1, d2⟩ := (r0.le (hgR hp)).get1 hc0 .i64
      refine bnd_of d1 (bnd_of d2 ?_)
      refine wk ?_
      refine bnd_of hlen ?_
      refine wk ?_
      refine T_thNew (ts := t) (cs0 := cs) hp (fun h' hp => ⟨rw_.le (hgR hp), aw.mono fun x y z => z.le (hgR hp)⟩) (fun m => ?_) fun _ tb h5 hp => ?_
      · exact absurd ⟨⟨by omega, by omega⟩, ⟨by omega, by omega⟩, ⟨m3, m4⟩, m5 t (List.mem_of_getElem? hti)⟩ m
      replace hp := hn (hp.re 3 [2, 1, 0])
      unfold mcRow lvRow at hp
      refine wk ?_
      replace hp := hn (hp.re 5 [4, 0, 1, 2, 3])
      refine bs0 (size := 1) hp ([tb].map encP) rfl rfl (by simp) (encP_good _) fun sv h6 hp => ?_
      have r2 := hp.rows
      refine ap0 (hn (hp.up 1)) r2 (encP_good _) (by decide) (by simp only [List.length_map, List.length_cons, List.length_nil]; omega) fun tv' h7 hp => ?_
      obtain ⟨ad, ln, cap, rfl⟩ := All.isSlice hp
      rw [← List.map_append] at hp
      replace hp := hn (hp.re 7 [2, 0, 3, 4, 5, 6])
      refine wk ?_
      refine st0 hp (mcRow a (.slice ad ln cap) (List.replicate 12 0) 0 (.slice none 0 0)) rfl (by simp) rfl rfl fun h8 hp => ?_
      refine wk ?_
      refine again (i + 1, bs ++ [tb], .slice ad ln cap) _ ⟨by simp only; omega, by simp [hbl], ?_⟩ (by simp only; omega)
      have hp := eachP_snoc (hn (hp.re 6 [3, 5, 0, 1, 2, 4]))
      have e1 : p.threads.take (i + 1) = p.threads.take i ++ [t] := by rw [List.take_add_one, hti]; rfl
      have e2 : Mc.threads 0 p.threads.length p.attempts p.polite (p.threads.take i) ++ [Th.new i p.threads.length p.attempts p.polite t] = Mc.threads 0 p.threads.length p.attempts p.polite (p.threads.take (i + 1)) := by
        rw [e1, Mc.threads_snoc, List.length_take]; congr 3; omega
      rw [e2] at hp
      exact hn (hp.re 5 [3, 1, 4, 2, 0])
    · have hie : i = p.threads.length := by omega
      subst hie
      rw [List.take_length] at hp
      have z1 := All.emp_cons (P := rowP 8 (.slice none 0 0) []) hp (rowP_nil _ _)
      exact ky b _ (mcP_shut (M := Mc.new p) (hn (z1.re 6 [2, 3, 4, 0, 5])))
theorem T_CloneTouchs {v : Value} {xs : List Touch} (hp : All R h) (hr : ∀ h', All R h' → rowsAt h' 8 v (xs.map Touch.enc)) (hb : xs.length ≤ 100000) (hK : ∀ v' h', All (rowP 8 v' (xs.map Touch.enc) :: R) h' → K v' h') : T Tryz.prog 16 [v] h K := by
  apply S16_T
  unfold S16
  have r := hr _ hp
  obtain ⟨ad, n, cap, rfl, hl, h1, h2, hx⟩ := r
  rw [List.length_map] at hl
  cases ad with
  | none =>
    have hx0 : xs = [] := by
      cases xs with
      | nil => rfl
      | cons y ys =>
        obtain ⟨bb, off, T, pre, sz, f, e, _⟩ := hx 0 y.enc rfl
        cases e
    subst hx0
    have n0 : n = 0 := hl.symm
    subst n0
    by_cases hc : cap = 0
    · subst hc
      refine wk ?_
      exact hK _ _ (hp.emp_cons (rowP_nil 8 _))
    · refine wk ?_
      exact hK _ _ (hp.emp_cons (rowP_nil 8 _))
  | some q =>
    refine wk ?_
    refine bs0 (size := 8) hp [] rfl rfl (by simp) (fun c hc => by cases hc) fun nv h1 hp => ?_
    have hr := hr _ hp.tail
    refine ap0 hp hr (Touch.all_good xs) (by decide) (by simp only [List.length_map, List.length_nil]; omega) fun nv' h2 hp => ?_
    exact hK _ _ hp
theorem T_mTouches (hp : All (mcP b M :: R) h) (o : M.ok) (hK : ∀ v' h', All (rowP 8 v' (M.ts.map Touch.enc) :: mcP b M :: R) h' → K v' h') : T Tryz.prog 8 [ptr b] h K := by
  apply S8_T
  unfold S8
  refine wk ?_
  refine mcP_open hp fun a bs tv xv hp => ?_
  have e : ldV 1 false (.pointer (some ⟨b, 0 + 15, none⟩)) h = some xv := lv_ld2 hp 1 rfl (by rw [o.L]; rfl)
  refine wk ?_
  refine bnd_of e ?_
  have p1 := o.p1; have ts := o.ts
  refine T_CloneTouchs (xs := M.ts) hp (fun h' hp => All.rows (hn (hp.up 3))) (by omega) fun v' h2 hp => ?_
  refine hK _ _ ?_
  have := mcP_shut (M := M) (hn (hp.re 6 [1, 2, 3, 4, 5, 0]))
  exact hn (this.re 2 [1, 0])
end
end Go.Proofs.YtghcnhimggbobaaGreat
namespace Go.Proofs.YtghcnhimggbobaaGreat
open Go GW Go.Proofs
set_option maxRecDepth 20000
theorem All.baseLe {g : GH} {R : List Part} {h : GH} (hp : All (baseP g :: R) h) : HLe g h := by
  obtain ⟨h1, h2, d, l1, l2, p, q⟩ := hp
  exact HLe.trans p l1
section
variable {a b : Nat} {R : List Part} {h g : GH} {K : Value → GH → Prop} {M : Mc} {k : Int} {v : Value} {p : Plan}
end
theorem Event.ext8 {a b : Event} : a = b ↔ a.thread = b.thread ∧ a.index = b.index ∧ a.begun = b.begun ∧ a.decided = b.decided ∧ a.answered = b.answered ∧ a.end_ = b.end_ ∧ a.attempts = b.attempts ∧ a.answers = b.answers := by
  cases a; cases b; simp
instance : DecidableEq Event := fun a b => decidable_of_iff _ Event.ext8.symm
section
variable {a b : Nat} {R : List Part} {h g : GH} {K : Value → GH → Prop} {v w : Value} {es fs : List Event} {us ws : List Value}
end
structure Dw where
  g : Int
  ds : List Sw
  rq : Prop
structure Stk where
  q : Int
  fs : List Fr
def mw (s g : Int) : Int := (Form.mcas s g).number
def ew (s g : Int) (n : Nat) (t q : Int) : Int := (Form.entry s g n t q).number
def Held (A : Ar) (s : Int) (d : Dw) (n : Nat) : Prop := ∀ (j : Nat) e, j < n → d.ds[j]? = some e → A.at e.c = mw s d.g
def DOk (A : Ar) (s : Int) (d : Dw) : Prop := Life s d.g ∧ swMay d.ds = true ∧ ∃ st : Int, (0 ≤ st ∧ st < 3) ∧ Dsc A s d.g st d.ds
def Opn (A : Ar) (s : Int) (d : Dw) : Prop := A.at (baseOf s) = stateW d.g 0
def Won (A : Ar) (s : Int) (d : Dw) : Prop := A.at (baseOf s) = stateW d.g 1
structure Ix (d : Dw) (w : Wh) (n : Nat) (e : Sw) : Prop where
  i : w.i = n
  k : w.k = d.ds.length
  e : d.ds[n]? = some e
def Pu (A : Ar) (t q : Int) (d : Dw) (w : Wh) (n : Nat) : Prop := (Opn A w.s d → A.at w.cell = w.put ∨ A.at w.cell = mw w.s d.g) ∧ ∃ q', w.put = ew w.s d.g n t q' ∧ 0 ≤ q' ∧ q' < q
def Ph (D : Int → Option Dw) (L : Prop) (A : Ar) (t q : Int) (d : Dw) (w : Wh) : Prop :=
  match w.pc with
  | 1 => True
  | 2 => True
  | 3 => ∃ n e, Ix d w n e ∧ (Opn A w.s d → Held A w.s d n)
  | 4 => ∃ n e, Ix d w n e ∧ (Opn A w.s d → Held A w.s d n) ∧ w.cell = e.c
  | 5 => ∃ n e, Ix d w n e ∧ (Opn A w.s d → Held A w.s d n) ∧ w.cell = e.c ∧ w.was = e.w * 4
  | 6 => ∃ n e, Ix d w n e ∧ (Opn A w.s d → Held A w.s d n) ∧ w.cell = e.c ∧ w.was = e.w * 4 ∧ Pu A t q d w n
  | 7 => ∃ n e, Ix d w n e ∧ (Opn A w.s d → Held A w.s d n) ∧ w.cell = e.c ∧ w.was = e.w * 4 ∧ Pu A t q d w n ∧ (w.opn = true → A.at w.cell = w.put → ¬ Won A w.s d) ∧ (w.opn = false → ¬ Opn A w.s d)
  | 8 => Opn A w.s d → Held A w.s d d.ds.length
  | 9 => Opn A w.s d → L
  | 10 => ¬ Opn A w.s d ∧ (w.won = true ↔ Won A w.s d)
  | 11 => ∃ n e, Ix d w n e ∧ ¬ Opn A w.s d ∧ (w.won = true ↔ Won A w.s d)
  | 12 => ∃ n e, Ix d w n e ∧ ¬ Opn A w.s d ∧ (w.won = true ↔ Won A w.s d) ∧ w.cell = e.c
  | 13 => ∃ n e, Ix d w n e ∧ ¬ Opn A w.s d ∧ (w.won = true ↔ Won A w.s d) ∧ w.cell = e.c ∧ w.x = (if w.won then e.n else e.w) * 4
  | 14 => ∃ n e, Ix d w n e ∧ (Opn A w.s d → Held A w.s d n) ∧ w.cell = e.c ∧ w.was = e.w * 4 ∧ ∃ s' d', D s' = some d' ∧ s' ≠ w.s ∧ w.x = mw s' d'.g ∧ (Opn A s' d' → A.at w.cell = w.x)
  | _ => False
def EPh (A : Ar) (d : Dw) (e : Sw) (f : En) : Prop :=
  match f.pc with
  | 0 => True
  | 1 => f.cell = e.c
  | 2 => f.cell = e.c ∧ f.was = e.w * 4
  | 3 => f.cell = e.c ∧ f.was = e.w * 4 ∧ (f.opn = true → A.at f.cell = (Form.entry f.s f.g f.e f.t f.q).number → ¬ Won A f.s d) ∧ (f.opn = false → ¬ Opn A f.s d)
  | _ => False
def FrOk (D : Int → Option Dw) (Lo : Int → Prop) (A : Ar) (F : Int → Stk) (t q : Int) : Fr → Prop
  | .who w => ∃ d, D w.s = some d ∧ w.g = d.g ∧ Ph D (Lo w.s) A t q d w
  | .ent f => ∃ d e n, D f.s = some d ∧ f.g = d.g ∧ f.e = (n : Nat) ∧ d.ds[n]? = some e ∧ (0 ≤ f.q ∧ f.q < (F f.t).q) ∧ (0 ≤ f.t ∧ f.t < 4) ∧ EPh A d e f
def RF (s : Int) (i : Nat) : Fr → Prop
  | .who w => w.s = s ∧ (w.pc ≤ 10 ∨ w.pc = 14 ∨ w.i ≤ i)
  | .ent _ => False
structure Qs where
  qt : Int → Int → Prop
  pt : Int → Int → Prop
def Resp (Q : Qs) (F : Int → Stk) (s : Int) (i : Nat) : Prop := ∃ t f, Q.qt s t ∧ f ∈ (F t).fs ∧ RF s i f
def Dg (p : Nat) : Prop := p ≠ 1 ∧ (p < 10 ∨ p = 14)
def Ref (s : Int) : Fr → Prop
  | .who w => w.s = s ∨ (w.pc = 14 ∧ ∃ g, Life s g ∧ w.x = mw s g)
  | .ent f => f.s = s
structure Owns (w : Wh) (s : Int) (n : Nat) (e : Sw) (p : Int) : Prop where
  s : w.s = s
  i : w.i = n
  cell : w.cell = e.c
  was : w.was = e.w * 4
  put : w.put = p
  pc : w.pc = 6 ∨ w.pc = 7
inductive Cell (D : Int → Option Dw) (Q : Qs) (A : Ar) (F : Int → Stk) (M : Int → Int) (c : Int) : Prop where
  | val {v : Int} (h : plainOf (A.at c) = some v) (m : M c = A.at c)
  | mc {s : Int} {d : Dw} {n : Nat} {e : Sw} (hd : D s = some d) (he : d.ds[n]? = some e) (hc : e.c = c) (ha : A.at c = mw s d.g)
      (m1 : Won A s d → M c = e.n * 4) (m0 : ¬ Won A s d → M c = e.w * 4) (hh : Opn A s d → Held A s d n) (r : d.rq → Resp Q F s n)
  | en {s : Int} {d : Dw} {n : Nat} {e : Sw} {t q : Int} (hd : D s = some d) (he : d.ds[n]? = some e) (hc : e.c = c) (ha : A.at c = ew s d.g n t q) (t0 : 0 ≤ t ∧ t < 4) (q0 : 0 ≤ q ∧ q < (F t).q)
      (m : M c = e.w * 4) {w : Wh} {r : List Fr} (ho : (F t).fs = .who w :: r) (o : Owns w s n e (A.at c))
def Nx (A : Ar) (u : Wh) : List Fr → Prop
  | .who w :: _ => u.s ≠ w.s ∧ (A.at (baseOf u.s) = stateW u.g 0 → A.at w.cell = mw u.s u.g)
  | _ => True
def Up (u : Wh) : List Fr → Prop
  | .who w :: _ => w.cell < u.cell
  | _ => True
def Ord (A : Ar) : List Fr → Prop
  | [] => True
  | .who w :: r => w.pc = 5 ∧ Nx A w r ∧ Up w r ∧ Ord A r
  | .ent _ :: _ => False
def Und (A : Ar) : List Fr → Prop
  | [] => True
  | .who w :: r => w.pc = 5 ∧ Nx A w r ∧ Ord A r
  | .ent _ :: _ => False
def Chain (A : Ar) : List Fr → Prop
  | [] => True
  | .who w :: r => Nx A w r ∧ (w.pc = 14 → A.at (baseOf w.s) = stateW w.g 0 → Up w r) ∧ Ord A r
  | .ent _ :: r => Und A r
structure MI (D : Int → Option Dw) (Q : Qs) (Lo : Int → Prop) (A : Ar) (F : Int → Stk) (M : Int → Int) : Prop where
  ok : A.ok
  ds : ∀ s d, D s = some d → DOk A s d
  cells : ∀ c, 0 ≤ c → c < 16 → Cell D Q A F M c
  fr : ∀ t f, f ∈ (F t).fs → FrOk D Lo A F t (F t).q f
  ch : ∀ t, Chain A (F t).fs
  lost : ∀ s d, D s = some d → A.at (baseOf s) = stateW d.g 2 → Lo s
  q0 : ∀ t, 0 ≤ (F t).q ∧ (F t).q < 1048576
  t0 : ∀ t, (F t).fs ≠ [] → 0 ≤ t ∧ t < 4
  qd : ∀ t w d, Fr.who w ∈ (F t).fs → D w.s = some d → d.rq → Dg w.pc → Q.qt w.s t
  qo : ∀ s d, D s = some d → d.rq → Opn A s d → ∀ t, Q.qt s t
  pf : ∀ t f s d, f ∈ (F t).fs → Ref s f → D s = some d → d.rq → Q.pt s t
def QP (D : Int → Option Dw) (Q : Qs) (F : Int → Stk) : Prop := ∀ s d t t', D s = some d → d.rq → Q.qt s t' → (F t').fs ≠ [] → Q.pt s t
macro "dgq" : tactic => `(tactic| (intro h; first | (left; exact ⟨by omega, by omega⟩) | (exfalso; revert h; simp [Dg]) | (exfalso; have h1 := h.1; have h2 := h.2; simp only at h1 h2; omega)))
macro "dgp" : tactic => `(tactic| (intro h; exfalso; first | (simp at h; done) | omega | (simp only at h; split at h <;> omega) | (revert h; simp)))
section
variable {D : Int → Option Dw} {Q : Qs} {Lo : Int → Prop} {A B : Ar} {F : Int → Stk} {M : Int → Int} {t q s s' : Int} {d d' : Dw} {n n' : Nat} {e e' : Sw}
theorem DOk.lt (h : DOk A s d) (he : d.ds[n]? = some e) : n < 16 ∧ 0 ≤ e.c ∧ e.c < 16 ∧ 0 ≤ e.w ∧ e.w < 1099511627776 ∧ 0 ≤ e.n ∧ e.n < 1099511627776 := by
  have := sw_len h.2.1
  have m := sw_mem h.2.1 he
  have := (List.getElem?_eq_some_iff.1 he).1
  exact ⟨by omega, m⟩
theorem mw_inj (h : Life s d.g) (h' : Life s' d'.g) (e : mw s d.g = mw s' d'.g) : s = s' ∧ d.g = d'.g := by
  have := number_inj (may_mcas.2 ⟨h.s0, h.s1, h.g0, h.g1⟩) (may_mcas.2 ⟨h'.s0, h'.s1, h'.g0, h'.g1⟩) e
  injection this with a b
  exact ⟨a, b⟩
theorem mw_read (h : Life s d.g) : read (mw s d.g) = some (.mcas s d.g) := read_number (may_mcas.2 ⟨h.s0, h.s1, h.g0, h.g1⟩)
theorem mw_ew {g g' : Int} {t q : Int} : mw s g ≠ ew s' g' n t q := fun h => entry_not_mcas h.symm
theorem val_read {x v : Int} (h : plainOf x = some v) : read x = some (.val v) ∧ x = v * 4 ∧ 0 ≤ v ∧ v < 1099511627776 := by
  have e : read x = some (.val v) := by
    unfold plainOf at h
    revert h
    cases read x with
    | none => intro h; cases h
    | some f => cases f <;> intro h <;> simp at h; rw [h]
  have r := may_val.1 (number_of_read e).1
  have := (number_of_read e).2.1
  simp only [Form.number] at this
  exact ⟨e, by omega, r⟩
theorem ew_range (h : Life s d.g) (hn : n < 16) (t0 : 0 ≤ t ∧ t < 4) (q0 : 0 ≤ q ∧ q < 1048576) : (Form.entry s d.g n t q).may = true := may_entry.2 ⟨h.s0, h.s1, h.g0, h.g1, by omega, by omega, t0.1, t0.2, q0.1, q0.2⟩
theorem ew_inj {t' q' : Int} (h : Life s d.g) (h' : Life s' d'.g) (hn : n < 16) (hn' : n' < 16) (t0 : 0 ≤ t ∧ t < 4) (t0' : 0 ≤ t' ∧ t' < 4) (q0 : 0 ≤ q ∧ q < 1048576) (q0' : 0 ≤ q' ∧ q' < 1048576)
    (e : ew s d.g n t q = ew s' d'.g n' t' q') : s = s' ∧ d.g = d'.g ∧ n = n' ∧ t = t' ∧ q = q' := by
  have := number_inj (ew_range h hn t0 q0) (ew_range h' hn' t0' q0') e
  injection this with a b c d e
  exact ⟨a, b, by omega, d, e⟩
structure Rel (D : Int → Option Dw) (F : Int → Stk) (A B : Ar) : Prop where
  st : ∀ s d, D s = some d → (Opn B s d → Opn A s d) ∧ (¬ Opn A s d → B.at (baseOf s) = A.at (baseOf s))
  keep : ∀ s d, D s = some d → Opn B s d → ∀ c, 0 ≤ c → c < 16 → A.at c = mw s d.g → B.at c = mw s d.g
  ent : ∀ s d n e t q, D s = some d → d.ds[n]? = some e → 0 ≤ t ∧ t < 4 → 0 ≤ q ∧ q < (F t).q → Opn B s d → A.at e.c = ew s d.g n t q → B.at e.c = ew s d.g n t q ∨ B.at e.c = mw s d.g
  old : ∀ s d n e t q, D s = some d → d.ds[n]? = some e → 0 ≤ t ∧ t < 4 → 0 ≤ q ∧ q < (F t).q → B.at e.c = ew s d.g n t q → A.at e.c = ew s d.g n t q ∧ (Won B s d → Won A s d)
  new : ∀ s d n e, D s = some d → d.ds[n]? = some e → B.at e.c = mw s d.g → A.at e.c = mw s d.g ∨ ∃ t q, (0 ≤ t ∧ t < 4) ∧ (0 ≤ q ∧ q < 1048576) ∧ A.at e.c = ew s d.g n t q
theorem Rel.won (R : Rel D F A B) (hd : D s = some d) (h : ¬ Opn A s d) : Won B s d ↔ Won A s d := by
  unfold Won; rw [(R.st s d hd).2 h]
theorem Rel.nopn (R : Rel D F A B) (hd : D s = some d) (h : ¬ Opn A s d) : ¬ Opn B s d := fun h' => h ((R.st s d hd).1 h')
theorem Rel.held (R : Rel D F A B) (o : DOk A s d) (hd : D s = some d) (h : Opn A s d → Held A s d n) : Opn B s d → Held B s d n := fun h' j e hj he => by
  have m := o.lt he
  exact R.keep s d hd h' _ m.2.1 m.2.2.1 (h ((R.st s d hd).1 h') j e hj he)
theorem Rel.ph (R : Rel D F A B) (I : MI D Q Lo A F M) {w : Wh} {L : Prop} {q' : Int} (hd : D w.s = some d) (ht : 0 ≤ t ∧ t < 4) (hq : q ≤ (F t).q) (hq' : q ≤ q') (h : Ph D L A t q d w) : Ph D L B t q' d w := by
  have o := I.ds _ _ hd
  have hh : ∀ {n}, (Opn A w.s d → Held A w.s d n) → Opn B w.s d → Held B w.s d n := fun h => R.held o hd h
  have hn := R.nopn hd
  have hw := R.won hd
  have hpu : ∀ {n e}, Ix d w n e → w.cell = e.c → Pu A t q d w n → Pu B t q' d w n := fun {n e} ix hc h => by
    obtain ⟨h1, q0, h2, h3, h4⟩ := h
    refine ⟨fun ho => ?_, q0, h2, h3, by omega⟩
    rcases h1 ((R.st _ _ hd).1 ho) with a | a
    · rw [h2, hc] at a ⊢
      exact R.ent _ _ n e t q0 hd ix.e ht ⟨h3, by omega⟩ ho a
    · have m := o.lt ix.e
      rw [hc] at a ⊢
      exact .inr (R.keep _ _ hd ho _ m.2.1 m.2.2.1 a)
  unfold Ph at h ⊢
  split
  · trivial
  · trivial
  · rename_i hp; simp only [hp] at h
    obtain ⟨n, e, ix, h1⟩ := h
    exact ⟨n, e, ix, hh h1⟩
  · rename_i hp; simp only [hp] at h
    obtain ⟨n, e, ix, h1, h2⟩ := h
    exact ⟨n, e, ix, hh h1, h2⟩
  · rename_i hp; simp only [hp] at h
    obtain ⟨n, e, ix, h1, h2⟩ := h
    exact ⟨n, e, ix, hh h1, h2⟩
  · rename_i hp; simp only [hp] at h
    obtain ⟨n, e, ix, h1, h2, h3, h4⟩ := h
    exact ⟨n, e, ix, hh h1, h2, h3, hpu ix h2 h4⟩
  · rename_i hp; simp only [hp] at h
    obtain ⟨n, e, ix, h1, h2, h3, h4, h5, h6⟩ := h
    refine ⟨n, e, ix, hh h1, h2, h3, hpu ix h2 h4, fun ho ha hw' => ?_, fun ho => hn (h6 ho)⟩
    obtain ⟨_, q0, p1, p2, p3⟩ := h4
    rw [p1, h2] at ha
    have := R.old _ _ n e t q0 hd ix.e ht ⟨p2, by omega⟩ ha
    exact h5 ho (by rw [p1, h2]; exact this.1) (this.2 hw')
  · rename_i hp; simp only [hp] at h
    exact hh h
  · rename_i hp; simp only [hp] at h
    exact fun ho => h ((R.st _ _ hd).1 ho)
  · rename_i hp; simp only [hp] at h
    exact ⟨hn h.1, by rw [hw h.1]; exact h.2⟩
  · rename_i hp; simp only [hp] at h
    obtain ⟨n, e, ix, h1, h2⟩ := h
    exact ⟨n, e, ix, hn h1, by rw [hw h1]; exact h2⟩
  · rename_i hp; simp only [hp] at h
    obtain ⟨n, e, ix, h1, h2, h3⟩ := h
    exact ⟨n, e, ix, hn h1, by rw [hw h1]; exact h2, h3⟩
  · rename_i hp; simp only [hp] at h
    obtain ⟨n, e, ix, h1, h2, h3⟩ := h
    exact ⟨n, e, ix, hn h1, by rw [hw h1]; exact h2, h3⟩
  · rename_i hp; simp only [hp] at h
    obtain ⟨n, e, ix, h1, h2, h3, s', d', h4, h7, h5, h6⟩ := h
    refine ⟨n, e, ix, hh h1, h2, h3, s', d', h4, h7, h5, fun ho => ?_⟩
    have m := o.lt ix.e
    have := h6 ((R.st _ _ h4).1 ho)
    rw [h2, h5] at this ⊢
    exact R.keep _ _ h4 ho _ m.2.1 m.2.2.1 this
  · split at h <;> first | contradiction | exact h
theorem Rel.fr (R : Rel D F A B) (I : MI D Q Lo A F M) {F' : Int → Stk} (hF : ∀ u, (F u).q ≤ (F' u).q) {f : Fr} {q' : Int} (ht : 0 ≤ t ∧ t < 4) (hq : q ≤ (F t).q) (hq' : q ≤ q') (h : FrOk D Lo A F t q f) : FrOk D Lo B F' t q' f := by
  cases f with
  | who w =>
    obtain ⟨d, h1, h2, h3⟩ := h
    exact ⟨d, h1, h2, R.ph I h1 ht hq hq' h3⟩
  | ent f =>
    obtain ⟨d, e, n, h1, h2, h3, h4, h5, h6, h7⟩ := h
    refine ⟨d, e, n, h1, h2, h3, h4, ⟨h5.1, Int.lt_of_lt_of_le h5.2 (hF _)⟩, h6, ?_⟩
    unfold EPh at h7 ⊢
    split
    · trivial
    · rename_i hp; simp only [hp] at h7; exact h7
    · rename_i hp; simp only [hp] at h7; exact h7
    · rename_i hp; simp only [hp] at h7
      obtain ⟨a1, a2, a3, a4⟩ := h7
      refine ⟨a1, a2, fun ho ha hw => ?_, fun ho => R.nopn h1 (a4 ho)⟩
      have ha' : B.at e.c = ew f.s d.g n f.t f.q := by rw [← a1, ha, h3, h2]; rfl
      have := R.old _ _ n e f.t f.q h1 h4 h6 h5 ha'
      exact a3 ho (by rw [a1, this.1, h3, h2]; rfl) (this.2 hw)
    · split at h7 <;> first | contradiction | exact h7
theorem Rel.nx (R : Rel D F A B) (I : MI D Q Lo A F M) {u : Wh} {r : List Fr} (hd : D u.s = some d) (hg : u.g = d.g) (hr : ∀ w, r.head? = some (.who w) → 0 ≤ w.cell ∧ w.cell < 16) (h : Nx A u r) : Nx B u r := by
  cases r with
  | nil => trivial
  | cons f r =>
    cases f with
    | ent f => trivial
    | who w =>
      have hr := hr w rfl
      simp only [Nx, hg] at h ⊢
      exact ⟨h.1, fun ho => R.keep _ _ hd ho _ hr.1 hr.2 (h.2 ((R.st _ _ hd).1 ho))⟩
theorem FrOk.cell5 (I : MI D Q Lo A F M) {w : Wh} (h : FrOk D Lo A F t q (.who w)) (hp : w.pc = 5) : 0 ≤ w.cell ∧ w.cell < 16 := by
  obtain ⟨d, h1, h2, h3⟩ := h
  simp only [Ph, hp] at h3
  obtain ⟨n, e, ix, _, hc, _⟩ := h3
  have := (I.ds _ _ h1).lt ix.e
  rw [hc]
  exact ⟨this.2.1, this.2.2.1⟩
theorem Rel.ord (R : Rel D F A B) (I : MI D Q Lo A F M) {r : List Fr} (hf : ∀ f ∈ r, FrOk D Lo A F t q f) (h : Ord A r) : Ord B r := by
  induction r with
  | nil => trivial
  | cons f r ih =>
    cases f with
    | ent f => exact h
    | who w =>
      obtain ⟨h1, h2, h3, h4⟩ := h
      obtain ⟨d, a1, a2, a3⟩ := hf (.who w) (by simp)
      have hr : ∀ v, r.head? = some (.who v) → 0 ≤ v.cell ∧ v.cell < 16 := fun v hv => by
        cases r with
        | nil => simp at hv
        | cons f r =>
          simp at hv; subst hv
          exact (hf (.who v) (by simp)).cell5 I h4.1
      exact ⟨h1, R.nx I a1 a2 hr h2, h3, ih (fun f m => hf f (by simp [m])) h4⟩
end
def setF (F : Int → Stk) (t : Int) (k : Stk) : Int → Stk := fun u => if u = t then k else F u
theorem setF_at {F : Int → Stk} {t : Int} {k : Stk} : setF F t k t = k := if_pos rfl
theorem setF_ne {F : Int → Stk} {t u : Int} {k : Stk} (h : u ≠ t) : setF F t k u = F u := if_neg h
section
variable {D : Int → Option Dw} {Q : Qs} {Lo : Int → Prop} {A B : Ar} {F : Int → Stk} {M : Int → Int} {t q q' s : Int} {d : Dw} {n : Nat} {e : Sw}
theorem Rel.chain (R : Rel D F A B) (I : MI D Q Lo A F M) {fs : List Fr} (hh : ∀ w, fs.head? = some (.who w) → ∃ d, D w.s = some d ∧ w.g = d.g) (hf : ∀ f ∈ fs.tail, FrOk D Lo A F t q f) (h : Chain A fs) : Chain B fs := by
  have hr : ∀ {w : Wh} {r : List Fr}, (∀ f ∈ r, FrOk D Lo A F t q f) → Ord A r → r.head? = some (.who w) → 0 ≤ w.cell ∧ w.cell < 16 := fun {w r} hf ho hv => by
    cases r with
    | nil => simp at hv
    | cons f r =>
      simp at hv; subst hv
      exact (hf (.who w) (by simp)).cell5 I ho.1
  cases fs with
  | nil => trivial
  | cons f r =>
    cases f with
    | ent f =>
      simp only [List.tail_cons] at hf
      show Und B r
      have h : Und A r := h
      cases r with
      | nil => trivial
      | cons f r =>
        cases f with
        | ent f => exact h
        | who w =>
          obtain ⟨d, a1, a2, a3⟩ := hf (.who w) (by simp)
          have hf' : ∀ f ∈ r, FrOk D Lo A F t q f := fun f m => hf f (by simp [m])
          exact ⟨h.1, R.nx I a1 a2 (fun v hv => hr hf' h.2.2 hv) h.2.1, R.ord I hf' h.2.2⟩
    | who w =>
      simp only [List.tail_cons] at hf
      obtain ⟨d, a1, a2⟩ := hh w rfl
      refine ⟨R.nx I a1 a2 (fun v hv => hr hf h.2.2 hv) h.1, fun hp ho => h.2.1 hp ?_, R.ord I hf h.2.2⟩
      rw [a2] at ho ⊢
      exact (R.st _ _ a1).1 ho
theorem MI.go (I : MI D Q Lo A F M) (okB : B.ok) (dsB : ∀ s d, D s = some d → DOk B s d) (R : Rel D F A B) {fs' : List Fr} {M' : Int → Int} (hq : (F t).q ≤ q' ∧ q' < 1048576) (ht : 0 ≤ t ∧ t < 4)
    (new : ∀ f ∈ fs', FrOk D Lo B (setF F t ⟨q', fs'⟩) t q' f) (ch : Chain B fs')
    (hR : ∀ s d n e, D s = some d → d.ds[n]? = some e → (∃ f, f ∈ (F t).fs ∧ RF s n f) → (∃ f, f ∈ fs' ∧ RF s n f) ∨ B.at e.c ≠ mw s d.g)
    (hE : ∀ w r, (F t).fs = .who w :: r → (w.pc = 6 ∨ w.pc = 7) → (∃ w' r', fs' = .who w' :: r' ∧ (w'.pc = 6 ∨ w'.pc = 7) ∧ w'.s = w.s ∧ w'.i = w.i ∧ w'.cell = w.cell ∧ w'.was = w.was ∧ w'.put = w.put) ∨ B.at w.cell ≠ w.put)
    (hC : ∀ c, 0 ≤ c → c < 16 → (B.at c = A.at c ∧ M' c = M c ∧ ∀ s d, D s = some d → A.at c = mw s d.g → (Won B s d ↔ Won A s d)) ∨ Cell D Q B (setF F t ⟨q', fs'⟩) M' c)
    (lost : ∀ s d, D s = some d → B.at (baseOf s) = stateW d.g 2 → Lo s)
    (hQ : ∀ w d, Fr.who w ∈ fs' → D w.s = some d → d.rq → Dg w.pc → Q.qt w.s t) (hP : ∀ f s d, f ∈ fs' → Ref s f → D s = some d → d.rq → Q.pt s t) : MI D Q Lo B (setF F t ⟨q', fs'⟩) M' := by
  have hF : ∀ u, (F u).q ≤ (setF F t ⟨q', fs'⟩ u).q := fun u => by
    by_cases c : u = t
    · subst c; rw [setF_at]; exact hq.1
    · rw [setF_ne c]; exact Int.le_refl _
  refine ⟨okB, dsB, fun c c0 c1 => ?_, fun u f hf => ?_, fun u => ?_, lost, fun u => ?_, fun u h => ?_, fun u w d hw hd hr hg => ?_, fun s d hd hr ho u => I.qo s d hd hr ((R.st s d hd).1 ho) u, fun u f s d hf hr hd hrq => ?_⟩
  · rcases hC c c0 c1 with ⟨h1, h2, h3⟩ | h
    · cases I.cells c c0 c1 with
      | val h m => exact .val (by rw [h1]; exact h) (by rw [h2, h1]; exact m)
      | @mc s d n e hd he hc ha m1 m0 hh r =>
        refine .mc hd he hc (by rw [h1]; exact ha) (fun hw => by rw [h2]; exact m1 ((h3 _ _ hd ha).1 hw)) (fun hw => by rw [h2]; exact m0 fun hw' => hw ((h3 _ _ hd ha).2 hw')) (R.held (I.ds _ _ hd) hd hh) fun hrq => ?_
        obtain ⟨u, f, hqt, hf, hr⟩ := r hrq
        by_cases c' : u = t
        · subst c'
          rcases hR s d n e hd he ⟨f, hf, hr⟩ with ⟨f', m, hr'⟩ | hne
          · exact ⟨u, f', hqt, by rw [setF_at]; exact m, hr'⟩
          · rw [hc, h1] at hne; exact absurd ha hne
        · exact ⟨u, f, hqt, by rw [setF_ne c']; exact hf, hr⟩
      | @en s d n e t' q0' hd he hc ha t0 q0 m w r ho o =>
        by_cases c' : t' = t
        · subst c'
          rcases hE w r ho o.pc with ⟨w', r', e1, e2, e3, e4, e5, e6, e7⟩ | hne
          · exact .en hd he hc (by rw [h1]; exact ha) t0 ⟨q0.1, Int.lt_of_lt_of_le q0.2 (hF _)⟩ (by rw [h2]; exact m) (w := w') (r := r') (by rw [setF_at]; exact e1)
              ⟨by rw [e3]; exact o.s, by rw [e4]; exact o.i, by rw [e5]; exact o.cell, by rw [e6]; exact o.was, by rw [e7, h1]; exact o.put, e2⟩
          · rw [o.put, o.cell, hc, h1] at hne; exact absurd rfl hne
        · exact .en hd he hc (by rw [h1]; exact ha) t0 ⟨q0.1, Int.lt_of_lt_of_le q0.2 (hF _)⟩ (by rw [h2]; exact m) (by rw [setF_ne c']; exact ho) (by rw [h1]; exact o)
    · exact h
  · by_cases c : u = t
    · subst c; rw [setF_at] at hf ⊢; exact new f hf
    · rw [setF_ne c] at hf ⊢
      exact R.fr I hF (I.t0 u (List.ne_nil_of_mem hf)) (Int.le_refl _) (Int.le_refl _) (I.fr u f hf)
  · by_cases c : u = t
    · subst c; rw [setF_at]; exact ch
    · rw [setF_ne c]; exact R.chain I (fun w hw => by obtain ⟨d, a1, a2, a3⟩ := I.fr u (.who w) (List.mem_of_mem_head? hw); exact ⟨d, a1, a2⟩) (fun f hf => I.fr u f (List.mem_of_mem_tail hf)) (I.ch u)
  · by_cases c : u = t
    · subst c; rw [setF_at]; exact ⟨Int.le_trans (I.q0 u).1 hq.1, hq.2⟩
    · rw [setF_ne c]; exact I.q0 u
  · by_cases c : u = t
    · subst c; exact ht
    · rw [setF_ne c] at h; exact I.t0 u h
  · by_cases c : u = t
    · subst c; rw [setF_at] at hw; exact hQ w d hw hd hr hg
    · rw [setF_ne c] at hw; exact I.qd u w d hw hd hr hg
  · by_cases c : u = t
    · subst c; rw [setF_at] at hf; exact hP f s d hf hr hd hrq
    · rw [setF_ne c] at hf; exact I.pf u f s d hf hr hd hrq
theorem base_at {s : Int} (h : Life s d.g) : 16 ≤ baseOf s ∧ baseOf s < 634 := by
  have := h.s0; have := h.s1; unfold baseOf; omega
theorem DOk.same (h : ∀ j, 0 ≤ j → j < 634 → B.at j = A.at j) (o : DOk A s d) : DOk B s d := by
  obtain ⟨l, m, st, hst, D⟩ := o
  have := l.s0; have := l.s1
  exact ⟨l, m, st, hst, D.keep m fun j j0 j1 => h j (by unfold baseOf at j0; omega) (by unfold baseOf at j1; omega)⟩
theorem DOk.cell (h : ∀ j, 16 ≤ j → j < 634 → B.at j = A.at j) (o : DOk A s d) : DOk B s d := by
  obtain ⟨l, m, st, hst, D⟩ := o
  have := l.s0; have := l.s1
  exact ⟨l, m, st, hst, D.keep m fun j j0 j1 => h j (by unfold baseOf at j0; omega) (by unfold baseOf at j1; omega)⟩
theorem Rel.same (I : MI D Q Lo A F M) (h : ∀ j, 0 ≤ j → j < 634 → B.at j = A.at j) : Rel D F A B := by
  have hb : ∀ s d, D s = some d → B.at (baseOf s) = A.at (baseOf s) := fun s d hd => by
    have := base_at (I.ds s d hd).1
    exact h _ (by omega) this.2
  refine ⟨fun s d hd => ⟨fun ho => by unfold Opn at ho ⊢; rw [← hb s d hd]; exact ho, fun _ => hb s d hd⟩, fun s d hd ho c c0 c1 ha => by rw [h c c0 (by omega)]; exact ha, fun s d n e t q hd he _ _ ho ha => ?_, fun s d n e t q hd he t0 q0 ha => ?_, fun s d n e hd he ha => .inl (by have m := (I.ds s d hd).lt he; rw [h _ m.2.1 (by omega)] at ha; exact ha)⟩
  · have m := (I.ds s d hd).lt he
    rw [h _ m.2.1 (by omega)]; exact .inl ha
  · have m := (I.ds s d hd).lt he
    rw [h _ m.2.1 (by omega)] at ha
    exact ⟨ha, fun hw => by unfold Won at hw ⊢; rw [← hb s d hd]; exact hw⟩
theorem MI.quiet (I : MI D Q Lo A F M) (okB : B.ok) (h : ∀ j, 0 ≤ j → j < 634 → B.at j = A.at j) {fs' : List Fr} (hq : (F t).q ≤ q' ∧ q' < 1048576) (ht : 0 ≤ t ∧ t < 4)
    (new : ∀ f ∈ fs', FrOk D Lo A F t (F t).q f) (ch : Chain A fs')
    (hR : ∀ s d n e, D s = some d → d.ds[n]? = some e → (∃ f, f ∈ (F t).fs ∧ RF s n f) → (∃ f, f ∈ fs' ∧ RF s n f) ∨ A.at e.c ≠ mw s d.g)
    (hE : ∀ w r, (F t).fs = .who w :: r → (w.pc = 6 ∨ w.pc = 7) → (∃ w' r', fs' = .who w' :: r' ∧ (w'.pc = 6 ∨ w'.pc = 7) ∧ w'.s = w.s ∧ w'.i = w.i ∧ w'.cell = w.cell ∧ w'.was = w.was ∧ w'.put = w.put) ∨ A.at w.cell ≠ w.put)
    (hQ : ∀ w d, Fr.who w ∈ fs' → D w.s = some d → d.rq → Dg w.pc → Q.qt w.s t) (hP : ∀ f s d, f ∈ fs' → Ref s f → D s = some d → d.rq → Q.pt s t) :
    MI D Q Lo B (setF F t ⟨q', fs'⟩) M := by
  have R := Rel.same I h
  have hb : ∀ s d, D s = some d → B.at (baseOf s) = A.at (baseOf s) := fun s d hd => by
    have := base_at (I.ds s d hd).1
    exact h _ (by omega) this.2
  have hF : ∀ u, (F u).q ≤ (setF F t ⟨q', fs'⟩ u).q := fun u => by
    by_cases c : u = t
    · subst c; rw [setF_at]; exact hq.1
    · rw [setF_ne c]; exact Int.le_refl _
  refine I.go okB (fun s d hd => (I.ds s d hd).same h) R hq ht (fun f hf => R.fr I hF ht (Int.le_refl _) hq.1 (new f hf)) (R.chain I (fun w hw => by obtain ⟨d, a1, a2, a3⟩ := new (.who w) (List.mem_of_mem_head? hw); exact ⟨d, a1, a2⟩) (fun f hf => new f (List.mem_of_mem_tail hf)) ch) (fun s d n e hd he hx => ?_) (fun w r hw hp => ?_) (fun c c0 c1 => .inl ⟨h c c0 (by omega), rfl, fun s d hd _ => by unfold Won; rw [hb s d hd]⟩) (fun s d hd hl => I.lost s d hd (by rw [← hb s d hd]; exact hl)) hQ hP
  · have m := (I.ds s d hd).lt he
    rw [h _ m.2.1 (by omega)]; exact hR s d n e hd he hx
  · rcases hE w r hw hp with x | x
    · exact .inl x
    · right
      obtain ⟨d, a1, a2, a3⟩ := I.fr t (.who w) (by rw [hw]; simp)
      have : ∃ (n : Nat) (e : Sw), d.ds[n]? = some e ∧ w.cell = e.c := by
        unfold Ph at a3
        rcases hp with hp | hp
        · simp only [hp] at a3; obtain ⟨n, e, ix, _, hc, _⟩ := a3; exact ⟨n, e, ix.e, hc⟩
        · simp only [hp] at a3; obtain ⟨n, e, ix, _, hc, _⟩ := a3; exact ⟨n, e, ix.e, hc⟩
      obtain ⟨n, e, he, hc⟩ := this
      have m := (I.ds _ _ a1).lt he
      rw [h _ (by omega) (by omega)]; exact x
theorem MI.own (I : MI D Q Lo A F M) {w w' : Wh} {r : List Fr} (hS : F t = ⟨q, .who w :: r⟩) (okB : B.ok) (h : ∀ j, 0 ≤ j → j < 634 → B.at j = A.at j) (hq : q ≤ q' ∧ q' < 1048576) (es : w'.s = w.s) (eg : w'.g = w.g)
    (ph : ∀ d, D w.s = some d → w.g = d.g → Ph D (Lo w.s) A t q d w → Ph D (Lo w.s) A t q d w')
    (h14 : w'.pc = 14 → A.at (baseOf w.s) = stateW w.g 0 → Up w' r)
    (hR : ∀ d n e, D w.s = some d → d.ds[n]? = some e → RF w.s n (.who w) → RF w.s n (.who w') ∨ A.at e.c ≠ mw w.s d.g)
    (hE : w.pc = 6 ∨ w.pc = 7 → ((w'.pc = 6 ∨ w'.pc = 7) ∧ w'.i = w.i ∧ w'.cell = w.cell ∧ w'.was = w.was ∧ w'.put = w.put) ∨ A.at w.cell ≠ w.put)
    (hQ : Dg w'.pc → Dg w.pc ∨ ∀ d, D w.s = some d → Opn A w.s d) (hP : w'.pc = 14 → (w.pc = 14 ∧ w'.x = w.x) ∨ ∀ s g d, Life s g → w'.x = mw s g → D s = some d → d.rq → Q.pt s t) :
    MI D Q Lo B (setF F t ⟨q', .who w' :: r⟩) M := by
  have fs : (F t).fs = .who w :: r := by rw [hS]
  have fq : (F t).q = q := by rw [hS]
  have ht := I.t0 t (by rw [fs]; simp)
  have hc := I.ch t
  rw [fs] at hc
  refine I.quiet okB h (by rw [fq]; exact hq) ht (fun f hf => ?_) ⟨?_, fun hp ho => h14 hp (by rw [es, eg] at ho; exact ho), hc.2.2⟩ (fun s d n e hd he hx => ?_) (fun v r' hv hp => ?_) (fun v d hv hd hr hg => ?_) (fun f s d hf hr hd hrq => ?_)
  · rcases List.mem_cons.1 hf with rfl | hf
    · obtain ⟨d, a1, a2, a3⟩ := I.fr t (.who w) (by rw [fs]; simp)
      rw [fq] at a3 ⊢
      exact ⟨d, by rw [es]; exact a1, by rw [eg]; exact a2, by rw [es]; exact ph d a1 a2 a3⟩
    · exact I.fr t f (by rw [fs]; simp [hf])
  · have h1 := hc.1
    cases r with
    | nil => trivial
    | cons f r =>
      cases f with
      | ent f => trivial
      | who v =>
        simp only [Nx, es, eg] at h1 ⊢
        exact h1
  · obtain ⟨f, hf, hx⟩ := hx
    rw [fs] at hf
    rcases List.mem_cons.1 hf with rfl | hf
    · have e1 := hx.1
      subst e1
      rcases hR d n e hd he hx with h | h
      · exact .inl ⟨_, by simp, h⟩
      · exact .inr h
    · exact .inl ⟨f, by simp [hf], hx⟩
  · rw [fs] at hv
    cases hv
    rcases hE hp with ⟨a, b, c, d, e⟩ | h
    · exact .inl ⟨w', r, rfl, a, es, b, c, d, e⟩
    · exact .inr h
  · rcases List.mem_cons.1 hv with e | hv
    · cases e
      rcases hQ hg with h | h
      · rw [es] at hd ⊢
        exact I.qd t w d (by rw [fs]; simp) hd hr h
      · rw [es] at hd ⊢
        exact I.qo w.s d hd hr (h d hd) t
    · exact I.qd t v d (by rw [fs]; simp [hv]) hd hr hg
  · rcases List.mem_cons.1 hf with e | hf
    · subst e
      rcases hr with h | ⟨h, g, l, hx⟩
      · rw [es] at h
        exact I.pf t (.who w) s d (by rw [fs]; simp) (.inl h) hd hrq
      · rcases hP h with ⟨h14, hxx⟩ | hpt
        · exact I.pf t (.who w) s d (by rw [fs]; simp) (.inr ⟨h14, g, l, by rw [← hxx]; exact hx⟩) hd hrq
        · exact hpt s g d l hx hd hrq
    · exact I.pf t f s d (by rw [fs]; simp [hf]) hr hd hrq
end
def nxt (o : Out) (r : List Fr) : List Fr := match o.atop.bind newFr with
  | some f => f :: o.fr :: r
  | none => if o.over then r else o.fr :: r
def updM (ds : List Sw) (M : Int → Int) : Int → Int := fun c => match ds.find? (fun e => decide (e.c = c)) with
  | some e => e.n * 4
  | none => M c
def Turn (D : Int → Option Dw) (A B : Ar) (M M' : Int → Int) : Prop :=
  (∀ s d, D s = some d → (Opn B s d → Opn A s d) ∧ (¬ Opn A s d → B.at (baseOf s) = A.at (baseOf s))) ∧
  ((M' = M ∧ ∀ s d, D s = some d → (Won B s d ↔ Won A s d)) ∨
   ∃ s d, D s = some d ∧ Opn A s d ∧ Won B s d ∧ (∀ (n : Nat) (e : Sw), d.ds[n]? = some e → M e.c = e.w * 4) ∧ M' = updM d.ds M ∧ ∀ s' d', D s' = some d' → s' ≠ s → B.at (baseOf s') = A.at (baseOf s'))
structure Did (D : Int → Option Dw) (Q : Qs) (Lo : Int → Prop) (A : Ar) (F : Int → Stk) (M : Int → Int) (t : Int) (r : List Fr) (o : Out) : Prop where
  good : o.good = true
  len : ∀ f, o.atop.bind newFr = some f → r.length + 1 < 18
  fin : o.over = true → ∀ w, o.fr = .who w → ∃ d, D w.s = some d ∧ w.g = d.g ∧ ¬ Opn o.a w.s d ∧ (w.won = true ↔ Won o.a w.s d)
  q : (F t).q ≤ o.q ∧ o.q ≤ (F t).q + 1
  rel : Rel D F A o.a
  mi : ∃ M', Turn D A o.a M M' ∧ MI D Q Lo o.a (setF F t ⟨o.q, nxt o r⟩) M'
section
variable {D : Int → Option Dw} {Q : Qs} {Lo : Int → Prop} {A B : Ar} {F : Int → Stk} {M : Int → Int} {t q q' s : Int} {d : Dw} {n : Nat} {e : Sw} {w w' : Wh} {r : List Fr}
theorem Turn.same (I : MI D Q Lo A F M) (h : ∀ j, 0 ≤ j → j < 634 → B.at j = A.at j) : Turn D A B M M := by
  have R := Rel.same I h
  have hb : ∀ s d, D s = some d → B.at (baseOf s) = A.at (baseOf s) := fun s d hd => by
    have := base_at (I.ds s d hd).1
    exact h _ (by omega) this.2
  exact ⟨R.st, .inl ⟨rfl, fun s d hd => by unfold Won; rw [hb s d hd]⟩⟩
theorem MI.did (I : MI D Q Lo A F M) (hS : F t = ⟨q, .who w :: r⟩) (okB : B.ok) (h : ∀ j, 0 ≤ j → j < 634 → B.at j = A.at j) (hq : q ≤ q' ∧ q' ≤ q + 1 ∧ q' < 1048576) (es : w'.s = w.s) (eg : w'.g = w.g)
    (ph : ∀ d, D w.s = some d → w.g = d.g → Ph D (Lo w.s) A t q d w → Ph D (Lo w.s) A t q d w')
    (h14 : w'.pc = 14 → A.at (baseOf w.s) = stateW w.g 0 → Up w' r)
    (hR : ∀ d n e, D w.s = some d → d.ds[n]? = some e → RF w.s n (.who w) → RF w.s n (.who w') ∨ A.at e.c ≠ mw w.s d.g)
    (hE : w.pc = 6 ∨ w.pc = 7 → ((w'.pc = 6 ∨ w'.pc = 7) ∧ w'.i = w.i ∧ w'.cell = w.cell ∧ w'.was = w.was ∧ w'.put = w.put) ∨ A.at w.cell ≠ w.put)
    (hQ : Dg w'.pc → Dg w.pc ∨ ∀ d, D w.s = some d → Opn A w.s d := by dgq) (hP : w'.pc = 14 → (w.pc = 14 ∧ w'.x = w.x) ∨ ∀ s g d, Life s g → w'.x = mw s g → D s = some d → d.rq → Q.pt s t := by dgp) :
    Did D Q Lo A F M t r ⟨.who w', none, false, true, B, q'⟩ := by
  have fq : (F t).q = q := by rw [hS]
  refine ⟨rfl, (fun f hf => by cases hf), (fun h => by cases h), by rw [fq]; exact ⟨hq.1, hq.2.1⟩, Rel.same I h, M, Turn.same I h, ?_⟩
  exact I.own hS okB h ⟨hq.1, hq.2.2⟩ es eg ph h14 hR hE hQ hP
theorem MI.on (I : MI D Q Lo A F M) (hS : F t = ⟨q, .who w :: r⟩) : ∃ d st, D w.s = some d ∧ w.g = d.g ∧ (0 ≤ st ∧ st < 3) ∧ On A w st d.ds ∧ Ph D (Lo w.s) A t q d w ∧ DOk A w.s d := by
  have := I.fr t (.who w) (by rw [hS]; simp)
  obtain ⟨d, a1, a2, a3⟩ := this
  rw [hS] at a3
  obtain ⟨l, m, st, hst, dsc⟩ := I.ds _ _ a1
  exact ⟨d, st, a1, a2, hst, ⟨I.ok, by rw [a2]; exact l, m, by rw [a2]; exact dsc⟩, a3, I.ds _ _ a1⟩
theorem On.opn {st : Int} (o : On A w st d.ds) (hg : w.g = d.g) : (Opn A w.s d ↔ st = 0) ∧ (Won A w.s d ↔ st = 1) := by
  unfold Opn Won
  rw [o.d.st, hg]
  exact ⟨stateW_inj, stateW_inj⟩
theorem RF.same {n : Nat} (h : RF s n (.who w)) (hs : w'.s = w.s) (hp : w'.pc ≤ 10 ∨ w'.pc = 14 ∨ (w.pc = 11 ∨ w.pc = 12) ∧ w'.i = w.i) : RF s n (.who w') := by
  obtain ⟨a, b⟩ := h
  refine ⟨by rw [hs]; exact a, ?_⟩
  rcases hp with h | h | ⟨h, h'⟩
  · exact .inl h
  · exact .inr (.inl h)
  · rw [h']
    rcases b with b | b | b
    · omega
    · omega
    · exact .inr (.inr b)
theorem Ord.len (I : MI D Q Lo A F M) : ∀ {r : List Fr} {w : Wh}, (∀ f ∈ r, FrOk D Lo A F t q f) → Ord A r → Up w r → 0 ≤ w.cell → (r.length : Int) ≤ w.cell := by
  intro r
  induction r with
  | nil => intro w _ _ _ h; simpa using h
  | cons f r ih =>
    intro w hf ho hu _
    cases f with
    | ent f => exact absurd ho (by simp [Ord])
    | who v =>
      obtain ⟨h1, h2, h3, h4⟩ := ho
      have c := (hf (.who v) (by simp)).cell5 I h1
      have := ih (fun f m => hf f (by simp [m])) h4 h3 c.1
      have hu : v.cell < w.cell := hu
      simp only [List.length_cons]
      omega
theorem Ord.len17 (I : MI D Q Lo A F M) {r : List Fr} (hf : ∀ f ∈ r, FrOk D Lo A F t q f) (ho : Ord A r) : r.length ≤ 16 := by
  cases r with
  | nil => simp
  | cons f r =>
    cases f with
    | ent f => exact absurd ho (by simp [Ord])
    | who v =>
      obtain ⟨h1, h2, h3, h4⟩ := ho
      have c := (hf (.who v) (by simp)).cell5 I h1
      have := Ord.len I (fun f m => hf f (by simp [m])) h4 h3 c.1
      simp only [List.length_cons]
      omega
theorem ld_same {i : Int} (ok : A.ok) (h0 : 0 ≤ i) (h1 : i < 634) : ∀ j, 0 ≤ j → j < 634 → (A.ld i).at j = A.at j := fun j j0 j1 => at_ld ok h0 h1 j0 j1
theorem MI.pc1 (I : MI D Q Lo A F M) (hS : F t = ⟨q, .who w :: r⟩) (hq : q < 1048576) (hp : w.pc = 1) : Did D Q Lo A F M t r (w.step t q A) := by
  obtain ⟨d, st, hd, hg, hst, o, ph, dok⟩ := I.on hS
  have hb := base_range o.life.s0 o.life.s1 (i := 0) (by decide) (by decide)
  rw [Int.add_zero] at hb
  by_cases c : st = 0
  · subst c
    rw [step_ask_open o hp]
    exact I.did hS (I.ok.ld _) (ld_same I.ok (by omega) hb.2) ⟨Int.le_refl _, by omega, hq⟩ rfl rfl (fun _ _ _ _ => trivial) (fun h => by cases h) (fun _ _ _ _ _ h => .inl (RF.same h rfl (.inl (Nat.le_of_ble_eq_true rfl)))) (fun h => by omega) (hQ := fun _ => .inr fun d' hd' => by rw [hd] at hd'; cases hd'; exact (o.opn hg).1.2 rfl)
  · rw [step_ask_shut o hp (by omega)]
    refine I.did hS (I.ok.ld _) (ld_same I.ok (by omega) hb.2) ⟨Int.le_refl _, by omega, hq⟩ rfl rfl (fun d' hd' _ _ => ?_) (fun h => by cases h) (fun _ _ _ _ _ h => .inl (RF.same h rfl (.inl (Nat.le_of_ble_eq_true rfl)))) (fun h => by omega)
    rw [hd] at hd'; cases hd'
    have := o.opn hg
    show ¬ Opn A w.s d ∧ (decide (st = 1) = true ↔ Won A w.s d)
    rw [this.1, this.2, decide_eq_true_iff]
    exact ⟨c, Iff.rfl⟩
theorem MI.pc2 (I : MI D Q Lo A F M) (hS : F t = ⟨q, .who w :: r⟩) (hq : q < 1048576) (hp : w.pc = 2) : Did D Q Lo A F M t r (w.step t q A) := by
  obtain ⟨d, st, hd, hg, hst, o, ph, dok⟩ := I.on hS
  have hb := base_range o.life.s0 o.life.s1 (i := 1) (by decide) (by decide)
  rw [step_count o hp]
  refine I.did hS (I.ok.ld _) (ld_same I.ok (by omega) hb.2) ⟨Int.le_refl _, by omega, hq⟩ rfl rfl (fun d' hd' _ _ => ?_) (fun h => ?_) (fun _ _ _ _ _ h => .inl (RF.same h rfl (.inl ?_))) (fun h => by omega)
  · rw [hd] at hd'; cases hd'
    by_cases c : d.ds.length = 0
    · simp only [Ph, if_pos c]
      exact fun _ j e hj => absurd hj (by omega)
    · simp only [Ph, if_neg c]
      exact ⟨0, d.ds[0]'(by omega), ⟨rfl, rfl, List.getElem?_eq_getElem _⟩, fun _ j e hj => absurd hj (by omega)⟩
  · simp only at h; split at h <;> cases h
  · simp only; split <;> decide
theorem MI.pc3 (I : MI D Q Lo A F M) (hS : F t = ⟨q, .who w :: r⟩) (hq : q < 1048576) (hp : w.pc = 3) : Did D Q Lo A F M t r (w.step t q A) := by
  obtain ⟨d, st, hd, hg, hst, o, ph, dok⟩ := I.on hS
  simp only [Ph, hp] at ph
  obtain ⟨n, e, ix, h1⟩ := ph
  have hb := o.ent_addr ix.e (p := 0) (by decide) (by decide)
  rw [step_cell o hp ix.i ix.e]
  refine I.did hS (I.ok.ld _) (ld_same I.ok (by rw [ix.i]; omega) (by rw [ix.i]; exact hb.2)) ⟨Int.le_refl _, by omega, hq⟩ rfl rfl (fun d' hd' _ _ => ?_) (fun h => by cases h) (fun _ _ _ _ _ h => .inl (RF.same h rfl (.inl (Nat.le_of_ble_eq_true rfl)))) (fun h => by omega)
  rw [hd] at hd'; cases hd'
  exact ⟨n, e, ⟨ix.i, ix.k, ix.e⟩, h1, rfl⟩
theorem MI.pc4 (I : MI D Q Lo A F M) (hS : F t = ⟨q, .who w :: r⟩) (hq : q < 1048576) (hp : w.pc = 4) : Did D Q Lo A F M t r (w.step t q A) := by
  obtain ⟨d, st, hd, hg, hst, o, ph, dok⟩ := I.on hS
  simp only [Ph, hp] at ph
  obtain ⟨n, e, ix, h1, h2⟩ := ph
  have hb := o.ent_addr ix.e (p := 1) (by decide) (by decide)
  rw [step_was o hp ix.i ix.e]
  refine I.did hS (I.ok.ld _) (ld_same I.ok (by rw [ix.i]; omega) (by rw [ix.i]; exact hb.2)) ⟨Int.le_refl _, by omega, hq⟩ rfl rfl (fun d' hd' _ _ => ?_) (fun h => by cases h) (fun _ _ _ _ _ h => .inl (RF.same h rfl (.inl (Nat.le_of_ble_eq_true rfl)))) (fun h => by omega)
  rw [hd] at hd'; cases hd'
  exact ⟨n, e, ⟨ix.i, ix.k, ix.e⟩, h1, h2, rfl⟩
theorem MI.pc6 (I : MI D Q Lo A F M) (hS : F t = ⟨q, .who w :: r⟩) (hq : q < 1048576) (hp : w.pc = 6) : Did D Q Lo A F M t r (w.step t q A) := by
  obtain ⟨d, st, hd, hg, hst, o, ph, dok⟩ := I.on hS
  simp only [Ph, hp] at ph
  obtain ⟨n, e, ix, h1, h2, h3, h4⟩ := ph
  have hb := base_range o.life.s0 o.life.s1 (i := 0) (by decide) (by decide)
  rw [Int.add_zero] at hb
  have := o.opn hg
  rw [step_settled o hp hst.1 hst.2]
  refine I.did hS (I.ok.ld _) (ld_same I.ok (by omega) hb.2) ⟨Int.le_refl _, by omega, hq⟩ rfl rfl (fun d' hd' _ _ => ?_) (fun h => by cases h) (fun _ _ _ _ _ h => .inl (RF.same h rfl (.inl (Nat.le_of_ble_eq_true rfl)))) (fun h => .inl ⟨.inr rfl, rfl, rfl, rfl, rfl⟩)
  rw [hd] at hd'; cases hd'
  refine ⟨n, e, ⟨ix.i, ix.k, ix.e⟩, h1, h2, h3, h4, fun ho _ => ?_, fun ho => ?_⟩
  · show ¬ Won A w.s d
    have ho : decide (st = 0) = true := ho
    rw [this.2]; simp at ho; omega
  · show ¬ Opn A w.s d
    have ho : decide (st = 0) = false := ho
    rw [this.1]; simpa using ho
theorem MI.pc11 (I : MI D Q Lo A F M) (hS : F t = ⟨q, .who w :: r⟩) (hq : q < 1048576) (hp : w.pc = 11) : Did D Q Lo A F M t r (w.step t q A) := by
  obtain ⟨d, st, hd, hg, hst, o, ph, dok⟩ := I.on hS
  simp only [Ph, hp] at ph
  obtain ⟨n, e, ix, h1, h2⟩ := ph
  have hb := o.ent_addr ix.e (p := 0) (by decide) (by decide)
  rw [step_cell2 o hp ix.i ix.e]
  refine I.did hS (I.ok.ld _) (ld_same I.ok (by rw [ix.i]; omega) (by rw [ix.i]; exact hb.2)) ⟨Int.le_refl _, by omega, hq⟩ rfl rfl (fun d' hd' _ _ => ?_) (fun h => by cases h) (fun _ _ _ _ _ h => .inl (RF.same h rfl (.inr (.inr ⟨.inl hp, rfl⟩)))) (fun h => by omega)
  rw [hd] at hd'; cases hd'
  exact ⟨n, e, ⟨ix.i, ix.k, ix.e⟩, h1, h2, rfl⟩
theorem MI.pc12 (I : MI D Q Lo A F M) (hS : F t = ⟨q, .who w :: r⟩) (hq : q < 1048576) (hp : w.pc = 12) : Did D Q Lo A F M t r (w.step t q A) := by
  obtain ⟨d, st, hd, hg, hst, o, ph, dok⟩ := I.on hS
  simp only [Ph, hp] at ph
  obtain ⟨n, e, ix, h1, h2, h3⟩ := ph
  have hb1 := o.ent_addr ix.e (p := 1) (by decide) (by decide)
  have hb2 := o.ent_addr ix.e (p := 2) (by decide) (by decide)
  rw [step_will o hp ix.i ix.e]
  refine I.did hS (I.ok.ld _) (ld_same I.ok ?_ ?_) ⟨Int.le_refl _, by omega, hq⟩ rfl rfl (fun d' hd' _ _ => ?_) (fun h => by cases h) (fun _ _ _ _ _ h => .inl (RF.same h rfl (.inr (.inr ⟨.inr hp, rfl⟩)))) (fun h => by omega)
  · rw [ix.i]; split <;> omega
  · rw [ix.i]; split
    · exact hb2.2
    · exact hb1.2
  · rw [hd] at hd'; cases hd'
    exact ⟨n, e, ⟨ix.i, ix.k, ix.e⟩, h1, h2, h3, rfl⟩
theorem MI.pc14 (I : MI D Q Lo A F M) (hS : F t = ⟨q, .who w :: r⟩) (hq : q < 1048576) (hp : w.pc = 14) : Did D Q Lo A F M t r (w.step t q A) := by
  obtain ⟨d, st, hd, hg, hst, o, ph, dok⟩ := I.on hS
  simp only [Ph, hp] at ph
  obtain ⟨n, e, ix, h1, h2, h3, s', d', h4, hne, h5, h6⟩ := ph
  have hb := base_range o.life.s0 o.life.s1 (i := 0) (by decide) (by decide)
  rw [Int.add_zero] at hb
  have sp := o.opn hg
  have fs : (F t).fs = .who w :: r := by rw [hS]
  have fq : (F t).q = q := by rw [hS]
  have hv : (plainOf (A.at (baseOf w.s))).isSome = true := by rw [o.d.st]; exact stateW_val o.life.g0 o.life.g1 hst.1 (by omega)
  by_cases c : A.at (baseOf w.s) = stateW w.g 0
  · have hs : w.step t q A = ⟨.who { w with opn := decide (A.at (baseOf w.s) = stateW w.g 0), won := decide (A.at (baseOf w.s) = stateW w.g 1), pc := 5 }, read w.x, false, (plainOf (A.at (baseOf w.s))).isSome, A.ld (baseOf w.s), q⟩ := by
      unfold Wh.step; simp only [hp]; rw [if_pos (decide_eq_true c)]
    rw [hs, hv]
    generalize hw : ({ w with opn := decide (A.at (baseOf w.s) = stateW w.g 0), won := decide (A.at (baseOf w.s) = stateW w.g 1), pc := 5 } : Wh) = w'
    have ws : w'.s = w.s := by rw [← hw]
    have wg : w'.g = w.g := by rw [← hw]
    have wc : w'.cell = w.cell := by rw [← hw]
    have wp : w'.pc = 5 := by rw [← hw]
    have wi : w'.i = w.i := by rw [← hw]
    have wk' : w'.k = w.k := by rw [← hw]
    have wwas : w'.was = w.was := by rw [← hw]
    have hx : read w.x = some (.mcas s' d'.g) := by rw [h5]; exact mw_read (I.ds _ _ h4).1
    have hat : (some (Form.mcas s' d'.g)).bind newFr = some (.who (.new s' d'.g)) := rfl
    rw [hx]
    have ch := I.ch t
    rw [fs] at ch
    have hop : Opn A w.s d := by unfold Opn; rw [← hg]; exact c
    have hup := ch.2.1 hp c
    have hfr : ∀ f ∈ r, FrOk D Lo A F t q f := fun f m => by have := I.fr t f (by rw [fs]; simp [m]); rw [fq] at this; exact this
    have m := dok.lt ix.e
    refine ⟨rfl, fun f hf => ?_, (fun h => by cases h), by rw [fq]; exact ⟨Int.le_refl _, by simp only; omega⟩, Rel.same I (ld_same I.ok (by omega) hb.2), M, Turn.same I (ld_same I.ok (by omega) hb.2), ?_⟩
    · have := Ord.len I hfr ch.2.2 hup (by rw [h2]; exact m.2.1)
      rw [h2] at this
      omega
    · show MI D Q Lo (A.ld (baseOf w.s)) (setF F t ⟨q, .who (.new s' d'.g) :: .who w' :: r⟩) M
      refine I.quiet (I.ok.ld _) (ld_same I.ok (by omega) hb.2) ⟨by rw [fq]; exact Int.le_refl _, hq⟩ (I.t0 t (by rw [fs]; simp)) (fun f hf => ?_) ⟨?_, (fun h => by cases h), wp, ?_, ?_, ch.2.2⟩ (fun s1 d1 n1 e1 hd1 he1 hx => ?_) (fun v r' hv hpc => ?_) (fun v d1 hv hd1 hrq hdg => ?_) (fun f s1 d1 hf hr hd1 hrq => ?_)
      · rw [fq]
        rcases List.mem_cons.1 hf with rfl | hf
        · exact ⟨d', h4, rfl, trivial⟩
        · rcases List.mem_cons.1 hf with rfl | hf
          · refine ⟨d, by rw [ws]; exact hd, by rw [wg]; exact hg, ?_⟩
            simp only [Ph, wp]
            exact ⟨n, e, ⟨by rw [wi]; exact ix.i, by rw [wk']; exact ix.k, ix.e⟩, by rw [ws]; exact h1, by rw [wc]; exact h2, by rw [wwas]; exact h3⟩
          · exact hfr f hf
      · refine ⟨by rw [ws]; exact hne, ?_⟩
        show A.at (baseOf s') = stateW d'.g 0 → A.at w'.cell = mw s' d'.g
        intro ho
        rw [wc, ← h5]; exact h6 ho
      · have h1 := ch.1
        cases r with
        | nil => trivial
        | cons f r =>
          cases f with
          | ent f => trivial
          | who v =>
            simp only [Nx, ws, wg] at h1 ⊢
            exact h1
      · cases r with
        | nil => trivial
        | cons f r =>
          cases f with
          | ent f => trivial
          | who v =>
            simp only [Up, wc] at hup ⊢
            exact hup
      · obtain ⟨f, hf, hx⟩ := hx
        rw [fs] at hf
        left
        rcases List.mem_cons.1 hf with rfl | hf
        · exact ⟨.who w', by simp, by rw [ws]; exact hx.1, .inl (by omega)⟩
        · exact ⟨f, by simp [hf], hx⟩
      · rw [fs] at hv; cases hv; omega
      · rcases List.mem_cons.1 hv with e1 | hv
        · cases e1; exact absurd rfl hdg.1
        · rcases List.mem_cons.1 hv with e1 | hv
          · cases e1
            rw [ws] at hd1 ⊢
            exact I.qd t w d1 (by rw [fs]; simp) hd1 hrq ⟨by omega, .inr hp⟩
          · exact I.qd t v d1 (by rw [fs]; simp [hv]) hd1 hrq hdg
      · rcases List.mem_cons.1 hf with e1 | hf
        · subst e1
          rcases hr with h | ⟨h, _⟩
          · have h : s' = s1 := h
            subst h
            exact I.pf t (.who w) s' d1 (by rw [fs]; simp) (.inr ⟨hp, d'.g, (I.ds _ _ h4).1, h5⟩) hd1 hrq
          · cases h
        · rcases List.mem_cons.1 hf with e1 | hf
          · subst e1
            rcases hr with h | ⟨h, _⟩
            · rw [ws] at h
              exact I.pf t (.who w) s1 d1 (by rw [fs]; simp) (.inl h) hd1 hrq
            · omega
          · exact I.pf t f s1 d1 (by rw [fs]; simp [hf]) hr hd1 hrq
  · have hs : w.step t q A = ⟨.who { w with opn := decide (A.at (baseOf w.s) = stateW w.g 0), won := decide (A.at (baseOf w.s) = stateW w.g 1), pc := 10 }, none, false, (plainOf (A.at (baseOf w.s))).isSome, A.ld (baseOf w.s), q⟩ := by
      unfold Wh.step; simp only [hp]; rw [if_neg (by rw [decide_eq_true_iff]; exact c)]
    rw [hs, hv]
    refine I.did hS (I.ok.ld _) (ld_same I.ok (by omega) hb.2) ⟨Int.le_refl _, by omega, hq⟩ rfl rfl (fun d' hd' _ _ => ?_) (fun h => by cases h) (fun _ _ _ _ _ h => .inl (RF.same h rfl (.inl (Nat.le_of_ble_eq_true rfl)))) (fun h => by omega)
    rw [hd] at hd'; cases hd'
    refine ⟨by unfold Opn; rw [← hg]; exact c, ?_⟩
    show decide (A.at (baseOf w.s) = stateW w.g 1) = true ↔ A.at (baseOf w.s) = stateW d.g 1
    rw [decide_eq_true_iff, hg]
end
section
variable {D : Int → Option Dw} {Q : Qs} {Lo : Int → Prop} {A B : Ar} {F : Int → Stk} {M : Int → Int} {t q q' s : Int} {d : Dw} {n : Nat} {e : Sw} {w w' : Wh} {r : List Fr} {c x : Int}
structure One (A B : Ar) (c x : Int) : Prop where
  c0 : 0 ≤ c
  c1 : c < 16
  at_ : B.at c = x
  ne : ∀ j, 0 ≤ j → j < 634 → j ≠ c → B.at j = A.at j
theorem One.of_cas {o : Int} (ok : A.ok) (c0 : 0 ≤ c) (c1 : c < 16) (h : A.at c = o) : One A (A.cas c o x) c x :=
  ⟨c0, c1, by rw [at_cas ok c0 (by omega) c0 (by omega), if_pos rfl, if_pos h], fun j j0 j1 jn => by rw [at_cas ok c0 (by omega) j0 j1, if_neg (Ne.symm jn)]⟩
theorem cas_same {o : Int} (ok : A.ok) (c0 : 0 ≤ c) (c1 : c < 634) (h : A.at c ≠ o) : ∀ j, 0 ≤ j → j < 634 → (A.cas c o x).at j = A.at j := fun j j0 j1 => by
  rw [at_cas ok c0 c1 j0 j1, if_neg h]
  split
  · rename_i e; rw [e]
  · rfl
theorem One.base (O : One A B c x) (l : Life s d.g) : B.at (baseOf s) = A.at (baseOf s) := by
  have := base_at l
  have := O.c1
  exact O.ne _ (by omega) (by omega) (by omega)
theorem One.dok (O : One A B c x) (o : DOk A s d) : DOk B s d := o.cell fun j j0 j1 => by have := O.c1; exact O.ne j (by omega) j1 (by omega)
theorem ent_same {s' : Int} {d' : Dw} {n' : Nat} {e' : Sw} {t' q' : Int} (I : MI D Q Lo A F M) (hd : D s = some d) (hd' : D s' = some d') (he : d.ds[n]? = some e) (he' : d'.ds[n']? = some e')
    (t0 : 0 ≤ t ∧ t < 4) (t0' : 0 ≤ t' ∧ t' < 4) (q0 : 0 ≤ q ∧ q < 1048576) (q0' : 0 ≤ q' ∧ q' < 1048576) (h : ew s d.g n t q = ew s' d'.g n' t' q') : s = s' ∧ d = d' ∧ n = n' ∧ e = e' ∧ t = t' ∧ q = q' := by
  have o := I.ds _ _ hd; have o' := I.ds _ _ hd'
  obtain ⟨a, b, c, f, g⟩ := ew_inj o.1 o'.1 (o.lt he).1 (o'.lt he').1 t0 t0' q0 q0' h
  subst a
  rw [hd] at hd'; cases hd'
  subst c
  rw [he] at he'; cases he'
  exact ⟨rfl, rfl, rfl, rfl, f, g⟩
theorem mw_same {s' : Int} {d' : Dw} (I : MI D Q Lo A F M) (hd : D s = some d) (hd' : D s' = some d') (h : mw s d.g = mw s' d'.g) : s = s' ∧ d = d' := by
  obtain ⟨a, b⟩ := mw_inj (I.ds _ _ hd).1 (I.ds _ _ hd').1 h
  subst a
  rw [hd] at hd'; cases hd'
  exact ⟨rfl, rfl⟩
theorem Rel.put (I : MI D Q Lo A F M) (hS : (F t).q = q) (ht : 0 ≤ t ∧ t < 4) (hd : D s = some d) (he : d.ds[n]? = some e) (ha : A.at e.c = e.w * 4) (O : One A B e.c (ew s d.g n t q)) : Rel D F A B := by
  have hq := I.q0 t
  rw [hS] at hq
  refine ⟨fun s1 d1 h1 => ⟨fun h => by unfold Opn at h ⊢; rw [← O.base (I.ds _ _ h1).1]; exact h, fun _ => O.base (I.ds _ _ h1).1⟩, fun s1 d1 h1 _ c c0 c1 hc => ?_, fun s1 d1 n1 e1 t1 q1 h1 he1 _ _ _ hc => ?_, fun s1 d1 n1 e1 t1 q1 h1 he1 ht1 hq1 hc => ?_, fun s1 d1 n1 e1 h1 he1 hc => by
    have m := (I.ds _ _ h1).lt he1
    by_cases c : e1.c = e.c
    · rw [c, O.at_] at hc; exact absurd hc.symm mw_ew
    · rw [O.ne _ m.2.1 (by omega) c] at hc; exact .inl hc⟩
  · rw [O.ne c c0 (by omega) fun h => by subst h; rw [ha] at hc; exact mcas_not_val hc.symm]; exact hc
  · have m := (I.ds _ _ h1).lt he1
    rw [O.ne _ m.2.1 (by omega) fun h => by rw [h, ha] at hc; exact entry_not_val hc.symm]; exact .inl hc
  · have m := (I.ds _ _ h1).lt he1
    have wn : Won B s1 d1 → Won A s1 d1 := fun h => by unfold Won at h ⊢; rw [← O.base (I.ds _ _ h1).1]; exact h
    by_cases c : e1.c = e.c
    · exfalso
      rw [c, O.at_] at hc
      obtain ⟨a1, a2, a3, a4, a5, a6⟩ := ent_same I hd h1 he he1 ht ht1 hq ⟨hq1.1, by have := (I.q0 t1).2; omega⟩ hc
      subst a5
      omega
    · rw [O.ne _ m.2.1 (by omega) c] at hc; exact ⟨hc, wn⟩
theorem Rel.settle (I : MI D Q Lo A F M) (ht : 0 ≤ t ∧ t < 4) (hq : 0 ≤ q ∧ q < 1048576) (hd : D s = some d) (he : d.ds[n]? = some e) (ha : A.at e.c = ew s d.g n t q) (O : One A B e.c x) (hx : x = mw s d.g ∨ (∃ v, x = v * 4) ∧ ¬ Opn A s d) : Rel D F A B := by
  refine ⟨fun s1 d1 h1 => ⟨fun h => by unfold Opn at h ⊢; rw [← O.base (I.ds _ _ h1).1]; exact h, fun _ => O.base (I.ds _ _ h1).1⟩, fun s1 d1 h1 _ c c0 c1 hc => ?_, fun s1 d1 n1 e1 t1 q1 h1 he1 ht1 hq1 ho hc => ?_, fun s1 d1 n1 e1 t1 q1 h1 he1 ht1 hq1 hc => ?_, fun s1 d1 n1 e1 h1 he1 hc => by
    have m := (I.ds _ _ h1).lt he1
    by_cases c : e1.c = e.c
    · rw [c, O.at_] at hc
      rcases hx with hx | ⟨⟨v, hx⟩, _⟩
      · rw [hx] at hc
        obtain ⟨a1, a2⟩ := mw_same I hd h1 hc
        subst a1; subst a2
        have := sw_inj (I.ds _ _ hd).2.1 he1 he c
        subst this
        exact .inr ⟨t, q, ht, hq, by rw [c]; exact ha⟩
      · rw [hx] at hc; exact absurd hc.symm mcas_not_val
    · rw [O.ne _ m.2.1 (by omega) c] at hc; exact .inl hc⟩
  · rw [O.ne c c0 (by omega) fun h => by subst h; rw [ha] at hc; exact mw_ew hc.symm]; exact hc
  · have m := (I.ds _ _ h1).lt he1
    by_cases c : e1.c = e.c
    · right
      rw [c, ha] at hc
      obtain ⟨a1, a2, a3, a4, a5, a6⟩ := ent_same I hd h1 he he1 ht ht1 hq ⟨hq1.1, by have := (I.q0 t1).2; omega⟩ hc
      subst a1; subst a2
      rw [c, O.at_]
      rcases hx with hx | ⟨_, hx⟩
      · exact hx
      · unfold Opn at ho hx
        rw [O.base (I.ds _ _ h1).1] at ho
        exact absurd ho hx
    · rw [O.ne _ m.2.1 (by omega) c]; exact .inl hc
  · have m := (I.ds _ _ h1).lt he1
    have wn : Won B s1 d1 → Won A s1 d1 := fun h => by unfold Won at h ⊢; rw [← O.base (I.ds _ _ h1).1]; exact h
    by_cases c : e1.c = e.c
    · exfalso
      rw [c, O.at_] at hc
      rcases hx with hx | ⟨⟨v, hx⟩, _⟩
      · rw [hx] at hc; exact mw_ew hc
      · rw [hx] at hc; exact entry_not_val hc.symm
    · rw [O.ne _ m.2.1 (by omega) c] at hc; exact ⟨hc, wn⟩
theorem Rel.release (I : MI D Q Lo A F M) {v : Int} (hd : D s = some d) (he : d.ds[n]? = some e) (ha : A.at e.c = mw s d.g) (hn : ¬ Opn A s d) (O : One A B e.c (v * 4)) : Rel D F A B := by
  refine ⟨fun s1 d1 h1 => ⟨fun h => by unfold Opn at h ⊢; rw [← O.base (I.ds _ _ h1).1]; exact h, fun _ => O.base (I.ds _ _ h1).1⟩, fun s1 d1 h1 ho c c0 c1 hc => ?_, fun s1 d1 n1 e1 t1 q1 h1 he1 _ _ _ hc => ?_, fun s1 d1 n1 e1 t1 q1 h1 he1 ht1 hq1 hc => ?_, fun s1 d1 n1 e1 h1 he1 hc => by
    have m := (I.ds _ _ h1).lt he1
    by_cases c : e1.c = e.c
    · rw [c, O.at_] at hc; exact absurd hc.symm mcas_not_val
    · rw [O.ne _ m.2.1 (by omega) c] at hc; exact .inl hc⟩
  · rw [O.ne c c0 (by omega) fun h => ?_]
    · exact hc
    · subst h
      rw [ha] at hc
      obtain ⟨a1, a2⟩ := mw_same I hd h1 hc
      subst a1; subst a2
      unfold Opn at ho hn
      rw [O.base (I.ds _ _ h1).1] at ho
      exact hn ho
  · have m := (I.ds _ _ h1).lt he1
    rw [O.ne _ m.2.1 (by omega) fun h => by rw [h, ha] at hc; exact mw_ew hc]; exact .inl hc
  · have m := (I.ds _ _ h1).lt he1
    have wn : Won B s1 d1 → Won A s1 d1 := fun h => by unfold Won at h ⊢; rw [← O.base (I.ds _ _ h1).1]; exact h
    by_cases c : e1.c = e.c
    · exfalso
      rw [c, O.at_] at hc
      exact entry_not_val hc.symm
    · rw [O.ne _ m.2.1 (by omega) c] at hc; exact ⟨hc, wn⟩
structure Dec (A B : Ar) (s g x : Int) : Prop where
  op : A.at (baseOf s) = stateW g 0
  at_ : B.at (baseOf s) = stateW g x
  ne : ∀ j, 0 ≤ j → j < 634 → j ≠ baseOf s → B.at j = A.at j
theorem Dec.of_cas {g : Int} (ok : A.ok) (l : Life s d.g) (h : A.at (baseOf s) = stateW g 0) : Dec A (A.cas (baseOf s) (stateW g 0) (stateW g x)) s g x := by
  have b := base_at l
  exact ⟨h, by rw [at_cas ok (by omega) b.2 (by omega) b.2, if_pos rfl, if_pos h], fun j j0 j1 jn => by rw [at_cas ok (by omega) b.2 j0 j1, if_neg (Ne.symm jn)]⟩
theorem base_ne {s s' : Int} (h : s ≠ s') : baseOf s ≠ baseOf s' := by unfold baseOf; omega
theorem Dec.other (O : Dec A B s d.g x) {s' : Int} {d' : Dw} (l : Life s' d'.g) (h : s' ≠ s) : B.at (baseOf s') = A.at (baseOf s') := by
  have b := base_at l
  exact O.ne _ (by omega) b.2 (base_ne h)
theorem Dec.cell (O : Dec A B s d.g x) (l : Life s d.g) (c0 : 0 ≤ c) (c1 : c < 16) : B.at c = A.at c := by
  have b := base_at l
  exact O.ne _ c0 (by omega) (by omega)
theorem Dec.dok (x0 : 0 ≤ x ∧ x < 3) (O : Dec A B s d.g x) (l : Life s d.g) {s' : Int} {d' : Dw} (hs : s' = s → d' = d) (o : DOk A s' d') : DOk B s' d' := by
  obtain ⟨l', m, st, hst, D⟩ := o
  have hl := sw_len m
  have lt : ∀ (i : Nat) d, d'.ds[i]? = some d → (i : Int) < 16 := fun i d e => by have := (List.getElem?_eq_some_iff.1 e).1; omega
  have := l'.s0; have := l'.s1
  by_cases c : s' = s
  · have e := hs c; subst e; subst c
    have ne : ∀ i : Int, 1 ≤ i → i < 50 → B.at (baseOf s' + i) = A.at (baseOf s' + i) := fun i i0 i1 => O.ne _ (by unfold baseOf; omega) (by unfold baseOf; omega) (by omega)
    refine ⟨l', m, x, x0, O.at_, by rw [ne 1 (by omega) (by omega)]; exact D.cnt, fun i d e => ?_, fun i d e => ?_, fun i d e => ?_⟩
    · have := lt i d e; rw [ne _ (by omega) (by omega)]; exact D.c i d e
    · have := lt i d e; rw [ne _ (by omega) (by omega)]; exact D.w i d e
    · have := lt i d e; rw [ne _ (by omega) (by omega)]; exact D.n i d e
  · refine ⟨l', m, st, hst, D.keep m fun j j0 j1 => O.ne j (by unfold baseOf at j0; omega) (by unfold baseOf at j1; omega) ?_⟩
    unfold baseOf at j0 j1 ⊢; omega
theorem Rel.decide (I : MI D Q Lo A F M) (hd : D s = some d) (O : Dec A B s d.g x) (x0 : x = 1 ∨ x = 2) (hw : x = 1 → Held A s d d.ds.length) : Rel D F A B := by
  have l := (I.ds _ _ hd).1
  have nop : ∀ {d1}, D s = some d1 → ¬ Opn B s d1 := fun {d1} h1 h => by
    rw [hd] at h1; cases h1
    unfold Opn at h
    rw [O.at_, stateW_inj] at h
    omega
  refine ⟨fun s1 d1 h1 => ?_, fun s1 d1 h1 ho c c0 c1 hc => by rw [O.cell l c0 c1]; exact hc, fun s1 d1 n1 e1 t1 q1 h1 he1 _ _ _ hc => ?_, fun s1 d1 n1 e1 t1 q1 h1 he1 ht1 hq1 hc => ?_, fun s1 d1 n1 e1 h1 he1 hc => by
    have m := (I.ds _ _ h1).lt he1
    rw [O.cell l m.2.1 m.2.2.1] at hc; exact .inl hc⟩
  · by_cases c : s1 = s
    · subst c
      refine ⟨fun h => absurd h (nop h1), fun h => ?_⟩
      rw [hd] at h1; cases h1
      exact absurd O.op h
    · have := O.other (I.ds _ _ h1).1 c
      exact ⟨fun h => by unfold Opn at h ⊢; rw [← this]; exact h, fun _ => this⟩
  · have m := (I.ds _ _ h1).lt he1
    rw [O.cell l m.2.1 m.2.2.1]; exact .inl hc
  · have m := (I.ds _ _ h1).lt he1
    rw [O.cell l m.2.1 m.2.2.1] at hc
    refine ⟨hc, fun h => ?_⟩
    by_cases c : s1 = s
    · subst c
      rw [hd] at h1; cases h1
      exfalso
      unfold Won at h
      rw [O.at_, stateW_inj] at h
      have hh := hw h n1 e1 (List.getElem?_eq_some_iff.1 he1).1 he1
      rw [hh] at hc
      exact mw_ew hc
    · unfold Won at h ⊢; rw [← O.other (I.ds _ _ h1).1 c]; exact h
theorem Resp.set {fs' : List Fr} (h : Resp Q F s n) (k : (∃ f, f ∈ (F t).fs ∧ RF s n f) → ∃ f, f ∈ fs' ∧ RF s n f) : Resp Q (setF F t ⟨q', fs'⟩) s n := by
  obtain ⟨u, f, hqt, hf, hr⟩ := h
  by_cases c : u = t
  · subst c
    obtain ⟨f', a, b⟩ := k ⟨f, hf, hr⟩
    exact ⟨u, f', hqt, by rw [setF_at]; exact a, b⟩
  · exact ⟨u, f, hqt, by rw [setF_ne c]; exact hf, hr⟩
end
section
variable {D : Int → Option Dw} {Q : Qs} {Lo : Int → Prop} {A B : Ar} {F : Int → Stk} {M : Int → Int} {t q q' s : Int} {d : Dw} {n : Nat} {e : Sw} {w w' : Wh} {r : List Fr}
def LoB (D : Int → Option Dw) (Lo : Int → Prop) (A : Ar) (M : Int → Int) : Prop := ∀ (s : Int) (d : Dw) (n : Nat) (e : Sw), D s = some d → d.ds[n]? = some e → Opn A s d → M e.c ≠ e.w * 4 → Lo s
theorem Held.succ (h : Held A s d n) (he : d.ds[n]? = some e) (ha : A.at e.c = mw s d.g) : Held A s d (n + 1) := fun j e' hj he' => by
  by_cases c : j = n
  · subst c; rw [he] at he'; cases he'; exact ha
  · exact h j e' (by omega) he'
theorem Ph.next {L : Prop} (ix : Ix d w n e) (h : Opn A w.s d → Held A w.s d (n + 1)) : Ph D L A t q d (w.next 3 8) := by
  have hn := (List.getElem?_eq_some_iff.1 ix.e).1
  have hi := ix.i; have hk := ix.k
  unfold Wh.next
  by_cases c : w.k ≤ w.i + 1
  · simp only [Ph, if_pos c]
    intro ho j e' hj he'
    exact h ho j e' (by omega) he'
  · simp only [Ph, if_neg c]
    exact ⟨n + 1, d.ds[n + 1]'(by omega), ⟨by simp only; omega, hk, List.getElem?_eq_getElem _⟩, h⟩
theorem next_pc {more stop : Nat} : (w.next more stop).pc = more ∨ (w.next more stop).pc = stop := by
  unfold Wh.next; simp only; split
  · exact .inr rfl
  · exact .inl rfl
theorem entry_I64 (l : Life s d.g) (hn : n < 16) (t0 : 0 ≤ t ∧ t < 4) (q0 : 0 ≤ q ∧ q < 1048576) : I64 (ew s d.g n t q) := entry_range (e := (n : Int)) l (by omega) (by omega) t0.1 t0.2 q0.1 q0.2
theorem Nx.mono (es : w'.s = w.s) (eg : w'.g = w.g) (h : Nx A w r) : Nx A w' r := by
  cases r with
  | nil => trivial
  | cons f r =>
    cases f with
    | ent f => trivial
    | who v => simp only [Nx, es, eg] at h ⊢; exact h
theorem MI.pc5 (I : MI D Q Lo A F M) (hqp : QP D Q F) (hL : LoB D Lo A M) (hS : F t = ⟨q, .who w :: r⟩) (hq : q + 1 < 1048576) (hp : w.pc = 5) : Did D Q Lo A F M t r (w.step t q A) := by
  obtain ⟨d, st, hd, hg, hst, o, ph, dok⟩ := I.on hS
  simp only [Ph, hp] at ph
  obtain ⟨n, e, ix, h1, h2, h3⟩ := ph
  have fs : (F t).fs = .who w :: r := by rw [hS]
  have fq : (F t).q = q := by rw [hS]
  have ht := I.t0 t (by rw [fs]; simp)
  have q0 : 0 ≤ q := by have := (I.q0 t).1; rw [fq] at this; exact this
  have m := dok.lt ix.e
  have hpe : (Form.entry w.s w.g w.i t q).number = ew w.s d.g n t q := by rw [hg, ix.i]; rfl
  have pr := entry_I64 (n := n) dok.1 m.1 ht ⟨q0, by omega⟩
  have hq1 : (q + 1) % 1048576 = q + 1 := by omega
  have okB := I.ok.cas w.cell w.was pr
  have hqq : q ≤ q + 1 ∧ q + 1 ≤ q + 1 ∧ q + 1 < 1048576 := ⟨by omega, by omega, hq⟩
  have ch := I.ch t
  rw [fs] at ch
  have hfr : ∀ f ∈ r, FrOk D Lo A F t q f := fun f m => by have := I.fr t f (by rw [fs]; simp [m]); rw [fq] at this; exact this
  rw [Wh.step5 hp]
  unfold Wh.swapIn
  simp only [hpe, hq1]
  by_cases c : A.at w.cell = w.was
  · rw [if_pos c]
    have O : One A (A.cas w.cell w.was (ew w.s d.g n t q)) e.c (ew w.s d.g n t q) := by
      have := One.of_cas (x := ew w.s d.g n t q) I.ok (by rw [h2]; exact m.2.1) (by rw [h2]; exact m.2.2.1) c
      rw [h2] at this ⊢; exact this
    generalize A.cas w.cell w.was (ew w.s d.g n t q) = B at okB O
    rw [h2, h3] at c
    have R := Rel.put I fq ht hd ix.e c O
    generalize hw : ({ w with put := ew w.s d.g n t q, pc := 6 } : Wh) = w'
    have ws : w'.s = w.s := by rw [← hw]
    have wg : w'.g = w.g := by rw [← hw]
    have wc : w'.cell = w.cell := by rw [← hw]
    have wp : w'.pc = 6 := by rw [← hw]
    have wi : w'.i = w.i := by rw [← hw]
    have wk' : w'.k = w.k := by rw [← hw]
    have wwas : w'.was = w.was := by rw [← hw]
    have wput : w'.put = ew w.s d.g n t q := by rw [← hw]
    have hF : ∀ u, (F u).q ≤ (setF F t ⟨q + 1, .who w' :: r⟩ u).q := fun u => by
      by_cases c : u = t
      · subst c; rw [setF_at, fq]; show q ≤ q + 1; omega
      · rw [setF_ne c]; exact Int.le_refl _
    refine ⟨rfl, (fun f h => by cases h), (fun h => by cases h), by rw [fq]; exact ⟨by simp only; omega, Int.le_refl _⟩, R, M, ⟨R.st, .inl ⟨rfl, fun s d hd => by unfold Won; rw [O.base (I.ds _ _ hd).1]⟩⟩, ?_⟩
    show MI D Q Lo B (setF F t ⟨q + 1, .who w' :: r⟩) M
    refine I.go okB (fun s d hd => O.dok (I.ds _ _ hd)) R ⟨by rw [fq]; omega, hq⟩ ht (fun f hf => ?_) (R.chain I (fun v hv => ?_) (fun f hf => hfr f hf) ⟨Nx.mono ws wg ch.1, fun h => by omega, ch.2.2⟩) (fun s1 d1 n1 e1 hd1 he1 hx => ?_) (fun v r' hv hpc => ?_) (fun c' c0 c1 => ?_) (fun s1 d1 hd1 hl => I.lost s1 d1 hd1 (by rw [← O.base (I.ds _ _ hd1).1]; exact hl)) (fun v d1 hv hd1 hrq hdg => ?_) (fun f s1 d1 hf hr hd1 hrq => ?_)
    · rcases List.mem_cons.1 hf with rfl | hf
      · refine ⟨d, by rw [ws]; exact hd, by rw [wg]; exact hg, ?_⟩
        simp only [Ph, wp]
        refine ⟨n, e, ⟨by rw [wi]; exact ix.i, by rw [wk']; exact ix.k, ix.e⟩, by rw [ws]; exact R.held dok hd h1, by rw [wc]; exact h2, by rw [wwas]; exact h3, fun _ => .inl ?_, q, by rw [wput, ws], q0, by omega⟩
        rw [wc, wput, h2]; exact O.at_
      · exact R.fr I hF ht (by rw [fq]; exact Int.le_refl _) (by omega) (hfr f hf)
    · simp at hv; subst hv; exact ⟨d, by rw [ws]; exact hd, by rw [wg]; exact hg⟩
    · obtain ⟨f, hf, hx⟩ := hx
      rw [fs] at hf
      left
      rcases List.mem_cons.1 hf with rfl | hf
      · exact ⟨.who w', by simp, by rw [ws]; exact hx.1, .inl (by omega)⟩
      · exact ⟨f, by simp [hf], hx⟩
    · rw [fs] at hv; cases hv; omega
    · by_cases cc : c' = e.c
      · right
        subst cc
        have hc := I.cells e.c c0 c1
        have hm : M e.c = e.w * 4 := by
          cases hc with
          | val h m => rw [m]; exact c
          | mc _ _ _ ha => rw [ha] at c; exact absurd c mcas_not_val
          | en _ _ _ ha => rw [ha] at c; exact absurd c entry_not_val
        exact .en hd ix.e rfl O.at_ ht ⟨q0, by rw [setF_at]; show q < q + 1; omega⟩ hm (w := w') (r := r) (by rw [setF_at]) ⟨ws, by rw [wi]; exact ix.i, by rw [wc]; exact h2, by rw [wwas]; exact h3, by rw [wput, O.at_], .inl wp⟩
      · exact .inl ⟨O.ne c' c0 (by omega) cc, rfl, fun s d hd _ => by unfold Won; rw [O.base (I.ds _ _ hd).1]⟩
    · rcases List.mem_cons.1 hv with e1 | hv
      · cases e1
        rw [ws] at hd1 ⊢
        exact I.qd t w d1 (by rw [fs]; simp) hd1 hrq ⟨by omega, .inl (by omega)⟩
      · exact I.qd t v d1 (by rw [fs]; simp [hv]) hd1 hrq hdg
    · rcases List.mem_cons.1 hf with e1 | hf
      · subst e1
        rcases hr with h | ⟨h, _⟩
        · rw [ws] at h
          exact I.pf t (.who w) s1 d1 (by rw [fs]; simp) (.inl h) hd1 hrq
        · omega
      · exact I.pf t f s1 d1 (by rw [fs]; simp [hf]) hr hd1 hrq
  · rw [if_neg c]
    have same := cas_same (x := ew w.s d.g n t q) I.ok (by rw [h2]; exact m.2.1) (by rw [h2]; omega) c
    generalize A.cas w.cell w.was (ew w.s d.g n t q) = B at okB same
    rw [h2, h3] at c
    have hc := I.cells e.c m.2.1 m.2.2.1
    cases hc with
    | @val v h mm =>
      have vr := val_read h
      rw [show read (A.at w.cell) = some (.val v) by rw [h2]; exact vr.1]
      refine I.did hS okB same hqq rfl rfl (fun d' hd' _ _ => ?_) (fun h => by cases h) (fun _ _ _ _ _ h => .inl (RF.same h rfl (.inl (Nat.le_of_ble_eq_true rfl)))) (fun h => by omega)
      rw [hd] at hd'; cases hd'
      show Opn A w.s d → Lo w.s
      exact fun ho => hL w.s d n e hd ix.e ho (by rw [mm]; exact c)
    | @mc s1 d1 n1 e1 hd1 he1 hc1 ha1 m1 m0 hh rr =>
      rw [show read (A.at w.cell) = some (.mcas s1 d1.g) by rw [h2, ha1]; exact mw_read (I.ds _ _ hd1).1]
      by_cases cs : s1 = w.s ∧ d1.g = w.g
      · simp only [if_pos cs]
        obtain ⟨cs1, cs2⟩ := cs
        subst cs1
        have hdd : d1 = d := by rw [hd] at hd1; exact (Option.some.inj hd1).symm
        subst hdd
        generalize hw : ({ w with put := ew w.s d1.g n t q } : Wh) = w'
        have ix' : Ix d1 w' n e := by rw [← hw]; exact ⟨ix.i, ix.k, ix.e⟩
        have ws : w'.s = w.s := by rw [← hw]
        have wg : w'.g = w.g := by rw [← hw]
        refine I.did hS okB same hqq (show w'.s = w.s from ws) (show w'.g = w.g from wg) (fun d' hd' _ _ => ?_) (fun h => ?_) (fun _ _ _ _ _ h => .inl (RF.same h (show w'.s = w.s from ws) (.inl ?_))) (fun h => by omega) (hP := fun h => by rcases next_pc (w := w') (more := 3) (stop := 8) with h' | h' <;> rw [h'] at h <;> cases h)
        · rw [hd] at hd'; cases hd'
          exact Ph.next ix' (by rw [ws]; exact fun ho => (h1 ho).succ ix.e ha1)
        · rcases next_pc (w := w') (more := 3) (stop := 8) with h' | h' <;> rw [h'] at h <;> cases h
        · rcases next_pc (w := w') (more := 3) (stop := 8) with h' | h' <;> rw [h'] <;> decide
      · simp only [if_neg cs]
        refine I.did hS okB same hqq rfl rfl (fun d' hd' _ _ => ?_) (fun _ ho => ?_) (fun _ _ _ _ _ h => .inl (RF.same h rfl (.inr (.inl rfl)))) (fun h => by omega) (hP := fun _ => .inr fun s3 g3 d3 l3 hx3 hd3 hrq3 => by
          have hx3 : A.at w.cell = mw s3 g3 := hx3
          rw [h2, ha1] at hx3
          obtain ⟨a1, a2⟩ := mw_inj (d := d1) (d' := ⟨g3, [], True⟩) (I.ds _ _ hd1).1 l3 hx3
          subst a1
          rw [hd1] at hd3; cases hd3
          obtain ⟨t', f, hqt, hf, _⟩ := rr hrq3
          exact hqp _ _ t t' hd1 hrq3 hqt (List.ne_nil_of_mem hf))
        · rw [hd] at hd'; cases hd'
          exact ⟨n, e, ⟨ix.i, ix.k, ix.e⟩, h1, h2, h3, s1, d1, hd1, (fun h => by subst h; rw [hd] at hd1; cases hd1; exact cs ⟨rfl, hg.symm⟩), (by show A.at w.cell = _; rw [h2]; exact ha1), fun _ => rfl⟩
        · have hnx := ch.1
          have hod := ch.2.2
          cases r with
          | nil => trivial
          | cons f r =>
            cases f with
            | ent f => trivial
            | who v =>
              show v.cell < w.cell
              have hv : A.at v.cell = mw w.s w.g := hnx.2 ho
              have vc := (hfr (.who v) (by simp)).cell5 I hod.1
              have hop : Opn A w.s d := by unfold Opn; rw [← hg]; exact ho
              cases I.cells v.cell vc.1 vc.2 with
              | val h mm => have := (val_read h).2.1; rw [hv] at this; exact absurd this mcas_not_val
              | en _ _ _ ha => rw [hv] at ha; exact absurd ha mw_ew
              | @mc s2 d2 n2 e2 hd2 he2 hc2 ha2 _ _ hh2 _ =>
                rw [hv, hg] at ha2
                obtain ⟨a1, a2⟩ := mw_same I hd hd2 ha2
                subst a1; subst a2
                have hne : n2 ≠ n := fun h => by
                  subst h
                  rw [ix.e] at he2; cases he2
                  rw [← hc2, ha1] at hv
                  have := mw_inj (d := d1) (d' := d) (I.ds _ _ hd1).1 dok.1 (by rw [← hg]; exact hv)
                  exact cs ⟨this.1, by rw [this.2, hg]⟩
                have hlt : n2 < n := by
                  rcases Nat.lt_trichotomy n2 n with h | h | h
                  · exact h
                  · exact absurd h hne
                  · have := hh2 hop n e h ix.e
                    rw [ha1] at this
                    have := mw_inj (d := d1) (d' := d) (I.ds _ _ hd1).1 dok.1 this
                    exact absurd ⟨this.1, by rw [this.2, hg]⟩ cs
                have mm := dok.2.1
                unfold swMay at mm; simp only [Bool.and_eq_true, decide_eq_true_eq] at mm
                have := swOk_mono mm.2 n2 n e2 e he2 ix.e hlt
                rw [h2, ← hc2]; exact this
    | @en s1 d1 n1 e1 t1 q1 hd1 he1 hc1 ha1 t10 q10 mm w1 r1 ho1 own1 =>
      have l1 := (I.ds _ _ hd1)
      have m1 := l1.lt he1
      have qq := (I.q0 t1).2
      have hr : read (A.at w.cell) = some (.entry s1 d1.g n1 t1 q1) := by rw [h2, ha1]; exact read_number (ew_range l1.1 m1.1 t10 ⟨q10.1, by omega⟩)
      rw [hr]
      generalize hw : ({ w with put := ew w.s d.g n t q } : Wh) = w'
      have ws : w'.s = w.s := by rw [← hw]
      have wg : w'.g = w.g := by rw [← hw]
      have wc : w'.cell = w.cell := by rw [← hw]
      have wp : w'.pc = 5 := by rw [← hw]; exact hp
      have wi : w'.i = w.i := by rw [← hw]
      have wk' : w'.k = w.k := by rw [← hw]
      have wwas : w'.was = w.was := by rw [← hw]
      have ord := Ord.len17 I hfr ch.2.2
      refine ⟨rfl, fun f hf => by omega, (fun h => by cases h), by rw [fq]; exact ⟨by simp only; omega, Int.le_refl _⟩, Rel.same I same, M, Turn.same I same, ?_⟩
      show MI D Q Lo B (setF F t ⟨q + 1, .ent (.new s1 d1.g n1 t1 q1) :: .who w' :: r⟩) M
      refine I.quiet okB same ⟨by rw [fq]; omega, hq⟩ ht (fun f hf => ?_) ⟨wp, Nx.mono ws wg ch.1, ch.2.2⟩ (fun s2 d2 n2 e2 hd2 he2 hx => ?_) (fun v r' hv hpc => ?_) (fun v d2 hv hd2 hrq hdg => ?_) (fun f s2 d2 hf hr hd2 hrq => ?_)
      · rw [fq]
        rcases List.mem_cons.1 hf with rfl | hf
        · exact ⟨d1, e1, n1, hd1, rfl, rfl, he1, q10, t10, trivial⟩
        · rcases List.mem_cons.1 hf with rfl | hf
          · refine ⟨d, by rw [ws]; exact hd, by rw [wg]; exact hg, ?_⟩
            simp only [Ph, wp]
            exact ⟨n, e, ⟨by rw [wi]; exact ix.i, by rw [wk']; exact ix.k, ix.e⟩, by rw [ws]; exact h1, by rw [wc]; exact h2, by rw [wwas]; exact h3⟩
          · exact hfr f hf
      · obtain ⟨f, hf, hx⟩ := hx
        rw [fs] at hf
        left
        rcases List.mem_cons.1 hf with rfl | hf
        · exact ⟨.who w', by simp, by rw [ws]; exact hx.1, .inl (by omega)⟩
        · exact ⟨f, by simp [hf], hx⟩
      · rw [fs] at hv; cases hv; omega
      · rcases List.mem_cons.1 hv with e2 | hv
        · cases e2
        · rcases List.mem_cons.1 hv with e2 | hv
          · cases e2
            rw [ws] at hd2 ⊢
            exact I.qd t w d2 (by rw [fs]; simp) hd2 hrq ⟨by omega, .inl (by omega)⟩
          · exact I.qd t v d2 (by rw [fs]; simp [hv]) hd2 hrq hdg
      · rcases List.mem_cons.1 hf with e2 | hf
        · subst e2
          have hr : s1 = s2 := hr
          subst hr
          rw [hd1] at hd2; cases hd2
          have os := own1.s
          have hq1 := I.qd t1 w1 d1 (by rw [ho1]; simp) (by rw [os]; exact hd1) hrq (by rcases own1.pc with h | h <;> exact ⟨by omega, .inl (by omega)⟩)
          rw [os] at hq1
          exact hqp _ _ t t1 hd1 hrq hq1 (by rw [ho1]; simp)
        · rcases List.mem_cons.1 hf with e2 | hf
          · subst e2
            rcases hr with h | ⟨h, _⟩
            · rw [ws] at h
              exact I.pf t (.who w) s2 d2 (by rw [fs]; simp) (.inl h) hd2 hrq
            · omega
          · exact I.pf t f s2 d2 (by rw [fs]; simp [hf]) hr hd2 hrq
end
section
variable {D : Int → Option Dw} {Q : Qs} {Lo : Int → Prop} {A B : Ar} {F : Int → Stk} {M : Int → Int} {t q q' s : Int} {d : Dw} {n : Nat} {e : Sw} {w w' : Wh} {r : List Fr} {c x : Int}
theorem val64 {v : Int} (h0 : 0 ≤ v) (h1 : v < 1099511627776) : I64 (v * 4) := by constructor <;> omega
theorem mw_I64 (l : Life s d.g) : I64 (mw s d.g) := by
  have := l.s0; have := l.s1; have := l.g0; have := l.g1
  unfold mw; simp only [Form.number]; constructor <;> omega
theorem MI.was (I : MI D Q Lo A F M) (ht : 0 ≤ t ∧ t < 4) (hq : 0 ≤ q ∧ q < 1048576) (hd : D s = some d) (he : d.ds[n]? = some e) (ha : A.at e.c = ew s d.g n t q) :
    M e.c = e.w * 4 ∧ (d.rq → Resp Q F s n) ∧ (Opn A s d → Held A s d n) := by
  have m := (I.ds _ _ hd).lt he
  cases I.cells e.c m.2.1 m.2.2.1 with
  | val h mm => have := (val_read h).2.1; rw [ha] at this; exact absurd this entry_not_val
  | mc _ _ _ ha' => rw [ha] at ha'; exact absurd ha'.symm mw_ew
  | @en s1 d1 n1 e1 t1 q1 hd1 he1 hc1 ha1 t10 q10 mm w r ho o =>
    rw [ha] at ha1
    obtain ⟨a1, a2, a3, a4, a5, a6⟩ := ent_same I hd hd1 he he1 ht t10 hq ⟨q10.1, by have := (I.q0 t1).2; omega⟩ ha1
    subst a1; subst a2; subst a3; subst a4; subst a5; subst a6
    refine ⟨mm, fun hrq => ⟨t, .who w, ?_, by rw [ho]; simp, o.s, ?_⟩, fun hop => ?_⟩
    · have := I.qd t w d (by rw [ho]; simp) (by rw [o.s]; exact hd) hrq (by rcases o.pc with h | h <;> exact ⟨by omega, .inl (by omega)⟩)
      rw [o.s] at this; exact this
    · rcases o.pc with h | h <;> exact .inl (by omega)
    · obtain ⟨d', b1, b2, b3⟩ := I.fr t (.who w) (by rw [ho]; simp)
      have os := o.s
      subst os
      rw [hd] at b1; cases b1
      have oi := o.i
      unfold Ph at b3
      rcases o.pc with h | h
      · simp only [h] at b3
        obtain ⟨n', e', ix, hh, _⟩ := b3
        have := ix.i
        have : n' = n := by omega
        subst this
        exact hh hop
      · simp only [h] at b3
        obtain ⟨n', e', ix, hh, _⟩ := b3
        have := ix.i
        have : n' = n := by omega
        subst this
        exact hh hop
theorem MI.pc7 (I : MI D Q Lo A F M) (hS : F t = ⟨q, .who w :: r⟩) (hq : q < 1048576) (hp : w.pc = 7) : Did D Q Lo A F M t r (w.step t q A) := by
  obtain ⟨d, st, hd, hg, hst, o, ph, dok⟩ := I.on hS
  simp only [Ph, hp] at ph
  obtain ⟨n, e, ix, h1, h2, h3, ⟨h4, q1, h5, q10, q11⟩, h6, h7⟩ := ph
  have fs : (F t).fs = .who w :: r := by rw [hS]
  have fq : (F t).q = q := by rw [hS]
  have ht := I.t0 t (by rw [fs]; simp)
  have m := dok.lt ix.e
  have hqq : q ≤ q ∧ q ≤ q + 1 ∧ q < 1048576 := ⟨by omega, by omega, hq⟩
  have ch := I.ch t
  rw [fs] at ch
  have hfr : ∀ f ∈ r, FrOk D Lo A F t q f := fun f m => by have := I.fr t f (by rw [fs]; simp [m]); rw [fq] at this; exact this
  have hs : w.step t q A = ⟨.who (w.next 3 8), none, false, true, A.cas w.cell w.put (if w.opn then w.mine else w.was), q⟩ := by unfold Wh.step; simp only [hp]
  have hmine : w.mine = mw w.s d.g := by unfold Wh.mine; rw [hg]; rfl
  rw [hs, hmine, h3]
  have hx : I64 (if w.opn = true then mw w.s d.g else e.w * 4) := by
    split
    · exact mw_I64 dok.1
    · exact val64 m.2.2.2.1 m.2.2.2.2.1
  have okB := I.ok.cas w.cell w.put hx
  have ns : (w.next 3 8).s = w.s ∧ (w.next 3 8).g = w.g := ⟨rfl, rfl⟩
  by_cases c : A.at w.cell = w.put
  · rw [h2] at c okB ⊢
    have O := One.of_cas (x := if w.opn = true then mw w.s d.g else e.w * 4) I.ok m.2.1 m.2.2.1 c
    generalize A.cas e.c w.put (if w.opn = true then mw w.s d.g else e.w * 4) = B at okB O
    rw [h5] at c
    have hx' : (if w.opn = true then mw w.s d.g else e.w * 4) = mw w.s d.g ∨ (∃ v, (if w.opn = true then mw w.s d.g else e.w * 4) = v * 4) ∧ ¬ Opn A w.s d := by
      cases ho : w.opn with
      | true => left; rfl
      | false => exact .inr ⟨⟨e.w, rfl⟩, h7 ho⟩
    have R := Rel.settle I ht ⟨q10, by omega⟩ hd ix.e c O hx'
    obtain ⟨hM, hRs, hHd⟩ := I.was ht ⟨q10, by omega⟩ hd ix.e c
    refine ⟨rfl, (fun f h => by cases h), (fun h => by cases h), by rw [fq]; exact ⟨Int.le_refl _, by simp only; omega⟩, R, M, ⟨R.st, .inl ⟨rfl, fun s d hd => by unfold Won; rw [O.base (I.ds _ _ hd).1]⟩⟩, ?_⟩
    show MI D Q Lo B (setF F t ⟨q, .who (w.next 3 8) :: r⟩) M
    have hF : ∀ u, (F u).q ≤ (setF F t ⟨q, .who (w.next 3 8) :: r⟩ u).q := fun u => by
      by_cases c : u = t
      · subst c; rw [setF_at, fq]; exact Int.le_refl _
      · rw [setF_ne c]; exact Int.le_refl _
    have np : (w.next 3 8).pc ≤ 10 := by rcases next_pc (w := w) (more := 3) (stop := 8) with h' | h' <;> rw [h'] <;> decide
    have np14 : (w.next 3 8).pc ≠ 14 := by rcases next_pc (w := w) (more := 3) (stop := 8) with h' | h' <;> rw [h'] <;> decide
    have hRR : ∀ s1 n1, (∃ f, f ∈ (F t).fs ∧ RF s1 n1 f) → ∃ f, f ∈ (.who (w.next 3 8) :: r) ∧ RF s1 n1 f := fun s1 n1 hx => by
      obtain ⟨f, hf, hx⟩ := hx
      rw [fs] at hf
      rcases List.mem_cons.1 hf with rfl | hf
      · exact ⟨.who (w.next 3 8), by simp, hx.1, .inl np⟩
      · exact ⟨f, by simp [hf], hx⟩
    refine I.go okB (fun s d hd => O.dok (I.ds _ _ hd)) R ⟨by rw [fq]; exact Int.le_refl _, hq⟩ ht (fun f hf => ?_) (R.chain I (fun v hv => ?_) (fun f hf => hfr f hf) ⟨Nx.mono rfl rfl ch.1, fun h => absurd h np14, ch.2.2⟩) (fun s1 d1 n1 e1 hd1 he1 hx => .inl (hRR s1 n1 hx)) (fun v r' hv hpc => ?_) (fun c' c0 c1 => ?_) (fun s1 d1 hd1 hl => I.lost s1 d1 hd1 (by rw [← O.base (I.ds _ _ hd1).1]; exact hl)) (fun v d1 hv hd1 hrq hdg => ?_) (fun f s1 d1 hf hr hd1 hrq => ?_)
    · rcases List.mem_cons.1 hf with rfl | hf
      · refine ⟨d, hd, hg, Ph.next ix fun ho => ?_⟩
        have hoA := (R.st _ _ hd).1 ho
        refine (R.held dok hd h1 ho).succ ix.e ?_
        rw [O.at_]
        cases hw : w.opn with
        | true => rfl
        | false => exact absurd hoA (h7 hw)
      · exact R.fr I hF ht (by rw [fq]; exact Int.le_refl _) (Int.le_refl _) (hfr f hf)
    · simp at hv; subst hv; exact ⟨d, hd, hg⟩
    · rw [fs] at hv; cases hv
      right
      rw [h2, O.at_, h5]
      split
      · exact mw_ew
      · exact fun h => entry_not_val h.symm
    · by_cases cc : c' = e.c
      · right
        subst cc
        cases hw : w.opn with
        | true =>
          refine .mc hd ix.e rfl (by rw [O.at_, hw]; rfl) (fun hwn => ?_) (fun _ => hM) (R.held dok hd hHd) (fun hrq => (hRs hrq).set (hRR _ _))
          exfalso
          have : Won A w.s d := by unfold Won at hwn ⊢; rw [← O.base dok.1]; exact hwn
          exact h6 hw (by rw [h2, c, h5]) this
        | false =>
          have hb : B.at e.c = e.w * 4 := by rw [O.at_, hw]; rfl
          exact .val (v := e.w) (by rw [hb]; exact plainOf_val m.2.2.2.1 m.2.2.2.2.1) (by rw [hM, hb])
      · exact .inl ⟨O.ne c' c0 (by omega) cc, rfl, fun s d hd _ => by unfold Won; rw [O.base (I.ds _ _ hd).1]⟩
    · rcases List.mem_cons.1 hv with e1 | hv
      · cases e1
        exact I.qd t w d1 (by rw [fs]; simp) hd1 hrq ⟨by omega, .inl (by omega)⟩
      · exact I.qd t v d1 (by rw [fs]; simp [hv]) hd1 hrq hdg
    · rcases List.mem_cons.1 hf with e1 | hf
      · subst e1
        rcases hr with h | ⟨h, _⟩
        · exact I.pf t (.who w) s1 d1 (by rw [fs]; simp) (.inl h) hd1 hrq
        · exact absurd h np14
      · exact I.pf t f s1 d1 (by rw [fs]; simp [hf]) hr hd1 hrq
  · have same := cas_same (x := if w.opn = true then mw w.s d.g else e.w * 4) I.ok (by rw [h2]; exact m.2.1) (by rw [h2]; omega) c
    refine I.did hS okB same hqq rfl rfl (fun d' hd' _ _ => ?_) (fun h => ?_) (fun _ _ _ _ _ h => .inl (RF.same h rfl (.inl ?_))) (fun h => .inr c) (hP := fun h => by rcases next_pc (w := w) (more := 3) (stop := 8) with h' | h' <;> rw [h'] at h <;> cases h)
    · rw [hd] at hd'; cases hd'
      refine Ph.next ix fun ho => (h1 ho).succ ix.e ?_
      rcases h4 ho with h | h
      · exact absurd h c
      · rw [← h2]; exact h
    · rcases next_pc (w := w) (more := 3) (stop := 8) with h' | h' <;> rw [h'] at h <;> cases h
    · rcases next_pc (w := w) (more := 3) (stop := 8) with h' | h' <;> rw [h'] <;> decide
theorem updM_in {ds : List Sw} (hm : swMay ds = true) (he : ds[n]? = some e) : updM ds M e.c = e.n * 4 := by
  unfold updM
  cases h : ds.find? (fun x => decide (x.c = e.c)) with
  | none =>
    have := List.find?_eq_none.1 h e (List.mem_of_getElem? he)
    simp at this
  | some y =>
    have hc := List.find?_some h
    simp only [decide_eq_true_eq] at hc
    obtain ⟨i, hi, hy⟩ := List.mem_iff_getElem.1 (List.mem_of_find?_eq_some h)
    have hy' : ds[i]? = some y := by rw [List.getElem?_eq_getElem hi, hy]
    have := sw_inj hm hy' he hc
    subst this
    rw [he] at hy'; cases hy'
    rfl
theorem updM_out {ds : List Sw} (h : ∀ (i : Nat) y, ds[i]? = some y → y.c ≠ c) : updM ds M c = M c := by
  unfold updM
  cases hf : ds.find? (fun x => decide (x.c = c)) with
  | none => rfl
  | some y =>
    have hc := List.find?_some hf
    simp only [decide_eq_true_eq] at hc
    obtain ⟨i, hi, hy⟩ := List.mem_iff_getElem.1 (List.mem_of_find?_eq_some hf)
    exact absurd hc (h i y (by rw [List.getElem?_eq_getElem hi, hy]))
theorem MI.pc89 (I : MI D Q Lo A F M) (hS : F t = ⟨q, .who w :: r⟩) (hq : q < 1048576) (hp : w.pc = 8 ∨ w.pc = 9) : Did D Q Lo A F M t r (w.step t q A) := by
  obtain ⟨d, st, hd, hg, hst, o, ph, dok⟩ := I.on hS
  have fs : (F t).fs = .who w :: r := by rw [hS]
  have fq : (F t).q = q := by rw [hS]
  have ht := I.t0 t (by rw [fs]; simp)
  have hqq : q ≤ q ∧ q ≤ q + 1 ∧ q < 1048576 := ⟨by omega, by omega, hq⟩
  have ch := I.ch t
  rw [fs] at ch
  have hfr : ∀ f ∈ r, FrOk D Lo A F t q f := fun f m => by have := I.fr t f (by rw [fs]; simp [m]); rw [fq] at this; exact this
  have bs := base_at dok.1
  have hz : ∃ z : Int, (z = 1 ∨ z = 2) ∧ (z = 1 ↔ w.pc = 8) ∧ w.step t q A = ⟨.who { w with pc := 1 }, none, false, true, A.cas (baseOf w.s) (stateW w.g 0) (stateW w.g z), q⟩ := by
    rcases hp with hp | hp
    · exact ⟨1, .inl rfl, ⟨fun _ => hp, fun _ => rfl⟩, by unfold Wh.step; simp only [hp]⟩
    · exact ⟨2, .inr rfl, ⟨fun h => by omega, fun h => by omega⟩, by unfold Wh.step; simp only [hp]⟩
  obtain ⟨z, hz, hz8, hs⟩ := hz
  rw [hs]
  have okB := I.ok.cas (baseOf w.s) (stateW w.g 0) (stateW_range (st := z) o.life.g0 o.life.g1 (by omega) (by omega))
  by_cases c : A.at (baseOf w.s) = stateW w.g 0
  · have hop : Opn A w.s d := by unfold Opn; rw [← hg]; exact c
    have O : Dec A (A.cas (baseOf w.s) (stateW w.g 0) (stateW w.g z)) w.s d.g z := by
      rw [hg] at c ⊢; exact Dec.of_cas I.ok dok.1 c
    generalize A.cas (baseOf w.s) (stateW w.g 0) (stateW w.g z) = B at okB O
    have hheld : z = 1 → Held A w.s d d.ds.length := fun h => by
      have := hz8.1 h
      simp only [Ph, this] at ph
      exact ph hop
    have R := Rel.decide I hd O hz hheld
    have dB : ∀ s1 d1, D s1 = some d1 → DOk B s1 d1 := fun s1 d1 h1 => O.dok (by omega) dok.1 (fun h => by subst h; rw [hd] at h1; exact (Option.some.inj h1).symm) (I.ds _ _ h1)
    generalize hw : ({ w with pc := 1 } : Wh) = w'
    have ws : w'.s = w.s := by rw [← hw]
    have wg : w'.g = w.g := by rw [← hw]
    have wp : w'.pc = 1 := by rw [← hw]
    have wB : z = 1 ↔ Won B w.s d := by unfold Won; rw [O.at_, stateW_inj]
    have nA : ¬ Won A w.s d := by unfold Won; unfold Opn at hop; rw [hop, stateW_inj]; decide
    have hRR : ∀ s1 n1, (∃ f, f ∈ (F t).fs ∧ RF s1 n1 f) → ∃ f, f ∈ (.who w' :: r) ∧ RF s1 n1 f := fun s1 n1 hx => by
      obtain ⟨f, hf, hx⟩ := hx
      rw [fs] at hf
      rcases List.mem_cons.1 hf with rfl | hf
      · exact ⟨.who w', by simp, by rw [ws]; exact hx.1, .inl (by omega)⟩
      · exact ⟨f, by simp [hf], hx⟩
    have hF : ∀ u, (F u).q ≤ (setF F t ⟨q, .who w' :: r⟩ u).q := fun u => by
      by_cases c : u = t
      · subst c; rw [setF_at, fq]; exact Int.le_refl _
      · rw [setF_ne c]; exact Int.le_refl _
    have lost : ∀ s1 d1, D s1 = some d1 → B.at (baseOf s1) = stateW d1.g 2 → Lo s1 := fun s1 d1 h1 hl => by
      by_cases cs : s1 = w.s
      · subst cs
        rw [hd] at h1; cases h1
        rw [O.at_, stateW_inj] at hl
        have h9 : w.pc = 9 := by rcases hp with h | h; · have := hz8.2 h; omega
                                 · exact h
        simp only [Ph, h9] at ph
        exact ph hop
      · exact I.lost s1 d1 h1 (by rw [← O.other (I.ds _ _ h1).1 cs]; exact hl)
    have fin : ∀ M', (∀ c', 0 ≤ c' → c' < 16 → (B.at c' = A.at c' ∧ M' c' = M c' ∧ ∀ s d, D s = some d → A.at c' = mw s d.g → (Won B s d ↔ Won A s d)) ∨ Cell D Q B (setF F t ⟨q, .who w' :: r⟩) M' c') → MI D Q Lo B (setF F t ⟨q, .who w' :: r⟩) M' := fun M' hC => by
      refine I.go okB dB R ⟨by rw [fq]; exact Int.le_refl _, hq⟩ ht (fun f hf => ?_) (R.chain I (fun v hv => ?_) (fun f hf => hfr f hf) ⟨Nx.mono ws wg ch.1, fun h => by omega, ch.2.2⟩) (fun s1 d1 n1 e1 hd1 he1 hx => .inl (hRR s1 n1 hx)) (fun v r' hv hpc => ?_) hC lost (fun v d1 hv hd1 hrq hdg => ?_) (fun f s1 d1 hf hr hd1 hrq => ?_)
      · rcases List.mem_cons.1 hf with rfl | hf
        · exact ⟨d, by rw [ws]; exact hd, by rw [wg]; exact hg, by simp only [Ph, wp]⟩
        · exact R.fr I hF ht (by rw [fq]; exact Int.le_refl _) (Int.le_refl _) (hfr f hf)
      · simp at hv; subst hv; exact ⟨d, by rw [ws]; exact hd, by rw [wg]; exact hg⟩
      · rw [fs] at hv; cases hv; omega
      · rcases List.mem_cons.1 hv with e1 | hv
        · cases e1
          exact absurd wp hdg.1
        · exact I.qd t v d1 (by rw [fs]; simp [hv]) hd1 hrq hdg
      · rcases List.mem_cons.1 hf with e1 | hf
        · subst e1
          rcases hr with h | ⟨h, _⟩
          · rw [ws] at h
            exact I.pf t (.who w) s1 d1 (by rw [fs]; simp) (.inl h) hd1 hrq
          · omega
        · exact I.pf t f s1 d1 (by rw [fs]; simp [hf]) hr hd1 hrq
    have oth : ∀ s1 d1, D s1 = some d1 → s1 ≠ w.s → (Won B s1 d1 ↔ Won A s1 d1) := fun s1 d1 h1 cs => by unfold Won; rw [O.other (I.ds _ _ h1).1 cs]
    by_cases z1 : z = 1
    · have held := hheld z1
      refine ⟨rfl, (fun f h => by cases h), (fun h => by cases h), by rw [fq]; exact ⟨Int.le_refl _, by simp only; omega⟩, R, updM d.ds M, ⟨R.st, .inr ⟨w.s, d, hd, hop, wB.1 z1, fun n e he => ?_, rfl, fun s1 d1 h1 cs => O.other (I.ds _ _ h1).1 cs⟩⟩, ?_⟩
      · have m := dok.lt he
        have ha := held n e (List.getElem?_eq_some_iff.1 he).1 he
        cases I.cells e.c m.2.1 m.2.2.1 with
        | val h mm => have := (val_read h).2.1; rw [ha] at this; exact absurd this mcas_not_val
        | en _ _ _ ha' => rw [ha] at ha'; exact absurd ha' mw_ew
        | @mc s1 d1 n1 e1 hd1 he1 hc1 ha1 m1 m0 hh rr =>
          rw [ha] at ha1
          obtain ⟨a1, a2⟩ := mw_same I hd hd1 ha1
          subst a1; subst a2
          have := sw_inj dok.2.1 he1 he hc1
          subst this
          rw [he] at he1; cases he1
          exact m0 nA
      · refine fin _ fun c' c0 c1 => ?_
        have out : A.at c' ≠ mw w.s d.g → updM d.ds M c' = M c' := fun h => updM_out fun i y hy hc => h (by rw [← hc]; exact held i y (List.getElem?_eq_some_iff.1 hy).1 hy)
        cases I.cells c' c0 c1 with
        | val h mm =>
          left
          have h' : A.at c' ≠ mw w.s d.g := fun hx => by have := (val_read h).2.1; rw [hx] at this; exact mcas_not_val this
          exact ⟨O.cell dok.1 c0 c1, out h', fun s1 d1 h1 hx => by have := (val_read h).2.1; rw [hx] at this; exact absurd this mcas_not_val⟩
        | en _ _ _ ha' =>
          left
          exact ⟨O.cell dok.1 c0 c1, out (fun hx => by rw [hx] at ha'; exact mw_ew ha'), fun s1 d1 h1 hx => by rw [hx] at ha'; exact absurd ha' mw_ew⟩
        | @mc s1 d1 n1 e1 hd1 he1 hc1 ha1 m1 m0 hh rr =>
          by_cases cs : s1 = w.s
          · right
            subst cs
            rw [hd] at hd1; cases hd1
            refine .mc hd he1 hc1 (by rw [O.cell dok.1 c0 c1]; exact ha1) (fun _ => by rw [← hc1]; exact updM_in dok.2.1 he1) (fun h => absurd (wB.1 z1) h) (fun h => ?_) (fun hrq => (rr hrq).set (hRR _ _))
            unfold Opn at h
            rw [O.at_, stateW_inj] at h
            omega
          · left
            refine ⟨O.cell dok.1 c0 c1, out (fun hx => ?_), fun s2 d2 h2 hx => ?_⟩
            · rw [ha1] at hx; exact cs (mw_same I hd1 hd hx).1
            · rw [ha1] at hx
              obtain ⟨a1, a2⟩ := mw_same I hd1 h2 hx
              subst a1
              exact oth _ _ h2 cs
    · have wn : ¬ Won B w.s d := fun h => z1 (wB.2 h)
      have wons : ∀ s1 d1, D s1 = some d1 → (Won B s1 d1 ↔ Won A s1 d1) := fun s1 d1 h1 => by
        by_cases cs : s1 = w.s
        · subst cs
          rw [hd] at h1; cases h1
          exact ⟨fun h => absurd h wn, fun h => absurd h nA⟩
        · exact oth _ _ h1 cs
      refine ⟨rfl, (fun f h => by cases h), (fun h => by cases h), by rw [fq]; exact ⟨Int.le_refl _, by simp only; omega⟩, R, M, ⟨R.st, .inl ⟨rfl, wons⟩⟩, fin _ fun c' c0 c1 => .inl ⟨O.cell dok.1 c0 c1, rfl, fun s1 d1 h1 _ => wons s1 d1 h1⟩⟩
  · have same := cas_same (x := stateW w.g z) I.ok (show 0 ≤ baseOf w.s by omega) bs.2 c
    exact I.did hS okB same hqq rfl rfl (fun _ _ _ _ => trivial) (fun h => by cases h) (fun _ _ _ _ _ h => .inl (RF.same h rfl (.inl (Nat.le_of_ble_eq_true rfl)))) (fun h => by omega)
end
section
variable {D : Int → Option Dw} {Q : Qs} {Lo : Int → Prop} {A B : Ar} {F : Int → Stk} {M : Int → Int} {t q q' s : Int} {d : Dw} {n : Nat} {e : Sw} {w w' : Wh} {r : List Fr} {c x : Int}
theorem Chain.pop (h : Ord A r) : Chain A r := by
  cases r with
  | nil => trivial
  | cons f r =>
    cases f with
    | ent f => exact absurd h (by simp [Ord])
    | who v =>
      obtain ⟨h1, h2, h3, h4⟩ := h
      exact ⟨h2, fun h => by omega, h4⟩
theorem MI.pc10 (I : MI D Q Lo A F M) (hS : F t = ⟨q, .who w :: r⟩) (hq : q < 1048576) (hp : w.pc = 10) : Did D Q Lo A F M t r (w.step t q A) := by
  obtain ⟨d, st, hd, hg, hst, o, ph, dok⟩ := I.on hS
  have fs : (F t).fs = .who w :: r := by rw [hS]
  have fq : (F t).q = q := by rw [hS]
  have ht := I.t0 t (by rw [fs]; simp)
  have ch := I.ch t
  rw [fs] at ch
  have hfr : ∀ f ∈ r, FrOk D Lo A F t q f := fun f m => by have := I.fr t f (by rw [fs]; simp [m]); rw [fq] at this; exact this
  have hb := base_range o.life.s0 o.life.s1 (i := 1) (by decide) (by decide)
  have same := ld_same I.ok (by omega) hb.2
  simp only [Ph, hp] at ph
  by_cases c : d.ds.length = 0
  · rw [step_count0 o hp c]
    refine ⟨rfl, (fun f h => by cases h), fun _ w' hw' => ?_, by rw [fq]; exact ⟨Int.le_refl _, by simp only; omega⟩, Rel.same I same, M, Turn.same I same, ?_⟩
    · simp only at hw'; cases hw'
      have R := Rel.same I same
      exact ⟨d, hd, hg, R.nopn hd ph.1, ph.2.trans (R.won hd ph.1).symm⟩
    · show MI D Q Lo (A.ld (baseOf w.s + 1)) (setF F t ⟨q, r⟩) M
      refine I.quiet (I.ok.ld _) same ⟨by rw [fq]; exact Int.le_refl _, hq⟩ ht (fun f hf => by rw [fq]; exact hfr f hf) (Chain.pop ch.2.2) (fun s1 d1 n1 e1 hd1 he1 hx => ?_) (fun v r' hv hpc => by rw [fs] at hv; cases hv; omega) (fun v d1 hv hd1 hrq hdg => I.qd t v d1 (by rw [fs]; simp [hv]) hd1 hrq hdg) (fun f s1 d1 hf hr hd1 hrq => I.pf t f s1 d1 (by rw [fs]; simp [hf]) hr hd1 hrq)
      obtain ⟨f, hf, hx⟩ := hx
      rw [fs] at hf
      rcases List.mem_cons.1 hf with rfl | hf
      · have hx := hx.1
        subst hx
        rw [hd] at hd1; cases hd1
        have := (List.getElem?_eq_some_iff.1 he1).1
        omega
      · exact .inl ⟨f, hf, hx⟩
  · rw [step_count2 o hp c]
    refine I.did hS (I.ok.ld _) same ⟨Int.le_refl _, by omega, hq⟩ rfl rfl (fun d' hd' _ _ => ?_) (fun h => by cases h) (fun d' n' e' hd' he' h => .inl ⟨h.1, .inr (.inr (by simp only; omega))⟩) (fun h => by omega)
    rw [hd] at hd'; cases hd'
    exact ⟨0, d.ds[0]'(by omega), ⟨rfl, rfl, List.getElem?_eq_getElem _⟩, ph⟩
theorem MI.pc13 (I : MI D Q Lo A F M) (hS : F t = ⟨q, .who w :: r⟩) (hq : q < 1048576) (hp : w.pc = 13) : Did D Q Lo A F M t r (w.step t q A) := by
  obtain ⟨d, st, hd, hg, hst, o, ph, dok⟩ := I.on hS
  have fs : (F t).fs = .who w :: r := by rw [hS]
  have fq : (F t).q = q := by rw [hS]
  have ht := I.t0 t (by rw [fs]; simp)
  have ch := I.ch t
  rw [fs] at ch
  have hfr : ∀ f ∈ r, FrOk D Lo A F t q f := fun f m => by have := I.fr t f (by rw [fs]; simp [m]); rw [fq] at this; exact this
  simp only [Ph, hp] at ph
  obtain ⟨n, e, ix, h1, h2, h3, h4⟩ := ph
  have m := dok.lt ix.e
  have hn := (List.getElem?_eq_some_iff.1 ix.e).1
  have hi := ix.i; have hk := ix.k
  have hmine : w.mine = mw w.s d.g := by unfold Wh.mine; rw [hg]; rfl
  have hs : w.step t q A = ⟨.who (w.next 11 0), none, decide (w.k ≤ w.i + 1), true, A.cas w.cell w.mine w.x, q⟩ := by unfold Wh.step; simp only [hp]
  rw [hs, hmine, h3, h4]
  have hx : I64 ((if w.won = true then e.n else e.w) * 4) := by split <;> exact val64 (by omega) (by omega)
  have okB := I.ok.cas e.c (mw w.s d.g) hx
  -- all that a release needs, whether a word is turned or not
  have fin : ∀ (B : Ar), B.ok → (∀ s d, D s = some d → DOk B s d) → Rel D F A B → (∀ s d, D s = some d → B.at (baseOf s) = A.at (baseOf s)) → B.at e.c ≠ mw w.s d.g → (∀ c' , 0 ≤ c' → c' < 16 → (B.at c' = A.at c' ∧ M c' = M c') ∨ ∃ v, plainOf (B.at c') = some v ∧ M c' = B.at c') →
      Did D Q Lo A F M t r ⟨.who (w.next 11 0), none, decide (w.k ≤ w.i + 1), true, B, q⟩ := fun B okB dB R hb hne hC => by
    have wons : ∀ s1 d1, D s1 = some d1 → (Won B s1 d1 ↔ Won A s1 d1) := fun s1 d1 h => by unfold Won; rw [hb _ _ h]
    have lost : ∀ s1 d1, D s1 = some d1 → B.at (baseOf s1) = stateW d1.g 2 → Lo s1 := fun s1 d1 h hl => I.lost s1 d1 h (by rw [← hb _ _ h]; exact hl)
    have hC' : ∀ (k : Stk) c', 0 ≤ c' → c' < 16 → (B.at c' = A.at c' ∧ M c' = M c' ∧ ∀ s d, D s = some d → A.at c' = mw s d.g → (Won B s d ↔ Won A s d)) ∨ Cell D Q B (setF F t k) M c' := fun k c' c0 c1 => by
      rcases hC c' c0 c1 with h | ⟨v, h, h'⟩
      · exact .inl ⟨h.1, rfl, fun s d hd _ => wons s d hd⟩
      · exact .inr (.val h h')
    have hF : ∀ fs' u, (F u).q ≤ (setF F t ⟨q, fs'⟩ u).q := fun fs' u => by
      by_cases c : u = t
      · subst c; rw [setF_at, fq]; exact Int.le_refl _
      · rw [setF_ne c]; exact Int.le_refl _
    refine ⟨rfl, (fun f h => by cases h), fun _ v hv => ?_, by rw [fq]; exact ⟨Int.le_refl _, by simp only; omega⟩, R, M, ⟨R.st, .inl ⟨rfl, wons⟩⟩, ?_⟩
    · simp only at hv; cases hv
      exact ⟨d, hd, hg, R.nopn hd h1, h2.trans (R.won hd h1).symm⟩
    · by_cases cl : w.k ≤ w.i + 1
      · have : nxt ⟨.who (w.next 11 0), none, decide (w.k ≤ w.i + 1), true, B, q⟩ r = r := by simp only [nxt, Option.bind_none, decide_eq_true cl, if_true]
        rw [this]
        show MI D Q Lo B (setF F t ⟨q, r⟩) M
        refine I.go okB dB R ⟨by rw [fq]; exact Int.le_refl _, hq⟩ ht (fun f hf => R.fr I (hF _) ht (by rw [fq]; exact Int.le_refl _) (Int.le_refl _) (hfr f hf)) (R.chain I (fun v hv => by obtain ⟨d, a, b, _⟩ := hfr _ (List.mem_of_mem_head? hv); exact ⟨d, a, b⟩) (fun f hf => hfr f (List.mem_of_mem_tail hf)) (Chain.pop ch.2.2)) (fun s1 d1 n1 e1 hd1 he1 hx => ?_) (fun v r' hv hpc => by rw [fs] at hv; cases hv; omega) (hC' _) lost (fun v d1 hv hd1 hrq hdg => I.qd t v d1 (by rw [fs]; simp [hv]) hd1 hrq hdg) (fun f s1 d1 hf hr hd1 hrq => I.pf t f s1 d1 (by rw [fs]; simp [hf]) hr hd1 hrq)
        obtain ⟨f, hf, hx⟩ := hx
        rw [fs] at hf
        rcases List.mem_cons.1 hf with rfl | hf
        · obtain ⟨hx1, hx2⟩ := hx
          subst hx1
          rw [hd] at hd1; cases hd1
          have := (List.getElem?_eq_some_iff.1 he1).1
          have : n1 = n := by omega
          subst this
          rw [ix.e] at he1; cases he1
          exact .inr hne
        · exact .inl ⟨f, hf, hx⟩
      · have : nxt ⟨.who (w.next 11 0), none, decide (w.k ≤ w.i + 1), true, B, q⟩ r = .who (w.next 11 0) :: r := by
          simp only [nxt, Option.bind_none, decide_eq_false cl]; rfl
        rw [this]
        show MI D Q Lo B (setF F t ⟨q, .who (w.next 11 0) :: r⟩) M
        have np : (w.next 11 0).pc = 11 := by unfold Wh.next; simp only [if_neg cl]
        refine I.go okB dB R ⟨by rw [fq]; exact Int.le_refl _, hq⟩ ht (fun f hf => ?_) (R.chain I (fun v hv => ?_) (fun f hf => hfr f hf) ⟨Nx.mono rfl rfl ch.1, fun h => by omega, ch.2.2⟩) (fun s1 d1 n1 e1 hd1 he1 hx => ?_) (fun v r' hv hpc => by rw [fs] at hv; cases hv; omega) (hC' _) lost (fun v d1 hv hd1 hrq hdg => ?_) (fun f s1 d1 hf hr hd1 hrq => ?_)
        · rcases List.mem_cons.1 hf with rfl | hf
          · refine ⟨d, hd, hg, ?_⟩
            simp only [Ph, np]
            exact ⟨n + 1, d.ds[n + 1]'(by omega), ⟨by show w.i + 1 = _; omega, hk, List.getElem?_eq_getElem _⟩, R.nopn hd h1, h2.trans (R.won hd h1).symm⟩
          · exact R.fr I (hF _) ht (by rw [fq]; exact Int.le_refl _) (Int.le_refl _) (hfr f hf)
        · simp at hv; subst hv; exact ⟨d, hd, hg⟩
        · obtain ⟨f, hf, hx⟩ := hx
          rw [fs] at hf
          rcases List.mem_cons.1 hf with rfl | hf
          · obtain ⟨hx1, hx2⟩ := hx
            subst hx1
            rw [hd] at hd1; cases hd1
            by_cases cn : n1 = n
            · subst cn
              rw [ix.e] at he1; cases he1
              exact .inr hne
            · exact .inl ⟨.who (w.next 11 0), by simp, rfl, .inr (.inr (by show w.i + 1 ≤ _; omega))⟩
          · exact .inl ⟨f, by simp [hf], hx⟩
        · rcases List.mem_cons.1 hv with e1 | hv
          · cases e1
            have := hdg.2
            omega
          · exact I.qd t v d1 (by rw [fs]; simp [hv]) hd1 hrq hdg
        · rcases List.mem_cons.1 hf with e1 | hf
          · subst e1
            rcases hr with h | ⟨h, _⟩
            · exact I.pf t (.who w) s1 d1 (by rw [fs]; simp) (.inl h) hd1 hrq
            · omega
          · exact I.pf t f s1 d1 (by rw [fs]; simp [hf]) hr hd1 hrq
  by_cases c : A.at e.c = mw w.s d.g
  · have O := One.of_cas (x := (if w.won = true then e.n else e.w) * 4) I.ok m.2.1 m.2.2.1 c
    generalize A.cas e.c (mw w.s d.g) ((if w.won = true then e.n else e.w) * 4) = B at okB O
    have hM : M e.c = (if w.won = true then e.n else e.w) * 4 := by
      cases I.cells e.c m.2.1 m.2.2.1 with
      | val h mm => have := (val_read h).2.1; rw [c] at this; exact absurd this mcas_not_val
      | en _ _ _ ha' => rw [c] at ha'; exact absurd ha' mw_ew
      | @mc s1 d1 n1 e1 hd1 he1 hc1 ha1 m1 m0 hh rr =>
        rw [c] at ha1
        obtain ⟨a1, a2⟩ := mw_same I hd hd1 ha1
        subst a1; subst a2
        have := sw_inj dok.2.1 he1 ix.e hc1
        subst this
        rw [ix.e] at he1; cases he1
        by_cases hw : w.won = true
        · rw [if_pos hw]; exact m1 (h2.1 hw)
        · rw [if_neg hw]; exact m0 fun h => hw (h2.2 h)
    refine fin B okB (fun s d hd => O.dok (I.ds _ _ hd)) (Rel.release I hd ix.e c h1 O) (fun s d hd => O.base (I.ds _ _ hd).1) (by rw [O.at_]; exact fun h => mcas_not_val h.symm) fun c' c0 c1 => ?_
    by_cases cc : c' = e.c
    · right
      subst cc
      refine ⟨if w.won = true then e.n else e.w, by rw [O.at_]; exact plainOf_val (by split <;> omega) (by split <;> omega), by rw [O.at_]; exact hM⟩
    · exact .inl ⟨O.ne c' c0 (by omega) cc, rfl⟩
  · have same := cas_same (x := (if w.won = true then e.n else e.w) * 4) I.ok m.2.1 (by omega) c
    generalize A.cas e.c (mw w.s d.g) ((if w.won = true then e.n else e.w) * 4) = B at okB same
    exact fin B okB (fun s d hd => (I.ds _ _ hd).same same) (Rel.same I same) (fun s d hd => by have := base_at (I.ds _ _ hd).1; exact same _ (by omega) this.2) (by rw [same _ m.2.1 (by omega)]; exact c) fun c' c0 c1 => .inl ⟨same c' c0 (by omega), rfl⟩
theorem MI.who (I : MI D Q Lo A F M) (hqp : QP D Q F) (hL : LoB D Lo A M) (hS : F t = ⟨q, .who w :: r⟩) (hq : q + 1 < 1048576) : Did D Q Lo A F M t r (w.step t q A) := by
  obtain ⟨d, st, hd, hg, hst, o, ph, dok⟩ := I.on hS
  have : w.pc = 1 ∨ w.pc = 2 ∨ w.pc = 3 ∨ w.pc = 4 ∨ w.pc = 5 ∨ w.pc = 6 ∨ w.pc = 7 ∨ (w.pc = 8 ∨ w.pc = 9) ∨ w.pc = 10 ∨ w.pc = 11 ∨ w.pc = 12 ∨ w.pc = 13 ∨ w.pc = 14 := by
    unfold Ph at ph
    split at ph
    all_goals first | omega | exact absurd ph id
  rcases this with h | h | h | h | h | h | h | h | h | h | h | h | h
  · exact I.pc1 hS (by omega) h
  · exact I.pc2 hS (by omega) h
  · exact I.pc3 hS (by omega) h
  · exact I.pc4 hS (by omega) h
  · exact I.pc5 hqp hL hS hq h
  · exact I.pc6 hS (by omega) h
  · exact I.pc7 hS (by omega) h
  · exact I.pc89 hS (by omega) h
  · exact I.pc10 hS (by omega) h
  · exact I.pc11 hS (by omega) h
  · exact I.pc12 hS (by omega) h
  · exact I.pc13 hS (by omega) h
  · exact I.pc14 hS (by omega) h
end
section
variable {D : Int → Option Dw} {Q : Qs} {Lo : Int → Prop} {A B : Ar} {F : Int → Stk} {M : Int → Int} {t q q' s : Int} {d : Dw} {n : Nat} {e : Sw} {w w' : Wh} {r : List Fr} {c x : Int} {f f' : En}
theorem Und.pop (h : Und A r) : Chain A r := by
  cases r with
  | nil => trivial
  | cons f r =>
    cases f with
    | ent f => exact absurd h (by simp [Und])
    | who v =>
      obtain ⟨h1, h2, h4⟩ := h
      exact ⟨h2, fun h => by omega, h4⟩
theorem MI.didE (I : MI D Q Lo A F M) (hS : F t = ⟨q, .ent f :: r⟩) (okB : B.ok) (h : ∀ j, 0 ≤ j → j < 634 → B.at j = A.at j) (hq : q < 1048576) (new : FrOk D Lo A F t q (.ent f')) (es : f'.s = f.s := by rfl) :
    Did D Q Lo A F M t r ⟨.ent f', none, false, true, B, q⟩ := by
  have fs : (F t).fs = .ent f :: r := by rw [hS]
  have fq : (F t).q = q := by rw [hS]
  have ch := I.ch t
  rw [fs] at ch
  refine ⟨rfl, (fun f hf => by cases hf), (fun h => by cases h), by rw [fq]; exact ⟨Int.le_refl _, by simp only; omega⟩, Rel.same I h, M, Turn.same I h, ?_⟩
  show MI D Q Lo B (setF F t ⟨q, .ent f' :: r⟩) M
  refine I.quiet okB h ⟨by rw [fq]; exact Int.le_refl _, hq⟩ (I.t0 t (by rw [fs]; simp)) (fun g hg => ?_) ch (fun s1 d1 n1 e1 hd1 he1 hx => ?_) (fun v r' hv hpc => by rw [fs] at hv; cases hv) (fun v d1 hv hd1 hrq hdg => ?_) (fun g s1 d1 hg hr hd1 hrq => ?_)
  · rcases List.mem_cons.1 hg with rfl | hg
    · rw [fq]; exact new
    · exact I.fr t g (by rw [fs]; simp [hg])
  · obtain ⟨g, hg, hx⟩ := hx
    rw [fs] at hg
    rcases List.mem_cons.1 hg with rfl | hg
    · exact absurd hx (by simp [RF])
    · exact .inl ⟨g, by simp [hg], hx⟩
  · rcases List.mem_cons.1 hv with e1 | hv
    · cases e1
    · exact I.qd t v d1 (by rw [fs]; simp [hv]) hd1 hrq hdg
  · rcases List.mem_cons.1 hg with e1 | hg
    · subst e1
      have hr : f'.s = s1 := hr
      exact I.pf t (.ent f) s1 d1 (by rw [fs]; simp) (by show f.s = s1; rw [← es]; exact hr) hd1 hrq
    · exact I.pf t g s1 d1 (by rw [fs]; simp [hg]) hr hd1 hrq
theorem MI.ent (I : MI D Q Lo A F M) (hS : F t = ⟨q, .ent f :: r⟩) (hq : q < 1048576) : Did D Q Lo A F M t r (f.step q A) := by
  have fs : (F t).fs = .ent f :: r := by rw [hS]
  have fq : (F t).q = q := by rw [hS]
  have ht := I.t0 t (by rw [fs]; simp)
  have ch := I.ch t
  rw [fs] at ch
  have hfr : ∀ f ∈ r, FrOk D Lo A F t q f := fun f m => by have := I.fr t f (by rw [fs]; simp [m]); rw [fq] at this; exact this
  obtain ⟨d, e, n, hd, hg, hn, he, hq0, ht0, ph⟩ := I.fr t (.ent f) (by rw [fs]; simp)
  have dok := I.ds _ _ hd
  have m := dok.lt he
  obtain ⟨l, may, st, hst, dsc⟩ := dok
  have dok := I.ds _ _ hd
  have ad : ∀ p : Int, 0 ≤ p → p < 3 → 34 ≤ baseOf f.s + (2 + 3 * (n : Int) + p) ∧ baseOf f.s + (2 + 3 * (n : Int) + p) < 634 := fun p p0 p1 => base_range l.s0 l.s1 (by omega) (by omega)
  have bs := base_at l
  have hqq := (I.q0 f.t).2
  have : f.pc = 0 ∨ f.pc = 1 ∨ f.pc = 2 ∨ f.pc = 3 := by
    unfold EPh at ph
    split at ph
    all_goals first | omega | exact absurd ph id
  rcases this with hp | hp | hp | hp
  · have a := ad 0 (by decide) (by decide)
    have hs : f.step q A = ⟨.ent { f with cell := e.c, pc := 1 }, none, false, true, A.ld (baseOf f.s + (2 + 3 * f.e + 0)), q⟩ := by
      unfold En.step
      have e1 := dsc.c n e he
      rw [← hn] at e1
      simp only [hp, e1, valOf_val m.2.1 (by omega : e.c < 1099511627776), isVal_val m.2.1 (by omega : e.c < 1099511627776) (show e.c ≤ 15 by omega)]
    rw [hs]
    exact I.didE hS (I.ok.ld _) (ld_same I.ok (by rw [hn]; omega) (by rw [hn]; exact a.2)) hq ⟨d, e, n, hd, hg, hn, he, hq0, ht0, rfl⟩
  · have a := ad 1 (by decide) (by decide)
    have hs : f.step q A = ⟨.ent { f with was := e.w * 4, pc := 2 }, none, false, true, A.ld (baseOf f.s + (2 + 3 * f.e + 1)), q⟩ := by
      unfold En.step
      have e1 := dsc.w n e he
      rw [← hn] at e1
      simp only [hp, e1, valOf_val m.2.2.2.1 m.2.2.2.2.1, isVal_val m.2.2.2.1 m.2.2.2.2.1 (show e.w ≤ 1099511627775 by omega)]
    rw [hs]
    simp only [EPh, hp] at ph
    exact I.didE hS (I.ok.ld _) (ld_same I.ok (by rw [hn]; omega) (by rw [hn]; exact a.2)) hq ⟨d, e, n, hd, hg, hn, he, hq0, ht0, ph, rfl⟩
  · have hs : f.step q A = ⟨.ent { f with opn := decide (A.at (baseOf f.s) = stateW f.g 0), pc := 3 }, none, false, true, A.ld (baseOf f.s), q⟩ := by
      unfold En.step
      have : (plainOf (A.at (baseOf f.s))).isSome = true := by rw [dsc.st]; exact stateW_val l.g0 l.g1 hst.1 (by omega)
      simp only [hp, this]
    rw [hs]
    simp only [EPh, hp] at ph
    refine I.didE hS (I.ok.ld _) (ld_same I.ok (by omega) bs.2) hq ⟨d, e, n, hd, hg, hn, he, hq0, ht0, ph.1, ph.2, fun ho _ hw => ?_, fun ho => ?_⟩
    · have ho : A.at (baseOf f.s) = stateW f.g 0 := by simpa using ho
      have hw : A.at (baseOf f.s) = stateW d.g 1 := hw
      rw [hw, hg, stateW_inj] at ho
      omega
    · have ho : ¬ A.at (baseOf f.s) = stateW f.g 0 := by simpa using ho
      rw [hg] at ho
      exact ho
  · simp only [EPh, hp] at ph
    obtain ⟨h1, h2, h3, h4⟩ := ph
    have hw : (Form.entry f.s f.g f.e f.t f.q).number = ew f.s d.g n f.t f.q := by rw [hg, hn]; rfl
    have hm : (Form.mcas f.s f.g).number = mw f.s d.g := by rw [hg]; rfl
    have hs : f.step q A = ⟨.ent { f with pc := 4 }, none, true, true, A.cas e.c (ew f.s d.g n f.t f.q) (if f.opn then mw f.s d.g else e.w * 4), q⟩ := by
      unfold En.step
      simp only [hp, hw, hm, h1, h2]
    rw [hs]
    rw [hw, h1] at h3
    have hx : I64 (if f.opn = true then mw f.s d.g else e.w * 4) := by
      split
      · exact mw_I64 l
      · exact val64 m.2.2.2.1 m.2.2.2.2.1
    have okB := I.ok.cas e.c (ew f.s d.g n f.t f.q) hx
    have hR : ∀ s1 n1, (∃ g, g ∈ (F t).fs ∧ RF s1 n1 g) → ∃ g, g ∈ r ∧ RF s1 n1 g := fun s1 n1 hx => by
      obtain ⟨g, hg, hx⟩ := hx
      rw [fs] at hg
      rcases List.mem_cons.1 hg with rfl | hg
      · exact absurd hx (by simp [RF])
      · exact ⟨g, hg, hx⟩
    by_cases c : A.at e.c = ew f.s d.g n f.t f.q
    · have O := One.of_cas (x := if f.opn = true then mw f.s d.g else e.w * 4) I.ok m.2.1 m.2.2.1 c
      generalize A.cas e.c (ew f.s d.g n f.t f.q) (if f.opn = true then mw f.s d.g else e.w * 4) = B at okB O
      have hx' : (if f.opn = true then mw f.s d.g else e.w * 4) = mw f.s d.g ∨ (∃ v, (if f.opn = true then mw f.s d.g else e.w * 4) = v * 4) ∧ ¬ Opn A f.s d := by
        cases ho : f.opn with
        | true => left; rfl
        | false => exact .inr ⟨⟨e.w, rfl⟩, h4 ho⟩
      have R := Rel.settle I ht0 ⟨hq0.1, by omega⟩ hd he c O hx'
      obtain ⟨hM, hRs, hHd⟩ := I.was ht0 ⟨hq0.1, by omega⟩ hd he c
      refine ⟨rfl, (fun f h => by cases h), (fun _ v hv => by cases hv), by rw [fq]; exact ⟨Int.le_refl _, by simp only; omega⟩, R, M, ⟨R.st, .inl ⟨rfl, fun s d hd => by unfold Won; rw [O.base (I.ds _ _ hd).1]⟩⟩, ?_⟩
      show MI D Q Lo B (setF F t ⟨q, r⟩) M
      have hF : ∀ u, (F u).q ≤ (setF F t ⟨q, r⟩ u).q := fun u => by
        by_cases c : u = t
        · subst c; rw [setF_at, fq]; exact Int.le_refl _
        · rw [setF_ne c]; exact Int.le_refl _
      refine I.go okB (fun s d hd => O.dok (I.ds _ _ hd)) R ⟨by rw [fq]; exact Int.le_refl _, hq⟩ ht (fun g hg => R.fr I hF ht (by rw [fq]; exact Int.le_refl _) (Int.le_refl _) (hfr g hg)) (R.chain I (fun v hv => by obtain ⟨d, a, b, _⟩ := hfr _ (List.mem_of_mem_head? hv); exact ⟨d, a, b⟩) (fun f hf => hfr f (List.mem_of_mem_tail hf)) (Und.pop ch)) (fun s1 d1 n1 e1 hd1 he1 hx => .inl (hR s1 n1 hx)) (fun v r' hv hpc => by rw [fs] at hv; cases hv) (fun c' c0 c1 => ?_) (fun s1 d1 hd1 hl => I.lost s1 d1 hd1 (by rw [← O.base (I.ds _ _ hd1).1]; exact hl)) (fun v d1 hv hd1 hrq hdg => I.qd t v d1 (by rw [fs]; simp [hv]) hd1 hrq hdg) (fun f s1 d1 hf hr hd1 hrq => I.pf t f s1 d1 (by rw [fs]; simp [hf]) hr hd1 hrq)
      by_cases cc : c' = e.c
      · right
        subst cc
        cases ho : f.opn with
        | true =>
          refine .mc hd he rfl (by rw [O.at_, ho]; rfl) (fun hwn => ?_) (fun _ => hM) (R.held dok hd hHd) (fun hrq => (hRs hrq).set (hR _ _))
          exfalso
          have : Won A f.s d := by unfold Won at hwn ⊢; rw [← O.base dok.1]; exact hwn
          exact h3 ho c this
        | false =>
          have hb : B.at e.c = e.w * 4 := by rw [O.at_, ho]; rfl
          exact .val (v := e.w) (by rw [hb]; exact plainOf_val m.2.2.2.1 m.2.2.2.2.1) (by rw [hM, hb])
      · exact .inl ⟨O.ne c' c0 (by omega) cc, rfl, fun s d hd _ => by unfold Won; rw [O.base (I.ds _ _ hd).1]⟩
    · have same := cas_same (x := if f.opn = true then mw f.s d.g else e.w * 4) I.ok m.2.1 (by omega) c
      generalize A.cas e.c (ew f.s d.g n f.t f.q) (if f.opn = true then mw f.s d.g else e.w * 4) = B at okB same
      refine ⟨rfl, (fun f h => by cases h), (fun _ v hv => by cases hv), by rw [fq]; exact ⟨Int.le_refl _, by simp only; omega⟩, Rel.same I same, M, Turn.same I same, ?_⟩
      show MI D Q Lo B (setF F t ⟨q, r⟩) M
      exact I.quiet okB same ⟨by rw [fq]; exact Int.le_refl _, hq⟩ ht (fun g hg => by rw [fq]; exact hfr g hg) (Und.pop ch) (fun s1 d1 n1 e1 hd1 he1 hx => .inl (hR s1 n1 hx)) (fun v r' hv hpc => by rw [fs] at hv; cases hv) (fun v d1 hv hd1 hrq hdg => I.qd t v d1 (by rw [fs]; simp [hv]) hd1 hrq hdg) (fun f s1 d1 hf hr hd1 hrq => I.pf t f s1 d1 (by rw [fs]; simp [hf]) hr hd1 hrq)
def stk (H : Help) : Stk := ⟨H.q, if H.over then [] else H.top :: H.rest⟩
def Bot (D : Int → Option Dw) (A : Ar) (s : Int) (H : Help) : Prop :=
  if H.over then ∃ d, D s = some d ∧ ¬ Opn A s d ∧ (H.won = true ↔ Won A s d) else ∃ w, (H.top :: H.rest).getLast? = some (.who w) ∧ w.s = s
theorem Wh.step_fr : ∃ w1, (w.step t q A).fr = .who w1 ∧ w1.s = w.s ∧ w1.g = w.g := by
  unfold Wh.step
  split
  case h_4 =>
    unfold Wh.swapIn
    simp only
    split
    · exact ⟨_, rfl, rfl, rfl⟩
    · split
      · exact ⟨_, rfl, rfl, rfl⟩
      · exact ⟨_, rfl, rfl, rfl⟩
      · exact ⟨_, rfl, rfl, rfl⟩
      · split <;> exact ⟨_, rfl, rfl, rfl⟩
  case h_13 => simp only; split <;> exact ⟨_, rfl, rfl, rfl⟩
  all_goals exact ⟨_, rfl, rfl, rfl⟩
theorem Bot.turn {A B : Ar} {M M' : Int → Int} {H : Help} (T : Turn D A B M M') (h : Bot D A s H) : Bot D B s H := by
  unfold Bot at h ⊢
  split
  · rename_i ho
    rw [if_pos ho] at h
    obtain ⟨d, h1, h2, h3⟩ := h
    have := T.1 s d h1
    exact ⟨d, h1, fun h => h2 (this.1 h), by rw [h3]; unfold Won; rw [this.2 h2]⟩
  · rename_i ho
    rw [if_neg ho] at h
    exact h
theorem MI.help (I : MI D Q Lo A F M) (hqp : QP D Q F) (hL : LoB D Lo A M) {H : Help} (hS : F t = stk H) (ht : H.t = t) (ho : H.over = false) (hq : H.q + 1 < 1048576) {Bo : Prop} (b : Bo → Bot D A s H) :
    (H.step A).2.1 = 0 ∧ H.q ≤ (H.step A).1.q ∧ (H.step A).1.q ≤ H.q + 1 ∧ (H.step A).1.t = t ∧ Rel D F A (H.step A).2.2 ∧ ∃ M', Turn D A (H.step A).2.2 M M' ∧ MI D Q Lo (H.step A).2.2 (setF F t (stk (H.step A).1)) M' ∧ (Bo → Bot D (H.step A).2.2 s (H.step A).1) := by
  have hS' : F t = ⟨H.q, H.top :: H.rest⟩ := by rw [hS]; unfold stk; rw [ho]; rfl
  have fq : (F t).q = H.q := by rw [hS']
  have did : Did D Q Lo A F M t H.rest (H.top.step H.t H.q A) := by
    rw [ht]
    cases hf : H.top with
    | who w => rw [hf] at hS'; exact I.who hqp hL hS' hq
    | ent f => rw [hf] at hS'; exact I.ent hS' (by omega)
  have hfr : ∀ w, H.top = .who w → ∃ w1, (H.top.step H.t H.q A).fr = .who w1 ∧ w1.s = w.s := fun w hw => by
    rw [hw]
    obtain ⟨w1, a, b, _⟩ := Wh.step_fr (w := w) (t := H.t) (q := H.q) (A := A)
    exact ⟨w1, a, b⟩
  rw [Help.step_eq ho]
  generalize H.top.step H.t H.q A = o at did hfr
  obtain ⟨good, len, fin, q, rel, M', T, mi⟩ := did
  have hb : Bo → ∃ w, (H.top :: H.rest).getLast? = some (.who w) ∧ w.s = s := fun bo => by
    have b := b bo
    unfold Bot at b
    rw [if_neg (by rw [ho]; decide)] at b
    exact b
  rw [fq] at q
  unfold Help.take
  simp only
  rw [if_neg (by rw [good]; decide)]
  cases hat : o.atop.bind newFr with
  | some f =>
    have := len f hat
    simp only
    rw [if_neg (by omega)]
    refine ⟨rfl, q.1, q.2, ht, rel, M', T, ?_, fun bo => ?_⟩
    · have : stk { H with q := o.q, rest := o.fr :: H.rest, top := f, slot := H.top.s, gen := H.top.g } = ⟨o.q, nxt o H.rest⟩ := by
        unfold stk nxt
        rw [hat]
        simp only [ho]
        rfl
      simp only at this ⊢
      rw [this]; exact mi
    · obtain ⟨w0, hl, hs0⟩ := hb bo
      unfold Bot
      simp only [ho, Bool.false_eq_true, if_false]
      rw [List.getLast?_cons_cons]
      cases hr : H.rest with
      | nil =>
        rw [hr] at hl
        simp only [List.getLast?_singleton, Option.some.injEq] at hl
        obtain ⟨w1, a, b⟩ := hfr w0 hl
        exact ⟨w1, by rw [a]; rfl, by rw [b]; exact hs0⟩
      | cons f1 rs =>
        rw [hr, List.getLast?_cons_cons] at hl
        exact ⟨w0, by rw [List.getLast?_cons_cons]; exact hl, hs0⟩
  | none =>
    simp only
    have hnx : nxt o H.rest = if o.over then H.rest else o.fr :: H.rest := by unfold nxt; rw [hat]
    rw [hnx] at mi
    by_cases ov : o.over = false
    · rw [if_pos ov]
      rw [ov] at mi
      refine ⟨rfl, q.1, q.2, ht, rel, M', T, ?_, fun bo => ?_⟩
      · have : stk { H with q := o.q, top := o.fr, slot := H.top.s, gen := H.top.g } = ⟨o.q, o.fr :: H.rest⟩ := by
          unfold stk
          simp only [ho]
          rfl
        simp only at this ⊢
        rw [this]; exact mi
      · obtain ⟨w0, hl, hs0⟩ := hb bo
        unfold Bot
        simp only [ho, Bool.false_eq_true, if_false]
        cases hr : H.rest with
        | nil =>
          rw [hr] at hl
          simp only [List.getLast?_singleton, Option.some.injEq] at hl
          obtain ⟨w1, a, b⟩ := hfr w0 hl
          exact ⟨w1, by rw [a]; rfl, by rw [b]; exact hs0⟩
        | cons f1 rs =>
          rw [hr, List.getLast?_cons_cons] at hl
          exact ⟨w0, by rw [List.getLast?_cons_cons]; exact hl, hs0⟩
    · rw [if_neg ov]
      have ov : o.over = true := by simpa using ov
      rw [ov] at mi
      simp only [if_true] at mi
      cases hr : H.rest with
      | nil =>
        rw [hr] at mi
        refine ⟨rfl, q.1, q.2, ht, rel, M', T, mi, fun bo => ?_⟩
        obtain ⟨w0, hl, hs0⟩ := hb bo
        rw [hr] at hl
        simp only [List.getLast?_singleton, Option.some.injEq] at hl
        obtain ⟨w1, a, b⟩ := hfr w0 hl
        obtain ⟨d, d1, d2, d3, d4⟩ := fin ov w1 a
        unfold Bot
        simp only [if_true]
        refine ⟨d, by rw [← hs0, ← b]; exact d1, by rw [← hs0, ← b]; exact d3, ?_⟩
        rw [a, ← hs0, ← b]
        exact d4
      | cons f1 rs =>
        rw [hr] at mi
        refine ⟨rfl, q.1, q.2, ht, rel, M', T, ?_, fun bo => ?_⟩
        · have : stk { H with q := o.q, rest := rs, top := f1, slot := H.top.s, gen := H.top.g, won := false } = ⟨o.q, f1 :: rs⟩ := by
            unfold stk
            simp only [ho]
            rfl
          simp only at this ⊢
          rw [this]; exact mi
        · obtain ⟨w0, hl, hs0⟩ := hb bo
          rw [hr, List.getLast?_cons_cons] at hl
          unfold Bot
          simp only [ho, Bool.false_eq_true, if_false]
          exact ⟨w0, hl, hs0⟩
end
section
variable {D : Int → Option Dw} {G : Int → Int} {A B : Ar} {t q q' s : Int} {d : Dw} {n : Nat} {e : Sw} {w w' : Wh} {f f' : En} {r : List Fr} {x : Int}
def Help.frs (H : Help) : List Fr := if H.over then [] else H.top :: H.rest
end
end Go.Proofs.YtghcnhimggbobaaGreat
