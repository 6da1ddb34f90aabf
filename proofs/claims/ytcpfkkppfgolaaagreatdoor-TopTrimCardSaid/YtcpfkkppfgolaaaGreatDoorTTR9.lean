/- Several texts in one; nothing here is a statement on the program. -/
import Derived.Test.YtcpfkkppfgolaaaGreatDoorTTR8
import Derived.Carry
import Derived.KernelRfl
set_option linter.unusedVariables false
set_option linter.unusedSimpArgs false
namespace Go.Proofs.YtcpfkkppfgolaaaGreatDoor
open Go GW Go.Proofs
theorem Plan.may_of {p : Plan} (h1 : 1 ≤ p.threads.length) (h2 : p.threads.length ≤ 4) (h3 : 1 ≤ p.attempts) (h4 : p.attempts ≤ 16) : p.may = p.threads.all thrMay := by
  unfold Plan.may; rw [decide_eq_true ⟨h1, h2, h3, h4⟩]; rfl
theorem Plan.may_not {p : Plan} (h : ¬ (1 ≤ p.threads.length ∧ p.threads.length ≤ 4 ∧ 1 ≤ p.attempts ∧ p.attempts ≤ 16)) : p.may = false := by
  unfold Plan.may; rw [decide_eq_false h]; rfl
theorem all_false {α : Type} {p : α → Bool} {l : List α} {x : α} {i : Nat} (h : l[i]? = some x) (hx : p x = false) : l.all p = false :=
  List.all_eq_false.2 ⟨x, List.mem_of_getElem? h, by rw [hx]; decide⟩
theorem all_snoc {α : Type} {p : α → Bool} {l : List α} {x : α} {i : Nat} (h : l[i]? = some x) (ht : (l.take i).all p = true) (hx : p x = true) : (l.take (i + 1)).all p = true := by
  rw [List.take_add_one, h, List.all_append, ht]; simpa using hx
theorem T_scriptMay {v : Value} {p : Plan} {h : GH} {K : Value → GH → Prop} (hp : threadsAt h v p.threads) (hK : K (.bool p.may) h) : T Tryz.prog 8 [.agg (planC v p).toArray] h K := by
  apply T.drop
  apply S8_T
  unfold S8
  obtain ⟨es, re, ae⟩ := hp
  have hln := re.len
  have hmx := re.max
  rw [ae.1] at hln hmx
  intro b hb
  have l := (HLe.refl h).new (.row 24 (planC v p) 3 true) hb
  refine bnd_of rfl (bnd_of (v := v) (by rw [ldV_same]; rfl) (bnd_of hln (bnd_of (binV_lss _ _ _) ?_)))
  rw [ifV_dec]
  split
  · rename_i c1
    rw [Plan.may_not (by omega)] at hK
    exact ⟨h, l, hK⟩
  rename_i c1
  refine bnd_of rfl (bnd_of (v := v) (by rw [ldV_same]; rfl) (bnd_of hln (bnd_of (binV_gtr _ _ _) ?_)))
  rw [ifV_dec]
  split
  · rename_i c2
    rw [Plan.may_not (by omega)] at hK
    exact ⟨h, l, hK⟩
  rename_i c2
  refine bnd_of rfl (bnd_of (v := i64 p.attempts) (by rw [ldV_same]; rfl) (bnd_of (binV_lss _ _ _) ?_))
  rw [ifV_dec]
  split
  · rename_i c3
    rw [Plan.may_not (by omega)] at hK
    exact ⟨h, l, hK⟩
  rename_i c3
  refine bnd_of rfl (bnd_of (v := i64 p.attempts) (by rw [ldV_same]; rfl) (bnd_of (binV_gtr _ _ _) ?_))
  rw [ifV_dec]
  split
  · rename_i c4
    rw [Plan.may_not (by omega)] at hK
    exact ⟨h, l, hK⟩
  rename_i c4
  rw [Plan.may_of (by omega) (by omega) (by omega) (by omega)] at hK
  unfold S8_j1
  refine bnd_of rfl (bnd_of (v := v) (by rw [ldV_same]; rfl) (bnd_of hln ?_))
  refine Lfp_fam (ι := Nat) (fun i => [v, i64 p.threads.length, i64 i]) (fun i h' => i ≤ p.threads.length ∧ HLe h h' ∧ (p.threads.take i).all thrMay = true) (fun i => p.threads.length - i) ?_ 0 _ ⟨Nat.zero_le _, l, rfl⟩
  intro i h1 X ⟨hi, l1, hok⟩ again
  simp only [tup_zero, tup_succ, binV_lss, bnd_some, ifV_dec]
  split
  · rename_i hlt
    obtain ⟨ts, hts⟩ : ∃ ts, p.threads[i]? = some ts := ⟨_, List.getElem?_eq_getElem (by omega)⟩
    obtain ⟨c, hc, w, ws, rfl, rw1, aw⟩ := ae.get hts
    have hlw := rw1.len
    have hmw := rw1.max
    rw [aw.1] at hlw hmw
    obtain ⟨q, hq, hlq⟩ := (re.le l1).get1 (i := i) (x := w) hc .i64
    refine bnd_of hq (bnd_of hlq (bnd_of hlw (bnd_of (binV_gtr _ _ _) ?_)))
    rw [ifV_dec]
    split
    · rename_i c5
      rw [all_false hts (by unfold thrMay; rw [decide_eq_false (by omega)]; rfl)] at hK
      exact ⟨h, l1, hK⟩
    rename_i c5
    refine bnd_of hlw ?_
    refine Lfp_fam (ι := Nat) (fun j => [v, i64 p.threads.length, i64 i, w, i64 ts.length, i64 j]) (fun j h' => j ≤ ts.length ∧ HLe h h' ∧ (ts.take j).all Txn.may = true) (fun j => ts.length - j) ?_ 0 _ ⟨Nat.zero_le _, l1, rfl⟩
    intro j h2 Y ⟨hj, l2, hok2⟩ again2
    simp only [tup_zero, tup_succ, binV_lss, bnd_some, ifV_dec]
    split
    · rename_i hlt2
      obtain ⟨t, ht⟩ : ∃ t, ts[j]? = some t := ⟨_, List.getElem?_eq_getElem (by omega)⟩
      obtain ⟨c, hc2, u, rfl, ru⟩ := aw.get ht
      obtain ⟨q2, hq2, hlq2⟩ := (rw1.le l2).get (i := j) (c := [u]) hc2 .i64
      refine bnd_of hq2 (bnd_of hlq2 ?_)
      intro b3 hb3
      have l3 := l2.new (.row 69 [u] 1 true) (l2.none hb3)
      by_cases hu : oneCell u = true
      · refine bnd_of (v := upd h2 b3 (.row 69 [u] 1 true)) (by rw [stV_same, if_pos ⟨rfl, by decide, by simp [cells_agg, hu]⟩]; rfl) ?_
        refine bnd_of rfl (bnd_of (v := u) (by rw [ldV_same]; rfl) ?_)
        refine T_OpsMay (ru.le l3) (bnd_of rfl ?_)
        rw [ifV_iff]
        split
        · rename_i hm
          rw [all_false hts (by unfold thrMay; rw [all_false ht (by simpa using hm)]; simp)] at hK
          exact ⟨h, l3, hK⟩
        · rename_i hm
          refine bnd_of (binV_add _ _ _) ?_
          rw [wrap_id (by omega) (by omega)]
          exact again2 (j + 1) _ ⟨by omega, l3, all_snoc ht hok2 (by simpa using hm)⟩ (by omega)
      · obtain ⟨_, _, _, rfl, _⟩ := ru
        exact absurd rfl hu
    · rename_i hge
      rw [List.take_of_length_le (by omega)] at hok2
      refine bnd_of (binV_add _ _ _) ?_
      rw [wrap_id (by omega) (by omega)]
      exact again (i + 1) _ ⟨by omega, l2, all_snoc hts hok (by unfold thrMay; rw [hok2, decide_eq_true (by omega)]; rfl)⟩ (by omega)
  · rename_i hge
    rw [List.take_of_length_le (by omega)] at hok
    rw [hok] at hK
    exact ⟨h, l1, hK⟩
attribute [local irreducible] bnd ldV stV ifV binV eqI
set_option maxRecDepth 20000
def ansO : List Value → List Event → List Part
  | w :: ws, e :: es => rowP 2 w (e.answers.map Answer.enc) :: ansO ws es
  | _, _ => []
def evoP (v : Value) (es : List Event) : Part := fun h => ∃ ws, All [evP v ws es, All (ansO ws es)] h
def Short (es : List Event) : Prop := ∀ e ∈ es, e.answers.length ≤ 2
section
variable {R : List Part} {h : GH} {K : Value → GH → Prop} {b : Nat} {x : Th}
theorem evoP_open {C : Prop} {v : Value} {es : List Event} (hp : All (evoP v es :: R) h) (k : ∀ ws, ws.length = es.length → All (rowP 8 v (evCs es ws) :: All (ansO ws es) :: R) h → C) : C := by
  obtain ⟨ws, hp⟩ := All.ex hp
  have hp : All (evP v ws es :: All (ansO ws es) :: R) h := All.flat hp
  obtain ⟨e, hp⟩ := All.pure hp
  exact k ws e hp
theorem evoP_shut {v : Value} {ws : List Value} {es : List Event} (hl : ws.length = es.length) (hp : All (rowP 8 v (evCs es ws) :: All (ansO ws es) :: R) h) : All (evoP v es :: R) h :=
  (All.fold (l := [evP v ws es, All (ansO ws es)]) (hp.head fun _ z => ⟨hl, z⟩)).head fun h1 z => ⟨ws, z⟩
theorem evoP_nil : evoP (.slice none 0 0) [] h := ⟨[], All.two ⟨rfl, rowP_nil _ _⟩ trivial⟩
theorem T_CloneAnswersR {v : Value} {xs : List Answer} (hp : All R h) (hr : ∀ h', All R h' → rowsAt h' 2 v (xs.map Answer.enc)) (hb : xs.length ≤ 1000) (hK : ∀ v' h', All (rowP 2 v' (xs.map Answer.enc) :: R) h' → K v' h') : T Tryz.prog 74 [v] h K := by
  apply S74_T
  unfold S74
  have r := hr _ hp
  obtain ⟨ad, n, cap, rfl, hl, h1, h2, hx⟩ := r
  rw [List.length_map] at hl
  cases ad with
  | none =>
    have hx0 : xs = [] := by
      cases xs with
      | nil => rfl
      | cons y ys =>
        obtain ⟨bb, off, T, pre, sz, f, e, _⟩ := hx 0 y.enc rfl
        cases e
    subst hx0
    have n0 : n = 0 := hl.symm
    subst n0
    by_cases hc : cap = 0
    · subst hc
      refine wk ?_
      exact hK _ _ (hp.emp_cons (rowP_nil 2 _))
    · refine wk ?_
      exact hK _ _ (hp.emp_cons (rowP_nil 2 _))
  | some q =>
    refine wk ?_
    refine bs0 (size := 2) hp [] rfl rfl (by simp) (fun c hc => by cases hc) fun nv h1 hp => ?_
    have hr := hr _ hp.tail
    refine ap0 hp hr (Answer.all_good xs) (by decide) (by simp; omega) fun nv' h2 hp => ?_
    exact hK _ _ hp
theorem evs_good {v : Value} {es : List Event} {ws : List Value} (hp : All (rowP 8 v (evCs es ws) :: R) h) : ∀ c ∈ evCs es ws, Go.Proofs.YtcpfkkppfgolaaaGreatDoor.good 8 c := hp.row.good.1
theorem T_CloneEvents {v : Value} {es : List Event} {ws : List Value} (hp : All R h) (hr : ∀ h', All R h' → rowsAt h' 8 v (evCs es ws)) (hg : ∀ c ∈ evCs es ws, Go.Proofs.YtcpfkkppfgolaaaGreatDoor.good 8 c) (hb : (evCs es ws).length ≤ 1000) (hK : ∀ v' h', All (rowP 8 v' (evCs es ws) :: R) h' → K v' h') : T Tryz.prog 79 [v] h K := by
  apply S79_T
  unfold S79
  have r := hr _ hp
  obtain ⟨ad, n, cap, rfl, hl, h1, h2, hx⟩ := r
  generalize evCs es ws = cs at *
  cases ad with
  | none =>
    have hx0 : cs = [] := by
      cases cs with
      | nil => rfl
      | cons y ys =>
        obtain ⟨bb, off, T, pre, sz, f, e, _⟩ := hx 0 y rfl
        cases e
    subst hx0
    have n0 : n = 0 := hl.symm
    subst n0
    by_cases hc : cap = 0
    · subst hc
      refine wk ?_
      exact hK _ _ (hp.emp_cons (rowP_nil 8 _))
    · refine wk ?_
      exact hK _ _ (hp.emp_cons (rowP_nil 8 _))
  | some q =>
    refine wk ?_
    refine bs0 (size := 8) hp [] rfl rfl (by simp) (fun c hc => by cases hc) fun nv h1 hp => ?_
    have hr := hr _ hp.tail
    refine ap0 hp hr hg (by decide) (by simp; omega) fun nv' h2 hp => ?_
    exact hK _ _ hp
end
end Go.Proofs.YtcpfkkppfgolaaaGreatDoor
namespace Go.Proofs.YtcpfkkppfgolaaaGreatDoor
open Go GW Go.Proofs
attribute [local irreducible] bnd ldV stV ifV binV eqI
set_option maxRecDepth 20000
def Th.stock (x : Th) : List Int := [0, x.cache.length, x.limbo.length, x.ripe.length + if x.slot = -1 then 0 else 1]
section
variable {R : List Part} {h : GH} {K : Value → GH → Prop} {b : Nat} {x : Th} {pick s : Int}
theorem ansO_app : ∀ {ws : List Value} {es : List Event} {w : Value} {e : Event}, ws.length = es.length → ansO (ws ++ [w]) (es ++ [e]) = ansO ws es ++ [rowP 2 w (e.answers.map Answer.enc)] := by
  intro ws
  induction ws with
  | nil =>
    intro es w e hl
    cases es with
    | nil => rfl
    | cons x es => simp at hl
  | cons w0 ws ih =>
    intro es w e hl
    cases es with
    | nil => simp at hl
    | cons x es =>
      show rowP 2 w0 (x.answers.map Answer.enc) :: ansO (ws ++ [w]) (es ++ [e]) = _
      rw [ih (by simpa using hl)]; rfl
theorem ansO_snoc {ws : List Value} {es : List Event} {w : Value} {e : Event} (hl : ws.length = es.length) (hp : All (rowP 2 w (e.answers.map Answer.enc) :: All (ansO ws es) :: R) h) : All (All (ansO (ws ++ [w]) (es ++ [e])) :: R) h := by
  rw [ansO_app hl]
  refine (All.fold (l := [rowP 2 w (e.answers.map Answer.enc), All (ansO ws es)]) hp).head fun h1 z => ?_
  exact All.app (Sep.mono (fun _ z => z) (fun _ z => All.one z) (Sep.comm (Sep.mono (fun _ z => z) (fun _ z => by
    obtain ⟨h3, h4, _, l3, _, p, _⟩ := z
    exact All.le l3 p) z)))
theorem T_thEvents (hp : All (thP b x :: R) h) (oe : x.evs.length ≤ 8) (os : Short x.evs) (hK : ∀ v' h', All (evoP v' x.evs :: thP b x :: R) h' → K v' h') : T Tryz.prog 43 [ptr b] h K := by
  apply S43_T
  unfold S43
  refine wk ?_
  refine thP_open hp fun v hp => ?_
  unfold thRow at hp
  refine wk ?_
  replace hp := hn (hp.up 2)
  refine evsP_open hp fun ws hl hp => ?_
  have hg := evs_good hp
  have hcl := evCs_len hl
  refine T_CloneEvents hp (fun h' hp => All.rows hp) hg (by omega) fun v' h1 hp => ?_
  have hlen : lnV v' = some (i64 x.evs.length) := by have := All.len hp; rw [hcl] at this; exact this
  refine bnd_of hlen ?_
  -- i: so many are copied; us: their answers' places, then the old ones'
  refine Lfp_fam (ι := Nat × List Value) (fun p => [v', i64 x.evs.length, i64 p.1]) (fun p h' => p.1 ≤ x.evs.length ∧ p.2.length = p.1 ∧ All (rowP 8 v' (evCs x.evs (p.2 ++ ws.drop p.1)) :: All (ansO p.2 (x.evs.take p.1)) :: rowP 8 v.ev (evCs x.evs ws) :: ansP ws x.evs :: pts b (thRow x v) :: tvP v.tv x.txns :: rowP 1 v.cv (x.cache.map encI) :: rowP 2 v.lv (x.limbo.map Ret.enc) :: rdP v.rv x.ripe :: opP entP v.ep x.ent :: opP pushP v.up x.push :: opP popP v.pp x.pop :: opP attP v.ap x.att :: opP advP v.dp x.adv :: R) h') (fun p => x.evs.length - p.1) ?_ (0, []) h1 ⟨by simp, rfl, ?_⟩
  rotate_left
  · have z := All.emp_cons (P := All (ansO [] (x.evs.take 0))) hp (by exact trivial)
    exact hn (z.re 2 [1, 0])
  clear hp
  rintro ⟨i, us⟩ h2 X ⟨hi, hu, hp⟩ again
  simp only at hi hu hp
  simp only [tup_zero, tup_succ]
  refine wk ?_
  refine ifV_cases (fun c => ?_) fun c => ?_
  · obtain ⟨e, he⟩ : ∃ e, x.evs[i]? = some e := ⟨_, List.getElem?_eq_getElem (by omega)⟩
    obtain ⟨w, hw⟩ : ∃ w, ws[i]? = some w := ⟨_, List.getElem?_eq_getElem (by omega)⟩
    have hw2 : (us ++ ws.drop i)[i]? = some w := by
      rw [List.getElem?_append_right (by omega), hu, Nat.sub_self, List.getElem?_drop, Nat.add_zero]; exact hw
    obtain ⟨eb, i1, i2, i3, i4⟩ := All.elt hp (evCs_get he hw2) .i64
    refine bnd_of i1 (bnd_of rfl (bnd_of (i2 7 1 w rfl) ?_))
    have hsh := os e (List.mem_of_getElem? he)
    refine T_CloneAnswersR hp (fun h' hp => ((hn (hp.up 3)).mono1 ansP.mono) i e w he hw) (by omega) fun w' h3 hp => ?_
    replace hp := hn (hp.re 2 [1, 0])
    refine bnd_of i1 (bnd_of rfl ?_)
    obtain ⟨ad, ln, cap, rfl⟩ := All.isSlice (hn (hp.up 1))
    refine ev_st (j := 7) hp (evCs_get he hw2) i1 rfl rfl (by decide) fun h4 hp => ?_
    have hl2 : (us ++ ws.drop i).length = x.evs.length := by rw [List.length_append, List.length_drop]; omega
    rw [show (e.cells w).set 7 (.slice ad ln cap) = e.cells (.slice ad ln cap) from rfl, evCs_set hl2, set_self he] at hp
    refine wk ?_
    refine again (i + 1, us ++ [.slice ad ln cap]) _ ⟨by simp only; omega, by simp [hu], ?_⟩ (by simp only; omega)
    have hz := ansO_snoc (e := e) (ws := us) (es := x.evs.take i) (by rw [List.length_take]; omega) (hn (hp.re 3 [1, 2, 0]))
    have e1 : x.evs.take i ++ [e] = x.evs.take (i + 1) := by rw [List.take_add_one, he]; rfl
    have hdrop : ws.drop i = w :: ws.drop (i + 1) := by
      have hlt : i < ws.length := by omega
      rw [List.drop_eq_getElem_cons hlt]
      rw [List.getElem?_eq_getElem hlt] at hw
      cases hw; rfl
    have e2 : (us ++ ws.drop i).set i (.slice ad ln cap) = us ++ [.slice ad ln cap] ++ ws.drop (i + 1) := by
      rw [List.set_append_right _ _ (by omega), hu, Nat.sub_self, hdrop, List.set_cons_zero, List.append_assoc]; rfl
    rw [e1] at hz
    rw [e2] at hz
    exact hn (hz.re 2 [1, 0])
  · have hie : i = x.evs.length := by omega
    subst hie
    have e3 : us ++ ws.drop x.evs.length = us := by rw [← hl, List.drop_length, List.append_nil]
    rw [e3, List.take_length] at hp
    refine hK _ _ ?_
    have hp := evoP_shut hu hp
    have hp := evsP_shut hl (hn (hp.re 3 [1, 2, 0]))
    have hp := hn (hp.re 12 [2, 3, 0, 4, 5, 6, 7, 8, 9, 10, 11, 1])
    have := thP_shut (v := v) hp
    exact hn (this.re 2 [1, 0])
theorem T_thStock (hp : All (thP b x :: R) h) (o : x.ok) (hK : ∀ h', All (thP b x :: R) h' → K (.agg (x.stock.map i64).toArray) h') : T Tryz.prog 37 [ptr b] h K := by
  apply S37_T
  unfold S37
  have hrl : x.ripe.length ≤ 200 := by
    have h1 := o.cap; have h2 := o.evs; have h3 := thrMay_spec o.txns; have h4 := o.t1; have h5 := o.k1
    have f : flagOf x.next ≤ 1 := by unfold flagOf; split <;> omega
    omega
  refine nw hp (.row 43 [i64 0, i64 0, i64 0, i64 0] 4 true) rfl fun v1 h1 hp => ?_
  refine wk ?_
  have hp0 := hp
  replace hp := hn (hp.re 2 [1, 0])
  refine thP_open hp fun v hp => ?_
  unfold thRow at hp
  refine wk ?_
  have l1 : lnV v.cv = some (i64 x.cache.length) := by have := All.len (hn (hp.up 3)); rw [List.length_map] at this; exact this
  have l2 : lnV v.lv = some (i64 x.limbo.length) := by have := All.len (hn (hp.up 4)); rw [List.length_map] at this; exact this
  have l3 : lnV v.rv = some (i64 x.ripe.length) := by have := (All.rd (hn (hp.up 5))).len; rw [List.length_map] at this; exact this
  refine bnd_of l1 ?_
  refine wk ?_
  refine bnd_of l2 ?_
  refine wk ?_
  refine bnd_of l3 ?_
  refine wk ?_
  clear hp
  refine nwst hp0 (.row 43 [i64 0, i64 x.cache.length, i64 x.limbo.length, i64 x.ripe.length] 4 true) rfl rfl rfl rfl fun v2 h2 hp => ?_
  have hp0 := hp
  replace hp := hn (hp.re 3 [2, 0, 1])
  refine thP_open hp fun v hp => ?_
  unfold thRow at hp
  refine wk ?_
  clear hp
  have hp := hp0
  unfold Th.stock at hK
  by_cases c : x.slot = -1
  · rw [if_pos c, Int.add_zero] at hK
    rw [decide_eq_true c]
    refine wk ?_
    refine la0 hp (c := [i64 0, i64 x.cache.length, i64 x.limbo.length, i64 x.ripe.length]) (Nat.le_refl 4) rfl ?_
    refine st1 hp (.row 43 [i64 0, i64 x.cache.length, i64 x.limbo.length, i64 x.ripe.length] 4 true) rfl (Nat.le_refl 4) rfl rfl fun h3 hp => ?_
    refine la1 hp (c := [i64 0, i64 x.cache.length, i64 x.limbo.length, i64 x.ripe.length]) (Nat.le_refl 4) rfl ?_
    exact hK _ hp.tail.tail
  · rw [if_neg c] at hK
    rw [decide_eq_false c]
    refine wk ?_
    refine st0 hp (.row 43 [i64 0, i64 x.cache.length, i64 x.limbo.length, i64 (x.ripe.length + 1)] 4 true) rfl (by simp) rfl rfl fun h3 hp => ?_
    refine la0 hp (c := [i64 0, i64 x.cache.length, i64 x.limbo.length, i64 (x.ripe.length + 1)]) (Nat.le_refl 4) rfl ?_
    refine st1 hp (.row 43 [i64 0, i64 x.cache.length, i64 x.limbo.length, i64 (x.ripe.length + 1)] 4 true) rfl (Nat.le_refl 4) rfl rfl fun h4 hp => ?_
    refine la1 hp (c := [i64 0, i64 x.cache.length, i64 x.limbo.length, i64 (x.ripe.length + 1)]) (Nat.le_refl 4) rfl ?_
    exact hK _ hp.tail.tail
theorem T_thThrough (hp : All (thP b x :: R) h) (hK : K (.tuple #[i64 x.ts, i64 x.tg]) h) : T Tryz.prog 54 [ptr b] h K := by
  apply S54_T
  unfold S54
  refine thP_open hp fun v hp => ?_
  unfold thRow at hp
  refine wk ?_
  exact hK
theorem T_thDecide (hp : All (thP b x :: R) h) (oe : x.evs.length ≤ 8) (hK : ∀ h', All (thP b (x.decide s pick) :: R) h' → K (.tuple #[]) h') : T Tryz.prog 56 [ptr b, i64 s, i64 pick] h K := by
  apply S56_T
  unfold S56
  have hp0 := hp
  refine thP_open hp fun v hp => ?_
  have hp1 := hp
  unfold thRow at hp
  refine wk ?_
  unfold Th.decide at hK
  refine ifV_cases (fun c => ?_) fun c => ?_
  · rw [if_pos c] at hK
    refine wk ?_
    have hlen := evP_len (hn (hp.up 2))
    refine bnd_of hlen ?_
    refine wk ?_
    refine ifV_cases (fun c2 => ?_) fun c2 => ?_
    · have l0 : 0 < x.evs.length := by omega
      have live : x.evs ≠ [] := List.length_pos_iff.1 l0
      replace hp := hn (hp1.up 2)
      refine evsP_open hp fun ws hl hp => ?_
      obtain ⟨e, w, g1, g2, g3, g4⟩ := evCs_last hl live
      obtain ⟨eb, i1, _, _, _⟩ := All.elt hp g4 .i64
      replace hp := hn (hp.up 2)
      refine T_event (v := v) (x := x) hp hlen l0 (by omega) i1 ?_
      refine wk ?_
      replace hp := hn (hp.up 1)
      refine ev_st (j := 3) hp g4 i1 rfl rfl (by decide) fun h2 hp => ?_
      rw [show (e.cells w).set 3 (i64 pick) = ({ e with decided := pick } : Event).cells w from rfl, evCs_set hl, set_self g3] at hp
      have hp := ansP_same g2 (e' := { e with decided := pick }) rfl (hn (hp.up 2))
      have hp := evsP_shut (ws := ws) (es := x.evs.set (x.evs.length - 1) { e with decided := pick }) (by rw [List.length_set]; exact hl) (hn (hp.re 2 [1, 0]))
      refine hK _ (thP_shut (v := v) ?_)
      show All (pts b (thRow x v) :: tvP v.tv x.txns :: evsP v.ev (evTurn x.evs fun e => { e with decided := pick }) :: _) _
      rw [evTurn_set g1]
      exact hn (hp.re 3 [1, 2, 0])
    · have he : x.evs = [] := List.length_eq_zero_iff.1 (by omega)
      have e2 : ({ x with evs := evTurn x.evs fun e => { e with decided := pick } } : Th) = x := by
        have : (evTurn x.evs fun e => { e with decided := pick }) = x.evs := by rw [he]; rfl
        rw [this]
      rw [e2] at hK
      exact hK _ hp0
  · rw [if_neg c] at hK
    exact hK _ hp0
end
end Go.Proofs.YtcpfkkppfgolaaaGreatDoor
namespace Go.Proofs.YtcpfkkppfgolaaaGreatDoor
open Go GW Go.Proofs
attribute [local irreducible] bnd ldV stV ifV binV eqI
set_option maxRecDepth 20000
instance {id n k : Int} {ts : List (List Op)} : Decidable (Th.may id n k ts) := by unfold Th.may; infer_instance
def opsC (cs : List (List Value)) (ts : List (List Op)) : Part := fun h => All2 (txnC h) cs ts
theorem All2.snoc {α β : Type} {R : α → β → Prop} {xs : List α} {ys : List β} {x : α} {y : β} (a : All2 R xs ys) (r : R x y) : All2 R (xs ++ [x]) (ys ++ [y]) := by
  refine ⟨by simp [a.1], fun i u v hu hv => ?_⟩
  have hl := a.1
  rw [List.getElem?_append] at hu hv
  split at hu
  · rw [if_pos (by omega)] at hv; exact a.2 i u v hu hv
  · rw [if_neg (by omega)] at hv
    have : i - xs.length = 0 := by
      rcases Nat.eq_zero_or_pos (i - xs.length) with q | q
      · exact q
      · rw [List.getElem?_eq_none (by simp; omega)] at hu; cases hu
    rw [this] at hu
    rw [← hl, this] at hv
    cases hu; cases hv; exact r
section
variable {R : List Part} {h : GH} {K : Value → GH → Prop} {b : Nat} {x : Th} {id n k : Int} {pol : Bool} {tsv : Value} {ts : List (List Op)}
theorem opsC_snoc {cs : List (List Value)} {ts : List (List Op)} {w : Value} {t : List Op} (hp : All (rowP 4 w (t.map Op.enc) :: opsC cs ts :: R) h) : All (opsC (cs ++ [[w]]) (ts ++ [t]) :: R) h := by
  refine (All.fold (l := [rowP 4 w (t.map Op.enc), opsC cs ts]) hp).head fun h1 z => ?_
  refine All2.snoc ((z.tail.mono1 (P := opsC cs ts) (fun _ _ l p => p.mono fun _ _ q => q.le l))) ⟨w, rfl, All.rows z⟩
theorem tv1_len {v : Value} {cs : List (List Value)} {ts : List (List Op)} (r : tv1 v cs ts h) : lnV v = some (i64 ts.length) ∧ ts.length ≤ 9223372036854775807 := by
  obtain ⟨r, a⟩ := r
  have := r.len
  rw [a.1] at this
  exact ⟨this, by rw [← a.1]; exact r.max⟩
theorem T_thNew (hp : All R h) {cs0 : List (List Value)} (hs : ∀ h', All R h' → tv1 tsv cs0 ts h') (kn : ¬ Th.may id n k ts → ∀ h', All R h' → K (.tuple #[.pointer none, i64 1800]) h')
    (ky : Th.may id n k ts → ∀ b h', All (thP b (.new id n k pol ts) :: R) h' → K (.tuple #[ptr b, i64 0]) h') : T Tryz.prog 50 [i64 id, i64 n, i64 k, .bool pol, tsv] h K := by
  apply S50_T
  unfold S50
  refine wk ?_
  refine ifV_cases (fun c => kn (fun m => by have := m.1; omega) _ hp) fun c => ?_
  refine wk ?_
  refine ifV_cases (fun c2 => kn (fun m => by have := m.1; omega) _ hp) fun c2 => ?_
  refine T_Below ?_
  refine wk ?_
  refine ifN_cases (fun c3 => kn (fun m => c3 m.2.1) _ hp) fun c3 => ?_
  obtain ⟨ad, ln, cap, etv⟩ : ∃ ad ln cap, tsv = .slice ad ln cap := by
    obtain ⟨⟨a, n, cap, e, _⟩, _⟩ := hs _ hp
    exact ⟨_, _, _, e⟩
  refine bs0 (size := 1) hp [[tsv]] (by rw [etv]; rfl) rfl (by simp) (fun c hc => by rw [List.mem_singleton.1 hc, etv]; exact ⟨rfl, rfl⟩) fun pv h1 hp => ?_
  refine wk ?_
  have thr : threadsAt h1 pv [ts] := ⟨[[tsv]], All.rows hp, rfl, fun i u v hu hv => by
    cases i with
    | zero =>
      simp at hu hv; subst hu; subst hv
      obtain ⟨r1, r2⟩ := hs _ hp.tail
      exact ⟨tsv, cs0, rfl, r1, r2⟩
    | succ i => simp at hu⟩
  obtain ⟨pa, pl, pc, rfl⟩ := All.isSlice hp
  refine wk ?_
  refine T_scriptMay (p := ⟨[ts], k, false⟩) thr ?_
  replace hp := hp.tail
  refine wk ?_
  cases hm : (Plan.mk [ts] k false).may with
  | false =>
    refine wk ?_
    refine kn (fun m => ?_) _ hp
    unfold Plan.may at hm
    simp only [List.length_cons, List.length_nil, List.all_cons, List.all_nil, Bool.and_true, m.2.2.2, Bool.and_true, decide_eq_false_iff_not] at hm
    exact hm ⟨by omega, by omega, m.2.2.1.1, m.2.2.1.2⟩
  | true =>
    refine wk ?_
    have hm2 : Th.may id n k ts := by
      unfold Plan.may at hm
      simp only [List.length_cons, List.length_nil, List.all_cons, List.all_nil, Bool.and_true, Bool.and_eq_true, decide_eq_true_eq] at hm
      exact ⟨by omega, c3, ⟨hm.1.2.2.1, hm.1.2.2.2⟩, hm.2⟩
    clear kn
    have ky := ky hm2
    have hts := thrMay_spec hm2.2.2.2
    unfold S50_j1
    refine wk ?_
    let V (tv : Value) : ThV := ⟨tv, .slice none 0 0, .slice none 0 0, .slice none 0 0, .slice none 0 0, .pointer none, .pointer none, .pointer none, .pointer none, .pointer none⟩
    refine nw hp (thRow { Th.new id n k pol ts with ts := 0 } (V (.slice none 0 0))) rfl fun b h2 hp => ?_
    have hlen := (tv1_len (hs _ hp.tail)).1
    refine bnd_of hlen ?_
    refine Lfp_fam (ι := Nat × Value × List (List Value)) (fun p => [ptr b, tsv, i64 ts.length, i64 p.1]) (fun p h' => p.1 ≤ ts.length ∧ All (pts b (thRow { Th.new id n k pol ts with ts := 0 } (V p.2.1)) :: rowP 1 p.2.1 p.2.2 :: opsC p.2.2 (ts.take p.1) :: R) h') (fun p => ts.length - p.1) ?_ (0, .slice none 0 0, []) h2 ⟨by simp, ?_⟩
    rotate_left
    · have z1 := All.emp_cons (P := opsC [] (ts.take 0)) hp ⟨rfl, fun i u v hu => by simp at hu⟩
      have z2 := All.emp_cons (P := rowP 1 (.slice none 0 0) []) z1 (rowP_nil _ _)
      exact hn (z2.re 3 [2, 0, 1])
    clear hp
    rintro ⟨i, tv, cs⟩ h3 X ⟨hi, hp⟩ again
    simp only at hi hp
    simp only [tup_zero, tup_succ]
    have hcl : cs.length = i := by
      have := (hn (hp.up 2)).mono1 (P := opsC cs (ts.take i)) (fun _ _ l p => p.mono fun _ _ q => q.le l)
      rw [this.1, List.length_take]; omega
    refine wk ?_
    refine ifV_cases (fun c => ?_) fun c => ?_
    · obtain ⟨t, ht⟩ : ∃ t, ts[i]? = some t := ⟨_, List.getElem?_eq_getElem (by omega)⟩
      have htm := hts.2 t (List.mem_of_getElem? ht)
      obtain ⟨ct, hct, w, rfl, hw⟩ := (hs _ hp.tail.tail.tail).2.get ht
      obtain ⟨p, d1, d2⟩ := (hs _ hp.tail.tail.tail).1.get hct .i64
      refine bnd_of d1 (bnd_of d2 ?_)
      obtain ⟨wa, wn, wc, rfl⟩ : ∃ ad ln cap, w = .slice ad ln cap := by
        obtain ⟨ad, ln, cap, e, _⟩ := hw; exact ⟨_, _, _, e⟩
      have hrow : ∀ h', All R h' → rowsAt h' 4 (.slice wa wn wc) (t.map Op.enc) := fun h' hr => by
        obtain ⟨c2, hc2, w2, e2, r2⟩ := (hs _ hr).2.get ht
        rw [hct] at hc2
        cases hc2; cases e2; exact r2
      refine nwst hp (.row 69 [.slice wa wn wc] 1 true) rfl rfl rfl rfl fun tb h4 hp => ?_
      replace hp := hn (hp.re 2 [1, 0])
      unfold thRow at hp
      refine wk ?_
      have ht2 : t.length ≤ 1000 ∧ t ≠ [] := by
        unfold Txn.may at htm
        simp only [Bool.and_eq_true, decide_eq_true_eq] at htm
        refine ⟨by omega, fun e => ?_⟩
        rw [e] at htm; simp at htm
      refine T_CloneOps hp (fun h' hp => hrow _ hp.tail.tail.tail.tail) ht2.1 ht2.2 fun nv h5 hp => ?_
      obtain ⟨na, nl, nc, rfl⟩ := All.isSlice hp
      replace hp := hn (hp.re 3 [1, 0])
      refine wk ?_
      replace hp := hn (hp.re 4 [2, 1, 3, 0])
      refine bs0 (size := 1) hp [[.slice na nl nc]] rfl rfl (by simp) (fun c hc => by rw [List.mem_singleton.1 hc]; exact ⟨rfl, rfl⟩) fun sv h6 hp => ?_
      have r2 := hp.rows
      refine ap0 (hn (hp.up 1)) r2 (fun c hc => by rw [List.mem_singleton.1 hc]; exact ⟨rfl, rfl⟩) (by decide) (by simp only [List.length_cons, List.length_nil]; omega) fun tv' h7 hp => ?_
      obtain ⟨ta, tl, tc, rfl⟩ := All.isSlice hp
      replace hp := hn (hp.re 5 [4, 0, 2, 3])
      refine wk ?_
      refine st0 hp (thRow { Th.new id n k pol ts with ts := 0 } (V (.slice ta tl tc))) rfl (Nat.le_of_ble_eq_true rfl) rfl rfl fun h8 hp => ?_
      refine wk ?_
      refine again (i + 1, .slice ta tl tc, cs ++ [[.slice na nl nc]]) _ ⟨by simp only; omega, ?_⟩ (by simp only; omega)
      have hp := opsC_snoc (hn (hp.re 4 [2, 3, 0, 1]))
      have e1 : ts.take i ++ [t] = ts.take (i + 1) := by rw [List.take_add_one, ht]; rfl
      rw [e1] at hp
      exact hn (hp.re 3 [1, 2, 0])
    · have hie : i = ts.length := by omega
      subst hie
      rw [List.take_length] at hp
      unfold thRow at hp
      refine wk ?_
      refine st0 hp (thRow (.new id n k pol ts) (V tv)) rfl (Nat.le_of_ble_eq_true rfl) rfl rfl fun h4 hp => ?_
      refine ky b _ (thP_shut (v := V tv) ?_)
      have hp := All.fold (l := [rowP 1 tv cs, opsC cs ts]) (hn (hp.re 3 [1, 2, 0]))
      have hp := hp.head (Q := tvP tv ts) fun h1 z => ⟨cs, All.rows z, z.tail.mono1 (P := opsC cs ts) (fun _ _ l p => p.mono fun _ _ q => q.le l)⟩
      have hp := opP_no (P := advP) hp
      have hp := opP_no (P := attP) hp
      have hp := opP_no (P := popP) hp
      have hp := opP_no (P := pushP) hp
      have hp := opP_no (P := entP) hp
      have hp := hp.emp_cons (P := rdP (.slice none 0 0) []) (rowsAt_nil _ _)
      have hp := hp.emp_cons (P := rowP 2 (.slice none 0 0) []) (rowP_nil _ _)
      have hp := hp.emp_cons (P := rowP 1 (.slice none 0 0) []) (rowP_nil _ _)
      have hp := hp.emp_cons (P := evsP (.slice none 0 0) []) ⟨[], All.two ⟨rfl, rowP_nil _ _⟩ fun i e w h => by simp at h⟩
      exact hn (hp.re 11 [10, 9, 0, 1, 2, 3, 4, 5, 6, 7, 8])
end
end Go.Proofs.YtcpfkkppfgolaaaGreatDoor
namespace Go.Proofs.YtcpfkkppfgolaaaGreatDoor
open Go GW Go.Proofs
structure Touch where
  thread : Int
  kind : Int
  at_ : Int
  was : Int
  now : Int
  slot : Int
  gen : Int
  live : Int
def Touch.ints (t : Touch) : List Int := [t.thread, t.kind, t.at_, t.was, t.now, t.slot, t.gen, t.live]
def Touch.enc (t : Touch) : List Value := [i64 t.thread, i64 t.kind, i64 t.at_, i64 t.was, i64 t.now, i64 t.slot, i64 t.gen, i64 t.live]
theorem Touch.ext_ints {a b : Touch} (h : a.ints = b.ints) : a = b := by
  cases a; cases b; simpa [Touch.ints] using h
instance : DecidableEq Touch := fun a b => if h : a.ints = b.ints then .isTrue (Touch.ext_ints h) else .isFalse fun e => h (by rw [e])
theorem Touch.enc_good (t : Touch) : good 8 t.enc := ⟨rfl, rfl⟩
theorem Touch.all_good (ts : List Touch) : ∀ c ∈ ts.map Touch.enc, good 8 c := by
  intro c hc
  obtain ⟨t, _, rfl⟩ := List.mem_map.1 hc
  exact t.enc_good
structure Mc where
  A : Ar
  ths : List Th
  L : List Int
  picks : Int
  ts : List Touch
def Mc.threads : Int → Int → Int → Bool → List (List (List Op)) → List Th
  | _, _, _, _, [] => []
  | i, n, k, pol, t :: ts => Th.new i n k pol t :: Mc.threads (i + 1) n k pol ts
def Mc.new (p : Plan) : Mc := ⟨newAr, Mc.threads 0 p.threads.length p.attempts p.polite p.threads, List.replicate 12 0, 0, []⟩
def Ar.lst (A : Ar) (i : Nat) : Int := A.last.getD i 0
def noteT (A : Ar) (L : List Int) (k : Int) (x : Th) : Touch := ⟨k, A.lst 1, A.lst 2, A.lst 3, A.lst 4, x.ts, x.tg, if 0 ≤ x.ts then L.getD x.ts.toNat 0 else A.lst 7⟩
def Touch.dec (t : Touch) : Option Int :=
  if t.kind ≠ 2 ∨ t.was = t.now ∨ t.at_ < 34 ∨ t.at_ ≠ baseOf ((t.at_ - 34) / 50) ∨ (plainOf t.now).isSome = false then none else
  if t.now = stateW (valOf t.now / 4) 1 then some ((t.at_ - 34) / 50) else none
def decAll (t : Touch) (pick : Int) (xs : List Th) : List Th := match t.dec with
  | some s => xs.map fun x => x.decide s pick
  | none => xs
def Mc.pick (M : Mc) (k : Int) : Mc × Bool × Int :=
  if ¬ (0 ≤ k ∧ k < M.ths.length) ∨ 65536 ≤ M.picks then (M, false, 1900) else
  match M.ths[k.toNat]? with
  | none => (M, false, 1900)
  | some x =>
    let o := x.step M.A M.L M.picks
    let xs := M.ths.set k.toNat o.1
    let t := noteT o.2.2.2.1 o.2.2.2.2 k o.1
    ({ A := o.2.2.2.1, ths := if o.2.1 then decAll t M.picks xs else xs, L := o.2.2.2.2, picks := M.picks + 1, ts := if o.2.1 then M.ts ++ [t] else M.ts }, o.2.1, if o.2.2.1 = 0 then 0 else 1900)
def Mc.done (M : Mc) : Bool := M.ths.all Th.done
def Mc.events (M : Mc) : List Event := M.ths.flatMap Th.evs
structure Mc.ok (M : Mc) : Prop where
  A : M.A.ok
  l : M.A.lok
  ths : ∀ x ∈ M.ths, x.ok ∧ x.wrs ∧ Short x.evs ∧ x.tsr
  n : M.ths.length ≤ 4
  L : M.L.length = 12
  L2 : ∀ y ∈ M.L, 0 ≤ y ∧ y ≤ M.picks
  p0 : 0 ≤ M.picks
  p1 : M.picks ≤ 65536
  ts : (M.ts.length : Int) ≤ M.picks
theorem newAr_lok : newAr.lok := ⟨by decide, by decide, by constructor <;> decide, by constructor <;> decide, fun h => absurd h (by decide)⟩
theorem Mc.threads_mem : ∀ {ts : List (List (List Op))} {i n k : Int} {pol : Bool} {x : Th}, x ∈ Mc.threads i n k pol ts → ∃ (j : Nat) (t : List (List Op)), ts[j]? = some t ∧ x = Th.new (i + j) n k pol t := by
  intro ts
  induction ts with
  | nil => intro i n k pol x h; cases h
  | cons t ts ih =>
    intro i n k pol x h
    rcases List.mem_cons.1 h with rfl | h
    · exact ⟨0, t, rfl, by simp⟩
    · obtain ⟨j, t', h1, h2⟩ := ih h
      refine ⟨j + 1, t', h1, ?_⟩
      rw [h2]; congr 1; omega
theorem Mc.threads_len : ∀ {ts : List (List (List Op))} {i n k : Int} {pol : Bool}, (Mc.threads i n k pol ts).length = ts.length := by
  intro ts
  induction ts with
  | nil => intros; rfl
  | cons t ts ih => intro i n k pol; simp [Mc.threads, ih]
theorem Plan.may_spec {p : Plan} (h : p.may = true) : 1 ≤ p.threads.length ∧ p.threads.length ≤ 4 ∧ 1 ≤ p.attempts ∧ p.attempts ≤ 16 ∧ ∀ t ∈ p.threads, thrMay t = true := by
  unfold Plan.may at h
  simp only [Bool.and_eq_true, decide_eq_true_eq, List.all_eq_true] at h
  exact ⟨h.1.1, h.1.2.1, h.1.2.2.1, h.1.2.2.2, h.2⟩
theorem Mc.new_ok {p : Plan} (h : p.may = true) : (Mc.new p).ok := by
  obtain ⟨h1, h2, h3, h4, h5⟩ := Plan.may_spec h
  refine ⟨newAr_ok, newAr_lok, fun x hx => ?_, by show (Mc.threads _ _ _ _ _).length ≤ 4; rw [Mc.threads_len]; exact h2, rfl, fun y hy => ?_, Int.le_refl 0, (by show (0 : Int) ≤ 65536; decide), Int.le_refl 0⟩
  · obtain ⟨j, t, e1, rfl⟩ := Mc.threads_mem hx
    have hj := (List.getElem?_eq_some_iff.1 e1).1
    refine ⟨Th.new_ok ⟨by omega, by omega, ⟨h3, h4⟩, h5 t (List.mem_of_getElem? e1)⟩, (fun a h => by cases h), (fun e h => by cases h), ⟨⟨Int.le_refl (-1), by show (-1 : Int) < 12; decide⟩, fun a h => by cases h⟩⟩
  · have : y = 0 := List.eq_of_mem_replicate (n := 12) hy
    subst this
    exact ⟨Int.le_refl 0, Int.le_refl 0⟩
section
variable {A : Ar} {x : Th} {L : List Int} {pick s : Int}
theorem evTurn_mem {es : List Event} {f : Event → Event} {e : Event} (h : e ∈ evTurn es f) : e ∈ es ∨ ∃ e0 ∈ es, e = f e0 := by
  obtain ⟨i, hi, he⟩ := List.mem_iff_getElem.1 h
  obtain ⟨e0, h1, h2⟩ := evTurn_get (show (evTurn es f)[i]? = some e by rw [List.getElem?_eq_getElem hi, he])
  rcases h2 with ⟨rfl, _⟩ | ⟨rfl, _⟩
  · exact .inl (List.mem_of_getElem? h1)
  · exact .inr ⟨e0, List.mem_of_getElem? h1, rfl⟩
theorem Th.answer_short (o : ∀ n, x.att = some n → n.ans.length ≤ 2) (h : Short x.evs) : Short (x.answer pick).evs := by
  unfold Th.answer
  split
  · intro e he
    rcases evTurn_mem he with h1 | ⟨e0, h1, rfl⟩
    · exact h e h1
    · exact h e0 h1
  · intro e he
    rcases evTurn_mem he with h1 | ⟨e0, h1, rfl⟩
    · exact h e h1
    · simp only
      split
      · cases ha : x.att with
        | none => simp
        | some n => exact o n ha
      · exact h e0 h1
theorem Th.act_evs {a : Act} (h : a ≠ .adv) : (x.act A L pick a).1.1.evs = x.evs := by
  have tris : ∀ y : Th, (y.tris A).1.evs = y.evs := fun y => by unfold Th.tris; split <;> rfl
  have taks : ∀ y : Th, (y.taks A L).1.1.evs = y.evs := fun y => by
    unfold Th.taks
    split
    · rw [tris]; rfl
    · simp only
      split
      · rfl
      · split <;> rfl
  cases a with
  | ent =>
    show (x.ents A).1.evs = x.evs
    unfold Th.ents
    cases x.ent with
    | none => rfl
    | some n => simp only; split <;> rfl
  | fre =>
    unfold Th.act Th.fres
    have hc : x.cached.evs = x.evs := by unfold Th.cached; split <;> rfl
    simp only
    split
    · rw [taks, hc]
    · split <;> exact hc
  | tak => exact taks x
  | tri => exact tris x
  | ret => show (x.rets A).1.evs = x.evs; unfold Th.rets; split <;> rfl
  | lea => rfl
  | adv => exact absurd rfl h
theorem Th.act_short {a : Act} (o : x.ok) (h : Short x.evs) : Short (x.act A L pick a).1.1.evs := by
  by_cases e : a = .adv
  · subst e
    unfold Th.act Th.advs
    cases hd : x.adv with
    | none => exact h
    | some d =>
      simp only
      split
      · exact Th.answer_short (x := { x with adv := some (d.step A).1 }) (fun n hn => (o.att n hn).2) h
      · exact h
  · rw [Th.act_evs e]; exact h
theorem Th.ended_evs {r : (Th × Int × Ar) × List Int} : (Th.ended r).1.evs = r.1.1.evs := by unfold Th.ended; split <;> rfl
theorem Th.begin_short (h : Short x.evs) : Short (x.begin pick).1.evs := by
  unfold Th.begin
  split
  · exact h
  · split
    · exact h
    · simp only
      split
      · intro e he
        rcases List.mem_append.1 he with h1 | h1
        · exact h e h1
        · rw [List.mem_singleton.1 h1]; exact Nat.zero_le 2
      · exact h
theorem Th.step_short (o : x.ok) (h : Short x.evs) : Short (x.step A L pick).1.evs := by
  cases hd : x.dead with
  | true => rw [Th.step_dead hd]; exact h
  | false =>
    have o1 : x.z.ok := { o with }
    cases hx : x.next with
    | some a => rw [Th.step_some hd hx, Th.ended_evs]; exact Th.act_short o1 h
    | none =>
      rw [Th.step_none hd hx]
      have b := Th.begin_ok (pick := pick) o1 hx
      have bs := Th.begin_short (pick := pick) (x := x.z) h
      split
      · rw [Th.ended_evs]; exact Th.act_short b.1 bs
      · exact bs
theorem Th.decide_short (h : Short x.evs) : Short (x.decide s pick).evs := by
  unfold Th.decide
  split
  · intro e he
    rcases evTurn_mem he with h1 | ⟨e0, h1, rfl⟩
    · exact h e h1
    · exact h e0 h1
  · exact h
theorem Th.step_lives : (x.step A L pick).2.2.2.2 = L ∨ ∃ s, (x.step A L pick).2.2.2.2 = lived s L := by
  have taks : ∀ y : Th, (y.taks A L).2 = L ∨ ∃ s, (y.taks A L).2 = lived s L := fun y => by
    unfold Th.taks
    split
    · exact .inr ⟨_, rfl⟩
    · simp only
      split
      · exact .inl rfl
      · split
        · exact .inl rfl
        · exact .inr ⟨_, rfl⟩
  have act : ∀ (y : Th) a, (y.act A L pick a).2 = L ∨ ∃ s, (y.act A L pick a).2 = lived s L := fun y a => by
    cases a with
    | fre =>
      unfold Th.act Th.fres
      simp only
      split
      · exact taks _
      · split <;> exact .inl rfl
    | tak => exact taks _
    | _ => exact .inl rfl
  have ended : ∀ r : (Th × Int × Ar) × List Int, (Th.ended r).2.2.2.2 = r.2 := fun r => by unfold Th.ended; split <;> rfl
  cases hd : x.dead with
  | true => rw [Th.step_dead hd]; exact .inl rfl
  | false =>
    cases hx : x.next with
    | some a => rw [Th.step_some hd hx, ended]; exact act _ _
    | none =>
      rw [Th.step_none hd hx]
      split
      · rw [ended]; exact act _ _
      · exact .inl rfl
theorem Th.decide_wrs (h : x.wrs) : (x.decide s pick).wrs := by unfold Th.decide; split <;> exact h
end
theorem decAll_len {t : Touch} {pick : Int} {xs : List Th} : (decAll t pick xs).length = xs.length := by
  unfold decAll; split
  · rw [List.length_map]
  · rfl
theorem Mc.pick_ok {M : Mc} {k : Int} (o : M.ok) : (M.pick k).1.ok := by
  unfold Mc.pick
  split
  · exact o
  · rename_i c
    split
    · exact o
    · rename_i x hx
      have hp : M.picks < 65536 := by omega
      have ox := o.ths x (List.mem_of_getElem? hx)
      have s := Th.step_ok (L := M.L) ox.1 o.A o.p0
      have a := Th.step_acc (L := M.L) (pick := M.picks) ox.1 ox.2.1 o.A
      have hs := Th.step_short (A := M.A) (L := M.L) (pick := M.picks) ox.1 ox.2.2.1
      have ht := Th.step_tsr (A := M.A) (L := M.L) (pick := M.picks) ox.1 ox.2.2.2
      have hl := Th.step_lives (A := M.A) (x := x) (L := M.L) (pick := M.picks)
      generalize x.step M.A M.L M.picks = r at s a hs hl ht
      simp only
      have base : ∀ y ∈ M.ths.set k.toNat r.1, y.ok ∧ y.wrs ∧ Short y.evs ∧ y.tsr := fun y hy => by
        rcases List.mem_or_eq_of_mem_set hy with q | q
        · exact o.ths y q
        · subst q; exact ⟨s.1, a.2, hs, ht⟩
      refine ⟨s.2, a.1.lok o.A o.l, fun y hy => ?_, ?_, ?_, fun y hy => ?_, (by have := o.p0; show 0 ≤ M.picks + 1; omega), (by show M.picks + 1 ≤ 65536; omega), ?_⟩
      · simp only at hy
        split at hy
        · unfold decAll at hy
          split at hy
          · obtain ⟨z, hz, rfl⟩ := List.mem_map.1 hy
            have := base z hz
            exact ⟨Th.decide_ok this.1, Th.decide_wrs this.2.1, Th.decide_short this.2.2.1, Th.decide_tsr this.2.2.2⟩
          · exact base y hy
        · exact base y hy
      · show (if r.2.1 = true then decAll _ _ _ else _ : List Th).length ≤ 4
        have := o.n
        split
        · rw [decAll_len, List.length_set]; exact this
        · rw [List.length_set]; exact this
      · show r.2.2.2.2.length = 12
        have := o.L
        rcases hl with e | ⟨s, e⟩
        · rw [e]; exact this
        · rw [e]; unfold lived; rw [List.length_set]; exact this
      · show 0 ≤ y ∧ y ≤ M.picks + 1
        simp only at hy
        have old : ∀ z ∈ M.L, 0 ≤ z ∧ z ≤ M.picks + 1 := fun z hz => by have := o.L2 z hz; omega
        rcases hl with e | ⟨s, e⟩
        · rw [e] at hy; exact old y hy
        · rw [e] at hy
          unfold lived at hy
          rcases List.mem_or_eq_of_mem_set hy with q | q
          · exact old y q
          · rw [q, List.getD_eq_getElem?_getD]
            have p0 := o.p0
            cases hg : M.L[s.toNat]? with
            | none => simp only [Option.getD_none]; omega
            | some z => have := o.L2 z (List.mem_of_getElem? hg); simp only [Option.getD_some]; omega
      · show ((if r.2.1 = true then M.ts ++ [_] else M.ts : List Touch).length : Int) ≤ M.picks + 1
        have := o.ts
        split
        · simp only [List.length_append, List.length_singleton]; omega
        · omega
attribute [local irreducible] bnd ldV stV ifV binV eqI
set_option maxRecDepth 20000
def mcRow (a : Nat) (tv : Value) (L : List Int) (picks : Int) (xv : Value) : GObj := lvRow 74 16 [ptr a, tv] L [i64 picks, xv]
def mcP (b : Nat) (M : Mc) : Part := fun h => ∃ (a : Nat) (bs : List Nat) (tv xv : Value), All [pts b (mcRow a tv M.L M.picks xv), arP 142 a M.A, rowP 1 tv (bs.map encP), rowP 8 xv (M.ts.map Touch.enc), eachP thP bs M.ths] h
section
variable {a b : Nat} {R : List Part} {h : GH} {K : Value → GH → Prop} {M : Mc}
theorem mcP_open {C : Prop} (hp : All (mcP b M :: R) h) (k : ∀ a bs tv xv, All (pts b (mcRow a tv M.L M.picks xv) :: arP 142 a M.A :: rowP 1 tv (bs.map encP) :: rowP 8 xv (M.ts.map Touch.enc) :: eachP thP bs M.ths :: R) h → C) : C := by
  obtain ⟨a, hp⟩ := All.ex hp
  obtain ⟨bs, hp⟩ := All.ex hp
  obtain ⟨tv, hp⟩ := All.ex hp
  obtain ⟨xv, hp⟩ := All.ex hp
  exact k a bs tv xv (All.flat hp)
theorem mcP_shut {a : Nat} {bs : List Nat} {tv xv : Value} (hp : All (pts b (mcRow a tv M.L M.picks xv) :: arP 142 a M.A :: rowP 1 tv (bs.map encP) :: rowP 8 xv (M.ts.map Touch.enc) :: eachP thP bs M.ths :: R) h) : All (mcP b M :: R) h :=
  (All.fold (l := [_, _, _, _, _]) hp).head fun h1 z => ⟨a, bs, tv, xv, z⟩
theorem lv_ld2 {U : TypeId} {sz n k : Nat} {pre post : List Value} {L : List Int} {v : Value} (hp : All (pts b (lvRow U sz pre L post) :: R) h) (j : Nat) (hv : post[j]? = some v) (hk : k = pre.length + L.length + j) : ldV n false (.pointer (some ⟨b, k, none⟩)) h = some v := by
  rw [ldV_cell hp.pt0, hk, List.getElem?_append_right (by omega), List.getElem?_append_right (by rw [List.length_map]; omega), List.length_map]
  rw [show pre.length + L.length + j - pre.length - L.length = j by omega]
  exact hv
theorem lv_st2 {U : TypeId} {sz k : Nat} {pre post : List Value} {L : List Int} {y : Value} {K : GH → Prop} (hp : All (pts b (lvRow U sz pre L post) :: R) h) (j : Nat) (hj : j < post.length) (hk : k = pre.length + L.length + j) (hy : y.cells.size = 1) (hy2 : y.cells.toList = [y])
    (k' : ∀ h', All (pts b (lvRow U sz pre L (post.set j y)) :: R) h' → K h') (ho : oneCell y = true := by rfl) : bnd (stV 1 (.pointer (some ⟨b, k, none⟩)) y h) K := by
  refine st0 hp (lvRow U sz pre L (post.set j y)) hy (by simp only [List.length_append, List.length_map]; omega) (by rw [hy2]; simp [ho]) ?_ k'
  rw [hy2]
  show GObj.row _ ((pre ++ (L.map i64 ++ post)).set k y) _ _ = _
  rw [hk, List.set_append_right _ _ (by omega), List.set_append_right _ _ (by rw [List.length_map]; omega), List.length_map]
  rw [show pre.length + L.length + j - pre.length - L.length = j by omega]
  rfl
theorem T_StateW {g st : Int} (h0 : 0 ≤ g) (h1 : g < 1099511627776) (h2 : 0 ≤ st) (h3 : st < 4) (hK : K (i64 (stateW g st)) h) : T Tryz.prog 87 [i64 g, i64 st] h K := by
  apply S87_T
  unfold S87
  refine wk ?_
  refine T_Of (by omega) (by omega) ?_
  exact hK
theorem quo4 {x : Int} (h : 0 ≤ x) (h2 : x < 1099511627776) : binV .quo (i64 x) (.int .i64 4) = some (i64 (x / 4)) := quo_nn h (by omega) (by decide)
theorem T_decides {d : Nat} {t : Touch} (hp : All (pts d (.row 105 t.enc 8 true) :: R) h) (a0 : 0 ≤ t.at_) (a1 : t.at_ < 634) (hn : I64 t.now)
    (hK : (∀ s, t.dec = none → K (.tuple #[i64 s, .bool false]) h) ∧ ∀ s, t.dec = some s → K (.tuple #[i64 s, .bool true]) h) : T Tryz.prog 55 [ptr d] h K := by
  apply S55_T
  unfold S55
  obtain ⟨k1, k2⟩ := hK
  unfold Touch.dec at k1 k2
  have hp0 := hp
  unfold Touch.enc at hp
  refine wk ?_
  -- the slot, if there is one
  have hq : ∃ sv, binV .quo (i64 (t.at_ - 34)) (.int .i64 50) = some (i64 sv) ∧ (34 ≤ t.at_ → sv = (t.at_ - 34) / 50) := by
    rcases Int.lt_or_le t.at_ 34 with c | c
    · refine ⟨(t.at_ - 34).tdiv 50, ?_, fun q => by omega⟩
      have hr : (t.at_ - 34).tdiv 50 = 0 := by
        have all : ∀ k : Fin 34, ((k.val : Int) - 34).tdiv 50 = 0 := by decide
        have := all ⟨t.at_.toNat, by omega⟩
        simp only at this
        rw [show ((t.at_.toNat : Nat) : Int) = t.at_ by omega] at this
        exact this
      rw [binV_quo, if_neg (by decide), hr]; rfl
    · exact ⟨(t.at_ - 34) / 50, quo_nn (by omega) (by omega) (by decide), fun _ => rfl⟩
  obtain ⟨sv, q1, q2⟩ := hq
  refine bnd_of q1 ?_
  refine wk ?_
  refine T_Plain hn.2 ?_
  refine wk ?_
  refine ifN_cases (fun c => ?_) fun c => ?_
  · exact k1 _ (by rw [if_pos (.inl c)])
  refine wk ?_
  refine ifV_cases (fun c2 => ?_) fun c2 => ?_
  · exact k1 _ (by rw [if_pos (.inr (.inl c2))])
  refine wk ?_
  refine ifV_cases (fun c3 => ?_) fun c3 => ?_
  · exact k1 _ (by rw [if_pos (.inr (.inr (.inl c3)))])
  have c3 : 34 ≤ t.at_ := by omega
  have q2 := q2 c3
  subst q2
  refine wk ?_
  refine T_Base (by omega) (by omega) ?_
  refine wk ?_
  refine ifN_cases (fun c4 => ?_) fun c4 => ?_
  · exact k1 _ (by rw [if_pos (.inr (.inr (.inr (.inl c4))))])
  cases hpl : plainOf t.now with
  | none =>
    refine wk ?_
    exact k1 _ (by rw [if_pos (.inr (.inr (.inr (.inr (by rw [hpl]; rfl)))))])
  | some v =>
    simp only [Option.getD_some]
    refine wk ?_
    unfold S55_j1
    have hv := plainOf_range hpl
    refine wk ?_
    refine bnd_of (quo4 hv.1 hv.2) ?_
    refine T_StateW (by have := hv.1; omega) (by have := hv.2; omega) (by decide) (by decide) ?_
    refine wk ?_
    have ev : valOf t.now = v := by unfold valOf; rw [hpl]; rfl
    have hno : ¬ (t.kind ≠ 2 ∨ t.was = t.now ∨ t.at_ < 34 ∨ t.at_ ≠ baseOf ((t.at_ - 34) / 50) ∨ (plainOf t.now).isSome = false) := by
      rw [hpl]
      rintro (q | q | q | q | q)
      · exact q c
      · exact c2 q
      · omega
      · exact q c4
      · cases q
    rw [if_neg hno, ev] at k1
    rw [if_neg hno, ev] at k2
    by_cases c5 : t.now = stateW (v / 4) 1
    · rw [decide_eq_true c5]
      exact k2 _ (by rw [if_pos c5])
    · rw [decide_eq_false c5]
      exact k1 _ (by rw [if_neg c5])
end
end Go.Proofs.YtcpfkkppfgolaaaGreatDoor
namespace Go.Proofs.YtcpfkkppfgolaaaGreatDoor
open Go GW Go.Proofs
attribute [local irreducible] bnd ldV stV ifV binV eqI
set_option maxRecDepth 20000
theorem list8 {l : List Int} (h : l.length = 8) : ∃ a0 a1 a2 a3 a4 a5 a6 a7, l = [a0, a1, a2, a3, a4, a5, a6, a7] := by
  match l, h with
  | [a0, a1, a2, a3, a4, a5, a6, a7], _ => exact ⟨_, _, _, _, _, _, _, _, rfl⟩
theorem map_part {α : Type} {f : α → α} {l : List α} {i : Nat} {x : α} (h : l[i]? = some x) : ((l.take i).map f ++ l.drop i).set i (f x) = (l.take (i + 1)).map f ++ l.drop (i + 1) := by
  have hi := (List.getElem?_eq_some_iff.1 h).1
  have e : l.drop i = x :: l.drop (i + 1) := by
    rw [List.drop_eq_getElem_cons hi]
    rw [List.getElem?_eq_getElem hi] at h; cases h; rfl
  have hl : ((l.take i).map f).length = i := by rw [List.length_map, List.length_take]; omega
  rw [List.set_append_right _ _ (by omega), hl, Nat.sub_self, e, List.set_cons_zero, List.take_add_one, h, List.map_append, List.append_assoc]; rfl
theorem map_part_get {α : Type} {f : α → α} {l : List α} {i : Nat} {x : α} (h : l[i]? = some x) : ((l.take i).map f ++ l.drop i)[i]? = some x := by
  have hi := (List.getElem?_eq_some_iff.1 h).1
  have hl : ((l.take i).map f).length = i := by rw [List.length_map, List.length_take]; omega
  rw [List.getElem?_append_right (by omega), hl, Nat.sub_self, List.getElem?_drop]; exact h
section
variable {a b : Nat} {R : List Part} {h : GH} {K : Value → GH → Prop} {M : Mc} {bs : List Nat} {xs : List Th} {tv xv : Value} {L : List Int} {picks : Int} {ts : List Touch} {A : Ar}
theorem T_note {k : Nat} {x : Th} (hp : All (pts b (mcRow a tv L picks xv) :: arP 142 a A :: rowP 1 tv (bs.map encP) :: rowP 8 xv (ts.map Touch.enc) :: eachP thP bs xs :: R) h) (hx : xs[k]? = some x) (tr : x.tsr) (hL : L.length = 12) (lok : A.lok) (hm : ts.length ≤ 100000) (oe : ∀ y ∈ xs, y.evs.length ≤ 8) (hn4 : xs.length ≤ 4)
    (hK : ∀ xv' h', All (pts b (mcRow a tv L picks xv') :: arP 142 a A :: rowP 1 tv (bs.map encP) :: rowP 8 xv' ((ts ++ [noteT A L k x]).map Touch.enc) :: eachP thP bs (decAll (noteT A L k x) picks xs) :: R) h' → K (.tuple #[]) h') : T Tryz.prog 28 [ptr b, i64 k] h K := by
  apply S28_T
  unfold S28
  have hA := (arP.at (hn (hp.up 1))).2
  obtain ⟨l0, l1, l2, l3, l4, l5, l6, l7, el⟩ := list8 hA.touch
  have lok' := lok
  have bl : bs.length = xs.length := All.case (hn (hp.up 4)) fun h1 p _ => eachP_len p
  have kl : k < xs.length := (List.getElem?_eq_some_iff.1 hx).1
  obtain ⟨tb, htb⟩ : ∃ tb, bs[k]? = some tb := ⟨_, List.getElem?_eq_getElem (by omega)⟩
  unfold mcRow lvRow at hp
  refine wk ?_
  refine T_Last (hn (hp.up 1)) ?_
  refine wk ?_
  rw [el]
  refine nwst hp (.row 105 [i64 l0, i64 l1, i64 l2, i64 l3, i64 l4, i64 l5, i64 l6, i64 l7] 8 true) rfl rfl rfl rfl fun d h1 hp => ?_
  refine wk ?_
  refine st0 hp (.row 105 [i64 k, i64 l1, i64 l2, i64 l3, i64 l4, i64 l5, i64 l6, i64 l7] 8 true) rfl (by simp) rfl rfl fun h2 hp => ?_
  refine wk ?_
  obtain ⟨p, e1, e2⟩ := (All.rows (hn (hp.up 3))).get1 (i := k) (x := ptr tb) (by rw [List.getElem?_map, htb]; rfl) .i64
  refine bnd_of e1 (bnd_of e2 ?_)
  refine T_thThrough (eachP_at htb hx (hn (hp.up 5))) ?_
  refine wk ?_
  refine st0 hp (.row 105 [i64 k, i64 l1, i64 l2, i64 l3, i64 l4, i64 x.ts, i64 l6, i64 l7] 8 true) rfl (by simp) rfl rfl fun h3 hp => ?_
  refine wk ?_
  refine st0 hp (.row 105 [i64 k, i64 l1, i64 l2, i64 l3, i64 l4, i64 x.ts, i64 x.tg, i64 l7] 8 true) rfl (by simp) rfl rfl fun h4 hp => ?_
  refine wk ?_
  have j1 : ∀ h', All (pts d (.row 105 (noteT A L k x).enc 8 true) :: pts b (mcRow a tv L picks xv) :: arP 142 a A :: rowP 1 tv (bs.map encP) :: rowP 8 xv (ts.map Touch.enc) :: eachP thP bs xs :: R) h' → S28_j1 (ptr b) (ptr d) h' K := by
    intro h' hp
    have ta : (noteT A L k x).at_ = l2 := by show A.last.getD 2 0 = l2; rw [el]; rfl
    have tn : (noteT A L k x).now = l4 := by show A.last.getD 4 0 = l4; rw [el]; rfl
    have k1 := lok.at0; have k2 := lok.at1; have k3 := lok.now
    rw [el] at k1 k2 k3
    generalize noteT A L k x = t at hp hK ta tn
    unfold S28_j1
    refine wk ?_
    have ld15 : ∀ {h'} {R'} {xv}, All (pts b (mcRow a tv L picks xv) :: R') h' → ldV 1 false (.pointer (some ⟨b, 0 + 15, none⟩)) h' = some xv := fun hp => lv_ld2 hp 1 rfl (by rw [hL]; rfl)
    have ld14 : ∀ {h'} {R'} {xv}, All (pts b (mcRow a tv L picks xv) :: R') h' → ldV 1 false (.pointer (some ⟨b, 0 + 14, none⟩)) h' = some (i64 picks) := fun hp => lv_ld2 hp 0 rfl (by rw [hL]; rfl)
    refine bnd_of (ld15 (hn (hp.up 1))) ?_
    refine la0 hp (c := t.enc) (Nat.le_refl 8) rfl ?_
    refine bs0 (size := 8) hp ([t].map Touch.enc) rfl rfl (by simp) (Touch.all_good _) fun sv h5 hp => ?_
    have r2 := hp.rows
    refine ap0 (hn (hp.up 5)) r2 (Touch.all_good _) (by decide) (by simp only [List.length_map, List.length_cons, List.length_nil]; omega) fun xv' h6 hp => ?_
    rw [← List.map_append] at hp
    obtain ⟨ad, ln, cap, rfl⟩ := All.isSlice hp
    replace hp := hn (hp.re 7 [3, 2, 4, 5, 0, 6])
    refine wk ?_
    unfold mcRow at hp
    refine lv_st2 hp 1 (by simp) (by rw [hL]; rfl) rfl rfl fun h7 hp => ?_
    replace hp : All (pts b (mcRow a tv L picks (.slice ad ln cap)) :: _) h7 := hp
    replace hp := hn (hp.re 2 [1, 0])
    refine T_decides hp (by rw [ta]; exact k1) (by rw [ta]; exact k2) (by rw [tn]; exact k3) ⟨fun s hd => ?_, fun s hd => ?_⟩
    · unfold decAll at hK
      rw [hd] at hK
      refine wk ?_
      exact hK _ _ hp.tail
    · unfold decAll at hK
      rw [hd] at hK
      dsimp only at hK
      replace hp := hp.tail
      unfold mcRow lvRow at hp
      refine wk ?_
      have htl : lnV tv = some (i64 xs.length) := by have := All.len (hn (hp.up 2)); rw [List.length_map, bl] at this; exact this
      refine bnd_of htl ?_
      refine Lfp_fam (ι := Nat) (fun i => [ptr b, i64 s, tv, i64 xs.length, i64 i]) (fun i h' => i ≤ xs.length ∧ All (pts b (mcRow a tv L picks (.slice ad ln cap)) :: arP 142 a A :: rowP 1 tv (bs.map encP) :: rowP 8 (.slice ad ln cap) ((ts ++ [t]).map Touch.enc) :: eachP thP bs ((xs.take i).map (fun x => x.decide s picks) ++ xs.drop i) :: R) h') (fun i => xs.length - i) ?_ 0 h7 ⟨by omega, hp⟩
      clear hp
      rintro i h8 X ⟨hi, hp⟩ again
      simp only [tup_zero, tup_succ]
      refine wk ?_
      refine ifV_cases (fun c => ?_) fun c => ?_
      · obtain ⟨y, hy⟩ : ∃ y, xs[i]? = some y := ⟨_, List.getElem?_eq_getElem (by omega)⟩
        obtain ⟨yb, hyb⟩ : ∃ yb, bs[i]? = some yb := ⟨_, List.getElem?_eq_getElem (by omega)⟩
        obtain ⟨p, e1, e2⟩ := (All.rows (hn (hp.up 2))).get1 (i := i) (x := ptr yb) (by rw [List.getElem?_map, hyb]; rfl) .i64
        refine bnd_of e1 (bnd_of e2 ?_)
        refine wk ?_
        refine bnd_of (ld14 hp) ?_
        have hy2 := map_part_get (f := fun x : Th => x.decide s picks) hy
        refine T_thDecide (eachP_at hyb hy2 (hn (hp.up 4))) (oe y (List.mem_of_getElem? hy)) fun h9 hp => ?_
        have hp := eachP_put (b := y.decide s picks) hyb (by simp only [List.length_append, List.length_map, List.length_take, List.length_drop]; omega) hp
        rw [map_part (f := fun x : Th => x.decide s picks) hy] at hp
        refine wk ?_
        exact again (i + 1) _ ⟨by omega, hn (hp.re 5 [1, 2, 3, 4, 0])⟩ (by omega)
      · have : i = xs.length := by omega
        subst this
        rw [List.take_length, List.drop_length, List.append_nil] at hp
        exact hK _ _ hp
  have tr0 := tr.1.1; have tr1 := tr.1.2
  have hp0 : All (pts d (.row 105 [i64 k, i64 l1, i64 l2, i64 l3, i64 l4, i64 x.ts, i64 x.tg, i64 l7] 8 true) :: pts b (mcRow a tv L picks xv) :: arP 142 a A :: rowP 1 tv (bs.map encP) :: rowP 8 xv (ts.map Touch.enc) :: eachP thP bs xs :: R) h4 := hp
  refine ifV_cases (fun c => ?_) fun c => ?_
  · obtain ⟨n, en⟩ := Int.eq_ofNat_of_zero_le c
    refine wk ?_
    rw [en]
    refine bnd_of (iaV_at (by omega) .i64) ?_
    have hl : ldV 1 false (.pointer (some ⟨b, 2 + n * 1, none⟩)) h4 = some (i64 (L.getD n 0)) := lv_ld (pre := [ptr a, tv]) (hn (hp0.up 1)) (by omega)
    refine bnd_of hl ?_
    refine wk ?_
    refine st0 hp (.row 105 [i64 k, i64 l1, i64 l2, i64 l3, i64 l4, i64 x.ts, i64 x.tg, i64 (L.getD n 0)] 8 true) rfl (by simp) rfl (by rw [en]; rfl) fun h5 hp => ?_
    refine j1 _ ?_
    have e : (noteT A L k x).enc = [i64 k, i64 l1, i64 l2, i64 l3, i64 l4, i64 x.ts, i64 x.tg, i64 (L.getD n 0)] := by
      unfold noteT Ar.lst Touch.enc
      rw [el, if_pos c, en]; rfl
    rw [e]
    exact hp
  · refine j1 _ ?_
    have e : (noteT A L k x).enc = [i64 k, i64 l1, i64 l2, i64 l3, i64 l4, i64 x.ts, i64 x.tg, i64 l7] := by
      unfold noteT Ar.lst Touch.enc
      rw [el, if_neg c]; rfl
    rw [e]
    exact hp
end
end Go.Proofs.YtcpfkkppfgolaaaGreatDoor
namespace Go.Proofs.YtcpfkkppfgolaaaGreatDoor
open Go GW Go.Proofs
attribute [local irreducible] bnd ldV stV ifV binV eqI
set_option maxRecDepth 20000
section
variable {a b : Nat} {R : List Part} {h : GH} {K : Value → GH → Prop} {M : Mc} {k : Int}
theorem Mc.pick_no (c : ¬ (0 ≤ k ∧ k < M.ths.length) ∨ 65536 ≤ M.picks) : M.pick k = (M, false, 1900) := by unfold Mc.pick; rw [if_pos c]
theorem Mc.pick_yes {n : Nat} {x : Th} (hx : M.ths[n]? = some x) (hp : M.picks < 65536) : M.pick n =
    ({ A := (x.step M.A M.L M.picks).2.2.2.1, ths := if (x.step M.A M.L M.picks).2.1 then decAll (noteT (x.step M.A M.L M.picks).2.2.2.1 (x.step M.A M.L M.picks).2.2.2.2 n (x.step M.A M.L M.picks).1) M.picks (M.ths.set n (x.step M.A M.L M.picks).1) else M.ths.set n (x.step M.A M.L M.picks).1, L := (x.step M.A M.L M.picks).2.2.2.2, picks := M.picks + 1, ts := if (x.step M.A M.L M.picks).2.1 then M.ts ++ [noteT (x.step M.A M.L M.picks).2.2.2.1 (x.step M.A M.L M.picks).2.2.2.2 n (x.step M.A M.L M.picks).1] else M.ts }, (x.step M.A M.L M.picks).2.1, if (x.step M.A M.L M.picks).2.2.1 = 0 then 0 else 1900) := by
  have hn := (List.getElem?_eq_some_iff.1 hx).1
  unfold Mc.pick
  rw [if_neg (by omega)]
  simp only [Int.toNat_natCast, hx]
theorem Th.ok.evs8 {x : Th} (o : x.ok) : x.evs.length ≤ 8 := by have := o.evs; have := thrMay_spec o.txns; omega
theorem T_mPick (hp : All (mcP b M :: R) h) (o : M.ok) (hK : ∀ h', All (mcP b (M.pick k).1 :: R) h' → K (.tuple #[.bool (M.pick k).2.1, i64 (M.pick k).2.2]) h') : T Tryz.prog 9 [ptr b, i64 k] h K := by
  apply S9_T
  unfold S9
  refine wk ?_
  have hp00 := hp
  refine mcP_open hp fun a bs tv xv hp => ?_
  have bl : bs.length = M.ths.length := All.case (hn (hp.up 4)) fun h1 p _ => eachP_len p
  have ld14 : ∀ {h'} {R'} {L : List Int} {xv}, L.length = 12 → All (pts b (mcRow a tv L M.picks xv) :: R') h' → ldV 1 false (.pointer (some ⟨b, 0 + 14, none⟩)) h' = some (i64 M.picks) := fun hL hp => lv_ld2 hp 0 rfl (by rw [hL]; rfl)
  have hp0 := hp
  unfold mcRow lvRow at hp
  refine wk ?_
  have htl : lnV tv = some (i64 M.ths.length) := by have := All.len (hn (hp.up 2)); rw [List.length_map, bl] at this; exact this
  refine bnd_of htl ?_
  refine T_Below ?_
  refine wk ?_
  refine ifN_cases (fun c => ?_) fun c => ?_
  · rw [Mc.pick_no (.inl c)] at hK
    exact hK _ hp00
  refine wk ?_
  refine bnd_of (ld14 o.L hp0) ?_
  refine wk ?_
  refine ifV_cases (fun c2 => ?_) fun c2 => ?_
  · rw [Mc.pick_no (.inr c2)] at hK
    exact hK _ hp00
  obtain ⟨n, rfl⟩ := Int.eq_ofNat_of_zero_le c.1
  have hn0 : n < M.ths.length := by omega
  obtain ⟨x, hx⟩ : ∃ x, M.ths[n]? = some x := ⟨_, List.getElem?_eq_getElem hn0⟩
  obtain ⟨tb, htb⟩ : ∃ tb, bs[n]? = some tb := ⟨_, List.getElem?_eq_getElem (by omega)⟩
  rw [Mc.pick_yes hx (by omega)] at hK
  have ox := o.ths x (List.mem_of_getElem? hx)
  have s := Th.step_ok (L := M.L) ox.1 o.A o.p0
  have ac := Th.step_acc (L := M.L) (pick := M.picks) ox.1 ox.2.1 o.A
  have trs := Th.step_tsr (A := M.A) (L := M.L) (pick := M.picks) ox.1 ox.2.2.2
  have hl := Th.step_lives (A := M.A) (x := x) (L := M.L) (pick := M.picks)
  have hlok := ac.1.lok o.A o.l
  unfold S9_j1
  refine wk ?_
  obtain ⟨p, e1, e2⟩ := (All.rows (hn (hp.up 2))).get1 (i := n) (x := ptr tb) (by rw [List.getElem?_map, htb]; rfl) .i64
  refine bnd_of e1 (bnd_of e2 ?_)
  refine wk ?_
  refine bnd_of (ld14 o.L hp0) ?_
  have p0 := o.p0
  have hLok : Lok M.L := ⟨o.L, fun y hy => by have := o.L2 y hy; have := o.p1; omega⟩
  have hp1 := eachP_at htb hx (hn (hp0.up 4))
  replace hp1 : All (arP 142 a M.A :: pts b (lvRow 74 16 [ptr a, tv] M.L [i64 M.picks, xv]) :: thP tb x :: eachP thP (bs.eraseIdx n) (M.ths.eraseIdx n) :: rowP 1 tv (bs.map encP) :: rowP 8 xv (M.ts.map Touch.enc) :: R) h := hn (hp1.re 6 [3, 2, 0, 1, 4, 5])
  refine T_thStep hp1 ox.1 hLok p0 fun h1 hp => ?_
  clear hp1 hp0
  generalize x.step M.A M.L M.picks = r at hp hK s ac trs hl hlok
  obtain ⟨x', is, code, A', L'⟩ := r
  dsimp only at hp hK s ac trs hl hlok ⊢
  have hL' : L'.length = 12 := by
    rcases hl with e | ⟨s, e⟩
    · rw [e]; exact o.L
    · rw [e]; unfold lived; rw [List.length_set]; exact o.L
  have hp2 := eachP_put (b := x') htb hn0 (hn (hp.re 4 [2, 3, 0, 1]))
  replace hp2 : All (pts b (mcRow a tv L' M.picks xv) :: arP 142 a A' :: rowP 1 tv (bs.map encP) :: rowP 8 xv (M.ts.map Touch.enc) :: eachP thP bs (M.ths.set n x') :: R) h1 := hn (hp2.re 5 [2, 1, 3, 4, 0])
  clear hp
  have j2 : ∀ (xv' : Value) (ths : List Th) (ts : List Touch) h', (∀ h'', All (mcP b ⟨A', ths, L', M.picks + 1, ts⟩ :: R) h'' → K (.tuple #[.bool is, i64 (if code = 0 then 0 else 1900)]) h'') → All (pts b (mcRow a tv L' M.picks xv') :: arP 142 a A' :: rowP 1 tv (bs.map encP) :: rowP 8 xv' (ts.map Touch.enc) :: eachP thP bs ths :: R) h' → S9_j2 (ptr b) (.bool is) (i64 code) h' K := by
    intro xv' ths ts h' hK hp
    unfold S9_j2
    refine wk ?_
    refine bnd_of (ld14 hL' hp) ?_
    refine wk ?_
    unfold mcRow at hp
    refine lv_st2 hp 0 (by simp) (by rw [hL']; rfl) rfl rfl fun h2 hp => ?_
    replace hp : All (pts b (mcRow a tv L' (M.picks + 1) xv') :: _) h2 := hp
    have := hK _ (mcP_shut (M := ⟨A', ths, L', M.picks + 1, ts⟩) hp)
    refine wk ?_
    by_cases c : code = 0
    · rw [if_pos c] at this
      rw [decide_eq_true c]
      refine wk ?_
      exact this
    · rw [if_neg c] at this
      rw [decide_eq_false c]
      refine wk ?_
      exact this
  refine wk ?_
  have hx2 : (M.ths.set n x')[n]? = some x' := List.getElem?_set_self hn0
  cases is with
  | false =>
    refine wk ?_
    exact j2 xv _ _ _ hK hp2
  | true =>
    refine wk ?_
    refine T_note hp2 hx2 trs hL' hlok (by have := o.ts; have := o.p1; omega) (fun y hy => ?_) (by rw [List.length_set]; exact o.n) fun xv' h2 hp => ?_
    · rcases List.mem_or_eq_of_mem_set hy with q | q
      · exact (o.ths y q).1.evs8
      · subst q; exact s.1.evs8
    · exact j2 xv' _ _ _ hK hp
end
end Go.Proofs.YtcpfkkppfgolaaaGreatDoor
namespace Go.Proofs.YtcpfkkppfgolaaaGreatDoor
open Go GW Go.Proofs
attribute [local irreducible] bnd ldV stV ifV binV eqI
set_option maxRecDepth 20000
theorem Mc.threads_snoc : ∀ {ts : List (List (List Op))} {i n k : Int} {pol : Bool} {t : List (List Op)}, Mc.threads i n k pol (ts ++ [t]) = Mc.threads i n k pol ts ++ [Th.new (i + ts.length) n k pol t] := by
  intro ts
  induction ts with
  | nil => intro i n k pol t; simp [Mc.threads]
  | cons x ts ih =>
    intro i n k pol t
    show Th.new i n k pol x :: Mc.threads (i + 1) n k pol (ts ++ [t]) = _
    rw [ih]
    show _ = Th.new i n k pol x :: (Mc.threads (i + 1) n k pol ts ++ _)
    congr 4
    simp only [List.length_cons]; omega
def allEvents (xs : List Th) : List Event := xs.flatMap Th.evs
section
variable {a b : Nat} {R : List Part} {h g : GH} {K : Value → GH → Prop} {M : Mc} {k : Int} {v : Value} {p : Plan}
theorem T_mNew (hp : All R h) (hg : ∀ h', All R h' → HLe g h') (ht : threadsAt g v p.threads) (kn : p.may = false → ∀ h', All R h' → K (.tuple #[.pointer none, i64 1900]) h')
    (ky : p.may = true → ∀ b h', All (mcP b (Mc.new p) :: R) h' → K (.tuple #[ptr b, i64 0]) h') : T Tryz.prog 22 [.agg (planC v p).toArray] h K := by
  apply S22_T
  unfold S22
  refine nw hp (.row 24 (planC v p) 3 true) rfl fun d h1 hp => ?_
  refine la0 hp (c := planC v p) (Nat.le_refl 3) rfl ?_
  refine T_scriptMay (ht.le (hg _ hp.tail)) ?_
  refine wk ?_
  cases hm : p.may with
  | false => refine wk ?_; exact kn hm _ hp.tail
  | true =>
    refine wk ?_
    have ky := ky hm
    obtain ⟨m1, m2, m3, m4, m5⟩ := Plan.may_spec hm
    refine T_arenaNew hp fun a h2 hp => ?_
    refine wk ?_
    refine nw hp (mcRow a (.slice none 0 0) (List.replicate 12 0) 0 (.slice none 0 0)) rfl fun b h3 hp => ?_
    replace hp := hn (hp.re 3 [2, 0, 1])
    unfold planC at hp
    refine wk ?_
    have hlen : lnV v = some (i64 p.threads.length) := by
      obtain ⟨es, r, a2⟩ := ht
      have := r.len
      rw [a2.1] at this; exact this
    refine bnd_of hlen ?_
    refine Lfp_fam (ι := Nat × List Nat × Value) (fun q => [ptr d, ptr b, v, i64 p.threads.length, i64 q.1]) (fun q h' => q.1 ≤ p.threads.length ∧ q.2.1.length = q.1 ∧ All (pts d (.row 24 [v, i64 p.attempts, .bool p.polite] 3 true) :: pts b (mcRow a q.2.2 (List.replicate 12 0) 0 (.slice none 0 0)) :: arP 142 a newAr :: rowP 1 q.2.2 (q.2.1.map encP) :: eachP thP q.2.1 (Mc.threads 0 p.threads.length p.attempts p.polite (p.threads.take q.1)) :: R) h') (fun q => p.threads.length - q.1) ?_ (0, [], .slice none 0 0) h3 ⟨by simp, rfl, ?_⟩
    rotate_left
    · have z1 := All.emp_cons (P := eachP thP [] (Mc.threads 0 p.threads.length p.attempts p.polite (p.threads.take 0))) hp (by exact trivial)
      have z2 := All.emp_cons (P := rowP 1 (.slice none 0 0) []) z1 (rowP_nil _ _)
      exact hn (z2.re 5 [2, 3, 4, 0, 1])
    clear hp
    rintro ⟨i, bs, tv⟩ h4 X ⟨hi, hbl, hp⟩ again
    simp only at hi hbl hp
    simp only [tup_zero, tup_succ]
    refine wk ?_
    refine ifV_cases (fun c => ?_) fun c => ?_
    · obtain ⟨t, hti⟩ : ∃ t, p.threads[i]? = some t := ⟨_, List.getElem?_eq_getElem (by omega)⟩
      obtain ⟨es0, r0, a0⟩ := ht
      obtain ⟨c0, hc0, w, cs, rfl, rw_, aw⟩ := a0.get hti
      have hgR : ∀ {h'} {P1 P2 P3 P4 P5 : Part}, All (P1 :: P2 :: P3 :: P4 :: P5 :: R) h' → HLe g h' := fun hp => hg _ hp.tail.tail.tail.tail.tail
      obtain ⟨q, d1, d2⟩ := (r0.le (hgR hp)).get1 hc0 .i64
      refine bnd_of d1 (bnd_of d2 ?_)
      refine wk ?_
      refine bnd_of hlen ?_
      refine wk ?_
      refine T_thNew (ts := t) (cs0 := cs) hp (fun h' hp => ⟨rw_.le (hgR hp), aw.mono fun x y z => z.le (hgR hp)⟩) (fun m => ?_) fun _ tb h5 hp => ?_
      · exact absurd ⟨⟨by omega, by omega⟩, ⟨by omega, by omega⟩, ⟨m3, m4⟩, m5 t (List.mem_of_getElem? hti)⟩ m
      replace hp := hn (hp.re 3 [2, 1, 0])
      unfold mcRow lvRow at hp
      refine wk ?_
      replace hp := hn (hp.re 5 [4, 0, 1, 2, 3])
      refine bs0 (size := 1) hp ([tb].map encP) rfl rfl (by simp) (encP_good _) fun sv h6 hp => ?_
      have r2 := hp.rows
      refine ap0 (hn (hp.up 1)) r2 (encP_good _) (by decide) (by simp only [List.length_map, List.length_cons, List.length_nil]; omega) fun tv' h7 hp => ?_
      obtain ⟨ad, ln, cap, rfl⟩ := All.isSlice hp
      rw [← List.map_append] at hp
      replace hp := hn (hp.re 7 [2, 0, 3, 4, 5, 6])
      refine wk ?_
      refine st0 hp (mcRow a (.slice ad ln cap) (List.replicate 12 0) 0 (.slice none 0 0)) rfl (by simp) rfl rfl fun h8 hp => ?_
      refine wk ?_
      refine again (i + 1, bs ++ [tb], .slice ad ln cap) _ ⟨by simp only; omega, by simp [hbl], ?_⟩ (by simp only; omega)
      have hp := eachP_snoc (hn (hp.re 6 [3, 5, 0, 1, 2, 4]))
      have e1 : p.threads.take (i + 1) = p.threads.take i ++ [t] := by rw [List.take_add_one, hti]; rfl
      have e2 : Mc.threads 0 p.threads.length p.attempts p.polite (p.threads.take i) ++ [Th.new i p.threads.length p.attempts p.polite t] = Mc.threads 0 p.threads.length p.attempts p.polite (p.threads.take (i + 1)) := by
        rw [e1, Mc.threads_snoc, List.length_take]; congr 3; omega
      rw [e2] at hp
      exact hn (hp.re 5 [3, 1, 4, 2, 0])
    · have hie : i = p.threads.length := by omega
      subst hie
      rw [List.take_length] at hp
      have z1 := All.emp_cons (P := rowP 8 (.slice none 0 0) []) hp (rowP_nil _ _)
      exact ky b _ (mcP_shut (M := Mc.new p) (hn (z1.re 6 [2, 3, 4, 0, 5])))
theorem T_mDone (hp : All (mcP b M :: R) h) (o : M.ok) (hK : K (.bool M.done) h) : T Tryz.prog 13 [ptr b] h K := by
  apply S13_T
  unfold S13
  refine mcP_open hp fun a bs tv xv hp => ?_
  have bl : bs.length = M.ths.length := All.case (hn (hp.up 4)) fun h1 p _ => eachP_len p
  unfold mcRow lvRow at hp
  refine wk ?_
  have htl : lnV tv = some (i64 M.ths.length) := by have := All.len (hn (hp.up 2)); rw [List.length_map, bl] at this; exact this
  apply S30_T
  unfold S30
  apply S58_T
  unfold S58
  refine bnd_of htl ?_
  have on := o.n
  refine Lfp_fam (ι := Nat) (fun i => [tv, .func (.func 31) #[] #[], i64 M.ths.length, i64 i]) (fun i h' => i ≤ M.ths.length ∧ h' = h ∧ (M.ths.take i).all Th.done = true) (fun i => M.ths.length - i) ?_ 0 h ⟨by omega, rfl, by simp⟩
  rintro i h1 X ⟨hi, rfl, ha⟩ again
  simp only [tup_zero, tup_succ]
  refine wk ?_
  refine ifV_cases (fun c => ?_) fun c => ?_
  · obtain ⟨x, hx⟩ : ∃ x, M.ths[i]? = some x := ⟨_, List.getElem?_eq_getElem (by omega)⟩
    obtain ⟨tb, htb⟩ : ∃ tb, bs[i]? = some tb := ⟨_, List.getElem?_eq_getElem (by omega)⟩
    obtain ⟨p, e1, e2⟩ := (All.rows (hn (hp.up 2))).get1 (i := i) (x := ptr tb) (by rw [List.getElem?_map, htb]; rfl) .i64
    refine bnd_of e1 (bnd_of e2 ?_)
    show T Tryz.prog 31 [ptr tb] h1 _
    apply S31_T
    unfold S31
    refine T_thDone (eachP_at htb hx (hn (hp.up 4))) (o.ths x (List.mem_of_getElem? hx)).1.evs8 ?_
    refine wk ?_
    cases hd : x.done with
    | true =>
      refine wk ?_
      refine again (i + 1) _ ⟨by omega, rfl, ?_⟩ (by omega)
      rw [List.take_add_one, hx, List.all_append, ha]
      simp [hd]
    | false =>
      refine wk ?_
      have e : M.done = false := by
        unfold Mc.done
        rw [List.all_eq_false]
        exact ⟨x, List.mem_of_getElem? hx, by rw [hd]; decide⟩
      rw [e] at hK
      rw [decide_eq_true (by omega : (0 : Int) ≤ (i : Int))]
      refine wk ?_
      exact hK
  · have : i = M.ths.length := by omega
    subst this
    rw [List.take_length] at ha
    have e : M.done = true := ha
    rw [e] at hK
    refine wk ?_
    exact hK
theorem evCs_app {es es' : List Event} {ws ws' : List Value} (hl : ws.length = es.length) : evCs es ws ++ evCs es' ws' = evCs (es ++ es') (ws ++ ws') := by
  unfold evCs
  rw [List.zipWith_append hl.symm]
theorem ansO_app2 : ∀ {ws ws' : List Value} {es es' : List Event}, ws.length = es.length → ansO (ws ++ ws') (es ++ es') = ansO ws es ++ ansO ws' es' := by
  intro ws
  induction ws with
  | nil =>
    intro ws' es es' hl
    cases es with
    | nil => rfl
    | cons x es => simp at hl
  | cons w0 ws ih =>
    intro ws' es es' hl
    cases es with
    | nil => simp at hl
    | cons x es =>
      show rowP 2 w0 (x.answers.map Answer.enc) :: ansO (ws ++ ws') (es ++ es') = _
      rw [ih (by simpa using hl)]; rfl
theorem T_mEvents (hp : All (mcP b M :: R) h) (o : M.ok) (hK : ∀ v' h', All (evoP v' M.events :: mcP b M :: R) h' → K v' h') : T Tryz.prog 17 [ptr b] h K := by
  apply S17_T
  unfold S17
  refine mcP_open hp fun a bs tv xv hp => ?_
  have bl : bs.length = M.ths.length := All.case (hn (hp.up 4)) fun h1 p _ => eachP_len p
  have hp0 := hp
  unfold mcRow lvRow at hp
  refine wk ?_
  have htl : lnV tv = some (i64 M.ths.length) := by have := All.len (hn (hp.up 2)); rw [List.length_map, bl] at this; exact this
  refine bnd_of htl ?_
  have on := o.n
  clear hp
  refine Lfp_fam (ι := Nat × Value) (fun p => [p.2, tv, i64 M.ths.length, i64 p.1]) (fun p h' => p.1 ≤ M.ths.length ∧ (allEvents (M.ths.take p.1)).length ≤ 8 * p.1 ∧ All (evoP p.2 (allEvents (M.ths.take p.1)) :: pts b (mcRow a tv M.L M.picks xv) :: arP 142 a M.A :: rowP 1 tv (bs.map encP) :: rowP 8 xv (M.ts.map Touch.enc) :: eachP thP bs M.ths :: R) h') (fun p => M.ths.length - p.1) ?_ (0, .slice none 0 0) h ⟨by simp, by simp [allEvents], hp0.emp_cons evoP_nil⟩
  clear hp0
  rintro ⟨i, ov⟩ h1 X ⟨hi, hle, hp⟩ again
  simp only at hi hle hp
  simp only [tup_zero, tup_succ]
  refine wk ?_
  refine ifV_cases (fun c => ?_) fun c => ?_
  · obtain ⟨x, hx⟩ : ∃ x, M.ths[i]? = some x := ⟨_, List.getElem?_eq_getElem (by omega)⟩
    obtain ⟨tb, htb⟩ : ∃ tb, bs[i]? = some tb := ⟨_, List.getElem?_eq_getElem (by omega)⟩
    obtain ⟨p, e1, e2⟩ := (All.rows (hn (hp.up 3))).get1 (i := i) (x := ptr tb) (by rw [List.getElem?_map, htb]; rfl) .i64
    refine bnd_of e1 (bnd_of e2 ?_)
    have ox := o.ths x (List.mem_of_getElem? hx)
    have h8 := ox.1.evs8
    refine T_thEvents (eachP_at htb hx (hn (hp.up 5))) h8 ox.2.2.1 fun nv h2 hp => ?_
    have hp := eachP_put (P := thP) (ys := M.ths) (b := x) htb (by omega) (hn (hp.re 3 [1, 2, 0]))
    rw [set_self hx] at hp
    refine evoP_open (hn (hp.up 1)) fun ws hl hp => ?_
    have hg := evs_good hp
    replace hp := hn (hp.re 4 [3, 0, 1, 2])
    refine evoP_open hp fun us hu hp => ?_
    have hg2 := evs_good hp
    have r2 := All.rows (hn (hp.up 2))
    refine ap0 hp r2 hg (by decide) (by rw [evCs_len hl, evCs_len hu]; omega) fun ov' h3 hp => ?_
    rw [evCs_app hu] at hp
    refine wk ?_
    have e1 : allEvents (M.ths.take (i + 1)) = allEvents (M.ths.take i) ++ x.evs := by
      unfold allEvents
      rw [List.take_add_one, hx, List.flatMap_append]; simp
    refine again (i + 1, ov') _ ⟨by simp only; omega, by simp only [e1, List.length_append]; omega, ?_⟩ (by simp only; omega)
    simp only [e1]
    refine evoP_shut (ws := us ++ ws) (by simp [hu, hl]) ?_
    rw [ansO_app2 hu]
    have hp := All.fold (l := [All (ansO us (allEvents (M.ths.take i))), All (ansO ws x.evs)]) (hn (hp.re 4 [1, 3, 0]))
    have hp := hp.head (Q := All (ansO us (allEvents (M.ths.take i)) ++ ansO ws x.evs)) fun h1 z => All.app (Sep.mono (fun _ z => z) (fun _ z => by
      obtain ⟨h3, h4, _, l3, _, p, _⟩ := z
      exact All.le l3 p) z)
    exact hn (hp.re 7 [1, 0, 3, 4, 5, 6, 2])
  · have : i = M.ths.length := by omega
    subst this
    rw [List.take_length] at hp
    refine hK _ _ ?_
    have := mcP_shut (M := M) (hn (hp.re 6 [1, 2, 3, 4, 5, 0]))
    exact hn (this.re 2 [1, 0])
theorem T_CloneTouchs {v : Value} {xs : List Touch} (hp : All R h) (hr : ∀ h', All R h' → rowsAt h' 8 v (xs.map Touch.enc)) (hb : xs.length ≤ 100000) (hK : ∀ v' h', All (rowP 8 v' (xs.map Touch.enc) :: R) h' → K v' h') : T Tryz.prog 44 [v] h K := by
  apply S44_T
  unfold S44
  have r := hr _ hp
  obtain ⟨ad, n, cap, rfl, hl, h1, h2, hx⟩ := r
  rw [List.length_map] at hl
  cases ad with
  | none =>
    have hx0 : xs = [] := by
      cases xs with
      | nil => rfl
      | cons y ys =>
        obtain ⟨bb, off, T, pre, sz, f, e, _⟩ := hx 0 y.enc rfl
        cases e
    subst hx0
    have n0 : n = 0 := hl.symm
    subst n0
    by_cases hc : cap = 0
    · subst hc
      refine wk ?_
      exact hK _ _ (hp.emp_cons (rowP_nil 8 _))
    · refine wk ?_
      exact hK _ _ (hp.emp_cons (rowP_nil 8 _))
  | some q =>
    refine wk ?_
    refine bs0 (size := 8) hp [] rfl rfl (by simp) (fun c hc => by cases hc) fun nv h1 hp => ?_
    have hr := hr _ hp.tail
    refine ap0 hp hr (Touch.all_good xs) (by decide) (by simp only [List.length_map, List.length_nil]; omega) fun nv' h2 hp => ?_
    exact hK _ _ hp
theorem T_mTouches (hp : All (mcP b M :: R) h) (o : M.ok) (hK : ∀ v' h', All (rowP 8 v' (M.ts.map Touch.enc) :: mcP b M :: R) h' → K v' h') : T Tryz.prog 19 [ptr b] h K := by
  apply S19_T
  unfold S19
  refine wk ?_
  refine mcP_open hp fun a bs tv xv hp => ?_
  have e : ldV 1 false (.pointer (some ⟨b, 0 + 15, none⟩)) h = some xv := lv_ld2 hp 1 rfl (by rw [o.L]; rfl)
  refine wk ?_
  refine bnd_of e ?_
  have p1 := o.p1; have ts := o.ts
  refine T_CloneTouchs (xs := M.ts) hp (fun h' hp => All.rows (hn (hp.up 3))) (by omega) fun v' h2 hp => ?_
  refine hK _ _ ?_
  have := mcP_shut (M := M) (hn (hp.re 6 [1, 2, 3, 4, 5, 0]))
  exact hn (this.re 2 [1, 0])
theorem T_mWords (hp : All (mcP b M :: R) h) (hK : ∀ v' h', All (rowP 1 v' (M.A.ws.map encI) :: mcP b M :: R) h' → K v' h') : T Tryz.prog 12 [ptr b] h K := by
  apply S12_T
  unfold S12
  refine mcP_open hp fun a bs tv xv hp => ?_
  have hp0 := hp
  unfold mcRow lvRow at hp
  refine wk ?_
  refine T_All (hn (hp0.up 1)) fun v' h2 hp => ?_
  refine hK _ _ ?_
  have := mcP_shut (M := M) (hn (hp.re 6 [2, 1, 3, 4, 5, 0]))
  exact hn (this.re 2 [1, 0])
end
end Go.Proofs.YtcpfkkppfgolaaaGreatDoor
namespace Go.Proofs.YtcpfkkppfgolaaaGreatDoor
open Go GW Go.Proofs
set_option maxRecDepth 20000
theorem All2.nil {α β : Type} {R : α → β → Prop} : All2 R [] [] := ⟨rfl, fun i x y h => by simp at h⟩
theorem All2.cons {α β : Type} {R : α → β → Prop} {x : α} {y : β} {xs : List α} {ys : List β} (r : R x y) (a : All2 R xs ys) : All2 R (x :: xs) (y :: ys) := by
  refine ⟨by simp [a.1], fun i u v hu hv => ?_⟩
  cases i with
  | zero => simp at hu hv; subst hu; subst hv; exact r
  | succ i => exact a.2 i u v (by simpa using hu) (by simpa using hv)
theorem txnC_mk {h : GH} {w : Value} {t : List Op} (r : rowsAt h 4 w (t.map Op.enc)) : txnC h [w] t := ⟨w, rfl, r⟩
theorem thrC_mk {h : GH} {w : Value} {es : List (List Value)} {ts : List (List Op)} (r : rowsAt h 1 w es) (a : All2 (txnC h) es ts) : thrC h [w] ts := ⟨w, es, rfl, r, a⟩
theorem All.base {P : Part} {R : List Part} {h : GH} (hp : All (P :: R) h) : ∃ g, P g ∧ All (baseP g :: R) h := by
  obtain ⟨h1, h2, d, l1, l2, p, q⟩ := hp
  exact ⟨h1, p, h1, h2, d, l1, l2, HLe.refl _, q⟩
theorem All.baseLe {g : GH} {R : List Part} {h : GH} (hp : All (baseP g :: R) h) : HLe g h := by
  obtain ⟨h1, h2, d, l1, l2, p, q⟩ := hp
  exact HLe.trans p l1
section
variable {a b : Nat} {R : List Part} {h g : GH} {K : Value → GH → Prop} {M : Mc} {k : Int} {v : Value} {p : Plan}
end
theorem Event.ext8 {a b : Event} : a = b ↔ a.thread = b.thread ∧ a.index = b.index ∧ a.begun = b.begun ∧ a.decided = b.decided ∧ a.answered = b.answered ∧ a.end_ = b.end_ ∧ a.attempts = b.attempts ∧ a.answers = b.answers := by
  cases a; cases b; simp
instance : DecidableEq Event := fun a b => decidable_of_iff _ Event.ext8.symm
section
variable {a b : Nat} {R : List Part} {h g : GH} {K : Value → GH → Prop} {v w : Value} {es fs : List Event} {us ws : List Value}
end
attribute [local irreducible] bnd ldV stV ifV binV eqI
def Mc.counts (M : Mc) (k : Int) : Bool := decide (0 ≤ k ∧ k < M.ths.length) && (match M.ths[k.toNat]? with | some x => !x.done | none => false)
def trims : Mc → List Int → List Int × Mc
  | M, [] => ([], M)
  | M, k :: ks => if M.counts k then (k :: (trims (M.pick k).1 ks).1, (trims (M.pick k).1 ks).2) else trims M ks
theorem trims_snoc : ∀ {ks : List Int} {M : Mc} {k : Int}, trims M (ks ++ [k]) = if (trims M ks).2.counts k then ((trims M ks).1 ++ [k], ((trims M ks).2.pick k).1) else trims M ks := by
  intro ks
  induction ks with
  | nil =>
    intro M k
    show (if M.counts k = true then (k :: [], (M.pick k).1) else ([], M)) = if M.counts k = true then ([] ++ [k], (M.pick k).1) else ([], M)
    rfl
  | cons x ks ih =>
    intro M k
    show trims M (x :: (ks ++ [k])) = _
    unfold trims
    by_cases c : M.counts x = true
    · simp only [c, if_true, ih]
      split <;> rfl
    · simp only [if_neg c, ih]
theorem trims_ok : ∀ {ks : List Int} {M : Mc}, M.ok → (trims M ks).2.ok := by
  intro ks
  induction ks with
  | nil => intro M h; exact h
  | cons k ks ih =>
    intro M h
    unfold trims
    split
    · exact ih (Mc.pick_ok h)
    · exact ih h
theorem Mc.pick_len {M : Mc} {k : Int} : (M.pick k).1.ths.length = M.ths.length := by
  unfold Mc.pick
  split
  · rfl
  · split
    · rfl
    · show (if _ = true then decAll _ _ _ else _ : List Th).length = _
      split
      · rw [decAll_len, List.length_set]
      · rw [List.length_set]
theorem trims_len : ∀ {ks : List Int} {M : Mc}, (trims M ks).2.ths.length = M.ths.length := by
  intro ks
  induction ks with
  | nil => intro M; rfl
  | cons k ks ih =>
    intro M
    unfold trims
    split
    · simp only [ih, Mc.pick_len]
    · exact ih
theorem trims_short : ∀ {ks : List Int} {M : Mc}, (trims M ks).1.length ≤ ks.length := by
  intro ks
  induction ks with
  | nil => intro M; exact Nat.le_refl _
  | cons k ks ih =>
    intro M
    unfold trims
    split
    · simp only [List.length_cons]; have := ih (M := (M.pick k).1); omega
    · have := ih (M := M); simp only [List.length_cons]; omega
def trimA (p : Plan) (ks : List Int) : List Int := if p.may = true ∧ ks.length ≤ 65536 then (trims (Mc.new p) ks).1 else []
def trimE (p : Plan) (ks : List Int) : Int := if p.may = true ∧ ks.length ≤ 65536 then 0 else 2400
section
variable {a b : Nat} {R : List Part} {h g : GH} {K : Value → GH → Prop} {M : Mc} {k : Int} {v pv : Value} {p : Plan} {picks : List Int}
theorem T_mThreads {a : Nat} {tv xv : Value} (hp : All (pts b (mcRow a tv M.L M.picks xv) :: R) h) (hK : K tv h) : T Tryz.prog 24 [ptr b] h K := by
  apply S24_T
  unfold S24
  unfold mcRow lvRow at hp
  refine wk ?_
  exact hK
theorem T_Trim (hp : All R h) (hg : ∀ h', All R h' → HLe g h') (ht : threadsAt g v p.threads) (rp : ∀ h', All R h' → rowsAt h' 1 pv (picks.map encI))
    (hK : ∀ v' h', All (rowP 1 v' ((trimA p picks).map encI) :: R) h' → K (.tuple #[v', i64 (trimE p picks)]) h') : T Tryz.prog 6 [.agg (planC v p).toArray, pv] h K := by
  apply S6_T
  unfold S6
  have hpl : lnV pv = some (i64 picks.length) := by have := (rp _ hp).len; rw [List.length_map] at this; exact this
  have hpm : picks.length ≤ 9223372036854775807 := by have := (rp _ hp).max; rw [List.length_map] at this; exact this
  have hvl : lnV v = some (i64 p.threads.length) := by
    obtain ⟨es, r, a2⟩ := ht
    have := r.len
    rw [a2.1] at this; exact this
  refine nw hp (.row 24 (planC v p) 3 true) rfl fun d h1 hp => ?_
  refine la0 hp (c := planC v p) (Nat.le_refl 3) rfl ?_
  refine T_mNew hp (fun h' hp => hg _ hp.tail) ht (fun hm h3 hp => ?_) fun hm b h3 hp => ?_
  · refine wk ?_
    have := hK (.slice none 0 0) _ (hp.tail.emp_cons (rowP_nil 1 _) |> fun z => by
      have e : trimA p picks = [] := by unfold trimA; rw [if_neg (by rw [hm]; simp)]
      rw [e]; exact z)
    have e2 : trimE p picks = 2400 := by unfold trimE; rw [if_neg (by rw [hm]; simp)]
    rw [e2] at this
    exact this
  refine wk ?_
  refine bnd_of hpl ?_
  refine wk ?_
  refine ifV_cases (fun c => ?_) fun c => ?_
  · have := hK (.slice none 0 0) _ (hp.tail.tail.emp_cons (rowP_nil 1 _) |> fun z => by
      have e : trimA p picks = [] := by unfold trimA; rw [if_neg (by omega)]
      rw [e]; exact z)
    have e2 : trimE p picks = 2400 := by unfold trimE; rw [if_neg (by omega)]
    rw [e2] at this
    exact this
  have hT : trimA p picks = (trims (Mc.new p) picks).1 := by unfold trimA; rw [if_pos ⟨hm, by omega⟩]
  have hE : trimE p picks = 0 := by unfold trimE; rw [if_pos ⟨hm, by omega⟩]
  rw [hT, hE] at hK
  have o0 := Mc.new_ok hm
  have nl : (Mc.new p).ths.length = p.threads.length := by show (Mc.threads _ _ _ _ _).length = _; rw [Mc.threads_len]
  unfold S6_j1
  refine bnd_of hpl ?_
  refine Lfp_fam (ι := Nat × Value) (fun q => [ptr d, ptr b, q.2, pv, i64 picks.length, i64 q.1]) (fun q h' => q.1 ≤ picks.length ∧ All (rowP 1 q.2 ((trims (Mc.new p) (picks.take q.1)).1.map encI) :: mcP b (trims (Mc.new p) (picks.take q.1)).2 :: pts d (.row 24 (planC v p) 3 true) :: R) h') (fun q => picks.length - q.1) ?_ (0, .slice none 0 0) h3 ⟨by simp, hp.emp_cons (rowP_nil 1 _)⟩
  clear hp
  rintro ⟨i, ov⟩ h4 X ⟨hi, hp⟩ again
  simp only at hi hp
  simp only [tup_zero, tup_succ]
  have oM := trims_ok (ks := picks.take i) o0
  have lM : (trims (Mc.new p) (picks.take i)).2.ths.length = p.threads.length := by rw [trims_len, nl]
  have sh := trims_short (ks := picks.take i) (M := Mc.new p)
  rw [List.length_take] at sh
  refine wk ?_
  refine ifV_cases (fun c1 => ?_) fun c1 => ?_
  · obtain ⟨x, hx⟩ : ∃ x, picks[i]? = some x := ⟨_, List.getElem?_eq_getElem (by omega)⟩
    obtain ⟨q, d1, d2⟩ := (rp _ hp.tail.tail.tail).get1 (i := i) (x := i64 x) (by rw [List.getElem?_map, hx]; rfl) .i64
    refine bnd_of d1 (bnd_of d2 ?_)
    have e1 : picks.take (i + 1) = picks.take i ++ [x] := by rw [List.take_add_one, hx]; rfl
    have sn := trims_snoc (ks := picks.take i) (M := Mc.new p) (k := x)
    rw [← e1] at sn
    generalize trims (Mc.new p) (picks.take i) = z at hp oM lM sn sh
    obtain ⟨qs, M⟩ := z
    dsimp only at hp oM lM sn sh
    replace hp := hn (hp.re 3 [2, 0, 1])
    unfold planC at hp
    refine wk ?_
    refine bnd_of hvl ?_
    refine T_Below ?_
    have no : M.counts x = false → X (tup [ptr d, ptr b, ov, pv, i64 picks.length, i64 ((i : Int) + 1)]) h4 := by
      intro hc
      rw [hc, if_neg (by decide)] at sn
      have := again (i + 1, ov) h4 ⟨by simp only; omega, by simp only [sn]; exact hn (hp.re 3 [1, 2, 0])⟩ (by simp only; omega)
      exact this
    refine ifV_cases (fun c2 => ?_) fun c2 => ?_
    · obtain ⟨n, rfl⟩ := Int.eq_ofNat_of_zero_le c2.1
      have hn0 : n < M.ths.length := by omega
      obtain ⟨y, hy⟩ : ∃ y, M.ths[n]? = some y := ⟨_, List.getElem?_eq_getElem hn0⟩
      have hcy : M.counts n = !y.done := by
        unfold Mc.counts
        rw [decide_eq_true ⟨by omega, by omega⟩, Int.toNat_natCast, hy]; rfl
      refine mcP_open (hn (hp.up 2)) fun a bs tv xv hq => ?_
      have bl : bs.length = M.ths.length := All.case (hn (hq.up 4)) fun h1 p _ => eachP_len p
      obtain ⟨tb, htb⟩ : ∃ tb, bs[n]? = some tb := ⟨_, List.getElem?_eq_getElem (by omega)⟩
      refine T_mThreads hq ?_
      obtain ⟨pt, t1, t2⟩ := (All.rows (hn (hq.up 2))).get1 (i := n) (x := ptr tb) (by rw [List.getElem?_map, htb]; rfl) .i64
      refine bnd_of t1 (bnd_of t2 ?_)
      refine T_thDone (eachP_at htb hy (hn (hq.up 4))) (oM.ths y (List.mem_of_getElem? hy)).1.evs8 ?_
      clear hq
      refine wk ?_
      unfold S6_j2
      cases hd : y.done with
      | true =>
        rw [hd] at hcy
        refine wk ?_
        exact no hcy
      | false =>
        rw [hd] at hcy
        rw [hcy, if_pos (by rfl)] at sn
        refine wk ?_
        refine T_mPick (hn (hp.up 2)) oM fun h5 hp => ?_
        replace hp := hn (hp.re 3 [2, 0, 1])
        refine bs0 (size := 1) hp ([(n : Int)].map encI) rfl rfl (by simp) (encI_good _) fun sv h6 hp => ?_
        have r2 := hp.rows
        refine ap0 (hn (hp.up 1)) r2 (encI_good _) (by decide) (by simp only [List.length_map, List.length_cons, List.length_nil]; omega) fun ov' h7 hp => ?_
        rw [← List.map_append] at hp
        refine wk ?_
        refine again (i + 1, ov') _ ⟨by simp only; omega, ?_⟩ (by simp only; omega)
        simp only [sn]
        exact hn (hp.re 4 [0, 2, 3])
    · unfold S6_j2
      refine wk ?_
      refine no ?_
      unfold Mc.counts
      rw [decide_eq_false (by rw [lM]; exact c2), Bool.false_and]
  · have : i = picks.length := by omega
    subst this
    rw [List.take_length] at hp
    exact hK _ _ (hn (hp.re 3 [0]))
end
end Go.Proofs.YtcpfkkppfgolaaaGreatDoor
namespace Go.Proofs.YtcpfkkppfgolaaaGreatDoor
open Go GW Go.Proofs
attribute [local irreducible] bnd ldV stV ifV binV eqI
set_option maxRecDepth 20000
def frGo : Nat → Ar → Bool → Int → List Int → List Int × Int
  | 0, _, _, _, _ => ([], 1000)
  | n + 1, A, is, f, out => if is = true ∧ 0 < f then (if out.length = 12 then ([], 1000) else frGo n A (nxIs (A.at (17 + f - 1))) (valOf (A.at (17 + f - 1))) (out ++ [f - 1])) else if is = true then (out, 0) else ([], 1000)
def freeRow (A : Ar) : List Int × Int := frGo 14 A (hdIs (A.at 16)) (valOf (A.at 16) % 16) []
theorem frGo_len : ∀ {n : Nat} {A : Ar} {is : Bool} {f : Int} {out : List Int}, out.length ≤ 12 → (frGo n A is f out).1.length ≤ 12 := by
  intro n
  induction n with
  | zero => intro A is f out h; exact Nat.zero_le _
  | succ n ih =>
    intro A is f out h
    unfold frGo
    split
    · split
      · exact Nat.zero_le _
      · exact ih (by rw [List.length_append, List.length_singleton]; omega)
    · split
      · exact h
      · exact Nat.zero_le _
theorem freeRow_len {A : Ar} : (freeRow A).1.length ≤ 12 := frGo_len (Nat.zero_le _)
section
variable {a b : Nat} {R : List Part} {h g : GH} {K : Value → GH → Prop} {A : Ar}
theorem T_freeRow (hp : All (arP 142 a A :: R) h) (hK : ∀ v h', All (rowP 1 v ((freeRow A).1.map encI) :: arP 142 a A :: R) h' → K (.tuple #[v, i64 (freeRow A).2]) h') : T Tryz.prog 35 [ptr a] h K := by
  apply S35_T
  unfold S35
  have hA := (arP.at hp).2
  refine wk ?_
  refine T_All hp fun av h1 hp => ?_
  have rows : ∀ {h'}, All (rowP 1 av (A.ws.map encI) :: arP 142 a A :: R) h' → ∀ j : Nat, j < 634 → ∃ q, isV 1 av (i64 j) = some q ∧ ldV 1 false q h' = some (i64 (A.at j)) := fun hp j hj => by
    have e : A.ws[j]? = some (A.at j) := by
      unfold Ar.at
      rw [Int.toNat_natCast, List.getD_eq_getElem?_getD, List.getElem?_eq_getElem (by rw [hA.words]; exact hj)]; rfl
    exact (All.rows hp).get1 (by rw [List.getElem?_map, e]; rfl) .i64
  obtain ⟨q, d1, d2⟩ := rows hp 16 (by decide)
  refine bnd_of d1 (bnd_of d2 ?_)
  refine T_fread hp (Ar.at_range hA 16).2 fun h2 hp => ?_
  refine wk ?_
  refine nwst hp (.row 162 [i64 (valOf (A.at 16) / 16), i64 (valOf (A.at 16) % 16)] 2 true) rfl rfl rfl rfl fun d h3 hp => ?_
  refine wk ?_
  have hp := hp.tail.emp_cons (rowP_nil 1 _)
  have fin : ∀ (u : Nat → Value) (is : Bool) (ov : Value) (out : List Int) (f : Int) (h' : GH) (X : (Nat → Value) → GH → Prop), (¬ (is = true ∧ 0 < f)) → All (rowP 1 ov (out.map encI) :: rowP 1 av (A.ws.map encI) :: arP 142 a A :: R) h' → (∃ n, freeRow A = frGo (n + 1) A is f out) → S35_j2 u (.bool is) ov h' K X := by
    intro u is ov out f h' X hc hp ⟨n, hr⟩
    unfold frGo at hr
    rw [if_neg hc] at hr
    unfold S35_j2
    cases is with
    | false =>
      rw [if_neg (by decide)] at hr
      refine wk ?_
      have := hK (.slice none 0 0) h' (hp.tail.tail.emp_cons (by rw [hr]; exact rowP_nil 1 _))
      rw [hr] at this; exact this
    | true =>
      rw [if_pos rfl] at hr
      refine wk ?_
      have := hK ov h' (by rw [hr]; exact hn (hp.re 3 [0, 2]))
      rw [hr] at this; exact this
  refine Lfp_fam (ι := Nat × Bool × Int × List Int × Value) (fun q => [av, .bool q.2.1, q.2.2.2.2, i64 q.2.2.1]) (fun q h' => q.1 + q.2.2.2.1.length = 13 ∧ 1 ≤ q.1 ∧ (q.2.1 = true → 0 ≤ q.2.2.1 ∧ q.2.2.1 ≤ 12) ∧ freeRow A = frGo (q.1 + 1) A q.2.1 q.2.2.1 q.2.2.2.1 ∧ All (rowP 1 q.2.2.2.2 (q.2.2.2.1.map encI) :: rowP 1 av (A.ws.map encI) :: arP 142 a A :: R) h') (fun q => q.1) ?_ (13, hdIs (A.at 16), valOf (A.at 16) % 16, [], .slice none 0 0) h3 ⟨rfl, (by show 1 ≤ 13; decide), (fun q => ?_), rfl, hp⟩
  · clear hp
    rintro ⟨n, is, f, out, ov⟩ h4 X ⟨hl, hl2, hf, hr, hp⟩ again
    simp only at hl hl2 hf hr hp
    simp only [tup_zero, tup_succ]
    cases is with
    | false =>
      refine wk ?_
      exact fin _ _ _ out f _ _ (fun z => by cases z.1) hp ⟨n, hr⟩
    | true =>
      have hf := hf rfl
      refine wk ?_
      refine ifV_cases (fun c => ?_) fun c => fin _ _ _ out f _ _ (fun z => c z.2) hp ⟨n, hr⟩
      unfold S35_j1
      have hlen := All.len hp
      rw [List.length_map] at hlen
      refine bnd_of hlen ?_
      refine wk ?_
      unfold frGo at hr
      rw [if_pos ⟨rfl, c⟩] at hr
      by_cases c12 : out.length = 12
      · rw [if_pos c12] at hr
        rw [decide_eq_true (by omega)]
        refine wk ?_
        have := hK (.slice none 0 0) _ (hp.tail.tail.emp_cons (by rw [hr]; exact rowP_nil 1 _))
        rw [hr] at this; exact this
      · rw [if_neg c12] at hr
        rw [decide_eq_false (by omega)]
        refine wk ?_
        refine bs0 (size := 1) hp ([f - 1].map encI) rfl rfl (by simp) (encI_good _) fun nv h5 hp => ?_
        refine ap0 (hn (hp.up 1)) (All.rows hp) (encI_good _) (by decide) (by simp; omega) fun ov2 h6 hp => ?_
        replace hp := hn (hp.re 4 [0, 2, 3])
        rw [← List.map_append] at hp
        refine bnd_of (binV_add _ _ _) ?_
        rw [wrap_id (by omega) (by omega)]
        refine bnd_of (binV_sub _ _ _) ?_
        rw [wrap_id (by omega) (by omega)]
        obtain ⟨j, hj⟩ : ∃ j : Nat, 17 + f - 1 = (j : Int) := ⟨(17 + f - 1).toNat, by omega⟩
        rw [hj] at hr ⊢
        obtain ⟨q, d1, d2⟩ := rows hp.tail j (by omega)
        refine bnd_of d1 (bnd_of d2 ?_)
        refine T_fnext (Ar.at_range hA j).2 ?_
        refine wk ?_
        refine again (n - 1, nxIs (A.at j), valOf (A.at j), out ++ [f - 1], ov2) _ ⟨by simp only [List.length_append, List.length_singleton]; omega, by simp only; omega, fun z => ?_, ?_, hp⟩ (by simp only; omega)
        · unfold nxIs at z
          simp only [Bool.and_eq_true, decide_eq_true_eq] at z
          exact ⟨(valOf_bd _).1, z.2⟩
        · simp only [show n - 1 + 1 = n by omega]; exact hr
  · unfold hdIs at q
    simp only [Bool.and_eq_true, decide_eq_true_eq] at q
    have := (valOf_bd (A.at 16)).1
    simp only
    omega
end
end Go.Proofs.YtcpfkkppfgolaaaGreatDoor
namespace Go.Proofs.YtcpfkkppfgolaaaGreatDoor
open Go GW Go.Proofs
attribute [local irreducible] bnd ldV stV ifV binV eqI
set_option maxRecDepth 20000
def Th.usedN (x : Th) : Int := x.ripe.length + if x.slot = -1 then 0 else 1
def stF (o : Int × Int × Int) (x : Th) : Int × Int × Int := (o.1 + x.cache.length, o.2.1 + x.limbo.length, o.2.2 + x.usedN)
def stAll (xs : List Th) : Int × Int × Int := xs.foldl stF (0, 0, 0)
def Mc.stock (M : Mc) : List Int × Int := if (freeRow M.A).2 = 0 then ([((freeRow M.A).1.length : Int), (stAll M.ths).1, (stAll M.ths).2.1, (stAll M.ths).2.2], 0) else ([0, 0, 0, 0], 2200)
theorem stAll_snoc (xs : List Th) (x : Th) : stAll (xs ++ [x]) = stF (stAll xs) x := by unfold stAll; rw [List.foldl_append]; rfl
theorem Th.ok.small {x : Th} (o : x.ok) : x.cache.length ≤ 2 ∧ x.limbo.length ≤ 200 ∧ 0 ≤ x.usedN ∧ x.usedN ≤ 300 := by
  have h1 := o.cap; have h2 := o.evs; have h3 := thrMay_spec o.txns; have h4 := o.t1; have h5 := o.k1; have h6 := o.cl
  have f : flagOf x.next ≤ 1 := by unfold flagOf; split <;> omega
  unfold Th.usedN
  refine ⟨h6, by omega, ?_, ?_⟩ <;> split <;> omega
theorem stAll_small {xs : List Th} (o : ∀ x ∈ xs, x.ok) : ∀ i, i ≤ xs.length → (0 ≤ (stAll (xs.take i)).1 ∧ (stAll (xs.take i)).1 ≤ 300 * i) ∧ (0 ≤ (stAll (xs.take i)).2.1 ∧ (stAll (xs.take i)).2.1 ≤ 300 * i) ∧ (0 ≤ (stAll (xs.take i)).2.2 ∧ (stAll (xs.take i)).2.2 ≤ 300 * i) := by
  intro i
  induction i with
  | zero => intro _; simp [stAll]
  | succ i ih =>
    intro hi
    obtain ⟨x, hx⟩ : ∃ x, xs[i]? = some x := ⟨_, List.getElem?_eq_getElem (by omega)⟩
    have := ih (by omega)
    have s := (o x (List.mem_of_getElem? hx)).small
    rw [List.take_add_one, hx]
    simp only [Option.toList_some]
    rw [stAll_snoc]
    unfold stF
    simp only
    omega
section
variable {a b : Nat} {R : List Part} {h g : GH} {K : Value → GH → Prop} {M : Mc}
theorem T_mArena {a : Nat} {tv xv : Value} (hp : All (pts b (mcRow a tv M.L M.picks xv) :: R) h) (hK : K (ptr a) h) : T Tryz.prog 36 [ptr b] h K := by
  apply S36_T
  unfold S36
  unfold mcRow lvRow at hp
  refine wk ?_
  exact hK
theorem T_mStock (hp : All (mcP b M :: R) h) (o : M.ok) (hK : ∀ h', All (mcP b M :: R) h' → K (.tuple #[.agg (M.stock.1.map i64).toArray, i64 M.stock.2]) h') : T Tryz.prog 15 [ptr b] h K := by
  apply S15_T
  unfold S15
  have on := o.n
  refine nw hp (.row 43 [i64 0, i64 0, i64 0, i64 0] 4 true) rfl fun v1 h1 hp => ?_
  refine wk ?_
  refine mcP_open (hn (hp.up 1)) fun a bs tv xv hp => ?_
  have bl : bs.length = M.ths.length := All.case (hn (hp.up 4)) fun h1 p _ => eachP_len p
  refine T_mArena hp ?_
  refine T_freeRow (hn (hp.up 1)) fun rv h2 hp => ?_
  have rl := All.len hp
  rw [List.length_map] at rl
  have rl12 := freeRow_len (A := M.A)
  unfold Mc.stock at hK
  by_cases c : (freeRow M.A).2 = 0
  · rw [if_pos c] at hK
    rw [c]
    refine wk ?_
    refine bnd_of rl ?_
    generalize ((freeRow M.A).1.length : Int) = fl at hK ⊢
    refine wk ?_
    refine nwst hp (.row 43 [i64 fl, i64 0, i64 0, i64 0] 4 true) rfl rfl rfl rfl fun v2 h3 hp => ?_
    replace hp := hn (hp.re 8 [3, 2, 4, 5, 6, 7, 0])
    refine T_mThreads hp ?_
    have htl : lnV tv = some (i64 M.ths.length) := by have := All.len (hn (hp.up 2)); rw [List.length_map, bl] at this; exact this
    refine bnd_of htl ?_
    refine Lfp_fam (ι := Nat) (fun i => [ptr v1, ptr v2, tv, i64 M.ths.length, i64 i]) (fun i h' => i ≤ M.ths.length ∧ All (pts v2 (.row 43 [i64 fl, i64 (stAll (M.ths.take i)).1, i64 (stAll (M.ths.take i)).2.1, i64 (stAll (M.ths.take i)).2.2] 4 true) :: pts b (mcRow a tv M.L M.picks xv) :: arP 142 a M.A :: rowP 1 tv (bs.map encP) :: rowP 8 xv (M.ts.map Touch.enc) :: eachP thP bs M.ths :: pts v1 (.row 43 [i64 0, i64 0, i64 0, i64 0] 4 true) :: R) h') (fun i => M.ths.length - i) ?_ 0 h3 ⟨Nat.zero_le _, ?_⟩
    · clear hp
      rintro i h4 X ⟨hi, hp⟩ again
      simp only [tup_zero, tup_succ]
      refine wk ?_
      have sm := stAll_small (fun x hx => (o.ths x hx).1) i hi
      refine ifV_cases (fun c2 => ?_) fun c2 => ?_
      · obtain ⟨x, hx⟩ : ∃ x, M.ths[i]? = some x := ⟨_, List.getElem?_eq_getElem (by omega)⟩
        obtain ⟨tb, htb⟩ : ∃ tb, bs[i]? = some tb := ⟨_, List.getElem?_eq_getElem (by omega)⟩
        obtain ⟨p, e1, e2⟩ := (All.rows (hn (hp.up 3))).get1 (i := i) (x := ptr tb) (by rw [List.getElem?_map, htb]; rfl) .i64
        refine bnd_of e1 (bnd_of e2 ?_)
        have ox := (o.ths x (List.mem_of_getElem? hx)).1
        have sx := ox.small
        refine T_thStock (eachP_at htb hx (hn (hp.up 5))) ox fun h5 hp => ?_
        have hp := eachP_put htb (by omega) hp
        have hset : M.ths.set i x = M.ths := by
          obtain ⟨hl, he⟩ := List.getElem?_eq_some_iff.1 hx
          rw [← he]; exact List.set_getElem_self hl
        rw [hset] at hp
        show _
        have nx := again (i + 1)
        rw [List.take_add_one, hx] at nx
        simp only [Option.toList_some] at nx
        rw [stAll_snoc] at nx
        unfold stF at nx
        simp only at nx
        generalize stAll (M.ths.take i) = s at hp nx sm
        obtain ⟨s1, s2, s3⟩ := s
        simp only at hp nx sm
        unfold Th.stock
        refine nwst hp (.row 43 [i64 0, i64 x.cache.length, i64 x.limbo.length, i64 x.usedN] 4 true) rfl rfl rfl rfl fun v3 h6 hp => ?_
        replace hp := hn (hp.re 3 [2, 0, 1])
        refine wk ?_
        refine st0 hp (.row 43 [i64 fl, i64 (s1 + x.cache.length), i64 s2, i64 s3] 4 true) rfl (by simp) rfl rfl fun h7 hp => ?_
        refine wk ?_
        refine st0 hp (.row 43 [i64 fl, i64 (s1 + x.cache.length), i64 (s2 + x.limbo.length), i64 s3] 4 true) rfl (by simp) rfl rfl fun h8 hp => ?_
        refine wk ?_
        refine st0 hp (.row 43 [i64 fl, i64 (s1 + x.cache.length), i64 (s2 + x.limbo.length), i64 (s3 + x.usedN)] 4 true) rfl (by simp) rfl rfl fun h9 hp => ?_
        refine wk ?_
        exact nx h9 ⟨by omega, hn (hp.re 8 [0, 3, 4, 5, 6, 2, 7])⟩ (by omega)
      · have : i = M.ths.length := by omega
        subst this
        rw [List.take_length] at hp
        clear again
        generalize stAll M.ths = s at hp hK
        obtain ⟨s1, s2, s3⟩ := s
        simp only at hp hK
        refine wk ?_
        refine la0 hp (c := [i64 fl, i64 s1, i64 s2, i64 s3]) (Nat.le_refl 4) rfl ?_
        replace hp := hn (hp.re 7 [6, 1, 2, 3, 4, 5])
        refine st0 hp (.row 43 [i64 fl, i64 s1, i64 s2, i64 s3] 4 true) rfl (by simp) rfl rfl fun h7 hp => ?_
        refine la0 hp (c := [i64 fl, i64 s1, i64 s2, i64 s3]) (Nat.le_refl 4) rfl ?_
        exact hK _ (mcP_shut (hn hp.tail))
    · simp only [List.take_zero]
      exact hn (hp.re 7 [6, 0, 1, 2, 3, 4, 5])
  · rw [if_neg c] at hK
    refine wk ?_
    rw [decide_eq_false c]
    refine wk ?_
    replace hp := hn (hp.re 7 [6, 2, 1, 3, 4, 5])
    refine st0 hp (.row 43 [i64 0, i64 0, i64 0, i64 0] 4 true) rfl (by simp) rfl rfl fun h7 hp => ?_
    refine la0 hp (c := [i64 0, i64 0, i64 0, i64 0]) (Nat.le_refl 4) rfl ?_
    exact hK _ (mcP_shut (hn hp.tail))
end
end Go.Proofs.YtcpfkkppfgolaaaGreatDoor
namespace Go.Proofs.YtcpfkkppfgolaaaGreatDoor
open Go GW Go.Proofs
def sg (x : Int) : Int := if 0 ≤ x then 0 else -1
def Event.nrm (e : Event) : Event := { e with begun := 0, decided := sg e.decided, answered := sg e.answered }
theorem sg_sg (x : Int) : sg (sg x) = sg x := by unfold sg; split <;> simp
theorem sg_pos (x : Int) : 0 ≤ sg x ↔ 0 ≤ x := by unfold sg; split <;> omega
theorem sg_nn {x : Int} (h : 0 ≤ x) : sg x = 0 := if_pos h
def Th.we (x : Th) (es : List Event) : Th := { x with evs := es }
def Th.nw (x : Th) : Th := x.we (x.evs.map Event.nrm)
def Th.nrm (x : Th) : Th := { x with evs := x.evs.map Event.nrm, ts := -1, tg := 0 }
theorem evTurn_nrm {es : List Event} {f f' : Event → Event} (h : ∀ e, (f e).nrm = f' e.nrm) : (evTurn es f).map Event.nrm = evTurn (es.map Event.nrm) f' := by
  unfold evTurn
  rw [List.getLast?_map]
  cases es.getLast? with
  | none => rfl
  | some e =>
    show (es.set (es.length - 1) (f e)).map Event.nrm = (es.map Event.nrm).set ((es.map Event.nrm).length - 1) (f' e.nrm)
    rw [List.map_set, List.length_map, h]
section
variable {x : Th} {A : Ar} {L : List Int} {pick s : Int}
theorem Th.done_nw : x.nw.done = x.done := by
  unfold Th.done Th.nw Th.we
  simp only [List.length_map, List.getLast?_map]
  cases x.evs.getLast? with
  | none => rfl
  | some e =>
    show (_ && Decidable.decide (0 ≤ sg e.answered)) = (_ && Decidable.decide (0 ≤ e.answered))
    rw [decide_eq_decide.2 (sg_pos e.answered)]
theorem Th.ops_nw : x.nw.ops = x.ops := by
  unfold Th.ops Th.nw Th.we
  simp only [List.getLast?_map]
  cases x.evs.getLast? with
  | none => rfl
  | some e => rfl
theorem Th.ents_nw : x.nw.ents A = ((x.ents A).1.nw, (x.ents A).2) := by
  obtain ⟨id, n, k, pol, txns, evs, next, dead, tries, pause, seq, cache, limbo, ripe, slot, ent, push, pop, att, adv, end_, ts, tg⟩ := x
  unfold Th.ents Th.nw Th.we
  cases ent with
  | none => rfl
  | some n => simp only; split <;> rfl
theorem Th.tris_nw : x.nw.tris A = ((x.tris A).1.nw, (x.tris A).2) := by
  obtain ⟨id, n, k, pol, txns, evs, next, dead, tries, pause, seq, cache, limbo, ripe, slot, ent, push, pop, att, adv, end_, ts, tg⟩ := x
  cases att <;> rfl
theorem Th.with_nw : x.nw.with_ s L = (x.with_ s L).nw := by
  unfold Th.with_
  rw [Th.ops_nw]
  rfl
theorem Th.taks_nw : x.nw.taks A L = (((x.taks A L).1.1.nw, (x.taks A L).1.2), (x.taks A L).2) := by
  have wt : ∀ (T : Th) s, ((T.nw.with_ s L).tris A, lived s L) = ((((T.with_ s L).tris A).1.nw, ((T.with_ s L).tris A).2), lived s L) := fun T s => by rw [Th.with_nw, Th.tris_nw]
  have ww : ∀ (T : Th) (s c : Int) (B : Ar), ((T.nw.with_ s L, c, B), lived s L) = (((T.with_ s L).nw, c, B), lived s L) := fun T s c B => by rw [Th.with_nw]
  obtain ⟨id, n, k, pol, txns, evs, next, dead, tries, pause, seq, cache, limbo, ripe, slot, ent, push, pop, att, adv, end_, ts, tg⟩ := x
  have two : ∀ p : Option Pop, (let o := (p.getD .new).step A
      if o.1.l.over = false ∨ o.2.1 ≠ 0 then ((({ (Th.mk id n k pol txns evs next dead tries pause seq cache limbo ripe slot ent push pop att adv end_ ts tg).nw with pop := some o.1, next := some .tak } : Th), o.2.1, o.2.2), L) else
      if o.1.slot = -1 then ((({ (Th.mk id n k pol txns evs next dead tries pause seq cache limbo ripe slot ent push pop att adv end_ ts tg).nw with pop := none, end_ := 1, next := some .lea } : Th), 0, o.2.2), L) else
      ((({ (Th.mk id n k pol txns evs next dead tries pause seq cache limbo ripe slot ent push pop att adv end_ ts tg).nw with pop := none } : Th).with_ o.1.slot L, 0, o.2.2), lived o.1.slot L)) =
      (let o := (p.getD .new).step A
      let r : (Th × Int × Ar) × List Int := if o.1.l.over = false ∨ o.2.1 ≠ 0 then ((({ (Th.mk id n k pol txns evs next dead tries pause seq cache limbo ripe slot ent push pop att adv end_ ts tg) with pop := some o.1, next := some .tak } : Th), o.2.1, o.2.2), L) else
      if o.1.slot = -1 then ((({ (Th.mk id n k pol txns evs next dead tries pause seq cache limbo ripe slot ent push pop att adv end_ ts tg) with pop := none, end_ := 1, next := some .lea } : Th), 0, o.2.2), L) else
      ((({ (Th.mk id n k pol txns evs next dead tries pause seq cache limbo ripe slot ent push pop att adv end_ ts tg) with pop := none } : Th).with_ o.1.slot L, 0, o.2.2), lived o.1.slot L)
      ((r.1.1.nw, r.1.2), r.2)) := by
    intro p
    simp only
    split
    · rfl
    · split
      · rfl
      · exact ww (Th.mk id n k pol txns evs next dead tries pause seq cache limbo ripe slot ent push none att adv end_ ts tg) _ _ _
  unfold Th.taks
  cases pop with
  | some p => exact two _
  | none =>
    cases hl : cache.getLast? with
    | none =>
      have := two none
      simp only [Th.nw, Th.we, hl] at this ⊢
      exact this
    | some s =>
      have := wt (Th.mk id n k pol txns evs next dead tries pause seq cache.dropLast limbo ripe slot ent push none att adv end_ ts tg) s
      simp only [Th.nw, Th.we, hl] at this ⊢
      exact this
theorem Th.cached_nw : x.nw.cached = x.cached.nw := by
  obtain ⟨id, n, k, pol, txns, evs, next, dead, tries, pause, seq, cache, limbo, ripe, slot, ent, push, pop, att, adv, end_, ts, tg⟩ := x
  cases push <;> rfl
theorem Th.fres_nw : x.nw.fres A L = (((x.fres A L).1.1.nw, (x.fres A L).1.2), (x.fres A L).2) := by
  unfold Th.fres
  rw [Th.cached_nw]
  simp only
  generalize x.cached = y
  have tk := Th.taks_nw (x := y) (A := A) (L := L)
  obtain ⟨id, n, k, pol, txns, evs, next, dead, tries, pause, seq, cache, limbo, ripe, slot, ent, push, pop, att, adv, end_, ts, tg⟩ := y
  cases ripe with
  | nil => exact tk
  | cons s r =>
    by_cases c : ((push.getD (Push.new s)).step A).1.l.over = true ∧ ((push.getD (Push.new s)).step A).2.1 = 0
    · simp only [if_pos c]
      exact if_pos c
    · simp only [if_neg c]
      exact if_neg c
theorem Th.rets_nw : x.nw.rets A = ((x.rets A).1.nw, (x.rets A).2) := by
  unfold Th.rets Th.nw Th.we
  simp only
  split <;> rfl
theorem Th.answer_nw (hp : 0 ≤ pick) : x.nw.answer 0 = (x.answer pick).nw := by
  unfold Th.answer
  show (if x.end_ = 2 ∧ x.tries + 1 < x.k then _ else _) = _
  split
  · unfold Th.nw Th.we
    simp only
    rw [evTurn_nrm (f' := fun e => { e with attempts := x.tries + 1 }) fun e => rfl]
  · unfold Th.nw Th.we
    simp only
    rw [evTurn_nrm (f' := fun e => { e with attempts := x.tries + 1, answers := if x.end_ = 0 then (x.att.map At.ans).getD [] else e.answers, end_ := x.end_, answered := 0 }) fun e => by
      show (Event.mk e.thread e.index 0 (sg e.decided) (sg pick) x.end_ (x.tries + 1) _) = Event.mk e.thread e.index 0 (sg e.decided) 0 x.end_ (x.tries + 1) _
      rw [sg_nn hp]; rfl]
theorem Th.advs_nw (hp : 0 ≤ pick) : x.nw.advs A 0 = ((x.advs A pick).1.nw, (x.advs A pick).2) := by
  have an : ∀ T : Th, T.nw.answer 0 = (T.answer pick).nw := fun T => Th.answer_nw hp
  obtain ⟨id, n, k, pol, txns, evs, next, dead, tries, pause, seq, cache, limbo, ripe, slot, ent, push, pop, att, adv, end_, ts, tg⟩ := x
  cases adv with
  | none => rfl
  | some d =>
    have := an (Th.mk id n k pol txns evs next dead tries pause seq cache limbo ripe slot ent push pop att (some (d.step A).1) end_ ts tg)
    unfold Th.advs
    simp only [Th.nw, Th.we] at this ⊢
    by_cases c : (d.step A).1.over = true ∧ (d.step A).2.1 = 0
    · simp only [if_pos c, this]
    · simp only [if_neg c]
theorem Th.act_nw {a : Act} (hp : 0 ≤ pick) : x.nw.act A L 0 a = (((x.act A L pick a).1.1.nw, (x.act A L pick a).1.2), (x.act A L pick a).2) := by
  cases a with
  | ent => show (x.nw.ents A, L) = _; rw [Th.ents_nw]; rfl
  | fre => exact Th.fres_nw
  | tak => exact Th.taks_nw
  | tri => show (x.nw.tris A, L) = _; rw [Th.tris_nw]; rfl
  | ret => show (x.nw.rets A, L) = _; rw [Th.rets_nw]; rfl
  | lea => rfl
  | adv => show (x.nw.advs A 0, L) = _; rw [Th.advs_nw hp]; rfl
theorem Th.begin_nw (hp : 0 ≤ pick) : x.nw.begin 0 = ((x.begin pick).1.nw, (x.begin pick).2) := by
  unfold Th.begin
  rw [Th.done_nw]
  split
  · rfl
  · show (if 0 < x.pause then _ else _) = _
    split
    · rfl
    · unfold Th.nw Th.we
      simp only
      by_cases c : x.tries = 0
      · rw [if_pos c, if_pos c, List.map_append]
        rw [List.length_map]; rfl
      · rw [if_neg c, if_neg c]
theorem Th.ended_nw {r : (Th × Int × Ar) × List Int} : Th.ended ((r.1.1.nw, r.1.2), r.2) = ((Th.ended r).1.nw, (Th.ended r).2) := by
  unfold Th.ended
  simp only
  split <;> rfl
theorem Th.nw_nrm : x.nw.nrm = x.nrm := by
  unfold Th.nw Th.we Th.nrm
  simp only [List.map_map]
  congr 1
  refine List.map_congr_left fun e _ => ?_
  show Event.nrm (Event.nrm e) = Event.nrm e
  unfold Event.nrm
  simp only [sg_sg]
theorem Th.step_nrm (hp : 0 ≤ pick) : (x.nrm.step A L 0).2 = (x.step A L pick).2 ∧ (x.nrm.step A L 0).1.nrm = (x.step A L pick).1.nrm ∧ ((x.step A L pick).2.1 = true → (x.nrm.step A L 0).1.ts = (x.step A L pick).1.ts ∧ (x.nrm.step A L 0).1.tg = (x.step A L pick).1.tg) := by
  have ez : x.nrm.z = x.z.nw := rfl
  cases hd : x.dead with
  | true =>
    rw [Th.step_dead (x := x.nrm) hd, Th.step_dead hd]
    refine ⟨rfl, ?_, fun h => by cases h⟩
    show x.nrm.nrm = x.nrm
    unfold Th.nrm
    simp only [List.map_map]
    congr 1
    refine List.map_congr_left fun e _ => ?_
    show Event.nrm (Event.nrm e) = Event.nrm e
    unfold Event.nrm
    simp only [sg_sg]
  | false =>
    cases hx : x.next with
    | some a =>
      rw [Th.step_some (x := x.nrm) hd hx, Th.step_some hd hx, ez, Th.act_nw hp, Th.ended_nw]
      exact ⟨rfl, Th.nw_nrm, fun _ => ⟨rfl, rfl⟩⟩
    | none =>
      rw [Th.step_none (x := x.nrm) hd hx, Th.step_none hd hx, ez, Th.begin_nw hp]
      simp only
      split
      · rw [Th.act_nw hp, Th.ended_nw]
        exact ⟨rfl, Th.nw_nrm, fun _ => ⟨rfl, rfl⟩⟩
      · exact ⟨rfl, Th.nw_nrm, fun h => by cases h⟩
theorem Th.decide_nrm (hp : 0 ≤ pick) : (x.decide s pick).nrm = (x.nrm.decide s 0).nrm := by
  unfold Th.decide
  show (if x.slot = s then _ else x : Th).nrm = (if x.slot = s then _ else x.nrm : Th).nrm
  split
  · unfold Th.nrm
    simp only
    congr 1
    rw [evTurn_nrm (es := x.evs) (f' := fun e => { e with decided := 0 }) fun e => by
      show (Event.mk e.thread e.index 0 (sg pick) (sg e.answered) e.end_ e.attempts e.answers) = Event.mk e.thread e.index 0 0 (sg e.answered) e.end_ e.attempts e.answers
      rw [sg_nn hp]]
    rw [evTurn_nrm (es := x.evs.map Event.nrm) (f' := fun e => { e with decided := 0 }) fun e => rfl]
    congr 1
    rw [List.map_map]
    refine (List.map_congr_left fun e _ => ?_)
    show Event.nrm e = Event.nrm (Event.nrm e)
    unfold Event.nrm
    simp only [sg_sg]
  · show x.nrm = x.nrm.nrm
    unfold Th.nrm
    simp only [List.map_map]
    congr 1
    refine (List.map_congr_left fun e _ => ?_)
    show Event.nrm e = Event.nrm (Event.nrm e)
    unfold Event.nrm
    simp only [sg_sg]
end
structure Mc.sim (M N : Mc) : Prop where
  A : M.A = N.A
  L : M.L = N.L
  ts : M.ts = N.ts
  ths : M.ths.map Th.nrm = N.ths.map Th.nrm
theorem Mc.sim.refl (M : Mc) : M.sim M := ⟨rfl, rfl, rfl, rfl⟩
theorem Mc.sim.len {M N : Mc} (s : M.sim N) : M.ths.length = N.ths.length := by have := congrArg List.length s.ths; simpa using this
theorem Mc.sim.get {M N : Mc} (s : M.sim N) {i : Nat} {x : Th} (h : M.ths[i]? = some x) : ∃ y, N.ths[i]? = some y ∧ x.nrm = y.nrm := by
  have h1 : (M.ths.map Th.nrm)[i]? = some x.nrm := by rw [List.getElem?_map, h]; rfl
  rw [s.ths, List.getElem?_map] at h1
  cases h2 : N.ths[i]? with
  | none => rw [h2] at h1; cases h1
  | some y => rw [h2] at h1; exact ⟨y, rfl, (Option.some.inj h1).symm⟩
theorem Th.done_nrm {x : Th} : x.nrm.done = x.done := Th.done_nw
theorem Mc.sim.counts {M N : Mc} (s : M.sim N) (k : Int) : M.counts k = N.counts k := by
  unfold Mc.counts
  rw [s.len]
  congr 1
  cases h : M.ths[k.toNat]? with
  | some x =>
    obtain ⟨y, h2, e⟩ := s.get h
    rw [h2]
    simp only
    rw [← Th.done_nrm (x := x), e, Th.done_nrm]
  | none =>
    have : N.ths[k.toNat]? = none := by
      rw [List.getElem?_eq_none_iff] at h ⊢
      have := s.len; omega
    rw [this]
theorem Mc.sim.idle {M N : Mc} (s : M.sim N) {k : Int} (h : M.counts k = false) (ha : ∀ x ∈ M.ths, x.done = true → x.next = none ∧ x.dead = false) : (M.pick k).1.sim N := by
  unfold Mc.pick
  split
  · exact s
  · rename_i c
    split
    · exact s
    · rename_i x hx
      unfold Mc.counts at h
      rw [decide_eq_true (by omega), hx, Bool.true_and] at h
      have hd : x.done = true := by simpa using h
      obtain ⟨h1, h2⟩ := ha x (List.mem_of_getElem? hx) hd
      have e : x.step M.A M.L M.picks = (x.z, false, 0, M.A, M.L) := by
        rw [Th.step_none h2 h1]
        have : x.z.begin M.picks = (x.z, false) := by
          unfold Th.begin
          rw [if_pos (show x.z.done = true from hd)]
        rw [this]; rfl
      rw [e]
      refine ⟨s.A, s.L, s.ts, ?_⟩
      show (M.ths.set k.toNat x.z).map Th.nrm = _
      rw [List.map_set, ← s.ths, show x.z.nrm = x.nrm from rfl, set_self (by rw [List.getElem?_map, hx]; rfl)]
theorem Mc.sim.both {M N : Mc} (s : M.sim N) {k : Int} (h : M.counts k = true) (p0 : 0 ≤ M.picks) (q0 : 0 ≤ N.picks) (p1 : M.picks < 65536) (q1 : N.picks < 65536) : (M.pick k).1.sim (N.pick k).1 := by
  have hl := s.len
  have hc : 0 ≤ k ∧ k < M.ths.length := by
    unfold Mc.counts at h
    simp only [Bool.and_eq_true, decide_eq_true_eq] at h
    exact h.1
  obtain ⟨n, rfl⟩ := Int.eq_ofNat_of_zero_le hc.1
  obtain ⟨x, hx⟩ : ∃ x, M.ths[n]? = some x := ⟨_, List.getElem?_eq_getElem (by omega)⟩
  obtain ⟨y, hy, e⟩ := s.get hx
  rw [Mc.pick_yes hx p1, Mc.pick_yes hy q1]
  obtain ⟨a1, a2, a3⟩ := Th.step_nrm (x := x) (A := M.A) (L := M.L) p0
  obtain ⟨b1, b2, b3⟩ := Th.step_nrm (x := y) (A := M.A) (L := M.L) q0
  rw [← e] at b1 b2 b3
  have e2 : (x.step M.A M.L M.picks).2 = (y.step M.A M.L N.picks).2 := a1.symm.trans b1
  have e1 : (x.step M.A M.L M.picks).1.nrm = (y.step M.A M.L N.picks).1.nrm := a2.symm.trans b2
  have e3 : (x.step M.A M.L M.picks).2.1 = true → (x.step M.A M.L M.picks).1.ts = (y.step M.A M.L N.picks).1.ts ∧ (x.step M.A M.L M.picks).1.tg = (y.step M.A M.L N.picks).1.tg := fun h => by
    have h2 : (y.step M.A M.L N.picks).2.1 = true := by rw [← e2]; exact h
    exact ⟨(a3 h).1.symm.trans (b3 h2).1, (a3 h).2.symm.trans (b3 h2).2⟩
  rw [← s.A, ← s.L, ← s.ts]
  generalize x.step M.A M.L M.picks = r at e1 e2 e3
  generalize y.step M.A M.L N.picks = r' at e1 e2 e3
  obtain ⟨x', is, cd, A', L'⟩ := r
  obtain ⟨y', is', cd', A'', L''⟩ := r'
  cases e2
  dsimp only at e1 e3 ⊢
  have es : (M.ths.set n x').map Th.nrm = (N.ths.set n y').map Th.nrm := by rw [List.map_set, List.map_set, s.ths, e1]
  cases is with
  | false => exact ⟨rfl, rfl, rfl, es⟩
  | true =>
    obtain ⟨t1, t2⟩ := e3 rfl
    have et : noteT A' L' n x' = noteT A' L' n y' := by unfold noteT; rw [t1, t2]
    refine ⟨rfl, rfl, by simp only [if_true, et], ?_⟩
    simp only [if_true, et]
    unfold decAll
    split
    · rename_i sl _
      rw [List.map_map, List.map_map]
      have l1 : (M.ths.set n x').map (Th.nrm ∘ fun x => x.decide sl M.picks) = ((M.ths.set n x').map Th.nrm).map (fun x => (x.decide sl 0).nrm) := by
        rw [List.map_map]
        exact List.map_congr_left fun z _ => Th.decide_nrm p0
      have l2 : (N.ths.set n y').map (Th.nrm ∘ fun x => x.decide sl N.picks) = ((N.ths.set n y').map Th.nrm).map (fun x => (x.decide sl 0).nrm) := by
        rw [List.map_map]
        exact List.map_congr_left fun z _ => Th.decide_nrm q0
      rw [l1, l2, es]
    · exact es
structure Th.una (x : Th) : Prop where
  u : x.next ≠ none ∨ x.tries ≠ 0 → ∃ e, x.evs.getLast? = some e ∧ e.answered = -1
  d : x.dead = true → x.next ≠ none
theorem Th.new_una {id n k : Int} {pol : Bool} {ts : List (List Op)} : (Th.new id n k pol ts).una := ⟨(fun h => by rcases h with h | h <;> exact absurd rfl h), fun h => by cases h⟩
theorem evTurn_last {es : List Event} {f : Event → Event} : (evTurn es f).getLast? = es.getLast?.map f := by
  unfold evTurn
  cases h : es.getLast? with
  | none => rw [h]; rfl
  | some e =>
    have hl : 0 < es.length := by
      cases es with
      | nil => cases h
      | cons _ _ => simp
    show (es.set (es.length - 1) (f e)).getLast? = some (f e)
    rw [List.getLast?_eq_getElem?, List.length_set, List.getElem?_set_self (by omega)]
section
variable {A : Ar} {x : Th} {L : List Int} {pick s : Int}
theorem Th.una.of {y : Th} (u : x.una) (hx : x.next ≠ none) (h1 : y.evs = x.evs) (h2 : y.dead = true → y.next ≠ none) : y.una := ⟨fun _ => by rw [h1]; exact u.u (.inl hx), h2⟩
theorem Th.act_next {a : Act} (hn : x.next = some a) (h : a ≠ .adv) : (x.act A L pick a).1.1.next ≠ none ∧ (x.act A L pick a).1.1.dead = x.dead := by
  have tris : ∀ y : Th, y.next ≠ none → (y.tris A).1.next ≠ none ∧ (y.tris A).1.dead = y.dead := fun y hy => by
    unfold Th.tris; split
    · exact ⟨hy, rfl⟩
    · refine ⟨?_, rfl⟩
      simp only
      split
      · intro h; cases h
      · exact hy
  have taks : ∀ y : Th, (y.taks A L).1.1.next ≠ none ∧ (y.taks A L).1.1.dead = y.dead := fun y => by
    unfold Th.taks
    split
    · exact tris _ (fun h => by cases h)
    · simp only
      split
      · exact ⟨(fun h => by cases h), rfl⟩
      · split
        · exact ⟨(fun h => by cases h), rfl⟩
        · exact ⟨(fun h => by cases h), rfl⟩
  have hne : x.next ≠ none := by rw [hn]; simp
  cases a with
  | ent =>
    show (x.ents A).1.next ≠ none ∧ (x.ents A).1.dead = x.dead
    unfold Th.ents
    cases x.ent with
    | none => exact ⟨hne, rfl⟩
    | some n =>
      simp only
      split
      · exact ⟨(fun h => by cases h), rfl⟩
      · exact ⟨hne, rfl⟩
  | fre =>
    show (x.fres A L).1.1.next ≠ none ∧ (x.fres A L).1.1.dead = x.dead
    unfold Th.fres
    have hc : x.cached.next = x.next ∧ x.cached.dead = x.dead := by unfold Th.cached; split <;> exact ⟨rfl, rfl⟩
    simp only
    split
    · have := taks x.cached; rw [hc.2] at this; exact this
    · split
      · refine ⟨?_, hc.2⟩; show x.cached.next ≠ none; rw [hc.1]; exact hne
      · refine ⟨?_, hc.2⟩; show x.cached.next ≠ none; rw [hc.1]; exact hne
  | tak => exact taks x
  | tri => exact tris x hne
  | ret =>
    show (x.rets A).1.next ≠ none ∧ (x.rets A).1.dead = x.dead
    unfold Th.rets
    split
    · exact ⟨(fun h => by cases h), rfl⟩
    · exact ⟨hne, rfl⟩
  | lea => exact ⟨(fun h => by cases h), rfl⟩
  | adv => exact absurd rfl h
theorem Th.act_una {a : Act} (o : x.ok) (u : x.una) (hx : x.dead = false) (hn : x.next = some a) : (x.act A L pick a).1.1.una ∧ ((x.act A L pick a).1.2.1 ≠ 0 → (x.act A L pick a).1.1.next ≠ none) := by
  have hne : x.next ≠ none := by rw [hn]; simp
  by_cases ha : a = .adv
  · subst ha
    show (x.advs A pick).1.una ∧ ((x.advs A pick).2.1 ≠ 0 → (x.advs A pick).1.next ≠ none)
    obtain ⟨e, h1, h2⟩ := u.u (.inl hne)
    unfold Th.advs
    cases hd : x.adv with
    | none => exact ⟨u, fun _ => hne⟩
    | some d =>
      simp only
      split
      · refine ⟨?_, fun h => absurd rfl h⟩
        unfold Th.answer
        simp only
        split
        · exact ⟨fun _ => ⟨{ e with attempts := x.tries + 1 }, by simp only; rw [evTurn_last, h1]; rfl, h2⟩, fun h => by simp only at h; rw [hx] at h; cases h⟩
        · exact ⟨(fun h => by rcases h with h | h <;> exact absurd rfl h), fun h => by simp only at h; rw [hx] at h; cases h⟩
      · exact ⟨⟨fun _ => ⟨e, h1, h2⟩, u.d⟩, fun _ => hne⟩
  · obtain ⟨n1, n2⟩ := Th.act_next (A := A) (L := L) (pick := pick) hn ha
    exact ⟨u.of hne (Th.act_evs ha) fun _ => n1, fun _ => n1⟩
theorem Th.ended_una {r : (Th × Int × Ar) × List Int} (h : r.1.1.una ∧ (r.1.2.1 ≠ 0 → r.1.1.next ≠ none)) : (Th.ended r).1.una := by
  unfold Th.ended
  split
  · exact h.1
  · rename_i c; exact ⟨h.1.u, fun _ => h.2 c⟩
theorem Th.begin_una (u : x.una) (hn : x.next = none) (hd : x.dead = false) : (x.begin pick).1.una ∧ (x.begin pick).1.dead = false := by
  unfold Th.begin
  split
  · exact ⟨u, hd⟩
  · split
    · exact ⟨⟨u.u, u.d⟩, hd⟩
    · refine ⟨⟨fun _ => ?_, fun _ h => by cases h⟩, hd⟩
      simp only
      by_cases c : x.tries = 0
      · rw [if_pos c]
        exact ⟨_, List.getLast?_concat, rfl⟩
      · rw [if_neg c]
        exact u.u (.inr c)
theorem Th.step_una (o : x.ok) (u : x.una) : (x.step A L pick).1.una := by
  cases hd : x.dead with
  | true => rw [Th.step_dead hd]; exact u
  | false =>
    have o1 : x.z.ok := { o with }
    have u1 : x.z.una := ⟨u.u, u.d⟩
    cases hx : x.next with
    | some a => rw [Th.step_some hd hx]; exact Th.ended_una (Th.act_una o1 u1 hd hx)
    | none =>
      rw [Th.step_none hd hx]
      have b := Th.begin_ok (pick := pick) o1 hx
      have bu := Th.begin_una (pick := pick) u1 hx hd
      split
      · rename_i q
        exact Th.ended_una (Th.act_una b.1 bu.1 bu.2 (b.2 q))
      · exact bu.1
theorem Th.decide_una (u : x.una) : (x.decide s pick).una := by
  unfold Th.decide
  split
  · refine ⟨fun h => ?_, u.d⟩
    obtain ⟨e, h1, h2⟩ := u.u h
    exact ⟨{ e with decided := pick }, by simp only; rw [evTurn_last, h1]; rfl, h2⟩
  · exact u
theorem Th.una.done (u : x.una) (h : x.done = true) : x.next = none ∧ x.dead = false := by
  have hn : x.next = none := by
    cases hx : x.next with
    | none => rfl
    | some a =>
      exfalso
      obtain ⟨e, h1, h2⟩ := u.u (.inl (by rw [hx]; simp))
      unfold Th.done at h
      rw [h1] at h
      simp only [Bool.and_eq_true, decide_eq_true_eq] at h
      omega
  refine ⟨hn, ?_⟩
  cases hd : x.dead with
  | false => rfl
  | true => exact absurd hn (u.d hd)
end
theorem Mc.new_una {p : Plan} : ∀ x ∈ (Mc.new p).ths, x.una := by
  intro x hx
  obtain ⟨j, t, _, rfl⟩ := Mc.threads_mem hx
  exact Th.new_una
theorem Mc.pick_una {M : Mc} {k : Int} (o : M.ok) (u : ∀ x ∈ M.ths, x.una) : ∀ x ∈ (M.pick k).1.ths, x.una := by
  unfold Mc.pick
  split
  · exact u
  · split
    · exact u
    · rename_i x hx
      have s := Th.step_una (A := M.A) (L := M.L) (pick := M.picks) (o.ths x (List.mem_of_getElem? hx)).1 (u x (List.mem_of_getElem? hx))
      generalize x.step M.A M.L M.picks = r at s
      simp only
      have base : ∀ y ∈ M.ths.set k.toNat r.1, y.una := fun y hy => by
        rcases List.mem_or_eq_of_mem_set hy with q | q
        · exact u y q
        · subst q; exact s
      intro y hy
      split at hy
      · unfold decAll at hy
        split at hy
        · obtain ⟨z, hz, rfl⟩ := List.mem_map.1 hy
          exact Th.decide_una (base z hz)
        · exact base y hy
      · exact base y hy
def Mc.run (M : Mc) (ks : List Int) : Mc := ks.foldl (fun M k => (M.pick k).1) M
theorem trims_run : ∀ {ks : List Int} {M : Mc}, M.run (trims M ks).1 = (trims M ks).2 := by
  intro ks
  induction ks with
  | nil => intro M; rfl
  | cons k ks ih =>
    intro M
    show M.run (if M.counts k = true then (k :: (trims (M.pick k).1 ks).1, (trims (M.pick k).1 ks).2) else trims M ks).1 = (if M.counts k = true then (k :: (trims (M.pick k).1 ks).1, (trims (M.pick k).1 ks).2) else trims M ks).2
    by_cases c : M.counts k = true
    · rw [if_pos c]; exact ih
    · rw [if_neg c]; exact ih
theorem Mc.pick_picks2 {M : Mc} {k : Int} : M.picks ≤ (M.pick k).1.picks ∧ (M.pick k).1.picks ≤ M.picks + 1 := by
  unfold Mc.pick
  split
  · simp only; omega
  · split
    · simp only; omega
    · simp only; omega
theorem trims_sim : ∀ {ks : List Int} {M N : Mc}, M.sim N → M.ok → N.ok → (∀ x ∈ M.ths, x.una) → M.picks + ks.length ≤ 65536 → N.picks + ks.length ≤ 65536 → (M.run ks).sim (trims N ks).2 := by
  intro ks
  induction ks with
  | nil => intro M N s _ _ _ _ _; exact s
  | cons k ks ih =>
    intro M N s oM oN u h1 h2
    simp only [List.length_cons] at h1 h2
    have p1 := Mc.pick_picks2 (M := M) (k := k)
    have p2 := Mc.pick_picks2 (M := N) (k := k)
    show ((M.pick k).1.run ks).sim (if N.counts k = true then (k :: (trims (N.pick k).1 ks).1, (trims (N.pick k).1 ks).2) else trims N ks).2
    have hc := s.counts k
    by_cases c : N.counts k = true
    · rw [if_pos c]
      refine ih (s.both (by rw [hc]; exact c) oM.p0 oN.p0 (by omega) (by omega)) (Mc.pick_ok oM) (Mc.pick_ok oN) (Mc.pick_una oM u) (by omega) (by omega)
    · rw [if_neg c]
      exact ih (s.idle (by rw [hc]; simpa using c) fun x hx hd => (u x hx).done hd) (Mc.pick_ok oM) oN (Mc.pick_una oM u) (by omega) (by omega)
end Go.Proofs.YtcpfkkppfgolaaaGreatDoor
namespace Go.Proofs.YtcpfkkppfgolaaaGreatDoor
open Go GW
theorem mapM_some {α β : Type} {f : α → Option β} : ∀ (l : List α) (ys : List β), l.mapM f = some ys → ys.length = l.length ∧ ∀ (i : Nat) (x : α), l[i]? = some x → ∃ y, f x = some y ∧ ys[i]? = some y := by
  intro l
  induction l with
  | nil => intro ys h; simp at h; subst h; simp
  | cons a l ih =>
    intro ys h
    rw [List.mapM_cons] at h
    cases hf : f a with
    | none => simp [hf] at h
    | some y =>
      cases hl : l.mapM f with
      | none => simp [hf, hl] at h
      | some zs =>
        simp [hf, hl] at h
        subst h
        obtain ⟨h1, h2⟩ := ih zs hl
        refine ⟨by simp [h1], fun i x hi => ?_⟩
        cases i with
        | zero => simp at hi; subst hi; exact ⟨y, hf, by simp⟩
        | succ i => simpa using h2 i x (by simpa using hi)
theorem cell_full {w : World} {a : Addr} {v : Value} (h : w.cell? a = some v) : a.spot = none ∧ ∃ T pre sz, full w a.block = some (.row T pre sz false) ∧ pre[a.off]? = some v := by
  unfold World.cell? at h
  split at h
  · rename_i c T fr hc
    split at h
    · cases h
    · rename_i hs
      refine ⟨by simpa using hs, T, c.toList, c.size, by simp [full, hc], by simpa using h⟩
  · cases h
theorem addr_add_spot {a : Addr} (n : Nat) (h : a.spot = none) : a.add n = ⟨a.block, a.off + n, none⟩ := by
  cases a; simp only at h; subst h; exact Addr.add_plain _ _ _
theorem weightsAll_of {H : Type} {P : Program} {e : TypeId} {q : Nat → Bool} : ∀ {ds : List (DataW H)}, (DataW.weightsAll P e ds).all q = true → ∀ {d : DataW H}, d ∈ ds → (d.weights P e).all q = true := by
  intro ds
  induction ds with
  | nil => intro _ d hd; cases hd
  | cons x ds ih =>
    intro h d hd
    simp only [DataW.weightsAll, List.all_append, Bool.and_eq_true] at h
    rcases List.mem_cons.1 hd with rfl | q
    · exact h.1
    · exact ih h.2 q
theorem open_rowsW {α H : Type} {enc : TypeId × Value → H} {P : Program} {W : World} {t e : TypeId} {size : Nat} (encα : α → List Value) (hd : P.underlying t = some (.slice e)) (hs : P.cellsOf e = size) (hpos : 0 < size) (hpos2 : ∀ x, (encα x).length = size)
    (hel : ∀ fuel cs d ps, DataW.trod enc P W 0 (fun _ => true) true fuel e cs = some (d, ps) → (d.weights P e).all (· ≤ reachBytes) = true → ∃ x, cs = encα x) {fuel : Nat} {cs : List Value} {d : DataW H} {ps : List MemPlace}
    (h : DataW.trod enc P W 0 (fun _ => true) true fuel t cs = some (d, ps)) (hw : (d.weights P t).all (· ≤ reachBytes) = true) :
    ∃ (v : Value) (xs : List α), cs = [v] ∧ rowsAt (full W) size v (xs.map encα) ∧ xs.length * P.bytesOf e ≤ reachBytes := by
  cases fuel with
  | zero => simp [DataW.trod] at h
  | succ fuel =>
    simp only [DataW.trod, hd] at h
    split at h <;> first
      | (rename_i q; cases q; done)
      | (rename_i q _; cases q; done)
      | cases h
      | skip
    · refine ⟨_, [], rfl, ⟨none, 0, 0, rfl, rfl, Nat.le_refl _, by omega, fun i c hc => by simp at hc⟩, by simp⟩
    · rename_i e' a n cap he
      cases he
      split at h
      · rename_i hc
        obtain ⟨_, hle, hmax⟩ := hc
        obtain ⟨elems, hel1, h⟩ := Option.bind_eq_some_iff.1 h
        obtain ⟨rest, hrest, h⟩ := Option.map_eq_some_iff.1 h
        simp only [Prod.mk.injEq] at h
        obtain ⟨rfl, rfl⟩ := h
        obtain ⟨hlen, hget⟩ := mapM_some _ _ hel1
        simp only [List.length_range] at hlen
        have hw2 := hw
        simp only [DataW.weights, hd, List.all_cons, List.all_append, Bool.and_eq_true] at hw2
        have each : ∀ i, i < n → ∃ x : α, W.cells? 0 (a.add (i * P.cellsOf e)) (P.cellsOf e) = some (encα x) := by
          intro i hi
          obtain ⟨y, hy, hyi⟩ := hget i i (by simp [hi])
          obtain ⟨cs, h1, h2⟩ := Option.bind_eq_some_iff.1 hy
          obtain ⟨x, hx⟩ := hel _ _ _ _ h2 (weightsAll_of hw2.2.1 (List.mem_map.2 ⟨y, List.mem_of_getElem? hyi, rfl⟩))
          exact ⟨x, by rw [h1, hx]⟩
        have hxs : ∀ m, m ≤ n → ∃ xs : List α, xs.length = m ∧ ∀ (i : Nat) x, xs[i]? = some x → W.cells? 0 (a.add (i * P.cellsOf e)) (P.cellsOf e) = some (encα x) := by
          intro m
          induction m with
          | zero => intro _; exact ⟨[], rfl, fun i x hx => by simp at hx⟩
          | succ m ih =>
            intro hm
            obtain ⟨xs, h1, h2⟩ := ih (by omega)
            obtain ⟨x, h3⟩ := each m (by omega)
            refine ⟨xs ++ [x], by simp [h1], fun i y hy => ?_⟩
            rcases Nat.lt_or_ge i m with q | q
            · rw [List.getElem?_append_left (by omega)] at hy; exact h2 i y hy
            · rw [List.getElem?_append_right (by omega)] at hy
              have : i = m := by
                have := (List.getElem?_eq_some_iff.1 hy).1
                simp at this; omega
              subst this
              simp [h1] at hy
              subst hy; exact h3
        obtain ⟨xs, hxl, hx⟩ := hxs n (Nat.le_refl _)
        refine ⟨_, xs, rfl, ⟨some a, n, cap, rfl, by simp [hxl], hle, by unfold maxLen at hmax; omega, fun i c hc => ?_⟩, ?_⟩
        · rw [List.getElem?_map] at hc
          obtain ⟨x, hxi, rfl⟩ := Option.map_eq_some_iff.1 hc
          have hcells := hx i x hxi
          unfold World.cells? at hcells
          rw [if_pos (Nat.zero_le _), hs] at hcells
          obtain ⟨hl, hg⟩ := mapM_some _ _ hcells
          have cell : ∀ j, j < size → ∃ y, W.cell? ((a.add (i * size)).add j) = some y ∧ (encα x)[j]? = some y := by
            intro j hj
            obtain ⟨y, h1, h2⟩ := hg j j (by simp [hj])
            exact ⟨y, h1, h2⟩
          have hspot : a.spot = none := by
            have h0 : 0 < xs.length := by have := (List.getElem?_eq_some_iff.1 hxi).1; omega
            have hx0 := hx 0 xs[0] (List.getElem?_eq_getElem h0)
            unfold World.cells? at hx0
            rw [if_pos (Nat.zero_le _), hs] at hx0
            obtain ⟨y, h1, _⟩ := (mapM_some _ _ hx0).2 0 0 (by simp [hpos])
            have := (cell_full h1).1
            simpa [Addr.add] using this
          obtain ⟨y0, hy0, _⟩ := cell 0 hpos
          have e1 : ∀ j, (a.add (i * size)).add j = ⟨a.block, a.off + i * size + j, none⟩ := by
            intro j; rw [addr_add_spot _ hspot, Addr.add_plain]
          rw [e1] at hy0
          obtain ⟨_, T, pre, sz, hf, _⟩ := cell_full hy0
          have hpre : ∀ j, j < size → pre[a.off + i * size + j]? = (encα x)[j]? := by
            intro j hj
            obtain ⟨y, h1, h2⟩ := cell j hj
            rw [e1] at h1
            obtain ⟨_, T', pre', sz', hf', hp'⟩ := cell_full h1
            simp only at hf hf'
            rw [hf] at hf'
            cases hf'
            rw [hp', h2]
          have hlast : a.off + i * size + size ≤ pre.length := by
            have := hpre (size - 1) (by omega)
            have hlt : size - 1 < (encα x).length := by rw [hpos2]; omega
            rw [List.getElem?_eq_getElem hlt] at this
            have := (List.getElem?_eq_some_iff.1 this).1
            omega
          refine ⟨a.block, a.off, T, pre, sz, false, ?_, hf, hlast, ?_⟩
          · cases a; simp only at hspot; subst hspot; rfl
          · apply List.ext_getElem?
            intro j
            by_cases hj : j < size
            · rw [List.getElem?_take_of_lt hj, List.getElem?_drop, hpre j hj]
            · rw [List.getElem?_eq_none (by simp; omega), List.getElem?_eq_none (by rw [hpos2]; omega)]
        · simp only [DataW.weights, hd, List.all_cons, Bool.and_eq_true, decide_eq_true_eq] at hw
          have h1 := hw.1
          simp only [List.length_map, hlen] at h1
          rw [hxl]
          exact Nat.le_trans (Nat.mul_le_mul_right _ (by omega)) h1
      · cases h
theorem open_rows {α H : Type} {enc : TypeId × Value → H} {P : Program} {W : World} {t e : TypeId} {size : Nat} (encα : α → List Value) (hd : P.underlying t = some (.slice e)) (hs : P.cellsOf e = size) (hpos : 0 < size) (hpos2 : ∀ x, (encα x).length = size)
    (hel : ∀ fuel cs d ps, DataW.trod enc P W 0 (fun _ => true) true fuel e cs = some (d, ps) → ∃ x, cs = encα x) {fuel : Nat} {cs : List Value} {d : DataW H} {ps : List MemPlace}
    (h : DataW.trod enc P W 0 (fun _ => true) true fuel t cs = some (d, ps)) (hw : (d.weights P t).all (· ≤ reachBytes) = true) :
    ∃ (v : Value) (xs : List α), cs = [v] ∧ rowsAt (full W) size v (xs.map encα) ∧ xs.length * P.bytesOf e ≤ reachBytes :=
  open_rowsW encα hd hs hpos hpos2 (fun fuel cs d ps h _ => hel fuel cs d ps h) h hw
theorem open_rowsQ {H : Type} {enc : TypeId × Value → H} {P : Program} {W : World} {t e : TypeId} {size : Nat} (Q : List Value → Prop) (hd : P.underlying t = some (.slice e)) (hs : P.cellsOf e = size) (hpos : 0 < size) (hpos2 : ∀ c, Q c → c.length = size)
    (hel : ∀ fuel cs d ps, DataW.trod enc P W 0 (fun _ => true) true fuel e cs = some (d, ps) → (d.weights P e).all (· ≤ reachBytes) = true → Q cs) {fuel : Nat} {cs : List Value} {d : DataW H} {ps : List MemPlace}
    (h : DataW.trod enc P W 0 (fun _ => true) true fuel t cs = some (d, ps)) (hw : (d.weights P t).all (· ≤ reachBytes) = true) :
    ∃ (v : Value) (es : List (List Value)), cs = [v] ∧ rowsAt (full W) size v es ∧ (∀ c ∈ es, Q c) ∧ es.length * P.bytesOf e ≤ reachBytes := by
  obtain ⟨v, xs, h1, h2, h3⟩ := open_rowsW (α := { c : List Value // Q c }) Subtype.val hd hs hpos (fun x => hpos2 _ x.2) (fun fuel cs d ps h w => ⟨⟨cs, hel fuel cs d ps h w⟩, rfl⟩) h hw
  refine ⟨v, xs.map Subtype.val, h1, h2, fun c hc => ?_, by rw [List.length_map]; exact h3⟩
  obtain ⟨x, _, rfl⟩ := List.mem_map.1 hc
  exact x.2
theorem weightsEach_of {H : Type} {P : Program} {q : Nat → Bool} : ∀ {ts : List TypeId} {ds : List (DataW H)}, (DataW.weightsEach P ts ds).all q = true → ∀ (i : Nat) t d, ts[i]? = some t → ds[i]? = some d → (d.weights P t).all q = true := by
  intro ts
  induction ts with
  | nil => intro ds h i t d ht; simp at ht
  | cons t ts ih =>
    intro ds h i t' d' ht hd
    cases ds with
    | nil => simp at hd
    | cons d ds =>
      simp only [DataW.weightsEach, List.all_append, Bool.and_eq_true] at h
      cases i with
      | zero => simp at ht hd; subst ht; subst hd; exact h.1
      | succ i => exact ih h.2 i t' d' (by simpa using ht) (by simpa using hd)
theorem open_struct {H : Type} {enc : TypeId × Value → H} {P : Program} {W : World} {t : TypeId} {fs : Array Field} (hd : P.underlying t = some (.struct fs)) {fuel : Nat} {cs : List Value} {d : DataW H} {ps : List MemPlace}
    (h : DataW.trod enc P W 0 (fun _ => true) true fuel t cs = some (d, ps)) (hw : (d.weights P t).all (· ≤ reachBytes) = true) :
    cs.length = P.cellsOf t ∧ ∀ (i ty off n : Nat), (fs[i]?).map (fun f => (f.type, f.offset)) = some (ty, off) → P.cellsOf ty = n → ∃ fuel' d' ps', DataW.trod enc P W 0 (fun _ => true) true fuel' ty ((cs.drop off).take n) = some (d', ps') ∧ (d'.weights P ty).all (· ≤ reachBytes) = true := by
  cases fuel with
  | zero => simp [DataW.trod] at h
  | succ fuel =>
    simp only [DataW.trod, hd] at h
    split at h
    · rename_i hlen
      obtain ⟨xs, hm, he⟩ := Option.map_eq_some_iff.1 h
      simp only [Prod.mk.injEq] at he
      obtain ⟨rfl, rfl⟩ := he
      obtain ⟨hl, hg⟩ := mapM_some _ _ hm
      refine ⟨hlen, fun i ty off n hf hn => ?_⟩
      obtain ⟨f, hf2, he⟩ := Option.map_eq_some_iff.1 hf
      cases he
      subst hn
      have hf' : fs.toList[i]? = some f := by simpa using hf2
      obtain ⟨y, hy, hyi⟩ := hg i f hf'
      refine ⟨fuel, y.1, y.2, hy, ?_⟩
      simp only [DataW.weights, hd] at hw
      exact weightsEach_of hw i f.type y.1 (by rw [List.getElem?_map, hf']; rfl) (by rw [List.getElem?_map, hyi]; rfl)
    · cases h
theorem open_bool_cs {H : Type} {enc : TypeId × Value → H} {P : Program} {W : World} {t : TypeId} (hd : P.underlying t = some .bool) {fuel : Nat} {cs : List Value} {d : DataW H} {ps : List MemPlace}
    (h : DataW.trod enc P W 0 (fun _ => true) true fuel t cs = some (d, ps)) : ∃ x : Bool, cs = [.bool x] := by
  cases fuel with
  | zero => simp [DataW.trod] at h
  | succ fuel =>
    simp only [DataW.trod, hd] at h
    split at h <;> first
      | (rename_i q; cases q; done)
      | (rename_i q _; cases q; done)
      | cases h
      | skip
    exact ⟨_, rfl⟩
theorem open_ints_struct {H : Type} {enc : TypeId × Value → H} {P : Program} {W : World} {t : TypeId} {fs : Array Field} (hd : P.underlying t = some (.struct fs)) (hc : P.cellsOf t = fs.size)
    (hf : ∀ (i : Nat) f, fs[i]? = some f → f.offset = i ∧ P.underlying f.type = some (.int .i64) ∧ P.cellsOf f.type = 1) {fuel : Nat} {cs : List Value} {d : DataW H} {ps : List MemPlace}
    (h : DataW.trod enc P W 0 (fun _ => true) true fuel t cs = some (d, ps)) : ∃ xs : List Int, xs.length = fs.size ∧ cs = xs.map i64 ∧ ∀ x ∈ xs, (Lit.int .i64 x).wf = true := by
  cases fuel with
  | zero => simp [DataW.trod] at h
  | succ fuel =>
    simp only [DataW.trod, hd] at h
    split at h
    · rename_i hlen
      obtain ⟨xs, hm, _⟩ := Option.map_eq_some_iff.1 h
      obtain ⟨hl, hg⟩ := mapM_some _ _ hm
      have each : ∀ i, i < fs.size → ∃ n : Int, cs[i]? = some (i64 n) ∧ (Lit.int .i64 n).wf = true := by
        intro i hi
        have hfi : fs[i]? = some fs[i] := Array.getElem?_eq_getElem hi
        obtain ⟨ho, hu, hcc⟩ := hf i _ hfi
        obtain ⟨y, hy, _⟩ := hg i fs[i] (by simp [hfi])
        rw [ho, hcc] at hy
        cases fuel with
        | zero => simp [DataW.trod] at hy
        | succ fuel =>
          have hlt : i < cs.length := by rw [hlen, hc]; exact hi
          have htk : (cs.drop i).take 1 = [cs[i]] := by
            rw [List.drop_eq_getElem_cons hlt]; rfl
          rw [htk] at hy
          simp only [DataW.trod, hu] at hy
          split at hy <;> first
            | (rename_i q; cases q; done)
            | (rename_i q _; cases q; done)
            | cases hy
            | skip
          rename_i k k' n hk hcs
          cases hk
          split at hy
          · rename_i hwf
            obtain ⟨rfl, hwf⟩ := hwf
            refine ⟨n, ?_, hwf⟩
            rw [List.getElem?_eq_getElem hlt]
            simpa using hcs
          · cases hy
      have build : ∀ m, m ≤ fs.size → ∃ ys : List Int, ys.length = m ∧ cs.take m = ys.map i64 ∧ ∀ x ∈ ys, (Lit.int .i64 x).wf = true := by
        intro m
        induction m with
        | zero => intro _; exact ⟨[], rfl, rfl, fun x hx => by simp at hx⟩
        | succ m ih =>
          intro hm
          obtain ⟨ys, h1, h2, h3⟩ := ih (by omega)
          obtain ⟨n, h4, h5⟩ := each m (by omega)
          refine ⟨ys ++ [n], by simp [h1], by rw [List.take_add_one, h4, h2]; simp, fun x hx => ?_⟩
          rcases List.mem_append.1 hx with q | q
          · exact h3 x q
          · simp at q; subst q; exact h5
      obtain ⟨ys, h1, h2, h3⟩ := build fs.size (Nat.le_refl _)
      exact ⟨ys, h1, by rw [← h2, List.take_of_length_le (by omega)], h3⟩
    · cases h
theorem open_int_cs {H : Type} {enc : TypeId × Value → H} {P : Program} {W : World} {t : TypeId} (hd : P.underlying t = some (.int .i64)) {fuel : Nat} {cs : List Value} {d : DataW H} {ps : List MemPlace}
    (h : DataW.trod enc P W 0 (fun _ => true) true fuel t cs = some (d, ps)) : ∃ x : Int, cs = [i64 x] ∧ (Lit.int .i64 x).wf = true := by
  cases fuel with
  | zero => simp [DataW.trod] at h
  | succ fuel =>
    simp only [DataW.trod, hd] at h
    split at h <;> first
      | (rename_i q; cases q; done)
      | (rename_i q _; cases q; done)
      | cases h
      | skip
    rename_i k k' n hk
    cases hk
    split at h
    · rename_i hwf
      obtain ⟨rfl, hwf⟩ := hwf
      exact ⟨n, rfl, hwf⟩
    · cases h
theorem slice_cell {P : Program} {W : World} {r : Reach} {b0 : Nat} {t e : TypeId} {v : Value} (hd : P.underlying t = some (.slice e)) (hval : Value.okWide P W r b0 t v) : v.cells.toList = [v] := by
  unfold Value.okWide at hval
  simp only [hd] at hval
  unfold Cell.okWide at hval
  simp only [hd] at hval
  unfold Cell.ok at hval
  cases v <;> simp only [hd] at hval <;> first | rfl | exact hval.elim
end Go.Proofs.YtcpfkkppfgolaaaGreatDoor
namespace Go.Proofs.YtcpfkkppfgolaaaGreatDoor
open Go GW Go.Proofs
theorem i64_of_wf {x : Int} (h : (Lit.int .i64 x).wf = true) : I64 x := by
  simp [Lit.wf, IntKind.min, IntKind.max, IntKind.bits, IntKind.signed] at h
  constructor <;> omega
theorem open_i64s {H : Type} {enc : TypeId × Value → H} {W : World} {fuel : Nat} {cs : List Value} {d : DataW H} {ps : List MemPlace} (h : DataW.trod enc Tryz.prog W 0 (fun _ => true) true fuel 25 cs = some (d, ps)) (hw : (d.weights Tryz.prog 25).all (· ≤ reachBytes) = true) :
    ∃ v, ∃ xs : List Int, cs = [v] ∧ rowsAt (full W) 1 v (xs.map encI) ∧ (∀ x ∈ xs, I64 x) ∧ (xs.length + 2) * 8 ≤ 140737488355328 := by
  obtain ⟨v, xs, h1, h2, h3⟩ := open_rows (P := Tryz.prog) (α := { x : Int // I64 x }) (fun x => encI x.1) Tryz.underlying25 (size := 1) (by kernel_rfl) (by decide) (fun _ => rfl) (fun fuel cs d ps h => by
    obtain ⟨x, hx, hwf⟩ := open_int_cs (P := Tryz.prog) Tryz.underlying3 h
    exact ⟨⟨x, i64_of_wf hwf⟩, hx⟩) h hw
  have hb : Tryz.prog.bytesOf 3 = 8 := by kernel_rfl
  rw [hb] at h3
  refine ⟨v, xs.map Subtype.val, h1, by rw [List.map_map]; exact h2, fun x hx => ?_, by rw [List.length_map]; unfold reachBytes at h3; omega⟩
  obtain ⟨y, _, rfl⟩ := List.mem_map.1 hx
  exact y.2
set_option maxRecDepth 20000
theorem one_cell {cs : List Value} {v : Value} (hl : cs.length = 1) (h : (cs.drop 0).take 1 = [v]) : cs = [v] := by
  match cs, hl with
  | [x], _ => simpa using h
theorem open_opP {H : Type} {enc : TypeId × Value → H} {W : World} {fuel : Nat} {cs : List Value} {d : DataW H} {ps : List MemPlace} (h : DataW.trod enc Tryz.prog W 0 (fun _ => true) true fuel 126 cs = some (d, ps)) : ∃ x : Op, cs = x.enc := by
  obtain ⟨xs, hl, hc, _⟩ := open_ints_struct (P := Tryz.prog) Tryz.underlying126 (by kernel_rfl) (fun i f hf => by
    have hi : i < 4 := by have := (Array.getElem?_eq_some_iff.1 hf).1; simpa using this
    match i, hi with
    | 0, _ | 1, _ | 2, _ | 3, _ => simp at hf; subst hf; exact ⟨rfl, by kernel_rfl, by kernel_rfl⟩) h
  match xs, hl with
  | [x0, x1, x2, x3], _ => exact ⟨⟨x0, x1, x2, x3⟩, hc⟩
theorem open_txn {H : Type} {enc : TypeId × Value → H} {W : World} {fuel : Nat} {cs : List Value} {d : DataW H} {ps : List MemPlace} (h : DataW.trod enc Tryz.prog W 0 (fun _ => true) true fuel 69 cs = some (d, ps)) (hw : (d.weights Tryz.prog 69).all (· ≤ reachBytes) = true) : ∃ t : Txn, txnC (full W) cs t := by
  obtain ⟨hl, hfs⟩ := open_struct Tryz.underlying69 h hw
  have c1 : Tryz.prog.cellsOf 69 = 1 := by kernel_rfl
  have c2 : Tryz.prog.cellsOf 67 = 1 := by kernel_rfl
  obtain ⟨f', d', ps', t0, w0⟩ := hfs 0 67 0 1 rfl c2
  obtain ⟨w, xs, h1, h2, _⟩ := open_rows (P := Tryz.prog) Op.enc Tryz.underlying67 (size := 4) (by kernel_rfl) (by decide) (fun _ => rfl) (fun fuel cs d ps h => open_opP h) t0 w0
  exact ⟨xs, w, one_cell (by rw [hl, c1]) h1, h2⟩
theorem open_thread {H : Type} {enc : TypeId × Value → H} {W : World} {fuel : Nat} {cs : List Value} {d : DataW H} {ps : List MemPlace} (h : DataW.trod enc Tryz.prog W 0 (fun _ => true) true fuel 66 cs = some (d, ps)) (hw : (d.weights Tryz.prog 66).all (· ≤ reachBytes) = true) : ∃ ts : List Txn, thrC (full W) cs ts := by
  obtain ⟨w, es, h1, h2, h3, _⟩ := open_rowsQ (P := Tryz.prog) (size := 1) (fun c => ∃ t : Txn, txnC (full W) c t) Tryz.underlying66 (by kernel_rfl) (by decide) (fun c ⟨t, w, hc, _⟩ => by rw [hc]; rfl) (fun fuel cs d ps h w => open_txn h w) h hw
  obtain ⟨ts, ht⟩ := All2.of (R := fun c t => txnC (full W) c t) (fun c hc => hc) es h3
  exact ⟨ts, w, es, h1, h2, ht⟩
theorem open_threads {H : Type} {enc : TypeId × Value → H} {W : World} {fuel : Nat} {cs : List Value} {d : DataW H} {ps : List MemPlace} (h : DataW.trod enc Tryz.prog W 0 (fun _ => true) true fuel 22 cs = some (d, ps)) (hw : (d.weights Tryz.prog 22).all (· ≤ reachBytes) = true) : ∃ v, ∃ p : List (List Txn), cs = [v] ∧ threadsAt (full W) v p := by
  obtain ⟨w, es, h1, h2, h3, _⟩ := open_rowsQ (P := Tryz.prog) (size := 1) (fun c => ∃ t : List Txn, thrC (full W) c t) Tryz.underlying22 (by kernel_rfl) (by decide) (fun c ⟨t, w, _, hc, _⟩ => by rw [hc]; rfl) (fun fuel cs d ps h w => open_thread h w) h hw
  obtain ⟨ts, ht⟩ := All2.of (R := fun c t => thrC (full W) c t) (fun c hc => hc) es h3
  exact ⟨w, ts, h1, es, h2, ht⟩
theorem open_plan {H : Type} {enc : TypeId × Value → H} {W : World} {base : Nat} {v : Value} {d : DataW H} {ps : List MemPlace} (hval : Value.okWide Tryz.prog W .any base 24 v) (h : DataW.Trod enc Tryz.prog W 0 (fun _ => true) true 24 v d ps)
    (hw : (d.weights Tryz.prog 24).all (· ≤ reachBytes) = true) : ∃ u p, v = .agg (planC u p).toArray ∧ threadsAt (full W) u p.threads := by
  unfold Value.okWide at hval
  simp only [Tryz.underlying24] at hval
  obtain ⟨arr, rfl, hsz, _⟩ := hval
  obtain ⟨fuel, t⟩ := h
  have t : DataW.trod enc Tryz.prog W 0 (fun _ => true) true fuel 24 arr.toList = some (d, ps) := t
  obtain ⟨hl, hfs⟩ := open_struct Tryz.underlying24 t hw
  have c1 : Tryz.prog.cellsOf 24 = 3 := by kernel_rfl
  have c2 : Tryz.prog.cellsOf 22 = 1 := by kernel_rfl
  have c3 : Tryz.prog.cellsOf 3 = 1 := by kernel_rfl
  have c4 : Tryz.prog.cellsOf 4 = 1 := by kernel_rfl
  obtain ⟨_, _, _, t0, w0⟩ := hfs 0 22 0 1 rfl c2
  obtain ⟨_, _, _, t1, w1⟩ := hfs 1 3 1 1 rfl c3
  obtain ⟨_, _, _, t2, w2⟩ := hfs 2 4 2 1 rfl c4
  obtain ⟨u, p, e0, hp⟩ := open_threads t0 w0
  obtain ⟨x, e1, _⟩ := open_int_cs Tryz.underlying3 t1
  obtain ⟨y, e2⟩ := open_bool_cs Tryz.underlying4 t2
  refine ⟨u, ⟨p, x, y⟩, ?_, hp⟩
  have : arr.toList = planC u ⟨p, x, y⟩ := by
    rw [c1] at hl
    generalize arr.toList = cs at *
    match cs, hl with
    | [a, b, c], _ =>
      simp at e0 e1 e2
      subst e0 e1 e2
      rfl
  rw [← this]
attribute [local irreducible] bnd ldV stV ifV binV eqI
structure MS where
  b : List Int
  ks : List Bool
def MS.new : MS := ⟨[-1, -1, -1, -1], [false, false, false, false, false]⟩
def MS.put (s : MS) (i x : Int) : MS := { s with b := s.b.set i.toNat x }
def msC (s : MS) : List Value := s.b.map i64 ++ s.ks.map Value.bool
def msRow (s : MS) : GObj := .row 49 (msC s) 9 true
structure MS.good (s : MS) : Prop where
  lb : s.b.length = 4
  lk : s.ks.length = 5
  bal : ∀ i, i < 4 → -1 ≤ s.b.getD i 0 ∧ s.b.getD i 0 ≤ 1048575
theorem MS.new_good : MS.new.good := ⟨rfl, rfl, fun i hi => by
  have : ∀ k : Fin 4, -1 ≤ MS.new.b.getD k.val 0 ∧ MS.new.b.getD k.val 0 ≤ 1048575 := by decide
  exact this ⟨i, hi⟩⟩
theorem msC_len {s : MS} (g : s.good) : (msC s).length = 9 := by
  unfold msC; simp only [List.length_append, List.length_map]; rw [g.lb, g.lk]
section
variable {b : Nat} {R : List Part} {h : GH} {K : Value → GH → Prop} {s : MS}
theorem ms_st {i : Nat} {x : Int} {K : GH → Prop} (hp : All (pts b (msRow s) :: R) h) (g : s.good) (hi : i < 4) (k : ∀ h', All (pts b (msRow (s.put i x)) :: R) h' → K h') : bnd (stV 1 (.pointer (some ⟨b, 0 + 0 + i * 1, none⟩)) (i64 x) h) K := by
  have hp : All (pts b (.row 49 (msC s) 9 true) :: R) h := hp
  have lb := g.lb
  have lk := g.lk
  refine st0 hp (msRow (s.put i x)) rfl (by unfold msC; simp only [List.length_append, List.length_map]; omega) rfl ?_ k
  show GObj.row _ ((msC s).set (0 + 0 + i * 1) (i64 x)) 9 true = GObj.row _ (msC (s.put i x)) 9 true
  unfold msC MS.put
  rw [show 0 + 0 + i * 1 = i by omega, List.set_append_left _ _ (by rw [List.length_map]; omega)]
  simp only [Int.toNat_natCast, List.map_set]
theorem ms_agg (hp : All (pts b (msRow s) :: R) h) (g : s.good) : ldV 4 true (.pointer (some ⟨b, 0 + 0, none⟩)) h = some (.agg (s.b.map i64).toArray) := by
  have hp : All (pts b (.row 49 (msC s) 9 true) :: R) h := hp
  have lb := g.lb
  rw [ldV_agg hp.pt0 4 (0 + 0) (by unfold msC; simp only [List.length_append, List.length_map]; omega)]
  unfold msC
  rw [List.drop_zero, List.take_append_of_le_length (by rw [List.length_map]; omega), List.take_of_length_le (by rw [List.length_map]; omega)]
theorem ix_int {n : Nat} {xs : List Int} {i : Nat} (hn : xs.length = n) (hi : i < n) : ixV n 1 false (.agg (xs.map i64).toArray) (i64 i) = some (i64 (xs.getD i 0)) := by
  simp only [ixV]
  rw [if_pos ⟨by omega, by omega⟩]
  simp only [Int.toNat_natCast, Nat.mul_one, List.getElem?_toArray, List.getElem?_map, List.getD_eq_getElem?_getD]
  rw [List.getElem?_eq_getElem (by omega)]; rfl
theorem ms_load (hp : All (pts b (msRow s) :: R) h) (g : s.good) : ldV 9 true (.pointer (some ⟨b, 0, none⟩)) h = some (.agg (msC s).toArray) := by
  have hp : All (pts b (.row 49 (msC s) 9 true) :: R) h := hp
  rw [ldV_agg hp.pt0 9 0 (by rw [msC_len g]; omega), List.drop_zero, List.take_of_length_le (by rw [msC_len g]; omega)]
theorem ms_one (s : MS) : ((Value.agg (msC s).toArray).cells.toList.all oneCell) = true := by
  refine List.all_eq_true.2 fun v hv => ?_
  have hv : v ∈ msC s := hv
  unfold msC at hv
  rcases List.mem_append.1 hv with q | q
  · obtain ⟨y, _, rfl⟩ := List.mem_map.1 q; rfl
  · obtain ⟨y, _, rfl⟩ := List.mem_map.1 q; rfl
theorem ms_store {u : MS} {K : GH → Prop} (hp : All (pts b (msRow u) :: R) h) (gu : u.good) (g : s.good) (k : ∀ h', All (pts b (msRow s) :: R) h' → K h') : bnd (stV 9 (.pointer (some ⟨b, 0, none⟩)) (.agg (msC s).toArray) h) K := by
  have hp : All (pts b (.row 49 (msC u) 9 true) :: R) h := hp
  refine st0 hp (msRow s) (by show (msC s).toArray.size = 9; simp [msC_len g]) (by rw [msC_len gu]; omega) (ms_one s) ?_ k
  show GObj.row _ (setCells (msC u) 0 (msC s)) 9 true = GObj.row _ (msC s) 9 true
  rw [setCells_all (by rw [msC_len g, msC_len gu])]
theorem ms_nwst {K : Value → GH → Prop} (hp : All R h) (g : s.good) (k : ∀ d h', All (pts d (msRow s) :: R) h' → K (ptr d) h') : newV 49 [i64 0, i64 0, i64 0, i64 0, .bool false, .bool false, .bool false, .bool false, .bool false] h fun v h1 => bnd (stV 9 v (.agg (msC s).toArray) h1) fun h2 => K v h2 := by
  refine nwst hp (msRow s) (by show (msC s).toArray.size = 9; simp [msC_len g]) rfl (ms_one s) ?_ k
  rfl
theorem T_modelNew (hp : All R h) (hK : ∀ h', All R h' → K (.agg (msC MS.new).toArray) h') : T Tryz.prog 39 [] h K := by
  apply S39_T
  unfold S39
  refine nw hp (msRow ⟨[0, 0, 0, 0], [false, false, false, false, false]⟩) rfl fun d h1 hp => ?_
  refine nw hp (msRow ⟨[0, 0, 0, 0], [false, false, false, false, false]⟩) rfl fun e h2 hp => ?_
  have g0 : ∀ i, i ≤ 4 → MS.good ⟨List.replicate i (-1) ++ List.replicate (4 - i) 0, [false, false, false, false, false]⟩ := fun i hi => by
    refine ⟨by simp only [List.length_append, List.length_replicate]; omega, rfl, fun j hj => ?_⟩
    rw [List.getD_eq_getElem?_getD]
    cases hg : (List.replicate i (-1 : Int) ++ List.replicate (4 - i) 0)[j]? with
    | none => exact ⟨by decide, by decide⟩
    | some z =>
      rcases List.mem_append.1 (List.mem_of_getElem? hg) with q | q
      · rw [List.eq_of_mem_replicate q]; exact ⟨by decide, by decide⟩
      · rw [List.eq_of_mem_replicate q]; exact ⟨by decide, by decide⟩
  refine Lfp_fam (ι := Nat) (fun i => [ptr d, ptr e, i64 i]) (fun i h' => i ≤ 4 ∧ All (pts e (msRow ⟨List.replicate i (-1) ++ List.replicate (4 - i) 0, [false, false, false, false, false]⟩) :: pts d (msRow ⟨[0, 0, 0, 0], [false, false, false, false, false]⟩) :: R) h') (fun i => 4 - i) ?_ 0 h2 ⟨Nat.zero_le _, hp⟩
  clear hp
  rintro i h3 X ⟨hi, hp⟩ again
  simp only [tup_zero, tup_succ]
  refine wk ?_
  refine ifV_cases (fun c => ?_) fun c => ?_
  · have hi4 : i < 4 := by omega
    refine wk ?_
    refine bnd_of (iaV_at hi4 .i64) ?_
    refine ms_st (x := -1) hp (g0 i hi) hi4 fun h4 hp => ?_
    refine wk ?_
    have e1 : (MS.put ⟨List.replicate i (-1) ++ List.replicate (4 - i) 0, [false, false, false, false, false]⟩ i (-1)) = ⟨List.replicate (i + 1) (-1) ++ List.replicate (4 - (i + 1)) 0, [false, false, false, false, false]⟩ := by
      have : i = 0 ∨ i = 1 ∨ i = 2 ∨ i = 3 := by omega
      rcases this with rfl | rfl | rfl | rfl <;> rfl
    rw [e1] at hp
    exact again (i + 1) _ ⟨by omega, hp⟩ (by omega)
  · obtain rfl : i = 4 := by omega
    have hp : All (pts e (msRow MS.new) :: pts d (msRow ⟨[0, 0, 0, 0], [false, false, false, false, false]⟩) :: R) h3 := hp
    refine bnd_of (ms_load hp MS.new_good) ?_
    refine ms_store (hn (hp.up 1)) (g0 0 (by omega)) MS.new_good fun h4 hp => ?_
    refine bnd_of (ms_load hp MS.new_good) ?_
    exact hK _ hp.tail.tail
theorem T_modelMay (hp : All (pts b (msRow s) :: R) h) (g : s.good) (hK : K (.bool true) h) : T Tryz.prog 48 [ptr b] h K := by
  apply S48_T
  unfold S48
  have lb := g.lb
  refine wk ?_
  refine bnd_of (ms_agg hp g) ?_
  refine Lfp_fam (ι := Nat) (fun i => [.agg (s.b.map i64).toArray, i64 i]) (fun i h' => i ≤ 4 ∧ h' = h) (fun i => 4 - i) ?_ 0 h ⟨Nat.zero_le _, rfl⟩
  rintro i h2 X ⟨hi, rfl⟩ again
  simp only [tup_zero, tup_succ]
  refine wk ?_
  refine ifV_cases (fun c => ?_) fun c => hK
  have hi4 : i < 4 := by omega
  have gb := g.bal i hi4
  refine bnd_of (ix_int lb hi4) ?_
  refine wk ?_
  refine ifV_n (by omega) ?_
  refine wk ?_
  refine ifV_n (by omega) ?_
  refine wk ?_
  exact again (i + 1) _ ⟨by omega, rfl⟩ (by omega)
end
end Go.Proofs.YtcpfkkppfgolaaaGreatDoor
namespace Go.Proofs.YtcpfkkppfgolaaaGreatDoor
open Go GW Go.Proofs
attribute [local irreducible] bnd ldV stV ifV binV eqI
set_option maxRecDepth 20000
def prRow (tv : Value) (att : Int) (pol : Bool) (op nums : Value) (rd : Int) (bad : Bool) : GObj := .row 86 [tv, i64 att, .bool pol, op, nums, i64 rd, .bool bad] 7 true
section
variable {r : Nat} {R : List Part} {h : GH} {K : Value → GH → Prop} {tv op nv : Value} {att rd : Int} {pol : Bool} {ns : List (List Value)}
theorem T_digit {n x : Int} (hp : All (pts r (prRow tv att pol op nv rd false) :: rowP 1 nv (ns ++ [[i64 n]]) :: R) h) (n0 : 0 ≤ n) (n1 : n ≤ 10000000) (x0 : 0 ≤ x) (x1 : x ≤ 9) (r0 : 0 ≤ rd) (r1 : rd < 8)
    (hK : ∀ h', All (pts r (prRow tv att pol op nv (rd + 1) false) :: rowP 1 nv (ns ++ [[i64 (10 * n + x)]]) :: R) h' → K (.tuple #[]) h') : T Tryz.prog 60 [ptr r, i64 x] h K := by
  apply S60_T
  unfold S60
  unfold prRow at hp
  have hln := (hp.up 1).len
  have hl1 : (((ns ++ [[i64 n]]).length : Nat) : Int) - 1 = (ns.length : Int) := by simp
  have hmx := (hp.up 1).row.good.2.2
  obtain ⟨bb, e1, e2, _, est⟩ := (hp.up 1).elt (i := ns.length) (c := [i64 n]) (by simp) .i64
  refine wk ?_
  refine bnd_of hln ?_
  refine wk ?_
  rw [hl1]
  refine wk ?_
  rw [decide_eq_false (by omega : ¬ (8 ≤ rd))]
  refine wk ?_
  unfold S60_j1
  refine wk ?_
  rw [e1]
  refine bnd_of rfl ?_
  refine bnd_of (e2 0 1 _ rfl) ?_
  refine wk ?_
  obtain ⟨h2, hst, hp2⟩ := est 0 1 (i64 (10 * n + x)) rfl (by decide) rfl
  rw [Nat.add_zero] at hst
  refine bnd_of hst ?_
  replace hp := hp2.up 1
  (dsimp only [selL, upL, dnL, List.take_succ_cons, List.take_zero, List.drop_succ_cons, List.drop_zero, List.eraseIdx_cons_succ, List.eraseIdx_cons_zero, List.getElem?_cons_zero, List.getElem?_cons_succ, List.set_cons_zero, List.set_cons_succ, List.nil_append, List.cons_append] at hp)
  refine wk ?_
  refine st0 hp (prRow tv att pol op nv (rd + 1) false) rfl (by simp) rfl rfl fun h3 hp => ?_
  refine hK _ ?_
  have : (ns ++ [[i64 n]]).set ns.length (setCells [i64 n] 0 (i64 (10 * n + x)).cells.toList) = ns ++ [[i64 (10 * n + x)]] := by
    rw [List.set_append_right _ _ (Nat.le_refl _), Nat.sub_self]; rfl
  rw [this] at hp
  exact hp
def partsOf (k : Int) : List Nat := if k = 0 ∨ k = 2 ∨ k = 3 ∨ k = 6 then [1, 3] else if k = 1 ∨ k = 7 ∨ k = 8 then [1] else if k = 4 then [1, 2, 3] else if k = 10 then [1, 2] else []
def ptrsAt (b o : Nat) (js : List Nat) : List (List Value) := js.map fun j => [.pointer (some ⟨b, o + j, none⟩)]
theorem ptrsAt_good (b o : Nat) (js : List Nat) : ∀ c ∈ ptrsAt b o js, good 1 c := by
  intro c hc
  obtain ⟨j, _, rfl⟩ := List.mem_map.1 hc
  exact ⟨rfl, rfl⟩
theorem T_parts {b o : Nat} {k : Int} (k0 : 0 ≤ k) (k1 : k < 11) (hp : All R h) (hk : ldV 1 false (.pointer (some ⟨b, o, none⟩)) h = some (i64 k))
    (hK : ∀ v h', All (rowP 1 v (ptrsAt b o (partsOf k)) :: R) h' → K v h') : T Tryz.prog 62 [.pointer (some ⟨b, o, none⟩)] h K := by
  apply S62_T
  unfold S62
  have two : ∀ {K' : Value → GH → Prop} (n : Nat) (js : List Nat) (cells : List Value) (ps : List (Nat × Nat × Value)), n = js.length → partsOf k = js → fillV cells ps = some (ptrsAt b o js).flatten → (∀ v h', K v h' → K' v h') →
      bsV 146 n cells ps h K' := fun n js cells ps hn hj hf hk' => by
    subst hn
    refine bs0 (size := 1) hp (ptrsAt b o js) hf (by simp [ptrsAt]) ?_ (ptrsAt_good _ _ _) fun v h' hp => hk' _ _ (hK _ _ (by rw [hj]; exact hp))
    rw [← hj]; unfold partsOf ptrsAt; repeat' split
    all_goals simp
  have hk' := hk
  refine bnd_of rfl (bnd_of rfl (bnd_of hk ?_))
  clear hk
  obtain rfl | rfl | rfl | rfl | rfl | rfl | rfl | rfl | rfl | rfl | rfl : k = 0 ∨ k = 1 ∨ k = 2 ∨ k = 3 ∨ k = 4 ∨ k = 5 ∨ k = 6 ∨ k = 7 ∨ k = 8 ∨ k = 9 ∨ k = 10 := by omega
  all_goals refine wk ?_
  all_goals unfold S62_j1
  all_goals refine wk ?_
  all_goals first
    | exact two _ [1, 3] _ _ rfl rfl rfl fun _ _ k => k
    | (unfold S62_j2; refine wk ?_; first | exact two _ [1] _ _ rfl rfl rfl fun _ _ k => k | exact two _ [1, 2] _ _ rfl rfl rfl fun _ _ k => k | exact two _ [1, 2, 3] _ _ rfl rfl rfl fun _ _ k => k | exact hK _ _ (hp.emp_cons (rowP_nil 1 _)))
end
end Go.Proofs.YtcpfkkppfgolaaaGreatDoor
namespace Go.Proofs.YtcpfkkppfgolaaaGreatDoor
open Go GW Go.Proofs
attribute [local irreducible] bnd ldV stV ifV binV eqI
set_option maxRecDepth 20000
section
variable {r : Nat} {R : List Part} {h : GH} {K : Value → GH → Prop} {tv op nv : Value} {rd : Int} {pol : Bool}
theorem ncV_ptr' (a : Addr) : ncV (.pointer (some a)) = some (.pointer (some a)) := rfl
theorem closed_j {wv : Value} {ws : List Addr} {xs : List Int} {att : Nat → Int} {X : Nat → Part} (hl : ws.length = xs.length)
    (hp : All (pts r (prRow tv (att 0) pol op nv rd false) :: rowP 1 nv (xs.map encI) :: rowP 1 wv (ws.map fun w => [.pointer (some w)]) :: X 0 :: R) h)
    (hs : ∀ i h w x, ws[i]? = some w → xs[i]? = some x → All (pts r (prRow tv (att i) pol op nv rd false) :: rowP 1 nv (xs.map encI) :: rowP 1 wv (ws.map fun w => [.pointer (some w)]) :: X i :: R) h →
      ∃ h', stV 1 (.pointer (some w)) (i64 x) h = some h' ∧ All (pts r (prRow tv (att (i + 1)) pol op nv rd false) :: rowP 1 nv (xs.map encI) :: rowP 1 wv (ws.map fun w => [.pointer (some w)]) :: X (i + 1) :: R) h')
    (hK : ∀ h', All (pts r (prRow tv (att xs.length) pol (.pointer none) (.slice none 0 0) 0 false) :: X xs.length :: R) h' → K (.tuple #[]) h') : S33_j1 (ptr r) wv h K := by
  unfold S33_j1
  have hl2 := (hp.up 2).len
  have hl1 := (hp.up 1).len
  have hmx := (hp.up 1).row.good.2.2
  rw [List.length_map] at hl1 hl2 hmx
  refine bnd_of hl2 ?_
  have hp0 := hp
  unfold prRow at hp
  refine wk ?_
  refine bnd_of hl1 ?_
  rw [hl]
  refine wk ?_
  rw [decide_eq_true rfl]
  refine wk ?_
  refine bnd_of hl1 ?_
  refine Lfp_fam (ι := Nat) (fun i => [ptr r, wv, nv, i64 xs.length, i64 i]) (fun i h' => i ≤ xs.length ∧ All (pts r (prRow tv (att i) pol op nv rd false) :: rowP 1 nv (xs.map encI) :: rowP 1 wv (ws.map fun w => [.pointer (some w)]) :: X i :: R) h') (fun i => xs.length - i) ?_ 0 h ⟨Nat.zero_le _, hp0⟩
  intro i h' X' ⟨hi, hp⟩ again
  simp only [tup_zero, tup_succ]
  refine wk ?_
  refine ifV_cases (fun hlt => ?_) (fun hge => ?_)
  · have hlt : i < xs.length := by omega
    obtain ⟨x, hx⟩ : ∃ x, xs[i]? = some x := ⟨_, List.getElem?_eq_getElem hlt⟩
    obtain ⟨w, hw⟩ : ∃ w, ws[i]? = some w := ⟨_, List.getElem?_eq_getElem (by omega)⟩
    obtain ⟨b1, e1, e2, _, _⟩ := (hp.up 1).elt (i := i) (c := encI x) (by rw [List.getElem?_map, hx]; rfl) .i64
    obtain ⟨b2, e3, e4, _, _⟩ := (hp.up 2).elt (i := i) (c := [.pointer (some w)]) (by rw [List.getElem?_map, hw]; rfl) .i64
    refine bnd_of e1 ?_
    refine bnd_of (e2 0 1 _ rfl) ?_
    refine bnd_of e3 ?_
    refine bnd_of (e4 0 1 _ rfl) ?_
    refine bnd_of (ncV_ptr' w) ?_
    obtain ⟨h2, hst, hp2⟩ := hs i h' w x hw hx hp
    refine bnd_of hst ?_
    refine wk ?_
    exact again (i + 1) _ ⟨by omega, hp2⟩ (by omega)
  · have hge : i = xs.length := by omega
    subst hge
    unfold prRow at hp
    refine wk ?_
    refine st0 hp (prRow tv (att xs.length) pol op (.slice none 0 0) rd false) rfl (by simp) rfl rfl fun h3 hp => ?_
    unfold prRow at hp
    refine wk ?_
    refine st0 hp (prRow tv (att xs.length) pol (.pointer none) (.slice none 0 0) rd false) rfl (by simp) rfl rfl fun h3 hp => ?_
    unfold prRow at hp
    refine wk ?_
    refine st0 hp (prRow tv (att xs.length) pol (.pointer none) (.slice none 0 0) 0 false) rfl (by simp) rfl rfl fun h3 hp => ?_
    replace hp := hp.re 4 [0, 3]
    replace hp := hn hp
    exact hK _ hp
theorem T_closedA {att n : Int} (hp : All (pts r (prRow tv att pol (.pointer none) nv rd false) :: rowP 1 nv [[i64 n]] :: R) h)
    (hK : ∀ h', All (pts r (prRow tv n pol (.pointer none) (.slice none 0 0) 0 false) :: R) h' → K (.tuple #[]) h') : T Tryz.prog 33 [ptr r] h K := by
  apply S33_T
  unfold S33
  unfold prRow at hp
  refine wk ?_
  refine bs0 (size := 1) hp [[.pointer (some ⟨r, 1, none⟩)]] rfl rfl (by simp) (by intro c hc; simp at hc; subst hc; exact ⟨rfl, rfl⟩) fun wv h1 hp => ?_
  replace hp := hp.up 1
  replace hp := hn hp
  refine wk ?_
  replace hp := (hp.re 3 [0, 2, 1])
  replace hp := hn hp
  replace hp := ((hp.emp_cons (P := emp) trivial).dn 3)
  replace hp := hn hp
  refine closed_j (tv := tv) (pol := pol) (op := .pointer none) (nv := nv) (rd := rd) (R := R) (ws := [⟨r, 1, none⟩]) (xs := [n]) (att := fun i => if i = 0 then att else n) (X := fun _ => emp) rfl hp ?_ ?_
  · intro i h w x hw hx hp
    match i, hw, hx with
    | 0, hw, hx =>
      cases hw; cases hx
      exact ⟨_, stV_row hp.pt0 1 1 _ rfl (by simp) rfl, hp.upd0⟩
  · intro h' hp
    replace hp := hp.re 2 [0]
    replace hp := hn hp
    exact hK _ hp
def setN (c : List Value) : List Nat → List Int → List Value
  | j :: js, x :: xs => setN (c.set j (i64 x)) js xs
  | _, _ => c
theorem setN_snoc : ∀ (i : Nat) (js : List Nat) (xs : List Int) (c : List Value) (j : Nat) (x : Int), js[i]? = some j → xs[i]? = some x → setN c (js.take (i + 1)) (xs.take (i + 1)) = (setN c (js.take i) (xs.take i)).set j (i64 x) := by
  intro i
  induction i with
  | zero =>
    intro js xs c j x hj hx
    cases js with
    | nil => simp at hj
    | cons j' js =>
      cases xs with
      | nil => simp at hx
      | cons x' xs => simp at hj hx; subst hj; subst hx; simp [setN]
  | succ i ih =>
    intro js xs c j x hj hx
    cases js with
    | nil => simp at hj
    | cons j' js =>
      cases xs with
      | nil => simp at hx
      | cons x' xs =>
        simp at hj hx
        simp only [List.take_succ_cons, setN]
        exact ih js xs _ j x hj hx
theorem T_closedO {att k : Int} {xs : List Int} {ov : Value} {os : List (List Value)} {c : List Value} {b : Nat} (k0 : 0 ≤ k) (k1 : k < 11) (hc : c.length = 4) (hck : c[0]? = some (i64 k)) (hx : xs.length = (partsOf k).length)
    (hi : isV 4 ov (i64 (os.length : Nat)) = some (.pointer (some ⟨b, os.length * 4, none⟩)))
    (hp : All (pts r (prRow tv att pol (.pointer (some ⟨b, os.length * 4, none⟩)) nv rd false) :: rowP 1 nv (xs.map encI) :: rowP 4 ov (os ++ [c]) :: R) h)
    (hK : ∀ h', All (pts r (prRow tv att pol (.pointer none) (.slice none 0 0) 0 false) :: rowP 4 ov (os ++ [setN c (partsOf k) xs]) :: R) h' → K (.tuple #[]) h') : T Tryz.prog 33 [ptr r] h K := by
  apply S33_T
  unfold S33
  have eltP : ∀ {l : List Part} {h : GH} {c : List Value}, All (rowP 4 ov (os ++ [c]) :: l) h → (∀ j n y, c[j]? = some y → ldV n false (.pointer (some ⟨b, os.length * 4 + j, none⟩)) h = some y) ∧
      ∀ (j : Nat) (y : Int), j < 4 → ∃ h', stV 1 (.pointer (some ⟨b, os.length * 4 + j, none⟩)) (i64 y) h = some h' ∧ All (rowP 4 ov (os ++ [c.set j (i64 y)]) :: l) h' := by
    intro l h c hp
    obtain ⟨b', e1, e2, _, est⟩ := hp.elt (i := os.length) (c := c) (by simp) .i64
    rw [show (Value.int .i64 (os.length : Nat)) = i64 (os.length : Nat) from rfl, hi] at e1
    simp only [Option.some.injEq, Value.pointer.injEq, Addr.mk.injEq, and_true] at e1
    subst e1
    refine ⟨e2, fun j y hj => ?_⟩
    obtain ⟨h', h1, h2⟩ := est j 1 (i64 y) rfl (by omega) rfl
    refine ⟨h', h1, ?_⟩
    have : (os ++ [c]).set os.length (setCells c j (i64 y).cells.toList) = os ++ [c.set j (i64 y)] := by
      rw [List.set_append_right _ _ (Nat.le_refl _), Nat.sub_self]; rfl
    rw [this] at h2; exact h2
  unfold prRow at hp
  refine wk ?_
  refine bs0 (size := 1) hp [[.pointer (some ⟨r, 1, none⟩)]] rfl rfl (by simp) (by intro c hc; simp at hc; subst hc; exact ⟨rfl, rfl⟩) fun wv h1 hp => ?_
  replace hp := hp.tail
  refine wk ?_
  refine T_parts k0 k1 hp ((eltP (hp.up 2)).1 0 1 _ hck) fun wv h2 hp => ?_
  replace hp := hp.re 4 [1, 2, 0, 3]
  replace hp := hn hp
  refine closed_j (tv := tv) (pol := pol) (op := .pointer (some ⟨b, os.length * 4, none⟩)) (nv := nv) (rd := rd) (R := R) (ws := (partsOf k).map fun j => ⟨b, os.length * 4 + j, none⟩) (xs := xs) (att := fun _ => att) (X := fun i => rowP 4 ov (os ++ [setN c ((partsOf k).take i) (xs.take i)])) (by simp [hx]) ?_ ?_ ?_
  · have : ptrsAt b (os.length * 4) (partsOf k) = ((partsOf k).map fun j => (⟨b, os.length * 4 + j, none⟩ : Addr)).map fun w => [.pointer (some w)] := by simp [ptrsAt]
    rw [this] at hp
    exact hp
  · intro i h w x hw hx' hp
    rw [List.getElem?_map] at hw
    obtain ⟨j, hj, rfl⟩ := Option.map_eq_some_iff.1 hw
    have hj4 : j < 4 := by
      have := List.mem_of_getElem? hj
      unfold partsOf at this
      repeat' split at this
      all_goals simp at this
      all_goals omega
    replace hp := hp.up 3
    replace hp := hn hp
    obtain ⟨h', h1, h2⟩ := (eltP hp).2 j x hj4
    refine ⟨h', h1, ?_⟩
    rw [← setN_snoc i _ _ _ _ _ hj hx'] at h2
    exact h2.dn 3
  · intro h' hp
    simp only [hx, List.take_length] at hp
    rw [← hx, List.take_length] at hp
    exact hK _ hp
end
end Go.Proofs.YtcpfkkppfgolaaaGreatDoor
namespace Go.Proofs.YtcpfkkppfgolaaaGreatDoor
open Go GW Go.Proofs
attribute [local irreducible] bnd ldV stV ifV binV eqI
set_option maxRecDepth 20000
theorem All.last {size : Nat} {v : Value} {cs : List (List Value)} {c : List Value} {l : List Part} {h : GH} (hp : All (rowP size v (cs ++ [c]) :: l) h) :
    ∃ b, isV size v (.int .i64 (cs.length : Nat)) = some (.pointer (some ⟨b, cs.length * size, none⟩)) ∧ ∀ (l : List Part) (h : GH) (c : List Value), All (rowP size v (cs ++ [c]) :: l) h →
      (∀ j n y, c[j]? = some y → ldV n false (.pointer (some ⟨b, cs.length * size + j, none⟩)) h = some y) ∧
      ∀ (j : Nat) (y : Value), oneCell y = true → y.cells = #[y] → j < size → ∃ h', stV 1 (.pointer (some ⟨b, cs.length * size + j, none⟩)) y h = some h' ∧ All (rowP size v (cs ++ [c.set j y]) :: l) h' := by
  obtain ⟨b, e1, _⟩ := hp.elt (i := cs.length) (c := c) (by simp) .i64
  refine ⟨b, e1, fun l h c hp => ?_⟩
  obtain ⟨b', e2, e3, _, est⟩ := hp.elt (i := cs.length) (c := c) (by simp) .i64
  rw [e1] at e2
  simp only [Option.some.injEq, Value.pointer.injEq, Addr.mk.injEq, and_true] at e2
  subst e2
  refine ⟨e3, fun j y h1 h2 hj => ?_⟩
  obtain ⟨h', s1, s2⟩ := est j 1 y (by rw [h2]; rfl) (by omega) (by rw [h2]; simp [h1])
  refine ⟨h', s1, ?_⟩
  have : (cs ++ [c]).set cs.length (setCells c j y.cells.toList) = cs ++ [c.set j y] := by
    rw [List.set_append_right _ _ (Nat.le_refl _), Nat.sub_self, h2]; rfl
  rw [this] at s2; exact s2
theorem rowP.one {size : Nat} {v : Value} {cs : List (List Value)} {h : GH} (o : rowP size v cs h) : oneCell v = true ∧ v.cells = #[v] ∧ Go.Proofs.YtcpfkkppfgolaaaGreatDoor.good 1 [v] := by
  obtain ⟨a, cap, junk, rfl, _⟩ := o
  exact ⟨rfl, rfl, rfl, rfl⟩
def newOp (k : Int) : List Value := [i64 k, i64 0, i64 0, i64 0]
section
variable {r : Nat} {R : List Part} {h : GH} {K : Value → GH → Prop} {tv op nv : Value} {att rd : Int} {pol : Bool}
theorem begin_j2 {k : Int} {ths txs os : List (List Value)} {thv ov : Value} {bt : Nat} (k0 : 0 ≤ k) (k1 : k < 11) (hb : os.length ≤ 100)
    (hp : All (pts r (prRow tv att pol op (.slice none 0 0) rd false) :: rowP 1 tv (ths ++ [[thv]]) :: rowP 1 thv (txs ++ [[ov]]) :: rowP 4 ov os :: R) h)
    (hpt : isV 1 tv (i64 (ths.length : Nat)) = some (.pointer (some ⟨bt, ths.length * 1, none⟩)))
    (hK : ∀ ov' b nv' h', isV 4 ov' (i64 (os.length : Nat)) = some (.pointer (some ⟨b, os.length * 4, none⟩)) →
      All (pts r (prRow tv att pol (.pointer (some ⟨b, os.length * 4, none⟩)) nv' rd false) :: rowP 1 nv' (if partsOf k = [] then [] else [[i64 0]]) :: rowP 1 tv (ths ++ [[thv]]) :: rowP 1 thv (txs ++ [[ov']]) :: rowP 4 ov' (os ++ [newOp k]) :: R) h' → K (.tuple #[]) h') :
    S61_j2 (ptr r) (i64 k) (.pointer (some ⟨bt, ths.length * 1, none⟩)) h K := by
  unfold S61_j2
  obtain ⟨bt', f1, f2⟩ := (hp.up 1).last
  rw [show (Value.int .i64 (ths.length : Nat)) = i64 (ths.length : Nat) from rfl, hpt] at f1
  simp only [Option.some.injEq, Value.pointer.injEq, Addr.mk.injEq, and_true] at f1
  subst f1
  obtain ⟨bx, g1, g2⟩ := (hp.up 2).last
  have hlx := (hp.up 2).len
  have hl1 : (((txs ++ [[ov]]).length : Nat) : Int) - 1 = (txs.length : Int) := by simp
  have hmx := (hp.up 2).row.good.2.2
  refine wk ?_
  refine bnd_of ((f2 _ _ _ (hp.up 1)).1 0 1 _ rfl) ?_
  refine wk ?_
  refine bnd_of ((f2 _ _ _ (hp.up 1)).1 0 1 _ rfl) ?_
  refine bnd_of hlx ?_
  refine wk ?_
  rw [hl1]
  refine bnd_of g1 ?_
  refine wk ?_
  refine bnd_of ((g2 _ _ _ (hp.up 2)).1 0 1 _ rfl) ?_
  refine bnd_of (v := newOp k) rfl ?_
  refine bs0 (size := 4) hp [newOp k] rfl rfl (by simp) (by intro c hc; simp at hc; subst hc; exact ⟨rfl, rfl⟩) fun v1 h1 hp => ?_
  replace hp := hp.up 4
  replace hp := hn hp
  refine ap0 hp (hp.up 1).rows (by intro c hc; simp at hc; subst hc; exact ⟨rfl, rfl⟩) (by decide) (by simp; omega) fun ov' h2 hp => ?_
  replace hp := hp.re 5 [2, 3, 4, 0]
  replace hp := hn hp
  have hov := (hp.up 3).row.one
  refine wk ?_
  obtain ⟨h3, s1, s2⟩ := (g2 _ _ _ (hp.up 2)).2 0 ov' hov.1 hov.2.1 (by decide)
  refine bnd_of s1 ?_
  replace hp := s2.dn 2
  replace hp := hn hp
  refine wk ?_
  refine bnd_of ((g2 _ _ _ (hp.up 2)).1 0 1 _ rfl) ?_
  refine wk ?_
  refine bnd_of ((g2 _ _ _ (hp.up 2)).1 0 1 _ rfl) ?_
  refine bnd_of (hp.up 3).len ?_
  have hl2 : (((os ++ [newOp k]).length : Nat) : Int) - 1 = (os.length : Int) := by simp
  have hmx2 := (hp.up 3).row.good.2.2
  refine wk ?_
  rw [hl2]
  obtain ⟨bo, o1, o2⟩ := (hp.up 3).last
  refine bnd_of o1 ?_
  unfold prRow at hp
  refine wk ?_
  refine st0 hp (prRow tv att pol (.pointer (some ⟨bo, os.length * 4, none⟩)) (.slice none 0 0) rd false) rfl (by simp) rfl rfl fun h4 hp => ?_
  unfold prRow at hp
  refine wk ?_
  refine T_parts k0 k1 hp ((o2 _ _ _ (hp.up 3)).1 0 1 _ rfl) fun wv h5 hp => ?_
  refine bnd_of hp.len ?_
  replace hp := hp.tail
  have hlp : (ptrsAt bo (os.length * 4) (partsOf k)).length = (partsOf k).length := by simp [ptrsAt]
  rw [hlp]
  refine wk ?_
  refine ifV_cases (fun hlt => ?_) (fun hge => ?_)
  · refine bs0 (size := 1) hp [[i64 0]] rfl rfl (by simp) (by intro c hc; simp at hc; subst hc; exact ⟨rfl, rfl⟩) fun nv' h6 hp => ?_
    replace hp := hp.up 1
    replace hp := hn hp
    refine wk ?_
    refine st0 hp (prRow tv att pol (.pointer (some ⟨bo, os.length * 4, none⟩)) nv' rd false) (by rw [(hp.up 1).row.one.2.1]; rfl) (by simp) (by rw [(hp.up 1).row.one.2.1]; simp [(hp.up 1).row.one.1]) (by rw [(hp.up 1).row.one.2.1]; rfl) fun h7 hp => ?_
    refine hK ov' bo nv' _ o1 ?_
    rw [if_neg (by intro q; rw [q] at hlt; simp at hlt)]
    exact hp
  · refine hK ov' bo (.slice none 0 0) _ o1 ?_
    have : partsOf k = [] := by cases e : partsOf k with | nil => rfl | cons a l => rw [e] at hge; simp at hge
    rw [if_pos this]
    exact (hp.emp_cons (rowP_nil 1 _)).dn 1
theorem T_beginN {k : Int} {ths txs : List (List Value)} {thv : Value} (k0 : 0 ≤ k) (k1 : k < 11) (hb : txs.length ≤ 100)
    (hp : All (pts r (prRow tv att pol op (.slice none 0 0) rd false) :: rowP 1 tv (ths ++ [[thv]]) :: rowP 1 thv txs :: R) h)
    (hK : ∀ thv' ov' b nv' h', isV 4 ov' (i64 (0 : Nat)) = some (.pointer (some ⟨b, 0, none⟩)) →
      All (pts r (prRow tv att pol (.pointer (some ⟨b, 0, none⟩)) nv' rd false) :: rowP 1 nv' (if partsOf k = [] then [] else [[i64 0]]) :: rowP 1 tv (ths ++ [[thv']]) :: rowP 1 thv' (txs ++ [[ov']]) :: rowP 4 ov' [newOp k] :: R) h' → K (.tuple #[]) h') :
    T Tryz.prog 61 [ptr r, i64 k, .bool true] h K := by
  apply S61_T
  unfold S61
  have hl0 := (hp.up 1).len
  have hl1 : (((ths ++ [[thv]]).length : Nat) : Int) - 1 = (ths.length : Int) := by simp
  have hmx := (hp.up 1).row.good.2.2
  have hp0 := hp
  unfold prRow at hp
  refine wk ?_
  refine bnd_of hl0 ?_
  refine wk ?_
  rw [hl1]
  refine wk ?_
  unfold S61_j1
  refine wk ?_
  obtain ⟨bt, f1, f2⟩ := (hp.up 1).last
  refine bnd_of f1 ?_
  refine wk ?_
  refine bnd_of ((f2 _ _ _ (hp.up 1)).1 0 1 _ rfl) ?_
  refine bnd_of (v := [.slice none 0 0]) rfl ?_
  refine bs0 (size := 1) hp [[.slice none 0 0]] rfl rfl (by simp) (by intro c hc; simp at hc; subst hc; exact ⟨rfl, rfl⟩) fun v1 h1 hp => ?_
  replace hp := hp.up 3
  replace hp := hn hp
  refine ap0 hp (hp.up 1).rows (by intro c hc; simp at hc; subst hc; exact ⟨rfl, rfl⟩) (by decide) (by simp; omega) fun thv' h2 hp => ?_
  replace hp := hp.re 4 [2, 3, 0]
  replace hp := hn hp
  have hov := (hp.up 2).row.one
  refine wk ?_
  obtain ⟨h3, s1, s2⟩ := (f2 _ _ _ (hp.up 1)).2 0 thv' hov.1 hov.2.1 (by decide)
  refine bnd_of s1 ?_
  replace hp := s2.dn 1
  replace hp := hn hp
  replace hp := (hp.emp_cons (rowP_nil 4 _)).dn 3
  replace hp := hn hp
  refine begin_j2 (os := []) k0 k1 (by simp) hp f1 fun ov' b nv' h' e1 hp => ?_
  exact hK thv' ov' b nv' h' (by simpa using e1) (by simpa using hp)
theorem T_beginM {k : Int} {ths txs os : List (List Value)} {thv ov : Value} (k0 : 0 ≤ k) (k1 : k < 11) (hb : os.length ≤ 100)
    (hp : All (pts r (prRow tv att pol op (.slice none 0 0) rd false) :: rowP 1 tv (ths ++ [[thv]]) :: rowP 1 thv (txs ++ [[ov]]) :: rowP 4 ov os :: R) h)
    (hK : ∀ ov' b nv' h', isV 4 ov' (i64 (os.length : Nat)) = some (.pointer (some ⟨b, os.length * 4, none⟩)) →
      All (pts r (prRow tv att pol (.pointer (some ⟨b, os.length * 4, none⟩)) nv' rd false) :: rowP 1 nv' (if partsOf k = [] then [] else [[i64 0]]) :: rowP 1 tv (ths ++ [[thv]]) :: rowP 1 thv (txs ++ [[ov']]) :: rowP 4 ov' (os ++ [newOp k]) :: R) h' → K (.tuple #[]) h') :
    T Tryz.prog 61 [ptr r, i64 k, .bool false] h K := by
  apply S61_T
  unfold S61
  have hl0 := (hp.up 1).len
  have hl1 : (((ths ++ [[thv]]).length : Nat) : Int) - 1 = (ths.length : Int) := by simp
  have hmx := (hp.up 1).row.good.2.2
  have hp0 := hp
  unfold prRow at hp
  obtain ⟨bt, f1, f2⟩ := (hp.up 1).last
  refine wk ?_
  refine bnd_of hl0 ?_
  refine wk ?_
  rw [hl1]
  refine wk ?_
  refine bnd_of f1 ?_
  refine bnd_of ((f2 _ _ _ (hp.up 1)).1 0 1 _ rfl) ?_
  refine bnd_of (hp.up 2).len ?_
  refine wk ?_
  rw [decide_eq_false (by simp; omega)]
  refine wk ?_
  unfold S61_j1
  refine wk ?_
  refine bnd_of f1 ?_
  refine wk ?_
  exact begin_j2 k0 k1 hb hp0 f1 hK
end
end Go.Proofs.YtcpfkkppfgolaaaGreatDoor
namespace Go.Proofs.YtcpfkkppfgolaaaGreatDoor
open Go GW Go.Proofs
set_option maxRecDepth 20000
theorem lies_self {T cnt n : Nat} (hs : Tryz.prog.cellsOf T ≠ 0) (hn : n ≤ cnt) : liesAt Tryz.prog Tryz.prog.depth T cnt 0 T n = true := by
  have hd : (Tryz.prog.depth == 0) = false := by kernel_rfl
  cases e : Tryz.prog.depth with
  | zero => rw [e] at hd; cases hd
  | succ d =>
    have hd2 : ∀ t, sameLayout Tryz.prog (d + 1) t t = true := fun t => by unfold sameLayout; rw [beq_self_eq_true]; rfl
    unfold liesAt
    unfold rowAt
    rw [e]
    simp only [hs, if_false, Nat.zero_div, Nat.zero_mod, hd2]
    simp [hn]
def byteV (c : UInt8) : Value := .int .u8 c.toNat
def byP (v : Value) (cs : List UInt8) : Part := fun h =>
  ∃ a cap junk, v = .slice a cs.length cap ∧ cs.length ≤ cap ∧ cs.length ≤ 100000 ∧
    ((a = none ∧ cs = [] ∧ cap = 0) ∨ ∃ b, a = some ⟨b, 0, none⟩ ∧ h b = some (.row 5 (cs.map byteV ++ junk) cap true) ∧ junk.all oneCell = true)
theorem byP.le {v : Value} {cs : List UInt8} {h h' : GH} (l : HLe h h') (o : byP v cs h) : byP v cs h' := by
  obtain ⟨a, cap, junk, h1, h2, h3, h5⟩ := o
  exact ⟨a, cap, junk, h1, h2, h3, h5.imp id fun ⟨b, e, hb, hj⟩ => ⟨b, e, l _ _ hb, hj⟩⟩
theorem byP_nil (h : GH) : byP (.slice none 0 0) [] h := ⟨none, 0, [], rfl, Nat.le_refl _, by decide, .inl ⟨rfl, rfl, rfl⟩⟩
theorem byP.one {v : Value} {cs : List UInt8} {h : GH} (o : byP v cs h) : oneCell v = true ∧ v.cells = #[v] ∧ lnV v = some (i64 (cs.length : Nat)) ∧ cs.length ≤ 100000 := by
  obtain ⟨a, cap, junk, rfl, _, h3, _⟩ := o
  exact ⟨rfl, rfl, rfl, h3⟩
section
variable {h : GH} {v : Value} {cs : List UInt8} {l R : List Part} {K : Value → GH → Prop}
theorem All.byp (a : All (byP v cs :: l) h) : byP v cs h := by
  obtain ⟨h1', h2, _, l1, _, p, _⟩ := a
  exact p.le l1
theorem byteV_all (cs : List UInt8) : (cs.map byteV).all oneCell = true := by rw [List.all_eq_true]; intro x hx; obtain ⟨c, _, rfl⟩ := List.mem_map.1 hx; rfl
theorem by_put {new : List UInt8} (a : All (byP v cs :: l) h) (hb : cs.length + new.length ≤ 100000)
    {base : Option Addr} {sl sc : Nat} (hv : v = .slice base sl sc) :
    sl = cs.length ∧ cellsAt 1 sl (.slice base sl sc) h = some (cs.map byteV) ∧
    (sl + new.length ≤ sc → ∃ h', putV base (sl * 1) (new.map byteV) h = some h' ∧ All (byP (.slice base (sl + new.length) sc) (cs ++ new) :: l) h') ∧
    (∀ b nc, h b = none → sl + new.length ≤ nc → All (byP (.slice (some ⟨b, 0, none⟩) (sl + new.length) nc) (cs ++ new) :: l) (upd h b (.row 5 (cs.map byteV ++ new.map byteV) (nc * 1) true))) := by
  have o := a.byp
  obtain ⟨h1, h2, d, l1, l2, ⟨ad, cap, junk, e0, c2, c3, c5⟩, q⟩ := a
  subst hv
  simp only [Value.slice.injEq] at e0
  obtain ⟨rfl, rfl, rfl⟩ := e0
  refine ⟨rfl, ?_, fun hle => ?_, fun b nc hb' hnc => ?_⟩
  · rcases c5 with ⟨rfl, rfl, rfl⟩ | ⟨b, rfl, e, hj⟩
    · rfl
    · have e0 := l1 _ _ e
      unfold cellsAt
      by_cases hz : cs.length = 0
      · have : cs = [] := List.length_eq_zero_iff.1 hz
        subst this; rfl
      · have hz' : Nat.beq (cs.length * 1) 0 = false := by
          cases hq : Nat.beq (cs.length * 1) 0 with
          | false => rfl
          | true => have := Nat.eq_of_beq_eq_true hq; omega
        have hl : Nat.ble (0 + cs.length * 1) (cs.map byteV ++ junk).length = true := Nat.ble_eq_true_of_le (by simp)
        simp only [hz', e0, hl, List.drop_zero]
        rw [Nat.mul_one, List.take_left' (by simp)]
  · by_cases hz : new = []
    · subst hz
      refine ⟨h, rfl, h1, h2, d, l1, l2, ⟨base, sc, junk, by simp, by simpa using hle, by simpa using c3, by simpa using c5⟩, q⟩
    · rcases c5 with ⟨rfl, rfl, rfl⟩ | ⟨b, rfl, e, hj⟩
      · exfalso; cases new with
        | nil => exact hz rfl
        | cons c l => simp at hle
      · have e0 := l1 _ _ e
        have hput : putV (some ⟨b, 0, none⟩) (cs.length * 1) (new.map byteV) h = some (upd h b (.row 5 (cs.map byteV ++ new.map byteV ++ junk.drop new.length) sc true)) := by
          have k1 : Nat.ble (0 + cs.length * 1) (cs.map byteV ++ junk).length = true := Nat.ble_eq_true_of_le (by simp)
          have k2 : Nat.ble (0 + cs.length * 1 + (new.map byteV).length) sc = true := Nat.ble_eq_true_of_le (by simpa using hle)
          have k3 : putL (cs.map byteV ++ junk) (0 + cs.length * 1) (new.map byteV) = cs.map byteV ++ new.map byteV ++ junk.drop new.length := by
            unfold putL
            have hl : cs.length = (cs.map byteV).length := by simp
            rw [Nat.zero_add, Nat.mul_one, List.take_left' hl.symm, ← List.drop_drop, List.drop_left' hl.symm, List.length_map]
          unfold putV
          split
          · rename_i q; simp at q; exact absurd q hz
          · simp only [e0, k1, k2, byteV_all, Bool.and_self, k3]
        refine ⟨_, hput, ?_⟩
        have hn2 := d.left e
        refine ⟨GW.upd (fun _ => none) b (.row 5 (cs.map byteV ++ new.map byteV ++ junk.drop new.length) sc true), h2, fun k => ?_, ?_, ?_, ⟨_, sc, junk.drop new.length, by simp, by simpa using hle, by simpa using hb, .inr ⟨b, rfl, by rw [List.map_append]; exact upd_same _ _ _, ?_⟩⟩, q⟩
        · by_cases e : k = b
          · subst e; exact .inr hn2
          · left; rw [upd_ne e]
        · intro k g e
          by_cases e' : k = b
          · subst e'; rw [upd_same] at e ⊢; exact e
          · rw [upd_ne e'] at e; cases e
        · intro k g e
          rw [upd_ne (ne_of_fresh hn2 e)]; exact l2 _ _ e
        · rw [List.all_eq_true] at hj ⊢
          exact fun x hx => hj x (List.mem_of_mem_drop hx)
  · have t : All (pts b (.row 5 (cs.map byteV ++ new.map byteV) (nc * 1) true) :: l) (upd h b (.row 5 (cs.map byteV ++ new.map byteV) (nc * 1) true)) := All.new (All.le l2 q) hb'
    exact t.head fun h1 p => ⟨_, nc, [], by simp, by simpa using hnc, by simpa using hb, .inr ⟨b, rfl, by rw [List.map_append, List.append_nil]; rw [Nat.mul_one] at p; exact p, rfl⟩⟩
theorem flat_bytes (new : List UInt8) : (new.map fun c => [byteV c]).flatten = new.map byteV := by
  induction new with
  | nil => rfl
  | cons c l ih => rw [List.map_cons, List.flatten_cons, ih]; rfl
theorem by_ap {x : Value} {new : List UInt8} (a : All (byP v cs :: l) h) (r : rowsAt h 1 x (new.map fun c => [byteV c])) (hb : cs.length + new.length ≤ 100000)
    (k : ∀ v' h', All (byP v' (cs ++ new) :: l) h' → K v' h') : apV 5 1 1 v x h K := by
  have o := a.byp
  obtain ⟨ad, cap, junk, e0, _, h3, _⟩ := o
  have hcells := r.cells fun c hc => by obtain ⟨z, _, rfl⟩ := List.mem_map.1 hc; rfl
  obtain ⟨xa, n, xc, rfl, hn, _, _, _⟩ := r
  rw [List.length_map] at hn
  subst hn
  obtain ⟨g1, g2, g3, g4⟩ := by_put (new := new) a hb e0
  subst e0
  have hfl := flat_bytes new
  rw [List.length_map] at hcells
  unfold apV
  simp only [hcells, bnd_some, hfl]
  split
  · rename_i hle
    obtain ⟨h', p1, p2⟩ := g3 hle
    rw [p1]
    exact k _ _ p2
  · rename_i hle
    rw [g2]
    refine ⟨by omega, by omega, by simp, by simp, fun b nc hb' hnc => k _ _ (g4 b nc hb' hnc)⟩
theorem by_aps {st : List UInt8} (a : All (byP v cs :: l) h) (hb : cs.length + st.length ≤ 100000)
    (k : ∀ v' h', All (byP v' (cs ++ st) :: l) h' → K v' h') : apS 5 1 v (.string ⟨st.toArray⟩) h K := by
  have o := a.byp
  obtain ⟨ad, cap, junk, e0, _, h3, _⟩ := o
  obtain ⟨g1, g2, g3, g4⟩ := by_put (new := st) a hb e0
  subst e0
  have hsz : (ByteArray.mk st.toArray).size = st.length := rfl
  have hst : strC ⟨st.toArray⟩ = st.map byteV := rfl
  unfold apS
  simp only [hsz, hst]
  split
  · rename_i hle
    obtain ⟨h', p1, p2⟩ := g3 hle
    rw [p1]
    exact k _ _ p2
  · rename_i hle
    rw [g2]
    refine ⟨by omega, by omega, by simp, fun b nc hb' hnc => k _ _ (g4 b nc hb' hnc)⟩
end
attribute [local irreducible] bnd ldV stV ifV binV eqI
def bdRow (ad bv : Value) : GObj := .row 152 [ad, bv] 2 true
theorem ext_same (x : Value) : Ext Tryz.prog 108 [x] x :=
  ⟨Tryz.f108, Extern.AbiNoEscape.same, by kernel_rfl, by kernel_rfl, by kernel_rfl, by kernel_rfl, by kernel_rfl, fun w => rfl⟩
section
variable {b : Nat} {h : GH} {K : Value → GH → Prop} {ad bv : Value} {cs : List UInt8} {R : List Part}
theorem T_copyCheck (hp : All (pts b (bdRow ad bv) :: R) h) (ha : ad = .pointer none ∨ ad = ptr b)
    (hK : ∀ h', All (pts b (bdRow (ptr b) bv) :: R) h' → K (.tuple #[]) h') : T Tryz.prog 90 [ptr b] h K := by
  apply S90_T
  unfold S90
  unfold bdRow at hp
  rcases ha with rfl | rfl
  · refine wk ?_
    have e0 := hp.pt0
    refine bnd_of (v := ptr b) (by simp only [cuV, e0]) ?_
    refine ⟨ptr b, ext_same _, ?_⟩
    refine bnd_of (v := ptr b) (by simp only [ucV, e0]; rw [lies_self (by decide +kernel) (by decide +kernel)]) ?_
    refine wk ?_
    refine st0 hp (bdRow (ptr b) bv) rfl (by simp) rfl rfl fun h1 hp => ?_
    exact hK _ hp
  · refine wk ?_
    refine bnd_of (v := true) (by simp [eqA]) ?_
    refine wk ?_
    exact hK _ hp
theorem T_WriteByte {c : UInt8} (hp : All (pts b (bdRow ad bv) :: byP bv cs :: R) h) (ha : ad = .pointer none ∨ ad = ptr b) (hl : cs.length + 1 ≤ 100000)
    (hK : ∀ bv' h', All (pts b (bdRow (ptr b) bv') :: byP bv' (cs ++ [c]) :: R) h' → K .nilIface h') : T Tryz.prog 93 [ptr b, byteV c] h K := by
  apply S93_T
  unfold S93
  refine T_copyCheck hp ha fun h1 hp => ?_
  unfold bdRow at hp
  refine wk ?_
  refine bs0 (size := 1) hp [[byteV c]] rfl rfl (by simp) (by intro c hc; simp at hc; subst hc; exact ⟨rfl, rfl⟩) fun v1 h2 hp => ?_
  replace hp := hp.up 2
  replace hp := Go.Proofs.YtcpfkkppfgolaaaGreatDoor.hn hp
  refine by_ap (new := [c]) hp (hp.up 1).rows (by simpa using hl) fun bv' h3 hp => ?_
  replace hp := hp.re 3 [2, 0]
  replace hp := Go.Proofs.YtcpfkkppfgolaaaGreatDoor.hn hp
  have ho := (hp.up 1).byp.one
  refine wk ?_
  refine st0 hp (bdRow (ptr b) bv') (by rw [ho.2.1]; rfl) (by simp) (by rw [ho.2.1]; simp [ho.1]) (by rw [ho.2.1]; rfl) fun h4 hp => ?_
  exact hK _ _ hp
theorem T_AppendRune {c : Nat} (hp : All (byP bv cs :: R) h) (hc : c < 128) (hl : cs.length + 1 ≤ 100000)
    (hK : ∀ bv' h', All (byP bv' (cs ++ [c.toUInt8]) :: R) h' → K bv' h') : T Tryz.prog 91 [bv, .int .i32 c] h K := by
  apply S91_T
  unfold S91
  have e1 : cvV .u32 (.int .i32 c) = some (.int .u32 c) := by
    simp only [cvV]
    have : IntKind.u32.wrap (c : Int) = c := by simp only [IntKind.wrap, IntKind.signed, IntKind.bits]; simp; omega
    rw [this]
  have e2 : cvV .u8 (.int .i32 c) = some (byteV c.toUInt8) := by
    simp only [cvV, byteV]
    have : IntKind.u8.wrap (c : Int) = ((c.toUInt8.toNat : Nat) : Int) := by
      have : c.toUInt8.toNat = c := by simp; omega
      rw [this]
      simp only [IntKind.wrap, IntKind.signed, IntKind.bits]; simp; omega
    rw [this]
  refine bnd_of e1 ?_
  refine bnd_of (v := .bool true) (by simp [binV]; omega) ?_
  refine ifV_t rfl ?_
  refine bnd_of e2 ?_
  refine bs0 (size := 1) hp [[byteV c.toUInt8]] rfl rfl (by simp) (by intro c hc; simp at hc; subst hc; exact ⟨rfl, rfl⟩) fun v1 h2 hp => ?_
  replace hp := hp.up 1
  replace hp := Go.Proofs.YtcpfkkppfgolaaaGreatDoor.hn hp
  refine by_ap (new := [c.toUInt8]) hp (hp.up 1).rows (by simpa using hl) fun bv' h3 hp => ?_
  replace hp := hp.re 2 [0]
  replace hp := Go.Proofs.YtcpfkkppfgolaaaGreatDoor.hn hp
  exact hK _ _ hp
theorem T_WriteRune {c : Nat} (hp : All (pts b (bdRow ad bv) :: byP bv cs :: R) h) (ha : ad = .pointer none ∨ ad = ptr b) (hc : c < 128) (hl : cs.length + 1 ≤ 100000)
    (hK : ∀ v bv' h', All (pts b (bdRow (ptr b) bv') :: byP bv' (cs ++ [c.toUInt8]) :: R) h' → K v h') : T Tryz.prog 63 [ptr b, .int .i32 c] h K := by
  apply S63_T
  unfold S63
  refine T_copyCheck hp ha fun h1 hp => ?_
  unfold bdRow at hp
  have hln := (hp.up 1).byp.one.2.2.1
  refine wk ?_
  refine bnd_of hln ?_
  refine wk ?_
  replace hp := hp.up 1
  replace hp := Go.Proofs.YtcpfkkppfgolaaaGreatDoor.hn hp
  refine T_AppendRune hp hc hl fun bv' h3 hp => ?_
  replace hp := hp.up 1
  replace hp := Go.Proofs.YtcpfkkppfgolaaaGreatDoor.hn hp
  have ho := (hp.up 1).byp.one
  refine wk ?_
  refine st0 hp (bdRow (ptr b) bv') (by rw [ho.2.1]; rfl) (by simp) (by rw [ho.2.1]; simp [ho.1]) (by rw [ho.2.1]; rfl) fun h4 hp => ?_
  unfold bdRow at hp
  refine wk ?_
  refine bnd_of ho.2.2.1 ?_
  have h5 := ho.2.2.2
  refine wk ?_
  exact hK _ _ _ hp
theorem T_WriteString {st : List UInt8} (hp : All (pts b (bdRow ad bv) :: byP bv cs :: R) h) (ha : ad = .pointer none ∨ ad = ptr b) (hl : cs.length + st.length ≤ 100000)
    (hK : ∀ v bv' h', All (pts b (bdRow (ptr b) bv') :: byP bv' (cs ++ st) :: R) h' → K v h') : T Tryz.prog 64 [ptr b, .string ⟨st.toArray⟩] h K := by
  apply S64_T
  unfold S64
  refine T_copyCheck hp ha fun h1 hp => ?_
  unfold bdRow at hp
  refine wk ?_
  replace hp := hp.up 1
  replace hp := Go.Proofs.YtcpfkkppfgolaaaGreatDoor.hn hp
  refine by_aps hp hl fun bv' h3 hp => ?_
  replace hp := hp.up 1
  replace hp := Go.Proofs.YtcpfkkppfgolaaaGreatDoor.hn hp
  have ho := (hp.up 1).byp.one
  refine wk ?_
  refine st0 hp (bdRow (ptr b) bv') (by rw [ho.2.1]; rfl) (by simp) (by rw [ho.2.1]; simp [ho.1]) (by rw [ho.2.1]; rfl) fun h4 hp => ?_
  refine bnd_of (v := i64 (st.length : Nat)) rfl ?_
  exact hK _ _ _ hp
theorem bytesL_map (cs : List UInt8) : bytesL (cs.map byteV) = some cs := by
  induction cs with
  | nil => rfl
  | cons c l ih =>
    simp only [List.map_cons, byteV, bytesL]
    rw [ih]
    simp
theorem T_bdString (hp : All (pts b (bdRow ad bv) :: byP bv cs :: R) h) (hne : cs ≠ [])
    (hK : ∀ h', All (pts b (bdRow ad bv) :: R) h' → K (.string ⟨cs.toArray⟩) h') : T Tryz.prog 67 [ptr b] h K := by
  apply S67_T
  unfold S67
  have hp0 := hp
  unfold bdRow at hp
  refine wk ?_
  refine bnd_of (hp.up 1).byp.one.2.2.1 ?_
  replace hp0 := hp0.up 1
  replace hp := Go.Proofs.YtcpfkkppfgolaaaGreatDoor.hn hp
  have hlen := hp0.byp.one.2.2.2
  obtain ⟨h1, h2, d, l1, l2, ⟨ax, cap, junk, e0, c2, c3, c5⟩, q⟩ := hp0
  subst e0
  rcases c5 with ⟨_, rfl, _⟩ | ⟨bb, rfl, e, hj⟩
  · exact absurd rfl hne
  have hpos : 0 < cs.length := by cases cs with | nil => exact absurd rfl hne | cons c l => simp
  have hcap : Nat.beq cap 0 = false := by
    cases hq : Nat.beq cap 0 with
    | false => rfl
    | true => have := Nat.eq_of_beq_eq_true hq; omega
  refine bnd_of (v := .pointer (some ⟨bb, 0, none⟩)) (by simp only [usdV, hcap]) ?_
  have hl : ldV 1 false (.pointer (some ⟨b, 1, none⟩)) h = some (.slice (some ⟨bb, 0, none⟩) cs.length cap) := by rw [ldV_cell hp.pt0]; rfl
  refine ⟨hl, ?_⟩
  have e' := l1 _ _ e
  have hus : usV Tryz.prog 186 (.pointer (some ⟨bb, 0, none⟩)) (i64 (cs.length : Nat)) h = some (.string ⟨cs.toArray⟩, upd h bb (.row 5 (cs.map byteV ++ junk) cap false)) := by
    have hu : Tryz.prog.underlying 186 = some (.pointer 5) := by kernel_rfl
    have hc1 : Tryz.prog.cellsOf 5 = 1 := by kernel_rfl
    have hli : liesAt Tryz.prog Tryz.prog.depth 5 (cap / Tryz.prog.cellsOf 5) 0 5 cs.length = true := lies_self (by rw [hc1]; decide) (by rw [hc1, Nat.div_one]; exact c2)
    have hb2 : Nat.ble (0 + cs.length) (cs.map byteV ++ junk).length = true := Nat.ble_eq_true_of_le (by simp)
    have ht : ((cs.map byteV ++ junk).drop 0).take cs.length = cs.map byteV := by rw [List.drop_zero]; exact List.take_left' (by simp)
    unfold usV
    simp only [hu, e', Int.toNat_natCast, hli, hb2, ht, bytesL_map, Bool.and_true]
    rw [decide_eq_true (by omega), decide_eq_true (by omega)]
    rfl
  refine bnd_of hus (hK _ ?_)
  have hn : h2 bb = none := d.left e
  refine All.le (fun k g hk => ?_) q
  show upd h bb _ k = some g
  rw [upd_ne (ne_of_fresh hn hk)]; exact l2 _ _ hk
end
end Go.Proofs.YtcpfkkppfgolaaaGreatDoor
