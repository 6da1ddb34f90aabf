/- Several texts in one; nothing here is a statement on the program. -/
import Derived.Test.YtfphpafkhljncaaGreatQQ7
set_option linter.unusedVariables false
set_option linter.unusedSimpArgs false
namespace Go.Proofs.YtfphpafkhljncaaGreat
open Go GW Go.Proofs
attribute [local irreducible] bnd ldV stV ifV binV eqI
set_option maxRecDepth 20000
def ansO : List Value → List Event → List Part
  | w :: ws, e :: es => rowP 2 w (e.answers.map Answer.enc) :: ansO ws es
  | _, _ => []
def evoP (v : Value) (es : List Event) : Part := fun h => ∃ ws, All [evP v ws es, All (ansO ws es)] h
def Short (es : List Event) : Prop := ∀ e ∈ es, e.answers.length ≤ 2
section
variable {R : List Part} {h : GH} {K : Value → GH → Prop} {b : Nat} {x : Th}
theorem ansO_le : ∀ {ws : List Value} {es : List Event} {h : GH}, All (ansO ws es) h → ansP ws es h := by
  intro ws
  induction ws with
  | nil => intro es h _ i e w _ h2; simp at h2
  | cons w ws ih =>
    intro es h z i e w' h1 h2
    cases es with
    | nil => simp at h1
    | cons x es =>
      have z : All (rowP 2 w (x.answers.map Answer.enc) :: ansO ws es) h := z
      cases i with
      | zero => simp at h1 h2; subst h1; subst h2; exact All.rows z
      | succ i => exact ih z.tail i e w' (by simpa using h1) (by simpa using h2)
theorem evoP_open {C : Prop} {v : Value} {es : List Event} (hp : All (evoP v es :: R) h) (k : ∀ ws, ws.length = es.length → All (rowP 8 v (evCs es ws) :: All (ansO ws es) :: R) h → C) : C := by
  obtain ⟨ws, hp⟩ := All.ex hp
  have hp : All (evP v ws es :: All (ansO ws es) :: R) h := All.flat hp
  obtain ⟨e, hp⟩ := All.pure hp
  exact k ws e hp
theorem evoP_shut {v : Value} {ws : List Value} {es : List Event} (hl : ws.length = es.length) (hp : All (rowP 8 v (evCs es ws) :: All (ansO ws es) :: R) h) : All (evoP v es :: R) h :=
  (All.fold (l := [evP v ws es, All (ansO ws es)]) (hp.head fun _ z => ⟨hl, z⟩)).head fun h1 z => ⟨ws, z⟩
theorem evoP_evs {v : Value} {es : List Event} (hp : All (evoP v es :: R) h) : All (evsP v es :: R) h :=
  evoP_open hp fun ws hl hp => evsP_shut hl (hp.mono2 fun _ z => z.head fun _ p => ansO_le p)
theorem evoP_nil : evoP (.slice none 0 0) [] h := ⟨[], All.two ⟨rfl, rowP_nil _ _⟩ trivial⟩
theorem T_CloneAnswersR {v : Value} {xs : List Answer} (hp : All R h) (hr : ∀ h', All R h' → rowsAt h' 2 v (xs.map Answer.enc)) (hb : xs.length ≤ 1000) (hK : ∀ v' h', All (rowP 2 v' (xs.map Answer.enc) :: R) h' → K v' h') : T Tryz.prog 81 [v] h K := by
  apply S81_T
  unfold S81
  have r := hr _ hp
  obtain ⟨ad, n, cap, rfl, hl, h1, h2, hx⟩ := r
  rw [List.length_map] at hl
  cases ad with
  | none =>
    have hx0 : xs = [] := by
      cases xs with
      | nil => rfl
      | cons y ys =>
        obtain ⟨bb, off, T, pre, sz, f, e, _⟩ := hx 0 y.enc rfl
        cases e
    subst hx0
    have n0 : n = 0 := hl.symm
    subst n0
    by_cases hc : cap = 0
    · subst hc
      refine wk ?_
      exact hK _ _ (hp.emp_cons (rowP_nil 2 _))
    · refine wk ?_
      exact hK _ _ (hp.emp_cons (rowP_nil 2 _))
  | some q =>
    refine wk ?_
    refine bs0 (size := 2) hp [] rfl rfl (by simp) (fun c hc => by cases hc) fun nv h1 hp => ?_
    have hr := hr _ hp.tail
    refine ap0 hp hr (Answer.all_good xs) (by decide) (by simp; omega) fun nv' h2 hp => ?_
    exact hK _ _ hp
theorem evs_good {v : Value} {es : List Event} {ws : List Value} (hp : All (rowP 8 v (evCs es ws) :: R) h) : ∀ c ∈ evCs es ws, Go.Proofs.YtfphpafkhljncaaGreat.good 8 c := hp.row.good.1
theorem T_CloneEvents {v : Value} {es : List Event} {ws : List Value} (hp : All R h) (hr : ∀ h', All R h' → rowsAt h' 8 v (evCs es ws)) (hg : ∀ c ∈ evCs es ws, Go.Proofs.YtfphpafkhljncaaGreat.good 8 c) (hb : (evCs es ws).length ≤ 1000) (hK : ∀ v' h', All (rowP 8 v' (evCs es ws) :: R) h' → K v' h') : T Tryz.prog 80 [v] h K := by
  apply S80_T
  unfold S80
  have r := hr _ hp
  obtain ⟨ad, n, cap, rfl, hl, h1, h2, hx⟩ := r
  generalize evCs es ws = cs at *
  cases ad with
  | none =>
    have hx0 : cs = [] := by
      cases cs with
      | nil => rfl
      | cons y ys =>
        obtain ⟨bb, off, T, pre, sz, f, e, _⟩ := hx 0 y rfl
        cases e
    subst hx0
    have n0 : n = 0 := hl.symm
    subst n0
    by_cases hc : cap = 0
    · subst hc
      refine wk ?_
      exact hK _ _ (hp.emp_cons (rowP_nil 8 _))
    · refine wk ?_
      exact hK _ _ (hp.emp_cons (rowP_nil 8 _))
  | some q =>
    refine wk ?_
    refine bs0 (size := 8) hp [] rfl rfl (by simp) (fun c hc => by cases hc) fun nv h1 hp => ?_
    have hr := hr _ hp.tail
    refine ap0 hp hr hg (by decide) (by simp; omega) fun nv' h2 hp => ?_
    exact hK _ _ hp
end
end Go.Proofs.YtfphpafkhljncaaGreat
namespace Go.Proofs.YtfphpafkhljncaaGreat
open Go GW Go.Proofs
attribute [local irreducible] bnd ldV stV ifV binV eqI
set_option maxRecDepth 20000
section
variable {R : List Part} {h : GH} {K : Value → GH → Prop} {b : Nat} {x : Th} {pick s : Int}
theorem ansO_app : ∀ {ws : List Value} {es : List Event} {w : Value} {e : Event}, ws.length = es.length → ansO (ws ++ [w]) (es ++ [e]) = ansO ws es ++ [rowP 2 w (e.answers.map Answer.enc)] := by
  intro ws
  induction ws with
  | nil =>
    intro es w e hl
    cases es with
    | nil => rfl
    | cons x es => simp at hl
  | cons w0 ws ih =>
    intro es w e hl
    cases es with
    | nil => simp at hl
    | cons x es =>
      show rowP 2 w0 (x.answers.map Answer.enc) :: ansO (ws ++ [w]) (es ++ [e]) = _
      rw [ih (by simpa using hl)]; rfl
theorem ansO_snoc {ws : List Value} {es : List Event} {w : Value} {e : Event} (hl : ws.length = es.length) (hp : All (rowP 2 w (e.answers.map Answer.enc) :: All (ansO ws es) :: R) h) : All (All (ansO (ws ++ [w]) (es ++ [e])) :: R) h := by
  rw [ansO_app hl]
  refine (All.fold (l := [rowP 2 w (e.answers.map Answer.enc), All (ansO ws es)]) hp).head fun h1 z => ?_
  exact All.app (Sep.mono (fun _ z => z) (fun _ z => All.one z) (Sep.comm (Sep.mono (fun _ z => z) (fun _ z => by
    obtain ⟨h3, h4, _, l3, _, p, _⟩ := z
    exact All.le l3 p) z)))
theorem T_thEvents (hp : All (thP b x :: R) h) (oe : x.evs.length ≤ 8) (os : Short x.evs) (hK : ∀ v' h', All (evoP v' x.evs :: thP b x :: R) h' → K v' h') : T Tryz.prog 31 [ptr b] h K := by
  apply S31_T
  unfold S31
  refine wk ?_
  refine thP_open hp fun v hp => ?_
  unfold thRow at hp
  refine wk ?_
  replace hp := hn (hp.up 2)
  refine evsP_open hp fun ws hl hp => ?_
  have hg := evs_good hp
  have hcl := evCs_len hl
  refine T_CloneEvents hp (fun h' hp => All.rows hp) hg (by omega) fun v' h1 hp => ?_
  have hlen : lnV v' = some (i64 x.evs.length) := by have := All.len hp; rw [hcl] at this; exact this
  refine bnd_of hlen ?_
  -- i: so many are copied; us: their answers' places, then the old ones'
  refine Lfp_fam (ι := Nat × List Value) (fun p => [v', i64 x.evs.length, i64 p.1]) (fun p h' => p.1 ≤ x.evs.length ∧ p.2.length = p.1 ∧ All (rowP 8 v' (evCs x.evs (p.2 ++ ws.drop p.1)) :: All (ansO p.2 (x.evs.take p.1)) :: rowP 8 v.ev (evCs x.evs ws) :: ansP ws x.evs :: pts b (thRow x v) :: tvP v.tv x.txns :: rowP 1 v.cv (x.cache.map encI) :: rowP 2 v.lv (x.limbo.map Ret.enc) :: rdP v.rv x.ripe :: opP entP v.ep x.ent :: opP pushP v.up x.push :: opP popP v.pp x.pop :: opP attP v.ap x.att :: opP advP v.dp x.adv :: R) h') (fun p => x.evs.length - p.1) ?_ (0, []) h1 ⟨by simp, rfl, ?_⟩
  rotate_left
  · have z := All.emp_cons (P := All (ansO [] (x.evs.take 0))) hp (by exact trivial)
    exact hn (z.re 2 [1, 0])
  clear hp
  rintro ⟨i, us⟩ h2 X ⟨hi, hu, hp⟩ again
  simp only at hi hu hp
  simp only [tup_zero, tup_succ]
  refine wk ?_
  refine ifV_cases (fun c => ?_) fun c => ?_
  · obtain ⟨e, he⟩ : ∃ e, x.evs[i]? = some e := ⟨_, List.getElem?_eq_getElem (by omega)⟩
    obtain ⟨w, hw⟩ : ∃ w, ws[i]? = some w := ⟨_, List.getElem?_eq_getElem (by omega)⟩
    have hw2 : (us ++ ws.drop i)[i]? = some w := by
      rw [List.getElem?_append_right (by omega), hu, Nat.sub_self, List.getElem?_drop, Nat.add_zero]; exact hw
    obtain ⟨eb, i1, i2, i3, i4⟩ := All.elt hp (evCs_get he hw2) .i64
    refine bnd_of i1 (bnd_of rfl (bnd_of (i2 7 1 w rfl) ?_))
    have hsh := os e (List.mem_of_getElem? he)
    refine T_CloneAnswersR hp (fun h' hp => ((hn (hp.up 3)).mono1 ansP.mono) i e w he hw) (by omega) fun w' h3 hp => ?_
    replace hp := hn (hp.re 2 [1, 0])
    refine bnd_of i1 (bnd_of rfl ?_)
    obtain ⟨ad, ln, cap, rfl⟩ := All.isSlice (hn (hp.up 1))
    refine ev_st (j := 7) hp (evCs_get he hw2) i1 rfl rfl (by decide) fun h4 hp => ?_
    have hl2 : (us ++ ws.drop i).length = x.evs.length := by rw [List.length_append, List.length_drop]; omega
    rw [show (e.cells w).set 7 (.slice ad ln cap) = e.cells (.slice ad ln cap) from rfl, evCs_set hl2, set_self he] at hp
    refine wk ?_
    refine again (i + 1, us ++ [.slice ad ln cap]) _ ⟨by simp only; omega, by simp [hu], ?_⟩ (by simp only; omega)
    have hz := ansO_snoc (e := e) (ws := us) (es := x.evs.take i) (by rw [List.length_take]; omega) (hn (hp.re 3 [1, 2, 0]))
    have e1 : x.evs.take i ++ [e] = x.evs.take (i + 1) := by rw [List.take_add_one, he]; rfl
    have hdrop : ws.drop i = w :: ws.drop (i + 1) := by
      have hlt : i < ws.length := by omega
      rw [List.drop_eq_getElem_cons hlt]
      rw [List.getElem?_eq_getElem hlt] at hw
      cases hw; rfl
    have e2 : (us ++ ws.drop i).set i (.slice ad ln cap) = us ++ [.slice ad ln cap] ++ ws.drop (i + 1) := by
      rw [List.set_append_right _ _ (by omega), hu, Nat.sub_self, hdrop, List.set_cons_zero, List.append_assoc]; rfl
    rw [e1] at hz
    rw [e2] at hz
    exact hn (hz.re 2 [1, 0])
  · have hie : i = x.evs.length := by omega
    subst hie
    have e3 : us ++ ws.drop x.evs.length = us := by rw [← hl, List.drop_length, List.append_nil]
    rw [e3, List.take_length] at hp
    refine hK _ _ ?_
    have hp := evoP_shut hu hp
    have hp := evsP_shut hl (hn (hp.re 3 [1, 2, 0]))
    have hp := hn (hp.re 12 [2, 3, 0, 4, 5, 6, 7, 8, 9, 10, 11, 1])
    have := thP_shut (v := v) hp
    exact hn (this.re 2 [1, 0])
theorem T_thThrough (hp : All (thP b x :: R) h) (hK : K (.tuple #[i64 x.ts, i64 x.tg]) h) : T Tryz.prog 34 [ptr b] h K := by
  apply S34_T
  unfold S34
  refine thP_open hp fun v hp => ?_
  unfold thRow at hp
  refine wk ?_
  exact hK
theorem T_thDecide (hp : All (thP b x :: R) h) (oe : x.evs.length ≤ 8) (hK : ∀ h', All (thP b (x.decide s pick) :: R) h' → K (.tuple #[]) h') : T Tryz.prog 116 [ptr b, i64 s, i64 pick] h K := by
  apply S116_T
  unfold S116
  have hp0 := hp
  refine thP_open hp fun v hp => ?_
  have hp1 := hp
  unfold thRow at hp
  refine wk ?_
  unfold Th.decide at hK
  refine ifV_cases (fun c => ?_) fun c => ?_
  · rw [if_pos c] at hK
    refine wk ?_
    have hlen := evP_len (hn (hp.up 2))
    refine bnd_of hlen ?_
    refine wk ?_
    refine ifV_cases (fun c2 => ?_) fun c2 => ?_
    · have l0 : 0 < x.evs.length := by omega
      have live : x.evs ≠ [] := List.length_pos_iff.1 l0
      replace hp := hn (hp1.up 2)
      refine evsP_open hp fun ws hl hp => ?_
      obtain ⟨e, w, g1, g2, g3, g4⟩ := evCs_last hl live
      obtain ⟨eb, i1, _, _, _⟩ := All.elt hp g4 .i64
      replace hp := hn (hp.up 2)
      refine T_event (v := v) (x := x) hp hlen l0 (by omega) i1 ?_
      refine wk ?_
      replace hp := hn (hp.up 1)
      refine ev_st (j := 3) hp g4 i1 rfl rfl (by decide) fun h2 hp => ?_
      rw [show (e.cells w).set 3 (i64 pick) = ({ e with decided := pick } : Event).cells w from rfl, evCs_set hl, set_self g3] at hp
      have hp := ansP_same g2 (e' := { e with decided := pick }) rfl (hn (hp.up 2))
      have hp := evsP_shut (ws := ws) (es := x.evs.set (x.evs.length - 1) { e with decided := pick }) (by rw [List.length_set]; exact hl) (hn (hp.re 2 [1, 0]))
      refine hK _ (thP_shut (v := v) ?_)
      show All (pts b (thRow x v) :: tvP v.tv x.txns :: evsP v.ev (evTurn x.evs fun e => { e with decided := pick }) :: _) _
      rw [evTurn_set g1]
      exact hn (hp.re 3 [1, 2, 0])
    · have he : x.evs = [] := List.length_eq_zero_iff.1 (by omega)
      have e2 : ({ x with evs := evTurn x.evs fun e => { e with decided := pick } } : Th) = x := by
        have : (evTurn x.evs fun e => { e with decided := pick }) = x.evs := by rw [he]; rfl
        rw [this]
      rw [e2] at hK
      exact hK _ hp0
  · rw [if_neg c] at hK
    exact hK _ hp0
end
end Go.Proofs.YtfphpafkhljncaaGreat
namespace Go.Proofs.YtfphpafkhljncaaGreat
open Go GW Go.Proofs
attribute [local irreducible] bnd ldV stV ifV binV eqI
set_option maxRecDepth 20000
instance {id n k : Int} {ts : List (List Op)} : Decidable (Th.may id n k ts) := by unfold Th.may; infer_instance
def opsC (cs : List (List Value)) (ts : List (List Op)) : Part := fun h => All2 (txnC h) cs ts
theorem All2.snoc {α β : Type} {R : α → β → Prop} {xs : List α} {ys : List β} {x : α} {y : β} (a : All2 R xs ys) (r : R x y) : All2 R (xs ++ [x]) (ys ++ [y]) := by
  refine ⟨by simp [a.1], fun i u v hu hv => ?_⟩
  have hl := a.1
  rw [List.getElem?_append] at hu hv
  split at hu
  · rw [if_pos (by omega)] at hv; exact a.2 i u v hu hv
  · rw [if_neg (by omega)] at hv
    have : i - xs.length = 0 := by
      rcases Nat.eq_zero_or_pos (i - xs.length) with q | q
      · exact q
      · rw [List.getElem?_eq_none (by simp; omega)] at hu; cases hu
    rw [this] at hu
    rw [← hl, this] at hv
    cases hu; cases hv; exact r
section
variable {R : List Part} {h : GH} {K : Value → GH → Prop} {b : Nat} {x : Th} {id n k : Int} {pol : Bool} {tsv : Value} {ts : List (List Op)}
theorem opsC_snoc {cs : List (List Value)} {ts : List (List Op)} {w : Value} {t : List Op} (hp : All (rowP 4 w (t.map Op.enc) :: opsC cs ts :: R) h) : All (opsC (cs ++ [[w]]) (ts ++ [t]) :: R) h := by
  refine (All.fold (l := [rowP 4 w (t.map Op.enc), opsC cs ts]) hp).head fun h1 z => ?_
  refine All2.snoc ((z.tail.mono1 (P := opsC cs ts) (fun _ _ l p => p.mono fun _ _ q => q.le l))) ⟨w, rfl, All.rows z⟩
theorem tv1_len {v : Value} {cs : List (List Value)} {ts : List (List Op)} (r : tv1 v cs ts h) : lnV v = some (i64 ts.length) ∧ ts.length ≤ 9223372036854775807 := by
  obtain ⟨r, a⟩ := r
  have := r.len
  rw [a.1] at this
  exact ⟨this, by rw [← a.1]; exact r.max⟩
theorem T_thNew (hp : All R h) {cs0 : List (List Value)} (hs : ∀ h', All R h' → tv1 tsv cs0 ts h') (kn : ¬ Th.may id n k ts → ∀ h', All R h' → K (.tuple #[.pointer none, i64 1800]) h')
    (ky : Th.may id n k ts → ∀ b h', All (thP b (.new id n k pol ts) :: R) h' → K (.tuple #[ptr b, i64 0]) h') : T Tryz.prog 27 [i64 id, i64 n, i64 k, .bool pol, tsv] h K := by
  apply S27_T
  unfold S27
  refine wk ?_
  refine ifV_cases (fun c => kn (fun m => by have := m.1; omega) _ hp) fun c => ?_
  refine wk ?_
  refine ifV_cases (fun c2 => kn (fun m => by have := m.1; omega) _ hp) fun c2 => ?_
  refine T_Below ?_
  refine wk ?_
  refine ifN_cases (fun c3 => kn (fun m => c3 m.2.1) _ hp) fun c3 => ?_
  obtain ⟨ad, ln, cap, etv⟩ : ∃ ad ln cap, tsv = .slice ad ln cap := by
    obtain ⟨⟨a, n, cap, e, _⟩, _⟩ := hs _ hp
    exact ⟨_, _, _, e⟩
  refine bs0 (size := 1) hp [[tsv]] (by rw [etv]; rfl) rfl (by simp) (fun c hc => by rw [List.mem_singleton.1 hc, etv]; exact ⟨rfl, rfl⟩) fun pv h1 hp => ?_
  refine wk ?_
  have thr : threadsAt h1 pv [ts] := ⟨[[tsv]], All.rows hp, rfl, fun i u v hu hv => by
    cases i with
    | zero =>
      simp at hu hv; subst hu; subst hv
      obtain ⟨r1, r2⟩ := hs _ hp.tail
      exact ⟨tsv, cs0, rfl, r1, r2⟩
    | succ i => simp at hu⟩
  obtain ⟨pa, pl, pc, rfl⟩ := All.isSlice hp
  refine wk ?_
  refine T_scriptMay (p := ⟨[ts], k, false⟩) thr ?_
  replace hp := hp.tail
  refine wk ?_
  cases hm : (Plan.mk [ts] k false).may with
  | false =>
    refine wk ?_
    refine kn (fun m => ?_) _ hp
    unfold Plan.may at hm
    simp only [List.length_cons, List.length_nil, List.all_cons, List.all_nil, Bool.and_true, m.2.2.2, Bool.and_true, decide_eq_false_iff_not] at hm
    exact hm ⟨by omega, by omega, m.2.2.1.1, m.2.2.1.2⟩
  | true =>
    refine wk ?_
    have hm2 : Th.may id n k ts := by
      unfold Plan.may at hm
      simp only [List.length_cons, List.length_nil, List.all_cons, List.all_nil, Bool.and_true, Bool.and_eq_true, decide_eq_true_eq] at hm
      exact ⟨by omega, c3, ⟨hm.1.2.2.1, hm.1.2.2.2⟩, hm.2⟩
    clear kn
    have ky := ky hm2
    have hts := thrMay_spec hm2.2.2.2
    unfold S27_j1
    refine wk ?_
    let V (tv : Value) : ThV := ⟨tv, .slice none 0 0, .slice none 0 0, .slice none 0 0, .slice none 0 0, .pointer none, .pointer none, .pointer none, .pointer none, .pointer none⟩
    refine nw hp (thRow { Th.new id n k pol ts with ts := 0 } (V (.slice none 0 0))) rfl fun b h2 hp => ?_
    have hlen := (tv1_len (hs _ hp.tail)).1
    refine bnd_of hlen ?_
    refine Lfp_fam (ι := Nat × Value × List (List Value)) (fun p => [ptr b, tsv, i64 ts.length, i64 p.1]) (fun p h' => p.1 ≤ ts.length ∧ All (pts b (thRow { Th.new id n k pol ts with ts := 0 } (V p.2.1)) :: rowP 1 p.2.1 p.2.2 :: opsC p.2.2 (ts.take p.1) :: R) h') (fun p => ts.length - p.1) ?_ (0, .slice none 0 0, []) h2 ⟨by simp, ?_⟩
    rotate_left
    · have z1 := All.emp_cons (P := opsC [] (ts.take 0)) hp ⟨rfl, fun i u v hu => by simp at hu⟩
      have z2 := All.emp_cons (P := rowP 1 (.slice none 0 0) []) z1 (rowP_nil _ _)
      exact hn (z2.re 3 [2, 0, 1])
    clear hp
    rintro ⟨i, tv, cs⟩ h3 X ⟨hi, hp⟩ again
    simp only at hi hp
    simp only [tup_zero, tup_succ]
    have hcl : cs.length = i := by
      have := (hn (hp.up 2)).mono1 (P := opsC cs (ts.take i)) (fun _ _ l p => p.mono fun _ _ q => q.le l)
      rw [this.1, List.length_take]; omega
    refine wk ?_
    refine ifV_cases (fun c => ?_) fun c => ?_
    · obtain ⟨t, ht⟩ : ∃ t, ts[i]? = some t := ⟨_, List.getElem?_eq_getElem (by omega)⟩
      have htm := hts.2 t (List.mem_of_getElem? ht)
      obtain ⟨ct, hct, w, rfl, hw⟩ := (hs _ hp.tail.tail.tail).2.get ht
      obtain ⟨p, d1, d2⟩ := (hs _ hp.tail.tail.tail).1.get hct .i64
      refine bnd_of d1 (bnd_of d2 ?_)
      obtain ⟨wa, wn, wc, rfl⟩ : ∃ ad ln cap, w = .slice ad ln cap := by
        obtain ⟨ad, ln, cap, e, _⟩ := hw; exact ⟨_, _, _, e⟩
      have hrow : ∀ h', All R h' → rowsAt h' 4 (.slice wa wn wc) (t.map Op.enc) := fun h' hr => by
        obtain ⟨c2, hc2, w2, e2, r2⟩ := (hs _ hr).2.get ht
        rw [hct] at hc2
        cases hc2; cases e2; exact r2
      refine nwst hp (.row 27 [.slice wa wn wc] 1 true) rfl rfl rfl rfl fun tb h4 hp => ?_
      replace hp := hn (hp.re 2 [1, 0])
      unfold thRow at hp
      refine wk ?_
      have ht2 : t.length ≤ 1000 ∧ t ≠ [] := by
        unfold Txn.may at htm
        simp only [Bool.and_eq_true, decide_eq_true_eq] at htm
        refine ⟨by omega, fun e => ?_⟩
        rw [e] at htm; simp at htm
      refine T_CloneOps hp (fun h' hp => hrow _ hp.tail.tail.tail.tail) ht2.1 ht2.2 fun nv h5 hp => ?_
      obtain ⟨na, nl, nc, rfl⟩ := All.isSlice hp
      replace hp := hn (hp.re 3 [1, 0])
      refine wk ?_
      replace hp := hn (hp.re 4 [2, 1, 3, 0])
      refine bs0 (size := 1) hp [[.slice na nl nc]] rfl rfl (by simp) (fun c hc => by rw [List.mem_singleton.1 hc]; exact ⟨rfl, rfl⟩) fun sv h6 hp => ?_
      have r2 := hp.rows
      refine ap0 (hn (hp.up 1)) r2 (fun c hc => by rw [List.mem_singleton.1 hc]; exact ⟨rfl, rfl⟩) (by decide) (by simp only [List.length_cons, List.length_nil]; omega) fun tv' h7 hp => ?_
      obtain ⟨ta, tl, tc, rfl⟩ := All.isSlice hp
      replace hp := hn (hp.re 5 [4, 0, 2, 3])
      refine wk ?_
      refine st0 hp (thRow { Th.new id n k pol ts with ts := 0 } (V (.slice ta tl tc))) rfl (Nat.le_of_ble_eq_true rfl) rfl rfl fun h8 hp => ?_
      refine wk ?_
      refine again (i + 1, .slice ta tl tc, cs ++ [[.slice na nl nc]]) _ ⟨by simp only; omega, ?_⟩ (by simp only; omega)
      have hp := opsC_snoc (hn (hp.re 4 [2, 3, 0, 1]))
      have e1 : ts.take i ++ [t] = ts.take (i + 1) := by rw [List.take_add_one, ht]; rfl
      rw [e1] at hp
      exact hn (hp.re 3 [1, 2, 0])
    · have hie : i = ts.length := by omega
      subst hie
      rw [List.take_length] at hp
      unfold thRow at hp
      refine wk ?_
      refine st0 hp (thRow (.new id n k pol ts) (V tv)) rfl (Nat.le_of_ble_eq_true rfl) rfl rfl fun h4 hp => ?_
      refine ky b _ (thP_shut (v := V tv) ?_)
      have hp := All.fold (l := [rowP 1 tv cs, opsC cs ts]) (hn (hp.re 3 [1, 2, 0]))
      have hp := hp.head (Q := tvP tv ts) fun h1 z => ⟨cs, All.rows z, z.tail.mono1 (P := opsC cs ts) (fun _ _ l p => p.mono fun _ _ q => q.le l)⟩
      have hp := opP_no (P := advP) hp
      have hp := opP_no (P := attP) hp
      have hp := opP_no (P := popP) hp
      have hp := opP_no (P := pushP) hp
      have hp := opP_no (P := entP) hp
      have hp := hp.emp_cons (P := rdP (.slice none 0 0) []) (rowsAt_nil _ _)
      have hp := hp.emp_cons (P := rowP 2 (.slice none 0 0) []) (rowP_nil _ _)
      have hp := hp.emp_cons (P := rowP 1 (.slice none 0 0) []) (rowP_nil _ _)
      have hp := hp.emp_cons (P := evsP (.slice none 0 0) []) ⟨[], All.two ⟨rfl, rowP_nil _ _⟩ fun i e w h => by simp at h⟩
      exact hn (hp.re 11 [10, 9, 0, 1, 2, 3, 4, 5, 6, 7, 8])
end
end Go.Proofs.YtfphpafkhljncaaGreat
namespace Go.Proofs.YtfphpafkhljncaaGreat
open Go GW Go.Proofs
inductive Acc (P : Int → Prop) (A : Ar) : Ar → Prop
  | none : Acc P A A
  | ld (i : Int) (h0 : 0 ≤ i) (h1 : i < 634) : Acc P A (A.ld i)
  | put (i x : Int) (h0 : 0 ≤ i) (h1 : i < 634) (p : P i) (hx : I64 x) : Acc P A (A.put i x)
  | cas (i o x : Int) (h0 : 0 ≤ i) (h1 : i < 634) (p : P i) (hx : I64 x) (hd : 34 ≤ i → (plainOf x).isSome = true := by intro h; exfalso; first | omega | (first | omega | (simp only; omega))) : Acc P A (A.cas i o x)
theorem Acc.mono {P Q : Int → Prop} {A B : Ar} (a : Acc P A B) (h : ∀ i, P i → Q i) : Acc Q A B := by
  cases a with
  | none => exact .none
  | ld i h0 h1 => exact .ld i h0 h1
  | put i x h0 h1 p hx => exact .put i x h0 h1 (h _ p) hx
  | cas i o x h0 h1 p hx hd => exact .cas i o x h0 h1 (h _ p) hx hd
structure Ar.lok (A : Ar) : Prop where
  at0 : 0 ≤ A.last.getD 2 0
  at1 : A.last.getD 2 0 < 634
  was : I64 (A.last.getD 3 0)
  now : I64 (A.last.getD 4 0)
  pl : A.last.getD 1 0 = 2 → 34 ≤ A.last.getD 2 0 → A.last.getD 3 0 = A.last.getD 4 0 ∨ (plainOf (A.last.getD 4 0)).isSome = true
theorem Acc.lok {P : Int → Prop} {A B : Ar} (a : Acc P A B) (o : A.ok) (l : A.lok) : B.lok := by
  cases a with
  | none => exact l
  | ld i h0 h1 => exact ⟨Int.natCast_nonneg _, (by show ((i.toNat : Nat) : Int) < 634; omega), Ar.at_range o i, Ar.at_range o i, fun h => absurd (show (0 : Int) = 2 from h) (by decide)⟩
  | put i x h0 h1 p hx => exact ⟨Int.natCast_nonneg _, (by show ((i.toNat : Nat) : Int) < 634; omega), Ar.at_range o i, hx, fun h => absurd (show (1 : Int) = 2 from h) (by decide)⟩
  | cas i ol x h0 h1 p hx hd =>
    refine ⟨Int.natCast_nonneg _, (by show ((i.toNat : Nat) : Int) < 634; omega), Ar.at_range o i, ?_, fun _ h => ?_⟩
    · show I64 (if A.at i = ol then x else A.at i)
      split
      · exact hx
      · exact Ar.at_range o i
    · show A.at i = (if A.at i = ol then x else A.at i) ∨ (plainOf (if A.at i = ol then x else A.at i)).isSome = true
      split
      · exact .inr (hd (by have h : 34 ≤ ((i.toNat : Nat) : Int) := h; omega))
      · exact .inl rfl
def inAtt (i : Int) : Prop := i < 16 ∨ 34 ≤ i
section
variable {A : Ar} {t q : Int}
theorem Wh.step_acc {w : Wh} (ok : w.ok) (hA : A.ok) (t0 : 0 ≤ t) (t1 : t < 4) (q0 : 0 ≤ q) (q1 : q < 1048576) : Acc inAtt A (w.step t q A).a := by
  obtain ⟨s, g, pc, i, k, cell, was, put, x, opn, won⟩ := w
  obtain ⟨life, i0, i1, i2, k1, k0, c0, c1, was1, put1, x1, pc1, pc0, ref⟩ := ok
  simp only at life i0 i1 i2 k1 k0 c0 c1 was1 put1 x1 pc1 pc0 ref
  have s0 := life.s0; have s1 := life.s1
  have hb : baseOf s = 34 + s * 50 := rfl
  have st : ∀ d, 0 ≤ d → d < 4 → I64 (stateW g d) := fun d h0 h1 => stateW_range life.g0 life.g1 h0 h1
  have : pc = 1 ∨ pc = 2 ∨ pc = 3 ∨ pc = 4 ∨ pc = 5 ∨ pc = 6 ∨ pc = 7 ∨ pc = 8 ∨ pc = 9 ∨ pc = 10 ∨ pc = 11 ∨ pc = 12 ∨ pc = 13 ∨ pc = 14 := by omega
  rcases this with rfl | rfl | rfl | rfl | rfl | rfl | rfl | rfl | rfl | rfl | rfl | rfl | rfl | rfl
  · exact .ld _ (by (first | omega | (simp only; omega))) (by (first | omega | (simp only; omega)))
  · exact .ld _ (by (first | omega | (simp only; omega))) (by (first | omega | (simp only; omega)))
  · have := i2 (by decide) (by decide) (by decide) (by decide); exact .ld _ (by (first | omega | (simp only; omega))) (by (first | omega | (simp only; omega)))
  · have := i2 (by decide) (by decide) (by decide) (by decide); exact .ld _ (by (first | omega | (simp only; omega))) (by (first | omega | (simp only; omega)))
  · have hi := i2 (by decide) (by decide) (by decide) (by decide)
    have hp := entry_range life i0 hi t0 t1 q0 q1
    rw [Wh.step5 rfl]
    unfold Wh.swapIn
    have key : Acc inAtt A (A.cas cell was (Form.entry s g i t q).number) := .cas _ _ _ c0 (by (first | omega | (simp only; omega))) (.inl c1) hp
    simp only
    split
    · exact key
    · split
      · exact key
      · exact key
      · exact key
      · split <;> exact key
  · exact .ld _ (by (first | omega | (simp only; omega))) (by (first | omega | (simp only; omega)))
  · refine .cas _ _ _ c0 (by (first | omega | (simp only; omega))) (.inl c1) ?_ (fun h => absurd (show 34 ≤ cell from h) (by omega))
    simp only [Wh.mine]; split
    · exact mcas_range life
    · exact was1
  · exact .cas _ _ _ (by (first | omega | (simp only; omega))) (by (first | omega | (simp only; omega))) (.inr (by (first | omega | (simp only; omega)))) (st 1 (by decide) (by decide)) (fun _ => stateW_val life.g0 life.g1 (by decide) (by decide))
  · exact .cas _ _ _ (by (first | omega | (simp only; omega))) (by (first | omega | (simp only; omega))) (.inr (by (first | omega | (simp only; omega)))) (st 2 (by decide) (by decide)) (fun _ => stateW_val life.g0 life.g1 (by decide) (by decide))
  · exact .ld _ (by (first | omega | (simp only; omega))) (by (first | omega | (simp only; omega)))
  · have := i2 (by decide) (by decide) (by decide) (by decide); exact .ld _ (by (first | omega | (simp only; omega))) (by (first | omega | (simp only; omega)))
  · have := i2 (by decide) (by decide) (by decide) (by decide)
    refine .ld _ ?_ ?_ <;> simp only <;> split <;> omega
  · exact .cas _ _ _ c0 (by (first | omega | (simp only; omega))) (.inl c1) x1 (fun h => absurd (show 34 ≤ cell from h) (by omega))
  · simp only [Wh.step]
    split <;> exact .ld _ (by (first | omega | (simp only; omega))) (by (first | omega | (simp only; omega)))
theorem En.step_acc {f : En} (ok : f.ok) (hA : A.ok) : Acc inAtt A (f.step q A).a := by
  obtain ⟨s, g, e, t', q', pc, cell, was, opn⟩ := f
  obtain ⟨life, e0, e1, t0, t1, q0', q1', c0, c1, was1, pc1⟩ := ok
  simp only at life e0 e1 t0 t1 q0' q1' c0 c1 was1 pc1
  have s0 := life.s0; have s1 := life.s1
  have hb : baseOf s = 34 + s * 50 := rfl
  have : pc = 0 ∨ pc = 1 ∨ pc = 2 ∨ pc = 3 := by omega
  rcases this with rfl | rfl | rfl | rfl
  · exact .ld _ (by (first | omega | (simp only; omega))) (by (first | omega | (simp only; omega)))
  · exact .ld _ (by (first | omega | (simp only; omega))) (by (first | omega | (simp only; omega)))
  · exact .ld _ (by (first | omega | (simp only; omega))) (by (first | omega | (simp only; omega)))
  · refine .cas _ _ _ c0 (by (first | omega | (simp only; omega))) (.inl c1) ?_ (fun h => absurd (show 34 ≤ cell from h) (by omega))
    simp only; split
    · exact mcas_range life
    · exact was1
theorem Help.step_acc {H : Help} (ok : H.ok) (hA : A.ok) : Acc inAtt A (H.step A).2.2 := by
  cases c : H.over with
  | true =>
    have e : H.step A = (H, 0, A) := by unfold Help.step; rw [c]; rfl
    rw [e]; exact .none
  | false =>
    rw [Help.step_eq c]
    obtain ⟨k1, k2, k3⟩ := ok.frames c
    show Acc inAtt A (H.top.step H.t H.q A).a
    cases ht : H.top with
    | who w => rw [ht] at k1; exact Wh.step_acc k1 hA ok.t0 ok.t1 ok.q0 ok.q1
    | ent f => rw [ht] at k1; exact En.step_acc k1 hA
theorem Rd.step_acc {r : Rd} (o : r.ok) (hA : A.ok) : Acc inAtt A (r.step A).2.2 := by
  have c0 := o.c0; have c1 := o.c1
  unfold Rd.step
  split
  · exact .none
  · split
    · rename_i H e
      exact Help.step_acc (o.help H e).1 hA
    · unfold Rd.load
      have key : Acc inAtt A (A.ld r.cell) := .ld _ c0 (by omega)
      split
      · exact key
      · split <;> exact key
theorem At.step_acc {x : At} (o : x.ok) (hA : A.ok) (hw : ∀ w, x.st = .wr w → 34 ≤ w.addr) : Acc inAtt A (x.step A).2.2 := by
  unfold At.step
  split
  · exact .none
  · have hs := o.st
    split
    · rename_i r v e
      rw [e] at hs
      have key := Rd.step_acc hs.1 hA
      simp only
      split
      · exact key
      · split <;> exact key
    · rename_i w e
      rw [e] at hs
      have hs : w.ok := hs
      show Acc inAtt A (w.step A).2.2
      unfold Wr.step
      have a0 := hs.a0; have a1 := hs.a1
      split
      · exact .none
      · rename_i y r el
        rw [el] at a1
        simp only [List.length_cons] at a1
        exact .put _ _ a0 (by omega) (.inr (hw w e)) (hs.range y (by rw [el]; simp))
    · rename_i H e
      rw [e] at hs
      have key := Help.step_acc hs.1 hA
      simp only
      split <;> exact key
theorem At.step_wr {x : At} (o : x.ok) (hw : ∀ w, x.st = .wr w → 34 ≤ w.addr) : ∀ w, (x.step A).1.st = .wr w → 34 ≤ w.addr := by
  have hl := o.life
  unfold lifeMay at hl
  simp only [decide_eq_true_eq] at hl
  have asked : ∀ (y : At) m, y.slot = x.slot → ∀ w, (y.asked m).st = .wr w → 34 ≤ w.addr := by
    intro y m hy w hw
    unfold At.asked at hw
    split at hw
    · cases hw
    · cases hw; rw [hy]; show 34 ≤ 34 + x.slot * 50; omega
  unfold At.step
  split
  · exact hw
  · split
    · simp only
      split
      · intro w h; cases h
      · split
        · exact asked _ _ rfl
        · intro w h; cases h
    · rename_i w0 e
      intro w h
      simp only at h
      split at h
      · cases h
      · cases h
        have := hw w0 e
        unfold Wr.step
        split
        · exact this
        · show 34 ≤ w0.addr + 1; omega
    · simp only
      split <;> (intro w h; cases h)
theorem Ent.step_acc {n : Ent} (o : n.ok) : Acc (fun i => 30 ≤ i ∧ i < 34) A (n.step A).2.2 := by
  have := o.t0; have := o.t1; have := o.e0; have := o.e1
  unfold Ent.step
  split
  · exact .none
  · split
    · exact .put _ _ (by omega) (by omega) (by constructor <;> omega) (by constructor <;> omega)
    · split <;> exact .ld _ (by omega) (by omega)
theorem Adv.step_acc {d : Adv} (o : d.ok) : Acc (fun i => i = 29) A (d.step A).2.2 := by
  have := o.a1; have := o.n1; have := o.e0; have := o.e1
  unfold Adv.step
  split
  · exact .none
  · split
    · split <;> exact .ld _ (by omega) (by omega)
    · split
      · split <;> exact .ld _ (by omega) (by omega)
      · exact .cas _ _ _ (by omega) (by omega) rfl (by constructor <;> omega)
theorem Pop.step_acc {p : Pop} (o : p.ok) : Acc (fun i => i = 16) A (p.step A).2.2 := by
  have ol := o.l
  unfold Pop.step
  split
  · exact .none
  · rename_i hov
    have hov : p.l.over = false := by simpa using hov
    split
    · split <;> exact .ld _ (by omega) (by omega)
    · have f := o.f hov (by assumption)
      split
      · split <;> exact .ld _ (by omega) (by omega)
      · have a0 := ol.a0; have a1 := ol.a1
        have n := o.n2 hov (by omega)
        have tr := Lst.turned_range (l := p.l) ol.c0 o.n0 n
        split <;> exact .cas _ _ _ (by omega) (by omega) rfl tr
theorem Push.step_acc {p : Push} (o : p.ok) : Acc (fun i => 16 ≤ i ∧ i < 29) A (p.step A).2.2 := by
  have ol := o.l
  have s0 := o.s0; have s1 := o.s1; have f0 := ol.f0; have f1 := ol.f1
  unfold Push.step
  split
  · exact .none
  · split
    · split <;> exact .ld _ (by omega) (by omega)
    · split
      · exact .put _ _ (by omega) (by omega) (by constructor <;> omega) (by constructor <;> omega)
      · exact .cas _ _ _ (by omega) (by omega) (by constructor <;> omega) (Lst.turned_range ol.c0 (by omega) (by omega))
end
def Th.wrs (x : Th) : Prop := ∀ a, x.att = some a → ∀ w, a.st = .wr w → 34 ≤ w.addr
section
variable {A : Ar} {x : Th} {L : List Int} {pick : Int}
abbrev anyP : Int → Prop := fun _ => True
theorem Th.tris_acc (o : x.ok) (hw : x.wrs) (hA : A.ok) : Acc anyP A (x.tris A).2.2 ∧ (x.tris A).1.wrs := by
  unfold Th.tris
  cases e : x.att with
  | none => exact ⟨.none, hw⟩
  | some a =>
    refine ⟨(At.step_acc (o.att a e).1 hA (hw a e)).mono fun _ _ => trivial, fun b hb => ?_⟩
    cases hb
    exact At.step_wr (o.att a e).1 (hw a e)
theorem Th.with_wrs {s : Int} (h0 : 0 ≤ s) : (x.with_ s L).wrs := by
  intro a ha w hw
  unfold Th.with_ at ha
  simp only at ha
  split at ha
  · cases ha; cases hw
  · cases ha
theorem Th.taks_acc (o : x.ok) (hw : x.wrs) (hA : A.ok) (hn : x.next = some .tak ∨ x.next = some .fre) : Acc anyP A (x.taks A L).1.2.2 ∧ (x.taks A L).1.1.wrs := by
  have main : ∀ p : Option Pop, x.pop = p →
      let q := (p.getD .new).step A
      let r : (Th × Int × Ar) × List Int := if q.1.l.over = false ∨ q.2.1 ≠ 0 then (({ x with pop := some q.1, next := some .tak }, q.2.1, q.2.2), L) else
        if q.1.slot = -1 then (({ x with pop := none, end_ := 1, next := some .lea }, 0, q.2.2), L) else
        ((({ x with pop := none } : Th).with_ q.1.slot L, 0, q.2.2), lived q.1.slot L)
      Acc anyP A r.1.2.2 ∧ r.1.1.wrs := by
    intro p hp
    have po : (p.getD .new).ok := by
      cases p with
      | none => exact Pop.new_ok
      | some p => exact o.pop p hp
    have s := Pop.step_ok po hA
    have a : Acc anyP A ((p.getD .new).step A).2.2 := (Pop.step_acc po).mono fun _ _ => trivial
    simp only
    split
    · exact ⟨a, hw⟩
    · split
      · exact ⟨a, hw⟩
      · have h0 := s.1.s0
        exact ⟨a, Th.with_wrs (by omega)⟩
  unfold Th.taks
  cases hp : x.pop with
  | some p => exact main _ hp
  | none =>
    cases hl : x.cache.getLast? with
    | none => exact main _ hp
    | some s =>
      have hm := o.ca s (List.mem_of_getLast? hl)
      have hc := o.cap
      have hlive := o.live (.inl (by rcases hn with h | h <;> (rw [h]; simp)))
      have hc2 : x.limbo.length + x.ripe.length + 16 ≤ 16 * x.evs.length + x.tries.toNat := by
        rcases hn with h | h <;> (rw [h] at hc; simp only [restOf, flagOf] at hc; omega)
      have o1 : ({ x with cache := x.cache.dropLast, pop := none, next := some .tak } : Th).ok := { o with
        pop := fun n h => by cases h
        cl := by show (x.cache.dropLast).length ≤ 2; rw [List.length_dropLast]; have := o.cl; omega
        ca := fun s hs => o.ca s (List.dropLast_subset _ hs)
        live := fun _ => hlive
        ans := fun h => by cases h
        s2 := fun h => by rcases h with h | h <;> cases h
        cap := by simp only [restOf, flagOf]; omega }
      have := Th.with_ok (L := L) o1 rfl hm.1 hm.2
      exact Th.tris_acc this (Th.with_wrs hm.1) hA
theorem Th.fres_acc (o : x.ok) (hw : x.wrs) (hA : A.ok) (hn : x.next = some .fre) : Acc anyP A (x.fres A L).1.2.2 ∧ (x.fres A L).1.1.wrs := by
  have oc := Th.cached_ok o
  have hn' : x.cached.next = some .fre := by rw [Th.cached_next]; exact hn
  have hw' : x.cached.wrs := by unfold Th.cached; split <;> exact hw
  unfold Th.fres
  simp only
  generalize x.cached = y at oc hn' hw' ⊢
  split
  · exact Th.taks_acc oc hw' hA (.inr hn')
  · rename_i s r hr
    have hm := oc.ri s (by rw [hr]; simp)
    have po : (y.push.getD (.new s)).ok := by
      cases hp : y.push with
      | none => exact Push.new_ok hm.1 hm.2
      | some p => exact oc.push p hp
    have a : Acc anyP A ((y.push.getD (.new s)).step A).2.2 := (Push.step_acc po).mono fun _ _ => trivial
    split <;> exact ⟨a, hw'⟩
theorem Th.act_acc {a : Act} (o : x.ok) (hw : x.wrs) (hA : A.ok) (hn : x.next = some a) : Acc anyP A (x.act A L pick a).1.2.2 ∧ (x.act A L pick a).1.1.wrs := by
  cases a with
  | ent =>
    unfold Th.act Th.ents
    cases e : x.ent with
    | none => exact ⟨.none, hw⟩
    | some n =>
      have a : Acc anyP A (n.step A).2.2 := (Ent.step_acc (o.ent n e)).mono fun _ _ => trivial
      simp only
      split <;> exact ⟨a, hw⟩
  | fre => exact Th.fres_acc o hw hA hn
  | tak => exact Th.taks_acc o hw hA (.inl hn)
  | tri => exact Th.tris_acc o hw hA
  | ret =>
    unfold Th.act Th.rets
    simp only
    split <;> exact ⟨.ld _ (by omega) (by omega), hw⟩
  | lea =>
    have i0 := o.i0; have i1 := o.i1; have n1 := o.n1
    exact ⟨.put _ _ (by omega) (by omega) trivial zero64, hw⟩
  | adv =>
    unfold Th.act Th.advs
    cases e : x.adv with
    | none => exact ⟨.none, hw⟩
    | some d =>
      have a : Acc anyP A (d.step A).2.2 := (Adv.step_acc (o.adv d e)).mono fun _ _ => trivial
      simp only
      split
      · refine ⟨a, ?_⟩
        unfold Th.answer
        split <;> exact hw
      · exact ⟨a, hw⟩
theorem Th.ended_acc {r : (Th × Int × Ar) × List Int} (h : Acc anyP A r.1.2.2 ∧ r.1.1.wrs) : Acc anyP A (Th.ended r).2.2.2.1 ∧ (Th.ended r).1.wrs := by
  unfold Th.ended
  split <;> exact h
theorem Th.step_acc (o : x.ok) (hw : x.wrs) (hA : A.ok) : Acc anyP A (x.step A L pick).2.2.2.1 ∧ (x.step A L pick).1.wrs := by
  unfold Th.step
  split
  · exact ⟨.none, hw⟩
  · have o1 : ({ x with ts := -1, tg := 0 } : Th).ok := { o with }
    simp only
    split
    · rename_i a e
      exact Th.ended_acc (Th.act_acc o1 hw hA e)
    · rename_i e
      have b := Th.begin_ok (pick := pick) o1 e
      have bw : (({ x with ts := -1, tg := 0 } : Th).begin pick).1.wrs := by
        unfold Th.begin
        split
        · exact hw
        · split <;> exact hw
      split
      · rename_i q
        exact Th.ended_acc (Th.act_acc b.1 bw hA (b.2 q))
      · exact ⟨.none, bw⟩
end
section
variable {A : Ar} {x : Th} {L : List Int} {pick : Int}
theorem Help.step_slot {H : Help} (ok : H.ok) (ho : H.over = false) : 0 ≤ (H.step A).1.slot ∧ (H.step A).1.slot < 12 := by
  rw [Help.step_eq ho]
  have hl := Fr.life (ok.frames ho).1
  have key : ∀ o : Out, (H.take o).1.slot = H.top.s := by
    intro o
    unfold Help.take
    simp only
    split
    · rfl
    · split
      · split <;> rfl
      · split
        · rfl
        · split <;> rfl
  show 0 ≤ (H.take _).1.slot ∧ (H.take _).1.slot < 12
  rw [key]
  exact ⟨hl.s0, hl.s1⟩
theorem Rd.step_slot {r : Rd} (ok : r.ok) (ho : r.over = false) : -1 ≤ (r.step A).1.slot ∧ (r.step A).1.slot < 12 := by
  unfold Rd.step
  rw [if_neg (by rw [ho]; decide)]
  split
  · rename_i H e
    have h := ok.help H e
    have := Help.step_slot (A := A) h.1 h.2
    exact ⟨by show -1 ≤ (H.step A).1.slot; omega, this.2⟩
  · unfold Rd.load
    split
    · exact ⟨Int.le_refl (-1), by show (-1 : Int) < 12; decide⟩
    · split <;> exact ⟨Int.le_refl (-1), by show (-1 : Int) < 12; decide⟩
def At.tsr (a : At) : Prop := -1 ≤ a.ts ∧ a.ts < 12
theorem At.step_tsr {a : At} (o : a.ok) (h : a.tsr) : (a.step A).1.tsr := by
  have hl := o.life
  unfold lifeMay at hl
  simp only [decide_eq_true_eq] at hl
  have asked : ∀ (y : At) m, y.tsr → (y.asked m).tsr := by
    intro y m hy
    unfold At.asked
    split <;> exact hy
  unfold At.step
  split
  · exact h
  · rename_i ho
    have ho : a.over = false := by simpa using ho
    have hs := o.st
    split
    · rename_i r v e
      rw [e] at hs
      have key := Rd.step_slot (A := A) hs.1 (hs.2.2 ho)
      simp only
      split
      · exact key
      · split
        · exact asked _ _ key
        · exact key
    · exact ⟨by show -1 ≤ a.slot; omega, hl.2.1⟩
    · rename_i H e
      rw [e] at hs
      have key := Help.step_slot (A := A) hs.1 (hs.2 ho)
      simp only
      split
      · exact ⟨by show -1 ≤ (H.step A).1.slot; omega, key.2⟩
      · exact ⟨by show -1 ≤ (H.step A).1.slot; omega, key.2⟩
def Th.tsr (x : Th) : Prop := (-1 ≤ x.ts ∧ x.ts < 12) ∧ ∀ a, x.att = some a → a.tsr
theorem Th.tris_tsr (o : ∀ n, x.att = some n → n.ok) (h : x.tsr) : (x.tris A).1.tsr := by
  unfold Th.tris
  cases e : x.att with
  | none => exact h
  | some a =>
    have := At.step_tsr (A := A) (o a e) (h.2 a e)
    exact ⟨this, fun b hb => by cases hb; exact this⟩
theorem Th.with_tsr {s : Int} (h : x.tsr) : (x.with_ s L).tsr := by
  refine ⟨h.1, fun a ha => ?_⟩
  unfold Th.with_ at ha
  simp only at ha
  split at ha
  · cases ha; exact ⟨Int.le_refl (-1), by show (-1 : Int) < 12; decide⟩
  · cases ha
theorem Th.taks_tsr (h : x.tsr) : (x.taks A L).1.1.tsr := by
  unfold Th.taks
  split
  · refine Th.tris_tsr (fun n hn => ?_) (Th.with_tsr h)
    unfold Th.with_ at hn
    simp only at hn
    split at hn
    · rename_i m; cases hn; exact At.new_ok m
    · cases hn
  · simp only
    split
    · exact h
    · split
      · exact h
      · exact Th.with_tsr h
theorem Th.act_tsr {a : Act} (o : x.ok) (h : x.tsr) : (x.act A L pick a).1.1.tsr := by
  cases a with
  | ent =>
    show (x.ents A).1.tsr
    unfold Th.ents
    cases x.ent with
    | none => exact h
    | some n => simp only; split <;> exact h
  | fre =>
    show (x.fres A L).1.1.tsr
    unfold Th.fres
    have hc : x.cached.tsr := by unfold Th.cached; split <;> exact h
    simp only
    split
    · exact Th.taks_tsr hc
    · split <;> exact hc
  | tak => exact Th.taks_tsr h
  | tri => exact Th.tris_tsr (fun n hn => (o.att n hn).1) h
  | ret => show (x.rets A).1.tsr; unfold Th.rets; split <;> exact h
  | lea => exact h
  | adv =>
    show (x.advs A pick).1.tsr
    unfold Th.advs
    cases x.adv with
    | none => exact h
    | some d =>
      simp only
      split
      · unfold Th.answer; split <;> exact h
      · exact h
theorem Th.ended_tsr {r : (Th × Int × Ar) × List Int} (h : r.1.1.tsr) : (Th.ended r).1.tsr := by unfold Th.ended; split <;> exact h
theorem Th.step_tsr (o : x.ok) (h : x.tsr) : (x.step A L pick).1.tsr := by
  unfold Th.step
  split
  · exact h
  · have o1 : ({ x with ts := -1, tg := 0 } : Th).ok := { o with }
    have h1 : ({ x with ts := -1, tg := 0 } : Th).tsr := ⟨⟨Int.le_refl (-1), by show (-1 : Int) < 12; decide⟩, h.2⟩
    simp only
    split
    · exact Th.ended_tsr (Th.act_tsr o1 h1)
    · rename_i e
      have b := Th.begin_ok (pick := pick) o1 e
      have bw : (({ x with ts := -1, tg := 0 } : Th).begin pick).1.tsr := by
        unfold Th.begin
        split
        · exact h1
        · split <;> exact h1
      split
      · exact Th.ended_tsr (Th.act_tsr b.1 bw)
      · exact bw
theorem Th.decide_tsr {s : Int} (h : x.tsr) : (x.decide s pick).tsr := by unfold Th.decide; split <;> exact h
end
structure Touch where
  thread : Int
  kind : Int
  at_ : Int
  was : Int
  now : Int
  slot : Int
  gen : Int
  live : Int
def Touch.ints (t : Touch) : List Int := [t.thread, t.kind, t.at_, t.was, t.now, t.slot, t.gen, t.live]
def Touch.enc (t : Touch) : List Value := [i64 t.thread, i64 t.kind, i64 t.at_, i64 t.was, i64 t.now, i64 t.slot, i64 t.gen, i64 t.live]
theorem Touch.ext_ints {a b : Touch} (h : a.ints = b.ints) : a = b := by
  cases a; cases b; simpa [Touch.ints] using h
instance : DecidableEq Touch := fun a b => if h : a.ints = b.ints then .isTrue (Touch.ext_ints h) else .isFalse fun e => h (by rw [e])
theorem Touch.enc_good (t : Touch) : good 8 t.enc := ⟨rfl, rfl⟩
theorem Touch.all_good (ts : List Touch) : ∀ c ∈ ts.map Touch.enc, good 8 c := by
  intro c hc
  obtain ⟨t, _, rfl⟩ := List.mem_map.1 hc
  exact t.enc_good
theorem Touch.eqLaw (a b : Touch) : eqP Tryz.prog 10000 60 (.agg a.enc.toArray) (.agg b.enc.toArray) = some (decide (a = b)) := by
  have h : eqP Tryz.prog 10000 60 (.agg a.enc.toArray) (.agg b.enc.toArray) = some ((a.thread == b.thread) && ((a.kind == b.kind) && ((a.at_ == b.at_) && ((a.was == b.was) && ((a.now == b.now) && ((a.slot == b.slot) && ((a.gen == b.gen) && ((a.live == b.live) && true)))))))) := by kernel_rfl
  rw [h]
  cases a; cases b
  simp [Bool.decide_and, Bool.beq_eq_decide_eq]
structure Mc where
  A : Ar
  ths : List Th
  L : List Int
  picks : Int
  ts : List Touch
def Mc.threads : Int → Int → Int → Bool → List (List (List Op)) → List Th
  | _, _, _, _, [] => []
  | i, n, k, pol, t :: ts => Th.new i n k pol t :: Mc.threads (i + 1) n k pol ts
def Mc.new (p : Plan) : Mc := ⟨newAr, Mc.threads 0 p.threads.length p.attempts p.polite p.threads, List.replicate 12 0, 0, []⟩
def Ar.lst (A : Ar) (i : Nat) : Int := A.last.getD i 0
def noteT (A : Ar) (L : List Int) (k : Int) (x : Th) : Touch := ⟨k, A.lst 1, A.lst 2, A.lst 3, A.lst 4, x.ts, x.tg, if 0 ≤ x.ts then L.getD x.ts.toNat 0 else A.lst 7⟩
def Touch.dec (t : Touch) : Option Int :=
  if t.kind ≠ 2 ∨ t.was = t.now ∨ t.at_ < 34 ∨ t.at_ ≠ baseOf ((t.at_ - 34) / 50) ∨ (plainOf t.now).isSome = false then none else
  if t.now = stateW (valOf t.now / 4) 1 then some ((t.at_ - 34) / 50) else none
def decAll (t : Touch) (pick : Int) (xs : List Th) : List Th := match t.dec with
  | some s => xs.map fun x => x.decide s pick
  | none => xs
def Mc.pick (M : Mc) (k : Int) : Mc × Bool × Int :=
  if ¬ (0 ≤ k ∧ k < M.ths.length) ∨ 65536 ≤ M.picks then (M, false, 1900) else
  match M.ths[k.toNat]? with
  | none => (M, false, 1900)
  | some x =>
    let o := x.step M.A M.L M.picks
    let xs := M.ths.set k.toNat o.1
    let t := noteT o.2.2.2.1 o.2.2.2.2 k o.1
    ({ A := o.2.2.2.1, ths := if o.2.1 then decAll t M.picks xs else xs, L := o.2.2.2.2, picks := M.picks + 1, ts := if o.2.1 then M.ts ++ [t] else M.ts }, o.2.1, if o.2.2.1 = 0 then 0 else 1900)
def Mc.done (M : Mc) : Bool := M.ths.all Th.done
def Mc.events (M : Mc) : List Event := M.ths.flatMap Th.evs
structure Mc.ok (M : Mc) : Prop where
  A : M.A.ok
  l : M.A.lok
  ths : ∀ x ∈ M.ths, x.ok ∧ x.wrs ∧ Short x.evs ∧ x.tsr
  n : M.ths.length ≤ 4
  L : M.L.length = 12
  L2 : ∀ y ∈ M.L, 0 ≤ y ∧ y ≤ M.picks
  p0 : 0 ≤ M.picks
  p1 : M.picks ≤ 65536
  ts : (M.ts.length : Int) ≤ M.picks
theorem newAr_lok : newAr.lok := ⟨by decide, by decide, by constructor <;> decide, by constructor <;> decide, fun h => absurd h (by decide)⟩
theorem Mc.threads_mem : ∀ {ts : List (List (List Op))} {i n k : Int} {pol : Bool} {x : Th}, x ∈ Mc.threads i n k pol ts → ∃ (j : Nat) (t : List (List Op)), ts[j]? = some t ∧ x = Th.new (i + j) n k pol t := by
  intro ts
  induction ts with
  | nil => intro i n k pol x h; cases h
  | cons t ts ih =>
    intro i n k pol x h
    rcases List.mem_cons.1 h with rfl | h
    · exact ⟨0, t, rfl, by simp⟩
    · obtain ⟨j, t', h1, h2⟩ := ih h
      refine ⟨j + 1, t', h1, ?_⟩
      rw [h2]; congr 1; omega
theorem Mc.threads_len : ∀ {ts : List (List (List Op))} {i n k : Int} {pol : Bool}, (Mc.threads i n k pol ts).length = ts.length := by
  intro ts
  induction ts with
  | nil => intros; rfl
  | cons t ts ih => intro i n k pol; simp [Mc.threads, ih]
theorem Plan.may_spec {p : Plan} (h : p.may = true) : 1 ≤ p.threads.length ∧ p.threads.length ≤ 4 ∧ 1 ≤ p.attempts ∧ p.attempts ≤ 16 ∧ ∀ t ∈ p.threads, thrMay t = true := by
  unfold Plan.may at h
  simp only [Bool.and_eq_true, decide_eq_true_eq, List.all_eq_true] at h
  exact ⟨h.1.1, h.1.2.1, h.1.2.2.1, h.1.2.2.2, h.2⟩
theorem Mc.new_ok {p : Plan} (h : p.may = true) : (Mc.new p).ok := by
  obtain ⟨h1, h2, h3, h4, h5⟩ := Plan.may_spec h
  refine ⟨newAr_ok, newAr_lok, fun x hx => ?_, by show (Mc.threads _ _ _ _ _).length ≤ 4; rw [Mc.threads_len]; exact h2, rfl, fun y hy => ?_, Int.le_refl 0, (by show (0 : Int) ≤ 65536; decide), Int.le_refl 0⟩
  · obtain ⟨j, t, e1, rfl⟩ := Mc.threads_mem hx
    have hj := (List.getElem?_eq_some_iff.1 e1).1
    refine ⟨Th.new_ok ⟨by omega, by omega, ⟨h3, h4⟩, h5 t (List.mem_of_getElem? e1)⟩, (fun a h => by cases h), (fun e h => by cases h), ⟨⟨Int.le_refl (-1), by show (-1 : Int) < 12; decide⟩, fun a h => by cases h⟩⟩
  · have : y = 0 := List.eq_of_mem_replicate (n := 12) hy
    subst this
    exact ⟨Int.le_refl 0, Int.le_refl 0⟩
section
variable {A : Ar} {x : Th} {L : List Int} {pick s : Int}
theorem evTurn_mem {es : List Event} {f : Event → Event} {e : Event} (h : e ∈ evTurn es f) : e ∈ es ∨ ∃ e0 ∈ es, e = f e0 := by
  obtain ⟨i, hi, he⟩ := List.mem_iff_getElem.1 h
  obtain ⟨e0, h1, h2⟩ := evTurn_get (show (evTurn es f)[i]? = some e by rw [List.getElem?_eq_getElem hi, he])
  rcases h2 with ⟨rfl, _⟩ | ⟨rfl, _⟩
  · exact .inl (List.mem_of_getElem? h1)
  · exact .inr ⟨e0, List.mem_of_getElem? h1, rfl⟩
theorem Th.answer_short (o : ∀ n, x.att = some n → n.ans.length ≤ 2) (h : Short x.evs) : Short (x.answer pick).evs := by
  unfold Th.answer
  split
  · intro e he
    rcases evTurn_mem he with h1 | ⟨e0, h1, rfl⟩
    · exact h e h1
    · exact h e0 h1
  · intro e he
    rcases evTurn_mem he with h1 | ⟨e0, h1, rfl⟩
    · exact h e h1
    · simp only
      split
      · cases ha : x.att with
        | none => simp
        | some n => exact o n ha
      · exact h e0 h1
theorem Th.act_evs {a : Act} (h : a ≠ .adv) : (x.act A L pick a).1.1.evs = x.evs := by
  have tris : ∀ y : Th, (y.tris A).1.evs = y.evs := fun y => by unfold Th.tris; split <;> rfl
  have taks : ∀ y : Th, (y.taks A L).1.1.evs = y.evs := fun y => by
    unfold Th.taks
    split
    · rw [tris]; rfl
    · simp only
      split
      · rfl
      · split <;> rfl
  cases a with
  | ent =>
    show (x.ents A).1.evs = x.evs
    unfold Th.ents
    cases x.ent with
    | none => rfl
    | some n => simp only; split <;> rfl
  | fre =>
    unfold Th.act Th.fres
    have hc : x.cached.evs = x.evs := by unfold Th.cached; split <;> rfl
    simp only
    split
    · rw [taks, hc]
    · split <;> exact hc
  | tak => exact taks x
  | tri => exact tris x
  | ret => show (x.rets A).1.evs = x.evs; unfold Th.rets; split <;> rfl
  | lea => rfl
  | adv => exact absurd rfl h
theorem Th.act_short {a : Act} (o : x.ok) (h : Short x.evs) : Short (x.act A L pick a).1.1.evs := by
  by_cases e : a = .adv
  · subst e
    unfold Th.act Th.advs
    cases hd : x.adv with
    | none => exact h
    | some d =>
      simp only
      split
      · exact Th.answer_short (x := { x with adv := some (d.step A).1 }) (fun n hn => (o.att n hn).2) h
      · exact h
  · rw [Th.act_evs e]; exact h
theorem Th.ended_evs {r : (Th × Int × Ar) × List Int} : (Th.ended r).1.evs = r.1.1.evs := by unfold Th.ended; split <;> rfl
theorem Th.begin_short (h : Short x.evs) : Short (x.begin pick).1.evs := by
  unfold Th.begin
  split
  · exact h
  · split
    · exact h
    · simp only
      split
      · intro e he
        rcases List.mem_append.1 he with h1 | h1
        · exact h e h1
        · rw [List.mem_singleton.1 h1]; exact Nat.zero_le 2
      · exact h
theorem Th.step_short (o : x.ok) (h : Short x.evs) : Short (x.step A L pick).1.evs := by
  cases hd : x.dead with
  | true => rw [Th.step_dead hd]; exact h
  | false =>
    have o1 : x.z.ok := { o with }
    cases hx : x.next with
    | some a => rw [Th.step_some hd hx, Th.ended_evs]; exact Th.act_short o1 h
    | none =>
      rw [Th.step_none hd hx]
      have b := Th.begin_ok (pick := pick) o1 hx
      have bs := Th.begin_short (pick := pick) (x := x.z) h
      split
      · rw [Th.ended_evs]; exact Th.act_short b.1 bs
      · exact bs
theorem Th.decide_short (h : Short x.evs) : Short (x.decide s pick).evs := by
  unfold Th.decide
  split
  · intro e he
    rcases evTurn_mem he with h1 | ⟨e0, h1, rfl⟩
    · exact h e h1
    · exact h e0 h1
  · exact h
theorem Th.step_lives : (x.step A L pick).2.2.2.2 = L ∨ ∃ s, (x.step A L pick).2.2.2.2 = lived s L := by
  have taks : ∀ y : Th, (y.taks A L).2 = L ∨ ∃ s, (y.taks A L).2 = lived s L := fun y => by
    unfold Th.taks
    split
    · exact .inr ⟨_, rfl⟩
    · simp only
      split
      · exact .inl rfl
      · split
        · exact .inl rfl
        · exact .inr ⟨_, rfl⟩
  have act : ∀ (y : Th) a, (y.act A L pick a).2 = L ∨ ∃ s, (y.act A L pick a).2 = lived s L := fun y a => by
    cases a with
    | fre =>
      unfold Th.act Th.fres
      simp only
      split
      · exact taks _
      · split <;> exact .inl rfl
    | tak => exact taks _
    | _ => exact .inl rfl
  have ended : ∀ r : (Th × Int × Ar) × List Int, (Th.ended r).2.2.2.2 = r.2 := fun r => by unfold Th.ended; split <;> rfl
  cases hd : x.dead with
  | true => rw [Th.step_dead hd]; exact .inl rfl
  | false =>
    cases hx : x.next with
    | some a => rw [Th.step_some hd hx, ended]; exact act _ _
    | none =>
      rw [Th.step_none hd hx]
      split
      · rw [ended]; exact act _ _
      · exact .inl rfl
theorem Th.decide_wrs (h : x.wrs) : (x.decide s pick).wrs := by unfold Th.decide; split <;> exact h
end
theorem decAll_len {t : Touch} {pick : Int} {xs : List Th} : (decAll t pick xs).length = xs.length := by
  unfold decAll; split
  · rw [List.length_map]
  · rfl
theorem Mc.pick_ok {M : Mc} {k : Int} (o : M.ok) : (M.pick k).1.ok := by
  unfold Mc.pick
  split
  · exact o
  · rename_i c
    split
    · exact o
    · rename_i x hx
      have hp : M.picks < 65536 := by omega
      have ox := o.ths x (List.mem_of_getElem? hx)
      have s := Th.step_ok (L := M.L) ox.1 o.A o.p0
      have a := Th.step_acc (L := M.L) (pick := M.picks) ox.1 ox.2.1 o.A
      have hs := Th.step_short (A := M.A) (L := M.L) (pick := M.picks) ox.1 ox.2.2.1
      have ht := Th.step_tsr (A := M.A) (L := M.L) (pick := M.picks) ox.1 ox.2.2.2
      have hl := Th.step_lives (A := M.A) (x := x) (L := M.L) (pick := M.picks)
      generalize x.step M.A M.L M.picks = r at s a hs hl ht
      simp only
      have base : ∀ y ∈ M.ths.set k.toNat r.1, y.ok ∧ y.wrs ∧ Short y.evs ∧ y.tsr := fun y hy => by
        rcases List.mem_or_eq_of_mem_set hy with q | q
        · exact o.ths y q
        · subst q; exact ⟨s.1, a.2, hs, ht⟩
      refine ⟨s.2, a.1.lok o.A o.l, fun y hy => ?_, ?_, ?_, fun y hy => ?_, (by have := o.p0; show 0 ≤ M.picks + 1; omega), (by show M.picks + 1 ≤ 65536; omega), ?_⟩
      · simp only at hy
        split at hy
        · unfold decAll at hy
          split at hy
          · obtain ⟨z, hz, rfl⟩ := List.mem_map.1 hy
            have := base z hz
            exact ⟨Th.decide_ok this.1, Th.decide_wrs this.2.1, Th.decide_short this.2.2.1, Th.decide_tsr this.2.2.2⟩
          · exact base y hy
        · exact base y hy
      · show (if r.2.1 = true then decAll _ _ _ else _ : List Th).length ≤ 4
        have := o.n
        split
        · rw [decAll_len, List.length_set]; exact this
        · rw [List.length_set]; exact this
      · show r.2.2.2.2.length = 12
        have := o.L
        rcases hl with e | ⟨s, e⟩
        · rw [e]; exact this
        · rw [e]; unfold lived; rw [List.length_set]; exact this
      · show 0 ≤ y ∧ y ≤ M.picks + 1
        simp only at hy
        have old : ∀ z ∈ M.L, 0 ≤ z ∧ z ≤ M.picks + 1 := fun z hz => by have := o.L2 z hz; omega
        rcases hl with e | ⟨s, e⟩
        · rw [e] at hy; exact old y hy
        · rw [e] at hy
          unfold lived at hy
          rcases List.mem_or_eq_of_mem_set hy with q | q
          · exact old y q
          · rw [q, List.getD_eq_getElem?_getD]
            have p0 := o.p0
            cases hg : M.L[s.toNat]? with
            | none => simp only [Option.getD_none]; omega
            | some z => have := o.L2 z (List.mem_of_getElem? hg); simp only [Option.getD_some]; omega
      · show ((if r.2.1 = true then M.ts ++ [_] else M.ts : List Touch).length : Int) ≤ M.picks + 1
        have := o.ts
        split
        · simp only [List.length_append, List.length_singleton]; omega
        · omega
attribute [local irreducible] bnd ldV stV ifV binV eqI
set_option maxRecDepth 20000
def mcRow (a : Nat) (tv : Value) (L : List Int) (picks : Int) (xv : Value) : GObj := lvRow 151 16 [ptr a, tv] L [i64 picks, xv]
def mcP (b : Nat) (M : Mc) : Part := fun h => ∃ (a : Nat) (bs : List Nat) (tv xv : Value), All [pts b (mcRow a tv M.L M.picks xv), arP 138 a M.A, rowP 1 tv (bs.map encP), rowP 8 xv (M.ts.map Touch.enc), eachP thP bs M.ths] h
section
variable {a b : Nat} {R : List Part} {h : GH} {K : Value → GH → Prop} {M : Mc}
theorem mcP_open {C : Prop} (hp : All (mcP b M :: R) h) (k : ∀ a bs tv xv, All (pts b (mcRow a tv M.L M.picks xv) :: arP 138 a M.A :: rowP 1 tv (bs.map encP) :: rowP 8 xv (M.ts.map Touch.enc) :: eachP thP bs M.ths :: R) h → C) : C := by
  obtain ⟨a, hp⟩ := All.ex hp
  obtain ⟨bs, hp⟩ := All.ex hp
  obtain ⟨tv, hp⟩ := All.ex hp
  obtain ⟨xv, hp⟩ := All.ex hp
  exact k a bs tv xv (All.flat hp)
theorem mcP_shut {a : Nat} {bs : List Nat} {tv xv : Value} (hp : All (pts b (mcRow a tv M.L M.picks xv) :: arP 138 a M.A :: rowP 1 tv (bs.map encP) :: rowP 8 xv (M.ts.map Touch.enc) :: eachP thP bs M.ths :: R) h) : All (mcP b M :: R) h :=
  (All.fold (l := [_, _, _, _, _]) hp).head fun h1 z => ⟨a, bs, tv, xv, z⟩
theorem lv_ld2 {U : TypeId} {sz n k : Nat} {pre post : List Value} {L : List Int} {v : Value} (hp : All (pts b (lvRow U sz pre L post) :: R) h) (j : Nat) (hv : post[j]? = some v) (hk : k = pre.length + L.length + j) : ldV n false (.pointer (some ⟨b, k, none⟩)) h = some v := by
  rw [ldV_cell hp.pt0, hk, List.getElem?_append_right (by omega), List.getElem?_append_right (by rw [List.length_map]; omega), List.length_map]
  rw [show pre.length + L.length + j - pre.length - L.length = j by omega]
  exact hv
theorem lv_st2 {U : TypeId} {sz k : Nat} {pre post : List Value} {L : List Int} {y : Value} {K : GH → Prop} (hp : All (pts b (lvRow U sz pre L post) :: R) h) (j : Nat) (hj : j < post.length) (hk : k = pre.length + L.length + j) (hy : y.cells.size = 1) (hy2 : y.cells.toList = [y])
    (k' : ∀ h', All (pts b (lvRow U sz pre L (post.set j y)) :: R) h' → K h') (ho : oneCell y = true := by rfl) : bnd (stV 1 (.pointer (some ⟨b, k, none⟩)) y h) K := by
  refine st0 hp (lvRow U sz pre L (post.set j y)) hy (by simp only [List.length_append, List.length_map]; omega) (by rw [hy2]; simp [ho]) ?_ k'
  rw [hy2]
  show GObj.row _ ((pre ++ (L.map i64 ++ post)).set k y) _ _ = _
  rw [hk, List.set_append_right _ _ (by omega), List.set_append_right _ _ (by rw [List.length_map]; omega), List.length_map]
  rw [show pre.length + L.length + j - pre.length - L.length = j by omega]
  rfl
theorem T_StateW {g st : Int} (h0 : 0 ≤ g) (h1 : g < 1099511627776) (h2 : 0 ≤ st) (h3 : st < 4) (hK : K (i64 (stateW g st)) h) : T Tryz.prog 138 [i64 g, i64 st] h K := by
  apply S138_T
  unfold S138
  refine wk ?_
  refine T_Of (by omega) (by omega) ?_
  exact hK
theorem quo4 {x : Int} (h : 0 ≤ x) (h2 : x < 1099511627776) : binV .quo (i64 x) (.int .i64 4) = some (i64 (x / 4)) := quo_nn h (by omega) (by decide)
theorem T_decides {d : Nat} {t : Touch} (hp : All (pts d (.row 60 t.enc 8 true) :: R) h) (a0 : 0 ≤ t.at_) (a1 : t.at_ < 634) (hn : I64 t.now)
    (hK : (∀ s, t.dec = none → K (.tuple #[i64 s, .bool false]) h) ∧ ∀ s, t.dec = some s → K (.tuple #[i64 s, .bool true]) h) : T Tryz.prog 115 [ptr d] h K := by
  apply S115_T
  unfold S115
  obtain ⟨k1, k2⟩ := hK
  unfold Touch.dec at k1 k2
  have hp0 := hp
  unfold Touch.enc at hp
  refine wk ?_
  -- the slot, if there is one
  have hq : ∃ sv, binV .quo (i64 (t.at_ - 34)) (.int .i64 50) = some (i64 sv) ∧ (34 ≤ t.at_ → sv = (t.at_ - 34) / 50) := by
    rcases Int.lt_or_le t.at_ 34 with c | c
    · refine ⟨(t.at_ - 34).tdiv 50, ?_, fun q => by omega⟩
      have hr : (t.at_ - 34).tdiv 50 = 0 := by
        have all : ∀ k : Fin 34, ((k.val : Int) - 34).tdiv 50 = 0 := by decide
        have := all ⟨t.at_.toNat, by omega⟩
        simp only at this
        rw [show ((t.at_.toNat : Nat) : Int) = t.at_ by omega] at this
        exact this
      rw [binV_quo, if_neg (by decide), hr]; rfl
    · exact ⟨(t.at_ - 34) / 50, quo_nn (by omega) (by omega) (by decide), fun _ => rfl⟩
  obtain ⟨sv, q1, q2⟩ := hq
  refine bnd_of q1 ?_
  refine wk ?_
  refine T_Plain hn.2 ?_
  refine wk ?_
  refine ifN_cases (fun c => ?_) fun c => ?_
  · exact k1 _ (by rw [if_pos (.inl c)])
  refine wk ?_
  refine ifV_cases (fun c2 => ?_) fun c2 => ?_
  · exact k1 _ (by rw [if_pos (.inr (.inl c2))])
  refine wk ?_
  refine ifV_cases (fun c3 => ?_) fun c3 => ?_
  · exact k1 _ (by rw [if_pos (.inr (.inr (.inl c3)))])
  have c3 : 34 ≤ t.at_ := by omega
  have q2 := q2 c3
  subst q2
  refine wk ?_
  refine T_Base (by omega) (by omega) ?_
  refine wk ?_
  refine ifN_cases (fun c4 => ?_) fun c4 => ?_
  · exact k1 _ (by rw [if_pos (.inr (.inr (.inr (.inl c4))))])
  cases hpl : plainOf t.now with
  | none =>
    refine wk ?_
    exact k1 _ (by rw [if_pos (.inr (.inr (.inr (.inr (by rw [hpl]; rfl)))))])
  | some v =>
    simp only [Option.getD_some]
    refine wk ?_
    unfold S115_j1
    have hv := plainOf_range hpl
    refine wk ?_
    refine bnd_of (quo4 hv.1 hv.2) ?_
    refine T_StateW (by have := hv.1; omega) (by have := hv.2; omega) (by decide) (by decide) ?_
    refine wk ?_
    have ev : valOf t.now = v := by unfold valOf; rw [hpl]; rfl
    have hno : ¬ (t.kind ≠ 2 ∨ t.was = t.now ∨ t.at_ < 34 ∨ t.at_ ≠ baseOf ((t.at_ - 34) / 50) ∨ (plainOf t.now).isSome = false) := by
      rw [hpl]
      rintro (q | q | q | q | q)
      · exact q c
      · exact c2 q
      · omega
      · exact q c4
      · cases q
    rw [if_neg hno, ev] at k1
    rw [if_neg hno, ev] at k2
    by_cases c5 : t.now = stateW (v / 4) 1
    · rw [decide_eq_true c5]
      exact k2 _ (by rw [if_pos c5])
    · rw [decide_eq_false c5]
      exact k1 _ (by rw [if_neg c5])
end
end Go.Proofs.YtfphpafkhljncaaGreat
namespace Go.Proofs.YtfphpafkhljncaaGreat
open Go GW Go.Proofs
attribute [local irreducible] bnd ldV stV ifV binV eqI
set_option maxRecDepth 20000
theorem list8 {l : List Int} (h : l.length = 8) : ∃ a0 a1 a2 a3 a4 a5 a6 a7, l = [a0, a1, a2, a3, a4, a5, a6, a7] := by
  match l, h with
  | [a0, a1, a2, a3, a4, a5, a6, a7], _ => exact ⟨_, _, _, _, _, _, _, _, rfl⟩
theorem map_part {α : Type} {f : α → α} {l : List α} {i : Nat} {x : α} (h : l[i]? = some x) : ((l.take i).map f ++ l.drop i).set i (f x) = (l.take (i + 1)).map f ++ l.drop (i + 1) := by
  have hi := (List.getElem?_eq_some_iff.1 h).1
  have e : l.drop i = x :: l.drop (i + 1) := by
    rw [List.drop_eq_getElem_cons hi]
    rw [List.getElem?_eq_getElem hi] at h; cases h; rfl
  have hl : ((l.take i).map f).length = i := by rw [List.length_map, List.length_take]; omega
  rw [List.set_append_right _ _ (by omega), hl, Nat.sub_self, e, List.set_cons_zero, List.take_add_one, h, List.map_append, List.append_assoc]; rfl
theorem map_part_get {α : Type} {f : α → α} {l : List α} {i : Nat} {x : α} (h : l[i]? = some x) : ((l.take i).map f ++ l.drop i)[i]? = some x := by
  have hi := (List.getElem?_eq_some_iff.1 h).1
  have hl : ((l.take i).map f).length = i := by rw [List.length_map, List.length_take]; omega
  rw [List.getElem?_append_right (by omega), hl, Nat.sub_self, List.getElem?_drop]; exact h
section
variable {a b : Nat} {R : List Part} {h : GH} {K : Value → GH → Prop} {M : Mc} {bs : List Nat} {xs : List Th} {tv xv : Value} {L : List Int} {picks : Int} {ts : List Touch} {A : Ar}
theorem T_note {k : Nat} {x : Th} (hp : All (pts b (mcRow a tv L picks xv) :: arP 138 a A :: rowP 1 tv (bs.map encP) :: rowP 8 xv (ts.map Touch.enc) :: eachP thP bs xs :: R) h) (hx : xs[k]? = some x) (tr : x.tsr) (hL : L.length = 12) (lok : A.lok) (hm : ts.length ≤ 100000) (oe : ∀ y ∈ xs, y.evs.length ≤ 8) (hn4 : xs.length ≤ 4)
    (hK : ∀ xv' h', All (pts b (mcRow a tv L picks xv') :: arP 138 a A :: rowP 1 tv (bs.map encP) :: rowP 8 xv' ((ts ++ [noteT A L k x]).map Touch.enc) :: eachP thP bs (decAll (noteT A L k x) picks xs) :: R) h' → K (.tuple #[]) h') : T Tryz.prog 89 [ptr b, i64 k] h K := by
  apply S89_T
  unfold S89
  have hA := (arP.at (hn (hp.up 1))).2
  obtain ⟨l0, l1, l2, l3, l4, l5, l6, l7, el⟩ := list8 hA.touch
  have lok' := lok
  have bl : bs.length = xs.length := All.case (hn (hp.up 4)) fun h1 p _ => eachP_len p
  have kl : k < xs.length := (List.getElem?_eq_some_iff.1 hx).1
  obtain ⟨tb, htb⟩ : ∃ tb, bs[k]? = some tb := ⟨_, List.getElem?_eq_getElem (by omega)⟩
  unfold mcRow lvRow at hp
  refine wk ?_
  refine T_Last (hn (hp.up 1)) ?_
  refine wk ?_
  rw [el]
  refine nwst hp (.row 60 [i64 l0, i64 l1, i64 l2, i64 l3, i64 l4, i64 l5, i64 l6, i64 l7] 8 true) rfl rfl rfl rfl fun d h1 hp => ?_
  refine wk ?_
  refine st0 hp (.row 60 [i64 k, i64 l1, i64 l2, i64 l3, i64 l4, i64 l5, i64 l6, i64 l7] 8 true) rfl (by simp) rfl rfl fun h2 hp => ?_
  refine wk ?_
  obtain ⟨p, e1, e2⟩ := (All.rows (hn (hp.up 3))).get1 (i := k) (x := ptr tb) (by rw [List.getElem?_map, htb]; rfl) .i64
  refine bnd_of e1 (bnd_of e2 ?_)
  refine T_thThrough (eachP_at htb hx (hn (hp.up 5))) ?_
  refine wk ?_
  refine st0 hp (.row 60 [i64 k, i64 l1, i64 l2, i64 l3, i64 l4, i64 x.ts, i64 l6, i64 l7] 8 true) rfl (by simp) rfl rfl fun h3 hp => ?_
  refine wk ?_
  refine st0 hp (.row 60 [i64 k, i64 l1, i64 l2, i64 l3, i64 l4, i64 x.ts, i64 x.tg, i64 l7] 8 true) rfl (by simp) rfl rfl fun h4 hp => ?_
  refine wk ?_
  have j1 : ∀ h', All (pts d (.row 60 (noteT A L k x).enc 8 true) :: pts b (mcRow a tv L picks xv) :: arP 138 a A :: rowP 1 tv (bs.map encP) :: rowP 8 xv (ts.map Touch.enc) :: eachP thP bs xs :: R) h' → S89_j1 (ptr b) (ptr d) h' K := by
    intro h' hp
    have ta : (noteT A L k x).at_ = l2 := by show A.last.getD 2 0 = l2; rw [el]; rfl
    have tn : (noteT A L k x).now = l4 := by show A.last.getD 4 0 = l4; rw [el]; rfl
    have k1 := lok.at0; have k2 := lok.at1; have k3 := lok.now
    rw [el] at k1 k2 k3
    generalize noteT A L k x = t at hp hK ta tn
    unfold S89_j1
    refine wk ?_
    have ld15 : ∀ {h'} {R'} {xv}, All (pts b (mcRow a tv L picks xv) :: R') h' → ldV 1 false (.pointer (some ⟨b, 0 + 15, none⟩)) h' = some xv := fun hp => lv_ld2 hp 1 rfl (by rw [hL]; rfl)
    have ld14 : ∀ {h'} {R'} {xv}, All (pts b (mcRow a tv L picks xv) :: R') h' → ldV 1 false (.pointer (some ⟨b, 0 + 14, none⟩)) h' = some (i64 picks) := fun hp => lv_ld2 hp 0 rfl (by rw [hL]; rfl)
    refine bnd_of (ld15 (hn (hp.up 1))) ?_
    refine la0 hp (c := t.enc) (Nat.le_refl 8) rfl ?_
    refine bs0 (size := 8) hp ([t].map Touch.enc) rfl rfl (by simp) (Touch.all_good _) fun sv h5 hp => ?_
    have r2 := hp.rows
    refine ap0 (hn (hp.up 5)) r2 (Touch.all_good _) (by decide) (by simp only [List.length_map, List.length_cons, List.length_nil]; omega) fun xv' h6 hp => ?_
    rw [← List.map_append] at hp
    obtain ⟨ad, ln, cap, rfl⟩ := All.isSlice hp
    replace hp := hn (hp.re 7 [3, 2, 4, 5, 0, 6])
    refine wk ?_
    unfold mcRow at hp
    refine lv_st2 hp 1 (by simp) (by rw [hL]; rfl) rfl rfl fun h7 hp => ?_
    replace hp : All (pts b (mcRow a tv L picks (.slice ad ln cap)) :: _) h7 := hp
    replace hp := hn (hp.re 2 [1, 0])
    refine T_decides hp (by rw [ta]; exact k1) (by rw [ta]; exact k2) (by rw [tn]; exact k3) ⟨fun s hd => ?_, fun s hd => ?_⟩
    · unfold decAll at hK
      rw [hd] at hK
      refine wk ?_
      exact hK _ _ hp.tail
    · unfold decAll at hK
      rw [hd] at hK
      dsimp only at hK
      replace hp := hp.tail
      unfold mcRow lvRow at hp
      refine wk ?_
      have htl : lnV tv = some (i64 xs.length) := by have := All.len (hn (hp.up 2)); rw [List.length_map, bl] at this; exact this
      refine bnd_of htl ?_
      refine Lfp_fam (ι := Nat) (fun i => [ptr b, i64 s, tv, i64 xs.length, i64 i]) (fun i h' => i ≤ xs.length ∧ All (pts b (mcRow a tv L picks (.slice ad ln cap)) :: arP 138 a A :: rowP 1 tv (bs.map encP) :: rowP 8 (.slice ad ln cap) ((ts ++ [t]).map Touch.enc) :: eachP thP bs ((xs.take i).map (fun x => x.decide s picks) ++ xs.drop i) :: R) h') (fun i => xs.length - i) ?_ 0 h7 ⟨by omega, hp⟩
      clear hp
      rintro i h8 X ⟨hi, hp⟩ again
      simp only [tup_zero, tup_succ]
      refine wk ?_
      refine ifV_cases (fun c => ?_) fun c => ?_
      · obtain ⟨y, hy⟩ : ∃ y, xs[i]? = some y := ⟨_, List.getElem?_eq_getElem (by omega)⟩
        obtain ⟨yb, hyb⟩ : ∃ yb, bs[i]? = some yb := ⟨_, List.getElem?_eq_getElem (by omega)⟩
        obtain ⟨p, e1, e2⟩ := (All.rows (hn (hp.up 2))).get1 (i := i) (x := ptr yb) (by rw [List.getElem?_map, hyb]; rfl) .i64
        refine bnd_of e1 (bnd_of e2 ?_)
        refine wk ?_
        refine bnd_of (ld14 hp) ?_
        have hy2 := map_part_get (f := fun x : Th => x.decide s picks) hy
        refine T_thDecide (eachP_at hyb hy2 (hn (hp.up 4))) (oe y (List.mem_of_getElem? hy)) fun h9 hp => ?_
        have hp := eachP_put (b := y.decide s picks) hyb (by simp only [List.length_append, List.length_map, List.length_take, List.length_drop]; omega) hp
        rw [map_part (f := fun x : Th => x.decide s picks) hy] at hp
        refine wk ?_
        exact again (i + 1) _ ⟨by omega, hn (hp.re 5 [1, 2, 3, 4, 0])⟩ (by omega)
      · have : i = xs.length := by omega
        subst this
        rw [List.take_length, List.drop_length, List.append_nil] at hp
        exact hK _ _ hp
  have tr0 := tr.1.1; have tr1 := tr.1.2
  have hp0 : All (pts d (.row 60 [i64 k, i64 l1, i64 l2, i64 l3, i64 l4, i64 x.ts, i64 x.tg, i64 l7] 8 true) :: pts b (mcRow a tv L picks xv) :: arP 138 a A :: rowP 1 tv (bs.map encP) :: rowP 8 xv (ts.map Touch.enc) :: eachP thP bs xs :: R) h4 := hp
  refine ifV_cases (fun c => ?_) fun c => ?_
  · obtain ⟨n, en⟩ := Int.eq_ofNat_of_zero_le c
    refine wk ?_
    rw [en]
    refine bnd_of (iaV_at (by omega) .i64) ?_
    have hl : ldV 1 false (.pointer (some ⟨b, 2 + n * 1, none⟩)) h4 = some (i64 (L.getD n 0)) := lv_ld (pre := [ptr a, tv]) (hn (hp0.up 1)) (by omega)
    refine bnd_of hl ?_
    refine wk ?_
    refine st0 hp (.row 60 [i64 k, i64 l1, i64 l2, i64 l3, i64 l4, i64 x.ts, i64 x.tg, i64 (L.getD n 0)] 8 true) rfl (by simp) rfl (by rw [en]; rfl) fun h5 hp => ?_
    refine j1 _ ?_
    have e : (noteT A L k x).enc = [i64 k, i64 l1, i64 l2, i64 l3, i64 l4, i64 x.ts, i64 x.tg, i64 (L.getD n 0)] := by
      unfold noteT Ar.lst Touch.enc
      rw [el, if_pos c, en]; rfl
    rw [e]
    exact hp
  · refine j1 _ ?_
    have e : (noteT A L k x).enc = [i64 k, i64 l1, i64 l2, i64 l3, i64 l4, i64 x.ts, i64 x.tg, i64 l7] := by
      unfold noteT Ar.lst Touch.enc
      rw [el, if_neg c]; rfl
    rw [e]
    exact hp
end
end Go.Proofs.YtfphpafkhljncaaGreat
namespace Go.Proofs.YtfphpafkhljncaaGreat
open Go GW Go.Proofs
attribute [local irreducible] bnd ldV stV ifV binV eqI
set_option maxRecDepth 20000
section
variable {a b : Nat} {R : List Part} {h : GH} {K : Value → GH → Prop} {M : Mc} {k : Int}
theorem Mc.pick_no (c : ¬ (0 ≤ k ∧ k < M.ths.length) ∨ 65536 ≤ M.picks) : M.pick k = (M, false, 1900) := by unfold Mc.pick; rw [if_pos c]
theorem Mc.pick_yes {n : Nat} {x : Th} (hx : M.ths[n]? = some x) (hp : M.picks < 65536) : M.pick n =
    ({ A := (x.step M.A M.L M.picks).2.2.2.1, ths := if (x.step M.A M.L M.picks).2.1 then decAll (noteT (x.step M.A M.L M.picks).2.2.2.1 (x.step M.A M.L M.picks).2.2.2.2 n (x.step M.A M.L M.picks).1) M.picks (M.ths.set n (x.step M.A M.L M.picks).1) else M.ths.set n (x.step M.A M.L M.picks).1, L := (x.step M.A M.L M.picks).2.2.2.2, picks := M.picks + 1, ts := if (x.step M.A M.L M.picks).2.1 then M.ts ++ [noteT (x.step M.A M.L M.picks).2.2.2.1 (x.step M.A M.L M.picks).2.2.2.2 n (x.step M.A M.L M.picks).1] else M.ts }, (x.step M.A M.L M.picks).2.1, if (x.step M.A M.L M.picks).2.2.1 = 0 then 0 else 1900) := by
  have hn := (List.getElem?_eq_some_iff.1 hx).1
  unfold Mc.pick
  rw [if_neg (by omega)]
  simp only [Int.toNat_natCast, hx]
theorem Th.ok.evs8 {x : Th} (o : x.ok) : x.evs.length ≤ 8 := by have := o.evs; have := thrMay_spec o.txns; omega
theorem T_mPick (hp : All (mcP b M :: R) h) (o : M.ok) (hK : ∀ h', All (mcP b (M.pick k).1 :: R) h' → K (.tuple #[.bool (M.pick k).2.1, i64 (M.pick k).2.2]) h') : T Tryz.prog 48 [ptr b, i64 k] h K := by
  apply S48_T
  unfold S48
  refine wk ?_
  have hp00 := hp
  refine mcP_open hp fun a bs tv xv hp => ?_
  have bl : bs.length = M.ths.length := All.case (hn (hp.up 4)) fun h1 p _ => eachP_len p
  have ld14 : ∀ {h'} {R'} {L : List Int} {xv}, L.length = 12 → All (pts b (mcRow a tv L M.picks xv) :: R') h' → ldV 1 false (.pointer (some ⟨b, 0 + 14, none⟩)) h' = some (i64 M.picks) := fun hL hp => lv_ld2 hp 0 rfl (by rw [hL]; rfl)
  have hp0 := hp
  unfold mcRow lvRow at hp
  refine wk ?_
  have htl : lnV tv = some (i64 M.ths.length) := by have := All.len (hn (hp.up 2)); rw [List.length_map, bl] at this; exact this
  refine bnd_of htl ?_
  refine T_Below ?_
  refine wk ?_
  refine ifN_cases (fun c => ?_) fun c => ?_
  · rw [Mc.pick_no (.inl c)] at hK
    exact hK _ hp00
  refine wk ?_
  refine bnd_of (ld14 o.L hp0) ?_
  refine wk ?_
  refine ifV_cases (fun c2 => ?_) fun c2 => ?_
  · rw [Mc.pick_no (.inr c2)] at hK
    exact hK _ hp00
  obtain ⟨n, rfl⟩ := Int.eq_ofNat_of_zero_le c.1
  have hn0 : n < M.ths.length := by omega
  obtain ⟨x, hx⟩ : ∃ x, M.ths[n]? = some x := ⟨_, List.getElem?_eq_getElem hn0⟩
  obtain ⟨tb, htb⟩ : ∃ tb, bs[n]? = some tb := ⟨_, List.getElem?_eq_getElem (by omega)⟩
  rw [Mc.pick_yes hx (by omega)] at hK
  have ox := o.ths x (List.mem_of_getElem? hx)
  have s := Th.step_ok (L := M.L) ox.1 o.A o.p0
  have ac := Th.step_acc (L := M.L) (pick := M.picks) ox.1 ox.2.1 o.A
  have trs := Th.step_tsr (A := M.A) (L := M.L) (pick := M.picks) ox.1 ox.2.2.2
  have hl := Th.step_lives (A := M.A) (x := x) (L := M.L) (pick := M.picks)
  have hlok := ac.1.lok o.A o.l
  unfold S48_j1
  refine wk ?_
  obtain ⟨p, e1, e2⟩ := (All.rows (hn (hp.up 2))).get1 (i := n) (x := ptr tb) (by rw [List.getElem?_map, htb]; rfl) .i64
  refine bnd_of e1 (bnd_of e2 ?_)
  refine wk ?_
  refine bnd_of (ld14 o.L hp0) ?_
  have p0 := o.p0
  have hLok : Lok M.L := ⟨o.L, fun y hy => by have := o.L2 y hy; have := o.p1; omega⟩
  have hp1 := eachP_at htb hx (hn (hp0.up 4))
  replace hp1 : All (arP 138 a M.A :: pts b (lvRow 151 16 [ptr a, tv] M.L [i64 M.picks, xv]) :: thP tb x :: eachP thP (bs.eraseIdx n) (M.ths.eraseIdx n) :: rowP 1 tv (bs.map encP) :: rowP 8 xv (M.ts.map Touch.enc) :: R) h := hn (hp1.re 6 [3, 2, 0, 1, 4, 5])
  refine T_thStep hp1 ox.1 hLok p0 fun h1 hp => ?_
  clear hp1 hp0
  generalize x.step M.A M.L M.picks = r at hp hK s ac trs hl hlok
  obtain ⟨x', is, code, A', L'⟩ := r
  dsimp only at hp hK s ac trs hl hlok ⊢
  have hL' : L'.length = 12 := by
    rcases hl with e | ⟨s, e⟩
    · rw [e]; exact o.L
    · rw [e]; unfold lived; rw [List.length_set]; exact o.L
  have hp2 := eachP_put (b := x') htb hn0 (hn (hp.re 4 [2, 3, 0, 1]))
  replace hp2 : All (pts b (mcRow a tv L' M.picks xv) :: arP 138 a A' :: rowP 1 tv (bs.map encP) :: rowP 8 xv (M.ts.map Touch.enc) :: eachP thP bs (M.ths.set n x') :: R) h1 := hn (hp2.re 5 [2, 1, 3, 4, 0])
  clear hp
  have j2 : ∀ (xv' : Value) (ths : List Th) (ts : List Touch) h', (∀ h'', All (mcP b ⟨A', ths, L', M.picks + 1, ts⟩ :: R) h'' → K (.tuple #[.bool is, i64 (if code = 0 then 0 else 1900)]) h'') → All (pts b (mcRow a tv L' M.picks xv') :: arP 138 a A' :: rowP 1 tv (bs.map encP) :: rowP 8 xv' (ts.map Touch.enc) :: eachP thP bs ths :: R) h' → S48_j2 (ptr b) (.bool is) (i64 code) h' K := by
    intro xv' ths ts h' hK hp
    unfold S48_j2
    refine wk ?_
    refine bnd_of (ld14 hL' hp) ?_
    refine wk ?_
    unfold mcRow at hp
    refine lv_st2 hp 0 (by simp) (by rw [hL']; rfl) rfl rfl fun h2 hp => ?_
    replace hp : All (pts b (mcRow a tv L' (M.picks + 1) xv') :: _) h2 := hp
    have := hK _ (mcP_shut (M := ⟨A', ths, L', M.picks + 1, ts⟩) hp)
    refine wk ?_
    by_cases c : code = 0
    · rw [if_pos c] at this
      rw [decide_eq_true c]
      refine wk ?_
      exact this
    · rw [if_neg c] at this
      rw [decide_eq_false c]
      refine wk ?_
      exact this
  refine wk ?_
  have hx2 : (M.ths.set n x')[n]? = some x' := List.getElem?_set_self hn0
  cases is with
  | false =>
    refine wk ?_
    exact j2 xv _ _ _ hK hp2
  | true =>
    refine wk ?_
    refine T_note hp2 hx2 trs hL' hlok (by have := o.ts; have := o.p1; omega) (fun y hy => ?_) (by rw [List.length_set]; exact o.n) fun xv' h2 hp => ?_
    · rcases List.mem_or_eq_of_mem_set hy with q | q
      · exact (o.ths y q).1.evs8
      · subst q; exact s.1.evs8
    · exact j2 xv' _ _ _ hK hp
end
end Go.Proofs.YtfphpafkhljncaaGreat
namespace Go.Proofs.YtfphpafkhljncaaGreat
open Go GW Go.Proofs
attribute [local irreducible] bnd ldV stV ifV binV eqI
set_option maxRecDepth 20000
theorem Mc.threads_snoc : ∀ {ts : List (List (List Op))} {i n k : Int} {pol : Bool} {t : List (List Op)}, Mc.threads i n k pol (ts ++ [t]) = Mc.threads i n k pol ts ++ [Th.new (i + ts.length) n k pol t] := by
  intro ts
  induction ts with
  | nil => intro i n k pol t; simp [Mc.threads]
  | cons x ts ih =>
    intro i n k pol t
    show Th.new i n k pol x :: Mc.threads (i + 1) n k pol (ts ++ [t]) = _
    rw [ih]
    show _ = Th.new i n k pol x :: (Mc.threads (i + 1) n k pol ts ++ _)
    congr 4
    simp only [List.length_cons]; omega
def allEvents (xs : List Th) : List Event := xs.flatMap Th.evs
section
variable {a b : Nat} {R : List Part} {h g : GH} {K : Value → GH → Prop} {M : Mc} {k : Int} {v : Value} {p : Plan}
theorem T_mNew (hp : All R h) (hg : ∀ h', All R h' → HLe g h') (ht : threadsAt g v p.threads) (kn : p.may = false → ∀ h', All R h' → K (.tuple #[.pointer none, i64 1900]) h')
    (ky : p.may = true → ∀ b h', All (mcP b (Mc.new p) :: R) h' → K (.tuple #[ptr b, i64 0]) h') : T Tryz.prog 47 [.agg (planC v p).toArray] h K := by
  apply S47_T
  unfold S47
  refine nw hp (.row 67 (planC v p) 3 true) rfl fun d h1 hp => ?_
  refine la0 hp (c := planC v p) (Nat.le_refl 3) rfl ?_
  refine T_scriptMay (ht.le (hg _ hp.tail)) ?_
  refine wk ?_
  cases hm : p.may with
  | false => refine wk ?_; exact kn hm _ hp.tail
  | true =>
    refine wk ?_
    have ky := ky hm
    obtain ⟨m1, m2, m3, m4, m5⟩ := Plan.may_spec hm
    refine T_arenaNew hp fun a h2 hp => ?_
    refine wk ?_
    refine nw hp (mcRow a (.slice none 0 0) (List.replicate 12 0) 0 (.slice none 0 0)) rfl fun b h3 hp => ?_
    replace hp := hn (hp.re 3 [2, 0, 1])
    unfold planC at hp
    refine wk ?_
    have hlen : lnV v = some (i64 p.threads.length) := by
      obtain ⟨es, r, a2⟩ := ht
      have := r.len
      rw [a2.1] at this; exact this
    refine bnd_of hlen ?_
    refine Lfp_fam (ι := Nat × List Nat × Value) (fun q => [ptr d, ptr b, v, i64 p.threads.length, i64 q.1]) (fun q h' => q.1 ≤ p.threads.length ∧ q.2.1.length = q.1 ∧ All (pts d (.row 67 [v, i64 p.attempts, .bool p.polite] 3 true) :: pts b (mcRow a q.2.2 (List.replicate 12 0) 0 (.slice none 0 0)) :: arP 138 a newAr :: rowP 1 q.2.2 (q.2.1.map encP) :: eachP thP q.2.1 (Mc.threads 0 p.threads.length p.attempts p.polite (p.threads.take q.1)) :: R) h') (fun q => p.threads.length - q.1) ?_ (0, [], .slice none 0 0) h3 ⟨by simp, rfl, ?_⟩
    rotate_left
    · have z1 := All.emp_cons (P := eachP thP [] (Mc.threads 0 p.threads.length p.attempts p.polite (p.threads.take 0))) hp (by exact trivial)
      have z2 := All.emp_cons (P := rowP 1 (.slice none 0 0) []) z1 (rowP_nil _ _)
      exact hn (z2.re 5 [2, 3, 4, 0, 1])
    clear hp
    rintro ⟨i, bs, tv⟩ h4 X ⟨hi, hbl, hp⟩ again
    simp only at hi hbl hp
    simp only [tup_zero, tup_succ]
    refine wk ?_
    refine ifV_cases (fun c => ?_) fun c => ?_
    · obtain ⟨t, hti⟩ : ∃ t, p.threads[i]? = some t := ⟨_, List.getElem?_eq_getElem (by omega)⟩
      obtain ⟨es0, r0, a0⟩ := ht
      obtain ⟨c0, hc0, w, cs, rfl, rw_, aw⟩ := a0.get hti
      have hgR : ∀ {h'} {P1 P2 P3 P4 P5 : Part}, All (P1 :: P2 :: P3 :: P4 :: P5 :: R) h' → HLe g h' := fun hp => hg _ hp.tail.tail.tail.tail.tail
      obtain ⟨q, d1, d2⟩ := (r0.le (hgR hp)).get1 hc0 .i64
      refine bnd_of d1 (bnd_of d2 ?_)
      refine wk ?_
      refine bnd_of hlen ?_
      refine wk ?_
      refine T_thNew (ts := t) (cs0 := cs) hp (fun h' hp => ⟨rw_.le (hgR hp), aw.mono fun x y z => z.le (hgR hp)⟩) (fun m => ?_) fun _ tb h5 hp => ?_
      · exact absurd ⟨⟨by omega, by omega⟩, ⟨by omega, by omega⟩, ⟨m3, m4⟩, m5 t (List.mem_of_getElem? hti)⟩ m
      replace hp := hn (hp.re 3 [2, 1, 0])
      unfold mcRow lvRow at hp
      refine wk ?_
      replace hp := hn (hp.re 5 [4, 0, 1, 2, 3])
      refine bs0 (size := 1) hp ([tb].map encP) rfl rfl (by simp) (encP_good _) fun sv h6 hp => ?_
      have r2 := hp.rows
      refine ap0 (hn (hp.up 1)) r2 (encP_good _) (by decide) (by simp only [List.length_map, List.length_cons, List.length_nil]; omega) fun tv' h7 hp => ?_
      obtain ⟨ad, ln, cap, rfl⟩ := All.isSlice hp
      rw [← List.map_append] at hp
      replace hp := hn (hp.re 7 [2, 0, 3, 4, 5, 6])
      refine wk ?_
      refine st0 hp (mcRow a (.slice ad ln cap) (List.replicate 12 0) 0 (.slice none 0 0)) rfl (by simp) rfl rfl fun h8 hp => ?_
      refine wk ?_
      refine again (i + 1, bs ++ [tb], .slice ad ln cap) _ ⟨by simp only; omega, by simp [hbl], ?_⟩ (by simp only; omega)
      have hp := eachP_snoc (hn (hp.re 6 [3, 5, 0, 1, 2, 4]))
      have e1 : p.threads.take (i + 1) = p.threads.take i ++ [t] := by rw [List.take_add_one, hti]; rfl
      have e2 : Mc.threads 0 p.threads.length p.attempts p.polite (p.threads.take i) ++ [Th.new i p.threads.length p.attempts p.polite t] = Mc.threads 0 p.threads.length p.attempts p.polite (p.threads.take (i + 1)) := by
        rw [e1, Mc.threads_snoc, List.length_take]; congr 3; omega
      rw [e2] at hp
      exact hn (hp.re 5 [3, 1, 4, 2, 0])
    · have hie : i = p.threads.length := by omega
      subst hie
      rw [List.take_length] at hp
      have z1 := All.emp_cons (P := rowP 8 (.slice none 0 0) []) hp (rowP_nil _ _)
      exact ky b _ (mcP_shut (M := Mc.new p) (hn (z1.re 6 [2, 3, 4, 0, 5])))
theorem T_mDone (hp : All (mcP b M :: R) h) (o : M.ok) (hK : K (.bool M.done) h) : T Tryz.prog 60 [ptr b] h K := by
  apply S60_T
  unfold S60
  refine mcP_open hp fun a bs tv xv hp => ?_
  have bl : bs.length = M.ths.length := All.case (hn (hp.up 4)) fun h1 p _ => eachP_len p
  unfold mcRow lvRow at hp
  refine wk ?_
  have htl : lnV tv = some (i64 M.ths.length) := by have := All.len (hn (hp.up 2)); rw [List.length_map, bl] at this; exact this
  apply S100_T
  unfold S100
  apply S122_T
  unfold S122
  refine bnd_of htl ?_
  have on := o.n
  refine Lfp_fam (ι := Nat) (fun i => [tv, .func (.func 101) #[] #[], i64 M.ths.length, i64 i]) (fun i h' => i ≤ M.ths.length ∧ h' = h ∧ (M.ths.take i).all Th.done = true) (fun i => M.ths.length - i) ?_ 0 h ⟨by omega, rfl, by simp⟩
  rintro i h1 X ⟨hi, rfl, ha⟩ again
  simp only [tup_zero, tup_succ]
  refine wk ?_
  refine ifV_cases (fun c => ?_) fun c => ?_
  · obtain ⟨x, hx⟩ : ∃ x, M.ths[i]? = some x := ⟨_, List.getElem?_eq_getElem (by omega)⟩
    obtain ⟨tb, htb⟩ : ∃ tb, bs[i]? = some tb := ⟨_, List.getElem?_eq_getElem (by omega)⟩
    obtain ⟨p, e1, e2⟩ := (All.rows (hn (hp.up 2))).get1 (i := i) (x := ptr tb) (by rw [List.getElem?_map, htb]; rfl) .i64
    refine bnd_of e1 (bnd_of e2 ?_)
    show T Tryz.prog 101 [ptr tb] h1 _
    apply S101_T
    unfold S101
    refine T_thDone (eachP_at htb hx (hn (hp.up 4))) (o.ths x (List.mem_of_getElem? hx)).1.evs8 ?_
    refine wk ?_
    cases hd : x.done with
    | true =>
      refine wk ?_
      refine again (i + 1) _ ⟨by omega, rfl, ?_⟩ (by omega)
      rw [List.take_add_one, hx, List.all_append, ha]
      simp [hd]
    | false =>
      refine wk ?_
      have e : M.done = false := by
        unfold Mc.done
        rw [List.all_eq_false]
        exact ⟨x, List.mem_of_getElem? hx, by rw [hd]; decide⟩
      rw [e] at hK
      rw [decide_eq_true (by omega : (0 : Int) ≤ (i : Int))]
      refine wk ?_
      exact hK
  · have : i = M.ths.length := by omega
    subst this
    rw [List.take_length] at ha
    have e : M.done = true := ha
    rw [e] at hK
    refine wk ?_
    exact hK
theorem evCs_app {es es' : List Event} {ws ws' : List Value} (hl : ws.length = es.length) : evCs es ws ++ evCs es' ws' = evCs (es ++ es') (ws ++ ws') := by
  unfold evCs
  rw [List.zipWith_append hl.symm]
theorem ansO_app2 : ∀ {ws ws' : List Value} {es es' : List Event}, ws.length = es.length → ansO (ws ++ ws') (es ++ es') = ansO ws es ++ ansO ws' es' := by
  intro ws
  induction ws with
  | nil =>
    intro ws' es es' hl
    cases es with
    | nil => rfl
    | cons x es => simp at hl
  | cons w0 ws ih =>
    intro ws' es es' hl
    cases es with
    | nil => simp at hl
    | cons x es =>
      show rowP 2 w0 (x.answers.map Answer.enc) :: ansO (ws ++ ws') (es ++ es') = _
      rw [ih (by simpa using hl)]; rfl
theorem T_mEvents (hp : All (mcP b M :: R) h) (o : M.ok) (hK : ∀ v' h', All (evoP v' M.events :: mcP b M :: R) h' → K v' h') : T Tryz.prog 53 [ptr b] h K := by
  apply S53_T
  unfold S53
  refine mcP_open hp fun a bs tv xv hp => ?_
  have bl : bs.length = M.ths.length := All.case (hn (hp.up 4)) fun h1 p _ => eachP_len p
  have hp0 := hp
  unfold mcRow lvRow at hp
  refine wk ?_
  have htl : lnV tv = some (i64 M.ths.length) := by have := All.len (hn (hp.up 2)); rw [List.length_map, bl] at this; exact this
  refine bnd_of htl ?_
  have on := o.n
  clear hp
  refine Lfp_fam (ι := Nat × Value) (fun p => [p.2, tv, i64 M.ths.length, i64 p.1]) (fun p h' => p.1 ≤ M.ths.length ∧ (allEvents (M.ths.take p.1)).length ≤ 8 * p.1 ∧ All (evoP p.2 (allEvents (M.ths.take p.1)) :: pts b (mcRow a tv M.L M.picks xv) :: arP 138 a M.A :: rowP 1 tv (bs.map encP) :: rowP 8 xv (M.ts.map Touch.enc) :: eachP thP bs M.ths :: R) h') (fun p => M.ths.length - p.1) ?_ (0, .slice none 0 0) h ⟨by simp, by simp [allEvents], hp0.emp_cons evoP_nil⟩
  clear hp0
  rintro ⟨i, ov⟩ h1 X ⟨hi, hle, hp⟩ again
  simp only at hi hle hp
  simp only [tup_zero, tup_succ]
  refine wk ?_
  refine ifV_cases (fun c => ?_) fun c => ?_
  · obtain ⟨x, hx⟩ : ∃ x, M.ths[i]? = some x := ⟨_, List.getElem?_eq_getElem (by omega)⟩
    obtain ⟨tb, htb⟩ : ∃ tb, bs[i]? = some tb := ⟨_, List.getElem?_eq_getElem (by omega)⟩
    obtain ⟨p, e1, e2⟩ := (All.rows (hn (hp.up 3))).get1 (i := i) (x := ptr tb) (by rw [List.getElem?_map, htb]; rfl) .i64
    refine bnd_of e1 (bnd_of e2 ?_)
    have ox := o.ths x (List.mem_of_getElem? hx)
    have h8 := ox.1.evs8
    refine T_thEvents (eachP_at htb hx (hn (hp.up 5))) h8 ox.2.2.1 fun nv h2 hp => ?_
    have hp := eachP_put (P := thP) (ys := M.ths) (b := x) htb (by omega) (hn (hp.re 3 [1, 2, 0]))
    rw [set_self hx] at hp
    refine evoP_open (hn (hp.up 1)) fun ws hl hp => ?_
    have hg := evs_good hp
    replace hp := hn (hp.re 4 [3, 0, 1, 2])
    refine evoP_open hp fun us hu hp => ?_
    have hg2 := evs_good hp
    have r2 := All.rows (hn (hp.up 2))
    refine ap0 hp r2 hg (by decide) (by rw [evCs_len hl, evCs_len hu]; omega) fun ov' h3 hp => ?_
    rw [evCs_app hu] at hp
    refine wk ?_
    have e1 : allEvents (M.ths.take (i + 1)) = allEvents (M.ths.take i) ++ x.evs := by
      unfold allEvents
      rw [List.take_add_one, hx, List.flatMap_append]; simp
    refine again (i + 1, ov') _ ⟨by simp only; omega, by simp only [e1, List.length_append]; omega, ?_⟩ (by simp only; omega)
    simp only [e1]
    refine evoP_shut (ws := us ++ ws) (by simp [hu, hl]) ?_
    rw [ansO_app2 hu]
    have hp := All.fold (l := [All (ansO us (allEvents (M.ths.take i))), All (ansO ws x.evs)]) (hn (hp.re 4 [1, 3, 0]))
    have hp := hp.head (Q := All (ansO us (allEvents (M.ths.take i)) ++ ansO ws x.evs)) fun h1 z => All.app (Sep.mono (fun _ z => z) (fun _ z => by
      obtain ⟨h3, h4, _, l3, _, p, _⟩ := z
      exact All.le l3 p) z)
    exact hn (hp.re 7 [1, 0, 3, 4, 5, 6, 2])
  · have : i = M.ths.length := by omega
    subst this
    rw [List.take_length] at hp
    refine hK _ _ ?_
    have := mcP_shut (M := M) (hn (hp.re 6 [1, 2, 3, 4, 5, 0]))
    exact hn (this.re 2 [1, 0])
theorem T_CloneTouchs {v : Value} {xs : List Touch} (hp : All R h) (hr : ∀ h', All R h' → rowsAt h' 8 v (xs.map Touch.enc)) (hb : xs.length ≤ 100000) (hK : ∀ v' h', All (rowP 8 v' (xs.map Touch.enc) :: R) h' → K v' h') : T Tryz.prog 90 [v] h K := by
  apply S90_T
  unfold S90
  have r := hr _ hp
  obtain ⟨ad, n, cap, rfl, hl, h1, h2, hx⟩ := r
  rw [List.length_map] at hl
  cases ad with
  | none =>
    have hx0 : xs = [] := by
      cases xs with
      | nil => rfl
      | cons y ys =>
        obtain ⟨bb, off, T, pre, sz, f, e, _⟩ := hx 0 y.enc rfl
        cases e
    subst hx0
    have n0 : n = 0 := hl.symm
    subst n0
    by_cases hc : cap = 0
    · subst hc
      refine wk ?_
      exact hK _ _ (hp.emp_cons (rowP_nil 8 _))
    · refine wk ?_
      exact hK _ _ (hp.emp_cons (rowP_nil 8 _))
  | some q =>
    refine wk ?_
    refine bs0 (size := 8) hp [] rfl rfl (by simp) (fun c hc => by cases hc) fun nv h1 hp => ?_
    have hr := hr _ hp.tail
    refine ap0 hp hr (Touch.all_good xs) (by decide) (by simp only [List.length_map, List.length_nil]; omega) fun nv' h2 hp => ?_
    exact hK _ _ hp
theorem T_mTouches (hp : All (mcP b M :: R) h) (o : M.ok) (hK : ∀ v' h', All (rowP 8 v' (M.ts.map Touch.enc) :: mcP b M :: R) h' → K v' h') : T Tryz.prog 49 [ptr b] h K := by
  apply S49_T
  unfold S49
  refine wk ?_
  refine mcP_open hp fun a bs tv xv hp => ?_
  have e : ldV 1 false (.pointer (some ⟨b, 0 + 15, none⟩)) h = some xv := lv_ld2 hp 1 rfl (by rw [o.L]; rfl)
  refine wk ?_
  refine bnd_of e ?_
  have p1 := o.p1; have ts := o.ts
  refine T_CloneTouchs (xs := M.ts) hp (fun h' hp => All.rows (hn (hp.up 3))) (by omega) fun v' h2 hp => ?_
  refine hK _ _ ?_
  have := mcP_shut (M := M) (hn (hp.re 6 [1, 2, 3, 4, 5, 0]))
  exact hn (this.re 2 [1, 0])
theorem T_mWords (hp : All (mcP b M :: R) h) (hK : ∀ v' h', All (rowP 1 v' (M.A.ws.map encI) :: mcP b M :: R) h' → K v' h') : T Tryz.prog 65 [ptr b] h K := by
  apply S65_T
  unfold S65
  refine mcP_open hp fun a bs tv xv hp => ?_
  have hp0 := hp
  unfold mcRow lvRow at hp
  refine wk ?_
  refine T_All (hn (hp0.up 1)) fun v' h2 hp => ?_
  refine hK _ _ ?_
  have := mcP_shut (M := M) (hn (hp.re 6 [2, 1, 3, 4, 5, 0]))
  exact hn (this.re 2 [1, 0])
end
end Go.Proofs.YtfphpafkhljncaaGreat
namespace Go.Proofs.YtfphpafkhljncaaGreat
open Go GW Go.Proofs
attribute [local irreducible] bnd ldV stV ifV binV eqI
set_option maxRecDepth 20000
theorem All2.nil {α β : Type} {R : α → β → Prop} : All2 R [] [] := ⟨rfl, fun i x y h => by simp at h⟩
theorem All2.cons {α β : Type} {R : α → β → Prop} {x : α} {y : β} {xs : List α} {ys : List β} (r : R x y) (a : All2 R xs ys) : All2 R (x :: xs) (y :: ys) := by
  refine ⟨by simp [a.1], fun i u v hu hv => ?_⟩
  cases i with
  | zero => simp at hu hv; subst hu; subst hv; exact r
  | succ i => exact a.2 i u v (by simpa using hu) (by simpa using hv)
theorem txnC_mk {h : GH} {w : Value} {t : List Op} (r : rowsAt h 4 w (t.map Op.enc)) : txnC h [w] t := ⟨w, rfl, r⟩
theorem thrC_mk {h : GH} {w : Value} {es : List (List Value)} {ts : List (List Op)} (r : rowsAt h 1 w es) (a : All2 (txnC h) es ts) : thrC h [w] ts := ⟨w, es, rfl, r, a⟩
theorem thrC_nil {h : GH} : thrC h [.slice none 0 0] [] := ⟨_, [], rfl, rowsAt_nil _ _, .nil⟩
theorem All.base {P : Part} {R : List Part} {h : GH} (hp : All (P :: R) h) : ∃ g, P g ∧ All (baseP g :: R) h := by
  obtain ⟨h1, h2, d, l1, l2, p, q⟩ := hp
  exact ⟨h1, p, h1, h2, d, l1, l2, HLe.refl _, q⟩
theorem All.baseLe {g : GH} {R : List Part} {h : GH} (hp : All (baseP g :: R) h) : HLe g h := by
  obtain ⟨h1, h2, d, l1, l2, p, q⟩ := hp
  exact HLe.trans p l1
def mruns : Nat → Mc → Option Mc
  | 0, M => some M
  | n + 1, M => match (M.pick 0).2 with
    | (true, 0) => mruns n (M.pick 0).1
    | _ => none
def mawakeP : Plan := ⟨[[[⟨0, 1, 0, 9⟩]], []], 2, false⟩
def mawakeM : Mc := (((Mc.new mawakeP).pick 1).1.pick 2).1
def mawakeFin (r : Option Mc) : Bool := match r with
  | some M => (match M.events with
      | [e] => decide (e.begun = 1) && (decide (e.decided = 20) && (decide (e.answered = 31) && decide (e.answers = [⟨0, 9⟩])))
      | _ => false) && (decide (M.ts.length = 31) && (decide (M.ts[0]? = some ⟨0, 0, 29, 0, 0, -1, 0, 0⟩) && (M.done && decide (M.A.at 1 = 40))))
  | none => false
theorem mawake_fin : mawakeFin (mruns 31 mawakeM) = true := by decide +kernel
theorem mawake_pick : (((Mc.new mawakeP).pick 1).2 = (false, 0)) ∧ (((Mc.new mawakeP).pick 1).1.pick 2).2 = (false, 1900) := by decide +kernel
theorem mawakeP_may : mawakeP.may = true := by decide
section
variable {a b : Nat} {R : List Part} {h g : GH} {K : Value → GH → Prop} {M : Mc} {k : Int} {v : Value} {p : Plan}
theorem T_mNew' (hp : All (baseP g :: R) h) (ht : threadsAt g v p.threads) (hm : p.may = true) (ky : ∀ b h', All (mcP b (Mc.new p) :: baseP g :: R) h' → K (.tuple #[ptr b, i64 0]) h') : T Tryz.prog 47 [.agg (planC v p).toArray] h K :=
  T_mNew hp (fun h' hp => All.baseLe hp) ht (fun e => by rw [hm] at e; cases e) fun _ b h' hp => ky b h' hp
theorem T_mNewBad (hp : All R h) (hg : ∀ h', All R h' → HLe g h') (ht : threadsAt g v p.threads) (hm : p.may = false) (kn : ∀ h', All R h' → K (.tuple #[.pointer none, i64 1900]) h') : T Tryz.prog 47 [.agg (planC v p).toArray] h K :=
  T_mNew hp hg ht (fun _ => kn) fun e => by rw [hm] at e; cases e
theorem HLe.none_le (h : GH) : HLe (fun _ => none) h := fun b g e => by cases e
theorem threadsAt_nil {h : GH} : threadsAt h (.slice none 0 0) [] := ⟨[], rowsAt_nil _ _, .nil⟩
theorem eachMc_ok {n : Nat} {M M' : Mc} (h : mruns n M = some M') (o : M.ok) : M'.ok := by
  induction n generalizing M with
  | zero => cases h; exact o
  | succ n ih =>
    unfold mruns at h
    split at h
    · exact ih h (Mc.pick_ok o)
    · cases h
theorem T_mawake (hp : All R h) (hK : ∀ h', All R h' → K (.bool true) h') : T Tryz.prog 56 [] h K := by
  apply S56_T
  unfold S56
  refine bnd_of rfl ?_
  refine bs0 (size := 4) hp ([Op.mk 0 1 0 9].map Op.enc) rfl rfl (by simp) (Op.all_good _) fun v2 h1 hp => ?_
  obtain ⟨a2, n2, c2, rfl⟩ := All.isSlice hp
  refine bnd_of rfl ?_
  refine bs0 (size := 1) hp [[.slice a2 n2 c2]] rfl rfl (by simp) (fun c hc => by rw [List.mem_singleton.1 hc]; exact ⟨rfl, rfl⟩) fun v5 h2 hp => ?_
  obtain ⟨a5, n5, c5, rfl⟩ := All.isSlice hp
  refine bs0 (size := 1) hp [[.slice a5 n5 c5], [.slice none 0 0]] rfl rfl (by simp) (fun c hc => by
    rcases List.mem_cons.1 hc with rfl | hc
    · exact ⟨rfl, rfl⟩
    · rw [List.mem_singleton.1 hc]; exact ⟨rfl, rfl⟩) fun v7 h3 hp => ?_
  obtain ⟨a7, n7, c7, rfl⟩ := All.isSlice hp
  refine bnd_of rfl ?_
  obtain ⟨g, pg, hp⟩ := All.base (All.fold (l := [_, _, _]) hp)
  have ht : threadsAt g (.slice a7 n7 c7) mawakeP.threads := by
    have r1 := All.rows pg
    have r2 := All.rows (hn (pg.up 1))
    have r3 := All.rows (hn (pg.up 2))
    exact ⟨_, r1, .cons (thrC_mk r2 (.cons (txnC_mk r3) .nil)) (.cons thrC_nil .nil)⟩
  refine nwst hp (.row 67 (planC (.slice a7 n7 c7) mawakeP) 3 true) rfl rfl rfl rfl fun d h4 hp => ?_
  refine la0 hp (c := planC (.slice a7 n7 c7) mawakeP) (Nat.le_refl 3) rfl ?_
  replace hp := hn (hp.re 2 [1])
  refine T_mNew' hp ht mawakeP_may fun b h5 hp => ?_
  refine wk ?_
  refine T_mNewBad (g := fun _ => none) (v := .slice none 0 0) (p := ⟨[], 0, false⟩) hp (fun h' hp => HLe.none_le _) threadsAt_nil rfl fun h6 hp => ?_
  refine wk ?_
  refine T_Num ?_
  refine wk ?_
  replace hp := hn (hp.re 2 [0])
  have o0 := Mc.new_ok mawakeP_may
  have pk := mawake_pick
  unfold S56_j1
  refine T_mPick hp o0 fun h7 hp => ?_
  rw [pk.1]
  refine wk ?_
  refine T_mPick hp (Mc.pick_ok o0) fun h8 hp => ?_
  rw [pk.2]
  refine wk ?_
  replace hp : All (mcP b mawakeM :: R) h8 := hp
  have fin := mawake_fin
  have o1 : mawakeM.ok := Mc.pick_ok (Mc.pick_ok o0)
  cases hr : mruns 31 mawakeM with
  | none => rw [hr] at fin; cases fin
  | some M' =>
    rw [hr] at fin
    have oM := eachMc_ok hr o1
    refine Lfp_fam (ι := Nat × Mc) (fun q => [ptr b, i64 1900, .bool false, i64 0, i64 1900, i64 q.1]) (fun q h' => q.1 ≤ 31 ∧ q.2.ok ∧ mruns (31 - q.1) q.2 = some M' ∧ All (mcP b q.2 :: R) h') (fun q => 31 - q.1) ?_ (0, mawakeM) h8 ⟨by simp, o1, hr, hp⟩
    clear hp hr
    rintro ⟨i, M⟩ h9 X ⟨hi, oo, hr, hp⟩ again
    simp only at hi oo hr hp
    simp only [tup_zero, tup_succ]
    refine wk ?_
    refine ifV_cases (fun c => ?_) fun c => ?_
    · obtain ⟨n, hn1⟩ : ∃ n, 31 - i = n + 1 := ⟨30 - i, by omega⟩
      rw [hn1] at hr
      unfold mruns at hr
      refine T_mPick hp oo fun h10 hp => ?_
      split at hr
      · rename_i e
        rw [e]
        refine wk ?_
        refine T_Num ?_
        refine wk ?_
        refine again (i + 1, (M.pick 0).1) _ ⟨by simp only; omega, Mc.pick_ok oo, ?_, hp⟩ (by simp only; omega)
        have : 31 - (i + 1) = n := by omega
        simp only [this]; exact hr
      · cases hr
    · have hi31 : 31 - i = 0 := by omega
      rw [hi31] at hr
      cases hr
      unfold mawakeFin at fin
      simp only [Bool.and_eq_true, decide_eq_true_eq] at fin
      obtain ⟨f1, f2, f3, f4, f5⟩ := fin
      refine T_mEvents hp oo fun ev h10 hp => ?_
      cases hes : M'.events with
      | nil => rw [hes] at f1; cases f1
      | cons e es =>
        cases es with
        | cons e2 es => rw [hes] at f1; cases f1
        | nil =>
          rw [hes] at f1 hp
          simp only [Bool.and_eq_true, decide_eq_true_eq] at f1
          obtain ⟨g1, g2, g3, g4⟩ := f1
          refine T_mTouches (hn (hp.up 1)) oo fun xv h11 hp => ?_
          refine T_mWords (hn (hp.up 1)) fun wv h12 hp => ?_
          have el : lnV ev = some (i64 1) := evP_len (evoP_evs (hn (hp.up 3)))
          have xl : lnV xv = some (i64 M'.ts.length) := by have := All.len (hn (hp.up 2)); rw [List.length_map] at this; exact this
          have wl : lnV wv = some (i64 M'.A.ws.length) := by have := All.len hp; rw [List.length_map] at this; exact this
          rw [f2] at xl
          rw [oo.A.words] at wl
          refine bnd_of el ?_
          refine wk ?_
          refine bnd_of xl ?_
          refine wk ?_
          refine bnd_of wl ?_
          refine wk ?_
          unfold S56_j2
          refine T_Num ?_
          refine wk ?_
          refine T_Num ?_
          refine wk ?_
          refine T_Num ?_
          refine wk ?_
          refine T_mDone (hn (hp.up 1)) oo ?_
          rw [f4]
          refine wk ?_
          refine evoP_open (hn (hp.up 3)) fun ws hl hp => ?_
          obtain ⟨w, rfl⟩ : ∃ w, ws = [w] := by
            match ws, hl with
            | [w], _ => exact ⟨w, rfl⟩
          obtain ⟨eb, i1, i2, _, _⟩ := All.elt (i := 0) hp (c := e.cells w) rfl .i64
          have l2 := i2 2 1 (i64 e.begun) rfl
          have l3 := i2 3 1 (i64 e.decided) rfl
          have l4 := i2 4 1 (i64 e.answered) rfl
          have l7 := i2 7 1 w rfl
          rw [g1] at l2
          rw [g2] at l3
          rw [g3] at l4
          refine bnd_of i1 (bnd_of rfl (bnd_of l2 ?_))
          refine wk ?_
          refine bnd_of i1 (bnd_of rfl (bnd_of l3 ?_))
          refine wk ?_
          refine bnd_of i1 (bnd_of rfl (bnd_of l4 ?_))
          refine wk ?_
          refine bnd_of i1 (bnd_of rfl (bnd_of l7 ?_))
          refine wk ?_
          refine bs0 (size := 2) hp ([Answer.mk 0 9].map Answer.enc) rfl rfl (by simp) (Answer.all_good _) fun bv h13 hp => ?_
          have ra : rowsAt h13 2 w (e.answers.map Answer.enc) := ((hn (hp.up 2)).mono1 (P := All (ansO [w] [e])) (fun _ _ l p => All.le l p)) |> fun z => ansO_le z 0 e w rfl rfl
          refine T_SameAnswers ra (All.rows hp) ?_
          rw [decide_eq_true g4]
          refine wk ?_
          obtain ⟨t0, ht0⟩ : ∃ t0, M'.ts[0]? = some t0 := ⟨_, f3⟩
          rw [ht0] at f3
          cases f3
          obtain ⟨px, x1, x2⟩ := (All.rows (hn (hp.up 5))).get (i := 0) (c := (Touch.mk 0 0 29 0 0 (-1) 0 0).enc) (by rw [List.getElem?_map, ht0]; rfl) .i64
          refine bnd_of x1 (bnd_of x2 ?_)
          refine bnd_of rfl ?_
          refine bnd_of (Touch.eqLaw ⟨0, 0, 29, 0, 0, -1, 0, 0⟩ ⟨0, 0, 29, 0, 0, -1, 0, 0⟩) ?_
          rw [decide_eq_true rfl]
          refine wk ?_
          have hw1 : M'.A.ws[1]? = some 40 := by
            have := (oo.A.at (i := 1) (by decide) (by decide)).1
            rw [f5] at this; exact this
          obtain ⟨pw, y1, y2⟩ := (All.rows (hn (hp.up 3))).get1 (i := 1) (x := i64 40) (by rw [List.getElem?_map, hw1]; rfl) .i64
          refine bnd_of y1 (bnd_of y2 ?_)
          refine wk ?_
          exact hK _ hp.tail.tail.tail.tail.tail.tail
end
end Go.Proofs.YtfphpafkhljncaaGreat
namespace Go.Proofs.YtfphpafkhljncaaGreat
open Go GW Go.Proofs
attribute [local irreducible] bnd ldV stV ifV binV eqI
set_option maxRecDepth 20000
theorem Event.ext8 {a b : Event} : a = b ↔ a.thread = b.thread ∧ a.index = b.index ∧ a.begun = b.begun ∧ a.decided = b.decided ∧ a.answered = b.answered ∧ a.end_ = b.end_ ∧ a.attempts = b.attempts ∧ a.answers = b.answers := by
  cases a; cases b; simp
instance : DecidableEq Event := fun a b => decidable_of_iff _ Event.ext8.symm
section
variable {a b : Nat} {R : List Part} {h g : GH} {K : Value → GH → Prop} {v w : Value} {es fs : List Event} {us ws : List Value}
theorem T_SameEvent {e f : Event} {x y : Value} {ad1 ad2 : Option Addr} {n1 n2 c1 c2 : Nat} (ex : x = .slice ad1 n1 c1) (ey : y = .slice ad2 n2 c2) (hp : All R h) (h1 : ∀ h', All R h' → rowsAt h' 2 x (e.answers.map Answer.enc)) (h2 : ∀ h', All R h' → rowsAt h' 2 y (f.answers.map Answer.enc)) (hK : ∀ h', All R h' → K (.bool (decide (e = f))) h') :
    T Tryz.prog 68 [.agg (e.cells x).toArray, .agg (f.cells y).toArray] h K := by
  apply S68_T
  unfold S68
  subst ex ey
  refine nw hp (.row 56 (e.cells (.slice ad1 n1 c1)) 8 true) rfl fun d1 h3 hp => ?_
  refine nw hp (.row 56 (f.cells (.slice ad2 n2 c2)) 8 true) rfl fun d2 h4 hp => ?_
  have no : ∀ {c : Prop} [Decidable c], ¬ c → (e = f → c) → K (.bool false) h4 := by
    intro c _ hc hi
    have := hK _ hp.tail.tail
    rw [decide_eq_false (fun q => hc (hi q))] at this; exact this
  unfold Event.cells at hp
  refine wk ?_
  refine ifV_cases (fun q1 => ?_) fun q1 => no q1 fun q => by rw [q]
  refine wk ?_
  refine ifV_cases (fun q2 => ?_) fun q2 => no q2 fun q => by rw [q]
  refine wk ?_
  refine ifV_cases (fun q3 => ?_) fun q3 => no q3 fun q => by rw [q]
  refine wk ?_
  refine ifV_cases (fun q4 => ?_) fun q4 => no q4 fun q => by rw [q]
  refine wk ?_
  refine ifV_cases (fun q5 => ?_) fun q5 => no q5 fun q => by rw [q]
  refine wk ?_
  refine ifV_cases (fun q6 => ?_) fun q6 => no q6 fun q => by rw [q]
  refine wk ?_
  refine ifV_cases (fun q7 => ?_) fun q7 => no q7 fun q => by rw [q]
  refine wk ?_
  refine T_SameAnswers (h1 _ hp.tail.tail) (h2 _ hp.tail.tail) ?_
  have e1 : decide (e.answers = f.answers) = decide (e = f) := decide_eq_decide.2 (by
    rw [Event.ext8]
    exact ⟨fun q => ⟨q1, q2, q3, q4, q5, q6, q7, q⟩, fun q => q.2.2.2.2.2.2.2⟩)
  rw [e1]
  exact hK _ hp.tail.tail
theorem ws_slice {c : List (List Value)} {us : List Value} {es : List Event} (hg : ∀ c ∈ evCs es us, good 8 c) (P : ansP us es h) {i : Nat} {e : Event} {u : Value} (he : es[i]? = some e) (hu : us[i]? = some u) : ∃ ad n c, u = .slice ad n c := by
  obtain ⟨ad, n, c, q, _⟩ := P i e u he hu
  exact ⟨ad, n, c, q⟩
end
end Go.Proofs.YtfphpafkhljncaaGreat
namespace Go.Proofs.YtfphpafkhljncaaGreat
open Go GW Go.Proofs
structure Th.una (x : Th) : Prop where
  u : x.next ≠ none ∨ x.tries ≠ 0 → ∃ e, x.evs.getLast? = some e ∧ e.answered = -1
  d : x.dead = true → x.next ≠ none
theorem Th.new_una {id n k : Int} {pol : Bool} {ts : List (List Op)} : (Th.new id n k pol ts).una := ⟨(fun h => by rcases h with h | h <;> exact absurd rfl h), fun h => by cases h⟩
theorem evTurn_last {es : List Event} {f : Event → Event} : (evTurn es f).getLast? = es.getLast?.map f := by
  unfold evTurn
  cases h : es.getLast? with
  | none => rw [h]; rfl
  | some e =>
    have hl : 0 < es.length := by
      cases es with
      | nil => cases h
      | cons _ _ => simp
    show (es.set (es.length - 1) (f e)).getLast? = some (f e)
    rw [List.getLast?_eq_getElem?, List.length_set, List.getElem?_set_self (by omega)]
section
variable {A : Ar} {x : Th} {L : List Int} {pick s : Int}
theorem Th.una.of {y : Th} (u : x.una) (hx : x.next ≠ none) (h1 : y.evs = x.evs) (h2 : y.dead = true → y.next ≠ none) : y.una := ⟨fun _ => by rw [h1]; exact u.u (.inl hx), h2⟩
theorem Th.act_next {a : Act} (hn : x.next = some a) (h : a ≠ .adv) : (x.act A L pick a).1.1.next ≠ none ∧ (x.act A L pick a).1.1.dead = x.dead := by
  have tris : ∀ y : Th, y.next ≠ none → (y.tris A).1.next ≠ none ∧ (y.tris A).1.dead = y.dead := fun y hy => by
    unfold Th.tris; split
    · exact ⟨hy, rfl⟩
    · refine ⟨?_, rfl⟩
      simp only
      split
      · intro h; cases h
      · exact hy
  have taks : ∀ y : Th, (y.taks A L).1.1.next ≠ none ∧ (y.taks A L).1.1.dead = y.dead := fun y => by
    unfold Th.taks
    split
    · exact tris _ (fun h => by cases h)
    · simp only
      split
      · exact ⟨(fun h => by cases h), rfl⟩
      · split
        · exact ⟨(fun h => by cases h), rfl⟩
        · exact ⟨(fun h => by cases h), rfl⟩
  have hne : x.next ≠ none := by rw [hn]; simp
  cases a with
  | ent =>
    show (x.ents A).1.next ≠ none ∧ (x.ents A).1.dead = x.dead
    unfold Th.ents
    cases x.ent with
    | none => exact ⟨hne, rfl⟩
    | some n =>
      simp only
      split
      · exact ⟨(fun h => by cases h), rfl⟩
      · exact ⟨hne, rfl⟩
  | fre =>
    show (x.fres A L).1.1.next ≠ none ∧ (x.fres A L).1.1.dead = x.dead
    unfold Th.fres
    have hc : x.cached.next = x.next ∧ x.cached.dead = x.dead := by unfold Th.cached; split <;> exact ⟨rfl, rfl⟩
    simp only
    split
    · have := taks x.cached; rw [hc.2] at this; exact this
    · split
      · refine ⟨?_, hc.2⟩; show x.cached.next ≠ none; rw [hc.1]; exact hne
      · refine ⟨?_, hc.2⟩; show x.cached.next ≠ none; rw [hc.1]; exact hne
  | tak => exact taks x
  | tri => exact tris x hne
  | ret =>
    show (x.rets A).1.next ≠ none ∧ (x.rets A).1.dead = x.dead
    unfold Th.rets
    split
    · exact ⟨(fun h => by cases h), rfl⟩
    · exact ⟨hne, rfl⟩
  | lea => exact ⟨(fun h => by cases h), rfl⟩
  | adv => exact absurd rfl h
theorem Th.act_una {a : Act} (o : x.ok) (u : x.una) (hx : x.dead = false) (hn : x.next = some a) : (x.act A L pick a).1.1.una ∧ ((x.act A L pick a).1.2.1 ≠ 0 → (x.act A L pick a).1.1.next ≠ none) := by
  have hne : x.next ≠ none := by rw [hn]; simp
  by_cases ha : a = .adv
  · subst ha
    show (x.advs A pick).1.una ∧ ((x.advs A pick).2.1 ≠ 0 → (x.advs A pick).1.next ≠ none)
    obtain ⟨e, h1, h2⟩ := u.u (.inl hne)
    unfold Th.advs
    cases hd : x.adv with
    | none => exact ⟨u, fun _ => hne⟩
    | some d =>
      simp only
      split
      · refine ⟨?_, fun h => absurd rfl h⟩
        unfold Th.answer
        simp only
        split
        · exact ⟨fun _ => ⟨{ e with attempts := x.tries + 1 }, by simp only; rw [evTurn_last, h1]; rfl, h2⟩, fun h => by simp only at h; rw [hx] at h; cases h⟩
        · exact ⟨(fun h => by rcases h with h | h <;> exact absurd rfl h), fun h => by simp only at h; rw [hx] at h; cases h⟩
      · exact ⟨⟨fun _ => ⟨e, h1, h2⟩, u.d⟩, fun _ => hne⟩
  · obtain ⟨n1, n2⟩ := Th.act_next (A := A) (L := L) (pick := pick) hn ha
    exact ⟨u.of hne (Th.act_evs ha) fun _ => n1, fun _ => n1⟩
theorem Th.ended_una {r : (Th × Int × Ar) × List Int} (h : r.1.1.una ∧ (r.1.2.1 ≠ 0 → r.1.1.next ≠ none)) : (Th.ended r).1.una := by
  unfold Th.ended
  split
  · exact h.1
  · rename_i c; exact ⟨h.1.u, fun _ => h.2 c⟩
theorem Th.begin_una (u : x.una) (hn : x.next = none) (hd : x.dead = false) : (x.begin pick).1.una ∧ (x.begin pick).1.dead = false := by
  unfold Th.begin
  split
  · exact ⟨u, hd⟩
  · split
    · exact ⟨⟨u.u, u.d⟩, hd⟩
    · refine ⟨⟨fun _ => ?_, fun _ h => by cases h⟩, hd⟩
      simp only
      by_cases c : x.tries = 0
      · rw [if_pos c]
        exact ⟨_, List.getLast?_concat, rfl⟩
      · rw [if_neg c]
        exact u.u (.inr c)
theorem Th.step_una (o : x.ok) (u : x.una) : (x.step A L pick).1.una := by
  cases hd : x.dead with
  | true => rw [Th.step_dead hd]; exact u
  | false =>
    have o1 : x.z.ok := { o with }
    have u1 : x.z.una := ⟨u.u, u.d⟩
    cases hx : x.next with
    | some a => rw [Th.step_some hd hx]; exact Th.ended_una (Th.act_una o1 u1 hd hx)
    | none =>
      rw [Th.step_none hd hx]
      have b := Th.begin_ok (pick := pick) o1 hx
      have bu := Th.begin_una (pick := pick) u1 hx hd
      split
      · rename_i q
        exact Th.ended_una (Th.act_una b.1 bu.1 bu.2 (b.2 q))
      · exact bu.1
theorem Th.decide_una (u : x.una) : (x.decide s pick).una := by
  unfold Th.decide
  split
  · refine ⟨fun h => ?_, u.d⟩
    obtain ⟨e, h1, h2⟩ := u.u h
    exact ⟨{ e with decided := pick }, by simp only; rw [evTurn_last, h1]; rfl, h2⟩
  · exact u
end
theorem Mc.new_una {p : Plan} : ∀ x ∈ (Mc.new p).ths, x.una := by
  intro x hx
  obtain ⟨j, t, _, rfl⟩ := Mc.threads_mem hx
  exact Th.new_una
theorem Mc.pick_una {M : Mc} {k : Int} (o : M.ok) (u : ∀ x ∈ M.ths, x.una) : ∀ x ∈ (M.pick k).1.ths, x.una := by
  unfold Mc.pick
  split
  · exact u
  · split
    · exact u
    · rename_i x hx
      have s := Th.step_una (A := M.A) (L := M.L) (pick := M.picks) (o.ths x (List.mem_of_getElem? hx)).1 (u x (List.mem_of_getElem? hx))
      generalize x.step M.A M.L M.picks = r at s
      simp only
      have base : ∀ y ∈ M.ths.set k.toNat r.1, y.una := fun y hy => by
        rcases List.mem_or_eq_of_mem_set hy with q | q
        · exact u y q
        · subst q; exact s
      intro y hy
      split at hy
      · unfold decAll at hy
        split at hy
        · obtain ⟨z, hz, rfl⟩ := List.mem_map.1 hy
          exact Th.decide_una (base z hz)
        · exact base y hy
      · exact base y hy
def Kp (A B : Ar) : Prop := ∀ i, 16 ≤ i → i < 29 → B.at i = A.at i
theorem Kp.refl (A : Ar) : Kp A A := fun _ _ _ => rfl
theorem Acc.kp {P : Int → Prop} {A B : Ar} (a : Acc P A B) (hA : A.ok) (h : ∀ i, P i → i < 16 ∨ 29 ≤ i) : Kp A B := by
  intro j h0 h1
  cases a with
  | none => rfl
  | ld i i0 i1 => exact at_ld hA i0 i1 (by omega) (by omega)
  | put i x i0 i1 p hx => have := h i p; rw [at_put hA i0 i1 (by omega) (by omega), if_neg (by omega)]
  | cas i o x i0 i1 p hx hd => have := h i p; rw [at_cas hA i0 i1 (by omega) (by omega), if_neg (by omega)]
def Chn (A : Ar) : Int → List Int → Prop
  | f, [] => f = 0
  | f, s :: r => f = s + 1 ∧ (0 ≤ s ∧ s < 12) ∧ ∃ w, A.at (17 + s) = w * 4 ∧ Chn A w r
theorem Chn.rng {A : Ar} {f : Int} {fr : List Int} (h : Chn A f fr) : 0 ≤ f ∧ f ≤ 12 := by
  cases fr with
  | nil => have : f = 0 := h; omega
  | cons s r => obtain ⟨h1, h2, _⟩ := h; omega
theorem Chn.cong {A B : Ar} : ∀ {fr : List Int} {f : Int}, (∀ s ∈ fr, B.at (17 + s) = A.at (17 + s)) → Chn A f fr → Chn B f fr := by
  intro fr
  induction fr with
  | nil => intro f _ h; exact h
  | cons s r ih =>
    intro f e h
    obtain ⟨h1, h2, w, h3, h4⟩ := h
    exact ⟨h1, h2, w, by rw [e s (by simp)]; exact h3, ih (fun s hs => e s (List.mem_cons_of_mem _ hs)) h4⟩
theorem Chn.mem {A : Ar} : ∀ {fr : List Int} {f : Int}, Chn A f fr → ∀ s ∈ fr, 0 ≤ s ∧ s < 12 := by
  intro fr
  induction fr with
  | nil => intro f _ s hs; cases hs
  | cons a r ih =>
    intro f h s hs
    obtain ⟨h1, h2, w, h3, h4⟩ := h
    rcases List.mem_cons.1 hs with rfl | hs
    · exact h2
    · exact ih h4 s hs
structure Fre (A : Ar) (fr : List Int) (c : Int) : Prop where
  hd : ∃ f, A.at 16 = (c * 16 + f) * 4 ∧ Chn A f fr
  nx : ∀ s, 0 ≤ s → s < 12 → ∃ w, A.at (17 + s) = w * 4 ∧ 0 ≤ w ∧ w ≤ 12
  c0 : 0 ≤ c
theorem Fre.kp {A B : Ar} {fr : List Int} {c : Int} (F : Fre A fr c) (k : Kp A B) : Fre B fr c := by
  obtain ⟨f, h1, h2⟩ := F.hd
  refine ⟨⟨f, by rw [k 16 (by decide) (by decide)]; exact h1, h2.cong fun s hs => ?_⟩, fun s h0 h1 => ?_, F.c0⟩
  · have := h2.mem s hs
    exact k _ (by omega) (by omega)
  · rw [k _ (by omega) (by omega)]; exact F.nx s h0 h1
theorem head_word {x c f : Int} (h : x = (c * 16 + f) * 4) (c0 : 0 ≤ c) (c1 : c < 100000) (f0 : 0 ≤ f) (f1 : f ≤ 12) : hdIs x = true ∧ valOf x / 16 = c ∧ valOf x % 16 = f := by
  have v : valOf x = c * 16 + f := by rw [h]; exact valOf_val (by omega) (by omega)
  have p : plainOf x = some (c * 16 + f) := by rw [h]; exact plainOf_val (by omega) (by omega)
  refine ⟨?_, by rw [v]; omega, by rw [v]; omega⟩
  unfold hdIs
  rw [p, v, decide_eq_true (by omega), decide_eq_true (by omega)]
  rfl
theorem next_word {x w : Int} (h : x = w * 4) (w0 : 0 ≤ w) (w1 : w ≤ 12) : nxIs x = true ∧ valOf x = w := by
  have v : valOf x = w := by rw [h]; exact valOf_val (by omega) (by omega)
  refine ⟨?_, v⟩
  unfold nxIs
  rw [v, h, plainOf_val (by omega) (by omega), decide_eq_true (by omega)]
  rfl
structure Lst.own (l : Lst) : Prop where
  ov : l.over = false
  ld : l.at_ ≠ 0 → l.word = (l.count * 16 + l.first) * 4 ∧ l.first ≤ 12
structure Push.own (p : Push) (A : Ar) : Prop where
  l : p.l.own
  st : p.l.at_ = 2 → A.at (17 + p.slot) = p.l.first * 4
structure Pop.own (p : Pop) (A : Ar) (c : Int) : Prop where
  l : p.l.own
  old : p.l.at_ ≠ 0 → p.l.count ≤ c ∧ (p.l.count = c → A.at 16 = p.l.word)
  st : p.l.at_ = 2 → p.l.count = c → A.at (17 + p.l.first - 1) = p.next * 4
  sl : p.slot = -1
def Th.hold (x : Th) : List Int := x.cache ++ (x.limbo.map Ret.slot ++ (x.ripe ++ if x.slot = -1 then [] else [x.slot]))
structure Th.own (x : Th) (A : Ar) (c : Int) : Prop where
  ri : x.next ≠ some .fre → x.ripe = [] ∧ x.push = none
  sl : x.slot ≠ -1 → x.next = some .tri ∨ x.next = some .ret
  po : x.pop ≠ none → x.next = some .tak
  push : ∀ p, x.push = some p → p.own A ∧ x.ripe.head? = some p.slot
  pop : ∀ p, x.pop = some p → p.own A c
def Swp (hs : Int → Prop) (A B : Ar) (c d : Int) : Prop :=
  (d = c + 1 ∧ ∀ i, 17 ≤ i → i < 29 → B.at i = A.at i) ∨
  (d = c ∧ B.at 16 = A.at 16 ∧ ∀ s, 0 ≤ s → s < 12 → ¬ hs s → B.at (17 + s) = A.at (17 + s))
theorem Swp.kp {hs : Int → Prop} {A B : Ar} {c : Int} (k : Kp A B) : Swp hs A B c c := .inr ⟨rfl, k 16 (by decide) (by decide), fun s h0 h1 _ => k _ (by omega) (by omega)⟩
theorem Th.own.other {y : Th} {A B : Ar} {c d : Int} {fr : List Int} {hs : Int → Prop} (w : y.own A c) (oy : y.ok) (F : Fre A fr c) (hc : c < 100000) (s : Swp hs A B c d) (hd : ∀ s, hs s → s ∉ y.ripe ∧ s ∉ fr) : y.own B d := by
  refine ⟨w.ri, w.sl, w.po, fun p hp => ?_, fun p hp => ?_⟩
  · obtain ⟨o, h2⟩ := w.push p hp
    have op := oy.push p hp
    refine ⟨⟨o.l, fun h => ?_⟩, h2⟩
    rw [← o.st h]
    have p0 := op.s0; have p1 := op.s1
    rcases s with ⟨_, k⟩ | ⟨_, _, k⟩
    · exact k _ (by omega) (by omega)
    · exact k _ (by omega) (by omega) fun q => (hd _ q).1 (List.mem_of_mem_head? (by rw [h2]; rfl))
  · have o := w.pop p hp
    have op := oy.pop p hp
    rcases s with ⟨e, k⟩ | ⟨e, k1, k2⟩
    · subst e
      exact ⟨o.l, fun h => by have := (o.old h).1; exact ⟨by omega, fun q => by omega⟩, fun h q => by have := (o.old (by omega)).1; omega, o.sl⟩
    · subst e
      refine ⟨o.l, fun h => ⟨(o.old h).1, fun q => by rw [k1]; exact (o.old h).2 q⟩, fun h q => ?_, o.sl⟩
      have f := op.f o.l.ov (by omega)
      rw [← o.st h q, show 17 + p.l.first - 1 = 17 + (p.l.first - 1) by omega]
      refine k2 _ (by omega) (by omega) fun z => (hd _ z).2 ?_
      obtain ⟨g, g1, g2⟩ := F.hd
      have e1 := (o.l.ld (by omega)).1
      have e2 := (o.old (by omega)).2 q
      have e3 := g2.rng
      have : g = p.l.first := by omega
      cases fr with
      | nil => have : g = 0 := g2; omega
      | cons s r => have : g = s + 1 := g2.1; rw [show p.l.first - 1 = s by omega]; simp
theorem Th.own.kp {y : Th} {A B : Ar} {c : Int} (w : y.own A c) (oy : y.ok) (k : Kp A B) : y.own B c := by
  refine ⟨w.ri, w.sl, w.po, fun p hp => ?_, fun p hp => ?_⟩
  · obtain ⟨o, h2⟩ := w.push p hp
    have op := oy.push p hp
    have p0 := op.s0; have p1 := op.s1
    exact ⟨⟨o.l, fun h => by rw [k _ (by omega) (by omega)]; exact o.st h⟩, h2⟩
  · have o := w.pop p hp
    have op := oy.pop p hp
    refine ⟨o.l, fun h => ⟨(o.old h).1, fun q => by rw [k 16 (by decide) (by decide)]; exact (o.old h).2 q⟩, fun h q => ?_, o.sl⟩
    have f := op.f o.l.ov (by omega)
    rw [k _ (by omega) (by omega)]; exact o.st h q
structure Res (x : Th) (A : Ar) (fr : List Int) (c : Int) (y : Th) (B : Ar) : Prop where
  ex : ∃ fr' d, Fre B fr' d ∧ y.own B d ∧ Swp (· ∈ x.ripe) A B c d ∧ (∀ s, fr'.count s + y.hold.count s = fr.count s + x.hold.count s) ∧ fr'.length ≤ fr.length + 1 ∧ fr.length ≤ fr'.length + 1
theorem Res.same {x y : Th} {A B : Ar} {fr : List Int} {c : Int} (F : Fre A fr c) (k : Kp A B) (w : y.own B c) (h : ∀ s, y.hold.count s = x.hold.count s) : Res x A fr c y B :=
  ⟨fr, c, F.kp k, w, .kp k, fun s => by rw [h], by omega, by omega⟩
theorem Res.of {x x1 y : Th} {A B : Ar} {fr : List Int} {c : Int} (r : Res x1 A fr c y B) (h : ∀ s, x1.hold.count s = x.hold.count s) (hs : ∀ s, s ∈ x1.ripe → s ∈ x.ripe) : Res x A fr c y B := by
  obtain ⟨fr', d, h1, h2, h3, h4, h5⟩ := r.ex
  refine ⟨fr', d, h1, h2, ?_, fun s => by rw [h4 s, h s], h5⟩
  rcases h3 with h3 | ⟨e1, e2, e3⟩
  · exact .inl h3
  · exact .inr ⟨e1, e2, fun s h0 h1 hn => e3 s h0 h1 fun q => hn (hs s q)⟩
theorem Pop.new_own {A : Ar} {c : Int} : Pop.new.own A c := ⟨⟨rfl, fun h => absurd rfl h⟩, fun h => absurd rfl h, fun h => by simp [Pop.new] at h, rfl⟩
theorem Push.new_own {A : Ar} {s : Int} : (Push.new s).own A := ⟨⟨rfl, fun h => absurd rfl h⟩, fun h => by simp [Push.new] at h⟩
theorem Kp.ld {A : Ar} {i : Int} (hA : A.ok) (h0 : 0 ≤ i) (h1 : i < 634) : Kp A (A.ld i) := fun j j0 j1 => at_ld hA h0 h1 (by omega) (by omega)
theorem Kp.fail {A : Ar} {o x : Int} (hA : A.ok) (h : A.at 16 ≠ o) : Kp A (A.cas 16 o x) := fun j j0 j1 => by
  rw [at_cas hA (by decide) (by decide) (by omega) (by omega), if_neg h]
  split
  · rename_i e; rw [← e]
  · rfl
theorem Pop.step_own {p : Pop} {A : Ar} {fr : List Int} {c : Int} (o : p.ok) (w : p.own A c) (hA : A.ok) (F : Fre A fr c) (hc : c < 90000) :
    (p.step A).2.1 = 0 ∧ (((p.step A).1.l.over = false ∧ Kp A (p.step A).2.2 ∧ (p.step A).1.own (p.step A).2.2 c) ∨
      ((p.step A).1.l.over = true ∧ (p.step A).1.slot = -1 ∧ Kp A (p.step A).2.2) ∨
      ((p.step A).1.l.over = true ∧ ∃ s fr', fr = s :: fr' ∧ (p.step A).1.slot = s ∧ (0 ≤ s ∧ s < 12) ∧ Fre (p.step A).2.2 fr' (c + 1) ∧ ∀ i, 17 ≤ i → i < 29 → (p.step A).2.2.at i = A.at i)) := by
  obtain ⟨f, f1, f2⟩ := F.hd
  have fr0 := f2.rng
  have c0 := F.c0
  obtain ⟨d1, d2, d3⟩ := head_word f1 c0 (by omega) fr0.1 fr0.2
  have ol := o.l
  have a0 := ol.a0; have a1 := ol.a1
  unfold Pop.step
  rw [if_neg (by rw [w.l.ov]; decide)]
  by_cases h0 : p.l.at_ = 0
  · rw [if_pos h0, if_pos d1]
    refine ⟨rfl, ?_⟩
    have k := Kp.ld (i := 16) hA (by decide) (by decide)
    by_cases hf : f = 0
    · refine .inr (.inl ⟨?_, w.sl, k⟩)
      rw [d3]; exact decide_eq_true hf
    · refine .inl ⟨?_, k, ⟨⟨?_, fun _ => ⟨?_, ?_⟩⟩, fun _ => ⟨?_, fun _ => ?_⟩, fun h => ?_, w.sl⟩⟩
      · rw [d3]; exact decide_eq_false hf
      · rw [d3]; exact decide_eq_false hf
      · show A.at 16 = (valOf (A.at 16) / 16 * 16 + valOf (A.at 16) % 16) * 4
        rw [d2, d3]; exact f1
      · show valOf (A.at 16) % 16 ≤ 12
        rw [d3]; exact fr0.2
      · show valOf (A.at 16) / 16 ≤ c
        rw [d2]; exact Int.le_refl c
      · exact k 16 (by decide) (by decide)
      · simp [Lst.loaded] at h
  · rw [if_neg h0]
    have pf := o.f w.l.ov h0
    have l1 := w.l.ld h0
    have od := w.old h0
    by_cases h1 : p.l.at_ = 1
    · rw [if_pos h1]
      obtain ⟨v, v1, v2, v3⟩ := F.nx (p.l.first - 1) (by omega) (by omega)
      have v1 : A.at (17 + p.l.first - 1) = v * 4 := by rw [show 17 + p.l.first - 1 = 17 + (p.l.first - 1) by omega]; exact v1
      obtain ⟨n1, n2⟩ := next_word v1 v2 v3
      rw [if_pos n1]
      have k := Kp.ld (i := 17 + p.l.first - 1) hA (by omega) (by omega)
      refine ⟨rfl, .inl ⟨w.l.ov, k, ⟨⟨w.l.ov, fun _ => l1⟩, fun _ => ⟨od.1, fun q => ?_⟩, fun _ q => ?_, w.sl⟩⟩⟩
      · rw [k 16 (by decide) (by decide)]; exact od.2 q
      · show (A.ld (17 + p.l.first - 1)).at (17 + p.l.first - 1) = valOf (A.at (17 + p.l.first - 1)) * 4
        rw [k _ (by omega) (by omega), n2]; exact v1
    · rw [if_neg h1]
      have h2 : p.l.at_ = 2 := by omega
      by_cases hw : A.at 16 = p.l.word
      · rw [if_pos hw]
        refine ⟨rfl, .inr (.inr ⟨rfl, ?_⟩)⟩
        have cc : p.l.count = c := by omega
        have ff : p.l.first = f := by omega
        have st := w.st h2 cc
        cases fr with
        | nil => have : f = 0 := f2; omega
        | cons s r =>
          obtain ⟨e1, e2, v, e3, e4⟩ := f2
          have hv : p.next = v := by rw [show 17 + p.l.first - 1 = 17 + s by omega, e3] at st; omega
          have vr := e4.rng
          have at16 : ∀ i, 0 ≤ i → i < 634 → (A.cas 16 p.l.word (p.l.turned p.next)).at i = if 16 = i then ((c + 1) * 16 + v) * 4 else A.at i := fun i i0 i1 => by
            rw [at_cas hA (by decide) (by decide) i0 i1, if_pos hw, hv]
            unfold Lst.turned
            rw [cc, Int.emod_eq_of_lt (by omega) (by omega)]
          have oth : ∀ i, 17 ≤ i → i < 29 → (A.cas 16 p.l.word (p.l.turned p.next)).at i = A.at i := fun i i0 i1 => by rw [at16 i (by omega) (by omega), if_neg (by omega)]
          refine ⟨s, r, rfl, (by show p.l.first - 1 = s; omega), e2, ⟨⟨v, by rw [at16 16 (by decide) (by decide)]; rfl, e4.cong fun t ht => ?_⟩, fun t t0 t1 => by rw [oth _ (by omega) (by omega)]; exact F.nx t t0 t1, by omega⟩, oth⟩
          have := e4.mem t ht
          exact oth _ (by omega) (by omega)
      · rw [if_neg hw]
        have k := Kp.fail (x := p.l.turned p.next) hA hw
        exact ⟨rfl, .inl ⟨w.l.ov, k, ⟨⟨w.l.ov, fun h => absurd rfl h⟩, (fun h => absurd rfl h), (fun h => by simp at h), w.sl⟩⟩⟩
theorem Push.step_own {p : Push} {A : Ar} {fr : List Int} {c : Int} (o : p.ok) (w : p.own A) (hA : A.ok) (F : Fre A fr c) (hc : c < 90000) (hs : p.slot ∉ fr) :
    (p.step A).2.1 = 0 ∧ (p.step A).1.slot = p.slot ∧ (((p.step A).1.l.over = false ∧ (p.step A).1.own (p.step A).2.2 ∧ Fre (p.step A).2.2 fr c ∧ Swp (· = p.slot) A (p.step A).2.2 c c) ∨
      ((p.step A).1.l.over = true ∧ Fre (p.step A).2.2 (p.slot :: fr) (c + 1) ∧ ∀ i, 17 ≤ i → i < 29 → (p.step A).2.2.at i = A.at i)) := by
  obtain ⟨f, f1, f2⟩ := F.hd
  have fr0 := f2.rng
  have c0 := F.c0
  obtain ⟨d1, d2, d3⟩ := head_word f1 c0 (by omega) fr0.1 fr0.2
  have ol := o.l
  have a0 := ol.a0; have a1 := ol.a1
  have p0 := o.s0; have p1 := o.s1
  unfold Push.step
  rw [if_neg (by rw [w.l.ov]; decide)]
  by_cases h0 : p.l.at_ = 0
  · rw [if_pos h0, if_pos d1]
    have k := Kp.ld (i := 16) hA (by decide) (by decide)
    refine ⟨rfl, rfl, .inl ⟨w.l.ov, ⟨⟨w.l.ov, fun _ => ⟨?_, ?_⟩⟩, fun h => ?_⟩, F.kp k, .kp k⟩⟩
    · show A.at 16 = (valOf (A.at 16) / 16 * 16 + valOf (A.at 16) % 16) * 4
      rw [d2, d3]; exact f1
    · show valOf (A.at 16) % 16 ≤ 12
      rw [d3]; exact fr0.2
    · simp [Lst.loaded] at h
  · rw [if_neg h0]
    have l1 := w.l.ld h0
    have g0 := ol.f0
    by_cases h1 : p.l.at_ = 1
    · rw [if_pos h1]
      have at17 : ∀ i, 0 ≤ i → i < 634 → (A.put (17 + p.slot) (p.l.first * 4)).at i = if 17 + p.slot = i then p.l.first * 4 else A.at i := fun i i0 i1 => at_put hA (by omega) (by omega) i0 i1
      refine ⟨rfl, rfl, .inl ⟨w.l.ov, ⟨⟨w.l.ov, fun _ => l1⟩, fun _ => ?_⟩, ⟨⟨f, ?_, f2.cong fun t ht => ?_⟩, fun t t0 t1 => ?_, c0⟩, .inr ⟨rfl, ?_, fun t t0 t1 hn => ?_⟩⟩⟩
      · show (A.put (17 + p.slot) (p.l.first * 4)).at (17 + p.slot) = p.l.first * 4
        rw [at17 _ (by omega) (by omega), if_pos rfl]
      · rw [at17 _ (by omega) (by omega), if_neg (by omega)]; exact f1
      · have := f2.mem t ht
        rw [at17 _ (by omega) (by omega), if_neg fun e => hs (by rw [show p.slot = t by omega]; exact ht)]
      · show ∃ w, (A.put (17 + p.slot) (p.l.first * 4)).at (17 + t) = w * 4 ∧ 0 ≤ w ∧ w ≤ 12
        rw [at17 _ (by omega) (by omega)]
        split
        · exact ⟨_, rfl, g0, l1.2⟩
        · exact F.nx t t0 t1
      · rw [at17 _ (by omega) (by omega), if_neg (by omega)]
      · rw [at17 _ (by omega) (by omega), if_neg fun e => hn (by omega)]
    · rw [if_neg h1]
      have h2 : p.l.at_ = 2 := by omega
      have st := w.st h2
      by_cases hw : A.at 16 = p.l.word
      · have ff : p.l.first = f := by have := ol.f1; omega
        have cc : p.l.count = c := by omega
        have at16 : ∀ i, 0 ≤ i → i < 634 → (A.cas 16 p.l.word (p.l.turned (p.slot + 1))).at i = if 16 = i then ((c + 1) * 16 + (p.slot + 1)) * 4 else A.at i := fun i i0 i1 => by
          rw [at_cas hA (by decide) (by decide) i0 i1, if_pos hw]
          unfold Lst.turned
          rw [cc, Int.emod_eq_of_lt (by omega) (by omega)]
        have oth : ∀ i, 17 ≤ i → i < 29 → (A.cas 16 p.l.word (p.l.turned (p.slot + 1))).at i = A.at i := fun i i0 i1 => by rw [at16 i (by omega) (by omega), if_neg (by omega)]
        refine ⟨rfl, rfl, .inr ⟨decide_eq_true hw, ⟨⟨p.slot + 1, by rw [at16 16 (by decide) (by decide)]; rfl, rfl, ⟨p0, p1⟩, f, ?_, f2.cong fun t ht => ?_⟩, fun t t0 t1 => by rw [oth _ (by omega) (by omega)]; exact F.nx t t0 t1, by omega⟩, oth⟩⟩
        · rw [oth _ (by omega) (by omega), st, ff]
        · have := f2.mem t ht
          exact oth _ (by omega) (by omega)
      · have k := Kp.fail (x := p.l.turned (p.slot + 1)) hA hw
        exact ⟨rfl, rfl, .inl ⟨decide_eq_false hw, ⟨⟨decide_eq_false hw, fun h => absurd rfl h⟩, (fun h => by simp at h)⟩, F.kp k, .kp k⟩⟩
theorem hold_count (x : Th) (s : Int) : x.hold.count s = x.cache.count s + ((x.limbo.map Ret.slot).count s + (x.ripe.count s + (if x.slot = -1 then [] else [x.slot] : List Int).count s)) := by
  unfold Th.hold
  rw [List.count_append, List.count_append, List.count_append]
theorem Th.own.idle {y : Th} {A : Ar} {c : Int} (h1 : y.ripe = []) (h2 : y.push = none) (h3 : y.slot = -1) (h4 : y.pop = none) : y.own A c :=
  ⟨fun _ => ⟨h1, h2⟩, fun h => absurd h3 h, fun h => absurd h4 h, fun p hp => by rw [h2] at hp; (cases hp), fun p hp => by rw [h4] at hp; (cases hp)⟩
section
variable {A : Ar} {x : Th} {L : List Int} {pick c : Int} {fr : List Int}
theorem Th.own.rest (w : x.own A c) (h : x.next ≠ some .fre ∧ x.next ≠ some .tri ∧ x.next ≠ some .ret ∧ x.next ≠ some .tak) : x.ripe = [] ∧ x.push = none ∧ x.slot = -1 ∧ x.pop = none := by
  obtain ⟨n1, n2, n3, n4⟩ := h
  have r := w.ri n1
  refine ⟨r.1, r.2, ?_, ?_⟩
  · by_cases e : x.slot = -1
    · exact e
    · rcases w.sl e with h | h
      · exact absurd h n2
      · exact absurd h n3
  · cases e : x.pop with
    | none => rfl
    | some p => exact absurd (w.po (by rw [e]; simp)) n4
theorem Th.tris_own (ox : x.ok) (hw : x.wrs) (hA : A.ok) (F : Fre A fr c) (w : x.own A c) (hn : x.next = some .tri) : Res x A fr c (x.tris A).1 (x.tris A).2.2 := by
  unfold Th.tris
  cases e : x.att with
  | none => exact .same F (.refl A) w fun _ => rfl
  | some a =>
    have k := (At.step_acc (ox.att a e).1 hA (hw a e)).kp hA fun i p => by unfold inAtt at p; omega
    have w1 := w.kp ox k
    refine .same F k ⟨fun _ => w1.ri (by rw [hn]; simp), fun _ => ?_, fun h => ?_, w1.push, w1.pop⟩ fun _ => rfl
    · simp only
      split
      · exact .inr rfl
      · exact .inl hn
    · have := w.po h
      rw [hn] at this; cases this
theorem Th.with_own {s : Int} (h1 : x.ripe = []) (h2 : x.push = none) (h4 : x.pop = none) : (x.with_ s L).own A c :=
  ⟨fun _ => ⟨h1, h2⟩, fun _ => .inl rfl, fun h => absurd h4 h, fun p hp => by have hp : x.push = some p := hp; rw [h2] at hp; (cases hp), fun p hp => by have hp : x.pop = some p := hp; rw [h4] at hp; (cases hp)⟩
theorem with_count {s t : Int} (hs : s ≠ -1) (h3 : x.slot = -1) : (x.with_ s L).hold.count t = x.hold.count t + [s].count t := by
  rw [hold_count, hold_count, h3]
  show _ + (_ + (_ + (if s = -1 then [] else [s] : List Int).count t)) = _
  rw [if_neg hs, if_pos rfl]
  simp only [Th.with_, List.count_nil]
  omega
theorem Th.taks_own (ox : x.ok) (hw : x.wrs) (hA : A.ok) (F : Fre A fr c) (hc : c < 90000) (w : x.own A c) (hn : x.next = some .tak ∨ x.next = some .fre) (hr : x.ripe = []) (hq : x.push = none) :
    Res x A fr c (x.taks A L).1.1 (x.taks A L).1.2.2 := by
  have h3 : x.slot = -1 := by
    by_cases e : x.slot = -1
    · exact e
    · rcases w.sl e with h | h <;> rcases hn with q | q <;> (rw [q] at h; cases h)
  have main : ∀ p : Option Pop, x.pop = p →
      let q := (p.getD .new).step A
      let r : (Th × Int × Ar) × List Int := if q.1.l.over = false ∨ q.2.1 ≠ 0 then (({ x with pop := some q.1, next := some .tak }, q.2.1, q.2.2), L) else
        if q.1.slot = -1 then (({ x with pop := none, end_ := 1, next := some .lea }, 0, q.2.2), L) else
        ((({ x with pop := none } : Th).with_ q.1.slot L, 0, q.2.2), lived q.1.slot L)
      Res x A fr c r.1.1 r.1.2.2 := by
    intro p hp
    have po : (p.getD .new).ok ∧ (p.getD .new).own A c := by
      cases p with
      | none => exact ⟨Pop.new_ok, Pop.new_own⟩
      | some p => exact ⟨ox.pop p hp, w.pop p hp⟩
    obtain ⟨s0, s1⟩ := Pop.step_own po.1 po.2 hA F hc
    generalize (p.getD .new).step A = q at s0 s1
    simp only
    rcases s1 with ⟨s1, k, wq⟩ | ⟨s1, s2, k⟩ | ⟨s1, s, fr', e1, e2, e3, F', k⟩
    · rw [if_pos (.inl s1)]
      exact .same F k ⟨fun _ => ⟨hr, hq⟩, fun h => absurd h3 h, fun _ => rfl, fun p hp => by have hp : x.push = some p := hp; rw [hq] at hp; (cases hp), fun p hp => by cases hp; exact wq⟩ fun _ => rfl
    · rw [if_neg (by rw [s1, s0]; simp), if_pos s2]
      exact .same F k (.idle hr hq h3 rfl) fun _ => rfl
    · rw [if_neg (by rw [s1, s0]; simp), if_neg (by omega), e2]
      subst e1
      refine ⟨fr', c + 1, F', Th.with_own hr hq rfl, .inl ⟨rfl, k⟩, fun t => ?_, by simp only [List.length_cons]; omega, by simp only [List.length_cons]; omega⟩
      have g1 := with_count (x := { x with pop := none }) (L := L) (s := s) (t := t) (by omega) h3
      have g2 : ({ x with pop := none } : Th).hold.count t = x.hold.count t := rfl
      have g3 : (s :: fr').count t = fr'.count t + [s].count t := by rw [List.count_cons, List.count_singleton]
      show fr'.count t + (({ x with pop := none } : Th).with_ s L).hold.count t = (s :: fr').count t + x.hold.count t
      omega
  unfold Th.taks
  cases hp : x.pop with
  | some p => exact main _ hp
  | none =>
    cases hl : x.cache.getLast? with
    | none => exact main _ hp
    | some s =>
      have hm := ox.ca s (List.mem_of_getLast? hl)
      have hcp := ox.cap
      have hlive := ox.live (.inl (by rcases hn with h | h <;> (rw [h]; simp)))
      have hc2 : x.limbo.length + x.ripe.length + 16 ≤ 16 * x.evs.length + x.tries.toNat := by
        rcases hn with h | h <;> (rw [h] at hcp; simp only [restOf, flagOf] at hcp; omega)
      have o1 : ({ x with cache := x.cache.dropLast, pop := none, next := some .tak } : Th).ok := { ox with
        pop := fun n h => by cases h
        cl := by show (x.cache.dropLast).length ≤ 2; rw [List.length_dropLast]; have := ox.cl; omega
        ca := fun s hs => ox.ca s (List.dropLast_subset _ hs)
        live := fun _ => hlive
        ans := fun h => by cases h
        s2 := fun h => by rcases h with h | h <;> cases h
        cap := by simp only [restOf, flagOf]; omega }
      have o2 := Th.with_ok (L := L) o1 rfl hm.1 hm.2
      have e : ({ x with cache := x.cache.dropLast } : Th).with_ s L = ({ x with cache := x.cache.dropLast, pop := none, next := some .tak } : Th).with_ s L := by
        unfold Th.with_ Th.ops
        simp only [hp]
      refine .of (x1 := ({ x with cache := x.cache.dropLast } : Th).with_ s L) ?_ (fun t => ?_) fun t ht => ht
      · rw [e]
        exact Th.tris_own o2 (Th.with_wrs hm.1) hA F (Th.with_own hr hq rfl) rfl
      · rw [with_count (x := { x with cache := x.cache.dropLast }) (by omega) h3, hold_count, hold_count]
        have hcs : x.cache = x.cache.dropLast ++ [s] := by
          obtain ⟨ys, hy⟩ := List.getLast?_eq_some_iff.1 hl
          rw [hy, List.dropLast_concat]
        have : x.cache.count t = x.cache.dropLast.count t + [s].count t := by
          rw [← List.count_append, ← hcs]
        simp only
        omega
theorem cached_count (t : Int) : x.cached.hold.count t = x.hold.count t := by
  unfold Th.cached
  split
  · rw [hold_count, hold_count]
    simp only [List.count_append]
    have : (x.ripe.take (2 - x.cache.length)).count t + (x.ripe.drop (2 - x.cache.length)).count t = x.ripe.count t := by
      rw [← List.count_append, List.take_append_drop]
    omega
  · rfl
theorem Th.cached_own (w : x.own A c) (hn : x.next = some .fre) : x.cached.own A c := by
  unfold Th.cached
  split
  · rename_i h
    exact ⟨fun q => absurd hn q, w.sl, w.po, fun p hp => by have hp : x.push = some p := hp; rw [h] at hp; (cases hp), w.pop⟩
  · exact w
theorem Th.cached_sub {s : Int} (h : s ∈ x.cached.ripe) : s ∈ x.ripe := by
  unfold Th.cached at h
  split at h
  · exact List.mem_of_mem_drop h
  · exact h
theorem Th.fres_own (ox : x.ok) (hw : x.wrs) (hA : A.ok) (F : Fre A fr c) (hc : c < 90000) (w : x.own A c) (hn : x.next = some .fre) (hd : ∀ s ∈ x.ripe, s ∉ fr) :
    Res x A fr c (x.fres A L).1.1 (x.fres A L).1.2.2 := by
  have oc := Th.cached_ok ox
  have hn' : x.cached.next = some .fre := by rw [Th.cached_next]; exact hn
  have hw' : x.cached.wrs := by unfold Th.cached; split <;> exact hw
  have wc := Th.cached_own w hn
  refine .of (x1 := x.cached) ?_ (fun t => cached_count t) fun s => Th.cached_sub
  have hd : ∀ s ∈ x.cached.ripe, s ∉ fr := fun s hs => hd s (Th.cached_sub hs)
  unfold Th.fres
  simp only
  generalize x.cached = y at oc hn' hw' wc hd ⊢
  split
  · rename_i hr
    refine Th.taks_own oc hw' hA F hc wc (.inr hn') hr ?_
    cases e : y.push with
    | none => rfl
    | some p => have := (wc.push p e).2; rw [hr] at this; cases this
  · rename_i s r hr
    have hm := oc.ri s (by rw [hr]; simp)
    have hpo : y.pop = none := by
      cases e : y.pop with
      | none => rfl
      | some p => have := wc.po (by rw [e]; simp); rw [hn'] at this; cases this
    have hsl : y.slot = -1 := by
      by_cases e : y.slot = -1
      · exact e
      · rcases wc.sl e with h | h <;> (rw [hn'] at h; cases h)
    have po : (y.push.getD (.new s)).ok ∧ (y.push.getD (.new s)).own A ∧ (y.push.getD (.new s)).slot = s := by
      cases hp : y.push with
      | none => exact ⟨Push.new_ok hm.1 hm.2, Push.new_own, rfl⟩
      | some p =>
        have := (wc.push p hp).2
        rw [hr] at this
        cases this
        exact ⟨oc.push p hp, (wc.push p hp).1, rfl⟩
    have hsf : s ∉ fr := hd s (by rw [hr]; simp)
    obtain ⟨s0, s2, s1⟩ := Push.step_own po.1 po.2.1 hA F hc (by rw [po.2.2]; exact hsf)
    rw [po.2.2] at s1 s2
    generalize (y.push.getD (.new s)).step A = q at s0 s1 s2
    rcases s1 with ⟨s1, wq, F', sw⟩ | ⟨s1, F', k⟩
    · rw [if_neg (by rw [s1]; simp)]
      refine ⟨fr, c, F', ⟨fun z => absurd hn' z, fun h => absurd hsl h, fun h => absurd hpo h, fun p hp => ?_, fun p hp => ?_⟩, ?_, fun _ => rfl, by omega, by omega⟩
      · cases hp
        exact ⟨wq, by show y.ripe.head? = _; rw [hr, s2]; rfl⟩
      · have hp : y.pop = some p := hp
        rw [hpo] at hp; cases hp
      · rcases sw with sw | ⟨e1, e2, e3⟩
        · exact .inl sw
        · exact .inr ⟨e1, e2, fun t t0 t1 hn => e3 t t0 t1 fun z => hn (by rw [z, hr]; simp)⟩
    · rw [if_pos ⟨s1, s0⟩]
      refine ⟨s :: fr, c + 1, F', ⟨fun z => absurd hn' z, fun h => absurd hsl h, fun h => absurd hpo h, (fun p hp => by cases hp), fun p hp => ?_⟩, .inl ⟨rfl, k⟩, fun t => ?_, by simp only [List.length_cons]; omega, by simp only [List.length_cons]; omega⟩
      · have hp : y.pop = some p := hp
        rw [hpo] at hp; cases hp
      · rw [hold_count, hold_count, hr]
        simp only [List.count_cons]
        omega
theorem ripes_count (rs : List Ret) (e t : Int) : (ripes rs e).count t + ((rests rs e).map Ret.slot).count t = (rs.map Ret.slot).count t := by
  induction rs with
  | nil => rfl
  | cons r rs ih =>
    unfold ripes rests at ih ⊢
    simp only [List.filter_cons]
    cases isRipe e r <;> simp [List.count_cons] at ih ⊢ <;> omega
theorem Th.answer_own {B : Ar} {d : Int} (h : x.ripe = [] ∧ x.push = none ∧ x.slot = -1 ∧ x.pop = none) : (x.answer pick).own B d ∧ (x.answer pick).hold = x.hold := by
  unfold Th.answer
  split
  · exact ⟨.idle h.1 h.2.1 h.2.2.1 h.2.2.2, rfl⟩
  · exact ⟨.idle h.1 h.2.1 h.2.2.1 h.2.2.2, rfl⟩
theorem Th.act_own {a : Act} (ox : x.ok) (hw : x.wrs) (hA : A.ok) (F : Fre A fr c) (hc : c < 90000) (w : x.own A c) (hn : x.next = some a) (hd : ∀ s ∈ x.ripe, s ∉ fr) :
    Res x A fr c (x.act A L pick a).1.1 (x.act A L pick a).1.2.2 := by
  have i0 := ox.i0; have i1 := ox.i1; have n1 := ox.n1
  cases a with
  | ent =>
    obtain ⟨h1, h2, h3, h4⟩ := w.rest (by rw [hn]; simp)
    unfold Th.act Th.ents
    cases e : x.ent with
    | none => exact .same F (.refl A) w fun _ => rfl
    | some n =>
      have k := (Ent.step_acc (A := A) (ox.ent n e)).kp hA fun i p => by omega
      simp only
      split
      · refine .same F k ⟨fun z => absurd rfl z, fun h => absurd h3 h, fun h => absurd h4 h, fun p hp => by have hp : x.push = some p := hp; rw [h2] at hp; (cases hp), fun p hp => by have hp : x.pop = some p := hp; rw [h4] at hp; (cases hp)⟩ fun t => ?_
        rw [hold_count, hold_count, h1]
        have := ripes_count x.limbo (n.step A).1.e t
        simp only [List.count_nil]
        omega
      · exact .same F k (.idle h1 h2 h3 h4) fun _ => rfl
  | fre => exact Th.fres_own ox hw hA F hc w hn hd
  | tak => have r := w.ri (by rw [hn]; simp); exact Th.taks_own ox hw hA F hc w (.inl hn) r.1 r.2
  | tri => exact Th.tris_own ox hw hA F w hn
  | ret =>
    obtain ⟨h1, h2⟩ := w.ri (by rw [hn]; simp)
    have h4 : x.pop = none := by
      cases e : x.pop with
      | none => rfl
      | some p => have := w.po (by rw [e]; simp); rw [hn] at this; cases this
    have k := Kp.ld (i := 29) hA (by decide) (by decide)
    have s2 := ox.s2 (.inr hn)
    unfold Th.act Th.rets
    simp only
    split
    · refine .same F k (.idle h1 h2 rfl h4) fun t => ?_
      rw [hold_count, hold_count]
      rw [if_neg (show ¬ x.slot = -1 by omega)]
      simp only [List.map_append, List.count_append, List.map_cons, List.map_nil, if_true, List.count_nil]
      omega
    · exact .same F k (w.kp ox k) fun _ => rfl
  | lea =>
    obtain ⟨h1, h2, h3, h4⟩ := w.rest (by rw [hn]; simp)
    have k : Kp A (A.put (30 + x.id) 0) := fun j j0 j1 => by rw [at_put hA (by omega) (by omega) (by omega) (by omega), if_neg (by omega)]
    exact .same F k (.idle h1 h2 h3 h4) fun _ => rfl
  | adv =>
    obtain ⟨h1, h2, h3, h4⟩ := w.rest (by rw [hn]; simp)
    unfold Th.act Th.advs
    cases e : x.adv with
    | none => exact .same F (.refl A) w fun _ => rfl
    | some d =>
      have k := (Adv.step_acc (A := A) (ox.adv d e)).kp hA fun i p => by omega
      simp only
      split
      · obtain ⟨q1, q2⟩ := Th.answer_own (x := { x with adv := some (d.step A).1 }) (pick := pick) (B := (d.step A).2.2) (d := c) ⟨h1, h2, h3, h4⟩
        exact .same F k q1 fun t => by rw [q2]; rfl
      · exact .same F k (.idle h1 h2 h3 h4) fun _ => rfl
theorem Th.ended_own {r : (Th × Int × Ar) × List Int} (h : Res x A fr c r.1.1 r.1.2.2) : Res x A fr c (Th.ended r).1 (Th.ended r).2.2.2.1 := by
  unfold Th.ended
  split
  · exact h
  · obtain ⟨fr', d, h1, h2, h3⟩ := h.ex
    exact ⟨fr', d, h1, ⟨h2.ri, h2.sl, h2.po, h2.push, h2.pop⟩, h3⟩
theorem Th.step_own (ox : x.ok) (hw : x.wrs) (hA : A.ok) (F : Fre A fr c) (hc : c < 90000) (w : x.own A c) (hd : ∀ s ∈ x.ripe, s ∉ fr) :
    Res x A fr c (x.step A L pick).1 (x.step A L pick).2.2.2.1 := by
  unfold Th.step
  split
  · exact .same F (.refl A) w fun _ => rfl
  · have o1 : ({ x with ts := -1, tg := 0 } : Th).ok := { ox with }
    have w1 : ({ x with ts := -1, tg := 0 } : Th).own A c := ⟨w.ri, w.sl, w.po, w.push, w.pop⟩
    simp only
    split
    · rename_i a e
      exact Th.ended_own (.of (x1 := { x with ts := -1, tg := 0 }) (Th.act_own o1 hw hA F hc w1 e hd) (fun _ => rfl) fun _ h => h)
    · rename_i e
      have b := Th.begin_ok (pick := pick) o1 e
      obtain ⟨h1, h2, h3, h4⟩ := w1.rest (by rw [e]; simp)
      have bw : (({ x with ts := -1, tg := 0 } : Th).begin pick).1.wrs ∧ (({ x with ts := -1, tg := 0 } : Th).begin pick).1.own A c ∧ (∀ t, (({ x with ts := -1, tg := 0 } : Th).begin pick).1.hold.count t = x.hold.count t) ∧ (({ x with ts := -1, tg := 0 } : Th).begin pick).1.ripe = x.ripe := by
        unfold Th.begin
        split
        · exact ⟨hw, w1, fun _ => rfl, rfl⟩
        · split
          · exact ⟨hw, .idle h1 h2 h3 h4, fun _ => rfl, rfl⟩
          · exact ⟨hw, .idle h1 h2 h3 h4, fun _ => rfl, rfl⟩
      split
      · rename_i q
        exact Th.ended_own (.of (Th.act_own b.1 bw.1 hA F hc bw.2.1 (b.2 q) (by rw [bw.2.2.2]; exact hd)) bw.2.2.1 fun s h => by rw [bw.2.2.2] at h; exact h)
      · exact .same F (.refl A) bw.2.1 bw.2.2.1
end
set_option maxRecDepth 20000
theorem sum_set {α : Type} {f : α → Nat} {x y : α} : ∀ {xs : List α} {i : Nat}, xs[i]? = some x → ((xs.set i y).map f).sum + f x = (xs.map f).sum + f y := by
  intro xs
  induction xs with
  | nil => intro i h; cases h
  | cons a xs ih =>
    intro i h
    cases i with
    | zero => simp at h; subst h; simp; omega
    | succ i => have := ih (i := i) (by simpa using h); simp only [List.set_cons_succ, List.map_cons, List.sum_cons]; omega
theorem sum_one {α : Type} {f : α → Nat} {x : α} : ∀ {xs : List α} {i : Nat}, xs[i]? = some x → f x ≤ (xs.map f).sum := by
  intro xs
  induction xs with
  | nil => intro i h; cases h
  | cons a xs ih =>
    intro i h
    cases i with
    | zero => simp at h; subst h; simp
    | succ i => have := ih (i := i) (by simpa using h); simp only [List.map_cons, List.sum_cons]; omega
theorem sum_two {α : Type} {f : α → Nat} {x y : α} : ∀ {xs : List α} {i j : Nat}, xs[i]? = some x → xs[j]? = some y → i ≠ j → f x + f y ≤ (xs.map f).sum := by
  intro xs
  induction xs with
  | nil => intro i j h; cases h
  | cons a xs ih =>
    intro i j h h2 hij
    cases i with
    | zero =>
      cases j with
      | zero => exact absurd rfl hij
      | succ j =>
        simp at h; subst h
        have := sum_one (f := f) (xs := xs) (i := j) (by simpa using h2)
        simp only [List.map_cons, List.sum_cons]; omega
    | succ i =>
      cases j with
      | zero =>
        simp at h2; subst h2
        have := sum_one (f := f) (xs := xs) (i := i) (by simpa using h)
        simp only [List.map_cons, List.sum_cons]; omega
      | succ j =>
        have := ih (i := i) (j := j) (by simpa using h) (by simpa using h2) (by omega)
        simp only [List.map_cons, List.sum_cons]; omega
structure Mc.si (M : Mc) (fr : List Int) (c : Int) : Prop where
  F : Fre M.A fr c
  c1 : c ≤ M.picks
  own : ∀ x ∈ M.ths, x.own M.A c
  all : ∀ s, fr.count s + (M.ths.map fun x => x.hold.count s).sum = if 0 ≤ s ∧ s < 12 then 1 else 0
def twelve : List Int := [0, 1, 2, 3, 4, 5, 6, 7, 8, 9, 10, 11]
theorem twelve_count (s : Int) : twelve.count s = if 0 ≤ s ∧ s < 12 then 1 else 0 := by
  split
  · rename_i h
    have : s = 0 ∨ s = 1 ∨ s = 2 ∨ s = 3 ∨ s = 4 ∨ s = 5 ∨ s = 6 ∨ s = 7 ∨ s = 8 ∨ s = 9 ∨ s = 10 ∨ s = 11 := by omega
    rcases this with rfl | rfl | rfl | rfl | rfl | rfl | rfl | rfl | rfl | rfl | rfl | rfl <;> decide
  · rename_i h
    refine List.count_eq_zero.2 fun z => h ?_
    simp only [twelve, List.mem_cons, List.not_mem_nil, or_false] at z
    omega
theorem newAr_fre : Fre newAr twelve 0 := by
  refine ⟨⟨1, by decide, ?_⟩, fun s h0 h1 => ?_, Int.le_refl 0⟩
  · refine ⟨rfl, by decide, 2, by decide, rfl, by decide, 3, by decide, rfl, by decide, 4, by decide, rfl, by decide, 5, by decide, rfl, by decide, 6, by decide, rfl, by decide, 7, by decide, rfl, by decide, 8, by decide, rfl, by decide, 9, by decide, rfl, by decide, 10, by decide, rfl, by decide, 11, by decide, rfl, by decide, 12, by decide, rfl, by decide, 0, by decide, rfl⟩
  · have : s = 0 ∨ s = 1 ∨ s = 2 ∨ s = 3 ∨ s = 4 ∨ s = 5 ∨ s = 6 ∨ s = 7 ∨ s = 8 ∨ s = 9 ∨ s = 10 ∨ s = 11 := by omega
    rcases this with rfl | rfl | rfl | rfl | rfl | rfl | rfl | rfl | rfl | rfl | rfl | rfl
    · exact ⟨2, by decide, by decide, by decide⟩
    · exact ⟨3, by decide, by decide, by decide⟩
    · exact ⟨4, by decide, by decide, by decide⟩
    · exact ⟨5, by decide, by decide, by decide⟩
    · exact ⟨6, by decide, by decide, by decide⟩
    · exact ⟨7, by decide, by decide, by decide⟩
    · exact ⟨8, by decide, by decide, by decide⟩
    · exact ⟨9, by decide, by decide, by decide⟩
    · exact ⟨10, by decide, by decide, by decide⟩
    · exact ⟨11, by decide, by decide, by decide⟩
    · exact ⟨12, by decide, by decide, by decide⟩
    · exact ⟨0, by decide, by decide, by decide⟩
theorem Mc.new_si {p : Plan} : (Mc.new p).si twelve 0 := by
  refine ⟨newAr_fre, Int.le_refl 0, fun x hx => ?_, fun s => ?_⟩
  · obtain ⟨j, t, e1, rfl⟩ := Mc.threads_mem hx
    exact .idle rfl rfl rfl rfl
  · rw [twelve_count]
    have : ((Mc.new p).ths.map fun x => x.hold.count s).sum = 0 := by
      rw [List.map_congr_left (g := fun _ => 0) fun x hx => ?_]
      · generalize (Mc.new p).ths = xs
        induction xs with
        | nil => rfl
        | cons a xs ih => simpa using ih
      · obtain ⟨j, t, e1, rfl⟩ := Mc.threads_mem hx
        rfl
    rw [this]; rfl
theorem decide_own {x : Th} {A : Ar} {c s pick : Int} (w : x.own A c) : (x.decide s pick).own A c ∧ (x.decide s pick).hold = x.hold := by
  unfold Th.decide
  split
  · exact ⟨⟨w.ri, w.sl, w.po, w.push, w.pop⟩, rfl⟩
  · exact ⟨w, rfl⟩
theorem Mc.pick_si {M : Mc} {k c : Int} {fr : List Int} (o : M.ok) (S : M.si fr c) : ∃ fr' c', (M.pick k).1.si fr' c' ∧ fr'.length ≤ fr.length + 1 ∧ fr.length ≤ fr'.length + 1 := by
  unfold Mc.pick
  split
  · exact ⟨fr, c, S, by omega, by omega⟩
  · rename_i hk
    split
    · exact ⟨fr, c, S, by omega, by omega⟩
    · rename_i x hx
      have ox := o.ths x (List.mem_of_getElem? hx)
      have hc : c < 90000 := by have := S.c1; have := o.p1; omega
      have c0 := S.F.c0
      have hd : ∀ s ∈ x.ripe, s ∉ fr := fun s h1 h2 => by
        have a1 := S.all s
        have a2 := sum_one (f := fun x : Th => x.hold.count s) hx
        have a3 := List.count_pos_iff.2 h2
        have a4 := List.count_pos_iff.2 h1
        have a5 := hold_count x s
        split at a1 <;> omega
      obtain ⟨fr', d, r1, r2, r3, r4, r5⟩ := (Th.step_own (L := M.L) (pick := M.picks) ox.1 ox.2.1 o.A S.F hc (S.own x (List.mem_of_getElem? hx)) hd).ex
      generalize x.step M.A M.L M.picks = r at r1 r2 r3 r4
      simp only
      have dd : d ≤ c + 1 := by rcases r3 with ⟨e, _⟩ | ⟨e, _⟩ <;> omega
      have base : ∀ y ∈ M.ths.set k.toNat r.1, y.own r.2.2.2.1 d := fun y hy => by
        obtain ⟨j, hj, he⟩ := List.mem_iff_getElem.1 hy
        have hg : (M.ths.set k.toNat r.1)[j]? = some y := by rw [List.getElem?_eq_getElem hj, he]
        rw [List.getElem?_set] at hg
        split at hg
        · split at hg
          · cases hg; exact r2
          · cases hg
        · rename_i ne
          have oy := o.ths y (List.mem_of_getElem? hg)
          refine (S.own y (List.mem_of_getElem? hg)).other oy.1 S.F (by omega) r3 fun s hs => ⟨fun q => ?_, hd s hs⟩
          have a1 := S.all s
          have a2 := sum_two (f := fun x : Th => x.hold.count s) hx hg ne
          have a3 := List.count_pos_iff.2 q
          have a4 := List.count_pos_iff.2 hs
          have a5 := hold_count x s
          have a6 := hold_count y s
          split at a1 <;> omega
      have cnt : ∀ s, fr'.count s + ((M.ths.set k.toNat r.1).map fun x => x.hold.count s).sum = if 0 ≤ s ∧ s < 12 then 1 else 0 := fun s => by
        have a1 := S.all s
        have a2 := sum_set (f := fun x : Th => x.hold.count s) (y := r.1) hx
        have a3 := r4 s
        omega
      refine ⟨fr', d, ⟨r1, by show d ≤ M.picks + 1; have := S.c1; omega, fun y hy => ?_, fun s => ?_⟩, r5⟩
      · simp only at hy
        split at hy
        · unfold decAll at hy
          split at hy
          · obtain ⟨z, hz, rfl⟩ := List.mem_map.1 hy
            exact (decide_own (base z hz)).1
          · exact base y hy
        · exact base y hy
      · rw [← cnt s]
        congr 2
        show List.map _ (if r.2.1 = true then decAll _ _ _ else _ : List Th) = _
        split
        · unfold decAll
          split
          · rw [List.map_map]
            refine List.map_congr_left fun z hz => ?_
            show ((z.decide _ _).hold).count s = _
            rw [(decide_own (base z hz)).2]
          · rfl
        · rfl
structure Kpe (n : Nat) (es fs : List Event) : Prop where
  st : ∀ e ∈ es, 0 ≤ e.answered → e ∈ fs
  l0 : es.length ≤ fs.length
  l1 : fs.length ≤ es.length + n
theorem Kpe.refl (n : Nat) (es : List Event) : Kpe n es es := ⟨fun _ h _ => h, Nat.le_refl _, Nat.le_add_right _ _⟩
theorem Kpe.trans {n m : Nat} {a b c : List Event} (x : Kpe n a b) (y : Kpe m b c) : Kpe (n + m) a c := ⟨fun e h q => y.st e (x.st e h q) q, Nat.le_trans x.l0 y.l0, by have := x.l1; have := y.l1; omega⟩
theorem Kpe.app {n m : Nat} {a b c d : List Event} (x : Kpe n a b) (y : Kpe m c d) : Kpe (n + m) (a ++ c) (b ++ d) := by
  refine ⟨fun e h q => ?_, ?_, ?_⟩
  · rcases List.mem_append.1 h with h | h
    · exact List.mem_append_left _ (x.st e h q)
    · exact List.mem_append_right _ (y.st e h q)
  · have := x.l0; have := y.l0; simp only [List.length_append]; omega
  · have := x.l1; have := y.l1; simp only [List.length_append]; omega
theorem evTurn_keep {es : List Event} {f : Event → Event} (h : ∀ e, es.getLast? = some e → e.answered < 0) : Kpe 0 es (evTurn es f) := by
  refine ⟨fun e he q => ?_, by rw [evTurn_len]; exact Nat.le_refl _, by rw [evTurn_len]; exact Nat.le_refl _⟩
  unfold evTurn
  cases hl : es.getLast? with
  | none => exact he
  | some l =>
    have := h l hl
    obtain ⟨i, hi, rfl⟩ := List.mem_iff_getElem.1 he
    have ne : es.length - 1 ≠ i := by
      intro e
      rw [List.getLast?_eq_getElem?, e, List.getElem?_eq_getElem hi] at hl
      cases hl; omega
    exact List.mem_iff_getElem.2 ⟨i, by rw [List.length_set]; exact hi, List.getElem_set_ne ne _⟩
section
variable {A : Ar} {x : Th} {L : List Int} {pick s : Int}
theorem Th.step_keep (u : x.una) : Kpe 1 x.evs (x.step A L pick).1.evs := by
  cases hd : x.dead with
  | true => rw [Th.step_dead hd]; exact .refl _ _
  | false =>
    cases hx : x.next with
    | some a =>
      rw [Th.step_some hd hx, Th.ended_evs]
      by_cases c : a = .adv
      · subst c
        show Kpe 1 x.evs (x.z.advs A pick).1.evs
        unfold Th.advs
        split
        · exact .refl _ _
        · split
          · obtain ⟨e, h1, h2⟩ := u.u (.inl (by rw [hx]; simp))
            have := fun f : Event → Event => evTurn_keep (f := f) (es := x.evs) fun e' h' => by rw [h1] at h'; cases h'; omega
            have k : ∀ f : Event → Event, Kpe 1 x.evs (evTurn x.evs f) := fun f => (this f).trans (.refl 1 _)
            unfold Th.answer
            split
            · exact k _
            · exact k _
          · exact .refl _ _
      · rw [Th.act_evs c]; exact .refl _ _
    | none =>
      rw [Th.step_none hd hx]
      have b : Kpe 1 x.evs (x.z.begin pick).1.evs := by
        unfold Th.begin
        split
        · exact .refl _ _
        · split
          · exact .refl _ _
          · simp only
            split
            · exact ⟨fun e h _ => List.mem_append_left _ h, by simp [Th.z], by simp [Th.z]⟩
            · exact .refl _ _
      split
      · rw [Th.ended_evs, Th.act_evs (by simp)]; exact b
      · exact b
theorem Th.decide_keep {A : Ar} {c : Int} (hs : s ≠ -1) (w : (x.decide s pick).own A c) (u : (x.decide s pick).una) : Kpe 0 x.evs (x.decide s pick).evs := by
  by_cases h : x.slot = s
  · have e : x.decide s pick = { x with evs := evTurn x.evs fun e => { e with decided := pick } } := by unfold Th.decide; rw [if_pos h]
    rw [e] at w u ⊢
    have nx : x.next = some .tri ∨ x.next = some .ret := w.sl (by show x.slot ≠ -1; omega)
    obtain ⟨l, h1, h2⟩ := u.u (.inl (by show x.next ≠ none; rcases nx with q | q <;> (rw [q]; simp)))
    refine evTurn_keep fun e he => ?_
    have h1 : (evTurn x.evs fun e => { e with decided := pick }).getLast? = some l := h1
    rw [evTurn_last, he] at h1
    simp at h1
    subst h1
    have h2 : e.answered = -1 := h2
    omega
  · have e : x.decide s pick = x := by unfold Th.decide; rw [if_neg h]
    rw [e]; exact .refl _ _
end
theorem flat_keep {f : Th → Th} : ∀ {xs : List Th}, (∀ x ∈ xs, Kpe 0 x.evs (f x).evs) → Kpe 0 (xs.flatMap Th.evs) ((xs.map f).flatMap Th.evs) := by
  intro xs
  induction xs with
  | nil => intro _; exact .refl _ _
  | cons x xs ih =>
    intro h
    rw [List.map_cons, List.flatMap_cons, List.flatMap_cons]
    exact (h x (by simp)).app (ih fun y hy => h y (List.mem_cons_of_mem _ hy))
theorem flat_set {x y : Th} : ∀ {xs : List Th} {i : Nat}, xs[i]? = some x → Kpe 1 x.evs y.evs → Kpe 1 (xs.flatMap Th.evs) ((xs.set i y).flatMap Th.evs) := by
  intro xs
  induction xs with
  | nil => intro i h; cases h
  | cons a xs ih =>
    intro i h k
    cases i with
    | zero =>
      simp at h; subst h
      rw [List.set_cons_zero, List.flatMap_cons, List.flatMap_cons]
      exact k.app (.refl 0 _)
    | succ i =>
      rw [List.set_cons_succ, List.flatMap_cons, List.flatMap_cons]
      exact (Kpe.refl 0 a.evs).app (ih (i := i) (by simpa using h) k)
theorem Mc.pick_keep {M : Mc} {k c : Int} {fr : List Int} (o : M.ok) (S : M.si fr c) (un : ∀ x ∈ M.ths, x.una) : Kpe 1 M.events (M.pick k).1.events := by
  have un2 := Mc.pick_una (k := k) o un
  obtain ⟨fr', c', S', _⟩ := Mc.pick_si (k := k) o S
  by_cases g : ¬ (0 ≤ k ∧ k < M.ths.length) ∨ 65536 ≤ M.picks
  · rw [Mc.pick_no g]; exact .refl _ _
  · obtain ⟨n, rfl⟩ := Int.eq_ofNat_of_zero_le (show 0 ≤ k by omega)
    obtain ⟨x, hx⟩ : ∃ x, M.ths[n]? = some x := ⟨_, List.getElem?_eq_getElem (by omega)⟩
    rw [Mc.pick_yes hx (by omega)] at un2 S' ⊢
    have st := Th.step_keep (A := M.A) (L := M.L) (pick := M.picks) (un x (List.mem_of_getElem? hx))
    have f1 := flat_set hx st
    have own := S'.own
    generalize x.step M.A M.L M.picks = r at un2 own f1 ⊢
    unfold Mc.events
    simp only at un2 own f1 ⊢
    cases hb : r.2.1 with
    | false => exact f1
    | true =>
      simp only [hb, if_true] at un2 own ⊢
      unfold decAll at un2 own ⊢
      cases hd : (noteT r.2.2.2.1 r.2.2.2.2 n r.1).dec with
      | none => exact f1
      | some s =>
        rw [hd] at un2 own
        have hs : s ≠ -1 := by
          unfold Touch.dec at hd
          split at hd
          · cases hd
          · rename_i q
            split at hd
            · cases hd; omega
            · cases hd
        refine f1.trans (flat_keep fun y hy => Th.decide_keep hs (own _ (List.mem_map_of_mem hy)) (un2 _ (List.mem_map_of_mem hy)))
theorem Mc.pick_ts {M : Mc} {k : Int} : (M.pick k).1.ts.length = M.ts.length + if (M.pick k).2.1 then 1 else 0 := by
  by_cases g : ¬ (0 ≤ k ∧ k < M.ths.length) ∨ 65536 ≤ M.picks
  · rw [Mc.pick_no g]; rfl
  · obtain ⟨n, rfl⟩ := Int.eq_ofNat_of_zero_le (show 0 ≤ k by omega)
    obtain ⟨x, hx⟩ : ∃ x, M.ths[n]? = some x := ⟨_, List.getElem?_eq_getElem (by omega)⟩
    rw [Mc.pick_yes hx (by omega)]
    simp only
    split
    · rw [List.length_append]; rfl
    · rfl
attribute [local irreducible] bnd ldV stV ifV binV eqI
theorem any_snoc {xs : List Event} {e x : Event} {i : Nat} (h : xs[i]? = some x) : ((xs.take (i + 1)).any fun y => decide (e = y)) = (((xs.take i).any fun y => decide (e = y)) || decide (e = x)) := by
  rw [List.take_add_one, h, List.any_append]
  simp
section
variable {h g : GH} {K : Value → GH → Prop} {v pv : Value} {p : Plan} {picks : List Int}
theorem T_MachineGrows (hp : All [baseP g] h) (ht : threadsAt g v p.threads) (rp : rowsAt g 1 pv (picks.map encI)) (hK : ∀ h', K (.bool true) h') : T Tryz.prog 16 [.agg (planC v p).toArray, pv] h K := by
  apply S16_T
  unfold S16
  have hpl : lnV pv = some (i64 picks.length) := by have := rp.len; rw [List.length_map] at this; exact this
  have hpm : picks.length ≤ 9223372036854775807 := by have := rp.max; rw [List.length_map] at this; exact this
  refine nw hp (.row 67 (planC v p) 3 true) rfl fun d h1 hp => ?_
  refine T_mawake hp fun h2 hp => ?_
  refine wk ?_
  refine la0 hp (c := planC v p) (Nat.le_refl 3) rfl ?_
  refine T_mNew hp (fun h' hp => All.baseLe hp.tail) ht (fun hm h3 hp => ?_) fun hm b h3 hp => ?_
  · refine wk ?_
    refine T_Num ?_
    refine wk ?_
    exact hK _
  refine wk ?_
  refine T_Num ?_
  refine wk ?_
  unfold S16_j1
  refine Lfp_fam (ι := Nat × Mc × Value × List Int × Int) (fun q => [pv, ptr b, q.2.2.1, i64 q.2.1.ts.length, i64 q.1]) (fun q h' => q.1 ≤ picks.length ∧ q.1 ≤ 200 ∧ q.2.1.ok ∧ q.2.1.si q.2.2.2.1 q.2.2.2.2 ∧ (∀ x ∈ q.2.1.ths, x.una) ∧ All (evoP q.2.2.1 q.2.1.events :: mcP b q.2.1 :: [baseP g]) h') (fun q => picks.length - q.1) ?_ (0, Mc.new p, .slice none 0 0, twelve, 0) h3 ⟨by omega, by omega, Mc.new_ok hm, Mc.new_si, Mc.new_una, ?_⟩
  rotate_left
  · have e : (Mc.new p).events = [] := by
      unfold Mc.events
      rw [List.flatMap_eq_nil_iff]
      intro x hx
      obtain ⟨j, t, _, rfl⟩ := Mc.threads_mem hx
      rfl
    have := hp.emp_cons (P := evoP (.slice none 0 0) (Mc.new p).events) (by rw [e]; exact evoP_nil)
    exact hn (this.re 4 [0, 1, 3])
  clear hp
  rintro ⟨i, M, esv, fr, c⟩ h5 X ⟨hi, hi2, o, S, un, hp⟩ again
  simp only at hi hi2 o S un hp
  simp only [tup_zero, tup_succ]
  refine bnd_of hpl ?_
  refine wk ?_
  refine ifV_cases (fun c1 => ?_) fun c1 => hK _
  refine wk ?_
  refine ifV_cases (fun c2 => ?_) fun c2 => hK _
  unfold S16_j2
  obtain ⟨x, hx⟩ : ∃ x, picks[i]? = some x := ⟨_, List.getElem?_eq_getElem (by omega)⟩
  obtain ⟨q1, d1, d2⟩ := (rp.le (All.baseLe hp.tail.tail)).get1 (i := i) (x := i64 x) (by rw [List.getElem?_map, hx]; rfl) .i64
  refine bnd_of d1 (bnd_of d2 ?_)
  refine T_mPick (hn (hp.up 1)) o fun h6 hp => ?_
  have o2 := Mc.pick_ok (k := x) o
  obtain ⟨fr', c', S', _⟩ := Mc.pick_si (k := x) o S
  have un2 := Mc.pick_una (k := x) o un
  have kp := Mc.pick_keep (k := x) o S un
  have tl := Mc.pick_ts (M := M) (k := x)
  have next := again
  generalize M.pick x = r at hp o2 S' un2 kp tl
  obtain ⟨M', is, e⟩ := r
  dsimp only at hp o2 S' un2 kp tl ⊢
  refine wk ?_
  refine T_mEvents hp o2 fun fsv h7 hp => ?_
  refine T_mTouches (hn (hp.up 1)) o2 fun tsv h8 hp => ?_
  have p1 := o2.p1; have ts1 := o2.ts; have p1' := o.p1; have ts1' := o.ts
  have htl : lnV tsv = some (i64 M'.ts.length) := by have := All.len hp; rw [List.length_map] at this; exact this
  replace hp := hn (hp.re 5 [2, 3, 1, 4])
  -- what it takes
  have j3 : S16_j3 (tup [pv, ptr b, esv, i64 M.ts.length, i64 i]) pv (ptr b) esv (i64 M'.ts.length) (i64 i) fsv tsv h8 K X := by
    unfold S16_j3
    refine evoP_open hp fun us hu hp => ?_
    refine evoP_open (hn (hp.up 2)) fun ws hw hp => ?_
    replace hp := hn (hp.re 4 [2, 3, 0, 1])
    have le8 : M.events.length ≤ 100000 ∧ M'.events.length ≤ 100000 := by
      have ev : ∀ {N : Mc}, N.ok → N.events.length ≤ 8 * N.ths.length := fun {N} oN => by
        unfold Mc.events
        have : ∀ xs : List Th, (∀ y ∈ xs, y.evs.length ≤ 8) → (xs.flatMap Th.evs).length ≤ 8 * xs.length := by
          intro xs
          induction xs with
          | nil => intro _; simp
          | cons y ys ih =>
            intro h
            have a := h y (by simp)
            have b := ih fun z hz => h z (List.mem_cons_of_mem _ hz)
            rw [List.flatMap_cons, List.length_append, List.length_cons]; omega
        exact this N.ths fun y hy => (oN.ths y hy).1.evs8
      have a := ev o; have b := ev o2; have := o.n; have := o2.n
      omega
    have hfl : lnV fsv = some (i64 M'.events.length) := by have := All.len hp; rw [evCs_len hu] at this; exact this
    have hel : lnV esv = some (i64 M.events.length) := by have := All.len (hn (hp.up 2)); rw [evCs_len hw] at this; exact this
    have k0 := kp.l0; have k1 := kp.l1
    refine bnd_of htl ?_
    refine wk ?_
    rw [decide_eq_true rfl]
    refine wk ?_
    refine bnd_of hfl ?_
    refine bnd_of hel ?_
    refine wk ?_
    refine ifV_n (by omega) ?_
    refine bnd_of hfl ?_
    refine bnd_of hel ?_
    refine wk ?_
    refine ifV_n (by omega) ?_
    unfold S16_j4
    refine Lfp_fam (ι := Nat) (fun j => [pv, ptr b, esv, i64 M'.ts.length, i64 i, fsv, i64 j]) (fun j h' => j ≤ M.events.length ∧ All (rowP 8 fsv (evCs M'.events us) :: All (ansO us M'.events) :: rowP 8 esv (evCs M.events ws) :: All (ansO ws M.events) :: mcP b M' :: [baseP g]) h') (fun j => M.events.length - j) ?_ 0 h8 ⟨by omega, hp⟩
    clear hp
    rintro j h9 Y ⟨hj, hp⟩ again2
    simp only [tup_zero, tup_succ]
    refine bnd_of hel ?_
    refine wk ?_
    refine ifV_cases (fun c3 => ?_) fun c3 => ?_
    · obtain ⟨e1, he1⟩ : ∃ e1, M.events[j]? = some e1 := ⟨_, List.getElem?_eq_getElem (by omega)⟩
      obtain ⟨w1, hw1⟩ : ∃ w1, ws[j]? = some w1 := ⟨_, List.getElem?_eq_getElem (by omega)⟩
      have g1 := evCs_get he1 hw1
      obtain ⟨eb, i1, i2, i3, _⟩ := All.elt (hn (hp.up 2)) g1 .i64
      refine bnd_of i1 (bnd_of rfl (bnd_of (i2 4 1 (i64 e1.answered) rfl) ?_))
      refine wk ?_
      refine ifV_cases (fun c4 => ?_) fun c4 => ?_
      · refine wk ?_
        exact again2 (j + 1) _ ⟨by omega, hp⟩ (by omega)
      · have mem := kp.st e1 (List.mem_of_getElem? he1) (by omega)
        refine Lfp_fam (ι := Nat) (fun k => [pv, ptr b, esv, i64 M'.ts.length, i64 i, fsv, i64 j, .bool ((M'.events.take k).any fun y => decide (e1 = y)), i64 k]) (fun k h' => k ≤ M'.events.length ∧ All (rowP 8 fsv (evCs M'.events us) :: All (ansO us M'.events) :: rowP 8 esv (evCs M.events ws) :: All (ansO ws M.events) :: mcP b M' :: [baseP g]) h') (fun k => M'.events.length - k) ?_ 0 h9 ⟨by omega, hp⟩
        clear hp i1 i2 i3
        rintro k h10 Z ⟨hk, hp⟩ again3
        simp only [tup_zero, tup_succ]
        refine bnd_of hfl ?_
        refine wk ?_
        refine ifV_cases (fun c5 => ?_) fun c5 => ?_
        · obtain ⟨f1, hf1⟩ : ∃ f1, M'.events[k]? = some f1 := ⟨_, List.getElem?_eq_getElem (by omega)⟩
          obtain ⟨u1, hu1⟩ : ∃ u1, us[k]? = some u1 := ⟨_, List.getElem?_eq_getElem (by omega)⟩
          have g2 := evCs_get hf1 hu1
          have sn := any_snoc (e := e1) hf1
          have nx := again3 (k + 1)
          rw [sn] at nx
          have ek : ((k + 1 : Nat) : Int) = (k : Int) + 1 := by omega
          rw [ek] at nx
          cases hany : ((M'.events.take k).any fun y => decide (e1 = y)) with
          | true =>
            rw [hany, Bool.true_or] at nx
            refine wk ?_
            exact nx _ ⟨by omega, hp⟩ (by omega)
          | false =>
            rw [hany, Bool.false_or] at nx
            refine wk ?_
            obtain ⟨eb, i1, i2, i3, _⟩ := All.elt (hn (hp.up 2)) g1 .i64
            obtain ⟨fb, m1, m2, m3, _⟩ := All.elt hp g2 .i64
            refine bnd_of i1 (bnd_of i3 (bnd_of m1 (bnd_of m3 ?_)))
            obtain ⟨a1, n1, z1, ew⟩ := ws_slice (c := []) (evs_good (hn (hp.up 2))) ((hn (hp.up 3)).mono1 (P := All (ansO ws M.events)) (fun _ _ l p => All.le l p) |> fun z => ansO_le z) he1 hw1
            obtain ⟨a2, n2, z2, eu⟩ := ws_slice (c := []) (evs_good hp) ((hn (hp.up 1)).mono1 (P := All (ansO us M'.events)) (fun _ _ l p => All.le l p) |> fun z => ansO_le z) hf1 hu1
            refine T_SameEvent ew eu hp (fun h' hp => (ansO_le ((hn (hp.up 3)).mono1 (P := All (ansO ws M.events)) fun _ _ l p => All.le l p)) j e1 w1 he1 hw1) (fun h' hp => (ansO_le ((hn (hp.up 1)).mono1 (P := All (ansO us M'.events)) fun _ _ l p => All.le l p)) k f1 u1 hf1 hu1) fun h11 hp => ?_
            refine wk ?_
            exact nx _ ⟨by omega, hp⟩ (by omega)
        · have hke : k = M'.events.length := by omega
          subst hke
          rw [List.take_length]
          have : (M'.events.any fun y => decide (e1 = y)) = true := by
            rw [List.any_eq_true]
            exact ⟨e1, mem, by simp⟩
          rw [this]
          refine wk ?_
          exact again2 (j + 1) _ ⟨by omega, hp⟩ (by omega)
    · refine wk ?_
      have hp := evoP_shut hu (hn (hp.re 6 [0, 1, 4, 5]))
      exact next (i + 1, M', fsv, fr', c') _ ⟨by simp only; omega, by simp only; omega, o2, S', un2, hp⟩ (by simp only; omega)
  cases is with
  | true =>
    simp only [if_true] at tl
    refine wk ?_
    rw [show (M.ts.length : Int) + 1 = (M'.ts.length : Int) by omega]
    exact j3
  | false =>
    simp only [Bool.false_eq_true, if_false, Nat.add_zero] at tl
    refine wk ?_
    rw [show (M.ts.length : Int) = (M'.ts.length : Int) by omega] at j3 ⊢
    exact j3
end
end Go.Proofs.YtfphpafkhljncaaGreat
