/- Several texts in one; nothing here is a statement on the program. -/
import Derived.Test.YtfphpafkhljncaaGreatQL8
set_option linter.unusedVariables false
set_option linter.unusedSimpArgs false
namespace Go.Proofs.YtfphpafkhljncaaGreat
open Go GW Go.Proofs
def Th.q6 (x : Th) (e p : Int) (li : List Ret) (a : At) (ad : Option Adv) (nx : Option Act) : Th := { x with ts := -1, tg := 0, evs := x.evs ++ [x.ev0 p], ent := some ⟨x.id, e, false, true, true⟩, end_ := 0, cache := [], ripe := [], push := none, pop := none, limbo := li, slot := -1, att := some a, seq := a.q, adv := ad, next := nx }
def Th.q9 (x : Th) (e p q : Int) (li : List Ret) (a : At) (ad : Option Adv) : Th := { x.q6 e p li a ad none with tries := 0, evs := x.evs ++ [⟨x.id, x.evs.length, p, -1, q, 0, 1, a.ans⟩] }
section
variable {F : Vw} {A : Ar} {fr : List Int} {c e w p q s : Int} {x : Th} {L : List Int} {li : List Ret} {a : At}
theorem q6_stp (nx : Option Act) (ad : Option Adv) (hl : li.length ≤ 3) : Stp L (x.q6 e p li a ad nx) L :=
  ⟨.inl rfl, .inl rfl, hl, by show ([] : List Int).length + li.length + (([] : List Int).length + if (-1 : Int) = -1 then 0 else 1) ≤ 4; simp only [List.length_nil, if_true]; omega, by show ([] : List Int).length ≤ 1; simp⟩
theorem q_retire {L0 : List Int} (hd : x.dead = false) (Q : Qt F A fr c e x.id w) (hw : a.won = true) :
    ({ x.q4 e p s li L0 with att := some a, ts := a.ts, tg := a.tg, seq := a.q, next := some .ret } : Th).step A L q = (x.q6 e p (li ++ [⟨s, e⟩]) a x.adv (some .lea), true, 0, A.ld 29, L) := by
  rw [Th.step_some (x := { x.q4 e p s li L0 with att := some a, ts := a.ts, tg := a.tg, seq := a.q, next := some .ret }) (a := .ret) hd rfl]
  unfold Th.act Th.rets
  simp only
  rw [if_pos Q.epoch.1, Q.epoch.2]
  unfold Th.z
  simp only [Option.map_some, Option.getD_some, hw, if_true]
  rfl
theorem q_leave {ad : Option Adv} (hd : x.dead = false) : (x.q6 e p li a ad (some .lea)).step A L q = (x.q6 e p li a (some (.new x.n)) (some .adv), true, 0, A.put (30 + x.id) 0, L) := by
  rw [Th.step_some (x := x.q6 e p li a ad (some .lea)) (a := .lea) hd rfl]
  rfl
theorem q_asks (hd : x.dead = false) (hl : li.length ≤ 3) (n1 : x.n ≤ 4) : ∀ (k : Nat) {i q : Int} {A : Ar}, 0 ≤ i → i + k = x.n → Qt F A fr c e x.id 0 → ∃ B, TGo q (x.q6 e p li a (some ⟨x.n, i, e, false, false⟩) (some .adv)) A L k (x.q6 e p li a (some ⟨x.n, x.n, e, false, false⟩) (some .adv)) B L ∧ Qt F B fr c e x.id 0 := by
  intro k
  induction k with
  | zero => intro i q A h0 h1 Q; obtain rfl : i = x.n := by omega
            exact ⟨A, .refl _ _ _ _, Q⟩
  | succ k ih =>
    intro i q A h0 h1 Q
    have h29 : A.at (30 + i) = 0 := by rw [Q.say _ (by omega) (by omega)]; split <;> rfl
    have hp : plainOf (0 : Int) = some 0 := plainOf_val (v := 0) (by decide) (by decide)
    have hv : valOf (0 : Int) = 0 := valOf_val (v := 0) (by decide) (by decide)
    have es : (Adv.mk x.n i e false false).step A = (⟨x.n, i + 1, e, false, false⟩, 0, A.ld (30 + i)) := by
      unfold Adv.step
      rw [if_neg (by simp), if_neg (by simp only; omega), if_pos (by simp only; omega)]
      simp only
      rw [h29, hp, hv]
      rfl
    have st : (x.q6 e p li a (some ⟨x.n, i, e, false, false⟩) (some .adv)).step A L q = (x.q6 e p li a (some ⟨x.n, i + 1, e, false, false⟩) (some .adv), true, 0, A.ld (30 + i), L) := by
      rw [Th.step_some (x := x.q6 e p li a (some ⟨x.n, i, e, false, false⟩) (some .adv)) (a := .adv) hd rfl]
      unfold Th.act Th.advs Th.z Th.q6
      simp only
      rw [es]
      rfl
    obtain ⟨B, g, QB⟩ := ih (i := i + 1) (q := q + 1) (by omega) (by omega) (Q.ld (i := 30 + i) (by omega) (by omega))
    exact ⟨B, .step st (q6_stp _ _ hl) g, QB⟩
theorem evTurn_snoc (es : List Event) (e : Event) (f : Event → Event) : evTurn (es ++ [e]) f = es ++ [f e] := by
  unfold evTurn
  rw [List.getLast?_append, List.getLast?_singleton, Option.some_or]
  simp only [List.length_append, List.length_singleton, Nat.add_sub_cancel]
  rw [List.set_append_right _ _ (by omega), Nat.sub_self]
  rfl
theorem q_moves (hd : x.dead = false) (ht : x.tries = 0) (Q : Qt F A fr c e x.id 0) (n1 : 1 ≤ x.n) : (x.q6 e p li a (some ⟨x.n, x.n, e, false, false⟩) (some .adv)).step A L q = (x.q9 e p q li a (some ⟨x.n, x.n + 1, e, true, true⟩), true, 0, A.cas 29 (e * 4) ((e + 1) * 4), L) := by
  have es : (Adv.mk x.n x.n e false false).step A = (⟨x.n, x.n + 1, e, true, true⟩, 0, A.cas 29 (e * 4) ((e + 1) * 4)) := by
    unfold Adv.step
    rw [if_neg (by simp), if_neg (by simp only; omega), if_neg (by simp only; omega)]
    simp only
    rw [Q.ep, decide_eq_true rfl]
  have ha : (x.q6 e p li a (some ⟨x.n, x.n + 1, e, true, true⟩) (some .adv)).answer q = x.q9 e p q li a (some ⟨x.n, x.n + 1, e, true, true⟩) := by
    have hn : ¬ ((x.q6 e p li a (some ⟨x.n, x.n + 1, e, true, true⟩) (some .adv)).end_ = 2 ∧ (x.q6 e p li a (some ⟨x.n, x.n + 1, e, true, true⟩) (some .adv)).tries + 1 < (x.q6 e p li a (some ⟨x.n, x.n + 1, e, true, true⟩) (some .adv)).k) := fun h => by
      have h1 : (0 : Int) = 2 := h.1
      omega
    unfold Th.answer
    rw [if_neg hn]
    unfold Th.q9 Th.q6 Th.ev0
    simp only [evTurn_snoc, ht, if_true]
    rfl
  have key : (x.q6 e p li a (some ⟨x.n, x.n, e, false, false⟩) (some .adv)).advs A q = (x.q9 e p q li a (some ⟨x.n, x.n + 1, e, true, true⟩), 0, A.cas 29 (e * 4) ((e + 1) * 4)) := by
    have e1 : (x.q6 e p li a (some ⟨x.n, x.n, e, false, false⟩) (some .adv)).adv = some ⟨x.n, x.n, e, false, false⟩ := rfl
    unfold Th.advs
    rw [e1]
    simp only
    rw [es]
    simp only [and_self, if_true]
    exact congrArg (fun y : Th => (y, (0 : Int), A.cas 29 (e * 4) ((e + 1) * 4))) ha
  rw [Th.step_some (x := x.q6 e p li a (some ⟨x.n, x.n, e, false, false⟩) (some .adv)) (a := .adv) hd rfl]
  show Th.ended ((x.q6 e p li a (some ⟨x.n, x.n, e, false, false⟩) (some .adv)).advs A q, L) = _
  rw [key]
  rfl
theorem Qt.moved (Q : Qt F A fr c e x.id 0) : Qt F (A.cas 29 (e * 4) ((e + 1) * 4)) fr c (e + 1) x.id 0 ∨ 999999 ≤ e := by
  have e0 := Q.e0
  by_cases h : e < 999999
  · left
    have at_ : ∀ j, 0 ≤ j → j < 634 → (A.cas 29 (e * 4) ((e + 1) * 4)).at j = if 29 = j then (e + 1) * 4 else A.at j := fun j j0 j1 => by
      rw [at_cas Q.ok (by decide) (by decide) j0 j1, Q.ep, if_pos rfl]
    refine ⟨Q.ok.cas _ _ (by constructor <;> omega), Q.fok, ⟨Q.mem.fl, Q.mem.val, fun i hi => ?_⟩, Q.fre.kp fun i h0 h1 => ?_, ?_, by omega, by omega, fun i h0 h1 => ?_⟩
    · rw [at_ i (by omega) (by omega), if_neg (by omega)]; exact Q.mem.at_ i hi
    · rw [at_ i (by omega) (by omega), if_neg (by omega)]
    · rw [at_ 29 (by decide) (by decide), if_pos rfl]
    · rw [at_ i (by omega) (by omega), if_neg (by omega)]; exact Q.say i h0 h1
  · exact .inr (by omega)
theorem rest_lt (ox : x.ok) (r : Rst x) (hd : x.done = false) : x.evs.length < x.txns.length := by
  have ha := ox.ans r.nx r.tr
  rcases Nat.lt_or_ge x.evs.length x.txns.length with q | q
  · exact q
  · exfalso
    have hl := ox.evs
    have : x.done = true := by
      unfold Th.done
      rw [decide_eq_true (by omega), Bool.true_and]
      split
      · rfl
      · rename_i e h; exact decide_eq_true (ha e (List.mem_of_getLast? h))
    rw [hd] at this; cases this
theorem q_rest {L0 : List Int} (ox : x.ok) (r : Rst x) (Q : Qt F A fr c e x.id ((e + 1) * 4)) (he : e < 900000) (s0 : 0 ≤ s) (s1 : s < 12) (hll : li.length ≤ 2) (hL : L.getD s.toNat 0 = L0.getD s.toNat 0 + 1)
    (m : At.may x.id x.seq s (L0.getD s.toNat 0 + 1) (x.txns.getD x.evs.length [])) :
    ∃ n B a ad, TGo q (x.q4 e p s li L0) A L n (x.q9 e p (q + n - 1) (li ++ [⟨s, e⟩]) a ad) B L ∧ 4 ≤ n ∧ n ≤ 207 ∧ Qt (F.do_ (x.txns.getD x.evs.length [])).view B fr c (e + 1) x.id 0 ∧ a.ans = (F.do_ (x.txns.getD x.evs.length [])).ans := by
  have i0 := ox.i0; have i1 := ox.i1; have n0 := ox.n0; have n1 := ox.n1
  have e0 := Q.e0
  obtain ⟨n, a, B, g, k1, k2, o1, o2, o3, o4, o5, o6, o7, o8, o9⟩ := attempt_alone m Q.ok Q.mem
  have g1 := tri_run (L := L) (p := q) (x := x.q4 e p s li L0) g k1 o1 rfl r.nd rfl s0 s1 hL (by show li.length ≤ 3; omega) (by
    show ([] : List Int).length + li.length + (([] : List Int).length + if s = -1 then 0 else 1) ≤ 4
    simp only [List.length_nil]
    split <;> omega) (by show ([] : List Int).length ≤ 1; simp)
  have dok := Vw.do_ok Q.fok m.2.2.2
  have dfl := Vw.do_full m.2.2.2 Q.mem.fl
  have hb : baseOf s = 34 + s * 50 := rfl
  have QB : Qt (F.do_ (x.txns.getD x.evs.length [])).view B fr c e x.id ((e + 1) * 4) := by
    refine ⟨o5, dok.1, ⟨dfl.2, fun i hi => ?_, o6⟩, Q.fre.kp fun i h0 h1 => o7 i (by omega) (by omega) (by omega), by rw [o7 29 (by decide) (by decide) (by omega)]; exact Q.ep, Q.e0, Q.e1, fun i h0 h1 => by rw [o7 i (by omega) (by omega) (by omega)]; exact Q.say i h0 h1⟩
    rw [List.getD_eq_getElem?_getD]
    cases hh : (F.do_ (x.txns.getD x.evs.length [])).view.n[i]? with
    | none => exact Vw.val0
    | some y => exact dok.1.rn y (List.mem_of_getElem? hh)
  have g2 := q_retire (p := p) (q := q + n) (s := s) (L := L) (li := li) (L0 := L0) r.nd QB o2
  have Q2 := QB.ld (i := 29) (by decide) (by decide)
  have g3 := q_leave (p := p) (q := q + n + 1) (L := L) (li := li ++ [⟨s, e⟩]) (e := e) (A := B.ld 29) (a := a) (ad := x.adv) r.nd
  have Q3 := Q2.told (u := 0) i0 (by omega) zero64
  have hl3 : (li ++ [⟨s, e⟩] : List Ret).length ≤ 3 := by rw [List.length_append, List.length_singleton]; omega
  have g4 : (x.q6 e p (li ++ [⟨s, e⟩]) a (some (.new x.n)) (some .adv)).step ((B.ld 29).put (30 + x.id) 0) L (q + n + 1 + 1) = (x.q6 e p (li ++ [⟨s, e⟩]) a (some ⟨x.n, 0, e, false, false⟩) (some .adv), true, 0, ((B.ld 29).put (30 + x.id) 0).ld 29, L) := by
    have es : (Adv.new x.n).step ((B.ld 29).put (30 + x.id) 0) = (⟨x.n, 0, e, false, false⟩, 0, ((B.ld 29).put (30 + x.id) 0).ld 29) := by
      unfold Adv.step Adv.new
      rw [if_neg (by simp), if_pos (by simp only; omega), if_pos Q3.epoch.1, Q3.epoch.2]
      rfl
    rw [Th.step_some (x := x.q6 e p (li ++ [(⟨s, e⟩ : Ret)]) a (some (Adv.new x.n)) (some .adv)) (a := .adv) r.nd rfl]
    unfold Th.act Th.advs Th.z Th.q6
    simp only
    rw [es]
    rfl
  have Q4 := Q3.ld (i := 29) (by decide) (by decide)
  obtain ⟨k, hk⟩ := Int.eq_ofNat_of_zero_le (show 0 ≤ x.n by omega)
  obtain ⟨C, g5, Q5⟩ := q_asks (p := p) (a := a) (L := L) (li := li ++ [⟨s, e⟩]) r.nd hl3 n1 k (i := 0) (q := q + n + 1 + 1 + 1) (Int.le_refl 0) (by omega) Q4
  have g6 := q_moves (p := p) (a := a) (L := L) (li := li ++ [⟨s, e⟩]) (q := q + n + 1 + 1 + 1 + k) r.nd r.tr Q5 n0
  have Q6 : Qt (F.do_ (x.txns.getD x.evs.length [])).view (C.cas 29 (e * 4) ((e + 1) * 4)) fr c (e + 1) x.id 0 := by
    rcases Q5.moved with z | z
    · exact z
    · omega
  have all := g1.trans (.step g2 (q6_stp _ _ hl3) (.step g3 (q6_stp _ _ hl3) (.step g4 (q6_stp _ _ hl3) (g5.trans (.one g6 (by
    have := q6_stp (x := x) (e := e) (p := p) (a := a) (L := L) none (some ⟨x.n, x.n + 1, e, true, true⟩) hl3
    exact ⟨this.thr, this.liv, this.lim, this.hold, this.used⟩))))))
  refine ⟨n + (k + 1 + 1 + 1 + 1), _, a, some ⟨x.n, x.n + 1, e, true, true⟩, ?_, by omega, by omega, Q6, o3⟩
  have eq : q + ((n + (k + 1 + 1 + 1 + 1) : Nat) : Int) - 1 = q + n + 1 + 1 + 1 + k := by omega
  rw [eq]
  exact all
theorem q_txn (ox : x.ok) (r : Rst x) (hd : x.done = false) (lq : Lq x.limbo e) (Q : Qt F A fr c e x.id 0) (hc : c < 80000) (he : e < 900000) (hL : L.length = 12 ∧ ∀ i, 0 ≤ L.getD i 0 ∧ L.getD i 0 < 60000) (hm : x.limbo.length = 3 ∨ fr ≠ []) :
    ∃ n li a ad B s fr' c', TGo p x A L n (x.q9 e p (p + n - 1) li a ad) B (lived s L) ∧ 2 ≤ n ∧ n ≤ 230 ∧ Lq li (e + 1) ∧ li.length = min 3 (x.limbo.length + 1) ∧ (0 ≤ s ∧ s < 12) ∧ Qt (F.do_ (x.txns.getD x.evs.length [])).view B fr' c' (e + 1) x.id 0 ∧ c' ≤ c + 1 ∧
      fr.length = fr'.length + (if x.limbo.length = 3 then 0 else 1) ∧ a.ans = (F.do_ (x.txns.getD x.evs.length [])).ans := by
  have i0 := ox.i0; have i1 := ox.i1; have n1 := ox.n1
  have lt := rest_lt ox r hd
  obtain ⟨B0, g0, Q0⟩ := q_enter (L := L) (p := p) r hd lq Q i0 (by omega)
  have mo : Txn.may (x.txns.getD x.evs.length []) = true := by
    have := (thrMay_spec ox.txns).2
    rw [List.getD_eq_getElem?_getD, List.getElem?_eq_getElem lt]
    exact this _ (List.getElem_mem lt)
  have may : ∀ s, 0 ≤ s → s < 12 → At.may x.id x.seq s (L.getD s.toNat 0 + 1) (x.txns.getD x.evs.length []) := fun s s0 s1 => by
    have := hL.2 s.toNat
    refine ⟨⟨i0, by omega⟩, ⟨ox.q0, ox.q1⟩, ?_, mo⟩
    unfold lifeMay
    exact decide_eq_true ⟨s0, s1, by omega, by omega⟩
  have lvd : ∀ s : Int, 0 ≤ s → s < 12 → (lived s L).getD s.toNat 0 = L.getD s.toNat 0 + 1 := fun s s0 s1 => by
    unfold lived
    rw [List.getD_eq_getElem?_getD, List.getElem?_set_self (by rw [hL.1]; omega)]
    rfl
  have ll := lq.len
  rcases lq.take with ⟨t1, t2, t3, t4⟩ | ⟨t0, s, r1, r2, t1, t2, t3, t4⟩
  · have hf : fr ≠ [] := by rcases hm with h | h; omega; exact h
    obtain ⟨s, fr', rfl⟩ : ∃ s fr', fr = s :: fr' := by
      cases fr with
      | nil => exact absurd rfl hf
      | cons s fr' => exact ⟨s, fr', rfl⟩
    obtain ⟨f, _, f2⟩ := Q.fre.hd
    have sr := f2.mem s (by simp)
    obtain ⟨B1, g1, Q1⟩ := q_popped (p := p) (L := L) r t1 t2 lq Q0 hc (may s sr.1 sr.2)
    obtain ⟨n, B, a, ad, g2, k1, k2, Q2, ha⟩ := q_rest (p := p) (q := p + 3 + 3) (L0 := L) (li := x.limbo) ox r Q1 he sr.1 sr.2 t3 (lvd s sr.1 sr.2) (may s sr.1 sr.2)
    refine ⟨3 + (3 + n), x.limbo ++ [⟨s, e⟩], a, ad, B, s, fr', c + 1, ?_, by omega, by omega, t4 s, by rw [List.length_append, List.length_singleton]; omega, sr, Q2, by omega, by rw [List.length_cons, if_neg (by omega)], ha⟩
    have eq : p + ((3 + (3 + n) : Nat) : Int) - 1 = p + 3 + 3 + n - 1 := by omega
    rw [eq]
    exact g0.to rfl (g1.to rfl g2 rfl) rfl
  · have sr : 0 ≤ s ∧ s < 12 := by
      have := ox.li ⟨s, e - 3⟩ (by rw [t1]; simp)
      exact this.1
    have fs := q_cached (p := p) r t2 t3 (may s sr.1 sr.2) (A := B0)
    obtain ⟨n, B, a, ad, g2, k1, k2, Q2, ha⟩ := q_rest (p := p) (q := p + 3) (L0 := L) (L := lived s L) (li := [r1, r2]) ox r Q0 he sr.1 sr.2 (by simp) (lvd s sr.1 sr.2) (may s sr.1 sr.2)
    have same : ∀ y B' M, (x.q4 e p s [r1, r2] L).step B0 (lived s L) (p + 3) = (y, true, 0, B', M) → lived s L = M := fun y B' M h => by
      rw [Th.step_some (x := x.q4 e p s [r1, r2] L) (a := .tri) r.nd rfl] at h
      have : (Th.ended ((x.q4 e p s [r1, r2] L).z.tris B0, lived s L)).2.2.2.2 = lived s L := by unfold Th.ended; split <;> rfl
      have h2 : Th.ended ((x.q4 e p s [r1, r2] L).z.tris B0, lived s L) = (y, true, 0, B', M) := h
      rw [h2] at this
      exact this.symm
    have g3 := g2.first (by omega) (fs (p + 3)) (fun y M sp hM => ⟨sp.thr, by subst hM; exact .inr ⟨s, sr.1, sr.2, rfl⟩, sp.lim, sp.hold, sp.used⟩) same
    refine ⟨3 + n, [r1, r2, ⟨s, e⟩], a, ad, B, s, fr, c, ?_, by omega, by omega, t4 s, by rw [t0]; rfl, sr, Q2, by omega, by rw [if_pos t0]; rfl, ha⟩
    have eq : p + ((3 + n : Nat) : Int) - 1 = p + 3 + n - 1 := by omega
    rw [eq]
    exact g0.to rfl g3 rfl
end
section
variable {F : Vw} {A B : Ar} {fr : List Int} {c e w p q s : Int} {x y : Th} {L M : List Int} {li : List Ret} {a : At} {n : Nat}
theorem TGo.ok (g : TGo p x A L n y B M) : x.ok → A.ok → 0 ≤ p → y.ok ∧ B.ok := by
  induction g with
  | refl => intro h1 h2 _; exact ⟨h1, h2⟩
  | @step p x A L n y B M z C N h s _ ih =>
    intro h1 h2 hp
    have := Th.step_ok (L := L) (pick := p) h1 h2 hp
    rw [h] at this
    exact ih this.1 this.2 (by omega)
theorem TGo.busy (g : TGo p x A L n y B M) (h : 1 ≤ n) (u : x.una) : x.done = false := by
  cases hd : x.done with
  | false => rfl
  | true =>
    exfalso
    obtain ⟨n1, n2⟩ := u.done hd
    cases g with
    | refl => omega
    | step h1 _ _ =>
      rw [Th.step_none n2 n1] at h1
      have hb : x.z.begin p = (x.z, false) := by
        unfold Th.begin
        rw [if_pos (show x.z.done = true from hd)]
      rw [hb] at h1
      simp only [Bool.false_eq_true, if_false] at h1
      have := congrArg (fun z => z.2.1) h1
      cases this
theorem q9_rst {ad : Option Adv} (r : Rst x) : Rst (x.q9 e p q li a ad) := ⟨r.nd, rfl, rfl, r.pa, rfl, rfl, rfl, rfl, rfl⟩
inductive Evr (id : Int) : Vw → Int → Nat → List (List Op) → List Event → Vw → Int → Prop
  | nil (F : Vw) (p : Int) (i : Nat) : Evr id F p i [] [] F p
  | cons {F : Vw} {p : Int} {i n : Nat} {t : List Op} {ts : List (List Op)} {es : List Event} {F' : Vw} {p' : Int} : 2 ≤ n → Evr id (F.do_ t).view (p + n) (i + 1) ts es F' p' → Evr id F p i (t :: ts) (⟨id, i, p, -1, p + n - 1, 0, 1, (F.do_ t).ans⟩ :: es) F' p'
theorem lived_sum {L : List Int} {s : Int} (h : L.length = 12) (s0 : 0 ≤ s) (s1 : s < 12) : (lived s L).sum = L.sum + 1 := by
  have key : ∀ (L : List Int) (i : Nat), i < L.length → (L.set i (L.getD i 0 + 1)).sum = L.sum + 1 := by
    intro L
    induction L with
    | nil => intro i h; simp at h
    | cons a L ih =>
      intro i hi
      cases i with
      | zero => simp; omega
      | succ i =>
        have := ih i (by simpa using hi)
        simp only [List.set_cons_succ, List.getD_cons_succ, List.sum_cons] at this ⊢
        omega
  exact key L s.toNat (by omega)
theorem lived_get {L : List Int} {s : Int} (i : Nat) : (lived s L).getD i 0 = L.getD i 0 ∨ (lived s L).getD i 0 = L.getD i 0 + 1 := by
  unfold lived
  rw [List.getD_eq_getElem?_getD, List.getD_eq_getElem?_getD (l := L) (i := i), List.getElem?_set]
  split
  · rename_i h
    subst h
    split
    · right; rw [List.getD_eq_getElem?_getD]; rfl
    · rename_i h; left; rw [List.getElem?_eq_none (by omega)]
  · exact .inl rfl
theorem q_all : ∀ (k : Nat) {x : Th} {A : Ar} {L : List Int} {F : Vw} {fr : List Int} {c e p : Int}, x.txns.length = x.evs.length + k → x.ok → Rst x → Lq x.limbo e → Qt F A fr c e x.id 0 → c + k < 80000 → e + k < 900000 → (L.length = 12 ∧ ∀ i, 0 ≤ L.getD i 0 ∧ L.getD i 0 + k < 60000) → 3 ≤ fr.length + x.limbo.length → 0 ≤ p →
    ∃ N y B M F' fr' c' e' es, TGo p x A L N y B M ∧ N ≤ 230 * k ∧ y.done = true ∧ y.ok ∧ Rst y ∧ Lq y.limbo e' ∧ Qt F' B fr' c' e' x.id 0 ∧ c' ≤ c + k ∧ e' = e + k ∧ (M.length = 12 ∧ (∀ i, 0 ≤ M.getD i 0 ∧ M.getD i 0 ≤ L.getD i 0 + k) ∧ M.sum = L.sum + k) ∧ fr'.length + y.limbo.length = fr.length + x.limbo.length ∧ y.limbo.length = min 3 (x.limbo.length + k) ∧
      y.evs = x.evs ++ es ∧ Evr x.id F p x.evs.length (x.txns.drop x.evs.length) es F' (p + N) ∧ y.id = x.id ∧ y.n = x.n ∧ y.txns = x.txns := by
  intro k
  induction k with
  | zero =>
    intro x A L F fr c e p hk ox r lq Q hc he hL hm hp
    have hd : x.done = true := by
      unfold Th.done
      rw [decide_eq_true (by omega), Bool.true_and]
      split
      · rfl
      · rename_i e h; exact decide_eq_true (ox.ans r.nx r.tr e (List.mem_of_getLast? h))
    refine ⟨0, x, A, L, F, fr, c, e, [], .refl _ _ _ _, by omega, hd, ox, r, lq, Q, by omega, by omega, ⟨hL.1, fun i => ⟨(hL.2 i).1, by omega⟩, by omega⟩, rfl, by have := lq.len; omega, by rw [List.append_nil], ?_, rfl, rfl, rfl⟩
    rw [List.drop_of_length_le (by omega)]
    have := Evr.nil (id := x.id) F p x.evs.length
    simpa using this
  | succ k ih =>
    intro x A L F fr c e p hk ox r lq Q hc he hL hm hp
    have hd : x.done = false := by
      unfold Th.done
      rw [decide_eq_false (by omega)]; rfl
    have ll := lq.len
    obtain ⟨n, li, a, ad, B, s, fr1, c1, g, n1, n2, lq1, ll1, sr, Q1, hc1, hf1, ha⟩ := q_txn (p := p) ox r hd lq Q (by omega) (by omega) ⟨hL.1, fun i => by have := hL.2 i; omega⟩ (by
      rcases Nat.lt_or_ge x.limbo.length 3 with h | h
      · right; intro e; rw [e] at hm; simp at hm; omega
      · left; omega)
    have okg := g.ok ox Q.ok hp
    have lv := lived_sum hL.1 sr.1 sr.2
    obtain ⟨N, y, B', M, F', fr', c', e', es, g', h1, h2, h3, h4, h5, h6, h7, h8, h9, h10, h11, h12, h13, h14, h15, h16⟩ := ih (x := x.q9 e p (p + n - 1) li a ad) (A := B) (L := lived s L) (F := (F.do_ (x.txns.getD x.evs.length [])).view) (fr := fr1) (c := c1) (e := e + 1) (p := p + n)
      (by show x.txns.length = (x.evs ++ [_]).length + k; rw [List.length_append, List.length_singleton]; omega) okg.1 (q9_rst r) lq1 Q1 (by omega) (by omega)
      ⟨by unfold lived; rw [List.length_set]; exact hL.1, fun i => by have := hL.2 i; have := lived_get (L := L) (s := s) i; omega⟩ (by show 3 ≤ fr1.length + li.length; split at hf1 <;> omega) (by omega)
    refine ⟨n + N, y, B', M, F', fr', c', e', ⟨x.id, x.evs.length, p, -1, p + n - 1, 0, 1, a.ans⟩ :: es, g.trans g', by omega, h2, h3, h4, h5, h6, by omega, by omega, ⟨h9.1, fun i => ?_, by omega⟩, ?_, ?_, ?_, ?_, h14, h15, h16⟩
    · have := h9.2.1 i; have := lived_get (L := L) (s := s) i; omega
    · have h10 : fr'.length + y.limbo.length = fr1.length + li.length := h10
      split at hf1 <;> omega
    · have h11 : y.limbo.length = min 3 (li.length + k) := h11
      omega
    · rw [h12]
      show (x.evs ++ [_]) ++ es = _
      rw [List.append_assoc]; rfl
    · have hlt : x.evs.length < x.txns.length := by omega
      rw [List.drop_eq_getElem_cons hlt]
      have et : x.txns[x.evs.length] = x.txns.getD x.evs.length [] := by rw [List.getD_eq_getElem?_getD, List.getElem?_eq_getElem hlt]; rfl
      rw [et, ha]
      refine Evr.cons n1 ?_
      have h13 : Evr x.id (F.do_ (x.txns.getD x.evs.length [])).view (p + n) (x.evs ++ [_]).length (x.txns.drop (x.evs ++ [_]).length) es F' (p + n + N) := h13
      rw [List.length_append, List.length_singleton] at h13
      rw [show p + ((n + N : Nat) : Int) = p + n + N by omega]
      exact h13
end
set_option maxRecDepth 20000
def F0 : Vw := ⟨List.replicate 16 true, List.replicate 16 0, (newAr.ws.take 16).map (· / 4)⟩
theorem newAr_qt (t : Int) : Qt F0 newAr twelve 0 0 t 0 := by
  have f16 : ∀ i : Fin 16, (F0.k.getD i.val false = true) ∧ (0 ≤ F0.n.getD i.val 0 ∧ F0.n.getD i.val 0 < 1099511627776) ∧ newAr.at (i.val : Int) = F0.n.getD i.val 0 * 4 := by decide +kernel
  have fr : ∀ x ∈ F0.n, 0 ≤ x ∧ x < 1099511627776 := by decide +kernel
  have s4 : ∀ i : Fin 4, newAr.at (30 + (i.val : Int)) = 0 := by decide +kernel
  refine ⟨newAr_ok, ⟨rfl, rfl, by decide +kernel, fun x hx => ?_, fun x hx => fr x hx⟩, ⟨⟨by decide +kernel, fun i hi => (f16 ⟨i, hi⟩).1⟩, fun i hi => (f16 ⟨i, hi⟩).2.1, fun i hi => (f16 ⟨i, hi⟩).2.2⟩, newAr_fre, by decide +kernel, by decide, by decide, fun i h0 h1 => ?_⟩
  · rw [List.eq_of_mem_replicate (n := 16) hx]; exact Vw.val0
  · have := s4 ⟨(i - 30).toNat, by omega⟩
    rw [show (30 : Int) + (((⟨(i - 30).toNat, by omega⟩ : Fin 4).val : Nat) : Int) = i by simp only; omega] at this
    rw [this]; split <;> rfl
theorem Th.new_rst {id n k : Int} {pol : Bool} {ts : List (List Op)} : Rst (Th.new id n k pol ts) := ⟨rfl, rfl, rfl, rfl, rfl, rfl, rfl, rfl, rfl⟩
structure MS where
  b : List Int
  ks : List Bool
def MS.new : MS := ⟨[-1, -1, -1, -1], [false, false, false, false, false]⟩
def MS.bal (s : MS) (i : Int) : Int := s.b.getD i.toNat 0
def MS.put (s : MS) (i x : Int) : MS := { s with b := s.b.set i.toNat x }
def MS.sum : List Int → Int → Int
  | [], all => all
  | x :: r, all => MS.sum r (all + max 0 x)
def MS.bank (s : MS) (o : Op) : Answer × MS :=
  if o.kind = 5 then (⟨0, MS.sum s.b 0⟩, s) else
  if o.kind = 0 then (if s.bal o.a = -1 then (⟨0, o.x⟩, s.put o.a o.x) else (⟨1, 0⟩, s)) else
  if o.kind = 4 then
    if s.bal o.a = -1 ∨ s.bal o.b = -1 then (⟨2, 0⟩, s) else
    if s.bal o.a < o.x then (⟨3, 0⟩, s) else
    if o.a = o.b then (⟨0, s.bal o.a⟩, s) else
    if 1048575 - o.x < s.bal o.b then (⟨4, 0⟩, s) else
    (⟨0, s.bal o.a - o.x⟩, (s.put o.b (s.bal o.b + o.x)).put o.a (s.bal o.a - o.x))
  else
  if s.bal o.a = -1 then (⟨2, 0⟩, s) else
  if o.kind = 1 then (⟨0, s.bal o.a⟩, s.put o.a (-1)) else
  if o.kind = 2 then (if 1048575 - o.x < s.bal o.a then (⟨4, 0⟩, s) else (⟨0, s.bal o.a + o.x⟩, s.put o.a (s.bal o.a + o.x))) else
  if s.bal o.a < o.x then (⟨3, 0⟩, s) else (⟨0, s.bal o.a - o.x⟩, s.put o.a (s.bal o.a - o.x))
def ksBits : List Bool → Int → Int → Int → Int → Int
  | [], _, _, _, out => out
  | is :: r, k, a, b, out => ksBits r (k + 1) a b (if is = true ∧ a ≤ k ∧ k ≤ b then bor out (bshl k) else out)
def ksLeast : List Bool → Int → Int → Int
  | [], _, out => out
  | is :: r, k, out => ksLeast r (k + 1) (if is = true ∧ out = -1 then k else out)
def MS.is (s : MS) (k : Int) : Bool := s.ks.getD k.toNat false
def MS.skip (s : MS) (o : Op) : Answer × MS :=
  if o.kind = 9 then (if ksLeast s.ks 0 (-1) = -1 then ⟨2, 0⟩ else ⟨0, ksLeast s.ks 0 (-1)⟩, s) else
  if o.kind = 8 then (⟨0, if s.is o.a then 1 else 0⟩, s) else
  if o.kind = 10 then (⟨0, ksBits s.ks 0 o.a o.b 0⟩, s) else
  if o.kind = 6 then (if s.is o.a then (⟨1, 0⟩, s) else (⟨0, o.a⟩, { s with ks := s.ks.set o.a.toNat true })) else
  if s.is o.a then (⟨0, o.a⟩, { s with ks := s.ks.set o.a.toNat false }) else (⟨2, 0⟩, s)
def MS.one (s : MS) (o : Op) : Answer × MS := if o.kind ≤ 5 then s.bank o else s.skip o
def MS.doFrom (s0 : MS) : List Op → MS → List Answer → MS × List Answer
  | [], t, rs => (t, rs)
  | o :: os, t, rs => if (t.one o).1.code = 0 then s0.doFrom os (t.one o).2 (rs ++ [(t.one o).1]) else (s0, rs ++ [(t.one o).1])
def MS.do_ (s : MS) (os : List Op) : MS × List Answer := s.doFrom os s []
def nxtI : List Bool → Int → Int
  | [], _ => 0
  | b :: r, k => if b then k + 1 else nxtI r (k + 1)
def imgK (i : List Bool) (k : Nat) : Int := if i.getD k false then nxtI (i.drop (k + 1)) (k + 1) else 0
def imgL (i h : List Bool) : List Int := [nxtI i 0, nxtI h 0, imgK i 0, imgK h 0, imgK i 1, imgK h 1, imgK i 2, imgK h 2, imgK i 3, imgK h 3, imgK i 4, imgK h 4]
def bs2 : List Bool := [false, true]
def allB : List (List Bool) := bs2.flatMap fun a => bs2.flatMap fun b => bs2.flatMap fun c => bs2.flatMap fun d => bs2.map fun e => [a, b, c, d, e]
def subB (h i : List Bool) : Bool := (List.zip h i).all fun p => !p.1 || p.2
def hiOf (i h : List Bool) (o : Op) : List Bool := if o.kind = 6 ∧ i.getD o.a.toNat false = false ∧ o.x = 1 then h.set o.a.toNat true else if o.kind = 7 then h.set o.a.toNat false else h
def fives : List Int := [0, 1, 2, 3, 4]
def skOps : List Op := (fives.flatMap fun a => [⟨6, a, 0, 0⟩, ⟨6, a, 0, 1⟩, ⟨7, a, 0, 0⟩, ⟨8, a, 0, 0⟩]) ++ [⟨9, 0, 0, 0⟩] ++ (fives.flatMap fun a => fives.map fun b => ⟨10, a, b, 0⟩)
def tt16 : List Bool := List.replicate 16 true
def skOne (i h : List Bool) (o : Op) : Bool :=
  let r := Wk.skip ⟨⟨tt16, [], 0 :: 0 :: 0 :: 0 :: imgL i h⟩, none⟩ o
  let m := MS.skip ⟨[], i⟩ o
  (r.1.code == m.1.code && (r.1.num == m.1.num && (r.2.need.isNone && (r.2.v.n == 0 :: 0 :: 0 :: 0 :: imgL m.2.ks (hiOf i h o) && (subB (hiOf i h o) m.2.ks && (allB.contains (hiOf i h o) && allB.contains m.2.ks))))))
def skAll (is : List (List Bool)) : Bool := is.all fun i => allB.all fun h => !subB h i || skOps.all fun o => skOne i h o
def Wk.pre (c u : List Int) (w : Wk) : Wk := { w with v := { w.v with w := u, n := c ++ w.v.n.drop 4 } }
structure Cm {α : Type} (f : Wk → α × Wk) : Prop where
  eq : ∀ (c u : List Int) (w : Wk), c.length = 4 → 4 ≤ w.v.n.length → f (w.pre c u) = ((f w).1, (f w).2.pre c u)
  ln : ∀ w, (f w).2.v.n.length = w.v.n.length
section
variable {α β : Type}
theorem Cm.ret (a : α) : Cm fun w => (a, w) := ⟨fun _ _ _ _ _ => rfl, fun _ => rfl⟩
theorem Cm.bind {f : Wk → α × Wk} {g : α → Wk → β × Wk} (a : Cm f) (b : ∀ x, Cm (g x)) : Cm fun w => g (f w).1 (f w).2 := by
  refine ⟨fun c u w h1 h2 => ?_, fun w => ?_⟩
  · rw [a.eq c u w h1 h2]
    exact (b _).eq c u _ h1 (by rw [a.ln]; exact h2)
  · rw [(b _).ln, a.ln]
open Classical in
theorem Cm.bindP {f : Wk → α × Wk} {g : α → Wk → β × Wk} {P : α → Prop} (a : Cm f) (hP : ∀ w, P (f w).1) (b : ∀ x, P x → Cm (g x)) : Cm fun w => g (f w).1 (f w).2 := by
  have e : (fun w => g (f w).1 (f w).2) = fun w => (fun x w => if P x then g x w else ((g x wkZ).1, w)) (f w).1 (f w).2 := by
    funext w; simp only [if_pos (hP w)]
  rw [e]
  refine Cm.bind (g := fun x w => if P x then g x w else ((g x wkZ).1, w)) a fun x => ?_
  by_cases h : P x
  · simp only [if_pos h]; exact b x h
  · simp only [if_neg h]; exact Cm.ret _
theorem Cm.ite {c : Prop} [Decidable c] {f g : Wk → α × Wk} (a : Cm f) (b : Cm g) : Cm fun w => if c then f w else g w := by
  by_cases h : c
  · simp only [if_pos h]; exact a
  · simp only [if_neg h]; exact b
theorem pre_get {c n : List Int} {i : Nat} (hc : c.length = 4) (hi : 4 ≤ i) : (c ++ n.drop 4).getD i 0 = n.getD i 0 := by
  rw [List.getD_eq_getElem?_getD, List.getElem?_append_right (by omega), List.getElem?_drop, hc, show 4 + (i - 4) = i by omega, List.getD_eq_getElem?_getD]
theorem Cm.get {c : Int} (hc : 4 ≤ c) : Cm fun w => w.get c := by
  refine ⟨fun p u w h1 h2 => ?_, fun w => ?_⟩
  · unfold Wk.get Wk.pre
    simp only
    rw [pre_get h1 (by omega)]
    split
    · rfl
    · split <;> rfl
  · unfold Wk.get; split
    · rfl
    · split <;> rfl
theorem Cm.set {c : Int} (hc : 4 ≤ c) (x : Int) : Cm fun w => ((), w.set c x) := by
  refine ⟨fun p u w h1 h2 => ?_, fun w => ?_⟩
  · unfold Wk.set Wk.pre
    simp only
    split
    · rfl
    · simp only
      congr 3
      refine List.ext_getElem? fun j => ?_
      rw [List.getElem?_set, List.length_append, List.length_drop, h1]
      by_cases hj : j < 4
      · rw [if_neg (by omega), List.getElem?_append_left (by omega), List.getElem?_append_left (by omega)]
      · rw [List.getElem?_append_right (by omega), List.getElem?_append_right (by omega), List.getElem?_drop, List.getElem?_drop, List.getElem?_set, h1, show 4 + (j - 4) = j by omega]
        split
        · split <;> split <;> first | rfl | omega
        · rfl
  · unfold Wk.set; split
    · rfl
    · simp
theorem LvC.four {key lev : Int} (h : LvC key lev) : 4 ≤ lk key lev := by
  obtain ⟨h1, h2, h3, h4⟩ := h
  unfold lk; omega
theorem Cm.get_ {c : Int} (hc : 4 ≤ c) {g : Int → Wk → β × Wk} (b : ∀ x, Cm (g x)) : Cm fun w => g (w.get c).1 (w.get c).2 := Cm.bind (Cm.get hc) b
theorem Cm.set_ {c x : Int} (hc : 4 ≤ c) {g : Wk → β × Wk} (b : Cm g) : Cm fun w => g (w.set c x) := Cm.bind (g := fun _ => g) (Cm.set hc x) fun _ => b
theorem Cm.next {key lev : Int} (h : LvC key lev) : Cm fun w => w.next key lev :=
  Cm.get_ (g := fun x w => (if x - 1 ≤ key ∨ 5 ≤ x - 1 then -1 else x - 1, w)) h.four fun x => Cm.ret _
theorem Cm.st {f : Wk → Wk} {g : Wk → β × Wk} (a : Cm fun w => ((), f w)) (b : Cm g) : Cm fun w => g (f w) := Cm.bind (f := fun w => ((), f w)) (g := fun _ => g) a fun _ => b
theorem Cm.next_ {key lev : Int} (h : LvC key lev) {g : Int → Wk → β × Wk} (b : ∀ x, x = -1 ∨ key < x ∧ x < 5 → Cm (g x)) : Cm fun w => g (w.next key lev).1 (w.next key lev).2 :=
  Cm.bindP (P := fun x => x = -1 ∨ key < x ∧ x < 5) (Cm.next h) (fun w => Wk.next_rng) b
theorem Cm.before {key lev : Int} (l0 : 0 ≤ lev) (l1 : lev ≤ 1) : ∀ {n : Nat} {f : Int}, -1 ≤ f → f < 5 → Cm fun w => w.before n key f lev := by
  intro n
  induction n with
  | zero => intro f _ _; exact Cm.ret _
  | succ n ih =>
    intro f h0 h1
    refine Cm.next_ (g := fun x w => if x = -1 ∨ key ≤ x then (f, w) else w.before n key x lev) ⟨h0, h1, l0, l1⟩ fun x hx => ?_
    exact Cm.ite (Cm.ret _) (ih (by omega) (by omega))
theorem Cm.bits {b : Int} : ∀ {n : Nat} {x out : Int}, -1 ≤ x → x < 5 → Cm fun w => w.bits n x b out := by
  intro n
  induction n with
  | zero => intro x out _ _; exact Cm.ret _
  | succ n ih =>
    intro x out h0 h1
    exact Cm.ite (c := x = -1 ∨ b < x) (Cm.ret _) (Cm.next_ (g := fun y w => w.bits n y b (bor out (bshl x))) ⟨h0, h1, by decide, by decide⟩ fun y hy => ih (by omega) (by omega))
theorem Cm.put {a k lev : Int} (h1 : LvC k lev) (h2 : LvC a lev) : Cm fun w => ((), w.put a k lev) :=
  Cm.get_ (g := fun _ w => (fun y w2 => ((), (Wk.set w2 (lk k lev) y).set (lk a lev) (k + 1))) (w.get (lk a lev)).1 (w.get (lk a lev)).2) h1.four fun _ =>
    Cm.get_ (g := fun y w2 => ((), (Wk.set w2 (lk k lev) y).set (lk a lev) (k + 1))) h2.four fun y => Cm.set_ (g := fun w => ((), w.set (lk a lev) (k + 1))) h1.four (Cm.set h2.four _)
theorem Cm.drop {a k lev : Int} (h1 : LvC k lev) (h2 : LvC a lev) : Cm fun w => ((), w.drop a k lev) :=
  Cm.get_ (g := fun y w2 => ((), (Wk.set w2 (lk a lev) y).set (lk k lev) 0)) h1.four fun y => Cm.set_ (g := fun w => ((), w.set (lk k lev) 0)) h2.four (Cm.set h1.four _)
theorem Cm.insert {o : Op} {hi lo x : Int} (lh : LvC hi 1) (ll : LvC lo 0) (la : 0 ≤ o.a ∧ o.a < 5) : Cm fun w => w.insert o hi lo x := by
  have l0 : LvC o.a 0 := ⟨by omega, la.2, by decide, by decide⟩
  have l1 : LvC o.a 1 := ⟨by omega, la.2, by decide, by decide⟩
  refine Cm.ite (c := x = o.a) (Cm.ret _) ?_
  by_cases h : o.x = 1
  · simp only [if_pos h]
    exact Cm.st (f := fun w => w.put lo o.a 0) (g := fun w => ((⟨0, o.a⟩ : Answer), w.put hi o.a 1)) (Cm.put l0 ll) (Cm.st (f := fun w => w.put hi o.a 1) (g := fun w => (_, w)) (Cm.put l1 lh) (Cm.ret _))
  · simp only [if_neg h]
    exact Cm.st (f := fun w => w.put lo o.a 0) (g := fun w => (_, w)) (Cm.put l0 ll) (Cm.ret _)
theorem Cm.erase {o : Op} {hi lo x : Int} (lh : LvC hi 1) (ll : LvC lo 0) (la : 0 ≤ o.a ∧ o.a < 5) : Cm fun w => w.erase o hi lo x := by
  have l0 : LvC o.a 0 := ⟨by omega, la.2, by decide, by decide⟩
  have l1 : LvC o.a 1 := ⟨by omega, la.2, by decide, by decide⟩
  refine Cm.ite (c := x = o.a) ?_ (Cm.ret _)
  refine Cm.st (f := fun w => w.drop lo o.a 0) (g := fun w => (fun y w2 => ((⟨0, o.a⟩ : Answer), if y = o.a then Wk.drop w2 hi o.a 1 else w2)) (w.next hi 1).1 (w.next hi 1).2) (Cm.drop l0 ll) ?_
  refine Cm.next_ (g := fun y w2 => ((⟨0, o.a⟩ : Answer), if y = o.a then Wk.drop w2 hi o.a 1 else w2)) lh fun y _ => ?_
  by_cases h : y = o.a
  · simp only [if_pos h]; exact Cm.st (f := fun w => w.drop hi o.a 1) (g := fun w => (_, w)) (Cm.drop l1 lh) (Cm.ret _)
  · simp only [if_neg h]; exact Cm.ret _
theorem Cm.skip {o : Op} (la : 0 ≤ o.a ∧ o.a < 5) : Cm fun w => w.skip o := by
  refine Cm.ite (c := o.kind = 9) (Cm.next_ (g := fun x w => ((if x = -1 then ⟨2, 0⟩ else ⟨0, x⟩ : Answer), w)) ⟨by decide, by decide, by decide, by decide⟩ fun x _ => Cm.ret _) ?_
  refine Cm.bindP (f := fun w => w.before 7 o.a (-1) 1) (P := fun x => -1 ≤ x ∧ x < 5)
    (g := fun hi w => (fun lo w => (fun at_ w => if o.kind = 8 then ((⟨0, if at_ = o.a then 1 else 0⟩ : Answer), w) else
      if o.kind = 10 then (⟨0, (Wk.bits 7 w at_ o.b 0).1⟩, (Wk.bits 7 w at_ o.b 0).2) else
      if o.kind = 6 then w.insert o hi lo at_ else w.erase o hi lo at_) (w.next lo 0).1 (w.next lo 0).2) (w.before 7 o.a hi 0).1 (w.before 7 o.a hi 0).2)
    (Cm.before (by decide) (by decide) (by decide) (by decide)) (fun w => Wk.before_rng (by decide) (by decide)) fun hi hh => ?_
  refine Cm.bindP (f := fun w => w.before 7 o.a hi 0) (P := fun x => -1 ≤ x ∧ x < 5)
    (g := fun lo w => (fun at_ w => if o.kind = 8 then ((⟨0, if at_ = o.a then 1 else 0⟩ : Answer), w) else
      if o.kind = 10 then (⟨0, (Wk.bits 7 w at_ o.b 0).1⟩, (Wk.bits 7 w at_ o.b 0).2) else
      if o.kind = 6 then w.insert o hi lo at_ else w.erase o hi lo at_) (w.next lo 0).1 (w.next lo 0).2)
    (Cm.before (by decide) (by decide) hh.1 hh.2) (fun w => Wk.before_rng hh.1 hh.2) fun lo hl => ?_
  refine Cm.next_ (g := fun at_ w => if o.kind = 8 then ((⟨0, if at_ = o.a then 1 else 0⟩ : Answer), w) else
      if o.kind = 10 then (⟨0, (Wk.bits 7 w at_ o.b 0).1⟩, (Wk.bits 7 w at_ o.b 0).2) else
      if o.kind = 6 then w.insert o hi lo at_ else w.erase o hi lo at_) ⟨hl.1, hl.2, by decide, by decide⟩ fun x hx => ?_
  refine Cm.ite (Cm.ret _) (Cm.ite ?_ (Cm.ite ?_ ?_))
  · exact Cm.bind (f := fun w => w.bits 7 x o.b 0) (g := fun y w => ((⟨0, y⟩ : Answer), w)) (Cm.bits (by omega) (by omega)) fun y => Cm.ret _
  · exact Cm.insert ⟨hh.1, hh.2, by decide, by decide⟩ ⟨hl.1, hl.2, by decide, by decide⟩ la
  · exact Cm.erase ⟨hh.1, hh.2, by decide, by decide⟩ ⟨hl.1, hl.2, by decide, by decide⟩ la
end
set_option maxRecDepth 100000
theorem sk_all1 : skAll (allB.take 15) = true := by decide +kernel
theorem sk_all2 : skAll ((allB.drop 15).take 12) = true := by decide +kernel
theorem sk_all3 : skAll (allB.drop 27) = true := by decide +kernel
set_option maxRecDepth 20000
theorem allB_mem {l : List Bool} (h : l.length = 5) : l ∈ allB := by
  have : ∀ a b c d e : Bool, [a, b, c, d, e] ∈ allB := by decide
  match l, h with
  | [a, b, c, d, e], _ => exact this a b c d e
theorem sk_all {i h : List Bool} {o : Op} (hi : i ∈ allB) (hh : h ∈ allB) (s : subB h i = true) (ho : o ∈ skOps) : skOne i h o = true := by
  have e : allB = allB.take 15 ++ ((allB.drop 15).take 12 ++ allB.drop 27) := by decide
  have all : skAll allB = true := by
    rw [e]
    unfold skAll
    rw [List.all_append, List.all_append]
    have h1 := sk_all1; have h2 := sk_all2; have h3 := sk_all3
    unfold skAll at h1 h2 h3
    rw [h1, h2, h3]; rfl
  unfold skAll at all
  have h1 := List.all_eq_true.1 all i hi
  have h2 := List.all_eq_true.1 h1 h hh
  rw [s] at h2
  simp only [Bool.not_true, Bool.false_or] at h2
  exact List.all_eq_true.1 h2 o ho
theorem skOps_mem {o : Op} (m : o.may = true) (hk : 5 < o.kind) : o ∈ skOps ∧ 0 ≤ o.a ∧ o.a < 5 := by
  obtain ⟨k, a, b, x⟩ := o
  simp only at hk
  unfold Op.may ruleOf at m
  simp only at m
  rw [if_neg (by omega), if_neg (by omega), if_neg (by omega), if_neg (by omega), if_neg (by omega), if_neg (by omega)] at m
  have five : ∀ z : Int, 0 ≤ z → z < 5 → z ∈ fives := fun z h0 h1 => by
    have : z = 0 ∨ z = 1 ∨ z = 2 ∨ z = 3 ∨ z = 4 := by omega
    rcases this with rfl | rfl | rfl | rfl | rfl <;> decide
  by_cases k6 : k = 6
  · subst k6
    simp only [if_true, Bool.and_eq_true, decide_eq_true_eq] at m
    obtain ⟨⟨a0, a1⟩, ⟨b0, b1⟩, x0, x1⟩ := m
    obtain rfl : b = 0 := by omega
    refine ⟨?_, a0, a1⟩
    refine List.mem_append.2 (.inl (List.mem_append.2 (.inl (List.mem_flatMap.2 ⟨a, five a a0 a1, ?_⟩))))
    have : x = 0 ∨ x = 1 := by omega
    rcases this with rfl | rfl <;> simp
  · rw [if_neg k6] at m
    by_cases k7 : k = 7
    · subst k7
      simp only [if_true, Bool.and_eq_true, decide_eq_true_eq] at m
      obtain ⟨⟨a0, a1⟩, ⟨b0, b1⟩, x0, x1⟩ := m
      obtain rfl : b = 0 := by omega
      obtain rfl : x = 0 := by omega
      exact ⟨List.mem_append.2 (.inl (List.mem_append.2 (.inl (List.mem_flatMap.2 ⟨a, five a a0 a1, by simp⟩)))), a0, a1⟩
    · rw [if_neg k7] at m
      by_cases k8 : k = 8
      · subst k8
        simp only [if_true, Bool.and_eq_true, decide_eq_true_eq] at m
        obtain ⟨⟨a0, a1⟩, ⟨b0, b1⟩, x0, x1⟩ := m
        obtain rfl : b = 0 := by omega
        obtain rfl : x = 0 := by omega
        exact ⟨List.mem_append.2 (.inl (List.mem_append.2 (.inl (List.mem_flatMap.2 ⟨a, five a a0 a1, by simp⟩)))), a0, a1⟩
      · rw [if_neg k8] at m
        by_cases k9 : k = 9
        · subst k9
          simp only [if_true, Bool.and_eq_true, decide_eq_true_eq] at m
          obtain ⟨⟨a0, a1⟩, ⟨b0, b1⟩, x0, x1⟩ := m
          obtain rfl : a = 0 := by omega
          obtain rfl : b = 0 := by omega
          obtain rfl : x = 0 := by omega
          exact ⟨List.mem_append.2 (.inl (List.mem_append.2 (.inr (by simp)))), by decide, by decide⟩
        · rw [if_neg k9] at m
          by_cases k10 : k = 10
          · subst k10
            simp only [if_true, Bool.and_eq_true, decide_eq_true_eq] at m
            obtain ⟨⟨a0, a1⟩, ⟨b0, b1⟩, x0, x1⟩ := m
            obtain rfl : x = 0 := by omega
            exact ⟨List.mem_append.2 (.inr (List.mem_flatMap.2 ⟨a, five a a0 a1, List.mem_map.2 ⟨b, five b b0 b1, rfl⟩⟩)), a0, a1⟩
          · rw [if_neg k10] at m; cases m
structure Img (F : Vw) (s : MS) : Prop where
  fl : F.Fl
  ok : F.ok
  lb : s.b.length = 4
  lk : s.ks.length = 5
  bal : ∀ i, i < 4 → F.n.getD i 0 = s.b.getD i 0 + 1 ∧ -1 ≤ s.b.getD i 0 ∧ s.b.getD i 0 ≤ 1048575
  sk : ∃ h, h.length = 5 ∧ subB h s.ks = true ∧ F.n.drop 4 = imgL s.ks h
theorem Vw.Fl.tt {F : Vw} (f : F.Fl) (ok : F.ok) : F.k = tt16 := by
  refine List.ext_getElem? fun i => ?_
  by_cases h : i < 16
  · have := f.all i h
    rw [List.getD_eq_getElem?_getD, List.getElem?_eq_getElem (by rw [ok.lk]; exact h)] at this
    rw [List.getElem?_eq_getElem (by rw [ok.lk]; exact h), List.getElem?_eq_getElem (by rw [show tt16.length = 16 from rfl]; exact h)]
    simp only [Option.getD_some] at this
    rw [this]
    congr 1
    exact (List.eq_of_mem_replicate (n := 16) (a := true) (List.getElem_mem _)).symm
  · rw [List.getElem?_eq_none (by rw [ok.lk]; omega), List.getElem?_eq_none (by rw [show tt16.length = 16 from rfl]; omega)]
theorem MS.skip_b (s : MS) (o : Op) (b : List Int) : (MS.skip ⟨b, s.ks⟩ o).1 = (s.skip o).1 ∧ (MS.skip ⟨b, s.ks⟩ o).2.ks = (s.skip o).2.ks ∧ (s.skip o).2.b = s.b := by
  unfold MS.skip MS.is
  simp only
  repeat' split
  all_goals exact ⟨rfl, rfl, rfl⟩
theorem skip_img {F : Vw} {s : MS} {o : Op} (I : Img F s) (m : o.may = true) (hk : 5 < o.kind) : (Wk.skip ⟨F, none⟩ o).2.need = none ∧ (Wk.skip ⟨F, none⟩ o).1 = (s.skip o).1 ∧ Img (Wk.skip ⟨F, none⟩ o).2.v (s.skip o).2 := by
  obtain ⟨h, h1, h2, h3⟩ := I.sk
  have mem := skOps_mem m hk
  have one := sk_all (allB_mem I.lk) (allB_mem h1) h2 mem.1
  have e0 : F.n = F.n.take 4 ++ imgL s.ks h := by rw [← h3, List.take_append_drop]
  have c4 : (F.n.take 4).length = 4 := by rw [List.length_take, I.fl.ln]; rfl
  have eW : (⟨F, none⟩ : Wk) = (⟨⟨tt16, [], 0 :: 0 :: 0 :: 0 :: imgL s.ks h⟩, none⟩ : Wk).pre (F.n.take 4) F.w := by
    unfold Wk.pre
    obtain ⟨k, w, n⟩ := F
    have := I.fl.tt I.ok
    simp only at this e0 ⊢
    rw [this]
    congr 2
  have cm := (Cm.skip (o := o) mem.2).eq (F.n.take 4) F.w ⟨⟨tt16, [], 0 :: 0 :: 0 :: 0 :: imgL s.ks h⟩, none⟩ c4 (by simp)
  rw [← eW] at cm
  unfold skOne at one
  simp only [Bool.and_eq_true, beq_iff_eq] at one
  obtain ⟨o1, o2, o3, o4, o5, o6, o7⟩ := one
  have sb := MS.skip_b s o []
  have fl := (Smm.skip (o := o) mem.2).full ⟨F, none⟩ ⟨I.fl.ln, rfl, I.fl.all⟩
  have ok2 : (Wk.skip ⟨F, none⟩ o).2.v.ok := (Wk.skip_ok (w := ⟨F, none⟩) ⟨I.ok, fun c h => by cases h⟩ mem.2).v
  rw [cm] at fl ok2 ⊢
  generalize Wk.skip ⟨⟨tt16, [], 0 :: 0 :: 0 :: 0 :: imgL s.ks h⟩, none⟩ o = r at *
  have len : ∀ l ∈ allB, l.length = 5 := by decide
  have ext : ∀ x y : Answer, x.code = y.code → x.num = y.num → x = y := by rintro ⟨⟩ ⟨⟩ rfl rfl; rfl
  have o6 : hiOf s.ks h o ∈ allB := by simpa using o6
  have o7 : (MS.skip ⟨[], s.ks⟩ o).2.ks ∈ allB := by simpa using o7
  rw [sb.2.1] at o4 o5 o7
  rw [sb.1] at o1 o2
  refine ⟨fl.need, ext _ _ o1 o2, ⟨fl.ln, fl.all⟩, ok2, by rw [sb.2.2]; exact I.lb, len _ o7, fun i hi => ?_, hiOf s.ks h o, len _ o6, o5, ?_⟩
  · rw [sb.2.2, ← (I.bal i hi).1]
    refine ⟨?_, (I.bal i hi).2⟩
    show (F.n.take 4 ++ r.2.v.n.drop 4).getD i 0 = F.n.getD i 0
    rw [List.getD_eq_getElem?_getD, List.getElem?_append_left (by omega), List.getElem?_take_of_lt hi, List.getD_eq_getElem?_getD]
  · show (F.n.take 4 ++ r.2.v.n.drop 4).drop 4 = _
    rw [List.drop_append_of_le_length (by omega), List.drop_of_length_le (by omega), o4]
    rfl
theorem Img.put {F : Vw} {s : MS} {a x : Int} (I : Img F s) (a0 : 0 ≤ a) (a1 : a < 4) (x0 : -1 ≤ x) (x1 : x ≤ 1048575) : Img { F with n := F.n.set a.toNat (x + 1) } (s.put a x) := by
  have l16 := I.fl.ln
  have lb := I.lb
  refine ⟨⟨by rw [List.length_set]; exact l16, I.fl.all⟩, I.ok.set _ ⟨by omega, by omega⟩, by show (s.b.set _ _).length = 4; rw [List.length_set]; exact lb, I.lk, fun i hi => ?_, ?_⟩
  · have := I.bal i hi
    show (F.n.set a.toNat (x + 1)).getD i 0 = (s.b.set a.toNat x).getD i 0 + 1 ∧ -1 ≤ (s.b.set a.toNat x).getD i 0 ∧ (s.b.set a.toNat x).getD i 0 ≤ 1048575
    simp only [List.getD_eq_getElem?_getD, List.getElem?_set] at this ⊢
    by_cases c : a.toNat = i
    · rw [if_pos c, if_pos c, if_pos (by omega), if_pos (by omega)]
      simp only [Option.getD_some]
      exact ⟨by first | rfl | trivial, x0, x1⟩
    · rw [if_neg c, if_neg c]; exact this
  · obtain ⟨h, h1, h2, h3⟩ := I.sk
    refine ⟨h, h1, h2, ?_⟩
    show (F.n.set a.toNat (x + 1)).drop 4 = imgL s.ks h
    rw [← h3]
    refine List.ext_getElem? fun j => ?_
    rw [List.getElem?_drop, List.getElem?_drop, List.getElem?_set_ne (by omega)]
theorem Img.get {F : Vw} {s : MS} (I : Img F s) {a : Int} (a0 : 0 ≤ a) (a1 : a < 4) : Wk.get ⟨F, none⟩ a = (s.bal a + 1, ⟨F, none⟩) ∧ -1 ≤ s.bal a ∧ s.bal a ≤ 1048575 := by
  have b := I.bal a.toNat (by omega)
  refine ⟨?_, b.2⟩
  unfold Wk.get
  rw [if_neg (by simp), if_pos (I.fl.all a.toNat (by omega))]
  simp only
  rw [b.1]; rfl
theorem bank_img {F : Vw} {s : MS} {o : Op} (I : Img F s) (m : o.may = true) (hk : o.kind ≤ 5) : (Wk.bank ⟨F, none⟩ o).2.need = none ∧ (Wk.bank ⟨F, none⟩ o).1 = (s.bank o).1 ∧ Img (Wk.bank ⟨F, none⟩ o).2.v (s.bank o).2 := by
  obtain ⟨⟨a0, a1⟩, ⟨b0, b1⟩, x0, x1⟩ := Op.may_bk m hk
  obtain ⟨ga, ra⟩ := I.get a0 a1
  obtain ⟨gb, rb⟩ := I.get b0 b1
  have sets : ∀ (G : Vw) (c y : Int), Wk.set ⟨G, none⟩ c y = ⟨{ G with n := G.n.set c.toNat y }, none⟩ := fun G c y => by
    unfold Wk.set; rw [if_neg (by simp)]
  unfold Wk.bank MS.bank
  by_cases k5 : o.kind = 5
  · rw [if_pos k5, if_pos k5]
    have g0 := (I.get (a := 0) (by decide) (by decide)).1
    have g1 := (I.get (a := 1) (by decide) (by decide)).1
    have g2 := (I.get (a := 2) (by decide) (by decide)).1
    have g3 := (I.get (a := 3) (by decide) (by decide)).1
    have e : Wk.sum 4 ⟨F, none⟩ 0 0 = (MS.sum s.b 0, ⟨F, none⟩) := by
      have hb : s.b = [s.bal 0, s.bal 1, s.bal 2, s.bal 3] := by
        have lb := I.lb
        unfold MS.bal
        match h : s.b, lb with
        | [p, q, r, t], _ => rfl
      rw [hb]
      unfold Wk.sum
      rw [g0]
      unfold Wk.sum
      rw [show (0 : Int) + 1 = 1 from rfl, g1]
      unfold Wk.sum
      rw [show (1 : Int) + 1 = 2 from rfl, g2]
      unfold Wk.sum
      rw [show (2 : Int) + 1 = 3 from rfl, g3]
      simp only [Wk.sum, MS.sum, Int.add_sub_cancel]
    rw [e]
    exact ⟨by first | rfl | trivial, by first | rfl | trivial, I⟩
  rw [if_neg k5, if_neg k5]
  simp only [ga, gb, sets]
  by_cases k0 : o.kind = 0
  · rw [if_pos k0, if_pos k0]
    by_cases c : s.bal o.a = -1
    · rw [if_neg (by omega), if_pos c]
      exact ⟨by first | rfl | trivial, by first | rfl | trivial, I.put a0 a1 (by omega) (by omega)⟩
    · rw [if_pos (by omega), if_neg c]
      exact ⟨by first | rfl | trivial, by first | rfl | trivial, I⟩
  rw [if_neg k0, if_neg k0]
  by_cases k4 : o.kind = 4
  · rw [if_pos k4, if_pos k4]
    by_cases c1 : s.bal o.a = -1 ∨ s.bal o.b = -1
    · rw [if_pos (by omega), if_pos c1]; exact ⟨by first | rfl | trivial, by first | rfl | trivial, I⟩
    rw [if_neg (by omega), if_neg c1]
    by_cases c2 : s.bal o.a < o.x
    · rw [if_pos (by omega), if_pos c2]; exact ⟨by first | rfl | trivial, by first | rfl | trivial, I⟩
    rw [if_neg (by omega), if_neg c2]
    by_cases c3 : o.a = o.b
    · rw [if_pos c3, if_pos c3]
      exact ⟨by first | rfl | trivial, by simp only [Int.add_sub_cancel], I⟩
    rw [if_neg c3, if_neg c3]
    by_cases c4 : 1048575 - o.x < s.bal o.b
    · rw [if_pos (by omega), if_pos c4]; exact ⟨by first | rfl | trivial, by first | rfl | trivial, I⟩
    rw [if_neg (by omega), if_neg c4]
    simp only [Int.add_sub_cancel]
    exact ⟨by first | rfl | trivial, by first | rfl | trivial, (I.put b0 b1 (by omega) (by omega)).put a0 a1 (by omega) (by omega)⟩
  rw [if_neg k4, if_neg k4]
  by_cases c1 : s.bal o.a = -1
  · rw [if_pos (by omega), if_pos c1]; exact ⟨by first | rfl | trivial, by first | rfl | trivial, I⟩
  rw [if_neg (by omega), if_neg c1]
  simp only [Int.add_sub_cancel]
  by_cases k1 : o.kind = 1
  · rw [if_pos k1, if_pos k1]
    exact ⟨by first | rfl | trivial, by first | rfl | trivial, by have := I.put (x := -1) a0 a1 (by omega) (by omega); rw [show (-1 : Int) + 1 = 0 from rfl] at this; exact this⟩
  rw [if_neg k1, if_neg k1]
  by_cases k2 : o.kind = 2
  · rw [if_pos k2, if_pos k2]
    by_cases c2 : 1048575 - o.x < s.bal o.a
    · rw [if_pos (by omega), if_pos c2]; exact ⟨by first | rfl | trivial, by first | rfl | trivial, I⟩
    rw [if_neg (by omega), if_neg c2]
    exact ⟨by first | rfl | trivial, by first | rfl | trivial, I.put a0 a1 (by omega) (by omega)⟩
  rw [if_neg k2, if_neg k2]
  by_cases c2 : s.bal o.a < o.x
  · rw [if_pos c2, if_pos c2]; exact ⟨by first | rfl | trivial, by first | rfl | trivial, I⟩
  rw [if_neg c2, if_neg c2]
  exact ⟨by first | rfl | trivial, by first | rfl | trivial, I.put a0 a1 (by omega) (by omega)⟩
theorem one_img {F : Vw} {s : MS} {o : Op} (I : Img F s) (m : o.may = true) : (F.one o).need = none ∧ (F.one o).ans = [(s.one o).1] ∧ Img (F.one o).view (if (s.one o).1.code = 0 then (s.one o).2 else s) := by
  unfold Vw.one MS.one
  by_cases hk : o.kind ≤ 5
  · have := bank_img I m hk
    simp only [if_pos hk]
    rw [this.1]
    simp only
    rw [this.2.1]
    refine ⟨by first | rfl | trivial, by first | rfl | trivial, ?_⟩
    split
    · exact this.2.2
    · exact I
  · have := skip_img I m (by omega)
    simp only [if_neg hk]
    rw [this.1]
    simp only
    rw [this.2.1]
    refine ⟨by first | rfl | trivial, by first | rfl | trivial, ?_⟩
    split
    · exact this.2.2
    · exact I
theorem do_img {F : Vw} {s : MS} {ops : List Op} (I : Img F s) (m : Txn.may ops = true) : (F.do_ ops).ans = (s.do_ ops).2 ∧ Img (F.do_ ops).view (s.do_ ops).1 := by
  have key : ∀ (os : List Op) (W : Vw) (t : MS) (rs : List Answer), (∀ o ∈ os, o.may = true) → Img W t → (F.doFrom os W rs).ans = (s.doFrom os t rs).2 ∧ Img (F.doFrom os W rs).view (s.doFrom os t rs).1 := by
    intro os
    induction os with
    | nil => intro W t rs _ w; exact ⟨rfl, w⟩
    | cons o os ih =>
      intro W t rs hm w
      obtain ⟨h1, h2, h3⟩ := one_img w (hm o (by simp))
      unfold Vw.doFrom MS.doFrom
      rw [h1]
      simp only
      rw [h2]
      by_cases c : (t.one o).1.code = 0
      · rw [if_pos c] at h3
        rw [if_pos (by simp [c]), if_pos c]
        exact ih _ _ _ (fun o ho => hm o (List.mem_cons_of_mem _ ho)) h3
      · rw [if_neg (by simp [c]), if_neg c]
        exact ⟨rfl, I⟩
  exact key ops F s [] (Txn.may_mem m) I
attribute [local irreducible] bnd ldV stV ifV binV eqI
def msC (s : MS) : List Value := s.b.map i64 ++ s.ks.map Value.bool
def msRow (s : MS) : GObj := .row 115 (msC s) 9 true
structure MS.good (s : MS) : Prop where
  lb : s.b.length = 4
  lk : s.ks.length = 5
  bal : ∀ i, i < 4 → -1 ≤ s.b.getD i 0 ∧ s.b.getD i 0 ≤ 1048575
theorem Img.good {F : Vw} {s : MS} (I : Img F s) : s.good := ⟨I.lb, I.lk, fun i hi => (I.bal i hi).2⟩
theorem MS.new_good : MS.new.good := ⟨rfl, rfl, fun i hi => by
  have : ∀ k : Fin 4, -1 ≤ MS.new.b.getD k.val 0 ∧ MS.new.b.getD k.val 0 ≤ 1048575 := by decide
  exact this ⟨i, hi⟩⟩
theorem MS.good.put {s : MS} (g : s.good) {a x : Int} (h0 : -1 ≤ x) (h1 : x ≤ 1048575) : (s.put a x).good := by
  refine ⟨by show (s.b.set _ _).length = 4; rw [List.length_set]; exact g.lb, g.lk, fun i hi => ?_⟩
  show -1 ≤ (s.b.set a.toNat x).getD i 0 ∧ (s.b.set a.toNat x).getD i 0 ≤ 1048575
  have := g.bal i hi
  rw [List.getD_eq_getElem?_getD, List.getElem?_set]
  split
  · split
    · exact ⟨h0, h1⟩
    · exact ⟨by decide, by decide⟩
  · rw [← List.getD_eq_getElem?_getD]; exact this
theorem MS.bank_good {s : MS} {o : Op} (g : s.good) (ho : Bk o) : (s.bank o).2.good := by
  obtain ⟨⟨a0, a1⟩, ⟨b0, b1⟩, x0, x1⟩ := ho
  have ra := g.bal o.a.toNat (by omega)
  have rb := g.bal o.b.toNat (by omega)
  unfold MS.bank MS.bal
  split
  · exact g
  split
  · split
    · exact g.put (by omega) (by omega)
    · exact g
  split
  · split
    · exact g
    split
    · exact g
    split
    · exact g
    split
    · exact g
    · exact (g.put (by omega) (by omega)).put (by omega) (by omega)
  split
  · exact g
  split
  · exact g.put (by omega) (by omega)
  split
  · split
    · exact g
    · exact g.put (by omega) (by omega)
  split
  · exact g
  · exact g.put (by omega) (by omega)
theorem MS.skip_good {s : MS} {o : Op} (g : s.good) : (s.skip o).2.good := by
  unfold MS.skip
  repeat' split
  all_goals first | exact g | exact ⟨g.lb, by show (s.ks.set _ _).length = 5; rw [List.length_set]; exact g.lk, g.bal⟩
section
variable {b ob oo : Nat} {R : List Part} {h : GH} {K : Value → GH → Prop} {s : MS} {o : Op}
theorem ms_ld {i : Nat} (hp : All (pts b (msRow s) :: R) h) (g : s.good) (hi : i < 4) : ldV 1 false (.pointer (some ⟨b, 0 + 0 + i * 1, none⟩)) h = some (i64 (s.b.getD i 0)) := by
  have hp : All (pts b (.row 115 (msC s) 9 true) :: R) h := hp
  rw [ldV_cell hp.pt0]
  have lb := g.lb
  unfold msC
  rw [show 0 + 0 + i * 1 = i by omega, List.getElem?_append_left (by rw [List.length_map]; omega), List.getElem?_map, List.getD_eq_getElem?_getD, List.getElem?_eq_getElem (by omega)]
  rfl
theorem ms_st {i : Nat} {x : Int} {K : GH → Prop} (hp : All (pts b (msRow s) :: R) h) (g : s.good) (hi : i < 4) (k : ∀ h', All (pts b (msRow (s.put i x)) :: R) h' → K h') : bnd (stV 1 (.pointer (some ⟨b, 0 + 0 + i * 1, none⟩)) (i64 x) h) K := by
  have hp : All (pts b (.row 115 (msC s) 9 true) :: R) h := hp
  have lb := g.lb
  have lk := g.lk
  refine st0 hp (msRow (s.put i x)) rfl (by unfold msC; simp only [List.length_append, List.length_map]; omega) rfl ?_ k
  show GObj.row _ ((msC s).set (0 + 0 + i * 1) (i64 x)) 9 true = GObj.row _ (msC (s.put i x)) 9 true
  unfold msC MS.put
  rw [show 0 + 0 + i * 1 = i by omega, List.set_append_left _ _ (by rw [List.length_map]; omega)]
  simp only [Int.toNat_natCast, List.map_set]
theorem T_mdlCode {x : Int} (hK : K (ansV ⟨x, 0⟩) h) : T Tryz.prog 128 [i64 x] h K := by
  apply T.drop
  apply S128_T
  unfold S128
  refine nw All.start (resRow (i64 0) (i64 0)) rfl fun rb h1 hp => ?_
  refine wk ?_
  exact retA (v := ⟨x, 0⟩) (K := fun v h' => ∃ h0, HLe h0 h' ∧ K v h0) hp fun h2 hp => ⟨h, baseP.le hp, hK⟩
theorem T_mdlDone {x : Int} (hK : K (ansV ⟨0, x⟩) h) : T Tryz.prog 129 [i64 x] h K := by
  apply T.drop
  apply S129_T
  unfold S129
  refine nw All.start (resRow (i64 0) (i64 0)) rfl fun rb h1 hp => ?_
  refine wk ?_
  exact retA (v := ⟨0, x⟩) (K := fun v h' => ∃ h0, HLe h0 h' ∧ K v h0) hp fun h2 hp => ⟨h, baseP.le hp, hK⟩
theorem ms_agg (hp : All (pts b (msRow s) :: R) h) (g : s.good) : ldV 4 true (.pointer (some ⟨b, 0 + 0, none⟩)) h = some (.agg (s.b.map i64).toArray) := by
  have hp : All (pts b (.row 115 (msC s) 9 true) :: R) h := hp
  have lb := g.lb
  rw [ldV_agg hp.pt0 4 (0 + 0) (by unfold msC; simp only [List.length_append, List.length_map]; omega)]
  unfold msC
  rw [List.drop_zero, List.take_append_of_le_length (by rw [List.length_map]; omega), List.take_of_length_le (by rw [List.length_map]; omega)]
theorem ms_agg2 (hp : All (pts b (msRow s) :: R) h) (g : s.good) : ldV 5 true (.pointer (some ⟨b, 0 + 4, none⟩)) h = some (.agg (s.ks.map Value.bool).toArray) := by
  have hp : All (pts b (.row 115 (msC s) 9 true) :: R) h := hp
  have lb := g.lb
  have lk := g.lk
  rw [ldV_agg hp.pt0 5 (0 + 4) (by unfold msC; simp only [List.length_append, List.length_map]; omega)]
  unfold msC
  rw [List.drop_append_of_le_length (by rw [List.length_map]; omega), List.drop_of_length_le (by rw [List.length_map]; omega), List.nil_append, List.take_of_length_le (by rw [List.length_map]; omega)]
theorem ix_int {n : Nat} {xs : List Int} {i : Nat} (hn : xs.length = n) (hi : i < n) : ixV n 1 false (.agg (xs.map i64).toArray) (i64 i) = some (i64 (xs.getD i 0)) := by
  simp only [ixV]
  rw [if_pos ⟨by omega, by omega⟩]
  simp only [Int.toNat_natCast, Nat.mul_one, List.getElem?_toArray, List.getElem?_map, List.getD_eq_getElem?_getD]
  rw [List.getElem?_eq_getElem (by omega)]; rfl
theorem ix_bool {n : Nat} {xs : List Bool} {i : Nat} (hn : xs.length = n) (hi : i < n) : ixV n 1 false (.agg (xs.map Value.bool).toArray) (i64 i) = some (.bool (xs.getD i false)) := by
  simp only [ixV]
  rw [if_pos ⟨by omega, by omega⟩]
  simp only [Int.toNat_natCast, Nat.mul_one, List.getElem?_toArray, List.getElem?_map, List.getD_eq_getElem?_getD]
  rw [List.getElem?_eq_getElem (by omega)]; rfl
theorem eqA_at {b p q : Nat} : eqA 1 (.pointer (some ⟨b, p, none⟩)) (.pointer (some ⟨b, q, none⟩)) = some (decide (p = q)) := by
  show (if b = b ∧ 1 ≠ 0 then some ((⟨b, p, none⟩ : Addr) == ⟨b, q, none⟩) else none) = _
  rw [if_pos ⟨rfl, by decide⟩]
  by_cases h : p = q
  · subst h; simp
  · simp [h]
theorem sum_take {xs : List Int} : ∀ (i : Nat) (all : Int), i ≤ xs.length → MS.sum xs all = MS.sum (xs.drop i) (MS.sum (xs.take i) all) := by
  induction xs with
  | nil => intro i all h; simp at h; subst h; rfl
  | cons x xs ih =>
    intro i all h
    cases i with
    | zero => rfl
    | succ i => exact ih i _ (by simpa using h)
theorem T_msum (hp : All (pts b (msRow s) :: R) h) (g : s.good) (hK : ∀ h', All (pts b (msRow s) :: R) h' → K (ansV ⟨0, MS.sum s.b 0⟩) h') : T Tryz.prog 130 [ptr b] h K := by
  apply S130_T
  unfold S130
  refine nw hp (resRow (i64 0) (i64 0)) rfl fun rb h1 hp => ?_
  refine wk ?_
  refine bnd_of (ms_agg (hn (hp.up 1)) g) ?_
  have lb := g.lb
  refine Lfp_fam (ι := Nat) (fun i => [ptr rb, i64 (MS.sum (s.b.take i) 0), .agg (s.b.map i64).toArray, i64 i]) (fun i h' => i ≤ 4 ∧ (0 ≤ MS.sum (s.b.take i) 0 ∧ MS.sum (s.b.take i) 0 ≤ 1048575 * i) ∧ h' = h1) (fun i => 4 - i) ?_ 0 h1 ⟨Nat.zero_le _, ⟨Int.le_refl 0, Int.le_refl 0⟩, rfl⟩
  rintro i h2 X ⟨hi, hs, rfl⟩ again
  simp only [tup_zero, tup_succ]
  refine wk ?_
  refine ifV_cases (fun c => ?_) fun c => ?_
  · have hi4 : i < 4 := by omega
    refine bnd_of (ix_int lb hi4) ?_
    have gb := g.bal i hi4
    have mm : mmV true (i64 0) [i64 (s.b.getD i 0)] = some (i64 (max 0 (s.b.getD i 0))) := by
      show some (i64 _) = _
      congr 2
      simp only
      split <;> omega
    refine bnd_of mm ?_
    refine bnd_of (add_id (by omega) (by omega)) ?_
    refine wk ?_
    have e : MS.sum (s.b.take (i + 1)) 0 = MS.sum (s.b.take i) 0 + max 0 (s.b.getD i 0) := by
      rw [sum_take (xs := s.b.take (i + 1)) i 0 (by rw [List.length_take]; omega), List.take_take, Nat.min_eq_left (by omega), List.drop_take, show i + 1 - i = 1 by omega]
      rw [List.drop_eq_getElem_cons (by omega)]
      show MS.sum [_] _ = _
      rw [List.getD_eq_getElem?_getD, List.getElem?_eq_getElem (by omega)]
      rfl
    have nx := again (i + 1) _ ⟨by omega, by rw [e]; omega, rfl⟩ (by omega)
    rw [e] at nx
    exact nx
  · have : i = 4 := by omega
    subst this
    refine T_mdlDone ?_
    rw [List.take_of_length_le (by omega)]
    exact retA hp fun h3 hp => hK _ hp
theorem T_mbank {i j : Nat} (hp : All (pts b (msRow s) :: R) h) (g : s.good) (ha : o.a = i) (hb : o.b = j) (hi : i < 4) (hj : j < 4) (x0 : 0 ≤ o.x) (x1 : o.x ≤ 1048575) (k0 : 0 ≤ o.kind) (k5 : o.kind ≤ 5) (op : ∀ h', All R h' → opAt h' ob oo o)
    (hK : ∀ h', All (pts b (msRow (s.bank o).2) :: R) h' → K (ansV (s.bank o).1) h') : T Tryz.prog 111 [ptr b, .pointer (some ⟨ob, oo, none⟩)] h K := by
  apply S111_T
  unfold S111
  have ga := g.bal i hi
  have gb := g.bal j hj
  have ea : s.bal o.a = s.b.getD i 0 := by unfold MS.bal; rw [ha]; rfl
  have eb : s.bal o.b = s.b.getD j 0 := by unfold MS.bal; rw [hb]; rfl
  have op0 : ∀ {h' d x y}, All (pts d (resRow x y) :: pts b (msRow s) :: R) h' → opAt h' ob oo o := fun hp => op _ hp.tail.tail
  refine nw hp (resRow (i64 0) (i64 0)) rfl fun rb h1 hp => ?_
  have opf := op0 hp
  have f0 : ldV 1 false (.pointer (some ⟨ob, oo + 0, none⟩)) h1 = some (i64 o.kind) := opf 0 _ rfl
  have f1 : ldV 1 false (.pointer (some ⟨ob, oo + 1, none⟩)) h1 = some (i64 o.a) := opf 1 _ rfl
  have f2 : ldV 1 false (.pointer (some ⟨ob, oo + 2, none⟩)) h1 = some (i64 o.b) := opf 2 _ rfl
  have f3 : ldV 1 false (.pointer (some ⟨ob, oo + 3, none⟩)) h1 = some (i64 o.x) := opf 3 _ rfl
  refine wk ?_
  refine bnd_of f1 ?_
  refine wk ?_
  rw [ha]
  refine bnd_of (iaV_at hi .i64) ?_
  refine wk ?_
  refine bnd_of f2 ?_
  refine wk ?_
  rw [hb]
  refine bnd_of (iaV_at hj .i64) ?_
  refine wk ?_
  refine bnd_of f0 ?_
  have hpb := hn (hp.up 1)
  have la := ms_ld hpb g hi
  have lb := ms_ld hpb g hj
  have ret : ∀ {r : Answer × MS} {h'}, r = s.bank o → All (pts b (msRow r.2) :: pts rb (resRow (i64 0) (i64 0)) :: R) h' → bnd (stV 2 (ptr rb) (ansV r.1) h') fun h' => bnd (ldV 2 true (ptr rb) h') fun u => K u h' := by
    rintro r h' rfl hp
    exact retA (hn (hp.up 1)) fun h2 hp => hK _ hp
  clear hK
  have hr : s.bank o = s.bank o := rfl
  conv at hr => rhs; unfold MS.bank
  rw [ea, eb, ha, hb] at hr
  have pget : ∀ {s1 : MS} {k : Nat} {z : Int}, s1.good → k < 4 → (s1.put k z).b.getD k 0 = z := fun g1 hk => by
    unfold MS.put
    rw [List.getD_eq_getElem?_getD, Int.toNat_natCast, List.getElem?_set_self (by rw [g1.lb]; exact hk)]; rfl
  have pget2 : ∀ {s1 : MS} {k l : Nat} {z : Int}, k ≠ l → (s1.put k z).b.getD l 0 = s1.b.getD l 0 := fun hkl => by
    unfold MS.put
    rw [List.getD_eq_getElem?_getD, Int.toNat_natCast, List.getElem?_set_ne hkl, List.getD_eq_getElem?_getD]
  have opx : ∀ {s1 h'}, All (pts b (msRow s1) :: pts rb (resRow (i64 0) (i64 0)) :: R) h' → ldV 1 false (.pointer (some ⟨ob, oo + 3, none⟩)) h' = some (i64 o.x) := fun hp => op _ hp.tail.tail 3 _ rfl
  -- the last part
  have j6 : ∀ (s1 : MS) (x1 : Int) (tk : Bool) h', s1.good → s1.b.getD i 0 = x1 → (tk = true → o.x ≤ x1 ∧ x1 ≤ 1048575 ∧ (⟨0, x1 - o.x⟩, s1.put i (x1 - o.x)) = s.bank o) → (tk = false → (⟨0, x1⟩, s1) = s.bank o) → All (pts b (msRow s1) :: pts rb (resRow (i64 0) (i64 0)) :: R) h' → S111_j6 (.pointer (some ⟨ob, oo, none⟩)) (ptr rb) (.pointer (some ⟨b, 0 + 0 + i * 1, none⟩)) (.bool tk) h' K := by
    intro s1 x1 tk h' g1 e1 k1 k2 hp
    unfold S111_j6
    have l1 := ms_ld hp g1 hi
    rw [e1] at l1
    cases tk with
    | true =>
      obtain ⟨q1, q2, q3⟩ := k1 rfl
      refine wk ?_
      refine bnd_of l1 ?_
      refine wk ?_
      refine bnd_of (opx hp) ?_
      refine bnd_of (sub_id (by omega) (by omega)) ?_
      refine wk ?_
      refine ms_st hp g1 hi fun h2 hp => ?_
      have l2 := ms_ld hp (g1.put (by omega) (by omega)) hi
      rw [pget g1 hi] at l2
      refine wk ?_
      refine bnd_of l2 ?_
      refine T_mdlDone ?_
      exact ret q3 hp
    | false =>
      refine wk ?_
      refine bnd_of l1 ?_
      refine T_mdlDone ?_
      exact ret (k2 rfl) hp
  generalize hx : s.b.getD i 0 = x at *
  generalize hy : s.b.getD j 0 = y at *
  refine wk ?_
  refine ifV_cases (fun k0' => ?_) fun k0' => ?_
  · rw [if_neg (by omega), if_pos k0'] at hr
    refine wk ?_
    refine bnd_of la ?_
    refine wk ?_
    refine ifN_cases (fun c => ?_) fun c => ?_
    · rw [if_neg c] at hr
      refine T_mdlCode ?_
      exact ret hr.symm hpb
    · rw [if_pos c] at hr
      refine wk ?_
      refine bnd_of f3 ?_
      refine wk ?_
      refine ms_st hpb g hi fun h2 hp => ?_
      have l2 := ms_ld hp (g.put (by omega) (by omega)) hi
      rw [pget g hi] at l2
      refine wk ?_
      refine bnd_of l2 ?_
      refine T_mdlDone ?_
      exact ret hr.symm hp
  · rw [if_neg k0'] at hr
    have j5 : ∀ (tk : Bool) (t : Nat) (z : Int), tk = decide (o.kind = 3 ∨ o.kind = 4) → t = (if o.kind = 4 then j else i) → z = (if o.kind = 4 then y else x) → o.kind ≠ 5 → o.kind ≠ 1 → x ≠ -1 → (o.kind = 4 → y ≠ -1 ∧ i ≠ j) → (o.kind = 3 ∨ o.kind = 4 → o.x ≤ x) →
        S111_j5 (.pointer (some ⟨ob, oo, none⟩)) (ptr rb) (.pointer (some ⟨b, 0 + 0 + i * 1, none⟩)) (.bool tk) (.pointer (some ⟨b, 0 + 0 + t * 1, none⟩)) h1 K := by
      intro tk t z etk et ez n5 n1 nx ny hox
      rw [if_neg n5] at hr
      have ht : t < 4 := by rw [et]; split <;> assumption
      have lt : ldV 1 false (.pointer (some ⟨b, 0 + 0 + t * 1, none⟩)) h1 = some (i64 z) := by
        rw [et, ez]; split
        · exact lb
        · exact la
      have rz : -1 ≤ z ∧ z ≤ 1048575 := by rw [ez]; split <;> assumption
      unfold S111_j5
      refine wk ?_
      refine bnd_of f0 ?_
      refine wk ?_
      refine ifN_cases (fun k3 => ?_) fun k3 => ?_
      · refine wk ?_
        refine bnd_of lt ?_
        refine wk ?_
        refine bnd_of f3 ?_
        refine bnd_of (sub_id (by omega) (by omega)) ?_
        refine wk ?_
        refine ifV_cases (fun c4 => ?_) fun c4 => ?_
        · refine T_mdlCode ?_
          refine ret (r := (⟨4, 0⟩, s)) ?_ hpb
          rw [hr]
          by_cases k4 : o.kind = 4
          · rw [if_pos k4] at ez ⊢
            have := ny k4
            rw [if_neg (by omega), if_neg (by have := hox (.inr k4); omega), if_neg (by omega), if_pos (by omega)]
          · rw [if_neg k4] at ez ⊢
            rw [if_neg nx, if_neg n1, if_pos (by omega), if_pos (by omega)]
        · refine wk ?_
          refine bnd_of lt ?_
          refine wk ?_
          refine bnd_of f3 ?_
          refine bnd_of (add_id (by omega) (by omega)) ?_
          refine wk ?_
          refine ms_st hpb g ht fun h2 hp => ?_
          by_cases k4 : o.kind = 4
          · rw [if_pos k4] at ez et hr
            have hn4 := ny k4
            have ho := hox (.inr k4)
            refine j6 (s.put t (z + o.x)) x tk _ (g.put (by omega) (by omega)) (by rw [pget2 (by omega), hx]) (fun _ => ⟨ho, ga.2, ?_⟩) (fun q => ?_) hp
            · rw [hr, if_neg (by omega), if_neg (by omega), if_neg (by omega), if_neg (by omega), et, ez]
            · rw [etk, decide_eq_true (.inr k4)] at q; cases q
          · rw [if_neg k4] at ez et hr
            have hkind : o.kind = 2 := by omega
            subst et
            refine j6 (s.put t (z + o.x)) (z + o.x) tk _ (g.put (by omega) (by omega)) (pget g ht) (fun q => ?_) (fun _ => ?_) hp
            · rw [etk] at q
              have := of_decide_eq_true q
              omega
            · rw [hr, if_neg nx, if_neg n1, if_pos hkind, if_neg (by omega), ez]
      · have k3 : o.kind = 3 := by omega
        have ho := hox (.inl k3)
        refine j6 s x tk _ g hx (fun _ => ⟨ho, ga.2, ?_⟩) (fun q => ?_) hpb
        · rw [hr, if_neg (by omega), if_neg nx, if_neg n1, if_neg (by omega), if_neg (by omega)]
        · rw [etk, decide_eq_true (.inl k3)] at q; cases q
    have j3 : ∀ (sh tk : Bool), sh = decide ((o.kind = 3 ∨ o.kind = 4) ∧ x < o.x) → tk = decide (o.kind = 3 ∨ o.kind = 4) → o.kind ≠ 5 → x ≠ -1 → (o.kind = 4 → y ≠ -1) →
        S111_j3 (.pointer (some ⟨ob, oo, none⟩)) (ptr rb) (.pointer (some ⟨b, 0 + 0 + i * 1, none⟩)) (.pointer (some ⟨b, 0 + 0 + j * 1, none⟩)) (.bool tk) (.bool sh) h1 K := by
      intro sh tk esh etk n5 nx ny
      unfold S111_j3
      cases sh with
      | true =>
        have q := of_decide_eq_true esh.symm
        rw [if_neg n5] at hr
        refine wk ?_
        refine T_mdlCode ?_
        refine ret (r := (⟨3, 0⟩, s)) ?_ hpb
        rw [hr]
        by_cases k4 : o.kind = 4
        · rw [if_pos k4, if_neg (by have := ny k4; omega), if_pos q.2]
        · rw [if_neg k4, if_neg nx, if_neg (by omega), if_neg (by omega), if_pos q.2]
      | false =>
        have q := of_decide_eq_false esh.symm
        have hox : o.kind = 3 ∨ o.kind = 4 → o.x ≤ x := fun z => by
          by_cases c : x < o.x
          · exact absurd ⟨z, c⟩ q
          · omega
        refine wk ?_
        refine bnd_of f0 ?_
        refine wk ?_
        refine ifV_cases (fun k1 => ?_) fun k1 => ?_
        · rw [if_neg n5, if_neg (by omega), if_neg nx, if_pos k1] at hr
          refine wk ?_
          refine bnd_of la ?_
          refine wk ?_
          refine ms_st hpb g hi fun h2 hp => ?_
          refine T_mdlDone ?_
          exact ret hr.symm hp
        · refine wk ?_
          refine bnd_of f0 ?_
          refine wk ?_
          refine ifV_cases (fun k4 => ?_) fun k4 => ?_
          · refine bnd_of eqA_at ?_
            refine wk ?_
            refine ifV_cases (fun c => ?_) fun c => ?_
            · rw [if_neg n5, if_pos k4, if_neg (by have := ny k4; omega), if_neg (by have := hox (.inr k4); omega), if_pos (by omega)] at hr
              refine wk ?_
              refine bnd_of la ?_
              refine T_mdlDone ?_
              exact ret hr.symm hpb
            · unfold S111_j4
              refine wk ?_
              refine bnd_of f0 ?_
              rw [k4]
              refine wk ?_
              exact j5 tk j y etk (by rw [if_pos k4]) (by rw [if_pos k4]) n5 k1 nx (fun _ => ⟨ny k4, by omega⟩) hox
          · unfold S111_j4
            refine wk ?_
            refine bnd_of f0 ?_
            refine bnd_of (eqI_int _ _ _) ?_
            rw [decide_eq_false k4]
            refine wk ?_
            exact j5 tk i x etk (by rw [if_neg k4]) (by rw [if_neg k4]) n5 k1 nx (fun z => absurd z k4) hox
    have j2 : ∀ (mi tk : Bool), mi = decide (x = -1 ∨ o.kind = 4 ∧ y = -1) → tk = decide (o.kind = 3 ∨ o.kind = 4) →
        S111_j2 (ptr b) (.pointer (some ⟨ob, oo, none⟩)) (ptr rb) (.pointer (some ⟨b, 0 + 0 + i * 1, none⟩)) (.pointer (some ⟨b, 0 + 0 + j * 1, none⟩)) (.bool mi) (.bool tk) h1 K := by
      intro mi tk emi etk
      unfold S111_j2
      refine wk ?_
      refine bnd_of f0 ?_
      refine wk ?_
      refine ifV_cases (fun k5' => ?_) fun k5' => ?_
      · rw [if_pos k5'] at hr
        refine T_msum hpb g fun h2 hp => ?_
        exact ret hr.symm hp
      · cases mi with
        | true =>
          have q := of_decide_eq_true emi.symm
          rw [if_neg k5'] at hr
          refine wk ?_
          refine T_mdlCode ?_
          refine ret (r := (⟨2, 0⟩, s)) ?_ hpb
          rw [hr]
          by_cases k4 : o.kind = 4
          · rw [if_pos k4, if_pos (by omega)]
          · rw [if_neg k4, if_pos (by omega)]
        | false =>
          have q := of_decide_eq_false emi.symm
          refine wk ?_
          cases tk with
          | true =>
            have q2 := of_decide_eq_true etk.symm
            refine wk ?_
            refine bnd_of la ?_
            refine wk ?_
            refine bnd_of f3 ?_
            refine wk ?_
            exact j3 _ true (by rw [decide_eq_decide]; exact ⟨fun z => ⟨q2, z⟩, fun z => z.2⟩) etk k5' (by omega) (by omega)
          | false =>
            have q2 := of_decide_eq_false etk.symm
            refine wk ?_
            exact j3 false false (by rw [decide_eq_false (fun z => q2 z.1)]) etk k5' (by omega) (by omega)
    have j1 : ∀ mi : Bool, mi = decide (x = -1 ∨ o.kind = 4 ∧ y = -1) →
        S111_j1 (ptr b) (.pointer (some ⟨ob, oo, none⟩)) (ptr rb) (.pointer (some ⟨b, 0 + 0 + i * 1, none⟩)) (.pointer (some ⟨b, 0 + 0 + j * 1, none⟩)) (.bool mi) h1 K := by
      intro mi emi
      unfold S111_j1
      refine wk ?_
      refine bnd_of f0 ?_
      refine wk ?_
      refine ifV_cases (fun k3 => ?_) fun k3 => ?_
      · exact j2 mi true emi (by rw [decide_eq_true (.inl k3)])
      · refine wk ?_
        refine bnd_of f0 ?_
        refine wk ?_
        exact j2 mi _ emi (by rw [decide_eq_decide]; omega)
    refine wk ?_
    refine bnd_of la ?_
    refine wk ?_
    refine ifV_cases (fun c1 => ?_) fun c1 => ?_
    · exact j1 true (by rw [decide_eq_true (.inl c1)])
    · refine wk ?_
      refine bnd_of f0 ?_
      refine wk ?_
      refine ifV_cases (fun k4 => ?_) fun k4 => ?_
      · refine wk ?_
        refine bnd_of lb ?_
        refine wk ?_
        exact j1 _ (by rw [decide_eq_decide]; omega)
      · exact j1 false (by rw [decide_eq_false (by omega)])
end
end Go.Proofs.YtfphpafkhljncaaGreat
namespace Go.Proofs.YtfphpafkhljncaaGreat
open Go GW Go.Proofs
attribute [local irreducible] bnd ldV stV ifV binV eqI
set_option maxRecDepth 20000
theorem msC_len {s : MS} (g : s.good) : (msC s).length = 9 := by
  unfold msC; simp only [List.length_append, List.length_map]; rw [g.lb, g.lk]
section
variable {b ob oo : Nat} {R : List Part} {h : GH} {K : Value → GH → Prop} {s : MS} {o : Op}
theorem ms_ld2 {i : Nat} (hp : All (pts b (msRow s) :: R) h) (g : s.good) (hi : i < 5) : ldV 1 false (.pointer (some ⟨b, 0 + 4 + i * 1, none⟩)) h = some (.bool (s.ks.getD i false)) := by
  have hp : All (pts b (.row 115 (msC s) 9 true) :: R) h := hp
  rw [ldV_cell hp.pt0]
  have lb := g.lb
  have lk := g.lk
  unfold msC
  rw [show 0 + 4 + i * 1 = 4 + i by omega, List.getElem?_append_right (by rw [List.length_map]; omega), List.length_map, lb, Nat.add_sub_cancel_left, List.getElem?_map, List.getD_eq_getElem?_getD, List.getElem?_eq_getElem (by omega)]
  rfl
theorem ms_st2 {i : Nat} {x : Bool} {K : GH → Prop} (hp : All (pts b (msRow s) :: R) h) (g : s.good) (hi : i < 5) (k : ∀ h', All (pts b (msRow { s with ks := s.ks.set i x }) :: R) h' → K h') : bnd (stV 1 (.pointer (some ⟨b, 0 + 4 + i * 1, none⟩)) (.bool x) h) K := by
  have hp : All (pts b (.row 115 (msC s) 9 true) :: R) h := hp
  have lb := g.lb
  have lk := g.lk
  refine st0 hp (msRow { s with ks := s.ks.set i x }) rfl (by rw [msC_len g]; omega) rfl ?_ k
  show GObj.row _ ((msC s).set (0 + 4 + i * 1) (.bool x)) 9 true = GObj.row _ (msC { s with ks := s.ks.set i x }) 9 true
  unfold msC
  rw [show 0 + 4 + i * 1 = 4 + i by omega, List.set_append_right _ _ (by rw [List.length_map]; omega), List.length_map, lb, Nat.add_sub_cancel_left]
  simp only [List.map_set]
theorem T_mskip {i : Nat} (hp : All (pts b (msRow s) :: R) h) (g : s.good) (ha : o.a = i) (hi : i < 5) (b0 : 0 ≤ o.b) (b1 : o.b < 5) (k5 : 5 < o.kind) (k10 : o.kind ≤ 10) (op : ∀ h', All R h' → opAt h' ob oo o)
    (hK : ∀ h', All (pts b (msRow (s.skip o).2) :: R) h' → K (ansV (s.skip o).1) h') : T Tryz.prog 109 [ptr b, .pointer (some ⟨ob, oo, none⟩)] h K := by
  apply S109_T
  unfold S109
  have lk := g.lk
  refine nw hp (resRow (i64 0) (i64 0)) rfl fun rb h1 hp => ?_
  have opf := op _ hp.tail.tail
  have f0 : ldV 1 false (.pointer (some ⟨ob, oo + 0, none⟩)) h1 = some (i64 o.kind) := opf 0 _ rfl
  have f1 : ldV 1 false (.pointer (some ⟨ob, oo + 1, none⟩)) h1 = some (i64 o.a) := opf 1 _ rfl
  have f2 : ldV 1 false (.pointer (some ⟨ob, oo + 2, none⟩)) h1 = some (i64 o.b) := opf 2 _ rfl
  have hpb := hn (hp.up 1)
  have ret : ∀ {r : Answer × MS} {h'}, r = s.skip o → All (pts b (msRow r.2) :: pts rb (resRow (i64 0) (i64 0)) :: R) h' → bnd (stV 2 (ptr rb) (ansV r.1) h') fun h' => bnd (ldV 2 true (ptr rb) h') fun u => K u h' := by
    rintro r h' rfl hp
    exact retA (hn (hp.up 1)) fun h2 hp => hK _ hp
  clear hK
  have hr : s.skip o = s.skip o := rfl
  conv at hr => rhs; unfold MS.skip
  have eis : s.is o.a = s.ks.getD i false := by unfold MS.is; rw [ha]; rfl
  rw [eis, ha] at hr
  refine wk ?_
  refine bnd_of (ms_agg2 hpb g) ?_
  refine Lfp_fam (ι := Nat × Int × Int) (fun q => [ptr b, .pointer (some ⟨ob, oo, none⟩), ptr rb, i64 q.2.1, i64 q.2.2, .agg (s.ks.map Value.bool).toArray, i64 q.1]) (fun q h' => q.1 ≤ 5 ∧ ksBits (s.ks.drop q.1) q.1 o.a o.b q.2.1 = ksBits s.ks 0 o.a o.b 0 ∧ ksLeast (s.ks.drop q.1) q.1 q.2.2 = ksLeast s.ks 0 (-1) ∧ h' = h1) (fun q => 5 - q.1) ?_ (0, 0, -1) h1 ⟨by omega, rfl, rfl, rfl⟩
  rintro ⟨k, bits, least⟩ h2 X ⟨hk, e1, e2, hh⟩ again
  simp only at hk e1 e2 hh
  subst hh
  simp only [tup_zero, tup_succ]
  refine wk ?_
  refine ifV_cases (fun c => ?_) fun c => ?_
  · have hk5 : k < 5 := by omega
    refine bnd_of (ix_bool lk hk5) ?_
    have ed : s.ks.drop k = s.ks.getD k false :: s.ks.drop (k + 1) := by
      rw [List.drop_eq_getElem_cons (by omega), List.getD_eq_getElem?_getD, List.getElem?_eq_getElem (by omega)]; rfl
    rw [ed] at e1 e2
    rw [show ksBits (s.ks.getD k false :: s.ks.drop (k + 1)) k o.a o.b bits = ksBits (s.ks.drop (k + 1)) ((k : Int) + 1) o.a o.b (if s.ks.getD k false = true ∧ o.a ≤ (k : Int) ∧ (k : Int) ≤ o.b then bor bits (bshl k) else bits) from rfl] at e1
    rw [show ksLeast (s.ks.getD k false :: s.ks.drop (k + 1)) k least = ksLeast (s.ks.drop (k + 1)) ((k : Int) + 1) (if s.ks.getD k false = true ∧ least = -1 then (k : Int) else least) from rfl] at e2
    have ek : ((k + 1 : Nat) : Int) = (k : Int) + 1 := by omega
    have j1 : ∀ (isv : Bool) (bits' : Int) s6, isv = s.ks.getD k false → ksBits (s.ks.drop (k + 1)) ((k : Int) + 1) o.a o.b bits' = ksBits s.ks 0 o.a o.b 0 → S109_j1 s6 (ptr b) (.pointer (some ⟨ob, oo, none⟩)) (ptr rb) (i64 bits') (i64 least) (i64 k) (.bool isv) (.agg (s.ks.map Value.bool).toArray) (i64 k) h2 K X := by
      intro isv bits' s6 eis e3
      rw [eis]
      unfold S109_j1
      cases hk : s.ks.getD k false with
      | true =>
        rw [hk] at e2
        refine wk ?_
        refine ifV_cases (fun c2 => ?_) fun c2 => ?_
        · rw [if_pos ⟨rfl, c2⟩] at e2
          refine wk ?_
          have := again (k + 1, bits', k) h2 ⟨by simp only; omega, by simp only [ek]; exact e3, by simp only [ek]; exact e2, rfl⟩ (by simp only; omega)
          exact this
        · rw [if_neg (fun z => c2 z.2)] at e2
          refine wk ?_
          have := again (k + 1, bits', least) h2 ⟨by simp only; omega, by simp only [ek]; exact e3, by simp only [ek]; exact e2, rfl⟩ (by simp only; omega)
          exact this
      | false =>
        rw [hk, if_neg (by simp)] at e2
        refine wk ?_
        have := again (k + 1, bits', least) h2 ⟨by simp only; omega, by simp only [ek]; exact e3, by simp only [ek]; exact e2, rfl⟩ (by simp only; omega)
        exact this
    cases hk : s.ks.getD k false with
    | false =>
      rw [hk, if_neg (by simp)] at e1
      refine wk ?_
      exact j1 false bits _ hk.symm e1
    | true =>
      rw [hk] at e1
      refine wk ?_
      refine bnd_of f1 ?_
      refine wk ?_
      refine ifV_cases (fun c2 => ?_) fun c2 => ?_
      · refine wk ?_
        refine bnd_of f2 ?_
        refine wk ?_
        refine ifV_cases (fun c3 => ?_) fun c3 => ?_
        · rw [if_pos ⟨rfl, by omega, c3⟩] at e1
          refine bnd_of (shl_one (by omega) .i64) (bnd_of (or_bor _ _) ?_)
          exact j1 true (bor bits (bshl k)) _ hk.symm e1
        · rw [if_neg (fun z => c3 z.2.2)] at e1
          exact j1 true bits _ hk.symm e1
      · rw [if_neg (fun z => by have := z.2.1; omega)] at e1
        exact j1 true bits _ hk.symm e1
  · obtain rfl : k = 5 := by omega
    have e1 : bits = ksBits s.ks 0 o.a o.b 0 := by rw [← e1, List.drop_of_length_le (by omega)]; rfl
    have e2 : least = ksLeast s.ks 0 (-1) := by rw [← e2, List.drop_of_length_le (by omega)]; rfl
    rw [ha] at e1
    rw [← e1, ← e2] at hr
    clear again
    have l2 := ms_ld2 hpb g hi
    have j4 : ∀ s6 a8, o.kind = 6 ∧ s.ks.getD i false = false ∨ o.kind = 7 ∧ s.ks.getD i false = true → S109_j4 s6 (ptr b) (.pointer (some ⟨ob, oo, none⟩)) (ptr rb) h2 K a8 := by
      intro s6 a8 hc
      unfold S109_j4
      have op2 : ∀ {s1 h'}, All (pts b (msRow s1) :: pts rb (resRow (i64 0) (i64 0)) :: R) h' → ldV 1 false (.pointer (some ⟨ob, oo + 1, none⟩)) h' = some (i64 o.a) := fun hp => op _ hp.tail.tail 1 _ rfl
      refine wk ?_
      refine bnd_of f1 ?_
      refine wk ?_
      refine bnd_of f0 ?_
      refine bnd_of (eqI_int _ _ _) ?_
      refine wk ?_
      rw [ha]
      refine bnd_of (iaV_at hi .i64) ?_
      refine ms_st2 hpb g hi fun h3 hp => ?_
      refine wk ?_
      refine bnd_of (op2 hp) ?_
      refine T_mdlDone ?_
      refine ret (r := (⟨0, o.a⟩, { s with ks := s.ks.set i (decide (o.kind = 6)) })) ?_ hp
      rw [hr, ha]
      rcases hc with ⟨c1, c2⟩ | ⟨c1, c2⟩
      · rw [if_neg (by omega), if_neg (by omega), if_neg (by omega), if_pos c1, if_neg (by rw [c2]; decide), decide_eq_true c1]
        rfl
      · rw [if_neg (by omega), if_neg (by omega), if_neg (by omega), if_neg (by omega), if_pos c2, decide_eq_false (by omega)]
        rfl
    have j3 : ∀ (mi : Bool) s6 a8, mi = decide (o.kind = 9 ∧ least = -1 ∨ o.kind = 7 ∧ s.ks.getD i false = false) → S109_j3 s6 (ptr b) (.pointer (some ⟨ob, oo, none⟩)) (ptr rb) (i64 bits) (i64 least) (.bool (s.ks.getD i false)) (.bool mi) h2 K a8 := by
      intro mi s6 a8 emi
      unfold S109_j3
      cases mi with
      | true =>
        have q := of_decide_eq_true emi.symm
        refine wk ?_
        refine T_mdlCode ?_
        refine ret (r := (⟨2, 0⟩, s)) ?_ hpb
        rw [hr]
        rcases q with ⟨c1, c2⟩ | ⟨c1, c2⟩
        · rw [if_pos c1, if_pos c2]
        · rw [if_neg (by omega), if_neg (by omega), if_neg (by omega), if_neg (by omega), if_neg (by rw [c2]; decide)]
      | false =>
        have q := of_decide_eq_false emi.symm
        refine wk ?_
        refine bnd_of f0 ?_
        refine wk ?_
        refine ifV_cases (fun k9 => ?_) fun k9 => ?_
        · refine T_mdlDone ?_
          refine ret (r := (⟨0, least⟩, s)) ?_ hpb
          rw [hr, if_pos k9, if_neg (fun z => q (.inl ⟨k9, z⟩))]
        refine wk ?_
        refine bnd_of f0 ?_
        refine wk ?_
        refine ifV_cases (fun k10' => ?_) fun k10' => ?_
        · refine T_mdlDone ?_
          refine ret (r := (⟨0, bits⟩, s)) ?_ hpb
          rw [hr, if_neg k9, if_neg (by omega), if_pos k10']
        refine wk ?_
        refine bnd_of f0 ?_
        refine wk ?_
        refine ifV_cases (fun k8 => ?_) fun k8 => ?_
        · rw [if_neg k9, if_pos k8] at hr
          cases his : s.ks.getD i false with
          | true =>
            rw [his] at hr
            refine wk ?_
            refine T_mdlDone ?_
            exact ret hr.symm hpb
          | false =>
            rw [his] at hr
            refine wk ?_
            refine T_mdlDone ?_
            exact ret hr.symm hpb
        refine wk ?_
        refine bnd_of f0 ?_
        refine wk ?_
        refine ifV_cases (fun k6 => ?_) fun k6 => ?_
        · cases his : s.ks.getD i false with
          | true =>
            refine wk ?_
            refine T_mdlCode ?_
            refine ret (r := (⟨1, 0⟩, s)) ?_ hpb
            rw [hr, if_neg k9, if_neg k8, if_neg k10', if_pos k6, if_pos his]
          | false =>
            refine wk ?_
            exact j4 _ _ (.inl ⟨k6, his⟩)
        · refine j4 _ _ (.inr ⟨by omega, ?_⟩)
          cases his : s.ks.getD i false with
          | true => rfl
          | false => exact absurd (.inr ⟨by omega, his⟩) q
    have j2 : ∀ (mi : Bool) s6 a8, mi = decide (o.kind = 9 ∧ least = -1) → S109_j2 s6 (ptr b) (.pointer (some ⟨ob, oo, none⟩)) (ptr rb) (i64 bits) (i64 least) (.bool (s.ks.getD i false)) (.bool mi) h2 K a8 := by
      intro mi s6 a8 emi
      unfold S109_j2
      cases mi with
      | true =>
        have q := of_decide_eq_true emi.symm
        refine wk ?_
        exact j3 true _ _ (by rw [decide_eq_true (.inl q)])
      | false =>
        have q := of_decide_eq_false emi.symm
        refine wk ?_
        refine bnd_of f0 ?_
        refine wk ?_
        refine ifV_cases (fun k7 => ?_) fun k7 => ?_
        · cases his : s.ks.getD i false with
          | true =>
            refine wk ?_
            have := j3 false s6 a8 (by rw [decide_eq_false]; rintro (z | z); exact q z; rw [his] at z; cases z.2)
            rw [his] at this
            exact this
          | false =>
            refine wk ?_
            have := j3 true s6 a8 (by rw [decide_eq_true (.inr ⟨k7, his⟩)])
            rw [his] at this
            exact this
        · exact j3 false _ _ (by rw [decide_eq_false]; rintro (z | z); exact q z; exact k7 z.1)
    refine wk ?_
    refine bnd_of f1 ?_
    refine wk ?_
    rw [ha]
    refine bnd_of (iaV_at hi .i64) ?_
    refine bnd_of l2 ?_
    refine wk ?_
    refine bnd_of f0 ?_
    refine wk ?_
    refine ifV_cases (fun k9 => ?_) fun k9 => ?_
    · refine wk ?_
      exact j2 _ _ _ (by rw [decide_eq_decide]; exact ⟨fun z => ⟨k9, z⟩, fun z => z.2⟩)
    · exact j2 false _ _ (by rw [decide_eq_false]; exact fun z => k9 z.1)
end
end Go.Proofs.YtfphpafkhljncaaGreat
namespace Go.Proofs.YtfphpafkhljncaaGreat
open Go GW Go.Proofs
attribute [local irreducible] bnd ldV stV ifV binV eqI
set_option maxRecDepth 20000
theorem MS.one_good {s : MS} {o : Op} (g : s.good) (m : o.may = true) : (s.one o).2.good := by
  unfold MS.one
  split
  · exact MS.bank_good g (Op.may_bk m (by assumption))
  · exact MS.skip_good g
section
variable {b : Nat} {R : List Part} {h : GH} {K : Value → GH → Prop} {s : MS} {o : Op}
theorem ms_load (hp : All (pts b (msRow s) :: R) h) (g : s.good) : ldV 9 true (.pointer (some ⟨b, 0, none⟩)) h = some (.agg (msC s).toArray) := by
  have hp : All (pts b (.row 115 (msC s) 9 true) :: R) h := hp
  rw [ldV_agg hp.pt0 9 0 (by rw [msC_len g]; omega), List.drop_zero, List.take_of_length_le (by rw [msC_len g]; omega)]
theorem ms_one (s : MS) : ((Value.agg (msC s).toArray).cells.toList.all oneCell) = true := by
  refine List.all_eq_true.2 fun v hv => ?_
  have hv : v ∈ msC s := hv
  unfold msC at hv
  rcases List.mem_append.1 hv with q | q
  · obtain ⟨y, _, rfl⟩ := List.mem_map.1 q; rfl
  · obtain ⟨y, _, rfl⟩ := List.mem_map.1 q; rfl
theorem ms_store {u : MS} {K : GH → Prop} (hp : All (pts b (msRow u) :: R) h) (gu : u.good) (g : s.good) (k : ∀ h', All (pts b (msRow s) :: R) h' → K h') : bnd (stV 9 (.pointer (some ⟨b, 0, none⟩)) (.agg (msC s).toArray) h) K := by
  have hp : All (pts b (.row 115 (msC u) 9 true) :: R) h := hp
  refine st0 hp (msRow s) (by show (msC s).toArray.size = 9; simp [msC_len g]) (by rw [msC_len gu]; omega) (ms_one s) ?_ k
  show GObj.row _ (setCells (msC u) 0 (msC s)) 9 true = GObj.row _ (msC s) 9 true
  rw [setCells_all (by rw [msC_len g, msC_len gu])]
theorem ms_nwst {K : Value → GH → Prop} (hp : All R h) (g : s.good) (k : ∀ d h', All (pts d (msRow s) :: R) h' → K (ptr d) h') : newV 115 [i64 0, i64 0, i64 0, i64 0, .bool false, .bool false, .bool false, .bool false, .bool false] h fun v h1 => bnd (stV 9 v (.agg (msC s).toArray) h1) fun h2 => K v h2 := by
  refine nwst hp (msRow s) (by show (msC s).toArray.size = 9; simp [msC_len g]) rfl (ms_one s) ?_ k
  rfl
theorem T_modelNew (hp : All R h) (hK : ∀ h', All R h' → K (.agg (msC MS.new).toArray) h') : T Tryz.prog 73 [] h K := by
  apply S73_T
  unfold S73
  refine nw hp (msRow ⟨[0, 0, 0, 0], [false, false, false, false, false]⟩) rfl fun d h1 hp => ?_
  refine nw hp (msRow ⟨[0, 0, 0, 0], [false, false, false, false, false]⟩) rfl fun e h2 hp => ?_
  have g0 : ∀ i, i ≤ 4 → MS.good ⟨List.replicate i (-1) ++ List.replicate (4 - i) 0, [false, false, false, false, false]⟩ := fun i hi => by
    refine ⟨by simp only [List.length_append, List.length_replicate]; omega, rfl, fun j hj => ?_⟩
    rw [List.getD_eq_getElem?_getD]
    cases hg : (List.replicate i (-1 : Int) ++ List.replicate (4 - i) 0)[j]? with
    | none => exact ⟨by decide, by decide⟩
    | some z =>
      rcases List.mem_append.1 (List.mem_of_getElem? hg) with q | q
      · rw [List.eq_of_mem_replicate q]; exact ⟨by decide, by decide⟩
      · rw [List.eq_of_mem_replicate q]; exact ⟨by decide, by decide⟩
  refine Lfp_fam (ι := Nat) (fun i => [ptr d, ptr e, i64 i]) (fun i h' => i ≤ 4 ∧ All (pts e (msRow ⟨List.replicate i (-1) ++ List.replicate (4 - i) 0, [false, false, false, false, false]⟩) :: pts d (msRow ⟨[0, 0, 0, 0], [false, false, false, false, false]⟩) :: R) h') (fun i => 4 - i) ?_ 0 h2 ⟨Nat.zero_le _, hp⟩
  clear hp
  rintro i h3 X ⟨hi, hp⟩ again
  simp only [tup_zero, tup_succ]
  refine wk ?_
  refine ifV_cases (fun c => ?_) fun c => ?_
  · have hi4 : i < 4 := by omega
    refine wk ?_
    refine bnd_of (iaV_at hi4 .i64) ?_
    refine ms_st (x := -1) hp (g0 i hi) hi4 fun h4 hp => ?_
    refine wk ?_
    have e1 : (MS.put ⟨List.replicate i (-1) ++ List.replicate (4 - i) 0, [false, false, false, false, false]⟩ i (-1)) = ⟨List.replicate (i + 1) (-1) ++ List.replicate (4 - (i + 1)) 0, [false, false, false, false, false]⟩ := by
      have : i = 0 ∨ i = 1 ∨ i = 2 ∨ i = 3 := by omega
      rcases this with rfl | rfl | rfl | rfl <;> rfl
    rw [e1] at hp
    exact again (i + 1) _ ⟨by omega, hp⟩ (by omega)
  · obtain rfl : i = 4 := by omega
    have hp : All (pts e (msRow MS.new) :: pts d (msRow ⟨[0, 0, 0, 0], [false, false, false, false, false]⟩) :: R) h3 := hp
    refine bnd_of (ms_load hp MS.new_good) ?_
    refine ms_store (hn (hp.up 1)) (g0 0 (by omega)) MS.new_good fun h4 hp => ?_
    refine bnd_of (ms_load hp MS.new_good) ?_
    exact hK _ hp.tail.tail
theorem T_modelMay (hp : All (pts b (msRow s) :: R) h) (g : s.good) (hK : K (.bool true) h) : T Tryz.prog 107 [ptr b] h K := by
  apply S107_T
  unfold S107
  have lb := g.lb
  refine wk ?_
  refine bnd_of (ms_agg hp g) ?_
  refine Lfp_fam (ι := Nat) (fun i => [.agg (s.b.map i64).toArray, i64 i]) (fun i h' => i ≤ 4 ∧ h' = h) (fun i => 4 - i) ?_ 0 h ⟨Nat.zero_le _, rfl⟩
  rintro i h2 X ⟨hi, rfl⟩ again
  simp only [tup_zero, tup_succ]
  refine wk ?_
  refine ifV_cases (fun c => ?_) fun c => hK
  have hi4 : i < 4 := by omega
  have gb := g.bal i hi4
  refine bnd_of (ix_int lb hi4) ?_
  refine wk ?_
  refine ifV_n (by omega) ?_
  refine wk ?_
  refine ifV_n (by omega) ?_
  refine wk ?_
  exact again (i + 1) _ ⟨by omega, rfl⟩ (by omega)
theorem T_modelDo {sv : Value} {ops : List Op} (hp : All R h) (g : s.good) (hs : ∀ h', All R h' → rowsAt h' 4 sv (ops.map Op.enc)) (m : Txn.may ops = true)
    (hK : ∀ u h', All (rowP 2 u ((s.do_ ops).2.map Answer.enc) :: R) h' → K (.tuple #[.agg (msC (s.do_ ops).1).toArray, u, i64 0]) h') : T Tryz.prog 74 [.agg (msC s).toArray, sv] h K := by
  apply S74_T
  unfold S74
  have mm := Txn.may_mem m
  have hlen : lnV sv = some (i64 ops.length) := by have := (hs _ hp).len; rw [List.length_map] at this; exact this
  have hol : ops.length ≤ 2 := by
    unfold Txn.may at m
    simp only [Bool.and_eq_true, decide_eq_true_eq] at m
    omega
  have gz : MS.good ⟨[0, 0, 0, 0], [false, false, false, false, false]⟩ := ⟨rfl, rfl, fun i hi => by
    have : ∀ k : Fin 4, -1 ≤ ([0, 0, 0, 0] : List Int).getD k.val 0 ∧ ([0, 0, 0, 0] : List Int).getD k.val 0 ≤ 1048575 := by decide
    exact this ⟨i, hi⟩⟩
  refine nw hp (msRow s) (by show GObj.row _ (msC s) (msC s).length true = GObj.row _ (msC s) 9 true; rw [msC_len g]) fun d h1 hp => ?_
  refine nw hp (msRow ⟨[0, 0, 0, 0], [false, false, false, false, false]⟩) rfl fun e h2 hp => ?_
  refine T_modelMay (hn (hp.up 1)) g ?_
  refine wk ?_
  refine T_OpsMay (hs _ hp.tail.tail) ?_
  rw [m]
  refine wk ?_
  unfold S74_j1
  refine bnd_of (ms_load (hn (hp.up 1)) g) ?_
  refine ms_nwst hp g fun f h3 hp => ?_
  refine bnd_of hlen ?_
  have z0 := hp.emp_cons (P := rowP 2 (.slice none 0 0) []) (rowP_nil 2 _)
  refine Lfp_fam (ι := Nat × MS × List Answer × Value) (fun q => [sv, ptr d, ptr e, ptr f, q.2.2.2, i64 ops.length, i64 q.1]) (fun q h' => q.1 ≤ ops.length ∧ q.2.1.good ∧ q.2.2.1.length = q.1 ∧ s.doFrom (ops.drop q.1) q.2.1 q.2.2.1 = s.do_ ops ∧ All (rowP 2 q.2.2.2 (q.2.2.1.map Answer.enc) :: pts f (msRow q.2.1) :: pts e (msRow ⟨[0, 0, 0, 0], [false, false, false, false, false]⟩) :: pts d (msRow s) :: R) h') (fun q => ops.length - q.1) ?_ (0, s, [], .slice none 0 0) h3 ⟨by omega, g, rfl, rfl, z0⟩
  clear hp z0
  rintro ⟨i, t, rs, av⟩ h4 X ⟨hi, gt, hrl, hd, hp⟩ again
  simp only at hi gt hrl hd hp
  simp only [tup_zero, tup_succ]
  refine wk ?_
  refine ifV_cases (fun c => ?_) fun c => ?_
  · have hi2 : i < ops.length := by omega
    obtain ⟨o, ho⟩ : ∃ o, ops[i]? = some o := ⟨_, List.getElem?_eq_getElem hi2⟩
    have mo := mm o (List.mem_of_getElem? ho)
    have hx : ∀ {h'} {P1 P2 P3 P4 : Part}, All (P1 :: P2 :: P3 :: P4 :: R) h' → rowsAt h' 4 sv (ops.map Op.enc) := fun hp => hs _ hp.tail.tail.tail.tail
    obtain ⟨b0, o0, j1, j2, _⟩ := (hx hp).fld (i := i) (c := o.enc) (by rw [List.getElem?_map, ho]; rfl) .i64
    have opat : ∀ {h'}, rowsAt h' 4 sv (ops.map Op.enc) → opAt h' b0 o0 o := fun r => by
      obtain ⟨b1, o1, k1, k2, _⟩ := r.fld (i := i) (c := o.enc) (by rw [List.getElem?_map, ho]; rfl) .i64
      rw [j1] at k1
      cases k1
      exact fun j v e => k2 j v e
    refine bnd_of j1 ?_
    refine wk ?_
    refine bnd_of (j2 0 (i64 o.kind) rfl) ?_
    have kk := Op.may_kind mo
    refine T_cOfBank kk.1 ?_
    have ed : ops.drop i = o :: ops.drop (i + 1) := by
      rw [List.drop_eq_getElem_cons hi2]
      rw [List.getElem?_eq_getElem hi2] at ho
      cases ho; rfl
    rw [ed] at hd
    unfold MS.doFrom at hd
    have fin : ∀ (r : Answer × MS) (h' : GH), r = t.one o → All (pts f (msRow r.2) :: rowP 2 av (rs.map Answer.enc) :: pts e (msRow ⟨[0, 0, 0, 0], [false, false, false, false, false]⟩) :: pts d (msRow s) :: R) h' →
        newV 122 [(.int .i64 0), (.int .i64 0)] h' fun v4 h5 =>
        bnd (stV 2 v4 (ansV r.1) h5) fun h6 =>
        bnd (ldV 2 true v4 h6) fun v7 =>
        bsV 122 1 [(.int .i64 0), (.int .i64 0)] [(0, 2, v7)] h6 fun v8 h9 =>
        apV 122 2 16 av v8 h9 fun v10 h11 =>
        bnd (faV 0 v4) fun v12 =>
        bnd (ldV 1 false v12 h11) fun v13 =>
        bnd (eqI v13 (.int .i64 0)) fun b14 =>
        ifV (.bool (!b14)) (
        bnd (ldV 9 true (ptr d) h11) fun v15 =>
        bnd (stV 9 (ptr e) v15 h11) fun h16 =>
        bnd (ldV 9 true (ptr e) h16) fun v17 =>
        K (.tuple #[v17, v10, (.int .i64 0)]) h16) (
        bnd (binV .add (i64 i) (.int .i64 1)) fun v18 =>
        X (tup [sv, ptr d, ptr e, ptr f, v10, i64 ops.length, v18]) h11) := by
      intro r h' hr hp
      rw [← hr] at hd
      have g1 : r.2.good := by rw [hr]; exact MS.one_good gt mo
      obtain ⟨⟨cd, nm⟩, t1⟩ := r
      simp only at hp hd g1 ⊢
      refine nwst hp (resRow (i64 cd) (i64 nm)) rfl rfl rfl rfl fun ab h6 hp => ?_
      refine la0 hp (c := [i64 cd, i64 nm]) (Nat.le_refl 2) rfl ?_
      refine bs0 (size := 2) hp [[i64 cd, i64 nm]] rfl rfl (by simp) (fun c hc => by rw [List.mem_singleton.1 hc]; exact ⟨rfl, rfl⟩) fun u h7 hp => ?_
      have r2 := All.rows hp
      refine ap0 (hn (hp.up 3)) r2 (fun c hc => by rw [List.mem_singleton.1 hc]; exact ⟨rfl, rfl⟩) (by decide) (by simp only [List.length_map, List.length_cons, List.length_nil]; omega) fun av' h8 hp => ?_
      have em : rs.map Answer.enc ++ [[i64 cd, i64 nm]] = (rs ++ [(⟨cd, nm⟩ : Answer)]).map Answer.enc := by rw [List.map_append]; rfl
      rw [em] at hp
      replace hp := hn (hp.re 6 [2, 0, 3, 4, 5])
      refine wk ?_
      refine ifN_cases (fun c0 => ?_) fun c0 => ?_
      · rw [if_neg c0] at hd
        refine bnd_of (ms_load (hn (hp.up 4)) g) ?_
        refine ms_store (hn (hp.up 3)) gz g fun h9 hp => ?_
        refine bnd_of (ms_load hp g) ?_
        have := hK av' h9 (by rw [← hd]; exact hn (hp.re 5 [2]))
        rw [← hd] at this
        exact this
      · rw [if_pos c0] at hd
        refine wk ?_
        exact again (i + 1, t1, rs ++ [⟨cd, nm⟩], av') _ ⟨by simp only; omega, g1, by simp [hrl], hd, hn (hp.re 5 [1, 2, 3, 4])⟩ (by simp only; omega)
    refine ifV_cases (fun c5 => ?_) fun c5 => ?_
    · obtain ⟨⟨a0, a1⟩, ⟨b0', b1'⟩, x0, x1⟩ := Op.may_bk mo c5
      obtain ⟨ia, hia⟩ := Int.eq_ofNat_of_zero_le a0
      obtain ⟨ib, hib⟩ := Int.eq_ofNat_of_zero_le b0'
      unfold S74_j2
      refine bnd_of j1 ?_
      show T Tryz.prog 111 [ptr f, .pointer (some ⟨b0, o0, none⟩)] h4 _
      refine T_mbank (hn (hp.up 1)) gt hia hib (by omega) (by omega) x0 (by omega) kk.1 c5 (fun h' hp => opat (hs _ hp.tail.tail.tail)) fun h5 hp => ?_
      have e1 : t.bank o = t.one o := by unfold MS.one; rw [if_pos c5]
      rw [e1] at hp ⊢
      exact fin _ _ rfl hp
    · have sk := skOps_mem mo (by omega)
      obtain ⟨ia, hia⟩ := Int.eq_ofNat_of_zero_le sk.2.1
      have ob : 0 ≤ o.b ∧ o.b < 5 := by
        have all : ∀ o ∈ skOps, 0 ≤ o.b ∧ o.b < 5 := by decide
        exact all o sk.1
      unfold S74_j2
      refine bnd_of j1 ?_
      show T Tryz.prog 109 [ptr f, .pointer (some ⟨b0, o0, none⟩)] h4 _
      refine T_mskip (hn (hp.up 1)) gt hia (by have := sk.2.2; omega) ob.1 ob.2 (by omega) (by omega) (fun h' hp => opat (hs _ hp.tail.tail.tail)) fun h5 hp => ?_
      have e1 : t.skip o = t.one o := by unfold MS.one; rw [if_neg c5]
      rw [e1] at hp ⊢
      exact fin _ _ rfl hp
  · obtain rfl : i = ops.length := by omega
    rw [List.drop_length] at hd
    have hd : (t, rs) = s.do_ ops := hd
    clear again
    refine bnd_of (ms_load (hn (hp.up 1)) gt) ?_
    refine ms_store (hn (hp.up 2)) gz gt fun h5 hp => ?_
    refine bnd_of (ms_load hp gt) ?_
    have := hK av h5 (by rw [← hd]; exact hn (hp.re 4 [1]))
    rw [← hd] at this
    exact this
end
end Go.Proofs.YtfphpafkhljncaaGreat
namespace Go.Proofs.YtfphpafkhljncaaGreat
open Go GW Go.Proofs
attribute [local irreducible] bnd ldV stV ifV binV eqI
set_option maxRecDepth 20000
theorem F0_img : Img F0 MS.new := by
  have q := newAr_qt 0
  have f4 : ∀ k : Fin 4, F0.n.getD k.val 0 = MS.new.b.getD k.val 0 + 1 ∧ -1 ≤ MS.new.b.getD k.val 0 ∧ MS.new.b.getD k.val 0 ≤ 1048575 := by decide +kernel
  exact ⟨q.mem.fl, q.fok, rfl, rfl, fun i hi => f4 ⟨i, hi⟩, [false, false, false, false, false], rfl, rfl, by decide +kernel⟩
theorem TGo.short {p : Int} {x : Th} {A : Ar} {L : List Int} {n : Nat} {y : Th} {B : Ar} {M : List Int} (g : TGo p x A L n y B M) : x.ok → A.ok → 0 ≤ p → Short x.evs → Short y.evs := by
  induction g with
  | refl => intro _ _ _ h; exact h
  | @step p x A L n y B M z C N h s _ ih =>
    intro h1 h2 hp hs
    have so := Th.step_ok (L := L) (pick := p) h1 h2 hp
    have ss := Th.step_short (A := A) (L := L) (pick := p) h1 hs
    rw [h] at so ss
    exact ih so.1 so.2 (by omega) ss
theorem Evr.le {id : Int} {F : Vw} {p : Int} {i : Nat} {ts : List (List Op)} {es : List Event} {F' : Vw} {p' : Int} (e : Evr id F p i ts es F' p') : p ≤ p' ∧ es.length = ts.length := by
  induction e with
  | nil => exact ⟨Int.le_refl _, rfl⟩
  | cons h _ ih => exact ⟨by omega, by simp [ih.2]⟩
theorem Evr.inv {id : Int} {F : Vw} {p : Int} {i : Nat} {t : List Op} {ts : List (List Op)} {e : Event} {es : List Event} {F' : Vw} {p' : Int} (v : Evr id F p i (t :: ts) (e :: es) F' p') :
    ∃ n : Nat, 2 ≤ n ∧ e = ⟨id, i, p, -1, p + n - 1, 0, 1, (F.do_ t).ans⟩ ∧ Evr id (F.do_ t).view (p + n) (i + 1) ts es F' p' := by
  cases v with
  | cons h r => exact ⟨_, h, rfl, r⟩
section
variable {h g : GH} {K : Value → GH → Prop} {tsv : Value} {cs0 : List (List Value)} {ts : List (List Op)} {pol : Bool}
theorem T_ThreadAlone (hp : All [baseP g] h) (ht : tv1 tsv cs0 ts g) (hK : ∀ h', K (.bool true) h') : T Tryz.prog 23 [tsv, .bool pol] h K := by
  apply S23_T
  unfold S23
  have hvl : lnV tsv = some (i64 ts.length) := by have := ht.1.len; rw [ht.2.1] at this; exact this
  refine T_tawake hp fun h1 hp => ?_
  refine wk ?_
  refine T_arenaNew hp fun a h2 hp => ?_
  have tvh : ∀ {h' : GH}, HLe g h' → tv1 tsv cs0 ts h' := fun l => ⟨ht.1.le l, ⟨ht.2.1, fun i x y hx hy => by
    obtain ⟨w, e1, e2⟩ := ht.2.2 i x y hx hy
    exact ⟨w, e1, e2.le l⟩⟩⟩
  refine T_thNew hp (fun h' hp => tvh (All.baseLe hp.tail)) (fun hm h3 hp => ?_) fun hm b h3 hp => ?_
  · refine wk ?_
    refine T_Num ?_
    refine wk ?_
    unfold S23_j1
    refine wk ?_
    exact hK _
  have hmay := thrMay_spec hm.2.2.2
  refine wk ?_
  refine T_Num ?_
  refine wk ?_
  unfold S23_j1
  refine wk ?_
  unfold S23_j2
  refine nw hp (lvRow 36 12 [] (List.replicate 12 0) []) rfl fun lb h6 hp => ?_
  replace hp := hn (hp.re 3 [2, 0, 1])
  have ox0 := Th.new_ok (pol := pol) hm
  have z0 : ∀ i : Nat, (List.replicate 12 (0 : Int)).getD i 0 = 0 := fun i => by
    rw [List.getD_eq_getElem?_getD]
    cases e : (List.replicate 12 (0 : Int))[i]? with
    | none => rfl
    | some x => exact List.eq_of_mem_replicate (List.mem_of_getElem? e)
  obtain ⟨N, xe, Ae, Me, F', fr', c', e', es, g0, n1, de, oe, re_, le_, qe, _, _, me, _, _, ee, ev, _⟩ := q_all ts.length (x := Th.new 0 1 1 pol ts) (A := newAr) (L := List.replicate 12 0) (F := F0) (fr := twelve) (c := 0) (e := 0) (p := 0) (by show ts.length = 0 + ts.length; omega) ox0 Th.new_rst (.nil 0) (newAr_qt 0) (by omega) (by omega) ⟨rfl, fun i => by rw [z0]; omega⟩ (by show 3 ≤ 12 + 0; decide) (Int.le_refl 0)
  have ee : xe.evs = es := ee
  have ev : Evr 0 F0 0 0 ts es F' (0 + N) := ev
  have she : Short xe.evs := g0.short ox0 newAr_ok (Int.le_refl 0) fun e h => by cases h
  have g0 : TGo (((0 : Nat)) : Int) _ _ _ N xe Ae Me := g0
  refine Lfp_fam (ι := Nat × Nat × Th × Ar × List Int) (fun q => [tsv, ptr a, ptr b, ptr lb, i64 q.1]) (fun q h' => q.1 + q.2.1 = N ∧ TGo q.1 q.2.2.1 q.2.2.2.1 q.2.2.2.2 q.2.1 xe Ae Me ∧ q.2.2.1.ok ∧ q.2.2.1.una ∧ (q.2.2.2.2.length = 12 ∧ ∀ y ∈ q.2.2.2.2, 0 ≤ y ∧ y ≤ q.1) ∧
    All (arP 138 a q.2.2.2.1 :: pts lb (lvRow 36 12 [] q.2.2.2.2 []) :: thP b q.2.2.1 :: [baseP g]) h') (fun q => q.2.1) ?_ (0, N, Th.new 0 1 1 pol ts, newAr, List.replicate 12 0) h6 ⟨by simp, g0, ox0, Th.new_una, ⟨rfl, fun y hy => by rw [List.eq_of_mem_replicate (n := 12) hy]; exact ⟨Int.le_refl 0, Int.le_refl 0⟩⟩, hp⟩
  clear hp g0
  rintro ⟨i, n, x, A, L⟩ h7 X ⟨hin, gx, ox, ux, hL, hp⟩ again
  simp only at hin gx ox ux hL hp
  simp only [tup_zero, tup_succ]
  have h8 := hmay.1
  have hA := (arP.at hp).2
  refine wk ?_
  refine ifV_cases (fun c1 => ?_) fun c1 => by exfalso; omega
  refine T_thDone (hn (hp.up 2)) ox.evs8 ?_
  cases n with
  | succ n =>
    have hbusy := gx.busy (by omega) ux
    rw [hbusy]
    refine wk ?_
    unfold S23_j3
    have up := Th.step_una (A := A) (L := L) (pick := i) ox ux
    refine T_thStep (pre := []) (post := []) hp ox ⟨hL.1, fun y hy => by have := hL.2 y hy; omega⟩ (by omega) fun h10 hp => ?_
    have lk := Th.step_lok (A := A) (x := x) (L := L) (pick := i) (N := i) (by omega) hL
    cases gx with
    | @step _ _ _ _ _ y B M _ _ _ st sp gy =>
    rw [st] at hp up lk ⊢
    simp only at hp up lk ⊢
    have oy := TGo.ok (TGo.one st sp) ox hA (by omega)
    refine wk ?_
    refine T_Num ?_
    refine wk ?_
    exact again (i + 1, n, y, B, M) _ ⟨by simp only; omega, by simp only; rw [show ((i + 1 : Nat) : Int) = (i : Int) + 1 by omega]; exact gy, oy.1, up, ⟨lk.1, fun y hy => by have := lk.2 y hy; simp only; omega⟩, hp⟩ (by simp only; omega)
  | zero =>
    obtain ⟨rfl, rfl, rfl⟩ : x = xe ∧ A = Ae ∧ L = Me := by
      generalize hq : (i : Int) = q at gx
      cases gx
      exact ⟨rfl, rfl, rfl⟩
    rw [de]
    clear again
    refine wk ?_
    unfold S23_j4
    refine T_thEvents (hn (hp.up 2)) ox.evs8 she fun evv h8 hp => ?_
    refine T_thDone (hn (hp.up 1)) ox.evs8 ?_
    rw [de]
    rw [ee] at hp
    have elen := ev.le.2
    refine wk ?_
    have el : lnV evv = some (i64 es.length) := evP_len (evoP_evs hp)
    refine bnd_of el (bnd_of hvl ?_)
    refine wk ?_
    rw [decide_eq_true (by omega)]
    refine wk ?_
    unfold S23_j5
    refine T_modelNew hp fun h9 hp => ?_
    refine ms_nwst hp MS.new_good fun sb h10 hp => ?_
    refine evoP_open (hn (hp.up 1)) fun ws hl hp => ?_
    refine Lfp_fam (ι := Nat × Vw × MS × Int) (fun q => [tsv, ptr a, ptr b, ptr lb, evv, ptr sb, i64 (q.2.2.2 - 1), i64 q.1]) (fun q h' => q.1 ≤ es.length ∧ Img q.2.1 q.2.2.1 ∧ 0 ≤ q.2.2.2 ∧ Evr 0 q.2.1 q.2.2.2 q.1 (ts.drop q.1) (es.drop q.1) F' (0 + N) ∧ All (pts sb (msRow q.2.2.1) :: rowP 8 evv (evCs es ws) :: All (ansO ws es) :: thP b x :: arP 138 a A :: pts lb (lvRow 36 12 [] L []) :: [baseP g]) h') (fun q => es.length - q.1) ?_ (0, F0, MS.new, 0) h10 ⟨by omega, F0_img, Int.le_refl 0, ev, hn (hp.re 3 [2, 0, 1])⟩
    clear hp
    rintro ⟨k, F, s, p⟩ h11 Y ⟨hk, I, p0, evk, hp⟩ again
    simp only at hk I p0 evk hp
    simp only [tup_zero, tup_succ]
    refine bnd_of el ?_
    refine wk ?_
    refine ifV_cases (fun c2 => ?_) fun c2 => ?_
    · have hk2 : k < es.length := by omega
      obtain ⟨e, he⟩ : ∃ e, es[k]? = some e := ⟨_, List.getElem?_eq_getElem hk2⟩
      obtain ⟨w, hw⟩ : ∃ w, ws[k]? = some w := ⟨_, List.getElem?_eq_getElem (by omega)⟩
      obtain ⟨t, htk⟩ : ∃ t, ts[k]? = some t := ⟨_, List.getElem?_eq_getElem (by omega)⟩
      have de1 : es.drop k = e :: es.drop (k + 1) := by
        rw [List.drop_eq_getElem_cons hk2]
        rw [List.getElem?_eq_getElem hk2] at he
        cases he; rfl
      have dt1 : ts.drop k = t :: ts.drop (k + 1) := by
        rw [List.drop_eq_getElem_cons (by omega)]
        rw [List.getElem?_eq_getElem (by omega)] at htk
        cases htk; rfl
      rw [de1, dt1] at evk
      obtain ⟨n, n2, he0, evn⟩ := evk.inv
      have evl := evn.le.1
      have mt := hmay.2 t (List.mem_of_getElem? htk)
      have dimg := do_img I mt
      refine bnd_of (ms_load hp I.good) ?_
      have tvh' := fun {h'} (l : HLe g h') => tvh (h' := h') l
      have hbase : ∀ {h'} {P1 P2 P3 P4 P5 P6 : Part}, All (P1 :: P2 :: P3 :: P4 :: P5 :: P6 :: [baseP g]) h' → HLe g h' := fun hp => All.baseLe hp.tail.tail.tail.tail.tail.tail
      obtain ⟨c, hc, w', rfl, hw'⟩ := (tvh (hbase hp)).2.get htk
      obtain ⟨b0, o0, j1, j2, _⟩ := (tvh (hbase hp)).1.fld hc .i64
      refine bnd_of j1 (bnd_of rfl (bnd_of (j2 0 w' rfl) ?_))
      refine T_modelDo hp I.good (fun h' hp => ?_) mt fun u h12 hp => ?_
      · obtain ⟨c2, hc2, w2, e2, r2⟩ := (tvh (hbase hp)).2.get htk
        rw [hc] at hc2
        cases hc2
        cases e2
        exact r2
      have gs := dimg.2.good
      refine wk ?_
      refine ms_nwst hp gs fun sb2 h13 hp => ?_
      refine T_Num ?_
      refine wk ?_
      replace hp := hn (hp.up 3)
      obtain ⟨eb, i1, i2, _, _⟩ := All.elt (i := k) hp (c := e.cells w) (evCs_get he hw) .i64
      have l1 := i2 1 1 (i64 e.index) rfl
      have l2 := i2 2 1 (i64 e.begun) rfl
      have l4 := i2 4 1 (i64 e.answered) rfl
      have l5 := i2 5 1 (i64 e.end_) rfl
      have l6 := i2 6 1 (i64 e.attempts) rfl
      have l7 := i2 7 1 w rfl
      have eans : e.answers = (s.do_ t).2 := by rw [he0, ← dimg.1]
      rw [he0] at l1 l2 l4 l5 l6
      simp only at l1 l2 l4 l5 l6
      refine bnd_of i1 (bnd_of rfl (bnd_of l5 ?_))
      refine wk ?_
      refine bnd_of i1 (bnd_of rfl (bnd_of l6 ?_))
      refine wk ?_
      refine bnd_of i1 (bnd_of rfl (bnd_of l1 ?_))
      refine wk ?_
      rw [decide_eq_true rfl]
      refine wk ?_
      refine bnd_of i1 (bnd_of rfl (bnd_of l2 ?_))
      refine bnd_of (add_id (by omega) (by omega)) ?_
      refine wk ?_
      rw [decide_eq_true (by omega)]
      refine wk ?_
      refine bnd_of i1 (bnd_of rfl (bnd_of l4 ?_))
      refine bnd_of i1 (bnd_of rfl (bnd_of l2 ?_))
      refine wk ?_
      refine ifV_n (by omega) ?_
      refine bnd_of i1 (bnd_of rfl (bnd_of l7 ?_))
      have ra : rowsAt h13 2 w (e.answers.map Answer.enc) := ((hn (hp.up 4)).mono1 (P := All (ansO ws es)) (fun _ _ l p => All.le l p)) |> fun z => ansO_le z k e w he hw
      refine T_SameAnswers ra (All.rows (hn (hp.up 2))) ?_
      rw [decide_eq_true eans]
      refine wk ?_
      unfold S23_j6
      refine bnd_of i1 (bnd_of rfl (bnd_of l4 ?_))
      refine bnd_of (ms_load (hn (hp.up 1)) gs) ?_
      refine ms_store (hn (hp.up 3)) I.good gs fun h14 hp => ?_
      refine wk ?_
      have := again (k + 1, (F.do_ t).view, (s.do_ t).1, p + (n : Int)) h14 ⟨by simp only; omega, dimg.2, by simp only; omega, evn, hn (hp.re 4 [0, 1])⟩ (by simp only; omega)
      exact this
    · clear again
      replace hp := hn (hp.re 6 [4, 5, 3])
      refine T_thStock (hn (hp.up 2)) ox fun h12 hp => ?_
      have us : ((x.ripe.length : Int) + if x.slot = -1 then 0 else 1) = 0 := by rw [re_.ri, re_.sl]; simp
      unfold Th.stock
      rw [us]
      refine nwst hp (.row 44 [i64 0, i64 x.cache.length, i64 x.limbo.length, i64 0] 4 true) rfl rfl rfl rfl fun d4 h13 hp => ?_
      have st : x.step A L 9999 = (x.z, false, 0, A, L) := by
        rw [Th.step_none re_.nd re_.nx]
        have hb : x.z.begin 9999 = (x.z, false) := by
          unfold Th.begin
          rw [if_pos (show x.z.done = true from de)]
        rw [hb]; rfl
      refine T_thStep (pre := []) (post := []) (hn (hp.re 4 [2, 3, 1, 0])) ox ⟨hL.1, fun y hy => by have := hL.2 y hy; omega⟩ (by decide) fun h14 hp => ?_
      rw [st] at hp ⊢
      refine wk ?_
      refine T_Num ?_
      replace hp := hn (hp.up 3)
      refine wk ?_
      exact hK _
end
end Go.Proofs.YtfphpafkhljncaaGreat
