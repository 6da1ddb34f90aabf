/- Several texts in one; nothing here is a statement on the program. -/
import Derived.Test.YtghcnhimggbobaaGreatSA9
import Derived.Carry
set_option linter.unusedVariables false
set_option linter.unusedSimpArgs false
namespace Go.Proofs.YtghcnhimggbobaaGreat
open Go GW Go.Proofs
def Tch (t : Touch) : Prop := (0 ≤ t.at_ ∧ t.at_ < 634) ∧ ((t.slot = -1 ∧ t.at_ < 34) ∨ ((0 ≤ t.slot ∧ t.slot < 12) ∧ t.gen = t.live ∧ (34 ≤ t.at_ → t.slot = (t.at_ - 34) / 50)))
structure Mc.sm (M : Mc) : Prop where
  sg : ∃ D Mem E r, E ≤ M.picks ∧ Sg D (fun _ => True) Mem E r M.A M.L M.ths
  ep : EpI M.A M.picks
  live : ∀ x ∈ M.ths, x.dead = false
  sq : ∀ x ∈ M.ths, x.seq ≤ M.picks
  ts : ∀ t ∈ M.ts, Tch t
theorem thr_map {ths : List Th} {f : Th → Th} {t : Int} : thr (ths.map f) t = (thr ths t).map f := by
  unfold thr
  split
  · rw [List.getElem?_map]
  · rfl
theorem Sg.decide {D : Int → Option Dw} {Lo : Int → Prop} {A : Ar} {L : List Int} {M : Int → Int} {E s pick : Int} {ths : List Th} {r : Int → Int} (S : Sg D Lo M E r A L ths) : Sg D Lo M E r A L (ths.map fun x => x.decide s pick) := by
  have f : ∀ x : Th, (x.decide s pick).next = x.next ∧ (x.decide s pick).att = x.att ∧ (x.decide s pick).seq = x.seq ∧ (x.decide s pick).id = x.id ∧ (x.decide s pick).n = x.n ∧ (x.decide s pick).ent = x.ent ∧ (x.decide s pick).limbo = x.limbo ∧ (x.decide s pick).slot = x.slot ∧ (x.decide s pick).adv = x.adv := fun x => by
    unfold Th.decide; split <;> exact ⟨rfl, rfl, rfl, rfl, rfl, rfl, rfl, rfl, rfl⟩
  have fs : ∀ x : Th, (x.decide s pick).stk = x.stk := fun x => by
    obtain ⟨a, b, c, _⟩ := f x
    unfold Th.stk Th.frs; rw [a, b, c]
  have fr : ∀ x : Th, (x.decide s pick).reg ↔ x.reg := fun x => by unfold Th.reg; rw [(f x).1]
  have fe : ∀ x : Th, (x.decide s pick).ep = x.ep := fun x => by unfold Th.ep; rw [(f x).2.2.2.2.2.1]
  have hF : FF (ths.map fun x => x.decide s pick) = FF ths := by
    funext t
    unfold FF
    rw [thr_map]
    cases thr ths t with
    | none => rfl
    | some x => exact fs x
  have hh : ∀ u, held (ths.map fun x => x.decide s pick) u ↔ held ths u := fun u => by
    constructor
    · rintro ⟨z, hz, h⟩
      obtain ⟨x, hx, rfl⟩ := List.mem_map.1 hz
      exact ⟨x, hx, by rw [← (f x).2.2.2.2.2.2.2.1]; exact h⟩
    · rintro ⟨x, hx, h⟩
      exact ⟨_, List.mem_map.2 ⟨x, hx, rfl⟩, by rw [(f x).2.2.2.2.2.2.2.1]; exact h⟩
  have rq : ∀ {u t : Int}, (qs ths r).qt u t → (qs (ths.map fun x => x.decide s pick) r).qt u t := fun {u t} h s0 z hz g => by
    rw [thr_map] at hz
    obtain ⟨x, hx, rfl⟩ := Option.map_eq_some_iff.1 hz
    rw [fe, hh]
    exact h s0 x hx ((fr x).1 g)
  have rp : ∀ {u t : Int}, (qs ths r).pt u t → (qs (ths.map fun x => x.decide s pick) r).pt u t := fun {u t} h s0 z hz g => by
    rw [thr_map] at hz
    obtain ⟨x, hx, rfl⟩ := Option.map_eq_some_iff.1 hz
    rw [fe, hh]
    exact h s0 x hx ((fr x).1 g)
  refine ⟨?_, S.gs, fun z hz => ?_, S.e0, fun z hz => ?_, fun i z hz => ?_, fun u d hd ho => ?_, fun u u0 u1 h => S.ag u u0 u1 fun x hx => ?_⟩
  · rw [hF]
    exact S.mi.requal (fun u t _ h => rq h) (fun u t _ h => rp h) (fun u d hd hr ho t => rq (S.mi.qo u d hd hr ho t))
  · obtain ⟨x, hx, rfl⟩ := List.mem_map.1 hz
    obtain ⟨a, b, c, d, e, g, h, i, j⟩ := f x
    unfold ThS
    rw [a, b, c, d, i]
    exact S.th x hx
  · obtain ⟨x, hx, rfl⟩ := List.mem_map.1 hz
    obtain ⟨a, b, c, d, e, g, h, i, j⟩ := f x
    have eb := S.eb x hx
    refine ⟨by rw [g, d]; exact eb.nt, by rw [fr, d, fe]; exact eb.reg, by rw [a, d]; exact eb.out, by rw [a, g, d]; exact eb.ent, ?_, by rw [h]; exact eb.lim⟩
    rw [a, j, e]
    intro hn dd hd
    obtain ⟨k1, k2⟩ := eb.adv hn dd hd
    refine ⟨k1, fun h0 => ⟨(k2 h0).1, fun he z hz hlt hg => ?_⟩⟩
    obtain ⟨u, hu, rfl⟩ := List.mem_map.1 hz
    rw [fe]
    exact (k2 h0).2 he u hu (by rw [← (f u).2.2.2.1]; exact hlt) ((fr u).1 hg)
  · rw [List.length_map]
    rw [List.getElem?_map] at hz
    obtain ⟨x, hx, rfl⟩ := Option.map_eq_some_iff.1 hz
    obtain ⟨a, b, c, d, e, _⟩ := f x
    rw [d, e]; exact S.id i x hx
  · obtain ⟨x, hx, h1, h2⟩ := S.op u d hd ho
    exact ⟨_, List.mem_map.2 ⟨x, hx, rfl⟩, by rw [(f x).2.2.2.2.2.2.2.1]; exact h1, by rw [(f x).1]; exact h2⟩
  · have := h _ (List.mem_map.2 ⟨x, hx, rfl⟩)
    rw [(f x).2.2.2.2.2.2.2.1, (f x).2.2.2.2.2.2.1] at this
    exact this
theorem Mc.new_sm {p : Plan} (hm : p.may = true) : (Mc.new p).sm := by
  have th : ∀ (i : Nat) x, (Mc.new p).ths[i]? = some x → ∃ (t : List (List Op)), x = Th.new i p.threads.length p.attempts p.polite t := by
    have key : ∀ (ts : List (List (List Op))) (b n k : Int) (pol : Bool) (i : Nat) x, (Mc.threads b n k pol ts)[i]? = some x → ∃ t, x = Th.new (b + i) n k pol t := by
      intro ts
      induction ts with
      | nil => intro b n k pol i x h; cases h
      | cons t ts ih =>
        intro b n k pol i x h
        cases i with
        | zero => cases h; exact ⟨t, by simp⟩
        | succ i =>
          obtain ⟨t', e⟩ := ih (b + 1) n k pol i x h
          exact ⟨t', by rw [e]; congr 1; omega⟩
    intro i x h
    obtain ⟨t, e⟩ := key _ _ _ _ _ i x h
    exact ⟨t, by rw [e]; congr 1; omega⟩
  have thm : ∀ x ∈ (Mc.new p).ths, ∃ (i : Nat) (t : List (List Op)), x = Th.new i p.threads.length p.attempts p.polite t := fun x hx => by
    obtain ⟨i, hi⟩ := List.mem_iff_getElem?.1 hx
    obtain ⟨t, e⟩ := th i x hi
    exact ⟨i, t, e⟩
  have hlen : (Mc.new p).ths.length = p.threads.length := by show (Mc.threads _ _ _ _ _).length = _; rw [Mc.threads_len]
  have hF : ∀ t, FF (Mc.new p).ths t = ⟨0, []⟩ := fun t => by
    unfold FF
    cases h : thr (Mc.new p).ths t with
    | none => rfl
    | some x =>
      obtain ⟨i, t', rfl⟩ := thm x (thr_some h).2.2
      rfl
  have ep : EpI newAr 0 := ⟨⟨0, newAr_zero (by decide) (by decide), by decide, Int.le_refl 0⟩, fun t t0 t1 => by rw [newAr_zero (by omega) (by omega)]; decide⟩
  refine ⟨⟨fun _ => none, fun _ => 0, 0, fun _ => -3, Int.le_refl 0, ⟨⟨newAr_ok, (fun s d h => by cases h), fun c c0 c1 => .val (v := 0) ?_ ?_, fun t f hf => ?_, fun t => ?_, (fun s d h => by cases h), fun t => ?_, fun t h => ?_, fun t w d hw => ?_, (fun s d h => by cases h), fun t f s d hf => ?_⟩, (fun s d h => by cases h), fun x hx h => ?_, ⟨newAr_zero (by decide) (by decide), Int.le_refl 0⟩, fun x hx => ?_, fun i x hx => ?_, (fun s d h => by cases h), fun _ _ _ _ => by decide⟩⟩, ep, fun x hx => ?_, fun x hx => ?_, fun t ht => by cases ht⟩
  · show plainOf (newAr.at c) = some 0
    rw [newAr_cell c0 c1]; decide
  · show (0 : Int) = newAr.at c
    rw [newAr_cell c0 c1]
  · rw [hF] at hf; cases hf
  · rw [hF]; trivial
  · rw [hF]; exact ⟨by decide, by decide⟩
  · rw [hF] at h; exact absurd rfl h
  · rw [hF] at hw; cases hw
  · rw [hF] at hf; cases hf
  · obtain ⟨i, t, rfl⟩ := thm x hx
    cases h
  · obtain ⟨i, hi⟩ := List.mem_iff_getElem?.1 hx
    obtain ⟨t, rfl⟩ := th i x hi
    have hi' := (List.getElem?_eq_some_iff.1 hi).1
    rw [hlen] at hi'
    have n4 := (Plan.may_spec hm).2.1
    refine ⟨(fun n h => by cases h), fun g => absurd g (not_reg (.inl rfl)), fun _ => ?_, (fun h => by cases h), (fun h => by cases h), (fun q h => by cases h)⟩
    show newAr.at (30 + (i : Int)) = 0
    exact newAr_zero (by omega) (by omega)
  · obtain ⟨t, rfl⟩ := th i x hx
    exact ⟨rfl, by rw [hlen]; rfl⟩
  · obtain ⟨i, t, rfl⟩ := thm x hx; rfl
  · obtain ⟨i, t, rfl⟩ := thm x hx; exact Int.le_refl 0
theorem Mc.pick_s {M : Mc} {k c n : Int} {fr : List Int} (o : M.ok) (S : M.si fr c) (rr : M.rep n) (m : M.sm) (hp : M.picks < 60000) : (M.pick k).1.sm := by
  have lk := (Mc.pick_ok (k := k) o).l
  unfold Mc.pick at lk ⊢
  by_cases hk : ¬ (0 ≤ k ∧ k < M.ths.length) ∨ 65536 ≤ M.picks
  · rw [if_pos hk]; exact m
  rw [if_neg hk] at lk ⊢
  have hlt : k.toNat < M.ths.length := by omega
  obtain ⟨x, hx⟩ : ∃ x, M.ths[k.toNat]? = some x := ⟨_, List.getElem?_eq_getElem hlt⟩
  rw [hx] at lk ⊢
  have hxm := List.mem_of_getElem? hx
  have ox := o.ths x hxm
  have dd := m.live x hxm
  have on : x.on := by
    rcases rr.way x hxm with h | h
    · rw [dd] at h; cases h
    · exact h
  have hcc : c < 90000 := by have := S.c1; omega
  have frb : ∀ s ∈ fr, 0 ≤ s ∧ s < 12 := fun s h => by obtain ⟨f, _, h2⟩ := S.F.hd; exact h2.mem s h
  have hd : ∀ s ∈ x.ripe, s ∉ fr := fun s h1 => by
    have hr := ox.1.ri s h1
    exact S.free hx hr.1 hr.2 (by unfold Th.hold; simp [h1])
  have one : ∀ s, 0 ≤ s → s < 12 → x.hold.count s ≤ 1 := fun s s0 s1 => by
    have a1 := S.all s
    have a2 := sum_one (f := fun x : Th => x.hold.count s) hx
    rw [if_pos ⟨s0, s1⟩] at a1
    try simp only at a2
    omega
  have N : Nb M.ths := ⟨o.n, fun z hz => (o.ths z hz).1.s1, fun z hz a ha => by
    have := ((o.ths z hz).1.att a ha).1.life
    unfold lifeMay at this
    simp only [decide_eq_true_eq] at this
    exact this.1⟩
  have lim : ∀ {z : Th} {s : Int}, (∃ q ∈ z.limbo, q.slot = s) → s ∈ z.limbo.map Ret.slot := fun ⟨q, h1, h2⟩ => List.mem_map.2 ⟨q, h1, h2⟩
  have limh : ∀ {z : Th} {s : Int}, (∃ q ∈ z.limbo, q.slot = s) → s ∈ z.hold := fun h => by
    unfold Th.hold
    exact List.mem_append.2 (.inr (List.mem_append.2 (.inl (lim h))))
  have h1 : ∀ s, s ∈ x.cache ∨ s ∈ x.ripe → Fres M.ths s := fun s h => by
    have sb : 0 ≤ s ∧ s < 12 := by
      rcases h with h | h
      · exact ox.1.ca s h
      · exact ox.1.ri s h
    have hxh : s ∈ x.hold := by unfold Th.hold; rcases h with h | h <;> simp [h]
    have ct := one s sb.1 sb.2
    rw [hold_count] at ct
    have a3 : 0 < x.cache.count s + x.ripe.count s := by
      rcases h with h | h
      · have := List.count_pos_iff.2 h; omega
      · have := List.count_pos_iff.2 h; omega
    refine ⟨sb, fun z hz => ?_⟩
    obtain ⟨j, hj⟩ := List.mem_iff_getElem?.1 hz
    refine ⟨fun e => ?_, fun q hq e => ?_⟩
    · have := S.one hx hj sb.1 sb.2 hxh (by rw [← e]; exact hold_slot (by omega))
      subst this
      rw [hx] at hj; cases hj
      rw [if_neg (show ¬ x.slot = -1 by omega), e] at ct
      simp at ct
      omega
    · have := S.one hx hj sb.1 sb.2 hxh (limh ⟨q, hq, e⟩)
      subst this
      rw [hx] at hj; cases hj
      have := List.count_pos_iff.2 (lim ⟨q, hq, e⟩)
      omega
  have h2 : ∀ s ∈ fr, Fres M.ths s := fun s h => by
    have sb := frb s h
    refine ⟨sb, fun z hz => ?_⟩
    obtain ⟨j, hj⟩ := List.mem_iff_getElem?.1 hz
    exact ⟨fun e => S.free hj sb.1 sb.2 (by rw [← e]; exact hold_slot (by omega)) h, fun q hq e => S.free hj sb.1 sb.2 (limh ⟨q, hq, e⟩) h⟩
  have sep : 0 ≤ x.slot → ∀ j z, j ≠ k.toNat → M.ths[j]? = some z → z.slot ≠ x.slot := fun s0 j z hj hz e => by
    have := S.one hz hx s0 ox.1.s1 (by rw [← e]; exact hold_slot (by omega)) (hold_slot s0)
    exact hj this
  have sepl : 0 ≤ x.slot → ∀ z ∈ M.ths, ∀ q ∈ z.limbo, q.slot ≠ x.slot := fun s0 z hz q hq e => by
    obtain ⟨j, hj⟩ := List.mem_iff_getElem?.1 hz
    have := S.one hj hx s0 ox.1.s1 (limh ⟨q, hq, e⟩) (hold_slot s0)
    subst this
    rw [hx] at hj; cases hj
    have ct := one x.slot s0 ox.1.s1
    rw [hold_count, if_neg (show ¬ x.slot = -1 by omega)] at ct
    have := List.count_pos_iff.2 (lim ⟨q, hq, e⟩)
    simp at ct
    omega
  obtain ⟨D, Mem, E, r, hE, sg⟩ := m.sg
  have sw := Th.step_s (pick := M.picks) sg (fun _ => trivial) N hx ox.1 on ox.2.1 (by have := m.sq x hxm; omega) dd S.F hcc (S.own x hxm) o.L (fun v hv => (o.L2 v hv).1) (fun v hv => by have := (o.L2 v hv).2; omega) (fun he => ox.1.mays he fun v hv => by have := o.L2 v hv; omega) h1 h2 hd m.ep (by omega) hE sep sepl
  simp only at lk ⊢
  generalize x.step M.A M.L M.picks = st at sw lk
  obtain ⟨y, ac, er, B, L'⟩ := st
  simp only at sw lk ⊢
  obtain ⟨_, yd, ⟨D', Mem', E', r', hE', sg'⟩, ep', ysq, yts⟩ := sw
  have base : ∀ z ∈ M.ths.set k.toNat y, z.dead = false ∧ z.seq ≤ M.picks + 1 := fun z hz => by
    have := m.sq x hxm
    rcases mem_set hz hlt with rfl | ⟨j, _, h⟩
    · exact ⟨yd, by omega⟩
    · have := m.sq z (List.mem_of_getElem? h)
      exact ⟨m.live z (List.mem_of_getElem? h), by omega⟩
  have tsn : ac = true → ∀ t ∈ M.ts ++ [noteT B L' k y], Tch t := fun ha t ht => by
    rcases List.mem_append.1 ht with h | h
    · exact m.ts t h
    · rw [List.mem_singleton.1 h]
      refine ⟨⟨lk.at0, lk.at1⟩, ?_⟩
      rcases yts ha with ⟨q1, q2⟩ | ⟨q1, q2, q3⟩
      · exact .inl ⟨q1, q2⟩
      · refine .inr ⟨q1, ?_, q3⟩
        show y.tg = if 0 ≤ y.ts then L'.getD y.ts.toNat 0 else B.lst 7
        rw [if_pos q1.1, q2, lf_at q1.1]
  have dk : ∀ (z : Th) s, (z.decide s M.picks).dead = z.dead ∧ (z.decide s M.picks).seq = z.seq := fun z s => by unfold Th.decide; split <;> exact ⟨rfl, rfl⟩
  cases ac with
  | false =>
    simp only [Bool.false_eq_true, if_false]
    exact ⟨⟨D', Mem', E', r', by show E' ≤ M.picks + 1; omega, sg'⟩, ep', fun z hz => (base z hz).1, fun z hz => (base z hz).2, m.ts⟩
  | true =>
    simp only [if_true]
    refine ⟨⟨D', Mem', E', r', by show E' ≤ M.picks + 1; omega, ?_⟩, ep', fun z hz => ?_, fun z hz => ?_, tsn rfl⟩
    · show Sg D' _ Mem' E' r' B L' (decAll (noteT B L' k y) M.picks (M.ths.set k.toNat y))
      unfold decAll
      split
      · exact sg'.decide
      · exact sg'
    · have hz : z ∈ decAll (noteT B L' k y) M.picks (M.ths.set k.toNat y) := hz
      unfold decAll at hz
      split at hz
      · obtain ⟨u, hu, rfl⟩ := List.mem_map.1 hz
        rw [(dk u _).1]; exact (base u hu).1
      · exact (base z hz).1
    · have hz : z ∈ decAll (noteT B L' k y) M.picks (M.ths.set k.toNat y) := hz
      show z.seq ≤ M.picks + 1
      unfold decAll at hz
      split at hz
      · obtain ⟨u, hu, rfl⟩ := List.mem_map.1 hz
        rw [(dk u _).2]; exact (base u hu).2
      · exact (base z hz).2
def Touch.bad (t : Touch) : Bool := !(decide (0 ≤ t.at_ ∧ t.at_ < 634)) || (!decide (t.slot = -1) && (!(decide (0 ≤ t.slot ∧ t.slot < 12)) || !decide (t.gen = t.live)))
def through (ts : List Touch) : Int := ((ts.filter fun t => !decide (t.slot = -1)).length : Int)
theorem through_snoc (ts : List Touch) (t : Touch) : through (ts ++ [t]) = through ts + if t.slot = -1 then 0 else 1 := by
  unfold through; rw [List.filter_append]; by_cases h : t.slot = -1 <;> simp [h]
theorem through_bound (ts : List Touch) : 0 ≤ through ts ∧ through ts ≤ ts.length := by
  unfold through; exact ⟨by omega, by have := List.length_filter_le (fun t : Touch => !decide (t.slot = -1)) ts; omega⟩
def checkN (ts : List Touch) : Int × Int := if ts.any Touch.bad then (0, 2100) else (through ts, 0)
def checkP (ts : List Touch) : Value := .tuple #[i64 (checkN ts).1, i64 (checkN ts).2]
theorem T_Check {v : Value} {ts : List Touch} {h : GH} {K : Value → GH → Prop} (r : rowsAt h 8 v (ts.map Touch.enc)) (hK : K (checkP ts) h) : T Tryz.prog 9 [v] h K := by
  apply T.drop
  apply S9_T
  unfold S9
  have ⟨a, n, cap, hv, hlen, hmc, hmax, _⟩ := r
  subst hv
  simp only [lnV_slice, bnd_some]
  refine Lfp_fam (ι := Nat) (fun i => [i64 (through (ts.take i)), .slice a n cap, i64 n, i64 i]) (fun i h' => i ≤ n ∧ HLe h h' ∧ (ts.take i).any Touch.bad = false) (fun i => n - i) ?_ 0 h ⟨by omega, .refl _, by simp⟩
  intro i h' X ⟨hi, hle, hok⟩ again
  simp only [tup_zero, tup_succ, binV_lss, bnd_some, ifV_dec]
  simp only [List.length_map] at hlen
  have hbound := through_bound (ts.take i)
  have hlt := List.length_take_le i ts
  split
  · rename_i hlt
    have hlt' : i < ts.length := by omega
    obtain ⟨t, ht⟩ : ∃ t, ts[i]? = some t := ⟨_, List.getElem?_eq_getElem hlt'⟩
    obtain ⟨p, hp, hl⟩ := (r.le hle).get (i := i) (c := t.enc) (by simp [ht]) .i64
    have htake : ts.take (i + 1) = ts.take i ++ [t] := by rw [List.take_add_one, ht]; rfl
    have hmem : t ∈ ts := List.mem_of_getElem? ht
    have hw : IntKind.i64.wrap ((i : Int) + 1) = ((i + 1 : Nat) : Int) := by rw [wrap_id (by omega) (by omega)]; rfl
    have hw2 : IntKind.i64.wrap (through (ts.take i) + 1) = through (ts.take i) + 1 := wrap_id (by omega) (by omega)
    simp only [hp, hl, bnd_some]
    intro b hb
    have hn := hle.none hb
    have bad : t.bad = true → ∃ h0, HLe h0 (upd h' b (.row 39 t.enc 8 true)) ∧ K (.tuple #[.int .i64 0, .int .i64 2100]) h0 := by
      intro hbad
      refine ⟨h, hle.new _ hn, ?_⟩
      have : checkP ts = .tuple #[.int .i64 0, .int .i64 2100] := by
        have : checkN ts = (0, 2100) := by unfold checkN; rw [if_pos]; rw [List.any_eq_true]; exact ⟨t, hmem, hbad⟩
        unfold checkP; rw [this]
      rw [← this]; exact hK
    have good : t.bad = false → X (tup [i64 (through (ts.take i) + if t.slot = -1 then 0 else 1), .slice a n cap, i64 n, i64 (i + 1 : Nat)]) (upd h' b (.row 39 t.enc 8 true)) := by
      intro hg
      have := again (i + 1) (upd h' b (.row 39 t.enc 8 true)) ⟨by omega, hle.new _ hn, by rw [htake, List.any_append, hok]; simp [hg]⟩ (by omega)
      rw [htake, through_snoc] at this
      exact this
    simp only [bnd_some, bnd_none, ifV_true, ifV_false, ifV_dec, ifV_iff, Bool.not_eq_true, Bool.not_eq_eq_eq_not, Bool.not_true, Bool.not_false, decide_eq_true_eq, decide_eq_false_iff_not, tup_zero, tup_succ, binV_add, binV_sub, binV_mul, binV_quo, binV_rem, binV_lss, binV_leq, binV_gtr, binV_geq, eqI_int, cvV_int, unV_not, lnV_slice, exV_tuple, ncV_pointer, faV_pointer, pickO_true, pickO_false, cells_agg, cells_int, cells_bool, cells_pointer, cells_slice, cells_iface, cells_nilIface, cells_func, cells_nilFunc, one_int, one_bool, one_pointer, one_slice, one_iface, one_nilIface, one_func, one_nilFunc, ldV_same, ldV_same_agg, stV_same, upd_same, upd_upd, setCells_nil, setCells_cons, List.set_cons_zero, List.set_cons_succ, List.length_cons, List.length_nil, List.size_toArray, List.all_cons, List.all_nil, Bool.and_true, Bool.and_self, Nat.zero_add, Nat.add_zero, Nat.reduceAdd, Nat.reduceLeDiff, Nat.le_refl, and_self, and_true, true_and, if_true, if_false, List.getElem?_cons_zero, List.getElem?_cons_succ, List.getElem?_toArray, List.drop_zero, List.drop_succ_cons, List.take_succ_cons, List.take_zero, List.take_nil, reduceIte, Int.reduceNeg, Int.reduceEq, Int.reduceLT, Int.reduceLE, Nat.reduceEqDiff, List.length_set, Touch.enc]
    simp only [Touch.enc] at bad good
    refine T_Below ?_
    simp only [bnd_some, bnd_none, ifV_true, ifV_false, ifV_dec, ifV_iff, Bool.not_eq_true, Bool.not_eq_eq_eq_not, Bool.not_true, Bool.not_false, decide_eq_true_eq, decide_eq_false_iff_not, tup_zero, tup_succ, binV_add, binV_sub, binV_mul, binV_quo, binV_rem, binV_lss, binV_leq, binV_gtr, binV_geq, eqI_int, cvV_int, unV_not, lnV_slice, exV_tuple, ncV_pointer, faV_pointer, pickO_true, pickO_false, cells_agg, cells_int, cells_bool, cells_pointer, cells_slice, cells_iface, cells_nilIface, cells_func, cells_nilFunc, one_int, one_bool, one_pointer, one_slice, one_iface, one_nilIface, one_func, one_nilFunc, ldV_same, ldV_same_agg, stV_same, upd_same, upd_upd, setCells_nil, setCells_cons, List.set_cons_zero, List.set_cons_succ, List.length_cons, List.length_nil, List.size_toArray, List.all_cons, List.all_nil, Bool.and_true, Bool.and_self, Nat.zero_add, Nat.add_zero, Nat.reduceAdd, Nat.reduceLeDiff, Nat.le_refl, and_self, and_true, true_and, if_true, if_false, List.getElem?_cons_zero, List.getElem?_cons_succ, List.getElem?_toArray, List.drop_zero, List.drop_succ_cons, List.take_succ_cons, List.take_zero, List.take_nil, reduceIte, Int.reduceNeg, Int.reduceEq, Int.reduceLT, Int.reduceLE, Nat.reduceEqDiff, List.length_set]
    by_cases c1 : 0 ≤ t.at_ ∧ t.at_ < 634
    · by_cases c2 : t.slot = -1
      · simp only [c1, c2, and_self, decide_true, decide_false, not_true_eq_false, if_true, if_false, reduceCtorEq, Bool.not_true, Bool.false_eq_true]
        simp only [bnd_some, bnd_none, ifV_true, ifV_false, ifV_dec, ifV_iff, Bool.not_eq_true, Bool.not_eq_eq_eq_not, Bool.not_true, Bool.not_false, decide_eq_true_eq, decide_eq_false_iff_not, tup_zero, tup_succ, binV_add, binV_sub, binV_mul, binV_quo, binV_rem, binV_lss, binV_leq, binV_gtr, binV_geq, eqI_int, cvV_int, unV_not, lnV_slice, exV_tuple, ncV_pointer, faV_pointer, pickO_true, pickO_false, cells_agg, cells_int, cells_bool, cells_pointer, cells_slice, cells_iface, cells_nilIface, cells_func, cells_nilFunc, one_int, one_bool, one_pointer, one_slice, one_iface, one_nilIface, one_func, one_nilFunc, ldV_same, ldV_same_agg, stV_same, upd_same, upd_upd, setCells_nil, setCells_cons, List.set_cons_zero, List.set_cons_succ, List.length_cons, List.length_nil, List.size_toArray, List.all_cons, List.all_nil, Bool.and_true, Bool.and_self, Nat.zero_add, Nat.add_zero, Nat.reduceAdd, Nat.reduceLeDiff, Nat.le_refl, and_self, and_true, true_and, if_true, if_false, List.getElem?_cons_zero, List.getElem?_cons_succ, List.getElem?_toArray, List.drop_zero, List.drop_succ_cons, List.take_succ_cons, List.take_zero, List.take_nil, reduceIte, Int.reduceNeg, Int.reduceEq, Int.reduceLT, Int.reduceLE, Nat.reduceEqDiff, List.length_set, hw]
        have := good (by simp [Touch.bad, c1, c2])
        simpa [c2] using this
      · simp only [c1, c2, and_self, decide_true, decide_false, not_true_eq_false, if_true, if_false, reduceCtorEq, Bool.not_true, Bool.false_eq_true, not_false_eq_true]
        refine T_Below ?_
        by_cases c3 : 0 ≤ t.slot ∧ t.slot < 12
        · simp only [c3, and_self, decide_true]
          simp only [bnd_some, bnd_none, ifV_true, ifV_false, ifV_dec, ifV_iff, Bool.not_eq_true, Bool.not_eq_eq_eq_not, Bool.not_true, Bool.not_false, decide_eq_true_eq, decide_eq_false_iff_not, tup_zero, tup_succ, binV_add, binV_sub, binV_mul, binV_quo, binV_rem, binV_lss, binV_leq, binV_gtr, binV_geq, eqI_int, cvV_int, unV_not, lnV_slice, exV_tuple, ncV_pointer, faV_pointer, pickO_true, pickO_false, cells_agg, cells_int, cells_bool, cells_pointer, cells_slice, cells_iface, cells_nilIface, cells_func, cells_nilFunc, one_int, one_bool, one_pointer, one_slice, one_iface, one_nilIface, one_func, one_nilFunc, ldV_same, ldV_same_agg, stV_same, upd_same, upd_upd, setCells_nil, setCells_cons, List.set_cons_zero, List.set_cons_succ, List.length_cons, List.length_nil, List.size_toArray, List.all_cons, List.all_nil, Bool.and_true, Bool.and_self, Nat.zero_add, Nat.add_zero, Nat.reduceAdd, Nat.reduceLeDiff, Nat.le_refl, and_self, and_true, true_and, if_true, if_false, List.getElem?_cons_zero, List.getElem?_cons_succ, List.getElem?_toArray, List.drop_zero, List.drop_succ_cons, List.take_succ_cons, List.take_zero, List.take_nil, reduceIte, Int.reduceNeg, Int.reduceEq, Int.reduceLT, Int.reduceLE, Nat.reduceEqDiff, List.length_set]
          by_cases c4 : t.gen = t.live
          · simp only [c4, decide_true, c2, decide_false, not_true_eq_false, not_false_eq_true, if_true, if_false, reduceCtorEq, Bool.false_eq_true]
            simp only [bnd_some, bnd_none, ifV_true, ifV_false, ifV_dec, ifV_iff, Bool.not_eq_true, Bool.not_eq_eq_eq_not, Bool.not_true, Bool.not_false, decide_eq_true_eq, decide_eq_false_iff_not, tup_zero, tup_succ, binV_add, binV_sub, binV_mul, binV_quo, binV_rem, binV_lss, binV_leq, binV_gtr, binV_geq, eqI_int, cvV_int, unV_not, lnV_slice, exV_tuple, ncV_pointer, faV_pointer, pickO_true, pickO_false, cells_agg, cells_int, cells_bool, cells_pointer, cells_slice, cells_iface, cells_nilIface, cells_func, cells_nilFunc, one_int, one_bool, one_pointer, one_slice, one_iface, one_nilIface, one_func, one_nilFunc, ldV_same, ldV_same_agg, stV_same, upd_same, upd_upd, setCells_nil, setCells_cons, List.set_cons_zero, List.set_cons_succ, List.length_cons, List.length_nil, List.size_toArray, List.all_cons, List.all_nil, Bool.and_true, Bool.and_self, Nat.zero_add, Nat.add_zero, Nat.reduceAdd, Nat.reduceLeDiff, Nat.le_refl, and_self, and_true, true_and, if_true, if_false, List.getElem?_cons_zero, List.getElem?_cons_succ, List.getElem?_toArray, List.drop_zero, List.drop_succ_cons, List.take_succ_cons, List.take_zero, List.take_nil, reduceIte, Int.reduceNeg, Int.reduceEq, Int.reduceLT, Int.reduceLE, Nat.reduceEqDiff, List.length_set, hw, hw2]
            have := good (by simp [Touch.bad, c1, c2, c3, c4])
            simpa [c2, c4] using this
          · simp only [c4, decide_false, not_false_eq_true, if_true]
            exact bad (by simp [Touch.bad, c1, c2, c3, c4])
        · simp only [c3, decide_false]
          simpa using bad (by simp [Touch.bad, c1, c2, c3])
    · simp only [c1, decide_false]
      simpa using bad (by simp [Touch.bad, c1])
  · have hn : i = n := by omega
    refine ⟨h, hle, ?_⟩
    have : checkP ts = .tuple #[i64 (through (ts.take i)), i64 0] := by
      have hall : ts.take i = ts := List.take_of_length_le (by omega)
      rw [hall] at hok ⊢
      have : checkN ts = (through ts, 0) := by unfold checkN; rw [hok]; rfl
      unfold checkP; rw [this]
    rw [← this]; exact hK
theorem T_awake21 {h : GH} {K : Value → GH → Prop} (hK : K (.bool true) h) : T Tryz.prog 4 [] h K := by
  apply T.drop
  apply S4_T
  unfold S4
  refine bnd_of rfl (bnd_of rfl (bnd_of rfl ?_))
  unfold bsV
  refine bnd_of rfl ?_
  intro b hb
  refine T_Check (ts := [⟨0, 0, 0, 0, 0, -1, 0, 0⟩, ⟨0, 0, 34, 0, 0, 0, 2, 2⟩, ⟨0, 0, 633, 0, 0, 3, 1, 1⟩]) (rowsAt_of (upd_same _ _ _) rfl (by decide) (by decide) (by simp [Touch.enc]) (Nat.zero_le _) ⟨[], rfl⟩) ?_
  have e1 : checkN [⟨0, 0, 0, 0, 0, -1, 0, 0⟩, ⟨0, 0, 34, 0, 0, 0, 2, 2⟩, ⟨0, 0, 633, 0, 0, 3, 1, 1⟩] = (2, 0) := by decide +kernel
  unfold checkP; rw [e1]
  refine bnd_of rfl (bnd_of rfl (bnd_of rfl (bnd_of rfl (bnd_of (by rw [stV_same]; exact if_pos ⟨rfl, by decide, rfl⟩) ?_))))
  refine T_Check (ts := [⟨0, 0, 0, 0, 0, -1, 0, 0⟩, ⟨0, 0, 34, 0, 0, 0, 2, 2⟩, ⟨0, 0, 633, 0, 0, 3, 1, 2⟩]) (rowsAt_of (upd_same _ _ _) rfl (by decide) (by decide) (by simp [Touch.enc]) (Nat.zero_le _) ⟨[], rfl⟩) ?_
  have e2 : checkN [⟨0, 0, 0, 0, 0, -1, 0, 0⟩, ⟨0, 0, 34, 0, 0, 0, 2, 2⟩, ⟨0, 0, 633, 0, 0, 3, 1, 2⟩] = (0, 2100) := by decide +kernel
  unfold checkP; rw [e2]
  refine bnd_of rfl (bnd_of rfl (bnd_of rfl ?_))
  refine bnd_of rfl ?_
  intro b2 hb2
  refine T_Check (ts := [⟨0, 0, 634, 0, 0, -1, 0, 0⟩]) (rowsAt_of (upd_same _ _ _) rfl (by decide) (by decide) (by simp [Touch.enc]) (Nat.zero_le _) ⟨[], rfl⟩) ?_
  have e3 : checkN [⟨0, 0, 634, 0, 0, -1, 0, 0⟩] = (0, 2100) := by decide +kernel
  unfold checkP; rw [e3]
  refine bnd_of rfl (bnd_of rfl (bnd_of rfl ?_))
  refine T_Num (bnd_of rfl ?_)
  refine T_Num (bnd_of rfl ?_)
  refine T_Num (bnd_of rfl ?_)
  refine ⟨h, ?_, hK⟩
  refine ((HLe.refl h).new _ hb).new _ ?_
  exact ((HLe.refl h).new _ hb).none hb2
attribute [local irreducible] bnd ldV stV ifV binV eqI
set_option maxRecDepth 20000
theorem Tch.good {t : Touch} (h : Tch t) : t.bad = false := by
  obtain ⟨h1, h2⟩ := h
  unfold Touch.bad
  rw [decide_eq_true h1]
  rcases h2 with ⟨h2, _⟩ | ⟨h2, h3, _⟩
  · rw [decide_eq_true h2]; rfl
  · rw [decide_eq_true h2, decide_eq_true h3]; simp
theorem checkN_good {ts : List Touch} (h : ∀ t ∈ ts, Tch t) : checkN ts = (through ts, 0) := by
  unfold checkN
  rw [if_neg]
  rw [Bool.not_eq_true, List.any_eq_false]
  intro t ht
  rw [(h t ht).good]; decide
theorem through_take {ts : List Touch} {i : Nat} {t : Touch} (h : ts[i]? = some t) : through (ts.take (i + 1)) = through (ts.take i) + if t.slot = -1 then 0 else 1 := by
  rw [List.take_add_one, h]
  exact through_snoc _ _
def owns (ts : List Touch) : Int := ((ts.filter fun t => decide (34 ≤ t.at_)).length : Int)
theorem owns_take {ts : List Touch} {i : Nat} {t : Touch} (h : ts[i]? = some t) : owns (ts.take (i + 1)) = owns (ts.take i) + if 34 ≤ t.at_ then 1 else 0 := by
  rw [List.take_add_one, h]
  unfold owns
  rw [List.filter_append]
  by_cases c : 34 ≤ t.at_ <;> simp [c]
theorem owns_bound (ts : List Touch) : 0 ≤ owns ts ∧ owns ts ≤ ts.length := by
  unfold owns; exact ⟨by omega, by have := List.length_filter_le (fun t : Touch => decide (34 ≤ t.at_)) ts; omega⟩
theorem owns_through {ts : List Touch} (h : ∀ t ∈ ts, Tch t) : owns ts ≤ through ts := by
  induction ts with
  | nil => exact Int.le_refl 0
  | cons t ts ih =>
    have ih := ih fun u hu => h u (List.mem_cons_of_mem _ hu)
    have ht := h t (by simp)
    unfold owns through at ih ⊢
    simp only [List.filter_cons]
    by_cases c : 34 ≤ t.at_
    · have ne : ¬ t.slot = -1 := by
        rcases ht.2 with ⟨_, q⟩ | ⟨q, _⟩ <;> omega
      rw [if_pos (decide_eq_true c), if_pos (by rw [decide_eq_false ne]; rfl)]
      simp only [List.length_cons]; omega
    · rw [if_neg (by simpa using c)]
      split
      · simp only [List.length_cons]; omega
      · exact ih
section
variable {h g : GH} {K : Value → GH → Prop} {v pv : Value} {p : Plan} {picks : List Int}
theorem T_SafeRuns (hp : All [baseP g] h) (ht : threadsAt g v p.threads) (rp : rowsAt g 1 pv (picks.map encI)) (hK : ∀ h', K (.bool true) h') : T Tryz.prog 3 [.agg (planC v p).toArray, pv] h K := by
  apply S3_T
  unfold S3
  have hpl : lnV pv = some (i64 picks.length) := by have := rp.len; rw [List.length_map] at this; exact this
  have hpm : picks.length ≤ 9223372036854775807 := by have := rp.max; rw [List.length_map] at this; exact this
  refine nw hp (.row 24 (planC v p) 3 true) rfl fun d h1 hp => ?_
  refine T_awake21 ?_
  refine wk ?_
  refine la0 hp (c := planC v p) (Nat.le_refl 3) rfl ?_
  refine T_mNew hp (fun h' hp => All.baseLe hp.tail) ht (fun hm h3 hp => ?_) fun hm b h3 hp => ?_
  · refine wk ?_
    refine T_Num ?_
    refine wk ?_
    exact hK _
  refine wk ?_
  refine T_Num ?_
  refine wk ?_
  unfold S3_j1
  -- what stands behind the picks
  have fin : ∀ (s1 : Nat → Value) (M : Mc) (h' : GH) (again3 : (Nat → Value) → GH → Prop), M.ok → M.sm → M.picks ≤ 300 → All (mcP b M :: [baseP g]) h' → S3_j3 s1 (ptr b) h' K again3 := by
    intro s1 M h' again3 o m hpk hp
    unfold S3_j3
    refine T_mTouches hp o fun tsv h4 hp => ?_
    have htl : lnV tsv = some (i64 M.ts.length) := by have := All.len hp; rw [List.length_map] at this; exact this
    refine T_Check (All.rows hp) ?_
    unfold checkP
    rw [checkN_good m.ts]
    refine wk ?_
    have p1 := o.p1; have ts1 := o.ts
    refine Lfp_fam (ι := Nat) (fun i => [tsv, i64 (through M.ts), i64 0, i64 (through (M.ts.take i)), i64 (owns (M.ts.take i)), i64 i]) (fun i h' => i ≤ M.ts.length ∧ All (rowP 8 tsv (M.ts.map Touch.enc) :: mcP b M :: [baseP g]) h') (fun i => M.ts.length - i) ?_ 0 h4 ⟨by omega, hp⟩
    clear hp
    rintro i h5 Y ⟨hi, hp⟩ again
    simp only [tup_zero, tup_succ]
    refine bnd_of htl ?_
    refine wk ?_
    refine ifV_cases (fun c1 => ?_) fun c1 => ?_
    · obtain ⟨t, hti⟩ : ∃ t, M.ts[i]? = some t := ⟨_, List.getElem?_eq_getElem (by omega)⟩
      have ge : (M.ts.map Touch.enc)[i]? = some t.enc := by rw [List.getElem?_map, hti]; rfl
      have tch := m.ts t (List.mem_of_getElem? hti)
      obtain ⟨⟨t0, t1⟩, t2⟩ := tch
      have e1 := through_take hti
      have e2 := owns_take hti
      have b1 := through_bound (M.ts.take i)
      have b2 := owns_bound (M.ts.take i)
      have bl : (M.ts.take i).length ≤ M.ts.length := List.length_take_le' i M.ts
      obtain ⟨eb, i1, i2, i3, _⟩ := All.elt hp ge .i64
      have s5 := i2 5 1 (i64 t.slot) rfl
      have s2 := i2 2 1 (i64 t.at_) rfl
      refine bnd_of i1 (bnd_of rfl (bnd_of s5 ?_))
      refine wk ?_
      have nx := again (i + 1) h5 ⟨by omega, hp⟩ (by omega)
      rw [e1, e2] at nx
      have j4 : S3_j4 s1 (tup [tsv, i64 (through M.ts), i64 0, i64 (through (M.ts.take i)), i64 (owns (M.ts.take i)), i64 i]) tsv (i64 (through M.ts)) (i64 0) (i64 (through (M.ts.take i) + if t.slot = -1 then 0 else 1)) (i64 (owns (M.ts.take i))) (i64 i) h5 K again3 Y := by
        unfold S3_j4
        refine bnd_of i1 (bnd_of rfl (bnd_of s2 ?_))
        refine wk ?_
        refine ifV_cases (fun c2 => ?_) fun c2 => ?_
        · have c2 : 34 ≤ t.at_ := c2
          rw [if_pos c2] at nx
          refine wk ?_
          refine bnd_of i1 (bnd_of rfl (bnd_of s5 ?_))
          refine bnd_of i1 (bnd_of rfl (bnd_of s2 ?_))
          refine wk ?_
          refine bnd_of (quo_nn (by omega) (by omega) (by decide)) ?_
          have sl : t.slot = (t.at_ - 34) / 50 := by
            rcases t2 with ⟨_, q⟩ | ⟨_, _, q⟩
            · omega
            · exact q c2
          refine wk ?_
          rw [decide_eq_true sl]
          refine wk ?_
          exact nx
        · have c2 : ¬ 34 ≤ t.at_ := c2
          rw [if_neg c2, Int.add_zero] at nx
          refine wk ?_
          exact nx
      refine ifV_cases (fun c3 => ?_) fun c3 => ?_
      · have c3 : 0 ≤ t.slot := c3
        rw [if_neg (show ¬ t.slot = -1 by omega)] at j4
        refine wk ?_
        exact j4
      · have c3 : ¬ 0 ≤ t.slot := c3
        have sm : t.slot = -1 := by
          rcases t2 with ⟨q, _⟩ | ⟨q, _⟩
          · exact q
          · omega
        rw [if_pos sm, Int.add_zero] at j4
        exact j4
    · have hie : i = M.ts.length := by omega
      subst hie
      rw [List.take_length]
      refine T_Num ?_
      refine wk ?_
      rw [decide_eq_true rfl]
      refine wk ?_
      rw [decide_eq_true (owns_through m.ts)]
      exact hK _
  refine Lfp_fam (ι := Nat × Mc) (fun q => [pv, ptr b, i64 q.1]) (fun q h' => q.1 ≤ picks.length ∧ q.1 ≤ 300 ∧ q.2.ok ∧ (∃ fr c, q.2.si fr c) ∧ q.2.rep p.threads.length ∧ q.2.sm ∧ q.2.picks ≤ q.1 ∧ All (mcP b q.2 :: [baseP g]) h') (fun q => picks.length - q.1) ?_ (0, Mc.new p) h3 ⟨by omega, by omega, Mc.new_ok hm, ⟨_, _, Mc.new_si⟩, Mc.new_rep p, Mc.new_sm hm, Int.le_refl 0, hn (hp.re 3 [0, 2])⟩
  clear hp
  rintro ⟨i, M⟩ h5 X ⟨hi, hi2, o, ⟨fr, c, S⟩, rr, m, hpk, hp⟩ again
  simp only at hi hi2 o S rr m hpk hp
  simp only [tup_zero, tup_succ]
  refine bnd_of hpl ?_
  refine wk ?_
  refine ifV_cases (fun c1 => ?_) fun c1 => fin _ M _ _ o m (by omega) hp
  refine wk ?_
  refine ifV_cases (fun c2 => ?_) fun c2 => fin _ M _ _ o m (by omega) hp
  unfold S3_j2
  obtain ⟨x, hx⟩ : ∃ x, picks[i]? = some x := ⟨_, List.getElem?_eq_getElem (by omega)⟩
  obtain ⟨q1, d1, d2⟩ := (rp.le (All.baseLe hp.tail)).get1 (i := i) (x := i64 x) (by rw [List.getElem?_map, hx]; rfl) .i64
  refine bnd_of d1 (bnd_of d2 ?_)
  refine T_mPick hp o fun h6 hp => ?_
  have o2 := Mc.pick_ok (k := x) o
  obtain ⟨fr', c', S', _⟩ := Mc.pick_si (k := x) o S
  have rr2 := Mc.pick_rep (k := x) o rr (by omega)
  have m2 := Mc.pick_s (k := x) o S rr m (by omega)
  have pk := Mc.pick_picks (M := M) (k := x)
  generalize M.pick x = r at hp o2 S' rr2 m2 pk
  obtain ⟨M', is, e⟩ := r
  dsimp only at hp o2 S' rr2 m2 pk ⊢
  refine wk ?_
  exact again (i + 1, M') _ ⟨by simp only; omega, by simp only; omega, o2, ⟨_, _, S'⟩, rr2, m2, by simp only; omega, hp⟩ (by simp only; omega)
end
end Go.Proofs.YtghcnhimggbobaaGreat
namespace Go.Proofs.YtghcnhimggbobaaGreat
open Go GW
theorem mapM_some {α β : Type} {f : α → Option β} : ∀ (l : List α) (ys : List β), l.mapM f = some ys → ys.length = l.length ∧ ∀ (i : Nat) (x : α), l[i]? = some x → ∃ y, f x = some y ∧ ys[i]? = some y := by
  intro l
  induction l with
  | nil => intro ys h; simp at h; subst h; simp
  | cons a l ih =>
    intro ys h
    rw [List.mapM_cons] at h
    cases hf : f a with
    | none => simp [hf] at h
    | some y =>
      cases hl : l.mapM f with
      | none => simp [hf, hl] at h
      | some zs =>
        simp [hf, hl] at h
        subst h
        obtain ⟨h1, h2⟩ := ih zs hl
        refine ⟨by simp [h1], fun i x hi => ?_⟩
        cases i with
        | zero => simp at hi; subst hi; exact ⟨y, hf, by simp⟩
        | succ i => simpa using h2 i x (by simpa using hi)
theorem cell_full {w : World} {a : Addr} {v : Value} (h : w.cell? a = some v) : a.spot = none ∧ ∃ T pre sz, full w a.block = some (.row T pre sz false) ∧ pre[a.off]? = some v := by
  unfold World.cell? at h
  split at h
  · rename_i c T fr hc
    split at h
    · cases h
    · rename_i hs
      refine ⟨by simpa using hs, T, c.toList, c.size, by simp [full, hc], by simpa using h⟩
  · cases h
theorem addr_add_spot {a : Addr} (n : Nat) (h : a.spot = none) : a.add n = ⟨a.block, a.off + n, none⟩ := by
  cases a; simp only at h; subst h; exact Addr.add_plain _ _ _
theorem weightsAll_of {H : Type} {P : Program} {e : TypeId} {q : Nat → Bool} : ∀ {ds : List (DataW H)}, (DataW.weightsAll P e ds).all q = true → ∀ {d : DataW H}, d ∈ ds → (d.weights P e).all q = true := by
  intro ds
  induction ds with
  | nil => intro _ d hd; cases hd
  | cons x ds ih =>
    intro h d hd
    simp only [DataW.weightsAll, List.all_append, Bool.and_eq_true] at h
    rcases List.mem_cons.1 hd with rfl | q
    · exact h.1
    · exact ih h.2 q
theorem open_rowsW {α H : Type} {enc : TypeId × Value → H} {P : Program} {W : World} {t e : TypeId} {size : Nat} (encα : α → List Value) (hd : P.underlying t = some (.slice e)) (hs : P.cellsOf e = size) (hpos : 0 < size) (hpos2 : ∀ x, (encα x).length = size)
    (hel : ∀ fuel cs d ps, DataW.trod enc P W 0 (fun _ => true) true fuel e cs = some (d, ps) → (d.weights P e).all (· ≤ reachBytes) = true → ∃ x, cs = encα x) {fuel : Nat} {cs : List Value} {d : DataW H} {ps : List MemPlace}
    (h : DataW.trod enc P W 0 (fun _ => true) true fuel t cs = some (d, ps)) (hw : (d.weights P t).all (· ≤ reachBytes) = true) :
    ∃ (v : Value) (xs : List α), cs = [v] ∧ rowsAt (full W) size v (xs.map encα) ∧ xs.length * P.bytesOf e ≤ reachBytes := by
  cases fuel with
  | zero => simp [DataW.trod] at h
  | succ fuel =>
    simp only [DataW.trod, hd] at h
    split at h <;> first
      | (rename_i q; cases q; done)
      | (rename_i q _; cases q; done)
      | cases h
      | skip
    · refine ⟨_, [], rfl, ⟨none, 0, 0, rfl, rfl, Nat.le_refl _, by omega, fun i c hc => by simp at hc⟩, by simp⟩
    · rename_i e' a n cap he
      cases he
      split at h
      · rename_i hc
        obtain ⟨_, hle, hmax⟩ := hc
        obtain ⟨elems, hel1, h⟩ := Option.bind_eq_some_iff.1 h
        obtain ⟨rest, hrest, h⟩ := Option.map_eq_some_iff.1 h
        simp only [Prod.mk.injEq] at h
        obtain ⟨rfl, rfl⟩ := h
        obtain ⟨hlen, hget⟩ := mapM_some _ _ hel1
        simp only [List.length_range] at hlen
        have hw2 := hw
        simp only [DataW.weights, hd, List.all_cons, List.all_append, Bool.and_eq_true] at hw2
        have each : ∀ i, i < n → ∃ x : α, W.cells? 0 (a.add (i * P.cellsOf e)) (P.cellsOf e) = some (encα x) := by
          intro i hi
          obtain ⟨y, hy, hyi⟩ := hget i i (by simp [hi])
          obtain ⟨cs, h1, h2⟩ := Option.bind_eq_some_iff.1 hy
          obtain ⟨x, hx⟩ := hel _ _ _ _ h2 (weightsAll_of hw2.2.1 (List.mem_map.2 ⟨y, List.mem_of_getElem? hyi, rfl⟩))
          exact ⟨x, by rw [h1, hx]⟩
        have hxs : ∀ m, m ≤ n → ∃ xs : List α, xs.length = m ∧ ∀ (i : Nat) x, xs[i]? = some x → W.cells? 0 (a.add (i * P.cellsOf e)) (P.cellsOf e) = some (encα x) := by
          intro m
          induction m with
          | zero => intro _; exact ⟨[], rfl, fun i x hx => by simp at hx⟩
          | succ m ih =>
            intro hm
            obtain ⟨xs, h1, h2⟩ := ih (by omega)
            obtain ⟨x, h3⟩ := each m (by omega)
            refine ⟨xs ++ [x], by simp [h1], fun i y hy => ?_⟩
            rcases Nat.lt_or_ge i m with q | q
            · rw [List.getElem?_append_left (by omega)] at hy; exact h2 i y hy
            · rw [List.getElem?_append_right (by omega)] at hy
              have : i = m := by
                have := (List.getElem?_eq_some_iff.1 hy).1
                simp at this; omega
              subst this
              simp [h1] at hy
              subst hy; exact h3
        obtain ⟨xs, hxl, hx⟩ := hxs n (Nat.le_refl _)
        refine ⟨_, xs, rfl, ⟨some a, n, cap, rfl, by simp [hxl], hle, by unfold maxLen at hmax; omega, fun i c hc => ?_⟩, ?_⟩
        · rw [List.getElem?_map] at hc
          obtain ⟨x, hxi, rfl⟩ := Option.map_eq_some_iff.1 hc
          have hcells := hx i x hxi
          unfold World.cells? at hcells
          rw [if_pos (Nat.zero_le _), hs] at hcells
          obtain ⟨hl, hg⟩ := mapM_some _ _ hcells
          have cell : ∀ j, j < size → ∃ y, W.cell? ((a.add (i * size)).add j) = some y ∧ (encα x)[j]? = some y := by
            intro j hj
            obtain ⟨y, h1, h2⟩ := hg j j (by simp [hj])
            exact ⟨y, h1, h2⟩
          have hspot : a.spot = none := by
            have h0 : 0 < xs.length := by have := (List.getElem?_eq_some_iff.1 hxi).1; omega
            have hx0 := hx 0 xs[0] (List.getElem?_eq_getElem h0)
            unfold World.cells? at hx0
            rw [if_pos (Nat.zero_le _), hs] at hx0
            obtain ⟨y, h1, _⟩ := (mapM_some _ _ hx0).2 0 0 (by simp [hpos])
            have := (cell_full h1).1
            simpa [Addr.add] using this
          obtain ⟨y0, hy0, _⟩ := cell 0 hpos
          have e1 : ∀ j, (a.add (i * size)).add j = ⟨a.block, a.off + i * size + j, none⟩ := by
            intro j; rw [addr_add_spot _ hspot, Addr.add_plain]
          rw [e1] at hy0
          obtain ⟨_, T, pre, sz, hf, _⟩ := cell_full hy0
          have hpre : ∀ j, j < size → pre[a.off + i * size + j]? = (encα x)[j]? := by
            intro j hj
            obtain ⟨y, h1, h2⟩ := cell j hj
            rw [e1] at h1
            obtain ⟨_, T', pre', sz', hf', hp'⟩ := cell_full h1
            simp only at hf hf'
            rw [hf] at hf'
            cases hf'
            rw [hp', h2]
          have hlast : a.off + i * size + size ≤ pre.length := by
            have := hpre (size - 1) (by omega)
            have hlt : size - 1 < (encα x).length := by rw [hpos2]; omega
            rw [List.getElem?_eq_getElem hlt] at this
            have := (List.getElem?_eq_some_iff.1 this).1
            omega
          refine ⟨a.block, a.off, T, pre, sz, false, ?_, hf, hlast, ?_⟩
          · cases a; simp only at hspot; subst hspot; rfl
          · apply List.ext_getElem?
            intro j
            by_cases hj : j < size
            · rw [List.getElem?_take_of_lt hj, List.getElem?_drop, hpre j hj]
            · rw [List.getElem?_eq_none (by simp; omega), List.getElem?_eq_none (by rw [hpos2]; omega)]
        · simp only [DataW.weights, hd, List.all_cons, Bool.and_eq_true, decide_eq_true_eq] at hw
          have h1 := hw.1
          simp only [List.length_map, hlen] at h1
          rw [hxl]
          exact Nat.le_trans (Nat.mul_le_mul_right _ (by omega)) h1
      · cases h
theorem open_rows {α H : Type} {enc : TypeId × Value → H} {P : Program} {W : World} {t e : TypeId} {size : Nat} (encα : α → List Value) (hd : P.underlying t = some (.slice e)) (hs : P.cellsOf e = size) (hpos : 0 < size) (hpos2 : ∀ x, (encα x).length = size)
    (hel : ∀ fuel cs d ps, DataW.trod enc P W 0 (fun _ => true) true fuel e cs = some (d, ps) → ∃ x, cs = encα x) {fuel : Nat} {cs : List Value} {d : DataW H} {ps : List MemPlace}
    (h : DataW.trod enc P W 0 (fun _ => true) true fuel t cs = some (d, ps)) (hw : (d.weights P t).all (· ≤ reachBytes) = true) :
    ∃ (v : Value) (xs : List α), cs = [v] ∧ rowsAt (full W) size v (xs.map encα) ∧ xs.length * P.bytesOf e ≤ reachBytes :=
  open_rowsW encα hd hs hpos hpos2 (fun fuel cs d ps h _ => hel fuel cs d ps h) h hw
theorem open_rowsQ {H : Type} {enc : TypeId × Value → H} {P : Program} {W : World} {t e : TypeId} {size : Nat} (Q : List Value → Prop) (hd : P.underlying t = some (.slice e)) (hs : P.cellsOf e = size) (hpos : 0 < size) (hpos2 : ∀ c, Q c → c.length = size)
    (hel : ∀ fuel cs d ps, DataW.trod enc P W 0 (fun _ => true) true fuel e cs = some (d, ps) → (d.weights P e).all (· ≤ reachBytes) = true → Q cs) {fuel : Nat} {cs : List Value} {d : DataW H} {ps : List MemPlace}
    (h : DataW.trod enc P W 0 (fun _ => true) true fuel t cs = some (d, ps)) (hw : (d.weights P t).all (· ≤ reachBytes) = true) :
    ∃ (v : Value) (es : List (List Value)), cs = [v] ∧ rowsAt (full W) size v es ∧ (∀ c ∈ es, Q c) ∧ es.length * P.bytesOf e ≤ reachBytes := by
  obtain ⟨v, xs, h1, h2, h3⟩ := open_rowsW (α := { c : List Value // Q c }) Subtype.val hd hs hpos (fun x => hpos2 _ x.2) (fun fuel cs d ps h w => ⟨⟨cs, hel fuel cs d ps h w⟩, rfl⟩) h hw
  refine ⟨v, xs.map Subtype.val, h1, h2, fun c hc => ?_, by rw [List.length_map]; exact h3⟩
  obtain ⟨x, _, rfl⟩ := List.mem_map.1 hc
  exact x.2
theorem weightsEach_of {H : Type} {P : Program} {q : Nat → Bool} : ∀ {ts : List TypeId} {ds : List (DataW H)}, (DataW.weightsEach P ts ds).all q = true → ∀ (i : Nat) t d, ts[i]? = some t → ds[i]? = some d → (d.weights P t).all q = true := by
  intro ts
  induction ts with
  | nil => intro ds h i t d ht; simp at ht
  | cons t ts ih =>
    intro ds h i t' d' ht hd
    cases ds with
    | nil => simp at hd
    | cons d ds =>
      simp only [DataW.weightsEach, List.all_append, Bool.and_eq_true] at h
      cases i with
      | zero => simp at ht hd; subst ht; subst hd; exact h.1
      | succ i => exact ih h.2 i t' d' (by simpa using ht) (by simpa using hd)
theorem open_struct {H : Type} {enc : TypeId × Value → H} {P : Program} {W : World} {t : TypeId} {fs : Array Field} (hd : P.underlying t = some (.struct fs)) {fuel : Nat} {cs : List Value} {d : DataW H} {ps : List MemPlace}
    (h : DataW.trod enc P W 0 (fun _ => true) true fuel t cs = some (d, ps)) (hw : (d.weights P t).all (· ≤ reachBytes) = true) :
    cs.length = P.cellsOf t ∧ ∀ (i ty off n : Nat), (fs[i]?).map (fun f => (f.type, f.offset)) = some (ty, off) → P.cellsOf ty = n → ∃ fuel' d' ps', DataW.trod enc P W 0 (fun _ => true) true fuel' ty ((cs.drop off).take n) = some (d', ps') ∧ (d'.weights P ty).all (· ≤ reachBytes) = true := by
  cases fuel with
  | zero => simp [DataW.trod] at h
  | succ fuel =>
    simp only [DataW.trod, hd] at h
    split at h
    · rename_i hlen
      obtain ⟨xs, hm, he⟩ := Option.map_eq_some_iff.1 h
      simp only [Prod.mk.injEq] at he
      obtain ⟨rfl, rfl⟩ := he
      obtain ⟨hl, hg⟩ := mapM_some _ _ hm
      refine ⟨hlen, fun i ty off n hf hn => ?_⟩
      obtain ⟨f, hf2, he⟩ := Option.map_eq_some_iff.1 hf
      cases he
      subst hn
      have hf' : fs.toList[i]? = some f := by simpa using hf2
      obtain ⟨y, hy, hyi⟩ := hg i f hf'
      refine ⟨fuel, y.1, y.2, hy, ?_⟩
      simp only [DataW.weights, hd] at hw
      exact weightsEach_of hw i f.type y.1 (by rw [List.getElem?_map, hf']; rfl) (by rw [List.getElem?_map, hyi]; rfl)
    · cases h
theorem open_bool_cs {H : Type} {enc : TypeId × Value → H} {P : Program} {W : World} {t : TypeId} (hd : P.underlying t = some .bool) {fuel : Nat} {cs : List Value} {d : DataW H} {ps : List MemPlace}
    (h : DataW.trod enc P W 0 (fun _ => true) true fuel t cs = some (d, ps)) : ∃ x : Bool, cs = [.bool x] := by
  cases fuel with
  | zero => simp [DataW.trod] at h
  | succ fuel =>
    simp only [DataW.trod, hd] at h
    split at h <;> first
      | (rename_i q; cases q; done)
      | (rename_i q _; cases q; done)
      | cases h
      | skip
    exact ⟨_, rfl⟩
theorem open_ints_struct {H : Type} {enc : TypeId × Value → H} {P : Program} {W : World} {t : TypeId} {fs : Array Field} (hd : P.underlying t = some (.struct fs)) (hc : P.cellsOf t = fs.size)
    (hf : ∀ (i : Nat) f, fs[i]? = some f → f.offset = i ∧ P.underlying f.type = some (.int .i64) ∧ P.cellsOf f.type = 1) {fuel : Nat} {cs : List Value} {d : DataW H} {ps : List MemPlace}
    (h : DataW.trod enc P W 0 (fun _ => true) true fuel t cs = some (d, ps)) : ∃ xs : List Int, xs.length = fs.size ∧ cs = xs.map i64 ∧ ∀ x ∈ xs, (Lit.int .i64 x).wf = true := by
  cases fuel with
  | zero => simp [DataW.trod] at h
  | succ fuel =>
    simp only [DataW.trod, hd] at h
    split at h
    · rename_i hlen
      obtain ⟨xs, hm, _⟩ := Option.map_eq_some_iff.1 h
      obtain ⟨hl, hg⟩ := mapM_some _ _ hm
      have each : ∀ i, i < fs.size → ∃ n : Int, cs[i]? = some (i64 n) ∧ (Lit.int .i64 n).wf = true := by
        intro i hi
        have hfi : fs[i]? = some fs[i] := Array.getElem?_eq_getElem hi
        obtain ⟨ho, hu, hcc⟩ := hf i _ hfi
        obtain ⟨y, hy, _⟩ := hg i fs[i] (by simp [hfi])
        rw [ho, hcc] at hy
        cases fuel with
        | zero => simp [DataW.trod] at hy
        | succ fuel =>
          have hlt : i < cs.length := by rw [hlen, hc]; exact hi
          have htk : (cs.drop i).take 1 = [cs[i]] := by
            rw [List.drop_eq_getElem_cons hlt]; rfl
          rw [htk] at hy
          simp only [DataW.trod, hu] at hy
          split at hy <;> first
            | (rename_i q; cases q; done)
            | (rename_i q _; cases q; done)
            | cases hy
            | skip
          rename_i k k' n hk hcs
          cases hk
          split at hy
          · rename_i hwf
            obtain ⟨rfl, hwf⟩ := hwf
            refine ⟨n, ?_, hwf⟩
            rw [List.getElem?_eq_getElem hlt]
            simpa using hcs
          · cases hy
      have build : ∀ m, m ≤ fs.size → ∃ ys : List Int, ys.length = m ∧ cs.take m = ys.map i64 ∧ ∀ x ∈ ys, (Lit.int .i64 x).wf = true := by
        intro m
        induction m with
        | zero => intro _; exact ⟨[], rfl, rfl, fun x hx => by simp at hx⟩
        | succ m ih =>
          intro hm
          obtain ⟨ys, h1, h2, h3⟩ := ih (by omega)
          obtain ⟨n, h4, h5⟩ := each m (by omega)
          refine ⟨ys ++ [n], by simp [h1], by rw [List.take_add_one, h4, h2]; simp, fun x hx => ?_⟩
          rcases List.mem_append.1 hx with q | q
          · exact h3 x q
          · simp at q; subst q; exact h5
      obtain ⟨ys, h1, h2, h3⟩ := build fs.size (Nat.le_refl _)
      exact ⟨ys, h1, by rw [← h2, List.take_of_length_le (by omega)], h3⟩
    · cases h
theorem open_int_cs {H : Type} {enc : TypeId × Value → H} {P : Program} {W : World} {t : TypeId} (hd : P.underlying t = some (.int .i64)) {fuel : Nat} {cs : List Value} {d : DataW H} {ps : List MemPlace}
    (h : DataW.trod enc P W 0 (fun _ => true) true fuel t cs = some (d, ps)) : ∃ x : Int, cs = [i64 x] ∧ (Lit.int .i64 x).wf = true := by
  cases fuel with
  | zero => simp [DataW.trod] at h
  | succ fuel =>
    simp only [DataW.trod, hd] at h
    split at h <;> first
      | (rename_i q; cases q; done)
      | (rename_i q _; cases q; done)
      | cases h
      | skip
    rename_i k k' n hk
    cases hk
    split at h
    · rename_i hwf
      obtain ⟨rfl, hwf⟩ := hwf
      exact ⟨n, rfl, hwf⟩
    · cases h
theorem slice_cell {P : Program} {W : World} {r : Reach} {b0 : Nat} {t e : TypeId} {v : Value} (hd : P.underlying t = some (.slice e)) (hval : Value.okWide P W r b0 t v) : v.cells.toList = [v] := by
  unfold Value.okWide at hval
  simp only [hd] at hval
  unfold Cell.okWide at hval
  simp only [hd] at hval
  unfold Cell.ok at hval
  cases v <;> simp only [hd] at hval <;> first | rfl | exact hval.elim
end Go.Proofs.YtghcnhimggbobaaGreat
namespace Go.Proofs.YtghcnhimggbobaaGreat
open Go GW Go.Proofs
theorem i64_of_wf {x : Int} (h : (Lit.int .i64 x).wf = true) : I64 x := by
  simp [Lit.wf, IntKind.min, IntKind.max, IntKind.bits, IntKind.signed] at h
  constructor <;> omega
theorem open_i64s {H : Type} {enc : TypeId × Value → H} {W : World} {fuel : Nat} {cs : List Value} {d : DataW H} {ps : List MemPlace} (h : DataW.trod enc Tryz.prog W 0 (fun _ => true) true fuel 25 cs = some (d, ps)) (hw : (d.weights Tryz.prog 25).all (· ≤ reachBytes) = true) :
    ∃ v, ∃ xs : List Int, cs = [v] ∧ rowsAt (full W) 1 v (xs.map encI) ∧ (∀ x ∈ xs, I64 x) ∧ (xs.length + 2) * 8 ≤ 140737488355328 := by
  obtain ⟨v, xs, h1, h2, h3⟩ := open_rows (P := Tryz.prog) (α := { x : Int // I64 x }) (fun x => encI x.1) Tryz.underlying25 (size := 1) (by kernel_rfl) (by decide) (fun _ => rfl) (fun fuel cs d ps h => by
    obtain ⟨x, hx, hwf⟩ := open_int_cs (P := Tryz.prog) Tryz.underlying3 h
    exact ⟨⟨x, i64_of_wf hwf⟩, hx⟩) h hw
  have hb : Tryz.prog.bytesOf 3 = 8 := by kernel_rfl
  rw [hb] at h3
  refine ⟨v, xs.map Subtype.val, h1, by rw [List.map_map]; exact h2, fun x hx => ?_, by rw [List.length_map]; unfold reachBytes at h3; omega⟩
  obtain ⟨y, _, rfl⟩ := List.mem_map.1 hx
  exact y.2
set_option maxRecDepth 20000
theorem one_cell {cs : List Value} {v : Value} (hl : cs.length = 1) (h : (cs.drop 0).take 1 = [v]) : cs = [v] := by
  match cs, hl with
  | [x], _ => simpa using h
theorem open_opP {H : Type} {enc : TypeId × Value → H} {W : World} {fuel : Nat} {cs : List Value} {d : DataW H} {ps : List MemPlace} (h : DataW.trod enc Tryz.prog W 0 (fun _ => true) true fuel 80 cs = some (d, ps)) : ∃ x : Op, cs = x.enc := by
  obtain ⟨xs, hl, hc, _⟩ := open_ints_struct (P := Tryz.prog) Tryz.underlying80 (by kernel_rfl) (fun i f hf => by
    have hi : i < 4 := by have := (Array.getElem?_eq_some_iff.1 hf).1; simpa using this
    match i, hi with
    | 0, _ | 1, _ | 2, _ | 3, _ => simp at hf; subst hf; exact ⟨rfl, by kernel_rfl, by kernel_rfl⟩) h
  match xs, hl with
  | [x0, x1, x2, x3], _ => exact ⟨⟨x0, x1, x2, x3⟩, hc⟩
theorem open_txn {H : Type} {enc : TypeId × Value → H} {W : World} {fuel : Nat} {cs : List Value} {d : DataW H} {ps : List MemPlace} (h : DataW.trod enc Tryz.prog W 0 (fun _ => true) true fuel 59 cs = some (d, ps)) (hw : (d.weights Tryz.prog 59).all (· ≤ reachBytes) = true) : ∃ t : Txn, txnC (full W) cs t := by
  obtain ⟨hl, hfs⟩ := open_struct Tryz.underlying59 h hw
  have c1 : Tryz.prog.cellsOf 59 = 1 := by kernel_rfl
  have c2 : Tryz.prog.cellsOf 57 = 1 := by kernel_rfl
  obtain ⟨f', d', ps', t0, w0⟩ := hfs 0 57 0 1 rfl c2
  obtain ⟨w, xs, h1, h2, _⟩ := open_rows (P := Tryz.prog) Op.enc Tryz.underlying57 (size := 4) (by kernel_rfl) (by decide) (fun _ => rfl) (fun fuel cs d ps h => open_opP h) t0 w0
  exact ⟨xs, w, one_cell (by rw [hl, c1]) h1, h2⟩
theorem open_thread {H : Type} {enc : TypeId × Value → H} {W : World} {fuel : Nat} {cs : List Value} {d : DataW H} {ps : List MemPlace} (h : DataW.trod enc Tryz.prog W 0 (fun _ => true) true fuel 48 cs = some (d, ps)) (hw : (d.weights Tryz.prog 48).all (· ≤ reachBytes) = true) : ∃ ts : List Txn, thrC (full W) cs ts := by
  obtain ⟨w, es, h1, h2, h3, _⟩ := open_rowsQ (P := Tryz.prog) (size := 1) (fun c => ∃ t : Txn, txnC (full W) c t) Tryz.underlying48 (by kernel_rfl) (by decide) (fun c ⟨t, w, hc, _⟩ => by rw [hc]; rfl) (fun fuel cs d ps h w => open_txn h w) h hw
  obtain ⟨ts, ht⟩ := All2.of (R := fun c t => txnC (full W) c t) (fun c hc => hc) es h3
  exact ⟨ts, w, es, h1, h2, ht⟩
theorem open_threads {H : Type} {enc : TypeId × Value → H} {W : World} {fuel : Nat} {cs : List Value} {d : DataW H} {ps : List MemPlace} (h : DataW.trod enc Tryz.prog W 0 (fun _ => true) true fuel 22 cs = some (d, ps)) (hw : (d.weights Tryz.prog 22).all (· ≤ reachBytes) = true) : ∃ v, ∃ p : List (List Txn), cs = [v] ∧ threadsAt (full W) v p := by
  obtain ⟨w, es, h1, h2, h3, _⟩ := open_rowsQ (P := Tryz.prog) (size := 1) (fun c => ∃ t : List Txn, thrC (full W) c t) Tryz.underlying22 (by kernel_rfl) (by decide) (fun c ⟨t, w, _, hc, _⟩ => by rw [hc]; rfl) (fun fuel cs d ps h w => open_thread h w) h hw
  obtain ⟨ts, ht⟩ := All2.of (R := fun c t => thrC (full W) c t) (fun c hc => hc) es h3
  exact ⟨w, ts, h1, es, h2, ht⟩
theorem open_plan {H : Type} {enc : TypeId × Value → H} {W : World} {base : Nat} {v : Value} {d : DataW H} {ps : List MemPlace} (hval : Value.okWide Tryz.prog W .any base 24 v) (h : DataW.Trod enc Tryz.prog W 0 (fun _ => true) true 24 v d ps)
    (hw : (d.weights Tryz.prog 24).all (· ≤ reachBytes) = true) : ∃ u p, v = .agg (planC u p).toArray ∧ threadsAt (full W) u p.threads := by
  unfold Value.okWide at hval
  simp only [Tryz.underlying24] at hval
  obtain ⟨arr, rfl, hsz, _⟩ := hval
  obtain ⟨fuel, t⟩ := h
  have t : DataW.trod enc Tryz.prog W 0 (fun _ => true) true fuel 24 arr.toList = some (d, ps) := t
  obtain ⟨hl, hfs⟩ := open_struct Tryz.underlying24 t hw
  have c1 : Tryz.prog.cellsOf 24 = 3 := by kernel_rfl
  have c2 : Tryz.prog.cellsOf 22 = 1 := by kernel_rfl
  have c3 : Tryz.prog.cellsOf 3 = 1 := by kernel_rfl
  have c4 : Tryz.prog.cellsOf 4 = 1 := by kernel_rfl
  obtain ⟨_, _, _, t0, w0⟩ := hfs 0 22 0 1 rfl c2
  obtain ⟨_, _, _, t1, w1⟩ := hfs 1 3 1 1 rfl c3
  obtain ⟨_, _, _, t2, w2⟩ := hfs 2 4 2 1 rfl c4
  obtain ⟨u, p, e0, hp⟩ := open_threads t0 w0
  obtain ⟨x, e1, _⟩ := open_int_cs Tryz.underlying3 t1
  obtain ⟨y, e2⟩ := open_bool_cs Tryz.underlying4 t2
  refine ⟨u, ⟨p, x, y⟩, ?_, hp⟩
  have : arr.toList = planC u ⟨p, x, y⟩ := by
    rw [c1] at hl
    generalize arr.toList = cs at *
    match cs, hl with
    | [a, b, c], _ =>
      simp at e0 e1 e2
      subst e0 e1 e2
      rfl
  rw [← this]
end Go.Proofs.YtghcnhimggbobaaGreat
