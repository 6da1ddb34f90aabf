/- Several texts in one; nothing here is a statement on the program. -/
import Derived.Test.YtghcnhimggbobaaGreatSA8
set_option linter.unusedVariables false
set_option linter.unusedSimpArgs false
namespace Go.Proofs.YtghcnhimggbobaaGreat
open Go GW Go.Proofs
def Kp (A B : Ar) : Prop := ∀ i, 16 ≤ i → i < 29 → B.at i = A.at i
theorem Kp.refl (A : Ar) : Kp A A := fun _ _ _ => rfl
theorem Acc.kp {P : Int → Prop} {A B : Ar} (a : Acc P A B) (hA : A.ok) (h : ∀ i, P i → i < 16 ∨ 29 ≤ i) : Kp A B := by
  intro j h0 h1
  cases a with
  | none => rfl
  | ld i i0 i1 => exact at_ld hA i0 i1 (by omega) (by omega)
  | put i x i0 i1 p hx => have := h i p; rw [at_put hA i0 i1 (by omega) (by omega), if_neg (by omega)]
  | cas i o x i0 i1 p hx hd => have := h i p; rw [at_cas hA i0 i1 (by omega) (by omega), if_neg (by omega)]
def Chn (A : Ar) : Int → List Int → Prop
  | f, [] => f = 0
  | f, s :: r => f = s + 1 ∧ (0 ≤ s ∧ s < 12) ∧ ∃ w, A.at (17 + s) = w * 4 ∧ Chn A w r
theorem Chn.rng {A : Ar} {f : Int} {fr : List Int} (h : Chn A f fr) : 0 ≤ f ∧ f ≤ 12 := by
  cases fr with
  | nil => have : f = 0 := h; omega
  | cons s r => obtain ⟨h1, h2, _⟩ := h; omega
theorem Chn.cong {A B : Ar} : ∀ {fr : List Int} {f : Int}, (∀ s ∈ fr, B.at (17 + s) = A.at (17 + s)) → Chn A f fr → Chn B f fr := by
  intro fr
  induction fr with
  | nil => intro f _ h; exact h
  | cons s r ih =>
    intro f e h
    obtain ⟨h1, h2, w, h3, h4⟩ := h
    exact ⟨h1, h2, w, by rw [e s (by simp)]; exact h3, ih (fun s hs => e s (List.mem_cons_of_mem _ hs)) h4⟩
theorem Chn.mem {A : Ar} : ∀ {fr : List Int} {f : Int}, Chn A f fr → ∀ s ∈ fr, 0 ≤ s ∧ s < 12 := by
  intro fr
  induction fr with
  | nil => intro f _ s hs; cases hs
  | cons a r ih =>
    intro f h s hs
    obtain ⟨h1, h2, w, h3, h4⟩ := h
    rcases List.mem_cons.1 hs with rfl | hs
    · exact h2
    · exact ih h4 s hs
structure Fre (A : Ar) (fr : List Int) (c : Int) : Prop where
  hd : ∃ f, A.at 16 = (c * 16 + f) * 4 ∧ Chn A f fr
  nx : ∀ s, 0 ≤ s → s < 12 → ∃ w, A.at (17 + s) = w * 4 ∧ 0 ≤ w ∧ w ≤ 12
  c0 : 0 ≤ c
theorem Fre.kp {A B : Ar} {fr : List Int} {c : Int} (F : Fre A fr c) (k : Kp A B) : Fre B fr c := by
  obtain ⟨f, h1, h2⟩ := F.hd
  refine ⟨⟨f, by rw [k 16 (by decide) (by decide)]; exact h1, h2.cong fun s hs => ?_⟩, fun s h0 h1 => ?_, F.c0⟩
  · have := h2.mem s hs
    exact k _ (by omega) (by omega)
  · rw [k _ (by omega) (by omega)]; exact F.nx s h0 h1
theorem head_word {x c f : Int} (h : x = (c * 16 + f) * 4) (c0 : 0 ≤ c) (c1 : c < 100000) (f0 : 0 ≤ f) (f1 : f ≤ 12) : hdIs x = true ∧ valOf x / 16 = c ∧ valOf x % 16 = f := by
  have v : valOf x = c * 16 + f := by rw [h]; exact valOf_val (by omega) (by omega)
  have p : plainOf x = some (c * 16 + f) := by rw [h]; exact plainOf_val (by omega) (by omega)
  refine ⟨?_, by rw [v]; omega, by rw [v]; omega⟩
  unfold hdIs
  rw [p, v, decide_eq_true (by omega), decide_eq_true (by omega)]
  rfl
theorem next_word {x w : Int} (h : x = w * 4) (w0 : 0 ≤ w) (w1 : w ≤ 12) : nxIs x = true ∧ valOf x = w := by
  have v : valOf x = w := by rw [h]; exact valOf_val (by omega) (by omega)
  refine ⟨?_, v⟩
  unfold nxIs
  rw [v, h, plainOf_val (by omega) (by omega), decide_eq_true (by omega)]
  rfl
structure Lst.own (l : Lst) : Prop where
  ov : l.over = false
  ld : l.at_ ≠ 0 → l.word = (l.count * 16 + l.first) * 4 ∧ l.first ≤ 12
structure Push.own (p : Push) (A : Ar) : Prop where
  l : p.l.own
  st : p.l.at_ = 2 → A.at (17 + p.slot) = p.l.first * 4
structure Pop.own (p : Pop) (A : Ar) (c : Int) : Prop where
  l : p.l.own
  old : p.l.at_ ≠ 0 → p.l.count ≤ c ∧ (p.l.count = c → A.at 16 = p.l.word)
  st : p.l.at_ = 2 → p.l.count = c → A.at (17 + p.l.first - 1) = p.next * 4
  sl : p.slot = -1
def Th.hold (x : Th) : List Int := x.cache ++ (x.limbo.map Ret.slot ++ (x.ripe ++ if x.slot = -1 then [] else [x.slot]))
structure Th.own (x : Th) (A : Ar) (c : Int) : Prop where
  ri : x.next ≠ some .fre → x.ripe = [] ∧ x.push = none
  sl : x.slot ≠ -1 → x.next = some .tri ∨ x.next = some .ret
  po : x.pop ≠ none → x.next = some .tak
  push : ∀ p, x.push = some p → p.own A ∧ x.ripe.head? = some p.slot
  pop : ∀ p, x.pop = some p → p.own A c
def Swp (hs : Int → Prop) (A B : Ar) (c d : Int) : Prop :=
  (d = c + 1 ∧ ∀ i, 17 ≤ i → i < 29 → B.at i = A.at i) ∨
  (d = c ∧ B.at 16 = A.at 16 ∧ ∀ s, 0 ≤ s → s < 12 → ¬ hs s → B.at (17 + s) = A.at (17 + s))
theorem Swp.kp {hs : Int → Prop} {A B : Ar} {c : Int} (k : Kp A B) : Swp hs A B c c := .inr ⟨rfl, k 16 (by decide) (by decide), fun s h0 h1 _ => k _ (by omega) (by omega)⟩
theorem Th.own.other {y : Th} {A B : Ar} {c d : Int} {fr : List Int} {hs : Int → Prop} (w : y.own A c) (oy : y.ok) (F : Fre A fr c) (hc : c < 100000) (s : Swp hs A B c d) (hd : ∀ s, hs s → s ∉ y.ripe ∧ s ∉ fr) : y.own B d := by
  refine ⟨w.ri, w.sl, w.po, fun p hp => ?_, fun p hp => ?_⟩
  · obtain ⟨o, h2⟩ := w.push p hp
    have op := oy.push p hp
    refine ⟨⟨o.l, fun h => ?_⟩, h2⟩
    rw [← o.st h]
    have p0 := op.s0; have p1 := op.s1
    rcases s with ⟨_, k⟩ | ⟨_, _, k⟩
    · exact k _ (by omega) (by omega)
    · exact k _ (by omega) (by omega) fun q => (hd _ q).1 (List.mem_of_mem_head? (by rw [h2]; rfl))
  · have o := w.pop p hp
    have op := oy.pop p hp
    rcases s with ⟨e, k⟩ | ⟨e, k1, k2⟩
    · subst e
      exact ⟨o.l, fun h => by have := (o.old h).1; exact ⟨by omega, fun q => by omega⟩, fun h q => by have := (o.old (by omega)).1; omega, o.sl⟩
    · subst e
      refine ⟨o.l, fun h => ⟨(o.old h).1, fun q => by rw [k1]; exact (o.old h).2 q⟩, fun h q => ?_, o.sl⟩
      have f := op.f o.l.ov (by omega)
      rw [← o.st h q, show 17 + p.l.first - 1 = 17 + (p.l.first - 1) by omega]
      refine k2 _ (by omega) (by omega) fun z => (hd _ z).2 ?_
      obtain ⟨g, g1, g2⟩ := F.hd
      have e1 := (o.l.ld (by omega)).1
      have e2 := (o.old (by omega)).2 q
      have e3 := g2.rng
      have : g = p.l.first := by omega
      cases fr with
      | nil => have : g = 0 := g2; omega
      | cons s r => have : g = s + 1 := g2.1; rw [show p.l.first - 1 = s by omega]; simp
theorem Th.own.kp {y : Th} {A B : Ar} {c : Int} (w : y.own A c) (oy : y.ok) (k : Kp A B) : y.own B c := by
  refine ⟨w.ri, w.sl, w.po, fun p hp => ?_, fun p hp => ?_⟩
  · obtain ⟨o, h2⟩ := w.push p hp
    have op := oy.push p hp
    have p0 := op.s0; have p1 := op.s1
    exact ⟨⟨o.l, fun h => by rw [k _ (by omega) (by omega)]; exact o.st h⟩, h2⟩
  · have o := w.pop p hp
    have op := oy.pop p hp
    refine ⟨o.l, fun h => ⟨(o.old h).1, fun q => by rw [k 16 (by decide) (by decide)]; exact (o.old h).2 q⟩, fun h q => ?_, o.sl⟩
    have f := op.f o.l.ov (by omega)
    rw [k _ (by omega) (by omega)]; exact o.st h q
structure Res (x : Th) (A : Ar) (fr : List Int) (c : Int) (y : Th) (B : Ar) : Prop where
  ex : ∃ fr' d, Fre B fr' d ∧ y.own B d ∧ Swp (· ∈ x.ripe) A B c d ∧ (∀ s, fr'.count s + y.hold.count s = fr.count s + x.hold.count s) ∧ fr'.length ≤ fr.length + 1 ∧ fr.length ≤ fr'.length + 1
theorem Res.same {x y : Th} {A B : Ar} {fr : List Int} {c : Int} (F : Fre A fr c) (k : Kp A B) (w : y.own B c) (h : ∀ s, y.hold.count s = x.hold.count s) : Res x A fr c y B :=
  ⟨fr, c, F.kp k, w, .kp k, fun s => by rw [h], by omega, by omega⟩
theorem Res.of {x x1 y : Th} {A B : Ar} {fr : List Int} {c : Int} (r : Res x1 A fr c y B) (h : ∀ s, x1.hold.count s = x.hold.count s) (hs : ∀ s, s ∈ x1.ripe → s ∈ x.ripe) : Res x A fr c y B := by
  obtain ⟨fr', d, h1, h2, h3, h4, h5⟩ := r.ex
  refine ⟨fr', d, h1, h2, ?_, fun s => by rw [h4 s, h s], h5⟩
  rcases h3 with h3 | ⟨e1, e2, e3⟩
  · exact .inl h3
  · exact .inr ⟨e1, e2, fun s h0 h1 hn => e3 s h0 h1 fun q => hn (hs s q)⟩
theorem Pop.new_own {A : Ar} {c : Int} : Pop.new.own A c := ⟨⟨rfl, fun h => absurd rfl h⟩, fun h => absurd rfl h, fun h => by simp [Pop.new] at h, rfl⟩
theorem Push.new_own {A : Ar} {s : Int} : (Push.new s).own A := ⟨⟨rfl, fun h => absurd rfl h⟩, fun h => by simp [Push.new] at h⟩
theorem Kp.ld {A : Ar} {i : Int} (hA : A.ok) (h0 : 0 ≤ i) (h1 : i < 634) : Kp A (A.ld i) := fun j j0 j1 => at_ld hA h0 h1 (by omega) (by omega)
theorem Kp.fail {A : Ar} {o x : Int} (hA : A.ok) (h : A.at 16 ≠ o) : Kp A (A.cas 16 o x) := fun j j0 j1 => by
  rw [at_cas hA (by decide) (by decide) (by omega) (by omega), if_neg h]
  split
  · rename_i e; rw [← e]
  · rfl
theorem Pop.step_own {p : Pop} {A : Ar} {fr : List Int} {c : Int} (o : p.ok) (w : p.own A c) (hA : A.ok) (F : Fre A fr c) (hc : c < 90000) :
    (p.step A).2.1 = 0 ∧ (((p.step A).1.l.over = false ∧ Kp A (p.step A).2.2 ∧ (p.step A).1.own (p.step A).2.2 c) ∨
      ((p.step A).1.l.over = true ∧ (p.step A).1.slot = -1 ∧ Kp A (p.step A).2.2) ∨
      ((p.step A).1.l.over = true ∧ ∃ s fr', fr = s :: fr' ∧ (p.step A).1.slot = s ∧ (0 ≤ s ∧ s < 12) ∧ Fre (p.step A).2.2 fr' (c + 1) ∧ ∀ i, 17 ≤ i → i < 29 → (p.step A).2.2.at i = A.at i)) := by
  obtain ⟨f, f1, f2⟩ := F.hd
  have fr0 := f2.rng
  have c0 := F.c0
  obtain ⟨d1, d2, d3⟩ := head_word f1 c0 (by omega) fr0.1 fr0.2
  have ol := o.l
  have a0 := ol.a0; have a1 := ol.a1
  unfold Pop.step
  rw [if_neg (by rw [w.l.ov]; decide)]
  by_cases h0 : p.l.at_ = 0
  · rw [if_pos h0, if_pos d1]
    refine ⟨rfl, ?_⟩
    have k := Kp.ld (i := 16) hA (by decide) (by decide)
    by_cases hf : f = 0
    · refine .inr (.inl ⟨?_, w.sl, k⟩)
      rw [d3]; exact decide_eq_true hf
    · refine .inl ⟨?_, k, ⟨⟨?_, fun _ => ⟨?_, ?_⟩⟩, fun _ => ⟨?_, fun _ => ?_⟩, fun h => ?_, w.sl⟩⟩
      · rw [d3]; exact decide_eq_false hf
      · rw [d3]; exact decide_eq_false hf
      · show A.at 16 = (valOf (A.at 16) / 16 * 16 + valOf (A.at 16) % 16) * 4
        rw [d2, d3]; exact f1
      · show valOf (A.at 16) % 16 ≤ 12
        rw [d3]; exact fr0.2
      · show valOf (A.at 16) / 16 ≤ c
        rw [d2]; exact Int.le_refl c
      · exact k 16 (by decide) (by decide)
      · simp [Lst.loaded] at h
  · rw [if_neg h0]
    have pf := o.f w.l.ov h0
    have l1 := w.l.ld h0
    have od := w.old h0
    by_cases h1 : p.l.at_ = 1
    · rw [if_pos h1]
      obtain ⟨v, v1, v2, v3⟩ := F.nx (p.l.first - 1) (by omega) (by omega)
      have v1 : A.at (17 + p.l.first - 1) = v * 4 := by rw [show 17 + p.l.first - 1 = 17 + (p.l.first - 1) by omega]; exact v1
      obtain ⟨n1, n2⟩ := next_word v1 v2 v3
      rw [if_pos n1]
      have k := Kp.ld (i := 17 + p.l.first - 1) hA (by omega) (by omega)
      refine ⟨rfl, .inl ⟨w.l.ov, k, ⟨⟨w.l.ov, fun _ => l1⟩, fun _ => ⟨od.1, fun q => ?_⟩, fun _ q => ?_, w.sl⟩⟩⟩
      · rw [k 16 (by decide) (by decide)]; exact od.2 q
      · show (A.ld (17 + p.l.first - 1)).at (17 + p.l.first - 1) = valOf (A.at (17 + p.l.first - 1)) * 4
        rw [k _ (by omega) (by omega), n2]; exact v1
    · rw [if_neg h1]
      have h2 : p.l.at_ = 2 := by omega
      by_cases hw : A.at 16 = p.l.word
      · rw [if_pos hw]
        refine ⟨rfl, .inr (.inr ⟨rfl, ?_⟩)⟩
        have cc : p.l.count = c := by omega
        have ff : p.l.first = f := by omega
        have st := w.st h2 cc
        cases fr with
        | nil => have : f = 0 := f2; omega
        | cons s r =>
          obtain ⟨e1, e2, v, e3, e4⟩ := f2
          have hv : p.next = v := by rw [show 17 + p.l.first - 1 = 17 + s by omega, e3] at st; omega
          have vr := e4.rng
          have at16 : ∀ i, 0 ≤ i → i < 634 → (A.cas 16 p.l.word (p.l.turned p.next)).at i = if 16 = i then ((c + 1) * 16 + v) * 4 else A.at i := fun i i0 i1 => by
            rw [at_cas hA (by decide) (by decide) i0 i1, if_pos hw, hv]
            unfold Lst.turned
            rw [cc, Int.emod_eq_of_lt (by omega) (by omega)]
          have oth : ∀ i, 17 ≤ i → i < 29 → (A.cas 16 p.l.word (p.l.turned p.next)).at i = A.at i := fun i i0 i1 => by rw [at16 i (by omega) (by omega), if_neg (by omega)]
          refine ⟨s, r, rfl, (by show p.l.first - 1 = s; omega), e2, ⟨⟨v, by rw [at16 16 (by decide) (by decide)]; rfl, e4.cong fun t ht => ?_⟩, fun t t0 t1 => by rw [oth _ (by omega) (by omega)]; exact F.nx t t0 t1, by omega⟩, oth⟩
          have := e4.mem t ht
          exact oth _ (by omega) (by omega)
      · rw [if_neg hw]
        have k := Kp.fail (x := p.l.turned p.next) hA hw
        exact ⟨rfl, .inl ⟨w.l.ov, k, ⟨⟨w.l.ov, fun h => absurd rfl h⟩, (fun h => absurd rfl h), (fun h => by simp at h), w.sl⟩⟩⟩
theorem Push.step_own {p : Push} {A : Ar} {fr : List Int} {c : Int} (o : p.ok) (w : p.own A) (hA : A.ok) (F : Fre A fr c) (hc : c < 90000) (hs : p.slot ∉ fr) :
    (p.step A).2.1 = 0 ∧ (p.step A).1.slot = p.slot ∧ (((p.step A).1.l.over = false ∧ (p.step A).1.own (p.step A).2.2 ∧ Fre (p.step A).2.2 fr c ∧ Swp (· = p.slot) A (p.step A).2.2 c c) ∨
      ((p.step A).1.l.over = true ∧ Fre (p.step A).2.2 (p.slot :: fr) (c + 1) ∧ ∀ i, 17 ≤ i → i < 29 → (p.step A).2.2.at i = A.at i)) := by
  obtain ⟨f, f1, f2⟩ := F.hd
  have fr0 := f2.rng
  have c0 := F.c0
  obtain ⟨d1, d2, d3⟩ := head_word f1 c0 (by omega) fr0.1 fr0.2
  have ol := o.l
  have a0 := ol.a0; have a1 := ol.a1
  have p0 := o.s0; have p1 := o.s1
  unfold Push.step
  rw [if_neg (by rw [w.l.ov]; decide)]
  by_cases h0 : p.l.at_ = 0
  · rw [if_pos h0, if_pos d1]
    have k := Kp.ld (i := 16) hA (by decide) (by decide)
    refine ⟨rfl, rfl, .inl ⟨w.l.ov, ⟨⟨w.l.ov, fun _ => ⟨?_, ?_⟩⟩, fun h => ?_⟩, F.kp k, .kp k⟩⟩
    · show A.at 16 = (valOf (A.at 16) / 16 * 16 + valOf (A.at 16) % 16) * 4
      rw [d2, d3]; exact f1
    · show valOf (A.at 16) % 16 ≤ 12
      rw [d3]; exact fr0.2
    · simp [Lst.loaded] at h
  · rw [if_neg h0]
    have l1 := w.l.ld h0
    have g0 := ol.f0
    by_cases h1 : p.l.at_ = 1
    · rw [if_pos h1]
      have at17 : ∀ i, 0 ≤ i → i < 634 → (A.put (17 + p.slot) (p.l.first * 4)).at i = if 17 + p.slot = i then p.l.first * 4 else A.at i := fun i i0 i1 => at_put hA (by omega) (by omega) i0 i1
      refine ⟨rfl, rfl, .inl ⟨w.l.ov, ⟨⟨w.l.ov, fun _ => l1⟩, fun _ => ?_⟩, ⟨⟨f, ?_, f2.cong fun t ht => ?_⟩, fun t t0 t1 => ?_, c0⟩, .inr ⟨rfl, ?_, fun t t0 t1 hn => ?_⟩⟩⟩
      · show (A.put (17 + p.slot) (p.l.first * 4)).at (17 + p.slot) = p.l.first * 4
        rw [at17 _ (by omega) (by omega), if_pos rfl]
      · rw [at17 _ (by omega) (by omega), if_neg (by omega)]; exact f1
      · have := f2.mem t ht
        rw [at17 _ (by omega) (by omega), if_neg fun e => hs (by rw [show p.slot = t by omega]; exact ht)]
      · show ∃ w, (A.put (17 + p.slot) (p.l.first * 4)).at (17 + t) = w * 4 ∧ 0 ≤ w ∧ w ≤ 12
        rw [at17 _ (by omega) (by omega)]
        split
        · exact ⟨_, rfl, g0, l1.2⟩
        · exact F.nx t t0 t1
      · rw [at17 _ (by omega) (by omega), if_neg (by omega)]
      · rw [at17 _ (by omega) (by omega), if_neg fun e => hn (by omega)]
    · rw [if_neg h1]
      have h2 : p.l.at_ = 2 := by omega
      have st := w.st h2
      by_cases hw : A.at 16 = p.l.word
      · have ff : p.l.first = f := by have := ol.f1; omega
        have cc : p.l.count = c := by omega
        have at16 : ∀ i, 0 ≤ i → i < 634 → (A.cas 16 p.l.word (p.l.turned (p.slot + 1))).at i = if 16 = i then ((c + 1) * 16 + (p.slot + 1)) * 4 else A.at i := fun i i0 i1 => by
          rw [at_cas hA (by decide) (by decide) i0 i1, if_pos hw]
          unfold Lst.turned
          rw [cc, Int.emod_eq_of_lt (by omega) (by omega)]
        have oth : ∀ i, 17 ≤ i → i < 29 → (A.cas 16 p.l.word (p.l.turned (p.slot + 1))).at i = A.at i := fun i i0 i1 => by rw [at16 i (by omega) (by omega), if_neg (by omega)]
        refine ⟨rfl, rfl, .inr ⟨decide_eq_true hw, ⟨⟨p.slot + 1, by rw [at16 16 (by decide) (by decide)]; rfl, rfl, ⟨p0, p1⟩, f, ?_, f2.cong fun t ht => ?_⟩, fun t t0 t1 => by rw [oth _ (by omega) (by omega)]; exact F.nx t t0 t1, by omega⟩, oth⟩⟩
        · rw [oth _ (by omega) (by omega), st, ff]
        · have := f2.mem t ht
          exact oth _ (by omega) (by omega)
      · have k := Kp.fail (x := p.l.turned (p.slot + 1)) hA hw
        exact ⟨rfl, rfl, .inl ⟨decide_eq_false hw, ⟨⟨decide_eq_false hw, fun h => absurd rfl h⟩, (fun h => by simp at h)⟩, F.kp k, .kp k⟩⟩
theorem hold_count (x : Th) (s : Int) : x.hold.count s = x.cache.count s + ((x.limbo.map Ret.slot).count s + (x.ripe.count s + (if x.slot = -1 then [] else [x.slot] : List Int).count s)) := by
  unfold Th.hold
  rw [List.count_append, List.count_append, List.count_append]
theorem Th.own.idle {y : Th} {A : Ar} {c : Int} (h1 : y.ripe = []) (h2 : y.push = none) (h3 : y.slot = -1) (h4 : y.pop = none) : y.own A c :=
  ⟨fun _ => ⟨h1, h2⟩, fun h => absurd h3 h, fun h => absurd h4 h, fun p hp => by rw [h2] at hp; (cases hp), fun p hp => by rw [h4] at hp; (cases hp)⟩
section
variable {A : Ar} {x : Th} {L : List Int} {pick c : Int} {fr : List Int}
theorem Th.own.rest (w : x.own A c) (h : x.next ≠ some .fre ∧ x.next ≠ some .tri ∧ x.next ≠ some .ret ∧ x.next ≠ some .tak) : x.ripe = [] ∧ x.push = none ∧ x.slot = -1 ∧ x.pop = none := by
  obtain ⟨n1, n2, n3, n4⟩ := h
  have r := w.ri n1
  refine ⟨r.1, r.2, ?_, ?_⟩
  · by_cases e : x.slot = -1
    · exact e
    · rcases w.sl e with h | h
      · exact absurd h n2
      · exact absurd h n3
  · cases e : x.pop with
    | none => rfl
    | some p => exact absurd (w.po (by rw [e]; simp)) n4
theorem Th.tris_own (ox : x.ok) (hw : x.wrs) (hA : A.ok) (F : Fre A fr c) (w : x.own A c) (hn : x.next = some .tri) : Res x A fr c (x.tris A).1 (x.tris A).2.2 := by
  unfold Th.tris
  cases e : x.att with
  | none => exact .same F (.refl A) w fun _ => rfl
  | some a =>
    have k := (At.step_acc (ox.att a e).1 hA (hw a e)).kp hA fun i p => by unfold inAtt at p; omega
    have w1 := w.kp ox k
    refine .same F k ⟨fun _ => w1.ri (by rw [hn]; simp), fun _ => ?_, fun h => ?_, w1.push, w1.pop⟩ fun _ => rfl
    · simp only
      split
      · exact .inr rfl
      · exact .inl hn
    · have := w.po h
      rw [hn] at this; cases this
theorem Th.with_own {s : Int} (h1 : x.ripe = []) (h2 : x.push = none) (h4 : x.pop = none) : (x.with_ s L).own A c :=
  ⟨fun _ => ⟨h1, h2⟩, fun _ => .inl rfl, fun h => absurd h4 h, fun p hp => by have hp : x.push = some p := hp; rw [h2] at hp; (cases hp), fun p hp => by have hp : x.pop = some p := hp; rw [h4] at hp; (cases hp)⟩
theorem with_count {s t : Int} (hs : s ≠ -1) (h3 : x.slot = -1) : (x.with_ s L).hold.count t = x.hold.count t + [s].count t := by
  rw [hold_count, hold_count, h3]
  show _ + (_ + (_ + (if s = -1 then [] else [s] : List Int).count t)) = _
  rw [if_neg hs, if_pos rfl]
  simp only [Th.with_, List.count_nil]
  omega
theorem Th.taks_own (ox : x.ok) (hw : x.wrs) (hA : A.ok) (F : Fre A fr c) (hc : c < 90000) (w : x.own A c) (hn : x.next = some .tak ∨ x.next = some .fre) (hr : x.ripe = []) (hq : x.push = none) :
    Res x A fr c (x.taks A L).1.1 (x.taks A L).1.2.2 := by
  have h3 : x.slot = -1 := by
    by_cases e : x.slot = -1
    · exact e
    · rcases w.sl e with h | h <;> rcases hn with q | q <;> (rw [q] at h; cases h)
  have main : ∀ p : Option Pop, x.pop = p →
      let q := (p.getD .new).step A
      let r : (Th × Int × Ar) × List Int := if q.1.l.over = false ∨ q.2.1 ≠ 0 then (({ x with pop := some q.1, next := some .tak }, q.2.1, q.2.2), L) else
        if q.1.slot = -1 then (({ x with pop := none, end_ := 1, next := some .lea }, 0, q.2.2), L) else
        ((({ x with pop := none } : Th).with_ q.1.slot L, 0, q.2.2), lived q.1.slot L)
      Res x A fr c r.1.1 r.1.2.2 := by
    intro p hp
    have po : (p.getD .new).ok ∧ (p.getD .new).own A c := by
      cases p with
      | none => exact ⟨Pop.new_ok, Pop.new_own⟩
      | some p => exact ⟨ox.pop p hp, w.pop p hp⟩
    obtain ⟨s0, s1⟩ := Pop.step_own po.1 po.2 hA F hc
    generalize (p.getD .new).step A = q at s0 s1
    simp only
    rcases s1 with ⟨s1, k, wq⟩ | ⟨s1, s2, k⟩ | ⟨s1, s, fr', e1, e2, e3, F', k⟩
    · rw [if_pos (.inl s1)]
      exact .same F k ⟨fun _ => ⟨hr, hq⟩, fun h => absurd h3 h, fun _ => rfl, fun p hp => by have hp : x.push = some p := hp; rw [hq] at hp; (cases hp), fun p hp => by cases hp; exact wq⟩ fun _ => rfl
    · rw [if_neg (by rw [s1, s0]; simp), if_pos s2]
      exact .same F k (.idle hr hq h3 rfl) fun _ => rfl
    · rw [if_neg (by rw [s1, s0]; simp), if_neg (by omega), e2]
      subst e1
      refine ⟨fr', c + 1, F', Th.with_own hr hq rfl, .inl ⟨rfl, k⟩, fun t => ?_, by simp only [List.length_cons]; omega, by simp only [List.length_cons]; omega⟩
      have g1 := with_count (x := { x with pop := none }) (L := L) (s := s) (t := t) (by omega) h3
      have g2 : ({ x with pop := none } : Th).hold.count t = x.hold.count t := rfl
      have g3 : (s :: fr').count t = fr'.count t + [s].count t := by rw [List.count_cons, List.count_singleton]
      show fr'.count t + (({ x with pop := none } : Th).with_ s L).hold.count t = (s :: fr').count t + x.hold.count t
      omega
  unfold Th.taks
  cases hp : x.pop with
  | some p => exact main _ hp
  | none =>
    cases hl : x.cache.getLast? with
    | none => exact main _ hp
    | some s =>
      have hm := ox.ca s (List.mem_of_getLast? hl)
      have hcp := ox.cap
      have hlive := ox.live (.inl (by rcases hn with h | h <;> (rw [h]; simp)))
      have hc2 : x.limbo.length + x.ripe.length + 16 ≤ 16 * x.evs.length + x.tries.toNat := by
        rcases hn with h | h <;> (rw [h] at hcp; simp only [restOf, flagOf] at hcp; omega)
      have o1 : ({ x with cache := x.cache.dropLast, pop := none, next := some .tak } : Th).ok := { ox with
        pop := fun n h => by cases h
        cl := by show (x.cache.dropLast).length ≤ 2; rw [List.length_dropLast]; have := ox.cl; omega
        ca := fun s hs => ox.ca s (List.dropLast_subset _ hs)
        live := fun _ => hlive
        ans := fun h => by cases h
        s2 := fun h => by rcases h with h | h <;> cases h
        cap := by simp only [restOf, flagOf]; omega }
      have o2 := Th.with_ok (L := L) o1 rfl hm.1 hm.2
      have e : ({ x with cache := x.cache.dropLast } : Th).with_ s L = ({ x with cache := x.cache.dropLast, pop := none, next := some .tak } : Th).with_ s L := by
        unfold Th.with_ Th.ops
        simp only [hp]
      refine .of (x1 := ({ x with cache := x.cache.dropLast } : Th).with_ s L) ?_ (fun t => ?_) fun t ht => ht
      · rw [e]
        exact Th.tris_own o2 (Th.with_wrs hm.1) hA F (Th.with_own hr hq rfl) rfl
      · rw [with_count (x := { x with cache := x.cache.dropLast }) (by omega) h3, hold_count, hold_count]
        have hcs : x.cache = x.cache.dropLast ++ [s] := by
          obtain ⟨ys, hy⟩ := List.getLast?_eq_some_iff.1 hl
          rw [hy, List.dropLast_concat]
        have : x.cache.count t = x.cache.dropLast.count t + [s].count t := by
          rw [← List.count_append, ← hcs]
        simp only
        omega
theorem cached_count (t : Int) : x.cached.hold.count t = x.hold.count t := by
  unfold Th.cached
  split
  · rw [hold_count, hold_count]
    simp only [List.count_append]
    have : (x.ripe.take (2 - x.cache.length)).count t + (x.ripe.drop (2 - x.cache.length)).count t = x.ripe.count t := by
      rw [← List.count_append, List.take_append_drop]
    omega
  · rfl
theorem Th.cached_own (w : x.own A c) (hn : x.next = some .fre) : x.cached.own A c := by
  unfold Th.cached
  split
  · rename_i h
    exact ⟨fun q => absurd hn q, w.sl, w.po, fun p hp => by have hp : x.push = some p := hp; rw [h] at hp; (cases hp), w.pop⟩
  · exact w
theorem Th.cached_sub {s : Int} (h : s ∈ x.cached.ripe) : s ∈ x.ripe := by
  unfold Th.cached at h
  split at h
  · exact List.mem_of_mem_drop h
  · exact h
theorem Th.fres_own (ox : x.ok) (hw : x.wrs) (hA : A.ok) (F : Fre A fr c) (hc : c < 90000) (w : x.own A c) (hn : x.next = some .fre) (hd : ∀ s ∈ x.ripe, s ∉ fr) :
    Res x A fr c (x.fres A L).1.1 (x.fres A L).1.2.2 := by
  have oc := Th.cached_ok ox
  have hn' : x.cached.next = some .fre := by rw [Th.cached_next]; exact hn
  have hw' : x.cached.wrs := by unfold Th.cached; split <;> exact hw
  have wc := Th.cached_own w hn
  refine .of (x1 := x.cached) ?_ (fun t => cached_count t) fun s => Th.cached_sub
  have hd : ∀ s ∈ x.cached.ripe, s ∉ fr := fun s hs => hd s (Th.cached_sub hs)
  unfold Th.fres
  simp only
  generalize x.cached = y at oc hn' hw' wc hd ⊢
  split
  · rename_i hr
    refine Th.taks_own oc hw' hA F hc wc (.inr hn') hr ?_
    cases e : y.push with
    | none => rfl
    | some p => have := (wc.push p e).2; rw [hr] at this; cases this
  · rename_i s r hr
    have hm := oc.ri s (by rw [hr]; simp)
    have hpo : y.pop = none := by
      cases e : y.pop with
      | none => rfl
      | some p => have := wc.po (by rw [e]; simp); rw [hn'] at this; cases this
    have hsl : y.slot = -1 := by
      by_cases e : y.slot = -1
      · exact e
      · rcases wc.sl e with h | h <;> (rw [hn'] at h; cases h)
    have po : (y.push.getD (.new s)).ok ∧ (y.push.getD (.new s)).own A ∧ (y.push.getD (.new s)).slot = s := by
      cases hp : y.push with
      | none => exact ⟨Push.new_ok hm.1 hm.2, Push.new_own, rfl⟩
      | some p =>
        have := (wc.push p hp).2
        rw [hr] at this
        cases this
        exact ⟨oc.push p hp, (wc.push p hp).1, rfl⟩
    have hsf : s ∉ fr := hd s (by rw [hr]; simp)
    obtain ⟨s0, s2, s1⟩ := Push.step_own po.1 po.2.1 hA F hc (by rw [po.2.2]; exact hsf)
    rw [po.2.2] at s1 s2
    generalize (y.push.getD (.new s)).step A = q at s0 s1 s2
    rcases s1 with ⟨s1, wq, F', sw⟩ | ⟨s1, F', k⟩
    · rw [if_neg (by rw [s1]; simp)]
      refine ⟨fr, c, F', ⟨fun z => absurd hn' z, fun h => absurd hsl h, fun h => absurd hpo h, fun p hp => ?_, fun p hp => ?_⟩, ?_, fun _ => rfl, by omega, by omega⟩
      · cases hp
        exact ⟨wq, by show y.ripe.head? = _; rw [hr, s2]; rfl⟩
      · have hp : y.pop = some p := hp
        rw [hpo] at hp; cases hp
      · rcases sw with sw | ⟨e1, e2, e3⟩
        · exact .inl sw
        · exact .inr ⟨e1, e2, fun t t0 t1 hn => e3 t t0 t1 fun z => hn (by rw [z, hr]; simp)⟩
    · rw [if_pos ⟨s1, s0⟩]
      refine ⟨s :: fr, c + 1, F', ⟨fun z => absurd hn' z, fun h => absurd hsl h, fun h => absurd hpo h, (fun p hp => by cases hp), fun p hp => ?_⟩, .inl ⟨rfl, k⟩, fun t => ?_, by simp only [List.length_cons]; omega, by simp only [List.length_cons]; omega⟩
      · have hp : y.pop = some p := hp
        rw [hpo] at hp; cases hp
      · rw [hold_count, hold_count, hr]
        simp only [List.count_cons]
        omega
theorem ripes_count (rs : List Ret) (e t : Int) : (ripes rs e).count t + ((rests rs e).map Ret.slot).count t = (rs.map Ret.slot).count t := by
  induction rs with
  | nil => rfl
  | cons r rs ih =>
    unfold ripes rests at ih ⊢
    simp only [List.filter_cons]
    cases isRipe e r <;> simp [List.count_cons] at ih ⊢ <;> omega
theorem Th.answer_own {B : Ar} {d : Int} (h : x.ripe = [] ∧ x.push = none ∧ x.slot = -1 ∧ x.pop = none) : (x.answer pick).own B d ∧ (x.answer pick).hold = x.hold := by
  unfold Th.answer
  split
  · exact ⟨.idle h.1 h.2.1 h.2.2.1 h.2.2.2, rfl⟩
  · exact ⟨.idle h.1 h.2.1 h.2.2.1 h.2.2.2, rfl⟩
theorem Th.act_own {a : Act} (ox : x.ok) (hw : x.wrs) (hA : A.ok) (F : Fre A fr c) (hc : c < 90000) (w : x.own A c) (hn : x.next = some a) (hd : ∀ s ∈ x.ripe, s ∉ fr) :
    Res x A fr c (x.act A L pick a).1.1 (x.act A L pick a).1.2.2 := by
  have i0 := ox.i0; have i1 := ox.i1; have n1 := ox.n1
  cases a with
  | ent =>
    obtain ⟨h1, h2, h3, h4⟩ := w.rest (by rw [hn]; simp)
    unfold Th.act Th.ents
    cases e : x.ent with
    | none => exact .same F (.refl A) w fun _ => rfl
    | some n =>
      have k := (Ent.step_acc (A := A) (ox.ent n e)).kp hA fun i p => by omega
      simp only
      split
      · refine .same F k ⟨fun z => absurd rfl z, fun h => absurd h3 h, fun h => absurd h4 h, fun p hp => by have hp : x.push = some p := hp; rw [h2] at hp; (cases hp), fun p hp => by have hp : x.pop = some p := hp; rw [h4] at hp; (cases hp)⟩ fun t => ?_
        rw [hold_count, hold_count, h1]
        have := ripes_count x.limbo (n.step A).1.e t
        simp only [List.count_nil]
        omega
      · exact .same F k (.idle h1 h2 h3 h4) fun _ => rfl
  | fre => exact Th.fres_own ox hw hA F hc w hn hd
  | tak => have r := w.ri (by rw [hn]; simp); exact Th.taks_own ox hw hA F hc w (.inl hn) r.1 r.2
  | tri => exact Th.tris_own ox hw hA F w hn
  | ret =>
    obtain ⟨h1, h2⟩ := w.ri (by rw [hn]; simp)
    have h4 : x.pop = none := by
      cases e : x.pop with
      | none => rfl
      | some p => have := w.po (by rw [e]; simp); rw [hn] at this; cases this
    have k := Kp.ld (i := 29) hA (by decide) (by decide)
    have s2 := ox.s2 (.inr hn)
    unfold Th.act Th.rets
    simp only
    split
    · refine .same F k (.idle h1 h2 rfl h4) fun t => ?_
      rw [hold_count, hold_count]
      rw [if_neg (show ¬ x.slot = -1 by omega)]
      simp only [List.map_append, List.count_append, List.map_cons, List.map_nil, if_true, List.count_nil]
      omega
    · exact .same F k (w.kp ox k) fun _ => rfl
  | lea =>
    obtain ⟨h1, h2, h3, h4⟩ := w.rest (by rw [hn]; simp)
    have k : Kp A (A.put (30 + x.id) 0) := fun j j0 j1 => by rw [at_put hA (by omega) (by omega) (by omega) (by omega), if_neg (by omega)]
    exact .same F k (.idle h1 h2 h3 h4) fun _ => rfl
  | adv =>
    obtain ⟨h1, h2, h3, h4⟩ := w.rest (by rw [hn]; simp)
    unfold Th.act Th.advs
    cases e : x.adv with
    | none => exact .same F (.refl A) w fun _ => rfl
    | some d =>
      have k := (Adv.step_acc (A := A) (ox.adv d e)).kp hA fun i p => by omega
      simp only
      split
      · obtain ⟨q1, q2⟩ := Th.answer_own (x := { x with adv := some (d.step A).1 }) (pick := pick) (B := (d.step A).2.2) (d := c) ⟨h1, h2, h3, h4⟩
        exact .same F k q1 fun t => by rw [q2]; rfl
      · exact .same F k (.idle h1 h2 h3 h4) fun _ => rfl
theorem Th.ended_own {r : (Th × Int × Ar) × List Int} (h : Res x A fr c r.1.1 r.1.2.2) : Res x A fr c (Th.ended r).1 (Th.ended r).2.2.2.1 := by
  unfold Th.ended
  split
  · exact h
  · obtain ⟨fr', d, h1, h2, h3⟩ := h.ex
    exact ⟨fr', d, h1, ⟨h2.ri, h2.sl, h2.po, h2.push, h2.pop⟩, h3⟩
theorem Th.step_own (ox : x.ok) (hw : x.wrs) (hA : A.ok) (F : Fre A fr c) (hc : c < 90000) (w : x.own A c) (hd : ∀ s ∈ x.ripe, s ∉ fr) :
    Res x A fr c (x.step A L pick).1 (x.step A L pick).2.2.2.1 := by
  unfold Th.step
  split
  · exact .same F (.refl A) w fun _ => rfl
  · have o1 : ({ x with ts := -1, tg := 0 } : Th).ok := { ox with }
    have w1 : ({ x with ts := -1, tg := 0 } : Th).own A c := ⟨w.ri, w.sl, w.po, w.push, w.pop⟩
    simp only
    split
    · rename_i a e
      exact Th.ended_own (.of (x1 := { x with ts := -1, tg := 0 }) (Th.act_own o1 hw hA F hc w1 e hd) (fun _ => rfl) fun _ h => h)
    · rename_i e
      have b := Th.begin_ok (pick := pick) o1 e
      obtain ⟨h1, h2, h3, h4⟩ := w1.rest (by rw [e]; simp)
      have bw : (({ x with ts := -1, tg := 0 } : Th).begin pick).1.wrs ∧ (({ x with ts := -1, tg := 0 } : Th).begin pick).1.own A c ∧ (∀ t, (({ x with ts := -1, tg := 0 } : Th).begin pick).1.hold.count t = x.hold.count t) ∧ (({ x with ts := -1, tg := 0 } : Th).begin pick).1.ripe = x.ripe := by
        unfold Th.begin
        split
        · exact ⟨hw, w1, fun _ => rfl, rfl⟩
        · split
          · exact ⟨hw, .idle h1 h2 h3 h4, fun _ => rfl, rfl⟩
          · exact ⟨hw, .idle h1 h2 h3 h4, fun _ => rfl, rfl⟩
      split
      · rename_i q
        exact Th.ended_own (.of (Th.act_own b.1 bw.1 hA F hc bw.2.1 (b.2 q) (by rw [bw.2.2.2]; exact hd)) bw.2.2.1 fun s h => by rw [bw.2.2.2] at h; exact h)
      · exact .same F (.refl A) bw.2.1 bw.2.2.1
end
def sg (x : Int) : Int := if 0 ≤ x then 0 else -1
section
variable {x : Th} {A : Ar} {L : List Int} {pick s : Int}
end
set_option maxRecDepth 20000
theorem sum_set {α : Type} {f : α → Nat} {x y : α} : ∀ {xs : List α} {i : Nat}, xs[i]? = some x → ((xs.set i y).map f).sum + f x = (xs.map f).sum + f y := by
  intro xs
  induction xs with
  | nil => intro i h; cases h
  | cons a xs ih =>
    intro i h
    cases i with
    | zero => simp at h; subst h; simp; omega
    | succ i => have := ih (i := i) (by simpa using h); simp only [List.set_cons_succ, List.map_cons, List.sum_cons]; omega
theorem sum_one {α : Type} {f : α → Nat} {x : α} : ∀ {xs : List α} {i : Nat}, xs[i]? = some x → f x ≤ (xs.map f).sum := by
  intro xs
  induction xs with
  | nil => intro i h; cases h
  | cons a xs ih =>
    intro i h
    cases i with
    | zero => simp at h; subst h; simp
    | succ i => have := ih (i := i) (by simpa using h); simp only [List.map_cons, List.sum_cons]; omega
theorem sum_two {α : Type} {f : α → Nat} {x y : α} : ∀ {xs : List α} {i j : Nat}, xs[i]? = some x → xs[j]? = some y → i ≠ j → f x + f y ≤ (xs.map f).sum := by
  intro xs
  induction xs with
  | nil => intro i j h; cases h
  | cons a xs ih =>
    intro i j h h2 hij
    cases i with
    | zero =>
      cases j with
      | zero => exact absurd rfl hij
      | succ j =>
        simp at h; subst h
        have := sum_one (f := f) (xs := xs) (i := j) (by simpa using h2)
        simp only [List.map_cons, List.sum_cons]; omega
    | succ i =>
      cases j with
      | zero =>
        simp at h2; subst h2
        have := sum_one (f := f) (xs := xs) (i := i) (by simpa using h)
        simp only [List.map_cons, List.sum_cons]; omega
      | succ j =>
        have := ih (i := i) (j := j) (by simpa using h) (by simpa using h2) (by omega)
        simp only [List.map_cons, List.sum_cons]; omega
structure Mc.si (M : Mc) (fr : List Int) (c : Int) : Prop where
  F : Fre M.A fr c
  c1 : c ≤ M.picks
  own : ∀ x ∈ M.ths, x.own M.A c
  all : ∀ s, fr.count s + (M.ths.map fun x => x.hold.count s).sum = if 0 ≤ s ∧ s < 12 then 1 else 0
def twelve : List Int := [0, 1, 2, 3, 4, 5, 6, 7, 8, 9, 10, 11]
theorem twelve_count (s : Int) : twelve.count s = if 0 ≤ s ∧ s < 12 then 1 else 0 := by
  split
  · rename_i h
    have : s = 0 ∨ s = 1 ∨ s = 2 ∨ s = 3 ∨ s = 4 ∨ s = 5 ∨ s = 6 ∨ s = 7 ∨ s = 8 ∨ s = 9 ∨ s = 10 ∨ s = 11 := by omega
    rcases this with rfl | rfl | rfl | rfl | rfl | rfl | rfl | rfl | rfl | rfl | rfl | rfl <;> decide
  · rename_i h
    refine List.count_eq_zero.2 fun z => h ?_
    simp only [twelve, List.mem_cons, List.not_mem_nil, or_false] at z
    omega
theorem newAr_fre : Fre newAr twelve 0 := by
  refine ⟨⟨1, by decide, ?_⟩, fun s h0 h1 => ?_, Int.le_refl 0⟩
  · refine ⟨rfl, by decide, 2, by decide, rfl, by decide, 3, by decide, rfl, by decide, 4, by decide, rfl, by decide, 5, by decide, rfl, by decide, 6, by decide, rfl, by decide, 7, by decide, rfl, by decide, 8, by decide, rfl, by decide, 9, by decide, rfl, by decide, 10, by decide, rfl, by decide, 11, by decide, rfl, by decide, 12, by decide, rfl, by decide, 0, by decide, rfl⟩
  · have : s = 0 ∨ s = 1 ∨ s = 2 ∨ s = 3 ∨ s = 4 ∨ s = 5 ∨ s = 6 ∨ s = 7 ∨ s = 8 ∨ s = 9 ∨ s = 10 ∨ s = 11 := by omega
    rcases this with rfl | rfl | rfl | rfl | rfl | rfl | rfl | rfl | rfl | rfl | rfl | rfl
    · exact ⟨2, by decide, by decide, by decide⟩
    · exact ⟨3, by decide, by decide, by decide⟩
    · exact ⟨4, by decide, by decide, by decide⟩
    · exact ⟨5, by decide, by decide, by decide⟩
    · exact ⟨6, by decide, by decide, by decide⟩
    · exact ⟨7, by decide, by decide, by decide⟩
    · exact ⟨8, by decide, by decide, by decide⟩
    · exact ⟨9, by decide, by decide, by decide⟩
    · exact ⟨10, by decide, by decide, by decide⟩
    · exact ⟨11, by decide, by decide, by decide⟩
    · exact ⟨12, by decide, by decide, by decide⟩
    · exact ⟨0, by decide, by decide, by decide⟩
theorem Mc.new_si {p : Plan} : (Mc.new p).si twelve 0 := by
  refine ⟨newAr_fre, Int.le_refl 0, fun x hx => ?_, fun s => ?_⟩
  · obtain ⟨j, t, e1, rfl⟩ := Mc.threads_mem hx
    exact .idle rfl rfl rfl rfl
  · rw [twelve_count]
    have : ((Mc.new p).ths.map fun x => x.hold.count s).sum = 0 := by
      rw [List.map_congr_left (g := fun _ => 0) fun x hx => ?_]
      · generalize (Mc.new p).ths = xs
        induction xs with
        | nil => rfl
        | cons a xs ih => simpa using ih
      · obtain ⟨j, t, e1, rfl⟩ := Mc.threads_mem hx
        rfl
    rw [this]; rfl
theorem decide_own {x : Th} {A : Ar} {c s pick : Int} (w : x.own A c) : (x.decide s pick).own A c ∧ (x.decide s pick).hold = x.hold := by
  unfold Th.decide
  split
  · exact ⟨⟨w.ri, w.sl, w.po, w.push, w.pop⟩, rfl⟩
  · exact ⟨w, rfl⟩
theorem Mc.pick_si {M : Mc} {k c : Int} {fr : List Int} (o : M.ok) (S : M.si fr c) : ∃ fr' c', (M.pick k).1.si fr' c' ∧ fr'.length ≤ fr.length + 1 ∧ fr.length ≤ fr'.length + 1 := by
  unfold Mc.pick
  split
  · exact ⟨fr, c, S, by omega, by omega⟩
  · rename_i hk
    split
    · exact ⟨fr, c, S, by omega, by omega⟩
    · rename_i x hx
      have ox := o.ths x (List.mem_of_getElem? hx)
      have hc : c < 90000 := by have := S.c1; have := o.p1; omega
      have c0 := S.F.c0
      have hd : ∀ s ∈ x.ripe, s ∉ fr := fun s h1 h2 => by
        have a1 := S.all s
        have a2 := sum_one (f := fun x : Th => x.hold.count s) hx
        have a3 := List.count_pos_iff.2 h2
        have a4 := List.count_pos_iff.2 h1
        have a5 := hold_count x s
        split at a1 <;> omega
      obtain ⟨fr', d, r1, r2, r3, r4, r5⟩ := (Th.step_own (L := M.L) (pick := M.picks) ox.1 ox.2.1 o.A S.F hc (S.own x (List.mem_of_getElem? hx)) hd).ex
      generalize x.step M.A M.L M.picks = r at r1 r2 r3 r4
      simp only
      have dd : d ≤ c + 1 := by rcases r3 with ⟨e, _⟩ | ⟨e, _⟩ <;> omega
      have base : ∀ y ∈ M.ths.set k.toNat r.1, y.own r.2.2.2.1 d := fun y hy => by
        obtain ⟨j, hj, he⟩ := List.mem_iff_getElem.1 hy
        have hg : (M.ths.set k.toNat r.1)[j]? = some y := by rw [List.getElem?_eq_getElem hj, he]
        rw [List.getElem?_set] at hg
        split at hg
        · split at hg
          · cases hg; exact r2
          · cases hg
        · rename_i ne
          have oy := o.ths y (List.mem_of_getElem? hg)
          refine (S.own y (List.mem_of_getElem? hg)).other oy.1 S.F (by omega) r3 fun s hs => ⟨fun q => ?_, hd s hs⟩
          have a1 := S.all s
          have a2 := sum_two (f := fun x : Th => x.hold.count s) hx hg ne
          have a3 := List.count_pos_iff.2 q
          have a4 := List.count_pos_iff.2 hs
          have a5 := hold_count x s
          have a6 := hold_count y s
          split at a1 <;> omega
      have cnt : ∀ s, fr'.count s + ((M.ths.set k.toNat r.1).map fun x => x.hold.count s).sum = if 0 ≤ s ∧ s < 12 then 1 else 0 := fun s => by
        have a1 := S.all s
        have a2 := sum_set (f := fun x : Th => x.hold.count s) (y := r.1) hx
        have a3 := r4 s
        omega
      refine ⟨fr', d, ⟨r1, by show d ≤ M.picks + 1; have := S.c1; omega, fun y hy => ?_, fun s => ?_⟩, r5⟩
      · simp only at hy
        split at hy
        · unfold decAll at hy
          split at hy
          · obtain ⟨z, hz, rfl⟩ := List.mem_map.1 hy
            exact (decide_own (base z hz)).1
          · exact base y hy
        · exact base y hy
      · rw [← cnt s]
        congr 2
        show List.map _ (if r.2.1 = true then decAll _ _ _ else _ : List Th) = _
        split
        · unfold decAll
          split
          · rw [List.map_map]
            refine List.map_congr_left fun z hz => ?_
            show ((z.decide _ _).hold).count s = _
            rw [(decide_own (base z hz)).2]
          · rfl
        · rfl
def Acd (A B : Ar) : Prop := ∃ k i was now, 0 ≤ i ∧ i < 634 ∧ was = A.at i ∧ (k = 0 → now = was) ∧ B = A.touch k i.toNat was now
theorem Acd.ld (A : Ar) {i : Int} (h0 : 0 ≤ i) (h1 : i < 634) : Acd A (A.ld i) := ⟨0, i, A.at i, A.at i, h0, h1, rfl, fun _ => rfl, rfl⟩
theorem Acd.put (A : Ar) {i : Int} (x : Int) (h0 : 0 ≤ i) (h1 : i < 634) : Acd A (A.put i x) := ⟨1, i, A.at i, x, h0, h1, rfl, (fun h => by cases h), rfl⟩
theorem Acd.cas (A : Ar) {i : Int} (o x : Int) (h0 : 0 ≤ i) (h1 : i < 634) : Acd A (A.cas i o x) := ⟨2, i, A.at i, _, h0, h1, rfl, (fun h => by cases h), rfl⟩
section
variable {A : Ar} {t q : Int}
theorem Wh.step_acd {w : Wh} (ok : w.ok) : Acd A (w.step t q A).a := by
  obtain ⟨s, g, pc, i, k, cell, was, put, x, opn, won⟩ := w
  obtain ⟨life, i0, i1, i2, k1, k0, c0, c1, was1, put1, x1, pc1, pc0, ref⟩ := ok
  simp only at life i0 i1 i2 k1 k0 c0 c1 was1 put1 x1 pc1 pc0 ref
  have s0 := life.s0; have s1 := life.s1
  have hb : baseOf s = 34 + s * 50 := rfl
  have : pc = 1 ∨ pc = 2 ∨ pc = 3 ∨ pc = 4 ∨ pc = 5 ∨ pc = 6 ∨ pc = 7 ∨ pc = 8 ∨ pc = 9 ∨ pc = 10 ∨ pc = 11 ∨ pc = 12 ∨ pc = 13 ∨ pc = 14 := by omega
  rcases this with rfl | rfl | rfl | rfl | rfl | rfl | rfl | rfl | rfl | rfl | rfl | rfl | rfl | rfl
  · exact .ld _ (by (first | omega | (simp only; omega))) (by (first | omega | (simp only; omega)))
  · exact .ld _ (by (first | omega | (simp only; omega))) (by (first | omega | (simp only; omega)))
  · have := i2 (by decide) (by decide) (by decide) (by decide); exact .ld _ (by (first | omega | (simp only; omega))) (by (first | omega | (simp only; omega)))
  · have := i2 (by decide) (by decide) (by decide) (by decide); exact .ld _ (by (first | omega | (simp only; omega))) (by (first | omega | (simp only; omega)))
  · rw [Wh.step5 rfl]
    unfold Wh.swapIn
    have key : Acd A (A.cas cell was (Form.entry s g i t q).number) := .cas _ _ _ c0 (by (first | omega | (simp only; omega)))
    simp only
    split
    · exact key
    · split
      · exact key
      · exact key
      · exact key
      · split <;> exact key
  · exact .ld _ (by (first | omega | (simp only; omega))) (by (first | omega | (simp only; omega)))
  · exact .cas _ _ _ c0 (by (first | omega | (simp only; omega)))
  · exact .cas _ _ _ (by (first | omega | (simp only; omega))) (by (first | omega | (simp only; omega)))
  · exact .cas _ _ _ (by (first | omega | (simp only; omega))) (by (first | omega | (simp only; omega)))
  · exact .ld _ (by (first | omega | (simp only; omega))) (by (first | omega | (simp only; omega)))
  · have := i2 (by decide) (by decide) (by decide) (by decide); exact .ld _ (by (first | omega | (simp only; omega))) (by (first | omega | (simp only; omega)))
  · have := i2 (by decide) (by decide) (by decide) (by decide)
    refine .ld _ ?_ ?_ <;> simp only <;> split <;> omega
  · exact .cas _ _ _ c0 (by (first | omega | (simp only; omega)))
  · simp only [Wh.step]
    split <;> exact .ld _ (by (first | omega | (simp only; omega))) (by (first | omega | (simp only; omega)))
theorem En.step_acd {f : En} (ok : f.ok) : Acd A (f.step q A).a := by
  obtain ⟨s, g, e, t', q', pc, cell, was, opn⟩ := f
  obtain ⟨life, e0, e1, t0, t1, q0', q1', c0, c1, was1, pc1⟩ := ok
  simp only at life e0 e1 t0 t1 q0' q1' c0 c1 was1 pc1
  have s0 := life.s0; have s1 := life.s1
  have hb : baseOf s = 34 + s * 50 := rfl
  have : pc = 0 ∨ pc = 1 ∨ pc = 2 ∨ pc = 3 := by omega
  rcases this with rfl | rfl | rfl | rfl
  · exact .ld _ (by (first | omega | (simp only; omega))) (by (first | omega | (simp only; omega)))
  · exact .ld _ (by (first | omega | (simp only; omega))) (by (first | omega | (simp only; omega)))
  · exact .ld _ (by (first | omega | (simp only; omega))) (by (first | omega | (simp only; omega)))
  · exact .cas _ _ _ c0 (by (first | omega | (simp only; omega)))
theorem Help.step_acd {H : Help} (ok : H.ok) (c : H.over = false) : Acd A (H.step A).2.2 := by
  rw [Help.step_eq c]
  obtain ⟨k1, k2, k3⟩ := ok.frames c
  show Acd A (H.top.step H.t H.q A).a
  cases ht : H.top with
  | who w => rw [ht] at k1; exact Wh.step_acd k1
  | ent f => rw [ht] at k1; exact En.step_acd k1
theorem Rd.step_acd {r : Rd} (o : r.ok) (ho : r.over = false) : Acd A (r.step A).2.2 := by
  have c0 := o.c0; have c1 := o.c1
  unfold Rd.step
  rw [if_neg (by rw [ho]; decide)]
  split
  · rename_i H e
    exact Help.step_acd (o.help H e).1 (o.help H e).2
  · unfold Rd.load
    have key : Acd A (A.ld r.cell) := .ld _ c0 (by omega)
    split
    · exact key
    · split <;> exact key
def At.on (x : At) : Prop := x.over = false ∧ ∀ w, x.st = .wr w → w.left ≠ []
theorem At.step_acd {x : At} (o : x.ok) (h : x.on) : Acd A (x.step A).2.2 := by
  obtain ⟨ho, hw⟩ := h
  unfold At.step
  rw [if_neg (by rw [ho]; decide)]
  have hs := o.st
  split
  · rename_i r v e
    rw [e] at hs
    have key := Rd.step_acd (A := A) hs.1 (hs.2.2 ho)
    simp only
    split
    · exact key
    · split <;> exact key
  · rename_i w e
    rw [e] at hs
    have hs : w.ok := hs
    show Acd A (w.step A).2.2
    unfold Wr.step
    have a0 := hs.a0; have a1 := hs.a1
    split
    · rename_i el; exact absurd el (hw w e)
    · rename_i y r el
      rw [el] at a1
      simp only [List.length_cons] at a1
      exact .put _ _ a0 (by omega)
  · rename_i H e
    rw [e] at hs
    have key := Help.step_acd (A := A) hs.1 (hs.2 ho)
    simp only
    split <;> exact key
theorem At.step_on {x : At} (h : x.on) (h2 : (x.step A).1.over = false) : (x.step A).1.on := by
  obtain ⟨ho, hw⟩ := h
  refine ⟨h2, ?_⟩
  have asked : ∀ (y : At) m, ∀ w, (y.asked m).st = .wr w → w.left ≠ [] := by
    intro y m w hw
    unfold At.asked at hw
    split at hw
    · cases hw
    · cases hw
      simp [newWr, descRow]
  unfold At.step at h2 ⊢
  rw [if_neg (by rw [ho]; decide)] at h2 ⊢
  split
  · rename_i r v e
    simp only
    split
    · intro w h; cases h
    · split
      · exact asked _ _
      · intro w h; cases h
  · rename_i w0 e
    intro w h
    simp only at h
    split at h
    · cases h
    · rename_i hn
      cases h
      unfold Wr.step at hn ⊢
      split
      · rename_i el; exact absurd el (hw w0 e)
      · rename_i y r el
        rw [el] at hn
        intro q
        simp only at q
        rw [q] at hn
        exact hn rfl
  · simp only
    split <;> (intro w h; cases h)
theorem Ent.step_acd {n : Ent} (o : n.ok) (h : n.over = false) : Acd A (n.step A).2.2 := by
  have := o.t0; have := o.t1; have := o.e0; have := o.e1
  unfold Ent.step
  rw [if_neg (by rw [h]; decide)]
  split
  · exact .put _ _ (by omega) (by omega)
  · split <;> exact .ld _ (by omega) (by omega)
theorem Adv.step_acd {d : Adv} (o : d.ok) (h : d.over = false) : Acd A (d.step A).2.2 := by
  have := o.a1; have := o.n1; have := o.e0; have := o.e1
  unfold Adv.step
  rw [if_neg (by rw [h]; decide)]
  split
  · split <;> exact .ld _ (by omega) (by omega)
  · split
    · split <;> exact .ld _ (by omega) (by omega)
    · exact .cas _ _ _ (by omega) (by omega)
theorem Pop.step_acd {p : Pop} (o : p.ok) (hov : p.l.over = false) : Acd A (p.step A).2.2 := by
  have ol := o.l
  unfold Pop.step
  rw [if_neg (by rw [hov]; decide)]
  split
  · split <;> exact .ld _ (by omega) (by omega)
  · have f := o.f hov (by assumption)
    split
    · split <;> exact .ld _ (by omega) (by omega)
    · split <;> exact .cas _ _ _ (by omega) (by omega)
theorem Push.step_acd {p : Push} (o : p.ok) (hov : p.l.over = false) : Acd A (p.step A).2.2 := by
  have ol := o.l
  have s0 := o.s0; have s1 := o.s1; have f0 := ol.f0; have f1 := ol.f1
  unfold Push.step
  rw [if_neg (by rw [hov]; decide)]
  split
  · split <;> exact .ld _ (by omega) (by omega)
  · split
    · exact .put _ _ (by omega) (by omega)
    · exact .cas _ _ _ (by omega) (by omega)
end
structure Th.on (x : Th) : Prop where
  ent : x.next = some .ent → ∃ n, x.ent = some n ∧ n.over = false
  adv : x.next = some .adv → ∃ d, x.adv = some d ∧ d.over = false
  tri : x.next = some .tri → ∃ a, x.att = some a ∧ a.on
  pop : ∀ p, x.pop = some p → p.l.over = false
  push : ∀ p, x.push = some p → p.l.over = false
theorem Th.new_on {id n k : Int} {pol : Bool} {ts : List (List Op)} : (Th.new id n k pol ts).on := ⟨(fun h => by cases h), (fun h => by cases h), (fun h => by cases h), (fun p h => by cases h), fun p h => by cases h⟩
def Good (A : Ar) (r : Th × Int × Ar) : Prop := Acd A r.2.2 ∧ (r.2.1 = 0 → r.1.on)
section
variable {A : Ar} {x : Th} {L : List Int} {pick : Int}
theorem Th.ents_good (o : x.ok) (w : x.on) (hn : x.next = some .ent) : Good A (x.ents A) := by
  obtain ⟨n, e, ho⟩ := w.ent hn
  have a := Ent.step_acd (A := A) (o.ent n e) ho
  unfold Th.ents
  rw [e]
  simp only
  split
  · exact ⟨a, fun _ => ⟨(fun h => by cases h), (fun h => by cases h), (fun h => by cases h), w.pop, w.push⟩⟩
  · rename_i c
    refine ⟨a, fun h0 => ⟨fun _ => ⟨_, rfl, ?_⟩, (fun h => by simp only at h; rw [hn] at h; cases h), (fun h => by simp only at h; rw [hn] at h; cases h), w.pop, w.push⟩⟩
    cases hov : (n.step A).1.over with
    | false => rfl
    | true => exact absurd ⟨hov, h0⟩ c
theorem Th.tris_good (o : ∀ n, x.att = some n → n.ok) (w : x.on) (ht : ∃ a, x.att = some a ∧ a.on) (hn : x.next = some .tri) : Good A (x.tris A) := by
  obtain ⟨a, e, ho⟩ := ht
  have ac := At.step_acd (A := A) (o a e) ho
  unfold Th.tris
  rw [e]
  refine ⟨ac, fun _ => ⟨?_, ?_, ?_, w.pop, w.push⟩⟩
  · intro h; simp only at h; split at h
    · cases h
    · rw [hn] at h; cases h
  · intro h; simp only at h; split at h
    · cases h
    · rw [hn] at h; cases h
  · intro h
    simp only at h
    split at h
    · cases h
    · rename_i c
      exact ⟨_, rfl, At.step_on ho (by simpa using c)⟩
theorem Th.with_on {s : Int} (w : x.on) (m : At.may x.id x.seq s (L.getD s.toNat 0 + 1) x.ops) : (x.with_ s L).on := by
  refine ⟨(fun h => by cases h), (fun h => by cases h), fun _ => ?_, w.pop, w.push⟩
  unfold Th.with_
  rw [if_pos m]
  exact ⟨_, rfl, rfl, fun w h => by cases h⟩
def Mays (x : Th) (L : List Int) : Prop := ∀ s : Int, 0 ≤ s → s < 12 → At.may x.id x.seq s (L.getD s.toNat 0 + 1) x.ops
theorem Th.taks_good (o : x.ok) (w : x.on) (hA : A.ok) (m : Mays x L) : Good A (x.taks A L).1 := by
  have main : ∀ p : Option Pop, x.pop = p →
      let q := (p.getD .new).step A
      let r : (Th × Int × Ar) × List Int := if q.1.l.over = false ∨ q.2.1 ≠ 0 then (({ x with pop := some q.1, next := some .tak }, q.2.1, q.2.2), L) else
        if q.1.slot = -1 then (({ x with pop := none, end_ := 1, next := some .lea }, 0, q.2.2), L) else
        ((({ x with pop := none } : Th).with_ q.1.slot L, 0, q.2.2), lived q.1.slot L)
      Good A r.1 := by
    intro p hp
    have po : (p.getD .new).ok ∧ (p.getD .new).l.over = false := by
      cases p with
      | none => exact ⟨Pop.new_ok, rfl⟩
      | some p => exact ⟨o.pop p hp, w.pop p hp⟩
    have s := Pop.step_ok po.1 hA
    have a := Pop.step_acd (A := A) po.1 po.2
    simp only
    split
    · rename_i c
      refine ⟨a, fun h0 => ⟨(fun h => by cases h), (fun h => by cases h), (fun h => by cases h), fun p h => ?_, w.push⟩⟩
      cases h
      rcases c with c | c
      · exact c
      · exact absurd h0 c
    · split
      · exact ⟨a, fun _ => ⟨(fun h => by cases h), (fun h => by cases h), (fun h => by cases h), (fun p h => by cases h), w.push⟩⟩
      · have h0 := s.1.s0
        have h1 := s.1.s1
        have wp : ({ x with pop := none } : Th).on := ⟨w.ent, w.adv, w.tri, (fun p h => by cases h), w.push⟩
        exact ⟨a, fun _ => Th.with_on wp (m _ (by omega) h1)⟩
  unfold Th.taks
  cases hp : x.pop with
  | some p => exact main _ hp
  | none =>
    cases hl : x.cache.getLast? with
    | none => exact main _ hp
    | some s =>
      have hm := o.ca s (List.mem_of_getLast? hl)
      have wp : ({ x with cache := x.cache.dropLast, pop := none } : Th).on := ⟨w.ent, w.adv, w.tri, (fun p h => by cases h), w.push⟩
      have w2 := Th.with_on (L := L) wp (m s hm.1 hm.2)
      refine Th.tris_good (fun n hn => ?_) w2 (w2.tri rfl) rfl
      unfold Th.with_ at hn
      simp only at hn
      split at hn
      · rename_i m'; cases hn; exact At.new_ok m'
      · cases hn
theorem Th.fres_good (o : x.ok) (w : x.on) (hA : A.ok) (m : Mays x L) (hn : x.next = some .fre) : Good A (x.fres A L).1 := by
  have oc := Th.cached_ok o
  have wc : x.cached.on := by
    unfold Th.cached; split
    · exact ⟨w.ent, w.adv, w.tri, w.pop, w.push⟩
    · exact w
  have mc : Mays x.cached L := by unfold Th.cached; split <;> exact m
  have nc : x.cached.next = some .fre := by rw [Th.cached_next]; exact hn
  unfold Th.fres
  simp only
  generalize x.cached = y at oc wc mc nc ⊢
  split
  · exact Th.taks_good oc wc hA mc
  · rename_i s r hr
    have hm := oc.ri s (by rw [hr]; simp)
    have po : (y.push.getD (.new s)).ok ∧ (y.push.getD (.new s)).l.over = false := by
      cases hp : y.push with
      | none => exact ⟨Push.new_ok hm.1 hm.2, rfl⟩
      | some p => exact ⟨oc.push p hp, wc.push p hp⟩
    have a := Push.step_acd (A := A) po.1 po.2
    have nx : ∀ {z : Option Act}, z = some .fre → z ≠ some .ent ∧ z ≠ some .adv ∧ z ≠ some .tri := fun h => by rw [h]; exact ⟨(by decide), (by decide), (by decide)⟩
    obtain ⟨n1, n2, n3⟩ := nx nc
    split
    · exact ⟨a, fun _ => ⟨(fun h => absurd h n1), (fun h => absurd h n2), (fun h => absurd h n3), wc.pop, fun p h => by cases h⟩⟩
    · rename_i c
      refine ⟨a, fun h0 => ⟨(fun h => absurd h n1), (fun h => absurd h n2), (fun h => absurd h n3), wc.pop, fun p h => ?_⟩⟩
      cases h
      cases hov : ((y.push.getD (.new s)).step A).1.l.over with
      | false => rfl
      | true => exact absurd ⟨hov, h0⟩ c
theorem Th.act_good {a : Act} (o : x.ok) (w : x.on) (hA : A.ok) (m : Mays x L) (hn : x.next = some a) : Good A (x.act A L pick a).1 := by
  cases a with
  | ent => exact Th.ents_good o w hn
  | fre => exact Th.fres_good o w hA m hn
  | tak => exact Th.taks_good o w hA m
  | tri => exact Th.tris_good (fun n hn => (o.att n hn).1) w (w.tri hn) hn
  | ret =>
    show Good A (x.rets A)
    unfold Th.rets
    split
    · exact ⟨.ld _ (by omega) (by omega), fun _ => ⟨(fun h => by cases h), (fun h => by cases h), (fun h => by cases h), w.pop, w.push⟩⟩
    · exact ⟨.ld _ (by omega) (by omega), fun _ => w⟩
  | lea =>
    have i0 := o.i0; have i1 := o.i1; have n1 := o.n1
    exact ⟨.put _ _ (by omega) (by omega), fun _ => ⟨(fun h => by cases h), (fun _ => ⟨_, rfl, rfl⟩), (fun h => by cases h), w.pop, w.push⟩⟩
  | adv =>
    obtain ⟨d, e, ho⟩ := w.adv hn
    have a := Adv.step_acd (A := A) (o.adv d e) ho
    show Good A (x.advs A pick)
    unfold Th.advs
    rw [e]
    simp only
    split
    · refine ⟨a, fun _ => ?_⟩
      unfold Th.answer
      split <;> exact ⟨(fun h => by cases h), (fun h => by cases h), (fun h => by cases h), w.pop, w.push⟩
    · rename_i c
      refine ⟨a, fun h0 => ⟨(fun h => by simp only at h; rw [hn] at h; cases h), fun _ => ⟨_, rfl, ?_⟩, (fun h => by simp only at h; rw [hn] at h; cases h), w.pop, w.push⟩⟩
      cases hov : (d.step A).1.over with
      | false => rfl
      | true => exact absurd ⟨hov, h0⟩ c
def Th.way (x : Th) : Prop := x.dead = true ∨ x.on
theorem Th.ended_way (r : (Th × Int × Ar) × List Int) (h : Good A r.1) : (Th.ended r).1.way ∧ ((Th.ended r).2.1 = true → Acd A (Th.ended r).2.2.2.1) ∧ ((Th.ended r).2.1 = false → (Th.ended r).2.2.2.1 = A) := by
  unfold Th.ended
  split
  · rename_i c; exact ⟨.inr (h.2 c), fun _ => h.1, fun h => by cases h⟩
  · exact ⟨.inl rfl, fun _ => h.1, fun h => by cases h⟩
theorem Th.step_way (o : x.ok) (w : x.way) (hA : A.ok) (m : Mays x L) : (x.step A L pick).1.way ∧ ((x.step A L pick).2.1 = true → Acd A (x.step A L pick).2.2.2.1) ∧ ((x.step A L pick).2.1 = false → (x.step A L pick).2.2.2.1 = A) := by
  cases hd : x.dead with
  | true => rw [Th.step_dead hd]; exact ⟨.inl hd, (fun h => by cases h), fun _ => rfl⟩
  | false =>
    have w : x.on := by
      rcases w with q | q
      · rw [hd] at q; cases q
      · exact q
    have o1 : x.z.ok := { o with }
    have w1 : x.z.on := ⟨w.ent, w.adv, w.tri, w.pop, w.push⟩
    have ended : ∀ r : (Th × Int × Ar) × List Int, Good A r.1 → (Th.ended r).1.way ∧ ((Th.ended r).2.1 = true → Acd A (Th.ended r).2.2.2.1) ∧ ((Th.ended r).2.1 = false → (Th.ended r).2.2.2.1 = A) := by
      intro r h
      unfold Th.ended
      split
      · rename_i c; exact ⟨.inr (h.2 c), fun _ => h.1, fun h => by cases h⟩
      · exact ⟨.inl rfl, fun _ => h.1, fun h => by cases h⟩
    cases hx : x.next with
    | some a => rw [Th.step_some hd hx]; exact ended _ (Th.act_good o1 w1 hA m hx)
    | none =>
      rw [Th.step_none hd hx]
      have b := Th.begin_ok (pick := pick) o1 hx
      have hops : (x.z.begin pick).1.next = some .ent → (x.z.begin pick).2 = true := by
        unfold Th.begin
        split
        · intro h; have : x.next = some .ent := h; rw [hx] at this; cases this
        · split
          · intro h; have : x.next = some .ent := h; rw [hx] at this; cases this
          · intro _; rfl
      have wb : (x.z.begin pick).1.on := by
        unfold Th.begin
        split
        · exact w1
        · split
          · exact ⟨w1.ent, w1.adv, w1.tri, w1.pop, w1.push⟩
          · exact ⟨(fun _ => ⟨_, rfl, rfl⟩), (fun h => by cases h), (fun h => by cases h), w1.pop, w1.push⟩
      split
      · rename_i q
        have g := Th.ents_good (A := A) b.1 wb (b.2 q)
        exact ended (_, L) g
      · exact ⟨.inr wb, (fun h => by cases h), fun _ => rfl⟩
theorem Th.step_way0 (o : x.ok) (w : x.way) (hA : A.ok) (hx : x.next = none) : (x.step A L pick).1.way ∧ ((x.step A L pick).2.1 = true → Acd A (x.step A L pick).2.2.2.1) ∧ ((x.step A L pick).2.1 = false → (x.step A L pick).2.2.2.1 = A) := by
  cases hd : x.dead with
  | true => rw [Th.step_dead hd]; exact ⟨.inl hd, (fun h => by cases h), fun _ => rfl⟩
  | false =>
    have w : x.on := by
      rcases w with q | q
      · rw [hd] at q; cases q
      · exact q
    have o1 : x.z.ok := { o with }
    have w1 : x.z.on := ⟨w.ent, w.adv, w.tri, w.pop, w.push⟩
    rw [Th.step_none hd hx]
    have b := Th.begin_ok (pick := pick) o1 hx
    have wb : (x.z.begin pick).1.on := by
      unfold Th.begin
      split
      · exact w1
      · split
        · exact ⟨w1.ent, w1.adv, w1.tri, w1.pop, w1.push⟩
        · exact ⟨(fun _ => ⟨_, rfl, rfl⟩), (fun h => by cases h), (fun h => by cases h), w1.pop, w1.push⟩
    split
    · rename_i q
      have g := Th.ents_good (A := A) b.1 wb (b.2 q)
      exact Th.ended_way (_, L) g
    · exact ⟨.inr wb, (fun h => by cases h), fun _ => rfl⟩
end
def Rep (n : Int) : List Int → List Touch → List Int → Prop
  | ws, [], ws' => ws = ws'
  | ws, t :: ts, ws' => (0 ≤ t.at_ ∧ t.at_ < 634 ∧ ws[t.at_.toNat]? = some t.was ∧ (t.kind = 0 → t.now = t.was) ∧ 0 ≤ t.thread ∧ t.thread < n) ∧ Rep n (ws.set t.at_.toNat t.now) ts ws'
theorem Rep.snoc {n : Int} : ∀ {ts : List Touch} {ws ws' : List Int} {t : Touch}, Rep n ws ts ws' → 0 ≤ t.at_ → t.at_ < 634 → ws'[t.at_.toNat]? = some t.was → (t.kind = 0 → t.now = t.was) → 0 ≤ t.thread → t.thread < n → Rep n ws (ts ++ [t]) (ws'.set t.at_.toNat t.now) := by
  intro ts
  induction ts with
  | nil => intro ws ws' t h h1 h2 h3 h4 h5 h6; cases h; exact ⟨⟨h1, h2, h3, h4, h5, h6⟩, rfl⟩
  | cons x ts ih => intro ws ws' t h h1 h2 h3 h4 h5 h6; exact ⟨h.1, ih h.2 h1 h2 h3 h4 h5 h6⟩
structure Mc.rep (M : Mc) (n : Int) : Prop where
  len : (M.ths.length : Int) = n
  way : ∀ x ∈ M.ths, x.way
  rep : Rep n newAr.ws M.ts M.A.ws
theorem Mc.new_rep (p : Plan) : (Mc.new p).rep p.threads.length := by
  refine ⟨by show ((Mc.threads _ _ _ _ _).length : Int) = _; rw [Mc.threads_len], fun x hx => ?_, rfl⟩
  obtain ⟨j, t, _, rfl⟩ := Mc.threads_mem hx
  exact .inr Th.new_on
theorem Th.ok.ops_may {x : Th} (o : x.ok) (h : x.evs ≠ []) : Txn.may x.ops = true := by
  obtain ⟨e, he⟩ : ∃ e, x.evs.getLast? = some e := by
    cases hl : x.evs.getLast? with
    | none => rw [List.getLast?_eq_none_iff] at hl; exact absurd hl h
    | some e => exact ⟨e, rfl⟩
  have hi := o.idx (x.evs.length - 1) e (by rw [← List.getLast?_eq_getElem?]; exact he)
  have hl := List.length_pos_iff.2 h
  have hev := o.evs
  unfold Th.ops
  rw [he]
  simp only
  rw [hi, Int.toNat_natCast, List.getD_eq_getElem?_getD, List.getElem?_eq_getElem (by omega)]
  exact (thrMay_spec o.txns).2 _ (List.getElem_mem _)
theorem Th.ok.mays {x : Th} (o : x.ok) (h : x.evs ≠ []) {L : List Int} (hL : ∀ y ∈ L, 0 ≤ y ∧ y < 65535) : Mays x L := by
  intro s s0 s1
  have i0 := o.i0; have i1 := o.i1; have n1 := o.n1
  have hy : 0 ≤ L.getD s.toNat 0 ∧ L.getD s.toNat 0 < 65535 := by
    rw [List.getD_eq_getElem?_getD]
    cases e : L[s.toNat]? with
    | none => exact ⟨by decide, by decide⟩
    | some y => exact hL y (List.mem_of_getElem? e)
  refine ⟨⟨i0, by omega⟩, ⟨o.q0, o.q1⟩, ?_, o.ops_may h⟩
  unfold lifeMay
  exact decide_eq_true ⟨s0, s1, by omega, by omega⟩
theorem Th.decide_way {x : Th} {s pick : Int} (h : x.way) : (x.decide s pick).way := by
  unfold Th.decide
  split
  · rcases h with h | h
    · exact .inl h
    · exact .inr ⟨h.ent, h.adv, h.tri, h.pop, h.push⟩
  · exact h
theorem Mc.pick_rep {M : Mc} {n k : Int} (o : M.ok) (r : M.rep n) (hp : M.picks < 65535) : (M.pick k).1.rep n := by
  unfold Mc.pick
  split
  · exact r
  · rename_i c
    split
    · exact r
    · rename_i x hx
      have ox := o.ths x (List.mem_of_getElem? hx)
      have wx := r.way x (List.mem_of_getElem? hx)
      have len := r.len
      have hL : ∀ y ∈ M.L, 0 ≤ y ∧ y < 65535 := fun y hy => by have := o.L2 y hy; omega
      -- the life that is taken is of a transaction that is there
      have key : (x.step M.A M.L M.picks).1.way ∧ ((x.step M.A M.L M.picks).2.1 = true → Acd M.A (x.step M.A M.L M.picks).2.2.2.1) ∧ ((x.step M.A M.L M.picks).2.1 = false → (x.step M.A M.L M.picks).2.2.2.1 = M.A) := by
        by_cases he : x.evs = []
        · have hx1 : x.next = none := by
            cases hn : x.next with
            | none => rfl
            | some a => exact absurd he (ox.1.live (.inl (by rw [hn]; simp)))
          exact Th.step_way0 ox.1 wx o.A hx1
        · exact Th.step_way ox.1 wx o.A (ox.1.mays he hL)
      generalize x.step M.A M.L M.picks = s at key
      obtain ⟨k1, k2, k3⟩ := key
      simp only
      have wy : ∀ y ∈ M.ths.set k.toNat s.1, y.way := fun y hy => by
        rcases List.mem_or_eq_of_mem_set hy with q | q
        · exact r.way y q
        · subst q; exact k1
      refine ⟨?_, fun y hy => ?_, ?_⟩
      · show (((if s.2.1 = true then decAll _ _ _ else _ : List Th).length : Nat) : Int) = n
        split
        · rw [decAll_len, List.length_set]; exact len
        · rw [List.length_set]; exact len
      · simp only at hy
        split at hy
        · unfold decAll at hy
          split at hy
          · obtain ⟨z, hz, rfl⟩ := List.mem_map.1 hy
            exact Th.decide_way (wy z hz)
          · exact wy y hy
        · exact wy y hy
      · show Rep n newAr.ws (if s.2.1 = true then M.ts ++ [_] else M.ts) s.2.2.2.1.ws
        cases hs : s.2.1 with
        | false => rw [if_neg (by decide), k3 hs]; exact r.rep
        | true =>
          rw [if_pos rfl]
          obtain ⟨kd, i, was, now, i0, i1, hw, h0, hB⟩ := k2 hs
          have hat := (o.A.at i0 i1).1
          have e2 : (noteT s.2.2.2.1 s.2.2.2.2 k s.1).at_ = (i.toNat : Int) := by rw [hB]; rfl
          have e3 : (noteT s.2.2.2.1 s.2.2.2.2 k s.1).was = was := by rw [hB]; rfl
          have e4 : (noteT s.2.2.2.1 s.2.2.2.2 k s.1).now = now := by rw [hB]; rfl
          have e1 : (noteT s.2.2.2.1 s.2.2.2.2 k s.1).kind = kd := by rw [hB]; rfl
          have e5 : s.2.2.2.1.ws = M.A.ws.set i.toNat now := by rw [hB]; rfl
          have := r.rep.snoc (t := noteT s.2.2.2.1 s.2.2.2.2 k s.1) (by rw [e2]; omega) (by rw [e2]; omega) (by rw [e2, e3, Int.toNat_natCast, hw]; exact hat) (by rw [e1, e3, e4]; exact h0) (by show 0 ≤ k; omega) (by show k < n; omega)
          rw [e2, e4, Int.toNat_natCast, ← e5] at this
          exact this
theorem Mc.pick_picks {M : Mc} {k : Int} : (M.pick k).1.picks ≤ M.picks + 1 := by
  unfold Mc.pick
  split
  · simp only; omega
  · split
    · simp only; omega
    · exact Int.le_refl _
section
variable {D D' D1 D2 : Int → Option Dw} {G G' G1 G2 : Int → Int} {A B C : Ar} {t q s : Int} {d : Dw} {n : Nat} {e : Sw} {w : Wh}
def setD (D : Int → Option Dw) (s : Int) (d : Option Dw) : Int → Option Dw := fun u => if u = s then d else D u
def incG (G : Int → Int) (s : Int) : Int → Int := fun u => if u = s then G s + 1 else G u
theorem setD_at {x : Option Dw} : setD D s x s = x := if_pos rfl
theorem setD_ne {x : Option Dw} {u : Int} (h : u ≠ s) : setD D s x u = D u := if_neg h
theorem incG_at : incG G s s = G s + 1 := if_pos rfl
theorem incG_ne {u : Int} (h : u ≠ s) : incG G s u = G u := if_neg h
end
section
variable {D D' : Int → Option Dw} {G G' : Int → Int} {A B : Ar} {t q s own g : Int} {d : Dw}
def Rd.frs (r : Rd) : List Fr := match r.help with
  | some H => H.frs
  | none => []
theorem asked_st {x : At} {m : AskM} : (x.asked m).slot = x.slot ∧ (x.asked m).gen = x.gen ∧ (x.asked m).over = x.over ∧ ((∃ c, m.need = some c ∧ (x.asked m).st = .rd (.new x.t x.q c) m.view) ∨ (m.need = none ∧ (x.asked m).st = .wr (newWr x.slot x.gen m.view.rows))) := by
  unfold At.asked
  cases h : m.need with
  | some c => exact ⟨rfl, rfl, rfl, .inl ⟨c, rfl, rfl⟩⟩
  | none => exact ⟨rfl, rfl, rfl, .inr ⟨rfl, rfl⟩⟩
end
def lf (L : List Int) : Int → Int := fun u => if 0 ≤ u then L.getD u.toNat 0 else 0
theorem lf_at {L : List Int} {s : Int} (h : 0 ≤ s) : lf L s = L.getD s.toNat 0 := if_pos h
theorem lf_lived {L : List Int} {s : Int} (hL : L.length = 12) (h0 : 0 ≤ s) (h1 : s < 12) : lf (lived s L) = incG (lf L) s := by
  funext u
  simp only [lf, incG, lived]
  by_cases c : u = s
  · subst c
    rw [if_pos h0, if_pos rfl, if_pos h0]
    rw [List.getD_eq_getElem?_getD, List.getElem?_set_self (by omega)]
    rfl
  · rw [if_neg c]
    by_cases c0 : 0 ≤ u
    · rw [if_pos c0, if_pos c0, List.getD_eq_getElem?_getD, List.getElem?_set_ne (by omega), ← List.getD_eq_getElem?_getD]
    · rw [if_neg c0, if_neg c0]
structure EpI (A : Ar) (k : Int) : Prop where
  e : ∃ e, A.at 29 = e * 4 ∧ 0 ≤ e ∧ e ≤ k
  t : ∀ t, 0 ≤ t → t < 4 → (plainOf (A.at (30 + t))).isSome = true
theorem EpI.is {A : Ar} {k : Int} (E : EpI A k) (hk : k < 1000000) : epIs (A.at 29) = true := by
  obtain ⟨e, h1, h2, h3⟩ := E.e
  unfold epIs
  rw [h1, plainOf_val h2 (by omega), valOf_val h2 (by omega), decide_eq_true (by omega)]
  rfl
theorem EpI.keep {A B : Ar} {k k' : Int} (E : EpI A k) (hk : k ≤ k') (h : ∀ j, 29 ≤ j → j < 34 → B.at j = A.at j) : EpI B k' := by
  obtain ⟨e, h1, h2, h3⟩ := E.e
  exact ⟨⟨e, by rw [h 29 (by decide) (by decide)]; exact h1, h2, by omega⟩, fun t t0 t1 => by rw [h _ (by omega) (by omega)]; exact E.t t t0 t1⟩
theorem Acc.at_same {P : Int → Prop} {A B : Ar} (a : Acc P A B) (hA : A.ok) {j : Int} (h0 : 0 ≤ j) (h1 : j < 634) (h : ∀ i, P i → i ≠ j) : B.at j = A.at j := by
  cases a with
  | none => rfl
  | ld i i0 i1 => exact at_ld hA i0 i1 h0 h1
  | put i x i0 i1 p hx => rw [at_put hA i0 i1 h0 h1, if_neg (h i p)]
  | cas i o x i0 i1 p hx hd => rw [at_cas hA i0 i1 h0 h1, if_neg (h i p)]
section
variable {D D' : Int → Option Dw} {A B : Ar} {L L' : List Int} {x y : Th} {hs : Int → Prop} {k pick c own s : Int} {fr : List Int} {p q : Prop}
theorem Ent.step_ep {n : Ent} (hA : A.ok) (o : n.ok) (h : n.over = false) (E : EpI A k) (hk : k < 1000000) : (n.step A).2.1 = 0 ∧ EpI (n.step A).2.2 (k + 1) := by
  have := o.t0; have := o.t1; have := o.e0; have := o.e1
  unfold Ent.step
  rw [if_neg (by rw [h]; decide)]
  split
  · refine ⟨rfl, ?_⟩
    obtain ⟨e, h1, h2, h3⟩ := E.e
    have at_ : ∀ j, 29 ≤ j → j < 34 → (A.put (30 + n.t) ((n.e + 1) * 4)).at j = if 30 + n.t = j then (n.e + 1) * 4 else A.at j := fun j j0 j1 => at_put hA (by omega) (by omega) (by omega) (by omega)
    refine ⟨⟨e, by show (A.put (30 + n.t) ((n.e + 1) * 4)).at 29 = _; rw [at_ 29 (by decide) (by decide), if_neg (by omega)]; exact h1, h2, by omega⟩, fun t t0 t1 => ?_⟩
    show (plainOf ((A.put (30 + n.t) ((n.e + 1) * 4)).at (30 + t))).isSome = true
    rw [at_ _ (by omega) (by omega)]
    split
    · rw [plainOf_val (by omega) (by omega)]; rfl
    · exact E.t t t0 t1
  · rw [if_pos (E.is hk)]
    exact ⟨rfl, E.keep (by omega) fun j j0 j1 => at_ld hA (by omega) (by omega) (by omega) (by omega)⟩
theorem Adv.step_ep {d : Adv} (hA : A.ok) (o : d.ok) (h : d.over = false) (E : EpI A k) (hk : k < 1000000) : (d.step A).2.1 = 0 ∧ EpI (d.step A).2.2 (k + 1) := by
  have := o.a0; have := o.a1; have := o.n1; have e0 := o.e0; have := o.e1
  unfold Adv.step
  rw [if_neg (by rw [h]; decide)]
  split
  · rw [if_pos (E.is hk)]
    exact ⟨rfl, E.keep (by omega) fun j j0 j1 => at_ld hA (by omega) (by omega) (by omega) (by omega)⟩
  · split
    · rw [if_pos (E.t _ (by omega) (by omega))]
      exact ⟨rfl, E.keep (by omega) fun j j0 j1 => at_ld hA (by omega) (by omega) (by omega) (by omega)⟩
    · refine ⟨rfl, ?_⟩
      obtain ⟨e, h1, h2, h3⟩ := E.e
      have at_ : ∀ j, 29 ≤ j → j < 34 → (A.cas 29 (d.e * 4) ((d.e + 1) * 4)).at j = if 29 = j then (if A.at 29 = d.e * 4 then (d.e + 1) * 4 else A.at 29) else A.at j := fun j j0 j1 => at_cas hA (by omega) (by omega) (by omega) (by omega)
      refine ⟨?_, fun t t0 t1 => ?_⟩
      · show ∃ e, (A.cas 29 (d.e * 4) ((d.e + 1) * 4)).at 29 = e * 4 ∧ 0 ≤ e ∧ e ≤ k + 1
        rw [at_ 29 (by decide) (by decide), if_pos rfl]
        split
        · exact ⟨d.e + 1, rfl, by omega, by omega⟩
        · exact ⟨e, h1, h2, by omega⟩
      · show (plainOf ((A.cas 29 (d.e * 4) ((d.e + 1) * 4)).at (30 + t))).isSome = true
        rw [at_ _ (by omega) (by omega), if_neg (by omega)]
        exact E.t t t0 t1
end
theorem newAr_zero {j : Int} (h0 : 29 ≤ j) (h1 : j < 634) : newAr.at j = 0 := by
  have h : ∀ n : Nat, n < 634 → 29 ≤ n → newAr.ws.getD n 0 = 0 := by decide +kernel
  exact h j.toNat (by omega) (by omega)
theorem mem_set_idx {α : Type} {xs : List α} {i : Nat} {a y : α} (h : y ∈ xs.set i a) (hi : i < xs.length) : y = a ∨ ∃ j, j ≠ i ∧ xs[j]? = some y := by
  obtain ⟨j, hj, he⟩ := List.mem_iff_getElem.1 h
  have hg : (xs.set i a)[j]? = some y := by rw [List.getElem?_eq_getElem hj, he]
  rw [List.getElem?_set] at hg
  split at hg
  · cases hg; exact .inl rfl
  · rename_i ne; exact .inr ⟨j, Ne.symm ne, hg⟩
section
variable {M : Mc} {D : Int → Option Dw} {k c n : Int} {fr : List Int}
theorem Mc.si.one (S : M.si fr c) {i j : Nat} {x y : Th} (hx : M.ths[i]? = some x) (hy : M.ths[j]? = some y) {s : Int} (h0 : 0 ≤ s) (h1 : s < 12) (a : s ∈ x.hold) (b : s ∈ y.hold) : i = j := by
  refine Classical.byContradiction fun ne => ?_
  have a1 := S.all s
  have a2 := sum_two (f := fun x : Th => x.hold.count s) hx hy ne
  have a3 := List.count_pos_iff.2 a
  have a4 := List.count_pos_iff.2 b
  rw [if_pos ⟨h0, h1⟩] at a1
  omega
theorem Mc.si.free (S : M.si fr c) {i : Nat} {x : Th} (hx : M.ths[i]? = some x) {s : Int} (h0 : 0 ≤ s) (h1 : s < 12) (a : s ∈ x.hold) : s ∉ fr := fun b => by
  have a1 := S.all s
  have a2 := sum_one (f := fun x : Th => x.hold.count s) hx
  have a3 := List.count_pos_iff.2 a
  have a4 := List.count_pos_iff.2 b
  rw [if_pos ⟨h0, h1⟩] at a1
  omega
theorem hold_slot {x : Th} (h : 0 ≤ x.slot) : x.slot ∈ x.hold := by
  unfold Th.hold
  rw [if_neg (by omega)]
  simp
end
section
variable {D D' : Int → Option Dw} {Q Q' : Qs} {Lo : Int → Prop} {A B : Ar} {F F' : Int → Stk} {M : Int → Int} {t q q' s : Int} {d : Dw} {n : Nat} {e : Sw}
theorem MI.requal (I : MI D Q Lo A F M) (h1 : ∀ s t, (F t).fs ≠ [] → Q.qt s t → Q'.qt s t) (h2 : ∀ s t, (F t).fs ≠ [] → Q.pt s t → Q'.pt s t) (h3 : ∀ s d, D s = some d → d.rq → Opn A s d → ∀ t, Q'.qt s t) : MI D Q' Lo A F M := by
  refine ⟨I.ok, I.ds, fun c c0 c1 => ?_, I.fr, I.ch, I.lost, I.q0, I.t0, fun t w d hw hd hr hg => h1 _ _ (List.ne_nil_of_mem hw) (I.qd t w d hw hd hr hg), h3, fun t f s d hf hr hd hq => h2 _ _ (List.ne_nil_of_mem hf) (I.pf t f s d hf hr hd hq)⟩
  cases I.cells c c0 c1 with
  | val h m => exact .val h m
  | mc hd he hc ha m1 m0 hh r => exact .mc hd he hc ha m1 m0 hh fun hq => by obtain ⟨t, f, a, b, c⟩ := r hq; exact ⟨t, f, h1 _ _ (List.ne_nil_of_mem b) a, b, c⟩
  | en hd he hc ha t0 q0 m ho o => exact .en hd he hc ha t0 q0 m ho o
theorem Rel.else (I : MI D Q Lo A F M) (hc : ∀ c, 0 ≤ c → c < 16 → B.at c = A.at c) (hb : ∀ s d, D s = some d → B.at (baseOf s) = A.at (baseOf s)) : Rel D F A B := by
  refine ⟨fun s d hd => ⟨fun ho => by unfold Opn at ho ⊢; rw [← hb s d hd]; exact ho, fun _ => hb s d hd⟩, fun s d hd ho c c0 c1 ha => by rw [hc c c0 c1]; exact ha, fun s d n e t q hd he _ _ ho ha => ?_, fun s d n e t q hd he t0 q0 ha => ?_, fun s d n e hd he ha => .inl (by have m := (I.ds s d hd).lt he; rw [hc _ m.2.1 m.2.2.1] at ha; exact ha)⟩
  · have m := (I.ds s d hd).lt he
    rw [hc _ m.2.1 m.2.2.1]; exact .inl ha
  · have m := (I.ds s d hd).lt he
    rw [hc _ m.2.1 m.2.2.1] at ha
    exact ⟨ha, fun hw => by unfold Won at hw ⊢; rw [← hb s d hd]; exact hw⟩
theorem setF_self : setF F t ⟨(F t).q, (F t).fs⟩ = F := by
  funext u
  by_cases c : u = t
  · subst c; rw [setF_at]
  · rw [setF_ne c]
theorem MI.else (I : MI D Q Lo A F M) (okB : B.ok) (hc : ∀ c, 0 ≤ c → c < 16 → B.at c = A.at c) (hd : ∀ s d, D s = some d → ∀ j, baseOf s ≤ j → j < baseOf s + 50 → B.at j = A.at j) : MI D Q Lo B F M := by
  have hb : ∀ s d, D s = some d → B.at (baseOf s) = A.at (baseOf s) := fun s d h => hd s d h _ (by omega) (by omega)
  have R := Rel.else I hc hb
  have := I.go (t := 0) (q' := (F 0).q) (fs' := (F 0).fs) (M' := M) okB (fun s d h => by
      obtain ⟨l, m, st, hst, dsc⟩ := I.ds s d h
      exact ⟨l, m, st, hst, dsc.keep m (hd s d h)⟩) R ⟨Int.le_refl _, (I.q0 0).2⟩ ⟨by decide, by decide⟩
    (fun f hf => by rw [setF_self]; exact R.fr I (fun _ => Int.le_refl _) (I.t0 0 (List.ne_nil_of_mem hf)) (Int.le_refl _) (Int.le_refl _) (I.fr 0 f hf))
    (R.chain I (fun w hw => by obtain ⟨d, a1, a2, a3⟩ := I.fr 0 (.who w) (List.mem_of_mem_head? hw); exact ⟨d, a1, a2⟩) (fun f hf => I.fr 0 f (List.mem_of_mem_tail hf)) (I.ch 0))
    (fun s d n e _ _ hx => .inl hx) (fun w r hw hp => .inl ⟨w, r, hw, hp, rfl, rfl, rfl, rfl, rfl⟩)
    (fun c c0 c1 => .inl ⟨hc c c0 c1, rfl, fun s d h _ => by unfold Won; rw [hb s d h]⟩) (fun s d h hl => I.lost s d h (by rw [← hb s d h]; exact hl))
    (fun w d hw hd hr hg => I.qd 0 w d hw hd hr hg) (fun f s d hf hr hd hq => I.pf 0 f s d hf hr hd hq)
  rw [setF_self] at this
  exact this
theorem FrOk.mono {f : Fr} (hl : ∀ s d, D s = some d → Life s d.g) (h : ∀ s d, Ref s f → D s = some d → D' s = some d) (hq : ∀ u, (F u).q ≤ (F' u).q) (k : FrOk D Lo A F t q f) : FrOk D' Lo A F' t q f := by
  cases f with
  | who w =>
    obtain ⟨d, h1, h2, h3⟩ := k
    refine ⟨d, h _ _ (.inl rfl) h1, h2, ?_⟩
    unfold Ph at h3 ⊢
    split
    all_goals first | (rename_i hp; simp only [hp] at h3; first | exact h3 | skip) | (split at h3 <;> first | contradiction | exact h3)
    obtain ⟨n, e, a, b, c, z, s', d', h4, h5, h6, h7⟩ := h3
    exact ⟨n, e, a, b, c, z, s', d', h _ _ (.inr ⟨hp, d'.g, hl _ _ h4, h6⟩) h4, h5, h6, h7⟩
  | ent f =>
    obtain ⟨d, e, n, h1, h2, h3, h4, h5, h6, h7⟩ := k
    exact ⟨d, e, n, h _ _ rfl h1, h2, h3, h4, ⟨h5.1, Int.lt_of_lt_of_le h5.2 (hq _)⟩, h6, h7⟩
theorem MI.take (I : MI D Q Lo A F M) (rq : ∀ s d, D s = some d → d.rq) (no : ∀ t f, f ∈ (F t).fs → D s ≠ none → ¬ Ref s f) : MI (setD D s none) Q Lo A F M := by
  have sub : ∀ u d, setD D s none u = some d → u ≠ s ∧ D u = some d := fun u d h => by
    by_cases c : u = s
    · subst c; rw [setD_at] at h; cases h
    · rw [setD_ne c] at h; exact ⟨c, h⟩
  have hl : ∀ s d, D s = some d → Life s d.g := fun s d h => (I.ds s d h).1
  refine ⟨I.ok, fun u d h => I.ds u d (sub u d h).2, fun c c0 c1 => ?_, fun t f hf => (I.fr t f hf).mono hl (fun u d hr hd => ?_) (fun _ => Int.le_refl _), I.ch, fun u d h => I.lost u d (sub u d h).2, I.q0, I.t0, fun t w d hw hd => I.qd t w d hw (sub _ _ hd).2, fun u d h => I.qo u d (sub u d h).2, fun t f u d hf hr hd => I.pf t f u d hf hr (sub u d hd).2⟩
  · cases I.cells c c0 c1 with
    | val h m => exact .val h m
    | @mc u d n e hd he hc ha m1 m0 hh r =>
      have ne : u ≠ s := fun h => by
        subst h
        obtain ⟨t, f, _, hf, hr⟩ := r (rq _ _ hd)
        cases f with
        | who w => exact no t _ hf (by rw [hd]; simp) (.inl hr.1)
        | ent f => exact hr
      exact .mc (by rw [setD_ne ne]; exact hd) he hc ha m1 m0 hh r
    | @en u d n e t q hd he hc ha t0 q0 m w r ho o =>
      have ne : u ≠ s := fun h => by
        subst h
        exact no t (.who w) (by rw [ho]; simp) (by rw [hd]; simp) (.inl o.s)
      exact .en (by rw [setD_ne ne]; exact hd) he hc ha t0 q0 m ho o
  · have ne : u ≠ s := fun h => by subst h; exact no t f hf (by rw [hd]; simp) hr
    rw [setD_ne ne]; exact hd
theorem MI.wrote (I : MI D Q Lo A F M) (hD : D s = none) (o : DOk A s d) (hop : Opn A s d) (ht : 0 ≤ t ∧ t < 4) (hn : (F t).fs = []) (hq : ∀ u, Q.qt s u) (hp : ∀ u, Q.pt s u) : MI (setD D s (some d)) Q Lo A (setF F t ⟨(F t).q, [.who (.new s d.g)]⟩) M := by
  have sub : ∀ u d', D u = some d' → u ≠ s ∧ setD D s (some d) u = some d' := fun u d' h => by
    have c : u ≠ s := fun c => by subst c; rw [hD] at h; cases h
    exact ⟨c, by rw [setD_ne c]; exact h⟩
  have inv : ∀ u d', setD D s (some d) u = some d' → (u = s ∧ d' = d) ∨ (u ≠ s ∧ D u = some d') := fun u d' h => by
    by_cases c : u = s
    · subst c; rw [setD_at] at h; cases h; exact .inl ⟨rfl, rfl⟩
    · rw [setD_ne c] at h; exact .inr ⟨c, h⟩
  have hl : ∀ s d, D s = some d → Life s d.g := fun s d h => (I.ds s d h).1
  have fne : ∀ {u f}, f ∈ (F u).fs → u ≠ t := fun {u f} h c => by subst c; rw [hn] at h; cases h
  have hF : ∀ u, (F u).q ≤ (setF F t ⟨(F t).q, [.who (.new s d.g)]⟩ u).q := fun u => by
    by_cases c : u = t
    · subst c; rw [setF_at]; exact Int.le_refl _
    · rw [setF_ne c]; exact Int.le_refl _
  have mem : ∀ {u f}, f ∈ (setF F t ⟨(F t).q, [.who (.new s d.g)]⟩ u).fs → (u = t ∧ f = .who (.new s d.g)) ∨ (u ≠ t ∧ f ∈ (F u).fs) := fun {u f} h => by
    by_cases c : u = t
    · subst c; rw [setF_at] at h; exact .inl ⟨rfl, List.mem_singleton.1 h⟩
    · rw [setF_ne c] at h; exact .inr ⟨c, h⟩
  refine ⟨I.ok, fun u d' h => ?_, fun c c0 c1 => ?_, fun u f hf => ?_, fun u => ?_, fun u d' h hl => ?_, fun u => ?_, fun u h => ?_, fun u w d' hw hd hr hg => ?_, fun u d' h hr ho v => ?_, fun u f s' d' hf hr hd hrq => ?_⟩
  · rcases inv u d' h with ⟨rfl, rfl⟩ | ⟨_, h⟩
    · exact o
    · exact I.ds u d' h
  · cases I.cells c c0 c1 with
    | val h m => exact .val h m
    | mc hd he hc ha m1 m0 hh r =>
      refine .mc (sub _ _ hd).2 he hc ha m1 m0 hh fun hq => ?_
      obtain ⟨u, f, a, b, c⟩ := r hq
      exact ⟨u, f, a, by rw [setF_ne (fne b)]; exact b, c⟩
    | @en u d n e t' q' hd he hc ha t0 q0 m w r ho o' =>
      have ne : t' ≠ t := fne (f := .who w) (by rw [ho]; simp)
      exact .en (sub _ _ hd).2 he hc ha t0 (by rw [setF_ne ne]; exact q0) m (by rw [setF_ne ne]; exact ho) o'
  · rcases mem hf with ⟨rfl, rfl⟩ | ⟨c, hf⟩
    · exact ⟨d, setD_at, rfl, trivial⟩
    · rw [setF_ne c]
      exact (I.fr u f hf).mono hl (fun v d' _ hd => (sub v d' hd).2) hF
  · by_cases c : u = t
    · subst c; rw [setF_at]; exact ⟨trivial, (fun h => by cases h), trivial⟩
    · rw [setF_ne c]; exact I.ch u
  · rcases inv u d' h with ⟨rfl, rfl⟩ | ⟨_, h⟩
    · unfold Opn at hop; rw [hop, stateW_inj] at hl; omega
    · exact I.lost u d' h hl
  · by_cases c : u = t
    · subst c; rw [setF_at]; exact I.q0 u
    · rw [setF_ne c]; exact I.q0 u
  · by_cases c : u = t
    · subst c; exact ht
    · rw [setF_ne c] at h; exact I.t0 u h
  · rcases mem hw with ⟨rfl, e⟩ | ⟨c, hw⟩
    · cases e; exact absurd rfl hg.1
    · rcases inv _ d' hd with ⟨e, _⟩ | ⟨_, h⟩
      · rw [e]; exact hq u
      · exact I.qd u w d' hw h hr hg
  · rcases inv u d' h with ⟨rfl, _⟩ | ⟨_, h⟩
    · exact hq v
    · exact I.qo u d' h hr ho v
  · rcases inv s' d' hd with ⟨rfl, _⟩ | ⟨ne, h⟩
    · exact hp u
    · rcases mem hf with ⟨rfl, rfl⟩ | ⟨c, hf⟩
      · rcases hr with e | ⟨e, _⟩
        · have e : s = s' := e
          exact absurd e.symm ne
        · cases e
      · exact I.pf u f s' d' hf hr h hrq
end
section
variable {D D' : Int → Option Dw} {Q Q' : Qs} {Lo : Int → Prop} {G : Int → Int} {A B : Ar} {F F' : Int → Stk} {M : Int → Int} {t q q' s : Int} {d : Dw} {n : Nat} {e : Sw} {w : Wh}
def Plc (A B : Ar) (s : Int) : Prop := (B.lst 2 < 34 ∨ (B.lst 2 - 34) / 50 = s) ∧ ∀ j, 34 ≤ j → j < 634 → j ≠ baseOf s → B.at j = A.at j
theorem Plc.ld {i : Int} (hA : A.ok) (h0 : 0 ≤ i) (h1 : i < 634) (h : i < 34 ∨ (i - 34) / 50 = s) : Plc A (A.ld i) s :=
  ⟨by show ((i.toNat : Nat) : Int) < 34 ∨ (((i.toNat : Nat) : Int) - 34) / 50 = s; rw [show ((i.toNat : Nat) : Int) = i by omega]; exact h, fun j j0 j1 _ => at_ld hA h0 h1 (by omega) j1⟩
theorem Plc.cas {i o x : Int} (hA : A.ok) (h0 : 0 ≤ i) (h1 : i < 634) (h : i < 34 ∨ (0 ≤ s ∧ i = baseOf s)) : Plc A (A.cas i o x) s :=
  ⟨by
    show ((i.toNat : Nat) : Int) < 34 ∨ (((i.toNat : Nat) : Int) - 34) / 50 = s
    rw [show ((i.toNat : Nat) : Int) = i by omega]
    rcases h with h | ⟨h, h'⟩
    · exact .inl h
    · right; unfold baseOf at h'; omega, fun j j0 j1 hj => by rw [at_cas hA h0 h1 (by omega) j1, if_neg (by rcases h with h | ⟨_, h⟩ <;> omega)]⟩
theorem Wh.step_plc {w : Wh} (ok : w.ok) (hA : A.ok) : Plc A (w.step t q A).a w.s := by
  obtain ⟨s, g, pc, i, k, cell, was, put, x, opn, won⟩ := w
  obtain ⟨life, i0, i1, i2, k1, k0, c0, c1, was1, put1, x1, pc1, pc0, ref⟩ := ok
  simp only at life i0 i1 i2 k1 k0 c0 c1 was1 put1 x1 pc1 pc0 ref
  have s0 := life.s0; have s1 := life.s1
  have hb : baseOf s = 34 + s * 50 := rfl
  have b : ∀ i : Int, 0 ≤ i → i < 50 → Plc A (A.ld (baseOf s + i)) s := fun i i0 i1 => .ld hA (by omega) (by omega) (.inr (by omega))
  have b0 : Plc A (A.ld (baseOf s)) s := .ld hA (by omega) (by omega) (.inr (by omega))
  have : pc = 1 ∨ pc = 2 ∨ pc = 3 ∨ pc = 4 ∨ pc = 5 ∨ pc = 6 ∨ pc = 7 ∨ pc = 8 ∨ pc = 9 ∨ pc = 10 ∨ pc = 11 ∨ pc = 12 ∨ pc = 13 ∨ pc = 14 := by omega
  rcases this with rfl | rfl | rfl | rfl | rfl | rfl | rfl | rfl | rfl | rfl | rfl | rfl | rfl | rfl
  · exact b0
  · exact b 1 (by decide) (by decide)
  · have := i2 (by decide) (by decide) (by decide) (by decide); exact b _ (by (first | omega | (simp only; omega))) (by (first | omega | (simp only; omega)))
  · have := i2 (by decide) (by decide) (by decide) (by decide); exact b _ (by (first | omega | (simp only; omega))) (by (first | omega | (simp only; omega)))
  · rw [Wh.step5 rfl]
    unfold Wh.swapIn
    have key : Plc A (A.cas cell was (Form.entry s g i t q).number) s := .cas hA c0 (by omega) (.inl (by omega))
    simp only
    split
    · exact key
    · split
      · exact key
      · exact key
      · exact key
      · split <;> exact key
  · exact b0
  · exact .cas hA c0 (by show cell < 634; omega) (.inl (by show cell < 34; omega))
  · exact .cas hA (by show 0 ≤ baseOf s; omega) (by show baseOf s < 634; omega) (.inr ⟨s0, rfl⟩)
  · exact .cas hA (by show 0 ≤ baseOf s; omega) (by show baseOf s < 634; omega) (.inr ⟨s0, rfl⟩)
  · exact b 1 (by decide) (by decide)
  · have := i2 (by decide) (by decide) (by decide) (by decide); exact b _ (by (first | omega | (simp only; omega))) (by (first | omega | (simp only; omega)))
  · have := i2 (by decide) (by decide) (by decide) (by decide)
    refine b _ ?_ ?_ <;> simp only <;> split <;> omega
  · exact .cas hA c0 (by show cell < 634; omega) (.inl (by show cell < 34; omega))
  · simp only [Wh.step]
    split <;> exact b0
theorem En.step_plc {f : En} (ok : f.ok) (hA : A.ok) : Plc A (f.step q A).a f.s := by
  obtain ⟨s, g, e, t', q', pc, cell, was, opn⟩ := f
  obtain ⟨life, e0, e1, t0, t1, q0', q1', c0, c1, was1, pc1⟩ := ok
  simp only at life e0 e1 t0 t1 q0' q1' c0 c1 was1 pc1
  have s0 := life.s0; have s1 := life.s1
  have hb : baseOf s = 34 + s * 50 := rfl
  have b : ∀ i : Int, 0 ≤ i → i < 50 → Plc A (A.ld (baseOf s + i)) s := fun i i0 i1 => .ld hA (by omega) (by omega) (.inr (by omega))
  have b0 : Plc A (A.ld (baseOf s)) s := .ld hA (by omega) (by omega) (.inr (by omega))
  have : pc = 0 ∨ pc = 1 ∨ pc = 2 ∨ pc = 3 := by omega
  rcases this with rfl | rfl | rfl | rfl
  · exact b _ (by (first | omega | (simp only; omega))) (by (first | omega | (simp only; omega)))
  · exact b _ (by (first | omega | (simp only; omega))) (by (first | omega | (simp only; omega)))
  · exact b0
  · exact .cas hA c0 (by show cell < 634; omega) (.inl (by show cell < 34; omega))
theorem Help.step_plc {H : Help} (ok : H.ok) (ho : H.over = false) (hA : A.ok) : (H.step A).1.slot = H.top.s ∧ (H.step A).1.gen = H.top.g ∧ Life H.top.s H.top.g ∧ Plc A (H.step A).2.2 H.top.s := by
  have k := (ok.frames ho).1
  rw [Help.step_eq ho]
  have key : Plc A (H.top.step H.t H.q A).a H.top.s := by
    cases ht : H.top with
    | who w => rw [ht] at k; exact Wh.step_plc k hA
    | ent f => rw [ht] at k; exact En.step_plc k hA
  refine ⟨?_, ?_, Fr.life k, key⟩
  · unfold Help.take; simp only; split
    · rfl
    · split
      · split <;> rfl
      · split
        · rfl
        · split <;> rfl
  · unfold Help.take; simp only; split
    · rfl
    · split
      · split <;> rfl
      · split
        · rfl
        · split <;> rfl
def Tsl (G : Int → Int) (B : Ar) (s g : Int) : Prop := (s = -1 ∧ B.lst 2 < 34) ∨ ((0 ≤ s ∧ s < 12) ∧ g = G s ∧ (34 ≤ B.lst 2 → s = (B.lst 2 - 34) / 50))
def Reg (D : Int → Option Dw) (A B : Ar) (own : Int) : Prop := ∀ s, 0 ≤ s → s < 12 → s ≠ own → D s = none → ∀ j, baseOf s ≤ j → j < baseOf s + 50 → B.at j = A.at j
theorem FrOk.top {f : Fr} (h : FrOk D Lo A F t q f) : ∃ d, D f.s = some d ∧ f.g = d.g := by
  cases f with
  | who w => obtain ⟨d, a, b, _⟩ := h; exact ⟨d, a, b⟩
  | ent f => obtain ⟨d, e, n, a, b, _⟩ := h; exact ⟨d, a, b⟩
theorem Plc.reg {u : Int} (p : Plc A B u) (hd : D u ≠ none) (u0 : 0 ≤ u ∧ u < 12) (own : Int) : Reg D A B own := fun s h0 h1 _ hD j j0 j1 => by
  have ne : s ≠ u := fun c => by subst c; exact hd hD
  exact p.2 j (by unfold baseOf at j0; omega) (by unfold baseOf at j1; omega) (by unfold baseOf at j0 j1 ⊢; omega)
theorem Reg.same {own : Int} (h : ∀ j, 34 ≤ j → j < 634 → B.at j = A.at j) : Reg D A B own := fun s h0 h1 _ _ j j0 j1 => h j (by unfold baseOf at j0; omega) (by unfold baseOf at j1; omega)
theorem Turn.else (hb : ∀ s d, D s = some d → B.at (baseOf s) = A.at (baseOf s)) : Turn D A B M M :=
  ⟨fun s d hd => ⟨fun ho => by unfold Opn at ho ⊢; rw [← hb s d hd]; exact ho, fun _ => hb s d hd⟩, .inl ⟨rfl, fun s d hd => by unfold Won; rw [hb s d hd]⟩⟩
structure HpS (D : Int → Option Dw) (Q : Qs) (Lo : Int → Prop) (G : Int → Int) (A : Ar) (F : Int → Stk) (M : Int → Int) (t : Int) (H H' : Help) (c : Int) (B : Ar) (M' : Int → Int) : Prop where
  err : c = 0
  q0 : H.q ≤ H'.q
  q1 : H'.q ≤ H.q + 1
  th : H'.t = t
  mi : MI D Q Lo B (setF F t ⟨H'.q, H'.frs⟩) M'
  turn : Turn D A B M M'
  ts : Tsl G B H'.slot H'.gen
  reg : ∀ own, Reg D A B own
  bot : ∀ s, Bot D A s H → Bot D B s H'
theorem MI.helpS (I : MI D Q Lo A F M) (hqp : QP D Q F) (hL : LoB D Lo A M) (gs : ∀ s d, D s = some d → d.g = G s) {H : Help} (ok : H.ok) (ho : H.over = false) (ht : H.t = t) (hF : F t = ⟨H.q, H.frs⟩) (hq : H.q + 1 < 1048576) :
    ∃ M', HpS D Q Lo G A F M t H (H.step A).1 (H.step A).2.1 (H.step A).2.2 M' := by
  have hS : F t = stk H := hF
  have hS' : (F t).fs = H.top :: H.rest := by rw [hS]; unfold stk; rw [ho]; rfl
  obtain ⟨p1, p2, p3, p4⟩ := Help.step_plc ok ho I.ok
  obtain ⟨d, hd, hg⟩ := (I.fr t H.top (by rw [hS']; simp)).top
  have base := fun s => I.help (s := s) hqp hL hS ht ho hq (Bo := Bot D A s H) id
  obtain ⟨a1, a2, a3, a4, a5, M', a6, a7, a8⟩ := base 0
  refine ⟨M', a1, a2, a3, a4, a7, a6, .inr ⟨by rw [p1]; exact ⟨p3.s0, p3.s1⟩, by rw [p1, p2, hg]; exact gs _ _ hd, fun h => ?_⟩, fun own => p4.reg (by rw [hd]; simp) ⟨p3.s0, p3.s1⟩ own, fun s b => ?_⟩
  · rw [p1]
    rcases p4.1 with h' | h'
    · omega
    · exact h'.symm
  · obtain ⟨_, _, _, _, _, M2, _, _, b2⟩ := base s
    exact b2 b
structure RdS (D : Int → Option Dw) (Q : Qs) (Lo : Int → Prop) (G : Int → Int) (A : Ar) (F : Int → Stk) (M : Int → Int) (r r' : Rd) (c : Int) (B : Ar) (M' : Int → Int) : Prop where
  err : c = 0
  q0 : r.q ≤ r'.q
  q1 : r'.q ≤ r.q + 1
  t : r'.t = r.t
  mi : MI D Q Lo B (setF F r.t ⟨r'.q, r'.frs⟩) M'
  turn : Turn D A B M M'
  ts : Tsl G B r'.slot r'.gen
  reg : ∀ own, Reg D A B own
  hp : ∀ H, r'.help = some H → H.t = r'.t ∧ H.q = r'.q
  over : r'.over = true → r'.frs = [] ∧ M r.cell = r'.value * 4 ∧ M' = M ∧ r'.cell = r.cell
theorem Rd.step_s {r : Rd} (I : MI D Q Lo A F M) (hqp : QP D Q F) (hL : LoB D Lo A M) (gs : ∀ s d, D s = some d → d.g = G s ∧ d.rq) (o : r.ok) (ho : r.over = false) (hF : F r.t = ⟨r.q, r.frs⟩) (hq : r.q + 1 < 1048576)
    (hh : ∀ H, r.help = some H → H.t = r.t ∧ H.q = r.q) : ∃ M', RdS D Q Lo G A F M r (r.step A).1 (r.step A).2.1 (r.step A).2.2 M' := by
  have c0 := o.c0; have c1 := o.c1
  unfold Rd.step
  rw [if_neg (by rw [ho]; decide)]
  cases he : r.help with
  | some H =>
    have oh := o.help H he
    obtain ⟨ht, hqe⟩ := hh H he
    have hF' : F r.t = ⟨H.q, H.frs⟩ := by rw [hF, hqe]; unfold Rd.frs; rw [he]
    obtain ⟨M', R⟩ := I.helpS (G := G) hqp hL (fun s d h => (gs s d h).1) oh.1 oh.2 ht hF' (by omega)
    simp only [Rd.helping]
    generalize H.step A = p at R
    have e0 := R.err
    refine ⟨M', by rw [if_pos e0], by rw [← hqe]; exact R.q0, by rw [← hqe]; exact R.q1, rfl, ?_, R.turn, R.ts, R.reg, fun H' h => ?_, fun h => ?_⟩
    · have e : Rd.frs { r with slot := p.1.slot, gen := p.1.gen, q := p.1.q, help := if p.1.over = true then none else some p.1, over := !decide (p.2.1 = 0) } = p.1.frs := by
        unfold Rd.frs
        simp only
        cases c : p.1.over with
        | true => simp only [if_true]; unfold Help.frs; rw [c]; rfl
        | false => rfl
      rw [e]; exact R.mi
    · simp only at h
      split at h
      · cases h
      · cases h; exact ⟨R.th, rfl⟩
    · simp only at h
      rw [decide_eq_true e0] at h; cases h
  | none =>
    have hf : r.frs = [] := by unfold Rd.frs; rw [he]
    have same := ld_same (i := r.cell) I.ok c0 (by omega)
    have okB := I.ok.ld r.cell
    have ht : 0 ≤ r.t ∧ r.t < 4 := ⟨o.t0, o.t1⟩
    have hfs : (F r.t).fs = [] := by rw [hF, hf]
    have hfq : (F r.t).q = r.q := by rw [hF]
    have tr : Turn D A (A.ld r.cell) M M := Turn.same I same
    have rg : ∀ own, Reg D A (A.ld r.cell) own := fun own => .same fun j j0 j1 => same j (by omega) j1
    have lst : (A.ld r.cell).lst 2 < 34 := by show ((r.cell.toNat : Nat) : Int) < 34; omega
    have keep : MI D Q Lo (A.ld r.cell) (setF F r.t ⟨r.q, []⟩) M := by
      have := I.quiet (t := r.t) (q' := r.q) (fs' := []) okB same ⟨by rw [hfq]; exact Int.le_refl _, o.q1⟩ ht (fun f h => by cases h) trivial (fun s d n e _ _ hx => by rw [hfs] at hx; obtain ⟨f, h, _⟩ := hx; cases h) (fun w r hw => by rw [hfs] at hw; cases hw) (fun w d h => by cases h) (fun f s d h => by cases h)
      exact this
    have push : ∀ f, FrOk D Lo A F r.t r.q f → Chain A [f] → (∀ w, f = .who w → w.pc = 1) → (∀ s d, Ref s f → D s = some d → d.rq → Q.pt s r.t) → MI D Q Lo (A.ld r.cell) (setF F r.t ⟨r.q, [f]⟩) M := fun f h1 h2 h3 h4 => by
      refine I.quiet (t := r.t) (q' := r.q) (fs' := [f]) okB same ⟨by rw [hfq]; exact Int.le_refl _, o.q1⟩ ht (fun g h => by rw [List.mem_singleton.1 h, hfq]; exact h1) h2 (fun s d n e _ _ hx => by rw [hfs] at hx; obtain ⟨f, h, _⟩ := hx; cases h) (fun w r hw => by rw [hfs] at hw; cases hw) (fun w d h hd hr hg => ?_) (fun g s d h hr => by rw [List.mem_singleton.1 h] at hr; exact h4 s d hr)
      have := List.mem_singleton.1 h
      exact absurd (h3 w this.symm) hg.1
    simp only [Rd.load]
    cases I.cells r.cell c0 c1 with
    | @val v h m =>
      rw [h]
      refine ⟨M, rfl, Int.le_refl _, by simp only; omega, rfl, ?_, tr, .inl ⟨rfl, lst⟩, rg, (fun H h => by simp only at h; rw [he] at h; cases h), fun _ => ⟨?_, by rw [m]; exact (val_read h).2.1, rfl, rfl⟩⟩
      · have e : Rd.frs { r with slot := -1, gen := 0, value := v, over := true } = [] := by unfold Rd.frs; simp only [he]
        rw [e]; exact keep
      · unfold Rd.frs; simp only [he]
    | @mc s d n e hd hde hc ha m1 m0 hh' rr =>
      have l := (I.ds _ _ hd).1
      have hr : read (A.at r.cell) = some (.mcas s d.g) := by rw [ha]; exact mw_read l
      have hp : plainOf (A.at r.cell) = none := by unfold plainOf; rw [hr]
      have hn : newHelp r.t r.q (A.at r.cell) = some (.new r.t r.q (.who (.new s d.g))) := by
        unfold newHelp; rw [hr]; simp only [Option.bind, newFr]; rw [if_pos ⟨o.t0, o.t1, o.q0, o.q1⟩]
      rw [hp]; simp only; rw [hn]
      refine ⟨M, rfl, Int.le_refl _, by simp only; omega, rfl, ?_, tr, .inl ⟨rfl, lst⟩, rg, (fun H h => by cases h; exact ⟨rfl, rfl⟩), fun h => by simp only at h; rw [ho] at h; cases h⟩
      refine push (.who (.new s d.g)) ⟨d, hd, rfl, trivial⟩ ⟨trivial, (fun h => by cases h), trivial⟩ (fun w h => by cases h; rfl) fun s' d' hr hd' hq' => ?_
      rcases hr with h | ⟨h, _⟩
      · have h : s = s' := h
        subst h
        obtain ⟨t', f, hqt, hf', _⟩ := rr (gs _ _ hd).2
        exact hqp s d r.t t' hd (gs _ _ hd).2 hqt (List.ne_nil_of_mem hf')
      · cases h
    | @en s d n e t1 q1 hd hde hc ha t10 q10 m w rs how own =>
      have l := (I.ds _ _ hd)
      have m1 := l.lt hde
      have qq := (I.q0 t1).2
      have hr : read (A.at r.cell) = some (.entry s d.g n t1 q1) := by rw [ha]; exact read_number (ew_range l.1 m1.1 t10 ⟨q10.1, by omega⟩)
      have hp : plainOf (A.at r.cell) = none := by unfold plainOf; rw [hr]
      have hn : newHelp r.t r.q (A.at r.cell) = some (.new r.t r.q (.ent (.new s d.g n t1 q1))) := by
        unfold newHelp; rw [hr]; simp only [Option.bind, newFr]; rw [if_pos ⟨o.t0, o.t1, o.q0, o.q1⟩]
      rw [hp]; simp only; rw [hn]
      refine ⟨M, rfl, Int.le_refl _, by simp only; omega, rfl, ?_, tr, .inl ⟨rfl, lst⟩, rg, (fun H h => by cases h; exact ⟨rfl, rfl⟩), fun h => by simp only at h; rw [ho] at h; cases h⟩
      refine push (.ent (.new s d.g n t1 q1)) ⟨d, e, n, hd, rfl, rfl, hde, q10, t10, trivial⟩ trivial (fun w h => by cases h) fun s' d' hr hd' hq' => ?_
      have h : s = s' := hr
      subst h
      have os := own.s
      have := I.qd t1 w d (by rw [how]; simp) (by rw [os]; exact hd) (gs _ _ hd).2 (by rcases own.pc with h | h <;> exact ⟨by omega, .inl (by omega)⟩)
      rw [os] at this
      exact hqp s d r.t t1 hd (gs _ _ hd).2 this (by rw [how]; simp)
end
def At.frs (a : At) : List Fr := match a.st with
  | .rd r _ => r.frs
  | .wr _ => []
  | .hp H => H.frs
def At.stk (a : At) : Stk := ⟨a.q, a.frs⟩
def AtS (D : Int → Option Dw) (G : Int → Int) (A : Ar) (a : At) : Prop := a.gen = G a.slot ∧ match a.st with
  | .rd r _ => D a.slot = none ∧ r.t = a.t ∧ r.q = a.q ∧ ∀ H, r.help = some H → H.t = a.t ∧ H.q = a.q
  | .wr w => D a.slot = none ∧ ∃ (ds : List Sw) (k : Nat), swMay ds = true ∧ k < (descRow a.gen ds).length ∧ w = ⟨baseOf a.slot + k, (descRow a.gen ds).drop k⟩ ∧ ∀ j : Nat, j < k → A.at (baseOf a.slot + j) = (descRow a.gen ds).getD j 0
  | .hp H => H.t = a.t ∧ H.q = a.q ∧ (∃ d, D a.slot = some d) ∧ Bot D A a.slot H
section
variable {D D' : Int → Option Dw} {Q Q' : Qs} {Lo : Int → Prop} {G G' : Int → Int} {A B : Ar} {F F' : Int → Stk} {M M' : Int → Int} {t q q' s own : Int} {d : Dw} {n : Nat} {e : Sw} {w : Wh}
theorem AtS.other {a : At} (T : Turn D A B M M') (R : Reg D A B own) (h0 : 0 ≤ a.slot) (h1 : a.slot < 12) (hne : a.slot ≠ own) (hD : D' a.slot = D a.slot) (hG : G' a.slot = G a.slot) (h : AtS D G A a) : AtS D' G' B a := by
  obtain ⟨e, h⟩ := h
  refine ⟨by rw [hG]; exact e, ?_⟩
  split
  · rename_i r v hs
    rw [hs] at h
    exact ⟨by rw [hD]; exact h.1, h.2⟩
  · rename_i w hs
    rw [hs] at h
    obtain ⟨hd, ds, k, m, hk, hw, h2⟩ := h
    have hn := R a.slot h0 h1 hne hd
    have hl := sw_len m
    have hk' := hk
    rw [descRow_len] at hk'
    exact ⟨by rw [hD]; exact hd, ds, k, m, hk, hw, fun j hj => by rw [hn _ (by omega) (by omega)]; exact h2 j hj⟩
  · rename_i H hs
    rw [hs] at h
    obtain ⟨h2, h3, ⟨d, hd⟩, hb⟩ := h
    refine ⟨h2, h3, ⟨d, by rw [hD]; exact hd⟩, ?_⟩
    have := hb.turn T
    unfold Bot at this ⊢
    rw [hD]; exact this
structure AtSR (D : Int → Option Dw) (Q : Qs) (Lo : Int → Prop) (G : Int → Int) (A : Ar) (F : Int → Stk) (M : Int → Int) (a : At) (D' : Int → Option Dw) (M' : Int → Int) (a' : At) (c : Int) (B : Ar) : Prop where
  err : c = 0
  mi : MI D' Q Lo B (setF F a.t a'.stk) M'
  turn : Turn D A B M M'
  ne : ∀ u, u ≠ a.slot → D' u = D u
  gs : ∀ s d, D' s = some d → d.g = G s ∧ d.rq
  slot : a'.slot = a.slot
  gen : a'.gen = a.gen
  th : a'.t = a.t
  q0 : a.q ≤ a'.q
  q1 : a'.q ≤ a.q + 1
  on : a'.over = false → AtS D' G B a'
  over : a'.over = true → a'.frs = [] ∧ ∃ d, D' a.slot = some d ∧ ¬ Opn B a.slot d ∧ (a'.won = true ↔ Won B a.slot d)
  ts : Tsl G B a'.ts a'.tg
  reg : Reg D A B a.slot
theorem asked_q {x : At} {m : AskM} : (x.asked m).t = x.t ∧ (x.asked m).q = x.q ∧ (x.asked m).ts = x.ts ∧ (x.asked m).tg = x.tg := by
  unfold At.asked
  cases h : m.need with
  | some c => exact ⟨rfl, rfl, rfl, rfl⟩
  | none => exact ⟨rfl, rfl, rfl, rfl⟩
theorem At.step_s {a : At} (I : MI D Q Lo A F M) (hqp : QP D Q F) (hL : LoB D Lo A M) (gs : ∀ s d, D s = some d → d.g = G s ∧ d.rq) (o : a.ok) (on : a.on) (aw : AtS D G A a) (g1 : 1 ≤ a.gen) (hF : F a.t = a.stk) (hq : a.q + 1 < 1048576)
    (hqt : ∀ u, Q.qt a.slot u) (hpt : ∀ u, Q.pt a.slot u) : ∃ D' M', AtSR D Q Lo G A F M a D' M' (a.step A).1 (a.step A).2.1 (a.step A).2.2 := by
  obtain ⟨ho, hw⟩ := on
  have hl := o.life
  unfold lifeMay at hl
  simp only [decide_eq_true_eq] at hl
  have l : Life a.slot a.gen := ⟨hl.1, hl.2.1, hl.2.2.1, hl.2.2.2⟩
  have s0 := l.s0; have s1 := l.s1
  obtain ⟨hg, aw⟩ := aw
  unfold At.step
  rw [if_neg (by rw [ho]; decide)]
  have os := o.st
  cases hs : a.st with
  | rd r v =>
    rw [hs] at aw os
    obtain ⟨hd, ht, hqe, hh⟩ := aw
    have hF' : F r.t = ⟨r.q, r.frs⟩ := by rw [ht, hF, hqe]; unfold At.stk At.frs; rw [hs]
    obtain ⟨M', R⟩ := Rd.step_s (G := G) I hqp hL gs os.1 (os.2.2 ho) hF' (by omega) (fun H h => by obtain ⟨x, y⟩ := hh H h; exact ⟨by rw [x, ht], by rw [y, hqe]⟩)
    have rv := Rd.step_val (r := r) (A := A) (os.2.2 ho)
    simp only
    generalize r.step A = p at R rv
    have e0 := R.err
    rw [if_neg (by rw [e0]; decide)]
    have mi := R.mi
    rw [ht] at mi
    cases hov : p.1.over with
    | false =>
      simp only [Bool.false_eq_true, if_false]
      refine ⟨D, M', rfl, mi, R.turn, fun _ _ => rfl, gs, rfl, rfl, rfl, by rw [← hqe]; exact R.q0, by rw [← hqe]; exact R.q1, fun _ => ⟨hg, hd, by rw [R.t]; exact ht, rfl, fun H h => ?_⟩, (fun h => by simp only at h; rw [ho] at h; cases h), R.ts, R.reg _⟩
      obtain ⟨x, y⟩ := R.hp H h
      exact ⟨by rw [x, R.t]; exact ht, y⟩
    | true =>
      simp only [if_true]
      obtain ⟨rf, _, hM, _⟩ := R.over hov
      unfold At.known
      generalize hx1 : ({ a with q := p.1.q, ts := p.1.slot, tg := p.1.gen, st := .rd p.1 v } : At) = x1
      have es : x1.slot = a.slot := by rw [← hx1]
      have eg : x1.gen = a.gen := by rw [← hx1]
      have et : x1.t = a.t := by rw [← hx1]
      have eq : x1.q = p.1.q := by rw [← hx1]
      have ets : x1.ts = p.1.slot := by rw [← hx1]
      have etg : x1.tg = p.1.gen := by rw [← hx1]
      have eo : x1.over = a.over := by rw [← hx1]
      have eops : x1.ops = a.ops := by rw [← hx1]
      have vok := Vw.know_ok (c := p.1.cell) os.2.1 (rv e0 hov).1
      have dok := Vw.do_ok vok o.ops
      rw [eops]
      obtain ⟨s1, s2, s3, s4⟩ := asked_st (x := x1) (m := (v.know p.1.cell p.1.value).do_ a.ops)
      obtain ⟨u1, u2, u3, u4⟩ := asked_q (x := x1) (m := (v.know p.1.cell p.1.value).do_ a.ops)
      generalize x1.asked ((v.know p.1.cell p.1.value).do_ a.ops) = y at s1 s2 s3 s4 u1 u2 u3 u4
      rw [es] at s1
      rw [eg] at s2
      rw [et] at u1
      rw [eq] at u2
      have yf : y.frs = [] := by
        unfold At.frs
        rcases s4 with ⟨c, h1, h2⟩ | ⟨h1, h2⟩ <;> rw [h2] <;> rfl
      have ys : y.stk = ⟨p.1.q, p.1.frs⟩ := by unfold At.stk; rw [yf, u2, rf]
      refine ⟨D, M', rfl, by rw [ys]; exact mi, R.turn, fun _ _ => rfl, gs, s1, s2, u1, by rw [u2, ← hqe]; exact R.q0, by rw [u2, ← hqe]; exact R.q1, fun _ => ⟨by rw [s1, s2]; exact hg, ?_⟩, (fun h => by rw [s3, eo, ho] at h; cases h), by rw [u3, u4, ets, etg]; exact R.ts, R.reg _⟩
      rcases s4 with ⟨c, h1, h2⟩ | ⟨h1, h2⟩
      · rw [h2]
        exact ⟨by rw [s1]; exact hd, by rw [u1, ← et]; rfl, by rw [u2, ← eq]; rfl, (fun H h => by cases h)⟩
      · rw [h2]
        refine ⟨by rw [s1]; exact hd, _, 0, Vw.rows_may dok.1, by rw [descRow_len]; omega, ?_, fun j hj => absurd hj (by omega)⟩
        unfold newWr
        rw [s1, s2, es, eg]
        simp
  | wr w =>
    rw [hs] at aw os
    obtain ⟨hd, ds, k, m, hk, hw', h2⟩ := aw
    have hln := sw_len m
    have hk' := hk
    rw [descRow_len] at hk'
    have hx : (descRow a.gen ds).drop k = (descRow a.gen ds).getD k 0 :: (descRow a.gen ds).drop (k + 1) := by
      rw [List.drop_eq_getElem_cons hk, List.getD_eq_getElem?_getD, List.getElem?_eq_getElem hk]; rfl
    have hstep : w.step A = (⟨baseOf a.slot + k + 1, (descRow a.gen ds).drop (k + 1)⟩, ((descRow a.gen ds).drop (k + 1)).isEmpty, A.put (baseOf a.slot + k) ((descRow a.gen ds).getD k 0)) := by
      unfold Wr.step
      rw [hw']
      simp only
      rw [hx]
    simp only
    rw [hstep]
    simp only
    have hB : ∀ j, 0 ≤ j → j < 634 → (A.put (baseOf a.slot + k) ((descRow a.gen ds).getD k 0)).at j = if baseOf a.slot + k = j then (descRow a.gen ds).getD k 0 else A.at j := fun j j0 j1 => at_put I.ok (by unfold baseOf; omega) (by unfold baseOf; omega) j0 j1
    have okB : (A.put (baseOf a.slot + k) ((descRow a.gen ds).getD k 0)).ok := I.ok.put _ (descRow_range l.g0 l.g1 m _ (by rw [List.getD_eq_getElem?_getD, List.getElem?_eq_getElem hk]; exact List.getElem_mem _))
    have lst : (A.put (baseOf a.slot + k) ((descRow a.gen ds).getD k 0)).lst 2 = baseOf a.slot + k := by
      show (((baseOf a.slot + k).toNat : Nat) : Int) = _
      have : 0 ≤ baseOf a.slot + k := by unfold baseOf; omega
      omega
    generalize A.put (baseOf a.slot + k) ((descRow a.gen ds).getD k 0) = B at hB okB lst
    have oth : ∀ u d, D u = some d → ∀ j, baseOf u ≤ j → j < baseOf u + 50 → B.at j = A.at j := fun u d hu j j0 j1 => by
      have lu := (I.ds u d hu).1
      have := lu.s0; have := lu.s1
      have ne : u ≠ a.slot := fun c => by subst c; rw [hd] at hu; cases hu
      unfold baseOf at j0 j1
      rw [hB j (by omega) (by omega), if_neg (by unfold baseOf; omega)]
    have IB : MI D Q Lo B F M := I.else okB (fun c c0 c1 => by rw [hB c c0 (by omega), if_neg (by unfold baseOf; omega)]) oth
    have tr : Turn D A B M M := .else fun u d hu => oth u d hu _ (by omega) (by omega)
    have rg : Reg D A B a.slot := fun u h0 h1 hne _ j j0 j1 => by
      unfold baseOf at j0 j1
      rw [hB j (by omega) (by omega), if_neg (by unfold baseOf; omega)]
    have ts : Tsl G B a.slot a.gen := .inr ⟨⟨s0, s1⟩, hg, fun _ => by rw [lst]; unfold baseOf; omega⟩
    have r0 : (descRow a.gen ds).getD 0 0 = stateW a.gen 0 := (descRow_get a.gen ds).1
    have all : ∀ j : Nat, j < k + 1 → B.at (baseOf a.slot + j) = (descRow a.gen ds).getD j 0 := fun j hj => by
      rw [hB _ (by unfold baseOf; omega) (by unfold baseOf; omega)]
      by_cases c : j = k
      · subst c; rw [if_pos rfl]
      · rw [if_neg (by omega)]; exact h2 j (by omega)
    have b0 : B.at (baseOf a.slot) = stateW a.gen 0 := by
      have := all 0 (by omega)
      rw [r0] at this
      simpa using this
    have hfs : F a.t = ⟨a.q, []⟩ := by rw [hF]; unfold At.stk At.frs; rw [hs]
    by_cases c : k + 1 = (descRow a.gen ds).length
    · have hem : ((descRow a.gen ds).drop (k + 1)).isEmpty = true := by rw [List.drop_eq_nil_of_le (by omega)]; rfl
      rw [hem]
      simp only [if_true]
      have dk : DOk B a.slot ⟨a.gen, ds, True⟩ := ⟨l, m, 0, ⟨by decide, by decide⟩, Dsc.of_row fun j j0 j1 => by
        have j1 : j < (descRow a.gen ds).length := j1
        have := all j.toNat (by omega)
        rw [show ((j.toNat : Nat) : Int) = j by omega] at this
        exact this⟩
      have W2 := IB.wrote (t := a.t) (d := ⟨a.gen, ds, True⟩) hd dk b0 ⟨o.t0, o.t1⟩ (by rw [hfs]) hqt hpt
      rw [hfs] at W2
      refine ⟨setD D a.slot (some ⟨a.gen, ds, True⟩), M, rfl, W2, tr, fun u hu => setD_ne hu, fun u d hu => ?_, rfl, rfl, rfl, Int.le_refl _, by simp only; omega, fun _ => ⟨hg, rfl, rfl, ⟨_, setD_at⟩, ?_⟩, (fun h => by simp only at h; rw [ho] at h; cases h), ts, rg⟩
      · by_cases cu : u = a.slot
        · subst cu; rw [setD_at] at hu; cases hu; exact ⟨hg, trivial⟩
        · rw [setD_ne cu] at hu; exact gs u d hu
      · unfold Bot
        rw [if_neg (by simp [Help.new])]
        exact ⟨_, rfl, rfl⟩
    · have hem : ((descRow a.gen ds).drop (k + 1)).isEmpty = false := by
        rw [List.isEmpty_eq_false_iff]
        intro h
        rw [List.drop_eq_nil_iff] at h
        omega
      rw [hem]
      simp only [Bool.false_eq_true, if_false]
      have IF : MI D Q Lo B (setF F a.t ⟨a.q, []⟩) M := by
        have : setF F a.t ⟨a.q, []⟩ = F := by rw [← hfs]; exact setF_self (t := a.t)
        rw [this]; exact IB
      refine ⟨D, M, rfl, IF, tr, fun _ _ => rfl, gs, rfl, rfl, rfl, Int.le_refl _, by simp only; omega, fun _ => ⟨hg, hd, ds, k + 1, m, by show k + 1 < (descRow a.gen ds).length; omega, ?_, all⟩, (fun h => by simp only at h; rw [ho] at h; cases h), ts, rg⟩
      congr 1
      show _ = _
      simp only
      omega
  | hp H =>
    rw [hs] at aw os
    obtain ⟨ht, hqe, ⟨d, hd⟩, hb⟩ := aw
    have hov := os.2 ho
    have hF' : F a.t = ⟨H.q, H.frs⟩ := by rw [hF, hqe]; unfold At.stk At.frs; rw [hs]
    obtain ⟨M', R⟩ := I.helpS (G := G) hqp hL (fun s d h => (gs s d h).1) os.1 hov ht hF' (by omega)
    simp only
    generalize H.step A = p at R
    rw [if_neg (by rw [R.err]; decide)]
    have bt := R.bot _ hb
    refine ⟨D, M', rfl, R.mi, R.turn, fun _ _ => rfl, gs, rfl, rfl, rfl, by rw [← hqe]; exact R.q0, by rw [← hqe]; exact R.q1, fun h => ⟨hg, R.th, rfl, ⟨d, hd⟩, bt⟩, fun h => ?_, R.ts, R.reg _⟩
    have h : p.1.over = true := h
    refine ⟨by unfold At.frs Help.frs; simp only; rw [h]; rfl, ?_⟩
    unfold Bot at bt
    rw [if_pos h] at bt
    obtain ⟨d', b1, b2, b3⟩ := bt
    refine ⟨d', b1, b2, ?_⟩
    simp only
    rw [h, Bool.true_and]; exact b3
end
def Th.frs (x : Th) : List Fr := match x.next, x.att with
  | some .tri, some a => a.frs
  | _, _ => []
def Th.stk (x : Th) : Stk := ⟨x.seq, x.frs⟩
def Th.reg (x : Th) : Prop := x.next = some .fre ∨ x.next = some .tak ∨ x.next = some .tri ∨ x.next = some .ret ∨ x.next = some .lea
def Th.ep (x : Th) : Int := (x.ent.map Ent.e).getD 0
def thr (ths : List Th) (t : Int) : Option Th := if 0 ≤ t then ths[t.toNat]? else none
def FF (ths : List Th) : Int → Stk := fun t => match thr ths t with
  | some x => x.stk
  | none => ⟨0, []⟩
def held (ths : List Th) (s : Int) : Prop := ∃ z ∈ ths, z.slot = s
def qs (ths : List Th) (r : Int → Int) : Qs := ⟨fun s t => 0 ≤ s → ∀ z, thr ths t = some z → z.reg → held ths s ∨ z.ep ≤ r s, fun s t => 0 ≤ s → ∀ z, thr ths t = some z → z.reg → held ths s ∨ z.ep ≤ r s + 1⟩
section
variable {D D' : Int → Option Dw} {Q Q' : Qs} {Lo : Int → Prop} {G G' : Int → Int} {A B : Ar} {F F' : Int → Stk} {M M' : Int → Int} {t s E : Int} {ths : List Th} {x y z : Th} {i : Nat} {r r' : Int → Int}
theorem Th.frs_ne (h : x.next ≠ some .tri) : x.frs = [] := by
  unfold Th.frs
  split
  · rename_i a b; exact absurd a h
  · rfl
theorem Th.frs_tri {a : At} (h : x.next = some .tri) (ha : x.att = some a) : x.frs = a.frs := by
  unfold Th.frs; rw [h, ha]
theorem Th.reg_frs (h : x.frs ≠ []) : x.reg := by
  by_cases c : x.next = some .tri
  · exact .inr (.inr (.inl c))
  · exact absurd (Th.frs_ne c) h
theorem thr_nat : thr ths (i : Int) = ths[i]? := by unfold thr; rw [if_pos (by omega)]; rfl
theorem thr_some (h : thr ths t = some z) : 0 ≤ t ∧ ths[t.toNat]? = some z ∧ z ∈ ths := by
  unfold thr at h
  split at h
  · rename_i c; exact ⟨c, h, List.mem_of_getElem? h⟩
  · cases h
theorem thr_set (hx : ths[i]? = some x) : thr (ths.set i y) t = if t = (i : Int) then some y else thr ths t := by
  have hi := (List.getElem?_eq_some_iff.1 hx).1
  by_cases c : t = (i : Int)
  · subst c
    rw [if_pos rfl, thr_nat, List.getElem?_set_self hi]
  · rw [if_neg c]
    unfold thr
    split
    · rw [List.getElem?_set_ne (by omega)]
    · rfl
theorem FF_set (hx : ths[i]? = some x) : FF (ths.set i y) = setF (FF ths) i y.stk := by
  funext t
  unfold FF setF
  rw [thr_set hx]
  by_cases c : t = (i : Int)
  · rw [if_pos c, if_pos c]
  · rw [if_neg c, if_neg c]
theorem FF_at (hx : ths[i]? = some x) : FF ths i = x.stk := by unfold FF; rw [thr_nat, hx]
theorem FF_fs (h : (FF ths t).fs ≠ []) : ∃ z, thr ths t = some z ∧ z.frs ≠ [] := by
  unfold FF at h
  cases e : thr ths t with
  | none => rw [e] at h; exact absurd rfl h
  | some z => rw [e] at h; exact ⟨z, rfl, h⟩
theorem QP.of (he : ∀ z ∈ ths, z.reg → z.ep ≤ E ∧ E ≤ z.ep + 1) (h0 : ∀ s d, D s = some d → 0 ≤ s) : QP D (qs ths r) (FF ths) := by
  intro s d t t' hd hr hq hf s0 z hz hg
  obtain ⟨z', hz', hf'⟩ := FF_fs hf
  have g' := Th.reg_frs hf'
  have a := he z (thr_some hz).2.2 hg
  have b := he z' (thr_some hz').2.2 g'
  rcases hq s0 z' hz' g' with h | h
  · exact .inl h
  · exact .inr (by omega)
theorem qs_open (h : held ths s) (u : Int) : (qs ths r).qt s u ∧ (qs ths r).pt s u := ⟨fun _ _ _ _ => .inl h, fun _ _ _ _ => .inl h⟩
theorem MI.qset (I : MI D (qs ths r) Lo A F M) (hx : ths[i]? = some x) (hf : (F i).fs ≠ [] → y.reg → x.reg ∧ y.ep = x.ep)
    (hk : ∀ s z, 0 ≤ s → z ∈ ths → z.reg → (held ths s → held (ths.set i y) s ∨ z.ep ≤ r' s) ∧ (∀ k : Int, 0 ≤ k → z.ep ≤ r s + k → held (ths.set i y) s ∨ z.ep ≤ r' s + k))
    (hop : ∀ s d, D s = some d → d.rq → Opn A s d → held (ths.set i y) s) : MI D (qs (ths.set i y) r') Lo A F M := by
  have hxm := List.mem_of_getElem? hx
  refine I.requal (fun s t hfs hq s0 z hz hg => ?_) (fun s t hfs hq s0 z hz hg => ?_) (fun s d hd hr ho t => (qs_open (hop s d hd hr ho) t).1)
  · rw [thr_set hx] at hz
    split at hz
    · rename_i c
      cases hz
      subst c
      obtain ⟨g, e⟩ := hf hfs hg
      have k := hk s x s0 hxm g
      rw [e]
      rcases hq s0 x (by rw [thr_nat]; exact hx) g with h | h
      · exact k.1 h
      · have := k.2 0 (by decide) (by omega); simpa using this
    · have k := hk s z s0 (thr_some hz).2.2 hg
      rcases hq s0 z hz hg with h | h
      · exact k.1 h
      · have := k.2 0 (by decide) (by omega); simpa using this
  · rw [thr_set hx] at hz
    split at hz
    · rename_i c
      cases hz
      subst c
      obtain ⟨g, e⟩ := hf hfs hg
      have k := hk s x s0 hxm g
      rw [e]
      rcases hq s0 x (by rw [thr_nat]; exact hx) g with h | h
      · exact (k.1 h).imp_right fun h => by omega
      · exact k.2 1 (by decide) h
    · have k := hk s z s0 (thr_some hz).2.2 hg
      rcases hq s0 z hz hg with h | h
      · exact (k.1 h).imp_right fun h => by omega
      · exact k.2 1 (by decide) h
theorem held_set (hx : ths[i]? = some x) (h : y.slot = x.slot ∨ x.slot = -1) {s : Int} (s0 : 0 ≤ s) : held ths s → held (ths.set i y) s := by
  rintro ⟨z, hz, hs⟩
  obtain ⟨j, hj⟩ := List.mem_iff_getElem?.1 hz
  have hi := (List.getElem?_eq_some_iff.1 hx).1
  by_cases c : j = i
  · subst c
    rw [hx] at hj; cases hj
    rcases h with h | h
    · exact ⟨y, List.mem_set hi _, by rw [h]; exact hs⟩
    · omega
  · exact ⟨z, List.mem_of_getElem? (by rw [List.getElem?_set_ne (Ne.symm c)]; exact hj), hs⟩
end
def ThS (D : Int → Option Dw) (G : Int → Int) (A : Ar) (x : Th) : Prop := x.next = some .tri → ∃ a, x.att = some a ∧ a.slot = x.slot ∧ 1 ≤ a.gen ∧ a.t = x.id ∧ a.q = x.seq ∧ AtS D G A a
structure Eb (E : Int) (r : Int → Int) (A : Ar) (ths : List Th) (x : Th) : Prop where
  nt : ∀ n, x.ent = some n → n.t = x.id
  reg : x.reg → A.at (30 + x.id) = (x.ep + 1) * 4 ∧ x.ep ≤ E ∧ E ≤ x.ep + 1 ∧ 0 ≤ x.ep
  out : x.next = none ∨ x.next = some .adv → A.at (30 + x.id) = 0
  ent : x.next = some .ent → ∀ n, x.ent = some n → (n.known = true → n.e ≤ E) ∧ (n.said = true → A.at (30 + x.id) = (n.e + 1) * 4)
  adv : x.next = some .adv → ∀ d, x.adv = some d → d.n = x.n ∧ (0 ≤ d.asked → d.e ≤ E ∧ (d.e = E → ∀ z ∈ ths, z.id < d.asked → z.reg → z.ep = E))
  lim : ∀ q ∈ x.limbo, r q.slot = q.epoch
structure Sg (D : Int → Option Dw) (Lo : Int → Prop) (Mem : Int → Int) (E : Int) (r : Int → Int) (A : Ar) (L : List Int) (ths : List Th) : Prop where
  mi : MI D (qs ths r) Lo A (FF ths) Mem
  gs : ∀ s d, D s = some d → d.g = lf L s ∧ d.rq
  th : ∀ x ∈ ths, ThS D (lf L) A x
  e0 : A.at 29 = E * 4 ∧ 0 ≤ E
  eb : ∀ x ∈ ths, Eb E r A ths x
  id : ∀ (i : Nat) x, ths[i]? = some x → x.id = i ∧ x.n = ths.length
  op : ∀ s d, D s = some d → Opn A s d → ∃ x ∈ ths, x.slot = s ∧ x.next = some .tri
  ag : ∀ s, 0 ≤ s → s < 12 → (∀ x ∈ ths, x.slot ≠ s ∧ ∀ q ∈ x.limbo, q.slot ≠ s) → r s + 3 ≤ E
section
variable {D D' : Int → Option Dw} {Q Q' : Qs} {Lo : Int → Prop} {A B : Ar} {L L' : List Int} {M M' : Int → Int} {t s E E' own : Int} {ths : List Th} {x y z : Th} {i : Nat} {r r' : Int → Int}
theorem Sg.qp (S : Sg D Lo M E r A L ths) : QP D (qs ths r) (FF ths) := QP.of (fun z hz g => ⟨((S.eb z hz).reg g).2.1, ((S.eb z hz).reg g).2.2.1⟩) fun s d h => (S.mi.ds s d h).1.s0
theorem mem_set {α : Type} {xs : List α} {a b : α} (h : b ∈ xs.set i a) (hx : i < xs.length) : b = a ∨ ∃ j, j ≠ i ∧ xs[j]? = some b := mem_set_idx h hx
theorem Sg.turn (S : Sg D Lo M E r A L ths) (n4 : ths.length ≤ 4) (hx : ths[i]? = some x)
    (mi : MI D' (qs (ths.set i y) r') Lo B (setF (FF ths) i y.stk) M') (tn : Turn D A B M M') (rg : Reg D A B own)
    (ne : ∀ u, 0 ≤ u → u < 12 → u ≠ own → D' u = D u ∧ lf L' u = lf L u)
    (hown : ∀ j z, j ≠ i → ths[j]? = some z → 0 ≤ z.slot → z.slot < 12 ∧ z.slot ≠ own) (hatt : ∀ j z a, j ≠ i → ths[j]? = some z → z.att = some a → 0 ≤ a.slot)
    (gs : ∀ s d, D' s = some d → d.g = lf L' s ∧ d.rq) (thy : ThS D' (lf L') B y) (idy : y.id = x.id ∧ y.n = x.n)
    (w29 : B.at 29 = E' * 4) (wo : ∀ t, 0 ≤ t → t < 4 → t ≠ x.id → B.at (30 + t) = A.at (30 + t))
    (EE : E' = E ∨ (E' = E + 1 ∧ ∀ z ∈ ths, z.reg → z.ep = E)) (eby : Eb E' r' B ths y)
    (rgy : y.reg → (x.reg ∧ y.ep = x.ep) ∨ y.ep = E')
    (hr : ∀ j z q, j ≠ i → ths[j]? = some z → q ∈ z.limbo → r' q.slot = r q.slot)
    (op : ∀ s d, D' s = some d → Opn B s d → (y.slot = s ∧ y.next = some .tri) ∨ ∃ j z, j ≠ i ∧ ths[j]? = some z ∧ z.slot = s ∧ z.next = some .tri)
    (rm : ∀ s, 0 ≤ s → s < 12 → x.slot ≠ s → r' s = r s)
    (ag : ∀ s, 0 ≤ s → s < 12 → (x.slot = s ∨ ∃ q ∈ x.limbo, q.slot = s) → (y.slot = s ∨ ∃ q ∈ y.limbo, q.slot = s) ∨ r' s + 3 ≤ E') :
    Sg D' Lo M' E' r' B L' (ths.set i y) := by
  have hi := (List.getElem?_eq_some_iff.1 hx).1
  have hxm := List.mem_of_getElem? hx
  have E0 : E ≤ E' ∧ 0 ≤ E' := by have := S.e0.2; rcases EE with h | ⟨h, _⟩ <;> omega
  have mem : ∀ {j z}, j ≠ i → ths[j]? = some z → z ∈ ths.set i y := fun hj h => List.mem_of_getElem? (by rw [List.getElem?_set_ne (Ne.symm hj)]; exact h)
  refine ⟨by rw [FF_set hx]; exact mi, gs, fun z hz => ?_, ⟨w29, E0.2⟩, fun z hz => ?_, fun j z hz => ?_, fun s d hd ho => ?_, fun s s0 s1 h => ?_⟩
  · rcases mem_set hz hi with rfl | ⟨j, hj, hz⟩
    · exact thy
    · intro hn
      obtain ⟨a, h1, h2, h3, h4, h5, h6⟩ := S.th z (List.mem_of_getElem? hz) hn
      have a0 := hatt j z a hj hz h1
      have o := hown j z hj hz (by omega)
      have n := ne z.slot (by omega) o.1 o.2
      exact ⟨a, h1, h2, h3, h4, h5, h6.other tn rg (by omega) (by omega) (by omega) (by rw [h2]; exact n.1) (by rw [h2]; exact n.2)⟩
  · rcases mem_set hz hi with rfl | ⟨j, hj, hz⟩
    · refine ⟨eby.nt, eby.reg, eby.out, eby.ent, fun h d hd => ⟨(eby.adv h d hd).1, fun h0 => ⟨((eby.adv h d hd).2 h0).1, fun he u hu hlt hg => ?_⟩⟩, eby.lim⟩
      rcases mem_set hu hi with rfl | ⟨j, hj, hu⟩
      · rcases hg with g | g | g | g | g <;> (rw [h] at g; cases g)
      · exact ((eby.adv h d hd).2 h0).2 he u (List.mem_of_getElem? hu) hlt hg
    · have hzm := List.mem_of_getElem? hz
      have b := S.eb z hzm
      obtain ⟨id1, _⟩ := S.id j z hz
      obtain ⟨id2, _⟩ := S.id i x hx
      have hj4 := (List.getElem?_eq_some_iff.1 hz).1
      have w := wo z.id (by omega) (by omega) (by omega)
      refine ⟨b.nt, fun g => ?_, fun h => by rw [w]; exact b.out h, fun h n hn => ⟨fun k => by have := (b.ent h n hn).1 k; omega, fun k => by rw [w]; exact (b.ent h n hn).2 k⟩, fun h d hd => ⟨(b.adv h d hd).1, fun h0 => ?_⟩, fun q hq => by rw [hr j z q hj hz hq]; exact b.lim q hq⟩
      · have := b.reg g
        refine ⟨by rw [w]; exact this.1, by omega, ?_, this.2.2.2⟩
        rcases EE with h | ⟨h, k⟩
        · omega
        · have := k z hzm g; omega
      · have := (b.adv h d hd).2 h0
        refine ⟨by omega, fun he u hu hlt hg => ?_⟩
        have ee : E' = E := by rcases EE with h | ⟨h, _⟩ <;> omega
        rcases mem_set hu hi with rfl | ⟨j', hj', hu⟩
        · rcases rgy hg with ⟨g, e⟩ | e
          · rw [e, ee]; exact this.2 (by omega) x hxm (by rw [← idy.1]; exact hlt) g
          · exact e
        · rw [ee]; exact this.2 (by omega) u (List.mem_of_getElem? hu) hlt hg
  · rw [List.length_set]
    rw [List.getElem?_set] at hz
    split at hz
    · rename_i c
      cases hz
      subst c
      have := S.id i x hx
      exact ⟨by rw [idy.1]; exact this.1, by rw [idy.2]; exact this.2⟩
    · exact S.id j z hz
  · rcases op s d hd ho with ⟨a, b⟩ | ⟨j, z, hj, hz, a, b⟩
    · exact ⟨y, List.mem_set hi _, a, b⟩
    · exact ⟨z, mem hj hz, a, b⟩
  · by_cases c : x.slot = s ∨ ∃ q ∈ x.limbo, q.slot = s
    · rcases ag s s0 s1 c with k | k
      · have := h y (List.mem_set hi _)
        rcases k with k | ⟨q, hq, hs⟩
        · exact absurd k this.1
        · exact absurd hs (this.2 q hq)
      · exact k
    · have c1 : x.slot ≠ s := fun e => c (.inl e)
      have := S.ag s s0 s1 fun z hz => by
        obtain ⟨j, hj⟩ := List.mem_iff_getElem?.1 hz
        by_cases cj : j = i
        · subst cj
          rw [hx] at hj; cases hj
          exact ⟨c1, fun q hq e => c (.inr ⟨q, hq, e⟩)⟩
        · exact h z (mem cj hj)
      rw [rm s s0 s1 c1]; omega
theorem Sg.mid (S : Sg D Lo M E r A L ths) (n4 : ths.length ≤ 4) (hx : ths[i]? = some x) (okB : B.ok) (h : ∀ j, 0 ≤ j → j < 634 → j < 16 ∨ 34 ≤ j → B.at j = A.at j)
    (hxn : x.next ≠ some .tri) (hyn : y.next ≠ some .tri) (sq : y.seq = x.seq) (hsl : ∀ j z, j ≠ i → ths[j]? = some z → 0 ≤ z.slot → z.slot < 12) (hatt : ∀ j z a, j ≠ i → ths[j]? = some z → z.att = some a → 0 ≤ a.slot)
    (idy : y.id = x.id ∧ y.n = x.n)
    (w29 : B.at 29 = E' * 4) (wo : ∀ t, 0 ≤ t → t < 4 → t ≠ x.id → B.at (30 + t) = A.at (30 + t))
    (EE : E' = E ∨ (E' = E + 1 ∧ ∀ z ∈ ths, z.reg → z.ep = E)) (eby : Eb E' r' B ths y)
    (rgy : y.reg → (x.reg ∧ y.ep = x.ep) ∨ y.ep = E')
    (hr : ∀ j z q, j ≠ i → ths[j]? = some z → q ∈ z.limbo → r' q.slot = r q.slot)
    (rm : ∀ s, 0 ≤ s → s < 12 → x.slot ≠ s → r' s = r s)
    (hk : ∀ s z, 0 ≤ s → z ∈ ths → z.reg → (held ths s → held (ths.set i y) s ∨ z.ep ≤ r' s) ∧ (∀ k : Int, 0 ≤ k → z.ep ≤ r s + k → held (ths.set i y) s ∨ z.ep ≤ r' s + k))
    (ag : ∀ s, 0 ≤ s → s < 12 → (x.slot = s ∨ ∃ q ∈ x.limbo, q.slot = s) → (y.slot = s ∨ ∃ q ∈ y.limbo, q.slot = s) ∨ r' s + 3 ≤ E') :
    Sg D Lo M E' r' B L (ths.set i y) := by
  have hi := (List.getElem?_eq_some_iff.1 hx).1
  have hb : ∀ s d, D s = some d → B.at (baseOf s) = A.at (baseOf s) := fun s d hd => by
    have l := (S.mi.ds s d hd).1
    have := l.s0; have := l.s1
    exact h _ (by unfold baseOf; omega) (by unfold baseOf; omega) (by unfold baseOf; omega)
  have hold : ∀ s d, D s = some d → Opn A s d → ∃ j z, j ≠ i ∧ ths[j]? = some z ∧ z.slot = s ∧ z.next = some .tri := fun s d hd ho => by
    obtain ⟨z, hz, a, b⟩ := S.op s d hd ho
    obtain ⟨j, hj⟩ := List.mem_iff_getElem?.1 hz
    refine ⟨j, z, fun c => ?_, hj, a, b⟩
    subst c; rw [hx] at hj; cases hj; exact hxn b
  have fx : (FF ths i).fs = [] := by rw [FF_at hx]; exact Th.frs_ne hxn
  have I1 := S.mi.qset (y := y) (r' := r') hx (fun hf => absurd fx hf) hk (fun s d hd _ ho => by
    obtain ⟨j, z, hj, hz, a, _⟩ := hold s d hd ho
    exact ⟨z, List.mem_of_getElem? (by rw [List.getElem?_set_ne (Ne.symm hj)]; exact hz), a⟩)
  have I2 := I1.else okB (fun c c0 c1 => h c c0 (by omega) (by omega)) (fun s d hd j j0 j1 => by
    have l := (S.mi.ds s d hd).1
    have := l.s0; have := l.s1
    unfold baseOf at j0 j1
    exact h j (by omega) (by omega) (by omega))
  have st : y.stk = FF ths i := by rw [FF_at hx]; unfold Th.stk; rw [sq, Th.frs_ne hxn, Th.frs_ne hyn]
  have sf : setF (FF ths) i y.stk = FF ths := by rw [st]; exact setF_self (t := (i : Int))
  refine S.turn n4 hx (own := -1) (by rw [sf]; exact I2) (.else hb) (.same fun j j0 j1 => h j (by omega) j1 (by omega)) (fun _ _ _ _ => ⟨rfl, rfl⟩) (fun j z hj hz s0 => ⟨hsl j z hj hz s0, by omega⟩) hatt S.gs (fun h => absurd h hyn) idy w29 wo EE eby rgy hr (fun s d hd ho => .inr (hold s d hd ?_)) rm ag
  unfold Opn at ho ⊢; rw [← hb s d hd]; exact ho
end
structure Nb (ths : List Th) : Prop where
  n4 : ths.length ≤ 4
  sl : ∀ z ∈ ths, z.slot < 12
  at_ : ∀ z ∈ ths, ∀ a, z.att = some a → 0 ≤ a.slot
section
variable {D D' : Int → Option Dw} {Q Q' : Qs} {Lo : Int → Prop} {A B : Ar} {L L' : List Int} {M M' : Int → Int} {t s E E' own k pick c : Int} {ths : List Th} {x y z : Th} {i : Nat} {r r' : Int → Int} {fr : List Int}
theorem hk_same (hx : ths[i]? = some x) (h : y.slot = x.slot ∨ x.slot = -1) : ∀ s z, 0 ≤ s → z ∈ ths → z.reg → (held ths s → held (ths.set i y) s ∨ z.ep ≤ r s) ∧ (∀ k : Int, 0 ≤ k → z.ep ≤ r s + k → held (ths.set i y) s ∨ z.ep ≤ r s + k) :=
  fun s z s0 _ _ => ⟨fun q => .inl (held_set hx h s0 q), fun k _ q => .inr q⟩
theorem not_reg (h : x.next = none ∨ x.next = some .ent ∨ x.next = some .adv) : ¬ x.reg := by
  rintro (g | g | g | g | g) <;> rcases h with h | h | h <;> (rw [h] at g; cases g)
theorem Sg.here (S : Sg D Lo M E r A L ths) (hx : ths[i]? = some x) : x ∈ ths ∧ x.id = i ∧ x.n = ths.length ∧ Eb E r A ths x := by
  have := List.mem_of_getElem? hx
  exact ⟨this, (S.id i x hx).1, (S.id i x hx).2, S.eb x this⟩
theorem Sg.calm (S : Sg D Lo M E r A L ths) (N : Nb ths) (hx : ths[i]? = some x) (okB : B.ok) (h : ∀ j, 0 ≤ j → j < 634 → j < 16 ∨ 29 ≤ j → B.at j = A.at j)
    (hxn : x.reg ∧ x.next ≠ some .tri) (hyn : y.reg ∧ y.next ≠ some .tri) (sq : y.seq = x.seq) (idy : y.id = x.id ∧ y.n = x.n) (he : y.ent = x.ent) (hl : y.limbo = x.limbo) (hs : y.slot = x.slot) : Sg D Lo M E r B L (ths.set i y) := by
  obtain ⟨hm, i1, i2, eb⟩ := S.here hx
  have hi := (List.getElem?_eq_some_iff.1 hx).1
  have n4 := N.n4
  have ep : y.ep = x.ep := by unfold Th.ep; rw [he]
  have nr : ∀ {p : Option Act}, y.next = p → (p = none ∨ p = some .ent ∨ p = some .adv) → False := fun {p} e q => not_reg (x := y) (by rw [e]; exact q) hyn.1
  refine S.mid n4 hx okB (fun j j0 j1 q => h j j0 j1 (by omega)) hxn.2 hyn.2 sq (fun j z _ hz _ => N.sl z (List.mem_of_getElem? hz)) (fun j z a _ hz ha => N.at_ z (List.mem_of_getElem? hz) a ha) idy (by rw [h 29 (by decide) (by decide) (by decide)]; exact S.e0.1) (fun t t0 t1 _ => h _ (by omega) (by omega) (by omega)) (.inl rfl) ?_ (fun _ => .inl ⟨hxn.1, ep⟩) (fun _ _ _ _ _ _ => rfl) (fun _ _ _ _ => rfl) (hk_same hx (.inl hs)) (fun s _ _ q => .inl (by rw [hs, hl]; exact q))
  exact ⟨by rw [he, idy.1]; exact eb.nt, fun _ => by rw [idy.1, ep, h _ (by omega) (by omega) (by omega)]; exact eb.reg hxn.1, fun q => by rcases q with q | q <;> exact (nr q (by simp)).elim, fun q => (nr q (by simp)).elim, fun q => (nr q (by simp)).elim, by rw [hl]; exact eb.lim⟩
theorem Sg.still (S : Sg D Lo M E r A L ths) (N : Nb ths) (hx : ths[i]? = some x) (hn : y.next = x.next) (ha : y.att = x.att) (sq : y.seq = x.seq) (idy : y.id = x.id ∧ y.n = x.n) (he : y.ent = x.ent) (hl : y.limbo = x.limbo) (hs : y.slot = x.slot) (hv : y.adv = x.adv) : Sg D Lo M E r A L (ths.set i y) := by
  obtain ⟨hm, i1, i2, eb⟩ := S.here hx
  have ep : y.ep = x.ep := by unfold Th.ep; rw [he]
  have rg : y.reg ↔ x.reg := by unfold Th.reg; rw [hn]
  have st : y.stk = FF ths i := by rw [FF_at hx]; unfold Th.stk Th.frs; rw [sq, hn, ha]
  have sf : setF (FF ths) i y.stk = FF ths := by rw [st]; exact setF_self (t := (i : Int))
  refine S.turn N.n4 hx (own := -1) (y := y) (r' := r) (E' := E) ?_ (.else fun _ _ _ => rfl) (.same fun _ _ _ => rfl) (fun _ _ _ _ => ⟨rfl, rfl⟩) (fun j z _ hz s0 => ⟨N.sl z (List.mem_of_getElem? hz), by omega⟩) (fun j z a _ hz ha => N.at_ z (List.mem_of_getElem? hz) a ha) S.gs ?_ idy S.e0.1 (fun _ _ _ _ => rfl) (.inl rfl) ?_ (fun g => .inl ⟨rg.1 g, ep⟩) (fun _ _ _ _ _ _ => rfl) (fun s d hd ho => ?_) (fun _ _ _ _ => rfl) (fun s _ _ q => .inl (by rw [hs, hl]; exact q))
  · rw [sf]
    exact S.mi.qset (y := y) (r' := r) hx (fun _ g => ⟨rg.1 g, ep⟩) (hk_same hx (.inl hs)) (fun s d hd _ ho => by
      obtain ⟨z, hz, a, _⟩ := S.op s d hd ho
      exact held_set hx (.inl hs) (S.mi.ds s d hd).1.s0 ⟨z, hz, a⟩)
  · intro h
    rw [hn] at h
    obtain ⟨a, h1, h2⟩ := S.th x hm h
    exact ⟨a, by rw [ha]; exact h1, by rw [hs, idy.1, sq]; exact h2⟩
  · exact ⟨by rw [he, idy.1]; exact eb.nt, by rw [rg, idy.1, ep]; exact eb.reg, by rw [hn, idy.1]; exact eb.out, by rw [hn, he, idy.1]; exact eb.ent, by rw [hn, hv, idy.2]; exact eb.adv, by rw [hl]; exact eb.lim⟩
  · obtain ⟨z, hz, a, b⟩ := S.op s d hd ho
    obtain ⟨j, hj⟩ := List.mem_iff_getElem?.1 hz
    by_cases c : j = i
    · subst c
      rw [hx] at hj; cases hj
      exact .inl ⟨by rw [hs]; exact a, by rw [hn]; exact b⟩
    · exact .inr ⟨j, z, c, hj, a, b⟩
theorem Sg.ents (S : Sg D Lo M E r A L ths) (N : Nb ths) (hx : ths[i]? = some x) (ox : x.ok) (on : x.on) (hn : x.next = some .ent) (hE : E < 1000000) (hs : x.slot = -1) : Sg D Lo M E r (x.ents A).2.2 L (ths.set i (x.ents A).1) := by
  obtain ⟨hm, i1, i2, eb⟩ := S.here hx
  obtain ⟨n, e, ho⟩ := on.ent hn
  have on_ := ox.ent n e
  have nt := eb.nt n e
  have n4 := N.n4
  have hi := (List.getElem?_eq_some_iff.1 hx).1
  obtain ⟨e29, E0⟩ := S.e0
  have en := eb.ent hn n e
  have v29 : valOf (A.at 29) = E := by rw [e29]; exact valOf_val E0 (by omega)
  have is29 : epIs (A.at 29) = true := by unfold epIs; rw [v29, e29, plainOf_val E0 (by omega), decide_eq_true (by omega)]; rfl
  have sk := (Ent.step_ok on_ S.mi.ok).2
  have hA := S.mi.ok
  have hsl : ∀ j z, j ≠ i → ths[j]? = some z → 0 ≤ z.slot → z.slot < 12 := fun j z _ hz _ => N.sl z (List.mem_of_getElem? hz)
  have hatt : ∀ j z a, j ≠ i → ths[j]? = some z → z.att = some a → 0 ≤ a.slot := fun j z a _ hz ha => N.at_ z (List.mem_of_getElem? hz) a ha
  unfold Th.ents
  rw [e]
  simp only
  by_cases c : (n.known && !n.said) = true
  · have hstep : n.step A = ({ n with said := true }, 0, A.put (30 + n.t) ((n.e + 1) * 4)) := by unfold Ent.step; rw [if_neg (by rw [ho]; decide), if_pos c]
    rw [hstep] at sk ⊢
    rw [if_neg (by simp only; rw [ho]; simp)]
    simp only [Bool.and_eq_true, Bool.not_eq_true'] at c
    have at_ : ∀ j, 0 ≤ j → j < 634 → (A.put (30 + n.t) ((n.e + 1) * 4)).at j = if 30 + n.t = j then (n.e + 1) * 4 else A.at j := fun j j0 j1 => at_put hA (by omega) (by omega) j0 j1
    refine S.mid n4 hx sk (fun j j0 j1 q => by rw [at_ j j0 j1, if_neg (by omega)]) (by rw [hn]; simp) (by simp only; rw [hn]; simp) rfl hsl hatt ⟨rfl, rfl⟩ (by simp only; rw [at_ 29 (by decide) (by decide), if_neg (by omega)]; exact e29) (fun t t0 t1 tn => by rw [at_ _ (by omega) (by omega), if_neg (by omega)]) (.inl rfl) ⟨fun m hm => by cases hm; exact nt, fun g => absurd g (not_reg (by simp only; rw [hn]; simp)), (fun h => by simp only at h; rw [hn] at h; rcases h with h | h <;> cases h), fun _ m hm => by cases hm; exact ⟨fun _ => en.1 c.1, fun _ => by simp only; rw [at_ _ (by omega) (by omega), if_pos (by omega)]⟩, (fun h => by simp only at h; rw [hn] at h; cases h), eb.lim⟩ (fun g => absurd g (not_reg (by simp only; rw [hn]; simp))) (fun _ _ _ _ _ _ => rfl) (fun _ _ _ _ => rfl) (hk_same hx (.inl rfl)) (fun s _ _ q => .inl q)
  · have hstep : n.step A = ({ n with over := n.said && decide (E = n.e), e := E, known := true, said := false }, 0, A.ld 29) := by unfold Ent.step; rw [if_neg (by rw [ho]; decide), if_neg c, if_pos is29, v29]
    rw [hstep] at sk ⊢
    simp only at sk ⊢
    have same : ∀ j, 0 ≤ j → j < 634 → (A.ld 29).at j = A.at j := fun j j0 j1 => at_ld hA (by decide) (by decide) j0 j1
    by_cases cs : (n.said && decide (E = n.e)) = true
    · rw [if_pos ⟨cs, trivial⟩]
      simp only [Bool.and_eq_true, decide_eq_true_eq] at cs
      refine S.mid n4 hx sk (fun j j0 j1 _ => same j j0 j1) (by rw [hn]; simp) (by simp) rfl hsl hatt ⟨rfl, rfl⟩ (by simp only; rw [same 29 (by decide) (by decide)]; exact e29) (fun t t0 t1 _ => same _ (by omega) (by omega)) (.inl rfl) ⟨fun m hm => by cases hm; exact nt, fun g => ?_, (fun h => by rcases h with h | h <;> cases h), (fun h => by cases h), (fun h => by cases h), fun q hq => eb.lim q (List.mem_filter.1 hq).1⟩ (fun g => .inr rfl) (fun _ _ _ _ _ _ => rfl) (fun _ _ _ _ => rfl) (hk_same hx (.inl rfl)) (fun s s0 _ q => ?_)
      · show (A.ld 29).at (30 + x.id) = (E + 1) * 4 ∧ E ≤ E ∧ E ≤ E + 1 ∧ 0 ≤ E
        rw [same _ (by omega) (by omega), en.2 cs.1, cs.2]
        exact ⟨rfl, Int.le_refl _, by omega, by have := cs.2; omega⟩
      · rcases q with q | ⟨q, hq, hqs⟩
        · omega
        · by_cases cr : isRipe E q = true
          · right
            unfold isRipe at cr
            simp only [decide_eq_true_eq] at cr
            have := eb.lim q hq
            rw [hqs] at this
            omega
          · exact .inl (.inr ⟨q, List.mem_filter.2 ⟨hq, by simpa using cr⟩, hqs⟩)
    · rw [if_neg (by rintro ⟨h, _⟩; exact cs h)]
      refine S.mid n4 hx sk (fun j j0 j1 _ => same j j0 j1) (by rw [hn]; simp) (by simp only; rw [hn]; simp) rfl hsl hatt ⟨rfl, rfl⟩ (by simp only; rw [same 29 (by decide) (by decide)]; exact e29) (fun t t0 t1 _ => same _ (by omega) (by omega)) (.inl rfl) ⟨fun m hm => by cases hm; exact nt, fun g => absurd g (not_reg (by simp only; rw [hn]; simp)), (fun h => by simp only at h; rw [hn] at h; rcases h with h | h <;> cases h), fun _ m hm => by cases hm; exact ⟨fun _ => Int.le_refl _, (fun h => by cases h)⟩, (fun h => by simp only at h; rw [hn] at h; cases h), eb.lim⟩ (fun g => absurd g (not_reg (by simp only; rw [hn]; simp))) (fun _ _ _ _ _ _ => rfl) (fun _ _ _ _ => rfl) (hk_same hx (.inl rfl)) (fun s _ _ q => .inl q)
theorem Sg.leas (S : Sg D Lo M E r A L ths) (N : Nb ths) (hx : ths[i]? = some x) (ox : x.ok) (hn : x.next = some .lea) : Sg D Lo M E r (x.leas A).2.2 L (ths.set i (x.leas A).1) := by
  obtain ⟨hm, i1, i2, eb⟩ := S.here hx
  have n4 := N.n4
  have hi := (List.getElem?_eq_some_iff.1 hx).1
  have hA := S.mi.ok
  have hsl : ∀ j z, j ≠ i → ths[j]? = some z → 0 ≤ z.slot → z.slot < 12 := fun j z _ hz _ => N.sl z (List.mem_of_getElem? hz)
  have hatt : ∀ j z a, j ≠ i → ths[j]? = some z → z.att = some a → 0 ≤ a.slot := fun j z a _ hz ha => N.at_ z (List.mem_of_getElem? hz) a ha
  have at_ : ∀ j, 0 ≤ j → j < 634 → (A.put (30 + x.id) 0).at j = if 30 + x.id = j then 0 else A.at j := fun j j0 j1 => at_put hA (by omega) (by omega) j0 j1
  unfold Th.leas
  refine S.mid n4 hx (hA.put _ zero64) (fun j j0 j1 q => by rw [at_ j j0 j1, if_neg (by omega)]) (by rw [hn]; simp) (by simp) rfl hsl hatt ⟨rfl, rfl⟩ (by rw [at_ 29 (by decide) (by decide), if_neg (by omega)]; exact S.e0.1) (fun t t0 t1 tn => by rw [at_ _ (by omega) (by omega), if_neg (by omega)]) (.inl rfl) ⟨eb.nt, fun g => absurd g (not_reg (by simp)), fun _ => by simp only; rw [at_ _ (by omega) (by omega), if_pos rfl], (fun h => by cases h), fun _ d hd => by cases hd; exact ⟨rfl, fun h => absurd h (by show ¬ (0 : Int) ≤ -1; decide)⟩, eb.lim⟩ (fun g => absurd g (not_reg (by simp))) (fun _ _ _ _ _ _ => rfl) (fun _ _ _ _ => rfl) (hk_same hx (.inl rfl)) (fun s _ _ q => .inl q)
def upd1 (r : Int → Int) (s E : Int) : Int → Int := fun u => if u = s then E else r u
theorem Sg.rets (S : Sg D Lo M E r A L ths) (N : Nb ths) (hx : ths[i]? = some x) (ox : x.ok) (hn : x.next = some .ret) (hE : E < 1000000) (hsep : ∀ z ∈ ths, ∀ q ∈ z.limbo, q.slot ≠ x.slot) : ∃ r', Sg D Lo M E r' (x.rets A).2.2 L (ths.set i (x.rets A).1) := by
  obtain ⟨hm, i1, i2, eb⟩ := S.here hx
  have n4 := N.n4
  have hi := (List.getElem?_eq_some_iff.1 hx).1
  have hA := S.mi.ok
  obtain ⟨e29, E0⟩ := S.e0
  have v29 : valOf (A.at 29) = E := by rw [e29]; exact valOf_val E0 (by omega)
  have is29 : epIs (A.at 29) = true := by unfold epIs; rw [v29, e29, plainOf_val E0 (by omega), decide_eq_true (by omega)]; rfl
  have hsl : ∀ j z, j ≠ i → ths[j]? = some z → 0 ≤ z.slot → z.slot < 12 := fun j z _ hz _ => N.sl z (List.mem_of_getElem? hz)
  have hatt : ∀ j z a, j ≠ i → ths[j]? = some z → z.att = some a → 0 ≤ a.slot := fun j z a _ hz ha => N.at_ z (List.mem_of_getElem? hz) a ha
  have same : ∀ j, 0 ≤ j → j < 634 → (A.ld 29).at j = A.at j := fun j j0 j1 => at_ld hA (by decide) (by decide) j0 j1
  have s2 := ox.s2 (.inr hn)
  have rg : x.reg := .inr (.inr (.inr (.inl hn)))
  have re : ∀ u, u ≠ x.slot → upd1 r x.slot E u = r u := fun u h => if_neg h
  have rs : upd1 r x.slot E x.slot = E := if_pos rfl
  unfold Th.rets
  rw [if_pos is29, v29]
  refine ⟨upd1 r x.slot E, S.mid n4 hx (hA.ld _) (fun j j0 j1 _ => same j j0 j1) (by rw [hn]; simp) (by simp) rfl hsl hatt ⟨rfl, rfl⟩ (by rw [same 29 (by decide) (by decide)]; exact e29) (fun t t0 t1 _ => same _ (by omega) (by omega)) (.inl rfl) ⟨eb.nt, fun _ => by simp only; rw [same _ (by omega) (by omega)]; exact eb.reg rg, (fun h => by rcases h with h | h <;> cases h), (fun h => by cases h), (fun h => by cases h), fun q hq => ?_⟩ (fun _ => .inl ⟨rg, rfl⟩) (fun j z q hj hz hq => re _ (hsep z (List.mem_of_getElem? hz) q hq)) (fun s _ _ h => re s (Ne.symm h)) (fun s z s0 hz g => ⟨fun q => ?_, fun k k0 q => ?_⟩) (fun s _ _ q => .inl ?_)⟩
  · rcases List.mem_append.1 hq with hq | hq
    · rw [re _ (hsep x hm q hq)]; exact eb.lim q hq
    · rw [List.mem_singleton.1 hq]; exact rs
  · by_cases c : s = x.slot
    · right; rw [c, rs]; exact ((S.eb z hz).reg g).2.1
    · left
      obtain ⟨u, hu, hus⟩ := q
      obtain ⟨j, hj⟩ := List.mem_iff_getElem?.1 hu
      have : j ≠ i := fun h => by subst h; rw [hx] at hj; cases hj; exact c hus.symm
      exact ⟨u, List.mem_of_getElem? (by rw [List.getElem?_set_ne (Ne.symm this)]; exact hj), hus⟩
  · right
    by_cases c : s = x.slot
    · rw [c, rs]; have := ((S.eb z hz).reg g).2.1; omega
    · rw [re s c]; exact q
  · right
    rcases q with q | ⟨q, hq, hqs⟩
    · exact ⟨⟨x.slot, E⟩, List.mem_append.2 (.inr (by simp)), q⟩
    · exact ⟨q, List.mem_append.2 (.inl hq), hqs⟩
end
section
variable {D D' : Int → Option Dw} {Q Q' : Qs} {Lo : Int → Prop} {A B : Ar} {L L' : List Int} {M M' : Int → Int} {t s E E' own k pick c : Int} {ths : List Th} {x y z : Th} {i : Nat} {r r' : Int → Int} {fr : List Int}
theorem answer_keep : (x.answer pick).next = none ∧ (x.answer pick).seq = x.seq ∧ (x.answer pick).id = x.id ∧ (x.answer pick).n = x.n ∧ (x.answer pick).ent = x.ent ∧ (x.answer pick).limbo = x.limbo ∧ (x.answer pick).slot = x.slot ∧ (x.answer pick).ts = x.ts := by
  unfold Th.answer
  split <;> exact ⟨rfl, rfl, rfl, rfl, rfl, rfl, rfl, rfl⟩
theorem Sg.advs (S : Sg D Lo M E r A L ths) (N : Nb ths) (hx : ths[i]? = some x) (ox : x.ok) (on : x.on) (hn : x.next = some .adv) (hE : E < 1000000) (P : EpI A k) (hs : x.slot = -1) : ∃ E', (E ≤ E' ∧ E' ≤ E + 1) ∧ Sg D Lo M E' r (x.advs A pick).2.2 L (ths.set i (x.advs A pick).1) := by
  obtain ⟨hm, i1, i2, eb⟩ := S.here hx
  obtain ⟨d, e, ho⟩ := on.adv hn
  have od := ox.adv d e
  have n4 := N.n4
  have hi := (List.getElem?_eq_some_iff.1 hx).1
  obtain ⟨e29, E0⟩ := S.e0
  obtain ⟨dn, da⟩ := eb.adv hn d e
  have v29 : valOf (A.at 29) = E := by rw [e29]; exact valOf_val E0 (by omega)
  have is29 : epIs (A.at 29) = true := by unfold epIs; rw [v29, e29, plainOf_val E0 (by omega), decide_eq_true (by omega)]; rfl
  have hA := S.mi.ok
  have hsl : ∀ j z, j ≠ i → ths[j]? = some z → 0 ≤ z.slot → z.slot < 12 := fun j z _ hz _ => N.sl z (List.mem_of_getElem? hz)
  have hatt : ∀ j z a, j ≠ i → ths[j]? = some z → z.att = some a → 0 ≤ a.slot := fun j z a _ hz ha => N.at_ z (List.mem_of_getElem? hz) a ha
  have w0 := eb.out (.inr hn)
  have a0 := od.a0; have a1 := od.a1; have a2 := od.a2 ho; have n1 := od.n1
  have ids : ∀ z ∈ ths, 0 ≤ z.id ∧ z.id < ths.length := fun z hz => by
    obtain ⟨j, hj⟩ := List.mem_iff_getElem?.1 hz
    have := (S.id j z hj).1
    have := (List.getElem?_eq_some_iff.1 hj).1
    omega
  -- what a step leaves: adv goes on, or it is over
  have goon : ∀ (d' : Adv) (B : Ar), B.ok → (∀ j, 0 ≤ j → j < 634 → B.at j = A.at j) → d'.n = x.n → (0 ≤ d'.asked → d'.e ≤ E ∧ (d'.e = E → ∀ z ∈ ths, z.id < d'.asked → z.reg → z.ep = E)) → Sg D Lo M E r B L (ths.set i { x with adv := some d' }) := fun d' B okB same h1 h2 => by
    refine S.mid n4 hx okB (fun j j0 j1 _ => same j j0 j1) (by rw [hn]; simp) (by simp only; rw [hn]; simp) rfl hsl hatt ⟨rfl, rfl⟩ (by rw [same 29 (by decide) (by decide)]; exact e29) (fun t t0 t1 _ => same _ (by omega) (by omega)) (.inl rfl) ⟨eb.nt, fun g => absurd g (not_reg (by simp only; rw [hn]; simp)), fun _ => by simp only; rw [same _ (by omega) (by omega)]; exact w0, (fun h => by simp only at h; rw [hn] at h; cases h), fun _ d'' hd => by cases hd; exact ⟨h1, h2⟩, eb.lim⟩ (fun g => absurd g (not_reg (by simp only; rw [hn]; simp))) (fun _ _ _ _ _ _ => rfl) (fun _ _ _ _ => rfl) (hk_same hx (.inl rfl)) (fun s _ _ q => .inl q)
  have done : ∀ (d' : Adv) (B : Ar) (E' : Int), B.ok → (∀ j, 0 ≤ j → j < 634 → j ≠ 29 → B.at j = A.at j) → B.at 29 = E' * 4 → (E' = E ∨ (E' = E + 1 ∧ ∀ z ∈ ths, z.reg → z.ep = E)) → Sg D Lo M E' r B L (ths.set i (({ x with adv := some d' } : Th).answer pick)) := fun d' B E' okB same h29 hEE => by
    obtain ⟨k1, k2, k3, k4, k5, k6, k7, k8⟩ := answer_keep (x := { x with adv := some d' }) (pick := pick)
    generalize ({ x with adv := some d' } : Th).answer pick = y at k1 k2 k3 k4 k5 k6 k7 k8
    refine S.mid n4 hx okB (fun j j0 j1 q => same j j0 j1 (by omega)) (by rw [hn]; simp) (by rw [k1]; simp) k2 hsl hatt ⟨k3, k4⟩ h29 (fun t t0 t1 _ => same _ (by omega) (by omega) (by omega)) hEE ⟨by rw [k5, k3]; exact eb.nt, fun g => absurd g (not_reg (.inl k1)), fun _ => by rw [k3]; simp only; rw [same _ (by omega) (by omega) (by omega)]; exact w0, (fun h => by rw [k1] at h; cases h), (fun h => by rw [k1] at h; cases h), by rw [k6]; exact eb.lim⟩ (fun g => absurd g (not_reg (.inl k1))) (fun _ _ _ _ _ _ => rfl) (fun _ _ _ _ => rfl) (hk_same hx (.inl k7)) (fun s _ _ q => .inl (by rw [k7, k6]; exact q))
  unfold Th.advs
  rw [e]
  simp only
  by_cases c0 : d.asked < 0
  · have hstep : d.step A = ({ d with e := E, asked := d.asked + 1 }, 0, A.ld 29) := by unfold Adv.step; rw [if_neg (by rw [ho]; decide), if_pos c0, if_pos is29, v29]
    rw [hstep]
    rw [if_neg (by simp only; rw [ho]; simp)]
    refine ⟨E, by omega, goon _ _ (hA.ld _) (fun j j0 j1 => at_ld hA (by decide) (by decide) j0 j1) dn fun _ => ⟨Int.le_refl _, fun _ z hz h => ?_⟩⟩
    have := (ids z hz).1
    simp only at h; omega
  · by_cases c1 : d.asked < d.n
    · have pl := P.t d.asked (by omega) (by omega)
      have hstep : d.step A = ({ d with over := decide (valOf (A.at (30 + d.asked)) ≠ 0) && decide (valOf (A.at (30 + d.asked)) ≠ d.e + 1), asked := d.asked + 1 }, 0, A.ld (30 + d.asked)) := by unfold Adv.step; rw [if_neg (by rw [ho]; decide), if_neg c0, if_pos c1, if_pos pl]
      rw [hstep]
      have same : ∀ j, 0 ≤ j → j < 634 → (A.ld (30 + d.asked)).at j = A.at j := fun j j0 j1 => at_ld hA (by omega) (by omega) j0 j1
      by_cases cv : (decide (valOf (A.at (30 + d.asked)) ≠ 0) && decide (valOf (A.at (30 + d.asked)) ≠ d.e + 1)) = true
      · rw [if_pos ⟨cv, rfl⟩]
        exact ⟨E, by omega, done _ _ E (hA.ld _) (fun j j0 j1 _ => same j j0 j1) (by rw [same 29 (by decide) (by decide)]; exact e29) (.inl rfl)⟩
      · rw [if_neg (by rintro ⟨h, _⟩; exact cv h)]
        refine ⟨E, by omega, goon _ _ (hA.ld _) same dn fun _ => ⟨(da (by omega)).1, fun he z hz hlt hg => ?_⟩⟩
        by_cases cz : z.id < d.asked
        · exact (da (by omega)).2 he z hz cz hg
        · have hlt' : z.id < d.asked + 1 := hlt
          clear hlt
          have zi : z.id = d.asked := by omega
          have hw := (S.eb z hz).reg hg
          rw [zi] at hw
          have hv : valOf (A.at (30 + d.asked)) = z.ep + 1 := by rw [hw.1]; exact valOf_val (by omega) (by omega)
          rw [hv] at cv
          simp only [Bool.and_eq_true, decide_eq_true_eq, not_and] at cv
          have he' : d.e = E := he
          by_cases q : z.ep + 1 = d.e + 1
          · omega
          · exact absurd q (cv (by omega))
    · have hstep : d.step A = ({ d with moved := decide (A.at 29 = d.e * 4), over := true, asked := d.asked + 1 }, 0, A.cas 29 (d.e * 4) ((d.e + 1) * 4)) := by unfold Adv.step; rw [if_neg (by rw [ho]; decide), if_neg c0, if_neg c1]
      rw [hstep]
      rw [if_pos ⟨rfl, rfl⟩]
      have e0 := od.e0
      have e2 := od.e2 ho
      have okB : (A.cas 29 (d.e * 4) ((d.e + 1) * 4)).ok := hA.cas 29 (d.e * 4) (by constructor <;> omega)
      have at_ : ∀ j, 0 ≤ j → j < 634 → (A.cas 29 (d.e * 4) ((d.e + 1) * 4)).at j = if 29 = j then (if A.at 29 = d.e * 4 then (d.e + 1) * 4 else A.at 29) else A.at j := fun j j0 j1 => at_cas hA (by decide) (by decide) j0 j1
      have oth : ∀ j, 0 ≤ j → j < 634 → j ≠ 29 → (A.cas 29 (d.e * 4) ((d.e + 1) * 4)).at j = A.at j := fun j j0 j1 hj => by rw [at_ j j0 j1, if_neg (Ne.symm hj)]
      by_cases cw : A.at 29 = d.e * 4
      · have de : d.e = E := by omega
        refine ⟨E + 1, by omega, done _ _ (E + 1) okB oth (by rw [at_ 29 (by decide) (by decide), if_pos rfl, if_pos cw, de]) (.inr ⟨rfl, fun z hz hg => (da (by omega)).2 de z hz ?_ hg⟩)⟩
        have := (ids z hz).2
        omega
      · exact ⟨E, by omega, done _ _ E okB oth (by rw [at_ 29 (by decide) (by decide), if_pos rfl, if_neg cw]; exact e29) (.inl rfl)⟩
theorem Sg.take (S : Sg D Lo M E r A L ths) (N : Nb ths) (hx : ths[i]? = some x) (okB : B.ok) (h : ∀ j, 0 ≤ j → j < 634 → j < 16 ∨ 29 ≤ j → B.at j = A.at j)
    (hxn : x.next = some .tak ∨ x.next = some .fre) (xs : x.slot = -1) (hL : L.length = 12) (hL2 : ∀ v ∈ L, 0 ≤ v) (s0 : 0 ≤ s) (s1 : s < 12)
    (hy : y.seq = x.seq ∧ y.id = x.id ∧ y.n = x.n ∧ y.ent = x.ent ∧ y.limbo = x.limbo) (m : At.may y.id y.seq s (L.getD s.toNat 0 + 1) y.ops)
    (free : ∀ z ∈ ths, z.slot ≠ s ∧ ∀ q ∈ z.limbo, q.slot ≠ s) : Sg (setD D s none) Lo M E r B (lived s L) (ths.set i (y.with_ s L)) := by
  obtain ⟨hm, i1, i2, eb⟩ := S.here hx
  obtain ⟨y1, y2, y3, y4, y5⟩ := hy
  have n4 := N.n4
  have hi := (List.getElem?_eq_some_iff.1 hx).1
  have hA := S.mi.ok
  have lv := lf_lived (s := s) hL s0 s1
  have nx : x.next ≠ some .tri := by rcases hxn with h | h <;> (rw [h]; simp)
  have rg : x.reg := by rcases hxn with h | h; · exact .inr (.inl h)
                        · exact .inl h
  have aged := S.ag s s0 s1 free
  have wy : (y.with_ s L).att = some (.new y.id y.seq s (L.getD s.toNat 0 + 1) y.ops) := by unfold Th.with_; simp only; exact if_pos m
  have ysl : (y.with_ s L).slot = s := rfl
  have ynx : (y.with_ s L).next = some .tri := rfl
  have yep : (y.with_ s L).ep = x.ep := by show (y.ent.map Ent.e).getD 0 = _; rw [y4]; rfl
  have hb : ∀ u d, D u = some d → ∀ j, baseOf u ≤ j → j < baseOf u + 50 → B.at j = A.at j := fun u d hd j j0 j1 => by
    have l := (S.mi.ds u d hd).1
    have := l.s0; have := l.s1
    unfold baseOf at j0 j1
    exact h j (by omega) (by omega) (by omega)
  have hold : ∀ u d, D u = some d → Opn A u d → ∃ j z, j ≠ i ∧ ths[j]? = some z ∧ z.slot = u ∧ z.next = some .tri := fun u d hd ho => by
    obtain ⟨z, hz, a, b⟩ := S.op u d hd ho
    obtain ⟨j, hj⟩ := List.mem_iff_getElem?.1 hz
    refine ⟨j, z, fun c => ?_, hj, a, b⟩
    subst c; rw [hx] at hj; cases hj; exact nx b
  have nobody : ∀ t f, f ∈ (FF ths t).fs → D s ≠ none → ¬ Ref s f := fun t f hf hd hr => by
    obtain ⟨d, hd⟩ : ∃ d, D s = some d := by
      cases e : D s with
      | none => exact absurd e hd
      | some d => exact ⟨d, rfl⟩
    have hp := S.mi.pf t f s d hf hr hd (S.gs s d hd).2
    obtain ⟨z, hz, hzf⟩ := FF_fs (List.ne_nil_of_mem hf)
    have g := Th.reg_frs hzf
    have zm := (thr_some hz).2.2
    have b := (S.eb z zm).reg g
    rcases hp s0 z hz g with q | q
    · obtain ⟨u, hu, hus⟩ := q
      exact (free u hu).1 hus
    · omega
  have I1 := S.mi.qset (y := y.with_ s L) (r' := r) hx (fun _ _ => ⟨rg, yep⟩) (hk_same hx (.inr xs)) (fun u d hd _ ho => by
    obtain ⟨j, z, hj, hz, a, _⟩ := hold u d hd ho
    exact ⟨z, List.mem_of_getElem? (by rw [List.getElem?_set_ne (Ne.symm hj)]; exact hz), a⟩)
  have I2 := (I1.else okB (fun c c0 c1 => h c c0 (by omega) (by omega)) hb).take (fun u d hd => (S.gs u d hd).2) nobody
  have st : (y.with_ s L).stk = FF ths i := by
    rw [FF_at hx]
    unfold Th.stk
    rw [Th.frs_tri ynx wy, Th.frs_ne nx]
    show (⟨y.seq, []⟩ : Stk) = _
    rw [y1]
  have sf : setF (FF ths) i (y.with_ s L).stk = FF ths := by rw [st]; exact setF_self (t := (i : Int))
  have sub : ∀ u d, setD D s none u = some d → u ≠ s ∧ D u = some d := fun u d hd => by
    by_cases c : u = s
    · subst c; rw [setD_at] at hd; cases hd
    · rw [setD_ne c] at hd; exact ⟨c, hd⟩
  have w : ∀ j, 29 ≤ j → j < 34 → B.at j = A.at j := fun j j0 j1 => h j (by omega) (by omega) (by omega)
  refine S.turn n4 hx (own := s) (by rw [sf]; exact I2) (.else fun u d hd => hb u d hd _ (by omega) (by omega)) (.same fun j j0 j1 => h j (by omega) j1 (by omega)) (fun u u0 u1 hu => ⟨setD_ne hu, by rw [lv]; exact incG_ne hu⟩) (fun j z hj hz z0 => ⟨N.sl z (List.mem_of_getElem? hz), (free z (List.mem_of_getElem? hz)).1⟩) (fun j z a _ hz ha => N.at_ z (List.mem_of_getElem? hz) a ha) (fun u d hd => ?_) (fun _ => ⟨_, wy, rfl, ?_, rfl, rfl, ?_, setD_at, rfl, rfl, fun H h => by cases h⟩) ⟨y2, y3⟩ (by rw [w 29 (by decide) (by decide)]; exact S.e0.1) (fun t t0 t1 _ => w _ (by omega) (by omega)) (.inl rfl) ⟨?_, fun _ => ?_, (fun q => by rcases q with q | q <;> cases q), (fun q => by cases q), (fun q => by cases q), ?_⟩ (fun _ => .inl ⟨rg, yep⟩) (fun _ _ _ _ _ _ => rfl) (fun u d hd ho => .inr (hold u d (sub u d hd).2 ?_)) (fun _ _ _ _ => rfl) (fun u u0 _ q => ?_)
  · obtain ⟨ne, hd⟩ := sub u d hd
    rw [lv, incG_ne ne]; exact S.gs u d hd
  · show 1 ≤ L.getD s.toNat 0 + 1
    rw [List.getD_eq_getElem?_getD]
    cases e : L[s.toNat]? with
    | none => decide
    | some v => have := hL2 v (List.mem_of_getElem? e); simp only [Option.getD_some]; omega
  · show L.getD s.toNat 0 + 1 = lf (lived s L) s
    rw [lv, incG_at, lf_at s0]
  · show ∀ n, y.ent = some n → n.t = y.id
    rw [y4, y2]; exact eb.nt
  · rw [yep]
    show B.at (30 + y.id) = _ ∧ _
    rw [y2, w _ (by omega) (by omega)]; exact eb.reg rg
  · show ∀ q ∈ y.limbo, _
    rw [y5]; exact eb.lim
  · unfold Opn at ho ⊢; rw [← hb u d (sub u d hd).2 _ (by omega) (by omega)]; exact ho
  · rcases q with q | ⟨q, hq, hqs⟩
    · omega
    · exact .inl (.inr ⟨q, by show q ∈ y.limbo; rw [y5]; exact hq, hqs⟩)
end
theorem lst_ld {A : Ar} {i : Int} (h0 : 0 ≤ i) : (A.ld i).lst 2 = i := by show ((i.toNat : Nat) : Int) = i; omega
theorem lst_put {A : Ar} {i x : Int} (h0 : 0 ≤ i) : (A.put i x).lst 2 = i := by show ((i.toNat : Nat) : Int) = i; omega
theorem lst_cas {A : Ar} {i o x : Int} (h0 : 0 ≤ i) : (A.cas i o x).lst 2 = i := by show ((i.toNat : Nat) : Int) = i; omega
theorem Ent.step_lst {n : Ent} {A : Ar} (o : n.ok) (h : n.over = false) : (n.step A).2.2.lst 2 < 34 := by
  have := o.t0; have := o.t1
  unfold Ent.step
  rw [if_neg (by rw [h]; decide)]
  split
  · show (A.put (30 + n.t) _).lst 2 < 34; rw [lst_put (by omega)]; omega
  · split <;> (show (A.ld 29).lst 2 < 34; rw [lst_ld (by decide)]; decide)
theorem Adv.step_lst {d : Adv} {A : Ar} (o : d.ok) (h : d.over = false) : (d.step A).2.2.lst 2 < 34 := by
  have := o.a0; have := o.a1; have := o.n1
  unfold Adv.step
  rw [if_neg (by rw [h]; decide)]
  split
  · split <;> (show (A.ld 29).lst 2 < 34; rw [lst_ld (by decide)]; decide)
  · split
    · split <;> (show (A.ld (30 + d.asked)).lst 2 < 34; rw [lst_ld (by omega)]; omega)
    · show (A.cas 29 _ _).lst 2 < 34; rw [lst_cas (by decide)]; decide
theorem Pop.step_lst {p : Pop} {A : Ar} (o : p.ok) (hov : p.l.over = false) : (p.step A).2.2.lst 2 < 34 := by
  have ol := o.l
  unfold Pop.step
  rw [if_neg (by rw [hov]; decide)]
  split
  · split <;> (show (A.ld 16).lst 2 < 34; rw [lst_ld (by decide)]; decide)
  · have f := o.f hov (by assumption)
    split
    · split <;> (show (A.ld (17 + p.l.first - 1)).lst 2 < 34; rw [lst_ld (by omega)]; omega)
    · split <;> (show (A.cas 16 _ _).lst 2 < 34; rw [lst_cas (by decide)]; decide)
theorem Push.step_lst {p : Push} {A : Ar} (o : p.ok) (hov : p.l.over = false) : (p.step A).2.2.lst 2 < 34 := by
  have s0 := o.s0; have s1 := o.s1
  unfold Push.step
  rw [if_neg (by rw [hov]; decide)]
  split
  · split <;> (show (A.ld 16).lst 2 < 34; rw [lst_ld (by decide)]; decide)
  · split
    · show (A.put (17 + p.slot) _).lst 2 < 34; rw [lst_put (by omega)]; omega
    · show (A.cas 16 _ _).lst 2 < 34; rw [lst_cas (by decide)]; decide
structure SR (Lo : Int → Prop) (E : Int) (k : Int) (ths : List Th) (i : Nat) (q0 : Int) (y : Th) (c : Int) (B : Ar) (L' : List Int) : Prop where
  err : c = 0
  sg : ∃ D M E' r, (E ≤ E' ∧ E' ≤ E + 1) ∧ Sg D Lo M E' r B L' (ths.set i y)
  ep : EpI B (k + 1)
  ts : Tsl (lf L') B y.ts y.tg
  sq : y.seq ≤ q0 + 1
section
variable {D D' : Int → Option Dw} {Q Q' : Qs} {Lo : Int → Prop} {A B : Ar} {L L' : List Int} {M M' : Int → Int} {t s E E' own k pick c cc : Int} {ths : List Th} {x y z : Th} {i : Nat} {r r' : Int → Int} {fr : List Int}
theorem Sg.tris (S : Sg D Lo M E r A L ths) (hL : ∀ s, Lo s) (N : Nb ths) (hx : ths[i]? = some x) (oa : ∀ a, x.att = some a → a.ok) (on : ∀ a, x.att = some a → a.on) (hw : x.wrs) (hn : x.next = some .tri) (hq : x.seq < 1000000)
    (sep : ∀ j z, j ≠ i → ths[j]? = some z → z.slot ≠ x.slot) (P : EpI A k) : ∃ D' M', (x.tris A).2.1 = 0 ∧ Sg D' Lo M' E r (x.tris A).2.2 L (ths.set i (x.tris A).1) ∧ EpI (x.tris A).2.2 (k + 1) ∧ Tsl (lf L) (x.tris A).2.2 (x.tris A).1.ts (x.tris A).1.tg ∧ (x.tris A).1.seq ≤ x.seq + 1 := by
  obtain ⟨hm, i1, i2, eb⟩ := S.here hx
  obtain ⟨a, ha, hsl, g1, at_, aq, aw⟩ := S.th x hm hn
  have ok := oa a ha
  have hl := ok.life
  unfold lifeMay at hl
  simp only [decide_eq_true_eq] at hl
  have n4 := N.n4
  have hi := (List.getElem?_eq_some_iff.1 hx).1
  have rg : x.reg := .inr (.inr (.inl hn))
  have hF : FF ths a.t = a.stk := by
    rw [at_, i1, FF_at hx]
    unfold Th.stk At.stk
    rw [Th.frs_tri hn ha, aq]
  have hh : held ths a.slot := ⟨x, hm, hsl.symm⟩
  obtain ⟨D', M', R⟩ := At.step_s (G := lf L) S.mi S.qp (fun s d n e _ _ _ _ => hL s) S.gs ok (on a ha) aw g1 hF (by omega) (fun u => (qs_open hh u).1) (fun u => (qs_open hh u).2)
  have ac := At.step_acc ok S.mi.ok (hw a ha)
  have w : ∀ j, 16 ≤ j → j < 34 → (a.step A).2.2.at j = A.at j := fun j j0 j1 => ac.at_same S.mi.ok (by omega) (by omega) fun i p => by unfold inAtt at p; omega
  unfold Th.tris
  rw [ha]
  simp only
  generalize a.step A = p at R w
  have mi := R.mi
  rw [at_, i1] at mi
  generalize hy : ({ x with att := some p.1, ts := p.1.ts, tg := p.1.tg, seq := p.1.q, next := if p.1.over then some .ret else x.next } : Th) = y
  have yid : y.id = x.id := by rw [← hy]
  have yn : y.n = x.n := by rw [← hy]
  have yent : y.ent = x.ent := by rw [← hy]
  have ylim : y.limbo = x.limbo := by rw [← hy]
  have ysl : y.slot = x.slot := by rw [← hy]
  have yatt : y.att = some p.1 := by rw [← hy]
  have yseq : y.seq = p.1.q := by rw [← hy]
  have yts : y.ts = p.1.ts := by rw [← hy]
  have ytg : y.tg = p.1.tg := by rw [← hy]
  have ynx : y.next = if p.1.over then some .ret else some .tri := by rw [← hy]; simp only; rw [hn]
  have yep : y.ep = x.ep := by unfold Th.ep; rw [yent]
  have yrg : y.reg := by unfold Th.reg; rw [ynx]; cases p.1.over <;> simp
  have yst : y.stk = p.1.stk := by
    unfold Th.stk At.stk
    rw [yseq]
    congr 1
    cases ho : p.1.over with
    | false => exact Th.frs_tri (by rw [ynx, ho]; rfl) yatt
    | true => rw [Th.frs_ne (by rw [ynx, ho]; simp), (R.over ho).1]
  have opn : ∀ u d, D' u = some d → Opn p.2.2 u d → (y.slot = u ∧ y.next = some .tri) ∨ ∃ j z, j ≠ i ∧ ths[j]? = some z ∧ z.slot = u ∧ z.next = some .tri := fun u d hd ho => by
    by_cases cu : u = a.slot
    · left
      refine ⟨by rw [ysl, ← hsl, cu], ?_⟩
      rw [ynx]
      cases hov : p.1.over with
      | false => rfl
      | true =>
        obtain ⟨_, d2, h1, h2, _⟩ := R.over hov
        rw [cu, h1] at hd; cases hd
        rw [cu] at ho
        exact absurd ho h2
    · right
      have hd0 : D u = some d := by rw [← R.ne u cu]; exact hd
      obtain ⟨z, hz, e1, e2⟩ := S.op u d hd0 ((R.turn.1 u d hd0).1 ho)
      obtain ⟨j, hj⟩ := List.mem_iff_getElem?.1 hz
      refine ⟨j, z, fun c => ?_, hj, e1, e2⟩
      subst c; rw [hx] at hj; cases hj
      exact cu (by rw [hsl]; exact e1.symm)
  have I2 := mi.qset (y := y) (r' := r) hx (fun _ _ => ⟨rg, yep⟩) (hk_same hx (.inl ysl)) (fun u d hd _ ho => by
    rcases opn u d hd ho with ⟨e, _⟩ | ⟨j, z, hj, hz, e, _⟩
    · exact ⟨y, List.mem_set (List.getElem?_eq_some_iff.1 hx).1 _, e⟩
    · exact ⟨z, List.mem_of_getElem? (by rw [List.getElem?_set_ne (Ne.symm hj)]; exact hz), e⟩)
  refine ⟨D', M', R.err, ?_, P.keep (by omega) fun j j0 j1 => w j (by omega) j1, R.ts, by have := R.q1; show p.1.q ≤ x.seq + 1; omega⟩
  refine S.turn n4 hx (own := a.slot) (by rw [yst]; exact I2) R.turn R.reg (fun u _ _ hu => ⟨R.ne u hu, rfl⟩) (fun j z hj hz z0 => ⟨N.sl z (List.mem_of_getElem? hz), by rw [hsl]; exact sep j z hj hz⟩) (fun j z a _ hz ha => N.at_ z (List.mem_of_getElem? hz) a ha) R.gs (fun hny => ⟨p.1, yatt, by rw [R.slot, ysl]; exact hsl, by rw [R.gen]; exact g1, by rw [R.th, yid]; exact at_, yseq.symm, R.on ?_⟩) ⟨yid, yn⟩ (by rw [w 29 (by decide) (by decide)]; exact S.e0.1) (fun t t0 t1 _ => w _ (by omega) (by omega)) (.inl rfl) ⟨by rw [yent, yid]; exact eb.nt, fun _ => by rw [yid, yep, w _ (by omega) (by omega)]; exact eb.reg rg, fun q => absurd yrg (not_reg (by rcases q with q | q <;> simp [q])), fun q => absurd yrg (not_reg (by simp [q])), fun q => absurd yrg (not_reg (by simp [q])), by rw [ylim]; exact eb.lim⟩ (fun _ => .inl ⟨rg, yep⟩) (fun _ _ _ _ _ _ => rfl) opn (fun _ _ _ _ => rfl) (fun u _ _ q => .inl (by rw [ysl, ylim]; exact q))
  rw [ynx] at hny
  cases ho : p.1.over with
  | false => rfl
  | true => rw [ho] at hny; cases hny
theorem with_nb (N : Nb ths) (hi : i < ths.length) {y : Th} (s1 : s < 12) (s0 : 0 ≤ s) : Nb (ths.set i (y.with_ s L)) := by
  refine ⟨by rw [List.length_set]; exact N.n4, fun z hz => ?_, fun z hz a ha => ?_⟩
  · rcases mem_set hz hi with rfl | ⟨j, _, h⟩
    · exact s1
    · exact N.sl z (List.mem_of_getElem? h)
  · rcases mem_set hz hi with rfl | ⟨j, _, h⟩
    · unfold Th.with_ at ha
      simp only at ha
      split at ha
      · cases ha; exact s0
      · cases ha
    · exact N.at_ z (List.mem_of_getElem? h) a ha
def Fres (ths : List Th) (s : Int) : Prop := (0 ≤ s ∧ s < 12) ∧ ∀ z ∈ ths, z.slot ≠ s ∧ ∀ q ∈ z.limbo, q.slot ≠ s
theorem Sg.taks (S : Sg D Lo M E r A L ths) (hLo : ∀ s, Lo s) (N : Nb ths) (hx : ths[i]? = some x) (ox : x.ok) (on : x.on) (hn : x.next = some .tak ∨ x.next = some .fre) (hq : x.seq < 1000000) (xs : x.slot = -1) (xt : x.ts = -1)
    (F : Fre A fr cc) (hc : cc < 90000) (w : x.own A cc) (hL : L.length = 12) (hL2 : ∀ v ∈ L, 0 ≤ v) (m : Mays x L) (h1 : ∀ s ∈ x.cache, Fres ths s) (h2 : ∀ s ∈ fr, Fres ths s) (P : EpI A k) :
    SR Lo E k ths i x.seq (x.taks A L).1.1 (x.taks A L).1.2.1 (x.taks A L).1.2.2 (x.taks A L).2 := by
  have hi := (List.getElem?_eq_some_iff.1 hx).1
  have hA := S.mi.ok
  have nt : x.next ≠ some .tri := by rcases hn with q | q <;> (rw [q]; simp)
  have rg : x.reg := by rcases hn with q | q; · exact .inr (.inl q)
                        · exact .inl q
  have main : ∀ p : Option Pop, x.pop = p →
      let q := (p.getD .new).step A
      let r : (Th × Int × Ar) × List Int := if q.1.l.over = false ∨ q.2.1 ≠ 0 then (({ x with pop := some q.1, next := some .tak }, q.2.1, q.2.2), L) else
        if q.1.slot = -1 then (({ x with pop := none, end_ := 1, next := some .lea }, 0, q.2.2), L) else
        ((({ x with pop := none } : Th).with_ q.1.slot L, 0, q.2.2), lived q.1.slot L)
      SR Lo E k ths i x.seq r.1.1 r.1.2.1 r.1.2.2 r.2 := by
    intro p hp
    have po : (p.getD .new).ok ∧ (p.getD .new).own A cc ∧ (p.getD .new).l.over = false := by
      cases p with
      | none => exact ⟨Pop.new_ok, Pop.new_own, rfl⟩
      | some p => exact ⟨ox.pop p hp, w.pop p hp, on.pop p hp⟩
    obtain ⟨s0, s1⟩ := Pop.step_own po.1 po.2.1 hA F hc
    have acc := Pop.step_acc (A := A) po.1
    have mid : ∀ j, 0 ≤ j → j < 634 → j < 16 ∨ 29 ≤ j → ((p.getD .new).step A).2.2.at j = A.at j := fun j j0 j1 c => acc.at_same hA j0 j1 fun i p => by omega
    have ls := Pop.step_lst (A := A) po.1 po.2.2
    have sk := (Pop.step_ok po.1 hA).2
    have ep : EpI ((p.getD .new).step A).2.2 (k + 1) := P.keep (by omega) fun j j0 j1 => mid j (by omega) (by omega) (by omega)
    generalize (p.getD .new).step A = q at s0 s1 mid ls sk ep
    simp only
    rcases s1 with ⟨s1, _, _⟩ | ⟨s1, s2, _⟩ | ⟨s1, s, fr', e1, e2, e3, _, _⟩
    · rw [if_pos (.inl s1)]
      exact ⟨s0, ⟨D, M, E, r, by omega, S.calm N hx sk mid ⟨rg, nt⟩ ⟨.inr (.inl rfl), by simp⟩ rfl ⟨rfl, rfl⟩ rfl rfl rfl⟩, ep, .inl ⟨xt, ls⟩, by show x.seq ≤ x.seq + 1; omega⟩
    · rw [if_neg (by rw [s1, s0]; simp), if_pos s2]
      exact ⟨rfl, ⟨D, M, E, r, by omega, S.calm N hx sk mid ⟨rg, nt⟩ ⟨.inr (.inr (.inr (.inr rfl))), by simp⟩ rfl ⟨rfl, rfl⟩ rfl rfl rfl⟩, ep, .inl ⟨xt, ls⟩, by show x.seq ≤ x.seq + 1; omega⟩
    · rw [if_neg (by rw [s1, s0]; simp), if_neg (by omega), e2]
      subst e1
      exact ⟨rfl, ⟨_, M, E, r, by omega, S.take N hx sk mid hn xs hL hL2 e3.1 e3.2 (y := { x with pop := none }) ⟨rfl, rfl, rfl, rfl, rfl⟩ (m s e3.1 e3.2) (h2 s (by simp)).2⟩, ep, .inl ⟨xt, ls⟩, by show x.seq ≤ x.seq + 1; omega⟩
  unfold Th.taks
  cases hp : x.pop with
  | some p => exact main _ hp
  | none =>
    cases hl : x.cache.getLast? with
    | none => exact main _ hp
    | some s =>
      have hm := ox.ca s (List.mem_of_getLast? hl)
      have fs := (h1 s (List.mem_of_getLast? hl)).2
      have ms := m s hm.1 hm.2
      have S1 := S.take (B := A) N hx hA (fun _ _ _ _ => rfl) hn xs hL hL2 hm.1 hm.2 (y := { x with cache := x.cache.dropLast, pop := none }) ⟨rfl, rfl, rfl, rfl, rfl⟩ ms fs
      have N1 := with_nb (L := L) N hi (y := { x with cache := x.cache.dropLast, pop := none }) hm.2 hm.1
      have at_ : (({ x with cache := x.cache.dropLast, pop := none } : Th).with_ s L).att = some (.new x.id x.seq s (L.getD s.toNat 0 + 1) x.ops) := by
        unfold Th.with_; simp only; exact if_pos ms
      simp only
      have ysl : (({ x with cache := x.cache.dropLast, pop := none } : Th).with_ s L).slot = s := rfl
      have ynx : (({ x with cache := x.cache.dropLast, pop := none } : Th).with_ s L).next = some .tri := rfl
      have ysq : (({ x with cache := x.cache.dropLast, pop := none } : Th).with_ s L).seq = x.seq := rfl
      have ywr : (({ x with cache := x.cache.dropLast, pop := none } : Th).with_ s L).wrs := Th.with_wrs hm.1
      generalize ({ x with cache := x.cache.dropLast, pop := none } : Th).with_ s L = y at S1 N1 at_ ysl ynx ysq ywr
      have hy : (ths.set i y)[i]? = some y := List.getElem?_set_self hi
      obtain ⟨D', M', g1, g2, g3, g4, g5⟩ := S1.tris hLo N1 hy (fun a h => by rw [at_] at h; cases h; exact At.new_ok ms) (fun a h => by rw [at_] at h; cases h; exact ⟨rfl, fun w h => by cases h⟩) ywr ynx (by rw [ysq]; exact hq) (fun j z hj hz => by
        rw [List.getElem?_set_ne (Ne.symm hj)] at hz
        rw [ysl]; exact (fs z (List.mem_of_getElem? hz)).1) P
      rw [List.set_set] at g2
      exact ⟨g1, ⟨D', M', E, r, by omega, g2⟩, g3, g4, by omega⟩
theorem Sg.fres (S : Sg D Lo M E r A L ths) (hLo : ∀ s, Lo s) (N : Nb ths) (hx : ths[i]? = some x) (ox : x.ok) (on : x.on) (hn : x.next = some .fre) (hq : x.seq < 1000000) (xs : x.slot = -1) (xt : x.ts = -1)
    (F : Fre A fr cc) (hc : cc < 90000) (w : x.own A cc) (hL : L.length = 12) (hL2 : ∀ v ∈ L, 0 ≤ v) (m : Mays x L) (h1 : ∀ s, s ∈ x.cache ∨ s ∈ x.ripe → Fres ths s) (h2 : ∀ s ∈ fr, Fres ths s) (hd : ∀ s ∈ x.ripe, s ∉ fr) (P : EpI A k) :
    SR Lo E k ths i x.seq (x.fres A L).1.1 (x.fres A L).1.2.1 (x.fres A L).1.2.2 (x.fres A L).2 := by
  have hi := (List.getElem?_eq_some_iff.1 hx).1
  have hA := S.mi.ok
  have oc := Th.cached_ok ox
  have wc := Th.cached_own w hn
  have c1 : x.cached.slot = x.slot := by unfold Th.cached; split <;> rfl
  have c2 : x.cached.next = x.next := Th.cached_next
  have c3 : x.cached.att = x.att ∧ x.cached.seq = x.seq ∧ x.cached.id = x.id ∧ x.cached.n = x.n ∧ x.cached.ent = x.ent ∧ x.cached.limbo = x.limbo ∧ x.cached.adv = x.adv ∧ x.cached.ts = x.ts := by unfold Th.cached; split <;> exact ⟨rfl, rfl, rfl, rfl, rfl, rfl, rfl, rfl⟩
  obtain ⟨k1, k2, k3, k4, k5, k6, k7, k8⟩ := c3
  have onc : x.cached.on := by
    unfold Th.cached; split
    · exact ⟨on.ent, on.adv, on.tri, on.pop, on.push⟩
    · exact on
  have mc : Mays x.cached L := by unfold Th.cached; split <;> exact m
  have S1 := S.still N hx c2 k1 k2 ⟨k3, k4⟩ k5 k6 c1 k7
  have fset : ∀ s, Fres ths s → Fres (ths.set i x.cached) s := fun s h => ⟨h.1, fun z hz => by
    rcases mem_set hz hi with rfl | ⟨j, _, hz⟩
    · rw [c1, k6]; exact h.2 x (List.mem_of_getElem? hx)
    · exact h.2 z (List.mem_of_getElem? hz)⟩
  have N1 : Nb (ths.set i x.cached) := ⟨by rw [List.length_set]; exact N.n4, fun z hz => by
    rcases mem_set hz hi with rfl | ⟨j, _, hz⟩
    · rw [c1]; exact N.sl x (List.mem_of_getElem? hx)
    · exact N.sl z (List.mem_of_getElem? hz), fun z hz a ha => by
    rcases mem_set hz hi with rfl | ⟨j, _, hz⟩
    · rw [k1] at ha; exact N.at_ x (List.mem_of_getElem? hx) a ha
    · exact N.at_ z (List.mem_of_getElem? hz) a ha⟩
  have cc1 : ∀ s ∈ x.cached.cache, Fres ths s := fun s h => by
    unfold Th.cached at h
    split at h
    · rcases List.mem_append.1 h with h | h
      · exact h1 s (.inl h)
      · exact h1 s (.inr (List.mem_of_mem_take h))
    · exact h1 s (.inl h)
  have hd : ∀ s ∈ x.cached.ripe, s ∉ fr := fun s hs => hd s (Th.cached_sub hs)
  have hn' : x.cached.next = some .fre := by rw [c2]; exact hn
  have hy : (ths.set i x.cached)[i]? = some x.cached := List.getElem?_set_self hi
  have rgc : x.cached.reg := .inl hn'
  have fin : ∀ {y c B L' q0}, q0 = x.seq → SR Lo E k (ths.set i x.cached) i q0 y c B L' → SR Lo E k ths i x.seq y c B L' := fun {y c B L' q0} e R => by
    obtain ⟨a, b, c, d, e'⟩ := R
    rw [List.set_set] at b
    exact ⟨a, b, c, d, by omega⟩
  unfold Th.fres
  simp only
  generalize x.cached = y at oc wc c1 k2 k8 onc mc S1 fset N1 cc1 hd hn' hy rgc fin
  split
  · exact fin k2 (S1.taks hLo N1 hy oc onc (.inr hn') (by rw [k2]; exact hq) (by rw [c1]; exact xs) (by rw [k8]; exact xt) F hc wc hL hL2 mc (fun s h => fset s (cc1 s h)) (fun s h => fset s (h2 s h)) P)
  · rename_i s rr hr
    have hm := oc.ri s (by rw [hr]; simp)
    have po : (y.push.getD (.new s)).ok ∧ (y.push.getD (.new s)).own A ∧ (y.push.getD (.new s)).slot = s ∧ (y.push.getD (.new s)).l.over = false := by
      cases hp : y.push with
      | none => exact ⟨Push.new_ok hm.1 hm.2, Push.new_own, rfl, rfl⟩
      | some p =>
        have := (wc.push p hp).2
        rw [hr] at this
        cases this
        exact ⟨oc.push p hp, (wc.push p hp).1, rfl, onc.push p hp⟩
    have hsf : s ∉ fr := hd s (by rw [hr]; simp)
    obtain ⟨s0, s2, s1⟩ := Push.step_own po.1 po.2.1 hA F hc (by rw [po.2.2.1]; exact hsf)
    have acc := Push.step_acc (A := A) po.1
    have mid : ∀ j, 0 ≤ j → j < 634 → j < 16 ∨ 29 ≤ j → ((y.push.getD (.new s)).step A).2.2.at j = A.at j := fun j j0 j1 c => acc.at_same hA j0 j1 fun i p => by omega
    have ls := Push.step_lst (A := A) po.1 po.2.2.2
    have sk := (Push.step_ok po.1 hA).2
    have ep : EpI ((y.push.getD (.new s)).step A).2.2 (k + 1) := P.keep (by omega) fun j j0 j1 => mid j (by omega) (by omega) (by omega)
    generalize (y.push.getD (.new s)).step A = q at s0 mid ls sk ep
    have ny : y.next ≠ some .tri := by rw [hn']; simp
    have yt : y.ts = -1 := by rw [k8]; exact xt
    split
    · refine fin k2 ⟨rfl, ⟨D, M, E, r, by omega, ?_⟩, ep, .inl ⟨yt, ls⟩, by show y.seq ≤ y.seq + 1; omega⟩
      have := S1.calm N1 hy sk mid ⟨rgc, ny⟩ (y := { y with push := none, ripe := rr }) ⟨.inl hn', ny⟩ rfl ⟨rfl, rfl⟩ rfl rfl rfl
      exact this
    · refine fin k2 ⟨s0, ⟨D, M, E, r, by omega, ?_⟩, ep, .inl ⟨yt, ls⟩, by show y.seq ≤ y.seq + 1; omega⟩
      have := S1.calm N1 hy sk mid ⟨rgc, ny⟩ (y := { y with push := some q.1 }) ⟨.inl hn', ny⟩ rfl ⟨rfl, rfl⟩ rfl rfl rfl
      exact this
end
section
variable {D D' : Int → Option Dw} {Q Q' : Qs} {Lo : Int → Prop} {A B : Ar} {L L' : List Int} {M M' : Int → Int} {t s E E' own k pick c cc : Int} {ths : List Th} {x y z : Th} {i : Nat} {r r' : Int → Int} {fr : List Int}
theorem Nb.set (N : Nb ths) (hx : ths[i]? = some x) (hs : y.slot = x.slot) (ha : y.att = x.att) : Nb (ths.set i y) := by
  have hi := (List.getElem?_eq_some_iff.1 hx).1
  have hm := List.mem_of_getElem? hx
  refine ⟨by rw [List.length_set]; exact N.n4, fun z hz => ?_, fun z hz a h => ?_⟩
  · rcases mem_set hz hi with rfl | ⟨j, _, hz⟩
    · rw [hs]; exact N.sl x hm
    · exact N.sl z (List.mem_of_getElem? hz)
  · rcases mem_set hz hi with rfl | ⟨j, _, hz⟩
    · rw [ha] at h; exact N.at_ x hm a h
    · exact N.at_ z (List.mem_of_getElem? hz) a h
theorem Fres.set (F : Fres ths s) (hx : ths[i]? = some x) (hs : y.slot = x.slot) (hl : y.limbo = x.limbo) : Fres (ths.set i y) s := by
  have hi := (List.getElem?_eq_some_iff.1 hx).1
  refine ⟨F.1, fun z hz => ?_⟩
  rcases mem_set hz hi with rfl | ⟨j, _, hz⟩
  · rw [hs, hl]; exact F.2 x (List.mem_of_getElem? hx)
  · exact F.2 z (List.mem_of_getElem? hz)
theorem Sg.begin (S : Sg D Lo M E r A L ths) (N : Nb ths) (hx : ths[i]? = some x) (hn : x.next = none) (yn : y.next = some .ent) (ye : y.ent = some (.new x.id)) (h : y.seq = x.seq ∧ y.id = x.id ∧ y.n = x.n ∧ y.limbo = x.limbo ∧ y.slot = x.slot) : Sg D Lo M E r A L (ths.set i y) := by
  obtain ⟨hm, i1, i2, eb⟩ := S.here hx
  obtain ⟨h1, h2, h3, h4, h5⟩ := h
  have nr := not_reg (x := y) (.inr (.inl yn))
  refine S.mid N.n4 hx S.mi.ok (fun _ _ _ _ => rfl) (by rw [hn]; simp) (by rw [yn]; simp) h1 (fun j z _ hz _ => N.sl z (List.mem_of_getElem? hz)) (fun j z a _ hz ha => N.at_ z (List.mem_of_getElem? hz) a ha) ⟨h2, h3⟩ S.e0.1 (fun _ _ _ _ => rfl) (.inl rfl) ⟨fun n hm => ?_, fun g => absurd g nr, (fun q => by rw [yn] at q; rcases q with q | q <;> cases q), fun _ n hm => ?_, (fun q => by rw [yn] at q; cases q), by rw [h4]; exact eb.lim⟩ (fun g => absurd g nr) (fun _ _ _ _ _ _ => rfl) (fun _ _ _ _ => rfl) (hk_same hx (.inl h5)) (fun s _ _ q => .inl (by rw [h5, h4]; exact q))
  · rw [ye] at hm; cases hm; exact h2.symm
  · rw [ye] at hm; cases hm; exact ⟨(fun h => by cases h), (fun h => by cases h)⟩
theorem Th.act_s {a : Act} (S : Sg D Lo M E r A L ths) (hLo : ∀ s, Lo s) (N : Nb ths) (hx : ths[i]? = some x) (ox : x.ok) (on : x.on) (hw : x.wrs) (hn : x.next = some a) (hq : x.seq < 900000) (xt : x.ts = -1)
    (F : Fre A fr cc) (hc : cc < 90000) (w : x.own A cc) (hL : L.length = 12) (hL2 : ∀ v ∈ L, 0 ≤ v) (m : Mays x L) (h1 : ∀ s, s ∈ x.cache ∨ s ∈ x.ripe → Fres ths s) (h2 : ∀ s ∈ fr, Fres ths s) (hd : ∀ s ∈ x.ripe, s ∉ fr) (P : EpI A k) (hk : k < 900000) (hE : E ≤ k)
    (sep : 0 ≤ x.slot → ∀ j z, j ≠ i → ths[j]? = some z → z.slot ≠ x.slot) (sepl : 0 ≤ x.slot → ∀ z ∈ ths, ∀ q ∈ z.limbo, q.slot ≠ x.slot) :
    SR Lo E k ths i x.seq (x.act A L pick a).1.1 (x.act A L pick a).1.2.1 (x.act A L pick a).1.2.2 (x.act A L pick a).2 := by
  have hA := S.mi.ok
  have i0 := ox.i0; have i1 := ox.i1; have n1 := ox.n1
  have sl1 : x.next ≠ some .tri → x.next ≠ some .ret → x.slot = -1 := fun h h' => by
    by_cases e : x.slot = -1
    · exact e
    · rcases w.sl e with q | q
      · exact absurd q h
      · exact absurd q h'
  cases a with
  | ent =>
    obtain ⟨n, e, ho⟩ := on.ent hn
    have ep := Ent.step_ep hA (ox.ent n e) ho P (by omega)
    have ls := Ent.step_lst (A := A) (ox.ent n e) ho
    have S' := S.ents N hx ox on hn (by omega) (sl1 (by rw [hn]; simp) (by rw [hn]; simp))
    have key : (x.ents A).2.1 = 0 ∧ (x.ents A).2.2 = (n.step A).2.2 ∧ (x.ents A).1.ts = x.ts ∧ (x.ents A).1.seq = x.seq := by
      unfold Th.ents
      rw [e]
      simp only
      split
      · exact ⟨rfl, rfl, rfl, rfl⟩
      · exact ⟨ep.1, rfl, rfl, rfl⟩
    obtain ⟨k1, k2, k3, k4⟩ := key
    exact ⟨k1, ⟨D, M, E, r, by omega, S'⟩, by show EpI (x.ents A).2.2 _; rw [k2]; exact ep.2, .inl ⟨by show (x.ents A).1.ts = -1; rw [k3]; exact xt, by show (x.ents A).2.2.lst 2 < 34; rw [k2]; exact ls⟩, by show (x.ents A).1.seq ≤ _; omega⟩
  | fre => exact S.fres hLo N hx ox on hn (by omega) (sl1 (by rw [hn]; simp) (by rw [hn]; simp)) xt F hc w hL hL2 m h1 h2 hd P
  | tak => exact S.taks hLo N hx ox on (.inl hn) (by omega) (sl1 (by rw [hn]; simp) (by rw [hn]; simp)) xt F hc w hL hL2 m (fun s h => h1 s (.inl h)) h2 P
  | tri =>
    have s2 := ox.s2 (.inl hn)
    obtain ⟨a, ha, hao⟩ := on.tri hn
    obtain ⟨D', M', g1, g2, g3, g4, g5⟩ := S.tris hLo N hx (fun a h => (ox.att a h).1) (fun b hb => by rw [ha] at hb; cases hb; exact hao) hw hn (by omega) (sep s2) P
    exact ⟨g1, ⟨D', M', E, r, by omega, g2⟩, g3, g4, g5⟩
  | ret =>
    have s2 := ox.s2 (.inr hn)
    obtain ⟨r', S'⟩ := S.rets N hx ox hn (by omega) (sepl s2)
    have is := P.is (by omega)
    have key : (x.rets A).2.1 = 0 ∧ (x.rets A).2.2 = A.ld 29 ∧ (x.rets A).1.ts = x.ts ∧ (x.rets A).1.seq = x.seq := by
      unfold Th.rets; rw [if_pos is]; exact ⟨rfl, rfl, rfl, rfl⟩
    obtain ⟨k1, k2, k3, k4⟩ := key
    exact ⟨k1, ⟨D, M, E, r', by omega, S'⟩, by show EpI (x.rets A).2.2 _; rw [k2]; exact P.keep (by omega) fun j j0 j1 => at_ld hA (by decide) (by decide) (by omega) (by omega), .inl ⟨by show (x.rets A).1.ts = -1; rw [k3]; exact xt, by show (x.rets A).2.2.lst 2 < 34; rw [k2, lst_ld (by decide)]; decide⟩, by show (x.rets A).1.seq ≤ _; omega⟩
  | lea =>
    refine ⟨rfl, ⟨D, M, E, r, by omega, S.leas N hx ox hn⟩, ?_, .inl ⟨xt, ?_⟩, by show x.seq ≤ x.seq + 1; omega⟩
    · obtain ⟨e, h1, h2, h3⟩ := P.e
      have at_ : ∀ j, 0 ≤ j → j < 634 → (A.put (30 + x.id) 0).at j = if 30 + x.id = j then 0 else A.at j := fun j j0 j1 => at_put hA (by omega) (by omega) j0 j1
      refine ⟨⟨e, by show (A.put (30 + x.id) 0).at 29 = _; rw [at_ 29 (by decide) (by decide), if_neg (by omega)]; exact h1, h2, by omega⟩, fun t t0 t1 => ?_⟩
      show (plainOf ((A.put (30 + x.id) 0).at (30 + t))).isSome = true
      rw [at_ _ (by omega) (by omega)]
      split
      · decide
      · exact P.t t t0 t1
    · show (A.put (30 + x.id) 0).lst 2 < 34
      rw [lst_put (by omega)]; omega
  | adv =>
    obtain ⟨d, e, ho⟩ := on.adv hn
    have ep := Adv.step_ep hA (ox.adv d e) ho P (by omega)
    have ls := Adv.step_lst (A := A) (ox.adv d e) ho
    obtain ⟨E', hE', S'⟩ := S.advs (pick := pick) N hx ox on hn (by omega) P (sl1 (by rw [hn]; simp) (by rw [hn]; simp))
    have key : (x.advs A pick).2.1 = 0 ∧ (x.advs A pick).2.2 = (d.step A).2.2 ∧ (x.advs A pick).1.ts = x.ts ∧ (x.advs A pick).1.seq = x.seq := by
      unfold Th.advs
      rw [e]
      simp only
      split
      · obtain ⟨_, b, _, _, _, _, _, c⟩ := answer_keep (x := { x with adv := some (d.step A).1 }) (pick := pick)
        exact ⟨rfl, rfl, c, b⟩
      · exact ⟨ep.1, rfl, rfl, rfl⟩
    obtain ⟨k1, k2, k3, k4⟩ := key
    exact ⟨k1, ⟨D, M, E', r, hE', S'⟩, by show EpI (x.advs A pick).2.2 _; rw [k2]; exact ep.2, .inl ⟨by show (x.advs A pick).1.ts = -1; rw [k3]; exact xt, by show (x.advs A pick).2.2.lst 2 < 34; rw [k2]; exact ls⟩, by show (x.advs A pick).1.seq ≤ _; omega⟩
theorem act_dead {a : Act} : (x.act A L pick a).1.1.dead = x.dead := by
  have tris : ∀ y : Th, (y.tris A).1.dead = y.dead := fun y => by unfold Th.tris; split <;> rfl
  have taks : ∀ y : Th, (y.taks A L).1.1.dead = y.dead := fun y => by
    unfold Th.taks
    split
    · rw [tris]; rfl
    · simp only
      split
      · rfl
      · split <;> rfl
  cases a with
  | ent => show (x.ents A).1.dead = _; unfold Th.ents; split <;> (try rfl); split <;> rfl
  | fre =>
    have hc : x.cached.dead = x.dead := by unfold Th.cached; split <;> rfl
    show (x.fres A L).1.1.dead = _
    unfold Th.fres
    simp only
    split
    · rw [taks, hc]
    · split <;> exact hc
  | tak => exact taks x
  | tri => exact tris x
  | ret => show (x.rets A).1.dead = _; unfold Th.rets; split <;> rfl
  | lea => rfl
  | adv =>
    show (x.advs A pick).1.dead = _
    unfold Th.advs
    split
    · rfl
    · split
      · unfold Th.answer; split <;> rfl
      · rfl
theorem Th.step_s (S : Sg D Lo M E r A L ths) (hLo : ∀ s, Lo s) (N : Nb ths) (hx : ths[i]? = some x) (ox : x.ok) (on : x.on) (hw : x.wrs) (hq : x.seq < 900000) (dd : x.dead = false)
    (F : Fre A fr cc) (hc : cc < 90000) (w : x.own A cc) (hL : L.length = 12) (hL2 : ∀ v ∈ L, 0 ≤ v) (hL3 : ∀ v ∈ L, v < 65535) (m : x.evs ≠ [] → Mays x L) (h1 : ∀ s, s ∈ x.cache ∨ s ∈ x.ripe → Fres ths s) (h2 : ∀ s ∈ fr, Fres ths s) (hd : ∀ s ∈ x.ripe, s ∉ fr) (P : EpI A k) (hk : k < 900000) (hE : E ≤ k)
    (sep : 0 ≤ x.slot → ∀ j z, j ≠ i → ths[j]? = some z → z.slot ≠ x.slot) (sepl : 0 ≤ x.slot → ∀ z ∈ ths, ∀ q ∈ z.limbo, q.slot ≠ x.slot) :
    (x.step A L pick).2.2.1 = 0 ∧ (x.step A L pick).1.dead = false ∧ (∃ D M E' r, E' ≤ E + 1 ∧ Sg D Lo M E' r (x.step A L pick).2.2.2.1 (x.step A L pick).2.2.2.2 (ths.set i (x.step A L pick).1)) ∧ EpI (x.step A L pick).2.2.2.1 (k + 1) ∧ (x.step A L pick).1.seq ≤ x.seq + 1 ∧
      ((x.step A L pick).2.1 = true → Tsl (lf (x.step A L pick).2.2.2.2) (x.step A L pick).2.2.2.1 (x.step A L pick).1.ts (x.step A L pick).1.tg) := by
  have hi := (List.getElem?_eq_some_iff.1 hx).1
  have o1 : x.z.ok := { ox with }
  have on1 : x.z.on := ⟨on.ent, on.adv, on.tri, on.pop, on.push⟩
  have w1 : x.z.own A cc := ⟨w.ri, w.sl, w.po, w.push, w.pop⟩
  -- any thread in its stead that has the same slots
  have act : ∀ {y : Th} {a : Act}, Sg D Lo M E r A L (ths.set i y) → y.slot = x.slot → y.att = x.att → y.limbo = x.limbo → y.cache = x.cache → y.ripe = x.ripe → y.seq = x.seq → y.ts = -1 → y.dead = false → y.ok → y.on → y.wrs → y.own A cc → y.next = some a → Mays y L →
      (Th.ended (y.act A L pick a)).2.2.1 = 0 ∧ (Th.ended (y.act A L pick a)).1.dead = false ∧ (∃ D M E' r, E' ≤ E + 1 ∧ Sg D Lo M E' r (Th.ended (y.act A L pick a)).2.2.2.1 (Th.ended (y.act A L pick a)).2.2.2.2 (ths.set i (Th.ended (y.act A L pick a)).1)) ∧ EpI (Th.ended (y.act A L pick a)).2.2.2.1 (k + 1) ∧ (Th.ended (y.act A L pick a)).1.seq ≤ x.seq + 1 ∧
      ((Th.ended (y.act A L pick a)).2.1 = true → Tsl (lf (Th.ended (y.act A L pick a)).2.2.2.2) (Th.ended (y.act A L pick a)).2.2.2.1 (Th.ended (y.act A L pick a)).1.ts (Th.ended (y.act A L pick a)).1.tg) := by
    intro y a S' e1 e2 e3 e4 e5 e6 e7 e8 oy ony wy owy ny my
    have hy : (ths.set i y)[i]? = some y := List.getElem?_set_self hi
    have R := Th.act_s (pick := pick) S' hLo (N.set hx e1 e2) hy oy ony wy ny (by rw [e6]; exact hq) e7 F hc owy hL hL2 my (fun s h => (h1 s (by rw [← e4, ← e5]; exact h)).set hx e1 e3) (fun s h => (h2 s h).set hx e1 e3) (by rw [e5]; exact hd) P hk hE
      (fun s0 j z hj hz => by rw [List.getElem?_set_ne (Ne.symm hj)] at hz; rw [e1]; exact sep (by omega) j z hj hz)
      (fun s0 z hz q hq => by
        rw [e1]
        rcases mem_set hz hi with rfl | ⟨j, _, hz⟩
        · rw [e3] at hq; exact sepl (by omega) x (List.mem_of_getElem? hx) q hq
        · exact sepl (by omega) z (List.mem_of_getElem? hz) q hq)
    have dk := act_dead (x := y) (A := A) (L := L) (pick := pick) (a := a)
    generalize y.act A L pick a = p at R dk
    obtain ⟨r1, ⟨D', M', E', r', r2, r3⟩, r4, r5, r6⟩ := R
    have ee : Th.ended p = (p.1.1, true, 0, p.1.2.2, p.2) := by unfold Th.ended; rw [if_pos r1]
    rw [ee]
    rw [List.set_set] at r3
    exact ⟨rfl, by rw [dk]; exact e8, ⟨D', M', E', r', r2.2, r3⟩, r4, by rw [← e6]; exact r6, fun _ => r5⟩
  cases hn : x.next with
  | some a =>
    rw [Th.step_some dd hn]
    have he : x.evs ≠ [] := ox.live (.inl (by rw [hn]; simp))
    exact act (y := x.z) (S.still N hx rfl rfl rfl ⟨rfl, rfl⟩ rfl rfl rfl rfl) rfl rfl rfl rfl rfl rfl rfl dd o1 on1 hw w1 hn (m he)
  | none =>
    rw [Th.step_none dd hn]
    have b := Th.begin_ok (pick := pick) o1 hn
    obtain ⟨b1, b2, b3, b4⟩ := w1.rest (by rw [show x.z.next = none from hn]; simp)
    have hm := (S.here hx).1
    have key : ((x.z.begin pick).2 = false ∧ (x.z.begin pick).1.dead = false ∧ (x.z.begin pick).1.seq = x.seq ∧ Sg D Lo M E r A L (ths.set i (x.z.begin pick).1)) ∨
        ((x.z.begin pick).2 = true ∧ (x.z.begin pick).1.evs ≠ [] ∧ (x.z.begin pick).1.on ∧ (x.z.begin pick).1.own A cc ∧ (x.z.begin pick).1.wrs ∧ Sg D Lo M E r A L (ths.set i (x.z.begin pick).1) ∧
          (x.z.begin pick).1.slot = x.slot ∧ (x.z.begin pick).1.att = x.att ∧ (x.z.begin pick).1.limbo = x.limbo ∧ (x.z.begin pick).1.cache = x.cache ∧ (x.z.begin pick).1.ripe = x.ripe ∧ (x.z.begin pick).1.seq = x.seq ∧ (x.z.begin pick).1.ts = -1 ∧ (x.z.begin pick).1.dead = false) := by
      unfold Th.begin
      split
      · exact .inl ⟨rfl, dd, rfl, S.still N hx rfl rfl rfl ⟨rfl, rfl⟩ rfl rfl rfl rfl⟩
      · split
        · refine .inl ⟨rfl, dd, rfl, ?_⟩
          exact S.still N hx rfl rfl rfl ⟨rfl, rfl⟩ rfl rfl rfl rfl
        · refine .inr ⟨rfl, ?_, ⟨(fun _ => ⟨_, rfl, rfl⟩), (fun h => by cases h), (fun h => by cases h), on1.pop, on1.push⟩, .idle b1 b2 b3 b4, hw, ?_, rfl, rfl, rfl, rfl, rfl, rfl, rfl, dd⟩
          · simp only
            split
            · simp
            · rename_i ht
              exact ox.live (.inr ht)
          · exact S.begin N hx hn rfl rfl ⟨rfl, rfl, rfl, rfl, rfl⟩
    rcases key with ⟨k1, k2, k3, k4⟩ | ⟨k1, k2, k3, k4, k5, k6, e1, e2, e3, e4, e5, e6, e7, e8⟩
    · rw [if_neg (by rw [k1]; decide)]
      exact ⟨rfl, k2, ⟨D, M, E, r, by omega, k4⟩, P.keep (by omega) fun _ _ _ => rfl, by show (x.z.begin pick).1.seq ≤ _; omega, fun h => by cases h⟩
    · rw [if_pos k1]
      have my : Mays (x.z.begin pick).1 L := b.1.mays k2 (fun v hv => ⟨hL2 v hv, hL3 v hv⟩)
      exact act (y := (x.z.begin pick).1) k6 e1 e2 e3 e4 e5 e6 e7 e8 b.1 k3 k5 k4 (b.2 k1) my
end
end Go.Proofs.YtghcnhimggbobaaGreat
