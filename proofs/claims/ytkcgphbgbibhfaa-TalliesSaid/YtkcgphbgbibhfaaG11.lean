/- Regions whose order is drawn: what allocations, loads and writes do beside one another. Nothing here is a statement on the program. -/
import Derived.Test.YtkcgphbgbibhfaaG10
namespace Go.Proofs.Ytkcgphbgbibhfaa.GW
open Go
set_option linter.unusedVariables false
set_option linter.unusedSimpArgs false

section
variable {P : Program} {op : Op} {e : GEnv} {h : GH} {K : Value → GH → Prop}

theorem gop_alloc (hc : cls op = .alloc) (g : gop P op e h K) :
    ∃ (val : Nat → Value) (T : TypeId) (pre : List Value), ∀ h' (K' : Value → GH → Prop), gop P op e h' K' ↔ ∀ b, h' b = none → K' (val b) (upd h' b (.row T pre pre.length true)) := by
  cases op <;> simp only [cls, reduceCtorEq] at hc
  case call c => split at hc <;> cases hc
  all_goals simp only [gop] at g ⊢
  case alloc t =>
    split at g
    · exact ⟨fun b => .pointer (some ⟨b, 0, none⟩), _, _, fun h' K' => Iff.rfl⟩
    · exact g.elim
  case box t x =>
    split at g
    · exact ⟨fun b => .pointer (some ⟨b, 0, none⟩), _, _, fun h' K' => Iff.rfl⟩
    · exact g.elim
  case buildSlice t len parts =>
    split at g
    · split at g
      · split at g
        · obtain ⟨cs, hcs, g⟩ := bnd_iff.1 g
          exact ⟨fun b => .slice (some ⟨b, 0, none⟩) len len, _, cs, fun h' K' => by simp only [bsV, hcs, bnd_some]; exact Iff.rfl⟩
        · exact g.elim
      · exact g.elim
    · exact g.elim
  case makeSlice t l c =>
    split at g
    · split at g
      · split at g
        · unfold mkV at g ⊢
          split at g
          · obtain ⟨g1, g2, g3, g4, g⟩ := g
            exact ⟨fun b => .slice (some ⟨b, 0, none⟩) _ _, _, _, fun h' K' => ⟨fun q => q.2.2.2.2, fun q => ⟨g1, g2, g3, g4, q⟩⟩⟩
          · exact g.elim
        · exact g.elim
      · exact g.elim
    · exact g.elim

/-- A load of what is known of more. -/
theorem ldV_upd {n : Nat} {gg : Bool} {p v : Value} {b : Nat} {g : GObj} (hb : h b = none) (hl : ldV n gg p h = some v) : ldV n gg p (upd h b g) = some v := by
  unfold ldV at hl ⊢
  split at hl
  · rename_i k off
    split at hl
    · rename_i T pre sz f he
      have : k ≠ b := ne_of_fresh hb he
      simp only [upd_ne this, he]; exact hl
    · cases hl
  · cases hl

theorem gop_load {t : TypeId} {x : Operand} (g : gop P (.load t x) e h K) : ∃ p n gg v, evO e x = some p ∧ szK P t = some (n, gg) ∧ ldV n gg p h = some v ∧ K v h := by
  simp only [gop] at g
  split at g
  · rename_i p n gg hp hs; obtain ⟨v, hv, g⟩ := bnd_iff.1 g; exact ⟨p, n, gg, v, hp, hs, hv, g⟩
  · exact g.elim

theorem gop_load_mk {t : TypeId} {x : Operand} {p v : Value} {n : Nat} {gg : Bool} (hp : evO e x = some p) (hs : szK P t = some (n, gg)) (hv : ldV n gg p h = some v) (k : K v h) : gop P (.load t x) e h K := by
  simp only [gop, hp, hs, hv, bnd_some]; exact k

/-- A world for every heap that is known of one, with one block more. -/
theorem world_upd {w : World} (s : Sub h w) {b : Nat} (hb : h b = none) (T : TypeId) (pre : List Value) (sz : Nat) (hsz : pre.length ≤ sz) : ∃ w', Sub (upd h b (.row T pre sz true)) w' := by
  let c : Array Value := (pre ++ List.replicate (sz - pre.length) undef).toArray
  have hc : c.size = sz := by simp [c]; omega
  refine ⟨{ w with heap := (w.heap ++ Array.replicate (b + 1 - w.heap.size) (Obj.cells #[] 0)).setIfInBounds b (Obj.cells c T) }, ?_⟩
  intro k g hk
  by_cases hkb : k = b
  · subst hkb
    simp only [upd_same, Option.some.injEq] at hk
    subst hk
    refine ⟨.cells c T (0, 0), ?_, rfl, hc, ⟨_, rfl⟩, fun _ => rfl⟩
    simp only [Array.getElem?_setIfInBounds_self]
    rw [if_pos (by simp; omega)]
  · rw [upd_ne hkb] at hk
    obtain ⟨o, ho, hr⟩ := s k g hk
    refine ⟨o, ?_, hr⟩
    rw [Array.getElem?_setIfInBounds_ne (by omega)]
    rw [Array.getElem?_append_left (s.lt hk)]
    exact ho

theorem T.world {f : FuncId} {args : List Value} (t : T P f args h K) : T P f args h fun v h' => K v h' ∧ ∃ w, Sub h' w :=
  ⟨t.has, fun w s => (t.calls w s).mono fun e w' ⟨v, h', he, hs, hst, hk⟩ => ⟨v, h', he, hs, hst, hk, w', hs⟩⟩

/-- THE FRAME: a block that the call does not know of stays as it is. -/
theorem T.frame {f : FuncId} {args : List Value} (t : T P f args h K) {b : Nat} (hb : h b = none) (g : GObj) :
    T P f args (upd h b g) fun v h' => ∃ h0, h0 b = none ∧ h' = upd h0 b g ∧ K v h0 := by
  refine ⟨t.has, fun w s => ?_⟩
  have s0 : Sub h w := by
    intro k g' hk
    exact s k g' (by rw [upd_ne (ne_of_fresh hb hk)]; exact hk)
  have hlt : b < w.heap.size := s.lt (upd_same _ _ _)
  refine (t.calls w s0).mono fun e w' ⟨v, h', he, hs, hst, hk⟩ => ?_
  have hb' : h' b = none := by
    cases hh : h' b with
    | none => rfl
    | some g' =>
      obtain ⟨g0, e0, _⟩ := hst.dom b g' hh hlt
      rw [hb] at e0; cases e0
  refine ⟨v, upd h' b g, he, ?_, ?_, h', hb', rfl, hk⟩
  · intro k g' hk'
    by_cases hkb : k = b
    · subst hkb
      simp only [upd_same, Option.some.injEq] at hk'
      subst hk'
      obtain ⟨o, ho, hr⟩ := s k _ (upd_same _ _ _)
      exact ⟨o, by rw [hst.old k hlt (fun g' hg' => by rw [hb] at hg'; cases hg')]; exact ho, hr⟩
    · rw [upd_ne hkb] at hk'; exact hs k g' hk'
  · refine ⟨hst.os, hst.tape, hst.output, hst.size, fun k hk' hf => ?_, fun k g' hk' hlt' => ?_⟩
    · by_cases hkb : k = b
      · subst hkb; exact hst.old k hk' (fun g' hg' => by rw [hb] at hg'; cases hg')
      · exact hst.old k hk' (fun g' hg' => hf g' (by rw [upd_ne hkb]; exact hg'))
    · by_cases hkb : k = b
      · subst hkb
        simp only [upd_same, Option.some.injEq] at hk'
        subst hk'
        exact ⟨_, upd_same _ _ _, id⟩
      · rw [upd_ne hkb] at hk'
        obtain ⟨g0, e0, f0⟩ := hst.dom k g' hk' hlt'
        exact ⟨g0, by rw [upd_ne hkb]; exact e0, f0⟩

theorem stV_upd {n : Nat} {p v : Value} {h' : GH} {b : Nat} {g : GObj} (hb : h b = none) (hl : stV n p v h = some h') : h' b = none ∧ stV n p v (upd h b g) = some (upd h' b g) := by
  unfold stV at hl ⊢
  split at hl
  · rename_i k off
    split at hl
    · rename_i T pre sz he
      have hkb : k ≠ b := ne_of_fresh hb he
      split at hl
      · rename_i hc
        cases hl
        refine ⟨by rw [upd_ne (Ne.symm hkb)]; exact hb, ?_⟩
        simp only [upd_ne hkb, he, hc]
        rw [upd_comm _ _ _ (Ne.symm hkb)]
      · cases hl
    · cases hl
  · cases hl

theorem cellsAt_upd {size n : Nat} {v : Value} {cs : List Value} {b : Nat} {g : GObj} (hb : h b = none) (hl : cellsAt size n v h = some cs) : cellsAt size n v (upd h b g) = some cs := by
  unfold cellsAt at hl ⊢
  split at hl
  · exact hl
  · split at hl
    · exact hl
    · split at hl
      · cases hl
      · split at hl
        · rename_i he; simp only [upd_ne (ne_of_fresh hb he), he]; exact hl
        · cases hl
  · cases hl

theorem putV_upd {base : Option Addr} {p : Nat} {new : List Value} {h' : GH} {b : Nat} {g : GObj} (hb : h b = none) (hl : putV base p new h = some h') : h' b = none ∧ putV base p new (upd h b g) = some (upd h' b g) := by
  unfold putV at hl ⊢
  split at hl
  · cases hl; exact ⟨hb, rfl⟩
  · split at hl
    · split at hl
      · rename_i he
        have hkb := ne_of_fresh hb he
        split at hl
        · rename_i hc
          cases hl
          refine ⟨by rw [upd_ne (Ne.symm hkb)]; exact hb, ?_⟩
          simp only [upd_ne hkb, he, hc]
          rw [upd_comm _ _ _ (Ne.symm hkb)]
        · cases hl
      · cases hl
    · cases hl

theorem apV_frame {T : TypeId} {size bytes : Nat} {s x : Value} (a : apV T size bytes s x h K) {b : Nat} (hb : h b = none) (g : GObj) :
    apV T size bytes s x (upd h b g) fun v h' => ∃ h0, h0 b = none ∧ h' = upd h0 b g ∧ K v h0 := by
  unfold apV at a ⊢
  split at a
  · obtain ⟨new, hn, a⟩ := bnd_iff.1 a
    refine bnd_iff.2 ⟨new, cellsAt_upd hb hn, ?_⟩
    split at a
    · rename_i hle
      obtain ⟨h', hp, a⟩ := bnd_iff.1 a
      rw [if_pos hle]
      obtain ⟨h1, h2⟩ := putV_upd (g := g) hb hp
      exact bnd_iff.2 ⟨_, h2, h', h1, rfl, a⟩
    · rename_i hle
      obtain ⟨old, ho, a1, a2, a3, a4, a⟩ := bnd_iff.1 a
      rw [if_neg hle]
      refine bnd_iff.2 ⟨old, cellsAt_upd hb ho, a1, a2, a3, a4, fun b' nc hb' hnc => ?_⟩
      have hne : b' ≠ b := by rintro rfl; simp at hb'
      rw [upd_ne hne] at hb'
      refine ⟨_, ?_, upd_comm _ _ _ (Ne.symm hne), a b' nc hb' hnc⟩
      rw [upd_ne (Ne.symm hne)]; exact hb
  · exact a.elim

theorem apV_mono {T : TypeId} {size bytes : Nat} {s x : Value} {K' : Value → GH → Prop} (a : apV T size bytes s x h K) (k : ∀ v h', K v h' → K' v h') : apV T size bytes s x h K' := by
  unfold apV at a ⊢
  split at a
  · obtain ⟨new, hn, a⟩ := bnd_iff.1 a
    refine bnd_iff.2 ⟨new, hn, ?_⟩
    split at a
    · rename_i hle
      obtain ⟨h', hp, a⟩ := bnd_iff.1 a
      rw [if_pos hle]; exact bnd_iff.2 ⟨_, hp, k _ _ a⟩
    · rename_i hle
      obtain ⟨old, ho, a1, a2, a3, a4, a⟩ := bnd_iff.1 a
      rw [if_neg hle]
      exact bnd_iff.2 ⟨old, ho, a1, a2, a3, a4, fun b' nc hb' hnc => k _ _ (a b' nc hb' hnc)⟩
  · exact a.elim

theorem apV_world {T : TypeId} {size bytes : Nat} {s x : Value} {w : World} (hs : Sub h w) (a : apV T size bytes s x h K) : apV T size bytes s x h fun v h' => K v h' ∧ ∃ w, Sub h' w := by
  unfold apV at a ⊢
  split at a
  · obtain ⟨new, hn, a⟩ := bnd_iff.1 a
    refine bnd_iff.2 ⟨new, hn, ?_⟩
    split at a
    · rename_i hle
      obtain ⟨h', hp, a⟩ := bnd_iff.1 a
      obtain ⟨w', _, s', _⟩ := run_put (P := { (default : Program) with }) hs hp
      rw [if_pos hle]; exact bnd_iff.2 ⟨_, hp, a, w', s'⟩
    · rename_i hle
      obtain ⟨old, ho, a1, a2, a3, a4, a⟩ := bnd_iff.1 a
      rw [if_neg hle]
      refine bnd_iff.2 ⟨old, ho, a1, a2, a3, a4, fun b' nc hb' hnc => ⟨a b' nc hb' hnc, world_upd hs hb' _ _ _ ?_⟩⟩
      rw [List.length_append, a3, a4, ← Nat.add_mul]; exact Nat.mul_le_mul_right _ hnc
  · exact a.elim

theorem gop_write (hc : cls op = .write) (g : gop P op e h K) :
    (∀ b (gb : GObj), h b = none → gop P op e (upd h b gb) fun v h' => ∃ h0, h0 b = none ∧ h' = upd h0 b gb ∧ K v h0) ∧
    (∀ w, Sub h w → gop P op e h fun v h' => K v h' ∧ ∃ w, Sub h' w) ∧
    (∀ K' : Value → GH → Prop, (∀ v h', K v h' → K' v h') → gop P op e h K') := by
  cases op <;> simp only [cls, reduceCtorEq] at hc
  case store t x y =>
    simp only [gop] at g ⊢
    split at g
    · rename_i p v n gg hp hv hs
      obtain ⟨h', hh, g⟩ := bnd_iff.1 g
      refine ⟨fun b gb hb => ?_, fun w s => ?_, fun K' k => bnd_iff.2 ⟨h', hh, k _ _ g⟩⟩
      · obtain ⟨h1, h2⟩ := stV_upd (g := gb) hb hh
        exact bnd_iff.2 ⟨_, h2, h', h1, rfl, g⟩
      · obtain ⟨w', _, s', _⟩ := run_storeAt (P := P) hs s hh
        exact bnd_iff.2 ⟨h', hh, g, w', s'⟩
    · exact g.elim
  case call c =>
    simp only [gop] at g ⊢
    split at g
    · split at g
      · unfold callV at g ⊢
        split at g
        · exact ⟨fun b gb hb => g.frame hb gb, fun w s => g.world, fun K' k => g.mono k⟩
        · exact g.elim
      · exact g.elim
    · split at g
      · unfold ivV at g ⊢
        split at g
        · obtain ⟨f, r, hm, t⟩ := g
          exact ⟨fun b gb hb => ⟨f, r, hm, t.frame hb gb⟩, fun w s => ⟨f, r, hm, t.world⟩, fun K' k => ⟨f, r, hm, t.mono k⟩⟩
        · exact g.elim
      · exact g.elim
    · rename_i b hcc
      rw [hcc] at hc
      split at g
      · unfold gbi at g ⊢
        split at g
        · cases hc
        · split at g
          · split at g
            · split at g
              · split at g
                · exact ⟨fun b gb hb => apV_frame g hb gb, fun w s => apV_world s g, fun K' k => apV_mono g k⟩
                · exact g.elim
              · exact g.elim
            · exact g.elim
          · exact g.elim
        · cases hc
        · cases hc
        · exact g.elim
      · exact g.elim

theorem gop_mono {K' : Value → GH → Prop} (g : gop P op e h K) (k : ∀ v h', K v h' → K' v h') : gop P op e h K' := by
  cases hc : cls op with
  | pure => obtain ⟨v, f⟩ := gop_pure hc g; exact (f _ _).2 (k _ _ ((f _ _).1 g))
  | load =>
    cases op <;> simp only [cls, reduceCtorEq] at hc
    · obtain ⟨p, n, gg, v, h1, h2, h3, h4⟩ := gop_load g; exact gop_load_mk h1 h2 h3 (k _ _ h4)
    · split at hc <;> cases hc
  | alloc => obtain ⟨val, T, pre, f⟩ := gop_alloc hc g; exact (f _ _).2 fun b hb => k _ _ ((f _ _).1 g b hb)
  | write => exact (gop_write hc g).2.2 _ k
  | none => cases op <;> simp only [cls, reduceCtorEq] at hc <;> first | exact g.elim | (split at hc <;> cases hc)

theorem gop_world {w : World} (s : Sub h w) (g : gop P op e h K) : gop P op e h fun v h' => K v h' ∧ ∃ w, Sub h' w := by
  cases hc : cls op with
  | pure => obtain ⟨v, f⟩ := gop_pure hc g; exact (f _ _).2 ⟨(f _ _).1 g, w, s⟩
  | load =>
    cases op <;> simp only [cls, reduceCtorEq] at hc
    · obtain ⟨p, n, gg, v, h1, h2, h3, h4⟩ := gop_load g; exact gop_load_mk h1 h2 h3 ⟨h4, w, s⟩
    · split at hc <;> cases hc
  | alloc => obtain ⟨val, T, pre, f⟩ := gop_alloc hc g; exact (f _ _).2 fun b hb => ⟨(f _ _).1 g b hb, world_upd s hb _ _ _ (Nat.le_refl _)⟩
  | write => exact (gop_write hc g).2.1 w s
  | none => cases op <;> simp only [cls, reduceCtorEq] at hc <;> first | exact g.elim | (split at hc <;> cases hc)

/-- What holds whatever comes out of an operation holds. -/
theorem gop_const {R : Prop} {w : World} (s : Sub h w) (g : gop P op e h fun _ _ => R) : R := by
  cases hc : cls op with
  | pure => obtain ⟨v, f⟩ := gop_pure hc g; exact (f _ _).1 g
  | load =>
    cases op <;> simp only [cls, reduceCtorEq] at hc
    · obtain ⟨p, n, gg, v, h1, h2, h3, h4⟩ := gop_load g; exact h4
    · split at hc <;> cases hc
  | alloc => obtain ⟨val, T, pre, f⟩ := gop_alloc hc g; exact (f _ _).1 g _ (s.fresh (Nat.le_refl _))
  | write =>
    cases op <;> simp only [cls, reduceCtorEq] at hc
    case store t x y =>
      simp only [gop] at g
      split at g
      · obtain ⟨h', _, g⟩ := bnd_iff.1 g; exact g
      · exact g.elim
    case call c =>
      have tc : ∀ {f args}, T P f args h (fun _ _ => R) → R := fun t => by
        obtain ⟨e, w', fr, ⟨v, h', _, _, _, r⟩, _⟩ := t.calls w s []
        exact r
      simp only [gop] at g
      split at g
      · split at g
        · unfold callV at g
          split at g
          · exact tc g
          · exact g.elim
        · exact g.elim
      · split at g
        · unfold ivV at g
          split at g
          · obtain ⟨f, r, hm, t⟩ := g; exact tc t
          · exact g.elim
        · exact g.elim
      · rename_i b hcc
        rw [hcc] at hc
        split at g
        · unfold gbi at g
          split at g
          · cases hc
          · split at g
            · split at g
              · split at g
                · split at g
                  · unfold apV at g
                    split at g
                    · obtain ⟨new, _, g⟩ := bnd_iff.1 g
                      split at g
                      · obtain ⟨h', _, g⟩ := bnd_iff.1 g; exact g
                      · obtain ⟨old, _, _, _, _, _, g⟩ := bnd_iff.1 g
                        exact g _ _ (s.fresh (Nat.le_refl _)) (Nat.le_refl _)
                    · exact g.elim
                  · exact g.elim
                · exact g.elim
              · exact g.elim
            · exact g.elim
          · cases hc
          · cases hc
          · exact g.elim
        · exact g.elim
  | none => cases op <;> simp only [cls, reduceCtorEq] at hc <;> first | exact g.elim | (split at hc <;> cases hc)

/-! ### which slots an operation looks at -/
def usesO : Operand → List Nat
  | .tmp t => [t]
  | _ => []

def uses (op : Op) : List Nat := op.operands.toList.flatMap usesO

theorem evO_congr {e e' : GEnv} {x : Operand} (hx : ∀ t ∈ usesO x, e t = e' t) : evO e x = evO e' x := by
  cases x <;> simp only [evO]
  rw [hx _ (by simp [usesO])]

theorem evL_congr {e e' : GEnv} : ∀ {xs : List Operand}, (∀ t ∈ xs.flatMap usesO, e t = e' t) → evL e xs = evL e' xs := by
  intro xs
  induction xs with
  | nil => intro _; rfl
  | cons x xs ih =>
    intro hx
    simp only [List.flatMap_cons, List.mem_append] at hx
    simp only [evL]
    rw [evO_congr (fun t ht => hx t (.inl ht)), ih (fun t ht => hx t (.inr ht))]

theorem evM_congr {e e' : GEnv} {x : Option Operand} (hx : ∀ t ∈ x.toArray.toList.flatMap usesO, e t = e' t) : evM e x = evM e' x := by
  cases x with
  | none => rfl
  | some x => simp only [evM]; rw [evO_congr (e' := e')]; simpa using hx

theorem partsK_congr {e e' : GEnv} (place : Nat → Option (Nat × Nat)) : ∀ {ps : List (Nat × Operand)}, (∀ t ∈ (ps.map (·.2)).flatMap usesO, e t = e' t) → partsK place e ps = partsK place e' ps := by
  intro ps
  induction ps with
  | nil => intro _; rfl
  | cons q ps ih =>
    intro hx
    obtain ⟨i, o⟩ := q
    simp only [List.map_cons, List.flatMap_cons, List.mem_append] at hx
    simp only [partsK]
    rw [evO_congr (fun t ht => hx t (.inl ht)), ih (fun t ht => hx t (.inr ht))]

theorem gop_congr {e e' : GEnv} (hu : ∀ t ∈ uses op, e t = e' t) : gop P op e h K = gop P op e' h K := by
  cases op <;> simp only [uses, Op.operands] at hu
  case call c =>
    simp only [gop]
    rw [evL_congr (xs := c.args.toList) (e' := e') (fun t ht => hu t (by simp only [Call.operands, Array.toList_append, List.flatMap_append, List.mem_append]; exact .inr ht))]
    split
    · rename_i f hcc
      rw [evO_congr (x := f) (e' := e') (fun t ht => hu t (by simp only [Call.operands, hcc, Array.toList_append, List.flatMap_append, List.mem_append]; left; simpa using ht))]
    · rename_i f name hcc
      rw [evO_congr (x := f) (e' := e') (fun t ht => hu t (by simp only [Call.operands, hcc, Array.toList_append, List.flatMap_append, List.mem_append]; left; simpa using ht))]
    · rfl
  case slice t x lo hi mx =>
    cases mx with
    | some m => rfl
    | none =>
      have h1 := evO_congr (x := x) (e := e) (e' := e') (fun t ht => hu t (by simp; left; exact ht))
      have h2 := evM_congr (x := lo) (e := e) (e' := e') (fun t ht => hu t (by simp at ht ⊢; right; left; exact ht))
      have h3 := evM_congr (x := hi) (e := e) (e' := e') (fun t ht => hu t (by simp at ht ⊢; right; right; exact ht))
      simp only [gop, h1, h2, h3]
  case build t ps =>
    have : ∀ place, partsK place e ps.toList = partsK place e' ps.toList := fun place => partsK_congr place (by simpa using hu)
    simp only [gop, this]
  case buildSlice t n ps =>
    have : ∀ place, partsK place e ps.toList = partsK place e' ps.toList := fun place => partsK_congr place (by simpa using hu)
    simp only [gop, this]
  case makeFunc fn f c =>
    have h1 := evL_congr (xs := f.toList) (e := e) (e' := e') (fun t ht => hu t (by simp at ht ⊢; left; exact ht))
    have h2 := evL_congr (xs := c.toList) (e := e) (e' := e') (fun t ht => hu t (by simp at ht ⊢; right; exact ht))
    simp only [gop, h1, h2]
  case pick c x y =>
    have h1 := evO_congr (x := c) (e := e) (e' := e') (fun t ht => hu t (by simp; left; exact ht))
    have h2 := evO_congr (x := x) (e := e) (e' := e') (fun t ht => hu t (by simp; right; left; exact ht))
    have h3 := evO_congr (x := y) (e := e) (e' := e') (fun t ht => hu t (by simp; right; right; exact ht))
    simp only [gop, h1, h2, h3]
  all_goals first
    | rfl
    | (rename_i x; have h1 := evO_congr (x := x) (e := e) (e' := e') (fun t ht => hu t (by simpa using ht)); simp only [gop, h1]; done)
    | (rename_i x _; have h1 := evO_congr (x := x) (e := e) (e' := e') (fun t ht => hu t (by simpa using ht)); simp only [gop, h1]; done)
    | (rename_i x _ _ _; have h1 := evO_congr (x := x) (e := e) (e' := e') (fun t ht => hu t (by simpa using ht)); simp only [gop, h1]; done)
    | (rename_i x _ _; have h1 := evO_congr (x := x) (e := e) (e' := e') (fun t ht => hu t (by simpa using ht)); simp only [gop, h1]; done)
    | (rename_i x y; have h1 := evO_congr (x := x) (e := e) (e' := e') (fun t ht => hu t (by simp; left; exact ht)); have h2 := evO_congr (x := y) (e := e) (e' := e') (fun t ht => hu t (by simp; right; exact ht)); simp only [gop, h1, h2]; done)
    | (rename_i x y _; have h1 := evO_congr (x := x) (e := e) (e' := e') (fun t ht => hu t (by simp; left; exact ht)); have h2 := evO_congr (x := y) (e := e) (e' := e') (fun t ht => hu t (by simp; right; exact ht)); simp only [gop, h1, h2]; done)
    | (simp only [gop]; done)

end
end Go.Proofs.Ytkcgphbgbibhfaa.GW
