/- Several texts in one, each under its own remark or none; nothing here is a statement on the program. -/
import Derived.Test.YtbiappodepnbmaaKM
namespace Go.Proofs.Ytbiappodepnbmaa
open Go GW Go.Proofs
set_option linter.unusedVariables false
set_option linter.unusedSimpArgs false
def idx (D : Int → Option Dw) (s c : Int) : Int := match D s with
  | some d => ((d.ds.findIdx fun e => decide (e.c = c)) : Nat)
  | none => 0
/-- will put right what the cell holds of its descriptor -/
def RFc (D : Int → Option Dw) (w : Wh) (c : Int) : Prop := w.pc ≤ 10 ∨ w.pc = 14 ∨ w.i ≤ idx D w.s c
/-- the first entry that a frame may meet yet -/
def idxF (w : Wh) : Int := if w.pc ≤ 2 then 0 else w.i
def cost (K : Int) (A : Ar) (w : Wh) : Int :=
  match w.pc with
  | 1 => if A.at (baseOf w.s) = stateW w.g 0 then 8 * K + 5 else 3 * K + 2
  | 2 => 8 * K + 4
  | 3 => 3 * K + 3 + 5 * (w.k - w.i)
  | 4 => 3 * K + 2 + 5 * (w.k - w.i)
  | 5 => 3 * K + 1 + 5 * (w.k - w.i)
  | 6 => 3 * K + 5 * (w.k - w.i)
  | 7 => 3 * K - 1 + 5 * (w.k - w.i)
  | 8 => 3 * K + 3
  | 9 => 3 * K + 3
  | 10 => 3 * K + 1
  | 11 => 3 * (w.k - w.i)
  | 12 => 3 * (w.k - w.i) - 1
  | 13 => 3 * (w.k - w.i) - 2
  | 14 => if A.at w.cell = w.x then 3 * K + 5 * (w.k - w.i) else 11 * K + 8 + 5 * (w.k - w.i)
  | _ => 0
/-- what a step does to the cells, a helper's eye on them -/
def Cls (D : Int → Option Dw) (t : Int) (A B : Ar) (w w' : Wh) (ov : Bool) : Prop := ∀ c, 0 ≤ c → c < 16 →
  (B.at c = A.at c ∧ (A.at c = mw w.s w.g → RFc D w c → ov = false ∧ RFc D w' c)) ∨
  (∃ v, read (B.at c) = some (.val v)) ∨ (∃ s g e q, read (B.at c) = some (.entry s g e t q)) ∨
  (B.at c = mw w.s w.g ∧ ov = false ∧ RFc D w' c)
inductive Way (D : Int → Option Dw) (K t : Int) (A : Ar) (w w' : Wh) (o : Out) : Prop where
  | on (h1 : o.atop = none) (h2 : o.over = false) (h3 : cost K o.a w' < cost K A w) (h4 : w'.pc = 14 → o.a.at w'.cell = w'.x) (h5 : idxF w ≤ idxF w' ∨ o.a.at (baseOf w.s) ≠ stateW w.g 0)
  | pop (h1 : o.atop = none) (h2 : o.over = true) (h3 : 0 < cost K A w)
  | push {s : Int} {d : Dw} (h1 : D s = some d) (h2 : o.atop = some (.mcas s d.g)) (h3 : w.pc = 14) (h4 : w'.pc = 5) (h5 : w'.k = w.k ∧ w'.i = w.i) (h6 : A.at (baseOf w.s) = stateW w.g 0) (h7 : s ≠ w.s) (h8 : w.x = mw s d.g) (h9 : ∀ j, 0 ≤ j → j < 634 → o.a.at j = A.at j) (h10 : 0 ≤ w.cell ∧ w.cell < 16) (h11 : o.over = false)
  | ent {s g e u q : Int} (h1 : read (A.at w.cell) = some (.entry s g e u q)) (h2 : o.atop = some (.entry s g e u q)) (h3 : w.pc = 5) (h4 : w'.pc = 5) (h5 : w'.k = w.k ∧ w'.i = w.i) (h6 : u ≠ t) (h9 : ∀ j, 0 ≤ j → j < 634 → o.a.at j = A.at j) (h10 : 0 ≤ w.cell ∧ w.cell < 16) (h11 : o.over = false)
structure Stp (D : Int → Option Dw) (K t : Int) (A : Ar) (w : Wh) (o : Out) : Prop where
  ex : ∃ w', o.fr = .who w' ∧ w'.s = w.s ∧ w'.g = w.g ∧ Way D K t A w w' o ∧ Cls D t A o.a w w' o.over
  st : ∀ s d, D s = some d → s ≠ w.s → o.a.at (baseOf s) = A.at (baseOf s)
section
variable {D : Int → Option Dw} {Lo : Int → Prop} {A B : Ar} {F : Int → Stk} {M : Int → Int} {t q q' s K : Int} {d : Dw} {n : Nat} {e : Sw} {w w' : Wh} {r : List Fr} {c : Int}
theorem idx_eq (I : MI D Lo A F M) (hd : D s = some d) (he : d.ds[n]? = some e) : idx D s e.c = n := by
  unfold idx
  rw [hd]
  simp only
  have hn := (List.getElem?_eq_some_iff.1 he).1
  have h1 : d.ds.findIdx (fun x => decide (x.c = e.c)) < d.ds.length := List.findIdx_lt_length_of_exists ⟨e, List.mem_of_getElem? he, by simp⟩
  have h2 := List.findIdx_getElem (w := h1)
  simp only [decide_eq_true_eq] at h2
  have := sw_inj (I.ds _ _ hd).2.1 (List.getElem?_eq_getElem h1) he h2
  rw [this]
theorem Stp.quiet (I : MI D Lo A F M) (h : ∀ j, 0 ≤ j → j < 634 → B.at j = A.at j) (es : w'.s = w.s) (eg : w'.g = w.g) (hc : cost K B w' < cost K A w) (h14 : w'.pc = 14 → B.at w'.cell = w'.x) (h5 : idxF w ≤ idxF w' ∨ B.at (baseOf w.s) ≠ stateW w.g 0)
    (hR : ∀ c, 0 ≤ c → c < 16 → RFc D w c → A.at c = mw w.s w.g → RFc D w' c) : Stp D K t A w ⟨.who w', none, false, true, B, q⟩ :=
  ⟨⟨w', rfl, es, eg, .on rfl rfl hc h14 h5, fun c c0 c1 => .inl ⟨h c c0 (by omega), fun h1 h2 => ⟨rfl, hR c c0 c1 h2 h1⟩⟩⟩, fun s d hd _ => by have := base_at (I.ds _ _ hd).1; exact h _ (by omega) this.2⟩
theorem idxF_same (h : ¬ w.pc ≤ 2) (hi : w'.i = w.i) (h' : 3 ≤ w'.pc) : idxF w ≤ idxF w' := by
  unfold idxF; rw [if_neg h, if_neg (by omega), hi]; exact Int.le_refl _
theorem RFc.le (h : w'.pc ≤ 10) : RFc D w' c := .inl h
theorem cost_same (h : ∀ j, 0 ≤ j → j < 634 → B.at j = A.at j) (hb : 0 ≤ baseOf w.s ∧ baseOf w.s < 634) (hc : 0 ≤ w.cell ∧ w.cell < 16) : cost K B w = cost K A w := by
  unfold cost
  rw [h _ hb.1 hb.2, h _ hc.1 (by omega)]
theorem stp_loads (I : MI D Lo A F M) (hK : ∀ s d, D s = some d → (d.ds.length : Int) ≤ K) (hS : F t = ⟨q, .who w :: r⟩) (hp : w.pc = 1 ∨ w.pc = 2 ∨ w.pc = 3 ∨ w.pc = 4 ∨ w.pc = 6 ∨ w.pc = 11 ∨ w.pc = 12) : Stp D K t A w (w.step t q A) := by
  obtain ⟨d, st, hd, hg, hst, o, ph, dok⟩ := I.on hS
  have hb := base_range o.life.s0 o.life.s1 (i := 0) (by decide) (by decide)
  rw [Int.add_zero] at hb
  have hb1 := base_range o.life.s0 o.life.s1 (i := 1) (by decide) (by decide)
  have hk := hK _ _ hd
  have hop := o.opn hg
  have hop' : A.at (baseOf w.s) = stateW w.g 0 ↔ st = 0 := by rw [← hop.1]; unfold Opn; rw [hg]
  rcases hp with hp | hp | hp | hp | hp | hp | hp
  · by_cases c : st = 0
    · have hA := hop'.2 c
      subst c
      rw [step_ask_open o hp]
      refine Stp.quiet I (ld_same I.ok (by omega) hb.2) rfl rfl ?_ (fun h => by cases h) (.inl (by unfold idxF; rw [if_pos (by rw [hp]; decide)]; exact Int.le_refl _)) fun c _ _ _ _ => .inl (Nat.le_of_ble_eq_true rfl)
      simp only [cost, hp, if_pos hA]; omega
    · have hA : ¬ A.at (baseOf w.s) = stateW w.g 0 := fun h => c (hop'.1 h)
      rw [step_ask_shut o hp (by omega)]
      refine Stp.quiet I (ld_same I.ok (by omega) hb.2) rfl rfl ?_ (fun h => by cases h) (.inr (by rw [ld_same I.ok (by omega) hb.2 _ (by omega) hb.2]; exact hA)) fun c _ _ _ _ => .inl (Nat.le_of_ble_eq_true rfl)
      simp only [cost, hp, if_neg hA]; omega
  · rw [step_count o hp]
    refine Stp.quiet I (ld_same I.ok (by omega) hb1.2) rfl rfl ?_ (fun h => ?_) (.inl (by unfold idxF; rw [if_pos (by rw [hp]; decide)]; split <;> exact Int.le_refl _)) fun c _ _ _ _ => .inl ?_
    · by_cases c : d.ds.length = 0
      · simp only [cost, hp, if_pos c]; omega
      · simp only [cost, hp, if_neg c]; omega
    · simp only at h; split at h <;> cases h
    · simp only; split <;> decide
  · simp only [Ph, hp] at ph
    obtain ⟨n, e, ix, h1⟩ := ph
    have hb := o.ent_addr ix.e (p := 0) (by decide) (by decide)
    rw [step_cell o hp ix.i ix.e]
    refine Stp.quiet I (ld_same I.ok (by rw [ix.i]; omega) (by rw [ix.i]; exact hb.2)) rfl rfl ?_ (fun h => by cases h) (.inl (idxF_same (by rw [hp]; decide) rfl (Nat.le_of_ble_eq_true rfl))) fun c _ _ _ _ => .inl (Nat.le_of_ble_eq_true rfl)
    simp only [cost, hp]; omega
  · simp only [Ph, hp] at ph
    obtain ⟨n, e, ix, h1⟩ := ph
    have hb := o.ent_addr ix.e (p := 1) (by decide) (by decide)
    rw [step_was o hp ix.i ix.e]
    refine Stp.quiet I (ld_same I.ok (by rw [ix.i]; omega) (by rw [ix.i]; exact hb.2)) rfl rfl ?_ (fun h => by cases h) (.inl (idxF_same (by rw [hp]; decide) rfl (Nat.le_of_ble_eq_true rfl))) fun c _ _ _ _ => .inl (Nat.le_of_ble_eq_true rfl)
    simp only [cost, hp]; omega
  · rw [step_settled o hp hst.1 hst.2]
    refine Stp.quiet I (ld_same I.ok (by omega) hb.2) rfl rfl ?_ (fun h => by cases h) (.inl (idxF_same (by rw [hp]; decide) rfl (Nat.le_of_ble_eq_true rfl))) fun c _ _ _ _ => .inl (Nat.le_of_ble_eq_true rfl)
    simp only [cost, hp]; omega
  · simp only [Ph, hp] at ph
    obtain ⟨n, e, ix, h1⟩ := ph
    have hb := o.ent_addr ix.e (p := 0) (by decide) (by decide)
    rw [step_cell2 o hp ix.i ix.e]
    refine Stp.quiet I (ld_same I.ok (by rw [ix.i]; omega) (by rw [ix.i]; exact hb.2)) rfl rfl ?_ (fun h => by cases h) (.inl (idxF_same (by rw [hp]; decide) rfl (Nat.le_of_ble_eq_true rfl))) fun c _ _ h _ => ?_
    · simp only [cost, hp]; omega
    · rcases h with h | h | h
      · omega
      · omega
      · exact .inr (.inr h)
  · simp only [Ph, hp] at ph
    obtain ⟨n, e, ix, h1⟩ := ph
    have hb1 := o.ent_addr ix.e (p := 1) (by decide) (by decide)
    have hb2 := o.ent_addr ix.e (p := 2) (by decide) (by decide)
    rw [step_will o hp ix.i ix.e]
    refine Stp.quiet I (ld_same I.ok ?_ ?_) rfl rfl ?_ (fun h => by cases h) (.inl (idxF_same (by rw [hp]; decide) rfl (Nat.le_of_ble_eq_true rfl))) fun c _ _ h _ => ?_
    · rw [ix.i]; split <;> omega
    · rw [ix.i]; split
      · exact hb2.2
      · exact hb1.2
    · simp only [cost, hp]; omega
    · rcases h with h | h | h
      · omega
      · omega
      · exact .inr (.inr h)
theorem stp10 (I : MI D Lo A F M) (hK : ∀ s d, D s = some d → (d.ds.length : Int) ≤ K) (hS : F t = ⟨q, .who w :: r⟩) (hp : w.pc = 10) : Stp D K t A w (w.step t q A) := by
  obtain ⟨d, st, hd, hg, hst, o, ph, dok⟩ := I.on hS
  have hb1 := base_range o.life.s0 o.life.s1 (i := 1) (by decide) (by decide)
  have hk := hK _ _ hd
  by_cases c : d.ds.length = 0
  · rw [step_count0 o hp c]
    have same := ld_same I.ok (show 0 ≤ baseOf w.s + 1 by omega) hb1.2
    refine ⟨⟨_, rfl, rfl, rfl, .pop rfl rfl (by simp only [cost, hp]; omega), fun c' c0 c1 => .inl ⟨same c' c0 (by omega), fun h _ => ?_⟩⟩, fun s d hd _ => by have := base_at (I.ds _ _ hd).1; exact same _ (by omega) this.2⟩
    exfalso
    cases I.cells c' c0 c1 with
    | val h' mm => have := (val_read h').2.1; rw [h] at this; exact mcas_not_val this
    | en _ _ _ ha => rw [h] at ha; exact mw_ew ha
    | @mc s1 d1 n1 e1 hd1 he1 hc1 ha1 _ _ _ _ =>
      rw [h, hg] at ha1
      obtain ⟨a1, a2⟩ := mw_same I hd hd1 ha1
      subst a1; subst a2
      have := (List.getElem?_eq_some_iff.1 he1).1
      omega
  · rw [step_count2 o hp c]
    refine Stp.quiet I (ld_same I.ok (by omega) hb1.2) rfl rfl ?_ (fun h => by cases h) (.inr (by have hb0 := base_at dok.1; rw [ld_same I.ok (by omega) hb1.2 _ (by omega) hb0.2, hg]; simp only [Ph, hp] at ph; exact ph.1)) fun c' c0 c1 _ h => .inr (.inr ?_)
    · simp only [cost, hp]; omega
    · show (0 : Int) ≤ idx D w.s c'
      unfold idx; split <;> omega
theorem stp14 (I : MI D Lo A F M) (hK : ∀ s d, D s = some d → (d.ds.length : Int) ≤ K) (hS : F t = ⟨q, .who w :: r⟩) (hp : w.pc = 14) : Stp D K t A w (w.step t q A) := by
  obtain ⟨d, st, hd, hg, hst, o, ph, dok⟩ := I.on hS
  simp only [Ph, hp] at ph
  obtain ⟨n, e, ix, h1, h2, h3, s', d', h4, hne, h5, h6⟩ := ph
  have hb := base_range o.life.s0 o.life.s1 (i := 0) (by decide) (by decide)
  rw [Int.add_zero] at hb
  have hk := hK _ _ hd
  have hn := (List.getElem?_eq_some_iff.1 ix.e).1
  have hi := ix.i; have hk' := ix.k
  have m := dok.lt ix.e
  have same := ld_same I.ok (show 0 ≤ baseOf w.s by omega) hb.2
  by_cases c : A.at (baseOf w.s) = stateW w.g 0
  · have hs : w.step t q A = ⟨.who { w with opn := decide (A.at (baseOf w.s) = stateW w.g 0), won := decide (A.at (baseOf w.s) = stateW w.g 1), pc := 5 }, read w.x, false, (plainOf (A.at (baseOf w.s))).isSome, A.ld (baseOf w.s), q⟩ := by
      unfold Wh.step; simp only [hp]; rw [if_pos (decide_eq_true c)]
    have hx : read w.x = some (.mcas s' d'.g) := by rw [h5]; exact mw_read (I.ds _ _ h4).1
    rw [hs]
    exact ⟨⟨_, rfl, rfl, rfl, .push h4 hx hp rfl ⟨rfl, rfl⟩ c hne h5 same (by rw [h2]; exact ⟨m.2.1, m.2.2.1⟩) rfl, fun c' c0 c1 => .inl ⟨same c' c0 (by omega), fun _ _ => ⟨rfl, .inl (Nat.le_of_ble_eq_true rfl)⟩⟩⟩, fun s d hd _ => by have := base_at (I.ds _ _ hd).1; exact same _ (by omega) this.2⟩
  · have hs : w.step t q A = ⟨.who { w with opn := decide (A.at (baseOf w.s) = stateW w.g 0), won := decide (A.at (baseOf w.s) = stateW w.g 1), pc := 10 }, none, false, (plainOf (A.at (baseOf w.s))).isSome, A.ld (baseOf w.s), q⟩ := by
      unfold Wh.step; simp only [hp]; rw [if_neg (by rw [decide_eq_true_iff]; exact c)]
    rw [hs]
    refine ⟨⟨_, rfl, rfl, rfl, .on rfl rfl ?_ (fun h => by cases h) (.inr (by simp only; rw [same _ (by omega) hb.2]; exact c)), fun c' c0 c1 => .inl ⟨same c' c0 (by omega), fun _ _ => ⟨rfl, .inl (Nat.le_of_ble_eq_true rfl)⟩⟩⟩, fun s d hd _ => by have := base_at (I.ds _ _ hd).1; exact same _ (by omega) this.2⟩
    simp only [cost, hp]
    split <;> omega
theorem next_cost {w0 : Wh} (hk : w0.k = w.k) (hi : w0.i = w.i) (h : w.i + 1 ≤ w.k) : cost K B (w0.next 3 8) ≤ 3 * K - 2 + 5 * (w.k - w.i) := by
  by_cases c : w0.k ≤ w0.i + 1
  · have : (w0.next 3 8).pc = 8 := by unfold Wh.next; simp only [if_pos c]
    simp only [cost, this]; omega
  · have : (w0.next 3 8).pc = 3 := by unfold Wh.next; simp only [if_neg c]
    simp only [cost, this]
    show 3 * K + 3 + 5 * (w0.k - (w0.i + 1)) ≤ _
    omega
theorem idxF_next {w0 : Wh} (h : ¬ w.pc ≤ 2) (hi : w0.i = w.i) : idxF w ≤ idxF (w0.next 3 8) := by
  unfold idxF
  rw [if_neg h, if_neg (by rcases next_pc (w := w0) (more := 3) (stop := 8) with h' | h' <;> rw [h'] <;> decide)]
  show w.i ≤ w0.i + 1
  omega
theorem next38 : (w.next 3 8).pc ≤ 10 ∧ (w.next 3 8).pc ≠ 14 := by rcases next_pc (w := w) (more := 3) (stop := 8) with h' | h' <;> rw [h'] <;> decide
theorem stp7 (I : MI D Lo A F M) (hK : ∀ s d, D s = some d → (d.ds.length : Int) ≤ K) (hS : F t = ⟨q, .who w :: r⟩) (hp : w.pc = 7) : Stp D K t A w (w.step t q A) := by
  obtain ⟨d, st, hd, hg, hst, o, ph, dok⟩ := I.on hS
  simp only [Ph, hp] at ph
  obtain ⟨n, e, ix, h1, h2, h3, h4, h6, h7⟩ := ph
  have hn := (List.getElem?_eq_some_iff.1 ix.e).1
  have hi := ix.i; have hk' := ix.k
  have m := dok.lt ix.e
  have hs : w.step t q A = ⟨.who (w.next 3 8), none, false, true, A.cas w.cell w.put (if w.opn then w.mine else w.was), q⟩ := by unfold Wh.step; simp only [hp]
  rw [hs]
  refine ⟨⟨_, rfl, rfl, rfl, .on rfl rfl ?_ (fun h => absurd h next38.2) (.inl (idxF_next (by rw [hp]; decide) rfl)), fun c' c0 c1 => ?_⟩, fun s d hd _ => ?_⟩
  · have := next_cost (K := K) (B := A.cas w.cell w.put (if w.opn then w.mine else w.was)) (w := w) (w0 := w) rfl rfl (by omega)
    simp only at this ⊢
    simp only [cost, hp] at this ⊢
    omega
  · simp only
    rw [at_cas I.ok (by rw [h2]; exact m.2.1) (by rw [h2]; omega) c0 (by omega)]
    by_cases ec : w.cell = c'
    · rw [if_pos ec]
      by_cases ep : A.at w.cell = w.put
      · rw [if_pos ep]
        cases ho : w.opn with
        | true =>
          exact .inr (.inr (.inr ⟨rfl, trivial, .inl next38.1⟩))
        | false =>
          refine .inr (.inl ⟨e.w, ?_⟩)
          show read w.was = _
          rw [h3]
          exact read_number (f := .val e.w) (may_val.2 ⟨m.2.2.2.1, m.2.2.2.2.1⟩)
      · rw [if_neg ep, ec]
        exact .inl ⟨rfl, fun _ _ => ⟨trivial, .inl next38.1⟩⟩
    · rw [if_neg ec]
      exact .inl ⟨rfl, fun _ _ => ⟨trivial, .inl next38.1⟩⟩
  · have b := base_at (I.ds _ _ hd).1
    simp only
    rw [at_cas I.ok (by rw [h2]; exact m.2.1) (by rw [h2]; omega) (by omega) b.2, if_neg (by rw [h2]; omega)]
theorem stp89 (I : MI D Lo A F M) (hK : ∀ s d, D s = some d → (d.ds.length : Int) ≤ K) (hS : F t = ⟨q, .who w :: r⟩) (hp : w.pc = 8 ∨ w.pc = 9) : Stp D K t A w (w.step t q A) := by
  obtain ⟨d, st, hd, hg, hst, o, ph, dok⟩ := I.on hS
  have b := base_at dok.1
  have hk := hK _ _ hd
  have hz : ∃ z : Int, (z = 1 ∨ z = 2) ∧ w.step t q A = ⟨.who { w with pc := 1 }, none, false, true, A.cas (baseOf w.s) (stateW w.g 0) (stateW w.g z), q⟩ := by
    rcases hp with hp | hp
    · exact ⟨1, .inl rfl, by unfold Wh.step; simp only [hp]⟩
    · exact ⟨2, .inr rfl, by unfold Wh.step; simp only [hp]⟩
  obtain ⟨z, hz, hs⟩ := hz
  rw [hs]
  refine ⟨⟨_, rfl, rfl, rfl, .on rfl rfl ?_ (fun h => by cases h) (.inr ?_), fun c' c0 c1 => ?_⟩, fun s1 d1 hd1 hne => ?_⟩
  · have : ¬ (A.cas (baseOf w.s) (stateW w.g 0) (stateW w.g z)).at (baseOf w.s) = stateW w.g 0 := by
      rw [at_cas I.ok (by omega) b.2 (by omega) b.2, if_pos rfl]
      split
      · rw [stateW_inj]; omega
      · assumption
    have hc : cost K A w = 3 * K + 3 := by rcases hp with h | h <;> simp only [cost, h]
    rw [hc]
    simp only [cost, if_neg this]
    omega
  · simp only
    rw [at_cas I.ok (by omega) b.2 (by omega) b.2, if_pos rfl]
    split
    · rw [Ne, stateW_inj]; omega
    · assumption
  · simp only
    rw [at_cas I.ok (by omega) b.2 c0 (by omega), if_neg (by omega)]
    exact .inl ⟨rfl, fun _ _ => ⟨trivial, .inl (Nat.le_of_ble_eq_true rfl)⟩⟩
  · have b1 := base_at (I.ds _ _ hd1).1
    simp only
    rw [at_cas I.ok (by omega) b.2 (by omega) b1.2, if_neg (base_ne (Ne.symm hne))]
theorem stp13 (I : MI D Lo A F M) (hK : ∀ s d, D s = some d → (d.ds.length : Int) ≤ K) (hS : F t = ⟨q, .who w :: r⟩) (hp : w.pc = 13) : Stp D K t A w (w.step t q A) := by
  obtain ⟨d, st, hd, hg, hst, o, ph, dok⟩ := I.on hS
  simp only [Ph, hp] at ph
  obtain ⟨n, e, ix, h1, h2, h3, h4⟩ := ph
  have hn := (List.getElem?_eq_some_iff.1 ix.e).1
  have hi := ix.i; have hk' := ix.k
  have m := dok.lt ix.e
  have hs : w.step t q A = ⟨.who (w.next 11 0), none, decide (w.k ≤ w.i + 1), true, A.cas w.cell w.mine w.x, q⟩ := by unfold Wh.step; simp only [hp]
  rw [hs]
  have atc : ∀ j, 0 ≤ j → j < 634 → (A.cas w.cell w.mine w.x).at j = if w.cell = j then (if A.at w.cell = w.mine then w.x else A.at w.cell) else A.at j := fun j j0 j1 => at_cas I.ok (by rw [h3]; exact m.2.1) (by rw [h3]; omega) j0 j1
  refine ⟨⟨w.next 11 0, rfl, rfl, rfl, ?_, fun c' c0 c1 => ?_⟩, fun s d hd _ => ?_⟩
  · by_cases cl : w.k ≤ w.i + 1
    · exact .pop rfl (decide_eq_true cl) (by simp only [cost, hp]; omega)
    · have np : (w.next 11 0).pc = 11 := by unfold Wh.next; simp only [if_neg cl]
      refine .on rfl (decide_eq_false cl) ?_ (fun h => by omega) (.inr ?_)
      · simp only [cost, hp, np]
        show 3 * (w.k - (w.i + 1)) < _
        omega
      · have b := base_at dok.1
        simp only
        rw [atc _ (by omega) b.2, if_neg (by rw [h3]; omega), hg]
        exact h1
  · simp only
    rw [atc c' c0 (by omega)]
    -- of its own cells those behind this one are left
    have left : A.at c' = mw w.s w.g → w.cell ≠ c' → RFc D w c' → decide (w.k ≤ w.i + 1) = false ∧ RFc D (w.next 11 0) c' := fun ha hne hr => by
      cases I.cells c' c0 c1 with
      | val h' mm => have := (val_read h').2.1; rw [ha] at this; exact absurd this mcas_not_val
      | en _ _ _ ha' => rw [ha] at ha'; exact absurd ha' mw_ew
      | @mc s1 d1 n1 e1 hd1 he1 hc1 ha1 _ _ _ _ =>
        rw [ha, hg] at ha1
        obtain ⟨a1, a2⟩ := mw_same I hd hd1 ha1
        subst a1; subst a2
        have hx := idx_eq I hd he1
        rw [hc1] at hx
        rcases hr with hr | hr | hr
        · omega
        · omega
        · rw [hx] at hr
          have : n1 ≠ n := fun h => by
            subst h
            rw [ix.e] at he1; cases he1
            exact hne (by rw [h3]; exact hc1)
          have hl := (List.getElem?_eq_some_iff.1 he1).1
          have cl : ¬ w.k ≤ w.i + 1 := by omega
          refine ⟨decide_eq_false cl, .inr (.inr ?_)⟩
          show w.i + 1 ≤ idx D w.s c'
          rw [hx]; omega
    by_cases ec : w.cell = c'
    · rw [if_pos ec]
      by_cases ep : A.at w.cell = w.mine
      · rw [if_pos ep]
        refine .inr (.inl ⟨if w.won then e.n else e.w, ?_⟩)
        rw [h4]
        exact read_number (f := .val (if w.won = true then e.n else e.w)) (may_val.2 (by split <;> omega))
      · rw [if_neg ep, ec]
        refine .inl ⟨rfl, fun h _ => ?_⟩
        exfalso
        rw [← ec] at h
        exact ep h
    · rw [if_neg ec]
      exact .inl ⟨rfl, fun h hr => left h ec hr⟩
  · have b := base_at (I.ds _ _ hd).1
    simp only
    rw [atc _ (by omega) b.2, if_neg (by rw [h3]; omega)]
theorem stp5 (I : MI D Lo A F M) (hK : ∀ s d, D s = some d → (d.ds.length : Int) ≤ K) (hS : F t = ⟨q, .who w :: r⟩) (hq : q + 1 < 1048576) (hp : w.pc = 5) : Stp D K t A w (w.step t q A) := by
  obtain ⟨d, st, hd, hg, hst, o, ph, dok⟩ := I.on hS
  simp only [Ph, hp] at ph
  obtain ⟨n, e, ix, h1, h2, h3⟩ := ph
  have fs : (F t).fs = .who w :: r := by rw [hS]
  have fq : (F t).q = q := by rw [hS]
  have ht := I.t0 t (by rw [fs]; simp)
  have q0 : 0 ≤ q := by have := (I.q0 t).1; rw [fq] at this; exact this
  have m := dok.lt ix.e
  have hn := (List.getElem?_eq_some_iff.1 ix.e).1
  have hi := ix.i; have hk' := ix.k
  have hpe : (Form.entry w.s w.g w.i t q).number = ew w.s d.g n t q := by rw [hg, ix.i]; rfl
  have hco : cost K A w = 3 * K + 1 + 5 * (w.k - w.i) := by simp only [cost, hp]
  rw [Wh.step5 hp]
  unfold Wh.swapIn
  simp only [hpe]
  have atc : ∀ j, 0 ≤ j → j < 634 → (A.cas w.cell w.was (ew w.s d.g n t q)).at j = if w.cell = j then (if A.at w.cell = w.was then ew w.s d.g n t q else A.at w.cell) else A.at j := fun j j0 j1 => at_cas I.ok (by rw [h2]; exact m.2.1) (by rw [h2]; omega) j0 j1
  by_cases c : A.at w.cell = w.was
  · rw [if_pos c]
    refine ⟨⟨_, rfl, rfl, rfl, .on rfl rfl ?_ (fun h => by cases h) (.inl (idxF_same (by rw [hp]; decide) rfl (Nat.le_of_ble_eq_true rfl))), fun c' c0 c1 => ?_⟩, fun s d hd _ => ?_⟩
    · rw [hco]; simp only [cost]; omega
    · simp only
      rw [atc c' c0 (by omega), if_pos c]
      split
      · exact .inr (.inr (.inl ⟨w.s, d.g, n, q, read_number (ew_range dok.1 m.1 ht ⟨q0, by omega⟩)⟩))
      · exact .inl ⟨rfl, fun _ _ => ⟨trivial, .inl (Nat.le_of_ble_eq_true rfl)⟩⟩
    · have b := base_at (I.ds _ _ hd).1
      simp only
      rw [atc _ (by omega) b.2, if_neg (by rw [h2]; omega)]
  · rw [if_neg c]
    have same : ∀ j, 0 ≤ j → j < 634 → (A.cas w.cell w.was (ew w.s d.g n t q)).at j = A.at j := cas_same I.ok (by rw [h2]; exact m.2.1) (by rw [h2]; omega) c
    generalize A.cas w.cell w.was (ew w.s d.g n t q) = B at same
    have stt : ∀ s d, D s = some d → s ≠ w.s → B.at (baseOf s) = A.at (baseOf s) := fun s d hd _ => by have := base_at (I.ds _ _ hd).1; exact same _ (by omega) this.2
    cases I.cells e.c m.2.1 m.2.2.1 with
    | @val v h mm =>
      rw [show read (A.at w.cell) = some (.val v) by rw [h2]; exact (val_read h).1]
      refine Stp.quiet I same rfl rfl ?_ (fun h => by cases h) (.inl (idxF_same (by rw [hp]; decide) rfl (Nat.le_of_ble_eq_true rfl))) fun c _ _ _ _ => .inl (Nat.le_of_ble_eq_true rfl)
      rw [hco]; simp only [cost]; omega
    | @mc s1 d1 n1 e1 hd1 he1 hc1 ha1 m1 m0 hh rr =>
      rw [show read (A.at w.cell) = some (.mcas s1 d1.g) by rw [h2, ha1]; exact mw_read (I.ds _ _ hd1).1]
      by_cases cs : s1 = w.s ∧ d1.g = w.g
      · simp only [if_pos cs]
        refine Stp.quiet I same rfl rfl ?_ (fun h => absurd h next38.2) (.inl (idxF_next (by rw [hp]; decide) rfl)) fun c _ _ _ _ => .inl next38.1
        have := next_cost (K := K) (B := B) (w := w) (w0 := { w with put := ew w.s d.g n t q }) rfl rfl (by omega)
        rw [hco]
        omega
      · simp only [if_neg cs]
        refine Stp.quiet I same rfl rfl ?_ (fun _ => ?_) (.inl (idxF_same (by rw [hp]; decide) rfl (Nat.le_of_ble_eq_true rfl))) fun c _ _ _ _ => .inr (.inl rfl)
        · rw [hco]; simp only [cost]
          rw [if_pos (same _ (by rw [h2]; exact m.2.1) (by rw [h2]; omega))]; omega
        · exact same _ (by show 0 ≤ w.cell; rw [h2]; exact m.2.1) (by show w.cell < 634; rw [h2]; omega)
    | @en s1 d1 n1 e1 t1 q1 hd1 he1 hc1 ha1 t10 q10 mm w1 r1 ho1 own1 =>
      have l1 := I.ds _ _ hd1
      have m1 := l1.lt he1
      have qq := (I.q0 t1).2
      have hr : read (A.at w.cell) = some (.entry s1 d1.g n1 t1 q1) := by rw [h2, ha1]; exact read_number (ew_range l1.1 m1.1 t10 ⟨q10.1, by omega⟩)
      have hne : t1 ≠ t := fun h => by
        subst h
        rw [fs] at ho1; cases ho1
        have := own1.pc
        omega
      rw [hr]
      exact ⟨⟨_, rfl, rfl, rfl, .ent hr rfl hp (by exact hp) ⟨rfl, rfl⟩ hne same (by rw [h2]; exact ⟨m.2.1, m.2.2.1⟩) rfl, fun c' c0 c1 => .inl ⟨same c' c0 (by omega), fun _ _ => ⟨rfl, .inl (by show w.pc ≤ 10; omega)⟩⟩⟩, stt⟩
theorem stp (I : MI D Lo A F M) (hK : ∀ s d, D s = some d → (d.ds.length : Int) ≤ K) (hS : F t = ⟨q, .who w :: r⟩) (hq : q + 1 < 1048576) : Stp D K t A w (w.step t q A) := by
  obtain ⟨d, st, hd, hg, hst, o, ph, dok⟩ := I.on hS
  have : (w.pc = 1 ∨ w.pc = 2 ∨ w.pc = 3 ∨ w.pc = 4 ∨ w.pc = 6 ∨ w.pc = 11 ∨ w.pc = 12) ∨ w.pc = 5 ∨ w.pc = 7 ∨ (w.pc = 8 ∨ w.pc = 9) ∨ w.pc = 10 ∨ w.pc = 13 ∨ w.pc = 14 := by
    unfold Ph at ph
    split at ph
    all_goals first | omega | exact absurd ph id
  rcases this with h | h | h | h | h | h | h
  · exact stp_loads I hK hS h
  · exact stp5 I hK hS hq h
  · exact stp7 I hK hS h
  · exact stp89 I hK hS h
  · exact stp10 I hK hS h
  · exact stp13 I hK hS h
  · exact stp14 I hK hS h
end
end Go.Proofs.Ytbiappodepnbmaa
namespace Go.Proofs.Ytbiappodepnbmaa
open Go GW Go.Proofs
set_option linter.unusedVariables false
set_option linter.unusedSimpArgs false
def eword (f : En) : Int := (Form.entry f.s f.g f.e f.t f.q).number
def resp1 (D : Int → Option Dw) (c s : Int) (w : Wh) : Bool := decide (w.s = s) && (decide (w.pc ≤ 10) || decide (w.pc = 14) || decide (w.i ≤ idx D w.s c))
def wt (D : Int → Option Dw) (K t : Int) (A : Ar) (pre : Option En) (L : List Wh) (c : Int) : Int :=
  match read (A.at c) with
  | some (.mcas s _) => if L.any (resp1 D c s) = true then 0 else 8 * K + 7
  | some (.entry _ _ _ u _) => if u = t ∨ pre.any (fun f => decide (eword f = A.at c)) = true then 0 else 8 * K + 13
  | _ => 0
def ecost (K : Int) : Option En → Int
  | some f => 8 * K + 12 - f.pc
  | none => 0
def sumI : List Int → Int
  | [] => 0
  | x :: l => x + sumI l
def Phi (D : Int → Option Dw) (K t : Int) (cs : List Int) (A : Ar) (pre : Option En) (L R : List Wh) : Int :=
  sumI (cs.map (wt D K t A pre L)) + ecost K pre + sumI ((L ++ R).map (cost K A))
structure LS (A : Ar) (H : Help) (pre : Option En) (L R : List Wh) : Prop where
  fr : H.top :: H.rest = pre.toList.map Fr.ent ++ (L ++ R).map Fr.who
  ne : L ≠ []
  dis : L.Pairwise fun u v => u.s ≠ v.s
  opn : ∀ u ∈ L.tail, A.at (baseOf u.s) = stateW u.g 0
  st : L.tail ≠ [] → ∀ u, L.head? = some u → u.pc = 14 → A.at u.cell = u.x
section
variable {α : Type} {f g : Int → Int} {W : Int}
theorem sumI_le : ∀ {l : List Int}, (∀ c ∈ l, f c ≤ g c) → sumI (l.map f) ≤ sumI (l.map g) := by
  intro l
  induction l with
  | nil => intro _; exact Int.le_refl _
  | cons x l ih =>
    intro h
    have h1 := h x (by simp)
    have h2 := ih fun c m => h c (by simp [m])
    show f x + sumI (l.map f) ≤ g x + sumI (l.map g)
    omega
theorem sumI_lt {c0 : Int} : ∀ {l : List Int}, c0 ∈ l → f c0 + W ≤ g c0 → (∀ c ∈ l, f c ≤ g c) → sumI (l.map f) + W ≤ sumI (l.map g) := by
  intro l
  induction l with
  | nil => intro h; cases h
  | cons x l ih =>
    intro hm h0 h
    show f x + sumI (l.map f) + W ≤ g x + sumI (l.map g)
    have h1 := h x (by simp)
    rcases List.mem_cons.1 hm with rfl | hm
    · have := sumI_le (l := l) (f := f) (g := g) fun c m => h c (by simp [m])
      omega
    · have := ih hm h0 fun c m => h c (by simp [m])
      omega
theorem sumI_add {c0 : Int} (hW : 0 ≤ W) : ∀ {l : List Int}, l.Nodup → f c0 ≤ g c0 + W → (∀ c ∈ l, c ≠ c0 → f c ≤ g c) → sumI (l.map f) ≤ sumI (l.map g) + W := by
  intro l
  induction l with
  | nil => intro _ _ _; show (0 : Int) ≤ 0 + W; omega
  | cons x l ih =>
    intro nd h0 h
    obtain ⟨n1, n2⟩ := List.nodup_cons.1 nd
    show f x + sumI (l.map f) ≤ g x + sumI (l.map g) + W
    by_cases c : x = c0
    · subst c
      have := sumI_le (f := f) (g := g) (l := l) fun c m => h c (by simp [m]) fun e => n1 (by rw [← e]; exact m)
      omega
    · have := ih n2 h0 fun c m => h c (by simp [m])
      have := h x (by simp) c
      omega
theorem sumI_eq {β : Type} {f g : β → Int} : ∀ {l : List β}, (∀ c ∈ l, f c = g c) → sumI (l.map f) = sumI (l.map g) := by
  intro l
  induction l with
  | nil => intro _; rfl
  | cons x l ih =>
    intro h
    show f x + sumI (l.map f) = g x + sumI (l.map g)
    rw [h x (by simp), ih fun c m => h c (by simp [m])]
theorem sumI_nn : ∀ {l : List Int}, (∀ c ∈ l, 0 ≤ c) → 0 ≤ sumI l := by
  intro l
  induction l with
  | nil => intro _; exact Int.le_refl _
  | cons x l ih =>
    intro h
    have h1 := h x (by simp)
    have h2 := ih fun c m => h c (by simp [m])
    show 0 ≤ x + sumI l
    omega
end
section
variable {D : Int → Option Dw} {Lo : Int → Prop} {A B : Ar} {F : Int → Stk} {M : Int → Int} {t q q' s K : Int} {d : Dw} {n : Nat} {e : Sw} {w w' : Wh} {c : Int} {cs : List Int} {pre : Option En} {L R : List Wh} {H : Help} {f : En}
theorem wt_nn (k0 : 0 ≤ K) : 0 ≤ wt D K t A pre L c := by
  unfold wt
  split
  · split <;> omega
  · split <;> omega
  · exact Int.le_refl _
theorem resp1_iff : resp1 D c s w = true ↔ w.s = s ∧ RFc D w c := by
  unfold resp1 RFc
  simp only [Bool.and_eq_true, Bool.or_eq_true, decide_eq_true_eq]
  constructor
  · rintro ⟨a, (b | b) | b⟩
    · exact ⟨a, .inl b⟩
    · exact ⟨a, .inr (.inl b)⟩
    · exact ⟨a, .inr (.inr b)⟩
  · rintro ⟨a, b | b | b⟩
    · exact ⟨a, .inl (.inl b)⟩
    · exact ⟨a, .inl (.inr b)⟩
    · exact ⟨a, .inr b⟩
/-- a reference in a cell is its descriptor's -/
theorem MI.ref (I : MI D Lo A F M) {g : Int} (c0 : 0 ≤ c) (c1 : c < 16) (h : read (A.at c) = some (.mcas s g)) : ∃ d n e, D s = some d ∧ d.ds[n]? = some e ∧ e.c = c ∧ g = d.g ∧ A.at c = mw s d.g ∧ (Opn A s d → Held A s d n) := by
  cases I.cells c c0 c1 with
  | val h' mm => rw [(val_read h').1] at h; cases h
  | @en s1 d1 n1 e1 t1 q1 hd1 he1 hc1 ha1 t10 q10 _ _ _ _ _ =>
    have l1 := I.ds _ _ hd1
    rw [ha1, show read (ew s1 d1.g n1 t1 q1) = _ from read_number (ew_range l1.1 (l1.lt he1).1 t10 ⟨q10.1, by have := (I.q0 t1).2; omega⟩)] at h
    cases h
  | @mc s1 d1 n1 e1 hd1 he1 hc1 ha1 _ _ hh _ =>
    rw [ha1, mw_read (I.ds _ _ hd1).1] at h
    cases h
    exact ⟨d1, n1, e1, hd1, he1, hc1, rfl, ha1, hh⟩
theorem MI.entr (I : MI D Lo A F M) {g x u q0 : Int} (c0 : 0 ≤ c) (c1 : c < 16) (h : read (A.at c) = some (.entry s g x u q0)) : ∃ d n e, D s = some d ∧ d.ds[n]? = some e ∧ e.c = c ∧ g = d.g ∧ x = (n : Nat) ∧ A.at c = ew s d.g n u q0 ∧ (0 ≤ u ∧ u < 4) ∧ (0 ≤ q0 ∧ q0 < 1048576) := by
  cases I.cells c c0 c1 with
  | val h' mm => rw [(val_read h').1] at h; cases h
  | @en s1 d1 n1 e1 t1 q1 hd1 he1 hc1 ha1 t10 q10 _ _ _ _ _ =>
    have l1 := I.ds _ _ hd1
    have qq := (I.q0 t1).2
    rw [ha1, show read (ew s1 d1.g n1 t1 q1) = _ from read_number (ew_range l1.1 (l1.lt he1).1 t10 ⟨q10.1, by omega⟩)] at h
    cases h
    exact ⟨d1, n1, e1, hd1, he1, hc1, rfl, rfl, ha1, t10, q10.1, by omega⟩
  | @mc s1 d1 n1 e1 hd1 he1 hc1 ha1 _ _ hh _ =>
    rw [ha1, mw_read (I.ds _ _ hd1).1] at h
    cases h
theorem wt_mono (I : MI D Lo A F M) (k0 : 0 ≤ K) (c0 : 0 ≤ c) (c1 : c < 16) {ov : Bool} (hd : D w.s = some d) (hg : w.g = d.g) (hs : w'.s = w.s)
    (h : (B.at c = A.at c ∧ (A.at c = mw w.s w.g → RFc D w c → ov = false ∧ RFc D w' c)) ∨ (∃ v, read (B.at c) = some (.val v)) ∨ (∃ s g e q, read (B.at c) = some (.entry s g e t q)) ∨ (B.at c = mw w.s w.g ∧ ov = false ∧ RFc D w' c))
    {L' : List Wh} (hL : ∀ v ∈ L, v ∈ L') (hw : ov = false → w' ∈ L') : wt D K t B none L' c ≤ wt D K t A none (w :: L) c := by
  have nn := wt_nn (D := D) (t := t) (A := A) (pre := none) (L := w :: L) (c := c) k0
  rcases h with ⟨h1, h2⟩ | ⟨v, h1⟩ | ⟨s1, g1, e1, q1, h1⟩ | ⟨h1, h2, h3⟩
  · unfold wt
    rw [h1]
    split
    · rename_i s g hr
      by_cases ha : (w :: L).any (resp1 D c s) = true
      · have : L'.any (resp1 D c s) = true := by
          rw [List.any_eq_true] at ha ⊢
          obtain ⟨v, hv, hr'⟩ := ha
          rcases List.mem_cons.1 hv with rfl | hv
          · obtain ⟨a, b⟩ := resp1_iff.1 hr'
            obtain ⟨d1, n1, e1, k1, k2, k3, k4, k5, _⟩ := I.ref c0 c1 hr
            rw [← a] at k1 k5
            rw [hd] at k1; cases k1
            obtain ⟨x, y⟩ := h2 (by rw [hg]; exact k5) b
            exact ⟨w', hw x, resp1_iff.2 ⟨by rw [hs]; exact a, y⟩⟩
          · exact ⟨v, hL v hv, hr'⟩
        rw [if_pos this, if_pos ha]; exact Int.le_refl _
      · rw [if_neg ha]; split <;> omega
    · exact Int.le_refl _
    · exact Int.le_refl _
  · have : wt D K t B none L' c = 0 := by unfold wt; rw [h1]
    omega
  · have : wt D K t B none L' c = 0 := by unfold wt; rw [h1]; exact if_pos (.inl rfl)
    omega
  · have : wt D K t B none L' c = 0 := by
      unfold wt
      rw [h1, hg, mw_read (I.ds _ _ hd).1]
      simp only
      rw [if_pos (List.any_eq_true.2 ⟨w', hw h2, resp1_iff.2 ⟨hs, h3⟩⟩)]
    omega
theorem Ord.pc5 : ∀ {l : List Wh}, Ord A (l.map Fr.who) → ∀ v ∈ l, v.pc = 5 := by
  intro l
  induction l with
  | nil => intro _ v h; cases h
  | cons x l ih =>
    intro h v hv
    obtain ⟨h1, _, _, h4⟩ := h
    rcases List.mem_cons.1 hv with rfl | hv
    · exact h1
    · exact ih h4 v hv
theorem chain_at : ∀ {L : List Wh} {u v : Wh}, Nx A u ((L ++ R).map Fr.who) → Up u ((L ++ R).map Fr.who) → Ord A ((L ++ R).map Fr.who) → A.at (baseOf u.s) = stateW u.g 0 → (∀ x ∈ L, A.at (baseOf x.s) = stateW x.g 0) → (u :: L).Pairwise (fun u v => u.s ≠ v.s) → v ∈ L →
    ∃ x : Wh, x.s ≠ v.s ∧ (x = u ∨ x ∈ L) ∧ A.at v.cell = mw x.s x.g ∧ v.cell < u.cell := by
  intro L
  induction L with
  | nil => intro u v _ _ _ _ _ _ h; cases h
  | cons y L ih =>
    intro u v hn hu ho hop hops dis hv
    obtain ⟨d1, d2⟩ := List.pairwise_cons.1 dis
    have hn : u.s ≠ y.s ∧ (A.at (baseOf u.s) = stateW u.g 0 → A.at y.cell = mw u.s u.g) := hn
    have hu : y.cell < u.cell := hu
    obtain ⟨o1, o2, o3, o4⟩ := ho
    rcases List.mem_cons.1 hv with rfl | hv
    · exact ⟨u, d1 v (by simp), .inl rfl, hn.2 hop, hu⟩
    · obtain ⟨x, a, b, c, e⟩ := ih o2 o3 o4 (hops y (by simp)) (fun x m => hops x (by simp [m])) d2 hv
      exact ⟨x, a, .inr (by rcases b with rfl | b; · simp
                            · simp [b]), c, by omega⟩
theorem cost_pc5 (hp : w.pc = 5) : cost K B w = cost K A w := by simp only [cost, hp]
end
end Go.Proofs.Ytbiappodepnbmaa
namespace Go.Proofs.Ytbiappodepnbmaa
open Go GW Go.Proofs
set_option linter.unusedVariables false
set_option linter.unusedSimpArgs false
section
variable {D : Int → Option Dw} {Lo : Int → Prop} {A B : Ar} {F : Int → Stk} {M : Int → Int} {t q q' s K : Int} {d : Dw} {n : Nat} {e : Sw} {w w' : Wh} {c : Int} {cs : List Int} {pre : Option En} {L R : List Wh} {H : Help} {f : En}
/-- what an entry's frame does -/
theorem ent_step (I : MI D Lo A F M) {r : List Fr} (hS : F t = ⟨q, .ent f :: r⟩) : ∃ f', (f.step q A).fr = .ent f' ∧ eword f' = eword f ∧ (f'.s = f.s ∧ f'.g = f.g ∧ f'.e = f.e) ∧ (f.step q A).atop = none ∧
    (∀ s d, D s = some d → (f.step q A).a.at (baseOf s) = A.at (baseOf s)) ∧
    (((f.step q A).over = false ∧ f'.pc = f.pc + 1 ∧ f'.pc ≤ 3 ∧ ∀ j, 0 ≤ j → j < 634 → (f.step q A).a.at j = A.at j) ∨
     (f.pc = 3 ∧ (f.step q A).over = true ∧ ∃ c0, (∀ c, 0 ≤ c → c < 16 → A.at c = eword f → c = c0) ∧ (∀ j, 0 ≤ j → j < 16 → j ≠ c0 → (f.step q A).a.at j = A.at j) ∧
        (((f.step q A).a.at c0 = A.at c0 ∧ A.at c0 ≠ eword f) ∨ (A.at c0 = eword f ∧ ((∃ v, read ((f.step q A).a.at c0) = some (.val v)) ∨ ∃ s g, read ((f.step q A).a.at c0) = some (.mcas s g)))))) := by
  have fs : (F t).fs = .ent f :: r := by rw [hS]
  obtain ⟨d, e, n, hd, hg, hn, he, hq0, ht0, ph⟩ := I.fr t (.ent f) (by rw [fs]; simp)
  have dok := I.ds _ _ hd
  have m := dok.lt he
  obtain ⟨l, may, st, hst, dsc⟩ := dok
  have dok := I.ds _ _ hd
  have ad : ∀ p : Int, 0 ≤ p → p < 3 → 34 ≤ baseOf f.s + (2 + 3 * (n : Int) + p) ∧ baseOf f.s + (2 + 3 * (n : Int) + p) < 634 := fun p p0 p1 => base_range l.s0 l.s1 (by omega) (by omega)
  have bs := base_at l
  have hqq := (I.q0 f.t).2
  have bsame : ∀ {B : Ar}, (∀ j, 0 ≤ j → j < 634 → B.at j = A.at j) → ∀ s d, D s = some d → B.at (baseOf s) = A.at (baseOf s) := fun h s d hd => by
    have := base_at (I.ds _ _ hd).1; exact h _ (by omega) this.2
  have : f.pc = 0 ∨ f.pc = 1 ∨ f.pc = 2 ∨ f.pc = 3 := by
    unfold EPh at ph
    split at ph
    all_goals first | omega | exact absurd ph id
  rcases this with hp | hp | hp | hp
  · have a := ad 0 (by decide) (by decide)
    have same := ld_same I.ok (i := baseOf f.s + (2 + 3 * f.e + 0)) (by rw [hn]; omega) (by rw [hn]; exact a.2)
    have hs : f.step q A = ⟨.ent { f with cell := valOf (A.at (baseOf f.s + (2 + 3 * f.e + 0))), pc := 1 }, none, false, isVal (A.at (baseOf f.s + (2 + 3 * f.e + 0))) 15, A.ld (baseOf f.s + (2 + 3 * f.e + 0)), q⟩ := by
      unfold En.step; simp only [hp]
    rw [hs]
    exact ⟨_, rfl, rfl, ⟨rfl, rfl, rfl⟩, rfl, bsame same, .inl ⟨rfl, by rw [hp], Nat.le_of_ble_eq_true rfl, same⟩⟩
  · have a := ad 1 (by decide) (by decide)
    have same := ld_same I.ok (i := baseOf f.s + (2 + 3 * f.e + 1)) (by rw [hn]; omega) (by rw [hn]; exact a.2)
    have hs : f.step q A = ⟨.ent { f with was := valOf (A.at (baseOf f.s + (2 + 3 * f.e + 1))) * 4, pc := 2 }, none, false, isVal (A.at (baseOf f.s + (2 + 3 * f.e + 1))) 1099511627775, A.ld (baseOf f.s + (2 + 3 * f.e + 1)), q⟩ := by
      unfold En.step; simp only [hp]
    rw [hs]
    exact ⟨_, rfl, rfl, ⟨rfl, rfl, rfl⟩, rfl, bsame same, .inl ⟨rfl, by rw [hp], Nat.le_of_ble_eq_true rfl, same⟩⟩
  · have same := ld_same I.ok (i := baseOf f.s) (by omega) bs.2
    have hs : f.step q A = ⟨.ent { f with opn := decide (A.at (baseOf f.s) = stateW f.g 0), pc := 3 }, none, false, (plainOf (A.at (baseOf f.s))).isSome, A.ld (baseOf f.s), q⟩ := by
      unfold En.step; simp only [hp]
    rw [hs]
    exact ⟨_, rfl, rfl, ⟨rfl, rfl, rfl⟩, rfl, bsame same, .inl ⟨rfl, by rw [hp], Nat.le_of_ble_eq_true rfl, same⟩⟩
  · simp only [EPh, hp] at ph
    obtain ⟨h1, h2, h3, h4⟩ := ph
    have hw : eword f = ew f.s d.g n f.t f.q := by unfold eword; rw [hg, hn]; rfl
    have hs : f.step q A = ⟨.ent { f with pc := 4 }, none, true, true, A.cas f.cell (eword f) (if f.opn then (Form.mcas f.s f.g).number else f.was), q⟩ := by
      unfold En.step; simp only [hp]; rfl
    rw [hs]
    have atc : ∀ j, 0 ≤ j → j < 634 → (A.cas f.cell (eword f) (if f.opn then (Form.mcas f.s f.g).number else f.was)).at j = if f.cell = j then (if A.at f.cell = eword f then (if f.opn then (Form.mcas f.s f.g).number else f.was) else A.at f.cell) else A.at j := fun j j0 j1 => at_cas I.ok (by rw [h1]; exact m.2.1) (by rw [h1]; omega) j0 j1
    refine ⟨_, rfl, rfl, ⟨rfl, rfl, rfl⟩, rfl, fun s1 d1 hd1 => ?_, .inr ⟨hp, rfl, f.cell, fun c c0 c1 hc => ?_, fun j j0 j1 hj => ?_, ?_⟩⟩
    · have b := base_at (I.ds _ _ hd1).1
      simp only
      rw [atc _ (by omega) b.2, if_neg (by rw [h1]; omega)]
    · have hr : read (A.at c) = some (.entry f.s d.g n f.t f.q) := by rw [hc, hw]; exact read_number (ew_range l m.1 ht0 ⟨hq0.1, by omega⟩)
      obtain ⟨d1, n1, e1, k1, k2, k3, _, k4, _⟩ := I.entr c0 c1 hr
      rw [hd] at k1; cases k1
      have : n1 = n := by omega
      subst this
      rw [he] at k2; cases k2
      rw [h1, k3]
    · simp only
      rw [atc j j0 (by omega), if_neg (Ne.symm hj)]
    · simp only
      rw [atc f.cell (by rw [h1]; exact m.2.1) (by rw [h1]; omega), if_pos rfl]
      by_cases c : A.at f.cell = eword f
      · rw [if_pos c]
        refine .inr ⟨c, ?_⟩
        cases ho : f.opn with
        | true =>
          right
          refine ⟨f.s, d.g, ?_⟩
          show read (Form.mcas f.s f.g).number = _
          rw [hg]
          exact mw_read l
        | false =>
          left
          refine ⟨e.w, ?_⟩
          show read f.was = _
          rw [h2]
          exact read_number (f := .val e.w) (may_val.2 ⟨m.2.2.2.1, m.2.2.2.2.1⟩)
      · rw [if_neg c]; exact .inl ⟨rfl, c⟩
theorem lone_step (I : MI D Lo A F M) (k0 : 0 ≤ K) (hK : ∀ s d, D s = some d → (d.ds.length : Int) ≤ K) (hcs : ∀ (s : Int) (d : Dw) (n : Nat) (e : Sw), D s = some d → d.ds[n]? = some e → e.c ∈ cs) (nd : cs.Nodup) (cr : ∀ c ∈ cs, 0 ≤ c ∧ c < 16)
    (hS : F t = stk H) (ht : H.t = t) (ho : H.over = false) (hq : H.q + 1 < 1048576) (h0 : (H.step A).2.1 = 0) (ls : LS A H pre L R) :
    (H.step A).1.over = true ∨ ∃ pre' L' R', LS (H.step A).2.2 (H.step A).1 pre' L' R' ∧ Phi D K t cs (H.step A).2.2 pre' L' R' < Phi D K t cs A pre L R := by
  have hS' : F t = ⟨H.q, H.top :: H.rest⟩ := by rw [hS]; unfold stk; rw [ho]; rfl
  have fs : (F t).fs = H.top :: H.rest := by rw [hS']
  have ch := I.ch t
  rw [fs] at ch
  have hfr : ∀ f ∈ H.top :: H.rest, FrOk D Lo A F t H.q f := fun f m => by have := I.fr t f (by rw [fs]; exact m); rw [hS'] at this; exact this
  obtain ⟨lf, ln, ld, lo, lst⟩ := ls
  obtain ⟨u, L, rfl⟩ : ∃ u L', L = u :: L' := by cases L with | nil => exact absurd rfl ln | cons a b => exact ⟨a, b, rfl⟩
  obtain ⟨dl1, dl2⟩ := List.pairwise_cons.1 ld
  simp only [List.tail_cons] at lo lst
  rw [Help.step_eq ho] at h0 ⊢
  simp only at h0 ⊢
  cases pre with
  | some f =>
    simp only [Option.toList_some, List.map_cons, List.map_nil, List.singleton_append, List.cons.injEq] at lf
    obtain ⟨ltop, lrest⟩ := lf
    rw [ltop] at hS' ch h0 ⊢
    obtain ⟨f', e1, e2, _, e3, e4, e5⟩ := ent_step I hS'
    have hstp : Fr.step H.t H.q (.ent f) A = f.step H.q A := rfl
    rw [hstp] at h0 ⊢
    generalize f.step H.q A = o at e1 e3 e4 e5 h0 ⊢
    have und : Und A ((u :: L ++ R).map Fr.who) := by rw [← lrest]; exact ch
    obtain ⟨up5, _, uord⟩ := und
    have c5 : ∀ v ∈ L ++ R, v.pc = 5 := Ord.pc5 uord
    have hcost : ∀ B, sumI ((u :: L ++ R).map (cost K B)) = sumI ((u :: L ++ R).map (cost K A)) := fun B => sumI_eq fun v hv => by
      rcases List.mem_cons.1 hv with rfl | hv
      · exact cost_pc5 up5
      · exact cost_pc5 (c5 v hv)
    have hopn : ∀ v ∈ L, o.a.at (baseOf v.s) = stateW v.g 0 := fun v hv => by
      obtain ⟨d, a1, _⟩ := hfr (.who v) (by rw [lrest]; simp [hv])
      rw [e4 _ _ a1]; exact lo v hv
    unfold Help.take at h0 ⊢
    simp only [e3, Option.bind_none] at h0 ⊢
    by_cases good : o.good = false
    · rw [if_pos good] at h0; exact absurd h0 (show ¬ (1400 : Int) = 0 by decide)
    · rw [if_neg good]
      right
      rcases e5 with ⟨ov, hpc, hpc3, same⟩ | ⟨hpc, ov, c0, u1, u2, u3⟩
      · rw [if_pos ov]
        refine ⟨some f', u :: L, R, ⟨?_, by simp, ld, hopn, fun hne v hv hp => ?_⟩, ?_⟩
        · simp only [e1, lrest, Option.toList_some, List.map_cons, List.map_nil, List.singleton_append]
        · simp only [List.head?_cons, Option.some.injEq] at hv; subst hv; omega
        · unfold Phi
          rw [hcost]
          have : sumI (cs.map (wt D K t o.a (some f') (u :: L))) = sumI (cs.map (wt D K t A (some f) (u :: L))) := sumI_eq fun c hc => by
            have := cr c hc
            unfold wt
            simp only [same c this.1 (by omega), Option.any_some, e2]
          rw [this]
          simp only [ecost]
          omega
      · rw [if_neg (by rw [ov]; decide)]
        have hr : H.rest = .who u :: (L ++ R).map Fr.who := by rw [lrest]; rfl
        simp only [hr]
        refine ⟨none, u :: L, R, ⟨rfl, by simp, ld, hopn, fun hne v hv hp => ?_⟩, ?_⟩
        · simp only [List.head?_cons, Option.some.injEq] at hv; subst hv; omega
        · unfold Phi
          rw [hcost]
          have hne : ∀ c ∈ cs, c ≠ c0 → wt D K t o.a none (u :: L) c ≤ wt D K t A (some f) (u :: L) c := fun c hc hcc => by
            have cc := cr c hc
            unfold wt
            rw [u2 c cc.1 cc.2 hcc]
            split
            · exact Int.le_refl _
            · have : ¬ eword f = A.at c := fun h => hcc (u1 c cc.1 cc.2 h.symm)
              simp only [Option.any_some, Option.any_none, this, decide_false, Bool.false_eq_true, or_false]
              exact Int.le_refl _
            · exact Int.le_refl _
          have h0' : wt D K t o.a none (u :: L) c0 ≤ wt D K t A (some f) (u :: L) c0 + (8 * K + 7) := by
            rcases u3 with ⟨a, b⟩ | ⟨a, b⟩
            · unfold wt
              rw [a]
              split
              · omega
              · have : ¬ eword f = A.at c0 := fun h => b h.symm
                simp only [Option.any_some, Option.any_none, this, decide_false, Bool.false_eq_true, or_false]
                split <;> omega
              · omega
            · have nn := wt_nn (D := D) (t := t) (A := A) (pre := some f) (L := u :: L) (c := c0) k0
              have : wt D K t o.a none (u :: L) c0 ≤ 8 * K + 7 := by
                rcases b with ⟨v, b⟩ | ⟨s, g, b⟩
                · unfold wt; rw [b]; simp only; omega
                · unfold wt; rw [b]; simp only; split <;> omega
              omega
          have := sumI_add (W := 8 * K + 7) (by omega) nd h0' hne
          simp only [ecost]
          omega
  | none =>
    simp only [Option.toList_none, List.map_nil, List.nil_append, List.cons_append, List.map_cons, List.cons.injEq] at lf
    obtain ⟨ltop, lrest⟩ := lf
    rw [ltop] at hS' ch h0 ⊢
    obtain ⟨d, hd, hg, _⟩ := hfr (.who u) (by rw [← ltop]; simp)
    have sp := stp I hK hS' hq
    have hstp : Fr.step H.t H.q (.who u) A = u.step t H.q A := by rw [ht]; rfl
    rw [hstp] at h0 ⊢
    generalize u.step t H.q A = o at sp h0 ⊢
    obtain ⟨⟨u', e1, es, eg, way, cls⟩, est⟩ := sp
    rw [lrest] at ch
    obtain ⟨cn, c14, cord⟩ := ch
    have c5 : ∀ v ∈ L ++ R, v.pc = 5 := Ord.pc5 cord
    have hcost : ∀ B, sumI ((L ++ R).map (cost K B)) = sumI ((L ++ R).map (cost K A)) := fun B => sumI_eq fun v hv => cost_pc5 (c5 v hv)
    have hopn : ∀ v ∈ L, o.a.at (baseOf v.s) = stateW v.g 0 := fun v hv => by
      obtain ⟨d1, a1, _⟩ := hfr (.who v) (by rw [lrest]; simp [hv])
      rw [est _ _ a1 (Ne.symm (dl1 v hv))]; exact lo v hv
    unfold Help.take at h0 ⊢
    by_cases good : o.good = false
    · simp only [if_pos good] at h0; exact absurd h0 (by decide)
    · simp only [if_neg good] at h0 ⊢
      cases way with
      | on h1 h2 h3 h4 =>
        right
        simp only [h1, Option.bind_none, if_pos h2]
        refine ⟨none, u' :: L, R, ⟨?_, by simp, List.pairwise_cons.2 ⟨fun v hv => by rw [es]; exact dl1 v hv, dl2⟩, hopn, fun _ v hv hp => ?_⟩, ?_⟩
        · simp only [e1, lrest, Option.toList_none, List.map_nil, List.nil_append, List.cons_append, List.map_cons]
        · simp only [List.head?_cons, Option.some.injEq] at hv; subst hv; exact h4 hp
        · unfold Phi
          show _ + _ + (cost K o.a u' + sumI ((L ++ R).map (cost K o.a))) < _ + _ + (cost K A u + sumI ((L ++ R).map (cost K A)))
          rw [hcost]
          have : sumI (cs.map (wt D K t o.a none (u' :: L))) ≤ sumI (cs.map (wt D K t A none (u :: L))) := sumI_le fun c hc => by
            have cc := cr c hc
            exact wt_mono I k0 cc.1 cc.2 hd hg es (cls c cc.1 cc.2) (fun v hv => by simp [hv]) (fun _ => by simp)
          omega
      | pop h1 h2 h3 =>
        simp only [h1, Option.bind_none]
        rw [if_neg (by rw [h2]; decide)]
        have hwt : ∀ L' : List Wh, (∀ v ∈ L, v ∈ L') → sumI (cs.map (wt D K t o.a none L')) ≤ sumI (cs.map (wt D K t A none (u :: L))) := fun L' hL => sumI_le fun c hc => by
          have cc := cr c hc
          have := cls c cc.1 cc.2
          rw [h2] at this
          exact wt_mono I k0 cc.1 cc.2 hd hg es this hL (fun h => by cases h)
        cases L with
        | nil =>
          cases R with
          | nil =>
            left
            simp only [List.append_nil, List.map_nil] at lrest
            simp only [lrest]
          | cons r1 R =>
            right
            simp only [List.nil_append, List.map_cons] at lrest
            simp only [lrest]
            refine ⟨none, [r1], R, ⟨rfl, by simp, List.pairwise_singleton _ _, fun v hv => by simp at hv, fun h => by simp at h⟩, ?_⟩
            have := hwt [r1] (fun v hv => by simp at hv)
            have hc := hcost o.a
            unfold Phi
            show _ + _ + sumI (([] ++ r1 :: R).map (cost K o.a)) < _ + _ + (cost K A u + sumI (([] ++ r1 :: R).map (cost K A)))
            rw [hc]
            omega
        | cons v L =>
          right
          simp only [List.cons_append, List.map_cons] at lrest
          simp only [lrest]
          refine ⟨none, v :: L, R, ⟨rfl, by simp, dl2, fun x hx => hopn x (by simp at hx; simp [hx]), fun _ x hx hp => ?_⟩, ?_⟩
          · simp only [List.head?_cons, Option.some.injEq] at hx; subst hx
            have := c5 v (by simp)
            omega
          · have := hwt (v :: L) (fun x hx => hx)
            have hc := hcost o.a
            unfold Phi
            show _ + _ + sumI ((v :: L ++ R).map (cost K o.a)) < _ + _ + (cost K A u + sumI ((v :: L ++ R).map (cost K A)))
            rw [hc]
            omega
      | @push s' d' h1 h2 h3 h4 h5 h6 h7 h8 h9 h10 h11 =>
        right
        have hat : o.atop.bind newFr = some (.who (.new s' d'.g)) := by rw [h2]; rfl
        simp only [hat] at h0 ⊢
        have hlen : ¬ 18 ≤ H.rest.length + 1 := fun h => by rw [if_pos h] at h0; exact absurd h0 (show ¬ (1400 : Int) = 0 by decide)
        rw [if_neg hlen]
        have upr := c14 h3 h6
        -- the one pushed is not among those that wait
        have hfresh : ∀ v ∈ L, s' ≠ v.s := fun v hv hsv => by
          have hst := lst (by intro h; rw [h] at hv; cases hv) u rfl h3
          obtain ⟨x, x1, x2, x3, x4⟩ := chain_at cn upr cord h6 lo ld hv
          obtain ⟨dv, b1, b2, b3⟩ := hfr (.who v) (by rw [lrest]; simp [hv])
          have v5 := c5 v (by simp [hv])
          simp only [Ph, v5] at b3
          obtain ⟨nv, ev, ixv, _, hcv, _⟩ := b3
          have hxg : ∃ dx, D x.s = some dx ∧ x.g = dx.g := by
            rcases x2 with rfl | x2
            · exact ⟨d, hd, hg⟩
            · obtain ⟨dx, y1, y2, _⟩ := hfr (.who x) (by rw [lrest]; simp [x2]); exact ⟨dx, y1, y2⟩
          obtain ⟨dx, y1, y2⟩ := hxg
          rw [← hsv, h1] at b1; cases b1
          have ro : Opn A s' d' := by unfold Opn; rw [hsv, ← b2]; exact lo v hv
          have hr : read (A.at u.cell) = some (.mcas s' d'.g) := by rw [hst, h8]; exact mw_read (I.ds _ _ h1).1
          obtain ⟨d2, n2, e2, z1, z2, z3, _, _, z5⟩ := I.ref h10.1 h10.2 hr
          rw [h1] at z1; cases z1
          have mono := (I.ds _ _ h1).2.1
          unfold swMay at mono; simp only [Bool.and_eq_true, decide_eq_true_eq] at mono
          have hlt : nv < n2 := by
            rcases Nat.lt_trichotomy nv n2 with h | h | h
            · exact h
            · subst h; rw [ixv.e] at z2; cases z2; omega
            · have := swOk_mono mono.2 n2 nv e2 ev z2 ixv.e h; omega
          have hh := z5 ro nv ev hlt ixv.e
          rw [← hcv, x3, y2] at hh
          have := (mw_same I y1 h1 hh).1
          exact x1 (by rw [this]; exact hsv)
        have hdis : (Wh.new s' d'.g :: u' :: L).Pairwise fun u v => u.s ≠ v.s := by
          refine List.pairwise_cons.2 ⟨fun v hv => ?_, List.pairwise_cons.2 ⟨fun v hv => by rw [es]; exact dl1 v hv, dl2⟩⟩
          rcases List.mem_cons.1 hv with rfl | hv
          · rw [es]; exact h7
          · exact hfresh v hv
        have hsame : ∀ j, 0 ≤ j → j < 634 → o.a.at j = A.at j := h9
        refine ⟨none, Wh.new s' d'.g :: u' :: L, R, ⟨?_, by simp, hdis, fun v hv => ?_, fun _ v hv hp => ?_⟩, ?_⟩
        · simp only [e1, lrest, Option.toList_none, List.map_nil, List.nil_append, List.cons_append, List.map_cons]
        · simp only [List.tail_cons, List.mem_cons] at hv
          rcases hv with rfl | hv
          · have b := base_at (I.ds _ _ hd).1
            rw [es, eg, hsame _ (by omega) b.2]; exact h6
          · exact hopn v hv
        · simp only [List.head?_cons, Option.some.injEq] at hv; subst hv; cases hp
        · have hmono : ∀ c ∈ cs, wt D K t o.a none (Wh.new s' d'.g :: u' :: L) c ≤ wt D K t A none (u :: L) c := fun c hc => by
            have cc := cr c hc
            have := cls c cc.1 cc.2
            exact wt_mono I k0 cc.1 cc.2 hd hg es this (fun v hv => by simp [hv]) (fun _ => by simp)
          have hcn : cost K o.a (Wh.new s' d'.g) ≤ 8 * K + 5 := by
            show (if o.a.at (baseOf s') = stateW d'.g 0 then 8 * K + 5 else 3 * K + 2) ≤ _
            split <;> omega
          have hcu : cost K o.a u' = 3 * K + 1 + 5 * (u.k - u.i) := by simp only [cost, h4, h5]
          unfold Phi
          show _ + _ + (cost K o.a (Wh.new s' d'.g) + (cost K o.a u' + sumI ((L ++ R).map (cost K o.a)))) < _ + _ + (cost K A u + sumI ((L ++ R).map (cost K A)))
          rw [hcost, hcu]
          by_cases hst : A.at u.cell = u.x
          · have hr : read (A.at u.cell) = some (.mcas s' d'.g) := by rw [hst, h8]; exact mw_read (I.ds _ _ h1).1
            obtain ⟨d2, n2, e2, z1, z2, z3, _, _, z5⟩ := I.ref h10.1 h10.2 hr
            have hmem : u.cell ∈ cs := by rw [← z3]; exact hcs _ _ _ _ z1 z2
            have h0 : wt D K t o.a none (Wh.new s' d'.g :: u' :: L) u.cell + (8 * K + 7) ≤ wt D K t A none (u :: L) u.cell := by
              have a1 : wt D K t A none (u :: L) u.cell = 8 * K + 7 := by
                unfold wt; rw [hr]; simp only
                refine if_neg fun h => ?_
                obtain ⟨v, hv, hrv⟩ := List.any_eq_true.1 h
                have hvs := (resp1_iff.1 hrv).1
                rcases List.mem_cons.1 hv with rfl | hv
                · exact h7 hvs.symm
                · exact hfresh v hv hvs.symm
              have a2 : wt D K t o.a none (Wh.new s' d'.g :: u' :: L) u.cell = 0 := by
                unfold wt; rw [hsame _ h10.1 (by omega), hr]; simp only
                exact if_pos (List.any_eq_true.2 ⟨Wh.new s' d'.g, by simp, resp1_iff.2 ⟨rfl, .inl (Nat.le_of_ble_eq_true rfl)⟩⟩)
              omega
            have := sumI_lt hmem h0 hmono
            have hcw : cost K A u = 3 * K + 5 * (u.k - u.i) := by simp only [cost, h3, if_pos hst]
            rw [hcw]
            simp only [ecost]
            omega
          · have := sumI_le hmono
            have hcw : cost K A u = 11 * K + 8 + 5 * (u.k - u.i) := by simp only [cost, h3, if_neg hst]
            rw [hcw]
            simp only [ecost]
            omega
      | @ent s1 g1 x1 t1 q1 h1 h2 h3 h4 h5 h6 h9 h10 h11 =>
        right
        have hat : o.atop.bind newFr = some (.ent (.new s1 g1 x1 t1 q1)) := by rw [h2]; rfl
        simp only [hat] at h0 ⊢
        have hlen : ¬ 18 ≤ H.rest.length + 1 := fun h => by rw [if_pos h] at h0; exact absurd h0 (show ¬ (1400 : Int) = 0 by decide)
        rw [if_neg hlen]
        have hw : eword (.new s1 g1 x1 t1 q1) = A.at u.cell := (number_of_read h1).2.1
        obtain ⟨d2, n2, e2, z1, z2, z3, _⟩ := I.entr h10.1 h10.2 h1
        have hmem : u.cell ∈ cs := by rw [← z3]; exact hcs _ _ _ _ z1 z2
        refine ⟨some (.new s1 g1 x1 t1 q1), u' :: L, R, ⟨?_, by simp, List.pairwise_cons.2 ⟨fun v hv => by rw [es]; exact dl1 v hv, dl2⟩, hopn, fun _ v hv hp => ?_⟩, ?_⟩
        · simp only [e1, lrest, Option.toList_some, List.map_nil, List.map_cons, List.cons_append, List.nil_append]
        · simp only [List.head?_cons, Option.some.injEq] at hv; subst hv; omega
        · have hmono : ∀ c ∈ cs, wt D K t o.a (some (.new s1 g1 x1 t1 q1)) (u' :: L) c ≤ wt D K t A none (u :: L) c := fun c hc => by
            have cc := cr c hc
            refine Int.le_trans ?_ (wt_mono I k0 cc.1 cc.2 hd hg es (cls c cc.1 cc.2) (fun v hv => by simp [hv]) (fun _ => List.mem_cons_self ..) : wt D K t o.a none (u' :: L) c ≤ _)
            unfold wt
            split
            · exact Int.le_refl _
            · simp only [Option.any_none, Bool.false_eq_true, or_false]
              split
              · split <;> omega
              · rename_i hn
                have : ¬ _ = t := fun h => hn (.inl h)
                rw [if_neg this]; exact Int.le_refl _
            · exact Int.le_refl _
          have h0 : wt D K t o.a (some (.new s1 g1 x1 t1 q1)) (u' :: L) u.cell + (8 * K + 13) ≤ wt D K t A none (u :: L) u.cell := by
            have a1 : wt D K t A none (u :: L) u.cell = 8 * K + 13 := by
              unfold wt; rw [h1]; simp only [Option.any_none, Bool.false_eq_true, or_false]
              exact if_neg h6
            have a2 : wt D K t o.a (some (.new s1 g1 x1 t1 q1)) (u' :: L) u.cell = 0 := by
              unfold wt; rw [h9 _ h10.1 (by omega), h1]; simp only [Option.any_some]
              exact if_pos (.inr (decide_eq_true hw))
            omega
          have := sumI_lt hmem h0 hmono
          have hcu : cost K o.a u' = cost K A u := by simp only [cost, h4, h5, h3]
          unfold Phi
          show _ + _ + (cost K o.a u' + sumI ((L ++ R).map (cost K o.a))) < _ + _ + (cost K A u + sumI ((L ++ R).map (cost K A)))
          rw [hcost, hcu]
          simp only [ecost]
          have : ((En.new s1 g1 x1 t1 q1).pc : Int) = 0 := rfl
          omega
end
end Go.Proofs.Ytbiappodepnbmaa
namespace Go.Proofs.Ytbiappodepnbmaa
open Go GW Go.Proofs
set_option linter.unusedVariables false
set_option linter.unusedSimpArgs false
theorem setF_setF {F : Int → Stk} {t : Int} {a b : Stk} : setF (setF F t a) t b = setF F t b := by
  funext u
  unfold setF
  split <;> rfl
section
variable {D : Int → Option Dw} {Lo : Int → Prop} {A B : Ar} {F : Int → Stk} {M : Int → Int} {t q q' s K : Int} {d : Dw} {n : Nat} {e : Sw} {w w' : Wh} {c : Int} {cs : List Int} {pre : Option En} {L R : List Wh} {H : Help} {f : En}
theorem cost_bd (I : MI D Lo A F M) (k0 : 0 ≤ K) (hK : ∀ s d, D s = some d → (d.ds.length : Int) ≤ K) (h : FrOk D Lo A F t q (.who w)) : 0 ≤ cost K A w ∧ cost K A w ≤ 16 * K + 8 ∧ (w.pc = 5 → cost K A w ≤ 8 * K + 1) := by
  obtain ⟨d, hd, hg, ph⟩ := h
  have hk := hK _ _ hd
  have ixb : ∀ {n e}, Ix d w n e → w.i + 1 ≤ w.k ∧ w.k ≤ K ∧ 0 ≤ w.i := fun {n e} ix => by
    have := (List.getElem?_eq_some_iff.1 ix.e).1
    have := ix.i; have := ix.k
    omega
  unfold Ph at ph
  unfold cost
  split at ph
  · rename_i hp; simp only [hp]; split <;> omega
  · rename_i hp; simp only [hp]; omega
  · rename_i hp; obtain ⟨n, e, ix, _⟩ := ph; have := ixb ix; simp only [hp]; omega
  · rename_i hp; obtain ⟨n, e, ix, _⟩ := ph; have := ixb ix; simp only [hp]; omega
  · rename_i hp; obtain ⟨n, e, ix, _⟩ := ph; have := ixb ix; simp only [hp]; omega
  · rename_i hp; obtain ⟨n, e, ix, _⟩ := ph; have := ixb ix; simp only [hp]; omega
  · rename_i hp; obtain ⟨n, e, ix, _⟩ := ph; have := ixb ix; simp only [hp]; omega
  · rename_i hp; simp only [hp]; omega
  · rename_i hp; simp only [hp]; omega
  · rename_i hp; simp only [hp]; omega
  · rename_i hp; obtain ⟨n, e, ix, _⟩ := ph; have := ixb ix; simp only [hp]; omega
  · rename_i hp; obtain ⟨n, e, ix, _⟩ := ph; have := ixb ix; simp only [hp]; omega
  · rename_i hp; obtain ⟨n, e, ix, _⟩ := ph; have := ixb ix; simp only [hp]; omega
  · rename_i hp; obtain ⟨n, e, ix, _⟩ := ph; have := ixb ix; simp only [hp]; split <;> omega
  · exact absurd ph id
theorem sumI_le_n {f : Int → Int} {W : Int} : ∀ {l : List Int}, (∀ c ∈ l, f c ≤ W) → sumI (l.map f) ≤ l.length * W := by
  intro l
  induction l with
  | nil => intro _; simp [sumI]
  | cons x l ih =>
    intro h
    have h1 := h x (by simp)
    have h2 := ih fun c m => h c (by simp [m])
    show f x + sumI (l.map f) ≤ ((l.length + 1 : Nat) : Int) * W
    rw [Int.natCast_add, Int.add_mul]
    omega
theorem sumW_le_n {f : Wh → Int} {W : Int} : ∀ {l : List Wh}, (∀ c ∈ l, f c ≤ W) → sumI (l.map f) ≤ l.length * W := by
  intro l
  induction l with
  | nil => intro _; simp [sumI]
  | cons x l ih =>
    intro h
    have h1 := h x (by simp)
    have h2 := ih fun c m => h c (by simp [m])
    show f x + sumI (l.map f) ≤ ((l.length + 1 : Nat) : Int) * W
    rw [Int.natCast_add, Int.add_mul]
    omega
theorem sumI_map_nn {β : Type} {f : β → Int} {l : List β} (h : ∀ c ∈ l, 0 ≤ f c) : 0 ≤ sumI (l.map f) := sumI_nn fun c hc => by
  obtain ⟨x, hx, rfl⟩ := List.mem_map.1 hc; exact h x hx
theorem LS.frs (I : MI D Lo A F M) (hS : F t = stk H) (ho : H.over = false) : ∀ f ∈ H.top :: H.rest, FrOk D Lo A F t H.q f := fun f m => by
  have hS' : F t = ⟨H.q, H.top :: H.rest⟩ := by rw [hS]; unfold stk; rw [ho]; rfl
  have := I.fr t f (by rw [hS']; exact m)
  rw [hS'] at this; exact this
theorem EPh.pc (h : FrOk D Lo A F t q (.ent f)) : f.pc ≤ 3 := by
  obtain ⟨d, e, n, _, _, _, _, _, _, ph⟩ := h
  unfold EPh at ph
  split at ph
  all_goals first | omega | exact absurd ph id
theorem Phi_nn (I : MI D Lo A F M) (k0 : 0 ≤ K) (hK : ∀ s d, D s = some d → (d.ds.length : Int) ≤ K) (hS : F t = stk H) (ho : H.over = false) (ls : LS A H pre L R) : 0 ≤ Phi D K t cs A pre L R := by
  have frs := LS.frs I hS ho
  rw [ls.fr] at frs
  unfold Phi
  have h1 : 0 ≤ sumI (cs.map (wt D K t A pre L)) := sumI_map_nn fun c _ => wt_nn k0
  have h2 : 0 ≤ sumI ((L ++ R).map (cost K A)) := sumI_map_nn fun v hv => (cost_bd I k0 hK (frs (.who v) (by simp only [List.mem_append, List.mem_map]; exact .inr ⟨v, by simpa using hv, rfl⟩))).1
  have h3 : 0 ≤ ecost K pre := by
    cases hp : pre with
    | none => exact Int.le_refl _
    | some f =>
      have := EPh.pc (frs (.ent f) (by rw [hp]; simp))
      show 0 ≤ 8 * K + 12 - (f.pc : Int)
      omega
  omega
theorem Ord.whos : ∀ {r : List Fr}, Ord A r → ∃ R : List Wh, r = R.map Fr.who := by
  intro r
  induction r with
  | nil => intro _; exact ⟨[], rfl⟩
  | cons f r ih =>
    intro h
    cases f with
    | ent f => exact absurd h (by simp [Ord])
    | who w =>
      obtain ⟨R, rfl⟩ := ih h.2.2.2
      exact ⟨w :: R, rfl⟩
theorem LS.start (I : MI D Lo A F M) (hS : F t = stk H) (ho : H.over = false) (b : Bot D A s H) : ∃ (pre : Option En) (u : Wh) (R : List Wh), LS A H pre [u] R ∧ (pre.isSome = true → u.pc = 5) ∧ Ord A (R.map Fr.who) := by
  have hS' : F t = ⟨H.q, H.top :: H.rest⟩ := by rw [hS]; unfold stk; rw [ho]; rfl
  have ch := I.ch t
  rw [hS'] at ch
  have ch : Chain A (H.top :: H.rest) := ch
  unfold Bot at b
  rw [if_neg (by rw [ho]; decide)] at b
  obtain ⟨w0, hl, _⟩ := b
  cases ht : H.top with
  | who w =>
    rw [ht] at ch hl
    obtain ⟨R, hR⟩ := Ord.whos ch.2.2
    refine ⟨none, w, R, ⟨by rw [ht, hR]; rfl, by simp, List.pairwise_singleton _ _, fun v hv => by simp at hv, fun h => by simp at h⟩, (fun h => by cases h), by rw [← hR]; exact ch.2.2⟩
  | ent f =>
    rw [ht] at ch hl
    have ch : Und A H.rest := ch
    cases hr : H.rest with
    | nil => rw [hr] at hl; simp at hl
    | cons g r =>
      rw [hr] at ch
      cases g with
      | ent g => exact absurd ch (by simp [Und])
      | who w =>
        obtain ⟨R, hR⟩ := Ord.whos ch.2.2
        refine ⟨some f, w, R, ⟨by rw [ht, hr, hR]; rfl, by simp, List.pairwise_singleton _ _, fun v hv => by simp at hv, fun h => by simp at h⟩, fun _ => ch.1, by rw [← hR]; exact ch.2.2⟩
/-- how many frames wait, at most -/
theorem Ord.lenC (I : MI D Lo A F M) {C : Int} (hC : ∀ (s : Int) (d : Dw) (n : Nat) (e : Sw), D s = some d → d.ds[n]? = some e → e.c < C) {R : List Wh} (hf : ∀ v ∈ R, FrOk D Lo A F t q (.who v)) (ho : Ord A (R.map Fr.who)) : (R.length : Int) ≤ max 0 C := by
  cases R with
  | nil => simp; omega
  | cons v R =>
    obtain ⟨h1, h2, h3, h4⟩ := ho
    obtain ⟨d, hd, hg, ph⟩ := hf v (by simp)
    simp only [Ph, h1] at ph
    obtain ⟨n, e, ix, _, hc, _⟩ := ph
    have := hC _ _ _ _ hd ix.e
    have m := (I.ds _ _ hd).lt ix.e
    have := Ord.len I (fun f hf' => by obtain ⟨x, hx, rfl⟩ := List.mem_map.1 hf'; exact hf x (by simp [hx])) h4 h3 (by rw [hc]; exact m.2.1)
    simp only [List.length_map] at this
    simp only [List.length_cons]
    omega
/-- at most so much is left -/
theorem Phi_bd (I : MI D Lo A F M) (k0 : 0 ≤ K) (hK : ∀ s d, D s = some d → (d.ds.length : Int) ≤ K) {C : Int} (hC : ∀ (s : Int) (d : Dw) (n : Nat) (e : Sw), D s = some d → d.ds[n]? = some e → e.c < C)
    (hS : F t = stk H) (ho : H.over = false) {u : Wh} (ls : LS A H pre [u] R) (h5 : pre.isSome = true → u.pc = 5) (hR : Ord A (R.map Fr.who)) {r : Nat} (hr : (R.length : Int) ≤ r) : Phi D K t cs A pre [u] R ≤ cs.length * (8 * K + 13) + (16 * K + 13) + r * (8 * K + 1) := by
  have frs := LS.frs I hS ho
  rw [ls.fr] at frs
  have hu := frs (.who u) (by simp)
  have hRf : ∀ v ∈ R, FrOk D Lo A F t H.q (.who v) := fun v hv => frs (.who v) (by simp [hv])
  have h1 : sumI (cs.map (wt D K t A pre [u])) ≤ cs.length * (8 * K + 13) := sumI_le_n fun c _ => by
    unfold wt
    split
    · split <;> omega
    · split <;> omega
    · omega
  have h2 : sumI (R.map (cost K A)) ≤ R.length * (8 * K + 1) := sumW_le_n fun v hv => (cost_bd I k0 hK (hRf v hv)).2.2 (Ord.pc5 hR v hv)
  have h3 : (R.length : Int) * (8 * K + 1) ≤ r * (8 * K + 1) := Int.mul_le_mul_of_nonneg_right hr (by omega)
  have hc := cost_bd I k0 hK hu
  unfold Phi
  show _ + _ + (cost K A u + sumI (([] ++ R).map (cost K A))) ≤ _
  rw [List.nil_append]
  cases hp : pre with
  | none =>
    rw [hp] at h1
    show _ + 0 + _ ≤ _
    omega
  | some f =>
    rw [hp] at h1 frs
    have := EPh.pc (frs (.ent f) (by simp))
    have := hc.2.2 (h5 (by rw [hp]; rfl))
    show _ + (8 * K + 12 - (f.pc : Int)) + _ ≤ _
    omega
/-- alone it comes to its end -/
theorem lone_run {P : Ar → (Int → Int) → Prop} (hP : ∀ {A B : Ar} {M M' : Int → Int}, P A M → Turn D A B M M' → P B M') (hL : ∀ {A : Ar} {M : Int → Int}, P A M → LoB D Lo A M) (k0 : 0 ≤ K) (hK : ∀ s d, D s = some d → (d.ds.length : Int) ≤ K)
    (hcs : ∀ (s : Int) (d : Dw) (n : Nat) (e : Sw), D s = some d → d.ds[n]? = some e → e.c ∈ cs) (nd : cs.Nodup) (cr : ∀ c ∈ cs, 0 ≤ c ∧ c < 16) :
    ∀ (N : Nat) {H : Help} {A : Ar} {F : Int → Stk} {M : Int → Int} {pre : Option En} {L R : List Wh} {m : Nat}, MI D Lo A F M → F t = stk H → H.t = t → H.over = false → Bot D A s H → LS A H pre L R → Phi D K t cs A pre L R < N → H.q + N < 1048576 → P A M →
      ∃ H' A' m' M', runs N H A false m = some (H', A', true, m') ∧ H'.over = true ∧ H'.t = t ∧ H'.q ≤ H.q + N ∧ MI D Lo A' (setF F t (stk H')) M' ∧ P A' M' ∧ Bot D A' s H' := by
  intro N
  induction N with
  | zero =>
    intro H A F M pre L R m I hS ht ho b ls hN hq p
    have := Phi_nn (cs := cs) I k0 hK hS ho ls
    omega
  | succ N ih =>
    intro H A F M pre L R m I hS ht ho b ls hN hq p
    obtain ⟨h0, hq0, hq1, ht1, _, M1, T, I1, b1⟩ := I.help (hL p) hS ht ho (by omega) (Bo := True) fun _ => b
    have b1 := b1 trivial
    have p1 := hP p T
    unfold runs
    simp only [h0]
    rcases lone_step I k0 hK hcs nd cr hS ht ho (by omega) h0 ls with hov | ⟨pre', L', R', ls1, hPhi⟩
    · rw [hov]
      refine ⟨(H.step A).1, (H.step A).2.2, m + 1, M1, ?_, hov, ht1, by omega, I1, p1, b1⟩
      cases N <;> rfl
    · cases hov : (H.step A).1.over with
      | true =>
        refine ⟨(H.step A).1, (H.step A).2.2, m + 1, M1, ?_, hov, ht1, by omega, I1, p1, b1⟩
        cases N <;> rfl
      | false =>
        obtain ⟨H', A', m', M', r1, r2, r3, r7, r4, r5, r6⟩ := ih (m := m + 1) I1 setF_at ht1 hov b1 ls1 (by omega) (by omega) p1
        exact ⟨H', A', m', M', r1, r2, r3, by omega, by rw [setF_setF] at r4; exact r4, r5, r6⟩
end
end Go.Proofs.Ytbiappodepnbmaa
