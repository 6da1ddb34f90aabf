/- Several texts in one, each under its own remark or none; nothing here is a statement on the program. -/
import Derived.Test.YtbiappodepnbmaaKE
namespace Go.Proofs.Ytbiappodepnbmaa
open Go GW Go.Proofs
set_option linter.unusedVariables false
set_option linter.unusedSimpArgs false
section
variable {A : Ar}
theorem at_touch {k : Int} {i : Nat} {was now j : Int} (ok : A.ok) (hi : i < 634) (h0 : 0 ≤ j) (h1 : j < 634) : (A.touch k i was now).at j = if (i : Int) = j then now else A.at j := by
  unfold Ar.at Ar.touch
  simp only [List.getD_eq_getElem?_getD, List.getElem?_set]
  have hl := ok.words
  by_cases e : i = j.toNat
  · rw [if_pos e, if_pos (by omega), if_pos (by omega)]; rfl
  · rw [if_neg e, if_neg (by omega)]
theorem at_ld {i j : Int} (ok : A.ok) (i0 : 0 ≤ i) (i1 : i < 634) (h0 : 0 ≤ j) (h1 : j < 634) : (A.ld i).at j = A.at j := by
  unfold Ar.ld
  rw [at_touch ok (by omega) h0 h1]
  split
  · rename_i e; congr 1; omega
  · rfl
theorem at_put {i j x : Int} (ok : A.ok) (i0 : 0 ≤ i) (i1 : i < 634) (h0 : 0 ≤ j) (h1 : j < 634) : (A.put i x).at j = if i = j then x else A.at j := by
  unfold Ar.put
  rw [at_touch ok (by omega) h0 h1]
  by_cases e : i = j
  · rw [if_pos e, if_pos (by omega)]
  · rw [if_neg e, if_neg (by omega)]
theorem at_cas {i j o x : Int} (ok : A.ok) (i0 : 0 ≤ i) (i1 : i < 634) (h0 : 0 ≤ j) (h1 : j < 634) : (A.cas i o x).at j = if i = j then (if A.at i = o then x else A.at i) else A.at j := by
  unfold Ar.cas
  rw [at_touch ok (by omega) h0 h1]
  by_cases e : i = j
  · rw [if_pos e, if_pos (by omega)]
  · rw [if_neg e, if_neg (by omega)]
end
/-! ### descriptors that are written -/
structure Dsc (A : Ar) (s g st : Int) (ds : List Sw) : Prop where
  st : A.at (baseOf s) = stateW g st
  cnt : A.at (baseOf s + 1) = (ds.length : Int) * 4
  c : ∀ (i : Nat) d, ds[i]? = some d → A.at (baseOf s + (2 + 3 * (i : Int) + 0)) = d.c * 4
  w : ∀ (i : Nat) d, ds[i]? = some d → A.at (baseOf s + (2 + 3 * (i : Int) + 1)) = d.w * 4
  n : ∀ (i : Nat) d, ds[i]? = some d → A.at (baseOf s + (2 + 3 * (i : Int) + 2)) = d.n * 4
theorem sw_len {ds : List Sw} (h : swMay ds = true) : ds.length ≤ 16 := by
  unfold swMay at h; simp only [Bool.and_eq_true, decide_eq_true_eq] at h; exact h.1
theorem sw_mem {ds : List Sw} (h : swMay ds = true) {i : Nat} {d : Sw} (e : ds[i]? = some d) : 0 ≤ d.c ∧ d.c < 16 ∧ 0 ≤ d.w ∧ d.w < 1099511627776 ∧ 0 ≤ d.n ∧ d.n < 1099511627776 := by
  unfold swMay at h; simp only [Bool.and_eq_true, decide_eq_true_eq] at h
  exact swOk_mem (by decide) h.2 d (List.mem_of_getElem? e)
theorem swOk_lt : ∀ {ds : List Sw} {last : Int}, swOk last ds = true → ∀ (i : Nat) d, ds[i]? = some d → last < d.c := by
  intro ds
  induction ds with
  | nil => intro last _ i d e; simp at e
  | cons x ds ih =>
    intro last h i d e
    unfold swOk at h
    simp only [Bool.and_eq_true, decide_eq_true_eq] at h
    obtain ⟨⟨h1, _⟩, h2⟩ := h
    cases i with
    | zero => simp at e; subst e; exact h1
    | succ i => have := ih h2 i d (by simpa using e); omega
theorem swOk_mono : ∀ {ds : List Sw} {last : Int}, swOk last ds = true → ∀ (i j : Nat) d e, ds[i]? = some d → ds[j]? = some e → i < j → d.c < e.c := by
  intro ds
  induction ds with
  | nil => intro last _ i j d e h; simp at h
  | cons x ds ih =>
    intro last h i j d e hi hj hlt
    unfold swOk at h
    simp only [Bool.and_eq_true, decide_eq_true_eq] at h
    cases j with
    | zero => omega
    | succ j =>
      cases i with
      | zero => simp at hi; subst hi; exact swOk_lt h.2 j e (by simpa using hj)
      | succ i => exact ih h.2 i j d e (by simpa using hi) (by simpa using hj) (by omega)
theorem sw_inj {ds : List Sw} (h : swMay ds = true) {i j : Nat} {d e : Sw} (hi : ds[i]? = some d) (hj : ds[j]? = some e) (hc : d.c = e.c) : i = j := by
  unfold swMay at h; simp only [Bool.and_eq_true, decide_eq_true_eq] at h
  rcases Nat.lt_trichotomy i j with q | q | q
  · have := swOk_mono h.2 i j d e hi hj q; omega
  · exact q
  · have := swOk_mono h.2 j i e d hj hi q; omega
theorem Dsc.keep {A A' : Ar} {s g st : Int} {ds : List Sw} (D : Dsc A s g st ds) (hm : swMay ds = true) (h : ∀ j, baseOf s ≤ j → j < baseOf s + 50 → A'.at j = A.at j) : Dsc A' s g st ds := by
  have hl := sw_len hm
  have lt : ∀ (i : Nat) d, ds[i]? = some d → (i : Int) < 16 := fun i d e => by have := (List.getElem?_eq_some_iff.1 e).1; omega
  refine ⟨by rw [h _ (by omega) (by omega)]; exact D.st, by rw [h _ (by omega) (by omega)]; exact D.cnt, fun i d e => ?_, fun i d e => ?_, fun i d e => ?_⟩
  · have := lt i d e; rw [h _ (by omega) (by omega)]; exact D.c i d e
  · have := lt i d e; rw [h _ (by omega) (by omega)]; exact D.w i d e
  · have := lt i d e; rw [h _ (by omega) (by omega)]; exact D.n i d e
theorem at_putRow : ∀ {r : List Int} {a : Int} {A : Ar}, A.ok → (∀ x ∈ r, I64 x) → 0 ≤ a → a + r.length ≤ 634 → ∀ j, 0 ≤ j → j < 634 → (putRow a r A).at j = if a ≤ j ∧ j < a + r.length then r.getD (j - a).toNat 0 else A.at j := by
  intro r
  induction r with
  | nil =>
    intro a A ok _ h0 h1 j j0 j1
    rw [if_neg (by simp only [List.length_nil]; omega)]; rfl
  | cons x r ih =>
    intro a A ok hr h0 h1 j j0 j1
    simp only [List.length_cons] at h1
    have okp := ok.put a (hr x (by simp))
    show (putRow (a + 1) r (A.put a x)).at j = _
    rw [ih okp (fun y hy => hr y (List.mem_cons_of_mem _ hy)) (by omega) (by omega) j j0 j1, at_put ok h0 (by omega) j0 j1]
    simp only [List.length_cons]
    by_cases e : a = j
    · subst e
      rw [if_neg (by omega), if_pos rfl, if_pos (by omega)]
      simp
    · by_cases c : a + 1 ≤ j ∧ j < a + 1 + r.length
      · rw [if_pos c, if_pos (by omega)]
        have : (j - a).toNat = (j - (a + 1)).toNat + 1 := by omega
        rw [this]; rfl
      · rw [if_neg c, if_neg e, if_neg (by omega)]
theorem newAr_cell {j : Int} (h0 : 0 ≤ j) (h1 : j < 16) : newAr.at j = 0 := by
  have : ∀ n : Fin 16, newAr.at (n.val : Int) = 0 := by decide +kernel
  have := this ⟨j.toNat, by omega⟩
  simp only at this
  rw [show ((j.toNat : Nat) : Int) = j by omega] at this
  exact this
theorem descRow_get (g : Int) (ds : List Sw) : (descRow g ds).getD 0 0 = stateW g 0 ∧ (descRow g ds).getD 1 0 = (ds.length : Int) * 4 ∧ ∀ (i : Nat) d, ds[i]? = some d → (descRow g ds).getD (2 + 3 * i) 0 = d.c * 4 ∧ (descRow g ds).getD (2 + 3 * i + 1) 0 = d.w * 4 ∧ (descRow g ds).getD (2 + 3 * i + 2) 0 = d.n * 4 := by
  refine ⟨rfl, rfl, ?_⟩
  have key : ∀ (ds : List Sw) (i : Nat) d, ds[i]? = some d → ((ds.map fun s => [s.c * 4, s.w * 4, s.n * 4]).flatten).getD (3 * i) 0 = d.c * 4 ∧ ((ds.map fun s => [s.c * 4, s.w * 4, s.n * 4]).flatten).getD (3 * i + 1) 0 = d.w * 4 ∧ ((ds.map fun s => [s.c * 4, s.w * 4, s.n * 4]).flatten).getD (3 * i + 2) 0 = d.n * 4 := by
    intro ds
    induction ds with
    | nil => intro i d e; simp at e
    | cons x ds ih =>
      intro i d e
      cases i with
      | zero => simp at e; subst e; exact ⟨rfl, rfl, rfl⟩
      | succ i =>
        obtain ⟨h1, h2, h3⟩ := ih i d (by simpa using e)
        have e0 : 3 * (i + 1) = 3 * i + 3 := by omega
        rw [e0]
        exact ⟨h1, h2, h3⟩
  intro i d e
  obtain ⟨h1, h2, h3⟩ := key ds i d e
  have e0 : 2 + 3 * i = 3 * i + 2 := by omega
  rw [e0]
  exact ⟨h1, h2, h3⟩
theorem Dsc.of_row {A : Ar} {s g : Int} {ds : List Sw} (h : ∀ j : Int, 0 ≤ j → j < (descRow g ds).length → A.at (baseOf s + j) = (descRow g ds).getD j.toNat 0) : Dsc A s g 0 ds := by
  obtain ⟨h1, h2, h3⟩ := descRow_get g ds
  have hl := descRow_len g ds
  have lt : ∀ (i : Nat) d, ds[i]? = some d → i < ds.length := fun i d e => (List.getElem?_eq_some_iff.1 e).1
  refine ⟨?_, ?_, fun i d e => ?_, fun i d e => ?_, fun i d e => ?_⟩
  · have := h 0 (by omega) (by omega); rw [Int.add_zero] at this; rw [this]; exact h1
  · rw [h 1 (by omega) (by omega)]; exact h2
  · have := lt i d e
    rw [h _ (by omega) (by omega), show (2 + 3 * (i : Int) + 0).toNat = 2 + 3 * i by omega]; exact (h3 i d e).1
  · have := lt i d e
    rw [h _ (by omega) (by omega), show (2 + 3 * (i : Int) + 1).toNat = 2 + 3 * i + 1 by omega]; exact (h3 i d e).2.1
  · have := lt i d e
    rw [h _ (by omega) (by omega), show (2 + 3 * (i : Int) + 2).toNat = 2 + 3 * i + 2 by omega]; exact (h3 i d e).2.2
theorem putDss_at : ∀ {dss : List (List Sw)} {i : Int} {A : Ar}, A.ok → 0 ≤ i → i + dss.length ≤ 12 → (putDss i dss A).ok ∧ (∀ j, 0 ≤ j → j < 634 → j < baseOf i → (putDss i dss A).at j = A.at j) ∧ ∀ (k : Nat) ds, dss[k]? = some ds → swMay ds = true → Dsc (putDss i dss A) (i + k) 1 0 ds := by
  intro dss
  induction dss with
  | nil => intro i A ok _ _; exact ⟨ok, fun j _ _ _ => rfl, fun k ds h => by simp at h⟩
  | cons d dss ih =>
    intro i A ok h0 h1
    simp only [List.length_cons] at h1
    have hb : baseOf i = 34 + i * 50 := rfl
    have hb1 : baseOf (i + 1) = 34 + (i + 1) * 50 := rfl
    let B := if swMay d = true then putRow (baseOf i) (descRow 1 d) A else A
    have okB : B.ok := by
      simp only [B]; split
      · rename_i hm; exact putRow_ok ok (descRow_range (by decide) (by decide) hm)
      · exact ok
    obtain ⟨k1, k2, k3⟩ := ih (i := i + 1) (A := B) okB (by omega) (by omega)
    have atB : ∀ j, 0 ≤ j → j < 634 → j < baseOf i → B.at j = A.at j := by
      intro j j0 j1 j2
      simp only [B]; split
      · rename_i hm
        have hl := sw_len hm
        rw [at_putRow ok (descRow_range (by decide) (by decide) hm) (by omega) (by rw [descRow_len]; omega) j j0 j1, if_neg (by omega)]
      · rfl
    refine ⟨k1, fun j j0 j1 j2 => ?_, fun k ds hk hm => ?_⟩
    · have := k2 j j0 j1 (by omega)
      rw [← atB j j0 j1 j2]; exact this
    · cases k with
      | zero =>
        simp at hk; subst hk
        have hl := sw_len hm
        have hr := descRow_range (g := 1) (by decide) (by decide) hm
        simp only [Int.natCast_zero, Int.add_zero]
        refine Dsc.of_row fun j j0 j1 => ?_
        have hlen := descRow_len 1 d
        have e1 : (putDss i (d :: dss) A).at (baseOf i + j) = B.at (baseOf i + j) := k2 _ (by omega) (by omega) (by omega)
        rw [e1]
        simp only [B]
        rw [if_pos hm, at_putRow ok hr (by omega) (by omega) _ (by omega) (by omega), if_pos (by omega)]
        congr 1; omega
      | succ k =>
        have := k3 k ds (by simpa using hk) hm
        have e : i + 1 + (k : Int) = i + ((k + 1 : Nat) : Int) := by omega
        rw [← e]; exact this
/-- what the statements' arenas hold -/
theorem shelf_view {cells : List Int} {dss : List (List Sw)} (hc : ∀ x ∈ cells, I64 x) : (shelfA cells dss).ok ∧ (∀ j : Int, 0 ≤ j → j < 16 → (shelfA cells dss).at j = cells.getD j.toNat 0) ∧ ∀ (k : Nat) ds, k < 4 → dss[k]? = some ds → swMay ds = true → Dsc (shelfA cells dss) k 1 0 ds := by
  have okc : (putRow 0 (cells.take 16) newAr).ok := putRow_ok newAr_ok fun x hx => hc x (List.mem_of_mem_take hx)
  obtain ⟨k1, k2, k3⟩ := putDss_at (dss := dss.take 4) (i := 0) okc (by decide) (by rw [List.length_take]; omega)
  refine ⟨k1, fun j j0 j1 => ?_, fun k ds hk e hm => ?_⟩
  · have hb : baseOf 0 = 34 := rfl
    have e1 := k2 j j0 (by omega) (by omega)
    have e2 := at_putRow newAr_ok (r := cells.take 16) (a := 0) (fun x hx => hc x (List.mem_of_mem_take hx)) (by decide) (by rw [List.length_take]; omega) j j0 (by omega)
    unfold shelfA
    rw [e1, e2]
    split
    · rename_i c
      rw [List.length_take] at c
      rw [List.getD_eq_getElem?_getD, List.getD_eq_getElem?_getD, List.getElem?_take, if_pos (by omega), Int.sub_zero]
    · rename_i c
      rw [List.length_take] at c
      rw [newAr_cell j0 j1, List.getD_eq_getElem?_getD, List.getElem?_eq_none (by omega)]; rfl
  · have := k3 k ds (by rw [List.getElem?_take, if_pos hk]; exact e) hm
    rw [Int.zero_add] at this; exact this
end Go.Proofs.Ytbiappodepnbmaa
namespace Go.Proofs.Ytbiappodepnbmaa
open Go GW Go.Proofs
set_option linter.unusedVariables false
set_option linter.unusedSimpArgs false
/-- a lone frame stays the one that it is -/
def Help.Kn (H H1 : Help) : Prop := H.rest = [] → H1.rest = [] ∧ H1.top.s = H.top.s ∧ H1.top.g = H.top.g ∧ H1.slot = H.top.s ∧ H1.gen = H.top.g
/-- so many steps without an error; none of them is made when it is over -/
inductive Goes : Help → Ar → Nat → Help → Ar → Prop
  | refl (H : Help) (A : Ar) : Goes H A 0 H A
  | step {H : Help} {A : Ar} {n : Nat} {H' : Help} {A' : Ar} : H.over = false → (H.step A).2.1 = 0 → H.Kn (H.step A).1 → Goes (H.step A).1 (H.step A).2.2 n H' A' → Goes H A (n + 1) H' A'
theorem Goes.trans {H : Help} {A : Ar} {n : Nat} {H1 : Help} {A1 : Ar} (a : Goes H A n H1 A1) : ∀ {m : Nat} {H2 : Help} {A2 : Ar}, Goes H1 A1 m H2 A2 → Goes H A (n + m) H2 A2 := by
  induction a with
  | refl => intro m H2 A2 b; rw [Nat.zero_add]; exact b
  | step h1 h2 hk _ ih => intro m H2 A2 b; rw [Nat.add_right_comm]; exact .step h1 h2 hk (ih b)
theorem Goes.runs {H : Help} {A : Ar} {n : Nat} {H' : Help} {A' : Ar} (a : Goes H A n H' A') (ho : H'.over = true) : ∀ {N m : Nat}, n ≤ N → 0 < n → Go.Proofs.Ytbiappodepnbmaa.runs N H A false m = some (H', A', true, m + n) := by
  induction a with
  | refl => intro N m _ h; omega
  | @step H A n H' A' h1 h2 hk h3 ih =>
    intro N m hN _
    obtain ⟨N, rfl⟩ : ∃ N', N = N' + 1 := ⟨N - 1, by omega⟩
    unfold Go.Proofs.Ytbiappodepnbmaa.runs
    simp only [h2]
    cases n with
    | zero =>
      cases h3
      rw [ho]
      cases N <;> (unfold Go.Proofs.Ytbiappodepnbmaa.runs; rfl)
    | succ n =>
      have hov : (H.step A).1.over = false := by cases h3 with | step a _ _ _ => exact a
      rw [hov, ih ho (by omega) (by omega)]
      congr 4; omega
theorem Goes.ok {H : Help} {A : Ar} {n : Nat} {H' : Help} {A' : Ar} (a : Goes H A n H' A') : H.ok → A.ok → H'.ok ∧ A'.ok := by
  induction a with
  | refl => intro h1 h2; exact ⟨h1, h2⟩
  | step _ _ _ _ ih => intro h1 h2; have := Help.step_ok h1 h2; exact ih this.1 this.2
/-- the same of a descriptor's frame, as long as it stays atop -/
inductive Fgo (t : Int) : Wh → Int → Ar → Nat → Wh → Int → Ar → Prop
  | refl (w : Wh) (q : Int) (A : Ar) : Fgo t w q A 0 w q A
  | step {w : Wh} {q : Int} {A : Ar} {n : Nat} {w1 w' : Wh} {q1 q' : Int} {A1 A' : Ar} : w.step t q A = ⟨.who w1, none, false, true, A1, q1⟩ → Fgo t w1 q1 A1 n w' q' A' → Fgo t w q A (n + 1) w' q' A'
theorem Fgo.trans {t : Int} {w : Wh} {q : Int} {A : Ar} {n : Nat} {w1 : Wh} {q1 : Int} {A1 : Ar} (a : Fgo t w q A n w1 q1 A1) : ∀ {m : Nat} {w2 : Wh} {q2 : Int} {A2 : Ar}, Fgo t w1 q1 A1 m w2 q2 A2 → Fgo t w q A (n + m) w2 q2 A2 := by
  induction a with
  | refl => intro m w2 q2 A2 b; rw [Nat.zero_add]; exact b
  | step h1 _ ih => intro m w2 q2 A2 b; rw [Nat.add_right_comm]; exact .step h1 (ih b)
theorem Fgo.one {t : Int} {w w1 : Wh} {q q1 : Int} {A A1 : Ar} (h : w.step t q A = ⟨.who w1, none, false, true, A1, q1⟩) : Fgo t w q A 1 w1 q1 A1 := .step h (.refl _ _ _)
theorem Wh.step_sg {t q : Int} {w w1 : Wh} {A A1 : Ar} {q1 : Int} {at_ : Option Form} {ov gd : Bool} (h : w.step t q A = ⟨.who w1, at_, ov, gd, A1, q1⟩) : w1.s = w.s ∧ w1.g = w.g := by
  unfold Wh.step at h
  split at h <;> first | (cases h; exact ⟨rfl, rfl⟩) | skip
  · unfold Wh.swapIn at h
    simp only at h
    split at h
    · cases h; exact ⟨rfl, rfl⟩
    · split at h
      · cases h; exact ⟨rfl, rfl⟩
      · cases h; exact ⟨rfl, rfl⟩
      · cases h; exact ⟨rfl, rfl⟩
      · split at h <;> (cases h; exact ⟨rfl, rfl⟩)
  · simp only at h
    split at h <;> (cases h; exact ⟨rfl, rfl⟩)
def Help.at (H : Help) (q : Int) (w : Wh) : Help := { H with q := q, top := .who w, slot := w.s, gen := w.g }
theorem Fgo.goes {t : Int} {w : Wh} {q : Int} {A : Ar} {n : Nat} {w' : Wh} {q' : Int} {A' : Ar} (a : Fgo t w q A n w' q' A') : ∀ {H : Help}, 0 < n → H.over = false → H.top = .who w → H.q = q → H.t = t → Goes H A n (H.at q' w') A' := by
  induction a with
  | refl => intro H h; omega
  | @step w q A n w1 w' q1 q' A1 A' h1 h2 ih =>
    intro H _ ho ht hq hT
    have hst : H.step A = (H.at q1 w1, 0, A1) := by
      rw [Help.step_eq ho, ht, hq, hT]
      have : (Fr.who w).step t q A = ⟨.who w1, none, false, true, A1, q1⟩ := h1
      rw [this]
      unfold Help.take
      simp only [Option.bind_none]
      have e := Wh.step_sg h1
      simp only [Help.at, e.1, e.2, ht]; rfl
    have e := Wh.step_sg h1
    refine .step ho (by rw [hst]) (by rw [hst]; exact fun hr => ⟨hr, by rw [ht]; exact e.1, by rw [ht]; exact e.2, by rw [ht]; exact e.1, by rw [ht]; exact e.2⟩) ?_
    rw [hst]
    cases n with
    | zero => cases h2; exact .refl _ _
    | succ n => exact ih (H := H.at q1 w1) (by omega) ho rfl rfl hT
/-- the frame goes: what stays -/
def Help.popped (H : Help) (q s g : Int) (won : Bool) (f : Fr) : Help :=
  match H.rest with
  | [] => { H with q := q, top := f, slot := s, gen := g, won := won, over := true }
  | r :: rs => { H with q := q, top := r, rest := rs, slot := s, gen := g, won := false }
theorem Goes.pop {H : Help} {A A1 : Ar} {w w1 : Wh} {q1 : Int} (ho : H.over = false) (ht : H.top = .who w) (h : w.step H.t H.q A = ⟨.who w1, none, true, true, A1, q1⟩) : Goes H A 1 (H.popped q1 w.s w.g w1.won (.who w1)) A1 := by
  have hst : H.step A = (H.popped q1 w.s w.g w1.won (.who w1), 0, A1) := by
    rw [Help.step_eq ho, ht]
    have : (Fr.who w).step H.t H.q A = ⟨.who w1, none, true, true, A1, q1⟩ := h
    rw [this]
    unfold Help.take Help.popped
    simp only [Option.bind_none, ht]
    cases H.rest <;> rfl
  have e := Wh.step_sg h
  refine .step ho (by rw [hst]) (by
    rw [hst]
    intro hr
    unfold Help.popped
    rw [hr, ht]
    exact ⟨rfl, e.1, e.2, rfl, rfl⟩) ?_
  rw [hst]; exact .refl _ _
/-! ### words -/
theorem plainOf_val {v : Int} (h0 : 0 ≤ v) (h1 : v < 1099511627776) : plainOf (v * 4) = some v := by
  have : read (v * 4) = some (.val v) := read_number (f := .val v) (may_val.2 ⟨h0, h1⟩)
  unfold plainOf; rw [this]
theorem valOf_val {v : Int} (h0 : 0 ≤ v) (h1 : v < 1099511627776) : valOf (v * 4) = v := by unfold valOf; rw [plainOf_val h0 h1]; rfl
theorem isVal_val {v most : Int} (h0 : 0 ≤ v) (h1 : v < 1099511627776) (h2 : v ≤ most) : isVal (v * 4) most = true := by
  unfold isVal; rw [plainOf_val h0 h1, valOf_val h0 h1, decide_eq_true h2]; rfl
theorem stateW_val {g st : Int} (h0 : 0 ≤ g) (h1 : g < 65536) (h2 : 0 ≤ st) (h3 : st < 4) : (plainOf (stateW g st)).isSome = true := by
  unfold stateW; rw [plainOf_val (by omega) (by omega)]; rfl
theorem stateW_inj {g a b : Int} : stateW g a = stateW g b ↔ a = b := by unfold stateW; omega
theorem mcas_not_val {s g v : Int} : (Form.mcas s g).number ≠ v * 4 := by simp only [Form.number]; omega
theorem entry_not_val {s g e t q v : Int} : (Form.entry s g e t q).number ≠ v * 4 := by simp only [Form.number]; omega
theorem entry_not_mcas {s g e t q s' g' : Int} : (Form.entry s g e t q).number ≠ (Form.mcas s' g').number := by simp only [Form.number]; omega
/-- a frame of a descriptor that is written, over a memory -/
structure On (A : Ar) (w : Wh) (st : Int) (ds : List Sw) : Prop where
  ok : A.ok
  life : Life w.s w.g
  may : swMay ds = true
  d : Dsc A w.s w.g st ds
theorem On.keep {A A' : Ar} {w w' : Wh} {st : Int} {ds : List Sw} (o : On A w st ds) (ok : A'.ok) (es : w'.s = w.s) (eg : w'.g = w.g) (h : ∀ j, 34 ≤ j → j < 634 → A'.at j = A.at j) : On A' w' st ds := by
  have hb : baseOf w.s = 34 + w.s * 50 := rfl
  have h0 := o.life.s0
  have h1 := o.life.s1
  refine ⟨ok, by rw [es, eg]; exact o.life, o.may, ?_⟩
  rw [es, eg]
  exact o.d.keep o.may fun j j0 j1 => h j (by omega) (by omega)
theorem base_range {s : Int} (h0 : 0 ≤ s) (h1 : s < 12) {i : Int} (i0 : 0 ≤ i) (i1 : i < 50) : 34 ≤ baseOf s + i ∧ baseOf s + i < 634 := by
  unfold baseOf; omega
section
variable {t q : Int} {A : Ar} {w : Wh} {st : Int} {ds : List Sw}
theorem step_ask_open (o : On A w 0 ds) (hp : w.pc = 1) : w.step t q A = ⟨.who { w with opn := true, won := false, pc := 2 }, none, false, true, A.ld (baseOf w.s), q⟩ := by
  unfold Wh.step
  rw [hp]
  have e := o.d.st
  simp only [e, decide_eq_true (rfl : stateW w.g 0 = stateW w.g 0), decide_eq_false (show ¬ stateW w.g 0 = stateW w.g 1 by rw [stateW_inj]; decide), stateW_val o.life.g0 o.life.g1 (show (0 : Int) ≤ 0 by decide) (by decide), decide_true, if_true]
theorem step_ask_shut (o : On A w st ds) (hp : w.pc = 1) (h1 : st = 1 ∨ st = 2) : w.step t q A = ⟨.who { w with opn := false, won := decide (st = 1), pc := 10 }, none, false, true, A.ld (baseOf w.s), q⟩ := by
  unfold Wh.step
  rw [hp]
  have e := o.d.st
  have n0 : ¬ stateW w.g st = stateW w.g 0 := by rw [stateW_inj]; omega
  have n1 : decide (stateW w.g st = stateW w.g 1) = decide (st = 1) := decide_eq_decide.2 stateW_inj
  simp only [e, decide_eq_false n0, n1, stateW_val o.life.g0 o.life.g1 (show 0 ≤ st by omega) (by omega), Bool.false_eq_true, if_false]
theorem On.cnt (o : On A w st ds) : valOf (A.at (baseOf w.s + 1)) = ds.length ∧ isVal (A.at (baseOf w.s + 1)) 16 = true := by
  have hl := sw_len o.may
  rw [o.d.cnt]
  exact ⟨valOf_val (by omega) (by omega), isVal_val (by omega) (by omega) (by omega)⟩
theorem step_count (o : On A w st ds) (hp : w.pc = 2) : w.step t q A = ⟨.who { w with k := ds.length, i := 0, pc := if ds.length = 0 then 8 else 3 }, none, false, true, A.ld (baseOf w.s + 1), q⟩ := by
  unfold Wh.step
  rw [hp]
  obtain ⟨e1, e2⟩ := o.cnt
  simp only [e1, e2]
  congr 3
  simp only [Int.natCast_eq_zero]
theorem step_count2 (o : On A w st ds) (hp : w.pc = 10) (hn : ds.length ≠ 0) : w.step t q A = ⟨.who { w with k := ds.length, i := 0, pc := 11 }, none, false, true, A.ld (baseOf w.s + 1), q⟩ := by
  unfold Wh.step
  rw [hp]
  obtain ⟨e1, e2⟩ := o.cnt
  simp only [e1, e2, decide_eq_false (show ¬ ((ds.length : Int) = 0) by omega)]
theorem step_count0 (o : On A w st ds) (hp : w.pc = 10) (hn : ds.length = 0) : w.step t q A = ⟨.who { w with k := ds.length, i := 0, pc := 11 }, none, true, true, A.ld (baseOf w.s + 1), q⟩ := by
  unfold Wh.step
  rw [hp]
  obtain ⟨e1, e2⟩ := o.cnt
  simp only [e1, e2, decide_eq_true (show ((ds.length : Int) = 0) by omega)]
variable {k : Nat} {d : Sw}
theorem step_cell (o : On A w st ds) (hp : w.pc = 3) (hi : w.i = k) (hd : ds[k]? = some d) : w.step t q A = ⟨.who { w with cell := d.c, pc := 4 }, none, false, true, A.ld (baseOf w.s + (2 + 3 * w.i + 0)), q⟩ := by
  unfold Wh.step
  rw [hp]
  have e := o.d.c k d hd
  have m := sw_mem o.may hd
  rw [← hi] at e
  simp only [e, valOf_val m.1 (by omega), isVal_val m.1 (by omega) (show d.c ≤ 15 by omega)]
theorem step_was (o : On A w st ds) (hp : w.pc = 4) (hi : w.i = k) (hd : ds[k]? = some d) : w.step t q A = ⟨.who { w with was := d.w * 4, pc := 5 }, none, false, true, A.ld (baseOf w.s + (2 + 3 * w.i + 1)), q⟩ := by
  unfold Wh.step
  rw [hp]
  have e := o.d.w k d hd
  have m := sw_mem o.may hd
  rw [← hi] at e
  simp only [e, valOf_val m.2.2.1 m.2.2.2.1, isVal_val m.2.2.1 m.2.2.2.1 (show d.w ≤ 1099511627775 by omega)]
theorem step_cell2 (o : On A w st ds) (hp : w.pc = 11) (hi : w.i = k) (hd : ds[k]? = some d) : w.step t q A = ⟨.who { w with cell := d.c, pc := 12 }, none, false, true, A.ld (baseOf w.s + (2 + 3 * w.i + 0)), q⟩ := by
  unfold Wh.step
  rw [hp]
  have e := o.d.c k d hd
  have m := sw_mem o.may hd
  rw [← hi] at e
  simp only [e, valOf_val m.1 (by omega), isVal_val m.1 (by omega) (show d.c ≤ 15 by omega)]
theorem step_will (o : On A w st ds) (hp : w.pc = 12) (hi : w.i = k) (hd : ds[k]? = some d) : w.step t q A = ⟨.who { w with x := (if w.won then d.n else d.w) * 4, pc := 13 }, none, false, true, A.ld (baseOf w.s + (2 + 3 * w.i + if w.won then 2 else 1)), q⟩ := by
  unfold Wh.step
  rw [hp]
  have m := sw_mem o.may hd
  cases hw : w.won with
  | true =>
    have e := o.d.n k d hd
    rw [← hi] at e
    simp only [if_true, e, valOf_val m.2.2.2.2.1 m.2.2.2.2.2, isVal_val m.2.2.2.2.1 m.2.2.2.2.2 (show d.n ≤ 1099511627775 by omega)]
  | false =>
    have e := o.d.w k d hd
    rw [← hi] at e
    simp only [Bool.false_eq_true, if_false, e, valOf_val m.2.2.1 m.2.2.2.1, isVal_val m.2.2.1 m.2.2.2.1 (show d.w ≤ 1099511627775 by omega)]
theorem step_settled (o : On A w st ds) (hp : w.pc = 6) (h0 : 0 ≤ st) (h3 : st < 3) : w.step t q A = ⟨.who { w with opn := decide (st = 0), won := decide (st = 1), pc := 7 }, none, false, true, A.ld (baseOf w.s), q⟩ := by
  unfold Wh.step
  rw [hp]
  have e := o.d.st
  have n0 : decide (stateW w.g st = stateW w.g 0) = decide (st = 0) := decide_eq_decide.2 stateW_inj
  have n1 : decide (stateW w.g st = stateW w.g 1) = decide (st = 1) := decide_eq_decide.2 stateW_inj
  simp only [e, n0, n1, stateW_val o.life.g0 o.life.g1 h0 (by omega)]
end
end Go.Proofs.Ytbiappodepnbmaa
namespace Go.Proofs.Ytbiappodepnbmaa
open Go GW Go.Proofs
set_option linter.unusedVariables false
set_option linter.unusedSimpArgs false
section
variable {t q : Int} {A : Ar} {w : Wh} {st : Int} {ds : List Sw} {k : Nat} {d : Sw}
theorem On.ent_addr (o : On A w st ds) (hd : ds[k]? = some d) {p : Int} (h0 : 0 ≤ p) (h1 : p < 3) : 34 ≤ baseOf w.s + (2 + 3 * (k : Int) + p) ∧ baseOf w.s + (2 + 3 * (k : Int) + p) < 634 := by
  have hl := sw_len o.may
  have hk := (List.getElem?_eq_some_iff.1 hd).1
  exact base_range o.life.s0 o.life.s1 (by omega) (by omega)
/-- a load leaves all as it was -/
theorem On.ld (o : On A w st ds) {i : Int} (h0 : 0 ≤ i) (h1 : i < 634) {w' : Wh} (es : w'.s = w.s) (eg : w'.g = w.g) : On (A.ld i) w' st ds :=
  o.keep (o.ok.ld i) es eg fun j j0 j1 => at_ld o.ok h0 h1 (by omega) j1
/-- a swap of a cell leaves the descriptor -/
theorem On.cas (o : On A w st ds) {i old x : Int} (h0 : 0 ≤ i) (h1 : i < 16) (hx : I64 x) {w' : Wh} (es : w'.s = w.s) (eg : w'.g = w.g) : On (A.cas i old x) w' st ds :=
  o.keep (o.ok.cas _ _ hx) es eg fun j j0 j1 => by rw [at_cas o.ok h0 (by omega) (by omega) j1, if_neg (by omega)]
/-- its first three steps at an entry: two loads -/
theorem two_loads (o : On A w st ds) (hp : w.pc = 3) (hi : w.i = k) (hd : ds[k]? = some d) : ∃ A', Fgo t w q A 2 { w with cell := d.c, was := d.w * 4, pc := 5 } q A' ∧ On A' { w with cell := d.c, was := d.w * 4, pc := 5 } st ds ∧ ∀ j, 0 ≤ j → j < 634 → A'.at j = A.at j := by
  have a0 := o.ent_addr hd (p := 0) (by decide) (by decide)
  have a1 := o.ent_addr hd (p := 1) (by decide) (by decide)
  rw [← hi] at a0 a1
  have o1 : On _ { w with cell := d.c, pc := 4 } st ds := o.ld (by omega) a0.2 rfl rfl
  have o2 : On _ { w with cell := d.c, was := d.w * 4, pc := 5 } st ds := o1.ld (i := baseOf w.s + (2 + 3 * w.i + 1)) (by omega) a1.2 rfl rfl
  refine ⟨_, .step (step_cell o hp hi hd) (.one (step_was o1 rfl hi hd)), o2, fun j j0 j1 => ?_⟩
  rw [at_ld o1.ok (by (first | omega | (simp only; omega))) a1.2 j0 j1, at_ld o.ok (by omega) a0.2 j0 j1]
/-- a cell that is as it was is had -/
theorem acq (o : On A w 0 ds) (hp : w.pc = 3) (hi : w.i = k) (hk : w.k = ds.length) (hd : ds[k]? = some d) (hv : A.at d.c = d.w * 4) (t0 : 0 ≤ t) (t1 : t < 4) (q0 : 0 ≤ q) (q1 : q < 1048576) :
    ∃ w' A', Fgo t w q A 5 w' ((q + 1) % 1048576) A' ∧ On A' w' 0 ds ∧ w'.i = k + 1 ∧ w'.k = ds.length ∧ w'.s = w.s ∧ w'.g = w.g ∧ w'.pc = (if ds.length = k + 1 then 8 else 3) ∧ A'.at d.c = (Form.mcas w.s w.g).number ∧ ∀ j, 0 ≤ j → j < 634 → j ≠ d.c → A'.at j = A.at j := by
  obtain ⟨A2, f2, o2, e2⟩ := two_loads (t := t) (q := q) o hp hi hd
  have m := sw_mem o.may hd
  have hkl := (List.getElem?_eq_some_iff.1 hd).1
  have hl := sw_len o.may
  have hpn := entry_range (e := w.i) (t := t) (q := q) o.life (by omega) (by omega) t0 t1 q0 q1
  have hmn := mcas_range o.life
  generalize hpe : (Form.entry w.s w.g w.i t q).number = p at hpn
  have o3 : On (A2.cas d.c (d.w * 4) p) { w with cell := d.c, was := d.w * 4, put := p, pc := 6 } 0 ds := o2.cas m.1 m.2.1 hpn rfl rfl
  have s3 : Wh.step t q { w with cell := d.c, was := d.w * 4, pc := 5 } A2 = ⟨.who { w with cell := d.c, was := d.w * 4, put := p, pc := 6 }, none, false, true, A2.cas d.c (d.w * 4) p, (q + 1) % 1048576⟩ := by
    rw [Wh.step5 rfl]
    unfold Wh.swapIn
    simp only
    rw [if_pos (by rw [e2 _ m.1 (by omega), hv]), hpe]
  have e3 : ∀ j, 0 ≤ j → j < 634 → (A2.cas d.c (d.w * 4) p).at j = if d.c = j then p else A.at j := by
    intro j j0 j1
    rw [at_cas o2.ok m.1 (by omega) j0 j1]
    split
    · rw [if_pos (by rw [e2 _ m.1 (by omega), hv])]
    · exact e2 j j0 j1
  have hb := base_range o.life.s0 o.life.s1 (i := 0) (by decide) (by decide)
  rw [Int.add_zero] at hb
  have s4 := step_settled (t := t) (q := (q + 1) % 1048576) o3 rfl (by decide) (by decide)
  have o4 : On ((A2.cas d.c (d.w * 4) p).ld (baseOf w.s)) { w with cell := d.c, was := d.w * 4, put := p, opn := decide ((0 : Int) = 0), won := decide ((0 : Int) = 1), pc := 7 } 0 ds := o3.ld (by omega) hb.2 rfl rfl
  let w5 : Wh := ({ w with cell := d.c, was := d.w * 4, put := p, opn := decide ((0 : Int) = 0), won := decide ((0 : Int) = 1), pc := 7 } : Wh).next 3 8
  let A4 := (A2.cas d.c (d.w * 4) p).ld (baseOf w.s)
  have s5 : Wh.step t ((q + 1) % 1048576) { w with cell := d.c, was := d.w * 4, put := p, opn := decide ((0 : Int) = 0), won := decide ((0 : Int) = 1), pc := 7 } A4 = ⟨.who w5, none, false, true, A4.cas d.c p (Form.mcas w.s w.g).number, (q + 1) % 1048576⟩ := rfl
  have o5 : On (A4.cas d.c p (Form.mcas w.s w.g).number) w5 0 ds := o4.cas m.1 m.2.1 hmn rfl rfl
  have e4 : A4.at d.c = p := by
    show ((A2.cas d.c (d.w * 4) p).ld (baseOf w.s)).at d.c = p
    rw [at_ld o3.ok (by omega) hb.2 m.1 (by omega), e3 _ m.1 (by omega), if_pos rfl]
  refine ⟨w5, _, f2.trans (.step s3 (.step s4 (.one s5))), o5, ?_, hk, rfl, rfl, ?_, ?_, fun j j0 j1 jn => ?_⟩
  · simp only [w5, Wh.next]; omega
  · simp only [w5, Wh.next]
    by_cases c : ds.length = k + 1
    · rw [if_pos c, if_pos (by omega)]
    · rw [if_neg c, if_neg (by omega)]
  · rw [at_cas o4.ok m.1 (by omega) m.1 (by omega), if_pos rfl, if_pos e4]
  · rw [at_cas o4.ok m.1 (by omega) j0 j1, if_neg (Ne.symm jn)]
    show ((A2.cas d.c (d.w * 4) p).ld (baseOf w.s)).at j = A.at j
    rw [at_ld o3.ok (by omega) hb.2 j0 j1, e3 _ j0 j1, if_neg (Ne.symm jn)]
/-- a cell that holds the descriptor is had -/
theorem acq_mine (o : On A w st ds) (hp : w.pc = 3) (hi : w.i = k) (hk : w.k = ds.length) (hd : ds[k]? = some d) (hv : A.at d.c = (Form.mcas w.s w.g).number) (t0 : 0 ≤ t) (t1 : t < 4) (q0 : 0 ≤ q) (q1 : q < 1048576) :
    ∃ w' A', Fgo t w q A 3 w' ((q + 1) % 1048576) A' ∧ On A' w' st ds ∧ w'.i = k + 1 ∧ w'.k = ds.length ∧ w'.s = w.s ∧ w'.g = w.g ∧ w'.pc = (if ds.length = k + 1 then 8 else 3) ∧ ∀ j, 0 ≤ j → j < 634 → A'.at j = A.at j := by
  obtain ⟨A2, f2, o2, e2⟩ := two_loads (t := t) (q := q) o hp hi hd
  have m := sw_mem o.may hd
  have hkl := (List.getElem?_eq_some_iff.1 hd).1
  have hl := sw_len o.may
  have hpn := entry_range (e := w.i) (t := t) (q := q) o.life (by omega) (by omega) t0 t1 q0 q1
  generalize hpe : (Form.entry w.s w.g w.i t q).number = p at hpn
  have hr : read (A2.at d.c) = some (.mcas w.s w.g) := by
    rw [e2 _ m.1 (by omega), hv]; exact read_number (may_mcas.2 ⟨o.life.s0, o.life.s1, o.life.g0, o.life.g1⟩)
  have hn : ¬ A2.at d.c = d.w * 4 := by rw [e2 _ m.1 (by omega), hv]; exact mcas_not_val
  let w5 : Wh := ({ w with cell := d.c, was := d.w * 4, put := p, pc := 5 } : Wh).next 3 8
  have s3 : Wh.step t q { w with cell := d.c, was := d.w * 4, pc := 5 } A2 = ⟨.who w5, none, false, true, A2.cas d.c (d.w * 4) p, (q + 1) % 1048576⟩ := by
    rw [Wh.step5 rfl]
    unfold Wh.swapIn
    simp only
    rw [if_neg hn, hr]
    simp only [and_self, if_true, hpe]
    rfl
  have o5 : On (A2.cas d.c (d.w * 4) p) w5 st ds := o2.cas m.1 m.2.1 hpn rfl rfl
  refine ⟨w5, _, f2.trans (.one s3), o5, ?_, hk, rfl, rfl, ?_, fun j j0 j1 => ?_⟩
  · simp only [w5, Wh.next]; omega
  · simp only [w5, Wh.next]
    by_cases c : ds.length = k + 1
    · rw [if_pos c, if_pos (by omega)]
    · rw [if_neg c, if_neg (by omega)]
  · rw [at_cas o2.ok m.1 (by omega) j0 j1]
    by_cases e : d.c = j
    · subst e; rw [if_pos rfl, if_neg hn]; exact e2 _ j0 j1
    · rw [if_neg e]; exact e2 j j0 j1
/-- a swap at a cell that holds another value is lost -/
theorem lose_swap (o : On A w st ds) (hp : w.pc = 5) (hc0 : 0 ≤ w.cell) (hc1 : w.cell < 16) (hi0 : 0 ≤ w.i) (hi1 : w.i < 16) {v : Int} (v0 : 0 ≤ v) (v1 : v < 1099511627776) (hv : A.at w.cell = v * 4) (hn : v * 4 ≠ w.was) (t0 : 0 ≤ t) (t1 : t < 4) (q0 : 0 ≤ q) (q1 : q < 1048576) :
    ∃ w' A', Fgo t w q A 1 w' ((q + 1) % 1048576) A' ∧ On A' w' st ds ∧ w'.s = w.s ∧ w'.g = w.g ∧ w'.pc = 9 ∧ ∀ j, 0 ≤ j → j < 634 → A'.at j = A.at j := by
  have hpn := entry_range (e := w.i) (t := t) (q := q) o.life hi0 hi1 t0 t1 q0 q1
  have hr : read (A.at w.cell) = some (.val v) := by rw [hv]; exact read_number (f := .val v) (may_val.2 ⟨v0, v1⟩)
  have hn' : ¬ A.at w.cell = w.was := by rw [hv]; exact hn
  refine ⟨{ w with put := (Form.entry w.s w.g w.i t q).number, pc := 9 }, A.cas w.cell w.was (Form.entry w.s w.g w.i t q).number, .one ?_, o.cas hc0 hc1 hpn rfl rfl, rfl, rfl, rfl, fun j j0 j1 => ?_⟩
  · rw [Wh.step5 hp]
    unfold Wh.swapIn
    simp only
    rw [if_neg hn', hr]
  · rw [at_cas o.ok hc0 (by omega) j0 j1]
    by_cases e : w.cell = j
    · subst e; rw [if_pos rfl, if_neg hn']
    · rw [if_neg e]
/-- the decision -/
theorem decides (o : On A w 0 ds) (hp : w.pc = 8 ∨ w.pc = 9) :
    ∃ w' A', Fgo t w q A 1 w' q A' ∧ On A' w' (if w.pc = 8 then 1 else 2) ds ∧ w'.s = w.s ∧ w'.g = w.g ∧ w'.pc = 1 ∧ ∀ j, 0 ≤ j → j < 634 → j ≠ baseOf w.s → A'.at j = A.at j := by
  have hb := base_range o.life.s0 o.life.s1 (i := 0) (by decide) (by decide)
  rw [Int.add_zero] at hb
  let z : Int := if w.pc = 8 then 1 else 2
  have hz : z = 1 ∨ z = 2 := by simp only [z]; split <;> simp
  have hzr : I64 (stateW w.g z) := stateW_range o.life.g0 o.life.g1 (by omega) (by omega)
  have hs : w.step t q A = ⟨.who { w with pc := 1 }, none, false, true, A.cas (baseOf w.s) (stateW w.g 0) (stateW w.g z), q⟩ := by
    unfold Wh.step
    rcases hp with hp | hp
    · rw [hp]; simp only [z, if_pos hp]
    · rw [hp]; simp only [z, if_neg (show ¬ w.pc = 8 by omega)]
  have at' : ∀ j, 0 ≤ j → j < 634 → (A.cas (baseOf w.s) (stateW w.g 0) (stateW w.g z)).at j = if baseOf w.s = j then stateW w.g z else A.at j := by
    intro j j0 j1
    rw [at_cas o.ok (by omega) hb.2 j0 j1]
    split
    · rw [if_pos o.d.st]
    · rfl
  refine ⟨{ w with pc := 1 }, _, .one hs, ⟨o.ok.cas _ _ hzr, o.life, o.may, ?_⟩, rfl, rfl, rfl, fun j j0 j1 jn => ?_⟩
  · have hl := sw_len o.may
    refine ⟨?_, ?_, fun i d e => ?_, fun i d e => ?_, fun i d e => ?_⟩
    · rw [at' _ (by omega) hb.2, if_pos rfl]
    · have := base_range o.life.s0 o.life.s1 (i := 1) (by decide) (by decide)
      rw [at' _ (by (first | omega | (simp only; omega))) (by (first | omega | (simp only; omega))), if_neg (by (first | omega | (simp only; omega)))]; exact o.d.cnt
    · have := o.ent_addr e (p := 0) (by decide) (by decide)
      rw [at' _ (by (first | omega | (simp only; omega))) (by (first | omega | (simp only; omega))), if_neg (by (first | omega | (simp only; omega)))]; exact o.d.c i d e
    · have := o.ent_addr e (p := 1) (by decide) (by decide)
      rw [at' _ (by (first | omega | (simp only; omega))) (by (first | omega | (simp only; omega))), if_neg (by (first | omega | (simp only; omega)))]; exact o.d.w i d e
    · have := o.ent_addr e (p := 2) (by decide) (by decide)
      rw [at' _ (by (first | omega | (simp only; omega))) (by (first | omega | (simp only; omega))), if_neg (by (first | omega | (simp only; omega)))]; exact o.d.n i d e
  · rw [at' j j0 j1, if_neg (Ne.symm jn)]
/-- a cell is freed: the first two steps, and the third one -/
theorem rel2 (o : On A w st ds) (hp : w.pc = 11) (hi : w.i = k) (hd : ds[k]? = some d) :
    ∃ A', Fgo t w q A 2 { w with cell := d.c, x := (if w.won then d.n else d.w) * 4, pc := 13 } q A' ∧ On A' { w with cell := d.c, x := (if w.won then d.n else d.w) * 4, pc := 13 } st ds ∧ ∀ j, 0 ≤ j → j < 634 → A'.at j = A.at j := by
  have a0 := o.ent_addr hd (p := 0) (by decide) (by decide)
  have a1 := o.ent_addr hd (p := if w.won then 2 else 1) (by split <;> decide) (by split <;> decide)
  rw [← hi] at a0 a1
  have o1 : On _ { w with cell := d.c, pc := 12 } st ds := o.ld (by omega) a0.2 rfl rfl
  have o2 : On _ { w with cell := d.c, x := (if w.won then d.n else d.w) * 4, pc := 13 } st ds := o1.ld (i := baseOf w.s + (2 + 3 * w.i + if w.won then 2 else 1)) (by omega) a1.2 rfl rfl
  refine ⟨_, .step (step_cell2 o hp hi hd) (.one (step_will o1 rfl hi hd)), o2, fun j j0 j1 => ?_⟩
  rw [at_ld o1.ok (by (first | omega | (simp only; omega))) a1.2 j0 j1, at_ld o.ok (by omega) a0.2 j0 j1]
theorem rel3_at (o : On A w st ds) (hc0 : 0 ≤ w.cell) (hc1 : w.cell < 16) (hx : I64 w.x) {j : Int} (j0 : 0 ≤ j) (j1 : j < 634) : (A.cas w.cell w.mine w.x).at j = if w.cell = j then (if A.at w.cell = w.mine then w.x else A.at w.cell) else A.at j :=
  at_cas o.ok hc0 (by omega) j0 j1
end
end Go.Proofs.Ytbiappodepnbmaa
namespace Go.Proofs.Ytbiappodepnbmaa
open Go GW Go.Proofs
set_option linter.unusedVariables false
set_option linter.unusedSimpArgs false
section
variable {t : Int} {ds : List Sw} {s g : Int}
theorem acqAll (t0 : 0 ≤ t) (t1 : t < 4) : ∀ (m : Nat) {w : Wh} {q : Int} {A : Ar} {k : Nat}, On A w 0 ds → w.s = s → w.g = g → w.pc = 3 → w.i = k → w.k = ds.length → k < ds.length → k + m ≤ ds.length → 0 ≤ q → q < 1048576 →
    (∀ i d, k ≤ i → i < k + m → ds[i]? = some d → A.at d.c = d.w * 4) →
    ∃ w' A', Fgo t w q A (5 * m) w' ((q + m) % 1048576) A' ∧ On A' w' 0 ds ∧ w'.s = s ∧ w'.g = g ∧ w'.i = (k + m : Nat) ∧ w'.k = ds.length ∧ w'.pc = (if ds.length = k + m then 8 else 3) ∧
      (∀ i d, k ≤ i → i < k + m → ds[i]? = some d → A'.at d.c = (Form.mcas s g).number) ∧ ∀ j, 0 ≤ j → j < 634 → (∀ i d, k ≤ i → i < k + m → ds[i]? = some d → d.c ≠ j) → A'.at j = A.at j := by
  intro m
  induction m with
  | zero =>
    intro w q A k o es eg hp hi hk hkl hkm q0 q1 _
    refine ⟨w, A, ?_, o, es, eg, hi, hk, ?_, fun i d h1 h2 => by omega, fun j _ _ _ => rfl⟩
    · have : (q + ((0 : Nat) : Int)) % 1048576 = q := by omega
      rw [this]; exact .refl _ _ _
    · rw [hp, if_neg (by omega)]
  | succ m ih =>
    intro w q A k o es eg hp hi hk hkl hkm q0 q1 hv
    obtain ⟨d, hd⟩ : ∃ d, ds[k]? = some d := ⟨_, List.getElem?_eq_getElem hkl⟩
    obtain ⟨w1, A1, f1, o1, i1, k1, s1, g1, p1, c1, r1⟩ := acq (t := t) (q := q) o hp hi hk hd (hv k d (Nat.le_refl _) (by omega) hd) t0 t1 q0 q1
    rw [es, eg] at c1
    by_cases hend : ds.length = k + 1
    · have hm : m = 0 := by omega
      subst hm
      refine ⟨w1, A1, f1, o1, by rw [s1, es], by rw [g1, eg], by rw [i1]; omega, k1, by rw [p1], fun i d' h1 h2 hd' => ?_, fun j j0 j1 hj => ?_⟩
      · have : i = k := by omega
        subst this
        rw [hd] at hd'; cases hd'; exact c1
      · exact r1 j j0 j1 fun e => hj k d (Nat.le_refl _) (by omega) hd e.symm
    · have m' := sw_mem o.may hd
      obtain ⟨w2, A2, f2, o2, s2, g2, i2, k2, p2, c2, r2⟩ := ih (q := (q + 1) % 1048576) (k := k + 1) o1 (by rw [s1, es]) (by rw [g1, eg]) (by rw [p1, if_neg hend]) (by rw [i1]; omega) k1 (by omega) (by omega) (by omega) (by omega) fun i d' h1 h2 hd' => by
        have md := sw_mem o.may hd'
        rw [r1 d'.c md.1 (by omega) fun e => by have := sw_inj o.may hd' hd e; omega]
        exact hv i d' (by omega) (by omega) hd'
      refine ⟨w2, A2, ?_, o2, s2, g2, by rw [i2]; omega, k2, ?_, fun i d' h1 h2 hd' => ?_, fun j j0 j1 hj => ?_⟩
      · have e1 : 5 * (m + 1) = 5 + 5 * m := by omega
        have e2 : (q + ((m + 1 : Nat) : Int)) % 1048576 = ((q + 1) % 1048576 + (m : Nat)) % 1048576 := by omega
        rw [e1, e2]; exact f1.trans f2
      · rw [p2]
        by_cases c : ds.length = k + 1 + m
        · rw [if_pos c, if_pos (by omega)]
        · rw [if_neg c, if_neg (by omega)]
      · by_cases e : i = k
        · subst e
          rw [hd] at hd'; cases hd'
          rw [r2 d.c m'.1 (by omega) fun i' d' h1' h2' hd' e => by have := sw_inj o.may hd' hd e; omega]
          exact c1
        · exact c2 i d' (by omega) (by omega) hd'
      · rw [r2 j j0 j1 fun i d' h1 h2 hd' => hj i d' (by omega) (by omega) hd']
        exact r1 j j0 j1 fun e => hj k d (Nat.le_refl _) (by omega) hd e.symm
theorem at_at {H : Help} {q q' : Int} {w w' : Wh} : (H.at q w).at q' w' = H.at q' w' := rfl
theorem popped_at {H : Help} {q q' : Int} {w : Wh} {won : Bool} {f : Fr} : (H.at q w).popped q' s g won f = H.popped q' s g won f := by
  unfold Help.popped Help.at
  cases H.rest <;> rfl
/-- all cells are freed, the frame goes -/
theorem relAll : ∀ (m : Nat) {H : Help} {w : Wh} {A : Ar} {k : Nat} {st : Int}, On A w st ds → w.s = s → w.g = g → w.pc = 11 → w.i = k → w.k = ds.length → ds.length = k + (m + 1) → H.over = false → H.top = .who w →
    ∃ f A', Goes H A (3 * (m + 1)) (H.popped H.q s g w.won f) A' ∧ On A' w st ds ∧
      (∀ i d, k ≤ i → ds[i]? = some d → A'.at d.c = if A.at d.c = (Form.mcas s g).number then (if w.won then d.n else d.w) * 4 else A.at d.c) ∧ ∀ j, 0 ≤ j → j < 634 → (∀ i d, k ≤ i → ds[i]? = some d → d.c ≠ j) → A'.at j = A.at j := by
  intro m
  induction m with
  | zero =>
    intro H w A k st o es eg hp hi hk hkl ho ht
    obtain ⟨d, hd⟩ : ∃ d, ds[k]? = some d := ⟨_, List.getElem?_eq_getElem (by omega)⟩
    obtain ⟨A1, f1, o1, r1⟩ := rel2 (t := H.t) (q := H.q) o hp hi hd
    have md := sw_mem o.may hd
    have hx : I64 ((if w.won = true then d.n else d.w) * 4) := by split <;> (constructor <;> omega)
    have g1 := f1.goes (H := H) (by decide) ho ht rfl rfl
    let w2 : Wh := { w with cell := d.c, x := (if w.won then d.n else d.w) * 4, pc := 13 }
    have s2 : w2.step H.t H.q A1 = ⟨.who (w2.next 11 0), none, true, true, A1.cas w2.cell w2.mine w2.x, H.q⟩ := by
      show (⟨.who (w2.next 11 0), none, decide (w.k ≤ w.i + 1), true, A1.cas w2.cell w2.mine w2.x, H.q⟩ : Out) = _
      rw [decide_eq_true (by omega)]
    have g2 := Goes.pop (H := H.at H.q w2) (w := w2) ho rfl s2
    rw [popped_at] at g2
    refine ⟨.who (w2.next 11 0), A1.cas w2.cell w2.mine w2.x, ?_, ?_, fun i d' h1 hd' => ?_, fun j j0 j1 hj => ?_⟩
    · have := g1.trans g2
      have e1 : w2.s = s := es
      have e2 : w2.g = g := eg
      rw [e1, e2] at this
      exact this
    · exact o1.cas md.1 md.2.1 hx rfl rfl
    · have : i = k := by have := (List.getElem?_eq_some_iff.1 hd').1; omega
      subst this
      rw [hd] at hd'; cases hd'
      rw [rel3_at (w := w2) o1 md.1 md.2.1 hx md.1 (by omega), if_pos rfl, r1 _ md.1 (by omega)]
      have : w2.mine = (Form.mcas s g).number := by rw [← es, ← eg]; rfl
      rw [this]
    · rw [rel3_at (w := w2) o1 md.1 md.2.1 hx j0 j1, if_neg (hj k d (Nat.le_refl _) hd)]
      exact r1 j j0 j1
  | succ m ih =>
    intro H w A k st o es eg hp hi hk hkl ho ht
    obtain ⟨d, hd⟩ : ∃ d, ds[k]? = some d := ⟨_, List.getElem?_eq_getElem (by omega)⟩
    obtain ⟨A1, f1, o1, r1⟩ := rel2 (t := H.t) (q := H.q) o hp hi hd
    have md := sw_mem o.may hd
    have hx : I64 ((if w.won = true then d.n else d.w) * 4) := by split <;> (constructor <;> omega)
    let w2 : Wh := { w with cell := d.c, x := (if w.won then d.n else d.w) * 4, pc := 13 }
    have s2 : w2.step H.t H.q A1 = ⟨.who (w2.next 11 0), none, false, true, A1.cas w2.cell w2.mine w2.x, H.q⟩ := by
      show (⟨.who (w2.next 11 0), none, decide (w.k ≤ w.i + 1), true, A1.cas w2.cell w2.mine w2.x, H.q⟩ : Out) = _
      rw [decide_eq_false (by omega)]
    have f2 := f1.trans (Fgo.one s2)
    have g2 := f2.goes (H := H) (by decide) ho ht rfl rfl
    have o2 : On (A1.cas w2.cell w2.mine w2.x) (w2.next 11 0) st ds := o1.cas md.1 md.2.1 hx rfl rfl
    obtain ⟨f, A3, g3, o3, c3, r3⟩ := ih (H := H.at H.q (w2.next 11 0)) (w := w2.next 11 0) (k := k + 1) o2 es eg (by simp only [Wh.next, w2]; rw [if_neg (by omega)]) (by simp only [Wh.next, w2]; omega) hk (by omega) ho rfl
    have hm : w2.mine = (Form.mcas s g).number := by rw [← es, ← eg]; rfl
    have a2 : ∀ j, 0 ≤ j → j < 634 → (A1.cas w2.cell w2.mine w2.x).at j = if d.c = j then (if A.at d.c = (Form.mcas s g).number then (if w.won then d.n else d.w) * 4 else A.at d.c) else A.at j := by
      intro j j0 j1
      rw [rel3_at (w := w2) o1 md.1 md.2.1 hx j0 j1, hm]
      have e1 : w2.cell = d.c := rfl
      rw [e1, r1 _ md.1 (by omega), r1 j j0 j1]
    rw [popped_at] at g3
    refine ⟨f, A3, ?_, ⟨o3.ok, o3.life, o3.may, o3.d⟩, fun i d' h1 hd' => ?_, fun j j0 j1 hj => ?_⟩
    · have e3 : 3 * (m + 1 + 1) = (2 + 1) + 3 * (m + 1) := by omega
      rw [e3]; exact g2.trans g3
    · have md' := sw_mem o.may hd'
      by_cases e : i = k
      · subst e
        rw [hd] at hd'; cases hd'
        rw [r3 d.c md.1 (by omega) fun i' d' h1' hd' e => by have := sw_inj o.may hd' hd e; omega, a2 _ md.1 (by omega), if_pos rfl]
      · have e2 : (A1.cas w2.cell w2.mine w2.x).at d'.c = A.at d'.c := by rw [a2 _ md'.1 (by omega), if_neg fun e' => e (sw_inj o.may hd' hd e'.symm)]
        rw [c3 i d' (by omega) hd', e2]
        rfl
    · rw [r3 j j0 j1 fun i d' h1 hd' => hj i d' (by omega) hd', a2 j j0 j1, if_neg (hj k d (Nat.le_refl _) hd)]
/-- the cells go to what was decided -/
def Freed (A A' : Ar) (s g : Int) (won : Bool) (ds : List Sw) : Prop :=
  (∀ (i : Nat) d, ds[i]? = some d → A'.at d.c = if A.at d.c = (Form.mcas s g).number then (if won then d.n else d.w) * 4 else A.at d.c) ∧ ∀ j, 0 ≤ j → j < 634 → (∀ (i : Nat) d, ds[i]? = some d → d.c ≠ j) → A'.at j = A.at j
theorem release {H : Help} {w : Wh} {A : Ar} {st : Int} (o : On A w st ds) (es : w.s = s) (eg : w.g = g) (hp : w.pc = 10) (ho : H.over = false) (ht : H.top = .who w) :
    ∃ f A', Goes H A (1 + 3 * ds.length) (H.popped H.q s g w.won f) A' ∧ On A' w st ds ∧ Freed A A' s g w.won ds := by
  have hb := base_range o.life.s0 o.life.s1 (i := 1) (by decide) (by decide)
  have o1 : On (A.ld (baseOf w.s + 1)) { w with k := ds.length, i := 0, pc := 11 } st ds := o.ld (by omega) hb.2 rfl rfl
  have a1 : ∀ j, 0 ≤ j → j < 634 → (A.ld (baseOf w.s + 1)).at j = A.at j := fun j j0 j1 => at_ld o.ok (by omega) hb.2 j0 j1
  cases hn : ds.length with
  | zero =>
    have st1 := step_count0 (t := H.t) (q := H.q) o hp hn
    have g1 := Goes.pop ho ht st1
    subst es eg
    refine ⟨_, _, g1, ⟨o1.ok, o1.life, o1.may, o1.d⟩, fun i d hd => ?_, fun j j0 j1 _ => a1 j j0 j1⟩
    have := (List.getElem?_eq_some_iff.1 hd).1; omega
  | succ m =>
    have f1 : Fgo H.t w H.q A 1 { w with k := ds.length, i := 0, pc := 11 } H.q (A.ld (baseOf w.s + 1)) := .one (step_count2 o hp (by omega))
    have g1 := f1.goes (H := H) (by decide) ho ht rfl rfl
    obtain ⟨f, A2, g2, o2, c2, r2⟩ := relAll (s := s) (g := g) m (H := H.at H.q { w with k := ds.length, i := 0, pc := 11 }) (w := { w with k := ds.length, i := 0, pc := 11 }) (k := 0) o1 es eg rfl rfl rfl (by omega) ho rfl
    rw [popped_at] at g2
    refine ⟨f, A2, g1.trans g2, ⟨o2.ok, o2.life, o2.may, o2.d⟩, fun i d hd => ?_, fun j j0 j1 hj => ?_⟩
    · have md := sw_mem o.may hd
      rw [c2 i d (by omega) hd, a1 _ md.1 (by omega)]
    · rw [r2 j j0 j1 fun i d _ hd => hj i d hd, a1 j j0 j1]
/-- of one that was decided -/
theorem finish {H : Help} {w : Wh} {A : Ar} {st : Int} (o : On A w st ds) (es : w.s = s) (eg : w.g = g) (hp : w.pc = 1) (hst : st = 1 ∨ st = 2) (ho : H.over = false) (ht : H.top = .who w) :
    ∃ f A', Goes H A (2 + 3 * ds.length) (H.popped H.q s g (decide (st = 1)) f) A' ∧ On A' w st ds ∧ Freed A A' s g (decide (st = 1)) ds := by
  have hb := base_range o.life.s0 o.life.s1 (i := 0) (by decide) (by decide)
  rw [Int.add_zero] at hb
  have f1 : Fgo H.t w H.q A 1 { w with opn := false, won := decide (st = 1), pc := 10 } H.q (A.ld (baseOf w.s)) := .one (step_ask_shut o hp hst)
  have g1 := f1.goes (H := H) (by decide) ho ht rfl rfl
  have o1 : On (A.ld (baseOf w.s)) { w with opn := false, won := decide (st = 1), pc := 10 } st ds := o.ld (by omega) hb.2 rfl rfl
  obtain ⟨f, A2, g2, o2, c2, r2⟩ := release (H := H.at H.q { w with opn := false, won := decide (st = 1), pc := 10 }) o1 es eg rfl ho rfl
  rw [popped_at] at g2
  have a1 : ∀ j, 0 ≤ j → j < 634 → (A.ld (baseOf w.s)).at j = A.at j := fun j j0 j1 => at_ld o.ok (by omega) hb.2 j0 j1
  refine ⟨f, A2, ?_, ⟨o2.ok, o2.life, o2.may, o2.d⟩, fun i d hd => ?_, fun j j0 j1 hj => ?_⟩
  · have e : 2 + 3 * ds.length = 1 + (1 + 3 * ds.length) := by omega
    rw [e]; exact g1.trans g2
  · have md := sw_mem o.may hd
    rw [c2 i d hd, a1 _ md.1 (by omega)]
  · rw [r2 j j0 j1 hj, a1 j j0 j1]
/-- an open one, up to its first entry -/
theorem opens {H : Help} {w : Wh} {A : Ar} (o : On A w 0 ds) (es : w.s = s) (eg : w.g = g) (hp : w.pc = 1) (ho : H.over = false) (ht : H.top = .who w) :
    ∃ w' A', Goes H A 2 (H.at H.q w') A' ∧ On A' w' 0 ds ∧ w'.s = s ∧ w'.g = g ∧ w'.i = 0 ∧ w'.k = ds.length ∧ w'.pc = (if ds.length = 0 then 8 else 3) ∧ ∀ j, 0 ≤ j → j < 634 → A'.at j = A.at j := by
  have hb := base_range o.life.s0 o.life.s1 (i := 0) (by decide) (by decide)
  have hb1 := base_range o.life.s0 o.life.s1 (i := 1) (by decide) (by decide)
  rw [Int.add_zero] at hb
  have o1 : On (A.ld (baseOf w.s)) { w with opn := true, won := false, pc := 2 } 0 ds := o.ld (by omega) hb.2 rfl rfl
  have o2 : On ((A.ld (baseOf w.s)).ld (baseOf w.s + 1)) { w with opn := true, won := false, k := ds.length, i := 0, pc := if ds.length = 0 then 8 else 3 } 0 ds := o1.ld (by omega) hb1.2 rfl rfl
  have f2 : Fgo H.t w H.q A 2 { w with opn := true, won := false, k := ds.length, i := 0, pc := if ds.length = 0 then 8 else 3 } H.q ((A.ld (baseOf w.s)).ld (baseOf w.s + 1)) := .step (step_ask_open o hp) (.one (step_count o1 rfl))
  refine ⟨_, _, f2.goes (by decide) ho ht rfl rfl, o2, es, eg, rfl, rfl, rfl, fun j j0 j1 => ?_⟩
  rw [at_ld o1.ok (by (first | omega | (simp only; omega))) hb1.2 j0 j1, at_ld o.ok (by omega) hb.2 j0 j1]
/-- from the decision on -/
theorem decideAll {H : Help} {w : Wh} {A : Ar} (o : On A w 0 ds) (es : w.s = s) (eg : w.g = g) (hp : w.pc = 8 ∨ w.pc = 9) (ho : H.over = false) (ht : H.top = .who w) :
    ∃ f A', Goes H A (3 + 3 * ds.length) (H.popped H.q s g (decide (w.pc = 8)) f) A' ∧ On A' w (if w.pc = 8 then 1 else 2) ds ∧
      (∀ (i : Nat) d, ds[i]? = some d → A'.at d.c = if A.at d.c = (Form.mcas s g).number then (if w.pc = 8 then d.n else d.w) * 4 else A.at d.c) ∧ ∀ j, 0 ≤ j → j < 634 → j ≠ baseOf s → (∀ (i : Nat) d, ds[i]? = some d → d.c ≠ j) → A'.at j = A.at j := by
  obtain ⟨w1, A1, f1, o1, s1, g1, p1, r1⟩ := decides (t := H.t) (q := H.q) o hp
  have hb := base_range o.life.s0 o.life.s1 (i := 0) (by decide) (by decide)
  rw [Int.add_zero] at hb
  have k1 := f1.goes (H := H) (by decide) ho ht rfl rfl
  obtain ⟨f, A2, k2, o2, c2, r2⟩ := finish (s := s) (g := g) (H := H.at H.q w1) o1 (by rw [s1, es]) (by rw [g1, eg]) p1 (by split <;> simp) ho rfl
  rw [popped_at] at k2
  have ed : decide ((if w.pc = 8 then (1 : Int) else 2) = 1) = decide (w.pc = 8) := by
    by_cases c : w.pc = 8
    · rw [if_pos c, decide_eq_true c]; rfl
    · rw [if_neg c, decide_eq_false c]; rfl
  rw [ed] at k2 c2
  refine ⟨f, A2, ?_, ⟨o2.ok, by rw [← s1, ← g1]; exact o2.life, o2.may, by rw [← s1, ← g1]; exact o2.d⟩, fun i d hd => ?_, fun j j0 j1 jb hj => ?_⟩
  · have e : 3 + 3 * ds.length = 1 + (2 + 3 * ds.length) := by omega
    rw [e]; exact k1.trans k2
  · have md := sw_mem o.may hd
    rw [c2 i d hd, r1 _ md.1 (by omega) (by omega)]
    simp only [decide_eq_true_eq]
  · rw [r2 j j0 j1 hj, r1 j j0 j1 (by rw [es]; exact jb)]
/-- alone over cells that are as they were: it wins -/
theorem alone_wins {H : Help} {w : Wh} {A : Ar} (o : On A w 0 ds) (es : w.s = s) (eg : w.g = g) (hp : w.pc = 1) (ho : H.over = false) (ht : H.top = .who w) (ok : H.ok)
    (hv : ∀ (i : Nat) d, ds[i]? = some d → A.at d.c = d.w * 4) :
    ∃ f A', Goes H A (5 + 8 * ds.length) (H.popped ((H.q + ds.length) % 1048576) s g true f) A' ∧ On A' w 1 ds ∧
      (∀ (i : Nat) d, ds[i]? = some d → A'.at d.c = d.n * 4) ∧ ∀ j, 0 ≤ j → j < 634 → j ≠ baseOf s → (∀ (i : Nat) d, ds[i]? = some d → d.c ≠ j) → A'.at j = A.at j := by
  obtain ⟨w1, A1, k1, o1, s1, g1, i1, n1, p1, r1⟩ := opens (s := s) (g := g) o es eg hp ho ht
  have t0 := ok.t0; have t1 := ok.t1; have q0 := ok.q0; have q1 := ok.q1
  have hb := base_range o.life.s0 o.life.s1 (i := 0) (by decide) (by decide)
  rw [Int.add_zero, es] at hb
  obtain ⟨w2, A2, q2, k2, o2, s2, g2, p2, c2, r2, eq2⟩ : ∃ w2 A2 q2, Goes H A (2 + 5 * ds.length) (H.at q2 w2) A2 ∧ On A2 w2 0 ds ∧ w2.s = s ∧ w2.g = g ∧ w2.pc = 8 ∧ (∀ (i : Nat) d, ds[i]? = some d → A2.at d.c = (Form.mcas s g).number) ∧ (∀ j, 0 ≤ j → j < 634 → (∀ (i : Nat) d, ds[i]? = some d → d.c ≠ j) → A2.at j = A.at j) ∧ q2 = (H.q + ds.length) % 1048576 := by
    cases hn : ds.length with
    | zero =>
      refine ⟨w1, A1, H.q, k1, o1, s1, g1, by rw [p1, if_pos hn], fun i d hd => ?_, fun j j0 j1 _ => r1 j j0 j1, by omega⟩
      have := (List.getElem?_eq_some_iff.1 hd).1; omega
    | succ m =>
      obtain ⟨w2, A2, f2, o2, s2, g2, i2, n2, p2, c2, r2⟩ := acqAll (t := H.t) (s := s) (g := g) t0 t1 ds.length (k := 0) (q := H.q) o1 s1 g1 (by rw [p1, if_neg (by omega)]) i1 n1 (by omega) (by omega) q0 q1 fun i d _ _ hd => by
        have md := sw_mem o.may hd
        rw [r1 _ md.1 (by omega)]; exact hv i d hd
      have k2 := f2.goes (H := H.at H.q w1) (by omega) ho rfl rfl rfl
      refine ⟨w2, A2, _, ?_, o2, s2, g2, by rw [p2, if_pos (by omega)], fun i d hd => c2 i d (by omega) (by have := (List.getElem?_eq_some_iff.1 hd).1; omega) hd, fun j j0 j1 hj => ?_, rfl⟩
      · have := k1.trans k2
        rw [at_at, hn] at this; exact this
      · rw [r2 j j0 j1 fun i d _ _ hd => hj i d hd, r1 j j0 j1]
  obtain ⟨f, A3, k3, o3, c3, r3⟩ := decideAll (s := s) (g := g) (H := H.at q2 w2) o2 s2 g2 (.inl p2) ho rfl
  rw [popped_at, decide_eq_true p2] at k3
  rw [if_pos p2] at o3
  subst eq2
  refine ⟨f, A3, ?_, ⟨o3.ok, by rw [es, eg, ← s2, ← g2]; exact o3.life, o3.may, by rw [es, eg, ← s2, ← g2]; exact o3.d⟩, fun i d hd => ?_, fun j j0 j1 jb hj => ?_⟩
  · have e : 5 + 8 * ds.length = (2 + 5 * ds.length) + (3 + 3 * ds.length) := by omega
    rw [e]; exact k2.trans k3
  · rw [c3 i d hd, if_pos (c2 i d hd), if_pos p2]
  · rw [r3 j j0 j1 jb hj, r2 j j0 j1 hj]
/-- alone over values of which the k-th is the first that is not as it was: it loses -/
theorem alone_loses {H : Help} {w : Wh} {A : Ar} {k : Nat} {dk : Sw} {v : Int} (o : On A w 0 ds) (es : w.s = s) (eg : w.g = g) (hp : w.pc = 1) (ho : H.over = false) (ht : H.top = .who w) (ok : H.ok)
    (hv : ∀ (i : Nat) d, i < k → ds[i]? = some d → A.at d.c = d.w * 4) (hdk : ds[k]? = some dk) (hk : A.at dk.c = v * 4) (v0 : 0 ≤ v) (v1 : v < 1099511627776) (hn : v ≠ dk.w) (hnm : ∀ (i : Nat) d, ds[i]? = some d → A.at d.c ≠ (Form.mcas s g).number) :
    ∃ f A', Goes H A (8 + 5 * k + 3 * ds.length) (H.popped ((H.q + (k + 1 : Nat)) % 1048576) s g false f) A' ∧ On A' w 2 ds ∧ ∀ j, 0 ≤ j → j < 634 → j ≠ baseOf s → A'.at j = A.at j := by
  obtain ⟨w1, A1, k1, o1, s1, g1, i1, n1, p1, r1⟩ := opens (s := s) (g := g) o es eg hp ho ht
  have t0 := ok.t0; have t1 := ok.t1; have q0 := ok.q0; have q1 := ok.q1
  have hkl := (List.getElem?_eq_some_iff.1 hdk).1
  have hl := sw_len o.may
  have mk := sw_mem o.may hdk
  obtain ⟨w2, A2, f2, o2, s2, g2, i2, n2, p2, c2, r2⟩ := acqAll (t := H.t) (s := s) (g := g) t0 t1 k (k := 0) (q := H.q) o1 s1 g1 (by rw [p1, if_neg (by omega)]) i1 n1 (by omega) (by omega) q0 q1 fun i d _ h2 hd => by
    have md := sw_mem o.may hd
    rw [r1 _ md.1 (by omega)]; exact hv i d (by omega) hd
  rw [Nat.zero_add] at i2 p2 c2 r2
  rw [if_neg (by omega)] at p2
  obtain ⟨A3, f3, o3, e3⟩ := two_loads (t := H.t) (q := (H.q + (k : Nat)) % 1048576) o2 p2 i2 hdk
  have hat : A3.at dk.c = v * 4 := by
    rw [e3 _ mk.1 (by omega), r2 _ mk.1 (by omega) fun i d _ h2 hd e => by have := sw_inj o.may hd hdk e; omega, r1 _ mk.1 (by omega)]; exact hk
  obtain ⟨w4, A4, f4, o4, s4, g4, p4, r4⟩ := lose_swap (t := H.t) (q := (H.q + (k : Nat)) % 1048576) o3 rfl mk.1 mk.2.1 (by simp only; omega) (by simp only; omega) v0 v1 hat (by simp only; omega) t0 t1 (by omega) (by omega)
  have f5 := f2.trans (f3.trans f4)
  have k5 := f5.goes (H := H.at H.q w1) (by omega) ho rfl rfl rfl
  obtain ⟨f, A6, k6, o6, c6, r6⟩ := decideAll (s := s) (g := g) (H := H.at (((H.q + (k : Nat)) % 1048576 + 1) % 1048576) w4) o4 (by rw [s4]; exact s2) (by rw [g4]; exact g2) (.inr p4) ho rfl
  rw [at_at] at k5
  rw [popped_at, decide_eq_false (by omega)] at k6
  rw [if_neg (by omega)] at o6
  have s4' : w4.s = s := by rw [s4]; exact s2
  have g4' : w4.g = g := by rw [g4]; exact g2
  refine ⟨f, A6, ?_, ⟨o6.ok, by rw [es, eg, ← s4', ← g4']; exact o6.life, o6.may, by rw [es, eg, ← s4', ← g4']; exact o6.d⟩, fun j j0 j1 jb => ?_⟩
  · have e1 : 8 + 5 * k + 3 * ds.length = (2 + (5 * k + (2 + 1))) + (3 + 3 * ds.length) := by omega
    have e2 : (H.q + ((k + 1 : Nat) : Int)) % 1048576 = ((H.q + (k : Nat)) % 1048576 + 1) % 1048576 := by omega
    rw [e1, e2]; exact (k1.trans k5).trans k6
  · by_cases hj : ∃ (i : Nat) (d : Sw), ds[i]? = some d ∧ d.c = j
    · obtain ⟨i, d, hd, rfl⟩ := hj
      have md := sw_mem o.may hd
      rw [c6 i d hd]
      by_cases hik : i < k
      · have e4 : A4.at d.c = (Form.mcas s g).number := by
          rw [r4 _ md.1 (by omega), e3 _ md.1 (by omega)]; exact c2 i d (by omega) hik hd
        rw [if_pos e4, if_neg (by omega)]
        exact (hv i d hik hd).symm
      · have e4 : A4.at d.c = A.at d.c := by
          rw [r4 _ md.1 (by omega), e3 _ md.1 (by omega), r2 _ md.1 (by omega) fun i' d' _ h2 hd' e => by have := sw_inj o.may hd' hd e; omega, r1 _ md.1 (by omega)]
        rw [e4, if_neg (hnm i d hd)]
    · have hj' : ∀ (i : Nat) d, ds[i]? = some d → d.c ≠ j := fun i d hd e => hj ⟨i, d, hd, e⟩
      rw [r6 j j0 j1 jb hj', r4 j j0 j1, e3 j j0 j1, r2 j j0 j1 fun i d _ _ hd => hj' i d hd, r1 j j0 j1]
end
end Go.Proofs.Ytbiappodepnbmaa
namespace Go.Proofs.Ytbiappodepnbmaa
open Go GW Go.Proofs
set_option linter.unusedVariables false
set_option linter.unusedSimpArgs false
set_option maxRecDepth 20000
theorem sw_fld {h : GH} {v : Value} {ds : List Sw} {i : Nat} {d : Sw} (r : rowsAt h 3 v (ds.map encS)) (hd : ds[i]? = some d) :
    ∃ b o, isV 3 v (i64 i) = some (.pointer (some ⟨b, o, none⟩)) ∧ ldV 1 false (.pointer (some ⟨b, o + 0, none⟩)) h = some (i64 d.c) ∧ ldV 1 false (.pointer (some ⟨b, o + 1, none⟩)) h = some (i64 d.w) ∧ ldV 1 false (.pointer (some ⟨b, o + 2, none⟩)) h = some (i64 d.n) := by
  obtain ⟨b, o, e, f, _⟩ := r.fld (i := i) (c := encS d) (by rw [List.getElem?_map, hd]; rfl) .i64
  exact ⟨b, o, e, f 0 _ rfl, f 1 _ rfl, f 2 _ rfl⟩
theorem int_get {h : GH} {v : Value} {xs : List Int} {i : Nat} {x : Int} (r : rowsAt h 1 v (xs.map encI)) (hx : xs[i]? = some x) :
    ∃ p, isV 1 v (i64 i) = some p ∧ ldV 1 false p h = some (i64 x) :=
  r.get1 (i := i) (x := i64 x) (by rw [List.getElem?_map, hx]; rfl) .i64
theorem ws_getD {A : Ar} (j : Nat) : A.ws.getD j 0 = A.at j := by unfold Ar.at; simp
/-- the first sixteen words -/
theorem ws_cells {A : Ar} (ok : A.ok) {cs : List Int} (hl : cs.length = 16) (h : ∀ j : Nat, j < 16 → A.at j = cs.getD j 0) : A.ws.take 16 = cs := by
  have hw := ok.words
  refine List.ext_getElem? fun j => ?_
  by_cases hj : j < 16
  · have := h j hj
    rw [← ws_getD, List.getD_eq_getElem?_getD, List.getD_eq_getElem?_getD, List.getElem?_eq_getElem (by omega), List.getElem?_eq_getElem (by omega)] at this
    rw [List.getElem?_take, if_pos hj, List.getElem?_eq_getElem (by omega), List.getElem?_eq_getElem (by omega)]
    simpa using this
  · rw [List.getElem?_take, if_neg hj, List.getElem?_eq_none (by omega)]
/-- rising cells -/
theorem rising {ds : List Sw} : ∀ {last next : Int}, swOk last ds = true → next ≤ last + 1 → 0 ≤ next → next ≤ 16 → (∀ s ∈ ds, next ≤ s.c) → (ds.length : Int) ≤ 16 - next := by
  induction ds with
  | nil => intro last next _ _ _ h _; simp; omega
  | cons d ds ih =>
    intro last next h h1 h2 h3 h4
    unfold swOk at h
    simp only [Bool.and_eq_true, decide_eq_true_eq] at h
    obtain ⟨⟨a1, a2, _⟩, a3⟩ := h
    have hd := h4 d (by simp)
    have := ih (last := d.c) (next := d.c + 1) a3 (by omega) (by omega) (by omega) fun s hs => by
      obtain ⟨i, hi, e⟩ := List.mem_iff_getElem.1 hs
      have := swOk_lt a3 i s (by rw [List.getElem?_eq_getElem hi, e]); omega
    simp only [List.length_cons]; omega
theorem swMay_of {ds : List Sw} (h : swOk (-1) ds = true) : swMay ds = true := by
  have := rising (last := -1) (next := 0) h (by decide) (by decide) (by decide) fun s hs => by
    obtain ⟨i, hi, e⟩ := List.mem_iff_getElem.1 hs
    have := swOk_lt h i s (by rw [List.getElem?_eq_getElem hi, e]); omega
  unfold swMay
  rw [decide_eq_true (by omega), h]; rfl
def Help.fresh (t q s : Int) : Help := .new t q (.who (.new s 1))
theorem fresh_ok {t q s : Int} (h0 : 0 ≤ s) (h1 : s < 12) (t0 : 0 ≤ t) (t1 : t < 4) (q0 : 0 ≤ q) (q1 : q < 1048576) : (Help.fresh t q s).ok :=
  ⟨t0, t1, q0, q1, by constructor <;> simp [Help.fresh, Help.new], zero64, fun _ => ⟨Wh.new_ok ⟨h0, h1, by decide, by decide⟩, (fun _ h => by cases h), by simp [Help.fresh, Help.new]⟩⟩
theorem T_NewMine {t q s : Int} {R : List Part} {h : GH} {K : Value → GH → Prop} (hp : All R h) (h0 : 0 ≤ s) (h1 : s < 12) (t0 : 0 ≤ t) (t1 : t < 4) (q0 : 0 ≤ q) (q1 : q < 1048576) (ky : ∀ b h', All (helpP b (Help.fresh t q s) :: R) h' → K (.tuple #[ptr b, i64 0]) h') : T Try.prog 34 [i64 t, i64 q, i64 (mineW s)] h K := by
  have e := new_mine h0 h1 t0 t1 q0 q1
  refine T_New hp (mineW_range h0 (by omega)) (fun e' => by rw [e] at e'; cases e') fun H e' b h' hp => ?_
  rw [e] at e'
  cases e'
  exact ky b h' hp
theorem fresh_on {A : Ar} {k : Nat} {ds : List Sw} (hA : A.ok) (hk : k < 12) (hm : swMay ds = true) (D : Dsc A k 1 0 ds) : On A (Wh.new k 1) 0 ds := ⟨hA, ⟨by simp [Wh.new], by simp [Wh.new]; omega, by simp [Wh.new], by simp [Wh.new]⟩, hm, D⟩
theorem popped_fresh {t q s q' g : Int} {won : Bool} {f : Fr} : (Help.fresh t q s).popped q' s g won f = { Help.fresh t q s with q := q', top := f, slot := s, gen := g, won := won, over := true } := rfl
theorem shr2 (x : Int) : binV .shr (.int .i64 x) (.int .u64 2) = some (i64 (x / 4)) := by
  have : binV .shr (.int .i64 x) (.int .u64 2) = some (.int .i64 (x.fdiv 4)) := rfl
  rw [this, Int.fdiv_eq_ediv_of_nonneg x (by decide)]
/-- a cell of a row that is written -/
theorem setc {v : Value} {cs : List Int} {P : List Part} {C : GH → Prop} {h : GH} {j x : Int} (hp : All (rowP 1 v (cs.map encI) :: P) h) {i : Nat} (ej : j = i) (hi : i < cs.length) (k : ∀ h', All (rowP 1 v ((cs.set i x).map encI) :: P) h' → C h') : bnd (isV 1 v (i64 j)) fun p => bnd (stV 1 p (i64 x) h) C := by
  subst ej
  obtain ⟨y, hy⟩ : ∃ y, cs[i]? = some y := ⟨_, List.getElem?_eq_getElem hi⟩
  obtain ⟨b, e4, _, _, est⟩ := hp.elt (i := i) (c := [i64 y]) (by rw [List.getElem?_map, hy]; rfl) .i64
  obtain ⟨h', e5, hp5⟩ := est 0 1 (i64 x) rfl (by decide) rfl
  refine bnd_of e4 (bnd_of e5 (k _ ?_))
  rw [List.map_set]
  exact hp5
end Go.Proofs.Ytbiappodepnbmaa
