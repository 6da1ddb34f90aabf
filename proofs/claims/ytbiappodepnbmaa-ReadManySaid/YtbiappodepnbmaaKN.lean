/- Several texts in one, each under its own remark or none; nothing here is a statement on the program. -/
import Derived.Test.YtbiappodepnbmaaKL
import Derived.Test.YtbiappodepnbmaaKR
import Derived.Test.YtbiappodepnbmaaKE
namespace Go.Proofs.Ytbiappodepnbmaa
open Go GW Go.Proofs
set_option linter.unusedVariables false
set_option linter.unusedSimpArgs false
structure RH (D : Int → Option Dw) : Prop where
  g : ∀ s d, D s = some d → d.g = 1
  c4 : ∀ s d (n : Nat) (e : Sw), D s = some d → d.ds[n]? = some e → e.c / 4 = s
  w0 : ∀ s d (n : Nat) (e : Sw), D s = some d → d.ds[n]? = some e → e.w = 0
  n0 : ∀ s d (n : Nat) (e : Sw), D s = some d → d.ds[n]? = some e → e.n ≠ 0
  len : ∀ s d, D s = some d → d.ds.length ≤ 2
def noLo : Int → Prop := fun _ => False
def rmP (D : Int → Option Dw) (A : Ar) (M : Int → Int) : Prop :=
  (∀ s d (n : Nat) (e : Sw), D s = some d → d.ds[n]? = some e → (Won A s d → M e.c = e.n * 4) ∧ (¬ Won A s d → M e.c = 0)) ∧
  (∀ c, 0 ≤ c → c < 16 → (∀ s d (n : Nat) (e : Sw), D s = some d → d.ds[n]? = some e → e.c ≠ c) → M c = 0)
def Stl (A : Ar) (s : Int) (d : Dw) (e : Sw) : Prop := A.at e.c = mw s d.g ∨ Won A s d
def uTerm (A : Ar) (s : Int) (d : Dw) (k : Int) (n : Nat) : Int := match d.ds[n]? with
  | some e => if k ≤ n ∧ A.at e.c ≠ mw s d.g ∧ A.at (baseOf s) ≠ stateW d.g 1 then 5 else 0
  | none => 0
def U (A : Ar) (s : Int) (d : Dw) (k : Int) : Int := uTerm A s d k 0 + uTerm A s d k 1
def dOf (D : Int → Option Dw) (s : Int) : Dw := (D s).getD ⟨0, [], True⟩
def ldPot (D : Int → Option Dw) (A : Ar) (c : Int) : Int := match read (A.at c) with
  | some (.mcas _ _) => 33
  | some (.entry _ _ _ _ _) => 38
  | some (.val _) => (match D (c / 4) with
    | some d => if A.at (baseOf (c / 4)) = stateW d.g 1 then 1 else 39
    | none => 1)
  | none => 1
def hpPot (D : Int → Option Dw) (A : Ar) : Fr → List Fr → Int
  | .who w, _ => cost 2 A w + U A w.s (dOf D w.s) (idxF w) + 1
  | .ent f, .who w :: _ => (4 - f.pc) + cost 2 A w + U A w.s (dOf D w.s) (w.i + 1) + 1
  | .ent f, _ => (4 - f.pc) + 33
def pot (D : Int → Option Dw) (A : Ar) (r : Rd) : Int := if r.over then 0 else match r.help with
  | none => ldPot D A r.cell
  | some H => hpPot D A H.top H.rest
def Cl (A : Ar) (d : Dw) (w : Wh) : Prop := w.pc = 11 ∨ w.pc = 12 ∨ w.pc = 13 → ∀ (n : Nat) (e : Sw), (n : Int) < w.i → d.ds[n]? = some e → A.at e.c ≠ mw w.s d.g
def Pd (A : Ar) (d : Dw) (f : En) : Prop := ∀ (n : Nat) (e : Sw), f.e = n → d.ds[n]? = some e → A.at e.c = (Form.entry f.s f.g f.e f.t f.q).number ∨ Stl A f.s d e
/-- a reader's cell is one of a descriptor's -/
def Mine (D : Int → Option Dw) (s c : Int) : Prop := ∃ (d : Dw) (n : Nat) (e : Sw), D s = some d ∧ d.ds[n]? = some e ∧ e.c = c
inductive Shp (D : Int → Option Dw) (A : Ar) (c : Int) : Fr → List Fr → Prop where
  | who {w : Wh} {d : Dw} (hd : D w.s = some d) (hg : w.g = d.g) (hp : w.pc ≠ 14) (hm : Mine D w.s c) (cl : Cl A d w) : Shp D A c (.who w) []
  | entw {f : En} {w : Wh} {d : Dw} (hd : D w.s = some d) (hg : w.g = d.g) (hp : w.pc = 5) (fs : f.s = w.s) (fe : f.e = w.i) (hm : Mine D w.s c) (pd : Pd A d f) : Shp D A c (.ent f) [.who w]
  | ent {f : En} {d : Dw} {n : Nat} {e : Sw} (hd : D f.s = some d) (fe : f.e = n) (he : d.ds[n]? = some e) (hc : e.c = c) (pd : Pd A d f) : Shp D A c (.ent f) []
def RS (D : Int → Option Dw) (A : Ar) (r : Rd) : Prop := ∀ H, r.help = some H → H.over = false ∧ H.t = r.t ∧ H.q = r.q ∧ Shp D A r.cell H.top H.rest
section
variable {D : Int → Option Dw} {A B : Ar} {F F' : Int → Stk} {M M' : Int → Int} {t q s : Int} {d : Dw} {n : Nat} {e : Sw} {w : Wh} {c : Int} {f : En} {r : Rd}
theorem rm_P (rh : RH D) (may : ∀ s d, D s = some d → swMay d.ds = true) (p : rmP D A M) (T : Turn D A B M M') : rmP D B M' := by
  obtain ⟨T1, T2⟩ := T
  obtain ⟨p1, p2⟩ := p
  rcases T2 with ⟨rfl, hw⟩ | ⟨s, d, hd, ho, hw, hmm, rfl, hoth⟩
  · exact ⟨fun s d n e hd he => ⟨fun h => (p1 s d n e hd he).1 ((hw s d hd).1 h), fun h => (p1 s d n e hd he).2 fun h' => h ((hw s d hd).2 h')⟩, p2⟩
  · refine ⟨fun s' d' n e hd' he => ?_, fun c c0 c1 h => ?_⟩
    · by_cases c : s' = s
      · subst c
        rw [hd] at hd'; cases hd'
        exact ⟨fun _ => updM_in (may _ _ hd) he, fun h => absurd hw h⟩
      · have hb : Won B s' d' ↔ Won A s' d' := by unfold Won; rw [hoth s' d' hd' c]
        rw [updM_out fun i y hy hc => c (by rw [← rh.c4 s d i y hd hy, hc, rh.c4 s' d' n e hd' he]), hb]
        exact p1 s' d' n e hd' he
    · rw [updM_out fun i y hy => h s d i y hd hy]
      exact p2 c c0 c1 h
theorem rm_L (rh : RH D) (p : rmP D A M) : LoB D noLo A M := fun s d n e hd he ho hne => by
  refine hne ?_
  rw [rh.w0 s d n e hd he, (p.1 s d n e hd he).2 fun h => ?_]
  · rfl
  · unfold Opn at ho; unfold Won at h
    rw [ho, stateW_inj] at h
    exact absurd h (by decide)
theorem MI.won (I : MI D noLo A F M) (hd : D s = some d) (h : ¬ Opn A s d) : Won A s d := by
  obtain ⟨l, m, st, hst, dsc⟩ := I.ds s d hd
  have hl : A.at (baseOf s) ≠ stateW d.g 2 := fun h => I.lost s d hd h
  unfold Opn at h
  unfold Won
  rw [dsc.st] at h hl ⊢
  rw [stateW_inj] at h
  rw [Ne, stateW_inj] at hl
  rw [show st = 1 by omega]
theorem won_nopn (h : Won A s d) : ¬ Opn A s d := fun h' => by
  unfold Won at h; unfold Opn at h'
  rw [h, stateW_inj] at h'
  exact absurd h' (by decide)
theorem Won.mono (R : Rel D F A B) (hd : D s = some d) (h : Won A s d) : Won B s d := by
  have := (R.st s d hd).2 (won_nopn h)
  unfold Won at h ⊢; rw [this]; exact h
/-- an entry's descriptor is open -/
theorem MI.entO (I : MI D noLo A F M) (rh : RH D) (p : rmP D A M) {g x u q0 : Int} (c0 : 0 ≤ c) (c1 : c < 16) (h : read (A.at c) = some (.entry s g x u q0)) : ∃ d n e, D s = some d ∧ d.ds[n]? = some e ∧ e.c = c ∧ g = d.g ∧ x = (n : Nat) ∧ A.at c = ew s d.g n u q0 ∧ (0 ≤ u ∧ u < 4) ∧ (0 ≤ q0 ∧ q0 < (F u).q) ∧ Opn A s d := by
  cases I.cells c c0 c1 with
  | val h' mm => rw [(val_read h').1] at h; cases h
  | @mc s1 d1 n1 e1 hd1 he1 hc1 ha1 _ _ hh _ =>
    rw [ha1, mw_read (I.ds _ _ hd1).1] at h
    cases h
  | @en s1 d1 n1 e1 t1 q1 hd1 he1 hc1 ha1 t10 q10 mm _ _ _ _ =>
    have l1 := I.ds _ _ hd1
    have qq := (I.q0 t1).2
    rw [ha1, show read (ew s1 d1.g n1 t1 q1) = _ from read_number (ew_range l1.1 (l1.lt he1).1 t10 ⟨q10.1, by omega⟩)] at h
    cases h
    refine ⟨d1, n1, e1, hd1, he1, hc1, rfl, rfl, ha1, t10, q10, ?_⟩
    by_cases ho : Opn A s d1
    · exact ho
    · exfalso
      have := (p.1 _ _ n1 e1 hd1 he1).1 (I.won hd1 ho)
      rw [hc1, mm, rh.w0 _ _ _ _ hd1 he1] at this
      have := rh.n0 _ _ _ _ hd1 he1
      omega
theorem MI.wonC (I : MI D noLo A F M) (rh : RH D) (p : rmP D A M) (hd : D s = some d) (he : d.ds[n]? = some e) (hw : Won A s d) : A.at e.c = mw s d.g ∨ ∃ v, read (A.at e.c) = some (.val v) := by
  have m := (I.ds _ _ hd).lt he
  cases hr : read (A.at e.c) with
  | none =>
    exfalso
    cases I.cells e.c m.2.1 m.2.2.1 with
    | val h' mm => rw [(val_read h').1] at hr; cases hr
    | @mc s1 d1 n1 e1 hd1 he1 hc1 ha1 _ _ hh _ => rw [ha1, mw_read (I.ds _ _ hd1).1] at hr; cases hr
    | @en s1 d1 n1 e1 t1 q1 hd1 he1 hc1 ha1 t10 q10 mm _ _ _ _ =>
      have l1 := I.ds _ _ hd1
      have qq := (I.q0 t1).2
      rw [ha1, show read (ew s1 d1.g n1 t1 q1) = _ from read_number (ew_range l1.1 (l1.lt he1).1 t10 ⟨q10.1, by omega⟩)] at hr
      cases hr
  | some f =>
    cases f with
    | val v => exact .inr ⟨v, rfl⟩
    | mcas s1 g1 =>
      left
      obtain ⟨d1, n1, e1, k1, k2, k3, k4, k5, _⟩ := I.ref m.2.1 m.2.2.1 hr
      have : s1 = s := by rw [← rh.c4 s1 d1 n1 e1 k1 k2, k3, rh.c4 s d n e hd he]
      subst this
      rw [hd] at k1; cases k1
      exact k5
    | entry s1 g1 x u q0 =>
      exfalso
      obtain ⟨d1, n1, e1, k1, k2, k3, _, _, _, _, _, ko⟩ := I.entO rh p m.2.1 m.2.2.1 hr
      have : s1 = s := by rw [← rh.c4 s1 d1 n1 e1 k1 k2, k3, rh.c4 s d n e hd he]
      subst this
      rw [hd] at k1; cases k1
      exact won_nopn hw ko
theorem Stl.mono (R : Rel D F A B) (I : MI D noLo A F M) (I' : MI D noLo B F' M') (hd : D s = some d) (he : d.ds[n]? = some e) (h : Stl A s d e) : Stl B s d e := by
  have m := (I.ds _ _ hd).lt he
  rcases h with h | h
  · by_cases ho : Opn B s d
    · exact .inl (R.keep s d hd ho _ m.2.1 m.2.2.1 h)
    · exact .inr (I'.won hd ho)
  · exact .inr (h.mono R hd)
theorem Pd.mono (R : Rel D F A B) (I : MI D noLo A F M) (I' : MI D noLo B F' M') (hd : D f.s = some d) (hg : f.g = d.g) (ht : 0 ≤ f.t ∧ f.t < 4) (hq : 0 ≤ f.q ∧ f.q < (F f.t).q) (h : Pd A d f) : Pd B d f := fun n e hn he => by
  rcases h n e hn he with h | h
  · by_cases ho : Opn B f.s d
    · have hw : (Form.entry f.s f.g f.e f.t f.q).number = ew f.s d.g n f.t f.q := by rw [hg, hn]; rfl
      rw [hw] at h ⊢
      rcases R.ent f.s d n e f.t f.q hd he ht hq ho h with h | h
      · exact .inl h
      · exact .inr (.inl h)
    · exact .inr (.inr (I'.won hd ho))
  · exact .inr (h.mono R I I' hd he)
theorem Cl.mono (R : Rel D F A B) (I : MI D noLo A F M) (rh : RH D) (p : rmP D A M) (hd : D w.s = some d) (ho : w.pc = 11 ∨ w.pc = 12 ∨ w.pc = 13 → ¬ Opn A w.s d) (h : Cl A d w) : Cl B d w := fun hp n e hn he hb => by
  rcases R.new _ _ n e hd he hb with h' | ⟨t, q, t0, q0, h'⟩
  · exact h hp n e hn he h'
  · have m := (I.ds _ _ hd).lt he
    have hr : read (A.at e.c) = some (.entry w.s d.g n t q) := by rw [h']; exact read_number (ew_range (I.ds _ _ hd).1 m.1 t0 q0)
    obtain ⟨d1, _, _, k1, _, _, _, _, _, _, _, ko⟩ := I.entO rh p m.2.1 m.2.2.1 hr
    rw [hd] at k1; cases k1
    exact ho hp ko
theorem uTerm_nn {k : Int} : 0 ≤ uTerm A s d k n ∧ uTerm A s d k n ≤ 5 := by
  unfold uTerm
  split
  · split <;> omega
  · omega
theorem U_nn {k : Int} : 0 ≤ U A s d k ∧ U A s d k ≤ 10 := by
  have a := uTerm_nn (A := A) (s := s) (d := d) (n := 0) (k := k)
  have b := uTerm_nn (A := A) (s := s) (d := d) (n := 1) (k := k)
  unfold U; omega
theorem uTerm_le {k k' : Int} (h : ∀ e, d.ds[n]? = some e → k' ≤ n → ¬ Stl B s d e → k ≤ n ∧ ¬ Stl A s d e) : uTerm B s d k' n ≤ uTerm A s d k n := by
  have nn := uTerm_nn (A := A) (s := s) (d := d) (n := n) (k := k)
  unfold uTerm at nn ⊢
  cases he : d.ds[n]? with
  | none => exact Int.le_refl _
  | some e =>
    simp only
    by_cases c : k' ≤ n ∧ B.at e.c ≠ mw s d.g ∧ B.at (baseOf s) ≠ stateW d.g 1
    · rw [if_pos c]
      have : ¬ Stl B s d e := fun h => by rcases h with h | h; · exact c.2.1 h
                                          · exact c.2.2 h
      obtain ⟨a, b⟩ := h e he c.1 this
      rw [if_pos ⟨a, fun h => b (.inl h), fun h => b (.inr h)⟩]; exact Int.le_refl _
    · rw [if_neg c]; split <;> omega
theorem U_le {k k' : Int} (h : ∀ (n : Nat) e, d.ds[n]? = some e → k' ≤ n → ¬ Stl B s d e → k ≤ n ∧ ¬ Stl A s d e) : U B s d k' ≤ U A s d k := by
  have a := uTerm_le (A := A) (B := B) (s := s) (n := 0) (k := k) (k' := k') fun e => h 0 e
  have b := uTerm_le (A := A) (B := B) (s := s) (n := 1) (k := k) (k' := k') fun e => h 1 e
  unfold U; omega
theorem U_mono {k k' : Int} (R : Rel D F A B) (I : MI D noLo A F M) (I' : MI D noLo B F' M') (hd : D s = some d) (hk : k ≤ k') : U B s d k' ≤ U A s d k :=
  U_le fun n e he h1 h2 => ⟨by omega, fun h => h2 (h.mono R I I' hd he)⟩
theorem U_won {k : Int} (h : Won A s d) : U A s d k = 0 := by
  have key : ∀ n, uTerm A s d k n = 0 := fun n => by
    unfold uTerm
    split
    · exact if_neg fun c => c.2.2 h
    · rfl
  unfold U; rw [key, key]; rfl
/-- an entry that is not settled yet counts -/
theorem U_at (hn : n < 2) (he : d.ds[n]? = some e) (h : ¬ Stl A s d e) : U A s d ((n : Int) + 1) + 5 ≤ U A s d n := by
  have h5 : uTerm A s d n n = 5 := by
    unfold uTerm
    rw [he]
    exact if_pos ⟨Int.le_refl _, fun h' => h (.inl h'), fun h' => h (.inr h')⟩
  have h0 : uTerm A s d ((n : Int) + 1) n = 0 := by
    unfold uTerm
    rw [he]
    exact if_neg fun c => by omega
  have hle : ∀ m, uTerm A s d ((n : Int) + 1) m ≤ uTerm A s d n m := fun m => uTerm_le fun e he h1 h2 => ⟨by omega, h2⟩
  have : n = 0 ∨ n = 1 := by omega
  rcases this with rfl | rfl
  · have := hle 1
    unfold U; omega
  · have := hle 0
    unfold U; omega
theorem U_set (he : d.ds[n]? = some e) (h : Stl A s d e) : U A s d n ≤ U A s d ((n : Int) + 1) :=
  U_le fun m e' he' h1 h2 => ⟨by
    by_cases c : m = n
    · subst c; rw [he] at he'; cases he'; exact absurd h h2
    · omega, h2⟩
end
end Go.Proofs.Ytbiappodepnbmaa
namespace Go.Proofs.Ytbiappodepnbmaa
open Go GW Go.Proofs
set_option linter.unusedVariables false
set_option linter.unusedSimpArgs false
def fR (r : Rd) : Stk := match r.help with
  | some H => stk H
  | none => ⟨r.q, []⟩
section
variable {D : Int → Option Dw} {A B : Ar} {F F' : Int → Stk} {M M' : Int → Int} {t q s k : Int} {d : Dw} {n : Nat} {e : Sw} {w : Wh} {c : Int} {f : En} {r : Rd}
theorem ldPot_bd : 1 ≤ ldPot D A c ∧ ldPot D A c ≤ 39 := by
  unfold ldPot
  split
  · omega
  · omega
  · split
    · split <;> omega
    · omega
  · omega
theorem ldPot_mono (R : Rel D F A B) (I : MI D noLo A F M) (I' : MI D noLo B F' M') (rh : RH D) (p : rmP D A M) (p' : rmP D B M') (c0 : 0 ≤ c) (c1 : c < 16) : ldPot D B c ≤ ldPot D A c := by
  have bB := ldPot_bd (D := D) (A := B) (c := c)
  have won1 : ∀ {s d} {n : Nat} {e : Sw}, D s = some d → d.ds[n]? = some e → e.c = c → (∃ v, read (B.at c) = some (.val v)) → ¬ Opn B s d → ldPot D B c = 1 := fun {s d n e} hd he hc hv ho => by
    obtain ⟨v, hv⟩ := hv
    have hs := rh.c4 s d n e hd he
    rw [hc] at hs
    unfold ldPot
    rw [hv]
    simp only
    rw [hs, hd]
    exact if_pos (I'.won hd ho)
  cases hA : read (A.at c) with
  | none =>
    exfalso
    cases I.cells c c0 c1 with
    | val h' mm => rw [(val_read h').1] at hA; cases hA
    | @mc s1 d1 n1 e1 hd1 he1 hc1 ha1 _ _ hh _ => rw [ha1, mw_read (I.ds _ _ hd1).1] at hA; cases hA
    | @en s1 d1 n1 e1 t1 q1 hd1 he1 hc1 ha1 t10 q10 mm _ _ _ _ =>
      have l1 := I.ds _ _ hd1
      have qq := (I.q0 t1).2
      rw [ha1, show read (ew s1 d1.g n1 t1 q1) = _ from read_number (ew_range l1.1 (l1.lt he1).1 t10 ⟨q10.1, by omega⟩)] at hA
      cases hA
  | some fo =>
    cases fo with
    | mcas s g =>
      have eA : ldPot D A c = 33 := by unfold ldPot; rw [hA]
      rw [eA]
      obtain ⟨d, n, e, k1, k2, k3, k4, k5, _⟩ := I.ref c0 c1 hA
      have keep : Opn B s d → B.at c = mw s d.g := fun ho => R.keep s d k1 ho c c0 c1 k5
      cases hB : read (B.at c) with
      | none => unfold ldPot; rw [hB]; simp only; omega
      | some fo =>
        cases fo with
        | mcas _ _ => unfold ldPot; rw [hB]; simp only; omega
        | entry s1 g1 x u q0 =>
          exfalso
          obtain ⟨d1, n1, e1, l1, l2, l3, _, _, _, _, _, lo⟩ := I'.entO rh p' c0 c1 hB
          have : s1 = s := by rw [← rh.c4 s1 d1 n1 e1 l1 l2, l3, ← k3, rh.c4 s d n e k1 k2]
          subst this
          rw [k1] at l1; cases l1
          rw [keep lo, mw_read (I.ds _ _ k1).1] at hB
          cases hB
        | val v =>
          by_cases ho : Opn B s d
          · rw [keep ho, mw_read (I.ds _ _ k1).1] at hB; cases hB
          · rw [won1 k1 k2 k3 ⟨v, hB⟩ ho]; decide
    | entry s g x u q0 =>
      have eA : ldPot D A c = 38 := by unfold ldPot; rw [hA]
      rw [eA]
      obtain ⟨d, n, e, k1, k2, k3, k4, k5, k6, k7, k8, _⟩ := I.entO rh p c0 c1 hA
      cases hB : read (B.at c) with
      | none => unfold ldPot; rw [hB]; simp only; omega
      | some fo =>
        cases fo with
        | mcas _ _ => unfold ldPot; rw [hB]; simp only; omega
        | entry _ _ _ _ _ => unfold ldPot; rw [hB]; simp only; omega
        | val v =>
          by_cases ho : Opn B s d
          · exfalso
            have l := I.ds _ _ k1
            have hh := R.ent s d n e u q0 k1 k2 k7 k8 ho (by rw [k3]; exact k6)
            rw [k3] at hh
            rcases hh with h | h
            · rw [h, show read (ew s d.g n u q0) = _ from read_number (ew_range l.1 (l.lt k2).1 k7 ⟨k8.1, by have := (I.q0 u).2; omega⟩)] at hB; cases hB
            · rw [h, mw_read l.1] at hB; cases hB
          · rw [won1 k1 k2 k3 ⟨v, hB⟩ ho]; decide
    | val v =>
      have noB : ∀ {s d} {n : Nat} {e : Sw}, D s = some d → d.ds[n]? = some e → e.c = c → Won A s d → ∃ v, read (B.at c) = some (.val v) := fun {s d n e} k1 k2 k3 hw => by
        have hwB := hw.mono R k1
        rcases I'.wonC rh p' k1 k2 hwB with h | h
        · exfalso
          rcases R.new s d n e k1 k2 h with h' | ⟨t, q, t0, q0, h'⟩
          · rw [k3] at h'; rw [h', mw_read (I.ds _ _ k1).1] at hA; cases hA
          · rw [k3] at h'; rw [h', show read (ew s d.g n t q) = _ from read_number (ew_range (I.ds _ _ k1).1 ((I.ds _ _ k1).lt k2).1 t0 q0)] at hA; cases hA
        · rw [k3] at h; exact h
      have memB : ∀ {fo}, read (B.at c) = some fo → (∀ v, fo ≠ .val v) → ∃ d, D (c / 4) = some d ∧ ∃ (n : Nat) (e : Sw), d.ds[n]? = some e ∧ e.c = c := fun {fo} hB hv => by
        cases fo with
        | val v => exact absurd rfl (hv v)
        | mcas s g =>
          obtain ⟨d, n, e, k1, k2, k3, _⟩ := I'.ref c0 c1 hB
          have hs := rh.c4 s d n e k1 k2
          rw [k3] at hs
          exact ⟨d, by rw [hs]; exact k1, n, e, k2, k3⟩
        | entry s g x u q0 =>
          obtain ⟨d, n, e, k1, k2, k3, _⟩ := I'.entr c0 c1 hB
          have hs := rh.c4 s d n e k1 k2
          rw [k3] at hs
          exact ⟨d, by rw [hs]; exact k1, n, e, k2, k3⟩
      cases hD : D (c / 4) with
      | none =>
        have eA : ldPot D A c = 1 := by unfold ldPot; rw [hA]; simp only [hD]
        rw [eA]
        cases hB : read (B.at c) with
        | none => unfold ldPot; rw [hB]; simp only; omega
        | some fo =>
          cases fo with
          | val v => unfold ldPot; rw [hB]; simp only [hD]; omega
          | mcas s g => obtain ⟨d, h, _⟩ := memB hB (fun v h => by cases h); rw [hD] at h; cases h
          | entry s g x u q0 => obtain ⟨d, h, _⟩ := memB hB (fun v h => by cases h); rw [hD] at h; cases h
      | some d =>
        by_cases hw : A.at (baseOf (c / 4)) = stateW d.g 1
        · have eA : ldPot D A c = 1 := by unfold ldPot; rw [hA]; simp only [hD]; exact if_pos hw
          rw [eA]
          have hwB : B.at (baseOf (c / 4)) = stateW d.g 1 := Won.mono R hD hw
          cases hB : read (B.at c) with
          | none => unfold ldPot; rw [hB]; simp only; omega
          | some fo =>
            cases fo with
            | val v => unfold ldPot; rw [hB]; simp only [hD]; rw [if_pos hwB]; omega
            | mcas s g =>
              obtain ⟨d', h, n, e, k2, k3⟩ := memB hB (fun v h => by cases h)
              rw [hD] at h; cases h
              obtain ⟨v, hv⟩ := noB hD k2 k3 hw
              rw [hB] at hv; cases hv
            | entry s g x u q0 =>
              obtain ⟨d', h, n, e, k2, k3⟩ := memB hB (fun v h => by cases h)
              rw [hD] at h; cases h
              obtain ⟨v, hv⟩ := noB hD k2 k3 hw
              rw [hB] at hv; cases hv
        · have eA : ldPot D A c = 39 := by unfold ldPot; rw [hA]; simp only [hD]; exact if_neg hw
          omega
theorem Ph.shut {L : Prop} (h : Ph D L A t q d w) (hp : w.pc = 11 ∨ w.pc = 12 ∨ w.pc = 13) : ¬ Opn A w.s d := by
  rcases hp with hp | hp | hp <;> simp only [Ph, hp] at h <;> obtain ⟨n, e, ix, h1, _⟩ := h <;> exact h1
theorem fR_some {H : Help} (hH : r.help = some H) (ho : H.over = false) : fR r = ⟨H.q, H.top :: H.rest⟩ := by
  unfold fR; rw [hH]; show stk H = _; unfold stk; rw [ho]; rfl
theorem RS.mono (R : Rel D F A B) (I : MI D noLo A F M) (I' : MI D noLo B F' M') (rh : RH D) (p : rmP D A M) (hS : F k = fR r) (h : RS D A r) : RS D B r := fun H hH => by
  obtain ⟨ho, ht, hq, sh⟩ := h H hH
  refine ⟨ho, ht, hq, ?_⟩
  have fs : (F k).fs = H.top :: H.rest := by rw [hS, fR_some hH ho]
  have hfr : ∀ f ∈ H.top :: H.rest, FrOk D noLo A F k (F k).q f := fun f m => I.fr k f (by rw [fs]; exact m)
  clear fs
  revert hfr
  generalize H.top = tp at sh ⊢
  generalize H.rest = rs at sh ⊢
  cases sh with
  | who hd hg hp hm cl =>
    intro hfr
    obtain ⟨d', a1, a2, a3⟩ := hfr _ (List.mem_cons_self ..)
    rw [hd] at a1; cases a1
    exact .who hd hg hp hm (cl.mono R I rh p hd fun h => Ph.shut a3 h)
  | entw hd hg hp hfs fe hm pd =>
    intro hfr
    obtain ⟨d', e, n, a1, a2, a3, a4, a5, a6, _⟩ := hfr _ (List.mem_cons_self ..)
    rw [hfs, hd] at a1; cases a1
    exact .entw hd hg hp hfs fe hm (pd.mono R I I' (by rw [hfs]; exact hd) a2 a6 a5)
  | ent hd fe he hc pd =>
    intro hfr
    obtain ⟨d', e, n, a1, a2, a3, a4, a5, a6, _⟩ := hfr _ (List.mem_cons_self ..)
    rw [hd] at a1; cases a1
    exact .ent hd fe he hc (pd.mono R I I' hd a2 a6 a5)
theorem cost_mono (R : Rel D F A B) (hd : D w.s = some d) (hg : w.g = d.g) (hp : w.pc ≠ 14) {K : Int} (k0 : 0 ≤ K) : cost K B w ≤ cost K A w := by
  unfold cost
  split
  · have := (R.st _ _ hd).1
    unfold Opn at this
    rw [← hg] at this
    split
    · rename_i h; rw [if_pos (this h)]; exact Int.le_refl _
    · split <;> omega
  all_goals first | exact Int.le_refl _ | (rename_i h; exact absurd h hp)
theorem dOf_eq (hd : D s = some d) : dOf D s = d := by unfold dOf; rw [hd]; rfl
theorem pot_mono (R : Rel D F A B) (I : MI D noLo A F M) (I' : MI D noLo B F' M') (rh : RH D) (p : rmP D A M) (p' : rmP D B M') (c0 : 0 ≤ r.cell ∧ r.cell < 16) (h : RS D A r) : pot D B r ≤ pot D A r := by
  unfold pot
  split
  · exact Int.le_refl _
  · cases hH : r.help with
    | none => exact ldPot_mono R I I' rh p p' c0.1 c0.2
    | some H =>
      obtain ⟨ho, ht, hq, sh⟩ := h H hH
      simp only
      generalize H.top = tp at sh ⊢
      generalize H.rest = rs at sh ⊢
      cases sh with
      | @who w d hd hg hp hm cl =>
        simp only [hpPot, dOf_eq hd]
        have := cost_mono R hd hg hp (K := 2) (by decide)
        have := U_mono R I I' hd (Int.le_refl (idxF w))
        omega
      | @entw f w d hd hg hp hfs fe hm pd =>
        simp only [hpPot, dOf_eq hd]
        have := cost_mono R hd hg (by omega) (K := 2) (by decide)
        have := U_mono R I I' hd (Int.le_refl (w.i + 1))
        omega
      | ent hd fe he hc pd => exact Int.le_refl _
/-- what is left is never less than nothing -/
theorem pot_nn (I : MI D noLo A F M) (rh : RH D) (hS : F k = fR r) (h : RS D A r) : 0 ≤ pot D A r := by
  have hK : ∀ s d, D s = some d → (d.ds.length : Int) ≤ 2 := fun s d hd => by have := rh.len s d hd; omega
  unfold pot
  split
  · exact Int.le_refl _
  · cases hH : r.help with
    | none => have := ldPot_bd (D := D) (A := A) (c := r.cell); simp only; omega
    | some H =>
      obtain ⟨ho, ht, hq, sh⟩ := h H hH
      have fs : (F k).fs = H.top :: H.rest := by rw [hS, fR_some hH ho]
      have hfr : ∀ f ∈ H.top :: H.rest, FrOk D noLo A F k (F k).q f := fun f m => I.fr k f (by rw [fs]; exact m)
      simp only
      clear fs
      revert hfr
      generalize H.top = tp at sh ⊢
      generalize H.rest = rs at sh ⊢
      cases sh with
      | @who w d hd hg hp hm cl =>
        intro hfr
        have := (cost_bd I (by decide) hK (hfr _ (List.mem_cons_self ..))).1
        simp only [hpPot]
        have := (U_nn (A := A) (s := w.s) (d := dOf D w.s) (k := idxF w)).1
        omega
      | @entw f w d hd hg hp hfs fe hm pd =>
        intro hfr
        have := (cost_bd I (by decide) hK (hfr (.who w) (by simp))).1
        have := EPh.pc (hfr (.ent f) (by simp))
        simp only [hpPot]
        have := (U_nn (A := A) (s := w.s) (d := dOf D w.s) (k := w.i + 1)).1
        omega
      | @ent f d n e hd fe he hc pd =>
        intro hfr
        have := EPh.pc (hfr (.ent f) (by simp))
        simp only [hpPot]
        omega
end
end Go.Proofs.Ytbiappodepnbmaa
namespace Go.Proofs.Ytbiappodepnbmaa
open Go GW Go.Proofs
set_option linter.unusedVariables false
set_option linter.unusedSimpArgs false
theorem Shp.inv {D : Int → Option Dw} {A : Ar} {c : Int} {tp : Fr} {rs : List Fr} (h : Shp D A c tp rs) :
    (∃ (w : Wh) (d : Dw), tp = .who w ∧ rs = [] ∧ D w.s = some d ∧ w.g = d.g ∧ w.pc ≠ 14 ∧ Mine D w.s c ∧ Cl A d w) ∨
    (∃ (f : En) (w : Wh) (d : Dw), tp = .ent f ∧ rs = [.who w] ∧ D w.s = some d ∧ w.g = d.g ∧ w.pc = 5 ∧ f.s = w.s ∧ f.e = w.i ∧ Mine D w.s c ∧ Pd A d f) ∨
    (∃ (f : En) (d : Dw) (n : Nat) (e : Sw), tp = .ent f ∧ rs = [] ∧ D f.s = some d ∧ f.e = n ∧ d.ds[n]? = some e ∧ e.c = c ∧ Pd A d f) := by
  cases h with
  | who a b c d e => exact .inl ⟨_, _, rfl, rfl, a, b, c, d, e⟩
  | entw a b c d e f g => exact .inr (.inl ⟨_, _, _, rfl, rfl, a, b, c, d, e, f, g⟩)
  | ent a b c d e => exact .inr (.inr ⟨_, _, _, _, rfl, rfl, a, b, c, d, e⟩)
/-- what a reader's step leaves -/
structure RGo (D : Int → Option Dw) (A : Ar) (F : Int → Stk) (M : Int → Int) (k : Int) (r r' : Rd) (B : Ar) : Prop where
  t : r'.t = k
  cell : r'.cell = r.cell
  q : r.q ≤ r'.q ∧ r'.q ≤ r.q + 1
  rel : Rel D F A B
  rs : RS D B r'
  val : r'.over = true → M r.cell = r'.value * 4
  mi : ∃ M', MI D noLo B (setF F k (fR r')) M' ∧ rmP D B M'
  pot : pot D B r' < pot D A r
section
variable {D : Int → Option Dw} {A B : Ar} {F F' : Int → Stk} {M M' : Int → Int} {t q s k : Int} {d : Dw} {n : Nat} {e : Sw} {w : Wh} {c : Int} {f : En} {r : Rd}
theorem rd_load (I : MI D noLo A F M) (rh : RH D) (p : rmP D A M) (hS : F k = fR r) (rok : r.ok) (rt : r.t = k) (ho : r.over = false) (hH : r.help = none) : (r.step A).2.1 = 0 ∧ RGo D A F M k r (r.step A).1 (r.step A).2.2 := by
  have c0 := rok.c0; have c1 := rok.c1
  have hS' : F k = ⟨r.q, []⟩ := by rw [hS]; unfold fR; rw [hH]
  have same := ld_same I.ok c0 (show r.cell < 634 by omega)
  have R := Rel.same (B := A.ld r.cell) I same
  have hk : 0 ≤ k ∧ k < 4 := by rw [← rt]; exact ⟨rok.t0, rok.t1⟩
  have e0 : r.step A = r.load A := by unfold Rd.step; rw [if_neg (by rw [ho]; decide), hH]
  rw [e0]
  have fs : (F k).fs = [] := by rw [hS']
  have fq : (F k).q = r.q := by rw [hS']
  have pB : rmP D (A.ld r.cell) M := by
    have hb : ∀ s d, D s = some d → (Won (A.ld r.cell) s d ↔ Won A s d) := fun s d hd => by
      have b := base_at (I.ds _ _ hd).1
      unfold Won; rw [same _ (by omega) b.2]
    exact ⟨fun s d n e hd he => ⟨fun h => (p.1 s d n e hd he).1 ((hb s d hd).1 h), fun h => (p.1 s d n e hd he).2 fun h' => h ((hb s d hd).2 h')⟩, p.2⟩
  have go : ∀ (f : Fr), FrOk D noLo A F k (F k).q f → Chain A [f] → MI D noLo (A.ld r.cell) (setF F k ⟨r.q, [f]⟩) M := fun f hf ch => by
    refine I.quiet (I.ok.ld _) same ⟨by rw [fq]; exact Int.le_refl _, rok.q1⟩ hk (fun g hg => by rw [List.mem_singleton.1 hg]; exact hf) ch (fun s1 d1 n1 e1 hd1 he1 hx => ?_) (fun v r' hv hpc => by rw [fs] at hv; cases hv)
    obtain ⟨g, hg, _⟩ := hx
    rw [fs] at hg; cases hg
  have pA : pot D A r = ldPot D A r.cell := by unfold pot; rw [if_neg (by rw [ho]; decide), hH]
  cases hr : read (A.at r.cell) with
  | none =>
    exfalso
    cases I.cells r.cell c0 c1 with
    | val h' mm => rw [(val_read h').1] at hr; cases hr
    | @mc s1 d1 n1 e1 hd1 he1 hc1 ha1 _ _ hh _ => rw [ha1, mw_read (I.ds _ _ hd1).1] at hr; cases hr
    | @en s1 d1 n1 e1 t1 q1 hd1 he1 hc1 ha1 t10 q10 mm _ _ _ _ =>
      have l1 := I.ds _ _ hd1
      have qq := (I.q0 t1).2
      rw [ha1, show read (ew s1 d1.g n1 t1 q1) = _ from read_number (ew_range l1.1 (l1.lt he1).1 t10 ⟨q10.1, by omega⟩)] at hr
      cases hr
  | some fo =>
    cases fo with
    | val v =>
      have hp : plainOf (A.at r.cell) = some v := by unfold plainOf; rw [hr]
      have e1 : r.load A = ({ r with slot := -1, gen := 0, value := v, over := true }, 0, A.ld r.cell) := by unfold Rd.load; rw [hp]
      rw [e1]
      refine ⟨rfl, rt, rfl, ⟨Int.le_refl _, by simp only; omega⟩, R, fun H h => ?_, fun _ => ?_, ⟨M, ?_, pB⟩, ?_⟩
      · have h : r.help = some H := h
        rw [hH] at h; cases h
      · show M r.cell = v * 4
        cases I.cells r.cell c0 c1 with
        | val h' mm => rw [mm]; exact (val_read hp).2.1
        | @mc s1 d1 n1 e1 hd1 he1 hc1 ha1 _ _ hh _ => rw [ha1, mw_read (I.ds _ _ hd1).1] at hr; cases hr
        | @en s1 d1 n1 e1 t1 q1 hd1 he1 hc1 ha1 t10 q10 mm _ _ _ _ =>
          have l1 := I.ds _ _ hd1
          have qq := (I.q0 t1).2
          rw [ha1, show read (ew s1 d1.g n1 t1 q1) = _ from read_number (ew_range l1.1 (l1.lt he1).1 t10 ⟨q10.1, by omega⟩)] at hr
          cases hr
      · have : fR { r with slot := -1, gen := 0, value := v, over := true } = ⟨r.q, []⟩ := by unfold fR; simp only [hH]
        rw [this]
        exact I.quiet (I.ok.ld _) same ⟨by rw [fq]; exact Int.le_refl _, rok.q1⟩ hk (fun g hg => by cases hg) trivial (fun s1 d1 n1 e1 hd1 he1 hx => by
          obtain ⟨g, hg, _⟩ := hx
          rw [fs] at hg; cases hg) (fun v r' hv hpc => by rw [fs] at hv; cases hv)
      · rw [pA]
        have := ldPot_bd (D := D) (A := A) (c := r.cell)
        show (0 : Int) < _
        omega
    | mcas s g =>
      obtain ⟨d, n, e, k1, k2, k3, rfl, k5, _⟩ := I.ref c0 c1 hr
      have hp : plainOf (A.at r.cell) = none := by unfold plainOf; rw [hr]
      have hn : newHelp r.t r.q (A.at r.cell) = some (.new r.t r.q (.who (.new s d.g))) := by
        unfold newHelp; rw [hr]
        simp only [Option.bind_some, newFr]
        rw [if_pos ⟨rok.t0, rok.t1, rok.q0, rok.q1⟩]
      have e1 : r.load A = ({ r with slot := -1, gen := 0, help := some (.new r.t r.q (.who (.new s d.g))) }, 0, A.ld r.cell) := by unfold Rd.load; rw [hp]; simp only [hn]
      rw [e1]
      refine ⟨rfl, rt, rfl, ⟨Int.le_refl _, by simp only; omega⟩, R, fun H h => ?_, fun h => ?_, ⟨M, ?_, pB⟩, ?_⟩
      · cases h
        exact ⟨rfl, rfl, rfl, .who k1 rfl (show (1 : Nat) ≠ 14 by decide) ⟨d, n, e, k1, k2, k3⟩ (fun h => by rcases h with h | h | h <;> cases h)⟩
      · have h : r.over = true := h
        rw [ho] at h; cases h
      · show MI D noLo _ (setF F k ⟨r.q, [.who (.new s d.g)]⟩) M
        exact go _ ⟨d, k1, rfl, trivial⟩ ⟨trivial, (fun h => by cases h), trivial⟩
      · rw [pA]
        have eA : ldPot D A r.cell = 33 := by unfold ldPot; rw [hr]
        rw [eA]
        have : pot D (A.ld r.cell) { r with slot := -1, gen := 0, help := some (.new r.t r.q (.who (.new s d.g))) } = cost 2 (A.ld r.cell) (.new s d.g) + U (A.ld r.cell) s (dOf D s) 0 + 1 := by
          unfold pot; rw [if_neg (by show ¬ r.over = true; rw [ho]; decide)]; rfl
        rw [this]
        have hu := (U_nn (A := A.ld r.cell) (s := s) (d := dOf D s) (k := 0)).2
        have hc : cost 2 (A.ld r.cell) (.new s d.g) ≤ 21 := by
          show (if (A.ld r.cell).at (baseOf s) = stateW d.g 0 then 8 * 2 + 5 else 3 * 2 + 2) ≤ (21 : Int)
          split <;> omega
        omega
    | entry s g x u q0 =>
      obtain ⟨d, n, e, k1, k2, k3, rfl, rfl, k6, k7, k8, _⟩ := I.entO rh p c0 c1 hr
      have hp : plainOf (A.at r.cell) = none := by unfold plainOf; rw [hr]
      have hn : newHelp r.t r.q (A.at r.cell) = some (.new r.t r.q (.ent (.new s d.g n u q0))) := by
        unfold newHelp; rw [hr]
        simp only [Option.bind_some, newFr]
        rw [if_pos ⟨rok.t0, rok.t1, rok.q0, rok.q1⟩]
      have e1 : r.load A = ({ r with slot := -1, gen := 0, help := some (.new r.t r.q (.ent (.new s d.g n u q0))) }, 0, A.ld r.cell) := by unfold Rd.load; rw [hp]; simp only [hn]
      rw [e1]
      refine ⟨rfl, rt, rfl, ⟨Int.le_refl _, by simp only; omega⟩, R, fun H h => ?_, fun h => ?_, ⟨M, ?_, pB⟩, ?_⟩
      · cases h
        refine ⟨rfl, rfl, rfl, .ent k1 rfl k2 k3 fun n' e' hn' he' => .inl ?_⟩
        have hn' : ((n : Nat) : Int) = n' := hn'
        have : n' = n := by omega
        subst this
        rw [k2] at he'; cases he'
        rw [same _ (by rw [k3]; exact c0) (by rw [k3]; omega), k3]
        exact k6
      · have h : r.over = true := h
        rw [ho] at h; cases h
      · show MI D noLo _ (setF F k ⟨r.q, [.ent (.new s d.g n u q0)]⟩) M
        exact go _ ⟨d, e, n, k1, rfl, rfl, k2, k8, k7, trivial⟩ trivial
      · rw [pA]
        have eA : ldPot D A r.cell = 38 := by unfold ldPot; rw [hr]
        rw [eA]
        have : pot D (A.ld r.cell) { r with slot := -1, gen := 0, help := some (.new r.t r.q (.ent (.new s d.g n u q0))) } = (4 - ((0 : Nat) : Int)) + 33 := by
          unfold pot; rw [if_neg (by show ¬ r.over = true; rw [ho]; decide)]; rfl
        rw [this]
        omega
theorem help_ld (I : MI D noLo B F M') (rh : RH D) (p : rmP D B M') (hd : D s = some d) (he : d.ds[n]? = some e) (hc : e.c = c) (h : Stl B s d e) : ldPot D B c ≤ 33 := by
  have m := (I.ds _ _ hd).lt he
  have hs := rh.c4 s d n e hd he
  rw [hc] at hs m
  rcases h with h | h
  · rw [hc] at h
    unfold ldPot; rw [h, mw_read (I.ds _ _ hd).1]; exact Int.le_refl _
  · rcases I.wonC rh p hd he h with h' | ⟨v, h'⟩
    · rw [hc] at h'
      unfold ldPot; rw [h', mw_read (I.ds _ _ hd).1]; exact Int.le_refl _
    · rw [hc] at h'
      unfold ldPot; rw [h']
      simp only
      rw [hs, hd]
      simp only
      have h : B.at (baseOf s) = stateW d.g 1 := h
      rw [if_pos h]; decide
theorem ld_one (I : MI D noLo B F M') (rh : RH D) (p : rmP D B M') (hd : D s = some d) (he : d.ds[n]? = some e) (hc : e.c = c) (hw : Won B s d) (hn : B.at e.c ≠ mw s d.g) : ldPot D B c = 1 := by
  have hs := rh.c4 s d n e hd he
  rw [hc] at hs
  rcases I.wonC rh p hd he hw with h' | ⟨v, h'⟩
  · exact absurd h' hn
  · rw [hc] at h'
    unfold ldPot; rw [h']
    simp only
    rw [hs, hd]
    exact if_pos hw
theorem rd_help (I : MI D noLo A F M) (rh : RH D) (p : rmP D A M) (hS : F k = fR r) (rok : r.ok) (rt : r.t = k) (hq : r.q + 1 < 1048576) (rs : RS D A r) (ho : r.over = false) {H : Help} (hH : r.help = some H) : (r.step A).2.1 = 0 ∧ RGo D A F M k r (r.step A).1 (r.step A).2.2 := by
  have hK : ∀ s d, D s = some d → (d.ds.length : Int) ≤ 2 := fun s d hd => by have := rh.len s d hd; omega
  obtain ⟨hov, htt, hqq, sh⟩ := rs H hH
  have hS2 : F k = stk H := by rw [hS]; unfold fR; rw [hH]
  have hS' : F k = ⟨H.q, H.top :: H.rest⟩ := by rw [hS, fR_some hH hov]
  have fs : (F k).fs = H.top :: H.rest := by rw [hS']
  have fq : (F k).q = H.q := by rw [hS']
  have hfr : ∀ f ∈ H.top :: H.rest, FrOk D noLo A F k H.q f := fun f m => by have := I.fr k f (by rw [fs]; exact m); rw [fq] at this; exact this
  have may : ∀ s d, D s = some d → swMay d.ds = true := fun s d hd => (I.ds s d hd).2.1
  obtain ⟨z0, z1, z2, z3, R, M', T, I', b⟩ := I.help (rm_L rh p) hS2 (by rw [htt]; exact rt) hov (by rw [hqq]; exact hq) (Bo := ∃ w, H.top = .who w ∧ H.rest = []) (s := H.top.s) (fun ⟨w, h1, h3⟩ => by
    unfold Bot; rw [if_neg (by rw [hov]; decide)]
    exact ⟨w, by rw [h1, h3]; rfl, by rw [h1]; rfl⟩)
  have p' := rm_P rh may p T
  have e0 : r.step A = r.helping H A := by unfold Rd.step; rw [if_neg (by rw [ho]; decide), hH]
  have e1 : r.helping H A = ({ r with slot := (H.step A).1.slot, gen := (H.step A).1.gen, q := (H.step A).1.q, help := if (H.step A).1.over then none else some (H.step A).1, over := false }, 0, (H.step A).2.2) := by
    unfold Rd.helping; rw [z0]; rfl
  rw [e0, e1]
  have pA : pot D A r = hpPot D A H.top H.rest := by unfold pot; rw [if_neg (by rw [ho]; decide), hH]
  -- what is left to show, case by case
  have fin : ((H.step A).1.over = true → ldPot D (H.step A).2.2 r.cell < hpPot D A H.top H.rest) → ((H.step A).1.over = false → Shp D (H.step A).2.2 r.cell (H.step A).1.top (H.step A).1.rest ∧ hpPot D (H.step A).2.2 (H.step A).1.top (H.step A).1.rest < hpPot D A H.top H.rest) →
      (0 : Int) = 0 ∧ RGo D A F M k r { r with slot := (H.step A).1.slot, gen := (H.step A).1.gen, q := (H.step A).1.q, help := if (H.step A).1.over then none else some (H.step A).1, over := false } (H.step A).2.2 := fun h1 h2 => by
    refine ⟨rfl, rt, rfl, ⟨by rw [← hqq]; exact z1, by rw [← hqq]; exact z2⟩, R, fun G hG => ?_, (fun h => by cases h), ⟨M', ?_, p'⟩, ?_⟩
    · have hG : (if (H.step A).1.over = true then none else some (H.step A).1) = some G := hG
      cases hv : (H.step A).1.over with
      | true => rw [hv] at hG; cases hG
      | false =>
        rw [hv] at hG
        simp only [Bool.false_eq_true, if_false, Option.some.injEq] at hG
        subst hG
        exact ⟨hv, by rw [z3]; exact rt.symm, rfl, (h2 hv).1⟩
    · have : fR { r with slot := (H.step A).1.slot, gen := (H.step A).1.gen, q := (H.step A).1.q, help := if (H.step A).1.over then none else some (H.step A).1, over := false } = stk (H.step A).1 := by
        unfold fR
        cases hv : (H.step A).1.over with
        | true => simp only [if_true]; unfold stk; rw [hv]; rfl
        | false => simp only [Bool.false_eq_true, if_false]
      rw [this]; exact I'
    · rw [pA]
      unfold pot
      simp only [Bool.false_eq_true, if_false]
      cases hv : (H.step A).1.over with
      | true => simp only [if_true]; exact h1 hv
      | false => simp only [Bool.false_eq_true, if_false]; exact (h2 hv).2
  -- the frames' step
  have he : H.step A = ((H.take (H.top.step H.t H.q A)).1, (H.take (H.top.step H.t H.q A)).2, (H.top.step H.t H.q A).a) := Help.step_eq hov
  have good : ∀ {o : Out}, H.step A = ((H.take o).1, (H.take o).2, o.a) → o.good ≠ false := fun {o} he hg => by
    rw [he] at z0
    unfold Help.take at z0
    simp only [if_pos hg] at z0
    exact absurd z0 (show ¬ (1400 : Int) = 0 by decide)
  rcases Shp.inv sh with ⟨w, d, hT, hRs, hd, hg, hp, ⟨d', n, e, m1, m2, m3⟩, cl⟩ | ⟨f, w, d, hT, hRs, hd, hg, hp, fse, fe, hm, pd⟩ | ⟨f, d, n, e, hT, hRs, hd, fe, hen, hc, pd⟩
  · -- a frame of the cell's descriptor
    rw [hd] at m1; cases m1
    rw [hT, hRs] at hS' hfr fin
    have sp := stp I hK hS' (by rw [hqq]; exact hq)
    have hst : Fr.step H.t H.q H.top A = w.step k H.q A := by rw [hT, htt, rt]; rfl
    rw [hst] at he
    generalize w.step k H.q A = o at sp he
    have good := good he
    obtain ⟨⟨w', f1, f2, f3, way, cls⟩, est⟩ := sp
    have hB : (H.step A).2.2 = o.a := by rw [he]
    rw [← hB] at cls
    have m := (I.ds _ _ hd).lt m2
    cases way with
    | on h1 h2 h3 h4 h5 =>
      have ht : H.take o = ({ H with q := o.q, top := o.fr, slot := H.top.s, gen := H.top.g }, 0) := by
        unfold Help.take; simp only [h1, Option.bind_none, if_neg good, if_pos h2]
      have n1 : (H.step A).1.over = false := by rw [he, ht]; exact hov
      have n2 : (H.step A).1.top = .who w' := by rw [he, ht]; exact f1
      have n3 : (H.step A).1.rest = [] := by rw [he, ht]; exact hRs
      rw [← hB] at h3 h4 h5
      have frB : FrOk D noLo (H.step A).2.2 (setF F k (stk (H.step A).1)) k (setF F k (stk (H.step A).1) k).q (.who w') := I'.fr k (.who w') (by rw [setF_at]; unfold stk; rw [n1, n2]; simp)
      refine fin (fun h => by rw [n1] at h; cases h) fun _ => ?_
      rw [n2, n3]
      refine ⟨.who (by rw [f2]; exact hd) (by rw [f3]; exact hg) (fun h14 => ?_) ⟨d, n, e, by rw [f2]; exact hd, m2, m3⟩ fun hpc n1' e1 hn1 he1 hb => ?_, ?_⟩
      · obtain ⟨d1, a1, a2, a3⟩ := frB
        rw [f2, hd] at a1; cases a1
        simp only [Ph, h14] at a3
        obtain ⟨n2', e2, ix, _, hc2, _, s', ds', g1, g2, g3, _⟩ := a3
        have m' := (I'.ds _ _ hd).lt ix.e
        have hb := h4 h14
        rw [hc2, g3] at hb
        obtain ⟨d3, n3', e3, k1, k2, k3, _⟩ := I'.ref m'.2.1 m'.2.2.1 (by rw [hb]; exact mw_read (I'.ds _ _ g1).1)
        have c1 := rh.c4 _ _ _ _ k1 k2
        have c2 := rh.c4 _ _ _ _ hd ix.e
        rw [k3] at c1
        exact g2 (by rw [f2]; omega)
      · rw [f2] at hb
        have me := (I.ds _ _ hd).lt he1
        have hx := idx_eq I hd he1
        have nrf : RFc D w' e1.c → False := fun h => by
          rcases h with h | h | h
          · omega
          · omega
          · rw [f2, hx] at h; omega
        rcases cls e1.c me.2.1 me.2.2.1 with ⟨c1, c2⟩ | ⟨v, c1⟩ | ⟨s1, g1, x1, q1, c1⟩ | ⟨_, _, c3⟩
        · rw [c1] at hb
          by_cases rf : RFc D w e1.c
          · exact nrf (c2 (by rw [hg]; exact hb) rf).2
          · have hpw : w.pc = 11 ∨ w.pc = 12 ∨ w.pc = 13 := by
              have h1 : ¬ w.pc ≤ 10 := fun h => rf (.inl h)
              obtain ⟨dd, q1, _, q3⟩ := hfr (.who w) (by simp)
              unfold Ph at q3
              split at q3
              all_goals first | omega | exact absurd q3 id
            have hni : (n1' : Int) < w.i := by
              have h3 : ¬ w.i ≤ idx D w.s e1.c := fun h => rf (.inr (.inr h))
              rw [hx] at h3; omega
            exact cl hpw n1' e1 hni he1 hb
        · rw [hb, mw_read (I.ds _ _ hd).1] at c1; cases c1
        · rw [hb, mw_read (I.ds _ _ hd).1] at c1; cases c1
        · exact nrf c3
      · show cost 2 _ w' + U _ w'.s (dOf D w'.s) (idxF w') + 1 < cost 2 A w + U A w.s (dOf D w.s) (idxF w) + 1
        rw [f2, dOf_eq hd]
        rcases h5 with h5 | h5
        · have := U_mono R I I' hd h5
          omega
        · have : Won (H.step A).2.2 w.s d := I'.won hd (by unfold Opn; rw [← hg]; exact h5)
          have := U_won (k := idxF w') this
          have := (U_nn (A := A) (s := w.s) (d := d) (k := idxF w)).1
          omega
    | pop h1 h2 h3 =>
      have ht : H.take o = ({ H with q := o.q, top := o.fr, slot := H.top.s, gen := H.top.g, won := o.fr.won, over := true }, 0) := by
        unfold Help.take; simp only [h1, Option.bind_none, if_neg good, h2, hRs, Bool.true_eq_false, if_false]
      have n1 : (H.step A).1.over = true := by rw [he, ht]
      have bt := b ⟨w, hT, hRs⟩
      unfold Bot at bt
      rw [if_pos n1] at bt
      obtain ⟨d1, b1, b2, _⟩ := bt
      have b1 : D w.s = some d1 := by rw [hT] at b1; exact b1
      rw [hd] at b1; cases b1
      have b2 : ¬ Opn (H.step A).2.2 w.s d := by rw [hT] at b2; exact b2
      refine fin (fun _ => ?_) fun h => by rw [n1] at h; cases h
      have hx := idx_eq I hd m2
      rw [ld_one I' rh p' hd m2 m3 (I'.won hd b2) fun hb => ?_]
      · show (1 : Int) < cost 2 A w + U A w.s (dOf D w.s) (idxF w) + 1
        have := (U_nn (A := A) (s := w.s) (d := dOf D w.s) (k := idxF w)).1
        omega
      · rcases cls e.c m.2.1 m.2.2.1 with ⟨c1, c2⟩ | ⟨v, c1⟩ | ⟨s1, g1, x1, q1, c1⟩ | ⟨_, c2, _⟩
        · rw [c1] at hb
          by_cases rf : RFc D w e.c
          · have := (c2 (by rw [hg]; exact hb) rf).1
            rw [h2] at this; cases this
          · have hpw : w.pc = 11 ∨ w.pc = 12 ∨ w.pc = 13 := by
              have h1 : ¬ w.pc ≤ 10 := fun h => rf (.inl h)
              obtain ⟨dd, q1, _, q3⟩ := hfr (.who w) (by simp)
              unfold Ph at q3
              split at q3
              all_goals first | omega | exact absurd q3 id
            have hni : (n : Int) < w.i := by
              have h3 : ¬ w.i ≤ idx D w.s e.c := fun h => rf (.inr (.inr h))
              rw [hx] at h3; omega
            exact cl hpw n e hni m2 hb
        · rw [hb, mw_read (I.ds _ _ hd).1] at c1; cases c1
        · rw [hb, mw_read (I.ds _ _ hd).1] at c1; cases c1
        · rw [h2] at c2; cases c2
    | push _ _ h3 => exact absurd h3 hp
    | @ent s1 g1 x1 u1 q1 h1 h2 h3 h4 h5 h6 h9 h10 h11 =>
      have ht : H.take o = ({ H with q := o.q, top := .ent (.new s1 g1 x1 u1 q1), slot := H.top.s, gen := H.top.g, rest := o.fr :: H.rest }, 0) := by
        have hat : o.atop.bind newFr = some (.ent (.new s1 g1 x1 u1 q1)) := by rw [h2]; rfl
        unfold Help.take; simp only [hat, if_neg good, hRs, List.length_nil]
        exact if_neg (by decide)
      have n1 : (H.step A).1.over = false := by rw [he, ht]; exact hov
      have n2 : (H.step A).1.top = .ent (.new s1 g1 x1 u1 q1) := by rw [he, ht]
      have n3 : (H.step A).1.rest = [.who w'] := by rw [he, ht]; show o.fr :: H.rest = _; rw [f1, hRs]
      rw [← hB] at h9
      obtain ⟨dd, q1', q2, q3⟩ := hfr (.who w) (by simp)
      rw [hd] at q1'; cases q1'
      simp only [Ph, h3] at q3
      obtain ⟨n0, e0', ix, _, hc0, _⟩ := q3
      obtain ⟨d1, n1', e1', k1, k2, k3, k4, k5, k6, k7, k8, k9⟩ := I.entO rh p h10.1 h10.2 h1
      have c1 := rh.c4 _ _ _ _ k1 k2
      have c2 := rh.c4 _ _ _ _ hd ix.e
      have hs1 : s1 = w.s := by rw [k3, hc0] at c1; omega
      subst hs1
      rw [hd] at k1; cases k1
      have hnn := sw_inj (may _ _ hd) k2 ix.e (by rw [k3, hc0])
      subst hnn
      rw [ix.e] at k2; cases k2
      refine fin (fun h => by rw [n1] at h; cases h) fun _ => ?_
      rw [n2, n3]
      refine ⟨.entw (by rw [f2]; exact hd) (by rw [f3]; exact hg) h4 f2.symm (by rw [h5.2, ix.i]; exact k5) ⟨d, n, e, by rw [f2]; exact hd, m2, m3⟩ fun n9 e9 hn9 he9 => .inl ?_, ?_⟩
      · have hn9 : x1 = (n9 : Int) := hn9
        have : n9 = n1' := by omega
        subst this
        rw [ix.e] at he9; cases he9
        have me := (I.ds _ _ hd).lt ix.e
        rw [h9 _ me.2.1 (by omega), ← hc0, k6, k4, k5]; rfl
      · show (4 - ((0 : Nat) : Int)) + cost 2 _ w' + U _ w'.s (dOf D w'.s) (w'.i + 1) + 1 < cost 2 A w + U A w.s (dOf D w.s) (idxF w) + 1
        have hcw : cost 2 (H.step A).2.2 w' = cost 2 A w := by simp only [cost, h4, h5, h3]
        have hidx : idxF w = n1' := by unfold idxF; rw [if_neg (by omega)]; exact ix.i
        rw [f2, dOf_eq hd, hcw, h5.2, ix.i, hidx]
        have u1 := U_mono R I I' hd (Int.le_refl ((n1' : Int) + 1))
        have hl := rh.len _ _ hd
        have hlt := (List.getElem?_eq_some_iff.1 ix.e).1
        have u2 := U_at (A := A) (s := w.s) (show n1' < 2 by omega) ix.e fun h => by
          rcases h with h | h
          · rw [← hc0, k6] at h; exact mw_ew h.symm
          · exact won_nopn h k9
        omega
  · -- an entry above a frame
    rw [hT, hRs] at hS' hfr fin
    obtain ⟨f', e1, e2, ⟨g1, g2, g3⟩, e3, e4, e5⟩ := ent_step I hS'
    have hst : Fr.step H.t H.q H.top A = f.step H.q A := by rw [hT]; rfl
    rw [hst] at he
    generalize f.step H.q A = o at e1 e3 e4 e5 he
    have good := good he
    have hB : (H.step A).2.2 = o.a := by rw [he]
    rw [← hB] at e5
    obtain ⟨d1, ee, nn, a1, a2, a3, a4, a5, a6, _⟩ := hfr (.ent f) (by simp)
    rw [fse, hd] at a1; cases a1
    have pdB := pd.mono R I I' (by rw [fse]; exact hd) a2 a6 a5
    rcases e5 with ⟨ov, hpc, hpc3, same⟩ | ⟨hpc, ov, c0, u1, u2, u3⟩
    · have ht : H.take o = ({ H with q := o.q, top := o.fr, slot := H.top.s, gen := H.top.g }, 0) := by
        unfold Help.take; simp only [e3, Option.bind_none, if_neg good, if_pos ov]
      have n1 : (H.step A).1.over = false := by rw [he, ht]; exact hov
      have n2 : (H.step A).1.top = .ent f' := by rw [he, ht]; exact e1
      have n3 : (H.step A).1.rest = [.who w] := by rw [he, ht]; exact hRs
      refine fin (fun h => by rw [n1] at h; cases h) fun _ => ?_
      rw [n2, n3]
      refine ⟨.entw hd hg hp (by rw [g1]; exact fse) (by rw [g3]; exact fe) hm fun n9 e9 hn9 he9 => ?_, ?_⟩
      · have := pdB n9 e9 (by rw [← g3]; exact hn9) he9
        have ew' : (Form.entry f'.s f'.g f'.e f'.t f'.q).number = (Form.entry f.s f.g f.e f.t f.q).number := e2
        rw [ew', g1]; exact this
      · show (4 - (f'.pc : Int)) + cost 2 _ w + U _ w.s (dOf D w.s) (w.i + 1) + 1 < (4 - (f.pc : Int)) + cost 2 A w + U A w.s (dOf D w.s) (w.i + 1) + 1
        have := U_mono R I I' hd (Int.le_refl (w.i + 1))
        rw [cost_pc5 (A := A) hp, dOf_eq hd]
        omega
    · have ht : H.take o = ({ H with q := o.q, rest := [], top := .who w, slot := H.top.s, gen := H.top.g, won := false }, 0) := by
        unfold Help.take; simp only [e3, Option.bind_none, if_neg good, ov, hRs, Bool.true_eq_false, if_false]
      have n1 : (H.step A).1.over = false := by rw [he, ht]; exact hov
      have n2 : (H.step A).1.top = .who w := by rw [he, ht]
      have n3 : (H.step A).1.rest = [] := by rw [he, ht]
      refine fin (fun h => by rw [n1] at h; cases h) fun _ => ?_
      rw [n2, n3]
      refine ⟨.who hd hg (by omega) hm (fun h => by omega), ?_⟩
      show cost 2 _ w + U _ w.s (dOf D w.s) (idxF w) + 1 < (4 - (f.pc : Int)) + cost 2 A w + U A w.s (dOf D w.s) (w.i + 1) + 1
      have hin : w.i = (nn : Int) := by rw [← fe]; exact a3
      have hidx : idxF w = (nn : Int) := by unfold idxF; rw [if_neg (by omega)]; exact hin
      have stl : Stl (H.step A).2.2 w.s d ee := by
        have := pdB nn ee a3 a4
        rw [fse] at this
        rcases this with h | h
        · exfalso
          have h : (H.step A).2.2.at ee.c = eword f := by rw [h, ← fse]; rfl
          have me := (I.ds _ _ hd).lt a4
          by_cases cc : ee.c = c0
          · rw [cc] at h
            rcases u3 with ⟨x1, x2⟩ | ⟨x1, x2⟩
            · rw [x1] at h; exact x2 h
            · have hw : eword f = ew w.s d.g nn f.t f.q := by unfold eword; rw [fse, a2, a3]; rfl
              have hr : read (eword f) = some (.entry w.s d.g nn f.t f.q) := by
                rw [hw]; exact read_number (ew_range (I.ds _ _ hd).1 me.1 a6 ⟨a5.1, by have := (I.q0 f.t).2; omega⟩)
              rw [h, hr] at x2
              rcases x2 with ⟨v, x2⟩ | ⟨s, g, x2⟩ <;> cases x2
          · rw [u2 _ me.2.1 me.2.2.1 cc] at h
            exact cc (u1 _ me.2.1 me.2.2.1 h)
        · exact h
      have us := U_set (A := (H.step A).2.2) a4 stl
      have um := U_mono R I I' hd (Int.le_refl ((nn : Int) + 1))
      rw [cost_pc5 (A := A) hp, dOf_eq hd, hidx, hin]
      omega
  · -- an entry alone
    rw [hT, hRs] at hS' hfr fin
    obtain ⟨f', e1, e2, ⟨g1, g2, g3⟩, e3, e4, e5⟩ := ent_step I hS'
    have hst : Fr.step H.t H.q H.top A = f.step H.q A := by rw [hT]; rfl
    rw [hst] at he
    generalize f.step H.q A = o at e1 e3 e4 e5 he
    have good := good he
    have hB : (H.step A).2.2 = o.a := by rw [he]
    rw [← hB] at e5
    obtain ⟨d1, ee, nn, a1, a2, a3, a4, a5, a6, _⟩ := hfr (.ent f) (by simp)
    rw [hd] at a1; cases a1
    have : nn = n := by omega
    subst this
    rw [hen] at a4; cases a4
    have pdB := pd.mono R I I' hd a2 a6 a5
    rcases e5 with ⟨ov, hpc, hpc3, same⟩ | ⟨hpc, ov, c0, u1, u2, u3⟩
    · have ht : H.take o = ({ H with q := o.q, top := o.fr, slot := H.top.s, gen := H.top.g }, 0) := by
        unfold Help.take; simp only [e3, Option.bind_none, if_neg good, if_pos ov]
      have n1 : (H.step A).1.over = false := by rw [he, ht]; exact hov
      have n2 : (H.step A).1.top = .ent f' := by rw [he, ht]; exact e1
      have n3 : (H.step A).1.rest = [] := by rw [he, ht]; exact hRs
      refine fin (fun h => by rw [n1] at h; cases h) fun _ => ?_
      rw [n2, n3]
      refine ⟨.ent (by rw [g1]; exact hd) (by rw [g3]; exact fe) hen hc fun n9 e9 hn9 he9 => ?_, ?_⟩
      · have := pdB n9 e9 (by rw [← g3]; exact hn9) he9
        have ew' : (Form.entry f'.s f'.g f'.e f'.t f'.q).number = (Form.entry f.s f.g f.e f.t f.q).number := e2
        rw [ew', g1]; exact this
      · show (4 - (f'.pc : Int)) + 33 < (4 - (f.pc : Int)) + 33
        omega
    · have ht : H.take o = ({ H with q := o.q, top := o.fr, slot := H.top.s, gen := H.top.g, won := o.fr.won, over := true }, 0) := by
        unfold Help.take; simp only [e3, Option.bind_none, if_neg good, ov, hRs, Bool.true_eq_false, if_false]
      have n1 : (H.step A).1.over = true := by rw [he, ht]
      refine fin (fun _ => ?_) fun h => by rw [n1] at h; cases h
      have stl : Stl (H.step A).2.2 f.s d e := by
        have := pdB nn e fe hen
        rcases this with h | h
        · exfalso
          have h : (H.step A).2.2.at e.c = eword f := h
          have me := (I.ds _ _ hd).lt hen
          by_cases cc : e.c = c0
          · rw [cc] at h
            rcases u3 with ⟨x1, x2⟩ | ⟨x1, x2⟩
            · rw [x1] at h; exact x2 h
            · have hw : eword f = ew f.s d.g nn f.t f.q := by unfold eword; rw [a2, a3]; rfl
              have hr : read (eword f) = some (.entry f.s d.g nn f.t f.q) := by
                rw [hw]; exact read_number (ew_range (I.ds _ _ hd).1 me.1 a6 ⟨a5.1, by have := (I.q0 f.t).2; omega⟩)
              rw [h, hr] at x2
              rcases x2 with ⟨v, x2⟩ | ⟨s, g, x2⟩ <;> cases x2
          · rw [u2 _ me.2.1 me.2.2.1 cc] at h
            exact cc (u1 _ me.2.1 me.2.2.1 h)
        · exact h
      have := help_ld I' rh p' hd hen hc stl
      show ldPot D _ r.cell < (4 - (f.pc : Int)) + 33
      omega
end
end Go.Proofs.Ytbiappodepnbmaa
namespace Go.Proofs.Ytbiappodepnbmaa
open Go GW Go.Proofs
set_option linter.unusedVariables false
set_option linter.unusedSimpArgs false
def Dsr (dss : List (List Sw)) : Int → Option Dw := fun s => if 0 ≤ s then (dss[s.toNat]?).map fun ds => ⟨1, ds, False⟩ else none
theorem Dsr_some {dss : List (List Sw)} {s : Int} {d : Dw} (h : Dsr dss s = some d) : ∃ (k : Nat) (ds : List Sw), s = k ∧ dss[k]? = some ds ∧ d = ⟨1, ds, False⟩ := by
  unfold Dsr at h
  split at h
  · rename_i h0
    cases e : dss[s.toNat]? with
    | none => rw [e] at h; cases h
    | some ds => rw [e] at h; cases h; exact ⟨s.toNat, ds, by omega, e, rfl⟩
  · cases h
theorem Dsr_at {dss : List (List Sw)} {k : Nat} {ds : List Sw} (h : dss[k]? = some ds) : Dsr dss k = some ⟨1, ds, False⟩ := by
  unfold Dsr
  rw [if_pos (by omega), show ((k : Int)).toNat = k by omega, h]; rfl
/-- rows of cells apart -/
def Apart (rows : List (List Sw)) : Prop := rows.length ≤ 3 ∧ ∀ (i : Nat) ds, rows[i]? = some ds → swMay ds = true ∧ ds.length ≤ 2 ∧ ∀ e ∈ ds, e.c / 4 = i ∧ e.w = 0 ∧ e.n = 1 + i
theorem Apart.rh {rows : List (List Sw)} (h : Apart rows) : RH (Dsr rows) := by
  refine ⟨fun s d hd => ?_, fun s d n e hd he => ?_, fun s d n e hd he => ?_, fun s d n e hd he => ?_, fun s d hd => ?_⟩ <;> obtain ⟨k, ds, rfl, e1, rfl⟩ := Dsr_some hd
  · rfl
  · exact ((h.2 k ds e1).2.2 e (List.mem_of_getElem? he)).1
  · exact ((h.2 k ds e1).2.2 e (List.mem_of_getElem? he)).2.1
  · have := ((h.2 k ds e1).2.2 e (List.mem_of_getElem? he)).2.2; omega
  · exact (h.2 k ds e1).2.1
def Frs (rs : List Rd) : Int → Stk := fun t => if 0 ≤ t then (match rs[t.toNat]? with | some r => fR r | none => ⟨0, []⟩) else ⟨0, []⟩
theorem Frs_at {rs : List Rd} {k : Nat} {r : Rd} (h : rs[k]? = some r) : Frs rs k = fR r := by
  unfold Frs
  rw [if_pos (by omega), show ((k : Int)).toNat = k by omega, h]
theorem Frs_set {rs : List Rd} {k : Nat} {r r' : Rd} (h : rs[k]? = some r) : setF (Frs rs) k (fR r') = Frs (rs.set k r') := by
  have hk := (List.getElem?_eq_some_iff.1 h).1
  funext u
  unfold setF Frs
  by_cases c : u = k
  · subst c
    rw [if_pos rfl, if_pos (by omega), show ((k : Int)).toNat = k by omega, List.getElem?_set_self hk]
  · rw [if_neg c]
    split
    · rw [List.getElem?_set_ne (by omega)]
    · rfl
structure RdW (D : Int → Option Dw) (A : Ar) (k : Int) (r : Rd) : Prop where
  t : r.t = k
  ok : r.ok
  rs : RS D A r
  q : r.q + pot D A r ≤ 39
  val : r.over = true → r.value = 0 ∨ r.value = 1 + r.cell / 4
structure RW (rows : List (List Sw)) (rs : List Rd) (A : Ar) : Prop where
  ex : ∃ M, MI (Dsr rows) noLo A (Frs rs) M ∧ rmP (Dsr rows) A M
  h : ∀ (k : Nat) r, rs[k]? = some r → RdW (Dsr rows) A k r
section
variable {rows : List (List Sw)} {rs : List Rd} {A : Ar} {k : Nat} {r : Rd}
theorem RW.ok (w : RW rows rs A) : A.ok := by obtain ⟨M, I, _⟩ := w.ex; exact I.ok
theorem RW.step (ap : Apart rows) (w : RW rows rs A) (hk : rs[k]? = some r) :
    (r.step A).2.1 = 0 ∧ RW rows (rs.set k (r.step A).1) (r.step A).2.2 ∧ (r.step A).1.cell = r.cell ∧ (∀ (j : Nat) x, j ≠ k → rs[j]? = some x → pot (Dsr rows) (r.step A).2.2 x ≤ pot (Dsr rows) A x) ∧ (r.over = false → pot (Dsr rows) (r.step A).2.2 (r.step A).1 < pot (Dsr rows) A r) ∧ (r.over = true → (r.step A).1.over = true) := by
  have rh := ap.rh
  obtain ⟨M, I, p⟩ := w.ex
  have wk := w.h k r hk
  have hkl := (List.getElem?_eq_some_iff.1 hk).1
  cases ho : r.over with
  | true =>
    have e : r.step A = (r, 0, A) := by unfold Rd.step; rw [if_pos ho]
    rw [e]
    have es : rs.set k r = rs := by
      apply List.ext_getElem?
      intro i
      by_cases c : i = k
      · subst c; rw [List.getElem?_set_self hkl, hk]
      · rw [List.getElem?_set_ne (Ne.symm c)]
    show (0 : Int) = 0 ∧ RW rows (rs.set k r) A ∧ r.cell = r.cell ∧ _
    rw [es]
    exact ⟨rfl, w, rfl, fun j x _ _ => Int.le_refl _, (fun h => by cases h), fun _ => ho⟩
  | false =>
    have hS := Frs_at hk
    have pn := pot_nn I rh hS wk.rs
    have hq := wk.q
    obtain ⟨z0, g⟩ : (r.step A).2.1 = 0 ∧ RGo (Dsr rows) A (Frs rs) M k r (r.step A).1 (r.step A).2.2 := by
      cases hH : r.help with
      | none => exact rd_load I rh p hS wk.ok wk.t ho hH
      | some H => exact rd_help I rh p hS wk.ok wk.t (by omega) wk.rs ho hH
    obtain ⟨M', I', p'⟩ := g.mi
    have oth : ∀ (j : Nat) x, j ≠ k → rs[j]? = some x → pot (Dsr rows) (r.step A).2.2 x ≤ pot (Dsr rows) A x := fun j x hj hx => by
      have wj := w.h j x hx
      exact pot_mono g.rel I I' rh p p' ⟨wj.ok.c0, wj.ok.c1⟩ wj.rs
    refine ⟨z0, ⟨⟨M', by rw [Frs_set hk] at I'; exact I', p'⟩, fun j x hx => ?_⟩, g.cell, oth, fun _ => g.pot, (fun h => by cases h)⟩
    by_cases c : j = k
    · subst c
      rw [List.getElem?_set_self hkl] at hx; cases hx
      have := g.pot; have := g.q
      refine ⟨g.t, (Rd.step_ok wk.ok I.ok).1, g.rs, by omega, fun hv => ?_⟩
      have hm := g.val hv
      have c0 := wk.ok.c0; have c1 := wk.ok.c1
      rw [g.cell]
      by_cases hx : ∃ (s : Int) (d : Dw) (n : Nat) (e : Sw), Dsr rows s = some d ∧ d.ds[n]? = some e ∧ e.c = r.cell
      · obtain ⟨s, d, n, e, hd, he, hc⟩ := hx
        have := p.1 s d n e hd he
        rw [hc] at this
        obtain ⟨i, ds, rfl, e1, rfl⟩ := Dsr_some hd
        have hn := (ap.2 i ds e1).2.2 e (List.mem_of_getElem? he)
        by_cases hw : Won A (i : Int) ⟨1, ds, False⟩
        · have := this.1 hw
          right; rw [← hc]; omega
        · have := this.2 hw
          left; omega
      · have := p.2 r.cell c0 c1 fun s d n e hd he hc => hx ⟨s, d, n, e, hd, he, hc⟩
        left; omega
    · rw [List.getElem?_set_ne (Ne.symm c)] at hx
      have wj := w.h j x hx
      have := oth j x c hx
      have hqj := wj.q
      exact ⟨wj.t, wj.ok, wj.rs.mono g.rel I I' rh p (Frs_at hx), by omega, wj.val⟩
theorem RW.nn (ap : Apart rows) (w : RW rows rs A) (hk : rs[k]? = some r) : 0 ≤ pot (Dsr rows) A r ∧ pot (Dsr rows) A r ≤ 39 := by
  obtain ⟨M, I, p⟩ := w.ex
  have wk := w.h k r hk
  have := wk.q; have := wk.ok.q0
  exact ⟨pot_nn I ap.rh (Frs_at hk) wk.rs, by omega⟩
theorem RW.init (ap : Apart rows) (hA : A.ok) (hd : ∀ (i : Nat) ds, rows[i]? = some ds → Dsc A i 1 0 ds) (hc : ∀ c, 0 ≤ c → c < 16 → A.at c = 0 ∨ ∃ (i : Nat) (ds : List Sw) (e : Sw), rows[i]? = some ds ∧ ds[0]? = some e ∧ e.c = c ∧ A.at c = mw i 1)
    (hs : ∀ (k : Nat) r, rs[k]? = some r → k < 4 ∧ ∃ c, (0 ≤ c ∧ c < 16) ∧ r = Rd.new k 0 c) : RW rows rs A := by
  have live : ∀ {k : Nat} {ds : List Sw}, rows[k]? = some ds → Life (k : Int) 1 := fun {k ds} h => by
    have := (List.getElem?_eq_some_iff.1 h).1
    have := ap.1
    exact ⟨by omega, by omega, by decide, by decide⟩
  have nil : ∀ t, (Frs rs t).fs = [] ∧ (Frs rs t).q = 0 := fun t => by
    unfold Frs
    split
    · cases e : rs[t.toNat]? with
      | none => exact ⟨rfl, rfl⟩
      | some r =>
        obtain ⟨_, c, _, rfl⟩ := hs _ r e
        exact ⟨rfl, rfl⟩
    · exact ⟨rfl, rfl⟩
  have won : ∀ s d, Dsr rows s = some d → ¬ Won A s d := fun s d h hw => by
    obtain ⟨k, ds, rfl, e, rfl⟩ := Dsr_some h
    have := (hd k ds e).st
    unfold Won at hw
    rw [this, stateW_inj] at hw
    exact absurd hw (by decide)
  refine ⟨⟨fun _ => 0, ⟨hA, fun s d h => ?_, fun c c0 c1 => ?_, fun t f hf => ?_, fun t => ?_, fun s d h hl => ?_, fun t => ?_, fun t ht => ?_⟩, fun s d n e h he => ⟨fun hw => absurd hw (won s d h), fun _ => rfl⟩, fun _ _ _ _ => rfl⟩, fun k r e => ?_⟩
  · obtain ⟨k, ds, rfl, e, rfl⟩ := Dsr_some h
    exact ⟨live e, (ap.2 k ds e).1, 0, by decide, hd k ds e⟩
  · rcases hc c c0 c1 with h | ⟨i, ds, e, h1, h2, h3, h4⟩
    · exact .val (v := 0) (by rw [h]; decide) h.symm
    · have hD := Dsr_at h1
      refine .mc hD h2 h3 h4 (fun hw => absurd hw (won _ _ hD)) (fun _ => ?_) (fun _ j e' hj => absurd hj (by omega)) (fun h => h.elim)
      have := ((ap.2 i ds h1).2.2 e (List.mem_of_getElem? h2)).2.1
      omega
  · rw [(nil t).1] at hf; cases hf
  · rw [(nil t).1]; trivial
  · obtain ⟨k, ds, rfl, e, rfl⟩ := Dsr_some h
    rw [(hd k ds e).st, stateW_inj] at hl
    exact absurd hl (by decide)
  · rw [(nil t).2]; exact ⟨Int.le_refl _, by decide⟩
  · exact absurd (nil t).1 ht
  · obtain ⟨k4, c, ⟨c0, c1⟩, rfl⟩ := hs k r e
    refine ⟨rfl, Rd.new_ok ⟨⟨by omega, by omega⟩, ⟨by decide, by decide⟩, c0, c1⟩, (fun H h => by cases h), ?_, (fun h => by cases h)⟩
    show 0 + ldPot (Dsr rows) A c ≤ 39
    have := ldPot_bd (D := Dsr rows) (A := A) (c := c)
    omega
end
end Go.Proofs.Ytbiappodepnbmaa
namespace Go.Proofs.Ytbiappodepnbmaa
open Go GW Go.Proofs
attribute [local irreducible] bnd ldV stV ifV binV eqI
set_option linter.unusedVariables false
set_option linter.unusedSimpArgs false
set_option maxRecDepth 20000
def bools (l : List Bool) : List (List Value) := l.map fun b => [.bool b]
def mrSw (i j : Int) (s : Sw) : Sw := ⟨4 * i + 2 * j + s.c % ((2 ^ 1 : Nat) : Int), 0, 1 + i⟩
def mrRow (i : Int) : Int → List Sw → List Sw
  | _, [] => []
  | j, s :: r => mrSw i j s :: mrRow i (j + 1) r
theorem mrRow_ok {i : Int} (i0 : 0 ≤ i) (i3 : i < 3) : ∀ {l : List Sw} {j last : Int}, last < 4 * i + 2 * j → 0 ≤ j → j + l.length ≤ 2 → swOk last (mrRow i j l) = true ∧ ∀ e ∈ mrRow i j l, e.c / 4 = i ∧ e.w = 0 ∧ e.n = 1 + i := by
  intro l
  induction l with
  | nil => intro j last _ _ _; exact ⟨rfl, fun e h => by cases h⟩
  | cons s l ih =>
    intro j last h0 h1 h3
    simp only [List.length_cons] at h3
    have a1 : (mrSw i j s).c = 4 * i + 2 * j + s.c % 2 := rfl
    have a2 : (mrSw i j s).w = 0 := rfl
    have a3 : (mrSw i j s).n = 1 + i := rfl
    obtain ⟨i1, i2⟩ := ih (j := j + 1) (last := (mrSw i j s).c) (by omega) (by omega) (by omega)
    refine ⟨?_, fun e he => ?_⟩
    · show swOk last (mrSw i j s :: mrRow i (j + 1) l) = true
      unfold swOk
      rw [Bool.and_eq_true, decide_eq_true_eq]
      exact ⟨⟨by omega, by omega, by omega, by omega, by omega, by omega⟩, i1⟩
    · rcases List.mem_cons.1 he with rfl | he
      · exact ⟨by omega, a2, a3⟩
      · exact i2 e he
theorem mrRow_len {i : Int} : ∀ {l : List Sw} {j : Int}, (mrRow i j l).length = l.length := by
  intro l
  induction l with
  | nil => intro j; rfl
  | cons s l ih => intro j; show (mrRow i (j + 1) l).length + 1 = _; rw [ih]; rfl
def mrArg (dss : List (List Sw)) (i : Nat) : List Sw := (dss.getD i []).take 2
def mrDs (dss : List (List Sw)) (i : Nat) : List Sw := mrRow i 0 (mrArg dss i)
def mrRows (dss : List (List Sw)) (i : Nat) : List (List Sw) := (List.range i).map (mrDs dss)
theorem mrRows_snoc {dss : List (List Sw)} {i : Nat} : mrRows dss (i + 1) = mrRows dss i ++ [mrDs dss i] := by unfold mrRows; rw [List.range_succ, List.map_append]; rfl
theorem mrRows_len {dss : List (List Sw)} {i : Nat} : (mrRows dss i).length = i := by unfold mrRows; simp
theorem mrRows_at {dss : List (List Sw)} {i k : Nat} (hk : k < i) : (mrRows dss i)[k]? = some (mrDs dss k) := by
  unfold mrRows; rw [List.getElem?_map, List.getElem?_range hk]; rfl
theorem mr_apart {dss : List (List Sw)} : Apart (mrRows dss 3) := by
  refine ⟨by rw [mrRows_len]; exact Nat.le_refl _, fun i ds e => ?_⟩
  have hi := (List.getElem?_eq_some_iff.1 e).1
  rw [mrRows_len] at hi
  rw [mrRows_at hi] at e; cases e
  have hl : (mrArg dss i).length ≤ 2 := by unfold mrArg; rw [List.length_take]; omega
  obtain ⟨h1, h2⟩ := mrRow_ok (i := (i : Int)) (by omega) (by omega) (l := mrArg dss i) (j := 0) (last := -1) (by omega) (by decide) (by omega)
  exact ⟨swMay_of h1, by unfold mrDs; rw [mrRow_len]; exact hl, h2⟩
/-- cells that hold nothing or a first entry's descriptor -/
def CellsOk (dss : List (List Sw)) (W : List Int) : Prop := W.length = 16 ∧ ∀ c : Nat, c < 16 → W.getD c 0 = 0 ∨ ∃ (i : Nat) (e : Sw), i < 3 ∧ (mrDs dss i)[0]? = some e ∧ e.c = c ∧ W.getD c 0 = mineW i
def rP (u : Value) (ds : List Sw) : Part := rowP 3 u (ds.map encS)
def rdc (rows : List (List Sw)) (i : Nat) : Int := if i < 3 then (match (rows.getD i [])[0]? with | some e => e.c | none => 4 * i) else 0
def rdk (rows : List (List Sw)) (k : Nat) : Rd := Rd.new k 0 (rdc rows k)
def rds (rows : List (List Sw)) (i : Nat) : List Rd := (List.range i).map (rdk rows)
theorem rds_snoc {rows : List (List Sw)} {i : Nat} : rds rows (i + 1) = rds rows i ++ [rdk rows i] := by unfold rds; rw [List.range_succ, List.map_append]; rfl
theorem rdc_ok {rows : List (List Sw)} (ap : Apart rows) (hl : rows.length = 3) {i : Nat} (hi : i < 4) : (0 ≤ rdc rows i ∧ rdc rows i < 16) ∧ (i < 3 → rdc rows i / 4 = i) ∧ (i = 3 → rdc rows i = 0) := by
  unfold rdc
  by_cases c : i < 3
  · rw [if_pos c]
    obtain ⟨ds, hds⟩ : ∃ ds, rows[i]? = some ds := ⟨_, List.getElem?_eq_getElem (by omega)⟩
    have eg : rows.getD i [] = ds := by rw [List.getD_eq_getElem?_getD, hds]; rfl
    rw [eg]
    cases e : ds[0]? with
    | none => simp only; exact ⟨by omega, fun _ => by omega, fun h => by omega⟩
    | some x =>
      simp only
      have h := ap.2 i ds hds
      have m := sw_mem h.1 e
      have h4 := (h.2.2 x (List.mem_of_getElem? e)).1
      exact ⟨by omega, fun _ => h4, fun h => by omega⟩
  · rw [if_neg c]
    exact ⟨by decide, fun h => absurd h c, fun _ => rfl⟩
/-- how many of the first so many fall to one -/
def turns (k i : Nat) : Int := (((i + 3 - k) / 4 : Nat) : Int)
section
variable {R : List Part} {h : GH} {K : Value → GH → Prop}
theorem eachP_rows : ∀ {us : List Value} {dss : List (List Sw)} {R : List Part} {h : GH}, All (eachP rP us dss :: R) h → Each2 (fun u ds => rowsAt h 3 u (ds.map encS)) us dss := by
  intro us
  induction us with
  | nil =>
    intro dss R h hp
    cases dss with
    | nil => exact .nil
    | cons d dss => exact (All.case hp fun h1 p _ => p).elim
  | cons u us ih =>
    intro dss R h hp
    cases dss with
    | nil => exact (All.case hp fun h1 p _ => p).elim
    | cons d dss =>
      have hp1 : All (rP u d :: eachP rP us dss :: R) h := All.flat hp
      exact .cons (All.rows (size := 3) (v := u) (cs := d.map encS) hp1) (ih hp1.tail)
theorem T_ReadMany {g : GH} {dv pv : Value} {us0 : List Value} {dss : List (List Sw)} {picks : List Int} (hp : All [baseP g] h) (rd : swapsAt g dv us0 dss) (rp : rowsAt g 1 pv (picks.map encI)) (hlen : (picks.length + 2) * 8 ≤ 140737488355328) (hK : ∀ h', K (.bool true) h') : T Try.prog 3 [dv, pv] h K := by
  apply S3_T
  unfold S3
  refine T_rawake hp fun h1 hp => ?_
  (repeat first|refine wx ?_|refine wy ?_|refine wz ?_|refine wv ?_|refine wh ?_)
  have hul : us0.length = dss.length := by
    have := rd.2
    clear rd
    induction this with
    | nil => rfl
    | cons _ _ ih => simp [ih]
  have hdl : lnV dv = some (i64 dss.length) := by have := rd.1.len; rw [List.length_map, hul] at this; exact this
  have hdm : dss.length ≤ 9223372036854775807 := by have := rd.1.max; rw [List.length_map, hul] at this; exact this
  have hpl : lnV pv = some (i64 picks.length) := by have := rp.len; rw [List.length_map] at this; exact this
  refine mk0 (size := 1) (bytes := 8) (zero := [.int .i64 0]) (n := 16) hp ⟨rfl, rfl⟩ (by decide) (by decide) fun cv h2 hp => ?_
  have hp : All (rowP 1 cv ((List.replicate 16 (0 : Int)).map encI) :: [baseP g]) h2 := by
    rw [List.map_replicate]; exact hp
  refine Lfp_fam (ι := Nat × Value × List Value × List Int) (fun p => [dv, pv, p.2.1, cv, i64 p.1]) (fun p h' => p.1 ≤ 3 ∧ p.2.2.1.length = p.1 ∧ CellsOk dss p.2.2.2 ∧ All (rowP 1 p.2.1 (p.2.2.1.map fun u => [u]) :: eachP rP p.2.2.1 (mrRows dss p.1) :: rowP 1 cv (p.2.2.2.map encI) :: [baseP g]) h') (fun p => 3 - p.1) ?_ (0, .slice none 0 0, [], List.replicate 16 0) h2 ⟨by simp only; omega, rfl, ⟨rfl, fun c hc => .inl (by rw [List.getD_eq_getElem?_getD, List.getElem?_replicate, if_pos hc]; rfl)⟩, by
    have z1 := All.emp_cons (P := eachP rP [] []) hp (by exact trivial)
    exact All.emp_cons (P := rowP 1 (.slice none 0 0) []) z1 (rowP_nil _ _)⟩
  clear hp
  rintro ⟨i, rv, us, Ws⟩ h3 X ⟨hi, hul2, hW, hp⟩ again
  simp only at hi hul2 hW hp
  simp only [tup_zero, tup_succ]
  (repeat first|refine wx ?_|refine wy ?_|refine wz ?_|refine wv ?_|refine wh ?_)
  refine ifV_cases (fun c => ?_) fun c => ?_
  · have harg : (mrArg dss i).length ≤ 2 := by unfold mrArg; rw [List.length_take]; omega
    refine Lfp_fam (ι := Nat × Value × List Sw × List Int) (fun p => [dv, pv, rv, cv, i64 i, p.2.1, i64 p.1]) (fun p h' => p.1 ≤ (mrArg dss i).length ∧ p.2.2.1.length = p.1 ∧ p.2.2.1 ++ mrRow i p.1 ((mrArg dss i).drop p.1) = mrDs dss i ∧ CellsOk dss p.2.2.2 ∧ All (rowP 3 p.2.1 (p.2.2.1.map encS) :: rowP 1 rv (us.map fun u => [u]) :: eachP rP us (mrRows dss i) :: rowP 1 cv (p.2.2.2.map encI) :: [baseP g]) h') (fun p => 3 - p.1) ?_ (0, .slice none 0 0, [], Ws) h3 ⟨by simp only; omega, rfl, rfl, hW, hp.emp_cons (rowP_nil _ _)⟩
    clear hp hW
    rintro ⟨j, sv, done, Ws⟩ h4 Y ⟨hj, hdn, hrow, hW, hp⟩ again2
    simp only at hj hdn hrow hW hp
    simp only [tup_zero, tup_succ]
    have key : j = (mrArg dss i).length → bsV 25 1 [.slice none 0 0] [(0, 1, sv)] h4 fun v h' => apV 25 1 24 rv v h' fun v' h'' => bnd (binV .add (i64 i) (i64 1)) fun v3 => X (tup [dv, pv, v', cv, v3]) h'' := by
      intro hje
      have hd : done = mrDs dss i := by
        rw [← hrow, hje, List.drop_length]; simp [mrRow]
      rw [hd] at hp
      clear again2
      obtain ⟨sa, sc, _, rfl, _⟩ := hp.row
      refine bs0 (size := 1) hp [[.slice sa ((mrDs dss i).map encS).length sc]] rfl rfl (by simp) (fun c hc => by rw [List.mem_singleton.1 hc]; exact ⟨rfl, rfl⟩) fun xv h5 hp => ?_
      have hr := hp.rows
      refine ap0 (hp.up 2) hr (fun c hc => by rw [List.mem_singleton.1 hc]; exact ⟨rfl, rfl⟩) (by decide) (by simp only [List.length_map, List.length_cons, List.length_nil]; omega) fun rv' h6 hp => ?_
      replace hp := Go.Proofs.Ytbiappodepnbmaa.hn hp
      (repeat first|refine wx ?_|refine wy ?_|refine wz ?_|refine wv ?_|refine wh ?_)
      replace hp := hp.re 6 [0, 2, 3, 4, 5]
      replace hp := Go.Proofs.Ytbiappodepnbmaa.hn hp
      have hp2 : All (rowP 1 rv' ((us ++ [Value.slice sa ((mrDs dss i).map encS).length sc]).map fun u => [u]) :: rP (.slice sa ((mrDs dss i).map encS).length sc) (mrDs dss i) :: eachP rP us (mrRows dss i) :: rowP 1 cv (Ws.map encI) :: [baseP g]) h6 := by
        rw [List.map_append]; exact hp
      have hp3 := hp2.mono2 fun _ z => eachP_snoc z
      rw [← mrRows_snoc] at hp3
      exact again (i + 1, rv', us ++ [Value.slice sa ((mrDs dss i).map encS).length sc], Ws) _ ⟨by simp only; omega, by simp [hul2], hW, hp3⟩ (by simp only; omega)
    refine bnd_of hdl ?_
    (repeat first|refine wx ?_|refine wy ?_|refine wz ?_|refine wv ?_|refine wh ?_)
    refine ifV_cases (fun ci => ?_) fun ci => key (by
      have : mrArg dss i = [] := by unfold mrArg; rw [List.getD_eq_getElem?_getD, List.getElem?_eq_none (by omega)]; rfl
      rw [this] at hj ⊢; simpa using hj)
    obtain ⟨ds, hds⟩ : ∃ ds, dss[i]? = some ds := ⟨_, List.getElem?_eq_getElem (by omega)⟩
    obtain ⟨u, hu, ru⟩ := Each2.get rd.2 hds
    have hua : (us0.map fun u => [u])[i]? = some [u] := by rw [List.getElem?_map, hu]; rfl
    obtain ⟨p1, d1, d2⟩ := (rd.1.le (baseP.le (hp.up 4))).get1 hua .i64
    have hlu : lnV u = some (i64 ds.length) := by have := ru.len; rw [List.length_map] at this; exact this
    have ea : mrArg dss i = ds.take 2 := by unfold mrArg; rw [List.getD_eq_getElem?_getD, hds]; rfl
    refine bnd_of d1 (bnd_of d2 (bnd_of hlu ?_))
    (repeat first|refine wx ?_|refine wy ?_|refine wz ?_|refine wv ?_|refine wh ?_)
    refine ifV_cases (fun cj => ?_) fun cj => key (by rw [ea, List.length_take] at hj ⊢; omega)
    (repeat first|refine wx ?_|refine wy ?_|refine wz ?_|refine wv ?_|refine wh ?_)
    refine ifV_cases (fun cj3 => ?_) fun cj3 => key (by rw [ea, List.length_take] at hj ⊢; omega)
    clear key
    unfold S3_j1
    obtain ⟨s, hs⟩ : ∃ s, ds[j]? = some s := ⟨_, List.getElem?_eq_getElem (by omega)⟩
    obtain ⟨bb, oo, e0, e1, e2, e3⟩ := sw_fld (ru.le (baseP.le (hp.up 4))) hs
    (repeat first|refine wx ?_|refine wy ?_|refine wz ?_|refine wv ?_|refine wh ?_)
    refine bnd_of d1 (bnd_of d2 (bnd_of e0 ?_))
    (repeat first|refine wx ?_|refine wy ?_|refine wz ?_|refine wv ?_|refine wh ?_)
    refine bnd_of e1 (bnd_of (binV_and_mask s.c 1 (by decide) (by decide)) ?_)
    (repeat first|refine wx ?_|refine wy ?_|refine wz ?_|refine wv ?_|refine wh ?_)
    have hlt : j < (mrArg dss i).length := by rw [ea, List.length_take]; omega
    have hsa : (mrArg dss i).drop j = s :: (mrArg dss i).drop (j + 1) := by
      rw [List.drop_eq_getElem_cons hlt]
      congr 1
      have : (mrArg dss i)[j]? = some s := by rw [ea, List.getElem?_take, if_pos (by omega)]; exact hs
      rw [List.getElem?_eq_getElem hlt] at this; exact Option.some.inj this
    rw [hsa] at hrow
    have hrow : done ++ (mrSw i j s :: mrRow i (j + 1 : Nat) ((mrArg dss i).drop (j + 1))) = mrDs dss i := hrow
    refine bs0 (size := 3) hp ([mrSw i j s].map encS) rfl rfl (by simp) (encS_good _) fun xv h5 hp => ?_
    have hr := hp.rows
    refine ap0 (hp.up 1) hr (encS_good _) (by decide) (by rw [List.length_map]; simp; omega) fun sv' h6 hp => ?_
    replace hp := Go.Proofs.Ytbiappodepnbmaa.hn hp
    rw [← List.map_append] at hp
    replace hp := hp.re 6 [0, 2, 3, 4, 5]
    replace hp := Go.Proofs.Ytbiappodepnbmaa.hn hp
    obtain ⟨p1, d1, d2⟩ := (rd.1.le (baseP.le (hp.up 4))).get1 hua .i64
    obtain ⟨bb, oo, e0, e1, e2, e3⟩ := sw_fld (ru.le (baseP.le (hp.up 4))) hs
    refine bnd_of d1 (bnd_of d2 (bnd_of e0 ?_))
    (repeat first|refine wx ?_|refine wy ?_|refine wz ?_|refine wv ?_|refine wh ?_)
    refine bnd_of e2 (bnd_of (binV_and_mask s.w 1 (by decide) (by decide)) ?_)
    have skip : ∀ Ws', CellsOk dss Ws' → ∀ h7, All (rowP 3 sv' ((done ++ [mrSw i j s]).map encS) :: rowP 1 rv (us.map fun u => [u]) :: eachP rP us (mrRows dss i) :: rowP 1 cv (Ws'.map encI) :: [baseP g]) h7 → Y (tup [dv, pv, rv, cv, i64 i, sv', i64 ((j : Int) + 1)]) h7 := fun Ws' hW' h7 hp => by
      exact again2 (j + 1, sv', done ++ [mrSw i j s], Ws') _ ⟨by simp only; omega, by simp [hdn], by rw [List.append_assoc]; exact hrow, hW', hp⟩ (by simp only; omega)
    (repeat first|refine wx ?_|refine wy ?_|refine wz ?_|refine wv ?_|refine wh ?_)
    refine ifV_cases (fun cw => ?_) fun cw => ?_
    · (repeat first|refine wx ?_|refine wy ?_|refine wz ?_|refine wv ?_|refine wh ?_)
      unfold S3_j2
      refine ifV_cases (fun cz => ?_) fun cz => ?_
      · have hj0 : j = 0 := by omega
        subst hj0
        (repeat first|refine wx ?_|refine wy ?_|refine wz ?_|refine wv ?_|refine wh ?_)
        have e2' : s.c % ((2 ^ 1 : Nat) : Int) = s.c % 2 := rfl
        have hcr : (mrSw i (0 : Nat) s).c = 4 * (i : Int) + 2 * ((0 : Nat) : Int) + s.c % ((2 ^ 1 : Nat) : Int) := rfl
        obtain ⟨cn, hcn⟩ : ∃ cn : Nat, (mrSw i (0 : Nat) s).c = (cn : Int) := ⟨((mrSw i (0 : Nat) s).c).toNat, by rw [hcr]; omega⟩
        have hcn16 : cn < 16 := by rw [hcr] at hcn; omega
        obtain ⟨x, hx⟩ : ∃ x, Ws[cn]? = some x := ⟨_, List.getElem?_eq_getElem (by rw [hW.1]; exact hcn16)⟩
        obtain ⟨bb2, e4, _, _, est⟩ := All.elt (hp.up 3) (i := cn) (c := [i64 x]) (by rw [List.getElem?_map, hx]; rfl) .i64
        rw [← hcn, hcr] at e4
        obtain ⟨h8, e5, hp5⟩ := est 0 1 (i64 (mineW i)) rfl (by decide) rfl
        refine bnd_of e4 ?_
        have em : 4 * (16 + (i : Int)) + 2 = mineW i := rfl
        rw [em]
        refine bnd_of e5 ?_
        (repeat first|refine wx ?_|refine wy ?_|refine wz ?_|refine wv ?_|refine wh ?_)
        have e6 : (Ws.map encI).set cn (setCells [i64 x] 0 (i64 (mineW i)).cells.toList) = (Ws.set cn (mineW i)).map encI := by rw [List.map_set]; rfl
        rw [e6] at hp5
        refine skip (Ws.set cn (mineW i)) ⟨by rw [List.length_set]; exact hW.1, fun c hc => ?_⟩ _ (hp5.re 5 [1, 2, 3, 0, 4])
        by_cases hcc : c = cn
        · subst hcc
          right
          refine ⟨i, mrSw i (0 : Nat) s, by omega, ?_, hcn, ?_⟩
          · have : done = [] := List.length_eq_zero_iff.1 hdn
            rw [this] at hrow
            rw [← hrow]; rfl
          · rw [List.getD_eq_getElem?_getD, List.getElem?_set_self (by rw [hW.1]; exact hc)]; rfl
        · rw [List.getD_eq_getElem?_getD, List.getElem?_set_ne (Ne.symm hcc), ← List.getD_eq_getElem?_getD]
          exact hW.2 c hc
      · (repeat first|refine wx ?_|refine wy ?_|refine wz ?_|refine wv ?_|refine wh ?_)
        exact skip Ws hW _ hp
    · unfold S3_j2
      (repeat first|refine wx ?_|refine wy ?_|refine wz ?_|refine wv ?_|refine wh ?_)
      exact skip Ws hW _ hp
  obtain rfl : i = 3 := by omega
  clear again
  have ap := mr_apart (dss := dss)
  have hrl : (mrRows dss 3).length = 3 := mrRows_len
  have hcr : ∀ x ∈ Ws, I64 x := fun x hx => by
    obtain ⟨j, hj, e⟩ := List.mem_iff_getElem.1 hx
    have := hW.2 j (by rw [← hW.1]; exact hj)
    rw [List.getD_eq_getElem?_getD, List.getElem?_eq_getElem hj, e] at this
    simp only [Option.getD_some] at this
    rcases this with h | ⟨i, _, hi, _, _, h⟩
    · rw [h]; exact zero64
    · rw [h]; exact mineW_range (by omega) (by omega)
  refine T_shelf (us := us) (cells := Ws) (dss := mrRows dss 3) hp (fun h' hp => (hp.up 2).rows) (fun h' hp => ⟨hp.rows, eachP_rows (hp.up 1)⟩) hcr fun a b h4 hp => ?_
  obtain ⟨hA, hcell, hdsc⟩ := shelf_view (cells := Ws) (dss := mrRows dss 3) hcr
  have hcells : ∀ c, 0 ≤ c → c < 16 → (shelfA Ws (mrRows dss 3)).at c = 0 ∨ ∃ (i : Nat) (ds : List Sw) (e : Sw), (mrRows dss 3)[i]? = some ds ∧ ds[0]? = some e ∧ e.c = c ∧ (shelfA Ws (mrRows dss 3)).at c = mw i 1 := fun c c0 c1 => by
    rw [hcell c c0 c1]
    rcases hW.2 c.toNat (by omega) with h | ⟨i, e, i3, h1, h2, h3⟩
    · exact .inl h
    · exact .inr ⟨i, mrDs dss i, e, mrRows_at i3, h1, by rw [h2]; omega, by rw [h3, mineW_eq]; rfl⟩
  generalize hrows : mrRows dss 3 = rows at hp ap hrl hA hdsc hcells
  clear hrows
  generalize shelfA Ws rows = A at hp hA hdsc hcells
  (repeat first|refine wx ?_|refine wy ?_|refine wz ?_|refine wv ?_|refine wh ?_)
  replace hp := hp.re 6 [0, 2, 3, 5]
  replace hp := Go.Proofs.Ytbiappodepnbmaa.hn hp
  refine Lfp_fam (ι := Nat × Value × List Nat) (fun p => [pv, rv, ptr a, p.2.1, i64 p.1]) (fun p h' => p.1 ≤ 4 ∧ p.2.2.length = p.1 ∧ All (rowP 1 p.2.1 (p.2.2.map encP) :: eachP readP p.2.2 (rds rows p.1) :: arP 84 a A :: rowP 1 rv (us.map fun u => [u]) :: eachP rP us rows :: [baseP g]) h') (fun p => 4 - p.1) ?_ (0, .slice none 0 0, []) h4 ⟨by simp only; omega, rfl, by
    have z1 := All.emp_cons (P := eachP readP [] []) hp (by exact trivial)
    exact All.emp_cons (P := rowP 1 (.slice none 0 0) []) z1 (rowP_nil _ _)⟩
  clear hp
  rintro ⟨i, hv, bs⟩ h5 X ⟨hi, hbl, hp⟩ again
  simp only at hi hbl hp
  simp only [tup_zero, tup_succ]
  (repeat first|refine wx ?_|refine wy ?_|refine wz ?_|refine wv ?_|refine wh ?_)
  refine ifV_cases (fun c => ?_) fun c => ?_
  · have hcc := rdc_ok ap hrl (i := i) (by omega)
    have j5 : ∀ s6 s40 a1, S3_j5 s6 s40 pv rv (ptr a) hv (i64 i) (i64 (rdc rows i)) h5 K a1 X := by
      intro s6 s40 a1
      unfold S3_j5
      refine T_rdNewOk hp ⟨⟨by omega, by omega⟩, ⟨by decide, by decide⟩, hcc.1.1, hcc.1.2⟩ fun nb h6 hp => ?_
      (repeat first|refine wx ?_|refine wy ?_|refine wz ?_|refine wv ?_|refine wh ?_)
      refine T_Num ?_
      (repeat first|refine wx ?_|refine wy ?_|refine wz ?_|refine wv ?_|refine wh ?_)
      refine bs0 (size := 1) hp [[ptr nb]] rfl rfl (by simp) (fun c hc => by rw [List.mem_singleton.1 hc]; exact ⟨rfl, rfl⟩) fun xv h7 hp => ?_
      have hr := hp.rows
      refine ap0 (hp.up 2) hr (fun c hc => by rw [List.mem_singleton.1 hc]; exact ⟨rfl, rfl⟩) (by decide) (by simp only [List.length_map, List.length_cons, List.length_nil]; omega) fun hv' h8 hp => ?_
      replace hp := Go.Proofs.Ytbiappodepnbmaa.hn hp
      (repeat first|refine wx ?_|refine wy ?_|refine wz ?_|refine wv ?_|refine wh ?_)
      replace hp := hp.re 8 [0, 2, 3, 4, 5, 6, 7]
      replace hp := Go.Proofs.Ytbiappodepnbmaa.hn hp
      have hp2 : All (rowP 1 hv' ((bs ++ [nb]).map encP) :: readP nb (rdk rows i) :: eachP readP bs (rds rows i) :: arP 84 a A :: rowP 1 rv (us.map fun u => [u]) :: eachP rP us rows :: [baseP g]) h8 := by
        rw [List.map_append]; exact hp
      have hp3 := hp2.mono2 fun _ z => eachP_snoc z
      rw [← rds_snoc] at hp3
      exact again (i + 1, hv', bs ++ [nb]) _ ⟨by simp only; omega, by simp [hbl], hp3⟩ (by simp only; omega)
    (repeat first|refine wx ?_|refine wy ?_|refine wz ?_|refine wv ?_|refine wh ?_)
    refine ifV_cases (fun c3 => ?_) fun c3 => ?_
    · (repeat first|refine wx ?_|refine wy ?_|refine wz ?_|refine wv ?_|refine wh ?_)
      obtain ⟨ds, hds⟩ : ∃ ds, rows[i]? = some ds := ⟨_, List.getElem?_eq_getElem (by omega)⟩
      have Ea := eachP_rows (hp.up 4)
      obtain ⟨u, hu, ru⟩ := Each2.get Ea hds
      have hua : (us.map fun u => [u])[i]? = some [u] := by rw [List.getElem?_map, hu]; rfl
      obtain ⟨q1, f1, f2⟩ := (All.rows (hp.up 3)).get1 hua .i64
      have hlu : lnV u = some (i64 ds.length) := by have := ru.len; rw [List.length_map] at this; exact this
      have eg : rows.getD i [] = ds := by rw [List.getD_eq_getElem?_getD, hds]; rfl
      unfold S3_j3
      (repeat first|refine wx ?_|refine wy ?_|refine wz ?_|refine wv ?_|refine wh ?_)
      refine ifV_p (by omega) ?_
      refine bnd_of f1 (bnd_of f2 (bnd_of hlu ?_))
      (repeat first|refine wx ?_|refine wy ?_|refine wz ?_|refine wv ?_|refine wh ?_)
      unfold S3_j4
      refine ifV_cases (fun cl => ?_) fun cl => ?_
      · obtain ⟨s, hs⟩ : ∃ s, ds[0]? = some s := ⟨_, List.getElem?_eq_getElem (by omega)⟩
        obtain ⟨bb, oo, e0, e1, e2, e3⟩ := sw_fld ru hs
        refine bnd_of f1 (bnd_of f2 (bnd_of e0 ?_))
        (repeat first|refine wx ?_|refine wy ?_|refine wz ?_|refine wv ?_|refine wh ?_)
        refine bnd_of e1 ?_
        have : rdc rows i = s.c := by unfold rdc; rw [if_pos (by omega), eg, hs]
        rw [← this]
        exact j5 _ _ _
      · have hds0 : ds[0]? = none := List.getElem?_eq_none (by omega)
        have : rdc rows i = 4 * i := by unfold rdc; rw [if_pos (by omega), eg, hds0]
        rw [← this]
        exact j5 _ _ _
    · unfold S3_j3
      (repeat first|refine wx ?_|refine wy ?_|refine wz ?_|refine wv ?_|refine wh ?_)
      refine ifV_n (by omega) ?_
      unfold S3_j4
      (repeat first|refine wx ?_|refine wy ?_|refine wz ?_|refine wv ?_|refine wh ?_)
      have : rdc rows i = 0 := hcc.2.2 (by omega)
      have j5 := j5
      rw [this] at j5
      exact j5 _ _ _
  obtain rfl : i = 4 := by omega
  clear again
  have W0 : RW rows (rds rows 4) A := by
    refine RW.init ap hA (fun i ds e => ?_) hcells (fun k r e => ?_)
    · have hk := (List.getElem?_eq_some_iff.1 e).1
      exact hdsc i ds (by omega) e (ap.2 i ds e).1
    · have hk := (List.getElem?_eq_some_iff.1 e).1
      have hk4 : k < 4 := by simpa [rds] using hk
      unfold rds at e
      rw [List.getElem?_map, List.getElem?_range hk4] at e
      cases e
      exact ⟨hk4, _, (rdc_ok ap hrl hk4).1, rfl⟩
  have hcell0 : ∀ (k : Nat) r, (rds rows 4)[k]? = some r → r.cell = rdc rows k := fun k r e => by
    have hk := (List.getElem?_eq_some_iff.1 e).1
    have hk4 : k < 4 := by simpa [rds] using hk
    unfold rds at e
    rw [List.getElem?_map, List.getElem?_range hk4] at e
    cases e; rfl
  clear hcells hdsc hcell
  refine bs0 (size := 1) hp (bools [false, false, false, false]) rfl rfl (by simp [bools]) (fun c hc => by simp [bools] at hc; rcases hc with rfl | rfl | rfl | rfl <;> exact ⟨rfl, rfl⟩) fun ov h6 hp => ?_
  refine Lfp_fam (ι := Nat × List Rd × Ar) (fun p => [pv, ptr a, hv, ov, i64 p.1])
    (fun p h' => p.1 ≤ picks.length + 600 ∧ p.2.1.length = 4 ∧ RW rows p.2.1 p.2.2 ∧ (∀ (k : Nat) r, p.2.1[k]? = some r → r.cell = rdc rows k) ∧ (∀ (k : Nat) r, p.2.1[k]? = some r → r.over = false → picks.length ≤ p.1 → pot (Dsr rows) p.2.2 r + (turns k p.1 - turns k picks.length) ≤ 39) ∧ All (rowP 1 ov (bools (p.2.1.map Rd.over)) :: rowP 1 hv (bs.map encP) :: eachP readP bs p.2.1 :: arP 84 a p.2.2 :: [baseP g]) h')
    (fun p => picks.length + 600 - p.1) ?_ (0, rds rows 4, A) h6 ⟨by simp only; omega, rfl, W0, hcell0, (fun k r e ho hle => by
      have hl : picks.length = 0 := by simp only at hle; omega
      have := (W0.nn ap e).2
      simp only [hl]
      omega), by
      exact hp.re 7 [0, 1, 2, 3, 6]⟩
  clear hp W0 hA hcell0
  rintro ⟨n, Gs, B⟩ h7 Z ⟨hn, hgl, W, hcel, hcnt, hp⟩ again
  simp only at hn hgl W hcel hcnt hp
  simp only [tup_zero, tup_succ]
  have j6 : ∀ (k : Nat), k < 4 → (picks.length ≤ n → k = n % 4) → n < picks.length + 600 → ∀ s6 s40 s48 a1 a2, S3_j6 s6 s40 s48 pv (ptr a) hv ov (i64 n) (i64 k) h7 K a1 a2 Z := by
    intro k hk4 hkn hlt s6 s40 s48 a1 a2
    unfold S3_j6
    obtain ⟨G, hG⟩ : ∃ G, Gs[k]? = some G := ⟨_, List.getElem?_eq_getElem (by omega)⟩
    obtain ⟨pb, hpb⟩ : ∃ pb, bs[k]? = some pb := ⟨_, List.getElem?_eq_getElem (by omega)⟩
    obtain ⟨p2, d3, d4⟩ := (All.rows (hp.up 1)).get1 (show (bs.map encP)[k]? = some [ptr pb] by rw [List.getElem?_map, hpb]; rfl) .i64
    refine bnd_of d3 (bnd_of d4 ?_)
    have okG := (W.h k G hG).ok
    obtain ⟨z0, W1, hc1, hoth, hown, hstay⟩ := W.step ap hG
    have q1 := eachP_at hpb hG (hp.up 2)
    have q2 : All (arP 84 a B :: readP pb G :: eachP readP (bs.eraseIdx k) (Gs.eraseIdx k) :: rowP 1 ov (bools (Gs.map Rd.over)) :: rowP 1 hv (bs.map encP) :: [baseP g]) h7 := q1.re 6 [4, 0, 1, 2, 3, 5]
    refine T_rdStep q2 okG fun h8 q3 => ?_
    rw [z0]
    have q4 : All (eachP readP bs (Gs.set k (G.step B).1) :: arP 84 a (G.step B).2.2 :: rowP 1 ov (bools (Gs.map Rd.over)) :: rowP 1 hv (bs.map encP) :: [baseP g]) h8 := eachP_put hpb (by omega) (q3.re 6 [1, 2, 0, 3, 4, 5])
    clear q1 q2 q3 hp
    have hp : All (rowP 1 ov (bools (Gs.map Rd.over)) :: rowP 1 hv (bs.map encP) :: eachP readP bs (Gs.set k (G.step B).1) :: arP 84 a (G.step B).2.2 :: [baseP g]) h8 := q4.re 5 [2, 3, 0, 1, 4]
    clear q4
    (repeat first|refine wx ?_|refine wy ?_|refine wz ?_|refine wv ?_|refine wh ?_)
    obtain ⟨eb, i1, _, _, i4⟩ := hp.elt (i := k) (c := [.bool G.over]) (by unfold bools; rw [List.getElem?_map, List.getElem?_map, hG]; rfl) .i64
    obtain ⟨h9, i5, hp2⟩ := i4 0 1 (.bool (G.step B).1.over) rfl (by decide) rfl
    refine bnd_of i1 (bnd_of i5 ?_)
    refine T_Num ?_
    (repeat first|refine wx ?_|refine wy ?_|refine wz ?_|refine wv ?_|refine wh ?_)
    have eov : (bools (Gs.map Rd.over)).set k (setCells [.bool G.over] 0 (Value.bool (G.step B).1.over).cells.toList) = bools ((Gs.set k (G.step B).1).map Rd.over) := by
      unfold bools; rw [List.map_set, List.map_set]; rfl
    rw [eov] at hp2
    refine again (n + 1, Gs.set k (G.step B).1, (G.step B).2.2) _ ⟨by simp only; omega, by simp [hgl], W1, fun j r e => ?_, fun j r e ho hle => ?_, hp2⟩ (by simp only; omega)
    · by_cases c : j = k
      · subst c; rw [List.getElem?_set_self (by omega)] at e; cases e
        rw [hc1]; exact hcel j G hG
      · rw [List.getElem?_set_ne (Ne.symm c)] at e
        exact hcel j r e
    · simp only at hle ⊢
      have hj4 : j < 4 := by have := (List.getElem?_eq_some_iff.1 e).1; rw [List.length_set] at this; omega
      have hb := (W1.nn ap e).2
      by_cases hle2 : picks.length ≤ n
      · by_cases c : j = k
        · subst c
          rw [List.getElem?_set_self (by omega)] at e; cases e
          have hoG : G.over = false := by
            cases hx : G.over with
            | false => rfl
            | true => rw [hstay hx] at ho; cases ho
          have h1 := hcnt j G hG hoG hle2
          have h2 := hown hoG
          have hjn := hkn hle2
          have ht : turns j (n + 1) = turns j n + 1 := by unfold turns; omega
          omega
        · rw [List.getElem?_set_ne (Ne.symm c)] at e
          have h1 := hcnt j r e ho hle2
          have h2 := hoth j r c e
          have hkn' := hkn hle2
          have ht : turns j (n + 1) = turns j n := by unfold turns; omega
          omega
      · have : n + 1 = picks.length := by omega
        rw [this]; omega
  refine bnd_of hpl ?_
  (repeat first|refine wx ?_|refine wy ?_|refine wz ?_|refine wv ?_|refine wh ?_)
  refine ifV_cases (fun c => ?_) fun c => ?_
  · refine bnd_of (binV_and_mask (n : Int) 2 (by decide) (by decide)) (bnd_of hpl ?_)
    (repeat first|refine wx ?_|refine wy ?_|refine wz ?_|refine wv ?_|refine wh ?_)
    refine ifV_cases (fun c2 => ?_) fun c2 => ?_
    · obtain ⟨x, hx⟩ : ∃ x, picks[n]? = some x := ⟨_, List.getElem?_eq_getElem (by omega)⟩
      obtain ⟨p, e1, e2⟩ := int_get (rp.le (baseP.le (hp.up 4))) hx
      refine bnd_of e1 (bnd_of e2 (bnd_of (binV_and_mask x 2 (by decide) (by decide)) ?_))
      obtain ⟨k, hk⟩ : ∃ k : Nat, x % ((2 ^ 2 : Nat) : Int) = (k : Int) := ⟨(x % ((2 ^ 2 : Nat) : Int)).toNat, by omega⟩
      have hk4 : k < 4 := by have : x % ((2 ^ 2 : Nat) : Int) = x % 4 := rfl; omega
      rw [hk]
      exact j6 k hk4 (fun h => by omega) (by omega) _ _ _ _ _
    · have hk : (n : Int) % ((2 ^ 2 : Nat) : Int) = ((n % 4 : Nat) : Int) := by have : (n : Int) % ((2 ^ 2 : Nat) : Int) = (n : Int) % 4 := rfl; omega
      rw [hk]
      exact j6 (n % 4) (by omega) (fun _ => rfl) (by omega) _ _ _ _ _
  · clear again j6
    have hne : n = picks.length + 600 := by omega
    have hall : ∀ (k : Nat) r, Gs[k]? = some r → r.over = true := fun k r e => by
      cases ho : r.over with
      | true => rfl
      | false =>
        exfalso
        have hk4 : k < 4 := by have := (List.getElem?_eq_some_iff.1 e).1; omega
        have h1 := hcnt k r e ho (by omega)
        have h2 := (W.nn ap e).1
        have ht : turns k n = turns k picks.length + 150 := by unfold turns; rw [hne]; omega
        omega
    refine Lfp_fam (ι := Nat) (fun k => [hv, ov, i64 k]) (fun k h' => k ≤ 4 ∧ h' = h7) (fun k => 4 - k) ?_ 0 h7 ⟨by omega, rfl⟩
    rintro k h8 V ⟨hk, rfl⟩ again
    simp only [tup_zero, tup_succ]
    (repeat first|refine wx ?_|refine wy ?_|refine wz ?_|refine wv ?_|refine wh ?_)
    refine ifV_cases (fun c => ?_) fun c => hK _
    obtain ⟨G, hG⟩ : ∃ G, Gs[k]? = some G := ⟨_, List.getElem?_eq_getElem (by omega)⟩
    obtain ⟨pb, hpb⟩ : ∃ pb, bs[k]? = some pb := ⟨_, List.getElem?_eq_getElem (by omega)⟩
    obtain ⟨p2, d3, d4⟩ := (All.rows (hp.up 1)).get1 (show (bs.map encP)[k]? = some [ptr pb] by rw [List.getElem?_map, hpb]; rfl) .i64
    refine bnd_of d3 (bnd_of d4 ?_)
    refine T_rdValue (eachP_at hpb hG (hp.up 2)) ?_
    obtain ⟨ob, o0, o1, _, _⟩ := hp.elt (i := k) (c := [.bool G.over]) (by unfold bools; rw [List.getElem?_map, List.getElem?_map, hG]; rfl) .i64
    refine bnd_of o0 (bnd_of (o1 0 1 _ rfl) ?_)
    rw [hall k G hG]
    (repeat first|refine wx ?_|refine wy ?_|refine wz ?_|refine wv ?_|refine wh ?_)
    have hval := (W.h k G hG).val (hall k G hG)
    have hcc := rdc_ok ap hrl (i := k) (by omega)
    rw [hcel k G hG] at hval
    have hv3 : G.value = 0 ∨ k < 3 ∧ G.value = 1 + (k : Int) ∨ k = 3 ∧ G.value = 1 := by
      rcases hval with h | h
      · exact .inl h
      · by_cases k3 : k < 3
        · exact .inr (.inl ⟨k3, by rw [h, hcc.2.1 k3]⟩)
        · have := hcc.2.2 (by omega)
          exact .inr (.inr ⟨by omega, by rw [h, this]; decide⟩)
    have nx := again (k + 1) h8 ⟨by omega, rfl⟩ (by omega)
    refine ifV_n (by omega) ?_
    (repeat first|refine wx ?_|refine wy ?_|refine wz ?_|refine wv ?_|refine wh ?_)
    refine ifV_n (by omega) ?_
    (repeat first|refine wx ?_|refine wy ?_|refine wz ?_|refine wv ?_|refine wh ?_)
    refine ifV_cases (fun c3 => ?_) fun c3 => ?_
    · (repeat first|refine wx ?_|refine wy ?_|refine wz ?_|refine wv ?_|refine wh ?_)
      refine ifN_cases (fun c0 => ?_) fun c0 => ?_
      · (repeat first|refine wx ?_|refine wy ?_|refine wz ?_|refine wv ?_|refine wh ?_)
        have : G.value = 1 + (k : Int) := by omega
        rw [this, decide_eq_true rfl]
        (repeat first|refine wx ?_|refine wy ?_|refine wz ?_|refine wv ?_|refine wh ?_)
        exact nx
      · (repeat first|refine wx ?_|refine wy ?_|refine wz ?_|refine wv ?_|refine wh ?_)
        exact nx
    · (repeat first|refine wx ?_|refine wy ?_|refine wz ?_|refine wv ?_|refine wh ?_)
      exact nx
end
end Go.Proofs.Ytbiappodepnbmaa
