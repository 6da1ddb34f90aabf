/- Several texts in one, each under its own remark or none; nothing here is a statement on the program. -/
import Derived.Test.YtbiappodepnbmaaKF
namespace Go.Proofs.Ytbiappodepnbmaa
open Go GW Go.Proofs
set_option linter.unusedVariables false
set_option linter.unusedSimpArgs false
/-- a descriptor that is written: its life, its rows -/
structure Dw where
  g : Int
  ds : List Sw
  rq : Prop
/-- a thread's frames, the top first, and its next number -/
structure Stk where
  q : Int
  fs : List Fr
def mw (s g : Int) : Int := (Form.mcas s g).number
def ew (s g : Int) (n : Nat) (t q : Int) : Int := (Form.entry s g n t q).number
def Held (A : Ar) (s : Int) (d : Dw) (n : Nat) : Prop := ∀ (j : Nat) e, j < n → d.ds[j]? = some e → A.at e.c = mw s d.g
def DOk (A : Ar) (s : Int) (d : Dw) : Prop := Life s d.g ∧ swMay d.ds = true ∧ ∃ st : Int, (0 ≤ st ∧ st < 3) ∧ Dsc A s d.g st d.ds
def Opn (A : Ar) (s : Int) (d : Dw) : Prop := A.at (baseOf s) = stateW d.g 0
def Won (A : Ar) (s : Int) (d : Dw) : Prop := A.at (baseOf s) = stateW d.g 1
/-- at an entry -/
structure Ix (d : Dw) (w : Wh) (n : Nat) (e : Sw) : Prop where
  i : w.i = n
  k : w.k = d.ds.length
  e : d.ds[n]? = some e
def Pu (A : Ar) (t q : Int) (d : Dw) (w : Wh) (n : Nat) : Prop := (Opn A w.s d → A.at w.cell = w.put ∨ A.at w.cell = mw w.s d.g) ∧ ∃ q', w.put = ew w.s d.g n t q' ∧ 0 ≤ q' ∧ q' < q
def Ph (D : Int → Option Dw) (L : Prop) (A : Ar) (t q : Int) (d : Dw) (w : Wh) : Prop :=
  match w.pc with
  | 1 => True
  | 2 => True
  | 3 => ∃ n e, Ix d w n e ∧ (Opn A w.s d → Held A w.s d n)
  | 4 => ∃ n e, Ix d w n e ∧ (Opn A w.s d → Held A w.s d n) ∧ w.cell = e.c
  | 5 => ∃ n e, Ix d w n e ∧ (Opn A w.s d → Held A w.s d n) ∧ w.cell = e.c ∧ w.was = e.w * 4
  | 6 => ∃ n e, Ix d w n e ∧ (Opn A w.s d → Held A w.s d n) ∧ w.cell = e.c ∧ w.was = e.w * 4 ∧ Pu A t q d w n
  | 7 => ∃ n e, Ix d w n e ∧ (Opn A w.s d → Held A w.s d n) ∧ w.cell = e.c ∧ w.was = e.w * 4 ∧ Pu A t q d w n ∧ (w.opn = true → A.at w.cell = w.put → ¬ Won A w.s d) ∧ (w.opn = false → ¬ Opn A w.s d)
  | 8 => Opn A w.s d → Held A w.s d d.ds.length
  | 9 => Opn A w.s d → L
  | 10 => ¬ Opn A w.s d ∧ (w.won = true ↔ Won A w.s d)
  | 11 => ∃ n e, Ix d w n e ∧ ¬ Opn A w.s d ∧ (w.won = true ↔ Won A w.s d)
  | 12 => ∃ n e, Ix d w n e ∧ ¬ Opn A w.s d ∧ (w.won = true ↔ Won A w.s d) ∧ w.cell = e.c
  | 13 => ∃ n e, Ix d w n e ∧ ¬ Opn A w.s d ∧ (w.won = true ↔ Won A w.s d) ∧ w.cell = e.c ∧ w.x = (if w.won then e.n else e.w) * 4
  | 14 => ∃ n e, Ix d w n e ∧ (Opn A w.s d → Held A w.s d n) ∧ w.cell = e.c ∧ w.was = e.w * 4 ∧ ∃ s' d', D s' = some d' ∧ s' ≠ w.s ∧ w.x = mw s' d'.g ∧ (Opn A s' d' → A.at w.cell = w.x)
  | _ => False
def EPh (A : Ar) (d : Dw) (e : Sw) (f : En) : Prop :=
  match f.pc with
  | 0 => True
  | 1 => f.cell = e.c
  | 2 => f.cell = e.c ∧ f.was = e.w * 4
  | 3 => f.cell = e.c ∧ f.was = e.w * 4 ∧ (f.opn = true → A.at f.cell = (Form.entry f.s f.g f.e f.t f.q).number → ¬ Won A f.s d) ∧ (f.opn = false → ¬ Opn A f.s d)
  | _ => False
def FrOk (D : Int → Option Dw) (Lo : Int → Prop) (A : Ar) (F : Int → Stk) (t q : Int) : Fr → Prop
  | .who w => ∃ d, D w.s = some d ∧ w.g = d.g ∧ Ph D (Lo w.s) A t q d w
  | .ent f => ∃ d e n, D f.s = some d ∧ f.g = d.g ∧ f.e = (n : Nat) ∧ d.ds[n]? = some e ∧ (0 ≤ f.q ∧ f.q < (F f.t).q) ∧ (0 ≤ f.t ∧ f.t < 4) ∧ EPh A d e f
/-- a frame that will put an entry's cell right yet -/
def RF (s : Int) (i : Nat) : Fr → Prop
  | .who w => w.s = s ∧ (w.pc ≤ 10 ∨ w.pc = 14 ∨ w.i ≤ i)
  | .ent _ => False
def Resp (F : Int → Stk) (s : Int) (i : Nat) : Prop := ∃ t f, f ∈ (F t).fs ∧ RF s i f
/-- the frame that has put a word -/
structure Owns (w : Wh) (s : Int) (n : Nat) (e : Sw) (p : Int) : Prop where
  s : w.s = s
  i : w.i = n
  cell : w.cell = e.c
  was : w.was = e.w * 4
  put : w.put = p
  pc : w.pc = 6 ∨ w.pc = 7
inductive Cell (D : Int → Option Dw) (A : Ar) (F : Int → Stk) (M : Int → Int) (c : Int) : Prop where
  | val {v : Int} (h : plainOf (A.at c) = some v) (m : M c = A.at c)
  | mc {s : Int} {d : Dw} {n : Nat} {e : Sw} (hd : D s = some d) (he : d.ds[n]? = some e) (hc : e.c = c) (ha : A.at c = mw s d.g)
      (m1 : Won A s d → M c = e.n * 4) (m0 : ¬ Won A s d → M c = e.w * 4) (hh : Opn A s d → Held A s d n) (r : d.rq → Resp F s n)
  | en {s : Int} {d : Dw} {n : Nat} {e : Sw} {t q : Int} (hd : D s = some d) (he : d.ds[n]? = some e) (hc : e.c = c) (ha : A.at c = ew s d.g n t q) (t0 : 0 ≤ t ∧ t < 4) (q0 : 0 ≤ q ∧ q < (F t).q)
      (m : M c = e.w * 4) {w : Wh} {r : List Fr} (ho : (F t).fs = .who w :: r) (o : Owns w s n e (A.at c))
/-- the next frame below waits at a cell that holds the upper one's -/
def Nx (A : Ar) (u : Wh) : List Fr → Prop
  | .who w :: _ => u.s ≠ w.s ∧ (A.at (baseOf u.s) = stateW u.g 0 → A.at w.cell = mw u.s u.g)
  | _ => True
def Up (u : Wh) : List Fr → Prop
  | .who w :: _ => w.cell < u.cell
  | _ => True
def Ord (A : Ar) : List Fr → Prop
  | [] => True
  | .who w :: r => w.pc = 5 ∧ Nx A w r ∧ Up w r ∧ Ord A r
  | .ent _ :: _ => False
def Und (A : Ar) : List Fr → Prop
  | [] => True
  | .who w :: r => w.pc = 5 ∧ Nx A w r ∧ Ord A r
  | .ent _ :: _ => False
def Chain (A : Ar) : List Fr → Prop
  | [] => True
  | .who w :: r => Nx A w r ∧ (w.pc = 14 → A.at (baseOf w.s) = stateW w.g 0 → Up w r) ∧ Ord A r
  | .ent _ :: r => Und A r
structure MI (D : Int → Option Dw) (Lo : Int → Prop) (A : Ar) (F : Int → Stk) (M : Int → Int) : Prop where
  ok : A.ok
  ds : ∀ s d, D s = some d → DOk A s d
  cells : ∀ c, 0 ≤ c → c < 16 → Cell D A F M c
  fr : ∀ t f, f ∈ (F t).fs → FrOk D Lo A F t (F t).q f
  ch : ∀ t, Chain A (F t).fs
  lost : ∀ s d, D s = some d → A.at (baseOf s) = stateW d.g 2 → Lo s
  q0 : ∀ t, 0 ≤ (F t).q ∧ (F t).q < 1048576
  t0 : ∀ t, (F t).fs ≠ [] → 0 ≤ t ∧ t < 4
/-! ### words -/
section
variable {D : Int → Option Dw} {Lo : Int → Prop} {A B : Ar} {F : Int → Stk} {M : Int → Int} {t q s s' : Int} {d d' : Dw} {n n' : Nat} {e e' : Sw}
theorem DOk.lt (h : DOk A s d) (he : d.ds[n]? = some e) : n < 16 ∧ 0 ≤ e.c ∧ e.c < 16 ∧ 0 ≤ e.w ∧ e.w < 1099511627776 ∧ 0 ≤ e.n ∧ e.n < 1099511627776 := by
  have := sw_len h.2.1
  have m := sw_mem h.2.1 he
  have := (List.getElem?_eq_some_iff.1 he).1
  exact ⟨by omega, m⟩
theorem mw_inj (h : Life s d.g) (h' : Life s' d'.g) (e : mw s d.g = mw s' d'.g) : s = s' ∧ d.g = d'.g := by
  have := number_inj (may_mcas.2 ⟨h.s0, h.s1, h.g0, h.g1⟩) (may_mcas.2 ⟨h'.s0, h'.s1, h'.g0, h'.g1⟩) e
  injection this with a b
  exact ⟨a, b⟩
theorem mw_read (h : Life s d.g) : read (mw s d.g) = some (.mcas s d.g) := read_number (may_mcas.2 ⟨h.s0, h.s1, h.g0, h.g1⟩)
theorem mw_val : plainOf (mw s d.g) = none ∨ True := .inr trivial
theorem mw_ew {g g' : Int} {t q : Int} : mw s g ≠ ew s' g' n t q := fun h => entry_not_mcas h.symm
theorem val_read {x v : Int} (h : plainOf x = some v) : read x = some (.val v) ∧ x = v * 4 ∧ 0 ≤ v ∧ v < 1099511627776 := by
  have e : read x = some (.val v) := by
    unfold plainOf at h
    revert h
    cases read x with
    | none => intro h; cases h
    | some f => cases f <;> intro h <;> simp at h; rw [h]
  have r := may_val.1 (number_of_read e).1
  have := (number_of_read e).2.1
  simp only [Form.number] at this
  exact ⟨e, by omega, r⟩
theorem ew_range (h : Life s d.g) (hn : n < 16) (t0 : 0 ≤ t ∧ t < 4) (q0 : 0 ≤ q ∧ q < 1048576) : (Form.entry s d.g n t q).may = true := may_entry.2 ⟨h.s0, h.s1, h.g0, h.g1, by omega, by omega, t0.1, t0.2, q0.1, q0.2⟩
theorem ew_inj {t' q' : Int} (h : Life s d.g) (h' : Life s' d'.g) (hn : n < 16) (hn' : n' < 16) (t0 : 0 ≤ t ∧ t < 4) (t0' : 0 ≤ t' ∧ t' < 4) (q0 : 0 ≤ q ∧ q < 1048576) (q0' : 0 ≤ q' ∧ q' < 1048576)
    (e : ew s d.g n t q = ew s' d'.g n' t' q') : s = s' ∧ d.g = d'.g ∧ n = n' ∧ t = t' ∧ q = q' := by
  have := number_inj (ew_range h hn t0 q0) (ew_range h' hn' t0' q0') e
  injection this with a b c d e
  exact ⟨a, b, by omega, d, e⟩
/-! ### what a write leaves of others' frames -/
structure Rel (D : Int → Option Dw) (F : Int → Stk) (A B : Ar) : Prop where
  st : ∀ s d, D s = some d → (Opn B s d → Opn A s d) ∧ (¬ Opn A s d → B.at (baseOf s) = A.at (baseOf s))
  keep : ∀ s d, D s = some d → Opn B s d → ∀ c, 0 ≤ c → c < 16 → A.at c = mw s d.g → B.at c = mw s d.g
  ent : ∀ s d n e t q, D s = some d → d.ds[n]? = some e → 0 ≤ t ∧ t < 4 → 0 ≤ q ∧ q < (F t).q → Opn B s d → A.at e.c = ew s d.g n t q → B.at e.c = ew s d.g n t q ∨ B.at e.c = mw s d.g
  old : ∀ s d n e t q, D s = some d → d.ds[n]? = some e → 0 ≤ t ∧ t < 4 → 0 ≤ q ∧ q < (F t).q → B.at e.c = ew s d.g n t q → A.at e.c = ew s d.g n t q ∧ (Won B s d → Won A s d)
  new : ∀ s d n e, D s = some d → d.ds[n]? = some e → B.at e.c = mw s d.g → A.at e.c = mw s d.g ∨ ∃ t q, (0 ≤ t ∧ t < 4) ∧ (0 ≤ q ∧ q < 1048576) ∧ A.at e.c = ew s d.g n t q
theorem Rel.won (R : Rel D F A B) (hd : D s = some d) (h : ¬ Opn A s d) : Won B s d ↔ Won A s d := by
  unfold Won; rw [(R.st s d hd).2 h]
theorem Rel.nopn (R : Rel D F A B) (hd : D s = some d) (h : ¬ Opn A s d) : ¬ Opn B s d := fun h' => h ((R.st s d hd).1 h')
theorem Rel.held (R : Rel D F A B) (o : DOk A s d) (hd : D s = some d) (h : Opn A s d → Held A s d n) : Opn B s d → Held B s d n := fun h' j e hj he => by
  have m := o.lt he
  exact R.keep s d hd h' _ m.2.1 m.2.2.1 (h ((R.st s d hd).1 h') j e hj he)
theorem Rel.ph (R : Rel D F A B) (I : MI D Lo A F M) {w : Wh} {L : Prop} {q' : Int} (hd : D w.s = some d) (ht : 0 ≤ t ∧ t < 4) (hq : q ≤ (F t).q) (hq' : q ≤ q') (h : Ph D L A t q d w) : Ph D L B t q' d w := by
  have o := I.ds _ _ hd
  have hh : ∀ {n}, (Opn A w.s d → Held A w.s d n) → Opn B w.s d → Held B w.s d n := fun h => R.held o hd h
  have hn := R.nopn hd
  have hw := R.won hd
  have hpu : ∀ {n e}, Ix d w n e → w.cell = e.c → Pu A t q d w n → Pu B t q' d w n := fun {n e} ix hc h => by
    obtain ⟨h1, q0, h2, h3, h4⟩ := h
    refine ⟨fun ho => ?_, q0, h2, h3, by omega⟩
    rcases h1 ((R.st _ _ hd).1 ho) with a | a
    · rw [h2, hc] at a ⊢
      exact R.ent _ _ n e t q0 hd ix.e ht ⟨h3, by omega⟩ ho a
    · have m := o.lt ix.e
      rw [hc] at a ⊢
      exact .inr (R.keep _ _ hd ho _ m.2.1 m.2.2.1 a)
  unfold Ph at h ⊢
  split
  · trivial
  · trivial
  · rename_i hp; simp only [hp] at h
    obtain ⟨n, e, ix, h1⟩ := h
    exact ⟨n, e, ix, hh h1⟩
  · rename_i hp; simp only [hp] at h
    obtain ⟨n, e, ix, h1, h2⟩ := h
    exact ⟨n, e, ix, hh h1, h2⟩
  · rename_i hp; simp only [hp] at h
    obtain ⟨n, e, ix, h1, h2⟩ := h
    exact ⟨n, e, ix, hh h1, h2⟩
  · rename_i hp; simp only [hp] at h
    obtain ⟨n, e, ix, h1, h2, h3, h4⟩ := h
    exact ⟨n, e, ix, hh h1, h2, h3, hpu ix h2 h4⟩
  · rename_i hp; simp only [hp] at h
    obtain ⟨n, e, ix, h1, h2, h3, h4, h5, h6⟩ := h
    refine ⟨n, e, ix, hh h1, h2, h3, hpu ix h2 h4, fun ho ha hw' => ?_, fun ho => hn (h6 ho)⟩
    obtain ⟨_, q0, p1, p2, p3⟩ := h4
    rw [p1, h2] at ha
    have := R.old _ _ n e t q0 hd ix.e ht ⟨p2, by omega⟩ ha
    exact h5 ho (by rw [p1, h2]; exact this.1) (this.2 hw')
  · rename_i hp; simp only [hp] at h
    exact hh h
  · rename_i hp; simp only [hp] at h
    exact fun ho => h ((R.st _ _ hd).1 ho)
  · rename_i hp; simp only [hp] at h
    exact ⟨hn h.1, by rw [hw h.1]; exact h.2⟩
  · rename_i hp; simp only [hp] at h
    obtain ⟨n, e, ix, h1, h2⟩ := h
    exact ⟨n, e, ix, hn h1, by rw [hw h1]; exact h2⟩
  · rename_i hp; simp only [hp] at h
    obtain ⟨n, e, ix, h1, h2, h3⟩ := h
    exact ⟨n, e, ix, hn h1, by rw [hw h1]; exact h2, h3⟩
  · rename_i hp; simp only [hp] at h
    obtain ⟨n, e, ix, h1, h2, h3⟩ := h
    exact ⟨n, e, ix, hn h1, by rw [hw h1]; exact h2, h3⟩
  · rename_i hp; simp only [hp] at h
    obtain ⟨n, e, ix, h1, h2, h3, s', d', h4, h7, h5, h6⟩ := h
    refine ⟨n, e, ix, hh h1, h2, h3, s', d', h4, h7, h5, fun ho => ?_⟩
    have m := o.lt ix.e
    have := h6 ((R.st _ _ h4).1 ho)
    rw [h2, h5] at this ⊢
    exact R.keep _ _ h4 ho _ m.2.1 m.2.2.1 this
  · split at h <;> first | contradiction | exact h
theorem Rel.fr (R : Rel D F A B) (I : MI D Lo A F M) {F' : Int → Stk} (hF : ∀ u, (F u).q ≤ (F' u).q) {f : Fr} {q' : Int} (ht : 0 ≤ t ∧ t < 4) (hq : q ≤ (F t).q) (hq' : q ≤ q') (h : FrOk D Lo A F t q f) : FrOk D Lo B F' t q' f := by
  cases f with
  | who w =>
    obtain ⟨d, h1, h2, h3⟩ := h
    exact ⟨d, h1, h2, R.ph I h1 ht hq hq' h3⟩
  | ent f =>
    obtain ⟨d, e, n, h1, h2, h3, h4, h5, h6, h7⟩ := h
    refine ⟨d, e, n, h1, h2, h3, h4, ⟨h5.1, Int.lt_of_lt_of_le h5.2 (hF _)⟩, h6, ?_⟩
    unfold EPh at h7 ⊢
    split
    · trivial
    · rename_i hp; simp only [hp] at h7; exact h7
    · rename_i hp; simp only [hp] at h7; exact h7
    · rename_i hp; simp only [hp] at h7
      obtain ⟨a1, a2, a3, a4⟩ := h7
      refine ⟨a1, a2, fun ho ha hw => ?_, fun ho => R.nopn h1 (a4 ho)⟩
      have ha' : B.at e.c = ew f.s d.g n f.t f.q := by rw [← a1, ha, h3, h2]; rfl
      have := R.old _ _ n e f.t f.q h1 h4 h6 h5 ha'
      exact a3 ho (by rw [a1, this.1, h3, h2]; rfl) (this.2 hw)
    · split at h7 <;> first | contradiction | exact h7
theorem Rel.nx (R : Rel D F A B) (I : MI D Lo A F M) {u : Wh} {r : List Fr} (hd : D u.s = some d) (hg : u.g = d.g) (hr : ∀ w, r.head? = some (.who w) → 0 ≤ w.cell ∧ w.cell < 16) (h : Nx A u r) : Nx B u r := by
  cases r with
  | nil => trivial
  | cons f r =>
    cases f with
    | ent f => trivial
    | who w =>
      have hr := hr w rfl
      simp only [Nx, hg] at h ⊢
      exact ⟨h.1, fun ho => R.keep _ _ hd ho _ hr.1 hr.2 (h.2 ((R.st _ _ hd).1 ho))⟩
theorem FrOk.cell5 (I : MI D Lo A F M) {w : Wh} (h : FrOk D Lo A F t q (.who w)) (hp : w.pc = 5) : 0 ≤ w.cell ∧ w.cell < 16 := by
  obtain ⟨d, h1, h2, h3⟩ := h
  simp only [Ph, hp] at h3
  obtain ⟨n, e, ix, _, hc, _⟩ := h3
  have := (I.ds _ _ h1).lt ix.e
  rw [hc]
  exact ⟨this.2.1, this.2.2.1⟩
theorem Rel.ord (R : Rel D F A B) (I : MI D Lo A F M) {r : List Fr} (hf : ∀ f ∈ r, FrOk D Lo A F t q f) (h : Ord A r) : Ord B r := by
  induction r with
  | nil => trivial
  | cons f r ih =>
    cases f with
    | ent f => exact h
    | who w =>
      obtain ⟨h1, h2, h3, h4⟩ := h
      obtain ⟨d, a1, a2, a3⟩ := hf (.who w) (by simp)
      have hr : ∀ v, r.head? = some (.who v) → 0 ≤ v.cell ∧ v.cell < 16 := fun v hv => by
        cases r with
        | nil => simp at hv
        | cons f r =>
          simp at hv; subst hv
          exact (hf (.who v) (by simp)).cell5 I h4.1
      exact ⟨h1, R.nx I a1 a2 hr h2, h3, ih (fun f m => hf f (by simp [m])) h4⟩
end
end Go.Proofs.Ytbiappodepnbmaa
namespace Go.Proofs.Ytbiappodepnbmaa
open Go GW Go.Proofs
set_option linter.unusedVariables false
set_option linter.unusedSimpArgs false
def setF (F : Int → Stk) (t : Int) (k : Stk) : Int → Stk := fun u => if u = t then k else F u
theorem setF_at {F : Int → Stk} {t : Int} {k : Stk} : setF F t k t = k := if_pos rfl
theorem setF_ne {F : Int → Stk} {t u : Int} {k : Stk} (h : u ≠ t) : setF F t k u = F u := if_neg h
section
variable {D : Int → Option Dw} {Lo : Int → Prop} {A B : Ar} {F : Int → Stk} {M : Int → Int} {t q q' s : Int} {d : Dw} {n : Nat} {e : Sw}
theorem Rel.chain (R : Rel D F A B) (I : MI D Lo A F M) {fs : List Fr} (hh : ∀ w, fs.head? = some (.who w) → ∃ d, D w.s = some d ∧ w.g = d.g) (hf : ∀ f ∈ fs.tail, FrOk D Lo A F t q f) (h : Chain A fs) : Chain B fs := by
  have hr : ∀ {w : Wh} {r : List Fr}, (∀ f ∈ r, FrOk D Lo A F t q f) → Ord A r → r.head? = some (.who w) → 0 ≤ w.cell ∧ w.cell < 16 := fun {w r} hf ho hv => by
    cases r with
    | nil => simp at hv
    | cons f r =>
      simp at hv; subst hv
      exact (hf (.who w) (by simp)).cell5 I ho.1
  cases fs with
  | nil => trivial
  | cons f r =>
    cases f with
    | ent f =>
      simp only [List.tail_cons] at hf
      show Und B r
      have h : Und A r := h
      cases r with
      | nil => trivial
      | cons f r =>
        cases f with
        | ent f => exact h
        | who w =>
          obtain ⟨d, a1, a2, a3⟩ := hf (.who w) (by simp)
          have hf' : ∀ f ∈ r, FrOk D Lo A F t q f := fun f m => hf f (by simp [m])
          exact ⟨h.1, R.nx I a1 a2 (fun v hv => hr hf' h.2.2 hv) h.2.1, R.ord I hf' h.2.2⟩
    | who w =>
      simp only [List.tail_cons] at hf
      obtain ⟨d, a1, a2⟩ := hh w rfl
      refine ⟨R.nx I a1 a2 (fun v hv => hr hf h.2.2 hv) h.1, fun hp ho => h.2.1 hp ?_, R.ord I hf h.2.2⟩
      rw [a2] at ho ⊢
      exact (R.st _ _ a1).1 ho
theorem MI.go (I : MI D Lo A F M) (okB : B.ok) (dsB : ∀ s d, D s = some d → DOk B s d) (R : Rel D F A B) {fs' : List Fr} {M' : Int → Int} (hq : (F t).q ≤ q' ∧ q' < 1048576) (ht : 0 ≤ t ∧ t < 4)
    (new : ∀ f ∈ fs', FrOk D Lo B (setF F t ⟨q', fs'⟩) t q' f) (ch : Chain B fs')
    (hR : ∀ s d n e, D s = some d → d.ds[n]? = some e → (∃ f, f ∈ (F t).fs ∧ RF s n f) → (∃ f, f ∈ fs' ∧ RF s n f) ∨ B.at e.c ≠ mw s d.g)
    (hE : ∀ w r, (F t).fs = .who w :: r → (w.pc = 6 ∨ w.pc = 7) → (∃ w' r', fs' = .who w' :: r' ∧ (w'.pc = 6 ∨ w'.pc = 7) ∧ w'.s = w.s ∧ w'.i = w.i ∧ w'.cell = w.cell ∧ w'.was = w.was ∧ w'.put = w.put) ∨ B.at w.cell ≠ w.put)
    (hC : ∀ c, 0 ≤ c → c < 16 → (B.at c = A.at c ∧ M' c = M c ∧ ∀ s d, D s = some d → A.at c = mw s d.g → (Won B s d ↔ Won A s d)) ∨ Cell D B (setF F t ⟨q', fs'⟩) M' c)
    (lost : ∀ s d, D s = some d → B.at (baseOf s) = stateW d.g 2 → Lo s) : MI D Lo B (setF F t ⟨q', fs'⟩) M' := by
  have hF : ∀ u, (F u).q ≤ (setF F t ⟨q', fs'⟩ u).q := fun u => by
    by_cases c : u = t
    · subst c; rw [setF_at]; exact hq.1
    · rw [setF_ne c]; exact Int.le_refl _
  refine ⟨okB, dsB, fun c c0 c1 => ?_, fun u f hf => ?_, fun u => ?_, lost, fun u => ?_, fun u h => ?_⟩
  · rcases hC c c0 c1 with ⟨h1, h2, h3⟩ | h
    · cases I.cells c c0 c1 with
      | val h m => exact .val (by rw [h1]; exact h) (by rw [h2, h1]; exact m)
      | @mc s d n e hd he hc ha m1 m0 hh r =>
        refine .mc hd he hc (by rw [h1]; exact ha) (fun hw => by rw [h2]; exact m1 ((h3 _ _ hd ha).1 hw)) (fun hw => by rw [h2]; exact m0 fun hw' => hw ((h3 _ _ hd ha).2 hw')) (R.held (I.ds _ _ hd) hd hh) fun hrq => ?_
        obtain ⟨u, f, hf, hr⟩ := r hrq
        by_cases c' : u = t
        · subst c'
          rcases hR s d n e hd he ⟨f, hf, hr⟩ with ⟨f', m, hr'⟩ | hne
          · exact ⟨u, f', by rw [setF_at]; exact m, hr'⟩
          · rw [hc, h1] at hne; exact absurd ha hne
        · exact ⟨u, f, by rw [setF_ne c']; exact hf, hr⟩
      | @en s d n e t' q0' hd he hc ha t0 q0 m w r ho o =>
        by_cases c' : t' = t
        · subst c'
          rcases hE w r ho o.pc with ⟨w', r', e1, e2, e3, e4, e5, e6, e7⟩ | hne
          · exact .en hd he hc (by rw [h1]; exact ha) t0 ⟨q0.1, Int.lt_of_lt_of_le q0.2 (hF _)⟩ (by rw [h2]; exact m) (w := w') (r := r') (by rw [setF_at]; exact e1)
              ⟨by rw [e3]; exact o.s, by rw [e4]; exact o.i, by rw [e5]; exact o.cell, by rw [e6]; exact o.was, by rw [e7, h1]; exact o.put, e2⟩
          · rw [o.put, o.cell, hc, h1] at hne; exact absurd rfl hne
        · exact .en hd he hc (by rw [h1]; exact ha) t0 ⟨q0.1, Int.lt_of_lt_of_le q0.2 (hF _)⟩ (by rw [h2]; exact m) (by rw [setF_ne c']; exact ho) (by rw [h1]; exact o)
    · exact h
  · by_cases c : u = t
    · subst c; rw [setF_at] at hf ⊢; exact new f hf
    · rw [setF_ne c] at hf ⊢
      exact R.fr I hF (I.t0 u (List.ne_nil_of_mem hf)) (Int.le_refl _) (Int.le_refl _) (I.fr u f hf)
  · by_cases c : u = t
    · subst c; rw [setF_at]; exact ch
    · rw [setF_ne c]; exact R.chain I (fun w hw => by obtain ⟨d, a1, a2, a3⟩ := I.fr u (.who w) (List.mem_of_mem_head? hw); exact ⟨d, a1, a2⟩) (fun f hf => I.fr u f (List.mem_of_mem_tail hf)) (I.ch u)
  · by_cases c : u = t
    · subst c; rw [setF_at]; exact ⟨Int.le_trans (I.q0 u).1 hq.1, hq.2⟩
    · rw [setF_ne c]; exact I.q0 u
  · by_cases c : u = t
    · subst c; exact ht
    · rw [setF_ne c] at h; exact I.t0 u h
theorem base_at {s : Int} (h : Life s d.g) : 16 ≤ baseOf s ∧ baseOf s < 634 := by
  have := h.s0; have := h.s1; unfold baseOf; omega
theorem DOk.same (h : ∀ j, 0 ≤ j → j < 634 → B.at j = A.at j) (o : DOk A s d) : DOk B s d := by
  obtain ⟨l, m, st, hst, D⟩ := o
  have := l.s0; have := l.s1
  exact ⟨l, m, st, hst, D.keep m fun j j0 j1 => h j (by unfold baseOf at j0; omega) (by unfold baseOf at j1; omega)⟩
theorem DOk.cell (h : ∀ j, 16 ≤ j → j < 634 → B.at j = A.at j) (o : DOk A s d) : DOk B s d := by
  obtain ⟨l, m, st, hst, D⟩ := o
  have := l.s0; have := l.s1
  exact ⟨l, m, st, hst, D.keep m fun j j0 j1 => h j (by unfold baseOf at j0; omega) (by unfold baseOf at j1; omega)⟩
theorem Rel.same (I : MI D Lo A F M) (h : ∀ j, 0 ≤ j → j < 634 → B.at j = A.at j) : Rel D F A B := by
  have hb : ∀ s d, D s = some d → B.at (baseOf s) = A.at (baseOf s) := fun s d hd => by
    have := base_at (I.ds s d hd).1
    exact h _ (by omega) this.2
  refine ⟨fun s d hd => ⟨fun ho => by unfold Opn at ho ⊢; rw [← hb s d hd]; exact ho, fun _ => hb s d hd⟩, fun s d hd ho c c0 c1 ha => by rw [h c c0 (by omega)]; exact ha, fun s d n e t q hd he _ _ ho ha => ?_, fun s d n e t q hd he t0 q0 ha => ?_, fun s d n e hd he ha => .inl (by have m := (I.ds s d hd).lt he; rw [h _ m.2.1 (by omega)] at ha; exact ha)⟩
  · have m := (I.ds s d hd).lt he
    rw [h _ m.2.1 (by omega)]; exact .inl ha
  · have m := (I.ds s d hd).lt he
    rw [h _ m.2.1 (by omega)] at ha
    exact ⟨ha, fun hw => by unfold Won at hw ⊢; rw [← hb s d hd]; exact hw⟩
/-- a step that turns no word -/
theorem MI.quiet (I : MI D Lo A F M) (okB : B.ok) (h : ∀ j, 0 ≤ j → j < 634 → B.at j = A.at j) {fs' : List Fr} (hq : (F t).q ≤ q' ∧ q' < 1048576) (ht : 0 ≤ t ∧ t < 4)
    (new : ∀ f ∈ fs', FrOk D Lo A F t (F t).q f) (ch : Chain A fs')
    (hR : ∀ s d n e, D s = some d → d.ds[n]? = some e → (∃ f, f ∈ (F t).fs ∧ RF s n f) → (∃ f, f ∈ fs' ∧ RF s n f) ∨ A.at e.c ≠ mw s d.g)
    (hE : ∀ w r, (F t).fs = .who w :: r → (w.pc = 6 ∨ w.pc = 7) → (∃ w' r', fs' = .who w' :: r' ∧ (w'.pc = 6 ∨ w'.pc = 7) ∧ w'.s = w.s ∧ w'.i = w.i ∧ w'.cell = w.cell ∧ w'.was = w.was ∧ w'.put = w.put) ∨ A.at w.cell ≠ w.put) :
    MI D Lo B (setF F t ⟨q', fs'⟩) M := by
  have R := Rel.same I h
  have hb : ∀ s d, D s = some d → B.at (baseOf s) = A.at (baseOf s) := fun s d hd => by
    have := base_at (I.ds s d hd).1
    exact h _ (by omega) this.2
  have hF : ∀ u, (F u).q ≤ (setF F t ⟨q', fs'⟩ u).q := fun u => by
    by_cases c : u = t
    · subst c; rw [setF_at]; exact hq.1
    · rw [setF_ne c]; exact Int.le_refl _
  refine I.go okB (fun s d hd => (I.ds s d hd).same h) R hq ht (fun f hf => R.fr I hF ht (Int.le_refl _) hq.1 (new f hf)) (R.chain I (fun w hw => by obtain ⟨d, a1, a2, a3⟩ := new (.who w) (List.mem_of_mem_head? hw); exact ⟨d, a1, a2⟩) (fun f hf => new f (List.mem_of_mem_tail hf)) ch) (fun s d n e hd he hx => ?_) (fun w r hw hp => ?_) (fun c c0 c1 => .inl ⟨h c c0 (by omega), rfl, fun s d hd _ => by unfold Won; rw [hb s d hd]⟩) (fun s d hd hl => I.lost s d hd (by rw [← hb s d hd]; exact hl))
  · have m := (I.ds s d hd).lt he
    rw [h _ m.2.1 (by omega)]; exact hR s d n e hd he hx
  · rcases hE w r hw hp with x | x
    · exact .inl x
    · right
      obtain ⟨d, a1, a2, a3⟩ := I.fr t (.who w) (by rw [hw]; simp)
      have : ∃ (n : Nat) (e : Sw), d.ds[n]? = some e ∧ w.cell = e.c := by
        unfold Ph at a3
        rcases hp with hp | hp
        · simp only [hp] at a3; obtain ⟨n, e, ix, _, hc, _⟩ := a3; exact ⟨n, e, ix.e, hc⟩
        · simp only [hp] at a3; obtain ⟨n, e, ix, _, hc, _⟩ := a3; exact ⟨n, e, ix.e, hc⟩
      obtain ⟨n, e, he, hc⟩ := this
      have m := (I.ds _ _ a1).lt he
      rw [h _ (by omega) (by omega)]; exact x
/-- one's own frame turns, nothing else -/
theorem MI.own (I : MI D Lo A F M) {w w' : Wh} {r : List Fr} (hS : F t = ⟨q, .who w :: r⟩) (okB : B.ok) (h : ∀ j, 0 ≤ j → j < 634 → B.at j = A.at j) (hq : q ≤ q' ∧ q' < 1048576) (es : w'.s = w.s) (eg : w'.g = w.g)
    (ph : ∀ d, D w.s = some d → w.g = d.g → Ph D (Lo w.s) A t q d w → Ph D (Lo w.s) A t q d w')
    (h14 : w'.pc = 14 → A.at (baseOf w.s) = stateW w.g 0 → Up w' r)
    (hR : ∀ d n e, D w.s = some d → d.ds[n]? = some e → RF w.s n (.who w) → RF w.s n (.who w') ∨ A.at e.c ≠ mw w.s d.g)
    (hE : w.pc = 6 ∨ w.pc = 7 → ((w'.pc = 6 ∨ w'.pc = 7) ∧ w'.i = w.i ∧ w'.cell = w.cell ∧ w'.was = w.was ∧ w'.put = w.put) ∨ A.at w.cell ≠ w.put) :
    MI D Lo B (setF F t ⟨q', .who w' :: r⟩) M := by
  have fs : (F t).fs = .who w :: r := by rw [hS]
  have fq : (F t).q = q := by rw [hS]
  have ht := I.t0 t (by rw [fs]; simp)
  have hc := I.ch t
  rw [fs] at hc
  refine I.quiet okB h (by rw [fq]; exact hq) ht (fun f hf => ?_) ⟨?_, fun hp ho => h14 hp (by rw [es, eg] at ho; exact ho), hc.2.2⟩ (fun s d n e hd he hx => ?_) (fun v r' hv hp => ?_)
  · rcases List.mem_cons.1 hf with rfl | hf
    · obtain ⟨d, a1, a2, a3⟩ := I.fr t (.who w) (by rw [fs]; simp)
      rw [fq] at a3 ⊢
      exact ⟨d, by rw [es]; exact a1, by rw [eg]; exact a2, by rw [es]; exact ph d a1 a2 a3⟩
    · exact I.fr t f (by rw [fs]; simp [hf])
  · have h1 := hc.1
    cases r with
    | nil => trivial
    | cons f r =>
      cases f with
      | ent f => trivial
      | who v =>
        simp only [Nx, es, eg] at h1 ⊢
        exact h1
  · obtain ⟨f, hf, hx⟩ := hx
    rw [fs] at hf
    rcases List.mem_cons.1 hf with rfl | hf
    · have e1 := hx.1
      subst e1
      rcases hR d n e hd he hx with h | h
      · exact .inl ⟨_, by simp, h⟩
      · exact .inr h
    · exact .inl ⟨f, by simp [hf], hx⟩
  · rw [fs] at hv
    cases hv
    rcases hE hp with ⟨a, b, c, d, e⟩ | h
    · exact .inl ⟨w', r, rfl, a, es, b, c, d, e⟩
    · exact .inr h
end
end Go.Proofs.Ytbiappodepnbmaa
namespace Go.Proofs.Ytbiappodepnbmaa
open Go GW Go.Proofs
set_option linter.unusedVariables false
set_option linter.unusedSimpArgs false
def nxt (o : Out) (r : List Fr) : List Fr := match o.atop.bind newFr with
  | some f => f :: o.fr :: r
  | none => if o.over then r else o.fr :: r
/-- the memory that a winner leaves -/
def updM (ds : List Sw) (M : Int → Int) : Int → Int := fun c => match ds.find? (fun e => decide (e.c = c)) with
  | some e => e.n * 4
  | none => M c
def Turn (D : Int → Option Dw) (A B : Ar) (M M' : Int → Int) : Prop :=
  (∀ s d, D s = some d → (Opn B s d → Opn A s d) ∧ (¬ Opn A s d → B.at (baseOf s) = A.at (baseOf s))) ∧
  ((M' = M ∧ ∀ s d, D s = some d → (Won B s d ↔ Won A s d)) ∨
   ∃ s d, D s = some d ∧ Opn A s d ∧ Won B s d ∧ (∀ (n : Nat) (e : Sw), d.ds[n]? = some e → M e.c = e.w * 4) ∧ M' = updM d.ds M ∧ ∀ s' d', D s' = some d' → s' ≠ s → B.at (baseOf s') = A.at (baseOf s'))
structure Did (D : Int → Option Dw) (Lo : Int → Prop) (A : Ar) (F : Int → Stk) (M : Int → Int) (t : Int) (r : List Fr) (o : Out) : Prop where
  good : o.good = true
  len : ∀ f, o.atop.bind newFr = some f → r.length + 1 < 18
  fin : o.over = true → ∀ w, o.fr = .who w → ∃ d, D w.s = some d ∧ w.g = d.g ∧ ¬ Opn o.a w.s d ∧ (w.won = true ↔ Won o.a w.s d)
  q : (F t).q ≤ o.q ∧ o.q ≤ (F t).q + 1
  rel : Rel D F A o.a
  mi : ∃ M', Turn D A o.a M M' ∧ MI D Lo o.a (setF F t ⟨o.q, nxt o r⟩) M'
section
variable {D : Int → Option Dw} {Lo : Int → Prop} {A B : Ar} {F : Int → Stk} {M : Int → Int} {t q q' s : Int} {d : Dw} {n : Nat} {e : Sw} {w w' : Wh} {r : List Fr}
theorem Turn.same (I : MI D Lo A F M) (h : ∀ j, 0 ≤ j → j < 634 → B.at j = A.at j) : Turn D A B M M := by
  have R := Rel.same I h
  have hb : ∀ s d, D s = some d → B.at (baseOf s) = A.at (baseOf s) := fun s d hd => by
    have := base_at (I.ds s d hd).1
    exact h _ (by omega) this.2
  exact ⟨R.st, .inl ⟨rfl, fun s d hd => by unfold Won; rw [hb s d hd]⟩⟩
theorem MI.did (I : MI D Lo A F M) (hS : F t = ⟨q, .who w :: r⟩) (okB : B.ok) (h : ∀ j, 0 ≤ j → j < 634 → B.at j = A.at j) (hq : q ≤ q' ∧ q' ≤ q + 1 ∧ q' < 1048576) (es : w'.s = w.s) (eg : w'.g = w.g)
    (ph : ∀ d, D w.s = some d → w.g = d.g → Ph D (Lo w.s) A t q d w → Ph D (Lo w.s) A t q d w')
    (h14 : w'.pc = 14 → A.at (baseOf w.s) = stateW w.g 0 → Up w' r)
    (hR : ∀ d n e, D w.s = some d → d.ds[n]? = some e → RF w.s n (.who w) → RF w.s n (.who w') ∨ A.at e.c ≠ mw w.s d.g)
    (hE : w.pc = 6 ∨ w.pc = 7 → ((w'.pc = 6 ∨ w'.pc = 7) ∧ w'.i = w.i ∧ w'.cell = w.cell ∧ w'.was = w.was ∧ w'.put = w.put) ∨ A.at w.cell ≠ w.put) :
    Did D Lo A F M t r ⟨.who w', none, false, true, B, q'⟩ := by
  have fq : (F t).q = q := by rw [hS]
  refine ⟨rfl, (fun f hf => by cases hf), (fun h => by cases h), by rw [fq]; exact ⟨hq.1, hq.2.1⟩, Rel.same I h, M, Turn.same I h, ?_⟩
  exact I.own hS okB h ⟨hq.1, hq.2.2⟩ es eg ph h14 hR hE
/-- the frame, over its descriptor -/
theorem MI.on (I : MI D Lo A F M) (hS : F t = ⟨q, .who w :: r⟩) : ∃ d st, D w.s = some d ∧ w.g = d.g ∧ (0 ≤ st ∧ st < 3) ∧ On A w st d.ds ∧ Ph D (Lo w.s) A t q d w ∧ DOk A w.s d := by
  have := I.fr t (.who w) (by rw [hS]; simp)
  obtain ⟨d, a1, a2, a3⟩ := this
  rw [hS] at a3
  obtain ⟨l, m, st, hst, dsc⟩ := I.ds _ _ a1
  exact ⟨d, st, a1, a2, hst, ⟨I.ok, by rw [a2]; exact l, m, by rw [a2]; exact dsc⟩, a3, I.ds _ _ a1⟩
theorem On.opn {st : Int} (o : On A w st d.ds) (hg : w.g = d.g) : (Opn A w.s d ↔ st = 0) ∧ (Won A w.s d ↔ st = 1) := by
  unfold Opn Won
  rw [o.d.st, hg]
  exact ⟨stateW_inj, stateW_inj⟩
theorem RF.same {n : Nat} (h : RF s n (.who w)) (hs : w'.s = w.s) (hp : w'.pc ≤ 10 ∨ w'.pc = 14 ∨ (w.pc = 11 ∨ w.pc = 12) ∧ w'.i = w.i) : RF s n (.who w') := by
  obtain ⟨a, b⟩ := h
  refine ⟨by rw [hs]; exact a, ?_⟩
  rcases hp with h | h | ⟨h, h'⟩
  · exact .inl h
  · exact .inr (.inl h)
  · rw [h']
    rcases b with b | b | b
    · omega
    · omega
    · exact .inr (.inr b)
theorem Ord.len (I : MI D Lo A F M) : ∀ {r : List Fr} {w : Wh}, (∀ f ∈ r, FrOk D Lo A F t q f) → Ord A r → Up w r → 0 ≤ w.cell → (r.length : Int) ≤ w.cell := by
  intro r
  induction r with
  | nil => intro w _ _ _ h; simpa using h
  | cons f r ih =>
    intro w hf ho hu _
    cases f with
    | ent f => exact absurd ho (by simp [Ord])
    | who v =>
      obtain ⟨h1, h2, h3, h4⟩ := ho
      have c := (hf (.who v) (by simp)).cell5 I h1
      have := ih (fun f m => hf f (by simp [m])) h4 h3 c.1
      have hu : v.cell < w.cell := hu
      simp only [List.length_cons]
      omega
theorem Ord.len17 (I : MI D Lo A F M) {r : List Fr} (hf : ∀ f ∈ r, FrOk D Lo A F t q f) (ho : Ord A r) : r.length ≤ 16 := by
  cases r with
  | nil => simp
  | cons f r =>
    cases f with
    | ent f => exact absurd ho (by simp [Ord])
    | who v =>
      obtain ⟨h1, h2, h3, h4⟩ := ho
      have c := (hf (.who v) (by simp)).cell5 I h1
      have := Ord.len I (fun f m => hf f (by simp [m])) h4 h3 c.1
      simp only [List.length_cons]
      omega
theorem ld_same {i : Int} (ok : A.ok) (h0 : 0 ≤ i) (h1 : i < 634) : ∀ j, 0 ≤ j → j < 634 → (A.ld i).at j = A.at j := fun j j0 j1 => at_ld ok h0 h1 j0 j1
theorem MI.pc1 (I : MI D Lo A F M) (hS : F t = ⟨q, .who w :: r⟩) (hq : q < 1048576) (hp : w.pc = 1) : Did D Lo A F M t r (w.step t q A) := by
  obtain ⟨d, st, hd, hg, hst, o, ph, dok⟩ := I.on hS
  have hb := base_range o.life.s0 o.life.s1 (i := 0) (by decide) (by decide)
  rw [Int.add_zero] at hb
  by_cases c : st = 0
  · subst c
    rw [step_ask_open o hp]
    exact I.did hS (I.ok.ld _) (ld_same I.ok (by omega) hb.2) ⟨Int.le_refl _, by omega, hq⟩ rfl rfl (fun _ _ _ _ => trivial) (fun h => by cases h) (fun _ _ _ _ _ h => .inl (RF.same h rfl (.inl (Nat.le_of_ble_eq_true rfl)))) (fun h => by omega)
  · rw [step_ask_shut o hp (by omega)]
    refine I.did hS (I.ok.ld _) (ld_same I.ok (by omega) hb.2) ⟨Int.le_refl _, by omega, hq⟩ rfl rfl (fun d' hd' _ _ => ?_) (fun h => by cases h) (fun _ _ _ _ _ h => .inl (RF.same h rfl (.inl (Nat.le_of_ble_eq_true rfl)))) (fun h => by omega)
    rw [hd] at hd'; cases hd'
    have := o.opn hg
    show ¬ Opn A w.s d ∧ (decide (st = 1) = true ↔ Won A w.s d)
    rw [this.1, this.2, decide_eq_true_iff]
    exact ⟨c, Iff.rfl⟩
theorem MI.pc2 (I : MI D Lo A F M) (hS : F t = ⟨q, .who w :: r⟩) (hq : q < 1048576) (hp : w.pc = 2) : Did D Lo A F M t r (w.step t q A) := by
  obtain ⟨d, st, hd, hg, hst, o, ph, dok⟩ := I.on hS
  have hb := base_range o.life.s0 o.life.s1 (i := 1) (by decide) (by decide)
  rw [step_count o hp]
  refine I.did hS (I.ok.ld _) (ld_same I.ok (by omega) hb.2) ⟨Int.le_refl _, by omega, hq⟩ rfl rfl (fun d' hd' _ _ => ?_) (fun h => ?_) (fun _ _ _ _ _ h => .inl (RF.same h rfl (.inl ?_))) (fun h => by omega)
  · rw [hd] at hd'; cases hd'
    by_cases c : d.ds.length = 0
    · simp only [Ph, if_pos c]
      exact fun _ j e hj => absurd hj (by omega)
    · simp only [Ph, if_neg c]
      exact ⟨0, d.ds[0]'(by omega), ⟨rfl, rfl, List.getElem?_eq_getElem _⟩, fun _ j e hj => absurd hj (by omega)⟩
  · simp only at h; split at h <;> cases h
  · simp only; split <;> decide
theorem MI.pc3 (I : MI D Lo A F M) (hS : F t = ⟨q, .who w :: r⟩) (hq : q < 1048576) (hp : w.pc = 3) : Did D Lo A F M t r (w.step t q A) := by
  obtain ⟨d, st, hd, hg, hst, o, ph, dok⟩ := I.on hS
  simp only [Ph, hp] at ph
  obtain ⟨n, e, ix, h1⟩ := ph
  have hb := o.ent_addr ix.e (p := 0) (by decide) (by decide)
  rw [step_cell o hp ix.i ix.e]
  refine I.did hS (I.ok.ld _) (ld_same I.ok (by rw [ix.i]; omega) (by rw [ix.i]; exact hb.2)) ⟨Int.le_refl _, by omega, hq⟩ rfl rfl (fun d' hd' _ _ => ?_) (fun h => by cases h) (fun _ _ _ _ _ h => .inl (RF.same h rfl (.inl (Nat.le_of_ble_eq_true rfl)))) (fun h => by omega)
  rw [hd] at hd'; cases hd'
  exact ⟨n, e, ⟨ix.i, ix.k, ix.e⟩, h1, rfl⟩
theorem MI.pc4 (I : MI D Lo A F M) (hS : F t = ⟨q, .who w :: r⟩) (hq : q < 1048576) (hp : w.pc = 4) : Did D Lo A F M t r (w.step t q A) := by
  obtain ⟨d, st, hd, hg, hst, o, ph, dok⟩ := I.on hS
  simp only [Ph, hp] at ph
  obtain ⟨n, e, ix, h1, h2⟩ := ph
  have hb := o.ent_addr ix.e (p := 1) (by decide) (by decide)
  rw [step_was o hp ix.i ix.e]
  refine I.did hS (I.ok.ld _) (ld_same I.ok (by rw [ix.i]; omega) (by rw [ix.i]; exact hb.2)) ⟨Int.le_refl _, by omega, hq⟩ rfl rfl (fun d' hd' _ _ => ?_) (fun h => by cases h) (fun _ _ _ _ _ h => .inl (RF.same h rfl (.inl (Nat.le_of_ble_eq_true rfl)))) (fun h => by omega)
  rw [hd] at hd'; cases hd'
  exact ⟨n, e, ⟨ix.i, ix.k, ix.e⟩, h1, h2, rfl⟩
theorem MI.pc6 (I : MI D Lo A F M) (hS : F t = ⟨q, .who w :: r⟩) (hq : q < 1048576) (hp : w.pc = 6) : Did D Lo A F M t r (w.step t q A) := by
  obtain ⟨d, st, hd, hg, hst, o, ph, dok⟩ := I.on hS
  simp only [Ph, hp] at ph
  obtain ⟨n, e, ix, h1, h2, h3, h4⟩ := ph
  have hb := base_range o.life.s0 o.life.s1 (i := 0) (by decide) (by decide)
  rw [Int.add_zero] at hb
  have := o.opn hg
  rw [step_settled o hp hst.1 hst.2]
  refine I.did hS (I.ok.ld _) (ld_same I.ok (by omega) hb.2) ⟨Int.le_refl _, by omega, hq⟩ rfl rfl (fun d' hd' _ _ => ?_) (fun h => by cases h) (fun _ _ _ _ _ h => .inl (RF.same h rfl (.inl (Nat.le_of_ble_eq_true rfl)))) (fun h => .inl ⟨.inr rfl, rfl, rfl, rfl, rfl⟩)
  rw [hd] at hd'; cases hd'
  refine ⟨n, e, ⟨ix.i, ix.k, ix.e⟩, h1, h2, h3, h4, fun ho _ => ?_, fun ho => ?_⟩
  · show ¬ Won A w.s d
    have ho : decide (st = 0) = true := ho
    rw [this.2]; simp at ho; omega
  · show ¬ Opn A w.s d
    have ho : decide (st = 0) = false := ho
    rw [this.1]; simpa using ho
theorem MI.pc11 (I : MI D Lo A F M) (hS : F t = ⟨q, .who w :: r⟩) (hq : q < 1048576) (hp : w.pc = 11) : Did D Lo A F M t r (w.step t q A) := by
  obtain ⟨d, st, hd, hg, hst, o, ph, dok⟩ := I.on hS
  simp only [Ph, hp] at ph
  obtain ⟨n, e, ix, h1, h2⟩ := ph
  have hb := o.ent_addr ix.e (p := 0) (by decide) (by decide)
  rw [step_cell2 o hp ix.i ix.e]
  refine I.did hS (I.ok.ld _) (ld_same I.ok (by rw [ix.i]; omega) (by rw [ix.i]; exact hb.2)) ⟨Int.le_refl _, by omega, hq⟩ rfl rfl (fun d' hd' _ _ => ?_) (fun h => by cases h) (fun _ _ _ _ _ h => .inl (RF.same h rfl (.inr (.inr ⟨.inl hp, rfl⟩)))) (fun h => by omega)
  rw [hd] at hd'; cases hd'
  exact ⟨n, e, ⟨ix.i, ix.k, ix.e⟩, h1, h2, rfl⟩
theorem MI.pc12 (I : MI D Lo A F M) (hS : F t = ⟨q, .who w :: r⟩) (hq : q < 1048576) (hp : w.pc = 12) : Did D Lo A F M t r (w.step t q A) := by
  obtain ⟨d, st, hd, hg, hst, o, ph, dok⟩ := I.on hS
  simp only [Ph, hp] at ph
  obtain ⟨n, e, ix, h1, h2, h3⟩ := ph
  have hb1 := o.ent_addr ix.e (p := 1) (by decide) (by decide)
  have hb2 := o.ent_addr ix.e (p := 2) (by decide) (by decide)
  rw [step_will o hp ix.i ix.e]
  refine I.did hS (I.ok.ld _) (ld_same I.ok ?_ ?_) ⟨Int.le_refl _, by omega, hq⟩ rfl rfl (fun d' hd' _ _ => ?_) (fun h => by cases h) (fun _ _ _ _ _ h => .inl (RF.same h rfl (.inr (.inr ⟨.inr hp, rfl⟩)))) (fun h => by omega)
  · rw [ix.i]; split <;> omega
  · rw [ix.i]; split
    · exact hb2.2
    · exact hb1.2
  · rw [hd] at hd'; cases hd'
    exact ⟨n, e, ⟨ix.i, ix.k, ix.e⟩, h1, h2, h3, rfl⟩
theorem MI.pc14 (I : MI D Lo A F M) (hS : F t = ⟨q, .who w :: r⟩) (hq : q < 1048576) (hp : w.pc = 14) : Did D Lo A F M t r (w.step t q A) := by
  obtain ⟨d, st, hd, hg, hst, o, ph, dok⟩ := I.on hS
  simp only [Ph, hp] at ph
  obtain ⟨n, e, ix, h1, h2, h3, s', d', h4, hne, h5, h6⟩ := ph
  have hb := base_range o.life.s0 o.life.s1 (i := 0) (by decide) (by decide)
  rw [Int.add_zero] at hb
  have sp := o.opn hg
  have fs : (F t).fs = .who w :: r := by rw [hS]
  have fq : (F t).q = q := by rw [hS]
  have hv : (plainOf (A.at (baseOf w.s))).isSome = true := by rw [o.d.st]; exact stateW_val o.life.g0 o.life.g1 hst.1 (by omega)
  by_cases c : A.at (baseOf w.s) = stateW w.g 0
  · have hs : w.step t q A = ⟨.who { w with opn := decide (A.at (baseOf w.s) = stateW w.g 0), won := decide (A.at (baseOf w.s) = stateW w.g 1), pc := 5 }, read w.x, false, (plainOf (A.at (baseOf w.s))).isSome, A.ld (baseOf w.s), q⟩ := by
      unfold Wh.step; simp only [hp]; rw [if_pos (decide_eq_true c)]
    rw [hs, hv]
    generalize hw : ({ w with opn := decide (A.at (baseOf w.s) = stateW w.g 0), won := decide (A.at (baseOf w.s) = stateW w.g 1), pc := 5 } : Wh) = w'
    have ws : w'.s = w.s := by rw [← hw]
    have wg : w'.g = w.g := by rw [← hw]
    have wc : w'.cell = w.cell := by rw [← hw]
    have wp : w'.pc = 5 := by rw [← hw]
    have wi : w'.i = w.i := by rw [← hw]
    have wk' : w'.k = w.k := by rw [← hw]
    have wwas : w'.was = w.was := by rw [← hw]
    have hx : read w.x = some (.mcas s' d'.g) := by rw [h5]; exact mw_read (I.ds _ _ h4).1
    have hat : (some (Form.mcas s' d'.g)).bind newFr = some (.who (.new s' d'.g)) := rfl
    rw [hx]
    have ch := I.ch t
    rw [fs] at ch
    have hop : Opn A w.s d := by unfold Opn; rw [← hg]; exact c
    have hup := ch.2.1 hp c
    have hfr : ∀ f ∈ r, FrOk D Lo A F t q f := fun f m => by have := I.fr t f (by rw [fs]; simp [m]); rw [fq] at this; exact this
    have m := dok.lt ix.e
    refine ⟨rfl, fun f hf => ?_, (fun h => by cases h), by rw [fq]; exact ⟨Int.le_refl _, by simp only; omega⟩, Rel.same I (ld_same I.ok (by omega) hb.2), M, Turn.same I (ld_same I.ok (by omega) hb.2), ?_⟩
    · have := Ord.len I hfr ch.2.2 hup (by rw [h2]; exact m.2.1)
      rw [h2] at this
      omega
    · show MI D Lo (A.ld (baseOf w.s)) (setF F t ⟨q, .who (.new s' d'.g) :: .who w' :: r⟩) M
      refine I.quiet (I.ok.ld _) (ld_same I.ok (by omega) hb.2) ⟨by rw [fq]; exact Int.le_refl _, hq⟩ (I.t0 t (by rw [fs]; simp)) (fun f hf => ?_) ⟨?_, (fun h => by cases h), wp, ?_, ?_, ch.2.2⟩ (fun s1 d1 n1 e1 hd1 he1 hx => ?_) (fun v r' hv hpc => ?_)
      · rw [fq]
        rcases List.mem_cons.1 hf with rfl | hf
        · exact ⟨d', h4, rfl, trivial⟩
        · rcases List.mem_cons.1 hf with rfl | hf
          · refine ⟨d, by rw [ws]; exact hd, by rw [wg]; exact hg, ?_⟩
            simp only [Ph, wp]
            exact ⟨n, e, ⟨by rw [wi]; exact ix.i, by rw [wk']; exact ix.k, ix.e⟩, by rw [ws]; exact h1, by rw [wc]; exact h2, by rw [wwas]; exact h3⟩
          · exact hfr f hf
      · refine ⟨by rw [ws]; exact hne, ?_⟩
        show A.at (baseOf s') = stateW d'.g 0 → A.at w'.cell = mw s' d'.g
        intro ho
        rw [wc, ← h5]; exact h6 ho
      · have h1 := ch.1
        cases r with
        | nil => trivial
        | cons f r =>
          cases f with
          | ent f => trivial
          | who v =>
            simp only [Nx, ws, wg] at h1 ⊢
            exact h1
      · cases r with
        | nil => trivial
        | cons f r =>
          cases f with
          | ent f => trivial
          | who v =>
            simp only [Up, wc] at hup ⊢
            exact hup
      · obtain ⟨f, hf, hx⟩ := hx
        rw [fs] at hf
        left
        rcases List.mem_cons.1 hf with rfl | hf
        · exact ⟨.who w', by simp, by rw [ws]; exact hx.1, .inl (by omega)⟩
        · exact ⟨f, by simp [hf], hx⟩
      · rw [fs] at hv; cases hv; omega
  · have hs : w.step t q A = ⟨.who { w with opn := decide (A.at (baseOf w.s) = stateW w.g 0), won := decide (A.at (baseOf w.s) = stateW w.g 1), pc := 10 }, none, false, (plainOf (A.at (baseOf w.s))).isSome, A.ld (baseOf w.s), q⟩ := by
      unfold Wh.step; simp only [hp]; rw [if_neg (by rw [decide_eq_true_iff]; exact c)]
    rw [hs, hv]
    refine I.did hS (I.ok.ld _) (ld_same I.ok (by omega) hb.2) ⟨Int.le_refl _, by omega, hq⟩ rfl rfl (fun d' hd' _ _ => ?_) (fun h => by cases h) (fun _ _ _ _ _ h => .inl (RF.same h rfl (.inl (Nat.le_of_ble_eq_true rfl)))) (fun h => by omega)
    rw [hd] at hd'; cases hd'
    refine ⟨by unfold Opn; rw [← hg]; exact c, ?_⟩
    show decide (A.at (baseOf w.s) = stateW w.g 1) = true ↔ A.at (baseOf w.s) = stateW d.g 1
    rw [decide_eq_true_iff, hg]
end
end Go.Proofs.Ytbiappodepnbmaa
namespace Go.Proofs.Ytbiappodepnbmaa
open Go GW Go.Proofs
set_option linter.unusedVariables false
set_option linter.unusedSimpArgs false
section
variable {D : Int → Option Dw} {Lo : Int → Prop} {A B : Ar} {F : Int → Stk} {M : Int → Int} {t q q' s : Int} {d : Dw} {n : Nat} {e : Sw} {w w' : Wh} {r : List Fr} {c x : Int}
/-- a cell alone was turned -/
structure One (A B : Ar) (c x : Int) : Prop where
  c0 : 0 ≤ c
  c1 : c < 16
  at_ : B.at c = x
  ne : ∀ j, 0 ≤ j → j < 634 → j ≠ c → B.at j = A.at j
theorem One.of_cas {o : Int} (ok : A.ok) (c0 : 0 ≤ c) (c1 : c < 16) (h : A.at c = o) : One A (A.cas c o x) c x :=
  ⟨c0, c1, by rw [at_cas ok c0 (by omega) c0 (by omega), if_pos rfl, if_pos h], fun j j0 j1 jn => by rw [at_cas ok c0 (by omega) j0 j1, if_neg (Ne.symm jn)]⟩
theorem cas_same {o : Int} (ok : A.ok) (c0 : 0 ≤ c) (c1 : c < 634) (h : A.at c ≠ o) : ∀ j, 0 ≤ j → j < 634 → (A.cas c o x).at j = A.at j := fun j j0 j1 => by
  rw [at_cas ok c0 c1 j0 j1, if_neg h]
  split
  · rename_i e; rw [e]
  · rfl
theorem One.base (O : One A B c x) (l : Life s d.g) : B.at (baseOf s) = A.at (baseOf s) := by
  have := base_at l
  have := O.c1
  exact O.ne _ (by omega) (by omega) (by omega)
theorem One.dok (O : One A B c x) (o : DOk A s d) : DOk B s d := o.cell fun j j0 j1 => by have := O.c1; exact O.ne j (by omega) j1 (by omega)
/-- entries that are the same word are the same -/
theorem ent_same {s' : Int} {d' : Dw} {n' : Nat} {e' : Sw} {t' q' : Int} (I : MI D Lo A F M) (hd : D s = some d) (hd' : D s' = some d') (he : d.ds[n]? = some e) (he' : d'.ds[n']? = some e')
    (t0 : 0 ≤ t ∧ t < 4) (t0' : 0 ≤ t' ∧ t' < 4) (q0 : 0 ≤ q ∧ q < 1048576) (q0' : 0 ≤ q' ∧ q' < 1048576) (h : ew s d.g n t q = ew s' d'.g n' t' q') : s = s' ∧ d = d' ∧ n = n' ∧ e = e' ∧ t = t' ∧ q = q' := by
  have o := I.ds _ _ hd; have o' := I.ds _ _ hd'
  obtain ⟨a, b, c, f, g⟩ := ew_inj o.1 o'.1 (o.lt he).1 (o'.lt he').1 t0 t0' q0 q0' h
  subst a
  rw [hd] at hd'; cases hd'
  subst c
  rw [he] at he'; cases he'
  exact ⟨rfl, rfl, rfl, rfl, f, g⟩
theorem mw_same {s' : Int} {d' : Dw} (I : MI D Lo A F M) (hd : D s = some d) (hd' : D s' = some d') (h : mw s d.g = mw s' d'.g) : s = s' ∧ d = d' := by
  obtain ⟨a, b⟩ := mw_inj (I.ds _ _ hd).1 (I.ds _ _ hd').1 h
  subst a
  rw [hd] at hd'; cases hd'
  exact ⟨rfl, rfl⟩
theorem Rel.put (I : MI D Lo A F M) (hS : (F t).q = q) (ht : 0 ≤ t ∧ t < 4) (hd : D s = some d) (he : d.ds[n]? = some e) (ha : A.at e.c = e.w * 4) (O : One A B e.c (ew s d.g n t q)) : Rel D F A B := by
  have hq := I.q0 t
  rw [hS] at hq
  refine ⟨fun s1 d1 h1 => ⟨fun h => by unfold Opn at h ⊢; rw [← O.base (I.ds _ _ h1).1]; exact h, fun _ => O.base (I.ds _ _ h1).1⟩, fun s1 d1 h1 _ c c0 c1 hc => ?_, fun s1 d1 n1 e1 t1 q1 h1 he1 _ _ _ hc => ?_, fun s1 d1 n1 e1 t1 q1 h1 he1 ht1 hq1 hc => ?_, fun s1 d1 n1 e1 h1 he1 hc => by
    have m := (I.ds _ _ h1).lt he1
    by_cases c : e1.c = e.c
    · rw [c, O.at_] at hc; exact absurd hc.symm mw_ew
    · rw [O.ne _ m.2.1 (by omega) c] at hc; exact .inl hc⟩
  · rw [O.ne c c0 (by omega) fun h => by subst h; rw [ha] at hc; exact mcas_not_val hc.symm]; exact hc
  · have m := (I.ds _ _ h1).lt he1
    rw [O.ne _ m.2.1 (by omega) fun h => by rw [h, ha] at hc; exact entry_not_val hc.symm]; exact .inl hc
  · have m := (I.ds _ _ h1).lt he1
    have wn : Won B s1 d1 → Won A s1 d1 := fun h => by unfold Won at h ⊢; rw [← O.base (I.ds _ _ h1).1]; exact h
    by_cases c : e1.c = e.c
    · exfalso
      rw [c, O.at_] at hc
      obtain ⟨a1, a2, a3, a4, a5, a6⟩ := ent_same I hd h1 he he1 ht ht1 hq ⟨hq1.1, by have := (I.q0 t1).2; omega⟩ hc
      subst a5
      omega
    · rw [O.ne _ m.2.1 (by omega) c] at hc; exact ⟨hc, wn⟩
theorem Rel.settle (I : MI D Lo A F M) (ht : 0 ≤ t ∧ t < 4) (hq : 0 ≤ q ∧ q < 1048576) (hd : D s = some d) (he : d.ds[n]? = some e) (ha : A.at e.c = ew s d.g n t q) (O : One A B e.c x) (hx : x = mw s d.g ∨ (∃ v, x = v * 4) ∧ ¬ Opn A s d) : Rel D F A B := by
  refine ⟨fun s1 d1 h1 => ⟨fun h => by unfold Opn at h ⊢; rw [← O.base (I.ds _ _ h1).1]; exact h, fun _ => O.base (I.ds _ _ h1).1⟩, fun s1 d1 h1 _ c c0 c1 hc => ?_, fun s1 d1 n1 e1 t1 q1 h1 he1 ht1 hq1 ho hc => ?_, fun s1 d1 n1 e1 t1 q1 h1 he1 ht1 hq1 hc => ?_, fun s1 d1 n1 e1 h1 he1 hc => by
    have m := (I.ds _ _ h1).lt he1
    by_cases c : e1.c = e.c
    · rw [c, O.at_] at hc
      rcases hx with hx | ⟨⟨v, hx⟩, _⟩
      · rw [hx] at hc
        obtain ⟨a1, a2⟩ := mw_same I hd h1 hc
        subst a1; subst a2
        have := sw_inj (I.ds _ _ hd).2.1 he1 he c
        subst this
        exact .inr ⟨t, q, ht, hq, by rw [c]; exact ha⟩
      · rw [hx] at hc; exact absurd hc.symm mcas_not_val
    · rw [O.ne _ m.2.1 (by omega) c] at hc; exact .inl hc⟩
  · rw [O.ne c c0 (by omega) fun h => by subst h; rw [ha] at hc; exact mw_ew hc.symm]; exact hc
  · have m := (I.ds _ _ h1).lt he1
    by_cases c : e1.c = e.c
    · right
      rw [c, ha] at hc
      obtain ⟨a1, a2, a3, a4, a5, a6⟩ := ent_same I hd h1 he he1 ht ht1 hq ⟨hq1.1, by have := (I.q0 t1).2; omega⟩ hc
      subst a1; subst a2
      rw [c, O.at_]
      rcases hx with hx | ⟨_, hx⟩
      · exact hx
      · unfold Opn at ho hx
        rw [O.base (I.ds _ _ h1).1] at ho
        exact absurd ho hx
    · rw [O.ne _ m.2.1 (by omega) c]; exact .inl hc
  · have m := (I.ds _ _ h1).lt he1
    have wn : Won B s1 d1 → Won A s1 d1 := fun h => by unfold Won at h ⊢; rw [← O.base (I.ds _ _ h1).1]; exact h
    by_cases c : e1.c = e.c
    · exfalso
      rw [c, O.at_] at hc
      rcases hx with hx | ⟨⟨v, hx⟩, _⟩
      · rw [hx] at hc; exact mw_ew hc
      · rw [hx] at hc; exact entry_not_val hc.symm
    · rw [O.ne _ m.2.1 (by omega) c] at hc; exact ⟨hc, wn⟩
theorem Rel.release (I : MI D Lo A F M) {v : Int} (hd : D s = some d) (he : d.ds[n]? = some e) (ha : A.at e.c = mw s d.g) (hn : ¬ Opn A s d) (O : One A B e.c (v * 4)) : Rel D F A B := by
  refine ⟨fun s1 d1 h1 => ⟨fun h => by unfold Opn at h ⊢; rw [← O.base (I.ds _ _ h1).1]; exact h, fun _ => O.base (I.ds _ _ h1).1⟩, fun s1 d1 h1 ho c c0 c1 hc => ?_, fun s1 d1 n1 e1 t1 q1 h1 he1 _ _ _ hc => ?_, fun s1 d1 n1 e1 t1 q1 h1 he1 ht1 hq1 hc => ?_, fun s1 d1 n1 e1 h1 he1 hc => by
    have m := (I.ds _ _ h1).lt he1
    by_cases c : e1.c = e.c
    · rw [c, O.at_] at hc; exact absurd hc.symm mcas_not_val
    · rw [O.ne _ m.2.1 (by omega) c] at hc; exact .inl hc⟩
  · rw [O.ne c c0 (by omega) fun h => ?_]
    · exact hc
    · subst h
      rw [ha] at hc
      obtain ⟨a1, a2⟩ := mw_same I hd h1 hc
      subst a1; subst a2
      unfold Opn at ho hn
      rw [O.base (I.ds _ _ h1).1] at ho
      exact hn ho
  · have m := (I.ds _ _ h1).lt he1
    rw [O.ne _ m.2.1 (by omega) fun h => by rw [h, ha] at hc; exact mw_ew hc]; exact .inl hc
  · have m := (I.ds _ _ h1).lt he1
    have wn : Won B s1 d1 → Won A s1 d1 := fun h => by unfold Won at h ⊢; rw [← O.base (I.ds _ _ h1).1]; exact h
    by_cases c : e1.c = e.c
    · exfalso
      rw [c, O.at_] at hc
      exact entry_not_val hc.symm
    · rw [O.ne _ m.2.1 (by omega) c] at hc; exact ⟨hc, wn⟩
/-- a state alone was turned -/
structure Dec (A B : Ar) (s g x : Int) : Prop where
  op : A.at (baseOf s) = stateW g 0
  at_ : B.at (baseOf s) = stateW g x
  ne : ∀ j, 0 ≤ j → j < 634 → j ≠ baseOf s → B.at j = A.at j
theorem Dec.of_cas {g : Int} (ok : A.ok) (l : Life s d.g) (h : A.at (baseOf s) = stateW g 0) : Dec A (A.cas (baseOf s) (stateW g 0) (stateW g x)) s g x := by
  have b := base_at l
  exact ⟨h, by rw [at_cas ok (by omega) b.2 (by omega) b.2, if_pos rfl, if_pos h], fun j j0 j1 jn => by rw [at_cas ok (by omega) b.2 j0 j1, if_neg (Ne.symm jn)]⟩
theorem base_ne {s s' : Int} (h : s ≠ s') : baseOf s ≠ baseOf s' := by unfold baseOf; omega
theorem Dec.other (O : Dec A B s d.g x) {s' : Int} {d' : Dw} (l : Life s' d'.g) (h : s' ≠ s) : B.at (baseOf s') = A.at (baseOf s') := by
  have b := base_at l
  exact O.ne _ (by omega) b.2 (base_ne h)
theorem Dec.cell (O : Dec A B s d.g x) (l : Life s d.g) (c0 : 0 ≤ c) (c1 : c < 16) : B.at c = A.at c := by
  have b := base_at l
  exact O.ne _ c0 (by omega) (by omega)
theorem Dec.dok (x0 : 0 ≤ x ∧ x < 3) (O : Dec A B s d.g x) (l : Life s d.g) {s' : Int} {d' : Dw} (hs : s' = s → d' = d) (o : DOk A s' d') : DOk B s' d' := by
  obtain ⟨l', m, st, hst, D⟩ := o
  have hl := sw_len m
  have lt : ∀ (i : Nat) d, d'.ds[i]? = some d → (i : Int) < 16 := fun i d e => by have := (List.getElem?_eq_some_iff.1 e).1; omega
  have := l'.s0; have := l'.s1
  by_cases c : s' = s
  · have e := hs c; subst e; subst c
    have ne : ∀ i : Int, 1 ≤ i → i < 50 → B.at (baseOf s' + i) = A.at (baseOf s' + i) := fun i i0 i1 => O.ne _ (by unfold baseOf; omega) (by unfold baseOf; omega) (by omega)
    refine ⟨l', m, x, x0, O.at_, by rw [ne 1 (by omega) (by omega)]; exact D.cnt, fun i d e => ?_, fun i d e => ?_, fun i d e => ?_⟩
    · have := lt i d e; rw [ne _ (by omega) (by omega)]; exact D.c i d e
    · have := lt i d e; rw [ne _ (by omega) (by omega)]; exact D.w i d e
    · have := lt i d e; rw [ne _ (by omega) (by omega)]; exact D.n i d e
  · refine ⟨l', m, st, hst, D.keep m fun j j0 j1 => O.ne j (by unfold baseOf at j0; omega) (by unfold baseOf at j1; omega) ?_⟩
    unfold baseOf at j0 j1 ⊢; omega
theorem Rel.decide (I : MI D Lo A F M) (hd : D s = some d) (O : Dec A B s d.g x) (x0 : x = 1 ∨ x = 2) (hw : x = 1 → Held A s d d.ds.length) : Rel D F A B := by
  have l := (I.ds _ _ hd).1
  have nop : ∀ {d1}, D s = some d1 → ¬ Opn B s d1 := fun {d1} h1 h => by
    rw [hd] at h1; cases h1
    unfold Opn at h
    rw [O.at_, stateW_inj] at h
    omega
  refine ⟨fun s1 d1 h1 => ?_, fun s1 d1 h1 ho c c0 c1 hc => by rw [O.cell l c0 c1]; exact hc, fun s1 d1 n1 e1 t1 q1 h1 he1 _ _ _ hc => ?_, fun s1 d1 n1 e1 t1 q1 h1 he1 ht1 hq1 hc => ?_, fun s1 d1 n1 e1 h1 he1 hc => by
    have m := (I.ds _ _ h1).lt he1
    rw [O.cell l m.2.1 m.2.2.1] at hc; exact .inl hc⟩
  · by_cases c : s1 = s
    · subst c
      refine ⟨fun h => absurd h (nop h1), fun h => ?_⟩
      rw [hd] at h1; cases h1
      exact absurd O.op h
    · have := O.other (I.ds _ _ h1).1 c
      exact ⟨fun h => by unfold Opn at h ⊢; rw [← this]; exact h, fun _ => this⟩
  · have m := (I.ds _ _ h1).lt he1
    rw [O.cell l m.2.1 m.2.2.1]; exact .inl hc
  · have m := (I.ds _ _ h1).lt he1
    rw [O.cell l m.2.1 m.2.2.1] at hc
    refine ⟨hc, fun h => ?_⟩
    by_cases c : s1 = s
    · subst c
      rw [hd] at h1; cases h1
      exfalso
      unfold Won at h
      rw [O.at_, stateW_inj] at h
      have hh := hw h n1 e1 (List.getElem?_eq_some_iff.1 he1).1 he1
      rw [hh] at hc
      exact mw_ew hc
    · unfold Won at h ⊢; rw [← O.other (I.ds _ _ h1).1 c]; exact h
theorem Resp.set {fs' : List Fr} (h : Resp F s n) (k : (∃ f, f ∈ (F t).fs ∧ RF s n f) → ∃ f, f ∈ fs' ∧ RF s n f) : Resp (setF F t ⟨q', fs'⟩) s n := by
  obtain ⟨u, f, hf, hr⟩ := h
  by_cases c : u = t
  · subst c
    obtain ⟨f', a, b⟩ := k ⟨f, hf, hr⟩
    exact ⟨u, f', by rw [setF_at]; exact a, b⟩
  · exact ⟨u, f, by rw [setF_ne c]; exact hf, hr⟩
end
end Go.Proofs.Ytbiappodepnbmaa
namespace Go.Proofs.Ytbiappodepnbmaa
open Go GW Go.Proofs
set_option linter.unusedVariables false
set_option linter.unusedSimpArgs false
section
variable {D : Int → Option Dw} {Lo : Int → Prop} {A B : Ar} {F : Int → Stk} {M : Int → Int} {t q q' s : Int} {d : Dw} {n : Nat} {e : Sw} {w w' : Wh} {r : List Fr}
/-- what a law says of those that lose -/
def LoB (D : Int → Option Dw) (Lo : Int → Prop) (A : Ar) (M : Int → Int) : Prop := ∀ (s : Int) (d : Dw) (n : Nat) (e : Sw), D s = some d → d.ds[n]? = some e → Opn A s d → M e.c ≠ e.w * 4 → Lo s
theorem Held.succ (h : Held A s d n) (he : d.ds[n]? = some e) (ha : A.at e.c = mw s d.g) : Held A s d (n + 1) := fun j e' hj he' => by
  by_cases c : j = n
  · subst c; rw [he] at he'; cases he'; exact ha
  · exact h j e' (by omega) he'
/-- an entry is had: on to the next -/
theorem Ph.next {L : Prop} (ix : Ix d w n e) (h : Opn A w.s d → Held A w.s d (n + 1)) : Ph D L A t q d (w.next 3 8) := by
  have hn := (List.getElem?_eq_some_iff.1 ix.e).1
  have hi := ix.i; have hk := ix.k
  unfold Wh.next
  by_cases c : w.k ≤ w.i + 1
  · simp only [Ph, if_pos c]
    intro ho j e' hj he'
    exact h ho j e' (by omega) he'
  · simp only [Ph, if_neg c]
    exact ⟨n + 1, d.ds[n + 1]'(by omega), ⟨by simp only; omega, hk, List.getElem?_eq_getElem _⟩, h⟩
theorem next_pc {more stop : Nat} : (w.next more stop).pc = more ∨ (w.next more stop).pc = stop := by
  unfold Wh.next; simp only; split
  · exact .inr rfl
  · exact .inl rfl
theorem entry_I64 (l : Life s d.g) (hn : n < 16) (t0 : 0 ≤ t ∧ t < 4) (q0 : 0 ≤ q ∧ q < 1048576) : I64 (ew s d.g n t q) := entry_range (e := (n : Int)) l (by omega) (by omega) t0.1 t0.2 q0.1 q0.2
theorem Nx.mono (es : w'.s = w.s) (eg : w'.g = w.g) (h : Nx A w r) : Nx A w' r := by
  cases r with
  | nil => trivial
  | cons f r =>
    cases f with
    | ent f => trivial
    | who v => simp only [Nx, es, eg] at h ⊢; exact h
theorem Up.mono (ec : w'.cell = w.cell) (h : Up w r) : Up w' r := by
  cases r with
  | nil => trivial
  | cons f r =>
    cases f with
    | ent f => trivial
    | who v => simp only [Up, ec] at h ⊢; exact h
theorem MI.pc5 (I : MI D Lo A F M) (hL : LoB D Lo A M) (hS : F t = ⟨q, .who w :: r⟩) (hq : q + 1 < 1048576) (hp : w.pc = 5) : Did D Lo A F M t r (w.step t q A) := by
  obtain ⟨d, st, hd, hg, hst, o, ph, dok⟩ := I.on hS
  simp only [Ph, hp] at ph
  obtain ⟨n, e, ix, h1, h2, h3⟩ := ph
  have fs : (F t).fs = .who w :: r := by rw [hS]
  have fq : (F t).q = q := by rw [hS]
  have ht := I.t0 t (by rw [fs]; simp)
  have q0 : 0 ≤ q := by have := (I.q0 t).1; rw [fq] at this; exact this
  have m := dok.lt ix.e
  have hpe : (Form.entry w.s w.g w.i t q).number = ew w.s d.g n t q := by rw [hg, ix.i]; rfl
  have pr := entry_I64 (n := n) dok.1 m.1 ht ⟨q0, by omega⟩
  have hq1 : (q + 1) % 1048576 = q + 1 := by omega
  have okB := I.ok.cas w.cell w.was pr
  have hqq : q ≤ q + 1 ∧ q + 1 ≤ q + 1 ∧ q + 1 < 1048576 := ⟨by omega, by omega, hq⟩
  have ch := I.ch t
  rw [fs] at ch
  have hfr : ∀ f ∈ r, FrOk D Lo A F t q f := fun f m => by have := I.fr t f (by rw [fs]; simp [m]); rw [fq] at this; exact this
  rw [Wh.step5 hp]
  unfold Wh.swapIn
  simp only [hpe, hq1]
  by_cases c : A.at w.cell = w.was
  · rw [if_pos c]
    have O : One A (A.cas w.cell w.was (ew w.s d.g n t q)) e.c (ew w.s d.g n t q) := by
      have := One.of_cas (x := ew w.s d.g n t q) I.ok (by rw [h2]; exact m.2.1) (by rw [h2]; exact m.2.2.1) c
      rw [h2] at this ⊢; exact this
    generalize A.cas w.cell w.was (ew w.s d.g n t q) = B at okB O
    rw [h2, h3] at c
    have R := Rel.put I fq ht hd ix.e c O
    generalize hw : ({ w with put := ew w.s d.g n t q, pc := 6 } : Wh) = w'
    have ws : w'.s = w.s := by rw [← hw]
    have wg : w'.g = w.g := by rw [← hw]
    have wc : w'.cell = w.cell := by rw [← hw]
    have wp : w'.pc = 6 := by rw [← hw]
    have wi : w'.i = w.i := by rw [← hw]
    have wk' : w'.k = w.k := by rw [← hw]
    have wwas : w'.was = w.was := by rw [← hw]
    have wput : w'.put = ew w.s d.g n t q := by rw [← hw]
    have hF : ∀ u, (F u).q ≤ (setF F t ⟨q + 1, .who w' :: r⟩ u).q := fun u => by
      by_cases c : u = t
      · subst c; rw [setF_at, fq]; show q ≤ q + 1; omega
      · rw [setF_ne c]; exact Int.le_refl _
    refine ⟨rfl, (fun f h => by cases h), (fun h => by cases h), by rw [fq]; exact ⟨by simp only; omega, Int.le_refl _⟩, R, M, ⟨R.st, .inl ⟨rfl, fun s d hd => by unfold Won; rw [O.base (I.ds _ _ hd).1]⟩⟩, ?_⟩
    show MI D Lo B (setF F t ⟨q + 1, .who w' :: r⟩) M
    refine I.go okB (fun s d hd => O.dok (I.ds _ _ hd)) R ⟨by rw [fq]; omega, hq⟩ ht (fun f hf => ?_) (R.chain I (fun v hv => ?_) (fun f hf => hfr f hf) ⟨Nx.mono ws wg ch.1, fun h => by omega, ch.2.2⟩) (fun s1 d1 n1 e1 hd1 he1 hx => ?_) (fun v r' hv hpc => ?_) (fun c' c0 c1 => ?_) (fun s1 d1 hd1 hl => I.lost s1 d1 hd1 (by rw [← O.base (I.ds _ _ hd1).1]; exact hl))
    · rcases List.mem_cons.1 hf with rfl | hf
      · refine ⟨d, by rw [ws]; exact hd, by rw [wg]; exact hg, ?_⟩
        simp only [Ph, wp]
        refine ⟨n, e, ⟨by rw [wi]; exact ix.i, by rw [wk']; exact ix.k, ix.e⟩, by rw [ws]; exact R.held dok hd h1, by rw [wc]; exact h2, by rw [wwas]; exact h3, fun _ => .inl ?_, q, by rw [wput, ws], q0, by omega⟩
        rw [wc, wput, h2]; exact O.at_
      · exact R.fr I hF ht (by rw [fq]; exact Int.le_refl _) (by omega) (hfr f hf)
    · simp at hv; subst hv; exact ⟨d, by rw [ws]; exact hd, by rw [wg]; exact hg⟩
    · obtain ⟨f, hf, hx⟩ := hx
      rw [fs] at hf
      left
      rcases List.mem_cons.1 hf with rfl | hf
      · exact ⟨.who w', by simp, by rw [ws]; exact hx.1, .inl (by omega)⟩
      · exact ⟨f, by simp [hf], hx⟩
    · rw [fs] at hv; cases hv; omega
    · by_cases cc : c' = e.c
      · right
        subst cc
        have hc := I.cells e.c c0 c1
        have hm : M e.c = e.w * 4 := by
          cases hc with
          | val h m => rw [m]; exact c
          | mc _ _ _ ha => rw [ha] at c; exact absurd c mcas_not_val
          | en _ _ _ ha => rw [ha] at c; exact absurd c entry_not_val
        exact .en hd ix.e rfl O.at_ ht ⟨q0, by rw [setF_at]; show q < q + 1; omega⟩ hm (w := w') (r := r) (by rw [setF_at]) ⟨ws, by rw [wi]; exact ix.i, by rw [wc]; exact h2, by rw [wwas]; exact h3, by rw [wput, O.at_], .inl wp⟩
      · exact .inl ⟨O.ne c' c0 (by omega) cc, rfl, fun s d hd _ => by unfold Won; rw [O.base (I.ds _ _ hd).1]⟩
  · rw [if_neg c]
    have same := cas_same (x := ew w.s d.g n t q) I.ok (by rw [h2]; exact m.2.1) (by rw [h2]; omega) c
    generalize A.cas w.cell w.was (ew w.s d.g n t q) = B at okB same
    rw [h2, h3] at c
    have hc := I.cells e.c m.2.1 m.2.2.1
    cases hc with
    | @val v h mm =>
      have vr := val_read h
      rw [show read (A.at w.cell) = some (.val v) by rw [h2]; exact vr.1]
      refine I.did hS okB same hqq rfl rfl (fun d' hd' _ _ => ?_) (fun h => by cases h) (fun _ _ _ _ _ h => .inl (RF.same h rfl (.inl (Nat.le_of_ble_eq_true rfl)))) (fun h => by omega)
      rw [hd] at hd'; cases hd'
      show Opn A w.s d → Lo w.s
      exact fun ho => hL w.s d n e hd ix.e ho (by rw [mm]; exact c)
    | @mc s1 d1 n1 e1 hd1 he1 hc1 ha1 m1 m0 hh rr =>
      rw [show read (A.at w.cell) = some (.mcas s1 d1.g) by rw [h2, ha1]; exact mw_read (I.ds _ _ hd1).1]
      by_cases cs : s1 = w.s ∧ d1.g = w.g
      · simp only [if_pos cs]
        obtain ⟨cs1, cs2⟩ := cs
        subst cs1
        have hdd : d1 = d := by rw [hd] at hd1; exact (Option.some.inj hd1).symm
        subst hdd
        generalize hw : ({ w with put := ew w.s d1.g n t q } : Wh) = w'
        have ix' : Ix d1 w' n e := by rw [← hw]; exact ⟨ix.i, ix.k, ix.e⟩
        have ws : w'.s = w.s := by rw [← hw]
        have wg : w'.g = w.g := by rw [← hw]
        refine I.did hS okB same hqq (show w'.s = w.s from ws) (show w'.g = w.g from wg) (fun d' hd' _ _ => ?_) (fun h => ?_) (fun _ _ _ _ _ h => .inl (RF.same h (show w'.s = w.s from ws) (.inl ?_))) (fun h => by omega)
        · rw [hd] at hd'; cases hd'
          exact Ph.next ix' (by rw [ws]; exact fun ho => (h1 ho).succ ix.e ha1)
        · rcases next_pc (w := w') (more := 3) (stop := 8) with h' | h' <;> rw [h'] at h <;> cases h
        · rcases next_pc (w := w') (more := 3) (stop := 8) with h' | h' <;> rw [h'] <;> decide
      · simp only [if_neg cs]
        refine I.did hS okB same hqq rfl rfl (fun d' hd' _ _ => ?_) (fun _ ho => ?_) (fun _ _ _ _ _ h => .inl (RF.same h rfl (.inr (.inl rfl)))) (fun h => by omega)
        · rw [hd] at hd'; cases hd'
          exact ⟨n, e, ⟨ix.i, ix.k, ix.e⟩, h1, h2, h3, s1, d1, hd1, (fun h => by subst h; rw [hd] at hd1; cases hd1; exact cs ⟨rfl, hg.symm⟩), (by show A.at w.cell = _; rw [h2]; exact ha1), fun _ => rfl⟩
        · have hnx := ch.1
          have hod := ch.2.2
          cases r with
          | nil => trivial
          | cons f r =>
            cases f with
            | ent f => trivial
            | who v =>
              show v.cell < w.cell
              have hv : A.at v.cell = mw w.s w.g := hnx.2 ho
              have vc := (hfr (.who v) (by simp)).cell5 I hod.1
              have hop : Opn A w.s d := by unfold Opn; rw [← hg]; exact ho
              cases I.cells v.cell vc.1 vc.2 with
              | val h mm => have := (val_read h).2.1; rw [hv] at this; exact absurd this mcas_not_val
              | en _ _ _ ha => rw [hv] at ha; exact absurd ha mw_ew
              | @mc s2 d2 n2 e2 hd2 he2 hc2 ha2 _ _ hh2 _ =>
                rw [hv, hg] at ha2
                obtain ⟨a1, a2⟩ := mw_same I hd hd2 ha2
                subst a1; subst a2
                have hne : n2 ≠ n := fun h => by
                  subst h
                  rw [ix.e] at he2; cases he2
                  rw [← hc2, ha1] at hv
                  have := mw_inj (d := d1) (d' := d) (I.ds _ _ hd1).1 dok.1 (by rw [← hg]; exact hv)
                  exact cs ⟨this.1, by rw [this.2, hg]⟩
                have hlt : n2 < n := by
                  rcases Nat.lt_trichotomy n2 n with h | h | h
                  · exact h
                  · exact absurd h hne
                  · have := hh2 hop n e h ix.e
                    rw [ha1] at this
                    have := mw_inj (d := d1) (d' := d) (I.ds _ _ hd1).1 dok.1 this
                    exact absurd ⟨this.1, by rw [this.2, hg]⟩ cs
                have mm := dok.2.1
                unfold swMay at mm; simp only [Bool.and_eq_true, decide_eq_true_eq] at mm
                have := swOk_mono mm.2 n2 n e2 e he2 ix.e hlt
                rw [h2, ← hc2]; exact this
    | @en s1 d1 n1 e1 t1 q1 hd1 he1 hc1 ha1 t10 q10 mm w1 r1 ho1 own1 =>
      have l1 := (I.ds _ _ hd1)
      have m1 := l1.lt he1
      have qq := (I.q0 t1).2
      have hr : read (A.at w.cell) = some (.entry s1 d1.g n1 t1 q1) := by rw [h2, ha1]; exact read_number (ew_range l1.1 m1.1 t10 ⟨q10.1, by omega⟩)
      rw [hr]
      generalize hw : ({ w with put := ew w.s d.g n t q } : Wh) = w'
      have ws : w'.s = w.s := by rw [← hw]
      have wg : w'.g = w.g := by rw [← hw]
      have wc : w'.cell = w.cell := by rw [← hw]
      have wp : w'.pc = 5 := by rw [← hw]; exact hp
      have wi : w'.i = w.i := by rw [← hw]
      have wk' : w'.k = w.k := by rw [← hw]
      have wwas : w'.was = w.was := by rw [← hw]
      have ord := Ord.len17 I hfr ch.2.2
      refine ⟨rfl, fun f hf => by omega, (fun h => by cases h), by rw [fq]; exact ⟨by simp only; omega, Int.le_refl _⟩, Rel.same I same, M, Turn.same I same, ?_⟩
      show MI D Lo B (setF F t ⟨q + 1, .ent (.new s1 d1.g n1 t1 q1) :: .who w' :: r⟩) M
      refine I.quiet okB same ⟨by rw [fq]; omega, hq⟩ ht (fun f hf => ?_) ⟨wp, Nx.mono ws wg ch.1, ch.2.2⟩ (fun s2 d2 n2 e2 hd2 he2 hx => ?_) (fun v r' hv hpc => ?_)
      · rw [fq]
        rcases List.mem_cons.1 hf with rfl | hf
        · exact ⟨d1, e1, n1, hd1, rfl, rfl, he1, q10, t10, trivial⟩
        · rcases List.mem_cons.1 hf with rfl | hf
          · refine ⟨d, by rw [ws]; exact hd, by rw [wg]; exact hg, ?_⟩
            simp only [Ph, wp]
            exact ⟨n, e, ⟨by rw [wi]; exact ix.i, by rw [wk']; exact ix.k, ix.e⟩, by rw [ws]; exact h1, by rw [wc]; exact h2, by rw [wwas]; exact h3⟩
          · exact hfr f hf
      · obtain ⟨f, hf, hx⟩ := hx
        rw [fs] at hf
        left
        rcases List.mem_cons.1 hf with rfl | hf
        · exact ⟨.who w', by simp, by rw [ws]; exact hx.1, .inl (by omega)⟩
        · exact ⟨f, by simp [hf], hx⟩
      · rw [fs] at hv; cases hv; omega
end
end Go.Proofs.Ytbiappodepnbmaa
namespace Go.Proofs.Ytbiappodepnbmaa
open Go GW Go.Proofs
set_option linter.unusedVariables false
set_option linter.unusedSimpArgs false
section
variable {D : Int → Option Dw} {Lo : Int → Prop} {A B : Ar} {F : Int → Stk} {M : Int → Int} {t q q' s : Int} {d : Dw} {n : Nat} {e : Sw} {w w' : Wh} {r : List Fr} {c x : Int}
theorem val64 {v : Int} (h0 : 0 ≤ v) (h1 : v < 1099511627776) : I64 (v * 4) := by constructor <;> omega
theorem mw_I64 (l : Life s d.g) : I64 (mw s d.g) := by
  have := l.s0; have := l.s1; have := l.g0; have := l.g1
  unfold mw; simp only [Form.number]; constructor <;> omega
/-- what an entry's cell holds: its memory is what was -/
theorem MI.was (I : MI D Lo A F M) (ht : 0 ≤ t ∧ t < 4) (hq : 0 ≤ q ∧ q < 1048576) (hd : D s = some d) (he : d.ds[n]? = some e) (ha : A.at e.c = ew s d.g n t q) :
    M e.c = e.w * 4 ∧ Resp F s n ∧ (Opn A s d → Held A s d n) := by
  have m := (I.ds _ _ hd).lt he
  cases I.cells e.c m.2.1 m.2.2.1 with
  | val h mm => have := (val_read h).2.1; rw [ha] at this; exact absurd this entry_not_val
  | mc _ _ _ ha' => rw [ha] at ha'; exact absurd ha'.symm mw_ew
  | @en s1 d1 n1 e1 t1 q1 hd1 he1 hc1 ha1 t10 q10 mm w r ho o =>
    rw [ha] at ha1
    obtain ⟨a1, a2, a3, a4, a5, a6⟩ := ent_same I hd hd1 he he1 ht t10 hq ⟨q10.1, by have := (I.q0 t1).2; omega⟩ ha1
    subst a1; subst a2; subst a3; subst a4; subst a5; subst a6
    refine ⟨mm, ⟨t, .who w, by rw [ho]; simp, o.s, ?_⟩, fun hop => ?_⟩
    · rcases o.pc with h | h <;> exact .inl (by omega)
    · obtain ⟨d', b1, b2, b3⟩ := I.fr t (.who w) (by rw [ho]; simp)
      have os := o.s
      subst os
      rw [hd] at b1; cases b1
      have oi := o.i
      unfold Ph at b3
      rcases o.pc with h | h
      · simp only [h] at b3
        obtain ⟨n', e', ix, hh, _⟩ := b3
        have := ix.i
        have : n' = n := by omega
        subst this
        exact hh hop
      · simp only [h] at b3
        obtain ⟨n', e', ix, hh, _⟩ := b3
        have := ix.i
        have : n' = n := by omega
        subst this
        exact hh hop
theorem MI.pc7 (I : MI D Lo A F M) (hS : F t = ⟨q, .who w :: r⟩) (hq : q < 1048576) (hp : w.pc = 7) : Did D Lo A F M t r (w.step t q A) := by
  obtain ⟨d, st, hd, hg, hst, o, ph, dok⟩ := I.on hS
  simp only [Ph, hp] at ph
  obtain ⟨n, e, ix, h1, h2, h3, ⟨h4, q1, h5, q10, q11⟩, h6, h7⟩ := ph
  have fs : (F t).fs = .who w :: r := by rw [hS]
  have fq : (F t).q = q := by rw [hS]
  have ht := I.t0 t (by rw [fs]; simp)
  have m := dok.lt ix.e
  have hqq : q ≤ q ∧ q ≤ q + 1 ∧ q < 1048576 := ⟨by omega, by omega, hq⟩
  have ch := I.ch t
  rw [fs] at ch
  have hfr : ∀ f ∈ r, FrOk D Lo A F t q f := fun f m => by have := I.fr t f (by rw [fs]; simp [m]); rw [fq] at this; exact this
  have hs : w.step t q A = ⟨.who (w.next 3 8), none, false, true, A.cas w.cell w.put (if w.opn then w.mine else w.was), q⟩ := by unfold Wh.step; simp only [hp]
  have hmine : w.mine = mw w.s d.g := by unfold Wh.mine; rw [hg]; rfl
  rw [hs, hmine, h3]
  have hx : I64 (if w.opn = true then mw w.s d.g else e.w * 4) := by
    split
    · exact mw_I64 dok.1
    · exact val64 m.2.2.2.1 m.2.2.2.2.1
  have okB := I.ok.cas w.cell w.put hx
  have ns : (w.next 3 8).s = w.s ∧ (w.next 3 8).g = w.g := ⟨rfl, rfl⟩
  by_cases c : A.at w.cell = w.put
  · rw [h2] at c okB ⊢
    have O := One.of_cas (x := if w.opn = true then mw w.s d.g else e.w * 4) I.ok m.2.1 m.2.2.1 c
    generalize A.cas e.c w.put (if w.opn = true then mw w.s d.g else e.w * 4) = B at okB O
    rw [h5] at c
    have hx' : (if w.opn = true then mw w.s d.g else e.w * 4) = mw w.s d.g ∨ (∃ v, (if w.opn = true then mw w.s d.g else e.w * 4) = v * 4) ∧ ¬ Opn A w.s d := by
      cases ho : w.opn with
      | true => left; rfl
      | false => exact .inr ⟨⟨e.w, rfl⟩, h7 ho⟩
    have R := Rel.settle I ht ⟨q10, by omega⟩ hd ix.e c O hx'
    obtain ⟨hM, hRs, hHd⟩ := I.was ht ⟨q10, by omega⟩ hd ix.e c
    refine ⟨rfl, (fun f h => by cases h), (fun h => by cases h), by rw [fq]; exact ⟨Int.le_refl _, by simp only; omega⟩, R, M, ⟨R.st, .inl ⟨rfl, fun s d hd => by unfold Won; rw [O.base (I.ds _ _ hd).1]⟩⟩, ?_⟩
    show MI D Lo B (setF F t ⟨q, .who (w.next 3 8) :: r⟩) M
    have hF : ∀ u, (F u).q ≤ (setF F t ⟨q, .who (w.next 3 8) :: r⟩ u).q := fun u => by
      by_cases c : u = t
      · subst c; rw [setF_at, fq]; exact Int.le_refl _
      · rw [setF_ne c]; exact Int.le_refl _
    have np : (w.next 3 8).pc ≤ 10 := by rcases next_pc (w := w) (more := 3) (stop := 8) with h' | h' <;> rw [h'] <;> decide
    have np14 : (w.next 3 8).pc ≠ 14 := by rcases next_pc (w := w) (more := 3) (stop := 8) with h' | h' <;> rw [h'] <;> decide
    have hRR : ∀ s1 n1, (∃ f, f ∈ (F t).fs ∧ RF s1 n1 f) → ∃ f, f ∈ (.who (w.next 3 8) :: r) ∧ RF s1 n1 f := fun s1 n1 hx => by
      obtain ⟨f, hf, hx⟩ := hx
      rw [fs] at hf
      rcases List.mem_cons.1 hf with rfl | hf
      · exact ⟨.who (w.next 3 8), by simp, hx.1, .inl np⟩
      · exact ⟨f, by simp [hf], hx⟩
    refine I.go okB (fun s d hd => O.dok (I.ds _ _ hd)) R ⟨by rw [fq]; exact Int.le_refl _, hq⟩ ht (fun f hf => ?_) (R.chain I (fun v hv => ?_) (fun f hf => hfr f hf) ⟨Nx.mono rfl rfl ch.1, fun h => absurd h np14, ch.2.2⟩) (fun s1 d1 n1 e1 hd1 he1 hx => .inl (hRR s1 n1 hx)) (fun v r' hv hpc => ?_) (fun c' c0 c1 => ?_) (fun s1 d1 hd1 hl => I.lost s1 d1 hd1 (by rw [← O.base (I.ds _ _ hd1).1]; exact hl))
    · rcases List.mem_cons.1 hf with rfl | hf
      · refine ⟨d, hd, hg, Ph.next ix fun ho => ?_⟩
        have hoA := (R.st _ _ hd).1 ho
        refine (R.held dok hd h1 ho).succ ix.e ?_
        rw [O.at_]
        cases hw : w.opn with
        | true => rfl
        | false => exact absurd hoA (h7 hw)
      · exact R.fr I hF ht (by rw [fq]; exact Int.le_refl _) (Int.le_refl _) (hfr f hf)
    · simp at hv; subst hv; exact ⟨d, hd, hg⟩
    · rw [fs] at hv; cases hv
      right
      rw [h2, O.at_, h5]
      split
      · exact mw_ew
      · exact fun h => entry_not_val h.symm
    · by_cases cc : c' = e.c
      · right
        subst cc
        cases hw : w.opn with
        | true =>
          refine .mc hd ix.e rfl (by rw [O.at_, hw]; rfl) (fun hwn => ?_) (fun _ => hM) (R.held dok hd hHd) (fun _ => hRs.set (hRR _ _))
          exfalso
          have : Won A w.s d := by unfold Won at hwn ⊢; rw [← O.base dok.1]; exact hwn
          exact h6 hw (by rw [h2, c, h5]) this
        | false =>
          have hb : B.at e.c = e.w * 4 := by rw [O.at_, hw]; rfl
          exact .val (v := e.w) (by rw [hb]; exact plainOf_val m.2.2.2.1 m.2.2.2.2.1) (by rw [hM, hb])
      · exact .inl ⟨O.ne c' c0 (by omega) cc, rfl, fun s d hd _ => by unfold Won; rw [O.base (I.ds _ _ hd).1]⟩
  · have same := cas_same (x := if w.opn = true then mw w.s d.g else e.w * 4) I.ok (by rw [h2]; exact m.2.1) (by rw [h2]; omega) c
    refine I.did hS okB same hqq rfl rfl (fun d' hd' _ _ => ?_) (fun h => ?_) (fun _ _ _ _ _ h => .inl (RF.same h rfl (.inl ?_))) (fun h => .inr c)
    · rw [hd] at hd'; cases hd'
      refine Ph.next ix fun ho => (h1 ho).succ ix.e ?_
      rcases h4 ho with h | h
      · exact absurd h c
      · rw [← h2]; exact h
    · rcases next_pc (w := w) (more := 3) (stop := 8) with h' | h' <;> rw [h'] at h <;> cases h
    · rcases next_pc (w := w) (more := 3) (stop := 8) with h' | h' <;> rw [h'] <;> decide
theorem updM_in {ds : List Sw} (hm : swMay ds = true) (he : ds[n]? = some e) : updM ds M e.c = e.n * 4 := by
  unfold updM
  cases h : ds.find? (fun x => decide (x.c = e.c)) with
  | none =>
    have := List.find?_eq_none.1 h e (List.mem_of_getElem? he)
    simp at this
  | some y =>
    have hc := List.find?_some h
    simp only [decide_eq_true_eq] at hc
    obtain ⟨i, hi, hy⟩ := List.mem_iff_getElem.1 (List.mem_of_find?_eq_some h)
    have hy' : ds[i]? = some y := by rw [List.getElem?_eq_getElem hi, hy]
    have := sw_inj hm hy' he hc
    subst this
    rw [he] at hy'; cases hy'
    rfl
theorem updM_out {ds : List Sw} (h : ∀ (i : Nat) y, ds[i]? = some y → y.c ≠ c) : updM ds M c = M c := by
  unfold updM
  cases hf : ds.find? (fun x => decide (x.c = c)) with
  | none => rfl
  | some y =>
    have hc := List.find?_some hf
    simp only [decide_eq_true_eq] at hc
    obtain ⟨i, hi, hy⟩ := List.mem_iff_getElem.1 (List.mem_of_find?_eq_some hf)
    exact absurd hc (h i y (by rw [List.getElem?_eq_getElem hi, hy]))
theorem MI.pc89 (I : MI D Lo A F M) (hS : F t = ⟨q, .who w :: r⟩) (hq : q < 1048576) (hp : w.pc = 8 ∨ w.pc = 9) : Did D Lo A F M t r (w.step t q A) := by
  obtain ⟨d, st, hd, hg, hst, o, ph, dok⟩ := I.on hS
  have fs : (F t).fs = .who w :: r := by rw [hS]
  have fq : (F t).q = q := by rw [hS]
  have ht := I.t0 t (by rw [fs]; simp)
  have hqq : q ≤ q ∧ q ≤ q + 1 ∧ q < 1048576 := ⟨by omega, by omega, hq⟩
  have ch := I.ch t
  rw [fs] at ch
  have hfr : ∀ f ∈ r, FrOk D Lo A F t q f := fun f m => by have := I.fr t f (by rw [fs]; simp [m]); rw [fq] at this; exact this
  have bs := base_at dok.1
  have hz : ∃ z : Int, (z = 1 ∨ z = 2) ∧ (z = 1 ↔ w.pc = 8) ∧ w.step t q A = ⟨.who { w with pc := 1 }, none, false, true, A.cas (baseOf w.s) (stateW w.g 0) (stateW w.g z), q⟩ := by
    rcases hp with hp | hp
    · exact ⟨1, .inl rfl, ⟨fun _ => hp, fun _ => rfl⟩, by unfold Wh.step; simp only [hp]⟩
    · exact ⟨2, .inr rfl, ⟨fun h => by omega, fun h => by omega⟩, by unfold Wh.step; simp only [hp]⟩
  obtain ⟨z, hz, hz8, hs⟩ := hz
  rw [hs]
  have okB := I.ok.cas (baseOf w.s) (stateW w.g 0) (stateW_range (st := z) o.life.g0 o.life.g1 (by omega) (by omega))
  by_cases c : A.at (baseOf w.s) = stateW w.g 0
  · have hop : Opn A w.s d := by unfold Opn; rw [← hg]; exact c
    have O : Dec A (A.cas (baseOf w.s) (stateW w.g 0) (stateW w.g z)) w.s d.g z := by
      rw [hg] at c ⊢; exact Dec.of_cas I.ok dok.1 c
    generalize A.cas (baseOf w.s) (stateW w.g 0) (stateW w.g z) = B at okB O
    have hheld : z = 1 → Held A w.s d d.ds.length := fun h => by
      have := hz8.1 h
      simp only [Ph, this] at ph
      exact ph hop
    have R := Rel.decide I hd O hz hheld
    have dB : ∀ s1 d1, D s1 = some d1 → DOk B s1 d1 := fun s1 d1 h1 => O.dok (by omega) dok.1 (fun h => by subst h; rw [hd] at h1; exact (Option.some.inj h1).symm) (I.ds _ _ h1)
    generalize hw : ({ w with pc := 1 } : Wh) = w'
    have ws : w'.s = w.s := by rw [← hw]
    have wg : w'.g = w.g := by rw [← hw]
    have wp : w'.pc = 1 := by rw [← hw]
    have wB : z = 1 ↔ Won B w.s d := by unfold Won; rw [O.at_, stateW_inj]
    have nA : ¬ Won A w.s d := by unfold Won; unfold Opn at hop; rw [hop, stateW_inj]; decide
    have hRR : ∀ s1 n1, (∃ f, f ∈ (F t).fs ∧ RF s1 n1 f) → ∃ f, f ∈ (.who w' :: r) ∧ RF s1 n1 f := fun s1 n1 hx => by
      obtain ⟨f, hf, hx⟩ := hx
      rw [fs] at hf
      rcases List.mem_cons.1 hf with rfl | hf
      · exact ⟨.who w', by simp, by rw [ws]; exact hx.1, .inl (by omega)⟩
      · exact ⟨f, by simp [hf], hx⟩
    have hF : ∀ u, (F u).q ≤ (setF F t ⟨q, .who w' :: r⟩ u).q := fun u => by
      by_cases c : u = t
      · subst c; rw [setF_at, fq]; exact Int.le_refl _
      · rw [setF_ne c]; exact Int.le_refl _
    have lost : ∀ s1 d1, D s1 = some d1 → B.at (baseOf s1) = stateW d1.g 2 → Lo s1 := fun s1 d1 h1 hl => by
      by_cases cs : s1 = w.s
      · subst cs
        rw [hd] at h1; cases h1
        rw [O.at_, stateW_inj] at hl
        have h9 : w.pc = 9 := by rcases hp with h | h; · have := hz8.2 h; omega
                                 · exact h
        simp only [Ph, h9] at ph
        exact ph hop
      · exact I.lost s1 d1 h1 (by rw [← O.other (I.ds _ _ h1).1 cs]; exact hl)
    have fin : ∀ M', (∀ c', 0 ≤ c' → c' < 16 → (B.at c' = A.at c' ∧ M' c' = M c' ∧ ∀ s d, D s = some d → A.at c' = mw s d.g → (Won B s d ↔ Won A s d)) ∨ Cell D B (setF F t ⟨q, .who w' :: r⟩) M' c') → MI D Lo B (setF F t ⟨q, .who w' :: r⟩) M' := fun M' hC => by
      refine I.go okB dB R ⟨by rw [fq]; exact Int.le_refl _, hq⟩ ht (fun f hf => ?_) (R.chain I (fun v hv => ?_) (fun f hf => hfr f hf) ⟨Nx.mono ws wg ch.1, fun h => by omega, ch.2.2⟩) (fun s1 d1 n1 e1 hd1 he1 hx => .inl (hRR s1 n1 hx)) (fun v r' hv hpc => ?_) hC lost
      · rcases List.mem_cons.1 hf with rfl | hf
        · exact ⟨d, by rw [ws]; exact hd, by rw [wg]; exact hg, by simp only [Ph, wp]⟩
        · exact R.fr I hF ht (by rw [fq]; exact Int.le_refl _) (Int.le_refl _) (hfr f hf)
      · simp at hv; subst hv; exact ⟨d, by rw [ws]; exact hd, by rw [wg]; exact hg⟩
      · rw [fs] at hv; cases hv; omega
    have oth : ∀ s1 d1, D s1 = some d1 → s1 ≠ w.s → (Won B s1 d1 ↔ Won A s1 d1) := fun s1 d1 h1 cs => by unfold Won; rw [O.other (I.ds _ _ h1).1 cs]
    by_cases z1 : z = 1
    · have held := hheld z1
      refine ⟨rfl, (fun f h => by cases h), (fun h => by cases h), by rw [fq]; exact ⟨Int.le_refl _, by simp only; omega⟩, R, updM d.ds M, ⟨R.st, .inr ⟨w.s, d, hd, hop, wB.1 z1, fun n e he => ?_, rfl, fun s1 d1 h1 cs => O.other (I.ds _ _ h1).1 cs⟩⟩, ?_⟩
      · have m := dok.lt he
        have ha := held n e (List.getElem?_eq_some_iff.1 he).1 he
        cases I.cells e.c m.2.1 m.2.2.1 with
        | val h mm => have := (val_read h).2.1; rw [ha] at this; exact absurd this mcas_not_val
        | en _ _ _ ha' => rw [ha] at ha'; exact absurd ha' mw_ew
        | @mc s1 d1 n1 e1 hd1 he1 hc1 ha1 m1 m0 hh rr =>
          rw [ha] at ha1
          obtain ⟨a1, a2⟩ := mw_same I hd hd1 ha1
          subst a1; subst a2
          have := sw_inj dok.2.1 he1 he hc1
          subst this
          rw [he] at he1; cases he1
          exact m0 nA
      · refine fin _ fun c' c0 c1 => ?_
        have out : A.at c' ≠ mw w.s d.g → updM d.ds M c' = M c' := fun h => updM_out fun i y hy hc => h (by rw [← hc]; exact held i y (List.getElem?_eq_some_iff.1 hy).1 hy)
        cases I.cells c' c0 c1 with
        | val h mm =>
          left
          have h' : A.at c' ≠ mw w.s d.g := fun hx => by have := (val_read h).2.1; rw [hx] at this; exact mcas_not_val this
          exact ⟨O.cell dok.1 c0 c1, out h', fun s1 d1 h1 hx => by have := (val_read h).2.1; rw [hx] at this; exact absurd this mcas_not_val⟩
        | en _ _ _ ha' =>
          left
          exact ⟨O.cell dok.1 c0 c1, out (fun hx => by rw [hx] at ha'; exact mw_ew ha'), fun s1 d1 h1 hx => by rw [hx] at ha'; exact absurd ha' mw_ew⟩
        | @mc s1 d1 n1 e1 hd1 he1 hc1 ha1 m1 m0 hh rr =>
          by_cases cs : s1 = w.s
          · right
            subst cs
            rw [hd] at hd1; cases hd1
            refine .mc hd he1 hc1 (by rw [O.cell dok.1 c0 c1]; exact ha1) (fun _ => by rw [← hc1]; exact updM_in dok.2.1 he1) (fun h => absurd (wB.1 z1) h) (fun h => ?_) (fun hrq => (rr hrq).set (hRR _ _))
            unfold Opn at h
            rw [O.at_, stateW_inj] at h
            omega
          · left
            refine ⟨O.cell dok.1 c0 c1, out (fun hx => ?_), fun s2 d2 h2 hx => ?_⟩
            · rw [ha1] at hx; exact cs (mw_same I hd1 hd hx).1
            · rw [ha1] at hx
              obtain ⟨a1, a2⟩ := mw_same I hd1 h2 hx
              subst a1
              exact oth _ _ h2 cs
    · have wn : ¬ Won B w.s d := fun h => z1 (wB.2 h)
      have wons : ∀ s1 d1, D s1 = some d1 → (Won B s1 d1 ↔ Won A s1 d1) := fun s1 d1 h1 => by
        by_cases cs : s1 = w.s
        · subst cs
          rw [hd] at h1; cases h1
          exact ⟨fun h => absurd h wn, fun h => absurd h nA⟩
        · exact oth _ _ h1 cs
      refine ⟨rfl, (fun f h => by cases h), (fun h => by cases h), by rw [fq]; exact ⟨Int.le_refl _, by simp only; omega⟩, R, M, ⟨R.st, .inl ⟨rfl, wons⟩⟩, fin _ fun c' c0 c1 => .inl ⟨O.cell dok.1 c0 c1, rfl, fun s1 d1 h1 _ => wons s1 d1 h1⟩⟩
  · have same := cas_same (x := stateW w.g z) I.ok (show 0 ≤ baseOf w.s by omega) bs.2 c
    exact I.did hS okB same hqq rfl rfl (fun _ _ _ _ => trivial) (fun h => by cases h) (fun _ _ _ _ _ h => .inl (RF.same h rfl (.inl (Nat.le_of_ble_eq_true rfl)))) (fun h => by omega)
end
end Go.Proofs.Ytbiappodepnbmaa
namespace Go.Proofs.Ytbiappodepnbmaa
open Go GW Go.Proofs
set_option linter.unusedVariables false
set_option linter.unusedSimpArgs false
section
variable {D : Int → Option Dw} {Lo : Int → Prop} {A B : Ar} {F : Int → Stk} {M : Int → Int} {t q q' s : Int} {d : Dw} {n : Nat} {e : Sw} {w w' : Wh} {r : List Fr} {c x : Int}
theorem Chain.pop (h : Ord A r) : Chain A r := by
  cases r with
  | nil => trivial
  | cons f r =>
    cases f with
    | ent f => exact absurd h (by simp [Ord])
    | who v =>
      obtain ⟨h1, h2, h3, h4⟩ := h
      exact ⟨h2, fun h => by omega, h4⟩
theorem MI.pc10 (I : MI D Lo A F M) (hS : F t = ⟨q, .who w :: r⟩) (hq : q < 1048576) (hp : w.pc = 10) : Did D Lo A F M t r (w.step t q A) := by
  obtain ⟨d, st, hd, hg, hst, o, ph, dok⟩ := I.on hS
  have fs : (F t).fs = .who w :: r := by rw [hS]
  have fq : (F t).q = q := by rw [hS]
  have ht := I.t0 t (by rw [fs]; simp)
  have ch := I.ch t
  rw [fs] at ch
  have hfr : ∀ f ∈ r, FrOk D Lo A F t q f := fun f m => by have := I.fr t f (by rw [fs]; simp [m]); rw [fq] at this; exact this
  have hb := base_range o.life.s0 o.life.s1 (i := 1) (by decide) (by decide)
  have same := ld_same I.ok (by omega) hb.2
  simp only [Ph, hp] at ph
  by_cases c : d.ds.length = 0
  · rw [step_count0 o hp c]
    refine ⟨rfl, (fun f h => by cases h), fun _ w' hw' => ?_, by rw [fq]; exact ⟨Int.le_refl _, by simp only; omega⟩, Rel.same I same, M, Turn.same I same, ?_⟩
    · simp only at hw'; cases hw'
      have R := Rel.same I same
      exact ⟨d, hd, hg, R.nopn hd ph.1, ph.2.trans (R.won hd ph.1).symm⟩
    · show MI D Lo (A.ld (baseOf w.s + 1)) (setF F t ⟨q, r⟩) M
      refine I.quiet (I.ok.ld _) same ⟨by rw [fq]; exact Int.le_refl _, hq⟩ ht (fun f hf => by rw [fq]; exact hfr f hf) (Chain.pop ch.2.2) (fun s1 d1 n1 e1 hd1 he1 hx => ?_) (fun v r' hv hpc => by rw [fs] at hv; cases hv; omega)
      obtain ⟨f, hf, hx⟩ := hx
      rw [fs] at hf
      rcases List.mem_cons.1 hf with rfl | hf
      · have hx := hx.1
        subst hx
        rw [hd] at hd1; cases hd1
        have := (List.getElem?_eq_some_iff.1 he1).1
        omega
      · exact .inl ⟨f, hf, hx⟩
  · rw [step_count2 o hp c]
    refine I.did hS (I.ok.ld _) same ⟨Int.le_refl _, by omega, hq⟩ rfl rfl (fun d' hd' _ _ => ?_) (fun h => by cases h) (fun d' n' e' hd' he' h => .inl ⟨h.1, .inr (.inr (by simp only; omega))⟩) (fun h => by omega)
    rw [hd] at hd'; cases hd'
    exact ⟨0, d.ds[0]'(by omega), ⟨rfl, rfl, List.getElem?_eq_getElem _⟩, ph⟩
theorem MI.pc13 (I : MI D Lo A F M) (hS : F t = ⟨q, .who w :: r⟩) (hq : q < 1048576) (hp : w.pc = 13) : Did D Lo A F M t r (w.step t q A) := by
  obtain ⟨d, st, hd, hg, hst, o, ph, dok⟩ := I.on hS
  have fs : (F t).fs = .who w :: r := by rw [hS]
  have fq : (F t).q = q := by rw [hS]
  have ht := I.t0 t (by rw [fs]; simp)
  have ch := I.ch t
  rw [fs] at ch
  have hfr : ∀ f ∈ r, FrOk D Lo A F t q f := fun f m => by have := I.fr t f (by rw [fs]; simp [m]); rw [fq] at this; exact this
  simp only [Ph, hp] at ph
  obtain ⟨n, e, ix, h1, h2, h3, h4⟩ := ph
  have m := dok.lt ix.e
  have hn := (List.getElem?_eq_some_iff.1 ix.e).1
  have hi := ix.i; have hk := ix.k
  have hmine : w.mine = mw w.s d.g := by unfold Wh.mine; rw [hg]; rfl
  have hs : w.step t q A = ⟨.who (w.next 11 0), none, decide (w.k ≤ w.i + 1), true, A.cas w.cell w.mine w.x, q⟩ := by unfold Wh.step; simp only [hp]
  rw [hs, hmine, h3, h4]
  have hx : I64 ((if w.won = true then e.n else e.w) * 4) := by split <;> exact val64 (by omega) (by omega)
  have okB := I.ok.cas e.c (mw w.s d.g) hx
  -- all that a release needs, whether a word is turned or not
  have fin : ∀ (B : Ar), B.ok → (∀ s d, D s = some d → DOk B s d) → Rel D F A B → (∀ s d, D s = some d → B.at (baseOf s) = A.at (baseOf s)) → B.at e.c ≠ mw w.s d.g → (∀ c' , 0 ≤ c' → c' < 16 → (B.at c' = A.at c' ∧ M c' = M c') ∨ ∃ v, plainOf (B.at c') = some v ∧ M c' = B.at c') →
      Did D Lo A F M t r ⟨.who (w.next 11 0), none, decide (w.k ≤ w.i + 1), true, B, q⟩ := fun B okB dB R hb hne hC => by
    have wons : ∀ s1 d1, D s1 = some d1 → (Won B s1 d1 ↔ Won A s1 d1) := fun s1 d1 h => by unfold Won; rw [hb _ _ h]
    have lost : ∀ s1 d1, D s1 = some d1 → B.at (baseOf s1) = stateW d1.g 2 → Lo s1 := fun s1 d1 h hl => I.lost s1 d1 h (by rw [← hb _ _ h]; exact hl)
    have hC' : ∀ (k : Stk) c', 0 ≤ c' → c' < 16 → (B.at c' = A.at c' ∧ M c' = M c' ∧ ∀ s d, D s = some d → A.at c' = mw s d.g → (Won B s d ↔ Won A s d)) ∨ Cell D B (setF F t k) M c' := fun k c' c0 c1 => by
      rcases hC c' c0 c1 with h | ⟨v, h, h'⟩
      · exact .inl ⟨h.1, rfl, fun s d hd _ => wons s d hd⟩
      · exact .inr (.val h h')
    have hF : ∀ fs' u, (F u).q ≤ (setF F t ⟨q, fs'⟩ u).q := fun fs' u => by
      by_cases c : u = t
      · subst c; rw [setF_at, fq]; exact Int.le_refl _
      · rw [setF_ne c]; exact Int.le_refl _
    refine ⟨rfl, (fun f h => by cases h), fun _ v hv => ?_, by rw [fq]; exact ⟨Int.le_refl _, by simp only; omega⟩, R, M, ⟨R.st, .inl ⟨rfl, wons⟩⟩, ?_⟩
    · simp only at hv; cases hv
      exact ⟨d, hd, hg, R.nopn hd h1, h2.trans (R.won hd h1).symm⟩
    · by_cases cl : w.k ≤ w.i + 1
      · have : nxt ⟨.who (w.next 11 0), none, decide (w.k ≤ w.i + 1), true, B, q⟩ r = r := by simp only [nxt, Option.bind_none, decide_eq_true cl, if_true]
        rw [this]
        show MI D Lo B (setF F t ⟨q, r⟩) M
        refine I.go okB dB R ⟨by rw [fq]; exact Int.le_refl _, hq⟩ ht (fun f hf => R.fr I (hF _) ht (by rw [fq]; exact Int.le_refl _) (Int.le_refl _) (hfr f hf)) (R.chain I (fun v hv => by obtain ⟨d, a, b, _⟩ := hfr _ (List.mem_of_mem_head? hv); exact ⟨d, a, b⟩) (fun f hf => hfr f (List.mem_of_mem_tail hf)) (Chain.pop ch.2.2)) (fun s1 d1 n1 e1 hd1 he1 hx => ?_) (fun v r' hv hpc => by rw [fs] at hv; cases hv; omega) (hC' _) lost
        obtain ⟨f, hf, hx⟩ := hx
        rw [fs] at hf
        rcases List.mem_cons.1 hf with rfl | hf
        · obtain ⟨hx1, hx2⟩ := hx
          subst hx1
          rw [hd] at hd1; cases hd1
          have := (List.getElem?_eq_some_iff.1 he1).1
          have : n1 = n := by omega
          subst this
          rw [ix.e] at he1; cases he1
          exact .inr hne
        · exact .inl ⟨f, hf, hx⟩
      · have : nxt ⟨.who (w.next 11 0), none, decide (w.k ≤ w.i + 1), true, B, q⟩ r = .who (w.next 11 0) :: r := by
          simp only [nxt, Option.bind_none, decide_eq_false cl]; rfl
        rw [this]
        show MI D Lo B (setF F t ⟨q, .who (w.next 11 0) :: r⟩) M
        have np : (w.next 11 0).pc = 11 := by unfold Wh.next; simp only [if_neg cl]
        refine I.go okB dB R ⟨by rw [fq]; exact Int.le_refl _, hq⟩ ht (fun f hf => ?_) (R.chain I (fun v hv => ?_) (fun f hf => hfr f hf) ⟨Nx.mono rfl rfl ch.1, fun h => by omega, ch.2.2⟩) (fun s1 d1 n1 e1 hd1 he1 hx => ?_) (fun v r' hv hpc => by rw [fs] at hv; cases hv; omega) (hC' _) lost
        · rcases List.mem_cons.1 hf with rfl | hf
          · refine ⟨d, hd, hg, ?_⟩
            simp only [Ph, np]
            exact ⟨n + 1, d.ds[n + 1]'(by omega), ⟨by show w.i + 1 = _; omega, hk, List.getElem?_eq_getElem _⟩, R.nopn hd h1, h2.trans (R.won hd h1).symm⟩
          · exact R.fr I (hF _) ht (by rw [fq]; exact Int.le_refl _) (Int.le_refl _) (hfr f hf)
        · simp at hv; subst hv; exact ⟨d, hd, hg⟩
        · obtain ⟨f, hf, hx⟩ := hx
          rw [fs] at hf
          rcases List.mem_cons.1 hf with rfl | hf
          · obtain ⟨hx1, hx2⟩ := hx
            subst hx1
            rw [hd] at hd1; cases hd1
            by_cases cn : n1 = n
            · subst cn
              rw [ix.e] at he1; cases he1
              exact .inr hne
            · exact .inl ⟨.who (w.next 11 0), by simp, rfl, .inr (.inr (by show w.i + 1 ≤ _; omega))⟩
          · exact .inl ⟨f, by simp [hf], hx⟩
  by_cases c : A.at e.c = mw w.s d.g
  · have O := One.of_cas (x := (if w.won = true then e.n else e.w) * 4) I.ok m.2.1 m.2.2.1 c
    generalize A.cas e.c (mw w.s d.g) ((if w.won = true then e.n else e.w) * 4) = B at okB O
    have hM : M e.c = (if w.won = true then e.n else e.w) * 4 := by
      cases I.cells e.c m.2.1 m.2.2.1 with
      | val h mm => have := (val_read h).2.1; rw [c] at this; exact absurd this mcas_not_val
      | en _ _ _ ha' => rw [c] at ha'; exact absurd ha' mw_ew
      | @mc s1 d1 n1 e1 hd1 he1 hc1 ha1 m1 m0 hh rr =>
        rw [c] at ha1
        obtain ⟨a1, a2⟩ := mw_same I hd hd1 ha1
        subst a1; subst a2
        have := sw_inj dok.2.1 he1 ix.e hc1
        subst this
        rw [ix.e] at he1; cases he1
        by_cases hw : w.won = true
        · rw [if_pos hw]; exact m1 (h2.1 hw)
        · rw [if_neg hw]; exact m0 fun h => hw (h2.2 h)
    refine fin B okB (fun s d hd => O.dok (I.ds _ _ hd)) (Rel.release I hd ix.e c h1 O) (fun s d hd => O.base (I.ds _ _ hd).1) (by rw [O.at_]; exact fun h => mcas_not_val h.symm) fun c' c0 c1 => ?_
    by_cases cc : c' = e.c
    · right
      subst cc
      refine ⟨if w.won = true then e.n else e.w, by rw [O.at_]; exact plainOf_val (by split <;> omega) (by split <;> omega), by rw [O.at_]; exact hM⟩
    · exact .inl ⟨O.ne c' c0 (by omega) cc, rfl⟩
  · have same := cas_same (x := (if w.won = true then e.n else e.w) * 4) I.ok m.2.1 (by omega) c
    generalize A.cas e.c (mw w.s d.g) ((if w.won = true then e.n else e.w) * 4) = B at okB same
    exact fin B okB (fun s d hd => (I.ds _ _ hd).same same) (Rel.same I same) (fun s d hd => by have := base_at (I.ds _ _ hd).1; exact same _ (by omega) this.2) (by rw [same _ m.2.1 (by omega)]; exact c) fun c' c0 c1 => .inl ⟨same c' c0 (by omega), rfl⟩
theorem MI.who (I : MI D Lo A F M) (hL : LoB D Lo A M) (hS : F t = ⟨q, .who w :: r⟩) (hq : q + 1 < 1048576) : Did D Lo A F M t r (w.step t q A) := by
  obtain ⟨d, st, hd, hg, hst, o, ph, dok⟩ := I.on hS
  have : w.pc = 1 ∨ w.pc = 2 ∨ w.pc = 3 ∨ w.pc = 4 ∨ w.pc = 5 ∨ w.pc = 6 ∨ w.pc = 7 ∨ (w.pc = 8 ∨ w.pc = 9) ∨ w.pc = 10 ∨ w.pc = 11 ∨ w.pc = 12 ∨ w.pc = 13 ∨ w.pc = 14 := by
    unfold Ph at ph
    split at ph
    all_goals first | omega | exact absurd ph id
  rcases this with h | h | h | h | h | h | h | h | h | h | h | h | h
  · exact I.pc1 hS (by omega) h
  · exact I.pc2 hS (by omega) h
  · exact I.pc3 hS (by omega) h
  · exact I.pc4 hS (by omega) h
  · exact I.pc5 hL hS hq h
  · exact I.pc6 hS (by omega) h
  · exact I.pc7 hS (by omega) h
  · exact I.pc89 hS (by omega) h
  · exact I.pc10 hS (by omega) h
  · exact I.pc11 hS (by omega) h
  · exact I.pc12 hS (by omega) h
  · exact I.pc13 hS (by omega) h
  · exact I.pc14 hS (by omega) h
end
end Go.Proofs.Ytbiappodepnbmaa
namespace Go.Proofs.Ytbiappodepnbmaa
open Go GW Go.Proofs
set_option linter.unusedVariables false
set_option linter.unusedSimpArgs false
section
variable {D : Int → Option Dw} {Lo : Int → Prop} {A B : Ar} {F : Int → Stk} {M : Int → Int} {t q q' s : Int} {d : Dw} {n : Nat} {e : Sw} {w w' : Wh} {r : List Fr} {c x : Int} {f f' : En}
theorem Und.pop (h : Und A r) : Chain A r := by
  cases r with
  | nil => trivial
  | cons f r =>
    cases f with
    | ent f => exact absurd h (by simp [Und])
    | who v =>
      obtain ⟨h1, h2, h4⟩ := h
      exact ⟨h2, fun h => by omega, h4⟩
theorem MI.didE (I : MI D Lo A F M) (hS : F t = ⟨q, .ent f :: r⟩) (okB : B.ok) (h : ∀ j, 0 ≤ j → j < 634 → B.at j = A.at j) (hq : q < 1048576) (new : FrOk D Lo A F t q (.ent f')) :
    Did D Lo A F M t r ⟨.ent f', none, false, true, B, q⟩ := by
  have fs : (F t).fs = .ent f :: r := by rw [hS]
  have fq : (F t).q = q := by rw [hS]
  have ch := I.ch t
  rw [fs] at ch
  refine ⟨rfl, (fun f hf => by cases hf), (fun h => by cases h), by rw [fq]; exact ⟨Int.le_refl _, by simp only; omega⟩, Rel.same I h, M, Turn.same I h, ?_⟩
  show MI D Lo B (setF F t ⟨q, .ent f' :: r⟩) M
  refine I.quiet okB h ⟨by rw [fq]; exact Int.le_refl _, hq⟩ (I.t0 t (by rw [fs]; simp)) (fun g hg => ?_) ch (fun s1 d1 n1 e1 hd1 he1 hx => ?_) (fun v r' hv hpc => by rw [fs] at hv; cases hv)
  · rcases List.mem_cons.1 hg with rfl | hg
    · rw [fq]; exact new
    · exact I.fr t g (by rw [fs]; simp [hg])
  · obtain ⟨g, hg, hx⟩ := hx
    rw [fs] at hg
    rcases List.mem_cons.1 hg with rfl | hg
    · exact absurd hx (by simp [RF])
    · exact .inl ⟨g, by simp [hg], hx⟩
theorem MI.ent (I : MI D Lo A F M) (hS : F t = ⟨q, .ent f :: r⟩) (hq : q < 1048576) : Did D Lo A F M t r (f.step q A) := by
  have fs : (F t).fs = .ent f :: r := by rw [hS]
  have fq : (F t).q = q := by rw [hS]
  have ht := I.t0 t (by rw [fs]; simp)
  have ch := I.ch t
  rw [fs] at ch
  have hfr : ∀ f ∈ r, FrOk D Lo A F t q f := fun f m => by have := I.fr t f (by rw [fs]; simp [m]); rw [fq] at this; exact this
  obtain ⟨d, e, n, hd, hg, hn, he, hq0, ht0, ph⟩ := I.fr t (.ent f) (by rw [fs]; simp)
  have dok := I.ds _ _ hd
  have m := dok.lt he
  obtain ⟨l, may, st, hst, dsc⟩ := dok
  have dok := I.ds _ _ hd
  have ad : ∀ p : Int, 0 ≤ p → p < 3 → 34 ≤ baseOf f.s + (2 + 3 * (n : Int) + p) ∧ baseOf f.s + (2 + 3 * (n : Int) + p) < 634 := fun p p0 p1 => base_range l.s0 l.s1 (by omega) (by omega)
  have bs := base_at l
  have hqq := (I.q0 f.t).2
  have : f.pc = 0 ∨ f.pc = 1 ∨ f.pc = 2 ∨ f.pc = 3 := by
    unfold EPh at ph
    split at ph
    all_goals first | omega | exact absurd ph id
  rcases this with hp | hp | hp | hp
  · have a := ad 0 (by decide) (by decide)
    have hs : f.step q A = ⟨.ent { f with cell := e.c, pc := 1 }, none, false, true, A.ld (baseOf f.s + (2 + 3 * f.e + 0)), q⟩ := by
      unfold En.step
      have e1 := dsc.c n e he
      rw [← hn] at e1
      simp only [hp, e1, valOf_val m.2.1 (by omega : e.c < 1099511627776), isVal_val m.2.1 (by omega : e.c < 1099511627776) (show e.c ≤ 15 by omega)]
    rw [hs]
    exact I.didE hS (I.ok.ld _) (ld_same I.ok (by rw [hn]; omega) (by rw [hn]; exact a.2)) hq ⟨d, e, n, hd, hg, hn, he, hq0, ht0, rfl⟩
  · have a := ad 1 (by decide) (by decide)
    have hs : f.step q A = ⟨.ent { f with was := e.w * 4, pc := 2 }, none, false, true, A.ld (baseOf f.s + (2 + 3 * f.e + 1)), q⟩ := by
      unfold En.step
      have e1 := dsc.w n e he
      rw [← hn] at e1
      simp only [hp, e1, valOf_val m.2.2.2.1 m.2.2.2.2.1, isVal_val m.2.2.2.1 m.2.2.2.2.1 (show e.w ≤ 1099511627775 by omega)]
    rw [hs]
    simp only [EPh, hp] at ph
    exact I.didE hS (I.ok.ld _) (ld_same I.ok (by rw [hn]; omega) (by rw [hn]; exact a.2)) hq ⟨d, e, n, hd, hg, hn, he, hq0, ht0, ph, rfl⟩
  · have hs : f.step q A = ⟨.ent { f with opn := decide (A.at (baseOf f.s) = stateW f.g 0), pc := 3 }, none, false, true, A.ld (baseOf f.s), q⟩ := by
      unfold En.step
      have : (plainOf (A.at (baseOf f.s))).isSome = true := by rw [dsc.st]; exact stateW_val l.g0 l.g1 hst.1 (by omega)
      simp only [hp, this]
    rw [hs]
    simp only [EPh, hp] at ph
    refine I.didE hS (I.ok.ld _) (ld_same I.ok (by omega) bs.2) hq ⟨d, e, n, hd, hg, hn, he, hq0, ht0, ph.1, ph.2, fun ho _ hw => ?_, fun ho => ?_⟩
    · have ho : A.at (baseOf f.s) = stateW f.g 0 := by simpa using ho
      have hw : A.at (baseOf f.s) = stateW d.g 1 := hw
      rw [hw, hg, stateW_inj] at ho
      omega
    · have ho : ¬ A.at (baseOf f.s) = stateW f.g 0 := by simpa using ho
      rw [hg] at ho
      exact ho
  · simp only [EPh, hp] at ph
    obtain ⟨h1, h2, h3, h4⟩ := ph
    have hw : (Form.entry f.s f.g f.e f.t f.q).number = ew f.s d.g n f.t f.q := by rw [hg, hn]; rfl
    have hm : (Form.mcas f.s f.g).number = mw f.s d.g := by rw [hg]; rfl
    have hs : f.step q A = ⟨.ent { f with pc := 4 }, none, true, true, A.cas e.c (ew f.s d.g n f.t f.q) (if f.opn then mw f.s d.g else e.w * 4), q⟩ := by
      unfold En.step
      simp only [hp, hw, hm, h1, h2]
    rw [hs]
    rw [hw, h1] at h3
    have hx : I64 (if f.opn = true then mw f.s d.g else e.w * 4) := by
      split
      · exact mw_I64 l
      · exact val64 m.2.2.2.1 m.2.2.2.2.1
    have okB := I.ok.cas e.c (ew f.s d.g n f.t f.q) hx
    have hR : ∀ s1 n1, (∃ g, g ∈ (F t).fs ∧ RF s1 n1 g) → ∃ g, g ∈ r ∧ RF s1 n1 g := fun s1 n1 hx => by
      obtain ⟨g, hg, hx⟩ := hx
      rw [fs] at hg
      rcases List.mem_cons.1 hg with rfl | hg
      · exact absurd hx (by simp [RF])
      · exact ⟨g, hg, hx⟩
    by_cases c : A.at e.c = ew f.s d.g n f.t f.q
    · have O := One.of_cas (x := if f.opn = true then mw f.s d.g else e.w * 4) I.ok m.2.1 m.2.2.1 c
      generalize A.cas e.c (ew f.s d.g n f.t f.q) (if f.opn = true then mw f.s d.g else e.w * 4) = B at okB O
      have hx' : (if f.opn = true then mw f.s d.g else e.w * 4) = mw f.s d.g ∨ (∃ v, (if f.opn = true then mw f.s d.g else e.w * 4) = v * 4) ∧ ¬ Opn A f.s d := by
        cases ho : f.opn with
        | true => left; rfl
        | false => exact .inr ⟨⟨e.w, rfl⟩, h4 ho⟩
      have R := Rel.settle I ht0 ⟨hq0.1, by omega⟩ hd he c O hx'
      obtain ⟨hM, hRs, hHd⟩ := I.was ht0 ⟨hq0.1, by omega⟩ hd he c
      refine ⟨rfl, (fun f h => by cases h), (fun _ v hv => by cases hv), by rw [fq]; exact ⟨Int.le_refl _, by simp only; omega⟩, R, M, ⟨R.st, .inl ⟨rfl, fun s d hd => by unfold Won; rw [O.base (I.ds _ _ hd).1]⟩⟩, ?_⟩
      show MI D Lo B (setF F t ⟨q, r⟩) M
      have hF : ∀ u, (F u).q ≤ (setF F t ⟨q, r⟩ u).q := fun u => by
        by_cases c : u = t
        · subst c; rw [setF_at, fq]; exact Int.le_refl _
        · rw [setF_ne c]; exact Int.le_refl _
      refine I.go okB (fun s d hd => O.dok (I.ds _ _ hd)) R ⟨by rw [fq]; exact Int.le_refl _, hq⟩ ht (fun g hg => R.fr I hF ht (by rw [fq]; exact Int.le_refl _) (Int.le_refl _) (hfr g hg)) (R.chain I (fun v hv => by obtain ⟨d, a, b, _⟩ := hfr _ (List.mem_of_mem_head? hv); exact ⟨d, a, b⟩) (fun f hf => hfr f (List.mem_of_mem_tail hf)) (Und.pop ch)) (fun s1 d1 n1 e1 hd1 he1 hx => .inl (hR s1 n1 hx)) (fun v r' hv hpc => by rw [fs] at hv; cases hv) (fun c' c0 c1 => ?_) (fun s1 d1 hd1 hl => I.lost s1 d1 hd1 (by rw [← O.base (I.ds _ _ hd1).1]; exact hl))
      by_cases cc : c' = e.c
      · right
        subst cc
        cases ho : f.opn with
        | true =>
          refine .mc hd he rfl (by rw [O.at_, ho]; rfl) (fun hwn => ?_) (fun _ => hM) (R.held dok hd hHd) (fun _ => hRs.set (hR _ _))
          exfalso
          have : Won A f.s d := by unfold Won at hwn ⊢; rw [← O.base dok.1]; exact hwn
          exact h3 ho c this
        | false =>
          have hb : B.at e.c = e.w * 4 := by rw [O.at_, ho]; rfl
          exact .val (v := e.w) (by rw [hb]; exact plainOf_val m.2.2.2.1 m.2.2.2.2.1) (by rw [hM, hb])
      · exact .inl ⟨O.ne c' c0 (by omega) cc, rfl, fun s d hd _ => by unfold Won; rw [O.base (I.ds _ _ hd).1]⟩
    · have same := cas_same (x := if f.opn = true then mw f.s d.g else e.w * 4) I.ok m.2.1 (by omega) c
      generalize A.cas e.c (ew f.s d.g n f.t f.q) (if f.opn = true then mw f.s d.g else e.w * 4) = B at okB same
      refine ⟨rfl, (fun f h => by cases h), (fun _ v hv => by cases hv), by rw [fq]; exact ⟨Int.le_refl _, by simp only; omega⟩, Rel.same I same, M, Turn.same I same, ?_⟩
      show MI D Lo B (setF F t ⟨q, r⟩) M
      exact I.quiet okB same ⟨by rw [fq]; exact Int.le_refl _, hq⟩ ht (fun g hg => by rw [fq]; exact hfr g hg) (Und.pop ch) (fun s1 d1 n1 e1 hd1 he1 hx => .inl (hR s1 n1 hx)) (fun v r' hv hpc => by rw [fs] at hv; cases hv)
/-- a helper's frames -/
def stk (H : Help) : Stk := ⟨H.q, if H.over then [] else H.top :: H.rest⟩
/-- what a helper of a descriptor keeps to: its last frame is that one's; at the end it tells what was decided -/
def Bot (D : Int → Option Dw) (A : Ar) (s : Int) (H : Help) : Prop :=
  if H.over then ∃ d, D s = some d ∧ ¬ Opn A s d ∧ (H.won = true ↔ Won A s d) else ∃ w, (H.top :: H.rest).getLast? = some (.who w) ∧ w.s = s
theorem Wh.step_fr : ∃ w1, (w.step t q A).fr = .who w1 ∧ w1.s = w.s ∧ w1.g = w.g := by
  unfold Wh.step
  split
  case h_4 =>
    unfold Wh.swapIn
    simp only
    split
    · exact ⟨_, rfl, rfl, rfl⟩
    · split
      · exact ⟨_, rfl, rfl, rfl⟩
      · exact ⟨_, rfl, rfl, rfl⟩
      · exact ⟨_, rfl, rfl, rfl⟩
      · split <;> exact ⟨_, rfl, rfl, rfl⟩
  case h_13 => simp only; split <;> exact ⟨_, rfl, rfl, rfl⟩
  all_goals exact ⟨_, rfl, rfl, rfl⟩
theorem Bot.turn {A B : Ar} {M M' : Int → Int} {H : Help} (T : Turn D A B M M') (h : Bot D A s H) : Bot D B s H := by
  unfold Bot at h ⊢
  split
  · rename_i ho
    rw [if_pos ho] at h
    obtain ⟨d, h1, h2, h3⟩ := h
    have := T.1 s d h1
    exact ⟨d, h1, fun h => h2 (this.1 h), by rw [h3]; unfold Won; rw [this.2 h2]⟩
  · rename_i ho
    rw [if_neg ho] at h
    exact h
theorem MI.help (I : MI D Lo A F M) (hL : LoB D Lo A M) {H : Help} (hS : F t = stk H) (ht : H.t = t) (ho : H.over = false) (hq : H.q + 1 < 1048576) {Bo : Prop} (b : Bo → Bot D A s H) :
    (H.step A).2.1 = 0 ∧ H.q ≤ (H.step A).1.q ∧ (H.step A).1.q ≤ H.q + 1 ∧ (H.step A).1.t = t ∧ Rel D F A (H.step A).2.2 ∧ ∃ M', Turn D A (H.step A).2.2 M M' ∧ MI D Lo (H.step A).2.2 (setF F t (stk (H.step A).1)) M' ∧ (Bo → Bot D (H.step A).2.2 s (H.step A).1) := by
  have hS' : F t = ⟨H.q, H.top :: H.rest⟩ := by rw [hS]; unfold stk; rw [ho]; rfl
  have fq : (F t).q = H.q := by rw [hS']
  have did : Did D Lo A F M t H.rest (H.top.step H.t H.q A) := by
    rw [ht]
    cases hf : H.top with
    | who w => rw [hf] at hS'; exact I.who hL hS' hq
    | ent f => rw [hf] at hS'; exact I.ent hS' (by omega)
  have hfr : ∀ w, H.top = .who w → ∃ w1, (H.top.step H.t H.q A).fr = .who w1 ∧ w1.s = w.s := fun w hw => by
    rw [hw]
    obtain ⟨w1, a, b, _⟩ := Wh.step_fr (w := w) (t := H.t) (q := H.q) (A := A)
    exact ⟨w1, a, b⟩
  rw [Help.step_eq ho]
  generalize H.top.step H.t H.q A = o at did hfr
  obtain ⟨good, len, fin, q, rel, M', T, mi⟩ := did
  have hb : Bo → ∃ w, (H.top :: H.rest).getLast? = some (.who w) ∧ w.s = s := fun bo => by
    have b := b bo
    unfold Bot at b
    rw [if_neg (by rw [ho]; decide)] at b
    exact b
  rw [fq] at q
  unfold Help.take
  simp only
  rw [if_neg (by rw [good]; decide)]
  cases hat : o.atop.bind newFr with
  | some f =>
    have := len f hat
    simp only
    rw [if_neg (by omega)]
    refine ⟨rfl, q.1, q.2, ht, rel, M', T, ?_, fun bo => ?_⟩
    · have : stk { H with q := o.q, rest := o.fr :: H.rest, top := f, slot := H.top.s, gen := H.top.g } = ⟨o.q, nxt o H.rest⟩ := by
        unfold stk nxt
        rw [hat]
        simp only [ho]
        rfl
      simp only at this ⊢
      rw [this]; exact mi
    · obtain ⟨w0, hl, hs0⟩ := hb bo
      unfold Bot
      simp only [ho, Bool.false_eq_true, if_false]
      rw [List.getLast?_cons_cons]
      cases hr : H.rest with
      | nil =>
        rw [hr] at hl
        simp only [List.getLast?_singleton, Option.some.injEq] at hl
        obtain ⟨w1, a, b⟩ := hfr w0 hl
        exact ⟨w1, by rw [a]; rfl, by rw [b]; exact hs0⟩
      | cons f1 rs =>
        rw [hr, List.getLast?_cons_cons] at hl
        exact ⟨w0, by rw [List.getLast?_cons_cons]; exact hl, hs0⟩
  | none =>
    simp only
    have hnx : nxt o H.rest = if o.over then H.rest else o.fr :: H.rest := by unfold nxt; rw [hat]
    rw [hnx] at mi
    by_cases ov : o.over = false
    · rw [if_pos ov]
      rw [ov] at mi
      refine ⟨rfl, q.1, q.2, ht, rel, M', T, ?_, fun bo => ?_⟩
      · have : stk { H with q := o.q, top := o.fr, slot := H.top.s, gen := H.top.g } = ⟨o.q, o.fr :: H.rest⟩ := by
          unfold stk
          simp only [ho]
          rfl
        simp only at this ⊢
        rw [this]; exact mi
      · obtain ⟨w0, hl, hs0⟩ := hb bo
        unfold Bot
        simp only [ho, Bool.false_eq_true, if_false]
        cases hr : H.rest with
        | nil =>
          rw [hr] at hl
          simp only [List.getLast?_singleton, Option.some.injEq] at hl
          obtain ⟨w1, a, b⟩ := hfr w0 hl
          exact ⟨w1, by rw [a]; rfl, by rw [b]; exact hs0⟩
        | cons f1 rs =>
          rw [hr, List.getLast?_cons_cons] at hl
          exact ⟨w0, by rw [List.getLast?_cons_cons]; exact hl, hs0⟩
    · rw [if_neg ov]
      have ov : o.over = true := by simpa using ov
      rw [ov] at mi
      simp only [if_true] at mi
      cases hr : H.rest with
      | nil =>
        rw [hr] at mi
        refine ⟨rfl, q.1, q.2, ht, rel, M', T, mi, fun bo => ?_⟩
        obtain ⟨w0, hl, hs0⟩ := hb bo
        rw [hr] at hl
        simp only [List.getLast?_singleton, Option.some.injEq] at hl
        obtain ⟨w1, a, b⟩ := hfr w0 hl
        obtain ⟨d, d1, d2, d3, d4⟩ := fin ov w1 a
        unfold Bot
        simp only [if_true]
        refine ⟨d, by rw [← hs0, ← b]; exact d1, by rw [← hs0, ← b]; exact d3, ?_⟩
        rw [a, ← hs0, ← b]
        exact d4
      | cons f1 rs =>
        rw [hr] at mi
        refine ⟨rfl, q.1, q.2, ht, rel, M', T, ?_, fun bo => ?_⟩
        · have : stk { H with q := o.q, rest := rs, top := f1, slot := H.top.s, gen := H.top.g, won := false } = ⟨o.q, f1 :: rs⟩ := by
            unfold stk
            simp only [ho]
            rfl
          simp only at this ⊢
          rw [this]; exact mi
        · obtain ⟨w0, hl, hs0⟩ := hb bo
          rw [hr, List.getLast?_cons_cons] at hl
          unfold Bot
          simp only [ho, Bool.false_eq_true, if_false]
          exact ⟨w0, hl, hs0⟩
end
end Go.Proofs.Ytbiappodepnbmaa
