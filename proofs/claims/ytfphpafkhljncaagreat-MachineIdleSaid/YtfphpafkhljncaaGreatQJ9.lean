/- Several texts in one; nothing here is a statement on the program. -/
import Derived.Test.YtfphpafkhljncaaGreatQJ8
namespace Go.Proofs.YtfphpafkhljncaaGreat
open Go GW Go.Proofs
set_option linter.unusedVariables false
set_option linter.unusedSimpArgs false
/-- what a step comes through: nothing, or its own descriptor -/
def At.Thr (x y : At) : Prop := y.slot = x.slot ∧ y.gen = x.gen ∧ (y.ts = -1 ∨ y.ts = x.slot ∧ y.tg = x.gen)
inductive Ago : At → Ar → Nat → At → Ar → Prop
  | refl (x : At) (A : Ar) : Ago x A 0 x A
  | step {x : At} {A : Ar} {n : Nat} {x' : At} {A' : Ar} : x.over = false → (x.step A).2.1 = 0 → x.Thr (x.step A).1 → Ago (x.step A).1 (x.step A).2.2 n x' A' → Ago x A (n + 1) x' A'
theorem Ago.trans {x : At} {A : Ar} {n : Nat} {x1 : At} {A1 : Ar} (a : Ago x A n x1 A1) : ∀ {m : Nat} {x2 : At} {A2 : Ar}, Ago x1 A1 m x2 A2 → Ago x A (n + m) x2 A2 := by
  induction a with
  | refl => intro m x2 A2 b; rw [Nat.zero_add]; exact b
  | step h1 h2 hk _ ih => intro m x2 A2 b; rw [Nat.add_right_comm]; exact .step h1 h2 hk (ih b)
theorem Ago.one {x x1 : At} {A A1 : Ar} (ho : x.over = false) (h : x.step A = (x1, 0, A1)) (ht : x.Thr x1) : Ago x A 1 x1 A1 := .step ho (by rw [h]) (by rw [h]; exact ht) (by rw [h]; exact .refl _ _)
theorem Ago.ok {x : At} {A : Ar} {n : Nat} {x' : At} {A' : Ar} (a : Ago x A n x' A') : x.ok → A.ok → x'.ok ∧ A'.ok := by
  induction a with
  | refl => intro h1 h2; exact ⟨h1, h2⟩
  | step _ _ _ _ ih => intro h1 h2; have := At.step_ok h1 h2; exact ih this.1 this.2
theorem Ago.stop {x : At} {A : Ar} {n : Nat} {x' : At} {A' : Ar} (a : Ago x A n x' A') (h : x.over = true) : n = 0 ∧ x' = x ∧ A' = A := by
  cases a with
  | refl => exact ⟨rfl, rfl, rfl⟩
  | step q _ _ _ => rw [h] at q; cases q
/-- what does not change while it writes -/
structure At.Same (x y : At) : Prop where
  over : y.over = false
  t : y.t = x.t
  q : y.q = x.q
  slot : y.slot = x.slot
  gen : y.gen = x.gen
  ops : y.ops = x.ops
  won : y.won = x.won
  ans : y.ans = x.ans
theorem At.wr_step {x : At} {A : Ar} {w : Wr} (ho : x.over = false) (hs : x.st = .wr w) : x.step A = ({ x with ts := x.slot, tg := x.gen, st := if (w.step A).2.1 then .hp (.new x.t x.q (.who (.new x.slot x.gen))) else .wr (w.step A).1 }, 0, (w.step A).2.2) := by
  unfold At.step
  rw [if_neg (by rw [ho]; decide), hs]
theorem Ago.wr : ∀ (l1 : List Int) {l2 : List Int} {a : Int} {x : At} {A : Ar}, x.over = false → x.st = .wr ⟨a, l1 ++ l2⟩ → l2 ≠ [] → ∃ y, Ago x A l1.length y (putRow a l1 A) ∧ y.st = .wr ⟨a + l1.length, l2⟩ ∧ x.Same y := by
  intro l1
  induction l1 with
  | nil => intro l2 a x A ho hs _; exact ⟨x, .refl _ _, by rw [hs]; simp, ⟨ho, rfl, rfl, rfl, rfl, rfl, rfl, rfl⟩⟩
  | cons v l1 ih =>
    intro l2 a x A ho hs hn
    have e := At.wr_step (A := A) ho hs
    have e0 : ((v :: l1) ++ l2 : List Int) = v :: (l1 ++ l2) := rfl
    have e1 : (⟨a, (v :: l1) ++ l2⟩ : Wr).step A = (⟨a + 1, l1 ++ l2⟩, false, A.put a v) := by
      unfold Wr.step
      simp only [e0]
      have : (l1 ++ l2).isEmpty = false := by cases l1 with
        | nil => cases l2 with
          | nil => exact absurd rfl hn
          | cons _ _ => rfl
        | cons _ _ => rfl
      rw [this]
    rw [e1] at e
    obtain ⟨y, k1, k2, k3⟩ := ih (x := { x with ts := x.slot, tg := x.gen, st := .wr ⟨a + 1, l1 ++ l2⟩ }) (A := A.put a v) ho rfl hn
    have k0 := Ago.one ho e ⟨rfl, rfl, .inr ⟨rfl, rfl⟩⟩
    refine ⟨y, ?_, ?_, ⟨k3.over, k3.t, k3.q, k3.slot, k3.gen, k3.ops, k3.won, k3.ans⟩⟩
    · have := k0.trans k1
      rw [List.length_cons, Nat.add_comm]; exact this
    · rw [k2, List.length_cons]; congr 2; omega
theorem Ago.wrAll {l : List Int} {a : Int} {x : At} {A : Ar} (ho : x.over = false) (hs : x.st = .wr ⟨a, l⟩) (hn : l ≠ []) : ∃ y, Ago x A l.length y (putRow a l A) ∧ y.st = .hp (.new x.t x.q (.who (.new x.slot x.gen))) ∧ x.Same y := by
  obtain ⟨l1, v, rfl⟩ : ∃ l1 v, l = l1 ++ [v] := ⟨l.dropLast, l.getLast hn, (List.dropLast_concat_getLast hn).symm⟩
  obtain ⟨y, k1, k2, k3⟩ := Ago.wr l1 (l2 := [v]) (A := A) ho hs (by simp)
  have e := At.wr_step (A := putRow a l1 A) k3.over k2
  have e1 : (⟨a + l1.length, [v]⟩ : Wr).step (putRow a l1 A) = (⟨a + l1.length + 1, []⟩, true, (putRow a l1 A).put (a + l1.length) v) := rfl
  rw [e1] at e
  have k4 := Ago.one k3.over e ⟨rfl, rfl, .inr ⟨rfl, rfl⟩⟩
  refine ⟨{ y with ts := y.slot, tg := y.gen, st := .hp (.new y.t y.q (.who (.new y.slot y.gen))) }, ?_, ?_, ⟨k3.over, k3.t, k3.q, k3.slot, k3.gen, k3.ops, k3.won, k3.ans⟩⟩
  · have := k1.trans k4
    have e2 : putRow a (l1 ++ [v]) A = (putRow a l1 A).put (a + l1.length) v := by
      clear hs hn k1 k2 k3 k4 e e1 this
      induction l1 generalizing a A with
      | nil => show A.put a v = A.put (a + ((0 : Nat) : Int)) v; rw [Int.natCast_zero, Int.add_zero]
      | cons u l1 ih =>
        show putRow (a + 1) (l1 ++ [v]) (A.put a u) = _
        rw [ih]
        show (putRow (a + 1) l1 (A.put a u)).put _ v = (putRow (a + 1) l1 (A.put a u)).put _ v
        congr 1; simp only [List.length_cons]; omega
    rw [e2, List.length_append]; exact this
  · simp only [k3.t, k3.q, k3.slot, k3.gen]
theorem At.step_hp {x : At} {A : Ar} {H : Help} (ho : x.over = false) (hs : x.st = .hp H) (h0 : (H.step A).2.1 = 0) : x.step A = ({ x with q := (H.step A).1.q, ts := (H.step A).1.slot, tg := (H.step A).1.gen, st := .hp (H.step A).1, over := (H.step A).1.over, won := (H.step A).1.over && (H.step A).1.won }, 0, (H.step A).2.2) := by
  unfold At.step
  rw [if_neg (by rw [ho]; decide), hs]
  simp only [h0]
  rfl
def At.helped (x : At) (H : Help) : At := { x with q := H.q, ts := H.slot, tg := H.gen, st := .hp H, over := H.over, won := H.over && H.won }
theorem Ago.help {H : Help} {A : Ar} {n : Nat} {H' : Help} {A' : Ar} (a : Goes H A n H' A') : ∀ {x : At}, 0 < n → x.over = false → x.st = .hp H → H.rest = [] → H.top.s = x.slot → H.top.g = x.gen → Ago x A n (x.helped H') A' := by
  induction a with
  | refl => intro x h; omega
  | @step H A n H' A' h1 h2 hk h3 ih =>
    intro x _ ho hs hr hts htg
    have e := At.step_hp (A := A) ho hs h2
    obtain ⟨k1, k2, k3, k4, k5⟩ := hk hr
    refine .step ho (by rw [e]) (by rw [e]; exact ⟨rfl, rfl, .inr ⟨by rw [← hts]; exact k4, by rw [← htg]; exact k5⟩⟩) ?_
    rw [e]
    cases n with
    | zero => cases h3; exact .refl _ _
    | succ n =>
      have hov : (H.step A).1.over = false := by cases h3 with | step a _ _ _ => exact a
      exact ih (x := x.helped (H.step A).1) (by omega) hov rfl k1 (by rw [k2]; exact hts) (by rw [k3]; exact htg)
/-- a read of a value -/
theorem At.step_rd {x : At} {A : Ar} {v : Vw} {t q c y : Int} (ho : x.over = false) (hs : x.st = .rd (.new t q c) v) (hp : plainOf (A.at c) = some y) : x.step A = ({ x with q := q, ts := -1, tg := 0, st := .rd ⟨t, q, c, y, none, -1, 0, true⟩ v }.known v c y, 0, A.ld c) := by
  have e : (Rd.new t q c).step A = (⟨t, q, c, y, none, -1, 0, true⟩, 0, A.ld c) := by
    unfold Rd.step
    simp only [Rd.new, Bool.false_eq_true, if_false]
    unfold Rd.load
    simp only [hp]
  unfold At.step
  rw [if_neg (by rw [ho]; decide), hs]
  simp only [e]
  rfl
end Go.Proofs.YtfphpafkhljncaaGreat
namespace Go.Proofs.YtfphpafkhljncaaGreat
open Go GW Go.Proofs
set_option linter.unusedVariables false
set_option linter.unusedSimpArgs false
/-- all cells are known -/
structure Wk.Full (W : Wk) : Prop where
  ln : W.v.n.length = 16
  need : W.need = none
  all : ∀ i : Nat, i < 16 → W.v.k.getD i false = true
/-- what is known is the same -/
structure Vw.Kn (v F : Vw) : Prop where
  ln : v.n.length = 16
  same : ∀ i : Nat, v.k.getD i false = true → v.n.getD i 0 = F.n.getD i 0
structure Smm {α : Type} (f : Wk → α × Wk) : Prop where
  dead : ∀ w, w.need.isSome = true → (f w).2 = w
  full : ∀ W : Wk, W.Full → (f W).2.Full
  keep : ∀ w, (f w).2.v.k = w.v.k ∧ (f w).2.v.w = w.v.w
  sim : ∀ w W : Wk, w.need = none → W.Full → w.v.Kn W.v → (f w).2.need = none → (f w).1 = (f W).1 ∧ (f w).2.v.Kn (f W).2.v
  unk : ∀ w c, w.need = none → (f w).2.need = some c → w.v.k.getD c.toNat false = false
def Cell (c : Int) : Prop := 0 ≤ c ∧ c < 16
section
variable {α β : Type}
theorem Smm.ret (a : α) : Smm fun w => (a, w) := ⟨fun _ _ => rfl, fun _ h => h, fun _ => ⟨rfl, rfl⟩, fun w W _ _ k _ => ⟨rfl, k⟩, fun w c h1 h2 => by rw [h1] at h2; cases h2⟩
theorem Smm.bind {f : Wk → α × Wk} {g : α → Wk → β × Wk} (a : Smm f) (b : ∀ x, Smm (g x)) : Smm fun w => g (f w).1 (f w).2 := by
  have keepN : ∀ w, ((g (f w).1 (f w).2).2.need = none) → (f w).2.need = none := fun w h => by
    cases e : (f w).2.need with
    | none => rfl
    | some c =>
      have := (b (f w).1).dead (f w).2 (by rw [e]; rfl)
      rw [this, e] at h; cases h
  refine ⟨fun w h => ?_, fun W h => (b _).full _ (a.full W h), fun w => ?_, fun w W h1 h2 h3 h4 => ?_, fun w c h1 h2 => ?_⟩
  · have e := a.dead w h
    simp only [e]
    exact (b _).dead w h
  · have := a.keep w
    have := (b (f w).1).keep (f w).2
    simp_all
  · have hn := keepN w h4
    have s := a.sim w W h1 h2 h3 hn
    have t := (b (f w).1).sim (f w).2 (f W).2 hn (a.full W h2) s.2 h4
    rw [s.1] at t ⊢
    exact t
  · cases e : (f w).2.need with
    | none =>
      have := (b (f w).1).unk (f w).2 c e h2
      rw [(a.keep w).1] at this; exact this
    | some d =>
      have := (b (f w).1).dead (f w).2 (by rw [e]; rfl)
      simp only [this, e] at h2
      cases h2
      exact a.unk w c h1 e
open Classical in
theorem Smm.bindP {f : Wk → α × Wk} {g : α → Wk → β × Wk} {P : α → Prop} (a : Smm f) (hP : ∀ w, P (f w).1) (b : ∀ x, P x → Smm (g x)) : Smm fun w => g (f w).1 (f w).2 := by
  have e : (fun w => g (f w).1 (f w).2) = fun w => (fun x w => if P x then g x w else ((g x wkZ).1, w)) (f w).1 (f w).2 := by
    funext w; simp only [if_pos (hP w)]
  rw [e]
  refine Smm.bind (g := fun x w => if P x then g x w else ((g x wkZ).1, w)) a fun x => ?_
  by_cases h : P x
  · simp only [if_pos h]; exact b x h
  · simp only [if_neg h]; exact Smm.ret _
theorem Smm.ite {c : Prop} [Decidable c] {f g : Wk → α × Wk} (a : Smm f) (b : Smm g) : Smm fun w => if c then f w else g w := by
  by_cases h : c
  · simp only [if_pos h]; exact a
  · simp only [if_neg h]; exact b
theorem Smm.get {c : Int} (hc : Cell c) : Smm fun w => w.get c := by
  obtain ⟨c0, c1⟩ := hc
  refine ⟨fun w h => ?_, fun W h => ?_, fun w => ?_, fun w W h1 h2 h3 h4 => ?_, fun w d h1 h2 => ?_⟩
  · unfold Wk.get; rw [if_pos h]
  · unfold Wk.get
    rw [if_neg (by rw [h.need]; decide), if_pos (h.all _ (by omega))]; exact h
  · unfold Wk.get; repeat' split
    all_goals exact ⟨rfl, rfl⟩
  · unfold Wk.get at h4 ⊢
    have n1 : w.need.isSome = false := by rw [h1]; rfl
    have n2 : W.need.isSome = false := by rw [h2.need]; rfl
    have k2 := h2.all c.toNat (by omega)
    simp only [n1, n2, k2, Bool.false_eq_true, if_false, if_true] at h4 ⊢
    by_cases k : w.v.k.getD c.toNat false = true
    · simp only [if_pos k]; exact ⟨h3.same _ k, h3⟩
    · rw [if_neg k] at h4; cases h4
  · unfold Wk.get at h2
    rw [if_neg (by rw [h1]; decide)] at h2
    by_cases k : w.v.k.getD c.toNat false = true
    · rw [if_pos k, h1] at h2; cases h2
    · rw [if_neg k] at h2; cases h2; simpa using k
theorem Smm.set (c x : Int) : Smm fun w => ((), w.set c x) := by
  refine ⟨fun w h => ?_, fun W h => ?_, fun w => ?_, fun w W h1 h2 h3 h4 => ?_, fun w d h1 h2 => ?_⟩
  · unfold Wk.set; rw [if_pos h]
  · unfold Wk.set
    rw [if_neg (by rw [h.need]; decide)]
    exact ⟨by simp [h.ln], h.need, h.all⟩
  · unfold Wk.set; split <;> exact ⟨rfl, rfl⟩
  · refine ⟨rfl, ?_⟩
    unfold Wk.set
    rw [if_neg (by rw [h1]; decide), if_neg (by rw [h2.need]; decide)]
    refine ⟨by simp [h3.ln], fun i hi => ?_⟩
    have := h3.same i hi
    have l1 := h3.ln
    have l2 := h2.ln
    simp only [List.getD_eq_getElem?_getD, List.getElem?_set] at this ⊢
    split
    · rename_i e
      split <;> split <;> first | rfl | omega
    · exact this
  · unfold Wk.set at h2
    rw [if_neg (by rw [h1]; decide)] at h2
    simp only at h2
    rw [h1] at h2; cases h2
theorem Smm.get_ {c : Int} (hc : Cell c) {g : Int → Wk → β × Wk} (b : ∀ x, Smm (g x)) : Smm fun w => g (w.get c).1 (w.get c).2 := Smm.bind (Smm.get hc) b
theorem Smm.set_ {c x : Int} {g : Wk → β × Wk} (b : Smm g) : Smm fun w => g (w.set c x) := Smm.bind (g := fun _ => g) (Smm.set c x) fun _ => b
def LvC (key lev : Int) : Prop := -1 ≤ key ∧ key < 5 ∧ 0 ≤ lev ∧ lev ≤ 1
theorem LvC.cell {key lev : Int} (h : LvC key lev) : Cell (lk key lev) := by
  obtain ⟨h1, h2, h3, h4⟩ := h
  unfold Cell lk; omega
theorem Smm.next {key lev : Int} (h : LvC key lev) : Smm fun w => w.next key lev :=
  Smm.get_ (g := fun x w => (if x - 1 ≤ key ∨ 5 ≤ x - 1 then -1 else x - 1, w)) h.cell fun x => Smm.ret _
theorem Wk.next_rng {w : Wk} {key lev : Int} : (w.next key lev).1 = -1 ∨ key < (w.next key lev).1 ∧ (w.next key lev).1 < 5 := by
  unfold Wk.next; simp only; split
  · exact .inl rfl
  · right; omega
theorem Smm.st {f : Wk → Wk} {g : Wk → β × Wk} (a : Smm fun w => ((), f w)) (b : Smm g) : Smm fun w => g (f w) := Smm.bind (f := fun w => ((), f w)) (g := fun _ => g) a fun _ => b
theorem Smm.next_ {key lev : Int} (h : LvC key lev) {g : Int → Wk → β × Wk} (b : ∀ x, x = -1 ∨ key < x ∧ x < 5 → Smm (g x)) : Smm fun w => g (w.next key lev).1 (w.next key lev).2 :=
  Smm.bindP (P := fun x => x = -1 ∨ key < x ∧ x < 5) (Smm.next h) (fun w => Wk.next_rng) b
theorem Wk.before_rng {key lev : Int} : ∀ {n : Nat} {w : Wk} {f : Int}, -1 ≤ f → f < 5 → -1 ≤ (w.before n key f lev).1 ∧ (w.before n key f lev).1 < 5 := by
  intro n
  induction n with
  | zero => intro w f h0 h1; exact ⟨h0, h1⟩
  | succ n ih =>
    intro w f h0 h1
    unfold Wk.before
    split
    · exact ⟨h0, h1⟩
    · rename_i c
      have := Wk.next_rng (w := w) (key := f) (lev := lev)
      exact ih (by omega) (by omega)
theorem Smm.before {key lev : Int} (l0 : 0 ≤ lev) (l1 : lev ≤ 1) : ∀ {n : Nat} {f : Int}, -1 ≤ f → f < 5 → Smm fun w => w.before n key f lev := by
  intro n
  induction n with
  | zero => intro f _ _; exact Smm.ret _
  | succ n ih =>
    intro f h0 h1
    refine Smm.next_ (g := fun x w => if x = -1 ∨ key ≤ x then (f, w) else w.before n key x lev) ⟨h0, h1, l0, l1⟩ fun x hx => ?_
    exact Smm.ite (Smm.ret _) (ih (by omega) (by omega))
theorem Smm.bits {b : Int} : ∀ {n : Nat} {x out : Int}, -1 ≤ x → x < 5 → Smm fun w => w.bits n x b out := by
  intro n
  induction n with
  | zero => intro x out _ _; exact Smm.ret _
  | succ n ih =>
    intro x out h0 h1
    exact Smm.ite (c := x = -1 ∨ b < x) (Smm.ret _) (Smm.next_ (g := fun y w => w.bits n y b (bor out (bshl x))) ⟨h0, h1, by decide, by decide⟩ fun y hy => ih (by omega) (by omega))
theorem Smm.put {a k lev : Int} (h1 : LvC k lev) (h2 : LvC a lev) : Smm fun w => ((), w.put a k lev) :=
  Smm.get_ (g := fun _ w => (fun y w2 => ((), (Wk.set w2 (lk k lev) y).set (lk a lev) (k + 1))) (w.get (lk a lev)).1 (w.get (lk a lev)).2) h1.cell fun _ =>
    Smm.get_ (g := fun y w2 => ((), (Wk.set w2 (lk k lev) y).set (lk a lev) (k + 1))) h2.cell fun y => Smm.set_ (g := fun w => ((), w.set (lk a lev) (k + 1))) (Smm.set _ _)
theorem Smm.drop {a k lev : Int} (h1 : LvC k lev) : Smm fun w => ((), w.drop a k lev) :=
  Smm.get_ (g := fun y w2 => ((), (Wk.set w2 (lk a lev) y).set (lk k lev) 0)) h1.cell fun y => Smm.set_ (g := fun w => ((), w.set (lk k lev) 0)) (Smm.set _ _)
theorem Smm.insert {o : Op} {hi lo x : Int} (lh : LvC hi 1) (ll : LvC lo 0) (la : 0 ≤ o.a ∧ o.a < 5) : Smm fun w => w.insert o hi lo x := by
  have l0 : LvC o.a 0 := ⟨by omega, la.2, by decide, by decide⟩
  have l1 : LvC o.a 1 := ⟨by omega, la.2, by decide, by decide⟩
  refine Smm.ite (c := x = o.a) (Smm.ret _) ?_
  by_cases h : o.x = 1
  · simp only [if_pos h]
    exact Smm.st (f := fun w => w.put lo o.a 0) (g := fun w => ((⟨0, o.a⟩ : Answer), w.put hi o.a 1)) (Smm.put l0 ll) (Smm.st (f := fun w => w.put hi o.a 1) (g := fun w => (_, w)) (Smm.put l1 lh) (Smm.ret _))
  · simp only [if_neg h]
    exact Smm.st (f := fun w => w.put lo o.a 0) (g := fun w => (_, w)) (Smm.put l0 ll) (Smm.ret _)
theorem Smm.erase {o : Op} {hi lo x : Int} (lh : LvC hi 1) (ll : LvC lo 0) (la : 0 ≤ o.a ∧ o.a < 5) : Smm fun w => w.erase o hi lo x := by
  have l0 : LvC o.a 0 := ⟨by omega, la.2, by decide, by decide⟩
  have l1 : LvC o.a 1 := ⟨by omega, la.2, by decide, by decide⟩
  refine Smm.ite (c := x = o.a) ?_ (Smm.ret _)
  refine Smm.st (f := fun w => w.drop lo o.a 0) (g := fun w => (fun y w2 => ((⟨0, o.a⟩ : Answer), if y = o.a then Wk.drop w2 hi o.a 1 else w2)) (w.next hi 1).1 (w.next hi 1).2) (Smm.drop l0) ?_
  refine Smm.next_ (g := fun y w2 => ((⟨0, o.a⟩ : Answer), if y = o.a then Wk.drop w2 hi o.a 1 else w2)) lh fun y _ => ?_
  by_cases h : y = o.a
  · simp only [if_pos h]; exact Smm.st (f := fun w => w.drop hi o.a 1) (g := fun w => (_, w)) (Smm.drop l1) (Smm.ret _)
  · simp only [if_neg h]; exact Smm.ret _
theorem Smm.skip {o : Op} (la : 0 ≤ o.a ∧ o.a < 5) : Smm fun w => w.skip o := by
  refine Smm.ite (c := o.kind = 9) (Smm.next_ (g := fun x w => ((if x = -1 then ⟨2, 0⟩ else ⟨0, x⟩ : Answer), w)) ⟨by decide, by decide, by decide, by decide⟩ fun x _ => Smm.ret _) ?_
  refine Smm.bindP (f := fun w => w.before 7 o.a (-1) 1) (P := fun x => -1 ≤ x ∧ x < 5)
    (g := fun hi w => (fun lo w => (fun at_ w => if o.kind = 8 then ((⟨0, if at_ = o.a then 1 else 0⟩ : Answer), w) else
      if o.kind = 10 then (⟨0, (Wk.bits 7 w at_ o.b 0).1⟩, (Wk.bits 7 w at_ o.b 0).2) else
      if o.kind = 6 then w.insert o hi lo at_ else w.erase o hi lo at_) (w.next lo 0).1 (w.next lo 0).2) (w.before 7 o.a hi 0).1 (w.before 7 o.a hi 0).2)
    (Smm.before (by decide) (by decide) (by decide) (by decide)) (fun w => Wk.before_rng (by decide) (by decide)) fun hi hh => ?_
  refine Smm.bindP (f := fun w => w.before 7 o.a hi 0) (P := fun x => -1 ≤ x ∧ x < 5)
    (g := fun lo w => (fun at_ w => if o.kind = 8 then ((⟨0, if at_ = o.a then 1 else 0⟩ : Answer), w) else
      if o.kind = 10 then (⟨0, (Wk.bits 7 w at_ o.b 0).1⟩, (Wk.bits 7 w at_ o.b 0).2) else
      if o.kind = 6 then w.insert o hi lo at_ else w.erase o hi lo at_) (w.next lo 0).1 (w.next lo 0).2)
    (Smm.before (by decide) (by decide) hh.1 hh.2) (fun w => Wk.before_rng hh.1 hh.2) fun lo hl => ?_
  refine Smm.next_ (g := fun at_ w => if o.kind = 8 then ((⟨0, if at_ = o.a then 1 else 0⟩ : Answer), w) else
      if o.kind = 10 then (⟨0, (Wk.bits 7 w at_ o.b 0).1⟩, (Wk.bits 7 w at_ o.b 0).2) else
      if o.kind = 6 then w.insert o hi lo at_ else w.erase o hi lo at_) ⟨hl.1, hl.2, by decide, by decide⟩ fun x hx => ?_
  refine Smm.ite (Smm.ret _) (Smm.ite ?_ (Smm.ite ?_ ?_))
  · exact Smm.bind (f := fun w => w.bits 7 x o.b 0) (g := fun y w => ((⟨0, y⟩ : Answer), w)) (Smm.bits (by omega) (by omega)) fun y => Smm.ret _
  · exact Smm.insert ⟨hh.1, hh.2, by decide, by decide⟩ ⟨hl.1, hl.2, by decide, by decide⟩ la
  · exact Smm.erase ⟨hh.1, hh.2, by decide, by decide⟩ ⟨hl.1, hl.2, by decide, by decide⟩ la
theorem Smm.sum : ∀ {n : Nat} {i all : Int}, 0 ≤ i → i + n ≤ 16 → Smm fun w => w.sum n i all := by
  intro n
  induction n with
  | zero => intro i all _ _; exact Smm.ret _
  | succ n ih =>
    intro i all h0 h1
    exact Smm.get_ (g := fun x w => w.sum n (i + 1) (all + max 0 (x - 1))) ⟨h0, by omega⟩ fun x => ih (by omega) (by omega)
theorem Smm.bank {o : Op} (ho : Bk o) : Smm fun w => w.bank o := by
  obtain ⟨⟨a0, a1⟩, ⟨b0, b1⟩, x0, x1⟩ := ho
  refine Smm.ite (c := o.kind = 5) (Smm.bind (f := fun w => w.sum 4 0 0) (g := fun y w => ((⟨0, y⟩ : Answer), w)) (Smm.sum (by decide) (by decide)) fun y => Smm.ret _) ?_
  refine Smm.get_ (g := fun g w => if o.kind = 0 then (if 0 < g then ((⟨1, 0⟩ : Answer), w) else (⟨0, o.x⟩, w.set o.a (o.x + 1))) else
    if o.kind = 4 then (fun g2 w =>
      if g = 0 ∨ g2 = 0 then ((⟨2, 0⟩ : Answer), w) else
      if g - 1 < o.x then (⟨3, 0⟩, w) else
      if o.a = o.b then (⟨0, g - 1⟩, w) else
      if 1048575 < g2 - 1 + o.x then (⟨4, 0⟩, w) else
      (⟨0, g - 1 - o.x⟩, (Wk.set w o.b (g2 - 1 + o.x + 1)).set o.a (g - 1 - o.x + 1))) (w.get o.b).1 (w.get o.b).2
    else
    if g = 0 then (⟨2, 0⟩, w) else
    if o.kind = 1 then (⟨0, g - 1⟩, w.set o.a 0) else
    if o.kind = 2 then (if 1048575 < g - 1 + o.x then (⟨4, 0⟩, w) else (⟨0, g - 1 + o.x⟩, w.set o.a (g - 1 + o.x + 1))) else
    if g - 1 < o.x then (⟨3, 0⟩, w) else (⟨0, g - 1 - o.x⟩, w.set o.a (g - 1 - o.x + 1))) ⟨a0, by omega⟩ fun g => ?_
  have one : ∀ (a : Answer) (c x : Int), Smm fun w => (a, Wk.set w c x) := fun a c x => Smm.set_ (g := fun w => (a, w)) (Smm.ret a)
  refine Smm.ite (Smm.ite (Smm.ret _) (one _ _ _)) (Smm.ite ?_ (Smm.ite (Smm.ret _) (Smm.ite (one _ _ _) (Smm.ite (Smm.ite (Smm.ret _) (one _ _ _)) (Smm.ite (Smm.ret _) (one _ _ _))))))
  refine Smm.get_ (g := fun g2 w =>
      if g = 0 ∨ g2 = 0 then ((⟨2, 0⟩ : Answer), w) else
      if g - 1 < o.x then (⟨3, 0⟩, w) else
      if o.a = o.b then (⟨0, g - 1⟩, w) else
      if 1048575 < g2 - 1 + o.x then (⟨4, 0⟩, w) else
      (⟨0, g - 1 - o.x⟩, (Wk.set w o.b (g2 - 1 + o.x + 1)).set o.a (g - 1 - o.x + 1))) ⟨b0, by omega⟩ fun g2 => ?_
  refine Smm.ite (Smm.ret _) (Smm.ite (Smm.ret _) (Smm.ite (Smm.ret _) (Smm.ite (Smm.ret _) ?_)))
  exact Smm.set_ (g := fun w => ((⟨0, g - 1 - o.x⟩ : Answer), Wk.set w o.a (g - 1 - o.x + 1))) (one _ _ _)
end
end Go.Proofs.YtfphpafkhljncaaGreat
namespace Go.Proofs.YtfphpafkhljncaaGreat
open Go GW Go.Proofs
set_option linter.unusedVariables false
set_option linter.unusedSimpArgs false
section
variable {α β : Type} {k : List Bool}
/-- cells that are unknown stay in what knows all -/
def Unt (k : List Bool) (f : Wk → α × Wk) : Prop := ∀ w W : Wk, w.v.k = k → w.need = none → W.Full → w.v.Kn W.v → (f w).2.need = none → ∀ i : Nat, k.getD i false = false → (f W).2.v.n.getD i 0 = W.v.n.getD i 0
def Kw (k : List Bool) (c : Int) : Prop := k.getD c.toNat false = true
theorem Unt.ret (a : α) : Unt k fun w => (a, w) := fun _ _ _ _ _ _ _ _ _ => rfl
theorem Smm.live {f : Wk → α × Wk} {g : Wk → β × Wk} (b : Smm g) {w : Wk} (h : (g (f w).2).2.need = none) : (f w).2.need = none := by
  cases e : (f w).2.need with
  | none => rfl
  | some c =>
    have := b.dead (f w).2 (by rw [e]; rfl)
    rw [this, e] at h; cases h
/-- one behind the other: what is known of the first one's answer -/
theorem Unt.bind {f : Wk → α × Wk} {g : α → Wk → β × Wk} {P : α → Prop} (a : Smm f) (ua : Unt k f) (dead : ∀ x w, w.need.isSome = true → (g x w).2 = w)
    (hP : ∀ w, w.v.k = k → w.need = none → (f w).2.need = none → P (f w).1) (ub : ∀ x, P x → Unt k (g x)) : Unt k fun w => g (f w).1 (f w).2 := by
  intro w W hk h1 h2 h3 h4 i hi
  have hl : (f w).2.need = none := by
    cases e : (f w).2.need with
    | none => rfl
    | some c =>
      have := dead (f w).1 (f w).2 (by rw [e]; rfl)
      simp only [this, e] at h4; cases h4
  have s := a.sim w W h1 h2 h3 hl
  have p := hP w hk h1 hl
  have u1 := ua w W hk h1 h2 h3 hl i hi
  have u2 := ub (f w).1 p (f w).2 (f W).2 (by rw [(a.keep w).1]; exact hk) hl (a.full W h2) s.2 h4 i hi
  rw [s.1] at u2
  show (g (f W).1 (f W).2).2.v.n.getD i 0 = _
  rw [u2, u1]
theorem Unt.ite {c : Prop} [Decidable c] {f g : Wk → α × Wk} (a : Unt k f) (b : Unt k g) : Unt k fun w => if c then f w else g w := by
  by_cases h : c
  · simp only [if_pos h]; exact a
  · simp only [if_neg h]; exact b
theorem Unt.get {c : Int} (hc : Cell c) : Unt k fun w => w.get c := by
  intro w W _ _ h2 _ _ i _
  obtain ⟨c0, c1⟩ := hc
  simp only
  unfold Wk.get
  rw [if_neg (by rw [h2.need]; decide), if_pos (h2.all _ (by omega))]
theorem get_known {w : Wk} {c : Int} (h1 : w.need = none) (h : (w.get c).2.need = none) : Kw w.v.k c := by
  unfold Wk.get at h
  rw [if_neg (by rw [h1]; decide)] at h
  by_cases q : w.v.k.getD c.toNat false = true
  · exact q
  · rw [if_neg q] at h; cases h
theorem Unt.get_ {c : Int} (hc : Cell c) {g : Int → Wk → β × Wk} (b : ∀ x, Smm (g x)) (u : Kw k c → ∀ x, Unt k (g x)) : Unt k fun w => g (w.get c).1 (w.get c).2 :=
  Unt.bind (P := fun _ => Kw k c) (Smm.get hc) (Unt.get hc) (fun x => (b x).dead) (fun w hk h1 h2 => by rw [← hk]; exact get_known h1 h2) fun x h => u h x
theorem Unt.set_ {c x : Int} (hc : Kw k c) {g : Wk → β × Wk} (b : Smm g) (u : Unt k g) : Unt k fun w => g (w.set c x) := by
  refine Unt.bind (f := fun w => ((), w.set c x)) (g := fun _ => g) (P := fun _ => True) (Smm.set c x) ?_ (fun _ => b.dead) (fun _ _ _ _ => trivial) fun _ _ => u
  intro w W hk h1 h2 h3 h4 i hi
  simp only
  unfold Wk.set
  rw [if_neg (by rw [h2.need]; decide)]
  simp only [List.getD_eq_getElem?_getD, List.getElem?_set]
  split
  · rename_i e
    unfold Kw at hc
    rw [e, hi] at hc; cases hc
  · rfl
theorem Unt.st {f : Wk → Wk} {g : Wk → β × Wk} (a : Smm fun w => ((), f w)) (ua : Unt k fun w => ((), f w)) (b : Smm g) (ub : Unt k g) : Unt k fun w => g (f w) :=
  Unt.bind (f := fun w => ((), f w)) (g := fun _ => g) (P := fun _ => True) a ua (fun _ => b.dead) (fun _ _ _ _ => trivial) fun _ _ => ub
theorem Unt.next {key lev : Int} (h : LvC key lev) : Unt k fun w => w.next key lev :=
  Unt.get_ (g := fun x w => (if x - 1 ≤ key ∨ 5 ≤ x - 1 then -1 else x - 1, w)) h.cell (fun x => Smm.ret _) fun _ x => Unt.ret _
theorem next_known {w : Wk} {key lev : Int} (h1 : w.need = none) (h : (w.next key lev).2.need = none) : Kw w.v.k (lk key lev) := get_known h1 h
theorem Unt.next_ {key lev : Int} (h : LvC key lev) {g : Int → Wk → β × Wk} (d : ∀ x w, w.need.isSome = true → (g x w).2 = w) (u : Kw k (lk key lev) → ∀ x, x = -1 ∨ key < x ∧ x < 5 → Unt k (g x)) : Unt k fun w => g (w.next key lev).1 (w.next key lev).2 :=
  Unt.bind (P := fun x => Kw k (lk key lev) ∧ (x = -1 ∨ key < x ∧ x < 5)) (Smm.next h) (Unt.next h) d (fun w hk h1 h2 => ⟨by rw [← hk]; exact next_known h1 h2, Wk.next_rng⟩) fun x q => u q.1 x q.2
theorem Unt.before {key lev : Int} (l0 : 0 ≤ lev) (l1 : lev ≤ 1) : ∀ {n : Nat} {f : Int}, -1 ≤ f → f < 5 → Unt k fun w => w.before n key f lev := by
  intro n
  induction n with
  | zero => intro f _ _; exact Unt.ret _
  | succ n ih =>
    intro f h0 h1
    refine Unt.next_ (g := fun x w => if x = -1 ∨ key ≤ x then (f, w) else w.before n key x lev) ⟨h0, h1, l0, l1⟩ (fun x w hw => ?_) fun _ x hx => ?_
    · split
      · rfl
      · obtain ⟨c, hc⟩ := Option.isSome_iff_exists.1 hw
        exact Wk.before_asked hc
    · by_cases c : x = -1 ∨ key ≤ x
      · simp only [if_pos c]; exact Unt.ret _
      · simp only [if_neg c]; exact ih (by omega) (by omega)
/-- the last place that it looked at is known -/
theorem before_known {key lev : Int} (l0 : 0 ≤ lev) (l1 : lev ≤ 1) : ∀ {n : Nat} {f : Int} {w : Wk}, -1 ≤ f → f < 5 → w.need = none → (w.before (n + 1) key f lev).2.need = none → 4 ≤ n + f → Kw w.v.k (lk (w.before (n + 1) key f lev).1 lev) := by
  intro n
  induction n with
  | zero =>
    intro f w h0 h1 hn h hf
    have r := Wk.next_rng (w := w) (key := f) (lev := lev)
    unfold Wk.before at h ⊢
    have c : (w.next f lev).1 = -1 ∨ key ≤ (w.next f lev).1 := by left; omega
    rw [if_pos c] at h ⊢
    exact next_known hn h
  | succ n ih =>
    intro f w h0 h1 hn h hf
    unfold Wk.before at h ⊢
    split
    · rename_i c; rw [if_pos c] at h; exact next_known hn h
    · rename_i c
      rw [if_neg c] at h
      have r := Wk.next_rng (w := w) (key := f) (lev := lev)
      have hl : (w.next f lev).2.need = none := by
        cases e : (w.next f lev).2.need with
        | none => rfl
        | some d => rw [Wk.before_asked e, e] at h; cases h
      have := ih (f := (w.next f lev).1) (w := (w.next f lev).2) (by omega) (by omega) hl h (by omega)
      have kk := ((Smm.next (key := f) (lev := lev) ⟨h0, h1, l0, l1⟩).keep w).1
      rw [show (w.next f lev).2.v.k = w.v.k from kk] at this; exact this
theorem Unt.bits {b : Int} : ∀ {n : Nat} {x out : Int}, -1 ≤ x → x < 5 → Unt k fun w => w.bits n x b out := by
  intro n
  induction n with
  | zero => intro x out _ _; exact Unt.ret _
  | succ n ih =>
    intro x out h0 h1
    exact Unt.ite (c := x = -1 ∨ b < x) (Unt.ret _) (Unt.next_ (g := fun y w => w.bits n y b (bor out (bshl x))) ⟨h0, h1, by decide, by decide⟩ (fun x w hw => by
      obtain ⟨c, hc⟩ := Option.isSome_iff_exists.1 hw
      exact Wk.bits_asked hc) fun _ y hy => ih (by omega) (by omega))
theorem Unt.put {a key lev : Int} (h1 : LvC key lev) (h2 : LvC a lev) : Unt k fun w => ((), w.put a key lev) :=
  Unt.get_ (g := fun _ w => (fun y w2 => ((), (Wk.set w2 (lk key lev) y).set (lk a lev) (key + 1))) (w.get (lk a lev)).1 (w.get (lk a lev)).2) h1.cell (fun _ =>
    Smm.get_ (g := fun y w2 => ((), (Wk.set w2 (lk key lev) y).set (lk a lev) (key + 1))) h2.cell fun y => Smm.set_ (g := fun w => ((), w.set (lk a lev) (key + 1))) (Smm.set _ _)) fun k1 _ =>
    Unt.get_ (g := fun y w2 => ((), (Wk.set w2 (lk key lev) y).set (lk a lev) (key + 1))) h2.cell (fun y => Smm.set_ (g := fun w => ((), w.set (lk a lev) (key + 1))) (Smm.set _ _)) fun k2 y =>
      Unt.set_ (g := fun w => ((), w.set (lk a lev) (key + 1))) k1 (Smm.set _ _) (Unt.set_ (g := fun w => ((), w)) k2 (Smm.ret _) (Unt.ret _))
theorem Unt.drop {a key lev : Int} (h1 : LvC key lev) (ka : Kw k (lk a lev)) : Unt k fun w => ((), w.drop a key lev) :=
  Unt.get_ (g := fun y w2 => ((), (Wk.set w2 (lk a lev) y).set (lk key lev) 0)) h1.cell (fun y => Smm.set_ (g := fun w => ((), w.set (lk key lev) 0)) (Smm.set _ _)) fun k1 y =>
    Unt.set_ (g := fun w => ((), w.set (lk key lev) 0)) ka (Smm.set _ _) (Unt.set_ (g := fun w => ((), w)) k1 (Smm.ret _) (Unt.ret _))
theorem Unt.insert {o : Op} {hi lo x : Int} (lh : LvC hi 1) (ll : LvC lo 0) (la : 0 ≤ o.a ∧ o.a < 5) : Unt k fun w => w.insert o hi lo x := by
  have l0 : LvC o.a 0 := ⟨by omega, la.2, by decide, by decide⟩
  have l1 : LvC o.a 1 := ⟨by omega, la.2, by decide, by decide⟩
  refine Unt.ite (c := x = o.a) (Unt.ret _) ?_
  by_cases h : o.x = 1
  · simp only [if_pos h]
    exact Unt.st (f := fun w => w.put lo o.a 0) (g := fun w => ((⟨0, o.a⟩ : Answer), w.put hi o.a 1)) (Smm.put l0 ll) (Unt.put l0 ll) (Smm.st (f := fun w => w.put hi o.a 1) (g := fun w => (_, w)) (Smm.put l1 lh) (Smm.ret _))
      (Unt.st (f := fun w => w.put hi o.a 1) (g := fun w => (_, w)) (Smm.put l1 lh) (Unt.put l1 lh) (Smm.ret _) (Unt.ret _))
  · simp only [if_neg h]
    exact Unt.st (f := fun w => w.put lo o.a 0) (g := fun w => (_, w)) (Smm.put l0 ll) (Unt.put l0 ll) (Smm.ret _) (Unt.ret _)
theorem Unt.erase {o : Op} {hi lo x : Int} (lh : LvC hi 1) (ll : LvC lo 0) (la : 0 ≤ o.a ∧ o.a < 5) (kl : Kw k (lk lo 0)) : Unt k fun w => w.erase o hi lo x := by
  have l0 : LvC o.a 0 := ⟨by omega, la.2, by decide, by decide⟩
  have l1 : LvC o.a 1 := ⟨by omega, la.2, by decide, by decide⟩
  refine Unt.ite (c := x = o.a) ?_ (Unt.ret _)
  have sg : ∀ y, Smm fun w2 => ((⟨0, o.a⟩ : Answer), if y = o.a then Wk.drop w2 hi o.a 1 else w2) := fun y => by
    by_cases h : y = o.a
    · simp only [if_pos h]; exact Smm.st (f := fun w => w.drop hi o.a 1) (g := fun w => (_, w)) (Smm.drop l1) (Smm.ret _)
    · simp only [if_neg h]; exact Smm.ret _
  refine Unt.st (f := fun w => w.drop lo o.a 0) (g := fun w => (fun y w2 => ((⟨0, o.a⟩ : Answer), if y = o.a then Wk.drop w2 hi o.a 1 else w2)) (w.next hi 1).1 (w.next hi 1).2) (Smm.drop l0) (Unt.drop l0 kl)
    (Smm.next_ (g := fun y w2 => ((⟨0, o.a⟩ : Answer), if y = o.a then Wk.drop w2 hi o.a 1 else w2)) lh fun y _ => sg y) ?_
  refine Unt.next_ (g := fun y w2 => ((⟨0, o.a⟩ : Answer), if y = o.a then Wk.drop w2 hi o.a 1 else w2)) lh (fun y w hw => (sg y).dead w hw) fun kh y _ => ?_
  by_cases h : y = o.a
  · simp only [if_pos h]; exact Unt.st (f := fun w => w.drop hi o.a 1) (g := fun w => (_, w)) (Smm.drop l1) (Unt.drop l1 kh) (Smm.ret _) (Unt.ret _)
  · simp only [if_neg h]; exact Unt.ret _
/-- what a key's operation does behind both searches -/
def skG (o : Op) (hi lo at_ : Int) (w : Wk) : Answer × Wk := if o.kind = 8 then ((⟨0, if at_ = o.a then 1 else 0⟩ : Answer), w) else
      if o.kind = 10 then (⟨0, (Wk.bits 7 w at_ o.b 0).1⟩, (Wk.bits 7 w at_ o.b 0).2) else
      if o.kind = 6 then w.insert o hi lo at_ else w.erase o hi lo at_
theorem skG_dead {o : Op} {hi lo x : Int} {w : Wk} (hw : w.need.isSome = true) : (skG o hi lo x w).2 = w := by
  obtain ⟨c, hc⟩ := Option.isSome_iff_exists.1 hw
  unfold skG
  split
  · rfl
  · split
    · exact Wk.bits_asked hc
    · split
      · unfold Wk.insert
        split
        · rfl
        · simp only [Wk.put_asked hc]; split <;> rfl
      · unfold Wk.erase
        split
        · simp only [Wk.drop_asked hc, Wk.next_asked hc]; split <;> rfl
        · rfl
theorem Unt.skip {o : Op} (la : 0 ≤ o.a ∧ o.a < 5) : Unt k fun w => w.skip o := by
  refine Unt.ite (c := o.kind = 9) (Unt.next_ (g := fun x w => ((if x = -1 then ⟨2, 0⟩ else ⟨0, x⟩ : Answer), w)) ⟨by decide, by decide, by decide, by decide⟩ (fun _ _ _ => rfl) fun _ x _ => Unt.ret _) ?_
  have d1 : ∀ lo hi w, w.need.isSome = true → ((fun at_ w => skG o hi lo at_ w) (Wk.next w lo 0).1 (w.next lo 0).2).2 = w := fun lo hi w hw => by
    obtain ⟨c, hc⟩ := Option.isSome_iff_exists.1 hw
    simp only [Wk.next_asked hc]
    exact skG_dead hw
  refine Unt.bind (f := fun w => w.before 7 o.a (-1) 1) (P := fun x => -1 ≤ x ∧ x < 5)
    (g := fun hi w => (fun lo w => (fun at_ w => skG o hi lo at_ w) (w.next lo 0).1 (w.next lo 0).2) (w.before 7 o.a hi 0).1 (w.before 7 o.a hi 0).2)
    (Smm.before (by decide) (by decide) (by decide) (by decide)) (Unt.before (by decide) (by decide) (by decide) (by decide)) (fun x w hw => ?_) (fun w _ _ _ => Wk.before_rng (by decide) (by decide)) fun hi hh => ?_
  · obtain ⟨c, hc⟩ := Option.isSome_iff_exists.1 hw
    have := d1 (Wk.before 7 w o.a x 0).1 x w hw
    simp only [Wk.before_asked hc] at this ⊢
    exact this
  refine Unt.bind (f := fun w => w.before 7 o.a hi 0) (P := fun x => (-1 ≤ x ∧ x < 5) ∧ Kw k (lk x 0))
    (g := fun lo w => (fun at_ w => skG o hi lo at_ w) (w.next lo 0).1 (w.next lo 0).2)
    (Smm.before (by decide) (by decide) hh.1 hh.2) (Unt.before (by decide) (by decide) hh.1 hh.2) (fun x w hw => d1 x hi w hw) (fun w hk h1 h2 => ⟨Wk.before_rng hh.1 hh.2, by rw [← hk]; exact before_known (n := 6) (by decide) (by decide) hh.1 hh.2 h1 h2 (by omega)⟩) fun lo hl => ?_
  refine Unt.next_ (g := fun at_ w => skG o hi lo at_ w) ⟨hl.1.1, hl.1.2, by decide, by decide⟩ (fun x w hw => skG_dead hw) fun kl x hx => ?_
  refine Unt.ite (Unt.ret _) (Unt.ite ?_ (Unt.ite ?_ ?_))
  · exact Unt.bind (f := fun w => w.bits 7 x o.b 0) (g := fun y w => ((⟨0, y⟩ : Answer), w)) (P := fun _ => True) (Smm.bits (by omega) (by omega)) (Unt.bits (by omega) (by omega)) (fun _ _ _ => rfl) (fun _ _ _ _ => trivial) fun y _ => Unt.ret _
  · exact Unt.insert ⟨hh.1, hh.2, by decide, by decide⟩ ⟨hl.1.1, hl.1.2, by decide, by decide⟩ la
  · exact Unt.erase ⟨hh.1, hh.2, by decide, by decide⟩ ⟨hl.1.1, hl.1.2, by decide, by decide⟩ la hl.2
theorem Unt.sum : ∀ {n : Nat} {i all : Int}, 0 ≤ i → i + n ≤ 16 → Unt k fun w => w.sum n i all := by
  intro n
  induction n with
  | zero => intro i all _ _; exact Unt.ret _
  | succ n ih =>
    intro i all h0 h1
    exact Unt.get_ (g := fun x w => w.sum n (i + 1) (all + max 0 (x - 1))) ⟨h0, by omega⟩ (fun x => Smm.sum (by omega) (by omega)) fun _ x => ih (by omega) (by omega)
theorem Unt.bank {o : Op} (ho : Bk o) : Unt k fun w => w.bank o := by
  obtain ⟨⟨a0, a1⟩, ⟨b0, b1⟩, x0, x1⟩ := ho
  have one : ∀ (a : Answer) (c x : Int), Smm fun w => (a, Wk.set w c x) := fun a c x => Smm.set_ (g := fun w => (a, w)) (Smm.ret a)
  have oneU : ∀ (a : Answer) (c x : Int), Kw k c → Unt k fun w => (a, Wk.set w c x) := fun a c x h => Unt.set_ (g := fun w => (a, w)) h (Smm.ret a) (Unt.ret a)
  refine Unt.ite (c := o.kind = 5) (Unt.bind (f := fun w => w.sum 4 0 0) (g := fun y w => ((⟨0, y⟩ : Answer), w)) (P := fun _ => True) (Smm.sum (by decide) (by decide)) (Unt.sum (by decide) (by decide)) (fun _ _ _ => rfl) (fun _ _ _ _ => trivial) fun y _ => Unt.ret _) ?_
  have g2s : ∀ g g2 : Int, Smm fun w => if g = 0 ∨ g2 = 0 then ((⟨2, 0⟩ : Answer), w) else
      if g - 1 < o.x then (⟨3, 0⟩, w) else
      if o.a = o.b then (⟨0, g - 1⟩, w) else
      if 1048575 < g2 - 1 + o.x then (⟨4, 0⟩, w) else
      (⟨0, g - 1 - o.x⟩, (Wk.set w o.b (g2 - 1 + o.x + 1)).set o.a (g - 1 - o.x + 1)) := fun g g2 =>
    Smm.ite (Smm.ret _) (Smm.ite (Smm.ret _) (Smm.ite (Smm.ret _) (Smm.ite (Smm.ret _) (Smm.set_ (g := fun w => ((⟨0, g - 1 - o.x⟩ : Answer), Wk.set w o.a (g - 1 - o.x + 1))) (one _ _ _)))))
  refine Unt.get_ (g := fun g w => if o.kind = 0 then (if 0 < g then ((⟨1, 0⟩ : Answer), w) else (⟨0, o.x⟩, w.set o.a (o.x + 1))) else
    if o.kind = 4 then (fun g2 w =>
      if g = 0 ∨ g2 = 0 then ((⟨2, 0⟩ : Answer), w) else
      if g - 1 < o.x then (⟨3, 0⟩, w) else
      if o.a = o.b then (⟨0, g - 1⟩, w) else
      if 1048575 < g2 - 1 + o.x then (⟨4, 0⟩, w) else
      (⟨0, g - 1 - o.x⟩, (Wk.set w o.b (g2 - 1 + o.x + 1)).set o.a (g - 1 - o.x + 1))) (w.get o.b).1 (w.get o.b).2
    else
    if g = 0 then (⟨2, 0⟩, w) else
    if o.kind = 1 then (⟨0, g - 1⟩, w.set o.a 0) else
    if o.kind = 2 then (if 1048575 < g - 1 + o.x then (⟨4, 0⟩, w) else (⟨0, g - 1 + o.x⟩, w.set o.a (g - 1 + o.x + 1))) else
    if g - 1 < o.x then (⟨3, 0⟩, w) else (⟨0, g - 1 - o.x⟩, w.set o.a (g - 1 - o.x + 1))) ⟨a0, by omega⟩ (fun g => ?_) fun ka g => ?_
  · refine Smm.ite (Smm.ite (Smm.ret _) (one _ _ _)) (Smm.ite ?_ (Smm.ite (Smm.ret _) (Smm.ite (one _ _ _) (Smm.ite (Smm.ite (Smm.ret _) (one _ _ _)) (Smm.ite (Smm.ret _) (one _ _ _))))))
    exact Smm.get_ (g := fun g2 w => if g = 0 ∨ g2 = 0 then ((⟨2, 0⟩ : Answer), w) else
      if g - 1 < o.x then (⟨3, 0⟩, w) else
      if o.a = o.b then (⟨0, g - 1⟩, w) else
      if 1048575 < g2 - 1 + o.x then (⟨4, 0⟩, w) else
      (⟨0, g - 1 - o.x⟩, (Wk.set w o.b (g2 - 1 + o.x + 1)).set o.a (g - 1 - o.x + 1))) ⟨b0, by omega⟩ fun g2 => g2s g g2
  · refine Unt.ite (Unt.ite (Unt.ret _) (oneU _ _ _ ka)) (Unt.ite ?_ (Unt.ite (Unt.ret _) (Unt.ite (oneU _ _ _ ka) (Unt.ite (Unt.ite (Unt.ret _) (oneU _ _ _ ka)) (Unt.ite (Unt.ret _) (oneU _ _ _ ka))))))
    refine Unt.get_ (g := fun g2 w => if g = 0 ∨ g2 = 0 then ((⟨2, 0⟩ : Answer), w) else
      if g - 1 < o.x then (⟨3, 0⟩, w) else
      if o.a = o.b then (⟨0, g - 1⟩, w) else
      if 1048575 < g2 - 1 + o.x then (⟨4, 0⟩, w) else
      (⟨0, g - 1 - o.x⟩, (Wk.set w o.b (g2 - 1 + o.x + 1)).set o.a (g - 1 - o.x + 1))) ⟨b0, by omega⟩ (fun g2 => g2s g g2) fun kb g2 => ?_
    refine Unt.ite (Unt.ret _) (Unt.ite (Unt.ret _) (Unt.ite (Unt.ret _) (Unt.ite (Unt.ret _) ?_)))
    exact Unt.set_ (g := fun w => ((⟨0, g - 1 - o.x⟩ : Answer), Wk.set w o.a (g - 1 - o.x + 1))) kb (one _ _ _) (oneU _ _ _ ka)
end
end Go.Proofs.YtfphpafkhljncaaGreat
namespace Go.Proofs.YtfphpafkhljncaaGreat
open Go GW Go.Proofs
set_option linter.unusedVariables false
set_option linter.unusedSimpArgs false
structure Vw.Fl (F : Vw) : Prop where
  ln : F.n.length = 16
  all : ∀ i : Nat, i < 16 → F.k.getD i false = true
def Op.run (o : Op) (w : Wk) : Answer × Wk := if o.kind ≤ 5 then w.bank o else w.skip o
theorem Op.run_smm {o : Op} (m : o.may = true) : Smm o.run := by
  have : o.run = fun w => if o.kind ≤ 5 then w.bank o else w.skip o := rfl
  rw [this]
  by_cases h : o.kind ≤ 5
  · simp only [if_pos h]; exact Smm.bank (Op.may_bk m h)
  · simp only [if_neg h]; exact Smm.skip (Op.may_sk m)
theorem Op.run_unt {o : Op} (m : o.may = true) {k : List Bool} : Unt k o.run := by
  have : o.run = fun w => if o.kind ≤ 5 then w.bank o else w.skip o := rfl
  rw [this]
  by_cases h : o.kind ≤ 5
  · simp only [if_pos h]; exact Unt.bank (Op.may_bk m h)
  · simp only [if_neg h]; exact Unt.skip (Op.may_sk m)
theorem Vw.one_run {v : Vw} {o : Op} : v.one o = match (o.run ⟨v, none⟩).2.need with
  | some c => ⟨some c, v, []⟩
  | none => ⟨none, if (o.run ⟨v, none⟩).1.code = 0 then (o.run ⟨v, none⟩).2.v else v, [(o.run ⟨v, none⟩).1]⟩ := rfl
theorem Vw.one_full {F : Vw} {o : Op} (m : o.may = true) (f : F.Fl) : (F.one o).need = none ∧ (F.one o).view.Fl := by
  have h := (Op.run_smm m).full ⟨F, none⟩ ⟨f.ln, rfl, f.all⟩
  rw [Vw.one_run, h.need]
  refine ⟨rfl, ?_⟩
  simp only
  split
  · exact ⟨h.ln, h.all⟩
  · exact f
theorem Vw.one_unk {v : Vw} {o : Op} (m : o.may = true) {c : Int} (h : (v.one o).need = some c) : v.k.getD c.toNat false = false := by
  rw [Vw.one_run] at h
  cases e : (o.run ⟨v, none⟩).2.need with
  | none => rw [e] at h; cases h
  | some d => rw [e] at h; cases h; exact (Op.run_smm m).unk ⟨v, none⟩ c rfl e
theorem Vw.one_sim {v F : Vw} {o : Op} (m : o.may = true) (f : F.Fl) (kn : v.Kn F) (h : (v.one o).need = none) : (v.one o).ans = (F.one o).ans ∧ (v.one o).view.Kn (F.one o).view ∧ (v.one o).view.k = v.k ∧ (v.one o).view.w = v.w ∧
    ∀ i : Nat, v.k.getD i false = false → (F.one o).view.n.getD i 0 = F.n.getD i 0 := by
  have hf := (Op.run_smm m).full ⟨F, none⟩ ⟨f.ln, rfl, f.all⟩
  have hn : (o.run ⟨v, none⟩).2.need = none := by
    rw [Vw.one_run] at h
    cases e : (o.run ⟨v, none⟩).2.need with
    | none => rfl
    | some d => rw [e] at h; cases h
  have s := (Op.run_smm m).sim ⟨v, none⟩ ⟨F, none⟩ rfl ⟨f.ln, rfl, f.all⟩ kn hn
  have u := Op.run_unt m (k := v.k) ⟨v, none⟩ ⟨F, none⟩ rfl rfl ⟨f.ln, rfl, f.all⟩ kn hn
  have kp := (Op.run_smm m).keep ⟨v, none⟩
  rw [Vw.one_run, Vw.one_run, hn, hf.need]
  simp only
  rw [s.1]
  by_cases c : (o.run ⟨F, none⟩).1.code = 0
  · rw [if_pos c, if_pos c]; exact ⟨rfl, s.2, kp.1, kp.2, u⟩
  · rw [if_neg c, if_neg c]; exact ⟨rfl, kn, rfl, rfl, fun _ _ => rfl⟩
theorem Vw.doFrom_sim {v F : Vw} (kn0 : v.Kn F) : ∀ {os : List Op} {w W : Vw} {rs : List Answer}, (∀ o ∈ os, o.may = true) → W.Fl → w.Kn W → w.k = v.k → w.w = v.w → (∀ i : Nat, v.k.getD i false = false → W.n.getD i 0 = F.n.getD i 0) →
    (∀ c, (v.doFrom os w rs).need = some c → v.k.getD c.toNat false = false) ∧ ((v.doFrom os w rs).need = none → (F.doFrom os W rs).need = none ∧ (v.doFrom os w rs).ans = (F.doFrom os W rs).ans ∧ (v.doFrom os w rs).view.Kn (F.doFrom os W rs).view ∧
      (v.doFrom os w rs).view.k = v.k ∧ (v.doFrom os w rs).view.w = v.w ∧ ∀ i : Nat, v.k.getD i false = false → (F.doFrom os W rs).view.n.getD i 0 = F.n.getD i 0) := by
  intro os
  induction os with
  | nil => intro w W rs _ f kn hk hw hu; exact ⟨(fun c h => by cases h), fun _ => ⟨rfl, rfl, kn, hk, hw, hu⟩⟩
  | cons o os ih =>
    intro w W rs hm f kn hk hw hu
    have m := hm o (by simp)
    have ff := Vw.one_full m f
    unfold Vw.doFrom
    cases e : (w.one o).need with
    | some d =>
      refine ⟨fun c h => ?_, fun h => by cases h⟩
      cases h
      have := Vw.one_unk m e
      rw [hk] at this; exact this
    | none =>
      have s := Vw.one_sim m f kn e
      rw [ff.1]
      simp only
      rw [s.1]
      split
      · exact ih (fun o ho => hm o (List.mem_cons_of_mem _ ho)) ff.2 s.2.1 (by rw [s.2.2.1, hk]) (by rw [s.2.2.2.1, hw]) fun i hi => by
          rw [s.2.2.2.2 i (by rw [hk]; exact hi), hu i hi]
      · exact ⟨(fun c h => by cases h), fun _ => ⟨rfl, rfl, kn0, rfl, rfl, fun _ _ => rfl⟩⟩
theorem Txn.may_mem {ops : List Op} (m : Txn.may ops = true) : ∀ o ∈ ops, o.may = true := by
  unfold Txn.may at m
  simp only [Bool.and_eq_true, List.all_eq_true] at m
  exact m.1
theorem Vw.do_sim {v F : Vw} {ops : List Op} (m : Txn.may ops = true) (f : F.Fl) (kn : v.Kn F) :
    (∀ c, (v.do_ ops).need = some c → v.k.getD c.toNat false = false) ∧ ((v.do_ ops).need = none → (F.do_ ops).need = none ∧ (v.do_ ops).ans = (F.do_ ops).ans ∧ (v.do_ ops).view.Kn (F.do_ ops).view ∧
      (v.do_ ops).view.k = v.k ∧ (v.do_ ops).view.w = v.w ∧ ∀ i : Nat, v.k.getD i false = false → (F.do_ ops).view.n.getD i 0 = F.n.getD i 0) :=
  Vw.doFrom_sim kn (Txn.may_mem m) f kn rfl rfl fun _ _ => rfl
theorem Vw.rowsFrom_mem {v : Vw} {d : Sw} : ∀ {n i : Nat}, d ∈ v.rowsFrom i n ↔ ∃ j : Nat, i ≤ j ∧ j < i + n ∧ v.k.getD j false = true ∧ d = ⟨j, v.w.getD j 0, v.n.getD j 0⟩ := by
  intro n
  induction n with
  | zero =>
    intro i
    refine ⟨(fun h => by cases h), fun ⟨j, h1, h2, _⟩ => by omega⟩
  | succ n ih =>
    intro i
    unfold Vw.rowsFrom
    rw [List.mem_append, ih]
    constructor
    · rintro (h | ⟨j, h1, h2, h3⟩)
      · split at h
        · rename_i c
          rw [List.mem_singleton] at h
          exact ⟨i, by omega, by omega, c, h⟩
        · cases h
      · exact ⟨j, by omega, by omega, h3⟩
    · rintro ⟨j, h1, h2, h3, h4⟩
      by_cases e : j = i
      · subst e; left; rw [if_pos h3, List.mem_singleton]; exact h4
      · right; exact ⟨j, by omega, by omega, h3, h4⟩
def unkn (k : List Bool) : Nat := (k.filter fun b => !b).length
theorem unkn_set : ∀ {k : List Bool} {i : Nat}, i < k.length → k.getD i false = false → unkn (k.set i true) + 1 = unkn k := by
  intro k
  induction k with
  | nil => intro i h; simp at h
  | cons b k ih =>
    intro i h e
    cases i with
    | zero =>
      simp at e; subst e
      simp [unkn]
    | succ i =>
      simp only [List.length_cons] at h
      have := ih (i := i) (by omega) (by simpa using e)
      unfold unkn at this ⊢
      simp only [List.set_cons_succ, List.filter_cons]
      split <;> first | omega | (simp only [List.length_cons]; omega)
section
variable {A : Ar} {F : Vw}
/-- words that hold what a view that knows all tells -/
structure Vw.Mem (F : Vw) (A : Ar) : Prop where
  fl : F.Fl
  val : ∀ i : Nat, i < 16 → Vw.val (F.n.getD i 0)
  at_ : ∀ i : Nat, i < 16 → A.at i = F.n.getD i 0 * 4
theorem Vw.Mem.ld (m : F.Mem A) (ok : A.ok) {i : Int} (h0 : 0 ≤ i) (h1 : i < 634) : F.Mem (A.ld i) :=
  ⟨m.fl, m.val, fun j hj => by rw [at_ld ok h0 h1 (by omega) (by omega)]; exact m.at_ j hj⟩
/-- what a view knows, so far -/
structure Vw.Rd (v F : Vw) : Prop where
  ok : v.ok
  kn : v.Kn F
  was : ∀ i : Nat, v.k.getD i false = true → v.w.getD i 0 = F.n.getD i 0
theorem Vw.Rd.know {v : Vw} (r : v.Rd F) {c : Nat} (hc : c < 16) (f : F.Fl) (hv : Vw.val (F.n.getD c 0)) : (v.know c (F.n.getD c 0)).Rd F := by
  have lk := r.ok.lk; have lw := r.ok.lw; have ln := r.ok.ln
  refine ⟨Vw.know_ok r.ok hv, ⟨by simp [Vw.know, ln], fun i hi => ?_⟩, fun i hi => ?_⟩
  · unfold Vw.know at hi ⊢
    simp only [List.getD_eq_getElem?_getD, List.getElem?_set, Int.toNat_natCast] at hi ⊢
    split at hi
    · rename_i e; rw [if_pos e, if_pos (by omega), ← e]; rfl
    · rename_i e; rw [if_neg e]
      have := r.kn.same i (by rw [List.getD_eq_getElem?_getD]; exact hi)
      simpa [List.getD_eq_getElem?_getD] using this
  · unfold Vw.know at hi ⊢
    simp only [List.getD_eq_getElem?_getD, List.getElem?_set, Int.toNat_natCast] at hi ⊢
    split at hi
    · rename_i e; rw [if_pos e, if_pos (by omega), ← e]; rfl
    · rename_i e; rw [if_neg e]
      have := r.was i (by rw [List.getD_eq_getElem?_getD]; exact hi)
      simpa [List.getD_eq_getElem?_getD] using this
theorem Vw.Rd.zero (h : F.Fl) : vwZ.Rd F := by
  have : ∀ i : Nat, vwZ.k.getD i false = false := fun i => by
    rw [List.getD_eq_getElem?_getD]
    cases e : vwZ.k[i]? with
    | none => rfl
    | some x => exact List.eq_of_mem_replicate (List.mem_of_getElem? e)
  exact ⟨vwZ_ok, ⟨rfl, fun i hi => by rw [this i] at hi; cases hi⟩, fun i hi => by rw [this i] at hi; cases hi⟩
/-- it reads until it knows all that its body asks for -/
theorem reads_all {ops : List Op} (mo : Txn.may ops = true) : ∀ (u : Nat) {x : At} {v : Vw} {c : Int} {A : Ar}, unkn v.k = u → A.ok → F.Mem A → v.Rd F → (v.do_ ops).need = some c → x.over = false → x.ops = ops → x.st = .rd (.new x.t x.q c) v →
    ∃ n y, ∃ v' : Vw, ∃ A', Ago x A n y A' ∧ 1 ≤ n ∧ n ≤ u ∧ A'.ok ∧ F.Mem A' ∧ (∀ j, 0 ≤ j → j < 634 → A'.at j = A.at j) ∧ v'.Rd F ∧ (v'.do_ ops).need = none ∧ y.over = false ∧ y.st = .wr (newWr x.slot x.gen (v'.do_ ops).view.rows) ∧ y.ans = (v'.do_ ops).ans ∧
      y.t = x.t ∧ y.q = x.q ∧ y.slot = x.slot ∧ y.gen = x.gen ∧ y.won = x.won ∧ y.ops = ops := by
  intro u
  induction u with
  | zero =>
    intro x v c A hu hA hm hv hn ho hops hs
    have uk := (Vw.do_sim mo hm.fl hv.kn).1 c hn
    have cr := ((Vw.do_ok hv.ok mo).2 c hn).1
    have := unkn_set (k := v.k) (i := c.toNat) (by have := hv.ok.lk; omega) uk
    omega
  | succ u ih =>
    intro x v c A hu hA hm hv hn ho hops hs
    have uk := (Vw.do_sim mo hm.fl hv.kn).1 c hn
    obtain ⟨c0, c1⟩ := ((Vw.do_ok hv.ok mo).2 c hn).1
    have us := unkn_set (k := v.k) (i := c.toNat) (by have := hv.ok.lk; omega) uk
    obtain ⟨k, rfl⟩ := Int.eq_ofNat_of_zero_le c0
    have hk : k < 16 := by omega
    have val := hm.val k hk
    have st := At.step_rd (A := A) (v := v) (t := x.t) (q := x.q) (c := k) (y := F.n.getD k 0) ho hs (by rw [hm.at_ k hk]; exact plainOf_val val.1 val.2)
    have hv2 := hv.know hk hm.fl val
    have hA2 := hA.ld (k : Int)
    have hm2 := hm.ld hA (i := (k : Int)) (by omega) (by omega)
    have at2 : ∀ j, 0 ≤ j → j < 634 → (A.ld k).at j = A.at j := fun j j0 j1 => at_ld hA (by omega) (by omega) j0 j1
    have hu2 : unkn (v.know k (F.n.getD k 0)).k = u := by
      show unkn (v.k.set (k : Int).toNat true) = u
      omega
    unfold At.known at st
    rw [show ({ x with q := x.q, ts := -1, tg := 0, st := .rd ⟨x.t, x.q, (k : Int), F.n.getD k 0, none, -1, 0, true⟩ v } : At).ops = ops from hops] at st
    cases hn2 : ((v.know k (F.n.getD k 0)).do_ ops).need with
    | none =>
      unfold At.asked at st
      rw [hn2] at st
      exact ⟨1, _, v.know k (F.n.getD k 0), A.ld k, Ago.one ho st ⟨rfl, rfl, .inl rfl⟩, by omega, by omega, hA2, hm2, at2, hv2, hn2, ho, rfl, rfl, rfl, rfl, rfl, rfl, rfl, rfl⟩
    | some d =>
      have dv := ((Vw.do_ok hv2.ok mo).2 d hn2).2.1
      unfold At.asked at st
      rw [hn2] at st
      simp only at st
      rw [dv] at st
      obtain ⟨n, y, v', A', g, n1, n2, r⟩ := ih (x := { x with q := x.q, ops := ops, ts := -1, tg := 0, st := .rd (.new x.t x.q d) (v.know k (F.n.getD k 0)) }) hu2 hA2 hm2 hv2 hn2 ho rfl rfl
      refine ⟨1 + n, y, v', A', (Ago.one ho st ⟨rfl, rfl, .inl rfl⟩).trans g, by omega, by omega, r.1, r.2.1, fun j j0 j1 => by rw [r.2.2.1 j j0 j1, at2 j j0 j1], r.2.2.2⟩
theorem Vw.rows_get {v : Vw} {i : Nat} {d : Sw} (h : v.rows[i]? = some d) : ∃ j : Nat, j < 16 ∧ v.k.getD j false = true ∧ d = ⟨j, v.w.getD j 0, v.n.getD j 0⟩ := by
  obtain ⟨j, _, h2, h3⟩ := Vw.rowsFrom_mem.1 (List.mem_of_getElem? h)
  exact ⟨j, by omega, h3⟩
/-- alone it wins -/
theorem attempt_alone {ops : List Op} {t q slot gen : Int} (m : At.may t q slot gen ops) (hA : A.ok) (hm : F.Mem A) :
    ∃ n x' A', Ago (At.new t q slot gen ops) A n x' A' ∧ 1 ≤ n ∧ n ≤ 199 ∧ x'.over = true ∧ x'.won = true ∧ x'.ans = (F.do_ ops).ans ∧ x'.ok ∧ A'.ok ∧ (∀ i : Nat, i < 16 → A'.at i = (F.do_ ops).view.n.getD i 0 * 4) ∧
      (∀ j, 16 ≤ j → j < 634 → (j < baseOf slot ∨ baseOf slot + 50 ≤ j) → A'.at j = A.at j) ∧ x'.ts = slot ∧ x'.tg = gen := by
  obtain ⟨⟨t0, t1⟩, ⟨q0, q1⟩, ml, mo⟩ := m
  have mm : At.may t q slot gen ops := ⟨⟨t0, t1⟩, ⟨q0, q1⟩, ml, mo⟩
  have hl := ml
  unfold lifeMay at hl
  simp only [decide_eq_true_eq] at hl
  obtain ⟨c, c0, c1, e⟩ := vwZ_do mo
  have hs : (At.new t q slot gen ops).st = .rd (.new t q c) vwZ := by
    show AtSt.rd (.new t q (needN (vwZ.do_ ops).need)) vwZ = _
    rw [e]; rfl
  obtain ⟨n, y, v, B, g, n1, n2, okB, mB, atB, rd, hn, yo, ys, ya, yt, yq, ysl, yg, yw, yops⟩ := reads_all (F := F) mo (unkn vwZ.k) (x := .new t q slot gen ops) rfl hA hm (Vw.Rd.zero hm.fl) (by rw [e]) rfl rfl hs
  have hu : unkn vwZ.k = 16 := by decide
  have sim := (Vw.do_sim mo hm.fl rd.kn).2 hn
  obtain ⟨s1, s2, s3, s4, s5, s6⟩ := sim
  have vok := (Vw.do_ok rd.ok mo).1
  generalize hmv : v.do_ ops = M at *
  have ms := Vw.rows_may vok
  have rlen := sw_len ms
  have dl := descRow_len gen M.view.rows
  have rr := descRow_range hl.2.2.1 hl.2.2.2 ms
  have hb : baseOf slot = 34 + slot * 50 := rfl
  obtain ⟨u, g2, us, uS⟩ := Ago.wrAll (x := y) (a := baseOf slot) (l := descRow gen M.view.rows) (A := B) yo ys (fun e => by rw [e] at dl; simp at dl; omega)
  have okC := putRow_ok (a := baseOf slot) okB rr
  have atC := at_putRow (a := baseOf slot) okB rr (by omega) (by rw [dl]; omega)
  rw [dl] at g2 atC
  generalize putRow (baseOf slot) (descRow gen M.view.rows) B = C at g2 okC atC
  have on : On C (Wh.new slot gen) 0 M.view.rows := ⟨okC, ⟨hl.1, hl.2.1, hl.2.2.1, hl.2.2.2⟩, ms, Dsc.of_row fun j j0 j1 => by
    have j2 : j < ((2 + 3 * M.view.rows.length : Nat) : Int) := by rw [← dl]; exact j1
    show C.at (baseOf slot + j) = _
    rw [atC _ (by omega) (by omega), if_pos (by omega)]; congr 1; omega⟩
  rw [yt, yq, ysl, yg] at us
  have okH : (Help.new t q (.who (.new slot gen))).ok := ⟨t0, t1, q0, q1, by constructor <;> simp [Help.new], zero64, fun _ => ⟨Wh.new_ok ⟨hl.1, hl.2.1, hl.2.2.1, hl.2.2.2⟩, (fun _ h => by cases h), by simp [Help.new]⟩⟩
  have cellC : ∀ i : Nat, i < 16 → C.at i = F.n.getD i 0 * 4 := fun i hi => by
    rw [atC _ (by omega) (by omega), if_neg (by omega)]; exact mB.at_ i hi
  obtain ⟨f, D, g3, on3, c3, r3⟩ := alone_wins (s := slot) (g := gen) (H := .new t q (.who (.new slot gen))) on rfl rfl rfl rfl rfl okH fun i d hd => by
    obtain ⟨j, hj, kj, rfl⟩ := Vw.rows_get hd
    show C.at (j : Int) = M.view.w.getD j 0 * 4
    rw [cellC j hj, s5, rd.was j (by rw [← s4]; exact kj)]
  have g4 := Ago.help g3 (by omega) uS.over us rfl (by show slot = u.slot; rw [uS.slot, ysl]; rfl) (by show gen = u.gen; rw [uS.gen, yg]; rfl)
  have all := (g.trans g2).trans g4
  have fin := all.ok (At.new_ok mm) hA
  refine ⟨_, _, D, all, by omega, by omega, rfl, rfl, ?_, fin.1, fin.2, fun i hi => ?_, fun j j0 j1 jb => ?_, rfl, rfl⟩
  · show u.ans = _
    rw [uS.ans, ya, s2]
  · by_cases k : v.k.getD i false = true
    · have hd : (⟨(i : Int), M.view.w.getD i 0, M.view.n.getD i 0⟩ : Sw) ∈ M.view.rows := Vw.rowsFrom_mem.2 ⟨i, by omega, by omega, by rw [s4]; exact k, rfl⟩
      obtain ⟨p, hp, ep⟩ := List.mem_iff_getElem.1 hd
      have := c3 p _ (by rw [List.getElem?_eq_getElem hp, ep])
      simp only at this
      rw [this, s3.same i (by rw [s4]; exact k)]
    · have k : v.k.getD i false = false := by simpa using k
      rw [r3 _ (by omega) (by omega) (by omega) (fun p d hd => by
        obtain ⟨j, hj, kj, rfl⟩ := Vw.rows_get hd
        rw [s4] at kj
        intro e
        have : j = i := by simp only at e; omega
        rw [this, k] at kj; cases kj), cellC i hi, s6 i k]
  · rw [r3 j (by omega) j1 (by omega) (fun p d hd => by
      obtain ⟨i, hi, _, rfl⟩ := Vw.rows_get hd
      simp only; omega), atC _ (by omega) j1, if_neg (by omega), atB j (by omega) j1]
end
end Go.Proofs.YtfphpafkhljncaaGreat
namespace Go.Proofs.YtfphpafkhljncaaGreat
open Go GW Go.Proofs
set_option linter.unusedVariables false
set_option linter.unusedSimpArgs false
/-- the words of the free list are as they were -/
def Kp (A B : Ar) : Prop := ∀ i, 16 ≤ i → i < 29 → B.at i = A.at i
theorem Kp.refl (A : Ar) : Kp A A := fun _ _ _ => rfl
theorem Acc.kp {P : Int → Prop} {A B : Ar} (a : Acc P A B) (hA : A.ok) (h : ∀ i, P i → i < 16 ∨ 29 ≤ i) : Kp A B := by
  intro j h0 h1
  cases a with
  | none => rfl
  | ld i i0 i1 => exact at_ld hA i0 i1 (by omega) (by omega)
  | put i x i0 i1 p hx => have := h i p; rw [at_put hA i0 i1 (by omega) (by omega), if_neg (by omega)]
  | cas i o x i0 i1 p hx => have := h i p; rw [at_cas hA i0 i1 (by omega) (by omega), if_neg (by omega)]
/-- the chain of free slots -/
def Chn (A : Ar) : Int → List Int → Prop
  | f, [] => f = 0
  | f, s :: r => f = s + 1 ∧ (0 ≤ s ∧ s < 12) ∧ ∃ w, A.at (17 + s) = w * 4 ∧ Chn A w r
theorem Chn.rng {A : Ar} {f : Int} {fr : List Int} (h : Chn A f fr) : 0 ≤ f ∧ f ≤ 12 := by
  cases fr with
  | nil => have : f = 0 := h; omega
  | cons s r => obtain ⟨h1, h2, _⟩ := h; omega
theorem Chn.cong {A B : Ar} : ∀ {fr : List Int} {f : Int}, (∀ s ∈ fr, B.at (17 + s) = A.at (17 + s)) → Chn A f fr → Chn B f fr := by
  intro fr
  induction fr with
  | nil => intro f _ h; exact h
  | cons s r ih =>
    intro f e h
    obtain ⟨h1, h2, w, h3, h4⟩ := h
    exact ⟨h1, h2, w, by rw [e s (by simp)]; exact h3, ih (fun s hs => e s (List.mem_cons_of_mem _ hs)) h4⟩
theorem Chn.mem {A : Ar} : ∀ {fr : List Int} {f : Int}, Chn A f fr → ∀ s ∈ fr, 0 ≤ s ∧ s < 12 := by
  intro fr
  induction fr with
  | nil => intro f _ s hs; cases hs
  | cons a r ih =>
    intro f h s hs
    obtain ⟨h1, h2, w, h3, h4⟩ := h
    rcases List.mem_cons.1 hs with rfl | hs
    · exact h2
    · exact ih h4 s hs
structure Fre (A : Ar) (fr : List Int) (c : Int) : Prop where
  hd : ∃ f, A.at 16 = (c * 16 + f) * 4 ∧ Chn A f fr
  nx : ∀ s, 0 ≤ s → s < 12 → ∃ w, A.at (17 + s) = w * 4 ∧ 0 ≤ w ∧ w ≤ 12
  c0 : 0 ≤ c
theorem Fre.kp {A B : Ar} {fr : List Int} {c : Int} (F : Fre A fr c) (k : Kp A B) : Fre B fr c := by
  obtain ⟨f, h1, h2⟩ := F.hd
  refine ⟨⟨f, by rw [k 16 (by decide) (by decide)]; exact h1, h2.cong fun s hs => ?_⟩, fun s h0 h1 => ?_, F.c0⟩
  · have := h2.mem s hs
    exact k _ (by omega) (by omega)
  · rw [k _ (by omega) (by omega)]; exact F.nx s h0 h1
/-- the head's word -/
theorem head_word {x c f : Int} (h : x = (c * 16 + f) * 4) (c0 : 0 ≤ c) (c1 : c < 100000) (f0 : 0 ≤ f) (f1 : f ≤ 12) : hdIs x = true ∧ valOf x / 16 = c ∧ valOf x % 16 = f := by
  have v : valOf x = c * 16 + f := by rw [h]; exact valOf_val (by omega) (by omega)
  have p : plainOf x = some (c * 16 + f) := by rw [h]; exact plainOf_val (by omega) (by omega)
  refine ⟨?_, by rw [v]; omega, by rw [v]; omega⟩
  unfold hdIs
  rw [p, v, decide_eq_true (by omega), decide_eq_true (by omega)]
  rfl
theorem next_word {x w : Int} (h : x = w * 4) (w0 : 0 ≤ w) (w1 : w ≤ 12) : nxIs x = true ∧ valOf x = w := by
  have v : valOf x = w := by rw [h]; exact valOf_val (by omega) (by omega)
  refine ⟨?_, v⟩
  unfold nxIs
  rw [v, h, plainOf_val (by omega) (by omega), decide_eq_true (by omega)]
  rfl
structure Lst.own (l : Lst) : Prop where
  ov : l.over = false
  ld : l.at_ ≠ 0 → l.word = (l.count * 16 + l.first) * 4 ∧ l.first ≤ 12
structure Push.own (p : Push) (A : Ar) : Prop where
  l : p.l.own
  st : p.l.at_ = 2 → A.at (17 + p.slot) = p.l.first * 4
structure Pop.own (p : Pop) (A : Ar) (c : Int) : Prop where
  l : p.l.own
  old : p.l.at_ ≠ 0 → p.l.count ≤ c ∧ (p.l.count = c → A.at 16 = p.l.word)
  st : p.l.at_ = 2 → p.l.count = c → A.at (17 + p.l.first - 1) = p.next * 4
  sl : p.slot = -1
def Th.hold (x : Th) : List Int := x.cache ++ (x.limbo.map Ret.slot ++ (x.ripe ++ if x.slot = -1 then [] else [x.slot]))
structure Th.own (x : Th) (A : Ar) (c : Int) : Prop where
  ri : x.next ≠ some .fre → x.ripe = [] ∧ x.push = none
  sl : x.slot ≠ -1 → x.next = some .tri ∨ x.next = some .ret
  po : x.pop ≠ none → x.next = some .tak
  push : ∀ p, x.push = some p → p.own A ∧ x.ripe.head? = some p.slot
  pop : ∀ p, x.pop = some p → p.own A c
/-- what one thread's step may do to the free list -/
def Swp (hs : Int → Prop) (A B : Ar) (c d : Int) : Prop :=
  (d = c + 1 ∧ ∀ i, 17 ≤ i → i < 29 → B.at i = A.at i) ∨
  (d = c ∧ B.at 16 = A.at 16 ∧ ∀ s, 0 ≤ s → s < 12 → ¬ hs s → B.at (17 + s) = A.at (17 + s))
theorem Swp.kp {hs : Int → Prop} {A B : Ar} {c : Int} (k : Kp A B) : Swp hs A B c c := .inr ⟨rfl, k 16 (by decide) (by decide), fun s h0 h1 _ => k _ (by omega) (by omega)⟩
theorem Th.own.kp {y : Th} {A B : Ar} {c : Int} (w : y.own A c) (oy : y.ok) (k : Kp A B) : y.own B c := by
  refine ⟨w.ri, w.sl, w.po, fun p hp => ?_, fun p hp => ?_⟩
  · obtain ⟨o, h2⟩ := w.push p hp
    have op := oy.push p hp
    have p0 := op.s0; have p1 := op.s1
    exact ⟨⟨o.l, fun h => by rw [k _ (by omega) (by omega)]; exact o.st h⟩, h2⟩
  · have o := w.pop p hp
    have op := oy.pop p hp
    refine ⟨o.l, fun h => ⟨(o.old h).1, fun q => by rw [k 16 (by decide) (by decide)]; exact (o.old h).2 q⟩, fun h q => ?_, o.sl⟩
    have f := op.f o.l.ov (by omega)
    rw [k _ (by omega) (by omega)]; exact o.st h q
/-- what a step leaves: the free list and the thread's slots -/
structure Res (x : Th) (A : Ar) (fr : List Int) (c : Int) (y : Th) (B : Ar) : Prop where
  ex : ∃ fr' d, Fre B fr' d ∧ y.own B d ∧ Swp (· ∈ x.ripe) A B c d ∧ (∀ s, fr'.count s + y.hold.count s = fr.count s + x.hold.count s) ∧ fr'.length ≤ fr.length + 1 ∧ fr.length ≤ fr'.length + 1
theorem Res.same {x y : Th} {A B : Ar} {fr : List Int} {c : Int} (F : Fre A fr c) (k : Kp A B) (w : y.own B c) (h : ∀ s, y.hold.count s = x.hold.count s) : Res x A fr c y B :=
  ⟨fr, c, F.kp k, w, .kp k, fun s => by rw [h], by omega, by omega⟩
/-- the same, of another that has the same slots -/
theorem Res.of {x x1 y : Th} {A B : Ar} {fr : List Int} {c : Int} (r : Res x1 A fr c y B) (h : ∀ s, x1.hold.count s = x.hold.count s) (hs : ∀ s, s ∈ x1.ripe → s ∈ x.ripe) : Res x A fr c y B := by
  obtain ⟨fr', d, h1, h2, h3, h4, h5⟩ := r.ex
  refine ⟨fr', d, h1, h2, ?_, fun s => by rw [h4 s, h s], h5⟩
  rcases h3 with h3 | ⟨e1, e2, e3⟩
  · exact .inl h3
  · exact .inr ⟨e1, e2, fun s h0 h1 hn => e3 s h0 h1 fun q => hn (hs s q)⟩
end Go.Proofs.YtfphpafkhljncaaGreat
namespace Go.Proofs.YtfphpafkhljncaaGreat
open Go GW Go.Proofs
set_option linter.unusedVariables false
set_option linter.unusedSimpArgs false
theorem Pop.new_own {A : Ar} {c : Int} : Pop.new.own A c := ⟨⟨rfl, fun h => absurd rfl h⟩, fun h => absurd rfl h, fun h => by simp [Pop.new] at h, rfl⟩
theorem Push.new_own {A : Ar} {s : Int} : (Push.new s).own A := ⟨⟨rfl, fun h => absurd rfl h⟩, fun h => by simp [Push.new] at h⟩
theorem Kp.ld {A : Ar} {i : Int} (hA : A.ok) (h0 : 0 ≤ i) (h1 : i < 634) : Kp A (A.ld i) := fun j j0 j1 => at_ld hA h0 h1 (by omega) (by omega)
theorem Kp.fail {A : Ar} {o x : Int} (hA : A.ok) (h : A.at 16 ≠ o) : Kp A (A.cas 16 o x) := fun j j0 j1 => by
  rw [at_cas hA (by decide) (by decide) (by omega) (by omega), if_neg h]
  split
  · rename_i e; rw [← e]
  · rfl
theorem Pop.step_own {p : Pop} {A : Ar} {fr : List Int} {c : Int} (o : p.ok) (w : p.own A c) (hA : A.ok) (F : Fre A fr c) (hc : c < 90000) :
    (p.step A).2.1 = 0 ∧ (((p.step A).1.l.over = false ∧ Kp A (p.step A).2.2 ∧ (p.step A).1.own (p.step A).2.2 c) ∨
      ((p.step A).1.l.over = true ∧ (p.step A).1.slot = -1 ∧ Kp A (p.step A).2.2) ∨
      ((p.step A).1.l.over = true ∧ ∃ s fr', fr = s :: fr' ∧ (p.step A).1.slot = s ∧ (0 ≤ s ∧ s < 12) ∧ Fre (p.step A).2.2 fr' (c + 1) ∧ ∀ i, 17 ≤ i → i < 29 → (p.step A).2.2.at i = A.at i)) := by
  obtain ⟨f, f1, f2⟩ := F.hd
  have fr0 := f2.rng
  have c0 := F.c0
  obtain ⟨d1, d2, d3⟩ := head_word f1 c0 (by omega) fr0.1 fr0.2
  have ol := o.l
  have a0 := ol.a0; have a1 := ol.a1
  unfold Pop.step
  rw [if_neg (by rw [w.l.ov]; decide)]
  by_cases h0 : p.l.at_ = 0
  · rw [if_pos h0, if_pos d1]
    refine ⟨rfl, ?_⟩
    have k := Kp.ld (i := 16) hA (by decide) (by decide)
    by_cases hf : f = 0
    · refine .inr (.inl ⟨?_, w.sl, k⟩)
      rw [d3]; exact decide_eq_true hf
    · refine .inl ⟨?_, k, ⟨⟨?_, fun _ => ⟨?_, ?_⟩⟩, fun _ => ⟨?_, fun _ => ?_⟩, fun h => ?_, w.sl⟩⟩
      · rw [d3]; exact decide_eq_false hf
      · rw [d3]; exact decide_eq_false hf
      · show A.at 16 = (valOf (A.at 16) / 16 * 16 + valOf (A.at 16) % 16) * 4
        rw [d2, d3]; exact f1
      · show valOf (A.at 16) % 16 ≤ 12
        rw [d3]; exact fr0.2
      · show valOf (A.at 16) / 16 ≤ c
        rw [d2]; exact Int.le_refl c
      · exact k 16 (by decide) (by decide)
      · simp [Lst.loaded] at h
  · rw [if_neg h0]
    have pf := o.f w.l.ov h0
    have l1 := w.l.ld h0
    have od := w.old h0
    by_cases h1 : p.l.at_ = 1
    · rw [if_pos h1]
      obtain ⟨v, v1, v2, v3⟩ := F.nx (p.l.first - 1) (by omega) (by omega)
      have v1 : A.at (17 + p.l.first - 1) = v * 4 := by rw [show 17 + p.l.first - 1 = 17 + (p.l.first - 1) by omega]; exact v1
      obtain ⟨n1, n2⟩ := next_word v1 v2 v3
      rw [if_pos n1]
      have k := Kp.ld (i := 17 + p.l.first - 1) hA (by omega) (by omega)
      refine ⟨rfl, .inl ⟨w.l.ov, k, ⟨⟨w.l.ov, fun _ => l1⟩, fun _ => ⟨od.1, fun q => ?_⟩, fun _ q => ?_, w.sl⟩⟩⟩
      · rw [k 16 (by decide) (by decide)]; exact od.2 q
      · show (A.ld (17 + p.l.first - 1)).at (17 + p.l.first - 1) = valOf (A.at (17 + p.l.first - 1)) * 4
        rw [k _ (by omega) (by omega), n2]; exact v1
    · rw [if_neg h1]
      have h2 : p.l.at_ = 2 := by omega
      by_cases hw : A.at 16 = p.l.word
      · rw [if_pos hw]
        refine ⟨rfl, .inr (.inr ⟨rfl, ?_⟩)⟩
        have cc : p.l.count = c := by omega
        have ff : p.l.first = f := by omega
        have st := w.st h2 cc
        cases fr with
        | nil => have : f = 0 := f2; omega
        | cons s r =>
          obtain ⟨e1, e2, v, e3, e4⟩ := f2
          have hv : p.next = v := by rw [show 17 + p.l.first - 1 = 17 + s by omega, e3] at st; omega
          have vr := e4.rng
          have at16 : ∀ i, 0 ≤ i → i < 634 → (A.cas 16 p.l.word (p.l.turned p.next)).at i = if 16 = i then ((c + 1) * 16 + v) * 4 else A.at i := fun i i0 i1 => by
            rw [at_cas hA (by decide) (by decide) i0 i1, if_pos hw, hv]
            unfold Lst.turned
            rw [cc, Int.emod_eq_of_lt (by omega) (by omega)]
          have oth : ∀ i, 17 ≤ i → i < 29 → (A.cas 16 p.l.word (p.l.turned p.next)).at i = A.at i := fun i i0 i1 => by rw [at16 i (by omega) (by omega), if_neg (by omega)]
          refine ⟨s, r, rfl, (by show p.l.first - 1 = s; omega), e2, ⟨⟨v, by rw [at16 16 (by decide) (by decide)]; rfl, e4.cong fun t ht => ?_⟩, fun t t0 t1 => by rw [oth _ (by omega) (by omega)]; exact F.nx t t0 t1, by omega⟩, oth⟩
          have := e4.mem t ht
          exact oth _ (by omega) (by omega)
      · rw [if_neg hw]
        have k := Kp.fail (x := p.l.turned p.next) hA hw
        exact ⟨rfl, .inl ⟨w.l.ov, k, ⟨⟨w.l.ov, fun h => absurd rfl h⟩, (fun h => absurd rfl h), (fun h => by simp at h), w.sl⟩⟩⟩
theorem Push.step_own {p : Push} {A : Ar} {fr : List Int} {c : Int} (o : p.ok) (w : p.own A) (hA : A.ok) (F : Fre A fr c) (hc : c < 90000) (hs : p.slot ∉ fr) :
    (p.step A).2.1 = 0 ∧ (p.step A).1.slot = p.slot ∧ (((p.step A).1.l.over = false ∧ (p.step A).1.own (p.step A).2.2 ∧ Fre (p.step A).2.2 fr c ∧ Swp (· = p.slot) A (p.step A).2.2 c c) ∨
      ((p.step A).1.l.over = true ∧ Fre (p.step A).2.2 (p.slot :: fr) (c + 1) ∧ ∀ i, 17 ≤ i → i < 29 → (p.step A).2.2.at i = A.at i)) := by
  obtain ⟨f, f1, f2⟩ := F.hd
  have fr0 := f2.rng
  have c0 := F.c0
  obtain ⟨d1, d2, d3⟩ := head_word f1 c0 (by omega) fr0.1 fr0.2
  have ol := o.l
  have a0 := ol.a0; have a1 := ol.a1
  have p0 := o.s0; have p1 := o.s1
  unfold Push.step
  rw [if_neg (by rw [w.l.ov]; decide)]
  by_cases h0 : p.l.at_ = 0
  · rw [if_pos h0, if_pos d1]
    have k := Kp.ld (i := 16) hA (by decide) (by decide)
    refine ⟨rfl, rfl, .inl ⟨w.l.ov, ⟨⟨w.l.ov, fun _ => ⟨?_, ?_⟩⟩, fun h => ?_⟩, F.kp k, .kp k⟩⟩
    · show A.at 16 = (valOf (A.at 16) / 16 * 16 + valOf (A.at 16) % 16) * 4
      rw [d2, d3]; exact f1
    · show valOf (A.at 16) % 16 ≤ 12
      rw [d3]; exact fr0.2
    · simp [Lst.loaded] at h
  · rw [if_neg h0]
    have l1 := w.l.ld h0
    have g0 := ol.f0
    by_cases h1 : p.l.at_ = 1
    · rw [if_pos h1]
      have at17 : ∀ i, 0 ≤ i → i < 634 → (A.put (17 + p.slot) (p.l.first * 4)).at i = if 17 + p.slot = i then p.l.first * 4 else A.at i := fun i i0 i1 => at_put hA (by omega) (by omega) i0 i1
      refine ⟨rfl, rfl, .inl ⟨w.l.ov, ⟨⟨w.l.ov, fun _ => l1⟩, fun _ => ?_⟩, ⟨⟨f, ?_, f2.cong fun t ht => ?_⟩, fun t t0 t1 => ?_, c0⟩, .inr ⟨rfl, ?_, fun t t0 t1 hn => ?_⟩⟩⟩
      · show (A.put (17 + p.slot) (p.l.first * 4)).at (17 + p.slot) = p.l.first * 4
        rw [at17 _ (by omega) (by omega), if_pos rfl]
      · rw [at17 _ (by omega) (by omega), if_neg (by omega)]; exact f1
      · have := f2.mem t ht
        rw [at17 _ (by omega) (by omega), if_neg fun e => hs (by rw [show p.slot = t by omega]; exact ht)]
      · show ∃ w, (A.put (17 + p.slot) (p.l.first * 4)).at (17 + t) = w * 4 ∧ 0 ≤ w ∧ w ≤ 12
        rw [at17 _ (by omega) (by omega)]
        split
        · exact ⟨_, rfl, g0, l1.2⟩
        · exact F.nx t t0 t1
      · rw [at17 _ (by omega) (by omega), if_neg (by omega)]
      · rw [at17 _ (by omega) (by omega), if_neg fun e => hn (by omega)]
    · rw [if_neg h1]
      have h2 : p.l.at_ = 2 := by omega
      have st := w.st h2
      by_cases hw : A.at 16 = p.l.word
      · have ff : p.l.first = f := by have := ol.f1; omega
        have cc : p.l.count = c := by omega
        have at16 : ∀ i, 0 ≤ i → i < 634 → (A.cas 16 p.l.word (p.l.turned (p.slot + 1))).at i = if 16 = i then ((c + 1) * 16 + (p.slot + 1)) * 4 else A.at i := fun i i0 i1 => by
          rw [at_cas hA (by decide) (by decide) i0 i1, if_pos hw]
          unfold Lst.turned
          rw [cc, Int.emod_eq_of_lt (by omega) (by omega)]
        have oth : ∀ i, 17 ≤ i → i < 29 → (A.cas 16 p.l.word (p.l.turned (p.slot + 1))).at i = A.at i := fun i i0 i1 => by rw [at16 i (by omega) (by omega), if_neg (by omega)]
        refine ⟨rfl, rfl, .inr ⟨decide_eq_true hw, ⟨⟨p.slot + 1, by rw [at16 16 (by decide) (by decide)]; rfl, rfl, ⟨p0, p1⟩, f, ?_, f2.cong fun t ht => ?_⟩, fun t t0 t1 => by rw [oth _ (by omega) (by omega)]; exact F.nx t t0 t1, by omega⟩, oth⟩⟩
        · rw [oth _ (by omega) (by omega), st, ff]
        · have := f2.mem t ht
          exact oth _ (by omega) (by omega)
      · have k := Kp.fail (x := p.l.turned (p.slot + 1)) hA hw
        exact ⟨rfl, rfl, .inl ⟨decide_eq_false hw, ⟨⟨decide_eq_false hw, fun h => absurd rfl h⟩, (fun h => by simp at h)⟩, F.kp k, .kp k⟩⟩
end Go.Proofs.YtfphpafkhljncaaGreat
namespace Go.Proofs.YtfphpafkhljncaaGreat
open Go GW Go.Proofs
set_option linter.unusedVariables false
set_option linter.unusedSimpArgs false
theorem hold_count (x : Th) (s : Int) : x.hold.count s = x.cache.count s + ((x.limbo.map Ret.slot).count s + (x.ripe.count s + (if x.slot = -1 then [] else [x.slot] : List Int).count s)) := by
  unfold Th.hold
  rw [List.count_append, List.count_append, List.count_append]
theorem Th.own.idle {y : Th} {A : Ar} {c : Int} (h1 : y.ripe = []) (h2 : y.push = none) (h3 : y.slot = -1) (h4 : y.pop = none) : y.own A c :=
  ⟨fun _ => ⟨h1, h2⟩, fun h => absurd h3 h, fun h => absurd h4 h, fun p hp => by rw [h2] at hp; (cases hp), fun p hp => by rw [h4] at hp; (cases hp)⟩
section
variable {A : Ar} {x : Th} {L : List Int} {pick c : Int} {fr : List Int}
theorem Th.own.rest (w : x.own A c) (h : x.next ≠ some .fre ∧ x.next ≠ some .tri ∧ x.next ≠ some .ret ∧ x.next ≠ some .tak) : x.ripe = [] ∧ x.push = none ∧ x.slot = -1 ∧ x.pop = none := by
  obtain ⟨n1, n2, n3, n4⟩ := h
  have r := w.ri n1
  refine ⟨r.1, r.2, ?_, ?_⟩
  · by_cases e : x.slot = -1
    · exact e
    · rcases w.sl e with h | h
      · exact absurd h n2
      · exact absurd h n3
  · cases e : x.pop with
    | none => rfl
    | some p => exact absurd (w.po (by rw [e]; simp)) n4
theorem Th.tris_own (ox : x.ok) (hw : x.wrs) (hA : A.ok) (F : Fre A fr c) (w : x.own A c) (hn : x.next = some .tri) : Res x A fr c (x.tris A).1 (x.tris A).2.2 := by
  unfold Th.tris
  cases e : x.att with
  | none => exact .same F (.refl A) w fun _ => rfl
  | some a =>
    have k := (At.step_acc (ox.att a e).1 hA (hw a e)).kp hA fun i p => by unfold inAtt at p; omega
    have w1 := w.kp ox k
    refine .same F k ⟨fun _ => w1.ri (by rw [hn]; simp), fun _ => ?_, fun h => ?_, w1.push, w1.pop⟩ fun _ => rfl
    · simp only
      split
      · exact .inr rfl
      · exact .inl hn
    · have := w.po h
      rw [hn] at this; cases this
theorem Th.with_own {s : Int} (h1 : x.ripe = []) (h2 : x.push = none) (h4 : x.pop = none) : (x.with_ s L).own A c :=
  ⟨fun _ => ⟨h1, h2⟩, fun _ => .inl rfl, fun h => absurd h4 h, fun p hp => by have hp : x.push = some p := hp; rw [h2] at hp; (cases hp), fun p hp => by have hp : x.pop = some p := hp; rw [h4] at hp; (cases hp)⟩
theorem with_count {s t : Int} (hs : s ≠ -1) (h3 : x.slot = -1) : (x.with_ s L).hold.count t = x.hold.count t + [s].count t := by
  rw [hold_count, hold_count, h3]
  show _ + (_ + (_ + (if s = -1 then [] else [s] : List Int).count t)) = _
  rw [if_neg hs, if_pos rfl]
  simp only [Th.with_, List.count_nil]
  omega
theorem Th.taks_own (ox : x.ok) (hw : x.wrs) (hA : A.ok) (F : Fre A fr c) (hc : c < 90000) (w : x.own A c) (hn : x.next = some .tak ∨ x.next = some .fre) (hr : x.ripe = []) (hq : x.push = none) :
    Res x A fr c (x.taks A L).1.1 (x.taks A L).1.2.2 := by
  have h3 : x.slot = -1 := by
    by_cases e : x.slot = -1
    · exact e
    · rcases w.sl e with h | h <;> rcases hn with q | q <;> (rw [q] at h; cases h)
  have main : ∀ p : Option Pop, x.pop = p →
      let q := (p.getD .new).step A
      let r : (Th × Int × Ar) × List Int := if q.1.l.over = false ∨ q.2.1 ≠ 0 then (({ x with pop := some q.1, next := some .tak }, q.2.1, q.2.2), L) else
        if q.1.slot = -1 then (({ x with pop := none, end_ := 1, next := some .lea }, 0, q.2.2), L) else
        ((({ x with pop := none } : Th).with_ q.1.slot L, 0, q.2.2), lived q.1.slot L)
      Res x A fr c r.1.1 r.1.2.2 := by
    intro p hp
    have po : (p.getD .new).ok ∧ (p.getD .new).own A c := by
      cases p with
      | none => exact ⟨Pop.new_ok, Pop.new_own⟩
      | some p => exact ⟨ox.pop p hp, w.pop p hp⟩
    obtain ⟨s0, s1⟩ := Pop.step_own po.1 po.2 hA F hc
    generalize (p.getD .new).step A = q at s0 s1
    simp only
    rcases s1 with ⟨s1, k, wq⟩ | ⟨s1, s2, k⟩ | ⟨s1, s, fr', e1, e2, e3, F', k⟩
    · rw [if_pos (.inl s1)]
      exact .same F k ⟨fun _ => ⟨hr, hq⟩, fun h => absurd h3 h, fun _ => rfl, fun p hp => by have hp : x.push = some p := hp; rw [hq] at hp; (cases hp), fun p hp => by cases hp; exact wq⟩ fun _ => rfl
    · rw [if_neg (by rw [s1, s0]; simp), if_pos s2]
      exact .same F k (.idle hr hq h3 rfl) fun _ => rfl
    · rw [if_neg (by rw [s1, s0]; simp), if_neg (by omega), e2]
      subst e1
      refine ⟨fr', c + 1, F', Th.with_own hr hq rfl, .inl ⟨rfl, k⟩, fun t => ?_, by simp only [List.length_cons]; omega, by simp only [List.length_cons]; omega⟩
      have g1 := with_count (x := { x with pop := none }) (L := L) (s := s) (t := t) (by omega) h3
      have g2 : ({ x with pop := none } : Th).hold.count t = x.hold.count t := rfl
      have g3 : (s :: fr').count t = fr'.count t + [s].count t := by rw [List.count_cons, List.count_singleton]
      show fr'.count t + (({ x with pop := none } : Th).with_ s L).hold.count t = (s :: fr').count t + x.hold.count t
      omega
  unfold Th.taks
  cases hp : x.pop with
  | some p => exact main _ hp
  | none =>
    cases hl : x.cache.getLast? with
    | none => exact main _ hp
    | some s =>
      have hm := ox.ca s (List.mem_of_getLast? hl)
      have hcp := ox.cap
      have hlive := ox.live (.inl (by rcases hn with h | h <;> (rw [h]; simp)))
      have hc2 : x.limbo.length + x.ripe.length + 16 ≤ 16 * x.evs.length + x.tries.toNat := by
        rcases hn with h | h <;> (rw [h] at hcp; simp only [restOf, flagOf] at hcp; omega)
      have o1 : ({ x with cache := x.cache.dropLast, pop := none, next := some .tak } : Th).ok := { ox with
        pop := fun n h => by cases h
        cl := by show (x.cache.dropLast).length ≤ 2; rw [List.length_dropLast]; have := ox.cl; omega
        ca := fun s hs => ox.ca s (List.dropLast_subset _ hs)
        live := fun _ => hlive
        ans := fun h => by cases h
        s2 := fun h => by rcases h with h | h <;> cases h
        cap := by simp only [restOf, flagOf]; omega }
      have o2 := Th.with_ok (L := L) o1 rfl hm.1 hm.2
      have e : ({ x with cache := x.cache.dropLast } : Th).with_ s L = ({ x with cache := x.cache.dropLast, pop := none, next := some .tak } : Th).with_ s L := by
        unfold Th.with_ Th.ops
        simp only [hp]
      refine .of (x1 := ({ x with cache := x.cache.dropLast } : Th).with_ s L) ?_ (fun t => ?_) fun t ht => ht
      · rw [e]
        exact Th.tris_own o2 (Th.with_wrs hm.1) hA F (Th.with_own hr hq rfl) rfl
      · rw [with_count (x := { x with cache := x.cache.dropLast }) (by omega) h3, hold_count, hold_count]
        have hcs : x.cache = x.cache.dropLast ++ [s] := by
          obtain ⟨ys, hy⟩ := List.getLast?_eq_some_iff.1 hl
          rw [hy, List.dropLast_concat]
        have : x.cache.count t = x.cache.dropLast.count t + [s].count t := by
          rw [← List.count_append, ← hcs]
        simp only
        omega
theorem cached_count (t : Int) : x.cached.hold.count t = x.hold.count t := by
  unfold Th.cached
  split
  · rw [hold_count, hold_count]
    simp only [List.count_append]
    have : (x.ripe.take (2 - x.cache.length)).count t + (x.ripe.drop (2 - x.cache.length)).count t = x.ripe.count t := by
      rw [← List.count_append, List.take_append_drop]
    omega
  · rfl
theorem Th.cached_own (w : x.own A c) (hn : x.next = some .fre) : x.cached.own A c := by
  unfold Th.cached
  split
  · rename_i h
    exact ⟨fun q => absurd hn q, w.sl, w.po, fun p hp => by have hp : x.push = some p := hp; rw [h] at hp; (cases hp), w.pop⟩
  · exact w
theorem Th.cached_sub {s : Int} (h : s ∈ x.cached.ripe) : s ∈ x.ripe := by
  unfold Th.cached at h
  split at h
  · exact List.mem_of_mem_drop h
  · exact h
theorem Th.fres_own (ox : x.ok) (hw : x.wrs) (hA : A.ok) (F : Fre A fr c) (hc : c < 90000) (w : x.own A c) (hn : x.next = some .fre) (hd : ∀ s ∈ x.ripe, s ∉ fr) :
    Res x A fr c (x.fres A L).1.1 (x.fres A L).1.2.2 := by
  have oc := Th.cached_ok ox
  have hn' : x.cached.next = some .fre := by rw [Th.cached_next]; exact hn
  have hw' : x.cached.wrs := by unfold Th.cached; split <;> exact hw
  have wc := Th.cached_own w hn
  refine .of (x1 := x.cached) ?_ (fun t => cached_count t) fun s => Th.cached_sub
  have hd : ∀ s ∈ x.cached.ripe, s ∉ fr := fun s hs => hd s (Th.cached_sub hs)
  unfold Th.fres
  simp only
  generalize x.cached = y at oc hn' hw' wc hd ⊢
  split
  · rename_i hr
    refine Th.taks_own oc hw' hA F hc wc (.inr hn') hr ?_
    cases e : y.push with
    | none => rfl
    | some p => have := (wc.push p e).2; rw [hr] at this; cases this
  · rename_i s r hr
    have hm := oc.ri s (by rw [hr]; simp)
    have hpo : y.pop = none := by
      cases e : y.pop with
      | none => rfl
      | some p => have := wc.po (by rw [e]; simp); rw [hn'] at this; cases this
    have hsl : y.slot = -1 := by
      by_cases e : y.slot = -1
      · exact e
      · rcases wc.sl e with h | h <;> (rw [hn'] at h; cases h)
    have po : (y.push.getD (.new s)).ok ∧ (y.push.getD (.new s)).own A ∧ (y.push.getD (.new s)).slot = s := by
      cases hp : y.push with
      | none => exact ⟨Push.new_ok hm.1 hm.2, Push.new_own, rfl⟩
      | some p =>
        have := (wc.push p hp).2
        rw [hr] at this
        cases this
        exact ⟨oc.push p hp, (wc.push p hp).1, rfl⟩
    have hsf : s ∉ fr := hd s (by rw [hr]; simp)
    obtain ⟨s0, s2, s1⟩ := Push.step_own po.1 po.2.1 hA F hc (by rw [po.2.2]; exact hsf)
    rw [po.2.2] at s1 s2
    generalize (y.push.getD (.new s)).step A = q at s0 s1 s2
    rcases s1 with ⟨s1, wq, F', sw⟩ | ⟨s1, F', k⟩
    · rw [if_neg (by rw [s1]; simp)]
      refine ⟨fr, c, F', ⟨fun z => absurd hn' z, fun h => absurd hsl h, fun h => absurd hpo h, fun p hp => ?_, fun p hp => ?_⟩, ?_, fun _ => rfl, by omega, by omega⟩
      · cases hp
        exact ⟨wq, by show y.ripe.head? = _; rw [hr, s2]; rfl⟩
      · have hp : y.pop = some p := hp
        rw [hpo] at hp; cases hp
      · rcases sw with sw | ⟨e1, e2, e3⟩
        · exact .inl sw
        · exact .inr ⟨e1, e2, fun t t0 t1 hn => e3 t t0 t1 fun z => hn (by rw [z, hr]; simp)⟩
    · rw [if_pos ⟨s1, s0⟩]
      refine ⟨s :: fr, c + 1, F', ⟨fun z => absurd hn' z, fun h => absurd hsl h, fun h => absurd hpo h, (fun p hp => by cases hp), fun p hp => ?_⟩, .inl ⟨rfl, k⟩, fun t => ?_, by simp only [List.length_cons]; omega, by simp only [List.length_cons]; omega⟩
      · have hp : y.pop = some p := hp
        rw [hpo] at hp; cases hp
      · rw [hold_count, hold_count, hr]
        simp only [List.count_cons]
        omega
theorem ripes_count (rs : List Ret) (e t : Int) : (ripes rs e).count t + ((rests rs e).map Ret.slot).count t = (rs.map Ret.slot).count t := by
  induction rs with
  | nil => rfl
  | cons r rs ih =>
    unfold ripes rests at ih ⊢
    simp only [List.filter_cons]
    cases isRipe e r <;> simp [List.count_cons] at ih ⊢ <;> omega
theorem Th.answer_own {B : Ar} {d : Int} (h : x.ripe = [] ∧ x.push = none ∧ x.slot = -1 ∧ x.pop = none) : (x.answer pick).own B d ∧ (x.answer pick).hold = x.hold := by
  unfold Th.answer
  split
  · exact ⟨.idle h.1 h.2.1 h.2.2.1 h.2.2.2, rfl⟩
  · exact ⟨.idle h.1 h.2.1 h.2.2.1 h.2.2.2, rfl⟩
theorem Th.act_own {a : Act} (ox : x.ok) (hw : x.wrs) (hA : A.ok) (F : Fre A fr c) (hc : c < 90000) (w : x.own A c) (hn : x.next = some a) (hd : ∀ s ∈ x.ripe, s ∉ fr) :
    Res x A fr c (x.act A L pick a).1.1 (x.act A L pick a).1.2.2 := by
  have i0 := ox.i0; have i1 := ox.i1; have n1 := ox.n1
  cases a with
  | ent =>
    obtain ⟨h1, h2, h3, h4⟩ := w.rest (by rw [hn]; simp)
    unfold Th.act Th.ents
    cases e : x.ent with
    | none => exact .same F (.refl A) w fun _ => rfl
    | some n =>
      have k := (Ent.step_acc (A := A) (ox.ent n e)).kp hA fun i p => by omega
      simp only
      split
      · refine .same F k ⟨fun z => absurd rfl z, fun h => absurd h3 h, fun h => absurd h4 h, fun p hp => by have hp : x.push = some p := hp; rw [h2] at hp; (cases hp), fun p hp => by have hp : x.pop = some p := hp; rw [h4] at hp; (cases hp)⟩ fun t => ?_
        rw [hold_count, hold_count, h1]
        have := ripes_count x.limbo (n.step A).1.e t
        simp only [List.count_nil]
        omega
      · exact .same F k (.idle h1 h2 h3 h4) fun _ => rfl
  | fre => exact Th.fres_own ox hw hA F hc w hn hd
  | tak => have r := w.ri (by rw [hn]; simp); exact Th.taks_own ox hw hA F hc w (.inl hn) r.1 r.2
  | tri => exact Th.tris_own ox hw hA F w hn
  | ret =>
    obtain ⟨h1, h2⟩ := w.ri (by rw [hn]; simp)
    have h4 : x.pop = none := by
      cases e : x.pop with
      | none => rfl
      | some p => have := w.po (by rw [e]; simp); rw [hn] at this; cases this
    have k := Kp.ld (i := 29) hA (by decide) (by decide)
    have s2 := ox.s2 (.inr hn)
    unfold Th.act Th.rets
    simp only
    split
    · refine .same F k (.idle h1 h2 rfl h4) fun t => ?_
      rw [hold_count, hold_count]
      rw [if_neg (show ¬ x.slot = -1 by omega)]
      simp only [List.map_append, List.count_append, List.map_cons, List.map_nil, if_true, List.count_nil]
      omega
    · exact .same F k (w.kp ox k) fun _ => rfl
  | lea =>
    obtain ⟨h1, h2, h3, h4⟩ := w.rest (by rw [hn]; simp)
    have k : Kp A (A.put (30 + x.id) 0) := fun j j0 j1 => by rw [at_put hA (by omega) (by omega) (by omega) (by omega), if_neg (by omega)]
    exact .same F k (.idle h1 h2 h3 h4) fun _ => rfl
  | adv =>
    obtain ⟨h1, h2, h3, h4⟩ := w.rest (by rw [hn]; simp)
    unfold Th.act Th.advs
    cases e : x.adv with
    | none => exact .same F (.refl A) w fun _ => rfl
    | some d =>
      have k := (Adv.step_acc (A := A) (ox.adv d e)).kp hA fun i p => by omega
      simp only
      split
      · obtain ⟨q1, q2⟩ := Th.answer_own (x := { x with adv := some (d.step A).1 }) (pick := pick) (B := (d.step A).2.2) (d := c) ⟨h1, h2, h3, h4⟩
        exact .same F k q1 fun t => by rw [q2]; rfl
      · exact .same F k (.idle h1 h2 h3 h4) fun _ => rfl
theorem Th.ended_own {r : (Th × Int × Ar) × List Int} (h : Res x A fr c r.1.1 r.1.2.2) : Res x A fr c (Th.ended r).1 (Th.ended r).2.2.2.1 := by
  unfold Th.ended
  split
  · exact h
  · obtain ⟨fr', d, h1, h2, h3⟩ := h.ex
    exact ⟨fr', d, h1, ⟨h2.ri, h2.sl, h2.po, h2.push, h2.pop⟩, h3⟩
theorem Th.step_own (ox : x.ok) (hw : x.wrs) (hA : A.ok) (F : Fre A fr c) (hc : c < 90000) (w : x.own A c) (hd : ∀ s ∈ x.ripe, s ∉ fr) :
    Res x A fr c (x.step A L pick).1 (x.step A L pick).2.2.2.1 := by
  unfold Th.step
  split
  · exact .same F (.refl A) w fun _ => rfl
  · have o1 : ({ x with ts := -1, tg := 0 } : Th).ok := { ox with }
    have w1 : ({ x with ts := -1, tg := 0 } : Th).own A c := ⟨w.ri, w.sl, w.po, w.push, w.pop⟩
    simp only
    split
    · rename_i a e
      exact Th.ended_own (.of (x1 := { x with ts := -1, tg := 0 }) (Th.act_own o1 hw hA F hc w1 e hd) (fun _ => rfl) fun _ h => h)
    · rename_i e
      have b := Th.begin_ok (pick := pick) o1 e
      obtain ⟨h1, h2, h3, h4⟩ := w1.rest (by rw [e]; simp)
      have bw : (({ x with ts := -1, tg := 0 } : Th).begin pick).1.wrs ∧ (({ x with ts := -1, tg := 0 } : Th).begin pick).1.own A c ∧ (∀ t, (({ x with ts := -1, tg := 0 } : Th).begin pick).1.hold.count t = x.hold.count t) ∧ (({ x with ts := -1, tg := 0 } : Th).begin pick).1.ripe = x.ripe := by
        unfold Th.begin
        split
        · exact ⟨hw, w1, fun _ => rfl, rfl⟩
        · split
          · exact ⟨hw, .idle h1 h2 h3 h4, fun _ => rfl, rfl⟩
          · exact ⟨hw, .idle h1 h2 h3 h4, fun _ => rfl, rfl⟩
      split
      · rename_i q
        exact Th.ended_own (.of (Th.act_own b.1 bw.1 hA F hc bw.2.1 (b.2 q) (by rw [bw.2.2.2]; exact hd)) bw.2.2.1 fun s h => by rw [bw.2.2.2] at h; exact h)
      · exact .same F (.refl A) bw.2.1 bw.2.2.1
end
end Go.Proofs.YtfphpafkhljncaaGreat
namespace Go.Proofs.YtfphpafkhljncaaGreat
open Go GW Go.Proofs
set_option linter.unusedVariables false
set_option linter.unusedSimpArgs false
set_option maxRecDepth 20000
def twelve : List Int := [0, 1, 2, 3, 4, 5, 6, 7, 8, 9, 10, 11]
theorem newAr_fre : Fre newAr twelve 0 := by
  refine ⟨⟨1, by decide, ?_⟩, fun s h0 h1 => ?_, Int.le_refl 0⟩
  · refine ⟨rfl, by decide, 2, by decide, rfl, by decide, 3, by decide, rfl, by decide, 4, by decide, rfl, by decide, 5, by decide, rfl, by decide, 6, by decide, rfl, by decide, 7, by decide, rfl, by decide, 8, by decide, rfl, by decide, 9, by decide, rfl, by decide, 10, by decide, rfl, by decide, 11, by decide, rfl, by decide, 12, by decide, rfl, by decide, 0, by decide, rfl⟩
  · have : s = 0 ∨ s = 1 ∨ s = 2 ∨ s = 3 ∨ s = 4 ∨ s = 5 ∨ s = 6 ∨ s = 7 ∨ s = 8 ∨ s = 9 ∨ s = 10 ∨ s = 11 := by omega
    rcases this with rfl | rfl | rfl | rfl | rfl | rfl | rfl | rfl | rfl | rfl | rfl | rfl
    · exact ⟨2, by decide, by decide, by decide⟩
    · exact ⟨3, by decide, by decide, by decide⟩
    · exact ⟨4, by decide, by decide, by decide⟩
    · exact ⟨5, by decide, by decide, by decide⟩
    · exact ⟨6, by decide, by decide, by decide⟩
    · exact ⟨7, by decide, by decide, by decide⟩
    · exact ⟨8, by decide, by decide, by decide⟩
    · exact ⟨9, by decide, by decide, by decide⟩
    · exact ⟨10, by decide, by decide, by decide⟩
    · exact ⟨11, by decide, by decide, by decide⟩
    · exact ⟨12, by decide, by decide, by decide⟩
    · exact ⟨0, by decide, by decide, by decide⟩
theorem frGo_chn {A : Ar} : ∀ {fr : List Int} {n : Nat} {f : Int} {out : List Int}, Chn A f fr → out.length + fr.length ≤ 12 → fr.length < n → frGo n A true f out = (out ++ fr, 0) := by
  intro fr
  induction fr with
  | nil =>
    intro n f out h h1 h2
    have h : f = 0 := h
    obtain ⟨n, rfl⟩ : ∃ m, n = m + 1 := ⟨n - 1, by simp at h2; omega⟩
    unfold frGo
    rw [if_neg (by omega), if_pos rfl, List.append_nil]
  | cons s r ih =>
    intro n f out h h1 h2
    obtain ⟨e1, e2, w, e3, e4⟩ := h
    obtain ⟨n, rfl⟩ : ∃ m, n = m + 1 := ⟨n - 1, by simp at h2; omega⟩
    have wr := e4.rng
    obtain ⟨n1, n2⟩ := next_word e3 wr.1 wr.2
    simp only [List.length_cons] at h1 h2
    unfold frGo
    rw [if_pos ⟨rfl, by omega⟩, if_neg (by omega), show 17 + f - 1 = 17 + s by omega, n1, n2, show f - 1 = s by omega]
    rw [ih e4 (by simp only [List.length_append, List.length_singleton]; omega) (by omega)]
    simp
theorem Fre.row {A : Ar} {fr : List Int} {c : Int} (F : Fre A fr c) (hc : c < 90000) (hl : fr.length ≤ 12) : freeRow A = (fr, 0) := by
  obtain ⟨f, f1, f2⟩ := F.hd
  have fr0 := f2.rng
  obtain ⟨d1, d2, d3⟩ := head_word f1 F.c0 (by omega) fr0.1 fr0.2
  unfold freeRow
  rw [d1, d3, frGo_chn f2 (by simpa using hl) (by omega)]
  rfl
end Go.Proofs.YtfphpafkhljncaaGreat
namespace Go.Proofs.YtfphpafkhljncaaGreat
open Go GW Go.Proofs
set_option linter.unusedVariables false
set_option linter.unusedSimpArgs false
theorem Vw.do_full {F : Vw} {ops : List Op} (m : Txn.may ops = true) (f : F.Fl) : (F.do_ ops).need = none ∧ (F.do_ ops).view.Fl := by
  have key : ∀ (os : List Op) (W : Vw) (rs : List Answer), (∀ o ∈ os, o.may = true) → W.Fl → (F.doFrom os W rs).need = none ∧ (F.doFrom os W rs).view.Fl := by
    intro os
    induction os with
    | nil => intro W rs _ w; exact ⟨rfl, w⟩
    | cons o os ih =>
      intro W rs hm w
      have ff := Vw.one_full (hm o (by simp)) w
      unfold Vw.doFrom
      rw [ff.1]
      simp only
      split
      · exact ih _ _ (fun o ho => hm o (List.mem_cons_of_mem _ ho)) ff.2
      · exact ⟨rfl, f⟩
  exact key ops F [] (Txn.may_mem m) f
/-- a memory in which nothing is under way but what one thread says -/
structure Qt (F : Vw) (A : Ar) (fr : List Int) (c e t w : Int) : Prop where
  ok : A.ok
  fok : F.ok
  mem : F.Mem A
  fre : Fre A fr c
  ep : A.at 29 = e * 4
  e0 : 0 ≤ e
  e1 : e < 1000000
  say : ∀ i, 30 ≤ i → i < 34 → A.at i = if i = 30 + t then w else 0
section
variable {F : Vw} {A B : Ar} {fr : List Int} {c e t w : Int}
theorem Qt.cong (Q : Qt F A fr c e t w) (hB : B.ok) (h : ∀ j, 0 ≤ j → j < 34 → B.at j = A.at j) : Qt F B fr c e t w :=
  ⟨hB, Q.fok, ⟨Q.mem.fl, Q.mem.val, fun i hi => by rw [h i (by omega) (by omega)]; exact Q.mem.at_ i hi⟩, Q.fre.kp fun i h0 h1 => h i (by omega) (by omega), by rw [h 29 (by decide) (by decide)]; exact Q.ep, Q.e0, Q.e1, fun i h0 h1 => by rw [h i (by omega) (by omega)]; exact Q.say i h0 h1⟩
theorem Qt.ld (Q : Qt F A fr c e t w) {i : Int} (h0 : 0 ≤ i) (h1 : i < 634) : Qt F (A.ld i) fr c e t w :=
  Q.cong (Q.ok.ld i) fun j j0 j1 => at_ld Q.ok h0 h1 (by omega) (by omega)
theorem Qt.told (Q : Qt F A fr c e t w) {u : Int} (t0 : 0 ≤ t) (t1 : t < 4) (hu : I64 u) : Qt F (A.put (30 + t) u) fr c e t u := by
  have at_ : ∀ j, 0 ≤ j → j < 634 → (A.put (30 + t) u).at j = if 30 + t = j then u else A.at j := fun j j0 j1 => at_put Q.ok (by omega) (by omega) j0 j1
  refine ⟨Q.ok.put _ hu, Q.fok, ⟨Q.mem.fl, Q.mem.val, fun i hi => ?_⟩, Q.fre.kp fun i h0 h1 => ?_, ?_, Q.e0, Q.e1, fun i h0 h1 => ?_⟩
  · rw [at_ i (by omega) (by omega), if_neg (by omega)]; exact Q.mem.at_ i hi
  · rw [at_ i (by omega) (by omega), if_neg (by omega)]
  · rw [at_ 29 (by decide) (by decide), if_neg (by omega)]; exact Q.ep
  · rw [at_ i (by omega) (by omega)]
    by_cases z : i = 30 + t
    · rw [if_pos z.symm, if_pos z]
    · rw [if_neg (fun q => z q.symm), if_neg z, Q.say i h0 h1, if_neg z]
theorem Qt.epoch (Q : Qt F A fr c e t w) : epIs (A.at 29) = true ∧ valOf (A.at 29) = e := by
  have e0 := Q.e0; have e1 := Q.e1
  have v : valOf (A.at 29) = e := by rw [Q.ep]; exact valOf_val (by omega) (by omega)
  refine ⟨?_, v⟩
  unfold epIs
  rw [v, Q.ep, plainOf_val (by omega) (by omega), decide_eq_true (by omega)]; rfl
theorem Ent.step_1 (Q : Qt F A fr c e t w) : (Ent.new t).step A = (⟨t, e, false, true, false⟩, 0, A.ld 29) := by
  unfold Ent.step Ent.new
  rw [if_neg (by simp), if_neg (by simp), if_pos Q.epoch.1, Q.epoch.2]
  rfl
theorem Ent.step_3 (Q : Qt F A fr c e t w) : (Ent.mk t e true true false).step A = (⟨t, e, false, true, true⟩, 0, A.ld 29) := by
  unfold Ent.step
  rw [if_neg (by simp), if_neg (by simp), if_pos Q.epoch.1, Q.epoch.2]
  simp
end
structure Stp (L : List Int) (y : Th) (M : List Int) : Prop where
  thr : y.ts = -1 ∨ 0 ≤ y.ts ∧ y.ts < 12 ∧ y.tg = M.getD y.ts.toNat 0
  liv : M = L ∨ ∃ s, 0 ≤ s ∧ s < 12 ∧ M = lived s L
  lim : y.limbo.length ≤ 3
  hold : y.cache.length + y.limbo.length + (y.ripe.length + if y.slot = -1 then 0 else 1) ≤ 4
  used : y.ripe.length ≤ 1
inductive TGo : Int → Th → Ar → List Int → Nat → Th → Ar → List Int → Prop
  | refl (p : Int) (x : Th) (A : Ar) (L : List Int) : TGo p x A L 0 x A L
  | step {p : Int} {x : Th} {A : Ar} {L : List Int} {n : Nat} {y : Th} {B : Ar} {M : List Int} {z : Th} {C : Ar} {N : List Int} : x.step A L p = (y, true, 0, B, M) → Stp L y M → TGo (p + 1) y B M n z C N → TGo p x A L (n + 1) z C N
section
variable {p : Int} {x y z : Th} {A B C : Ar} {L M N : List Int} {n m : Nat}
theorem TGo.one (h : x.step A L p = (y, true, 0, B, M)) (s : Stp L y M) : TGo p x A L 1 y B M := .step h s (.refl _ _ _ _)
theorem TGo.trans (a : TGo p x A L n y B M) : TGo (p + n) y B M m z C N → TGo p x A L (n + m) z C N := by
  induction a with
  | refl p x A L => intro b; rw [Nat.zero_add]; simpa using b
  | @step p x A L n y B M z' C' N' h s _ ih =>
    intro b
    rw [Nat.add_right_comm]
    exact .step h s (ih (by rw [show p + 1 + (n : Int) = p + ((n + 1 : Nat) : Int) by omega]; exact b))
theorem TGo.to (a : TGo p x A L n y B M) {q : Int} {k : Nat} (hq : q = p + n) (b : TGo q y B M m z C N) (hk : k = n + m) : TGo p x A L k z C N := by
  subst hq; subst hk; exact a.trans b
/-- a step that another one makes just so -/
theorem TGo.first (a : TGo p x A L n y B M) (h0 : 1 ≤ n) {x' : Th} {L' : List Int} (h : x'.step A L' p = x.step A L p) (hs : ∀ y M, Stp L y M → L = M → Stp L' y M) (hl : ∀ y B M, x.step A L p = (y, true, 0, B, M) → L = M) : TGo p x' A L' n y B M := by
  cases a with
  | refl => omega
  | step h1 s r => exact .step (by rw [h]; exact h1) (hs _ _ s (hl _ _ _ h1)) r
theorem tri_run {a a' : At} (g : Ago a A n a' B) : ∀ {p : Int} {x : Th}, 1 ≤ n → a'.over = true → x.next = some .tri → x.dead = false → x.att = some a → 0 ≤ a.slot → a.slot < 12 → L.getD a.slot.toNat 0 = a.gen → x.limbo.length ≤ 3 →
    x.cache.length + x.limbo.length + (x.ripe.length + if x.slot = -1 then 0 else 1) ≤ 4 → x.ripe.length ≤ 1 → TGo p x A L n { x with att := some a', ts := a'.ts, tg := a'.tg, seq := a'.q, next := some .ret } B L := by
  induction g with
  | refl => intro p x h; omega
  | @step a A n a' B h1 h2 h3 h4 ih =>
    intro p x _ ho hx hd ha s0 s1 hL b1 b2 b3
    have st : ∀ nx, (if (a.step A).1.over then some Act.ret else x.next) = nx → x.step A L p = ({ x with att := some (a.step A).1, ts := (a.step A).1.ts, tg := (a.step A).1.tg, seq := (a.step A).1.q, next := nx }, true, 0, (a.step A).2.2, L) := by
      intro nx hn
      rw [Th.step_some hd hx]
      have : x.z.act A L p .tri = (({ x with att := some (a.step A).1, ts := (a.step A).1.ts, tg := (a.step A).1.tg, seq := (a.step A).1.q, next := nx }, (a.step A).2.1, (a.step A).2.2), L) := by
        show (x.z.tris A, L) = _
        unfold Th.tris
        have : x.z.att = some a := ha
        rw [this, ← hn]
        rfl
      rw [this, h2]
      rfl
    have sp : ∀ nx, Stp L { x with att := some (a.step A).1, ts := (a.step A).1.ts, tg := (a.step A).1.tg, seq := (a.step A).1.q, next := nx } L := fun nx => by
      refine ⟨?_, .inl rfl, b1, b2, b3⟩
      rcases h3.2.2 with q | ⟨q1, q2⟩
      · exact .inl q
      · exact .inr ⟨by show 0 ≤ (a.step A).1.ts; omega, by show (a.step A).1.ts < 12; omega, by show (a.step A).1.tg = L.getD (a.step A).1.ts.toNat 0; rw [q1, q2]; exact hL.symm⟩
    cases n with
    | zero =>
      cases h4
      exact .one (st _ (by rw [ho]; rfl)) (sp _)
    | succ n =>
      have hov : (a.step A).1.over = false := by cases h4 with | step q _ _ _ => exact q
      have s1' := st x.next (by rw [hov]; rfl)
      refine .step s1' (sp _) ?_
      have := ih (p := p + 1) (x := { x with att := some (a.step A).1, ts := (a.step A).1.ts, tg := (a.step A).1.tg, seq := (a.step A).1.q, next := x.next }) (by omega) ho hx hd rfl (by rw [h3.1]; exact s0) (by rw [h3.1]; exact s1) (by rw [h3.1, h3.2.1]; exact hL) b1 b2 b3
      exact this
end
end Go.Proofs.YtfphpafkhljncaaGreat
namespace Go.Proofs.YtfphpafkhljncaaGreat
open Go GW Go.Proofs
set_option linter.unusedVariables false
set_option linter.unusedSimpArgs false
theorem Acc.same {P : Int → Prop} {A B : Ar} (a : Acc P A B) (hA : A.ok) {j : Int} (h0 : 0 ≤ j) (h1 : j < 634) (h : ¬ P j) : B.at j = A.at j := by
  cases a with
  | none => rfl
  | ld i i0 i1 => exact at_ld hA i0 i1 h0 h1
  | put i x i0 i1 p hx => rw [at_put hA i0 i1 h0 h1, if_neg]; rintro rfl; exact h p
  | cas i o x i0 i1 p hx => rw [at_cas hA i0 i1 h0 h1, if_neg]; rintro rfl; exact h p
def Th.ev0 (x : Th) (p : Int) : Event := ⟨x.id, x.evs.length, p, -1, -1, 0, 0, []⟩
structure Rst (x : Th) : Prop where
  nd : x.dead = false
  nx : x.next = none
  tr : x.tries = 0
  pa : x.pause = 0
  ca : x.cache = []
  ri : x.ripe = []
  sl : x.slot = -1
  pu : x.push = none
  po : x.pop = none
inductive Lq : List Ret → Int → Prop
  | nil (e : Int) : Lq [] e
  | one (a e : Int) : Lq [⟨a, e - 1⟩] e
  | two (a b e : Int) : Lq [⟨a, e - 2⟩, ⟨b, e - 1⟩] e
  | three (a b c e : Int) : Lq [⟨a, e - 3⟩, ⟨b, e - 2⟩, ⟨c, e - 1⟩] e
theorem Lq.len {rs : List Ret} {e : Int} (h : Lq rs e) : rs.length ≤ 3 := by cases h <;> simp
/-- what is ripe, what is not, what is there when one more is retired -/
theorem Lq.take {rs : List Ret} {e : Int} (h : Lq rs e) : (ripes rs e = [] ∧ rests rs e = rs ∧ rs.length ≤ 2 ∧ ∀ s, Lq (rs ++ [⟨s, e⟩]) (e + 1)) ∨
    (rs.length = 3 ∧ ∃ a r1 r2, rs = [⟨a, e - 3⟩, r1, r2] ∧ ripes rs e = [a] ∧ rests rs e = [r1, r2] ∧ ∀ s, Lq [r1, r2, ⟨s, e⟩] (e + 1)) := by
  have k3 : ∀ a, isRipe e ⟨a, e - 3⟩ = true := fun a => decide_eq_true (by simp only; omega)
  have k2 : ∀ a, isRipe e ⟨a, e - 2⟩ = false := fun a => decide_eq_false (by simp only; omega)
  have k1 : ∀ a, isRipe e ⟨a, e - 1⟩ = false := fun a => decide_eq_false (by simp only; omega)
  have f1 : e + 1 - 1 = e := by omega
  have f2 : e + 1 - 2 = e - 1 := by omega
  have f3 : e + 1 - 3 = e - 2 := by omega
  cases h with
  | nil => exact .inl ⟨rfl, rfl, by simp, fun s => by have := Lq.one s (e + 1); rw [f1] at this; exact this⟩
  | one a => exact .inl ⟨by simp [ripes, k1], by simp [rests, k1], by simp, fun s => by have := Lq.two a s (e + 1); rw [f1, f2] at this; exact this⟩
  | two a b => exact .inl ⟨by simp [ripes, k1, k2], by simp [rests, k1, k2], by simp, fun s => by have := Lq.three a b s (e + 1); rw [f1, f2, f3] at this; exact this⟩
  | three a b c => exact .inr ⟨rfl, a, _, _, rfl, by simp [ripes, k1, k2, k3], by simp [rests, k1, k2, k3], fun s => by have := Lq.three b c s (e + 1); rw [f1, f2, f3] at this; exact this⟩
def Th.q1 (x : Th) (e p : Int) : Th := { x with ts := -1, tg := 0, evs := x.evs ++ [x.ev0 p], ent := some ⟨x.id, e, false, true, false⟩, end_ := 2, next := some .ent }
def Th.q2 (x : Th) (e p : Int) : Th := { x with ts := -1, tg := 0, evs := x.evs ++ [x.ev0 p], ent := some ⟨x.id, e, true, true, false⟩, end_ := 2, next := some .ent }
def Th.q3 (x : Th) (e p : Int) : Th := { x with ts := -1, tg := 0, evs := x.evs ++ [x.ev0 p], ent := some ⟨x.id, e, false, true, true⟩, end_ := 2, ripe := ripes x.limbo e, limbo := rests x.limbo e, next := some .fre }
/-- with a slot, the attempt to begin -/
def Th.q4 (x : Th) (e p s : Int) (li : List Ret) (L : List Int) : Th := { x with ts := -1, tg := 0, evs := x.evs ++ [x.ev0 p], ent := some ⟨x.id, e, false, true, true⟩, end_ := 2, cache := [], ripe := [], push := none, pop := none, limbo := li, slot := s, att := some (.new x.id x.seq s (L.getD s.toNat 0 + 1) (x.txns.getD x.evs.length [])), next := some .tri }
section
variable {F : Vw} {A : Ar} {fr : List Int} {c e w p s : Int} {x : Th} {L : List Int}
theorem q_enter (r : Rst x) (hd : x.done = false) (lq : Lq x.limbo e) (Q : Qt F A fr c e x.id 0) (i0 : 0 ≤ x.id) (i1 : x.id < 4) : ∃ B, TGo p x A L 3 (x.q3 e p) B L ∧ Qt F B fr c e x.id ((e + 1) * 4) := by
  have e0 := Q.e0; have e1 := Q.e1
  have ll := lq.len
  have s1 : x.step A L p = (x.q1 e p, true, 0, A.ld 29, L) := by
    rw [Th.step_none r.nd r.nx]
    have hb : x.z.begin p = ({ x with ts := -1, tg := 0, evs := x.evs ++ [x.ev0 p], ent := some (.new x.id), end_ := 2, next := some .ent }, true) := by
      unfold Th.begin
      rw [if_neg (show ¬ x.z.done = true by rw [show x.z.done = x.done from rfl, hd]; decide), if_neg (show ¬ 0 < x.z.pause by rw [show x.z.pause = x.pause from rfl, r.pa]; decide), if_pos (show x.z.tries = 0 from r.tr)]
      rfl
    rw [hb]
    simp only [if_true]
    unfold Th.act Th.ents
    simp only
    rw [Ent.step_1 Q]
    rfl
  have Q1 := Q.ld (i := 29) (by decide) (by decide)
  have s2 : (x.q1 e p).step (A.ld 29) L (p + 1) = (x.q2 e p, true, 0, (A.ld 29).put (30 + x.id) ((e + 1) * 4), L) := by
    rw [Th.step_some (x := x.q1 e p) (a := .ent) r.nd rfl]
    rfl
  have Q2 := Q1.told (u := (e + 1) * 4) i0 i1 (by constructor <;> omega)
  have s3 : (x.q2 e p).step ((A.ld 29).put (30 + x.id) ((e + 1) * 4)) L (p + 1 + 1) = (x.q3 e p, true, 0, ((A.ld 29).put (30 + x.id) ((e + 1) * 4)).ld 29, L) := by
    rw [Th.step_some (x := x.q2 e p) (a := .ent) r.nd rfl]
    unfold Th.act Th.ents Th.q2
    simp only [Th.z]
    rw [Ent.step_3 Q2]
    rfl
  have Q3 := Q2.ld (i := 29) (by decide) (by decide)
  have b : ∀ li : List Ret, li.length ≤ 3 → ∀ ri : List Int, ri.length + li.length ≤ 3 → ri.length ≤ 1 → x.cache.length + li.length + (ri.length + if x.slot = -1 then 0 else 1) ≤ 4 := fun li h1 ri h2 h3 => by
    rw [r.ca, r.sl, if_pos rfl]; simp only [List.length_nil]; omega
  have hr0 : x.ripe.length = 0 := by rw [r.ri]; rfl
  have rl := ripes_rests x.limbo e
  have r1 : (ripes x.limbo e).length ≤ 1 := by
    rcases lq.take with ⟨q, _⟩ | ⟨_, a, _, _, _, q, _⟩ <;> rw [q] <;> simp
  refine ⟨_, .step s1 ⟨.inl rfl, .inl rfl, ll, b x.limbo ll x.ripe (by omega) (by omega), by show x.ripe.length ≤ 1; omega⟩ (.step s2 ⟨.inl rfl, .inl rfl, ll, b x.limbo ll x.ripe (by omega) (by omega), by show x.ripe.length ≤ 1; omega⟩ (.one s3 ⟨.inl rfl, .inl rfl, ?_, ?_, r1⟩)), Q3⟩
  · show (rests x.limbo e).length ≤ 3; omega
  · exact b (rests x.limbo e) (by omega) (ripes x.limbo e) (by omega) r1
theorem ops_snoc (x : Th) (e p : Int) : (x.q3 e p).ops = x.txns.getD x.evs.length [] := by
  unfold Th.ops Th.q3
  simp only [List.getLast?_append, List.getLast?_singleton, Option.some_or, Th.ev0]
  rfl
theorem with_may {y : Th} {s : Int} {L : List Int} {ops : List Op} (ho : y.ops = ops) (m : At.may y.id y.seq s (L.getD s.toNat 0 + 1) ops) : y.with_ s L = { y with slot := s, att := some (.new y.id y.seq s (L.getD s.toNat 0 + 1) ops), next := some .tri } := by
  subst ho
  unfold Th.with_
  rw [if_pos m]
/-- from the cache: the attempt's first step is the same one -/
theorem q_cached {r1 r2 : Ret} (r : Rst x) (h1 : ripes x.limbo e = [s]) (h2 : rests x.limbo e = [r1, r2]) (m : At.may x.id x.seq s (L.getD s.toNat 0 + 1) (x.txns.getD x.evs.length [])) :
    ∀ q, (x.q3 e p).step A L q = (x.q4 e p s [r1, r2] L).step A (lived s L) q := by
  intro q
  rw [Th.step_some (x := x.q3 e p) (a := .fre) r.nd rfl, Th.step_some (x := x.q4 e p s [r1, r2] L) (a := .tri) r.nd rfl]
  show Th.ended ((x.q3 e p).z.fres A L) = Th.ended ((x.q4 e p s [r1, r2] L).z.tris A, lived s L)
  congr 1
  have hc : (x.q3 e p).z.cached = { x.q3 e p with cache := [s], ripe := [] } := by
    unfold Th.cached Th.z Th.q3
    simp only [r.pu, r.ca, h1]
    rfl
  unfold Th.fres
  rw [hc]
  simp only
  rw [taks_1 (x := { x.q3 e p with cache := [s], ripe := [] }) (s := s) r.po rfl]
  have : (({ { x.q3 e p with cache := [s], ripe := [] } with cache := [s].dropLast } : Th).with_ s L) = (x.q4 e p s [r1, r2] L).z := by
    have ho : Th.ops { { x.q3 e p with cache := [s], ripe := [] } with cache := [s].dropLast } = x.txns.getD x.evs.length [] := ops_snoc x e p
    refine (with_may ho m).trans ?_
    unfold Th.z Th.q4 Th.q3
    simp only [r.pu, r.po, h2]
    rfl
  exact congrArg (fun y : Th => (y.tris A, lived s L)) this
/-- three steps: one is popped -/
theorem pop_three (hA : A.ok) (F : Fre A (s :: fr) c) (hc : c < 80000) : ∃ p1 p2 p3 A1 A2 A3, Pop.new.step A = (p1, 0, A1) ∧ p1.l.over = false ∧ p1.step A1 = (p2, 0, A2) ∧ p2.l.over = false ∧ p2.step A2 = (p3, 0, A3) ∧ p3.l.over = true ∧ p3.slot = s ∧
    (0 ≤ s ∧ s < 12) ∧ A1.ok ∧ A2.ok ∧ A3.ok ∧ Fre A3 fr (c + 1) ∧ ∀ j, 0 ≤ j → j < 634 → j ≠ 16 → A3.at j = A.at j := by
  obtain ⟨f, f1, f2⟩ := F.hd
  have fr0 := f2.rng
  have c0 := F.c0
  obtain ⟨d1, d2, d3⟩ := head_word f1 c0 (by omega) fr0.1 fr0.2
  obtain ⟨g1, g2, v, g3, g4⟩ := f2
  have x1 := Pop.step_own Pop.new_ok (Pop.new_own (A := A) (c := c)) hA F (by omega)
  have y1 := Pop.step_ok Pop.new_ok hA
  have z1 := Pop.step_acc (A := A) Pop.new_ok
  have e1 : (Pop.new.step A).1.l.over = false ∧ (Pop.new.step A).1.l.at_ = 1 ∧ (Pop.new.step A).1.l.word = A.at 16 := by
    unfold Pop.step
    rw [if_neg (by decide), if_pos (show Pop.new.l.at_ = 0 from rfl), if_pos d1, d3]
    exact ⟨decide_eq_false (by omega), rfl, rfl⟩
  generalize Pop.new.step A = q1 at *
  obtain ⟨p1, k1, A1⟩ := q1
  simp only at x1 y1 z1 e1
  obtain ⟨rfl, x1⟩ := x1
  have x1 : Kp A A1 ∧ p1.own A1 c := by
    rcases x1 with ⟨_, a, b⟩ | ⟨q, _⟩ | ⟨q, _⟩
    · exact ⟨a, b⟩
    · rw [e1.1] at q; cases q
    · rw [e1.1] at q; cases q
  have F1 := F.kp x1.1
  have x2 := Pop.step_own y1.1 x1.2 y1.2 F1 (by omega)
  have y2 := Pop.step_ok y1.1 y1.2
  have z2 := Pop.step_acc (A := A1) y1.1
  have e2 : (p1.step A1).1.l.over = false ∧ (p1.step A1).1.l.at_ = 2 ∧ (p1.step A1).1.l.word = A.at 16 := by
    have h0 := x2.1
    unfold Pop.step at h0 ⊢
    rw [if_neg (by rw [e1.1]; decide), if_neg (by rw [e1.2.1]; decide), if_pos e1.2.1] at h0 ⊢
    split
    · exact ⟨e1.1, rfl, e1.2.2⟩
    · rename_i hn
      rw [if_neg hn] at h0
      cases h0
  generalize hq2 : p1.step A1 = q2 at *
  obtain ⟨p2, k2, A2⟩ := q2
  simp only at x2 y2 z2 e2
  obtain ⟨rfl, x2⟩ := x2
  have x2 : Kp A1 A2 ∧ p2.own A2 c := by
    rcases x2 with ⟨_, a, b⟩ | ⟨q, _⟩ | ⟨q, _⟩
    · exact ⟨a, b⟩
    · rw [e2.1] at q; cases q
    · rw [e2.1] at q; cases q
  have F2 := F1.kp x2.1
  have x3 := Pop.step_own y2.1 x2.2 y2.2 F2 (by omega)
  have y3 := Pop.step_ok y2.1 y2.2
  have z3 := Pop.step_acc (A := A2) y2.1
  have pf := y2.1.f e2.1 (by omega)
  have hw : A2.at 16 = p2.l.word := by rw [e2.2.2, x2.1 16 (by decide) (by decide), x1.1 16 (by decide) (by decide)]
  have e3 : (p2.step A2).1.l.over = true ∧ (p2.step A2).1.slot ≠ -1 := by
    unfold Pop.step
    rw [if_neg (by rw [e2.1]; decide), if_neg (by omega), if_neg (by omega), if_pos hw]
    exact ⟨rfl, by show p2.l.first - 1 ≠ -1; omega⟩
  generalize hq3 : p2.step A2 = q3 at *
  obtain ⟨p3, k3, A3⟩ := q3
  simp only at x3 y3 z3 e3
  obtain ⟨rfl, x3⟩ := x3
  rcases x3 with ⟨q, _⟩ | ⟨_, q, _⟩ | ⟨_, s', fr', h1, h2, h3, h4, _⟩
  · rw [e3.1] at q; cases q
  · exact absurd q e3.2
  · cases h1
    exact ⟨p1, p2, p3, A1, A2, A3, rfl, e1.1, hq2, e2.1, hq3, e3.1, h2, h3, y1.2, y2.2, y3.2, h4, fun j j0 j1 jn => by
      rw [z3.same y2.2 j0 j1 jn, z2.same y1.2 j0 j1 jn, z1.same hA j0 j1 jn]⟩
theorem taks_got {y : Th} {p2 p3 : Pop} {A2 A3 : Ar} {L : List Int} {s : Int} (hp : y.pop = some p2) (hs : p2.step A2 = (p3, 0, A3)) (ho : p3.l.over = true) (hsl : p3.slot = s) (h0 : 0 ≤ s) : y.taks A2 L = ((({ y with pop := none } : Th).with_ s L, 0, A3), lived s L) := by
  rw [taks_2 (fun h => by rw [hp] at h; cases h)]
  unfold Th.taks2
  rw [hp]
  simp only [Option.getD_some]
  rw [hs]
  simp only
  rw [if_neg (by rw [ho]; simp), if_neg (by rw [hsl]; omega), hsl]
theorem q_popped (r : Rst x) (h1 : ripes x.limbo e = []) (h2 : rests x.limbo e = x.limbo) (lq : Lq x.limbo e) (Q : Qt F A (s :: fr) c e x.id w) (hc : c < 80000) (m : At.may x.id x.seq s (L.getD s.toNat 0 + 1) (x.txns.getD x.evs.length [])) :
    ∃ B, TGo (p + 3) (x.q3 e p) A L 3 (x.q4 e p s x.limbo L) B (lived s L) ∧ Qt F B fr (c + 1) e x.id w := by
  obtain ⟨p1, p2, p3, A1, A2, A3, a1, a2, a3, a4, a5, a6, a7, a8, a9, a10, a11, a12, a13⟩ := pop_three Q.ok Q.fre hc
  have ll := lq.len
  have st : ∀ {q : Int} {z : Th} {A : Ar} {pp : Option Pop} {po : Pop} {A' : Ar}, z.dead = false → z.next = some .tak ∨ (z.next = some .fre ∧ z.push = none ∧ z.cached.ripe = [] ∧ z.z.cached = z.z) → z.pop = pp → z.cache = [] → (pp.getD .new).step A = (po, 0, A') → po.l.over = false → z.step A L q = ({ z with ts := -1, tg := 0, pop := some po, next := some .tak }, true, 0, A', L) := by
    intro q z A pp po A' hd hn hp hc hs ho
    have key : z.z.taks A L = (({ z with ts := -1, tg := 0, pop := some po, next := some .tak }, 0, A'), L) := by
      rw [taks_2 (x := z.z) (fun _ => hc)]
      unfold Th.taks2
      have : z.z.pop = pp := hp
      rw [this, hs]
      simp only
      rw [if_pos (.inl ho)]
      rfl
    rcases hn with hn | ⟨hn, hpu, hcr, hcz⟩
    · rw [Th.step_some hd hn]
      show Th.ended (z.z.taks A L) = _
      rw [key]; rfl
    · rw [Th.step_some hd hn]
      show Th.ended (z.z.fres A L) = _
      unfold Th.fres
      rw [hcz]
      have : z.z.ripe = [] := by
        have e : z.z.cached.ripe = z.cached.ripe := by
          unfold Th.cached
          show (match z.push with | none => _ | some _ => _ : Th).ripe = (match z.push with | none => _ | some _ => _ : Th).ripe
          rw [hpu]
          rfl
        rw [← hcz, e]; exact hcr
      simp only [this]
      rw [key]; rfl
  have c3 : (x.q3 e p).cached = x.q3 e p := by
    unfold Th.cached Th.q3
    simp only [r.pu, r.ca, h1, List.take_nil, List.drop_nil, List.append_nil]
  have c3z : (x.q3 e p).z.cached = (x.q3 e p).z := by
    unfold Th.cached Th.z Th.q3
    simp only [r.pu, r.ca, h1, List.take_nil, List.drop_nil, List.append_nil]
  have s1 := st (q := p + 3) (z := x.q3 e p) (A := A) r.nd (.inr ⟨rfl, r.pu, by rw [c3]; exact h1, c3z⟩) r.po r.ca a1 a2
  have s2 := st (q := p + 3 + 1) (z := { x.q3 e p with ts := -1, tg := 0, pop := some p1, next := some .tak }) (A := A1) r.nd (.inl rfl) rfl r.ca a3 a4
  have s3 : ({ x.q3 e p with ts := -1, tg := 0, pop := some p2, next := some .tak } : Th).step A2 L (p + 3 + 1 + 1) = (x.q4 e p s x.limbo L, true, 0, A3, lived s L) := by
    rw [Th.step_some (x := { x.q3 e p with ts := -1, tg := 0, pop := some p2, next := some .tak }) (a := .tak) r.nd rfl]
    have key : ({ x.q3 e p with ts := -1, tg := 0, pop := some p2, next := some .tak } : Th).taks A2 L = ((x.q4 e p s x.limbo L, 0, A3), lived s L) := by
      rw [taks_got (y := { x.q3 e p with ts := -1, tg := 0, pop := some p2, next := some .tak }) rfl a5 a6 a7 a8.1]
      have : ({ x.q3 e p with ts := -1, tg := 0, pop := none, next := some .tak } : Th).with_ s L = x.q4 e p s x.limbo L := by
        have ho : Th.ops { x.q3 e p with ts := -1, tg := 0, pop := none, next := some .tak } = x.txns.getD x.evs.length [] := ops_snoc x e p
        refine (with_may ho m).trans ?_
        unfold Th.q4 Th.q3
        simp only [r.pu, r.ca, h1, h2]
      exact congrArg (fun y : Th => ((y, (0 : Int), A3), lived s L)) this
    show Th.ended (({ x.q3 e p with ts := -1, tg := 0, pop := some p2, next := some .tak } : Th).taks A2 L) = _
    rw [key]; rfl
  have l3 : (rests x.limbo e).length ≤ 3 := by rw [h2]; exact ll
  have b3 : x.cache.length + (rests x.limbo e).length + ((ripes x.limbo e).length + if x.slot = -1 then 0 else 1) ≤ 4 := by
    rw [r.ca, r.sl, if_pos rfl, h1]; simp only [List.length_nil]; omega
  have r3 : (ripes x.limbo e).length ≤ 1 := by rw [h1]; simp
  refine ⟨A3, .step s1 ⟨.inl rfl, .inl rfl, l3, b3, r3⟩ (.step s2 ⟨.inl rfl, .inl rfl, l3, b3, r3⟩ (.one s3 ⟨.inl rfl, .inr ⟨s, a8.1, a8.2, rfl⟩, ll, ?_, by show ([] : List Int).length ≤ 1; simp⟩)), ?_⟩
  · show ([] : List Int).length + x.limbo.length + (([] : List Int).length + if s = -1 then 0 else 1) ≤ 4
    simp only [List.length_nil]
    split <;> omega
  · refine ⟨a11, Q.fok, ⟨Q.mem.fl, Q.mem.val, fun i hi => by rw [a13 i (by omega) (by omega) (by omega)]; exact Q.mem.at_ i hi⟩, a12, by rw [a13 29 (by decide) (by decide) (by decide)]; exact Q.ep, Q.e0, Q.e1, fun i i0 i1 => by rw [a13 i (by omega) (by omega) (by omega)]; exact Q.say i i0 i1⟩
end
end Go.Proofs.YtfphpafkhljncaaGreat
namespace Go.Proofs.YtfphpafkhljncaaGreat
open Go GW Go.Proofs
set_option linter.unusedVariables false
set_option linter.unusedSimpArgs false
def Th.q6 (x : Th) (e p : Int) (li : List Ret) (a : At) (ad : Option Adv) (nx : Option Act) : Th := { x with ts := -1, tg := 0, evs := x.evs ++ [x.ev0 p], ent := some ⟨x.id, e, false, true, true⟩, end_ := 0, cache := [], ripe := [], push := none, pop := none, limbo := li, slot := -1, att := some a, seq := a.q, adv := ad, next := nx }
/-- the end: it is answered -/
def Th.q9 (x : Th) (e p q : Int) (li : List Ret) (a : At) (ad : Option Adv) : Th := { x.q6 e p li a ad none with tries := 0, evs := x.evs ++ [⟨x.id, x.evs.length, p, -1, q, 0, 1, a.ans⟩] }
section
variable {F : Vw} {A : Ar} {fr : List Int} {c e w p q s : Int} {x : Th} {L : List Int} {li : List Ret} {a : At}
theorem q6_stp (nx : Option Act) (ad : Option Adv) (hl : li.length ≤ 3) : Stp L (x.q6 e p li a ad nx) L :=
  ⟨.inl rfl, .inl rfl, hl, by show ([] : List Int).length + li.length + (([] : List Int).length + if (-1 : Int) = -1 then 0 else 1) ≤ 4; simp only [List.length_nil, if_true]; omega, by show ([] : List Int).length ≤ 1; simp⟩
theorem q_retire {L0 : List Int} (hd : x.dead = false) (Q : Qt F A fr c e x.id w) (hw : a.won = true) :
    ({ x.q4 e p s li L0 with att := some a, ts := a.ts, tg := a.tg, seq := a.q, next := some .ret } : Th).step A L q = (x.q6 e p (li ++ [⟨s, e⟩]) a x.adv (some .lea), true, 0, A.ld 29, L) := by
  rw [Th.step_some (x := { x.q4 e p s li L0 with att := some a, ts := a.ts, tg := a.tg, seq := a.q, next := some .ret }) (a := .ret) hd rfl]
  unfold Th.act Th.rets
  simp only
  rw [if_pos Q.epoch.1, Q.epoch.2]
  unfold Th.z
  simp only [Option.map_some, Option.getD_some, hw, if_true]
  rfl
theorem q_leave {ad : Option Adv} (hd : x.dead = false) : (x.q6 e p li a ad (some .lea)).step A L q = (x.q6 e p li a (some (.new x.n)) (some .adv), true, 0, A.put (30 + x.id) 0, L) := by
  rw [Th.step_some (x := x.q6 e p li a ad (some .lea)) (a := .lea) hd rfl]
  rfl
theorem q_asks (hd : x.dead = false) (hl : li.length ≤ 3) (n1 : x.n ≤ 4) : ∀ (k : Nat) {i q : Int} {A : Ar}, 0 ≤ i → i + k = x.n → Qt F A fr c e x.id 0 → ∃ B, TGo q (x.q6 e p li a (some ⟨x.n, i, e, false, false⟩) (some .adv)) A L k (x.q6 e p li a (some ⟨x.n, x.n, e, false, false⟩) (some .adv)) B L ∧ Qt F B fr c e x.id 0 := by
  intro k
  induction k with
  | zero => intro i q A h0 h1 Q; obtain rfl : i = x.n := by omega
            exact ⟨A, .refl _ _ _ _, Q⟩
  | succ k ih =>
    intro i q A h0 h1 Q
    have h29 : A.at (30 + i) = 0 := by rw [Q.say _ (by omega) (by omega)]; split <;> rfl
    have hp : plainOf (0 : Int) = some 0 := plainOf_val (v := 0) (by decide) (by decide)
    have hv : valOf (0 : Int) = 0 := valOf_val (v := 0) (by decide) (by decide)
    have es : (Adv.mk x.n i e false false).step A = (⟨x.n, i + 1, e, false, false⟩, 0, A.ld (30 + i)) := by
      unfold Adv.step
      rw [if_neg (by simp), if_neg (by simp only; omega), if_pos (by simp only; omega)]
      simp only
      rw [h29, hp, hv]
      rfl
    have st : (x.q6 e p li a (some ⟨x.n, i, e, false, false⟩) (some .adv)).step A L q = (x.q6 e p li a (some ⟨x.n, i + 1, e, false, false⟩) (some .adv), true, 0, A.ld (30 + i), L) := by
      rw [Th.step_some (x := x.q6 e p li a (some ⟨x.n, i, e, false, false⟩) (some .adv)) (a := .adv) hd rfl]
      unfold Th.act Th.advs Th.z Th.q6
      simp only
      rw [es]
      rfl
    obtain ⟨B, g, QB⟩ := ih (i := i + 1) (q := q + 1) (by omega) (by omega) (Q.ld (i := 30 + i) (by omega) (by omega))
    exact ⟨B, .step st (q6_stp _ _ hl) g, QB⟩
theorem evTurn_snoc (es : List Event) (e : Event) (f : Event → Event) : evTurn (es ++ [e]) f = es ++ [f e] := by
  unfold evTurn
  rw [List.getLast?_append, List.getLast?_singleton, Option.some_or]
  simp only [List.length_append, List.length_singleton, Nat.add_sub_cancel]
  rw [List.set_append_right _ _ (by omega), Nat.sub_self]
  rfl
theorem q_moves (hd : x.dead = false) (ht : x.tries = 0) (Q : Qt F A fr c e x.id 0) (n1 : 1 ≤ x.n) : (x.q6 e p li a (some ⟨x.n, x.n, e, false, false⟩) (some .adv)).step A L q = (x.q9 e p q li a (some ⟨x.n, x.n + 1, e, true, true⟩), true, 0, A.cas 29 (e * 4) ((e + 1) * 4), L) := by
  have es : (Adv.mk x.n x.n e false false).step A = (⟨x.n, x.n + 1, e, true, true⟩, 0, A.cas 29 (e * 4) ((e + 1) * 4)) := by
    unfold Adv.step
    rw [if_neg (by simp), if_neg (by simp only; omega), if_neg (by simp only; omega)]
    simp only
    rw [Q.ep, decide_eq_true rfl]
  have ha : (x.q6 e p li a (some ⟨x.n, x.n + 1, e, true, true⟩) (some .adv)).answer q = x.q9 e p q li a (some ⟨x.n, x.n + 1, e, true, true⟩) := by
    have hn : ¬ ((x.q6 e p li a (some ⟨x.n, x.n + 1, e, true, true⟩) (some .adv)).end_ = 2 ∧ (x.q6 e p li a (some ⟨x.n, x.n + 1, e, true, true⟩) (some .adv)).tries + 1 < (x.q6 e p li a (some ⟨x.n, x.n + 1, e, true, true⟩) (some .adv)).k) := fun h => by
      have h1 : (0 : Int) = 2 := h.1
      omega
    unfold Th.answer
    rw [if_neg hn]
    unfold Th.q9 Th.q6 Th.ev0
    simp only [evTurn_snoc, ht, if_true]
    rfl
  have key : (x.q6 e p li a (some ⟨x.n, x.n, e, false, false⟩) (some .adv)).advs A q = (x.q9 e p q li a (some ⟨x.n, x.n + 1, e, true, true⟩), 0, A.cas 29 (e * 4) ((e + 1) * 4)) := by
    have e1 : (x.q6 e p li a (some ⟨x.n, x.n, e, false, false⟩) (some .adv)).adv = some ⟨x.n, x.n, e, false, false⟩ := rfl
    unfold Th.advs
    rw [e1]
    simp only
    rw [es]
    simp only [and_self, if_true]
    exact congrArg (fun y : Th => (y, (0 : Int), A.cas 29 (e * 4) ((e + 1) * 4))) ha
  rw [Th.step_some (x := x.q6 e p li a (some ⟨x.n, x.n, e, false, false⟩) (some .adv)) (a := .adv) hd rfl]
  show Th.ended ((x.q6 e p li a (some ⟨x.n, x.n, e, false, false⟩) (some .adv)).advs A q, L) = _
  rw [key]
  rfl
theorem Qt.moved (Q : Qt F A fr c e x.id 0) : Qt F (A.cas 29 (e * 4) ((e + 1) * 4)) fr c (e + 1) x.id 0 ∨ 999999 ≤ e := by
  have e0 := Q.e0
  by_cases h : e < 999999
  · left
    have at_ : ∀ j, 0 ≤ j → j < 634 → (A.cas 29 (e * 4) ((e + 1) * 4)).at j = if 29 = j then (e + 1) * 4 else A.at j := fun j j0 j1 => by
      rw [at_cas Q.ok (by decide) (by decide) j0 j1, Q.ep, if_pos rfl]
    refine ⟨Q.ok.cas _ _ (by constructor <;> omega), Q.fok, ⟨Q.mem.fl, Q.mem.val, fun i hi => ?_⟩, Q.fre.kp fun i h0 h1 => ?_, ?_, by omega, by omega, fun i h0 h1 => ?_⟩
    · rw [at_ i (by omega) (by omega), if_neg (by omega)]; exact Q.mem.at_ i hi
    · rw [at_ i (by omega) (by omega), if_neg (by omega)]
    · rw [at_ 29 (by decide) (by decide), if_pos rfl]
    · rw [at_ i (by omega) (by omega), if_neg (by omega)]; exact Q.say i h0 h1
  · exact .inr (by omega)
theorem rest_lt (ox : x.ok) (r : Rst x) (hd : x.done = false) : x.evs.length < x.txns.length := by
  have ha := ox.ans r.nx r.tr
  rcases Nat.lt_or_ge x.evs.length x.txns.length with q | q
  · exact q
  · exfalso
    have hl := ox.evs
    have : x.done = true := by
      unfold Th.done
      rw [decide_eq_true (by omega), Bool.true_and]
      split
      · rfl
      · rename_i e h; exact decide_eq_true (ha e (List.mem_of_getLast? h))
    rw [hd] at this; cases this
/-- from the attempt's begin to the end of the transaction -/
theorem q_rest {L0 : List Int} (ox : x.ok) (r : Rst x) (Q : Qt F A fr c e x.id ((e + 1) * 4)) (he : e < 900000) (s0 : 0 ≤ s) (s1 : s < 12) (hll : li.length ≤ 2) (hL : L.getD s.toNat 0 = L0.getD s.toNat 0 + 1)
    (m : At.may x.id x.seq s (L0.getD s.toNat 0 + 1) (x.txns.getD x.evs.length [])) :
    ∃ n B a ad, TGo q (x.q4 e p s li L0) A L n (x.q9 e p (q + n - 1) (li ++ [⟨s, e⟩]) a ad) B L ∧ 4 ≤ n ∧ n ≤ 207 ∧ Qt (F.do_ (x.txns.getD x.evs.length [])).view B fr c (e + 1) x.id 0 ∧ a.ans = (F.do_ (x.txns.getD x.evs.length [])).ans := by
  have i0 := ox.i0; have i1 := ox.i1; have n0 := ox.n0; have n1 := ox.n1
  have e0 := Q.e0
  obtain ⟨n, a, B, g, k1, k2, o1, o2, o3, o4, o5, o6, o7, o8, o9⟩ := attempt_alone m Q.ok Q.mem
  have g1 := tri_run (L := L) (p := q) (x := x.q4 e p s li L0) g k1 o1 rfl r.nd rfl s0 s1 hL (by show li.length ≤ 3; omega) (by
    show ([] : List Int).length + li.length + (([] : List Int).length + if s = -1 then 0 else 1) ≤ 4
    simp only [List.length_nil]
    split <;> omega) (by show ([] : List Int).length ≤ 1; simp)
  have dok := Vw.do_ok Q.fok m.2.2.2
  have dfl := Vw.do_full m.2.2.2 Q.mem.fl
  have hb : baseOf s = 34 + s * 50 := rfl
  have QB : Qt (F.do_ (x.txns.getD x.evs.length [])).view B fr c e x.id ((e + 1) * 4) := by
    refine ⟨o5, dok.1, ⟨dfl.2, fun i hi => ?_, o6⟩, Q.fre.kp fun i h0 h1 => o7 i (by omega) (by omega) (by omega), by rw [o7 29 (by decide) (by decide) (by omega)]; exact Q.ep, Q.e0, Q.e1, fun i h0 h1 => by rw [o7 i (by omega) (by omega) (by omega)]; exact Q.say i h0 h1⟩
    rw [List.getD_eq_getElem?_getD]
    cases hh : (F.do_ (x.txns.getD x.evs.length [])).view.n[i]? with
    | none => exact Vw.val0
    | some y => exact dok.1.rn y (List.mem_of_getElem? hh)
  have g2 := q_retire (p := p) (q := q + n) (s := s) (L := L) (li := li) (L0 := L0) r.nd QB o2
  have Q2 := QB.ld (i := 29) (by decide) (by decide)
  have g3 := q_leave (p := p) (q := q + n + 1) (L := L) (li := li ++ [⟨s, e⟩]) (e := e) (A := B.ld 29) (a := a) (ad := x.adv) r.nd
  have Q3 := Q2.told (u := 0) i0 (by omega) zero64
  have hl3 : (li ++ [⟨s, e⟩] : List Ret).length ≤ 3 := by rw [List.length_append, List.length_singleton]; omega
  have g4 : (x.q6 e p (li ++ [⟨s, e⟩]) a (some (.new x.n)) (some .adv)).step ((B.ld 29).put (30 + x.id) 0) L (q + n + 1 + 1) = (x.q6 e p (li ++ [⟨s, e⟩]) a (some ⟨x.n, 0, e, false, false⟩) (some .adv), true, 0, ((B.ld 29).put (30 + x.id) 0).ld 29, L) := by
    have es : (Adv.new x.n).step ((B.ld 29).put (30 + x.id) 0) = (⟨x.n, 0, e, false, false⟩, 0, ((B.ld 29).put (30 + x.id) 0).ld 29) := by
      unfold Adv.step Adv.new
      rw [if_neg (by simp), if_pos (by simp only; omega), if_pos Q3.epoch.1, Q3.epoch.2]
      rfl
    rw [Th.step_some (x := x.q6 e p (li ++ [(⟨s, e⟩ : Ret)]) a (some (Adv.new x.n)) (some .adv)) (a := .adv) r.nd rfl]
    unfold Th.act Th.advs Th.z Th.q6
    simp only
    rw [es]
    rfl
  have Q4 := Q3.ld (i := 29) (by decide) (by decide)
  obtain ⟨k, hk⟩ := Int.eq_ofNat_of_zero_le (show 0 ≤ x.n by omega)
  obtain ⟨C, g5, Q5⟩ := q_asks (p := p) (a := a) (L := L) (li := li ++ [⟨s, e⟩]) r.nd hl3 n1 k (i := 0) (q := q + n + 1 + 1 + 1) (Int.le_refl 0) (by omega) Q4
  have g6 := q_moves (p := p) (a := a) (L := L) (li := li ++ [⟨s, e⟩]) (q := q + n + 1 + 1 + 1 + k) r.nd r.tr Q5 n0
  have Q6 : Qt (F.do_ (x.txns.getD x.evs.length [])).view (C.cas 29 (e * 4) ((e + 1) * 4)) fr c (e + 1) x.id 0 := by
    rcases Q5.moved with z | z
    · exact z
    · omega
  have all := g1.trans (.step g2 (q6_stp _ _ hl3) (.step g3 (q6_stp _ _ hl3) (.step g4 (q6_stp _ _ hl3) (g5.trans (.one g6 (by
    have := q6_stp (x := x) (e := e) (p := p) (a := a) (L := L) none (some ⟨x.n, x.n + 1, e, true, true⟩) hl3
    exact ⟨this.thr, this.liv, this.lim, this.hold, this.used⟩))))))
  refine ⟨n + (k + 1 + 1 + 1 + 1), _, a, some ⟨x.n, x.n + 1, e, true, true⟩, ?_, by omega, by omega, Q6, o3⟩
  have eq : q + ((n + (k + 1 + 1 + 1 + 1) : Nat) : Int) - 1 = q + n + 1 + 1 + 1 + k := by omega
  rw [eq]
  exact all
/-- one transaction -/
theorem q_txn (ox : x.ok) (r : Rst x) (hd : x.done = false) (lq : Lq x.limbo e) (Q : Qt F A fr c e x.id 0) (hc : c < 80000) (he : e < 900000) (hL : L.length = 12 ∧ ∀ i, 0 ≤ L.getD i 0 ∧ L.getD i 0 < 60000) (hm : x.limbo.length = 3 ∨ fr ≠ []) :
    ∃ n li a ad B s fr' c', TGo p x A L n (x.q9 e p (p + n - 1) li a ad) B (lived s L) ∧ 1 ≤ n ∧ n ≤ 230 ∧ Lq li (e + 1) ∧ li.length = min 3 (x.limbo.length + 1) ∧ (0 ≤ s ∧ s < 12) ∧ Qt (F.do_ (x.txns.getD x.evs.length [])).view B fr' c' (e + 1) x.id 0 ∧ c' ≤ c + 1 ∧
      fr.length = fr'.length + (if x.limbo.length = 3 then 0 else 1) ∧ a.ans = (F.do_ (x.txns.getD x.evs.length [])).ans := by
  have i0 := ox.i0; have i1 := ox.i1; have n1 := ox.n1
  have lt := rest_lt ox r hd
  obtain ⟨B0, g0, Q0⟩ := q_enter (L := L) (p := p) r hd lq Q i0 (by omega)
  have mo : Txn.may (x.txns.getD x.evs.length []) = true := by
    have := (thrMay_spec ox.txns).2
    rw [List.getD_eq_getElem?_getD, List.getElem?_eq_getElem lt]
    exact this _ (List.getElem_mem lt)
  have may : ∀ s, 0 ≤ s → s < 12 → At.may x.id x.seq s (L.getD s.toNat 0 + 1) (x.txns.getD x.evs.length []) := fun s s0 s1 => by
    have := hL.2 s.toNat
    refine ⟨⟨i0, by omega⟩, ⟨ox.q0, ox.q1⟩, ?_, mo⟩
    unfold lifeMay
    exact decide_eq_true ⟨s0, s1, by omega, by omega⟩
  have lvd : ∀ s : Int, 0 ≤ s → s < 12 → (lived s L).getD s.toNat 0 = L.getD s.toNat 0 + 1 := fun s s0 s1 => by
    unfold lived
    rw [List.getD_eq_getElem?_getD, List.getElem?_set_self (by rw [hL.1]; omega)]
    rfl
  have ll := lq.len
  rcases lq.take with ⟨t1, t2, t3, t4⟩ | ⟨t0, s, r1, r2, t1, t2, t3, t4⟩
  · have hf : fr ≠ [] := by rcases hm with h | h; omega; exact h
    obtain ⟨s, fr', rfl⟩ : ∃ s fr', fr = s :: fr' := by
      cases fr with
      | nil => exact absurd rfl hf
      | cons s fr' => exact ⟨s, fr', rfl⟩
    obtain ⟨f, _, f2⟩ := Q.fre.hd
    have sr := f2.mem s (by simp)
    obtain ⟨B1, g1, Q1⟩ := q_popped (p := p) (L := L) r t1 t2 lq Q0 hc (may s sr.1 sr.2)
    obtain ⟨n, B, a, ad, g2, k1, k2, Q2, ha⟩ := q_rest (p := p) (q := p + 3 + 3) (L0 := L) (li := x.limbo) ox r Q1 he sr.1 sr.2 t3 (lvd s sr.1 sr.2) (may s sr.1 sr.2)
    refine ⟨3 + (3 + n), x.limbo ++ [⟨s, e⟩], a, ad, B, s, fr', c + 1, ?_, by omega, by omega, t4 s, by rw [List.length_append, List.length_singleton]; omega, sr, Q2, by omega, by rw [List.length_cons, if_neg (by omega)], ha⟩
    have eq : p + ((3 + (3 + n) : Nat) : Int) - 1 = p + 3 + 3 + n - 1 := by omega
    rw [eq]
    exact g0.to rfl (g1.to rfl g2 rfl) rfl
  · have sr : 0 ≤ s ∧ s < 12 := by
      have := ox.li ⟨s, e - 3⟩ (by rw [t1]; simp)
      exact this.1
    have fs := q_cached (p := p) r t2 t3 (may s sr.1 sr.2) (A := B0)
    obtain ⟨n, B, a, ad, g2, k1, k2, Q2, ha⟩ := q_rest (p := p) (q := p + 3) (L0 := L) (L := lived s L) (li := [r1, r2]) ox r Q0 he sr.1 sr.2 (by simp) (lvd s sr.1 sr.2) (may s sr.1 sr.2)
    have same : ∀ y B' M, (x.q4 e p s [r1, r2] L).step B0 (lived s L) (p + 3) = (y, true, 0, B', M) → lived s L = M := fun y B' M h => by
      rw [Th.step_some (x := x.q4 e p s [r1, r2] L) (a := .tri) r.nd rfl] at h
      have : (Th.ended ((x.q4 e p s [r1, r2] L).z.tris B0, lived s L)).2.2.2.2 = lived s L := by unfold Th.ended; split <;> rfl
      have h2 : Th.ended ((x.q4 e p s [r1, r2] L).z.tris B0, lived s L) = (y, true, 0, B', M) := h
      rw [h2] at this
      exact this.symm
    have g3 := g2.first (by omega) (fs (p + 3)) (fun y M sp hM => ⟨sp.thr, by subst hM; exact .inr ⟨s, sr.1, sr.2, rfl⟩, sp.lim, sp.hold, sp.used⟩) same
    refine ⟨3 + n, [r1, r2, ⟨s, e⟩], a, ad, B, s, fr, c, ?_, by omega, by omega, t4 s, by rw [t0]; rfl, sr, Q2, by omega, by rw [if_pos t0]; rfl, ha⟩
    have eq : p + ((3 + n : Nat) : Int) - 1 = p + 3 + n - 1 := by omega
    rw [eq]
    exact g0.to rfl g3 rfl
end
end Go.Proofs.YtfphpafkhljncaaGreat
namespace Go.Proofs.YtfphpafkhljncaaGreat
open Go GW Go.Proofs
set_option linter.unusedVariables false
set_option linter.unusedSimpArgs false
section
variable {F : Vw} {A B : Ar} {fr : List Int} {c e w p q s : Int} {x y : Th} {L M : List Int} {li : List Ret} {a : At} {n : Nat}
theorem TGo.ok (g : TGo p x A L n y B M) : x.ok → A.ok → 0 ≤ p → y.ok ∧ B.ok := by
  induction g with
  | refl => intro h1 h2 _; exact ⟨h1, h2⟩
  | @step p x A L n y B M z C N h s _ ih =>
    intro h1 h2 hp
    have := Th.step_ok (L := L) (pick := p) h1 h2 hp
    rw [h] at this
    exact ih this.1 this.2 (by omega)
theorem q9_rst {ad : Option Adv} (r : Rst x) : Rst (x.q9 e p q li a ad) := ⟨r.nd, rfl, rfl, r.pa, rfl, rfl, rfl, rfl, rfl⟩
/-- what is told of transactions one behind the other -/
inductive Evr (id : Int) : Vw → Int → Nat → List (List Op) → List Event → Vw → Int → Prop
  | nil (F : Vw) (p : Int) (i : Nat) : Evr id F p i [] [] F p
  | cons {F : Vw} {p : Int} {i n : Nat} {t : List Op} {ts : List (List Op)} {es : List Event} {F' : Vw} {p' : Int} : 1 ≤ n → Evr id (F.do_ t).view (p + n) (i + 1) ts es F' p' → Evr id F p i (t :: ts) (⟨id, i, p, -1, p + n - 1, 0, 1, (F.do_ t).ans⟩ :: es) F' p'
theorem lived_sum {L : List Int} {s : Int} (h : L.length = 12) (s0 : 0 ≤ s) (s1 : s < 12) : (lived s L).sum = L.sum + 1 := by
  have key : ∀ (L : List Int) (i : Nat), i < L.length → (L.set i (L.getD i 0 + 1)).sum = L.sum + 1 := by
    intro L
    induction L with
    | nil => intro i h; simp at h
    | cons a L ih =>
      intro i hi
      cases i with
      | zero => simp; omega
      | succ i =>
        have := ih i (by simpa using hi)
        simp only [List.set_cons_succ, List.getD_cons_succ, List.sum_cons] at this ⊢
        omega
  exact key L s.toNat (by omega)
theorem lived_get {L : List Int} {s : Int} (i : Nat) : (lived s L).getD i 0 = L.getD i 0 ∨ (lived s L).getD i 0 = L.getD i 0 + 1 := by
  unfold lived
  rw [List.getD_eq_getElem?_getD, List.getD_eq_getElem?_getD (l := L) (i := i), List.getElem?_set]
  split
  · rename_i h
    subst h
    split
    · right; rw [List.getD_eq_getElem?_getD]; rfl
    · rename_i h; left; rw [List.getElem?_eq_none (by omega)]
  · exact .inl rfl
theorem q_all : ∀ (k : Nat) {x : Th} {A : Ar} {L : List Int} {F : Vw} {fr : List Int} {c e p : Int}, x.txns.length = x.evs.length + k → x.ok → Rst x → Lq x.limbo e → Qt F A fr c e x.id 0 → c + k < 80000 → e + k < 900000 → (L.length = 12 ∧ ∀ i, 0 ≤ L.getD i 0 ∧ L.getD i 0 + k < 60000) → 3 ≤ fr.length + x.limbo.length → 0 ≤ p →
    ∃ N y B M F' fr' c' e' es, TGo p x A L N y B M ∧ N ≤ 230 * k ∧ y.done = true ∧ y.ok ∧ Rst y ∧ Lq y.limbo e' ∧ Qt F' B fr' c' e' x.id 0 ∧ c' ≤ c + k ∧ e' = e + k ∧ (M.length = 12 ∧ (∀ i, 0 ≤ M.getD i 0 ∧ M.getD i 0 ≤ L.getD i 0 + k) ∧ M.sum = L.sum + k) ∧ fr'.length + y.limbo.length = fr.length + x.limbo.length ∧ y.limbo.length = min 3 (x.limbo.length + k) ∧
      y.evs = x.evs ++ es ∧ Evr x.id F p x.evs.length (x.txns.drop x.evs.length) es F' (p + N) ∧ y.id = x.id ∧ y.n = x.n ∧ y.txns = x.txns := by
  intro k
  induction k with
  | zero =>
    intro x A L F fr c e p hk ox r lq Q hc he hL hm hp
    have hd : x.done = true := by
      unfold Th.done
      rw [decide_eq_true (by omega), Bool.true_and]
      split
      · rfl
      · rename_i e h; exact decide_eq_true (ox.ans r.nx r.tr e (List.mem_of_getLast? h))
    refine ⟨0, x, A, L, F, fr, c, e, [], .refl _ _ _ _, by omega, hd, ox, r, lq, Q, by omega, by omega, ⟨hL.1, fun i => ⟨(hL.2 i).1, by omega⟩, by omega⟩, rfl, by have := lq.len; omega, by rw [List.append_nil], ?_, rfl, rfl, rfl⟩
    rw [List.drop_of_length_le (by omega)]
    have := Evr.nil (id := x.id) F p x.evs.length
    simpa using this
  | succ k ih =>
    intro x A L F fr c e p hk ox r lq Q hc he hL hm hp
    have hd : x.done = false := by
      unfold Th.done
      rw [decide_eq_false (by omega)]; rfl
    have ll := lq.len
    obtain ⟨n, li, a, ad, B, s, fr1, c1, g, n1, n2, lq1, ll1, sr, Q1, hc1, hf1, ha⟩ := q_txn (p := p) ox r hd lq Q (by omega) (by omega) ⟨hL.1, fun i => by have := hL.2 i; omega⟩ (by
      rcases Nat.lt_or_ge x.limbo.length 3 with h | h
      · right; intro e; rw [e] at hm; simp at hm; omega
      · left; omega)
    have okg := g.ok ox Q.ok hp
    have lv := lived_sum hL.1 sr.1 sr.2
    obtain ⟨N, y, B', M, F', fr', c', e', es, g', h1, h2, h3, h4, h5, h6, h7, h8, h9, h10, h11, h12, h13, h14, h15, h16⟩ := ih (x := x.q9 e p (p + n - 1) li a ad) (A := B) (L := lived s L) (F := (F.do_ (x.txns.getD x.evs.length [])).view) (fr := fr1) (c := c1) (e := e + 1) (p := p + n)
      (by show x.txns.length = (x.evs ++ [_]).length + k; rw [List.length_append, List.length_singleton]; omega) okg.1 (q9_rst r) lq1 Q1 (by omega) (by omega)
      ⟨by unfold lived; rw [List.length_set]; exact hL.1, fun i => by have := hL.2 i; have := lived_get (L := L) (s := s) i; omega⟩ (by show 3 ≤ fr1.length + li.length; split at hf1 <;> omega) (by omega)
    refine ⟨n + N, y, B', M, F', fr', c', e', ⟨x.id, x.evs.length, p, -1, p + n - 1, 0, 1, a.ans⟩ :: es, g.trans g', by omega, h2, h3, h4, h5, h6, by omega, by omega, ⟨h9.1, fun i => ?_, by omega⟩, ?_, ?_, ?_, ?_, h14, h15, h16⟩
    · have := h9.2.1 i; have := lived_get (L := L) (s := s) i; omega
    · have h10 : fr'.length + y.limbo.length = fr1.length + li.length := h10
      split at hf1 <;> omega
    · have h11 : y.limbo.length = min 3 (li.length + k) := h11
      omega
    · rw [h12]
      show (x.evs ++ [_]) ++ es = _
      rw [List.append_assoc]; rfl
    · have hlt : x.evs.length < x.txns.length := by omega
      rw [List.drop_eq_getElem_cons hlt]
      have et : x.txns[x.evs.length] = x.txns.getD x.evs.length [] := by rw [List.getD_eq_getElem?_getD, List.getElem?_eq_getElem hlt]; rfl
      rw [et, ha]
      refine Evr.cons n1 ?_
      have h13 : Evr x.id (F.do_ (x.txns.getD x.evs.length [])).view (p + n) (x.evs ++ [_]).length (x.txns.drop (x.evs ++ [_]).length) es F' (p + n + N) := h13
      rw [List.length_append, List.length_singleton] at h13
      rw [show p + ((n + N : Nat) : Int) = p + n + N by omega]
      exact h13
end
end Go.Proofs.YtfphpafkhljncaaGreat
namespace Go.Proofs.YtfphpafkhljncaaGreat
open Go GW Go.Proofs
set_option linter.unusedVariables false
set_option linter.unusedSimpArgs false
def Event.und (e : Event) : Event := { e with begun := 0, decided := -1, answered := sg e.answered }
def Th.ud (x : Th) : Th := x.we (x.evs.map Event.und)
def Th.und (x : Th) : Th := { x with evs := x.evs.map Event.und, ts := -1, tg := 0 }
theorem evTurn_und {es : List Event} {f f' : Event → Event} (h : ∀ e, (f e).und = f' e.und) : (evTurn es f).map Event.und = evTurn (es.map Event.und) f' := by
  unfold evTurn
  rw [List.getLast?_map]
  cases es.getLast? with
  | none => rfl
  | some e =>
    show (es.set (es.length - 1) (f e)).map Event.und = (es.map Event.und).set ((es.map Event.und).length - 1) (f' e.und)
    rw [List.map_set, List.length_map, h]
section
variable {x : Th} {A : Ar} {L : List Int} {pick s : Int}
theorem Th.done_ud : x.ud.done = x.done := by
  unfold Th.done Th.ud Th.we
  simp only [List.length_map, List.getLast?_map]
  cases x.evs.getLast? with
  | none => rfl
  | some e =>
    show (_ && Decidable.decide (0 ≤ sg e.answered)) = (_ && Decidable.decide (0 ≤ e.answered))
    rw [decide_eq_decide.2 (sg_pos e.answered)]
theorem Th.ops_ud : x.ud.ops = x.ops := by
  unfold Th.ops Th.ud Th.we
  simp only [List.getLast?_map]
  cases x.evs.getLast? with
  | none => rfl
  | some e => rfl
theorem Th.ents_ud : x.ud.ents A = ((x.ents A).1.ud, (x.ents A).2) := by
  obtain ⟨id, n, k, pol, txns, evs, next, dead, tries, pause, seq, cache, limbo, ripe, slot, ent, push, pop, att, adv, end_, ts, tg⟩ := x
  unfold Th.ents Th.ud Th.we
  cases ent with
  | none => rfl
  | some n => simp only; split <;> rfl
theorem Th.tris_ud : x.ud.tris A = ((x.tris A).1.ud, (x.tris A).2) := by
  obtain ⟨id, n, k, pol, txns, evs, next, dead, tries, pause, seq, cache, limbo, ripe, slot, ent, push, pop, att, adv, end_, ts, tg⟩ := x
  cases att <;> rfl
theorem Th.with_ud : x.ud.with_ s L = (x.with_ s L).ud := by
  unfold Th.with_
  rw [Th.ops_ud]
  rfl
theorem Th.taks_ud : x.ud.taks A L = (((x.taks A L).1.1.ud, (x.taks A L).1.2), (x.taks A L).2) := by
  have wt : ∀ (T : Th) s, ((T.ud.with_ s L).tris A, lived s L) = ((((T.with_ s L).tris A).1.ud, ((T.with_ s L).tris A).2), lived s L) := fun T s => by rw [Th.with_ud, Th.tris_ud]
  have ww : ∀ (T : Th) (s c : Int) (B : Ar), ((T.ud.with_ s L, c, B), lived s L) = (((T.with_ s L).ud, c, B), lived s L) := fun T s c B => by rw [Th.with_ud]
  obtain ⟨id, n, k, pol, txns, evs, next, dead, tries, pause, seq, cache, limbo, ripe, slot, ent, push, pop, att, adv, end_, ts, tg⟩ := x
  have two : ∀ p : Option Pop, (let o := (p.getD .new).step A
      if o.1.l.over = false ∨ o.2.1 ≠ 0 then ((({ (Th.mk id n k pol txns evs next dead tries pause seq cache limbo ripe slot ent push pop att adv end_ ts tg).ud with pop := some o.1, next := some .tak } : Th), o.2.1, o.2.2), L) else
      if o.1.slot = -1 then ((({ (Th.mk id n k pol txns evs next dead tries pause seq cache limbo ripe slot ent push pop att adv end_ ts tg).ud with pop := none, end_ := 1, next := some .lea } : Th), 0, o.2.2), L) else
      ((({ (Th.mk id n k pol txns evs next dead tries pause seq cache limbo ripe slot ent push pop att adv end_ ts tg).ud with pop := none } : Th).with_ o.1.slot L, 0, o.2.2), lived o.1.slot L)) =
      (let o := (p.getD .new).step A
      let r : (Th × Int × Ar) × List Int := if o.1.l.over = false ∨ o.2.1 ≠ 0 then ((({ (Th.mk id n k pol txns evs next dead tries pause seq cache limbo ripe slot ent push pop att adv end_ ts tg) with pop := some o.1, next := some .tak } : Th), o.2.1, o.2.2), L) else
      if o.1.slot = -1 then ((({ (Th.mk id n k pol txns evs next dead tries pause seq cache limbo ripe slot ent push pop att adv end_ ts tg) with pop := none, end_ := 1, next := some .lea } : Th), 0, o.2.2), L) else
      ((({ (Th.mk id n k pol txns evs next dead tries pause seq cache limbo ripe slot ent push pop att adv end_ ts tg) with pop := none } : Th).with_ o.1.slot L, 0, o.2.2), lived o.1.slot L)
      ((r.1.1.ud, r.1.2), r.2)) := by
    intro p
    simp only
    split
    · rfl
    · split
      · rfl
      · exact ww (Th.mk id n k pol txns evs next dead tries pause seq cache limbo ripe slot ent push none att adv end_ ts tg) _ _ _
  unfold Th.taks
  cases pop with
  | some p => exact two _
  | none =>
    cases hl : cache.getLast? with
    | none =>
      have := two none
      simp only [Th.ud, Th.we, hl] at this ⊢
      exact this
    | some s =>
      have := wt (Th.mk id n k pol txns evs next dead tries pause seq cache.dropLast limbo ripe slot ent push none att adv end_ ts tg) s
      simp only [Th.ud, Th.we, hl] at this ⊢
      exact this
theorem Th.cached_ud : x.ud.cached = x.cached.ud := by
  obtain ⟨id, n, k, pol, txns, evs, next, dead, tries, pause, seq, cache, limbo, ripe, slot, ent, push, pop, att, adv, end_, ts, tg⟩ := x
  cases push <;> rfl
theorem Th.fres_ud : x.ud.fres A L = (((x.fres A L).1.1.ud, (x.fres A L).1.2), (x.fres A L).2) := by
  unfold Th.fres
  rw [Th.cached_ud]
  simp only
  generalize x.cached = y
  have tk := Th.taks_ud (x := y) (A := A) (L := L)
  obtain ⟨id, n, k, pol, txns, evs, next, dead, tries, pause, seq, cache, limbo, ripe, slot, ent, push, pop, att, adv, end_, ts, tg⟩ := y
  cases ripe with
  | nil => exact tk
  | cons s r =>
    by_cases c : ((push.getD (Push.new s)).step A).1.l.over = true ∧ ((push.getD (Push.new s)).step A).2.1 = 0
    · simp only [if_pos c]
      exact if_pos c
    · simp only [if_neg c]
      exact if_neg c
theorem Th.rets_ud : x.ud.rets A = ((x.rets A).1.ud, (x.rets A).2) := by
  unfold Th.rets Th.ud Th.we
  simp only
  split <;> rfl
theorem Th.answer_ud (hp : 0 ≤ pick) : x.ud.answer 0 = (x.answer pick).ud := by
  unfold Th.answer
  show (if x.end_ = 2 ∧ x.tries + 1 < x.k then _ else _) = _
  split
  · unfold Th.ud Th.we
    simp only
    rw [evTurn_und (f' := fun e => { e with attempts := x.tries + 1 }) fun e => rfl]
  · unfold Th.ud Th.we
    simp only
    rw [evTurn_und (f' := fun e => { e with attempts := x.tries + 1, answers := if x.end_ = 0 then (x.att.map At.ans).getD [] else e.answers, end_ := x.end_, answered := 0 }) fun e => by
      show (Event.mk e.thread e.index 0 (-1) (sg pick) x.end_ (x.tries + 1) _) = Event.mk e.thread e.index 0 (-1) 0 x.end_ (x.tries + 1) _
      rw [sg_nn hp]; rfl]
theorem Th.advs_ud (hp : 0 ≤ pick) : x.ud.advs A 0 = ((x.advs A pick).1.ud, (x.advs A pick).2) := by
  have an : ∀ T : Th, T.ud.answer 0 = (T.answer pick).ud := fun T => Th.answer_ud hp
  obtain ⟨id, n, k, pol, txns, evs, next, dead, tries, pause, seq, cache, limbo, ripe, slot, ent, push, pop, att, adv, end_, ts, tg⟩ := x
  cases adv with
  | none => rfl
  | some d =>
    have := an (Th.mk id n k pol txns evs next dead tries pause seq cache limbo ripe slot ent push pop att (some (d.step A).1) end_ ts tg)
    unfold Th.advs
    simp only [Th.ud, Th.we] at this ⊢
    by_cases c : (d.step A).1.over = true ∧ (d.step A).2.1 = 0
    · simp only [if_pos c, this]
    · simp only [if_neg c]
theorem Th.act_ud {a : Act} (hp : 0 ≤ pick) : x.ud.act A L 0 a = (((x.act A L pick a).1.1.ud, (x.act A L pick a).1.2), (x.act A L pick a).2) := by
  cases a with
  | ent => show (x.ud.ents A, L) = _; rw [Th.ents_ud]; rfl
  | fre => exact Th.fres_ud
  | tak => exact Th.taks_ud
  | tri => show (x.ud.tris A, L) = _; rw [Th.tris_ud]; rfl
  | ret => show (x.ud.rets A, L) = _; rw [Th.rets_ud]; rfl
  | lea => rfl
  | adv => show (x.ud.advs A 0, L) = _; rw [Th.advs_ud hp]; rfl
theorem Th.begin_ud (hp : 0 ≤ pick) : x.ud.begin 0 = ((x.begin pick).1.ud, (x.begin pick).2) := by
  unfold Th.begin
  rw [Th.done_ud]
  split
  · rfl
  · show (if 0 < x.pause then _ else _) = _
    split
    · rfl
    · unfold Th.ud Th.we
      simp only
      by_cases c : x.tries = 0
      · rw [if_pos c, if_pos c, List.map_append]
        rw [List.length_map]; rfl
      · rw [if_neg c, if_neg c]
theorem Th.ended_ud {r : (Th × Int × Ar) × List Int} : Th.ended ((r.1.1.ud, r.1.2), r.2) = ((Th.ended r).1.ud, (Th.ended r).2) := by
  unfold Th.ended
  simp only
  split <;> rfl
theorem Th.ud_und : x.ud.und = x.und := by
  unfold Th.ud Th.we Th.und
  simp only [List.map_map]
  congr 1
  refine List.map_congr_left fun e _ => ?_
  show Event.und (Event.und e) = Event.und e
  unfold Event.und
  simp only [sg_sg]
theorem Th.step_und (hp : 0 ≤ pick) : (x.und.step A L 0).2 = (x.step A L pick).2 ∧ (x.und.step A L 0).1.und = (x.step A L pick).1.und ∧ ((x.step A L pick).2.1 = true → (x.und.step A L 0).1.ts = (x.step A L pick).1.ts ∧ (x.und.step A L 0).1.tg = (x.step A L pick).1.tg) := by
  have ez : x.und.z = x.z.ud := rfl
  cases hd : x.dead with
  | true =>
    rw [Th.step_dead (x := x.und) hd, Th.step_dead hd]
    refine ⟨rfl, ?_, fun h => by cases h⟩
    show x.und.und = x.und
    unfold Th.und
    simp only [List.map_map]
    congr 1
    refine List.map_congr_left fun e _ => ?_
    show Event.und (Event.und e) = Event.und e
    unfold Event.und
    simp only [sg_sg]
  | false =>
    cases hx : x.next with
    | some a =>
      rw [Th.step_some (x := x.und) hd hx, Th.step_some hd hx, ez, Th.act_ud hp, Th.ended_ud]
      exact ⟨rfl, Th.ud_und, fun _ => ⟨rfl, rfl⟩⟩
    | none =>
      rw [Th.step_none (x := x.und) hd hx, Th.step_none hd hx, ez, Th.begin_ud hp]
      simp only
      split
      · rw [Th.act_ud hp, Th.ended_ud]
        exact ⟨rfl, Th.ud_und, fun _ => ⟨rfl, rfl⟩⟩
      · exact ⟨rfl, Th.ud_und, fun h => by cases h⟩
theorem Th.decide_und : (x.decide s pick).und = x.und := by
  unfold Th.decide
  split
  · unfold Th.und
    simp only
    congr 1
    rw [evTurn_und (es := x.evs) (f := fun e => { e with decided := pick }) (f' := fun e => e) fun e => rfl]
    unfold evTurn
    cases hl : (x.evs.map Event.und).getLast? with
    | none => rfl
    | some e =>
      simp only
      refine List.ext_getElem? fun i => ?_
      rw [List.getElem?_set]
      split
      · rename_i h
        subst h
        rw [List.getLast?_eq_getElem?] at hl
        have := (List.getElem?_eq_some_iff.1 hl).1
        rw [if_pos this, hl]
      · rfl
  · rfl
end
end Go.Proofs.YtfphpafkhljncaaGreat
namespace Go.Proofs.YtfphpafkhljncaaGreat
open Go GW Go.Proofs
set_option linter.unusedVariables false
set_option linter.unusedSimpArgs false
theorem Touch.dec_pos {t : Touch} {s : Int} (h : t.dec = some s) : 0 ≤ s := by
  unfold Touch.dec at h
  split at h
  · cases h
  · rename_i c
    split at h
    · cases h
      omega
    · cases h
/-- threads but one are not at a slot -/
def Oth (ths : List Th) (k : Nat) : Prop := ∀ (j : Nat) x, j ≠ k → ths[j]? = some x → x.slot = -1
theorem decAll_one {t : Touch} {pick : Int} {ths : List Th} {k : Nat} {x : Th} (o : Oth ths k) (hk : k < ths.length) : ∃ y, decAll t pick (ths.set k x) = ths.set k y ∧ y.und = x.und := by
  unfold decAll
  cases h : t.dec with
  | none => exact ⟨x, rfl, rfl⟩
  | some s =>
    have s0 := Touch.dec_pos h
    refine ⟨x.decide s pick, List.ext_getElem? fun j => ?_, Th.decide_und⟩
    simp only
    rw [List.getElem?_map, List.getElem?_set, List.getElem?_set]
    by_cases c : k = j
    · rw [if_pos c, if_pos c]
      subst c
      simp only [if_pos hk]
      rfl
    · rw [if_neg c, if_neg c]
      cases e : ths[j]? with
      | none => rfl
      | some z =>
        have := o j z (fun q => c q.symm) e
        show some (z.decide s pick) = some z
        unfold Th.decide
        rw [if_neg (by omega)]
section
variable {M : Mc} {k : Nat} {X x y : Th} {p : Int} {B : Ar} {L : List Int}
/-- a pick of it is a step of one that is the same but for numbers of picks -/
theorem mach_step (hX : M.ths[k]? = some X) (e : X.und = x.und) (o : Oth M.ths k) (hp : M.picks < 65536) (h0 : 0 ≤ M.picks) (p0 : 0 ≤ p) (st : x.step M.A M.L p = (y, true, 0, B, L)) :
    (M.pick k).2 = (true, 0) ∧ (M.pick k).1.A = B ∧ (M.pick k).1.L = L ∧ (M.pick k).1.picks = M.picks + 1 ∧ ∃ Y, (M.pick k).1.ths = M.ths.set k Y ∧ Y.und = y.und := by
  have hk := (List.getElem?_eq_some_iff.1 hX).1
  have h1 := Th.step_und (x := X) (A := M.A) (L := M.L) h0
  have h2 := Th.step_und (x := x) (A := M.A) (L := M.L) p0
  rw [e] at h1
  rw [st] at h2
  unfold Mc.pick
  rw [if_neg (by omega), Int.toNat_natCast, hX]
  simp only
  generalize X.step M.A M.L M.picks = r at h1
  have e2 : r.2 = (true, 0, B, L) := by rw [← h1.1, h2.1]
  have e3 : r.1.und = y.und := by rw [← h1.2.1, h2.2.1]
  obtain ⟨z, r2⟩ := r
  simp only at e2 e3
  subst e2
  obtain ⟨Y, y1, y2⟩ := decAll_one (t := noteT B L k z) (pick := M.picks) (x := z) o hk
  exact ⟨by first | rfl | trivial, by first | rfl | trivial, by first | rfl | trivial, by first | rfl | trivial, Y, by simp only [if_true]; exact y1, by rw [y2, e3]⟩
theorem Th.und_eq {X x : Th} (e : X.und = x.und) : X.limbo = x.limbo ∧ X.cache = x.cache ∧ X.ripe = x.ripe ∧ X.slot = x.slot ∧ X.next = x.next ∧ X.dead = x.dead ∧ X.tries = x.tries ∧ X.pause = x.pause ∧ X.push = x.push ∧ X.pop = x.pop ∧ X.txns = x.txns ∧ X.id = x.id ∧ X.n = x.n ∧ X.evs.length = x.evs.length :=
  ⟨(show X.und.limbo = x.und.limbo from congrArg Th.limbo e), (show X.und.cache = x.und.cache from congrArg Th.cache e), (show X.und.ripe = x.und.ripe from congrArg Th.ripe e), (show X.und.slot = x.und.slot from congrArg Th.slot e), (show X.und.next = x.und.next from congrArg Th.next e), (show X.und.dead = x.und.dead from congrArg Th.dead e), (show X.und.tries = x.und.tries from congrArg Th.tries e), (show X.und.pause = x.und.pause from congrArg Th.pause e), (show X.und.push = x.und.push from congrArg Th.push e), (show X.und.pop = x.und.pop from congrArg Th.pop e), (show X.und.txns = x.und.txns from congrArg Th.txns e), (show X.und.id = x.und.id from congrArg Th.id e), (show X.und.n = x.und.n from congrArg Th.n e), by
    have := congrArg (fun z : Th => z.evs.length) e
    simpa [Th.und] using this⟩
theorem Th.und_done {X x : Th} (e : X.und = x.und) : X.done = x.done := by
  have h1 : X.ud.done = X.done := Th.done_ud
  have h2 : x.ud.done = x.done := Th.done_ud
  have h3 : X.ud.done = X.und.done := rfl
  have h4 : x.ud.done = x.und.done := rfl
  rw [← h1, ← h2, h3, h4, e]
theorem Th.und_rst {X x : Th} (e : X.und = x.und) (r : Rst x) : Rst X := by
  obtain ⟨e1, e2, e3, e4, e5, e6, e7, e8, e9, e10, _⟩ := Th.und_eq e
  exact ⟨by rw [e6]; exact r.nd, by rw [e5]; exact r.nx, by rw [e7]; exact r.tr, by rw [e8]; exact r.pa, by rw [e2]; exact r.ca, by rw [e3]; exact r.ri, by rw [e4]; exact r.sl, by rw [e9]; exact r.pu, by rw [e10]; exact r.po⟩
/-- a pick of one that is done -/
theorem mach_idle (hX : M.ths[k]? = some X) (r : Rst X) (hd : X.done = true) (hp : M.picks < 65536) : M.pick k = ({ M with ths := M.ths.set k X.z, picks := M.picks + 1 }, false, 0) := by
  have hk := (List.getElem?_eq_some_iff.1 hX).1
  unfold Mc.pick
  rw [if_neg (by omega), Int.toNat_natCast, hX]
  simp only
  have hs : X.step M.A M.L M.picks = (X.z, false, 0, M.A, M.L) := by
    rw [Th.step_none r.nd r.nx]
    have hb : X.z.begin M.picks = (X.z, false) := by
      unfold Th.begin
      rw [if_pos (show X.z.done = true from hd)]
    rw [hb]; rfl
  rw [hs]
  rfl
end
theorem Qt.turn {F : Vw} {A : Ar} {fr : List Int} {c e t : Int} (Q : Qt F A fr c e t 0) (u : Int) : Qt F A fr c e u 0 :=
  ⟨Q.ok, Q.fok, Q.mem, Q.fre, Q.ep, Q.e0, Q.e1, fun i h0 h1 => by rw [Q.say i h0 h1]; simp⟩
end Go.Proofs.YtfphpafkhljncaaGreat
namespace Go.Proofs.YtfphpafkhljncaaGreat
open Go GW Go.Proofs
set_option linter.unusedVariables false
set_option linter.unusedSimpArgs false
set_option maxRecDepth 20000
def F0 : Vw := ⟨List.replicate 16 true, List.replicate 16 0, (newAr.ws.take 16).map (· / 4)⟩
theorem newAr_qt (t : Int) : Qt F0 newAr twelve 0 0 t 0 := by
  have f16 : ∀ i : Fin 16, (F0.k.getD i.val false = true) ∧ (0 ≤ F0.n.getD i.val 0 ∧ F0.n.getD i.val 0 < 1099511627776) ∧ newAr.at (i.val : Int) = F0.n.getD i.val 0 * 4 := by decide +kernel
  have fr : ∀ x ∈ F0.n, 0 ≤ x ∧ x < 1099511627776 := by decide +kernel
  have s4 : ∀ i : Fin 4, newAr.at (30 + (i.val : Int)) = 0 := by decide +kernel
  refine ⟨newAr_ok, ⟨rfl, rfl, by decide +kernel, fun x hx => ?_, fun x hx => fr x hx⟩, ⟨⟨by decide +kernel, fun i hi => (f16 ⟨i, hi⟩).1⟩, fun i hi => (f16 ⟨i, hi⟩).2.1, fun i hi => (f16 ⟨i, hi⟩).2.2⟩, newAr_fre, by decide +kernel, by decide, by decide, fun i h0 h1 => ?_⟩
  · rw [List.eq_of_mem_replicate (n := 16) hx]; exact Vw.val0
  · have := s4 ⟨(i - 30).toNat, by omega⟩
    rw [show (30 : Int) + (((⟨(i - 30).toNat, by omega⟩ : Fin 4).val : Nat) : Int) = i by simp only; omega] at this
    rw [this]; split <;> rfl
theorem Th.new_rst {id n k : Int} {pol : Bool} {ts : List (List Op)} : Rst (Th.new id n k pol ts) := ⟨rfl, rfl, rfl, rfl, rfl, rfl, rfl, rfl, rfl⟩
end Go.Proofs.YtfphpafkhljncaaGreat
namespace Go.Proofs.YtfphpafkhljncaaGreat
open Go GW Go.Proofs
set_option linter.unusedVariables false
set_option linter.unusedSimpArgs false
set_option maxRecDepth 20000
/-- so many threads are over, the others are new -/
structure Ser (M : Mc) (t : Nat) (F : Vw) (fr : List Int) (c e : Int) : Prop where
  ok : M.ok
  picks : M.picks ≤ 1841 * t
  qt : Qt F M.A fr c e 0 0
  c1 : c ≤ 8 * t
  e1 : e ≤ 8 * t
  fr1 : 12 ≤ fr.length + 3 * t
  L : M.L.length = 12 ∧ ∀ i, 0 ≤ M.L.getD i 0 ∧ M.L.getD i 0 ≤ 8 * t
  rst : ∀ (j : Nat) x, M.ths[j]? = some x → Rst x ∧ x.id = j
  over : ∀ (j : Nat) x, M.ths[j]? = some x → j < t → x.done = true
  new : ∀ (j : Nat) x, M.ths[j]? = some x → t ≤ j → x.evs = [] ∧ x.limbo = []
/-- a thread under way -/
structure Und (M0 : Mc) (t : Nat) (N : Nat) (xe : Th) (Ae : Ar) (Me : List Int) (M : Mc) (j n : Nat) (x : Th) : Prop where
  ok : M.ok
  cnt : j + n = N
  go : TGo (M0.picks + j) x M.A M.L n xe Ae Me
  picks : M.picks = M0.picks + j
  ths : ∃ X, M.ths = M0.ths.set t X ∧ X.und = x.und
theorem Ser.oth {M : Mc} {t : Nat} {F : Vw} {fr : List Int} {c e : Int} (s : Ser M t F fr c e) (k : Nat) : Oth M.ths k := fun j x _ hx => (s.rst j x hx).1.sl
theorem Und.step {M0 M : Mc} {t N : Nat} {xe x : Th} {Ae : Ar} {Me : List Int} {j n : Nat} (u : Und M0 t N xe Ae Me M j (n + 1) x) (o : Oth M0.ths t) (ht : t < M0.ths.length) (hp : M0.picks + N < 65536) (h0 : 0 ≤ M0.picks) :
    (M.pick t).2 = (true, 0) ∧ ∃ y, Und M0 t N xe Ae Me (M.pick t).1 (j + 1) n y := by
  obtain ⟨X, e1, e2⟩ := u.ths
  have hX : M.ths[t]? = some X := by rw [e1, List.getElem?_set_self ht]
  have o2 : Oth M.ths t := fun i z hi hz => by
    rw [e1, List.getElem?_set_ne (fun q => hi q.symm)] at hz
    exact o i z hi hz
  have pk := u.picks
  have cn := u.cnt
  have go := u.go
  cases go with
  | @step _ _ _ _ _ y B L2 _ _ _ st sp gy =>
  obtain ⟨m1, m2, m3, m4, Z, m5, m6⟩ := mach_step (k := t) hX e2 o2 (by omega) (by omega) (by omega) st
  exact ⟨m1, y, Mc.pick_ok u.ok, by omega, by rw [m2, m3, show M0.picks + ((j + 1 : Nat) : Int) = M0.picks + j + 1 by omega]; exact gy, by omega, Z, by rw [m5, e1, List.set_set], m6⟩
/-- a thread's begin -/
theorem Ser.begin {M : Mc} {t : Nat} {F : Vw} {fr : List Int} {c e : Int} (s : Ser M t F fr c e) (h4 : t < 4) {x : Th} (hx : M.ths[t]? = some x) :
    ∃ N xe Ae Me F' fr' c' e' es, N ≤ 1840 ∧ Und M t N xe Ae Me M 0 N x ∧ xe.done = true ∧ Rst xe ∧ Qt F' Ae fr' c' e' 0 0 ∧ c' ≤ 8 * (t + 1) ∧ e' ≤ 8 * (t + 1) ∧ (Me.length = 12 ∧ ∀ i, 0 ≤ Me.getD i 0 ∧ Me.getD i 0 ≤ 8 * ((t : Int) + 1)) ∧ 12 ≤ fr'.length + 3 * (t + 1) ∧ xe.id = t ∧
      xe.evs = es ∧ Evr t F M.picks 0 x.txns es F' (M.picks + N) := by
  obtain ⟨r, hid⟩ := s.rst t x hx
  obtain ⟨n1, n2⟩ := s.new t x hx (Nat.le_refl _)
  have ox := (s.ok.ths x (List.mem_of_getElem? hx)).1
  have h8 := (thrMay_spec ox.txns).1
  have c1 := s.c1; have e1 := s.e1; have f1 := s.fr1
  have lq : Lq x.limbo e := by rw [n2]; exact .nil e
  obtain ⟨N, xe, Ae, Me, F', fr', c', e', es, g, k1, k2, k3, k4, k5, k6, k7, k8, k9, k10, k11, k12, k13, k14, _⟩ := q_all x.txns.length (x := x) (A := M.A) (L := M.L) (F := F) (fr := fr) (c := c) (e := e) (p := M.picks) (by rw [n1]; simp) ox r lq (s.qt.turn x.id) (by omega) (by omega) ⟨s.L.1, fun i => by have := s.L.2 i; omega⟩ (by rw [n2]; simp only [List.length_nil]; omega) s.ok.p0
  rw [n2] at k10 k11
  rw [n1] at k12 k13
  simp only [List.length_nil, List.nil_append, List.drop_zero] at k10 k11 k12 k13
  rw [hid] at k13
  refine ⟨N, xe, Ae, Me, F', fr', c', e', es, by omega, ⟨s.ok, by omega, by simpa using g, by simp, x, ?_, rfl⟩, k2, k4, k6.turn 0, by omega, by omega, ⟨k9.1, fun i => ?_⟩, by omega, by rw [k14, hid], k12, k13⟩
  · obtain ⟨hl, he⟩ := List.getElem?_eq_some_iff.1 hx
    rw [← he]; exact (List.set_getElem_self hl).symm
  · have := k9.2.1 i
    have := s.L.2 i
    omega
/-- its end: it is told so -/
theorem Ser.next {M0 M : Mc} {t N : Nat} {F F' : Vw} {fr fr' : List Int} {c e c' e' : Int} {xe x0 x : Th} {Ae : Ar} {Me : List Int} {j : Nat} (s : Ser M0 t F fr c e) (hx0 : M0.ths[t]? = some x0) (u : Und M0 t N xe Ae Me M j 0 x) (h4 : t < 4) (hN : N ≤ 1840) (hd : xe.done = true) (r : Rst xe) (Q : Qt F' Ae fr' c' e' 0 0)
    (c1 : c' ≤ 8 * (t + 1)) (e1 : e' ≤ 8 * (t + 1)) (hL : Me.length = 12 ∧ ∀ i, 0 ≤ Me.getD i 0 ∧ Me.getD i 0 ≤ 8 * ((t : Int) + 1)) (hf : 12 ≤ fr'.length + 3 * (t + 1)) (hid : xe.id = t) :
    (M.pick t).2 = (false, 0) ∧ Ser (M.pick t).1 (t + 1) F' fr' c' e' ∧ ∃ Z, (M.pick t).1.ths = M0.ths.set t Z ∧ Z.und = xe.und := by
  obtain ⟨X, e1', e2⟩ := u.ths
  have ht : t < M0.ths.length := (List.getElem?_eq_some_iff.1 hx0).1
  have hX : M.ths[t]? = some X := by rw [e1', List.getElem?_set_self ht]
  have pk := u.picks
  have cn := u.cnt
  have p1 := s.picks
  have go := u.go
  generalize hq : M0.picks + (j : Int) = q at go
  obtain ⟨rfl, hA, hL2⟩ : x = xe ∧ M.A = Ae ∧ M.L = Me := by
    cases go with
    | refl => exact ⟨rfl, rfl, rfl⟩
  have rX := Th.und_rst e2 r
  have dX : X.done = true := by rw [Th.und_done e2]; exact hd
  have id := mach_idle hX rX dX (by omega)
  have ok2 := Mc.pick_ok (k := t) u.ok
  have set2 : (M.pick t).1.ths = M0.ths.set t X.z := by rw [id]; show M.ths.set t X.z = _; rw [e1', List.set_set]
  have get2 : ∀ (i : Nat) z, (M.pick t).1.ths[i]? = some z → (i = t ∧ z = X.z) ∨ (i ≠ t ∧ M0.ths[i]? = some z) := fun i z hz => by
    rw [set2, List.getElem?_set] at hz
    split at hz
    · rename_i q
      subst q
      first
        | (rw [if_pos ht] at hz; cases hz; exact .inl ⟨rfl, rfl⟩)
        | (cases hz; exact .inl ⟨rfl, rfl⟩)
    · rename_i q
      exact .inr ⟨fun w => q w.symm, hz⟩
  have rz : Rst X.z := ⟨rX.nd, rX.nx, rX.tr, rX.pa, rX.ca, rX.ri, rX.sl, rX.pu, rX.po⟩
  refine ⟨by rw [id], ⟨ok2, ?_, ?_, by push_cast; omega, by push_cast; omega, by omega, ?_, fun i z hz => ?_, fun i z hz hi => ?_, fun i z hz hi => ?_⟩, X.z, set2, e2⟩
  · rw [id]; show M.picks + 1 ≤ _; push_cast; omega
  · rw [id]; show Qt F' M.A fr' c' e' 0 0; rw [hA]; exact Q
  · rw [id]; show M.L.length = 12 ∧ _; rw [hL2]; exact ⟨hL.1, fun i => by have := hL.2 i; push_cast; omega⟩
  · rcases get2 i z hz with ⟨rfl, rfl⟩ | ⟨_, q⟩
    · exact ⟨rz, by show X.id = _; rw [(Th.und_eq e2).2.2.2.2.2.2.2.2.2.2.2.1]; exact hid⟩
    · exact s.rst i z q
  · rcases get2 i z hz with ⟨rfl, rfl⟩ | ⟨q1, q⟩
    · exact dX
    · exact s.over i z q (by omega)
  · rcases get2 i z hz with ⟨rfl, rfl⟩ | ⟨q1, q⟩
    · omega
    · exact s.new i z q (by omega)
theorem Ser.start {p : Plan} (hm : p.may = true) : Ser (Mc.new p) 0 F0 twelve 0 0 := by
  have o := Mc.new_ok hm
  have z0 : ∀ i : Nat, (List.replicate 12 (0 : Int)).getD i 0 = 0 := fun i => by
    rw [List.getD_eq_getElem?_getD]
    cases e : (List.replicate 12 (0 : Int))[i]? with
    | none => rfl
    | some x => exact List.eq_of_mem_replicate (List.mem_of_getElem? e)
  have key : ∀ (ts : List (List (List Op))) (i n k : Int) (pol : Bool) (j : Nat) x, (Mc.threads i n k pol ts)[j]? = some x → ∃ t, x = Th.new (i + j) n k pol t := by
    intro ts
    induction ts with
    | nil => intro i n k pol j x h; simp [Mc.threads] at h
    | cons t ts ih =>
      intro i n k pol j x h
      cases j with
      | zero => simp [Mc.threads] at h; exact ⟨t, by rw [← h]; simp⟩
      | succ j =>
        obtain ⟨t', e⟩ := ih (i + 1) n k pol j x (by simpa [Mc.threads] using h)
        exact ⟨t', by rw [e]; congr 1; push_cast; omega⟩
  refine ⟨o, by show (0 : Int) ≤ _; omega, newAr_qt 0, by omega, by omega, by decide, ⟨rfl, fun i => by show 0 ≤ (List.replicate 12 (0 : Int)).getD i 0 ∧ (List.replicate 12 (0 : Int)).getD i 0 ≤ _; rw [z0]; omega⟩, fun j x hx => ?_, fun j x hx hj => by omega, fun j x hx _ => ?_⟩
  · obtain ⟨t, rfl⟩ := key _ _ _ _ _ j x hx
    exact ⟨Th.new_rst, by show (0 : Int) + j = j; omega⟩
  · obtain ⟨t, rfl⟩ := key _ _ _ _ _ j x hx
    exact ⟨rfl, rfl⟩
/-- all are over: picks turn nothing -/
structure Idl (M : Mc) : Prop where
  ok : M.ok
  rst : ∀ x ∈ M.ths, Rst x ∧ x.done = true
theorem Idl.done {M : Mc} (d : Idl M) : M.done = true := by
  unfold Mc.done
  rw [List.all_eq_true]
  exact fun x hx => (d.rst x hx).2
theorem Idl.pick {M : Mc} (d : Idl M) {k : Nat} (hk : k < M.ths.length) (hp : M.picks < 65536) : (M.pick k).2 = (false, 0) ∧ Idl (M.pick k).1 ∧ (M.pick k).1.A = M.A ∧ (M.pick k).1.ts = M.ts ∧ (M.pick k).1.events = M.events ∧ (M.pick k).1.ths.length = M.ths.length ∧ (M.pick k).1.picks = M.picks + 1 := by
  obtain ⟨X, hX⟩ : ∃ X, M.ths[k]? = some X := ⟨_, List.getElem?_eq_getElem hk⟩
  have rX := d.rst X (List.mem_of_getElem? hX)
  have id := mach_idle hX rX.1 rX.2 hp
  have ok2 := Mc.pick_ok (k := k) d.ok
  refine ⟨by rw [id], ⟨ok2, fun x hx => ?_⟩, by rw [id], by rw [id], ?_, by rw [id]; simp, by rw [id]⟩
  · rw [id] at hx
    rcases List.mem_or_eq_of_mem_set hx with q | q
    · exact d.rst x q
    · subst q
      exact ⟨⟨rX.1.nd, rX.1.nx, rX.1.tr, rX.1.pa, rX.1.ca, rX.1.ri, rX.1.sl, rX.1.pu, rX.1.po⟩, rX.2⟩
  · rw [id]
    exact flatMap_set (x := X) (y := X.z) (f := Th.evs) rfl hX
end Go.Proofs.YtfphpafkhljncaaGreat
namespace Go.Proofs.YtfphpafkhljncaaGreat
open Go GW Go.Proofs
attribute [local irreducible] bnd ldV stV ifV binV eqI
set_option linter.unusedVariables false
set_option linter.unusedSimpArgs false
set_option maxRecDepth 20000
section
variable {h g : GH} {K : Value → GH → Prop} {v pv : Value} {p : Plan} {more : List Int}
theorem T_MachineIdle (hp : All [baseP g] h) (ht : threadsAt g v p.threads) (rp : rowsAt g 1 pv (more.map encI)) (hK : ∀ h', K (.bool true) h') : T Tryz.prog 17 [.agg (planC v p).toArray, pv] h K := by
  apply S17_T
  unfold S17
  have hpl : lnV pv = some (i64 more.length) := by have := rp.len; rw [List.length_map] at this; exact this
  have hpm : more.length ≤ 9223372036854775807 := by have := rp.max; rw [List.length_map] at this; exact this
  refine nw hp (.row 67 (planC v p) 3 true) rfl fun d h1 hp => ?_
  refine T_mawake hp fun h2 hp => ?_
  refine wk ?_
  refine la0 hp (c := planC v p) (Nat.le_refl 3) rfl ?_
  refine T_mNew hp (fun h' hp => All.baseLe hp.tail) ht (fun hm h3 hp => ?_) fun hm b h3 hp => ?_
  · refine wk ?_
    refine T_Num ?_
    refine wk ?_
    exact hK _
  refine wk ?_
  refine T_Num ?_
  refine wk ?_
  unfold S17_j1
  have hlen : lnV v = some (i64 p.threads.length) := by
    obtain ⟨es, r, a2⟩ := ht
    have := r.len
    rw [a2.1] at this; exact this
  obtain ⟨m1, m2, _⟩ := Plan.may_spec hm
  replace hp := hn (hp.re 3 [1, 0, 2])
  unfold planC at hp
  refine wk ?_
  refine bnd_of hlen ?_
  have nl : (Mc.new p).ths.length = p.threads.length := Mc.threads_len
  refine Lfp_fam (ι := Nat × Mc × Vw × List Int × Int × Int) (fun q => [pv, ptr b, i64 p.threads.length, i64 q.1]) (fun q h' => q.1 ≤ p.threads.length ∧ Ser q.2.1 q.1 q.2.2.1 q.2.2.2.1 q.2.2.2.2.1 q.2.2.2.2.2 ∧ q.2.1.ths.length = p.threads.length ∧ All (mcP b q.2.1 :: [baseP g]) h') (fun q => p.threads.length - q.1) ?_ (0, Mc.new p, F0, twelve, 0, 0) h3 ⟨by omega, Ser.start hm, nl, hn (hp.re 3 [1, 2])⟩
  clear hp
  rintro ⟨t, M, F, fr, c, e⟩ h4 X ⟨hti, s, hl, hp⟩ again
  simp only at hti s hl hp
  simp only [tup_zero, tup_succ]
  refine wk ?_
  refine ifV_cases (fun c1 => ?_) fun c1 => ?_
  · obtain ⟨x, hx⟩ : ∃ x, M.ths[t]? = some x := ⟨_, List.getElem?_eq_getElem (by omega)⟩
    obtain ⟨N, xe, Ae, Me, F', fr', c', e', es, k1, k2, k3, k4, k5, k6, k7, k8, k9, k10, _⟩ := s.begin (by omega) hx
    have sp := s.picks
    have s0 := s.ok.p0
    refine Lfp_fam (ι := Nat × Nat × Mc × Th) (fun q => [pv, ptr b, i64 p.threads.length, i64 t, i64 q.1]) (fun q h' => Und M t N xe Ae Me q.2.2.1 q.1 q.2.1 q.2.2.2 ∧ All (mcP b q.2.2.1 :: [baseP g]) h') (fun q => q.2.1) ?_ (0, N, M, x) h4 ⟨k2, hp⟩
    clear hp
    rintro ⟨j, n, M2, y⟩ h5 Y ⟨u, hp⟩ again2
    simp only at u hp
    simp only [tup_zero, tup_succ]
    have cn := u.cnt
    refine wk ?_
    refine ifV_cases (fun c2 => ?_) fun c2 => by exfalso; omega
    refine T_mPick hp u.ok fun h6 hp => ?_
    cases n with
    | succ n =>
      obtain ⟨st, z, u2⟩ := u.step (s.oth t) (by omega) (by omega) s0
      rw [st]
      refine wk ?_
      refine T_Num ?_
      refine wk ?_
      exact again2 (j + 1, n, (M2.pick t).1, z) _ ⟨u2, hp⟩ (by simp only; omega)
    | zero =>
      obtain ⟨st, s2, Z, hZ, _⟩ := s.next hx u (by omega) k1 k3 k4 k5 k6 k7 k8 k9 k10
      rw [st]
      refine wk ?_
      refine T_Num ?_
      refine wk ?_
      exact again (t + 1, (M2.pick t).1, F', fr', c', e') _ ⟨by simp only; omega, s2, by simp only; rw [hZ, List.length_set]; exact hl, hp⟩ (by simp only; omega)
  · clear again
    obtain rfl : t = p.threads.length := by omega
    have d0 : Idl M := ⟨s.ok, fun x hx => by
      obtain ⟨i, hi, he⟩ := List.mem_iff_getElem.1 hx
      have hg : M.ths[i]? = some x := by rw [List.getElem?_eq_getElem hi, he]
      exact ⟨(s.rst i x hg).1, s.over i x hg (by omega)⟩⟩
    have sp := s.picks
    have s0 := s.ok.p0
    refine T_mDone hp s.ok ?_
    rw [d0.done]
    refine wk ?_
    refine T_mWords hp fun wv h5 hp => ?_
    refine T_mTouches (hn (hp.up 1)) s.ok fun xv h6 hp => ?_
    refine T_mEvents (hn (hp.up 1)) s.ok fun ev h7 hp => ?_
    refine Lfp_fam (ι := Nat × Mc) (fun q => [pv, ptr b, i64 p.threads.length, wv, xv, ev, i64 q.1]) (fun q h' => q.1 ≤ more.length ∧ q.1 ≤ 100 ∧ Idl q.2 ∧ q.2.A = M.A ∧ q.2.ts = M.ts ∧ q.2.events = M.events ∧ q.2.ths.length = p.threads.length ∧ q.2.picks = M.picks + q.1 ∧ All (mcP b q.2 :: evoP ev M.events :: rowP 8 xv (M.ts.map Touch.enc) :: rowP 1 wv (M.A.ws.map encI) :: [baseP g]) h') (fun q => more.length - q.1) ?_ (0, M) h7 ⟨by omega, by omega, d0, rfl, rfl, rfl, hl, by simp, hn (hp.re 4 [1, 0, 2, 3])⟩
    clear hp
    rintro ⟨i, N⟩ h8 Y ⟨hi, hi2, di, eA, ets, ees, hln, hpk, hp⟩ again
    simp only at hi hi2 di eA ets ees hln hpk hp
    simp only [tup_zero, tup_succ]
    have fin : ∀ s4 s32 a1 a2, S17_j3 s4 s32 (ptr b) wv xv ev h8 K a1 a2 := by
      intro s4 s32 a1 a2
      clear again
      unfold S17_j3
      refine T_mDone hp di.ok ?_
      rw [di.done]
      refine wk ?_
      refine T_mWords hp fun w2 h9 hp => ?_
      rw [eA] at hp
      refine T_SameInts (All.rows hp) (All.rows (hn (hp.up 4))) ?_
      rw [decide_eq_true rfl]
      refine wk ?_
      refine T_mTouches (hn (hp.up 1)) di.ok fun x2 h10 hp => ?_
      rw [ets] at hp
      refine T_SameTouchs (All.rows hp) (All.rows (hn (hp.up 4))) ?_
      rw [decide_eq_true rfl]
      refine wk ?_
      refine T_mEvents (hn (hp.up 1)) di.ok fun e2 h11 hp => ?_
      rw [ees] at hp
      replace hp := hn (hp.re 5 [0, 4])
      refine evoP_open hp fun us hu hp => ?_
      refine evoP_open (hn (hp.up 2)) fun ws hw hp => ?_
      refine T_SameEvents (hn (hp.re 4 [2, 3, 0, 1])) (fun h' hp => evR_of hp) (fun h' hp => evR_of (hn (hp.re 4 [2, 3]))) hu hw fun h12 hp => ?_
      rw [decide_eq_true rfl]
      exact hK _
    refine bnd_of hpl ?_
    refine wk ?_
    refine ifV_cases (fun c3 => ?_) fun c3 => fin _ _ _ _
    refine wk ?_
    refine ifV_cases (fun c4 => ?_) fun c4 => fin _ _ _ _
    unfold S17_j2
    obtain ⟨x, hx⟩ : ∃ x, more[i]? = some x := ⟨_, List.getElem?_eq_getElem (by omega)⟩
    obtain ⟨q1, d1, d2⟩ := (rp.le (All.baseLe hp.tail.tail.tail.tail)).get1 (i := i) (x := i64 x) (by rw [List.getElem?_map, hx]; rfl) .i64
    refine bnd_of d1 (bnd_of d2 ?_)
    refine bnd_of (binV_and_mask x 10 (by decide) (by decide)) ?_
    have y0 : 0 ≤ x % ((2 ^ 10 : Nat) : Int) := Int.emod_nonneg _ (by decide)
    generalize x % ((2 ^ 10 : Nat) : Int) = y at y0
    refine bnd_of (rem_nn y0 (by omega)) ?_
    have z0 : 0 ≤ y % (p.threads.length : Int) := Int.emod_nonneg _ (by omega)
    have z1 : y % (p.threads.length : Int) < p.threads.length := Int.emod_lt_of_pos _ (by omega)
    obtain ⟨k, hk⟩ := Int.eq_ofNat_of_zero_le z0
    rw [hk] at z1 ⊢
    obtain ⟨r1, r2, r3, r4, r5, r6, r7⟩ := di.pick (k := k) (by omega) (by omega)
    refine T_mPick hp di.ok fun h9 hp => ?_
    rw [r1]
    refine wk ?_
    refine T_Num ?_
    refine wk ?_
    exact again (i + 1, (N.pick k).1) _ ⟨by simp only; omega, by simp only; omega, r2, by rw [r3, eA], by rw [r4, ets], by rw [r5, ees], by simp only; omega, by simp only; omega, hp⟩ (by simp only; omega)
end
end Go.Proofs.YtfphpafkhljncaaGreat
