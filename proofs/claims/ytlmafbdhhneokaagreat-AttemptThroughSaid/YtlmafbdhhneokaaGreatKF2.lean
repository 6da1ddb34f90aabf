/- Several texts in one, each under its own remark or none; nothing here is a statement on the program. -/
import Derived.Test.YtlmafbdhhneokaaGreatKZ
import Derived.Test.YtlmafbdhhneokaaGreatKF
import Derived.Test.YtlmafbdhhneokaaGreatKY
namespace Go.Proofs.YtlmafbdhhneokaaGreat
open Go GW Go.Proofs
set_option linter.unusedVariables false
set_option linter.unusedSimpArgs false
/-- what a step comes through: nothing, or its own descriptor -/
def At.Thr (x y : At) : Prop := y.slot = x.slot ∧ y.gen = x.gen ∧ (y.ts = -1 ∨ y.ts = x.slot ∧ y.tg = x.gen)
inductive Ago : At → Ar → Nat → At → Ar → Prop
  | refl (x : At) (A : Ar) : Ago x A 0 x A
  | step {x : At} {A : Ar} {n : Nat} {x' : At} {A' : Ar} : x.over = false → (x.step A).2.1 = 0 → x.Thr (x.step A).1 → Ago (x.step A).1 (x.step A).2.2 n x' A' → Ago x A (n + 1) x' A'
theorem Ago.trans {x : At} {A : Ar} {n : Nat} {x1 : At} {A1 : Ar} (a : Ago x A n x1 A1) : ∀ {m : Nat} {x2 : At} {A2 : Ar}, Ago x1 A1 m x2 A2 → Ago x A (n + m) x2 A2 := by
  induction a with
  | refl => intro m x2 A2 b; rw [Nat.zero_add]; exact b
  | step h1 h2 hk _ ih => intro m x2 A2 b; rw [Nat.add_right_comm]; exact .step h1 h2 hk (ih b)
theorem Ago.one {x x1 : At} {A A1 : Ar} (ho : x.over = false) (h : x.step A = (x1, 0, A1)) (ht : x.Thr x1) : Ago x A 1 x1 A1 := .step ho (by rw [h]) (by rw [h]; exact ht) (by rw [h]; exact .refl _ _)
theorem Ago.ok {x : At} {A : Ar} {n : Nat} {x' : At} {A' : Ar} (a : Ago x A n x' A') : x.ok → A.ok → x'.ok ∧ A'.ok := by
  induction a with
  | refl => intro h1 h2; exact ⟨h1, h2⟩
  | step _ _ _ _ ih => intro h1 h2; have := At.step_ok h1 h2; exact ih this.1 this.2
theorem Ago.stop {x : At} {A : Ar} {n : Nat} {x' : At} {A' : Ar} (a : Ago x A n x' A') (h : x.over = true) : n = 0 ∧ x' = x ∧ A' = A := by
  cases a with
  | refl => exact ⟨rfl, rfl, rfl⟩
  | step q _ _ _ => rw [h] at q; cases q
/-- what does not change while it writes -/
structure At.Same (x y : At) : Prop where
  over : y.over = false
  t : y.t = x.t
  q : y.q = x.q
  slot : y.slot = x.slot
  gen : y.gen = x.gen
  ops : y.ops = x.ops
  won : y.won = x.won
  ans : y.ans = x.ans
theorem At.wr_step {x : At} {A : Ar} {w : Wr} (ho : x.over = false) (hs : x.st = .wr w) : x.step A = ({ x with ts := x.slot, tg := x.gen, st := if (w.step A).2.1 then .hp (.new x.t x.q (.who (.new x.slot x.gen))) else .wr (w.step A).1 }, 0, (w.step A).2.2) := by
  unfold At.step
  rw [if_neg (by rw [ho]; decide), hs]
theorem Ago.wr : ∀ (l1 : List Int) {l2 : List Int} {a : Int} {x : At} {A : Ar}, x.over = false → x.st = .wr ⟨a, l1 ++ l2⟩ → l2 ≠ [] → ∃ y, Ago x A l1.length y (putRow a l1 A) ∧ y.st = .wr ⟨a + l1.length, l2⟩ ∧ x.Same y := by
  intro l1
  induction l1 with
  | nil => intro l2 a x A ho hs _; exact ⟨x, .refl _ _, by rw [hs]; simp, ⟨ho, rfl, rfl, rfl, rfl, rfl, rfl, rfl⟩⟩
  | cons v l1 ih =>
    intro l2 a x A ho hs hn
    have e := At.wr_step (A := A) ho hs
    have e0 : ((v :: l1) ++ l2 : List Int) = v :: (l1 ++ l2) := rfl
    have e1 : (⟨a, (v :: l1) ++ l2⟩ : Wr).step A = (⟨a + 1, l1 ++ l2⟩, false, A.put a v) := by
      unfold Wr.step
      simp only [e0]
      have : (l1 ++ l2).isEmpty = false := by cases l1 with
        | nil => cases l2 with
          | nil => exact absurd rfl hn
          | cons _ _ => rfl
        | cons _ _ => rfl
      rw [this]
    rw [e1] at e
    obtain ⟨y, k1, k2, k3⟩ := ih (x := { x with ts := x.slot, tg := x.gen, st := .wr ⟨a + 1, l1 ++ l2⟩ }) (A := A.put a v) ho rfl hn
    have k0 := Ago.one ho e ⟨rfl, rfl, .inr ⟨rfl, rfl⟩⟩
    refine ⟨y, ?_, ?_, ⟨k3.over, k3.t, k3.q, k3.slot, k3.gen, k3.ops, k3.won, k3.ans⟩⟩
    · have := k0.trans k1
      rw [List.length_cons, Nat.add_comm]; exact this
    · rw [k2, List.length_cons]; congr 2; omega
theorem Ago.wrAll {l : List Int} {a : Int} {x : At} {A : Ar} (ho : x.over = false) (hs : x.st = .wr ⟨a, l⟩) (hn : l ≠ []) : ∃ y, Ago x A l.length y (putRow a l A) ∧ y.st = .hp (.new x.t x.q (.who (.new x.slot x.gen))) ∧ x.Same y := by
  obtain ⟨l1, v, rfl⟩ : ∃ l1 v, l = l1 ++ [v] := ⟨l.dropLast, l.getLast hn, (List.dropLast_concat_getLast hn).symm⟩
  obtain ⟨y, k1, k2, k3⟩ := Ago.wr l1 (l2 := [v]) (A := A) ho hs (by simp)
  have e := At.wr_step (A := putRow a l1 A) k3.over k2
  have e1 : (⟨a + l1.length, [v]⟩ : Wr).step (putRow a l1 A) = (⟨a + l1.length + 1, []⟩, true, (putRow a l1 A).put (a + l1.length) v) := rfl
  rw [e1] at e
  have k4 := Ago.one k3.over e ⟨rfl, rfl, .inr ⟨rfl, rfl⟩⟩
  refine ⟨{ y with ts := y.slot, tg := y.gen, st := .hp (.new y.t y.q (.who (.new y.slot y.gen))) }, ?_, ?_, ⟨k3.over, k3.t, k3.q, k3.slot, k3.gen, k3.ops, k3.won, k3.ans⟩⟩
  · have := k1.trans k4
    have e2 : putRow a (l1 ++ [v]) A = (putRow a l1 A).put (a + l1.length) v := by
      clear hs hn k1 k2 k3 k4 e e1 this
      induction l1 generalizing a A with
      | nil => show A.put a v = A.put (a + ((0 : Nat) : Int)) v; rw [Int.natCast_zero, Int.add_zero]
      | cons u l1 ih =>
        show putRow (a + 1) (l1 ++ [v]) (A.put a u) = _
        rw [ih]
        show (putRow (a + 1) l1 (A.put a u)).put _ v = (putRow (a + 1) l1 (A.put a u)).put _ v
        congr 1; simp only [List.length_cons]; omega
    rw [e2, List.length_append]; exact this
  · simp only [k3.t, k3.q, k3.slot, k3.gen]
theorem At.step_hp {x : At} {A : Ar} {H : Help} (ho : x.over = false) (hs : x.st = .hp H) (h0 : (H.step A).2.1 = 0) : x.step A = ({ x with q := (H.step A).1.q, ts := (H.step A).1.slot, tg := (H.step A).1.gen, st := .hp (H.step A).1, over := (H.step A).1.over, won := (H.step A).1.over && (H.step A).1.won }, 0, (H.step A).2.2) := by
  unfold At.step
  rw [if_neg (by rw [ho]; decide), hs]
  simp only [h0]
  rfl
def At.helped (x : At) (H : Help) : At := { x with q := H.q, ts := H.slot, tg := H.gen, st := .hp H, over := H.over, won := H.over && H.won }
theorem Ago.help {H : Help} {A : Ar} {n : Nat} {H' : Help} {A' : Ar} (a : Goes H A n H' A') : ∀ {x : At}, 0 < n → x.over = false → x.st = .hp H → H.rest = [] → H.top.s = x.slot → H.top.g = x.gen → Ago x A n (x.helped H') A' := by
  induction a with
  | refl => intro x h; omega
  | @step H A n H' A' h1 h2 hk h3 ih =>
    intro x _ ho hs hr hts htg
    have e := At.step_hp (A := A) ho hs h2
    obtain ⟨k1, k2, k3, k4, k5⟩ := hk hr
    refine .step ho (by rw [e]) (by rw [e]; exact ⟨rfl, rfl, .inr ⟨by rw [← hts]; exact k4, by rw [← htg]; exact k5⟩⟩) ?_
    rw [e]
    cases n with
    | zero => cases h3; exact .refl _ _
    | succ n =>
      have hov : (H.step A).1.over = false := by cases h3 with | step a _ _ _ => exact a
      exact ih (x := x.helped (H.step A).1) (by omega) hov rfl k1 (by rw [k2]; exact hts) (by rw [k3]; exact htg)
/-- a read of a value -/
theorem At.step_rd {x : At} {A : Ar} {v : Vw} {t q c y : Int} (ho : x.over = false) (hs : x.st = .rd (.new t q c) v) (hp : plainOf (A.at c) = some y) : x.step A = ({ x with q := q, ts := -1, tg := 0, st := .rd ⟨t, q, c, y, none, -1, 0, true⟩ v }.known v c y, 0, A.ld c) := by
  have e : (Rd.new t q c).step A = (⟨t, q, c, y, none, -1, 0, true⟩, 0, A.ld c) := by
    unfold Rd.step
    simp only [Rd.new, Bool.false_eq_true, if_false]
    unfold Rd.load
    simp only [hp]
  unfold At.step
  rw [if_neg (by rw [ho]; decide), hs]
  simp only [e]
  rfl
end Go.Proofs.YtlmafbdhhneokaaGreat
namespace Go.Proofs.YtlmafbdhhneokaaGreat
open Go GW Go.Proofs
set_option linter.unusedVariables false
set_option linter.unusedSimpArgs false
/-- all cells are known -/
structure Wk.Full (W : Wk) : Prop where
  ln : W.v.n.length = 16
  need : W.need = none
  all : ∀ i : Nat, i < 16 → W.v.k.getD i false = true
/-- what is known is the same -/
structure Vw.Kn (v F : Vw) : Prop where
  ln : v.n.length = 16
  same : ∀ i : Nat, v.k.getD i false = true → v.n.getD i 0 = F.n.getD i 0
structure Smm {α : Type} (f : Wk → α × Wk) : Prop where
  dead : ∀ w, w.need.isSome = true → (f w).2 = w
  full : ∀ W : Wk, W.Full → (f W).2.Full
  keep : ∀ w, (f w).2.v.k = w.v.k ∧ (f w).2.v.w = w.v.w
  sim : ∀ w W : Wk, w.need = none → W.Full → w.v.Kn W.v → (f w).2.need = none → (f w).1 = (f W).1 ∧ (f w).2.v.Kn (f W).2.v
  unk : ∀ w c, w.need = none → (f w).2.need = some c → w.v.k.getD c.toNat false = false
def Cell (c : Int) : Prop := 0 ≤ c ∧ c < 16
section
variable {α β : Type}
theorem Smm.ret (a : α) : Smm fun w => (a, w) := ⟨fun _ _ => rfl, fun _ h => h, fun _ => ⟨rfl, rfl⟩, fun w W _ _ k _ => ⟨rfl, k⟩, fun w c h1 h2 => by rw [h1] at h2; cases h2⟩
theorem Smm.bind {f : Wk → α × Wk} {g : α → Wk → β × Wk} (a : Smm f) (b : ∀ x, Smm (g x)) : Smm fun w => g (f w).1 (f w).2 := by
  have keepN : ∀ w, ((g (f w).1 (f w).2).2.need = none) → (f w).2.need = none := fun w h => by
    cases e : (f w).2.need with
    | none => rfl
    | some c =>
      have := (b (f w).1).dead (f w).2 (by rw [e]; rfl)
      rw [this, e] at h; cases h
  refine ⟨fun w h => ?_, fun W h => (b _).full _ (a.full W h), fun w => ?_, fun w W h1 h2 h3 h4 => ?_, fun w c h1 h2 => ?_⟩
  · have e := a.dead w h
    simp only [e]
    exact (b _).dead w h
  · have := a.keep w
    have := (b (f w).1).keep (f w).2
    simp_all
  · have hn := keepN w h4
    have s := a.sim w W h1 h2 h3 hn
    have t := (b (f w).1).sim (f w).2 (f W).2 hn (a.full W h2) s.2 h4
    rw [s.1] at t ⊢
    exact t
  · cases e : (f w).2.need with
    | none =>
      have := (b (f w).1).unk (f w).2 c e h2
      rw [(a.keep w).1] at this; exact this
    | some d =>
      have := (b (f w).1).dead (f w).2 (by rw [e]; rfl)
      simp only [this, e] at h2
      cases h2
      exact a.unk w c h1 e
open Classical in
theorem Smm.bindP {f : Wk → α × Wk} {g : α → Wk → β × Wk} {P : α → Prop} (a : Smm f) (hP : ∀ w, P (f w).1) (b : ∀ x, P x → Smm (g x)) : Smm fun w => g (f w).1 (f w).2 := by
  have e : (fun w => g (f w).1 (f w).2) = fun w => (fun x w => if P x then g x w else ((g x wkZ).1, w)) (f w).1 (f w).2 := by
    funext w; simp only [if_pos (hP w)]
  rw [e]
  refine Smm.bind (g := fun x w => if P x then g x w else ((g x wkZ).1, w)) a fun x => ?_
  by_cases h : P x
  · simp only [if_pos h]; exact b x h
  · simp only [if_neg h]; exact Smm.ret _
theorem Smm.ite {c : Prop} [Decidable c] {f g : Wk → α × Wk} (a : Smm f) (b : Smm g) : Smm fun w => if c then f w else g w := by
  by_cases h : c
  · simp only [if_pos h]; exact a
  · simp only [if_neg h]; exact b
theorem Smm.get {c : Int} (hc : Cell c) : Smm fun w => w.get c := by
  obtain ⟨c0, c1⟩ := hc
  refine ⟨fun w h => ?_, fun W h => ?_, fun w => ?_, fun w W h1 h2 h3 h4 => ?_, fun w d h1 h2 => ?_⟩
  · unfold Wk.get; rw [if_pos h]
  · unfold Wk.get
    rw [if_neg (by rw [h.need]; decide), if_pos (h.all _ (by omega))]; exact h
  · unfold Wk.get; repeat' split
    all_goals exact ⟨rfl, rfl⟩
  · unfold Wk.get at h4 ⊢
    have n1 : w.need.isSome = false := by rw [h1]; rfl
    have n2 : W.need.isSome = false := by rw [h2.need]; rfl
    have k2 := h2.all c.toNat (by omega)
    simp only [n1, n2, k2, Bool.false_eq_true, if_false, if_true] at h4 ⊢
    by_cases k : w.v.k.getD c.toNat false = true
    · simp only [if_pos k]; exact ⟨h3.same _ k, h3⟩
    · rw [if_neg k] at h4; cases h4
  · unfold Wk.get at h2
    rw [if_neg (by rw [h1]; decide)] at h2
    by_cases k : w.v.k.getD c.toNat false = true
    · rw [if_pos k, h1] at h2; cases h2
    · rw [if_neg k] at h2; cases h2; simpa using k
theorem Smm.set (c x : Int) : Smm fun w => ((), w.set c x) := by
  refine ⟨fun w h => ?_, fun W h => ?_, fun w => ?_, fun w W h1 h2 h3 h4 => ?_, fun w d h1 h2 => ?_⟩
  · unfold Wk.set; rw [if_pos h]
  · unfold Wk.set
    rw [if_neg (by rw [h.need]; decide)]
    exact ⟨by simp [h.ln], h.need, h.all⟩
  · unfold Wk.set; split <;> exact ⟨rfl, rfl⟩
  · refine ⟨rfl, ?_⟩
    unfold Wk.set
    rw [if_neg (by rw [h1]; decide), if_neg (by rw [h2.need]; decide)]
    refine ⟨by simp [h3.ln], fun i hi => ?_⟩
    have := h3.same i hi
    have l1 := h3.ln
    have l2 := h2.ln
    simp only [List.getD_eq_getElem?_getD, List.getElem?_set] at this ⊢
    split
    · rename_i e
      split <;> split <;> first | rfl | omega
    · exact this
  · unfold Wk.set at h2
    rw [if_neg (by rw [h1]; decide)] at h2
    simp only at h2
    rw [h1] at h2; cases h2
theorem Smm.of_eq {f g : Wk → α × Wk} (a : Smm f) (h : ∀ w, g w = f w) : Smm g := by
  have : g = f := funext h
  rw [this]; exact a
theorem Smm.get_ {c : Int} (hc : Cell c) {g : Int → Wk → β × Wk} (b : ∀ x, Smm (g x)) : Smm fun w => g (w.get c).1 (w.get c).2 := Smm.bind (Smm.get hc) b
theorem Smm.set_ {c x : Int} {g : Wk → β × Wk} (b : Smm g) : Smm fun w => g (w.set c x) := Smm.bind (g := fun _ => g) (Smm.set c x) fun _ => b
/-! ### the operations -/
def LvC (key lev : Int) : Prop := -1 ≤ key ∧ key < 5 ∧ 0 ≤ lev ∧ lev ≤ 1
theorem LvC.cell {key lev : Int} (h : LvC key lev) : Cell (lk key lev) := by
  obtain ⟨h1, h2, h3, h4⟩ := h
  unfold Cell lk; omega
theorem Smm.next {key lev : Int} (h : LvC key lev) : Smm fun w => w.next key lev :=
  Smm.get_ (g := fun x w => (if x - 1 ≤ key ∨ 5 ≤ x - 1 then -1 else x - 1, w)) h.cell fun x => Smm.ret _
theorem Wk.next_rng {w : Wk} {key lev : Int} : (w.next key lev).1 = -1 ∨ key < (w.next key lev).1 ∧ (w.next key lev).1 < 5 := by
  unfold Wk.next; simp only; split
  · exact .inl rfl
  · right; omega
theorem Smm.st {f : Wk → Wk} {g : Wk → β × Wk} (a : Smm fun w => ((), f w)) (b : Smm g) : Smm fun w => g (f w) := Smm.bind (f := fun w => ((), f w)) (g := fun _ => g) a fun _ => b
theorem Smm.next_ {key lev : Int} (h : LvC key lev) {g : Int → Wk → β × Wk} (b : ∀ x, x = -1 ∨ key < x ∧ x < 5 → Smm (g x)) : Smm fun w => g (w.next key lev).1 (w.next key lev).2 :=
  Smm.bindP (P := fun x => x = -1 ∨ key < x ∧ x < 5) (Smm.next h) (fun w => Wk.next_rng) b
theorem Wk.before_rng {key lev : Int} : ∀ {n : Nat} {w : Wk} {f : Int}, -1 ≤ f → f < 5 → -1 ≤ (w.before n key f lev).1 ∧ (w.before n key f lev).1 < 5 := by
  intro n
  induction n with
  | zero => intro w f h0 h1; exact ⟨h0, h1⟩
  | succ n ih =>
    intro w f h0 h1
    unfold Wk.before
    split
    · exact ⟨h0, h1⟩
    · rename_i c
      have := Wk.next_rng (w := w) (key := f) (lev := lev)
      exact ih (by omega) (by omega)
theorem Smm.before {key lev : Int} (l0 : 0 ≤ lev) (l1 : lev ≤ 1) : ∀ {n : Nat} {f : Int}, -1 ≤ f → f < 5 → Smm fun w => w.before n key f lev := by
  intro n
  induction n with
  | zero => intro f _ _; exact Smm.ret _
  | succ n ih =>
    intro f h0 h1
    refine Smm.next_ (g := fun x w => if x = -1 ∨ key ≤ x then (f, w) else w.before n key x lev) ⟨h0, h1, l0, l1⟩ fun x hx => ?_
    exact Smm.ite (Smm.ret _) (ih (by omega) (by omega))
theorem Smm.bits {b : Int} : ∀ {n : Nat} {x out : Int}, -1 ≤ x → x < 5 → Smm fun w => w.bits n x b out := by
  intro n
  induction n with
  | zero => intro x out _ _; exact Smm.ret _
  | succ n ih =>
    intro x out h0 h1
    exact Smm.ite (c := x = -1 ∨ b < x) (Smm.ret _) (Smm.next_ (g := fun y w => w.bits n y b (bor out (bshl x))) ⟨h0, h1, by decide, by decide⟩ fun y hy => ih (by omega) (by omega))
theorem Smm.put {a k lev : Int} (h1 : LvC k lev) (h2 : LvC a lev) : Smm fun w => ((), w.put a k lev) :=
  Smm.get_ (g := fun _ w => (fun y w2 => ((), (Wk.set w2 (lk k lev) y).set (lk a lev) (k + 1))) (w.get (lk a lev)).1 (w.get (lk a lev)).2) h1.cell fun _ =>
    Smm.get_ (g := fun y w2 => ((), (Wk.set w2 (lk k lev) y).set (lk a lev) (k + 1))) h2.cell fun y => Smm.set_ (g := fun w => ((), w.set (lk a lev) (k + 1))) (Smm.set _ _)
theorem Smm.drop {a k lev : Int} (h1 : LvC k lev) : Smm fun w => ((), w.drop a k lev) :=
  Smm.get_ (g := fun y w2 => ((), (Wk.set w2 (lk a lev) y).set (lk k lev) 0)) h1.cell fun y => Smm.set_ (g := fun w => ((), w.set (lk k lev) 0)) (Smm.set _ _)
theorem Smm.insert {o : Op} {hi lo x : Int} (lh : LvC hi 1) (ll : LvC lo 0) (la : 0 ≤ o.a ∧ o.a < 5) : Smm fun w => w.insert o hi lo x := by
  have l0 : LvC o.a 0 := ⟨by omega, la.2, by decide, by decide⟩
  have l1 : LvC o.a 1 := ⟨by omega, la.2, by decide, by decide⟩
  refine Smm.ite (c := x = o.a) (Smm.ret _) ?_
  by_cases h : o.x = 1
  · simp only [if_pos h]
    exact Smm.st (f := fun w => w.put lo o.a 0) (g := fun w => ((⟨0, o.a⟩ : Answer), w.put hi o.a 1)) (Smm.put l0 ll) (Smm.st (f := fun w => w.put hi o.a 1) (g := fun w => (_, w)) (Smm.put l1 lh) (Smm.ret _))
  · simp only [if_neg h]
    exact Smm.st (f := fun w => w.put lo o.a 0) (g := fun w => (_, w)) (Smm.put l0 ll) (Smm.ret _)
theorem Smm.erase {o : Op} {hi lo x : Int} (lh : LvC hi 1) (ll : LvC lo 0) (la : 0 ≤ o.a ∧ o.a < 5) : Smm fun w => w.erase o hi lo x := by
  have l0 : LvC o.a 0 := ⟨by omega, la.2, by decide, by decide⟩
  have l1 : LvC o.a 1 := ⟨by omega, la.2, by decide, by decide⟩
  refine Smm.ite (c := x = o.a) ?_ (Smm.ret _)
  refine Smm.st (f := fun w => w.drop lo o.a 0) (g := fun w => (fun y w2 => ((⟨0, o.a⟩ : Answer), if y = o.a then Wk.drop w2 hi o.a 1 else w2)) (w.next hi 1).1 (w.next hi 1).2) (Smm.drop l0) ?_
  refine Smm.next_ (g := fun y w2 => ((⟨0, o.a⟩ : Answer), if y = o.a then Wk.drop w2 hi o.a 1 else w2)) lh fun y _ => ?_
  by_cases h : y = o.a
  · simp only [if_pos h]; exact Smm.st (f := fun w => w.drop hi o.a 1) (g := fun w => (_, w)) (Smm.drop l1) (Smm.ret _)
  · simp only [if_neg h]; exact Smm.ret _
theorem Smm.skip {o : Op} (la : 0 ≤ o.a ∧ o.a < 5) : Smm fun w => w.skip o := by
  refine Smm.ite (c := o.kind = 9) (Smm.next_ (g := fun x w => ((if x = -1 then ⟨2, 0⟩ else ⟨0, x⟩ : Answer), w)) ⟨by decide, by decide, by decide, by decide⟩ fun x _ => Smm.ret _) ?_
  refine Smm.bindP (f := fun w => w.before 7 o.a (-1) 1) (P := fun x => -1 ≤ x ∧ x < 5)
    (g := fun hi w => (fun lo w => (fun at_ w => if o.kind = 8 then ((⟨0, if at_ = o.a then 1 else 0⟩ : Answer), w) else
      if o.kind = 10 then (⟨0, (Wk.bits 7 w at_ o.b 0).1⟩, (Wk.bits 7 w at_ o.b 0).2) else
      if o.kind = 6 then w.insert o hi lo at_ else w.erase o hi lo at_) (w.next lo 0).1 (w.next lo 0).2) (w.before 7 o.a hi 0).1 (w.before 7 o.a hi 0).2)
    (Smm.before (by decide) (by decide) (by decide) (by decide)) (fun w => Wk.before_rng (by decide) (by decide)) fun hi hh => ?_
  refine Smm.bindP (f := fun w => w.before 7 o.a hi 0) (P := fun x => -1 ≤ x ∧ x < 5)
    (g := fun lo w => (fun at_ w => if o.kind = 8 then ((⟨0, if at_ = o.a then 1 else 0⟩ : Answer), w) else
      if o.kind = 10 then (⟨0, (Wk.bits 7 w at_ o.b 0).1⟩, (Wk.bits 7 w at_ o.b 0).2) else
      if o.kind = 6 then w.insert o hi lo at_ else w.erase o hi lo at_) (w.next lo 0).1 (w.next lo 0).2)
    (Smm.before (by decide) (by decide) hh.1 hh.2) (fun w => Wk.before_rng hh.1 hh.2) fun lo hl => ?_
  refine Smm.next_ (g := fun at_ w => if o.kind = 8 then ((⟨0, if at_ = o.a then 1 else 0⟩ : Answer), w) else
      if o.kind = 10 then (⟨0, (Wk.bits 7 w at_ o.b 0).1⟩, (Wk.bits 7 w at_ o.b 0).2) else
      if o.kind = 6 then w.insert o hi lo at_ else w.erase o hi lo at_) ⟨hl.1, hl.2, by decide, by decide⟩ fun x hx => ?_
  refine Smm.ite (Smm.ret _) (Smm.ite ?_ (Smm.ite ?_ ?_))
  · exact Smm.bind (f := fun w => w.bits 7 x o.b 0) (g := fun y w => ((⟨0, y⟩ : Answer), w)) (Smm.bits (by omega) (by omega)) fun y => Smm.ret _
  · exact Smm.insert ⟨hh.1, hh.2, by decide, by decide⟩ ⟨hl.1, hl.2, by decide, by decide⟩ la
  · exact Smm.erase ⟨hh.1, hh.2, by decide, by decide⟩ ⟨hl.1, hl.2, by decide, by decide⟩ la
theorem Smm.sum : ∀ {n : Nat} {i all : Int}, 0 ≤ i → i + n ≤ 16 → Smm fun w => w.sum n i all := by
  intro n
  induction n with
  | zero => intro i all _ _; exact Smm.ret _
  | succ n ih =>
    intro i all h0 h1
    exact Smm.get_ (g := fun x w => w.sum n (i + 1) (all + max 0 (x - 1))) ⟨h0, by omega⟩ fun x => ih (by omega) (by omega)
theorem Smm.bank {o : Op} (ho : Bk o) : Smm fun w => w.bank o := by
  obtain ⟨⟨a0, a1⟩, ⟨b0, b1⟩, x0, x1⟩ := ho
  refine Smm.ite (c := o.kind = 5) (Smm.bind (f := fun w => w.sum 4 0 0) (g := fun y w => ((⟨0, y⟩ : Answer), w)) (Smm.sum (by decide) (by decide)) fun y => Smm.ret _) ?_
  refine Smm.get_ (g := fun g w => if o.kind = 0 then (if 0 < g then ((⟨1, 0⟩ : Answer), w) else (⟨0, o.x⟩, w.set o.a (o.x + 1))) else
    if o.kind = 4 then (fun g2 w =>
      if g = 0 ∨ g2 = 0 then ((⟨2, 0⟩ : Answer), w) else
      if g - 1 < o.x then (⟨3, 0⟩, w) else
      if o.a = o.b then (⟨0, g - 1⟩, w) else
      if 1048575 < g2 - 1 + o.x then (⟨4, 0⟩, w) else
      (⟨0, g - 1 - o.x⟩, (Wk.set w o.b (g2 - 1 + o.x + 1)).set o.a (g - 1 - o.x + 1))) (w.get o.b).1 (w.get o.b).2
    else
    if g = 0 then (⟨2, 0⟩, w) else
    if o.kind = 1 then (⟨0, g - 1⟩, w.set o.a 0) else
    if o.kind = 2 then (if 1048575 < g - 1 + o.x then (⟨4, 0⟩, w) else (⟨0, g - 1 + o.x⟩, w.set o.a (g - 1 + o.x + 1))) else
    if g - 1 < o.x then (⟨3, 0⟩, w) else (⟨0, g - 1 - o.x⟩, w.set o.a (g - 1 - o.x + 1))) ⟨a0, by omega⟩ fun g => ?_
  have one : ∀ (a : Answer) (c x : Int), Smm fun w => (a, Wk.set w c x) := fun a c x => Smm.set_ (g := fun w => (a, w)) (Smm.ret a)
  refine Smm.ite (Smm.ite (Smm.ret _) (one _ _ _)) (Smm.ite ?_ (Smm.ite (Smm.ret _) (Smm.ite (one _ _ _) (Smm.ite (Smm.ite (Smm.ret _) (one _ _ _)) (Smm.ite (Smm.ret _) (one _ _ _))))))
  refine Smm.get_ (g := fun g2 w =>
      if g = 0 ∨ g2 = 0 then ((⟨2, 0⟩ : Answer), w) else
      if g - 1 < o.x then (⟨3, 0⟩, w) else
      if o.a = o.b then (⟨0, g - 1⟩, w) else
      if 1048575 < g2 - 1 + o.x then (⟨4, 0⟩, w) else
      (⟨0, g - 1 - o.x⟩, (Wk.set w o.b (g2 - 1 + o.x + 1)).set o.a (g - 1 - o.x + 1))) ⟨b0, by omega⟩ fun g2 => ?_
  refine Smm.ite (Smm.ret _) (Smm.ite (Smm.ret _) (Smm.ite (Smm.ret _) (Smm.ite (Smm.ret _) ?_)))
  exact Smm.set_ (g := fun w => ((⟨0, g - 1 - o.x⟩ : Answer), Wk.set w o.a (g - 1 - o.x + 1))) (one _ _ _)
end
end Go.Proofs.YtlmafbdhhneokaaGreat
namespace Go.Proofs.YtlmafbdhhneokaaGreat
open Go GW Go.Proofs
set_option linter.unusedVariables false
set_option linter.unusedSimpArgs false
section
variable {α β : Type} {k : List Bool}
/-- cells that are unknown stay in what knows all -/
def Unt (k : List Bool) (f : Wk → α × Wk) : Prop := ∀ w W : Wk, w.v.k = k → w.need = none → W.Full → w.v.Kn W.v → (f w).2.need = none → ∀ i : Nat, k.getD i false = false → (f W).2.v.n.getD i 0 = W.v.n.getD i 0
def Kw (k : List Bool) (c : Int) : Prop := k.getD c.toNat false = true
theorem Unt.ret (a : α) : Unt k fun w => (a, w) := fun _ _ _ _ _ _ _ _ _ => rfl
theorem Smm.live {f : Wk → α × Wk} {g : Wk → β × Wk} (b : Smm g) {w : Wk} (h : (g (f w).2).2.need = none) : (f w).2.need = none := by
  cases e : (f w).2.need with
  | none => rfl
  | some c =>
    have := b.dead (f w).2 (by rw [e]; rfl)
    rw [this, e] at h; cases h
/-- one behind the other: what is known of the first one's answer -/
theorem Unt.bind {f : Wk → α × Wk} {g : α → Wk → β × Wk} {P : α → Prop} (a : Smm f) (ua : Unt k f) (dead : ∀ x w, w.need.isSome = true → (g x w).2 = w)
    (hP : ∀ w, w.v.k = k → w.need = none → (f w).2.need = none → P (f w).1) (ub : ∀ x, P x → Unt k (g x)) : Unt k fun w => g (f w).1 (f w).2 := by
  intro w W hk h1 h2 h3 h4 i hi
  have hl : (f w).2.need = none := by
    cases e : (f w).2.need with
    | none => rfl
    | some c =>
      have := dead (f w).1 (f w).2 (by rw [e]; rfl)
      simp only [this, e] at h4; cases h4
  have s := a.sim w W h1 h2 h3 hl
  have p := hP w hk h1 hl
  have u1 := ua w W hk h1 h2 h3 hl i hi
  have u2 := ub (f w).1 p (f w).2 (f W).2 (by rw [(a.keep w).1]; exact hk) hl (a.full W h2) s.2 h4 i hi
  rw [s.1] at u2
  show (g (f W).1 (f W).2).2.v.n.getD i 0 = _
  rw [u2, u1]
theorem Unt.ite {c : Prop} [Decidable c] {f g : Wk → α × Wk} (a : Unt k f) (b : Unt k g) : Unt k fun w => if c then f w else g w := by
  by_cases h : c
  · simp only [if_pos h]; exact a
  · simp only [if_neg h]; exact b
theorem Unt.get {c : Int} (hc : Cell c) : Unt k fun w => w.get c := by
  intro w W _ _ h2 _ _ i _
  obtain ⟨c0, c1⟩ := hc
  simp only
  unfold Wk.get
  rw [if_neg (by rw [h2.need]; decide), if_pos (h2.all _ (by omega))]
theorem get_known {w : Wk} {c : Int} (h1 : w.need = none) (h : (w.get c).2.need = none) : Kw w.v.k c := by
  unfold Wk.get at h
  rw [if_neg (by rw [h1]; decide)] at h
  by_cases q : w.v.k.getD c.toNat false = true
  · exact q
  · rw [if_neg q] at h; cases h
theorem Unt.get_ {c : Int} (hc : Cell c) {g : Int → Wk → β × Wk} (b : ∀ x, Smm (g x)) (u : Kw k c → ∀ x, Unt k (g x)) : Unt k fun w => g (w.get c).1 (w.get c).2 :=
  Unt.bind (P := fun _ => Kw k c) (Smm.get hc) (Unt.get hc) (fun x => (b x).dead) (fun w hk h1 h2 => by rw [← hk]; exact get_known h1 h2) fun x h => u h x
theorem Unt.set_ {c x : Int} (hc : Kw k c) {g : Wk → β × Wk} (b : Smm g) (u : Unt k g) : Unt k fun w => g (w.set c x) := by
  refine Unt.bind (f := fun w => ((), w.set c x)) (g := fun _ => g) (P := fun _ => True) (Smm.set c x) ?_ (fun _ => b.dead) (fun _ _ _ _ => trivial) fun _ _ => u
  intro w W hk h1 h2 h3 h4 i hi
  simp only
  unfold Wk.set
  rw [if_neg (by rw [h2.need]; decide)]
  simp only [List.getD_eq_getElem?_getD, List.getElem?_set]
  split
  · rename_i e
    unfold Kw at hc
    rw [e, hi] at hc; cases hc
  · rfl
theorem Unt.st {f : Wk → Wk} {g : Wk → β × Wk} (a : Smm fun w => ((), f w)) (ua : Unt k fun w => ((), f w)) (b : Smm g) (ub : Unt k g) : Unt k fun w => g (f w) :=
  Unt.bind (f := fun w => ((), f w)) (g := fun _ => g) (P := fun _ => True) a ua (fun _ => b.dead) (fun _ _ _ _ => trivial) fun _ _ => ub
theorem Unt.next {key lev : Int} (h : LvC key lev) : Unt k fun w => w.next key lev :=
  Unt.get_ (g := fun x w => (if x - 1 ≤ key ∨ 5 ≤ x - 1 then -1 else x - 1, w)) h.cell (fun x => Smm.ret _) fun _ x => Unt.ret _
theorem next_known {w : Wk} {key lev : Int} (h1 : w.need = none) (h : (w.next key lev).2.need = none) : Kw w.v.k (lk key lev) := get_known h1 h
theorem Unt.next_ {key lev : Int} (h : LvC key lev) {g : Int → Wk → β × Wk} (d : ∀ x w, w.need.isSome = true → (g x w).2 = w) (u : Kw k (lk key lev) → ∀ x, x = -1 ∨ key < x ∧ x < 5 → Unt k (g x)) : Unt k fun w => g (w.next key lev).1 (w.next key lev).2 :=
  Unt.bind (P := fun x => Kw k (lk key lev) ∧ (x = -1 ∨ key < x ∧ x < 5)) (Smm.next h) (Unt.next h) d (fun w hk h1 h2 => ⟨by rw [← hk]; exact next_known h1 h2, Wk.next_rng⟩) fun x q => u q.1 x q.2
theorem Unt.before {key lev : Int} (l0 : 0 ≤ lev) (l1 : lev ≤ 1) : ∀ {n : Nat} {f : Int}, -1 ≤ f → f < 5 → Unt k fun w => w.before n key f lev := by
  intro n
  induction n with
  | zero => intro f _ _; exact Unt.ret _
  | succ n ih =>
    intro f h0 h1
    refine Unt.next_ (g := fun x w => if x = -1 ∨ key ≤ x then (f, w) else w.before n key x lev) ⟨h0, h1, l0, l1⟩ (fun x w hw => ?_) fun _ x hx => ?_
    · split
      · rfl
      · obtain ⟨c, hc⟩ := Option.isSome_iff_exists.1 hw
        exact Wk.before_asked hc
    · by_cases c : x = -1 ∨ key ≤ x
      · simp only [if_pos c]; exact Unt.ret _
      · simp only [if_neg c]; exact ih (by omega) (by omega)
/-- the last place that it looked at is known -/
theorem before_known {key lev : Int} (l0 : 0 ≤ lev) (l1 : lev ≤ 1) : ∀ {n : Nat} {f : Int} {w : Wk}, -1 ≤ f → f < 5 → w.need = none → (w.before (n + 1) key f lev).2.need = none → 4 ≤ n + f → Kw w.v.k (lk (w.before (n + 1) key f lev).1 lev) := by
  intro n
  induction n with
  | zero =>
    intro f w h0 h1 hn h hf
    have r := Wk.next_rng (w := w) (key := f) (lev := lev)
    unfold Wk.before at h ⊢
    have c : (w.next f lev).1 = -1 ∨ key ≤ (w.next f lev).1 := by left; omega
    rw [if_pos c] at h ⊢
    exact next_known hn h
  | succ n ih =>
    intro f w h0 h1 hn h hf
    unfold Wk.before at h ⊢
    split
    · rename_i c; rw [if_pos c] at h; exact next_known hn h
    · rename_i c
      rw [if_neg c] at h
      have r := Wk.next_rng (w := w) (key := f) (lev := lev)
      have hl : (w.next f lev).2.need = none := by
        cases e : (w.next f lev).2.need with
        | none => rfl
        | some d => rw [Wk.before_asked e, e] at h; cases h
      have := ih (f := (w.next f lev).1) (w := (w.next f lev).2) (by omega) (by omega) hl h (by omega)
      have kk := ((Smm.next (key := f) (lev := lev) ⟨h0, h1, l0, l1⟩).keep w).1
      rw [show (w.next f lev).2.v.k = w.v.k from kk] at this; exact this
theorem Unt.bits {b : Int} : ∀ {n : Nat} {x out : Int}, -1 ≤ x → x < 5 → Unt k fun w => w.bits n x b out := by
  intro n
  induction n with
  | zero => intro x out _ _; exact Unt.ret _
  | succ n ih =>
    intro x out h0 h1
    exact Unt.ite (c := x = -1 ∨ b < x) (Unt.ret _) (Unt.next_ (g := fun y w => w.bits n y b (bor out (bshl x))) ⟨h0, h1, by decide, by decide⟩ (fun x w hw => by
      obtain ⟨c, hc⟩ := Option.isSome_iff_exists.1 hw
      exact Wk.bits_asked hc) fun _ y hy => ih (by omega) (by omega))
theorem Unt.put {a key lev : Int} (h1 : LvC key lev) (h2 : LvC a lev) : Unt k fun w => ((), w.put a key lev) :=
  Unt.get_ (g := fun _ w => (fun y w2 => ((), (Wk.set w2 (lk key lev) y).set (lk a lev) (key + 1))) (w.get (lk a lev)).1 (w.get (lk a lev)).2) h1.cell (fun _ =>
    Smm.get_ (g := fun y w2 => ((), (Wk.set w2 (lk key lev) y).set (lk a lev) (key + 1))) h2.cell fun y => Smm.set_ (g := fun w => ((), w.set (lk a lev) (key + 1))) (Smm.set _ _)) fun k1 _ =>
    Unt.get_ (g := fun y w2 => ((), (Wk.set w2 (lk key lev) y).set (lk a lev) (key + 1))) h2.cell (fun y => Smm.set_ (g := fun w => ((), w.set (lk a lev) (key + 1))) (Smm.set _ _)) fun k2 y =>
      Unt.set_ (g := fun w => ((), w.set (lk a lev) (key + 1))) k1 (Smm.set _ _) (Unt.set_ (g := fun w => ((), w)) k2 (Smm.ret _) (Unt.ret _))
theorem Unt.drop {a key lev : Int} (h1 : LvC key lev) (ka : Kw k (lk a lev)) : Unt k fun w => ((), w.drop a key lev) :=
  Unt.get_ (g := fun y w2 => ((), (Wk.set w2 (lk a lev) y).set (lk key lev) 0)) h1.cell (fun y => Smm.set_ (g := fun w => ((), w.set (lk key lev) 0)) (Smm.set _ _)) fun k1 y =>
    Unt.set_ (g := fun w => ((), w.set (lk key lev) 0)) ka (Smm.set _ _) (Unt.set_ (g := fun w => ((), w)) k1 (Smm.ret _) (Unt.ret _))
theorem Unt.insert {o : Op} {hi lo x : Int} (lh : LvC hi 1) (ll : LvC lo 0) (la : 0 ≤ o.a ∧ o.a < 5) : Unt k fun w => w.insert o hi lo x := by
  have l0 : LvC o.a 0 := ⟨by omega, la.2, by decide, by decide⟩
  have l1 : LvC o.a 1 := ⟨by omega, la.2, by decide, by decide⟩
  refine Unt.ite (c := x = o.a) (Unt.ret _) ?_
  by_cases h : o.x = 1
  · simp only [if_pos h]
    exact Unt.st (f := fun w => w.put lo o.a 0) (g := fun w => ((⟨0, o.a⟩ : Answer), w.put hi o.a 1)) (Smm.put l0 ll) (Unt.put l0 ll) (Smm.st (f := fun w => w.put hi o.a 1) (g := fun w => (_, w)) (Smm.put l1 lh) (Smm.ret _))
      (Unt.st (f := fun w => w.put hi o.a 1) (g := fun w => (_, w)) (Smm.put l1 lh) (Unt.put l1 lh) (Smm.ret _) (Unt.ret _))
  · simp only [if_neg h]
    exact Unt.st (f := fun w => w.put lo o.a 0) (g := fun w => (_, w)) (Smm.put l0 ll) (Unt.put l0 ll) (Smm.ret _) (Unt.ret _)
theorem Unt.erase {o : Op} {hi lo x : Int} (lh : LvC hi 1) (ll : LvC lo 0) (la : 0 ≤ o.a ∧ o.a < 5) (kl : Kw k (lk lo 0)) : Unt k fun w => w.erase o hi lo x := by
  have l0 : LvC o.a 0 := ⟨by omega, la.2, by decide, by decide⟩
  have l1 : LvC o.a 1 := ⟨by omega, la.2, by decide, by decide⟩
  refine Unt.ite (c := x = o.a) ?_ (Unt.ret _)
  have sg : ∀ y, Smm fun w2 => ((⟨0, o.a⟩ : Answer), if y = o.a then Wk.drop w2 hi o.a 1 else w2) := fun y => by
    by_cases h : y = o.a
    · simp only [if_pos h]; exact Smm.st (f := fun w => w.drop hi o.a 1) (g := fun w => (_, w)) (Smm.drop l1) (Smm.ret _)
    · simp only [if_neg h]; exact Smm.ret _
  refine Unt.st (f := fun w => w.drop lo o.a 0) (g := fun w => (fun y w2 => ((⟨0, o.a⟩ : Answer), if y = o.a then Wk.drop w2 hi o.a 1 else w2)) (w.next hi 1).1 (w.next hi 1).2) (Smm.drop l0) (Unt.drop l0 kl)
    (Smm.next_ (g := fun y w2 => ((⟨0, o.a⟩ : Answer), if y = o.a then Wk.drop w2 hi o.a 1 else w2)) lh fun y _ => sg y) ?_
  refine Unt.next_ (g := fun y w2 => ((⟨0, o.a⟩ : Answer), if y = o.a then Wk.drop w2 hi o.a 1 else w2)) lh (fun y w hw => (sg y).dead w hw) fun kh y _ => ?_
  by_cases h : y = o.a
  · simp only [if_pos h]; exact Unt.st (f := fun w => w.drop hi o.a 1) (g := fun w => (_, w)) (Smm.drop l1) (Unt.drop l1 kh) (Smm.ret _) (Unt.ret _)
  · simp only [if_neg h]; exact Unt.ret _
/-- what a key's operation does behind both searches -/
def skG (o : Op) (hi lo at_ : Int) (w : Wk) : Answer × Wk := if o.kind = 8 then ((⟨0, if at_ = o.a then 1 else 0⟩ : Answer), w) else
      if o.kind = 10 then (⟨0, (Wk.bits 7 w at_ o.b 0).1⟩, (Wk.bits 7 w at_ o.b 0).2) else
      if o.kind = 6 then w.insert o hi lo at_ else w.erase o hi lo at_
theorem skG_smm {o : Op} {hi lo x : Int} (la : 0 ≤ o.a ∧ o.a < 5) (hh : -1 ≤ hi ∧ hi < 5) (hl : -1 ≤ lo ∧ lo < 5) (hx : -1 ≤ x ∧ x < 5) : Smm (skG o hi lo x) := by
  refine Smm.ite (Smm.ret _) (Smm.ite ?_ (Smm.ite ?_ ?_))
  · exact Smm.bind (f := fun w => w.bits 7 x o.b 0) (g := fun y w => ((⟨0, y⟩ : Answer), w)) (Smm.bits (by omega) (by omega)) fun y => Smm.ret _
  · exact Smm.insert ⟨hh.1, hh.2, by decide, by decide⟩ ⟨hl.1, hl.2, by decide, by decide⟩ la
  · exact Smm.erase ⟨hh.1, hh.2, by decide, by decide⟩ ⟨hl.1, hl.2, by decide, by decide⟩ la
theorem skG_dead {o : Op} {hi lo x : Int} {w : Wk} (hw : w.need.isSome = true) : (skG o hi lo x w).2 = w := by
  obtain ⟨c, hc⟩ := Option.isSome_iff_exists.1 hw
  unfold skG
  split
  · rfl
  · split
    · exact Wk.bits_asked hc
    · split
      · unfold Wk.insert
        split
        · rfl
        · simp only [Wk.put_asked hc]; split <;> rfl
      · unfold Wk.erase
        split
        · simp only [Wk.drop_asked hc, Wk.next_asked hc]; split <;> rfl
        · rfl
theorem Unt.skip {o : Op} (la : 0 ≤ o.a ∧ o.a < 5) : Unt k fun w => w.skip o := by
  refine Unt.ite (c := o.kind = 9) (Unt.next_ (g := fun x w => ((if x = -1 then ⟨2, 0⟩ else ⟨0, x⟩ : Answer), w)) ⟨by decide, by decide, by decide, by decide⟩ (fun _ _ _ => rfl) fun _ x _ => Unt.ret _) ?_
  have d1 : ∀ lo hi w, w.need.isSome = true → ((fun at_ w => skG o hi lo at_ w) (Wk.next w lo 0).1 (w.next lo 0).2).2 = w := fun lo hi w hw => by
    obtain ⟨c, hc⟩ := Option.isSome_iff_exists.1 hw
    simp only [Wk.next_asked hc]
    exact skG_dead hw
  refine Unt.bind (f := fun w => w.before 7 o.a (-1) 1) (P := fun x => -1 ≤ x ∧ x < 5)
    (g := fun hi w => (fun lo w => (fun at_ w => skG o hi lo at_ w) (w.next lo 0).1 (w.next lo 0).2) (w.before 7 o.a hi 0).1 (w.before 7 o.a hi 0).2)
    (Smm.before (by decide) (by decide) (by decide) (by decide)) (Unt.before (by decide) (by decide) (by decide) (by decide)) (fun x w hw => ?_) (fun w _ _ _ => Wk.before_rng (by decide) (by decide)) fun hi hh => ?_
  · obtain ⟨c, hc⟩ := Option.isSome_iff_exists.1 hw
    have := d1 (Wk.before 7 w o.a x 0).1 x w hw
    simp only [Wk.before_asked hc] at this ⊢
    exact this
  refine Unt.bind (f := fun w => w.before 7 o.a hi 0) (P := fun x => (-1 ≤ x ∧ x < 5) ∧ Kw k (lk x 0))
    (g := fun lo w => (fun at_ w => skG o hi lo at_ w) (w.next lo 0).1 (w.next lo 0).2)
    (Smm.before (by decide) (by decide) hh.1 hh.2) (Unt.before (by decide) (by decide) hh.1 hh.2) (fun x w hw => d1 x hi w hw) (fun w hk h1 h2 => ⟨Wk.before_rng hh.1 hh.2, by rw [← hk]; exact before_known (n := 6) (by decide) (by decide) hh.1 hh.2 h1 h2 (by omega)⟩) fun lo hl => ?_
  refine Unt.next_ (g := fun at_ w => skG o hi lo at_ w) ⟨hl.1.1, hl.1.2, by decide, by decide⟩ (fun x w hw => skG_dead hw) fun kl x hx => ?_
  refine Unt.ite (Unt.ret _) (Unt.ite ?_ (Unt.ite ?_ ?_))
  · exact Unt.bind (f := fun w => w.bits 7 x o.b 0) (g := fun y w => ((⟨0, y⟩ : Answer), w)) (P := fun _ => True) (Smm.bits (by omega) (by omega)) (Unt.bits (by omega) (by omega)) (fun _ _ _ => rfl) (fun _ _ _ _ => trivial) fun y _ => Unt.ret _
  · exact Unt.insert ⟨hh.1, hh.2, by decide, by decide⟩ ⟨hl.1.1, hl.1.2, by decide, by decide⟩ la
  · exact Unt.erase ⟨hh.1, hh.2, by decide, by decide⟩ ⟨hl.1.1, hl.1.2, by decide, by decide⟩ la hl.2
theorem Unt.sum : ∀ {n : Nat} {i all : Int}, 0 ≤ i → i + n ≤ 16 → Unt k fun w => w.sum n i all := by
  intro n
  induction n with
  | zero => intro i all _ _; exact Unt.ret _
  | succ n ih =>
    intro i all h0 h1
    exact Unt.get_ (g := fun x w => w.sum n (i + 1) (all + max 0 (x - 1))) ⟨h0, by omega⟩ (fun x => Smm.sum (by omega) (by omega)) fun _ x => ih (by omega) (by omega)
theorem Unt.bank {o : Op} (ho : Bk o) : Unt k fun w => w.bank o := by
  obtain ⟨⟨a0, a1⟩, ⟨b0, b1⟩, x0, x1⟩ := ho
  have one : ∀ (a : Answer) (c x : Int), Smm fun w => (a, Wk.set w c x) := fun a c x => Smm.set_ (g := fun w => (a, w)) (Smm.ret a)
  have oneU : ∀ (a : Answer) (c x : Int), Kw k c → Unt k fun w => (a, Wk.set w c x) := fun a c x h => Unt.set_ (g := fun w => (a, w)) h (Smm.ret a) (Unt.ret a)
  refine Unt.ite (c := o.kind = 5) (Unt.bind (f := fun w => w.sum 4 0 0) (g := fun y w => ((⟨0, y⟩ : Answer), w)) (P := fun _ => True) (Smm.sum (by decide) (by decide)) (Unt.sum (by decide) (by decide)) (fun _ _ _ => rfl) (fun _ _ _ _ => trivial) fun y _ => Unt.ret _) ?_
  have g2s : ∀ g g2 : Int, Smm fun w => if g = 0 ∨ g2 = 0 then ((⟨2, 0⟩ : Answer), w) else
      if g - 1 < o.x then (⟨3, 0⟩, w) else
      if o.a = o.b then (⟨0, g - 1⟩, w) else
      if 1048575 < g2 - 1 + o.x then (⟨4, 0⟩, w) else
      (⟨0, g - 1 - o.x⟩, (Wk.set w o.b (g2 - 1 + o.x + 1)).set o.a (g - 1 - o.x + 1)) := fun g g2 =>
    Smm.ite (Smm.ret _) (Smm.ite (Smm.ret _) (Smm.ite (Smm.ret _) (Smm.ite (Smm.ret _) (Smm.set_ (g := fun w => ((⟨0, g - 1 - o.x⟩ : Answer), Wk.set w o.a (g - 1 - o.x + 1))) (one _ _ _)))))
  refine Unt.get_ (g := fun g w => if o.kind = 0 then (if 0 < g then ((⟨1, 0⟩ : Answer), w) else (⟨0, o.x⟩, w.set o.a (o.x + 1))) else
    if o.kind = 4 then (fun g2 w =>
      if g = 0 ∨ g2 = 0 then ((⟨2, 0⟩ : Answer), w) else
      if g - 1 < o.x then (⟨3, 0⟩, w) else
      if o.a = o.b then (⟨0, g - 1⟩, w) else
      if 1048575 < g2 - 1 + o.x then (⟨4, 0⟩, w) else
      (⟨0, g - 1 - o.x⟩, (Wk.set w o.b (g2 - 1 + o.x + 1)).set o.a (g - 1 - o.x + 1))) (w.get o.b).1 (w.get o.b).2
    else
    if g = 0 then (⟨2, 0⟩, w) else
    if o.kind = 1 then (⟨0, g - 1⟩, w.set o.a 0) else
    if o.kind = 2 then (if 1048575 < g - 1 + o.x then (⟨4, 0⟩, w) else (⟨0, g - 1 + o.x⟩, w.set o.a (g - 1 + o.x + 1))) else
    if g - 1 < o.x then (⟨3, 0⟩, w) else (⟨0, g - 1 - o.x⟩, w.set o.a (g - 1 - o.x + 1))) ⟨a0, by omega⟩ (fun g => ?_) fun ka g => ?_
  · refine Smm.ite (Smm.ite (Smm.ret _) (one _ _ _)) (Smm.ite ?_ (Smm.ite (Smm.ret _) (Smm.ite (one _ _ _) (Smm.ite (Smm.ite (Smm.ret _) (one _ _ _)) (Smm.ite (Smm.ret _) (one _ _ _))))))
    exact Smm.get_ (g := fun g2 w => if g = 0 ∨ g2 = 0 then ((⟨2, 0⟩ : Answer), w) else
      if g - 1 < o.x then (⟨3, 0⟩, w) else
      if o.a = o.b then (⟨0, g - 1⟩, w) else
      if 1048575 < g2 - 1 + o.x then (⟨4, 0⟩, w) else
      (⟨0, g - 1 - o.x⟩, (Wk.set w o.b (g2 - 1 + o.x + 1)).set o.a (g - 1 - o.x + 1))) ⟨b0, by omega⟩ fun g2 => g2s g g2
  · refine Unt.ite (Unt.ite (Unt.ret _) (oneU _ _ _ ka)) (Unt.ite ?_ (Unt.ite (Unt.ret _) (Unt.ite (oneU _ _ _ ka) (Unt.ite (Unt.ite (Unt.ret _) (oneU _ _ _ ka)) (Unt.ite (Unt.ret _) (oneU _ _ _ ka))))))
    refine Unt.get_ (g := fun g2 w => if g = 0 ∨ g2 = 0 then ((⟨2, 0⟩ : Answer), w) else
      if g - 1 < o.x then (⟨3, 0⟩, w) else
      if o.a = o.b then (⟨0, g - 1⟩, w) else
      if 1048575 < g2 - 1 + o.x then (⟨4, 0⟩, w) else
      (⟨0, g - 1 - o.x⟩, (Wk.set w o.b (g2 - 1 + o.x + 1)).set o.a (g - 1 - o.x + 1))) ⟨b0, by omega⟩ (fun g2 => g2s g g2) fun kb g2 => ?_
    refine Unt.ite (Unt.ret _) (Unt.ite (Unt.ret _) (Unt.ite (Unt.ret _) (Unt.ite (Unt.ret _) ?_)))
    exact Unt.set_ (g := fun w => ((⟨0, g - 1 - o.x⟩ : Answer), Wk.set w o.a (g - 1 - o.x + 1))) kb (one _ _ _) (oneU _ _ _ ka)
end
end Go.Proofs.YtlmafbdhhneokaaGreat
namespace Go.Proofs.YtlmafbdhhneokaaGreat
open Go GW Go.Proofs
set_option linter.unusedVariables false
set_option linter.unusedSimpArgs false
structure Vw.Fl (F : Vw) : Prop where
  ln : F.n.length = 16
  all : ∀ i : Nat, i < 16 → F.k.getD i false = true
def Op.run (o : Op) (w : Wk) : Answer × Wk := if o.kind ≤ 5 then w.bank o else w.skip o
theorem Op.run_smm {o : Op} (m : o.may = true) : Smm o.run := by
  have : o.run = fun w => if o.kind ≤ 5 then w.bank o else w.skip o := rfl
  rw [this]
  by_cases h : o.kind ≤ 5
  · simp only [if_pos h]; exact Smm.bank (Op.may_bk m h)
  · simp only [if_neg h]; exact Smm.skip (Op.may_sk m)
theorem Op.run_unt {o : Op} (m : o.may = true) {k : List Bool} : Unt k o.run := by
  have : o.run = fun w => if o.kind ≤ 5 then w.bank o else w.skip o := rfl
  rw [this]
  by_cases h : o.kind ≤ 5
  · simp only [if_pos h]; exact Unt.bank (Op.may_bk m h)
  · simp only [if_neg h]; exact Unt.skip (Op.may_sk m)
theorem Vw.one_run {v : Vw} {o : Op} : v.one o = match (o.run ⟨v, none⟩).2.need with
  | some c => ⟨some c, v, []⟩
  | none => ⟨none, if (o.run ⟨v, none⟩).1.code = 0 then (o.run ⟨v, none⟩).2.v else v, [(o.run ⟨v, none⟩).1]⟩ := rfl
theorem Vw.one_full {F : Vw} {o : Op} (m : o.may = true) (f : F.Fl) : (F.one o).need = none ∧ (F.one o).view.Fl := by
  have h := (Op.run_smm m).full ⟨F, none⟩ ⟨f.ln, rfl, f.all⟩
  rw [Vw.one_run, h.need]
  refine ⟨rfl, ?_⟩
  simp only
  split
  · exact ⟨h.ln, h.all⟩
  · exact f
theorem Vw.one_unk {v : Vw} {o : Op} (m : o.may = true) {c : Int} (h : (v.one o).need = some c) : v.k.getD c.toNat false = false := by
  rw [Vw.one_run] at h
  cases e : (o.run ⟨v, none⟩).2.need with
  | none => rw [e] at h; cases h
  | some d => rw [e] at h; cases h; exact (Op.run_smm m).unk ⟨v, none⟩ c rfl e
theorem Vw.one_sim {v F : Vw} {o : Op} (m : o.may = true) (f : F.Fl) (kn : v.Kn F) (h : (v.one o).need = none) : (v.one o).ans = (F.one o).ans ∧ (v.one o).view.Kn (F.one o).view ∧ (v.one o).view.k = v.k ∧ (v.one o).view.w = v.w ∧
    ∀ i : Nat, v.k.getD i false = false → (F.one o).view.n.getD i 0 = F.n.getD i 0 := by
  have hf := (Op.run_smm m).full ⟨F, none⟩ ⟨f.ln, rfl, f.all⟩
  have hn : (o.run ⟨v, none⟩).2.need = none := by
    rw [Vw.one_run] at h
    cases e : (o.run ⟨v, none⟩).2.need with
    | none => rfl
    | some d => rw [e] at h; cases h
  have s := (Op.run_smm m).sim ⟨v, none⟩ ⟨F, none⟩ rfl ⟨f.ln, rfl, f.all⟩ kn hn
  have u := Op.run_unt m (k := v.k) ⟨v, none⟩ ⟨F, none⟩ rfl rfl ⟨f.ln, rfl, f.all⟩ kn hn
  have kp := (Op.run_smm m).keep ⟨v, none⟩
  rw [Vw.one_run, Vw.one_run, hn, hf.need]
  simp only
  rw [s.1]
  by_cases c : (o.run ⟨F, none⟩).1.code = 0
  · rw [if_pos c, if_pos c]; exact ⟨rfl, s.2, kp.1, kp.2, u⟩
  · rw [if_neg c, if_neg c]; exact ⟨rfl, kn, rfl, rfl, fun _ _ => rfl⟩
theorem Vw.doFrom_sim {v F : Vw} (kn0 : v.Kn F) : ∀ {os : List Op} {w W : Vw} {rs : List Answer}, (∀ o ∈ os, o.may = true) → W.Fl → w.Kn W → w.k = v.k → w.w = v.w → (∀ i : Nat, v.k.getD i false = false → W.n.getD i 0 = F.n.getD i 0) →
    (∀ c, (v.doFrom os w rs).need = some c → v.k.getD c.toNat false = false) ∧ ((v.doFrom os w rs).need = none → (F.doFrom os W rs).need = none ∧ (v.doFrom os w rs).ans = (F.doFrom os W rs).ans ∧ (v.doFrom os w rs).view.Kn (F.doFrom os W rs).view ∧
      (v.doFrom os w rs).view.k = v.k ∧ (v.doFrom os w rs).view.w = v.w ∧ ∀ i : Nat, v.k.getD i false = false → (F.doFrom os W rs).view.n.getD i 0 = F.n.getD i 0) := by
  intro os
  induction os with
  | nil => intro w W rs _ f kn hk hw hu; exact ⟨(fun c h => by cases h), fun _ => ⟨rfl, rfl, kn, hk, hw, hu⟩⟩
  | cons o os ih =>
    intro w W rs hm f kn hk hw hu
    have m := hm o (by simp)
    have ff := Vw.one_full m f
    unfold Vw.doFrom
    cases e : (w.one o).need with
    | some d =>
      refine ⟨fun c h => ?_, fun h => by cases h⟩
      cases h
      have := Vw.one_unk m e
      rw [hk] at this; exact this
    | none =>
      have s := Vw.one_sim m f kn e
      rw [ff.1]
      simp only
      rw [s.1]
      split
      · exact ih (fun o ho => hm o (List.mem_cons_of_mem _ ho)) ff.2 s.2.1 (by rw [s.2.2.1, hk]) (by rw [s.2.2.2.1, hw]) fun i hi => by
          rw [s.2.2.2.2 i (by rw [hk]; exact hi), hu i hi]
      · exact ⟨(fun c h => by cases h), fun _ => ⟨rfl, rfl, kn0, rfl, rfl, fun _ _ => rfl⟩⟩
theorem Txn.may_mem {ops : List Op} (m : Txn.may ops = true) : ∀ o ∈ ops, o.may = true := by
  unfold Txn.may at m
  simp only [Bool.and_eq_true, List.all_eq_true] at m
  exact m.1
theorem Vw.do_sim {v F : Vw} {ops : List Op} (m : Txn.may ops = true) (f : F.Fl) (kn : v.Kn F) :
    (∀ c, (v.do_ ops).need = some c → v.k.getD c.toNat false = false) ∧ ((v.do_ ops).need = none → (F.do_ ops).need = none ∧ (v.do_ ops).ans = (F.do_ ops).ans ∧ (v.do_ ops).view.Kn (F.do_ ops).view ∧
      (v.do_ ops).view.k = v.k ∧ (v.do_ ops).view.w = v.w ∧ ∀ i : Nat, v.k.getD i false = false → (F.do_ ops).view.n.getD i 0 = F.n.getD i 0) :=
  Vw.doFrom_sim kn (Txn.may_mem m) f kn rfl rfl fun _ _ => rfl
/-! ### its rows -/
theorem Vw.rowsFrom_mem {v : Vw} {d : Sw} : ∀ {n i : Nat}, d ∈ v.rowsFrom i n ↔ ∃ j : Nat, i ≤ j ∧ j < i + n ∧ v.k.getD j false = true ∧ d = ⟨j, v.w.getD j 0, v.n.getD j 0⟩ := by
  intro n
  induction n with
  | zero =>
    intro i
    refine ⟨(fun h => by cases h), fun ⟨j, h1, h2, _⟩ => by omega⟩
  | succ n ih =>
    intro i
    unfold Vw.rowsFrom
    rw [List.mem_append, ih]
    constructor
    · rintro (h | ⟨j, h1, h2, h3⟩)
      · split at h
        · rename_i c
          rw [List.mem_singleton] at h
          exact ⟨i, by omega, by omega, c, h⟩
        · cases h
      · exact ⟨j, by omega, by omega, h3⟩
    · rintro ⟨j, h1, h2, h3, h4⟩
      by_cases e : j = i
      · subst e; left; rw [if_pos h3, List.mem_singleton]; exact h4
      · right; exact ⟨j, by omega, by omega, h3, h4⟩
def unkn (k : List Bool) : Nat := (k.filter fun b => !b).length
theorem unkn_set : ∀ {k : List Bool} {i : Nat}, i < k.length → k.getD i false = false → unkn (k.set i true) + 1 = unkn k := by
  intro k
  induction k with
  | nil => intro i h; simp at h
  | cons b k ih =>
    intro i h e
    cases i with
    | zero =>
      simp at e; subst e
      simp [unkn]
    | succ i =>
      simp only [List.length_cons] at h
      have := ih (i := i) (by omega) (by simpa using e)
      unfold unkn at this ⊢
      simp only [List.set_cons_succ, List.filter_cons]
      split <;> first | omega | (simp only [List.length_cons]; omega)
/-! ### the attempt -/
section
variable {A : Ar} {F : Vw}
/-- words that hold what a view that knows all tells -/
structure Vw.Mem (F : Vw) (A : Ar) : Prop where
  fl : F.Fl
  val : ∀ i : Nat, i < 16 → Vw.val (F.n.getD i 0)
  at_ : ∀ i : Nat, i < 16 → A.at i = F.n.getD i 0 * 4
theorem Vw.Mem.ld (m : F.Mem A) (ok : A.ok) {i : Int} (h0 : 0 ≤ i) (h1 : i < 634) : F.Mem (A.ld i) :=
  ⟨m.fl, m.val, fun j hj => by rw [at_ld ok h0 h1 (by omega) (by omega)]; exact m.at_ j hj⟩
/-- what a view knows, so far -/
structure Vw.Rd (v F : Vw) : Prop where
  ok : v.ok
  kn : v.Kn F
  was : ∀ i : Nat, v.k.getD i false = true → v.w.getD i 0 = F.n.getD i 0
theorem Vw.Rd.know {v : Vw} (r : v.Rd F) {c : Nat} (hc : c < 16) (f : F.Fl) (hv : Vw.val (F.n.getD c 0)) : (v.know c (F.n.getD c 0)).Rd F := by
  have lk := r.ok.lk; have lw := r.ok.lw; have ln := r.ok.ln
  refine ⟨Vw.know_ok r.ok hv, ⟨by simp [Vw.know, ln], fun i hi => ?_⟩, fun i hi => ?_⟩
  · unfold Vw.know at hi ⊢
    simp only [List.getD_eq_getElem?_getD, List.getElem?_set, Int.toNat_natCast] at hi ⊢
    split at hi
    · rename_i e; rw [if_pos e, if_pos (by omega), ← e]; rfl
    · rename_i e; rw [if_neg e]
      have := r.kn.same i (by rw [List.getD_eq_getElem?_getD]; exact hi)
      simpa [List.getD_eq_getElem?_getD] using this
  · unfold Vw.know at hi ⊢
    simp only [List.getD_eq_getElem?_getD, List.getElem?_set, Int.toNat_natCast] at hi ⊢
    split at hi
    · rename_i e; rw [if_pos e, if_pos (by omega), ← e]; rfl
    · rename_i e; rw [if_neg e]
      have := r.was i (by rw [List.getD_eq_getElem?_getD]; exact hi)
      simpa [List.getD_eq_getElem?_getD] using this
theorem Vw.Rd.zero (h : F.Fl) : vwZ.Rd F := by
  have : ∀ i : Nat, vwZ.k.getD i false = false := fun i => by
    rw [List.getD_eq_getElem?_getD]
    cases e : vwZ.k[i]? with
    | none => rfl
    | some x => exact List.eq_of_mem_replicate (List.mem_of_getElem? e)
  exact ⟨vwZ_ok, ⟨rfl, fun i hi => by rw [this i] at hi; cases hi⟩, fun i hi => by rw [this i] at hi; cases hi⟩
/-- it reads until it knows all that its body asks for -/
theorem reads_all {ops : List Op} (mo : Txn.may ops = true) : ∀ (u : Nat) {x : At} {v : Vw} {c : Int} {A : Ar}, unkn v.k = u → A.ok → F.Mem A → v.Rd F → (v.do_ ops).need = some c → x.over = false → x.ops = ops → x.st = .rd (.new x.t x.q c) v →
    ∃ n y, ∃ v' : Vw, ∃ A', Ago x A n y A' ∧ 1 ≤ n ∧ n ≤ u ∧ A'.ok ∧ F.Mem A' ∧ (∀ j, 0 ≤ j → j < 634 → A'.at j = A.at j) ∧ v'.Rd F ∧ (v'.do_ ops).need = none ∧ y.over = false ∧ y.st = .wr (newWr x.slot x.gen (v'.do_ ops).view.rows) ∧ y.ans = (v'.do_ ops).ans ∧
      y.t = x.t ∧ y.q = x.q ∧ y.slot = x.slot ∧ y.gen = x.gen ∧ y.won = x.won ∧ y.ops = ops := by
  intro u
  induction u with
  | zero =>
    intro x v c A hu hA hm hv hn ho hops hs
    have uk := (Vw.do_sim mo hm.fl hv.kn).1 c hn
    have cr := ((Vw.do_ok hv.ok mo).2 c hn).1
    have := unkn_set (k := v.k) (i := c.toNat) (by have := hv.ok.lk; omega) uk
    omega
  | succ u ih =>
    intro x v c A hu hA hm hv hn ho hops hs
    have uk := (Vw.do_sim mo hm.fl hv.kn).1 c hn
    obtain ⟨c0, c1⟩ := ((Vw.do_ok hv.ok mo).2 c hn).1
    have us := unkn_set (k := v.k) (i := c.toNat) (by have := hv.ok.lk; omega) uk
    obtain ⟨k, rfl⟩ := Int.eq_ofNat_of_zero_le c0
    have hk : k < 16 := by omega
    have val := hm.val k hk
    have st := At.step_rd (A := A) (v := v) (t := x.t) (q := x.q) (c := k) (y := F.n.getD k 0) ho hs (by rw [hm.at_ k hk]; exact plainOf_val val.1 val.2)
    have hv2 := hv.know hk hm.fl val
    have hA2 := hA.ld (k : Int)
    have hm2 := hm.ld hA (i := (k : Int)) (by omega) (by omega)
    have at2 : ∀ j, 0 ≤ j → j < 634 → (A.ld k).at j = A.at j := fun j j0 j1 => at_ld hA (by omega) (by omega) j0 j1
    have hu2 : unkn (v.know k (F.n.getD k 0)).k = u := by
      show unkn (v.k.set (k : Int).toNat true) = u
      omega
    unfold At.known at st
    rw [show ({ x with q := x.q, ts := -1, tg := 0, st := .rd ⟨x.t, x.q, (k : Int), F.n.getD k 0, none, -1, 0, true⟩ v } : At).ops = ops from hops] at st
    cases hn2 : ((v.know k (F.n.getD k 0)).do_ ops).need with
    | none =>
      unfold At.asked at st
      rw [hn2] at st
      exact ⟨1, _, v.know k (F.n.getD k 0), A.ld k, Ago.one ho st ⟨rfl, rfl, .inl rfl⟩, by omega, by omega, hA2, hm2, at2, hv2, hn2, ho, rfl, rfl, rfl, rfl, rfl, rfl, rfl, rfl⟩
    | some d =>
      have dv := ((Vw.do_ok hv2.ok mo).2 d hn2).2.1
      unfold At.asked at st
      rw [hn2] at st
      simp only at st
      rw [dv] at st
      obtain ⟨n, y, v', A', g, n1, n2, r⟩ := ih (x := { x with q := x.q, ops := ops, ts := -1, tg := 0, st := .rd (.new x.t x.q d) (v.know k (F.n.getD k 0)) }) hu2 hA2 hm2 hv2 hn2 ho rfl rfl
      refine ⟨1 + n, y, v', A', (Ago.one ho st ⟨rfl, rfl, .inl rfl⟩).trans g, by omega, by omega, r.1, r.2.1, fun j j0 j1 => by rw [r.2.2.1 j j0 j1, at2 j j0 j1], r.2.2.2⟩
theorem Vw.rows_get {v : Vw} {i : Nat} {d : Sw} (h : v.rows[i]? = some d) : ∃ j : Nat, j < 16 ∧ v.k.getD j false = true ∧ d = ⟨j, v.w.getD j 0, v.n.getD j 0⟩ := by
  obtain ⟨j, _, h2, h3⟩ := Vw.rowsFrom_mem.1 (List.mem_of_getElem? h)
  exact ⟨j, by omega, h3⟩
/-- alone it wins -/
theorem attempt_alone {ops : List Op} {t q slot gen : Int} (m : At.may t q slot gen ops) (hA : A.ok) (hm : F.Mem A) :
    ∃ n x' A', Ago (At.new t q slot gen ops) A n x' A' ∧ 1 ≤ n ∧ n ≤ 199 ∧ x'.over = true ∧ x'.won = true ∧ x'.ans = (F.do_ ops).ans ∧ x'.ok ∧ A'.ok ∧ (∀ i : Nat, i < 16 → A'.at i = (F.do_ ops).view.n.getD i 0 * 4) ∧
      (∀ j, 16 ≤ j → j < 634 → (j < baseOf slot ∨ baseOf slot + 50 ≤ j) → A'.at j = A.at j) ∧ x'.ts = slot ∧ x'.tg = gen := by
  obtain ⟨⟨t0, t1⟩, ⟨q0, q1⟩, ml, mo⟩ := m
  have mm : At.may t q slot gen ops := ⟨⟨t0, t1⟩, ⟨q0, q1⟩, ml, mo⟩
  have hl := ml
  unfold lifeMay at hl
  simp only [decide_eq_true_eq] at hl
  obtain ⟨c, c0, c1, e⟩ := vwZ_do mo
  have hs : (At.new t q slot gen ops).st = .rd (.new t q c) vwZ := by
    show AtSt.rd (.new t q (needN (vwZ.do_ ops).need)) vwZ = _
    rw [e]; rfl
  obtain ⟨n, y, v, B, g, n1, n2, okB, mB, atB, rd, hn, yo, ys, ya, yt, yq, ysl, yg, yw, yops⟩ := reads_all (F := F) mo (unkn vwZ.k) (x := .new t q slot gen ops) rfl hA hm (Vw.Rd.zero hm.fl) (by rw [e]) rfl rfl hs
  have hu : unkn vwZ.k = 16 := by decide
  have sim := (Vw.do_sim mo hm.fl rd.kn).2 hn
  obtain ⟨s1, s2, s3, s4, s5, s6⟩ := sim
  have vok := (Vw.do_ok rd.ok mo).1
  generalize hmv : v.do_ ops = M at *
  have ms := Vw.rows_may vok
  have rlen := sw_len ms
  have dl := descRow_len gen M.view.rows
  have rr := descRow_range hl.2.2.1 hl.2.2.2 ms
  have hb : baseOf slot = 34 + slot * 50 := rfl
  obtain ⟨u, g2, us, uS⟩ := Ago.wrAll (x := y) (a := baseOf slot) (l := descRow gen M.view.rows) (A := B) yo ys (fun e => by rw [e] at dl; simp at dl; omega)
  have okC := putRow_ok (a := baseOf slot) okB rr
  have atC := at_putRow (a := baseOf slot) okB rr (by omega) (by rw [dl]; omega)
  rw [dl] at g2 atC
  generalize putRow (baseOf slot) (descRow gen M.view.rows) B = C at g2 okC atC
  have on : On C (Wh.new slot gen) 0 M.view.rows := ⟨okC, ⟨hl.1, hl.2.1, hl.2.2.1, hl.2.2.2⟩, ms, Dsc.of_row fun j j0 j1 => by
    have j2 : j < ((2 + 3 * M.view.rows.length : Nat) : Int) := by rw [← dl]; exact j1
    show C.at (baseOf slot + j) = _
    rw [atC _ (by omega) (by omega), if_pos (by omega)]; congr 1; omega⟩
  rw [yt, yq, ysl, yg] at us
  have okH : (Help.new t q (.who (.new slot gen))).ok := ⟨t0, t1, q0, q1, by constructor <;> simp [Help.new], zero64, fun _ => ⟨Wh.new_ok ⟨hl.1, hl.2.1, hl.2.2.1, hl.2.2.2⟩, (fun _ h => by cases h), by simp [Help.new]⟩⟩
  have cellC : ∀ i : Nat, i < 16 → C.at i = F.n.getD i 0 * 4 := fun i hi => by
    rw [atC _ (by omega) (by omega), if_neg (by omega)]; exact mB.at_ i hi
  obtain ⟨f, D, g3, on3, c3, r3⟩ := alone_wins (s := slot) (g := gen) (H := .new t q (.who (.new slot gen))) on rfl rfl rfl rfl rfl okH fun i d hd => by
    obtain ⟨j, hj, kj, rfl⟩ := Vw.rows_get hd
    show C.at (j : Int) = M.view.w.getD j 0 * 4
    rw [cellC j hj, s5, rd.was j (by rw [← s4]; exact kj)]
  have g4 := Ago.help g3 (by omega) uS.over us rfl (by show slot = u.slot; rw [uS.slot, ysl]; rfl) (by show gen = u.gen; rw [uS.gen, yg]; rfl)
  have all := (g.trans g2).trans g4
  have fin := all.ok (At.new_ok mm) hA
  refine ⟨_, _, D, all, by omega, by omega, rfl, rfl, ?_, fin.1, fin.2, fun i hi => ?_, fun j j0 j1 jb => ?_, rfl, rfl⟩
  · show u.ans = _
    rw [uS.ans, ya, s2]
  · by_cases k : v.k.getD i false = true
    · have hd : (⟨(i : Int), M.view.w.getD i 0, M.view.n.getD i 0⟩ : Sw) ∈ M.view.rows := Vw.rowsFrom_mem.2 ⟨i, by omega, by omega, by rw [s4]; exact k, rfl⟩
      obtain ⟨p, hp, ep⟩ := List.mem_iff_getElem.1 hd
      have := c3 p _ (by rw [List.getElem?_eq_getElem hp, ep])
      simp only at this
      rw [this, s3.same i (by rw [s4]; exact k)]
    · have k : v.k.getD i false = false := by simpa using k
      rw [r3 _ (by omega) (by omega) (by omega) (fun p d hd => by
        obtain ⟨j, hj, kj, rfl⟩ := Vw.rows_get hd
        rw [s4] at kj
        intro e
        have : j = i := by simp only at e; omega
        rw [this, k] at kj; cases kj), cellC i hi, s6 i k]
  · rw [r3 j (by omega) j1 (by omega) (fun p d hd => by
      obtain ⟨i, hi, _, rfl⟩ := Vw.rows_get hd
      simp only; omega), atC _ (by omega) j1, if_neg (by omega), atB j (by omega) j1]
end
end Go.Proofs.YtlmafbdhhneokaaGreat
namespace Go.Proofs.YtlmafbdhhneokaaGreat
open Go GW Go.Proofs
set_option linter.unusedVariables false
set_option linter.unusedSimpArgs false
theorem Help.step_slot0 {H : Help} {A : Ar} (ok : H.ok) (ho : H.over = false) : 0 ≤ (H.step A).1.slot ∧ (H.step A).1.slot < 12 := by
  rw [Help.step_eq ho]
  have hl := Fr.life (ok.frames ho).1
  have key : ∀ o : Out, (H.take o).1.slot = H.top.s := by
    intro o
    unfold Help.take
    simp only
    split
    · rfl
    · split
      · split <;> rfl
      · split
        · rfl
        · split <;> rfl
  show 0 ≤ (H.take _).1.slot ∧ (H.take _).1.slot < 12
  rw [key]
  exact ⟨hl.s0, hl.s1⟩
theorem Wh.step_any {t q : Int} {w : Wh} {A : Ar} : (w.step t q A).a.any = true := by
  unfold Wh.step
  split
  case h_4 =>
    unfold Wh.swapIn
    simp only
    split
    · rfl
    · split
      · rfl
      · rfl
      · rfl
      · split <;> rfl
  case h_13 => simp only; split <;> rfl
  all_goals rfl
theorem En.step_any {q : Int} {f : En} {A : Ar} : (f.step q A).a.any = true := by
  unfold En.step
  split <;> rfl
theorem Help.step_any {H : Help} {A : Ar} (ho : H.over = false) : (H.step A).2.2.any = true := by
  rw [Help.step_eq ho]
  show (Fr.step H.t H.q H.top A).a.any = true
  cases H.top with
  | who w => exact Wh.step_any
  | ent f => exact En.step_any
def AtRd (x : At) (A : Ar) : Prop := ∃ t q c v, x.st = .rd (.new t q c) v ∧ (0 ≤ c ∧ c < 16) ∧ ∀ i, 0 ≤ i → i < 16 → ∃ y, plainOf (A.at i) = some y
def AtWr (x : At) : Prop := ∃ w, x.st = .wr w ∧ w.left ≠ []
def AtHp (x : At) : Prop := ∃ H, x.st = .hp H ∧ H.over = false
def AtPh (wr : Bool) (x : At) (A : Ar) : Prop := (wr = false ∧ AtRd x A) ∨ AtWr x ∨ (wr = true ∧ AtHp x)
/-- what is asked of a step -/
structure AtSt1 (wr wr' : Bool) (x y : At) (B : Ar) : Prop where
  an : B.any = true
  fl : wr' = (wr || decide (B.last.getD 1 0 = 1))
  on : wr' = true → y.ts = x.slot ∧ y.tg = x.gen
  off : wr' = false → y.ts = -1 ∧ y.tg = 0 ∧ B.last.getD 1 0 = 0 ∧ 0 ≤ B.last.getD 2 0 ∧ B.last.getD 2 0 < 16
  ov : y.over = true → wr' = true
  nx : y.over = false → AtPh wr' y B
theorem AtSt1.of_rd {x : At} {A : Ar} (o : x.ok) (hA : A.ok) (ho : x.over = false) (r : AtRd x A) : AtSt1 false false x (x.step A).1 (x.step A).2.2 := by
  obtain ⟨t, q, c, v, hs, ⟨c0, c1⟩, pl⟩ := r
  obtain ⟨y, hy⟩ := pl c c0 c1
  rw [At.step_rd ho hs hy]
  have os := o.st
  rw [hs] at os
  obtain ⟨ro, vo, _⟩ := os
  have hk : ∀ z : At, (z.known v c y).ts = z.ts ∧ (z.known v c y).tg = z.tg ∧ (z.known v c y).over = z.over := fun z => by
    unfold At.known At.asked; split <;> exact ⟨rfl, rfl, rfl⟩
  have cat : ((c.toNat : Nat) : Int) = c := by omega
  refine ⟨rfl, rfl, (fun h => by cases h), fun _ => ?_, fun h => ?_, fun _ => ?_⟩
  · obtain ⟨k1, k2, k3⟩ := hk { x with q := q, ts := -1, tg := 0, st := .rd ⟨t, q, c, y, none, -1, 0, true⟩ v }
    refine ⟨k1, k2, rfl, ?_, ?_⟩
    · show (0 : Int) ≤ ((c.toNat : Nat) : Int); omega
    · show ((c.toNat : Nat) : Int) < 16; omega
  · obtain ⟨k1, k2, k3⟩ := hk { x with q := q, ts := -1, tg := 0, st := .rd ⟨t, q, c, y, none, -1, 0, true⟩ v }
    have h : (At.known { x with q := q, ts := -1, tg := 0, st := .rd ⟨t, q, c, y, none, -1, 0, true⟩ v } v c y).over = true := h
    rw [k3] at h
    have h : x.over = true := h
    rw [ho] at h; cases h
  · show AtPh false (At.known { x with q := q, ts := -1, tg := 0, st := .rd ⟨t, q, c, y, none, -1, 0, true⟩ v } v c y) (A.ld c)
    have mo := o.ops
    have kv : (v.know c y).ok := Vw.know_ok vo (plainOf_range hy)
    have dn := (Vw.do_ok kv mo).2
    unfold At.known At.asked
    cases e : ((v.know c y).do_ x.ops).need with
    | some d =>
      have := (dn d e).1
      left
      refine ⟨rfl, x.t, q, d, _, by simp only [e]; rfl, ⟨by omega, by omega⟩, fun i i0 i1 => ?_⟩
      rw [at_ld hA c0 (by omega) i0 (by omega)]
      exact pl i i0 i1
    | none =>
      right; left
      refine ⟨newWr x.slot x.gen ((v.know c y).do_ x.ops).view.rows, by simp only [e], ?_⟩
      intro h
      have := congrArg List.length h
      simp only [newWr, descRow_len, List.length_nil] at this
      omega
theorem AtSt1.of_wr {wr : Bool} {x : At} {A : Ar} (ho : x.over = false) (r : AtWr x) : AtSt1 wr true x (x.step A).1 (x.step A).2.2 := by
  obtain ⟨w, hs, hw⟩ := r
  rw [At.wr_step ho hs]
  obtain ⟨a, l⟩ := w
  cases l with
  | nil => exact absurd rfl hw
  | cons z l =>
    refine ⟨rfl, ?_, fun _ => ⟨rfl, rfl⟩, (fun h => by cases h), fun _ => rfl, fun _ => ?_⟩
    · show true = (wr || decide ((1 : Int) = 1))
      simp
    · cases l with
      | nil => right; right; exact ⟨rfl, _, rfl, rfl⟩
      | cons z2 l => right; left; exact ⟨⟨a + 1, z2 :: l⟩, rfl, by simp⟩
theorem AtSt1.of_hp {x : At} {A : Ar} (o : x.ok) (ho : x.over = false) (r : AtHp x) (h0 : (x.step A).2.1 = 0) (th : x.Thr (x.step A).1) : AtSt1 true true x (x.step A).1 (x.step A).2.2 := by
  obtain ⟨H, hs, hov⟩ := r
  have os := o.st
  rw [hs] at os
  obtain ⟨okH, _⟩ := os
  have e0 : (H.step A).2.1 = 0 := by
    by_cases c : (H.step A).2.1 = 0
    · exact c
    · exfalso
      unfold At.step at h0
      rw [if_neg (by rw [ho]; decide), hs] at h0
      simp only [if_pos c] at h0
      exact absurd h0 (by decide)
  have sl := Help.step_slot0 (A := A) okH hov
  rw [At.step_hp ho hs e0] at th ⊢
  refine ⟨Help.step_any hov, rfl, fun _ => ?_, (fun h => by cases h), fun _ => rfl, fun h => .inr (.inr ⟨rfl, _, rfl, h⟩)⟩
  rcases th.2.2 with q | q
  · have q : (H.step A).1.slot = -1 := q
    omega
  · exact q
theorem AtPh.step {wr : Bool} {x : At} {A : Ar} (o : x.ok) (hA : A.ok) (ho : x.over = false) (ph : AtPh wr x A) (h0 : (x.step A).2.1 = 0) (th : x.Thr (x.step A).1) : ∃ wr', AtSt1 wr wr' x (x.step A).1 (x.step A).2.2 := by
  rcases ph with ⟨rfl, r⟩ | r | ⟨rfl, r⟩
  · exact ⟨_, .of_rd o hA ho r⟩
  · exact ⟨_, .of_wr ho r⟩
  · exact ⟨_, .of_hp o ho r h0 th⟩
end Go.Proofs.YtlmafbdhhneokaaGreat
namespace Go.Proofs.YtlmafbdhhneokaaGreat
open Go GW Go.Proofs
attribute [local irreducible] bnd ldV stV ifV binV eqI
set_option linter.unusedVariables false
set_option linter.unusedSimpArgs false
set_option maxRecDepth 20000
theorem uidx (x : Int) {n : Nat} (h0 : 0 < n) (h1 : n ≤ 1000) : ∃ k : Nat, k < n ∧ ∃ a, cvV .u64 (i64 x) = some (.int .u64 a) ∧ cvV .u64 (i64 n) = some (.int .u64 n) ∧ binV .rem (.int .u64 a) (.int .u64 n) = some (.int .u64 k) ∧ cvV .i64 (.int .u64 k) = some (i64 k) := by
  have hw : 0 ≤ IntKind.u64.wrap x := by unfold IntKind.wrap; simp [IntKind.bits, IntKind.signed]; omega
  have hn : IntKind.u64.wrap (n : Int) = n := by unfold IntKind.wrap; simp [IntKind.bits, IntKind.signed]; omega
  have h2 := Int.emod_nonneg (IntKind.u64.wrap x) (show (n : Int) ≠ 0 by omega)
  have h3 := Int.emod_lt_of_pos (IntKind.u64.wrap x) (show (0 : Int) < n by omega)
  refine ⟨(IntKind.u64.wrap x % n).toNat, by omega, IntKind.u64.wrap x, rfl, by rw [cvV_int, hn], ?_, ?_⟩
  · rw [binV_rem, if_neg (by omega), Int.tmod_eq_emod_of_nonneg hw]
    congr 2; omega
  · rw [cvV_int, wrap_id (by omega) (by omega)]
def zeroV : Vw := ⟨List.replicate 16 true, List.replicate 16 0, List.replicate 16 0⟩
theorem zeroV_mem : zeroV.Mem (shelfA [] []) := by
  obtain ⟨hA, hA0, _⟩ := shelf_view (cells := []) (dss := []) (fun x hx => by cases hx)
  have z : ∀ i : Nat, (List.replicate 16 (0 : Int)).getD i 0 = 0 := fun i => by
    rw [List.getD_eq_getElem?_getD]
    cases e : (List.replicate 16 (0 : Int))[i]? with
    | none => rfl
    | some x => exact List.eq_of_mem_replicate (List.mem_of_getElem? e)
  refine ⟨⟨rfl, fun i hi => ?_⟩, fun i _ => ?_, fun i hi => ?_⟩
  · show (List.replicate 16 true).getD i false = true
    rw [List.getD_eq_getElem?_getD, List.getElem?_replicate, if_pos hi]; rfl
  · show Vw.val ((List.replicate 16 (0 : Int)).getD i 0)
    rw [z]; exact ⟨by decide, by decide⟩
  · rw [hA0 i (by omega) (by omega)]
    show (([] : List Int).getD _ 0) = (List.replicate 16 (0 : Int)).getD i 0 * 4
    rw [z]; rfl
theorem zeroA_plain {i : Int} (i0 : 0 ≤ i) (i1 : i < 16) : ∃ y, plainOf ((shelfA [] []).at i) = some y := by
  obtain ⟨hA, hA0, _⟩ := shelf_view (cells := []) (dss := []) (fun x hx => by cases hx)
  rw [hA0 i i0 i1]
  exact ⟨0, (by decide : plainOf 0 = some 0)⟩
section
variable {R : List Part} {h : GH} {K : Value → GH → Prop}
theorem T_AttemptThrough {g : GH} {pv : Value} {ops : List Op} {slot gen : Int} (hp : All [baseP g] h) (ro : rowsAt g 4 pv (ops.map Op.enc)) (hK : ∀ h', K (.bool true) h') : T Tryz.prog 4 [pv, i64 slot, i64 gen] h K := by
  apply S4_T
  unfold S4
  refine T_aawake hp fun h1 hp => ?_
  (repeat first|refine wx ?_|refine wy ?_|refine wz ?_|refine wv ?_|refine wh ?_)
  refine T_shelf (us := []) (cells := []) (dss := []) hp (fun h' hp => rowsAt_nil _ _) (fun h' hp => ⟨rowsAt_nil _ _, .nil⟩) (fun x hx => by cases hx) fun a b h3 hp => ?_
  have hA : (shelfA [] []).ok := shelfA_ok fun x hx => by cases hx
  have hm := zeroV_mem
  have hpl : ∀ i, 0 ≤ i → i < 16 → ∃ y, plainOf ((shelfA [] []).at i) = some y := fun i i0 i1 => zeroA_plain i0 i1
  generalize shelfA [] [] = A at hp hA hm hpl
  (repeat first|refine wx ?_|refine wy ?_|refine wz ?_|refine wv ?_|refine wh ?_)
  obtain ⟨k, hk, u, q1, q2, q3, q4⟩ : ∃ k : Nat, k < 12 ∧ ∃ a, cvV .u64 (i64 slot) = some (.int .u64 a) ∧ cvV .u64 (i64 ((12 : Nat) : Int)) = some (.int .u64 ((12 : Nat) : Int)) ∧ binV .rem (.int .u64 a) (.int .u64 ((12 : Nat) : Int)) = some (.int .u64 k) ∧ cvV .i64 (.int .u64 k) = some (i64 k) := uidx slot (n := 12) (by decide) (by decide)
  obtain rfl : IntKind.u64.wrap slot = u := by
    have e : cvV .u64 (i64 slot) = some (.int .u64 (IntKind.u64.wrap slot)) := rfl
    rw [e] at q1; cases q1; rfl
  refine bnd_of q3 (bnd_of q4 ?_)
  refine bnd_of (binV_and_mask gen 16 (by decide) (by decide)) ?_
  have g0 : 0 ≤ gen % ((2 ^ 16 : Nat) : Int) ∧ gen % ((2 ^ 16 : Nat) : Int) < 65536 := by omega
  generalize gen % ((2 ^ 16 : Nat) : Int) = gn at g0 ⊢
  have hlife : lifeMay k gn = true := by unfold lifeMay; rw [decide_eq_true_eq]; omega
  replace hp := hp.re 3 [0, 2]
  replace hp := Go.Proofs.YtlmafbdhhneokaaGreat.hn hp
  refine T_atNew (ops := ops) hp (fun h' hp => ro.le (baseP.le (hp.up 1))) (fun nm h4 hp => ?_) fun m tb h4 hp => ?_
  · (repeat first|refine wx ?_|refine wy ?_|refine wz ?_|refine wv ?_|refine wh ?_)
    refine T_Num ?_
    (repeat first|refine wx ?_|refine wy ?_|refine wz ?_|refine wv ?_|refine wh ?_)
    unfold S4_j1
    (repeat first|refine wx ?_|refine wy ?_|refine wz ?_|refine wv ?_|refine wh ?_)
    exact hK _
  · have mo := m.2.2.2
    (repeat first|refine wx ?_|refine wy ?_|refine wz ?_|refine wv ?_|refine wh ?_)
    refine T_Num ?_
    (repeat first|refine wx ?_|refine wy ?_|refine wz ?_|refine wv ?_|refine wh ?_)
    unfold S4_j1
    (repeat first|refine wx ?_|refine wy ?_|refine wz ?_|refine wv ?_|refine wh ?_)
    unfold S4_j2
    obtain ⟨n, x', A', ago, n1, n2, f1, f2, _⟩ := attempt_alone m hA hm
    obtain ⟨c, c0, c1, e⟩ := vwZ_do mo
    have ph0 : AtPh false (.new 1 0 k gn ops) A := by
      refine .inl ⟨rfl, 1, 0, c, vwZ, ?_, ⟨c0, c1⟩, hpl⟩
      show AtSt.rd (.new 1 0 (needN (vwZ.do_ ops).need)) vwZ = _
      rw [e]; rfl
    replace hp : All (arP 98 a A :: attP tb (.new 1 0 k gn ops) :: [baseP g]) h4 := hp.up 1
    refine Lfp_fam (ι := Nat × At × Ar × Bool) (fun p => [ptr a, i64 k, i64 gn, ptr tb, .bool p.2.2.2, i64 p.1])
      (fun p h' => p.1 ≤ 400 ∧ p.2.1.ok ∧ p.2.2.1.ok ∧ (∃ n, Ago p.2.1 p.2.2.1 n x' A' ∧ p.1 + n ≤ 400) ∧ p.2.1.over = false ∧ AtPh p.2.2.2 p.2.1 p.2.2.1 ∧ p.2.1.slot = k ∧ p.2.1.gen = gn ∧ All (arP 98 a p.2.2.1 :: attP tb p.2.1 :: [baseP g]) h')
      (fun p => 400 - p.1) ?_ (0, .new 1 0 k gn ops, A, false) h4 ⟨by simp only; omega, At.new_ok m, hA, ⟨n, ago, by simp only; omega⟩, rfl, ph0, rfl, rfl, hp⟩
    clear hp ph0 ago hA hm hpl
    rintro ⟨i, X, B, wr⟩ h9 Y ⟨hi, okX, okB, ⟨m2, w1, w2⟩, hov, ph, hsl, hgn, hp⟩ again
    simp only at hi okX okB w1 w2 hov ph hsl hgn hp
    simp only [tup_zero, tup_succ]
    obtain ⟨m3, rfl, e0, thr, w⟩ : ∃ m3, m2 = m3 + 1 ∧ (X.step B).2.1 = 0 ∧ X.Thr (X.step B).1 ∧ Ago (X.step B).1 (X.step B).2.2 m3 x' A' := by
      cases w1 with
      | refl => rw [hov] at f1; cases f1
      | step _ e0 thr w => exact ⟨_, rfl, e0, thr, w⟩
    (repeat first|refine wx ?_|refine wy ?_|refine wz ?_|refine wv ?_|refine wh ?_)
    refine ifV_p (by omega) ?_
    refine T_atStep hp okX fun h10 hp => ?_
    have st := At.step_ok okX okB
    obtain ⟨wr', an, fl, on, off, ovr, nx⟩ := ph.step okX okB hov e0 thr
    rw [e0]
    generalize X.step B = Z at hp st thr w an on off ovr nx fl
    obtain ⟨y, _, C⟩ := Z
    simp only at hp st thr w an on off ovr nx fl
    (repeat first|refine wx ?_|refine wy ?_|refine wz ?_|refine wv ?_|refine wh ?_)
    refine T_atThrough (hp.up 1) ?_
    (repeat first|refine wx ?_|refine wy ?_|refine wz ?_|refine wv ?_|refine wh ?_)
    refine T_Last hp ?_
    rw [an]
    (repeat first|refine wx ?_|refine wy ?_|refine wz ?_|refine wv ?_|refine wh ?_)
    have hl8 : (C.last.map i64).length = 8 := by rw [List.length_map]; exact st.2.touch
    have hones : (C.last.map i64).all oneCell = true := (good_ints (size := 8) st.2.touch).2
    refine nwst hp (.row 45 (C.last.map i64) 8 true) hl8 rfl hones (by rfl) fun d1 h11 hp => ?_
    refine T_Num ?_
    (repeat first|refine wx ?_|refine wy ?_|refine wz ?_|refine wv ?_|refine wh ?_)
    have lst : ∀ j : Nat, j < 8 → (C.last.map i64)[0 + j]? = some (i64 (C.last.getD j 0)) := fun j hj => by
      have := st.2.touch
      rw [Nat.zero_add, List.getElem?_map, List.getD_eq_getElem?_getD, List.getElem?_eq_getElem (by omega)]; rfl
    unfold S4_j3
    refine bnd_of rfl ?_
    refine ld0 hp (lst 1 (by decide)) ?_
    have key : ∀ s1, S4_j4 s1 (ptr a) (i64 k) (i64 gn) (ptr tb) (.bool wr') (i64 i) (.bool y.over) (i64 y.ts) (i64 y.tg) (ptr d1) h11 K Y := by
      intro s1
      have fin : wr' = true ∨ y.over = false → S4_j5 s1 (ptr a) (i64 k) (i64 gn) (ptr tb) (.bool wr') (i64 i) (.bool y.over) h11 K Y := by
        intro hw
        unfold S4_j5
        cases hy : y.over with
        | true =>
          rw [ovr hy]
          (repeat first|refine wx ?_|refine wy ?_|refine wz ?_|refine wv ?_|refine wh ?_)
          refine T_atWon (hp.up 2) ?_
          obtain ⟨_, e1, _⟩ := w.stop hy
          rw [← e1, f2]
          exact hK _
        | false =>
          (repeat first|refine wx ?_|refine wy ?_|refine wz ?_|refine wv ?_|refine wh ?_)
          exact again (i + 1, y, C, wr') _ ⟨by simp only; omega, st.1, st.2, ⟨m3, w, by simp only; omega⟩, hy, nx hy, by rw [thr.1]; exact hsl, by rw [thr.2.1]; exact hgn, hp.tail⟩ (by simp only; omega)
      unfold S4_j4
      cases hw : wr' with
      | true =>
        obtain ⟨o1, o2⟩ := on hw
        rw [o1, o2, hsl, hgn]
        rw [hw] at fin
        (repeat first|refine wx ?_|refine wy ?_|refine wz ?_|refine wv ?_|refine wh ?_)
        rw [decide_eq_true rfl]
        (repeat first|refine wx ?_|refine wy ?_|refine wz ?_|refine wv ?_|refine wh ?_)
        rw [decide_eq_true rfl]
        (repeat first|refine wx ?_|refine wy ?_|refine wz ?_|refine wv ?_|refine wh ?_)
        exact fin (.inl rfl)
      | false =>
        obtain ⟨o1, o2, o3, o4, o5⟩ := off hw
        have hy : y.over = false := by
          cases hy : y.over with
          | true => have := ovr hy; rw [hw] at this; cases this
          | false => rfl
        rw [o1, o2]
        rw [hw] at fin
        (repeat first|refine wx ?_|refine wy ?_|refine wz ?_|refine wv ?_|refine wh ?_)
        refine ld0 hp (lst 1 (by decide)) ?_
        rw [o3]
        (repeat first|refine wx ?_|refine wy ?_|refine wz ?_|refine wv ?_|refine wh ?_)
        refine ld0 hp (lst 2 (by decide)) ?_
        (repeat first|refine wx ?_|refine wy ?_|refine wz ?_|refine wv ?_|refine wh ?_)
        refine ifV_n (by omega) ?_
        exact fin (.inr hy)
    (repeat first|refine wx ?_|refine wy ?_|refine wz ?_|refine wv ?_|refine wh ?_)
    refine ifV_cases (fun ck => ?_) fun ck => ?_
    · have : wr' = true := by rw [fl, ck]; simp
      rw [← this]
      exact key _
    · have : wr' = wr := by rw [fl, decide_eq_false ck]; simp
      rw [← this]
      exact key _
end
end Go.Proofs.YtlmafbdhhneokaaGreat
