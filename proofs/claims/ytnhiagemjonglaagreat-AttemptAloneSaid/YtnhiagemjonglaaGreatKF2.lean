/- An attempt's steps, one behind the other. Nothing here is a statement on the program. -/
import Derived.Test.YtnhiagemjonglaaGreatKZ
import Derived.Test.YtnhiagemjonglaaGreatKF
namespace Go.Proofs.YtnhiagemjonglaaGreat
open Go GW Go.Proofs
set_option linter.unusedVariables false
set_option linter.unusedSimpArgs false
inductive Ago : At → Ar → Nat → At → Ar → Prop
  | refl (x : At) (A : Ar) : Ago x A 0 x A
  | step {x : At} {A : Ar} {n : Nat} {x' : At} {A' : Ar} : x.over = false → (x.step A).2.1 = 0 → Ago (x.step A).1 (x.step A).2.2 n x' A' → Ago x A (n + 1) x' A'
theorem Ago.trans {x : At} {A : Ar} {n : Nat} {x1 : At} {A1 : Ar} (a : Ago x A n x1 A1) : ∀ {m : Nat} {x2 : At} {A2 : Ar}, Ago x1 A1 m x2 A2 → Ago x A (n + m) x2 A2 := by
  induction a with
  | refl => intro m x2 A2 b; rw [Nat.zero_add]; exact b
  | step h1 h2 _ ih => intro m x2 A2 b; rw [Nat.add_right_comm]; exact .step h1 h2 (ih b)
theorem Ago.one {x x1 : At} {A A1 : Ar} (ho : x.over = false) (h : x.step A = (x1, 0, A1)) : Ago x A 1 x1 A1 := .step ho (by rw [h]) (by rw [h]; exact .refl _ _)
theorem Ago.ok {x : At} {A : Ar} {n : Nat} {x' : At} {A' : Ar} (a : Ago x A n x' A') : x.ok → A.ok → x'.ok ∧ A'.ok := by
  induction a with
  | refl => intro h1 h2; exact ⟨h1, h2⟩
  | step _ _ _ ih => intro h1 h2; have := At.step_ok h1 h2; exact ih this.1 this.2
theorem Ago.stop {x : At} {A : Ar} {n : Nat} {x' : At} {A' : Ar} (a : Ago x A n x' A') (h : x.over = true) : n = 0 ∧ x' = x ∧ A' = A := by
  cases a with
  | refl => exact ⟨rfl, rfl, rfl⟩
  | step q _ _ => rw [h] at q; cases q
/-- what does not change while it writes -/
structure At.Same (x y : At) : Prop where
  over : y.over = false
  t : y.t = x.t
  q : y.q = x.q
  slot : y.slot = x.slot
  gen : y.gen = x.gen
  ops : y.ops = x.ops
  won : y.won = x.won
  ans : y.ans = x.ans
theorem At.step_wr {x : At} {A : Ar} {w : Wr} (ho : x.over = false) (hs : x.st = .wr w) : x.step A = ({ x with ts := x.slot, tg := x.gen, st := if (w.step A).2.1 then .hp (.new x.t x.q (.who (.new x.slot x.gen))) else .wr (w.step A).1 }, 0, (w.step A).2.2) := by
  unfold At.step
  rw [if_neg (by rw [ho]; decide), hs]
theorem Ago.wr : ∀ (l1 : List Int) {l2 : List Int} {a : Int} {x : At} {A : Ar}, x.over = false → x.st = .wr ⟨a, l1 ++ l2⟩ → l2 ≠ [] → ∃ y, Ago x A l1.length y (putRow a l1 A) ∧ y.st = .wr ⟨a + l1.length, l2⟩ ∧ x.Same y := by
  intro l1
  induction l1 with
  | nil => intro l2 a x A ho hs _; exact ⟨x, .refl _ _, by rw [hs]; simp, ⟨ho, rfl, rfl, rfl, rfl, rfl, rfl, rfl⟩⟩
  | cons v l1 ih =>
    intro l2 a x A ho hs hn
    have e := At.step_wr (A := A) ho hs
    have e0 : ((v :: l1) ++ l2 : List Int) = v :: (l1 ++ l2) := rfl
    have e1 : (⟨a, (v :: l1) ++ l2⟩ : Wr).step A = (⟨a + 1, l1 ++ l2⟩, false, A.put a v) := by
      unfold Wr.step
      simp only [e0]
      have : (l1 ++ l2).isEmpty = false := by cases l1 with
        | nil => cases l2 with
          | nil => exact absurd rfl hn
          | cons _ _ => rfl
        | cons _ _ => rfl
      rw [this]
    rw [e1] at e
    obtain ⟨y, k1, k2, k3⟩ := ih (x := { x with ts := x.slot, tg := x.gen, st := .wr ⟨a + 1, l1 ++ l2⟩ }) (A := A.put a v) ho rfl hn
    have k0 := Ago.one ho e
    refine ⟨y, ?_, ?_, ⟨k3.over, k3.t, k3.q, k3.slot, k3.gen, k3.ops, k3.won, k3.ans⟩⟩
    · have := k0.trans k1
      rw [List.length_cons, Nat.add_comm]; exact this
    · rw [k2, List.length_cons]; congr 2; omega
theorem Ago.wrAll {l : List Int} {a : Int} {x : At} {A : Ar} (ho : x.over = false) (hs : x.st = .wr ⟨a, l⟩) (hn : l ≠ []) : ∃ y, Ago x A l.length y (putRow a l A) ∧ y.st = .hp (.new x.t x.q (.who (.new x.slot x.gen))) ∧ x.Same y := by
  obtain ⟨l1, v, rfl⟩ : ∃ l1 v, l = l1 ++ [v] := ⟨l.dropLast, l.getLast hn, (List.dropLast_concat_getLast hn).symm⟩
  obtain ⟨y, k1, k2, k3⟩ := Ago.wr l1 (l2 := [v]) (A := A) ho hs (by simp)
  have e := At.step_wr (A := putRow a l1 A) k3.over k2
  have e1 : (⟨a + l1.length, [v]⟩ : Wr).step (putRow a l1 A) = (⟨a + l1.length + 1, []⟩, true, (putRow a l1 A).put (a + l1.length) v) := rfl
  rw [e1] at e
  have k4 := Ago.one k3.over e
  refine ⟨{ y with ts := y.slot, tg := y.gen, st := .hp (.new y.t y.q (.who (.new y.slot y.gen))) }, ?_, ?_, ⟨k3.over, k3.t, k3.q, k3.slot, k3.gen, k3.ops, k3.won, k3.ans⟩⟩
  · have := k1.trans k4
    have e2 : putRow a (l1 ++ [v]) A = (putRow a l1 A).put (a + l1.length) v := by
      clear hs hn k1 k2 k3 k4 e e1 this
      induction l1 generalizing a A with
      | nil => show A.put a v = A.put (a + ((0 : Nat) : Int)) v; rw [Int.natCast_zero, Int.add_zero]
      | cons u l1 ih =>
        show putRow (a + 1) (l1 ++ [v]) (A.put a u) = _
        rw [ih]
        show (putRow (a + 1) l1 (A.put a u)).put _ v = (putRow (a + 1) l1 (A.put a u)).put _ v
        congr 1; simp only [List.length_cons]; omega
    rw [e2, List.length_append]; exact this
  · simp only [k3.t, k3.q, k3.slot, k3.gen]
theorem At.step_hp {x : At} {A : Ar} {H : Help} (ho : x.over = false) (hs : x.st = .hp H) (h0 : (H.step A).2.1 = 0) : x.step A = ({ x with q := (H.step A).1.q, ts := (H.step A).1.slot, tg := (H.step A).1.gen, st := .hp (H.step A).1, over := (H.step A).1.over, won := (H.step A).1.over && (H.step A).1.won }, 0, (H.step A).2.2) := by
  unfold At.step
  rw [if_neg (by rw [ho]; decide), hs]
  simp only [h0]
  rfl
def At.helped (x : At) (H : Help) : At := { x with q := H.q, ts := H.slot, tg := H.gen, st := .hp H, over := H.over, won := H.over && H.won }
theorem Ago.help {H : Help} {A : Ar} {n : Nat} {H' : Help} {A' : Ar} (a : Goes H A n H' A') : ∀ {x : At}, 0 < n → x.over = false → x.st = .hp H → Ago x A n (x.helped H') A' := by
  induction a with
  | refl => intro x h; omega
  | @step H A n H' A' h1 h2 h3 ih =>
    intro x _ ho hs
    have e := At.step_hp (A := A) ho hs h2
    refine .step ho (by rw [e]) ?_
    rw [e]
    cases n with
    | zero => cases h3; exact .refl _ _
    | succ n =>
      have hov : (H.step A).1.over = false := by cases h3 with | step a _ _ => exact a
      exact ih (x := x.helped (H.step A).1) (by omega) hov rfl
/-- a read of a value -/
theorem At.step_rd {x : At} {A : Ar} {v : Vw} {t q c y : Int} (ho : x.over = false) (hs : x.st = .rd (.new t q c) v) (hp : plainOf (A.at c) = some y) : x.step A = ({ x with q := q, ts := -1, tg := 0, st := .rd ⟨t, q, c, y, none, -1, 0, true⟩ v }.known v c y, 0, A.ld c) := by
  have e : (Rd.new t q c).step A = (⟨t, q, c, y, none, -1, 0, true⟩, 0, A.ld c) := by
    unfold Rd.step
    simp only [Rd.new, Bool.false_eq_true, if_false]
    unfold Rd.load
    simp only [hp]
  unfold At.step
  rw [if_neg (by rw [ho]; decide), hs]
  simp only [e]
  rfl
end Go.Proofs.YtnhiagemjonglaaGreat
