/- Several texts in one, each under its own remark or none; nothing here is a statement on the program. -/
import Derived.Test.YtnhiagemjonglaaGreatKZ
import Derived.Test.YtnhiagemjonglaaGreatKF
namespace Go.Proofs.YtnhiagemjonglaaGreat
open Go GW Go.Proofs
set_option linter.unusedVariables false
set_option linter.unusedSimpArgs false
inductive Ago : At → Ar → Nat → At → Ar → Prop
  | refl (x : At) (A : Ar) : Ago x A 0 x A
  | step {x : At} {A : Ar} {n : Nat} {x' : At} {A' : Ar} : x.over = false → (x.step A).2.1 = 0 → Ago (x.step A).1 (x.step A).2.2 n x' A' → Ago x A (n + 1) x' A'
theorem Ago.trans {x : At} {A : Ar} {n : Nat} {x1 : At} {A1 : Ar} (a : Ago x A n x1 A1) : ∀ {m : Nat} {x2 : At} {A2 : Ar}, Ago x1 A1 m x2 A2 → Ago x A (n + m) x2 A2 := by
  induction a with
  | refl => intro m x2 A2 b; rw [Nat.zero_add]; exact b
  | step h1 h2 _ ih => intro m x2 A2 b; rw [Nat.add_right_comm]; exact .step h1 h2 (ih b)
theorem Ago.one {x x1 : At} {A A1 : Ar} (ho : x.over = false) (h : x.step A = (x1, 0, A1)) : Ago x A 1 x1 A1 := .step ho (by rw [h]) (by rw [h]; exact .refl _ _)
theorem Ago.ok {x : At} {A : Ar} {n : Nat} {x' : At} {A' : Ar} (a : Ago x A n x' A') : x.ok → A.ok → x'.ok ∧ A'.ok := by
  induction a with
  | refl => intro h1 h2; exact ⟨h1, h2⟩
  | step _ _ _ ih => intro h1 h2; have := At.step_ok h1 h2; exact ih this.1 this.2
theorem Ago.stop {x : At} {A : Ar} {n : Nat} {x' : At} {A' : Ar} (a : Ago x A n x' A') (h : x.over = true) : n = 0 ∧ x' = x ∧ A' = A := by
  cases a with
  | refl => exact ⟨rfl, rfl, rfl⟩
  | step q _ _ => rw [h] at q; cases q
/-- what does not change while it writes -/
structure At.Same (x y : At) : Prop where
  over : y.over = false
  t : y.t = x.t
  q : y.q = x.q
  slot : y.slot = x.slot
  gen : y.gen = x.gen
  ops : y.ops = x.ops
  won : y.won = x.won
  ans : y.ans = x.ans
theorem At.step_wr {x : At} {A : Ar} {w : Wr} (ho : x.over = false) (hs : x.st = .wr w) : x.step A = ({ x with ts := x.slot, tg := x.gen, st := if (w.step A).2.1 then .hp (.new x.t x.q (.who (.new x.slot x.gen))) else .wr (w.step A).1 }, 0, (w.step A).2.2) := by
  unfold At.step
  rw [if_neg (by rw [ho]; decide), hs]
theorem Ago.wr : ∀ (l1 : List Int) {l2 : List Int} {a : Int} {x : At} {A : Ar}, x.over = false → x.st = .wr ⟨a, l1 ++ l2⟩ → l2 ≠ [] → ∃ y, Ago x A l1.length y (putRow a l1 A) ∧ y.st = .wr ⟨a + l1.length, l2⟩ ∧ x.Same y := by
  intro l1
  induction l1 with
  | nil => intro l2 a x A ho hs _; exact ⟨x, .refl _ _, by rw [hs]; simp, ⟨ho, rfl, rfl, rfl, rfl, rfl, rfl, rfl⟩⟩
  | cons v l1 ih =>
    intro l2 a x A ho hs hn
    have e := At.step_wr (A := A) ho hs
    have e0 : ((v :: l1) ++ l2 : List Int) = v :: (l1 ++ l2) := rfl
    have e1 : (⟨a, (v :: l1) ++ l2⟩ : Wr).step A = (⟨a + 1, l1 ++ l2⟩, false, A.put a v) := by
      unfold Wr.step
      simp only [e0]
      have : (l1 ++ l2).isEmpty = false := by cases l1 with
        | nil => cases l2 with
          | nil => exact absurd rfl hn
          | cons _ _ => rfl
        | cons _ _ => rfl
      rw [this]
    rw [e1] at e
    obtain ⟨y, k1, k2, k3⟩ := ih (x := { x with ts := x.slot, tg := x.gen, st := .wr ⟨a + 1, l1 ++ l2⟩ }) (A := A.put a v) ho rfl hn
    have k0 := Ago.one ho e
    refine ⟨y, ?_, ?_, ⟨k3.over, k3.t, k3.q, k3.slot, k3.gen, k3.ops, k3.won, k3.ans⟩⟩
    · have := k0.trans k1
      rw [List.length_cons, Nat.add_comm]; exact this
    · rw [k2, List.length_cons]; congr 2; omega
theorem Ago.wrAll {l : List Int} {a : Int} {x : At} {A : Ar} (ho : x.over = false) (hs : x.st = .wr ⟨a, l⟩) (hn : l ≠ []) : ∃ y, Ago x A l.length y (putRow a l A) ∧ y.st = .hp (.new x.t x.q (.who (.new x.slot x.gen))) ∧ x.Same y := by
  obtain ⟨l1, v, rfl⟩ : ∃ l1 v, l = l1 ++ [v] := ⟨l.dropLast, l.getLast hn, (List.dropLast_concat_getLast hn).symm⟩
  obtain ⟨y, k1, k2, k3⟩ := Ago.wr l1 (l2 := [v]) (A := A) ho hs (by simp)
  have e := At.step_wr (A := putRow a l1 A) k3.over k2
  have e1 : (⟨a + l1.length, [v]⟩ : Wr).step (putRow a l1 A) = (⟨a + l1.length + 1, []⟩, true, (putRow a l1 A).put (a + l1.length) v) := rfl
  rw [e1] at e
  have k4 := Ago.one k3.over e
  refine ⟨{ y with ts := y.slot, tg := y.gen, st := .hp (.new y.t y.q (.who (.new y.slot y.gen))) }, ?_, ?_, ⟨k3.over, k3.t, k3.q, k3.slot, k3.gen, k3.ops, k3.won, k3.ans⟩⟩
  · have := k1.trans k4
    have e2 : putRow a (l1 ++ [v]) A = (putRow a l1 A).put (a + l1.length) v := by
      clear hs hn k1 k2 k3 k4 e e1 this
      induction l1 generalizing a A with
      | nil => show A.put a v = A.put (a + ((0 : Nat) : Int)) v; rw [Int.natCast_zero, Int.add_zero]
      | cons u l1 ih =>
        show putRow (a + 1) (l1 ++ [v]) (A.put a u) = _
        rw [ih]
        show (putRow (a + 1) l1 (A.put a u)).put _ v = (putRow (a + 1) l1 (A.put a u)).put _ v
        congr 1; simp only [List.length_cons]; omega
    rw [e2, List.length_append]; exact this
  · simp only [k3.t, k3.q, k3.slot, k3.gen]
theorem At.step_hp {x : At} {A : Ar} {H : Help} (ho : x.over = false) (hs : x.st = .hp H) (h0 : (H.step A).2.1 = 0) : x.step A = ({ x with q := (H.step A).1.q, ts := (H.step A).1.slot, tg := (H.step A).1.gen, st := .hp (H.step A).1, over := (H.step A).1.over, won := (H.step A).1.over && (H.step A).1.won }, 0, (H.step A).2.2) := by
  unfold At.step
  rw [if_neg (by rw [ho]; decide), hs]
  simp only [h0]
  rfl
def At.helped (x : At) (H : Help) : At := { x with q := H.q, ts := H.slot, tg := H.gen, st := .hp H, over := H.over, won := H.over && H.won }
theorem Ago.help {H : Help} {A : Ar} {n : Nat} {H' : Help} {A' : Ar} (a : Goes H A n H' A') : ∀ {x : At}, 0 < n → x.over = false → x.st = .hp H → Ago x A n (x.helped H') A' := by
  induction a with
  | refl => intro x h; omega
  | @step H A n H' A' h1 h2 h3 ih =>
    intro x _ ho hs
    have e := At.step_hp (A := A) ho hs h2
    refine .step ho (by rw [e]) ?_
    rw [e]
    cases n with
    | zero => cases h3; exact .refl _ _
    | succ n =>
      have hov : (H.step A).1.over = false := by cases h3 with | step a _ _ => exact a
      exact ih (x := x.helped (H.step A).1) (by omega) hov rfl
/-- a read of a value -/
theorem At.step_rd {x : At} {A : Ar} {v : Vw} {t q c y : Int} (ho : x.over = false) (hs : x.st = .rd (.new t q c) v) (hp : plainOf (A.at c) = some y) : x.step A = ({ x with q := q, ts := -1, tg := 0, st := .rd ⟨t, q, c, y, none, -1, 0, true⟩ v }.known v c y, 0, A.ld c) := by
  have e : (Rd.new t q c).step A = (⟨t, q, c, y, none, -1, 0, true⟩, 0, A.ld c) := by
    unfold Rd.step
    simp only [Rd.new, Bool.false_eq_true, if_false]
    unfold Rd.load
    simp only [hp]
  unfold At.step
  rw [if_neg (by rw [ho]; decide), hs]
  simp only [e]
  rfl
end Go.Proofs.YtnhiagemjonglaaGreat
namespace Go.Proofs.YtnhiagemjonglaaGreat
open Go GW Go.Proofs
set_option linter.unusedVariables false
set_option linter.unusedSimpArgs false
set_option maxRecDepth 20000
def staleB (p z : Nat) : Bool :=
  let m := (vwZ.know 0 (101 + p)).do_ [⟨3, 0, 0, z⟩]
  m.need == none && m.ans.map Answer.ints == [[0, 100 + (p : Int) - z]] && m.view.rows.map (fun s => [s.c, s.w, s.n]) == [[0, 101 + (p : Int), 101 + (p : Int) - z]]
theorem staleB_all : ∀ p : Fin 64, ∀ z : Fin 64, staleB p.val z.val = true := by decide +kernel
theorem stale_do {p z : Int} (p0 : 100 ≤ p) (p1 : p < 164) (z0 : 0 ≤ z) (z1 : z < 64) : ((vwZ.know 0 (p + 1)).do_ [⟨3, 0, 0, z⟩]).need = none ∧ ((vwZ.know 0 (p + 1)).do_ [⟨3, 0, 0, z⟩]).ans = [⟨0, p - z⟩] ∧ ((vwZ.know 0 (p + 1)).do_ [⟨3, 0, 0, z⟩]).view.rows = [⟨0, p + 1, p + 1 - z⟩] := by
  have h := staleB_all ⟨(p - 100).toNat, by omega⟩ ⟨z.toNat, by omega⟩
  unfold staleB at h
  simp only [Bool.and_eq_true, beq_iff_eq] at h
  rw [show (101 + (((p - 100).toNat : Nat) : Int)) = p + 1 by omega, show ((z.toNat : Nat) : Int) = z by omega, show (100 + (((p - 100).toNat : Nat) : Int)) = p by omega] at h
  obtain ⟨⟨h1, h2⟩, h3⟩ := h
  refine ⟨h1, ?_, ?_⟩
  · match e : ((vwZ.know 0 (p + 1)).do_ [⟨3, 0, 0, z⟩]).ans, h2 with
    | [⟨a, b⟩], h2 => simp [Answer.ints] at h2; rw [h2.1, h2.2]
  · match e : ((vwZ.know 0 (p + 1)).do_ [⟨3, 0, 0, z⟩]).view.rows, h3 with
    | [⟨a, b, c⟩], h3 => simp at h3; rw [h3.1, h3.2.1, h3.2.2]
section
variable {p z v : Int} {A : Ar}
def stDs (p z : Int) : List Sw := [⟨0, p + 1, p + 1 - z⟩]
def st0w : Wh := Wh.new 3 1
def st1w : Wh := { st0w with opn := true, won := false, pc := 2 }
def st2w : Wh := { st1w with k := 1, i := 0, pc := 3 }
def st3w : Wh := { st2w with cell := 0, pc := 4 }
def st4w (p : Int) : Wh := { st3w with was := (p + 1) * 4, pc := 5 }
def stH : Help := .new 1 0 (.who st0w)
/-- it goes on to its end, and loses -/
def Tl (v : Int) (n : Nat) (H : Help) (A : Ar) : Prop := ∃ m H' A', 0 < m ∧ m ≤ n ∧ Goes H A m H' A' ∧ H'.over = true ∧ H'.won = false ∧ A'.at 0 = v * 4
theorem Tl.pre {H H1 : Help} {A1 : Ar} {n : Nat} (a : Goes H A 1 H1 A1) (b : Tl v n H1 A1) : Tl v (n + 1) H A := by
  obtain ⟨m, H', A', h0, h1, h2, h3⟩ := b
  exact ⟨1 + m, H', A', by omega, by omega, a.trans h2, h3⟩
theorem Tl4 (o : On A (st4w p) 0 (stDs p z)) (hv : A.at 0 = v * 4) (v0 : 0 ≤ v) (v1 : v < 1000) (hn : v ≠ p + 1) : Tl v 7 (stH.at 0 (st4w p)) A := by
  obtain ⟨w', A1, f1, o1, s1, g1, p1, r1⟩ := lose_swap (t := 1) (q := 0) o rfl (show (0 : Int) ≤ 0 by decide) (show (0 : Int) < 16 by decide) (show (0 : Int) ≤ 0 by decide) (show (0 : Int) < 16 by decide) v0 (by omega) hv (show v * 4 ≠ (p + 1) * 4 by omega) (by decide) (by decide) (by decide) (by decide)
  have k1 := f1.goes (H := stH.at 0 (st4w p)) (by decide) rfl rfl rfl rfl
  obtain ⟨f, A2, k2, o2, c2, r2⟩ := decideAll (s := 3) (g := 1) (H := (stH.at 0 (st4w p)).at ((0 + 1) % 1048576) w') o1 s1 g1 (.inr p1) rfl rfl
  refine ⟨1 + (3 + 3 * 1), _, _, by omega, by omega, k1.trans k2, rfl, ?_, ?_⟩
  · show decide (w'.pc = 8) = false
    rw [p1]; rfl
  · have := c2 0 ⟨0, p + 1, p + 1 - z⟩ rfl
    simp only at this
    rw [r1 0 (by decide) (by decide), hv, if_neg (fun e => mcas_not_val e.symm)] at this
    exact this
theorem Tl3 (o : On A st3w 0 (stDs p z)) (hv : A.at 0 = v * 4) (v0 : 0 ≤ v) (v1 : v < 1000) (hn : v ≠ p + 1) : Tl v 8 (stH.at 0 st3w) A :=
  have a1 := o.ent_addr (k := 0) (d := ⟨0, p + 1, p + 1 - z⟩) rfl (p := 1) (by decide) (by decide)
  Tl.pre ((Fgo.one (step_was (t := 1) (q := 0) (k := 0) o rfl rfl rfl)).goes (H := stH.at 0 st3w) (by decide) rfl rfl rfl rfl) (Tl4 (z := z) (o.ld (i := baseOf st3w.s + (2 + 3 * st3w.i + 1)) (by decide) (by decide) rfl rfl) (by rw [at_ld o.ok (by decide) (by decide) (by decide) (by decide)]; exact hv) v0 v1 hn)
theorem Tl2 (o : On A st2w 0 (stDs p z)) (hv : A.at 0 = v * 4) (v0 : 0 ≤ v) (v1 : v < 1000) (hn : v ≠ p + 1) : Tl v 9 (stH.at 0 st2w) A :=
  Tl.pre ((Fgo.one (step_cell (t := 1) (q := 0) (k := 0) o rfl rfl rfl)).goes (H := stH.at 0 st2w) (by decide) rfl rfl rfl rfl) (Tl3 (z := z) (o.ld (i := baseOf st2w.s + (2 + 3 * st2w.i + 0)) (by decide) (by decide) rfl rfl) (by rw [at_ld o.ok (by decide) (by decide) (by decide) (by decide)]; exact hv) v0 v1 hn)
theorem Tl1 (o : On A st1w 0 (stDs p z)) (hv : A.at 0 = v * 4) (v0 : 0 ≤ v) (v1 : v < 1000) (hn : v ≠ p + 1) : Tl v 10 (stH.at 0 st1w) A :=
  Tl.pre ((Fgo.one (step_count (t := 1) (q := 0) o rfl)).goes (H := stH.at 0 st1w) (by decide) rfl rfl rfl rfl) (Tl2 (z := z) (o.ld (i := baseOf st1w.s + 1) (by decide) (by decide) rfl rfl) (by rw [at_ld o.ok (by decide) (by decide) (by decide) (by decide)]; exact hv) v0 v1 hn)
theorem Tl0 (o : On A st0w 0 (stDs p z)) (hv : A.at 0 = v * 4) (v0 : 0 ≤ v) (v1 : v < 1000) (hn : v ≠ p + 1) : Tl v 11 stH A :=
  Tl.pre ((Fgo.one (step_ask_open (t := 1) (q := 0) o rfl)).goes (H := stH) (by decide) rfl rfl rfl rfl) (Tl1 (z := z) (o.ld (i := baseOf st0w.s) (by decide) (by decide) rfl rfl) (by rw [at_ld o.ok (by decide) (by decide) (by decide) (by decide)]; exact hv) v0 v1 hn)
theorem On.put0 {w : Wh} (o : On A w 0 (stDs p z)) (hx : I64 (v * 4)) : On (A.put 0 (v * 4)) w 0 (stDs p z) :=
  o.keep (o.ok.put _ hx) rfl rfl fun j j0 j1 => by rw [at_put o.ok (by decide) (by decide) (by omega) j1, if_neg (by omega)]
theorem at_put0 (ok : A.ok) : (A.put 0 (v * 4)).at 0 = v * 4 := by rw [at_put ok (by decide) (by decide) (by decide) (by decide), if_pos rfl]
/-- what stands before the word is turned, and behind it -/
def StaleGo (p z v : Int) (k : Nat) (A : Ar) : Prop := ∃ x1 A1 m x' A', Ago (At.new 1 0 3 1 [⟨3, 0, 0, z⟩]) A k x1 A1 ∧ x1.over = false ∧ Ago x1 (A1.put 0 (v * 4)) m x' A' ∧ 0 < m ∧ k + m ≤ 30 ∧ x'.over = true ∧ x'.won = false ∧ x'.ans = [⟨0, p - z⟩] ∧ A'.at 0 = v * 4
theorem stale_go (p0 : 100 ≤ p) (p1 : p < 164) (z0 : 0 ≤ z) (z1 : z < 64) (v0 : 300 ≤ v) (v1 : v < 365) (hA : A.ok) (h0 : A.at 0 = 4 * (p + 1)) {k : Nat} (k0 : 1 ≤ k) (k1 : k ≤ 9) : StaleGo p z v k A := by
  obtain ⟨d1, d2, d3⟩ := stale_do p0 p1 z0 z1
  have hx : I64 (v * 4) := by constructor <;> omega
  have en : needN (vwZ.do_ [⟨3, 0, 0, z⟩]).need = 0 := by
    have h : ∀ z : Fin 64, needN (vwZ.do_ [⟨3, 0, 0, ((z.val : Nat) : Int)⟩]).need = 0 := by decide +kernel
    have := h ⟨z.toNat, by omega⟩
    rw [show ((z.toNat : Nat) : Int) = z by omega] at this; exact this
  -- the read
  have s1 : (At.new 1 0 3 1 [⟨3, 0, 0, z⟩]).step A = (⟨1, 0, 3, 1, [⟨3, 0, 0, z⟩], .wr ⟨184, descRow 1 (stDs p z)⟩, -1, 0, false, false, [⟨0, p - z⟩]⟩, 0, A.ld 0) := by
    rw [At.step_rd (v := vwZ) (t := 1) (q := 0) (c := 0) (y := p + 1) rfl (by show AtSt.rd (.new 1 0 (needN _)) vwZ = _; rw [en]) (by rw [h0, Int.mul_comm]; exact plainOf_val (by omega) (by omega))]
    unfold At.known At.asked
    simp only [At.new, d1, d2, d3]
    rfl
  have a1 := Ago.one (x := At.new 1 0 3 1 [⟨3, 0, 0, z⟩]) rfl s1
  have okA := hA.ld 0
  generalize A.ld 0 = B at a1 okA
  generalize hx1 : (⟨1, 0, 3, 1, [⟨3, 0, 0, z⟩], .wr ⟨184, descRow 1 (stDs p z)⟩, -1, 0, false, false, [⟨0, p - z⟩]⟩ : At) = x1 at a1
  have e1 : x1.over = false ∧ x1.st = .wr ⟨184, descRow 1 (stDs p z)⟩ ∧ x1.t = 1 ∧ x1.q = 0 ∧ x1.slot = 3 ∧ x1.gen = 1 ∧ x1.won = false ∧ x1.ans = [⟨0, p - z⟩] := by subst hx1; exact ⟨rfl, rfl, rfl, rfl, rfl, rfl, rfl, rfl⟩
  clear hx1 s1
  obtain ⟨e1, e2, e3, e4, e5, e6, e7, e8⟩ := e1
  have ms : swMay (stDs p z) = true := by
    refine swMay_of ?_
    unfold stDs swOk swOk
    rw [Bool.and_true, decide_eq_true_eq]
    unfold Sw.fine
    simp only
    omega
  have hr : ∀ x ∈ descRow 1 (stDs p z), I64 x := descRow_range (by decide) (by decide) ms
  have hl : (descRow 1 (stDs p z)).length = 5 := descRow_len _ _
  have onw : ∀ {C : Ar} {w : Wh}, C.ok → w.s = 3 → w.g = 1 → (∀ j : Int, 0 ≤ j → j < 5 → C.at (184 + j) = (descRow 1 (stDs p z)).getD j.toNat 0) → On C w 0 (stDs p z) := by
    intro C w hC ws wg h
    refine ⟨hC, by rw [ws, wg]; exact ⟨by decide, by decide, by decide, by decide⟩, ms, ?_⟩
    rw [ws, wg]
    exact Dsc.of_row fun j j0 j1 => by rw [hl] at j1; exact h j j0 j1
  -- from the helper on
  have last : ∀ {y : At} {C : Ar} {H : Help} {n : Nat}, Tl v n H C → y.over = false → y.st = .hp H → y.ans = [⟨0, p - z⟩] → ∃ m x' A', Ago y C m x' A' ∧ 0 < m ∧ m ≤ n ∧ x'.over = true ∧ x'.won = false ∧ x'.ans = [⟨0, p - z⟩] ∧ A'.at 0 = v * 4 := by
    intro y C H n t ho hs ha
    obtain ⟨m, H', A', m0, m1, g, t1, t2, t3⟩ := t
    exact ⟨m, _, A', Ago.help g m0 ho hs, m0, m1, t1, by show (H'.over && H'.won) = false; rw [t2, Bool.and_false], ha, t3⟩
  by_cases hk : k ≤ 5
  · -- while it writes
    obtain ⟨y, b1, b2, b3⟩ := Ago.wr ((descRow 1 (stDs p z)).take (k - 1)) (l2 := (descRow 1 (stDs p z)).drop (k - 1)) (a := 184) (x := x1) (A := B) e1 (by rw [List.take_append_drop]; exact e2) (fun e => by have := congrArg List.length e; rw [List.length_drop, hl] at this; simp at this; omega)
    have tl : ((descRow 1 (stDs p z)).take (k - 1)).length = k - 1 := by rw [List.length_take, hl]; omega
    rw [tl] at b1 b2
    have okC : (putRow 184 ((descRow 1 (stDs p z)).take (k - 1)) B).ok := putRow_ok okA fun x hx => hr x (List.mem_of_mem_take hx)
    have atC := at_putRow (A := B) okA (fun x hx => hr x (List.mem_of_mem_take hx)) (show (0 : Int) ≤ 184 by decide) (r := (descRow 1 (stDs p z)).take (k - 1)) (by rw [tl]; omega)
    rw [tl] at atC
    generalize putRow 184 ((descRow 1 (stDs p z)).take (k - 1)) B = C at b1 okC atC
    have okD := okC.put 0 hx
    obtain ⟨u, c1, c2, c3⟩ := Ago.wrAll (A := C.put 0 (v * 4)) b3.over b2 (fun e => by have := congrArg List.length e; rw [List.length_drop, hl] at this; simp at this; omega)
    have dl : ((descRow 1 (stDs p z)).drop (k - 1)).length = 5 - (k - 1) := by rw [List.length_drop, hl]
    have rD : ∀ x ∈ (descRow 1 (stDs p z)).drop (k - 1), I64 x := fun x hx => hr x (List.mem_of_mem_drop hx)
    have atD := at_putRow (A := C.put 0 (v * 4)) okD rD (a := 184 + ((k - 1 : Nat) : Int)) (by omega) (by rw [dl]; omega)
    have okE := putRow_ok (a := 184 + ((k - 1 : Nat) : Int)) okD rD
    rw [dl] at c1 atD
    generalize putRow (184 + ((k - 1 : Nat) : Int)) ((descRow 1 (stDs p z)).drop (k - 1)) (C.put 0 (v * 4)) = D at c1 atD okE
    have o : On D st0w 0 (stDs p z) := onw okE rfl rfl fun j j0 j1 => by
      rw [atD _ (by omega) (by omega)]
      split
      · rename_i c
        rw [List.getD_eq_getElem?_getD, List.getElem?_drop, List.getD_eq_getElem?_getD]
        congr 2; omega
      · rename_i c
        rw [at_put okC (by decide) (by decide) (by omega) (by omega), if_neg (by omega), atC _ (by omega) (by omega), if_pos (by omega), List.getD_eq_getElem?_getD, List.getElem?_take, if_pos (by omega), List.getD_eq_getElem?_getD]
        congr 2; omega
    have hc0 : D.at 0 = v * 4 := by rw [atD 0 (by decide) (by decide), if_neg (by omega)]; exact at_put0 okC
    obtain ⟨m, x', A', g1, g2, g3, g4⟩ := last (y := u) (H := stH) (Tl0 o hc0 (by omega) (by omega) (by omega)) c3.over (by rw [c2, b3.t, b3.q, b3.slot, b3.gen, e3, e4, e5, e6]; rfl) (by rw [c3.ans, b3.ans, e8])
    refine ⟨y, C, (5 - (k - 1)) + m, x', A', ?_, b3.over, c1.trans g1, by omega, by omega, g4⟩
    have := a1.trans b1
    rw [show 1 + (k - 1) = k by omega] at this; exact this
  · obtain ⟨y, b1, b2, b3⟩ := Ago.wrAll (x := x1) (A := B) e1 e2 (fun e => by rw [e] at hl; cases hl)
    rw [hl] at b1
    have okC := putRow_ok (a := 184) okA hr
    have atC := at_putRow (A := B) okA hr (show (0 : Int) ≤ 184 by decide) (by rw [hl]; decide)
    rw [hl] at atC
    generalize putRow 184 (descRow 1 (stDs p z)) B = C at b1 okC atC
    have a2 := a1.trans b1
    have hs : y.st = .hp stH := by rw [b2, e3, e4, e5, e6]; rfl
    have o0 : ∀ {w : Wh}, w.s = 3 → w.g = 1 → On C w 0 (stDs p z) := fun ws wg => onw okC ws wg fun j j0 j1 => by
      rw [atC _ (by omega) (by omega), if_pos (by omega)]; congr 1; omega
    have ha : y.ans = [⟨0, p - z⟩] := by rw [b3.ans, e8]
    have fin : ∀ {y' : At} {D : Ar} {H : Help} {n : Nat}, Ago (At.new 1 0 3 1 [⟨3, 0, 0, z⟩]) A k y' D → Tl v n H (D.put 0 (v * 4)) → y'.over = false → y'.st = .hp H → y'.ans = [⟨0, p - z⟩] → n ≤ 20 → StaleGo p z v k A := by
      intro y' D H n g t ho hs ha hn
      obtain ⟨m, x', A', g1, g2, g3, g4⟩ := last t ho hs ha
      exact ⟨y', D, m, x', A', g, ho, g1, g2, by omega, g4⟩
    have w0 : 0 ≤ v := by omega
    have w1 : v < 1000 := by omega
    have w2 : v ≠ p + 1 := by omega
    by_cases h6 : k = 6
    · subst h6
      exact fin a2 (Tl0 (o0 rfl rfl |>.put0 hx) (at_put0 okC) w0 w1 w2) b3.over hs ha (by decide)
    have i1 : On (C.ld (baseOf st0w.s)) st1w 0 (stDs p z) := (o0 (w := st0w) rfl rfl).ld (by decide) (by decide) rfl rfl
    have g1 := (Fgo.one (step_ask_open (t := 1) (q := 0) (o0 (w := st0w) rfl rfl) rfl)).goes (H := stH) (by decide) rfl rfl rfl rfl
    by_cases h7 : k = 7
    · subst h7
      exact fin (a2.trans (Ago.help g1 (by decide) b3.over hs)) (Tl1 (i1.put0 hx) (at_put0 i1.ok) w0 w1 w2) rfl rfl ha (by decide)
    have i2 : On ((C.ld (baseOf st0w.s)).ld (baseOf st1w.s + 1)) st2w 0 (stDs p z) := i1.ld (by decide) (by decide) rfl rfl
    have g2 := g1.trans ((Fgo.one (step_count (t := 1) (q := 0) i1 rfl)).goes (H := stH.at 0 st1w) (by decide) rfl rfl rfl rfl)
    by_cases h8 : k = 8
    · subst h8
      exact fin (a2.trans (Ago.help g2 (by decide) b3.over hs)) (Tl2 (i2.put0 hx) (at_put0 i2.ok) w0 w1 w2) rfl rfl ha (by decide)
    have i3 : On (((C.ld (baseOf st0w.s)).ld (baseOf st1w.s + 1)).ld (baseOf st2w.s + (2 + 3 * st2w.i + 0))) st3w 0 (stDs p z) := i2.ld (by decide) (by decide) rfl rfl
    have g3 := g2.trans ((Fgo.one (step_cell (t := 1) (q := 0) (k := 0) i2 rfl rfl rfl)).goes (H := stH.at 0 st2w) (by decide) rfl rfl rfl rfl)
    have h9 : k = 9 := by omega
    subst h9
    exact fin (a2.trans (Ago.help g3 (by decide) b3.over hs)) (Tl3 (i3.put0 hx) (at_put0 i3.ok) w0 w1 w2) rfl rfl ha (by decide)
end
end Go.Proofs.YtnhiagemjonglaaGreat
namespace Go.Proofs.YtnhiagemjonglaaGreat
open Go GW Go.Proofs
attribute [local irreducible] bnd ldV stV ifV binV eqI
set_option linter.unusedVariables false
set_option linter.unusedSimpArgs false
set_option maxRecDepth 20000
section
variable {R : List Part} {h : GH} {K : Value → GH → Prop}
theorem T_AttemptStale {g : GH} {x y amount late : Int} (hp : All [baseP g] h) (hK : ∀ h', K (.bool true) h') : T Tryz.prog 6 [i64 x, i64 y, i64 amount, i64 late] h K := by
  apply S6_T
  unfold S6
  refine T_aawake hp fun h1 hp => ?_
  (repeat first|refine wx ?_|refine wy ?_|refine wz ?_|refine wv ?_|refine wh ?_)
  refine bnd_of (binV_and_mask x 6 (by decide) (by decide)) ?_
  have x0 : 0 ≤ x % ((2 ^ 6 : Nat) : Int) ∧ x % ((2 ^ 6 : Nat) : Int) < 64 := by omega
  generalize x % ((2 ^ 6 : Nat) : Int) = xx at x0 ⊢
  (repeat first|refine wx ?_|refine wy ?_|refine wz ?_|refine wv ?_|refine wh ?_)
  refine bnd_of (binV_and_mask y 6 (by decide) (by decide)) ?_
  have y0 : 0 ≤ y % ((2 ^ 6 : Nat) : Int) ∧ y % ((2 ^ 6 : Nat) : Int) < 64 := by omega
  generalize y % ((2 ^ 6 : Nat) : Int) = yy at y0 ⊢
  (repeat first|refine wx ?_|refine wy ?_|refine wz ?_|refine wv ?_|refine wh ?_)
  refine bnd_of (binV_and_mask amount 6 (by decide) (by decide)) ?_
  have z0 : 0 ≤ amount % ((2 ^ 6 : Nat) : Int) ∧ amount % ((2 ^ 6 : Nat) : Int) < 64 := by omega
  generalize amount % ((2 ^ 6 : Nat) : Int) = z at z0 ⊢
  (repeat first|refine wx ?_|refine wy ?_|refine wz ?_|refine wv ?_|refine wh ?_)
  have hc : ∀ c ∈ [4 * (100 + xx + 1)], I64 c := fun c hc => by
    rw [List.mem_singleton.1 hc]; constructor <;> omega
  refine bs0 (size := 1) hp ([4 * (100 + xx + 1)].map encI) rfl rfl (by simp) (encI_good _) fun cv h2 hp => ?_
  refine T_shelf (us := []) (cells := [4 * (100 + xx + 1)]) (dss := []) hp (fun h' hp => hp.rows) (fun h' hp => ⟨rowsAt_nil _ _, .nil⟩) hc fun a b h3 hp => ?_
  obtain ⟨hA, hA0, _⟩ := shelf_view (cells := [4 * (100 + xx + 1)]) (dss := []) hc
  have hA1 := hA0 0 (by decide) (by decide)
  clear hA0
  generalize shelfA [4 * (100 + xx + 1)] [] = A at hp hA hA1
  (repeat first|refine wx ?_|refine wy ?_|refine wz ?_|refine wv ?_|refine wh ?_)
  refine bs0 (size := 4) hp ([Op.mk 3 0 0 z].map Op.enc) rfl rfl (by simp) (Op.all_good _) fun ov h4 hp => ?_
  have may : At.may 1 0 3 1 [⟨3, 0, 0, z⟩] := by
    refine ⟨by decide, by decide, by decide, ?_⟩
    have h : ∀ z : Fin 64, Txn.may [⟨3, 0, 0, ((z.val : Nat) : Int)⟩] = true := by decide +kernel
    have := h ⟨z.toNat, by omega⟩
    rw [show ((z.toNat : Nat) : Int) = z by omega] at this; exact this
  refine T_atNew (ops := [⟨3, 0, 0, z⟩]) hp (fun h' hp => hp.rows) (fun m => absurd may m) fun _ tb h5 hp => ?_
  replace hp : All (arP 127 a A :: attP tb (.new 1 0 3 1 [⟨3, 0, 0, z⟩]) :: [baseP g]) h5 := hp.sel [2, 0, 5]
  (repeat first|refine wx ?_|refine wy ?_|refine wz ?_|refine wv ?_|refine wh ?_)
  refine T_Num ?_
  (repeat first|refine wx ?_|refine wy ?_|refine wz ?_|refine wv ?_|refine wh ?_)
  unfold S6_j1
  refine bnd_of (binV_and_mask late 10 (by decide) (by decide)) ?_
  have l0 : 0 ≤ late % ((2 ^ 10 : Nat) : Int) := by omega
  generalize late % ((2 ^ 10 : Nat) : Int) = ll at l0 ⊢
  refine bnd_of (rem_nn l0 (by decide)) ?_
  (repeat first|refine wx ?_|refine wy ?_|refine wz ?_|refine wv ?_|refine wh ?_)
  obtain ⟨k, hk⟩ : ∃ k : Nat, 1 + ll % 9 = (k : Int) := ⟨(1 + ll % 9).toNat, by omega⟩
  rw [hk]
  obtain ⟨x1, A1, m, x', A', g1, gov, g2, m0, m1, f1, f2, f3, f4⟩ := stale_go (p := 100 + xx) (z := z) (v := 300 + yy + 1) (by omega) (by omega) z0.1 z0.2 (by omega) (by omega) hA (by rw [hA1]; rfl) (k := k) (by omega) (by omega)
  have hsv : I64 ((300 + yy + 1) * 4) := by constructor <;> omega
  refine Lfp_fam (ι := Nat × At × Ar) (fun p => [i64 (100 + xx), i64 (300 + yy), i64 z, ptr a, ptr tb, i64 k, .bool p.2.1.over, i64 p.1])
    (fun p h' => p.1 ≤ 60 ∧ p.2.1.ok ∧ p.2.2.ok ∧ ((∃ n, Ago p.2.1 p.2.2 n x1 A1 ∧ p.1 + n = k) ∨ (k < p.1 ∧ ∃ n, Ago p.2.1 p.2.2 n x' A' ∧ p.1 + n ≤ 60)) ∧ All (arP 127 a p.2.2 :: attP tb p.2.1 :: [baseP g]) h')
    (fun p => 60 - p.1) ?_ (0, .new 1 0 3 1 [⟨3, 0, 0, z⟩], A) h5 ⟨by omega, At.new_ok may, hA, .inl ⟨k, g1, by omega⟩, hp⟩
  clear hp
  rintro ⟨i, X, B⟩ h6 Y ⟨hi, okX, okB, way, hp⟩ again
  simp only at hi okX okB way hp
  simp only [tup_zero, tup_succ]
  have fin : X = x' → B = A' → ∀ s1 a1, S6_j4 s1 (i64 (100 + xx)) (i64 (300 + yy)) (i64 z) (ptr a) (ptr tb) (.bool X.over) h6 K a1 := by
    intro e1 e2 s1 a1
    subst e1 e2
    unfold S6_j4
    refine L_Load hp (by decide) (by decide) fun h7 hp => ?_
    rw [f4, f1]
    (repeat first|refine wx ?_|refine wy ?_|refine wz ?_|refine wv ?_|refine wh ?_)
    refine T_atWon (hp.up 1) ?_
    rw [f2]
    (repeat first|refine wx ?_|refine wy ?_|refine wz ?_|refine wv ?_|refine wh ?_)
    refine T_atAnswers (hp.up 1) (by rw [f3]; simp) fun av h8 hp => ?_
    rw [f3] at hp
    (repeat first|refine wx ?_|refine wy ?_|refine wz ?_|refine wv ?_|refine wh ?_)
    refine bs0 (size := 2) hp ([Answer.mk 0 (100 + xx - z)].map Answer.enc) rfl rfl (by simp) (Answer.all_good _) fun bv h9 hp => ?_
    refine T_SameAnswers (All.rows (hp.up 1)) (All.rows hp) ?_
    rw [decide_eq_true rfl]
    (repeat first|refine wx ?_|refine wy ?_|refine wz ?_|refine wv ?_|refine wh ?_)
    refine T_Num ?_
    (repeat first|refine wx ?_|refine wy ?_|refine wz ?_|refine wv ?_|refine wh ?_)
    rw [decide_eq_true (show (300 + yy + 1) * 4 = 4 * (300 + yy + 1) by omega)]
    exact hK _
  (repeat first|refine wx ?_|refine wy ?_|refine wz ?_|refine wv ?_|refine wh ?_)
  refine ifV_cases (fun c => ?_) fun c => ?_
  · cases hov : X.over with
    | true =>
      (repeat first|refine wx ?_|refine wy ?_|refine wz ?_|refine wv ?_|refine wh ?_)
      rw [← hov]
      rcases way with ⟨n, w1, w2⟩ | ⟨_, n, w1, w2⟩
      · obtain ⟨_, e, _⟩ := w1.stop hov
        rw [e, hov] at gov; cases gov
      · obtain ⟨_, e1, e2⟩ := w1.stop hov
        exact fin e1.symm e2.symm _ _
    | false =>
      (repeat first|refine wx ?_|refine wy ?_|refine wz ?_|refine wv ?_|refine wh ?_)
      unfold S6_j2
      (repeat first|refine wx ?_|refine wy ?_|refine wz ?_|refine wv ?_|refine wh ?_)
      -- a step
      have key : ∀ C h', C.ok → All (arP 127 a C :: attP tb X :: [baseP g]) h' → (X.step C).2.1 = 0 → ((∃ n, Ago (X.step C).1 (X.step C).2.2 n x1 A1 ∧ i + 1 + n = k) ∨ (k < i + 1 ∧ ∃ n, Ago (X.step C).1 (X.step C).2.2 n x' A' ∧ i + 1 + n ≤ 60)) → ∀ s1, S6_j3 s1 (i64 (100 + xx)) (i64 (300 + yy)) (i64 z) (ptr a) (ptr tb) (i64 k) (i64 i) h' K Y := by
        intro C h' okC hp e0 hw s1
        unfold S6_j3
        refine T_atStep hp okX fun h10 hp => ?_
        have st := At.step_ok okX okC
        rw [e0]
        (repeat first|refine wx ?_|refine wy ?_|refine wz ?_|refine wv ?_|refine wh ?_)
        refine T_Num ?_
        (repeat first|refine wx ?_|refine wy ?_|refine wz ?_|refine wv ?_|refine wh ?_)
        exact again (i + 1, (X.step C).1, (X.step C).2.2) _ ⟨by simp only; omega, st.1, st.2, hw, hp⟩ (by simp only; omega)
      have step1 : ∀ {C : Ar} {n : Nat} {x2 : At} {A2 : Ar}, Ago X C (n + 1) x2 A2 → (X.step C).2.1 = 0 ∧ Ago (X.step C).1 (X.step C).2.2 n x2 A2 := by
        intro C n x2 A2 w
        cases w with
        | step _ e0 w => exact ⟨e0, w⟩
      rcases way with ⟨n, w1, w2⟩ | ⟨w0, n, w1, w2⟩
      · cases n with
        | zero =>
          have ek : i = k := by omega
          cases w1
          refine ifV_p (by omega) ?_
          (repeat first|refine wx ?_|refine wy ?_|refine wz ?_|refine wv ?_|refine wh ?_)
          refine L_Store hp (by decide) (by decide) (by constructor <;> omega) fun h7 hp => ?_
          rw [show 4 * (300 + yy + 1) = (300 + yy + 1) * 4 by omega] at hp
          cases m with
          | zero => omega
          | succ m =>
            obtain ⟨e0, w⟩ := step1 g2
            exact key _ _ (okB.put _ hsv) hp e0 (.inr ⟨by omega, m, w, by omega⟩) _
        | succ n =>
          refine ifV_n (by omega) ?_
          obtain ⟨e0, w⟩ := step1 w1
          exact key _ _ okB hp e0 (.inl ⟨n, w, by omega⟩) _
      · refine ifV_n (by omega) ?_
        cases n with
        | zero => cases w1; rw [hov] at f1; cases f1
        | succ n =>
          obtain ⟨e0, w⟩ := step1 w1
          exact key _ _ okB hp e0 (.inr ⟨by omega, n, w, by omega⟩) _
  · rcases way with ⟨n, w1, w2⟩ | ⟨w0, n, w1, w2⟩
    · omega
    · have : n = 0 := by omega
      subst this
      cases w1
      exact fin rfl rfl _ _
end
end Go.Proofs.YtnhiagemjonglaaGreat
