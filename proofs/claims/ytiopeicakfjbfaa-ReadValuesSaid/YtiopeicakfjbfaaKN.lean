/- Several texts in one, each under its own remark or none; nothing here is a statement on the program. -/
import Derived.Test.YtiopeicakfjbfaaKR
namespace Go.Proofs.Ytiopeicakfjbfaa
open Go GW Go.Proofs
set_option linter.unusedVariables false
set_option linter.unusedSimpArgs false
/-- so many steps without an error; none of them is made when it is over -/
inductive Rgo : Rd → Ar → Nat → Rd → Ar → Prop
  | refl (r : Rd) (A : Ar) : Rgo r A 0 r A
  | step {r : Rd} {A : Ar} {n : Nat} {r' : Rd} {A' : Ar} : r.over = false → (r.step A).2.1 = 0 → Rgo (r.step A).1 (r.step A).2.2 n r' A' → Rgo r A (n + 1) r' A'
theorem Rgo.trans {r : Rd} {A : Ar} {n : Nat} {r1 : Rd} {A1 : Ar} (a : Rgo r A n r1 A1) : ∀ {m : Nat} {r2 : Rd} {A2 : Ar}, Rgo r1 A1 m r2 A2 → Rgo r A (n + m) r2 A2 := by
  induction a with
  | refl => intro m r2 A2 b; rw [Nat.zero_add]; exact b
  | step h1 h2 _ ih => intro m r2 A2 b; rw [Nat.add_right_comm]; exact .step h1 h2 (ih b)
theorem Rgo.runs {r : Rd} {A : Ar} {n : Nat} {r' : Rd} {A' : Ar} (a : Rgo r A n r' A') (ho : r'.over = true) : ∀ {N : Nat}, n ≤ N → 0 < n → rruns N r A false = some (r', A', true) := by
  induction a with
  | refl => intro N _ h; omega
  | @step r A n r' A' h1 h2 h3 ih =>
    intro N hN _
    obtain ⟨N, rfl⟩ : ∃ N', N = N' + 1 := ⟨N - 1, by omega⟩
    unfold rruns
    simp only [h2]
    cases n with
    | zero =>
      cases h3
      rw [ho]
      cases N <;> (unfold rruns; rfl)
    | succ n =>
      have hov : (r.step A).1.over = false := by cases h3 with | step a _ _ => exact a
      rw [hov, ih ho (by omega) (by omega)]
theorem Rgo.ok {r : Rd} {A : Ar} {n : Nat} {r' : Rd} {A' : Ar} (a : Rgo r A n r' A') : r.ok → A.ok → r'.ok ∧ A'.ok := by
  induction a with
  | refl => intro h1 h2; exact ⟨h1, h2⟩
  | step _ _ _ ih => intro h1 h2; have := Rd.step_ok h1 h2; exact ih this.1 this.2
/-- a helper that comes to its end -/
theorem Goes.reads {H : Help} {A : Ar} {n : Nat} {H' : Help} {A' : Ar} (a : Goes H A n H' A') (ho : H'.over = true) : ∀ {r : Rd}, 0 < n → r.over = false → r.help = some H → Rgo r A n { r with help := none, slot := H'.slot, gen := H'.gen, q := H'.q } A' := by
  induction a with
  | refl => intro r h; omega
  | @step H A n H' A' h1 h2 h3 ih =>
    intro r _ ro rh
    have hst : r.step A = ({ r with slot := (H.step A).1.slot, gen := (H.step A).1.gen, q := (H.step A).1.q, help := if (H.step A).1.over then none else some (H.step A).1 }, 0, (H.step A).2.2) := by
      unfold Rd.step
      rw [ro, rh]
      simp only [Rd.helping, h2, Bool.false_eq_true, if_false, if_true, decide_true, Bool.not_true]
    refine .step ro (by rw [hst]) ?_
    rw [hst]
    cases n with
    | zero =>
      cases h3
      rw [ho]
      exact .refl _ _
    | succ n =>
      have hov : (H.step A).1.over = false := by cases h3 with | step a _ _ => exact a
      have := ih ho (r := { r with slot := (H.step A).1.slot, gen := (H.step A).1.gen, q := (H.step A).1.q, help := if (H.step A).1.over then none else some (H.step A).1 }) (by omega) ro (by simp only [hov]; rfl)
      exact this
/-- a reader that meets a value when it has no helper -/
theorem Rgo.value {r : Rd} {A : Ar} {v : Int} (ro : r.over = false) (rh : r.help = none) (e : plainOf (A.at r.cell) = some v) : Rgo r A 1 { r with slot := -1, gen := 0, value := v, over := true } (A.ld r.cell) := by
  have hst : r.step A = ({ r with slot := -1, gen := 0, value := v, over := true }, 0, A.ld r.cell) := by
    unfold Rd.step
    rw [ro, rh]
    simp only [Rd.load, e, rh, Bool.false_eq_true, if_false]
  refine .step ro (by rw [hst]) ?_
  rw [hst]; exact .refl _ _
theorem Rgo.meets {r : Rd} {A : Ar} {H : Help} (ro : r.over = false) (rh : r.help = none) (e : plainOf (A.at r.cell) = none) (eh : newHelp r.t r.q (A.at r.cell) = some H) : Rgo r A 1 { r with slot := -1, gen := 0, help := some H } (A.ld r.cell) := by
  have hst : r.step A = ({ r with slot := -1, gen := 0, help := some H }, 0, A.ld r.cell) := by
    unfold Rd.step
    rw [ro, rh]
    simp only [Rd.load, e, eh, ro, Bool.false_eq_true, if_false]
  refine .step ro (by rw [hst]) ?_
  rw [hst]; exact .refl _ _
/-- a helper alone of one cell that its descriptor holds -/
theorem mine_end {A : Ar} {s t : Int} {d : Sw} (hA : A.ok) (D : Dsc A 0 1 s [d]) (hm : swMay [d] = true) (hs : s = 0 ∨ s = 1 ∨ s = 2) (hv : A.at d.c = (Form.mcas 0 1).number) (t0 : 0 ≤ t) (t1 : t < 4) :
    ∃ n H' A', Goes (Help.fresh t 0 0) A n H' A' ∧ 0 < n ∧ n ≤ 20 ∧ H'.over = true ∧ A'.at d.c = (if s = 2 then d.w else d.n) * 4 := by
  have o : On A (Wh.new 0 1) s [d] := ⟨hA, ⟨by decide, by decide, by decide, by decide⟩, hm, D⟩
  have md := sw_mem hm (i := 0) (d := d) rfl
  rcases hs with rfl | hs
  · obtain ⟨w1, A1, k1, o1, s1, g1, i1, n1, p1, r1⟩ := opens (s := 0) (g := 1) (H := Help.fresh t 0 0) o rfl rfl rfl rfl rfl
    obtain ⟨w2, A2, f2, o2, i2, n2, s2, g2, p2, r2⟩ := acq_mine (t := t) (q := 0) (k := 0) o1 (by rw [p1]; rfl) i1 n1 (d := d) rfl (by rw [r1 _ md.1 (by omega), s1, g1]; exact hv) t0 t1 (by decide) (by decide)
    have k2 := f2.goes (H := (Help.fresh t 0 0).at 0 w1) (by decide) rfl rfl rfl rfl
    have p2' : w2.pc = 8 := by rw [p2]; rfl
    obtain ⟨f, A3, k3, o3, c3, r3⟩ := decideAll (s := 0) (g := 1) (H := ((Help.fresh t 0 0).at 0 w1).at ((0 + 1) % 1048576) w2) o2 (by rw [s2, s1]) (by rw [g2, g1]) (.inl p2') rfl rfl
    refine ⟨_, _, A3, (k1.trans k2).trans k3, by simp, by simp, rfl, ?_⟩
    rw [c3 0 d rfl, r2 _ md.1 (by omega), r1 _ md.1 (by omega), if_pos hv, if_pos p2', if_neg (by decide)]
  · obtain ⟨f, A3, k3, o3, c3, r3⟩ := finish (s := 0) (g := 1) (H := Help.fresh t 0 0) o rfl rfl rfl hs rfl rfl
    refine ⟨_, _, A3, k3, by simp, by simp, rfl, ?_⟩
    rw [c3 0 d rfl, if_pos hv]
    rcases hs with rfl | rfl <;> rfl
/-- a reader alone of such a cell -/
theorem reads_mine {A : Ar} {s t : Int} {d : Sw} (hA : A.ok) (D : Dsc A 0 1 s [d]) (hm : swMay [d] = true) (hs : s = 0 ∨ s = 1 ∨ s = 2) (hv : A.at d.c = (Form.mcas 0 1).number) (t0 : 0 ≤ t) (t1 : t < 4) :
    ∃ n r' A', Rgo (Rd.new t 0 d.c) A n r' A' ∧ 0 < n ∧ n ≤ 22 ∧ r'.over = true ∧ r'.value = (if s = 2 then d.w else d.n) ∧ A'.at d.c = (if s = 2 then d.w else d.n) * 4 := by
  have md := sw_mem hm (i := 0) (d := d) rfl
  have hrd : read (A.at d.c) = some (.mcas 0 1) := by rw [hv]; rfl
  have hp : plainOf (A.at d.c) = none := by unfold plainOf; rw [hrd]
  have hh : newHelp t 0 (A.at d.c) = some (Help.fresh t 0 0) := by
    unfold newHelp; rw [hrd]
    show (if 0 ≤ t ∧ t < 4 ∧ (0 : Int) ≤ 0 ∧ (0 : Int) < 1048576 then _ else _) = _
    rw [if_pos ⟨t0, t1, by decide, by decide⟩]; rfl
  have g1 := Rgo.meets (r := Rd.new t 0 d.c) rfl rfl hp hh
  have hA1 := hA.ld d.c
  have e1 : ∀ j, 0 ≤ j → j < 634 → (A.ld d.c).at j = A.at j := fun j j0 j1 => at_ld hA md.1 (by omega) j0 j1
  have D1 : Dsc (A.ld d.c) 0 1 s [d] := D.keep hm fun j h0 h1 => e1 j (by have : baseOf 0 = 34 := rfl; omega) (by have : baseOf 0 = 34 := rfl; omega)
  obtain ⟨n, H', A', g, n0, n1, ho, hc⟩ := mine_end (t := t) hA1 D1 hm hs (by rw [e1 _ md.1 (by omega)]; exact hv) t0 t1
  have hA' := (g.ok (fresh_ok (by decide) (by decide) t0 t1 (by decide) (by decide)) hA1).2
  have g2 := g.reads ho (r := { Rd.new t 0 d.c with slot := -1, gen := 0, help := some (Help.fresh t 0 0) }) n0 rfl rfl
  have mv : 0 ≤ (if s = 2 then d.w else d.n) ∧ (if s = 2 then d.w else d.n) < 1099511627776 := by split <;> omega
  have g3 := Rgo.value (r := { Rd.new t 0 d.c with help := none, slot := H'.slot, gen := H'.gen, q := H'.q }) (A := A') (v := if s = 2 then d.w else d.n) rfl rfl (by
    have : A'.at d.c = (if s = 2 then d.w else d.n) * 4 := hc
    show plainOf (A'.at d.c) = _
    rw [this, plainOf_val mv.1 mv.2])
  refine ⟨_, _, _, (g1.trans g2).trans g3, by omega, by omega, rfl, rfl, ?_⟩
  show (A'.ld d.c).at d.c = _
  rw [at_ld hA' md.1 (by omega) md.1 (by omega)]; exact hc
end Go.Proofs.Ytiopeicakfjbfaa
namespace Go.Proofs.Ytiopeicakfjbfaa
open Go GW Go.Proofs
attribute [local irreducible] bnd ldV stV ifV binV eqI
set_option linter.unusedVariables false
set_option linter.unusedSimpArgs false
set_option maxRecDepth 20000
section
variable {R : List Part} {h : GH} {K : Value → GH → Prop}
theorem T_ReadValues {g : GH} {was now state thread : Int} (hp : All [baseP g] h) (hK : ∀ h', K (.bool true) h') : T Try.prog 3 [i64 was, i64 now, i64 state, i64 thread] h K := by
  apply S3_T
  unfold S3
  refine T_rawake hp fun h1 hp => ?_
  (repeat first|(with_reducible first|refine wA ?_|refine wB ?_|refine wC ?_|refine wD ?_|refine wE ?_|refine wF ?_|refine wG ?_|refine wH ?_|refine wI ?_|refine wJ ?_|refine wN ?_|refine wT ?_|refine wU ?_)|((with_reducible refine isB ?_);first|refine wK rfl ?_|refine ld0 hp rfl ?_|refine ld1 hp rfl ?_|refine ld2 hp rfl ?_|refine ld3 hp rfl ?_|refine wP ?_|refine wQ ?_|refine wR ?_)|((with_reducible refine isIf ?_);first|refine wV ?_|refine wW ?_)|((with_reducible refine isHl ?_);first|refine hl0 hp rfl ?_|refine hl1 hp rfl ?_|refine hl2 hp rfl ?_|refine hl3 hp rfl ?_))
  refine bnd_of (binV_and_mask was 10 (by decide) (by decide)) ?_
  have w0 : 0 ≤ was % ((2 ^ 10 : Nat) : Int) ∧ was % ((2 ^ 10 : Nat) : Int) < 1024 := by omega
  generalize was % ((2 ^ 10 : Nat) : Int) = w at w0 ⊢
  refine bnd_of (binV_and_mask now 10 (by decide) (by decide)) ?_
  have x0 : 0 ≤ now % ((2 ^ 10 : Nat) : Int) ∧ now % ((2 ^ 10 : Nat) : Int) < 1024 := by omega
  generalize now % ((2 ^ 10 : Nat) : Int) = x at x0 ⊢
  refine bnd_of (binV_and_mask state 10 (by decide) (by decide)) ?_
  have z0 : 0 ≤ state % ((2 ^ 10 : Nat) : Int) := by omega
  generalize state % ((2 ^ 10 : Nat) : Int) = z at z0 ⊢
  refine bnd_of (show binV .rem (i64 z) (.int .i64 3) = some (i64 (z % 3)) by rw [binV_rem, if_neg (by decide), Int.tmod_eq_emod_of_nonneg z0]) ?_
  have s0 : 0 ≤ z % 3 ∧ z % 3 < 3 := by omega
  generalize z % 3 = s at s0 ⊢
  (repeat first|(with_reducible first|refine wA ?_|refine wB ?_|refine wC ?_|refine wD ?_|refine wE ?_|refine wF ?_|refine wG ?_|refine wH ?_|refine wI ?_|refine wJ ?_|refine wN ?_|refine wT ?_|refine wU ?_)|((with_reducible refine isB ?_);first|refine wK rfl ?_|refine ld0 hp rfl ?_|refine ld1 hp rfl ?_|refine ld2 hp rfl ?_|refine ld3 hp rfl ?_|refine wP ?_|refine wQ ?_|refine wR ?_)|((with_reducible refine isIf ?_);first|refine wV ?_|refine wW ?_)|((with_reducible refine isHl ?_);first|refine hl0 hp rfl ?_|refine hl1 hp rfl ?_|refine hl2 hp rfl ?_|refine hl3 hp rfl ?_))
  have may : swMay [Sw.mk 1 w x] = true := by
    simp [swMay, swOk]
    exact ⟨by simp only; omega, by simp only; omega, by simp only; omega, by simp only; omega, by simp only; omega, by simp only; omega⟩
  refine bs0 (size := 1) hp ([4 * w, 66].map encI) rfl rfl (by simp) (encI_good _) fun cv h2 hp => ?_
  refine bnd_of (v := encS ⟨1, w, x⟩) rfl ?_
  refine bs0 (size := 3) hp ([Sw.mk 1 w x].map encS) rfl rfl (by simp) (encS_good _) fun sv h3 hp => ?_
  obtain ⟨sa, sc, _, rfl, _⟩ := hp.row
  refine bs0 (size := 1) hp [[.slice sa 1 sc]] rfl rfl (by simp) (fun c hc => by rw [List.mem_singleton.1 hc]; exact ⟨rfl, rfl⟩) fun dv h4 hp => ?_
  have hcr : ∀ y ∈ [4 * w, 66], I64 y := fun y hy => by
    simp only [List.mem_cons, List.not_mem_nil, or_false] at hy; rcases hy with rfl | rfl <;> (constructor <;> omega)
  refine T_shelf (us := [.slice sa 1 sc]) (cells := [4 * w, 66]) (dss := [[Sw.mk 1 w x]]) hp (fun h' hp => (hp.up 2).rows) (fun h' hp => ⟨hp.rows, .cons (hp.up 1).rows .nil⟩) hcr fun a b h5 hp => ?_
  obtain ⟨hA, hcell, hdsc⟩ := shelf_view (cells := [4 * w, 66]) (dss := [[Sw.mk 1 w x]]) hcr
  have D : Dsc (shelfA [4 * w, 66] [[Sw.mk 1 w x]]) ((0 : Nat) : Int) 1 0 _ := hdsc 0 _ (by decide) rfl may
  generalize shelfA [4 * w, 66] [[Sw.mk 1 w x]] = A at hp hA hcell D
  (repeat first|(with_reducible first|refine wA ?_|refine wB ?_|refine wC ?_|refine wD ?_|refine wE ?_|refine wF ?_|refine wG ?_|refine wH ?_|refine wI ?_|refine wJ ?_|refine wN ?_|refine wT ?_|refine wU ?_)|((with_reducible refine isB ?_);first|refine wK rfl ?_|refine ld0 hp rfl ?_|refine ld1 hp rfl ?_|refine ld2 hp rfl ?_|refine ld3 hp rfl ?_|refine wP ?_|refine wQ ?_|refine wR ?_)|((with_reducible refine isIf ?_);first|refine wV ?_|refine wW ?_)|((with_reducible refine isHl ?_);first|refine hl0 hp rfl ?_|refine hl1 hp rfl ?_|refine hl2 hp rfl ?_|refine hl3 hp rfl ?_))
  have hzr : I64 (4 * (4 + s)) := by constructor <;> omega
  refine L_Store hp (by decide) (by decide) hzr fun h6 hp => ?_
  have hB : (A.put 34 (4 * (4 + s))).ok := hA.put _ hzr
  have atB : ∀ j, 0 ≤ j → j < 634 → (A.put 34 (4 * (4 + s))).at j = if 34 = j then 4 * (4 + s) else A.at j := fun j j0 j1 => at_put hA (by decide) (by decide) j0 j1
  have hb : baseOf 0 = 34 := rfl
  have DB : Dsc (A.put 34 (4 * (4 + s))) 0 1 s [Sw.mk 1 w x] := by
    have o : On A (Wh.new 0 1) 0 [Sw.mk 1 w x] := fresh_on (k := 0) hA (by decide) may D
    refine ⟨?_, ?_, fun i d e => ?_, fun i d e => ?_, fun i d e => ?_⟩
    · show (A.put 34 (4 * (4 + s))).at 34 = stateW 1 s
      rw [atB 34 (by decide) (by decide), if_pos rfl]; unfold stateW; omega
    · show (A.put 34 (4 * (4 + s))).at (34 + 1) = _
      rw [atB _ (by decide) (by decide), if_neg (by decide)]; exact D.cnt
    · have := o.ent_addr e (p := 0) (by decide) (by decide)
      have e2 : baseOf (Wh.new 0 1).s = 34 := rfl
      rw [e2] at this; rw [hb]
      rw [atB _ (by omega) (by omega), if_neg (by omega)]; exact D.c i d e
    · have := o.ent_addr e (p := 1) (by decide) (by decide)
      have e2 : baseOf (Wh.new 0 1).s = 34 := rfl
      rw [e2] at this; rw [hb]
      rw [atB _ (by omega) (by omega), if_neg (by omega)]; exact D.w i d e
    · have := o.ent_addr e (p := 2) (by decide) (by decide)
      have e2 : baseOf (Wh.new 0 1).s = 34 := rfl
      rw [e2] at this; rw [hb]
      rw [atB _ (by omega) (by omega), if_neg (by omega)]; exact D.n i d e
  have hB0 : (A.put 34 (4 * (4 + s))).at 0 = w * 4 := by
    have e := hcell 0 (by decide) (by decide)
    have e1 : A.at 0 = 4 * w := e
    rw [atB _ (by decide) (by decide), if_neg (by decide), e1]; omega
  have hB1 : (A.put 34 (4 * (4 + s))).at 1 = (Form.mcas 0 1).number := by
    have e := hcell 1 (by decide) (by decide)
    have e1 : A.at 1 = 66 := e
    rw [atB _ (by decide) (by decide), if_neg (by decide), e1]; rfl
  generalize A.put 34 (4 * (4 + s)) = B at hp hB atB DB hB0 hB1
  refine bnd_of (binV_and_mask thread 2 (by decide) (by decide)) ?_
  have t0 : 0 ≤ thread % ((2 ^ 2 : Nat) : Int) ∧ thread % ((2 ^ 2 : Nat) : Int) < 4 := by omega
  have m0 : Rd.may (thread % ((2 ^ 2 : Nat) : Int)) 0 0 := ⟨t0, by decide, by decide⟩
  have m1 : Rd.may (thread % ((2 ^ 2 : Nat) : Int)) 0 1 := ⟨t0, by decide, by decide⟩
  refine T_rdNewOk hp m0 fun pb h7 hp => ?_
  (repeat first|(with_reducible first|refine wA ?_|refine wB ?_|refine wC ?_|refine wD ?_|refine wE ?_|refine wF ?_|refine wG ?_|refine wH ?_|refine wI ?_|refine wJ ?_|refine wN ?_|refine wT ?_|refine wU ?_)|((with_reducible refine isB ?_);first|refine wK rfl ?_|refine ld0 hp rfl ?_|refine ld1 hp rfl ?_|refine ld2 hp rfl ?_|refine ld3 hp rfl ?_|refine wP ?_|refine wQ ?_|refine wR ?_)|((with_reducible refine isIf ?_);first|refine wV ?_|refine wW ?_)|((with_reducible refine isHl ?_);first|refine hl0 hp rfl ?_|refine hl1 hp rfl ?_|refine hl2 hp rfl ?_|refine hl3 hp rfl ?_))
  refine bnd_of (binV_and_mask thread 2 (by decide) (by decide)) ?_
  refine T_rdNewOk hp m1 fun qb h8 hp => ?_
  generalize thread % ((2 ^ 2 : Nat) : Int) = t at t0 hp m0 m1
  (repeat first|(with_reducible first|refine wA ?_|refine wB ?_|refine wC ?_|refine wD ?_|refine wE ?_|refine wF ?_|refine wG ?_|refine wH ?_|refine wI ?_|refine wJ ?_|refine wN ?_|refine wT ?_|refine wU ?_)|((with_reducible refine isB ?_);first|refine wK rfl ?_|refine ld0 hp rfl ?_|refine ld1 hp rfl ?_|refine ld2 hp rfl ?_|refine ld3 hp rfl ?_|refine wP ?_|refine wQ ?_|refine wR ?_)|((with_reducible refine isIf ?_);first|refine wV ?_|refine wW ?_)|((with_reducible refine isHl ?_);first|refine hl0 hp rfl ?_|refine hl1 hp rfl ?_|refine hl2 hp rfl ?_|refine hl3 hp rfl ?_))
  refine T_Num ?_
  (repeat first|(with_reducible first|refine wA ?_|refine wB ?_|refine wC ?_|refine wD ?_|refine wE ?_|refine wF ?_|refine wG ?_|refine wH ?_|refine wI ?_|refine wJ ?_|refine wN ?_|refine wT ?_|refine wU ?_)|((with_reducible refine isB ?_);first|refine wK rfl ?_|refine ld0 hp rfl ?_|refine ld1 hp rfl ?_|refine ld2 hp rfl ?_|refine ld3 hp rfl ?_|refine wP ?_|refine wQ ?_|refine wR ?_)|((with_reducible refine isIf ?_);first|refine wV ?_|refine wW ?_)|((with_reducible refine isHl ?_);first|refine hl0 hp rfl ?_|refine hl1 hp rfl ?_|refine hl2 hp rfl ?_|refine hl3 hp rfl ?_))
  refine T_Num ?_
  (repeat first|(with_reducible first|refine wA ?_|refine wB ?_|refine wC ?_|refine wD ?_|refine wE ?_|refine wF ?_|refine wG ?_|refine wH ?_|refine wI ?_|refine wJ ?_|refine wN ?_|refine wT ?_|refine wU ?_)|((with_reducible refine isB ?_);first|refine wK rfl ?_|refine ld0 hp rfl ?_|refine ld1 hp rfl ?_|refine ld2 hp rfl ?_|refine ld3 hp rfl ?_|refine wP ?_|refine wQ ?_|refine wR ?_)|((with_reducible refine isIf ?_);first|refine wV ?_|refine wW ?_)|((with_reducible refine isHl ?_);first|refine hl0 hp rfl ?_|refine hl1 hp rfl ?_|refine hl2 hp rfl ?_|refine hl3 hp rfl ?_))
  unfold S3_j1
  replace hp : All (arP 84 a B :: readP pb (.new t 0 0) :: readP qb (.new t 0 1) :: [baseP g]) h8 := hp.re 8 [2, 1, 0, 7]
  refine T_rdStep hp (Rd.new_ok m0) fun h9 hp => ?_
  have hpl : plainOf (B.at 0) = some w := by rw [hB0]; exact plainOf_val (by omega) (by omega)
  rw [Rd.step_plain hpl] at hp ⊢
  (repeat first|(with_reducible first|refine wA ?_|refine wB ?_|refine wC ?_|refine wD ?_|refine wE ?_|refine wF ?_|refine wG ?_|refine wH ?_|refine wI ?_|refine wJ ?_|refine wN ?_|refine wT ?_|refine wU ?_)|((with_reducible refine isB ?_);first|refine wK rfl ?_|refine ld0 hp rfl ?_|refine ld1 hp rfl ?_|refine ld2 hp rfl ?_|refine ld3 hp rfl ?_|refine wP ?_|refine wQ ?_|refine wR ?_)|((with_reducible refine isIf ?_);first|refine wV ?_|refine wW ?_)|((with_reducible refine isHl ?_);first|refine hl0 hp rfl ?_|refine hl1 hp rfl ?_|refine hl2 hp rfl ?_|refine hl3 hp rfl ?_))
  have hC := hB.ld 0
  have atC : ∀ j, 0 ≤ j → j < 634 → (B.ld 0).at j = B.at j := fun j j0 j1 => at_ld hB (by decide) (by decide) j0 j1
  have DC : Dsc (B.ld 0) 0 1 s [Sw.mk 1 w x] := DB.keep may fun j h0 h1 => atC j (by omega) (by omega)
  obtain ⟨n, r', A', gg, n0, n1, ho, hval, hc⟩ := reads_mine (t := t) hC DC may (by omega) (by show (B.ld 0).at 1 = _; rw [atC 1 (by decide) (by decide)]; exact hB1) t0.1 t0.2
  have hr := gg.runs ho (N := 30) (by omega) n0
  have hA' := (gg.ok (Rd.new_ok m1) hC).2
  simp only at hval hc
  refine Lfp_fam (ι := Nat × Rd × Ar × Bool) (fun p => [i64 w, i64 x, i64 s, ptr a, ptr pb, ptr qb, .bool true, i64 0, .bool p.2.2.2, i64 p.1]) (fun p h' => p.1 ≤ 30 ∧ p.2.1.ok ∧ p.2.2.1.ok ∧ rruns (30 - p.1) p.2.1 p.2.2.1 p.2.2.2 = some (r', A', true) ∧ All (readP qb p.2.1 :: arP 84 a p.2.2.1 :: readP pb ⟨t, 0, 0, w, none, -1, 0, true⟩ :: [baseP g]) h') (fun p => 30 - p.1) ?_ (0, .new t 0 1, B.ld 0, false) h9 ⟨by omega, Rd.new_ok m1, hC, hr, hp.re 3 [2, 0, 1]⟩
  clear hp
  rintro ⟨i, r, C, ov⟩ h10 X ⟨hi, hG, hC, hq, hp⟩ again
  simp only at hi hG hC hq hp
  simp only [tup_zero, tup_succ]
  have key4 : (r, C, ov) = (r', A', true) → ∀ y, y = (if s = 2 then w else x) → ∀ s1, S3_j4 s1 (i64 w) (ptr a) (ptr pb) (ptr qb) (.bool true) (i64 0) (.bool ov) (i64 y) h10 K X := by
    intro e y hy s1
    cases e
    unfold S3_j4
    refine L_Load (hp.up 1) (by decide) (by decide) fun h11 hp => ?_
    rw [hc]
    (repeat first|(with_reducible first|refine wA ?_|refine wB ?_|refine wC ?_|refine wD ?_|refine wE ?_|refine wF ?_|refine wG ?_|refine wH ?_|refine wI ?_|refine wJ ?_|refine wN ?_|refine wT ?_|refine wU ?_)|((with_reducible refine isB ?_);first|refine wK rfl ?_|refine ld0 hp rfl ?_|refine ld1 hp rfl ?_|refine ld2 hp rfl ?_|refine ld3 hp rfl ?_|refine wP ?_|refine wQ ?_|refine wR ?_)|((with_reducible refine isIf ?_);first|refine wV ?_|refine wW ?_)|((with_reducible refine isHl ?_);first|refine hl0 hp rfl ?_|refine hl1 hp rfl ?_|refine hl2 hp rfl ?_|refine hl3 hp rfl ?_))
    refine T_Num ?_
    (repeat first|(with_reducible first|refine wA ?_|refine wB ?_|refine wC ?_|refine wD ?_|refine wE ?_|refine wF ?_|refine wG ?_|refine wH ?_|refine wI ?_|refine wJ ?_|refine wN ?_|refine wT ?_|refine wU ?_)|((with_reducible refine isB ?_);first|refine wK rfl ?_|refine ld0 hp rfl ?_|refine ld1 hp rfl ?_|refine ld2 hp rfl ?_|refine ld3 hp rfl ?_|refine wP ?_|refine wQ ?_|refine wR ?_)|((with_reducible refine isIf ?_);first|refine wV ?_|refine wW ?_)|((with_reducible refine isHl ?_);first|refine hl0 hp rfl ?_|refine hl1 hp rfl ?_|refine hl2 hp rfl ?_|refine hl3 hp rfl ?_))
    refine T_rdValue (hp.up 2) ?_
    (repeat first|(with_reducible first|refine wA ?_|refine wB ?_|refine wC ?_|refine wD ?_|refine wE ?_|refine wF ?_|refine wG ?_|refine wH ?_|refine wI ?_|refine wJ ?_|refine wN ?_|refine wT ?_|refine wU ?_)|((with_reducible refine isB ?_);first|refine wK rfl ?_|refine ld0 hp rfl ?_|refine ld1 hp rfl ?_|refine ld2 hp rfl ?_|refine ld3 hp rfl ?_|refine wP ?_|refine wQ ?_|refine wR ?_)|((with_reducible refine isIf ?_);first|refine wV ?_|refine wW ?_)|((with_reducible refine isHl ?_);first|refine hl0 hp rfl ?_|refine hl1 hp rfl ?_|refine hl2 hp rfl ?_|refine hl3 hp rfl ?_))
    rw [decide_eq_true rfl]
    (repeat first|(with_reducible first|refine wA ?_|refine wB ?_|refine wC ?_|refine wD ?_|refine wE ?_|refine wF ?_|refine wG ?_|refine wH ?_|refine wI ?_|refine wJ ?_|refine wN ?_|refine wT ?_|refine wU ?_)|((with_reducible refine isB ?_);first|refine wK rfl ?_|refine ld0 hp rfl ?_|refine ld1 hp rfl ?_|refine ld2 hp rfl ?_|refine ld3 hp rfl ?_|refine wP ?_|refine wQ ?_|refine wR ?_)|((with_reducible refine isIf ?_);first|refine wV ?_|refine wW ?_)|((with_reducible refine isHl ?_);first|refine hl0 hp rfl ?_|refine hl1 hp rfl ?_|refine hl2 hp rfl ?_|refine hl3 hp rfl ?_))
    refine T_rdValue (hp.up 1) ?_
    rw [hval, hy]
    (repeat first|(with_reducible first|refine wA ?_|refine wB ?_|refine wC ?_|refine wD ?_|refine wE ?_|refine wF ?_|refine wG ?_|refine wH ?_|refine wI ?_|refine wJ ?_|refine wN ?_|refine wT ?_|refine wU ?_)|((with_reducible refine isB ?_);first|refine wK rfl ?_|refine ld0 hp rfl ?_|refine ld1 hp rfl ?_|refine ld2 hp rfl ?_|refine ld3 hp rfl ?_|refine wP ?_|refine wQ ?_|refine wR ?_)|((with_reducible refine isIf ?_);first|refine wV ?_|refine wW ?_)|((with_reducible refine isHl ?_);first|refine hl0 hp rfl ?_|refine hl1 hp rfl ?_|refine hl2 hp rfl ?_|refine hl3 hp rfl ?_))
    rw [decide_eq_true rfl]
    (repeat first|(with_reducible first|refine wA ?_|refine wB ?_|refine wC ?_|refine wD ?_|refine wE ?_|refine wF ?_|refine wG ?_|refine wH ?_|refine wI ?_|refine wJ ?_|refine wN ?_|refine wT ?_|refine wU ?_)|((with_reducible refine isB ?_);first|refine wK rfl ?_|refine ld0 hp rfl ?_|refine ld1 hp rfl ?_|refine ld2 hp rfl ?_|refine ld3 hp rfl ?_|refine wP ?_|refine wQ ?_|refine wR ?_)|((with_reducible refine isIf ?_);first|refine wV ?_|refine wW ?_)|((with_reducible refine isHl ?_);first|refine hl0 hp rfl ?_|refine hl1 hp rfl ?_|refine hl2 hp rfl ?_|refine hl3 hp rfl ?_))
    refine T_Num ?_
    (repeat first|(with_reducible first|refine wA ?_|refine wB ?_|refine wC ?_|refine wD ?_|refine wE ?_|refine wF ?_|refine wG ?_|refine wH ?_|refine wI ?_|refine wJ ?_|refine wN ?_|refine wT ?_|refine wU ?_)|((with_reducible refine isB ?_);first|refine wK rfl ?_|refine ld0 hp rfl ?_|refine ld1 hp rfl ?_|refine ld2 hp rfl ?_|refine ld3 hp rfl ?_|refine wP ?_|refine wQ ?_|refine wR ?_)|((with_reducible refine isIf ?_);first|refine wV ?_|refine wW ?_)|((with_reducible refine isHl ?_);first|refine hl0 hp rfl ?_|refine hl1 hp rfl ?_|refine hl2 hp rfl ?_|refine hl3 hp rfl ?_))
    rw [decide_eq_true (by omega)]
    exact hK _
  have key : (r, C, ov) = (r', A', true) → ∀ s1, S3_j3 s1 (i64 w) (i64 x) (i64 s) (ptr a) (ptr pb) (ptr qb) (.bool true) (i64 0) (.bool ov) h10 K X := by
    intro e s1
    unfold S3_j3
    (repeat first|(with_reducible first|refine wA ?_|refine wB ?_|refine wC ?_|refine wD ?_|refine wE ?_|refine wF ?_|refine wG ?_|refine wH ?_|refine wI ?_|refine wJ ?_|refine wN ?_|refine wT ?_|refine wU ?_)|((with_reducible refine isB ?_);first|refine wK rfl ?_|refine ld0 hp rfl ?_|refine ld1 hp rfl ?_|refine ld2 hp rfl ?_|refine ld3 hp rfl ?_|refine wP ?_|refine wQ ?_|refine wR ?_)|((with_reducible refine isIf ?_);first|refine wV ?_|refine wW ?_)|((with_reducible refine isHl ?_);first|refine hl0 hp rfl ?_|refine hl1 hp rfl ?_|refine hl2 hp rfl ?_|refine hl3 hp rfl ?_))
    refine ifV_cases (fun c => ?_) fun c => ?_
    · exact key4 e _ (by rw [if_pos c]) _
    · exact key4 e _ (by rw [if_neg c]) _
  (repeat first|(with_reducible first|refine wA ?_|refine wB ?_|refine wC ?_|refine wD ?_|refine wE ?_|refine wF ?_|refine wG ?_|refine wH ?_|refine wI ?_|refine wJ ?_|refine wN ?_|refine wT ?_|refine wU ?_)|((with_reducible refine isB ?_);first|refine wK rfl ?_|refine ld0 hp rfl ?_|refine ld1 hp rfl ?_|refine ld2 hp rfl ?_|refine ld3 hp rfl ?_|refine wP ?_|refine wQ ?_|refine wR ?_)|((with_reducible refine isIf ?_);first|refine wV ?_|refine wW ?_)|((with_reducible refine isHl ?_);first|refine hl0 hp rfl ?_|refine hl1 hp rfl ?_|refine hl2 hp rfl ?_|refine hl3 hp rfl ?_))
  refine ifV_cases (fun c => ?_) fun c => ?_
  · cases ov with
    | true =>
      (repeat first|(with_reducible first|refine wA ?_|refine wB ?_|refine wC ?_|refine wD ?_|refine wE ?_|refine wF ?_|refine wG ?_|refine wH ?_|refine wI ?_|refine wJ ?_|refine wN ?_|refine wT ?_|refine wU ?_)|((with_reducible refine isB ?_);first|refine wK rfl ?_|refine ld0 hp rfl ?_|refine ld1 hp rfl ?_|refine ld2 hp rfl ?_|refine ld3 hp rfl ?_|refine wP ?_|refine wQ ?_|refine wR ?_)|((with_reducible refine isIf ?_);first|refine wV ?_|refine wW ?_)|((with_reducible refine isHl ?_);first|refine hl0 hp rfl ?_|refine hl1 hp rfl ?_|refine hl2 hp rfl ?_|refine hl3 hp rfl ?_))
      refine key ?_ _
      obtain ⟨n, hn⟩ : ∃ n, 30 - i = n + 1 := ⟨29 - i, by omega⟩
      rw [hn] at hq
      unfold rruns at hq
      exact Option.some.inj hq
    | false =>
      (repeat first|(with_reducible first|refine wA ?_|refine wB ?_|refine wC ?_|refine wD ?_|refine wE ?_|refine wF ?_|refine wG ?_|refine wH ?_|refine wI ?_|refine wJ ?_|refine wN ?_|refine wT ?_|refine wU ?_)|((with_reducible refine isB ?_);first|refine wK rfl ?_|refine ld0 hp rfl ?_|refine ld1 hp rfl ?_|refine ld2 hp rfl ?_|refine ld3 hp rfl ?_|refine wP ?_|refine wQ ?_|refine wR ?_)|((with_reducible refine isIf ?_);first|refine wV ?_|refine wW ?_)|((with_reducible refine isHl ?_);first|refine hl0 hp rfl ?_|refine hl1 hp rfl ?_|refine hl2 hp rfl ?_|refine hl3 hp rfl ?_))
      unfold S3_j2
      obtain ⟨n, hn⟩ : ∃ n, 30 - i = n + 1 := ⟨29 - i, by omega⟩
      rw [hn] at hq
      unfold rruns at hq
      simp only at hq
      refine T_rdStep (hp.up 1) hG fun h11 hp => ?_
      have hst := Rd.step_ok hG hC
      split at hq
      · rename_i e0
        rw [e0]
        (repeat first|(with_reducible first|refine wA ?_|refine wB ?_|refine wC ?_|refine wD ?_|refine wE ?_|refine wF ?_|refine wG ?_|refine wH ?_|refine wI ?_|refine wJ ?_|refine wN ?_|refine wT ?_|refine wU ?_)|((with_reducible refine isB ?_);first|refine wK rfl ?_|refine ld0 hp rfl ?_|refine ld1 hp rfl ?_|refine ld2 hp rfl ?_|refine ld3 hp rfl ?_|refine wP ?_|refine wQ ?_|refine wR ?_)|((with_reducible refine isIf ?_);first|refine wV ?_|refine wW ?_)|((with_reducible refine isHl ?_);first|refine hl0 hp rfl ?_|refine hl1 hp rfl ?_|refine hl2 hp rfl ?_|refine hl3 hp rfl ?_))
        refine T_Num ?_
        (repeat first|(with_reducible first|refine wA ?_|refine wB ?_|refine wC ?_|refine wD ?_|refine wE ?_|refine wF ?_|refine wG ?_|refine wH ?_|refine wI ?_|refine wJ ?_|refine wN ?_|refine wT ?_|refine wU ?_)|((with_reducible refine isB ?_);first|refine wK rfl ?_|refine ld0 hp rfl ?_|refine ld1 hp rfl ?_|refine ld2 hp rfl ?_|refine ld3 hp rfl ?_|refine wP ?_|refine wQ ?_|refine wR ?_)|((with_reducible refine isIf ?_);first|refine wV ?_|refine wW ?_)|((with_reducible refine isHl ?_);first|refine hl0 hp rfl ?_|refine hl1 hp rfl ?_|refine hl2 hp rfl ?_|refine hl3 hp rfl ?_))
        refine again (i + 1, (r.step C).1, (r.step C).2.2, (r.step C).1.over) _ ⟨by simp only; omega, hst.1, hst.2, ?_, hp.re 2 [1, 0]⟩ (by simp only; omega)
        have en : 30 - (i + 1) = n := by omega
        simp only [en]; exact hq
      · cases hq
  · have : 30 - i = 0 := by omega
    rw [this] at hq
    unfold rruns at hq
    exact key (Option.some.inj hq) _
end
end Go.Proofs.Ytiopeicakfjbfaa
