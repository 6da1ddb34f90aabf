/- Several texts in one, each under its own remark or none; nothing here is a statement on the program. -/
import Derived.Test.YtbiappodepnbmaaKF
namespace Go.Proofs.Ytbiappodepnbmaa
open Go GW Go.Proofs
attribute [local irreducible] bnd ldV stV ifV binV eqI
set_option linter.unusedVariables false
set_option linter.unusedSimpArgs false
set_option maxRecDepth 20000
structure Rd where
  t : Int
  q : Int
  cell : Int
  value : Int
  help : Option Help
  slot : Int
  gen : Int
  over : Bool
def Rd.new (t q c : Int) : Rd := ⟨t, q, c, 0, none, -1, 0, false⟩
def Rd.may (t q c : Int) : Prop := (0 ≤ t ∧ t < 4) ∧ (0 ≤ q ∧ q < 1048576) ∧ 0 ≤ c ∧ c < 16
def Rd.load (r : Rd) (A : Ar) : Rd × Int × Ar :=
  match plainOf (A.at r.cell) with
  | some v => ({ r with slot := -1, gen := 0, value := v, over := true }, 0, A.ld r.cell)
  | none => match newHelp r.t r.q (A.at r.cell) with
    | some H => ({ r with slot := -1, gen := 0, help := some H }, 0, A.ld r.cell)
    | none => ({ r with slot := -1, gen := 0, over := true }, 1500, A.ld r.cell)
def Rd.helping (r : Rd) (H : Help) (A : Ar) : Rd × Int × Ar :=
  ({ r with slot := (H.step A).1.slot, gen := (H.step A).1.gen, q := (H.step A).1.q, help := if (H.step A).1.over then none else some (H.step A).1, over := !decide ((H.step A).2.1 = 0) }, if (H.step A).2.1 = 0 then 0 else 1500, (H.step A).2.2)
def Rd.step (r : Rd) (A : Ar) : Rd × Int × Ar :=
  if r.over then (r, 0, A) else
  match r.help with
  | some H => r.helping H A
  | none => r.load A
structure Rd.ok (r : Rd) : Prop where
  t0 : 0 ≤ r.t
  t1 : r.t < 4
  q0 : 0 ≤ r.q
  q1 : r.q < 1048576
  c0 : 0 ≤ r.cell
  c1 : r.cell < 16
  help : ∀ H, r.help = some H → H.ok ∧ H.over = false
theorem Rd.new_ok {t q c : Int} (m : Rd.may t q c) : (Rd.new t q c).ok := ⟨m.1.1, m.1.2, m.2.1.1, m.2.1.2, m.2.2.1, m.2.2.2, fun H h => by cases h⟩
theorem newHelp_live {t q x : Int} {H : Help} (e : newHelp t q x = some H) : H.over = false := by
  unfold newHelp at e
  split at e
  · split at e
    · cases e; rfl
    · cases e
  · cases e
theorem Rd.step_ok {r : Rd} {A : Ar} (o : r.ok) (hA : A.ok) : (r.step A).1.ok ∧ (r.step A).2.2.ok := by
  unfold Rd.step
  split
  · exact ⟨o, hA⟩
  · split
    · rename_i H e
      have h := o.help H e
      have s := Help.step_ok h.1 hA
      refine ⟨⟨o.t0, o.t1, s.1.q0, s.1.q1, o.c0, o.c1, fun G e => ?_⟩, s.2⟩
      simp only [Rd.helping] at e
      split at e
      · cases e
      · rename_i n; cases e; exact ⟨s.1, by simpa using n⟩
    · unfold Rd.load
      split
      · exact ⟨⟨o.t0, o.t1, o.q0, o.q1, o.c0, o.c1, o.help⟩, hA.ld _⟩
      · split
        · rename_i H e
          exact ⟨⟨o.t0, o.t1, o.q0, o.q1, o.c0, o.c1, fun G g => by cases g; exact ⟨newHelp_ok e, newHelp_live e⟩⟩, hA.ld _⟩
        · exact ⟨⟨o.t0, o.t1, o.q0, o.q1, o.c0, o.c1, o.help⟩, hA.ld _⟩
/-! ### the program's -/
def rdRow (r : Rd) (hv : Value) : GObj := .row 62 [i64 r.t, i64 r.q, i64 r.cell, i64 r.value, hv, i64 r.slot, i64 r.gen, .bool r.over] 8 true
def hvP (P : Nat → Help → Part) (hv : Value) : Option Help → Part
  | none => fun _ => hv = .pointer none
  | some H => fun h => ∃ b, hv = ptr b ∧ P b H h
def readP (b : Nat) (r : Rd) : Part := fun h => ∃ hv, All [pts b (rdRow r hv), hvP helpP hv r.help] h
section
variable {a b c : Nat} {A : Ar} {R : List Part} {h : GH} {K : Value → GH → Prop} {r : Rd}
theorem readP_open {C : Prop} (hp : All (readP b r :: R) h) (k : ∀ hv, All (pts b (rdRow r hv) :: hvP helpP hv r.help :: R) h → C) : C := by
  obtain ⟨hv, hp⟩ := All.ex hp
  exact k hv (All.flat hp)
theorem readP_shut {hv : Value} (hp : All (pts b (rdRow r hv) :: hvP helpP hv r.help :: R) h) : All (readP b r :: R) h := (All.fold (l := [_, _]) hp).head fun h1 z => ⟨hv, z⟩
theorem hvP_none {P : Nat → Help → Part} {hv : Value} {X : Part} (hp : All (X :: hvP P hv none :: R) h) : hv = .pointer none := All.case (hp.up 1) fun h1 p _ => p
theorem hvP_some {P : Nat → Help → Part} {hv : Value} {H : Help} {X : Part} (hp : All (X :: hvP P hv (some H) :: R) h) : ∃ hb, hv = ptr hb ∧ All (X :: P hb H :: R) h := by
  obtain ⟨hb, hp1⟩ := All.ex (hp.up 1)
  obtain ⟨e, hp1⟩ := All.pure hp1
  exact ⟨hb, e, hp1.up 1⟩
theorem hvP_mk {P : Nat → Help → Part} {H : Help} {X : Part} {hb : Nat} (hp : All (X :: P hb H :: R) h) : All (X :: hvP P (ptr hb) (some H) :: R) h := hp.mono2 fun _ z => z.head fun _ p => ⟨hb, rfl, p⟩
theorem hvP_no {P : Nat → Help → Part} {X : Part} (hp : All (X :: R) h) : All (X :: hvP P (.pointer none) none :: R) h := hp.mono2 fun _ z => All.emp_cons z rfl
theorem T_readNew {t q x : Int} (hp : All R h) (kn : ¬ Rd.may t q x → ∀ h', All R h' → K (.tuple #[.pointer none, i64 1500]) h') (ky : Rd.may t q x → ∀ b h', All (readP b (.new t q x) :: R) h' → K (.tuple #[ptr b, i64 0]) h') : T Try.prog 6 [i64 t, i64 q, i64 x] h K := by
  apply S6_T
  unfold S6
  refine T_ThreadMay ?_
  (repeat first|refine wx ?_|refine wy ?_|refine wz ?_|refine wv ?_|refine wh ?_)
  refine ifN_cases (fun c => ?_) fun c => ?_
  · exact kn (fun m => c m.1) _ hp
  refine T_Below ?_
  (repeat first|refine wx ?_|refine wy ?_|refine wz ?_|refine wv ?_|refine wh ?_)
  refine ifN_cases (fun c2 => ?_) fun c2 => ?_
  · exact kn (fun m => c2 m.2.1) _ hp
  refine T_Below ?_
  (repeat first|refine wx ?_|refine wy ?_|refine wz ?_|refine wv ?_|refine wh ?_)
  refine ifN_cases (fun c3 => ?_) fun c3 => ?_
  · exact kn (fun m => c3 m.2.2) _ hp
  (repeat first|refine wx ?_|refine wy ?_|refine wz ?_|refine wv ?_|refine wh ?_)
  refine nw hp (rdRow (.new t q x) (.pointer none)) rfl fun b h1 hp => ?_
  exact ky ⟨c, c2, c3⟩ b _ (readP_shut (hvP_no hp))
theorem T_rdValue (hp : All (readP b r :: R) h) (hK : K (i64 r.value) h) : T Try.prog 9 [ptr b] h K := by
  apply S9_T
  unfold S9
  refine readP_open hp fun hv hp => ?_
  (repeat first|refine wx ?_|refine wy ?_|refine wz ?_|refine wv ?_|refine wh ?_)
  exact hK
theorem T_rdThrough (hp : All (readP b r :: R) h) (hK : K (.tuple #[i64 r.slot, i64 r.gen]) h) : T Try.prog 10 [ptr b] h K := by
  apply S10_T
  unfold S10
  refine readP_open hp fun hv hp => ?_
  (repeat first|refine wx ?_|refine wy ?_|refine wz ?_|refine wv ?_|refine wh ?_)
  exact hK
end
end Go.Proofs.Ytbiappodepnbmaa
namespace Go.Proofs.Ytbiappodepnbmaa
open Go GW Go.Proofs
attribute [local irreducible] bnd ldV stV ifV binV eqI
set_option linter.unusedVariables false
set_option linter.unusedSimpArgs false
set_option maxRecDepth 20000
/-- what a half of a step leaves -/
def Half (o : Rd × Int × Ar) (e : Int) (r' : Rd) : Prop := (e = 0 ∧ o.2.1 = 0 ∧ r' = o.1) ∨ (e ≠ 0 ∧ o.2.1 = 1500 ∧ { r' with over := true } = o.1)
section
variable {a b c : Nat} {A : Ar} {R : List Part} {h : GH} {K : Value → GH → Prop} {r : Rd}
theorem T_rdLoad (hp : All (arP 84 a A :: readP b r :: R) h) (ok : r.ok) (hn : r.help = none) (hf : r.over = false)
    (hK : ∀ h' e r', Half (r.load A) e r' → All (readP b r' :: arP 84 a (r.load A).2.2 :: R) h' → K (i64 e) h') : T Try.prog 19 [ptr b, ptr a] h K := by
  apply S19_T
  unfold S19
  refine readP_open (hp.up 1) fun hv hp => ?_
  obtain ⟨t, q, cell, value, help, slot, gen, over⟩ := r
  simp only at hn hf
  subst hn hf
  obtain rfl := hvP_none hp
  (repeat first|refine wx ?_|refine wy ?_|refine wz ?_|refine wv ?_|refine wh ?_)
  have hA := (arP.at (hp.up 2)).2
  have hx := Ar.at_range hA cell
  refine L_Load (hp.up 2) ok.c0 (by have := ok.c1; simp only at this ⊢; omega) fun h1 hp => ?_
  replace hp := hp.up 1
  (repeat first|refine wx ?_|refine wy ?_|refine wz ?_|refine wv ?_|refine wh ?_)
  refine st0 hp (rdRow ⟨t, q, cell, value, none, -1, gen, false⟩ (.pointer none)) rfl (by simp) rfl rfl fun h2 hp => ?_
  (repeat first|refine wx ?_|refine wy ?_|refine wz ?_|refine wv ?_|refine wh ?_)
  refine st0 hp (rdRow ⟨t, q, cell, value, none, -1, 0, false⟩ (.pointer none)) rfl (by simp) rfl rfl fun h3 hp => ?_
  refine T_Plain hx.2 ?_
  unfold Rd.load at hK
  simp only at hK
  cases hv : plainOf (A.at cell) with
  | some v =>
    rw [hv] at hK
    simp only [Option.getD_some, Option.isSome_some]
    (repeat first|refine wx ?_|refine wy ?_|refine wz ?_|refine wv ?_|refine wh ?_)
    refine st0 hp (rdRow ⟨t, q, cell, v, none, -1, 0, false⟩ (.pointer none)) rfl (by simp) rfl rfl fun h4 hp => ?_
    (repeat first|refine wx ?_|refine wy ?_|refine wz ?_|refine wv ?_|refine wh ?_)
    refine st0 hp (rdRow ⟨t, q, cell, v, none, -1, 0, true⟩ (.pointer none)) rfl (by simp) rfl rfl fun h5 hp => ?_
    exact hK _ 0 _ (.inl ⟨rfl, rfl, rfl⟩) (readP_shut (hv := .pointer none) (hvP_no (hp.re 3 [0, 1])))
  | none =>
    rw [hv] at hK
    simp only [Option.getD_none, Option.isSome_none]
    (repeat first|refine wx ?_|refine wy ?_|refine wz ?_|refine wv ?_|refine wh ?_)
    refine T_New hp hx (fun en h4 hp => ?_) fun H en hb h4 hp => ?_
    · rw [en] at hK
      (repeat first|refine wx ?_|refine wy ?_|refine wz ?_|refine wv ?_|refine wh ?_)
      refine st0 hp (rdRow ⟨t, q, cell, value, none, -1, 0, false⟩ (.pointer none)) rfl (by simp) rfl rfl fun h5 hp => ?_
      exact hK _ 1400 ⟨t, q, cell, value, none, -1, 0, false⟩ (.inr ⟨by decide, rfl, rfl⟩) (readP_shut (hv := .pointer none) (hvP_no (hp.re 3 [0, 1])))
    · rw [en] at hK
      replace hp := hp.up 1
      (repeat first|refine wx ?_|refine wy ?_|refine wz ?_|refine wv ?_|refine wh ?_)
      refine st0 hp (rdRow ⟨t, q, cell, value, some H, -1, 0, false⟩ (ptr hb)) rfl (by simp) rfl rfl fun h5 hp => ?_
      exact hK _ 0 _ (.inl ⟨rfl, rfl, rfl⟩) (readP_shut (hvP_mk (hp.re 4 [0, 1, 2])))
theorem T_rdHelping {H : Help} (hp : All (arP 84 a A :: readP b r :: R) h) (ok : r.ok) (hn : r.help = some H) (hf : r.over = false)
    (hK : ∀ h' e r', Half (r.helping H A) e r' → All (readP b r' :: arP 84 a (r.helping H A).2.2 :: R) h' → K (i64 e) h') : T Try.prog 20 [ptr b, ptr a] h K := by
  apply S20_T
  unfold S20
  refine readP_open (hp.up 1) fun hv hp => ?_
  have hG := (ok.help H hn).1
  obtain ⟨t, q, cell, value, help, slot, gen, over⟩ := r
  simp only at hn hf
  subst hn hf
  obtain ⟨hb, rfl, hp⟩ := hvP_some hp
  (repeat first|refine wx ?_|refine wy ?_|refine wz ?_|refine wv ?_|refine wh ?_)
  replace hp : All (arP 84 a A :: helpP hb H :: pts b (rdRow ⟨t, q, cell, value, some H, slot, gen, false⟩ (ptr hb)) :: R) h := hp.re 3 [2, 1, 0]
  refine T_Step hp hG fun h1 hp => ?_
  unfold Rd.helping at hK
  simp only at hK
  generalize H.step A = p at hp hK ⊢
  obtain ⟨G, e, B⟩ := p
  simp only at hp hK ⊢
  replace hp : All (pts b (rdRow ⟨t, q, cell, value, some H, slot, gen, false⟩ (ptr hb)) :: helpP hb G :: arP 84 a B :: R) h1 := hp.re 3 [2, 1, 0]
  (repeat first|refine wx ?_|refine wy ?_|refine wz ?_|refine wv ?_|refine wh ?_)
  refine T_Through (hp.up 1) ?_
  (repeat first|refine wx ?_|refine wy ?_|refine wz ?_|refine wv ?_|refine wh ?_)
  refine st0 hp (rdRow ⟨t, q, cell, value, some H, G.slot, gen, false⟩ (ptr hb)) rfl (by simp) rfl rfl fun h2 hp => ?_
  (repeat first|refine wx ?_|refine wy ?_|refine wz ?_|refine wv ?_|refine wh ?_)
  refine st0 hp (rdRow ⟨t, q, cell, value, some H, G.slot, G.gen, false⟩ (ptr hb)) rfl (by simp) rfl rfl fun h3 hp => ?_
  (repeat first|refine wx ?_|refine wy ?_|refine wz ?_|refine wv ?_|refine wh ?_)
  refine T_Seq (hp.up 1) ?_
  (repeat first|refine wx ?_|refine wy ?_|refine wz ?_|refine wv ?_|refine wh ?_)
  refine st0 hp (rdRow ⟨t, G.q, cell, value, some H, G.slot, G.gen, false⟩ (ptr hb)) rfl (by simp) rfl rfl fun h4 hp => ?_
  have half : ∀ o, Half (({ t := t, q := G.q, cell := cell, value := value, help := o, slot := G.slot, gen := G.gen, over := !decide (e = 0) } : Rd), (if e = 0 then 0 else 1500), B) e ⟨t, G.q, cell, value, o, G.slot, G.gen, false⟩ := by
    intro o
    by_cases c : e = 0
    · refine .inl ⟨c, if_pos c, ?_⟩
      rw [decide_eq_true c]; rfl
    · refine .inr ⟨c, if_neg c, ?_⟩
      rw [decide_eq_false c]; rfl
  cases ho : G.over with
  | true =>
    rw [ho] at hK
    simp only [if_true] at hK
    (repeat first|refine wx ?_|refine wy ?_|refine wz ?_|refine wv ?_|refine wh ?_)
    refine st0 hp (rdRow ⟨t, G.q, cell, value, none, G.slot, G.gen, false⟩ (.pointer none)) rfl (by simp) rfl rfl fun h5 hp => ?_
    exact hK _ e _ (half none) (readP_shut (hv := .pointer none) (hvP_no (hp.re 3 [0, 2])))
  | false =>
    rw [ho] at hK
    simp only [Bool.false_eq_true, if_false] at hK
    (repeat first|refine wx ?_|refine wy ?_|refine wz ?_|refine wv ?_|refine wh ?_)
    exact hK _ e _ (half (some G)) (readP_shut (hvP_mk hp))
theorem T_rdStep (hp : All (arP 84 a A :: readP b r :: R) h) (ok : r.ok)
    (hK : ∀ h', All (arP 84 a (r.step A).2.2 :: readP b (r.step A).1 :: R) h' → K (.tuple #[.bool (r.step A).1.over, i64 (r.step A).2.1]) h') : T Try.prog 8 [ptr b, ptr a] h K := by
  apply S8_T
  unfold S8
  (repeat first|refine wx ?_|refine wy ?_|refine wz ?_|refine wv ?_|refine wh ?_)
  unfold S8_j1
  refine readP_open (hp.up 1) fun hv hp => ?_
  (repeat first|refine wx ?_|refine wy ?_|refine wz ?_|refine wv ?_|refine wh ?_)
  unfold Rd.step at hK
  cases hov : r.over with
  | true =>
    rw [hov] at hK
    simp only [if_true] at hK
    (repeat first|refine wx ?_|refine wy ?_|refine wz ?_|refine wv ?_|refine wh ?_)
    have := hK h ((readP_shut hp).up 1)
    rw [hov] at this
    exact this
  | false =>
    rw [hov] at hK
    simp only [Bool.false_eq_true, if_false] at hK
    (repeat first|refine wx ?_|refine wy ?_|refine wz ?_|refine wv ?_|refine wh ?_)
    unfold S8_j2
    (repeat first|refine wx ?_|refine wy ?_|refine wz ?_|refine wv ?_|refine wh ?_)
    have j3 : ∀ (o : Rd × Int × Ar) (f : Nat), (∀ h', All (arP 84 a o.2.2 :: readP b o.1 :: R) h' → K (.tuple #[.bool o.1.over, i64 o.2.1]) h') →
        (∀ K' : Value → GH → Prop, (∀ h' e r', Half o e r' → All (readP b r' :: arP 84 a o.2.2 :: R) h' → K' (i64 e) h') → T Try.prog f [ptr b, ptr a] h K') → S8_j3 (ptr b) (ptr a) (.func (.func f) #[ptr b] #[]) h K := by
      intro o f hK hT
      unfold S8_j3
      refine hT _ fun h' e r' hf hp => ?_
      refine readP_open hp fun hv hp => ?_
      (repeat first|refine wx ?_|refine wy ?_|refine wz ?_|refine wv ?_|refine wh ?_)
      rcases hf with ⟨rfl, e1, rfl⟩ | ⟨e0, e1, er⟩
      · (repeat first|refine wx ?_|refine wy ?_|refine wz ?_|refine wv ?_|refine wh ?_)
        have := hK h' ((readP_shut hp).up 1)
        rw [e1] at this
        exact this
      · refine ifN_cases (fun _ => ?_) fun q => absurd q e0
        (repeat first|refine wx ?_|refine wy ?_|refine wz ?_|refine wv ?_|refine wh ?_)
        refine st0 hp (rdRow { r' with over := true } hv) rfl (by simp) rfl rfl fun h5 hp => ?_
        have z : All (readP b { r' with over := true } :: arP 84 a o.2.2 :: R) h5 := readP_shut hp
        rw [er] at z
        have := hK h5 (z.up 1)
        rw [e1, ← er] at this
        exact this
    cases hh : r.help with
    | some H =>
      rw [hh] at hK
      have hp' := hp
      rw [hh] at hp'
      obtain ⟨hb, rfl, _⟩ := hvP_some hp'
      clear hp'
      (repeat first|refine wx ?_|refine wy ?_|refine wz ?_|refine wv ?_|refine wh ?_)
      exact j3 _ _ hK fun K' hK' => T_rdHelping ((readP_shut hp).up 1) ok hh hov hK'
    | none =>
      rw [hh] at hK
      have hp' := hp
      rw [hh] at hp'
      obtain rfl := hvP_none hp'
      clear hp'
      (repeat first|refine wx ?_|refine wy ?_|refine wz ?_|refine wv ?_|refine wh ?_)
      exact j3 _ _ hK fun K' hK' => T_rdLoad ((readP_shut hp).up 1) ok hh hov hK'
end
end Go.Proofs.Ytbiappodepnbmaa
namespace Go.Proofs.Ytbiappodepnbmaa
open Go GW Go.Proofs
set_option linter.unusedVariables false
set_option linter.unusedSimpArgs false
set_option maxRecDepth 20000
section
variable {a b c : Nat} {A : Ar} {R : List Part} {h : GH} {K : Value → GH → Prop} {r : Rd}
end
end Go.Proofs.Ytbiappodepnbmaa
namespace Go.Proofs.Ytbiappodepnbmaa
open Go GW Go.Proofs
attribute [local irreducible] bnd ldV stV ifV binV eqI
set_option linter.unusedVariables false
set_option linter.unusedSimpArgs false
set_option maxRecDepth 20000
/-- so many steps, until it is over; none: an error -/
def rruns : Nat → Rd → Ar → Bool → Option (Rd × Ar × Bool)
  | 0, r, A, ov => some (r, A, ov)
  | n + 1, r, A, ov =>
    match ov with
    | true => some (r, A, ov)
    | false =>
      match (r.step A).2.1 with
      | 0 => rruns n (r.step A).1 (r.step A).2.2 (r.step A).1.over
      | _ => none
def rawakeA : Ar := shelfA [20, 66] [[⟨1, 2, 7⟩]]
def rawakeFin (r : Option (Rd × Ar × Bool)) : Bool :=
  match r with
  | some (r, A, ov) => ov && r.value == 7
  | none => false
theorem rawake_fin : rawakeFin (rruns 30 (.new 1 0 1) (rawakeA.ld 0) false) = true := by decide +kernel
theorem rawake_zero : plainOf (rawakeA.at 0) = some 5 := by decide +kernel
/-- a reader of a cell that holds a value -/
theorem Rd.step_plain {t q c v : Int} {A : Ar} (e : plainOf (A.at c) = some v) : (Rd.new t q c).step A = (⟨t, q, c, v, none, -1, 0, true⟩, 0, A.ld c) := by
  unfold Rd.step
  simp only [Rd.new, Bool.false_eq_true, if_false]
  unfold Rd.load
  simp only [e]
theorem Rd.step_over {r : Rd} {A : Ar} (e : r.over = true) : r.step A = (r, 0, A) := by
  unfold Rd.step; rw [e]; rfl
section
variable {a b c : Nat} {A B : Ar} {R : List Part} {h : GH} {K : Value → GH → Prop} {r : Rd}
theorem T_rdStepNil (hK : K (.tuple #[.bool false, i64 1]) h) : T Try.prog 8 [ptr b, .pointer none] h K := by
  apply S8_T
  unfold S8
  (repeat first|refine wx ?_|refine wy ?_|refine wz ?_|refine wv ?_|refine wh ?_)
  unfold S8_j1
  (repeat first|refine wx ?_|refine wy ?_|refine wz ?_|refine wv ?_|refine wh ?_)
  exact hK
theorem T_rdNewOk {t q x : Int} (hp : All R h) (m : Rd.may t q x) (ky : ∀ b h', All (readP b (.new t q x) :: R) h' → K (.tuple #[ptr b, i64 0]) h') : T Try.prog 6 [i64 t, i64 q, i64 x] h K :=
  T_readNew hp (fun n => absurd m n) fun _ => ky
theorem T_rawake (hp : All R h) (hK : ∀ h', All R h' → K (.bool true) h') : T Try.prog 4 [] h K := by
  apply S4_T
  unfold S4
  refine bs0 (size := 1) hp ([20, 66].map encI) rfl rfl (by simp) (encI_good _) fun cv h1 hp => ?_
  refine bnd_of (v := encS ⟨1, 2, 7⟩) rfl ?_
  refine bs0 (size := 3) hp ([Sw.mk 1 2 7].map encS) rfl rfl (by simp) (encS_good _) fun sv h2 hp => ?_
  obtain ⟨sa, sc, _, rfl, _⟩ := hp.row
  refine bs0 (size := 1) hp [[.slice sa 1 sc]] rfl rfl (by simp) (fun c hc => by rw [List.mem_singleton.1 hc]; exact ⟨rfl, rfl⟩) fun dv h3 hp => ?_
  refine T_shelf (us := [.slice sa 1 sc]) (cells := [20, 66]) (dss := [[Sw.mk 1 2 7]]) hp (fun h' hp => (hp.up 2).rows) (fun h' hp => ⟨hp.rows, .cons (hp.up 1).rows .nil⟩) (fun x hx => by
    simp only [List.mem_cons, List.not_mem_nil, or_false] at hx; rcases hx with rfl | rfl <;> (constructor <;> decide)) fun a b h4 hp => ?_
  replace hp : All (arP 84 a rawakeA :: R) h4 := hp.re 5 [0]
  have hA : rawakeA.ok := shelfA_ok fun x hx => by
    simp only [List.mem_cons, List.not_mem_nil, or_false] at hx; rcases hx with rfl | rfl <;> (constructor <;> decide)
  (repeat first|refine wx ?_|refine wy ?_|refine wz ?_|refine wv ?_|refine wh ?_)
  refine T_rdNewOk hp (by unfold Rd.may; decide) fun pb h5 hp => ?_
  (repeat first|refine wx ?_|refine wy ?_|refine wz ?_|refine wv ?_|refine wh ?_)
  refine T_rdNewOk hp (by unfold Rd.may; decide) fun qb h6 hp => ?_
  (repeat first|refine wx ?_|refine wy ?_|refine wz ?_|refine wv ?_|refine wh ?_)
  refine T_readNew hp (fun _ h7 hp => ?_) fun m => absurd m (by unfold Rd.may; decide)
  (repeat first|refine wx ?_|refine wy ?_|refine wz ?_|refine wv ?_|refine wh ?_)
  unfold S4_j1
  have pok : (Rd.new 1 0 0).ok := Rd.new_ok (by unfold Rd.may; decide)
  have qok : (Rd.new 1 0 1).ok := Rd.new_ok (by unfold Rd.may; decide)
  replace hp : All (arP 84 a rawakeA :: readP pb (.new 1 0 0) :: readP qb (.new 1 0 1) :: R) h7 := hp.re 3 [2, 1, 0]
  refine T_rdStep hp pok fun h8 hp => ?_
  rw [Rd.step_plain rawake_zero] at hp ⊢
  (repeat first|refine wx ?_|refine wy ?_|refine wz ?_|refine wv ?_|refine wh ?_)
  have fin := rawake_fin
  cases hr : rruns 30 (.new 1 0 1) (rawakeA.ld 0) false with
  | none => rw [hr] at fin; cases fin
  | some z =>
    obtain ⟨r', A', ov'⟩ := z
    rw [hr] at fin
    simp only [rawakeFin, Bool.and_eq_true, beq_iff_eq] at fin
    obtain ⟨rfl, fv⟩ := fin
    refine Lfp_fam (ι := Nat × Rd × Ar × Bool) (fun p => [ptr a, ptr pb, i64 0, ptr qb, i64 0, i64 1500, .bool true, i64 0, .bool p.2.2.2, i64 p.1]) (fun p h' => p.1 ≤ 30 ∧ p.2.1.ok ∧ p.2.2.1.ok ∧ rruns (30 - p.1) p.2.1 p.2.2.1 p.2.2.2 = some (r', A', true) ∧ All (readP qb p.2.1 :: arP 84 a p.2.2.1 :: readP pb ⟨1, 0, 0, 5, none, -1, 0, true⟩ :: R) h') (fun p => 30 - p.1) ?_ (0, .new 1 0 1, rawakeA.ld 0, false) h8 ⟨by omega, qok, hA.ld 0, hr, hp.re 3 [2, 0, 1]⟩
    clear hp
    rintro ⟨i, r, B, ov⟩ h9 X ⟨hi, hG, hB, hq, hp⟩ again
    simp only at hi hG hB hq hp
    simp only [tup_zero, tup_succ]
    have key : (r, B, ov) = (r', A', true) → ∀ s1, S4_j3 s1 (ptr pb) (i64 0) (ptr qb) (i64 0) (i64 1500) (.bool true) (i64 0) (.bool ov) h9 K X := by
      intro e s1
      cases e
      unfold S4_j3
      refine T_rdStepNil ?_
      (repeat first|refine wx ?_|refine wy ?_|refine wz ?_|refine wv ?_|refine wh ?_)
      refine T_rdThrough (hp.up 2) ?_
      (repeat first|refine wx ?_|refine wy ?_|refine wz ?_|refine wv ?_|refine wh ?_)
      refine T_Num ?_
      (repeat first|refine wx ?_|refine wy ?_|refine wz ?_|refine wv ?_|refine wh ?_)
      refine T_Num ?_
      (repeat first|refine wx ?_|refine wy ?_|refine wz ?_|refine wv ?_|refine wh ?_)
      refine T_Num ?_
      (repeat first|refine wx ?_|refine wy ?_|refine wz ?_|refine wv ?_|refine wh ?_)
      refine T_Num ?_
      (repeat first|refine wx ?_|refine wy ?_|refine wz ?_|refine wv ?_|refine wh ?_)
      refine T_rdValue (hp.up 2) ?_
      (repeat first|refine wx ?_|refine wy ?_|refine wz ?_|refine wv ?_|refine wh ?_)
      refine T_rdValue hp ?_
      rw [fv]
      (repeat first|refine wx ?_|refine wy ?_|refine wz ?_|refine wv ?_|refine wh ?_)
      refine T_Num ?_
      (repeat first|refine wx ?_|refine wy ?_|refine wz ?_|refine wv ?_|refine wh ?_)
      exact hK _ hp.tail.tail.tail
    (repeat first|refine wx ?_|refine wy ?_|refine wz ?_|refine wv ?_|refine wh ?_)
    refine ifV_cases (fun c => ?_) fun c => ?_
    · cases ov with
      | true =>
        (repeat first|refine wx ?_|refine wy ?_|refine wz ?_|refine wv ?_|refine wh ?_)
        refine key ?_ _
        obtain ⟨n, hn⟩ : ∃ n, 30 - i = n + 1 := ⟨29 - i, by omega⟩
        rw [hn] at hq
        unfold rruns at hq
        exact Option.some.inj hq
      | false =>
        (repeat first|refine wx ?_|refine wy ?_|refine wz ?_|refine wv ?_|refine wh ?_)
        unfold S4_j2
        obtain ⟨n, hn⟩ : ∃ n, 30 - i = n + 1 := ⟨29 - i, by omega⟩
        rw [hn] at hq
        unfold rruns at hq
        simp only at hq
        refine T_rdStep (hp.up 1) hG fun h10 hp => ?_
        have hst := Rd.step_ok hG hB
        split at hq
        · rename_i e0
          rw [e0]
          (repeat first|refine wx ?_|refine wy ?_|refine wz ?_|refine wv ?_|refine wh ?_)
          refine T_Num ?_
          (repeat first|refine wx ?_|refine wy ?_|refine wz ?_|refine wv ?_|refine wh ?_)
          refine again (i + 1, (r.step B).1, (r.step B).2.2, (r.step B).1.over) _ ⟨by simp only; omega, hst.1, hst.2, ?_, hp.re 2 [1, 0]⟩ (by simp only; omega)
          have en : 30 - (i + 1) = n := by omega
          simp only [en]; exact hq
        · cases hq
    · have : 30 - i = 0 := by omega
      rw [this] at hq
      unfold rruns at hq
      exact key (Option.some.inj hq) _
end
end Go.Proofs.Ytbiappodepnbmaa
