/- Several texts in one, each under its own remark or none; nothing here is a statement on the program. -/
import Derived.Test.YtnhiagemjonglaaGreatKC
namespace Go.Proofs.YtnhiagemjonglaaGreat
open Go GW Go.Proofs
attribute [local irreducible] bnd ldV stV ifV binV eqI
set_option linter.unusedVariables false
set_option linter.unusedSimpArgs false
set_option maxRecDepth 20000
abbrev wcells (w : Wh) (pc : Int) (opn won : Bool) : List Value := [i64 2, i64 0, i64 w.s, i64 w.g, i64 0, i64 0, i64 0, i64 (Form.mcas w.s w.g).number, i64 pc, i64 w.i, i64 w.k, i64 w.cell, i64 w.was, i64 w.put, .bool opn, .bool won, i64 w.x]
abbrev ecells (f : En) (opn : Bool) : List Value := [i64 1, i64 0, i64 f.s, i64 f.g, i64 f.e, i64 f.t, i64 f.q, i64 (Form.entry f.s f.g f.e f.t f.q).number, i64 f.pc, i64 0, i64 0, i64 f.cell, i64 f.was, i64 0, .bool opn, .bool false, i64 0]
abbrev rfRow (c : List Value) : GObj := .row 182 c 17 true
def rcells : Fr → List Value → Prop
  | .who w, c => ∃ (pc : Int) (opn won : Bool), c = wcells w pc opn won ∧ (pc = w.pc ∨ pc = 0 ∧ w.pc = 1) ∧ (w.pc = 7 → opn = w.opn) ∧ (w.pc = 0 ∨ 10 ≤ w.pc ∧ w.pc ≤ 13 → won = w.won)
  | .ent f, c => ∃ opn : Bool, (c = ecells f opn ∨ f.pc = 4 ∧ c = ecells { f with pc := 3 } opn) ∧ (f.pc = 3 → opn = f.opn)
theorem rcells_good {f : Fr} {c : List Value} (h : rcells f c) : good 17 c := by
  cases f with
  | who w => obtain ⟨pc, opn, won, rfl, _⟩ := h; exact ⟨rfl, rfl⟩
  | ent f => obtain ⟨opn, rfl | ⟨_, rfl⟩, _⟩ := h <;> exact ⟨rfl, rfl⟩
theorem val_of_some {x : Int} (h : (plainOf x).isSome = true) : x = valOf x * 4 := by
  unfold valOf
  cases e : plainOf x with
  | none => rw [e] at h; cases h
  | some v =>
    unfold plainOf at e
    split at e
    · rename_i v' er
      cases e
      have := (number_of_read er).2.1
      simp only [Form.number] at this
      simp only [Option.getD_some]; omega
    · cases e
theorem state_iff {x g st : Int} (h : (plainOf x).isSome = true) : (valOf x = 4 * g + st) ↔ (x = stateW g st) := by
  have := val_of_some h
  unfold stateW; omega
section
variable {a c : Nat} {A : Ar} {R : List Part} {h : GH} {K : Value → GH → Prop} {w : Wh} {pc : Int} {opn won : Bool}
theorem T_rBase {s : Int} (h0 : 0 ≤ s) (h1 : s < 12) (hK : K (i64 (baseOf s)) h) : T Tryz.prog 82 [i64 s] h K := by
  apply S82_T
  unfold S82
  refine bnd_of (mul_id (by omega) (by omega)) (bnd_of (add_id (by omega) (by omega)) ?_)
  have e : 34 + 50 * s = baseOf s := by unfold baseOf; omega
  rw [e]; exact hK
theorem T_rValue {x : Int} (h0 : -2305843009213693952 ≤ x) (h1 : x < 2305843009213693952) (hK : K (i64 (x * 4)) h) : T Tryz.prog 81 [i64 x] h K := by
  apply S81_T
  unfold S81
  refine bnd_of (mul_id (by omega) (by omega)) ?_
  have e : 4 * x = x * 4 := by omega
  rw [e]; exact hK
theorem T_rState {g st : Int} (h0 : 0 ≤ g) (h1 : g < 65536) (h2 : 0 ≤ st) (h3 : st < 4) (hK : K (i64 (stateW g st)) h) : T Tryz.prog 80 [i64 g, i64 st] h K := by
  apply S80_T
  unfold S80
  refine bnd_of (mul_id (by omega) (by omega)) (bnd_of (add_id (by omega) (by omega)) (T_rValue (by omega) (by omega) ?_))
  have e : (4 * g + st) * 4 = stateW g st := by unfold stateW; omega
  rw [e]; exact hK
theorem T_rvalue {x most : Int} (hx : I64 x) (hK : K (.tuple #[i64 (valOf x), .bool (isVal x most)]) h) : T Tryz.prog 130 [i64 x, i64 most] h K := by
  apply S130_T
  unfold S130
  refine T_IsValue hx.2 ?_
  (repeat first|refine wx ?_|refine wy ?_|refine wz ?_|refine wv ?_|refine wh ?_)
  refine ifV_bool (fun q => ?_) fun q => ?_
  · (repeat first|refine wx ?_|refine wy ?_|refine wz ?_|refine wv ?_|refine wh ?_)
    unfold isVal at hK
    rw [q, Bool.true_and] at hK
    exact hK
  · unfold isVal at hK
    rw [q, Bool.false_and] at hK
    exact hK
theorem T_rstate {x g : Int} {P : Part} {c0 : List Value} (hp : All (P :: pts c (rfRow c0) :: R) h) (hg : c0[3]? = some (i64 g)) (g0 : 0 ≤ g) (g1 : g < 65536) (hx : I64 x)
    (hK : ∀ o n : Bool, ((plainOf x).isSome = true → o = decide (x = stateW g 0) ∧ n = decide (x = stateW g 1)) → K (.tuple #[.bool o, .bool n, .bool (plainOf x).isSome]) h) : T Tryz.prog 131 [ptr c, i64 x] h K := by
  apply S131_T
  unfold S131
  refine T_IsValue hx.2 ?_
  (repeat first|refine wx ?_|refine wy ?_|refine wz ?_|refine wv ?_|refine wh ?_)
  refine ld1 hp hg ?_
  (repeat first|refine wx ?_|refine wy ?_|refine wz ?_|refine wv ?_|refine wh ?_)
  refine ld1 hp hg ?_
  (repeat first|refine wx ?_|refine wy ?_|refine wz ?_|refine wv ?_|refine wh ?_)
  refine hK _ _ fun q => ⟨decide_eq_decide.2 (state_iff q), decide_eq_decide.2 (state_iff q)⟩
theorem T_rmine {P : Part} {c0 : List Value} {s g : Int} (hp : All (P :: pts c (rfRow c0) :: R) h) (h2 : c0[2]? = some (i64 s)) (h3 : c0[3]? = some (i64 g)) (hs : Life s g) (hK : K (i64 (Form.mcas s g).number) h) : T Tryz.prog 136 [ptr c] h K := by
  apply S136_T
  unfold S136
  (repeat first|refine wx ?_|refine wy ?_|refine wz ?_|refine wv ?_|refine wh ?_)
  refine ld1 hp h2 ?_
  (repeat first|refine wx ?_|refine wy ?_|refine wz ?_|refine wv ?_|refine wh ?_)
  refine ld1 hp h3 ?_
  (repeat first|refine wx ?_|refine wy ?_|refine wz ?_|refine wv ?_|refine wh ?_)
  refine T_PutWord (f := .mcas s g) (may_mcas.2 ⟨hs.s0, hs.s1, hs.g0, hs.g1⟩) ?_
  (repeat first|refine wx ?_|refine wy ?_|refine wz ?_|refine wv ?_|refine wh ?_)
  exact hK
theorem T_rsettle {c0 : List Value} {s g cell was ref : Int} {opn : Bool} (hp : All (arP 140 a A :: pts c (rfRow c0) :: R) h) (h2 : c0[2]? = some (i64 s)) (h3 : c0[3]? = some (i64 g)) (h11 : c0[11]? = some (i64 cell)) (h12 : c0[12]? = some (i64 was)) (h14 : c0[14]? = some (.bool opn)) (hs : Life s g) (hc0 : 0 ≤ cell) (hc1 : cell < 16) (hw : I64 was)
    (hK : ∀ h', All (arP 140 a (A.cas cell ref (if opn then (Form.mcas s g).number else was)) :: pts c (rfRow c0) :: R) h' → K (.tuple #[]) h') : T Tryz.prog 132 [ptr c, ptr a, i64 ref] h K := by
  apply S132_T
  unfold S132
  (repeat first|refine wx ?_|refine wy ?_|refine wz ?_|refine wv ?_|refine wh ?_)
  refine ld1 hp h12 ?_
  (repeat first|refine wx ?_|refine wy ?_|refine wz ?_|refine wv ?_|refine wh ?_)
  refine ld1 hp h14 ?_
  refine ifV_bool (fun q => ?_) fun q => ?_
  · refine T_rmine hp h2 h3 hs ?_
    unfold S132_j1
    (repeat first|refine wx ?_|refine wy ?_|refine wz ?_|refine wv ?_|refine wh ?_)
    refine ld1 hp h11 ?_
    refine L_refSwap hp (by omega) (by omega) (mcas_range hs) fun h' hp => ?_
    rw [if_pos q] at hK
    exact hK _ hp
  · unfold S132_j1
    (repeat first|refine wx ?_|refine wy ?_|refine wz ?_|refine wv ?_|refine wh ?_)
    refine ld1 hp h11 ?_
    refine L_refSwap hp (by omega) (by omega) hw fun h' hp => ?_
    rw [if_neg (by rw [q]; decide)] at hK
    exact hK _ hp
theorem T_rnext {more stop : Nat} (hp : All (pts c (rfRow (wcells w pc opn won)) :: R) h) (i0 : 0 ≤ w.i) (i1 : w.i ≤ 16)
    (hK : ∀ h', All (pts c (rfRow (wcells (w.next more stop) (w.next more stop).pc opn won)) :: R) h' → K (.tuple #[]) h') : T Tryz.prog 134 [ptr c, i64 more, i64 stop] h K := by
  apply S134_T
  unfold S134
  (repeat first|refine wx ?_|refine wy ?_|refine wz ?_|refine wv ?_|refine wh ?_)
  refine st0 hp (rfRow (wcells { w with i := w.i + 1 } pc opn won)) rfl (by simp) rfl rfl fun h' hp => ?_
  (repeat first|refine wx ?_|refine wy ?_|refine wz ?_|refine wv ?_|refine wh ?_)
  refine st0 hp (rfRow (wcells { w with i := w.i + 1 } more opn won)) rfl (by simp) rfl rfl fun h' hp => ?_
  (repeat first|refine wx ?_|refine wy ?_|refine wz ?_|refine wv ?_|refine wh ?_)
  refine ifV_cases (fun q => ?_) fun q => ?_
  · (repeat first|refine wx ?_|refine wy ?_|refine wz ?_|refine wv ?_|refine wh ?_)
    refine st0 hp (rfRow (wcells { w with i := w.i + 1 } stop opn won)) rfl (by simp) rfl rfl fun h' hp => ?_
    have e : w.next more stop = { w with i := w.i + 1, pc := stop } := by unfold Wh.next; rw [if_pos q]
    rw [e] at hK
    exact hK _ hp
  · have e : w.next more stop = { w with i := w.i + 1, pc := more } := by unfold Wh.next; rw [if_neg q]
    rw [e] at hK
    exact hK _ hp
end
end Go.Proofs.YtnhiagemjonglaaGreat
namespace Go.Proofs.YtnhiagemjonglaaGreat
open Go GW Go.Proofs
attribute [local irreducible] bnd ldV stV ifV binV eqI
set_option linter.unusedVariables false
set_option linter.unusedSimpArgs false
set_option maxRecDepth 20000
def numO : Option Form → Int
  | none => 0
  | some f => f.number
def RLeft (a c : Nat) (o : Out) (R : List Part) (K : Int → Bool → GH → Prop) : Prop :=
  ∀ nx ov cs h', (o.good = true → nx = numO o.atop ∧ ov = o.over ∧ rcells o.fr cs) → good 17 cs → All (arP 140 a o.a :: pts c (rfRow cs) :: R) h' → K nx ov h'
section
variable {a c : Nat} {A : Ar} {R : List Part} {h : GH} {K : Value → GH → Prop} {w : Wh} {pc : Int} {opn won : Bool} {t q : Int}
theorem T_rentry {f : En} {opn : Bool} (hp : All (arP 140 a A :: pts c (rfRow (ecells f opn)) :: R) h) (ok : f.ok) (ho : f.pc = 3 → opn = f.opn)
    (hK : RLeft a c (f.step q A) R fun nx ov h => nx = 0 → K (.tuple #[.bool (f.step q A).good, .bool ov]) h) : T Tryz.prog 95 [ptr c, ptr a] h K := by
  apply S95_T
  unfold S95
  have hA := (arP.at hp).2
  have hb : baseOf f.s = 34 + f.s * 50 := rfl
  obtain ⟨s, g, e, t', q', pc, cell, was, opn'⟩ := f
  have hs := ok.life
  have e0 := ok.e0
  have e1 := ok.e1
  have c0 := ok.c0
  have c1 := ok.c1
  have wr := ok.was
  have pc1 := ok.pc1
  simp only at hs e0 e1 c0 c1 wr pc1 ho hb
  have s0 := hs.s0
  have s1 := hs.s1
  (repeat first|refine wx ?_|refine wy ?_|refine wz ?_|refine wv ?_|refine wh ?_)
  refine T_rBase hs.s0 hs.s1 ?_
  have : pc = 0 ∨ pc = 1 ∨ pc = 2 ∨ pc = 3 := by omega
  rcases this with rfl | rfl | rfl | rfl
  · (repeat first|refine wx ?_|refine wy ?_|refine wz ?_|refine wv ?_|refine wh ?_)
    refine L_refLoad' (i := baseOf s + (2 + 3 * e + 0)) hp (by simp only; omega) (by omega) (by omega) fun h' hp => ?_
    (repeat first|refine wx ?_|refine wy ?_|refine wz ?_|refine wv ?_|refine wh ?_)
    refine T_rvalue (Ar.at_range hA _) ?_
    (repeat first|refine wx ?_|refine wy ?_|refine wz ?_|refine wv ?_|refine wh ?_)
    refine st1 hp (rfRow (ecells ⟨s, g, e, t', q', 0, valOf (A.at (baseOf s + (2 + 3 * e + 0))), was, opn'⟩ opn)) rfl (by simp) rfl rfl fun h' hp => ?_
    unfold S95_j1
    (repeat first|refine wx ?_|refine wy ?_|refine wz ?_|refine wv ?_|refine wh ?_)
    refine st1 hp (rfRow (ecells ⟨s, g, e, t', q', 1, valOf (A.at (baseOf s + (2 + 3 * e + 0))), was, opn'⟩ opn)) rfl (by simp) rfl rfl fun h' hp => ?_
    exact hK 0 false _ _ (fun _ => ⟨rfl, rfl, opn, .inl rfl, fun q => by cases q⟩) ⟨rfl, rfl⟩ hp rfl
  · (repeat first|refine wx ?_|refine wy ?_|refine wz ?_|refine wv ?_|refine wh ?_)
    refine L_refLoad' (i := baseOf s + (2 + 3 * e + 1)) hp (by simp only; omega) (by omega) (by omega) fun h' hp => ?_
    (repeat first|refine wx ?_|refine wy ?_|refine wz ?_|refine wv ?_|refine wh ?_)
    refine T_rvalue (Ar.at_range hA _) ?_
    (repeat first|refine wx ?_|refine wy ?_|refine wz ?_|refine wv ?_|refine wh ?_)
    refine st1 hp (rfRow (ecells ⟨s, g, e, t', q', 1, cell, A.at (baseOf s + (2 + 3 * e + 1)), opn'⟩ opn)) rfl (by simp) rfl rfl fun h' hp => ?_
    unfold S95_j1
    (repeat first|refine wx ?_|refine wy ?_|refine wz ?_|refine wv ?_|refine wh ?_)
    refine st1 hp (rfRow (ecells ⟨s, g, e, t', q', 2, cell, A.at (baseOf s + (2 + 3 * e + 1)), opn'⟩ opn)) rfl (by simp) rfl rfl fun h' hp => ?_
    refine hK 0 false _ _ (fun hg => ⟨rfl, rfl, opn, .inl ?_, fun q => by cases q⟩) ⟨rfl, rfl⟩ hp rfl
    have := val_of_some (is_val (most := 1099511627775) hg).2
    simp only [ecells]
    rw [← this]
  · (repeat first|refine wx ?_|refine wy ?_|refine wz ?_|refine wv ?_|refine wh ?_)
    refine L_refLoad hp (by simp only; omega) (by simp only; omega) fun h' hp => ?_
    (repeat first|refine wx ?_|refine wy ?_|refine wz ?_|refine wv ?_|refine wh ?_)
    refine T_rstate hp (g := g) rfl hs.g0 hs.g1 (Ar.at_range hA _) fun o n hon => ?_
    (repeat first|refine wx ?_|refine wy ?_|refine wz ?_|refine wv ?_|refine wh ?_)
    refine st1 hp (rfRow (ecells ⟨s, g, e, t', q', 2, cell, was, opn'⟩ o)) rfl (by simp) rfl rfl fun h' hp => ?_
    unfold S95_j1
    (repeat first|refine wx ?_|refine wy ?_|refine wz ?_|refine wv ?_|refine wh ?_)
    refine st1 hp (rfRow (ecells ⟨s, g, e, t', q', 3, cell, was, opn'⟩ o)) rfl (by simp) rfl rfl fun h' hp => ?_
    exact hK 0 false _ _ (fun hg => ⟨rfl, rfl, o, .inl rfl, fun _ => (hon hg).1⟩) ⟨rfl, rfl⟩ hp rfl
  · (repeat first|refine wx ?_|refine wy ?_|refine wz ?_|refine wv ?_|refine wh ?_)
    refine T_rsettle (s := s) (g := g) (cell := cell) (was := was) (opn := opn) hp rfl rfl rfl rfl rfl hs c0 c1 wr fun h' hp => ?_
    rw [ho rfl] at hp
    exact hK 0 true _ _ (fun hg => ⟨rfl, rfl, opn', .inr ⟨rfl, rfl⟩, fun q => by cases q⟩) ⟨rfl, rfl⟩ hp rfl
/-- a load of a descriptor's count, cell, numbers -/
theorem T_rload (hp : All (arP 140 a A :: pts c (rfRow (wcells w w.pc opn won)) :: R) h) (ok : w.ok) (hpc : w.pc = 2 ∨ w.pc = 3 ∨ w.pc = 4 ∨ w.pc = 10 ∨ w.pc = 11 ∨ w.pc = 12) (hw : w.pc = 0 ∨ 10 ≤ w.pc ∧ w.pc ≤ 13 → won = w.won)
    (hK : RLeft a c (w.step t q A) R fun nx ov h => nx = 0 → K (.tuple #[.bool (w.step t q A).good, .bool ov]) h) : T Tryz.prog 137 [ptr c, ptr a, i64 (baseOf w.s)] h K := by
  apply S137_T
  unfold S137
  have hA := (arP.at hp).2
  have hb : baseOf w.s = 34 + w.s * 50 := rfl
  obtain ⟨s, g, pc, i, k, cell, was, put, x, opn', won'⟩ := w
  have hs := ok.life
  have i0 := ok.i0
  have i2 := ok.i2
  simp only at hpc hs i0 i2 hw hb
  have s0 := hs.s0
  have s1 := hs.s1
  rcases hpc with rfl | rfl | rfl | rfl | rfl | rfl
  · (repeat first|refine wx ?_|refine wy ?_|refine wz ?_|refine wv ?_|refine wh ?_)
    unfold S137_j1
    (repeat first|refine wx ?_|refine wy ?_|refine wz ?_|refine wv ?_|refine wh ?_)
    refine L_refLoad hp (by simp only; omega) (by simp only; omega) fun h' hp => ?_
    (repeat first|refine wx ?_|refine wy ?_|refine wz ?_|refine wv ?_|refine wh ?_)
    refine T_rvalue (Ar.at_range hA _) ?_
    (repeat first|refine wx ?_|refine wy ?_|refine wz ?_|refine wv ?_|refine wh ?_)
    refine st1 hp (rfRow (wcells ⟨s, g, 2, i, valOf (A.at (baseOf s + 1)), cell, was, put, x, opn', won'⟩ 2 opn won)) rfl (by simp) rfl rfl fun h' hp => ?_
    (repeat first|refine wx ?_|refine wy ?_|refine wz ?_|refine wv ?_|refine wh ?_)
    refine st1 hp (rfRow (wcells ⟨s, g, 2, 0, valOf (A.at (baseOf s + 1)), cell, was, put, x, opn', won'⟩ 2 opn won)) rfl (by simp) rfl rfl fun h' hp => ?_
    (repeat first|refine wx ?_|refine wy ?_|refine wz ?_|refine wv ?_|refine wh ?_)
    refine st1 hp (rfRow (wcells ⟨s, g, 3, 0, valOf (A.at (baseOf s + 1)), cell, was, put, x, opn', won'⟩ 3 opn won)) rfl (by simp) rfl rfl fun h' hp => ?_
    (repeat first|refine wx ?_|refine wy ?_|refine wz ?_|refine wv ?_|refine wh ?_)
    refine ifV_cases (fun cz => ?_) fun cz => ?_
    · (repeat first|refine wx ?_|refine wy ?_|refine wz ?_|refine wv ?_|refine wh ?_)
      refine st1 hp (rfRow (wcells ⟨s, g, 8, 0, valOf (A.at (baseOf s + 1)), cell, was, put, x, opn', won'⟩ 8 opn won)) rfl (by simp) rfl rfl fun h' hp => ?_
      unfold S137_j2
      (repeat first|refine wx ?_|refine wy ?_|refine wz ?_|refine wv ?_|refine wh ?_)
      rw [decide_eq_true cz]
      (repeat first|refine wx ?_|refine wy ?_|refine wz ?_|refine wv ?_|refine wh ?_)
      refine hK 0 false _ _ (fun _ => ⟨rfl, rfl, 8, opn, won, ?_, .inl ?_, ?_, ?_⟩) ⟨rfl, rfl⟩ hp rfl
      · simp only [Wh.step]
      · simp only [Wh.step]; rw [if_pos cz]; rfl
      · simp only [Wh.step]; rw [if_pos cz]; intro e; cases e
      · simp only [Wh.step]; rw [if_pos cz]; intro e; exfalso; omega
    · unfold S137_j2
      (repeat first|refine wx ?_|refine wy ?_|refine wz ?_|refine wv ?_|refine wh ?_)
      rw [decide_eq_false cz]
      (repeat first|refine wx ?_|refine wy ?_|refine wz ?_|refine wv ?_|refine wh ?_)
      refine hK 0 false _ _ (fun _ => ⟨rfl, rfl, 3, opn, won, ?_, .inl ?_, ?_, ?_⟩) ⟨rfl, rfl⟩ hp rfl
      · simp only [Wh.step]
      · simp only [Wh.step]; rw [if_neg cz]; rfl
      · simp only [Wh.step]; rw [if_neg cz]; intro e; cases e
      · simp only [Wh.step]; rw [if_neg cz]; intro e; exfalso; omega
  · (repeat first|refine wx ?_|refine wy ?_|refine wz ?_|refine wv ?_|refine wh ?_)
    unfold S137_j1
    (repeat first|refine wx ?_|refine wy ?_|refine wz ?_|refine wv ?_|refine wh ?_)
    unfold S137_j3
    have i2 := i2 (by decide) (by decide) (by decide) (by decide)
    (repeat first|refine wx ?_|refine wy ?_|refine wz ?_|refine wv ?_|refine wh ?_)
    refine L_refLoad' (i := baseOf s + (2 + 3 * i + 0)) hp (by simp only; omega) (by omega) (by omega) fun h' hp => ?_
    (repeat first|refine wx ?_|refine wy ?_|refine wz ?_|refine wv ?_|refine wh ?_)
    refine T_rvalue (Ar.at_range hA _) ?_
    (repeat first|refine wx ?_|refine wy ?_|refine wz ?_|refine wv ?_|refine wh ?_)
    refine st1 hp (rfRow (wcells ⟨s, g, 3, i, k, valOf (A.at (baseOf s + (2 + 3 * i + 0))), was, put, x, opn', won'⟩ 3 opn won)) rfl (by simp) rfl rfl fun h' hp => ?_
    (repeat first|refine wx ?_|refine wy ?_|refine wz ?_|refine wv ?_|refine wh ?_)
    refine st1 hp (rfRow (wcells ⟨s, g, 3, i, k, valOf (A.at (baseOf s + (2 + 3 * i + 0))), was, put, x, opn', won'⟩ 4 opn won)) rfl (by simp) rfl rfl fun h' hp => ?_
    exact hK 0 false _ _ (fun _ => ⟨rfl, rfl, 4, opn, won, rfl, .inl rfl, (fun e => by cases e), fun e => by exfalso; simp only at e; omega⟩) ⟨rfl, rfl⟩ hp rfl
  · (repeat first|refine wx ?_|refine wy ?_|refine wz ?_|refine wv ?_|refine wh ?_)
    unfold S137_j1
    (repeat first|refine wx ?_|refine wy ?_|refine wz ?_|refine wv ?_|refine wh ?_)
    unfold S137_j3
    have i2 := i2 (by decide) (by decide) (by decide) (by decide)
    (repeat first|refine wx ?_|refine wy ?_|refine wz ?_|refine wv ?_|refine wh ?_)
    refine L_refLoad' (i := baseOf s + (2 + 3 * i + 1)) hp (by simp only; omega) (by omega) (by omega) fun h' hp => ?_
    (repeat first|refine wx ?_|refine wy ?_|refine wz ?_|refine wv ?_|refine wh ?_)
    refine T_rvalue (Ar.at_range hA _) ?_
    (repeat first|refine wx ?_|refine wy ?_|refine wz ?_|refine wv ?_|refine wh ?_)
    refine st1 hp (rfRow (wcells ⟨s, g, 3, i, k, cell, A.at (baseOf s + (2 + 3 * i + 1)), put, x, opn', won'⟩ 4 opn won)) rfl (by simp) rfl rfl fun h' hp => ?_
    (repeat first|refine wx ?_|refine wy ?_|refine wz ?_|refine wv ?_|refine wh ?_)
    refine st1 hp (rfRow (wcells ⟨s, g, 3, i, k, cell, A.at (baseOf s + (2 + 3 * i + 1)), put, x, opn', won'⟩ 5 opn won)) rfl (by simp) rfl rfl fun h' hp => ?_
    refine hK 0 false _ _ (fun hg => ⟨rfl, rfl, 5, opn, won, ?_, .inl rfl, (fun e => by cases e), fun e => by exfalso; simp only at e; omega⟩) ⟨rfl, rfl⟩ hp rfl
    have := val_of_some (is_val (most := 1099511627775) hg).2
    simp only [wcells]
    rw [← this]
  · (repeat first|refine wx ?_|refine wy ?_|refine wz ?_|refine wv ?_|refine wh ?_)
    unfold S137_j1
    (repeat first|refine wx ?_|refine wy ?_|refine wz ?_|refine wv ?_|refine wh ?_)
    refine L_refLoad hp (by simp only; omega) (by simp only; omega) fun h' hp => ?_
    (repeat first|refine wx ?_|refine wy ?_|refine wz ?_|refine wv ?_|refine wh ?_)
    refine T_rvalue (Ar.at_range hA _) ?_
    (repeat first|refine wx ?_|refine wy ?_|refine wz ?_|refine wv ?_|refine wh ?_)
    refine st1 hp (rfRow (wcells ⟨s, g, 2, i, valOf (A.at (baseOf s + 1)), cell, was, put, x, opn', won'⟩ 10 opn won)) rfl (by simp) rfl rfl fun h' hp => ?_
    (repeat first|refine wx ?_|refine wy ?_|refine wz ?_|refine wv ?_|refine wh ?_)
    refine st1 hp (rfRow (wcells ⟨s, g, 2, 0, valOf (A.at (baseOf s + 1)), cell, was, put, x, opn', won'⟩ 10 opn won)) rfl (by simp) rfl rfl fun h' hp => ?_
    (repeat first|refine wx ?_|refine wy ?_|refine wz ?_|refine wv ?_|refine wh ?_)
    refine st1 hp (rfRow (wcells ⟨s, g, 3, 0, valOf (A.at (baseOf s + 1)), cell, was, put, x, opn', won'⟩ 11 opn won)) rfl (by simp) rfl rfl fun h' hp => ?_
    have fin : ∀ {h'} (ov : Bool), ov = decide (valOf (A.at (baseOf s + 1)) = 0) → All (arP 140 a (A.ld (baseOf s + 1)) :: pts c (rfRow (wcells ⟨s, g, 3, 0, valOf (A.at (baseOf s + 1)), cell, was, put, x, opn', won'⟩ 11 opn won)) :: R) h' → K (.tuple #[.bool (isVal (A.at (baseOf s + 1)) 16), .bool ov]) h' := by
      intro h' ov eo hp
      exact hK 0 ov _ _ (fun _ => ⟨rfl, eo, 11, opn, won, rfl, .inl rfl, (fun e => by cases e), fun _ => hw (.inr ⟨by decide, by decide⟩)⟩) ⟨rfl, rfl⟩ hp rfl
    (repeat first|refine wx ?_|refine wy ?_|refine wz ?_|refine wv ?_|refine wh ?_)
    refine ifV_cases (fun cz => ?_) fun cz => ?_
    · (repeat first|refine wx ?_|refine wy ?_|refine wz ?_|refine wv ?_|refine wh ?_)
      unfold S137_j2
      (repeat first|refine wx ?_|refine wy ?_|refine wz ?_|refine wv ?_|refine wh ?_)
      rw [decide_eq_true cz]
      (repeat first|refine wx ?_|refine wy ?_|refine wz ?_|refine wv ?_|refine wh ?_)
      exact fin _ (decide_eq_true cz).symm hp
    · unfold S137_j2
      (repeat first|refine wx ?_|refine wy ?_|refine wz ?_|refine wv ?_|refine wh ?_)
      rw [decide_eq_false cz]
      (repeat first|refine wx ?_|refine wy ?_|refine wz ?_|refine wv ?_|refine wh ?_)
      exact fin _ (decide_eq_false cz).symm hp
  · (repeat first|refine wx ?_|refine wy ?_|refine wz ?_|refine wv ?_|refine wh ?_)
    unfold S137_j1
    (repeat first|refine wx ?_|refine wy ?_|refine wz ?_|refine wv ?_|refine wh ?_)
    unfold S137_j3
    have i2 := i2 (by decide) (by decide) (by decide) (by decide)
    (repeat first|refine wx ?_|refine wy ?_|refine wz ?_|refine wv ?_|refine wh ?_)
    refine L_refLoad' (i := baseOf s + (2 + 3 * i + 0)) hp (by simp only; omega) (by omega) (by omega) fun h' hp => ?_
    (repeat first|refine wx ?_|refine wy ?_|refine wz ?_|refine wv ?_|refine wh ?_)
    refine T_rvalue (Ar.at_range hA _) ?_
    (repeat first|refine wx ?_|refine wy ?_|refine wz ?_|refine wv ?_|refine wh ?_)
    refine st1 hp (rfRow (wcells ⟨s, g, 3, i, k, valOf (A.at (baseOf s + (2 + 3 * i + 0))), was, put, x, opn', won'⟩ 11 opn won)) rfl (by simp) rfl rfl fun h' hp => ?_
    (repeat first|refine wx ?_|refine wy ?_|refine wz ?_|refine wv ?_|refine wh ?_)
    refine st1 hp (rfRow (wcells ⟨s, g, 3, i, k, valOf (A.at (baseOf s + (2 + 3 * i + 0))), was, put, x, opn', won'⟩ 12 opn won)) rfl (by simp) rfl rfl fun h' hp => ?_
    exact hK 0 false _ _ (fun _ => ⟨rfl, rfl, 12, opn, won, rfl, .inl rfl, (fun e => by cases e), fun _ => hw (.inr ⟨by decide, by decide⟩)⟩) ⟨rfl, rfl⟩ hp rfl
  · (repeat first|refine wx ?_|refine wy ?_|refine wz ?_|refine wv ?_|refine wh ?_)
    unfold S137_j1
    (repeat first|refine wx ?_|refine wy ?_|refine wz ?_|refine wv ?_|refine wh ?_)
    unfold S137_j3
    (repeat first|refine wx ?_|refine wy ?_|refine wz ?_|refine wv ?_|refine wh ?_)
    unfold S137_j4
    have i2 := i2 (by decide) (by decide) (by decide) (by decide)
    have hwn : won = won' := hw (.inr ⟨by decide, by decide⟩)
    have key : ∀ (p j : Int), 0 < p → p < 3 → (p = if won' = true then 2 else 1) → j = baseOf s + (2 + 3 * i + p) → S137_j5 (ptr c) (ptr a) (i64 j) h K := by
      intro p j p0 p3 e ej
      unfold S137_j5
      refine L_refLoad' (i := baseOf s + (2 + 3 * i + p)) hp ej (by omega) (by omega) fun h' hp => ?_
      (repeat first|refine wx ?_|refine wy ?_|refine wz ?_|refine wv ?_|refine wh ?_)
      refine T_rvalue (Ar.at_range hA _) ?_
      (repeat first|refine wx ?_|refine wy ?_|refine wz ?_|refine wv ?_|refine wh ?_)
      refine st1 hp (rfRow (wcells ⟨s, g, 3, i, k, cell, was, put, A.at (baseOf s + (2 + 3 * i + p)), opn', won'⟩ 12 opn won)) rfl (by simp) rfl rfl fun h' hp => ?_
      (repeat first|refine wx ?_|refine wy ?_|refine wz ?_|refine wv ?_|refine wh ?_)
      refine st1 hp (rfRow (wcells ⟨s, g, 3, i, k, cell, was, put, A.at (baseOf s + (2 + 3 * i + p)), opn', won'⟩ 13 opn won)) rfl (by simp) rfl rfl fun h' hp => ?_
      subst e
      refine hK 0 false _ _ (fun hg => ⟨rfl, rfl, 13, opn, won, ?_, .inl rfl, (fun e => by cases e), fun _ => hwn⟩) ⟨rfl, rfl⟩ hp rfl
      have := val_of_some (is_val (most := 1099511627775) hg).2
      simp only [wcells]
      rw [← this]
    (repeat first|refine wx ?_|refine wy ?_|refine wz ?_|refine wv ?_|refine wh ?_)
    refine ifV_bool (fun cz => ?_) fun cz => ?_
    · (repeat first|refine wx ?_|refine wy ?_|refine wz ?_|refine wv ?_|refine wh ?_)
      exact key 2 _ (by decide) (by decide) (by rw [← hwn, if_pos cz]) (by simp only; omega)
    · exact key 1 _ (by decide) (by decide) (by rw [← hwn, if_neg (by rw [cz]; decide)]) (by simp only; omega)
end
end Go.Proofs.YtnhiagemjonglaaGreat
namespace Go.Proofs.YtnhiagemjonglaaGreat
open Go GW Go.Proofs
attribute [local irreducible] bnd ldV stV ifV binV eqI
set_option linter.unusedVariables false
set_option linter.unusedSimpArgs false
set_option maxRecDepth 20000
section
variable {a c : Nat} {A : Ar} {R : List Part} {h : GH} {K : Value → GH → Prop} {w : Wh} {pc : Int} {opn won : Bool} {t q : Int}
theorem Wh.step5 (e : w.pc = 5) : w.step t q A = w.swapIn t q A := by
  unfold Wh.step; rw [e]; rfl
theorem plain_wd : (Form.val 0).plain.enc = [i64 0, i64 0, i64 0, i64 0, i64 0, i64 0, i64 0] := rfl
theorem mcas_number_inj {s g : Int} {x : Int} {f : Form} (hs : Life s g) (hr : read x = some f) : (x = (Form.mcas s g).number) ↔ f = .mcas s g := by
  have hm := number_of_read hr
  have h2 : (Form.mcas s g).may = true := may_mcas.2 ⟨hs.s0, hs.s1, hs.g0, hs.g1⟩
  constructor
  · intro e
    exact number_inj hm.1 h2 (by rw [hm.2.1]; exact e)
  · rintro rfl; exact hm.2.1.symm
theorem T_rfirst (hp : All (arP 140 a A :: pts c (rfRow (wcells { w with put := (Form.entry w.s w.g w.i t q).number } 5 opn won)) :: R) h) (hpc : w.pc = 5) (ok : w.ok) (t0 : 0 ≤ t) (t1 : t < 4) (q0 : 0 ≤ q) (q1 : q < 1048576)
    (hK : RLeft a c (w.step t q A) R fun nx ov h => K (.tuple #[i64 nx, .bool (w.step t q A).good, .bool ov]) h) : T Tryz.prog 133 [ptr c, ptr a] h K := by
  apply S133_T
  unfold S133
  have i2 := ok.i2 (by rw [hpc]; decide) (by rw [hpc]; decide) (by rw [hpc]; decide) (by rw [hpc]; decide)
  have i0 := ok.i0
  have i1 := ok.i1
  have hn := entry_range ok.life i0 i2 t0 t1 q0 q1
  have hA := (arP.at hp).2
  have hx := Ar.at_range hA w.cell
  rw [Wh.step5 hpc] at hK
  unfold Wh.swapIn at hK
  (repeat first|refine wx ?_|refine wy ?_|refine wz ?_|refine wv ?_|refine wh ?_)
  refine L_refSwap hp (by simp only; exact ok.c0) (by simp only; exact Int.lt_trans ok.c1 (by decide)) hn fun h' hp => ?_
  (repeat first|refine wx ?_|refine wy ?_|refine wz ?_|refine wv ?_|refine wh ?_)
  refine T_GetWord hx.2 ?_
  (repeat first|refine wx ?_|refine wy ?_|refine wz ?_|refine wv ?_|refine wh ?_)
  refine nwst hp (.row 132 (wOf (A.at w.cell)).enc 7 true) rfl rfl rfl (by rfl) fun d h' hp => ?_
  (repeat first|refine wx ?_|refine wy ?_|refine wz ?_|refine wv ?_|refine wh ?_)
  refine ifV_cases (fun cz => ?_) fun cz => ?_
  · simp only [if_pos cz] at hK
    (repeat first|refine wx ?_|refine wy ?_|refine wz ?_|refine wv ?_|refine wh ?_)
    refine st2 hp (rfRow (wcells { w with put := (Form.entry w.s w.g w.i t q).number } 6 opn won)) rfl (by simp) rfl rfl fun h' hp => ?_
    exact hK 0 false _ _ (fun _ => ⟨rfl, rfl, 6, opn, won, rfl, .inl rfl, (fun e => by cases e), fun e => by exfalso; simp only at e; omega⟩) ⟨rfl, rfl⟩ hp.tail
  simp only [if_neg cz] at hK
  cases hr : read (A.at w.cell) with
  | none =>
    rw [hr] at hK
    have e0 : eOf (A.at w.cell) = 100 := by unfold eOf; rw [hr]
    rw [e0]
    (repeat first|refine wx ?_|refine wy ?_|refine wz ?_|refine wv ?_|refine wh ?_)
    exact hK 0 false _ _ (fun e => by cases e) ⟨rfl, rfl⟩ hp.tail
  | some f =>
    rw [hr] at hK
    have hm := number_of_read hr
    have e0 : eOf (A.at w.cell) = 0 := by unfold eOf; rw [hr]
    have ew : wOf (A.at w.cell) = f.plain := by unfold wOf; rw [hr]
    rw [ew] at hp
    rw [e0]
    (repeat first|refine wx ?_|refine wy ?_|refine wz ?_|refine wv ?_|refine wh ?_)
    refine T_rmine hp.tail rfl rfl ok.life ?_
    (repeat first|refine wx ?_|refine wy ?_|refine wz ?_|refine wv ?_|refine wh ?_)
    refine ifV_cases (fun c1 => ?_) fun c1 => ?_
    · have ef := (mcas_number_inj ok.life hr).1 c1
      subst ef
      simp only [and_self, if_true] at hK
      refine T_rnext (w := { w with put := (Form.entry w.s w.g w.i t q).number }) (more := 3) (stop := 8) (hp.re 3 [2, 1]) i0 i1 fun h' hp => ?_
      refine hK 0 false _ _ (fun _ => ⟨rfl, rfl, _, opn, won, rfl, .inl rfl, ?_, ?_⟩) ⟨rfl, rfl⟩ (hp.up 1)
      · intro e; exfalso; revert e; simp only [Wh.next]; split <;> (intro e; cases e)
      · intro e; exfalso; revert e; simp only [Wh.next]; split <;> (intro e; omega)
    have ef : f ≠ .mcas w.s w.g := fun e => c1 ((mcas_number_inj ok.life hr).2 e)
    cases f with
    | val v =>
      (repeat first|refine wx ?_|refine wy ?_|refine wz ?_|refine wv ?_|refine wh ?_)
      refine st2 hp (rfRow (wcells { w with put := (Form.entry w.s w.g w.i t q).number } 9 opn won)) rfl (by simp) rfl rfl fun h' hp => ?_
      exact hK 0 false _ _ (fun _ => ⟨rfl, rfl, 9, opn, won, rfl, .inl rfl, (fun e => by cases e), fun e => by exfalso; simp only at e; omega⟩) ⟨rfl, rfl⟩ hp.tail
    | entry s' g' e' t' q' =>
      (repeat first|refine wx ?_|refine wy ?_|refine wz ?_|refine wv ?_|refine wh ?_)
      exact hK _ false _ _ (fun _ => ⟨hm.2.1.symm, rfl, 5, opn, won, rfl, .inl (by simp only [hpc]; rfl), (fun e => by simp only [hpc] at e; cases e), fun e => by exfalso; simp only [hpc] at e; omega⟩) ⟨rfl, rfl⟩ hp.tail
    | mcas s' g' =>
      have hn : ¬ (s' = w.s ∧ g' = w.g) := fun ⟨e1, e2⟩ => ef (by rw [e1, e2])
      simp only [if_neg hn] at hK
      (repeat first|refine wx ?_|refine wy ?_|refine wz ?_|refine wv ?_|refine wh ?_)
      refine st2 hp (rfRow (wcells { w with put := (Form.entry w.s w.g w.i t q).number, x := A.at w.cell } 5 opn won)) rfl (by simp) rfl rfl fun h' hp => ?_
      (repeat first|refine wx ?_|refine wy ?_|refine wz ?_|refine wv ?_|refine wh ?_)
      refine st2 hp (rfRow (wcells { w with put := (Form.entry w.s w.g w.i t q).number, x := A.at w.cell } 14 opn won)) rfl (by simp) rfl rfl fun h' hp => ?_
      exact hK 0 false _ _ (fun _ => ⟨rfl, rfl, 14, opn, won, rfl, .inl rfl, (fun e => by cases e), fun e => by exfalso; simp only at e; omega⟩) ⟨rfl, rfl⟩ hp.tail
/-- a step of a descriptor's frame; the reference that it puts was made ready -/
theorem T_rhelp (hp : All (arP 140 a A :: pts c (rfRow (wcells (if w.pc = 5 then { w with put := (Form.entry w.s w.g w.i t q).number } else w) pc opn won)) :: R) h) (ok : w.ok) (t0 : 0 ≤ t) (t1 : t < 4) (q0 : 0 ≤ q) (q1 : q < 1048576)
    (h1 : pc = w.pc ∨ pc = 0 ∧ w.pc = 1) (h2 : w.pc = 7 → opn = w.opn) (h3 : w.pc = 0 ∨ 10 ≤ w.pc ∧ w.pc ≤ 13 → won = w.won)
    (hK : RLeft a c (w.step t q A) R fun nx ov h => K (.tuple #[i64 nx, .bool (w.step t q A).good, .bool ov]) h) : T Tryz.prog 96 [ptr c, ptr a] h K := by
  apply S96_T
  unfold S96
  have hA := (arP.at hp).2
  have hs := ok.life
  have s0 := hs.s0
  have s1 := hs.s1
  have hb : baseOf w.s = 34 + w.s * 50 := rfl
  have p1 := ok.pc1
  have p0 := ok.pc0
  by_cases h5 : w.pc = 5
  · rw [if_pos h5] at hp
    have e : pc = 5 := by omega
    subst e
    (repeat first|refine wx ?_|refine wy ?_|refine wz ?_|refine wv ?_|refine wh ?_)
    refine T_rBase s0 s1 ?_
    (repeat first|refine wx ?_|refine wy ?_|refine wz ?_|refine wv ?_|refine wh ?_)
    unfold S96_j1
    (repeat first|refine wx ?_|refine wy ?_|refine wz ?_|refine wv ?_|refine wh ?_)
    refine T_rfirst hp h5 ok t0 t1 q0 q1 ?_
    intro nx ov cs h' e1 e2 hp
    (repeat first|refine wx ?_|refine wy ?_|refine wz ?_|refine wv ?_|refine wh ?_)
    exact hK nx ov cs _ e1 e2 hp
  rw [if_neg h5] at hp
  have i0 := ok.i0
  have i1 := ok.i1
  have c0 := ok.c0
  have c1 := ok.c1
  have wr := ok.was
  have xr := ok.x
  by_cases hl : w.pc = 2 ∨ w.pc = 3 ∨ w.pc = 4 ∨ w.pc = 10 ∨ w.pc = 11 ∨ w.pc = 12
  · have e : pc = w.pc := by omega
    subst e
    (repeat first|refine wx ?_|refine wy ?_|refine wz ?_|refine wv ?_|refine wh ?_)
    refine T_rBase s0 s1 ?_
    (repeat first|refine wx ?_|refine wy ?_|refine wz ?_|refine wv ?_|refine wh ?_)
    have j4 : S96_j4 (ptr c) (ptr a) (i64 (baseOf w.s)) h K := by
      unfold S96_j4
      refine T_rload (t := t) (q := q) hp ok hl h3 ?_
      intro nx ov cs h' e1 e2 hp en
      (repeat first|refine wx ?_|refine wy ?_|refine wz ?_|refine wv ?_|refine wh ?_)
      subst en
      exact hK 0 ov cs _ e1 e2 hp
    rw [decide_eq_false (show ¬ ((w.pc : Int) = 0) by omega)]
    (repeat first|refine wx ?_|refine wy ?_|refine wz ?_|refine wv ?_|refine wh ?_)
    rw [decide_eq_false (show ¬ ((w.pc : Int) = 1) by omega)]
    unfold S96_j1
    (repeat first|refine wx ?_|refine wy ?_|refine wz ?_|refine wv ?_|refine wh ?_)
    rw [decide_eq_false (show ¬ ((w.pc : Int) = 5) by omega)]
    (repeat first|refine wx ?_|refine wy ?_|refine wz ?_|refine wv ?_|refine wh ?_)
    rw [decide_eq_false (show ¬ ((w.pc : Int) = 6) by omega)]
    (repeat first|refine wx ?_|refine wy ?_|refine wz ?_|refine wv ?_|refine wh ?_)
    rw [decide_eq_false (show ¬ ((w.pc : Int) = 7) by omega)]
    (repeat first|refine wx ?_|refine wy ?_|refine wz ?_|refine wv ?_|refine wh ?_)
    rw [decide_eq_false (show ¬ ((w.pc : Int) = 8) by omega)]
    (repeat first|refine wx ?_|refine wy ?_|refine wz ?_|refine wv ?_|refine wh ?_)
    rw [decide_eq_false (show ¬ ((w.pc : Int) = 9) by omega)]
    unfold S96_j2
    (repeat first|refine wx ?_|refine wy ?_|refine wz ?_|refine wv ?_|refine wh ?_)
    rw [decide_eq_false (show ¬ ((w.pc : Int) = 13) by omega)]
    (repeat first|refine wx ?_|refine wy ?_|refine wz ?_|refine wv ?_|refine wh ?_)
    rw [decide_eq_false (show ¬ ((w.pc : Int) = 14) by omega)]
    (repeat first|refine wx ?_|refine wy ?_|refine wz ?_|refine wv ?_|refine wh ?_)
    exact j4
  obtain ⟨s, g, wpc, i, k, cell, was, put, x, opn', won'⟩ := w
  simp only at hs s0 s1 hb p1 p0 h5 i0 i1 c0 c1 wr xr hl h1 h2 h3
  have : wpc = 1 ∨ wpc = 6 ∨ wpc = 7 ∨ wpc = 8 ∨ wpc = 9 ∨ wpc = 13 ∨ wpc = 14 := by omega
  rcases this with rfl | rfl | rfl | rfl | rfl | rfl | rfl
  · have key : ∀ v : Value, S96_j1 (ptr c) (ptr a) (i64 (baseOf s)) v (.bool true) h K := by
      intro v
      unfold S96_j1
      (repeat first|refine wx ?_|refine wy ?_|refine wz ?_|refine wv ?_|refine wh ?_)
      refine L_refLoad hp (by (first | omega | (simp only; omega))) (by (first | omega | (simp only; omega))) fun h' hp => ?_
      (repeat first|refine wx ?_|refine wy ?_|refine wz ?_|refine wv ?_|refine wh ?_)
      refine T_rstate hp (g := g) rfl hs.g0 hs.g1 (Ar.at_range hA _) fun o n hon => ?_
      (repeat first|refine wx ?_|refine wy ?_|refine wz ?_|refine wv ?_|refine wh ?_)
      refine st1 hp (rfRow (wcells ⟨s, g, 1, i, k, cell, was, put, x, opn', won'⟩ pc opn n)) rfl (by simp) rfl rfl fun h' hp => ?_
      (repeat first|refine wx ?_|refine wy ?_|refine wz ?_|refine wv ?_|refine wh ?_)
      refine st1 hp (rfRow (wcells ⟨s, g, 1, i, k, cell, was, put, x, opn', won'⟩ 10 opn n)) rfl (by simp) rfl rfl fun h' hp => ?_
      refine ifV_bool (fun co => ?_) fun co => ?_
      · (repeat first|refine wx ?_|refine wy ?_|refine wz ?_|refine wv ?_|refine wh ?_)
        refine st1 hp (rfRow (wcells ⟨s, g, 1, i, k, cell, was, put, x, opn', won'⟩ 2 opn n)) rfl (by simp) rfl rfl fun h' hp => ?_
        refine hK 0 false _ _ (fun hg => ⟨rfl, rfl, 2, opn, n, rfl, .inl ?_, ?_, ?_⟩) ⟨rfl, rfl⟩ hp
        · have := (hon hg).1; rw [co] at this; simp only [Wh.step]; rw [← this]; rfl
        · have := (hon hg).1; rw [co] at this; simp only [Wh.step]; rw [← this]; intro e; cases e
        · have := (hon hg).1; rw [co] at this; simp only [Wh.step]; rw [← this]; intro e; simp at e
      · refine hK 0 false _ _ (fun hg => ⟨rfl, rfl, 10, opn, n, rfl, .inl ?_, ?_, ?_⟩) ⟨rfl, rfl⟩ hp
        · have := (hon hg).1; rw [co] at this; simp only [Wh.step]; rw [← this]; rfl
        · have := (hon hg).1; rw [co] at this; simp only [Wh.step]; rw [← this]; intro e; cases e
        · intro _; exact (hon hg).2
    rcases h1 with rfl | ⟨rfl, _⟩
    · (repeat first|refine wx ?_|refine wy ?_|refine wz ?_|refine wv ?_|refine wh ?_)
      refine T_rBase s0 s1 ?_
      (repeat first|refine wx ?_|refine wy ?_|refine wz ?_|refine wv ?_|refine wh ?_)
      exact key _
    · (repeat first|refine wx ?_|refine wy ?_|refine wz ?_|refine wv ?_|refine wh ?_)
      refine T_rBase s0 s1 ?_
      (repeat first|refine wx ?_|refine wy ?_|refine wz ?_|refine wv ?_|refine wh ?_)
      exact key _
  · have e : pc = 6 := by omega
    subst e
    (repeat first|refine wx ?_|refine wy ?_|refine wz ?_|refine wv ?_|refine wh ?_)
    refine T_rBase s0 s1 ?_
    (repeat first|refine wx ?_|refine wy ?_|refine wz ?_|refine wv ?_|refine wh ?_)
    unfold S96_j1
    (repeat first|refine wx ?_|refine wy ?_|refine wz ?_|refine wv ?_|refine wh ?_)
    refine L_refLoad hp (by (first | omega | (simp only; omega))) (by (first | omega | (simp only; omega))) fun h' hp => ?_
    (repeat first|refine wx ?_|refine wy ?_|refine wz ?_|refine wv ?_|refine wh ?_)
    refine T_rstate hp (g := g) rfl hs.g0 hs.g1 (Ar.at_range hA _) fun o n hon => ?_
    (repeat first|refine wx ?_|refine wy ?_|refine wz ?_|refine wv ?_|refine wh ?_)
    refine st1 hp (rfRow (wcells ⟨s, g, 6, i, k, cell, was, put, x, opn', won'⟩ 6 o won)) rfl (by simp) rfl rfl fun h' hp => ?_
    (repeat first|refine wx ?_|refine wy ?_|refine wz ?_|refine wv ?_|refine wh ?_)
    refine st1 hp (rfRow (wcells ⟨s, g, 7, i, k, cell, was, put, x, opn', won'⟩ 7 o won)) rfl (by simp) rfl rfl fun h' hp => ?_
    exact hK 0 false _ _ (fun hg => ⟨rfl, rfl, 7, o, won, rfl, .inl rfl, fun _ => (hon hg).1, fun e => by exfalso; simp only at e; omega⟩) ⟨rfl, rfl⟩ hp
  · have e : pc = 7 := by omega
    subst e
    have eo := h2 rfl
    subst eo
    (repeat first|refine wx ?_|refine wy ?_|refine wz ?_|refine wv ?_|refine wh ?_)
    refine T_rBase s0 s1 ?_
    (repeat first|refine wx ?_|refine wy ?_|refine wz ?_|refine wv ?_|refine wh ?_)
    unfold S96_j1
    (repeat first|refine wx ?_|refine wy ?_|refine wz ?_|refine wv ?_|refine wh ?_)
    refine T_rsettle (s := s) (g := g) (cell := cell) (was := was) (opn := opn) hp rfl rfl rfl rfl rfl hs c0 c1 wr fun h' hp => ?_
    refine T_rnext (w := ⟨s, g, 7, i, k, cell, was, put, x, opn, won'⟩) (more := 3) (stop := 8) (hp.up 1) i0 i1 fun h' hp => ?_
    refine hK 0 false _ _ (fun _ => ⟨rfl, rfl, _, opn, won, rfl, .inl rfl, ?_, ?_⟩) ⟨rfl, rfl⟩ (hp.up 1)
    · intro e; exfalso; revert e; simp only [Wh.next]; split <;> (intro e; cases e)
    · intro e; exfalso; revert e; simp only [Wh.next]; split <;> (intro e; omega)
  · have e : pc = 8 := by omega
    subst e
    (repeat first|refine wx ?_|refine wy ?_|refine wz ?_|refine wv ?_|refine wh ?_)
    refine T_rBase s0 s1 ?_
    (repeat first|refine wx ?_|refine wy ?_|refine wz ?_|refine wv ?_|refine wh ?_)
    unfold S96_j1
    (repeat first|refine wx ?_|refine wy ?_|refine wz ?_|refine wv ?_|refine wh ?_)
    unfold S96_j2
    (repeat first|refine wx ?_|refine wy ?_|refine wz ?_|refine wv ?_|refine wh ?_)
    unfold S96_j3
    (repeat first|refine wx ?_|refine wy ?_|refine wz ?_|refine wv ?_|refine wh ?_)
    refine T_rState hs.g0 hs.g1 (by decide) (by decide) ?_
    (repeat first|refine wx ?_|refine wy ?_|refine wz ?_|refine wv ?_|refine wh ?_)
    refine T_rState hs.g0 hs.g1 (by decide) (by decide) ?_
    refine L_refSwap hp (by (first | omega | (simp only; omega))) (by (first | omega | (simp only; omega))) (stateW_range hs.g0 hs.g1 (by decide) (by decide)) fun h' hp => ?_
    (repeat first|refine wx ?_|refine wy ?_|refine wz ?_|refine wv ?_|refine wh ?_)
    refine st1 hp (rfRow (wcells ⟨s, g, 8, i, k, cell, was, put, x, opn', won'⟩ 1 opn won)) rfl (by simp) rfl rfl fun h' hp => ?_
    exact hK 0 false _ _ (fun _ => ⟨rfl, rfl, 1, opn, won, rfl, .inl rfl, (fun e => by cases e), fun e => by exfalso; simp only at e; omega⟩) ⟨rfl, rfl⟩ hp
  · have e : pc = 9 := by omega
    subst e
    (repeat first|refine wx ?_|refine wy ?_|refine wz ?_|refine wv ?_|refine wh ?_)
    refine T_rBase s0 s1 ?_
    (repeat first|refine wx ?_|refine wy ?_|refine wz ?_|refine wv ?_|refine wh ?_)
    unfold S96_j1
    (repeat first|refine wx ?_|refine wy ?_|refine wz ?_|refine wv ?_|refine wh ?_)
    unfold S96_j2
    (repeat first|refine wx ?_|refine wy ?_|refine wz ?_|refine wv ?_|refine wh ?_)
    unfold S96_j3
    (repeat first|refine wx ?_|refine wy ?_|refine wz ?_|refine wv ?_|refine wh ?_)
    refine T_rState hs.g0 hs.g1 (by decide) (by decide) ?_
    (repeat first|refine wx ?_|refine wy ?_|refine wz ?_|refine wv ?_|refine wh ?_)
    refine T_rState hs.g0 hs.g1 (by decide) (by decide) ?_
    refine L_refSwap hp (by (first | omega | (simp only; omega))) (by (first | omega | (simp only; omega))) (stateW_range hs.g0 hs.g1 (by decide) (by decide)) fun h' hp => ?_
    (repeat first|refine wx ?_|refine wy ?_|refine wz ?_|refine wv ?_|refine wh ?_)
    refine st1 hp (rfRow (wcells ⟨s, g, 9, i, k, cell, was, put, x, opn', won'⟩ 1 opn won)) rfl (by simp) rfl rfl fun h' hp => ?_
    exact hK 0 false _ _ (fun _ => ⟨rfl, rfl, 1, opn, won, rfl, .inl rfl, (fun e => by cases e), fun e => by exfalso; simp only at e; omega⟩) ⟨rfl, rfl⟩ hp
  · have e : pc = 13 := by omega
    subst e
    (repeat first|refine wx ?_|refine wy ?_|refine wz ?_|refine wv ?_|refine wh ?_)
    refine T_rBase s0 s1 ?_
    (repeat first|refine wx ?_|refine wy ?_|refine wz ?_|refine wv ?_|refine wh ?_)
    unfold S96_j1
    (repeat first|refine wx ?_|refine wy ?_|refine wz ?_|refine wv ?_|refine wh ?_)
    unfold S96_j2
    (repeat first|refine wx ?_|refine wy ?_|refine wz ?_|refine wv ?_|refine wh ?_)
    refine T_rmine hp rfl rfl hs ?_
    (repeat first|refine wx ?_|refine wy ?_|refine wz ?_|refine wv ?_|refine wh ?_)
    refine L_refSwap hp (by (first | omega | (simp only; omega))) (by (first | omega | (simp only; omega))) xr fun h' hp => ?_
    refine T_rnext (w := ⟨s, g, 13, i, k, cell, was, put, x, opn', won'⟩) (more := 11) (stop := 0) (hp.up 1) i0 i1 fun h' hp => ?_
    (repeat first|refine wx ?_|refine wy ?_|refine wz ?_|refine wv ?_|refine wh ?_)
    refine hK 0 _ _ _ (fun _ => ⟨rfl, ?_, _, opn, won, rfl, .inl rfl, ?_, ?_⟩) ⟨rfl, rfl⟩ (hp.up 1)
    · refine decide_eq_decide.2 ?_
      simp only [Wh.next]
      split <;> simp_all
    · intro e; exfalso; revert e; simp only [Wh.next]; split <;> (intro e; cases e)
    · intro _; exact h3 (.inr ⟨by decide, by decide⟩)
  · have e : pc = 14 := by omega
    subst e
    (repeat first|refine wx ?_|refine wy ?_|refine wz ?_|refine wv ?_|refine wh ?_)
    refine T_rBase s0 s1 ?_
    (repeat first|refine wx ?_|refine wy ?_|refine wz ?_|refine wv ?_|refine wh ?_)
    unfold S96_j1
    (repeat first|refine wx ?_|refine wy ?_|refine wz ?_|refine wv ?_|refine wh ?_)
    unfold S96_j2
    (repeat first|refine wx ?_|refine wy ?_|refine wz ?_|refine wv ?_|refine wh ?_)
    refine L_refLoad hp (by (first | omega | (simp only; omega))) (by (first | omega | (simp only; omega))) fun h' hp => ?_
    (repeat first|refine wx ?_|refine wy ?_|refine wz ?_|refine wv ?_|refine wh ?_)
    refine T_rstate hp (g := g) rfl hs.g0 hs.g1 (Ar.at_range hA _) fun o n hon => ?_
    have eg : ((Wh.mk s g 14 i k cell was put x opn' won').step t q A).good = (plainOf (A.at (baseOf s))).isSome ∧ ((Wh.mk s g 14 i k cell was put x opn' won').step t q A).a = A.ld (baseOf s) := by
      simp only [Wh.step]; split <;> exact ⟨rfl, rfl⟩
    (repeat first|refine wx ?_|refine wy ?_|refine wz ?_|refine wv ?_|refine wh ?_)
    refine ifV_bool (fun co => ?_) fun co => ?_
    · (repeat first|refine wx ?_|refine wy ?_|refine wz ?_|refine wv ?_|refine wh ?_)
      refine st1 hp (rfRow (wcells ⟨s, g, 14, i, k, cell, was, put, x, opn', won'⟩ 5 opn won)) rfl (by simp) rfl rfl fun h' hp => ?_
      (repeat first|refine wx ?_|refine wy ?_|refine wz ?_|refine wv ?_|refine wh ?_)
      have := hK x false (wcells ⟨s, g, 14, i, k, cell, was, put, x, opn', won'⟩ 5 opn won) h' (fun hg => ?_) ⟨rfl, rfl⟩ (by rw [eg.2]; exact hp)
      · rw [eg.1] at this; exact this
      · rw [eg.1] at hg
        have h0 := (hon hg).1
        rw [co] at h0
        obtain ⟨s', g', hr⟩ := ok.ref rfl
        simp only at hr
        simp only [Wh.step]
        rw [if_pos h0.symm]
        exact ⟨by rw [hr]; exact (number_of_read hr).2.1.symm, rfl, 5, opn, won, rfl, .inl rfl, (fun e => by cases e), fun e => by exfalso; simp only at e; omega⟩
    · (repeat first|refine wx ?_|refine wy ?_|refine wz ?_|refine wv ?_|refine wh ?_)
      refine st1 hp (rfRow (wcells ⟨s, g, 14, i, k, cell, was, put, x, opn', won'⟩ 14 opn n)) rfl (by simp) rfl rfl fun h' hp => ?_
      (repeat first|refine wx ?_|refine wy ?_|refine wz ?_|refine wv ?_|refine wh ?_)
      refine st1 hp (rfRow (wcells ⟨s, g, 14, i, k, cell, was, put, x, opn', won'⟩ 10 opn n)) rfl (by simp) rfl rfl fun h' hp => ?_
      have := hK 0 false (wcells ⟨s, g, 14, i, k, cell, was, put, x, opn', won'⟩ 10 opn n) h' (fun hg => ?_) ⟨rfl, rfl⟩ (by rw [eg.2]; exact hp)
      · rw [eg.1] at this; exact this
      · rw [eg.1] at hg
        have h0 := (hon hg).1
        rw [co] at h0
        simp only [Wh.step]
        rw [if_neg (by rw [← h0]; decide)]
        exact ⟨rfl, rfl, 10, opn, n, rfl, .inl rfl, (fun e => by cases e), fun _ => (hon hg).2⟩
end
end Go.Proofs.YtnhiagemjonglaaGreat
namespace Go.Proofs.YtnhiagemjonglaaGreat
open Go GW Go.Proofs
attribute [local irreducible] bnd ldV stV ifV binV eqI
set_option linter.unusedVariables false
set_option linter.unusedSimpArgs false
set_option maxRecDepth 20000
abbrev rhRow (H : Help) (sv : Value) : GObj := .row 137 [i64 H.t, i64 H.q, sv, .bool H.won, i64 H.slot, i64 H.gen, .bool H.over] 7 true
inductive Each2 {α β : Type} (P : α → β → Prop) : List α → List β → Prop
  | nil : Each2 P [] []
  | cons {a b l m} : P a b → Each2 P l m → Each2 P (a :: l) (b :: m)
theorem Each2.len {α β : Type} {P : α → β → Prop} {l : List α} {m : List β} (h : Each2 P l m) : l.length = m.length := by
  induction h with
  | nil => rfl
  | cons _ _ ih => simp [ih]
def rstkP (sv : Value) (H : Help) : Part := fun h => H.over = false → ∃ c cs, (rcells H.top c ∧ Each2 rcells H.rest cs) ∧ rowP 17 sv (cs.reverse ++ [c]) h
def rhelpP (b : Nat) (H : Help) : Part := fun h => ∃ sv, All [pts b (rhRow H sv), rstkP sv H] h
section
variable {a b c : Nat} {A : Ar} {R : List Part} {h : GH} {K : Value → GH → Prop} {H : Help}
theorem rhelpP_shut {sv : Value} {P : Part} {H' : Help} (hp : All (P :: pts b (rhRow H' sv) :: R) h) (e : H'.over = true) : All (P :: rhelpP b H' :: R) h := by
  refine hp.mono2 fun _ z => ?_
  have h1 : All (pts b (rhRow H' sv) :: rstkP sv H' :: R) _ := z.mono2 fun _ z => All.emp_cons z fun q => by rw [e] at q; cases q
  exact (All.fold (l := [_, _]) h1).head fun h1 z => ⟨sv, z⟩
theorem rhelpP_shut2 {sv : Value} {P : Part} {H' : Help} {c : List Value} {cs : List (List Value)} (hp : All (P :: pts b (rhRow H' sv) :: rowP 17 sv (cs.reverse ++ [c]) :: R) h) (e1 : rcells H'.top c) (e2 : Each2 rcells H'.rest cs) : All (P :: rhelpP b H' :: R) h := by
  refine hp.mono2 fun _ z => ?_
  have h1 : All (pts b (rhRow H' sv) :: rstkP sv H' :: R) _ := z.mono2 fun _ z => z.head fun _ z _ => ⟨c, cs, ⟨e1, e2⟩, z⟩
  exact (All.fold (l := [_, _]) h1).head fun h1 z => ⟨sv, z⟩
theorem Each2.cons_inv {α β : Type} {P : α → β → Prop} {a : α} {l : List α} {m : List β} (h : Each2 P (a :: l) m) : ∃ b m', m = b :: m' ∧ P a b ∧ Each2 P l m' := by
  cases h with
  | cons p q => exact ⟨_, _, rfl, p, q⟩
theorem number_ne {f : Form} (hm : f.may = true) (hv : newFr f ≠ none) : f.number ≠ 0 := by
  cases f with
  | val v => exact absurd rfl hv
  | mcas s g => simp only [Form.number]; omega
  | entry s g e t q => simp only [Form.number]; omega
theorem newFr_cells {f : Form} {fr : Fr} (e : newFr f = some fr) : ∃ c, rcells fr c ∧ fillV (List.replicate 14 (.int .i64 0) ++ [.bool false, .bool false, .int .i64 0]) [(0, 7, .agg f.plain.enc.toArray), (7, 1, i64 f.number)] = some c := by
  cases f with
  | val v => cases e
  | mcas s g => cases e; exact ⟨wcells (.new s g) 0 false false, ⟨0, false, false, rfl, .inr ⟨rfl, rfl⟩, fun q => (by cases q), fun _ => rfl⟩, rfl⟩
  | entry s g e' t q => cases e; exact ⟨ecells (.new s g e' t q) false, ⟨false, .inl rfl, fun q => (by cases q)⟩, rfl⟩
/-- behind the frame's own step -/
theorem T_rend {o : Out} {sv : Value} {c0 : List Value} {cs : List (List Value)} {ct : List Value} {nx : Int} {ov : Bool} {slot gen : Int}
    (hp : All (pts b (rhRow { H with q := o.q, slot := slot, gen := gen } sv) :: pts c (rfRow c0) :: arP 140 a o.a :: rowP 17 sv (cs.reverse ++ [ct]) :: R) h) (hc : H.over = false) (hr : Each2 rcells H.rest cs) (hl : H.rest.length < 18)
    (e1 : o.good = true → nx = numO o.atop ∧ ov = o.over ∧ rcells o.fr c0) (hat : ∀ f, o.atop = some f → f.may = true ∧ newFr f ≠ none) (hov : o.over = true → o.atop = none) (hpc : o.over = true → ∀ w, o.fr = .who w → w.pc = 0 ∨ w.pc = 11) (gd : good 17 c0)
    (es : slot = H.top.s) (eg : gen = H.top.g)
    (hK : ∀ h', All (arP 140 a o.a :: rhelpP b (H.take o).1 :: R) h' → K (.tuple #[.bool (H.take o).1.over, i64 (H.take o).2]) h') : S65_j1 (ptr b) (i64 cs.length) (ptr c) (.bool o.good) (.bool ov) (i64 nx) h K := by
  subst es eg
  unfold S65_j1
  have hlen : (cs.reverse ++ [ct]).length = cs.length + 1 := by simp
  have hv : (cs.reverse ++ [ct])[cs.length]? = some ct := by simp
  have hq : All (rowP 17 sv (cs.reverse ++ [ct]) :: pts b (rhRow { H with q := o.q, slot := H.top.s, gen := H.top.g } sv) :: pts c (rfRow c0) :: arP 140 a o.a :: R) h := hp.up 3
  obtain ⟨d, el, _, _, est⟩ := hq.elt hv .i64
  (repeat first|refine wx ?_|refine wy ?_|refine wz ?_|refine wv ?_|refine wh ?_)
  refine la1 hp (c := c0) (by simp [gd.1]) (by rw [List.drop_zero, ← gd.1, List.take_length]) ?_
  refine bnd_of el ?_
  obtain ⟨h1, e, hq⟩ := est 0 17 (.agg c0.toArray) gd.1 (by decide) gd.2
  refine bnd_of e ?_
  have e3 : (cs.reverse ++ [ct]).set cs.length (setCells ct 0 (Value.agg c0.toArray).cells.toList) = cs.reverse ++ [c0] := by
    have hct : ct.length = 17 := (hp.up 3 |> fun z => (All.row z).good.1 ct (by simp)).1
    rw [show (Value.agg c0.toArray).cells.toList = c0 from rfl, setCells_all (by rw [gd.1, hct]), List.set_append_right _ _ (by simp)]
    simp
  rw [e3] at hq
  clear hp
  cases hg : o.good with
  | false =>
    have e : H.take o = ({ H with q := o.q, top := o.fr, slot := H.top.s, gen := H.top.g, over := true }, 1400) := by unfold Help.take; rw [if_pos hg]
    rw [e] at hK
    have hp := hq
    (repeat first|refine wx ?_|refine wy ?_|refine wz ?_|refine wv ?_|refine wh ?_)
    refine st1 hp (rhRow { H with q := o.q, slot := H.top.s, gen := H.top.g, over := true } sv) rfl (by simp) rfl rfl fun h2 hp => ?_
    exact hK _ (rhelpP_shut (sv := sv) (hp.re 4 [3, 1]) rfl)
  | true =>
    obtain ⟨en, eo, ec⟩ := e1 hg
    subst en eo
    cases ha : o.atop with
    | none =>
      have hp := hq
      (repeat first|refine wx ?_|refine wy ?_|refine wz ?_|refine wv ?_|refine wh ?_)
      unfold S65_j2
      (repeat first|refine wx ?_|refine wy ?_|refine wz ?_|refine wv ?_|refine wh ?_)
      unfold S65_j3
      cases hov2 : o.over with
      | false =>
        have e : H.take o = ({ H with q := o.q, top := o.fr, slot := H.top.s, gen := H.top.g }, 0) := by
          unfold Help.take; rw [if_neg (by rw [hg]; decide), ha]; simp only [hov2]; rfl
        rw [e] at hK
        (repeat first|refine wx ?_|refine wy ?_|refine wz ?_|refine wv ?_|refine wh ?_)
        exact hK _ (rhelpP_shut2 (H' := { H with q := o.q, top := o.fr, slot := H.top.s, gen := H.top.g }) (sv := sv) (c := c0) (cs := cs) (hp.re 4 [3, 1, 0]) ec hr)
      | true =>
        obtain ⟨wv, ew, ewv⟩ : ∃ wv : Bool, c0[15]? = some (.bool wv) ∧ wv = o.fr.won := by
          cases ef : o.fr with
          | who w =>
            rw [ef] at ec
            obtain ⟨pc, opn, won, rfl, _, _, e3⟩ := ec
            exact ⟨won, rfl, e3 ((hpc hov2 w ef).imp id fun q => by omega)⟩
          | ent f =>
            rw [ef] at ec
            obtain ⟨opn, rfl | ⟨_, rfl⟩, _⟩ := ec <;> exact ⟨false, rfl, rfl⟩
        (repeat first|refine wx ?_|refine wy ?_|refine wz ?_|refine wv ?_|refine wh ?_)
        refine ld2 hp ew ?_
        have j4 : ∀ {h2 : GH} {u : Bool}, u = (wv && decide ((cs.length : Int) = 0)) → All (rowP 17 sv (cs.reverse ++ [c0]) :: pts b (rhRow { H with q := o.q, slot := H.top.s, gen := H.top.g, won := u } sv) :: pts c (rfRow c0) :: arP 140 a o.a :: R) h2 → S65_j4 (ptr b) (i64 cs.length) h2 K := by
          intro h2 u eu hp
          unfold S65_j4
          (repeat first|refine wx ?_|refine wy ?_|refine wz ?_|refine wv ?_|refine wh ?_)
          obtain ⟨sv', esl, hp⟩ := hp.cut (n := cs.length) (by simp) .i64
          refine bnd_of esl ?_
          rw [List.take_left' (by simp)] at hp
          obtain ⟨sa, sc, _, rfl, _⟩ := hp.row
          (repeat first|refine wx ?_|refine wy ?_|refine wz ?_|refine wv ?_|refine wh ?_)
          refine st1 hp (rhRow { H with q := o.q, slot := H.top.s, gen := H.top.g, won := u } (.slice sa cs.reverse.length sc)) rfl (by simp) rfl rfl fun h3 hp => ?_
          (repeat first|refine wx ?_|refine wy ?_|refine wz ?_|refine wv ?_|refine wh ?_)
          refine st1 hp (rhRow { H with q := o.q, slot := H.top.s, gen := H.top.g, won := u, over := decide ((cs.length : Int) = 0) } (.slice sa cs.reverse.length sc)) rfl (by simp) rfl rfl fun h3 hp => ?_
          (repeat first|refine wx ?_|refine wy ?_|refine wz ?_|refine wv ?_|refine wh ?_)
          cases hr2 : H.rest with
          | nil =>
            rw [hr2] at hr
            cases hr
            have e : H.take o = ({ H with q := o.q, top := o.fr, slot := H.top.s, gen := H.top.g, won := o.fr.won, over := true }, 0) := by
              unfold Help.take; rw [if_neg (by rw [hg]; decide), ha]; simp only [hov2, hr2]; rfl
            rw [e] at hK
            have eu2 : u = o.fr.won := by rw [eu, ewv]; simp
            subst eu2
            exact hK _ (rhelpP_shut (H' := { H with q := o.q, top := o.fr, slot := H.top.s, gen := H.top.g, won := o.fr.won, over := true }) (hp.re 4 [3, 1]) rfl)
          | cons r rs =>
            rw [hr2] at hr
            obtain ⟨c1, cs1, rfl, r1, r2⟩ := hr.cons_inv
            have e : H.take o = ({ H with q := o.q, top := r, rest := rs, slot := H.top.s, gen := H.top.g, won := false }, 0) := by
              unfold Help.take; rw [if_neg (by rw [hg]; decide), ha]; simp only [hov2, hr2]; rfl
            rw [e] at hK
            have d0 : decide (((c1 :: cs1).length : Int) = 0) = false := decide_eq_false (by simp only [List.length_cons]; omega)
            rw [d0, Bool.and_false] at eu
            subst eu
            rw [List.reverse_cons] at hp
            rw [d0] at hp ⊢
            have er : rhRow { H with q := o.q, slot := H.top.s, gen := H.top.g, won := false, over := false } (.slice sa (cs1.reverse ++ [c1]).length sc) = rhRow { H with q := o.q, top := r, rest := rs, slot := H.top.s, gen := H.top.g, won := false } (.slice sa (cs1.reverse ++ [c1]).length sc) := by simp only [hc]
            rw [er] at hp
            have := hK _ (rhelpP_shut2 (H' := { H with q := o.q, top := r, rest := rs, slot := H.top.s, gen := H.top.g, won := false }) (c := c1) (cs := cs1) (hp.re 4 [3, 1, 0]) r1 r2)
            simp only [hc] at this
            exact this
        refine ifV_bool (fun cw => ?_) fun cw => ?_
        · subst cw
          (repeat first|refine wx ?_|refine wy ?_|refine wz ?_|refine wv ?_|refine wh ?_)
          refine st1 hp (rhRow { H with q := o.q, slot := H.top.s, gen := H.top.g, won := decide ((cs.length : Int) = 0) } sv) rfl (by simp) rfl rfl fun h2 hp => ?_
          exact j4 (by simp) hp
        · subst cw
          (repeat first|refine wx ?_|refine wy ?_|refine wz ?_|refine wv ?_|refine wh ?_)
          refine st1 hp (rhRow { H with q := o.q, slot := H.top.s, gen := H.top.g, won := false } sv) rfl (by simp) rfl rfl fun h2 hp => ?_
          exact j4 (by simp) hp
    | some f =>
      obtain ⟨hm, hv⟩ := hat f ha
      have ho : o.over = false := by
        cases e : o.over with
        | false => rfl
        | true => rw [hov e] at ha; cases ha
      obtain ⟨fr, hfr⟩ : ∃ fr, newFr f = some fr := by
        cases e : newFr f with
        | none => exact absurd e hv
        | some fr => exact ⟨fr, rfl⟩
      have hp := hq
      rw [ha] at e1
      have hnz : ¬ (numO (some f) = 0) := number_ne hm hv
      have hb : o.atop.bind newFr = some fr := by rw [ha]; exact hfr
      (repeat first|refine wx ?_|refine wy ?_|refine wz ?_|refine wv ?_|refine wh ?_)
      refine ifN_cases (fun _ => ?_) fun q => absurd q hnz
      (repeat first|refine wx ?_|refine wy ?_|refine wz ?_|refine wv ?_|refine wh ?_)
      refine bnd_of hp.len ?_
      (repeat first|refine wx ?_|refine wy ?_|refine wz ?_|refine wv ?_|refine wh ?_)
      have hl2 : (cs.reverse ++ [c0]).length = H.rest.length + 1 := by simp [hr.len]
      refine ifV_cases (fun c18 => ?_) fun c18 => ?_
      · (repeat first|refine wx ?_|refine wy ?_|refine wz ?_|refine wv ?_|refine wh ?_)
        refine st1 hp (rhRow { H with q := o.q, slot := H.top.s, gen := H.top.g, over := true } sv) rfl (by simp) rfl rfl fun h2 hp => ?_
        have e : H.take o = ({ H with q := o.q, top := o.fr, slot := H.top.s, gen := H.top.g, over := true }, 1400) := by
          unfold Help.take; rw [if_neg (by rw [hg]; decide), hb]; simp only; rw [if_pos (by omega)]
        rw [e] at hK
        exact hK _ (rhelpP_shut (H' := { H with q := o.q, top := o.fr, slot := H.top.s, gen := H.top.g, over := true }) (hp.re 4 [3, 1]) rfl)
      · have e : H.take o = ({ H with q := o.q, rest := o.fr :: H.rest, top := fr, slot := H.top.s, gen := H.top.g }, 0) := by
          unfold Help.take; rw [if_neg (by rw [hg]; decide), hb]; simp only; rw [if_neg (by omega)]
        rw [e] at hK
        simp only at hK
        have hrd := read_number hm
        unfold S65_j2
        (repeat first|refine wx ?_|refine wy ?_|refine wz ?_|refine wv ?_|refine wh ?_)
        refine ifN_cases (fun _ => ?_) fun q => absurd q hnz
        have hx : I64 f.number := by
          cases f with
          | val v => cases hfr
          | mcas s g => rw [may_mcas] at hm; exact mcas_range ⟨hm.1, hm.2.1, hm.2.2.1, hm.2.2.2⟩
          | entry s g e t q => rw [may_entry] at hm; exact entry_range ⟨hm.1, hm.2.1, hm.2.2.1, hm.2.2.2.1⟩ hm.2.2.2.2.1 hm.2.2.2.2.2.1 hm.2.2.2.2.2.2.1 hm.2.2.2.2.2.2.2.1 hm.2.2.2.2.2.2.2.2.1 hm.2.2.2.2.2.2.2.2.2
        refine T_GetWord hx.2 ?_
        have ew : wOf f.number = f.plain := by unfold wOf; rw [hrd]
        rw [show numO (some f) = f.number from rfl, ew]
        (repeat first|refine wx ?_|refine wy ?_|refine wz ?_|refine wv ?_|refine wh ?_)
        refine nwst hp (.row 132 f.plain.enc 7 true) rfl rfl rfl (by rfl) fun d h2 hp => ?_
        (repeat first|refine wx ?_|refine wy ?_|refine wz ?_|refine wv ?_|refine wh ?_)
        refine la0 hp (c := f.plain.enc) (by exact Nat.le_refl 7) rfl ?_
        obtain ⟨c1, rc1, ef⟩ := newFr_cells hfr
        refine bnd_of ef ?_
        have g1 := rcells_good rc1
        refine bs0 hp [c1] (by
          have : fillV (List.replicate 14 (.int .i64 0) ++ [.bool false, .bool false, .int .i64 0]) [(0, 17, .agg c1.toArray)] = some (setCells (List.replicate 14 (.int .i64 0) ++ [.bool false, .bool false, .int .i64 0]) 0 c1) := by
            simp only [fillV, cells_agg, List.size_toArray, g1.1]; rfl
          rw [this, setCells_all (by rw [g1.1]; rfl)]; simp) rfl (by simp) (fun x hx => by rw [List.mem_singleton.1 hx]; exact g1) fun xv h3 hp => ?_
        have hp2 : All (rowP 17 sv (cs.reverse ++ [c0]) :: rowP 17 xv [c1] :: pts b (rhRow { H with q := o.q, slot := H.top.s, gen := H.top.g } sv) :: arP 140 a o.a :: R) _ := hp.re 6 [2, 0, 3, 5]
        refine ap0 hp2 hp.rows (fun x hx => by rw [List.mem_singleton.1 hx]; exact g1) (by decide) (by rw [hl2, List.length_singleton]; omega) fun sv' h4 hp => ?_
        obtain ⟨sa, sc, _, rfl, _⟩ := hp.row
        (repeat first|refine wx ?_|refine wy ?_|refine wz ?_|refine wv ?_|refine wh ?_)
        refine st2 hp (rhRow { H with q := o.q, slot := H.top.s, gen := H.top.g } (.slice sa (cs.reverse ++ [c0] ++ [c1]).length sc)) rfl (by simp) rfl rfl fun h5 hp => ?_
        unfold S65_j3
        rw [ho]
        (repeat first|refine wx ?_|refine wy ?_|refine wz ?_|refine wv ?_|refine wh ?_)
        refine hK _ (rhelpP_shut2 (H' := { H with q := o.q, rest := o.fr :: H.rest, top := fr, slot := H.top.s, gen := H.top.g }) (c := c1) (cs := c0 :: cs) (sv := .slice sa (cs.reverse ++ [c0] ++ [c1]).length sc) ?_ rc1 (.cons ec hr))
        rw [List.reverse_cons]
        exact hp.re 4 [3, 2, 0]
end
end Go.Proofs.YtnhiagemjonglaaGreat
namespace Go.Proofs.YtnhiagemjonglaaGreat
open Go GW Go.Proofs
attribute [local irreducible] bnd ldV stV ifV binV eqI
set_option linter.unusedVariables false
set_option linter.unusedSimpArgs false
set_option maxRecDepth 20000
section
variable {a b c : Nat} {A : Ar} {R : List Part} {h : GH} {K : Value → GH → Prop} {H : Help}
theorem read_may {x : Int} {f : Form} (h : read x = some f) : f.may = true := (number_of_read h).1
theorem Fr.atop_may {t q : Int} (f : Fr) (ok : f.ok) (g : Form) (e : (f.step t q A).atop = some g) : g.may = true ∧ newFr g ≠ none := by
  cases f with
  | who w =>
    simp only [Fr.step] at e
    unfold Wh.step at e
    split at e <;> first | (cases e; done) | skip
    · unfold Wh.swapIn at e
      simp only at e
      split at e
      · cases e
      · split at e
        · cases e
        · cases e
        · rename_i hr; cases e; exact ⟨read_may hr, by simp [newFr]⟩
        · split at e <;> cases e
    · rename_i hpc
      simp only at e
      split at e
      · obtain ⟨s, g', hr⟩ := ok.ref hpc
        rw [hr] at e
        cases e
        exact ⟨read_may hr, by simp [newFr]⟩
      · cases e
  | ent f =>
    simp only [Fr.step] at e
    unfold En.step at e
    split at e <;> cases e
theorem Fr.over_pc {t q : Int} (f : Fr) (ho : (f.step t q A).over = true) (w : Wh) (e : (f.step t q A).fr = .who w) : w.pc = 0 ∨ w.pc = 11 := by
  cases f with
  | who w0 =>
    simp only [Fr.step] at e ho
    have h2 : w0.pc = 10 ∨ w0.pc = 13 := by
      unfold Wh.step at ho
      split at ho <;> first | (cases ho; done) | skip
      · unfold Wh.swapIn at ho
        simp only at ho
        split at ho
        · cases ho
        · split at ho <;> first | (cases ho; done) | (split at ho <;> cases ho)
      · exact .inl (by assumption)
      · exact .inr (by assumption)
      · simp only at ho
        split at ho <;> cases ho
    rcases h2 with h2 | h2
    · unfold Wh.step at e
      rw [h2] at e
      cases e; exact .inr rfl
    · unfold Wh.step at e ho
      rw [h2] at e ho
      cases e
      left
      simp only [decide_eq_true_eq] at ho
      simp only [Wh.next]; rw [if_pos ho]
  | ent f =>
    simp only [Fr.step] at e
    unfold En.step at e
    split at e <;> cases e
theorem T_rStep (hp : All (arP 140 a A :: rhelpP b H :: R) h) (ok : H.ok)
    (hK : ∀ h', All (arP 140 a (H.step A).2.2 :: rhelpP b (H.step A).1 :: R) h' → K (.tuple #[.bool (H.step A).1.over, i64 (H.step A).2.1]) h') : T Tryz.prog 65 [ptr b, ptr a] h K := by
  apply S65_T
  unfold S65
  have hp1 : All (rhelpP b H :: arP 140 a A :: R) h := hp.up 1
  obtain ⟨sv, hp1⟩ := All.ex hp1
  have hp2 : All (pts b (rhRow H sv) :: rstkP sv H :: arP 140 a A :: R) h := All.flat hp1
  clear hp hp1
  have hp := hp2
  (repeat first|refine wx ?_|refine wy ?_|refine wz ?_|refine wv ?_|refine wh ?_)
  refine ifV_bool (fun c => ?_) fun c => ?_
  · have e : H.step A = (H, 0, A) := by unfold Help.step; rw [c]; rfl
    rw [e] at hK
    simp only at hK
    rw [c] at hK
    exact hK _ (rhelpP_shut (hp.re 3 [2, 0]) c)
  have hs : All (rstkP sv H :: pts b (rhRow H sv) :: arP 140 a A :: R) h := hp.up 1
  have hs2 := hs.head fun _ z => z c
  obtain ⟨ct, hs3⟩ := All.ex hs2
  obtain ⟨cs, hs4⟩ := All.ex hs3
  obtain ⟨⟨rt, rr⟩, hs5⟩ := All.pure hs4
  clear hp hp2 hs hs2 hs3 hs4
  have hv : (cs.reverse ++ [ct])[cs.length]? = some ct := by simp
  obtain ⟨ok1, ok2, ok3⟩ := ok.frames c
  have okt := ok.t0; have okt1 := ok.t1; have okq := ok.q0; have okq1 := ok.q1
  have hlen := rr.len
  obtain ⟨d, el, _, eld, _⟩ := hs5.elt hv .i64
  have hl : (cs.reverse ++ [ct]).length = cs.length + 1 := by simp
  have hp : All (pts b (rhRow H sv) :: rowP 17 sv (cs.reverse ++ [ct]) :: arP 140 a A :: R) h := hs5.up 1
  have hln := hs5.len
  clear hs5
  have gd := rcells_good rt
  (repeat first|refine wx ?_|refine wy ?_|refine wz ?_|refine wv ?_|refine wh ?_)
  refine bnd_of hln ?_
  refine bnd_of (sub_id (by omega) (by omega)) ?_
  have en : (((cs.reverse ++ [ct]).length : Nat) : Int) - 1 = (cs.length : Nat) := by omega
  (repeat first|refine wx ?_|refine wy ?_|refine wz ?_|refine wv ?_|refine wh ?_)
  rw [en]
  refine bnd_of el (bnd_of eld ?_)
  refine nwst hp (rfRow ct) gd.1 rfl gd.2 (by rw [show (Value.agg ct.toArray).cells.toList = ct from rfl]) fun f h1 hp => ?_
  replace hp : All (pts b (rhRow H sv) :: pts f (rfRow ct) :: arP 140 a A :: rowP 17 sv (cs.reverse ++ [ct]) :: R) h1 := hp.re 4 [1, 0, 3, 2]
  have e2 : ct[2]? = some (i64 H.top.s) ∧ ct[3]? = some (i64 H.top.g) := by
    cases et : H.top with
    | who w => rw [et] at rt; obtain ⟨pc, opn, won, rfl, _⟩ := rt; exact ⟨rfl, rfl⟩
    | ent w => rw [et] at rt; obtain ⟨opn, rfl | ⟨_, rfl⟩, _⟩ := rt <;> exact ⟨rfl, rfl⟩
  (repeat first|refine wx ?_|refine wy ?_|refine wz ?_|refine wv ?_|refine wh ?_)
  refine ld1 hp e2.1 ?_
  (repeat first|refine wx ?_|refine wy ?_|refine wz ?_|refine wv ?_|refine wh ?_)
  refine st0 hp (rhRow { H with slot := H.top.s } sv) rfl (by simp) rfl rfl fun h2 hp => ?_
  (repeat first|refine wx ?_|refine wy ?_|refine wz ?_|refine wv ?_|refine wh ?_)
  refine ld1 hp e2.2 ?_
  (repeat first|refine wx ?_|refine wy ?_|refine wz ?_|refine wv ?_|refine wh ?_)
  refine st0 hp (rhRow { H with slot := H.top.s, gen := H.top.g } sv) rfl (by simp) rfl rfl fun h2 hp => ?_
  rw [Help.step_eq c] at hK
  have hov := Fr.over_atop (A := A) (t := H.t) (q := H.q) H.top
  have hat := Fr.atop_may (A := A) (t := H.t) (q := H.q) H.top ok1
  have hpc := Fr.over_pc (A := A) (t := H.t) (q := H.q) H.top
  cases et : H.top with
  | ent f' =>
    rw [et] at rt ok1
    obtain ⟨opn, ec, ho⟩ := rt
    have ec : ct = ecells f' opn := by
      rcases ec with ec | ⟨e4, _⟩
      · exact ec
      · have := En.ok.pc1 ok1; omega
    subst ec
    (repeat first|refine wx ?_|refine wy ?_|refine wz ?_|refine wv ?_|refine wh ?_)
    have eq' : H.top.step H.t H.q A = f'.step H.q A := by rw [et]; rfl
    rw [eq'] at hK hov hat hpc
    have eqq : (f'.step H.q A).q = H.q := by unfold En.step; split <;> rfl
    refine T_rentry (q := H.q) (hp.re 4 [2, 1, 0, 3]) ok1 ho ?_
    intro nx ov c0 h' e1 e2 hp e0
    subst e0
    (repeat first|refine wx ?_|refine wy ?_|refine wz ?_|refine wv ?_|refine wh ?_)
    refine T_rend (sv := sv) (o := f'.step H.q A) (H := H) (slot := H.top.s) (gen := H.top.g) (cs := cs) (ct := ecells f' opn) ?_ c rr (by omega) e1 hat hov hpc e2 rfl rfl hK
    rw [eqq]
    exact hp.re 4 [2, 1, 0, 3]
  | who w =>
    rw [et] at rt ok1
    obtain ⟨pc, opn, won, rfl, h1', h2', h3'⟩ := rt
    (repeat first|refine wx ?_|refine wy ?_|refine wz ?_|refine wv ?_|refine wh ?_)
    have eq' : H.top.step H.t H.q A = w.step H.t H.q A := by rw [et]; rfl
    rw [eq'] at hK hov hat hpc
    have j5 : ∀ {h3 : GH}, All (pts b (rhRow { H with q := (w.step H.t H.q A).q, slot := H.top.s, gen := H.top.g } sv) :: pts f (rfRow (wcells (if w.pc = 5 then { w with put := (Form.entry w.s w.g w.i H.t H.q).number } else w) pc opn won)) :: arP 140 a A :: rowP 17 sv (cs.reverse ++ [wcells w pc opn won]) :: R) h3 → S65_j5 (ptr b) (ptr a) (i64 cs.length) (ptr f) h3 K := by
      intro h3 hp
      unfold S65_j5
      refine T_rhelp (t := H.t) (q := H.q) (hp.re 4 [2, 1, 0, 3]) ok1 okt okt1 okq okq1 h1' h2' h3' ?_
      intro nx ov c0 h' e1 e2 hp
      (repeat first|refine wx ?_|refine wy ?_|refine wz ?_|refine wv ?_|refine wh ?_)
      exact T_rend (o := w.step H.t H.q A) (H := H) (slot := H.top.s) (gen := H.top.g) (cs := cs) (ct := wcells w pc opn won) (hp.re 4 [2, 1, 0, 3]) c rr (by omega) e1 hat hov hpc e2 rfl rfl hK
    refine ifV_cases (fun c5 => ?_) fun c5 => ?_
    · have w5 : w.pc = 5 := by have := Wh.ok.pc0 ok1; omega
      have i2 := Wh.ok.i2 ok1 (by rw [w5]; decide) (by rw [w5]; decide) (by rw [w5]; decide) (by rw [w5]; decide)
      have i0 := Wh.ok.i0 ok1
      have hs := Wh.ok.life ok1
      (repeat first|refine wx ?_|refine wy ?_|refine wz ?_|refine wv ?_|refine wh ?_)
      refine T_PutWord (f := .entry w.s w.g w.i H.t H.q) (may_entry.2 ⟨hs.s0, hs.s1, hs.g0, hs.g1, i0, i2, okt, okt1, okq, okq1⟩) ?_
      (repeat first|refine wx ?_|refine wy ?_|refine wz ?_|refine wv ?_|refine wh ?_)
      refine st1 hp (rfRow (wcells { w with put := (Form.entry w.s w.g w.i H.t H.q).number } pc opn won)) rfl (by simp) rfl rfl fun h3 hp => ?_
      (repeat first|refine wx ?_|refine wy ?_|refine wz ?_|refine wv ?_|refine wh ?_)
      refine bnd_of (rem_nn (by (first | omega | (simp only; omega))) (by decide)) ?_
      (repeat first|refine wx ?_|refine wy ?_|refine wz ?_|refine wv ?_|refine wh ?_)
      refine st0 hp (rhRow { H with q := (H.q + 1) % 1048576, slot := H.top.s, gen := H.top.g } sv) rfl (by simp) rfl rfl fun h4 hp => ?_
      refine j5 ?_
      rw [if_pos w5]
      have eq2 : (w.step H.t H.q A).q = (H.q + 1) % 1048576 := by
        rw [Wh.step5 w5]; unfold Wh.swapIn; simp only
        split
        · rfl
        · split <;> first | rfl | (split <;> rfl)
      rw [eq2]
      exact hp
    · have w5 : w.pc ≠ 5 := by intro e; exact c5 (by omega)
      refine j5 ?_
      rw [if_neg w5]
      have eq2 : (w.step H.t H.q A).q = H.q := by
        unfold Wh.step
        split <;> first | rfl | (rename_i e; exact absurd e w5) | skip
        simp only; split <;> rfl
      rw [eq2]
      exact hp
end
end Go.Proofs.YtnhiagemjonglaaGreat
namespace Go.Proofs.YtnhiagemjonglaaGreat
open Go GW Go.Proofs
attribute [local irreducible] bnd ldV stV ifV binV eqI
set_option linter.unusedVariables false
set_option linter.unusedSimpArgs false
set_option maxRecDepth 20000
def newHelp (t q x : Int) : Option Help :=
  match (read x).bind newFr with
  | some f => if 0 ≤ t ∧ t < 4 ∧ 0 ≤ q ∧ q < 1048576 then some (.new t q f) else none
  | none => none
section
variable {a b c : Nat} {A : Ar} {R : List Part} {h : GH} {K : Value → GH → Prop} {H : Help}
theorem helpP_open {C : Prop} (hp : All (helpP b H :: R) h) (k : ∀ sv lv, All (pts b (helpRow H sv lv) :: lastP lv H.slot H.gen :: stackP b sv H :: R) h → C) : C := by
  obtain ⟨sv, hp⟩ := All.ex hp
  obtain ⟨lv, hp⟩ := All.ex hp
  exact k sv lv (All.flat hp)
theorem rhelpP_open {C : Prop} (hp : All (rhelpP b H :: R) h) (k : ∀ sv, All (pts b (rhRow H sv) :: rstkP sv H :: R) h → C) : C := by
  obtain ⟨sv, hp⟩ := All.ex hp
  exact k sv (All.flat hp)
theorem T_Won (hp : All (helpP b H :: R) h) (hK : K (.bool H.won) h) : T Tryz.prog 50 [ptr b] h K := by
  apply S50_T
  unfold S50
  refine helpP_open hp fun sv lv hp => ?_
  (repeat first|refine wx ?_|refine wy ?_|refine wz ?_|refine wv ?_|refine wh ?_)
  exact hK
theorem T_Seq (hp : All (helpP b H :: R) h) (hK : K (i64 H.q) h) : T Tryz.prog 181 [ptr b] h K := by
  apply S181_T
  unfold S181
  refine helpP_open hp fun sv lv hp => ?_
  (repeat first|refine wx ?_|refine wy ?_|refine wz ?_|refine wv ?_|refine wh ?_)
  exact hK
theorem T_Through (hp : All (helpP b H :: R) h) (hK : K (.tuple #[i64 H.slot, i64 H.gen]) h) : T Tryz.prog 180 [ptr b] h K := by
  apply S180_T
  unfold S180
  refine helpP_open hp fun sv lv hp => ?_
  have hl : All (lastP lv H.slot H.gen :: pts b (helpRow H sv lv) :: []) h := hp.re 3 [1, 0] |> fun z => z.sel [0, 1]
  have cases : (lv = .pointer none ∧ H.slot = -1 ∧ H.gen = 0) ∨ ∃ c, lv = ptr c ∧ All (pts b (helpRow H sv lv) :: pts c (.row 97 [i64 H.slot, i64 H.gen] 2 true) :: []) h := by
    obtain ⟨h1, h2, d, l1, l2, p, q⟩ := hl
    rcases p with p | ⟨c, e, p⟩
    · exact .inl p
    · exact .inr ⟨c, e, All.up (i := 1) (l := [pts c _, pts b _]) ⟨h1, h2, d, l1, l2, p, q⟩⟩
  rcases cases with ⟨rfl, e1, e2⟩ | ⟨c, rfl, hp⟩
  · (repeat first|refine wx ?_|refine wy ?_|refine wz ?_|refine wv ?_|refine wh ?_)
    rw [e1, e2] at hK
    exact hK
  · (repeat first|refine wx ?_|refine wy ?_|refine wz ?_|refine wv ?_|refine wh ?_)
    exact hK
theorem T_rThrough (hp : All (rhelpP b H :: R) h) (hK : K (.tuple #[i64 H.slot, i64 H.gen]) h) : T Tryz.prog 66 [ptr b] h K := by
  apply S66_T
  unfold S66
  refine rhelpP_open hp fun sv hp => ?_
  (repeat first|refine wx ?_|refine wy ?_|refine wz ?_|refine wv ?_|refine wh ?_)
  exact hK
theorem T_ThreadMay {x : Int} (hK : K (.bool (decide (0 ≤ x ∧ x < 4))) h) : T Tryz.prog 35 [i64 x] h K := by
  apply S35_T
  unfold S35
  exact T_Below hK
theorem T_threadMay {x : Int} (hK : K (.bool (decide (0 ≤ x ∧ x < 4))) h) : T Tryz.prog 58 [i64 x] h K := by
  apply S58_T
  unfold S58
  (repeat first|refine wx ?_|refine wy ?_|refine wz ?_|refine wv ?_|refine wh ?_)
  refine ifV_cases (fun c => ?_) fun c => ?_
  · (repeat first|refine wx ?_|refine wy ?_|refine wz ?_|refine wv ?_|refine wh ?_)
    rw [decide_eq_decide.2 (show (0 ≤ x ∧ x < 4) ↔ x < 4 by omega)] at hK
    exact hK
  · rw [decide_eq_false (by omega)] at hK
    exact hK
theorem T_New {t q x : Int} (hp : All R h) (hx : I64 x) (kn : newHelp t q x = none → ∀ h', All R h' → K (.tuple #[.pointer none, i64 1400]) h') (ky : ∀ H, newHelp t q x = some H → ∀ b h', All (helpP b H :: R) h' → K (.tuple #[ptr b, i64 0]) h') : T Tryz.prog 48 [i64 t, i64 q, i64 x] h K := by
  apply S48_T
  unfold S48
  (repeat first|refine wx ?_|refine wy ?_|refine wz ?_|refine wv ?_|refine wh ?_)
  refine nw hp (hdRow t q [.slice none 0 0, .pointer none, .bool false, .bool false]) rfl fun b h1 hp => ?_
  (repeat first|refine wx ?_|refine wy ?_|refine wz ?_|refine wv ?_|refine wh ?_)
  refine T_Read hx.2 ?_
  refine T_framed (hd := b) (fo := read x) hp fun v h2 hp => ?_
  refine T_ThreadMay ?_
  (repeat first|refine wx ?_|refine wy ?_|refine wz ?_|refine wv ?_|refine wh ?_)
  unfold newHelp at kn ky
  have none_of : ((read x).bind newFr = none ∨ ¬ (0 ≤ t ∧ t < 4 ∧ 0 ≤ q ∧ q < 1048576)) → K (.tuple #[.pointer none, i64 1400]) h2 := by
    intro e
    refine kn ?_ _ hp.tail.tail
    cases ef : (read x).bind newFr with
    | none => rfl
    | some f =>
      rcases e with e | e
      · rw [ef] at e; cases e
      · simp only; rw [if_neg e]
  refine ifN_cases (fun c => ?_) fun c => ?_
  · exact none_of (.inr fun q => c ⟨q.1, q.2.1⟩)
  refine T_Below ?_
  (repeat first|refine wx ?_|refine wy ?_|refine wz ?_|refine wv ?_|refine wh ?_)
  refine ifN_cases (fun c2 => ?_) fun c2 => ?_
  · exact none_of (.inr fun q => c2 ⟨q.2.2.1, q.2.2.2⟩)
  cases ef : (read x).bind newFr with
  | none =>
    rw [ef] at hp
    have ev : v = .nilIface := All.case hp fun h1 p _ => p
    subst ev
    (repeat first|refine wx ?_|refine wy ?_|refine wz ?_|refine wv ?_|refine wh ?_)
    exact none_of (.inl ef)
  | some f =>
    rw [ef] at hp ky
    simp only at ky
    rw [if_pos ⟨c.1, c.2, c2.1, c2.2⟩] at ky
    obtain ⟨fb, ev⟩ : ∃ fb, v = .iface (frT f) (ptr fb) := All.case hp fun h1 p _ => by
      obtain ⟨fb, e, _⟩ := frP_iff.1 p
      exact ⟨fb, e⟩
    subst ev
    (repeat first|refine wx ?_|refine wy ?_|refine wz ?_|refine wv ?_|refine wh ?_)
    unfold S48_j1
    refine bs0 hp [[Value.iface (frT f) (ptr fb)]] rfl rfl (by simp) (fun c hc => by rw [List.mem_singleton.1 hc]; exact iface_good _ _) fun sv h3 hp => ?_
    obtain ⟨sa, sc, _, rfl, _⟩ := hp.row
    (repeat first|refine wx ?_|refine wy ?_|refine wz ?_|refine wv ?_|refine wh ?_)
    refine st2 hp (hdRow t q [.slice sa [[Value.iface (frT f) (ptr fb)]].length sc, .pointer none, .bool false, .bool false]) rfl (by simp) rfl rfl fun h4 hp => ?_
    refine ky _ rfl b _ ?_
    have hp2 := All.fold (l := [_, _]) (hp.re 3 [0, 1, 2])
    have hp3 := hp2.head (Q := stackP b (.slice sa [[Value.iface (frT f) (ptr fb)]].length sc) (.new t q f)) fun h1 z _ => ⟨.iface (frT f) (ptr fb), [], z.mono2 fun _ z => z.mono2 fun _ z => All.emp_cons z trivial⟩
    have hp4 : All (pts b (helpRow (.new t q f) (.slice sa [[Value.iface (frT f) (ptr fb)]].length sc) (.pointer none)) :: lastP (.pointer none) (-1) 0 :: stackP b (.slice sa [[Value.iface (frT f) (ptr fb)]].length sc) (.new t q f) :: R) h4 := All.mono2 (l := stackP b (.slice sa [[Value.iface (frT f) (ptr fb)]].length sc) (.new t q f) :: R) (hp3.up 1) fun _ z => All.emp_cons (P := lastP (.pointer none) (-1) 0) z (.inl ⟨rfl, rfl, rfl⟩)
    exact (All.fold (l := [_, _, _]) hp4).head fun h1 z => ⟨_, _, z⟩
theorem T_NewHelp {t q x : Int} (hp : All R h) (hx : I64 x) (kn : newHelp t q x = none → ∀ h', All R h' → K (.tuple #[.pointer none, i64 1400]) h') (ky : ∀ H, newHelp t q x = some H → ∀ b h', All (rhelpP b H :: R) h' → K (.tuple #[ptr b, i64 0]) h') : T Tryz.prog 64 [i64 t, i64 q, i64 x] h K := by
  apply S64_T
  unfold S64
  refine T_GetWord hx.2 ?_
  (repeat first|refine wx ?_|refine wy ?_|refine wz ?_|refine wv ?_|refine wh ?_)
  refine nwst hp (.row 132 (wOf x).enc 7 true) rfl rfl rfl (by rfl) fun d h1 hp => ?_
  refine T_threadMay ?_
  (repeat first|refine wx ?_|refine wy ?_|refine wz ?_|refine wv ?_|refine wh ?_)
  unfold newHelp at kn ky
  have none_of : ((read x).bind newFr = none ∨ ¬ (0 ≤ t ∧ t < 4 ∧ 0 ≤ q ∧ q < 1048576)) → K (.tuple #[.pointer none, i64 1400]) h1 := by
    intro e
    refine kn ?_ _ hp.tail
    cases ef : (read x).bind newFr with
    | none => rfl
    | some f =>
      rcases e with e | e
      · rw [ef] at e; cases e
      · simp only; rw [if_neg e]
  refine ifN_cases (fun c => ?_) fun c => ?_
  · exact none_of (.inr fun q => c ⟨q.1, q.2.1⟩)
  (repeat first|refine wx ?_|refine wy ?_|refine wz ?_|refine wv ?_|refine wh ?_)
  refine ifV_cases (fun c2 => ?_) fun c2 => ?_
  · exact none_of (.inr fun q => by omega)
  (repeat first|refine wx ?_|refine wy ?_|refine wz ?_|refine wv ?_|refine wh ?_)
  refine ifV_cases (fun c3 => ?_) fun c3 => ?_
  · exact none_of (.inr fun q => by omega)
  (repeat first|refine wx ?_|refine wy ?_|refine wz ?_|refine wv ?_|refine wh ?_)
  cases hr : read x with
  | none =>
    have e0 : eOf x = 100 := by unfold eOf; rw [hr]
    rw [e0]
    refine ifV_t rfl ?_
    exact none_of (.inl (by rw [hr]; rfl))
  | some f =>
    have e0 : eOf x = 0 := by unfold eOf; rw [hr]
    have ew : wOf x = f.plain := by unfold wOf; rw [hr]
    have hm := number_of_read hr
    rw [e0]
    rw [ew] at hp
    refine ifV_f rfl ?_
    have fin : ∀ fr, newFr f = some fr → S64_j1 (i64 t) (i64 q) (i64 x) (ptr d) h1 K := by
      intro fr hfr
      unfold S64_j1
      have hb : (read x).bind newFr = some fr := by rw [hr]; exact hfr
      rw [hb] at ky
      simp only at ky
      rw [if_pos (by omega)] at ky
      refine la0 hp (c := f.plain.enc) (by exact Nat.le_refl 7) rfl ?_
      obtain ⟨c1, rc1, ef⟩ := newFr_cells hfr
      rw [hm.2.1] at ef
      refine bnd_of ef ?_
      have g1 := rcells_good rc1
      refine bs0 hp [c1] (by
        have : fillV (List.replicate 14 (.int .i64 0) ++ [.bool false, .bool false, .int .i64 0]) [(0, 17, .agg c1.toArray)] = some (setCells (List.replicate 14 (.int .i64 0) ++ [.bool false, .bool false, .int .i64 0]) 0 c1) := by
          simp only [fillV, cells_agg, List.size_toArray, g1.1]; rfl
        rw [this, setCells_all (by rw [g1.1]; rfl)]; simp) rfl (by simp) (fun x hx => by rw [List.mem_singleton.1 hx]; exact g1) fun sv h3 hp => ?_
      obtain ⟨sa, sc, _, rfl, _⟩ := hp.row
      (repeat first|refine wx ?_|refine wy ?_|refine wz ?_|refine wv ?_|refine wh ?_)
      refine nw hp (rhRow (.new t q fr) (.slice sa [c1].length sc)) rfl fun b h4 hp => ?_
      refine ky _ rfl b _ ?_
      have hp2 : All (pts b (rhRow (.new t q fr) (.slice sa [c1].length sc)) :: rowP 17 (.slice sa [c1].length sc) [c1] :: R) h4 := hp.re 3 [0, 1]
      have hp3 := hp2.mono2 fun _ z => z.head (Q := rstkP (.slice sa [c1].length sc) (.new t q fr)) fun _ z _ => ⟨c1, [], ⟨rc1, .nil⟩, z⟩
      exact (All.fold (l := [_, _]) hp3).head fun h1 z => ⟨_, z⟩
    cases f with
    | val v =>
      (repeat first|refine wx ?_|refine wy ?_|refine wz ?_|refine wv ?_|refine wh ?_)
      exact none_of (.inl (by rw [hr]; rfl))
    | mcas s g => (repeat first|refine wx ?_|refine wy ?_|refine wz ?_|refine wv ?_|refine wh ?_); exact fin _ rfl
    | entry s g e' t' q' => (repeat first|refine wx ?_|refine wy ?_|refine wz ?_|refine wv ?_|refine wh ?_); exact fin _ rfl
end
/-! ### what the steps keep -/
theorem zero64 : I64 0 := ⟨by decide, by decide⟩
theorem Wh.new_ok {s g : Int} (hs : Life s g) : (Wh.new s g).ok :=
  ⟨hs, by simp [Wh.new], by simp [Wh.new], fun h => absurd rfl h, by simp [Wh.new], zero64, by simp [Wh.new], by simp [Wh.new], zero64, zero64, zero64, by simp [Wh.new], by simp [Wh.new], fun q => by cases q⟩
theorem newFr_ok {f : Form} {fr : Fr} (hm : f.may = true) (e : newFr f = some fr) : fr.ok := by
  cases f with
  | val v => cases e
  | mcas s g => cases e; rw [may_mcas] at hm; exact Wh.new_ok ⟨hm.1, hm.2.1, hm.2.2.1, hm.2.2.2⟩
  | entry s g e' t q =>
    cases e; rw [may_entry] at hm
    obtain ⟨h1, h2, h3, h4, h5, h6, h7, h8, h9, h10⟩ := hm
    exact ⟨⟨h1, h2, h3, h4⟩, h5, h6, h7, h8, h9, h10, by simp [En.new], by simp [En.new], zero64, by simp [En.new]⟩
theorem newHelp_ok {t q x : Int} {H : Help} (e : newHelp t q x = some H) : H.ok := by
  unfold newHelp at e
  split at e
  · rename_i f ef
    split at e
    · rename_i c
      cases e
      obtain ⟨fo, hr, hf⟩ := Option.bind_eq_some_iff.1 ef
      refine ⟨c.1, c.2.1, c.2.2.1, c.2.2.2, (by constructor <;> simp [Help.new]), zero64, fun _ => ⟨newFr_ok (number_of_read hr).1 hf, (fun _ h => by cases h), by simp [Help.new]⟩⟩
    · cases e
  · cases e
end Go.Proofs.YtnhiagemjonglaaGreat
namespace Go.Proofs.YtnhiagemjonglaaGreat
open Go GW Go.Proofs
set_option linter.unusedVariables false
set_option linter.unusedSimpArgs false
section
variable {A : Ar} {t q : Int}
structure Out.fine (o : Out) : Prop where
  a : o.a.ok
  q0 : 0 ≤ o.q
  q1 : o.q < 1048576
  fr : o.good = true → o.over = false → o.fr.ok
theorem val4 {x : Int} (hx : I64 x) : I64 (valOf x * 4) := by
  have := valOf_le hx
  constructor <;> omega
theorem Wh.next_ok {w : Wh} {more stop : Nat} (ok : w.ok) (hi : w.i < 16) (h1 : 1 ≤ more) (h2 : more ≤ 13) (h3 : stop = 8) : (w.next more stop).ok := by
  subst h3
  have p1 : (w.next more 8).pc = if w.k ≤ w.i + 1 then 8 else more := rfl
  have i0 := ok.i0
  have k1 := ok.k1
  refine ⟨ok.life, by simp only [Wh.next]; omega, by simp only [Wh.next]; omega, ?_, ok.k1, ok.k0, ok.c0, ok.c1, ok.was, ok.put, ok.x, ?_, ?_, ?_⟩
  · intro _ _ h8 _
    rw [p1] at h8
    simp only [Wh.next]
    split at h8
    · exact absurd rfl h8
    · omega
  · rw [p1]; split <;> omega
  · rw [p1]; split <;> omega
  · rw [p1]; intro e; split at e <;> omega
theorem Wh.next_ok0 {w : Wh} (ok : w.ok) (hi : w.i < 16) (hk : ¬ (w.k ≤ w.i + 1)) : (w.next 11 0).ok := by
  have p1 : (w.next 11 0).pc = 11 := by simp only [Wh.next]; rw [if_neg hk]
  have i0 := ok.i0
  have k1 := ok.k1
  refine ⟨ok.life, by simp only [Wh.next]; omega, by simp only [Wh.next]; omega, ?_, ok.k1, ok.k0, ok.c0, ok.c1, ok.was, ok.put, ok.x, ?_, ?_, ?_⟩
  · intro _ _ _ _; simp only [Wh.next]; omega
  · omega
  · omega
  · intro e; omega
theorem Wh.step_ok {w : Wh} (ok : w.ok) (hA : A.ok) (t0 : 0 ≤ t) (t1 : t < 4) (q0 : 0 ≤ q) (q1 : q < 1048576) : (w.step t q A).fine := by
  obtain ⟨s, g, pc, i, k, cell, was, put, x, opn, won⟩ := w
  obtain ⟨life, i0, i1, i2, k1, k0, c0, c1, was1, put1, x1, pc1, pc0, ref⟩ := ok
  simp only at life i0 i1 i2 k1 k0 c0 c1 was1 put1 x1 pc1 pc0 ref
  have ok : (Wh.mk s g pc i k cell was put x opn won).ok := ⟨life, i0, i1, i2, k1, k0, c0, c1, was1, put1, x1, pc1, pc0, ref⟩
  have hb := valOf_range hA (baseOf s + 1)
  have st : ∀ d, 0 ≤ d → d < 4 → I64 (stateW g d) := fun d h0 h1 => stateW_range life.g0 life.g1 h0 h1
  have : pc = 1 ∨ pc = 2 ∨ pc = 3 ∨ pc = 4 ∨ pc = 5 ∨ pc = 6 ∨ pc = 7 ∨ pc = 8 ∨ pc = 9 ∨ pc = 10 ∨ pc = 11 ∨ pc = 12 ∨ pc = 13 ∨ pc = 14 := by omega
  rcases this with rfl | rfl | rfl | rfl | rfl | rfl | rfl | rfl | rfl | rfl | rfl | rfl | rfl | rfl
  · refine ⟨hA.ld _, q0, q1, fun _ _ => ?_⟩
    simp only [Wh.step]
    refine ⟨life, i0, i1, ?_, k1, k0, c0, c1, was1, put1, x1, ?_, ?_, ?_⟩ <;> simp only <;> split <;> first | omega | (intro a b c d; simp at b d)
  · refine ⟨hA.ld _, q0, q1, fun hg _ => ?_⟩
    have hv := (is_val hg).1
    simp only [Wh.step]
    refine ⟨life, by simp, by simp, fun _ _ _ _ => by simp, hv, by constructor <;> (simp only; omega), c0, c1, was1, put1, x1, ?_, ?_, ?_⟩ <;> simp only <;> split <;> omega
  · refine ⟨hA.ld _, q0, q1, fun hg _ => ?_⟩
    have hv := (is_val hg).1
    simp only at hv
    have h0 := (valOf_range hA (baseOf s + (2 + 3 * i + 0))).1
    exact ⟨life, i0, i1, fun _ _ _ _ => i2 (by decide) (by decide) (by decide) (by decide), k1, k0, h0, by simp only; omega, was1, put1, x1, by simp, by simp, fun e => by cases e⟩
  · refine ⟨hA.ld _, q0, q1, fun hg _ => ?_⟩
    exact ⟨life, i0, i1, fun _ _ _ _ => i2 (by decide) (by decide) (by decide) (by decide), k1, k0, c0, c1, val4 (Ar.at_range hA _), put1, x1, by simp, by simp, fun e => by cases e⟩
  · have hi := i2 (by decide) (by decide) (by decide) (by decide)
    have hp := entry_range life i0 hi t0 t1 q0 q1
    have q0' : 0 ≤ (q + 1) % 1048576 := by omega
    have q1' : (q + 1) % 1048576 < 1048576 := by omega
    have ok' : (Wh.mk s g 5 i k cell was (Form.entry s g i t q).number x opn won).ok := ⟨life, i0, i1, i2, k1, k0, c0, c1, was1, hp, x1, pc1, pc0, ref⟩
    rw [Wh.step5 rfl]
    unfold Wh.swapIn
    simp only
    split
    · exact ⟨hA.cas _ _ hp, q0', q1', fun _ _ => ⟨life, i0, i1, fun _ _ _ _ => hi, k1, k0, c0, c1, was1, hp, x1, by simp, by simp, fun e => by cases e⟩⟩
    · split
      · exact ⟨hA.cas _ _ hp, q0', q1', fun e => by cases e⟩
      · exact ⟨hA.cas _ _ hp, q0', q1', fun _ _ => ⟨life, i0, i1, fun _ _ _ _ => hi, k1, k0, c0, c1, was1, hp, x1, by simp, by simp, fun e => by cases e⟩⟩
      · exact ⟨hA.cas _ _ hp, q0', q1', fun _ _ => ok'⟩
      · rename_i s' g' hr
        split
        · exact ⟨hA.cas _ _ hp, q0', q1', fun _ _ => Wh.next_ok ok' hi (by decide) (by decide) rfl⟩
        · exact ⟨hA.cas _ _ hp, q0', q1', fun _ _ => ⟨life, i0, i1, fun _ _ _ _ => hi, k1, k0, c0, c1, was1, hp, Ar.at_range hA _, by simp, by simp, fun _ => ⟨s', g', hr⟩⟩⟩
  · refine ⟨hA.ld _, q0, q1, fun hg _ => ?_⟩
    exact ⟨life, i0, i1, fun _ _ _ _ => i2 (by decide) (by decide) (by decide) (by decide), k1, k0, c0, c1, was1, put1, x1, by simp, by simp, fun e => by cases e⟩
  · refine ⟨hA.cas _ _ ?_, q0, q1, fun hg _ => ?_⟩
    · simp only [Wh.mine]; split
      · exact mcas_range life
      · exact was1
    · exact Wh.next_ok ok (i2 (by decide) (by decide) (by decide) (by decide)) (by decide) (by decide) rfl
  · exact ⟨hA.cas _ _ (st 1 (by decide) (by decide)), q0, q1, fun _ _ => ⟨life, i0, i1, fun e => absurd rfl e, k1, k0, c0, c1, was1, put1, x1, by simp, by simp, fun e => by cases e⟩⟩
  · exact ⟨hA.cas _ _ (st 2 (by decide) (by decide)), q0, q1, fun _ _ => ⟨life, i0, i1, fun e => absurd rfl e, k1, k0, c0, c1, was1, put1, x1, by simp, by simp, fun e => by cases e⟩⟩
  · refine ⟨hA.ld _, q0, q1, fun hg _ => ?_⟩
    have hv := (is_val hg).1
    exact ⟨life, by simp, by simp, fun _ _ _ _ => by simp, hv, by constructor <;> (simp only; omega), c0, c1, was1, put1, x1, by simp, by simp, fun e => by cases e⟩
  · refine ⟨hA.ld _, q0, q1, fun hg _ => ?_⟩
    have hv := (is_val hg).1
    simp only at hv
    have h0 := (valOf_range hA (baseOf s + (2 + 3 * i + 0))).1
    exact ⟨life, i0, i1, fun _ _ _ _ => i2 (by decide) (by decide) (by decide) (by decide), k1, k0, h0, by simp only; omega, was1, put1, x1, by simp, by simp, fun e => by cases e⟩
  · refine ⟨hA.ld _, q0, q1, fun hg _ => ?_⟩
    exact ⟨life, i0, i1, fun _ _ _ _ => i2 (by decide) (by decide) (by decide) (by decide), k1, k0, c0, c1, was1, put1, val4 (Ar.at_range hA _), by simp, by simp, fun e => by cases e⟩
  · refine ⟨hA.cas _ _ x1, q0, q1, fun hg ho => ?_⟩
    have hk : ¬ (k ≤ i + 1) := of_decide_eq_false ho
    exact Wh.next_ok0 ok (i2 (by decide) (by decide) (by decide) (by decide)) hk
  · simp only [Wh.step]
    have hi := i2 (by decide) (by decide) (by decide) (by decide)
    split
    · exact ⟨hA.ld _, q0, q1, fun _ _ => ⟨life, i0, i1, fun _ _ _ _ => hi, k1, k0, c0, c1, was1, put1, x1, by simp, by simp, fun e => by cases e⟩⟩
    · exact ⟨hA.ld _, q0, q1, fun _ _ => ⟨life, i0, i1, fun _ _ _ _ => hi, k1, k0, c0, c1, was1, put1, x1, by simp, by simp, fun e => by cases e⟩⟩
theorem En.step_ok {f : En} (ok : f.ok) (hA : A.ok) (q0 : 0 ≤ q) (q1 : q < 1048576) : (f.step q A).fine := by
  obtain ⟨s, g, e, t', q', pc, cell, was, opn⟩ := f
  obtain ⟨life, e0, e1, t0, t1, q0', q1', c0, c1, was1, pc1⟩ := ok
  simp only at life e0 e1 t0 t1 q0' q1' c0 c1 was1 pc1
  have : pc = 0 ∨ pc = 1 ∨ pc = 2 ∨ pc = 3 := by omega
  rcases this with rfl | rfl | rfl | rfl
  · refine ⟨hA.ld _, q0, q1, fun hg _ => ?_⟩
    have hv := (is_val hg).1
    simp only at hv
    have h0 := (valOf_range hA (baseOf s + (2 + 3 * e + 0))).1
    exact ⟨life, e0, e1, t0, t1, q0', q1', h0, by simp only; omega, was1, by simp⟩
  · refine ⟨hA.ld _, q0, q1, fun hg _ => ?_⟩
    exact ⟨life, e0, e1, t0, t1, q0', q1', c0, c1, val4 (Ar.at_range hA _), by simp⟩
  · exact ⟨hA.ld _, q0, q1, fun hg _ => ⟨life, e0, e1, t0, t1, q0', q1', c0, c1, was1, by simp⟩⟩
  · refine ⟨hA.cas _ _ ?_, q0, q1, fun _ h => by cases h⟩
    simp only; split
    · exact mcas_range life
    · exact was1
theorem Fr.step_ok {f : Fr} (ok : f.ok) (hA : A.ok) (t0 : 0 ≤ t) (t1 : t < 4) (q0 : 0 ≤ q) (q1 : q < 1048576) : (f.step t q A).fine := by
  cases f with
  | who w => exact Wh.step_ok ok hA t0 t1 q0 q1
  | ent f => exact En.step_ok ok hA q0 q1
theorem Fr.life {f : Fr} (ok : f.ok) : Life f.s f.g := by
  cases f with
  | who w => exact Wh.ok.life ok
  | ent f => exact En.ok.life ok
theorem life64 {s g : Int} (h : Life s g) : I64 s ∧ I64 g := by
  have := h.s0; have := h.s1; have := h.g0; have := h.g1
  constructor <;> constructor <;> omega
theorem Help.step_ok {H : Help} (ok : H.ok) (hA : A.ok) : (H.step A).1.ok ∧ (H.step A).2.2.ok := by
  cases c : H.over with
  | true =>
    have e : H.step A = (H, 0, A) := by unfold Help.step; rw [c]; rfl
    rw [e]; exact ⟨ok, hA⟩
  | false =>
    rw [Help.step_eq c]
    obtain ⟨k1, k2, k3⟩ := ok.frames c
    have fine := Fr.step_ok (A := A) k1 hA ok.t0 ok.t1 ok.q0 ok.q1
    have hov := Fr.over_atop (A := A) (t := H.t) (q := H.q) H.top
    have hat := Fr.atop_may (A := A) (t := H.t) (q := H.q) H.top k1
    obtain ⟨ls, lg⟩ := life64 (Fr.life k1)
    generalize H.top.step H.t H.q A = o at fine hov hat ⊢
    refine ⟨?_, fine.a⟩
    unfold Help.take
    split
    · exact ⟨ok.t0, ok.t1, fine.q0, fine.q1, ls, lg, fun h => by cases h⟩
    · rename_i hg
      have hg : o.good = true := by simpa using hg
      split
      · rename_i fr hb
        split
        · exact ⟨ok.t0, ok.t1, fine.q0, fine.q1, ls, lg, fun h => by cases h⟩
        · rename_i h18
          obtain ⟨fo, e1, e2⟩ := Option.bind_eq_some_iff.1 hb
          have ho : o.over = false := by
            cases e : o.over with
            | false => rfl
            | true => rw [hov e] at e1; cases e1
          refine ⟨ok.t0, ok.t1, fine.q0, fine.q1, ls, lg, fun _ => ⟨newFr_ok (hat fo e1).1 e2, fun f hf => ?_, by simp only [List.length_cons]; omega⟩⟩
          rcases List.mem_cons.1 hf with rfl | hf
          · exact fine.fr hg ho
          · exact k2 f hf
      · split
        · rename_i ho
          exact ⟨ok.t0, ok.t1, fine.q0, fine.q1, ls, lg, fun _ => ⟨fine.fr hg ho, k2, k3⟩⟩
        · split
          · exact ⟨ok.t0, ok.t1, fine.q0, fine.q1, ls, lg, fun h => by cases h⟩
          · rename_i r rs hr
            rw [hr] at k2 k3
            exact ⟨ok.t0, ok.t1, fine.q0, fine.q1, ls, lg, fun _ => ⟨k2 r (by simp), fun f hf => k2 f (List.mem_cons_of_mem _ hf), by simp only [List.length_cons] at k3; simp only; omega⟩⟩
end
end Go.Proofs.YtnhiagemjonglaaGreat
