/- Forms that a reader is not. Nothing here is a statement on the program. -/
import Derived.Test.YtiopeicakfjbfaaKR
namespace Go.Proofs.Ytiopeicakfjbfaa
open Go GW Go.Proofs
attribute [local irreducible] bnd ldV stV ifV binV eqI
set_option linter.unusedVariables false
set_option linter.unusedSimpArgs false
set_option maxRecDepth 20000
theorem eqI_u64 (x y : Int) : eqI (.int .u64 x) (.int .u64 y) = some (decide (x = y)) := eqI_int _ _ _
theorem uidx (x : Int) {n : Nat} (h0 : 0 < n) (h1 : n ≤ 1000) : ∃ k : Nat, k < n ∧ ∃ a, cvV .u64 (i64 x) = some (.int .u64 a) ∧ cvV .u64 (i64 n) = some (.int .u64 n) ∧ binV .rem (.int .u64 a) (.int .u64 n) = some (.int .u64 k) ∧ cvV .i64 (.int .u64 k) = some (i64 k) := by
  have hw : 0 ≤ IntKind.u64.wrap x := by unfold IntKind.wrap; simp [IntKind.bits, IntKind.signed]; omega
  have hn : IntKind.u64.wrap (n : Int) = n := by unfold IntKind.wrap; simp [IntKind.bits, IntKind.signed]; omega
  have h2 := Int.emod_nonneg (IntKind.u64.wrap x) (show (n : Int) ≠ 0 by omega)
  have h3 := Int.emod_lt_of_pos (IntKind.u64.wrap x) (show (0 : Int) < n by omega)
  refine ⟨(IntKind.u64.wrap x % n).toNat, by omega, IntKind.u64.wrap x, rfl, by rw [cvV_int, hn], ?_, ?_⟩
  · rw [binV_rem, if_neg (by omega), Int.tmod_eq_emod_of_nonneg hw]
    congr 2; omega
  · rw [cvV_int, wrap_id (by omega) (by omega)]
theorem read_bad {x : Int} (h : x % 4 = 3 ∨ x < 0 ∨ (x % 4 = 0 ∧ 4398046511104 ≤ x)) : read x = none := by
  cases e : read x with
  | none => rfl
  | some f =>
    obtain ⟨m, en, h0⟩ := number_of_read e
    exfalso
    cases f with
    | val v => simp only [Form.number] at en; rw [may_val] at m; omega
    | mcas s g => simp only [Form.number] at en; omega
    | entry a b c d f => simp only [Form.number] at en; omega
theorem Rd.step_bad {t q c : Int} {A : Ar} (e : read (A.at c) = none) : (Rd.new t q c).step A = (⟨t, q, c, 0, none, -1, 0, true⟩, 1500, A.ld c) := by
  have p0 : plainOf (A.at c) = none := by unfold plainOf; rw [e]
  have n0 : newHelp t q (A.at c) = none := by unfold newHelp; rw [e]; rfl
  unfold Rd.step
  simp only [Rd.new, Bool.false_eq_true, if_false]
  unfold Rd.load
  simp only [p0, n0]
section
variable {R : List Part} {h : GH} {K : Value → GH → Prop}
theorem T_ReadForms {g : GH} {which x : Int} (hp : All [baseP g] h) (hK : ∀ h', K (.bool true) h') : T Try.prog 5 [i64 which, i64 x] h K := by
  apply S5_T
  unfold S5
  refine T_rawake hp fun h1 hp => ?_
  (repeat first|(with_reducible first|refine wA ?_|refine wB ?_|refine wC ?_|refine wD ?_|refine wE ?_|refine wF ?_|refine wG ?_|refine wH ?_|refine wI ?_|refine wJ ?_|refine wN ?_|refine wT ?_|refine wU ?_)|((with_reducible refine isB ?_);first|refine wK rfl ?_|refine ld0 hp rfl ?_|refine ld1 hp rfl ?_|refine ld2 hp rfl ?_|refine ld3 hp rfl ?_|refine wP ?_|refine wQ ?_|refine wR ?_)|((with_reducible refine isIf ?_);first|refine wV ?_|refine wW ?_)|((with_reducible refine isHl ?_);first|refine hl0 hp rfl ?_|refine hl1 hp rfl ?_|refine hl2 hp rfl ?_|refine hl3 hp rfl ?_))
  refine bnd_of (binV_and_mask x 10 (by decide) (by decide)) ?_
  have x0 : 0 ≤ x % ((2 ^ 10 : Nat) : Int) ∧ x % ((2 ^ 10 : Nat) : Int) < 1024 := by omega
  generalize x % ((2 ^ 10 : Nat) : Int) = y at x0 ⊢
  (repeat first|(with_reducible first|refine wA ?_|refine wB ?_|refine wC ?_|refine wD ?_|refine wE ?_|refine wF ?_|refine wG ?_|refine wH ?_|refine wI ?_|refine wJ ?_|refine wN ?_|refine wT ?_|refine wU ?_)|((with_reducible refine isB ?_);first|refine wK rfl ?_|refine ld0 hp rfl ?_|refine ld1 hp rfl ?_|refine ld2 hp rfl ?_|refine ld3 hp rfl ?_|refine wP ?_|refine wQ ?_|refine wR ?_)|((with_reducible refine isIf ?_);first|refine wV ?_|refine wW ?_)|((with_reducible refine isHl ?_);first|refine hl0 hp rfl ?_|refine hl1 hp rfl ?_|refine hl2 hp rfl ?_|refine hl3 hp rfl ?_))
  have hng : IntKind.i64.wrap (0 - (1 + y)) = -(1 + y) := by unfold IntKind.wrap; simp [IntKind.bits, IntKind.signed]; omega
  have neg : unV .neg (i64 (1 + y)) = some (i64 (-(1 + y))) := by rw [← hng]; rfl
  have key : ∀ t q r, ¬ Rd.may t q r → ∀ h2, All [baseP g] h2 → S5_j1 (i64 which) (i64 (1 + y)) (i64 t) (i64 q) (i64 r) h2 K := by
    intro t q r hn h2 hp
    unfold S5_j1
    refine T_readNew hp (fun _ h3 hp => ?_) fun m => absurd m hn
    (repeat first|(with_reducible first|refine wA ?_|refine wB ?_|refine wC ?_|refine wD ?_|refine wE ?_|refine wF ?_|refine wG ?_|refine wH ?_|refine wI ?_|refine wJ ?_|refine wN ?_|refine wT ?_|refine wU ?_)|((with_reducible refine isB ?_);first|refine wK rfl ?_|refine ld0 hp rfl ?_|refine ld1 hp rfl ?_|refine ld2 hp rfl ?_|refine ld3 hp rfl ?_|refine wP ?_|refine wQ ?_|refine wR ?_)|((with_reducible refine isIf ?_);first|refine wV ?_|refine wW ?_)|((with_reducible refine isHl ?_);first|refine hl0 hp rfl ?_|refine hl1 hp rfl ?_|refine hl2 hp rfl ?_|refine hl3 hp rfl ?_))
    refine T_shelf (us := []) (cells := []) (dss := []) hp (fun h' hp => rowsAt_nil _ _) (fun h' hp => ⟨rowsAt_nil _ _, .nil⟩) (fun x hx => by cases hx) fun a b h4 hp => ?_
    obtain ⟨hA, _, _⟩ := shelf_view (cells := []) (dss := []) (fun x hx => by cases hx)
    generalize shelfA [] [] = A at hp hA
    (repeat first|(with_reducible first|refine wA ?_|refine wB ?_|refine wC ?_|refine wD ?_|refine wE ?_|refine wF ?_|refine wG ?_|refine wH ?_|refine wI ?_|refine wJ ?_|refine wN ?_|refine wT ?_|refine wU ?_)|((with_reducible refine isB ?_);first|refine wK rfl ?_|refine ld0 hp rfl ?_|refine ld1 hp rfl ?_|refine ld2 hp rfl ?_|refine ld3 hp rfl ?_|refine wP ?_|refine wQ ?_|refine wR ?_)|((with_reducible refine isIf ?_);first|refine wV ?_|refine wW ?_)|((with_reducible refine isHl ?_);first|refine hl0 hp rfl ?_|refine hl1 hp rfl ?_|refine hl2 hp rfl ?_|refine hl3 hp rfl ?_))
    have may : Rd.may 1 5 3 := by unfold Rd.may; decide
    refine T_rdNewOk hp may fun pb h5 hp => ?_
    (repeat first|(with_reducible first|refine wA ?_|refine wB ?_|refine wC ?_|refine wD ?_|refine wE ?_|refine wF ?_|refine wG ?_|refine wH ?_|refine wI ?_|refine wJ ?_|refine wN ?_|refine wT ?_|refine wU ?_)|((with_reducible refine isB ?_);first|refine wK rfl ?_|refine ld0 hp rfl ?_|refine ld1 hp rfl ?_|refine ld2 hp rfl ?_|refine ld3 hp rfl ?_|refine wP ?_|refine wQ ?_|refine wR ?_)|((with_reducible refine isIf ?_);first|refine wV ?_|refine wW ?_)|((with_reducible refine isHl ?_);first|refine hl0 hp rfl ?_|refine hl1 hp rfl ?_|refine hl2 hp rfl ?_|refine hl3 hp rfl ?_))
    refine T_Num ?_
    (repeat first|(with_reducible first|refine wA ?_|refine wB ?_|refine wC ?_|refine wD ?_|refine wE ?_|refine wF ?_|refine wG ?_|refine wH ?_|refine wI ?_|refine wJ ?_|refine wN ?_|refine wT ?_|refine wU ?_)|((with_reducible refine isB ?_);first|refine wK rfl ?_|refine ld0 hp rfl ?_|refine ld1 hp rfl ?_|refine ld2 hp rfl ?_|refine ld3 hp rfl ?_|refine wP ?_|refine wQ ?_|refine wR ?_)|((with_reducible refine isIf ?_);first|refine wV ?_|refine wW ?_)|((with_reducible refine isHl ?_);first|refine hl0 hp rfl ?_|refine hl1 hp rfl ?_|refine hl2 hp rfl ?_|refine hl3 hp rfl ?_))
    unfold S5_j2
    refine bnd_of neg ?_
    (repeat first|(with_reducible first|refine wA ?_|refine wB ?_|refine wC ?_|refine wD ?_|refine wE ?_|refine wF ?_|refine wG ?_|refine wH ?_|refine wI ?_|refine wJ ?_|refine wN ?_|refine wT ?_|refine wU ?_)|((with_reducible refine isB ?_);first|refine wK rfl ?_|refine ld0 hp rfl ?_|refine ld1 hp rfl ?_|refine ld2 hp rfl ?_|refine ld3 hp rfl ?_|refine wP ?_|refine wQ ?_|refine wR ?_)|((with_reducible refine isIf ?_);first|refine wV ?_|refine wW ?_)|((with_reducible refine isHl ?_);first|refine hl0 hp rfl ?_|refine hl1 hp rfl ?_|refine hl2 hp rfl ?_|refine hl3 hp rfl ?_))
    refine bs0 (size := 1) hp ([3, -(1 + y), 4 * (1 + y) + 3, 4 * (1099511627775 + (1 + y))].map encI) rfl rfl (by simp) (encI_good _) fun bv h6 hp => ?_
    refine bnd_of (binV_and_mask which 2 (by decide) (by decide)) ?_
    obtain ⟨k, hk, ek⟩ : ∃ k : Nat, k < 4 ∧ which % ((2 ^ 2 : Nat) : Int) = k := ⟨(which % 4).toNat, by omega, by omega⟩
    rw [ek]
    obtain ⟨z, hz⟩ : ∃ z, [3, -(1 + y), 4 * (1 + y) + 3, 4 * (1099511627775 + (1 + y))][k]? = some z := ⟨_, List.getElem?_eq_getElem (by simp; omega)⟩
    obtain ⟨p2, g3, g4⟩ := int_get (i := k) (x := z) hp.rows hz
    refine bnd_of g3 (bnd_of g4 ?_)
    have hzz : (k = 0 → z = 3) ∧ (k = 1 → z = -(1 + y)) ∧ (k = 2 → z = 4 * (1 + y) + 3) ∧ (k = 3 → z = 4 * (1099511627775 + (1 + y))) := by
      refine ⟨?_, ?_, ?_, ?_⟩ <;> (rintro rfl; cases hz; rfl)
    obtain ⟨z1, z2, z3, z4⟩ := hzz
    have hbad : (z % 4 = 3 ∨ z < 0 ∨ (z % 4 = 0 ∧ 4398046511104 ≤ z)) ∧ I64 z := by
      rcases k with _ | _ | _ | _ | k
      · have := z1 rfl; exact ⟨by omega, by constructor <;> omega⟩
      · have := z2 rfl; exact ⟨by omega, by constructor <;> omega⟩
      · have := z3 rfl; exact ⟨by omega, by constructor <;> omega⟩
      · have := z4 rfl; exact ⟨by omega, by constructor <;> omega⟩
      · omega
    refine L_Store (hp.up 2) (by decide) (by decide) hbad.2 fun h7 hp => ?_
    have hB : (A.put 3 z).ok := hA.put _ hbad.2
    have hBz : (A.put 3 z).at 3 = z := by rw [at_put hA (by decide) (by decide) (by decide) (by decide), if_pos rfl]
    generalize A.put 3 z = B at hp hB hBz
    replace hp : All (arP 84 a B :: readP pb (.new 1 5 3) :: [baseP g]) h7 := hp.sel [0, 2, 4]
    refine T_rdStep hp (Rd.new_ok may) fun h8 hp => ?_
    rw [Rd.step_bad (by rw [hBz]; exact read_bad hbad.1)] at hp ⊢
    (repeat first|(with_reducible first|refine wA ?_|refine wB ?_|refine wC ?_|refine wD ?_|refine wE ?_|refine wF ?_|refine wG ?_|refine wH ?_|refine wI ?_|refine wJ ?_|refine wN ?_|refine wT ?_|refine wU ?_)|((with_reducible refine isB ?_);first|refine wK rfl ?_|refine ld0 hp rfl ?_|refine ld1 hp rfl ?_|refine ld2 hp rfl ?_|refine ld3 hp rfl ?_|refine wP ?_|refine wQ ?_|refine wR ?_)|((with_reducible refine isIf ?_);first|refine wV ?_|refine wW ?_)|((with_reducible refine isHl ?_);first|refine hl0 hp rfl ?_|refine hl1 hp rfl ?_|refine hl2 hp rfl ?_|refine hl3 hp rfl ?_))
    refine T_rdStep (r := ⟨1, 5, 3, 0, none, -1, 0, true⟩) hp ⟨by decide, by decide, by decide, by decide, by decide, by decide, fun H e => by cases e⟩ fun h9 hp => ?_
    rw [Rd.step_over rfl] at hp ⊢
    (repeat first|(with_reducible first|refine wA ?_|refine wB ?_|refine wC ?_|refine wD ?_|refine wE ?_|refine wF ?_|refine wG ?_|refine wH ?_|refine wI ?_|refine wJ ?_|refine wN ?_|refine wT ?_|refine wU ?_)|((with_reducible refine isB ?_);first|refine wK rfl ?_|refine ld0 hp rfl ?_|refine ld1 hp rfl ?_|refine ld2 hp rfl ?_|refine ld3 hp rfl ?_|refine wP ?_|refine wQ ?_|refine wR ?_)|((with_reducible refine isIf ?_);first|refine wV ?_|refine wW ?_)|((with_reducible refine isHl ?_);first|refine hl0 hp rfl ?_|refine hl1 hp rfl ?_|refine hl2 hp rfl ?_|refine hl3 hp rfl ?_))
    refine T_Num ?_
    (repeat first|(with_reducible first|refine wA ?_|refine wB ?_|refine wC ?_|refine wD ?_|refine wE ?_|refine wF ?_|refine wG ?_|refine wH ?_|refine wI ?_|refine wJ ?_|refine wN ?_|refine wT ?_|refine wU ?_)|((with_reducible refine isB ?_);first|refine wK rfl ?_|refine ld0 hp rfl ?_|refine ld1 hp rfl ?_|refine ld2 hp rfl ?_|refine ld3 hp rfl ?_|refine wP ?_|refine wQ ?_|refine wR ?_)|((with_reducible refine isIf ?_);first|refine wV ?_|refine wW ?_)|((with_reducible refine isHl ?_);first|refine hl0 hp rfl ?_|refine hl1 hp rfl ?_|refine hl2 hp rfl ?_|refine hl3 hp rfl ?_))
    refine T_Num ?_
    (repeat first|(with_reducible first|refine wA ?_|refine wB ?_|refine wC ?_|refine wD ?_|refine wE ?_|refine wF ?_|refine wG ?_|refine wH ?_|refine wI ?_|refine wJ ?_|refine wN ?_|refine wT ?_|refine wU ?_)|((with_reducible refine isB ?_);first|refine wK rfl ?_|refine ld0 hp rfl ?_|refine ld1 hp rfl ?_|refine ld2 hp rfl ?_|refine ld3 hp rfl ?_|refine wP ?_|refine wQ ?_|refine wR ?_)|((with_reducible refine isIf ?_);first|refine wV ?_|refine wW ?_)|((with_reducible refine isHl ?_);first|refine hl0 hp rfl ?_|refine hl1 hp rfl ?_|refine hl2 hp rfl ?_|refine hl3 hp rfl ?_))
    refine T_Num ?_
    (repeat first|(with_reducible first|refine wA ?_|refine wB ?_|refine wC ?_|refine wD ?_|refine wE ?_|refine wF ?_|refine wG ?_|refine wH ?_|refine wI ?_|refine wJ ?_|refine wN ?_|refine wT ?_|refine wU ?_)|((with_reducible refine isB ?_);first|refine wK rfl ?_|refine ld0 hp rfl ?_|refine ld1 hp rfl ?_|refine ld2 hp rfl ?_|refine ld3 hp rfl ?_|refine wP ?_|refine wQ ?_|refine wR ?_)|((with_reducible refine isIf ?_);first|refine wV ?_|refine wW ?_)|((with_reducible refine isHl ?_);first|refine hl0 hp rfl ?_|refine hl1 hp rfl ?_|refine hl2 hp rfl ?_|refine hl3 hp rfl ?_))
    refine T_rdValue (hp.up 1) ?_
    (repeat first|(with_reducible first|refine wA ?_|refine wB ?_|refine wC ?_|refine wD ?_|refine wE ?_|refine wF ?_|refine wG ?_|refine wH ?_|refine wI ?_|refine wJ ?_|refine wN ?_|refine wT ?_|refine wU ?_)|((with_reducible refine isB ?_);first|refine wK rfl ?_|refine ld0 hp rfl ?_|refine ld1 hp rfl ?_|refine ld2 hp rfl ?_|refine ld3 hp rfl ?_|refine wP ?_|refine wQ ?_|refine wR ?_)|((with_reducible refine isIf ?_);first|refine wV ?_|refine wW ?_)|((with_reducible refine isHl ?_);first|refine hl0 hp rfl ?_|refine hl1 hp rfl ?_|refine hl2 hp rfl ?_|refine hl3 hp rfl ?_))
    refine T_rdSeq (hp.up 1) ?_
    (repeat first|(with_reducible first|refine wA ?_|refine wB ?_|refine wC ?_|refine wD ?_|refine wE ?_|refine wF ?_|refine wG ?_|refine wH ?_|refine wI ?_|refine wJ ?_|refine wN ?_|refine wT ?_|refine wU ?_)|((with_reducible refine isB ?_);first|refine wK rfl ?_|refine ld0 hp rfl ?_|refine ld1 hp rfl ?_|refine ld2 hp rfl ?_|refine ld3 hp rfl ?_|refine wP ?_|refine wQ ?_|refine wR ?_)|((with_reducible refine isIf ?_);first|refine wV ?_|refine wW ?_)|((with_reducible refine isHl ?_);first|refine hl0 hp rfl ?_|refine hl1 hp rfl ?_|refine hl2 hp rfl ?_|refine hl3 hp rfl ?_))
    exact hK _
  obtain ⟨k, hk, u, q1, q2, q3, q4⟩ : ∃ k : Nat, k < 6 ∧ ∃ a, cvV .u64 (i64 which) = some (.int .u64 a) ∧ cvV .u64 (i64 ((6 : Nat) : Int)) = some (.int .u64 ((6 : Nat) : Int)) ∧ binV .rem (.int .u64 a) (.int .u64 ((6 : Nat) : Int)) = some (.int .u64 k) ∧ cvV .i64 (.int .u64 k) = some (i64 k) := uidx which (n := 6) (by decide) (by decide)
  obtain rfl : IntKind.u64.wrap which = u := by
    have e : cvV .u64 (i64 which) = some (.int .u64 (IntKind.u64.wrap which)) := rfl
    rw [e] at q1; cases q1; rfl
  refine bnd_of q3 ?_
  refine bnd_of (eqI_u64 _ _) ?_
  refine ifV_cases (fun c => ?_) fun c => ?_
  · (repeat first|(with_reducible first|refine wA ?_|refine wB ?_|refine wC ?_|refine wD ?_|refine wE ?_|refine wF ?_|refine wG ?_|refine wH ?_|refine wI ?_|refine wJ ?_|refine wN ?_|refine wT ?_|refine wU ?_)|((with_reducible refine isB ?_);first|refine wK rfl ?_|refine ld0 hp rfl ?_|refine ld1 hp rfl ?_|refine ld2 hp rfl ?_|refine ld3 hp rfl ?_|refine wP ?_|refine wQ ?_|refine wR ?_)|((with_reducible refine isIf ?_);first|refine wV ?_|refine wW ?_)|((with_reducible refine isHl ?_);first|refine hl0 hp rfl ?_|refine hl1 hp rfl ?_|refine hl2 hp rfl ?_|refine hl3 hp rfl ?_))
    exact key _ _ _ (by unfold Rd.may; omega) _ hp
  refine bnd_of (eqI_u64 _ _) ?_
  refine ifV_cases (fun c => ?_) fun c => ?_
  · refine bnd_of neg ?_
    exact key _ _ _ (by unfold Rd.may; omega) _ hp
  refine bnd_of (eqI_u64 _ _) ?_
  refine ifV_cases (fun c => ?_) fun c => ?_
  · (repeat first|(with_reducible first|refine wA ?_|refine wB ?_|refine wC ?_|refine wD ?_|refine wE ?_|refine wF ?_|refine wG ?_|refine wH ?_|refine wI ?_|refine wJ ?_|refine wN ?_|refine wT ?_|refine wU ?_)|((with_reducible refine isB ?_);first|refine wK rfl ?_|refine ld0 hp rfl ?_|refine ld1 hp rfl ?_|refine ld2 hp rfl ?_|refine ld3 hp rfl ?_|refine wP ?_|refine wQ ?_|refine wR ?_)|((with_reducible refine isIf ?_);first|refine wV ?_|refine wW ?_)|((with_reducible refine isHl ?_);first|refine hl0 hp rfl ?_|refine hl1 hp rfl ?_|refine hl2 hp rfl ?_|refine hl3 hp rfl ?_))
    exact key _ _ _ (by unfold Rd.may; omega) _ hp
  refine bnd_of (eqI_u64 _ _) ?_
  refine ifV_cases (fun c => ?_) fun c => ?_
  · refine bnd_of neg ?_
    exact key _ _ _ (by unfold Rd.may; omega) _ hp
  refine bnd_of (eqI_u64 _ _) ?_
  refine ifV_cases (fun c => ?_) fun c => ?_
  · (repeat first|(with_reducible first|refine wA ?_|refine wB ?_|refine wC ?_|refine wD ?_|refine wE ?_|refine wF ?_|refine wG ?_|refine wH ?_|refine wI ?_|refine wJ ?_|refine wN ?_|refine wT ?_|refine wU ?_)|((with_reducible refine isB ?_);first|refine wK rfl ?_|refine ld0 hp rfl ?_|refine ld1 hp rfl ?_|refine ld2 hp rfl ?_|refine ld3 hp rfl ?_|refine wP ?_|refine wQ ?_|refine wR ?_)|((with_reducible refine isIf ?_);first|refine wV ?_|refine wW ?_)|((with_reducible refine isHl ?_);first|refine hl0 hp rfl ?_|refine hl1 hp rfl ?_|refine hl2 hp rfl ?_|refine hl3 hp rfl ?_))
    exact key _ _ _ (by unfold Rd.may; omega) _ hp
  refine bnd_of neg ?_
  exact key _ _ _ (by unfold Rd.may; omega) _ hp
end
end Go.Proofs.Ytiopeicakfjbfaa
