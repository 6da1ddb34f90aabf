/- Forms that an attempt is not. Nothing here is a statement on the program. -/
import Derived.Test.YtnhiagemjonglaaGreatKZ
namespace Go.Proofs.YtnhiagemjonglaaGreat
open Go GW Go.Proofs
attribute [local irreducible] bnd ldV stV ifV binV eqI
set_option linter.unusedVariables false
set_option linter.unusedSimpArgs false
set_option maxRecDepth 20000
theorem eqI_u64 (x y : Int) : eqI (.int .u64 x) (.int .u64 y) = some (decide (x = y)) := eqI_int _ _ _
theorem uidx (x : Int) {n : Nat} (h0 : 0 < n) (h1 : n ≤ 1000) : ∃ k : Nat, k < n ∧ ∃ a, cvV .u64 (i64 x) = some (.int .u64 a) ∧ cvV .u64 (i64 n) = some (.int .u64 n) ∧ binV .rem (.int .u64 a) (.int .u64 n) = some (.int .u64 k) ∧ cvV .i64 (.int .u64 k) = some (i64 k) := by
  have hw : 0 ≤ IntKind.u64.wrap x := by unfold IntKind.wrap; simp [IntKind.bits, IntKind.signed]; omega
  have hn : IntKind.u64.wrap (n : Int) = n := by unfold IntKind.wrap; simp [IntKind.bits, IntKind.signed]; omega
  have h2 := Int.emod_nonneg (IntKind.u64.wrap x) (show (n : Int) ≠ 0 by omega)
  have h3 := Int.emod_lt_of_pos (IntKind.u64.wrap x) (show (0 : Int) < n by omega)
  refine ⟨(IntKind.u64.wrap x % n).toNat, by omega, IntKind.u64.wrap x, rfl, by rw [cvV_int, hn], ?_, ?_⟩
  · rw [binV_rem, if_neg (by omega), Int.tmod_eq_emod_of_nonneg hw]
    congr 2; omega
  · rw [cvV_int, wrap_id (by omega) (by omega)]
theorem read_bad {x : Int} (h : x % 4 = 3 ∨ x < 0 ∨ (x % 4 = 0 ∧ 4398046511104 ≤ x)) : read x = none := by
  cases e : read x with
  | none => rfl
  | some f =>
    obtain ⟨m, en, h0⟩ := number_of_read e
    exfalso
    cases f with
    | val v => simp only [Form.number] at en; rw [may_val] at m; omega
    | mcas s g => simp only [Form.number] at en; omega
    | entry a b c d f => simp only [Form.number] at en; omega
theorem Rd.step_bad {t q c : Int} {A : Ar} (e : read (A.at c) = none) : (Rd.new t q c).step A = (⟨t, q, c, 0, none, -1, 0, true⟩, 1500, A.ld c) := by
  have p0 : plainOf (A.at c) = none := by unfold plainOf; rw [e]
  have n0 : newHelp t q (A.at c) = none := by unfold newHelp; rw [e]; rfl
  unfold Rd.step
  simp only [Rd.new, Bool.false_eq_true, if_false]
  unfold Rd.load
  simp only [p0, n0]
theorem At.step_over {x : At} {A : Ar} (h : x.over = true) : x.step A = (x, 0, A) := by unfold At.step; rw [if_pos h]
def clOps : List Op := [⟨1, 2, 0, 0⟩]
theorem cl_may : At.may 1 5 3 4 clOps := by unfold At.may; decide
theorem At.step_bad {A : Ar} (e : read (A.at 2) = none) : (At.new 1 5 3 4 clOps).step A = (⟨1, 5, 3, 4, clOps, .rd ⟨1, 5, 2, 0, none, -1, 0, true⟩ vwZ, -1, 0, false, true, []⟩, 1700, A.ld 2) := by
  have en : needN (vwZ.do_ clOps).need = 2 := by decide
  unfold At.step At.new
  rw [en]
  simp only [Bool.false_eq_true, if_false, Rd.step_bad e]
  rfl
section
variable {R : List Part} {h : GH} {K : Value → GH → Prop}
theorem T_AttemptForms {g : GH} {which x : Int} (hp : All [baseP g] h) (hK : ∀ h', K (.bool true) h') : T Tryz.prog 3 [i64 which, i64 x] h K := by
  apply S3_T
  unfold S3
  refine T_aawake hp fun h1 hp => ?_
  (repeat first|refine wx ?_|refine wy ?_|refine wz ?_|refine wv ?_|refine wh ?_)
  refine bnd_of (binV_and_mask x 10 (by decide) (by decide)) ?_
  have x0 : 0 ≤ x % ((2 ^ 10 : Nat) : Int) ∧ x % ((2 ^ 10 : Nat) : Int) < 1024 := by omega
  generalize x % ((2 ^ 10 : Nat) : Int) = y at x0 ⊢
  (repeat first|refine wx ?_|refine wy ?_|refine wz ?_|refine wv ?_|refine wh ?_)
  have hng : IntKind.i64.wrap (0 - (1 + y)) = -(1 + y) := by unfold IntKind.wrap; simp [IntKind.bits, IntKind.signed]; omega
  have neg : unV .neg (i64 (1 + y)) = some (i64 (-(1 + y))) := by rw [← hng]; rfl
  have key : ∀ t q s gn a z pb, ¬ At.may t q s gn [⟨1, a, 0, z⟩] → ∀ h2, All (pts pb (.row 24 [i64 1, i64 a, i64 0, i64 z] 4 true) :: [baseP g]) h2 → S3_j1 (i64 (1 + y)) (i64 t) (i64 q) (i64 s) (i64 gn) (ptr pb) h2 K := by
    intro t q s gn a z pb hn h2 hp
    unfold S3_j1
    refine la0 hp (c := [i64 1, i64 a, i64 0, i64 z]) (Nat.le_refl 4) rfl ?_
    refine bs0 (size := 4) hp ([Op.mk 1 a 0 z].map Op.enc) rfl rfl (by simp) (Op.all_good _) fun ov1 h3 hp => ?_
    refine T_atNew (ops := [⟨1, a, 0, z⟩]) hp (fun h' hp => hp.rows) (fun _ h4 hp => ?_) fun m => absurd m hn
    (repeat first|refine wx ?_|refine wy ?_|refine wz ?_|refine wv ?_|refine wh ?_)
    refine T_shelf (us := []) (cells := []) (dss := []) hp (fun h' hp => rowsAt_nil _ _) (fun h' hp => ⟨rowsAt_nil _ _, .nil⟩) (fun x hx => by cases hx) fun a b h4 hp => ?_
    obtain ⟨hA, _, _⟩ := shelf_view (cells := []) (dss := []) (fun x hx => by cases hx)
    generalize shelfA [] [] = A at hp hA
    (repeat first|refine wx ?_|refine wy ?_|refine wz ?_|refine wv ?_|refine wh ?_)
    refine bs0 (size := 4) hp (clOps.map Op.enc) rfl rfl (by decide) (Op.all_good _) fun ov2 h5 hp => ?_
    refine T_atNew (ops := clOps) hp (fun h' hp => hp.rows) (fun m => absurd cl_may m) fun _ tb h6 hp => ?_
    replace hp : All (arP 127 a A :: attP tb (.new 1 5 3 4 clOps) :: [baseP g]) h6 := hp.sel [2, 0, 6]
    (repeat first|refine wx ?_|refine wy ?_|refine wz ?_|refine wv ?_|refine wh ?_)
    refine T_Num ?_
    (repeat first|refine wx ?_|refine wy ?_|refine wz ?_|refine wv ?_|refine wh ?_)
    unfold S3_j2
    refine T_atThrough (hp.up 1) ?_
    (repeat first|refine wx ?_|refine wy ?_|refine wz ?_|refine wv ?_|refine wh ?_)
    have hz : I64 (4 * (1 + y) + 3) := by constructor <;> omega
    refine L_Store hp (by decide) (by decide) hz fun h7 hp => ?_
    have hB : (A.put 2 (4 * (1 + y) + 3)).ok := hA.put _ hz
    have hBz : (A.put 2 (4 * (1 + y) + 3)).at 2 = 4 * (1 + y) + 3 := by rw [at_put hA (by decide) (by decide) (by decide) (by decide), if_pos rfl]
    generalize A.put 2 (4 * (1 + y) + 3) = B at hp hB hBz
    refine T_atStep hp (At.new_ok cl_may) fun h8 hp => ?_
    have ok1 := At.step_ok (At.new_ok cl_may) hB
    rw [At.step_bad (by rw [hBz]; exact read_bad (.inl (by omega)))] at hp ok1 ⊢
    (repeat first|refine wx ?_|refine wy ?_|refine wz ?_|refine wv ?_|refine wh ?_)
    refine T_atStep hp ok1.1 fun h9 hp => ?_
    rw [At.step_over rfl] at hp ⊢
    (repeat first|refine wx ?_|refine wy ?_|refine wz ?_|refine wv ?_|refine wh ?_)
    refine T_Num ?_
    (repeat first|refine wx ?_|refine wy ?_|refine wz ?_|refine wv ?_|refine wh ?_)
    refine T_Num ?_
    (repeat first|refine wx ?_|refine wy ?_|refine wz ?_|refine wv ?_|refine wh ?_)
    refine T_Num ?_
    (repeat first|refine wx ?_|refine wy ?_|refine wz ?_|refine wv ?_|refine wh ?_)
    refine T_atWon (hp.up 1) ?_
    (repeat first|refine wx ?_|refine wy ?_|refine wz ?_|refine wv ?_|refine wh ?_)
    refine T_atAnswers (hp.up 1) (by simp) fun av h10 hp => ?_
    refine bnd_of hp.len ?_
    (repeat first|refine wx ?_|refine wy ?_|refine wz ?_|refine wv ?_|refine wh ?_)
    refine T_atSeq (hp.up 1) ?_
    (repeat first|refine wx ?_|refine wy ?_|refine wz ?_|refine wv ?_|refine wh ?_)
    exact hK _
  refine nwst hp (.row 24 [i64 1, i64 2, i64 0, i64 0] 4 true) rfl rfl rfl rfl fun pb h2 hp => ?_
  obtain ⟨k, hk, u, q1, q2, q3, q4⟩ : ∃ k : Nat, k < 10 ∧ ∃ a, cvV .u64 (i64 which) = some (.int .u64 a) ∧ cvV .u64 (i64 ((10 : Nat) : Int)) = some (.int .u64 ((10 : Nat) : Int)) ∧ binV .rem (.int .u64 a) (.int .u64 ((10 : Nat) : Int)) = some (.int .u64 k) ∧ cvV .i64 (.int .u64 k) = some (i64 k) := uidx which (n := 10) (by decide) (by decide)
  refine bnd_of q1 ?_
  refine bnd_of q3 ?_
  have tm : ∀ t q s gn (o : Op), ¬ ((0 ≤ t ∧ t < 4) ∧ (0 ≤ q ∧ q < 1048576) ∧ lifeMay s gn = true) → ¬ At.may t q s gn [o] := fun t q s gn o n m => n ⟨m.1, m.2.1, m.2.2.1⟩
  refine bnd_of (eqI_u64 _ _) ?_
  refine ifV_cases (fun c => ?_) fun c => ?_
  · (repeat first|refine wx ?_|refine wy ?_|refine wz ?_|refine wv ?_|refine wh ?_)
    exact key _ _ _ _ _ _ _ (tm _ _ _ _ _ (by unfold lifeMay; simp only [decide_eq_true_eq]; omega)) _ hp
  refine bnd_of (eqI_u64 _ _) ?_
  refine ifV_cases (fun c => ?_) fun c => ?_
  · refine bnd_of neg ?_
    exact key _ _ _ _ _ _ _ (tm _ _ _ _ _ (by unfold lifeMay; simp only [decide_eq_true_eq]; omega)) _ hp
  refine bnd_of (eqI_u64 _ _) ?_
  refine ifV_cases (fun c => ?_) fun c => ?_
  · (repeat first|refine wx ?_|refine wy ?_|refine wz ?_|refine wv ?_|refine wh ?_)
    exact key _ _ _ _ _ _ _ (tm _ _ _ _ _ (by unfold lifeMay; simp only [decide_eq_true_eq]; omega)) _ hp
  refine bnd_of (eqI_u64 _ _) ?_
  refine ifV_cases (fun c => ?_) fun c => ?_
  · refine bnd_of neg ?_
    exact key _ _ _ _ _ _ _ (tm _ _ _ _ _ (by unfold lifeMay; simp only [decide_eq_true_eq]; omega)) _ hp
  refine bnd_of (eqI_u64 _ _) ?_
  refine ifV_cases (fun c => ?_) fun c => ?_
  · (repeat first|refine wx ?_|refine wy ?_|refine wz ?_|refine wv ?_|refine wh ?_)
    exact key _ _ _ _ _ _ _ (tm _ _ _ _ _ (by unfold lifeMay; simp only [decide_eq_true_eq]; omega)) _ hp
  refine bnd_of (eqI_u64 _ _) ?_
  refine ifV_cases (fun c => ?_) fun c => ?_
  · refine bnd_of neg ?_
    exact key _ _ _ _ _ _ _ (tm _ _ _ _ _ (by unfold lifeMay; simp only [decide_eq_true_eq]; omega)) _ hp
  refine bnd_of (eqI_u64 _ _) ?_
  refine ifV_cases (fun c => ?_) fun c => ?_
  · (repeat first|refine wx ?_|refine wy ?_|refine wz ?_|refine wv ?_|refine wh ?_)
    exact key _ _ _ _ _ _ _ (tm _ _ _ _ _ (by unfold lifeMay; simp only [decide_eq_true_eq]; omega)) _ hp
  refine bnd_of (eqI_u64 _ _) ?_
  refine ifV_cases (fun c => ?_) fun c => ?_
  · refine bnd_of neg ?_
    exact key _ _ _ _ _ _ _ (tm _ _ _ _ _ (by unfold lifeMay; simp only [decide_eq_true_eq]; omega)) _ hp
  have bad : ∀ a z, (4 ≤ a ∨ 1 ≤ z) → ¬ At.may 1 5 3 4 [⟨1, a, 0, z⟩] := by
    intro a z ha m
    have := m.2.2.2
    unfold Txn.may Op.may at this
    simp [ruleOf] at this
    omega
  refine bnd_of (eqI_u64 _ _) ?_
  refine ifV_cases (fun c => ?_) fun c => ?_
  · (repeat first|refine wx ?_|refine wy ?_|refine wz ?_|refine wv ?_|refine wh ?_)
    refine st0 hp (.row 24 [i64 1, i64 (3 + (1 + y)), i64 0, i64 0] 4 true) rfl (by decide) rfl rfl fun h3 hp => ?_
    exact key _ _ _ _ _ _ _ (bad _ _ (.inl (by omega))) _ hp
  · (repeat first|refine wx ?_|refine wy ?_|refine wz ?_|refine wv ?_|refine wh ?_)
    refine st0 hp (.row 24 [i64 1, i64 2, i64 0, i64 (1 + y)] 4 true) rfl (by decide) rfl rfl fun h3 hp => ?_
    exact key _ _ _ _ _ _ _ (bad _ _ (.inr (by omega))) _ hp
end
end Go.Proofs.YtnhiagemjonglaaGreat
