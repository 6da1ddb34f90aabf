/- Contracts of EqOps. Nothing here is a statement on the program. Written by a program of this session. -/
import Derived.Test.YtkcgphbgbibhfaaOwn
namespace Go.Proofs.Ytkcgphbgbibhfaa
open Go GW Go.Proofs
set_option linter.unusedVariables false
set_option linter.unusedSimpArgs false
structure Op where
  kind : Int
  a : Int
  b : Int
  x : Int
def Op.ints (t : Op) : List Int := [t.kind, t.a, t.b, t.x]
def Op.enc (t : Op) : List Value := [i64 t.kind, i64 t.a, i64 t.b, i64 t.x]
theorem Op.ext_ints {a b : Op} (h : a.ints = b.ints) : a = b := by
  cases a; cases b; simpa [Op.ints] using h
instance : DecidableEq Op := fun a b => if h : a.ints = b.ints then .isTrue (Op.ext_ints h) else .isFalse fun e => h (by rw [e])
theorem Op.enc_len (t : Op) : t.enc.length = 4 := rfl
theorem Op.enc_good (t : Op) : good 4 t.enc := ⟨rfl, rfl⟩
theorem Op.all_good (ts : List Op) : ∀ c ∈ ts.map Op.enc, good 4 c := by
  intro c hc
  obtain ⟨t, _, rfl⟩ := List.mem_map.1 hc
  exact t.enc_good
theorem Op.eqLaw (a b : Op) : eqP Try.prog 10000 52 (.agg a.enc.toArray) (.agg b.enc.toArray) = some (decide (a = b)) := by
  have h : eqP Try.prog 10000 52 (.agg a.enc.toArray) (.agg b.enc.toArray) = some ((a.kind == b.kind) && ((a.a == b.a) && ((a.b == b.b) && ((a.x == b.x) && true)))) := by kernel_rfl
  rw [h]
  cases a; cases b
  simp [Bool.decide_and, Bool.beq_eq_decide_eq]
end Go.Proofs.Ytkcgphbgbibhfaa
