/- Contracts of SameAnswers. Nothing here is a statement on the program. Written by a program of this session. -/
import Derived.Test.YtkcgphbgbibhfaaOwn
namespace Go.Proofs.Ytkcgphbgbibhfaa
open Go GW Go.Proofs
set_option linter.unusedVariables false
set_option linter.unusedSimpArgs false
structure Answer where
  code : Int
  num : Int
def Answer.ints (t : Answer) : List Int := [t.code, t.num]
def Answer.enc (t : Answer) : List Value := [i64 t.code, i64 t.num]
theorem Answer.ext_ints {a b : Answer} (h : a.ints = b.ints) : a = b := by
  cases a; cases b; simpa [Answer.ints] using h
instance : DecidableEq Answer := fun a b => if h : a.ints = b.ints then .isTrue (Answer.ext_ints h) else .isFalse fun e => h (by rw [e])
theorem Answer.enc_len (t : Answer) : t.enc.length = 2 := rfl
theorem Answer.enc_good (t : Answer) : good 2 t.enc := ⟨rfl, rfl⟩
theorem Answer.all_good (ts : List Answer) : ∀ c ∈ ts.map Answer.enc, good 2 c := by
  intro c hc
  obtain ⟨t, _, rfl⟩ := List.mem_map.1 hc
  exact t.enc_good
theorem Answer.eqLaw (a b : Answer) : eqP Try.prog 10000 57 (.agg a.enc.toArray) (.agg b.enc.toArray) = some (decide (a = b)) := by
  have h : eqP Try.prog 10000 57 (.agg a.enc.toArray) (.agg b.enc.toArray) = some ((a.code == b.code) && ((a.num == b.num) && true)) := by kernel_rfl
  rw [h]
  cases a; cases b
  simp [Bool.decide_and, Bool.beq_eq_decide_eq]
theorem T_SameAnswers {v w : Value} {us ws : List Answer} {h : GH} {K : Value → GH → Prop} (r : rowsAt h 2 v (us.map Answer.enc)) (q : rowsAt h 2 w (ws.map Answer.enc)) (hK : K (.bool (decide (us = ws))) h) : T Try.prog 18 [v, w] h K := by
  apply S18_T
  unfold S18
  have ⟨a, n, cap, hv, hl, _, hm, _⟩ := r
  have ⟨a2, n2, cap2, hw, hl2, _, hm2, _⟩ := q
  simp only [List.length_map] at hl hl2
  subst hv; subst hw
  simp only [lnV_slice, bnd_some, eqI_int]
  by_cases hlen : n = n2
  · have e1 : ((n : Int) = (n2 : Int)) := by omega
    simp only [e1, decide_true, Bool.not_true, ifV_false]
    refine Lfp_fam (ι := Nat) (fun i => [.slice a n cap, .slice a2 n2 cap2, i64 i]) (fun i h' => i ≤ n ∧ h' = h ∧ us.take i = ws.take i) (fun i => n - i) ?_ 0 h ⟨by omega, rfl, by simp⟩
    intro i h' X ⟨hi, he, hsame⟩ again
    subst he
    simp only [tup_zero, tup_succ, lnV_slice, binV_lss, bnd_some, ifV_dec]
    split
    · rename_i hlt
      obtain ⟨x, hx⟩ : ∃ x, us[i]? = some x := ⟨_, List.getElem?_eq_getElem (by omega)⟩
      obtain ⟨y, hy⟩ : ∃ y, ws[i]? = some y := ⟨_, List.getElem?_eq_getElem (by omega)⟩
      obtain ⟨p, hp, hlp⟩ := r.get (i := i) (c := x.enc) (by simp [hx]) .i64
      obtain ⟨p2, hp2, hlp2⟩ := q.get (i := i) (c := y.enc) (by simp [hy]) .i64
      simp only [hp, hlp, hp2, hlp2, bnd_some, Answer.eqLaw]
      by_cases hxy : x = y
      · simp only [hxy, decide_true, Bool.not_true, ifV_false, binV_add, bnd_some]
        rw [wrap_id (by omega) (by omega)]
        refine again (i + 1) _ ⟨by omega, rfl, ?_⟩ (by omega)
        rw [List.take_add_one, List.take_add_one, hsame, hx, hy, hxy]
      · simp only [hxy, decide_false, Bool.not_false, ifV_true]
        have : us ≠ ws := fun e => hxy (by rw [e, hy] at hx; cases hx; rfl)
        simpa [this] using hK
    · have hi : i = n := by omega
      have : us = ws := by
        rw [List.take_of_length_le (by omega), List.take_of_length_le (by omega)] at hsame
        exact hsame
      simpa [this] using hK
  · have e1 : ¬ ((n : Int) = (n2 : Int)) := by omega
    simp only [e1, decide_false, Bool.not_false, ifV_true]
    have : us ≠ ws := fun e => hlen (by rw [← hl, ← hl2, e])
    simpa [this] using hK
end Go.Proofs.Ytkcgphbgbibhfaa
