/- Contracts of CopyTouchs, SameTouchs, LendTouchs, KeptTouchs. Nothing here is a statement on the program. Written by a program of this session. -/
import Derived.Test.YtfnphfegfmhokaaOwn
namespace Go.Proofs.Ytfnphfegfmhokaa
open Go GW Go.Proofs
set_option linter.unusedVariables false
set_option linter.unusedSimpArgs false
structure Touch where
  thread : Int
  kind : Int
  at_ : Int
  was : Int
  now : Int
  slot : Int
  gen : Int
  live : Int
def Touch.ints (t : Touch) : List Int := [t.thread, t.kind, t.at_, t.was, t.now, t.slot, t.gen, t.live]
def Touch.enc (t : Touch) : List Value := [i64 t.thread, i64 t.kind, i64 t.at_, i64 t.was, i64 t.now, i64 t.slot, i64 t.gen, i64 t.live]
theorem Touch.ext_ints {a b : Touch} (h : a.ints = b.ints) : a = b := by
  cases a; cases b; simpa [Touch.ints] using h
instance : DecidableEq Touch := fun a b => if h : a.ints = b.ints then .isTrue (Touch.ext_ints h) else .isFalse fun e => h (by rw [e])
theorem Touch.enc_len (t : Touch) : t.enc.length = 8 := rfl
theorem Touch.enc_good (t : Touch) : good 8 t.enc := ⟨rfl, rfl⟩
theorem Touch.all_good (ts : List Touch) : ∀ c ∈ ts.map Touch.enc, good 8 c := by
  intro c hc
  obtain ⟨t, _, rfl⟩ := List.mem_map.1 hc
  exact t.enc_good
theorem Touch.eqLaw (a b : Touch) : eqP Try.prog 10000 41 (.agg a.enc.toArray) (.agg b.enc.toArray) = some (decide (a = b)) := by
  have h : eqP Try.prog 10000 41 (.agg a.enc.toArray) (.agg b.enc.toArray) = some ((a.thread == b.thread) && ((a.kind == b.kind) && ((a.at_ == b.at_) && ((a.was == b.was) && ((a.now == b.now) && ((a.slot == b.slot) && ((a.gen == b.gen) && ((a.live == b.live) && true)))))))) := by kernel_rfl
  rw [h]
  cases a; cases b
  simp [Bool.decide_and, Bool.beq_eq_decide_eq]
theorem T_SameTouchs {v w : Value} {us ws : List Touch} {h : GH} {K : Value → GH → Prop} (r : rowsAt h 8 v (us.map Touch.enc)) (q : rowsAt h 8 w (ws.map Touch.enc)) (hK : K (.bool (decide (us = ws))) h) : T Try.prog 36 [v, w] h K := by
  apply S36_T
  unfold S36
  have ⟨a, n, cap, hv, hl, _, hm, _⟩ := r
  have ⟨a2, n2, cap2, hw, hl2, _, hm2, _⟩ := q
  simp only [List.length_map] at hl hl2
  subst hv; subst hw
  simp only [lnV_slice, bnd_some, eqI_int]
  by_cases hlen : n = n2
  · have e1 : ((n : Int) = (n2 : Int)) := by omega
    simp only [e1, decide_true, Bool.not_true, ifV_false]
    refine Lfp_fam (ι := Nat) (fun i => [.slice a n cap, .slice a2 n2 cap2, i64 i]) (fun i h' => i ≤ n ∧ h' = h ∧ us.take i = ws.take i) (fun i => n - i) ?_ 0 h ⟨by omega, rfl, by simp⟩
    intro i h' X ⟨hi, he, hsame⟩ again
    subst he
    simp only [tup_zero, tup_succ, lnV_slice, binV_lss, bnd_some, ifV_dec]
    split
    · rename_i hlt
      obtain ⟨x, hx⟩ : ∃ x, us[i]? = some x := ⟨_, List.getElem?_eq_getElem (by omega)⟩
      obtain ⟨y, hy⟩ : ∃ y, ws[i]? = some y := ⟨_, List.getElem?_eq_getElem (by omega)⟩
      obtain ⟨p, hp, hlp⟩ := r.get (i := i) (c := x.enc) (by simp [hx]) .i64
      obtain ⟨p2, hp2, hlp2⟩ := q.get (i := i) (c := y.enc) (by simp [hy]) .i64
      simp only [hp, hlp, hp2, hlp2, bnd_some, Touch.eqLaw]
      by_cases hxy : x = y
      · simp only [hxy, decide_true, Bool.not_true, ifV_false, binV_add, bnd_some]
        rw [wrap_id (by omega) (by omega)]
        refine again (i + 1) _ ⟨by omega, rfl, ?_⟩ (by omega)
        rw [List.take_add_one, List.take_add_one, hsame, hx, hy, hxy]
      · simp only [hxy, decide_false, Bool.not_false, ifV_true]
        have : us ≠ ws := fun e => hxy (by rw [e, hy] at hx; cases hx; rfl)
        simpa [this] using hK
    · have hi : i = n := by omega
      have : us = ws := by
        rw [List.take_of_length_le (by omega), List.take_of_length_le (by omega)] at hsame
        exact hsame
      simpa [this] using hK
  · have e1 : ¬ ((n : Int) = (n2 : Int)) := by omega
    simp only [e1, decide_false, Bool.not_false, ifV_true]
    have : us ≠ ws := fun e => hlen (by rw [← hl, ← hl2, e])
    simpa [this] using hK
theorem T_CopyTouchs {v : Value} {us : List Touch} {h : GH} {K : Value → GH → Prop} (r : rowsAt h 8 v (us.map Touch.enc)) (hb : us.length * 64 ≤ 140737488355328)
    (k : ∀ v' h', own h' 8 v' (us.map Touch.enc) → HLe h h' → (∀ b, blk v' b → h b = none) → K v' h') : T Try.prog 34 [v] h K := by
  apply S34_T
  unfold S34
  unfold bsV
  refine bnd_of rfl ?_
  intro b hb0
  have l1 : HLe h (upd h b (.row 41 [] 0 true)) := (HLe.refl h).new _ hb0
  have o0 : own (upd h b (.row 41 [] 0 true)) 8 (.slice (some ⟨b, 0, none⟩) 0 0) [] := own_of (upd_same _ _ _) rfl rfl (by omega) (Nat.le_refl _) (by omega) (fun c hc => by cases hc)
  refine own_ap o0 (r.le l1) (Touch.all_good _) (by decide) (by simpa using hb) fun v' h' o kp fr => ?_
  refine k v' h' o (l1.keep kp fun b' hb' => ?_) fun b' hb' => ?_
  · have : b = b' := hb'
    subst this; exact hb0
  · rcases fr b' hb' with q | q
    · have : b = b' := q
      subst this; exact hb0
    · exact l1.none q
def Touch.mark : Touch := ⟨0, 0, 77777, 0, 0, 0, 0, 0⟩
theorem T_LendTouchs {v : Value} {us : List Touch} {h : GH} {K : Value → GH → Prop} (r : rowsAt h 8 v (us.map Touch.enc)) (hb : (us.length + 2) * 64 ≤ 140737488355328)
    (k : ∀ v' h', lent h' 8 v' (us.map Touch.enc) ([Touch.mark, Touch.mark].map Touch.enc) → HLe h h' → (∀ b, blk v' b → h b = none) → K v' h') : T Try.prog 18 [v] h K := by
  apply S18_T
  unfold S18
  refine T_CopyTouchs r (by omega) fun v1 h1 o1 l1 f1 => ?_
  refine bnd_of rfl (bnd_of rfl ?_)
  unfold bsV
  refine bnd_of rfl ?_
  intro b hb0
  have l2 := (HLe.refl h1).new (.row 41 ([Touch.mark, Touch.mark].map Touch.enc).flatten 16 true) hb0
  refine own_ap (o1.le l2) (rowsAt_of (upd_same _ _ _) (cs := [Touch.mark, Touch.mark].map Touch.enc) rfl (by decide) (by decide) (fun c hc => (Touch.all_good _ c hc).1) (Nat.zero_le _) ⟨[], rfl⟩) (Touch.all_good _) (by decide) (by simpa using hb) fun v2 h2 o2 kp fr => ?_
  obtain ⟨a, n, cap, rfl, hl, _, _, _⟩ := r
  simp only [List.length_map] at hl
  have o2' := o2
  obtain ⟨a2, cap2, rfl, hc2, hm2, _, _⟩ := o2'
  simp only [lnV_slice, bnd_some]
  simp only [List.length_append, List.length_map] at hc2
  rw [slV_len (by simp at hc2; omega) .i64]
  simp only [bnd_some]
  refine k _ _ ⟨a2, cap2, by simp [hl], o2⟩ ((l1.trans l2).keep kp f1) fun b' hb' => ?_
  have hb2 : blk (.slice a2 (us.map Touch.enc ++ [Touch.mark, Touch.mark].map Touch.enc).length cap2) b' := by cases a2 <;> exact hb'
  rcases fr b' hb2 with q | q
  · exact f1 b' q
  · exact (l1.trans l2).none q
theorem T_KeptTouchs {v w : Value} {us : List Touch} {h : GH} {K : Value → GH → Prop} (o : lent h 8 v (us.map Touch.enc) ([Touch.mark, Touch.mark].map Touch.enc)) (q : rowsAt h 8 w (us.map Touch.enc)) (hK : K (.bool true) h) : T Try.prog 21 [v, w] h K := by
  apply S21_T
  unfold S21
  have r := o.rows
  obtain ⟨a, cap, rfl, o⟩ := o
  have ⟨_, _, e, hc, hm, _, _⟩ := o
  cases e
  simp only [List.length_append, List.length_map, List.length_cons, List.length_nil] at hc hm
  simp only [lnV_slice, bnd_some, binV_add, List.length_map]
  rw [wrap_id (by omega) (by omega)]
  have e2 : ((us.length : Int) + 2) = ((us.length + 2 : Nat) : Int) := by omega
  rw [e2, slV_len (by omega) .i64]
  simp only [bnd_some]
  rw [List.length_map] at r
  refine T_SameTouchs r q ?_
  simp only [decide_true, ifV_true]
  obtain ⟨a', n', cap', rfl, hl', _, hm', _⟩ := q
  simp only [List.length_map] at hl'
  simp only [lnV_slice, bnd_some]
  have full := o.rows
  simp only [List.length_append, List.length_map, List.length_cons, List.length_nil] at full
  obtain ⟨p, hp, hlp⟩ := full.get (i := n') (c := Touch.mark.enc) (by rw [List.getElem?_append_right (by simp; omega)]; simp [hl']) .i64
  obtain ⟨p2, hp2, hlp2⟩ := full.get (i := n' + 1) (c := Touch.mark.enc) (by rw [List.getElem?_append_right (by simp; omega)]; simp [hl']) .i64
  refine bnd_of hp (bnd_of hlp (bnd_of rfl (bnd_of (Touch.eqLaw Touch.mark Touch.mark) ?_)))
  simp only [decide_true, ifV_true, bnd_some, binV_add]
  rw [wrap_id (by omega) (by omega)]
  refine bnd_of hp2 (bnd_of hlp2 (bnd_of rfl (bnd_of (Touch.eqLaw Touch.mark Touch.mark) ?_)))
  simpa using hK
end Go.Proofs.Ytfnphfegfmhokaa
