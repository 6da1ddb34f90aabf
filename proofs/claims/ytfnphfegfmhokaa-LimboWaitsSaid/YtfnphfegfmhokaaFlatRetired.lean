/- Contracts of CopyRetireds, SameRetireds, LendRetireds, KeptRetireds, SpoilRetireds. Nothing here is a statement on the program. Written by a program of this session. -/
import Derived.Test.YtfnphfegfmhokaaOwn
namespace Go.Proofs.Ytfnphfegfmhokaa
open Go GW Go.Proofs
set_option linter.unusedVariables false
set_option linter.unusedSimpArgs false
structure Retired where
  slot : Int
  epoch : Int
def Retired.ints (t : Retired) : List Int := [t.slot, t.epoch]
def Retired.enc (t : Retired) : List Value := [i64 t.slot, i64 t.epoch]
theorem Retired.ext_ints {a b : Retired} (h : a.ints = b.ints) : a = b := by
  cases a; cases b; simpa [Retired.ints] using h
instance : DecidableEq Retired := fun a b => if h : a.ints = b.ints then .isTrue (Retired.ext_ints h) else .isFalse fun e => h (by rw [e])
theorem Retired.enc_len (t : Retired) : t.enc.length = 2 := rfl
theorem Retired.enc_good (t : Retired) : good 2 t.enc := ⟨rfl, rfl⟩
theorem Retired.all_good (ts : List Retired) : ∀ c ∈ ts.map Retired.enc, good 2 c := by
  intro c hc
  obtain ⟨t, _, rfl⟩ := List.mem_map.1 hc
  exact t.enc_good
theorem Retired.eqLaw (a b : Retired) : eqP Try.prog 10000 61 (.agg a.enc.toArray) (.agg b.enc.toArray) = some (decide (a = b)) := by
  have h : eqP Try.prog 10000 61 (.agg a.enc.toArray) (.agg b.enc.toArray) = some ((a.slot == b.slot) && ((a.epoch == b.epoch) && true)) := by kernel_rfl
  rw [h]
  cases a; cases b
  simp [Bool.decide_and, Bool.beq_eq_decide_eq]
theorem T_SameRetireds {v w : Value} {us ws : List Retired} {h : GH} {K : Value → GH → Prop} (r : rowsAt h 2 v (us.map Retired.enc)) (q : rowsAt h 2 w (ws.map Retired.enc)) (hK : K (.bool (decide (us = ws))) h) : T Try.prog 28 [v, w] h K := by
  apply S28_T
  unfold S28
  have ⟨a, n, cap, hv, hl, _, hm, _⟩ := r
  have ⟨a2, n2, cap2, hw, hl2, _, hm2, _⟩ := q
  simp only [List.length_map] at hl hl2
  subst hv; subst hw
  simp only [lnV_slice, bnd_some, eqI_int]
  by_cases hlen : n = n2
  · have e1 : ((n : Int) = (n2 : Int)) := by omega
    simp only [e1, decide_true, Bool.not_true, ifV_false]
    refine Lfp_fam (ι := Nat) (fun i => [.slice a n cap, .slice a2 n2 cap2, i64 i]) (fun i h' => i ≤ n ∧ h' = h ∧ us.take i = ws.take i) (fun i => n - i) ?_ 0 h ⟨by omega, rfl, by simp⟩
    intro i h' X ⟨hi, he, hsame⟩ again
    subst he
    simp only [tup_zero, tup_succ, lnV_slice, binV_lss, bnd_some, ifV_dec]
    split
    · rename_i hlt
      obtain ⟨x, hx⟩ : ∃ x, us[i]? = some x := ⟨_, List.getElem?_eq_getElem (by omega)⟩
      obtain ⟨y, hy⟩ : ∃ y, ws[i]? = some y := ⟨_, List.getElem?_eq_getElem (by omega)⟩
      obtain ⟨p, hp, hlp⟩ := r.get (i := i) (c := x.enc) (by simp [hx]) .i64
      obtain ⟨p2, hp2, hlp2⟩ := q.get (i := i) (c := y.enc) (by simp [hy]) .i64
      simp only [hp, hlp, hp2, hlp2, bnd_some, Retired.eqLaw]
      by_cases hxy : x = y
      · simp only [hxy, decide_true, Bool.not_true, ifV_false, binV_add, bnd_some]
        rw [wrap_id (by omega) (by omega)]
        refine again (i + 1) _ ⟨by omega, rfl, ?_⟩ (by omega)
        rw [List.take_add_one, List.take_add_one, hsame, hx, hy, hxy]
      · simp only [hxy, decide_false, Bool.not_false, ifV_true]
        have : us ≠ ws := fun e => hxy (by rw [e, hy] at hx; cases hx; rfl)
        simpa [this] using hK
    · have hi : i = n := by omega
      have : us = ws := by
        rw [List.take_of_length_le (by omega), List.take_of_length_le (by omega)] at hsame
        exact hsame
      simpa [this] using hK
  · have e1 : ¬ ((n : Int) = (n2 : Int)) := by omega
    simp only [e1, decide_false, Bool.not_false, ifV_true]
    have : us ≠ ws := fun e => hlen (by rw [← hl, ← hl2, e])
    simpa [this] using hK
theorem T_CopyRetireds {v : Value} {us : List Retired} {h : GH} {K : Value → GH → Prop} (r : rowsAt h 2 v (us.map Retired.enc)) (hb : us.length * 16 ≤ 140737488355328)
    (k : ∀ v' h', own h' 2 v' (us.map Retired.enc) → HLe h h' → (∀ b, blk v' b → h b = none) → K v' h') : T Try.prog 37 [v] h K := by
  apply S37_T
  unfold S37
  unfold bsV
  refine bnd_of rfl ?_
  intro b hb0
  have l1 : HLe h (upd h b (.row 61 [] 0 true)) := (HLe.refl h).new _ hb0
  have o0 : own (upd h b (.row 61 [] 0 true)) 2 (.slice (some ⟨b, 0, none⟩) 0 0) [] := own_of (upd_same _ _ _) rfl rfl (by omega) (Nat.le_refl _) (by omega) (fun c hc => by cases hc)
  refine own_ap o0 (r.le l1) (Retired.all_good _) (by decide) (by simpa using hb) fun v' h' o kp fr => ?_
  refine k v' h' o (l1.keep kp fun b' hb' => ?_) fun b' hb' => ?_
  · have : b = b' := hb'
    subst this; exact hb0
  · rcases fr b' hb' with q | q
    · have : b = b' := q
      subst this; exact hb0
    · exact l1.none q
def Retired.mark : Retired := ⟨0, 77777⟩
theorem T_LendRetireds {v : Value} {us : List Retired} {h : GH} {K : Value → GH → Prop} (r : rowsAt h 2 v (us.map Retired.enc)) (hb : (us.length + 2) * 16 ≤ 140737488355328)
    (k : ∀ v' h', lent h' 2 v' (us.map Retired.enc) ([Retired.mark, Retired.mark].map Retired.enc) → HLe h h' → (∀ b, blk v' b → h b = none) → K v' h') : T Try.prog 23 [v] h K := by
  apply S23_T
  unfold S23
  refine T_CopyRetireds r (by omega) fun v1 h1 o1 l1 f1 => ?_
  refine bnd_of rfl (bnd_of rfl ?_)
  unfold bsV
  refine bnd_of rfl ?_
  intro b hb0
  have l2 := (HLe.refl h1).new (.row 61 ([Retired.mark, Retired.mark].map Retired.enc).flatten 4 true) hb0
  refine own_ap (o1.le l2) (rowsAt_of (upd_same _ _ _) (cs := [Retired.mark, Retired.mark].map Retired.enc) rfl (by decide) (by decide) (fun c hc => (Retired.all_good _ c hc).1) (Nat.zero_le _) ⟨[], rfl⟩) (Retired.all_good _) (by decide) (by simpa using hb) fun v2 h2 o2 kp fr => ?_
  obtain ⟨a, n, cap, rfl, hl, _, _, _⟩ := r
  simp only [List.length_map] at hl
  have o2' := o2
  obtain ⟨a2, cap2, rfl, hc2, hm2, _, _⟩ := o2'
  simp only [lnV_slice, bnd_some]
  simp only [List.length_append, List.length_map] at hc2
  rw [slV_len (by simp at hc2; omega) .i64]
  simp only [bnd_some]
  refine k _ _ ⟨a2, cap2, by simp [hl], o2⟩ ((l1.trans l2).keep kp f1) fun b' hb' => ?_
  have hb2 : blk (.slice a2 (us.map Retired.enc ++ [Retired.mark, Retired.mark].map Retired.enc).length cap2) b' := by cases a2 <;> exact hb'
  rcases fr b' hb2 with q | q
  · exact f1 b' q
  · exact (l1.trans l2).none q
theorem T_KeptRetireds {v w : Value} {us : List Retired} {h : GH} {K : Value → GH → Prop} (o : lent h 2 v (us.map Retired.enc) ([Retired.mark, Retired.mark].map Retired.enc)) (q : rowsAt h 2 w (us.map Retired.enc)) (hK : K (.bool true) h) : T Try.prog 32 [v, w] h K := by
  apply S32_T
  unfold S32
  have r := o.rows
  obtain ⟨a, cap, rfl, o⟩ := o
  have ⟨_, _, e, hc, hm, _, _⟩ := o
  cases e
  simp only [List.length_append, List.length_map, List.length_cons, List.length_nil] at hc hm
  simp only [lnV_slice, bnd_some, binV_add, List.length_map]
  rw [wrap_id (by omega) (by omega)]
  have e2 : ((us.length : Int) + 2) = ((us.length + 2 : Nat) : Int) := by omega
  rw [e2, slV_len (by omega) .i64]
  simp only [bnd_some]
  rw [List.length_map] at r
  refine T_SameRetireds r q ?_
  simp only [decide_true, ifV_true]
  obtain ⟨a', n', cap', rfl, hl', _, hm', _⟩ := q
  simp only [List.length_map] at hl'
  simp only [lnV_slice, bnd_some]
  have full := o.rows
  simp only [List.length_append, List.length_map, List.length_cons, List.length_nil] at full
  obtain ⟨p, hp, hlp⟩ := full.get (i := n') (c := Retired.mark.enc) (by rw [List.getElem?_append_right (by simp; omega)]; simp [hl']) .i64
  obtain ⟨p2, hp2, hlp2⟩ := full.get (i := n' + 1) (c := Retired.mark.enc) (by rw [List.getElem?_append_right (by simp; omega)]; simp [hl']) .i64
  refine bnd_of hp (bnd_of hlp (bnd_of rfl (bnd_of (Retired.eqLaw Retired.mark Retired.mark) ?_)))
  simp only [decide_true, ifV_true, bnd_some, binV_add]
  rw [wrap_id (by omega) (by omega)]
  refine bnd_of hp2 (bnd_of hlp2 (bnd_of rfl (bnd_of (Retired.eqLaw Retired.mark Retired.mark) ?_)))
  simpa using hK
theorem T_SpoilRetireds {v : Value} {us : List Retired} {h : GH} {K : Value → GH → Prop} (o : own h 2 v (us.map Retired.enc)) (k : ∀ h', Keep (blk v) h h' → K (.tuple #[]) h') : T Try.prog 30 [v] h K := by
  apply S30_T
  unfold S30
  obtain ⟨a, cap, rfl, hc, hm, hg, ho⟩ := o
  have hflat := (flatten_good _ hg).1
  have hints : ∀ x ∈ (us.map Retired.enc).flatten, ∃ k, x = i64 k := flatten_ints fun c hc x hx => by
    obtain ⟨t, _, rfl⟩ := List.mem_map.1 hc
    simp only [Retired.enc, List.mem_cons, List.not_mem_nil, or_false] at hx
    rcases hx with rfl | rfl <;> exact ⟨_, rfl⟩
  generalize hn : (us.map Retired.enc).length = n at *
  generalize (us.map Retired.enc).flatten = cells0 at *
  rcases ho with ⟨rfl, he, rfl⟩ | ⟨b, T, rfl, hb⟩
  · rw [he] at hn
    simp only [List.length_nil] at hn
    subst hn
    refine Lfp_fam (ι := Unit) (fun _ => [.slice none 0 0, i64 0]) (fun _ h' => h' = h) (fun _ => 0) ?_ () h rfl
    intro _ h' X hh again
    subst hh
    refine bnd_of rfl (bnd_of rfl ?_)
    exact k _ (.refl _ _)
  · refine Lfp_fam (ι := Nat × List Value) (fun q => [.slice (some ⟨b, 0, none⟩) n cap, i64 q.1]) (fun q h' => q.1 ≤ n ∧ h' = upd h b (.row T q.2 (cap * 2) true) ∧ q.2.length = n * 2 ∧ ∀ x ∈ q.2, ∃ k, x = i64 k) (fun q => n - q.1) ?_ (0, cells0) h ⟨Nat.zero_le _, (upd_self hb).symm, hflat, hints⟩
    rintro ⟨i, cells⟩ h' X ⟨hi, he, hl, hx⟩ again
    simp only at hi he hl hx
    subst he
    simp only [tup_zero, tup_succ, lnV_slice, binV_lss, bnd_some, ifV_dec]
    split
    · rename_i hlt
      have e1 : isV 2 (.slice (some ⟨b, 0, none⟩) n cap) (i64 i) = some (.pointer (some ⟨b, i * 2, none⟩)) := by
        simp only [isV]; rw [if_pos ⟨by omega, hlt⟩]; simp
      have hoff : i * 2 + 1 < cells.length := by omega
      obtain ⟨x, hx1⟩ := hx cells[i * 2 + 1] (List.getElem_mem hoff)
      obtain ⟨y, hy⟩ := binV_xor x 90
      simp only [e1, bnd_some, faV_pointer, ldV_same, List.getElem?_eq_getElem hoff, hx1, hy, stV_same]
      rw [if_pos ⟨rfl, hoff, rfl⟩]
      simp only [bnd_some, binV_add]
      rw [wrap_id (by omega) (by omega)]
      refine again (i + 1, cells.set (i * 2 + 1) (i64 y)) _ ⟨by omega, rfl, by simpa using hl, fun z hz => ?_⟩ (by simp only; omega)
      rcases List.mem_or_eq_of_mem_set hz with q | q
      · exact hx z q
      · exact ⟨y, q⟩
    · refine k _ fun k' g e' nb => ?_
      have : k' ≠ b := fun q => nb (by subst q; rfl)
      rw [upd_ne this]; exact e'
end Go.Proofs.Ytfnphfegfmhokaa
