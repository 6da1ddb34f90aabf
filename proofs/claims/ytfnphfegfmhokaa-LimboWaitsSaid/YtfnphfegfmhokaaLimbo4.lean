/- Contracts of functions of the program, as the laws use them. -/
import Derived.Test.YtfnphfegfmhokaaLimbo3
import Derived.Test.YtfnphfegfmhokaaSafe3
namespace Go.Proofs.Ytfnphfegfmhokaa
open Go GW Go.Proofs
set_option linter.unusedVariables false
set_option linter.unusedSimpArgs false
theorem ripes_append (a b : List Retired) (e : Int) : ripes (a ++ b) e = ripes a e ++ ripes b e := by unfold ripes; rw [List.filter_append, List.map_append]
theorem rests_append (a b : List Retired) (e : Int) : rests (a ++ b) e = rests a e ++ rests b e := by unfold rests; rw [List.filter_append]
theorem split_at {α : Type} {l : List α} {i : Nat} {x : α} (h : l[i]? = some x) : l = l.take i ++ x :: l.drop (i + 1) := by
  have hi := (List.getElem?_eq_some_iff.1 h).1
  have hx := (List.getElem?_eq_some_iff.1 h).2
  conv => lhs; rw [← List.take_append_drop i l]
  rw [List.drop_eq_getElem_cons hi, hx]
theorem not_bad_of {rs : List Retired} {e : Int} (h : takeBad rs e = false) : (∀ r ∈ rs, r.not = false) ∧ 0 ≤ e ∧ e < 1073741824 := by
  unfold takeBad at h
  simp only [Bool.or_eq_false_iff] at h
  refine ⟨fun r hr => ?_, by simpa using h.2⟩
  rw [← Bool.not_eq_true]; intro q
  rw [List.any_eq_true.2 ⟨r, hr, q⟩] at h
  cases h.1
theorem T_LimboRows {v : Value} {rs : List Retired} {e : Int} {h : GH} (r : rowsAt h 2 v (rs.map Retired.enc)) (hlen : (rs.length + 2) * 16 ≤ 140737488355328) : T Try.prog 12 [v, i64 e] h fun v _ => v = .bool true := by
  apply S12_T
  unfold S12
  refine T_awake12 (bnd_of rfl (ifV_f rfl ?_))
  refine T_Take_all r (by omega) fun c d h2 t => ?_
  refine bnd_of rfl (bnd_of rfl (bnd_of rfl ?_))
  refine T_Num (bnd_of (eqI_int _ _ _) ?_)
  rw [ifV_iff]
  have rc := t.r.rows
  have rd := t.s.rows
  by_cases hbad : takeBad rs e = true
  · have e1 : takeE rs e = 1200 := by unfold takeE; rw [if_pos hbad]
    rw [e1, if_pos (by decide)]
    unfold takeR at rc
    unfold takeS at rd
    rw [if_pos hbad] at rc rd
    refine bnd_of rc.len (bnd_of rd.len ?_)
    rfl
  · have e1 : takeE rs e = 0 := by unfold takeE; rw [if_neg hbad]
    rw [e1, if_neg (by decide)]
    unfold takeR at rc
    unfold takeS at rd
    rw [if_neg hbad] at rc rd
    obtain ⟨hgood, he⟩ := not_bad_of (Bool.eq_false_iff.2 hbad)
    have hrl := ripes_len rs e
    have hsl := rests_len rs e
    refine Lfp_fam (ι := Nat) (fun i => [v, i64 e, c, d, i64 (ripes (rs.take i) e).length, i64 (rests (rs.take i) e).length, i64 i]) (fun i h' => i ≤ rs.length ∧ h' = h2) (fun i => rs.length - i) ?_ 0 h2 ⟨Nat.zero_le _, rfl⟩
    intro i h' X ⟨hi, hh⟩ again
    subst hh
    have r2 := r.le t.le
    have hln := r2.len
    rw [List.length_map] at hln
    have hw : IntKind.i64.wrap ((i : Int) + 1) = ((i + 1 : Nat) : Int) := by rw [wrap_id (by omega) (by omega)]; rfl
    have htl := List.length_take_le i rs
    have hrl2 := ripes_len (rs.take i) e
    have hsl2 := rests_len (rs.take i) e
    simp only [tup_zero, tup_succ, hln, binV_lss, bnd_some, ifV_dec]
    split
    · rename_i hlt
      obtain ⟨x, hxi⟩ : ∃ x, rs[i]? = some x := ⟨_, List.getElem?_eq_getElem (by omega)⟩
      have hxn := hgood x (List.mem_of_getElem? hxi)
      have hxe : 0 ≤ x.epoch ∧ x.epoch < 1073741824 := by simp [Retired.not] at hxn; omega
      have htake : rs.take (i + 1) = rs.take i ++ [x] := by rw [List.take_add_one, hxi]; rfl
      have hsp := split_at hxi
      obtain ⟨b, o, e2, hf, ha⟩ := r2.fld (i := i) (c := x.enc) (by simp [hxi]) .i64
      have f0 := hf 0 _ rfl
      have f1 := hf 1 _ rfl
      rw [Nat.add_zero] at f0
      have ripe : isRipe e x = true → S12_j1 (tup [v, i64 e, c, d, i64 (ripes (rs.take i) e).length, i64 (rests (rs.take i) e).length, i64 i]) v (i64 e) c d (i64 (ripes (rs.take i) e).length) (i64 (rests (rs.take i) e).length) (i64 i) (.bool true) h' (fun v _ => v = .bool true) X := by
        intro hx
        have hget : (ripes rs e)[(ripes (rs.take i) e).length]? = some x.slot := by
          have hA : ripes rs e = ripes (rs.take i) e ++ ripes (x :: rs.drop (i + 1)) e := by rw [← ripes_append, ← hsp]
          rw [hA, List.getElem?_append_right (Nat.le_refl _), Nat.sub_self]
          simp [ripes, List.filter_cons, hx]
        have hlt2 := (List.getElem?_eq_some_iff.1 hget).1
        obtain ⟨p, hp, hlp⟩ := rc.get1 (i := (ripes (rs.take i) e).length) (x := i64 x.slot) (by rw [List.getElem?_map, hget]; rfl) .i64
        unfold S12_j1
        rw [ifV_true]
        refine bnd_of rc.len (bnd_of (binV_geq _ _ _) ?_)
        rw [ifV_dec, if_neg (by rw [List.length_map]; omega)]
        refine bnd_of hp (bnd_of hlp (bnd_of e2 (bnd_of rfl (bnd_of f0 (bnd_of (eqI_int _ _ _) ?_)))))
        rw [decide_eq_true rfl]
        refine ifV_f rfl (bnd_of (binV_add _ _ _) (bnd_of (binV_add _ _ _) ?_))
        rw [hw, wrap_id (by omega) (by omega)]
        have := again (i + 1) h' ⟨by omega, rfl⟩ (by omega)
        rw [htake, ripes_snoc, rests_snoc, if_pos hx, if_pos hx, List.length_append, List.append_nil] at this
        exact this
      have rest : isRipe e x = false → S12_j1 (tup [v, i64 e, c, d, i64 (ripes (rs.take i) e).length, i64 (rests (rs.take i) e).length, i64 i]) v (i64 e) c d (i64 (ripes (rs.take i) e).length) (i64 (rests (rs.take i) e).length) (i64 i) (.bool false) h' (fun v _ => v = .bool true) X := by
        intro hx
        have hget : (rests rs e)[(rests (rs.take i) e).length]? = some x := by
          have hA : rests rs e = rests (rs.take i) e ++ rests (x :: rs.drop (i + 1)) e := by rw [← rests_append, ← hsp]
          rw [hA, List.getElem?_append_right (Nat.le_refl _), Nat.sub_self]
          simp [rests, List.filter_cons, hx]
        have hlt2 := (List.getElem?_eq_some_iff.1 hget).1
        obtain ⟨p, hp, hlp⟩ := rd.get (i := (rests (rs.take i) e).length) (c := x.enc) (by rw [List.getElem?_map, hget]; rfl) .i64
        unfold S12_j1
        rw [ifV_false]
        refine bnd_of rd.len (bnd_of (binV_geq _ _ _) ?_)
        rw [ifV_dec, if_neg (by rw [List.length_map]; omega)]
        refine bnd_of hp (bnd_of hlp (bnd_of e2 (bnd_of ha (bnd_of (Retired.eqLaw x x) ?_))))
        rw [decide_eq_true rfl]
        refine ifV_f rfl (bnd_of (binV_add _ _ _) (bnd_of (binV_add _ _ _) ?_))
        rw [hw, wrap_id (by omega) (by omega)]
        have := again (i + 1) h' ⟨by omega, rfl⟩ (by omega)
        rw [htake, ripes_snoc, rests_snoc, if_neg (by rw [hx]; decide), if_neg (by rw [hx]; decide), List.append_nil, List.length_append] at this
        exact this
      refine bnd_of e2 (bnd_of rfl (bnd_of f1 (bnd_of (binV_geq _ _ _) ?_)))
      rw [ifV_dec]
      split
      · rename_i hge
        refine bnd_of e2 (bnd_of rfl (bnd_of f1 (bnd_of (binV_sub _ _ _) ?_)))
        rw [wrap_id (by omega) (by omega)]
        refine bnd_of (binV_geq _ _ _) ?_
        by_cases hx : isRipe e x = true
        · have e3 : decide (3 ≤ e - x.epoch) = true := hx
          rw [e3]; exact ripe hx
        · have e3 : decide (3 ≤ e - x.epoch) = false := Bool.eq_false_iff.2 hx
          rw [e3]; exact rest e3
      · rename_i hge
        exact rest (by unfold isRipe; exact decide_eq_false (by omega))
    · have hin : i = rs.length := by omega
      have hall : rs.take i = rs := List.take_of_length_le (by omega)
      rw [hall]
      refine bnd_of rc.len ?_
      rw [List.length_map]
      refine bnd_of (eqI_int _ _ _) ?_
      rw [decide_eq_true rfl, ifV_true]
      refine bnd_of rd.len ?_
      rw [List.length_map]
      refine bnd_of (eqI_int _ _ _) ?_
      rw [decide_eq_true rfl]
end Go.Proofs.Ytfnphfegfmhokaa
