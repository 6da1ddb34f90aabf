/- Contracts of functions of the program, as the laws use them. -/
import Derived.Test.YtfnphfegfmhokaaLimbo5
namespace Go.Proofs.Ytfnphfegfmhokaa
open Go GW Go.Proofs
set_option linter.unusedVariables false
set_option linter.unusedSimpArgs false
theorem not_of {r : Retired} (h1 : 0 ≤ r.slot) (h2 : r.slot < 12) (h3 : 0 ≤ r.epoch) (h4 : r.epoch < 1073741824) : r.not = false := by
  unfold Retired.not; simp [h1, h2, h3, h4]
theorem any_not_of {rs : List Retired} (h : ∀ r ∈ rs, r.not = false) : rs.any Retired.not = false := by
  rw [← Bool.not_eq_true]; intro q
  obtain ⟨r, hr, e⟩ := List.any_eq_true.1 q
  rw [h r hr] at e; cases e
theorem addBad_of {rs : List Retired} {x : Retired} (h : ∀ r ∈ rs, r.not = false) (hx : x.not = false) : addBad rs x = false := by
  unfold addBad; rw [any_not_of h, hx]; rfl
theorem takeBad_of {rs : List Retired} {e : Int} (h : ∀ r ∈ rs, r.not = false) (h1 : 0 ≤ e) (h2 : e < 1073741824) : takeBad rs e = false := by
  unfold takeBad; rw [any_not_of h]; simp [h1, h2]
theorem T_Add_good {v : Value} {rs : List Retired} {slot epoch : Int} {h : GH} {K : Value → GH → Prop} (r : rowsAt h 2 v (rs.map Retired.enc)) (hb : (rs.length + 1) * 16 ≤ 140737488355328) (hok : addBad rs ⟨slot, epoch⟩ = false)
    (k : ∀ v' h', own h' 2 v' ((rs ++ [(⟨slot, epoch⟩ : Retired)]).map Retired.enc) → HLe h h' → (∀ b, blk v' b → h b = none) → K (.tuple #[v', i64 0]) h') : T Try.prog 24 [v, i64 slot, i64 epoch] h K :=
  T_Add r hb (fun q => by rw [hok] at q; cases q) fun _ => k
theorem T_Take_good {v : Value} {rs : List Retired} {e : Int} {h : GH} {K : Value → GH → Prop} (r : rowsAt h 2 v (rs.map Retired.enc)) (hb : (rs.length + 1) * 16 ≤ 140737488355328) (hok : takeBad rs e = false)
    (k : ∀ vr vs h', Taken h h' vr vs (ripes rs e) (rests rs e) → K (.tuple #[vr, vs, i64 0]) h') : T Try.prog 26 [v, i64 e] h K :=
  T_Take r hb (fun q => by rw [hok] at q; cases q) fun _ => k
theorem ripes_none {rs : List Retired} {e : Int} (h : ∀ r ∈ rs, isRipe e r = false) : ripes rs e = [] ∧ rests rs e = rs := by
  unfold ripes rests
  refine ⟨?_, List.filter_eq_self.2 fun r hr => by rw [h r hr]; rfl⟩
  rw [List.filter_eq_nil_iff.2 fun r hr => by rw [h r hr]; decide]; rfl
theorem ripes_every {rs : List Retired} {e : Int} (h : ∀ r ∈ rs, isRipe e r = true) : ripes rs e = rs.map Retired.slot ∧ rests rs e = [] := by
  unfold ripes rests
  refine ⟨by rw [List.filter_eq_self.2 h], List.filter_eq_nil_iff.2 fun r hr => by rw [h r hr]; decide⟩
theorem T_LimboEmpties {v : Value} {ss : List Int} {first : Int} {h : GH} (r : rowsAt h 1 v (ss.map encI)) (hlen : (ss.length + 2) * 8 ≤ 140737488355328) : T Try.prog 13 [v, i64 first] h fun v _ => v = .bool true := by
  apply S13_T
  unfold S13
  refine T_awake12 (bnd_of rfl (ifV_f rfl ?_))
  refine bnd_of (binV_and_mask first 16 (by decide) (by decide)) ?_
  have d1 : 0 ≤ first % ((2 ^ 16 : Nat) : Int) := Int.emod_nonneg _ (by decide)
  have d2 : first % ((2 ^ 16 : Nat) : Int) < ((2 ^ 16 : Nat) : Int) := Int.emod_lt_of_pos _ (by decide)
  generalize first % ((2 ^ 16 : Nat) : Int) = e at *
  refine Lfp_fam (ι := Nat × Value × List Retired) (fun q => [v, i64 e, q.2.1, i64 q.1]) (fun q h' => q.1 ≤ 12 ∧ q.1 ≤ ss.length ∧ own h' 2 q.2.1 (q.2.2.map Retired.enc) ∧ HLe h h' ∧ q.2.2.length = q.1 ∧ ∀ (j : Nat) x, q.2.2[j]? = some x → 0 ≤ x.slot ∧ x.slot < 12 ∧ x.epoch = e + j) (fun q => 12 - q.1) ?_ (0, .slice none 0 0, []) h ⟨by decide, Nat.zero_le _, own_nil _ _, .refl _, rfl, fun j x hx => by simp at hx⟩
  rintro ⟨i, rv, L⟩ h' X ⟨hi, hi2, ho, hle, hl, hall⟩ again
  simp only at hi hi2 ho hle hl hall
  have hmem : ∀ x ∈ L, ∃ j : Nat, j < L.length ∧ 0 ≤ x.slot ∧ x.slot < 12 ∧ x.epoch = e + j := fun x hx => by
    obtain ⟨j, hj, hx⟩ := List.mem_iff_getElem.1 hx
    exact ⟨j, hj, hall j x (by rw [List.getElem?_eq_getElem hj, hx])⟩
  have hgood : ∀ x ∈ L, x.not = false := fun x hx => by
    obtain ⟨j, hj, h1, h2, h3⟩ := hmem x hx
    exact not_of h1 h2 (by omega) (by omega)
  have hln := (r.le hle).len
  rw [List.length_map] at hln
  have last : S13_j2 (tup [v, i64 e, rv, i64 i]) (i64 e) rv h' (fun v _ => v = .bool true) X := by
    unfold S13_j2
    refine bnd_of (binV_add _ _ _) ?_
    rw [wrap_id (by omega) (by omega)]
    refine bnd_of (binV_sub _ _ _) ?_
    rw [wrap_id (by omega) (by omega)]
    refine T_Take_good ho.rows (by omega) (takeBad_of hgood (by omega) (by omega)) fun c d h2 t2 => ?_
    refine bnd_of rfl (bnd_of rfl (bnd_of rfl ?_))
    obtain ⟨n1, n2⟩ := ripes_none (rs := L) (e := e + 3 - 1) fun x hx => by
      obtain ⟨j, hj, h1, h2, h3⟩ := hmem x hx
      unfold isRipe; exact decide_eq_false (by omega)
    rw [n1, n2] at t2
    refine bnd_of (binV_add _ _ _) ?_
    rw [wrap_id (by omega) (by omega)]
    have hrl := ho.rows.len
    rw [List.length_map] at hrl
    refine bnd_of hrl (bnd_of (binV_add _ _ _) ?_)
    rw [wrap_id (by omega) (by omega)]
    refine T_Take_good (ho.le t2.le).rows (by omega) (takeBad_of hgood (by omega) (by omega)) fun c3 d3 h3 t3 => ?_
    refine bnd_of rfl (bnd_of rfl (bnd_of rfl ?_))
    obtain ⟨m1, m2⟩ := ripes_every (rs := L) (e := e + 3 + (L.length : Int)) fun x hx => by
      obtain ⟨j, hj, h1, h2, h3⟩ := hmem x hx
      unfold isRipe; exact decide_eq_true (by omega)
    rw [m1, m2] at t3
    refine T_Num (bnd_of rfl (ifV_f rfl ?_))
    refine T_Num (bnd_of rfl (ifV_f rfl ?_))
    refine bnd_of t2.r.rows.len (bnd_of rfl (ifV_f rfl ?_))
    refine T_SameRetireds (t2.s.le t3.le).rows (ho.le (t2.le.trans t3.le)).rows ?_
    rw [decide_eq_true rfl]
    refine bnd_of rfl (ifV_f rfl ?_)
    refine bnd_of t3.s.rows.len (bnd_of rfl (ifV_f rfl ?_))
    refine bnd_of t3.r.rows.len (bnd_of hrl (bnd_of (eqI_int _ _ _) ?_))
    rw [List.length_map, List.length_map, decide_eq_true rfl]
    refine ifV_f rfl ?_
    unfold S13_j3
    refine Lfp_fam (ι := Nat) (fun k => [rv, c3, i64 k]) (fun k h4 => k ≤ L.length ∧ h4 = h3) (fun k => L.length - k) ?_ 0 h3 ⟨Nat.zero_le _, rfl⟩
    intro k h4 Y ⟨hk, hh⟩ again2
    subst hh
    simp only [tup_zero, tup_succ, hrl, binV_lss, bnd_some, ifV_dec]
    split
    · rename_i hlt
      obtain ⟨x, hx⟩ : ∃ x, L[k]? = some x := ⟨_, List.getElem?_eq_getElem (by omega)⟩
      obtain ⟨p, hp, hlp⟩ := t3.r.rows.get1 (i := k) (x := i64 x.slot) (by rw [List.getElem?_map, List.getElem?_map, hx]; rfl) .i64
      obtain ⟨b, o, e2, hf, ha⟩ := (ho.le (t2.le.trans t3.le)).rows.fld (i := k) (c := x.enc) (by simp [hx]) .i64
      refine bnd_of hp (bnd_of hlp (bnd_of e2 (bnd_of rfl (bnd_of (hf 0 _ rfl) (bnd_of (eqI_int _ _ _) ?_)))))
      rw [decide_eq_true rfl]
      refine ifV_f rfl (bnd_of (binV_add _ _ _) ?_)
      rw [wrap_id (by omega) (by omega)]
      exact again2 (k + 1) h4 ⟨by omega, rfl⟩ (by omega)
    · trivial
  simp only [tup_zero, tup_succ, hln, binV_lss, bnd_some, ifV_dec]
  split
  · rename_i hlt
    split
    · rename_i h12
      unfold S13_j1
      obtain ⟨x, hx⟩ : ∃ x, ss[i]? = some x := ⟨_, List.getElem?_eq_getElem (by omega)⟩
      obtain ⟨p, hp, hlp⟩ := (r.le hle).get1 (i := i) (x := i64 x) (by rw [List.getElem?_map, hx]; rfl) .i64
      refine bnd_of hp (bnd_of hlp (bnd_of (binV_and_mask x 10 (by decide) (by decide)) ?_))
      have y1 : 0 ≤ x % ((2 ^ 10 : Nat) : Int) := Int.emod_nonneg _ (by decide)
      generalize x % ((2 ^ 10 : Nat) : Int) = y at *
      refine bnd_of (v := i64 (y.tmod 12)) (by rw [binV_rem]; rfl) ?_
      have t1 : 0 ≤ y.tmod 12 := Int.tmod_nonneg _ y1
      have t2 : y.tmod 12 < 12 := Int.tmod_lt_of_pos _ (by decide)
      refine bnd_of (binV_add _ _ _) ?_
      rw [wrap_id (n := e + (i : Int)) (by omega) (by omega)]
      refine T_Add_good ho.rows (by omega) (addBad_of hgood (not_of t1 t2 (by simp only; omega) (by simp only; omega))) fun v2 h2 o2 l2 f2 => ?_
      refine bnd_of rfl (bnd_of rfl ?_)
      refine T_Num (bnd_of rfl (ifV_f rfl (bnd_of (binV_add _ _ _) ?_)))
      rw [wrap_id (n := (i : Int) + 1) (by omega) (by omega)]
      refine again (i + 1, v2, L ++ [⟨y.tmod 12, e + i⟩]) h2 ⟨by simp only; omega, by simp only; omega, o2, hle.trans l2, by simp [hl], fun j z hz => ?_⟩ (by simp only; omega)
      simp only at hz
      rcases Nat.lt_or_ge j L.length with q | q
      · rw [List.getElem?_append_left q] at hz; exact hall j z hz
      · rw [List.getElem?_append_right q] at hz
        have hj : j = L.length := by
          have := (List.getElem?_eq_some_iff.1 hz).1
          simp at this; omega
        subst hj
        simp only [Nat.sub_self, List.getElem?_cons_zero, Option.some.injEq] at hz
        subst hz
        exact ⟨t1, t2, by rw [hl]⟩
    · exact last
  · exact last
end Go.Proofs.Ytfnphfegfmhokaa
