/- Contracts of functions of the program, as the laws use them. -/
import Derived.Test.YtfnphfegfmhokaaLimbo4
import Derived.Test.YtfnphfegfmhokaaSafe3
namespace Go.Proofs.Ytfnphfegfmhokaa
open Go GW Go.Proofs
set_option linter.unusedVariables false
set_option linter.unusedSimpArgs false
theorem T_Add_bad {v : Value} {rs : List Retired} {slot epoch : Int} {h : GH} {K : Value → GH → Prop} (r : rowsAt h 2 v (rs.map Retired.enc)) (hb : (rs.length + 1) * 16 ≤ 140737488355328) (hbad : addBad rs ⟨slot, epoch⟩ = true)
    (k : K (.tuple #[.slice none 0 0, i64 1200]) h) : T Try.prog 24 [v, i64 slot, i64 epoch] h K :=
  T_Add r hb (fun _ => k) fun q => by rw [hbad] at q; cases q
theorem T_Take_bad {v : Value} {rs : List Retired} {e : Int} {h : GH} {K : Value → GH → Prop} (r : rowsAt h 2 v (rs.map Retired.enc)) (hb : (rs.length + 1) * 16 ≤ 140737488355328) (hbad : takeBad rs e = true)
    (k : K (.tuple #[.slice none 0 0, .slice none 0 0, i64 1200]) h) : T Try.prog 26 [v, i64 e] h K :=
  T_Take r hb (fun _ => k) fun q => by rw [hbad] at q; cases q
theorem T_LimboForms {which x : Int} {h : GH} : T Try.prog 11 [i64 which, i64 x] h fun v _ => v = .bool true := by
  apply S11_T
  unfold S11
  refine T_awake12 (bnd_of rfl (ifV_f rfl ?_))
  refine bnd_of (binV_and_mask x 10 (by decide) (by decide)) ?_
  have d1 : 0 ≤ x % ((2 ^ 10 : Nat) : Int) := Int.emod_nonneg _ (by decide)
  have d2 : x % ((2 ^ 10 : Nat) : Int) < ((2 ^ 10 : Nat) : Int) := Int.emod_lt_of_pos _ (by decide)
  generalize x % ((2 ^ 10 : Nat) : Int) = y at *
  refine bnd_of (binV_add _ _ _) ?_
  rw [wrap_id (by omega) (by omega)]
  generalize hd : 1 + y = d
  have hd1 : 1 ≤ d ∧ d ≤ 1024 := by omega
  clear hd
  refine bnd_of rfl ?_
  refine bsV_rows ([⟨3, 5⟩].map Retired.enc) rfl rfl (by decide) (Retired.all_good _) fun vg h1 og l1 f1 => ?_
  refine bnd_of (binV_add _ _ _) ?_
  rw [wrap_id (by omega) (by omega)]
  refine bnd_of rfl (bnd_of (unV_neg _ _) ?_)
  rw [wrap_id (by omega) (by omega)]
  refine bnd_of rfl (bnd_of (unV_neg _ _) ?_)
  rw [wrap_id (by omega) (by omega)]
  refine bnd_of rfl (bnd_of (binV_add _ _ _) ?_)
  rw [wrap_id (by omega) (by omega)]
  refine bnd_of rfl ?_
  refine bsV_rows (([⟨11 + d, 0⟩, ⟨0 - d, 0⟩, ⟨0, 0 - d⟩, ⟨0, 1073741823 + d⟩] : List Retired).map Retired.enc) rfl rfl (by simp) (Retired.all_good _) fun vb h2 ob l2 f2 => ?_
  have hbads : ∀ b ∈ ([⟨11 + d, 0⟩, ⟨0 - d, 0⟩, ⟨0, 0 - d⟩, ⟨0, 1073741823 + d⟩] : List Retired), b.not = true := by
    intro b hb
    simp only [List.mem_cons, List.not_mem_nil, or_false] at hb
    rcases hb with rfl | rfl | rfl | rfl <;> simp [Retired.not] <;> omega
  have hbl : ([⟨11 + d, 0⟩, ⟨0 - d, 0⟩, ⟨0, 0 - d⟩, ⟨0, 1073741823 + d⟩] : List Retired).length = 4 := rfl
  generalize ([⟨11 + d, 0⟩, ⟨0 - d, 0⟩, ⟨0, 0 - d⟩, ⟨0, 1073741823 + d⟩] : List Retired) = bs at *
  have hu := u64_nonneg which
  refine bnd_of (cvV_int _ _ _) ?_
  generalize IntKind.u64.wrap which = u at *
  refine bnd_of (v := .int .u64 (u.tmod 4)) (by rw [binV_rem]; rfl) ?_
  have t1 : 0 ≤ u.tmod 4 := Int.tmod_nonneg _ hu
  have t2 : u.tmod 4 < 4 := Int.tmod_lt_of_pos _ (by decide)
  obtain ⟨k, hk⟩ := Int.eq_ofNat_of_zero_le t1
  rw [hk] at t2 ⊢
  refine bnd_of (cvV_int _ _ _) ?_
  rw [wrap_id (by omega) (by omega)]
  obtain ⟨b, hb⟩ : ∃ b, bs[k]? = some b := ⟨_, List.getElem?_eq_getElem (by omega)⟩
  have hbn := hbads b (List.mem_of_getElem? hb)
  obtain ⟨p, hp, hlp⟩ := ob.rows.get (i := k) (c := b.enc) (by rw [List.getElem?_map, hb]; rfl) .i64
  refine bnd_of hp (bnd_of hlp ?_)
  refine new_st b.enc rfl rfl rfl rfl fun b3 h3 f3 e3 l3 => ?_
  refine bnd_of rfl (bnd_of (v := i64 b.slot) (by rw [ldV_cell e3]; rfl) ?_)
  refine bnd_of rfl (bnd_of (v := i64 b.epoch) (by rw [ldV_cell e3]; rfl) ?_)
  have rg := og.rows.le (l2.trans l3)
  refine T_Add_bad rg (by decide) (by unfold addBad; rw [hbn]; simp) ?_
  refine bnd_of rfl (bnd_of rfl (bnd_of (v := .agg b.enc.toArray) (by rw [ldV_agg e3 _ _ (Nat.le_refl 2)]; rfl) ?_))
  refine bsV_rows ([b].map Retired.enc) rfl rfl (by simp) (Retired.all_good _) fun v4 h4 o4 l4 f4 => ?_
  refine T_Add_bad o4.rows (by simp) (by unfold addBad; simp [hbn]) ?_
  refine bnd_of rfl (bnd_of rfl ?_)
  obtain ⟨q, hq, hlq⟩ := (rg.le l4).get (i := 0) (c := (Retired.mk 3 5).enc) rfl .i64
  refine bnd_of hq (bnd_of hlq (bnd_of (v := .agg b.enc.toArray) (by rw [ldV_agg (l4 _ _ e3) _ _ (Nat.le_refl 2)]; rfl) ?_))
  refine bsV_rows ([⟨3, 5⟩, b].map Retired.enc) rfl rfl (by simp) (Retired.all_good _) fun v5 h5 o5 l5 f5 => ?_
  refine T_Take_bad o5.rows (by simp) (by unfold takeBad; simp [hbn]) ?_
  refine bnd_of rfl (bnd_of rfl (bnd_of rfl (bnd_of (unV_neg _ _) ?_)))
  rw [wrap_id (by omega) (by omega)]
  have rg5 := rg.le (l4.trans l5)
  refine T_Take_bad rg5 (by decide) (by unfold takeBad; simp; omega) ?_
  refine bnd_of rfl (bnd_of rfl (bnd_of rfl (bnd_of (binV_add _ _ _) ?_)))
  rw [wrap_id (by omega) (by omega)]
  refine T_Take_bad rg5 (by decide) (by unfold takeBad; simp; omega) ?_
  refine bnd_of rfl (bnd_of rfl (bnd_of rfl ?_))
  refine T_Num (bnd_of rfl (ifV_t rfl ?_))
  refine T_Num (bnd_of rfl (ifV_t rfl ?_))
  refine T_Num (bnd_of rfl (ifV_t rfl ?_))
  refine T_Num (bnd_of rfl (ifV_t rfl ?_))
  refine T_Num (bnd_of rfl ?_)
  rfl
end Go.Proofs.Ytfnphfegfmhokaa
