/- Contracts of functions of the program, as the laws use them. -/
import Derived.Test.YtfnphfegfmhokaaLimbo6
namespace Go.Proofs.Ytfnphfegfmhokaa
open Go GW Go.Proofs
set_option linter.unusedVariables false
set_option linter.unusedSimpArgs false
theorem own.upd {h : GH} {size b : Nat} {v : Value} {cs : List (List Value)} (o : own h size v cs) (g : GObj) (n : ¬ blk v b) : own (upd h b g) size v cs :=
  o.keep (S := fun k => k = b) (fun k g' e ne => by rw [upd_ne ne]; exact e) fun k hk e => n (by subst e; exact hk)
theorem iaV_at {len size b o i : Nat} (hi : i < len) (k : IntKind) : iaV len size (.pointer (some ⟨b, o, none⟩)) (.int k i) = some (.pointer (some ⟨b, o + i * size, none⟩)) := by
  simp only [iaV]; rw [if_pos ⟨by omega, by omega⟩]; simp
/-- what is known while the acts are gone through -/
structure Wt (h h' : GH) (b0 : Nat) (v : Value) (at_ : Int) (L : List Retired) (S : List Int) : Prop where
  le : HLe h h'
  o : own h' 2 v (L.map Retired.enc)
  ne : ¬ blk v b0
  row : h' b0 = some (.row 59 (S.map i64) 12 true)
  len : S.length = 12
  slot : ∀ r ∈ L, 0 ≤ r.slot ∧ r.slot < 12
  epoch : ∀ r ∈ L, 0 ≤ r.epoch ∧ r.epoch ≤ at_
  since : ∀ r ∈ L, S[r.slot.toNat]? = some r.epoch
  nodup : (L.map Retired.slot).Nodup
theorem Wt.good {h h' : GH} {b0 : Nat} {v : Value} {at_ : Int} {L : List Retired} {S : List Int} (w : Wt h h' b0 v at_ L S) (hat : at_ ≤ 60) : ∀ r ∈ L, r.not = false := fun r hr => by
  have h1 := w.slot r hr
  have h2 := w.epoch r hr
  exact not_of h1.1 h1.2 h2.1 (by omega)
theorem Wt.later {h h' : GH} {b0 : Nat} {v : Value} {at_ at2 : Int} {L : List Retired} {S : List Int} (w : Wt h h' b0 v at_ L S) (hat : at_ ≤ at2) : Wt h h' b0 v at2 L S :=
  ⟨w.le, w.o, w.ne, w.row, w.len, w.slot, fun r hr => ⟨(w.epoch r hr).1, by have := (w.epoch r hr).2; omega⟩, w.since, w.nodup⟩
theorem Wt.ld {h h' : GH} {b0 : Nat} {v : Value} {at_ : Int} {L : List Retired} {S : List Int} (w : Wt h h' b0 v at_ L S) {s : Nat} {x : Int} (hx : S[s]? = some x) : ldV 1 false (.pointer (some ⟨b0, 0 + s * 1, none⟩)) h' = some (i64 x) := by
  rw [ldV_cell w.row, Nat.zero_add, Nat.mul_one, List.getElem?_map, hx]; rfl
theorem st_ints {h : GH} {b s n : Nat} {T : TypeId} {S : List Int} (e : h b = some (.row T (S.map i64) n true)) (hs : s < S.length) (x : Int) : stV 1 (.pointer (some ⟨b, 0 + s * 1, none⟩)) (i64 x) h = some (upd h b (.row T ((S.set s x).map i64) n true)) := by
  rw [stV_row e 1 (0 + s * 1) (i64 x) rfl (by rw [List.length_map]; omega) rfl, List.map_set]
  have : (0 + s * 1) = s := by omega
  rw [this]; rfl
theorem parts_nodup {L : List Retired} {e : Int} (h : (L.map Retired.slot).Nodup) : ((L.filter (isRipe e) ++ rests L e).map Retired.slot).Nodup :=
  ((List.filter_append_perm (isRipe e) L).map Retired.slot).nodup_iff.2 h
theorem mem_parts {L : List Retired} {e : Int} {r : Retired} (h : r ∈ L.filter (isRipe e) ++ rests L e) : r ∈ L := by
  rcases List.mem_append.1 h with q | q
  · exact (List.mem_filter.1 q).1
  · exact (List.mem_filter.1 q).1
theorem T_LimboWaits {v : Value} {acts : List Int} {h : GH} (r : rowsAt h 1 v (acts.map encI)) (hlen : (acts.length + 2) * 8 ≤ 140737488355328) : T Try.prog 10 [v] h fun v _ => v = .bool true := by
  apply S10_T
  unfold S10
  refine T_awake12 (bnd_of rfl (ifV_f rfl ?_))
  intro b0 hb0
  refine Lfp_fam (ι := Nat × List Int) (fun q => [v, .slice none 0 0, .pointer (some ⟨b0, 0, none⟩), i64 q.1]) (fun q h' => q.1 ≤ 12 ∧ HLe h h' ∧ h' b0 = some (.row 59 (q.2.map i64) 12 true) ∧ q.2.length = 12) (fun q => 12 - q.1) ?_ (0, List.replicate 12 0) _ ⟨by decide, (HLe.refl h).new _ hb0, upd_same _ _ _, rfl⟩
  rintro ⟨i0, S0⟩ h' X0 ⟨hi, hle, hrow, hlS⟩ again
  simp only at hi hle hrow hlS
  simp only [tup_zero, tup_succ, binV_lss, bnd_some, ifV_dec]
  split
  · rename_i hlt
    refine bnd_of (iaV_at (by omega) .i64) (bnd_of (st_ints hrow (by omega) (-1)) (bnd_of (binV_add _ _ _) ?_))
    · rw [wrap_id (by omega) (by omega)]
      exact again (i0 + 1, S0.set i0 (-1)) _ ⟨by simp only; omega, hle.new _ hb0, upd_same _ _ _, by simp only [List.length_set]; exact hlS⟩ (by simp only; omega)
  · refine Lfp_fam (ι := Nat × Value × Int × List Retired × List Int) (fun q => [v, q.2.1, .pointer (some ⟨b0, 0, none⟩), i64 q.2.2.1, i64 q.1]) (fun q h' => q.1 ≤ 60 ∧ 0 ≤ q.2.2.1 ∧ q.2.2.1 ≤ q.1 ∧ q.2.2.2.1.length ≤ q.1 ∧ Wt h h' b0 q.2.1 q.2.2.1 q.2.2.2.1 q.2.2.2.2) (fun q => 60 - q.1) ?_ (0, .slice none 0 0, 0, [], S0) h' ⟨by simp, by simp, by simp, by simp, hle, own_nil _ _, fun q => q.elim, hrow, hlS, (fun r hr => by cases hr), (fun r hr => by cases hr), (fun r hr => by cases hr), List.nodup_nil⟩
    clear again hrow hlS hle hi S0
    rintro ⟨i, rv, at_, L, S⟩ h1 X ⟨hi, ha0, hai, hLi, w⟩ again
    simp only at hi ha0 hai hLi w
    have r1 := r.le w.le
    have hln := r1.len
    rw [List.length_map] at hln
    simp only [tup_zero, tup_succ, hln, binV_lss, bnd_some, ifV_dec]
    split
    · rename_i hlt
      split
      · rename_i h60
        have next : ∀ (h2 : GH) (rv2 : Value) (at2 : Int) (L2 : List Retired) (S2 : List Int), Wt h h2 b0 rv2 at2 L2 S2 → 0 ≤ at2 → at2 ≤ (i + 1 : Nat) → L2.length ≤ i + 1 → HLe h h2 →
            S10_j2 (tup [v, .slice none 0 0, .pointer (some ⟨b0, 0, none⟩), i64 i0]) (tup [v, rv, .pointer (some ⟨b0, 0, none⟩), i64 at_, i64 i]) v rv2 (.pointer (some ⟨b0, 0, none⟩)) (i64 at2) (i64 i) h2 (fun v _ => v = .bool true) X0 X := by
          intro h2 rv2 at2 L2 S2 w2 ha2 hai2 hL2 hle2
          unfold S10_j2
          have hg2 := w2.good (by omega)
          refine T_Take_good w2.o.rows (by omega) (takeBad_of hg2 ha2 (by omega)) fun c d h3 t3 => ?_
          refine bnd_of rfl (bnd_of rfl (bnd_of rfl ?_))
          refine T_Num (bnd_of rfl (ifV_f rfl ?_))
          have rl := t3.r.rows.len
          have sl := t3.s.rows.len
          have ol := w2.o.rows.len
          rw [List.length_map] at rl sl ol
          have hrl := ripes_len L2 at2
          have hsl := rests_len L2 at2
          have hsum : (ripes L2 at2).length + (rests L2 at2).length = L2.length := by
            have := (List.filter_append_perm (isRipe at2) L2).length_eq
            rw [List.length_append] at this
            unfold ripes rests; rw [List.length_map]; exact this
          refine bnd_of rl (bnd_of sl (bnd_of (binV_add _ _ _) ?_))
          rw [wrap_id (by omega) (by omega)]
          refine bnd_of ol (bnd_of (eqI_int _ _ _) ?_)
          rw [decide_eq_true (by omega)]
          refine ifV_f rfl ?_
          unfold S10_j3
          have hbne : ∀ b, blk c b → b ≠ b0 := fun b hb e => by
            have := t3.fr b hb
            rw [e, w2.row] at this; cases this
          have hbne2 : ∀ b, blk d b → b ≠ b0 := fun b hb e => by
            have := t3.fs b hb
            rw [e, w2.row] at this; cases this
          have hmem : ∀ x, x ∈ L2.filter (isRipe at2) → x ∈ L2 := fun x hx => (List.mem_filter.1 hx).1
          have hrl2 : (L2.filter (isRipe at2)).length = (ripes L2 at2).length := by unfold ripes; rw [List.length_map]
          refine Lfp_fam (ι := Nat × List Int) (fun q => [v, .pointer (some ⟨b0, 0, none⟩), i64 at2, i64 i, c, d, i64 q.1]) (fun q h4 => q.1 ≤ (ripes L2 at2).length ∧ HLe h h4 ∧ own h4 1 c ((ripes L2 at2).map encI) ∧ own h4 2 d ((rests L2 at2).map Retired.enc) ∧ h4 b0 = some (.row 59 (q.2.map i64) 12 true) ∧ q.2.length = 12 ∧ (∀ x ∈ (L2.filter (isRipe at2)).drop q.1 ++ rests L2 at2, q.2[x.slot.toNat]? = some x.epoch) ∧ (((L2.filter (isRipe at2)).drop q.1 ++ rests L2 at2).map Retired.slot).Nodup) (fun q => (ripes L2 at2).length - q.1) ?_ (0, S2) h3 ⟨Nat.zero_le _, hle2.trans t3.le, t3.r, t3.s, t3.le _ _ w2.row, w2.len, fun x hx => w2.since x (mem_parts hx), parts_nodup w2.nodup⟩
          rintro ⟨j, S⟩ h4 Y ⟨hj, hle4, oc, od, row4, hlS, hsince, hnd⟩ again3
          simp only at hj hle4 oc od row4 hlS hsince hnd
          have rl4 := oc.rows.len
          have sl4 := od.rows.len
          rw [List.length_map] at rl4 sl4
          simp only [tup_zero, tup_succ, rl4, binV_lss, bnd_some, ifV_dec]
          split
          · rename_i hlt
            obtain ⟨x, hx⟩ : ∃ x, (L2.filter (isRipe at2))[j]? = some x := ⟨_, List.getElem?_eq_getElem (by omega)⟩
            have hxL := hmem x (List.mem_of_getElem? hx)
            have hxr : isRipe at2 x = true := (List.mem_filter.1 (List.mem_of_getElem? hx)).2
            have hxs := w2.slot x hxL
            have hxe := w2.epoch x hxL
            have hdrop : (L2.filter (isRipe at2)).drop j = x :: (L2.filter (isRipe at2)).drop (j + 1) := by
              have hj2 := (List.getElem?_eq_some_iff.1 hx)
              rw [List.drop_eq_getElem_cons hj2.1, hj2.2]
            have hS : S[x.slot.toNat]? = some x.epoch := hsince x (by rw [hdrop]; simp)
            obtain ⟨p, hp, hlp⟩ := oc.rows.get1 (i := j) (x := i64 x.slot) (by unfold ripes; rw [List.getElem?_map, List.getElem?_map, hx]; rfl) .i64
            obtain ⟨s, hs⟩ := Int.eq_ofNat_of_zero_le hxs.1
            have hs2 : x.slot.toNat = s := by omega
            rw [hs2] at hS
            rw [hs] at hlp
            have hld : ldV 1 false (.pointer (some ⟨b0, 0 + s * 1, none⟩)) h4 = some (i64 x.epoch) := by
              rw [ldV_cell row4, Nat.zero_add, Nat.mul_one, List.getElem?_map, hS]; rfl
            refine bnd_of hp (bnd_of hlp (bnd_of (binV_lss _ _ _) ?_))
            rw [ifV_dec, if_neg (by omega)]
            refine bnd_of hp (bnd_of hlp (bnd_of (binV_geq _ _ _) ?_))
            rw [ifV_dec, if_neg (by omega)]
            refine bnd_of hp (bnd_of hlp (bnd_of (iaV_at (by omega) .i64) (bnd_of hld (bnd_of (binV_lss _ _ _) ?_))))
            rw [ifV_dec, if_neg (by omega)]
            refine bnd_of hp (bnd_of hlp (bnd_of (iaV_at (by omega) .i64) (bnd_of hld (bnd_of (binV_sub _ _ _) ?_))))
            rw [wrap_id (by omega) (by omega)]
            refine bnd_of (binV_lss _ _ _) ?_
            have hripe : 3 ≤ at2 - x.epoch := by unfold isRipe at hxr; exact of_decide_eq_true hxr
            rw [ifV_dec, if_neg (by omega)]
            refine bnd_of hp (bnd_of hlp (bnd_of (iaV_at (by omega) .i64) (bnd_of (st_ints row4 (by omega) (-1)) (bnd_of (binV_add _ _ _) ?_))))
            rw [wrap_id (by omega) (by omega)]
            rw [hdrop] at hsince hnd
            simp only [List.cons_append, List.map_cons, List.nodup_cons] at hnd
            refine again3 (j + 1, S.set s (-1)) _ ⟨by simp only; omega, hle4.new _ hb0, oc.upd _ fun q => hbne b0 q rfl, od.upd _ fun q => hbne2 b0 q rfl, upd_same _ _ _, by simp only [List.length_set]; exact hlS, fun y hy => ?_, hnd.2⟩ (by simp only; omega)
            simp only at hy ⊢
            have hys := w2.slot y (mem_parts (e := at2) (by
              rcases List.mem_append.1 hy with q | q
              · exact List.mem_append_left _ (List.mem_of_mem_drop q)
              · exact List.mem_append_right _ q))
            have hne : y.slot ≠ x.slot := fun e => hnd.1 (by rw [← e]; exact List.mem_map_of_mem hy)
            rw [List.getElem?_set_ne (by omega)]
            exact hsince y (by simp only [List.cons_append, List.mem_cons]; exact .inr hy)
          · have hjn : j = (ripes L2 at2).length := by omega
            have hdrop : (L2.filter (isRipe at2)).drop j = [] := List.drop_eq_nil_of_le (by omega)
            rw [hdrop, List.nil_append] at hsince hnd
            refine Lfp_fam (ι := Nat) (fun q => [v, .pointer (some ⟨b0, 0, none⟩), i64 at2, i64 i, d, i64 q]) (fun q h5 => q ≤ (rests L2 at2).length ∧ h5 = h4) (fun q => (rests L2 at2).length - q) ?_ 0 h4 ⟨Nat.zero_le _, rfl⟩
            intro q h5 Z ⟨hq, hh⟩ again4
            subst hh
            simp only [tup_zero, tup_succ, sl4, binV_lss, bnd_some, ifV_dec]
            split
            · rename_i hlt2
              obtain ⟨x, hx⟩ : ∃ x, (rests L2 at2)[q]? = some x := ⟨_, List.getElem?_eq_getElem (by omega)⟩
              have hx2 := List.mem_filter.1 (List.mem_of_getElem? hx)
              have hxe := w2.epoch x hx2.1
              have hnr : ¬ 3 ≤ at2 - x.epoch := by
                have := hx2.2
                unfold isRipe at this
                simpa using this
              obtain ⟨b, o, e2, hf, ha⟩ := od.rows.fld (i := q) (c := x.enc) (by simp [hx]) .i64
              refine bnd_of e2 (bnd_of rfl (bnd_of (hf 1 _ rfl) (bnd_of (binV_sub _ _ _) ?_)))
              rw [wrap_id (by omega) (by omega)]
              refine bnd_of (binV_geq _ _ _) ?_
              rw [ifV_dec, if_neg hnr]
              refine bnd_of (binV_add _ _ _) ?_
              rw [wrap_id (by omega) (by omega)]
              exact again4 (q + 1) h5 ⟨by omega, rfl⟩ (by omega)
            · refine bnd_of (binV_add _ _ _) ?_
              rw [wrap_id (by omega) (by omega)]
              refine again (i + 1, d, at2, rests L2 at2, S) h5 ⟨by simp only; omega, ha2, hai2, by simp only; omega, hle4, od, fun q => hbne2 b0 q rfl, row4, hlS, fun x hx => w2.slot x (List.mem_filter.1 hx).1, fun x hx => w2.epoch x (List.mem_filter.1 hx).1, hsince, hnd⟩ (by simp only; omega)
        unfold S10_j1
        obtain ⟨x, hx⟩ : ∃ x, acts[i]? = some x := ⟨_, List.getElem?_eq_getElem (by omega)⟩
        obtain ⟨p, hp, hlp⟩ := r1.get1 (i := i) (x := i64 x) (by rw [List.getElem?_map, hx]; rfl) .i64
        refine bnd_of hp (bnd_of hlp (bnd_of (binV_and_mask x 10 (by decide) (by decide)) ?_))
        have y1 : 0 ≤ x % ((2 ^ 10 : Nat) : Int) := Int.emod_nonneg _ (by decide)
        generalize x % ((2 ^ 10 : Nat) : Int) = y at *
        refine bnd_of (v := i64 (y.tmod 12)) (by rw [binV_rem]; rfl) ?_
        have t1 : 0 ≤ y.tmod 12 := Int.tmod_nonneg _ y1
        have t2 : y.tmod 12 < 12 := Int.tmod_lt_of_pos _ (by decide)
        obtain ⟨s, hs⟩ := Int.eq_ofNat_of_zero_le t1
        rw [hs] at t2 ⊢
        refine bnd_of hp (bnd_of hlp (bnd_of (v := i64 (x.fdiv 1024)) rfl (bnd_of (binV_and_mask (x.fdiv 1024) 1 (by decide) (by decide)) ?_)))
        have z1 : 0 ≤ x.fdiv 1024 % ((2 ^ 1 : Nat) : Int) := Int.emod_nonneg _ (by decide)
        have z2 : x.fdiv 1024 % ((2 ^ 1 : Nat) : Int) < ((2 ^ 1 : Nat) : Int) := Int.emod_lt_of_pos _ (by decide)
        generalize x.fdiv 1024 % ((2 ^ 1 : Nat) : Int) = z at *
        refine bnd_of (binV_add _ _ _) ?_
        rw [wrap_id (by omega) (by omega)]
        obtain ⟨sv, hsv⟩ : ∃ sv, S[s]? = some sv := ⟨_, List.getElem?_eq_getElem (by have := w.len; omega)⟩
        refine bnd_of (iaV_at (by omega) .i64) (bnd_of (w.ld hsv) (bnd_of (binV_lss _ _ _) ?_))
        rw [ifV_dec]
        have w1 := w.later (at2 := at_ + z) (by omega)
        split
        · rename_i hneg
          refine T_Add_good w.o.rows (by omega) (addBad_of (w.good (by omega)) (not_of (by simp only; omega) (by simp only; omega) (by simp only; omega) (by simp only; omega))) fun v2 h2 o2 l2 f2 => ?_
          refine bnd_of rfl (bnd_of rfl ?_)
          refine T_Num (bnd_of rfl (ifV_f rfl (bnd_of (iaV_at (by omega) .i64) (bnd_of (st_ints (l2 _ _ w.row) (by have := w.len; omega) _) ?_))))
          have hnew : ∀ x ∈ L, x.slot ≠ (s : Int) := fun x hx e => by
            have h1 := w.since x hx
            have h2 := w.epoch x hx
            rw [e] at h1
            have : ((s : Int)).toNat = s := by omega
            rw [this, hsv] at h1
            cases h1; omega
          refine next _ v2 (at_ + z) (L ++ [⟨s, at_ + z⟩]) (S.set s (at_ + z)) ⟨(w.le.trans l2).new _ hb0, o2.upd _ fun q => ?_, fun q => ?_, upd_same _ _ _, by rw [List.length_set]; exact w.len, fun x hx => ?_, fun x hx => ?_, fun x hx => ?_, ?_⟩ (by omega) (by omega) (by simp; omega) ((w.le.trans l2).new _ hb0)
          · have := f2 b0 q; rw [w.row] at this; cases this
          · have := f2 b0 q; rw [w.row] at this; cases this
          · rcases List.mem_append.1 hx with q | q
            · exact w.slot x q
            · simp only [List.mem_cons, List.not_mem_nil, or_false] at q; subst q; exact ⟨by simp only; omega, by simp only; omega⟩
          · rcases List.mem_append.1 hx with q | q
            · exact w1.epoch x q
            · simp only [List.mem_cons, List.not_mem_nil, or_false] at q; subst q; exact ⟨by simp only; omega, by simp only; omega⟩
          · rcases List.mem_append.1 hx with q | q
            · have h1 := w.slot x q
              have h2 := hnew x q
              rw [List.getElem?_set_ne (by omega)]
              exact w.since x q
            · simp only [List.mem_cons, List.not_mem_nil, or_false] at q; subst q
              have : ((s : Int)).toNat = s := by omega
              simp only [this]
              rw [List.getElem?_set_self (by have := w.len; omega)]
          · rw [List.map_append, List.nodup_append]
            refine ⟨w.nodup, by simp, fun a ha b hb => ?_⟩
            simp only [List.map_cons, List.map_nil, List.mem_cons, List.not_mem_nil, or_false] at hb
            obtain ⟨x, hx, rfl⟩ := List.mem_map.1 ha
            rw [hb]; exact hnew x hx
        · exact next h1 rv (at_ + z) L S w1 (by omega) (by omega) (by omega) w.le
      · trivial
    · trivial
end Go.Proofs.Ytfnphfegfmhokaa
