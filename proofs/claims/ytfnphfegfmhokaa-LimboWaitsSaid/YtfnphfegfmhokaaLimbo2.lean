/- Contracts of functions of the program, as the laws use them. -/
import Derived.Test.YtfnphfegfmhokaaLimbo
namespace Go.Proofs.Ytfnphfegfmhokaa
open Go GW Go.Proofs
set_option linter.unusedVariables false
set_option linter.unusedSimpArgs false
theorem T_limboMay {v : Value} {rs : List Retired} {h : GH} {K : Value → GH → Prop} (r : rowsAt h 2 v (rs.map Retired.enc)) (hK : K (.bool (!rs.any Retired.not)) h) : T Try.prog 41 [v] h K := by
  apply S41_T
  unfold S41
  have ⟨a, n, cap, hv, hlen, hmc, hmax, hr⟩ := r
  subst hv
  simp only [List.length_map] at hlen
  refine Lfp_fam (ι := Nat) (fun i => [.slice a n cap, i64 i]) (fun i h' => i ≤ n ∧ h' = h ∧ (rs.take i).any Retired.not = false) (fun i => n - i) ?_ 0 h ⟨by omega, rfl, by simp⟩
  intro i h' X ⟨hi, he, hok⟩ again
  subst he
  simp only [tup_zero, tup_succ, lnV_slice, binV_lss, bnd_some, ifV_dec]
  split
  · rename_i hlt
    obtain ⟨t, ht⟩ : ∃ t, rs[i]? = some t := ⟨_, List.getElem?_eq_getElem (by omega)⟩
    obtain ⟨b, off, T, pre, sz, f, rfl, hb, hle, hcc⟩ := hr i t.enc (by simp [ht])
    have e1 : isV 2 (.slice (some ⟨b, off, none⟩) n cap) (i64 i) = some (.pointer (some ⟨b, off + i * 2, none⟩)) := by
      simp only [isV]; rw [if_pos ⟨by omega, hlt⟩]; simp
    have l0 : pre[off + i * 2]? = some (i64 t.slot) := by
      have := congrArg (fun l => l[0]?) hcc
      simpa [Retired.enc] using this
    have l1 : pre[off + i * 2 + 1]? = some (i64 t.epoch) := by
      have := congrArg (fun l => l[1]?) hcc
      simpa [Retired.enc] using this
    simp only [e1, bnd_some, faV_pointer, Nat.add_zero, ldV_cell hb, l0, l1, binV_lss, binV_geq, binV_gtr, ifV_dec, binV_add]
    have bad : t.not = true → K (.bool false) h' := by
      intro hbad
      have e2 : rs.any Retired.not = true := List.any_eq_true.2 ⟨t, List.mem_of_getElem? ht, hbad⟩
      rw [e2] at hK; exact hK
    by_cases c1 : t.slot < 0
    · rw [if_pos c1]; exact bad (by simp [Retired.not]; omega)
    rw [if_neg c1]
    by_cases c2 : 12 ≤ t.slot
    · rw [if_pos c2]; exact bad (by simp [Retired.not]; omega)
    rw [if_neg c2]
    by_cases c3 : t.epoch < 0
    · rw [if_pos c3]; exact bad (by simp [Retired.not]; omega)
    rw [if_neg c3]
    by_cases c4 : 1073741823 < t.epoch
    · rw [if_pos c4]; exact bad (by simp [Retired.not]; omega)
    rw [if_neg c4]
    rw [wrap_id (by omega) (by omega)]
    refine again (i + 1) _ ⟨by omega, rfl, ?_⟩ (by omega)
    rw [List.take_add_one, ht, List.any_append, hok]
    simp [Retired.not]; omega
  · have hi : i = n := by omega
    rw [List.take_of_length_le (by omega)] at hok
    rw [hok] at hK
    exact hK
theorem T_AddLimbo {v : Value} {rs : List Retired} {slot epoch : Int} {h : GH} {K : Value → GH → Prop} (r : rowsAt h 2 v (rs.map Retired.enc)) (hb : (rs.length + 1) * 16 ≤ 140737488355328)
    (k0 : addBad rs ⟨slot, epoch⟩ = true → K (.tuple #[.slice none 0 0, i64 1200]) h)
    (k1 : addBad rs ⟨slot, epoch⟩ = false → ∀ v' h', own h' 2 v' ((rs ++ [(⟨slot, epoch⟩ : Retired)]).map Retired.enc) → HLe h h' → (∀ b, blk v' b → h b = none) → K (.tuple #[v', i64 0]) h') : T Try.prog 25 [v, i64 slot, i64 epoch] h K := by
  apply T.drop
  apply S25_T
  unfold S25
  refine bnd_of rfl ?_
  intro b hb0
  have l := (HLe.refl h).new (.row 61 (Retired.enc ⟨slot, epoch⟩) 2 true) hb0
  refine bnd_of (v := upd h b (.row 61 (Retired.enc ⟨slot, epoch⟩) 2 true)) (by rw [stV_same]; rfl) ?_
  refine T_limboMay (r.le l) (bnd_of rfl ?_)
  rw [Bool.not_not, ifV_iff]
  split
  · rename_i hc
    exact ⟨h, l, k0 (by unfold addBad; rw [hc]; rfl)⟩
  · rename_i hc
    refine bnd_of (v := .agg (Retired.enc ⟨slot, epoch⟩).toArray) (by rw [ldV_same_agg]; rfl) ?_
    unfold bsV
    refine bnd_of rfl ?_
    intro b2 hb2
    have l2 := l.new (.row 61 (Retired.enc ⟨slot, epoch⟩) 2 true) (l.none hb2)
    have hne : b ≠ b2 := by rintro rfl; simp at hb2
    refine T_limboMay (rs := [⟨slot, epoch⟩]) (rowsAt_of (upd_same _ _ _) rfl (by decide) (by decide) (fun c hc => (Retired.all_good _ c hc).1) (Nat.zero_le _) ⟨[], rfl⟩) (bnd_of rfl ?_)
    rw [Bool.not_not, ifV_iff]
    split
    · rename_i hx
      simp only [List.any_cons, List.any_nil, Bool.or_false] at hx
      exact ⟨h, l2, k0 (by unfold addBad; rw [hx]; simp)⟩
    · rename_i hx
      simp only [List.any_cons, List.any_nil, Bool.or_false] at hx
      unfold S25_j1
      unfold bsV
      refine bnd_of rfl ?_
      intro b3 hb3
      have l3 := l2.new (.row 61 [] 0 true) (l2.none hb3)
      have hne3 : b ≠ b3 := by
        rintro rfl
        rw [upd_ne hne, upd_same] at hb3; cases hb3
      refine own_ap (own_of (upd_same _ _ _) (cs := []) (size := 2) (cap := 0) (n := 0) rfl rfl rfl (Nat.le_refl _) (by omega) (fun c hc => by cases hc)) (r.le l3) (Retired.all_good _) (by decide) (by simp; omega) fun v1 h1 o1 kp1 f1 => ?_
      have l4 : HLe h h1 := l3.keep kp1 fun b' hb' => by
        have : b3 = b' := hb'
        subst this; exact l2.none hb3
      have f1' : ∀ b', blk v1 b' → h b' = none := fun b' hb' => by
        rcases f1 b' hb' with q | q
        · have : b3 = b' := q
          subst this; exact l2.none hb3
        · exact l3.none q
      have hx1 : h1 b = some (.row 61 (Retired.enc ⟨slot, epoch⟩) 2 true) := kp1 _ _ (by rw [upd_ne hne3, upd_ne hne, upd_same]) fun q => hne3 (by have : b3 = b := q; exact this.symm)
      refine bnd_of (v := .agg (Retired.enc ⟨slot, epoch⟩).toArray) (by rw [ldV_agg hx1 _ _ (Nat.le_refl 2)]; rfl) ?_
      refine own_lit (new := [Retired.enc ⟨slot, epoch⟩]) rfl rfl (Retired.all_good [⟨slot, epoch⟩]) o1 (by decide) (by simpa using hb) fun v2 h2 o2 kp fr => ?_
      refine ⟨h2, .refl _, k1 (by unfold addBad; rw [Bool.not_eq_true] at hc hx; rw [hc, hx]; rfl) v2 h2 (by simpa using o2) (l4.keep kp f1') fun b' hb' => ?_⟩
      rcases fr b' hb' with q | q
      · exact f1' b' q
      · exact l4.none q
/-- what Take answers -/
def takeBad (rs : List Retired) (e : Int) : Bool := rs.any Retired.not || !decide (0 ≤ e ∧ e < 1073741824)
def isRipe (e : Int) (r : Retired) : Bool := decide (3 ≤ e - r.epoch)
def ripes (rs : List Retired) (e : Int) : List Int := (rs.filter (isRipe e)).map Retired.slot
def rests (rs : List Retired) (e : Int) : List Retired := rs.filter fun r => !isRipe e r
structure Taken (h h' : GH) (vr vs : Value) (us : List Int) (ws : List Retired) : Prop where
  le : HLe h h'
  r : own h' 1 vr (us.map encI)
  s : own h' 2 vs (ws.map Retired.enc)
  fr : ∀ b, blk vr b → h b = none
  fs : ∀ b, blk vs b → h b = none
  ne : ∀ b, blk vr b → ¬ blk vs b
theorem Taken.ripe {h h' h1 : GH} {vr vs : Value} {us : List Int} {ws : List Retired} (t : Taken h h' vr vs us ws) (l : HLe h' h1) {x : Int} {T : TypeId} {bytes : Nat} (hby : 0 < bytes) (hb : (us.length + 1) * bytes ≤ 140737488355328) {K : Value → GH → Prop}
    (k : ∀ v' h2, Taken h h2 v' vs (us ++ [x]) ws → K v' h2) : bsV T 1 [i64 0] [(0, 1, i64 x)] h1 fun y h2 => apV T 1 bytes vr y h2 K := by
  refine own_lit (new := [encI x]) rfl rfl (encI_good [x]) (t.r.le l) hby (by simpa using hb) fun v2 h2 o2 kp fr => ?_
  refine k v2 h2 ⟨(t.le.trans l).keep kp t.fr, by simpa using o2, (t.s.le l).keep kp fun b hb hq => t.ne b hq hb, fun b hb => ?_, t.fs, fun b hb hq => ?_⟩
  · rcases fr b hb with q | q
    · exact t.fr b q
    · exact (t.le.trans l).none q
  · rcases fr b hb with q | q
    · exact t.ne b q hq
    · obtain ⟨g, e⟩ := (t.s.le l).known hq
      rw [q] at e; cases e
theorem Taken.rest {h h' h1 : GH} {vr vs : Value} {us : List Int} {ws : List Retired} (t : Taken h h' vr vs us ws) (l : HLe h' h1) {x : Retired} {T : TypeId} {bytes : Nat} (hby : 0 < bytes) (hb : (ws.length + 1) * bytes ≤ 140737488355328) {K : Value → GH → Prop}
    (k : ∀ v' h2, Taken h h2 vr v' us (ws ++ [x]) → K v' h2) : bsV T 1 [i64 0, i64 0] [(0, 2, .agg x.enc.toArray)] h1 fun y h2 => apV T 2 bytes vs y h2 K := by
  refine own_lit (new := [x.enc]) rfl rfl (Retired.all_good [x]) (t.s.le l) hby (by simpa using hb) fun v2 h2 o2 kp fr => ?_
  refine k v2 h2 ⟨(t.le.trans l).keep kp t.fs, (t.r.le l).keep kp fun b hb hq => t.ne b hb hq, by simpa using o2, t.fr, fun b hb => ?_, fun b hb hq => ?_⟩
  · rcases fr b hb with q | q
    · exact t.fs b q
    · exact (t.le.trans l).none q
  · rcases fr b hq with q | q
    · exact t.ne b hb q
    · obtain ⟨g, e⟩ := (t.r.le l).known hb
      rw [q] at e; cases e
theorem Taken.new {h h1 : GH} (l : HLe h h1) : Taken h h1 (.slice none 0 0) (.slice none 0 0) [] [] := ⟨l, own_nil _ _, own_nil _ _, fun b q => q.elim, fun b q => q.elim, fun b q => q.elim⟩
theorem ripes_snoc (rs : List Retired) (e : Int) (x : Retired) : ripes (rs ++ [x]) e = ripes rs e ++ if isRipe e x = true then [x.slot] else [] := by
  unfold ripes; rw [List.filter_append]; by_cases hx : isRipe e x = true <;> simp [hx]
theorem rests_snoc (rs : List Retired) (e : Int) (x : Retired) : rests (rs ++ [x]) e = rests rs e ++ if isRipe e x = true then [] else [x] := by
  unfold rests; rw [List.filter_append]; by_cases hx : isRipe e x = true <;> simp [hx]
theorem ripes_len (rs : List Retired) (e : Int) : (ripes rs e).length ≤ rs.length := by unfold ripes; rw [List.length_map]; exact List.length_filter_le _ _
theorem rests_len (rs : List Retired) (e : Int) : (rests rs e).length ≤ rs.length := by unfold rests; exact List.length_filter_le _ _
theorem T_Take {v : Value} {rs : List Retired} {e : Int} {h : GH} {K : Value → GH → Prop} (r : rowsAt h 2 v (rs.map Retired.enc)) (hb : (rs.length + 1) * 16 ≤ 140737488355328)
    (k0 : takeBad rs e = true → K (.tuple #[.slice none 0 0, .slice none 0 0, i64 1200]) h)
    (k1 : takeBad rs e = false → ∀ vr vs h', Taken h h' vr vs (ripes rs e) (rests rs e) → K (.tuple #[vr, vs, i64 0]) h') : T Try.prog 26 [v, i64 e] h K := by
  apply T.drop
  apply S26_T
  unfold S26
  refine T_ContainsNot r ?_
  rw [ifV_iff]
  split
  · rename_i hc
    exact ⟨h, .refl _, k0 (by unfold takeBad; rw [hc]; rfl)⟩
  rename_i hc
  refine T_epochMay (bnd_of rfl ?_)
  rw [ifV_iff]
  split
  · rename_i hx
    exact ⟨h, .refl _, k0 (by unfold takeBad; rw [hx]; simp)⟩
  rename_i hx
  unfold S26_j1
  have ⟨a, n, cap, hv, hlen, hmc, hmax, hr⟩ := r
  subst hv
  simp only [List.length_map] at hlen
  refine bnd_of rfl ?_
  rw [Bool.not_eq_true] at hc hx
  have hbad : takeBad rs e = false := by unfold takeBad; rw [hc, hx]; rfl
  have he : 0 ≤ e ∧ e < 1073741824 := by simpa using hx
  refine Lfp_fam (ι := Nat × Value × Value) (fun q => [i64 e, q.2.1, q.2.2, .slice a n cap, i64 n, i64 q.1]) (fun q h' => q.1 ≤ n ∧ Taken h h' q.2.1 q.2.2 (ripes (rs.take q.1) e) (rests (rs.take q.1) e)) (fun q => n - q.1) ?_ (0, .slice none 0 0, .slice none 0 0) h ⟨Nat.zero_le _, Taken.new (.refl _)⟩
  rintro ⟨i, vr, vs⟩ h' X ⟨hi, ht⟩ again
  simp only at hi ht
  simp only [tup_zero, tup_succ, binV_lss, bnd_some, ifV_dec]
  have hrl := ripes_len (rs.take i) e
  have hsl := rests_len (rs.take i) e
  have htl := List.length_take_le i rs
  split
  · rename_i hlt
    obtain ⟨x, hxi⟩ : ∃ x, rs[i]? = some x := ⟨_, List.getElem?_eq_getElem (by omega)⟩
    have hxn : x.not = false := by
      rw [← Bool.not_eq_true]; intro q
      rw [List.any_eq_true.2 ⟨x, List.mem_of_getElem? hxi, q⟩] at hc; cases hc
    have hxe : 0 ≤ x.epoch ∧ x.epoch < 1073741824 := by simp [Retired.not] at hxn; omega
    have htake : rs.take (i + 1) = rs.take i ++ [x] := by rw [List.take_add_one, hxi]; rfl
    obtain ⟨p, hp, hl⟩ := (r.le ht.le).get (i := i) (c := x.enc) (by simp [hxi]) .i64
    refine bnd_of hp (bnd_of hl ?_)
    intro b hb0
    have l1 := (HLe.refl h').new (.row 61 x.enc 2 true) hb0
    refine bnd_of (v := upd h' b (.row 61 x.enc 2 true)) (by rw [stV_same]; rfl) ?_
    refine bnd_of rfl (bnd_of (v := i64 x.epoch) (by rw [ldV_same]; rfl) ?_)
    refine bnd_of (binV_sub _ _ _) ?_
    rw [wrap_id (by omega) (by omega)]
    refine bnd_of (binV_geq _ _ _) ?_
    rw [ifV_iff]
    have hw : IntKind.i64.wrap ((i : Int) + 1) = ((i + 1 : Nat) : Int) := by rw [wrap_id (by omega) (by omega)]; rfl
    split
    · rename_i hripe
      have hripe : isRipe e x = true := hripe
      refine bnd_of rfl (bnd_of (v := i64 x.slot) (by rw [ldV_same]; rfl) ?_)
      refine ht.ripe l1 (by decide) (by omega) fun v' h2 t2 => ?_
      refine bnd_of (binV_add _ _ _) ?_
      rw [hw]
      refine again (i + 1, v', vs) h2 ⟨by simp only; omega, ?_⟩ (by simp only; omega)
      simp only
      rw [htake, ripes_snoc, rests_snoc, if_pos hripe, if_pos hripe, List.append_nil]
      exact t2
    · rename_i hripe
      have hripe : ¬ isRipe e x = true := hripe
      refine bnd_of (v := .agg x.enc.toArray) (by rw [ldV_same_agg]; rfl) ?_
      refine ht.rest l1 (by decide) (by omega) fun v' h2 t2 => ?_
      refine bnd_of (binV_add _ _ _) ?_
      rw [hw]
      refine again (i + 1, vr, v') h2 ⟨by simp only; omega, ?_⟩ (by simp only; omega)
      simp only
      rw [htake, ripes_snoc, rests_snoc, if_neg hripe, if_neg hripe, List.append_nil]
      exact t2
  · have hin : i = n := by omega
    rw [List.take_of_length_le (by omega)] at ht
    exact ⟨h', .refl _, k1 hbad vr vs h' ht⟩
theorem T_TakeLimbo {v : Value} {rs : List Retired} {e : Int} {h : GH} {K : Value → GH → Prop} (r : rowsAt h 2 v (rs.map Retired.enc)) (hb : (rs.length + 1) * 16 ≤ 140737488355328)
    (k0 : takeBad rs e = true → K (.tuple #[.slice none 0 0, .slice none 0 0, i64 1200]) h)
    (k1 : takeBad rs e = false → ∀ vr vs h', Taken h h' vr vs (ripes rs e) (rests rs e) → K (.tuple #[vr, vs, i64 0]) h') : T Try.prog 27 [v, i64 e] h K := by
  apply S27_T
  unfold S27
  refine T_limboMay r (bnd_of rfl ?_)
  rw [Bool.not_not, ifV_iff]
  split
  · rename_i hc
    exact k0 (by unfold takeBad; rw [hc]; rfl)
  rename_i hc
  simp only [binV_lss, binV_gtr, bnd_some, ifV_dec]
  by_cases e1 : e < 0
  · rw [if_pos e1]; exact k0 (by unfold takeBad; simp; omega)
  rw [if_neg e1]
  by_cases e2 : 1073741823 < e
  · rw [if_pos e2]; exact k0 (by unfold takeBad; simp; omega)
  rw [if_neg e2]
  unfold S27_j1
  have ⟨a, n, cap, hv, hlen, hmc, hmax, hr⟩ := r
  subst hv
  simp only [List.length_map] at hlen
  rw [Bool.not_eq_true] at hc
  have hbad : takeBad rs e = false := by unfold takeBad; rw [hc]; simp; omega
  refine Lfp_fam (ι := Nat × Value × Value) (fun q => [.slice a n cap, i64 e, q.2.1, q.2.2, i64 q.1]) (fun q h' => q.1 ≤ n ∧ Taken h h' q.2.1 q.2.2 (ripes (rs.take q.1) e) (rests (rs.take q.1) e)) (fun q => n - q.1) ?_ (0, .slice none 0 0, .slice none 0 0) h ⟨Nat.zero_le _, Taken.new (.refl _)⟩
  rintro ⟨i, vr, vs⟩ h' X ⟨hi, ht⟩ again
  simp only at hi ht
  simp only [tup_zero, tup_succ, lnV_slice, binV_lss, bnd_some, ifV_dec]
  have hrl := ripes_len (rs.take i) e
  have hsl := rests_len (rs.take i) e
  have htl := List.length_take_le i rs
  split
  · rename_i hlt
    obtain ⟨x, hxi⟩ : ∃ x, rs[i]? = some x := ⟨_, List.getElem?_eq_getElem (by omega)⟩
    have hxn : x.not = false := by
      rw [← Bool.not_eq_true]; intro q
      rw [List.any_eq_true.2 ⟨x, List.mem_of_getElem? hxi, q⟩] at hc; cases hc
    have hxe : 0 ≤ x.epoch ∧ x.epoch < 1073741824 := by simp [Retired.not] at hxn; omega
    have htake : rs.take (i + 1) = rs.take i ++ [x] := by rw [List.take_add_one, hxi]; rfl
    obtain ⟨p, hp, hl⟩ := (r.le ht.le).get (i := i) (c := x.enc) (by simp [hxi]) .i64
    obtain ⟨b, off, T, pre, sz, f, rfl, hb0, hle, hcc⟩ := hr i x.enc (by simp [hxi])
    have hb1 := ht.le _ _ hb0
    have e3 : isV 2 (.slice (some ⟨b, off, none⟩) n cap) (i64 i) = some (.pointer (some ⟨b, off + i * 2, none⟩)) := by
      simp only [isV]; rw [if_pos ⟨by omega, hlt⟩]; simp
    rw [e3] at hp
    cases hp
    have l0 : pre[off + i * 2]? = some (i64 x.slot) := by
      have := congrArg (fun l => l[0]?) hcc
      simpa [Retired.enc] using this
    have l1 : pre[off + i * 2 + 1]? = some (i64 x.epoch) := by
      have := congrArg (fun l => l[1]?) hcc
      simpa [Retired.enc] using this
    have hw : IntKind.i64.wrap ((i : Int) + 1) = ((i + 1 : Nat) : Int) := by rw [wrap_id (by omega) (by omega)]; rfl
    refine bnd_of e3 (bnd_of rfl (bnd_of (v := i64 x.epoch) (by rw [ldV_cell hb1]; exact l1) ?_))
    refine bnd_of (binV_sub _ _ _) ?_
    rw [wrap_id (by omega) (by omega)]
    refine bnd_of (binV_geq _ _ _) ?_
    rw [ifV_iff]
    split
    · rename_i hripe
      have hripe : isRipe e x = true := hripe
      refine bnd_of e3 (bnd_of rfl (bnd_of (v := i64 x.slot) (by rw [ldV_cell hb1]; exact l0) ?_))
      refine ht.ripe (.refl _) (by decide) (by omega) fun v' h2 t2 => ?_
      refine bnd_of (binV_add _ _ _) ?_
      rw [hw]
      refine again (i + 1, v', vs) h2 ⟨by simp only; omega, ?_⟩ (by simp only; omega)
      simp only
      rw [htake, ripes_snoc, rests_snoc, if_pos hripe, if_pos hripe, List.append_nil]
      exact t2
    · rename_i hripe
      have hripe : ¬ isRipe e x = true := hripe
      refine bnd_of e3 (bnd_of hl ?_)
      refine ht.rest (.refl _) (by decide) (by omega) fun v' h2 t2 => ?_
      refine bnd_of (binV_add _ _ _) ?_
      rw [hw]
      refine again (i + 1, vr, v') h2 ⟨by simp only; omega, ?_⟩ (by simp only; omega)
      simp only
      rw [htake, ripes_snoc, rests_snoc, if_neg hripe, if_neg hripe, List.append_nil]
      exact t2
  · have hin : i = n := by omega
    rw [List.take_of_length_le (by omega)] at ht
    exact k1 hbad vr vs h' ht
end Go.Proofs.Ytfnphfegfmhokaa
