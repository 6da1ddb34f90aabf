/- Plans: what a function that is handed one reads. Nothing here is a statement on the program. -/
import Derived.Test.YtkcgphbgbibhfaaPlan2
namespace Go.Proofs.Ytkcgphbgbibhfaa
open Go GW Go.Proofs
set_option linter.unusedVariables false
set_option linter.unusedSimpArgs false
theorem Plan.may_of {p : Plan} (h1 : 1 ≤ p.threads.length) (h2 : p.threads.length ≤ 4) (h3 : 1 ≤ p.attempts) (h4 : p.attempts ≤ 16) : p.may = p.threads.all thrMay := by
  unfold Plan.may; rw [decide_eq_true ⟨h1, h2, h3, h4⟩]; rfl
theorem Plan.may_not {p : Plan} (h : ¬ (1 ≤ p.threads.length ∧ p.threads.length ≤ 4 ∧ 1 ≤ p.attempts ∧ p.attempts ≤ 16)) : p.may = false := by
  unfold Plan.may; rw [decide_eq_false h]; rfl
theorem all_false {α : Type} {p : α → Bool} {l : List α} {x : α} {i : Nat} (h : l[i]? = some x) (hx : p x = false) : l.all p = false :=
  List.all_eq_false.2 ⟨x, List.mem_of_getElem? h, by rw [hx]; decide⟩
theorem all_snoc {α : Type} {p : α → Bool} {l : List α} {x : α} {i : Nat} (h : l[i]? = some x) (ht : (l.take i).all p = true) (hx : p x = true) : (l.take (i + 1)).all p = true := by
  rw [List.take_add_one, h, List.all_append, ht]; simpa using hx
theorem T_scriptMay {v : Value} {p : Plan} {h : GH} {K : Value → GH → Prop} (hp : threadsAt h v p.threads) (hK : K (.bool p.may) h) : T Try.prog 12 [.agg (planC v p).toArray] h K := by
  apply T.drop
  apply S12_T
  unfold S12
  obtain ⟨es, re, ae⟩ := hp
  have hln := re.len
  have hmx := re.max
  rw [ae.1] at hln hmx
  intro b hb
  have l := (HLe.refl h).new (.row 24 (planC v p) 3 true) hb
  refine bnd_of rfl (bnd_of (v := v) (by rw [ldV_same]; rfl) (bnd_of hln (bnd_of (binV_lss _ _ _) ?_)))
  rw [ifV_dec]
  split
  · rename_i c1
    rw [Plan.may_not (by omega)] at hK
    exact ⟨h, l, hK⟩
  rename_i c1
  refine bnd_of rfl (bnd_of (v := v) (by rw [ldV_same]; rfl) (bnd_of hln (bnd_of (binV_gtr _ _ _) ?_)))
  rw [ifV_dec]
  split
  · rename_i c2
    rw [Plan.may_not (by omega)] at hK
    exact ⟨h, l, hK⟩
  rename_i c2
  refine bnd_of rfl (bnd_of (v := i64 p.attempts) (by rw [ldV_same]; rfl) (bnd_of (binV_lss _ _ _) ?_))
  rw [ifV_dec]
  split
  · rename_i c3
    rw [Plan.may_not (by omega)] at hK
    exact ⟨h, l, hK⟩
  rename_i c3
  refine bnd_of rfl (bnd_of (v := i64 p.attempts) (by rw [ldV_same]; rfl) (bnd_of (binV_gtr _ _ _) ?_))
  rw [ifV_dec]
  split
  · rename_i c4
    rw [Plan.may_not (by omega)] at hK
    exact ⟨h, l, hK⟩
  rename_i c4
  rw [Plan.may_of (by omega) (by omega) (by omega) (by omega)] at hK
  unfold S12_j1
  refine bnd_of rfl (bnd_of (v := v) (by rw [ldV_same]; rfl) (bnd_of hln ?_))
  refine Lfp_fam (ι := Nat) (fun i => [v, i64 p.threads.length, i64 i]) (fun i h' => i ≤ p.threads.length ∧ HLe h h' ∧ (p.threads.take i).all thrMay = true) (fun i => p.threads.length - i) ?_ 0 _ ⟨Nat.zero_le _, l, rfl⟩
  intro i h1 X ⟨hi, l1, hok⟩ again
  simp only [tup_zero, tup_succ, binV_lss, bnd_some, ifV_dec]
  split
  · rename_i hlt
    obtain ⟨ts, hts⟩ : ∃ ts, p.threads[i]? = some ts := ⟨_, List.getElem?_eq_getElem (by omega)⟩
    obtain ⟨c, hc, w, ws, rfl, rw1, aw⟩ := ae.get hts
    have hlw := rw1.len
    have hmw := rw1.max
    rw [aw.1] at hlw hmw
    obtain ⟨q, hq, hlq⟩ := (re.le l1).get1 (i := i) (x := w) hc .i64
    refine bnd_of hq (bnd_of hlq (bnd_of hlw (bnd_of (binV_gtr _ _ _) ?_)))
    rw [ifV_dec]
    split
    · rename_i c5
      rw [all_false hts (by unfold thrMay; rw [decide_eq_false (by omega)]; rfl)] at hK
      exact ⟨h, l1, hK⟩
    rename_i c5
    refine bnd_of hlw ?_
    refine Lfp_fam (ι := Nat) (fun j => [v, i64 p.threads.length, i64 i, w, i64 ts.length, i64 j]) (fun j h' => j ≤ ts.length ∧ HLe h h' ∧ (ts.take j).all Txn.may = true) (fun j => ts.length - j) ?_ 0 _ ⟨Nat.zero_le _, l1, rfl⟩
    intro j h2 Y ⟨hj, l2, hok2⟩ again2
    simp only [tup_zero, tup_succ, binV_lss, bnd_some, ifV_dec]
    split
    · rename_i hlt2
      obtain ⟨t, ht⟩ : ∃ t, ts[j]? = some t := ⟨_, List.getElem?_eq_getElem (by omega)⟩
      obtain ⟨c, hc2, u, rfl, ru⟩ := aw.get ht
      obtain ⟨q2, hq2, hlq2⟩ := (rw1.le l2).get (i := j) (c := [u]) hc2 .i64
      refine bnd_of hq2 (bnd_of hlq2 ?_)
      intro b3 hb3
      have l3 := l2.new (.row 48 [u] 1 true) (l2.none hb3)
      by_cases hu : oneCell u = true
      · refine bnd_of (v := upd h2 b3 (.row 48 [u] 1 true)) (by rw [stV_same, if_pos ⟨rfl, by decide, by simp [cells_agg, hu]⟩]; rfl) ?_
        refine bnd_of rfl (bnd_of (v := u) (by rw [ldV_same]; rfl) ?_)
        refine T_OpsMay (ru.le l3) (bnd_of rfl ?_)
        rw [ifV_iff]
        split
        · rename_i hm
          rw [all_false hts (by unfold thrMay; rw [all_false ht (by simpa using hm)]; simp)] at hK
          exact ⟨h, l3, hK⟩
        · rename_i hm
          refine bnd_of (binV_add _ _ _) ?_
          rw [wrap_id (by omega) (by omega)]
          exact again2 (j + 1) _ ⟨by omega, l3, all_snoc ht hok2 (by simpa using hm)⟩ (by omega)
      · obtain ⟨_, _, _, rfl, _⟩ := ru
        exact absurd rfl hu
    · rename_i hge
      rw [List.take_of_length_le (by omega)] at hok2
      refine bnd_of (binV_add _ _ _) ?_
      rw [wrap_id (by omega) (by omega)]
      exact again (i + 1) _ ⟨by omega, l2, all_snoc hts hok (by unfold thrMay; rw [hok2, decide_eq_true (by omega)]; rfl)⟩ (by omega)
  · rename_i hge
    rw [List.take_of_length_le (by omega)] at hok
    rw [hok] at hK
    exact ⟨h, l1, hK⟩
theorem T_PlanMay {v : Value} {p : Plan} {h : GH} {K : Value → GH → Prop} (hp : threadsAt h v p.threads) (hK : K (.bool p.may) h) : T Try.prog 14 [.agg (planC v p).toArray] h K := by
  apply T.drop
  apply S14_T
  unfold S14
  obtain ⟨es, re, ae⟩ := hp
  have hln := re.len
  have hmx := re.max
  rw [ae.1] at hln hmx
  intro b hb
  have l := (HLe.refl h).new (.row 24 (planC v p) 3 true) hb
  have e0 : (upd h b (.row 24 (planC v p) 3 true)) b = some (.row 24 (planC v p) 3 true) := upd_same _ _ _
  have ld0 : ∀ h', HLe (upd h b (.row 24 (planC v p) 3 true)) h' → ldV 1 false (.pointer (some ⟨b, 0 + 0, none⟩)) h' = some v := fun h' l' => by rw [ldV_cell (l' _ _ e0)]; rfl
  refine bnd_of rfl (bnd_of (v := v) (by rw [ldV_same]; rfl) (bnd_of hln (bnd_of (binV_lss _ _ _) ?_)))
  rw [ifV_dec]
  split
  · rename_i c1
    rw [Plan.may_not (by omega)] at hK
    exact ⟨h, l, hK⟩
  rename_i c1
  refine bnd_of rfl (bnd_of (v := v) (by rw [ldV_same]; rfl) (bnd_of hln (bnd_of (binV_gtr _ _ _) ?_)))
  rw [ifV_dec]
  split
  · rename_i c2
    rw [Plan.may_not (by omega)] at hK
    exact ⟨h, l, hK⟩
  rename_i c2
  refine bnd_of rfl (bnd_of (v := i64 p.attempts) (by rw [ldV_same]; rfl) (bnd_of (binV_lss _ _ _) ?_))
  rw [ifV_dec]
  split
  · rename_i c3
    rw [Plan.may_not (by omega)] at hK
    exact ⟨h, l, hK⟩
  rename_i c3
  refine bnd_of rfl (bnd_of (v := i64 p.attempts) (by rw [ldV_same]; rfl) (bnd_of (binV_gtr _ _ _) ?_))
  rw [ifV_dec]
  split
  · rename_i c4
    rw [Plan.may_not (by omega)] at hK
    exact ⟨h, l, hK⟩
  rename_i c4
  rw [Plan.may_of (by omega) (by omega) (by omega) (by omega)] at hK
  unfold S14_j1
  refine Lfp_fam (ι := Nat) (fun i => [.pointer (some ⟨b, 0, none⟩), i64 i]) (fun i h' => i ≤ p.threads.length ∧ h' = upd h b (.row 24 (planC v p) 3 true) ∧ (p.threads.take i).all thrMay = true) (fun i => p.threads.length - i) ?_ 0 _ ⟨Nat.zero_le _, rfl, rfl⟩
  intro i h1 X ⟨hi, hh, hok⟩ again
  subst hh
  refine bnd_of rfl (bnd_of (ld0 _ (.refl _)) (bnd_of hln (bnd_of (binV_lss _ _ _) ?_)))
  rw [ifV_dec]
  split
  · rename_i hlt
    obtain ⟨ts, hts⟩ : ∃ ts, p.threads[i]? = some ts := ⟨_, List.getElem?_eq_getElem (by omega)⟩
    obtain ⟨c, hc, w, ws, rfl, rw1, aw⟩ := ae.get hts
    have hlw := rw1.len
    have hmw := rw1.max
    rw [aw.1] at hlw hmw
    obtain ⟨q, hq, hlq⟩ := (re.le l).get1 (i := i) (x := w) hc .i64
    refine bnd_of rfl (bnd_of (ld0 _ (.refl _)) (bnd_of hq (bnd_of hlq (bnd_of hlw (bnd_of (binV_gtr _ _ _) ?_)))))
    rw [ifV_dec]
    split
    · rename_i c5
      rw [all_false hts (by unfold thrMay; rw [decide_eq_false (by omega)]; rfl)] at hK
      exact ⟨h, l, hK⟩
    rename_i c5
    refine Lfp_fam (ι := Nat) (fun j => [.pointer (some ⟨b, 0, none⟩), i64 i, i64 j]) (fun j h' => j ≤ ts.length ∧ h' = upd h b (.row 24 (planC v p) 3 true) ∧ (ts.take j).all Txn.may = true) (fun j => ts.length - j) ?_ 0 _ ⟨Nat.zero_le _, rfl, rfl⟩
    intro j h2 Y ⟨hj, hh2, hok2⟩ again2
    subst hh2
    refine bnd_of rfl (bnd_of (ld0 _ (.refl _)) (bnd_of hq (bnd_of hlq (bnd_of hlw (bnd_of (binV_lss _ _ _) ?_)))))
    rw [ifV_dec]
    split
    · rename_i hlt2
      obtain ⟨t, ht⟩ : ∃ t, ts[j]? = some t := ⟨_, List.getElem?_eq_getElem (by omega)⟩
      obtain ⟨c, hc2, u, rfl, ru⟩ := aw.get ht
      have hlu := ru.len
      have hmu := ru.max
      rw [List.length_map] at hlu hmu
      obtain ⟨b4, o4, e4, f4, _⟩ := (rw1.le l).fld (i := j) (c := [u]) hc2 .i64
      refine bnd_of rfl (bnd_of (ld0 _ (.refl _)) (bnd_of hq (bnd_of hlq (bnd_of e4 (bnd_of rfl (bnd_of (f4 0 u rfl) (bnd_of hlu (bnd_of (binV_lss _ _ _) ?_))))))))
      have bad : t.may = false → ∃ h0, HLe h0 (upd h b (.row 24 (planC v p) 3 true)) ∧ K (.bool false) h0 := fun e => by
        rw [all_false hts (by unfold thrMay; rw [all_false ht e]; simp)] at hK
        exact ⟨h, l, hK⟩
      rw [ifV_dec]
      split
      · rename_i c6
        exact bad (by unfold Txn.may; rw [decide_eq_false (by omega)]; simp)
      rename_i c6
      refine bnd_of hlu (bnd_of (binV_gtr _ _ _) ?_)
      rw [ifV_dec]
      split
      · rename_i c7
        exact bad (by unfold Txn.may; rw [decide_eq_false (p := (t.length : Int) ≤ 2) (by omega)]; simp)
      rename_i c7
      unfold S14_j2
      refine Lfp_fam (ι := Nat) (fun k => [.pointer (some ⟨b, 0, none⟩), i64 i, i64 j, u, i64 k]) (fun k h' => k ≤ t.length ∧ h' = upd h b (.row 24 (planC v p) 3 true) ∧ (t.take k).all Op.may = true) (fun k => t.length - k) ?_ 0 _ ⟨Nat.zero_le _, rfl, rfl⟩
      intro k h3 Z ⟨hk, hh3, hok3⟩ again3
      subst hh3
      simp only [tup_zero, tup_succ, hlu, binV_lss, bnd_some, ifV_dec]
      split
      · rename_i hlt3
        obtain ⟨x, hx⟩ : ∃ x, t[k]? = some x := ⟨_, List.getElem?_eq_getElem (by omega)⟩
        obtain ⟨q3, hq3, hlq3⟩ := (ru.le l).get (i := k) (c := x.enc) (by simp [hx]) .i64
        refine bnd_of hq3 (bnd_of hlq3 (T_OpMayRef (bnd_of rfl ?_)))
        rw [ifV_iff]
        split
        · rename_i hm
          exact bad (by unfold Txn.may; rw [all_false hx (by simpa using hm)]; rfl)
        · rename_i hm
          refine bnd_of (binV_add _ _ _) ?_
          rw [wrap_id (by omega) (by omega)]
          exact again3 (k + 1) _ ⟨by omega, rfl, all_snoc hx hok3 (by simpa using hm)⟩ (by omega)
      · rename_i hge3
        rw [List.take_of_length_le (by omega)] at hok3
        refine bnd_of (binV_add _ _ _) ?_
        rw [wrap_id (by omega) (by omega)]
        exact again2 (j + 1) _ ⟨by omega, rfl, all_snoc ht hok2 (by unfold Txn.may; rw [hok3, decide_eq_true (p := 1 ≤ (t.length : Int)) (by omega), decide_eq_true (by omega)]; rfl)⟩ (by omega)
    · rename_i hge
      rw [List.take_of_length_le (by omega)] at hok2
      refine bnd_of (binV_add _ _ _) ?_
      rw [wrap_id (by omega) (by omega)]
      exact again (i + 1) _ ⟨by omega, rfl, all_snoc hts hok (by unfold thrMay; rw [hok2, decide_eq_true (by omega)]; rfl)⟩ (by omega)
  · rename_i hge
    rw [List.take_of_length_le (by omega)] at hok
    rw [hok] at hK
    exact ⟨h, l, hK⟩
end Go.Proofs.Ytkcgphbgbibhfaa
