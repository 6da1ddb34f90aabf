/- Contracts of functions of the program, as the laws use them. -/
import Derived.Test.YtfnphfegfmhokaaFlatRetired
import Derived.Test.YtfnphfegfmhokaaFlatInts
namespace Go.Proofs.Ytfnphfegfmhokaa
open Go GW Go.Proofs
set_option linter.unusedVariables false
set_option linter.unusedSimpArgs false
def Retired.not (r : Retired) : Bool := !decide (0 ≤ r.slot ∧ r.slot < 12) || !decide (0 ≤ r.epoch ∧ r.epoch < 1073741824)
theorem T_epochMay {x : Int} {h : GH} {K : Value → GH → Prop} (hK : K (.bool (decide (0 ≤ x ∧ x < 1073741824))) h) : T Try.prog 42 [.int .i64 x] h K := by
  apply S42_T
  exact T_Below hK
theorem T_not {r : Retired} {h : GH} {K : Value → GH → Prop} (hK : K (.bool r.not) h) : T Try.prog 39 [.agg r.enc.toArray] h K := by
  apply T.drop
  apply S39_T
  unfold S39
  intro b hb
  have l := (HLe.refl h).new (.row 61 r.enc 2 true) hb
  refine bnd_of rfl (bnd_of (by rw [ldV_same]; rfl) ?_)
  refine T_Below (bnd_of rfl ?_)
  rw [ifV_iff]
  split
  · rename_i hc
    refine ⟨h, l, ?_⟩
    have : r.not = true := by unfold Retired.not; rw [hc]; rfl
    rw [← this]; exact hK
  · rename_i hc
    refine bnd_of rfl (bnd_of (by rw [ldV_same]; rfl) ?_)
    refine T_epochMay (bnd_of rfl ⟨h, l, ?_⟩)
    have : r.not = !decide (0 ≤ r.epoch ∧ r.epoch < 1073741824) := by unfold Retired.not; rw [Bool.not_eq_true] at hc; rw [hc]; rfl
    rw [← this]; exact hK
theorem T_ContainsNot {v : Value} {rs : List Retired} {h : GH} {K : Value → GH → Prop} (r : rowsAt h 2 v (rs.map Retired.enc)) (hK : K (.bool (rs.any Retired.not)) h) : T Try.prog 38 [v, .func (.func 39) #[] #[]] h K := by
  apply S38_T
  unfold S38
  apply S43_T
  unfold S43
  have ⟨a, n, cap, hv, hlen, hmc, hmax, _⟩ := r
  subst hv
  simp only [List.length_map] at hlen
  simp only [lnV_slice, bnd_some]
  refine Lfp_fam (ι := Nat) (fun i => [.slice a n cap, .func (.func 39) #[] #[], i64 n, i64 i]) (fun i h' => i ≤ n ∧ h' = h ∧ (rs.take i).any Retired.not = false) (fun i => n - i) ?_ 0 h ⟨by omega, rfl, by simp⟩
  intro i h' X ⟨hi, he, hok⟩ again
  subst he
  simp only [tup_zero, tup_succ, binV_lss, bnd_some, ifV_dec]
  split
  · rename_i hlt
    obtain ⟨t, ht⟩ : ∃ t, rs[i]? = some t := ⟨_, List.getElem?_eq_getElem (by omega)⟩
    obtain ⟨p, hp, hl⟩ := r.get (i := i) (c := t.enc) (by simp [ht]) .i64
    simp only [hp, hl, bnd_some, callV]
    refine T_not ?_
    rw [ifV_iff]
    split
    · rename_i hb
      simp only [binV_geq, bnd_some]
      have e1 : decide ((0 : Int) ≤ (i : Int)) = true := decide_eq_true (by omega)
      have e2 : rs.any Retired.not = true := List.any_eq_true.2 ⟨t, List.mem_of_getElem? ht, hb⟩
      rw [e1]; rw [e2] at hK; exact hK
    · rename_i hb
      simp only [binV_add, bnd_some]
      rw [wrap_id (by omega) (by omega)]
      refine again (i + 1) _ ⟨by omega, rfl, ?_⟩ (by omega)
      rw [List.take_add_one, ht, List.any_append, hok]
      simpa using hb
  · have hi : i = n := by omega
    rw [List.take_of_length_le (by omega)] at hok
    rw [hok] at hK
    exact hK
theorem T_CloneRetireds {v : Value} {us : List Retired} {h : GH} {K : Value → GH → Prop} (r : rowsAt h 2 v (us.map Retired.enc)) (hb : us.length * 16 ≤ 140737488355328)
    (k : ∀ v' h', own h' 2 v' (us.map Retired.enc) → HLe h h' → (∀ b, blk v' b → h b = none) → K v' h') : T Try.prog 40 [v] h K := by
  apply S40_T
  unfold S40
  have ⟨a, n, cap, hv, hlen, _, _, hr⟩ := r
  subst hv
  cases a with
  | none =>
    have : us = [] := by
      cases us with
      | nil => rfl
      | cons u us => obtain ⟨_, _, _, _, _, _, e, _⟩ := hr 0 u.enc rfl; cases e
    subst this
    refine bnd_of rfl ?_
    rw [ifV_true]
    exact k _ _ (own_nil _ _) (.refl _) fun b hb => hb.elim
  | some a =>
    refine bnd_of rfl ?_
    rw [ifV_false]
    unfold bsV
    refine bnd_of rfl ?_
    intro b hb0
    have l1 : HLe h (upd h b (.row 61 [] 0 true)) := (HLe.refl h).new _ hb0
    have o0 : own (upd h b (.row 61 [] 0 true)) 2 (.slice (some ⟨b, 0, none⟩) 0 0) [] := own_of (upd_same _ _ _) rfl rfl (by omega) (Nat.le_refl _) (by omega) (fun c hc => by cases hc)
    refine own_ap o0 (r.le l1) (Retired.all_good _) (by decide) (by simpa using hb) fun v' h' o kp fr => ?_
    refine k v' h' o (l1.keep kp fun b' hb' => ?_) fun b' hb' => ?_
    · have : b = b' := hb'
      subst this; exact hb0
    · rcases fr b' hb' with q | q
      · have : b = b' := q
        subst this; exact hb0
      · exact l1.none q
/-- what Add answers -/
def addBad (rs : List Retired) (x : Retired) : Bool := rs.any Retired.not || x.not
theorem T_Add {v : Value} {rs : List Retired} {slot epoch : Int} {h : GH} {K : Value → GH → Prop} (r : rowsAt h 2 v (rs.map Retired.enc)) (hb : (rs.length + 1) * 16 ≤ 140737488355328)
    (k0 : addBad rs ⟨slot, epoch⟩ = true → K (.tuple #[.slice none 0 0, i64 1200]) h)
    (k1 : addBad rs ⟨slot, epoch⟩ = false → ∀ v' h', own h' 2 v' ((rs ++ [(⟨slot, epoch⟩ : Retired)]).map Retired.enc) → HLe h h' → (∀ b, blk v' b → h b = none) → K (.tuple #[v', i64 0]) h') : T Try.prog 24 [v, i64 slot, i64 epoch] h K := by
  apply T.drop
  apply S24_T
  unfold S24
  refine bnd_of rfl ?_
  intro b hb0
  have l := (HLe.refl h).new (.row 61 (Retired.enc ⟨slot, epoch⟩) 2 true) hb0
  refine bnd_of (v := upd h b (.row 61 (Retired.enc ⟨slot, epoch⟩) 2 true)) (by rw [stV_same]; rfl) ?_
  refine T_ContainsNot (r.le l) ?_
  rw [ifV_iff]
  split
  · rename_i hc
    exact ⟨h, l, k0 (by unfold addBad; rw [hc]; rfl)⟩
  · rename_i hc
    refine bnd_of (v := .agg (Retired.enc ⟨slot, epoch⟩).toArray) (by rw [ldV_same_agg]; rfl) ?_
    refine T_not ?_
    rw [ifV_iff]
    split
    · rename_i hx
      exact ⟨h, l, k0 (by unfold addBad; rw [hx]; simp)⟩
    · rename_i hx
      refine bnd_of (v := .agg (Retired.enc ⟨slot, epoch⟩).toArray) (by rw [ldV_same_agg]; rfl) ?_
      refine T_CloneRetireds (r.le l) (by omega) fun v1 h1 o1 l1 f1 => ?_
      refine ⟨by rw [ldV_agg (l1 _ _ (upd_same _ _ _)) _ _ (Nat.le_refl 2)]; rfl, ?_⟩
      refine own_lit (new := [Retired.enc ⟨slot, epoch⟩]) rfl rfl (Retired.all_good [⟨slot, epoch⟩]) o1 (by decide) (by simpa using hb) fun v2 h2 o2 kp fr => ?_
      have l2 : HLe h h2 := (l.trans l1).keep kp fun b' hb' => l.none (f1 b' hb')
      refine ⟨h2, .refl _, k1 (by unfold addBad; rw [Bool.not_eq_true] at hc hx; rw [hc, hx]; rfl) v2 h2 (by simpa using o2) l2 fun b' hb' => ?_⟩
      rcases fr b' hb' with q | q
      · exact l.none (f1 b' q)
      · exact (l.trans l1).none q
end Go.Proofs.Ytfnphfegfmhokaa
