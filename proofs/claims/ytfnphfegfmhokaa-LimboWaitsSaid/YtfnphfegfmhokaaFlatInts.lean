/- Contracts of rows of whole numbers. Nothing here is a statement on the program. -/
import Derived.Test.YtfnphfegfmhokaaOwn
namespace Go.Proofs.Ytfnphfegfmhokaa
open Go GW Go.Proofs
set_option linter.unusedVariables false
set_option linter.unusedSimpArgs false
def encI (x : Int) : List Value := [i64 x]
theorem encI_good (ts : List Int) : ∀ c ∈ ts.map encI, good 1 c := by
  intro c hc
  obtain ⟨t, _, rfl⟩ := List.mem_map.1 hc
  exact ⟨rfl, rfl⟩
theorem T_SameInts {v w : Value} {us ws : List Int} {h : GH} {K : Value → GH → Prop} (r : rowsAt h 1 v (us.map encI)) (q : rowsAt h 1 w (ws.map encI)) (hK : K (.bool (decide (us = ws))) h) : T Try.prog 29 [v, w] h K := by
  apply S29_T
  unfold S29
  have ⟨a, n, cap, hv, hl, _, hm, _⟩ := r
  have ⟨a2, n2, cap2, hw, hl2, _, hm2, _⟩ := q
  simp only [List.length_map] at hl hl2
  subst hv; subst hw
  simp only [lnV_slice, bnd_some, eqI_int]
  by_cases hlen : n = n2
  · have e1 : ((n : Int) = (n2 : Int)) := by omega
    simp only [e1, decide_true, Bool.not_true, ifV_false]
    refine Lfp_fam (ι := Nat) (fun i => [.slice a n cap, .slice a2 n2 cap2, i64 i]) (fun i h' => i ≤ n ∧ h' = h ∧ us.take i = ws.take i) (fun i => n - i) ?_ 0 h ⟨by omega, rfl, by simp⟩
    intro i h' X ⟨hi, he, hsame⟩ again
    subst he
    simp only [tup_zero, tup_succ, lnV_slice, binV_lss, bnd_some, ifV_dec]
    split
    · rename_i hlt
      obtain ⟨x, hx⟩ : ∃ x, us[i]? = some x := ⟨_, List.getElem?_eq_getElem (by omega)⟩
      obtain ⟨y, hy⟩ : ∃ y, ws[i]? = some y := ⟨_, List.getElem?_eq_getElem (by omega)⟩
      obtain ⟨p, hp, hlp⟩ := r.get1 (i := i) (x := i64 x) (by simp [hx, encI]) .i64
      obtain ⟨p2, hp2, hlp2⟩ := q.get1 (i := i) (x := i64 y) (by simp [hy, encI]) .i64
      simp only [hp, hlp, hp2, hlp2, bnd_some, eqI_int]
      by_cases hxy : x = y
      · simp only [hxy, decide_true, Bool.not_true, ifV_false, binV_add, bnd_some]
        rw [wrap_id (by omega) (by omega)]
        refine again (i + 1) _ ⟨by omega, rfl, ?_⟩ (by omega)
        rw [List.take_add_one, List.take_add_one, hsame, hx, hy, hxy]
      · simp only [hxy, decide_false, Bool.not_false, ifV_true]
        have : us ≠ ws := fun e => hxy (by rw [e, hy] at hx; cases hx; rfl)
        simpa [this] using hK
    · have hi : i = n := by omega
      have : us = ws := by
        rw [List.take_of_length_le (by omega), List.take_of_length_le (by omega)] at hsame
        exact hsame
      simpa [this] using hK
  · have e1 : ¬ ((n : Int) = (n2 : Int)) := by omega
    simp only [e1, decide_false, Bool.not_false, ifV_true]
    have : us ≠ ws := fun e => hlen (by rw [← hl, ← hl2, e])
    simpa [this] using hK
theorem T_SpoilInts {v : Value} {us : List Int} {h : GH} {K : Value → GH → Prop} (o : own h 1 v (us.map encI)) (k : ∀ h', Keep (blk v) h h' → K (.tuple #[]) h') : T Try.prog 31 [v] h K := by
  apply S31_T
  unfold S31
  obtain ⟨a, cap, rfl, hc, hm, hg, ho⟩ := o
  have hflat := (flatten_good _ hg).1
  have hints : ∀ x ∈ (us.map encI).flatten, ∃ k, x = i64 k := flatten_ints fun c hc x hx => by
    obtain ⟨t, _, rfl⟩ := List.mem_map.1 hc
    simp only [encI, List.mem_cons, List.not_mem_nil, or_false] at hx
    exact ⟨_, hx⟩
  generalize hn : (us.map encI).length = n at *
  generalize (us.map encI).flatten = cells0 at *
  rcases ho with ⟨rfl, he, rfl⟩ | ⟨b, T, rfl, hb⟩
  · rw [he] at hn
    simp only [List.length_nil] at hn
    subst hn
    refine Lfp_fam (ι := Unit) (fun _ => [.slice none 0 0, i64 0]) (fun _ h' => h' = h) (fun _ => 0) ?_ () h rfl
    intro _ h' X hh again
    subst hh
    refine bnd_of rfl (bnd_of rfl ?_)
    exact k _ (.refl _ _)
  · refine Lfp_fam (ι := Nat × List Value) (fun q => [.slice (some ⟨b, 0, none⟩) n cap, i64 q.1]) (fun q h' => q.1 ≤ n ∧ h' = upd h b (.row T q.2 (cap * 1) true) ∧ q.2.length = n * 1 ∧ ∀ x ∈ q.2, ∃ k, x = i64 k) (fun q => n - q.1) ?_ (0, cells0) h ⟨Nat.zero_le _, (upd_self hb).symm, hflat, hints⟩
    rintro ⟨i, cells⟩ h' X ⟨hi, he, hl, hx⟩ again
    simp only at hi he hl hx
    subst he
    simp only [tup_zero, tup_succ, lnV_slice, binV_lss, bnd_some, ifV_dec]
    split
    · rename_i hlt
      have e1 : isV 1 (.slice (some ⟨b, 0, none⟩) n cap) (i64 i) = some (.pointer (some ⟨b, i, none⟩)) := by
        simp only [isV]; rw [if_pos ⟨by omega, hlt⟩]; simp
      have hoff : i < cells.length := by omega
      obtain ⟨x, hx1⟩ := hx cells[i] (List.getElem_mem hoff)
      simp only [e1, bnd_some, ldV_same, List.getElem?_eq_getElem hoff, hx1, binV_sub, stV_same]
      rw [if_pos ⟨rfl, hoff, rfl⟩]
      simp only [bnd_some, binV_add]
      rw [wrap_id (n := (i : Int) + 1) (by omega) (by omega)]
      refine again (i + 1, cells.set i (i64 (IntKind.i64.wrap (-9 - x)))) _ ⟨by omega, rfl, by simpa using hl, fun z hz => ?_⟩ (by simp only; omega)
      rcases List.mem_or_eq_of_mem_set hz with q | q
      · exact hx z q
      · exact ⟨_, q⟩
    · refine k _ fun k' g e' nb => ?_
      have : k' ≠ b := fun q => nb (by subst q; rfl)
      rw [upd_ne this]; exact e'
end Go.Proofs.Ytfnphfegfmhokaa
