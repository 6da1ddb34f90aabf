/- Contracts of functions of the program, as the laws use them. -/
import Derived.Test.YtkcgphbgbibhfaaPlan3
import Derived.Test.YtkcgphbgbibhfaaOwn2
import Derived.Test.YtkcgphbgbibhfaaFlatAnswer
namespace Go.Proofs.Ytkcgphbgbibhfaa
open Go GW Go.Proofs
set_option linter.unusedVariables false
set_option linter.unusedSimpArgs false
structure Event where
  thread : Int
  index : Int
  begun : Int
  decided : Int
  answered : Int
  end_ : Int
  attempts : Int
  answers : List Answer
def Event.cells (e : Event) (w : Value) : List Value := [i64 e.thread, i64 e.index, i64 e.begun, i64 e.decided, i64 e.answered, i64 e.end_, i64 e.attempts, w]
def evC (h : GH) (c : List Value) (e : Event) : Prop := ∃ w, c = e.cells w ∧ rowsAt h 2 w (e.answers.map Answer.enc)
def eventsAt (h : GH) (v : Value) (es : List Event) : Prop := ∃ cs, rowsAt h 8 v cs ∧ All2 (evC h) cs es
theorem evC.le {h h' : GH} {c : List Value} {e : Event} (a : evC h c e) (l : HLe h h') : evC h' c e := by
  obtain ⟨w, h1, h2⟩ := a
  exact ⟨w, h1, h2.le l⟩
theorem eventsAt.le {h h' : GH} {v : Value} {es : List Event} (a : eventsAt h v es) (l : HLe h h') : eventsAt h' v es := by
  obtain ⟨cs, h1, h2⟩ := a
  exact ⟨cs, h1.le l, h2.mono fun x y q => q.le l⟩
def encL (c : List Int) : List Value := c.map i64
def Event.bad (n : Nat) (e : Event) : Bool := !decide (0 ≤ e.thread ∧ e.thread < n) || !decide (0 ≤ e.end_ ∧ e.end_ < 3)
def bump (cs : List (List Int)) (t e : Nat) : List (List Int) := cs.set t (((cs[t]?).getD []).set e ((((cs[t]?).getD [])[e]?).getD 0 + 1))
def stepE (cs : List (List Int)) (e : Event) : List (List Int) := if 0 ≤ e.answered then bump cs e.thread.toNat e.end_.toNat else cs
def counts (n : Nat) (es : List Event) : List (List Int) := es.foldl stepE (List.replicate n [0, 0, 0])
/-- what is known of the counts of so many events -/
structure Cts (n m : Nat) (cs : List (List Int)) : Prop where
  len : cs.length = n
  three : ∀ c ∈ cs, c.length = 3
  bound : ∀ c ∈ cs, ∀ x ∈ c, 0 ≤ x ∧ x ≤ m
theorem Cts.zero (n : Nat) : Cts n 0 (List.replicate n [0, 0, 0]) :=
  ⟨by simp, fun c hc => by rw [(List.mem_replicate.1 hc).2]; rfl, fun c hc x hx => by
    rw [(List.mem_replicate.1 hc).2] at hx
    simp at hx; omega⟩
theorem Cts.get {n m : Nat} {cs : List (List Int)} (c : Cts n m cs) {t e : Nat} (ht : t < n) (he : e < 3) : ∃ d x, cs[t]? = some d ∧ d[e]? = some x ∧ d.length = 3 ∧ 0 ≤ x ∧ x ≤ m ∧ bump cs t e = cs.set t (d.set e (x + 1)) := by
  obtain ⟨d, hd⟩ : ∃ d, cs[t]? = some d := ⟨_, List.getElem?_eq_getElem (by rw [c.len]; exact ht)⟩
  have hm := List.mem_of_getElem? hd
  have h3 := c.three d hm
  obtain ⟨x, hx⟩ : ∃ x, d[e]? = some x := ⟨_, List.getElem?_eq_getElem (by omega)⟩
  have hb := c.bound d hm x (List.mem_of_getElem? hx)
  exact ⟨d, x, hd, hx, h3, hb.1, hb.2, by unfold bump; rw [hd]; simp only [Option.getD_some]; rw [hx]; rfl⟩
theorem Cts.step {n m : Nat} {cs : List (List Int)} (c : Cts n m cs) {e : Event} (h : e.bad n = false) : Cts n (m + 1) (stepE cs e) := by
  unfold Event.bad at h
  simp at h
  unfold stepE
  split
  · obtain ⟨d, x, h1, h2, h3, h4, h5, h6⟩ := c.get (t := e.thread.toNat) (e := e.end_.toNat) (by omega) (by omega)
    rw [h6]
    refine ⟨by rw [List.length_set]; exact c.len, fun y hy => ?_, fun y hy z hz => ?_⟩
    · rcases List.mem_or_eq_of_mem_set hy with q | q
      · exact c.three y q
      · rw [q, List.length_set]; exact h3
    · rcases List.mem_or_eq_of_mem_set hy with q | q
      · have := c.bound y q z hz; omega
      · rw [q] at hz
        rcases List.mem_or_eq_of_mem_set hz with q2 | q2
        · have := c.bound d (List.mem_of_getElem? h1) z q2; omega
        · omega
  · refine ⟨c.len, c.three, fun y hy z hz => ?_⟩
    have := c.bound y hy z hz; omega
theorem counts_snoc {n : Nat} {es : List Event} {i : Nat} {e : Event} (h : es[i]? = some e) : counts n (es.take (i + 1)) = stepE (counts n (es.take i)) e := by
  unfold counts; rw [List.take_add_one, h, List.foldl_append]; rfl
def countOk (p : Plan) (es : List Event) : Bool := p.may && !es.any (Event.bad p.threads.length)
theorem encL_set (d : List Int) (e : Nat) (x : Int) : setCells (encL d) e [i64 x] = encL (d.set e x) := by
  rw [setCells_cons, setCells_nil]; unfold encL; rw [List.map_set]
theorem map_encL_set (cs : List (List Int)) (t : Nat) (d : List Int) : (cs.map encL).set t (encL d) = (cs.set t d).map encL := by rw [List.map_set]
theorem any_snoc {α : Type} {p : α → Bool} {l : List α} {x : α} {i : Nat} (h : l[i]? = some x) (ht : (l.take i).any p = false) (hx : p x = false) : (l.take (i + 1)).any p = false := by
  rw [List.take_add_one, h, List.any_append, ht]; simpa using hx
theorem any_true {α : Type} {p : α → Bool} {l : List α} {x : α} {i : Nat} (h : l[i]? = some x) (hx : p x = true) : l.any p = true := List.any_eq_true.2 ⟨x, List.mem_of_getElem? h, hx⟩
theorem T_Count {v ev : Value} {p : Plan} {es : List Event} {h : GH} {K : Value → GH → Prop} (hp : threadsAt h v p.threads) (he : eventsAt h ev es)
    (k0 : countOk p es = false → K (.tuple #[.slice none 0 0, i64 2500]) h)
    (k1 : countOk p es = true → ∀ v' h', own h' 3 v' ((counts p.threads.length es).map encL) → HLe h h' → (∀ b, blk v' b → h b = none) → K (.tuple #[v', i64 0]) h') : T Try.prog 7 [.agg (planC v p).toArray, ev] h K := by
  apply T.drop
  apply S7_T
  unfold S7
  intro b hb
  have l := (HLe.refl h).new (.row 24 (planC v p) 3 true) hb
  have e0 : (upd h b (.row 24 (planC v p) 3 true)) b = some (.row 24 (planC v p) 3 true) := upd_same _ _ _
  refine bnd_of (v := .agg (planC v p).toArray) (by rw [ldV_same_agg]; rfl) ?_
  refine T_scriptMay (hp.le l) (bnd_of rfl ?_)
  rw [ifV_iff]
  split
  · rename_i hm
    exact ⟨h, l, k0 (by unfold countOk; simp at hm; rw [hm]; rfl)⟩
  rename_i hm
  have hm : p.may = true := by simpa using hm
  have hn : 1 ≤ p.threads.length ∧ p.threads.length ≤ 4 := by
    unfold Plan.may at hm; simp at hm; omega
  obtain ⟨ts, rt, at_⟩ := hp
  obtain ⟨cs, rc, ac⟩ := he
  have hln := rt.len
  rw [at_.1] at hln
  have hlc := rc.len
  have hmc := rc.max
  rw [ac.1] at hlc hmc
  refine bnd_of rfl (bnd_of (v := v) (by rw [ldV_same]; rfl) (bnd_of hln ?_))
  refine mkV_rows ⟨rfl, rfl⟩ (by omega) (by omega) fun out h1 o1 l1 f1 => ?_
  refine bnd_of hlc ?_
  have hrep : List.replicate p.threads.length [Value.int .i64 0, .int .i64 0, .int .i64 0] = (counts p.threads.length (es.take 0)).map encL := by
    unfold counts; simp [encL]
  rw [hrep] at o1
  have z := Cts.zero p.threads.length
  generalize hN : p.threads.length = n at *
  refine Lfp_fam (ι := Nat) (fun i => [out, ev, i64 es.length, i64 i]) (fun i h' => i ≤ es.length ∧ HLe h h' ∧ own h' 3 out ((counts n (es.take i)).map encL) ∧ Cts n i (counts n (es.take i)) ∧ (es.take i).any (Event.bad n) = false) (fun i => es.length - i) ?_ 0 h1 ⟨Nat.zero_le _, l.trans l1, o1, z, rfl⟩
  intro i h2 X ⟨hi, l2, o2, ct, hok⟩ again
  simp only [tup_zero, tup_succ, binV_lss, bnd_some, ifV_dec]
  have hfr : ∀ b, blk out b → h b = none := fun b' hb' => l.none (f1 b' hb')
  split
  · rename_i hlt
    obtain ⟨e, hee⟩ : ∃ e, es[i]? = some e := ⟨_, List.getElem?_eq_getElem (by omega)⟩
    obtain ⟨c, hc, w, rfl, rw1⟩ := ac.get hee
    obtain ⟨q, hq, hlq⟩ := (rc.le l2).get (i := i) (c := e.cells w) hc .i64
    have hw1 : oneCell w = true := by obtain ⟨_, _, _, rfl, _⟩ := rw1; rfl
    refine bnd_of hq (bnd_of hlq ?_)
    refine new_st (e.cells w) rfl rfl rfl (by unfold Event.cells; simp [one_int, hw1]) fun b3 h3 f3 e3 l3 => ?_
    have l23 := l2.trans l3
    have bad : e.bad n = true → ∃ h0, HLe h0 h3 ∧ K (.tuple #[.slice none 0 0, i64 2500]) h0 := fun hbad => by
      refine ⟨h, l23, k0 ?_⟩
      unfold countOk; rw [hN, any_true hee hbad]; simp
    have o3 := o2.le l3
    have hlo := o3.rows.len
    rw [List.length_map, ct.len] at hlo
    refine bnd_of rfl (bnd_of (v := i64 e.thread) (by rw [ldV_cell e3]; rfl) (bnd_of hlo ?_))
    refine T_Below (bnd_of rfl ?_)
    rw [ifV_iff]
    split
    · rename_i c1
      exact bad (by unfold Event.bad; rw [c1]; rfl)
    rename_i c1
    refine bnd_of rfl (bnd_of (v := i64 e.end_) (by rw [ldV_cell e3]; rfl) ?_)
    refine T_Below (bnd_of rfl ?_)
    rw [ifV_iff]
    split
    · rename_i c2
      exact bad (by unfold Event.bad; rw [c2]; simp)
    rename_i c2
    have hbf : e.bad n = false := by unfold Event.bad; rw [Bool.not_eq_true] at c1 c2; rw [c1, c2]; rfl
    have c1 : 0 ≤ e.thread ∧ e.thread < n := by simpa using c1
    have c2 : 0 ≤ e.end_ ∧ e.end_ < 3 := by simpa using c2
    have hstep := counts_snoc (n := n) hee
    have ct2 := ct.step hbf
    rw [← hstep] at ct2
    have hok2 := any_snoc hee hok hbf
    have hwi : IntKind.i64.wrap ((i : Int) + 1) = ((i + 1 : Nat) : Int) := by rw [wrap_id (by omega) (by omega)]; rfl
    unfold S7_j1
    refine bnd_of rfl (bnd_of (v := i64 e.answered) (by rw [ldV_cell e3]; rfl) (bnd_of (binV_geq _ _ _) ?_))
    rw [ifV_dec]
    split
    · rename_i ha
      refine bnd_of rfl (bnd_of (v := i64 e.thread) (by rw [ldV_cell e3]; rfl) (bnd_of rfl (bnd_of (v := i64 e.end_) (by rw [ldV_cell e3]; rfl) ?_)))
      obtain ⟨t, ht⟩ := Int.eq_ofNat_of_zero_le c1.1
      obtain ⟨k, hk⟩ := Int.eq_ofNat_of_zero_le c2.1
      have ht2 : e.thread.toNat = t := by omega
      have hk2 : e.end_.toNat = k := by omega
      obtain ⟨d, x, g1, g2, g3, g4, g5, g6⟩ := ct.get (t := t) (e := k) (by omega) (by omega)
      obtain ⟨bo, a1, a2, a3, a4, a5⟩ := o3.at (i := t) (c := encL d) (by rw [List.getElem?_map, g1]; rfl) .i64
      rw [ht, hk]
      refine bnd_of a1 (bnd_of (iaV_at (by omega) .i64) ?_)
      rw [Nat.mul_one]
      refine bnd_of (a3 k (i64 x) (by unfold encL; rw [List.getElem?_map, g2]; rfl)) (bnd_of (binV_add _ _ _) ?_)
      rw [wrap_id (n := x + 1) (by omega) (by omega)]
      obtain ⟨h4, s1, s2, s3, s4⟩ := a5 k 1 (i64 (x + 1)) rfl (by omega) rfl
      refine bnd_of a1 (bnd_of (iaV_at (by omega) .i64) ?_)
      rw [Nat.mul_one]
      refine bnd_of s1 (bnd_of (binV_add _ _ _) ?_)
      rw [hwi]
      refine again (i + 1) h4 ⟨by omega, l23.keep s3 hfr, ?_, ct2, hok2⟩ (by omega)
      have hst : stepE (counts n (es.take i)) e = (counts n (es.take i)).set t (d.set k (x + 1)) := by
        unfold stepE; rw [if_pos ha, ht2, hk2, g6]
      rw [hstep, hst, ← map_encL_set, ← encL_set]
      exact s2
    · rename_i ha
      refine bnd_of (binV_add _ _ _) ?_
      rw [hwi]
      refine again (i + 1) h3 ⟨by omega, l23, ?_, ct2, hok2⟩ (by omega)
      have hst : stepE (counts n (es.take i)) e = counts n (es.take i) := by unfold stepE; rw [if_neg ha]
      rw [hstep, hst]; exact o3
  · rename_i hge
    rw [List.take_of_length_le (by omega)] at o2 hok
    exact ⟨h2, .refl _, k1 (by unfold countOk; rw [hm, hN, hok]; rfl) out h2 o2 l2 hfr⟩
end Go.Proofs.Ytkcgphbgbibhfaa
