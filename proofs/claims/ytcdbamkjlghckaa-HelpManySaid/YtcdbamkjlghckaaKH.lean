/- Several texts in one, each under its own remark or none; nothing here is a statement on the program. -/
import Derived.Test.YtcdbamkjlghckaaKF
import Derived.Test.YtcdbamkjlghckaaKL
namespace Go.Proofs.Ytcdbamkjlghckaa
open Go GW Go.Proofs
set_option linter.unusedVariables false
set_option linter.unusedSimpArgs false
set_option maxRecDepth 20000
/-- what the statement makes of its arguments -/
def vAt (values : List Int) (i : Nat) : Int := values.getD i 0 % 4
def alCells (values : List Int) (n : Nat) : List Int := (List.range n).map fun i => 4 * vAt values i
def alRow : Int → List Sw → List Sw
  | _, [] => []
  | next, s :: r => if next < 16 then (if next + s.c % 4 < 16 then ⟨next + s.c % 4, s.w % 4, s.n % 1024⟩ :: alRow (next + s.c % 4 + 1) r else alRow (next + s.c % 4 + 1) r) else []
theorem alRow_cons (next : Int) (s : Sw) (r : List Sw) : alRow next (s :: r) = if next < 16 then (if next + s.c % 4 < 16 then ⟨next + s.c % 4, s.w % 4, s.n % 1024⟩ :: alRow (next + s.c % 4 + 1) r else alRow (next + s.c % 4 + 1) r) else [] := rfl
theorem alRow_ok : ∀ {ss : List Sw} {next : Int}, 0 ≤ next → swOk (next - 1) (alRow next ss) = true := by
  intro ss
  induction ss with
  | nil => intro next _; rfl
  | cons s r ih =>
    intro next h
    unfold alRow
    split
    · split
      · unfold swOk
        rw [Bool.and_eq_true, decide_eq_true_eq]
        refine ⟨⟨by simp only; omega, by simp only; omega, by simp only; omega, by simp only; omega, by simp only; omega, by simp only; omega⟩, ?_⟩
        have := ih (next := next + s.c % 4 + 1) (by omega)
        rw [show next + s.c % 4 + 1 - 1 = next + s.c % 4 by omega] at this
        exact this
      · rename_i c1 c2
        have := ih (next := next + s.c % 4 + 1) (by omega)
        cases e : alRow (next + s.c % 4 + 1) r with
        | nil => rfl
        | cons x l =>
          rw [e] at this
          unfold swOk at this
          rw [Bool.and_eq_true, decide_eq_true_eq] at this
          obtain ⟨⟨a1, a2, _⟩, _⟩ := this
          omega
    · rfl
theorem alRow_w : ∀ {ss : List Sw} {next : Int}, ∀ s ∈ alRow next ss, s.w < 4 := by
  intro ss
  induction ss with
  | nil => intro next s h; cases h
  | cons d r ih =>
    intro next s h
    unfold alRow at h
    split at h
    · split at h
      · rcases List.mem_cons.1 h with rfl | h
        · simp only; omega
        · exact ih s h
      · exact ih s h
    · cases h
def asWas (cells : List Int) (rows : List Sw) : Bool := rows.all fun s => decide (cells.getD s.c.toNat 0 = 4 * s.w)
def turned (cells : List Int) (rows : List Sw) : List Int := rows.foldl (fun cs s => cs.set s.c.toNat (4 * s.n)) cells
theorem turned_len : ∀ {rows : List Sw} {cells : List Int}, (turned cells rows).length = cells.length := by
  intro rows
  induction rows with
  | nil => intro cells; rfl
  | cons s r ih => intro cells; show (turned (cells.set s.c.toNat (4 * s.n)) r).length = _; rw [ih, List.length_set]
theorem turned_other : ∀ {rows : List Sw} {cells : List Int} {j : Nat}, (∀ s ∈ rows, s.c.toNat ≠ j) → (turned cells rows).getD j 0 = cells.getD j 0 := by
  intro rows
  induction rows with
  | nil => intro cells j _; rfl
  | cons s r ih =>
    intro cells j h
    show (turned (cells.set s.c.toNat (4 * s.n)) r).getD j 0 = _
    rw [ih fun x hx => h x (List.mem_cons_of_mem _ hx), List.getD_eq_getElem?_getD, List.getElem?_set_ne (h s (by simp)), ← List.getD_eq_getElem?_getD]
theorem turned_at : ∀ {rows : List Sw} {cells : List Int} {last : Int}, swOk last rows = true → -1 ≤ last → cells.length = 16 → ∀ s ∈ rows, (turned cells rows).getD s.c.toNat 0 = 4 * s.n := by
  intro rows
  induction rows with
  | nil => intro cells last _ _ _ s h; cases h
  | cons d r ih =>
    intro cells last h hl h16 s hs
    have h' := h
    unfold swOk at h
    rw [Bool.and_eq_true, decide_eq_true_eq] at h
    obtain ⟨⟨a1, a2, _⟩, a3⟩ := h
    show (turned (cells.set d.c.toNat (4 * d.n)) r).getD s.c.toNat 0 = _
    rcases List.mem_cons.1 hs with rfl | hs
    · rw [turned_other fun x hx => by
        obtain ⟨i, hi, e⟩ := List.mem_iff_getElem.1 hx
        have := swOk_lt a3 i x (by rw [List.getElem?_eq_getElem hi, e]); omega]
      rw [List.getD_eq_getElem?_getD, List.getElem?_set_self (by omega)]; rfl
    · exact ih a3 (by omega) (by rw [List.length_set]; exact h16) s hs
/-- what comes of it -/
theorem alone_ends {A : Ar} {rows : List Sw} {cells : List Int} {t q : Int} (hA : A.ok) (hm : swOk (-1) rows = true) (D : Dsc A 0 1 0 rows) (hl : cells.length = 16) (hc : ∀ j : Nat, j < 16 → A.at j = cells.getD j 0)
    (hv : ∀ j : Nat, j < 16 → ∃ v, cells.getD j 0 = v * 4 ∧ 0 ≤ v ∧ v < 1099511627776) (t0 : 0 ≤ t) (t1 : t < 4) (q0 : 0 ≤ q) (q1 : q < 1048576) :
    ∃ H' A' m, runs 200 (Help.fresh t q 0) A false 0 = some (H', A', true, m) ∧ H'.ok ∧ A'.ok ∧ H'.won = asWas cells rows ∧ ∀ j : Nat, j < 16 → A'.at j = (if asWas cells rows = true then turned cells rows else cells).getD j 0 := by
  have may := swMay_of hm
  have hn := sw_len may
  have o := fresh_on (k := 0) hA (by decide) may D
  have fo := fresh_ok (t := t) (q := q) (s := 0) (by decide) (by decide) t0 t1 q0 q1
  have hb : baseOf 0 = 34 := rfl
  have mem (i : Nat) (d : Sw) (hd : rows[i]? = some d) := sw_mem may hd
  have at_c : ∀ (d : Sw), 0 ≤ d.c → d.c < 16 → A.at d.c = cells.getD d.c.toNat 0 := fun d h0 h1 => by
    have := hc d.c.toNat (by omega)
    rw [show ((d.c.toNat : Nat) : Int) = d.c by omega] at this; exact this
  cases hw : asWas cells rows with
  | true =>
    have all : ∀ (i : Nat) d, rows[i]? = some d → A.at d.c = d.w * 4 := fun i d hd => by
      obtain ⟨m0, m1, _⟩ := mem i d hd
      have h := List.all_eq_true.1 hw d (List.mem_of_getElem? hd)
      rw [decide_eq_true_eq] at h
      rw [at_c d m0 m1, h]; omega
    obtain ⟨f, A', g, o', c', r'⟩ := alone_wins (s := 0) (g := 1) (H := Help.fresh t q 0) (w := Wh.new 0 1) o rfl rfl rfl rfl rfl fo all
    have hok := g.ok fo hA
    have e := g.runs (N := 200) (m := 0) rfl (by omega) (by omega)
    refine ⟨_, A', _, e, hok.1, o'.ok, rfl, fun j hj => ?_⟩
    rw [if_pos rfl]
    by_cases hx : ∃ s ∈ rows, s.c.toNat = j
    · obtain ⟨s, hs, e⟩ := hx
      obtain ⟨i, hi, ei⟩ := List.mem_iff_getElem.1 hs
      have hd : rows[i]? = some s := by rw [List.getElem?_eq_getElem hi, ei]
      obtain ⟨m0, m1, _⟩ := mem i s hd
      have e2 : (j : Int) = s.c := by omega
      rw [e2, c' i s hd, ← e, turned_at hm (by decide) hl s hs]; omega
    · have hx' : ∀ s ∈ rows, s.c.toNat ≠ j := fun s hs e => hx ⟨s, hs, e⟩
      rw [turned_other hx', r' j (by omega) (by omega) (by omega) fun i d hd e => hx' d (List.mem_of_getElem? hd) (by omega), hc j hj]
  | false =>
    -- the first one that is not as it was
    have ex : ∃ (k : Nat) (d : Sw), rows[k]? = some d ∧ A.at d.c ≠ d.w * 4 ∧ ∀ (i : Nat) d, i < k → rows[i]? = some d → A.at d.c = d.w * 4 := by
      have key : ∀ n : Nat, (∀ (i : Nat) d, i < n → rows[i]? = some d → A.at d.c = d.w * 4) ∨ ∃ (k : Nat) (d : Sw), rows[k]? = some d ∧ A.at d.c ≠ d.w * 4 ∧ ∀ (i : Nat) d, i < k → rows[i]? = some d → A.at d.c = d.w * 4 := by
        intro n
        induction n with
        | zero => left; intro i d h; omega
        | succ n ih =>
          rcases ih with ih | ih
          · cases hd : rows[n]? with
            | none =>
              left; intro i d hi h
              by_cases e : i = n
              · subst e; rw [hd] at h; cases h
              · exact ih i d (by omega) h
            | some d =>
              by_cases e : A.at d.c = d.w * 4
              · left; intro i d' hi h
                by_cases e2 : i = n
                · subst e2; rw [hd] at h; cases h; exact e
                · exact ih i d' (by omega) h
              · right; exact ⟨n, d, hd, e, ih⟩
          · exact .inr ih
      rcases key rows.length with h | h
      · exfalso
        have : asWas cells rows = true := by
          unfold asWas
          rw [List.all_eq_true]
          intro s hs
          obtain ⟨i, hi, e⟩ := List.mem_iff_getElem.1 hs
          have hd : rows[i]? = some s := by rw [List.getElem?_eq_getElem hi, e]
          obtain ⟨m0, m1, _⟩ := mem i s hd
          rw [decide_eq_true_eq, ← at_c s m0 m1, h i s hi hd]; omega
        rw [this] at hw; cases hw
      · exact h
    obtain ⟨k, dk, hdk, hne, hlt⟩ := ex
    obtain ⟨m0, m1, _⟩ := mem k dk hdk
    have hkl := (List.getElem?_eq_some_iff.1 hdk).1
    obtain ⟨v, ev, v0, v1⟩ := hv dk.c.toNat (by omega)
    have hk : A.at dk.c = v * 4 := by rw [at_c dk m0 m1, ev]
    obtain ⟨f, A', g, o', r'⟩ := alone_loses (s := 0) (g := 1) (H := Help.fresh t q 0) (w := Wh.new 0 1) (k := k) (dk := dk) (v := v) o rfl rfl rfl rfl rfl fo hlt hdk hk v0 v1 (fun e => hne (by rw [hk, e])) fun i d hd => by
      obtain ⟨m0, m1, _⟩ := mem i d hd
      obtain ⟨v, ev, _⟩ := hv d.c.toNat (by omega)
      rw [at_c d m0 m1, ev]; exact (mcas_not_val).symm
    have hok := g.ok fo hA
    have e := g.runs (N := 200) (m := 0) rfl (by omega) (by omega)
    refine ⟨_, A', _, e, hok.1, o'.ok, rfl, fun j hj => ?_⟩
    rw [if_neg (by decide), r' j (by omega) (by omega) (by omega), hc j hj]
section
variable {R : List Part} {h : GH} {K : Value → GH → Prop}
theorem alCells_snoc (values : List Int) (n : Nat) : alCells values (n + 1) = alCells values n ++ [4 * vAt values n] := by
  unfold alCells; rw [List.range_succ, List.map_append]; rfl
theorem alCells_len (values : List Int) (n : Nat) : (alCells values n).length = n := by unfold alCells; simp
theorem alCells_get (values : List Int) {n j : Nat} (hj : j < n) : (alCells values n).getD j 0 = vAt values j * 4 := by
  unfold alCells
  rw [List.getD_eq_getElem?_getD, List.getElem?_map, List.getElem?_range hj]
  simp only [Option.map_some, Option.getD_some]; omega
theorem alRow_drop {ss : List Sw} {i : Nat} {s : Sw} (hs : ss[i]? = some s) : ss.drop i = s :: ss.drop (i + 1) := by
  have hi := (List.getElem?_eq_some_iff.1 hs).1
  rw [List.drop_eq_getElem_cons hi]
  congr 1
  rw [List.getElem?_eq_getElem hi] at hs; exact Option.some.inj hs
end
end Go.Proofs.Ytcdbamkjlghckaa
namespace Go.Proofs.Ytcdbamkjlghckaa
open Go GW Go.Proofs
attribute [local irreducible] bnd ldV stV ifV binV eqI
set_option linter.unusedVariables false
set_option linter.unusedSimpArgs false
set_option maxRecDepth 20000
def rcAt (values : List Int) (i : Nat) : Int := values.getD i 0 % ((2 ^ 1 : Nat) : Int)
def rcCells (values : List Int) (n : Nat) : List Int := (List.range n).map fun i => 4 * rcAt values i
theorem rcCells_snoc (values : List Int) (n : Nat) : rcCells values (n + 1) = rcCells values n ++ [4 * rcAt values n] := by
  unfold rcCells; rw [List.range_succ, List.map_append]; rfl
theorem rcCells_len (values : List Int) (n : Nat) : (rcCells values n).length = n := by unfold rcCells; simp
theorem rcCells_get (values : List Int) {n j : Nat} (hj : j < n) : (rcCells values n).getD j 0 = rcAt values j * 4 := by
  unfold rcCells
  rw [List.getD_eq_getElem?_getD, List.getElem?_map, List.getElem?_range hj]
  simp only [Option.map_some, Option.getD_some]; omega
def rcSw (s : Sw) (k : Int) : Sw := ⟨k + s.c % ((2 ^ 1 : Nat) : Int), s.w % ((2 ^ 1 : Nat) : Int), s.n % ((2 ^ 2 : Nat) : Int)⟩
def rcRow : Int → List Sw → List Sw
  | _, [] => []
  | k, s :: r => rcSw s k :: rcRow (k + 2) r
theorem rcRow_snoc : ∀ {l : List Sw} {k : Int} {s : Sw}, rcRow k (l ++ [s]) = rcRow k l ++ [rcSw s (k + 2 * l.length)] := by
  intro l
  induction l with
  | nil => intro k s; show [rcSw s k] = [rcSw s (k + 2 * ((0 : Nat) : Int))]; rw [show k + 2 * ((0 : Nat) : Int) = k by omega]
  | cons x l ih =>
    intro k s
    show rcSw x k :: rcRow (k + 2) (l ++ [s]) = rcSw x k :: (rcRow (k + 2) l ++ [_])
    rw [ih, List.length_cons, show k + 2 + 2 * (l.length : Int) = k + 2 * ((l.length + 1 : Nat) : Int) by omega]
theorem rcRow_len : ∀ {l : List Sw} {k : Int}, (rcRow k l).length = l.length := by
  intro l
  induction l with
  | nil => intro k; rfl
  | cons x l ih => intro k; show (rcRow (k + 2) l).length + 1 = _; rw [ih]; rfl
theorem rcRow_ok : ∀ {l : List Sw} {k last : Int}, last < k → 0 ≤ k → k + 2 * l.length ≤ 8 → swOk last (rcRow k l) = true ∧ ∀ e ∈ rcRow k l, e.c < 8 := by
  intro l
  induction l with
  | nil => intro k last _ _ _; exact ⟨rfl, fun e h => by cases h⟩
  | cons x l ih =>
    intro k last h0 h1 h2
    simp only [List.length_cons] at h2
    obtain ⟨i1, i2⟩ := ih (k := k + 2) (last := (rcSw x k).c) (by show k + x.c % 2 < k + 2; omega) (by omega) (by omega)
    refine ⟨?_, fun e he => ?_⟩
    · show swOk last (rcSw x k :: rcRow (k + 2) l) = true
      unfold swOk
      rw [Bool.and_eq_true, decide_eq_true_eq]
      have a1 : (rcSw x k).c = k + x.c % 2 := rfl
      have a2 : (rcSw x k).w = x.w % 2 := rfl
      have a3 : (rcSw x k).n = x.n % 4 := rfl
      exact ⟨⟨by omega, by omega, by omega, by omega, by omega, by omega⟩, i1⟩
    · rcases List.mem_cons.1 he with rfl | he
      · show k + x.c % 2 < 8; omega
      · exact i2 e he
section
variable {R : List Part} {h : GH} {K : Value → GH → Prop}
def bools (l : List Bool) : List (List Value) := l.map fun b => [.bool b]
theorem asWas_iff {cells : List Int} {rows : List Sw} {M0 : Int → Int} (hm : swMay rows = true) (hat : ∀ j : Nat, j < 16 → M0 j = cells.getD j 0) : asWas cells rows = true ↔ ∀ (n : Nat) (e : Sw), rows[n]? = some e → M0 e.c = e.w * 4 := by
  unfold asWas
  rw [List.all_eq_true]
  have key : ∀ e ∈ rows, M0 e.c = cells.getD e.c.toNat 0 := fun e he => by
    obtain ⟨i, hi, h⟩ := List.mem_iff_getElem.1 he
    have m := sw_mem hm (by rw [List.getElem?_eq_getElem hi, h] : rows[i]? = some e)
    have := hat e.c.toNat (by omega)
    rw [show ((e.c.toNat : Nat) : Int) = e.c by omega] at this
    exact this
  constructor
  · intro h n e he
    have hme := List.mem_of_getElem? he
    have := h e hme
    rw [decide_eq_true_eq] at this
    rw [key e hme, this]; omega
  · intro h e he
    obtain ⟨i, hi, hx⟩ := List.mem_iff_getElem.1 he
    have := h i e (by rw [List.getElem?_eq_getElem hi, hx])
    rw [decide_eq_true_eq, ← key e he, this]; omega
theorem updM_turned {cells : List Int} {rows : List Sw} {M0 : Int → Int} (hm : swOk (-1) rows = true) (hl : cells.length = 16) (hat : ∀ j : Nat, j < 16 → M0 j = cells.getD j 0) {j : Nat} (hj : j < 16) : updM rows M0 j = (turned cells rows).getD j 0 := by
  have may := swMay_of hm
  by_cases hx : ∃ s ∈ rows, s.c.toNat = j
  · obtain ⟨s, hs, e⟩ := hx
    obtain ⟨i, hi, ei⟩ := List.mem_iff_getElem.1 hs
    have hd : rows[i]? = some s := by rw [List.getElem?_eq_getElem hi, ei]
    have m := sw_mem may hd
    have e2 : (j : Int) = s.c := by omega
    rw [e2, updM_in may hd, ← e, turned_at hm (by decide) hl s hs]; omega
  · have hx' : ∀ s ∈ rows, s.c.toNat ≠ j := fun s hs e => hx ⟨s, hs, e⟩
    rw [turned_other hx', updM_out fun i y hy e => ?_, hat j hj]
    have m := sw_mem may hy
    exact hx' y (List.mem_of_getElem? hy) (by omega)
theorem T_HelpRace {g : GH} {vv sv pv : Value} {values : List Int} {ss : List Sw} {picks : List Int} (hp : All [baseP g] h) (rv : rowsAt g 1 vv (values.map encI)) (rs : rowsAt g 3 sv (ss.map encS)) (rp : rowsAt g 1 pv (picks.map encI)) (hK : ∀ h', K (.bool true) h') : T Try.prog 4 [vv, sv, pv] h K := by
  apply S4_T
  unfold S4
  refine T_awake hp fun h1 hp => ?_
  (repeat first|refine wx ?_|refine wy ?_|refine wz ?_|refine wv ?_|refine wh ?_)
  have hvl : lnV vv = some (i64 values.length) := by have := rv.len; rw [List.length_map] at this; exact this
  have hsl : lnV sv = some (i64 ss.length) := by have := rs.len; rw [List.length_map] at this; exact this
  have hpl : lnV pv = some (i64 picks.length) := by have := rp.len; rw [List.length_map] at this; exact this
  have hsm : ss.length ≤ 9223372036854775807 := by have := rs.max; rw [List.length_map] at this; exact this
  have hpm : picks.length ≤ 9223372036854775807 := by have := rp.max; rw [List.length_map] at this; exact this
  refine Lfp_fam (ι := Nat × Value) (fun p => [vv, sv, pv, p.2, i64 p.1]) (fun p h' => p.1 ≤ 16 ∧ All (rowP 1 p.2 ((rcCells values p.1).map encI) :: [baseP g]) h') (fun p => 16 - p.1) ?_ (0, .slice none 0 0) h1 ⟨by omega, hp.emp_cons (rowP_nil _ _)⟩
  rintro ⟨i, cv⟩ h2 X ⟨hi, hp⟩ again
  simp only at hi hp
  simp only [tup_zero, tup_succ]
  (repeat first|refine wx ?_|refine wy ?_|refine wz ?_|refine wv ?_|refine wh ?_)
  refine ifV_cases (fun c => ?_) fun c => ?_
  · refine bnd_of hvl ?_
    (repeat first|refine wx ?_|refine wy ?_|refine wz ?_|refine wv ?_|refine wh ?_)
    have step : ∀ (x : Int), x = 4 * rcAt values i → ∀ (s : Value → GH → Prop), (∀ v' h', All (rowP 1 v' ((rcCells values (i + 1)).map encI) :: [baseP g]) h' → s v' h') → bsV 3 1 [.int .i64 0] [(0, 1, i64 x)] h2 fun v14 h15 => apV 3 1 8 cv v14 h15 s := by
      intro x ex s hs
      refine bs0 (size := 1) hp ([x].map encI) rfl rfl (by simp) (encI_good _) fun xv h3 hp => ?_
      have hr := hp.rows
      refine ap0 (hp.up 1) hr (encI_good _) (by decide) (by rw [List.length_map, List.length_map, rcCells_len]; simp; omega) fun cv' h4 hp => ?_
      rw [← List.map_append, ex, ← rcCells_snoc] at hp
      exact hs _ _ (hp.re 3 [0, 2])
    refine ifV_cases (fun c2 => ?_) fun c2 => ?_
    · obtain ⟨x, hx⟩ : ∃ x, values[i]? = some x := ⟨_, List.getElem?_eq_getElem (by omega)⟩
      obtain ⟨p, e1, e2⟩ := int_get (rv.le (baseP.le hp.tail)) hx
      refine bnd_of e1 (bnd_of e2 (bnd_of (binV_and_mask x 1 (by decide) (by decide)) ?_))
      (repeat first|refine wx ?_|refine wy ?_|refine wz ?_|refine wv ?_|refine wh ?_)
      refine step _ ?_ _ fun v' h' hp => ?_
      · unfold rcAt; rw [List.getD_eq_getElem?_getD, hx]; rfl
      (repeat first|refine wx ?_|refine wy ?_|refine wz ?_|refine wv ?_|refine wh ?_)
      exact again (i + 1, v') _ ⟨by simp only; omega, hp⟩ (by simp only; omega)
    · (repeat first|refine wx ?_|refine wy ?_|refine wz ?_|refine wv ?_|refine wh ?_)
      refine step _ ?_ _ fun v' h' hp => ?_
      · unfold rcAt; rw [List.getD_eq_getElem?_getD, List.getElem?_eq_none (by omega)]; rfl
      (repeat first|refine wx ?_|refine wy ?_|refine wz ?_|refine wv ?_|refine wh ?_)
      exact again (i + 1, v') _ ⟨by simp only; omega, hp⟩ (by simp only; omega)
  have hi16 : i = 16 := by omega
  subst hi16
  clear again
  generalize hcs : rcCells values 16 = cells at hp
  have hcl : cells.length = 16 := by rw [← hcs]; exact rcCells_len _ _
  have hcg : ∀ j : Nat, j < 16 → cells.getD j 0 = rcAt values j * 4 := fun j hj => by rw [← hcs]; exact rcCells_get _ hj
  have hvr : ∀ j, 0 ≤ rcAt values j ∧ rcAt values j < 2 := fun j => by unfold rcAt; omega
  refine Lfp_fam (ι := Nat × Value) (fun p => [sv, pv, cv, p.2, i64 (2 * p.1 : Nat), i64 p.1]) (fun p h' => p.1 ≤ ss.length ∧ p.1 ≤ 4 ∧ All (rowP 3 p.2 ((rcRow 0 (ss.take p.1)).map encS) :: rowP 1 cv (cells.map encI) :: [baseP g]) h') (fun p => ss.length - p.1) ?_ (0, .slice none 0 0) h2 ⟨by omega, by omega, hp.emp_cons (rowP_nil _ _)⟩
  rintro ⟨i, rw_⟩ h3 Y ⟨hi, hi4, hp⟩ again
  simp only at hi hi4 hp
  simp only [tup_zero, tup_succ]
  have key : ∀ s4 s25 a1 a2, S4_j2 s4 s25 pv cv rw_ h3 K a1 a2 := by
    intro s4 s25 a1 a2
    have hlen : (rcRow 0 (ss.take i)).length ≤ 4 := by rw [rcRow_len, List.length_take]; omega
    obtain ⟨hm, hc8⟩ := rcRow_ok (l := ss.take i) (k := 0) (last := -1) (by decide) (by decide) (by rw [List.length_take]; omega)
    generalize rcRow 0 (ss.take i) = done at hp hlen hm hc8
    clear again
    unfold S4_j2
    obtain ⟨sa, sc, _, rfl, _⟩ := hp.row
    refine bs0 (size := 1) hp [[.slice sa (done.map encS).length sc]] rfl rfl (by simp) (fun c hc => by rw [List.mem_singleton.1 hc]; exact ⟨rfl, rfl⟩) fun dv h4 hp => ?_
    have may := swMay_of hm
    have hcr : ∀ x ∈ cells, I64 x := fun x hx => by
      obtain ⟨j, hj, e⟩ := List.mem_iff_getElem.1 hx
      have := hcg j (by omega)
      rw [List.getD_eq_getElem?_getD, List.getElem?_eq_getElem hj, e] at this
      have hv := hvr j
      simp only [Option.getD_some] at this
      constructor <;> omega
    refine T_shelf (us := [.slice sa (done.map encS).length sc]) (cells := cells) (dss := [done]) hp (fun h' hp => (hp.up 2).rows) (fun h' hp => ⟨hp.rows, .cons (hp.up 1).rows .nil⟩) hcr fun a b h5 hp => ?_
    obtain ⟨hA, hcell, hdsc⟩ := shelf_view (cells := cells) (dss := [done]) hcr
    have D : Dsc (shelfA cells [done]) ((0 : Nat) : Int) 1 0 done := hdsc 0 done (by decide) rfl may
    generalize shelfA cells [done] = A at hp hA hcell D
    have hat : ∀ j : Nat, j < 16 → A.at j = cells.getD j 0 := fun j hj => hcell j (by omega) (by omega)
    have hpl0 : ∀ c, 0 ≤ c → c < 16 → (plainOf (A.at c)).isSome = true := fun c c0 c1 => by
      have := hat c.toNat (by omega)
      rw [show ((c.toNat : Nat) : Int) = c by omega, hcg _ (by omega)] at this
      have hv := hvr c.toNat
      rw [this, plainOf_val hv.1 (by omega)]; rfl
    have W0 := rc_init hA may D hpl0
    (repeat first|refine wx ?_|refine wy ?_|refine wz ?_|refine wv ?_|refine wh ?_)
    refine T_mine (by decide) (by decide) ?_
    refine T_NewMine hp (by decide) (by decide) (by decide) (by decide) (by decide) (by decide) fun b1 h6 hp => ?_
    (repeat first|refine wx ?_|refine wy ?_|refine wz ?_|refine wv ?_|refine wh ?_)
    refine T_mine (by decide) (by decide) ?_
    refine T_NewMine hp (by decide) (by decide) (by decide) (by decide) (by decide) (by decide) fun b2 h7 hp => ?_
    (repeat first|refine wx ?_|refine wy ?_|refine wz ?_|refine wv ?_|refine wh ?_)
    refine T_Num ?_
    (repeat first|refine wx ?_|refine wy ?_|refine wz ?_|refine wv ?_|refine wh ?_)
    refine T_Num ?_
    (repeat first|refine wx ?_|refine wy ?_|refine wz ?_|refine wv ?_|refine wh ?_)
    replace hp : All (arP 94 a A :: helpP b1 (Help.fresh 0 0 0) :: helpP b2 (Help.fresh 1 0 0) :: rowP 3 _ (done.map encS) :: rowP 1 cv (cells.map encI) :: [baseP g]) h7 := hp.re 8 [2, 1, 0, 5, 6, 7]
    unfold S4_j3
    refine bs0 (size := 1) hp (bools [false, false]) rfl rfl (by simp [bools]) (fun c hc => by simp [bools] at hc; rcases hc with rfl | rfl <;> exact ⟨rfl, rfl⟩) fun ov h8 hp => ?_
    have M0e : ∃ M0 : Int → Int, M0 = A.at := ⟨_, rfl⟩
    obtain ⟨M0, hM0⟩ := M0e
    rw [← hM0] at W0
    have hat0 : ∀ j : Nat, j < 16 → M0 j = cells.getD j 0 := fun j hj => by rw [hM0]; exact hat j hj
    clear hM0 hat hpl0 hcell D
    refine Lfp_fam (ι := Nat × Help × Help × Ar) (fun p => [pv, cv, .slice sa (done.map encS).length sc, ptr a, ptr b1, ptr b2, ov, i64 p.1])
      (fun p h' => p.1 ≤ 120 ∧ p.1 ≤ picks.length ∧ Wld (Dst [done]) (rcLo done M0) (rcP done M0) (fun _ => 0) p.1 [p.2.1, p.2.2.1] p.2.2.2 ∧ All (rowP 1 ov (bools [p.2.1.over, p.2.2.1.over]) :: arP 94 a p.2.2.2 :: helpP b1 p.2.1 :: helpP b2 p.2.2.1 :: rowP 3 (.slice sa (done.map encS).length sc) (done.map encS) :: rowP 1 cv (cells.map encI) :: [baseP g]) h')
      (fun p => 120 - p.1) ?_ (0, Help.fresh 0 0 0, Help.fresh 1 0 0, A) h8 ⟨by simp only; omega, by simp only; omega, W0, hp⟩
    clear hp W0 hA
    rintro ⟨n, P, Q, B⟩ h9 Z ⟨hn, hnp, W, hp⟩ again
    simp only at hn hnp W hp
    simp only [tup_zero, tup_succ]
    -- when both are over
    have fin : ∀ (P Q : Help) (B : Ar) (N : Int) (h9 : GH), Wld (Dst [done]) (rcLo done M0) (rcP done M0) (fun _ => 0) N [P, Q] B → P.over = true → Q.over = true →
        All (arP 94 a B :: helpP b1 P :: helpP b2 Q :: rowP 3 (.slice sa (done.map encS).length sc) (done.map encS) :: rowP 1 cv (cells.map encI) :: [baseP g]) h9 →
        ∀ s4 s25 s3 a1 a2 a3, S4_j6 s4 s25 s3 cv (.slice sa (done.map encS).length sc) (ptr a) (ptr b1) (ptr b2) h9 K a1 a2 a3 := by
      clear again hp W hn hnp
      intro P Q B N h9 W oP oQ hp s4 s25 s3 a1 a2 a3
      obtain ⟨E1, E2, E3⟩ := rc_end W (fun k H e => by
        cases k with
        | zero => simp at e; subst e; exact oP
        | succ k =>
          cases k with
          | zero => simp at e; subst e; exact oQ
          | succ k => simp at e) (by simp)
      have wP := E1 0 P rfl
      have wQ := E1 1 Q rfl
      rw [← asWas_iff may hat0] at wP wQ E2 E3
      have okB := W.ok
      have hwP : P.won = asWas cells done := by
        cases e : asWas cells done with
        | true => exact wP.2 e
        | false => cases e2 : P.won with
          | true => rw [wP.1 e2] at e; cases e
          | false => rfl
      have hwQ : Q.won = asWas cells done := by
        cases e : asWas cells done with
        | true => exact wQ.2 e
        | false => cases e2 : Q.won with
          | true => rw [wQ.1 e2] at e; cases e
          | false => rfl
      have hfin : ∀ j : Nat, j < 16 → B.at j = (if asWas cells done = true then turned cells done else cells).getD j 0 := fun j hj => by
        cases e : asWas cells done with
        | true => rw [if_pos rfl, E2 e j (by omega) (by omega), updM_turned hm hcl hat0 hj]
        | false => rw [if_neg (by decide), E3 (by rw [e]; decide) j (by omega) (by omega), hat0 j hj]
      clear E1 E2 E3 wP wQ W
      unfold S4_j6
      have hdl : done.length ≤ 16 := sw_len may
      refine Lfp_fam (ι := Nat) (fun i => [cv, .slice sa (done.map encS).length sc, ptr a, ptr b1, ptr b2, .bool (asWas cells (done.take i)), i64 i]) (fun i h' => i ≤ done.length ∧ h' = h9) (fun i => done.length - i) ?_ 0 h9 ⟨by omega, rfl⟩
      rintro i h10 W ⟨hi, rfl⟩ again
      simp only [tup_zero, tup_succ]
      have hrs : rowsAt h10 3 (.slice sa (done.map encS).length sc) (done.map encS) := (hp.up 3).rows
      have hrc : rowsAt h10 1 cv (cells.map encI) := (hp.up 4).rows
      refine bnd_of rfl ?_
      rw [List.length_map]
      (repeat first|refine wx ?_|refine wy ?_|refine wz ?_|refine wv ?_|refine wh ?_)
      refine ifV_cases (fun c => ?_) fun c => ?_
      · obtain ⟨s, hs⟩ : ∃ s, done[i]? = some s := ⟨_, List.getElem?_eq_getElem (by omega)⟩
        obtain ⟨m0, m1, m2, m3, m4, m5⟩ := sw_mem may hs
        have hsnoc : asWas cells (done.take (i + 1)) = (asWas cells (done.take i) && decide (cells.getD s.c.toNat 0 = 4 * s.w)) := by
          unfold asWas
          rw [List.take_add_one, hs, List.all_append]
          simp
        have hnx : W (tup [cv, .slice sa done.length sc, ptr a, ptr b1, ptr b2, .bool (asWas cells (done.take (i + 1))), i64 ((i : Int) + 1)]) h10 := by
          have := again (i + 1) h10 ⟨by omega, rfl⟩ (by omega)
          rw [List.length_map] at this
          exact this
        refine ifV_bool (fun cw => ?_) fun cw => ?_
        · obtain ⟨bb, oo, e0, e1, e2, e3⟩ := sw_fld hrs hs
          rw [List.length_map] at e0
          refine bnd_of e0 ?_
          (repeat first|refine wx ?_|refine wy ?_|refine wz ?_|refine wv ?_|refine wh ?_)
          refine bnd_of e1 ?_
          obtain ⟨x, hx⟩ : ∃ x, cells[s.c.toNat]? = some x := ⟨_, List.getElem?_eq_getElem (by omega)⟩
          obtain ⟨p, e4, e5⟩ := int_get hrc hx
          rw [show ((s.c.toNat : Nat) : Int) = s.c by omega] at e4
          refine bnd_of e4 (bnd_of e5 (bnd_of e0 ?_))
          (repeat first|refine wx ?_|refine wy ?_|refine wz ?_|refine wv ?_|refine wh ?_)
          refine bnd_of e2 ?_
          (repeat first|refine wx ?_|refine wy ?_|refine wz ?_|refine wv ?_|refine wh ?_)
          rw [hsnoc, cw, Bool.true_and, List.getD_eq_getElem?_getD, hx] at hnx
          exact hnx
        · (repeat first|refine wx ?_|refine wy ?_|refine wz ?_|refine wv ?_|refine wh ?_)
          rw [hsnoc, cw, Bool.false_and] at hnx
          exact hnx
      · have hid : i = done.length := by omega
        subst hid
        rw [List.take_length]
        clear again
        refine Lfp_fam (ι := Nat) (fun i => [cv, .slice sa done.length sc, ptr a, ptr b1, ptr b2, .bool (asWas cells done), i64 i]) (fun i h' => i ≤ done.length ∧ (asWas cells done = false → i = 0) ∧ All (arP 94 a B :: helpP b1 P :: helpP b2 Q :: rowP 3 (.slice sa done.length sc) (done.map encS) :: rowP 1 cv ((turned cells (done.take i)).map encI) :: [baseP g]) h') (fun i => done.length - i) ?_ 0 h10 ⟨by omega, fun _ => rfl, by
          rw [List.length_map] at hp; exact hp⟩
        clear hp hrs hrc
        rintro i h11 V ⟨hi, hi0, hp⟩ again
        simp only [tup_zero, tup_succ]
        have fin2 : (asWas cells done = true → i = done.length) → ∀ s4 s25 s3 s1 s18 a1 a2 a3 a4 a5, S4_j8 s4 s25 s3 s1 s18 cv (ptr a) (ptr b1) (ptr b2) (.bool (asWas cells done)) h11 K a1 a2 a3 a4 a5 := by
          intro hid s4 s25 s3 s1 s18 a1 a2 a3 a4 a5
          unfold S4_j8
          refine T_All hp fun av h12 hp => ?_
          (repeat first|refine wx ?_|refine wy ?_|refine wz ?_|refine wv ?_|refine wh ?_)
          refine T_Won (hp.up 2) ?_
          rw [hwP]
          (repeat first|refine wx ?_|refine wy ?_|refine wz ?_|refine wv ?_|refine wh ?_)
          rw [beq_self_eq_true]
          (repeat first|refine wx ?_|refine wy ?_|refine wz ?_|refine wv ?_|refine wh ?_)
          refine T_Won (hp.up 3) ?_
          rw [hwQ]
          (repeat first|refine wx ?_|refine wy ?_|refine wz ?_|refine wv ?_|refine wh ?_)
          rw [beq_self_eq_true]
          (repeat first|refine wx ?_|refine wy ?_|refine wz ?_|refine wv ?_|refine wh ?_)
          refine bnd_of hp.len ?_
          rw [List.length_map, okB.words]
          (repeat first|refine wx ?_|refine wy ?_|refine wz ?_|refine wv ?_|refine wh ?_)
          have hcs2 : turned cells (done.take i) = if asWas cells done = true then turned cells done else cells := by
            cases e : asWas cells done with
            | true => rw [hid e, List.take_length, if_pos rfl]
            | false => rw [hi0 e, if_neg (by decide)]; rfl
          refine T_cellsSame hp (All.rows (hp.up 5)) okB (by rw [turned_len]; exact hcl) (fun j hj => by rw [hcs2]; exact hfin j hj) (hK _)
        have hrs : rowsAt h11 3 (.slice sa done.length sc) (done.map encS) := (hp.up 3).rows
        refine bnd_of rfl ?_
        (repeat first|refine wx ?_|refine wy ?_|refine wz ?_|refine wv ?_|refine wh ?_)
        refine ifV_cases (fun c => ?_) fun c => fin2 (fun _ => by omega) _ _ _ _ _ _ _ _ _ _
        refine ifV_bool (fun cw => ?_) fun cw => fin2 (fun e => by rw [e] at cw; cases cw) _ _ _ _ _ _ _ _ _ _
        unfold S4_j7
        obtain ⟨s, hs⟩ : ∃ s, done[i]? = some s := ⟨_, List.getElem?_eq_getElem (by omega)⟩
        obtain ⟨m0, m1, m2, m3, m4, m5⟩ := sw_mem may hs
        obtain ⟨bb, oo, e0, e1, e2, e3⟩ := sw_fld hrs hs
        refine bnd_of e0 ?_
        (repeat first|refine wx ?_|refine wy ?_|refine wz ?_|refine wv ?_|refine wh ?_)
        refine bnd_of e1 (bnd_of e0 ?_)
        (repeat first|refine wx ?_|refine wy ?_|refine wz ?_|refine wv ?_|refine wh ?_)
        refine bnd_of e3 ?_
        (repeat first|refine wx ?_|refine wy ?_|refine wz ?_|refine wv ?_|refine wh ?_)
        obtain ⟨x, hx⟩ : ∃ x, (turned cells (done.take i))[s.c.toNat]? = some x := ⟨_, List.getElem?_eq_getElem (by rw [turned_len]; omega)⟩
        obtain ⟨bb2, e4, _, _, est⟩ := All.elt (hp.up 4) (i := s.c.toNat) (c := [i64 x]) (by rw [List.getElem?_map, hx]; rfl) .i64
        rw [show ((s.c.toNat : Nat) : Int) = s.c by omega] at e4
        obtain ⟨h12, e5, hp5⟩ := est 0 1 (i64 (4 * s.n)) rfl (by decide) rfl
        refine bnd_of e4 (bnd_of e5 ?_)
        (repeat first|refine wx ?_|refine wy ?_|refine wz ?_|refine wv ?_|refine wh ?_)
        have e6 : ((turned cells (done.take i)).map encI).set s.c.toNat (setCells [i64 x] 0 (i64 (4 * s.n)).cells.toList) = (turned cells (done.take (i + 1))).map encI := by
          have : turned cells (done.take (i + 1)) = (turned cells (done.take i)).set s.c.toNat (4 * s.n) := by
            unfold turned
            rw [List.take_add_one, hs, List.foldl_append]; rfl
          rw [this, List.map_set]; rfl
        rw [e6] at hp5
        have hp6 : All (arP 94 a B :: helpP b1 P :: helpP b2 Q :: rowP 3 (.slice sa done.length sc) (done.map encS) :: rowP 1 cv ((turned cells (done.take (i + 1))).map encI) :: [baseP g]) h12 := hp5.re 6 [1, 2, 3, 4, 0, 5]
        exact again (i + 1) _ ⟨by omega, (fun e => by rw [e] at cw; cases cw), hp6⟩ (by omega)
    have last : ∀ s4 s25 s3 a1 a2 a3, S4_j5 s4 s25 s3 cv (.slice sa (done.map encS).length sc) (ptr a) (ptr b1) (ptr b2) ov h9 K a1 a2 a3 := by
      clear again
      intro s4 s25 s3 a1 a2 a3
      unfold S4_j5
      have okP := (W.h 0 P rfl).2.2.2
      have okQ := (W.h 1 Q rfl).2.2.2
      obtain ⟨ob, o0, o1, _, _⟩ := hp.elt (i := 0) (c := [.bool P.over]) rfl .i64
      refine bnd_of o0 (bnd_of (o1 0 1 _ rfl) ?_)
      (repeat first|refine wx ?_|refine wy ?_|refine wz ?_|refine wv ?_|refine wh ?_)
      cases hP : P.over with
      | false =>
        obtain ⟨P', B', m', r1, r2, W1⟩ := rc_ended may hlen hc8 W (k := 0) (H := P) rfl (by omega) hP
        (repeat first|refine wx ?_|refine wy ?_|refine wz ?_|refine wv ?_|refine wh ?_)
        replace hp := hp.re 7 [1, 2, 0, 3, 4, 5, 6]
        replace hp := Go.Proofs.Ytcdbamkjlghckaa.hn hp
        refine T_ended hp okP W.ok r1 fun h10 hp => ?_
        (repeat first|refine wx ?_|refine wy ?_|refine wz ?_|refine wv ?_|refine wh ?_)
        obtain ⟨ob, o0, o1, _, _⟩ := (hp.up 2).elt (i := 1) (c := [.bool Q.over]) rfl .i64
        refine bnd_of o0 (bnd_of (o1 0 1 _ rfl) ?_)
        (repeat first|refine wx ?_|refine wy ?_|refine wz ?_|refine wv ?_|refine wh ?_)
        have W1 : Wld (Dst [done]) (rcLo done M0) (rcP done M0) (fun _ => 0) (n + 600) [P', Q] B' := W1
        cases hQ : Q.over with
        | false =>
          obtain ⟨Q', B2, m2, q1, q2, W2⟩ := rc_ended may hlen hc8 W1 (k := 1) (H := Q) rfl (by omega) hQ
          (repeat first|refine wx ?_|refine wy ?_|refine wz ?_|refine wv ?_|refine wh ?_)
          replace hp := hp.re 7 [0, 3, 1, 2, 4, 5, 6]
          replace hp := Go.Proofs.Ytcdbamkjlghckaa.hn hp
          refine T_ended hp okQ W1.ok q1 fun h11 hp => ?_
          (repeat first|refine wx ?_|refine wy ?_|refine wz ?_|refine wv ?_|refine wh ?_)
          have W2 : Wld (Dst [done]) (rcLo done M0) (rcP done M0) (fun _ => 0) (n + 600 + 600) [P', Q'] B2 := W2
          replace hp := hp.re 7 [0, 2, 1, 4, 5, 6]
          replace hp := Go.Proofs.Ytcdbamkjlghckaa.hn hp
          exact fin P' Q' B2 _ _ W2 r2 q2 hp _ _ _ _ _ _
        | true =>
          (repeat first|refine wx ?_|refine wy ?_|refine wz ?_|refine wv ?_|refine wh ?_)
          replace hp := hp.re 7 [0, 1, 3, 4, 5, 6]
          replace hp := Go.Proofs.Ytcdbamkjlghckaa.hn hp
          exact fin P' Q B' _ _ W1 r2 hQ hp _ _ _ _ _ _
      | true =>
        (repeat first|refine wx ?_|refine wy ?_|refine wz ?_|refine wv ?_|refine wh ?_)
        obtain ⟨ob, o0, o1, _, _⟩ := hp.elt (i := 1) (c := [.bool Q.over]) rfl .i64
        refine bnd_of o0 (bnd_of (o1 0 1 _ rfl) ?_)
        (repeat first|refine wx ?_|refine wy ?_|refine wz ?_|refine wv ?_|refine wh ?_)
        cases hQ : Q.over with
        | false =>
          obtain ⟨Q', B2, m2, q1, q2, W2⟩ := rc_ended may hlen hc8 W (k := 1) (H := Q) rfl (by omega) hQ
          (repeat first|refine wx ?_|refine wy ?_|refine wz ?_|refine wv ?_|refine wh ?_)
          replace hp := hp.re 7 [1, 3, 0, 2, 4, 5, 6]
          replace hp := Go.Proofs.Ytcdbamkjlghckaa.hn hp
          refine T_ended hp okQ W.ok q1 fun h11 hp => ?_
          (repeat first|refine wx ?_|refine wy ?_|refine wz ?_|refine wv ?_|refine wh ?_)
          have W2 : Wld (Dst [done]) (rcLo done M0) (rcP done M0) (fun _ => 0) (n + 600) [P, Q'] B2 := W2
          replace hp := hp.re 7 [0, 3, 1, 4, 5, 6]
          replace hp := Go.Proofs.Ytcdbamkjlghckaa.hn hp
          exact fin P Q' B2 _ _ W2 hP q2 hp _ _ _ _ _ _
        | true =>
          (repeat first|refine wx ?_|refine wy ?_|refine wz ?_|refine wv ?_|refine wh ?_)
          replace hp := hp.re 7 [1, 2, 3, 4, 5, 6]
          replace hp := Go.Proofs.Ytcdbamkjlghckaa.hn hp
          exact fin P Q B _ _ W hP hQ hp _ _ _ _ _ _
    refine bnd_of hpl ?_
    (repeat first|refine wx ?_|refine wy ?_|refine wz ?_|refine wv ?_|refine wh ?_)
    refine ifV_cases (fun c => ?_) fun c => last _ _ _ _ _ _
    (repeat first|refine wx ?_|refine wy ?_|refine wz ?_|refine wv ?_|refine wh ?_)
    refine ifV_cases (fun c120 => ?_) fun c => last _ _ _ _ _ _
    clear last fin
    unfold S4_j4
    obtain ⟨x, hx⟩ : ∃ x, picks[n]? = some x := ⟨_, List.getElem?_eq_getElem (by omega)⟩
    refine bs0 (size := 1) hp [[ptr b1], [ptr b2]] rfl rfl (by simp) (fun c hc => by simp at hc; rcases hc with rfl | rfl <;> exact ⟨rfl, rfl⟩) fun hv h10 hp => ?_
    obtain ⟨p, e1, e2⟩ := int_get (rp.le (baseP.le (hp.up 7))) hx
    refine bnd_of e1 (bnd_of e2 (bnd_of (binV_and_mask x 1 (by decide) (by decide)) ?_))
    have hx2 : x % ((2 ^ 1 : Nat) : Int) = 0 ∨ x % ((2 ^ 1 : Nat) : Int) = 1 := by omega
    have okP := (W.h 0 P rfl).2.2.2
    have okQ := (W.h 1 Q rfl).2.2.2
    rcases hx2 with hx2 | hx2
    · rw [hx2]
      obtain ⟨eb, i1, i2, _, _⟩ := hp.elt (i := 0) (c := [ptr b1]) rfl .i64
      refine bnd_of i1 (bnd_of (i2 0 1 _ rfl) ?_)
      obtain ⟨z0, W1⟩ := W.step rc_P rc_L (k := 0) (H := P) rfl (by omega)
      replace hp := hp.re 8 [2, 3, 1, 4, 5, 6, 7]
      replace hp := Go.Proofs.Ytcdbamkjlghckaa.hn hp
      refine T_Step hp okP fun h11 hp => ?_
      rw [z0]
      (repeat first|refine wx ?_|refine wy ?_|refine wz ?_|refine wv ?_|refine wh ?_)
      obtain ⟨p, e1, e2⟩ := int_get (rp.le (baseP.le (hp.up 6))) hx
      refine bnd_of e1 (bnd_of e2 (bnd_of (binV_and_mask x 1 (by decide) (by decide)) ?_))
      rw [hx2]
      obtain ⟨eb, i1, _, _, i4⟩ := (hp.up 2).elt (i := 0) (c := [.bool P.over]) rfl .i64
      obtain ⟨h12, i5, hp⟩ := i4 0 1 (.bool (P.step B).1.over) rfl (by decide) rfl
      refine bnd_of i1 (bnd_of i5 ?_)
      refine T_Num ?_
      (repeat first|refine wx ?_|refine wy ?_|refine wz ?_|refine wv ?_|refine wh ?_)
      exact again (n + 1, (P.step B).1, Q, (P.step B).2.2) _ ⟨by simp only; omega, by simp only; omega, W1, hp⟩ (by simp only; omega)
    · rw [hx2]
      obtain ⟨eb, i1, i2, _, _⟩ := hp.elt (i := 1) (c := [ptr b2]) rfl .i64
      refine bnd_of i1 (bnd_of (i2 0 1 _ rfl) ?_)
      obtain ⟨z0, W1⟩ := W.step rc_P rc_L (k := 1) (H := Q) rfl (by omega)
      replace hp := hp.re 8 [2, 4, 1, 3, 5, 6, 7]
      replace hp := Go.Proofs.Ytcdbamkjlghckaa.hn hp
      refine T_Step hp okQ fun h11 hp => ?_
      rw [z0]
      (repeat first|refine wx ?_|refine wy ?_|refine wz ?_|refine wv ?_|refine wh ?_)
      obtain ⟨p, e1, e2⟩ := int_get (rp.le (baseP.le (hp.up 6))) hx
      refine bnd_of e1 (bnd_of e2 (bnd_of (binV_and_mask x 1 (by decide) (by decide)) ?_))
      rw [hx2]
      obtain ⟨eb, i1, _, _, i4⟩ := (hp.up 2).elt (i := 1) (c := [.bool Q.over]) rfl .i64
      obtain ⟨h12, i5, hp⟩ := i4 0 1 (.bool (Q.step B).1.over) rfl (by decide) rfl
      refine bnd_of i1 (bnd_of i5 ?_)
      refine T_Num ?_
      (repeat first|refine wx ?_|refine wy ?_|refine wz ?_|refine wv ?_|refine wh ?_)
      exact again (n + 1, P, (Q.step B).1, (Q.step B).2.2) _ ⟨by simp only; omega, by simp only; omega, W1, hp.re 7 [0, 1, 3, 2, 4, 5, 6]⟩ (by simp only; omega)
  refine bnd_of hsl ?_
  (repeat first|refine wx ?_|refine wy ?_|refine wz ?_|refine wv ?_|refine wh ?_)
  refine ifV_cases (fun c => ?_) fun c => key _ _ _ _
  (repeat first|refine wx ?_|refine wy ?_|refine wz ?_|refine wv ?_|refine wh ?_)
  refine ifV_cases (fun c4 => ?_) fun c => key _ _ _ _
  clear key
  unfold S4_j1
  obtain ⟨s, hs⟩ : ∃ s, ss[i]? = some s := ⟨_, List.getElem?_eq_getElem (by omega)⟩
  have hrs : rowsAt h3 3 sv (ss.map encS) := rs.le (baseP.le (hp.up 2))
  obtain ⟨bb, oo, e0, e1, e2, e3⟩ := sw_fld hrs hs
  refine bnd_of e0 ?_
  (repeat first|refine wx ?_|refine wy ?_|refine wz ?_|refine wv ?_|refine wh ?_)
  refine bnd_of e1 (bnd_of (binV_and_mask s.c 1 (by decide) (by decide)) ?_)
  (repeat first|refine wx ?_|refine wy ?_|refine wz ?_|refine wv ?_|refine wh ?_)
  refine bnd_of e0 ?_
  (repeat first|refine wx ?_|refine wy ?_|refine wz ?_|refine wv ?_|refine wh ?_)
  refine bnd_of e2 (bnd_of (binV_and_mask s.w 1 (by decide) (by decide)) (bnd_of e0 ?_))
  (repeat first|refine wx ?_|refine wy ?_|refine wz ?_|refine wv ?_|refine wh ?_)
  refine bnd_of e3 (bnd_of (binV_and_mask s.n 2 (by decide) (by decide)) ?_)
  (repeat first|refine wx ?_|refine wy ?_|refine wz ?_|refine wv ?_|refine wh ?_)
  have enx : rcRow 0 (ss.take (i + 1)) = rcRow 0 (ss.take i) ++ [rcSw s (2 * i : Nat)] := by
    rw [List.take_add_one, hs]
    show rcRow 0 (ss.take i ++ [s]) = _
    rw [rcRow_snoc, List.length_take, show (0 : Int) + 2 * (min i ss.length : Nat) = (2 * i : Nat) by omega]
  refine bs0 (size := 3) hp ([rcSw s (2 * i : Nat)].map encS) rfl rfl (by simp) (encS_good _) fun xv h4 hp => ?_
  have hr := hp.rows
  refine ap0 (hp.up 1) hr (encS_good _) (by decide) (by rw [List.length_map, rcRow_len, List.length_take]; simp; omega) fun rv' h5 hp => ?_
  (repeat first|refine wx ?_|refine wy ?_|refine wz ?_|refine wv ?_|refine wh ?_)
  rw [← List.map_append, ← enx] at hp
  exact again (i + 1, rv') _ ⟨by simp only; omega, by simp only; omega, hp.re 4 [0, 2, 3]⟩ (by simp only; omega)
end
end Go.Proofs.Ytcdbamkjlghckaa
