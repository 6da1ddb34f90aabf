/- Several texts in one, each under its own remark or none; nothing here is a statement on the program. -/
import Derived.Test.YtfcignalfdifnaaKF
namespace Go.Proofs.Ytfcignalfdifnaa
open Go GW Go.Proofs
attribute [local irreducible] bnd ldV stV ifV binV eqI
set_option linter.unusedVariables false
set_option linter.unusedSimpArgs false
set_option maxRecDepth 20000
/-- what the statement makes of its arguments -/
def vAt (values : List Int) (i : Nat) : Int := values.getD i 0 % 4
def alCells (values : List Int) (n : Nat) : List Int := (List.range n).map fun i => 4 * vAt values i
def alRow : Int → List Sw → List Sw
  | _, [] => []
  | next, s :: r => if next < 16 then (if next + s.c % 4 < 16 then ⟨next + s.c % 4, s.w % 4, s.n % 1024⟩ :: alRow (next + s.c % 4 + 1) r else alRow (next + s.c % 4 + 1) r) else []
theorem alRow_cons (next : Int) (s : Sw) (r : List Sw) : alRow next (s :: r) = if next < 16 then (if next + s.c % 4 < 16 then ⟨next + s.c % 4, s.w % 4, s.n % 1024⟩ :: alRow (next + s.c % 4 + 1) r else alRow (next + s.c % 4 + 1) r) else [] := rfl
theorem alRow_ok : ∀ {ss : List Sw} {next : Int}, 0 ≤ next → swOk (next - 1) (alRow next ss) = true := by
  intro ss
  induction ss with
  | nil => intro next _; rfl
  | cons s r ih =>
    intro next h
    unfold alRow
    split
    · split
      · unfold swOk
        rw [Bool.and_eq_true, decide_eq_true_eq]
        refine ⟨⟨by simp only; omega, by simp only; omega, by simp only; omega, by simp only; omega, by simp only; omega, by simp only; omega⟩, ?_⟩
        have := ih (next := next + s.c % 4 + 1) (by omega)
        rw [show next + s.c % 4 + 1 - 1 = next + s.c % 4 by omega] at this
        exact this
      · rename_i c1 c2
        have := ih (next := next + s.c % 4 + 1) (by omega)
        cases e : alRow (next + s.c % 4 + 1) r with
        | nil => rfl
        | cons x l =>
          rw [e] at this
          unfold swOk at this
          rw [Bool.and_eq_true, decide_eq_true_eq] at this
          obtain ⟨⟨a1, a2, _⟩, _⟩ := this
          omega
    · rfl
theorem alRow_w : ∀ {ss : List Sw} {next : Int}, ∀ s ∈ alRow next ss, s.w < 4 := by
  intro ss
  induction ss with
  | nil => intro next s h; cases h
  | cons d r ih =>
    intro next s h
    unfold alRow at h
    split at h
    · split at h
      · rcases List.mem_cons.1 h with rfl | h
        · simp only; omega
        · exact ih s h
      · exact ih s h
    · cases h
def asWas (cells : List Int) (rows : List Sw) : Bool := rows.all fun s => decide (cells.getD s.c.toNat 0 = 4 * s.w)
def turned (cells : List Int) (rows : List Sw) : List Int := rows.foldl (fun cs s => cs.set s.c.toNat (4 * s.n)) cells
theorem turned_len : ∀ {rows : List Sw} {cells : List Int}, (turned cells rows).length = cells.length := by
  intro rows
  induction rows with
  | nil => intro cells; rfl
  | cons s r ih => intro cells; show (turned (cells.set s.c.toNat (4 * s.n)) r).length = _; rw [ih, List.length_set]
theorem turned_other : ∀ {rows : List Sw} {cells : List Int} {j : Nat}, (∀ s ∈ rows, s.c.toNat ≠ j) → (turned cells rows).getD j 0 = cells.getD j 0 := by
  intro rows
  induction rows with
  | nil => intro cells j _; rfl
  | cons s r ih =>
    intro cells j h
    show (turned (cells.set s.c.toNat (4 * s.n)) r).getD j 0 = _
    rw [ih fun x hx => h x (List.mem_cons_of_mem _ hx), List.getD_eq_getElem?_getD, List.getElem?_set_ne (h s (by simp)), ← List.getD_eq_getElem?_getD]
theorem turned_at : ∀ {rows : List Sw} {cells : List Int} {last : Int}, swOk last rows = true → -1 ≤ last → cells.length = 16 → ∀ s ∈ rows, (turned cells rows).getD s.c.toNat 0 = 4 * s.n := by
  intro rows
  induction rows with
  | nil => intro cells last _ _ _ s h; cases h
  | cons d r ih =>
    intro cells last h hl h16 s hs
    have h' := h
    unfold swOk at h
    rw [Bool.and_eq_true, decide_eq_true_eq] at h
    obtain ⟨⟨a1, a2, _⟩, a3⟩ := h
    show (turned (cells.set d.c.toNat (4 * d.n)) r).getD s.c.toNat 0 = _
    rcases List.mem_cons.1 hs with rfl | hs
    · rw [turned_other fun x hx => by
        obtain ⟨i, hi, e⟩ := List.mem_iff_getElem.1 hx
        have := swOk_lt a3 i x (by rw [List.getElem?_eq_getElem hi, e]); omega]
      rw [List.getD_eq_getElem?_getD, List.getElem?_set_self (by omega)]; rfl
    · exact ih a3 (by omega) (by rw [List.length_set]; exact h16) s hs
/-- what comes of it -/
theorem alone_ends {A : Ar} {rows : List Sw} {cells : List Int} {t q : Int} (hA : A.ok) (hm : swOk (-1) rows = true) (D : Dsc A 0 1 0 rows) (hl : cells.length = 16) (hc : ∀ j : Nat, j < 16 → A.at j = cells.getD j 0)
    (hv : ∀ j : Nat, j < 16 → ∃ v, cells.getD j 0 = v * 4 ∧ 0 ≤ v ∧ v < 1099511627776) (t0 : 0 ≤ t) (t1 : t < 4) (q0 : 0 ≤ q) (q1 : q < 1048576) :
    ∃ H' A' m, runs 200 (Help.fresh t q 0) A false 0 = some (H', A', true, m) ∧ H'.ok ∧ A'.ok ∧ H'.won = asWas cells rows ∧ ∀ j : Nat, j < 16 → A'.at j = (if asWas cells rows = true then turned cells rows else cells).getD j 0 := by
  have may := swMay_of hm
  have hn := sw_len may
  have o := fresh_on (k := 0) hA (by decide) may D
  have fo := fresh_ok (t := t) (q := q) (s := 0) (by decide) (by decide) t0 t1 q0 q1
  have hb : baseOf 0 = 34 := rfl
  have mem (i : Nat) (d : Sw) (hd : rows[i]? = some d) := sw_mem may hd
  have at_c : ∀ (d : Sw), 0 ≤ d.c → d.c < 16 → A.at d.c = cells.getD d.c.toNat 0 := fun d h0 h1 => by
    have := hc d.c.toNat (by omega)
    rw [show ((d.c.toNat : Nat) : Int) = d.c by omega] at this; exact this
  cases hw : asWas cells rows with
  | true =>
    have all : ∀ (i : Nat) d, rows[i]? = some d → A.at d.c = d.w * 4 := fun i d hd => by
      obtain ⟨m0, m1, _⟩ := mem i d hd
      have h := List.all_eq_true.1 hw d (List.mem_of_getElem? hd)
      rw [decide_eq_true_eq] at h
      rw [at_c d m0 m1, h]; omega
    obtain ⟨f, A', g, o', c', r'⟩ := alone_wins (s := 0) (g := 1) (H := Help.fresh t q 0) (w := Wh.new 0 1) o rfl rfl rfl rfl rfl fo all
    have hok := g.ok fo hA
    have e := g.runs (N := 200) (m := 0) rfl (by omega) (by omega)
    refine ⟨_, A', _, e, hok.1, o'.ok, rfl, fun j hj => ?_⟩
    rw [if_pos rfl]
    by_cases hx : ∃ s ∈ rows, s.c.toNat = j
    · obtain ⟨s, hs, e⟩ := hx
      obtain ⟨i, hi, ei⟩ := List.mem_iff_getElem.1 hs
      have hd : rows[i]? = some s := by rw [List.getElem?_eq_getElem hi, ei]
      obtain ⟨m0, m1, _⟩ := mem i s hd
      have e2 : (j : Int) = s.c := by omega
      rw [e2, c' i s hd, ← e, turned_at hm (by decide) hl s hs]; omega
    · have hx' : ∀ s ∈ rows, s.c.toNat ≠ j := fun s hs e => hx ⟨s, hs, e⟩
      rw [turned_other hx', r' j (by omega) (by omega) (by omega) fun i d hd e => hx' d (List.mem_of_getElem? hd) (by omega), hc j hj]
  | false =>
    -- the first one that is not as it was
    have ex : ∃ (k : Nat) (d : Sw), rows[k]? = some d ∧ A.at d.c ≠ d.w * 4 ∧ ∀ (i : Nat) d, i < k → rows[i]? = some d → A.at d.c = d.w * 4 := by
      have key : ∀ n : Nat, (∀ (i : Nat) d, i < n → rows[i]? = some d → A.at d.c = d.w * 4) ∨ ∃ (k : Nat) (d : Sw), rows[k]? = some d ∧ A.at d.c ≠ d.w * 4 ∧ ∀ (i : Nat) d, i < k → rows[i]? = some d → A.at d.c = d.w * 4 := by
        intro n
        induction n with
        | zero => left; intro i d h; omega
        | succ n ih =>
          rcases ih with ih | ih
          · cases hd : rows[n]? with
            | none =>
              left; intro i d hi h
              by_cases e : i = n
              · subst e; rw [hd] at h; cases h
              · exact ih i d (by omega) h
            | some d =>
              by_cases e : A.at d.c = d.w * 4
              · left; intro i d' hi h
                by_cases e2 : i = n
                · subst e2; rw [hd] at h; cases h; exact e
                · exact ih i d' (by omega) h
              · right; exact ⟨n, d, hd, e, ih⟩
          · exact .inr ih
      rcases key rows.length with h | h
      · exfalso
        have : asWas cells rows = true := by
          unfold asWas
          rw [List.all_eq_true]
          intro s hs
          obtain ⟨i, hi, e⟩ := List.mem_iff_getElem.1 hs
          have hd : rows[i]? = some s := by rw [List.getElem?_eq_getElem hi, e]
          obtain ⟨m0, m1, _⟩ := mem i s hd
          rw [decide_eq_true_eq, ← at_c s m0 m1, h i s hi hd]; omega
        rw [this] at hw; cases hw
      · exact h
    obtain ⟨k, dk, hdk, hne, hlt⟩ := ex
    obtain ⟨m0, m1, _⟩ := mem k dk hdk
    have hkl := (List.getElem?_eq_some_iff.1 hdk).1
    obtain ⟨v, ev, v0, v1⟩ := hv dk.c.toNat (by omega)
    have hk : A.at dk.c = v * 4 := by rw [at_c dk m0 m1, ev]
    obtain ⟨f, A', g, o', r'⟩ := alone_loses (s := 0) (g := 1) (H := Help.fresh t q 0) (w := Wh.new 0 1) (k := k) (dk := dk) (v := v) o rfl rfl rfl rfl rfl fo hlt hdk hk v0 v1 (fun e => hne (by rw [hk, e])) fun i d hd => by
      obtain ⟨m0, m1, _⟩ := mem i d hd
      obtain ⟨v, ev, _⟩ := hv d.c.toNat (by omega)
      rw [at_c d m0 m1, ev]; exact (mcas_not_val).symm
    have hok := g.ok fo hA
    have e := g.runs (N := 200) (m := 0) rfl (by omega) (by omega)
    refine ⟨_, A', _, e, hok.1, o'.ok, rfl, fun j hj => ?_⟩
    rw [if_neg (by decide), r' j (by omega) (by omega) (by omega), hc j hj]
section
variable {R : List Part} {h : GH} {K : Value → GH → Prop}
theorem alCells_snoc (values : List Int) (n : Nat) : alCells values (n + 1) = alCells values n ++ [4 * vAt values n] := by
  unfold alCells; rw [List.range_succ, List.map_append]; rfl
theorem alCells_len (values : List Int) (n : Nat) : (alCells values n).length = n := by unfold alCells; simp
theorem alCells_get (values : List Int) {n j : Nat} (hj : j < n) : (alCells values n).getD j 0 = vAt values j * 4 := by
  unfold alCells
  rw [List.getD_eq_getElem?_getD, List.getElem?_map, List.getElem?_range hj]
  simp only [Option.map_some, Option.getD_some]; omega
theorem alRow_drop {ss : List Sw} {i : Nat} {s : Sw} (hs : ss[i]? = some s) : ss.drop i = s :: ss.drop (i + 1) := by
  have hi := (List.getElem?_eq_some_iff.1 hs).1
  rw [List.drop_eq_getElem_cons hi]
  congr 1
  rw [List.getElem?_eq_getElem hi] at hs; exact Option.some.inj hs
theorem T_HelpAlone {g : GH} {vv sv : Value} {values : List Int} {ss : List Sw} {thread seq : Int} (hp : All [baseP g] h) (rv : rowsAt g 1 vv (values.map encI)) (rs : rowsAt g 3 sv (ss.map encS)) (hK : ∀ h', K (.bool true) h') : T Try.prog 3 [vv, sv, i64 thread, i64 seq] h K := by
  apply S3_T
  unfold S3
  refine T_awake hp fun h1 hp => ?_
  (repeat first|(with_reducible first|refine wA ?_|refine wB ?_|refine wC ?_|refine wD ?_|refine wE ?_|refine wF ?_|refine wG ?_|refine wH ?_|refine wI ?_|refine wJ ?_|refine wN ?_|refine wT ?_|refine wU ?_)|((with_reducible refine isB ?_);first|refine wK rfl ?_|refine ld0 hp rfl ?_|refine ld1 hp rfl ?_|refine ld2 hp rfl ?_|refine ld3 hp rfl ?_|refine wP ?_|refine wQ ?_|refine wR ?_)|((with_reducible refine isIf ?_);first|refine wV ?_|refine wW ?_)|((with_reducible refine isHl ?_);first|refine hl0 hp rfl ?_|refine hl1 hp rfl ?_|refine hl2 hp rfl ?_|refine hl3 hp rfl ?_))
  have hvl : lnV vv = some (i64 values.length) := by have := rv.len; rw [List.length_map] at this; exact this
  have hsl : lnV sv = some (i64 ss.length) := by have := rs.len; rw [List.length_map] at this; exact this
  have hsm : ss.length ≤ 9223372036854775807 := by have := rs.max; rw [List.length_map] at this; exact this
  refine Lfp_fam (ι := Nat × Value) (fun p => [vv, sv, i64 thread, i64 seq, p.2, i64 p.1]) (fun p h' => p.1 ≤ 16 ∧ All (rowP 1 p.2 ((alCells values p.1).map encI) :: [baseP g]) h') (fun p => 16 - p.1) ?_ (0, .slice none 0 0) h1 ⟨by omega, hp.emp_cons (rowP_nil _ _)⟩
  rintro ⟨i, cv⟩ h2 X ⟨hi, hp⟩ again
  simp only at hi hp
  simp only [tup_zero, tup_succ]
  (repeat first|(with_reducible first|refine wA ?_|refine wB ?_|refine wC ?_|refine wD ?_|refine wE ?_|refine wF ?_|refine wG ?_|refine wH ?_|refine wI ?_|refine wJ ?_|refine wN ?_|refine wT ?_|refine wU ?_)|((with_reducible refine isB ?_);first|refine wK rfl ?_|refine ld0 hp rfl ?_|refine ld1 hp rfl ?_|refine ld2 hp rfl ?_|refine ld3 hp rfl ?_|refine wP ?_|refine wQ ?_|refine wR ?_)|((with_reducible refine isIf ?_);first|refine wV ?_|refine wW ?_)|((with_reducible refine isHl ?_);first|refine hl0 hp rfl ?_|refine hl1 hp rfl ?_|refine hl2 hp rfl ?_|refine hl3 hp rfl ?_))
  refine ifV_cases (fun c => ?_) fun c => ?_
  · refine bnd_of hvl ?_
    (repeat first|(with_reducible first|refine wA ?_|refine wB ?_|refine wC ?_|refine wD ?_|refine wE ?_|refine wF ?_|refine wG ?_|refine wH ?_|refine wI ?_|refine wJ ?_|refine wN ?_|refine wT ?_|refine wU ?_)|((with_reducible refine isB ?_);first|refine wK rfl ?_|refine ld0 hp rfl ?_|refine ld1 hp rfl ?_|refine ld2 hp rfl ?_|refine ld3 hp rfl ?_|refine wP ?_|refine wQ ?_|refine wR ?_)|((with_reducible refine isIf ?_);first|refine wV ?_|refine wW ?_)|((with_reducible refine isHl ?_);first|refine hl0 hp rfl ?_|refine hl1 hp rfl ?_|refine hl2 hp rfl ?_|refine hl3 hp rfl ?_))
    have step : ∀ (x : Int), x = 4 * vAt values i → ∀ (s : Value → GH → Prop), (∀ v' h', All (rowP 1 v' ((alCells values (i + 1)).map encI) :: [baseP g]) h' → s v' h') → bsV 3 1 [.int .i64 0] [(0, 1, i64 x)] h2 fun v14 h15 => apV 3 1 8 cv v14 h15 s := by
      intro x ex s hs
      refine bs0 (size := 1) hp ([x].map encI) rfl rfl (by simp) (encI_good _) fun xv h3 hp => ?_
      have hr := hp.rows
      refine ap0 (hp.up 1) hr (encI_good _) (by decide) (by rw [List.length_map, List.length_map, alCells_len]; simp; omega) fun cv' h4 hp => ?_
      rw [← List.map_append, ex, ← alCells_snoc] at hp
      exact hs _ _ (hp.re 3 [0, 2])
    refine ifV_cases (fun c2 => ?_) fun c2 => ?_
    · obtain ⟨x, hx⟩ : ∃ x, values[i]? = some x := ⟨_, List.getElem?_eq_getElem (by omega)⟩
      obtain ⟨p, e1, e2⟩ := int_get (rv.le (baseP.le hp.tail)) hx
      refine bnd_of e1 (bnd_of e2 (bnd_of (binV_and_mask x 2 (by decide) (by decide)) ?_))
      (repeat first|(with_reducible first|refine wA ?_|refine wB ?_|refine wC ?_|refine wD ?_|refine wE ?_|refine wF ?_|refine wG ?_|refine wH ?_|refine wI ?_|refine wJ ?_|refine wN ?_|refine wT ?_|refine wU ?_)|((with_reducible refine isB ?_);first|refine wK rfl ?_|refine ld0 hp rfl ?_|refine ld1 hp rfl ?_|refine ld2 hp rfl ?_|refine ld3 hp rfl ?_|refine wP ?_|refine wQ ?_|refine wR ?_)|((with_reducible refine isIf ?_);first|refine wV ?_|refine wW ?_)|((with_reducible refine isHl ?_);first|refine hl0 hp rfl ?_|refine hl1 hp rfl ?_|refine hl2 hp rfl ?_|refine hl3 hp rfl ?_))
      refine step _ ?_ _ fun v' h' hp => ?_
      · unfold vAt; rw [List.getD_eq_getElem?_getD, hx]; rfl
      (repeat first|(with_reducible first|refine wA ?_|refine wB ?_|refine wC ?_|refine wD ?_|refine wE ?_|refine wF ?_|refine wG ?_|refine wH ?_|refine wI ?_|refine wJ ?_|refine wN ?_|refine wT ?_|refine wU ?_)|((with_reducible refine isB ?_);first|refine wK rfl ?_|refine ld0 hp rfl ?_|refine ld1 hp rfl ?_|refine ld2 hp rfl ?_|refine ld3 hp rfl ?_|refine wP ?_|refine wQ ?_|refine wR ?_)|((with_reducible refine isIf ?_);first|refine wV ?_|refine wW ?_)|((with_reducible refine isHl ?_);first|refine hl0 hp rfl ?_|refine hl1 hp rfl ?_|refine hl2 hp rfl ?_|refine hl3 hp rfl ?_))
      exact again (i + 1, v') _ ⟨by simp only; omega, hp⟩ (by simp only; omega)
    · (repeat first|(with_reducible first|refine wA ?_|refine wB ?_|refine wC ?_|refine wD ?_|refine wE ?_|refine wF ?_|refine wG ?_|refine wH ?_|refine wI ?_|refine wJ ?_|refine wN ?_|refine wT ?_|refine wU ?_)|((with_reducible refine isB ?_);first|refine wK rfl ?_|refine ld0 hp rfl ?_|refine ld1 hp rfl ?_|refine ld2 hp rfl ?_|refine ld3 hp rfl ?_|refine wP ?_|refine wQ ?_|refine wR ?_)|((with_reducible refine isIf ?_);first|refine wV ?_|refine wW ?_)|((with_reducible refine isHl ?_);first|refine hl0 hp rfl ?_|refine hl1 hp rfl ?_|refine hl2 hp rfl ?_|refine hl3 hp rfl ?_))
      refine step _ ?_ _ fun v' h' hp => ?_
      · unfold vAt; rw [List.getD_eq_getElem?_getD, List.getElem?_eq_none (by omega)]; rfl
      (repeat first|(with_reducible first|refine wA ?_|refine wB ?_|refine wC ?_|refine wD ?_|refine wE ?_|refine wF ?_|refine wG ?_|refine wH ?_|refine wI ?_|refine wJ ?_|refine wN ?_|refine wT ?_|refine wU ?_)|((with_reducible refine isB ?_);first|refine wK rfl ?_|refine ld0 hp rfl ?_|refine ld1 hp rfl ?_|refine ld2 hp rfl ?_|refine ld3 hp rfl ?_|refine wP ?_|refine wQ ?_|refine wR ?_)|((with_reducible refine isIf ?_);first|refine wV ?_|refine wW ?_)|((with_reducible refine isHl ?_);first|refine hl0 hp rfl ?_|refine hl1 hp rfl ?_|refine hl2 hp rfl ?_|refine hl3 hp rfl ?_))
      exact again (i + 1, v') _ ⟨by simp only; omega, hp⟩ (by simp only; omega)
  have hi16 : i = 16 := by omega
  subst hi16
  clear again
  generalize hcs : alCells values 16 = cells at hp
  have hcl : cells.length = 16 := by rw [← hcs]; exact alCells_len _ _
  have hcg : ∀ j : Nat, j < 16 → cells.getD j 0 = vAt values j * 4 := fun j hj => by rw [← hcs]; exact alCells_get _ hj
  have hvr : ∀ j, 0 ≤ vAt values j ∧ vAt values j < 4 := fun j => by unfold vAt; omega
  refine Lfp_fam (ι := Nat × Int × Value × List Sw) (fun p => [sv, i64 thread, i64 seq, cv, p.2.2.1, i64 p.2.1, i64 p.1]) (fun p h' => p.1 ≤ ss.length ∧ 0 ≤ p.2.1 ∧ p.2.1 ≤ 20 ∧ p.2.2.2 ++ alRow p.2.1 (ss.drop p.1) = alRow 0 ss ∧ All (rowP 3 p.2.2.1 (p.2.2.2.map encS) :: rowP 1 cv (cells.map encI) :: [baseP g]) h') (fun p => ss.length - p.1) ?_ (0, 0, .slice none 0 0, []) h2 ⟨by omega, by simp, by simp, rfl, hp.emp_cons (rowP_nil _ _)⟩
  rintro ⟨i, next, rw_, done⟩ h3 Y ⟨hi, hn0, hn20, hrow, hp⟩ again
  simp only at hi hn0 hn20 hrow hp
  simp only [tup_zero, tup_succ]
  have key : alRow next (ss.drop i) = [] → S3_j2 (tup [vv, sv, i64 thread, i64 seq, cv, i64 (16 : Nat)]) (tup [sv, i64 thread, i64 seq, cv, rw_, i64 next, i64 i]) (i64 thread) (i64 seq) cv rw_ h3 K X Y := by
    intro hend
    rw [hend, List.append_nil] at hrow
    have hm : swOk (-1) done = true := by
      rw [hrow]
      have := alRow_ok (ss := ss) (next := 0) (by decide)
      exact this
    clear again hrow hend
    unfold S3_j2
    obtain ⟨sa, sc, _, rfl, _⟩ := hp.row
    refine bs0 (size := 1) hp [[.slice sa (done.map encS).length sc]] rfl rfl (by simp) (fun c hc => by rw [List.mem_singleton.1 hc]; exact ⟨rfl, rfl⟩) fun dv h4 hp => ?_
    have may := swMay_of hm
    have hcr : ∀ x ∈ cells, I64 x := fun x hx => by
      obtain ⟨j, hj, e⟩ := List.mem_iff_getElem.1 hx
      have := hcg j (by omega)
      rw [List.getD_eq_getElem?_getD, List.getElem?_eq_getElem hj, e] at this
      have hv := hvr j
      simp only [Option.getD_some] at this
      constructor <;> omega
    refine T_shelf (us := [.slice sa (done.map encS).length sc]) (cells := cells) (dss := [done]) hp (fun h' hp => (hp.up 2).rows) (fun h' hp => ⟨hp.rows, .cons (hp.up 1).rows .nil⟩) hcr fun a b h5 hp => ?_
    obtain ⟨hA, hcell, hdsc⟩ := shelf_view (cells := cells) (dss := [done]) hcr
    have D : Dsc (shelfA cells [done]) ((0 : Nat) : Int) 1 0 done := hdsc 0 done (by decide) rfl may
    generalize shelfA cells [done] = A at hp hA hcell D
    have hat : ∀ j : Nat, j < 16 → A.at j = cells.getD j 0 := fun j hj => hcell j (by omega) (by omega)
    (repeat first|(with_reducible first|refine wA ?_|refine wB ?_|refine wC ?_|refine wD ?_|refine wE ?_|refine wF ?_|refine wG ?_|refine wH ?_|refine wI ?_|refine wJ ?_|refine wN ?_|refine wT ?_|refine wU ?_)|((with_reducible refine isB ?_);first|refine wK rfl ?_|refine ld0 hp rfl ?_|refine ld1 hp rfl ?_|refine ld2 hp rfl ?_|refine ld3 hp rfl ?_|refine wP ?_|refine wQ ?_|refine wR ?_)|((with_reducible refine isIf ?_);first|refine wV ?_|refine wW ?_)|((with_reducible refine isHl ?_);first|refine hl0 hp rfl ?_|refine hl1 hp rfl ?_|refine hl2 hp rfl ?_|refine hl3 hp rfl ?_))
    refine bnd_of (binV_and_mask thread 2 (by decide) (by decide)) (bnd_of (binV_and_mask seq 20 (by decide) (by decide)) ?_)
    refine T_mine (by decide) (by decide) ?_
    have t0 : 0 ≤ thread % ((2 ^ 2 : Nat) : Int) := by omega
    have t1 : thread % ((2 ^ 2 : Nat) : Int) < 4 := by omega
    have q0 : 0 ≤ seq % ((2 ^ 20 : Nat) : Int) := by omega
    have q1 : seq % ((2 ^ 20 : Nat) : Int) < 1048576 := by omega
    refine T_NewMine hp (by decide) (by decide) t0 t1 q0 q1 fun b' h6 hp => ?_
    (repeat first|(with_reducible first|refine wA ?_|refine wB ?_|refine wC ?_|refine wD ?_|refine wE ?_|refine wF ?_|refine wG ?_|refine wH ?_|refine wI ?_|refine wJ ?_|refine wN ?_|refine wT ?_|refine wU ?_)|((with_reducible refine isB ?_);first|refine wK rfl ?_|refine ld0 hp rfl ?_|refine ld1 hp rfl ?_|refine ld2 hp rfl ?_|refine ld3 hp rfl ?_|refine wP ?_|refine wQ ?_|refine wR ?_)|((with_reducible refine isIf ?_);first|refine wV ?_|refine wW ?_)|((with_reducible refine isHl ?_);first|refine hl0 hp rfl ?_|refine hl1 hp rfl ?_|refine hl2 hp rfl ?_|refine hl3 hp rfl ?_))
    refine T_Num ?_
    (repeat first|(with_reducible first|refine wA ?_|refine wB ?_|refine wC ?_|refine wD ?_|refine wE ?_|refine wF ?_|refine wG ?_|refine wH ?_|refine wI ?_|refine wJ ?_|refine wN ?_|refine wT ?_|refine wU ?_)|((with_reducible refine isB ?_);first|refine wK rfl ?_|refine ld0 hp rfl ?_|refine ld1 hp rfl ?_|refine ld2 hp rfl ?_|refine ld3 hp rfl ?_|refine wP ?_|refine wQ ?_|refine wR ?_)|((with_reducible refine isIf ?_);first|refine wV ?_|refine wW ?_)|((with_reducible refine isHl ?_);first|refine hl0 hp rfl ?_|refine hl1 hp rfl ?_|refine hl2 hp rfl ?_|refine hl3 hp rfl ?_))
    obtain ⟨H', A', m', hruns, hH', hA', hwon, hfin⟩ := alone_ends (t := thread % ((2 ^ 2 : Nat) : Int)) (q := seq % ((2 ^ 20 : Nat) : Int)) hA hm D hcl hat (fun j hj => ⟨vAt values j, hcg j hj, (hvr j).1, by have := (hvr j).2; omega⟩) t0 t1 q0 q1
    have hfo := fresh_ok (s := 0) (by decide) (by decide) t0 t1 q0 q1
    replace hp : All (helpP b' (Help.fresh (thread % ((2 ^ 2 : Nat) : Int)) (seq % ((2 ^ 20 : Nat) : Int)) 0) :: arP 110 a A :: rowP 3 _ (done.map encS) :: rowP 1 cv (cells.map encI) :: [baseP g]) h6 := hp.re 7 [0, 1, 4, 5, 6]
    unfold S3_j3
    generalize Help.fresh (thread % ((2 ^ 2 : Nat) : Int)) (seq % ((2 ^ 20 : Nat) : Int)) 0 = H0 at hp hruns hfo
    refine Lfp_fam (ι := Nat × Help × Ar × Bool × Nat) (fun p => [cv, .slice sa (done.map encS).length sc, ptr a, ptr b', .bool p.2.2.2.1, i64 p.1]) (fun p h' => p.1 ≤ 200 ∧ p.2.1.ok ∧ p.2.2.1.ok ∧ runs (200 - p.1) p.2.1 p.2.2.1 p.2.2.2.1 p.2.2.2.2 = some (H', A', true, m') ∧ All (helpP b' p.2.1 :: arP 110 a p.2.2.1 :: rowP 3 (.slice sa (done.map encS).length sc) (done.map encS) :: rowP 1 cv (cells.map encI) :: [baseP g]) h') (fun p => 200 - p.1) ?_ (0, H0, A, false, 0) h6 ⟨by omega, hfo, hA, hruns, hp⟩
    clear hruns hp
    rintro ⟨i, G, B, ov, k⟩ h7 Z ⟨hi, hG, hB, hq, hp⟩ again
    simp only at hi hG hB hq hp
    simp only [tup_zero, tup_succ]
    have key2 : (G, B, ov, k) = (H', A', true, m') → ∀ s1 s2 s3 X Y Z, S3_j5 s1 s2 s3 cv (.slice sa (done.map encS).length sc) (ptr a) (ptr b') (.bool ov) h7 K X Y Z := by
      intro e s1 s2 s3 X Y Z
      cases e
      clear again
      unfold S3_j5
      have hdl : done.length ≤ 16 := sw_len may
      refine Lfp_fam (ι := Nat) (fun i => [cv, .slice sa (done.map encS).length sc, ptr a, ptr b', .bool true, .bool (asWas cells (done.take i)), i64 i]) (fun i h' => i ≤ done.length ∧ h' = h7) (fun i => done.length - i) ?_ 0 h7 ⟨by omega, rfl⟩
      rintro i h8 W ⟨hi, rfl⟩ again
      simp only [tup_zero, tup_succ]
      have hrs : rowsAt h8 3 (.slice sa (done.map encS).length sc) (done.map encS) := (hp.up 2).rows
      have hrc : rowsAt h8 1 cv (cells.map encI) := (hp.up 3).rows
      refine bnd_of rfl ?_
      rw [List.length_map]
      (repeat first|(with_reducible first|refine wA ?_|refine wB ?_|refine wC ?_|refine wD ?_|refine wE ?_|refine wF ?_|refine wG ?_|refine wH ?_|refine wI ?_|refine wJ ?_|refine wN ?_|refine wT ?_|refine wU ?_)|((with_reducible refine isB ?_);first|refine wK rfl ?_|refine ld0 hp rfl ?_|refine ld1 hp rfl ?_|refine ld2 hp rfl ?_|refine ld3 hp rfl ?_|refine wP ?_|refine wQ ?_|refine wR ?_)|((with_reducible refine isIf ?_);first|refine wV ?_|refine wW ?_)|((with_reducible refine isHl ?_);first|refine hl0 hp rfl ?_|refine hl1 hp rfl ?_|refine hl2 hp rfl ?_|refine hl3 hp rfl ?_))
      refine ifV_cases (fun c => ?_) fun c => ?_
      · obtain ⟨s, hs⟩ : ∃ s, done[i]? = some s := ⟨_, List.getElem?_eq_getElem (by omega)⟩
        obtain ⟨m0, m1, m2, m3, m4, m5⟩ := sw_mem may hs
        have hsnoc : asWas cells (done.take (i + 1)) = (asWas cells (done.take i) && decide (cells.getD s.c.toNat 0 = 4 * s.w)) := by
          unfold asWas
          rw [List.take_add_one, hs, List.all_append]
          simp
        have hnx : W (tup [cv, .slice sa done.length sc, ptr a, ptr b', .bool true, .bool (asWas cells (done.take (i + 1))), i64 ((i : Int) + 1)]) h8 := by
          have := again (i + 1) h8 ⟨by omega, rfl⟩ (by omega)
          rw [List.length_map] at this
          exact this
        refine ifV_bool (fun cw => ?_) fun cw => ?_
        · obtain ⟨bb, oo, e0, e1, e2, e3⟩ := sw_fld hrs hs
          rw [List.length_map] at e0
          refine bnd_of e0 ?_
          (repeat first|(with_reducible first|refine wA ?_|refine wB ?_|refine wC ?_|refine wD ?_|refine wE ?_|refine wF ?_|refine wG ?_|refine wH ?_|refine wI ?_|refine wJ ?_|refine wN ?_|refine wT ?_|refine wU ?_)|((with_reducible refine isB ?_);first|refine wK rfl ?_|refine ld0 hp rfl ?_|refine ld1 hp rfl ?_|refine ld2 hp rfl ?_|refine ld3 hp rfl ?_|refine wP ?_|refine wQ ?_|refine wR ?_)|((with_reducible refine isIf ?_);first|refine wV ?_|refine wW ?_)|((with_reducible refine isHl ?_);first|refine hl0 hp rfl ?_|refine hl1 hp rfl ?_|refine hl2 hp rfl ?_|refine hl3 hp rfl ?_))
          refine bnd_of e1 ?_
          obtain ⟨x, hx⟩ : ∃ x, cells[s.c.toNat]? = some x := ⟨_, List.getElem?_eq_getElem (by omega)⟩
          obtain ⟨p, e4, e5⟩ := int_get hrc hx
          rw [show ((s.c.toNat : Nat) : Int) = s.c by omega] at e4
          refine bnd_of e4 (bnd_of e5 (bnd_of e0 ?_))
          (repeat first|(with_reducible first|refine wA ?_|refine wB ?_|refine wC ?_|refine wD ?_|refine wE ?_|refine wF ?_|refine wG ?_|refine wH ?_|refine wI ?_|refine wJ ?_|refine wN ?_|refine wT ?_|refine wU ?_)|((with_reducible refine isB ?_);first|refine wK rfl ?_|refine ld0 hp rfl ?_|refine ld1 hp rfl ?_|refine ld2 hp rfl ?_|refine ld3 hp rfl ?_|refine wP ?_|refine wQ ?_|refine wR ?_)|((with_reducible refine isIf ?_);first|refine wV ?_|refine wW ?_)|((with_reducible refine isHl ?_);first|refine hl0 hp rfl ?_|refine hl1 hp rfl ?_|refine hl2 hp rfl ?_|refine hl3 hp rfl ?_))
          refine bnd_of e2 ?_
          (repeat first|(with_reducible first|refine wA ?_|refine wB ?_|refine wC ?_|refine wD ?_|refine wE ?_|refine wF ?_|refine wG ?_|refine wH ?_|refine wI ?_|refine wJ ?_|refine wN ?_|refine wT ?_|refine wU ?_)|((with_reducible refine isB ?_);first|refine wK rfl ?_|refine ld0 hp rfl ?_|refine ld1 hp rfl ?_|refine ld2 hp rfl ?_|refine ld3 hp rfl ?_|refine wP ?_|refine wQ ?_|refine wR ?_)|((with_reducible refine isIf ?_);first|refine wV ?_|refine wW ?_)|((with_reducible refine isHl ?_);first|refine hl0 hp rfl ?_|refine hl1 hp rfl ?_|refine hl2 hp rfl ?_|refine hl3 hp rfl ?_))
          rw [hsnoc, cw, Bool.true_and, List.getD_eq_getElem?_getD, hx] at hnx
          exact hnx
        · (repeat first|(with_reducible first|refine wA ?_|refine wB ?_|refine wC ?_|refine wD ?_|refine wE ?_|refine wF ?_|refine wG ?_|refine wH ?_|refine wI ?_|refine wJ ?_|refine wN ?_|refine wT ?_|refine wU ?_)|((with_reducible refine isB ?_);first|refine wK rfl ?_|refine ld0 hp rfl ?_|refine ld1 hp rfl ?_|refine ld2 hp rfl ?_|refine ld3 hp rfl ?_|refine wP ?_|refine wQ ?_|refine wR ?_)|((with_reducible refine isIf ?_);first|refine wV ?_|refine wW ?_)|((with_reducible refine isHl ?_);first|refine hl0 hp rfl ?_|refine hl1 hp rfl ?_|refine hl2 hp rfl ?_|refine hl3 hp rfl ?_))
          rw [hsnoc, cw, Bool.false_and] at hnx
          exact hnx
      · have hid : i = done.length := by omega
        subst hid
        rw [List.take_length]
        clear again
        refine Lfp_fam (ι := Nat) (fun i => [cv, .slice sa done.length sc, ptr a, ptr b', .bool true, .bool (asWas cells done), i64 i]) (fun i h' => i ≤ done.length ∧ (asWas cells done = false → i = 0) ∧ All (helpP b' H' :: arP 110 a A' :: rowP 3 (.slice sa done.length sc) (done.map encS) :: rowP 1 cv ((turned cells (done.take i)).map encI) :: [baseP g]) h') (fun i => done.length - i) ?_ 0 h8 ⟨by omega, fun _ => rfl, by rw [List.length_map] at hp; exact hp⟩
        rintro i h9 V ⟨hi, hi0, hp⟩ again
        simp only [tup_zero, tup_succ]
        have fin : (asWas cells done = true → i = done.length) → ∀ s1 s2 s3 s4 s5 a1 a2 a3 a4 a5, S3_j7 s1 s2 s3 s4 s5 cv (ptr a) (ptr b') (.bool true) (.bool (asWas cells done)) h9 K a1 a2 a3 a4 a5 := by
          intro hid s1 s2 s3 s4 s5 a1 a2 a3 a4 a5
          unfold S3_j7
          refine T_All (hp.up 1) fun av h10 hp => ?_
          (repeat first|(with_reducible first|refine wA ?_|refine wB ?_|refine wC ?_|refine wD ?_|refine wE ?_|refine wF ?_|refine wG ?_|refine wH ?_|refine wI ?_|refine wJ ?_|refine wN ?_|refine wT ?_|refine wU ?_)|((with_reducible refine isB ?_);first|refine wK rfl ?_|refine ld0 hp rfl ?_|refine ld1 hp rfl ?_|refine ld2 hp rfl ?_|refine ld3 hp rfl ?_|refine wP ?_|refine wQ ?_|refine wR ?_)|((with_reducible refine isIf ?_);first|refine wV ?_|refine wW ?_)|((with_reducible refine isHl ?_);first|refine hl0 hp rfl ?_|refine hl1 hp rfl ?_|refine hl2 hp rfl ?_|refine hl3 hp rfl ?_))
          refine T_Won (hp.up 2) ?_
          rw [hwon]
          (repeat first|(with_reducible first|refine wA ?_|refine wB ?_|refine wC ?_|refine wD ?_|refine wE ?_|refine wF ?_|refine wG ?_|refine wH ?_|refine wI ?_|refine wJ ?_|refine wN ?_|refine wT ?_|refine wU ?_)|((with_reducible refine isB ?_);first|refine wK rfl ?_|refine ld0 hp rfl ?_|refine ld1 hp rfl ?_|refine ld2 hp rfl ?_|refine ld3 hp rfl ?_|refine wP ?_|refine wQ ?_|refine wR ?_)|((with_reducible refine isIf ?_);first|refine wV ?_|refine wW ?_)|((with_reducible refine isHl ?_);first|refine hl0 hp rfl ?_|refine hl1 hp rfl ?_|refine hl2 hp rfl ?_|refine hl3 hp rfl ?_))
          rw [beq_self_eq_true]
          (repeat first|(with_reducible first|refine wA ?_|refine wB ?_|refine wC ?_|refine wD ?_|refine wE ?_|refine wF ?_|refine wG ?_|refine wH ?_|refine wI ?_|refine wJ ?_|refine wN ?_|refine wT ?_|refine wU ?_)|((with_reducible refine isB ?_);first|refine wK rfl ?_|refine ld0 hp rfl ?_|refine ld1 hp rfl ?_|refine ld2 hp rfl ?_|refine ld3 hp rfl ?_|refine wP ?_|refine wQ ?_|refine wR ?_)|((with_reducible refine isIf ?_);first|refine wV ?_|refine wW ?_)|((with_reducible refine isHl ?_);first|refine hl0 hp rfl ?_|refine hl1 hp rfl ?_|refine hl2 hp rfl ?_|refine hl3 hp rfl ?_))
          refine bnd_of hp.len ?_
          rw [List.length_map, hA'.words]
          (repeat first|(with_reducible first|refine wA ?_|refine wB ?_|refine wC ?_|refine wD ?_|refine wE ?_|refine wF ?_|refine wG ?_|refine wH ?_|refine wI ?_|refine wJ ?_|refine wN ?_|refine wT ?_|refine wU ?_)|((with_reducible refine isB ?_);first|refine wK rfl ?_|refine ld0 hp rfl ?_|refine ld1 hp rfl ?_|refine ld2 hp rfl ?_|refine ld3 hp rfl ?_|refine wP ?_|refine wQ ?_|refine wR ?_)|((with_reducible refine isIf ?_);first|refine wV ?_|refine wW ?_)|((with_reducible refine isHl ?_);first|refine hl0 hp rfl ?_|refine hl1 hp rfl ?_|refine hl2 hp rfl ?_|refine hl3 hp rfl ?_))
          have hcs2 : turned cells (done.take i) = if asWas cells done = true then turned cells done else cells := by
            cases e : asWas cells done with
            | true => rw [hid e, List.take_length, if_pos rfl]
            | false => rw [hi0 e, if_neg (by decide)]; rfl
          refine T_cellsSame hp (All.rows (hp.up 4)) hA' (by rw [turned_len]; exact hcl) (fun j hj => by rw [hcs2]; exact hfin j hj) (hK _)
        have hrs : rowsAt h9 3 (.slice sa done.length sc) (done.map encS) := (hp.up 2).rows
        refine bnd_of rfl ?_
        (repeat first|(with_reducible first|refine wA ?_|refine wB ?_|refine wC ?_|refine wD ?_|refine wE ?_|refine wF ?_|refine wG ?_|refine wH ?_|refine wI ?_|refine wJ ?_|refine wN ?_|refine wT ?_|refine wU ?_)|((with_reducible refine isB ?_);first|refine wK rfl ?_|refine ld0 hp rfl ?_|refine ld1 hp rfl ?_|refine ld2 hp rfl ?_|refine ld3 hp rfl ?_|refine wP ?_|refine wQ ?_|refine wR ?_)|((with_reducible refine isIf ?_);first|refine wV ?_|refine wW ?_)|((with_reducible refine isHl ?_);first|refine hl0 hp rfl ?_|refine hl1 hp rfl ?_|refine hl2 hp rfl ?_|refine hl3 hp rfl ?_))
        refine ifV_cases (fun c => ?_) fun c => fin (fun _ => by omega) _ _ _ _ _ _ _ _ _ _
        refine ifV_bool (fun cw => ?_) fun cw => fin (fun e => by rw [e] at cw; cases cw) _ _ _ _ _ _ _ _ _ _
        unfold S3_j6
        obtain ⟨s, hs⟩ : ∃ s, done[i]? = some s := ⟨_, List.getElem?_eq_getElem (by omega)⟩
        obtain ⟨m0, m1, m2, m3, m4, m5⟩ := sw_mem may hs
        obtain ⟨bb, oo, e0, e1, e2, e3⟩ := sw_fld hrs hs
        refine bnd_of e0 ?_
        (repeat first|(with_reducible first|refine wA ?_|refine wB ?_|refine wC ?_|refine wD ?_|refine wE ?_|refine wF ?_|refine wG ?_|refine wH ?_|refine wI ?_|refine wJ ?_|refine wN ?_|refine wT ?_|refine wU ?_)|((with_reducible refine isB ?_);first|refine wK rfl ?_|refine ld0 hp rfl ?_|refine ld1 hp rfl ?_|refine ld2 hp rfl ?_|refine ld3 hp rfl ?_|refine wP ?_|refine wQ ?_|refine wR ?_)|((with_reducible refine isIf ?_);first|refine wV ?_|refine wW ?_)|((with_reducible refine isHl ?_);first|refine hl0 hp rfl ?_|refine hl1 hp rfl ?_|refine hl2 hp rfl ?_|refine hl3 hp rfl ?_))
        refine bnd_of e1 (bnd_of e0 ?_)
        (repeat first|(with_reducible first|refine wA ?_|refine wB ?_|refine wC ?_|refine wD ?_|refine wE ?_|refine wF ?_|refine wG ?_|refine wH ?_|refine wI ?_|refine wJ ?_|refine wN ?_|refine wT ?_|refine wU ?_)|((with_reducible refine isB ?_);first|refine wK rfl ?_|refine ld0 hp rfl ?_|refine ld1 hp rfl ?_|refine ld2 hp rfl ?_|refine ld3 hp rfl ?_|refine wP ?_|refine wQ ?_|refine wR ?_)|((with_reducible refine isIf ?_);first|refine wV ?_|refine wW ?_)|((with_reducible refine isHl ?_);first|refine hl0 hp rfl ?_|refine hl1 hp rfl ?_|refine hl2 hp rfl ?_|refine hl3 hp rfl ?_))
        refine bnd_of e3 ?_
        (repeat first|(with_reducible first|refine wA ?_|refine wB ?_|refine wC ?_|refine wD ?_|refine wE ?_|refine wF ?_|refine wG ?_|refine wH ?_|refine wI ?_|refine wJ ?_|refine wN ?_|refine wT ?_|refine wU ?_)|((with_reducible refine isB ?_);first|refine wK rfl ?_|refine ld0 hp rfl ?_|refine ld1 hp rfl ?_|refine ld2 hp rfl ?_|refine ld3 hp rfl ?_|refine wP ?_|refine wQ ?_|refine wR ?_)|((with_reducible refine isIf ?_);first|refine wV ?_|refine wW ?_)|((with_reducible refine isHl ?_);first|refine hl0 hp rfl ?_|refine hl1 hp rfl ?_|refine hl2 hp rfl ?_|refine hl3 hp rfl ?_))
        obtain ⟨x, hx⟩ : ∃ x, (turned cells (done.take i))[s.c.toNat]? = some x := ⟨_, List.getElem?_eq_getElem (by rw [turned_len]; omega)⟩
        obtain ⟨bb2, e4, _, _, est⟩ := All.elt (hp.up 3) (i := s.c.toNat) (c := [i64 x]) (by rw [List.getElem?_map, hx]; rfl) .i64
        rw [show ((s.c.toNat : Nat) : Int) = s.c by omega] at e4
        obtain ⟨h10, e5, hp5⟩ := est 0 1 (i64 (4 * s.n)) rfl (by decide) rfl
        refine bnd_of e4 (bnd_of e5 ?_)
        (repeat first|(with_reducible first|refine wA ?_|refine wB ?_|refine wC ?_|refine wD ?_|refine wE ?_|refine wF ?_|refine wG ?_|refine wH ?_|refine wI ?_|refine wJ ?_|refine wN ?_|refine wT ?_|refine wU ?_)|((with_reducible refine isB ?_);first|refine wK rfl ?_|refine ld0 hp rfl ?_|refine ld1 hp rfl ?_|refine ld2 hp rfl ?_|refine ld3 hp rfl ?_|refine wP ?_|refine wQ ?_|refine wR ?_)|((with_reducible refine isIf ?_);first|refine wV ?_|refine wW ?_)|((with_reducible refine isHl ?_);first|refine hl0 hp rfl ?_|refine hl1 hp rfl ?_|refine hl2 hp rfl ?_|refine hl3 hp rfl ?_))
        have e6 : ((turned cells (done.take i)).map encI).set s.c.toNat (setCells [i64 x] 0 (i64 (4 * s.n)).cells.toList) = (turned cells (done.take (i + 1))).map encI := by
          have : turned cells (done.take (i + 1)) = (turned cells (done.take i)).set s.c.toNat (4 * s.n) := by
            unfold turned
            rw [List.take_add_one, hs, List.foldl_append]; rfl
          rw [this, List.map_set]; rfl
        rw [e6] at hp5
        have hp6 : All (helpP b' H' :: arP 110 a A' :: rowP 3 (.slice sa done.length sc) (done.map encS) :: rowP 1 cv ((turned cells (done.take (i + 1))).map encI) :: [baseP g]) h10 := hp5.re 5 [1, 2, 3, 0, 4]
        exact again (i + 1) _ ⟨by omega, (fun e => by rw [e] at cw; cases cw), hp6⟩ (by omega)
    (repeat first|(with_reducible first|refine wA ?_|refine wB ?_|refine wC ?_|refine wD ?_|refine wE ?_|refine wF ?_|refine wG ?_|refine wH ?_|refine wI ?_|refine wJ ?_|refine wN ?_|refine wT ?_|refine wU ?_)|((with_reducible refine isB ?_);first|refine wK rfl ?_|refine ld0 hp rfl ?_|refine ld1 hp rfl ?_|refine ld2 hp rfl ?_|refine ld3 hp rfl ?_|refine wP ?_|refine wQ ?_|refine wR ?_)|((with_reducible refine isIf ?_);first|refine wV ?_|refine wW ?_)|((with_reducible refine isHl ?_);first|refine hl0 hp rfl ?_|refine hl1 hp rfl ?_|refine hl2 hp rfl ?_|refine hl3 hp rfl ?_))
    refine ifV_cases (fun c => ?_) fun c => ?_
    · cases ov with
      | true =>
        (repeat first|(with_reducible first|refine wA ?_|refine wB ?_|refine wC ?_|refine wD ?_|refine wE ?_|refine wF ?_|refine wG ?_|refine wH ?_|refine wI ?_|refine wJ ?_|refine wN ?_|refine wT ?_|refine wU ?_)|((with_reducible refine isB ?_);first|refine wK rfl ?_|refine ld0 hp rfl ?_|refine ld1 hp rfl ?_|refine ld2 hp rfl ?_|refine ld3 hp rfl ?_|refine wP ?_|refine wQ ?_|refine wR ?_)|((with_reducible refine isIf ?_);first|refine wV ?_|refine wW ?_)|((with_reducible refine isHl ?_);first|refine hl0 hp rfl ?_|refine hl1 hp rfl ?_|refine hl2 hp rfl ?_|refine hl3 hp rfl ?_))
        refine key2 ?_ _ _ _ _ _ _
        obtain ⟨n, hn⟩ : ∃ n, 200 - i = n + 1 := ⟨199 - i, by omega⟩
        rw [hn] at hq
        unfold runs at hq
        exact Option.some.inj hq
      | false =>
        (repeat first|(with_reducible first|refine wA ?_|refine wB ?_|refine wC ?_|refine wD ?_|refine wE ?_|refine wF ?_|refine wG ?_|refine wH ?_|refine wI ?_|refine wJ ?_|refine wN ?_|refine wT ?_|refine wU ?_)|((with_reducible refine isB ?_);first|refine wK rfl ?_|refine ld0 hp rfl ?_|refine ld1 hp rfl ?_|refine ld2 hp rfl ?_|refine ld3 hp rfl ?_|refine wP ?_|refine wQ ?_|refine wR ?_)|((with_reducible refine isIf ?_);first|refine wV ?_|refine wW ?_)|((with_reducible refine isHl ?_);first|refine hl0 hp rfl ?_|refine hl1 hp rfl ?_|refine hl2 hp rfl ?_|refine hl3 hp rfl ?_))
        unfold S3_j4
        obtain ⟨n, hn⟩ : ∃ n, 200 - i = n + 1 := ⟨199 - i, by omega⟩
        rw [hn] at hq
        unfold runs at hq
        simp only at hq
        refine T_Step (hp.up 1) hG fun h8 hp => ?_
        have hst := Help.step_ok hG hB
        split at hq
        · rename_i e0
          rw [e0]
          (repeat first|(with_reducible first|refine wA ?_|refine wB ?_|refine wC ?_|refine wD ?_|refine wE ?_|refine wF ?_|refine wG ?_|refine wH ?_|refine wI ?_|refine wJ ?_|refine wN ?_|refine wT ?_|refine wU ?_)|((with_reducible refine isB ?_);first|refine wK rfl ?_|refine ld0 hp rfl ?_|refine ld1 hp rfl ?_|refine ld2 hp rfl ?_|refine ld3 hp rfl ?_|refine wP ?_|refine wQ ?_|refine wR ?_)|((with_reducible refine isIf ?_);first|refine wV ?_|refine wW ?_)|((with_reducible refine isHl ?_);first|refine hl0 hp rfl ?_|refine hl1 hp rfl ?_|refine hl2 hp rfl ?_|refine hl3 hp rfl ?_))
          refine T_Num ?_
          (repeat first|(with_reducible first|refine wA ?_|refine wB ?_|refine wC ?_|refine wD ?_|refine wE ?_|refine wF ?_|refine wG ?_|refine wH ?_|refine wI ?_|refine wJ ?_|refine wN ?_|refine wT ?_|refine wU ?_)|((with_reducible refine isB ?_);first|refine wK rfl ?_|refine ld0 hp rfl ?_|refine ld1 hp rfl ?_|refine ld2 hp rfl ?_|refine ld3 hp rfl ?_|refine wP ?_|refine wQ ?_|refine wR ?_)|((with_reducible refine isIf ?_);first|refine wV ?_|refine wW ?_)|((with_reducible refine isHl ?_);first|refine hl0 hp rfl ?_|refine hl1 hp rfl ?_|refine hl2 hp rfl ?_|refine hl3 hp rfl ?_))
          refine again (i + 1, (G.step B).1, (G.step B).2.2, (G.step B).1.over, k + 1) _ ⟨by simp only; omega, hst.1, hst.2, ?_, hp.up 1⟩ (by simp only; omega)
          have en : 200 - (i + 1) = n := by omega
          simp only [en]; exact hq
        · cases hq
    · have : 200 - i = 0 := by omega
      rw [this] at hq
      unfold runs at hq
      exact key2 (Option.some.inj hq) _ _ _ _ _ _
  refine bnd_of hsl ?_
  (repeat first|(with_reducible first|refine wA ?_|refine wB ?_|refine wC ?_|refine wD ?_|refine wE ?_|refine wF ?_|refine wG ?_|refine wH ?_|refine wI ?_|refine wJ ?_|refine wN ?_|refine wT ?_|refine wU ?_)|((with_reducible refine isB ?_);first|refine wK rfl ?_|refine ld0 hp rfl ?_|refine ld1 hp rfl ?_|refine ld2 hp rfl ?_|refine ld3 hp rfl ?_|refine wP ?_|refine wQ ?_|refine wR ?_)|((with_reducible refine isIf ?_);first|refine wV ?_|refine wW ?_)|((with_reducible refine isHl ?_);first|refine hl0 hp rfl ?_|refine hl1 hp rfl ?_|refine hl2 hp rfl ?_|refine hl3 hp rfl ?_))
  refine ifV_cases (fun c => ?_) fun c => ?_
  · (repeat first|(with_reducible first|refine wA ?_|refine wB ?_|refine wC ?_|refine wD ?_|refine wE ?_|refine wF ?_|refine wG ?_|refine wH ?_|refine wI ?_|refine wJ ?_|refine wN ?_|refine wT ?_|refine wU ?_)|((with_reducible refine isB ?_);first|refine wK rfl ?_|refine ld0 hp rfl ?_|refine ld1 hp rfl ?_|refine ld2 hp rfl ?_|refine ld3 hp rfl ?_|refine wP ?_|refine wQ ?_|refine wR ?_)|((with_reducible refine isIf ?_);first|refine wV ?_|refine wW ?_)|((with_reducible refine isHl ?_);first|refine hl0 hp rfl ?_|refine hl1 hp rfl ?_|refine hl2 hp rfl ?_|refine hl3 hp rfl ?_))
    refine ifV_cases (fun c16 => ?_) fun c16 => key (by
      obtain ⟨s, hs⟩ : ∃ s, ss[i]? = some s := ⟨_, List.getElem?_eq_getElem (by omega)⟩
      rw [alRow_drop hs, alRow_cons, if_neg (by omega)])
    clear key
    unfold S3_j1
    obtain ⟨s, hs⟩ : ∃ s, ss[i]? = some s := ⟨_, List.getElem?_eq_getElem (by omega)⟩
    have hrs : rowsAt h3 3 sv (ss.map encS) := rs.le (baseP.le (hp.up 2))
    obtain ⟨bb, oo, e0, e1, e2, e3⟩ := sw_fld hrs hs
    rw [alRow_drop hs, alRow_cons, if_pos c16] at hrow
    refine bnd_of e0 ?_
    (repeat first|(with_reducible first|refine wA ?_|refine wB ?_|refine wC ?_|refine wD ?_|refine wE ?_|refine wF ?_|refine wG ?_|refine wH ?_|refine wI ?_|refine wJ ?_|refine wN ?_|refine wT ?_|refine wU ?_)|((with_reducible refine isB ?_);first|refine wK rfl ?_|refine ld0 hp rfl ?_|refine ld1 hp rfl ?_|refine ld2 hp rfl ?_|refine ld3 hp rfl ?_|refine wP ?_|refine wQ ?_|refine wR ?_)|((with_reducible refine isIf ?_);first|refine wV ?_|refine wW ?_)|((with_reducible refine isHl ?_);first|refine hl0 hp rfl ?_|refine hl1 hp rfl ?_|refine hl2 hp rfl ?_|refine hl3 hp rfl ?_))
    refine bnd_of e1 (bnd_of (binV_and_mask s.c 2 (by decide) (by decide)) ?_)
    have em : s.c % ((2 ^ 2 : Nat) : Int) = s.c % 4 := rfl
    rw [em]
    (repeat first|(with_reducible first|refine wA ?_|refine wB ?_|refine wC ?_|refine wD ?_|refine wE ?_|refine wF ?_|refine wG ?_|refine wH ?_|refine wI ?_|refine wJ ?_|refine wN ?_|refine wT ?_|refine wU ?_)|((with_reducible refine isB ?_);first|refine wK rfl ?_|refine ld0 hp rfl ?_|refine ld1 hp rfl ?_|refine ld2 hp rfl ?_|refine ld3 hp rfl ?_|refine wP ?_|refine wQ ?_|refine wR ?_)|((with_reducible refine isIf ?_);first|refine wV ?_|refine wW ?_)|((with_reducible refine isHl ?_);first|refine hl0 hp rfl ?_|refine hl1 hp rfl ?_|refine hl2 hp rfl ?_|refine hl3 hp rfl ?_))
    refine ifV_cases (fun c3 => ?_) fun c3 => ?_
    · rw [if_pos c3] at hrow
      refine bnd_of e0 ?_
      (repeat first|(with_reducible first|refine wA ?_|refine wB ?_|refine wC ?_|refine wD ?_|refine wE ?_|refine wF ?_|refine wG ?_|refine wH ?_|refine wI ?_|refine wJ ?_|refine wN ?_|refine wT ?_|refine wU ?_)|((with_reducible refine isB ?_);first|refine wK rfl ?_|refine ld0 hp rfl ?_|refine ld1 hp rfl ?_|refine ld2 hp rfl ?_|refine ld3 hp rfl ?_|refine wP ?_|refine wQ ?_|refine wR ?_)|((with_reducible refine isIf ?_);first|refine wV ?_|refine wW ?_)|((with_reducible refine isHl ?_);first|refine hl0 hp rfl ?_|refine hl1 hp rfl ?_|refine hl2 hp rfl ?_|refine hl3 hp rfl ?_))
      refine bnd_of e2 (bnd_of (binV_and_mask s.w 2 (by decide) (by decide)) (bnd_of e0 ?_))
      (repeat first|(with_reducible first|refine wA ?_|refine wB ?_|refine wC ?_|refine wD ?_|refine wE ?_|refine wF ?_|refine wG ?_|refine wH ?_|refine wI ?_|refine wJ ?_|refine wN ?_|refine wT ?_|refine wU ?_)|((with_reducible refine isB ?_);first|refine wK rfl ?_|refine ld0 hp rfl ?_|refine ld1 hp rfl ?_|refine ld2 hp rfl ?_|refine ld3 hp rfl ?_|refine wP ?_|refine wQ ?_|refine wR ?_)|((with_reducible refine isIf ?_);first|refine wV ?_|refine wW ?_)|((with_reducible refine isHl ?_);first|refine hl0 hp rfl ?_|refine hl1 hp rfl ?_|refine hl2 hp rfl ?_|refine hl3 hp rfl ?_))
      refine bnd_of e3 (bnd_of (binV_and_mask s.n 10 (by decide) (by decide)) ?_)
      (repeat first|(with_reducible first|refine wA ?_|refine wB ?_|refine wC ?_|refine wD ?_|refine wE ?_|refine wF ?_|refine wG ?_|refine wH ?_|refine wI ?_|refine wJ ?_|refine wN ?_|refine wT ?_|refine wU ?_)|((with_reducible refine isB ?_);first|refine wK rfl ?_|refine ld0 hp rfl ?_|refine ld1 hp rfl ?_|refine ld2 hp rfl ?_|refine ld3 hp rfl ?_|refine wP ?_|refine wQ ?_|refine wR ?_)|((with_reducible refine isIf ?_);first|refine wV ?_|refine wW ?_)|((with_reducible refine isHl ?_);first|refine hl0 hp rfl ?_|refine hl1 hp rfl ?_|refine hl2 hp rfl ?_|refine hl3 hp rfl ?_))
      have hdone : done.length ≤ 16 := by
        have h1 := alRow_ok (ss := ss) (next := 0) (by decide)
        rw [← hrow] at h1
        have h2 := sw_len (swMay_of h1)
        rw [List.length_append] at h2; omega
      refine bs0 (size := 3) hp ([Sw.mk (next + s.c % 4) (s.w % ((2 ^ 2 : Nat) : Int)) (s.n % ((2 ^ 10 : Nat) : Int))].map encS) rfl rfl (by simp) (encS_good _) fun xv h4 hp => ?_
      have hr := hp.rows
      refine ap0 (hp.up 1) hr (encS_good _) (by decide) (by rw [List.length_map]; simp; omega) fun rv' h5 hp => ?_
      (repeat first|(with_reducible first|refine wA ?_|refine wB ?_|refine wC ?_|refine wD ?_|refine wE ?_|refine wF ?_|refine wG ?_|refine wH ?_|refine wI ?_|refine wJ ?_|refine wN ?_|refine wT ?_|refine wU ?_)|((with_reducible refine isB ?_);first|refine wK rfl ?_|refine ld0 hp rfl ?_|refine ld1 hp rfl ?_|refine ld2 hp rfl ?_|refine ld3 hp rfl ?_|refine wP ?_|refine wQ ?_|refine wR ?_)|((with_reducible refine isIf ?_);first|refine wV ?_|refine wW ?_)|((with_reducible refine isHl ?_);first|refine hl0 hp rfl ?_|refine hl1 hp rfl ?_|refine hl2 hp rfl ?_|refine hl3 hp rfl ?_))
      rw [← List.map_append] at hp
      refine again (i + 1, next + s.c % 4 + 1, rv', done ++ [Sw.mk (next + s.c % 4) (s.w % ((2 ^ 2 : Nat) : Int)) (s.n % ((2 ^ 10 : Nat) : Int))]) _ ⟨by simp only; omega, by simp only; omega, by simp only; omega, ?_, hp.re 4 [0, 2, 3]⟩ (by simp only; omega)
      rw [List.append_assoc]; exact hrow
    · rw [if_neg c3] at hrow
      (repeat first|(with_reducible first|refine wA ?_|refine wB ?_|refine wC ?_|refine wD ?_|refine wE ?_|refine wF ?_|refine wG ?_|refine wH ?_|refine wI ?_|refine wJ ?_|refine wN ?_|refine wT ?_|refine wU ?_)|((with_reducible refine isB ?_);first|refine wK rfl ?_|refine ld0 hp rfl ?_|refine ld1 hp rfl ?_|refine ld2 hp rfl ?_|refine ld3 hp rfl ?_|refine wP ?_|refine wQ ?_|refine wR ?_)|((with_reducible refine isIf ?_);first|refine wV ?_|refine wW ?_)|((with_reducible refine isHl ?_);first|refine hl0 hp rfl ?_|refine hl1 hp rfl ?_|refine hl2 hp rfl ?_|refine hl3 hp rfl ?_))
      exact again (i + 1, next + s.c % 4 + 1, rw_, done) _ ⟨by simp only; omega, by simp only; omega, by simp only; omega, hrow, hp⟩ (by simp only; omega)
  · have hie : i = ss.length := by omega
    refine key ?_
    subst hie
    rw [List.drop_length]; rfl
end
end Go.Proofs.Ytfcignalfdifnaa
namespace Go.Proofs.Ytfcignalfdifnaa
open Go GW Go.Proofs
attribute [local irreducible] bnd ldV stV ifV binV eqI
set_option linter.unusedVariables false
set_option linter.unusedSimpArgs false
set_option maxRecDepth 20000
def Sw.flip (s : Sw) : Sw := ⟨s.c, s.n, s.w⟩
theorem swOk_flip : ∀ {ds : List Sw} {last : Int}, swOk last ds = true → swOk last (ds.map Sw.flip) = true := by
  intro ds
  induction ds with
  | nil => intro last h; exact h
  | cons d ds ih =>
    intro last h
    unfold swOk at h
    rw [Bool.and_eq_true, decide_eq_true_eq] at h
    obtain ⟨⟨a1, a2, a3, a4, a5, a6⟩, a7⟩ := h
    rw [List.map_cons]
    unfold swOk
    rw [Bool.and_eq_true, decide_eq_true_eq]
    exact ⟨⟨a1, a2, a5, a6, a3, a4⟩, ih a7⟩
/-- cells that are as the entries say that they were -/
def wasCells (cells : List Int) (rows : List Sw) : List Int := turned cells (rows.map Sw.flip)
theorem wasCells_len {cells : List Int} {rows : List Sw} : (wasCells cells rows).length = cells.length := turned_len
theorem wasCells_at {rows : List Sw} {cells : List Int} (h : swOk (-1) rows = true) (hl : cells.length = 16) {s : Sw} (hs : s ∈ rows) : (wasCells cells rows).getD s.c.toNat 0 = 4 * s.w :=
  turned_at (swOk_flip h) (by decide) hl s.flip (List.mem_map.2 ⟨s, hs, rfl⟩)
theorem wasCells_snoc {rows : List Sw} {cells : List Int} {s : Sw} : wasCells cells (rows ++ [s]) = (wasCells cells rows).set s.c.toNat (4 * s.w) := by
  unfold wasCells turned
  rw [List.map_append, List.foldl_append]; rfl
theorem wasCells_val {rows : List Sw} : ∀ {cells : List Int} {last : Int}, swOk last rows = true → (∀ j : Nat, ∃ v, cells.getD j 0 = v * 4 ∧ 0 ≤ v ∧ v < 1099511627776) → ∀ j : Nat, ∃ v, (wasCells cells rows).getD j 0 = v * 4 ∧ 0 ≤ v ∧ v < 1099511627776 := by
  induction rows with
  | nil => intro cells last _ h; exact h
  | cons s r ih =>
    intro cells last h hc
    unfold swOk at h
    rw [Bool.and_eq_true, decide_eq_true_eq] at h
    obtain ⟨⟨a1, a2, a3, a4, a5, a6⟩, a7⟩ := h
    refine ih (cells := cells.set s.c.toNat (4 * s.w)) a7 fun j => ?_
    rw [List.getD_eq_getElem?_getD, List.getElem?_set]
    split
    · split
      · exact ⟨s.w, by simp only [Option.getD_some]; omega, a3, a4⟩
      · exact ⟨0, by simp, by decide, by decide⟩
    · rw [← List.getD_eq_getElem?_getD]; exact hc j
theorem zeros_val (j : Nat) : ∃ v, (List.replicate 16 (0 : Int)).getD j 0 = v * 4 ∧ 0 ≤ v ∧ v < 1099511627776 := by
  refine ⟨0, ?_, by decide, by decide⟩
  rw [List.getD_eq_getElem?_getD, List.getElem?_replicate]
  split <;> rfl
def stRow : Int → List Sw → List Sw
  | _, [] => []
  | next, s :: r => if next < 16 then ⟨next, s.w % 8, s.n % 8⟩ :: stRow (next + 1 + s.c % 2) r else []
theorem stRow_cons (next : Int) (s : Sw) (r : List Sw) : stRow next (s :: r) = if next < 16 then ⟨next, s.w % 8, s.n % 8⟩ :: stRow (next + 1 + s.c % 2) r else [] := rfl
theorem swOk_weaken {ds : List Sw} {a b : Int} (h : swOk b ds = true) (hab : a ≤ b) : swOk a ds = true := by
  cases ds with
  | nil => rfl
  | cons d ds =>
    unfold swOk at h ⊢
    rw [Bool.and_eq_true, decide_eq_true_eq] at h ⊢
    obtain ⟨⟨a1, a2⟩, a3⟩ := h
    exact ⟨⟨by omega, a2⟩, a3⟩
theorem stRow_ok : ∀ {ss : List Sw} {next : Int}, 0 ≤ next → swOk (next - 1) (stRow next ss) = true := by
  intro ss
  induction ss with
  | nil => intro next _; rfl
  | cons s r ih =>
    intro next h
    rw [stRow_cons]
    split
    · unfold swOk
      rw [Bool.and_eq_true, decide_eq_true_eq]
      exact ⟨⟨by simp only; omega, by simp only; omega, by simp only; omega, by simp only; omega, by simp only; omega, by simp only; omega⟩, swOk_weaken (ih (next := next + 1 + s.c % 2) (by omega)) (by simp only; omega)⟩
    · rfl
theorem zeros_enc : List.replicate 16 [Value.int .i64 0] = (List.replicate 16 (0 : Int)).map encI := by rw [List.map_replicate]; rfl
section
variable {R : List Part} {h : GH} {K : Value → GH → Prop}
theorem T_HelpSteps {g : GH} {sv : Value} {ss : List Sw} {seq : Int} (hp : All [baseP g] h) (rs : rowsAt g 3 sv (ss.map encS)) (hK : ∀ h', K (.bool true) h') : T Try.prog 9 [sv, i64 seq] h K := by
  apply S9_T
  unfold S9
  refine T_awake hp fun h1 hp => ?_
  (repeat first|(with_reducible first|refine wA ?_|refine wB ?_|refine wC ?_|refine wD ?_|refine wE ?_|refine wF ?_|refine wG ?_|refine wH ?_|refine wI ?_|refine wJ ?_|refine wN ?_|refine wT ?_|refine wU ?_)|((with_reducible refine isB ?_);first|refine wK rfl ?_|refine ld0 hp rfl ?_|refine ld1 hp rfl ?_|refine ld2 hp rfl ?_|refine ld3 hp rfl ?_|refine wP ?_|refine wQ ?_|refine wR ?_)|((with_reducible refine isIf ?_);first|refine wV ?_|refine wW ?_)|((with_reducible refine isHl ?_);first|refine hl0 hp rfl ?_|refine hl1 hp rfl ?_|refine hl2 hp rfl ?_|refine hl3 hp rfl ?_))
  have hsl : lnV sv = some (i64 ss.length) := by have := rs.len; rw [List.length_map] at this; exact this
  have hsm : ss.length ≤ 9223372036854775807 := by have := rs.max; rw [List.length_map] at this; exact this
  refine mk0 (size := 1) (bytes := 8) (zero := [.int .i64 0]) (n := 16) hp ⟨rfl, rfl⟩ (by decide) (by decide) fun cv h2 hp => ?_
  rw [zeros_enc] at hp
  refine Lfp_fam (ι := Nat × Int × Value × List Sw) (fun p => [sv, i64 seq, p.2.2.1, cv, i64 p.2.1, i64 p.1]) (fun p h' => p.1 ≤ ss.length ∧ 0 ≤ p.2.1 ∧ p.2.1 ≤ 20 ∧ p.2.2.2 ++ stRow p.2.1 (ss.drop p.1) = stRow 0 ss ∧ All (rowP 3 p.2.2.1 (p.2.2.2.map encS) :: rowP 1 cv ((wasCells (List.replicate 16 0) p.2.2.2).map encI) :: [baseP g]) h') (fun p => ss.length - p.1) ?_ (0, 0, .slice none 0 0, []) h2 ⟨by omega, by simp, by simp, rfl, hp.emp_cons (rowP_nil _ _)⟩
  rintro ⟨i, next, rw_, done⟩ h3 Y ⟨hi, hn0, hn20, hrow, hp⟩ again
  simp only at hi hn0 hn20 hrow hp
  simp only [tup_zero, tup_succ]
  have hmAll : swOk (-1) (stRow 0 ss) = true := stRow_ok (ss := ss) (next := 0) (by decide)
  have key : stRow next (ss.drop i) = [] → ∀ s1, S9_j2 s1 (i64 seq) rw_ cv h3 K Y := by
    intro hend s1
    rw [hend, List.append_nil] at hrow
    have hm : swOk (-1) done = true := by rw [hrow]; exact hmAll
    clear again hrow hend
    generalize hcs : wasCells (List.replicate 16 0) done = cells at hp
    have hcl : cells.length = 16 := by rw [← hcs, wasCells_len]; simp
    have hcw : ∀ s ∈ done, cells.getD s.c.toNat 0 = 4 * s.w := fun s hs => by rw [← hcs]; exact wasCells_at hm (by simp) hs
    have hcv : ∀ j : Nat, ∃ v, cells.getD j 0 = v * 4 ∧ 0 ≤ v ∧ v < 1099511627776 := fun j => by rw [← hcs]; exact wasCells_val hm zeros_val j
    unfold S9_j2
    obtain ⟨sa, sc, _, rfl, _⟩ := hp.row
    refine bs0 (size := 1) hp [[.slice sa (done.map encS).length sc]] rfl rfl (by simp) (fun c hc => by rw [List.mem_singleton.1 hc]; exact ⟨rfl, rfl⟩) fun dv h4 hp => ?_
    have may := swMay_of hm
    have hn := sw_len may
    have hcr : ∀ x ∈ cells, I64 x := fun x hx => by
      obtain ⟨j, hj, e⟩ := List.mem_iff_getElem.1 hx
      obtain ⟨v, this, v0, v1⟩ := hcv j
      rw [List.getD_eq_getElem?_getD, List.getElem?_eq_getElem hj, e] at this
      simp only [Option.getD_some] at this
      constructor <;> omega
    refine T_shelf (us := [.slice sa (done.map encS).length sc]) (cells := cells) (dss := [done]) hp (fun h' hp => (hp.up 2).rows) (fun h' hp => ⟨hp.rows, .cons (hp.up 1).rows .nil⟩) hcr fun a b h5 hp => ?_
    obtain ⟨hA, hcell, hdsc⟩ := shelf_view (cells := cells) (dss := [done]) hcr
    have D : Dsc (shelfA cells [done]) ((0 : Nat) : Int) 1 0 done := hdsc 0 done (by decide) rfl may
    generalize shelfA cells [done] = A at hp hA hcell D
    (repeat first|(with_reducible first|refine wA ?_|refine wB ?_|refine wC ?_|refine wD ?_|refine wE ?_|refine wF ?_|refine wG ?_|refine wH ?_|refine wI ?_|refine wJ ?_|refine wN ?_|refine wT ?_|refine wU ?_)|((with_reducible refine isB ?_);first|refine wK rfl ?_|refine ld0 hp rfl ?_|refine ld1 hp rfl ?_|refine ld2 hp rfl ?_|refine ld3 hp rfl ?_|refine wP ?_|refine wQ ?_|refine wR ?_)|((with_reducible refine isIf ?_);first|refine wV ?_|refine wW ?_)|((with_reducible refine isHl ?_);first|refine hl0 hp rfl ?_|refine hl1 hp rfl ?_|refine hl2 hp rfl ?_|refine hl3 hp rfl ?_))
    refine bnd_of (binV_and_mask seq 10 (by decide) (by decide)) ?_
    refine T_mine (by decide) (by decide) ?_
    have q0 : 0 ≤ seq % ((2 ^ 10 : Nat) : Int) := by omega
    have q1 : seq % ((2 ^ 10 : Nat) : Int) < 1024 := by omega
    generalize seq % ((2 ^ 10 : Nat) : Int) = q at q0 q1 ⊢
    refine T_NewMine hp (by decide) (by decide) (by decide) (by decide) q0 (by omega) fun b' h6 hp => ?_
    (repeat first|(with_reducible first|refine wA ?_|refine wB ?_|refine wC ?_|refine wD ?_|refine wE ?_|refine wF ?_|refine wG ?_|refine wH ?_|refine wI ?_|refine wJ ?_|refine wN ?_|refine wT ?_|refine wU ?_)|((with_reducible refine isB ?_);first|refine wK rfl ?_|refine ld0 hp rfl ?_|refine ld1 hp rfl ?_|refine ld2 hp rfl ?_|refine ld3 hp rfl ?_|refine wP ?_|refine wQ ?_|refine wR ?_)|((with_reducible refine isIf ?_);first|refine wV ?_|refine wW ?_)|((with_reducible refine isHl ?_);first|refine hl0 hp rfl ?_|refine hl1 hp rfl ?_|refine hl2 hp rfl ?_|refine hl3 hp rfl ?_))
    refine T_Num ?_
    (repeat first|(with_reducible first|refine wA ?_|refine wB ?_|refine wC ?_|refine wD ?_|refine wE ?_|refine wF ?_|refine wG ?_|refine wH ?_|refine wI ?_|refine wJ ?_|refine wN ?_|refine wT ?_|refine wU ?_)|((with_reducible refine isB ?_);first|refine wK rfl ?_|refine ld0 hp rfl ?_|refine ld1 hp rfl ?_|refine ld2 hp rfl ?_|refine ld3 hp rfl ?_|refine wP ?_|refine wQ ?_|refine wR ?_)|((with_reducible refine isIf ?_);first|refine wV ?_|refine wW ?_)|((with_reducible refine isHl ?_);first|refine hl0 hp rfl ?_|refine hl1 hp rfl ?_|refine hl2 hp rfl ?_|refine hl3 hp rfl ?_))
    have hfo := fresh_ok (t := 2) (q := q) (s := 0) (by decide) (by decide) (by decide) (by decide) q0 (by omega)
    have o := fresh_on (k := 0) hA (by decide) may D
    obtain ⟨f, A', gg, o', _, _⟩ := alone_wins (s := 0) (g := 1) (H := Help.fresh 2 q 0) (w := Wh.new 0 1) o rfl rfl rfl rfl rfl hfo fun i d hd => by
      obtain ⟨m0, m1, _⟩ := sw_mem may hd
      rw [hcell d.c m0 m1, hcw d (List.mem_of_getElem? hd)]; omega
    have hruns := gg.runs (N := 200) (m := 0) rfl (by omega) (by omega)
    rw [Nat.zero_add] at hruns
    generalize hH' : (Help.fresh 2 q 0).popped (((Help.fresh 2 q 0).q + done.length) % 1048576) 0 1 true f = H' at hruns
    have hwon : H'.won = true := by rw [← hH']; rfl
    have hq' : H'.q = q + done.length := by
      rw [← hH']; show (q + (done.length : Int)) % 1048576 = _; omega
    replace hp : All (helpP b' (Help.fresh 2 q 0) :: arP 110 a A :: rowP 3 (.slice sa (done.map encS).length sc) (done.map encS) :: [baseP g]) h6 := hp.re 7 [0, 1, 4, 6]
    unfold S9_j3
    generalize Help.fresh 2 q 0 = H0 at hp hruns hfo
    refine Lfp_fam (ι := Nat × Help × Ar × Bool × Nat) (fun p => [.slice sa (done.map encS).length sc, ptr a, i64 q, ptr b', i64 p.2.2.2.2, .bool p.2.2.2.1, i64 p.1]) (fun p h' => p.1 ≤ 200 ∧ p.2.2.2.2 ≤ p.1 ∧ p.2.1.ok ∧ p.2.2.1.ok ∧ runs (200 - p.1) p.2.1 p.2.2.1 p.2.2.2.1 p.2.2.2.2 = some (H', A', true, 5 + 8 * done.length) ∧ All (helpP b' p.2.1 :: arP 110 a p.2.2.1 :: rowP 3 (.slice sa (done.map encS).length sc) (done.map encS) :: [baseP g]) h') (fun p => 200 - p.1) ?_ (0, H0, A, false, 0) h6 ⟨by omega, by simp, hfo, hA, hruns, hp⟩
    clear hruns hp
    rintro ⟨i, G, B, ov, k⟩ h7 Z ⟨hi, hk, hG, hB, hq, hp⟩ again
    simp only at hi hk hG hB hq hp
    simp only [tup_zero, tup_succ]
    have key2 : (G, B, ov, k) = (H', A', true, 5 + 8 * done.length) → ∀ s1 s2 X Y, S9_j5 s1 s2 (.slice sa (done.map encS).length sc) (i64 q) (ptr b') (i64 k) (.bool ov) h7 K X Y := by
      intro e s1 s2 X Y
      cases e
      unfold S9_j5
      (repeat first|(with_reducible first|refine wA ?_|refine wB ?_|refine wC ?_|refine wD ?_|refine wE ?_|refine wF ?_|refine wG ?_|refine wH ?_|refine wI ?_|refine wJ ?_|refine wN ?_|refine wT ?_|refine wU ?_)|((with_reducible refine isB ?_);first|refine wK rfl ?_|refine ld0 hp rfl ?_|refine ld1 hp rfl ?_|refine ld2 hp rfl ?_|refine ld3 hp rfl ?_|refine wP ?_|refine wQ ?_|refine wR ?_)|((with_reducible refine isIf ?_);first|refine wV ?_|refine wW ?_)|((with_reducible refine isHl ?_);first|refine hl0 hp rfl ?_|refine hl1 hp rfl ?_|refine hl2 hp rfl ?_|refine hl3 hp rfl ?_))
      refine T_Won hp ?_
      rw [hwon]
      rw [List.length_map]
      (repeat first|(with_reducible first|refine wA ?_|refine wB ?_|refine wC ?_|refine wD ?_|refine wE ?_|refine wF ?_|refine wG ?_|refine wH ?_|refine wI ?_|refine wJ ?_|refine wN ?_|refine wT ?_|refine wU ?_)|((with_reducible refine isB ?_);first|refine wK rfl ?_|refine ld0 hp rfl ?_|refine ld1 hp rfl ?_|refine ld2 hp rfl ?_|refine ld3 hp rfl ?_|refine wP ?_|refine wQ ?_|refine wR ?_)|((with_reducible refine isIf ?_);first|refine wV ?_|refine wW ?_)|((with_reducible refine isHl ?_);first|refine hl0 hp rfl ?_|refine hl1 hp rfl ?_|refine hl2 hp rfl ?_|refine hl3 hp rfl ?_))
      rw [decide_eq_true (show (((5 + 8 * done.length : Nat) : Int) = 5 + 8 * (done.length : Int)) by omega)]
      (repeat first|(with_reducible first|refine wA ?_|refine wB ?_|refine wC ?_|refine wD ?_|refine wE ?_|refine wF ?_|refine wG ?_|refine wH ?_|refine wI ?_|refine wJ ?_|refine wN ?_|refine wT ?_|refine wU ?_)|((with_reducible refine isB ?_);first|refine wK rfl ?_|refine ld0 hp rfl ?_|refine ld1 hp rfl ?_|refine ld2 hp rfl ?_|refine ld3 hp rfl ?_|refine wP ?_|refine wQ ?_|refine wR ?_)|((with_reducible refine isIf ?_);first|refine wV ?_|refine wW ?_)|((with_reducible refine isHl ?_);first|refine hl0 hp rfl ?_|refine hl1 hp rfl ?_|refine hl2 hp rfl ?_|refine hl3 hp rfl ?_))
      refine T_Seq hp ?_
      (repeat first|(with_reducible first|refine wA ?_|refine wB ?_|refine wC ?_|refine wD ?_|refine wE ?_|refine wF ?_|refine wG ?_|refine wH ?_|refine wI ?_|refine wJ ?_|refine wN ?_|refine wT ?_|refine wU ?_)|((with_reducible refine isB ?_);first|refine wK rfl ?_|refine ld0 hp rfl ?_|refine ld1 hp rfl ?_|refine ld2 hp rfl ?_|refine ld3 hp rfl ?_|refine wP ?_|refine wQ ?_|refine wR ?_)|((with_reducible refine isIf ?_);first|refine wV ?_|refine wW ?_)|((with_reducible refine isHl ?_);first|refine hl0 hp rfl ?_|refine hl1 hp rfl ?_|refine hl2 hp rfl ?_|refine hl3 hp rfl ?_))
      rw [hq', decide_eq_true rfl]
      exact hK _
    (repeat first|(with_reducible first|refine wA ?_|refine wB ?_|refine wC ?_|refine wD ?_|refine wE ?_|refine wF ?_|refine wG ?_|refine wH ?_|refine wI ?_|refine wJ ?_|refine wN ?_|refine wT ?_|refine wU ?_)|((with_reducible refine isB ?_);first|refine wK rfl ?_|refine ld0 hp rfl ?_|refine ld1 hp rfl ?_|refine ld2 hp rfl ?_|refine ld3 hp rfl ?_|refine wP ?_|refine wQ ?_|refine wR ?_)|((with_reducible refine isIf ?_);first|refine wV ?_|refine wW ?_)|((with_reducible refine isHl ?_);first|refine hl0 hp rfl ?_|refine hl1 hp rfl ?_|refine hl2 hp rfl ?_|refine hl3 hp rfl ?_))
    refine ifV_cases (fun c => ?_) fun c => ?_
    · cases ov with
      | true =>
        (repeat first|(with_reducible first|refine wA ?_|refine wB ?_|refine wC ?_|refine wD ?_|refine wE ?_|refine wF ?_|refine wG ?_|refine wH ?_|refine wI ?_|refine wJ ?_|refine wN ?_|refine wT ?_|refine wU ?_)|((with_reducible refine isB ?_);first|refine wK rfl ?_|refine ld0 hp rfl ?_|refine ld1 hp rfl ?_|refine ld2 hp rfl ?_|refine ld3 hp rfl ?_|refine wP ?_|refine wQ ?_|refine wR ?_)|((with_reducible refine isIf ?_);first|refine wV ?_|refine wW ?_)|((with_reducible refine isHl ?_);first|refine hl0 hp rfl ?_|refine hl1 hp rfl ?_|refine hl2 hp rfl ?_|refine hl3 hp rfl ?_))
        refine key2 ?_ _ _ _ _
        obtain ⟨n, hn⟩ : ∃ n, 200 - i = n + 1 := ⟨199 - i, by omega⟩
        rw [hn] at hq
        unfold runs at hq
        exact Option.some.inj hq
      | false =>
        (repeat first|(with_reducible first|refine wA ?_|refine wB ?_|refine wC ?_|refine wD ?_|refine wE ?_|refine wF ?_|refine wG ?_|refine wH ?_|refine wI ?_|refine wJ ?_|refine wN ?_|refine wT ?_|refine wU ?_)|((with_reducible refine isB ?_);first|refine wK rfl ?_|refine ld0 hp rfl ?_|refine ld1 hp rfl ?_|refine ld2 hp rfl ?_|refine ld3 hp rfl ?_|refine wP ?_|refine wQ ?_|refine wR ?_)|((with_reducible refine isIf ?_);first|refine wV ?_|refine wW ?_)|((with_reducible refine isHl ?_);first|refine hl0 hp rfl ?_|refine hl1 hp rfl ?_|refine hl2 hp rfl ?_|refine hl3 hp rfl ?_))
        unfold S9_j4
        obtain ⟨n, hn⟩ : ∃ n, 200 - i = n + 1 := ⟨199 - i, by omega⟩
        rw [hn] at hq
        unfold runs at hq
        simp only at hq
        refine T_Step (hp.up 1) hG fun h8 hp => ?_
        have hst := Help.step_ok hG hB
        split at hq
        · rename_i e0
          rw [e0]
          (repeat first|(with_reducible first|refine wA ?_|refine wB ?_|refine wC ?_|refine wD ?_|refine wE ?_|refine wF ?_|refine wG ?_|refine wH ?_|refine wI ?_|refine wJ ?_|refine wN ?_|refine wT ?_|refine wU ?_)|((with_reducible refine isB ?_);first|refine wK rfl ?_|refine ld0 hp rfl ?_|refine ld1 hp rfl ?_|refine ld2 hp rfl ?_|refine ld3 hp rfl ?_|refine wP ?_|refine wQ ?_|refine wR ?_)|((with_reducible refine isIf ?_);first|refine wV ?_|refine wW ?_)|((with_reducible refine isHl ?_);first|refine hl0 hp rfl ?_|refine hl1 hp rfl ?_|refine hl2 hp rfl ?_|refine hl3 hp rfl ?_))
          refine T_Num ?_
          (repeat first|(with_reducible first|refine wA ?_|refine wB ?_|refine wC ?_|refine wD ?_|refine wE ?_|refine wF ?_|refine wG ?_|refine wH ?_|refine wI ?_|refine wJ ?_|refine wN ?_|refine wT ?_|refine wU ?_)|((with_reducible refine isB ?_);first|refine wK rfl ?_|refine ld0 hp rfl ?_|refine ld1 hp rfl ?_|refine ld2 hp rfl ?_|refine ld3 hp rfl ?_|refine wP ?_|refine wQ ?_|refine wR ?_)|((with_reducible refine isIf ?_);first|refine wV ?_|refine wW ?_)|((with_reducible refine isHl ?_);first|refine hl0 hp rfl ?_|refine hl1 hp rfl ?_|refine hl2 hp rfl ?_|refine hl3 hp rfl ?_))
          refine again (i + 1, (G.step B).1, (G.step B).2.2, (G.step B).1.over, k + 1) _ ⟨by simp only; omega, by simp only; omega, hst.1, hst.2, ?_, hp.up 1⟩ (by simp only; omega)
          have en : 200 - (i + 1) = n := by omega
          simp only [en]; exact hq
        · cases hq
    · have : 200 - i = 0 := by omega
      rw [this] at hq
      unfold runs at hq
      exact key2 (Option.some.inj hq) _ _ _ _
  refine bnd_of hsl ?_
  (repeat first|(with_reducible first|refine wA ?_|refine wB ?_|refine wC ?_|refine wD ?_|refine wE ?_|refine wF ?_|refine wG ?_|refine wH ?_|refine wI ?_|refine wJ ?_|refine wN ?_|refine wT ?_|refine wU ?_)|((with_reducible refine isB ?_);first|refine wK rfl ?_|refine ld0 hp rfl ?_|refine ld1 hp rfl ?_|refine ld2 hp rfl ?_|refine ld3 hp rfl ?_|refine wP ?_|refine wQ ?_|refine wR ?_)|((with_reducible refine isIf ?_);first|refine wV ?_|refine wW ?_)|((with_reducible refine isHl ?_);first|refine hl0 hp rfl ?_|refine hl1 hp rfl ?_|refine hl2 hp rfl ?_|refine hl3 hp rfl ?_))
  refine ifV_cases (fun c => ?_) fun c => ?_
  · (repeat first|(with_reducible first|refine wA ?_|refine wB ?_|refine wC ?_|refine wD ?_|refine wE ?_|refine wF ?_|refine wG ?_|refine wH ?_|refine wI ?_|refine wJ ?_|refine wN ?_|refine wT ?_|refine wU ?_)|((with_reducible refine isB ?_);first|refine wK rfl ?_|refine ld0 hp rfl ?_|refine ld1 hp rfl ?_|refine ld2 hp rfl ?_|refine ld3 hp rfl ?_|refine wP ?_|refine wQ ?_|refine wR ?_)|((with_reducible refine isIf ?_);first|refine wV ?_|refine wW ?_)|((with_reducible refine isHl ?_);first|refine hl0 hp rfl ?_|refine hl1 hp rfl ?_|refine hl2 hp rfl ?_|refine hl3 hp rfl ?_))
    refine ifV_cases (fun c16 => ?_) fun c16 => key (by
      obtain ⟨s, hs⟩ : ∃ s, ss[i]? = some s := ⟨_, List.getElem?_eq_getElem (by omega)⟩
      rw [alRow_drop hs, stRow_cons, if_neg (by omega)]) _
    clear key
    unfold S9_j1
    obtain ⟨s, hs⟩ : ∃ s, ss[i]? = some s := ⟨_, List.getElem?_eq_getElem (by omega)⟩
    have hrs : rowsAt h3 3 sv (ss.map encS) := rs.le (baseP.le (hp.up 2))
    obtain ⟨bb, oo, e0, e1, e2, e3⟩ := sw_fld hrs hs
    rw [alRow_drop hs, stRow_cons, if_pos c16] at hrow
    refine bnd_of e0 ?_
    (repeat first|(with_reducible first|refine wA ?_|refine wB ?_|refine wC ?_|refine wD ?_|refine wE ?_|refine wF ?_|refine wG ?_|refine wH ?_|refine wI ?_|refine wJ ?_|refine wN ?_|refine wT ?_|refine wU ?_)|((with_reducible refine isB ?_);first|refine wK rfl ?_|refine ld0 hp rfl ?_|refine ld1 hp rfl ?_|refine ld2 hp rfl ?_|refine ld3 hp rfl ?_|refine wP ?_|refine wQ ?_|refine wR ?_)|((with_reducible refine isIf ?_);first|refine wV ?_|refine wW ?_)|((with_reducible refine isHl ?_);first|refine hl0 hp rfl ?_|refine hl1 hp rfl ?_|refine hl2 hp rfl ?_|refine hl3 hp rfl ?_))
    refine bnd_of e2 (bnd_of (binV_and_mask s.w 3 (by decide) (by decide)) (bnd_of e0 ?_))
    (repeat first|(with_reducible first|refine wA ?_|refine wB ?_|refine wC ?_|refine wD ?_|refine wE ?_|refine wF ?_|refine wG ?_|refine wH ?_|refine wI ?_|refine wJ ?_|refine wN ?_|refine wT ?_|refine wU ?_)|((with_reducible refine isB ?_);first|refine wK rfl ?_|refine ld0 hp rfl ?_|refine ld1 hp rfl ?_|refine ld2 hp rfl ?_|refine ld3 hp rfl ?_|refine wP ?_|refine wQ ?_|refine wR ?_)|((with_reducible refine isIf ?_);first|refine wV ?_|refine wW ?_)|((with_reducible refine isHl ?_);first|refine hl0 hp rfl ?_|refine hl1 hp rfl ?_|refine hl2 hp rfl ?_|refine hl3 hp rfl ?_))
    refine bnd_of e3 (bnd_of (binV_and_mask s.n 3 (by decide) (by decide)) ?_)
    (repeat first|(with_reducible first|refine wA ?_|refine wB ?_|refine wC ?_|refine wD ?_|refine wE ?_|refine wF ?_|refine wG ?_|refine wH ?_|refine wI ?_|refine wJ ?_|refine wN ?_|refine wT ?_|refine wU ?_)|((with_reducible refine isB ?_);first|refine wK rfl ?_|refine ld0 hp rfl ?_|refine ld1 hp rfl ?_|refine ld2 hp rfl ?_|refine ld3 hp rfl ?_|refine wP ?_|refine wQ ?_|refine wR ?_)|((with_reducible refine isIf ?_);first|refine wV ?_|refine wW ?_)|((with_reducible refine isHl ?_);first|refine hl0 hp rfl ?_|refine hl1 hp rfl ?_|refine hl2 hp rfl ?_|refine hl3 hp rfl ?_))
    have hdone : done.length + 1 ≤ 16 := by
      have h1 := hmAll
      rw [← hrow] at h1
      have h2 := sw_len (swMay_of h1)
      rw [List.length_append, List.length_cons] at h2; omega
    refine bs0 (size := 3) hp ([Sw.mk next (s.w % ((2 ^ 3 : Nat) : Int)) (s.n % ((2 ^ 3 : Nat) : Int))].map encS) rfl rfl (by simp) (encS_good _) fun xv h4 hp => ?_
    have hr := hp.rows
    refine ap0 (hp.up 1) hr (encS_good _) (by decide) (by rw [List.length_map]; simp; omega) fun rv' h5 hp => ?_
    have hrs : rowsAt h5 3 sv (ss.map encS) := rs.le (baseP.le (hp.up 3))
    obtain ⟨bb, oo, e0, e1, e2, e3⟩ := sw_fld hrs hs
    refine bnd_of e0 ?_
    (repeat first|(with_reducible first|refine wA ?_|refine wB ?_|refine wC ?_|refine wD ?_|refine wE ?_|refine wF ?_|refine wG ?_|refine wH ?_|refine wI ?_|refine wJ ?_|refine wN ?_|refine wT ?_|refine wU ?_)|((with_reducible refine isB ?_);first|refine wK rfl ?_|refine ld0 hp rfl ?_|refine ld1 hp rfl ?_|refine ld2 hp rfl ?_|refine ld3 hp rfl ?_|refine wP ?_|refine wQ ?_|refine wR ?_)|((with_reducible refine isIf ?_);first|refine wV ?_|refine wW ?_)|((with_reducible refine isHl ?_);first|refine hl0 hp rfl ?_|refine hl1 hp rfl ?_|refine hl2 hp rfl ?_|refine hl3 hp rfl ?_))
    refine bnd_of e2 (bnd_of (binV_and_mask s.w 3 (by decide) (by decide)) ?_)
    (repeat first|(with_reducible first|refine wA ?_|refine wB ?_|refine wC ?_|refine wD ?_|refine wE ?_|refine wF ?_|refine wG ?_|refine wH ?_|refine wI ?_|refine wJ ?_|refine wN ?_|refine wT ?_|refine wU ?_)|((with_reducible refine isB ?_);first|refine wK rfl ?_|refine ld0 hp rfl ?_|refine ld1 hp rfl ?_|refine ld2 hp rfl ?_|refine ld3 hp rfl ?_|refine wP ?_|refine wQ ?_|refine wR ?_)|((with_reducible refine isIf ?_);first|refine wV ?_|refine wW ?_)|((with_reducible refine isHl ?_);first|refine hl0 hp rfl ?_|refine hl1 hp rfl ?_|refine hl2 hp rfl ?_|refine hl3 hp rfl ?_))
    have hwl : (wasCells (List.replicate 16 0) done).length = 16 := by rw [wasCells_len]; simp
    obtain ⟨x, hx⟩ : ∃ x, (wasCells (List.replicate 16 0) done)[next.toNat]? = some x := ⟨_, List.getElem?_eq_getElem (by omega)⟩
    obtain ⟨bb2, e4, _, _, est⟩ := All.elt (hp.up 2) (i := next.toNat) (c := [i64 x]) (by rw [List.getElem?_map, hx]; rfl) .i64
    rw [show ((next.toNat : Nat) : Int) = next by omega] at e4
    obtain ⟨h6, e5, hp5⟩ := est 0 1 (i64 (4 * (s.w % ((2 ^ 3 : Nat) : Int)))) rfl (by decide) rfl
    refine bnd_of e4 (bnd_of e5 ?_)
    have e6 : ((wasCells (List.replicate 16 0) done).map encI).set next.toNat (setCells [i64 x] 0 (i64 (4 * (s.w % ((2 ^ 3 : Nat) : Int)))).cells.toList) = (wasCells (List.replicate 16 0) (done ++ [Sw.mk next (s.w % ((2 ^ 3 : Nat) : Int)) (s.n % ((2 ^ 3 : Nat) : Int))])).map encI := by
      rw [wasCells_snoc, List.map_set]; rfl
    rw [e6] at hp5
    have hrs : rowsAt h6 3 sv (ss.map encS) := rs.le (baseP.le (hp5.up 3))
    obtain ⟨bb, oo, e0, e1, e2, e3⟩ := sw_fld hrs hs
    (repeat first|(with_reducible first|refine wA ?_|refine wB ?_|refine wC ?_|refine wD ?_|refine wE ?_|refine wF ?_|refine wG ?_|refine wH ?_|refine wI ?_|refine wJ ?_|refine wN ?_|refine wT ?_|refine wU ?_)|((with_reducible refine isB ?_);first|refine wK rfl ?_|refine ld0 hp rfl ?_|refine ld1 hp rfl ?_|refine ld2 hp rfl ?_|refine ld3 hp rfl ?_|refine wP ?_|refine wQ ?_|refine wR ?_)|((with_reducible refine isIf ?_);first|refine wV ?_|refine wW ?_)|((with_reducible refine isHl ?_);first|refine hl0 hp rfl ?_|refine hl1 hp rfl ?_|refine hl2 hp rfl ?_|refine hl3 hp rfl ?_))
    refine bnd_of e0 ?_
    (repeat first|(with_reducible first|refine wA ?_|refine wB ?_|refine wC ?_|refine wD ?_|refine wE ?_|refine wF ?_|refine wG ?_|refine wH ?_|refine wI ?_|refine wJ ?_|refine wN ?_|refine wT ?_|refine wU ?_)|((with_reducible refine isB ?_);first|refine wK rfl ?_|refine ld0 hp rfl ?_|refine ld1 hp rfl ?_|refine ld2 hp rfl ?_|refine ld3 hp rfl ?_|refine wP ?_|refine wQ ?_|refine wR ?_)|((with_reducible refine isIf ?_);first|refine wV ?_|refine wW ?_)|((with_reducible refine isHl ?_);first|refine hl0 hp rfl ?_|refine hl1 hp rfl ?_|refine hl2 hp rfl ?_|refine hl3 hp rfl ?_))
    refine bnd_of e1 (bnd_of (binV_and_mask s.c 1 (by decide) (by decide)) ?_)
    have em : s.c % ((2 ^ 1 : Nat) : Int) = s.c % 2 := rfl
    rw [em]
    (repeat first|(with_reducible first|refine wA ?_|refine wB ?_|refine wC ?_|refine wD ?_|refine wE ?_|refine wF ?_|refine wG ?_|refine wH ?_|refine wI ?_|refine wJ ?_|refine wN ?_|refine wT ?_|refine wU ?_)|((with_reducible refine isB ?_);first|refine wK rfl ?_|refine ld0 hp rfl ?_|refine ld1 hp rfl ?_|refine ld2 hp rfl ?_|refine ld3 hp rfl ?_|refine wP ?_|refine wQ ?_|refine wR ?_)|((with_reducible refine isIf ?_);first|refine wV ?_|refine wW ?_)|((with_reducible refine isHl ?_);first|refine hl0 hp rfl ?_|refine hl1 hp rfl ?_|refine hl2 hp rfl ?_|refine hl3 hp rfl ?_))
    have hp6 := hp5.re 4 [1, 0, 3]
    refine again (i + 1, next + 1 + s.c % 2, rv', done ++ [Sw.mk next (s.w % ((2 ^ 3 : Nat) : Int)) (s.n % ((2 ^ 3 : Nat) : Int))]) _ ⟨by simp only; omega, by simp only; omega, by simp only; omega, ?_, by rw [List.map_append]; exact hp6⟩ (by simp only; omega)
    rw [List.append_assoc]; exact hrow
  · have hie : i = ss.length := by omega
    refine key ?_ _
    subst hie
    rw [List.drop_length]; rfl
end
end Go.Proofs.Ytfcignalfdifnaa
namespace Go.Proofs.Ytfcignalfdifnaa
open Go GW Go.Proofs
attribute [local irreducible] bnd ldV stV ifV binV eqI
set_option linter.unusedVariables false
set_option linter.unusedSimpArgs false
set_option maxRecDepth 20000
def lsRow : Nat → List Sw → List Sw
  | _, [] => []
  | i, s :: r => if i < 8 then ⟨2 * i, s.w % 8, s.n % 8⟩ :: lsRow (i + 1) r else []
theorem lsRow_cons (i : Nat) (s : Sw) (r : List Sw) : lsRow i (s :: r) = if i < 8 then ⟨2 * i, s.w % 8, s.n % 8⟩ :: lsRow (i + 1) r else [] := rfl
theorem lsRow_ok : ∀ {ss : List Sw} {i : Nat}, swOk (2 * (i : Int) - 1) (lsRow i ss) = true := by
  intro ss
  induction ss with
  | nil => intro i; rfl
  | cons s r ih =>
    intro i
    rw [lsRow_cons]
    split
    · unfold swOk
      rw [Bool.and_eq_true, decide_eq_true_eq]
      exact ⟨⟨by simp only; omega, by simp only; omega, by simp only; omega, by simp only; omega, by simp only; omega, by simp only; omega⟩, swOk_weaken (ih (i := i + 1)) (by simp only; omega)⟩
    · rfl
theorem lsRow_c : ∀ {ss : List Sw} {i k : Nat} {d : Sw}, (lsRow i ss)[k]? = some d → d.c = 2 * ((i : Int) + k) ∧ d.w < 8 := by
  intro ss
  induction ss with
  | nil => intro i k d h; simp [lsRow] at h
  | cons s r ih =>
    intro i k d h
    rw [lsRow_cons] at h
    split at h
    · cases k with
      | zero => simp at h; subst h; simp only; omega
      | succ k => have := ih (i := i + 1) (k := k) (by simpa using h); omega
    · simp at h
theorem uidx (x : Int) {n : Nat} (h0 : 0 < n) (h1 : n ≤ 1000) : ∃ k : Nat, k < n ∧ ∃ a, cvV .u64 (i64 x) = some (.int .u64 a) ∧ cvV .u64 (i64 n) = some (.int .u64 n) ∧ binV .rem (.int .u64 a) (.int .u64 n) = some (.int .u64 k) ∧ cvV .i64 (.int .u64 k) = some (i64 k) := by
  have hw : 0 ≤ IntKind.u64.wrap x := by unfold IntKind.wrap; simp [IntKind.bits, IntKind.signed]; omega
  have hn : IntKind.u64.wrap (n : Int) = n := by unfold IntKind.wrap; simp [IntKind.bits, IntKind.signed]; omega
  have h2 := Int.emod_nonneg (IntKind.u64.wrap x) (show (n : Int) ≠ 0 by omega)
  have h3 := Int.emod_lt_of_pos (IntKind.u64.wrap x) (show (0 : Int) < n by omega)
  refine ⟨(IntKind.u64.wrap x % n).toNat, by omega, IntKind.u64.wrap x, rfl, by rw [cvV_int, hn], ?_, ?_⟩
  · rw [binV_rem, if_neg (by omega), Int.tmod_eq_emod_of_nonneg hw]
    congr 2; omega
  · rw [cvV_int, wrap_id (by omega) (by omega)]
section
variable {R : List Part} {h : GH} {K : Value → GH → Prop}
theorem T_HelpLoses {g : GH} {sv : Value} {ss : List Sw} {at_ by_ : Int} (hp : All [baseP g] h) (rs : rowsAt g 3 sv (ss.map encS)) (hK : ∀ h', K (.bool true) h') : T Try.prog 10 [sv, i64 at_, i64 by_] h K := by
  apply S10_T
  unfold S10
  refine T_awake hp fun h1 hp => ?_
  (repeat first|(with_reducible first|refine wA ?_|refine wB ?_|refine wC ?_|refine wD ?_|refine wE ?_|refine wF ?_|refine wG ?_|refine wH ?_|refine wI ?_|refine wJ ?_|refine wN ?_|refine wT ?_|refine wU ?_)|((with_reducible refine isB ?_);first|refine wK rfl ?_|refine ld0 hp rfl ?_|refine ld1 hp rfl ?_|refine ld2 hp rfl ?_|refine ld3 hp rfl ?_|refine wP ?_|refine wQ ?_|refine wR ?_)|((with_reducible refine isIf ?_);first|refine wV ?_|refine wW ?_)|((with_reducible refine isHl ?_);first|refine hl0 hp rfl ?_|refine hl1 hp rfl ?_|refine hl2 hp rfl ?_|refine hl3 hp rfl ?_))
  have hsl : lnV sv = some (i64 ss.length) := by have := rs.len; rw [List.length_map] at this; exact this
  have hsm : ss.length ≤ 9223372036854775807 := by have := rs.max; rw [List.length_map] at this; exact this
  refine mk0 (size := 1) (bytes := 8) (zero := [.int .i64 0]) (n := 16) hp ⟨rfl, rfl⟩ (by decide) (by decide) fun cv h2 hp => ?_
  rw [zeros_enc] at hp
  refine Lfp_fam (ι := Nat × Value × List Sw) (fun p => [sv, i64 at_, i64 by_, p.2.1, cv, i64 p.1]) (fun p h' => p.1 ≤ ss.length ∧ p.1 ≤ 8 ∧ p.2.2 ++ lsRow p.1 (ss.drop p.1) = lsRow 0 ss ∧ All (rowP 3 p.2.1 (p.2.2.map encS) :: rowP 1 cv ((wasCells (List.replicate 16 0) p.2.2).map encI) :: [baseP g]) h') (fun p => ss.length - p.1) ?_ (0, .slice none 0 0, []) h2 ⟨by omega, by simp, rfl, hp.emp_cons (rowP_nil _ _)⟩
  rintro ⟨i, rw_, done⟩ h3 Y ⟨hi, hi8, hrow, hp⟩ again
  simp only at hi hi8 hrow hp
  simp only [tup_zero, tup_succ]
  have hmAll : swOk (-1) (lsRow 0 ss) = true := lsRow_ok (ss := ss) (i := 0)
  have key : lsRow i (ss.drop i) = [] → ∀ s1, S10_j2 s1 (i64 at_) (i64 by_) rw_ cv h3 K Y := by
    intro hend s1
    rw [hend, List.append_nil] at hrow
    have hm : swOk (-1) done = true := by rw [hrow]; exact hmAll
    clear again hend
    generalize hcs : wasCells (List.replicate 16 0) done = cells at hp
    have hcl : cells.length = 16 := by rw [← hcs, wasCells_len]; simp
    have hcw : ∀ s ∈ done, cells.getD s.c.toNat 0 = 4 * s.w := fun s hs => by rw [← hcs]; exact wasCells_at hm (by simp) hs
    have hcv : ∀ j : Nat, ∃ v, cells.getD j 0 = v * 4 ∧ 0 ≤ v ∧ v < 1099511627776 := fun j => by rw [← hcs]; exact wasCells_val hm zeros_val j
    unfold S10_j2
    refine bnd_of hp.len ?_
    rw [List.length_map]
    have may := swMay_of hm
    have hn := sw_len may
    (repeat first|(with_reducible first|refine wA ?_|refine wB ?_|refine wC ?_|refine wD ?_|refine wE ?_|refine wF ?_|refine wG ?_|refine wH ?_|refine wI ?_|refine wJ ?_|refine wN ?_|refine wT ?_|refine wU ?_)|((with_reducible refine isB ?_);first|refine wK rfl ?_|refine ld0 hp rfl ?_|refine ld1 hp rfl ?_|refine ld2 hp rfl ?_|refine ld3 hp rfl ?_|refine wP ?_|refine wQ ?_|refine wR ?_)|((with_reducible refine isIf ?_);first|refine wV ?_|refine wW ?_)|((with_reducible refine isHl ?_);first|refine hl0 hp rfl ?_|refine hl1 hp rfl ?_|refine hl2 hp rfl ?_|refine hl3 hp rfl ?_))
    refine ifV_cases (fun c0 => hK _) fun c0 => ?_
    obtain ⟨k, hk, a, q1, q2, q3, q4⟩ := uidx at_ (n := done.length) (by omega) (by omega)
    refine bnd_of q1 (bnd_of hp.len ?_)
    rw [List.length_map]
    refine bnd_of q2 (bnd_of q3 (bnd_of q4 ?_))
    obtain ⟨dk, hdk⟩ : ∃ d, done[k]? = some d := ⟨_, List.getElem?_eq_getElem hk⟩
    obtain ⟨m0, m1, m2, m3, m4, m5⟩ := sw_mem may hdk
    obtain ⟨hck, hw8⟩ := lsRow_c (ss := ss) (i := 0) (by rw [← hrow]; exact hdk)
    have hck : dk.c = 2 * (k : Int) := by omega
    (repeat first|(with_reducible first|refine wA ?_|refine wB ?_|refine wC ?_|refine wD ?_|refine wE ?_|refine wF ?_|refine wG ?_|refine wH ?_|refine wI ?_|refine wJ ?_|refine wN ?_|refine wT ?_|refine wU ?_)|((with_reducible refine isB ?_);first|refine wK rfl ?_|refine ld0 hp rfl ?_|refine ld1 hp rfl ?_|refine ld2 hp rfl ?_|refine ld3 hp rfl ?_|refine wP ?_|refine wQ ?_|refine wR ?_)|((with_reducible refine isIf ?_);first|refine wV ?_|refine wW ?_)|((with_reducible refine isHl ?_);first|refine hl0 hp rfl ?_|refine hl1 hp rfl ?_|refine hl2 hp rfl ?_|refine hl3 hp rfl ?_))
    obtain ⟨x, hx⟩ : ∃ x, cells[2 * k]? = some x := ⟨_, List.getElem?_eq_getElem (by omega)⟩
    have hxw : x = 4 * dk.w := by
      have := hcw dk (List.mem_of_getElem? hdk)
      rw [show dk.c.toNat = 2 * k by omega, List.getD_eq_getElem?_getD, hx] at this
      exact this
    obtain ⟨bb2, e4, e5, _, est⟩ := All.elt (hp.up 1) (i := 2 * k) (c := [i64 x]) (by rw [List.getElem?_map, hx]; rfl) .i64
    have e2k : ((2 * k : Nat) : Int) = 2 * (k : Int) := by omega
    rw [e2k] at e4
    refine bnd_of e4 (bnd_of (e5 0 1 _ rfl) (bnd_of (binV_and_mask by_ 3 (by decide) (by decide)) ?_))
    have hb0 : 0 ≤ by_ % ((2 ^ 3 : Nat) : Int) := by omega
    have hb1 : by_ % ((2 ^ 3 : Nat) : Int) < 8 := by omega
    generalize by_ % ((2 ^ 3 : Nat) : Int) = z at hb0 hb1 ⊢
    (repeat first|(with_reducible first|refine wA ?_|refine wB ?_|refine wC ?_|refine wD ?_|refine wE ?_|refine wF ?_|refine wG ?_|refine wH ?_|refine wI ?_|refine wJ ?_|refine wN ?_|refine wT ?_|refine wU ?_)|((with_reducible refine isB ?_);first|refine wK rfl ?_|refine ld0 hp rfl ?_|refine ld1 hp rfl ?_|refine ld2 hp rfl ?_|refine ld3 hp rfl ?_|refine wP ?_|refine wQ ?_|refine wR ?_)|((with_reducible refine isIf ?_);first|refine wV ?_|refine wW ?_)|((with_reducible refine isHl ?_);first|refine hl0 hp rfl ?_|refine hl1 hp rfl ?_|refine hl2 hp rfl ?_|refine hl3 hp rfl ?_))
    obtain ⟨h4, e6, hp4⟩ := est 0 1 (i64 (x + 4 * (1 + z))) rfl (by decide) rfl
    refine bnd_of e4 (bnd_of e6 ?_)
    have e7 : (cells.map encI).set (2 * k) (setCells [i64 x] 0 (i64 (x + 4 * (1 + z))).cells.toList) = (cells.set (2 * k) (x + 4 * (1 + z))).map encI := by rw [List.map_set]; rfl
    rw [e7] at hp4
    generalize hcs2 : cells.set (2 * k) (x + 4 * (1 + z)) = cells2 at hp4
    have hcl2 : cells2.length = 16 := by rw [← hcs2, List.length_set]; exact hcl
    have hg2 : ∀ j : Nat, cells2.getD j 0 = if j = 2 * k then (dk.w + 1 + z) * 4 else cells.getD j 0 := by
      intro j
      rw [← hcs2, List.getD_eq_getElem?_getD, List.getElem?_set]
      by_cases e : 2 * k = j
      · rw [if_pos e, if_pos (by omega), if_pos e.symm, hxw]; simp only [Option.getD_some]; omega
      · rw [if_neg e, if_neg (Ne.symm e), List.getD_eq_getElem?_getD]
    have hcv2 : ∀ j : Nat, ∃ v, cells2.getD j 0 = v * 4 ∧ 0 ≤ v ∧ v < 1099511627776 := fun j => by
      rw [hg2]; split
      · exact ⟨_, rfl, by omega, by omega⟩
      · exact hcv j
    replace hp : All (rowP 3 rw_ (done.map encS) :: rowP 1 cv (cells2.map encI) :: [baseP g]) h4 := hp4.up 1
    clear hp4 est e4 e5 e6
    obtain ⟨sa, sc, _, rfl, _⟩ := hp.row
    refine bs0 (size := 1) hp [[.slice sa (done.map encS).length sc]] rfl rfl (by simp) (fun c hc => by rw [List.mem_singleton.1 hc]; exact ⟨rfl, rfl⟩) fun dv h4 hp => ?_
    have hcr : ∀ x ∈ cells2, I64 x := fun x hx => by
      obtain ⟨j, hj, e⟩ := List.mem_iff_getElem.1 hx
      obtain ⟨v, this, v0, v1⟩ := hcv2 j
      rw [List.getD_eq_getElem?_getD, List.getElem?_eq_getElem hj, e] at this
      simp only [Option.getD_some] at this
      constructor <;> omega
    refine T_shelf (us := [.slice sa (done.map encS).length sc]) (cells := cells2) (dss := [done]) hp (fun h' hp => (hp.up 2).rows) (fun h' hp => ⟨hp.rows, .cons (hp.up 1).rows .nil⟩) hcr fun a b h5 hp => ?_
    obtain ⟨hA, hcell, hdsc⟩ := shelf_view (cells := cells2) (dss := [done]) hcr
    have D : Dsc (shelfA cells2 [done]) ((0 : Nat) : Int) 1 0 done := hdsc 0 done (by decide) rfl may
    generalize shelfA cells2 [done] = A at hp hA hcell D
    (repeat first|(with_reducible first|refine wA ?_|refine wB ?_|refine wC ?_|refine wD ?_|refine wE ?_|refine wF ?_|refine wG ?_|refine wH ?_|refine wI ?_|refine wJ ?_|refine wN ?_|refine wT ?_|refine wU ?_)|((with_reducible refine isB ?_);first|refine wK rfl ?_|refine ld0 hp rfl ?_|refine ld1 hp rfl ?_|refine ld2 hp rfl ?_|refine ld3 hp rfl ?_|refine wP ?_|refine wQ ?_|refine wR ?_)|((with_reducible refine isIf ?_);first|refine wV ?_|refine wW ?_)|((with_reducible refine isHl ?_);first|refine hl0 hp rfl ?_|refine hl1 hp rfl ?_|refine hl2 hp rfl ?_|refine hl3 hp rfl ?_))
    refine T_mine (by decide) (by decide) ?_
    refine T_NewMine hp (by decide) (by decide) (by decide) (by decide) (by decide) (by decide) fun b' h6 hp => ?_
    (repeat first|(with_reducible first|refine wA ?_|refine wB ?_|refine wC ?_|refine wD ?_|refine wE ?_|refine wF ?_|refine wG ?_|refine wH ?_|refine wI ?_|refine wJ ?_|refine wN ?_|refine wT ?_|refine wU ?_)|((with_reducible refine isB ?_);first|refine wK rfl ?_|refine ld0 hp rfl ?_|refine ld1 hp rfl ?_|refine ld2 hp rfl ?_|refine ld3 hp rfl ?_|refine wP ?_|refine wQ ?_|refine wR ?_)|((with_reducible refine isIf ?_);first|refine wV ?_|refine wW ?_)|((with_reducible refine isHl ?_);first|refine hl0 hp rfl ?_|refine hl1 hp rfl ?_|refine hl2 hp rfl ?_|refine hl3 hp rfl ?_))
    refine T_Num ?_
    (repeat first|(with_reducible first|refine wA ?_|refine wB ?_|refine wC ?_|refine wD ?_|refine wE ?_|refine wF ?_|refine wG ?_|refine wH ?_|refine wI ?_|refine wJ ?_|refine wN ?_|refine wT ?_|refine wU ?_)|((with_reducible refine isB ?_);first|refine wK rfl ?_|refine ld0 hp rfl ?_|refine ld1 hp rfl ?_|refine ld2 hp rfl ?_|refine ld3 hp rfl ?_|refine wP ?_|refine wQ ?_|refine wR ?_)|((with_reducible refine isIf ?_);first|refine wV ?_|refine wW ?_)|((with_reducible refine isHl ?_);first|refine hl0 hp rfl ?_|refine hl1 hp rfl ?_|refine hl2 hp rfl ?_|refine hl3 hp rfl ?_))
    have hfo := fresh_ok (t := 2) (q := 0) (s := 0) (by decide) (by decide) (by decide) (by decide) (by decide) (by decide)
    have o := fresh_on (k := 0) hA (by decide) may D
    have hat : ∀ (i : Nat) d, done[i]? = some d → A.at d.c = if i = k then (dk.w + 1 + z) * 4 else d.w * 4 := fun i d hd => by
      obtain ⟨m0, m1, _⟩ := sw_mem may hd
      have hc2 := (lsRow_c (ss := ss) (i := 0) (by rw [← hrow]; exact hd)).1
      rw [hcell d.c m0 m1, hg2]
      by_cases e : i = k
      · rw [if_pos (by omega), if_pos e]
      · rw [if_neg (by omega), if_neg e, hcw d (List.mem_of_getElem? hd)]; omega
    obtain ⟨f, A', gg, o', r'⟩ := alone_loses (s := 0) (g := 1) (k := k) (dk := dk) (v := dk.w + 1 + z) (H := Help.fresh 2 0 0) (w := Wh.new 0 1) o rfl rfl rfl rfl rfl hfo
      (fun i d hik hd => by rw [hat i d hd, if_neg (by omega)]) hdk (by rw [hat k dk hdk, if_pos rfl]) (by omega) (by omega) (by omega)
      (fun i d hd => by rw [hat i d hd]; split <;> exact mcas_not_val.symm)
    have hA' := (gg.ok hfo hA).2
    have hruns := gg.runs (N := 200) (m := 0) rfl (by omega) (by omega)
    rw [Nat.zero_add] at hruns
    generalize hH' : (Help.fresh 2 0 0).popped (((Help.fresh 2 0 0).q + (k + 1 : Nat)) % 1048576) 0 1 false f = H' at hruns
    have hwon : H'.won = false := by rw [← hH']; rfl
    have hq' : H'.q = k + 1 := by
      rw [← hH']; show ((0 : Int) + ((k + 1 : Nat) : Int)) % 1048576 = _; omega
    have hst : A'.at 34 = 24 := o'.d.st
    have hfin : ∀ j : Nat, j < 16 → A'.at j = cells2.getD j 0 := fun j hj => by
      have hb : baseOf 0 = 34 := rfl
      rw [r' j (by omega) (by omega) (by omega), hcell j (by omega) (by omega)]; rfl
    replace hp : All (helpP b' (Help.fresh 2 0 0) :: arP 110 a A :: rowP 3 (.slice sa (done.map encS).length sc) (done.map encS) :: rowP 1 cv (cells2.map encI) :: [baseP g]) h6 := hp.re 7 [0, 1, 4, 5, 6]
    unfold S10_j3
    generalize Help.fresh 2 0 0 = H0 at hp hruns hfo
    refine Lfp_fam (ι := Nat × Help × Ar × Bool × Nat) (fun p => [.slice sa (done.map encS).length sc, cv, i64 k, ptr a, ptr b', i64 p.2.2.2.2, .bool p.2.2.2.1, i64 p.1]) (fun p h' => p.1 ≤ 200 ∧ p.2.2.2.2 ≤ p.1 ∧ p.2.1.ok ∧ p.2.2.1.ok ∧ runs (200 - p.1) p.2.1 p.2.2.1 p.2.2.2.1 p.2.2.2.2 = some (H', A', true, 8 + 5 * k + 3 * done.length) ∧ All (helpP b' p.2.1 :: arP 110 a p.2.2.1 :: rowP 3 (.slice sa (done.map encS).length sc) (done.map encS) :: rowP 1 cv (cells2.map encI) :: [baseP g]) h') (fun p => 200 - p.1) ?_ (0, H0, A, false, 0) h6 ⟨by omega, by simp, hfo, hA, hruns, hp⟩
    clear hruns hp
    rintro ⟨i, G, B, ov, m⟩ h7 Z ⟨hi, hm', hG, hB, hq, hp⟩ again
    simp only at hi hm' hG hB hq hp
    simp only [tup_zero, tup_succ]
    have key2 : (G, B, ov, m) = (H', A', true, 8 + 5 * k + 3 * done.length) → ∀ s1 s2 X Y, S10_j5 s1 s2 (.slice sa (done.map encS).length sc) cv (i64 k) (ptr a) (ptr b') (i64 m) (.bool ov) h7 K X Y := by
      intro e s1 s2 X Y
      cases e
      unfold S10_j5
      refine T_All (hp.up 1) fun av h8 hp => ?_
      refine L_Load (hp.up 1) (by decide) (by decide) fun h9 hp => ?_
      (repeat first|(with_reducible first|refine wA ?_|refine wB ?_|refine wC ?_|refine wD ?_|refine wE ?_|refine wF ?_|refine wG ?_|refine wH ?_|refine wI ?_|refine wJ ?_|refine wN ?_|refine wT ?_|refine wU ?_)|((with_reducible refine isB ?_);first|refine wK rfl ?_|refine ld0 hp rfl ?_|refine ld1 hp rfl ?_|refine ld2 hp rfl ?_|refine ld3 hp rfl ?_|refine wP ?_|refine wQ ?_|refine wR ?_)|((with_reducible refine isIf ?_);first|refine wV ?_|refine wW ?_)|((with_reducible refine isHl ?_);first|refine hl0 hp rfl ?_|refine hl1 hp rfl ?_|refine hl2 hp rfl ?_|refine hl3 hp rfl ?_))
      refine T_Won (hp.up 2) ?_
      rw [hwon, List.length_map]
      (repeat first|(with_reducible first|refine wA ?_|refine wB ?_|refine wC ?_|refine wD ?_|refine wE ?_|refine wF ?_|refine wG ?_|refine wH ?_|refine wI ?_|refine wJ ?_|refine wN ?_|refine wT ?_|refine wU ?_)|((with_reducible refine isB ?_);first|refine wK rfl ?_|refine ld0 hp rfl ?_|refine ld1 hp rfl ?_|refine ld2 hp rfl ?_|refine ld3 hp rfl ?_|refine wP ?_|refine wQ ?_|refine wR ?_)|((with_reducible refine isIf ?_);first|refine wV ?_|refine wW ?_)|((with_reducible refine isHl ?_);first|refine hl0 hp rfl ?_|refine hl1 hp rfl ?_|refine hl2 hp rfl ?_|refine hl3 hp rfl ?_))
      rw [decide_eq_true (show (((8 + 5 * k + 3 * done.length : Nat) : Int) = 2 + 5 * (k : Int) + 3 + 1 + 1 + 1 + 3 * (done.length : Int)) by omega)]
      (repeat first|(with_reducible first|refine wA ?_|refine wB ?_|refine wC ?_|refine wD ?_|refine wE ?_|refine wF ?_|refine wG ?_|refine wH ?_|refine wI ?_|refine wJ ?_|refine wN ?_|refine wT ?_|refine wU ?_)|((with_reducible refine isB ?_);first|refine wK rfl ?_|refine ld0 hp rfl ?_|refine ld1 hp rfl ?_|refine ld2 hp rfl ?_|refine ld3 hp rfl ?_|refine wP ?_|refine wQ ?_|refine wR ?_)|((with_reducible refine isIf ?_);first|refine wV ?_|refine wW ?_)|((with_reducible refine isHl ?_);first|refine hl0 hp rfl ?_|refine hl1 hp rfl ?_|refine hl2 hp rfl ?_|refine hl3 hp rfl ?_))
      refine T_Seq (hp.up 2) ?_
      rw [hq']
      (repeat first|(with_reducible first|refine wA ?_|refine wB ?_|refine wC ?_|refine wD ?_|refine wE ?_|refine wF ?_|refine wG ?_|refine wH ?_|refine wI ?_|refine wJ ?_|refine wN ?_|refine wT ?_|refine wU ?_)|((with_reducible refine isB ?_);first|refine wK rfl ?_|refine ld0 hp rfl ?_|refine ld1 hp rfl ?_|refine ld2 hp rfl ?_|refine ld3 hp rfl ?_|refine wP ?_|refine wQ ?_|refine wR ?_)|((with_reducible refine isIf ?_);first|refine wV ?_|refine wW ?_)|((with_reducible refine isHl ?_);first|refine hl0 hp rfl ?_|refine hl1 hp rfl ?_|refine hl2 hp rfl ?_|refine hl3 hp rfl ?_))
      rw [decide_eq_true rfl]
      (repeat first|(with_reducible first|refine wA ?_|refine wB ?_|refine wC ?_|refine wD ?_|refine wE ?_|refine wF ?_|refine wG ?_|refine wH ?_|refine wI ?_|refine wJ ?_|refine wN ?_|refine wT ?_|refine wU ?_)|((with_reducible refine isB ?_);first|refine wK rfl ?_|refine ld0 hp rfl ?_|refine ld1 hp rfl ?_|refine ld2 hp rfl ?_|refine ld3 hp rfl ?_|refine wP ?_|refine wQ ?_|refine wR ?_)|((with_reducible refine isIf ?_);first|refine wV ?_|refine wW ?_)|((with_reducible refine isHl ?_);first|refine hl0 hp rfl ?_|refine hl1 hp rfl ?_|refine hl2 hp rfl ?_|refine hl3 hp rfl ?_))
      have hpr := hp.up 1
      refine bnd_of (All.len hpr) ?_
      rw [List.length_map, hA'.words]
      (repeat first|(with_reducible first|refine wA ?_|refine wB ?_|refine wC ?_|refine wD ?_|refine wE ?_|refine wF ?_|refine wG ?_|refine wH ?_|refine wI ?_|refine wJ ?_|refine wN ?_|refine wT ?_|refine wU ?_)|((with_reducible refine isB ?_);first|refine wK rfl ?_|refine ld0 hp rfl ?_|refine ld1 hp rfl ?_|refine ld2 hp rfl ?_|refine ld3 hp rfl ?_|refine wP ?_|refine wQ ?_|refine wR ?_)|((with_reducible refine isIf ?_);first|refine wV ?_|refine wW ?_)|((with_reducible refine isHl ?_);first|refine hl0 hp rfl ?_|refine hl1 hp rfl ?_|refine hl2 hp rfl ?_|refine hl3 hp rfl ?_))
      refine T_cellsSame hpr (All.rows (hp.up 4)) hA' hcl2 hfin ?_
      (repeat first|(with_reducible first|refine wA ?_|refine wB ?_|refine wC ?_|refine wD ?_|refine wE ?_|refine wF ?_|refine wG ?_|refine wH ?_|refine wI ?_|refine wJ ?_|refine wN ?_|refine wT ?_|refine wU ?_)|((with_reducible refine isB ?_);first|refine wK rfl ?_|refine ld0 hp rfl ?_|refine ld1 hp rfl ?_|refine ld2 hp rfl ?_|refine ld3 hp rfl ?_|refine wP ?_|refine wQ ?_|refine wR ?_)|((with_reducible refine isIf ?_);first|refine wV ?_|refine wW ?_)|((with_reducible refine isHl ?_);first|refine hl0 hp rfl ?_|refine hl1 hp rfl ?_|refine hl2 hp rfl ?_|refine hl3 hp rfl ?_))
      refine T_Num ?_
      (repeat first|(with_reducible first|refine wA ?_|refine wB ?_|refine wC ?_|refine wD ?_|refine wE ?_|refine wF ?_|refine wG ?_|refine wH ?_|refine wI ?_|refine wJ ?_|refine wN ?_|refine wT ?_|refine wU ?_)|((with_reducible refine isB ?_);first|refine wK rfl ?_|refine ld0 hp rfl ?_|refine ld1 hp rfl ?_|refine ld2 hp rfl ?_|refine ld3 hp rfl ?_|refine wP ?_|refine wQ ?_|refine wR ?_)|((with_reducible refine isIf ?_);first|refine wV ?_|refine wW ?_)|((with_reducible refine isHl ?_);first|refine hl0 hp rfl ?_|refine hl1 hp rfl ?_|refine hl2 hp rfl ?_|refine hl3 hp rfl ?_))
      rw [hst]
      exact hK _
    (repeat first|(with_reducible first|refine wA ?_|refine wB ?_|refine wC ?_|refine wD ?_|refine wE ?_|refine wF ?_|refine wG ?_|refine wH ?_|refine wI ?_|refine wJ ?_|refine wN ?_|refine wT ?_|refine wU ?_)|((with_reducible refine isB ?_);first|refine wK rfl ?_|refine ld0 hp rfl ?_|refine ld1 hp rfl ?_|refine ld2 hp rfl ?_|refine ld3 hp rfl ?_|refine wP ?_|refine wQ ?_|refine wR ?_)|((with_reducible refine isIf ?_);first|refine wV ?_|refine wW ?_)|((with_reducible refine isHl ?_);first|refine hl0 hp rfl ?_|refine hl1 hp rfl ?_|refine hl2 hp rfl ?_|refine hl3 hp rfl ?_))
    refine ifV_cases (fun c => ?_) fun c => ?_
    · cases ov with
      | true =>
        (repeat first|(with_reducible first|refine wA ?_|refine wB ?_|refine wC ?_|refine wD ?_|refine wE ?_|refine wF ?_|refine wG ?_|refine wH ?_|refine wI ?_|refine wJ ?_|refine wN ?_|refine wT ?_|refine wU ?_)|((with_reducible refine isB ?_);first|refine wK rfl ?_|refine ld0 hp rfl ?_|refine ld1 hp rfl ?_|refine ld2 hp rfl ?_|refine ld3 hp rfl ?_|refine wP ?_|refine wQ ?_|refine wR ?_)|((with_reducible refine isIf ?_);first|refine wV ?_|refine wW ?_)|((with_reducible refine isHl ?_);first|refine hl0 hp rfl ?_|refine hl1 hp rfl ?_|refine hl2 hp rfl ?_|refine hl3 hp rfl ?_))
        refine key2 ?_ _ _ _ _
        obtain ⟨n, hn⟩ : ∃ n, 200 - i = n + 1 := ⟨199 - i, by omega⟩
        rw [hn] at hq
        unfold runs at hq
        exact Option.some.inj hq
      | false =>
        (repeat first|(with_reducible first|refine wA ?_|refine wB ?_|refine wC ?_|refine wD ?_|refine wE ?_|refine wF ?_|refine wG ?_|refine wH ?_|refine wI ?_|refine wJ ?_|refine wN ?_|refine wT ?_|refine wU ?_)|((with_reducible refine isB ?_);first|refine wK rfl ?_|refine ld0 hp rfl ?_|refine ld1 hp rfl ?_|refine ld2 hp rfl ?_|refine ld3 hp rfl ?_|refine wP ?_|refine wQ ?_|refine wR ?_)|((with_reducible refine isIf ?_);first|refine wV ?_|refine wW ?_)|((with_reducible refine isHl ?_);first|refine hl0 hp rfl ?_|refine hl1 hp rfl ?_|refine hl2 hp rfl ?_|refine hl3 hp rfl ?_))
        unfold S10_j4
        obtain ⟨n, hn⟩ : ∃ n, 200 - i = n + 1 := ⟨199 - i, by omega⟩
        rw [hn] at hq
        unfold runs at hq
        simp only at hq
        refine T_Step (hp.up 1) hG fun h8 hp => ?_
        have hst := Help.step_ok hG hB
        split at hq
        · rename_i e0
          rw [e0]
          (repeat first|(with_reducible first|refine wA ?_|refine wB ?_|refine wC ?_|refine wD ?_|refine wE ?_|refine wF ?_|refine wG ?_|refine wH ?_|refine wI ?_|refine wJ ?_|refine wN ?_|refine wT ?_|refine wU ?_)|((with_reducible refine isB ?_);first|refine wK rfl ?_|refine ld0 hp rfl ?_|refine ld1 hp rfl ?_|refine ld2 hp rfl ?_|refine ld3 hp rfl ?_|refine wP ?_|refine wQ ?_|refine wR ?_)|((with_reducible refine isIf ?_);first|refine wV ?_|refine wW ?_)|((with_reducible refine isHl ?_);first|refine hl0 hp rfl ?_|refine hl1 hp rfl ?_|refine hl2 hp rfl ?_|refine hl3 hp rfl ?_))
          refine T_Num ?_
          (repeat first|(with_reducible first|refine wA ?_|refine wB ?_|refine wC ?_|refine wD ?_|refine wE ?_|refine wF ?_|refine wG ?_|refine wH ?_|refine wI ?_|refine wJ ?_|refine wN ?_|refine wT ?_|refine wU ?_)|((with_reducible refine isB ?_);first|refine wK rfl ?_|refine ld0 hp rfl ?_|refine ld1 hp rfl ?_|refine ld2 hp rfl ?_|refine ld3 hp rfl ?_|refine wP ?_|refine wQ ?_|refine wR ?_)|((with_reducible refine isIf ?_);first|refine wV ?_|refine wW ?_)|((with_reducible refine isHl ?_);first|refine hl0 hp rfl ?_|refine hl1 hp rfl ?_|refine hl2 hp rfl ?_|refine hl3 hp rfl ?_))
          refine again (i + 1, (G.step B).1, (G.step B).2.2, (G.step B).1.over, m + 1) _ ⟨by simp only; omega, by simp only; omega, hst.1, hst.2, ?_, hp.up 1⟩ (by simp only; omega)
          have en : 200 - (i + 1) = n := by omega
          simp only [en]; exact hq
        · cases hq
    · have : 200 - i = 0 := by omega
      rw [this] at hq
      unfold runs at hq
      exact key2 (Option.some.inj hq) _ _ _ _
  refine bnd_of hsl ?_
  (repeat first|(with_reducible first|refine wA ?_|refine wB ?_|refine wC ?_|refine wD ?_|refine wE ?_|refine wF ?_|refine wG ?_|refine wH ?_|refine wI ?_|refine wJ ?_|refine wN ?_|refine wT ?_|refine wU ?_)|((with_reducible refine isB ?_);first|refine wK rfl ?_|refine ld0 hp rfl ?_|refine ld1 hp rfl ?_|refine ld2 hp rfl ?_|refine ld3 hp rfl ?_|refine wP ?_|refine wQ ?_|refine wR ?_)|((with_reducible refine isIf ?_);first|refine wV ?_|refine wW ?_)|((with_reducible refine isHl ?_);first|refine hl0 hp rfl ?_|refine hl1 hp rfl ?_|refine hl2 hp rfl ?_|refine hl3 hp rfl ?_))
  refine ifV_cases (fun c => ?_) fun c => ?_
  · (repeat first|(with_reducible first|refine wA ?_|refine wB ?_|refine wC ?_|refine wD ?_|refine wE ?_|refine wF ?_|refine wG ?_|refine wH ?_|refine wI ?_|refine wJ ?_|refine wN ?_|refine wT ?_|refine wU ?_)|((with_reducible refine isB ?_);first|refine wK rfl ?_|refine ld0 hp rfl ?_|refine ld1 hp rfl ?_|refine ld2 hp rfl ?_|refine ld3 hp rfl ?_|refine wP ?_|refine wQ ?_|refine wR ?_)|((with_reducible refine isIf ?_);first|refine wV ?_|refine wW ?_)|((with_reducible refine isHl ?_);first|refine hl0 hp rfl ?_|refine hl1 hp rfl ?_|refine hl2 hp rfl ?_|refine hl3 hp rfl ?_))
    refine ifV_cases (fun c8 => ?_) fun c8 => key (by
      obtain ⟨s, hs⟩ : ∃ s, ss[i]? = some s := ⟨_, List.getElem?_eq_getElem (by omega)⟩
      rw [alRow_drop hs, lsRow_cons, if_neg (by omega)]) _
    clear key
    unfold S10_j1
    obtain ⟨s, hs⟩ : ∃ s, ss[i]? = some s := ⟨_, List.getElem?_eq_getElem (by omega)⟩
    have hrs : rowsAt h3 3 sv (ss.map encS) := rs.le (baseP.le (hp.up 2))
    obtain ⟨bb, oo, e0, e1, e2, e3⟩ := sw_fld hrs hs
    rw [alRow_drop hs, lsRow_cons, if_pos (by omega)] at hrow
    (repeat first|(with_reducible first|refine wA ?_|refine wB ?_|refine wC ?_|refine wD ?_|refine wE ?_|refine wF ?_|refine wG ?_|refine wH ?_|refine wI ?_|refine wJ ?_|refine wN ?_|refine wT ?_|refine wU ?_)|((with_reducible refine isB ?_);first|refine wK rfl ?_|refine ld0 hp rfl ?_|refine ld1 hp rfl ?_|refine ld2 hp rfl ?_|refine ld3 hp rfl ?_|refine wP ?_|refine wQ ?_|refine wR ?_)|((with_reducible refine isIf ?_);first|refine wV ?_|refine wW ?_)|((with_reducible refine isHl ?_);first|refine hl0 hp rfl ?_|refine hl1 hp rfl ?_|refine hl2 hp rfl ?_|refine hl3 hp rfl ?_))
    refine bnd_of e0 ?_
    (repeat first|(with_reducible first|refine wA ?_|refine wB ?_|refine wC ?_|refine wD ?_|refine wE ?_|refine wF ?_|refine wG ?_|refine wH ?_|refine wI ?_|refine wJ ?_|refine wN ?_|refine wT ?_|refine wU ?_)|((with_reducible refine isB ?_);first|refine wK rfl ?_|refine ld0 hp rfl ?_|refine ld1 hp rfl ?_|refine ld2 hp rfl ?_|refine ld3 hp rfl ?_|refine wP ?_|refine wQ ?_|refine wR ?_)|((with_reducible refine isIf ?_);first|refine wV ?_|refine wW ?_)|((with_reducible refine isHl ?_);first|refine hl0 hp rfl ?_|refine hl1 hp rfl ?_|refine hl2 hp rfl ?_|refine hl3 hp rfl ?_))
    refine bnd_of e2 (bnd_of (binV_and_mask s.w 3 (by decide) (by decide)) (bnd_of e0 ?_))
    (repeat first|(with_reducible first|refine wA ?_|refine wB ?_|refine wC ?_|refine wD ?_|refine wE ?_|refine wF ?_|refine wG ?_|refine wH ?_|refine wI ?_|refine wJ ?_|refine wN ?_|refine wT ?_|refine wU ?_)|((with_reducible refine isB ?_);first|refine wK rfl ?_|refine ld0 hp rfl ?_|refine ld1 hp rfl ?_|refine ld2 hp rfl ?_|refine ld3 hp rfl ?_|refine wP ?_|refine wQ ?_|refine wR ?_)|((with_reducible refine isIf ?_);first|refine wV ?_|refine wW ?_)|((with_reducible refine isHl ?_);first|refine hl0 hp rfl ?_|refine hl1 hp rfl ?_|refine hl2 hp rfl ?_|refine hl3 hp rfl ?_))
    refine bnd_of e3 (bnd_of (binV_and_mask s.n 3 (by decide) (by decide)) ?_)
    (repeat first|(with_reducible first|refine wA ?_|refine wB ?_|refine wC ?_|refine wD ?_|refine wE ?_|refine wF ?_|refine wG ?_|refine wH ?_|refine wI ?_|refine wJ ?_|refine wN ?_|refine wT ?_|refine wU ?_)|((with_reducible refine isB ?_);first|refine wK rfl ?_|refine ld0 hp rfl ?_|refine ld1 hp rfl ?_|refine ld2 hp rfl ?_|refine ld3 hp rfl ?_|refine wP ?_|refine wQ ?_|refine wR ?_)|((with_reducible refine isIf ?_);first|refine wV ?_|refine wW ?_)|((with_reducible refine isHl ?_);first|refine hl0 hp rfl ?_|refine hl1 hp rfl ?_|refine hl2 hp rfl ?_|refine hl3 hp rfl ?_))
    have hdone : done.length + 1 ≤ 16 := by
      have h1 := hmAll
      rw [← hrow] at h1
      have h2 := sw_len (swMay_of h1)
      rw [List.length_append, List.length_cons] at h2; omega
    refine bs0 (size := 3) hp ([Sw.mk (2 * i) (s.w % ((2 ^ 3 : Nat) : Int)) (s.n % ((2 ^ 3 : Nat) : Int))].map encS) rfl rfl (by simp) (encS_good _) fun xv h4 hp => ?_
    have hr := hp.rows
    refine ap0 (hp.up 1) hr (encS_good _) (by decide) (by rw [List.length_map]; simp; omega) fun rv' h5 hp => ?_
    have hrs : rowsAt h5 3 sv (ss.map encS) := rs.le (baseP.le (hp.up 3))
    obtain ⟨bb, oo, e0, e1, e2, e3⟩ := sw_fld hrs hs
    (repeat first|(with_reducible first|refine wA ?_|refine wB ?_|refine wC ?_|refine wD ?_|refine wE ?_|refine wF ?_|refine wG ?_|refine wH ?_|refine wI ?_|refine wJ ?_|refine wN ?_|refine wT ?_|refine wU ?_)|((with_reducible refine isB ?_);first|refine wK rfl ?_|refine ld0 hp rfl ?_|refine ld1 hp rfl ?_|refine ld2 hp rfl ?_|refine ld3 hp rfl ?_|refine wP ?_|refine wQ ?_|refine wR ?_)|((with_reducible refine isIf ?_);first|refine wV ?_|refine wW ?_)|((with_reducible refine isHl ?_);first|refine hl0 hp rfl ?_|refine hl1 hp rfl ?_|refine hl2 hp rfl ?_|refine hl3 hp rfl ?_))
    refine bnd_of e0 ?_
    (repeat first|(with_reducible first|refine wA ?_|refine wB ?_|refine wC ?_|refine wD ?_|refine wE ?_|refine wF ?_|refine wG ?_|refine wH ?_|refine wI ?_|refine wJ ?_|refine wN ?_|refine wT ?_|refine wU ?_)|((with_reducible refine isB ?_);first|refine wK rfl ?_|refine ld0 hp rfl ?_|refine ld1 hp rfl ?_|refine ld2 hp rfl ?_|refine ld3 hp rfl ?_|refine wP ?_|refine wQ ?_|refine wR ?_)|((with_reducible refine isIf ?_);first|refine wV ?_|refine wW ?_)|((with_reducible refine isHl ?_);first|refine hl0 hp rfl ?_|refine hl1 hp rfl ?_|refine hl2 hp rfl ?_|refine hl3 hp rfl ?_))
    refine bnd_of e2 (bnd_of (binV_and_mask s.w 3 (by decide) (by decide)) ?_)
    (repeat first|(with_reducible first|refine wA ?_|refine wB ?_|refine wC ?_|refine wD ?_|refine wE ?_|refine wF ?_|refine wG ?_|refine wH ?_|refine wI ?_|refine wJ ?_|refine wN ?_|refine wT ?_|refine wU ?_)|((with_reducible refine isB ?_);first|refine wK rfl ?_|refine ld0 hp rfl ?_|refine ld1 hp rfl ?_|refine ld2 hp rfl ?_|refine ld3 hp rfl ?_|refine wP ?_|refine wQ ?_|refine wR ?_)|((with_reducible refine isIf ?_);first|refine wV ?_|refine wW ?_)|((with_reducible refine isHl ?_);first|refine hl0 hp rfl ?_|refine hl1 hp rfl ?_|refine hl2 hp rfl ?_|refine hl3 hp rfl ?_))
    have hwl : (wasCells (List.replicate 16 0) done).length = 16 := by rw [wasCells_len]; simp
    obtain ⟨x, hx⟩ : ∃ x, (wasCells (List.replicate 16 0) done)[2 * i]? = some x := ⟨_, List.getElem?_eq_getElem (by omega)⟩
    obtain ⟨bb2, e4, _, _, est⟩ := All.elt (hp.up 2) (i := 2 * i) (c := [i64 x]) (by rw [List.getElem?_map, hx]; rfl) .i64
    rw [show ((2 * i : Nat) : Int) = 2 * (i : Int) by omega] at e4
    obtain ⟨h6, e5, hp5⟩ := est 0 1 (i64 (4 * (s.w % ((2 ^ 3 : Nat) : Int)))) rfl (by decide) rfl
    refine bnd_of e4 (bnd_of e5 ?_)
    have e6 : ((wasCells (List.replicate 16 0) done).map encI).set (2 * i) (setCells [i64 x] 0 (i64 (4 * (s.w % ((2 ^ 3 : Nat) : Int)))).cells.toList) = (wasCells (List.replicate 16 0) (done ++ [Sw.mk (2 * i) (s.w % ((2 ^ 3 : Nat) : Int)) (s.n % ((2 ^ 3 : Nat) : Int))])).map encI := by
      rw [wasCells_snoc, List.map_set, show (2 * (i : Int)).toNat = 2 * i by omega]; rfl
    rw [e6] at hp5
    (repeat first|(with_reducible first|refine wA ?_|refine wB ?_|refine wC ?_|refine wD ?_|refine wE ?_|refine wF ?_|refine wG ?_|refine wH ?_|refine wI ?_|refine wJ ?_|refine wN ?_|refine wT ?_|refine wU ?_)|((with_reducible refine isB ?_);first|refine wK rfl ?_|refine ld0 hp rfl ?_|refine ld1 hp rfl ?_|refine ld2 hp rfl ?_|refine ld3 hp rfl ?_|refine wP ?_|refine wQ ?_|refine wR ?_)|((with_reducible refine isIf ?_);first|refine wV ?_|refine wW ?_)|((with_reducible refine isHl ?_);first|refine hl0 hp rfl ?_|refine hl1 hp rfl ?_|refine hl2 hp rfl ?_|refine hl3 hp rfl ?_))
    have hp6 := hp5.re 4 [1, 0, 3]
    refine again (i + 1, rv', done ++ [Sw.mk (2 * i) (s.w % ((2 ^ 3 : Nat) : Int)) (s.n % ((2 ^ 3 : Nat) : Int))]) _ ⟨by simp only; omega, by simp only; omega, ?_, by rw [List.map_append]; exact hp6⟩ (by simp only; omega)
    rw [List.append_assoc]; exact hrow
  · have hie : i = ss.length := by omega
    refine key ?_ _
    subst hie
    rw [List.drop_length]; rfl
end
end Go.Proofs.Ytfcignalfdifnaa
namespace Go.Proofs.Ytfcignalfdifnaa
open Go GW Go.Proofs
attribute [local irreducible] bnd ldV stV ifV binV eqI
set_option linter.unusedVariables false
set_option linter.unusedSimpArgs false
set_option maxRecDepth 20000
/-- some cells are others -/
def cset (f : Sw → Option Int) (cells : List Int) (rows : List Sw) : List Int := rows.foldl (fun cs s => match f s with | some x => cs.set s.c.toNat x | none => cs) cells
theorem cset_cons (f : Sw → Option Int) (cells : List Int) (s : Sw) (r : List Sw) : cset f cells (s :: r) = cset f (match f s with | some x => cells.set s.c.toNat x | none => cells) r := rfl
theorem cset_snoc (f : Sw → Option Int) (cells : List Int) (r : List Sw) (s : Sw) : cset f cells (r ++ [s]) = match f s with | some x => (cset f cells r).set s.c.toNat x | none => cset f cells r := by
  unfold cset; rw [List.foldl_append]; rfl
theorem cset_len (f : Sw → Option Int) : ∀ {rows : List Sw} {cells : List Int}, (cset f cells rows).length = cells.length := by
  intro rows
  induction rows with
  | nil => intro cells; rfl
  | cons s r ih => intro cells; rw [cset_cons, ih]; split <;> simp
theorem cset_other (f : Sw → Option Int) : ∀ {rows : List Sw} {cells : List Int} {j : Nat}, (∀ s ∈ rows, s.c.toNat ≠ j) → (cset f cells rows).getD j 0 = cells.getD j 0 := by
  intro rows
  induction rows with
  | nil => intro cells j _; rfl
  | cons s r ih =>
    intro cells j h
    rw [cset_cons, ih fun x hx => h x (List.mem_cons_of_mem _ hx)]
    split
    · rw [List.getD_eq_getElem?_getD, List.getElem?_set_ne (h s (by simp)), ← List.getD_eq_getElem?_getD]
    · rfl
theorem cset_at (f : Sw → Option Int) : ∀ {rows : List Sw} {cells : List Int} {last : Int}, swOk last rows = true → -1 ≤ last → cells.length = 16 → ∀ s ∈ rows, (cset f cells rows).getD s.c.toNat 0 = match f s with | some x => x | none => cells.getD s.c.toNat 0 := by
  intro rows
  induction rows with
  | nil => intro cells last _ _ _ s h; cases h
  | cons d r ih =>
    intro cells last h hl h16 s hs
    unfold swOk at h
    rw [Bool.and_eq_true, decide_eq_true_eq] at h
    obtain ⟨⟨a1, a2, _⟩, a3⟩ := h
    rw [cset_cons]
    rcases List.mem_cons.1 hs with rfl | hs
    · rw [cset_other f fun x hx => by
        obtain ⟨i, hi, e⟩ := List.mem_iff_getElem.1 hx
        have := swOk_lt a3 i x (by rw [List.getElem?_eq_getElem hi, e]); omega]
      cases f s with
      | none => rfl
      | some x =>
        simp only
        rw [List.getD_eq_getElem?_getD, List.getElem?_set_self (by omega)]; rfl
    · obtain ⟨i, hi, e⟩ := List.mem_iff_getElem.1 hs
      have hlt := swOk_lt a3 i s (by rw [List.getElem?_eq_getElem hi, e])
      rw [ih a3 (by omega) (by split <;> simp [h16]) s hs]
      cases f s with
      | some x => rfl
      | none =>
        simp only
        split
        · rw [List.getD_eq_getElem?_getD, List.getElem?_set_ne (by omega), ← List.getD_eq_getElem?_getD]
        · rfl
def dnRow : Int → List Sw → List Sw
  | _, [] => []
  | next, s :: r => ⟨next + s.c % 2, s.w % 4, s.n % 4⟩ :: dnRow (next + 2) r
theorem dnRow_cons (next : Int) (s : Sw) (r : List Sw) : dnRow next (s :: r) = ⟨next + s.c % 2, s.w % 4, s.n % 4⟩ :: dnRow (next + 2) r := rfl
theorem dnRow_ok : ∀ {ss : List Sw} {next : Int}, 0 ≤ next → next + 2 * (ss.length : Int) ≤ 16 → swOk (next - 1) (dnRow next ss) = true := by
  intro ss
  induction ss with
  | nil => intro next _ _; rfl
  | cons s r ih =>
    intro next h0 h1
    simp only [List.length_cons] at h1
    rw [dnRow_cons]
    unfold swOk
    rw [Bool.and_eq_true, decide_eq_true_eq]
    exact ⟨⟨by simp only; omega, by simp only; omega, by simp only; omega, by simp only; omega, by simp only; omega, by simp only; omega⟩, swOk_weaken (ih (next := next + 2) (by omega) (by omega)) (by simp only; omega)⟩
def hold (cells : List Int) (s : Sw) : Bool := decide (s.c < cells.length) && decide (cells.getD s.c.toNat 0 / 4 % 2 = 1)
def fBefore (cells : List Int) (s : Sw) : Option Int := if hold cells s then some (mineW 0) else none
def fWant (cells : List Int) (won : Bool) (s : Sw) : Option Int := if hold cells s then some (4 * if won then s.n else s.w) else none
section
variable {R : List Part} {h : GH} {K : Value → GH → Prop}
theorem T_HelpDone {g : GH} {vv sv : Value} {cells : List Int} {ss : List Sw} {won : Bool} (hp : All [baseP g] h) (rv : rowsAt g 1 vv (cells.map encI)) (rs : rowsAt g 3 sv (ss.map encS)) (hK : ∀ h', K (.bool true) h') : T Try.prog 8 [vv, sv, .bool won] h K := by
  apply S8_T
  unfold S8
  refine T_awake hp fun h1 hp => ?_
  (repeat first|(with_reducible first|refine wA ?_|refine wB ?_|refine wC ?_|refine wD ?_|refine wE ?_|refine wF ?_|refine wG ?_|refine wH ?_|refine wI ?_|refine wJ ?_|refine wN ?_|refine wT ?_|refine wU ?_)|((with_reducible refine isB ?_);first|refine wK rfl ?_|refine ld0 hp rfl ?_|refine ld1 hp rfl ?_|refine ld2 hp rfl ?_|refine ld3 hp rfl ?_|refine wP ?_|refine wQ ?_|refine wR ?_)|((with_reducible refine isIf ?_);first|refine wV ?_|refine wW ?_)|((with_reducible refine isHl ?_);first|refine hl0 hp rfl ?_|refine hl1 hp rfl ?_|refine hl2 hp rfl ?_|refine hl3 hp rfl ?_))
  have hvl : lnV vv = some (i64 cells.length) := by have := rv.len; rw [List.length_map] at this; exact this
  have hsl : lnV sv = some (i64 ss.length) := by have := rs.len; rw [List.length_map] at this; exact this
  have hsm : ss.length ≤ 9223372036854775807 := by have := rs.max; rw [List.length_map] at this; exact this
  refine Lfp_fam (ι := Nat × Value × List Sw) (fun p => [vv, sv, .bool won, p.2.1, i64 (2 * (p.1 : Int)), i64 p.1]) (fun p h' => p.1 ≤ ss.length ∧ p.1 ≤ 5 ∧ p.2.2 ++ dnRow (2 * (p.1 : Int)) ((ss.take 5).drop p.1) = dnRow 0 (ss.take 5) ∧ All (rowP 3 p.2.1 (p.2.2.map encS) :: [baseP g]) h') (fun p => ss.length - p.1) ?_ (0, .slice none 0 0, []) h1 ⟨by omega, by simp, rfl, hp.emp_cons (rowP_nil _ _)⟩
  rintro ⟨i, rw_, done⟩ h3 Y ⟨hi, hi5, hrow, hp⟩ again
  simp only at hi hi5 hrow hp
  simp only [tup_zero, tup_succ]
  have hmAll : swOk (-1) (dnRow 0 (ss.take 5)) = true := dnRow_ok (ss := ss.take 5) (next := 0) (by decide) (by rw [List.length_take]; omega)
  have key : (ss.take 5).drop i = [] → ∀ s1, S8_j2 s1 vv (.bool won) rw_ h3 K Y := by
    intro hend s1
    rw [hend] at hrow
    have hrow : done = dnRow 0 (ss.take 5) := by rw [← hrow]; simp [dnRow]
    have hm : swOk (-1) done = true := by rw [hrow]; exact hmAll
    have may := swMay_of hm
    have hn := sw_len may
    clear again hrow hend
    unfold S8_j2
    refine mk0 (size := 1) (bytes := 8) (zero := [.int .i64 0]) (n := 16) hp ⟨rfl, rfl⟩ (by decide) (by decide) fun wv h4 hp => ?_
    rw [zeros_enc] at hp
    -- what is to be, first as it is there
    refine Lfp_fam (ι := Nat × List Int) (fun p => [vv, .bool won, rw_, wv, i64 p.1]) (fun p h' => p.1 ≤ 16 ∧ p.2.length = 16 ∧ (∀ j : Nat, p.2.getD j 0 = if j < p.1 then vAt cells j * 4 else 0) ∧ All (rowP 1 wv (p.2.map encI) :: rowP 3 rw_ (done.map encS) :: [baseP g]) h') (fun p => 16 - p.1) ?_ (0, List.replicate 16 0) h4 ⟨by omega, by simp, fun j => by rw [if_neg (by omega), List.getD_eq_getElem?_getD, List.getElem?_replicate]; split <;> rfl, hp⟩
    clear hp
    rintro ⟨i, want⟩ h5 X ⟨hi, hwl, hwg, hp⟩ again
    simp only at hi hwl hwg hp
    simp only [tup_zero, tup_succ]
    (repeat first|(with_reducible first|refine wA ?_|refine wB ?_|refine wC ?_|refine wD ?_|refine wE ?_|refine wF ?_|refine wG ?_|refine wH ?_|refine wI ?_|refine wJ ?_|refine wN ?_|refine wT ?_|refine wU ?_)|((with_reducible refine isB ?_);first|refine wK rfl ?_|refine ld0 hp rfl ?_|refine ld1 hp rfl ?_|refine ld2 hp rfl ?_|refine ld3 hp rfl ?_|refine wP ?_|refine wQ ?_|refine wR ?_)|((with_reducible refine isIf ?_);first|refine wV ?_|refine wW ?_)|((with_reducible refine isHl ?_);first|refine hl0 hp rfl ?_|refine hl1 hp rfl ?_|refine hl2 hp rfl ?_|refine hl3 hp rfl ?_))
    refine ifV_cases (fun c => ?_) fun c => ?_
    · refine bnd_of hvl ?_
      (repeat first|(with_reducible first|refine wA ?_|refine wB ?_|refine wC ?_|refine wD ?_|refine wE ?_|refine wF ?_|refine wG ?_|refine wH ?_|refine wI ?_|refine wJ ?_|refine wN ?_|refine wT ?_|refine wU ?_)|((with_reducible refine isB ?_);first|refine wK rfl ?_|refine ld0 hp rfl ?_|refine ld1 hp rfl ?_|refine ld2 hp rfl ?_|refine ld3 hp rfl ?_|refine wP ?_|refine wQ ?_|refine wR ?_)|((with_reducible refine isIf ?_);first|refine wV ?_|refine wW ?_)|((with_reducible refine isHl ?_);first|refine hl0 hp rfl ?_|refine hl1 hp rfl ?_|refine hl2 hp rfl ?_|refine hl3 hp rfl ?_))
      refine ifV_cases (fun c2 => ?_) fun c2 => ?_
      · obtain ⟨x, hx⟩ : ∃ x, cells[i]? = some x := ⟨_, List.getElem?_eq_getElem (by omega)⟩
        obtain ⟨p, e1, e2⟩ := int_get (rv.le (baseP.le (hp.up 2))) hx
        refine bnd_of e1 (bnd_of e2 (bnd_of (binV_and_mask x 2 (by decide) (by decide)) ?_))
        (repeat first|(with_reducible first|refine wA ?_|refine wB ?_|refine wC ?_|refine wD ?_|refine wE ?_|refine wF ?_|refine wG ?_|refine wH ?_|refine wI ?_|refine wJ ?_|refine wN ?_|refine wT ?_|refine wU ?_)|((with_reducible refine isB ?_);first|refine wK rfl ?_|refine ld0 hp rfl ?_|refine ld1 hp rfl ?_|refine ld2 hp rfl ?_|refine ld3 hp rfl ?_|refine wP ?_|refine wQ ?_|refine wR ?_)|((with_reducible refine isIf ?_);first|refine wV ?_|refine wW ?_)|((with_reducible refine isHl ?_);first|refine hl0 hp rfl ?_|refine hl1 hp rfl ?_|refine hl2 hp rfl ?_|refine hl3 hp rfl ?_))
        refine setc hp (i := i) rfl (by omega) fun h6 hp => ?_
        · (repeat first|(with_reducible first|refine wA ?_|refine wB ?_|refine wC ?_|refine wD ?_|refine wE ?_|refine wF ?_|refine wG ?_|refine wH ?_|refine wI ?_|refine wJ ?_|refine wN ?_|refine wT ?_|refine wU ?_)|((with_reducible refine isB ?_);first|refine wK rfl ?_|refine ld0 hp rfl ?_|refine ld1 hp rfl ?_|refine ld2 hp rfl ?_|refine ld3 hp rfl ?_|refine wP ?_|refine wQ ?_|refine wR ?_)|((with_reducible refine isIf ?_);first|refine wV ?_|refine wW ?_)|((with_reducible refine isHl ?_);first|refine hl0 hp rfl ?_|refine hl1 hp rfl ?_|refine hl2 hp rfl ?_|refine hl3 hp rfl ?_))
          refine again (i + 1, want.set i (4 * (x % ((2 ^ 2 : Nat) : Int)))) _ ⟨by simp only; omega, by rw [List.length_set]; exact hwl, fun j => ?_, hp⟩ (by simp only; omega)
          simp only
          rw [List.getD_eq_getElem?_getD, List.getElem?_set]
          by_cases e : i = j
          · subst e
            rw [if_pos rfl, if_pos (by omega), if_pos (by omega)]
            unfold vAt
            rw [List.getD_eq_getElem?_getD, hx]
            simp only [Option.getD_some]
            show 4 * (x % 4) = _
            omega
          · rw [if_neg e, ← List.getD_eq_getElem?_getD, hwg j]
            by_cases q : j < i
            · rw [if_pos q, if_pos (by omega)]
            · rw [if_neg q, if_neg (by omega)]
      · (repeat first|(with_reducible first|refine wA ?_|refine wB ?_|refine wC ?_|refine wD ?_|refine wE ?_|refine wF ?_|refine wG ?_|refine wH ?_|refine wI ?_|refine wJ ?_|refine wN ?_|refine wT ?_|refine wU ?_)|((with_reducible refine isB ?_);first|refine wK rfl ?_|refine ld0 hp rfl ?_|refine ld1 hp rfl ?_|refine ld2 hp rfl ?_|refine ld3 hp rfl ?_|refine wP ?_|refine wQ ?_|refine wR ?_)|((with_reducible refine isIf ?_);first|refine wV ?_|refine wW ?_)|((with_reducible refine isHl ?_);first|refine hl0 hp rfl ?_|refine hl1 hp rfl ?_|refine hl2 hp rfl ?_|refine hl3 hp rfl ?_))
        refine again (i + 1, want) _ ⟨by simp only; omega, hwl, fun j => ?_, hp⟩ (by simp only; omega)
        simp only
        rw [hwg j]
        by_cases q : j < i
        · rw [if_pos q, if_pos (by omega)]
        · by_cases q2 : j < i + 1
          · have : j = i := by omega
            subst this
            rw [if_neg q, if_pos q2]
            unfold vAt
            rw [List.getD_eq_getElem?_getD, List.getElem?_eq_none (by omega)]; rfl
          · rw [if_neg q, if_neg q2]
    have hi16 : i = 16 := by omega
    subst hi16
    clear again
    have hwg : ∀ j : Nat, j < 16 → want.getD j 0 = vAt cells j * 4 := fun j hj => by rw [hwg j, if_pos hj]
    refine bs0 (size := 1) hp [] rfl rfl (by simp) (fun c hc => by cases hc) fun bv0 h6 hp => ?_
    have hr := hp.up 1
    refine ap0 hp (All.rows hr) (encI_good _) (by decide) (by simp [hwl]) fun bv h7 hp => ?_
    rw [List.nil_append] at hp
    -- cells that hold the descriptor still
    refine Lfp_fam (ι := Nat) (fun i => [vv, .bool won, rw_, wv, bv, i64 i]) (fun i h' => i ≤ done.length ∧ All (rowP 1 bv ((cset (fBefore cells) want (done.take i)).map encI) :: rowP 1 wv ((cset (fWant cells won) want (done.take i)).map encI) :: rowP 3 rw_ (done.map encS) :: [baseP g]) h') (fun i => done.length - i) ?_ 0 h7 ⟨by omega, hp⟩
    clear hp hr
    rintro i h8 Z ⟨hi, hp⟩ again
    simp only [tup_zero, tup_succ]
    have hrl : lnV rw_ = some (i64 done.length) := by have := (All.rows (hp.up 2)).len; rw [List.length_map] at this; exact this
    refine bnd_of hrl ?_
    (repeat first|(with_reducible first|refine wA ?_|refine wB ?_|refine wC ?_|refine wD ?_|refine wE ?_|refine wF ?_|refine wG ?_|refine wH ?_|refine wI ?_|refine wJ ?_|refine wN ?_|refine wT ?_|refine wU ?_)|((with_reducible refine isB ?_);first|refine wK rfl ?_|refine ld0 hp rfl ?_|refine ld1 hp rfl ?_|refine ld2 hp rfl ?_|refine ld3 hp rfl ?_|refine wP ?_|refine wQ ?_|refine wR ?_)|((with_reducible refine isIf ?_);first|refine wV ?_|refine wW ?_)|((with_reducible refine isHl ?_);first|refine hl0 hp rfl ?_|refine hl1 hp rfl ?_|refine hl2 hp rfl ?_|refine hl3 hp rfl ?_))
    refine ifV_cases (fun c => ?_) fun c => ?_
    · obtain ⟨s, hs⟩ : ∃ s, done[i]? = some s := ⟨_, List.getElem?_eq_getElem (by omega)⟩
      obtain ⟨m0, m1, m2, m3, m4, m5⟩ := sw_mem may hs
      have hdr : ∀ {h' : GH} {P1 P2 : Part}, All (P1 :: P2 :: rowP 3 rw_ (done.map encS) :: [baseP g]) h' → rowsAt h' 3 rw_ (done.map encS) := fun hp => All.rows (hp.up 2)
      obtain ⟨bb, oo, e0, e1, e2, e3⟩ := sw_fld (hdr hp) hs
      have hsn1 : cset (fBefore cells) want (done.take (i + 1)) = match fBefore cells s with | some x => (cset (fBefore cells) want (done.take i)).set s.c.toNat x | none => cset (fBefore cells) want (done.take i) := by
        rw [List.take_add_one, hs]; exact cset_snoc _ _ _ _
      have hsn2 : cset (fWant cells won) want (done.take (i + 1)) = match fWant cells won s with | some x => (cset (fWant cells won) want (done.take i)).set s.c.toNat x | none => cset (fWant cells won) want (done.take i) := by
        rw [List.take_add_one, hs]; exact cset_snoc _ _ _ _
      have es : ((s.c.toNat : Nat) : Int) = s.c := by omega
      have no : hold cells s = false → ∀ s1 s2 s3 a1 a2, S8_j3 s1 s2 s3 vv (.bool won) rw_ wv bv (i64 i) (i64 s.c) (.bool false) h8 K a1 a2 Z := by
        intro hh s1 s2 s3 a1 a2
        unfold S8_j3
        (repeat first|(with_reducible first|refine wA ?_|refine wB ?_|refine wC ?_|refine wD ?_|refine wE ?_|refine wF ?_|refine wG ?_|refine wH ?_|refine wI ?_|refine wJ ?_|refine wN ?_|refine wT ?_|refine wU ?_)|((with_reducible refine isB ?_);first|refine wK rfl ?_|refine ld0 hp rfl ?_|refine ld1 hp rfl ?_|refine ld2 hp rfl ?_|refine ld3 hp rfl ?_|refine wP ?_|refine wQ ?_|refine wR ?_)|((with_reducible refine isIf ?_);first|refine wV ?_|refine wW ?_)|((with_reducible refine isHl ?_);first|refine hl0 hp rfl ?_|refine hl1 hp rfl ?_|refine hl2 hp rfl ?_|refine hl3 hp rfl ?_))
        refine again (i + 1) _ ⟨by omega, ?_⟩ (by omega)
        have f1 : fBefore cells s = none := by unfold fBefore; rw [hh]; rfl
        have f2 : fWant cells won s = none := by unfold fWant; rw [hh]; rfl
        rw [hsn1, hsn2, f1, f2]; exact hp
      refine bnd_of e0 ?_
      (repeat first|(with_reducible first|refine wA ?_|refine wB ?_|refine wC ?_|refine wD ?_|refine wE ?_|refine wF ?_|refine wG ?_|refine wH ?_|refine wI ?_|refine wJ ?_|refine wN ?_|refine wT ?_|refine wU ?_)|((with_reducible refine isB ?_);first|refine wK rfl ?_|refine ld0 hp rfl ?_|refine ld1 hp rfl ?_|refine ld2 hp rfl ?_|refine ld3 hp rfl ?_|refine wP ?_|refine wQ ?_|refine wR ?_)|((with_reducible refine isIf ?_);first|refine wV ?_|refine wW ?_)|((with_reducible refine isHl ?_);first|refine hl0 hp rfl ?_|refine hl1 hp rfl ?_|refine hl2 hp rfl ?_|refine hl3 hp rfl ?_))
      refine bnd_of e1 ?_
      refine bnd_of hvl ?_
      (repeat first|(with_reducible first|refine wA ?_|refine wB ?_|refine wC ?_|refine wD ?_|refine wE ?_|refine wF ?_|refine wG ?_|refine wH ?_|refine wI ?_|refine wJ ?_|refine wN ?_|refine wT ?_|refine wU ?_)|((with_reducible refine isB ?_);first|refine wK rfl ?_|refine ld0 hp rfl ?_|refine ld1 hp rfl ?_|refine ld2 hp rfl ?_|refine ld3 hp rfl ?_|refine wP ?_|refine wQ ?_|refine wR ?_)|((with_reducible refine isIf ?_);first|refine wV ?_|refine wW ?_)|((with_reducible refine isHl ?_);first|refine hl0 hp rfl ?_|refine hl1 hp rfl ?_|refine hl2 hp rfl ?_|refine hl3 hp rfl ?_))
      refine ifV_cases (fun c1 => ?_) fun c1 => no (by unfold hold; rw [decide_eq_false (by omega)]; rfl) _ _ _ _ _
      obtain ⟨x, hx⟩ : ∃ x, cells[s.c.toNat]? = some x := ⟨_, List.getElem?_eq_getElem (by omega)⟩
      obtain ⟨p, e4, e5⟩ := int_get (rv.le (baseP.le (hp.up 3))) hx
      rw [es] at e4
      refine bnd_of e4 (bnd_of e5 (bnd_of (shr2 x) (bnd_of (binV_and_mask (x / 4) 1 (by decide) (by decide)) ?_)))
      (repeat first|(with_reducible first|refine wA ?_|refine wB ?_|refine wC ?_|refine wD ?_|refine wE ?_|refine wF ?_|refine wG ?_|refine wH ?_|refine wI ?_|refine wJ ?_|refine wN ?_|refine wT ?_|refine wU ?_)|((with_reducible refine isB ?_);first|refine wK rfl ?_|refine ld0 hp rfl ?_|refine ld1 hp rfl ?_|refine ld2 hp rfl ?_|refine ld3 hp rfl ?_|refine wP ?_|refine wQ ?_|refine wR ?_)|((with_reducible refine isIf ?_);first|refine wV ?_|refine wW ?_)|((with_reducible refine isHl ?_);first|refine hl0 hp rfl ?_|refine hl1 hp rfl ?_|refine hl2 hp rfl ?_|refine hl3 hp rfl ?_))
      by_cases hx1 : x / 4 % ((2 ^ 1 : Nat) : Int) = 1
      · rw [decide_eq_true hx1]
        have hh : hold cells s = true := by
          unfold hold
          rw [decide_eq_true (by omega), List.getD_eq_getElem?_getD, hx]
          simp only [Option.getD_some, Bool.true_and, decide_eq_true_eq]
          exact hx1
        have f1 : fBefore cells s = some (mineW 0) := by unfold fBefore; rw [hh]; rfl
        have f2 : fWant cells won s = some (4 * if won then s.n else s.w) := by unfold fWant; rw [hh]; rfl
        rw [f1] at hsn1
        rw [f2] at hsn2
        unfold S8_j3
        (repeat first|(with_reducible first|refine wA ?_|refine wB ?_|refine wC ?_|refine wD ?_|refine wE ?_|refine wF ?_|refine wG ?_|refine wH ?_|refine wI ?_|refine wJ ?_|refine wN ?_|refine wT ?_|refine wU ?_)|((with_reducible refine isB ?_);first|refine wK rfl ?_|refine ld0 hp rfl ?_|refine ld1 hp rfl ?_|refine ld2 hp rfl ?_|refine ld3 hp rfl ?_|refine wP ?_|refine wQ ?_|refine wR ?_)|((with_reducible refine isIf ?_);first|refine wV ?_|refine wW ?_)|((with_reducible refine isHl ?_);first|refine hl0 hp rfl ?_|refine hl1 hp rfl ?_|refine hl2 hp rfl ?_|refine hl3 hp rfl ?_))
        refine T_mine (by decide) (by decide) ?_
        have hl1 : (cset (fBefore cells) want (done.take i)).length = 16 := by rw [cset_len]; exact hwl
        have hl2 : (cset (fWant cells won) want (done.take i)).length = 16 := by rw [cset_len]; exact hwl
        have fin : ∀ {h' : GH} (u : Int), u = (4 * if won then s.n else s.w) → All (rowP 1 wv (((cset (fWant cells won) want (done.take i)).set s.c.toNat u).map encI) :: rowP 1 bv (((cset (fBefore cells) want (done.take i)).set s.c.toNat (mineW 0)).map encI) :: rowP 3 rw_ (done.map encS) :: [baseP g]) h' → Z (tup [vv, .bool won, rw_, wv, bv, i64 ((i : Int) + 1)]) h' := by
          intro h' u eu hp
          refine again (i + 1) _ ⟨by omega, ?_⟩ (by omega)
          rw [hsn1, hsn2]
          rw [eu] at hp
          exact hp.up 1
        refine setc hp (i := s.c.toNat) (by omega) (by omega) fun h9 hp => ?_
        replace hp := hp.up 1
        obtain ⟨bb, oo, e0, e1, e2, e3⟩ := sw_fld (hdr hp) hs
        refine bnd_of e0 ?_
        (repeat first|(with_reducible first|refine wA ?_|refine wB ?_|refine wC ?_|refine wD ?_|refine wE ?_|refine wF ?_|refine wG ?_|refine wH ?_|refine wI ?_|refine wJ ?_|refine wN ?_|refine wT ?_|refine wU ?_)|((with_reducible refine isB ?_);first|refine wK rfl ?_|refine ld0 hp rfl ?_|refine ld1 hp rfl ?_|refine ld2 hp rfl ?_|refine ld3 hp rfl ?_|refine wP ?_|refine wQ ?_|refine wR ?_)|((with_reducible refine isIf ?_);first|refine wV ?_|refine wW ?_)|((with_reducible refine isHl ?_);first|refine hl0 hp rfl ?_|refine hl1 hp rfl ?_|refine hl2 hp rfl ?_|refine hl3 hp rfl ?_))
        refine bnd_of e2 ?_
        (repeat first|(with_reducible first|refine wA ?_|refine wB ?_|refine wC ?_|refine wD ?_|refine wE ?_|refine wF ?_|refine wG ?_|refine wH ?_|refine wI ?_|refine wJ ?_|refine wN ?_|refine wT ?_|refine wU ?_)|((with_reducible refine isB ?_);first|refine wK rfl ?_|refine ld0 hp rfl ?_|refine ld1 hp rfl ?_|refine ld2 hp rfl ?_|refine ld3 hp rfl ?_|refine wP ?_|refine wQ ?_|refine wR ?_)|((with_reducible refine isIf ?_);first|refine wV ?_|refine wW ?_)|((with_reducible refine isHl ?_);first|refine hl0 hp rfl ?_|refine hl1 hp rfl ?_|refine hl2 hp rfl ?_|refine hl3 hp rfl ?_))
        refine setc hp (i := s.c.toNat) (by omega) (by omega) fun h10 hp => ?_
        cases won with
        | true =>
          (repeat first|(with_reducible first|refine wA ?_|refine wB ?_|refine wC ?_|refine wD ?_|refine wE ?_|refine wF ?_|refine wG ?_|refine wH ?_|refine wI ?_|refine wJ ?_|refine wN ?_|refine wT ?_|refine wU ?_)|((with_reducible refine isB ?_);first|refine wK rfl ?_|refine ld0 hp rfl ?_|refine ld1 hp rfl ?_|refine ld2 hp rfl ?_|refine ld3 hp rfl ?_|refine wP ?_|refine wQ ?_|refine wR ?_)|((with_reducible refine isIf ?_);first|refine wV ?_|refine wW ?_)|((with_reducible refine isHl ?_);first|refine hl0 hp rfl ?_|refine hl1 hp rfl ?_|refine hl2 hp rfl ?_|refine hl3 hp rfl ?_))
          obtain ⟨bb, oo, e0, e1, e2, e3⟩ := sw_fld (hdr hp) hs
          refine bnd_of e0 ?_
          (repeat first|(with_reducible first|refine wA ?_|refine wB ?_|refine wC ?_|refine wD ?_|refine wE ?_|refine wF ?_|refine wG ?_|refine wH ?_|refine wI ?_|refine wJ ?_|refine wN ?_|refine wT ?_|refine wU ?_)|((with_reducible refine isB ?_);first|refine wK rfl ?_|refine ld0 hp rfl ?_|refine ld1 hp rfl ?_|refine ld2 hp rfl ?_|refine ld3 hp rfl ?_|refine wP ?_|refine wQ ?_|refine wR ?_)|((with_reducible refine isIf ?_);first|refine wV ?_|refine wW ?_)|((with_reducible refine isHl ?_);first|refine hl0 hp rfl ?_|refine hl1 hp rfl ?_|refine hl2 hp rfl ?_|refine hl3 hp rfl ?_))
          refine bnd_of e3 ?_
          (repeat first|(with_reducible first|refine wA ?_|refine wB ?_|refine wC ?_|refine wD ?_|refine wE ?_|refine wF ?_|refine wG ?_|refine wH ?_|refine wI ?_|refine wJ ?_|refine wN ?_|refine wT ?_|refine wU ?_)|((with_reducible refine isB ?_);first|refine wK rfl ?_|refine ld0 hp rfl ?_|refine ld1 hp rfl ?_|refine ld2 hp rfl ?_|refine ld3 hp rfl ?_|refine wP ?_|refine wQ ?_|refine wR ?_)|((with_reducible refine isIf ?_);first|refine wV ?_|refine wW ?_)|((with_reducible refine isHl ?_);first|refine hl0 hp rfl ?_|refine hl1 hp rfl ?_|refine hl2 hp rfl ?_|refine hl3 hp rfl ?_))
          refine setc hp (i := s.c.toNat) (by omega) (by rw [List.length_set]; omega) fun h11 hp => ?_
          (repeat first|(with_reducible first|refine wA ?_|refine wB ?_|refine wC ?_|refine wD ?_|refine wE ?_|refine wF ?_|refine wG ?_|refine wH ?_|refine wI ?_|refine wJ ?_|refine wN ?_|refine wT ?_|refine wU ?_)|((with_reducible refine isB ?_);first|refine wK rfl ?_|refine ld0 hp rfl ?_|refine ld1 hp rfl ?_|refine ld2 hp rfl ?_|refine ld3 hp rfl ?_|refine wP ?_|refine wQ ?_|refine wR ?_)|((with_reducible refine isIf ?_);first|refine wV ?_|refine wW ?_)|((with_reducible refine isHl ?_);first|refine hl0 hp rfl ?_|refine hl1 hp rfl ?_|refine hl2 hp rfl ?_|refine hl3 hp rfl ?_))
          rw [List.set_set] at hp
          exact fin _ rfl hp
        | false =>
          (repeat first|(with_reducible first|refine wA ?_|refine wB ?_|refine wC ?_|refine wD ?_|refine wE ?_|refine wF ?_|refine wG ?_|refine wH ?_|refine wI ?_|refine wJ ?_|refine wN ?_|refine wT ?_|refine wU ?_)|((with_reducible refine isB ?_);first|refine wK rfl ?_|refine ld0 hp rfl ?_|refine ld1 hp rfl ?_|refine ld2 hp rfl ?_|refine ld3 hp rfl ?_|refine wP ?_|refine wQ ?_|refine wR ?_)|((with_reducible refine isIf ?_);first|refine wV ?_|refine wW ?_)|((with_reducible refine isHl ?_);first|refine hl0 hp rfl ?_|refine hl1 hp rfl ?_|refine hl2 hp rfl ?_|refine hl3 hp rfl ?_))
          exact fin _ rfl hp
      · rw [decide_eq_false hx1]
        refine no ?_ _ _ _ _ _
        unfold hold
        rw [List.getD_eq_getElem?_getD, hx]
        simp only [Option.getD_some]
        rw [decide_eq_false (show ¬ (x / 4 % 2 = 1) from hx1), Bool.and_false]
    · have hid : i = done.length := by omega
      subst hid
      rw [List.take_length] at hp
      clear again
      have hb4 : ∀ s ∈ done, (cset (fBefore cells) want done).getD s.c.toNat 0 = if hold cells s then mineW 0 else vAt cells s.c.toNat * 4 := fun s hs => by
        obtain ⟨i, hi, e⟩ := List.mem_iff_getElem.1 hs
        obtain ⟨m0, m1, _⟩ := sw_mem may (i := i) (d := s) (by rw [List.getElem?_eq_getElem hi, e])
        rw [cset_at _ hm (by decide) hwl s hs, ← hwg _ (by omega)]
        unfold fBefore
        cases hold cells s <;> rfl
      have hw4 : ∀ s ∈ done, (cset (fWant cells won) want done).getD s.c.toNat 0 = if hold cells s then 4 * (if won then s.n else s.w) else vAt cells s.c.toNat * 4 := fun s hs => by
        obtain ⟨i, hi, e⟩ := List.mem_iff_getElem.1 hs
        obtain ⟨m0, m1, _⟩ := sw_mem may (i := i) (d := s) (by rw [List.getElem?_eq_getElem hi, e])
        rw [cset_at _ hm (by decide) hwl s hs, ← hwg _ (by omega)]
        unfold fWant
        cases hold cells s <;> rfl
      have hb5 : ∀ j : Nat, j < 16 → (∀ s ∈ done, s.c.toNat ≠ j) → (cset (fBefore cells) want done).getD j 0 = vAt cells j * 4 := fun j hj h => by rw [cset_other _ h, hwg j hj]
      have hw5 : ∀ j : Nat, j < 16 → (∀ s ∈ done, s.c.toNat ≠ j) → (cset (fWant cells won) want done).getD j 0 = vAt cells j * 4 := fun j hj h => by rw [cset_other _ h, hwg j hj]
      have hbl : (cset (fBefore cells) want done).length = 16 := by rw [cset_len]; exact hwl
      have hw2l : (cset (fWant cells won) want done).length = 16 := by rw [cset_len]; exact hwl
      generalize cset (fBefore cells) want done = before at hp hb4 hb5 hbl
      generalize cset (fWant cells won) want done = want2 at hp hw4 hw5 hw2l
      have hvr : ∀ j, 0 ≤ vAt cells j ∧ vAt cells j < 4 := fun j => by unfold vAt; omega
      have hmr : I64 (mineW 0) := mineW_range (by decide) (by decide)
      have hbr : ∀ x ∈ before, I64 x := fun x hx => by
        obtain ⟨j, hj, e⟩ := List.mem_iff_getElem.1 hx
        have hx2 : before.getD j 0 = x := by rw [List.getD_eq_getElem?_getD, List.getElem?_eq_getElem hj, e]; rfl
        have hv := hvr j
        by_cases hex : ∃ s ∈ done, s.c.toNat = j
        · obtain ⟨s, hs, rfl⟩ := hex
          have := hb4 s hs
          rw [hx2] at this
          rw [this]; split
          · exact hmr
          · constructor <;> omega
        · have := hb5 j (by omega) fun s hs e => hex ⟨s, hs, e⟩
          rw [hx2] at this
          rw [this]; constructor <;> omega
      have hp0 : All (rowP 3 rw_ (done.map encS) :: rowP 1 bv (before.map encI) :: rowP 1 wv (want2.map encI) :: [baseP g]) h8 := hp.re 3 [2, 0, 1]
      obtain ⟨sa, sc, _, rfl, _⟩ := hp0.row
      refine bs0 (size := 1) hp0 [[.slice sa (done.map encS).length sc]] rfl rfl (by simp) (fun c hc => by rw [List.mem_singleton.1 hc]; exact ⟨rfl, rfl⟩) fun dv h9 hp => ?_
      refine T_shelf (us := [.slice sa (done.map encS).length sc]) (cells := before) (dss := [done]) hp (fun h' hp => (hp.up 2).rows) (fun h' hp => ⟨hp.rows, .cons (hp.up 1).rows .nil⟩) hbr fun a b h10 hp => ?_
      obtain ⟨hA, hcell, hdsc⟩ := shelf_view (cells := before) (dss := [done]) hbr
      have D : Dsc (shelfA before [done]) ((0 : Nat) : Int) 1 0 done := hdsc 0 done (by decide) rfl may
      generalize shelfA before [done] = A at hp hA hcell D
      (repeat first|(with_reducible first|refine wA ?_|refine wB ?_|refine wC ?_|refine wD ?_|refine wE ?_|refine wF ?_|refine wG ?_|refine wH ?_|refine wI ?_|refine wJ ?_|refine wN ?_|refine wT ?_|refine wU ?_)|((with_reducible refine isB ?_);first|refine wK rfl ?_|refine ld0 hp rfl ?_|refine ld1 hp rfl ?_|refine ld2 hp rfl ?_|refine ld3 hp rfl ?_|refine wP ?_|refine wQ ?_|refine wR ?_)|((with_reducible refine isIf ?_);first|refine wV ?_|refine wW ?_)|((with_reducible refine isHl ?_);first|refine hl0 hp rfl ?_|refine hl1 hp rfl ?_|refine hl2 hp rfl ?_|refine hl3 hp rfl ?_))
      have hb : baseOf 0 = 34 := rfl
      have j4 : ∀ (z : Int), z = (if won then 1 else 2) → ∀ s1 s2 s3 a1 a2 a3, S8_j4 s1 s2 s3 (.bool won) (.slice sa (done.map encS).length sc) wv (ptr a) (i64 z) h10 K a1 a2 a3 := by
        intro z hz s1 s2 s3 a1 a2 a3
        have hz12 : z = 1 ∨ z = 2 := by rw [hz]; cases won <;> simp
        unfold S8_j4
        (repeat first|(with_reducible first|refine wA ?_|refine wB ?_|refine wC ?_|refine wD ?_|refine wE ?_|refine wF ?_|refine wG ?_|refine wH ?_|refine wI ?_|refine wJ ?_|refine wN ?_|refine wT ?_|refine wU ?_)|((with_reducible refine isB ?_);first|refine wK rfl ?_|refine ld0 hp rfl ?_|refine ld1 hp rfl ?_|refine ld2 hp rfl ?_|refine ld3 hp rfl ?_|refine wP ?_|refine wQ ?_|refine wR ?_)|((with_reducible refine isIf ?_);first|refine wV ?_|refine wW ?_)|((with_reducible refine isHl ?_);first|refine hl0 hp rfl ?_|refine hl1 hp rfl ?_|refine hl2 hp rfl ?_|refine hl3 hp rfl ?_))
        have hzr : I64 (4 * (4 + z)) := by constructor <;> omega
        refine L_Store hp (by decide) (by decide) hzr fun h11 hp => ?_
        refine T_mine (by decide) (by decide) ?_
        refine T_NewMine hp (by decide) (by decide) (by decide) (by decide) (by decide) (by decide) fun b' h12 hp => ?_
        (repeat first|(with_reducible first|refine wA ?_|refine wB ?_|refine wC ?_|refine wD ?_|refine wE ?_|refine wF ?_|refine wG ?_|refine wH ?_|refine wI ?_|refine wJ ?_|refine wN ?_|refine wT ?_|refine wU ?_)|((with_reducible refine isB ?_);first|refine wK rfl ?_|refine ld0 hp rfl ?_|refine ld1 hp rfl ?_|refine ld2 hp rfl ?_|refine ld3 hp rfl ?_|refine wP ?_|refine wQ ?_|refine wR ?_)|((with_reducible refine isIf ?_);first|refine wV ?_|refine wW ?_)|((with_reducible refine isHl ?_);first|refine hl0 hp rfl ?_|refine hl1 hp rfl ?_|refine hl2 hp rfl ?_|refine hl3 hp rfl ?_))
        refine T_Num ?_
        (repeat first|(with_reducible first|refine wA ?_|refine wB ?_|refine wC ?_|refine wD ?_|refine wE ?_|refine wF ?_|refine wG ?_|refine wH ?_|refine wI ?_|refine wJ ?_|refine wN ?_|refine wT ?_|refine wU ?_)|((with_reducible refine isB ?_);first|refine wK rfl ?_|refine ld0 hp rfl ?_|refine ld1 hp rfl ?_|refine ld2 hp rfl ?_|refine ld3 hp rfl ?_|refine wP ?_|refine wQ ?_|refine wR ?_)|((with_reducible refine isIf ?_);first|refine wV ?_|refine wW ?_)|((with_reducible refine isHl ?_);first|refine hl0 hp rfl ?_|refine hl1 hp rfl ?_|refine hl2 hp rfl ?_|refine hl3 hp rfl ?_))
        have hfo := fresh_ok (t := 1) (q := 3) (s := 0) (by decide) (by decide) (by decide) (by decide) (by decide) (by decide)
        have hB : (A.put 34 (4 * (4 + z))).ok := hA.put _ hzr
        have atB : ∀ j, 0 ≤ j → j < 634 → (A.put 34 (4 * (4 + z))).at j = if 34 = j then 4 * (4 + z) else A.at j := fun j j0 j1 => at_put hA (by decide) (by decide) j0 j1
        have oB : On (A.put 34 (4 * (4 + z))) (Wh.new 0 1) z done := by
          have o : On A (Wh.new 0 1) 0 done := fresh_on (k := 0) hA (by decide) may D
          refine ⟨hB, o.life, may, ?_⟩
          refine ⟨?_, ?_, fun i d e => ?_, fun i d e => ?_, fun i d e => ?_⟩
          · show (A.put 34 (4 * (4 + z))).at 34 = stateW 1 z
            rw [atB 34 (by decide) (by decide), if_pos rfl]; unfold stateW; omega
          · show (A.put 34 (4 * (4 + z))).at (34 + 1) = _
            rw [atB _ (by decide) (by decide), if_neg (by decide)]; exact D.cnt
          · have := o.ent_addr e (p := 0) (by decide) (by decide)
            have e2 : baseOf (Wh.new 0 1).s = 34 := rfl
            rw [e2] at this ⊢
            rw [atB _ (by omega) (by omega), if_neg (by omega)]; exact D.c i d e
          · have := o.ent_addr e (p := 1) (by decide) (by decide)
            have e2 : baseOf (Wh.new 0 1).s = 34 := rfl
            rw [e2] at this ⊢
            rw [atB _ (by omega) (by omega), if_neg (by omega)]; exact D.w i d e
          · have := o.ent_addr e (p := 2) (by decide) (by decide)
            have e2 : baseOf (Wh.new 0 1).s = 34 := rfl
            rw [e2] at this ⊢
            rw [atB _ (by omega) (by omega), if_neg (by omega)]; exact D.n i d e
        generalize A.put 34 (4 * (4 + z)) = B at hp hB atB oB
        obtain ⟨f, A', gg, o', fc, fr⟩ := finish (s := 0) (g := 1) (st := z) (H := Help.fresh 1 3 0) (w := Wh.new 0 1) oB rfl rfl rfl hz12 rfl rfl
        have hA' := (gg.ok hfo hB).2
        have hruns := gg.runs (N := 60) (m := 0) rfl (by have : done.length ≤ 16 := hn; omega) (by omega)
        rw [Nat.zero_add] at hruns
        have hzw : decide (z = 1) = won := by rw [hz]; cases won <;> rfl
        rw [hzw] at hruns fc
        generalize hH' : (Help.fresh 1 3 0).popped (Help.fresh 1 3 0).q 0 1 won f = H' at hruns
        have hwon : H'.won = won := by rw [← hH']; rfl
        have hq' : H'.q = 3 := by rw [← hH']; rfl
        have hst : A'.at 34 = 4 * (4 + z) := by
          have := o'.d.st
          have e : A'.at (baseOf (Wh.new 0 1).s) = A'.at 34 := rfl
          rw [e] at this
          rw [this]; show stateW 1 z = _; unfold stateW; omega
        have hmine : (Form.mcas 0 1).number = mineW 0 := (mineW_eq 0).symm
        have hfin : ∀ j : Nat, j < 16 → A'.at j = want2.getD j 0 := fun j hj => by
          by_cases hex : ∃ s ∈ done, s.c.toNat = j
          · obtain ⟨s, hs, rfl⟩ := hex
            obtain ⟨i, hi, e⟩ := List.mem_iff_getElem.1 hs
            have hd : done[i]? = some s := by rw [List.getElem?_eq_getElem hi, e]
            obtain ⟨m0, m1, _⟩ := sw_mem may hd
            have es : ((s.c.toNat : Nat) : Int) = s.c := by omega
            have hv := hvr s.c.toNat
            have hbc : B.at s.c = before.getD s.c.toNat 0 := by rw [atB _ m0 (by omega), if_neg (by omega), hcell s.c m0 m1]
            rw [es, fc i s hd, hbc, hb4 s hs, hw4 s hs, hmine]
            cases hold cells s with
            | true => rw [if_pos rfl, if_pos rfl, if_pos rfl]; omega
            | false =>
              simp only [Bool.false_eq_true, if_false]
              rw [if_neg (by unfold mineW; omega)]
          · have h' : ∀ s ∈ done, s.c.toNat ≠ j := fun s hs e => hex ⟨s, hs, e⟩
            rw [fr j (by omega) (by omega) fun i d hd e => by
              obtain ⟨m0, m1, _⟩ := sw_mem may hd
              exact h' d (List.mem_of_getElem? hd) (by omega), atB _ (by omega) (by omega), if_neg (by omega), hw5 j hj h', hcell j (by omega) (by omega)]
            exact hb5 j hj h'
        replace hp : All (helpP b' (Help.fresh 1 3 0) :: arP 110 a B :: rowP 3 (.slice sa (done.map encS).length sc) (done.map encS) :: rowP 1 wv (want2.map encI) :: [baseP g]) h12 := hp.re 7 [0, 1, 4, 6]
        unfold S8_j5
        generalize Help.fresh 1 3 0 = H0 at hp hruns hfo
        refine Lfp_fam (ι := Nat × Help × Ar × Bool × Nat) (fun p => [.bool won, .slice sa (done.map encS).length sc, wv, ptr a, i64 z, ptr b', i64 p.2.2.2.2, .bool p.2.2.2.1, i64 p.1]) (fun p h' => p.1 ≤ 60 ∧ p.2.2.2.2 ≤ p.1 ∧ p.2.1.ok ∧ p.2.2.1.ok ∧ runs (60 - p.1) p.2.1 p.2.2.1 p.2.2.2.1 p.2.2.2.2 = some (H', A', true, 2 + 3 * done.length) ∧ All (helpP b' p.2.1 :: arP 110 a p.2.2.1 :: rowP 3 (.slice sa (done.map encS).length sc) (done.map encS) :: rowP 1 wv (want2.map encI) :: [baseP g]) h') (fun p => 60 - p.1) ?_ (0, H0, B, false, 0) h12 ⟨by omega, by simp, hfo, hB, hruns, hp⟩
        clear hruns hp
        rintro ⟨i, G, C, ov, m⟩ h13 Z ⟨hi, hm', hG, hC, hq, hp⟩ again
        simp only at hi hm' hG hC hq hp
        simp only [tup_zero, tup_succ]
        have key2 : (G, C, ov, m) = (H', A', true, 2 + 3 * done.length) → ∀ s1 s2 s3 s4 a1 a2 a3 a4, S8_j7 s1 s2 s3 s4 (.bool won) (.slice sa (done.map encS).length sc) wv (ptr a) (i64 z) (ptr b') (i64 m) (.bool ov) h13 K a1 a2 a3 a4 := by
          intro e s1 s2 s3 s4 a1 a2 a3 a4
          cases e
          unfold S8_j7
          refine T_All (hp.up 1) fun av h14 hp => ?_
          refine L_Load (hp.up 1) (by decide) (by decide) fun h15 hp => ?_
          rw [List.length_map]
          (repeat first|(with_reducible first|refine wA ?_|refine wB ?_|refine wC ?_|refine wD ?_|refine wE ?_|refine wF ?_|refine wG ?_|refine wH ?_|refine wI ?_|refine wJ ?_|refine wN ?_|refine wT ?_|refine wU ?_)|((with_reducible refine isB ?_);first|refine wK rfl ?_|refine ld0 hp rfl ?_|refine ld1 hp rfl ?_|refine ld2 hp rfl ?_|refine ld3 hp rfl ?_|refine wP ?_|refine wQ ?_|refine wR ?_)|((with_reducible refine isIf ?_);first|refine wV ?_|refine wW ?_)|((with_reducible refine isHl ?_);first|refine hl0 hp rfl ?_|refine hl1 hp rfl ?_|refine hl2 hp rfl ?_|refine hl3 hp rfl ?_))
          rw [decide_eq_true (show (((2 + 3 * done.length : Nat) : Int) = 2 + 3 * (done.length : Int)) by omega)]
          (repeat first|(with_reducible first|refine wA ?_|refine wB ?_|refine wC ?_|refine wD ?_|refine wE ?_|refine wF ?_|refine wG ?_|refine wH ?_|refine wI ?_|refine wJ ?_|refine wN ?_|refine wT ?_|refine wU ?_)|((with_reducible refine isB ?_);first|refine wK rfl ?_|refine ld0 hp rfl ?_|refine ld1 hp rfl ?_|refine ld2 hp rfl ?_|refine ld3 hp rfl ?_|refine wP ?_|refine wQ ?_|refine wR ?_)|((with_reducible refine isIf ?_);first|refine wV ?_|refine wW ?_)|((with_reducible refine isHl ?_);first|refine hl0 hp rfl ?_|refine hl1 hp rfl ?_|refine hl2 hp rfl ?_|refine hl3 hp rfl ?_))
          refine T_Won (hp.up 2) ?_
          rw [hwon]
          (repeat first|(with_reducible first|refine wA ?_|refine wB ?_|refine wC ?_|refine wD ?_|refine wE ?_|refine wF ?_|refine wG ?_|refine wH ?_|refine wI ?_|refine wJ ?_|refine wN ?_|refine wT ?_|refine wU ?_)|((with_reducible refine isB ?_);first|refine wK rfl ?_|refine ld0 hp rfl ?_|refine ld1 hp rfl ?_|refine ld2 hp rfl ?_|refine ld3 hp rfl ?_|refine wP ?_|refine wQ ?_|refine wR ?_)|((with_reducible refine isIf ?_);first|refine wV ?_|refine wW ?_)|((with_reducible refine isHl ?_);first|refine hl0 hp rfl ?_|refine hl1 hp rfl ?_|refine hl2 hp rfl ?_|refine hl3 hp rfl ?_))
          rw [beq_self_eq_true]
          (repeat first|(with_reducible first|refine wA ?_|refine wB ?_|refine wC ?_|refine wD ?_|refine wE ?_|refine wF ?_|refine wG ?_|refine wH ?_|refine wI ?_|refine wJ ?_|refine wN ?_|refine wT ?_|refine wU ?_)|((with_reducible refine isB ?_);first|refine wK rfl ?_|refine ld0 hp rfl ?_|refine ld1 hp rfl ?_|refine ld2 hp rfl ?_|refine ld3 hp rfl ?_|refine wP ?_|refine wQ ?_|refine wR ?_)|((with_reducible refine isIf ?_);first|refine wV ?_|refine wW ?_)|((with_reducible refine isHl ?_);first|refine hl0 hp rfl ?_|refine hl1 hp rfl ?_|refine hl2 hp rfl ?_|refine hl3 hp rfl ?_))
          refine T_Seq (hp.up 2) ?_
          rw [hq']
          (repeat first|(with_reducible first|refine wA ?_|refine wB ?_|refine wC ?_|refine wD ?_|refine wE ?_|refine wF ?_|refine wG ?_|refine wH ?_|refine wI ?_|refine wJ ?_|refine wN ?_|refine wT ?_|refine wU ?_)|((with_reducible refine isB ?_);first|refine wK rfl ?_|refine ld0 hp rfl ?_|refine ld1 hp rfl ?_|refine ld2 hp rfl ?_|refine ld3 hp rfl ?_|refine wP ?_|refine wQ ?_|refine wR ?_)|((with_reducible refine isIf ?_);first|refine wV ?_|refine wW ?_)|((with_reducible refine isHl ?_);first|refine hl0 hp rfl ?_|refine hl1 hp rfl ?_|refine hl2 hp rfl ?_|refine hl3 hp rfl ?_))
          have hpr := hp.up 1
          refine bnd_of (All.len hpr) ?_
          rw [List.length_map, hA'.words]
          (repeat first|(with_reducible first|refine wA ?_|refine wB ?_|refine wC ?_|refine wD ?_|refine wE ?_|refine wF ?_|refine wG ?_|refine wH ?_|refine wI ?_|refine wJ ?_|refine wN ?_|refine wT ?_|refine wU ?_)|((with_reducible refine isB ?_);first|refine wK rfl ?_|refine ld0 hp rfl ?_|refine ld1 hp rfl ?_|refine ld2 hp rfl ?_|refine ld3 hp rfl ?_|refine wP ?_|refine wQ ?_|refine wR ?_)|((with_reducible refine isIf ?_);first|refine wV ?_|refine wW ?_)|((with_reducible refine isHl ?_);first|refine hl0 hp rfl ?_|refine hl1 hp rfl ?_|refine hl2 hp rfl ?_|refine hl3 hp rfl ?_))
          refine T_cellsSame hpr (All.rows (hp.up 4)) hA' hw2l hfin ?_
          (repeat first|(with_reducible first|refine wA ?_|refine wB ?_|refine wC ?_|refine wD ?_|refine wE ?_|refine wF ?_|refine wG ?_|refine wH ?_|refine wI ?_|refine wJ ?_|refine wN ?_|refine wT ?_|refine wU ?_)|((with_reducible refine isB ?_);first|refine wK rfl ?_|refine ld0 hp rfl ?_|refine ld1 hp rfl ?_|refine ld2 hp rfl ?_|refine ld3 hp rfl ?_|refine wP ?_|refine wQ ?_|refine wR ?_)|((with_reducible refine isIf ?_);first|refine wV ?_|refine wW ?_)|((with_reducible refine isHl ?_);first|refine hl0 hp rfl ?_|refine hl1 hp rfl ?_|refine hl2 hp rfl ?_|refine hl3 hp rfl ?_))
          refine T_Num ?_
          (repeat first|(with_reducible first|refine wA ?_|refine wB ?_|refine wC ?_|refine wD ?_|refine wE ?_|refine wF ?_|refine wG ?_|refine wH ?_|refine wI ?_|refine wJ ?_|refine wN ?_|refine wT ?_|refine wU ?_)|((with_reducible refine isB ?_);first|refine wK rfl ?_|refine ld0 hp rfl ?_|refine ld1 hp rfl ?_|refine ld2 hp rfl ?_|refine ld3 hp rfl ?_|refine wP ?_|refine wQ ?_|refine wR ?_)|((with_reducible refine isIf ?_);first|refine wV ?_|refine wW ?_)|((with_reducible refine isHl ?_);first|refine hl0 hp rfl ?_|refine hl1 hp rfl ?_|refine hl2 hp rfl ?_|refine hl3 hp rfl ?_))
          rw [hst, decide_eq_true rfl]
          exact hK _
        (repeat first|(with_reducible first|refine wA ?_|refine wB ?_|refine wC ?_|refine wD ?_|refine wE ?_|refine wF ?_|refine wG ?_|refine wH ?_|refine wI ?_|refine wJ ?_|refine wN ?_|refine wT ?_|refine wU ?_)|((with_reducible refine isB ?_);first|refine wK rfl ?_|refine ld0 hp rfl ?_|refine ld1 hp rfl ?_|refine ld2 hp rfl ?_|refine ld3 hp rfl ?_|refine wP ?_|refine wQ ?_|refine wR ?_)|((with_reducible refine isIf ?_);first|refine wV ?_|refine wW ?_)|((with_reducible refine isHl ?_);first|refine hl0 hp rfl ?_|refine hl1 hp rfl ?_|refine hl2 hp rfl ?_|refine hl3 hp rfl ?_))
        refine ifV_cases (fun c => ?_) fun c => ?_
        · cases ov with
          | true =>
            (repeat first|(with_reducible first|refine wA ?_|refine wB ?_|refine wC ?_|refine wD ?_|refine wE ?_|refine wF ?_|refine wG ?_|refine wH ?_|refine wI ?_|refine wJ ?_|refine wN ?_|refine wT ?_|refine wU ?_)|((with_reducible refine isB ?_);first|refine wK rfl ?_|refine ld0 hp rfl ?_|refine ld1 hp rfl ?_|refine ld2 hp rfl ?_|refine ld3 hp rfl ?_|refine wP ?_|refine wQ ?_|refine wR ?_)|((with_reducible refine isIf ?_);first|refine wV ?_|refine wW ?_)|((with_reducible refine isHl ?_);first|refine hl0 hp rfl ?_|refine hl1 hp rfl ?_|refine hl2 hp rfl ?_|refine hl3 hp rfl ?_))
            refine key2 ?_ _ _ _ _ _ _ _ _
            obtain ⟨n, hn⟩ : ∃ n, 60 - i = n + 1 := ⟨59 - i, by omega⟩
            rw [hn] at hq
            unfold runs at hq
            exact Option.some.inj hq
          | false =>
            (repeat first|(with_reducible first|refine wA ?_|refine wB ?_|refine wC ?_|refine wD ?_|refine wE ?_|refine wF ?_|refine wG ?_|refine wH ?_|refine wI ?_|refine wJ ?_|refine wN ?_|refine wT ?_|refine wU ?_)|((with_reducible refine isB ?_);first|refine wK rfl ?_|refine ld0 hp rfl ?_|refine ld1 hp rfl ?_|refine ld2 hp rfl ?_|refine ld3 hp rfl ?_|refine wP ?_|refine wQ ?_|refine wR ?_)|((with_reducible refine isIf ?_);first|refine wV ?_|refine wW ?_)|((with_reducible refine isHl ?_);first|refine hl0 hp rfl ?_|refine hl1 hp rfl ?_|refine hl2 hp rfl ?_|refine hl3 hp rfl ?_))
            unfold S8_j6
            obtain ⟨n, hn⟩ : ∃ n, 60 - i = n + 1 := ⟨59 - i, by omega⟩
            rw [hn] at hq
            unfold runs at hq
            simp only at hq
            refine T_Step (hp.up 1) hG fun h14 hp => ?_
            have hst := Help.step_ok hG hC
            split at hq
            · rename_i e0
              rw [e0]
              (repeat first|(with_reducible first|refine wA ?_|refine wB ?_|refine wC ?_|refine wD ?_|refine wE ?_|refine wF ?_|refine wG ?_|refine wH ?_|refine wI ?_|refine wJ ?_|refine wN ?_|refine wT ?_|refine wU ?_)|((with_reducible refine isB ?_);first|refine wK rfl ?_|refine ld0 hp rfl ?_|refine ld1 hp rfl ?_|refine ld2 hp rfl ?_|refine ld3 hp rfl ?_|refine wP ?_|refine wQ ?_|refine wR ?_)|((with_reducible refine isIf ?_);first|refine wV ?_|refine wW ?_)|((with_reducible refine isHl ?_);first|refine hl0 hp rfl ?_|refine hl1 hp rfl ?_|refine hl2 hp rfl ?_|refine hl3 hp rfl ?_))
              refine T_Num ?_
              (repeat first|(with_reducible first|refine wA ?_|refine wB ?_|refine wC ?_|refine wD ?_|refine wE ?_|refine wF ?_|refine wG ?_|refine wH ?_|refine wI ?_|refine wJ ?_|refine wN ?_|refine wT ?_|refine wU ?_)|((with_reducible refine isB ?_);first|refine wK rfl ?_|refine ld0 hp rfl ?_|refine ld1 hp rfl ?_|refine ld2 hp rfl ?_|refine ld3 hp rfl ?_|refine wP ?_|refine wQ ?_|refine wR ?_)|((with_reducible refine isIf ?_);first|refine wV ?_|refine wW ?_)|((with_reducible refine isHl ?_);first|refine hl0 hp rfl ?_|refine hl1 hp rfl ?_|refine hl2 hp rfl ?_|refine hl3 hp rfl ?_))
              refine again (i + 1, (G.step C).1, (G.step C).2.2, (G.step C).1.over, m + 1) _ ⟨by simp only; omega, by simp only; omega, hst.1, hst.2, ?_, hp.up 1⟩ (by simp only; omega)
              have en : 60 - (i + 1) = n := by omega
              simp only [en]; exact hq
            · cases hq
        · have : 60 - i = 0 := by omega
          rw [this] at hq
          unfold runs at hq
          exact key2 (Option.some.inj hq) _ _ _ _ _ _ _ _
      cases won with
      | true => (repeat first|(with_reducible first|refine wA ?_|refine wB ?_|refine wC ?_|refine wD ?_|refine wE ?_|refine wF ?_|refine wG ?_|refine wH ?_|refine wI ?_|refine wJ ?_|refine wN ?_|refine wT ?_|refine wU ?_)|((with_reducible refine isB ?_);first|refine wK rfl ?_|refine ld0 hp rfl ?_|refine ld1 hp rfl ?_|refine ld2 hp rfl ?_|refine ld3 hp rfl ?_|refine wP ?_|refine wQ ?_|refine wR ?_)|((with_reducible refine isIf ?_);first|refine wV ?_|refine wW ?_)|((with_reducible refine isHl ?_);first|refine hl0 hp rfl ?_|refine hl1 hp rfl ?_|refine hl2 hp rfl ?_|refine hl3 hp rfl ?_)); exact j4 1 rfl _ _ _ _ _ _
      | false => (repeat first|(with_reducible first|refine wA ?_|refine wB ?_|refine wC ?_|refine wD ?_|refine wE ?_|refine wF ?_|refine wG ?_|refine wH ?_|refine wI ?_|refine wJ ?_|refine wN ?_|refine wT ?_|refine wU ?_)|((with_reducible refine isB ?_);first|refine wK rfl ?_|refine ld0 hp rfl ?_|refine ld1 hp rfl ?_|refine ld2 hp rfl ?_|refine ld3 hp rfl ?_|refine wP ?_|refine wQ ?_|refine wR ?_)|((with_reducible refine isIf ?_);first|refine wV ?_|refine wW ?_)|((with_reducible refine isHl ?_);first|refine hl0 hp rfl ?_|refine hl1 hp rfl ?_|refine hl2 hp rfl ?_|refine hl3 hp rfl ?_)); exact j4 2 rfl _ _ _ _ _ _
  refine bnd_of hsl ?_
  (repeat first|(with_reducible first|refine wA ?_|refine wB ?_|refine wC ?_|refine wD ?_|refine wE ?_|refine wF ?_|refine wG ?_|refine wH ?_|refine wI ?_|refine wJ ?_|refine wN ?_|refine wT ?_|refine wU ?_)|((with_reducible refine isB ?_);first|refine wK rfl ?_|refine ld0 hp rfl ?_|refine ld1 hp rfl ?_|refine ld2 hp rfl ?_|refine ld3 hp rfl ?_|refine wP ?_|refine wQ ?_|refine wR ?_)|((with_reducible refine isIf ?_);first|refine wV ?_|refine wW ?_)|((with_reducible refine isHl ?_);first|refine hl0 hp rfl ?_|refine hl1 hp rfl ?_|refine hl2 hp rfl ?_|refine hl3 hp rfl ?_))
  have edrop : ∀ s, ss[i]? = some s → i < 5 → (ss.take 5).drop i = s :: (ss.take 5).drop (i + 1) := fun s hs h5 =>
    alRow_drop (by rw [List.getElem?_take, if_pos h5]; exact hs)
  refine ifV_cases (fun c => ?_) fun c => ?_
  · (repeat first|(with_reducible first|refine wA ?_|refine wB ?_|refine wC ?_|refine wD ?_|refine wE ?_|refine wF ?_|refine wG ?_|refine wH ?_|refine wI ?_|refine wJ ?_|refine wN ?_|refine wT ?_|refine wU ?_)|((with_reducible refine isB ?_);first|refine wK rfl ?_|refine ld0 hp rfl ?_|refine ld1 hp rfl ?_|refine ld2 hp rfl ?_|refine ld3 hp rfl ?_|refine wP ?_|refine wQ ?_|refine wR ?_)|((with_reducible refine isIf ?_);first|refine wV ?_|refine wW ?_)|((with_reducible refine isHl ?_);first|refine hl0 hp rfl ?_|refine hl1 hp rfl ?_|refine hl2 hp rfl ?_|refine hl3 hp rfl ?_))
    refine ifV_cases (fun c5 => ?_) fun c5 => key (by rw [List.drop_eq_nil_iff, List.length_take]; omega) _
    clear key
    unfold S8_j1
    obtain ⟨s, hs⟩ : ∃ s, ss[i]? = some s := ⟨_, List.getElem?_eq_getElem (by omega)⟩
    have hrs : rowsAt h3 3 sv (ss.map encS) := rs.le (baseP.le (hp.up 1))
    obtain ⟨bb, oo, e0, e1, e2, e3⟩ := sw_fld hrs hs
    rw [edrop s hs (by omega), dnRow_cons] at hrow
    refine bnd_of e0 ?_
    (repeat first|(with_reducible first|refine wA ?_|refine wB ?_|refine wC ?_|refine wD ?_|refine wE ?_|refine wF ?_|refine wG ?_|refine wH ?_|refine wI ?_|refine wJ ?_|refine wN ?_|refine wT ?_|refine wU ?_)|((with_reducible refine isB ?_);first|refine wK rfl ?_|refine ld0 hp rfl ?_|refine ld1 hp rfl ?_|refine ld2 hp rfl ?_|refine ld3 hp rfl ?_|refine wP ?_|refine wQ ?_|refine wR ?_)|((with_reducible refine isIf ?_);first|refine wV ?_|refine wW ?_)|((with_reducible refine isHl ?_);first|refine hl0 hp rfl ?_|refine hl1 hp rfl ?_|refine hl2 hp rfl ?_|refine hl3 hp rfl ?_))
    refine bnd_of e1 (bnd_of (binV_and_mask s.c 1 (by decide) (by decide)) ?_)
    (repeat first|(with_reducible first|refine wA ?_|refine wB ?_|refine wC ?_|refine wD ?_|refine wE ?_|refine wF ?_|refine wG ?_|refine wH ?_|refine wI ?_|refine wJ ?_|refine wN ?_|refine wT ?_|refine wU ?_)|((with_reducible refine isB ?_);first|refine wK rfl ?_|refine ld0 hp rfl ?_|refine ld1 hp rfl ?_|refine ld2 hp rfl ?_|refine ld3 hp rfl ?_|refine wP ?_|refine wQ ?_|refine wR ?_)|((with_reducible refine isIf ?_);first|refine wV ?_|refine wW ?_)|((with_reducible refine isHl ?_);first|refine hl0 hp rfl ?_|refine hl1 hp rfl ?_|refine hl2 hp rfl ?_|refine hl3 hp rfl ?_))
    refine bnd_of e0 ?_
    (repeat first|(with_reducible first|refine wA ?_|refine wB ?_|refine wC ?_|refine wD ?_|refine wE ?_|refine wF ?_|refine wG ?_|refine wH ?_|refine wI ?_|refine wJ ?_|refine wN ?_|refine wT ?_|refine wU ?_)|((with_reducible refine isB ?_);first|refine wK rfl ?_|refine ld0 hp rfl ?_|refine ld1 hp rfl ?_|refine ld2 hp rfl ?_|refine ld3 hp rfl ?_|refine wP ?_|refine wQ ?_|refine wR ?_)|((with_reducible refine isIf ?_);first|refine wV ?_|refine wW ?_)|((with_reducible refine isHl ?_);first|refine hl0 hp rfl ?_|refine hl1 hp rfl ?_|refine hl2 hp rfl ?_|refine hl3 hp rfl ?_))
    refine bnd_of e2 (bnd_of (binV_and_mask s.w 2 (by decide) (by decide)) (bnd_of e0 ?_))
    (repeat first|(with_reducible first|refine wA ?_|refine wB ?_|refine wC ?_|refine wD ?_|refine wE ?_|refine wF ?_|refine wG ?_|refine wH ?_|refine wI ?_|refine wJ ?_|refine wN ?_|refine wT ?_|refine wU ?_)|((with_reducible refine isB ?_);first|refine wK rfl ?_|refine ld0 hp rfl ?_|refine ld1 hp rfl ?_|refine ld2 hp rfl ?_|refine ld3 hp rfl ?_|refine wP ?_|refine wQ ?_|refine wR ?_)|((with_reducible refine isIf ?_);first|refine wV ?_|refine wW ?_)|((with_reducible refine isHl ?_);first|refine hl0 hp rfl ?_|refine hl1 hp rfl ?_|refine hl2 hp rfl ?_|refine hl3 hp rfl ?_))
    refine bnd_of e3 (bnd_of (binV_and_mask s.n 2 (by decide) (by decide)) ?_)
    (repeat first|(with_reducible first|refine wA ?_|refine wB ?_|refine wC ?_|refine wD ?_|refine wE ?_|refine wF ?_|refine wG ?_|refine wH ?_|refine wI ?_|refine wJ ?_|refine wN ?_|refine wT ?_|refine wU ?_)|((with_reducible refine isB ?_);first|refine wK rfl ?_|refine ld0 hp rfl ?_|refine ld1 hp rfl ?_|refine ld2 hp rfl ?_|refine ld3 hp rfl ?_|refine wP ?_|refine wQ ?_|refine wR ?_)|((with_reducible refine isIf ?_);first|refine wV ?_|refine wW ?_)|((with_reducible refine isHl ?_);first|refine hl0 hp rfl ?_|refine hl1 hp rfl ?_|refine hl2 hp rfl ?_|refine hl3 hp rfl ?_))
    have hdone : done.length + 1 ≤ 16 := by
      have h1 := hmAll
      rw [← hrow] at h1
      have h2 := sw_len (swMay_of h1)
      rw [List.length_append, List.length_cons] at h2; omega
    refine bs0 (size := 3) hp ([Sw.mk (2 * (i : Int) + s.c % ((2 ^ 1 : Nat) : Int)) (s.w % ((2 ^ 2 : Nat) : Int)) (s.n % ((2 ^ 2 : Nat) : Int))].map encS) rfl rfl (by simp) (encS_good _) fun xv h4 hp => ?_
    have hr := hp.rows
    refine ap0 (hp.up 1) hr (encS_good _) (by decide) (by rw [List.length_map]; simp; omega) fun rv' h5 hp => ?_
    (repeat first|(with_reducible first|refine wA ?_|refine wB ?_|refine wC ?_|refine wD ?_|refine wE ?_|refine wF ?_|refine wG ?_|refine wH ?_|refine wI ?_|refine wJ ?_|refine wN ?_|refine wT ?_|refine wU ?_)|((with_reducible refine isB ?_);first|refine wK rfl ?_|refine ld0 hp rfl ?_|refine ld1 hp rfl ?_|refine ld2 hp rfl ?_|refine ld3 hp rfl ?_|refine wP ?_|refine wQ ?_|refine wR ?_)|((with_reducible refine isIf ?_);first|refine wV ?_|refine wW ?_)|((with_reducible refine isHl ?_);first|refine hl0 hp rfl ?_|refine hl1 hp rfl ?_|refine hl2 hp rfl ?_|refine hl3 hp rfl ?_))
    rw [← List.map_append] at hp
    have := again (i + 1, rv', done ++ [Sw.mk (2 * (i : Int) + s.c % ((2 ^ 1 : Nat) : Int)) (s.w % ((2 ^ 2 : Nat) : Int)) (s.n % ((2 ^ 2 : Nat) : Int))]) _ ⟨by simp only; omega, by simp only; omega, ?_, hp.re 3 [0, 2]⟩ (by simp only; omega)
    · rw [show (2 * (((i + 1, rv', done ++ [Sw.mk (2 * (i : Int) + s.c % ((2 ^ 1 : Nat) : Int)) (s.w % ((2 ^ 2 : Nat) : Int)) (s.n % ((2 ^ 2 : Nat) : Int))]) : Nat × Value × List Sw).1 : Int)) = 2 * (i : Int) + 2 by simp only; omega] at this
      exact this
    · rw [List.append_assoc]
      simp only
      rw [show (2 * ((i + 1 : Nat) : Int)) = 2 * (i : Int) + 2 by omega]
      exact hrow
  · exact key (by rw [List.drop_eq_nil_iff, List.length_take]; omega) _
end
end Go.Proofs.Ytfcignalfdifnaa
namespace Go.Proofs.Ytfcignalfdifnaa
open Go GW Go.Proofs
attribute [local irreducible] bnd ldV stV ifV binV eqI
set_option linter.unusedVariables false
set_option linter.unusedSimpArgs false
set_option maxRecDepth 20000
/-- the four steps of an entry's frame that is alone -/
def entF (H : Help) (A : Ar) (s g e t q : Int) (d : Sw) (o : Bool) : Nat → Help × Ar
  | 0 => (H, A)
  | 1 => ({ H with top := .ent ⟨s, g, e, t, q, 1, d.c, 0, false⟩, slot := s, gen := g }, A.ld (baseOf s + (2 + 3 * e + 0)))
  | 2 => ({ H with top := .ent ⟨s, g, e, t, q, 2, d.c, d.w * 4, false⟩, slot := s, gen := g }, (A.ld (baseOf s + (2 + 3 * e + 0))).ld (baseOf s + (2 + 3 * e + 1)))
  | 3 => ({ H with top := .ent ⟨s, g, e, t, q, 3, d.c, d.w * 4, o⟩, slot := s, gen := g }, ((A.ld (baseOf s + (2 + 3 * e + 0))).ld (baseOf s + (2 + 3 * e + 1))).ld (baseOf s))
  | _ => ({ H with top := .ent ⟨s, g, e, t, q, 4, d.c, d.w * 4, o⟩, slot := s, gen := g, won := false, over := true }, (((A.ld (baseOf s + (2 + 3 * e + 0))).ld (baseOf s + (2 + 3 * e + 1))).ld (baseOf s)).cas d.c (Form.entry s g e t q).number (if o then (Form.mcas s g).number else d.w * 4))
theorem ent_run {A : Ar} {s g st t q : Int} {ds : List Sw} {k : Nat} {d : Sw} {H : Help} (hA : A.ok) (l : Life s g) (may : swMay ds = true) (D : Dsc A s g st ds) (hd : ds[k]? = some d) (s0 : 0 ≤ st) (s1 : st < 4) (ho : H.over = false) (hr : H.rest = []) (ht : H.top = .ent (.new s g k t q)) (hw : H.won = false) :
    ∀ i, i < 4 → ((entF H A s g k t q d (decide (st = 0)) i).1).step (entF H A s g k t q d (decide (st = 0)) i).2 = ((entF H A s g k t q d (decide (st = 0)) (i + 1)).1, 0, (entF H A s g k t q d (decide (st = 0)) (i + 1)).2) ∧ ((entF H A s g k t q d (decide (st = 0)) (i + 1)).1).over = decide (i = 3) := by
  obtain ⟨m0, m1, m2, m3, m4, m5⟩ := sw_mem may hd
  have hkl := (List.getElem?_eq_some_iff.1 hd).1
  have hl := sw_len may
  have hb : baseOf s = 34 + s * 50 := rfl
  have s0' := l.s0; have s1' := l.s1
  obtain ⟨Ht, Hq, Hr, Htop, Hs, Hg, Hw, Hov⟩ := H
  simp only at ho hr ht hw
  subst ho hr ht hw
  have a0 : 0 ≤ baseOf s + (2 + 3 * (k : Int) + 0) ∧ baseOf s + (2 + 3 * (k : Int) + 0) < 634 := by omega
  have a1 : 0 ≤ baseOf s + (2 + 3 * (k : Int) + 1) ∧ baseOf s + (2 + 3 * (k : Int) + 1) < 634 := by omega
  have a2 : 0 ≤ baseOf s ∧ baseOf s < 634 := by omega
  have e0 := D.c k d hd
  have e1 := D.w k d hd
  have e2 := D.st
  have hA1 := hA.ld (baseOf s + (2 + 3 * (k : Int) + 0))
  have hA2 := hA1.ld (baseOf s + (2 + 3 * (k : Int) + 1))
  rw [← at_ld hA a0.1 a0.2 a1.1 a1.2] at e1
  rw [← at_ld hA a0.1 a0.2 a2.1 a2.2, ← at_ld hA1 a1.1 a1.2 a2.1 a2.2] at e2
  have v0 := valOf_val m0 (by omega : d.c < 1099511627776)
  have v1 := valOf_val m2 m3
  have i0 := isVal_val (most := 15) m0 (by omega : d.c < 1099511627776) (by omega)
  have i1 := isVal_val (most := 1099511627775) m2 m3 (by omega)
  have i2 := stateW_val l.g0 l.g1 s0 s1
  have i3 : decide (stateW g st = stateW g 0) = decide (st = 0) := decide_eq_decide.2 stateW_inj
  intro i hi
  rcases i with _ | _ | _ | _ | i
  · refine ⟨?_, rfl⟩
    rw [Help.step_eq rfl]
    simp only [entF, Fr.step, En.step, En.new, Help.take, e0, v0, i0, Option.bind_none, Fr.s, Fr.g, if_true, if_false, Bool.true_eq_false]
  · refine ⟨?_, rfl⟩
    rw [Help.step_eq rfl]
    simp only [entF, Fr.step, En.step, En.new, Help.take, e1, v1, i1, Option.bind_none, Fr.s, Fr.g, if_true, if_false, Bool.true_eq_false]
  · refine ⟨?_, rfl⟩
    rw [Help.step_eq rfl]
    simp only [entF, Fr.step, En.step, En.new, Help.take, e2, i2, i3, Option.bind_none, Fr.s, Fr.g, if_true, if_false, Bool.true_eq_false]
  · refine ⟨?_, rfl⟩
    rw [Help.step_eq rfl]
    simp only [entF, Fr.step, En.step, En.new, Help.take, Option.bind_none, Fr.s, Fr.g, Fr.won, if_true, if_false, Bool.true_eq_false]
  · omega
section
variable {R : List Part} {h : GH} {K : Value → GH → Prop}
theorem T_HelpEntry {g : GH} {was state entry thread seq : Int} (hp : All [baseP g] h) (hK : ∀ h', K (.bool true) h') : T Try.prog 7 [i64 was, i64 state, i64 entry, i64 thread, i64 seq] h K := by
  apply S7_T
  unfold S7
  refine T_awake hp fun h1 hp => ?_
  (repeat first|(with_reducible first|refine wA ?_|refine wB ?_|refine wC ?_|refine wD ?_|refine wE ?_|refine wF ?_|refine wG ?_|refine wH ?_|refine wI ?_|refine wJ ?_|refine wN ?_|refine wT ?_|refine wU ?_)|((with_reducible refine isB ?_);first|refine wK rfl ?_|refine ld0 hp rfl ?_|refine ld1 hp rfl ?_|refine ld2 hp rfl ?_|refine ld3 hp rfl ?_|refine wP ?_|refine wQ ?_|refine wR ?_)|((with_reducible refine isIf ?_);first|refine wV ?_|refine wW ?_)|((with_reducible refine isHl ?_);first|refine hl0 hp rfl ?_|refine hl1 hp rfl ?_|refine hl2 hp rfl ?_|refine hl3 hp rfl ?_))
  refine bnd_of (binV_and_mask was 3 (by decide) (by decide)) ?_
  have w0 : 0 ≤ was % ((2 ^ 3 : Nat) : Int) ∧ was % ((2 ^ 3 : Nat) : Int) < 8 := by omega
  generalize was % ((2 ^ 3 : Nat) : Int) = w at w0 ⊢
  refine bnd_of (binV_and_mask state 10 (by decide) (by decide)) ?_
  have z0 : 0 ≤ state % ((2 ^ 10 : Nat) : Int) := by omega
  generalize state % ((2 ^ 10 : Nat) : Int) = z at z0 ⊢
  refine bnd_of (show binV .rem (i64 z) (.int .i64 3) = some (i64 (z % 3)) by rw [binV_rem, if_neg (by decide), Int.tmod_eq_emod_of_nonneg z0]) ?_
  have s0 : 0 ≤ z % 3 ∧ z % 3 < 3 := by omega
  generalize z % 3 = s at s0 ⊢
  refine bnd_of (binV_and_mask entry 1 (by decide) (by decide)) ?_
  obtain ⟨k, hk, ek⟩ : ∃ k : Nat, k < 2 ∧ entry % ((2 ^ 1 : Nat) : Int) = k := ⟨(entry % 2).toNat, by omega, by omega⟩
  rw [ek]
  (repeat first|(with_reducible first|refine wA ?_|refine wB ?_|refine wC ?_|refine wD ?_|refine wE ?_|refine wF ?_|refine wG ?_|refine wH ?_|refine wI ?_|refine wJ ?_|refine wN ?_|refine wT ?_|refine wU ?_)|((with_reducible refine isB ?_);first|refine wK rfl ?_|refine ld0 hp rfl ?_|refine ld1 hp rfl ?_|refine ld2 hp rfl ?_|refine ld3 hp rfl ?_|refine wP ?_|refine wQ ?_|refine wR ?_)|((with_reducible refine isIf ?_);first|refine wV ?_|refine wW ?_)|((with_reducible refine isHl ?_);first|refine hl0 hp rfl ?_|refine hl1 hp rfl ?_|refine hl2 hp rfl ?_|refine hl3 hp rfl ?_))
  have hrow : ∃ d, [Sw.mk 2 w 9, Sw.mk 6 w 8][k]? = some d ∧ d.w = w ∧ d.c = 2 + 4 * k := by
    rcases k with _ | _ | k
    · exact ⟨_, rfl, rfl, rfl⟩
    · exact ⟨_, rfl, rfl, rfl⟩
    · omega
  obtain ⟨d, hd, hdw, hdc⟩ := hrow
  have may : swMay [Sw.mk 2 w 9, Sw.mk 6 w 8] = true := by
    simp [swMay, swOk]
    exact ⟨⟨by simp only; omega, by simp only; omega, by simp only; omega, by simp only; omega, by simp only; omega, by simp only; omega⟩, ⟨by simp only; omega, by simp only; omega, by simp only; omega, by simp only; omega, by simp only; omega, by simp only; omega⟩⟩
  refine bs0 (size := 3) hp ([Sw.mk 2 w 9, Sw.mk 6 w 8].map encS) rfl rfl (by simp) (encS_good _) fun rw_ h2 hp => ?_
  refine mk0 (size := 1) (bytes := 8) (zero := [.int .i64 0]) (n := 16) hp ⟨rfl, rfl⟩ (by decide) (by decide) fun cv h2 hp => ?_
  rw [zeros_enc] at hp
  obtain ⟨bb, oo, e0, e1, e2, e3⟩ := sw_fld (All.rows (hp.up 1)) hd
  refine bnd_of e0 ?_
  (repeat first|(with_reducible first|refine wA ?_|refine wB ?_|refine wC ?_|refine wD ?_|refine wE ?_|refine wF ?_|refine wG ?_|refine wH ?_|refine wI ?_|refine wJ ?_|refine wN ?_|refine wT ?_|refine wU ?_)|((with_reducible refine isB ?_);first|refine wK rfl ?_|refine ld0 hp rfl ?_|refine ld1 hp rfl ?_|refine ld2 hp rfl ?_|refine ld3 hp rfl ?_|refine wP ?_|refine wQ ?_|refine wR ?_)|((with_reducible refine isIf ?_);first|refine wV ?_|refine wW ?_)|((with_reducible refine isHl ?_);first|refine hl0 hp rfl ?_|refine hl1 hp rfl ?_|refine hl2 hp rfl ?_|refine hl3 hp rfl ?_))
  refine bnd_of e1 ?_
  (repeat first|(with_reducible first|refine wA ?_|refine wB ?_|refine wC ?_|refine wD ?_|refine wE ?_|refine wF ?_|refine wG ?_|refine wH ?_|refine wI ?_|refine wJ ?_|refine wN ?_|refine wT ?_|refine wU ?_)|((with_reducible refine isB ?_);first|refine wK rfl ?_|refine ld0 hp rfl ?_|refine ld1 hp rfl ?_|refine ld2 hp rfl ?_|refine ld3 hp rfl ?_|refine wP ?_|refine wQ ?_|refine wR ?_)|((with_reducible refine isIf ?_);first|refine wV ?_|refine wW ?_)|((with_reducible refine isHl ?_);first|refine hl0 hp rfl ?_|refine hl1 hp rfl ?_|refine hl2 hp rfl ?_|refine hl3 hp rfl ?_))
  refine bnd_of (binV_and_mask thread 2 (by decide) (by decide)) ?_
  have t0 : 0 ≤ thread % ((2 ^ 2 : Nat) : Int) ∧ thread % ((2 ^ 2 : Nat) : Int) < 4 := by omega
  generalize thread % ((2 ^ 2 : Nat) : Int) = t at t0 ⊢
  (repeat first|(with_reducible first|refine wA ?_|refine wB ?_|refine wC ?_|refine wD ?_|refine wE ?_|refine wF ?_|refine wG ?_|refine wH ?_|refine wI ?_|refine wJ ?_|refine wN ?_|refine wT ?_|refine wU ?_)|((with_reducible refine isB ?_);first|refine wK rfl ?_|refine ld0 hp rfl ?_|refine ld1 hp rfl ?_|refine ld2 hp rfl ?_|refine ld3 hp rfl ?_|refine wP ?_|refine wQ ?_|refine wR ?_)|((with_reducible refine isIf ?_);first|refine wV ?_|refine wW ?_)|((with_reducible refine isHl ?_);first|refine hl0 hp rfl ?_|refine hl1 hp rfl ?_|refine hl2 hp rfl ?_|refine hl3 hp rfl ?_))
  refine bnd_of (binV_and_mask seq 20 (by decide) (by decide)) ?_
  have q0 : 0 ≤ seq % ((2 ^ 20 : Nat) : Int) ∧ seq % ((2 ^ 20 : Nat) : Int) < 1048576 := by omega
  generalize seq % ((2 ^ 20 : Nat) : Int) = q at q0 ⊢
  (repeat first|(with_reducible first|refine wA ?_|refine wB ?_|refine wC ?_|refine wD ?_|refine wE ?_|refine wF ?_|refine wG ?_|refine wH ?_|refine wI ?_|refine wJ ?_|refine wN ?_|refine wT ?_|refine wU ?_)|((with_reducible refine isB ?_);first|refine wK rfl ?_|refine ld0 hp rfl ?_|refine ld1 hp rfl ?_|refine ld2 hp rfl ?_|refine ld3 hp rfl ?_|refine wP ?_|refine wQ ?_|refine wR ?_)|((with_reducible refine isIf ?_);first|refine wV ?_|refine wW ?_)|((with_reducible refine isHl ?_);first|refine hl0 hp rfl ?_|refine hl1 hp rfl ?_|refine hl2 hp rfl ?_|refine hl3 hp rfl ?_))
  have eref : 4 * (((256 + (k : Int)) * 4 + t) * 1048576 + q) + 1 = (Form.entry 0 1 k t q).number := by
    simp only [Form.number]; omega
  rw [eref]
  have href : I64 (Form.entry 0 1 k t q).number := by simp only [Form.number]; constructor <;> omega
  have hrd : read (Form.entry 0 1 k t q).number = some (.entry 0 1 k t q) := read_number (f := .entry 0 1 k t q) (may_entry.2 (by omega))
  generalize hE : (Form.entry 0 1 k t q).number = E at href hrd ⊢
  refine setc hp (i := 2 + 4 * k) (by rw [hdc]; omega) (by simp; omega) fun h3 hp => ?_
  generalize hcs : (List.replicate 16 (0 : Int)).set (2 + 4 * k) E = cells at hp
  replace hp := hp.up 1
  obtain ⟨sa, sc, _, rfl, _⟩ := hp.row
  refine bs0 (size := 1) hp [[.slice sa 2 sc]] rfl rfl (by simp) (fun c hc => by rw [List.mem_singleton.1 hc]; exact ⟨rfl, rfl⟩) fun dv h4 hp => ?_
  have hcr : ∀ x ∈ cells, I64 x := fun x hx => by
    rw [← hcs] at hx
    rcases List.mem_or_eq_of_mem_set hx with hx | rfl
    · rw [List.eq_of_mem_replicate hx]; exact ⟨by decide, by decide⟩
    · exact href
  refine T_shelf (us := [.slice sa 2 sc]) (cells := cells) (dss := [[Sw.mk 2 w 9, Sw.mk 6 w 8]]) hp (fun h' hp => (hp.up 2).rows) (fun h' hp => ⟨hp.rows, .cons (hp.up 1).rows .nil⟩) hcr fun a b h5 hp => ?_
  obtain ⟨hA, hcell, hdsc⟩ := shelf_view (cells := cells) (dss := [[Sw.mk 2 w 9, Sw.mk 6 w 8]]) hcr
  have D : Dsc (shelfA cells [[Sw.mk 2 w 9, Sw.mk 6 w 8]]) ((0 : Nat) : Int) 1 0 _ := hdsc 0 _ (by decide) rfl may
  generalize shelfA cells [[Sw.mk 2 w 9, Sw.mk 6 w 8]] = A at hp hA hcell D
  (repeat first|(with_reducible first|refine wA ?_|refine wB ?_|refine wC ?_|refine wD ?_|refine wE ?_|refine wF ?_|refine wG ?_|refine wH ?_|refine wI ?_|refine wJ ?_|refine wN ?_|refine wT ?_|refine wU ?_)|((with_reducible refine isB ?_);first|refine wK rfl ?_|refine ld0 hp rfl ?_|refine ld1 hp rfl ?_|refine ld2 hp rfl ?_|refine ld3 hp rfl ?_|refine wP ?_|refine wQ ?_|refine wR ?_)|((with_reducible refine isIf ?_);first|refine wV ?_|refine wW ?_)|((with_reducible refine isHl ?_);first|refine hl0 hp rfl ?_|refine hl1 hp rfl ?_|refine hl2 hp rfl ?_|refine hl3 hp rfl ?_))
  have hzr : I64 (4 * (4 + s)) := by constructor <;> omega
  refine L_Store hp (by decide) (by decide) hzr fun h6 hp => ?_
  have hB : (A.put 34 (4 * (4 + s))).ok := hA.put _ hzr
  have atB : ∀ j, 0 ≤ j → j < 634 → (A.put 34 (4 * (4 + s))).at j = if 34 = j then 4 * (4 + s) else A.at j := fun j j0 j1 => at_put hA (by decide) (by decide) j0 j1
  have hb : baseOf 0 = 34 := rfl
  have DB : Dsc (A.put 34 (4 * (4 + s))) 0 1 s [Sw.mk 2 w 9, Sw.mk 6 w 8] := by
    have o : On A (Wh.new 0 1) 0 [Sw.mk 2 w 9, Sw.mk 6 w 8] := fresh_on (k := 0) hA (by decide) may D
    refine ⟨?_, ?_, fun i d e => ?_, fun i d e => ?_, fun i d e => ?_⟩
    · show (A.put 34 (4 * (4 + s))).at 34 = stateW 1 s
      rw [atB 34 (by decide) (by decide), if_pos rfl]; unfold stateW; omega
    · show (A.put 34 (4 * (4 + s))).at (34 + 1) = _
      rw [atB _ (by decide) (by decide), if_neg (by decide)]; exact D.cnt
    · have := o.ent_addr e (p := 0) (by decide) (by decide)
      have e2 : baseOf (Wh.new 0 1).s = 34 := rfl
      rw [e2] at this; rw [hb]
      rw [atB _ (by omega) (by omega), if_neg (by omega)]; exact D.c i d e
    · have := o.ent_addr e (p := 1) (by decide) (by decide)
      have e2 : baseOf (Wh.new 0 1).s = 34 := rfl
      rw [e2] at this; rw [hb]
      rw [atB _ (by omega) (by omega), if_neg (by omega)]; exact D.w i d e
    · have := o.ent_addr e (p := 2) (by decide) (by decide)
      have e2 : baseOf (Wh.new 0 1).s = 34 := rfl
      rw [e2] at this; rw [hb]
      rw [atB _ (by omega) (by omega), if_neg (by omega)]; exact D.n i d e
  have hBc : (A.put 34 (4 * (4 + s))).at d.c = E := by
    rw [atB _ (by omega) (by omega), if_neg (by omega), hcell _ (by omega) (by omega), ← hcs, List.getD_eq_getElem?_getD, show d.c.toNat = 2 + 4 * k by omega, List.getElem?_set_self (by simp; omega)]; rfl
  generalize A.put 34 (4 * (4 + s)) = B at hp hB atB DB hBc
  have hnew : newHelp 1 0 E = some (.new 1 0 (.ent (.new 0 1 k t q))) := by
    unfold newHelp; rw [hrd]
    simp only [Option.bind_some, newFr]
    rw [if_pos (by decide)]
  refine T_New hp href (fun e => by rw [hnew] at e; cases e) fun H e b' h7 hp => ?_
  rw [hnew] at e
  cases e
  (repeat first|(with_reducible first|refine wA ?_|refine wB ?_|refine wC ?_|refine wD ?_|refine wE ?_|refine wF ?_|refine wG ?_|refine wH ?_|refine wI ?_|refine wJ ?_|refine wN ?_|refine wT ?_|refine wU ?_)|((with_reducible refine isB ?_);first|refine wK rfl ?_|refine ld0 hp rfl ?_|refine ld1 hp rfl ?_|refine ld2 hp rfl ?_|refine ld3 hp rfl ?_|refine wP ?_|refine wQ ?_|refine wR ?_)|((with_reducible refine isIf ?_);first|refine wV ?_|refine wW ?_)|((with_reducible refine isHl ?_);first|refine hl0 hp rfl ?_|refine hl1 hp rfl ?_|refine hl2 hp rfl ?_|refine hl3 hp rfl ?_))
  refine T_Num ?_
  (repeat first|(with_reducible first|refine wA ?_|refine wB ?_|refine wC ?_|refine wD ?_|refine wE ?_|refine wF ?_|refine wG ?_|refine wH ?_|refine wI ?_|refine wJ ?_|refine wN ?_|refine wT ?_|refine wU ?_)|((with_reducible refine isB ?_);first|refine wK rfl ?_|refine ld0 hp rfl ?_|refine ld1 hp rfl ?_|refine ld2 hp rfl ?_|refine ld3 hp rfl ?_|refine wP ?_|refine wQ ?_|refine wR ?_)|((with_reducible refine isIf ?_);first|refine wV ?_|refine wW ?_)|((with_reducible refine isHl ?_);first|refine hl0 hp rfl ?_|refine hl1 hp rfl ?_|refine hl2 hp rfl ?_|refine hl3 hp rfl ?_))
  have hlife : Life 0 1 := ⟨by decide, by decide, by decide, by decide⟩
  have hrun := ent_run (H := .new 1 0 (.ent (.new 0 1 k t q))) (q := q) (t := t) hB hlife may DB hd s0.1 (by omega) rfl rfl rfl rfl
  have hFok : ∀ i, i ≤ 4 → ((entF (.new 1 0 (.ent (.new 0 1 k t q))) B 0 1 k t q d (decide (s = 0)) i).1).ok ∧ (entF (.new 1 0 (.ent (.new 0 1 k t q))) B 0 1 k t q d (decide (s = 0)) i).2.ok := by
    intro i
    induction i with
    | zero => intro _; exact ⟨newHelp_ok hnew, hB⟩
    | succ i ih =>
      intro hi
      have ih := ih (by omega)
      have := Help.step_ok ih.1 ih.2
      rw [(hrun i (by omega)).1] at this
      exact this
  have hF0 : entF (.new 1 0 (.ent (.new 0 1 k t q))) B 0 1 k t q d (decide (s = 0)) 0 = (.new 1 0 (.ent (.new 0 1 k t q)), B) := rfl
  have hF4 : (entF (.new 1 0 (.ent (.new 0 1 k t q))) B 0 1 k t q d (decide (s = 0)) 4).2.at d.c = if s = 0 then mineW 0 else d.w * 4 := by
    obtain ⟨m0, m1, m2, m3, m4, m5⟩ := sw_mem may hd
    have c1 := hB.ld (baseOf 0 + (2 + 3 * (k : Int) + 0))
    have c2 := c1.ld (baseOf 0 + (2 + 3 * (k : Int) + 1))
    have c3 := c2.ld (baseOf 0)
    show ((((B.ld (baseOf 0 + (2 + 3 * (k : Int) + 0))).ld (baseOf 0 + (2 + 3 * (k : Int) + 1))).ld (baseOf 0)).cas d.c (Form.entry 0 1 k t q).number (if decide (s = 0) = true then (Form.mcas 0 1).number else d.w * 4)).at d.c = _
    rw [at_cas c3 m0 (by omega) m0 (by omega), if_pos rfl, at_ld c2 (by omega) (by omega) m0 (by omega), at_ld c1 (by omega) (by omega) m0 (by omega), at_ld hB (by omega) (by omega) m0 (by omega), hBc, hE, if_pos rfl, mineW_eq]
    simp only [decide_eq_true_eq]
  have hF4' : (entF (.new 1 0 (.ent (.new 0 1 k t q))) B 0 1 k t q d (decide (s = 0)) 4).1 = ⟨1, 0, [], .ent ⟨0, 1, k, t, q, 4, d.c, d.w * 4, decide (s = 0)⟩, 0, 1, false, true⟩ := rfl
  generalize entF (.new 1 0 (.ent (.new 0 1 k t q))) B 0 1 k t q d (decide (s = 0)) = F at hrun hFok hF0 hF4 hF4'
  replace hp : All (helpP b' (F 0).1 :: arP 110 a (F 0).2 :: [baseP g]) h7 := by rw [hF0]; exact hp.re 7 [0, 1, 6]
  unfold S7_j1
  refine Lfp_fam (ι := Nat) (fun i => [i64 w, i64 s, i64 d.c, ptr a, ptr b', i64 i]) (fun i h' => i ≤ 4 ∧ All (helpP b' (F i).1 :: arP 110 a (F i).2 :: [baseP g]) h') (fun i => 4 - i) ?_ 0 h7 ⟨by omega, hp⟩
  rintro i h8 Z ⟨hi, hp⟩ again
  simp only [tup_zero, tup_succ]
  (repeat first|(with_reducible first|refine wA ?_|refine wB ?_|refine wC ?_|refine wD ?_|refine wE ?_|refine wF ?_|refine wG ?_|refine wH ?_|refine wI ?_|refine wJ ?_|refine wN ?_|refine wT ?_|refine wU ?_)|((with_reducible refine isB ?_);first|refine wK rfl ?_|refine ld0 hp rfl ?_|refine ld1 hp rfl ?_|refine ld2 hp rfl ?_|refine ld3 hp rfl ?_|refine wP ?_|refine wQ ?_|refine wR ?_)|((with_reducible refine isIf ?_);first|refine wV ?_|refine wW ?_)|((with_reducible refine isHl ?_);first|refine hl0 hp rfl ?_|refine hl1 hp rfl ?_|refine hl2 hp rfl ?_|refine hl3 hp rfl ?_))
  refine ifV_cases (fun c => ?_) fun c => ?_
  · refine T_Step (hp.up 1) (hFok i hi).1 fun h9 hp => ?_
    rw [(hrun i (by omega)).1] at hp ⊢
    simp only [(hrun i (by omega)).2] at hp ⊢
    (repeat first|(with_reducible first|refine wA ?_|refine wB ?_|refine wC ?_|refine wD ?_|refine wE ?_|refine wF ?_|refine wG ?_|refine wH ?_|refine wI ?_|refine wJ ?_|refine wN ?_|refine wT ?_|refine wU ?_)|((with_reducible refine isB ?_);first|refine wK rfl ?_|refine ld0 hp rfl ?_|refine ld1 hp rfl ?_|refine ld2 hp rfl ?_|refine ld3 hp rfl ?_|refine wP ?_|refine wQ ?_|refine wR ?_)|((with_reducible refine isIf ?_);first|refine wV ?_|refine wW ?_)|((with_reducible refine isHl ?_);first|refine hl0 hp rfl ?_|refine hl1 hp rfl ?_|refine hl2 hp rfl ?_|refine hl3 hp rfl ?_))
    refine T_Num ?_
    (repeat first|(with_reducible first|refine wA ?_|refine wB ?_|refine wC ?_|refine wD ?_|refine wE ?_|refine wF ?_|refine wG ?_|refine wH ?_|refine wI ?_|refine wJ ?_|refine wN ?_|refine wT ?_|refine wU ?_)|((with_reducible refine isB ?_);first|refine wK rfl ?_|refine ld0 hp rfl ?_|refine ld1 hp rfl ?_|refine ld2 hp rfl ?_|refine ld3 hp rfl ?_|refine wP ?_|refine wQ ?_|refine wR ?_)|((with_reducible refine isIf ?_);first|refine wV ?_|refine wW ?_)|((with_reducible refine isHl ?_);first|refine hl0 hp rfl ?_|refine hl1 hp rfl ?_|refine hl2 hp rfl ?_|refine hl3 hp rfl ?_))
    rw [show decide ((i : Int) = 3) = decide (i = 3) from decide_eq_decide.2 (by omega), beq_self_eq_true]
    (repeat first|(with_reducible first|refine wA ?_|refine wB ?_|refine wC ?_|refine wD ?_|refine wE ?_|refine wF ?_|refine wG ?_|refine wH ?_|refine wI ?_|refine wJ ?_|refine wN ?_|refine wT ?_|refine wU ?_)|((with_reducible refine isB ?_);first|refine wK rfl ?_|refine ld0 hp rfl ?_|refine ld1 hp rfl ?_|refine ld2 hp rfl ?_|refine ld3 hp rfl ?_|refine wP ?_|refine wQ ?_|refine wR ?_)|((with_reducible refine isIf ?_);first|refine wV ?_|refine wW ?_)|((with_reducible refine isHl ?_);first|refine hl0 hp rfl ?_|refine hl1 hp rfl ?_|refine hl2 hp rfl ?_|refine hl3 hp rfl ?_))
    exact again (i + 1) _ ⟨by omega, hp.up 1⟩ (by omega)
  · obtain rfl : i = 4 := by omega
    refine L_Load (hp.up 1) (by omega) (by omega) fun h9 hp => ?_
    rw [hF4] at ⊢
    (repeat first|(with_reducible first|refine wA ?_|refine wB ?_|refine wC ?_|refine wD ?_|refine wE ?_|refine wF ?_|refine wG ?_|refine wH ?_|refine wI ?_|refine wJ ?_|refine wN ?_|refine wT ?_|refine wU ?_)|((with_reducible refine isB ?_);first|refine wK rfl ?_|refine ld0 hp rfl ?_|refine ld1 hp rfl ?_|refine ld2 hp rfl ?_|refine ld3 hp rfl ?_|refine wP ?_|refine wQ ?_|refine wR ?_)|((with_reducible refine isIf ?_);first|refine wV ?_|refine wW ?_)|((with_reducible refine isHl ?_);first|refine hl0 hp rfl ?_|refine hl1 hp rfl ?_|refine hl2 hp rfl ?_|refine hl3 hp rfl ?_))
    have key : ∀ s1 x y X, x = y → S7_j2 s1 (ptr b') (i64 x) (i64 0) (i64 y) h9 K X := by
      intro s1 x y X e
      subst e
      unfold S7_j2
      rw [hF4'] at hp
      refine T_Through (hp.up 1) ?_
      (repeat first|(with_reducible first|refine wA ?_|refine wB ?_|refine wC ?_|refine wD ?_|refine wE ?_|refine wF ?_|refine wG ?_|refine wH ?_|refine wI ?_|refine wJ ?_|refine wN ?_|refine wT ?_|refine wU ?_)|((with_reducible refine isB ?_);first|refine wK rfl ?_|refine ld0 hp rfl ?_|refine ld1 hp rfl ?_|refine ld2 hp rfl ?_|refine ld3 hp rfl ?_|refine wP ?_|refine wQ ?_|refine wR ?_)|((with_reducible refine isIf ?_);first|refine wV ?_|refine wW ?_)|((with_reducible refine isHl ?_);first|refine hl0 hp rfl ?_|refine hl1 hp rfl ?_|refine hl2 hp rfl ?_|refine hl3 hp rfl ?_))
      refine T_Num ?_
      (repeat first|(with_reducible first|refine wA ?_|refine wB ?_|refine wC ?_|refine wD ?_|refine wE ?_|refine wF ?_|refine wG ?_|refine wH ?_|refine wI ?_|refine wJ ?_|refine wN ?_|refine wT ?_|refine wU ?_)|((with_reducible refine isB ?_);first|refine wK rfl ?_|refine ld0 hp rfl ?_|refine ld1 hp rfl ?_|refine ld2 hp rfl ?_|refine ld3 hp rfl ?_|refine wP ?_|refine wQ ?_|refine wR ?_)|((with_reducible refine isIf ?_);first|refine wV ?_|refine wW ?_)|((with_reducible refine isHl ?_);first|refine hl0 hp rfl ?_|refine hl1 hp rfl ?_|refine hl2 hp rfl ?_|refine hl3 hp rfl ?_))
      refine ifV_cases (fun _ => ?_) fun q => absurd rfl q
      refine T_Won (hp.up 1) ?_
      (repeat first|(with_reducible first|refine wA ?_|refine wB ?_|refine wC ?_|refine wD ?_|refine wE ?_|refine wF ?_|refine wG ?_|refine wH ?_|refine wI ?_|refine wJ ?_|refine wN ?_|refine wT ?_|refine wU ?_)|((with_reducible refine isB ?_);first|refine wK rfl ?_|refine ld0 hp rfl ?_|refine ld1 hp rfl ?_|refine ld2 hp rfl ?_|refine ld3 hp rfl ?_|refine wP ?_|refine wQ ?_|refine wR ?_)|((with_reducible refine isIf ?_);first|refine wV ?_|refine wW ?_)|((with_reducible refine isHl ?_);first|refine hl0 hp rfl ?_|refine hl1 hp rfl ?_|refine hl2 hp rfl ?_|refine hl3 hp rfl ?_))
      refine T_Seq (hp.up 1) ?_
      (repeat first|(with_reducible first|refine wA ?_|refine wB ?_|refine wC ?_|refine wD ?_|refine wE ?_|refine wF ?_|refine wG ?_|refine wH ?_|refine wI ?_|refine wJ ?_|refine wN ?_|refine wT ?_|refine wU ?_)|((with_reducible refine isB ?_);first|refine wK rfl ?_|refine ld0 hp rfl ?_|refine ld1 hp rfl ?_|refine ld2 hp rfl ?_|refine ld3 hp rfl ?_|refine wP ?_|refine wQ ?_|refine wR ?_)|((with_reducible refine isIf ?_);first|refine wV ?_|refine wW ?_)|((with_reducible refine isHl ?_);first|refine hl0 hp rfl ?_|refine hl1 hp rfl ?_|refine hl2 hp rfl ?_|refine hl3 hp rfl ?_))
      exact hK _
    refine ifV_cases (fun e => ?_) fun e => ?_
    · refine T_mine (by decide) (by decide) ?_
      exact key _ _ _ _ (by rw [if_pos e])
    · exact key _ _ _ _ (by rw [if_neg e, hdw]; omega)
end
end Go.Proofs.Ytfcignalfdifnaa
namespace Go.Proofs.Ytfcignalfdifnaa
open Go GW Go.Proofs
attribute [local irreducible] bnd ldV stV ifV binV eqI
set_option linter.unusedVariables false
set_option linter.unusedSimpArgs false
set_option maxRecDepth 20000
theorem plainOf_odd {x : Int} (h : x % 4 ≠ 0) : plainOf x = none := by
  unfold plainOf
  cases e : read x with
  | none => rfl
  | some f =>
    obtain ⟨_, en, _⟩ := number_of_read e
    cases f with
    | val v => exfalso; simp only [Form.number] at en; omega
    | mcas s g => rfl
    | entry s g a t q => rfl
theorem isVal_odd {x m : Int} (h : x % 4 ≠ 0) : isVal x m = false := by unfold isVal; rw [plainOf_odd h]; rfl
theorem isVal_more {v m : Int} (h0 : 0 ≤ v) (h1 : v < 1099511627776) (h2 : m < v) : isVal (v * 4) m = false := by
  unfold isVal; rw [valOf_val h0 h1, decide_eq_false (by omega), Bool.and_false]
theorem new_form {t q x : Int} (h : ¬ (0 ≤ t ∧ t < 4 ∧ 0 ≤ q ∧ q < 1048576) ∨ (∃ v, x = v * 4 ∧ 0 ≤ v ∧ v < 1099511627776) ∨ x % 4 = 3 ∨ ∃ s, x = s * 4 + 2 ∧ 12 ≤ s ∧ s < 16) : newHelp t q x = none := by
  unfold newHelp
  rcases h with h | ⟨v, rfl, v0, v1⟩ | h | ⟨s, rfl, s0, s1⟩
  · split
    · rw [if_neg h]
    · rfl
  · have e : read (v * 4) = some (.val v) := read_number (f := .val v) (may_val.2 ⟨v0, v1⟩)
    rw [e]; rfl
  · cases e : read x with
    | none => rfl
    | some f =>
      obtain ⟨_, en, _⟩ := number_of_read e
      exfalso
      cases f <;> simp only [Form.number] at en <;> omega
  · cases e : read (s * 4 + 2) with
    | none => rfl
    | some f =>
      obtain ⟨m, en, _⟩ := number_of_read e
      exfalso
      cases f with
      | val v => simp only [Form.number] at en; omega
      | entry a b c d f => simp only [Form.number] at en; omega
      | mcas a b => simp only [Form.number] at en; rw [may_mcas] at m; omega
/-- a help goes on for some steps, and fails at the next -/
def Fails (H : Help) (A : Ar) (n : Nat) : Prop := ∃ H' A', Goes H A n H' A' ∧ H'.over = false ∧ H'.won = false ∧ (H'.step A').2.1 = 1400 ∧ (H'.step A').1.over = true ∧ (H'.step A').1.won = false
theorem Goes.live {H : Help} {A : Ar} {n : Nat} {H' : Help} {A' : Ar} (a : Goes H A n H' A') (h : H'.over = false) : H.over = false := by
  cases a with
  | refl => exact h
  | step h1 _ _ => exact h1
theorem Fails.next {H : Help} {A : Ar} {n : Nat} (h : Fails H A (n + 1)) : H.over = false ∧ (H.step A).2.1 = 0 ∧ (H.step A).1.over = false ∧ Fails (H.step A).1 (H.step A).2.2 n := by
  obtain ⟨H', A', g, o, w, e⟩ := h
  cases g with
  | step h1 h2 h3 => exact ⟨h1, h2, h3.live o, H', A', h3, o, w, e⟩
theorem Fails.last {H : Help} {A : Ar} (h : Fails H A 0) : H.over = false ∧ (H.step A).2.1 = 1400 ∧ (H.step A).1.over = true ∧ (H.step A).1.won = false := by
  obtain ⟨H', A', g, o, w, e⟩ := h
  cases g with
  | refl => exact ⟨o, e⟩
theorem Fails.of {H : Help} {A : Ar} {n : Nat} {w w' : Wh} {A' : Ar} {q' : Int} (f : Fgo H.t w H.q A n w' q' A') (hn : 0 < n) (ho : H.over = false) (hw : H.won = false) (ht : H.top = .who w) (hb : (w'.step H.t q' A').good = false) : Fails H A n := by
  have g := f.goes (H := H) hn ho ht rfl rfl
  refine ⟨_, _, g, ho, hw, ?_⟩
  have ho' : (H.at q' w').over = false := ho
  rw [Help.step_eq ho']
  have : ((Fr.step (H.at q' w').t (H.at q' w').q (H.at q' w').top A')).good = false := hb
  unfold Help.take
  simp only [this, if_true]
  exact ⟨trivial, trivial, hw⟩
theorem Fails.of0 {H : Help} {A : Ar} {w : Wh} (ho : H.over = false) (hw : H.won = false) (ht : H.top = .who w) (hb : (w.step H.t H.q A).good = false) : Fails H A 0 := by
  refine ⟨_, _, .refl _ _, ho, hw, ?_⟩
  rw [Help.step_eq ho, ht]
  have : ((Fr.step H.t H.q (.who w) A)).good = false := hb
  unfold Help.take
  simp only [this, if_true]
  exact ⟨trivial, trivial, hw⟩
def w0 : Wh := .new 0 1
/-- the four words of a descriptor of one entry, of which one is bad -/
theorem fails_at {A : Ar} (hA : A.ok) {t q : Int} (k : Nat) (hk : k < 4)
    (h0 : 0 < k → A.at 34 = 16) (h1 : 1 < k → A.at 35 = 4) (h2 : 2 < k → A.at 36 = 12)
    (b0 : k = 0 → A.at 34 % 4 ≠ 0) (b1 : k = 1 → isVal (A.at 35) 16 = false) (b2 : k = 2 → isVal (A.at 36) 15 = false) (b3 : k = 3 → isVal (A.at 37) 1099511627775 = false) : Fails (.fresh t q 0) A k := by
  have hb : baseOf 0 = 34 := rfl
  have s1 : k ≠ 0 → (Wh.new 0 1).step t q A = ⟨.who { Wh.new 0 1 with opn := true, won := false, pc := 2 }, none, false, true, A.ld 34, q⟩ := fun h => by
    have e : A.at (baseOf 0) = 16 := h0 (by omega)
    have i : (plainOf 16).isSome = true := stateW_val (g := 1) (st := 0) (by decide) (by decide) (by decide) (by decide)
    simp only [Wh.step, Wh.new, e, i, stateW]
    simp [baseOf]
  have s2 : 1 < k → ({ Wh.new 0 1 with opn := true, won := false, pc := 2 } : Wh).step t q (A.ld 34) = ⟨.who { Wh.new 0 1 with opn := true, won := false, k := 1, pc := 3 }, none, false, true, (A.ld 34).ld 35, q⟩ := fun h => by
    have e : (A.ld 34).at (baseOf 0 + 1) = 1 * 4 := by rw [at_ld hA (by decide) (by decide) (by decide) (by decide)]; exact h1 h
    have i := isVal_val (v := 1) (most := 16) (by decide) (by decide) (by decide)
    have v := valOf_val (v := 1) (by decide) (by decide)
    simp only [Wh.step, Wh.new, e, i, v]
    simp [baseOf]
  have hA1 := hA.ld 34
  have hA2 := hA1.ld 35
  have s3 : 2 < k → ({ Wh.new 0 1 with opn := true, won := false, k := 1, pc := 3 } : Wh).step t q ((A.ld 34).ld 35) = ⟨.who { Wh.new 0 1 with opn := true, won := false, k := 1, cell := 3, pc := 4 }, none, false, true, ((A.ld 34).ld 35).ld 36, q⟩ := fun h => by
    have e : ((A.ld 34).ld 35).at (baseOf 0 + (2 + 3 * 0 + 0)) = 3 * 4 := by rw [at_ld hA1 (by decide) (by decide) (by decide) (by decide), at_ld hA (by decide) (by decide) (by decide) (by decide)]; exact h2 h
    have i := isVal_val (v := 3) (most := 15) (by decide) (by decide) (by decide)
    have v := valOf_val (v := 3) (by decide) (by decide)
    simp only [Wh.step, Wh.new, e, i, v]
    simp [baseOf]
  rcases k with _ | _ | _ | _ | k
  · refine .of0 (w := Wh.new 0 1) rfl rfl rfl ?_
    show (Wh.step t q (Wh.new 0 1) A).good = false
    have := plainOf_odd (b0 rfl)
    simp only [Wh.step, Wh.new, hb, this]
    rfl
  · refine .of (w := Wh.new 0 1) (.one (s1 (by omega))) (by decide) rfl rfl rfl ?_
    have e : (A.ld 34).at (baseOf 0 + 1) = A.at 35 := at_ld hA (by decide) (by decide) (by decide) (by decide)
    simp only [Wh.step, Wh.new, e, b1 rfl]
  · refine .of (w := Wh.new 0 1) (.step (s1 (by omega)) (.one (s2 (by omega)))) (by decide) rfl rfl rfl ?_
    have e : ((A.ld 34).ld 35).at (baseOf 0 + (2 + 3 * 0 + 0)) = A.at 36 := by rw [at_ld hA1 (by decide) (by decide) (by decide) (by decide), at_ld hA (by decide) (by decide) (by decide) (by decide)]; rfl
    simp only [Wh.step, Wh.new, e, b2 rfl]
  · refine .of (w := Wh.new 0 1) (.step (s1 (by omega)) (.step (s2 (by omega)) (.one (s3 (by omega))))) (by decide) rfl rfl rfl ?_
    have e : (((A.ld 34).ld 35).ld 36).at (baseOf 0 + (2 + 3 * 0 + 1)) = A.at 37 := by rw [at_ld hA2 (by decide) (by decide) (by decide) (by decide), at_ld hA1 (by decide) (by decide) (by decide) (by decide), at_ld hA (by decide) (by decide) (by decide) (by decide)]; rfl
    simp only [Wh.step, Wh.new, e, b3 rfl]
  · omega
theorem eqI_u64 (x y : Int) : eqI (.int .u64 x) (.int .u64 y) = some (decide (x = y)) := eqI_int _ _ _
section
variable {R : List Part} {h : GH} {K : Value → GH → Prop}
theorem T_HelpForms {g : GH} {which x : Int} (hp : All [baseP g] h) (hK : ∀ h', K (.bool true) h') : T Try.prog 5 [i64 which, i64 x] h K := by
  apply S5_T
  unfold S5
  refine T_awake hp fun h1 hp => ?_
  (repeat first|(with_reducible first|refine wA ?_|refine wB ?_|refine wC ?_|refine wD ?_|refine wE ?_|refine wF ?_|refine wG ?_|refine wH ?_|refine wI ?_|refine wJ ?_|refine wN ?_|refine wT ?_|refine wU ?_)|((with_reducible refine isB ?_);first|refine wK rfl ?_|refine ld0 hp rfl ?_|refine ld1 hp rfl ?_|refine ld2 hp rfl ?_|refine ld3 hp rfl ?_|refine wP ?_|refine wQ ?_|refine wR ?_)|((with_reducible refine isIf ?_);first|refine wV ?_|refine wW ?_)|((with_reducible refine isHl ?_);first|refine hl0 hp rfl ?_|refine hl1 hp rfl ?_|refine hl2 hp rfl ?_|refine hl3 hp rfl ?_))
  refine bnd_of (binV_and_mask x 10 (by decide) (by decide)) ?_
  have x0 : 0 ≤ x % ((2 ^ 10 : Nat) : Int) ∧ x % ((2 ^ 10 : Nat) : Int) < 1024 := by omega
  generalize x % ((2 ^ 10 : Nat) : Int) = y at x0 ⊢
  (repeat first|(with_reducible first|refine wA ?_|refine wB ?_|refine wC ?_|refine wD ?_|refine wE ?_|refine wF ?_|refine wG ?_|refine wH ?_|refine wI ?_|refine wJ ?_|refine wN ?_|refine wT ?_|refine wU ?_)|((with_reducible refine isB ?_);first|refine wK rfl ?_|refine ld0 hp rfl ?_|refine ld1 hp rfl ?_|refine ld2 hp rfl ?_|refine ld3 hp rfl ?_|refine wP ?_|refine wQ ?_|refine wR ?_)|((with_reducible refine isIf ?_);first|refine wV ?_|refine wW ?_)|((with_reducible refine isHl ?_);first|refine hl0 hp rfl ?_|refine hl1 hp rfl ?_|refine hl2 hp rfl ?_|refine hl3 hp rfl ?_))
  refine T_mine (by decide) (by decide) ?_
  have key : ∀ t q r, newHelp t q r = none → I64 r → ∀ h2, All [baseP g] h2 → S5_j1 (i64 which) (i64 (1 + y)) (i64 t) (i64 q) (i64 r) h2 K := by
    intro t q r hn hr h2 hp
    unfold S5_j1
    refine T_New hp hr (fun _ h3 hp => ?_) fun H e => by rw [hn] at e; cases e
    (repeat first|(with_reducible first|refine wA ?_|refine wB ?_|refine wC ?_|refine wD ?_|refine wE ?_|refine wF ?_|refine wG ?_|refine wH ?_|refine wI ?_|refine wJ ?_|refine wN ?_|refine wT ?_|refine wU ?_)|((with_reducible refine isB ?_);first|refine wK rfl ?_|refine ld0 hp rfl ?_|refine ld1 hp rfl ?_|refine ld2 hp rfl ?_|refine ld3 hp rfl ?_|refine wP ?_|refine wQ ?_|refine wR ?_)|((with_reducible refine isIf ?_);first|refine wV ?_|refine wW ?_)|((with_reducible refine isHl ?_);first|refine hl0 hp rfl ?_|refine hl1 hp rfl ?_|refine hl2 hp rfl ?_|refine hl3 hp rfl ?_))
    refine bs0 (size := 3) hp ([Sw.mk 3 0 1].map encS) rfl rfl (by simp) (encS_good _) fun rw_ h4 hp => ?_
    obtain ⟨sa, sc, _, rfl, _⟩ := hp.row
    refine bs0 (size := 1) hp [[.slice sa 1 sc]] rfl rfl (by simp) (fun c hc => by rw [List.mem_singleton.1 hc]; exact ⟨rfl, rfl⟩) fun dv h5 hp => ?_
    have may : swMay [Sw.mk 3 0 1] = true := by decide
    refine T_shelf (us := [.slice sa 1 sc]) (cells := []) (dss := [[Sw.mk 3 0 1]]) hp (fun h' hp => rowsAt_nil _ _) (fun h' hp => ⟨hp.rows, .cons (hp.up 1).rows .nil⟩) (fun x hx => by cases hx) fun a b h6 hp => ?_
    obtain ⟨hA, hcell, hdsc⟩ := shelf_view (cells := []) (dss := [[Sw.mk 3 0 1]]) (fun x hx => by cases hx)
    have D : Dsc (shelfA [] [[Sw.mk 3 0 1]]) ((0 : Nat) : Int) 1 0 _ := hdsc 0 _ (by decide) rfl may
    generalize shelfA [] [[Sw.mk 3 0 1]] = A at hp hA hcell D
    have d0 : A.at 34 = 16 := D.st
    have d1 : A.at 35 = 4 := D.cnt
    have d2 : A.at 36 = 12 := D.c 0 _ rfl
    (repeat first|(with_reducible first|refine wA ?_|refine wB ?_|refine wC ?_|refine wD ?_|refine wE ?_|refine wF ?_|refine wG ?_|refine wH ?_|refine wI ?_|refine wJ ?_|refine wN ?_|refine wT ?_|refine wU ?_)|((with_reducible refine isB ?_);first|refine wK rfl ?_|refine ld0 hp rfl ?_|refine ld1 hp rfl ?_|refine ld2 hp rfl ?_|refine ld3 hp rfl ?_|refine wP ?_|refine wQ ?_|refine wR ?_)|((with_reducible refine isIf ?_);first|refine wV ?_|refine wW ?_)|((with_reducible refine isHl ?_);first|refine hl0 hp rfl ?_|refine hl1 hp rfl ?_|refine hl2 hp rfl ?_|refine hl3 hp rfl ?_))
    refine T_mine (by decide) (by decide) ?_
    refine T_NewMine hp (by decide) (by decide) (by decide) (by decide) (by decide) (by decide) fun b' h7 hp => ?_
    (repeat first|(with_reducible first|refine wA ?_|refine wB ?_|refine wC ?_|refine wD ?_|refine wE ?_|refine wF ?_|refine wG ?_|refine wH ?_|refine wI ?_|refine wJ ?_|refine wN ?_|refine wT ?_|refine wU ?_)|((with_reducible refine isB ?_);first|refine wK rfl ?_|refine ld0 hp rfl ?_|refine ld1 hp rfl ?_|refine ld2 hp rfl ?_|refine ld3 hp rfl ?_|refine wP ?_|refine wQ ?_|refine wR ?_)|((with_reducible refine isIf ?_);first|refine wV ?_|refine wW ?_)|((with_reducible refine isHl ?_);first|refine hl0 hp rfl ?_|refine hl1 hp rfl ?_|refine hl2 hp rfl ?_|refine hl3 hp rfl ?_))
    refine T_Num ?_
    (repeat first|(with_reducible first|refine wA ?_|refine wB ?_|refine wC ?_|refine wD ?_|refine wE ?_|refine wF ?_|refine wG ?_|refine wH ?_|refine wI ?_|refine wJ ?_|refine wN ?_|refine wT ?_|refine wU ?_)|((with_reducible refine isB ?_);first|refine wK rfl ?_|refine ld0 hp rfl ?_|refine ld1 hp rfl ?_|refine ld2 hp rfl ?_|refine ld3 hp rfl ?_|refine wP ?_|refine wQ ?_|refine wR ?_)|((with_reducible refine isIf ?_);first|refine wV ?_|refine wW ?_)|((with_reducible refine isHl ?_);first|refine hl0 hp rfl ?_|refine hl1 hp rfl ?_|refine hl2 hp rfl ?_|refine hl3 hp rfl ?_))
    unfold S5_j2
    refine bs0 (size := 1) hp ([0, 1, 2, 3].map encI) rfl rfl (by simp) (encI_good _) fun av h8 hp => ?_
    obtain ⟨k, hk, u, q1, q2, q3, q4⟩ := uidx which (n := 4) (by decide) (by decide)
    refine bnd_of q1 (bnd_of q3 (bnd_of q4 ?_))
    (repeat first|(with_reducible first|refine wA ?_|refine wB ?_|refine wC ?_|refine wD ?_|refine wE ?_|refine wF ?_|refine wG ?_|refine wH ?_|refine wI ?_|refine wJ ?_|refine wN ?_|refine wT ?_|refine wU ?_)|((with_reducible refine isB ?_);first|refine wK rfl ?_|refine ld0 hp rfl ?_|refine ld1 hp rfl ?_|refine ld2 hp rfl ?_|refine ld3 hp rfl ?_|refine wP ?_|refine wQ ?_|refine wR ?_)|((with_reducible refine isIf ?_);first|refine wV ?_|refine wW ?_)|((with_reducible refine isHl ?_);first|refine hl0 hp rfl ?_|refine hl1 hp rfl ?_|refine hl2 hp rfl ?_|refine hl3 hp rfl ?_))
    refine bs0 (size := 1) hp ([2, 4 * (16 + (1 + y)), 4 * (15 + (1 + y)), 1].map encI) rfl rfl (by simp) (encI_good _) fun bv h9 hp => ?_
    obtain ⟨p1, g1, g2⟩ := int_get (i := k) (x := (k : Int)) (All.rows (hp.up 1)) (by rcases k with _ | _ | _ | _ | k <;> first | rfl | omega)
    obtain ⟨z, hz⟩ : ∃ z, [2, 4 * (16 + (1 + y)), 4 * (15 + (1 + y)), 1][k]? = some z := ⟨_, List.getElem?_eq_getElem (by simp; omega)⟩
    obtain ⟨p2, g3, g4⟩ := int_get (i := k) (x := z) hp.rows hz
    refine bnd_of g1 (bnd_of g2 ?_)
    (repeat first|(with_reducible first|refine wA ?_|refine wB ?_|refine wC ?_|refine wD ?_|refine wE ?_|refine wF ?_|refine wG ?_|refine wH ?_|refine wI ?_|refine wJ ?_|refine wN ?_|refine wT ?_|refine wU ?_)|((with_reducible refine isB ?_);first|refine wK rfl ?_|refine ld0 hp rfl ?_|refine ld1 hp rfl ?_|refine ld2 hp rfl ?_|refine ld3 hp rfl ?_|refine wP ?_|refine wQ ?_|refine wR ?_)|((with_reducible refine isIf ?_);first|refine wV ?_|refine wW ?_)|((with_reducible refine isHl ?_);first|refine hl0 hp rfl ?_|refine hl1 hp rfl ?_|refine hl2 hp rfl ?_|refine hl3 hp rfl ?_))
    refine bnd_of g3 (bnd_of g4 ?_)
    have hzz : (k = 0 → z = 2) ∧ (k = 1 → z = (17 + y) * 4) ∧ (k = 2 → z = (16 + y) * 4) ∧ (k = 3 → z = 1) := by
      refine ⟨?_, ?_, ?_, ?_⟩ <;> (rintro rfl; cases hz; omega)
    have hzr : I64 z := by
      obtain ⟨z1, z2, z3, z4⟩ := hzz
      rcases k with _ | _ | _ | _ | k
      · rw [z1 rfl]; exact ⟨by decide, by decide⟩
      · rw [z2 rfl]; constructor <;> omega
      · rw [z3 rfl]; constructor <;> omega
      · rw [z4 rfl]; exact ⟨by decide, by decide⟩
      · omega
    refine L_Store (hp.up 3) (by omega) (by omega) hzr fun h10 hp => ?_
    have hB : (A.put (34 + k) z).ok := hA.put _ hzr
    have atB : ∀ j, 0 ≤ j → j < 634 → (A.put (34 + k) z).at j = if (34 + k : Int) = j then z else A.at j := fun j j0 j1 => at_put hA (by omega) (by omega) j0 j1
    have hf : Fails (.fresh 1 5 0) (A.put (34 + k) z) k := by
      obtain ⟨z1, z2, z3, z4⟩ := hzz
      refine fails_at hB k hk (fun c => ?_) (fun c => ?_) (fun c => ?_) (fun c => ?_) (fun c => ?_) (fun c => ?_) (fun c => ?_)
      · rw [atB _ (by decide) (by decide), if_neg (by omega)]; exact d0
      · rw [atB _ (by decide) (by decide), if_neg (by omega)]; exact d1
      · rw [atB _ (by decide) (by decide), if_neg (by omega)]; exact d2
      · rw [atB _ (by decide) (by decide), if_pos (by omega), z1 c]; decide
      · rw [atB _ (by decide) (by decide), if_pos (by omega), z2 c]; exact isVal_more (by omega) (by omega) (by omega)
      · rw [atB _ (by decide) (by decide), if_pos (by omega), z3 c]; exact isVal_more (by omega) (by omega) (by omega)
      · rw [atB _ (by decide) (by decide), if_pos (by omega), z4 c]; exact isVal_odd (by decide)
    have hfo := fresh_ok (t := 1) (q := 5) (s := 0) (by decide) (by decide) (by decide) (by decide) (by decide) (by decide)
    generalize A.put (34 + k) z = B at hp hB atB hf
    generalize Help.fresh 1 5 0 = H0 at hp hf hfo
    replace hp : All (helpP b' H0 :: arP 110 a B :: [baseP g]) h10 := hp.sel [3, 0, 7]
    refine Lfp_fam (ι := Nat × Help × Ar × Bool) (fun p => [i64 1400, ptr a, ptr b', .bool p.2.2.2, i64 (if p.2.2.2 then 1400 else 0), i64 p.1]) (fun p h' => p.2.1.ok ∧ p.2.2.1.ok ∧ p.1 ≤ 8 ∧ (if p.2.2.2 then p.2.1.over = true ∧ p.2.1.won = false else ∃ n, Fails p.2.1 p.2.2.1 n ∧ p.1 + n ≤ 3) ∧ All (helpP b' p.2.1 :: arP 110 a p.2.2.1 :: [baseP g]) h') (fun p => 9 - p.1) ?_ (0, H0, B, false) h10 ⟨hfo, hB, by simp, ⟨k, hf, by simp; omega⟩, hp⟩
    clear hp
    rintro ⟨i, G, C, ov⟩ h11 Z ⟨hG, hC, hi, hf, hp⟩ again
    simp only at hG hC hi hf hp
    simp only [tup_zero, tup_succ]
    (repeat first|(with_reducible first|refine wA ?_|refine wB ?_|refine wC ?_|refine wD ?_|refine wE ?_|refine wF ?_|refine wG ?_|refine wH ?_|refine wI ?_|refine wJ ?_|refine wN ?_|refine wT ?_|refine wU ?_)|((with_reducible refine isB ?_);first|refine wK rfl ?_|refine ld0 hp rfl ?_|refine ld1 hp rfl ?_|refine ld2 hp rfl ?_|refine ld3 hp rfl ?_|refine wP ?_|refine wQ ?_|refine wR ?_)|((with_reducible refine isIf ?_);first|refine wV ?_|refine wW ?_)|((with_reducible refine isHl ?_);first|refine hl0 hp rfl ?_|refine hl1 hp rfl ?_|refine hl2 hp rfl ?_|refine hl3 hp rfl ?_))
    refine ifV_cases (fun c => ?_) fun c => absurd c (by omega)
    cases ov with
    | true =>
      simp only [if_true] at hf ⊢
      (repeat first|(with_reducible first|refine wA ?_|refine wB ?_|refine wC ?_|refine wD ?_|refine wE ?_|refine wF ?_|refine wG ?_|refine wH ?_|refine wI ?_|refine wJ ?_|refine wN ?_|refine wT ?_|refine wU ?_)|((with_reducible refine isB ?_);first|refine wK rfl ?_|refine ld0 hp rfl ?_|refine ld1 hp rfl ?_|refine ld2 hp rfl ?_|refine ld3 hp rfl ?_|refine wP ?_|refine wQ ?_|refine wR ?_)|((with_reducible refine isIf ?_);first|refine wV ?_|refine wW ?_)|((with_reducible refine isHl ?_);first|refine hl0 hp rfl ?_|refine hl1 hp rfl ?_|refine hl2 hp rfl ?_|refine hl3 hp rfl ?_))
      unfold S5_j4
      refine T_Step (hp.up 1) hG fun h12 hp => ?_
      have hst : G.step C = (G, 0, C) := by unfold Help.step; rw [hf.1]; rfl
      rw [hst] at hp ⊢
      simp only at hp ⊢
      rw [hf.1]
      (repeat first|(with_reducible first|refine wA ?_|refine wB ?_|refine wC ?_|refine wD ?_|refine wE ?_|refine wF ?_|refine wG ?_|refine wH ?_|refine wI ?_|refine wJ ?_|refine wN ?_|refine wT ?_|refine wU ?_)|((with_reducible refine isB ?_);first|refine wK rfl ?_|refine ld0 hp rfl ?_|refine ld1 hp rfl ?_|refine ld2 hp rfl ?_|refine ld3 hp rfl ?_|refine wP ?_|refine wQ ?_|refine wR ?_)|((with_reducible refine isIf ?_);first|refine wV ?_|refine wW ?_)|((with_reducible refine isHl ?_);first|refine hl0 hp rfl ?_|refine hl1 hp rfl ?_|refine hl2 hp rfl ?_|refine hl3 hp rfl ?_))
      refine T_Num ?_
      (repeat first|(with_reducible first|refine wA ?_|refine wB ?_|refine wC ?_|refine wD ?_|refine wE ?_|refine wF ?_|refine wG ?_|refine wH ?_|refine wI ?_|refine wJ ?_|refine wN ?_|refine wT ?_|refine wU ?_)|((with_reducible refine isB ?_);first|refine wK rfl ?_|refine ld0 hp rfl ?_|refine ld1 hp rfl ?_|refine ld2 hp rfl ?_|refine ld3 hp rfl ?_|refine wP ?_|refine wQ ?_|refine wR ?_)|((with_reducible refine isIf ?_);first|refine wV ?_|refine wW ?_)|((with_reducible refine isHl ?_);first|refine hl0 hp rfl ?_|refine hl1 hp rfl ?_|refine hl2 hp rfl ?_|refine hl3 hp rfl ?_))
      refine T_Won (hp.up 1) ?_
      rw [hf.2]
      (repeat first|(with_reducible first|refine wA ?_|refine wB ?_|refine wC ?_|refine wD ?_|refine wE ?_|refine wF ?_|refine wG ?_|refine wH ?_|refine wI ?_|refine wJ ?_|refine wN ?_|refine wT ?_|refine wU ?_)|((with_reducible refine isB ?_);first|refine wK rfl ?_|refine ld0 hp rfl ?_|refine ld1 hp rfl ?_|refine ld2 hp rfl ?_|refine ld3 hp rfl ?_|refine wP ?_|refine wQ ?_|refine wR ?_)|((with_reducible refine isIf ?_);first|refine wV ?_|refine wW ?_)|((with_reducible refine isHl ?_);first|refine hl0 hp rfl ?_|refine hl1 hp rfl ?_|refine hl2 hp rfl ?_|refine hl3 hp rfl ?_))
      refine T_Num ?_
      (repeat first|(with_reducible first|refine wA ?_|refine wB ?_|refine wC ?_|refine wD ?_|refine wE ?_|refine wF ?_|refine wG ?_|refine wH ?_|refine wI ?_|refine wJ ?_|refine wN ?_|refine wT ?_|refine wU ?_)|((with_reducible refine isB ?_);first|refine wK rfl ?_|refine ld0 hp rfl ?_|refine ld1 hp rfl ?_|refine ld2 hp rfl ?_|refine ld3 hp rfl ?_|refine wP ?_|refine wQ ?_|refine wR ?_)|((with_reducible refine isIf ?_);first|refine wV ?_|refine wW ?_)|((with_reducible refine isHl ?_);first|refine hl0 hp rfl ?_|refine hl1 hp rfl ?_|refine hl2 hp rfl ?_|refine hl3 hp rfl ?_))
      exact hK _
    | false =>
      simp only [Bool.false_eq_true, if_false] at hf ⊢
      obtain ⟨n, hf, hn⟩ := hf
      (repeat first|(with_reducible first|refine wA ?_|refine wB ?_|refine wC ?_|refine wD ?_|refine wE ?_|refine wF ?_|refine wG ?_|refine wH ?_|refine wI ?_|refine wJ ?_|refine wN ?_|refine wT ?_|refine wU ?_)|((with_reducible refine isB ?_);first|refine wK rfl ?_|refine ld0 hp rfl ?_|refine ld1 hp rfl ?_|refine ld2 hp rfl ?_|refine ld3 hp rfl ?_|refine wP ?_|refine wQ ?_|refine wR ?_)|((with_reducible refine isIf ?_);first|refine wV ?_|refine wW ?_)|((with_reducible refine isHl ?_);first|refine hl0 hp rfl ?_|refine hl1 hp rfl ?_|refine hl2 hp rfl ?_|refine hl3 hp rfl ?_))
      unfold S5_j3
      refine T_Step (hp.up 1) hG fun h12 hp => ?_
      have hst := Help.step_ok hG hC
      cases n with
      | zero =>
        obtain ⟨f1, f2, f3, f4⟩ := hf.last
        rw [f2, f3]
        (repeat first|(with_reducible first|refine wA ?_|refine wB ?_|refine wC ?_|refine wD ?_|refine wE ?_|refine wF ?_|refine wG ?_|refine wH ?_|refine wI ?_|refine wJ ?_|refine wN ?_|refine wT ?_|refine wU ?_)|((with_reducible refine isB ?_);first|refine wK rfl ?_|refine ld0 hp rfl ?_|refine ld1 hp rfl ?_|refine ld2 hp rfl ?_|refine ld3 hp rfl ?_|refine wP ?_|refine wQ ?_|refine wR ?_)|((with_reducible refine isIf ?_);first|refine wV ?_|refine wW ?_)|((with_reducible refine isHl ?_);first|refine hl0 hp rfl ?_|refine hl1 hp rfl ?_|refine hl2 hp rfl ?_|refine hl3 hp rfl ?_))
        refine T_Num ?_
        (repeat first|(with_reducible first|refine wA ?_|refine wB ?_|refine wC ?_|refine wD ?_|refine wE ?_|refine wF ?_|refine wG ?_|refine wH ?_|refine wI ?_|refine wJ ?_|refine wN ?_|refine wT ?_|refine wU ?_)|((with_reducible refine isB ?_);first|refine wK rfl ?_|refine ld0 hp rfl ?_|refine ld1 hp rfl ?_|refine ld2 hp rfl ?_|refine ld3 hp rfl ?_|refine wP ?_|refine wQ ?_|refine wR ?_)|((with_reducible refine isIf ?_);first|refine wV ?_|refine wW ?_)|((with_reducible refine isHl ?_);first|refine hl0 hp rfl ?_|refine hl1 hp rfl ?_|refine hl2 hp rfl ?_|refine hl3 hp rfl ?_))
        exact again (i + 1, (G.step C).1, (G.step C).2.2, true) _ ⟨hst.1, hst.2, by simp only; omega, ⟨f3, f4⟩, hp.up 1⟩ (by simp only; omega)
      | succ n =>
        obtain ⟨f1, f2, f3, f4⟩ := hf.next
        rw [f2, f3]
        (repeat first|(with_reducible first|refine wA ?_|refine wB ?_|refine wC ?_|refine wD ?_|refine wE ?_|refine wF ?_|refine wG ?_|refine wH ?_|refine wI ?_|refine wJ ?_|refine wN ?_|refine wT ?_|refine wU ?_)|((with_reducible refine isB ?_);first|refine wK rfl ?_|refine ld0 hp rfl ?_|refine ld1 hp rfl ?_|refine ld2 hp rfl ?_|refine ld3 hp rfl ?_|refine wP ?_|refine wQ ?_|refine wR ?_)|((with_reducible refine isIf ?_);first|refine wV ?_|refine wW ?_)|((with_reducible refine isHl ?_);first|refine hl0 hp rfl ?_|refine hl1 hp rfl ?_|refine hl2 hp rfl ?_|refine hl3 hp rfl ?_))
        refine T_Num ?_
        (repeat first|(with_reducible first|refine wA ?_|refine wB ?_|refine wC ?_|refine wD ?_|refine wE ?_|refine wF ?_|refine wG ?_|refine wH ?_|refine wI ?_|refine wJ ?_|refine wN ?_|refine wT ?_|refine wU ?_)|((with_reducible refine isB ?_);first|refine wK rfl ?_|refine ld0 hp rfl ?_|refine ld1 hp rfl ?_|refine ld2 hp rfl ?_|refine ld3 hp rfl ?_|refine wP ?_|refine wQ ?_|refine wR ?_)|((with_reducible refine isIf ?_);first|refine wV ?_|refine wW ?_)|((with_reducible refine isHl ?_);first|refine hl0 hp rfl ?_|refine hl1 hp rfl ?_|refine hl2 hp rfl ?_|refine hl3 hp rfl ?_))
        exact again (i + 1, (G.step C).1, (G.step C).2.2, false) _ ⟨hst.1, hst.2, by simp only; omega, ⟨n, f4, by omega⟩, hp.up 1⟩ (by simp only; omega)
  have e7 : ∃ k : Nat, k < 7 ∧ ∃ a, cvV .u64 (i64 which) = some (.int .u64 a) ∧ cvV .u64 (i64 ((7 : Nat) : Int)) = some (.int .u64 ((7 : Nat) : Int)) ∧ binV .rem (.int .u64 a) (.int .u64 ((7 : Nat) : Int)) = some (.int .u64 k) ∧ cvV .i64 (.int .u64 k) = some (i64 k) := uidx which (n := 7) (by decide) (by decide)
  obtain ⟨k, hk, u, q1, q2, q3, q4⟩ := e7
  refine bnd_of q1 (bnd_of q3 ?_)
  have hm := mineW_range (s := 0) (by decide) (by decide)
  have hng : IntKind.i64.wrap (0 - (1 + y)) = 0 - (1 + y) := by unfold IntKind.wrap; simp [IntKind.bits, IntKind.signed]; omega
  have h64 : ∀ z : Int, 0 ≤ z → z < 100000 → I64 z := fun z a b => by constructor <;> omega
  refine bnd_of (eqI_u64 _ _) ?_
  refine ifV_cases (fun c => ?_) fun c => ?_
  · (repeat first|(with_reducible first|refine wA ?_|refine wB ?_|refine wC ?_|refine wD ?_|refine wE ?_|refine wF ?_|refine wG ?_|refine wH ?_|refine wI ?_|refine wJ ?_|refine wN ?_|refine wT ?_|refine wU ?_)|((with_reducible refine isB ?_);first|refine wK rfl ?_|refine ld0 hp rfl ?_|refine ld1 hp rfl ?_|refine ld2 hp rfl ?_|refine ld3 hp rfl ?_|refine wP ?_|refine wQ ?_|refine wR ?_)|((with_reducible refine isIf ?_);first|refine wV ?_|refine wW ?_)|((with_reducible refine isHl ?_);first|refine hl0 hp rfl ?_|refine hl1 hp rfl ?_|refine hl2 hp rfl ?_|refine hl3 hp rfl ?_))
    exact key _ _ _ (new_form (.inl (by omega))) hm _ hp
  refine bnd_of (eqI_u64 _ _) ?_
  refine ifV_cases (fun c => ?_) fun c => ?_
  · (repeat first|(with_reducible first|refine wA ?_|refine wB ?_|refine wC ?_|refine wD ?_|refine wE ?_|refine wF ?_|refine wG ?_|refine wH ?_|refine wI ?_|refine wJ ?_|refine wN ?_|refine wT ?_|refine wU ?_)|((with_reducible refine isB ?_);first|refine wK rfl ?_|refine ld0 hp rfl ?_|refine ld1 hp rfl ?_|refine ld2 hp rfl ?_|refine ld3 hp rfl ?_|refine wP ?_|refine wQ ?_|refine wR ?_)|((with_reducible refine isIf ?_);first|refine wV ?_|refine wW ?_)|((with_reducible refine isHl ?_);first|refine hl0 hp rfl ?_|refine hl1 hp rfl ?_|refine hl2 hp rfl ?_|refine hl3 hp rfl ?_))
    exact key _ _ _ (new_form (.inl (by omega))) hm _ hp
  refine bnd_of (eqI_u64 _ _) ?_
  refine ifV_cases (fun c => ?_) fun c => ?_
  · (repeat first|(with_reducible first|refine wA ?_|refine wB ?_|refine wC ?_|refine wD ?_|refine wE ?_|refine wF ?_|refine wG ?_|refine wH ?_|refine wI ?_|refine wJ ?_|refine wN ?_|refine wT ?_|refine wU ?_)|((with_reducible refine isB ?_);first|refine wK rfl ?_|refine ld0 hp rfl ?_|refine ld1 hp rfl ?_|refine ld2 hp rfl ?_|refine ld3 hp rfl ?_|refine wP ?_|refine wQ ?_|refine wR ?_)|((with_reducible refine isIf ?_);first|refine wV ?_|refine wW ?_)|((with_reducible refine isHl ?_);first|refine hl0 hp rfl ?_|refine hl1 hp rfl ?_|refine hl2 hp rfl ?_|refine hl3 hp rfl ?_))
    exact key _ _ _ (new_form (.inl (by omega))) hm _ hp
  refine bnd_of (eqI_u64 _ _) ?_
  refine ifV_cases (fun c => ?_) fun c => ?_
  · (repeat first|(with_reducible first|refine wA ?_|refine wB ?_|refine wC ?_|refine wD ?_|refine wE ?_|refine wF ?_|refine wG ?_|refine wH ?_|refine wI ?_|refine wJ ?_|refine wN ?_|refine wT ?_|refine wU ?_)|((with_reducible refine isB ?_);first|refine wK rfl ?_|refine ld0 hp rfl ?_|refine ld1 hp rfl ?_|refine ld2 hp rfl ?_|refine ld3 hp rfl ?_|refine wP ?_|refine wQ ?_|refine wR ?_)|((with_reducible refine isIf ?_);first|refine wV ?_|refine wW ?_)|((with_reducible refine isHl ?_);first|refine hl0 hp rfl ?_|refine hl1 hp rfl ?_|refine hl2 hp rfl ?_|refine hl3 hp rfl ?_))
    exact key _ _ _ (new_form (.inl (by omega))) hm _ hp
  refine bnd_of (eqI_u64 _ _) ?_
  refine ifV_cases (fun c => ?_) fun c => ?_
  · (repeat first|(with_reducible first|refine wA ?_|refine wB ?_|refine wC ?_|refine wD ?_|refine wE ?_|refine wF ?_|refine wG ?_|refine wH ?_|refine wI ?_|refine wJ ?_|refine wN ?_|refine wT ?_|refine wU ?_)|((with_reducible refine isB ?_);first|refine wK rfl ?_|refine ld0 hp rfl ?_|refine ld1 hp rfl ?_|refine ld2 hp rfl ?_|refine ld3 hp rfl ?_|refine wP ?_|refine wQ ?_|refine wR ?_)|((with_reducible refine isIf ?_);first|refine wV ?_|refine wW ?_)|((with_reducible refine isHl ?_);first|refine hl0 hp rfl ?_|refine hl1 hp rfl ?_|refine hl2 hp rfl ?_|refine hl3 hp rfl ?_))
    exact key _ _ _ (new_form (.inr (.inl ⟨1 + y, by omega, by omega, by omega⟩))) (h64 _ (by omega) (by omega)) _ hp
  refine bnd_of (eqI_u64 _ _) ?_
  refine ifV_cases (fun c => ?_) fun c => ?_
  · (repeat first|(with_reducible first|refine wA ?_|refine wB ?_|refine wC ?_|refine wD ?_|refine wE ?_|refine wF ?_|refine wG ?_|refine wH ?_|refine wI ?_|refine wJ ?_|refine wN ?_|refine wT ?_|refine wU ?_)|((with_reducible refine isB ?_);first|refine wK rfl ?_|refine ld0 hp rfl ?_|refine ld1 hp rfl ?_|refine ld2 hp rfl ?_|refine ld3 hp rfl ?_|refine wP ?_|refine wQ ?_|refine wR ?_)|((with_reducible refine isIf ?_);first|refine wV ?_|refine wW ?_)|((with_reducible refine isHl ?_);first|refine hl0 hp rfl ?_|refine hl1 hp rfl ?_|refine hl2 hp rfl ?_|refine hl3 hp rfl ?_))
    exact key _ _ _ (new_form (.inr (.inr (.inl (by decide))))) (h64 _ (by omega) (by omega)) _ hp
  refine bnd_of (binV_and_mask (1 + y) 2 (by decide) (by decide)) ?_
  have z0 : 0 ≤ (1 + y) % ((2 ^ 2 : Nat) : Int) ∧ (1 + y) % ((2 ^ 2 : Nat) : Int) < 4 := by omega
  generalize (1 + y) % ((2 ^ 2 : Nat) : Int) = z at z0 ⊢
  (repeat first|(with_reducible first|refine wA ?_|refine wB ?_|refine wC ?_|refine wD ?_|refine wE ?_|refine wF ?_|refine wG ?_|refine wH ?_|refine wI ?_|refine wJ ?_|refine wN ?_|refine wT ?_|refine wU ?_)|((with_reducible refine isB ?_);first|refine wK rfl ?_|refine ld0 hp rfl ?_|refine ld1 hp rfl ?_|refine ld2 hp rfl ?_|refine ld3 hp rfl ?_|refine wP ?_|refine wQ ?_|refine wR ?_)|((with_reducible refine isIf ?_);first|refine wV ?_|refine wW ?_)|((with_reducible refine isHl ?_);first|refine hl0 hp rfl ?_|refine hl1 hp rfl ?_|refine hl2 hp rfl ?_|refine hl3 hp rfl ?_))
  exact key _ _ _ (new_form (.inr (.inr (.inr ⟨12 + z, by omega, by omega, by omega⟩)))) (h64 _ (by omega) (by omega)) _ hp
end
end Go.Proofs.Ytfcignalfdifnaa
namespace Go.Proofs.Ytfcignalfdifnaa
open Go GW Go.Proofs
attribute [local irreducible] bnd ldV stV ifV binV eqI
set_option linter.unusedVariables false
set_option linter.unusedSimpArgs false
set_option maxRecDepth 20000
/-- a swap at a cell that holds another descriptor -/
theorem meet_swap {t q s' g' : Int} {A : Ar} {w : Wh} {st : Int} {ds : List Sw} (o : On A w st ds) (hp : w.pc = 5) (hc0 : 0 ≤ w.cell) (hc1 : w.cell < 16) (hi0 : 0 ≤ w.i) (hi1 : w.i < 16) (l : Life s' g') (hv : A.at w.cell = (Form.mcas s' g').number) (hn : ¬ A.at w.cell = w.was) (hs : ¬ (s' = w.s ∧ g' = w.g)) (t0 : 0 ≤ t) (t1 : t < 4) (q0 : 0 ≤ q) (q1 : q < 1048576) :
    ∃ w' A', Fgo t w q A 1 w' ((q + 1) % 1048576) A' ∧ On A' w' st ds ∧ w'.s = w.s ∧ w'.g = w.g ∧ w'.pc = 14 ∧ w'.x = (Form.mcas s' g').number ∧ w'.cell = w.cell ∧ w'.was = w.was ∧ w'.i = w.i ∧ w'.k = w.k ∧ ∀ j, 0 ≤ j → j < 634 → A'.at j = A.at j := by
  have hpn := entry_range (e := w.i) (t := t) (q := q) o.life hi0 hi1 t0 t1 q0 q1
  have hr : read (A.at w.cell) = some (.mcas s' g') := by rw [hv]; exact read_number (f := .mcas s' g') (may_mcas.2 ⟨l.s0, l.s1, l.g0, l.g1⟩)
  refine ⟨{ w with put := (Form.entry w.s w.g w.i t q).number, x := A.at w.cell, pc := 14 }, A.cas w.cell w.was (Form.entry w.s w.g w.i t q).number, .one ?_, o.cas hc0 hc1 hpn rfl rfl, rfl, rfl, rfl, hv, rfl, rfl, rfl, rfl, fun j j0 j1 => ?_⟩
  · rw [Wh.step5 hp]
    unfold Wh.swapIn
    simp only
    rw [if_neg hn, hr]
    simp only
    rw [if_neg hs]
  · rw [at_cas o.ok hc0 (by omega) j0 j1]
    by_cases e : w.cell = j
    · subst e; rw [if_pos rfl, if_neg hn]
    · rw [if_neg e]
/-- the descriptor that is met goes atop -/
theorem Goes.push {H : Help} {A : Ar} {w : Wh} {s' g' : Int} {ds : List Sw} (o : On A w 0 ds) (ho : H.over = false) (ht : H.top = .who w) (hp : w.pc = 14) (l : Life s' g') (hx : w.x = (Form.mcas s' g').number) (hr : H.rest = []) :
    Goes H A 1 { H with rest := [.who { w with opn := true, won := false, pc := 5 }], top := .who (.new s' g'), slot := w.s, gen := w.g } (A.ld (baseOf w.s)) := by
  have hst : w.step H.t H.q A = ⟨.who { w with opn := true, won := false, pc := 5 }, some (.mcas s' g'), false, true, A.ld (baseOf w.s), H.q⟩ := by
    unfold Wh.step
    rw [hp]
    have e := o.d.st
    have hrd : read w.x = some (.mcas s' g') := by rw [hx]; exact read_number (f := .mcas s' g') (may_mcas.2 ⟨l.s0, l.s1, l.g0, l.g1⟩)
    simp only [e, decide_eq_true (rfl : stateW w.g 0 = stateW w.g 0), decide_eq_false (show ¬ stateW w.g 0 = stateW w.g 1 by rw [stateW_inj]; decide), stateW_val o.life.g0 o.life.g1 (show (0 : Int) ≤ 0 by decide) (by decide), decide_true, if_true, hrd]
  have h1 : H.step A = ({ H with rest := [.who { w with opn := true, won := false, pc := 5 }], top := .who (.new s' g'), slot := w.s, gen := w.g }, 0, A.ld (baseOf w.s)) := by
    rw [Help.step_eq ho, ht]
    have : (Fr.who w).step H.t H.q A = w.step H.t H.q A := rfl
    rw [this, hst]
    unfold Help.take
    simp only [ht, hr, Option.bind_some, newFr, List.length_nil, Fr.s, Fr.g, Bool.true_eq_false, if_false]
    rw [if_neg (by decide)]
  exact .step ho (by rw [h1]) (by rw [h1]; exact .refl _ _)
theorem meets {A : Ar} {x y c t : Int} (hA : A.ok) (t0 : 0 ≤ t) (t1 : t < 4) (x0 : 0 ≤ x) (x1 : x < 9) (y0 : 1 ≤ y) (y1 : y < 9) (c0 : 2 ≤ c) (c1 : c < 10)
    (may1 : swMay [Sw.mk 0 0 x, Sw.mk c 0 x] = true) (may2 : swMay [Sw.mk c 0 y, Sw.mk 12 0 y] = true) (D1 : Dsc A 0 1 0 [Sw.mk 0 0 x, Sw.mk c 0 x]) (D2 : Dsc A 1 1 0 [Sw.mk c 0 y, Sw.mk 12 0 y])
    (h0 : A.at 0 = 0) (hc : A.at c = (Form.mcas 1 1).number) (h12 : A.at 12 = 0) :
    ∃ n H' A', Goes (.fresh t 0 0) A n H' A' ∧ 0 < n ∧ n ≤ 200 ∧ H'.over = true ∧ H'.won = false ∧ A'.at 34 = 24 ∧ A'.at 84 = 20 ∧ A'.at c = 4 * y ∧ A'.at 12 = 4 * y ∧ ∀ j, 0 ≤ j → j < 16 → j ≠ c → j ≠ 12 → A'.at j = A.at j := by
  have hok := fresh_ok (t := t) (q := 0) (s := 0) (by decide) (by decide) t0 t1 (by decide) (by decide)
  have b0 : baseOf 0 = 34 := rfl
  have b1 : baseOf 1 = 84 := rfl
  have l1 : Life 1 1 := ⟨by decide, by decide, by decide, by decide⟩
  have oA : On A (Wh.new 0 1) 0 [Sw.mk 0 0 x, Sw.mk c 0 x] := fresh_on (k := 0) hA (by decide) may1 D1
  obtain ⟨w1, A1, g1, o1, s1, gg1, i1, k1, p1, e1⟩ := opens (s := 0) (g := 1) (H := .fresh t 0 0) oA rfl rfl rfl rfl rfl
  rw [if_neg (by simp)] at p1
  have z1 : A1.at 0 = 0 := by rw [e1 0 (by decide) (by decide)]; exact h0
  obtain ⟨w2, A2, f2, o2, i2, k2, s2, gg2, p2, m2, e2⟩ := acq (t := t) (q := 0) (k := 0) o1 p1 i1 k1 rfl z1 t0 t1 (by decide) (by decide)
  rw [if_neg (by simp)] at p2
  obtain ⟨A3, f3, o3, e3⟩ := two_loads (t := t) (q := (0 + 1) % 1048576) (k := 1) o2 p2 i2 rfl
  have hc3 : A3.at c = (Form.mcas 1 1).number := by rw [e3 _ (by omega) (by omega), e2 c (by omega) (by omega) (by simp only; omega), e1 _ (by omega) (by omega)]; exact hc
  obtain ⟨w4, A4, f4, o4, s4, gg4, p4, x4, c4, a4, i4, k4, e4⟩ := meet_swap (t := t) (q := (0 + 1) % 1048576) (s' := 1) (g' := 1) o3 rfl (by simp only; omega) (by simp only; omega) (by simp only; omega) (by simp only; omega) l1 hc3 (by
    show ¬ A3.at c = 0 * 4
    rw [hc3]; exact mcas_not_val) (by simp only; omega) t0 t1 (by decide) (by decide)
  simp only at s4 gg4 c4 a4 i4 k4
  have fA := f2.trans (f3.trans f4)
  have g4 := g1.trans (fA.goes (H := (Help.fresh t 0 0).at (Help.fresh t 0 0).q w1) (by decide) rfl rfl rfl rfl)
  rw [at_at] at g4
  have g5 := g4.trans (Goes.push (H := (Help.fresh t 0 0).at (((0 + 1) % 1048576 + 1) % 1048576) w4) (s' := 1) (g' := 1) o4 rfl rfl p4 l1 x4 rfl)
  have hs4 : w4.s = 0 := by rw [s4, s2, s1]
  have hg4 : w4.g = 1 := by rw [gg4, gg2, gg1]
  have e5 : ∀ j, 0 ≤ j → j < 634 → j ≠ 0 → (A4.ld (baseOf w4.s)).at j = A.at j := fun j j0 j1 jn => by
    rw [hs4, at_ld o4.ok (by decide) (by decide) j0 j1, e4 j j0 j1, e3 j j0 j1, e2 j j0 j1 jn, e1 j j0 j1]
  have z5 : (A4.ld (baseOf w4.s)).at 0 = (Form.mcas 0 1).number := by
    rw [hs4, at_ld o4.ok (by decide) (by decide) (by decide) (by decide), e4 _ (by decide) (by decide), e3 _ (by decide) (by decide)]
    have := m2
    simp only [s1, gg1] at this
    exact this
  have ok5 := (g5.ok hok hA).2
  have oB0 : On (A4.ld (baseOf w4.s)) { w4 with opn := true, won := false, pc := 5 } 0 [Sw.mk 0 0 x, Sw.mk c 0 x] := o4.ld (by rw [hs4]; decide) (by rw [hs4]; decide) rfl rfl
  generalize A4.ld (baseOf w4.s) = B at g5 e5 z5 ok5 oB0
  generalize hq5 : ((0 + 1) % 1048576 + 1 : Int) % 1048576 = q5 at g5
  have hH5 := (g5.ok hok hA).1
  generalize hw5 : ({ w4 with opn := true, won := false, pc := 5 } : Wh) = w5 at g5 oB0 hH5
  have w5s : w5.s = 0 := by rw [← hw5]; exact hs4
  have w5g : w5.g = 1 := by rw [← hw5]; exact hg4
  have w5p : w5.pc = 5 := by rw [← hw5]
  have w5c : w5.cell = c := by rw [← hw5]; exact c4
  have w5w : w5.was = 0 := by rw [← hw5]; show w4.was = 0; rw [a4]; rfl
  have w5i : w5.i = 1 := by rw [← hw5]; show w4.i = 1; rw [i4, i2]; rfl
  generalize hH5e : ({ (Help.fresh t 0 0).at q5 w4 with rest := [.who w5], top := .who (.new 1 1), slot := w4.s, gen := w4.g } : Help) = H5 at g5 hH5
  have h5o : H5.over = false := by rw [← hH5e]; rfl
  have h5t : H5.top = .who (.new 1 1) := by rw [← hH5e]
  have h5T : H5.t = t := by rw [← hH5e]; rfl
  have h5q : H5.q = q5 := by rw [← hH5e]; rfl
  have h5r : H5.rest = [.who w5] := by rw [← hH5e]
  clear hH5e
  have oB1 : On B (Wh.new 1 1) 0 [Sw.mk c 0 y, Sw.mk 12 0 y] := ⟨ok5, l1, may2, D2.keep may2 fun j j0 j1 => e5 j (by omega) (by omega) (by omega)⟩
  obtain ⟨w6, A6, g6, o6, s6, gg6, i6, k6, p6, e6⟩ := opens (s := 1) (g := 1) (H := H5) oB1 rfl rfl rfl h5o h5t
  rw [if_neg (by simp)] at p6
  have q50 := hH5.q0
  have q51 := hH5.q1
  obtain ⟨w7, A7, f7, o7, i7, k7, s7, gg7, p7, e7⟩ := acq_mine (t := t) (q := H5.q) (k := 0) o6 p6 i6 k6 rfl (by
    rw [e6 _ (by simp only; omega) (by simp only; omega), e5 _ (by simp only; omega) (by simp only; omega) (by simp only; omega), s6, gg6]; exact hc) t0 t1 q50 q51
  rw [if_neg (by simp)] at p7
  have z7 : A7.at 12 = 0 := by rw [e7 12 (by decide) (by decide), e6 12 (by decide) (by decide), e5 12 (by decide) (by decide) (by decide)]; exact h12
  obtain ⟨w8, A8, f8, o8, i8, k8, s8, gg8, p8, m8, e8⟩ := acq (t := t) (q := (H5.q + 1) % 1048576) (k := 1) o7 p7 i7 k7 rfl z7 t0 t1 (by omega) (by omega)
  rw [if_pos (by simp)] at p8
  have fB := f7.trans f8
  rw [← h5T] at fB
  have g8 := g6.trans (fB.goes (H := H5.at H5.q w6) (by decide) h5o rfl rfl rfl)
  rw [at_at] at g8
  have s8' : w8.s = 1 := by rw [s8, s7, s6]
  have gg8' : w8.g = 1 := by rw [gg8, gg7, gg6]
  obtain ⟨f9, A9, g9, o9, c9, e9⟩ := decideAll (s := 1) (g := 1) (H := H5.at (((H5.q + 1) % 1048576 + 1) % 1048576) w8) o8 s8' gg8' (.inl p8) h5o rfl
  rw [p8] at c9 o9 g9
  simp only [if_true] at c9 o9
  have c8 : ∀ j, 0 ≤ j → j < 634 → j ≠ 12 → A8.at j = B.at j := fun j j0 j1 jn => by rw [e8 j j0 j1 jn, e7 j j0 j1, e6 j j0 j1]
  have c9c : A9.at c = y * 4 := by
    have := c9 0 _ rfl
    simp only at this
    rw [this, if_pos]
    rw [c8 c (by omega) (by omega) (by omega), e5 c (by omega) (by omega) (by omega)]; exact hc
  have c9t : A9.at 12 = y * 4 := by
    have := c9 1 _ rfl
    simp only at this
    rw [this, if_pos]
    have := m8
    simp only [s6, gg6, s7, gg7] at this
    exact this
  have c9s : A9.at 84 = 20 := by
    have := o9.d.st
    rw [s8', gg8'] at this
    exact this
  have c9o : ∀ j, 0 ≤ j → j < 634 → j ≠ 84 → j ≠ c → j ≠ 12 → A9.at j = B.at j := fun j j0 j1 j2 j3 j4 => by
    rw [e9 j j0 j1 (by rw [b1]; exact j2) (fun i d hd => by
      rcases i with _ | _ | i
      · cases hd; exact fun e => j3 e.symm
      · cases hd; exact fun e => j4 e.symm
      · cases hd), c8 j j0 j1 j4]
  have g9' := g5.trans (g8.trans g9)
  have ok9 := g9'.ok hok hA
  generalize hH9e : (H5.at (((H5.q + 1) % 1048576 + 1) % 1048576) w8).popped (H5.at (((H5.q + 1) % 1048576 + 1) % 1048576) w8).q 1 1 (decide (8 = 8)) f9 = H9 at g9' ok9
  have hpop : H9 = { H5 with q := (((H5.q + 1) % 1048576 + 1) % 1048576), top := .who w5, rest := [], slot := 1, gen := 1, won := false } := by
    rw [← hH9e]
    unfold Help.popped
    have : (H5.at (((H5.q + 1) % 1048576 + 1) % 1048576) w8).rest = [.who w5] := h5r
    rw [this]
    rfl
  have h9o : H9.over = false := by rw [hpop]; exact h5o
  have h9t : H9.top = .who w5 := by rw [hpop]
  have h9T : H9.t = t := by rw [hpop]; exact h5T
  have h9r : H9.rest = [] := by rw [hpop]
  clear hH9e hpop
  have o10 : On A9 w5 0 [Sw.mk 0 0 x, Sw.mk c 0 x] := ⟨ok9.2, oB0.life, may1, oB0.d.keep may1 fun j j0 j1 => by
    rw [w5s, b0] at j0 j1
    exact c9o j (by omega) (by omega) (by omega) (by omega) (by omega)⟩
  obtain ⟨w10, A10, f10, o11, s10, gg10, p10, e10⟩ := lose_swap (t := t) (q := H9.q) (v := y) o10 w5p (by rw [w5c]; omega) (by rw [w5c]; omega) (by rw [w5i]; decide) (by rw [w5i]; decide) (by omega) (by omega) (by rw [w5c]; exact c9c) (by rw [w5w]; omega) t0 t1 ok9.1.q0 ok9.1.q1
  rw [← h9T] at f10
  have g10 := g9'.trans (f10.goes (H := H9) (by decide) h9o h9t rfl rfl)
  obtain ⟨f11, A11, g11, o12, c11, e11⟩ := decideAll (s := 0) (g := 1) (H := H9.at ((H9.q + 1) % 1048576) w10) o11 (by rw [s10]; exact w5s) (by rw [gg10]; exact w5g) (.inr p10) h9o rfl
  rw [p10] at c11 o12 g11
  have gEnd := g10.trans g11
  have c11c : A11.at c = y * 4 := by
    have := c11 1 _ rfl
    simp only at this
    rw [this, e10 c (by omega) (by omega), c9c, if_neg mcas_not_val.symm]
  have c110 : A11.at 0 = 0 := by
    have := c11 0 _ rfl
    simp only at this
    rw [this, if_pos]
    · rfl
    · rw [e10 0 (by decide) (by decide), c9o 0 (by decide) (by decide) (by decide) (by omega) (by decide), z5]
  have cO : ∀ j, 0 ≤ j → j < 634 → j ≠ 34 → j ≠ 0 → j ≠ c → A11.at j = A9.at j := fun j j0 j1 j2 j3 j4 => by
    rw [e11 j j0 j1 (by rw [b0]; exact j2) (fun i d hd => by
      rcases i with _ | _ | i
      · cases hd; exact fun e => j3 e.symm
      · cases hd; exact fun e => j4 e.symm
      · cases hd), e10 j j0 j1]
  refine ⟨_, _, A11, gEnd, by omega, ?_, ?_, ?_, ?_, ?_, ?_, ?_, ?_⟩
  · simp
  · unfold Help.popped
    have : (H9.at ((H9.q + 1) % 1048576) w10).rest = [] := h9r
    rw [this]
  · unfold Help.popped
    have : (H9.at ((H9.q + 1) % 1048576) w10).rest = [] := h9r
    rw [this]; rfl
  · have := o12.d.st
    rw [s10, w5s, gg10, w5g] at this
    exact this
  · rw [cO 84 (by decide) (by decide) (by decide) (by decide) (by omega)]; exact c9s
  · rw [c11c]; omega
  · rw [cO 12 (by decide) (by decide) (by decide) (by decide) (by omega), c9t]; omega
  · intro j j0 j1 j2 j3
    by_cases e : j = 0
    · subst e; rw [c110, h0]
    · rw [cO j j0 (by omega) (by omega) e j2, c9o j j0 (by omega) (by omega) j2 j3, e5 j j0 (by omega) e]
section
variable {R : List Part} {h : GH} {K : Value → GH → Prop}
theorem getD_set {cs : List Int} {i j : Nat} {x : Int} (hi : i < cs.length) : (cs.set i x).getD j 0 = if i = j then x else cs.getD j 0 := by
  rw [List.getD_eq_getElem?_getD, List.getElem?_set]
  by_cases e : i = j
  · rw [if_pos e, if_pos (by omega), if_pos e]; rfl
  · rw [if_neg e, if_neg e, List.getD_eq_getElem?_getD]
theorem rep0 (j : Nat) : (List.replicate 16 (0 : Int)).getD j 0 = 0 := by
  rw [List.getD_eq_getElem?_getD, List.getElem?_replicate]
  split <;> rfl
theorem T_HelpMeets {g : GH} {a0 b0 shared thread : Int} (hp : All [baseP g] h) (hK : ∀ h', K (.bool true) h') : T Try.prog 11 [i64 a0, i64 b0, i64 shared, i64 thread] h K := by
  apply S11_T
  unfold S11
  refine T_awake hp fun h1 hp => ?_
  (repeat first|(with_reducible first|refine wA ?_|refine wB ?_|refine wC ?_|refine wD ?_|refine wE ?_|refine wF ?_|refine wG ?_|refine wH ?_|refine wI ?_|refine wJ ?_|refine wN ?_|refine wT ?_|refine wU ?_)|((with_reducible refine isB ?_);first|refine wK rfl ?_|refine ld0 hp rfl ?_|refine ld1 hp rfl ?_|refine ld2 hp rfl ?_|refine ld3 hp rfl ?_|refine wP ?_|refine wQ ?_|refine wR ?_)|((with_reducible refine isIf ?_);first|refine wV ?_|refine wW ?_)|((with_reducible refine isHl ?_);first|refine hl0 hp rfl ?_|refine hl1 hp rfl ?_|refine hl2 hp rfl ?_|refine hl3 hp rfl ?_))
  refine bnd_of (binV_and_mask a0 3 (by decide) (by decide)) ?_
  have x0 : 0 ≤ a0 % ((2 ^ 3 : Nat) : Int) ∧ a0 % ((2 ^ 3 : Nat) : Int) < 8 := by omega
  generalize a0 % ((2 ^ 3 : Nat) : Int) = x' at x0 ⊢
  (repeat first|(with_reducible first|refine wA ?_|refine wB ?_|refine wC ?_|refine wD ?_|refine wE ?_|refine wF ?_|refine wG ?_|refine wH ?_|refine wI ?_|refine wJ ?_|refine wN ?_|refine wT ?_|refine wU ?_)|((with_reducible refine isB ?_);first|refine wK rfl ?_|refine ld0 hp rfl ?_|refine ld1 hp rfl ?_|refine ld2 hp rfl ?_|refine ld3 hp rfl ?_|refine wP ?_|refine wQ ?_|refine wR ?_)|((with_reducible refine isIf ?_);first|refine wV ?_|refine wW ?_)|((with_reducible refine isHl ?_);first|refine hl0 hp rfl ?_|refine hl1 hp rfl ?_|refine hl2 hp rfl ?_|refine hl3 hp rfl ?_))
  refine bnd_of (binV_and_mask b0 3 (by decide) (by decide)) ?_
  have y0 : 0 ≤ b0 % ((2 ^ 3 : Nat) : Int) ∧ b0 % ((2 ^ 3 : Nat) : Int) < 8 := by omega
  generalize b0 % ((2 ^ 3 : Nat) : Int) = y' at y0 ⊢
  (repeat first|(with_reducible first|refine wA ?_|refine wB ?_|refine wC ?_|refine wD ?_|refine wE ?_|refine wF ?_|refine wG ?_|refine wH ?_|refine wI ?_|refine wJ ?_|refine wN ?_|refine wT ?_|refine wU ?_)|((with_reducible refine isB ?_);first|refine wK rfl ?_|refine ld0 hp rfl ?_|refine ld1 hp rfl ?_|refine ld2 hp rfl ?_|refine ld3 hp rfl ?_|refine wP ?_|refine wQ ?_|refine wR ?_)|((with_reducible refine isIf ?_);first|refine wV ?_|refine wW ?_)|((with_reducible refine isHl ?_);first|refine hl0 hp rfl ?_|refine hl1 hp rfl ?_|refine hl2 hp rfl ?_|refine hl3 hp rfl ?_))
  refine bnd_of (binV_and_mask shared 3 (by decide) (by decide)) ?_
  obtain ⟨c', hc', ec⟩ : ∃ k : Nat, k < 8 ∧ shared % ((2 ^ 3 : Nat) : Int) = k := ⟨(shared % 8).toNat, by omega, by omega⟩
  rw [ec]
  (repeat first|(with_reducible first|refine wA ?_|refine wB ?_|refine wC ?_|refine wD ?_|refine wE ?_|refine wF ?_|refine wG ?_|refine wH ?_|refine wI ?_|refine wJ ?_|refine wN ?_|refine wT ?_|refine wU ?_)|((with_reducible refine isB ?_);first|refine wK rfl ?_|refine ld0 hp rfl ?_|refine ld1 hp rfl ?_|refine ld2 hp rfl ?_|refine ld3 hp rfl ?_|refine wP ?_|refine wQ ?_|refine wR ?_)|((with_reducible refine isIf ?_);first|refine wV ?_|refine wW ?_)|((with_reducible refine isHl ?_);first|refine hl0 hp rfl ?_|refine hl1 hp rfl ?_|refine hl2 hp rfl ?_|refine hl3 hp rfl ?_))
  obtain ⟨x, hx⟩ : ∃ x, x = 1 + x' := ⟨_, rfl⟩
  obtain ⟨y, hy⟩ : ∃ y, y = 1 + y' := ⟨_, rfl⟩
  obtain ⟨c, hc⟩ : ∃ c : Nat, c = 2 + c' := ⟨_, rfl⟩
  rw [← hx, ← hy, show (2 : Int) + (c' : Int) = (c : Int) by omega]
  refine mk0 (size := 1) (bytes := 8) (zero := [.int .i64 0]) (n := 16) hp ⟨rfl, rfl⟩ (by decide) (by decide) fun cv h2 hp => ?_
  rw [zeros_enc] at hp
  refine T_mine (by decide) (by decide) ?_
  refine setc hp (i := c) rfl (by simp; omega) fun h3 hp => ?_
  have hmw := mineW_range (s := 1) (by decide) (by decide)
  generalize hcs : (List.replicate 16 (0 : Int)).set c (mineW 1) = cells at hp
  have hcells : ∀ j : Nat, cells.getD j 0 = if c = j then mineW 1 else 0 := fun j => by rw [← hcs, getD_set (by simp; omega), rep0]
  have hcr : ∀ x ∈ cells, I64 x := fun x hx => by
    rw [← hcs] at hx
    rcases List.mem_or_eq_of_mem_set hx with hx | rfl
    · rw [List.eq_of_mem_replicate hx]; exact ⟨by decide, by decide⟩
    · exact hmw
  have may1 : swMay [Sw.mk 0 0 x, Sw.mk c 0 x] = true := by
    simp [swMay, swOk]
    exact ⟨⟨by simp only; omega, by simp only; omega, by simp only; omega, by simp only; omega, by simp only; omega, by simp only; omega⟩, ⟨by simp only; omega, by simp only; omega, by simp only; omega, by simp only; omega, by simp only; omega, by simp only; omega⟩⟩
  have may2 : swMay [Sw.mk c 0 y, Sw.mk 12 0 y] = true := by
    simp [swMay, swOk]
    exact ⟨⟨by simp only; omega, by simp only; omega, by simp only; omega, by simp only; omega, by simp only; omega, by simp only; omega⟩, ⟨by simp only; omega, by simp only; omega, by simp only; omega, by simp only; omega, by simp only; omega, by simp only; omega⟩⟩
  (repeat first|(with_reducible first|refine wA ?_|refine wB ?_|refine wC ?_|refine wD ?_|refine wE ?_|refine wF ?_|refine wG ?_|refine wH ?_|refine wI ?_|refine wJ ?_|refine wN ?_|refine wT ?_|refine wU ?_)|((with_reducible refine isB ?_);first|refine wK rfl ?_|refine ld0 hp rfl ?_|refine ld1 hp rfl ?_|refine ld2 hp rfl ?_|refine ld3 hp rfl ?_|refine wP ?_|refine wQ ?_|refine wR ?_)|((with_reducible refine isIf ?_);first|refine wV ?_|refine wW ?_)|((with_reducible refine isHl ?_);first|refine hl0 hp rfl ?_|refine hl1 hp rfl ?_|refine hl2 hp rfl ?_|refine hl3 hp rfl ?_))
  refine bs0 (size := 3) hp ([Sw.mk 0 0 x, Sw.mk c 0 x].map encS) rfl rfl (by simp) (encS_good _) fun rw1 h4 hp => ?_
  (repeat first|(with_reducible first|refine wA ?_|refine wB ?_|refine wC ?_|refine wD ?_|refine wE ?_|refine wF ?_|refine wG ?_|refine wH ?_|refine wI ?_|refine wJ ?_|refine wN ?_|refine wT ?_|refine wU ?_)|((with_reducible refine isB ?_);first|refine wK rfl ?_|refine ld0 hp rfl ?_|refine ld1 hp rfl ?_|refine ld2 hp rfl ?_|refine ld3 hp rfl ?_|refine wP ?_|refine wQ ?_|refine wR ?_)|((with_reducible refine isIf ?_);first|refine wV ?_|refine wW ?_)|((with_reducible refine isHl ?_);first|refine hl0 hp rfl ?_|refine hl1 hp rfl ?_|refine hl2 hp rfl ?_|refine hl3 hp rfl ?_))
  refine bs0 (size := 3) hp ([Sw.mk c 0 y, Sw.mk 12 0 y].map encS) rfl rfl (by simp) (encS_good _) fun rw2 h5 hp => ?_
  have hr1 := hp.up 1
  obtain ⟨sa, sc, _, rfl, _⟩ := hr1.row
  obtain ⟨sa2, sc2, _, rfl, _⟩ := hp.row
  clear hr1
  refine bs0 (size := 1) hp [[.slice sa 2 sc], [.slice sa2 2 sc2]] rfl rfl (by simp) (fun c hc => by
    rcases List.mem_cons.1 hc with rfl | hc
    · exact ⟨rfl, rfl⟩
    · rw [List.mem_singleton.1 hc]; exact ⟨rfl, rfl⟩) fun dv h6 hp => ?_
  refine T_shelf (us := [.slice sa 2 sc, .slice sa2 2 sc2]) (cells := cells) (dss := [[Sw.mk 0 0 x, Sw.mk c 0 x], [Sw.mk c 0 y, Sw.mk 12 0 y]]) hp (fun h' hp => (hp.up 3).rows) (fun h' hp => ⟨hp.rows, .cons (hp.up 2).rows (.cons (hp.up 1).rows .nil)⟩) hcr fun a b h7 hp => ?_
  obtain ⟨hA, hcell, hdsc⟩ := shelf_view (cells := cells) (dss := [[Sw.mk 0 0 x, Sw.mk c 0 x], [Sw.mk c 0 y, Sw.mk 12 0 y]]) hcr
  have D1 : Dsc (shelfA cells [[Sw.mk 0 0 x, Sw.mk c 0 x], [Sw.mk c 0 y, Sw.mk 12 0 y]]) ((0 : Nat) : Int) 1 0 _ := hdsc 0 _ (by decide) rfl may1
  have D2 : Dsc (shelfA cells [[Sw.mk 0 0 x, Sw.mk c 0 x], [Sw.mk c 0 y, Sw.mk 12 0 y]]) ((1 : Nat) : Int) 1 0 _ := hdsc 1 _ (by decide) rfl may2
  generalize shelfA cells [[Sw.mk 0 0 x, Sw.mk c 0 x], [Sw.mk c 0 y, Sw.mk 12 0 y]] = A at hp hA hcell D1 D2
  (repeat first|(with_reducible first|refine wA ?_|refine wB ?_|refine wC ?_|refine wD ?_|refine wE ?_|refine wF ?_|refine wG ?_|refine wH ?_|refine wI ?_|refine wJ ?_|refine wN ?_|refine wT ?_|refine wU ?_)|((with_reducible refine isB ?_);first|refine wK rfl ?_|refine ld0 hp rfl ?_|refine ld1 hp rfl ?_|refine ld2 hp rfl ?_|refine ld3 hp rfl ?_|refine wP ?_|refine wQ ?_|refine wR ?_)|((with_reducible refine isIf ?_);first|refine wV ?_|refine wW ?_)|((with_reducible refine isHl ?_);first|refine hl0 hp rfl ?_|refine hl1 hp rfl ?_|refine hl2 hp rfl ?_|refine hl3 hp rfl ?_))
  refine bnd_of (binV_and_mask thread 2 (by decide) (by decide)) ?_
  have t0 : 0 ≤ thread % ((2 ^ 2 : Nat) : Int) ∧ thread % ((2 ^ 2 : Nat) : Int) < 4 := by omega
  generalize thread % ((2 ^ 2 : Nat) : Int) = t at t0 ⊢
  refine T_mine (by decide) (by decide) ?_
  refine T_NewMine hp (by decide) (by decide) t0.1 t0.2 (by decide) (by decide) fun b' h8 hp => ?_
  (repeat first|(with_reducible first|refine wA ?_|refine wB ?_|refine wC ?_|refine wD ?_|refine wE ?_|refine wF ?_|refine wG ?_|refine wH ?_|refine wI ?_|refine wJ ?_|refine wN ?_|refine wT ?_|refine wU ?_)|((with_reducible refine isB ?_);first|refine wK rfl ?_|refine ld0 hp rfl ?_|refine ld1 hp rfl ?_|refine ld2 hp rfl ?_|refine ld3 hp rfl ?_|refine wP ?_|refine wQ ?_|refine wR ?_)|((with_reducible refine isIf ?_);first|refine wV ?_|refine wW ?_)|((with_reducible refine isHl ?_);first|refine hl0 hp rfl ?_|refine hl1 hp rfl ?_|refine hl2 hp rfl ?_|refine hl3 hp rfl ?_))
  refine T_Num ?_
  (repeat first|(with_reducible first|refine wA ?_|refine wB ?_|refine wC ?_|refine wD ?_|refine wE ?_|refine wF ?_|refine wG ?_|refine wH ?_|refine wI ?_|refine wJ ?_|refine wN ?_|refine wT ?_|refine wU ?_)|((with_reducible refine isB ?_);first|refine wK rfl ?_|refine ld0 hp rfl ?_|refine ld1 hp rfl ?_|refine ld2 hp rfl ?_|refine ld3 hp rfl ?_|refine wP ?_|refine wQ ?_|refine wR ?_)|((with_reducible refine isIf ?_);first|refine wV ?_|refine wW ?_)|((with_reducible refine isHl ?_);first|refine hl0 hp rfl ?_|refine hl1 hp rfl ?_|refine hl2 hp rfl ?_|refine hl3 hp rfl ?_))
  have hcz : ∀ j : Nat, j < 16 → A.at j = if c = j then mineW 1 else 0 := fun j hj => by
    rw [hcell j (by omega) (by omega), ← hcells]; rfl
  obtain ⟨n, H', A', gg, n0, n1, fo, fw, f34, f84, fcc, f12, fr⟩ := meets (t := t) hA t0.1 t0.2 (show 0 ≤ x by omega) (by omega) (show 1 ≤ y by omega) (by omega) (show 2 ≤ (c : Int) by omega) (by omega) may1 may2 D1 D2
    (by have := hcz 0 (by decide); rw [if_neg (by omega)] at this; exact this) (by have := hcz c (by omega); rw [if_pos rfl] at this; rw [this]; exact mineW_eq 1) (by have := hcz 12 (by decide); rw [if_neg (by omega)] at this; exact this)
  have hfo := fresh_ok (t := t) (q := 0) (s := 0) (by decide) (by decide) t0.1 t0.2 (by decide) (by decide)
  have hA' := (gg.ok hfo hA).2
  have hruns := gg.runs (N := 200) (m := 0) fo n1 n0
  rw [Nat.zero_add] at hruns
  generalize Help.fresh t 0 0 = H0 at hp hruns hfo
  replace hp : All (helpP b' H0 :: arP 110 a A :: [baseP g]) h8 := hp.sel [0, 1, 7]
  unfold S11_j1
  refine Lfp_fam (ι := Nat × Help × Ar × Bool × Nat) (fun p => [i64 y, i64 c, ptr a, ptr b', .bool p.2.2.2.1, i64 p.1]) (fun p h' => p.1 ≤ 200 ∧ p.2.1.ok ∧ p.2.2.1.ok ∧ runs (200 - p.1) p.2.1 p.2.2.1 p.2.2.2.1 p.2.2.2.2 = some (H', A', true, n) ∧ All (helpP b' p.2.1 :: arP 110 a p.2.2.1 :: [baseP g]) h') (fun p => 200 - p.1) ?_ (0, H0, A, false, 0) h8 ⟨by omega, hfo, hA, hruns, hp⟩
  clear hruns hp
  rintro ⟨i, G, B, ov, m⟩ h9 Z ⟨hi, hG, hB, hq, hp⟩ again
  simp only at hi hG hB hq hp
  simp only [tup_zero, tup_succ]
  have key2 : (G, B, ov, m) = (H', A', true, n) → ∀ s1 X, S11_j3 s1 (i64 y) (i64 c) (ptr a) (ptr b') (.bool ov) h9 K X := by
    intro e s1 X
    cases e
    unfold S11_j3
    refine mk0 (size := 1) (bytes := 8) (zero := [.int .i64 0]) (n := 16) hp ⟨rfl, rfl⟩ (by decide) (by decide) fun wv h10 hp => ?_
    rw [zeros_enc] at hp
    (repeat first|(with_reducible first|refine wA ?_|refine wB ?_|refine wC ?_|refine wD ?_|refine wE ?_|refine wF ?_|refine wG ?_|refine wH ?_|refine wI ?_|refine wJ ?_|refine wN ?_|refine wT ?_|refine wU ?_)|((with_reducible refine isB ?_);first|refine wK rfl ?_|refine ld0 hp rfl ?_|refine ld1 hp rfl ?_|refine ld2 hp rfl ?_|refine ld3 hp rfl ?_|refine wP ?_|refine wQ ?_|refine wR ?_)|((with_reducible refine isIf ?_);first|refine wV ?_|refine wW ?_)|((with_reducible refine isHl ?_);first|refine hl0 hp rfl ?_|refine hl1 hp rfl ?_|refine hl2 hp rfl ?_|refine hl3 hp rfl ?_))
    refine setc hp (i := c) rfl (by simp; omega) fun h11 hp => ?_
    (repeat first|(with_reducible first|refine wA ?_|refine wB ?_|refine wC ?_|refine wD ?_|refine wE ?_|refine wF ?_|refine wG ?_|refine wH ?_|refine wI ?_|refine wJ ?_|refine wN ?_|refine wT ?_|refine wU ?_)|((with_reducible refine isB ?_);first|refine wK rfl ?_|refine ld0 hp rfl ?_|refine ld1 hp rfl ?_|refine ld2 hp rfl ?_|refine ld3 hp rfl ?_|refine wP ?_|refine wQ ?_|refine wR ?_)|((with_reducible refine isIf ?_);first|refine wV ?_|refine wW ?_)|((with_reducible refine isHl ?_);first|refine hl0 hp rfl ?_|refine hl1 hp rfl ?_|refine hl2 hp rfl ?_|refine hl3 hp rfl ?_))
    refine setc hp (i := 12) rfl (by simp) fun h12 hp => ?_
    generalize hws : ((List.replicate 16 (0 : Int)).set c (4 * y)).set 12 (4 * y) = want at hp
    have hwl : want.length = 16 := by rw [← hws]; simp
    have hfin : ∀ j : Nat, j < 16 → A'.at j = want.getD j 0 := fun j hj => by
      rw [← hws, getD_set (by simp), getD_set (by simp; omega), rep0]
      by_cases e1 : 12 = j
      · subst e1; rw [if_pos rfl]; exact f12
      · rw [if_neg e1]
        by_cases e2 : c = j
        · subst e2; rw [if_pos rfl]; exact fcc
        · rw [if_neg e2, fr j (by omega) (by omega) (by omega) (by omega), hcz j hj, if_neg e2]
    refine T_All (hp.up 2) fun av h13 hp => ?_
    refine L_Load (hp.up 1) (by decide) (by decide) fun h14 hp => ?_
    (repeat first|(with_reducible first|refine wA ?_|refine wB ?_|refine wC ?_|refine wD ?_|refine wE ?_|refine wF ?_|refine wG ?_|refine wH ?_|refine wI ?_|refine wJ ?_|refine wN ?_|refine wT ?_|refine wU ?_)|((with_reducible refine isB ?_);first|refine wK rfl ?_|refine ld0 hp rfl ?_|refine ld1 hp rfl ?_|refine ld2 hp rfl ?_|refine ld3 hp rfl ?_|refine wP ?_|refine wQ ?_|refine wR ?_)|((with_reducible refine isIf ?_);first|refine wV ?_|refine wW ?_)|((with_reducible refine isHl ?_);first|refine hl0 hp rfl ?_|refine hl1 hp rfl ?_|refine hl2 hp rfl ?_|refine hl3 hp rfl ?_))
    refine L_Load hp (by decide) (by decide) fun h15 hp => ?_
    rw [at_ld hA' (by decide) (by decide) (by decide) (by decide), f34, f84]
    (repeat first|(with_reducible first|refine wA ?_|refine wB ?_|refine wC ?_|refine wD ?_|refine wE ?_|refine wF ?_|refine wG ?_|refine wH ?_|refine wI ?_|refine wJ ?_|refine wN ?_|refine wT ?_|refine wU ?_)|((with_reducible refine isB ?_);first|refine wK rfl ?_|refine ld0 hp rfl ?_|refine ld1 hp rfl ?_|refine ld2 hp rfl ?_|refine ld3 hp rfl ?_|refine wP ?_|refine wQ ?_|refine wR ?_)|((with_reducible refine isIf ?_);first|refine wV ?_|refine wW ?_)|((with_reducible refine isHl ?_);first|refine hl0 hp rfl ?_|refine hl1 hp rfl ?_|refine hl2 hp rfl ?_|refine hl3 hp rfl ?_))
    refine T_Won (hp.up 3) ?_
    rw [fw]
    (repeat first|(with_reducible first|refine wA ?_|refine wB ?_|refine wC ?_|refine wD ?_|refine wE ?_|refine wF ?_|refine wG ?_|refine wH ?_|refine wI ?_|refine wJ ?_|refine wN ?_|refine wT ?_|refine wU ?_)|((with_reducible refine isB ?_);first|refine wK rfl ?_|refine ld0 hp rfl ?_|refine ld1 hp rfl ?_|refine ld2 hp rfl ?_|refine ld3 hp rfl ?_|refine wP ?_|refine wQ ?_|refine wR ?_)|((with_reducible refine isIf ?_);first|refine wV ?_|refine wW ?_)|((with_reducible refine isHl ?_);first|refine hl0 hp rfl ?_|refine hl1 hp rfl ?_|refine hl2 hp rfl ?_|refine hl3 hp rfl ?_))
    have hpr := hp.up 1
    refine bnd_of (All.len hpr) ?_
    rw [List.length_map, hA'.words]
    (repeat first|(with_reducible first|refine wA ?_|refine wB ?_|refine wC ?_|refine wD ?_|refine wE ?_|refine wF ?_|refine wG ?_|refine wH ?_|refine wI ?_|refine wJ ?_|refine wN ?_|refine wT ?_|refine wU ?_)|((with_reducible refine isB ?_);first|refine wK rfl ?_|refine ld0 hp rfl ?_|refine ld1 hp rfl ?_|refine ld2 hp rfl ?_|refine ld3 hp rfl ?_|refine wP ?_|refine wQ ?_|refine wR ?_)|((with_reducible refine isIf ?_);first|refine wV ?_|refine wW ?_)|((with_reducible refine isHl ?_);first|refine hl0 hp rfl ?_|refine hl1 hp rfl ?_|refine hl2 hp rfl ?_|refine hl3 hp rfl ?_))
    refine T_cellsSame hpr (All.rows (hp.up 2)) hA' hwl hfin ?_
    (repeat first|(with_reducible first|refine wA ?_|refine wB ?_|refine wC ?_|refine wD ?_|refine wE ?_|refine wF ?_|refine wG ?_|refine wH ?_|refine wI ?_|refine wJ ?_|refine wN ?_|refine wT ?_|refine wU ?_)|((with_reducible refine isB ?_);first|refine wK rfl ?_|refine ld0 hp rfl ?_|refine ld1 hp rfl ?_|refine ld2 hp rfl ?_|refine ld3 hp rfl ?_|refine wP ?_|refine wQ ?_|refine wR ?_)|((with_reducible refine isIf ?_);first|refine wV ?_|refine wW ?_)|((with_reducible refine isHl ?_);first|refine hl0 hp rfl ?_|refine hl1 hp rfl ?_|refine hl2 hp rfl ?_|refine hl3 hp rfl ?_))
    refine T_Num ?_
    (repeat first|(with_reducible first|refine wA ?_|refine wB ?_|refine wC ?_|refine wD ?_|refine wE ?_|refine wF ?_|refine wG ?_|refine wH ?_|refine wI ?_|refine wJ ?_|refine wN ?_|refine wT ?_|refine wU ?_)|((with_reducible refine isB ?_);first|refine wK rfl ?_|refine ld0 hp rfl ?_|refine ld1 hp rfl ?_|refine ld2 hp rfl ?_|refine ld3 hp rfl ?_|refine wP ?_|refine wQ ?_|refine wR ?_)|((with_reducible refine isIf ?_);first|refine wV ?_|refine wW ?_)|((with_reducible refine isHl ?_);first|refine hl0 hp rfl ?_|refine hl1 hp rfl ?_|refine hl2 hp rfl ?_|refine hl3 hp rfl ?_))
    refine T_Num ?_
    (repeat first|(with_reducible first|refine wA ?_|refine wB ?_|refine wC ?_|refine wD ?_|refine wE ?_|refine wF ?_|refine wG ?_|refine wH ?_|refine wI ?_|refine wJ ?_|refine wN ?_|refine wT ?_|refine wU ?_)|((with_reducible refine isB ?_);first|refine wK rfl ?_|refine ld0 hp rfl ?_|refine ld1 hp rfl ?_|refine ld2 hp rfl ?_|refine ld3 hp rfl ?_|refine wP ?_|refine wQ ?_|refine wR ?_)|((with_reducible refine isIf ?_);first|refine wV ?_|refine wW ?_)|((with_reducible refine isHl ?_);first|refine hl0 hp rfl ?_|refine hl1 hp rfl ?_|refine hl2 hp rfl ?_|refine hl3 hp rfl ?_))
    exact hK _
  (repeat first|(with_reducible first|refine wA ?_|refine wB ?_|refine wC ?_|refine wD ?_|refine wE ?_|refine wF ?_|refine wG ?_|refine wH ?_|refine wI ?_|refine wJ ?_|refine wN ?_|refine wT ?_|refine wU ?_)|((with_reducible refine isB ?_);first|refine wK rfl ?_|refine ld0 hp rfl ?_|refine ld1 hp rfl ?_|refine ld2 hp rfl ?_|refine ld3 hp rfl ?_|refine wP ?_|refine wQ ?_|refine wR ?_)|((with_reducible refine isIf ?_);first|refine wV ?_|refine wW ?_)|((with_reducible refine isHl ?_);first|refine hl0 hp rfl ?_|refine hl1 hp rfl ?_|refine hl2 hp rfl ?_|refine hl3 hp rfl ?_))
  refine ifV_cases (fun c => ?_) fun c => ?_
  · cases ov with
    | true =>
      (repeat first|(with_reducible first|refine wA ?_|refine wB ?_|refine wC ?_|refine wD ?_|refine wE ?_|refine wF ?_|refine wG ?_|refine wH ?_|refine wI ?_|refine wJ ?_|refine wN ?_|refine wT ?_|refine wU ?_)|((with_reducible refine isB ?_);first|refine wK rfl ?_|refine ld0 hp rfl ?_|refine ld1 hp rfl ?_|refine ld2 hp rfl ?_|refine ld3 hp rfl ?_|refine wP ?_|refine wQ ?_|refine wR ?_)|((with_reducible refine isIf ?_);first|refine wV ?_|refine wW ?_)|((with_reducible refine isHl ?_);first|refine hl0 hp rfl ?_|refine hl1 hp rfl ?_|refine hl2 hp rfl ?_|refine hl3 hp rfl ?_))
      refine key2 ?_ _ _
      obtain ⟨n', hn⟩ : ∃ n, 200 - i = n + 1 := ⟨199 - i, by omega⟩
      rw [hn] at hq
      unfold runs at hq
      exact Option.some.inj hq
    | false =>
      (repeat first|(with_reducible first|refine wA ?_|refine wB ?_|refine wC ?_|refine wD ?_|refine wE ?_|refine wF ?_|refine wG ?_|refine wH ?_|refine wI ?_|refine wJ ?_|refine wN ?_|refine wT ?_|refine wU ?_)|((with_reducible refine isB ?_);first|refine wK rfl ?_|refine ld0 hp rfl ?_|refine ld1 hp rfl ?_|refine ld2 hp rfl ?_|refine ld3 hp rfl ?_|refine wP ?_|refine wQ ?_|refine wR ?_)|((with_reducible refine isIf ?_);first|refine wV ?_|refine wW ?_)|((with_reducible refine isHl ?_);first|refine hl0 hp rfl ?_|refine hl1 hp rfl ?_|refine hl2 hp rfl ?_|refine hl3 hp rfl ?_))
      unfold S11_j2
      obtain ⟨n', hn⟩ : ∃ n, 200 - i = n + 1 := ⟨199 - i, by omega⟩
      rw [hn] at hq
      unfold runs at hq
      simp only at hq
      refine T_Step (hp.up 1) hG fun h10 hp => ?_
      have hst := Help.step_ok hG hB
      split at hq
      · rename_i e0
        rw [e0]
        (repeat first|(with_reducible first|refine wA ?_|refine wB ?_|refine wC ?_|refine wD ?_|refine wE ?_|refine wF ?_|refine wG ?_|refine wH ?_|refine wI ?_|refine wJ ?_|refine wN ?_|refine wT ?_|refine wU ?_)|((with_reducible refine isB ?_);first|refine wK rfl ?_|refine ld0 hp rfl ?_|refine ld1 hp rfl ?_|refine ld2 hp rfl ?_|refine ld3 hp rfl ?_|refine wP ?_|refine wQ ?_|refine wR ?_)|((with_reducible refine isIf ?_);first|refine wV ?_|refine wW ?_)|((with_reducible refine isHl ?_);first|refine hl0 hp rfl ?_|refine hl1 hp rfl ?_|refine hl2 hp rfl ?_|refine hl3 hp rfl ?_))
        refine T_Num ?_
        (repeat first|(with_reducible first|refine wA ?_|refine wB ?_|refine wC ?_|refine wD ?_|refine wE ?_|refine wF ?_|refine wG ?_|refine wH ?_|refine wI ?_|refine wJ ?_|refine wN ?_|refine wT ?_|refine wU ?_)|((with_reducible refine isB ?_);first|refine wK rfl ?_|refine ld0 hp rfl ?_|refine ld1 hp rfl ?_|refine ld2 hp rfl ?_|refine ld3 hp rfl ?_|refine wP ?_|refine wQ ?_|refine wR ?_)|((with_reducible refine isIf ?_);first|refine wV ?_|refine wW ?_)|((with_reducible refine isHl ?_);first|refine hl0 hp rfl ?_|refine hl1 hp rfl ?_|refine hl2 hp rfl ?_|refine hl3 hp rfl ?_))
        refine again (i + 1, (G.step B).1, (G.step B).2.2, (G.step B).1.over, m + 1) _ ⟨by simp only; omega, hst.1, hst.2, ?_, hp.up 1⟩ (by simp only; omega)
        have en : 200 - (i + 1) = n' := by omega
        simp only [en]; exact hq
      · cases hq
  · have : 200 - i = 0 := by omega
    rw [this] at hq
    unfold runs at hq
    exact key2 (Option.some.inj hq) _ _
end
end Go.Proofs.Ytfcignalfdifnaa
