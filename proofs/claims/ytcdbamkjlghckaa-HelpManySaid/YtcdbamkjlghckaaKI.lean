/- Four helpers of three descriptors in any row: the statement. Nothing here is a statement on the program. -/
import Derived.Test.YtcdbamkjlghckaaKH
namespace Go.Proofs.Ytcdbamkjlghckaa
open Go GW Go.Proofs
attribute [local irreducible] bnd ldV stV ifV binV eqI
set_option linter.unusedVariables false
set_option linter.unusedSimpArgs false
set_option maxRecDepth 20000
/-! ### the rows -/
def mnSw (i j next : Int) (s : Sw) : Sw := ⟨next + s.c % ((2 ^ 1 : Nat) : Int), 0, 1 + 10 * i + j⟩
def mnRow (i : Int) : Int → Int → List Sw → List Sw
  | _, _, [] => []
  | j, next, s :: r => mnSw i j next s :: mnRow i (j + 1) (next + s.c % ((2 ^ 1 : Nat) : Int) + 1) r
theorem mnRow_ok {i : Int} (i0 : 0 ≤ i) (i3 : i < 3) : ∀ {l : List Sw} {j next last : Int}, last < next → 0 ≤ next → next ≤ 2 * j → j + l.length ≤ 3 → swOk last (mnRow i j next l) = true ∧ ∀ e ∈ mnRow i j next l, e.c < 6 ∧ e.w = 0 ∧ e.n ≠ 0 := by
  intro l
  induction l with
  | nil => intro j next last _ _ _ _; exact ⟨rfl, fun e h => by cases h⟩
  | cons s l ih =>
    intro j next last h0 h1 h2 h3
    simp only [List.length_cons] at h3
    have a1 : (mnSw i j next s).c = next + s.c % 2 := rfl
    have a2 : (mnSw i j next s).w = 0 := rfl
    have a3 : (mnSw i j next s).n = 1 + 10 * i + j := rfl
    have e2 : s.c % ((2 ^ 1 : Nat) : Int) = s.c % 2 := rfl
    obtain ⟨i1, i2⟩ := ih (j := j + 1) (next := next + s.c % ((2 ^ 1 : Nat) : Int) + 1) (last := (mnSw i j next s).c) (by omega) (by omega) (by omega) (by omega)
    refine ⟨?_, fun e he => ?_⟩
    · show swOk last (mnSw i j next s :: mnRow i (j + 1) _ l) = true
      unfold swOk
      rw [Bool.and_eq_true, decide_eq_true_eq]
      exact ⟨⟨by omega, by omega, by omega, by omega, by omega, by omega⟩, i1⟩
    · rcases List.mem_cons.1 he with rfl | he
      · exact ⟨by omega, a2, by omega⟩
      · exact i2 e he
theorem mnRow_len {i : Int} : ∀ {l : List Sw} {j next : Int}, (mnRow i j next l).length = l.length := by
  intro l
  induction l with
  | nil => intro j next; rfl
  | cons s l ih => intro j next; show (mnRow i (j + 1) _ l).length + 1 = _; rw [ih]; rfl
def mnArg (dss : List (List Sw)) (i : Nat) : List Sw := (dss.getD i []).take 3
def mnDs (dss : List (List Sw)) (i : Nat) : List Sw := mnRow i 0 0 (mnArg dss i)
def mnRows (dss : List (List Sw)) (i : Nat) : List (List Sw) := (List.range i).map (mnDs dss)
theorem mnRows_snoc {dss : List (List Sw)} {i : Nat} : mnRows dss (i + 1) = mnRows dss i ++ [mnDs dss i] := by unfold mnRows; rw [List.range_succ, List.map_append]; rfl
theorem mnDs_ok {dss : List (List Sw)} {i : Nat} (hi : i < 3) : (swMay (mnDs dss i) = true ∧ ∀ e ∈ mnDs dss i, e.w = 0 ∧ e.n ≠ 0) ∧ (mnDs dss i).length ≤ 3 ∧ ∀ e ∈ mnDs dss i, e.c < 6 := by
  have hl : (mnArg dss i).length ≤ 3 := by unfold mnArg; rw [List.length_take]; omega
  obtain ⟨h1, h2⟩ := mnRow_ok (i := (i : Int)) (by omega) (by omega) (l := mnArg dss i) (j := 0) (next := 0) (last := -1) (by decide) (by decide) (by decide) (by omega)
  have hlen : (mnDs dss i).length ≤ 3 := by unfold mnDs; rw [mnRow_len]; exact hl
  exact ⟨⟨swMay_of h1, fun e he => (h2 e he).2⟩, hlen, fun e he => (h2 e he).1⟩
theorem mnRows_mem {dss : List (List Sw)} {i : Nat} (hi : i ≤ 3) : ∀ ds ∈ mnRows dss i, (swMay ds = true ∧ ∀ e ∈ ds, e.w = 0 ∧ e.n ≠ 0) ∧ ds.length ≤ 3 ∧ ∀ e ∈ ds, e.c < 6 := fun ds h => by
  obtain ⟨k, hk, rfl⟩ := List.mem_map.1 h
  have := List.mem_range.1 hk
  exact mnDs_ok (by omega)
theorem mnRows_at {dss : List (List Sw)} {i k : Nat} (hk : k < i) : (mnRows dss i)[k]? = some (mnDs dss k) := by
  unfold mnRows; rw [List.getElem?_map, List.getElem?_range hk]; rfl
theorem mnRows_len {dss : List (List Sw)} {i : Nat} : (mnRows dss i).length = i := by unfold mnRows; simp
/-- a slot that won -/
def wonAt (A : Ar) (s : Int) : Bool := decide (A.at (baseOf s) = stateW 1 1)
/-- an entry of a winner is behind -/
def Beh (rows : List (List Sw)) (A : Ar) (i j : Nat) (c : Int) : Prop := ∃ (i' j' : Nat) (ds : List Sw) (e : Sw), (i' < i ∨ i' = i ∧ j' < j) ∧ wonAt A i' = true ∧ rows[i']? = some ds ∧ ds[j']? = some e ∧ e.c = c
def rP (u : Value) (ds : List Sw) : Part := rowP 3 u (ds.map encS)
def freshK (k : Nat) : Help := Help.fresh k 0 ((k % 3 : Nat) : Int)
def freshs (i : Nat) : List Help := (List.range i).map freshK
theorem freshs_snoc {i : Nat} : freshs (i + 1) = freshs i ++ [freshK i] := by unfold freshs; rw [List.range_succ, List.map_append]; rfl
section
variable {R : List Part} {h : GH} {K : Value → GH → Prop}
theorem eachP_rows : ∀ {us : List Value} {dss : List (List Sw)} {R : List Part} {h : GH}, All (eachP rP us dss :: R) h → Each2 (fun u ds => rowsAt h 3 u (ds.map encS)) us dss := by
  intro us
  induction us with
  | nil =>
    intro dss R h hp
    cases dss with
    | nil => exact .nil
    | cons d dss => exact (All.case hp fun h1 p _ => p).elim
  | cons u us ih =>
    intro dss R h hp
    cases dss with
    | nil => exact (All.case hp fun h1 p _ => p).elim
    | cons d dss =>
      have hp1 : All (rP u d :: eachP rP us dss :: R) h := All.flat hp
      exact .cons (All.rows (size := 3) (v := u) (cs := d.map encS) hp1) (ih hp1.tail)
theorem mn_beh {rows : List (List Sw)} {A : Ar} {i j : Nat} {ds : List Sw} {e : Sw} {c : Int} (hr : rows[i]? = some ds) (he : ds[j]? = some e) (hw : wonAt A i = true) : Beh rows A i (j + 1) c ↔ Beh rows A i j c ∨ e.c = c := by
  constructor
  · rintro ⟨i', j', ds', e', h1, h2, h3, h4, h5⟩
    rcases h1 with h1 | ⟨rfl, h1⟩
    · exact .inl ⟨i', j', ds', e', .inl h1, h2, h3, h4, h5⟩
    · by_cases hj : j' = j
      · subst hj
        rw [hr] at h3; cases h3
        rw [he] at h4; cases h4
        exact .inr h5
      · exact .inl ⟨i', j', ds', e', .inr ⟨rfl, by omega⟩, h2, h3, h4, h5⟩
  · rintro (⟨i', j', ds', e', h1, h2, h3, h4, h5⟩ | h)
    · refine ⟨i', j', ds', e', ?_, h2, h3, h4, h5⟩
      rcases h1 with h1 | ⟨h1, h1'⟩
      · exact .inl h1
      · exact .inr ⟨h1, by omega⟩
    · exact ⟨i, j, ds, e, .inr ⟨rfl, by omega⟩, hw, hr, he, h⟩
theorem mn_step {rows : List (List Sw)} {A : Ar} {i : Nat} {ds : List Sw} {c : Int} (hr : rows[i]? = some ds) : Beh rows A (i + 1) 0 c ↔ Beh rows A i ds.length c := by
  constructor
  · rintro ⟨i', j', ds', e', h1, h2, h3, h4, h5⟩
    refine ⟨i', j', ds', e', ?_, h2, h3, h4, h5⟩
    by_cases hi : i' = i
    · subst hi
      rw [hr] at h3; cases h3
      exact .inr ⟨rfl, (List.getElem?_eq_some_iff.1 h4).1⟩
    · exact .inl (by omega)
  · rintro ⟨i', j', ds', e', h1, h2, h3, h4, h5⟩
    exact ⟨i', j', ds', e', .inl (by omega), h2, h3, h4, h5⟩
theorem mn_skip {rows : List (List Sw)} {A : Ar} {i j : Nat} {c : Int} (hw : wonAt A i = false) : Beh rows A (i + 1) 0 c ↔ Beh rows A i j c := by
  constructor
  · rintro ⟨i', j', ds', e', h1, h2, h3, h4, h5⟩
    refine ⟨i', j', ds', e', .inl ?_, h2, h3, h4, h5⟩
    by_cases hi : i' = i
    · subst hi; rw [hw] at h2; cases h2
    · omega
  · rintro ⟨i', j', ds', e', h1, h2, h3, h4, h5⟩
    exact ⟨i', j', ds', e', .inl (by omega), h2, h3, h4, h5⟩
/-- what of the winners' memory is written already -/
def WantOk (rows : List (List Sw)) (A : Ar) (M : Int → Int) (W : List Int) (i j : Nat) : Prop := W.length = 16 ∧ ∀ c : Nat, c < 16 → (Beh rows A i j c → W.getD c 0 = M c) ∧ (¬ Beh rows A i j c → W.getD c 0 = 0)
theorem T_HelpMany {g : GH} {dv pv : Value} {us0 : List Value} {dss : List (List Sw)} {picks : List Int} (hp : All [baseP g] h) (rd : swapsAt g dv us0 dss) (rp : rowsAt g 1 pv (picks.map encI)) (hK : ∀ h', K (.bool true) h') : T Try.prog 3 [dv, pv] h K := by
  apply S3_T
  unfold S3
  refine T_awake hp fun h1 hp => ?_
  (repeat first|refine wx ?_|refine wy ?_|refine wz ?_|refine wv ?_|refine wh ?_)
  have hul : us0.length = dss.length := by
    have := rd.2
    clear rd
    induction this with
    | nil => rfl
    | cons _ _ ih => simp [ih]
  have hdl : lnV dv = some (i64 dss.length) := by have := rd.1.len; rw [List.length_map, hul] at this; exact this
  have hdm : dss.length ≤ 9223372036854775807 := by have := rd.1.max; rw [List.length_map, hul] at this; exact this
  have hpl : lnV pv = some (i64 picks.length) := by have := rp.len; rw [List.length_map] at this; exact this
  have hpm : picks.length ≤ 9223372036854775807 := by have := rp.max; rw [List.length_map] at this; exact this
  refine Lfp_fam (ι := Nat × Value × List Value) (fun p => [dv, pv, p.2.1, i64 p.1]) (fun p h' => p.1 ≤ 3 ∧ p.2.2.length = p.1 ∧ All (rowP 1 p.2.1 (p.2.2.map fun u => [u]) :: eachP rP p.2.2 (mnRows dss p.1) :: [baseP g]) h') (fun p => 3 - p.1) ?_ (0, .slice none 0 0, []) h1 ⟨by simp only; omega, rfl, by
    have z1 := All.emp_cons (P := eachP rP [] []) hp (by exact trivial)
    exact All.emp_cons (P := rowP 1 (.slice none 0 0) []) z1 (rowP_nil _ _)⟩
  clear hp
  rintro ⟨i, rv, us⟩ h2 X ⟨hi, hul2, hp⟩ again
  simp only at hi hul2 hp
  simp only [tup_zero, tup_succ]
  (repeat first|refine wx ?_|refine wy ?_|refine wz ?_|refine wv ?_|refine wh ?_)
  refine ifV_cases (fun c => ?_) fun c => ?_
  · -- one row
    have harg : (mnArg dss i).length ≤ 3 := by unfold mnArg; rw [List.length_take]; omega
    refine Lfp_fam (ι := Nat × Int × Value × List Sw) (fun p => [dv, pv, rv, i64 i, p.2.2.1, i64 p.2.1, i64 p.1]) (fun p h' => p.1 ≤ (mnArg dss i).length ∧ 0 ≤ p.2.1 ∧ p.2.1 ≤ 2 * p.1 ∧ p.2.2.2.length = p.1 ∧ p.2.2.2 ++ mnRow i p.1 p.2.1 ((mnArg dss i).drop p.1) = mnDs dss i ∧ All (rowP 3 p.2.2.1 (p.2.2.2.map encS) :: rowP 1 rv (us.map fun u => [u]) :: eachP rP us (mnRows dss i) :: [baseP g]) h') (fun p => 3 - p.1) ?_ (0, 0, .slice none 0 0, []) h2 ⟨by simp only; omega, by simp, by simp, rfl, rfl, hp.emp_cons (rowP_nil _ _)⟩
    clear hp
    rintro ⟨j, next, sv, done⟩ h3 Y ⟨hj, hn0, hn2, hdn, hrow, hp⟩ again2
    simp only at hj hn0 hn2 hdn hrow hp
    simp only [tup_zero, tup_succ]
    have key : j = (mnArg dss i).length → bsV 25 1 [.slice none 0 0] [(0, 1, sv)] h3 fun v h' => apV 25 1 24 rv v h' fun v' h'' => bnd (binV .add (i64 i) (i64 1)) fun v3 => X (tup [dv, pv, v', v3]) h'' := by
      intro hje
      have hd : done = mnDs dss i := by
        rw [← hrow, hje, List.drop_length]; simp [mnRow]
      rw [hd] at hp
      clear again2
      obtain ⟨sa, sc, _, rfl, _⟩ := hp.row
      refine bs0 (size := 1) hp [[.slice sa ((mnDs dss i).map encS).length sc]] rfl rfl (by simp) (fun c hc => by rw [List.mem_singleton.1 hc]; exact ⟨rfl, rfl⟩) fun xv h4 hp => ?_
      have hr := hp.rows
      refine ap0 (hp.up 2) hr (fun c hc => by rw [List.mem_singleton.1 hc]; exact ⟨rfl, rfl⟩) (by decide) (by simp only [List.length_map, List.length_cons, List.length_nil]; omega) fun rv' h5 hp => ?_
      replace hp := Go.Proofs.Ytcdbamkjlghckaa.hn hp
      (repeat first|refine wx ?_|refine wy ?_|refine wz ?_|refine wv ?_|refine wh ?_)
      replace hp := hp.re 5 [0, 2, 3, 4]
      replace hp := Go.Proofs.Ytcdbamkjlghckaa.hn hp
      have hp2 : All (rowP 1 rv' ((us ++ [Value.slice sa ((mnDs dss i).map encS).length sc]).map fun u => [u]) :: rP (.slice sa ((mnDs dss i).map encS).length sc) (mnDs dss i) :: eachP rP us (mnRows dss i) :: [baseP g]) h5 := by
        rw [List.map_append]; exact hp
      have hp3 := hp2.mono2 fun _ z => eachP_snoc z
      rw [← mnRows_snoc] at hp3
      exact again (i + 1, rv', us ++ [Value.slice sa ((mnDs dss i).map encS).length sc]) _ ⟨by simp only; omega, by simp [hul2], hp3⟩ (by simp only; omega)
    refine bnd_of hdl ?_
    (repeat first|refine wx ?_|refine wy ?_|refine wz ?_|refine wv ?_|refine wh ?_)
    refine ifV_cases (fun ci => ?_) fun ci => key (by
      have : mnArg dss i = [] := by unfold mnArg; rw [List.getD_eq_getElem?_getD, List.getElem?_eq_none (by omega)]; rfl
      rw [this] at hj ⊢; simpa using hj)
    obtain ⟨ds, hds⟩ : ∃ ds, dss[i]? = some ds := ⟨_, List.getElem?_eq_getElem (by omega)⟩
    obtain ⟨u, hu, ru⟩ := Each2.get rd.2 hds
    have hua : (us0.map fun u => [u])[i]? = some [u] := by rw [List.getElem?_map, hu]; rfl
    obtain ⟨p1, d1, d2⟩ := (rd.1.le (baseP.le (hp.up 3))).get1 hua .i64
    have hlu : lnV u = some (i64 ds.length) := by have := ru.len; rw [List.length_map] at this; exact this
    have ea : mnArg dss i = ds.take 3 := by unfold mnArg; rw [List.getD_eq_getElem?_getD, hds]; rfl
    refine bnd_of d1 (bnd_of d2 (bnd_of hlu ?_))
    (repeat first|refine wx ?_|refine wy ?_|refine wz ?_|refine wv ?_|refine wh ?_)
    refine ifV_cases (fun cj => ?_) fun cj => key (by rw [ea, List.length_take] at hj ⊢; omega)
    (repeat first|refine wx ?_|refine wy ?_|refine wz ?_|refine wv ?_|refine wh ?_)
    refine ifV_cases (fun cj3 => ?_) fun cj3 => key (by rw [ea, List.length_take] at hj ⊢; omega)
    clear key
    unfold S3_j1
    obtain ⟨s, hs⟩ : ∃ s, ds[j]? = some s := ⟨_, List.getElem?_eq_getElem (by omega)⟩
    obtain ⟨bb, oo, e0, e1, e2, e3⟩ := sw_fld (ru.le (baseP.le (hp.up 3))) hs
    refine bnd_of d1 (bnd_of d2 (bnd_of e0 ?_))
    (repeat first|refine wx ?_|refine wy ?_|refine wz ?_|refine wv ?_|refine wh ?_)
    refine bnd_of e1 (bnd_of (binV_and_mask s.c 1 (by decide) (by decide)) ?_)
    (repeat first|refine wx ?_|refine wy ?_|refine wz ?_|refine wv ?_|refine wh ?_)
    have hsa : (mnArg dss i).drop j = s :: (mnArg dss i).drop (j + 1) := by
      have hlt : j < (mnArg dss i).length := by rw [ea, List.length_take]; omega
      rw [List.drop_eq_getElem_cons hlt]
      congr 1
      have : (mnArg dss i)[j]? = some s := by rw [ea, List.getElem?_take, if_pos (by omega)]; exact hs
      rw [List.getElem?_eq_getElem hlt] at this; exact Option.some.inj this
    have hlt : j < (mnArg dss i).length := by rw [ea, List.length_take]; omega
    rw [hsa] at hrow
    have hrow : done ++ (mnSw i j next s :: mnRow i (j + 1 : Nat) (next + s.c % ((2 ^ 1 : Nat) : Int) + 1) ((mnArg dss i).drop (j + 1))) = mnDs dss i := hrow
    refine bs0 (size := 3) hp ([mnSw i j next s].map encS) rfl rfl (by simp) (encS_good _) fun xv h4 hp => ?_
    have hr := hp.rows
    refine ap0 (hp.up 1) hr (encS_good _) (by decide) (by rw [List.length_map]; simp; omega) fun sv' h5 hp => ?_
    replace hp := Go.Proofs.Ytcdbamkjlghckaa.hn hp
    (repeat first|refine wx ?_|refine wy ?_|refine wz ?_|refine wv ?_|refine wh ?_)
    rw [← List.map_append] at hp
    replace hp := hp.re 5 [0, 2, 3, 4]
    replace hp := Go.Proofs.Ytcdbamkjlghckaa.hn hp
    have e2 : s.c % ((2 ^ 1 : Nat) : Int) = s.c % 2 := rfl
    exact again2 (j + 1, next + s.c % ((2 ^ 1 : Nat) : Int) + 1, sv', done ++ [mnSw i j next s]) _ ⟨by simp only; omega, by simp only; omega, by simp only; omega, by simp [hdn], by rw [List.append_assoc]; exact hrow, hp⟩ (by simp only; omega)
  obtain rfl : i = 3 := by omega
  clear again
  have hrm := mnRows_mem (dss := dss) (Nat.le_refl 3)
  have hrl : (mnRows dss 3).length = 3 := mnRows_len
  generalize mnRows dss 3 = rows at hp hrm hrl
  refine T_shelf (us := us) (cells := []) (dss := rows) hp (fun h' hp => rowsAt_nil _ _) (fun h' hp => ⟨hp.rows, eachP_rows (hp.up 1)⟩) (fun x hx => by cases hx) fun a b h3 hp => ?_
  obtain ⟨hA, hcell, hdsc⟩ := shelf_view (cells := []) (dss := rows) (fun x hx => by cases hx)
  generalize shelfA [] rows = A at hp hA hcell hdsc
  have hz : ∀ c, 0 ≤ c → c < 16 → A.at c = 0 := fun c c0 c1 => by rw [hcell c c0 c1]; rfl
  (repeat first|refine wx ?_|refine wy ?_|refine wz ?_|refine wv ?_|refine wh ?_)
  replace hp := hp.re 5 [0, 2, 3, 4]
  replace hp := Go.Proofs.Ytcdbamkjlghckaa.hn hp
  refine Lfp_fam (ι := Nat × Value × List Nat) (fun p => [pv, rv, ptr a, p.2.1, i64 p.1]) (fun p h' => p.1 ≤ 4 ∧ p.2.2.length = p.1 ∧ All (rowP 1 p.2.1 (p.2.2.map encP) :: eachP helpP p.2.2 (freshs p.1) :: arP 94 a A :: rowP 1 rv (us.map fun u => [u]) :: eachP rP us rows :: [baseP g]) h') (fun p => 4 - p.1) ?_ (0, .slice none 0 0, []) h3 ⟨by simp only; omega, rfl, by
    have z1 := All.emp_cons (P := eachP helpP [] []) hp (by exact trivial)
    exact All.emp_cons (P := rowP 1 (.slice none 0 0) []) z1 (rowP_nil _ _)⟩
  clear hp
  rintro ⟨i, hv, bs⟩ h4 X ⟨hi, hbl, hp⟩ again
  simp only at hi hbl hp
  simp only [tup_zero, tup_succ]
  (repeat first|refine wx ?_|refine wy ?_|refine wz ?_|refine wv ?_|refine wh ?_)
  refine ifV_cases (fun c => ?_) fun c => ?_
  · refine bnd_of (rem_nn (by omega) (by decide)) ?_
    have hm : ((i : Int) % 3) = ((i % 3 : Nat) : Int) := by omega
    rw [hm]
    refine T_mine (by omega) (by omega) ?_
    refine T_NewMine hp (by omega) (by omega) (by omega) (by omega) (by decide) (by decide) fun nb h5 hp => ?_
    (repeat first|refine wx ?_|refine wy ?_|refine wz ?_|refine wv ?_|refine wh ?_)
    refine T_Num ?_
    (repeat first|refine wx ?_|refine wy ?_|refine wz ?_|refine wv ?_|refine wh ?_)
    refine bs0 (size := 1) hp [[ptr nb]] rfl rfl (by simp) (fun c hc => by rw [List.mem_singleton.1 hc]; exact ⟨rfl, rfl⟩) fun xv h6 hp => ?_
    have hr := hp.rows
    refine ap0 (hp.up 2) hr (fun c hc => by rw [List.mem_singleton.1 hc]; exact ⟨rfl, rfl⟩) (by decide) (by simp only [List.length_map, List.length_cons, List.length_nil]; omega) fun hv' h7 hp => ?_
    replace hp := Go.Proofs.Ytcdbamkjlghckaa.hn hp
    (repeat first|refine wx ?_|refine wy ?_|refine wz ?_|refine wv ?_|refine wh ?_)
    replace hp := hp.re 8 [0, 2, 3, 4, 5, 6, 7]
    replace hp := Go.Proofs.Ytcdbamkjlghckaa.hn hp
    have hp2 : All (rowP 1 hv' ((bs ++ [nb]).map encP) :: helpP nb (freshK i) :: eachP helpP bs (freshs i) :: arP 94 a A :: rowP 1 rv (us.map fun u => [u]) :: eachP rP us rows :: [baseP g]) h7 := by
      rw [List.map_append]; exact hp
    have hp3 := hp2.mono2 fun _ z => eachP_snoc z
    rw [← freshs_snoc] at hp3
    exact again (i + 1, hv', bs ++ [nb]) _ ⟨by simp only; omega, by simp [hbl], hp3⟩ (by simp only; omega)
  obtain rfl : i = 4 := by omega
  clear again
  have W0 : Wld (Dst rows) (fun _ => True) (mnP rows) (fun k => ((k % 3 : Nat) : Int)) 0 (freshs 4) A := by
    refine mn_init hA (fun k ds e => ?_) (by omega) hz (fun k H e => ?_)
    · have hk := (List.getElem?_eq_some_iff.1 e).1
      have hm := (hrm ds (List.mem_of_getElem? e)).1.1
      exact ⟨hm, hdsc k ds (by omega) e hm⟩
    · have hk := (List.getElem?_eq_some_iff.1 e).1
      have hk4 : k < 4 := by simpa [freshs] using hk
      unfold freshs at e
      rw [List.getElem?_map, List.getElem?_range hk4] at e
      cases e
      exact ⟨hk4, k % 3, by omega, rfl, rfl⟩
  clear hcell hdsc hz
  refine bs0 (size := 1) hp (bools [false, false, false, false]) rfl rfl (by simp [bools]) (fun c hc => by simp [bools] at hc; rcases hc with rfl | rfl | rfl | rfl <;> exact ⟨rfl, rfl⟩) fun ov h5 hp => ?_
  refine Lfp_fam (ι := Nat × List Help × Ar) (fun p => [pv, rv, ptr a, hv, ov, i64 p.1])
    (fun p h' => p.1 ≤ 300 ∧ p.1 ≤ picks.length ∧ p.2.1.length = 4 ∧ Wld (Dst rows) (fun _ => True) (mnP rows) (fun k => ((k % 3 : Nat) : Int)) p.1 p.2.1 p.2.2 ∧ All (rowP 1 ov (bools (p.2.1.map Help.over)) :: rowP 1 hv (bs.map encP) :: eachP helpP bs p.2.1 :: arP 94 a p.2.2 :: rowP 1 rv (us.map fun u => [u]) :: eachP rP us rows :: [baseP g]) h')
    (fun p => 300 - p.1) ?_ (0, freshs 4, A) h5 ⟨by simp only; omega, by simp only; omega, rfl, W0, hp⟩
  clear hp W0 hA
  rintro ⟨n, Gs, B⟩ h6 Z ⟨hn, hnp, hgl, W, hp⟩ again
  simp only at hn hnp hgl W hp
  simp only [tup_zero, tup_succ]
  have hPm : ∀ {A B : Ar} {M M' : Int → Int}, mnP rows A M → Turn (Dst rows) A B M M' → mnP rows B M' := fun p T => mn_P (fun ds h => (hrm ds h).1) p T
  have last : ∀ s4 s38 s60 a1 a2 a3, S3_j3 s4 s38 s60 rv (ptr a) hv ov h6 K a1 a2 a3 := by
    clear again
    intro s4 s38 s60 a1 a2 a3
    unfold S3_j3
    refine Lfp_fam (ι := Nat × List Help × Ar) (fun p => [rv, ptr a, hv, ov, i64 p.1])
      (fun p h' => p.1 ≤ 4 ∧ p.2.1.length = 4 ∧ (∀ (k : Nat) H, k < p.1 → p.2.1[k]? = some H → H.over = true) ∧ (∀ k, p.1 ≤ k → p.2.1[k]? = Gs[k]?) ∧ Wld (Dst rows) (fun _ => True) (mnP rows) (fun k => ((k % 3 : Nat) : Int)) (n + 600 * p.1 : Nat) p.2.1 p.2.2 ∧ All (rowP 1 ov (bools (Gs.map Help.over)) :: rowP 1 hv (bs.map encP) :: eachP helpP bs p.2.1 :: arP 94 a p.2.2 :: rowP 1 rv (us.map fun u => [u]) :: eachP rP us rows :: [baseP g]) h')
      (fun p => 4 - p.1) ?_ (0, Gs, B) h6 ⟨by simp only; omega, hgl, (fun k H h => by simp only at h; omega), fun _ _ => rfl, by simpa using W, hp⟩
    clear hp W
    rintro ⟨k, Hs, C⟩ h7 Y ⟨hk, hhl, hov, hrest, W, hp⟩ again
    simp only at hk hhl hov hrest W hp
    simp only [tup_zero, tup_succ]
    (repeat first|refine wx ?_|refine wy ?_|refine wz ?_|refine wv ?_|refine wh ?_)
    refine ifV_cases (fun c => ?_) fun c => ?_
    · obtain ⟨H, hH⟩ : ∃ H, Hs[k]? = some H := ⟨_, List.getElem?_eq_getElem (by omega)⟩
      have hG : Gs[k]? = some H := by rw [← hrest k (Nat.le_refl k)]; exact hH
      obtain ⟨ob, o0, o1, _, _⟩ := hp.elt (i := k) (c := [.bool H.over]) (by unfold bools; rw [List.getElem?_map, List.getElem?_map, hG]; rfl) .i64
      refine bnd_of o0 (bnd_of (o1 0 1 _ rfl) ?_)
      (repeat first|refine wx ?_|refine wy ?_|refine wz ?_|refine wv ?_|refine wh ?_)
      cases hov2 : H.over with
      | true =>
        (repeat first|refine wx ?_|refine wy ?_|refine wz ?_|refine wv ?_|refine wh ?_)
        exact again (k + 1, Hs, C) _ ⟨by simp only; omega, hhl, (fun j G hj e => by
          by_cases c : j = k
          · subst c; rw [hH] at e; cases e; exact hov2
          · exact hov j G (by simp only at hj; omega) e), (fun j hj => hrest j (by simp only at hj; omega)), W.le (by simp only; omega), hp⟩ (by simp only; omega)
      | false =>
        (repeat first|refine wx ?_|refine wy ?_|refine wz ?_|refine wv ?_|refine wh ?_)
        obtain ⟨pb, hpb⟩ : ∃ pb, bs[k]? = some pb := ⟨_, List.getElem?_eq_getElem (by omega)⟩
        obtain ⟨p2, d3, d4⟩ := (All.rows (hp.up 1)).get1 (show (bs.map encP)[k]? = some [ptr pb] by rw [List.getElem?_map, hpb]; rfl) .i64
        refine bnd_of d3 (bnd_of d4 ?_)
        have okH := (W.h k H hH).2.2.2
        obtain ⟨H', C', m', r1, r2, W1⟩ := mn_ended hrm W hH (by omega) hov2
        have q1 := eachP_at hpb hH (hp.up 2)
        have q2 : All (arP 94 a C :: helpP pb H :: eachP helpP (bs.eraseIdx k) (Hs.eraseIdx k) :: rowP 1 ov (bools (Gs.map Help.over)) :: rowP 1 hv (bs.map encP) :: rowP 1 rv (us.map fun u => [u]) :: eachP rP us rows :: [baseP g]) h7 := q1.re 8 [4, 0, 1, 2, 3, 5, 6, 7]
        refine T_ended q2 okH W.ok r1 fun h8 q3 => ?_
        (repeat first|refine wx ?_|refine wy ?_|refine wz ?_|refine wv ?_|refine wh ?_)
        have q4 : All (eachP helpP bs (Hs.set k H') :: arP 94 a C' :: rowP 1 ov (bools (Gs.map Help.over)) :: rowP 1 hv (bs.map encP) :: rowP 1 rv (us.map fun u => [u]) :: eachP rP us rows :: [baseP g]) h8 := eachP_put hpb (by omega) (q3.re 8 [1, 2, 0, 3, 4, 5, 6, 7])
        exact again (k + 1, Hs.set k H', C') _ ⟨by simp only; omega, by simp [hhl], (fun j G hj e => by
          by_cases c : j = k
          · subst c; rw [List.getElem?_set_self (by omega)] at e; cases e; exact r2
          · rw [List.getElem?_set_ne (Ne.symm c)] at e
            exact hov j G (by simp only at hj; omega) e), (fun j hj => by
          simp only at hj
          rw [List.getElem?_set_ne (by omega)]; exact hrest j (by omega)), W1.le (by simp only; omega), q4.re 7 [2, 3, 0, 1, 4, 5, 6]⟩ (by simp only; omega)
    · obtain rfl : k = 4 := by omega
      clear again hrest
      have hall : ∀ (k : Nat) H, Hs[k]? = some H → H.over = true := fun k H e => hov k H (by have := (List.getElem?_eq_some_iff.1 e).1; omega) e
      obtain ⟨M, ⟨p1, p2, p3⟩, hcM, hwon⟩ := mn_end W hall
      have okC := W.ok
      have hw : ∀ (k : Nat) H, Hs[k]? = some H → H.won = wonAt C ((k % 3 : Nat) : Int) := fun k H e => by
        obtain ⟨d, a1, a2⟩ := hwon k H e
        obtain ⟨k2, ds, _, _, rfl⟩ := Dst_some a1
        unfold wonAt
        cases hx : H.won with
        | true =>
          have := a2.1 hx
          exact (decide_eq_true (p := C.at (baseOf ((k % 3 : Nat) : Int)) = stateW 1 1) this).symm
        | false => exact (decide_eq_false (p := C.at (baseOf ((k % 3 : Nat) : Int)) = stateW 1 1) fun h => by rw [a2.2 h] at hx; cases hx).symm
      have wa : ∀ (s : Nat) ds, rows[s]? = some ds → (wonAt C s = true ↔ Won C s ⟨1, ds, True⟩) := fun s ds e => by unfold wonAt Won; rw [decide_eq_true_iff]
      obtain ⟨H0, e0⟩ : ∃ H, Hs[0]? = some H := ⟨_, List.getElem?_eq_getElem (by omega)⟩
      obtain ⟨H3, e3⟩ : ∃ H, Hs[3]? = some H := ⟨_, List.getElem?_eq_getElem (by omega)⟩
      have won_at : ∀ {h' : GH} {l : List Part} {k : Nat} {H : Help}, Hs[k]? = some H → All (rowP 1 hv (bs.map encP) :: eachP helpP bs Hs :: l) h' → ∃ p pb, isV 1 hv (i64 k) = some p ∧ ldV 1 false p h' = some (ptr pb) ∧ ∃ l', All (helpP pb H :: l') h' := fun {h' l k H} e hp => by
        have hk := (List.getElem?_eq_some_iff.1 e).1
        obtain ⟨pb, hpb⟩ : ∃ pb, bs[k]? = some pb := ⟨_, List.getElem?_eq_getElem (by omega)⟩
        obtain ⟨p2, d3, d4⟩ := (All.rows hp).get1 (show (bs.map encP)[k]? = some [ptr pb] by rw [List.getElem?_map, hpb]; rfl) .i64
        exact ⟨p2, pb, d3, d4, _, eachP_at hpb e (hp.up 1)⟩
      obtain ⟨p0, b0, d0, d1, l0, q0⟩ := won_at e0 (hp.tail)
      obtain ⟨p3', b3, d3, d4, l3, q3⟩ := won_at e3 (hp.tail)
      refine bnd_of d0 (bnd_of d1 (bnd_of d3 (bnd_of d4 ?_)))
      refine T_Won q0 ?_
      refine ⟨d4, ?_⟩
      refine T_Won q3 ?_
      rw [hw 0 H0 e0, hw 3 H3 e3]
      refine bnd_of (eqB _ _ _) ?_
      rw [beq_self_eq_true]
      (repeat first|refine wx ?_|refine wy ?_|refine wz ?_|refine wv ?_|refine wh ?_)
      clear q0 q3 d0 d1 d3 d4 e0 e3
      refine nw hp.tail (.row 43 ((List.replicate 16 (0 : Int)).map i64) 16 true) rfl fun wb h8 hp => ?_
      refine Lfp_fam (ι := Nat × List Int) (fun p => [rv, ptr a, hv, ptr wb, i64 p.1]) (fun p h' => p.1 ≤ 3 ∧ WantOk rows C M p.2 p.1 0 ∧ All (pts wb (.row 43 (p.2.map i64) 16 true) :: rowP 1 hv (bs.map encP) :: eachP helpP bs Hs :: arP 94 a C :: rowP 1 rv (us.map fun u => [u]) :: eachP rP us rows :: [baseP g]) h') (fun p => 3 - p.1) ?_ (0, List.replicate 16 0) h8 ⟨by simp only; omega, ⟨rfl, fun c hc => ⟨fun hb => by
          obtain ⟨i', j', _, _, h1, _⟩ := hb
          simp only at h1; omega, fun _ => by rw [List.getD_eq_getElem?_getD, List.getElem?_replicate, if_pos hc]; rfl⟩⟩, hp⟩
      clear hp
      rintro ⟨i, Wt⟩ h9 V ⟨hi, hW, hp⟩ again
      simp only at hi hW hp
      simp only [tup_zero, tup_succ]
      (repeat first|refine wx ?_|refine wy ?_|refine wz ?_|refine wv ?_|refine wh ?_)
      refine ifV_cases (fun c => ?_) fun c => ?_
      · obtain ⟨ds, hds⟩ : ∃ ds, rows[i]? = some ds := ⟨_, List.getElem?_eq_getElem (by omega)⟩
        obtain ⟨Hi, eHi⟩ : ∃ H, Hs[i]? = some H := ⟨_, List.getElem?_eq_getElem (by omega)⟩
        have hwi : Hi.won = wonAt C i := by rw [hw i Hi eHi, show i % 3 = i by omega]
        have hrow := hrm ds (List.mem_of_getElem? hds)
        refine Lfp_fam (ι := Nat × List Int) (fun p => [rv, ptr a, hv, ptr wb, i64 i, i64 p.1]) (fun p h' => p.1 ≤ ds.length ∧ WantOk rows C M p.2 i p.1 ∧ All (pts wb (.row 43 (p.2.map i64) 16 true) :: rowP 1 hv (bs.map encP) :: eachP helpP bs Hs :: arP 94 a C :: rowP 1 rv (us.map fun u => [u]) :: eachP rP us rows :: [baseP g]) h') (fun p => ds.length - p.1) ?_ (0, Wt) h9 ⟨by simp only; omega, hW, hp⟩
        clear hp hW
        rintro ⟨j, Wt⟩ h10 U ⟨hj, hW, hp⟩ again2
        simp only at hj hW hp
        simp only [tup_zero, tup_succ]
        have Ea := eachP_rows (hp.up 5)
        obtain ⟨u, hu, ru⟩ := Each2.get Ea hds
        have hua : (us.map fun u => [u])[i]? = some [u] := by rw [List.getElem?_map, hu]; rfl
        obtain ⟨q1, f1, f2⟩ := (All.rows (hp.up 4)).get1 hua .i64
        have hlu : lnV u = some (i64 ds.length) := by have := ru.len; rw [List.length_map] at this; exact this
        refine bnd_of f1 (bnd_of f2 (bnd_of hlu ?_))
        (repeat first|refine wx ?_|refine wy ?_|refine wz ?_|refine wv ?_|refine wh ?_)
        refine ifV_cases (fun cj => ?_) fun cj => ?_
        · obtain ⟨p0, b0, d0, d1, l0, q0⟩ := won_at eHi hp.tail
          refine bnd_of d0 (bnd_of d1 ?_)
          refine T_Won q0 ?_
          rw [hwi]
          cases hwc : wonAt C i with
          | false =>
            (repeat first|refine wx ?_|refine wy ?_|refine wz ?_|refine wv ?_|refine wh ?_)
            refine again (i + 1, Wt) _ ⟨by simp only; omega, ⟨hW.1, fun c hc => ?_⟩, hp⟩ (by simp only; omega)
            simp only
            rw [mn_skip (j := j) hwc]
            exact hW.2 c hc
          | true =>
            (repeat first|refine wx ?_|refine wy ?_|refine wz ?_|refine wv ?_|refine wh ?_)
            unfold S3_j4
            obtain ⟨s, hs⟩ : ∃ s, ds[j]? = some s := ⟨_, List.getElem?_eq_getElem (by omega)⟩
            have hcs := sw_mem hrow.1.1 hs
            have hc6 := hrow.2.2 s (List.mem_of_getElem? hs)
            obtain ⟨bb, oo, g0, g1, g2, g3⟩ := sw_fld ru hs
            refine bnd_of f1 (bnd_of f2 (bnd_of g0 ?_))
            (repeat first|refine wx ?_|refine wy ?_|refine wz ?_|refine wv ?_|refine wh ?_)
            refine bnd_of g1 ?_
            have ec : ((s.c.toNat : Nat) : Int) = s.c := by omega
            have ia := iaV_at (len := 16) (size := 1) (b := wb) (o := 0) (i := s.c.toNat) (by omega) .i64
            rw [ec] at ia
            refine bnd_of ia ?_
            have hW0 : Wt.getD s.c.toNat 0 = 0 := by
              refine (hW.2 s.c.toNat (by omega)).2 ?_
              rintro ⟨i', j', ds', e', k1, k2, k3, k4, k5⟩
              rw [ec] at k5
              have hi' := (List.getElem?_eq_some_iff.1 k3).1
              have := p3 i' i ⟨1, ds', True⟩ ⟨1, ds, True⟩ j' j e' s (Dst_at k3) (Dst_at hds) ((wa i' ds' k3).1 k2) ((wa i ds hds).1 hwc) k4 hs k5
              have hii : i' = i := by omega
              subst hii
              rw [hds] at k3; cases k3
              have := sw_inj hrow.1.1 k4 hs k5
              omega
            have hgc : (Wt.map i64)[0 + s.c.toNat * 1]? = some (i64 0) := by
              rw [show 0 + s.c.toNat * 1 = s.c.toNat by omega, List.getElem?_map]
              have hl := hW.1
              rw [List.getD_eq_getElem?_getD, List.getElem?_eq_getElem (by omega)] at hW0
              rw [List.getElem?_eq_getElem (by omega)]
              simp only [Option.getD_some] at hW0
              rw [hW0]; rfl
            refine ld0 hp hgc ?_
            (repeat first|refine wx ?_|refine wy ?_|refine wz ?_|refine wv ?_|refine wh ?_)
            refine bnd_of f1 (bnd_of f2 (bnd_of g0 ?_))
            (repeat first|refine wx ?_|refine wy ?_|refine wz ?_|refine wv ?_|refine wh ?_)
            refine bnd_of g3 ?_
            (repeat first|refine wx ?_|refine wy ?_|refine wz ?_|refine wv ?_|refine wh ?_)
            refine bnd_of ia ?_
            refine st0 hp (.row 43 ((Wt.set s.c.toNat (4 * s.n)).map i64) 16 true) rfl (by rw [List.length_map, hW.1]; omega) rfl ?_ fun h11 hp => ?_
            · show GObj.row _ ((Wt.map i64).set (0 + s.c.toNat * 1) (i64 (4 * s.n))) _ _ = _
              rw [show 0 + s.c.toNat * 1 = s.c.toNat by omega, List.map_set]
            (repeat first|refine wx ?_|refine wy ?_|refine wz ?_|refine wv ?_|refine wh ?_)
            refine again2 (j + 1, Wt.set s.c.toNat (4 * s.n)) _ ⟨by simp only; omega, ⟨by rw [List.length_set]; exact hW.1, fun c hc => ?_⟩, hp⟩ (by simp only; omega)
            simp only
            rw [mn_beh hds hs hwc]
            have hM : M s.c = s.n * 4 := p1 i ⟨1, ds, True⟩ j s (Dst_at hds) ((wa i ds hds).1 hwc) hs
            by_cases hcc : c = s.c.toNat
            · subst hcc
              rw [List.getD_eq_getElem?_getD, List.getElem?_set_self (by rw [hW.1]; omega), ec]
              exact ⟨fun _ => by show 4 * s.n = _; rw [hM]; omega, fun h => absurd (.inr rfl) h⟩
            · rw [List.getD_eq_getElem?_getD, List.getElem?_set_ne (Ne.symm hcc), ← List.getD_eq_getElem?_getD]
              refine ⟨fun h => ?_, fun h => (hW.2 c hc).2 fun hb => h (.inl hb)⟩
              rcases h with h | h
              · exact (hW.2 c hc).1 h
              · exact absurd (show c = s.c.toNat by omega) hcc
        · (repeat first|refine wx ?_|refine wy ?_|refine wz ?_|refine wv ?_|refine wh ?_)
          refine again (i + 1, Wt) _ ⟨by simp only; omega, ⟨hW.1, fun c hc => ?_⟩, hp⟩ (by simp only; omega)
          simp only
          rw [mn_step hds, show ds.length = j by omega]
          exact hW.2 c hc
      · obtain rfl : i = 3 := by omega
        clear again
        have hfin : ∀ j : Nat, j < 16 → C.at j = Wt.getD j 0 := fun j hj => by
          have hb : 0 ≤ (j : Int) ∧ (j : Int) < 16 := by omega
          rw [hcM j hb.1 hb.2]
          by_cases hB : Beh rows C 3 0 j
          · exact ((hW.2 j hj).1 hB).symm
          · rw [(hW.2 j hj).2 hB]
            refine p2 j hb.1 hb.2 fun s d n e hd hwn he hc => hB ?_
            obtain ⟨k, ds, rfl, e1, rfl⟩ := Dst_some hd
            have hk := (List.getElem?_eq_some_iff.1 e1).1
            exact ⟨k, n, ds, e, .inl (by omega), (wa k ds e1).2 hwn, e1, he, hc⟩
        refine T_All (hp.up 3) fun av h10 hp => ?_
        (repeat first|refine wx ?_|refine wy ?_|refine wz ?_|refine wv ?_|refine wh ?_)
        refine bnd_of hp.len ?_
        rw [List.length_map, okC.words]
        (repeat first|refine wx ?_|refine wy ?_|refine wz ?_|refine wv ?_|refine wh ?_)
        have es : saV 16 1 (ptr wb) none none = some (.slice (some ⟨wb, 0, none⟩) 16 16) := rfl
        simp only [es, bnd_some]
        refine T_cellsSame hp ?_ okC hW.1 hfin (hK _)
        exact rowsAt_of ((hp.up 2).pt0) (by rw [List.length_map]; exact hW.1) (Nat.le_refl _) (by decide) (fun c hc => (encI_good _ c hc).1) (Nat.zero_le _) (by rw [flatten_encI, List.drop_zero]; exact ⟨[], by simp⟩)
  refine bnd_of hpl ?_
  (repeat first|refine wx ?_|refine wy ?_|refine wz ?_|refine wv ?_|refine wh ?_)
  refine ifV_cases (fun c => ?_) fun c => last _ _ _ _ _ _
  (repeat first|refine wx ?_|refine wy ?_|refine wz ?_|refine wv ?_|refine wh ?_)
  refine ifV_cases (fun c3 => ?_) fun c => last _ _ _ _ _ _
  clear last
  unfold S3_j2
  obtain ⟨x, hx⟩ : ∃ x, picks[n]? = some x := ⟨_, List.getElem?_eq_getElem (by omega)⟩
  obtain ⟨p, e1, e2⟩ := int_get (rp.le (baseP.le (hp.up 6))) hx
  refine bnd_of e1 (bnd_of e2 (bnd_of (binV_and_mask x 2 (by decide) (by decide)) ?_))
  obtain ⟨k, hk⟩ : ∃ k : Nat, x % ((2 ^ 2 : Nat) : Int) = (k : Int) := ⟨(x % ((2 ^ 2 : Nat) : Int)).toNat, by omega⟩
  have hk4 : k < 4 := by have : x % ((2 ^ 2 : Nat) : Int) = x % 4 := rfl; omega
  rw [hk]
  obtain ⟨H, hH⟩ : ∃ H, Gs[k]? = some H := ⟨_, List.getElem?_eq_getElem (by omega)⟩
  obtain ⟨pb, hpb⟩ : ∃ pb, bs[k]? = some pb := ⟨_, List.getElem?_eq_getElem (by omega)⟩
  obtain ⟨p2, d3, d4⟩ := (All.rows (hp.up 1)).get1 (show (bs.map encP)[k]? = some [ptr pb] by rw [List.getElem?_map, hpb]; rfl) .i64
  refine bnd_of d3 (bnd_of d4 ?_)
  have okH := (W.h k H hH).2.2.2
  obtain ⟨z0, W1⟩ := W.step hPm (fun _ _ _ _ _ _ _ _ _ => trivial) hH (by omega)
  have q1 := eachP_at hpb hH (hp.up 2)
  have q2 : All (arP 94 a B :: helpP pb H :: eachP helpP (bs.eraseIdx k) (Gs.eraseIdx k) :: rowP 1 ov (bools (Gs.map Help.over)) :: rowP 1 hv (bs.map encP) :: rowP 1 rv (us.map fun u => [u]) :: eachP rP us rows :: [baseP g]) h6 := q1.re 8 [4, 0, 1, 2, 3, 5, 6, 7]
  refine T_Step q2 okH fun h7 q3 => ?_
  rw [z0]
  have q4 : All (eachP helpP bs (Gs.set k (H.step B).1) :: arP 94 a (H.step B).2.2 :: rowP 1 ov (bools (Gs.map Help.over)) :: rowP 1 hv (bs.map encP) :: rowP 1 rv (us.map fun u => [u]) :: eachP rP us rows :: [baseP g]) h7 := eachP_put hpb (by omega) (q3.re 8 [1, 2, 0, 3, 4, 5, 6, 7])
  clear q1 q2 q3 hp
  have hp : All (rowP 1 ov (bools (Gs.map Help.over)) :: rowP 1 hv (bs.map encP) :: eachP helpP bs (Gs.set k (H.step B).1) :: arP 94 a (H.step B).2.2 :: rowP 1 rv (us.map fun u => [u]) :: eachP rP us rows :: [baseP g]) h7 := q4.re 7 [2, 3, 0, 1, 4, 5, 6]
  clear q4
  (repeat first|refine wx ?_|refine wy ?_|refine wz ?_|refine wv ?_|refine wh ?_)
  obtain ⟨eb, i1, _, _, i4⟩ := hp.elt (i := k) (c := [.bool H.over]) (by unfold bools; rw [List.getElem?_map, List.getElem?_map, hH]; rfl) .i64
  obtain ⟨h8, i5, hp2⟩ := i4 0 1 (.bool (H.step B).1.over) rfl (by decide) rfl
  refine bnd_of i1 (bnd_of i5 ?_)
  refine T_Num ?_
  (repeat first|refine wx ?_|refine wy ?_|refine wz ?_|refine wv ?_|refine wh ?_)
  have eov : (bools (Gs.map Help.over)).set k (setCells [.bool H.over] 0 (Value.bool (H.step B).1.over).cells.toList) = bools ((Gs.set k (H.step B).1).map Help.over) := by
    unfold bools; rw [List.map_set, List.map_set]; rfl
  rw [eov] at hp2
  exact again (n + 1, Gs.set k (H.step B).1, (H.step B).2.2) _ ⟨by simp only; omega, by simp only; omega, by simp [hgl], W1, hp2⟩ (by simp only; omega)
end
end Go.Proofs.Ytcdbamkjlghckaa
