/- A read of a value. Nothing here is a statement on the program. -/
import Derived.Test.YtiopeicakfjbfaaKR
namespace Go.Proofs.Ytiopeicakfjbfaa
open Go GW Go.Proofs
attribute [local irreducible] bnd ldV stV ifV binV eqI
set_option linter.unusedVariables false
set_option linter.unusedSimpArgs false
set_option maxRecDepth 20000
section
variable {R : List Part} {h : GH} {K : Value → GH → Prop}
theorem T_ReadLooks {g : GH} {vv : Value} {cells : List Int} {cell thread seq : Int} (hp : All [baseP g] h) (rv : rowsAt g 1 vv (cells.map encI)) (hK : ∀ h', K (.bool true) h') : T Try.prog 6 [vv, i64 cell, i64 thread, i64 seq] h K := by
  apply S6_T
  unfold S6
  refine T_rawake hp fun h1 hp => ?_
  (repeat first|(with_reducible first|refine wA ?_|refine wB ?_|refine wC ?_|refine wD ?_|refine wE ?_|refine wF ?_|refine wG ?_|refine wH ?_|refine wI ?_|refine wJ ?_|refine wN ?_|refine wT ?_|refine wU ?_)|((with_reducible refine isB ?_);first|refine wK rfl ?_|refine ld0 hp rfl ?_|refine ld1 hp rfl ?_|refine ld2 hp rfl ?_|refine ld3 hp rfl ?_|refine wP ?_|refine wQ ?_|refine wR ?_)|((with_reducible refine isIf ?_);first|refine wV ?_|refine wW ?_)|((with_reducible refine isHl ?_);first|refine hl0 hp rfl ?_|refine hl1 hp rfl ?_|refine hl2 hp rfl ?_|refine hl3 hp rfl ?_))
  have hvl : lnV vv = some (i64 cells.length) := by have := rv.len; rw [List.length_map] at this; exact this
  have hvm : cells.length ≤ 9223372036854775807 := by have := rv.max; rw [List.length_map] at this; exact this
  refine Lfp_fam (ι := Nat × Value) (fun p => [vv, i64 cell, i64 thread, i64 seq, p.2, i64 p.1]) (fun p h' => p.1 ≤ cells.length ∧ p.1 ≤ 16 ∧ All (rowP 1 p.2 (((cells.take p.1).map fun x => 4 * (x % 1024)).map encI) :: [baseP g]) h') (fun p => cells.length - p.1) ?_ (0, .slice none 0 0) h1 ⟨by omega, by simp, hp.emp_cons (rowP_nil _ _)⟩
  rintro ⟨i, wv⟩ h2 X ⟨hi, hi16, hp⟩ again
  simp only at hi hi16 hp
  simp only [tup_zero, tup_succ]
  have key : (i = cells.length ∨ i = 16) → ∀ s1, S6_j2 s1 vv (i64 cell) (i64 thread) (i64 seq) wv h2 K X := by
    intro hend s1
    have et : cells.take i = cells.take 16 := by
      rcases hend with e | e
      · rw [e, List.take_of_length_le (Nat.le_refl _), List.take_of_length_le (by omega)]
      · rw [e]
    rw [et] at hp
    clear again et
    generalize hws : ((cells.take 16).map fun x => 4 * (x % 1024)) = words at hp
    have hwj : ∀ j : Nat, words.getD j 0 = if j < 16 then cells.getD j 0 % 1024 * 4 else 0 := fun j => by
      rw [← hws, List.getD_eq_getElem?_getD, List.getElem?_map, List.getElem?_take]
      split
      · rw [List.getD_eq_getElem?_getD]
        cases cells[j]? with
        | none => rfl
        | some x => simp only [Option.map_some, Option.getD_some]; omega
      · rfl
    have hwr : ∀ x ∈ words, I64 x := fun x hx => by
      rw [← hws] at hx
      obtain ⟨y, _, rfl⟩ := List.mem_map.1 hx
      constructor <;> omega
    unfold S6_j2
    refine T_shelf (us := []) (cells := words) (dss := []) hp (fun h' hp => hp.rows) (fun h' hp => ⟨rowsAt_nil _ _, .nil⟩) hwr fun a b h3 hp => ?_
    obtain ⟨hA, hcell, _⟩ := shelf_view (cells := words) (dss := []) hwr
    generalize shelfA words [] = A at hp hA hcell
    (repeat first|(with_reducible first|refine wA ?_|refine wB ?_|refine wC ?_|refine wD ?_|refine wE ?_|refine wF ?_|refine wG ?_|refine wH ?_|refine wI ?_|refine wJ ?_|refine wN ?_|refine wT ?_|refine wU ?_)|((with_reducible refine isB ?_);first|refine wK rfl ?_|refine ld0 hp rfl ?_|refine ld1 hp rfl ?_|refine ld2 hp rfl ?_|refine ld3 hp rfl ?_|refine wP ?_|refine wQ ?_|refine wR ?_)|((with_reducible refine isIf ?_);first|refine wV ?_|refine wW ?_)|((with_reducible refine isHl ?_);first|refine hl0 hp rfl ?_|refine hl1 hp rfl ?_|refine hl2 hp rfl ?_|refine hl3 hp rfl ?_))
    refine bnd_of (binV_and_mask cell 4 (by decide) (by decide)) ?_
    obtain ⟨c, hc, ec⟩ : ∃ k : Nat, k < 16 ∧ cell % ((2 ^ 4 : Nat) : Int) = k := ⟨(cell % 16).toNat, by omega, by omega⟩
    rw [ec]
    refine bnd_of (binV_and_mask seq 20 (by decide) (by decide)) ?_
    have q0 : 0 ≤ seq % ((2 ^ 20 : Nat) : Int) ∧ seq % ((2 ^ 20 : Nat) : Int) < 1048576 := by omega
    generalize seq % ((2 ^ 20 : Nat) : Int) = q at q0 ⊢
    refine bnd_of (binV_and_mask thread 2 (by decide) (by decide)) ?_
    have t0 : 0 ≤ thread % ((2 ^ 2 : Nat) : Int) ∧ thread % ((2 ^ 2 : Nat) : Int) < 4 := by omega
    generalize thread % ((2 ^ 2 : Nat) : Int) = t at t0 ⊢
    have may : Rd.may t q c := ⟨t0, q0, by omega, by omega⟩
    refine T_rdNewOk hp may fun pb h4 hp => ?_
    (repeat first|(with_reducible first|refine wA ?_|refine wB ?_|refine wC ?_|refine wD ?_|refine wE ?_|refine wF ?_|refine wG ?_|refine wH ?_|refine wI ?_|refine wJ ?_|refine wN ?_|refine wT ?_|refine wU ?_)|((with_reducible refine isB ?_);first|refine wK rfl ?_|refine ld0 hp rfl ?_|refine ld1 hp rfl ?_|refine ld2 hp rfl ?_|refine ld3 hp rfl ?_|refine wP ?_|refine wQ ?_|refine wR ?_)|((with_reducible refine isIf ?_);first|refine wV ?_|refine wW ?_)|((with_reducible refine isHl ?_);first|refine hl0 hp rfl ?_|refine hl1 hp rfl ?_|refine hl2 hp rfl ?_|refine hl3 hp rfl ?_))
    refine T_Num ?_
    (repeat first|(with_reducible first|refine wA ?_|refine wB ?_|refine wC ?_|refine wD ?_|refine wE ?_|refine wF ?_|refine wG ?_|refine wH ?_|refine wI ?_|refine wJ ?_|refine wN ?_|refine wT ?_|refine wU ?_)|((with_reducible refine isB ?_);first|refine wK rfl ?_|refine ld0 hp rfl ?_|refine ld1 hp rfl ?_|refine ld2 hp rfl ?_|refine ld3 hp rfl ?_|refine wP ?_|refine wQ ?_|refine wR ?_)|((with_reducible refine isIf ?_);first|refine wV ?_|refine wW ?_)|((with_reducible refine isHl ?_);first|refine hl0 hp rfl ?_|refine hl1 hp rfl ?_|refine hl2 hp rfl ?_|refine hl3 hp rfl ?_))
    unfold S6_j3
    have hAc : A.at c = cells.getD c 0 % 1024 * 4 := by
      rw [hcell c (by omega) (by omega)]
      have := hwj c
      rw [if_pos hc] at this
      exact this
    have hpl : plainOf (A.at c) = some (cells.getD c 0 % 1024) := by rw [hAc]; exact plainOf_val (by omega) (by omega)
    refine T_All (hp.up 1) fun av h5 hp => ?_
    refine T_rdStep (r := .new t q c) (hp.re 3 [1, 2, 0]) (Rd.new_ok may) fun h6 hp => ?_
    rw [Rd.step_plain hpl] at hp ⊢
    (repeat first|(with_reducible first|refine wA ?_|refine wB ?_|refine wC ?_|refine wD ?_|refine wE ?_|refine wF ?_|refine wG ?_|refine wH ?_|refine wI ?_|refine wJ ?_|refine wN ?_|refine wT ?_|refine wU ?_)|((with_reducible refine isB ?_);first|refine wK rfl ?_|refine ld0 hp rfl ?_|refine ld1 hp rfl ?_|refine ld2 hp rfl ?_|refine ld3 hp rfl ?_|refine wP ?_|refine wQ ?_|refine wR ?_)|((with_reducible refine isIf ?_);first|refine wV ?_|refine wW ?_)|((with_reducible refine isHl ?_);first|refine hl0 hp rfl ?_|refine hl1 hp rfl ?_|refine hl2 hp rfl ?_|refine hl3 hp rfl ?_))
    refine T_rdThrough (hp.up 1) ?_
    (repeat first|(with_reducible first|refine wA ?_|refine wB ?_|refine wC ?_|refine wD ?_|refine wE ?_|refine wF ?_|refine wG ?_|refine wH ?_|refine wI ?_|refine wJ ?_|refine wN ?_|refine wT ?_|refine wU ?_)|((with_reducible refine isB ?_);first|refine wK rfl ?_|refine ld0 hp rfl ?_|refine ld1 hp rfl ?_|refine ld2 hp rfl ?_|refine ld3 hp rfl ?_|refine wP ?_|refine wQ ?_|refine wR ?_)|((with_reducible refine isIf ?_);first|refine wV ?_|refine wW ?_)|((with_reducible refine isHl ?_);first|refine hl0 hp rfl ?_|refine hl1 hp rfl ?_|refine hl2 hp rfl ?_|refine hl3 hp rfl ?_))
    refine T_rdStep hp ⟨t0.1, t0.2, q0.1, q0.2, by simp only; omega, by simp only; omega, fun H e => by cases e⟩ fun h7 hp => ?_
    rw [Rd.step_over rfl] at hp ⊢
    (repeat first|(with_reducible first|refine wA ?_|refine wB ?_|refine wC ?_|refine wD ?_|refine wE ?_|refine wF ?_|refine wG ?_|refine wH ?_|refine wI ?_|refine wJ ?_|refine wN ?_|refine wT ?_|refine wU ?_)|((with_reducible refine isB ?_);first|refine wK rfl ?_|refine ld0 hp rfl ?_|refine ld1 hp rfl ?_|refine ld2 hp rfl ?_|refine ld3 hp rfl ?_|refine wP ?_|refine wQ ?_|refine wR ?_)|((with_reducible refine isIf ?_);first|refine wV ?_|refine wW ?_)|((with_reducible refine isHl ?_);first|refine hl0 hp rfl ?_|refine hl1 hp rfl ?_|refine hl2 hp rfl ?_|refine hl3 hp rfl ?_))
    have hvl' := hvl
    refine bnd_of hvl ?_
    (repeat first|(with_reducible first|refine wA ?_|refine wB ?_|refine wC ?_|refine wD ?_|refine wE ?_|refine wF ?_|refine wG ?_|refine wH ?_|refine wI ?_|refine wJ ?_|refine wN ?_|refine wT ?_|refine wU ?_)|((with_reducible refine isB ?_);first|refine wK rfl ?_|refine ld0 hp rfl ?_|refine ld1 hp rfl ?_|refine ld2 hp rfl ?_|refine ld3 hp rfl ?_|refine wP ?_|refine wQ ?_|refine wR ?_)|((with_reducible refine isIf ?_);first|refine wV ?_|refine wW ?_)|((with_reducible refine isHl ?_);first|refine hl0 hp rfl ?_|refine hl1 hp rfl ?_|refine hl2 hp rfl ?_|refine hl3 hp rfl ?_))
    have j4 : ∀ s1 x h8, x = cells.getD c 0 % 1024 → h8 = h7 → S6_j4 s1 (ptr a) (i64 q) (ptr pb) av (.bool true) (i64 0) (i64 (-1)) (i64 0) (.bool true) (i64 0) (i64 x) h8 K X := by
      intro s1 x h8 ex eh
      subst ex eh
      unfold S6_j4
      (repeat first|(with_reducible first|refine wA ?_|refine wB ?_|refine wC ?_|refine wD ?_|refine wE ?_|refine wF ?_|refine wG ?_|refine wH ?_|refine wI ?_|refine wJ ?_|refine wN ?_|refine wT ?_|refine wU ?_)|((with_reducible refine isB ?_);first|refine wK rfl ?_|refine ld0 hp rfl ?_|refine ld1 hp rfl ?_|refine ld2 hp rfl ?_|refine ld3 hp rfl ?_|refine wP ?_|refine wQ ?_|refine wR ?_)|((with_reducible refine isIf ?_);first|refine wV ?_|refine wW ?_)|((with_reducible refine isHl ?_);first|refine hl0 hp rfl ?_|refine hl1 hp rfl ?_|refine hl2 hp rfl ?_|refine hl3 hp rfl ?_))
      refine T_Num ?_
      (repeat first|(with_reducible first|refine wA ?_|refine wB ?_|refine wC ?_|refine wD ?_|refine wE ?_|refine wF ?_|refine wG ?_|refine wH ?_|refine wI ?_|refine wJ ?_|refine wN ?_|refine wT ?_|refine wU ?_)|((with_reducible refine isB ?_);first|refine wK rfl ?_|refine ld0 hp rfl ?_|refine ld1 hp rfl ?_|refine ld2 hp rfl ?_|refine ld3 hp rfl ?_|refine wP ?_|refine wQ ?_|refine wR ?_)|((with_reducible refine isIf ?_);first|refine wV ?_|refine wW ?_)|((with_reducible refine isHl ?_);first|refine hl0 hp rfl ?_|refine hl1 hp rfl ?_|refine hl2 hp rfl ?_|refine hl3 hp rfl ?_))
      refine T_Num ?_
      (repeat first|(with_reducible first|refine wA ?_|refine wB ?_|refine wC ?_|refine wD ?_|refine wE ?_|refine wF ?_|refine wG ?_|refine wH ?_|refine wI ?_|refine wJ ?_|refine wN ?_|refine wT ?_|refine wU ?_)|((with_reducible refine isB ?_);first|refine wK rfl ?_|refine ld0 hp rfl ?_|refine ld1 hp rfl ?_|refine ld2 hp rfl ?_|refine ld3 hp rfl ?_|refine wP ?_|refine wQ ?_|refine wR ?_)|((with_reducible refine isIf ?_);first|refine wV ?_|refine wW ?_)|((with_reducible refine isHl ?_);first|refine hl0 hp rfl ?_|refine hl1 hp rfl ?_|refine hl2 hp rfl ?_|refine hl3 hp rfl ?_))
      refine T_rdValue (hp.up 1) ?_
      (repeat first|(with_reducible first|refine wA ?_|refine wB ?_|refine wC ?_|refine wD ?_|refine wE ?_|refine wF ?_|refine wG ?_|refine wH ?_|refine wI ?_|refine wJ ?_|refine wN ?_|refine wT ?_|refine wU ?_)|((with_reducible refine isB ?_);first|refine wK rfl ?_|refine ld0 hp rfl ?_|refine ld1 hp rfl ?_|refine ld2 hp rfl ?_|refine ld3 hp rfl ?_|refine wP ?_|refine wQ ?_|refine wR ?_)|((with_reducible refine isIf ?_);first|refine wV ?_|refine wW ?_)|((with_reducible refine isHl ?_);first|refine hl0 hp rfl ?_|refine hl1 hp rfl ?_|refine hl2 hp rfl ?_|refine hl3 hp rfl ?_))
      refine ifV_p rfl ?_
      refine T_rdSeq (hp.up 1) ?_
      (repeat first|(with_reducible first|refine wA ?_|refine wB ?_|refine wC ?_|refine wD ?_|refine wE ?_|refine wF ?_|refine wG ?_|refine wH ?_|refine wI ?_|refine wJ ?_|refine wN ?_|refine wT ?_|refine wU ?_)|((with_reducible refine isB ?_);first|refine wK rfl ?_|refine ld0 hp rfl ?_|refine ld1 hp rfl ?_|refine ld2 hp rfl ?_|refine ld3 hp rfl ?_|refine wP ?_|refine wQ ?_|refine wR ?_)|((with_reducible refine isIf ?_);first|refine wV ?_|refine wW ?_)|((with_reducible refine isHl ?_);first|refine hl0 hp rfl ?_|refine hl1 hp rfl ?_|refine hl2 hp rfl ?_|refine hl3 hp rfl ?_))
      refine ifV_p rfl ?_
      refine T_All hp fun av2 h9 hp => ?_
      refine T_SameInts (All.rows hp) (All.rows (hp.up 3)) ?_
      rw [decide_eq_true (Ar.ld_ws hA (by omega) (by omega))]
      exact hK _
    refine ifV_cases (fun cc => ?_) fun cc => ?_
    · obtain ⟨x, hx⟩ : ∃ x, cells[c]? = some x := ⟨_, List.getElem?_eq_getElem (by omega)⟩
      obtain ⟨p1, g1, g2⟩ := int_get (i := c) (rv.le (baseP.le (hp.sel [5]))) hx
      refine bnd_of g1 (bnd_of g2 (bnd_of (binV_and_mask x 10 (by decide) (by decide)) ?_))
      refine j4 _ _ _ ?_ rfl
      rw [List.getD_eq_getElem?_getD, hx]; rfl
    · refine j4 _ _ _ ?_ rfl
      rw [List.getD_eq_getElem?_getD, List.getElem?_eq_none (by omega)]; rfl
  refine bnd_of hvl ?_
  (repeat first|(with_reducible first|refine wA ?_|refine wB ?_|refine wC ?_|refine wD ?_|refine wE ?_|refine wF ?_|refine wG ?_|refine wH ?_|refine wI ?_|refine wJ ?_|refine wN ?_|refine wT ?_|refine wU ?_)|((with_reducible refine isB ?_);first|refine wK rfl ?_|refine ld0 hp rfl ?_|refine ld1 hp rfl ?_|refine ld2 hp rfl ?_|refine ld3 hp rfl ?_|refine wP ?_|refine wQ ?_|refine wR ?_)|((with_reducible refine isIf ?_);first|refine wV ?_|refine wW ?_)|((with_reducible refine isHl ?_);first|refine hl0 hp rfl ?_|refine hl1 hp rfl ?_|refine hl2 hp rfl ?_|refine hl3 hp rfl ?_))
  refine ifV_cases (fun c => ?_) fun c => key (.inl (by omega)) _
  (repeat first|(with_reducible first|refine wA ?_|refine wB ?_|refine wC ?_|refine wD ?_|refine wE ?_|refine wF ?_|refine wG ?_|refine wH ?_|refine wI ?_|refine wJ ?_|refine wN ?_|refine wT ?_|refine wU ?_)|((with_reducible refine isB ?_);first|refine wK rfl ?_|refine ld0 hp rfl ?_|refine ld1 hp rfl ?_|refine ld2 hp rfl ?_|refine ld3 hp rfl ?_|refine wP ?_|refine wQ ?_|refine wR ?_)|((with_reducible refine isIf ?_);first|refine wV ?_|refine wW ?_)|((with_reducible refine isHl ?_);first|refine hl0 hp rfl ?_|refine hl1 hp rfl ?_|refine hl2 hp rfl ?_|refine hl3 hp rfl ?_))
  refine ifV_cases (fun c16 => ?_) fun c16 => key (.inr (by omega)) _
  clear key
  unfold S6_j1
  obtain ⟨x, hx⟩ : ∃ x, cells[i]? = some x := ⟨_, List.getElem?_eq_getElem (by omega)⟩
  obtain ⟨p1, g1, g2⟩ := int_get (i := i) (rv.le (baseP.le (hp.up 1))) hx
  refine bnd_of g1 (bnd_of g2 (bnd_of (binV_and_mask x 10 (by decide) (by decide)) ?_))
  have z0 : x % ((2 ^ 10 : Nat) : Int) = x % 1024 := rfl
  rw [z0]
  have z1 : 0 ≤ x % 1024 ∧ x % 1024 < 1024 := by omega
  (repeat first|(with_reducible first|refine wA ?_|refine wB ?_|refine wC ?_|refine wD ?_|refine wE ?_|refine wF ?_|refine wG ?_|refine wH ?_|refine wI ?_|refine wJ ?_|refine wN ?_|refine wT ?_|refine wU ?_)|((with_reducible refine isB ?_);first|refine wK rfl ?_|refine ld0 hp rfl ?_|refine ld1 hp rfl ?_|refine ld2 hp rfl ?_|refine ld3 hp rfl ?_|refine wP ?_|refine wQ ?_|refine wR ?_)|((with_reducible refine isIf ?_);first|refine wV ?_|refine wW ?_)|((with_reducible refine isHl ?_);first|refine hl0 hp rfl ?_|refine hl1 hp rfl ?_|refine hl2 hp rfl ?_|refine hl3 hp rfl ?_))
  refine bs0 (size := 1) hp ([4 * (x % 1024)].map encI) rfl rfl (by simp) (encI_good _) fun xv h4 hp => ?_
  have hr := hp.rows
  refine ap0 (hp.up 1) hr (encI_good _) (by decide) (by rw [List.length_map, List.length_map, List.length_take]; simp; omega) fun wv' h5 hp => ?_
  (repeat first|(with_reducible first|refine wA ?_|refine wB ?_|refine wC ?_|refine wD ?_|refine wE ?_|refine wF ?_|refine wG ?_|refine wH ?_|refine wI ?_|refine wJ ?_|refine wN ?_|refine wT ?_|refine wU ?_)|((with_reducible refine isB ?_);first|refine wK rfl ?_|refine ld0 hp rfl ?_|refine ld1 hp rfl ?_|refine ld2 hp rfl ?_|refine ld3 hp rfl ?_|refine wP ?_|refine wQ ?_|refine wR ?_)|((with_reducible refine isIf ?_);first|refine wV ?_|refine wW ?_)|((with_reducible refine isHl ?_);first|refine hl0 hp rfl ?_|refine hl1 hp rfl ?_|refine hl2 hp rfl ?_|refine hl3 hp rfl ?_))
  refine again (i + 1, wv') _ ⟨by simp only; omega, by simp only; omega, ?_⟩ (by simp only; omega)
  have e : ((cells.take (i + 1)).map fun x => 4 * (x % 1024)).map encI = ((cells.take i).map fun x => 4 * (x % 1024)).map encI ++ [4 * (x % 1024)].map encI := by
    rw [List.take_add_one, hx, ← List.map_append]
    congr 1
    rw [List.map_append]; rfl
  simp only
  rw [e]
  exact hp.sel [0, 2]
end
end Go.Proofs.Ytiopeicakfjbfaa
