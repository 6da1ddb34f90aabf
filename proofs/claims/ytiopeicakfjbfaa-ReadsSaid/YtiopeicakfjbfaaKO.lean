/- Readers of the program and of the document, side by side. Nothing here is a statement on the program. -/
import Derived.Test.YtiopeicakfjbfaaKR
namespace Go.Proofs.Ytiopeicakfjbfaa
open Go GW Go.Proofs
attribute [local irreducible] bnd ldV stV ifV binV eqI
set_option linter.unusedVariables false
set_option linter.unusedSimpArgs false
set_option maxRecDepth 20000
section
variable {a b c : Nat} {A B : Ar} {R : List Part} {h : GH} {K : Value → GH → Prop} {r : Rd}
/-- the fields of the document's reader -/
theorem rr_fields (hp : All (rreadP b r :: R) h) : ldV 1 false (.pointer (some ⟨b, 0 + 4, none⟩)) h = some (i64 r.value) ∧ ldV 1 false (.pointer (some ⟨b, 0 + 1, none⟩)) h = some (i64 r.q) := by
  refine rreadP_open hp fun sv hp => ?_
  have e := hp.pt0
  exact ⟨by rw [ldV_cell e]; rfl, by rw [ldV_cell e]; rfl⟩
theorem T_Reads {g : GH} {cv dv rv pv : Value} {us : List Value} {cells refs picks : List Int} {dss : List (List Sw)} {seq : Int} (hp : All [baseP g] h) (rc : rowsAt g 1 cv (cells.map encI)) (rd : swapsAt g dv us dss) (rr : rowsAt g 1 rv (refs.map encI)) (rp : rowsAt g 1 pv (picks.map encI))
    (hc : ∀ x ∈ cells, I64 x) (hr : ∀ x ∈ refs, I64 x) (hpk : ∀ x ∈ picks, I64 x) (hK : ∀ h', K (.bool true) h') : T Try.prog 7 [cv, dv, rv, i64 seq, pv] h K := by
  apply S7_T
  unfold S7
  refine T_shelf (us := us) (cells := cells) (dss := dss) hp (fun h' hp => rc.le (baseP.le hp)) (fun h' hp => ⟨rd.1.le (baseP.le hp), rd.2.imp fun _ _ q => q.le (baseP.le hp)⟩) hc fun a b h1 hp => ?_
  have hA : (shelfA cells dss).ok := shelfA_ok hc
  generalize shelfA cells dss = A at hp hA
  (repeat first|(with_reducible first|refine wA ?_|refine wB ?_|refine wC ?_|refine wD ?_|refine wE ?_|refine wF ?_|refine wG ?_|refine wH ?_|refine wI ?_|refine wJ ?_|refine wN ?_|refine wT ?_|refine wU ?_)|((with_reducible refine isB ?_);first|refine wK rfl ?_|refine ld0 hp rfl ?_|refine ld1 hp rfl ?_|refine ld2 hp rfl ?_|refine ld3 hp rfl ?_|refine wP ?_|refine wQ ?_|refine wR ?_)|((with_reducible refine isIf ?_);first|refine wV ?_|refine wW ?_)|((with_reducible refine isHl ?_);first|refine hl0 hp rfl ?_|refine hl1 hp rfl ?_|refine hl2 hp rfl ?_|refine hl3 hp rfl ?_))
  unfold S7_j1
  have hrl : lnV rv = some (i64 refs.length) := by have := rr.len; rw [List.length_map] at this; exact this
  have hpl : lnV pv = some (i64 picks.length) := by have := rp.len; rw [List.length_map] at this; exact this
  have hrm : refs.length ≤ 9223372036854775807 := by have := rr.max; rw [List.length_map] at this; exact this
  have hpm : picks.length ≤ 9223372036854775807 := by have := rp.max; rw [List.length_map] at this; exact this
  refine Lfp_fam (ι := Nat × List Rd × Value × Value) (fun p => [rv, i64 seq, pv, ptr a, ptr b, p.2.2.1, p.2.2.2, i64 p.1])
    (fun p h' => p.1 ≤ refs.length ∧ p.1 ≤ 4 ∧ p.2.1.length ≤ p.1 ∧ (∀ H ∈ p.2.1, H.ok) ∧ ∃ bs cs : List Nat, bs.length = p.2.1.length ∧ cs.length = p.2.1.length ∧ All (arP 84 a A :: arP 96 b A :: rowP 1 p.2.2.1 (bs.map encP) :: rowP 1 p.2.2.2 (cs.map encP) :: eachP readP bs p.2.1 :: eachP rreadP cs p.2.1 :: [baseP g]) h')
    (fun p => refs.length - p.1) ?_ (0, [], .slice none 0 0, .slice none 0 0) h1 ⟨by omega, by omega, by simp, (fun _ h => by cases h), [], [], rfl, rfl, ?_⟩
  rotate_left
  · have z1 := All.emp_cons (P := eachP rreadP [] []) hp (by exact trivial)
    have z2 := All.emp_cons (P := eachP readP [] []) z1 (by exact trivial)
    have z3 := All.emp_cons (P := rowP 1 (.slice none 0 0) []) z2 (rowP_nil _ _)
    have z4 := All.emp_cons (P := rowP 1 (.slice none 0 0) []) z3 (rowP_nil _ _)
    exact z4.re 6 [4, 5, 0, 1, 2, 3]
  rintro ⟨i, Hs, hv, sv⟩ h2 X ⟨hi, hi4, hl, hok, bs, cs, hbl, hcl, hp⟩ again
  simp only at hi hi4 hl hok hbl hcl hp
  simp only [tup_zero, tup_succ]
  have key : S7_j4 (tup [rv, i64 seq, pv, ptr a, ptr b, hv, sv, i64 i]) pv (ptr a) (ptr b) hv sv h2 K X := by
    unfold S7_j4
    clear again
    refine Lfp_fam (ι := Nat × List Rd × Ar) (fun p => [pv, ptr a, ptr b, hv, sv, i64 p.1])
      (fun p h' => p.1 ≤ picks.length ∧ p.1 ≤ 200 ∧ p.2.2.ok ∧ p.2.1.length = bs.length ∧ (∀ H ∈ p.2.1, H.ok) ∧ All (arP 84 a p.2.2 :: arP 96 b p.2.2 :: rowP 1 hv (bs.map encP) :: rowP 1 sv (cs.map encP) :: eachP readP bs p.2.1 :: eachP rreadP cs p.2.1 :: [baseP g]) h')
      (fun p => picks.length - p.1) ?_ (0, Hs, A) h2 ⟨by omega, by omega, hA, hbl.symm, hok, hp⟩
    rintro ⟨j, Gs, B⟩ h3 Y ⟨hj, hj200, hB, hgl, hgok, hp⟩ again
    simp only at hj hj200 hB hgl hgok hp
    simp only [tup_zero, tup_succ]
    have fin : T Try.prog 23 [ptr a, ptr b] h3 (fun v h' => ifV v (T Try.prog 8 [] h' fun v h' => K v h') (K (.bool false) h')) := by
      refine T_same hp fun h4 hp => ?_
      (repeat first|(with_reducible first|refine wA ?_|refine wB ?_|refine wC ?_|refine wD ?_|refine wE ?_|refine wF ?_|refine wG ?_|refine wH ?_|refine wI ?_|refine wJ ?_|refine wN ?_|refine wT ?_|refine wU ?_)|((with_reducible refine isB ?_);first|refine wK rfl ?_|refine ld0 hp rfl ?_|refine ld1 hp rfl ?_|refine ld2 hp rfl ?_|refine ld3 hp rfl ?_|refine wP ?_|refine wQ ?_|refine wR ?_)|((with_reducible refine isIf ?_);first|refine wV ?_|refine wW ?_)|((with_reducible refine isHl ?_);first|refine hl0 hp rfl ?_|refine hl1 hp rfl ?_|refine hl2 hp rfl ?_|refine hl3 hp rfl ?_))
      exact T_rawake hp fun h5 _ => hK h5
    refine bnd_of hpl ?_
    (repeat first|(with_reducible first|refine wA ?_|refine wB ?_|refine wC ?_|refine wD ?_|refine wE ?_|refine wF ?_|refine wG ?_|refine wH ?_|refine wI ?_|refine wJ ?_|refine wN ?_|refine wT ?_|refine wU ?_)|((with_reducible refine isB ?_);first|refine wK rfl ?_|refine ld0 hp rfl ?_|refine ld1 hp rfl ?_|refine ld2 hp rfl ?_|refine ld3 hp rfl ?_|refine wP ?_|refine wQ ?_|refine wR ?_)|((with_reducible refine isIf ?_);first|refine wV ?_|refine wW ?_)|((with_reducible refine isHl ?_);first|refine hl0 hp rfl ?_|refine hl1 hp rfl ?_|refine hl2 hp rfl ?_|refine hl3 hp rfl ?_))
    refine ifV_cases (fun c => ?_) fun c => fin
    (repeat first|(with_reducible first|refine wA ?_|refine wB ?_|refine wC ?_|refine wD ?_|refine wE ?_|refine wF ?_|refine wG ?_|refine wH ?_|refine wI ?_|refine wJ ?_|refine wN ?_|refine wT ?_|refine wU ?_)|((with_reducible refine isB ?_);first|refine wK rfl ?_|refine ld0 hp rfl ?_|refine ld1 hp rfl ?_|refine ld2 hp rfl ?_|refine ld3 hp rfl ?_|refine wP ?_|refine wQ ?_|refine wR ?_)|((with_reducible refine isIf ?_);first|refine wV ?_|refine wW ?_)|((with_reducible refine isHl ?_);first|refine hl0 hp rfl ?_|refine hl1 hp rfl ?_|refine hl2 hp rfl ?_|refine hl3 hp rfl ?_))
    refine ifV_cases (fun c2 => ?_) fun c2 => fin
    have hhl : lnV hv = some (i64 bs.length) := by
      have := All.len (hp.re 6 [2]); rw [List.length_map] at this; exact this
    refine bnd_of hhl ?_
    (repeat first|(with_reducible first|refine wA ?_|refine wB ?_|refine wC ?_|refine wD ?_|refine wE ?_|refine wF ?_|refine wG ?_|refine wH ?_|refine wI ?_|refine wJ ?_|refine wN ?_|refine wT ?_|refine wU ?_)|((with_reducible refine isB ?_);first|refine wK rfl ?_|refine ld0 hp rfl ?_|refine ld1 hp rfl ?_|refine ld2 hp rfl ?_|refine ld3 hp rfl ?_|refine wP ?_|refine wQ ?_|refine wR ?_)|((with_reducible refine isIf ?_);first|refine wV ?_|refine wW ?_)|((with_reducible refine isHl ?_);first|refine hl0 hp rfl ?_|refine hl1 hp rfl ?_|refine hl2 hp rfl ?_|refine hl3 hp rfl ?_))
    refine ifV_cases (fun c3 => ?_) fun c3 => fin
    clear fin
    unfold S7_j5
    obtain ⟨x, hx⟩ : ∃ x, picks[j]? = some x := ⟨_, List.getElem?_eq_getElem (by omega)⟩
    have hxe : (picks.map encI)[j]? = some [i64 x] := by rw [List.getElem?_map, hx]; rfl
    have hb : HLe g h3 := baseP.le (hp.up 6)
    obtain ⟨p, e1, e2⟩ := (rp.le hb).get1 hxe .i64
    refine bnd_of e1 (bnd_of e2 ?_)
    refine bnd_of (binV_and_mask x 10 (by decide) (by decide)) ?_
    refine bnd_of hhl ?_
    have hbsmall : bs.length ≤ 4 := by omega
    refine bnd_of (rem_nn (by omega) (by omega)) ?_
    obtain ⟨k, hk⟩ : ∃ k : Nat, x % ((2 ^ 10 : Nat) : Int) % (bs.length : Int) = (k : Int) := ⟨(x % ((2 ^ 10 : Nat) : Int) % (bs.length : Int)).toNat, by have := Int.emod_nonneg (x % ((2 ^ 10 : Nat) : Int)) (show (bs.length : Int) ≠ 0 by omega); omega⟩
    have hkl : k < bs.length := by have := Int.emod_lt_of_pos (x % ((2 ^ 10 : Nat) : Int)) (show (0 : Int) < (bs.length : Int) by omega); omega
    rw [hk]
    obtain ⟨hb', ehb⟩ : ∃ b', bs[k]? = some b' := ⟨_, List.getElem?_eq_getElem hkl⟩
    obtain ⟨cb', ecb⟩ : ∃ c', cs[k]? = some c' := ⟨_, List.getElem?_eq_getElem (by omega)⟩
    obtain ⟨G, eG⟩ : ∃ G, Gs[k]? = some G := ⟨_, List.getElem?_eq_getElem (by omega)⟩
    obtain gok := hgok G (List.mem_of_getElem? eG)
    have hbe : (bs.map encP)[k]? = some [ptr hb'] := by rw [List.getElem?_map, ehb]; rfl
    have hce : (cs.map encP)[k]? = some [ptr cb'] := by rw [List.getElem?_map, ecb]; rfl
    have hg : ∀ {h'} {P1 P2 P5 P6 : Part} {l : List Part}, All (P1 :: P2 :: rowP 1 hv (bs.map encP) :: rowP 1 sv (cs.map encP) :: P5 :: P6 :: l) h' → (∃ p, isV 1 hv (i64 k) = some p ∧ ldV 1 false p h' = some (ptr hb')) ∧ (∃ p, isV 1 sv (i64 k) = some p ∧ ldV 1 false p h' = some (ptr cb')) := by
      intro h' P1 P2 P5 P6 l hp
      exact ⟨(All.rows (hp.up 2)).get1 hbe .i64, (All.rows (hp.up 3)).get1 hce .i64⟩
    obtain ⟨⟨p1, d1, d2⟩, _⟩ := hg hp
    refine bnd_of d1 (bnd_of d2 ?_)
    -- the program's
    have q1 := eachP_at ehb eG (hp.up 4)
    have q2 : All (arP 84 a B :: readP hb' G :: eachP readP (bs.eraseIdx k) (Gs.eraseIdx k) :: arP 96 b B :: rowP 1 hv (bs.map encP) :: rowP 1 sv (cs.map encP) :: eachP rreadP cs Gs :: [baseP g]) h3 := q1.up 2
    refine T_rdStep q2 gok fun h4 q3 => ?_
    have q4 : All (eachP readP bs (Gs.set k (G.step B).1) :: arP 84 a (G.step B).2.2 :: arP 96 b B :: rowP 1 hv (bs.map encP) :: rowP 1 sv (cs.map encP) :: eachP rreadP cs Gs :: [baseP g]) h4 := eachP_put ehb (by omega) (q3.re 4 [1, 2, 0, 3])
    clear q1 q2 q3 hp
    have hp : All (arP 84 a (G.step B).2.2 :: arP 96 b B :: rowP 1 hv (bs.map encP) :: rowP 1 sv (cs.map encP) :: eachP readP bs (Gs.set k (G.step B).1) :: eachP rreadP cs Gs :: [baseP g]) h4 := q4.re 6 [1, 2, 3, 4, 0, 5]
    clear q4
    (repeat first|(with_reducible first|refine wA ?_|refine wB ?_|refine wC ?_|refine wD ?_|refine wE ?_|refine wF ?_|refine wG ?_|refine wH ?_|refine wI ?_|refine wJ ?_|refine wN ?_|refine wT ?_|refine wU ?_)|((with_reducible refine isB ?_);first|refine wK rfl ?_|refine ld0 hp rfl ?_|refine ld1 hp rfl ?_|refine ld2 hp rfl ?_|refine ld3 hp rfl ?_|refine wP ?_|refine wQ ?_|refine wR ?_)|((with_reducible refine isIf ?_);first|refine wV ?_|refine wW ?_)|((with_reducible refine isHl ?_);first|refine hl0 hp rfl ?_|refine hl1 hp rfl ?_|refine hl2 hp rfl ?_|refine hl3 hp rfl ?_))
    obtain ⟨_, p2, d3, d4⟩ := hg hp
    refine bnd_of d3 (bnd_of d4 ?_)
    -- the document's
    have q1 := eachP_at ecb eG (hp.up 5)
    have q2 : All (arP 96 b B :: rreadP cb' G :: eachP rreadP (cs.eraseIdx k) (Gs.eraseIdx k) :: arP 84 a (G.step B).2.2 :: rowP 1 hv (bs.map encP) :: rowP 1 sv (cs.map encP) :: eachP readP bs (Gs.set k (G.step B).1) :: [baseP g]) h4 := q1.up 3
    refine T_rrdStep q2 gok fun h5 q3 => ?_
    have q4 : All (eachP rreadP cs (Gs.set k (G.step B).1) :: arP 96 b (G.step B).2.2 :: arP 84 a (G.step B).2.2 :: rowP 1 hv (bs.map encP) :: rowP 1 sv (cs.map encP) :: eachP readP bs (Gs.set k (G.step B).1) :: [baseP g]) h5 := eachP_put ecb (by omega) (q3.re 4 [1, 2, 0, 3])
    clear q1 q2 q3 hp
    have hst := Rd.step_ok gok hB
    have hp : All (arP 84 a (G.step B).2.2 :: arP 96 b (G.step B).2.2 :: rowP 1 hv (bs.map encP) :: rowP 1 sv (cs.map encP) :: eachP readP bs (Gs.set k (G.step B).1) :: eachP rreadP cs (Gs.set k (G.step B).1) :: [baseP g]) h5 := q4.re 6 [2, 1, 3, 4, 5, 0]
    clear q4
    have eG2 : (Gs.set k (G.step B).1)[k]? = some (G.step B).1 := List.getElem?_set_self (by omega)
    have ok2 : ∀ H ∈ Gs.set k (G.step B).1, H.ok := fun H hH => by
      rcases List.mem_or_eq_of_mem_set hH with q | q
      · exact hgok H q
      · subst q; exact hst.1
    have gl2 : (Gs.set k (G.step B).1).length = bs.length := by rw [List.length_set]; exact hgl
    generalize Gs.set k (G.step B).1 = Gs' at hp eG2 ok2 gl2
    generalize (G.step B).1 = G' at eG2 hst ⊢
    generalize (G.step B).2.2 = B' at hp hst
    (repeat first|(with_reducible first|refine wA ?_|refine wB ?_|refine wC ?_|refine wD ?_|refine wE ?_|refine wF ?_|refine wG ?_|refine wH ?_|refine wI ?_|refine wJ ?_|refine wN ?_|refine wT ?_|refine wU ?_)|((with_reducible refine isB ?_);first|refine wK rfl ?_|refine ld0 hp rfl ?_|refine ld1 hp rfl ?_|refine ld2 hp rfl ?_|refine ld3 hp rfl ?_|refine wP ?_|refine wQ ?_|refine wR ?_)|((with_reducible refine isIf ?_);first|refine wV ?_|refine wW ?_)|((with_reducible refine isHl ?_);first|refine hl0 hp rfl ?_|refine hl1 hp rfl ?_|refine hl2 hp rfl ?_|refine hl3 hp rfl ?_))
    obtain ⟨⟨p3, d5, d6⟩, p4, d7, d8⟩ := hg hp
    refine bnd_of d5 (bnd_of d6 ?_)
    have qh := eachP_at ehb eG2 (hp.up 4)
    have qr := eachP_at ecb eG2 (hp.up 5)
    refine T_rdThrough qh ?_
    (repeat first|(with_reducible first|refine wA ?_|refine wB ?_|refine wC ?_|refine wD ?_|refine wE ?_|refine wF ?_|refine wG ?_|refine wH ?_|refine wI ?_|refine wJ ?_|refine wN ?_|refine wT ?_|refine wU ?_)|((with_reducible refine isB ?_);first|refine wK rfl ?_|refine ld0 hp rfl ?_|refine ld1 hp rfl ?_|refine ld2 hp rfl ?_|refine ld3 hp rfl ?_|refine wP ?_|refine wQ ?_|refine wR ?_)|((with_reducible refine isIf ?_);first|refine wV ?_|refine wW ?_)|((with_reducible refine isHl ?_);first|refine hl0 hp rfl ?_|refine hl1 hp rfl ?_|refine hl2 hp rfl ?_|refine hl3 hp rfl ?_))
    refine bnd_of d7 (bnd_of d8 ?_)
    refine T_rrdThrough qr ?_
    (repeat first|(with_reducible first|refine wA ?_|refine wB ?_|refine wC ?_|refine wD ?_|refine wE ?_|refine wF ?_|refine wG ?_|refine wH ?_|refine wI ?_|refine wJ ?_|refine wN ?_|refine wT ?_|refine wU ?_)|((with_reducible refine isB ?_);first|refine wK rfl ?_|refine ld0 hp rfl ?_|refine ld1 hp rfl ?_|refine ld2 hp rfl ?_|refine ld3 hp rfl ?_|refine wP ?_|refine wQ ?_|refine wR ?_)|((with_reducible refine isIf ?_);first|refine wV ?_|refine wW ?_)|((with_reducible refine isHl ?_);first|refine hl0 hp rfl ?_|refine hl1 hp rfl ?_|refine hl2 hp rfl ?_|refine hl3 hp rfl ?_))
    rw [beq_self_eq_true]
    (repeat first|(with_reducible first|refine wA ?_|refine wB ?_|refine wC ?_|refine wD ?_|refine wE ?_|refine wF ?_|refine wG ?_|refine wH ?_|refine wI ?_|refine wJ ?_|refine wN ?_|refine wT ?_|refine wU ?_)|((with_reducible refine isB ?_);first|refine wK rfl ?_|refine ld0 hp rfl ?_|refine ld1 hp rfl ?_|refine ld2 hp rfl ?_|refine ld3 hp rfl ?_|refine wP ?_|refine wQ ?_|refine wR ?_)|((with_reducible refine isIf ?_);first|refine wV ?_|refine wW ?_)|((with_reducible refine isHl ?_);first|refine hl0 hp rfl ?_|refine hl1 hp rfl ?_|refine hl2 hp rfl ?_|refine hl3 hp rfl ?_))
    refine T_Num ?_
    (repeat first|(with_reducible first|refine wA ?_|refine wB ?_|refine wC ?_|refine wD ?_|refine wE ?_|refine wF ?_|refine wG ?_|refine wH ?_|refine wI ?_|refine wJ ?_|refine wN ?_|refine wT ?_|refine wU ?_)|((with_reducible refine isB ?_);first|refine wK rfl ?_|refine ld0 hp rfl ?_|refine ld1 hp rfl ?_|refine ld2 hp rfl ?_|refine ld3 hp rfl ?_|refine wP ?_|refine wQ ?_|refine wR ?_)|((with_reducible refine isIf ?_);first|refine wV ?_|refine wW ?_)|((with_reducible refine isHl ?_);first|refine hl0 hp rfl ?_|refine hl1 hp rfl ?_|refine hl2 hp rfl ?_|refine hl3 hp rfl ?_))
    rw [decide_eq_true rfl]
    (repeat first|(with_reducible first|refine wA ?_|refine wB ?_|refine wC ?_|refine wD ?_|refine wE ?_|refine wF ?_|refine wG ?_|refine wH ?_|refine wI ?_|refine wJ ?_|refine wN ?_|refine wT ?_|refine wU ?_)|((with_reducible refine isB ?_);first|refine wK rfl ?_|refine ld0 hp rfl ?_|refine ld1 hp rfl ?_|refine ld2 hp rfl ?_|refine ld3 hp rfl ?_|refine wP ?_|refine wQ ?_|refine wR ?_)|((with_reducible refine isIf ?_);first|refine wV ?_|refine wW ?_)|((with_reducible refine isHl ?_);first|refine hl0 hp rfl ?_|refine hl1 hp rfl ?_|refine hl2 hp rfl ?_|refine hl3 hp rfl ?_))
    refine bnd_of d5 (bnd_of d6 (bnd_of d7 (bnd_of d8 ?_)))
    obtain ⟨f1, f2⟩ := rr_fields qr
    (repeat first|(with_reducible first|refine wA ?_|refine wB ?_|refine wC ?_|refine wD ?_|refine wE ?_|refine wF ?_|refine wG ?_|refine wH ?_|refine wI ?_|refine wJ ?_|refine wN ?_|refine wT ?_|refine wU ?_)|((with_reducible refine isB ?_);first|refine wK rfl ?_|refine ld0 hp rfl ?_|refine ld1 hp rfl ?_|refine ld2 hp rfl ?_|refine ld3 hp rfl ?_|refine wP ?_|refine wQ ?_|refine wR ?_)|((with_reducible refine isIf ?_);first|refine wV ?_|refine wW ?_)|((with_reducible refine isHl ?_);first|refine hl0 hp rfl ?_|refine hl1 hp rfl ?_|refine hl2 hp rfl ?_|refine hl3 hp rfl ?_))
    refine bnd_of f1 ?_
    refine T_rdValue qh ?_
    refine ⟨f1, d8, ?_⟩
    (repeat first|(with_reducible first|refine wA ?_|refine wB ?_|refine wC ?_|refine wD ?_|refine wE ?_|refine wF ?_|refine wG ?_|refine wH ?_|refine wI ?_|refine wJ ?_|refine wN ?_|refine wT ?_|refine wU ?_)|((with_reducible refine isB ?_);first|refine wK rfl ?_|refine ld0 hp rfl ?_|refine ld1 hp rfl ?_|refine ld2 hp rfl ?_|refine ld3 hp rfl ?_|refine wP ?_|refine wQ ?_|refine wR ?_)|((with_reducible refine isIf ?_);first|refine wV ?_|refine wW ?_)|((with_reducible refine isHl ?_);first|refine hl0 hp rfl ?_|refine hl1 hp rfl ?_|refine hl2 hp rfl ?_|refine hl3 hp rfl ?_))
    rw [decide_eq_true rfl]
    (repeat first|(with_reducible first|refine wA ?_|refine wB ?_|refine wC ?_|refine wD ?_|refine wE ?_|refine wF ?_|refine wG ?_|refine wH ?_|refine wI ?_|refine wJ ?_|refine wN ?_|refine wT ?_|refine wU ?_)|((with_reducible refine isB ?_);first|refine wK rfl ?_|refine ld0 hp rfl ?_|refine ld1 hp rfl ?_|refine ld2 hp rfl ?_|refine ld3 hp rfl ?_|refine wP ?_|refine wQ ?_|refine wR ?_)|((with_reducible refine isIf ?_);first|refine wV ?_|refine wW ?_)|((with_reducible refine isHl ?_);first|refine hl0 hp rfl ?_|refine hl1 hp rfl ?_|refine hl2 hp rfl ?_|refine hl3 hp rfl ?_))
    refine bnd_of d5 (bnd_of d6 (bnd_of d7 (bnd_of d8 ?_)))
    (repeat first|(with_reducible first|refine wA ?_|refine wB ?_|refine wC ?_|refine wD ?_|refine wE ?_|refine wF ?_|refine wG ?_|refine wH ?_|refine wI ?_|refine wJ ?_|refine wN ?_|refine wT ?_|refine wU ?_)|((with_reducible refine isB ?_);first|refine wK rfl ?_|refine ld0 hp rfl ?_|refine ld1 hp rfl ?_|refine ld2 hp rfl ?_|refine ld3 hp rfl ?_|refine wP ?_|refine wQ ?_|refine wR ?_)|((with_reducible refine isIf ?_);first|refine wV ?_|refine wW ?_)|((with_reducible refine isHl ?_);first|refine hl0 hp rfl ?_|refine hl1 hp rfl ?_|refine hl2 hp rfl ?_|refine hl3 hp rfl ?_))
    refine bnd_of f2 ?_
    refine T_rdSeq qh ?_
    refine ⟨f2, d8, ?_⟩
    (repeat first|(with_reducible first|refine wA ?_|refine wB ?_|refine wC ?_|refine wD ?_|refine wE ?_|refine wF ?_|refine wG ?_|refine wH ?_|refine wI ?_|refine wJ ?_|refine wN ?_|refine wT ?_|refine wU ?_)|((with_reducible refine isB ?_);first|refine wK rfl ?_|refine ld0 hp rfl ?_|refine ld1 hp rfl ?_|refine ld2 hp rfl ?_|refine ld3 hp rfl ?_|refine wP ?_|refine wQ ?_|refine wR ?_)|((with_reducible refine isIf ?_);first|refine wV ?_|refine wW ?_)|((with_reducible refine isHl ?_);first|refine hl0 hp rfl ?_|refine hl1 hp rfl ?_|refine hl2 hp rfl ?_|refine hl3 hp rfl ?_))
    rw [decide_eq_true rfl]
    (repeat first|(with_reducible first|refine wA ?_|refine wB ?_|refine wC ?_|refine wD ?_|refine wE ?_|refine wF ?_|refine wG ?_|refine wH ?_|refine wI ?_|refine wJ ?_|refine wN ?_|refine wT ?_|refine wU ?_)|((with_reducible refine isB ?_);first|refine wK rfl ?_|refine ld0 hp rfl ?_|refine ld1 hp rfl ?_|refine ld2 hp rfl ?_|refine ld3 hp rfl ?_|refine wP ?_|refine wQ ?_|refine wR ?_)|((with_reducible refine isIf ?_);first|refine wV ?_|refine wW ?_)|((with_reducible refine isHl ?_);first|refine hl0 hp rfl ?_|refine hl1 hp rfl ?_|refine hl2 hp rfl ?_|refine hl3 hp rfl ?_))
    rw [decide_eq_true rfl]
    (repeat first|(with_reducible first|refine wA ?_|refine wB ?_|refine wC ?_|refine wD ?_|refine wE ?_|refine wF ?_|refine wG ?_|refine wH ?_|refine wI ?_|refine wJ ?_|refine wN ?_|refine wT ?_|refine wU ?_)|((with_reducible refine isB ?_);first|refine wK rfl ?_|refine ld0 hp rfl ?_|refine ld1 hp rfl ?_|refine ld2 hp rfl ?_|refine ld3 hp rfl ?_|refine wP ?_|refine wQ ?_|refine wR ?_)|((with_reducible refine isIf ?_);first|refine wV ?_|refine wW ?_)|((with_reducible refine isHl ?_);first|refine hl0 hp rfl ?_|refine hl1 hp rfl ?_|refine hl2 hp rfl ?_|refine hl3 hp rfl ?_))
    rw [decide_eq_true rfl]
    (repeat first|(with_reducible first|refine wA ?_|refine wB ?_|refine wC ?_|refine wD ?_|refine wE ?_|refine wF ?_|refine wG ?_|refine wH ?_|refine wI ?_|refine wJ ?_|refine wN ?_|refine wT ?_|refine wU ?_)|((with_reducible refine isB ?_);first|refine wK rfl ?_|refine ld0 hp rfl ?_|refine ld1 hp rfl ?_|refine ld2 hp rfl ?_|refine ld3 hp rfl ?_|refine wP ?_|refine wQ ?_|refine wR ?_)|((with_reducible refine isIf ?_);first|refine wV ?_|refine wW ?_)|((with_reducible refine isHl ?_);first|refine hl0 hp rfl ?_|refine hl1 hp rfl ?_|refine hl2 hp rfl ?_|refine hl3 hp rfl ?_))
    exact again (j + 1, Gs', B') _ ⟨by simp only; omega, by simp only; omega, (arP.at hp).2, gl2, ok2, hp⟩ (by simp only; omega)
  refine bnd_of hrl ?_
  (repeat first|(with_reducible first|refine wA ?_|refine wB ?_|refine wC ?_|refine wD ?_|refine wE ?_|refine wF ?_|refine wG ?_|refine wH ?_|refine wI ?_|refine wJ ?_|refine wN ?_|refine wT ?_|refine wU ?_)|((with_reducible refine isB ?_);first|refine wK rfl ?_|refine ld0 hp rfl ?_|refine ld1 hp rfl ?_|refine ld2 hp rfl ?_|refine ld3 hp rfl ?_|refine wP ?_|refine wQ ?_|refine wR ?_)|((with_reducible refine isIf ?_);first|refine wV ?_|refine wW ?_)|((with_reducible refine isHl ?_);first|refine hl0 hp rfl ?_|refine hl1 hp rfl ?_|refine hl2 hp rfl ?_|refine hl3 hp rfl ?_))
  refine ifV_cases (fun c => ?_) fun c => key
  (repeat first|(with_reducible first|refine wA ?_|refine wB ?_|refine wC ?_|refine wD ?_|refine wE ?_|refine wF ?_|refine wG ?_|refine wH ?_|refine wI ?_|refine wJ ?_|refine wN ?_|refine wT ?_|refine wU ?_)|((with_reducible refine isB ?_);first|refine wK rfl ?_|refine ld0 hp rfl ?_|refine ld1 hp rfl ?_|refine ld2 hp rfl ?_|refine ld3 hp rfl ?_|refine wP ?_|refine wQ ?_|refine wR ?_)|((with_reducible refine isIf ?_);first|refine wV ?_|refine wW ?_)|((with_reducible refine isHl ?_);first|refine hl0 hp rfl ?_|refine hl1 hp rfl ?_|refine hl2 hp rfl ?_|refine hl3 hp rfl ?_))
  refine ifV_cases (fun c4 => ?_) fun c4 => key
  clear key
  unfold S7_j2
  obtain ⟨x, hx⟩ : ∃ x, refs[i]? = some x := ⟨_, List.getElem?_eq_getElem (by omega)⟩
  have hxe : (refs.map encI)[i]? = some [i64 x] := by rw [List.getElem?_map, hx]; rfl
  have hxr := hr x (List.mem_of_getElem? hx)
  obtain ⟨p, e1, e2⟩ := (rr.le (baseP.le (hp.up 6))).get1 hxe .i64
  refine bnd_of e1 (bnd_of e2 ?_)
  refine T_readNew hp (fun nm h3 hp => ?_) fun m hb h3 hp => ?_
  · (repeat first|(with_reducible first|refine wA ?_|refine wB ?_|refine wC ?_|refine wD ?_|refine wE ?_|refine wF ?_|refine wG ?_|refine wH ?_|refine wI ?_|refine wJ ?_|refine wN ?_|refine wT ?_|refine wU ?_)|((with_reducible refine isB ?_);first|refine wK rfl ?_|refine ld0 hp rfl ?_|refine ld1 hp rfl ?_|refine ld2 hp rfl ?_|refine ld3 hp rfl ?_|refine wP ?_|refine wQ ?_|refine wR ?_)|((with_reducible refine isIf ?_);first|refine wV ?_|refine wW ?_)|((with_reducible refine isHl ?_);first|refine hl0 hp rfl ?_|refine hl1 hp rfl ?_|refine hl2 hp rfl ?_|refine hl3 hp rfl ?_))
    obtain ⟨p, e1, e2⟩ := (rr.le (baseP.le (hp.up 6))).get1 hxe .i64
    refine bnd_of e1 (bnd_of e2 ?_)
    refine T_rreadNew hp (fun _ h4 hp => ?_) fun m => absurd m nm
    (repeat first|(with_reducible first|refine wA ?_|refine wB ?_|refine wC ?_|refine wD ?_|refine wE ?_|refine wF ?_|refine wG ?_|refine wH ?_|refine wI ?_|refine wJ ?_|refine wN ?_|refine wT ?_|refine wU ?_)|((with_reducible refine isB ?_);first|refine wK rfl ?_|refine ld0 hp rfl ?_|refine ld1 hp rfl ?_|refine ld2 hp rfl ?_|refine ld3 hp rfl ?_|refine wP ?_|refine wQ ?_|refine wR ?_)|((with_reducible refine isIf ?_);first|refine wV ?_|refine wW ?_)|((with_reducible refine isHl ?_);first|refine hl0 hp rfl ?_|refine hl1 hp rfl ?_|refine hl2 hp rfl ?_|refine hl3 hp rfl ?_))
    refine T_Num ?_
    (repeat first|(with_reducible first|refine wA ?_|refine wB ?_|refine wC ?_|refine wD ?_|refine wE ?_|refine wF ?_|refine wG ?_|refine wH ?_|refine wI ?_|refine wJ ?_|refine wN ?_|refine wT ?_|refine wU ?_)|((with_reducible refine isB ?_);first|refine wK rfl ?_|refine ld0 hp rfl ?_|refine ld1 hp rfl ?_|refine ld2 hp rfl ?_|refine ld3 hp rfl ?_|refine wP ?_|refine wQ ?_|refine wR ?_)|((with_reducible refine isIf ?_);first|refine wV ?_|refine wW ?_)|((with_reducible refine isHl ?_);first|refine hl0 hp rfl ?_|refine hl1 hp rfl ?_|refine hl2 hp rfl ?_|refine hl3 hp rfl ?_))
    unfold S7_j3
    (repeat first|(with_reducible first|refine wA ?_|refine wB ?_|refine wC ?_|refine wD ?_|refine wE ?_|refine wF ?_|refine wG ?_|refine wH ?_|refine wI ?_|refine wJ ?_|refine wN ?_|refine wT ?_|refine wU ?_)|((with_reducible refine isB ?_);first|refine wK rfl ?_|refine ld0 hp rfl ?_|refine ld1 hp rfl ?_|refine ld2 hp rfl ?_|refine ld3 hp rfl ?_|refine wP ?_|refine wQ ?_|refine wR ?_)|((with_reducible refine isIf ?_);first|refine wV ?_|refine wW ?_)|((with_reducible refine isHl ?_);first|refine hl0 hp rfl ?_|refine hl1 hp rfl ?_|refine hl2 hp rfl ?_|refine hl3 hp rfl ?_))
    exact again (i + 1, Hs, hv, sv) _ ⟨by simp only; omega, by simp only; omega, by simp only; omega, hok, bs, cs, hbl, hcl, hp⟩ (by simp only; omega)
  · (repeat first|(with_reducible first|refine wA ?_|refine wB ?_|refine wC ?_|refine wD ?_|refine wE ?_|refine wF ?_|refine wG ?_|refine wH ?_|refine wI ?_|refine wJ ?_|refine wN ?_|refine wT ?_|refine wU ?_)|((with_reducible refine isB ?_);first|refine wK rfl ?_|refine ld0 hp rfl ?_|refine ld1 hp rfl ?_|refine ld2 hp rfl ?_|refine ld3 hp rfl ?_|refine wP ?_|refine wQ ?_|refine wR ?_)|((with_reducible refine isIf ?_);first|refine wV ?_|refine wW ?_)|((with_reducible refine isHl ?_);first|refine hl0 hp rfl ?_|refine hl1 hp rfl ?_|refine hl2 hp rfl ?_|refine hl3 hp rfl ?_))
    obtain ⟨p, e1, e2⟩ := (rr.le (baseP.le (hp.up 7))).get1 hxe .i64
    refine bnd_of e1 (bnd_of e2 ?_)
    refine T_rreadNew hp (fun nm => absurd m nm) fun _ cb h4 hp => ?_
    generalize hH : Rd.new (i : Int) seq x = H at hp
    have Hok : H.ok := by rw [← hH]; exact Rd.new_ok m
    (repeat first|(with_reducible first|refine wA ?_|refine wB ?_|refine wC ?_|refine wD ?_|refine wE ?_|refine wF ?_|refine wG ?_|refine wH ?_|refine wI ?_|refine wJ ?_|refine wN ?_|refine wT ?_|refine wU ?_)|((with_reducible refine isB ?_);first|refine wK rfl ?_|refine ld0 hp rfl ?_|refine ld1 hp rfl ?_|refine ld2 hp rfl ?_|refine ld3 hp rfl ?_|refine wP ?_|refine wQ ?_|refine wR ?_)|((with_reducible refine isIf ?_);first|refine wV ?_|refine wW ?_)|((with_reducible refine isHl ?_);first|refine hl0 hp rfl ?_|refine hl1 hp rfl ?_|refine hl2 hp rfl ?_|refine hl3 hp rfl ?_))
    refine T_Num ?_
    (repeat first|(with_reducible first|refine wA ?_|refine wB ?_|refine wC ?_|refine wD ?_|refine wE ?_|refine wF ?_|refine wG ?_|refine wH ?_|refine wI ?_|refine wJ ?_|refine wN ?_|refine wT ?_|refine wU ?_)|((with_reducible refine isB ?_);first|refine wK rfl ?_|refine ld0 hp rfl ?_|refine ld1 hp rfl ?_|refine ld2 hp rfl ?_|refine ld3 hp rfl ?_|refine wP ?_|refine wQ ?_|refine wR ?_)|((with_reducible refine isIf ?_);first|refine wV ?_|refine wW ?_)|((with_reducible refine isHl ?_);first|refine hl0 hp rfl ?_|refine hl1 hp rfl ?_|refine hl2 hp rfl ?_|refine hl3 hp rfl ?_))
    unfold S7_j3
    (repeat first|(with_reducible first|refine wA ?_|refine wB ?_|refine wC ?_|refine wD ?_|refine wE ?_|refine wF ?_|refine wG ?_|refine wH ?_|refine wI ?_|refine wJ ?_|refine wN ?_|refine wT ?_|refine wU ?_)|((with_reducible refine isB ?_);first|refine wK rfl ?_|refine ld0 hp rfl ?_|refine ld1 hp rfl ?_|refine ld2 hp rfl ?_|refine ld3 hp rfl ?_|refine wP ?_|refine wQ ?_|refine wR ?_)|((with_reducible refine isIf ?_);first|refine wV ?_|refine wW ?_)|((with_reducible refine isHl ?_);first|refine hl0 hp rfl ?_|refine hl1 hp rfl ?_|refine hl2 hp rfl ?_|refine hl3 hp rfl ?_))
    refine bs0 hp ([hb].map encP) rfl rfl (by simp) (encP_good _) fun xv h5 hp => ?_
    have hrow := hp.rows
    refine ap0 (hp.up 5) hrow (encP_good _) (by decide) (by simp only [List.length_map, List.length_cons, List.length_nil]; omega) fun hv' h6 hp => ?_
    refine bs0 hp ([cb].map encP) rfl rfl (by simp) (encP_good _) fun yv h7 hp => ?_
    have hrow2 := hp.rows
    refine ap0 (hp.up 7) hrow2 (encP_good _) (by decide) (by simp only [List.length_map, List.length_cons, List.length_nil]; omega) fun sv' h8 hp => ?_
    (repeat first|(with_reducible first|refine wA ?_|refine wB ?_|refine wC ?_|refine wD ?_|refine wE ?_|refine wF ?_|refine wG ?_|refine wH ?_|refine wI ?_|refine wJ ?_|refine wN ?_|refine wT ?_|refine wU ?_)|((with_reducible refine isB ?_);first|refine wK rfl ?_|refine ld0 hp rfl ?_|refine ld1 hp rfl ?_|refine ld2 hp rfl ?_|refine ld3 hp rfl ?_|refine wP ?_|refine wQ ?_|refine wR ?_)|((with_reducible refine isIf ?_);first|refine wV ?_|refine wW ?_)|((with_reducible refine isHl ?_);first|refine hl0 hp rfl ?_|refine hl1 hp rfl ?_|refine hl2 hp rfl ?_|refine hl3 hp rfl ?_))
    have z1 : All (readP hb H :: eachP readP bs Hs :: arP 84 a A :: arP 96 b A :: rowP 1 hv' (bs.map encP ++ [hb].map encP) :: rowP 1 sv' (cs.map encP ++ [cb].map encP) :: rreadP cb H :: eachP rreadP cs Hs :: [baseP g]) _ := hp.re 11 [5, 8, 6, 7, 2, 0, 4, 9, 10]
    have z2 : All (rreadP cb H :: eachP rreadP cs Hs :: eachP readP (bs ++ [hb]) (Hs ++ [H]) :: arP 84 a A :: arP 96 b A :: rowP 1 hv' (bs.map encP ++ [hb].map encP) :: rowP 1 sv' (cs.map encP ++ [cb].map encP) :: [baseP g]) _ := (eachP_snoc z1).re 8 [5, 6, 0, 1, 2, 3, 4, 7]
    have z3 := eachP_snoc z2
    rw [← List.map_append, ← List.map_append] at z3
    refine again (i + 1, Hs ++ [H], hv', sv') _ ⟨by simp only; omega, by simp only; omega, by simp only [List.length_append, List.length_singleton]; omega, fun G hG => ?_, bs ++ [hb], cs ++ [cb], by simp [hbl], by simp [hcl], z3.re 7 [2, 3, 4, 5, 1, 0, 6]⟩ (by simp only; omega)
    rcases List.mem_append.1 hG with q | q
    · exact hok G q
    · rw [List.mem_singleton.1 q]; exact Hok
end
end Go.Proofs.Ytiopeicakfjbfaa
