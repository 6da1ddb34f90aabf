/- Several texts in one; nothing here is a statement on the program. -/
import Derived.Test.YtcpfkkppfgolaaaGreatDoorTTR9
set_option linter.unusedVariables false
set_option linter.unusedSimpArgs false
namespace Go.Proofs.YtcpfkkppfgolaaaGreatDoor
open Go GW Go.Proofs
attribute [local irreducible] bnd ldV stV ifV binV eqI
set_option maxRecDepth 20000
def litN (x : Int) : Bool := decide (x = 0) || (decide (x = 1) || (decide (x = 2) || (decide (x = 3) || (decide (x = 20) || decide (x = 50)))))
theorem litN_cases {x : Int} (h : litN x = true) : x = 0 ∨ x = 1 ∨ x = 2 ∨ x = 3 ∨ x = 20 ∨ x = 50 := by
  simpa [litN] using h
def itoaB (x : Int) : List UInt8 := if x < 10 then [48 + x.toNat.toUInt8] else [48 + (x / 10).toNat.toUInt8, 48 + (x % 10).toNat.toUInt8]
section
variable {b : Nat} {h g : GH} {K : Value → GH → Prop} {ad bv v : Value} {cs : List UInt8} {R : List Part}
theorem T_Itoa {x : Int} (hx : litN x = true) (hK : K (.string ⟨(itoaB x).toArray⟩) h) : T Tryz.prog 65 [i64 x] h K := by
  apply S65_T
  unfold S65
  apply S92_T
  unfold S92
  apply S110_T
  unfold S110
  have hK' : ∀ u, u = Value.string ⟨(itoaB x).toArray⟩ → K u h := fun u e => e ▸ hK
  clear hK
  obtain rfl | rfl | rfl | rfl | rfl | rfl := litN_cases hx
  all_goals
    refine wk ?_
    apply S122_T
    unfold S122
    refine wk ?_
    exact hK' _ (by kernel_rfl)
def lettersB : List UInt8 := [111, 99, 100, 119, 116, 115, 105, 101, 102, 109, 114]
def opNums (o : Op) : List Int := (partsOf o.kind).map fun j => [o.kind, o.a, o.b, o.x].getD j 0
def numsB (xs : List Int) : Nat → List UInt8
  | 0 => []
  | i + 1 => numsB xs i ++ (if 0 < i then [44] else []) ++ itoaB (xs.getD i 0)
def opB (o : Op) : List UInt8 := lettersB.getD o.kind.toNat 0 :: numsB (opNums o) (opNums o).length
theorem itoaB_len (x : Int) : (itoaB x).length ≤ 2 := by unfold itoaB; split <;> simp
theorem numsB_len (xs : List Int) : ∀ i, (numsB xs i).length ≤ 3 * i := by
  intro i
  induction i with
  | zero => simp [numsB]
  | succ i ih =>
    have := itoaB_len (xs.getD i 0)
    simp only [numsB, List.length_append]
    split <;> simp only [List.length_cons, List.length_nil] <;> omega
theorem T_shown {o : Op} (hp : All (pts b (bdRow ad bv) :: byP bv cs :: R) h) (ha : ad = .pointer none ∨ ad = ptr b) (hl : cs.length ≤ 90000) (k0 : 0 ≤ o.kind) (k1 : o.kind < 11) (hn : (opNums o).all litN = true)
    (hK : ∀ bv' h', All (pts b (bdRow (ptr b) bv') :: byP bv' (cs ++ opB o) :: R) h' → K (.tuple #[]) h') : T Tryz.prog 66 [ptr b, .agg o.enc.toArray] h K := by
  apply T.drop
  apply S66_T
  unfold S66
  refine nw hp (.row 126 o.enc 4 true) rfl fun ob h1 hp => ?_
  refine bnd_of rfl ?_
  refine bnd_of (v := i64 o.kind) (by rw [ldV_cell hp.pt0]; rfl) ?_
  have hx : xsV (.string ⟨#[111, 99, 100, 119, 116, 115, 105, 101, 102, 109, 114]⟩) (i64 o.kind) = some (byteV (lettersB.getD o.kind.toNat 0)) := by
    obtain ⟨k, hk⟩ := Int.eq_ofNat_of_zero_le k0
    rw [hk] at k1 ⊢
    have k1 : k < 11 := by omega
    match k, k1 with
    | 0, _ | 1, _ | 2, _ | 3, _ | 4, _ | 5, _ | 6, _ | 7, _ | 8, _ | 9, _ | 10, _ => rfl
  refine bnd_of hx ?_
  replace hp := hp.re 3 [1, 2, 0]
  replace hp := Go.Proofs.YtcpfkkppfgolaaaGreatDoor.hn hp
  refine T_WriteByte hp ha (by omega) fun bv1 h2 hp => ?_
  have ho : h2 ob = some (.row 126 o.enc 4 true) := hp.pt (i := 2) rfl
  refine T_parts k0 k1 hp (by rw [ldV_cell ho]; rfl) fun pv h3 hp => ?_
  have hlen : (ptrsAt ob 0 (partsOf o.kind)).length = (opNums o).length := by simp [ptrsAt, opNums]
  have hlp := hp.len
  rw [hlen] at hlp
  have hp4 : (partsOf o.kind).length ≤ 3 := by unfold partsOf; repeat' split
                                               all_goals simp
  have hon : (opNums o).length = (partsOf o.kind).length := by simp [opNums]
  refine bnd_of hlp ?_
  replace hp := hp.re 3 [1, 2, 0]
  replace hp := Go.Proofs.YtcpfkkppfgolaaaGreatDoor.hn hp
  refine Lfp_fam (ι := Nat) (fun i => [ptr b, pv, i64 (opNums o).length, i64 i]) (fun i h' => i ≤ (opNums o).length ∧ ∃ bv', All (pts b (bdRow (ptr b) bv') :: byP bv' (cs ++ [lettersB.getD o.kind.toNat 0] ++ numsB (opNums o) i) :: rowP 1 pv (ptrsAt ob 0 (partsOf o.kind)) :: pts ob (.row 126 o.enc 4 true) :: R) h')
    (fun i => (opNums o).length - i) ?_ 0 h3 ⟨Nat.zero_le _, bv1, by simpa [numsB] using hp⟩
  intro i h' X ⟨hi, bv2, hp⟩ again
  simp only [tup_zero, tup_succ]
  have hnl := numsB_len (opNums o) i
  refine wk ?_
  refine ifV_cases (fun hlt => ?_) (fun hge => ?_)
  · have hlt : i < (opNums o).length := by omega
    obtain ⟨j, hj⟩ : ∃ j, (partsOf o.kind)[i]? = some j := ⟨_, List.getElem?_eq_getElem (by omega)⟩
    have hj4 : j < 4 := by
      have := List.mem_of_getElem? hj
      unfold partsOf at this
      repeat' split at this
      all_goals simp at this
      all_goals omega
    obtain ⟨b1, e1, e2, _, _⟩ := (hp.up 2).elt (i := i) (c := [.pointer (some ⟨ob, 0 + j, none⟩)]) (by simp [ptrsAt, hj]) .i64
    have hx : (opNums o).getD i 0 = [o.kind, o.a, o.b, o.x].getD j 0 := by
      simp [opNums, hj]
    have hlit : litN ((opNums o).getD i 0) = true := by
      have := List.all_eq_true.1 hn ((opNums o)[i]) (List.getElem_mem hlt)
      simpa [List.getD_eq_getElem?_getD, List.getElem?_eq_getElem hlt] using this
    have hld : ∀ h'', h'' ob = some (.row 126 o.enc 4 true) → ldV 1 false (.pointer (some ⟨ob, 0 + j, none⟩)) h'' = some (i64 ((opNums o).getD i 0)) := by
      intro h'' ho
      rw [ldV_cell ho, hx, Nat.zero_add]
      match j, hj4 with
      | 0, _ | 1, _ | 2, _ | 3, _ => rfl
    refine bnd_of e1 ?_
    refine bnd_of (e2 0 1 _ rfl) ?_
    refine wk ?_
    refine ifV_cases (fun hpos => ?_) (fun hz => ?_)
    · have hpos : 0 < i := by omega
      refine T_WriteRune (c := 44) hp (.inr rfl) (by decide) (by simp; omega) fun v3 bv3 h4 hp => ?_
      refine wk ?_
      refine bnd_of (hld _ (hp.pt (i := 3) rfl)) ?_
      refine T_Itoa hlit ?_
      have hil := itoaB_len ((opNums o).getD i 0)
      refine T_WriteString hp (.inr rfl) (by simp only [List.length_append, List.length_cons, List.length_nil]; omega) fun v4 bv4 h5 hp => ?_
      refine wk ?_
      refine again (i + 1) _ ⟨hlt, bv4, ?_⟩ (by omega)
      simp only [numsB, hpos, if_true]
      simpa using hp
    · have hz : i = 0 := by omega
      refine wk ?_
      refine bnd_of (hld _ (hp.pt (i := 3) rfl)) ?_
      refine T_Itoa hlit ?_
      have hil := itoaB_len ((opNums o).getD i 0)
      refine T_WriteString hp (.inr rfl) (by simp only [List.length_append, List.length_cons, List.length_nil]; omega) fun v4 bv4 h5 hp => ?_
      refine wk ?_
      refine again (i + 1) _ ⟨hlt, bv4, ?_⟩ (by omega)
      subst hz
      simp only [numsB, Nat.lt_irrefl, if_false] at hp ⊢
      simpa using hp
  · have hi' : i = (opNums o).length := by omega
    refine ⟨h', HLe.refl _, hK bv2 _ ?_⟩
    replace hp := hp.re 4 [0, 1]
    replace hp := Go.Proofs.YtcpfkkppfgolaaaGreatDoor.hn hp
    subst hi'
    simpa [opB] using hp
end
end Go.Proofs.YtcpfkkppfgolaaaGreatDoor
namespace Go.Proofs.YtcpfkkppfgolaaaGreatDoor
open Go GW Go.Proofs
attribute [local irreducible] bnd ldV stV ifV binV eqI
set_option maxRecDepth 20000
def opsB (t : List Op) : Nat → List UInt8
  | 0 => []
  | k + 1 => opsB t k ++ (if 0 < k then [43] else []) ++ opB (t.getD k ⟨0, 0, 0, 0⟩)
def txsB (ts : List (List Op)) : Nat → List UInt8
  | 0 => []
  | j + 1 => txsB ts j ++ (if 0 < j then [59] else []) ++ opsB (ts.getD j []) (ts.getD j []).length
def thsB (ths : List (List (List Op))) : Nat → List UInt8
  | 0 => []
  | i + 1 => thsB ths i ++ [124] ++ txsB (ths.getD i []) (ths.getD i []).length
def showB (p : Plan) : List UInt8 := [if p.polite then 112 else 97] ++ itoaB p.attempts ++ thsB p.threads p.threads.length
def Op.lit (o : Op) : Bool := decide (0 ≤ o.kind) && (decide (o.kind < 11) && (opNums o).all litN)
def Plan.lit (p : Plan) : Bool := litN p.attempts && (decide (p.threads.length ≤ 4) && p.threads.all fun ts => decide (ts.length ≤ 8) && ts.all fun t => decide (t.length ≤ 2) && t.all Op.lit)
theorem opB_len (o : Op) : (opB o).length ≤ 10 := by
  have h1 := numsB_len (opNums o) (opNums o).length
  have h2 : (opNums o).length ≤ 3 := by
    unfold opNums partsOf; repeat' split
    all_goals simp
  unfold opB
  simp only [List.length_cons]
  omega
theorem opsB_len (t : List Op) : ∀ k, (opsB t k).length ≤ 11 * k := by
  intro k
  induction k with
  | zero => simp [opsB]
  | succ k ih =>
    have := opB_len (t.getD k ⟨0, 0, 0, 0⟩)
    simp only [opsB, List.length_append]
    split <;> simp only [List.length_cons, List.length_nil] <;> omega
theorem txsB_len (ts : List (List Op)) (h : ∀ t ∈ ts, t.length ≤ 2) : ∀ j, (txsB ts j).length ≤ 23 * j := by
  intro j
  induction j with
  | zero => simp [txsB]
  | succ j ih =>
    have h1 := opsB_len (ts.getD j []) (ts.getD j []).length
    have h2 : (ts.getD j []).length ≤ 2 := by
      rcases Nat.lt_or_ge j ts.length with q | q
      · rw [List.getD_eq_getElem?_getD, List.getElem?_eq_getElem q]; exact h _ (List.getElem_mem q)
      · rw [List.getD_eq_getElem?_getD, List.getElem?_eq_none q]; simp
    simp only [txsB, List.length_append]
    split <;> simp only [List.length_cons, List.length_nil] <;> omega
theorem thsB_len (ths : List (List (List Op))) (h : ∀ ts ∈ ths, ts.length ≤ 8 ∧ ∀ t ∈ ts, t.length ≤ 2) : ∀ i, (thsB ths i).length ≤ 190 * i := by
  intro i
  induction i with
  | zero => simp [thsB]
  | succ i ih =>
    have h2 : (ths.getD i []).length ≤ 8 ∧ ∀ t ∈ ths.getD i [], t.length ≤ 2 := by
      rcases Nat.lt_or_ge i ths.length with q | q
      · rw [List.getD_eq_getElem?_getD, List.getElem?_eq_getElem q]; exact h _ (List.getElem_mem q)
      · rw [List.getD_eq_getElem?_getD, List.getElem?_eq_none q]; simp
    have h1 := txsB_len _ h2.2 (ths.getD i []).length
    simp only [thsB, List.length_append, List.length_cons, List.length_nil]
    omega
section
variable {b : Nat} {h g : GH} {K : Value → GH → Prop} {ad bv v : Value} {cs : List UInt8} {R : List Part} {p : Plan}
theorem T_Show (hp : All R h) (hg : ∀ h', All R h' → HLe g h') (ht : threadsAt g v p.threads) (hm : p.may = true) (hl : p.lit = true)
    (hK : ∀ h', All R h' → K (.tuple #[.string ⟨(showB p).toArray⟩, i64 0]) h') : T Tryz.prog 34 [.agg (planC v p).toArray] h K := by
  apply S34_T
  unfold S34
  unfold Plan.lit at hl
  simp only [Bool.and_eq_true, decide_eq_true_eq, List.all_eq_true] at hl
  obtain ⟨hatt, hn4, hall⟩ := hl
  have htl := thsB_len p.threads fun ts hts => ⟨(hall ts hts).1, fun t ht => ((hall ts hts).2 t ht).1⟩
  refine nw hp (.row 24 (planC v p) 3 true) rfl fun d h1 hp => ?_
  refine la0 hp (c := planC v p) (Nat.le_refl 3) rfl ?_
  refine T_scriptMay (ht.le (hg _ hp.tail)) ?_
  rw [hm]
  refine wk ?_
  refine nw hp (bdRow (.pointer none) (.slice none 0 0)) rfl fun b h2 hp => ?_
  have e0 : ∀ h', h' d = some (.row 24 (planC v p) 3 true) → ldV 1 false (.pointer (some ⟨d, 2, none⟩)) h' = some (.bool p.polite) ∧ ldV 1 false (.pointer (some ⟨d, 1, none⟩)) h' = some (i64 p.attempts) ∧ ldV 1 false (.pointer (some ⟨d, 0, none⟩)) h' = some v :=
    fun h' e => ⟨by rw [ldV_cell e]; rfl, by rw [ldV_cell e]; rfl, by rw [ldV_cell e]; rfl⟩
  refine wk ?_
  replace hp := (hp.emp_cons (byP_nil _)).dn 1
  replace hp := hn hp
  have hj1 : ∀ (cs : List UInt8) (bv : Value) (h : GH), cs = [if p.polite then 112 else 97] → All (pts b (bdRow (ptr b) bv) :: byP bv cs :: pts d (.row 24 (planC v p) 3 true) :: R) h → S34_j1 (ptr d) (ptr b) h K := by
    intro cs bv h hcs hp
    have hc1 : cs.length = 1 := by rw [hcs]; rfl
    unfold S34_j1
    refine wk ?_
    refine T_Itoa hatt ?_
    have hil := itoaB_len p.attempts
    refine T_WriteString hp (.inr rfl) (by omega) fun v3 bv3 h4 hp => ?_
    refine wk ?_
    obtain ⟨es, rv, a2⟩ := ht
    have hln := rv.len
    have hmx := rv.max
    rw [a2.1] at hln hmx
    refine bnd_of hln ?_
    replace hp : All (pts b (bdRow (ptr b) bv3) :: byP bv3 (cs ++ itoaB p.attempts) :: R) h4 := by
      replace hp := hp.re 3 [0, 1]
      replace hp := hn hp
      exact hp
    refine Lfp_fam (ι := Nat) (fun i => [ptr b, v, i64 p.threads.length, i64 i]) (fun i h' => i ≤ p.threads.length ∧ ∃ bv', All (pts b (bdRow (ptr b) bv') :: byP bv' (cs ++ itoaB p.attempts ++ thsB p.threads i) :: R) h')
      (fun i => p.threads.length - i) ?_ 0 h4 ⟨Nat.zero_le _, bv3, by simpa [thsB] using hp⟩
    intro i h5 X ⟨hi, bv4, hp⟩ again
    have hti := htl i
    simp only [tup_zero, tup_succ]
    refine wk ?_
    refine ifV_cases (fun hlt => ?_) (fun hge => ?_)
    · have hlt : i < p.threads.length := by omega
      obtain ⟨ts, hts⟩ : ∃ ts, p.threads[i]? = some ts := ⟨_, List.getElem?_eq_getElem hlt⟩
      have htsm := List.mem_of_getElem? hts
      obtain ⟨c, hc, w, es1, rfl, rw1, a3⟩ := a2.get hts
      have hg5 : HLe g h5 := hg _ hp.tail.tail
      obtain ⟨b1, o1, e1, f1, _⟩ := (rv.le hg5).fld hc .i64
      refine bnd_of e1 ?_
      refine bnd_of (f1 0 _ rfl) ?_
      refine T_WriteRune (c := 124) hp (.inr rfl) (by decide) (by simp only [List.length_append]; omega) fun v5 bv5 h6 hp => ?_
      have hln1 := rw1.len
      have hmx1 := rw1.max
      rw [a3.1] at hln1 hmx1
      have hts8 := (hall ts htsm).1
      refine bnd_of hln1 ?_
      have hxl := txsB_len ts fun t ht => ((hall ts htsm).2 t ht).1
      refine Lfp_fam (ι := Nat) (fun j => [ptr b, v, i64 p.threads.length, i64 i, w, i64 ts.length, i64 j]) (fun j h' => j ≤ ts.length ∧ ∃ bv', All (pts b (bdRow (ptr b) bv') :: byP bv' (cs ++ itoaB p.attempts ++ thsB p.threads i ++ [124] ++ txsB ts j) :: R) h')
        (fun j => ts.length - j) ?_ 0 h6 ⟨Nat.zero_le _, bv5, by simpa [txsB] using hp⟩
      intro j h7 X2 ⟨hj, bv6, hp⟩ again2
      have hxj := hxl j
      simp only [tup_zero, tup_succ]
      refine wk ?_
      refine ifV_cases (fun hlt2 => ?_) (fun hge2 => ?_)
      · have hlt2 : j < ts.length := by omega
        obtain ⟨t, htt⟩ : ∃ t, ts[j]? = some t := ⟨_, List.getElem?_eq_getElem hlt2⟩
        have htm := List.mem_of_getElem? htt
        have ht2 := ((hall ts htsm).2 t htm).1
        obtain ⟨c2, hc2, w2, rfl, rw2⟩ := a3.get htt
        have hg7 : HLe g h7 := hg _ hp.tail.tail
        obtain ⟨b2, o2, e2, f2, g2⟩ := (rw1.le hg7).fld hc2 .i64
        refine bnd_of e2 ?_
        refine bnd_of g2 ?_
        refine nwst hp (.row 69 [w2] 1 true) rfl rfl (by have := f2 0 _ rfl; obtain ⟨q1, q2, q3, rfl, _⟩ := rw2; rfl) rfl fun tb h8 hp => ?_
        refine wk ?_
        have hj2 : ∀ (cs2 : List UInt8) (bv : Value) (h : GH), cs2 = cs ++ itoaB p.attempts ++ thsB p.threads i ++ [124] ++ txsB ts j ++ (if 0 < j then [59] else []) →
            All (pts b (bdRow (ptr b) bv) :: byP bv cs2 :: pts tb (.row 69 [w2] 1 true) :: R) h →
            S34_j2 (tup [ptr b, v, i64 p.threads.length, i64 i]) (tup [ptr b, v, i64 p.threads.length, i64 i, w, i64 ts.length, i64 j]) (ptr b) (ptr tb) v (i64 p.threads.length) (i64 i) w (i64 ts.length) (i64 j) h K X X2 := by
          intro cs2 bv h hcs2 hp
          have hc2 : cs2.length ≤ 50000 := by
            have e1 : (if 0 < j then [59] else ([] : List UInt8)).length ≤ 1 := by split <;> simp
            rw [hcs2]
            simp only [List.length_append, List.length_cons, List.length_nil]
            omega
          unfold S34_j2
          refine wk ?_
          have hln2 := rw2.len
          have hmx2 := rw2.max
          rw [List.length_map] at hln2 hmx2
          refine bnd_of hln2 ?_
          replace hp : All (pts b (bdRow (ptr b) bv) :: byP bv cs2 :: R) h := by
            replace hp := hp.re 3 [0, 1]
            replace hp := hn hp
            exact hp
          refine Lfp_fam (ι := Nat) (fun k => [ptr b, v, i64 p.threads.length, i64 i, w, i64 ts.length, i64 j, w2, i64 t.length, i64 k]) (fun k h' => k ≤ t.length ∧ ∃ bv', All (pts b (bdRow (ptr b) bv') :: byP bv' (cs2 ++ opsB t k) :: R) h')
            (fun k => t.length - k) ?_ 0 h ⟨Nat.zero_le _, bv, by simpa [opsB] using hp⟩
          intro k h9 X3 ⟨hk, bv7, hp⟩ again3
          have hok := opsB_len t k
          simp only [tup_zero, tup_succ]
          refine wk ?_
          refine ifV_cases (fun hlt3 => ?_) (fun hge3 => ?_)
          · have hlt3 : k < t.length := by omega
            obtain ⟨o, hoo⟩ : ∃ o, t[k]? = some o := ⟨_, List.getElem?_eq_getElem hlt3⟩
            have hom := List.mem_of_getElem? hoo
            have hol := ((hall ts htsm).2 t htm).2 o hom
            unfold Op.lit at hol
            simp only [Bool.and_eq_true, decide_eq_true_eq] at hol
            have hg9 : HLe g h9 := hg _ hp.tail.tail
            obtain ⟨b3, o3, e3, f3, g3⟩ := (rw2.le hg9).fld (i := k) (c := o.enc) (by simp [hoo]) .i64
            have hgd : t.getD k ⟨0, 0, 0, 0⟩ = o := by rw [List.getD_eq_getElem?_getD, hoo]; rfl
            refine bnd_of e3 ?_
            refine bnd_of g3 ?_
            refine nwst hp (.row 126 o.enc 4 true) rfl rfl rfl rfl fun ob h10 hp => ?_
            replace hp := hp.re 3 [1, 2, 0]
            replace hp := hn hp
            refine wk ?_
            refine ifV_cases (fun hpos => ?_) (fun hz => ?_)
            · have hpos : 0 < k := by omega
              refine T_WriteRune (c := 43) hp (.inr rfl) (by decide) (by simp only [List.length_append]; omega) fun v8 bv8 h11 hp => ?_
              refine bnd_of (v := .agg o.enc.toArray) (by rw [ldV_agg (hp.pt (i := 2) rfl) _ _ (Nat.le_refl 4)]; rfl) ?_
              refine T_shown hp (.inr rfl) (by simp only [List.length_append, List.length_cons, List.length_nil]; omega) hol.1 hol.2.1 hol.2.2 fun bv9 h12 hp => ?_
              refine wk ?_
              refine again3 (k + 1) _ ⟨hlt3, bv9, ?_⟩ (by omega)
              replace hp := hp.re 3 [0, 1]
              replace hp := hn hp
              simp only [opsB, hpos, if_true, hgd]
              simpa using hp
            · have hz : k = 0 := by omega
              refine bnd_of (v := .agg o.enc.toArray) (by rw [ldV_agg (hp.pt (i := 2) rfl) _ _ (Nat.le_refl 4)]; rfl) ?_
              refine T_shown hp (.inr rfl) (by simp only [List.length_append]; omega) hol.1 hol.2.1 hol.2.2 fun bv9 h12 hp => ?_
              refine wk ?_
              refine again3 (k + 1) _ ⟨hlt3, bv9, ?_⟩ (by omega)
              replace hp := hp.re 3 [0, 1]
              replace hp := hn hp
              subst hz
              simp only [opsB, Nat.lt_irrefl, if_false, hgd] at hp ⊢
              simpa using hp
          · have hk' : k = t.length := by omega
            refine wk ?_
            refine again2 (j + 1) _ ⟨hlt2, bv7, ?_⟩ (by omega)
            have hgd : ts.getD j [] = t := by rw [List.getD_eq_getElem?_getD, htt]; rfl
            simp only [txsB, hgd]
            subst hk'
            rw [hcs2] at hp
            simpa using hp
        replace hp := hp.re 3 [1, 2, 0]
        replace hp := hn hp
        refine ifV_cases (fun hpos => ?_) (fun hz => ?_)
        · refine T_WriteRune (c := 59) hp (.inr rfl) (by decide) (by simp only [List.length_append, List.length_cons, List.length_nil]; omega) fun v8 bv8 h11 hp => ?_
          refine hj2 _ bv8 _ ?_ hp
          rw [if_pos (by omega)]; rfl
        · refine hj2 _ bv6 _ ?_ hp
          rw [if_neg (by omega), List.append_nil]
      · have hj' : j = ts.length := by omega
        refine wk ?_
        refine again (i + 1) _ ⟨hlt, bv6, ?_⟩ (by omega)
        have hgd : p.threads.getD i [] = ts := by rw [List.getD_eq_getElem?_getD, hts]; rfl
        simp only [thsB, hgd]
        subst hj'
        simpa using hp
    · have hi' : i = p.threads.length := by omega
      subst hi'
      refine T_bdString hp (by rw [hcs]; simp) fun h6 hp => ?_
      have := hK _ hp.tail
      unfold showB at this
      rw [hcs]; exact this
  cases hpol : p.polite with
  | true =>
    refine wk ?_
    refine T_WriteRune (c := 112) hp (.inl rfl) (by decide) (by simp) fun v3 bv3 h4 hp => ?_
    exact hj1 _ bv3 _ (by rw [hpol]; rfl) hp
  | false =>
    refine wk ?_
    refine T_WriteRune (c := 97) hp (.inl rfl) (by decide) (by simp) fun v3 bv3 h4 hp => ?_
    exact hj1 _ bv3 _ (by rw [hpol]; rfl) hp
end
end Go.Proofs.YtcpfkkppfgolaaaGreatDoor
namespace Go.Proofs.YtcpfkkppfgolaaaGreatDoor
open Go GW Go.Proofs
set_option maxRecDepth 20000
section
variable {r : Nat} {R : List Part} {h : GH} {K : Value → GH → Prop} {tv op nv : Value} {att rd : Int} {pol : Bool}
def lettersV : Value := .string ⟨#[111, 99, 100, 119, 116, 115, 105, 101, 102, 109, 114]⟩
def idxOK (c k : Int) : Prop := ∀ w, (Extern.BytealgIndexByte.indexByte [lettersV, .int .u8 c].toArray).run Tryz.prog w = .ok (i64 k) w
theorem T_IndexByte {c k : Int} (e : idxOK c k) (hK : K (i64 k) h) : T Tryz.prog 59 [lettersV, .int .u8 c] h K := by
  apply S59_T
  unfold S59
  apply S89_T
  unfold S89
  exact ⟨i64 k, ⟨Tryz.f107, Extern.BytealgIndexByte.indexByte, by kernel_rfl, by kernel_rfl, by kernel_rfl, by kernel_rfl, by kernel_rfl, e⟩, hK⟩
theorem idx_48 : idxOK 48 (-1) := fun w => rfl
theorem idx_49 : idxOK 49 (-1) := fun w => rfl
theorem idx_50 : idxOK 50 (-1) := fun w => rfl
theorem idx_51 : idxOK 51 (-1) := fun w => rfl
theorem idx_53 : idxOK 53 (-1) := fun w => rfl
theorem idx_44 : idxOK 44 (-1) := fun w => rfl
theorem idx_124 : idxOK 124 (-1) := fun w => rfl
theorem idx_59 : idxOK 59 (-1) := fun w => rfl
theorem idx_43 : idxOK 43 (-1) := fun w => rfl
theorem idx_111 : idxOK 111 0 := fun w => rfl
theorem idx_116 : idxOK 116 4 := fun w => rfl
theorem idx_115 : idxOK 115 5 := fun w => rfl
theorem idx_105 : idxOK 105 6 := fun w => rfl
abbrev rn (c : Int) : Value := .int .i32 c
theorem eq_rn (a b : Int) : eqI (rn a) (rn b) = some (decide (a = b)) := rfl
theorem ge_rn (a b : Int) : binV .geq (rn a) (rn b) = some (.bool (decide (b ≤ a))) := by simp only [binV, intB]; rfl
theorem T_takeD {n x last : Int} {ns : List (List Value)} (hx : x = 0 ∨ x = 1 ∨ x = 2 ∨ x = 3 ∨ x = 5) (hp : All (pts r (prRow tv att pol op nv rd false) :: rowP 1 nv (ns ++ [[i64 n]]) :: R) h) (n0 : 0 ≤ n) (n1 : n ≤ 10000000) (r0 : 0 ≤ rd) (r1 : rd < 8)
    (hK : ∀ h', All (pts r (prRow tv att pol op nv (rd + 1) false) :: rowP 1 nv (ns ++ [[i64 (10 * n + x)]]) :: R) h' → K (.tuple #[]) h') : T Tryz.prog 32 [ptr r, rn last, rn (48 + x)] h K := by
  apply S32_T
  unfold S32
  obtain rfl | rfl | rfl | rfl | rfl := hx
  all_goals refine bnd_of rfl ?_
  · refine T_IndexByte idx_48 ?_
    refine bnd_of rfl (ifV_t rfl (bnd_of rfl ?_))
    unfold S32_j1
    refine ifV_t rfl (bnd_of rfl (bnd_of rfl ?_))
    exact T_digit hp n0 n1 (by decide) (by decide) r0 r1 hK
  · refine T_IndexByte idx_49 ?_
    refine bnd_of rfl (ifV_t rfl (bnd_of rfl ?_))
    unfold S32_j1
    refine ifV_t rfl (bnd_of rfl (bnd_of rfl ?_))
    exact T_digit hp n0 n1 (by decide) (by decide) r0 r1 hK
  · refine T_IndexByte idx_50 ?_
    refine bnd_of rfl (ifV_t rfl (bnd_of rfl ?_))
    unfold S32_j1
    refine ifV_t rfl (bnd_of rfl (bnd_of rfl ?_))
    exact T_digit hp n0 n1 (by decide) (by decide) r0 r1 hK
  · refine T_IndexByte idx_51 ?_
    refine bnd_of rfl (ifV_t rfl (bnd_of rfl ?_))
    unfold S32_j1
    refine ifV_t rfl (bnd_of rfl (bnd_of rfl ?_))
    exact T_digit hp n0 n1 (by decide) (by decide) r0 r1 hK
  · refine T_IndexByte idx_53 ?_
    refine bnd_of rfl (ifV_t rfl (bnd_of rfl ?_))
    unfold S32_j1
    refine ifV_t rfl (bnd_of rfl (bnd_of rfl ?_))
    exact T_digit hp n0 n1 (by decide) (by decide) r0 r1 hK
theorem take_bar {last : Int} (hlast : last ≠ 124) (hc : T Tryz.prog 33 [ptr r] h fun _ h' => S32_j3 (ptr r) (rn 124) h' K) : T Tryz.prog 32 [ptr r, rn last, rn 124] h K := by
  apply S32_T
  unfold S32
  refine bnd_of rfl ?_
  refine T_IndexByte idx_124 ?_
  refine bnd_of rfl (ifV_t rfl (bnd_of rfl ?_))
  unfold S32_j1
  refine ifV_f rfl (bnd_of rfl (ifV_f rfl (bnd_of rfl (ifV_t rfl ?_))))
  unfold S32_j2
  refine ifV_t rfl (bnd_of (v := decide (last = 124)) rfl ?_)
  rw [decide_eq_false hlast]
  exact ifV_t rfl hc
theorem take_semi {last : Int} (hlast : last ≠ 124) (hc : T Tryz.prog 33 [ptr r] h fun _ h' => K (.tuple #[]) h') : T Tryz.prog 32 [ptr r, rn last, rn 59] h K := by
  apply S32_T
  unfold S32
  refine bnd_of rfl ?_
  refine T_IndexByte idx_59 ?_
  refine bnd_of rfl (ifV_t rfl (bnd_of rfl ?_))
  unfold S32_j1
  refine ifV_f rfl (bnd_of rfl (ifV_f rfl (bnd_of rfl (ifV_f rfl (bnd_of rfl (ifV_t rfl ?_))))))
  unfold S32_j2
  refine ifV_t rfl (bnd_of (v := decide (last = 124)) rfl ?_)
  rw [decide_eq_false hlast]
  refine ifV_t rfl (hc.mono fun _ h' k => ?_)
  unfold S32_j3
  exact bnd_of rfl (ifV_f rfl k)
theorem take_plus {last : Int} (hlast : last ≠ 124) (hc : T Tryz.prog 33 [ptr r] h fun _ h' => K (.tuple #[]) h') : T Tryz.prog 32 [ptr r, rn last, rn 43] h K := by
  apply S32_T
  unfold S32
  refine bnd_of rfl ?_
  refine T_IndexByte idx_43 ?_
  refine bnd_of rfl (ifV_f rfl ?_)
  unfold S32_j1
  refine ifV_f rfl (bnd_of rfl (ifV_f rfl (bnd_of rfl (ifV_f rfl (bnd_of rfl (ifV_f rfl (bnd_of rfl ?_)))))))
  unfold S32_j2
  refine ifV_t rfl (bnd_of (v := decide (last = 124)) rfl ?_)
  rw [decide_eq_false hlast]
  refine ifV_t rfl (hc.mono fun _ h' k => ?_)
  unfold S32_j3
  exact bnd_of rfl (ifV_f rfl k)
theorem take_letter {last c k : Int} (hc : (c = 111 ∧ k = 0) ∨ (c = 116 ∧ k = 4) ∨ (c = 115 ∧ k = 5) ∨ (c = 105 ∧ k = 6)) (hlast : last = 124 ∨ last = 59 ∨ last = 43)
    (hb : T Tryz.prog 61 [ptr r, i64 k, .bool (!decide (last = 43))] h fun _ h' => K (.tuple #[]) h') : T Tryz.prog 32 [ptr r, rn last, rn c] h K := by
  apply S32_T
  unfold S32
  have hj : ∀ _ : Bool, S32_j4 (ptr r) (rn last) (i64 k) (.bool false) h K := fun _ => by
    unfold S32_j4
    refine ifV_f rfl (bnd_of (v := decide (last = 43)) rfl ?_)
    exact hb
  have hj2 : S32_j2 (ptr r) (rn last) (rn c) (i64 k) (.bool false) h K := by
    unfold S32_j2
    obtain ⟨rfl, rfl⟩ | ⟨rfl, rfl⟩ | ⟨rfl, rfl⟩ | ⟨rfl, rfl⟩ := hc <;> obtain rfl | rfl | rfl := hlast
    all_goals
      refine ifV_f rfl (bnd_of rfl (ifV_f rfl (bnd_of rfl (ifV_f rfl (bnd_of rfl ?_)))))
      first
        | exact ifV_f rfl (hj true)
        | exact ifV_t rfl (bnd_of rfl (ifV_f rfl (hj true)))
        | exact ifV_t rfl (bnd_of rfl (ifV_t rfl (bnd_of rfl (hj true))))
  obtain ⟨rfl, rfl⟩ | ⟨rfl, rfl⟩ | ⟨rfl, rfl⟩ | ⟨rfl, rfl⟩ := hc
  all_goals
    refine bnd_of rfl ?_
    first | refine T_IndexByte idx_111 ?_ | refine T_IndexByte idx_116 ?_ | refine T_IndexByte idx_115 ?_ | refine T_IndexByte idx_105 ?_
    refine bnd_of rfl (ifV_t rfl (bnd_of rfl ?_))
    unfold S32_j1
    exact ifV_f rfl (bnd_of rfl (ifV_f rfl (bnd_of rfl (ifV_f rfl (bnd_of rfl (ifV_f rfl (bnd_of rfl hj2)))))))
end
attribute [local irreducible] bnd ldV stV ifV binV eqI
section
variable {r : Nat} {R : List Part} {h : GH} {K : Value → GH → Prop} {tv op nv : Value} {att rd : Int} {pol : Bool}
theorem T_takeC {last : Int} {ns : List (List Value)} (hp : All (pts r (prRow tv att pol op nv rd false) :: rowP 1 nv ns :: R) h) (hl : ns.length ≤ 100)
    (hK : ∀ nv' h', All (pts r (prRow tv att pol op nv' 0 false) :: rowP 1 nv' (ns ++ [[i64 0]]) :: R) h' → K (.tuple #[]) h') : T Tryz.prog 32 [ptr r, rn last, rn 44] h K := by
  apply S32_T
  unfold S32
  refine bnd_of rfl ?_
  refine T_IndexByte idx_44 ?_
  refine bnd_of (ge_rn _ _) (ifV_f rfl ?_)
  unfold S32_j1
  refine ifV_f rfl (bnd_of (eq_rn _ _) (ifV_t rfl ?_))
  unfold prRow at hp
  refine wk ?_
  refine bs0 (size := 1) hp [[i64 0]] rfl rfl (by simp) (by intro c hc; simp at hc; subst hc; exact ⟨rfl, rfl⟩) fun v1 h1 hp => ?_
  replace hp := hp.up 2
  replace hp := hn hp
  refine ap0 hp (hp.up 1).rows (by intro c hc; simp at hc; subst hc; exact ⟨rfl, rfl⟩) (by decide) (by simp; omega) fun nv' h2 hp => ?_
  replace hp := hp.re 3 [2, 0]
  replace hp := hn hp
  have ho := (hp.up 1).row.one
  refine wk ?_
  refine st0 hp (prRow tv att pol op nv' rd false) (by rw [ho.2.1]; rfl) (by simp) (by rw [ho.2.1]; simp [ho.1]) (by rw [ho.2.1]; rfl) fun h4 hp => ?_
  unfold prRow at hp
  refine wk ?_
  refine st0 hp (prRow tv att pol op nv' 0 false) rfl (by simp) rfl rfl fun h4 hp => ?_
  exact hK _ _ hp
theorem take_j3 {ths : List (List Value)} (hp : All (pts r (prRow tv att pol op nv rd false) :: rowP 1 tv ths :: R) h) (hl : ths.length ≤ 100)
    (hK : ∀ tv' h', All (pts r (prRow tv' att pol op nv rd false) :: rowP 1 tv' (ths ++ [[.slice none 0 0]]) :: R) h' → K (.tuple #[]) h') : S32_j3 (ptr r) (rn 124) h K := by
  unfold S32_j3
  refine bnd_of (eq_rn _ _) (ifV_t rfl ?_)
  unfold prRow at hp
  refine wk ?_
  refine bs0 (size := 1) hp [[.slice none 0 0]] rfl rfl (by simp) (by intro c hc; simp at hc; subst hc; exact ⟨rfl, rfl⟩) fun v1 h1 hp => ?_
  replace hp := hp.up 2
  replace hp := hn hp
  refine ap0 hp (hp.up 1).rows (by intro c hc; simp at hc; subst hc; exact ⟨rfl, rfl⟩) (by decide) (by simp; omega) fun tv' h2 hp => ?_
  replace hp := hp.re 3 [2, 0]
  replace hp := hn hp
  have ho := (hp.up 1).row.one
  refine wk ?_
  refine st0 hp (prRow tv' att pol op nv rd false) (by rw [ho.2.1]; rfl) (by simp) (by rw [ho.2.1]; simp [ho.1]) (by rw [ho.2.1]; rfl) fun h4 hp => ?_
  exact hK _ _ hp
end
end Go.Proofs.YtcpfkkppfgolaaaGreatDoor
namespace Go.Proofs.YtcpfkkppfgolaaaGreatDoor
open Go GW Go.Proofs
set_option maxRecDepth 20000
def litB : ByteArray := ⟨#[97, 51, 124, 111, 48, 44, 53, 48, 59, 116, 48, 44, 49, 44, 50, 48, 43, 115, 124, 105, 50, 44, 49]⟩
def litP : Plan := ⟨[[[⟨0, 0, 0, 50⟩], [⟨4, 0, 1, 20⟩, ⟨5, 0, 0, 0⟩]], [[⟨6, 2, 0, 1⟩]]], 3, false⟩
theorem litP_may : litP.may = true := by decide
theorem litP_lit : litP.lit = true := by decide
theorem litP_show : eqS (.string ⟨(showB litP).toArray⟩) (.string litB) = some true := by kernel_rfl
section
variable {h : GH} {K : Value → GH → Prop} {R : List Part}
theorem rgV_new {s : ByteArray} {K : Value → GH → Prop} (hp : All R h) (k : ∀ b h', All (pts b (.obj (.stringIter s 0)) :: R) h' → K (ptr b) h') : rgV (.string s) h K := fun b hb => k b _ (hp.new hb)
theorem T_ParseLit (hp : All R h) (hK : ∀ v g h', threadsAt g v litP.threads → All (baseP g :: R) h' → K (.tuple #[.agg (planC v litP).toArray, i64 0]) h') : T Tryz.prog 14 [.string litB] h K := by
  apply S14_T
  unfold S14
  refine nw hp (.row 24 [.slice none 0 0, i64 0, .bool false] 3 true) rfl fun pb h1 hp => ?_
  refine bnd_of (v := i64 23) rfl ?_
  refine bnd_of (v := .bool false) rfl ?_
  refine bnd_of rfl ?_
  refine nw hp (prRow (.slice none 0 0) 0 false (.pointer none) (.slice none 0 0) 0 false) rfl fun r h2 hp => ?_
  refine rgV_new hp fun ib h3 hp => ?_
  intro X hX
  have hend : ∀ {last : Int} {N : Part} {R' : List Part} {tv op nv : Value} {att rd : Int} {pol : Bool} {h : GH}, All (pts r (prRow tv att pol op nv rd false) :: N :: pts ib (.obj (.stringIter litB 23)) :: R') h →
      last ≠ 124 → (T Tryz.prog 33 [ptr r] h fun _ h' => S14_j2 (tup [.string litB, ptr pb, ptr r, rn last, ptr ib]) (.string litB) (ptr pb) (ptr r) h' K X) →
      X (tup [.string litB, ptr pb, ptr r, rn last, ptr ib]) h := by
    intro last N R' tv op nv att rd pol h hp hlast k
    refine hX _ _ ?_
    simp only [tup_zero, tup_succ]
    have hib : h ib = some (.obj (.stringIter litB 23)) := hp.pt (i := 2) rfl
    refine bnd_of (v := (.tuple #[.bool false], h)) (by simp only [nxV, hib]; rfl) ?_
    refine bnd_of rfl ?_
    refine ifV_f rfl ?_
    unfold S14_j1
    refine bnd_of rfl (bnd_of rfl (bnd_of (v := .bool false) (by rw [ldV_cell hp.pt0]; rfl) (bnd_of rfl ?_)))
    refine ifV_t rfl (bnd_of (eq_rn _ _) ?_)
    rw [decide_eq_false hlast]
    exact ifV_t rfl k
  have step : ∀ (pos : Nat) {last c : Int} {N : Part} {R' : List Part} {tv op nv : Value} {att rd : Int} {pol : Bool} {h : GH}, All (pts r (prRow tv att pol op nv rd false) :: N :: pts ib (.obj (.stringIter litB pos)) :: R') h →
      (0 < pos ∧ decide (pos < litB.size) = true ∧ (Utf8.decode litB pos).2 = 1 ∧ ((Utf8.decode litB pos).1 : Int) = c) →
      (∀ h', All (pts r (prRow tv att pol op nv rd false) :: N :: pts ib (.obj (.stringIter litB (pos + 1))) :: R') h' →
        T Tryz.prog 32 [ptr r, rn last, rn c] h' fun _ h'' => X (tup [.string litB, ptr pb, ptr r, rn c, ptr ib]) h'') →
      X (tup [.string litB, ptr pb, ptr r, rn last, ptr ib]) h := by
    intro pos last c N R' tv op nv att rd pol h hp ⟨hpos, hlt, hw, hc⟩ k
    refine hX _ _ ?_
    simp only [tup_zero, tup_succ]
    have hib : h ib = some (.obj (.stringIter litB pos)) := hp.pt (i := 2) rfl
    refine bnd_of (v := (.tuple #[.bool true, .int .i64 pos, rn c], upd h ib (.obj (.stringIter litB (pos + 1))))) (by simp only [nxV, hib, hlt, hw, hc]) ?_
    refine bnd_of rfl (ifV_t rfl (bnd_of rfl (bnd_of rfl ?_)))
    have hp2 : All (pts r (prRow tv att pol op nv rd false) :: N :: pts ib (.obj (.stringIter litB (pos + 1))) :: R') (upd h ib (.obj (.stringIter litB (pos + 1)))) := hp.upd2
    refine bnd_of rfl (bnd_of rfl (bnd_of (v := .bool false) (by show ldV _ _ _ (upd h ib _) = _; rw [ldV_cell hp2.pt0]; rfl) ?_))
    refine ifV_f rfl (bnd_of (v := decide ((pos : Int) = 0)) rfl ?_)
    rw [decide_eq_false (by omega)]
    exact ifV_f rfl (k _ hp2)
  -- a
  have hib : h3 ib = some (.obj (.stringIter litB 0)) := hp.pt0
  refine hX _ _ ?_
  simp only [tup_zero, tup_succ]
  refine bnd_of (v := (.tuple #[.bool true, .int .i64 0, rn 97], upd h3 ib (.obj (.stringIter litB 1)))) (by simp only [nxV, hib]; rfl) ?_
  refine bnd_of rfl (ifV_t rfl (bnd_of rfl (bnd_of rfl ?_)))
  replace hp : All (pts ib (.obj (.stringIter litB 1)) :: pts r (prRow (.slice none 0 0) 0 false (.pointer none) (.slice none 0 0) 0 false) :: pts pb (.row 24 [.slice none 0 0, i64 0, .bool false] 3 true) :: R) (upd h3 ib (.obj (.stringIter litB 1))) := hp.upd0
  generalize hh4 : upd h3 ib (.obj (.stringIter litB 1)) = h4 at hp
  refine bnd_of rfl (bnd_of rfl (bnd_of (v := .bool false) (by show ldV _ _ _ h4 = _; rw [ldV_cell hp.pt1]; rfl) ?_))
  refine ifV_f rfl (bnd_of (v := true) rfl (ifV_t rfl (bnd_of (v := false) rfl ?_)))
  show bsV _ _ _ _ h4 _
  refine bs0 (size := 1) hp [[i64 0]] rfl rfl (by simp) (by intro c hc; simp at hc; subst hc; exact ⟨rfl, rfl⟩) fun nv h5 hp => ?_
  replace hp := hp.re 4 [2, 0, 1, 3]
  replace hp := hn hp
  have ho := (hp.up 1).row.one
  refine bnd_of rfl (bnd_of rfl (bnd_of rfl ?_))
  refine st0 hp (prRow (.slice none 0 0) 0 false (.pointer none) (.slice none 0 0) 0 false) rfl (by simp) rfl rfl fun h6 hp => ?_
  refine bnd_of rfl (bnd_of rfl ?_)
  refine st0 hp (prRow (.slice none 0 0) 0 false (.pointer none) nv 0 false) (by rw [ho.2.1]; rfl) (by simp) (by rw [ho.2.1]; simp [ho.1]) (by rw [ho.2.1]; rfl) fun h7 hp => ?_
  replace hp := hp.re 4 [0, 1, 2, 3]
  replace hp := hn hp
  -- '3'
  refine step 1 (last := 97) (c := 51) hp ⟨by decide, by decide, by decide +kernel, by decide +kernel⟩ fun h8 hp => ?_
  refine T_takeD (last := 97) (x := 3) (n := 0) (ns := []) (by decide) hp (by decide) (by decide) (by decide) (by decide) fun h9 hp => ?_
  rw [show (10 * (0 : Int) + 3) = 3 from rfl] at hp
  -- '|'
  refine step 2 (last := 51) (c := 124) hp ⟨by decide, by decide, by decide +kernel, by decide +kernel⟩ fun h10 hp => ?_
  refine take_bar (by decide) (T_closedA (n := 3) hp fun h11 hp => ?_)
  replace hp := (hp.emp_cons (rowP_nil 1 _)).dn 1
  replace hp := hn hp
  refine take_j3 hp (by simp) fun tv h12 hp => ?_
  replace hp := (hp.emp_cons (P := emp) trivial).dn 1
  replace hp := hn hp
  replace hp := hp.re 4 [0, 1, 3, 2]
  replace hp := hn hp
  -- 'o'
  refine step 3 (last := 124) (c := 111) hp ⟨by decide, by decide, by decide +kernel, by decide +kernel⟩ fun h13 hp => ?_
  replace hp := hp.re 2 [0]
  replace hp := hn hp
  replace hp := (hp.emp_cons (rowP_nil 1 _)).dn 1
  replace hp := hn hp
  replace hp := hp.re 4 [0, 3, 1, 2]
  replace hp := hn hp
  refine take_letter (k := 0) (by decide) (by decide) ?_
  refine T_beginN (ths := []) (txs := []) (by decide) (by decide) (by simp) hp fun t0 o0 bo nv h15 eo hp => ?_
  replace hp := hp.re 6 [0, 1, 5, 2, 3, 4]
  replace hp := hn hp
  simp only [show partsOf 0 = [1, 3] from rfl, show partsOf 4 = [1, 2, 3] from rfl, show partsOf 5 = [] from rfl, show partsOf 6 = [1, 3] from rfl, reduceIte, reduceCtorEq, List.nil_append, List.cons_append] at hp
  -- '0'
  refine step 4 (last := 111) (c := 48) hp ⟨by decide, by decide, by decide +kernel, by decide +kernel⟩ fun h16 hp => ?_
  refine T_takeD (last := 111) (x := 0) (n := 0) (ns := []) (by decide) hp (by decide) (by decide) (by decide) (by decide) fun h17 hp => ?_
  rw [show (10 * (0 : Int) + 0) = 0 from rfl] at hp
  -- ','
  refine step 5 (last := 48) (c := 44) hp ⟨by decide, by decide, by decide +kernel, by decide +kernel⟩ fun h18 hp => ?_
  refine T_takeC hp (by simp) fun nv h19 hp => ?_
  simp only [List.nil_append, List.cons_append] at hp
  -- '5'
  refine step 6 (last := 44) (c := 53) hp ⟨by decide, by decide, by decide +kernel, by decide +kernel⟩ fun h20 hp => ?_
  refine T_takeD (last := 44) (x := 5) (n := 0) (ns := [[i64 0]]) (by decide) hp (by decide) (by decide) (by decide) (by decide) fun h21 hp => ?_
  rw [show (10 * (0 : Int) + 5) = 5 from rfl] at hp
  -- '0'
  refine step 7 (last := 53) (c := 48) hp ⟨by decide, by decide, by decide +kernel, by decide +kernel⟩ fun h22 hp => ?_
  refine T_takeD (last := 53) (x := 0) (n := 5) (ns := [[i64 0]]) (by decide) hp (by decide) (by decide) (by decide) (by decide) fun h23 hp => ?_
  rw [show (10 * (5 : Int) + 0) = 50 from rfl] at hp
  -- ';'
  refine step 8 (last := 48) (c := 59) hp ⟨by decide, by decide, by decide +kernel, by decide +kernel⟩ fun h24 hp => ?_
  replace hp := hp.re 6 [0, 1, 5, 2, 3, 4]
  replace hp := hn hp
  refine take_semi (by decide) (T_closedO (k := 0) (xs := [0, 50]) (os := []) (c := newOp 0) (ov := o0) (b := bo) (by decide) (by decide) rfl rfl rfl eo hp fun h25 hp => ?_)
  rw [show setN (newOp 0) (partsOf 0) [0, 50] = (⟨0, 0, 0, 50⟩ : Op).enc from rfl] at hp
  replace hp := (hp.emp_cons (P := emp) trivial).dn 1
  replace hp := hn hp
  replace hp := hp.re 4 [0, 1, 3, 2]
  replace hp := hn hp
  -- 't'
  refine step 9 (last := 59) (c := 116) hp ⟨by decide, by decide, by decide +kernel, by decide +kernel⟩ fun h26 hp => ?_
  replace hp := hp.re 2 [0]
  replace hp := hn hp
  replace hp := hp.re 5 [0, 3, 4, 1, 2]
  replace hp := hn hp
  refine take_letter (k := 4) (by decide) (by decide) ?_
  refine T_beginN (ths := []) (txs := [[o0]]) (by decide) (by decide) (by simp) hp fun t0 o1 bo nv h28 eo hp => ?_
  replace hp := hp.re 6 [0, 1, 5, 2, 3, 4]
  replace hp := hn hp
  simp only [show partsOf 0 = [1, 3] from rfl, show partsOf 4 = [1, 2, 3] from rfl, show partsOf 5 = [] from rfl, show partsOf 6 = [1, 3] from rfl, reduceIte, reduceCtorEq, List.nil_append, List.cons_append] at hp
  -- '0'
  refine step 10 (last := 116) (c := 48) hp ⟨by decide, by decide, by decide +kernel, by decide +kernel⟩ fun h29 hp => ?_
  refine T_takeD (last := 116) (x := 0) (n := 0) (ns := []) (by decide) hp (by decide) (by decide) (by decide) (by decide) fun h30 hp => ?_
  rw [show (10 * (0 : Int) + 0) = 0 from rfl] at hp
  -- ','
  refine step 11 (last := 48) (c := 44) hp ⟨by decide, by decide, by decide +kernel, by decide +kernel⟩ fun h31 hp => ?_
  refine T_takeC hp (by simp) fun nv h32 hp => ?_
  simp only [List.nil_append, List.cons_append] at hp
  -- '1'
  refine step 12 (last := 44) (c := 49) hp ⟨by decide, by decide, by decide +kernel, by decide +kernel⟩ fun h33 hp => ?_
  refine T_takeD (last := 44) (x := 1) (n := 0) (ns := [[i64 0]]) (by decide) hp (by decide) (by decide) (by decide) (by decide) fun h34 hp => ?_
  rw [show (10 * (0 : Int) + 1) = 1 from rfl] at hp
  -- ','
  refine step 13 (last := 49) (c := 44) hp ⟨by decide, by decide, by decide +kernel, by decide +kernel⟩ fun h35 hp => ?_
  refine T_takeC hp (by simp) fun nv h36 hp => ?_
  simp only [List.nil_append, List.cons_append] at hp
  -- '2'
  refine step 14 (last := 44) (c := 50) hp ⟨by decide, by decide, by decide +kernel, by decide +kernel⟩ fun h37 hp => ?_
  refine T_takeD (last := 44) (x := 2) (n := 0) (ns := [[i64 0], [i64 1]]) (by decide) hp (by decide) (by decide) (by decide) (by decide) fun h38 hp => ?_
  rw [show (10 * (0 : Int) + 2) = 2 from rfl] at hp
  -- '0'
  refine step 15 (last := 50) (c := 48) hp ⟨by decide, by decide, by decide +kernel, by decide +kernel⟩ fun h39 hp => ?_
  refine T_takeD (last := 50) (x := 0) (n := 2) (ns := [[i64 0], [i64 1]]) (by decide) hp (by decide) (by decide) (by decide) (by decide) fun h40 hp => ?_
  rw [show (10 * (2 : Int) + 0) = 20 from rfl] at hp
  -- '+'
  refine step 16 (last := 48) (c := 43) hp ⟨by decide, by decide, by decide +kernel, by decide +kernel⟩ fun h41 hp => ?_
  replace hp := hp.re 6 [0, 1, 5, 2, 3, 4]
  replace hp := hn hp
  refine take_plus (by decide) (T_closedO (k := 4) (xs := [0, 1, 20]) (os := []) (c := newOp 4) (ov := o1) (b := bo) (by decide) (by decide) rfl rfl rfl eo hp fun h42 hp => ?_)
  rw [show setN (newOp 4) (partsOf 4) [0, 1, 20] = (⟨4, 0, 1, 20⟩ : Op).enc from rfl] at hp
  replace hp := (hp.emp_cons (P := emp) trivial).dn 1
  replace hp := hn hp
  replace hp := hp.re 4 [0, 1, 3, 2]
  replace hp := hn hp
  -- 's'
  refine step 17 (last := 43) (c := 115) hp ⟨by decide, by decide, by decide +kernel, by decide +kernel⟩ fun h43 hp => ?_
  replace hp := hp.re 2 [0]
  replace hp := hn hp
  replace hp := hp.re 5 [0, 3, 4, 2, 1]
  replace hp := hn hp
  refine take_letter (k := 5) (by decide) (by decide) ?_
  refine T_beginM (ths := []) (txs := [[o0]]) (os := [(⟨4, 0, 1, 20⟩ : Op).enc]) (by decide) (by decide) (by simp) hp fun o1 bo nv h45 eo hp => ?_
  replace hp := hp.re 6 [0, 1, 5, 2, 3, 4]
  replace hp := hn hp
  simp only [show partsOf 0 = [1, 3] from rfl, show partsOf 4 = [1, 2, 3] from rfl, show partsOf 5 = [] from rfl, show partsOf 6 = [1, 3] from rfl, reduceIte, reduceCtorEq, List.nil_append, List.cons_append] at hp
  -- '|'
  refine step 18 (last := 115) (c := 124) hp ⟨by decide, by decide, by decide +kernel, by decide +kernel⟩ fun h46 hp => ?_
  replace hp := hp.re 6 [0, 1, 5, 2, 3, 4]
  replace hp := hn hp
  refine take_bar (by decide) (T_closedO (k := 5) (xs := []) (os := [(⟨4, 0, 1, 20⟩ : Op).enc]) (c := newOp 5) (ov := o1) (b := bo) (by decide) (by decide) rfl rfl rfl eo hp fun h47 hp => ?_)
  rw [show setN (newOp 5) (partsOf 5) [] = (⟨5, 0, 0, 0⟩ : Op).enc from rfl] at hp
  replace hp := hp.re 4 [0, 3, 1, 2]
  replace hp := hn hp
  refine take_j3 hp (by simp) fun tv h48 hp => ?_
  simp only [List.nil_append, List.cons_append] at hp
  replace hp := (hp.emp_cons (P := emp) trivial).dn 1
  replace hp := hn hp
  replace hp := hp.re 5 [0, 1, 4, 2, 3]
  replace hp := hn hp
  -- 'i'
  refine step 19 (last := 124) (c := 105) hp ⟨by decide, by decide, by decide +kernel, by decide +kernel⟩ fun h49 hp => ?_
  replace hp := hp.re 2 [0]
  replace hp := hn hp
  replace hp := (hp.emp_cons (rowP_nil 1 _)).dn 1
  replace hp := hn hp
  replace hp := hp.re 4 [0, 3, 1, 2]
  replace hp := hn hp
  refine take_letter (k := 6) (by decide) (by decide) ?_
  refine T_beginN (ths := [[t0]]) (txs := []) (by decide) (by decide) (by simp) hp fun t1 o2 bo nv h51 eo hp => ?_
  replace hp := hp.re 6 [0, 1, 5, 2, 3, 4]
  replace hp := hn hp
  simp only [show partsOf 0 = [1, 3] from rfl, show partsOf 4 = [1, 2, 3] from rfl, show partsOf 5 = [] from rfl, show partsOf 6 = [1, 3] from rfl, reduceIte, reduceCtorEq, List.nil_append, List.cons_append] at hp
  -- '2'
  refine step 20 (last := 105) (c := 50) hp ⟨by decide, by decide, by decide +kernel, by decide +kernel⟩ fun h52 hp => ?_
  refine T_takeD (last := 105) (x := 2) (n := 0) (ns := []) (by decide) hp (by decide) (by decide) (by decide) (by decide) fun h53 hp => ?_
  rw [show (10 * (0 : Int) + 2) = 2 from rfl] at hp
  -- ','
  refine step 21 (last := 50) (c := 44) hp ⟨by decide, by decide, by decide +kernel, by decide +kernel⟩ fun h54 hp => ?_
  refine T_takeC hp (by simp) fun nv h55 hp => ?_
  simp only [List.nil_append, List.cons_append] at hp
  -- '1'
  refine step 22 (last := 44) (c := 49) hp ⟨by decide, by decide, by decide +kernel, by decide +kernel⟩ fun h56 hp => ?_
  refine T_takeD (last := 44) (x := 1) (n := 0) (ns := [[i64 2]]) (by decide) hp (by decide) (by decide) (by decide) (by decide) fun h57 hp => ?_
  rw [show (10 * (0 : Int) + 1) = 1 from rfl] at hp
  refine hend hp (by decide) ?_
  replace hp := hp.re 6 [0, 1, 5, 2, 3, 4]
  replace hp := hn hp
  refine T_closedO (k := 6) (xs := [2, 1]) (os := []) (c := newOp 6) (ov := o2) (b := bo) (by decide) (by decide) rfl rfl rfl eo hp fun h58 hp => ?_
  rw [show setN (newOp 6) (partsOf 6) [2, 1] = (⟨6, 2, 0, 1⟩ : Op).enc from rfl] at hp
  simp only [List.nil_append, List.cons_append] at hp
  replace hp := hp.re 9 [3, 6, 4, 7, 5, 1, 0, 8, 2]
  replace hp := hn hp
  -- tv t0 t1 o0 o1 o2 r pb ib
  have htv := hp.row.one.1
  replace hp := All.fold (l := [rowP 1 tv [[t0], [t1]], rowP 1 t0 [[o0], [o1]], rowP 1 t1 [[o2]], rowP 4 o0 [(⟨0, 0, 0, 50⟩ : Op).enc], rowP 4 o1 [(⟨4, 0, 1, 20⟩ : Op).enc, (⟨5, 0, 0, 0⟩ : Op).enc], rowP 4 o2 [(⟨6, 2, 0, 1⟩ : Op).enc]]) hp
  replace hp := hp.head (Q := fun h => threadsAt h tv litP.threads) fun h a =>
    ⟨[[t0], [t1]], a.row.rows, All2.cons (thrC_mk (a.up 1).row.rows (All2.cons (txnC_mk (t := [⟨0, 0, 0, 50⟩]) (a.up 3).row.rows) (All2.cons (txnC_mk (t := [⟨4, 0, 1, 20⟩, ⟨5, 0, 0, 0⟩]) (a.up 4).row.rows) .nil)))
      (All2.cons (thrC_mk (a.up 2).row.rows (All2.cons (txnC_mk (t := [⟨6, 2, 0, 1⟩]) (a.up 5).row.rows) .nil)) .nil)⟩
  obtain ⟨g, ht, hp⟩ := hp.base
  unfold S14_j2
  have ldr : ∀ {l : List Part} {h : GH} {N : Part}, All (N :: pts r (prRow tv 3 false (.pointer none) (.slice none 0 0) 0 false) :: l) h → ldV 3 true (.pointer (some ⟨r, 0, none⟩)) h = some (.agg (planC tv litP).toArray) ∧ ldV 1 false (.pointer (some ⟨r, 6, none⟩)) h = some (.bool false) :=
    fun hp => ⟨by rw [ldV_agg hp.pt1 _ _ (by simp)]; rfl, by rw [ldV_cell hp.pt1]; rfl⟩
  refine bnd_of rfl (bnd_of rfl (bnd_of (ldr hp).1 ?_))
  refine T_Show hp (fun h' hp => All.baseLe hp) ht litP_may litP_lit fun he hp => ?_
  refine bnd_of rfl (bnd_of rfl (bnd_of rfl (bnd_of rfl (bnd_of (ldr hp).2 ?_))))
  refine ifV_f rfl (bnd_of (v := true) rfl (ifV_f rfl ?_))
  refine bnd_of litP_show (ifV_f rfl ?_)
  refine bnd_of rfl (bnd_of rfl (bnd_of (ldr hp).1 ?_))
  replace hp := hp.up 2
  replace hp := hn hp
  refine st0 hp (.row 24 (planC tv litP) 3 true) rfl (by decide) (by show ([tv, i64 3, .bool false] : List Value).all oneCell = true; simp only [List.all_cons, htv, List.all_nil]; rfl) rfl fun hf hp => ?_
  refine bnd_of (v := .agg (planC tv litP).toArray) (by rw [ldV_agg hp.pt0 _ _ (Nat.le_refl 3)]; rfl) ?_
  refine hK tv g hf ht ?_
  replace hp := hp.re 4 [1]
  replace hp := hn hp
  exact hp
end
def Touch.bad (t : Touch) : Bool := !(decide (0 ≤ t.at_ ∧ t.at_ < 634)) || (!decide (t.slot = -1) && (!(decide (0 ≤ t.slot ∧ t.slot < 12)) || !decide (t.gen = t.live)))
def through (ts : List Touch) : Int := ((ts.filter fun t => !decide (t.slot = -1)).length : Int)
theorem through_snoc (ts : List Touch) (t : Touch) : through (ts ++ [t]) = through ts + if t.slot = -1 then 0 else 1 := by
  unfold through; rw [List.filter_append]; by_cases h : t.slot = -1 <;> simp [h]
theorem through_bound (ts : List Touch) : 0 ≤ through ts ∧ through ts ≤ ts.length := by
  unfold through; exact ⟨by omega, by have := List.length_filter_le (fun t : Touch => !decide (t.slot = -1)) ts; omega⟩
def checkN (ts : List Touch) : Int × Int := if ts.any Touch.bad then (0, 2100) else (through ts, 0)
def checkP (ts : List Touch) : Value := .tuple #[i64 (checkN ts).1, i64 (checkN ts).2]
theorem T_Check {v : Value} {ts : List Touch} {h : GH} {K : Value → GH → Prop} (r : rowsAt h 8 v (ts.map Touch.enc)) (hK : K (checkP ts) h) : T Tryz.prog 18 [v] h K := by
  apply T.drop
  apply S18_T
  unfold S18
  have ⟨a, n, cap, hv, hlen, hmc, hmax, _⟩ := r
  subst hv
  simp only [lnV_slice, bnd_some]
  refine Lfp_fam (ι := Nat) (fun i => [i64 (through (ts.take i)), .slice a n cap, i64 n, i64 i]) (fun i h' => i ≤ n ∧ HLe h h' ∧ (ts.take i).any Touch.bad = false) (fun i => n - i) ?_ 0 h ⟨by omega, .refl _, by simp⟩
  intro i h' X ⟨hi, hle, hok⟩ again
  simp only [tup_zero, tup_succ, binV_lss, bnd_some, ifV_dec]
  simp only [List.length_map] at hlen
  have hbound := through_bound (ts.take i)
  have hlt := List.length_take_le i ts
  split
  · rename_i hlt
    have hlt' : i < ts.length := by omega
    obtain ⟨t, ht⟩ : ∃ t, ts[i]? = some t := ⟨_, List.getElem?_eq_getElem hlt'⟩
    obtain ⟨p, hp, hl⟩ := (r.le hle).get (i := i) (c := t.enc) (by simp [ht]) .i64
    have htake : ts.take (i + 1) = ts.take i ++ [t] := by rw [List.take_add_one, ht]; rfl
    have hmem : t ∈ ts := List.mem_of_getElem? ht
    have hw : IntKind.i64.wrap ((i : Int) + 1) = ((i + 1 : Nat) : Int) := by rw [wrap_id (by omega) (by omega)]; rfl
    have hw2 : IntKind.i64.wrap (through (ts.take i) + 1) = through (ts.take i) + 1 := wrap_id (by omega) (by omega)
    simp only [hp, hl, bnd_some]
    intro b hb
    have hn := hle.none hb
    have bad : t.bad = true → ∃ h0, HLe h0 (upd h' b (.row 105 t.enc 8 true)) ∧ K (.tuple #[.int .i64 0, .int .i64 2100]) h0 := by
      intro hbad
      refine ⟨h, hle.new _ hn, ?_⟩
      have : checkP ts = .tuple #[.int .i64 0, .int .i64 2100] := by
        have : checkN ts = (0, 2100) := by unfold checkN; rw [if_pos]; rw [List.any_eq_true]; exact ⟨t, hmem, hbad⟩
        unfold checkP; rw [this]
      rw [← this]; exact hK
    have good : t.bad = false → X (tup [i64 (through (ts.take i) + if t.slot = -1 then 0 else 1), .slice a n cap, i64 n, i64 (i + 1 : Nat)]) (upd h' b (.row 105 t.enc 8 true)) := by
      intro hg
      have := again (i + 1) (upd h' b (.row 105 t.enc 8 true)) ⟨by omega, hle.new _ hn, by rw [htake, List.any_append, hok]; simp [hg]⟩ (by omega)
      rw [htake, through_snoc] at this
      exact this
    simp only [bnd_some, bnd_none, ifV_true, ifV_false, ifV_dec, ifV_iff, Bool.not_eq_true, Bool.not_eq_eq_eq_not, Bool.not_true, Bool.not_false, decide_eq_true_eq, decide_eq_false_iff_not, tup_zero, tup_succ, binV_add, binV_sub, binV_mul, binV_quo, binV_rem, binV_lss, binV_leq, binV_gtr, binV_geq, eqI_int, cvV_int, unV_not, lnV_slice, exV_tuple, ncV_pointer, faV_pointer, pickO_true, pickO_false, cells_agg, cells_int, cells_bool, cells_pointer, cells_slice, cells_iface, cells_nilIface, cells_func, cells_nilFunc, one_int, one_bool, one_pointer, one_slice, one_iface, one_nilIface, one_func, one_nilFunc, ldV_same, ldV_same_agg, stV_same, upd_same, upd_upd, setCells_nil, setCells_cons, List.set_cons_zero, List.set_cons_succ, List.length_cons, List.length_nil, List.size_toArray, List.all_cons, List.all_nil, Bool.and_true, Bool.and_self, Nat.zero_add, Nat.add_zero, Nat.reduceAdd, Nat.reduceLeDiff, Nat.le_refl, and_self, and_true, true_and, if_true, if_false, List.getElem?_cons_zero, List.getElem?_cons_succ, List.getElem?_toArray, List.drop_zero, List.drop_succ_cons, List.take_succ_cons, List.take_zero, List.take_nil, reduceIte, Int.reduceNeg, Int.reduceEq, Int.reduceLT, Int.reduceLE, Nat.reduceEqDiff, List.length_set, Touch.enc]
    simp only [Touch.enc] at bad good
    refine T_Below ?_
    simp only [bnd_some, bnd_none, ifV_true, ifV_false, ifV_dec, ifV_iff, Bool.not_eq_true, Bool.not_eq_eq_eq_not, Bool.not_true, Bool.not_false, decide_eq_true_eq, decide_eq_false_iff_not, tup_zero, tup_succ, binV_add, binV_sub, binV_mul, binV_quo, binV_rem, binV_lss, binV_leq, binV_gtr, binV_geq, eqI_int, cvV_int, unV_not, lnV_slice, exV_tuple, ncV_pointer, faV_pointer, pickO_true, pickO_false, cells_agg, cells_int, cells_bool, cells_pointer, cells_slice, cells_iface, cells_nilIface, cells_func, cells_nilFunc, one_int, one_bool, one_pointer, one_slice, one_iface, one_nilIface, one_func, one_nilFunc, ldV_same, ldV_same_agg, stV_same, upd_same, upd_upd, setCells_nil, setCells_cons, List.set_cons_zero, List.set_cons_succ, List.length_cons, List.length_nil, List.size_toArray, List.all_cons, List.all_nil, Bool.and_true, Bool.and_self, Nat.zero_add, Nat.add_zero, Nat.reduceAdd, Nat.reduceLeDiff, Nat.le_refl, and_self, and_true, true_and, if_true, if_false, List.getElem?_cons_zero, List.getElem?_cons_succ, List.getElem?_toArray, List.drop_zero, List.drop_succ_cons, List.take_succ_cons, List.take_zero, List.take_nil, reduceIte, Int.reduceNeg, Int.reduceEq, Int.reduceLT, Int.reduceLE, Nat.reduceEqDiff, List.length_set]
    by_cases c1 : 0 ≤ t.at_ ∧ t.at_ < 634
    · by_cases c2 : t.slot = -1
      · simp only [c1, c2, and_self, decide_true, decide_false, not_true_eq_false, if_true, if_false, reduceCtorEq, Bool.not_true, Bool.false_eq_true]
        simp only [bnd_some, bnd_none, ifV_true, ifV_false, ifV_dec, ifV_iff, Bool.not_eq_true, Bool.not_eq_eq_eq_not, Bool.not_true, Bool.not_false, decide_eq_true_eq, decide_eq_false_iff_not, tup_zero, tup_succ, binV_add, binV_sub, binV_mul, binV_quo, binV_rem, binV_lss, binV_leq, binV_gtr, binV_geq, eqI_int, cvV_int, unV_not, lnV_slice, exV_tuple, ncV_pointer, faV_pointer, pickO_true, pickO_false, cells_agg, cells_int, cells_bool, cells_pointer, cells_slice, cells_iface, cells_nilIface, cells_func, cells_nilFunc, one_int, one_bool, one_pointer, one_slice, one_iface, one_nilIface, one_func, one_nilFunc, ldV_same, ldV_same_agg, stV_same, upd_same, upd_upd, setCells_nil, setCells_cons, List.set_cons_zero, List.set_cons_succ, List.length_cons, List.length_nil, List.size_toArray, List.all_cons, List.all_nil, Bool.and_true, Bool.and_self, Nat.zero_add, Nat.add_zero, Nat.reduceAdd, Nat.reduceLeDiff, Nat.le_refl, and_self, and_true, true_and, if_true, if_false, List.getElem?_cons_zero, List.getElem?_cons_succ, List.getElem?_toArray, List.drop_zero, List.drop_succ_cons, List.take_succ_cons, List.take_zero, List.take_nil, reduceIte, Int.reduceNeg, Int.reduceEq, Int.reduceLT, Int.reduceLE, Nat.reduceEqDiff, List.length_set, hw]
        have := good (by simp [Touch.bad, c1, c2])
        simpa [c2] using this
      · simp only [c1, c2, and_self, decide_true, decide_false, not_true_eq_false, if_true, if_false, reduceCtorEq, Bool.not_true, Bool.false_eq_true, not_false_eq_true]
        refine T_Below ?_
        by_cases c3 : 0 ≤ t.slot ∧ t.slot < 12
        · simp only [c3, and_self, decide_true]
          simp only [bnd_some, bnd_none, ifV_true, ifV_false, ifV_dec, ifV_iff, Bool.not_eq_true, Bool.not_eq_eq_eq_not, Bool.not_true, Bool.not_false, decide_eq_true_eq, decide_eq_false_iff_not, tup_zero, tup_succ, binV_add, binV_sub, binV_mul, binV_quo, binV_rem, binV_lss, binV_leq, binV_gtr, binV_geq, eqI_int, cvV_int, unV_not, lnV_slice, exV_tuple, ncV_pointer, faV_pointer, pickO_true, pickO_false, cells_agg, cells_int, cells_bool, cells_pointer, cells_slice, cells_iface, cells_nilIface, cells_func, cells_nilFunc, one_int, one_bool, one_pointer, one_slice, one_iface, one_nilIface, one_func, one_nilFunc, ldV_same, ldV_same_agg, stV_same, upd_same, upd_upd, setCells_nil, setCells_cons, List.set_cons_zero, List.set_cons_succ, List.length_cons, List.length_nil, List.size_toArray, List.all_cons, List.all_nil, Bool.and_true, Bool.and_self, Nat.zero_add, Nat.add_zero, Nat.reduceAdd, Nat.reduceLeDiff, Nat.le_refl, and_self, and_true, true_and, if_true, if_false, List.getElem?_cons_zero, List.getElem?_cons_succ, List.getElem?_toArray, List.drop_zero, List.drop_succ_cons, List.take_succ_cons, List.take_zero, List.take_nil, reduceIte, Int.reduceNeg, Int.reduceEq, Int.reduceLT, Int.reduceLE, Nat.reduceEqDiff, List.length_set]
          by_cases c4 : t.gen = t.live
          · simp only [c4, decide_true, c2, decide_false, not_true_eq_false, not_false_eq_true, if_true, if_false, reduceCtorEq, Bool.false_eq_true]
            simp only [bnd_some, bnd_none, ifV_true, ifV_false, ifV_dec, ifV_iff, Bool.not_eq_true, Bool.not_eq_eq_eq_not, Bool.not_true, Bool.not_false, decide_eq_true_eq, decide_eq_false_iff_not, tup_zero, tup_succ, binV_add, binV_sub, binV_mul, binV_quo, binV_rem, binV_lss, binV_leq, binV_gtr, binV_geq, eqI_int, cvV_int, unV_not, lnV_slice, exV_tuple, ncV_pointer, faV_pointer, pickO_true, pickO_false, cells_agg, cells_int, cells_bool, cells_pointer, cells_slice, cells_iface, cells_nilIface, cells_func, cells_nilFunc, one_int, one_bool, one_pointer, one_slice, one_iface, one_nilIface, one_func, one_nilFunc, ldV_same, ldV_same_agg, stV_same, upd_same, upd_upd, setCells_nil, setCells_cons, List.set_cons_zero, List.set_cons_succ, List.length_cons, List.length_nil, List.size_toArray, List.all_cons, List.all_nil, Bool.and_true, Bool.and_self, Nat.zero_add, Nat.add_zero, Nat.reduceAdd, Nat.reduceLeDiff, Nat.le_refl, and_self, and_true, true_and, if_true, if_false, List.getElem?_cons_zero, List.getElem?_cons_succ, List.getElem?_toArray, List.drop_zero, List.drop_succ_cons, List.take_succ_cons, List.take_zero, List.take_nil, reduceIte, Int.reduceNeg, Int.reduceEq, Int.reduceLT, Int.reduceLE, Nat.reduceEqDiff, List.length_set, hw, hw2]
            have := good (by simp [Touch.bad, c1, c2, c3, c4])
            simpa [c2, c4] using this
          · simp only [c4, decide_false, not_false_eq_true, if_true]
            exact bad (by simp [Touch.bad, c1, c2, c3, c4])
        · simp only [c3, decide_false]
          simpa using bad (by simp [Touch.bad, c1, c2, c3])
    · simp only [c1, decide_false]
      simpa using bad (by simp [Touch.bad, c1])
  · have hn : i = n := by omega
    refine ⟨h, hle, ?_⟩
    have : checkP ts = .tuple #[i64 (through (ts.take i)), i64 0] := by
      have hall : ts.take i = ts := List.take_of_length_le (by omega)
      rw [hall] at hok ⊢
      have : checkN ts = (through ts, 0) := by unfold checkN; rw [hok]; rfl
      unfold checkP; rw [this]
    rw [← this]; exact hK
attribute [local irreducible] bnd ldV stV ifV binV eqI
section
variable {R : List Part} {h g : GH} {K : Value → GH → Prop} {v pv : Value} {p : Plan} {b : Nat}
theorem T_started (hp : All R h) (hg : ∀ h', All R h' → HLe g h') (ht : threadsAt g v p.threads) (kn : p.may = false → ∀ h', All R h' → K (.pointer none) h')
    (ky : p.may = true → ∀ b h', All (mcP b (Mc.new p) :: R) h' → K (ptr b) h') : T Tryz.prog 5 [.agg (planC v p).toArray] h K := by
  apply S5_T
  unfold S5
  refine nw hp (.row 24 (planC v p) 3 true) rfl fun d h1 hp => ?_
  refine la0 hp (c := planC v p) (Nat.le_refl 3) rfl ?_
  refine T_mNew hp (fun h' hp => hg _ hp.tail) ht (fun hm h3 hp => ?_) fun hm b h3 hp => ?_
  · refine wk ?_
    refine T_Num ?_
    refine wk ?_
    exact kn hm _ hp.tail
  · refine wk ?_
    refine T_Num ?_
    refine wk ?_
    exact ky hm b _ (hp.re 2 [0] |> fun z => hn z)
theorem T_Solo {k : Int} (k1 : 1 ≤ k) (k4 : k ≤ 4) (hK : K (.tuple #[i64 (1024 * k), i64 0]) h) : T Tryz.prog 21 [i64 k] h K := by
  apply S21_T
  unfold S21
  refine wk ?_
  refine ifV_n (by omega) ?_
  refine wk ?_
  refine ifV_n (by omega) ?_
  refine wk ?_
  exact hK
theorem T_OrdRow0 (hp : All R h) (hl : lnV v = some (i64 0)) (hK : K (.tuple #[.slice none 0 0, i64 0]) h) : T Tryz.prog 38 [v] h K := by
  apply S38_T
  unfold S38
  refine bnd_of hl ?_
  intro X hX
  refine hX _ _ ?_
  simp only [tup_zero, tup_succ]
  refine wk ?_
  exact hK
theorem T_Replay0 (hp : All R h) (hg : ∀ h', All R h' → HLe g h') (ht : threadsAt g v p.threads) (hm : p.may = true) (hl : lnV pv = some (i64 0))
    (hK : ∀ h', All R h' → K (.tuple #[.agg (msC MS.new).toArray, i64 0]) h') : T Tryz.prog 16 [.agg (planC v p).toArray, pv] h K := by
  apply S16_T
  unfold S16
  refine nw hp (.row 24 (planC v p) 3 true) rfl fun d h1 hp => ?_
  refine nw hp (msRow ⟨[0, 0, 0, 0], [false, false, false, false, false]⟩) rfl fun s1 h2 hp => ?_
  refine T_OrdRow0 hp hl ?_
  refine wk ?_
  refine bnd_of (v := .agg (planC v p).toArray) (by rw [ldV_agg hp.pt1 _ _ (Nat.le_refl 3)]; rfl) ?_
  refine T_scriptMay (ht.le (hg _ hp.tail.tail)) ?_
  rw [hm]
  refine wk ?_
  unfold S16_j1
  have g0 : MS.good ⟨[0, 0, 0, 0], [false, false, false, false, false]⟩ := ⟨rfl, rfl, fun i hi => by
    have : ∀ k : Fin 4, -1 ≤ [(0 : Int), 0, 0, 0].getD k.val 0 ∧ [(0 : Int), 0, 0, 0].getD k.val 0 ≤ 1048575 := by decide
    exact this ⟨i, hi⟩⟩
  refine T_modelNew hp fun h3 hp => ?_
  refine ms_nwst hp MS.new_good fun s2 h4 hp => ?_
  refine wk ?_
  intro X hX
  refine hX _ _ ?_
  simp only [tup_zero, tup_succ]
  refine wk ?_
  refine bnd_of (ms_load hp MS.new_good) ?_
  replace hp := hp.up 1
  replace hp := Go.Proofs.YtcpfkkppfgolaaaGreatDoor.hn hp
  refine ms_store hp g0 MS.new_good fun h5 hp => ?_
  refine bnd_of (ms_load hp MS.new_good) ?_
  exact hK _ hp.tail.tail.tail
theorem T_cellsAt {k l : Int} (hk : k = -1) (hl : l = 0 ∨ l = 1) (hK : K (i64 (4 + l)) h) : T Tryz.prog 80 [i64 k, i64 l] h K := by
  apply S80_T
  unfold S80
  subst hk
  rcases hl with rfl | rfl
  · refine wk ?_; exact hK
  · refine wk ?_; exact hK
theorem T_imgRow0 {l : Int} {fv : Value} {xs : List Int} (hx : xs = List.replicate 16 0) (hl : l = 0 ∨ l = 1) (hp : All (rowP 1 v (xs.map encI) :: R) h) (hK : ∀ h', All (rowP 1 v (xs.map encI) :: R) h' → K (.bool true) h') :
    T Tryz.prog 45 [v, i64 l, fv] h K := by
  apply S45_T
  unfold S45
  intro X hX
  refine hX _ _ ?_
  simp only [tup_zero, tup_succ]
  refine T_cellsAt rfl hl ?_
  obtain ⟨i, hi, hi4⟩ : ∃ i : Nat, i < 16 ∧ 4 + l = (i : Int) := by
    rcases hl with rfl | rfl
    · exact ⟨4, by decide, rfl⟩
    · exact ⟨5, by decide, rfl⟩
  rw [hi4]
  obtain ⟨bb, e1, e2, _, est⟩ := hp.elt (i := i) (c := encI 0) (by rw [hx]; rw [List.getElem?_map, List.getElem?_replicate]; simp [hi]) .i64
  refine bnd_of e1 ?_
  refine bnd_of (e2 0 1 (i64 0) rfl) ?_
  refine wk ?_
  refine bnd_of e1 ?_
  obtain ⟨h2, hst, hp2⟩ := est 0 1 (i64 0) rfl (by decide) rfl
  rw [Nat.add_zero] at hst
  refine bnd_of hst ?_
  refine wk ?_
  refine hK _ ?_
  have : (xs.map encI).set i (setCells (encI 0) 0 (i64 0).cells.toList) = xs.map encI := by
    rw [show setCells (encI 0) 0 (i64 0).cells.toList = encI 0 from rfl, ← List.map_set, hx]
    congr 1
    exact List.set_replicate_self
  rw [this] at hp2
  exact hp2
end
end Go.Proofs.YtcpfkkppfgolaaaGreatDoor
namespace Go.Proofs.YtcpfkkppfgolaaaGreatDoor
open Go GW Go.Proofs
attribute [local irreducible] bnd ldV stV ifV binV eqI
set_option maxRecDepth 20000
def z16 : List Int := List.replicate 16 0
def f5 : List Value := [.bool false, .bool false, .bool false, .bool false, .bool false]
section
variable {R : List Part} {h g : GH} {K : Value → GH → Prop} {v pv : Value} {p : Plan} {b : Nat}
theorem T_Get0 (hp : All (rowP 1 v (z16.map encI) :: R) h) (hK : ∀ h', All (rowP 1 v (z16.map encI) :: R) h' → K (.tuple #[.agg (msC MS.new).toArray, i64 0]) h') : T Tryz.prog 20 [v] h K := by
  apply S20_T
  unfold S20
  refine nw hp (msRow ⟨[0, 0, 0, 0], [false, false, false, false, false]⟩) rfl fun s1 h1 hp => ?_
  have g0 : MS.good ⟨[0, 0, 0, 0], [false, false, false, false, false]⟩ := ⟨rfl, rfl, fun i hi => by
    have : ∀ k : Fin 4, -1 ≤ [(0 : Int), 0, 0, 0].getD k.val 0 ∧ [(0 : Int), 0, 0, 0].getD k.val 0 ≤ 1048575 := by decide
    exact this ⟨i, hi⟩⟩
  refine bnd_of (hp.up 1).len ?_
  rw [show ((z16.map encI).length : Nat) = 16 from rfl]
  refine wk ?_
  refine T_modelNew hp fun h2 hp => ?_
  refine ms_nwst hp MS.new_good fun s2 h3 hp => ?_
  have zget : ∀ i, i < 16 → (z16.map encI)[i]? = some (encI 0) := fun i hi => by
    unfold z16; rw [List.getElem?_map, List.getElem?_replicate]; simp [hi]
  refine Lfp_fam (ι := Nat) (fun i => [v, ptr s1, ptr s2, i64 i]) (fun i h' => i ≤ 4 ∧ All (pts s2 (msRow MS.new) :: pts s1 (msRow ⟨[0, 0, 0, 0], [false, false, false, false, false]⟩) :: rowP 1 v (z16.map encI) :: R) h') (fun i => 4 - i) ?_ 0 h3 ⟨Nat.zero_le _, hp⟩
  clear hp
  rintro i h4 X ⟨hi, hp⟩ again
  simp only [tup_zero, tup_succ]
  refine wk ?_
  refine ifV_cases (fun c => ?_) fun c => ?_
  · have hi4 : i < 4 := by omega
    obtain ⟨bb, e1, e2, _, _⟩ := (hp.up 2).elt (zget i (by omega)) .i64
    refine bnd_of e1 ?_
    refine bnd_of (e2 0 1 (i64 0) rfl) ?_
    refine wk ?_
    refine bnd_of (iaV_at hi4 .i64) ?_
    refine ms_st (x := -1) hp MS.new_good hi4 fun h5 hp => ?_
    refine wk ?_
    have e1 : MS.new.put i (-1) = MS.new := by
      have : i = 0 ∨ i = 1 ∨ i = 2 ∨ i = 3 := by omega
      rcases this with rfl | rfl | rfl | rfl <;> rfl
    rw [e1] at hp
    exact again (i + 1) _ ⟨by omega, hp⟩ (by omega)
  · clear again
    refine bs0 (size := 1) hp [] rfl rfl (by simp) (fun c hc => by cases hc) fun u h5 hp => ?_
    refine ap0 hp (hp.up 3).rows (encI_good _) (by decide) (by decide) fun rv h6 hp => ?_
    rw [List.nil_append] at hp
    refine nw hp (.row 47 f5 5 true) rfl fun hb h7 hp => ?_
    replace hp := hp.up 1
    replace hp := hn hp
    refine T_imgRow0 (xs := z16) rfl (.inl rfl) hp fun h8 hp => ?_
    refine wk ?_
    refine T_imgRow0 (xs := z16) rfl (.inr rfl) hp fun h9 hp => ?_
    refine wk ?_
    replace hp := hp.re 4 [2, 0, 1, 3]
    replace hp := hn hp
    refine T_modelMay hp MS.new_good ?_
    unfold S20_j1
    have hlr := (hp.up 1).len
    rw [show ((z16.map encI).length : Nat) = 16 from rfl] at hlr
    refine bnd_of hlr ?_
    refine Lfp_fam (ι := Nat) (fun j => [ptr s1, ptr s2, ptr hb, .bool true, rv, i64 16, i64 j]) (fun j h' => j ≤ 16 ∧ h' = h9) (fun j => 16 - j) ?_ 0 h9 ⟨Nat.zero_le _, rfl⟩
    rintro j hj X2 ⟨hj16, rfl⟩ again2
    simp only [tup_zero, tup_succ]
    refine wk ?_
    refine ifV_cases (fun c => ?_) fun c => ?_
    · have hlt : j < 16 := by omega
      obtain ⟨bb, e1, e2, _, _⟩ := (hp.up 1).elt (zget j hlt) .i64
      refine bnd_of e1 ?_
      refine bnd_of (e2 0 1 (i64 0) rfl) ?_
      refine wk ?_
      refine ifV_cases (fun c => ?_) fun c => ?_
      · refine wk ?_
        exact again2 (j + 1) _ ⟨by omega, rfl⟩ (by omega)
      · refine wk ?_
        exact again2 (j + 1) _ ⟨by omega, rfl⟩ (by omega)
    · clear again2
      refine bnd_of (v := .agg f5.toArray) (by rw [ldV_agg (hp.pt (i := 2) rfl) _ _ (by decide)]; rfl) ?_
      refine Lfp_fam (ι := Nat) (fun j => [ptr s1, ptr s2, .bool true, .agg f5.toArray, i64 j]) (fun j h' => j ≤ 5 ∧ h' = hj) (fun j => 5 - j) ?_ 0 hj ⟨Nat.zero_le _, rfl⟩
      rintro j2 hj2 X3 ⟨hj5, rfl⟩ again3
      simp only [tup_zero, tup_succ]
      refine wk ?_
      refine ifV_cases (fun c => ?_) fun c => ?_
      · have hlt : j2 < 5 := by omega
        have hix : ixV 5 1 false (.agg f5.toArray) (i64 j2) = some (.bool false) := by
          have : j2 = 0 ∨ j2 = 1 ∨ j2 = 2 ∨ j2 = 3 ∨ j2 = 4 := by omega
          rcases this with rfl | rfl | rfl | rfl | rfl <;> rfl
        refine bnd_of hix ?_
        refine wk ?_
        exact again3 (j2 + 1) _ ⟨by omega, rfl⟩ (by omega)
      · refine wk ?_
        refine bnd_of (ms_load hp MS.new_good) ?_
        replace hp := hp.re 4 [3, 0]
        replace hp := hn hp
        refine ms_store hp g0 MS.new_good fun ha hp => ?_
        refine bnd_of (ms_load hp MS.new_good) ?_
        exact hK _ hp.tail.tail
theorem lit_stock : (Mc.new litP).stock = ([12, 0, 0, 0], 0) := by decide +kernel
theorem lit_events : (Mc.new litP).events = [] := by decide +kernel
theorem lit_check : checkN (Mc.new litP).ts = (0, 0) := by decide +kernel
theorem lit_words : (Mc.new litP).A.ws.take 16 = z16 ∧ 16 ≤ (Mc.new litP).A.ws.length := by decide +kernel
theorem T_topAwake (hp : All R h) (hK : ∀ h', All R h' → K (.bool true) h') : T Tryz.prog 4 [] h K := by
  apply S4_T
  unfold S4
  refine T_ParseLit hp fun v g h1 ht hp => ?_
  refine bnd_of rfl (bnd_of rfl ?_)
  refine nwst hp (.row 24 (planC v litP) 3 true) rfl rfl ?_ rfl fun d h2 hp => ?_
  · obtain ⟨es, ⟨a, b, c, rfl, _⟩, _⟩ := ht; rfl
  refine la0 hp (c := planC v litP) (Nat.le_refl 3) rfl ?_
  refine T_started hp (fun h' hp => All.baseLe hp.tail) ht (fun e => by rw [litP_may] at e; cases e) fun _ b h3 hp => ?_
  refine T_Num ?_
  refine wk ?_
  unfold S4_j1
  have o := Mc.new_ok litP_may
  refine T_mStock hp o fun h4 hp => ?_
  rw [lit_stock]
  refine wk ?_
  refine nwst hp (.row 43 [i64 12, i64 0, i64 0, i64 0] 4 true) rfl rfl rfl rfl fun sb h5 hp => ?_
  refine bnd_of (v := .agg (planC v litP).toArray) (by rw [ldV_agg (hp.pt (i := 2) rfl) _ _ (Nat.le_refl 3)]; rfl) ?_
  replace hp := hp.re 3 [1, 0, 2]
  replace hp := hn hp
  refine T_mEvents hp o fun ev h6 hp => ?_
  rw [lit_events] at hp
  refine ⟨by rw [ldV_agg (hp.pt (i := 3) rfl) _ _ (Nat.le_refl 3)]; rfl, ?_⟩
  have hlev : lnV ev = some (i64 0) := evoP_open hp fun ws hl hp => by
    have := hp.len
    rw [show (evCs [] ws).length = 0 from by cases ws <;> rfl] at this
    exact this
  replace hp := hp.tail
  refine T_Replay0 hp (fun h' hp => All.baseLe hp.tail.tail.tail) ht litP_may hlev fun h7 hp => ?_
  refine wk ?_
  refine ms_nwst hp MS.new_good fun rb h8 hp => ?_
  replace hp := hp.up 1
  replace hp := hn hp
  refine T_mTouches hp o fun tv h9 hp => ?_
  refine T_Check hp.row.rows ?_
  rw [show checkP (Mc.new litP).ts = .tuple #[i64 0, i64 0] from by unfold checkP; rw [lit_check]]
  replace hp := hp.tail
  refine wk ?_
  refine T_mWords hp fun w1 h10 hp => ?_
  replace hp := hp.up 1
  replace hp := hn hp
  refine T_mWords hp fun w2 h11 hp => ?_
  refine bnd_of hp.len ?_
  replace hp := hp.re 3 [2, 1]
  replace hp := hn hp
  have hwl : ((Mc.new litP).A.ws.map encI).length = 634 := by decide +kernel
  rw [hwl]
  refine bnd_of (v := i64 16) rfl ?_
  obtain ⟨w3, s1, hp⟩ := hp.cut (n := 16) (by rw [hwl]; decide) .i64
  refine bnd_of s1 ?_
  rw [← List.map_take, lit_words.1] at hp
  refine T_Get0 hp fun h12 hp => ?_
  refine wk ?_
  refine ms_nwst hp MS.new_good fun gb h13 hp => ?_
  refine T_Solo (by decide) (by decide) ?_
  replace hp := hp.re 5 [0, 3, 4]
  replace hp := hn hp
  have hmr : msRow MS.new = .row 49 (msC MS.new) 9 true := rfl
  refine wk ?_
  refine T_Num ?_
  refine wk ?_
  refine T_Num ?_
  refine wk ?_
  refine T_Num ?_
  refine wk ?_
  refine bnd_of (ms_load hp MS.new_good) ?_
  refine bnd_of (ms_load (hp.up 1) MS.new_good) ?_
  refine bnd_of (v := true) (by kernel_rfl) ?_
  refine wk ?_
  refine T_Num ?_
  refine wk ?_
  refine T_Num ?_
  refine wk ?_
  exact hK _ (hp.tail.tail.tail.tail.tail)
end
end Go.Proofs.YtcpfkkppfgolaaaGreatDoor
namespace Go.Proofs.YtcpfkkppfgolaaaGreatDoor
open Go GW Go.Proofs
set_option maxRecDepth 20000
theorem Mc.sim.events {M N : Mc} (s : M.sim N) : M.events.map Event.nrm = N.events.map Event.nrm := by
  have key : ∀ xs ys : List Th, xs.map Th.nrm = ys.map Th.nrm → (xs.flatMap Th.evs).map Event.nrm = (ys.flatMap Th.evs).map Event.nrm := by
    intro xs
    induction xs with
    | nil =>
      intro ys h
      cases ys with
      | nil => rfl
      | cons y ys => cases h
    | cons x xs ih =>
      intro ys h
      cases ys with
      | nil => cases h
      | cons y ys =>
        simp only [List.map_cons, List.cons.injEq] at h
        have e : x.evs.map Event.nrm = y.evs.map Event.nrm := congrArg Th.evs h.1
        simp only [List.flatMap_cons, List.map_append, ih ys h.2, e]
  exact key _ _ s.ths
theorem Mc.sim.done {M N : Mc} (s : M.sim N) : M.done = N.done := by
  have key : ∀ xs ys : List Th, xs.map Th.nrm = ys.map Th.nrm → xs.all Th.done = ys.all Th.done := by
    intro xs
    induction xs with
    | nil =>
      intro ys h
      cases ys with
      | nil => rfl
      | cons y ys => cases h
    | cons x xs ih =>
      intro ys h
      cases ys with
      | nil => cases h
      | cons y ys =>
        simp only [List.map_cons, List.cons.injEq] at h
        have e : x.done = y.done := by rw [← Th.done_nrm (x := x), h.1, Th.done_nrm]
        simp only [List.all_cons, ih ys h.2, e]
  exact key _ _ s.ths
theorem Mc.run_snoc {M : Mc} {ks : List Int} {k : Int} : M.run (ks ++ [k]) = ((M.run ks).pick k).1 := by
  unfold Mc.run
  rw [List.foldl_append]; rfl
theorem Mc.run_ok {ks : List Int} : ∀ {M : Mc}, M.ok → (M.run ks).ok := by
  induction ks with
  | nil => intro M h; exact h
  | cons k ks ih => intro M h; exact ih (Mc.pick_ok h)
section
variable {a b d : Nat} {R : List Part} {h g : GH} {K : Value → GH → Prop} {v pv : Value} {p : Plan} {picks : List Int} {M N : Mc}
end
attribute [local irreducible] bnd ldV stV ifV binV eqI
def ansIs (t : Int) (e : Event) : Bool := decide (e.thread = t) && decide (0 ≤ e.answered)
def ansN (es : List Event) (t : Int) : Int := ((es.filter (ansIs t)).length : Int)
section
variable {R : List Part} {h g : GH} {K : Value → GH → Prop} {b : Nat} {M : Mc} {t : Int}
theorem T_answered (hp : All (mcP b M :: R) h) (o : M.ok) (hK : ∀ h', All (mcP b M :: R) h' → K (i64 (ansN M.events t)) h') : T Tryz.prog 10 [ptr b, i64 t] h K := by
  apply S10_T
  unfold S10
  refine T_mEvents hp o fun ev h1 hp => ?_
  refine evoP_open hp fun ws hl hp => ?_
  have hln := hp.len
  have hmx := hp.row.good.2.2
  rw [evCs_len hl] at hln hmx
  refine Lfp_fam (ι := Nat) (fun i => [i64 t, ev, i64 (ansN (M.events.take i) t), i64 i]) (fun i h' => i ≤ M.events.length ∧ h' = h1) (fun i => M.events.length - i) ?_ 0 h1 ⟨Nat.zero_le _, rfl⟩
  rintro i h2 X ⟨hi, rfl⟩ again
  simp only [tup_zero, tup_succ]
  have hb : 0 ≤ ansN (M.events.take i) t ∧ ansN (M.events.take i) t ≤ i := by
    unfold ansN
    have := List.length_filter_le (ansIs t) (M.events.take i)
    rw [List.length_take] at this
    omega
  refine bnd_of hln ?_
  refine wk ?_
  refine ifV_cases (fun c => ?_) fun c => ?_
  · obtain ⟨e, he⟩ : ∃ e, M.events[i]? = some e := ⟨_, List.getElem?_eq_getElem (by omega)⟩
    obtain ⟨w, hw⟩ : ∃ w, ws[i]? = some w := ⟨_, List.getElem?_eq_getElem (by omega)⟩
    have e1 : M.events.take (i + 1) = M.events.take i ++ [e] := by rw [List.take_add_one, he]; rfl
    have e2 : ansN (M.events.take (i + 1)) t = ansN (M.events.take i) t + if ansIs t e = true then 1 else 0 := by
      rw [e1]; unfold ansN; rw [List.filter_append]
      by_cases q : ansIs t e = true
      · simp [q]
      · simp [q]
    obtain ⟨b1, o1, p1, q1, _⟩ := hp.rows.fld (evCs_get he hw) .i64
    refine bnd_of p1 (bnd_of rfl (bnd_of (q1 0 _ rfl) ?_))
    refine wk ?_
    by_cases c1 : e.thread = t
    · rw [decide_eq_true c1]
      refine wk ?_
      refine bnd_of p1 (bnd_of rfl (bnd_of (q1 4 _ rfl) ?_))
      refine wk ?_
      refine ifV_cases (fun c2 => ?_) fun c2 => ?_
      · refine wk ?_
        refine again (i + 1) _ ⟨by omega, rfl⟩ (by omega) |> fun z => ?_
        rw [e2, if_pos (by unfold ansIs; rw [decide_eq_true c1, decide_eq_true c2]; rfl)] at z
        exact z
      · refine wk ?_
        have z := again (i + 1) _ ⟨by omega, rfl⟩ (by omega)
        rw [e2, if_neg (by unfold ansIs; rw [decide_eq_false c2]; simp), Int.add_zero] at z
        exact z
    · rw [decide_eq_false c1]
      refine wk ?_
      have z := again (i + 1) _ ⟨by omega, rfl⟩ (by omega)
      rw [e2, if_neg (by unfold ansIs; rw [decide_eq_false c1]; simp), Int.add_zero] at z
      exact z
  · obtain rfl : i = M.events.length := by omega
    rw [List.take_length]
    exact hK _ hp.tail.tail
end
end Go.Proofs.YtcpfkkppfgolaaaGreatDoor
namespace Go.Proofs.YtcpfkkppfgolaaaGreatDoor
open Go GW Go.Proofs
attribute [local irreducible] bnd ldV stV ifV binV eqI
set_option maxRecDepth 20000
theorem ansN_nrm (es : List Event) (t : Int) : ansN (es.map Event.nrm) t = ansN es t := by
  unfold ansN
  induction es with
  | nil => rfl
  | cons e es ih =>
    have : ansIs t e.nrm = ansIs t e := by
      unfold ansIs
      show (decide (e.thread = t) && decide (0 ≤ sg e.answered)) = _
      rw [decide_eq_decide.2 (sg_pos e.answered)]
    simp only [List.map_cons, List.filter_cons, this]
    split
    · simp only [List.length_cons]; omega
    · exact ih
theorem Mc.sim.ans {M N : Mc} (s : M.sim N) (t : Int) : ansN M.events t = ansN N.events t := by
  rw [← ansN_nrm, s.events, ansN_nrm]
section
variable {a b d : Nat} {R : List Part} {h g : GH} {K : Value → GH → Prop} {v pv : Value} {p : Plan} {picks : List Int} {M N : Mc}
theorem T_TopTrim (hp : All [baseP g] h) (ht : threadsAt g v p.threads) (rp : rowsAt g 1 pv (picks.map encI)) (hK : ∀ h', K (.bool true) h') : T Tryz.prog 3 [.agg (planC v p).toArray, pv] h K := by
  apply S3_T
  unfold S3
  refine nw hp (.row 24 (planC v p) 3 true) rfl fun d h1 hp => ?_
  refine T_topAwake hp fun h2 hp => ?_
  refine wk ?_
  have hvl : lnV v = some (i64 p.threads.length) := by
    obtain ⟨es, r, a2⟩ := ht
    have := r.len
    rw [a2.1] at this; exact this
  have hvm : p.threads.length ≤ 9223372036854775807 := by
    obtain ⟨es, r, a2⟩ := ht
    have := r.max
    rw [a2.1] at this; exact this
  have j1 : ∀ (qv : Value) (ks : List Int), ks.length ≤ 300 → rowsAt g 1 qv (ks.map encI) → S3_j1 qv (ptr d) h2 K := by
    intro qv ks hk rq
    have hpl : lnV qv = some (i64 ks.length) := by have := rq.len; rw [List.length_map] at this; exact this
    unfold S3_j1
    refine la0 hp (c := planC v p) (Nat.le_refl 3) rfl ?_
    refine la0 hp (c := planC v p) (Nat.le_refl 3) rfl ?_
    refine T_started hp (fun h' hp => All.baseLe hp.tail) ht (fun hm h3 hp => ?_) fun hm b1 h3 hp => ?_
    · refine ⟨by rw [ldV_agg hp.pt0 _ _ (Nat.le_refl 3)]; rfl, ?_⟩
      refine T_started hp (fun h' hp => All.baseLe hp.tail) ht (fun _ h4 hp => ?_) (fun hm2 => by rw [hm] at hm2; cases hm2)
      refine la0 hp (c := planC v p) (Nat.le_refl 3) rfl ?_
      refine T_Trim hp (fun h' hp => All.baseLe hp.tail) ht (fun h' hp => rq.le (All.baseLe hp.tail)) fun v4 h5 hp => ?_
      refine wk ?_
      unfold S3_j2
      refine wk ?_
      refine la1 hp (c := planC v p) (Nat.le_refl 3) rfl ?_
      refine T_scriptMay (ht.le (All.baseLe hp.tail.tail)) ?_
      rw [hm]
      refine wk ?_
      exact hK _
    refine ⟨by rw [ldV_agg hp.pt1 _ _ (Nat.le_refl 3)]; rfl, ?_⟩
    refine T_started hp (fun h' hp => All.baseLe hp.tail.tail) ht (fun hm2 => by rw [hm] at hm2; cases hm2) fun _ b2 h4 hp => ?_
    refine la2 hp (c := planC v p) (Nat.le_refl 3) rfl ?_
    refine T_Trim hp (fun h' hp => All.baseLe hp.tail.tail.tail) ht (fun h' hp => rq.le (All.baseLe hp.tail.tail.tail)) fun v4 h5 hp => ?_
    have e0 : trimE p ks = 0 := by unfold trimE; rw [if_pos ⟨hm, by omega⟩]
    have e1 : trimA p ks = (trims (Mc.new p) ks).1 := by unfold trimA; rw [if_pos ⟨hm, by omega⟩]
    rw [e0]
    rw [e1] at hp
    refine wk ?_
    refine T_Num ?_
    refine wk ?_
    unfold S3_j2
    refine wk ?_
    have o0 := Mc.new_ok hm
    have tr := trims_run (ks := ks) (M := Mc.new p)
    have sim := trims_sim (ks := ks) (Mc.sim.refl (Mc.new p)) o0 o0 Mc.new_una (by show 0 + (ks.length : Int) ≤ 65536; omega) (by show 0 + (ks.length : Int) ≤ 65536; omega)
    have sh := trims_short (ks := ks) (M := Mc.new p)
    generalize (trims (Mc.new p) ks).2 = N at tr sim
    generalize (trims (Mc.new p) ks).1 = qs at hp tr sh
    have l4 : lnV v4 = some (i64 qs.length) := by have := All.len hp; rw [List.length_map] at this; exact this
    unfold S3_j3
    replace hp := hn (hp.re 5 [2, 1, 0, 3, 4])
    refine Lfp_fam (ι := Nat) (fun i => [qv, ptr d, ptr b1, ptr b2, v4, i64 i]) (fun i h' => i ≤ ks.length ∧ All (mcP b1 ((Mc.new p).run (ks.take i)) :: mcP b2 (Mc.new p) :: rowP 1 v4 (qs.map encI) :: pts d (.row 24 (planC v p) 3 true) :: [baseP g]) h') (fun i => ks.length - i) ?_ 0 h5 ⟨by omega, hp⟩
    clear hp
    rintro i h6 X ⟨hi, hp⟩ again
    simp only [tup_zero, tup_succ]
    have oM : ((Mc.new p).run (ks.take i)).ok := Mc.run_ok o0
    refine bnd_of hpl ?_
    refine wk ?_
    refine ifV_cases (fun c => ?_) fun c => ?_
    · obtain ⟨x, hx⟩ : ∃ x, ks[i]? = some x := ⟨_, List.getElem?_eq_getElem (by omega)⟩
      obtain ⟨q, d1, d2⟩ := (rq.le (All.baseLe hp.tail.tail.tail.tail)).get1 (i := i) (x := i64 x) (by rw [List.getElem?_map, hx]; rfl) .i64
      refine bnd_of d1 (bnd_of d2 ?_)
      refine T_mPick hp oM fun h7 hp => ?_
      refine wk ?_
      refine again (i + 1) _ ⟨by omega, ?_⟩ (by omega)
      have e1 : ks.take (i + 1) = ks.take i ++ [x] := by rw [List.take_add_one, hx]; rfl
      rw [e1, Mc.run_snoc]
      exact hp
    have hik : i = ks.length := by omega
    subst hik
    clear again
    rw [List.take_length] at hp oM
    refine Lfp_fam (ι := Nat) (fun j => [qv, ptr d, ptr b1, ptr b2, v4, i64 j]) (fun j h' => j ≤ qs.length ∧ All (mcP b1 ((Mc.new p).run ks) :: mcP b2 ((Mc.new p).run (qs.take j)) :: rowP 1 v4 (qs.map encI) :: pts d (.row 24 (planC v p) 3 true) :: [baseP g]) h') (fun j => qs.length - j) ?_ 0 h6 ⟨by omega, hp⟩
    clear hp
    rintro j h7 Y ⟨hj, hp⟩ again
    simp only [tup_zero, tup_succ]
    have oN : ((Mc.new p).run (qs.take j)).ok := Mc.run_ok o0
    refine bnd_of l4 ?_
    refine wk ?_
    refine ifV_cases (fun c => ?_) fun c => ?_
    · obtain ⟨x, hx⟩ : ∃ x, qs[j]? = some x := ⟨_, List.getElem?_eq_getElem (by omega)⟩
      obtain ⟨q, d1, d2⟩ := (All.rows (hn (hp.up 2))).get1 (i := j) (x := i64 x) (by rw [List.getElem?_map, hx]; rfl) .i64
      refine bnd_of d1 (bnd_of d2 ?_)
      refine T_mPick (hn (hp.up 1)) oN fun h8 hp => ?_
      refine wk ?_
      refine again (j + 1) _ ⟨by omega, ?_⟩ (by omega)
      have e1 : qs.take (j + 1) = qs.take j ++ [x] := by rw [List.take_add_one, hx]; rfl
      rw [e1, Mc.run_snoc]
      exact hn (hp.re 2 [1, 0])
    have hjk : j = qs.length := by omega
    subst hjk
    clear again
    rw [List.take_length, tr] at hp oN
    generalize (Mc.new p).run ks = M at hp oM sim
    refine Lfp_fam (ι := Nat) (fun j => [qv, ptr d, ptr b1, ptr b2, v4, i64 j]) (fun j h' => j ≤ p.threads.length ∧ All (mcP b1 M :: mcP b2 N :: rowP 1 v4 (qs.map encI) :: pts d (.row 24 (planC v p) 3 true) :: [baseP g]) h') (fun j => p.threads.length - j) ?_ 0 h7 ⟨by omega, hp⟩
    clear hp
    rintro t h8 Z ⟨htt, hp⟩ again
    simp only [tup_zero, tup_succ]
    refine wk ?_
    refine bnd_of hvl ?_
    refine wk ?_
    refine ifV_cases (fun c => ?_) fun c => ?_
    · refine T_answered hp oM fun h9 hp => ?_
      refine T_answered (hn (hp.up 1)) oN fun h10 hp => ?_
      rw [sim.ans t]
      refine wk ?_
      rw [decide_eq_true rfl]
      refine wk ?_
      exact again (t + 1) _ ⟨by omega, hn (hp.re 2 [1, 0])⟩ (by omega)
    clear again
    refine bnd_of l4 (bnd_of hpl ?_)
    refine wk ?_
    rw [decide_eq_true (by omega)]
    refine wk ?_
    refine T_mWords hp fun w1 h10 hp => ?_
    refine T_mWords (hn (hp.up 2)) fun w2 h11 hp => ?_
    refine T_SameInts (All.rows (hn (hp.up 2))) (All.rows hp) ?_
    rw [decide_eq_true (by rw [sim.A])]
    refine wk ?_
    refine T_mDone (hn (hp.up 3)) oM ?_
    refine T_mDone (hn (hp.up 1)) oN ?_
    rw [sim.done]
    refine wk ?_
    rw [beq_self_eq_true]
    exact hK _
  have hpl : lnV pv = some (i64 picks.length) := by have := rp.len; rw [List.length_map] at this; exact this
  refine bnd_of hpl ?_
  refine wk ?_
  refine ifV_cases (fun c => ?_) fun c => ?_
  · obtain ⟨v', e, r⟩ := rp.take (k := 300) (by rw [List.length_map]; omega) .i64
    refine bnd_of e ?_
    rw [← List.map_take] at r
    exact j1 _ _ (by rw [List.length_take]; omega) r
  · exact j1 _ _ (by omega) rp
end
end Go.Proofs.YtcpfkkppfgolaaaGreatDoor
