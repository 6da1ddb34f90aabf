/- Several texts in one, each under its own remark or none; nothing here is a statement on the program. -/
import Derived.Test.YtnhiagemjonglaaGreatKY
import Derived.Test.YtnhiagemjonglaaGreatKW
import Derived.Test.YtnhiagemjonglaaGreatKE
namespace Go.Proofs.YtnhiagemjonglaaGreat
open Go GW Go.Proofs
attribute [local irreducible] bnd ldV stV ifV binV eqI
set_option linter.unusedVariables false
set_option linter.unusedSimpArgs false
set_option maxRecDepth 20000
/-- a row with more behind it -/
def lentP (size : Nat) (v : Value) (cs ms : List (List Value)) : Part := fun h => ∃ a cap, v = .slice a cs.length cap ∧ rowP size (.slice a (cs ++ ms).length cap) (cs ++ ms) h
theorem lentP.row {size : Nat} {v : Value} {cs ms : List (List Value)} {h : GH} (o : lentP size v cs ms h) : rowP size v cs h := by
  obtain ⟨a, cap, rfl, a', cap', junk, e, c2, c3, c4, c5⟩ := o
  cases e
  rw [List.length_append] at c2 c3
  refine ⟨a, cap, ms.flatten ++ junk, rfl, by omega, by omega, fun c hc => c4 c (List.mem_append_left _ hc), ?_⟩
  rcases c5 with ⟨q1, q2, q3⟩ | ⟨b, T, q1, q2, q3⟩
  · left; exact ⟨q1, (List.append_eq_nil_iff.1 q2).1, q3⟩
  · right
    refine ⟨b, T, q1, ?_, ?_⟩
    · rw [← List.append_assoc, ← List.flatten_append]; exact q2
    · rw [List.all_append, q3, Bool.and_true]
      exact (flatten_good ms fun c hc => c4 c (List.mem_append_right _ hc)).2
def Op.mark : Op := ⟨0, 0, 0, 77777⟩
section
variable {a b c : Nat} {A : Ar} {R : List Part} {h : GH} {K : Value → GH → Prop}
theorem T_LendOps {sv : Value} {ops : List Op} (hp : All R h) (hs : ∀ h', All R h' → rowsAt h' 4 sv (ops.map Op.enc)) (hb : (ops.length + 2) * 32 ≤ 140737488355328) (hK : ∀ v' h', All (lentP 4 v' (ops.map Op.enc) ([Op.mark, Op.mark].map Op.enc) :: R) h' → K v' h') : T Tryz.prog 25 [sv] h K := by
  apply S25_T
  unfold S25
  have hc : ∀ {K' : Value → GH → Prop}, (∀ v' h', All (rowP 4 v' (ops.map Op.enc) :: R) h' → K' v' h') → T Tryz.prog 57 [sv] h K' := by
    intro K' k
    apply S57_T
    unfold S57
    refine bs0 (size := 4) hp [] rfl rfl (by simp) (fun c hc => by cases hc) fun nv h4 hp => ?_
    have hr := hs _ hp.tail
    refine ap0 hp hr (Op.all_good ops) (by decide) (by simp; omega) fun opv h5 hp => ?_
    exact k _ _ hp
  refine hc fun v1 h1 hp => ?_
  (repeat first|refine wx ?_|refine wy ?_|refine wz ?_|refine wv ?_|refine wh ?_)
  refine bs0 (size := 4) hp ([Op.mark, Op.mark].map Op.enc) rfl rfl (by simp) (Op.all_good _) fun mv h2 hp => ?_
  have hr := All.rows hp
  refine ap0 (hp.up 1) hr (Op.all_good _) (by decide) (by simp; omega) fun v2 h3 hp => ?_
  have hln := (hs _ hp.tail.tail).len
  refine bnd_of hln ?_
  obtain ⟨a, cap, junk, rfl, c2, c3, c4, c5⟩ := hp.row
  rw [List.length_append, List.length_map] at c2
  rw [List.length_map]
  refine bnd_of (slV_len (n := ops.length) (by simp at c2; omega) .i64) ?_
  replace hp := hp.re 2 [0]
  replace hp := hn hp
  refine hK _ _ (hp.head fun _ z => ⟨a, cap, by simp, z⟩)
theorem T_KeptOps {v sv : Value} {ops : List Op} (hp : All (lentP 4 v (ops.map Op.enc) ([Op.mark, Op.mark].map Op.enc) :: R) h) (hs : rowsAt h 4 sv (ops.map Op.enc)) (hK : K (.bool true) h) : T Tryz.prog 27 [v, sv] h K := by
  apply S27_T
  unfold S27
  have hrow : rowP 4 v (ops.map Op.enc) h := (hp.head fun _ z => z.row).row
  obtain ⟨h1, h2, _, l1, _, ⟨a, cap, rfl, q⟩, _⟩ := hp
  have full : rowP 4 (.slice a (ops.map Op.enc ++ [Op.mark, Op.mark].map Op.enc).length cap) (ops.map Op.enc ++ [Op.mark, Op.mark].map Op.enc) h := q.le l1
  have hln := hrow.rows.len
  have hmx := hrow.rows.max
  have fr := full.rows
  obtain ⟨a', cap', junk, e, c2, c3, _⟩ := full
  cases e
  simp only [List.length_append, List.length_map, List.length_cons, List.length_nil] at c2 c3 hln hmx fr ⊢
  refine bnd_of hln ?_
  (repeat first|refine wx ?_|refine wy ?_|refine wz ?_|refine wv ?_|refine wh ?_)
  refine bnd_of (v := .slice a (ops.length + 2) cap) (by
    have := slV_len (a := a) (cap := cap) (n := ops.length) (size := 4) (m := ops.length + 2) (by omega) .i64
    rw [show ((ops.length : Int) + 2) = ((ops.length + 2 : Nat) : Int) by omega]
    exact this) ?_
  have hrr := hrow.rows
  rw [List.length_map] at hrr
  refine T_SameOps hrr hs ?_
  rw [decide_eq_true rfl]
  (repeat first|refine wx ?_|refine wy ?_|refine wz ?_|refine wv ?_|refine wh ?_)
  have hln2 := hs.len
  rw [List.length_map] at hln2
  refine bnd_of hln2 ?_
  obtain ⟨p1, e1, e2⟩ := fr.get (i := ops.length) (c := Op.mark.enc) (by rw [List.getElem?_append_right (by simp)]; simp) .i64
  obtain ⟨p2, e3, e4⟩ := fr.get (i := ops.length + 1) (c := Op.mark.enc) (by rw [List.getElem?_append_right (by simp)]; simp) .i64
  refine bnd_of e1 (bnd_of e2 ?_)
  refine wK (v := Op.mark.enc) rfl ?_
  refine bnd_of (Op.eqLaw Op.mark Op.mark) ?_
  rw [decide_eq_true rfl]
  (repeat first|refine wx ?_|refine wy ?_|refine wz ?_|refine wv ?_|refine wh ?_)
  refine bnd_of hln2 ?_
  (repeat first|refine wx ?_|refine wy ?_|refine wz ?_|refine wv ?_|refine wh ?_)
  refine bnd_of (by rw [show ((ops.length : Int) + 1) = ((ops.length + 1 : Nat) : Int) by omega]; exact e3) (bnd_of e4 ?_)
  refine wK (v := Op.mark.enc) rfl ?_
  refine bnd_of (Op.eqLaw Op.mark Op.mark) ?_
  rw [decide_eq_true rfl]
  exact hK
theorem T_SpoilOps {v : Value} {ops : List Op} (hp : All (rowP 4 v (ops.map Op.enc) :: R) h) (hK : ∀ h', All R h' → K (.tuple #[]) h') : T Tryz.prog 28 [v] h K := by
  apply S28_T
  unfold S28
  refine Lfp_fam (ι := Nat × List Op) (fun p => [v, i64 p.1]) (fun p h' => p.1 ≤ ops.length ∧ p.2.length = ops.length ∧ All (rowP 4 v (p.2.map Op.enc) :: R) h') (fun p => ops.length - p.1) ?_ (0, ops) h ⟨by omega, rfl, hp⟩
  rintro ⟨i, xs⟩ h2 X ⟨hi, hl, hp⟩ again
  simp only at hi hl hp
  simp only [tup_zero, tup_succ]
  have hmx := (All.rows hp).max
  rw [List.length_map] at hmx
  have hln := All.len hp
  rw [List.length_map] at hln
  refine bnd_of hln ?_
  (repeat first|refine wx ?_|refine wy ?_|refine wz ?_|refine wv ?_|refine wh ?_)
  refine ifV_cases (fun q => ?_) fun q => hK _ hp.tail
  obtain ⟨o, ho⟩ : ∃ o, xs[i]? = some o := ⟨_, List.getElem?_eq_getElem (by omega)⟩
  have hoe : (xs.map Op.enc)[i]? = some o.enc := by rw [List.getElem?_map, ho]; rfl
  obtain ⟨bb, i1, i2, i3, i4⟩ := hp.elt hoe .i64
  obtain ⟨y, hy⟩ := binV_xor o.x 90
  obtain ⟨h3, e3, hp3⟩ := i4 3 1 (i64 y) rfl (by decide) rfl
  refine bnd_of i1 (bnd_of rfl (bnd_of (i2 3 1 _ rfl) (bnd_of hy (bnd_of i1 (bnd_of rfl (bnd_of e3 ?_))))))
  (repeat first|refine wx ?_|refine wy ?_|refine wz ?_|refine wv ?_|refine wh ?_)
  refine again (i + 1, xs.set i ⟨o.kind, o.a, o.b, y⟩) _ ⟨by simp only; omega, by simp only [List.length_set]; omega, ?_⟩ (by simp only; omega)
  simp only
  rw [List.map_set]
  exact hp3
theorem T_SpoilAnswers {v : Value} {as_ : List Answer} (hp : All (rowP 2 v (as_.map Answer.enc) :: R) h) (hK : ∀ h', All R h' → K (.tuple #[]) h') : T Tryz.prog 31 [v] h K := by
  apply S31_T
  unfold S31
  refine Lfp_fam (ι := Nat × List Answer) (fun p => [v, i64 p.1]) (fun p h' => p.1 ≤ as_.length ∧ p.2.length = as_.length ∧ All (rowP 2 v (p.2.map Answer.enc) :: R) h') (fun p => as_.length - p.1) ?_ (0, as_) h ⟨by omega, rfl, hp⟩
  rintro ⟨i, xs⟩ h2 X ⟨hi, hl, hp⟩ again
  simp only at hi hl hp
  simp only [tup_zero, tup_succ]
  have hmx := (All.rows hp).max
  rw [List.length_map] at hmx
  have hln := All.len hp
  rw [List.length_map] at hln
  refine bnd_of hln ?_
  (repeat first|refine wx ?_|refine wy ?_|refine wz ?_|refine wv ?_|refine wh ?_)
  refine ifV_cases (fun q => ?_) fun q => hK _ hp.tail
  obtain ⟨o, ho⟩ : ∃ o, xs[i]? = some o := ⟨_, List.getElem?_eq_getElem (by omega)⟩
  have hoe : (xs.map Answer.enc)[i]? = some o.enc := by rw [List.getElem?_map, ho]; rfl
  obtain ⟨bb, i1, i2, i3, i4⟩ := hp.elt hoe .i64
  obtain ⟨y, hy⟩ := binV_xor o.num 90
  obtain ⟨h3, e3, hp3⟩ := i4 1 1 (i64 y) rfl (by decide) rfl
  refine bnd_of i1 (bnd_of rfl (bnd_of (i2 1 1 _ rfl) (bnd_of hy (bnd_of i1 (bnd_of rfl (bnd_of e3 ?_))))))
  (repeat first|refine wx ?_|refine wy ?_|refine wz ?_|refine wv ?_|refine wh ?_)
  refine again (i + 1, xs.set i ⟨o.code, y⟩) _ ⟨by simp only; omega, by simp only [List.length_set]; omega, ?_⟩ (by simp only; omega)
  simp only
  rw [List.map_set]
  exact hp3
end
end Go.Proofs.YtnhiagemjonglaaGreat
namespace Go.Proofs.YtnhiagemjonglaaGreat
open Go GW Go.Proofs
attribute [local irreducible] bnd ldV stV ifV binV eqI
set_option linter.unusedVariables false
set_option linter.unusedSimpArgs false
set_option maxRecDepth 20000
/-- so many steps, until it is over, counted; none: an error -/
def aruns : Nat → At → Ar → Bool → Nat → Option (At × Ar × Bool × Nat)
  | 0, x, A, ov, m => some (x, A, ov, m)
  | n + 1, x, A, ov, m =>
    match ov with
    | true => some (x, A, ov, m)
    | false =>
      match (x.step A).2.1 with
      | 0 => aruns n (x.step A).1 (x.step A).2.2 (x.step A).1.over (m + 1)
      | _ => none
def aawakeA : Ar := shelfA [124] []
def aawakeX : At := .new 1 0 5 9 [⟨3, 0, 0, 10⟩]
def aawakeFin (r : Option (At × Ar × Bool × Nat)) : Bool :=
  match r with
  | some (x, A, ov, m) => ov && (x.won && (decide (x.ans = [⟨0, 20⟩]) && (A.at 0 == 84 && m == 19)))
  | none => false
theorem aawake_fin : aawakeFin (aruns 60 aawakeX aawakeA false 0) = true := by decide +kernel
theorem aawake_may : At.may 1 0 5 9 [⟨3, 0, 0, 10⟩] := ⟨by decide, by decide, by decide, by decide⟩
section
variable {a b c : Nat} {A B : Ar} {R : List Part} {h : GH} {K : Value → GH → Prop} {x : At}
theorem T_aawake (hp : All R h) (hK : ∀ h', All R h' → K (.bool true) h') : T Tryz.prog 9 [] h K := by
  apply S9_T
  unfold S9
  refine bs0 (size := 1) hp ([124].map encI) rfl rfl (by simp) (encI_good _) fun cv h1 hp => ?_
  refine T_shelf (us := []) (cells := [124]) (dss := []) hp (fun h' hp => hp.rows) (fun h' hp => ⟨rowsAt_nil _ _, .nil⟩) (fun x hx => by
    simp only [List.mem_cons, List.not_mem_nil, or_false] at hx; subst hx; constructor <;> decide) fun a b h2 hp => ?_
  replace hp : All (arP 127 a aawakeA :: R) h2 := hp.re 3 [0]
  have hA : aawakeA.ok := shelfA_ok fun x hx => by
    simp only [List.mem_cons, List.not_mem_nil, or_false] at hx; subst hx; constructor <;> decide
  (repeat first|refine wx ?_|refine wy ?_|refine wz ?_|refine wv ?_|refine wh ?_)
  refine bs0 (size := 4) hp ([Op.mk 3 0 0 10].map Op.enc) rfl rfl (by simp) (Op.all_good _) fun ov1 h3 hp => ?_
  refine T_atNew (ops := [⟨3, 0, 0, 10⟩]) hp (fun h' hp => hp.rows) (fun m => absurd aawake_may m) fun _ tb h4 hp => ?_
  replace hp := hp.re 3 [0, 2]
  replace hp := Go.Proofs.YtnhiagemjonglaaGreat.hn hp
  (repeat first|refine wx ?_|refine wy ?_|refine wz ?_|refine wv ?_|refine wh ?_)
  refine bs0 (size := 4) hp ([Op.mk 5 0 0 0].map Op.enc) rfl rfl (by simp) (Op.all_good _) fun ov2 h5 hp => ?_
  refine T_atNew (ops := [⟨5, 0, 0, 0⟩]) hp (fun h' hp => hp.rows) (fun m h6 hp => ?_) fun m => absurd m.2.2.1 (by decide)
  (repeat first|refine wx ?_|refine wy ?_|refine wz ?_|refine wv ?_|refine wh ?_)
  refine T_atNew (ops := []) hp (fun h' hp => rowsAt_nil _ _) (fun m h7 hp => ?_) fun m => absurd m.2.2.2 (by decide)
  (repeat first|refine wx ?_|refine wy ?_|refine wz ?_|refine wv ?_|refine wh ?_)
  unfold S9_j1
  replace hp := hp.tail
  have xok : aawakeX.ok := At.new_ok aawake_may
  have fin := aawake_fin
  cases hr : aruns 60 aawakeX aawakeA false 0 with
  | none => rw [hr] at fin; cases fin
  | some z =>
    obtain ⟨x', A', ov', m'⟩ := z
    rw [hr] at fin
    simp only [aawakeFin, Bool.and_eq_true, beq_iff_eq, decide_eq_true_eq] at fin
    obtain ⟨rfl, fw, fa, f0, rfl⟩ := fin
    replace hp : All (attP tb aawakeX :: arP 127 a aawakeA :: R) h7 := hp
    refine Lfp_fam (ι := Nat × At × Ar × Bool × Nat) (fun p => [ptr a, ptr tb, i64 0, i64 1700, i64 1700, .bool p.2.2.2.1, i64 p.2.2.2.2, i64 p.1]) (fun p h' => p.1 ≤ 60 ∧ p.2.2.2.2 ≤ p.1 ∧ p.2.1.ok ∧ p.2.2.1.ok ∧ aruns (60 - p.1) p.2.1 p.2.2.1 p.2.2.2.1 p.2.2.2.2 = some (x', A', true, 19) ∧ All (attP tb p.2.1 :: arP 127 a p.2.2.1 :: R) h') (fun p => 60 - p.1) ?_ (0, aawakeX, aawakeA, false, 0) h7 ⟨by omega, by simp, xok, hA, hr, hp⟩
    clear hp hr
    rintro ⟨i, x, B, ov, m⟩ h9 X ⟨hi, hm, hG, hB, hq, hp⟩ again
    simp only at hi hm hG hB hq hp
    simp only [tup_zero, tup_succ]
    have key : (x, B, ov, m) = (x', A', true, 19) → ∀ s1 a1, S9_j3 s1 (ptr a) (ptr tb) (i64 0) (i64 1700) (i64 1700) (.bool ov) (i64 m) h9 K a1 := by
      intro e s1 a1
      cases e
      unfold S9_j3
      refine L_Load (hp.up 1) (by decide) (by decide) fun h10 hp => ?_
      rw [f0]
      (repeat first|refine wx ?_|refine wy ?_|refine wz ?_|refine wv ?_|refine wh ?_)
      refine T_atStepNil ?_
      (repeat first|refine wx ?_|refine wy ?_|refine wz ?_|refine wv ?_|refine wh ?_)
      refine T_Num ?_
      (repeat first|refine wx ?_|refine wy ?_|refine wz ?_|refine wv ?_|refine wh ?_)
      refine T_Num ?_
      (repeat first|refine wx ?_|refine wy ?_|refine wz ?_|refine wv ?_|refine wh ?_)
      refine T_Num ?_
      (repeat first|refine wx ?_|refine wy ?_|refine wz ?_|refine wv ?_|refine wh ?_)
      replace hp := hp.up 1
      replace hp := Go.Proofs.YtnhiagemjonglaaGreat.hn hp
      refine T_atWon hp ?_
      rw [fw]
      (repeat first|refine wx ?_|refine wy ?_|refine wz ?_|refine wv ?_|refine wh ?_)
      refine T_atAnswers hp (by rw [fa]; decide) fun av h11 hp => ?_
      rw [fa] at hp
      (repeat first|refine wx ?_|refine wy ?_|refine wz ?_|refine wv ?_|refine wh ?_)
      refine bs0 (size := 2) hp ([Answer.mk 0 20].map Answer.enc) rfl rfl (by simp) (Answer.all_good _) fun bv h12 hp => ?_
      refine T_SameAnswers (All.rows (hp.up 1)) (All.rows hp) ?_
      rw [decide_eq_true rfl]
      (repeat first|refine wx ?_|refine wy ?_|refine wz ?_|refine wv ?_|refine wh ?_)
      refine T_Num ?_
      (repeat first|refine wx ?_|refine wy ?_|refine wz ?_|refine wv ?_|refine wh ?_)
      refine T_Num ?_
      (repeat first|refine wx ?_|refine wy ?_|refine wz ?_|refine wv ?_|refine wh ?_)
      exact hK _ hp.tail.tail.tail.tail
    (repeat first|refine wx ?_|refine wy ?_|refine wz ?_|refine wv ?_|refine wh ?_)
    refine ifV_cases (fun c => ?_) fun c => ?_
    · cases ov with
      | true =>
        (repeat first|refine wx ?_|refine wy ?_|refine wz ?_|refine wv ?_|refine wh ?_)
        refine key ?_ _ _
        obtain ⟨n, hn⟩ : ∃ n, 60 - i = n + 1 := ⟨59 - i, by omega⟩
        rw [hn] at hq
        unfold aruns at hq
        exact Option.some.inj hq
      | false =>
        (repeat first|refine wx ?_|refine wy ?_|refine wz ?_|refine wv ?_|refine wh ?_)
        unfold S9_j2
        obtain ⟨n, hn⟩ : ∃ n, 60 - i = n + 1 := ⟨59 - i, by omega⟩
        rw [hn] at hq
        unfold aruns at hq
        simp only at hq
        replace hp := hp.up 1
        replace hp := Go.Proofs.YtnhiagemjonglaaGreat.hn hp
        refine T_atStep hp hG fun h10 hp => ?_
        have hst := At.step_ok hG hB
        split at hq
        · rename_i e0
          rw [e0]
          (repeat first|refine wx ?_|refine wy ?_|refine wz ?_|refine wv ?_|refine wh ?_)
          refine T_Num ?_
          (repeat first|refine wx ?_|refine wy ?_|refine wz ?_|refine wv ?_|refine wh ?_)
          refine again (i + 1, (x.step B).1, (x.step B).2.2, (x.step B).1.over, m + 1) _ ⟨by simp only; omega, by simp only; omega, hst.1, hst.2, ?_, hp.up 1⟩ (by simp only; omega)
          have en : 60 - (i + 1) = n := by omega
          simp only [en]; exact hq
        · cases hq
    · have : 60 - i = 0 := by omega
      rw [this] at hq
      unfold aruns at hq
      exact key (Option.some.inj hq) _ _
end
end Go.Proofs.YtnhiagemjonglaaGreat
namespace Go.Proofs.YtnhiagemjonglaaGreat
open Go GW Go.Proofs
attribute [local irreducible] bnd ldV stV ifV binV eqI
set_option linter.unusedVariables false
set_option linter.unusedSimpArgs false
set_option maxRecDepth 20000
theorem Vw.one_short {v : Vw} {o : Op} : (v.one o).ans.length ≤ 1 := by
  unfold Vw.one
  simp only
  split <;> simp
theorem Vw.do_short {v : Vw} {ops : List Op} (m : Txn.may ops = true) : (v.do_ ops).ans.length ≤ 2 := by
  have key : ∀ (os : List Op) (w : Vw) (rs : List Answer), (v.doFrom os w rs).ans.length ≤ rs.length + os.length := by
    intro os
    induction os with
    | nil => intro w rs; simp [Vw.doFrom]
    | cons o os ih =>
      intro w rs
      have h1 := Vw.one_short (v := w) (o := o)
      unfold Vw.doFrom
      split
      · simp
      · split
        · have := ih (w.one o).view (rs ++ (w.one o).ans)
          simp only [List.length_append, List.length_cons] at this ⊢
          omega
        · simp only [List.length_append, List.length_cons]; omega
  unfold Txn.may at m
  simp only [Bool.and_eq_true, decide_eq_true_eq] at m
  have := key ops v []
  unfold Vw.do_
  simp at this
  omega
theorem At.step_short {x : At} {A : Ar} (o : x.ok) (h : x.ans.length ≤ 2) : (x.step A).1.ans.length ≤ 2 := by
  unfold At.step
  split
  · exact h
  · split
    · simp only
      split
      · exact h
      · split
        · unfold At.known At.asked
          split
          · exact h
          · exact Vw.do_short o.ops
        · exact h
    · exact h
    · simp only
      split <;> exact h
def txnB (g : GH) (c : List Value) (t : List Op) : Prop := txnC g c t ∧ (t.length + 2) * 32 ≤ 140737488355328
theorem set_self {α : Type} {l : List α} {k : Nat} {x : α} (h : l[k]? = some x) : l.set k x = l := by
  have hk := (List.getElem?_eq_some_iff.1 h).1
  refine List.ext_getElem? fun j => ?_
  rw [List.getElem?_set]
  split
  · rename_i e; subst e; exact h.symm
  · rfl
section
variable {a b c : Nat} {A B : Ar} {R : List Part} {h : GH} {K : Value → GH → Prop} {r : Rd}
set_option maxHeartbeats 1000000 in
theorem T_Attempts {g : GH} {cv dv rv pv : Value} {us : List Value} {es : List (List Value)} {cells picks : List Int} {dss : List (List Sw)} {txns : List (List Op)} (hp : All [baseP g] h) (rc : rowsAt g 1 cv (cells.map encI)) (rd : swapsAt g dv us dss) (rr : rowsAt g 1 rv es) (rx : All2 (txnB g) es txns) (rp : rowsAt g 1 pv (picks.map encI))
    (hc : ∀ x ∈ cells, I64 x) (hpk : ∀ x ∈ picks, I64 x) (hK : ∀ h', K (.bool true) h') : T Tryz.prog 7 [cv, dv, rv, pv] h K := by
  apply S7_T
  unfold S7
  refine T_shelf (us := us) (cells := cells) (dss := dss) hp (fun h' hp => rc.le (baseP.le hp)) (fun h' hp => ⟨rd.1.le (baseP.le hp), rd.2.imp fun _ _ q => q.le (baseP.le hp)⟩) hc fun a b h1 hp => ?_
  have hA : (shelfA cells dss).ok := shelfA_ok hc
  generalize shelfA cells dss = A at hp hA
  (repeat first|refine wx ?_|refine wy ?_|refine wz ?_|refine wv ?_|refine wh ?_)
  unfold S7_j1
  have hrl : lnV rv = some (i64 es.length) := rr.len
  have hpl : lnV pv = some (i64 picks.length) := by have := rp.len; rw [List.length_map] at this; exact this
  have hrm : es.length ≤ 9223372036854775807 := rr.max
  have hpm : picks.length ≤ 9223372036854775807 := by have := rp.max; rw [List.length_map] at this; exact this
  refine Lfp_fam (ι := Nat × List At × Value × Value) (fun p => [rv, pv, ptr a, ptr b, p.2.2.1, p.2.2.2, i64 p.1])
    (fun p h' => p.1 ≤ es.length ∧ p.1 ≤ 4 ∧ p.2.1.length ≤ p.1 ∧ (∀ H ∈ p.2.1, H.ok ∧ H.ans.length ≤ 2) ∧ ∃ bs cs : List Nat, bs.length = p.2.1.length ∧ cs.length = p.2.1.length ∧ All (arP 127 a A :: arP 140 b A :: rowP 1 p.2.2.1 (bs.map encP) :: rowP 1 p.2.2.2 (cs.map encP) :: eachP attP bs p.2.1 :: eachP rattP cs p.2.1 :: [baseP g]) h')
    (fun p => es.length - p.1) ?_ (0, [], .slice none 0 0, .slice none 0 0) h1 ⟨by omega, by omega, by simp, (fun _ h => by cases h), [], [], rfl, rfl, ?_⟩
  rotate_left
  · have z1 := All.emp_cons (P := eachP rattP [] []) hp (by exact trivial)
    have z2 := All.emp_cons (P := eachP attP [] []) z1 (by exact trivial)
    have z3 := All.emp_cons (P := rowP 1 (.slice none 0 0) []) z2 (rowP_nil _ _)
    have z4 := All.emp_cons (P := rowP 1 (.slice none 0 0) []) z3 (rowP_nil _ _)
    exact z4.re 6 [4, 5, 0, 1, 2, 3]
  rintro ⟨i, Hs, hv, sv⟩ h2 X ⟨hi, hi4, hl, hok, bs, cs, hbl, hcl, hp⟩ again
  simp only at hi hi4 hl hok hbl hcl hp
  simp only [tup_zero, tup_succ]
  have key : S7_j4 (tup [rv, pv, ptr a, ptr b, hv, sv, i64 i]) pv (ptr a) (ptr b) hv sv h2 K X := by
    unfold S7_j4
    clear again
    refine Lfp_fam (ι := Nat × List At × Ar) (fun p => [pv, ptr a, ptr b, hv, sv, i64 p.1])
      (fun p h' => p.1 ≤ picks.length ∧ p.1 ≤ 300 ∧ p.2.2.ok ∧ p.2.1.length = bs.length ∧ (∀ H ∈ p.2.1, H.ok ∧ H.ans.length ≤ 2) ∧ All (arP 127 a p.2.2 :: arP 140 b p.2.2 :: rowP 1 hv (bs.map encP) :: rowP 1 sv (cs.map encP) :: eachP attP bs p.2.1 :: eachP rattP cs p.2.1 :: [baseP g]) h')
      (fun p => picks.length - p.1) ?_ (0, Hs, A) h2 ⟨by omega, by omega, hA, hbl.symm, hok, hp⟩
    rintro ⟨j, Gs, B⟩ h3 Y ⟨hj, hj300, hB, hgl, hgok, hp⟩ again
    simp only at hj hj300 hB hgl hgok hp
    simp only [tup_zero, tup_succ]
    have fin : T Tryz.prog 32 [ptr a, ptr b] h3 (fun v h' => ifV v (T Tryz.prog 9 [] h' fun v h' => K v h') (K (.bool false) h')) := by
      refine T_same hp fun h4 hp => ?_
      (repeat first|refine wx ?_|refine wy ?_|refine wz ?_|refine wv ?_|refine wh ?_)
      exact T_aawake hp fun h5 _ => hK h5
    refine bnd_of hpl ?_
    (repeat first|refine wx ?_|refine wy ?_|refine wz ?_|refine wv ?_|refine wh ?_)
    refine ifV_cases (fun c => ?_) fun c => fin
    (repeat first|refine wx ?_|refine wy ?_|refine wz ?_|refine wv ?_|refine wh ?_)
    refine ifV_cases (fun c2 => ?_) fun c2 => fin
    have hhl : lnV hv = some (i64 bs.length) := by
      have := All.len (hp.re 6 [2]); rw [List.length_map] at this; exact this
    refine bnd_of hhl ?_
    (repeat first|refine wx ?_|refine wy ?_|refine wz ?_|refine wv ?_|refine wh ?_)
    refine ifV_cases (fun c3 => ?_) fun c3 => fin
    clear fin
    unfold S7_j5
    obtain ⟨x, hx⟩ : ∃ x, picks[j]? = some x := ⟨_, List.getElem?_eq_getElem (by omega)⟩
    have hxe : (picks.map encI)[j]? = some [i64 x] := by rw [List.getElem?_map, hx]; rfl
    have hb : HLe g h3 := baseP.le (hp.up 6)
    obtain ⟨p, e1, e2⟩ := (rp.le hb).get1 hxe .i64
    refine bnd_of e1 (bnd_of e2 ?_)
    refine bnd_of (binV_and_mask x 10 (by decide) (by decide)) ?_
    refine bnd_of hhl ?_
    have hbsmall : bs.length ≤ 4 := by omega
    refine bnd_of (rem_nn (by omega) (by omega)) ?_
    obtain ⟨k, hk⟩ : ∃ k : Nat, x % ((2 ^ 10 : Nat) : Int) % (bs.length : Int) = (k : Int) := ⟨(x % ((2 ^ 10 : Nat) : Int) % (bs.length : Int)).toNat, by have := Int.emod_nonneg (x % ((2 ^ 10 : Nat) : Int)) (show (bs.length : Int) ≠ 0 by omega); omega⟩
    have hkl : k < bs.length := by have := Int.emod_lt_of_pos (x % ((2 ^ 10 : Nat) : Int)) (show (0 : Int) < (bs.length : Int) by omega); omega
    rw [hk]
    obtain ⟨hb', ehb⟩ : ∃ b', bs[k]? = some b' := ⟨_, List.getElem?_eq_getElem hkl⟩
    obtain ⟨cb', ecb⟩ : ∃ c', cs[k]? = some c' := ⟨_, List.getElem?_eq_getElem (by omega)⟩
    obtain ⟨G, eG⟩ : ∃ G, Gs[k]? = some G := ⟨_, List.getElem?_eq_getElem (by omega)⟩
    obtain ⟨gok, gsh⟩ := hgok G (List.mem_of_getElem? eG)
    have hbe : (bs.map encP)[k]? = some [ptr hb'] := by rw [List.getElem?_map, ehb]; rfl
    have hce : (cs.map encP)[k]? = some [ptr cb'] := by rw [List.getElem?_map, ecb]; rfl
    have hg : ∀ {h'} {P1 P2 P5 P6 : Part} {l : List Part}, All (P1 :: P2 :: rowP 1 hv (bs.map encP) :: rowP 1 sv (cs.map encP) :: P5 :: P6 :: l) h' → (∃ p, isV 1 hv (i64 k) = some p ∧ ldV 1 false p h' = some (ptr hb')) ∧ (∃ p, isV 1 sv (i64 k) = some p ∧ ldV 1 false p h' = some (ptr cb')) := by
      intro h' P1 P2 P5 P6 l hp
      exact ⟨(All.rows (hp.up 2)).get1 hbe .i64, (All.rows (hp.up 3)).get1 hce .i64⟩
    obtain ⟨⟨p1, d1, d2⟩, _⟩ := hg hp
    refine bnd_of d1 (bnd_of d2 ?_)
    -- the program's
    have q1 := eachP_at ehb eG (hp.up 4)
    have q2 : All (arP 127 a B :: attP hb' G :: eachP attP (bs.eraseIdx k) (Gs.eraseIdx k) :: arP 140 b B :: rowP 1 hv (bs.map encP) :: rowP 1 sv (cs.map encP) :: eachP rattP cs Gs :: [baseP g]) h3 := q1.up 2
    refine T_atStep q2 gok fun h4 q3 => ?_
    have q4 : All (eachP attP bs (Gs.set k (G.step B).1) :: arP 127 a (G.step B).2.2 :: arP 140 b B :: rowP 1 hv (bs.map encP) :: rowP 1 sv (cs.map encP) :: eachP rattP cs Gs :: [baseP g]) h4 := eachP_put ehb (by omega) (q3.re 4 [1, 2, 0, 3])
    clear q1 q2 q3 hp
    have hp : All (arP 127 a (G.step B).2.2 :: arP 140 b B :: rowP 1 hv (bs.map encP) :: rowP 1 sv (cs.map encP) :: eachP attP bs (Gs.set k (G.step B).1) :: eachP rattP cs Gs :: [baseP g]) h4 := q4.re 6 [1, 2, 3, 4, 0, 5]
    clear q4
    (repeat first|refine wx ?_|refine wy ?_|refine wz ?_|refine wv ?_|refine wh ?_)
    obtain ⟨_, p2, d3, d4⟩ := hg hp
    refine bnd_of d3 (bnd_of d4 ?_)
    -- the document's
    have q1 := eachP_at ecb eG (hp.up 5)
    have q2 : All (arP 140 b B :: rattP cb' G :: eachP rattP (cs.eraseIdx k) (Gs.eraseIdx k) :: arP 127 a (G.step B).2.2 :: rowP 1 hv (bs.map encP) :: rowP 1 sv (cs.map encP) :: eachP attP bs (Gs.set k (G.step B).1) :: [baseP g]) h4 := q1.up 3
    refine T_rAtStep q2 gok fun h5 q3 => ?_
    have q4 : All (eachP rattP cs (Gs.set k (G.step B).1) :: arP 140 b (G.step B).2.2 :: arP 127 a (G.step B).2.2 :: rowP 1 hv (bs.map encP) :: rowP 1 sv (cs.map encP) :: eachP attP bs (Gs.set k (G.step B).1) :: [baseP g]) h5 := eachP_put ecb (by omega) (q3.re 4 [1, 2, 0, 3])
    clear q1 q2 q3 hp
    have hst := At.step_ok gok hB
    have hp : All (arP 127 a (G.step B).2.2 :: arP 140 b (G.step B).2.2 :: rowP 1 hv (bs.map encP) :: rowP 1 sv (cs.map encP) :: eachP attP bs (Gs.set k (G.step B).1) :: eachP rattP cs (Gs.set k (G.step B).1) :: [baseP g]) h5 := q4.re 6 [2, 1, 3, 4, 5, 0]
    clear q4
    have eG2 : (Gs.set k (G.step B).1)[k]? = some (G.step B).1 := List.getElem?_set_self (by omega)
    have ok2 : ∀ H ∈ Gs.set k (G.step B).1, H.ok ∧ H.ans.length ≤ 2 := fun H hH => by
      rcases List.mem_or_eq_of_mem_set hH with q | q
      · exact hgok H q
      · subst q; exact ⟨hst.1, At.step_short gok gsh⟩
    have gl2 : (Gs.set k (G.step B).1).length = bs.length := by rw [List.length_set]; exact hgl
    generalize Gs.set k (G.step B).1 = Gs' at hp eG2 ok2 gl2
    generalize (G.step B).1 = G' at eG2 hst ⊢
    generalize (G.step B).2.2 = B' at hp hst
    (repeat first|refine wx ?_|refine wy ?_|refine wz ?_|refine wv ?_|refine wh ?_)
    obtain ⟨⟨p3, d5, d6⟩, p4, d7, d8⟩ := hg hp
    refine bnd_of d5 (bnd_of d6 ?_)
    have qh := eachP_at ehb eG2 (hp.up 4)
    have qr := eachP_at ecb eG2 (hp.up 5)
    refine T_atThrough qh ?_
    (repeat first|refine wx ?_|refine wy ?_|refine wz ?_|refine wv ?_|refine wh ?_)
    refine bnd_of d7 (bnd_of d8 ?_)
    refine T_ratThrough qr ?_
    (repeat first|refine wx ?_|refine wy ?_|refine wz ?_|refine wv ?_|refine wh ?_)
    refine bnd_of d5 (bnd_of d6 ?_)
    clear qr
    have hsh := (ok2 G' (List.mem_of_getElem? eG2)).2
    refine T_atAnswers qh (by omega) fun wcv h6 hp2 => ?_
    have hp3 := hp2.re 3 [1, 2, 0]
    have hp4 := eachP_put ehb (by omega) hp3
    rw [show (Gs'.set k G') = Gs' from set_self eG2] at hp4
    replace hp := hp4.re 7 [2, 3, 4, 5, 0, 6, 1]
    replace hp := hn hp
    clear hp2 hp3 hp4 qh
    obtain ⟨⟨p3, d5, d6⟩, p4, d7, d8⟩ := hg hp
    have qh := eachP_at ehb eG2 (hp.up 4)
    have qr := eachP_at ecb eG2 (hp.up 5)
    (repeat first|refine wx ?_|refine wy ?_|refine wz ?_|refine wv ?_|refine wh ?_)
    rw [beq_self_eq_true]
    (repeat first|refine wx ?_|refine wy ?_|refine wz ?_|refine wv ?_|refine wh ?_)
    refine T_Num ?_
    (repeat first|refine wx ?_|refine wy ?_|refine wz ?_|refine wv ?_|refine wh ?_)
    rw [decide_eq_true rfl]
    (repeat first|refine wx ?_|refine wy ?_|refine wz ?_|refine wv ?_|refine wh ?_)
    refine bnd_of d5 (bnd_of d6 (bnd_of d7 (bnd_of d8 ?_)))
    obtain ⟨f1, f2, ansv, f3, f4⟩ := rat_fields qr
    (repeat first|refine wx ?_|refine wy ?_|refine wz ?_|refine wv ?_|refine wh ?_)
    refine bnd_of f1 ?_
    refine T_atWon qh ?_
    refine ⟨f1, d8, ?_⟩
    (repeat first|refine wx ?_|refine wy ?_|refine wz ?_|refine wv ?_|refine wh ?_)
    rw [beq_self_eq_true]
    (repeat first|refine wx ?_|refine wy ?_|refine wz ?_|refine wv ?_|refine wh ?_)
    refine bnd_of d5 (bnd_of d6 (bnd_of d7 (bnd_of d8 ?_)))
    (repeat first|refine wx ?_|refine wy ?_|refine wz ?_|refine wv ?_|refine wh ?_)
    refine bnd_of f2 ?_
    refine T_atSeq qh ?_
    refine ⟨f2, d8, ?_⟩
    (repeat first|refine wx ?_|refine wy ?_|refine wz ?_|refine wv ?_|refine wh ?_)
    rw [decide_eq_true rfl]
    (repeat first|refine wx ?_|refine wy ?_|refine wz ?_|refine wv ?_|refine wh ?_)
    rw [decide_eq_true rfl]
    (repeat first|refine wx ?_|refine wy ?_|refine wz ?_|refine wv ?_|refine wh ?_)
    rw [decide_eq_true rfl]
    (repeat first|refine wx ?_|refine wy ?_|refine wz ?_|refine wv ?_|refine wh ?_)
    refine bnd_of d7 (bnd_of d8 ?_)
    (repeat first|refine wx ?_|refine wy ?_|refine wz ?_|refine wv ?_|refine wh ?_)
    refine bnd_of f3 ?_
    refine T_SameAnswers (All.rows (hp.up 6)) f4 ?_
    rw [decide_eq_true rfl]
    (repeat first|refine wx ?_|refine wy ?_|refine wz ?_|refine wv ?_|refine wh ?_)
    replace hp := hp.up 6
    replace hp := hn hp
    refine T_SpoilAnswers hp fun h7 hp => ?_
    (repeat first|refine wx ?_|refine wy ?_|refine wz ?_|refine wv ?_|refine wh ?_)
    exact again (j + 1, Gs', B') _ ⟨by simp only; omega, by simp only; omega, (arP.at hp).2, gl2, ok2, hp⟩ (by simp only; omega)
  refine bnd_of hrl ?_
  (repeat first|refine wx ?_|refine wy ?_|refine wz ?_|refine wv ?_|refine wh ?_)
  refine ifV_cases (fun c => ?_) fun c => key
  (repeat first|refine wx ?_|refine wy ?_|refine wz ?_|refine wv ?_|refine wh ?_)
  refine ifV_cases (fun c4 => ?_) fun c4 => key
  clear key
  unfold S7_j2
  obtain ⟨t, ht⟩ : ∃ t, txns[i]? = some t := ⟨_, List.getElem?_eq_getElem (by have := rx.1; omega)⟩
  obtain ⟨ec, hec, ⟨w, rfl, hw⟩, hbig⟩ := rx.get ht
  obtain ⟨p, e1, e2⟩ := (rr.le (baseP.le (hp.up 6))).get1 hec .i64
  have hww : ∀ {h'}, HLe g h' → rowsAt h' 4 w (t.map Op.enc) := fun l => hw.le l
  have gp : ∀ {h'}, HLe g h' → ∃ p q, isV 1 rv (i64 i) = some p ∧ faV 0 p = some q ∧ ldV 1 false q h' = some w := by
    intro h' l
    obtain ⟨bb, o0, q1, q2, _⟩ := (rr.le l).fld hec .i64
    exact ⟨_, _, q1, rfl, q2 0 w rfl⟩
  obtain ⟨p, pq, e1, e2, e3⟩ := gp (baseP.le (hp.up 6))
  refine bnd_of e1 (bnd_of e2 (bnd_of e3 ?_))
  refine T_LendOps hp (fun h' hp => hww (baseP.le (hp.up 6))) hbig fun lv h3 hp => ?_
  (repeat first|refine wx ?_|refine wy ?_|refine wz ?_|refine wv ?_|refine wh ?_)
  have hmay : At.may i (7 * i) (4 + i) i t ↔ Txn.may t = true := by
    unfold At.may lifeMay
    constructor
    · exact fun m => m.2.2.2
    · exact fun m => ⟨by omega, by omega, by simp only [decide_eq_true_eq]; omega, m⟩
  refine T_atNew (ops := t) hp (fun h' hp => (All.row (hp.head fun _ z => z.row)).rows) (fun nm h4 hp => ?_) fun m hb h4 hp => ?_
  · (repeat first|refine wx ?_|refine wy ?_|refine wz ?_|refine wv ?_|refine wh ?_)
    obtain ⟨p, pq, e1, e2, e3⟩ := gp (baseP.le (hp.up 7))
    refine bnd_of e1 (bnd_of e2 (bnd_of e3 ?_))
    refine T_rAtNew (ops := t) hp (fun h' hp => hww (baseP.le (hp.up 7))) (fun _ h5 hp => ?_) fun m => absurd m nm
    (repeat first|refine wx ?_|refine wy ?_|refine wz ?_|refine wv ?_|refine wh ?_)
    refine T_Num ?_
    (repeat first|refine wx ?_|refine wy ?_|refine wz ?_|refine wv ?_|refine wh ?_)
    obtain ⟨p, pq, e1, e2, e3⟩ := gp (baseP.le (hp.up 7))
    refine bnd_of e1 (bnd_of e2 (bnd_of e3 ?_))
    refine T_KeptOps hp (hww (baseP.le (hp.up 7))) ?_
    (repeat first|refine wx ?_|refine wy ?_|refine wz ?_|refine wv ?_|refine wh ?_)
    unfold S7_j3
    refine T_SpoilOps (hp.head fun _ z => z.row) fun h6 hp => ?_
    (repeat first|refine wx ?_|refine wy ?_|refine wz ?_|refine wv ?_|refine wh ?_)
    exact again (i + 1, Hs, hv, sv) _ ⟨by simp only; omega, by simp only; omega, by simp only; omega, hok, bs, cs, hbl, hcl, hp⟩ (by simp only; omega)
  · (repeat first|refine wx ?_|refine wy ?_|refine wz ?_|refine wv ?_|refine wh ?_)
    obtain ⟨p, pq, e1, e2, e3⟩ := gp (baseP.le (hp.up 8))
    refine bnd_of e1 (bnd_of e2 (bnd_of e3 ?_))
    refine T_rAtNew (ops := t) hp (fun h' hp => hww (baseP.le (hp.up 8))) (fun nm => absurd m nm) fun _ cb h5 hp => ?_
    generalize hH : At.new (i : Int) (7 * i) (4 + i) i t = H at hp
    have Hok : H.ok ∧ H.ans.length ≤ 2 := by rw [← hH]; exact ⟨At.new_ok m, by simp [At.new]⟩
    (repeat first|refine wx ?_|refine wy ?_|refine wz ?_|refine wv ?_|refine wh ?_)
    refine T_Num ?_
    (repeat first|refine wx ?_|refine wy ?_|refine wz ?_|refine wv ?_|refine wh ?_)
    obtain ⟨p, pq, e1, e2, e3⟩ := gp (baseP.le (hp.up 9))
    refine bnd_of e1 (bnd_of e2 (bnd_of e3 ?_))
    replace hp := hp.up 2
    replace hp := hn hp
    refine T_KeptOps hp (hww (baseP.le (hp.up 9))) ?_
    (repeat first|refine wx ?_|refine wy ?_|refine wz ?_|refine wv ?_|refine wh ?_)
    unfold S7_j3
    refine T_SpoilOps (hp.head fun _ z => z.row) fun h6 hp => ?_
    (repeat first|refine wx ?_|refine wy ?_|refine wz ?_|refine wv ?_|refine wh ?_)
    refine bs0 hp ([hb].map encP) rfl rfl (by simp) (encP_good _) fun xv h7 hp => ?_
    have hrow := hp.rows
    refine ap0 (hp.up 5) hrow (encP_good _) (by decide) (by simp only [List.length_map, List.length_cons, List.length_nil]; omega) fun hv' h8 hp => ?_
    replace hp := hn hp
    refine bs0 hp ([cb].map encP) rfl rfl (by simp) (encP_good _) fun yv h9 hp => ?_
    have hrow2 := hp.rows
    refine ap0 (hp.up 7) hrow2 (encP_good _) (by decide) (by simp only [List.length_map, List.length_cons, List.length_nil]; omega) fun sv' h10 hp => ?_
    replace hp := hn hp
    (repeat first|refine wx ?_|refine wy ?_|refine wz ?_|refine wv ?_|refine wh ?_)
    -- sv', yv, hv', xv, rattP cb, attP hb, arP a, arP b, each, each, base
    replace hp := hp.re 10 [5, 8, 6, 7, 2, 0, 4, 9]
    replace hp := hn hp
    replace hp := (eachP_snoc hp).re 7 [5, 6, 0, 1, 2, 3, 4]
    replace hp := hn hp
    replace hp := (eachP_snoc hp).re 6 [2, 3, 4, 5, 1, 0]
    replace hp := hn hp
    rw [← List.map_append, ← List.map_append] at hp
    refine again (i + 1, Hs ++ [H], hv', sv') _ ⟨by simp only; omega, by simp only; omega, by simp only [List.length_append, List.length_singleton]; omega, fun G hG => ?_, bs ++ [hb], cs ++ [cb], by simp [hbl], by simp [hcl], hp⟩ (by simp only; omega)
    rcases List.mem_append.1 hG with q | q
    · exact hok G q
    · rw [List.mem_singleton.1 q]; exact Hok
end
end Go.Proofs.YtnhiagemjonglaaGreat
namespace Go.Proofs.YtnhiagemjonglaaGreat
open Go GW Go.Proofs
set_option linter.unusedVariables false
set_option linter.unusedSimpArgs false
theorem open_op {H : Type} {enc : TypeId × Value → H} {W : World} {fuel : Nat} {cs : List Value} {d : DataW H} {ps : List MemPlace} (h : DataW.trod enc Tryz.prog W 0 (fun _ => true) true fuel 24 cs = some (d, ps)) : ∃ x : Op, cs = x.enc := by
  obtain ⟨xs, hl, hc, _⟩ := open_ints_struct (P := Tryz.prog) Tryz.underlying24 (by kernel_rfl) (fun i f hf => by
    have hi : i < 4 := by have := (Array.getElem?_eq_some_iff.1 hf).1; simpa using this
    match i, hi with
    | 0, _ | 1, _ | 2, _ | 3, _ => simp at hf; subst hf; exact ⟨rfl, by kernel_rfl, by kernel_rfl⟩) h
  match xs, hl with
  | [x0, x1, x2, x3], _ => exact ⟨⟨x0, x1, x2, x3⟩, hc⟩
theorem open_ops {H : Type} {enc : TypeId × Value → H} {W : World} {fuel : Nat} {cs : List Value} {d : DataW H} {ps : List MemPlace} (h : DataW.trod enc Tryz.prog W 0 (fun _ => true) true fuel 46 cs = some (d, ps)) (hw : (d.weights Tryz.prog 46).all (· ≤ reachBytes) = true) :
    ∃ v, ∃ xs : List Op, cs = [v] ∧ rowsAt (full W) 4 v (xs.map Op.enc) ∧ (xs.length + 2) * 32 ≤ 140737488355328 := by
  obtain ⟨w, xs, h1, h2, h3⟩ := open_rows (P := Tryz.prog) Op.enc Tryz.underlying46 (size := 4) (by kernel_rfl) (by decide) (fun _ => rfl) (fun fuel cs d ps h => open_op h) h hw
  have hb : Tryz.prog.bytesOf 24 = 32 := by kernel_rfl
  rw [hb] at h3
  exact ⟨w, xs, h1, h2, by unfold reachBytes at h3; omega⟩
theorem open_txnB {H : Type} {enc : TypeId × Value → H} {W : World} {fuel : Nat} {cs : List Value} {d : DataW H} {ps : List MemPlace} (h : DataW.trod enc Tryz.prog W 0 (fun _ => true) true fuel 72 cs = some (d, ps)) (hw : (d.weights Tryz.prog 72).all (· ≤ reachBytes) = true) : ∃ t : List Op, txnB (full W) cs t := by
  obtain ⟨hl, hfs⟩ := open_struct Tryz.underlying72 h hw
  have c1 : Tryz.prog.cellsOf 72 = 1 := by kernel_rfl
  have c2 : Tryz.prog.cellsOf 46 = 1 := by kernel_rfl
  obtain ⟨f', d', ps', t0, w0⟩ := hfs 0 46 0 1 rfl c2
  obtain ⟨w, xs, h1, h2, h3⟩ := open_ops t0 w0
  refine ⟨xs, ⟨w, one_cell' (by rw [hl, c1]) h1, h2⟩, h3⟩
theorem open_txns {H : Type} {enc : TypeId × Value → H} {W : World} {fuel : Nat} {cs : List Value} {d : DataW H} {ps : List MemPlace} (h : DataW.trod enc Tryz.prog W 0 (fun _ => true) true fuel 67 cs = some (d, ps)) (hw : (d.weights Tryz.prog 67).all (· ≤ reachBytes) = true) :
    ∃ v es, ∃ ts : List (List Op), cs = [v] ∧ rowsAt (full W) 1 v es ∧ All2 (txnB (full W)) es ts := by
  obtain ⟨w, es, h1, h2, h3, _⟩ := open_rowsQ (P := Tryz.prog) (size := 1) (fun c => ∃ t : List Op, txnB (full W) c t) Tryz.underlying67 (by kernel_rfl) (by decide) (fun c ⟨t, ⟨w, hc, _⟩, _⟩ => by rw [hc]; rfl) (fun fuel cs d ps h w => open_txnB h w) h hw
  obtain ⟨ts, ht⟩ := All2.of (R := fun c t => txnB (full W) c t) (fun c hc => hc) es h3
  exact ⟨w, es, ts, h1, h2, ht⟩
end Go.Proofs.YtnhiagemjonglaaGreat
