/- Several texts in one, each under its own remark or none; nothing here is a statement on the program. -/
import Derived.Test.YtlmafbdhhneokaaGreatKY
import Derived.Test.YtlmafbdhhneokaaGreatKW
import Derived.Test.YtlmafbdhhneokaaGreatKE
namespace Go.Proofs.YtlmafbdhhneokaaGreat
open Go GW Go.Proofs
set_option linter.unusedVariables false
set_option linter.unusedSimpArgs false
set_option maxRecDepth 20000
/-- a row with more behind it -/
def lentP (size : Nat) (v : Value) (cs ms : List (List Value)) : Part := fun h => ∃ a cap, v = .slice a cs.length cap ∧ rowP size (.slice a (cs ++ ms).length cap) (cs ++ ms) h
theorem lentP.row {size : Nat} {v : Value} {cs ms : List (List Value)} {h : GH} (o : lentP size v cs ms h) : rowP size v cs h := by
  obtain ⟨a, cap, rfl, a', cap', junk, e, c2, c3, c4, c5⟩ := o
  cases e
  rw [List.length_append] at c2 c3
  refine ⟨a, cap, ms.flatten ++ junk, rfl, by omega, by omega, fun c hc => c4 c (List.mem_append_left _ hc), ?_⟩
  rcases c5 with ⟨q1, q2, q3⟩ | ⟨b, T, q1, q2, q3⟩
  · left; exact ⟨q1, (List.append_eq_nil_iff.1 q2).1, q3⟩
  · right
    refine ⟨b, T, q1, ?_, ?_⟩
    · rw [← List.append_assoc, ← List.flatten_append]; exact q2
    · rw [List.all_append, q3, Bool.and_true]
      exact (flatten_good ms fun c hc => c4 c (List.mem_append_right _ hc)).2
def Op.mark : Op := ⟨0, 0, 0, 77777⟩
section
variable {a b c : Nat} {A : Ar} {R : List Part} {h : GH} {K : Value → GH → Prop}
end
end Go.Proofs.YtlmafbdhhneokaaGreat
namespace Go.Proofs.YtlmafbdhhneokaaGreat
open Go GW Go.Proofs
attribute [local irreducible] bnd ldV stV ifV binV eqI
set_option linter.unusedVariables false
set_option linter.unusedSimpArgs false
set_option maxRecDepth 20000
/-- so many steps, until it is over, counted; none: an error -/
def aruns : Nat → At → Ar → Bool → Nat → Option (At × Ar × Bool × Nat)
  | 0, x, A, ov, m => some (x, A, ov, m)
  | n + 1, x, A, ov, m =>
    match ov with
    | true => some (x, A, ov, m)
    | false =>
      match (x.step A).2.1 with
      | 0 => aruns n (x.step A).1 (x.step A).2.2 (x.step A).1.over (m + 1)
      | _ => none
def aawakeA : Ar := shelfA [124] []
def aawakeX : At := .new 1 0 5 9 [⟨3, 0, 0, 10⟩]
def aawakeFin (r : Option (At × Ar × Bool × Nat)) : Bool :=
  match r with
  | some (x, A, ov, m) => ov && (x.won && (decide (x.ans = [⟨0, 20⟩]) && (A.at 0 == 84 && m == 19)))
  | none => false
theorem aawake_fin : aawakeFin (aruns 60 aawakeX aawakeA false 0) = true := by decide +kernel
theorem aawake_may : At.may 1 0 5 9 [⟨3, 0, 0, 10⟩] := ⟨by decide, by decide, by decide, by decide⟩
section
variable {a b c : Nat} {A B : Ar} {R : List Part} {h : GH} {K : Value → GH → Prop} {x : At}
theorem T_aawake (hp : All R h) (hK : ∀ h', All R h' → K (.bool true) h') : T Tryz.prog 5 [] h K := by
  apply S5_T
  unfold S5
  refine bs0 (size := 1) hp ([124].map encI) rfl rfl (by simp) (encI_good _) fun cv h1 hp => ?_
  refine T_shelf (us := []) (cells := [124]) (dss := []) hp (fun h' hp => hp.rows) (fun h' hp => ⟨rowsAt_nil _ _, .nil⟩) (fun x hx => by
    simp only [List.mem_cons, List.not_mem_nil, or_false] at hx; subst hx; constructor <;> decide) fun a b h2 hp => ?_
  replace hp : All (arP 98 a aawakeA :: R) h2 := hp.re 3 [0]
  have hA : aawakeA.ok := shelfA_ok fun x hx => by
    simp only [List.mem_cons, List.not_mem_nil, or_false] at hx; subst hx; constructor <;> decide
  (repeat first|refine wx ?_|refine wy ?_|refine wz ?_|refine wv ?_|refine wh ?_)
  refine bs0 (size := 4) hp ([Op.mk 3 0 0 10].map Op.enc) rfl rfl (by simp) (Op.all_good _) fun ov1 h3 hp => ?_
  refine T_atNew (ops := [⟨3, 0, 0, 10⟩]) hp (fun h' hp => hp.rows) (fun m => absurd aawake_may m) fun _ tb h4 hp => ?_
  replace hp := hp.re 3 [0, 2]
  replace hp := Go.Proofs.YtlmafbdhhneokaaGreat.hn hp
  (repeat first|refine wx ?_|refine wy ?_|refine wz ?_|refine wv ?_|refine wh ?_)
  refine bs0 (size := 4) hp ([Op.mk 5 0 0 0].map Op.enc) rfl rfl (by simp) (Op.all_good _) fun ov2 h5 hp => ?_
  refine T_atNew (ops := [⟨5, 0, 0, 0⟩]) hp (fun h' hp => hp.rows) (fun m h6 hp => ?_) fun m => absurd m.2.2.1 (by decide)
  (repeat first|refine wx ?_|refine wy ?_|refine wz ?_|refine wv ?_|refine wh ?_)
  refine T_atNew (ops := []) hp (fun h' hp => rowsAt_nil _ _) (fun m h7 hp => ?_) fun m => absurd m.2.2.2 (by decide)
  (repeat first|refine wx ?_|refine wy ?_|refine wz ?_|refine wv ?_|refine wh ?_)
  unfold S5_j1
  replace hp := hp.tail
  have xok : aawakeX.ok := At.new_ok aawake_may
  have fin := aawake_fin
  cases hr : aruns 60 aawakeX aawakeA false 0 with
  | none => rw [hr] at fin; cases fin
  | some z =>
    obtain ⟨x', A', ov', m'⟩ := z
    rw [hr] at fin
    simp only [aawakeFin, Bool.and_eq_true, beq_iff_eq, decide_eq_true_eq] at fin
    obtain ⟨rfl, fw, fa, f0, rfl⟩ := fin
    replace hp : All (attP tb aawakeX :: arP 98 a aawakeA :: R) h7 := hp
    refine Lfp_fam (ι := Nat × At × Ar × Bool × Nat) (fun p => [ptr a, ptr tb, i64 0, i64 1700, i64 1700, .bool p.2.2.2.1, i64 p.2.2.2.2, i64 p.1]) (fun p h' => p.1 ≤ 60 ∧ p.2.2.2.2 ≤ p.1 ∧ p.2.1.ok ∧ p.2.2.1.ok ∧ aruns (60 - p.1) p.2.1 p.2.2.1 p.2.2.2.1 p.2.2.2.2 = some (x', A', true, 19) ∧ All (attP tb p.2.1 :: arP 98 a p.2.2.1 :: R) h') (fun p => 60 - p.1) ?_ (0, aawakeX, aawakeA, false, 0) h7 ⟨by omega, by simp, xok, hA, hr, hp⟩
    clear hp hr
    rintro ⟨i, x, B, ov, m⟩ h9 X ⟨hi, hm, hG, hB, hq, hp⟩ again
    simp only at hi hm hG hB hq hp
    simp only [tup_zero, tup_succ]
    have key : (x, B, ov, m) = (x', A', true, 19) → ∀ s1 a1, S5_j3 s1 (ptr a) (ptr tb) (i64 0) (i64 1700) (i64 1700) (.bool ov) (i64 m) h9 K a1 := by
      intro e s1 a1
      cases e
      unfold S5_j3
      refine L_Load (hp.up 1) (by decide) (by decide) fun h10 hp => ?_
      rw [f0]
      (repeat first|refine wx ?_|refine wy ?_|refine wz ?_|refine wv ?_|refine wh ?_)
      refine T_atStepNil ?_
      (repeat first|refine wx ?_|refine wy ?_|refine wz ?_|refine wv ?_|refine wh ?_)
      refine T_Num ?_
      (repeat first|refine wx ?_|refine wy ?_|refine wz ?_|refine wv ?_|refine wh ?_)
      refine T_Num ?_
      (repeat first|refine wx ?_|refine wy ?_|refine wz ?_|refine wv ?_|refine wh ?_)
      refine T_Num ?_
      (repeat first|refine wx ?_|refine wy ?_|refine wz ?_|refine wv ?_|refine wh ?_)
      replace hp := hp.up 1
      replace hp := Go.Proofs.YtlmafbdhhneokaaGreat.hn hp
      refine T_atWon hp ?_
      rw [fw]
      (repeat first|refine wx ?_|refine wy ?_|refine wz ?_|refine wv ?_|refine wh ?_)
      refine T_atAnswers hp (by rw [fa]; decide) fun av h11 hp => ?_
      rw [fa] at hp
      (repeat first|refine wx ?_|refine wy ?_|refine wz ?_|refine wv ?_|refine wh ?_)
      refine bs0 (size := 2) hp ([Answer.mk 0 20].map Answer.enc) rfl rfl (by simp) (Answer.all_good _) fun bv h12 hp => ?_
      refine T_SameAnswers (All.rows (hp.up 1)) (All.rows hp) ?_
      rw [decide_eq_true rfl]
      (repeat first|refine wx ?_|refine wy ?_|refine wz ?_|refine wv ?_|refine wh ?_)
      refine T_Num ?_
      (repeat first|refine wx ?_|refine wy ?_|refine wz ?_|refine wv ?_|refine wh ?_)
      refine T_Num ?_
      (repeat first|refine wx ?_|refine wy ?_|refine wz ?_|refine wv ?_|refine wh ?_)
      exact hK _ hp.tail.tail.tail.tail
    (repeat first|refine wx ?_|refine wy ?_|refine wz ?_|refine wv ?_|refine wh ?_)
    refine ifV_cases (fun c => ?_) fun c => ?_
    · cases ov with
      | true =>
        (repeat first|refine wx ?_|refine wy ?_|refine wz ?_|refine wv ?_|refine wh ?_)
        refine key ?_ _ _
        obtain ⟨n, hn⟩ : ∃ n, 60 - i = n + 1 := ⟨59 - i, by omega⟩
        rw [hn] at hq
        unfold aruns at hq
        exact Option.some.inj hq
      | false =>
        (repeat first|refine wx ?_|refine wy ?_|refine wz ?_|refine wv ?_|refine wh ?_)
        unfold S5_j2
        obtain ⟨n, hn⟩ : ∃ n, 60 - i = n + 1 := ⟨59 - i, by omega⟩
        rw [hn] at hq
        unfold aruns at hq
        simp only at hq
        replace hp := hp.up 1
        replace hp := Go.Proofs.YtlmafbdhhneokaaGreat.hn hp
        refine T_atStep hp hG fun h10 hp => ?_
        have hst := At.step_ok hG hB
        split at hq
        · rename_i e0
          rw [e0]
          (repeat first|refine wx ?_|refine wy ?_|refine wz ?_|refine wv ?_|refine wh ?_)
          refine T_Num ?_
          (repeat first|refine wx ?_|refine wy ?_|refine wz ?_|refine wv ?_|refine wh ?_)
          refine again (i + 1, (x.step B).1, (x.step B).2.2, (x.step B).1.over, m + 1) _ ⟨by simp only; omega, by simp only; omega, hst.1, hst.2, ?_, hp.up 1⟩ (by simp only; omega)
          have en : 60 - (i + 1) = n := by omega
          simp only [en]; exact hq
        · cases hq
    · have : 60 - i = 0 := by omega
      rw [this] at hq
      unfold aruns at hq
      exact key (Option.some.inj hq) _ _
end
end Go.Proofs.YtlmafbdhhneokaaGreat
namespace Go.Proofs.YtlmafbdhhneokaaGreat
open Go GW Go.Proofs
set_option linter.unusedVariables false
set_option linter.unusedSimpArgs false
set_option maxRecDepth 20000
theorem Vw.one_short {v : Vw} {o : Op} : (v.one o).ans.length ≤ 1 := by
  unfold Vw.one
  simp only
  split <;> simp
theorem Vw.do_short {v : Vw} {ops : List Op} (m : Txn.may ops = true) : (v.do_ ops).ans.length ≤ 2 := by
  have key : ∀ (os : List Op) (w : Vw) (rs : List Answer), (v.doFrom os w rs).ans.length ≤ rs.length + os.length := by
    intro os
    induction os with
    | nil => intro w rs; simp [Vw.doFrom]
    | cons o os ih =>
      intro w rs
      have h1 := Vw.one_short (v := w) (o := o)
      unfold Vw.doFrom
      split
      · simp
      · split
        · have := ih (w.one o).view (rs ++ (w.one o).ans)
          simp only [List.length_append, List.length_cons] at this ⊢
          omega
        · simp only [List.length_append, List.length_cons]; omega
  unfold Txn.may at m
  simp only [Bool.and_eq_true, decide_eq_true_eq] at m
  have := key ops v []
  unfold Vw.do_
  simp at this
  omega
theorem At.step_short {x : At} {A : Ar} (o : x.ok) (h : x.ans.length ≤ 2) : (x.step A).1.ans.length ≤ 2 := by
  unfold At.step
  split
  · exact h
  · split
    · simp only
      split
      · exact h
      · split
        · unfold At.known At.asked
          split
          · exact h
          · exact Vw.do_short o.ops
        · exact h
    · exact h
    · simp only
      split <;> exact h
def txnB (g : GH) (c : List Value) (t : List Op) : Prop := txnC g c t ∧ (t.length + 2) * 32 ≤ 140737488355328
theorem set_self {α : Type} {l : List α} {k : Nat} {x : α} (h : l[k]? = some x) : l.set k x = l := by
  have hk := (List.getElem?_eq_some_iff.1 h).1
  refine List.ext_getElem? fun j => ?_
  rw [List.getElem?_set]
  split
  · rename_i e; subst e; exact h.symm
  · rfl
section
variable {a b c : Nat} {A B : Ar} {R : List Part} {h : GH} {K : Value → GH → Prop} {r : Rd}
end
end Go.Proofs.YtlmafbdhhneokaaGreat
namespace Go.Proofs.YtlmafbdhhneokaaGreat
open Go GW Go.Proofs
set_option linter.unusedVariables false
set_option linter.unusedSimpArgs false
theorem open_op {H : Type} {enc : TypeId × Value → H} {W : World} {fuel : Nat} {cs : List Value} {d : DataW H} {ps : List MemPlace} (h : DataW.trod enc Tryz.prog W 0 (fun _ => true) true fuel 50 cs = some (d, ps)) : ∃ x : Op, cs = x.enc := by
  obtain ⟨xs, hl, hc, _⟩ := open_ints_struct (P := Tryz.prog) Tryz.underlying50 (by kernel_rfl) (fun i f hf => by
    have hi : i < 4 := by have := (Array.getElem?_eq_some_iff.1 hf).1; simpa using this
    match i, hi with
    | 0, _ | 1, _ | 2, _ | 3, _ => simp at hf; subst hf; exact ⟨rfl, by kernel_rfl, by kernel_rfl⟩) h
  match xs, hl with
  | [x0, x1, x2, x3], _ => exact ⟨⟨x0, x1, x2, x3⟩, hc⟩
theorem open_ops {H : Type} {enc : TypeId × Value → H} {W : World} {fuel : Nat} {cs : List Value} {d : DataW H} {ps : List MemPlace} (h : DataW.trod enc Tryz.prog W 0 (fun _ => true) true fuel 23 cs = some (d, ps)) (hw : (d.weights Tryz.prog 23).all (· ≤ reachBytes) = true) :
    ∃ v, ∃ xs : List Op, cs = [v] ∧ rowsAt (full W) 4 v (xs.map Op.enc) ∧ (xs.length + 2) * 32 ≤ 140737488355328 := by
  obtain ⟨w, xs, h1, h2, h3⟩ := open_rows (P := Tryz.prog) Op.enc Tryz.underlying23 (size := 4) (by kernel_rfl) (by decide) (fun _ => rfl) (fun fuel cs d ps h => open_op h) h hw
  have hb : Tryz.prog.bytesOf 50 = 32 := by kernel_rfl
  rw [hb] at h3
  exact ⟨w, xs, h1, h2, by unfold reachBytes at h3; omega⟩
end Go.Proofs.YtlmafbdhhneokaaGreat
