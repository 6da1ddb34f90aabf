/- Contracts of functions of the program, as the laws use them. -/
import Derived.Test.YtfnphfegfmhokaaLimbo2
namespace Go.Proofs.Ytfnphfegfmhokaa
open Go GW Go.Proofs
set_option linter.unusedVariables false
set_option linter.unusedSimpArgs false
def addL (rs : List Retired) (x : Retired) : List Retired := if addBad rs x = true then [] else rs ++ [x]
def addE (rs : List Retired) (x : Retired) : Int := if addBad rs x = true then 1200 else 0
def takeR (rs : List Retired) (e : Int) : List Int := if takeBad rs e = true then [] else ripes rs e
def takeS (rs : List Retired) (e : Int) : List Retired := if takeBad rs e = true then [] else rests rs e
def takeE (rs : List Retired) (e : Int) : Int := if takeBad rs e = true then 1200 else 0
theorem T_Add_all {v : Value} {rs : List Retired} {slot epoch : Int} {h : GH} {K : Value → GH → Prop} (r : rowsAt h 2 v (rs.map Retired.enc)) (hb : (rs.length + 1) * 16 ≤ 140737488355328)
    (k : ∀ v' h', own h' 2 v' ((addL rs ⟨slot, epoch⟩).map Retired.enc) → HLe h h' → (∀ b, blk v' b → h b = none) → K (.tuple #[v', i64 (addE rs ⟨slot, epoch⟩)]) h') : T Try.prog 24 [v, i64 slot, i64 epoch] h K := by
  refine T_Add r hb (fun q => ?_) (fun q v' h' o l f => ?_)
  · have := k (.slice none 0 0) h (by unfold addL; rw [if_pos q]; exact own_nil _ _) (.refl _) fun b q => q.elim
    unfold addE at this; rw [if_pos q] at this; exact this
  · have := k v' h' (by unfold addL; rw [if_neg (by rw [q]; decide)]; exact o) l f
    unfold addE at this; rw [if_neg (by rw [q]; decide)] at this; exact this
theorem T_AddLimbo_all {v : Value} {rs : List Retired} {slot epoch : Int} {h : GH} {K : Value → GH → Prop} (r : rowsAt h 2 v (rs.map Retired.enc)) (hb : (rs.length + 1) * 16 ≤ 140737488355328)
    (k : ∀ v' h', own h' 2 v' ((addL rs ⟨slot, epoch⟩).map Retired.enc) → HLe h h' → (∀ b, blk v' b → h b = none) → K (.tuple #[v', i64 (addE rs ⟨slot, epoch⟩)]) h') : T Try.prog 25 [v, i64 slot, i64 epoch] h K := by
  refine T_AddLimbo r hb (fun q => ?_) (fun q v' h' o l f => ?_)
  · have := k (.slice none 0 0) h (by unfold addL; rw [if_pos q]; exact own_nil _ _) (.refl _) fun b q => q.elim
    unfold addE at this; rw [if_pos q] at this; exact this
  · have := k v' h' (by unfold addL; rw [if_neg (by rw [q]; decide)]; exact o) l f
    unfold addE at this; rw [if_neg (by rw [q]; decide)] at this; exact this
theorem T_Take_all {v : Value} {rs : List Retired} {e : Int} {h : GH} {K : Value → GH → Prop} (r : rowsAt h 2 v (rs.map Retired.enc)) (hb : (rs.length + 1) * 16 ≤ 140737488355328)
    (k : ∀ vr vs h', Taken h h' vr vs (takeR rs e) (takeS rs e) → K (.tuple #[vr, vs, i64 (takeE rs e)]) h') : T Try.prog 26 [v, i64 e] h K := by
  refine T_Take r hb (fun q => ?_) (fun q vr vs h' t => ?_)
  · have := k (.slice none 0 0) (.slice none 0 0) h (by unfold takeR takeS; rw [if_pos q, if_pos q]; exact Taken.new (.refl _))
    unfold takeE at this; rw [if_pos q] at this; exact this
  · have n : ¬ takeBad rs e = true := by rw [q]; decide
    have := k vr vs h' (by unfold takeR takeS; rw [if_neg n, if_neg n]; exact t)
    unfold takeE at this; rw [if_neg n] at this; exact this
theorem T_TakeLimbo_all {v : Value} {rs : List Retired} {e : Int} {h : GH} {K : Value → GH → Prop} (r : rowsAt h 2 v (rs.map Retired.enc)) (hb : (rs.length + 1) * 16 ≤ 140737488355328)
    (k : ∀ vr vs h', Taken h h' vr vs (takeR rs e) (takeS rs e) → K (.tuple #[vr, vs, i64 (takeE rs e)]) h') : T Try.prog 27 [v, i64 e] h K := by
  refine T_TakeLimbo r hb (fun q => ?_) (fun q vr vs h' t => ?_)
  · have := k (.slice none 0 0) (.slice none 0 0) h (by unfold takeR takeS; rw [if_pos q, if_pos q]; exact Taken.new (.refl _))
    unfold takeE at this; rw [if_pos q] at this; exact this
  · have n : ¬ takeBad rs e = true := by rw [q]; decide
    have := k vr vs h' (by unfold takeR takeS; rw [if_neg n, if_neg n]; exact t)
    unfold takeE at this; rw [if_neg n] at this; exact this
theorem T_awake12 {h : GH} {K : Value → GH → Prop} (hK : K (.bool true) h) : T Try.prog 33 [] h K := by
  apply T.drop
  apply S33_T
  unfold S33
  refine T_Add_all (rs := []) (own_nil h 2).rows (by decide) fun v1 h1 o1 l1 f1 => ?_
  have e1 : addL [] ⟨3, 7⟩ = [⟨3, 7⟩] := by decide
  rw [e1] at o1
  refine bnd_of rfl (bnd_of rfl ?_)
  refine T_Add_all (rs := [⟨3, 7⟩]) o1.rows (by decide) fun v2 h2 o2 l2 f2 => ?_
  have e2 : addL [⟨3, 7⟩] ⟨4, 9⟩ = [⟨3, 7⟩, ⟨4, 9⟩] := by decide
  rw [e2] at o2
  refine bnd_of rfl (bnd_of rfl ?_)
  refine T_Take_all (rs := [⟨3, 7⟩, ⟨4, 9⟩]) o2.rows (by decide) fun v3 v4 h3 t3 => ?_
  refine bnd_of rfl (bnd_of rfl (bnd_of rfl ?_))
  refine T_Take_all (rs := [⟨3, 7⟩, ⟨4, 9⟩]) (o2.rows.le t3.le) (by decide) fun v5 v6 h4 t4 => ?_
  refine bnd_of rfl (bnd_of rfl (bnd_of rfl ?_))
  refine T_Add_all (rs := [⟨3, 7⟩, ⟨4, 9⟩]) (o2.rows.le (t3.le.trans t4.le)) (by decide) fun v7 h5 o5 l5 f5 => ?_
  refine bnd_of rfl (bnd_of rfl ?_)
  have l : HLe h h5 := l1.trans (l2.trans (t3.le.trans (t4.le.trans l5)))
  refine T_Num ?_
  refine bnd_of (v := true) (by decide) ?_
  rw [ifV_true]
  refine T_Num ?_
  refine bnd_of (v := true) (by decide) ?_
  rw [ifV_true]
  unfold bsV
  refine bnd_of rfl ?_
  intro b hb
  refine T_SameInts (us := [3]) (ws := [3]) ?_ (rowsAt_of (upd_same _ _ _) rfl (by decide) (by decide) (fun c hc => (encI_good [3] c hc).1) (Nat.zero_le _) ⟨[], rfl⟩) ?_
  · exact t3.r.rows.le ((t4.le.trans l5).new _ ((t4.le.trans l5).none hb))
  refine ifV_t rfl ?_
  refine bnd_of rfl ?_
  refine bnd_of rfl ?_
  intro b2 hb2
  refine T_SameRetireds (us := [⟨4, 9⟩]) (ws := [⟨4, 9⟩]) ?_ (rowsAt_of (upd_same _ _ _) rfl (by decide) (by decide) (fun c hc => (Retired.all_good [⟨4, 9⟩] c hc).1) (Nat.zero_le _) ⟨[], rfl⟩) ?_
  · exact t3.s.rows.le (((t4.le.trans l5).new _ ((t4.le.trans l5).none hb)).new _ (((t4.le.trans l5).new _ ((t4.le.trans l5).none hb)).none hb2))
  refine ifV_t rfl ?_
  refine T_Num ?_
  refine bnd_of (v := true) (by decide) ?_
  rw [ifV_true]
  refine T_Num ?_
  refine bnd_of (v := true) (by decide) ?_
  rw [ifV_true]
  refine T_Num ?_
  refine bnd_of (v := true) (by decide) ?_
  exact ⟨h, (l.new _ (l.none hb)).new _ ((l.new _ (l.none hb)).none hb2), hK⟩
theorem T_Limbos {v : Value} {rs : List Retired} {slot epoch : Int} {h : GH} (r : rowsAt h 2 v (rs.map Retired.enc)) (hlen : (rs.length + 2) * 16 ≤ 140737488355328) : T Try.prog 9 [v, i64 slot, i64 epoch] h fun v _ => v = .bool true := by
  apply S9_T
  unfold S9
  refine T_LendRetireds r hlen fun x h1 o l1 f1 => ?_
  refine T_Add_all o.rows (by omega) fun a h2 oa l2 fa => ?_
  refine bnd_of rfl (bnd_of rfl ?_)
  refine T_AddLimbo_all (r.le (l1.trans l2)) (by omega) fun b h3 ob l3 fb => ?_
  refine bnd_of rfl (bnd_of rfl ?_)
  refine T_Take_all (o.rows.le (l2.trans l3)) (by omega) fun c d h4 t4 => ?_
  refine bnd_of rfl (bnd_of rfl (bnd_of rfl ?_))
  have l13 := l2.trans l3
  refine T_TakeLimbo_all (r.le (l1.trans (l13.trans t4.le))) (by omega) fun i j h5 t5 => ?_
  refine bnd_of rfl (bnd_of rfl (bnd_of rfl ?_))
  refine T_SameRetireds (oa.rows.le (l3.trans (t4.le.trans t5.le))) (ob.rows.le (t4.le.trans t5.le)) ?_
  rw [decide_eq_true rfl]
  refine bnd_of rfl (ifV_f rfl ?_)
  refine T_Num (bnd_of (eqI_int _ _ _) ?_)
  rw [decide_eq_true rfl]
  refine ifV_f rfl ?_
  refine T_SameInts (t4.r.rows.le t5.le) t5.r.rows ?_
  rw [decide_eq_true rfl]
  refine bnd_of rfl (ifV_f rfl ?_)
  refine T_SameRetireds (t4.s.rows.le t5.le) t5.s.rows ?_
  rw [decide_eq_true rfl]
  refine bnd_of rfl (ifV_f rfl ?_)
  refine T_Num (bnd_of (eqI_int _ _ _) ?_)
  rw [decide_eq_true rfl]
  refine ifV_f rfl ?_
  unfold S9_j1
  have oa5 := oa.le (l3.trans (t4.le.trans t5.le))
  have hac : ∀ b, blk c b → ¬ blk a b := fun b hc ha => by
    obtain ⟨g, e⟩ := (oa.le l3).known ha
    rw [t4.fr b hc] at e; cases e
  have had : ∀ b, blk d b → ¬ blk a b := fun b hc ha => by
    obtain ⟨g, e⟩ := (oa.le l3).known ha
    rw [t4.fs b hc] at e; cases e
  have l15 : HLe h1 h5 := l13.trans (t4.le.trans t5.le)
  refine T_SpoilRetireds oa5 fun h6 k6 => ?_
  refine T_SpoilInts ((t4.r.le t5.le).keep k6 hac) fun h7 k7 => ?_
  refine T_SpoilRetireds (((t4.s.le t5.le).keep k6 had).keep k7 fun b hd hc => t4.ne b hc hd) fun h8 k8 => ?_
  have l8 : HLe h1 h8 := ((l15.keep k6 fa).keep k7 fun b hb => l13.none (t4.fr b hb)).keep k8 fun b hb => l13.none (t4.fs b hb)
  refine T_KeptRetireds (o.le l8) (r.le (l1.trans l8)) ?_
  refine ifV_t rfl ?_
  refine T_awake12 ?_
  rfl
end Go.Proofs.Ytfnphfegfmhokaa
