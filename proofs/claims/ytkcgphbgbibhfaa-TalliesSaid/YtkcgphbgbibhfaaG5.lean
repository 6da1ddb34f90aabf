/- The model's run of each operation does what 'gop' says. Nothing here is a statement on the program. -/
import Derived.Test.YtkcgphbgbibhfaaG4
namespace Go.Proofs.Ytkcgphbgbibhfaa.GW
open Go
set_option linter.unusedVariables false
set_option linter.unusedSimpArgs false

structure ESub (e : GEnv) (tmps : Array Value) : Prop where
  val : ∀ i v, e i = .val v → tmps[i]? = some v
  skip : ∀ i, e i = .skip → tmps[i]? = some undef

theorem evO_sound {e : GEnv} {a : Act} (he : ESub e a.tmps) {x : Operand} {v : Value} (h : evO e x = some v) : a.eval x = v := by
  cases x with
  | tmp t =>
    simp only [evO] at h
    split at h
    · rename_i v' hv; cases h; simp [Act.eval, Array.getD_eq_getD_getElem?, he.val t _ hv]
    · cases h
  | const c => simp only [evO, Option.some.injEq] at h; exact h
  | global g => simp only [evO, Option.some.injEq] at h; exact h
  | func f => simp only [evO, Option.some.injEq] at h; exact h

theorem evL_sound {e : GEnv} {a : Act} (he : ESub e a.tmps) : ∀ {xs : List Operand} {vs : List Value}, evL e xs = some vs → xs.map a.eval = vs := by
  intro xs
  induction xs with
  | nil => intro vs h; simp [evL] at h; simp [h]
  | cons x xs ih =>
    intro vs h
    simp only [evL] at h
    split at h
    · rename_i h1 h2; cases h; simp [evO_sound he h1, ih h2]
    · cases h

theorem evM_sound {e : GEnv} {a : Act} (he : ESub e a.tmps) {x : Option Operand} {v : Option Value} (h : evM e x = some v) : x.map a.eval = v := by
  cases x with
  | none => simp [evM] at h; simp [h]
  | some x =>
    simp only [evM] at h
    split at h
    · rename_i h1; cases h; simp [evO_sound he h1]
    · cases h

theorem partsK_sound {e : GEnv} {a : Act} (he : ESub e a.tmps) (place : Nat → Option (Nat × Nat)) : ∀ {ps : List (Nat × Operand)} {l : List (Nat × Nat × Value)}, partsK place e ps = some l →
    let parts := ps.map fun (q : Nat × Operand) => (q.1, a.eval q.2)
    parts.map (fun q => ((place q.1).getD (0, 0)).1) = l.map (·.1) ∧ (∀ q ∈ parts, (place q.1).isSome) ∧ parts.map (fun q => ((place q.1).getD (0, 0)).2) = l.map (·.2.1) ∧ parts.map (·.2) = l.map (·.2.2) := by
  intro ps
  induction ps with
  | nil => intro l h; simp [partsK] at h; subst h; simp
  | cons q ps ih =>
    intro l h
    obtain ⟨i, o⟩ := q
    simp only [partsK] at h
    split at h
    · rename_i off sz v l' h1 h2 h3
      cases h
      obtain ⟨a1, a2, a3, a4⟩ := ih h3
      refine ⟨?_, ?_, ?_, ?_⟩
      · simpa [h1] using a1
      · intro q hq
        simp only [List.map_cons, List.mem_cons] at hq
        rcases hq with rfl | hq
        · simp [h1]
        · exact a2 q hq
      · simpa [h1] using a3
      · simpa [evO_sound he h2] using a4
    · cases h

def Out (P : Program) (r : Result Next) (h : GH) (w : World) (K : Value → GH → Prop) : Prop :=
  (∃ v w' h', r = .ok (.value v) w' ∧ Sub h' w' ∧ Step h w h' w' ∧ K v h') ∨
  (∃ w' h', r = .ok .skip w' ∧ Sub h' w' ∧ Step h w h' w' ∧ K undef h') ∨
  (∃ f args, r = .ok (.enter f args) w ∧ T P f args.toList h K)

theorem Out.val {P : Program} {r : Result Next} {h : GH} {w : World} {K : Value → GH → Prop} {v : Value} (hr : r = .ok (.value v) w) (s : Sub h w) (k : K v h) : Out P r h w K :=
  .inl ⟨v, w, h, hr, s, .refl _ _, k⟩

theorem Out.new {P : Program} {r : Result Next} {h : GH} {w : World} {K : Value → GH → Prop} {v : Value} {w' : World} {h' : GH} (hr : r = .ok (.value v) w') (s : Sub h' w') (st : Step h w h' w') (k : K v h') : Out P r h w K :=
  .inl ⟨v, w', h', hr, s, st, k⟩

def sgn (op : BinOp) (r : Bool) : Bool := match op with | .neq => !r | _ => r

section
variable {P : Program} {e : GEnv} {h : GH} {K : Value → GH → Prop} {a : Act} {w : World}

theorem eqP_agg {n : Nat} {t : TypeId} {x y : Value} {r : Bool} (h : eqP P (n + 1) t x y = some r) (hd : (∃ fs, P.underlying t = some (.struct fs)) ∨ (∃ k el, P.underlying t = some (.array k el))) : ∃ xs ys, x = .agg xs ∧ y = .agg ys := by
  rcases hd with ⟨fs, hd⟩ | ⟨k, el, hd⟩
  · simp only [eqP, hd] at h
    split at h
    · exact ⟨_, _, rfl, rfl⟩
    · cases h
  · simp only [eqP, hd] at h
    split at h
    · exact ⟨_, _, rfl, rfl⟩
    · cases h

theorem eqK_spec {k : NK} {c : Bool} {va vb : Value} {r : Bool} (hr : eqK k c va vb = some r) : eqN va vb = some r ∧ (∀ d, nkK d = some k → eqNKind d va = true) ∧
    (∀ op t x y w, (isC x || isC y) = c → (eqGuard op t x y va vb).run P w = .ok () w) := by
  have hkd : ∀ d, nkK d = some k → eqNKind d va = true := by
    intro d hk
    unfold eqK at hr
    cases d <;> simp only [nkK, Option.some.injEq, reduceCtorEq] at hk <;> subst hk <;> simp only at hr <;>
      (split at hr <;> first | rfl | (exfalso; simp_all; done))
  have hn : eqN va vb = some r := by
    unfold eqK at hr
    split at hr <;> first | exact hr | (cases c <;> simp_all [eqN])
  refine ⟨hn, hkd, ?_⟩
  intro op t x y w hc
  have hop : ∀ {u v : Value}, (∀ q : u = .nilIface ∧ v = .nilIface, False) → (∀ xs ys, ¬ (u = .agg xs ∧ v = .agg ys)) → (eqGuard op t x y u v).run P w = .ok () w := by
    intro u v h1 h2
    cases op <;> simp only [eqGuard] <;> (try rfl) <;> (cases u <;> first | rfl | (cases v <;> first | rfl | (exfalso; exact h1 ⟨rfl, rfl⟩) | (exfalso; exact h2 _ _ ⟨rfl, rfl⟩)))
  unfold eqK at hr
  split at hr <;> first
    | (refine hop (fun q => ?_) (fun xs ys q => ?_) <;> simp_all; done)
    | (cases c
       · simp at hr
       · simp only [Bool.or_eq_true, isC] at hc
         cases op <;> simp only [eqGuard] <;> (try rfl) <;> rcases hc with hc | hc <;> (cases x <;> cases y <;> first | rfl | (simp at hc; done)))
    | (exfalso; simp_all; done)

theorem run_binOp_nil {op : BinOp} (hop : op = .eql ∨ op = .neq) {t : TypeId} {va vb : Value} {r : Bool} (hn : eqN va vb = some r) (hrun : (Op.equal t va vb).run P w = .ok r w) :
    (binOp op t va vb).run P w = .ok (.bool (sgn op r)) w := by
  unfold eqN at hn
  split at hn <;> first
    | (rcases hop with rfl | rfl <;> simp only [binOp, Sem.run_bind, hrun, Result.andThen_ok, Sem.run_pure, sgn]; done)
    | cases hn

theorem run_eq_G {t : TypeId} {op : BinOp} (hop : op = .eql ∨ op = .neq) {x y : Operand} {va vb : Value} (hx : a.eval x = va) (hy : a.eval y = vb) {K : Bool → Prop}
    (g : eqG P t (isC x || isC y) va vb K) :
    ∃ r, K r ∧ ((do eqGuard op t x y va vb; binOp op t va vb : Sem Value).run P w = .ok (.bool (sgn op r)) w) := by
  unfold eqG at g
  split at g
  · obtain ⟨b, hv, g⟩ := bnd_iff.1 g
    refine ⟨b, g, ?_⟩
    have h2 : binV op va vb = some (.bool (sgn op b)) := by
      unfold eqI at hv
      split at hv
      · split at hv
        · rename_i hk
          cases hv
          rcases hop with rfl | rfl
          · simp only [binV, hk, if_true, intB, sgn]
          · simp only [binV, hk, if_true, intB, sgn, bne]
        · cases hv
      · cases hv
    simp [run_eqGuard_int h2, run_binOp_int h2]
  · rename_i hd
    split at g
    · rename_i hg
      obtain ⟨r, hr, g⟩ := bnd_iff.1 g
      have hrun : ∀ w, (Op.equal t va vb).run P w = .ok r w := run_eqP 10000 t va vb r hr
      refine ⟨r, g, ?_⟩
      obtain ⟨xs, ys, rfl, rfl⟩ := eqP_agg (n := 9999) hr (.inl ⟨_, hd⟩)
      rcases hop with rfl | rfl <;> simp only [Sem.run_bind, run_eqGuard_agg w _ t x y xs ys hg, Result.andThen_ok, binOp, hrun, Sem.run_pure, sgn]
    · exact g.elim
  · rename_i hd
    split at g
    · rename_i hg
      obtain ⟨r, hr, g⟩ := bnd_iff.1 g
      have hrun : ∀ w, (Op.equal t va vb).run P w = .ok r w := run_eqP 10000 t va vb r hr
      refine ⟨r, g, ?_⟩
      obtain ⟨xs, ys, rfl, rfl⟩ := eqP_agg (n := 9999) hr (.inr ⟨_, _, hd⟩)
      rcases hop with rfl | rfl <;> simp only [Sem.run_bind, run_eqGuard_agg w _ t x y xs ys hg, Result.andThen_ok, binOp, hrun, Sem.run_pure, sgn]
    · exact g.elim
  · rename_i d hd1 hd2 hd3 hd
    split at g
    · rename_i k hk
      obtain ⟨r, hr, g⟩ := bnd_iff.1 g
      refine ⟨r, g, ?_⟩
      obtain ⟨hn, hkd, hguard⟩ := eqK_spec (P := P) hr
      have hrun := run_equal_nil hd (hkd d hk) hn w
      have hguard := hguard op t x y w rfl
      have hb : (binOp op t va vb).run P w = .ok (.bool (sgn op r)) w := run_binOp_nil hop hn hrun
      simp only [Sem.run_bind, hguard, Result.andThen_ok, hb]
    · exact g.elim
  · exact g.elim

end
end Go.Proofs.Ytkcgphbgbibhfaa.GW
