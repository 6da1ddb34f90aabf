/- Regions whose order is drawn: run in one order, they come out alike in each ('gdr_any'). Nothing here is a statement on the program. -/
import Derived.Test.YtkcgphbgbibhfaaG11
namespace Go.Proofs.Ytkcgphbgbibhfaa.GW
open Go
set_option linter.unusedVariables false
set_option linter.unusedSimpArgs false

def setE (e : GEnv) (d : Nat) (v : GV) : GEnv := fun i => match Nat.beq i d with | true => v | false => e i

def setD (e : GEnv) (d : Option Tmp) (v : GV) : GEnv := match d with | some d => setE e d v | none => e

theorem setE_same (e : GEnv) (d : Nat) (v : GV) : setE e d v d = v := by simp [setE]
theorem setE_ne (e : GEnv) {d i : Nat} (v : GV) (n : i ≠ d) : setE e d v i = e i := by
  have : Nat.beq i d = false := by rw [← Bool.not_eq_true]; intro q; exact n (Nat.eq_of_beq_eq_true q)
  simp [setE, this]

theorem setD_ne (e : GEnv) {d : Option Tmp} {i : Nat} (v : GV) (n : d ≠ some i) : setD e d v i = e i := by
  cases d with
  | none => rfl
  | some d => exact setE_ne e v (by rintro rfl; exact n rfl)

theorem setD_comm (e : GEnv) {d d' : Option Tmp} (v v' : GV) (n : ∀ k, d = some k → d' ≠ some k) : setD (setD e d v) d' v' = setD (setD e d' v') d v := by
  cases d with
  | none => rfl
  | some d =>
    cases d' with
    | none => rfl
    | some d' =>
      have hn : d' ≠ d := by rintro rfl; exact n _ rfl rfl
      funext i
      simp only [setD, setE]
      cases h1 : Nat.beq i d <;> cases h2 : Nat.beq i d' <;> simp
      exact absurd ((Nat.eq_of_beq_eq_true h2).symm.trans (Nat.eq_of_beq_eq_true h1)) hn

/-- is an operation wanted? -/
def gst (ops : Array Oper) (o : Oper) (e : GEnv) : Option Bool :=
  match o.guard with
  | none => some true
  | some (j, want) =>
    match (ops[j]?).bind (·.dst) with
    | some d => (match e d with | .skip => some false | .val (.bool b) => some (b == want) | _ => none)
    | none => none

def guardSlot (ops : Array Oper) (o : Oper) : List Nat :=
  match o.guard with
  | none => []
  | some (j, _) => match (ops[j]?).bind (·.dst) with | some d => [d] | none => []

theorem gst_setD (ops : Array Oper) (o : Oper) (e : GEnv) {d : Option Tmp} (v : GV) (hn : ∀ k, d = some k → k ∉ guardSlot ops o) : gst ops o (setD e d v) = gst ops o e := by
  unfold gst
  unfold guardSlot at hn
  split
  · rfl
  · rename_i j want hg
    simp only [hg] at hn
    split
    · rename_i k hk
      simp only [hk] at hn
      rw [setD_ne]
      intro hd; exact hn k hd (by simp)
    · rfl

abbrev Lds := List (Nat × Nat × Bool × Value × Value)

def ldsOk (ms : List Nat) (i : Nat) (h : GH) : Lds → Prop
  | [] => True
  | (x, n, g, p, v) :: r => ((ms.getD i 0).testBit x = true ∨ ldV n g p h = some v) ∧ ldsOk ms i h r

theorem ldsOk_upd {ms : List Nat} {i : Nat} {h : GH} {b : Nat} {g : GObj} (hb : h b = none) : ∀ {l : Lds}, ldsOk ms i h l → ldsOk ms i (upd h b g) l := by
  intro l
  induction l with
  | nil => intro _; trivial
  | cons q l ih =>
    intro hl
    obtain ⟨x, n, gg, p, v⟩ := q
    exact ⟨hl.1.imp id (ldV_upd hb), ih hl.2⟩

/-- One operation of a region, with its guard, the loads ahead of it held against what it writes. -/
def gxe (P : Program) (ops : Array Oper) (ms : List Nat) (i : Nat) (o : Oper) (e : GEnv) (h : GH) (lds : Lds) (K : GEnv → GH → Lds → Prop) : Prop :=
  match gst ops o e with
  | none => False
  | some false => K (setD e o.dst .skip) h lds
  | some true =>
    match cls o.op with
    | .load => ∃ t x p n g v, o.op = .load t x ∧ evO e x = some p ∧ szK P t = some (n, g) ∧ ldV n g p h = some v ∧ K (setD e o.dst (.val v)) h ((i, n, g, p, v) :: lds)
    | .write => gop P o.op e h fun v h' => ldsOk ms i h' lds ∧ K (setD e o.dst (.val v)) h' lds
    | .none => False
    | _ => gop P o.op e h fun v h' => K (setD e o.dst (.val v)) h' lds

def gdr (P : Program) (ops : Array Oper) (ms : List Nat) : List Nat → GEnv → GH → Lds → (GEnv → GH → Prop) → Prop
  | [], e, h, _, Q => Q e h
  | i :: r, e, h, lds, Q =>
    match ops[i]? with
    | none => False
    | some o => gxe P ops ms i o e h lds fun e h lds => gdr P ops ms r e h lds Q

/-- may x (which stands ahead of i) and i change places? -/
def classB (x i : Cls) : Bool :=
  match x, i with
  | .none, _ => false
  | _, .none => false
  | .pure, _ => true
  | .load, _ => true
  | .alloc, .pure => true
  | .alloc, .alloc => true
  | .write, .alloc => true
  | _, _ => false

structure Indep (ops : Array Oper) (ox oi : Oper) : Prop where
  d1 : ∀ d, ox.dst = some d → d ∉ uses oi.op ∧ d ∉ guardSlot ops oi ∧ oi.dst ≠ some d
  d2 : ∀ d, oi.dst = some d → d ∉ uses ox.op ∧ d ∉ guardSlot ops ox
  cl : classB (cls ox.op) (cls oi.op) = true

theorem gop_setD {P : Program} {op : Op} {e : GEnv} {h : GH} {K : Value → GH → Prop} {d : Option Tmp} (v : GV) (hn : ∀ k, d = some k → k ∉ uses op) : gop P op (setD e d v) h K = gop P op e h K := by
  apply gop_congr
  intro t ht
  rw [setD_ne]
  intro hd; exact hn t hd ht

theorem evO_setD {x : Operand} {e : GEnv} {d : Option Tmp} (v : GV) (hn : ∀ k, d = some k → k ∉ usesO x) : evO (setD e d v) x = evO e x := by
  apply evO_congr
  intro t ht
  rw [setD_ne]
  intro hd; exact hn t hd ht

theorem uses_load {t : TypeId} {x : Operand} : uses (.load t x) = usesO x := by simp [uses, Op.operands]

section
variable {P : Program} {ops : Array Oper} {ms : List Nat} {i : Nat} {o : Oper} {e : GEnv} {h : GH} {lds : Lds} {K K' : GEnv → GH → Lds → Prop}

/-- what comes out of an operation: its slot has a value, or is passed over; some world is still there -/
theorem gxe_mono {w : World} (s : Sub h w) (g : gxe P ops ms i o e h lds K) (k : ∀ v h' l', (∃ w, Sub h' w) → K (setD e o.dst v) h' l' → K' (setD e o.dst v) h' l') : gxe P ops ms i o e h lds K' := by
  unfold gxe at g ⊢
  cases hg : gst ops o e with
  | none => simp only [hg] at g
  | some b =>
    simp only [hg] at g ⊢
    cases b with
    | false => exact k _ _ _ ⟨w, s⟩ g
    | true =>
      simp only at g ⊢
      cases hc : cls o.op with
      | load => simp only [hc] at g ⊢; obtain ⟨t, x, p, n, gg, v, h1, h2, h3, h4, g⟩ := g; exact ⟨t, x, p, n, gg, v, h1, h2, h3, h4, k _ _ _ ⟨w, s⟩ g⟩
      | write => simp only [hc] at g ⊢; exact gop_mono (gop_world s g) fun v h' ⟨⟨q1, q2⟩, q3⟩ => ⟨q1, k _ _ _ q3 q2⟩
      | none => simp only [hc] at g
      | pure => simp only [hc] at g ⊢; exact gop_mono (gop_world s g) fun v h' ⟨q2, q3⟩ => k _ _ _ q3 q2
      | alloc => simp only [hc] at g ⊢; exact gop_mono (gop_world s g) fun v h' ⟨q2, q3⟩ => k _ _ _ q3 q2

theorem gxe_const {R : Prop} {w : World} (s : Sub h w) (g : gxe P ops ms i o e h lds fun _ _ _ => R) : R := by
  unfold gxe at g
  cases hg : gst ops o e with
  | none => simp only [hg] at g
  | some b =>
    simp only [hg] at g
    cases b with
    | false => exact g
    | true =>
      simp only at g
      cases hc : cls o.op with
      | load => simp only [hc] at g; obtain ⟨t, x, p, n, gg, v, h1, h2, h3, h4, g⟩ := g; exact g
      | write => simp only [hc] at g; exact gop_const s (gop_mono g fun _ _ q => q.2)
      | none => simp only [hc] at g
      | pure => simp only [hc] at g; exact gop_const s g
      | alloc => simp only [hc] at g; exact gop_const s g

/-- a slot that the operation does not look at -/
theorem gxe_env {d : Option Tmp} (v : GV) (hd : ∀ k, d = some k → k ∉ uses o.op ∧ k ∉ guardSlot ops o ∧ o.dst ≠ some k) :
    gxe P ops ms i o (setD e d v) h lds K ↔ gxe P ops ms i o e h lds fun e1 h1 l1 => K (setD e1 d v) h1 l1 := by
  have dc : ∀ (e : GEnv) (v'), setD (setD e d v) o.dst v' = setD (setD e o.dst v') d v := fun e v' => setD_comm e v v' (fun k hk => (hd k hk).2.2)
  unfold gxe
  rw [gst_setD ops o e v (fun k hk => (hd k hk).2.1)]
  cases gst ops o e with
  | none => exact Iff.rfl
  | some b =>
    cases b with
    | false => simp only [dc]
    | true =>
      simp only
      cases hc : cls o.op with
      | load =>
        simp only
        constructor
        · rintro ⟨t, x, p, n, gg, u, h1, h2, h3, h4, g⟩
          rw [evO_setD v (fun k hk => by have := (hd k hk).1; rw [h1, uses_load] at this; exact this)] at h2
          rw [dc] at g
          exact ⟨t, x, p, n, gg, u, h1, h2, h3, h4, g⟩
        · rintro ⟨t, x, p, n, gg, u, h1, h2, h3, h4, g⟩
          refine ⟨t, x, p, n, gg, u, h1, ?_, h3, h4, by rw [dc]; exact g⟩
          rw [evO_setD v (fun k hk => by have := (hd k hk).1; rw [h1, uses_load] at this; exact this)]; exact h2
      | write => simp only [gop_setD v (fun k hk => (hd k hk).1), dc]
      | none => exact Iff.rfl
      | pure => simp only [gop_setD v (fun k hk => (hd k hk).1), dc]
      | alloc => simp only [gop_setD v (fun k hk => (hd k hk).1), dc]

/-- a load that was done ahead -/
theorem gxe_ld {x n : Nat} {gg : Bool} {p v : Value} (hms : (ms.getD i 0).testBit x = false) (hv : ldV n gg p h = some v) (perm : ∀ e h l l', List.Perm l l' → K e h l → K e h l')
    (g : gxe P ops ms i o e h ((x, n, gg, p, v) :: lds) K) : gxe P ops ms i o e h lds fun e1 h1 l1 => K e1 h1 ((x, n, gg, p, v) :: l1) ∧ ldV n gg p h1 = some v := by
  unfold gxe at g ⊢
  cases hg : gst ops o e with
  | none => simp only [hg] at g
  | some b =>
    simp only [hg] at g ⊢
    cases b with
    | false => exact ⟨g, hv⟩
    | true =>
      simp only at g ⊢
      cases hc : cls o.op with
      | load =>
        simp only [hc] at g ⊢
        obtain ⟨t, y, p', n', gg', v', h1, h2, h3, h4, g⟩ := g
        exact ⟨t, y, p', n', gg', v', h1, h2, h3, h4, perm _ _ _ _ (List.Perm.swap _ _ _) g, hv⟩
      | write =>
        simp only [hc] at g ⊢
        refine gop_mono g fun u h' q => ?_
        obtain ⟨⟨q1, q2⟩, q3⟩ := q
        refine ⟨q2, q3, ?_⟩
        rcases q1 with q1 | q1
        · rw [hms] at q1; cases q1
        · exact q1
      | none => simp only [hc] at g
      | pure =>
        simp only [hc] at g ⊢
        obtain ⟨u, f⟩ := gop_pure hc g
        exact (f _ _).2 ⟨(f _ _).1 g, hv⟩
      | alloc =>
        simp only [hc] at g ⊢
        obtain ⟨val, T, pre, f⟩ := gop_alloc hc g
        exact (f _ _).2 fun b hb => ⟨(f _ _).1 g b hb, ldV_upd hb hv⟩

/-- Two neighbours change places. -/
theorem gxe_swap {x : Nat} {ox : Oper} (ind : Indep ops ox o) (hms : (ms.getD i 0).testBit x = false) {w : World} (s : Sub h w) (perm : ∀ e h l l', List.Perm l l' → K e h l → K e h l')
    (g : gxe P ops ms x ox e h lds fun e1 h1 l1 => gxe P ops ms i o e1 h1 l1 K) : gxe P ops ms i o e h lds fun e1 h1 l1 => gxe P ops ms x ox e1 h1 l1 K := by
  have gx : ∀ (e : GEnv) (v : GV), gst ops ox (setD e o.dst v) = gst ops ox e := fun e v => gst_setD ops ox e v (fun k hk => (ind.d2 k hk).2)
  have ox' : ∀ (e : GEnv) (v : GV) h K, gop P ox.op (setD e o.dst v) h K = gop P ox.op e h K := fun e v h K => gop_setD v (fun k hk => (ind.d2 k hk).1)
  have lx : ∀ {t y}, ox.op = .load t y → ∀ (e : GEnv) (v : GV), evO (setD e o.dst v) y = evO e y := fun hop e v => evO_setD v (fun k hk => by have := (ind.d2 k hk).1; rw [hop, uses_load] at this; exact this)
  have ec : ∀ {v : GV} {h l K}, gxe P ops ms i o (setD e ox.dst v) h l K ↔ gxe P ops ms i o e h l fun e1 h1 l1 => K (setD e1 ox.dst v) h1 l1 := fun {v h l K} => gxe_env v ind.d1
  have cl := ind.cl
  unfold gxe at g
  cases hgx : gst ops ox e with
  | none => simp only [hgx] at g
  | some bx =>
    simp only [hgx] at g
    cases bx with
    | false =>
      simp only at g
      refine gxe_mono s (ec.1 g) fun v h' l' _ q => ?_
      unfold gxe; simp only [gx, hgx]; exact q
    | true =>
      simp only at g
      cases hcx : cls ox.op with
      | none => simp only [hcx] at g
      | pure =>
        simp only [hcx] at g
        obtain ⟨u, f⟩ := gop_pure hcx g
        refine gxe_mono s (ec.1 ((f _ _).1 g)) fun v h' l' _ q => ?_
        unfold gxe; simp only [gx, hgx, hcx, ox']; exact (f _ _).2 q
      | load =>
        simp only [hcx] at g
        obtain ⟨t, y, p, n, gg, u, h1, h2, h3, h4, g⟩ := g
        have perm' : ∀ e1 h1 l l', List.Perm l l' → K (setD e1 ox.dst (.val u)) h1 l → K (setD e1 ox.dst (.val u)) h1 l' := fun _ _ _ _ pp kk => perm _ _ _ _ pp kk
        refine gxe_mono s (gxe_ld hms h4 perm' (ec.1 g)) fun v h' l' _ q => ?_
        unfold gxe; simp only [gx, hgx, hcx]
        exact ⟨t, y, p, n, gg, u, h1, by rw [lx h1]; exact h2, h3, q.2, q.1⟩
      | alloc =>
        simp only [hcx] at g
        obtain ⟨val, T, pre, f⟩ := gop_alloc hcx g
        have g' := (f _ _).1 g
        have g0 := ec.1 (g' _ (s.fresh (Nat.le_refl _)))
        have after : ∀ v h' l', (∀ b, h' b = none → K (setD (setD e o.dst v) ox.dst (.val (val b))) (upd h' b (.row T pre pre.length true)) l') → gxe P ops ms x ox (setD e o.dst v) h' l' K := by
          intro v h' l' q
          unfold gxe; simp only [gx, hgx, hcx, ox']; exact (f _ _).2 q
        unfold gxe at g0
        cases hgi : gst ops o e with
        | none => simp only [hgi] at g0
        | some bi =>
          cases bi with
          | false =>
            unfold gxe; simp only [hgi]
            refine after _ _ _ fun b hb => ?_
            have := ec.1 (g' b hb)
            unfold gxe at this; simp only [hgi] at this; exact this
          | true =>
            simp only [hgi] at g0
            cases hci : cls o.op with
            | none => simp only [hci] at g0
            | load => rw [hcx, hci] at cl; cases cl
            | write => rw [hcx, hci] at cl; cases cl
            | pure =>
              simp only [hci] at g0
              obtain ⟨u, fu⟩ := gop_pure hci g0
              unfold gxe; simp only [hgi, hci]
              refine (fu _ _).2 (after _ _ _ fun b hb => ?_)
              have := ec.1 (g' b hb)
              unfold gxe at this; simp only [hgi, hci] at this
              exact (fu _ _).1 this
            | alloc =>
              simp only [hci] at g0
              obtain ⟨val2, T2, pre2, fu⟩ := gop_alloc hci g0
              unfold gxe; simp only [hgi, hci]
              refine (fu _ _).2 fun b2 hb2 => after _ _ _ fun b hb => ?_
              have hne : b ≠ b2 := by rintro rfl; simp at hb
              rw [upd_ne hne] at hb
              have := ec.1 (g' b hb)
              unfold gxe at this; simp only [hgi, hci] at this
              have := (fu _ _).1 this b2 (by rw [upd_ne (Ne.symm hne)]; exact hb2)
              rw [upd_comm _ _ _ hne] at this
              exact this
      | write =>
        simp only [hcx] at g
        have g1 : gop P ox.op e h fun v h' => ldsOk ms x h' lds ∧ gxe P ops ms i o e h' lds fun e1 h1 l1 => K (setD e1 ox.dst (.val v)) h1 l1 := gop_mono g fun v h' q => ⟨q.1, ec.1 q.2⟩
        have after : ∀ v h' l', (gop P ox.op e h' fun u h2 => ldsOk ms x h2 l' ∧ K (setD (setD e o.dst v) ox.dst (.val u)) h2 l') → gxe P ops ms x ox (setD e o.dst v) h' l' K := by
          intro v h' l' q
          unfold gxe; simp only [gx, hgx, hcx, ox']; exact q
        cases hgi : gst ops o e with
        | none => exact False.elim (gop_const s (gop_mono g1 fun v h' q => by have := q.2; unfold gxe at this; simp only [hgi] at this))
        | some bi =>
          cases bi with
          | false =>
            unfold gxe; simp only [hgi]
            refine after _ _ _ (gop_mono g1 fun v h' q => ⟨q.1, ?_⟩)
            have := q.2; unfold gxe at this; simp only [hgi] at this; exact this
          | true =>
            cases hci : cls o.op with
            | none => rw [hcx, hci] at cl; cases cl
            | load => rw [hcx, hci] at cl; cases cl
            | write => rw [hcx, hci] at cl; cases cl
            | pure => rw [hcx, hci] at cl; cases cl
            | alloc =>
              have g2 : gop P ox.op e h fun v h' => ldsOk ms x h' lds ∧ gop P o.op e h' fun v2 h2 => K (setD (setD e o.dst (.val v2)) ox.dst (.val v)) h2 lds := by
                refine gop_mono g1 fun v h' q => ⟨q.1, ?_⟩
                have := q.2; unfold gxe at this; simp only [hgi, hci] at this; exact this
              have hex : ∃ (val : Nat → Value) (T : TypeId) (pre : List Value), ∀ h' (K' : Value → GH → Prop), gop P o.op e h' K' ↔ ∀ b, h' b = none → K' (val b) (upd h' b (.row T pre pre.length true)) :=
                gop_const s (gop_mono g2 fun v h' q => gop_alloc hci q.2)
              obtain ⟨val2, T2, pre2, fu⟩ := hex
              unfold gxe; simp only [hgi, hci]
              refine (fu _ _).2 fun b2 hb2 => after _ _ _ ?_
              refine gop_mono ((gop_write hcx g2).1 b2 (.row T2 pre2 pre2.length true) hb2) fun v h' q => ?_
              obtain ⟨h0, q0, rfl, q1, q2⟩ := q
              exact ⟨ldsOk_upd q0 q1, (fu _ _).1 q2 b2 q0⟩

end
end Go.Proofs.Ytkcgphbgbibhfaa.GW
