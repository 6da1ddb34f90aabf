/- Several texts in one, each under its own remark or none; nothing here is a statement on the program. -/
import Derived.Test.YtlmafbdhhneokaaGreatKX
namespace Go.Proofs.YtlmafbdhhneokaaGreat
open Go GW Go.Proofs
set_option linter.unusedVariables false
set_option linter.unusedSimpArgs false
/-! ### what a body asks of nothing -/
section
variable {w : Wk} {d : Int}
theorem Wk.get_asked (h : w.need = some d) (c : Int) : (w.get c).2 = w := by unfold Wk.get; rw [h]; rfl
theorem Wk.set_asked (h : w.need = some d) (c x : Int) : w.set c x = w := by unfold Wk.set; rw [h]; rfl
theorem Wk.next_asked (h : w.need = some d) (key lev : Int) : (w.next key lev).2 = w := Wk.get_asked h _
theorem Wk.before_asked : ∀ {n : Nat} {key f lev : Int}, w.need = some d → (w.before n key f lev).2 = w := by
  intro n
  induction n with
  | zero => intro key f lev h; rfl
  | succ n ih =>
    intro key f lev h
    unfold Wk.before
    split
    · exact Wk.next_asked h _ _
    · rw [Wk.next_asked h]; exact ih h
theorem Wk.bits_asked : ∀ {n : Nat} {x b out : Int}, w.need = some d → (w.bits n x b out).2 = w := by
  intro n
  induction n with
  | zero => intro x b out h; rfl
  | succ n ih =>
    intro x b out h
    unfold Wk.bits
    split
    · rfl
    · rw [Wk.next_asked h]; exact ih h
theorem Wk.put_asked (h : w.need = some d) (x y z : Int) : w.put x y z = w := by
  unfold Wk.put; simp only [Wk.get_asked h, Wk.set_asked h]
theorem Wk.drop_asked (h : w.need = some d) (x y z : Int) : w.drop x y z = w := by
  unfold Wk.drop; simp only [Wk.get_asked h, Wk.set_asked h]
theorem Wk.sum_asked : ∀ {n : Nat} {i all : Int}, w.need = some d → (w.sum n i all).2 = w := by
  intro n
  induction n with
  | zero => intro i all h; rfl
  | succ n ih => intro i all h; unfold Wk.sum; rw [Wk.get_asked h]; exact ih h
end
def wkZ : Wk := ⟨vwZ, none⟩
theorem wkZ_get {c : Int} (h0 : 0 ≤ c) (h1 : c < 16) : (wkZ.get c).2.need = some c := by
  unfold Wk.get
  have : vwZ.k.getD c.toNat false = false := by
    rw [List.getD_eq_getElem?_getD]
    cases e : vwZ.k[c.toNat]? with
    | none => rfl
    | some x => exact List.eq_of_mem_replicate (List.mem_of_getElem? e)
  show (if wkZ.v.k.getD c.toNat false = true then _ else _ : Int × Wk).2.need = some c
  rw [if_neg (by rw [show wkZ.v = vwZ from rfl, this]; decide)]
theorem wkZ_run {o : Op} (m : o.may = true) : ∃ c, (if o.kind ≤ 5 then wkZ.bank o else wkZ.skip o).2.need = some c := by
  split
  · rename_i hk
    obtain ⟨⟨a0, a1⟩, _⟩ := Op.may_bk m hk
    unfold Wk.bank
    split
    · refine ⟨0, ?_⟩
      show (wkZ.sum (3 + 1) 0 0).2.need = some 0
      unfold Wk.sum
      have g := wkZ_get (c := 0) (by decide) (by decide)
      rw [Wk.sum_asked g]; exact g
    · have g := wkZ_get a0 (by omega : o.a < 16)
      refine ⟨o.a, ?_⟩
      simp only [Wk.get_asked g, Wk.set_asked g]
      repeat' split
      all_goals exact g
  · have key : ∀ {w : Wk} {c : Int}, w.need = some c → ∀ hi lo x, (w.insert o hi lo x).2 = w ∧ (w.erase o hi lo x).2 = w := by
      intro w c h hi lo x
      constructor
      · unfold Wk.insert
        split
        · rfl
        · simp only [Wk.put_asked h]; split <;> rfl
      · unfold Wk.erase
        split
        · simp only [Wk.drop_asked h, Wk.next_asked h]; split <;> rfl
        · rfl
    have bl : ∀ (lev : Int), 0 ≤ lev → lev ≤ 1 → (wkZ.next (-1) lev).2.need = some (4 + lev) := fun lev h0 h1 => by
      have := wkZ_get (c := 4 + lev) (by omega) (by omega)
      show (wkZ.get (lk (-1) lev)).2.need = _
      rw [show lk (-1) lev = 4 + lev by unfold lk; omega]; exact this
    unfold Wk.skip
    split
    · exact ⟨_, bl 0 (by decide) (by decide)⟩
    · have g1 : (wkZ.before 7 o.a (-1) 1).2.need = some 5 := by
        show (wkZ.before (6 + 1) o.a (-1) 1).2.need = some 5
        have g := bl 1 (by decide) (by decide)
        unfold Wk.before
        split
        · exact g
        · rw [Wk.before_asked g]; exact g
      refine ⟨5, ?_⟩
      simp only
      generalize wkZ.before 7 o.a (-1) 1 = hi at g1 ⊢
      rw [Wk.before_asked g1, Wk.next_asked g1]
      split
      · exact g1
      · split
        · rw [Wk.bits_asked g1]; exact g1
        · split
          · rw [(key g1 _ _ _).1]; exact g1
          · rw [(key g1 _ _ _).2]; exact g1
theorem vwZ_do {ops : List Op} (m : Txn.may ops = true) : ∃ c, 0 ≤ c ∧ c < 16 ∧ vwZ.do_ ops = ⟨some c, vwZ, []⟩ := by
  unfold Txn.may at m
  simp only [Bool.and_eq_true, List.all_eq_true, decide_eq_true_eq] at m
  cases ops with
  | nil => simp at m
  | cons o os =>
    have om := m.1 o (by simp)
    obtain ⟨c, hc⟩ := wkZ_run om
    have hn := (Vw.one_ok vwZ_ok om).2.1
    have e : (vwZ.one o).need = some c := by
      unfold Vw.one
      simp only
      rw [show (⟨vwZ, none⟩ : Wk) = wkZ from rfl, hc]
    obtain ⟨c0, c1⟩ := hn c e
    refine ⟨c, c0, c1, ?_⟩
    unfold Vw.do_ Vw.doFrom
    rw [e]
theorem Vw.do_ok {v : Vw} (ok : v.ok) {ops : List Op} (m : Txn.may ops = true) : (v.do_ ops).view.ok ∧ ∀ c, (v.do_ ops).need = some c → (0 ≤ c ∧ c < 16) ∧ (v.do_ ops).view = v ∧ (v.do_ ops).ans = [] := by
  unfold Txn.may at m
  simp only [Bool.and_eq_true, List.all_eq_true] at m
  have key : ∀ (os : List Op) (w : Vw) (rs : List Answer), (∀ o ∈ os, o.may = true) → w.ok → (v.doFrom os w rs).view.ok ∧ ∀ c, (v.doFrom os w rs).need = some c → (0 ≤ c ∧ c < 16) ∧ (v.doFrom os w rs).view = v ∧ (v.doFrom os w rs).ans = [] := by
    intro os
    induction os with
    | nil => intro w rs _ wok; exact ⟨wok, fun c e => by cases e⟩
    | cons o os ih =>
      intro w rs hm wok
      obtain ⟨h1, h2, h3⟩ := Vw.one_ok wok (hm o (by simp))
      unfold Vw.doFrom
      cases e : (w.one o).need with
      | some c => exact ⟨ok, fun d q => by cases q; exact ⟨h2 c e, rfl, rfl⟩⟩
      | none =>
        simp only
        split
        · exact ih _ _ (fun o ho => hm o (List.mem_cons_of_mem _ ho)) h1
        · exact ⟨ok, fun d q => by cases q⟩
  exact key ops v [] m.1 ok
/-! ### the attempt -/
inductive AtSt where
  | rd (r : Rd) (v : Vw)
  | wr (w : Wr)
  | hp (H : Help)
structure At where
  t : Int
  q : Int
  slot : Int
  gen : Int
  ops : List Op
  st : AtSt
  ts : Int
  tg : Int
  won : Bool
  over : Bool
  ans : List Answer
def Vw.know (v : Vw) (c x : Int) : Vw := ⟨v.k.set c.toNat true, v.w.set c.toNat x, v.n.set c.toNat x⟩
theorem Vw.know_ok {v : Vw} (o : v.ok) {c x : Int} (h : Vw.val x) : (v.know c x).ok := by
  refine ⟨by simp [Vw.know, o.lk], by simp [Vw.know, o.lw], by simp [Vw.know, o.ln], fun y hy => ?_, fun y hy => ?_⟩
  · rcases List.mem_or_eq_of_mem_set hy with q | q
    · exact o.rw y q
    · rw [q]; exact h
  · rcases List.mem_or_eq_of_mem_set hy with q | q
    · exact o.rn y q
    · rw [q]; exact h
def At.asked (x : At) (m : AskM) : At :=
  match m.need with
  | some c => { x with st := .rd (.new x.t x.q c) m.view }
  | none => { x with st := .wr (newWr x.slot x.gen m.view.rows), ans := m.ans }
def At.known (x : At) (v : Vw) (c y : Int) : At := x.asked ((v.know c y).do_ x.ops)
def At.step (x : At) (A : Ar) : At × Int × Ar :=
  if x.over then (x, 0, A) else
  match x.st with
  | .rd r v =>
    let o := r.step A
    let x1 : At := { x with q := o.1.q, ts := o.1.slot, tg := o.1.gen, st := .rd o.1 v }
    if o.2.1 ≠ 0 then ({ x1 with over := true }, 1700, o.2.2) else
    if o.1.over then (x1.known v o.1.cell o.1.value, 0, o.2.2) else (x1, 0, o.2.2)
  | .wr w =>
    let o := w.step A
    ({ x with ts := x.slot, tg := x.gen, st := if o.2.1 then .hp (.new x.t x.q (.who (.new x.slot x.gen))) else .wr o.1 }, 0, o.2.2)
  | .hp H =>
    let o := H.step A
    let x1 : At := { x with q := o.1.q, ts := o.1.slot, tg := o.1.gen, st := .hp o.1 }
    if o.2.1 ≠ 0 then ({ x1 with over := true }, 1700, o.2.2) else
    ({ x1 with over := o.1.over, won := o.1.over && o.1.won }, 0, o.2.2)
def At.may (t q slot gen : Int) (ops : List Op) : Prop := (0 ≤ t ∧ t < 4) ∧ (0 ≤ q ∧ q < 1048576) ∧ lifeMay slot gen = true ∧ Txn.may ops = true
def At.new (t q slot gen : Int) (ops : List Op) : At := ⟨t, q, slot, gen, ops, .rd (.new t q (needN (vwZ.do_ ops).need)) vwZ, -1, 0, false, false, []⟩
def AtSt.ok (over : Bool) : AtSt → Prop
  | .rd r v => r.ok ∧ v.ok ∧ (over = false → r.over = false)
  | .wr w => w.ok
  | .hp H => H.ok ∧ (over = false → H.over = false)
structure At.ok (x : At) : Prop where
  t0 : 0 ≤ x.t
  t1 : x.t < 4
  q0 : 0 ≤ x.q
  q1 : x.q < 1048576
  life : lifeMay x.slot x.gen = true
  ops : Txn.may x.ops = true
  won : x.over = false → x.won = false
  st : x.st.ok x.over
theorem plainOf_range {x v : Int} (h : plainOf x = some v) : Vw.val v := by
  unfold plainOf at h
  cases e : read x with
  | none => rw [e] at h; cases h
  | some f =>
    rw [e] at h
    cases f with
    | val u => cases h; exact may_val.1 (read_may e)
    | mcas _ _ => cases h
    | entry _ _ _ _ _ => cases h
theorem Rd.step_val {r : Rd} {A : Ar} (ho : r.over = false) (h0 : (r.step A).2.1 = 0) (h1 : (r.step A).1.over = true) : Vw.val (r.step A).1.value ∧ (r.step A).1.cell = r.cell ∧ (r.step A).1.t = r.t := by
  unfold Rd.step at h0 h1 ⊢
  rw [ho] at h0 h1 ⊢
  simp only [Bool.false_eq_true, if_false] at h0 h1 ⊢
  cases hh : r.help with
  | some H =>
    rw [hh] at h0 h1
    simp only [Rd.helping] at h0 h1
    split at h0
    · rename_i e; rw [decide_eq_true e] at h1; cases h1
    · cases h0
  | none =>
    rw [hh] at h0 h1
    simp only [Rd.load] at h0 h1 ⊢
    cases hp : plainOf (A.at r.cell) with
    | some v => exact ⟨plainOf_range hp, rfl, rfl⟩
    | none =>
      rw [hp] at h0 h1
      simp only at h0 h1
      cases hn : newHelp r.t r.q (A.at r.cell) with
      | some H => rw [hn] at h1; simp only at h1; rw [ho] at h1; cases h1
      | none => rw [hn] at h0; cases h0
theorem Rd.step_keep {r : Rd} {A : Ar} : (r.step A).1.cell = r.cell ∧ (r.step A).1.t = r.t := by
  unfold Rd.step
  split
  · exact ⟨rfl, rfl⟩
  · split
    · exact ⟨rfl, rfl⟩
    · unfold Rd.load
      split
      · exact ⟨rfl, rfl⟩
      · split <;> exact ⟨rfl, rfl⟩
theorem Rd.step_err {r : Rd} {A : Ar} (h : (r.step A).2.1 ≠ 0) : (r.step A).1.over = true := by
  unfold Rd.step at h ⊢
  split at h
  · exact absurd rfl h
  · rename_i ho
    rw [if_neg ho]
    split at h
    · rename_i H e
      simp only [Rd.helping] at h ⊢
      split at h
      · exact absurd rfl h
      · rename_i q; rw [decide_eq_false q]; rfl
    · unfold Rd.load at h ⊢
      split at h
      · exact absurd rfl h
      · split at h
        · exact absurd rfl h
        · rfl
theorem Help.step_err {H : Help} {A : Ar} (h : (H.step A).2.1 ≠ 0) : (H.step A).1.over = true := by
  unfold Help.step at h ⊢
  split at h
  · exact absurd rfl h
  · rename_i ho
    rw [if_neg ho]
    simp only at h ⊢
    unfold Help.take at h ⊢
    simp only at h ⊢
    split
    · rfl
    · rename_i c
      rw [if_neg c] at h
      split
      · rename_i f e
        rw [e] at h
        simp only at h
        split
        · rfl
        · rename_i c2; rw [if_neg c2] at h; exact absurd rfl h
      · rename_i e
        rw [e] at h
        simp only at h
        split at h
        · exact absurd rfl h
        · split at h <;> exact absurd rfl h
theorem At.asked_ok {x : At} (o : x.ok) (ho : x.over = false) {v : Vw} (vok : v.ok) : (x.asked (v.do_ x.ops)).ok ∧ (x.asked (v.do_ x.ops)).over = false := by
  have d := Vw.do_ok vok o.ops
  unfold At.asked
  cases e : (v.do_ x.ops).need with
  | some c =>
    obtain ⟨⟨c0, c1⟩, _⟩ := d.2 c e
    exact ⟨⟨o.t0, o.t1, o.q0, o.q1, o.life, o.ops, o.won, Rd.new_ok ⟨⟨o.t0, o.t1⟩, ⟨o.q0, o.q1⟩, c0, c1⟩, d.1, fun _ => rfl⟩, ho⟩
  | none => exact ⟨⟨o.t0, o.t1, o.q0, o.q1, o.life, o.ops, o.won, newWr_ok o.life (Vw.rows_may d.1)⟩, ho⟩
theorem At.step_ok {x : At} {A : Ar} (o : x.ok) (hA : A.ok) : (x.step A).1.ok ∧ (x.step A).2.2.ok := by
  unfold At.step
  split
  · exact ⟨o, hA⟩
  · rename_i ho
    have ho : x.over = false := by simpa using ho
    have hs := o.st
    split
    · rename_i r v e
      rw [e] at hs
      obtain ⟨rok, vok, rov⟩ := hs
      have so := Rd.step_ok rok hA
      have hv := Rd.step_val (r := r) (A := A) (rov ho)
      simp only
      generalize r.step A = s at so hv ⊢
      split
      · exact ⟨⟨o.t0, o.t1, so.1.q0, so.1.q1, o.life, o.ops, (fun q => by cases q), so.1, vok, fun q => by cases q⟩, so.2⟩
      · rename_i q0
        split
        · rename_i q1
          have hv := hv (by simpa using q0) q1
          have o1 : At.ok { x with q := s.1.q, ts := s.1.slot, tg := s.1.gen, st := .wr ⟨0, []⟩ } := ⟨o.t0, o.t1, so.1.q0, so.1.q1, o.life, o.ops, o.won, ⟨by simp, by simp, fun _ h => by cases h⟩⟩
          have := At.asked_ok o1 ho (Vw.know_ok (c := s.1.cell) vok hv.1)
          refine ⟨?_, so.2⟩
          have e2 := this.1
          unfold At.known
          unfold At.asked at e2 ⊢
          simp only at e2 ⊢
          cases hn : ((v.know s.1.cell s.1.value).do_ x.ops).need with
          | some c => rw [hn] at e2; exact ⟨e2.t0, e2.t1, e2.q0, e2.q1, e2.life, e2.ops, e2.won, e2.st⟩
          | none => rw [hn] at e2; exact ⟨e2.t0, e2.t1, e2.q0, e2.q1, e2.life, e2.ops, e2.won, e2.st⟩
        · rename_i q1
          exact ⟨⟨o.t0, o.t1, so.1.q0, so.1.q1, o.life, o.ops, o.won, so.1, vok, fun _ => by simpa using q1⟩, so.2⟩
    · rename_i w e
      rw [e] at hs
      have so := Wr.step_ok hs hA
      have hl := o.life
      unfold lifeMay at hl
      simp only [decide_eq_true_eq] at hl
      refine ⟨⟨o.t0, o.t1, o.q0, o.q1, o.life, o.ops, o.won, ?_⟩, so.2⟩
      simp only
      split
      · exact ⟨⟨o.t0, o.t1, o.q0, o.q1, by constructor <;> simp [Help.new], zero64, fun _ => ⟨Wh.new_ok ⟨hl.1, hl.2.1, hl.2.2.1, hl.2.2.2⟩, (fun _ h => by cases h), by simp [Help.new]⟩⟩, fun _ => rfl⟩
      · exact so.1
    · rename_i H e
      rw [e] at hs
      have so := Help.step_ok hs.1 hA
      simp only
      generalize H.step A = s at so ⊢
      split
      · exact ⟨⟨o.t0, o.t1, so.1.q0, so.1.q1, o.life, o.ops, (fun q => by cases q), so.1, fun q => by cases q⟩, so.2⟩
      · exact ⟨⟨o.t0, o.t1, so.1.q0, so.1.q1, o.life, o.ops, (fun q => by simp only at q ⊢; rw [q]; rfl), so.1, fun q => q⟩, so.2⟩
theorem At.new_ok {t q slot gen : Int} {ops : List Op} (m : At.may t q slot gen ops) : (At.new t q slot gen ops).ok := by
  obtain ⟨⟨t0, t1⟩, ⟨q0, q1⟩, l, mo⟩ := m
  obtain ⟨c, c0, c1, e⟩ := vwZ_do mo
  refine ⟨t0, t1, q0, q1, l, mo, fun _ => rfl, ?_⟩
  show AtSt.ok false (.rd (.new t q (needN (vwZ.do_ ops).need)) vwZ)
  rw [e]
  exact ⟨Rd.new_ok ⟨⟨t0, t1⟩, ⟨q0, q1⟩, c0, c1⟩, vwZ_ok, fun _ => rfl⟩
end Go.Proofs.YtlmafbdhhneokaaGreat
namespace Go.Proofs.YtlmafbdhhneokaaGreat
open Go GW Go.Proofs
attribute [local irreducible] bnd ldV stV ifV binV eqI
set_option linter.unusedVariables false
set_option linter.unusedSimpArgs false
set_option maxRecDepth 20000
/-! ### cells behind a view -/
section
variable {h : GH} {b n off sz : Nat} {T : TypeId} {p t : List Value} {f : Bool} {x : Value} {l : List Part} {v : Vw}
theorem view_at (ok : v.ok) (hle : p.length + 48 ≤ off) : (p ++ (v.cells ++ t))[off]? = t[off - (p.length + 48)]? := by
  have := Vw.len ok
  rw [List.getElem?_append_right (by omega), List.getElem?_append_right (by omega)]
  congr 1; omega
theorem view_set (ok : v.ok) (hle : p.length + 48 ≤ off) (x : Value) : (p ++ (v.cells ++ t)).set off x = p ++ (v.cells ++ t.set (off - (p.length + 48)) x) := by
  have := Vw.len ok
  rw [List.set_append_right _ _ (by omega), List.set_append_right _ _ (by omega)]
  congr 3; omega
theorem ldT {K : Value → Prop} (hp : All (pts b (.row T (p ++ (v.cells ++ t)) sz f) :: l) h) (ok : v.ok) (hle : Nat.ble (p.length + 48) off = true) (hv : t[off - (p.length + 48)]? = some x) (k : K x) : bnd (ldV n false (.pointer (some ⟨b, off, none⟩)) h) K :=
  ld0 hp (by rw [view_at ok (Nat.le_of_ble_eq_true hle)]; exact hv) k
theorem ldT1 {K : Value → Prop} {P : Part} (hp : All (P :: pts b (.row T (p ++ (v.cells ++ t)) sz f) :: l) h) (ok : v.ok) (hle : Nat.ble (p.length + 48) off = true) (hv : t[off - (p.length + 48)]? = some x) (k : K x) : bnd (ldV n false (.pointer (some ⟨b, off, none⟩)) h) K :=
  ld1 hp (by rw [view_at ok (Nat.le_of_ble_eq_true hle)]; exact hv) k
theorem stT {K : GH → Prop} {x : Value} (hp : All (pts b (.row T (p ++ (v.cells ++ t)) sz true) :: l) h) (g : GObj) (ok : v.ok) (hx : x.cells = #[x] ∧ oneCell x = true) (hle : Nat.ble (p.length + 48) off = true) (hlt : Nat.blt (off - (p.length + 48)) t.length = true) (hg : .row T (p ++ (v.cells ++ t.set (off - (p.length + 48)) x)) sz true = g)
    (k : ∀ h', All (pts b g :: l) h' → K h') : bnd (stV 1 (.pointer (some ⟨b, off, none⟩)) x h) K := by
  have hl := Vw.len ok
  have h1 := Nat.le_of_ble_eq_true hle
  have h2 := Nat.le_of_ble_eq_true hlt
  refine st0 hp g (by rw [hx.1]; rfl) (by simp only [List.length_append, hl]; omega) (by rw [hx.1]; simpa using hx.2) ?_ k
  rw [hx.1]
  show GObj.row T ((p ++ (v.cells ++ t)).set off x) sz true = g
  rw [view_set ok h1]; exact hg
theorem view_take (ok : v.ok) : ((p ++ (v.cells ++ t)).drop p.length).take 48 = v.cells := by
  rw [List.drop_left, ← Vw.len ok, List.take_left']; rfl
end
/-! ### the program's row -/
def atRow (x : At) (opv : Value) (nd : Int) (v : Vw) (asv now ansv : Value) : GObj :=
  .row 82 ([i64 x.t, i64 x.q, i64 x.slot, i64 x.gen, opv, i64 nd] ++ (v.cells ++ [asv, now, i64 x.ts, i64 x.tg, .bool x.won, .bool x.over, ansv])) 61 true
def stP (now : Value) : AtSt → Part
  | .rd r _ => fun h => ∃ b, now = .iface 88 (ptr b) ∧ readP b r h
  | .wr w => fun h => ∃ b, now = .iface 90 (ptr b) ∧ pwP b w h
  | .hp H => fun h => ∃ b, now = .iface 91 (ptr b) ∧ helpP b H h
def AtSt.sees (v : Vw) : AtSt → Prop
  | .rd _ u => u = v
  | _ => True
def attB (b : Nat) (x : At) (opv : Value) (nd : Int) (v : Vw) (asv now ansv : Value) : List Part :=
  [pts b (atRow x opv nd v asv now ansv), rowP 4 opv (x.ops.map Op.enc), rowP 2 ansv (x.ans.map Answer.enc), stP now x.st]
def attP (b : Nat) (x : At) : Part := fun h => ∃ (opv : Value) (nd : Int) (v : Vw) (asv now ansv : Value), (v.ok ∧ x.st.sees v) ∧ All (attB b x opv nd v asv now ansv) h
section
variable {a b c : Nat} {A : Ar} {R : List Part} {h : GH} {K : Value → GH → Prop} {x : At}
theorem attP_open {C : Prop} (hp : All (attP b x :: R) h) (k : ∀ (opv : Value) (nd : Int) (v : Vw) (asv now ansv : Value), v.ok → x.st.sees v → All (pts b (atRow x opv nd v asv now ansv) :: rowP 4 opv (x.ops.map Op.enc) :: rowP 2 ansv (x.ans.map Answer.enc) :: stP now x.st :: R) h → C) : C := by
  obtain ⟨opv, hp⟩ := All.ex hp
  obtain ⟨nd, hp⟩ := All.ex hp
  obtain ⟨v, hp⟩ := All.ex hp
  obtain ⟨asv, hp⟩ := All.ex hp
  obtain ⟨now, hp⟩ := All.ex hp
  obtain ⟨ansv, hp⟩ := All.ex hp
  obtain ⟨⟨e1, e2⟩, hp⟩ := All.pure hp
  exact k opv nd v asv now ansv e1 e2 (All.flat hp)
theorem attP_shut {opv : Value} {nd : Int} {v : Vw} {asv now ansv : Value} (vok : v.ok) (hs : x.st.sees v) (hp : All (pts b (atRow x opv nd v asv now ansv) :: rowP 4 opv (x.ops.map Op.enc) :: rowP 2 ansv (x.ans.map Answer.enc) :: stP now x.st :: R) h) : All (attP b x :: R) h :=
  (All.fold (l := [_, _, _, _]) hp).head fun h z => ⟨opv, nd, v, asv, now, ansv, ⟨vok, hs⟩, z⟩
theorem T_atWon (hp : All (attP b x :: R) h) (hK : K (.bool x.won) h) : T Tryz.prog 11 [ptr b] h K := by
  apply S11_T
  unfold S11
  refine attP_open hp fun opv nd v asv now ansv vok hs hp => ?_
  (repeat first|refine wx ?_|refine wy ?_|refine wz ?_|refine wv ?_|refine wh ?_)
  refine ldT hp vok rfl rfl ?_
  exact hK
theorem T_atSeq (hp : All (attP b x :: R) h) (hK : K (i64 x.q) h) : T Tryz.prog 129 [ptr b] h K := by
  apply S129_T
  unfold S129
  refine attP_open hp fun opv nd v asv now ansv vok hs hp => ?_
  (repeat first|refine wx ?_|refine wy ?_|refine wz ?_|refine wv ?_|refine wh ?_)
  exact hK
theorem T_atThrough (hp : All (attP b x :: R) h) (hK : K (.tuple #[i64 x.ts, i64 x.tg]) h) : T Tryz.prog 14 [ptr b] h K := by
  apply S14_T
  unfold S14
  refine attP_open hp fun opv nd v asv now ansv vok hs hp => ?_
  (repeat first|refine wx ?_|refine wy ?_|refine wz ?_|refine wv ?_|refine wh ?_)
  refine ldT hp vok rfl rfl ?_
  (repeat first|refine wx ?_|refine wy ?_|refine wz ?_|refine wv ?_|refine wh ?_)
  refine ldT hp vok rfl rfl ?_
  exact hK
theorem T_CloneAnswers {v : Value} {xs : List Answer} (hp : All (rowP 2 v (xs.map Answer.enc) :: R) h) (hb : xs.length ≤ 1000) (hK : ∀ v' h', All (rowP 2 v' (xs.map Answer.enc) :: rowP 2 v (xs.map Answer.enc) :: R) h' → K v' h') : T Tryz.prog 37 [v] h K := by
  apply S37_T
  unfold S37
  obtain ⟨sa, sc, junk, rfl, c2, c3, c4, c5⟩ := hp.row
  rcases c5 with ⟨rfl, e, rfl⟩ | ⟨b, T', rfl, e, hj⟩
  · have hx : xs = [] := by simpa using e
    subst hx
    (repeat first|refine wx ?_|refine wy ?_|refine wz ?_|refine wv ?_|refine wh ?_)
    exact hK _ _ (hp.emp_cons (rowP_nil 2 _))
  · (repeat first|refine wx ?_|refine wy ?_|refine wz ?_|refine wv ?_|refine wh ?_)
    refine bs0 (size := 2) hp [] rfl rfl (by simp) (fun c hc => by cases hc) fun nv h1 hp => ?_
    have hr := All.rows (hp.up 1)
    refine ap0 hp hr (Answer.all_good xs) (by decide) (by simp; omega) fun nv' h2 hp => ?_
    exact hK _ _ hp
theorem T_CloneOps {v : Value} {xs : List Op} (hp : All R h) (hr : ∀ h', All R h' → rowsAt h' 4 v (xs.map Op.enc)) (hb : xs.length ≤ 1000) (h0 : xs ≠ []) (hK : ∀ v' h', All (rowP 4 v' (xs.map Op.enc) :: R) h' → K v' h') : T Tryz.prog 28 [v] h K := by
  apply S28_T
  unfold S28
  have r := hr _ hp
  obtain ⟨a, n, cap, rfl, hl, _, _, hx⟩ := r
  have e : (xs.map Op.enc)[0]? = some (xs.head h0).enc := by cases xs with
    | nil => exact absurd rfl h0
    | cons y ys => rfl
  obtain ⟨bb, off, T, pre, sz, f, rfl, _⟩ := hx 0 _ e
  (repeat first|refine wx ?_|refine wy ?_|refine wz ?_|refine wv ?_|refine wh ?_)
  refine bs0 (size := 4) hp [] rfl rfl (by simp) (fun c hc => by cases hc) fun nv h1 hp => ?_
  have hr := hr _ hp.tail
  refine ap0 hp hr (Op.all_good xs) (by decide) (by simp; omega) fun nv' h2 hp => ?_
  exact hK _ _ hp
theorem T_rdCell {r : Rd} (hp : All (readP b r :: R) h) (hK : K (i64 r.cell) h) : T Tryz.prog 58 [ptr b] h K := by
  apply S58_T
  unfold S58
  refine readP_open hp fun hv hp => ?_
  (repeat first|refine wx ?_|refine wy ?_|refine wz ?_|refine wv ?_|refine wh ?_)
  exact hK
/-- the machine of what the body asks for -/
theorem T_atAsked {m : AskM} {opv asv now ansv : Value} (hp : All (pts b (atRow x opv (needN m.need) m.view asv now ansv) :: rowP 2 asv (m.ans.map Answer.enc) :: R) h) (o : x.ok) (vok : m.view.ok) (hn : ∀ c, m.need = some c → 0 ≤ c ∧ c < 16)
    (hK : ∀ nw h', (∀ c, m.need = some c → All (stP nw (.rd (.new x.t x.q c) m.view) :: pts b (atRow x opv (needN m.need) m.view asv now ansv) :: R) h') → (m.need = none → All (stP nw (.wr (newWr x.slot x.gen m.view.rows)) :: pts b (atRow x opv (-1) m.view asv now asv) :: rowP 2 asv (m.ans.map Answer.enc) :: R) h') → K nw h') : T Tryz.prog 29 [ptr b] h K := by
  apply S29_T
  unfold S29
  obtain ⟨mn, mv, ma⟩ := m
  simp only at vok hn hK hp
  have hs := rowP_one (hp.up 1)
  (repeat first|refine wx ?_|refine wy ?_|refine wz ?_|refine wv ?_|refine wh ?_)
  cases mn with
  | some c =>
    obtain ⟨c0, c1⟩ := hn c rfl
    refine ifV_p (show (0 : Int) ≤ needN (some c) from c0) ?_
    (repeat first|refine wx ?_|refine wy ?_|refine wz ?_|refine wv ?_|refine wh ?_)
    refine T_readNew hp (fun q => absurd ⟨⟨o.t0, o.t1⟩, ⟨o.q0, o.q1⟩, c0, c1⟩ q) fun q rb h1 hp => ?_
    (repeat first|refine wx ?_|refine wy ?_|refine wz ?_|refine wv ?_|refine wh ?_)
    refine hK _ _ (fun d e => ?_) fun e => by cases e
    cases e
    replace hp := hp.re 3 [0, 1]
    replace hp := Go.Proofs.YtlmafbdhhneokaaGreat.hn hp
    exact hp.head fun _ z => ⟨rb, rfl, z⟩
  | none =>
    refine ifV_n (show ¬ (0 : Int) ≤ needN none by decide) ?_
    refine bnd_of rfl (bnd_of rfl (bnd_of rfl ?_))
    refine ldT hp vok rfl rfl ?_
    (repeat first|refine wx ?_|refine wy ?_|refine wz ?_|refine wv ?_|refine wh ?_)
    refine stT hp (atRow x opv (-1) mv asv now asv) vok ⟨hs.2, hs.1⟩ rfl rfl rfl fun h1 hp => ?_
    (repeat first|refine wx ?_|refine wy ?_|refine wz ?_|refine wv ?_|refine wh ?_)
    have hl : (([i64 x.t, i64 x.q, i64 x.slot, i64 x.gen, opv, i64 (-1)] ++ (mv.cells ++ [asv, now, i64 x.ts, i64 x.tg, .bool x.won, .bool x.over, asv])).drop (0 + 5 + 1)).take 48 = mv.cells := view_take (p := [i64 x.t, i64 x.q, i64 x.slot, i64 x.gen, opv, i64 (-1)]) vok
    refine la0 hp (c := mv.cells) (by simp [Vw.len vok]) hl ?_
    refine T_pRows hp vok fun u h2 hp => ?_
    (repeat first|refine wx ?_|refine wy ?_|refine wz ?_|refine wv ?_|refine wh ?_)
    refine T_pNewWriter hp (fun h' hp => hp.rows) (fun q => absurd ⟨o.life, Vw.rows_may vok⟩ q) fun _ _ wb h3 hp => ?_
    (repeat first|refine wx ?_|refine wy ?_|refine wz ?_|refine wv ?_|refine wh ?_)
    refine hK _ _ (fun d e => by cases e) fun e => ?_
    replace hp := hp.re 4 [0, 2, 3]
    replace hp := Go.Proofs.YtlmafbdhhneokaaGreat.hn hp
    exact hp.head fun _ z => ⟨wb, rfl, z⟩
end
end Go.Proofs.YtlmafbdhhneokaaGreat
namespace Go.Proofs.YtlmafbdhhneokaaGreat
open Go GW Go.Proofs
attribute [local irreducible] bnd ldV stV ifV binV eqI
attribute [local irreducible] tiV
set_option linter.unusedVariables false
set_option linter.unusedSimpArgs false
set_option maxRecDepth 20000
theorem Vw.set_k {v : Vw} (o : v.ok) {i : Nat} (h : i < 16) (x : Bool) : v.cells.set i (.bool x) = Vw.cells { v with k := v.k.set i x } := by
  have := o.lk
  unfold Vw.cells
  rw [List.set_append_left _ _ (by simp; omega), List.map_set]
theorem Vw.set_w {v : Vw} (o : v.ok) {i : Nat} (h : i < 16) (x : Int) : v.cells.set (16 + i) (i64 x) = Vw.cells { v with w := v.w.set i x } := by
  have := o.lk; have := o.lw
  unfold Vw.cells
  rw [List.set_append_right _ _ (by simp; omega), List.set_append_left _ _ (by simp; omega), List.map_set]
  congr 2
  have e : 16 + i - (v.k.map Value.bool).length = i := by simp; omega
  rw [e]; rfl
theorem Vw.set_n0 {v : Vw} (o : v.ok) {i : Nat} (h : i < 16) (x : Int) : v.cells.set (32 + i) (i64 x) = Vw.cells { v with n := v.n.set i x } := by
  have := Vw.set_n (t := []) o h x
  simpa using this
section
variable {a b c rb : Nat} {A : Ar} {R : List Part} {h : GH} {K : Value → GH → Prop} {x : At} {r : Rd} {v : Vw}
theorem T_atKnown {opv asv now ansv : Value} {nd : Int} (hp : All (pts b (atRow x opv nd v asv now ansv) :: readP rb r :: rowP 4 opv (x.ops.map Op.enc) :: rowP 2 ansv (x.ans.map Answer.enc) :: R) h) (o : At.ok { x with st := .wr ⟨0, []⟩ }) (vok : v.ok) (hv : Vw.val r.value) (c0 : 0 ≤ r.cell) (c1 : r.cell < 16)
    (hK : ∀ h', All (attP b (x.known v r.cell r.value) :: R) h' → K (.tuple #[]) h') : T Tryz.prog 30 [ptr b, ptr rb] h K := by
  apply S30_T
  unfold S30
  refine bnd_of rfl (bnd_of rfl (bnd_of rfl ?_))
  refine la0 hp (c := v.cells) (by simp [Vw.len vok]) (view_take (p := [i64 x.t, i64 x.q, i64 x.slot, i64 x.gen, opv, i64 nd]) vok) ?_
  refine nwstView hp vok fun vb h1 hp => ?_
  (repeat first|refine wx ?_|refine wy ?_|refine wz ?_|refine wv ?_|refine wh ?_)
  replace hp := hp.up 2
  replace hp := hn hp
  refine T_rdCell hp ?_
  obtain ⟨i, hi⟩ := Int.eq_ofNat_of_zero_le c0
  have hi16 : i < 16 := by omega
  rw [hi]
  refine bnd_of (iaV_at hi16 .i64) ?_
  refine T_rdCell hp ?_
  rw [hi]
  refine T_rdCell hp ?_
  rw [hi]
  refine T_rdValue hp ?_
  refine T_rdValue hp ?_
  replace hp := hp.re 5 [1, 2, 3, 4]
  replace hp := hn hp
  have k1 : (Vw.ok { v with k := v.k.set i true }) := ⟨by simp [vok.lk], vok.lw, vok.ln, vok.rw, vok.rn⟩
  have k2 : (Vw.ok { v with k := v.k.set i true, w := v.w.set i r.value }) := ⟨by simp [vok.lk], by simp [vok.lw], vok.ln, fun y hy => by
    rcases List.mem_or_eq_of_mem_set hy with q | q
    · exact vok.rw y q
    · rw [q]; exact hv, vok.rn⟩
  have k3 : (v.know r.cell r.value).ok := Vw.know_ok vok hv
  have ek : v.know r.cell r.value = { v with k := v.k.set i true, w := v.w.set i r.value, n := v.n.set i r.value } := by unfold Vw.know; rw [hi]; rfl
  refine st0 hp (vwRow { v with k := v.k.set i true }) rfl (by simp [Vw.len vok]; omega) rfl ?_ fun h2 hp => ?_
  · show GObj.row _ (v.cells.set (0 + 0 + i * 1) (.bool true)) _ _ = _
    rw [show 0 + 0 + i * 1 = i by omega, Vw.set_k vok hi16]; rfl
  refine bnd_of (iaV_at hi16 .i64) ?_
  refine st0 hp (vwRow { v with k := v.k.set i true, w := v.w.set i r.value }) rfl (by simp [Vw.len k1]; omega) rfl ?_ fun h3 hp => ?_
  · show GObj.row _ ((Vw.cells { v with k := v.k.set i true }).set (0 + 16 + i * 1) (i64 r.value)) _ _ = _
    rw [Nat.mul_one, Nat.zero_add, Vw.set_w k1 hi16]; rfl
  refine bnd_of (iaV_at hi16 .i64) ?_
  refine st0 hp (vwRow (v.know r.cell r.value)) rfl (by simp [Vw.len k2]; omega) rfl ?_ fun h4 hp => ?_
  · show GObj.row _ ((Vw.cells { v with k := v.k.set i true, w := v.w.set i r.value }).set (0 + 32 + i * 1) (i64 r.value)) _ _ = _
    rw [Nat.mul_one, Nat.zero_add, Vw.set_n0 k2 hi16, ek]; rfl
  unfold At.known at hK
  clear ek
  generalize v.know r.cell r.value = u at hp hK k3
  refine la0 hp (c := u.cells) (by simp [Vw.len k3]) (Vw.agg_take k3) ?_
  (repeat first|refine wx ?_|refine wy ?_|refine wz ?_|refine wv ?_|refine wh ?_)
  replace hp := hp.re 4 [1, 2, 3]
  replace hp := hn hp
  refine T_bodyDo hp k3 (fun h' hp => All.rows (hp.up 1)) (fun q => absurd o.ops (by rw [show At.ops { x with st := .wr ⟨0, []⟩ } = x.ops from rfl, q]; decide)) fun _ uv h5 hp => ?_
  have d := Vw.do_ok k3 o.ops
  simp only at d
  generalize u.do_ x.ops = m at hp hK d
  refine askP_open hp fun s eu hp => ?_
  have hs := rowP_one hp
  rw [eu]
  (repeat first|refine wx ?_|refine wy ?_|refine wz ?_|refine wv ?_|refine wh ?_)
  replace hp := hp.up 1
  replace hp := hn hp
  have hl := askC_len (x := needN m.need) (s := s) d.1
  have hl0 := askC_len (x := nd) (s := asv) vok
  have erow : ∀ (nd : Int) (v : Vw) (asv : Value), ([i64 x.t, i64 x.q, i64 x.slot, i64 x.gen, opv, i64 nd] ++ (v.cells ++ [asv, now, i64 x.ts, i64 x.tg, .bool x.won, .bool x.over, ansv]) : List Value) = [i64 x.t, i64 x.q, i64 x.slot, i64 x.gen, opv] ++ (askC nd v asv ++ [now, i64 x.ts, i64 x.tg, .bool x.won, .bool x.over, ansv]) := fun nd v asv => by simp [askC]
  refine st0 hp (atRow x opv (needN m.need) m.view s now ansv) ?_ (by simp [Vw.len vok]) ?_ ?_ fun h6 hp => ?_
  · show (askC (needN m.need) m.view s).toArray.size = 50
    rw [List.size_toArray, hl]
  · show (askC (needN m.need) m.view s).toArray.toList.all oneCell = true
    simp only [askC, List.all_cons, List.all_append, List.all_nil, Bool.and_true, Vw.one_cells, hs.1]; rfl
  · show GObj.row _ (setCells ([i64 x.t, i64 x.q, i64 x.slot, i64 x.gen, opv, i64 nd] ++ (v.cells ++ [asv, now, i64 x.ts, i64 x.tg, .bool x.won, .bool x.over, ansv])) ([i64 x.t, i64 x.q, i64 x.slot, i64 x.gen, opv] : List Value).length (askC (needN m.need) m.view s).toArray.toList) _ _ = _
    rw [erow, List.toList_toArray, setCells_mid (by rw [hl, hl0]), ← erow]; rfl
  refine T_atAsked (x := { x with st := .wr ⟨0, []⟩ }) hp o d.1 (fun c e => (d.2 c e).1) fun nw h7 k1 k2 => ?_
  (repeat first|refine wx ?_|refine wy ?_|refine wz ?_|refine wv ?_|refine wh ?_)
  cases hm : m.need with
  | some c =>
    have hp := k1 c hm
    rw [hm] at hp
    obtain ⟨nb, rfl⟩ : ∃ nb, nw = .iface 88 (ptr nb) := All.case hp fun h1 p _ => by obtain ⟨nb, e, _⟩ := p; exact ⟨nb, e⟩
    replace hp := hp.up 1
    replace hp := hn hp
    refine stT hp (atRow x opv c m.view s (.iface 88 (ptr nb)) ansv) d.1 ⟨rfl, rfl⟩ rfl rfl rfl fun h8 hp => ?_
    replace hp := hp.re 4 [0, 2, 3, 1]
    replace hp := hn hp
    have hk : x.asked m = { x with st := .rd (.new x.t x.q c) m.view } := by unfold At.asked; rw [hm]
    rw [hk] at hK
    exact hK _ (attP_shut (x := { x with st := .rd (.new x.t x.q c) m.view }) (opv := opv) (nd := c) (v := m.view) (asv := s) (now := .iface 88 (ptr nb)) (ansv := ansv) d.1 rfl hp)
  | none =>
    have hp := k2 hm
    obtain ⟨nb, rfl⟩ : ∃ nb, nw = .iface 90 (ptr nb) := All.case hp fun h1 p _ => by obtain ⟨nb, e, _⟩ := p; exact ⟨nb, e⟩
    replace hp := hp.up 1
    replace hp := hn hp
    refine stT hp (atRow x opv (-1) m.view s (.iface 90 (ptr nb)) s) d.1 ⟨rfl, rfl⟩ rfl rfl rfl fun h8 hp => ?_
    replace hp := hp.re 5 [0, 3, 2, 1]
    replace hp := hn hp
    have hk : x.asked m = { x with st := .wr (newWr x.slot x.gen m.view.rows), ans := m.ans } := by unfold At.asked; rw [hm]
    rw [hk] at hK
    exact hK _ (attP_shut (x := { x with st := .wr (newWr x.slot x.gen m.view.rows), ans := m.ans }) (opv := opv) (nd := -1) (v := m.view) (asv := s) (now := .iface 90 (ptr nb)) (ansv := s) d.1 trivial hp)
end
end Go.Proofs.YtlmafbdhhneokaaGreat
namespace Go.Proofs.YtlmafbdhhneokaaGreat
open Go GW Go.Proofs
attribute [local irreducible] bnd ldV stV ifV binV eqI
attribute [local irreducible] tiV
set_option linter.unusedVariables false
set_option linter.unusedSimpArgs false
set_option maxRecDepth 20000
/-- a type that lacks a method -/
theorem missing_some {want : Array (String × TypeId)} {got : Array Method} (h : (want.toList.filter fun (name, sig) => !got.any fun m => m.name == name && m.sig == sig).isEmpty = false) : ∃ s, Instr.missingMethod want got = some s := by
  unfold Instr.missingMethod
  simp only
  generalize hl : (want.toList.filter fun (name, sig) => !got.any fun m => m.name == name && m.sig == sig) = l at h
  cases l with
  | nil => cases h
  | cons y ys =>
    have key : ∀ (u v : List String), u ++ v ≠ [] → ∃ s, (Instr.least v <|> Instr.least (u.map fun id => (id.splitOn ".").getLastD id)) = some s := by
      intro u v h
      cases v with
      | cons z zs => exact ⟨_, rfl⟩
      | nil => cases u with
        | nil => exact absurd rfl h
        | cons z zs => exact ⟨_, rfl⟩
    generalize hm : List.map (·.1) (y :: ys) = m
    have hne : m ≠ [] := by rw [← hm]; simp
    have hp := List.partition_eq_filter_filter (p := fun (x : String) => x.contains '.') (l := m)
    rw [hp]
    refine key _ _ fun e => ?_
    rw [List.append_eq_nil_iff, List.filter_eq_nil_iff, List.filter_eq_nil_iff] at e
    cases m with
    | nil => exact hne rfl
    | cons z zs =>
      have e1 := e.1 z (by simp)
      have e2 := e.2 z (by simp)
      simp only [Function.comp_apply, Bool.not_eq_true, Bool.not_eq_true', Bool.not_eq_false] at e1 e2
      rw [e1] at e2; cases e2
theorem ti_not {P : Program} {want : Array (String × TypeId)} {zero x : Value} {t : TypeId} (h : (match P.info? t with | some i => !(want.toList.filter fun (name, sig) => !i.methods.any fun m => m.name == name && m.sig == sig).isEmpty | none => false) = true) : tiV P want zero true (.iface t x) = some (.tuple #[zero, .bool false]) := by
  unfold tiV
  cases hi : P.info? t with
  | none => rw [hi] at h; cases h
  | some i =>
    simp only [hi] at h ⊢
    obtain ⟨s, hs⟩ := missing_some (want := want) (got := i.methods) (by simpa using h)
    simp only [hs]
section
variable {a b c rb : Nat} {A : Ar} {R : List Part} {h : GH} {K : Value → GH → Prop} {x : At} {r : Rd} {v : Vw}
theorem IV_rdStep {r : Rd} (k : T Tryz.prog 135 [ptr b, ptr a] h K) : ivV Tryz.prog (.iface 88 (ptr b)) "Step" [ptr a] h K :=
  ⟨_, _, fun w => (by kernel_rfl : (method (Tryz.prog.types.size + Made.depth) 88 (ptr b) "Step").run Tryz.prog w = .ok (135, ptr b) w), k⟩
theorem IV_wrStep (k : T Tryz.prog 143 [ptr b, ptr a] h K) : ivV Tryz.prog (.iface 90 (ptr b)) "Step" [ptr a] h K :=
  ⟨_, _, fun w => (by kernel_rfl : (method (Tryz.prog.types.size + Made.depth) 90 (ptr b) "Step").run Tryz.prog w = .ok (143, ptr b) w), k⟩
theorem IV_hpStep (k : T Tryz.prog 140 [ptr b, ptr a] h K) : ivV Tryz.prog (.iface 91 (ptr b)) "Step" [ptr a] h K :=
  ⟨_, _, fun w => (by kernel_rfl : (method (Tryz.prog.types.size + Made.depth) 91 (ptr b) "Step").run Tryz.prog w = .ok (140, ptr b) w), k⟩
theorem IV_rdThrough (k : T Tryz.prog 136 [ptr b] h K) : ivV Tryz.prog (.iface 88 (ptr b)) "Through" [] h K :=
  ⟨_, _, fun w => (by kernel_rfl : (method (Tryz.prog.types.size + Made.depth) 88 (ptr b) "Through").run Tryz.prog w = .ok (136, ptr b) w), k⟩
theorem IV_rdSeq (k : T Tryz.prog 134 [ptr b] h K) : ivV Tryz.prog (.iface 88 (ptr b)) "Seq" [] h K :=
  ⟨_, _, fun w => (by kernel_rfl : (method (Tryz.prog.types.size + Made.depth) 88 (ptr b) "Seq").run Tryz.prog w = .ok (134, ptr b) w), k⟩
theorem IV_hpThrough (k : T Tryz.prog 141 [ptr b] h K) : ivV Tryz.prog (.iface 91 (ptr b)) "Through" [] h K :=
  ⟨_, _, fun w => (by kernel_rfl : (method (Tryz.prog.types.size + Made.depth) 91 (ptr b) "Through").run Tryz.prog w = .ok (141, ptr b) w), k⟩
theorem IV_hpSeq (k : T Tryz.prog 142 [ptr b] h K) : ivV Tryz.prog (.iface 91 (ptr b)) "Seq" [] h K :=
  ⟨_, _, fun w => (by kernel_rfl : (method (Tryz.prog.types.size + Made.depth) 91 (ptr b) "Seq").run Tryz.prog w = .ok (142, ptr b) w), k⟩
theorem T_atStepNil (hK : K (.tuple #[.bool false, i64 1]) h) : T Tryz.prog 9 [ptr b, .pointer none] h K := by
  apply S9_T
  unfold S9
  (repeat first|refine wx ?_|refine wy ?_|refine wz ?_|refine wv ?_|refine wh ?_)
  unfold S9_j1
  (repeat first|refine wx ?_|refine wy ?_|refine wz ?_|refine wv ?_|refine wh ?_)
  exact hK
theorem T_atStep (hp : All (arP 98 a A :: attP b x :: R) h) (o : x.ok)
    (hK : ∀ h', All (arP 98 a (x.step A).2.2 :: attP b (x.step A).1 :: R) h' → K (.tuple #[.bool (x.step A).1.over, i64 (x.step A).2.1]) h') : T Tryz.prog 9 [ptr b, ptr a] h K := by
  apply S9_T
  unfold S9
  (repeat first|refine wx ?_|refine wy ?_|refine wz ?_|refine wv ?_|refine wh ?_)
  unfold S9_j1
  (repeat first|refine wx ?_|refine wy ?_|refine wz ?_|refine wv ?_|refine wh ?_)
  have hp0 := hp
  refine attP_open (hp.up 1) fun opv nd v asv now ansv vok hs hp => ?_
  replace hp := Go.Proofs.YtlmafbdhhneokaaGreat.hn hp
  refine ldT hp vok rfl rfl ?_
  unfold At.step at hK
  cases ho : x.over with
  | true =>
    rw [ho] at hK
    (repeat first|refine wx ?_|refine wy ?_|refine wz ?_|refine wv ?_|refine wh ?_)
    rw [if_pos rfl, ho] at hK
    exact hK _ hp0
  | false =>
    clear hp0
    rw [if_neg (by rw [ho]; decide)] at hK
    (repeat first|refine wx ?_|refine wy ?_|refine wz ?_|refine wv ?_|refine wh ?_)
    unfold S9_j2
    (repeat first|refine wx ?_|refine wy ?_|refine wz ?_|refine wv ?_|refine wh ?_)
    refine ldT hp vok rfl rfl ?_
    have hst := o.st
    have hA := (arP.at (hp.up 4)).2
    cases hst2 : x.st with
    | rd r u =>
      rw [hst2] at hK hst hs hp
      simp only at hK
      obtain rfl : u = v := hs
      obtain ⟨rok, _, rov⟩ := hst
      obtain ⟨rb, rfl⟩ : ∃ rb, now = .iface 88 (ptr rb) := All.case (hp.up 3) fun h1 p _ => by obtain ⟨nb, e, _⟩ := p; exact ⟨nb, e⟩
      replace hp : All (readP rb r :: arP 98 a A :: pts b (atRow x opv nd u asv (.iface 88 (ptr rb)) ansv) :: rowP 4 opv (x.ops.map Op.enc) :: rowP 2 ansv (x.ans.map Answer.enc) :: R) h := (hp.re 5 [3, 4, 0, 1, 2]).head fun _ ⟨nb, e, p⟩ => by cases e; exact p
      refine IV_rdStep (r := r) ?_
      replace hp := hp.up 1
      replace hp := Go.Proofs.YtlmafbdhhneokaaGreat.hn hp
      have so := Rd.step_ok rok hA
      have sv := Rd.step_val (r := r) (A := A) (rov ho)
      have sk := Rd.step_keep (r := r) (A := A)
      have se := Rd.step_err (r := r) (A := A)
      refine T_rdStep hp rok fun h1 hp => ?_
      generalize r.step A = s at hp hK so sv sk se ⊢
      obtain ⟨s1, e1, A1⟩ := s
      simp only at hp hK so sv sk se ⊢
      replace hp := hp.re 3 [2, 1, 0]
      replace hp := Go.Proofs.YtlmafbdhhneokaaGreat.hn hp
      (repeat first|refine wx ?_|refine wy ?_|refine wz ?_|refine wv ?_|refine wh ?_)
      refine stT hp (atRow { x with ts := x.slot } opv nd u asv (.iface 88 (ptr rb)) ansv) vok ⟨rfl, rfl⟩ rfl rfl rfl fun h2 hp => ?_
      (repeat first|refine wx ?_|refine wy ?_|refine wz ?_|refine wv ?_|refine wh ?_)
      refine stT hp (atRow { x with ts := x.slot, tg := x.gen } opv nd u asv (.iface 88 (ptr rb)) ansv) vok ⟨rfl, rfl⟩ rfl rfl rfl fun h3 hp => ?_
      (repeat first|refine wx ?_|refine wy ?_|refine wz ?_|refine wv ?_|refine wh ?_)
      refine ldT hp vok rfl rfl ?_
      refine wK (v := .tuple #[.iface 88 (ptr rb), .bool true]) (by kernel_rfl) ?_
      (repeat first|refine wx ?_|refine wy ?_|refine wz ?_|refine wv ?_|refine wh ?_)
      refine IV_rdThrough ?_
      refine T_rdThrough (hp.up 1) ?_
      (repeat first|refine wx ?_|refine wy ?_|refine wz ?_|refine wv ?_|refine wh ?_)
      refine stT hp (atRow { x with ts := s1.slot, tg := x.gen } opv nd u asv (.iface 88 (ptr rb)) ansv) vok ⟨rfl, rfl⟩ rfl rfl rfl fun h4 hp => ?_
      (repeat first|refine wx ?_|refine wy ?_|refine wz ?_|refine wv ?_|refine wh ?_)
      refine stT hp (atRow { x with ts := s1.slot, tg := s1.gen } opv nd u asv (.iface 88 (ptr rb)) ansv) vok ⟨rfl, rfl⟩ rfl rfl rfl fun h5 hp => ?_
      refine IV_rdSeq ?_
      refine T_rdSeq (hp.up 1) ?_
      (repeat first|refine wx ?_|refine wy ?_|refine wz ?_|refine wv ?_|refine wh ?_)
      refine st0 hp (atRow { x with q := s1.q, ts := s1.slot, tg := s1.gen } opv nd u asv (.iface 88 (ptr rb)) ansv) rfl (by simp [Vw.len vok]) rfl rfl fun h6 hp => ?_
      unfold S9_j3
      have hshut : ∀ {h'} {y : At} {R' : List Part}, y.st = .rd s1 u → All (pts b (atRow y opv nd u asv (.iface 88 (ptr rb)) ansv) :: readP rb s1 :: rowP 4 opv (y.ops.map Op.enc) :: rowP 2 ansv (y.ans.map Answer.enc) :: R') h' → All (attP b y :: R') h' := by
        intro h' y R' ey hp
        refine attP_shut (x := y) (opv := opv) (nd := nd) (v := u) (asv := asv) (now := .iface 88 (ptr rb)) (ansv := ansv) vok (by rw [ey]; rfl) ?_
        rw [ey]
        have := All.head (Q := stP (.iface 88 (ptr rb)) (.rd s1 u)) (hp.re 4 [1, 0, 2, 3]) fun _ z => ⟨rb, rfl, z⟩
        exact this.re 4 [1, 2, 3, 0]
      (repeat first|refine wx ?_|refine wy ?_|refine wz ?_|refine wv ?_|refine wh ?_)
      refine ifN_cases (fun q => ?_) fun q => ?_
      · rw [if_pos q] at hK
        (repeat first|refine wx ?_|refine wy ?_|refine wz ?_|refine wv ?_|refine wh ?_)
        refine stT hp (atRow { x with q := s1.q, ts := s1.slot, tg := s1.gen, over := true } opv nd u asv (.iface 88 (ptr rb)) ansv) vok ⟨rfl, rfl⟩ rfl rfl rfl fun h7 hp => ?_
        replace hp := hp.re 5 [2, 0, 1, 3, 4]
        replace hp := Go.Proofs.YtlmafbdhhneokaaGreat.hn hp
        refine hK _ ?_
        exact (hshut (y := { x with q := s1.q, ts := s1.slot, tg := s1.gen, st := .rd s1 u, over := true }) rfl (hp.re 5 [1, 2, 3, 4, 0])).up 1
      · rw [if_neg (by simpa using q)] at hK
        cases hov : s1.over with
        | false =>
          rw [hov, if_neg (by decide)] at hK
          (repeat first|refine wx ?_|refine wy ?_|refine wz ?_|refine wv ?_|refine wh ?_)
          replace hp := hp.re 5 [0, 1, 3, 4, 2]
          replace hp := Go.Proofs.YtlmafbdhhneokaaGreat.hn hp
          have := hK _ ((hshut (y := { x with q := s1.q, ts := s1.slot, tg := s1.gen, st := .rd s1 u }) rfl hp).up 1)
          simp only [ho] at this
          exact this
        | true =>
          rw [hov, if_pos rfl] at hK
          obtain ⟨hv, _⟩ := sv q hov
          (repeat first|refine wx ?_|refine wy ?_|refine wz ?_|refine wv ?_|refine wh ?_)
          refine ldT hp vok rfl rfl ?_
          (repeat first|refine wx ?_|refine wy ?_|refine wz ?_|refine wv ?_|refine wh ?_)
          replace hp := hp.re 5 [0, 1, 3, 4, 2]
          replace hp := Go.Proofs.YtlmafbdhhneokaaGreat.hn hp
          have o1 : At.ok { x with q := s1.q, ts := s1.slot, tg := s1.gen, st := .wr ⟨0, []⟩ } := ⟨o.t0, o.t1, so.1.q0, so.1.q1, o.life, o.ops, o.won, ⟨by simp, by simp, fun _ h => by cases h⟩⟩
          have ao := (At.asked_ok o1 ho (Vw.know_ok (c := s1.cell) vok hv)).2
          refine T_atKnown (x := { x with q := s1.q, ts := s1.slot, tg := s1.gen, st := .rd s1 u }) hp o1 vok hv so.1.c0 so.1.c1 fun h7 hp => ?_
          have ek : At.over (At.known { x with q := s1.q, ts := s1.slot, tg := s1.gen, st := .rd s1 u } u s1.cell s1.value) = false := by
            unfold At.known At.asked at ao ⊢
            simp only at ao ⊢
            cases hn : ((u.know s1.cell s1.value).do_ x.ops).need with
            | some c => rw [hn] at ao; exact ao
            | none => rw [hn] at ao; exact ao
          rw [ek] at hK
          generalize At.known { x with q := s1.q, ts := s1.slot, tg := s1.gen, st := .rd s1 u } u s1.cell s1.value = y at hp hK ek
          refine attP_open hp fun opv nd v asv now ansv vok hs hp => ?_
          (repeat first|refine wx ?_|refine wy ?_|refine wz ?_|refine wv ?_|refine wh ?_)
          refine ldT hp vok rfl rfl ?_
          (repeat first|refine wx ?_|refine wy ?_|refine wz ?_|refine wv ?_|refine wh ?_)
          rw [ek]
          exact hK _ ((attP_shut vok hs hp).up 1)
    | wr w =>
      rw [hst2] at hK hst hp
      simp only at hK
      obtain ⟨wb, rfl⟩ : ∃ rb, now = .iface 90 (ptr rb) := All.case (hp.up 3) fun h1 p _ => by obtain ⟨nb, e, _⟩ := p; exact ⟨nb, e⟩
      replace hp : All (pwP wb w :: arP 98 a A :: pts b (atRow x opv nd v asv (.iface 90 (ptr wb)) ansv) :: rowP 4 opv (x.ops.map Op.enc) :: rowP 2 ansv (x.ans.map Answer.enc) :: R) h := (hp.re 5 [3, 4, 0, 1, 2]).head fun _ ⟨nb, e, p⟩ => by cases e; exact p
      refine IV_wrStep ?_
      replace hp := hp.up 1
      replace hp := Go.Proofs.YtlmafbdhhneokaaGreat.hn hp
      refine T_pwStep hp hst fun h1 hp => ?_
      generalize w.step A = s at hp hK ⊢
      obtain ⟨w1, ov, A1⟩ := s
      simp only at hp hK ⊢
      replace hp := hp.re 3 [2, 1, 0]
      replace hp := Go.Proofs.YtlmafbdhhneokaaGreat.hn hp
      (repeat first|refine wx ?_|refine wy ?_|refine wz ?_|refine wv ?_|refine wh ?_)
      refine stT hp (atRow { x with ts := x.slot } opv nd v asv (.iface 90 (ptr wb)) ansv) vok ⟨rfl, rfl⟩ rfl rfl rfl fun h2 hp => ?_
      (repeat first|refine wx ?_|refine wy ?_|refine wz ?_|refine wv ?_|refine wh ?_)
      refine stT hp (atRow { x with ts := x.slot, tg := x.gen } opv nd v asv (.iface 90 (ptr wb)) ansv) vok ⟨rfl, rfl⟩ rfl rfl rfl fun h3 hp => ?_
      (repeat first|refine wx ?_|refine wy ?_|refine wz ?_|refine wv ?_|refine wh ?_)
      refine ldT hp vok rfl rfl ?_
      refine wK (v := .tuple #[.nilIface, .bool false]) (ti_not (by kernel_rfl)) ?_
      (repeat first|refine wx ?_|refine wy ?_|refine wz ?_|refine wv ?_|refine wh ?_)
      unfold S9_j3
      (repeat first|refine wx ?_|refine wy ?_|refine wz ?_|refine wv ?_|refine wh ?_)
      cases ov with
      | false =>
        (repeat first|refine wx ?_|refine wy ?_|refine wz ?_|refine wv ?_|refine wh ?_)
        replace hp := hp.re 5 [1, 0, 3, 4, 2]
        replace hp := Go.Proofs.YtlmafbdhhneokaaGreat.hn hp
        have hp2 := All.head (Q := stP (.iface 90 (ptr wb)) (.wr w1)) hp fun _ z => ⟨wb, rfl, z⟩
        have := hK _ ((attP_shut (x := { x with ts := x.slot, tg := x.gen, st := .wr w1 }) (opv := opv) (nd := nd) (v := v) (asv := asv) (now := .iface 90 (ptr wb)) (ansv := ansv) vok trivial (hp2.re 5 [1, 2, 3, 0, 4])).up 1)
        simp only [ho] at this
        exact this
      | true =>
        (repeat first|refine wx ?_|refine wy ?_|refine wz ?_|refine wv ?_|refine wh ?_)
        refine ldT hp vok rfl rfl ?_
        (repeat first|refine wx ?_|refine wy ?_|refine wz ?_|refine wv ?_|refine wh ?_)
        refine la0 hp (c := [i64 x.slot, i64 x.gen]) (by simp) rfl ?_
        have hl := o.life
        unfold lifeMay at hl
        simp only [decide_eq_true_eq] at hl
        have hmay : (Form.mcas x.slot x.gen).may = true := may_mcas.2 hl
        have hrd : read (Form.mcas x.slot x.gen).number = some (.mcas x.slot x.gen) := read_number hmay
        have hn : newHelp x.t x.q (Form.mcas x.slot x.gen).number = some (.new x.t x.q (.who (.new x.slot x.gen))) := by
          unfold newHelp
          rw [hrd]
          show (if 0 ≤ x.t ∧ x.t < 4 ∧ 0 ≤ x.q ∧ x.q < 1048576 then _ else _) = _
          rw [if_pos ⟨o.t0, o.t1, o.q0, o.q1⟩]
        refine T_Number_mcas hl ?_
        (repeat first|refine wx ?_|refine wy ?_|refine wz ?_|refine wv ?_|refine wh ?_)
        replace hp := hp.re 5 [0, 3, 4, 2]
        replace hp := Go.Proofs.YtlmafbdhhneokaaGreat.hn hp
        refine T_New hp (by simp only [Form.number]; constructor <;> omega) (fun e => by rw [hn] at e; cases e) fun H e hb h4 hp => ?_
        rw [hn] at e
        cases e
        replace hp := hp.up 1
        replace hp := Go.Proofs.YtlmafbdhhneokaaGreat.hn hp
        (repeat first|refine wx ?_|refine wy ?_|refine wz ?_|refine wv ?_|refine wh ?_)
        refine stT hp (atRow { x with ts := x.slot, tg := x.gen } opv nd v asv (.iface 91 (ptr hb)) ansv) vok ⟨rfl, rfl⟩ rfl rfl rfl fun h5 hp => ?_
        (repeat first|refine wx ?_|refine wy ?_|refine wz ?_|refine wv ?_|refine wh ?_)
        refine ldT hp vok rfl rfl ?_
        (repeat first|refine wx ?_|refine wy ?_|refine wz ?_|refine wv ?_|refine wh ?_)
        replace hp := hp.re 5 [1, 0, 2, 3, 4]
        replace hp := Go.Proofs.YtlmafbdhhneokaaGreat.hn hp
        have hp2 := All.head (Q := stP (.iface 91 (ptr hb)) (.hp (.new x.t x.q (.who (.new x.slot x.gen))))) hp fun _ z => ⟨hb, rfl, z⟩
        exact hK _ ((attP_shut (x := { x with ts := x.slot, tg := x.gen, st := .hp (.new x.t x.q (.who (.new x.slot x.gen))) }) (opv := opv) (nd := nd) (v := v) (asv := asv) (now := .iface 91 (ptr hb)) (ansv := ansv) vok trivial (hp2.re 5 [1, 2, 3, 0, 4])).up 1)
    | hp H =>
      rw [hst2] at hK hst hp
      simp only at hK
      obtain ⟨hok, _⟩ := hst
      obtain ⟨hb, rfl⟩ : ∃ rb, now = .iface 91 (ptr rb) := All.case (hp.up 3) fun h1 p _ => by obtain ⟨nb, e, _⟩ := p; exact ⟨nb, e⟩
      replace hp : All (helpP hb H :: arP 98 a A :: pts b (atRow x opv nd v asv (.iface 91 (ptr hb)) ansv) :: rowP 4 opv (x.ops.map Op.enc) :: rowP 2 ansv (x.ans.map Answer.enc) :: R) h := (hp.re 5 [3, 4, 0, 1, 2]).head fun _ ⟨nb, e, p⟩ => by cases e; exact p
      refine IV_hpStep ?_
      replace hp := hp.up 1
      replace hp := Go.Proofs.YtlmafbdhhneokaaGreat.hn hp
      refine T_Step hp hok fun h1 hp => ?_
      have se := Help.step_err (H := H) (A := A)
      generalize H.step A = s at hp hK se ⊢
      obtain ⟨s1, e1, A1⟩ := s
      simp only at hp hK se ⊢
      replace hp := hp.re 3 [2, 1, 0]
      replace hp := Go.Proofs.YtlmafbdhhneokaaGreat.hn hp
      (repeat first|refine wx ?_|refine wy ?_|refine wz ?_|refine wv ?_|refine wh ?_)
      refine stT hp (atRow { x with ts := x.slot } opv nd v asv (.iface 91 (ptr hb)) ansv) vok ⟨rfl, rfl⟩ rfl rfl rfl fun h2 hp => ?_
      (repeat first|refine wx ?_|refine wy ?_|refine wz ?_|refine wv ?_|refine wh ?_)
      refine stT hp (atRow { x with ts := x.slot, tg := x.gen } opv nd v asv (.iface 91 (ptr hb)) ansv) vok ⟨rfl, rfl⟩ rfl rfl rfl fun h3 hp => ?_
      (repeat first|refine wx ?_|refine wy ?_|refine wz ?_|refine wv ?_|refine wh ?_)
      refine ldT hp vok rfl rfl ?_
      refine wK (v := .tuple #[.iface 91 (ptr hb), .bool true]) (by kernel_rfl) ?_
      (repeat first|refine wx ?_|refine wy ?_|refine wz ?_|refine wv ?_|refine wh ?_)
      refine IV_hpThrough ?_
      refine T_Through (hp.up 1) ?_
      (repeat first|refine wx ?_|refine wy ?_|refine wz ?_|refine wv ?_|refine wh ?_)
      refine stT hp (atRow { x with ts := s1.slot, tg := x.gen } opv nd v asv (.iface 91 (ptr hb)) ansv) vok ⟨rfl, rfl⟩ rfl rfl rfl fun h4 hp => ?_
      (repeat first|refine wx ?_|refine wy ?_|refine wz ?_|refine wv ?_|refine wh ?_)
      refine stT hp (atRow { x with ts := s1.slot, tg := s1.gen } opv nd v asv (.iface 91 (ptr hb)) ansv) vok ⟨rfl, rfl⟩ rfl rfl rfl fun h5 hp => ?_
      refine IV_hpSeq ?_
      refine T_Seq (hp.up 1) ?_
      (repeat first|refine wx ?_|refine wy ?_|refine wz ?_|refine wv ?_|refine wh ?_)
      refine st0 hp (atRow { x with q := s1.q, ts := s1.slot, tg := s1.gen } opv nd v asv (.iface 91 (ptr hb)) ansv) rfl (by simp [Vw.len vok]) rfl rfl fun h6 hp => ?_
      unfold S9_j3
      have hshut : ∀ {h'} {y : At} {R' : List Part}, y.st = .hp s1 → All (pts b (atRow y opv nd v asv (.iface 91 (ptr hb)) ansv) :: helpP hb s1 :: rowP 4 opv (y.ops.map Op.enc) :: rowP 2 ansv (y.ans.map Answer.enc) :: R') h' → All (attP b y :: R') h' := by
        intro h' y R' ey hp
        refine attP_shut (x := y) (opv := opv) (nd := nd) (v := v) (asv := asv) (now := .iface 91 (ptr hb)) (ansv := ansv) vok (by rw [ey]; trivial) ?_
        rw [ey]
        have := All.head (Q := stP (.iface 91 (ptr hb)) (.hp s1)) (hp.re 4 [1, 0, 2, 3]) fun _ z => ⟨hb, rfl, z⟩
        exact this.re 4 [1, 2, 3, 0]
      (repeat first|refine wx ?_|refine wy ?_|refine wz ?_|refine wv ?_|refine wh ?_)
      refine ifN_cases (fun q => ?_) fun q => ?_
      · rw [if_pos q] at hK
        (repeat first|refine wx ?_|refine wy ?_|refine wz ?_|refine wv ?_|refine wh ?_)
        refine stT hp (atRow { x with q := s1.q, ts := s1.slot, tg := s1.gen, over := true } opv nd v asv (.iface 91 (ptr hb)) ansv) vok ⟨rfl, rfl⟩ rfl rfl rfl fun h7 hp => ?_
        replace hp := hp.re 5 [0, 1, 3, 4, 2]
        replace hp := Go.Proofs.YtlmafbdhhneokaaGreat.hn hp
        refine hK _ ?_
        exact (hshut (y := { x with q := s1.q, ts := s1.slot, tg := s1.gen, st := .hp s1, over := true }) rfl hp).up 1
      · rw [if_neg (by simpa using q)] at hK
        cases hov : s1.over with
        | false =>
          rw [hov] at hK
          (repeat first|refine wx ?_|refine wy ?_|refine wz ?_|refine wv ?_|refine wh ?_)
          replace hp := hp.re 5 [0, 1, 3, 4, 2]
          replace hp := Go.Proofs.YtlmafbdhhneokaaGreat.hn hp
          have hw := o.won ho
          have er : atRow { x with q := s1.q, ts := s1.slot, tg := s1.gen } opv nd v asv (.iface 91 (ptr hb)) ansv = atRow { x with q := s1.q, ts := s1.slot, tg := s1.gen, over := false, won := false } opv nd v asv (.iface 91 (ptr hb)) ansv := by
            unfold atRow; simp only [ho, hw]
          rw [er] at hp
          exact hK _ ((hshut (y := { x with q := s1.q, ts := s1.slot, tg := s1.gen, st := .hp s1, over := false, won := false && s1.won }) rfl hp).up 1)
        | true =>
          rw [hov] at hK
          (repeat first|refine wx ?_|refine wy ?_|refine wz ?_|refine wv ?_|refine wh ?_)
          refine ldT hp vok rfl rfl ?_
          (repeat first|refine wx ?_|refine wy ?_|refine wz ?_|refine wv ?_|refine wh ?_)
          refine T_Won (hp.up 1) ?_
          (repeat first|refine wx ?_|refine wy ?_|refine wz ?_|refine wv ?_|refine wh ?_)
          refine stT hp (atRow { x with q := s1.q, ts := s1.slot, tg := s1.gen, won := s1.won } opv nd v asv (.iface 91 (ptr hb)) ansv) vok ⟨rfl, rfl⟩ rfl rfl rfl fun h7 hp => ?_
          (repeat first|refine wx ?_|refine wy ?_|refine wz ?_|refine wv ?_|refine wh ?_)
          refine stT hp (atRow { x with q := s1.q, ts := s1.slot, tg := s1.gen, won := s1.won, over := true } opv nd v asv (.iface 91 (ptr hb)) ansv) vok ⟨rfl, rfl⟩ rfl rfl rfl fun h8 hp => ?_
          (repeat first|refine wx ?_|refine wy ?_|refine wz ?_|refine wv ?_|refine wh ?_)
          refine ldT hp vok rfl rfl ?_
          (repeat first|refine wx ?_|refine wy ?_|refine wz ?_|refine wv ?_|refine wh ?_)
          replace hp := hp.re 5 [0, 1, 3, 4, 2]
          replace hp := Go.Proofs.YtlmafbdhhneokaaGreat.hn hp
          exact hK _ ((hshut (y := { x with q := s1.q, ts := s1.slot, tg := s1.gen, st := .hp s1, over := true, won := true && s1.won }) rfl hp).up 1)
end
end Go.Proofs.YtlmafbdhhneokaaGreat
namespace Go.Proofs.YtlmafbdhhneokaaGreat
open Go GW Go.Proofs
attribute [local irreducible] bnd ldV stV ifV binV eqI
attribute [local irreducible] tiV
set_option linter.unusedVariables false
set_option linter.unusedSimpArgs false
set_option maxRecDepth 20000
section
variable {a b c rb : Nat} {A : Ar} {R : List Part} {h : GH} {K : Value → GH → Prop} {x : At}
theorem T_atAnswers (hp : All (attP b x :: R) h) (hb : x.ans.length ≤ 1000) (hK : ∀ v' h', All (rowP 2 v' (x.ans.map Answer.enc) :: attP b x :: R) h' → K v' h') : T Tryz.prog 13 [ptr b] h K := by
  apply S13_T
  unfold S13
  refine attP_open hp fun opv nd v asv now ansv vok hs hp => ?_
  (repeat first|refine wx ?_|refine wy ?_|refine wz ?_|refine wv ?_|refine wh ?_)
  refine ldT hp vok rfl rfl ?_
  replace hp := hp.up 2
  replace hp := hn hp
  refine T_CloneAnswers hp hb fun v' h1 hp => ?_
  replace hp := hp.re 5 [2, 3, 1, 4, 0]
  replace hp := hn hp
  exact hK _ _ ((attP_shut vok hs hp).up 1)
theorem T_atNew {t q slot gen : Int} {sv : Value} {ops : List Op} (hp : All R h) (hs : ∀ h', All R h' → rowsAt h' 4 sv (ops.map Op.enc)) (kn : ¬ At.may t q slot gen ops → ∀ h', All R h' → K (.tuple #[.pointer none, i64 1700]) h')
    (ky : At.may t q slot gen ops → ∀ b h', All (attP b (.new t q slot gen ops) :: R) h' → K (.tuple #[ptr b, i64 0]) h') : T Tryz.prog 7 [i64 t, i64 q, i64 slot, i64 gen, sv] h K := by
  apply S7_T
  unfold S7
  have ez : (.agg (List.replicate 16 (Value.bool false) ++ List.replicate 32 (Value.int .i64 0)).toArray : Value) = vwV vwZ := rfl
  refine wK (v := List.replicate 16 (Value.bool false) ++ List.replicate 32 (Value.int .i64 0)) rfl ?_
  rw [ez]
  have look : ∀ (ev : Int) (ab : Nat) (h1 : GH) (P : List Part), (∀ h', All (P ++ R) h' → All R h') → All (P ++ R) h1 → (ev = 0 ↔ Txn.may ops = true) → (At.may t q slot gen ops → ev = 0 → ∀ h1, All (P ++ R) h1 → S7_j1 (i64 t) (i64 q) (i64 slot) (i64 gen) sv (ptr ab) h1 K) →
      T Tryz.prog 25 [i64 t] h1 fun v9 h10 => bnd (unV .not v9) fun v11 => ifV v11 (K (.tuple #[.pointer none, .int .i64 1700]) h10) (T Tryz.prog 26 [i64 q, .int .i64 1048576] h10 fun v12 h13 => bnd (unV .not v12) fun v14 => ifV v14 (K (.tuple #[.pointer none, .int .i64 1700]) h13) (T Tryz.prog 27 [i64 slot, i64 gen] h13 fun v15 h16 => bnd (unV .not v15) fun v17 => ifV v17 (K (.tuple #[.pointer none, .int .i64 1700]) h16) (bnd (eqI (i64 ev) (.int .i64 0)) fun b18 => ifV (.bool (!b18)) (K (.tuple #[.pointer none, .int .i64 1700]) h16) (S7_j1 (i64 t) (i64 q) (i64 slot) (i64 gen) sv (ptr ab) h16 K)))) := by
    intro ev ab h1 P hP hp he go
    refine T_ThreadMay ?_
    (repeat first|refine wx ?_|refine wy ?_|refine wz ?_|refine wv ?_|refine wh ?_)
    refine ifN_cases (fun c => ?_) fun c => ?_
    · exact kn (fun m => c m.1) _ (hP _ hp)
    refine T_Below ?_
    (repeat first|refine wx ?_|refine wy ?_|refine wz ?_|refine wv ?_|refine wh ?_)
    refine ifN_cases (fun c2 => ?_) fun c2 => ?_
    · exact kn (fun m => c2 m.2.1) _ (hP _ hp)
    refine T_pLifeMay ?_
    (repeat first|refine wx ?_|refine wy ?_|refine wz ?_|refine wv ?_|refine wh ?_)
    refine ifV_bool (fun c3 => ?_) fun c3 => ?_
    · exact kn (fun m => by rw [m.2.2.1] at c3; cases c3) _ (hP _ hp)
    (repeat first|refine wx ?_|refine wy ?_|refine wz ?_|refine wv ?_|refine wh ?_)
    refine ifN_cases (fun c4 => ?_) fun c4 => ?_
    · exact kn (fun m => c4 (he.2 m.2.2.2)) _ (hP _ hp)
    exact go ⟨c, c2, by simpa using c3, he.1 c4⟩ c4 _ hp
  refine T_bodyDo hp vwZ_ok hs (fun hm h1 hp => ?_) fun hm u h1 hp => ?_
  · (repeat first|refine wx ?_|refine wy ?_|refine wz ?_|refine wv ?_|refine wh ?_)
    refine nwstAsk hp vwZ_ok rfl fun kb h2 hp => ?_
    exact look 700 kb h2 [pts kb (.row 71 (askC 0 vwZ (.slice none 0 0)) 50 true)] (fun h' hp => hp.tail) hp ⟨fun e => by omega, fun e => by rw [hm] at e; cases e⟩ fun _ e => by omega
  · obtain ⟨c, c0, c1, em⟩ := vwZ_do hm
    rw [em] at hp
    refine askP_open hp fun s eu hp => ?_
    have hs1 := rowP_one hp
    rw [eu]
    (repeat first|refine wx ?_|refine wy ?_|refine wz ?_|refine wv ?_|refine wh ?_)
    refine nwstAsk hp vwZ_ok hs1.1 fun kb h2 hp => ?_
    refine look 0 kb h2 [pts kb (.row 71 (askC (needN (some c)) vwZ s) 50 true), rowP 2 s []] (fun h' hp => hp.tail.tail) hp ⟨fun _ => hm, fun _ => rfl⟩ fun m _ h3 hp => ?_
    unfold S7_j1
    (repeat first|refine wx ?_|refine wy ?_|refine wz ?_|refine wv ?_|refine wh ?_)
    refine la0 hp (c := askC c vwZ s) (by rw [askC_len vwZ_ok]; decide) (askC_take vwZ_ok) ?_
    have hne : ops ≠ [] := fun e => by rw [e] at hm; cases hm
    have hl2 : ops.length ≤ 2 := by
      unfold Txn.may at hm
      simp only [Bool.and_eq_true, decide_eq_true_eq] at hm
      omega
    refine T_CloneOps hp (fun h' hp => hs _ hp.tail.tail) (by omega) hne fun opv h4 hp => ?_
    refine hla1 hp (by rw [askC_len vwZ_ok]; decide) (askC_take vwZ_ok) ?_
    obtain ⟨oa, oc, _, rfl, _⟩ := hp.row
    obtain ⟨sa, sc, _, rfl, _⟩ := (hp.up 2).row
    refine wK (v := [i64 t, i64 q, i64 slot, i64 gen, .slice oa (ops.map Op.enc).length oc, i64 c] ++ (vwZ.cells ++ [.slice sa ([] : List Answer).length sc, .nilIface, i64 (-1), i64 0, .bool false, .bool false, .slice none 0 0])) (by kernel_rfl) ?_
    let y : At := ⟨t, q, slot, gen, ops, .wr ⟨0, []⟩, -1, 0, false, false, []⟩
    refine nw hp (atRow y (.slice oa (ops.map Op.enc).length oc) c vwZ (.slice sa ([] : List Answer).length sc) .nilIface (.slice none 0 0)) rfl fun b h5 hp => ?_
    replace hp := hp.re 4 [0, 3, 1]
    replace hp := hn hp
    have yo : y.ok := ⟨m.1.1, m.1.2, m.2.1.1, m.2.1.2, m.2.2.1, m.2.2.2, fun _ => rfl, ⟨by simp, by simp, fun _ h => by cases h⟩⟩
    refine T_atAsked (x := y) (m := ⟨some c, vwZ, []⟩) hp yo vwZ_ok (fun d e => by cases e; exact ⟨c0, c1⟩) fun nw h6 k1 _ => ?_
    have hp := k1 c rfl
    obtain ⟨nb, rfl⟩ : ∃ nb, nw = .iface 88 (ptr nb) := All.case hp fun h1 p _ => by obtain ⟨nb, e, _⟩ := p; exact ⟨nb, e⟩
    (repeat first|refine wx ?_|refine wy ?_|refine wz ?_|refine wv ?_|refine wh ?_)
    replace hp := hp.up 1
    replace hp := hn hp
    refine stT hp (atRow y (.slice oa (ops.map Op.enc).length oc) c vwZ (.slice sa ([] : List Answer).length sc) (.iface 88 (ptr nb)) (.slice none 0 0)) vwZ_ok ⟨rfl, rfl⟩ rfl rfl rfl fun h7 hp => ?_
    refine ky m b _ ?_
    replace hp := All.emp_cons hp (rowP_nil 2 (fun _ => none))
    replace hp := hp.re 4 [1, 3, 0, 2]
    replace hp := hn hp
    have e : At.new t q slot gen ops = ⟨t, q, slot, gen, ops, .rd (.new t q c) vwZ, -1, 0, false, false, []⟩ := by unfold At.new; rw [em]; rfl
    rw [e]
    exact attP_shut (x := ⟨t, q, slot, gen, ops, .rd (.new t q c) vwZ, -1, 0, false, false, []⟩) (opv := .slice oa (ops.map Op.enc).length oc) (nd := c) (v := vwZ) (asv := .slice sa ([] : List Answer).length sc) (now := .iface 88 (ptr nb)) (ansv := .slice none 0 0) vwZ_ok rfl hp
end
end Go.Proofs.YtlmafbdhhneokaaGreat
namespace Go.Proofs.YtlmafbdhhneokaaGreat
open Go GW Go.Proofs
set_option linter.unusedVariables false
set_option linter.unusedSimpArgs false
set_option maxRecDepth 20000
section
variable {a b c : Nat} {A : Ar} {R : List Part} {h : GH} {K : Value → GH → Prop} {x : At} {r : Rd} {v : Vw}
end
end Go.Proofs.YtlmafbdhhneokaaGreat
namespace Go.Proofs.YtlmafbdhhneokaaGreat
open Go GW Go.Proofs
set_option linter.unusedVariables false
set_option linter.unusedSimpArgs false
set_option maxRecDepth 20000
section
variable {a b c : Nat} {A : Ar} {R : List Part} {h : GH} {K : Value → GH → Prop} {x : At} {r : Rd} {v : Vw}
end
end Go.Proofs.YtlmafbdhhneokaaGreat
