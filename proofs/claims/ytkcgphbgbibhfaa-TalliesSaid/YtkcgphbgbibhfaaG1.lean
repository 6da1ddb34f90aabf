/- The ground of all proofs over this seat: ghost heaps (which cells of which blocks are known), what each operation of the loaded code does to them, and the triple 'T'. Nothing here is a statement on the program. -/
import Derived.WalkKit
import Derived.Orders
namespace Go.Proofs.Ytkcgphbgbibhfaa.GW
open Go
set_option linter.unusedVariables false
set_option linter.unusedSimpArgs false

/-- What is known of a block: a row of cells whose first ones are 'pre' ('free': it may be written), or an object that is no row. -/
inductive GObj where
  | row (elem : TypeId) (pre : List Value) (size : Nat) (free : Bool)
  | obj (o : Obj)

def GObj.free : GObj → Bool
  | .row _ _ _ f => f
  | .obj _ => true

abbrev GH := Nat → Option GObj

def GObj.real : GObj → Obj → Prop
  | .row T pre n f, .cells c T' fr => T' = T ∧ c.size = n ∧ pre <+: c.toList ∧ (f = true → fr = (0, 0))
  | .row _ _ _ _, _ => False
  | .obj o, o' => o = o' ∧ ∀ c T f, o ≠ .cells c T f

def Sub (h : GH) (w : World) : Prop := ∀ b g, h b = some g → ∃ o, w.heap[b]? = some o ∧ g.real o

theorem Sub.lt {h : GH} {w : World} (s : Sub h w) {b : Nat} {g : GObj} (e : h b = some g) : b < w.heap.size := by
  obtain ⟨o, ho, _⟩ := s b g e
  rcases Nat.lt_or_ge b w.heap.size with hl | hl
  · exact hl
  · simp [Array.getElem?_eq_none hl] at ho

theorem Sub.fresh {h : GH} {w : World} (s : Sub h w) {b : Nat} (hb : w.heap.size ≤ b) : h b = none := by
  cases e : h b with
  | none => rfl
  | some g => have := s.lt e; omega

structure Step (h : GH) (w : World) (h' : GH) (w' : World) : Prop where
  os : w'.os = w.os
  tape : w'.tape = w.tape
  output : w'.output = w.output
  size : w.heap.size ≤ w'.heap.size
  old : ∀ b, b < w.heap.size → (∀ g, h b = some g → g.free = false) → w'.heap[b]? = w.heap[b]?
  dom : ∀ b g', h' b = some g' → b < w.heap.size → ∃ g, h b = some g ∧ (g.free = false → g'.free = false)

theorem Step.refl (h : GH) (w : World) : Step h w h w := ⟨rfl, rfl, rfl, Nat.le_refl _, fun _ _ _ => rfl, fun _ g e _ => ⟨g, e, id⟩⟩

theorem Step.trans {h h1 h2 : GH} {w w1 w2 : World} (a : Step h w h1 w1) (b : Step h1 w1 h2 w2) : Step h w h2 w2 := by
  refine ⟨b.os.trans a.os, b.tape.trans a.tape, b.output.trans a.output, Nat.le_trans a.size b.size, fun k hk hf => ?_, fun k g' e hk => ?_⟩
  · rw [b.old k (Nat.lt_of_lt_of_le hk a.size), a.old k hk hf]
    intro g1 e1
    obtain ⟨g, e, hfr⟩ := a.dom k g1 e1 hk
    exact hfr (hf g e)
  · obtain ⟨g1, e1, f1⟩ := b.dom k g' e (Nat.lt_of_lt_of_le hk a.size)
    obtain ⟨g, e0, f0⟩ := a.dom k g1 e1 hk
    exact ⟨g, e0, fun hg => f1 (f0 hg)⟩

/-- The program has such a function, with a body. -/
def Has (P : Program) (f : FuncId) : Prop := ∃ fn, P.funcs[f]? = some fn ∧ (fn.name == "runtime.NumGoroutine") = false ∧ fn.body.isNone = false

/-- THE TRIPLE: called so over any memory of which h is known, the function returns a value and leaves a memory of which some h' is known; K says which. -/
structure T (P : Program) (f : FuncId) (args : List Value) (h : GH) (K : Value → GH → Prop) : Prop where
  has : Has P f
  calls : ∀ w, Sub h w → Calls P f args.toArray w fun e w' => ∃ v h', e = .returned v ∧ Sub h' w' ∧ Step h w h' w' ∧ K v h'

theorem T.mono {P : Program} {f : FuncId} {args : List Value} {h : GH} {K K' : Value → GH → Prop} (t : T P f args h K) (k : ∀ v h', K v h' → K' v h') : T P f args h K' :=
  ⟨t.has, fun w s => (t.calls w s).mono fun e w' ⟨v, h', he, hs, hst, hk⟩ => ⟨v, h', he, hs, hst, k v h' hk⟩⟩

/-! ### heaps that are turned -/
def upd (h : GH) (b : Nat) (g : GObj) : GH := fun k => if k = b then some g else h k
@[simp] theorem upd_same (h : GH) (b : Nat) (g : GObj) : upd h b g b = some g := by simp [upd]
theorem upd_ne {h : GH} {b k : Nat} {g : GObj} (hk : k ≠ b) : upd h b g k = h k := by simp [upd, hk]
theorem upd_upd (h : GH) (b : Nat) (g g' : GObj) : upd (upd h b g) b g' = upd h b g' := by
  funext k; simp only [upd]; split <;> rfl
theorem upd_comm (h : GH) {b c : Nat} (g g' : GObj) (n : b ≠ c) : upd (upd h b g) c g' = upd (upd h c g') b g := by
  funext k; simp only [upd]; split <;> split <;> simp_all

theorem ne_of_fresh {h : GH} {b k : Nat} {g : GObj} (hb : h b = none) (hk : h k = some g) : k ≠ b := by
  rintro rfl; simp [hb] at hk

/-! ### memory: loads, stores, new blocks -/
def oneCell (v : Value) : Bool := v.oneCell'

theorem real_upd_self {g : GObj} {o : Obj} (h : g.real o) : g.real o := h

theorem heap_setCell (w : World) (a : Addr) (v : Value) (k : Nat) (h : k ≠ a.block) : (w.setCell a v).heap[k]? = w.heap[k]? := by
  simp only [World.setCell, Array.getElem?_modify]
  rw [if_neg (by omega)]

/-- the cells of a row from a place on are others -/
def setCells (pre : List Value) (off : Nat) : List Value → List Value
  | [] => pre
  | v :: vs => setCells (pre.set off v) (off + 1) vs

@[simp] theorem setCells_nil (pre : List Value) (off : Nat) : setCells pre off [] = pre := rfl
@[simp] theorem setCells_cons (pre : List Value) (off : Nat) (v : Value) (vs : List Value) : setCells pre off (v :: vs) = setCells (pre.set off v) (off + 1) vs := rfl
@[simp] theorem length_setCells (vs : List Value) : ∀ (pre : List Value) (off : Nat), (setCells pre off vs).length = pre.length := by
  induction vs with
  | nil => intros; rfl
  | cons v vs ih => intro pre off; simp [ih]

/-- a load of n cells ('agg': of a struct or an array) -/
def ldV (n : Nat) (agg : Bool) (p : Value) (h : GH) : Option Value :=
  match p with
  | .pointer (some ⟨b, off, none⟩) =>
    match h b with
    | some (.row _ pre _ _) =>
      match agg with
      | false => pre[off]?
      | true => match Nat.ble (off + n) pre.length with
        | true => some (.agg ((pre.drop off).take n).toArray)
        | false => none
    | _ => none
  | _ => none

/-- a store of a value of n cells -/
def stV (n : Nat) (p v : Value) (h : GH) : Option GH :=
  match p with
  | .pointer (some ⟨b, off, none⟩) =>
    match h b with
    | some (.row T pre sz true) =>
      match Nat.beq v.cells.size n && (Nat.ble (off + n) pre.length && v.cells.toList.all oneCell) with
      | true => some (upd h b (.row T (setCells pre off v.cells.toList) sz true))
      | false => none
    | _ => none
  | _ => none

/-- a new block -/
def newV (T : TypeId) (cells : List Value) (h : GH) (K : Value → GH → Prop) : Prop :=
  ∀ b, h b = none → K (.pointer (some ⟨b, 0, none⟩)) (upd h b (.row T cells cells.length true))

def bnd {α : Type} (o : Option α) (K : α → Prop) : Prop := match o with | some v => K v | none => False
@[simp] theorem bnd_some {α : Type} (v : α) (K : α → Prop) : bnd (some v) K = K v := rfl
@[simp] theorem bnd_none {α : Type} (K : α → Prop) : bnd none K = False := rfl
theorem bnd_iff {α : Type} {o : Option α} {K : α → Prop} : bnd o K ↔ ∃ v, o = some v ∧ K v := by cases o <;> simp [bnd]

theorem cell?_of_row {h : GH} {w : World} (s : Sub h w) {b : Nat} {T : TypeId} {pre : List Value} {sz : Nat} {f : Bool} (e : h b = some (.row T pre sz f)) {off : Nat} {v : Value} (hv : pre[off]? = some v) :
    w.cell? ⟨b, off, none⟩ = some v := by
  obtain ⟨o, ho, hr⟩ := s b _ e
  cases o with
  | cells c T' fr =>
    obtain ⟨_, _, hp, _⟩ := hr
    have : c.toList[off]? = some v := by
      obtain ⟨t, ht⟩ := hp
      rw [← ht, List.getElem?_append_left]
      · exact hv
      · rcases Nat.lt_or_ge off pre.length with hl | hl
        · exact hl
        · simp [List.getElem?_eq_none hl] at hv
    simp only [World.cell?, ho]
    simpa using this
  | _ => exact hr.elim

theorem free_of_row {h : GH} {w : World} (s : Sub h w) {b : Nat} {T : TypeId} {pre : List Value} {sz : Nat} (e : h b = some (.row T pre sz true)) (off : Nat) :
    w.frozen? ⟨b, off, none⟩ = false := by
  obtain ⟨o, ho, hr⟩ := s b _ e
  cases o with
  | cells c T' fr =>
    obtain ⟨_, _, _, hf⟩ := hr
    have := hf rfl
    subst this
    simp [World.frozen?, ho]
  | _ => exact hr.elim

theorem shape_of_row {h : GH} {w : World} (s : Sub h w) {b : Nat} {T : TypeId} {pre : List Value} {sz : Nat} {f : Bool} (e : h b = some (.row T pre sz f)) :
    w.shape? b = some (T, sz) := by
  obtain ⟨o, ho, hr⟩ := s b _ e
  cases o with
  | cells c T' fr => obtain ⟨rfl, rfl, _, _⟩ := hr; simp [World.shape?, ho]
  | _ => exact hr.elim

theorem sub_setCell {h : GH} {w : World} (s : Sub h w) {b : Nat} {T : TypeId} {pre : List Value} {sz : Nat} (e : h b = some (.row T pre sz true)) {off : Nat} (v : Value) (hlt : off < pre.length) :
    Sub (upd h b (.row T (pre.set off v) sz true)) (w.setCell ⟨b, off, none⟩ v) ∧ Step h w (upd h b (.row T (pre.set off v) sz true)) (w.setCell ⟨b, off, none⟩ v) := by
  obtain ⟨o, ho, hr⟩ := s b _ e
  cases o with
  | cells c T' fr =>
    obtain ⟨rfl, rfl, hp, hf⟩ := hr
    have hf := hf rfl
    subst hf
    have hb : b < w.heap.size := s.lt e
    constructor
    · intro k g hk
      by_cases hkb : k = b
      · subst hkb
        simp only [upd_same, Option.some.injEq] at hk
        subst hk
        refine ⟨.cells (c.setIfInBounds off v) T' (0, 0), ?_, rfl, by simp, ?_, fun _ => rfl⟩
        · simp only [World.setCell, Array.getElem?_modify, ho]; simp
        · obtain ⟨t, ht⟩ := hp
          refine ⟨t, ?_⟩
          simp only [Array.toList_setIfInBounds, ← ht]
          rw [List.set_append_left _ _ hlt]
      · rw [upd_ne hkb] at hk
        obtain ⟨o', ho', hr'⟩ := s k g hk
        exact ⟨o', by rw [heap_setCell _ _ _ _ hkb]; exact ho', hr'⟩
    · refine ⟨rfl, rfl, rfl, by simp [World.setCell], fun k hk hfr => ?_, fun k g' hk hlt' => ?_⟩
      · by_cases hkb : k = b
        · subst hkb; have := hfr _ e; simp [GObj.free] at this
        · exact heap_setCell _ _ _ _ hkb
      · by_cases hkb : k = b
        · subst hkb; exact ⟨_, e, by simp [GObj.free]⟩
        · rw [upd_ne hkb] at hk; exact ⟨g', hk, id⟩
  | _ => exact hr.elim

theorem sub_push {h : GH} {w : World} (s : Sub h w) (T : TypeId) (c : Array Value) (pre : List Value) (hp : pre <+: c.toList) :
    Sub (upd h w.heap.size (.row T pre c.size true)) { w with heap := w.heap.push (.cells c T) } ∧
    Step h w (upd h w.heap.size (.row T pre c.size true)) { w with heap := w.heap.push (.cells c T) } := by
  constructor
  · intro k g hk
    by_cases hkb : k = w.heap.size
    · subst hkb
      simp only [upd_same, Option.some.injEq] at hk
      subst hk
      exact ⟨.cells c T (0, 0), by simp, rfl, rfl, hp, fun _ => rfl⟩
    · rw [upd_ne hkb] at hk
      obtain ⟨o', ho', hr'⟩ := s k g hk
      have := s.lt hk
      exact ⟨o', by simp only [Array.getElem?_push, hkb, if_false]; exact ho', hr'⟩
  · refine ⟨rfl, rfl, rfl, by simp, fun k hk _ => ?_, fun k g' hk hlt' => ?_⟩
    · simp only [Array.getElem?_push]
      rw [if_neg (by omega)]
    · rw [upd_ne (by omega)] at hk; exact ⟨g', hk, id⟩

theorem sub_drew {h : GH} {w : World} (s : Sub h w) (n : Nat) : Sub h { w with drawn := n } ∧ Step h w h { w with drawn := n } :=
  ⟨s, rfl, rfl, rfl, Nat.le_refl _, fun _ _ _ => rfl, fun _ g e _ => ⟨g, e, id⟩⟩

/-! ### loads and stores of whole variables, as the model runs them -/
theorem run_loadCellsFrom {P : Program} {h : GH} {w : World} (s : Sub h w) {b : Nat} {T : TypeId} {pre : List Value} {sz : Nat} {f : Bool} (e : h b = some (.row T pre sz f)) :
    ∀ (n off i : Nat) (acc : Array Value), off + i + n ≤ pre.length →
      (loadCellsFrom ⟨b, off, none⟩ i n acc).run P w = .ok (acc ++ ((pre.drop (off + i)).take n).toArray) w := by
  intro n
  induction n with
  | zero => intro off i acc _; simp [loadCellsFrom]
  | succ n ih =>
    intro off i acc hle
    have hlt : off + i < pre.length := by omega
    have hc : w.cell? ⟨b, off + i, none⟩ = some pre[off + i] := cell?_of_row s e (List.getElem?_eq_getElem hlt)
    have ha : (⟨b, off, none⟩ : Addr).add i = ⟨b, off + i, none⟩ := by
      unfold Addr.add; split
      · subst_vars; simp
      · rfl
    simp only [loadCellsFrom, Sem.run_bind, ha, run_load, hc, Result.andThen_ok]
    rw [ih off (i + 1) _ (by omega)]
    rw [← List.getElem_cons_drop hlt]
    simp [Nat.add_assoc]

theorem run_loadCells {P : Program} {h : GH} {w : World} (s : Sub h w) {b : Nat} {T : TypeId} {pre : List Value} {sz : Nat} {f : Bool} (e : h b = some (.row T pre sz f)) (off n : Nat) (hle : off + n ≤ pre.length) :
    (loadCells ⟨b, off, none⟩ n).run P w = .ok (((pre.drop off).take n).toArray) w := by
  have := run_loadCellsFrom (P := P) s e n off 0 #[] (by omega)
  simpa [loadCells] using this

theorem run_storeCells {P : Program} : ∀ (vs : List Value) (h : GH) (w : World) (s : Sub h w) (b : Nat) (T : TypeId) (pre : List Value) (sz : Nat) (_ : h b = some (.row T pre sz true))
    (off i : Nat) (_ : off + i + vs.length ≤ pre.length) (_ : vs.all oneCell = true),
    ∃ w', (storeCells ⟨b, off, none⟩ vs i).run P w = .ok () w' ∧ Sub (upd h b (.row T (setCells pre (off + i) vs) sz true)) w' ∧ Step h w (upd h b (.row T (setCells pre (off + i) vs) sz true)) w' := by
  intro vs
  induction vs with
  | nil =>
    intro h w s b T pre sz e off i _ _
    have hu : upd h b (.row T (setCells pre (off + i) []) sz true) = h := by
      funext k; simp only [upd, setCells_nil]; split
      · subst_vars; exact e.symm
      · rfl
    rw [hu]
    exact ⟨w, by simp [storeCells], s, .refl _ _⟩
  | cons v vs ih =>
    intro h w s b T pre sz e off i hle hall
    simp only [List.all_cons, Bool.and_eq_true] at hall
    simp only [List.length_cons] at hle
    have hlt : off + i < pre.length := by omega
    have ha : (⟨b, off, none⟩ : Addr).add i = ⟨b, off + i, none⟩ := by
      unfold Addr.add; split
      · subst_vars; simp
      · rfl
    have hc : w.cell? ⟨b, off + i, none⟩ = some pre[off + i] := cell?_of_row s e (List.getElem?_eq_getElem hlt)
    obtain ⟨s1, st1⟩ := sub_setCell s e v hlt
    obtain ⟨w', hr, s2, st2⟩ := ih _ _ s1 b T (pre.set (off + i) v) sz (by simp) off (i + 1) (by simp; omega) hall.2
    refine ⟨w', ?_, ?_, ?_⟩
    · simp only [storeCells, Sem.run_bind, ha, run_store _ _ _ _ _ hall.1, hc, free_of_row s e, Bool.false_eq_true, if_false, Result.andThen_ok]
      exact hr
    · rw [upd_upd] at s2; exact s2
    · rw [upd_upd] at st2; exact st1.trans st2

end Go.Proofs.Ytkcgphbgbibhfaa.GW
