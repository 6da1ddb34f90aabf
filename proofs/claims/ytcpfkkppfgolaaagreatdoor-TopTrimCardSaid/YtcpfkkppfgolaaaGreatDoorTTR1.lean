/- Several texts in one; nothing here is a statement on the program. -/
import Derived.WalkKit
import Derived.Orders
set_option linter.unusedVariables false
set_option linter.unusedSimpArgs false
namespace Go.Proofs.YtcpfkkppfgolaaaGreatDoor.GW
open Go
inductive GObj where
  | row (elem : TypeId) (pre : List Value) (size : Nat) (free : Bool)
  | obj (o : Obj)
def GObj.free : GObj → Bool
  | .row _ _ _ f => f
  | .obj _ => true
abbrev GH := Nat → Option GObj
def GObj.real : GObj → Obj → Prop
  | .row T pre n f, .cells c T' fr => T' = T ∧ c.size = n ∧ pre <+: c.toList ∧ (f = true → fr = (0, 0))
  | .row _ _ _ _, _ => False
  | .obj o, o' => o = o' ∧ ∀ c T f, o ≠ .cells c T f
def Sub (h : GH) (w : World) : Prop := ∀ b g, h b = some g → ∃ o, w.heap[b]? = some o ∧ g.real o
theorem Sub.lt {h : GH} {w : World} (s : Sub h w) {b : Nat} {g : GObj} (e : h b = some g) : b < w.heap.size := by
  obtain ⟨o, ho, _⟩ := s b g e
  rcases Nat.lt_or_ge b w.heap.size with hl | hl
  · exact hl
  · simp [Array.getElem?_eq_none hl] at ho
theorem Sub.fresh {h : GH} {w : World} (s : Sub h w) {b : Nat} (hb : w.heap.size ≤ b) : h b = none := by
  cases e : h b with
  | none => rfl
  | some g => have := s.lt e; omega
structure Step (h : GH) (w : World) (h' : GH) (w' : World) : Prop where
  os : w'.os = w.os
  tape : w'.tape = w.tape
  output : w'.output = w.output
  size : w.heap.size ≤ w'.heap.size
  old : ∀ b, b < w.heap.size → (∀ g, h b = some g → g.free = false) → w'.heap[b]? = w.heap[b]?
  dom : ∀ b g', h' b = some g' → b < w.heap.size → ∃ g, h b = some g ∧ (g.free = false → g'.free = false)
theorem Step.refl (h : GH) (w : World) : Step h w h w := ⟨rfl, rfl, rfl, Nat.le_refl _, fun _ _ _ => rfl, fun _ g e _ => ⟨g, e, id⟩⟩
theorem Step.trans {h h1 h2 : GH} {w w1 w2 : World} (a : Step h w h1 w1) (b : Step h1 w1 h2 w2) : Step h w h2 w2 := by
  refine ⟨b.os.trans a.os, b.tape.trans a.tape, b.output.trans a.output, Nat.le_trans a.size b.size, fun k hk hf => ?_, fun k g' e hk => ?_⟩
  · rw [b.old k (Nat.lt_of_lt_of_le hk a.size), a.old k hk hf]
    intro g1 e1
    obtain ⟨g, e, hfr⟩ := a.dom k g1 e1 hk
    exact hfr (hf g e)
  · obtain ⟨g1, e1, f1⟩ := b.dom k g' e (Nat.lt_of_lt_of_le hk a.size)
    obtain ⟨g, e0, f0⟩ := a.dom k g1 e1 hk
    exact ⟨g, e0, fun hg => f1 (f0 hg)⟩
def Has (P : Program) (f : FuncId) : Prop := ∃ fn, P.funcs[f]? = some fn ∧ (fn.name == "runtime.NumGoroutine") = false ∧ fn.body.isNone = false
structure T (P : Program) (f : FuncId) (args : List Value) (h : GH) (K : Value → GH → Prop) : Prop where
  has : Has P f
  calls : ∀ w, Sub h w → Calls P f args.toArray w fun e w' => ∃ v h', e = .returned v ∧ Sub h' w' ∧ Step h w h' w' ∧ K v h'
theorem T.mono {P : Program} {f : FuncId} {args : List Value} {h : GH} {K K' : Value → GH → Prop} (t : T P f args h K) (k : ∀ v h', K v h' → K' v h') : T P f args h K' :=
  ⟨t.has, fun w s => (t.calls w s).mono fun e w' ⟨v, h', he, hs, hst, hk⟩ => ⟨v, h', he, hs, hst, k v h' hk⟩⟩
def upd (h : GH) (b : Nat) (g : GObj) : GH := fun k => if k = b then some g else h k
@[simp] theorem upd_same (h : GH) (b : Nat) (g : GObj) : upd h b g b = some g := by simp [upd]
theorem upd_ne {h : GH} {b k : Nat} {g : GObj} (hk : k ≠ b) : upd h b g k = h k := by simp [upd, hk]
theorem upd_upd (h : GH) (b : Nat) (g g' : GObj) : upd (upd h b g) b g' = upd h b g' := by
  funext k; simp only [upd]; split <;> rfl
theorem upd_comm (h : GH) {b c : Nat} (g g' : GObj) (n : b ≠ c) : upd (upd h b g) c g' = upd (upd h c g') b g := by
  funext k; simp only [upd]; split <;> split <;> simp_all
theorem ne_of_fresh {h : GH} {b k : Nat} {g : GObj} (hb : h b = none) (hk : h k = some g) : k ≠ b := by
  rintro rfl; simp [hb] at hk
def oneCell (v : Value) : Bool := v.oneCell'
theorem heap_setCell (w : World) (a : Addr) (v : Value) (k : Nat) (h : k ≠ a.block) : (w.setCell a v).heap[k]? = w.heap[k]? := by
  simp only [World.setCell, Array.getElem?_modify]
  rw [if_neg (by omega)]
def setCells (pre : List Value) (off : Nat) : List Value → List Value
  | [] => pre
  | v :: vs => setCells (pre.set off v) (off + 1) vs
@[simp] theorem setCells_nil (pre : List Value) (off : Nat) : setCells pre off [] = pre := rfl
@[simp] theorem setCells_cons (pre : List Value) (off : Nat) (v : Value) (vs : List Value) : setCells pre off (v :: vs) = setCells (pre.set off v) (off + 1) vs := rfl
@[simp] theorem length_setCells (vs : List Value) : ∀ (pre : List Value) (off : Nat), (setCells pre off vs).length = pre.length := by
  induction vs with
  | nil => intros; rfl
  | cons v vs ih => intro pre off; simp [ih]
def ldV (n : Nat) (agg : Bool) (p : Value) (h : GH) : Option Value :=
  match p with
  | .pointer (some ⟨b, off, none⟩) =>
    match h b with
    | some (.row _ pre _ _) =>
      match agg with
      | false => pre[off]?
      | true => match Nat.ble (off + n) pre.length with
        | true => some (.agg ((pre.drop off).take n).toArray)
        | false => none
    | _ => none
  | _ => none
def stV (n : Nat) (p v : Value) (h : GH) : Option GH :=
  match p with
  | .pointer (some ⟨b, off, none⟩) =>
    match h b with
    | some (.row T pre sz true) =>
      match Nat.beq v.cells.size n && (Nat.ble (off + n) pre.length && v.cells.toList.all oneCell) with
      | true => some (upd h b (.row T (setCells pre off v.cells.toList) sz true))
      | false => none
    | _ => none
  | _ => none
def newV (T : TypeId) (cells : List Value) (h : GH) (K : Value → GH → Prop) : Prop :=
  ∀ b, h b = none → K (.pointer (some ⟨b, 0, none⟩)) (upd h b (.row T cells cells.length true))
def bnd {α : Type} (o : Option α) (K : α → Prop) : Prop := match o with | some v => K v | none => False
@[simp] theorem bnd_some {α : Type} (v : α) (K : α → Prop) : bnd (some v) K = K v := rfl
@[simp] theorem bnd_none {α : Type} (K : α → Prop) : bnd none K = False := rfl
theorem bnd_iff {α : Type} {o : Option α} {K : α → Prop} : bnd o K ↔ ∃ v, o = some v ∧ K v := by cases o <;> simp [bnd]
theorem cell?_of_row {h : GH} {w : World} (s : Sub h w) {b : Nat} {T : TypeId} {pre : List Value} {sz : Nat} {f : Bool} (e : h b = some (.row T pre sz f)) {off : Nat} {v : Value} (hv : pre[off]? = some v) :
    w.cell? ⟨b, off, none⟩ = some v := by
  obtain ⟨o, ho, hr⟩ := s b _ e
  cases o with
  | cells c T' fr =>
    obtain ⟨_, _, hp, _⟩ := hr
    have : c.toList[off]? = some v := by
      obtain ⟨t, ht⟩ := hp
      rw [← ht, List.getElem?_append_left]
      · exact hv
      · rcases Nat.lt_or_ge off pre.length with hl | hl
        · exact hl
        · simp [List.getElem?_eq_none hl] at hv
    simp only [World.cell?, ho]
    simpa using this
  | _ => exact hr.elim
theorem free_of_row {h : GH} {w : World} (s : Sub h w) {b : Nat} {T : TypeId} {pre : List Value} {sz : Nat} (e : h b = some (.row T pre sz true)) (off : Nat) :
    w.frozen? ⟨b, off, none⟩ = false := by
  obtain ⟨o, ho, hr⟩ := s b _ e
  cases o with
  | cells c T' fr =>
    obtain ⟨_, _, _, hf⟩ := hr
    have := hf rfl
    subst this
    simp [World.frozen?, ho]
  | _ => exact hr.elim
theorem shape_of_row {h : GH} {w : World} (s : Sub h w) {b : Nat} {T : TypeId} {pre : List Value} {sz : Nat} {f : Bool} (e : h b = some (.row T pre sz f)) :
    w.shape? b = some (T, sz) := by
  obtain ⟨o, ho, hr⟩ := s b _ e
  cases o with
  | cells c T' fr => obtain ⟨rfl, rfl, _, _⟩ := hr; simp [World.shape?, ho]
  | _ => exact hr.elim
theorem sub_setCell {h : GH} {w : World} (s : Sub h w) {b : Nat} {T : TypeId} {pre : List Value} {sz : Nat} (e : h b = some (.row T pre sz true)) {off : Nat} (v : Value) (hlt : off < pre.length) :
    Sub (upd h b (.row T (pre.set off v) sz true)) (w.setCell ⟨b, off, none⟩ v) ∧ Step h w (upd h b (.row T (pre.set off v) sz true)) (w.setCell ⟨b, off, none⟩ v) := by
  obtain ⟨o, ho, hr⟩ := s b _ e
  cases o with
  | cells c T' fr =>
    obtain ⟨rfl, rfl, hp, hf⟩ := hr
    have hf := hf rfl
    subst hf
    have hb : b < w.heap.size := s.lt e
    constructor
    · intro k g hk
      by_cases hkb : k = b
      · subst hkb
        simp only [upd_same, Option.some.injEq] at hk
        subst hk
        refine ⟨.cells (c.setIfInBounds off v) T' (0, 0), ?_, rfl, by simp, ?_, fun _ => rfl⟩
        · simp only [World.setCell, Array.getElem?_modify, ho]; simp
        · obtain ⟨t, ht⟩ := hp
          refine ⟨t, ?_⟩
          simp only [Array.toList_setIfInBounds, ← ht]
          rw [List.set_append_left _ _ hlt]
      · rw [upd_ne hkb] at hk
        obtain ⟨o', ho', hr'⟩ := s k g hk
        exact ⟨o', by rw [heap_setCell _ _ _ _ hkb]; exact ho', hr'⟩
    · refine ⟨rfl, rfl, rfl, by simp [World.setCell], fun k hk hfr => ?_, fun k g' hk hlt' => ?_⟩
      · by_cases hkb : k = b
        · subst hkb; have := hfr _ e; simp [GObj.free] at this
        · exact heap_setCell _ _ _ _ hkb
      · by_cases hkb : k = b
        · subst hkb; exact ⟨_, e, by simp [GObj.free]⟩
        · rw [upd_ne hkb] at hk; exact ⟨g', hk, id⟩
  | _ => exact hr.elim
theorem sub_push {h : GH} {w : World} (s : Sub h w) (T : TypeId) (c : Array Value) (pre : List Value) (hp : pre <+: c.toList) :
    Sub (upd h w.heap.size (.row T pre c.size true)) { w with heap := w.heap.push (.cells c T) } ∧
    Step h w (upd h w.heap.size (.row T pre c.size true)) { w with heap := w.heap.push (.cells c T) } := by
  constructor
  · intro k g hk
    by_cases hkb : k = w.heap.size
    · subst hkb
      simp only [upd_same, Option.some.injEq] at hk
      subst hk
      exact ⟨.cells c T (0, 0), by simp, rfl, rfl, hp, fun _ => rfl⟩
    · rw [upd_ne hkb] at hk
      obtain ⟨o', ho', hr'⟩ := s k g hk
      have := s.lt hk
      exact ⟨o', by simp only [Array.getElem?_push, hkb, if_false]; exact ho', hr'⟩
  · refine ⟨rfl, rfl, rfl, by simp, fun k hk _ => ?_, fun k g' hk hlt' => ?_⟩
    · simp only [Array.getElem?_push]
      rw [if_neg (by omega)]
    · rw [upd_ne (by omega)] at hk; exact ⟨g', hk, id⟩
theorem sub_drew {h : GH} {w : World} (s : Sub h w) (n : Nat) : Sub h { w with drawn := n } ∧ Step h w h { w with drawn := n } :=
  ⟨s, rfl, rfl, rfl, Nat.le_refl _, fun _ _ _ => rfl, fun _ g e _ => ⟨g, e, id⟩⟩
theorem run_loadCellsFrom {P : Program} {h : GH} {w : World} (s : Sub h w) {b : Nat} {T : TypeId} {pre : List Value} {sz : Nat} {f : Bool} (e : h b = some (.row T pre sz f)) :
    ∀ (n off i : Nat) (acc : Array Value), off + i + n ≤ pre.length →
      (loadCellsFrom ⟨b, off, none⟩ i n acc).run P w = .ok (acc ++ ((pre.drop (off + i)).take n).toArray) w := by
  intro n
  induction n with
  | zero => intro off i acc _; simp [loadCellsFrom]
  | succ n ih =>
    intro off i acc hle
    have hlt : off + i < pre.length := by omega
    have hc : w.cell? ⟨b, off + i, none⟩ = some pre[off + i] := cell?_of_row s e (List.getElem?_eq_getElem hlt)
    have ha : (⟨b, off, none⟩ : Addr).add i = ⟨b, off + i, none⟩ := by
      unfold Addr.add; split
      · subst_vars; simp
      · rfl
    simp only [loadCellsFrom, Sem.run_bind, ha, run_load, hc, Result.andThen_ok]
    rw [ih off (i + 1) _ (by omega)]
    rw [← List.getElem_cons_drop hlt]
    simp [Nat.add_assoc]
theorem run_loadCells {P : Program} {h : GH} {w : World} (s : Sub h w) {b : Nat} {T : TypeId} {pre : List Value} {sz : Nat} {f : Bool} (e : h b = some (.row T pre sz f)) (off n : Nat) (hle : off + n ≤ pre.length) :
    (loadCells ⟨b, off, none⟩ n).run P w = .ok (((pre.drop off).take n).toArray) w := by
  have := run_loadCellsFrom (P := P) s e n off 0 #[] (by omega)
  simpa [loadCells] using this
theorem run_storeCells {P : Program} : ∀ (vs : List Value) (h : GH) (w : World) (s : Sub h w) (b : Nat) (T : TypeId) (pre : List Value) (sz : Nat) (_ : h b = some (.row T pre sz true))
    (off i : Nat) (_ : off + i + vs.length ≤ pre.length) (_ : vs.all oneCell = true),
    ∃ w', (storeCells ⟨b, off, none⟩ vs i).run P w = .ok () w' ∧ Sub (upd h b (.row T (setCells pre (off + i) vs) sz true)) w' ∧ Step h w (upd h b (.row T (setCells pre (off + i) vs) sz true)) w' := by
  intro vs
  induction vs with
  | nil =>
    intro h w s b T pre sz e off i _ _
    have hu : upd h b (.row T (setCells pre (off + i) []) sz true) = h := by
      funext k; simp only [upd, setCells_nil]; split
      · subst_vars; exact e.symm
      · rfl
    rw [hu]
    exact ⟨w, by simp [storeCells], s, .refl _ _⟩
  | cons v vs ih =>
    intro h w s b T pre sz e off i hle hall
    simp only [List.all_cons, Bool.and_eq_true] at hall
    simp only [List.length_cons] at hle
    have hlt : off + i < pre.length := by omega
    have ha : (⟨b, off, none⟩ : Addr).add i = ⟨b, off + i, none⟩ := by
      unfold Addr.add; split
      · subst_vars; simp
      · rfl
    have hc : w.cell? ⟨b, off + i, none⟩ = some pre[off + i] := cell?_of_row s e (List.getElem?_eq_getElem hlt)
    obtain ⟨s1, st1⟩ := sub_setCell s e v hlt
    obtain ⟨w', hr, s2, st2⟩ := ih _ _ s1 b T (pre.set (off + i) v) sz (by simp) off (i + 1) (by simp; omega) hall.2
    refine ⟨w', ?_, ?_, ?_⟩
    · simp only [storeCells, Sem.run_bind, ha, run_store _ _ _ _ _ hall.1, hc, free_of_row s e, Bool.false_eq_true, if_false, Result.andThen_ok]
      exact hr
    · rw [upd_upd] at s2; exact s2
    · rw [upd_upd] at st2; exact st1.trans st2
def pickV (c a b : Value) : Option Value := match c with | .bool true => some a | .bool false => some b | _ => none
def intB (op : BinOp) (k : IntKind) (a b : Int) : Option Value :=
  match op with
  | .add => some (.int k (k.wrap (a + b)))
  | .sub => some (.int k (k.wrap (a - b)))
  | .mul => some (.int k (k.wrap (a * b)))
  | .quo => if b = 0 then none else some (.int k (k.wrap (a.tdiv b)))
  | .rem => if b = 0 then none else some (.int k (a.tmod b))
  | .and => some (.int k (k.wrap (BitVec.ofInt k.bits a &&& BitVec.ofInt k.bits b).toNat))
  | .or => some (.int k (k.wrap (BitVec.ofInt k.bits a ||| BitVec.ofInt k.bits b).toNat))
  | .xor => some (.int k (k.wrap (BitVec.ofInt k.bits a ^^^ BitVec.ofInt k.bits b).toNat))
  | .andNot => some (.int k (k.wrap (BitVec.ofInt k.bits a &&& ~~~BitVec.ofInt k.bits b).toNat))
  | .eql => some (.bool (a == b))
  | .neq => some (.bool (a != b))
  | .lss => some (.bool (decide (a < b)))
  | .leq => some (.bool (decide (a ≤ b)))
  | .gtr => some (.bool (decide (a > b)))
  | .geq => some (.bool (decide (a ≥ b)))
  | _ => none
def binV (op : BinOp) (x y : Value) : Option Value :=
  match x, y with
  | .int k a, .int k' b =>
    match op with
    | .shl => if b < 0 then none else some (.int k (k.wrap (a * 2 ^ min b.toNat k.bits)))
    | .shr => if b < 0 then none else some (.int k (a.fdiv (2 ^ min b.toNat k.bits)))
    | _ => if k = k' then intB op k a b else none
  | _, _ => none
theorem run_binOp_int {P : Program} {op : BinOp} {t : TypeId} {x y v : Value} (h : binV op x y = some v) (w : World) : (binOp op t x y).run P w = .ok v w := by
  unfold binV at h
  split at h
  · rename_i k a k' b
    split at h
    · split at h
      · cases h
      · rename_i hb; cases h; simp [binOp, Op.shift, hb]
    · split at h
      · cases h
      · rename_i hb; cases h; simp [binOp, Op.shift, hb]
    · split at h
      · rename_i hk; subst hk
        unfold intB at h
        cases op <;> simp only [reduceCtorEq] at h <;>
          first
            | (cases h; done)
            | (cases h; simp [binOp, Op.intArith, Op.intBits, Op.intCmp]; done)
            | (split at h <;> first | (cases h; done) | (rename_i hb; cases h; simp [binOp, Op.intDiv, hb]; done))
            | (rename_i q1 q2; exact absurd rfl (q1 ·) )
            | (simp_all)
      · cases h
  · cases h
theorem run_eqGuard_int {P : Program} {op : BinOp} {t : TypeId} {x y : Operand} {a b v : Value} (h : binV op a b = some v) (w : World) : (eqGuard op t x y a b).run P w = .ok () w := by
  unfold binV at h
  split at h
  · cases op <;> simp [eqGuard]
  · cases h
def eqN (x y : Value) : Option Bool :=
  match x, y with
  | .bool a, .bool b => some (a == b)
  | .pointer none, .pointer none => some true
  | .pointer none, .pointer (some _) => some false
  | .pointer (some _), .pointer none => some false
  | .nilIface, .nilIface => some true
  | .nilIface, .iface _ _ => some false
  | .iface _ _, .nilIface => some false
  | .slice none _ _, .slice none _ _ => some true
  | .slice none _ _, .slice (some _) _ _ => some false
  | .slice (some _) _ _, .slice none _ _ => some false
  | .nilFunc, .nilFunc => some true
  | .nilFunc, .func _ _ _ => some false
  | .func _ _ _, .nilFunc => some false
  | _, _ => none
def eqNKind (d : TypeDesc) (x : Value) : Bool :=
  match d, x with
  | .bool, .bool _ => true
  | .pointer _, .pointer _ => true
  | .interface _, .nilIface => true
  | .interface _, .iface _ _ => true
  | .slice _, .slice _ _ _ => true
  | .func _ _ _, .nilFunc => true
  | .func _ _ _, .func _ _ _ => true
  | _, _ => false
theorem run_equalIn_nil {P : Program} {n : Nat} {t : TypeId} {d : TypeDesc} (hd : P.underlying t = some d) {x y : Value} {b : Bool} (hk : eqNKind d x = true) (h : eqN x y = some b) (w : World) :
    (Op.equalIn (n + 1) t x y).run P w = .ok b w := by
  unfold eqN at h
  split at h <;> first | (cases h; done) | skip
  all_goals (simp only [Option.some.injEq] at h; subst h; cases d <;> first | (simp [eqNKind] at hk; done) | (simp [Op.equalIn, run_underlying hd]; done))
theorem run_equal_nil {P : Program} {t : TypeId} {d : TypeDesc} (hd : P.underlying t = some d) {x y : Value} {b : Bool} (hk : eqNKind d x = true) (h : eqN x y = some b) (w : World) :
    (Op.equal t x y).run P w = .ok b w := run_equalIn_nil (n := 9999) hd hk h w
def partV (P : Program) (t : TypeId) (cs : Array Value) (off : Nat) : Option Value :=
  match P.underlying t with
  | some (.struct _) => some (.agg (cs.extract off (off + P.cellsOf t)))
  | some (.array _ _) => some (.agg (cs.extract off (off + P.cellsOf t)))
  | some _ => cs[off]?
  | none => none
def bothB (a b : Option Bool) : Option Bool :=
  match a, b with
  | some x, some y => some (x && y)
  | _, _ => none
def eqPs (eq : TypeId → Value → Value → Option Bool) (P : Program) (xs ys : Array Value) : List Field → Option Bool
  | [] => some true
  | f :: fs =>
    match f.name == "_" with
    | true => eqPs eq P xs ys fs
    | false =>
      match partV P f.type xs f.offset, partV P f.type ys f.offset with
      | some a, some b => bothB (eq f.type a b) (eqPs eq P xs ys fs)
      | _, _ => none
def eqPa (eq : Value → Value → Option Bool) (P : Program) (e : TypeId) (n : Nat) (xs ys : Array Value) : List Nat → Option Bool
  | [] => some true
  | i :: is =>
    match partV P e xs (i * n), partV P e ys (i * n) with
    | some a, some b => bothB (eq a b) (eqPa eq P e n xs ys is)
    | _, _ => none
def eqP (P : Program) : Nat → TypeId → Value → Value → Option Bool
  | 0, _, _, _ => none
  | d + 1, t, x, y =>
    match P.underlying t with
    | some .bool => match x, y with | .bool a, .bool b => some (a == b) | _, _ => none
    | some (.int _) => match x, y with | .int k a, .int k' b => (match (k == k' : Bool) with | true => some (a == b) | false => none) | _, _ => none
    | some (.struct fs) =>
      match x, y with
      | .agg xs, .agg ys => (match P.stoodInHeld t with | false => eqPs (eqP P d) P xs ys fs.toList | true => none)
      | _, _ => none
    | some (.array len e) =>
      match x, y with
      | .agg xs, .agg ys => (match P.underlying e with | some _ => eqPa (eqP P d e) P e (P.cellsOf e) xs ys (List.range' 0 len) | none => none)
      | _, _ => none
    | _ => none
theorem info_of_cellsOf {P : Program} {t : TypeId} {d : TypeDesc} (h : P.underlying t = some d) : ∃ i, P.info? t = some i ∧ P.cellsOf t = i.size := by
  unfold Program.underlying at h
  cases hi : P.info? t with
  | none => simp [hi] at h
  | some i => exact ⟨i, rfl, by simp [Program.cellsOf, hi]⟩
theorem run_part {P : Program} {t : TypeId} {cs : Array Value} {off : Nat} {v : Value} (h : partV P t cs off = some v) (w : World) : (part t cs off).run P w = .ok v w := by
  unfold partV at h
  cases hd : P.underlying t with
  | none => simp [hd] at h
  | some d =>
    obtain ⟨i, hi, hc⟩ := info_of_cellsOf hd
    cases d <;> simp only [hd] at h <;>
      first
        | (cases h; simp [part, isAgg, run_underlying hd, sizeOf, typeInfo, hi, hc]; done)
        | (simp [part, isAgg, run_underlying hd, h]; done)
theorem bothB_some {a b : Option Bool} {c : Bool} (h : bothB a b = some c) : ∃ x y, a = some x ∧ b = some y ∧ c = (x && y) := by
  unfold bothB at h
  split at h
  · cases h; exact ⟨_, _, rfl, rfl, rfl⟩
  · cases h
theorem run_eqFields {P : Program} {d : Nat} {eq : TypeId → Value → Value → Option Bool} (he : ∀ t x y b, eq t x y = some b → ∀ w, (Op.equalIn d t x y).run P w = .ok b w) (xs ys : Array Value) :
    ∀ (fs : List Field) (b : Bool), eqPs eq P xs ys fs = some b → ∀ w, (Op.eqFields d xs ys fs).run P w = .ok b w := by
  intro fs
  induction fs with
  | nil => intro b h w; simp [eqPs] at h; subst h; simp [Op.eqFields]
  | cons f fs ih =>
    intro b h w
    simp only [eqPs] at h
    split at h
    · rename_i hn
      have hn : f.name = "_" := by simpa using hn
      simp only [Op.eqFields, hn, ne_eq, not_true_eq_false, if_false]
      exact ih b h w
    · rename_i hn
      have hn : f.name ≠ "_" := by simpa using hn
      split at h
      · rename_i va vb h1 h2
        obtain ⟨p, q, hp, hq, rfl⟩ := bothB_some h
        simp only [Op.eqFields, hn, ne_eq, not_false_eq_true, if_true, Sem.run_bind, run_part h1, run_part h2, Result.andThen_ok, he _ _ _ _ hp]
        cases p
        · simp
        · simp [ih q hq w]
      · cases h
theorem run_eqArr {P : Program} {d : Nat} {e : TypeId} {eq : Value → Value → Option Bool} (he : ∀ x y b, eq x y = some b → ∀ w, (Op.equalIn d e x y).run P w = .ok b w) (n : Nat) (xs ys : Array Value) :
    ∀ (is : List Nat) (b : Bool), eqPa eq P e n xs ys is = some b → ∀ w,
      ((Sem.run P
          (forIn is ((none, ()) : Option Bool × Unit) fun i s => do
            let a ← part e xs (i * n)
            let b ← part e ys (i * n)
            let c ← Op.equalIn d e a b
            if (!c) = true then pure (ForInStep.done (some false, ())) else pure (ForInStep.yield (none, ())))
          w).andThen
      fun a w' =>
      Sem.run P
        (match a.fst with
        | some r => pure r
        | none => pure true)
        w') =
    Result.ok b w := by
  intro is
  induction is with
  | nil => intro b h w; simp [eqPa] at h; subst h; simp
  | cons i is ih =>
    intro b h w
    simp only [eqPa] at h
    split at h
    · rename_i va vb h1 h2
      obtain ⟨p, q, hp, hq, rfl⟩ := bothB_some h
      have := ih q hq w
      cases p
      · simp [run_part h1, run_part h2, he _ _ _ hp]
      · simp only [List.forIn_cons, bind_assoc, Sem.run_bind, run_part h1, run_part h2, Result.andThen_ok, he _ _ _ hp, Bool.not_true, Bool.false_eq_true, if_false, Sem.run_pure, Bool.true_and]
        simpa using this
    · cases h
theorem run_eqP {P : Program} : ∀ (d : Nat) (t : TypeId) (x y : Value) (b : Bool), eqP P d t x y = some b → ∀ w, (Op.equalIn d t x y).run P w = .ok b w := by
  intro d
  induction d with
  | zero => intro t x y b h; simp [eqP] at h
  | succ d ih =>
    intro t x y b h w
    simp only [eqP] at h
    split at h
    · rename_i hd
      split at h
      · cases h; simp [Op.equalIn, run_underlying hd]
      · cases h
    · rename_i hd
      split at h
      · split at h
        · rename_i hk
          have hk := eq_of_beq hk
          cases h; subst hk; simp [Op.equalIn, run_underlying hd]
        · cases h
      · cases h
    · rename_i fs hd
      split at h
      · rename_i xs ys
        split at h
        · rename_i hs
          have hf : P.fieldsOf t = fs := by simp [Program.fieldsOf, hd]
          rw [run_equalIn_struct w d t xs ys (by rw [hf]; exact hd) hs, hf]
          exact run_eqFields (fun t x y b h w => ih t x y b h w) xs ys fs.toList b h w
        · cases h
      · cases h
    · rename_i len e hd
      split at h
      · rename_i xs ys
        split at h
        · rename_i de hde
          obtain ⟨i, hi, hc⟩ := info_of_cellsOf hde
          simp only [Op.equalIn, Sem.run_bind, run_underlying hd, Result.andThen_ok]
          simp only [sizeOf, typeInfo, Sem.run_bind, run_program, Result.andThen_ok, hi, Sem.run_pure]
          rw [hc] at h
          rw [Std.Legacy.Range.forIn_eq_forIn_range']
          simp only [Std.Legacy.Range.size]
          have hl : (len - 0 + 1 - 1) / 1 = len := by simp
          rw [hl]
          refine Eq.trans ?_ (run_eqArr (fun x y b h w => ih e x y b h w) i.size xs ys _ b h w)
          congr 1
          all_goals (funext a w'; obtain ⟨a, _⟩ := a; cases a <;> rfl)
        · cases h
      · cases h
    · cases h
def szK (P : Program) (t : TypeId) : Option (Nat × Bool) :=
  match P.underlying t with
  | some (.struct _) => some (P.cellsOf t, true)
  | some (.array _ _) => some (P.cellsOf t, true)
  | some _ => some (P.cellsOf t, false)
  | none => none
def zeroK (P : Program) (t : TypeId) : Option (List Value) :=
  match P.info? t with
  | some i => (match i.zero with | some v => some v.cells.toList | none => none)
  | none => none
def fieldK (P : Program) (s : TypeId) (f : Nat) : Option (Nat × Nat × Bool) :=
  match P.underlying s with
  | some (.struct fs) =>
    match fs[f]? with
    | some fd => (match szK P fd.type with | some (n, g) => some (fd.offset, n, g) | none => none)
    | none => none
  | _ => none
theorem szK_spec {P : Program} {t : TypeId} {n : Nat} {g : Bool} (h : szK P t = some (n, g)) :
    ∃ d i, P.underlying t = some d ∧ P.info? t = some i ∧ i.size = n ∧ (∀ w, (isAgg t).run P w = .ok g w) := by
  unfold szK at h
  cases hd : P.underlying t with
  | none => simp [hd] at h
  | some d =>
    obtain ⟨i, hi, hc⟩ := info_of_cellsOf hd
    refine ⟨d, i, rfl, hi, ?_, ?_⟩
    · cases d <;> simp only [hd] at h <;> cases h <;> exact hc.symm
    · intro w; cases d <;> simp only [hd] at h <;> cases h <;> simp [isAgg, run_underlying hd]
theorem zeroK_spec {P : Program} {t : TypeId} {z : List Value} (h : zeroK P t = some z) : ∃ v, z = v.cells.toList ∧ ∀ w, (zeroValue t).run P w = .ok v w := by
  unfold zeroK at h
  split at h
  · rename_i i hi
    split at h
    · rename_i v hv; cases h; exact ⟨v, rfl, fun w => by simp [zeroValue, typeInfo, hi, hv]⟩
    · cases h
  · cases h
theorem run_loadAt {P : Program} {t : TypeId} {n : Nat} {g : Bool} (hs : szK P t = some (n, g)) {p v : Value} {h : GH} {w : World} (s : Sub h w) (hl : ldV n g p h = some v) :
    (Instr.loadAt t p).run P w = .ok v w := by
  obtain ⟨d, i, hd, hi, hn, ha⟩ := szK_spec hs
  unfold ldV at hl
  split at hl
  · rename_i b off
    split at hl
    · rename_i T pre sz f he
      cases g with
      | false =>
        simp only at hl
        simp [Instr.loadAt, Instr.sureAddr, loadVar, ha, cell?_of_row s he hl]
      | true =>
        simp only at hl
        split at hl
        · rename_i hle
          cases hl
          have := run_loadCells (P := P) s he off n (Nat.le_of_ble_eq_true hle)
          simp [Instr.loadAt, Instr.sureAddr, loadVar, ha, sizeOf, typeInfo, hi, hn, this]
        · cases hl
    · cases hl
  · cases hl
theorem run_storeAt {P : Program} {t : TypeId} {n : Nat} {g : Bool} (hs : szK P t = some (n, g)) {p v : Value} {h h' : GH} {w : World} (s : Sub h w) (hl : stV n p v h = some h') :
    ∃ w', (Instr.storeAt t p v).run P w = .ok () w' ∧ Sub h' w' ∧ Step h w h' w' := by
  obtain ⟨d, i, hd, hi, hn, ha⟩ := szK_spec hs
  unfold stV at hl
  split at hl
  · rename_i b off
    split at hl
    · rename_i T pre sz he
      split at hl
      · rename_i hc
        simp only [Bool.and_eq_true] at hc
        obtain ⟨h1, h2, h3⟩ := hc
        have h1 := Nat.eq_of_beq_eq_true h1
        have h2 := Nat.le_of_ble_eq_true h2
        cases hl
        obtain ⟨w', hr, s', st⟩ := run_storeCells (P := P) v.cells.toList h w s b T pre sz he off 0 (by simpa [h1] using h2) h3
        refine ⟨w', ?_, s', st⟩
        simp [Instr.storeAt, Instr.sureAddr, storeVar, sizeOf, typeInfo, hi, hn, h1, hr]
      · cases hl
    · cases hl
  · cases hl
theorem run_newVar {P : Program} {t : TypeId} {v : Value} {h : GH} {w : World} (s : Sub h w) :
    ∃ w', (newVar t v).run P w = .ok ⟨w.heap.size, 0, none⟩ w' ∧ Sub (upd h w.heap.size (.row t v.cells.toList v.cells.toList.length true)) w' ∧ Step h w (upd h w.heap.size (.row t v.cells.toList v.cells.toList.length true)) w' := by
  obtain ⟨s', st⟩ := sub_push s t v.cells v.cells.toList (List.prefix_refl _)
  refine ⟨{ w with heap := w.heap.push (.cells v.cells t) }, ?_, ?_, ?_⟩
  · simp [newVar, newRow]
  · simpa using s'
  · simpa using st
def fillV (cells : List Value) : List (Nat × Nat × Value) → Option (List Value)
  | [] => some cells
  | (off, size, v) :: r =>
    match Nat.beq v.cells.size size && Nat.ble (off + size) cells.length with
    | true => fillV (setCells cells off v.cells.toList) r
    | false => none
theorem foldl_setCells (vs : List Value) : ∀ (off j : Nat) (cells : Array Value),
    ((vs.zipIdx j).foldl (fun cs (p : Value × Nat) => cs.setIfInBounds (off + p.2) p.1) cells).toList = setCells cells.toList (off + j) vs := by
  induction vs with
  | nil => intros; simp
  | cons v vs ih =>
    intro off j cells
    simp only [List.zipIdx_cons, List.foldl_cons, setCells_cons]
    rw [ih off (j + 1)]
    simp [Nat.add_assoc]
theorem fill_of_fillV (place : Nat → Option (Nat × Nat)) : ∀ (parts : List (Nat × Value)) (ps : List (Nat × Nat × Value)) (cells : Array Value) (r : List Value),
    parts.map (fun q => ((place q.1).getD (0, 0)).1) = ps.map (·.1) → (∀ q ∈ parts, (place q.1).isSome) → parts.map (fun q => ((place q.1).getD (0, 0)).2) = ps.map (·.2.1) → parts.map (·.2) = ps.map (·.2.2) →
    fillV cells.toList ps = some r → Instr.fill place cells parts = some r.toArray := by
  intro parts
  induction parts with
  | nil => intro ps cells r h1 _ _ _ hf; cases ps with
    | nil => simp [fillV] at hf; simp [Instr.fill, ← hf]
    | cons => simp at h1
  | cons q parts ih =>
    intro ps cells r h1 hs h2 h3 hf
    obtain ⟨i, v⟩ := q
    cases ps with
    | nil => simp at h1
    | cons p ps =>
      obtain ⟨off, size, v'⟩ := p
      simp only [List.map_cons, List.cons.injEq] at h1 h2 h3
      obtain ⟨h1, t1⟩ := h1
      obtain ⟨h2, t2⟩ := h2
      obtain ⟨h3, t3⟩ := h3
      subst h3
      have hp := hs (i, v) (by simp)
      cases hpl : place i with
      | none => simp [hpl] at hp
      | some pr =>
        obtain ⟨o, sz⟩ := pr
        simp only [hpl, Option.getD_some] at h1 h2
        subst h1; subst h2
        simp only [fillV] at hf
        split at hf
        · rename_i hc
          simp only [Bool.and_eq_true] at hc
          have c1 := Nat.eq_of_beq_eq_true hc.1
          have c2 := Nat.le_of_ble_eq_true hc.2
          simp only [Array.length_toList] at c2
          simp only [Instr.fill, hpl]
          rw [if_neg (by simp; omega)]
          refine ih ps _ r t1 (fun q hq => hs q (List.mem_cons_of_mem _ hq)) t2 t3 ?_
          rw [← Array.foldl_toList, Array.toList_zipIdx, foldl_setCells]
          simpa using hf
        · cases hf
def zerosV (zero : List Value) : Nat → List Value
  | 0 => []
  | n + 1 => zero ++ zerosV zero n
theorem length_zerosV (zero : List Value) (n : Nat) : (zerosV zero n).length = n * zero.length := by
  induction n with
  | zero => simp [zerosV]
  | succ n ih => simp [zerosV, ih, Nat.add_mul, Nat.add_comm]
theorem getElem?_zerosV (zero : List Value) : ∀ (n i : Nat), i < n * zero.length → (zerosV zero n)[i]? = zero[i % zero.length]? := by
  intro n
  induction n with
  | zero => intro i hi; simp at hi
  | succ n ih =>
    intro i hi
    simp only [zerosV]
    by_cases h : i < zero.length
    · rw [List.getElem?_append_left h, Nat.mod_eq_of_lt h]
    · rw [List.getElem?_append_right (by omega)]
      have hz : 0 < zero.length := by
        rcases Nat.eq_zero_or_pos zero.length with h0 | h0
        · simp [h0] at hi
        · exact h0
      rw [ih (i - zero.length) (by rw [Nat.add_mul] at hi; omega)]
      rw [Nat.mod_eq_sub_mod (by omega : i ≥ zero.length)]
theorem zeros_array (zero : Array Value) (n : Nat) : ((Array.range (n * zero.size)).map fun i => zero[i % zero.size]!).toList = zerosV zero.toList n := by
  apply List.ext_getElem?
  intro i
  by_cases h : i < n * zero.size
  · have hz : 0 < zero.size := by
      rcases Nat.eq_zero_or_pos zero.size with h0 | h0
      · simp [h0] at h
      · exact h0
    have hm : i % zero.size < zero.size := Nat.mod_lt _ hz
    rw [getElem?_zerosV _ _ _ (by simpa using h)]
    simp [h, hm, getElem!_pos]
  · rw [List.getElem?_eq_none (by simp; omega), List.getElem?_eq_none (by rw [length_zerosV]; simp; omega)]
inductive GV where
  | unk | skip | val (v : Value)
abbrev GEnv := Nat → GV
def evO (e : GEnv) : Operand → Option Value
  | .tmp t => (match e t with | .val v => some v | _ => none)
  | .const v => some v
  | .global g => some (.pointer (some ⟨g, 0, none⟩))
  | .func f => some (.func (.func f) #[] #[])
def evL (e : GEnv) : List Operand → Option (List Value)
  | [] => some []
  | o :: os => match evO e o, evL e os with | some v, some vs => some (v :: vs) | _, _ => none
def evM (e : GEnv) : Option Operand → Option (Option Value)
  | none => some none
  | some o => match evO e o with | some v => some (some v) | none => none
def partsK (place : Nat → Option (Nat × Nat)) (e : GEnv) : List (Nat × Operand) → Option (List (Nat × Nat × Value))
  | [] => some []
  | (i, o) :: r => match place i, evO e o, partsK place e r with | some (off, sz), some v, some l => some ((off, sz, v) :: l) | _, _, _ => none
def placeS (P : Program) (fs : Array Field) (i : Nat) : Option (Nat × Nat) :=
  match fs[i]? with
  | some f => (match P.info? f.type with | some j => some (f.offset, j.size) | none => none)
  | none => none
def pickO (c : Value) (a b : Option Value) : Option Value := match c with | .bool true => a | .bool false => b | _ => none
def ncV : Value → Option Value
  | .pointer none | .nilIface | .nilFunc => none
  | .func (.method _) _ _ => none
  | x => some x
inductive NK where
  | bool | ptr | iface | slice | func
def nkK : TypeDesc → Option NK
  | .bool => some .bool
  | .pointer _ => some .ptr
  | .interface _ => some .iface
  | .slice _ => some .slice
  | .func _ _ _ => some .func
  | _ => none
def eqK (k : NK) (c : Bool) (x y : Value) : Option Bool :=
  match k, x, y with
  | .bool, .bool a, .bool b => some (a == b)
  | .ptr, .pointer none, .pointer none => some true
  | .ptr, .pointer none, .pointer (some _) => some false
  | .ptr, .pointer (some _), .pointer none => some false
  | .iface, .nilIface, .nilIface => (match c with | true => some true | false => none)
  | .iface, .nilIface, .iface _ _ => some false
  | .iface, .iface _ _, .nilIface => some false
  | .slice, .slice none _ _, .slice none _ _ => some true
  | .slice, .slice none _ _, .slice (some _) _ _ => some false
  | .slice, .slice (some _) _ _, .slice none _ _ => some false
  | .func, .nilFunc, .nilFunc => some true
  | .func, .nilFunc, .func _ _ _ => some false
  | .func, .func _ _ _, .nilFunc => some false
  | _, _, _ => none
def isC : Operand → Bool
  | .const _ => true
  | _ => false
def eqI (x y : Value) : Option Bool := match x, y with | .int k a, .int k' b => (if k = k' then some (a == b) else none) | _, _ => none
def eqA (n : Nat) (x y : Value) : Option Bool :=
  match x, y with
  | .pointer (some a), .pointer (some b) => if a.block = b.block ∧ n ≠ 0 then some (a == b) else none
  | .pointer none, .pointer none => some true
  | .pointer none, .pointer (some _) => some false
  | .pointer (some _), .pointer none => some false
  | _, _ => none
def eqG (P : Program) (t : TypeId) (c : Bool) (x y : Value) (K : Bool → Prop) : Prop :=
  match P.underlying t with
  | some (.int _) => bnd (eqI x y) K
  | some (.struct _) => (match P.eqGuardType P.depth t with | false => bnd (eqP P 10000 t x y) K | true => False)
  | some (.array _ _) => (match P.eqGuardType P.depth t with | false => bnd (eqP P 10000 t x y) K | true => False)
  | some (.pointer e) => (match c with | true => bnd (eqK .ptr true x y) K | false => bnd (eqA (P.cellsOf e) x y) K)
  | some d => (match nkK d with | some k => bnd (eqK k c x y) K | none => False)
  | none => False
def unV (op : UnOp) (x : Value) : Option Value :=
  match op, x with
  | .not, .bool b => some (.bool !b)
  | .neg, .int k n => some (.int k (k.wrap (0 - n)))
  | _, _ => none
def cvV (k : IntKind) (x : Value) : Option Value := match x with | .int _ n => some (.int k (k.wrap n)) | _ => none
def faV (off : Nat) (p : Value) : Option Value :=
  match p with
  | .pointer (some ⟨b, o, none⟩) => some (.pointer (some ⟨b, o + off, none⟩))
  | _ => none
def fdV (off n : Nat) (g : Bool) (v : Value) : Option Value :=
  match v with
  | .agg cs => (match g with | true => some (.agg (cs.extract off (off + n))) | false => cs[off]?)
  | _ => none
def iaV (len size : Nat) (p i : Value) : Option Value :=
  match p, i with
  | .pointer (some ⟨b, o, none⟩), .int _ i => if 0 ≤ i ∧ i < len then some (.pointer (some ⟨b, o + i.toNat * size, none⟩)) else none
  | _, _ => none
def isV (size : Nat) (s i : Value) : Option Value :=
  match s, i with
  | .slice (some ⟨b, o, none⟩) len _, .int _ i => if 0 ≤ i ∧ i < len then some (.pointer (some ⟨b, o + i.toNat * size, none⟩)) else none
  | _, _ => none
def ixV (len n : Nat) (g : Bool) (v i : Value) : Option Value :=
  match v, i with
  | .agg cs, .int _ i => if 0 ≤ i ∧ i < len then (match g with | true => some (.agg (cs.extract (i.toNat * n) (i.toNat * n + n))) | false => cs[i.toNat * n]?) else none
  | _, _ => none
def sbV (x : Option Value) (y dflt : Nat) : Option Nat :=
  match x with
  | none => some dflt
  | some (.int _ i) => if 0 ≤ i ∧ i ≤ y then some i.toNat else none
  | some _ => none
def slV (size : Nat) (s : Value) (lo hi : Option Value) : Option Value :=
  match s with
  | .slice a len cap =>
    match sbV hi cap len with
    | some h =>
      match sbV lo h 0 with
      | some l => some (.slice (if cap = l then a else a.map (·.add (l * size))) (h - l) (cap - l))
      | none => none
    | none => none
  | _ => none
def saV (n size : Nat) (p : Value) (lo hi : Option Value) : Option Value :=
  match p with
  | .pointer (some a) =>
    match sbV hi n n with
    | some h =>
      match sbV lo h 0 with
      | some l => some (.slice (some (if n = l then a else a.add (l * size))) (h - l) (n - l))
      | none => none
    | none => none
  | _ => none
def taV (asserted : TypeId) (zero : Value) (ok : Bool) (v : Value) : Option Value :=
  match v with
  | .nilIface => (match ok with | true => some (.tuple #[zero, .bool false]) | false => none)
  | .iface t x =>
    match Nat.beq t asserted with
    | true => (match ok with | true => some (.tuple #[x, .bool true]) | false => some x)
    | false => (match ok with | true => some (.tuple #[zero, .bool false]) | false => none)
  | _ => none
def tiV (P : Program) (want : Array (String × TypeId)) (zero : Value) (ok : Bool) (v : Value) : Option Value :=
  match v with
  | .nilIface => (match ok with | true => some (.tuple #[zero, .bool false]) | false => none)
  | .iface t x =>
    match P.info? t with
    | some i =>
      match Instr.missingMethod want i.methods with
      | none => (match ok with | true => some (.tuple #[v, .bool true]) | false => some v)
      | some _ => (match ok with | true => some (.tuple #[zero, .bool false]) | false => none)
    | none => none
  | _ => none
def zeroVK (P : Program) (t : TypeId) : Option Value := match P.info? t with | some i => i.zero | none => none
def exV (v : Value) (i : Nat) : Option Value := match v with | .tuple vs => vs[i]? | _ => none
def lnV (v : Value) : Option Value := match v with | .slice _ n _ => some (.int .i64 n) | _ => none
def m2V (mx : Bool) (x y : Value) : Option Value :=
  match x, y with
  | .int k a, .int _ b => some (.int k (match mx with | true => if a < b then b else a | false => if b < a then b else a))
  | _, _ => none
def mmV (mx : Bool) (x : Value) : List Value → Option Value
  | [] => some x
  | y :: r => match m2V mx x y with | some z => mmV mx z r | none => none
def cellsAt (size n : Nat) (v : Value) (h : GH) : Option (List Value) :=
  match v with
  | .slice none _ _ => some []
  | .slice (some ⟨b, off, sp⟩) _ _ =>
    match Nat.beq (n * size) 0 with
    | true => some []
    | false =>
      match sp with
      | some _ => none
      | none =>
        match h b with
        | some (.row _ pre _ _) => (match Nat.ble (off + n * size) pre.length with | true => some ((pre.drop off).take (n * size)) | false => none)
        | _ => none
  | _ => none
def putL (pre : List Value) (p : Nat) (new : List Value) : List Value := pre.take p ++ new ++ pre.drop (p + new.length)
def putV (base : Option Addr) (p : Nat) (new : List Value) (h : GH) : Option GH :=
  match new with
  | [] => some h
  | _ =>
    match base with
    | some ⟨b, off, none⟩ =>
      match h b with
      | some (.row T pre sz true) =>
        match Nat.ble (off + p) pre.length && (Nat.ble (off + p + new.length) sz && new.all oneCell) with
        | true => some (upd h b (.row T (putL pre (off + p) new) sz true))
        | false => none
      | _ => none
    | _ => none
def apV (T : TypeId) (size bytes : Nat) (s x : Value) (h : GH) (K : Value → GH → Prop) : Prop :=
  match s, x with
  | .slice base sl sc, .slice xb n xc =>
    bnd (cellsAt size n (.slice xb n xc) h) fun new =>
      if sl + n ≤ sc then bnd (putV base (sl * size) new h) fun h' => K (.slice base (sl + n) sc) h'
      else bnd (cellsAt size sl (.slice base sl sc) h) fun old =>
        (sl + n) * bytes ≤ 140737488355328 ∧ sl + n ≤ 9223372036854775807 ∧ old.length = sl * size ∧ new.length = n * size ∧
        ∀ b nc, h b = none → sl + n ≤ nc → K (.slice (some ⟨b, 0, none⟩) (sl + n) nc) (upd h b (.row T (old ++ new) (nc * size) true))
  | _, _ => False
def bsV (T : TypeId) (len : Nat) (cells : List Value) (ps : List (Nat × Nat × Value)) (h : GH) (K : Value → GH → Prop) : Prop :=
  bnd (fillV cells ps) fun cs => ∀ b, h b = none → K (.slice (some ⟨b, 0, none⟩) len len) (upd h b (.row T cs cs.length true))
def mkV (T : TypeId) (bytes : Nat) (zero : List Value) (l c : Value) (h : GH) (K : Value → GH → Prop) : Prop :=
  match l, c with
  | .int _ l, .int _ c => 0 ≤ l ∧ l ≤ c ∧ c ≤ 9223372036854775807 ∧ bytes * c ≤ 140737488355328 ∧
      ∀ b, h b = none → K (.slice (some ⟨b, 0, none⟩) l.toNat c.toNat) (upd h b (.row T (zerosV zero c.toNat) (zerosV zero c.toNat).length true))
  | _, _ => False
def nmpV (h : GH) (K : Value → GH → Prop) : Prop := ∀ b, h b = none → K (.map (some b)) (upd h b (.obj (.map #[] 0)))
def mupV (ik : IntKind) (m k x : Value) (h : GH) : Option GH :=
  match m with
  | .map (some b) =>
    match h b with
    | some (.obj (.map es clock)) =>
      match Instr.findNow (.int ik) k es.toList 0 with
      | some none => some (upd h b (.obj (.map (es.push { key := k, val := x, born := clock }) (clock + 1))))
      | _ => none
    | _ => none
  | _ => none
def mlkV (ik : IntKind) (m k : Value) (h : GH) : Option Value :=
  match m with
  | .map (some b) =>
    match h b with
    | some (.obj (.map es _)) =>
      match Instr.findNow (.int ik) k es.toList 0 with
      | some (some (_, v)) => some v
      | _ => none
    | _ => none
  | _ => none
def mkeyK (P : Program) (t : TypeId) : Option IntKind :=
  match P.underlying t with
  | some (.map kt _) => (match P.underlying kt with | some (.int ik) => some ik | _ => none)
  | _ => none
def callV (P : Program) (fv : Value) (args : List Value) (h : GH) (K : Value → GH → Prop) : Prop :=
  match fv with
  | .func (.func f) first cap => T P f (first.toList ++ args ++ cap.toList) h K
  | _ => False
def ivV (P : Program) (recv : Value) (name : String) (args : List Value) (h : GH) (K : Value → GH → Prop) : Prop :=
  match recv with
  | .iface t v => ∃ f r, (∀ w, (method (P.types.size + Made.depth) t v name).run P w = .ok (f, r) w) ∧ T P f (r :: args) h K
  | _ => False
def usdV : Value → Option Value
  | .slice none _ _ => some (.pointer none)
  | .slice (some a) _ c => (match Nat.beq c 0 with | true => none | false => some (.pointer (some a)))
  | _ => none
def bytesL : List Value → Option (List UInt8)
  | [] => some []
  | .int .u8 n :: r => (match bytesL r with | some l => some (n.toNat.toUInt8 :: l) | none => none)
  | _ => none
def usV (P : Program) (pt : TypeId) (p n : Value) (h : GH) : Option (Value × GH) :=
  match p, n with
  | .pointer none, .int _ m => (match decide (m = 0) with | true => some (.string .empty, h) | false => none)
  | .pointer (some ⟨b, off, none⟩), .int _ m =>
    match P.underlying pt, h b with
    | some (.pointer u), some (.row T pre sz true) =>
      match decide (0 < m) && (decide (m ≤ 9223372036854775807) && (Nat.ble (off + m.toNat) pre.length && liesAt P P.depth T (sz / P.cellsOf T) off u m.toNat)) with
      | true => (match bytesL ((pre.drop off).take m.toNat) with | some l => some (.string ⟨l.toArray⟩, upd h b (.row T pre sz false)) | none => none)
      | false => none
    | _, _ => none
  | _, _ => none
def gbi (P : Program) (b : Builtin) (ts : Array TypeId) (args : List Value) (h : GH) (K : Value → GH → Prop) : Prop :=
  match b, args with
  | .len, [v] =>
    (match ts[0]? with
     | some t => (match P.underlying t with | some (.slice _) => bnd (lnV v) fun v => K v h | some (.array n _) => K (.int .i64 n) h | _ => False)
     | none => False)
  | .append, [s, x] =>
    (match ts[0]?, ts[1]? with
     | some t, some t2 =>
       (match P.underlying t, P.underlying t2 with
        | some (.slice el), some (.slice _) =>
          (match P.info? el, zeroK P el with
           | some i, some z => (match Nat.beq z.length i.size with | true => apV el i.size i.bytes s x h K | false => False)
           | _, _ => False)
        | _, _ => False)
     | _, _ => False)
  | .min, x :: r => bnd (mmV false x r) fun v => K v h
  | .max, x :: r => bnd (mmV true x r) fun v => K v h
  | .unsafeSliceData, [v] => bnd (usdV v) fun p => K p h
  | .unsafeString, [p, n] => (match ts[0]? with | some pt => bnd (usV P pt p n h) fun r => K r.1 r.2 | none => False)
  | _, _ => False
def gop (P : Program) (op : Op) (e : GEnv) (h : GH) (K : Value → GH → Prop) : Prop :=
  match op with
  | .move x | .assign x => (match evO e x with | some v => K v h | none => False)
  | .pick c a b => (match evO e c with | some c => bnd (pickO c (evO e a) (evO e b)) fun v => K v h | none => False)
  | .alloc t => (match zeroK P t with | some z => newV t z h K | none => False)
  | .box t x => (match evO e x with | some v => newV t v.cells.toList h K | none => False)
  | .build t parts =>
    match P.underlying t with
    | some (.struct fs) =>
      (match fs.toList.all (fun f => (P.info? f.type).isSome), zeroK P t, partsK (placeS P fs) e parts.toList with
       | true, some z, some l => bnd (fillV z l) fun cs => K (.agg cs.toArray) h
       | _, _, _ => False)
    | some (.array _ el) =>
      (match P.info? el, zeroK P t with
       | some i, some z => (match partsK (fun j => some (j * i.size, i.size)) e parts.toList with | some l => bnd (fillV z l) fun cs => K (.agg cs.toArray) h | none => False)
       | _, _ => False)
    | _ => False
  | .buildSlice t len parts =>
    match P.underlying t with
    | some (.slice el) =>
      (match P.info? el, zeroK P el with
       | some i, some z =>
         (match partsK (fun j => some (j * i.size, i.size)) e parts.toList, Nat.ble (len * i.size) 16777216 && Nat.beq z.length i.size with
          | some l, true => bsV el len (zerosV z len) l h K
          | _, _ => False)
       | _, _ => False)
    | _ => False
  | .load t a => (match evO e a, szK P t with | some p, some (n, g) => bnd (ldV n g p h) fun v => K v h | _, _ => False)
  | .store t a x => (match evO e a, evO e x, szK P t with | some p, some v, some (n, _) => bnd (stV n p v h) fun h' => K undef h' | _, _, _ => False)
  | .nilCheck x => (match evO e x with | some v => bnd (ncV v) fun v => K v h | none => False)
  | .binOp op t x y _ =>
    match evO e x, evO e y with
    | some a, some b =>
      (match op with
       | .eql => eqG P t (isC x || isC y) a b fun r => K (.bool r) h
       | .neq => eqG P t (isC x || isC y) a b fun r => K (.bool !r) h
       | _ => bnd (binV op a b) fun v => K v h)
    | _, _ => False
  | .unOp op _ x => (match evO e x with | some v => bnd (unV op v) fun v => K v h | none => False)
  | .convert s d x =>
    match evO e x, P.underlying s, P.underlying d with
    | some v, some _, some (.int k) => bnd (cvV k v) fun v => K v h
    | _, _, _ => False
  | .makeInterface t x => (match evO e x, P.underlying t with | _, some (.interface _) => False | some v, some _ => K (.iface t v) h | _, _ => False)
  | .makeFunc fn f c => (match evL e f.toList, evL e c.toList with | some a, some b => K (.func fn a.toArray b.toArray) h | _, _ => False)
  | .makeSlice t l c =>
    match evO e l, evO e c, P.underlying t with
    | some l, some c, some (.slice el) =>
      (match P.info? el, zeroK P el with
       | some i, some z => (match Nat.beq z.length i.size with | true => mkV el i.bytes z l c h K | false => False)
       | _, _ => False)
    | _, _, _ => False
  | .slice t x lo hi none =>
    match evO e x, evM e lo, evM e hi, P.underlying t with
    | some v, some lo, some hi, some (.slice el) => (match P.info? el with | some i => bnd (slV i.size v lo hi) fun v => K v h | none => False)
    | some v, some lo, some hi, some (.array n el) => (match P.info? el with | some i => bnd (saV n i.size v lo hi) fun v => K v h | none => False)
    | _, _, _, _ => False
  | .fieldAddr s x f =>
    match evO e x, fieldK P s f with
    | some v, some (off, n, _) => (match Nat.beq n 0 with | false => bnd (faV off v) fun v => K v h | true => False)
    | _, _ => False
  | .field t x f => (match evO e x, fieldK P t f with | some v, some (off, n, g) => bnd (fdV off n g v) fun v => K v h | _, _ => False)
  | .indexAddr t x i =>
    match evO e x, evO e i, P.underlying t with
    | some v, some i, some (.array len el) => (match P.info? el with | some j => bnd (iaV len j.size v i) fun v => K v h | none => False)
    | some v, some i, some (.slice el) => (match P.info? el with | some j => bnd (isV j.size v i) fun v => K v h | none => False)
    | _, _, _ => False
  | .index t x i =>
    match evO e x, evO e i, P.underlying t with
    | some v, some i, some (.array len el) => (match szK P el with | some (n, g) => bnd (ixV len n g v i) fun v => K v h | none => False)
    | _, _, _ => False
  | .typeAssert x xt as ok =>
    match evO e x, P.underlying as, zeroVK P as with
    | some v, some (.interface want), some z => bnd (tiV P want z ok v) fun v => K v h
    | some v, some _, some z => bnd (taV as z ok v) fun v => K v h
    | _, _, _ => False
  | .extract t i => (match evO e t with | some v => bnd (exV v i) fun v => K v h | none => False)
  | .makeMap _ r => (match r with | none => nmpV h K | some _ => False)
  | .mapUpdate t m k x => (match evO e m, evO e k, evO e x, mkeyK P t with | some m, some k, some x, some ik => bnd (mupV ik m k x h) fun h' => K undef h' | _, _, _, _ => False)
  | .insert t m k x => (match evO e m, evO e k, evO e x, mkeyK P t with | some m, some k, some x, some ik => bnd (mupV ik m k x h) fun h' => K undef h' | _, _, _, _ => False)
  | .lookup t m k ok =>
    match ok with
    | false => (match evO e m, evO e k, mkeyK P t with | some m, some k, some ik => bnd (mlkV ik m k h) fun v => K v h | _, _, _ => False)
    | true => False
  | .call c =>
    match c.callee with
    | .value f => (match evO e f, evL e c.args.toList with | some fv, some args => callV P fv args h K | _, _ => False)
    | .invoke r name => (match evO e r, evL e c.args.toList with | some rv, some args => ivV P rv name args h K | _, _ => False)
    | .builtin b => (match evL e c.args.toList with | some args => gbi P b c.argTypes args h K | none => False)
  | _ => False
structure ESub (e : GEnv) (tmps : Array Value) : Prop where
  val : ∀ i v, e i = .val v → tmps[i]? = some v
  skip : ∀ i, e i = .skip → tmps[i]? = some undef
theorem evO_sound {e : GEnv} {a : Act} (he : ESub e a.tmps) {x : Operand} {v : Value} (h : evO e x = some v) : a.eval x = v := by
  cases x with
  | tmp t =>
    simp only [evO] at h
    split at h
    · rename_i v' hv; cases h; simp [Act.eval, Array.getD_eq_getD_getElem?, he.val t _ hv]
    · cases h
  | const c => simp only [evO, Option.some.injEq] at h; exact h
  | global g => simp only [evO, Option.some.injEq] at h; exact h
  | func f => simp only [evO, Option.some.injEq] at h; exact h
theorem evL_sound {e : GEnv} {a : Act} (he : ESub e a.tmps) : ∀ {xs : List Operand} {vs : List Value}, evL e xs = some vs → xs.map a.eval = vs := by
  intro xs
  induction xs with
  | nil => intro vs h; simp [evL] at h; simp [h]
  | cons x xs ih =>
    intro vs h
    simp only [evL] at h
    split at h
    · rename_i h1 h2; cases h; simp [evO_sound he h1, ih h2]
    · cases h
theorem evM_sound {e : GEnv} {a : Act} (he : ESub e a.tmps) {x : Option Operand} {v : Option Value} (h : evM e x = some v) : x.map a.eval = v := by
  cases x with
  | none => simp [evM] at h; simp [h]
  | some x =>
    simp only [evM] at h
    split at h
    · rename_i h1; cases h; simp [evO_sound he h1]
    · cases h
theorem partsK_sound {e : GEnv} {a : Act} (he : ESub e a.tmps) (place : Nat → Option (Nat × Nat)) : ∀ {ps : List (Nat × Operand)} {l : List (Nat × Nat × Value)}, partsK place e ps = some l →
    let parts := ps.map fun (q : Nat × Operand) => (q.1, a.eval q.2)
    parts.map (fun q => ((place q.1).getD (0, 0)).1) = l.map (·.1) ∧ (∀ q ∈ parts, (place q.1).isSome) ∧ parts.map (fun q => ((place q.1).getD (0, 0)).2) = l.map (·.2.1) ∧ parts.map (·.2) = l.map (·.2.2) := by
  intro ps
  induction ps with
  | nil => intro l h; simp [partsK] at h; subst h; simp
  | cons q ps ih =>
    intro l h
    obtain ⟨i, o⟩ := q
    simp only [partsK] at h
    split at h
    · rename_i off sz v l' h1 h2 h3
      cases h
      obtain ⟨a1, a2, a3, a4⟩ := ih h3
      refine ⟨?_, ?_, ?_, ?_⟩
      · simpa [h1] using a1
      · intro q hq
        simp only [List.map_cons, List.mem_cons] at hq
        rcases hq with rfl | hq
        · simp [h1]
        · exact a2 q hq
      · simpa [h1] using a3
      · simpa [evO_sound he h2] using a4
    · cases h
def Out (P : Program) (r : Result Next) (h : GH) (w : World) (K : Value → GH → Prop) : Prop :=
  (∃ v w' h', r = .ok (.value v) w' ∧ Sub h' w' ∧ Step h w h' w' ∧ K v h') ∨
  (∃ w' h', r = .ok .skip w' ∧ Sub h' w' ∧ Step h w h' w' ∧ K undef h') ∨
  (∃ f args, r = .ok (.enter f args) w ∧ T P f args.toList h K)
theorem Out.val {P : Program} {r : Result Next} {h : GH} {w : World} {K : Value → GH → Prop} {v : Value} (hr : r = .ok (.value v) w) (s : Sub h w) (k : K v h) : Out P r h w K :=
  .inl ⟨v, w, h, hr, s, .refl _ _, k⟩
theorem Out.new {P : Program} {r : Result Next} {h : GH} {w : World} {K : Value → GH → Prop} {v : Value} {w' : World} {h' : GH} (hr : r = .ok (.value v) w') (s : Sub h' w') (st : Step h w h' w') (k : K v h') : Out P r h w K :=
  .inl ⟨v, w', h', hr, s, st, k⟩
def sgn (op : BinOp) (r : Bool) : Bool := match op with | .neq => !r | _ => r
section
variable {P : Program} {e : GEnv} {h : GH} {K : Value → GH → Prop} {a : Act} {w : World}
theorem eqP_agg {n : Nat} {t : TypeId} {x y : Value} {r : Bool} (h : eqP P (n + 1) t x y = some r) (hd : (∃ fs, P.underlying t = some (.struct fs)) ∨ (∃ k el, P.underlying t = some (.array k el))) : ∃ xs ys, x = .agg xs ∧ y = .agg ys := by
  rcases hd with ⟨fs, hd⟩ | ⟨k, el, hd⟩
  · simp only [eqP, hd] at h
    split at h
    · exact ⟨_, _, rfl, rfl⟩
    · cases h
  · simp only [eqP, hd] at h
    split at h
    · exact ⟨_, _, rfl, rfl⟩
    · cases h
theorem eqK_spec {k : NK} {c : Bool} {va vb : Value} {r : Bool} (hr : eqK k c va vb = some r) : eqN va vb = some r ∧ (∀ d, nkK d = some k → eqNKind d va = true) ∧
    (∀ op t x y w, (isC x || isC y) = c → (eqGuard op t x y va vb).run P w = .ok () w) := by
  have hkd : ∀ d, nkK d = some k → eqNKind d va = true := by
    intro d hk
    unfold eqK at hr
    cases d <;> simp only [nkK, Option.some.injEq, reduceCtorEq] at hk <;> subst hk <;> simp only at hr <;>
      (split at hr <;> first | rfl | (exfalso; simp_all; done))
  have hn : eqN va vb = some r := by
    unfold eqK at hr
    split at hr <;> first | exact hr | (cases c <;> simp_all [eqN])
  refine ⟨hn, hkd, ?_⟩
  intro op t x y w hc
  have hop : ∀ {u v : Value}, (∀ q : u = .nilIface ∧ v = .nilIface, False) → (∀ xs ys, ¬ (u = .agg xs ∧ v = .agg ys)) → (eqGuard op t x y u v).run P w = .ok () w := by
    intro u v h1 h2
    cases op <;> simp only [eqGuard] <;> (try rfl) <;> (cases u <;> first | rfl | (cases v <;> first | rfl | (exfalso; exact h1 ⟨rfl, rfl⟩) | (exfalso; exact h2 _ _ ⟨rfl, rfl⟩)))
  unfold eqK at hr
  split at hr <;> first
    | (refine hop (fun q => ?_) (fun xs ys q => ?_) <;> simp_all; done)
    | (cases c
       · simp at hr
       · simp only [Bool.or_eq_true, isC] at hc
         cases op <;> simp only [eqGuard] <;> (try rfl) <;> rcases hc with hc | hc <;> (cases x <;> cases y <;> first | rfl | (simp at hc; done)))
    | (exfalso; simp_all; done)
theorem run_binOp_nil {op : BinOp} (hop : op = .eql ∨ op = .neq) {t : TypeId} {va vb : Value} {r : Bool} (hn : eqN va vb = some r) (hrun : (Op.equal t va vb).run P w = .ok r w) :
    (binOp op t va vb).run P w = .ok (.bool (sgn op r)) w := by
  unfold eqN at hn
  split at hn <;> first
    | (rcases hop with rfl | rfl <;> simp only [binOp, Sem.run_bind, hrun, Result.andThen_ok, Sem.run_pure, sgn]; done)
    | cases hn
theorem run_equalIn_addr {n : Nat} {t e : TypeId} (hd : P.underlying t = some (.pointer e)) {x y : Addr} (hb : x.block = y.block) (hn : P.cellsOf e ≠ 0) (w : World) :
    (Op.equalIn (n + 1) t (.pointer (some x)) (.pointer (some y))).run P w = .ok (x == y) w := by
  have hi : ∃ i, P.info? e = some i := by
    cases h : P.info? e with
    | none => exfalso; apply hn; simp [Program.cellsOf, h]
    | some i => exact ⟨i, rfl⟩
  obtain ⟨i, hi⟩ := hi
  have hs : (sizeOf e).run P w = .ok (P.cellsOf e) w := by
    simp [sizeOf, typeInfo, hi, Program.cellsOf]
  simp [Op.equalIn, run_underlying hd, hs, hn, sameAddr, hb]
theorem run_equal_addr {t e : TypeId} (hd : P.underlying t = some (.pointer e)) {x y : Addr} (hb : x.block = y.block) (hn : P.cellsOf e ≠ 0) (w : World) :
    (Op.equal t (.pointer (some x)) (.pointer (some y))).run P w = .ok (x == y) w := run_equalIn_addr (n := 9999) hd hb hn w
theorem run_eq_addr {t e : TypeId} {op : BinOp} (hop : op = .eql ∨ op = .neq) (hd : P.underlying t = some (.pointer e)) {x y : Operand} {va vb : Value} {r : Bool} (hr : eqA (P.cellsOf e) va vb = some r) :
    (do eqGuard op t x y va vb; binOp op t va vb : Sem Value).run P w = .ok (.bool (sgn op r)) w := by
  unfold eqA at hr
  split at hr
  · rename_i p q
    split at hr
    · rename_i hc
      cases hr
      have hrun := run_equal_addr hd hc.1 hc.2 w
      rcases hop with rfl | rfl <;> simp [eqGuard, binOp, hrun, sgn]
    · cases hr
  · cases hr
    have hrun := run_equal_nil (x := .pointer none) (y := .pointer none) hd rfl rfl w
    rcases hop with rfl | rfl <;> simp [eqGuard, binOp, hrun, sgn]
  · rename_i q
    cases hr
    have hrun := run_equal_nil (x := .pointer none) (y := .pointer (some q)) hd rfl rfl w
    rcases hop with rfl | rfl <;> simp [eqGuard, binOp, hrun, sgn]
  · rename_i q
    cases hr
    have hrun := run_equal_nil (x := .pointer (some q)) (y := .pointer none) hd rfl rfl w
    rcases hop with rfl | rfl <;> simp [eqGuard, binOp, hrun, sgn]
  · cases hr
theorem run_eq_G {t : TypeId} {op : BinOp} (hop : op = .eql ∨ op = .neq) {x y : Operand} {va vb : Value} (hx : a.eval x = va) (hy : a.eval y = vb) {K : Bool → Prop}
    (g : eqG P t (isC x || isC y) va vb K) :
    ∃ r, K r ∧ ((do eqGuard op t x y va vb; binOp op t va vb : Sem Value).run P w = .ok (.bool (sgn op r)) w) := by
  unfold eqG at g
  split at g
  · obtain ⟨b, hv, g⟩ := bnd_iff.1 g
    refine ⟨b, g, ?_⟩
    have h2 : binV op va vb = some (.bool (sgn op b)) := by
      unfold eqI at hv
      split at hv
      · split at hv
        · rename_i hk
          cases hv
          rcases hop with rfl | rfl
          · simp only [binV, hk, if_true, intB, sgn]
          · simp only [binV, hk, if_true, intB, sgn, bne]
        · cases hv
      · cases hv
    simp [run_eqGuard_int h2, run_binOp_int h2]
  · rename_i hd
    split at g
    · rename_i hg
      obtain ⟨r, hr, g⟩ := bnd_iff.1 g
      have hrun : ∀ w, (Op.equal t va vb).run P w = .ok r w := run_eqP 10000 t va vb r hr
      refine ⟨r, g, ?_⟩
      obtain ⟨xs, ys, rfl, rfl⟩ := eqP_agg (n := 9999) hr (.inl ⟨_, hd⟩)
      rcases hop with rfl | rfl <;> simp only [Sem.run_bind, run_eqGuard_agg w _ t x y xs ys hg, Result.andThen_ok, binOp, hrun, Sem.run_pure, sgn]
    · exact g.elim
  · rename_i hd
    split at g
    · rename_i hg
      obtain ⟨r, hr, g⟩ := bnd_iff.1 g
      have hrun : ∀ w, (Op.equal t va vb).run P w = .ok r w := run_eqP 10000 t va vb r hr
      refine ⟨r, g, ?_⟩
      obtain ⟨xs, ys, rfl, rfl⟩ := eqP_agg (n := 9999) hr (.inr ⟨_, _, hd⟩)
      rcases hop with rfl | rfl <;> simp only [Sem.run_bind, run_eqGuard_agg w _ t x y xs ys hg, Result.andThen_ok, binOp, hrun, Sem.run_pure, sgn]
    · exact g.elim
  · rename_i e hd
    split at g
    · rename_i hc
      obtain ⟨r, hr, g⟩ := bnd_iff.1 g
      refine ⟨r, g, ?_⟩
      obtain ⟨hn, hkd, hguard⟩ := eqK_spec (P := P) hr
      have hrun := run_equal_nil hd (hkd (.pointer e) rfl) hn w
      have hguard := hguard op t x y w hc
      have hb : (binOp op t va vb).run P w = .ok (.bool (sgn op r)) w := run_binOp_nil hop hn hrun
      simp only [Sem.run_bind, hguard, Result.andThen_ok, hb]
    · obtain ⟨r, hr, g⟩ := bnd_iff.1 g
      exact ⟨r, g, run_eq_addr hop hd hr⟩
  · rename_i d hd1 hd2 hd3 hd4 hd
    split at g
    · rename_i k hk
      obtain ⟨r, hr, g⟩ := bnd_iff.1 g
      refine ⟨r, g, ?_⟩
      obtain ⟨hn, hkd, hguard⟩ := eqK_spec (P := P) hr
      have hrun := run_equal_nil hd (hkd d hk) hn w
      have hguard := hguard op t x y w rfl
      have hb : (binOp op t va vb).run P w = .ok (.bool (sgn op r)) w := run_binOp_nil hop hn hrun
      simp only [Sem.run_bind, hguard, Result.andThen_ok, hb]
    · exact g.elim
  · exact g.elim
end
section
variable {P : Program} {e : GEnv} {h : GH} {K : Value → GH → Prop} {a : Act} {w : World} {o : Oper}
theorem out_build {t : TypeId} {parts : Array (Nat × Operand)} (hop : o.op = .build t parts) (he : ESub e a.tmps) (s : Sub h w) (g : gop P (.build t parts) e h K) : Out P ((execOp a.eval o).run P w) h w K := by
  simp only [gop] at g
  split at g
  · rename_i fs hd
    split at g
    · rename_i z l hall hz hl
      obtain ⟨zv, rfl, hzr⟩ := zeroK_spec hz
      obtain ⟨cs, hf, g⟩ := bnd_iff.1 g
      obtain ⟨a1, a2, a3, a4⟩ := partsK_sound he (placeS P fs) hl
      refine .val (v := .agg cs.toArray) ?_ s g
      have hm : ∀ w, (fs.mapM fun f => (do pure (f.offset, ← sizeOf f.type) : Sem (Nat × Nat))).run P w = .ok (fs.map fun f => (f.offset, ((P.info? f.type).map (·.size)).getD 0)) w := by
        intro w
        rw [Array.mapM_eq_mapM_toList]
        have : ∀ (l : List Field), l.all (fun f => (P.info? f.type).isSome) = true → (l.mapM fun f => (do pure (f.offset, ← sizeOf f.type) : Sem (Nat × Nat))).run P w = .ok (l.map fun f => (f.offset, ((P.info? f.type).map (·.size)).getD 0)) w := by
          intro l
          induction l with
          | nil => intro _; simp
          | cons f l ih =>
            intro hl
            simp only [List.all_cons, Bool.and_eq_true] at hl
            obtain ⟨i, hi⟩ := Option.isSome_iff_exists.1 hl.1
            have ih' := ih hl.2
            simp only [List.mapM_cons, Sem.run_bind, sizeOf, typeInfo, run_program, Result.andThen_ok, hi, Sem.run_pure] at ih' ⊢
            rw [ih']
            simp [hi]
        rw [Sem.run_map, this _ hall]
        simp only [Result.andThen_ok, Result.ok.injEq, and_true]
        apply Array.ext'
        simp
      have hplace : ∀ i, placeS P fs i ≠ none → placeS P fs i = (fs.map fun f => (f.offset, ((P.info? f.type).map (·.size)).getD 0))[i]? := by
        intro i hne
        unfold placeS at hne ⊢
        cases hfi : fs[i]? with
        | none => simp [hfi] at hne
        | some f =>
          cases hif : P.info? f.type with
          | none => simp [hfi, hif] at hne
          | some j => simp [hfi, hif]
      have hfill : Instr.fill ((fs.map fun f => (f.offset, ((P.info? f.type).map (·.size)).getD 0))[·]?) zv.cells (parts.map fun (i, x) => (i, a.eval x)).toList = some cs.toArray := by
        refine fill_of_fillV _ _ l _ _ ?_ ?_ ?_ ?_ hf
        · rw [← a1]; simp only [Array.toList_map]; apply List.map_congr_left; intro q hq; have := a2 q (by simpa using hq); rw [← hplace _ (Option.isSome_iff_ne_none.1 this)]
        · intro q hq; have := a2 q (by simpa using hq); rw [← hplace _ (Option.isSome_iff_ne_none.1 this)]; exact this
        · rw [← a3]; simp only [Array.toList_map]; apply List.map_congr_left; intro q hq; have := a2 q (by simpa using hq); rw [← hplace _ (Option.isSome_iff_ne_none.1 this)]
        · rw [← a4]; simp
      simp only [execOp, hop, Instr.build, Sem.run_bind, hzr, Result.andThen_ok, run_underlying hd]
      rw [hm]
      simp only [Result.andThen_ok, hfill, Sem.run_pure]
    · exact g.elim
  · rename_i n el hd
    split at g
    · rename_i i z hi hz
      split at g
      · rename_i l hl
        obtain ⟨zv, rfl, hzr⟩ := zeroK_spec hz
        obtain ⟨cs, hf, g⟩ := bnd_iff.1 g
        obtain ⟨a1, a2, a3, a4⟩ := partsK_sound he _ hl
        refine .val (v := .agg cs.toArray) ?_ s g
        have hfill : Instr.fill (fun j => some (j * i.size, i.size)) zv.cells (parts.map fun (i, x) => (i, a.eval x)).toList = some cs.toArray := by
          refine fill_of_fillV _ _ l _ _ ?_ ?_ ?_ ?_ hf
          · rw [← a1]; simp
          · intro q hq; rfl
          · rw [← a3]; simp
          · rw [← a4]; simp
        simp only [execOp, hop, Instr.build, Sem.run_bind, hzr, Result.andThen_ok, run_underlying hd, sizeOf, typeInfo, run_program, hi, Sem.run_pure, hfill]
      · exact g.elim
    · exact g.elim
  · exact g.elim
theorem out_buildSlice {t : TypeId} {len : Nat} {parts : Array (Nat × Operand)} (hop : o.op = .buildSlice t len parts) (he : ESub e a.tmps) (s : Sub h w) (g : gop P (.buildSlice t len parts) e h K) : Out P ((execOp a.eval o).run P w) h w K := by
  simp only [gop] at g
  split at g
  · rename_i el hd
    split at g
    · rename_i i z hi hz
      split at g
      · rename_i l hl hc
        simp only [Bool.and_eq_true] at hc
        have c1 := Nat.le_of_ble_eq_true hc.1
        have c2 := Nat.eq_of_beq_eq_true hc.2
        obtain ⟨zv, rfl, hzr⟩ := zeroK_spec hz
        obtain ⟨cs, hf, g⟩ := bnd_iff.1 g
        obtain ⟨a1, a2, a3, a4⟩ := partsK_sound he _ hl
        simp only [Array.length_toList] at c2
        have hzero : ((Array.range (len * i.size)).map fun j => (if len * i.size = 0 then (#[] : Array Value) else zv.cells)[j % (if len * i.size = 0 then (#[] : Array Value) else zv.cells).size]!).toList = zerosV zv.cells.toList len := by
          by_cases h0 : len * i.size = 0
          · have hz0 : len * zv.cells.size = 0 := by rw [c2]; exact h0
            rw [← zeros_array, hz0, h0]; simp
          · simp only [h0, if_false]
            rw [← zeros_array, c2]
        have hfill : Instr.fill (fun j => some (j * i.size, i.size)) ((Array.range (len * i.size)).map fun j => (if len * i.size = 0 then (#[] : Array Value) else zv.cells)[j % (if len * i.size = 0 then (#[] : Array Value) else zv.cells).size]!) (parts.map fun (i, x) => (i, a.eval x)).toList = some cs.toArray := by
          refine fill_of_fillV _ _ l _ _ ?_ ?_ ?_ ?_ (by rw [hzero]; exact hf)
          · rw [← a1]; simp
          · intro q hq; rfl
          · rw [← a3]; simp
          · rw [← a4]; simp
        obtain ⟨s', st⟩ := sub_push s el cs.toArray cs (by simp)
        refine .new (v := .slice (some ⟨w.heap.size, 0, none⟩) len len) ?_ s' st ?_
        · simp only [execOp, hop, Instr.buildSlice, Sem.run_bind, run_underlying hd, Result.andThen_ok, sizeOf, typeInfo, run_program, hi, Sem.run_pure]
          rw [if_neg (by omega)]
          by_cases h0 : len * i.size = 0
          · simp only [h0, if_true] at hfill
            simp only [h0, if_true, Sem.run_pure, Result.andThen_ok, hfill, newRow, Sem.run_bind, run_newObj]
          · simp only [h0, if_false] at hfill
            simp only [h0, if_false, Sem.run_pure, Sem.run_bind, hzr, Result.andThen_ok, hfill, newRow, run_newObj]
        · have := g w.heap.size (s.fresh (Nat.le_refl _))
          simpa using this
      · exact g.elim
    · exact g.elim
  · exact g.elim
end
theorem Sub.weaken {h : GH} {w : World} {b : Nat} {T : TypeId} {pre pre' : List Value} {sz : Nat} {f : Bool} (s : Sub (upd h b (.row T pre sz f)) w) (hp : pre' <+: pre) : Sub (upd h b (.row T pre' sz f)) w := by
  intro k g hk
  by_cases hkb : k = b
  · subst hkb
    simp only [upd_same, Option.some.injEq] at hk
    subst hk
    obtain ⟨o, ho, hr⟩ := s k _ (upd_same _ _ _)
    refine ⟨o, ho, ?_⟩
    cases o with
    | cells c T' fr => obtain ⟨r1, r2, r3, r4⟩ := hr; exact ⟨r1, r2, hp.trans r3, r4⟩
    | _ => exact hr.elim
  · rw [upd_ne hkb] at hk
    exact s k g (by rw [upd_ne hkb]; exact hk)
theorem Step.weaken {h h0 : GH} {w w0 : World} {b : Nat} {T : TypeId} {pre pre' : List Value} {sz : Nat} {f : Bool} (s : Step h0 w0 (upd h b (.row T pre sz f)) w) : Step h0 w0 (upd h b (.row T pre' sz f)) w := by
  refine ⟨s.os, s.tape, s.output, s.size, s.old, fun k g' hk hlt => ?_⟩
  by_cases hkb : k = b
  · subst hkb
    simp only [upd_same, Option.some.injEq] at hk
    subst hk
    obtain ⟨g, hg, hf⟩ := s.dom k _ (upd_same _ _ _) hlt
    exact ⟨g, hg, hf⟩
  · rw [upd_ne hkb] at hk
    exact s.dom k g' (by rw [upd_ne hkb]; exact hk) hlt
theorem Sub.whole {h : GH} {w : World} (s : Sub h w) {b : Nat} {T : TypeId} {pre : List Value} {sz : Nat} (e : h b = some (.row T pre sz true)) :
    ∃ all, all.length = sz ∧ pre <+: all ∧ Sub (upd h b (.row T all sz true)) w ∧ Step h w (upd h b (.row T all sz true)) w := by
  obtain ⟨o, ho, hr⟩ := s b _ e
  cases o with
  | cells c T' fr =>
    obtain ⟨r1, r2, r3, r4⟩ := hr
    refine ⟨c.toList, by simpa using r2, r3, ?_, ?_⟩
    · intro k g hk
      by_cases hkb : k = b
      · subst hkb
        simp only [upd_same, Option.some.injEq] at hk
        subst hk
        exact ⟨.cells c T' fr, ho, r1, r2, List.prefix_refl _, r4⟩
      · rw [upd_ne hkb] at hk; exact s k g hk
    · refine ⟨rfl, rfl, rfl, Nat.le_refl _, fun _ _ _ => rfl, fun k g' hk _ => ?_⟩
      by_cases hkb : k = b
      · subst hkb; exact ⟨_, e, by simp [GObj.free]⟩
      · rw [upd_ne hkb] at hk; exact ⟨g', hk, id⟩
  | _ => exact hr.elim
theorem setCells_eq (vs : List Value) : ∀ (pre : List Value) (p : Nat), p + vs.length ≤ pre.length → setCells pre p vs = pre.take p ++ vs ++ pre.drop (p + vs.length) := by
  induction vs with
  | nil => intro pre p _; simp
  | cons v vs ih =>
    intro pre p hp
    simp only [List.length_cons] at hp
    rw [setCells_cons, ih _ _ (by simp; omega)]
    have h1 : (pre.set p v).take (p + 1) = pre.take p ++ [v] := by
      rw [List.take_add_one]
      rw [List.take_set, List.set_eq_of_length_le (by simp; omega)]
      simp [show p < pre.length by omega]
    have h2 : (pre.set p v).drop (p + 1 + vs.length) = pre.drop (p + (v :: vs).length) := by
      rw [List.drop_set_of_lt (by omega)]
      simp [Nat.add_assoc, Nat.add_comm 1]
    rw [h1, h2]; simp
theorem putL_prefix {pre all : List Value} (hp : pre <+: all) (p : Nat) (new : List Value) (h1 : p ≤ pre.length) (h2 : p + new.length ≤ all.length) : putL pre p new <+: setCells all p new := by
  rw [setCells_eq _ _ _ h2]
  obtain ⟨t, rfl⟩ := hp
  unfold putL
  rw [List.take_append_of_le_length h1]
  by_cases h3 : p + new.length ≤ pre.length
  · rw [List.drop_append_of_le_length h3]
    exact ⟨t, by simp⟩
  · rw [List.drop_eq_nil_of_le (by omega), List.append_nil]
    exact ⟨_, rfl⟩
section
variable {P : Program} {e : GEnv} {h : GH} {K : Value → GH → Prop} {a : Act} {w : World} {o : Oper}
theorem run_put {base : Option Addr} {p : Nat} {new : List Value} {h' : GH} (s : Sub h w) (hp : putV base p new h = some h') :
    ∃ w', ((match base with | some a => storeCells (a.add p) new | none => pure ()) : Sem Unit).run P w = .ok () w' ∧ Sub h' w' ∧ Step h w h' w' := by
  unfold putV at hp
  split at hp
  · cases hp
    refine ⟨w, ?_, s, .refl _ _⟩
    cases base <;> simp [storeCells]
  · split at hp
    · rename_i b off
      split at hp
      · rename_i T pre sz he
        split at hp
        · rename_i hc
          simp only [Bool.and_eq_true] at hc
          have c1 := Nat.le_of_ble_eq_true hc.1
          have c2 := Nat.le_of_ble_eq_true hc.2.1
          cases hp
          obtain ⟨all, l1, l2, s1, st1⟩ := s.whole he
          obtain ⟨w', hr, s2, st2⟩ := run_storeCells (P := P) new _ w s1 b T all sz (upd_same _ _ _) (off + p) 0 (by omega) hc.2.2
          have ha : (⟨b, off, none⟩ : Addr).add p = ⟨b, off + p, none⟩ := by
            unfold Addr.add; split
            · subst_vars; simp
            · rfl
          rw [upd_upd] at s2 st2
          refine ⟨w', by simpa [ha] using hr, s2.weaken ?_, (st1.trans st2).weaken⟩
          simpa using putL_prefix l2 (off + p) new c1 (by omega)
        · cases hp
      · cases hp
    · cases hp
theorem run_cells {size n : Nat} {v : Value} {cs : List Value} (s : Sub h w) (hc : cellsAt size n v h = some cs) : (Builtin.firstCells size n v).run P w = .ok cs.toArray w := by
  unfold cellsAt at hc
  split at hc
  · cases hc; simp [Builtin.firstCells]
  · split at hc
    · rename_i h0
      have h0 := Nat.eq_of_beq_eq_true h0
      cases hc; simp [Builtin.firstCells, h0, loadCells, loadCellsFrom]
    · split at hc
      · cases hc
      · split at hc
        · rename_i T pre sz f he
          split at hc
          · rename_i hl
            cases hc
            simp only [Builtin.firstCells]
            exact run_loadCells s he _ _ (Nat.le_of_ble_eq_true hl)
          · cases hc
        · cases hc
  · cases hc
theorem run_append {t t2 el : TypeId} {i : TypeInfo} {z : List Value} {sv x : Value} (ht : P.underlying t = some (.slice el)) {e2 : TypeId} (ht2 : P.underlying t2 = some (.slice e2)) (hi : P.info? el = some i) (hz : zeroK P el = some z)
    (hl : z.length = i.size) (s : Sub h w) (g : apV el i.size i.bytes sv x h K) (ty : TypeId) :
    ∃ v w' h', (Builtin.append_ #[t, t2] ty #[sv, x]).run P w = .ok v w' ∧ Sub h' w' ∧ Step h w h' w' ∧ K v h' := by
  unfold apV at g
  split at g
  · rename_i base sl sc xb n xc
    obtain ⟨new, hnew, g⟩ := bnd_iff.1 g
    have hnewr := fun w (s : Sub h w) => run_cells (P := P) s hnew
    by_cases hle : sl + n ≤ sc
    · rw [if_pos hle] at g
      obtain ⟨h', hp, g⟩ := bnd_iff.1 g
      obtain ⟨w', hr, s', st⟩ := run_put (P := P) s hp
      refine ⟨_, w', h', ?_, s', st, g⟩
      simp only [Builtin.append_, List.getElem?_toArray, List.getElem?_cons_zero, List.getElem?_cons_succ, Sem.run_bind, run_underlying ht, run_underlying ht2, Result.andThen_ok, sizeOf, typeInfo, run_program, hi, Sem.run_pure,
        Builtin.lenOf, hle, if_true, hnewr w s, Bool.false_eq_true, if_false, Bool.not_false]
      cases base with
      | none => simp only [Sem.run_pure, Result.ok.injEq, true_and] at hr ⊢; simp only [hr]
      | some a => simp only [Sem.run_bind] at hr ⊢; simp only [hr, Result.andThen_ok, Sem.run_pure]
    · rw [if_neg hle] at g
      obtain ⟨old, hold, g⟩ := bnd_iff.1 g
      obtain ⟨hb, hmax, lo, ln, g⟩ := g
      have holdr := fun w (s : Sub h w) => run_cells (P := P) s hold
      obtain ⟨zv, rfl, hzr⟩ := zeroK_spec hz
      have hfit := growslice_fits (need := sl + n) (old := sc) (bytes := i.bytes) (by omega) hb
      generalize hnc : (Question.appendCap (sl + n) sc el).cut (w.tape w.drawn (Question.appendCap (sl + n) sc el)) = nc
      have hcap : sl + n ≤ nc := by subst hnc; simp only [Question.cut]; omega
      obtain ⟨s1, st1⟩ := sub_drew s (w.drawn + 1)
      have hsz : (old.toArray ++ new.toArray ++ Builtin.zeroCells zv.cells (nc - (sl + n))).size = nc * i.size := by
        simp only [Array.size_append, List.size_toArray, lo, ln, size_zeroCells]
        simp only [Array.length_toList] at hl
        rw [hl, ← Nat.add_mul, ← Nat.add_mul]
        congr 1; omega
      obtain ⟨s2, st2⟩ := sub_push s1 el (old.toArray ++ new.toArray ++ Builtin.zeroCells zv.cells (nc - (sl + n))) (old ++ new) (by simp)
      rw [hsz] at s2 st2
      refine ⟨_, _, _, ?_, s2, st1.trans st2, g _ nc (s.fresh (Nat.le_refl _)) hcap⟩
      have hq : ¬ (((sl + n : Nat) : Int) > IntKind.i64.max ∧ (False ∨ i.bytes = 0)) := by
        have : IntKind.i64.max = 9223372036854775807 := by decide
        rw [this]; omega
      simp only [Builtin.append_, List.getElem?_toArray, List.getElem?_cons_zero, List.getElem?_cons_succ, Sem.run_bind, run_underlying ht, run_underlying ht2, Result.andThen_ok, sizeOf, typeInfo, run_program, hi, Sem.run_pure,
        Builtin.lenOf, hle, if_false, Bool.false_eq_true, Bool.not_false, if_true]
      rw [if_neg hq]
      simp only [Sem.run_bind, run_program, Result.andThen_ok, hi, Sem.run_pure]
      rw [if_neg (by omega)]
      simp only [Sem.run_bind, run_choose, Question.forced, Bool.false_eq_true, if_false, Result.andThen_ok, hnc, run_askRoom, holdr _ s1, hnewr _ s1, hzr, newRow, run_newObj, Sem.run_pure]
      simp only [run_program, Result.andThen_ok, hi, Sem.run_pure, holdr _ s1, hnewr _ s1]
  · exact g.elim
end
section
variable {P : Program} {e : GEnv} {h : GH} {K : Value → GH → Prop} {a : Act} {w : World} {o : Oper}
theorem Addr.add_plain (b off n : Nat) : (⟨b, off, none⟩ : Addr).add n = ⟨b, off + n, none⟩ := by
  unfold Addr.add; split
  · subst_vars; simp
  · rfl
theorem run_sliceBounds {sl : Bool} {len cap : Nat} {lo hi : Option Value} {x y : Nat} (hh : sbV hi cap len = some x) (hl : sbV lo x 0 = some y) (w : World) :
    (Instr.sliceBounds sl len cap lo hi none).run P w = .ok (y, x, cap) w := by
  have h1 : ∀ w, (match hi with | some v => Instr.sliceBound v cap (if sl then .sliceAcap else .sliceAlen) | none => (pure len : Sem Nat)).run P w = .ok x w := by
    intro w
    unfold sbV at hh
    split at hh
    · cases hh; simp
    · rename_i k i
      split at hh
      · rename_i hc; cases hh; simp [Instr.sliceBound, asIntOf, hc]
      · cases hh
    · cases hh
  have h2 : ∀ w, (match lo with | some v => Instr.sliceBound v x (if (none : Option Value).isSome then .slice3C else .sliceB) | none => (pure 0 : Sem Nat)).run P w = .ok y w := by
    intro w
    unfold sbV at hl
    split at hl
    · cases hl; simp
    · rename_i k i
      split at hl
      · rename_i hc; cases hl; simp [Instr.sliceBound, asIntOf, hc]
      · cases hl
    · cases hl
  have h1' := h1 w
  have h2' := h2 w
  unfold Instr.sliceBounds
  cases hi <;> cases lo <;> simp_all
theorem out_slice {t : TypeId} {x : Operand} {lo hi : Option Operand} (hop : o.op = .slice t x lo hi none) (he : ESub e a.tmps) (s : Sub h w) (g : gop P (.slice t x lo hi none) e h K) : Out P ((execOp a.eval o).run P w) h w K := by
  simp only [gop] at g
  split at g
  · rename_i v lo' hi' el hx hlo hhi hd
    split at g
    · rename_i i hi
      obtain ⟨r, hr, g⟩ := bnd_iff.1 g
      unfold slV at hr
      split at hr
      · rename_i b len cap
        split at hr
        · rename_i p hp
          split at hr
          · rename_i q hq
            cases hr
            refine .val (v := _) ?_ s g
            simp only [execOp, hop, Option.map_none, evO_sound he hx, evM_sound he hlo, evM_sound he hhi, Instr.sliceAt, Sem.run_bind, run_underlying hd, Result.andThen_ok, Instr.slice, run_sliceBounds hp hq, sizeOf, typeInfo, run_program, hi, Sem.run_pure]
          · cases hr
        · cases hr
      · cases hr
    · exact g.elim
  · rename_i v lo' hi' n el hx hlo hhi hd
    split at g
    · rename_i i hi
      obtain ⟨r, hr, g⟩ := bnd_iff.1 g
      unfold saV at hr
      split at hr
      · rename_i b
        split at hr
        · rename_i p hp
          split at hr
          · rename_i q hq
            cases hr
            refine .val (v := _) ?_ s g
            simp only [execOp, hop, Option.map_none, evO_sound he hx, evM_sound he hlo, evM_sound he hhi, Instr.sliceAt, Instr.sureAddr, Sem.run_bind, run_underlying hd, Result.andThen_ok, run_sliceBounds hp hq, sizeOf, typeInfo, run_program, hi, Sem.run_pure]
          · cases hr
        · cases hr
      · cases hr
    · exact g.elim
  · exact g.elim
theorem out_makeSlice {t : TypeId} {l c : Operand} (hop : o.op = .makeSlice t l c) (he : ESub e a.tmps) (s : Sub h w) (g : gop P (.makeSlice t l c) e h K) : Out P ((execOp a.eval o).run P w) h w K := by
  simp only [gop] at g
  split at g
  · rename_i lv cv el hl hc hd
    split at g
    · rename_i i z hi hz
      split at g
      · rename_i hzl
        have hzl := Nat.eq_of_beq_eq_true hzl
        obtain ⟨zv, rfl, hzr⟩ := zeroK_spec hz
        simp only [Array.length_toList] at hzl
        unfold mkV at g
        split at g
        · rename_i k1 l k2 c
          obtain ⟨g1, g2, g3, g4, g⟩ := g
          have hlw : IntKind.i64.wrap l = l := by unfold IntKind.wrap; simp [IntKind.bits, IntKind.signed]; omega
          have hcw : IntKind.i64.wrap c = c := by unfold IntKind.wrap; simp [IntKind.bits, IntKind.signed]; omega
          have hz2 : (if c.toNat * i.size = 0 then (#[] : Array Value) else zv.cells).size = i.size ∨ c.toNat * i.size = 0 := by
            by_cases h0 : c.toNat * i.size = 0
            · exact .inr h0
            · left; rw [if_neg h0]; exact hzl
          have hzero : ((Array.range (c.toNat * i.size)).map fun j => (if c.toNat * i.size = 0 then (#[] : Array Value) else zv.cells)[j % (if c.toNat * i.size = 0 then (#[] : Array Value) else zv.cells).size]!).toList = zerosV zv.cells.toList c.toNat := by
            by_cases h0 : c.toNat * i.size = 0
            · have hz0 : c.toNat * zv.cells.size = 0 := by rw [hzl]; exact h0
              rw [← zeros_array, hz0, h0]; simp
            · simp only [h0, if_false]
              rw [← zeros_array, hzl]
          obtain ⟨s', st⟩ := sub_push s el ((Array.range (c.toNat * i.size)).map fun j => (if c.toNat * i.size = 0 then (#[] : Array Value) else zv.cells)[j % (if c.toNat * i.size = 0 then (#[] : Array Value) else zv.cells).size]!) (zerosV zv.cells.toList c.toNat) (by rw [hzero]; exact List.prefix_refl _)
          refine .new (v := .slice (some ⟨w.heap.size, 0, none⟩) l.toNat c.toNat) ?_ s' st ?_
          · simp only [execOp, hop, evO_sound he hl, evO_sound he hc, Instr.makeSlice, Sem.run_bind, run_underlying hd, Result.andThen_ok, asInt, asIntOf, Sem.run_pure, typeInfo, run_program, hi, hlw, hcw, sizeOf]
            have hbig : (decide (c < 0) || decide ((i.bytes : Int) * c > 2 ^ 48)) = false := by simp; omega
            have hcond : ¬ ((decide (c < 0) || decide ((i.bytes : Int) * c > 2 ^ 48)) = true ∨ False) := by simp; omega
            simp only [hbig, Bool.false_eq_true, Bool.false_or, Bool.or_eq_true, decide_eq_true_eq, false_or]
            rw [if_neg (by omega)]
            simp only [Sem.run_bind, run_askRoom, Result.andThen_ok, run_program, hi, Sem.run_pure]
            by_cases h0 : c.toNat * i.size = 0
            · simp only [h0, if_true, Sem.run_pure, Result.andThen_ok, newRow, Sem.run_bind, run_newObj]
            · simp only [h0, if_false, hzr, Sem.run_bind, Sem.run_pure, Result.andThen_ok, newRow, run_newObj]
          · have := g w.heap.size (s.fresh (Nat.le_refl _))
            have hsz : ((Array.range (c.toNat * i.size)).map fun j => (if c.toNat * i.size = 0 then (#[] : Array Value) else zv.cells)[j % (if c.toNat * i.size = 0 then (#[] : Array Value) else zv.cells).size]!).size = (zerosV zv.cells.toList c.toNat).length := by rw [← hzero]; simp
            rw [hsz]; exact this
        · exact g.elim
      · exact g.elim
    · exact g.elim
  · exact g.elim
end
section
variable {P : Program} {h : GH} {w : World} {K : Value → GH → Prop}
theorem run_usd {v r : Value} {ts : Array TypeId} {ty : TypeId} (hv : usdV v = some r) : (Builtin.unsafeSliceData_ ts ty #[v]).run P w = .ok r w := by
  unfold usdV at hv
  split at hv
  · cases hv; rfl
  · rename_i a _ c
    split at hv
    · cases hv
    · rename_i hc
      cases hv
      have hc : c ≠ 0 := by rintro rfl; cases hc
      show Sem.run P (if c ≠ 0 then (pure (.pointer (some a)) : Sem Value) else _) w = _
      rw [if_pos hc]; rfl
  · cases hv
theorem sub_freeze (s : Sub h w) {b : Nat} {T : TypeId} {pre : List Value} {sz : Nat} (e : h b = some (.row T pre sz true)) (off n : Nat) :
    Sub (upd h b (.row T pre sz false)) (w.freeze ⟨b, off, none⟩ n) ∧ Step h w (upd h b (.row T pre sz false)) (w.freeze ⟨b, off, none⟩ n) := by
  obtain ⟨o, ho, hr⟩ := s b _ e
  have hb : b < w.heap.size := s.lt e
  cases o with
  | cells c T' fr =>
    obtain ⟨rfl, rfl, hp, _⟩ := hr
    by_cases hn : n = 0
    · rw [World.freeze, if_pos hn]
      refine ⟨fun k g hk => ?_, rfl, rfl, rfl, Nat.le_refl _, fun _ _ _ => rfl, fun k g' hk hlt => ?_⟩
      · by_cases hkb : k = b
        · subst hkb
          simp only [upd_same, Option.some.injEq] at hk
          subst hk
          exact ⟨_, ho, rfl, rfl, hp, fun hf => by cases hf⟩
        · rw [upd_ne hkb] at hk; exact s k g hk
      · by_cases hkb : k = b
        · subst hkb
          simp only [upd_same, Option.some.injEq] at hk
          subst hk
          exact ⟨_, e, fun _ => rfl⟩
        · rw [upd_ne hkb] at hk; exact ⟨_, hk, id⟩
    · rw [World.freeze, if_neg hn]
      refine ⟨fun k g hk => ?_, rfl, rfl, rfl, by simp, fun k hk hfr => ?_, fun k g' hk hlt => ?_⟩
      · by_cases hkb : k = b
        · subst hkb
          simp only [upd_same, Option.some.injEq] at hk
          subst hk
          simp only [Array.getElem?_modify, ho, if_true, Option.map_some, Option.some.injEq, exists_eq_left']
          exact ⟨rfl, rfl, hp, fun hf => by cases hf⟩
        · rw [upd_ne hkb] at hk
          obtain ⟨o', ho', hr'⟩ := s k g hk
          refine ⟨o', ?_, hr'⟩
          simp only [Array.getElem?_modify]
          rw [if_neg (fun q => hkb q.symm)]; exact ho'
      · by_cases hkb : k = b
        · subst hkb; have := hfr _ e; simp [GObj.free] at this
        · simp only [Array.getElem?_modify]; rw [if_neg (fun q => hkb q.symm)]
      · by_cases hkb : k = b
        · subst hkb
          simp only [upd_same, Option.some.injEq] at hk
          subst hk
          exact ⟨_, e, fun _ => rfl⟩
        · rw [upd_ne hkb] at hk; exact ⟨_, hk, id⟩
  | _ => exact hr.elim
theorem run_loadBytes (s : Sub h w) {b : Nat} {T : TypeId} {pre : List Value} {sz : Nat} {f : Bool} (e : h b = some (.row T pre sz f)) : ∀ (n off : Nat) (acc : ByteArray) (l : List UInt8),
    off + n ≤ pre.length → bytesL ((pre.drop off).take n) = some l → (loadBytes ⟨b, off, none⟩ acc n).run P w = .ok ⟨acc.data ++ l.toArray⟩ w := by
  intro n
  induction n with
  | zero => intro off acc l _ hl; simp only [List.take_zero, bytesL, Option.some.injEq] at hl; subst hl; simp [loadBytes]
  | succ n ih =>
    intro off acc l hle hl
    have hlt : off < pre.length := by omega
    rw [List.drop_eq_getElem_cons hlt, List.take_succ_cons] at hl
    cases hv : pre[off] with
    | int k m =>
      rw [hv] at hl
      cases k <;> simp only [bytesL, reduceCtorEq] at hl
      split at hl
      · rename_i l' hl'
        cases hl
        have := ih (off + 1) (acc.push m.toNat.toUInt8) l' (by omega) hl'
        have hc : w.cell? ⟨b, off, none⟩ = some (.int .u8 m) := cell?_of_row s e (by rw [List.getElem?_eq_getElem hlt, hv])
        simp only [loadBytes, Sem.run_bind, load, Sem.run, hc, Result.andThen_ok]
        rw [Addr.add_plain, this]
        simp [ByteArray.push]
      · cases hl
    | _ => rw [hv] at hl; simp [bytesL] at hl
theorem run_us {pt : TypeId} {p n : Value} {r : Value × GH} {ts : Array TypeId} {ty : TypeId} (ht : ts[0]? = some pt) (s : Sub h w) (hu : usV P pt p n h = some r) :
    ∃ w', (Builtin.unsafeString_ ts ty #[p, n]).run P w = .ok r.1 w' ∧ Sub r.2 w' ∧ Step h w r.2 w' := by
  have hmax : IntKind.i64.max = 9223372036854775807 := by decide
  unfold usV at hu
  split at hu
  · rename_i k m
    split at hu
    · rename_i hm
      have hm : m = 0 := by simpa using hm
      cases hu; subst hm
      refine ⟨w, ?_, s, .refl _ _⟩
      show Sem.run P (asInt (.int k 0) >>= _) w = _
      simp [asInt, asIntOf, ht, hmax]
    · cases hu
  · rename_i b off k m
    split at hu
    · rename_i u T pre sz hd he
      split at hu
      · rename_i hc
        simp only [Bool.and_eq_true, decide_eq_true_eq] at hc
        obtain ⟨h0, hM, hl, hli⟩ := hc
        split at hu
        · rename_i l hb
          cases hu
          obtain ⟨s1, st1⟩ := sub_freeze s he off m.toNat
          refine ⟨_, ?_, s1, st1⟩
          have hlb := run_loadBytes (P := P) s he m.toNat off .empty l (Nat.le_of_ble_eq_true hl) hb
          have hli' : (variablesAt ⟨b, off, none⟩ u m.toNat).run P w = .ok true w := by
            simp only [variablesAt, Sem.run_bind, run_program, Result.andThen_ok, shape, Sem.run, shape_of_row s he, hli]
            rfl
          have hq : ¬ m < 0 := by omega
          have hq2 : ¬ m > IntKind.i64.max := by rw [hmax]; omega
          have hq3 : ¬ m = 0 := by omega
          show Sem.run P (asInt (.int k m) >>= _) w = _
          simp only [Sem.run_bind, asInt, asIntOf, Sem.run_pure, Result.andThen_ok, ht, hq, hq2, hq3, if_false, elemOf, run_underlying hd, hli', if_true, hlb, freeze, Sem.run]
          simp
        · cases hu
      · cases hu
    · cases hu
  · cases hu
theorem usV_upd {pt : TypeId} {p n : Value} {r : Value × GH} {b : Nat} {g : GObj} (hb : h b = none) (hu : usV P pt p n h = some r) : r.2 b = none ∧ usV P pt p n (upd h b g) = some (r.1, upd r.2 b g) := by
  unfold usV at hu ⊢
  split at hu
  · rename_i k m
    split at hu
    · rename_i hm; cases hu; exact ⟨hb, by simp only [hm]⟩
    · cases hu
  · rename_i b' off k m
    split at hu
    · rename_i u T pre sz hd he
      have hkb := ne_of_fresh hb he
      split at hu
      · rename_i hc
        split at hu
        · rename_i l hl
          cases hu
          refine ⟨by show upd h b' _ b = none; rw [upd_ne (Ne.symm hkb)]; exact hb, ?_⟩
          simp only [hd, upd_ne hkb, he, hc, hl]
          rw [upd_comm _ _ _ (Ne.symm hkb)]
        · cases hu
      · cases hu
    · cases hu
  · cases hu
end
section
variable {P : Program} {e : GEnv} {h : GH} {K : Value → GH → Prop} {a : Act} {w : World} {o : Oper}
theorem run_nc {v r : Value} (hr : ncV v = some r) {x : Operand} (hx : a.eval x = v) (hop : o.op = .nilCheck x) : (execOp a.eval o).run P w = .ok (.value r) w := by
  unfold ncV at hr
  split at hr <;> first
    | (cases hr; done)
    | (cases hr
       simp only [execOp, hop, hx]
       first
         | rfl
         | (split <;> first
             | (exfalso; simp_all; done)
             | rfl))
theorem run_fieldAt {st : TypeId} {f off n : Nat} {g : Bool} (hf : fieldK P st f = some (off, n, g)) (hn : Nat.beq n 0 = false) {p v : Value} (hv : faV off p = some v) : (Instr.fieldAt st p f).run P w = .ok v w := by
  unfold fieldK at hf
  split at hf
  · rename_i fs hd
    split at hf
    · rename_i fd hfd
      split at hf
      · rename_i n' g' hs
        cases hf
        obtain ⟨d, i, hd', hi, hsz, _⟩ := szK_spec hs
        have hn' : i.size ≠ 0 := by rw [hsz]; intro h0; subst h0; simp at hn
        unfold faV at hv
        split at hv
        · rename_i b o
          cases hv
          simp [Instr.fieldAt, run_underlying hd, hfd, Instr.sureAddr, fieldPlace, sizeOf, typeInfo, hi, hn', Addr.add_plain]
        · cases hv
      · cases hf
    · cases hf
  · cases hf
theorem run_field {st : TypeId} {f off n : Nat} {g : Bool} (hf : fieldK P st f = some (off, n, g)) {p v : Value} (hv : fdV off n g p = some v) : (Instr.field st p f).run P w = .ok v w := by
  unfold fieldK at hf
  split at hf
  · rename_i fs hd
    split at hf
    · rename_i fd hfd
      split at hf
      · rename_i n' g' hs
        cases hf
        obtain ⟨d, i, hd', hi, hsz, ha⟩ := szK_spec hs
        unfold fdV at hv
        split at hv
        · rename_i cs
          cases g with
          | true => cases hv; simp [Instr.field, run_underlying hd, hfd, asAgg, part, ha, sizeOf, typeInfo, hi, hsz]
          | false => simp only at hv; simp [Instr.field, run_underlying hd, hfd, asAgg, part, ha, hv]
        · cases hv
      · cases hf
    · cases hf
  · cases hf
theorem run_mm {mx : Bool} : ∀ (r : List Value) (x v : Value), mmV mx x r = some v → (r.foldlM (match mx with | true => Builtin.max2 | false => Builtin.min2) x : Sem Value).run P w = .ok v w := by
  intro r
  induction r with
  | nil => intro x v h; simp [mmV] at h; simp [h]
  | cons y r ih =>
    intro x v h
    simp only [mmV] at h
    split at h
    · rename_i z hz
      unfold m2V at hz
      split at hz
      · cases hz
        have := ih _ _ h
        cases mx <;> simp [Builtin.max2, Builtin.min2] at this ⊢ <;> exact this
      · cases hz
    · cases h
theorem run_callFunc {f : FuncId} (hf : Has P f) (args : Array Value) (w : World) : (callFunc f args).run P w = .ok (.enter f args) w := by
  obtain ⟨fn, h1, h2, h3⟩ := hf
  simp only [callFunc, Sem.run_bind, run_program, Result.andThen_ok, h1, h2, h3, Bool.false_eq_true, if_false, Sem.run_pure]
theorem out_callV {c : Call} {f : Operand} {fv : Value} {args : List Value} (hop : o.op = .call c) (hc : c.callee = .value f) (hf : a.eval f = fv) (ha : c.args.toList.map a.eval = args) (s : Sub h w)
    (g : callV P fv args h K) : Out P ((execOp a.eval o).run P w) h w K := by
  unfold callV at g
  split at g
  · rename_i fn first cap
    refine .inr (.inr ⟨fn, first ++ args.toArray ++ cap, ?_, by simpa using g⟩)
    have hm : c.args.map a.eval = args.toArray := by rw [← ha]; apply Array.ext'; simp
    simp only [execOp, hop, resolve, hc, hf, Sem.run_bind, Deferred.ofValue, Sem.run_pure, Result.andThen_ok, invoke, hm]
    exact run_callFunc g.has _ w
  · exact g.elim
theorem out_ivV {c : Call} {r : Operand} {name : String} {rv : Value} {args : List Value} (hop : o.op = .call c) (hc : c.callee = .invoke r name) (hf : a.eval r = rv) (ha : c.args.toList.map a.eval = args) (s : Sub h w)
    (g : ivV P rv name args h K) : Out P ((execOp a.eval o).run P w) h w K := by
  unfold ivV at g
  split at g
  · rename_i ty v
    obtain ⟨f, r, hm, t⟩ := g
    refine .inr (.inr ⟨f, #[r] ++ args.toArray, ?_, by simpa using t⟩)
    have hm2 : c.args.map a.eval = args.toArray := by rw [← ha]; apply Array.ext'; simp
    have hx : (#[(Value.iface ty v : Value)] ++ args.toArray)[0]? = some (.iface ty v) := by simp
    have hy : ((#[(Value.iface ty v : Value)] ++ args.toArray).extract 1 (#[(Value.iface ty v : Value)] ++ args.toArray).size) = args.toArray := by
      apply Array.ext'; simp
    simp only [execOp, hop, resolve, hc, hf, Sem.run_bind, Sem.run_pure, Result.andThen_ok, invoke, hm2, hx, hy, callMethod, run_program, hm]
    exact run_callFunc t.has _ w
  · exact g.elim
theorem out_gbi {c : Call} {b : Builtin} {args : List Value} (hop : o.op = .call c) (hc : c.callee = .builtin b) (hm : c.args.map a.eval = args.toArray) (s : Sub h w) (g : gbi P b c.argTypes args h K) : Out P ((execOp a.eval o).run P w) h w K := by
  unfold gbi at g
  split at g
  · rename_i v
    split at g
    · rename_i t ht
      split at g
      · rename_i el hd
        obtain ⟨r, hr, g⟩ := bnd_iff.1 g
        refine .val (v := r) ?_ s g
        unfold lnV at hr
        split at hr
        · cases hr
          simp [execOp, hop, resolve, hc, invoke, builtin, hm, Builtin.len_, ht, run_underlying hd, goInt]
        · cases hr
      · rename_i n el hd
        refine .val ?_ s g
        simp [execOp, hop, resolve, hc, invoke, builtin, hm, Builtin.len_, ht, run_underlying hd, goInt]
      · exact g.elim
    · exact g.elim
  · rename_i sv x
    split at g
    · rename_i t t2 ht ht2
      split at g
      · rename_i el e2 hd hd2
        split at g
        · rename_i i z hi hz
          split at g
          · rename_i hl
            have hl := Nat.eq_of_beq_eq_true hl
            obtain ⟨v, w', h', hr, s', st, k⟩ := run_append hd hd2 hi hz hl s g o.type
            refine .new (v := v) ?_ s' st k
            have hsame : (Builtin.append_ c.argTypes o.type #[sv, x]).run P w = (Builtin.append_ #[t, t2] o.type #[sv, x]).run P w := by
              simp only [Builtin.append_, ht, ht2, List.getElem?_toArray, List.getElem?_cons_zero, List.getElem?_cons_succ]
            simp only [execOp, hop, resolve, hc, invoke, builtin, hm, Sem.run_bind, Sem.run_pure, Result.andThen_ok, hsame, hr]
          · exact g.elim
        · exact g.elim
      · exact g.elim
    · exact g.elim
  · rename_i x r
    obtain ⟨v, hv, g⟩ := bnd_iff.1 g
    refine .val (v := v) ?_ s g
    simp only [execOp, hop, resolve, hc, invoke, builtin, hm, Sem.run_bind, Sem.run_pure, Result.andThen_ok, Builtin.min_, run_mm (mx := false) r x v hv]
  · rename_i x r
    obtain ⟨v, hv, g⟩ := bnd_iff.1 g
    refine .val (v := v) ?_ s g
    simp only [execOp, hop, resolve, hc, invoke, builtin, hm, Sem.run_bind, Sem.run_pure, Result.andThen_ok, Builtin.max_, run_mm (mx := true) r x v hv]
  · rename_i v
    obtain ⟨r, hv, g⟩ := bnd_iff.1 g
    refine .val (v := r) ?_ s g
    simp only [execOp, hop, resolve, hc, invoke, builtin, hm, Sem.run_bind, Sem.run_pure, Result.andThen_ok, run_usd hv]
  · rename_i p n
    split at g
    · rename_i pt ht
      obtain ⟨r, hv, g⟩ := bnd_iff.1 g
      obtain ⟨w', hr, s', st⟩ := run_us (P := P) (ty := o.type) ht s hv
      refine .new (v := r.1) ?_ s' st g
      simp only [execOp, hop, resolve, hc, invoke, builtin, hm, Sem.run_bind, Sem.run_pure, Result.andThen_ok, hr]
    · exact g.elim
  · exact g.elim
theorem obj_at (s : Sub h w) {b : Nat} {ob : Obj} (e : h b = some (.obj ob)) : w.heap[b]? = some ob := by
  obtain ⟨o', ho, hr⟩ := s b _ e
  rw [ho, ← hr.1]
theorem sub_obj (s : Sub h w) {b : Nat} {ob ob' : Obj} (e : h b = some (.obj ob)) (nc : ∀ c T f, ob' ≠ .cells c T f) :
    Sub (upd h b (.obj ob')) { w with heap := w.heap.setIfInBounds b ob' } ∧ Step h w (upd h b (.obj ob')) { w with heap := w.heap.setIfInBounds b ob' } := by
  have hlt := s.lt e
  constructor
  · intro k g hk
    by_cases hkb : k = b
    · subst hkb
      simp only [upd_same, Option.some.injEq] at hk
      subst hk
      exact ⟨ob', by simp [hlt], rfl, nc⟩
    · rw [upd_ne hkb] at hk
      obtain ⟨o', ho', hr'⟩ := s k g hk
      exact ⟨o', by simp only [Array.getElem?_setIfInBounds]; rw [if_neg (Ne.symm hkb)]; exact ho', hr'⟩
  · refine ⟨rfl, rfl, rfl, by simp, fun k hk hfr => ?_, fun k g' hk hlt' => ?_⟩
    · by_cases hkb : k = b
      · subst hkb; have := hfr _ e; simp [GObj.free] at this
      · simp only [Array.getElem?_setIfInBounds]; rw [if_neg (Ne.symm hkb)]
    · by_cases hkb : k = b
      · subst hkb
        simp only [upd_same, Option.some.injEq] at hk
        subst hk
        exact ⟨_, e, fun _ => by simp_all [GObj.free]⟩
      · rw [upd_ne hkb] at hk; exact ⟨g', hk, id⟩
theorem sub_newObj (s : Sub h w) (ob : Obj) (nc : ∀ c T f, ob ≠ .cells c T f) :
    Sub (upd h w.heap.size (.obj ob)) { w with heap := w.heap.push ob } ∧ Step h w (upd h w.heap.size (.obj ob)) { w with heap := w.heap.push ob } := by
  constructor
  · intro k g hk
    by_cases hkb : k = w.heap.size
    · subst hkb
      simp only [upd_same, Option.some.injEq] at hk
      subst hk
      exact ⟨ob, by simp, rfl, nc⟩
    · rw [upd_ne hkb] at hk
      obtain ⟨o', ho', hr'⟩ := s k g hk
      have := s.lt hk
      exact ⟨o', by simp only [Array.getElem?_push, hkb, if_false]; exact ho', hr'⟩
  · refine ⟨rfl, rfl, rfl, by simp, fun k hk _ => ?_, fun k g' hk hlt' => ?_⟩
    · simp only [Array.getElem?_push]
      rw [if_neg (by omega)]
    · rw [upd_ne (by omega)] at hk; exact ⟨g', hk, id⟩
theorem mkeyK_spec {t : TypeId} {ik : IntKind} (hk : mkeyK P t = some ik) : ∃ kt el, P.underlying t = some (.map kt el) ∧ P.underlying kt = some (.int ik) := by
  unfold mkeyK at hk
  split at hk
  · rename_i kt el hd
    split at hk
    · rename_i ik' hd'
      cases hk
      exact ⟨kt, el, hd, hd'⟩
    · cases hk
  · cases hk
theorem run_checkKey_int {kt : TypeId} {ik : IntKind} (hd : P.underlying kt = some (.int ik)) (k : Value) (em : Bool) (n : Nat) : (Instr.checkKey em (n + 1) kt k).run P w = .ok () w := by
  simp [Instr.checkKey, run_underlying hd]
theorem run_findKey_int {kt : TypeId} {ik : IntKind} {k : Value} {l : List MapEntry} {r : Option (Nat × Value)} (hd : P.underlying kt = some (.int ik)) (hf : Instr.findNow (.int ik) k l 0 = some r) : (Instr.findKey kt k l).run P w = .ok r w := by
  simp [Instr.findKey, run_underlying hd, hf]
theorem run_mapUpdate {t : TypeId} {ik : IntKind} {m k x : Value} {h' : GH} (hk : mkeyK P t = some ik) (s : Sub h w) (hm : mupV ik m k x h = some h') :
    ∃ w', (Instr.mapUpdate t m k x).run P w = .ok () w' ∧ Sub h' w' ∧ Step h w h' w' := by
  obtain ⟨kt, el, hd, hd'⟩ := mkeyK_spec hk
  unfold mupV at hm
  split at hm
  · rename_i b
    split at hm
    · rename_i es clock he
      split at hm
      · rename_i hf
        cases hm
        have hb := obj_at s he
        obtain ⟨s', st⟩ := sub_obj s he (ob' := .map (es.push { key := k, val := x, born := clock }) (clock + 1)) (by intro c T f; simp)
        refine ⟨_, ?_, s', st⟩
        simp [Instr.mapUpdate, run_underlying hd, getObj, setObj, Sem.run, hb, run_checkKey_int hd', run_findKey_int hd' hf, Result.andThen]
      · cases hm
    · cases hm
  · cases hm
theorem run_lookup {t : TypeId} {ik : IntKind} {m k v : Value} (hk : mkeyK P t = some ik) (s : Sub h w) (hm : mlkV ik m k h = some v) :
    (Instr.lookup t m k false).run P w = .ok v w := by
  obtain ⟨kt, el, hd, hd'⟩ := mkeyK_spec hk
  unfold mlkV at hm
  split at hm
  · rename_i b
    split at hm
    · rename_i es clock he
      split at hm
      · rename_i i v' hf
        cases hm
        have hb := obj_at s he
        simp [Instr.lookup, run_underlying hd, getObj, Sem.run, hb, run_checkKey_int hd', run_findKey_int hd' hf, Result.andThen]
      · cases hm
    · cases hm
  · cases hm
theorem gop_out (he : ESub e a.tmps) (s : Sub h w) (g : gop P o.op e h K) : Out P ((execOp a.eval o).run P w) h w K := by
  cases hop : o.op with
  | build t parts => exact out_build hop he s (hop ▸ g)
  | buildSlice t len parts => exact out_buildSlice hop he s (hop ▸ g)
  | makeSlice t l c => exact out_makeSlice hop he s (hop ▸ g)
  | slice t x lo hi mx =>
    cases mx with
    | none => exact out_slice hop he s (hop ▸ g)
    | some m => rw [hop] at g; exact g.elim
  | move x =>
    rw [hop] at g; simp only [gop] at g
    split at g
    · rename_i v hv; exact .val (v := v) (by simp [execOp, hop, evO_sound he hv]) s g
    · exact g.elim
  | assign x =>
    rw [hop] at g; simp only [gop] at g
    split at g
    · rename_i v hv; exact .val (v := v) (by simp [execOp, hop, evO_sound he hv]) s g
    · exact g.elim
  | pick c x y =>
    rw [hop] at g; simp only [gop] at g
    split at g
    · rename_i vc hc
      obtain ⟨v, hv, g⟩ := bnd_iff.1 g
      refine .val (v := v) ?_ s g
      unfold pickO at hv
      split at hv
      · simp [execOp, hop, evO_sound he hc, evO_sound he hv, asBool]
      · simp [execOp, hop, evO_sound he hc, evO_sound he hv, asBool]
      · cases hv
    · exact g.elim
  | alloc t =>
    rw [hop] at g; simp only [gop] at g
    split at g
    · rename_i z hz
      obtain ⟨zv, rfl, hzr⟩ := zeroK_spec hz
      obtain ⟨w', hr, s', st⟩ := run_newVar (P := P) (t := t) (v := zv) s
      refine .new (v := .pointer (some ⟨w.heap.size, 0, none⟩)) ?_ s' st (g _ (s.fresh (Nat.le_refl _)))
      simp only [execOp, hop, Instr.alloc, Sem.run_bind, hzr, Result.andThen_ok, hr, Sem.run_pure]
    · exact g.elim
  | box t x =>
    rw [hop] at g; simp only [gop] at g
    split at g
    · rename_i v hv
      obtain ⟨w', hr, s', st⟩ := run_newVar (P := P) (t := t) (v := v) s
      refine .new (v := .pointer (some ⟨w.heap.size, 0, none⟩)) ?_ s' st (g _ (s.fresh (Nat.le_refl _)))
      simp only [execOp, hop, evO_sound he hv, Instr.box, Sem.run_bind, hr, Result.andThen_ok, Sem.run_pure]
    · exact g.elim
  | load t x =>
    rw [hop] at g; simp only [gop] at g
    split at g
    · rename_i p n gg hp hs
      obtain ⟨v, hv, g⟩ := bnd_iff.1 g
      refine .val (v := v) ?_ s g
      simp only [execOp, hop, evO_sound he hp, Sem.run_bind, run_loadAt hs s hv, Result.andThen_ok, Sem.run_pure]
    · exact g.elim
  | store t x y =>
    rw [hop] at g; simp only [gop] at g
    split at g
    · rename_i p v n gg hp hv hs
      obtain ⟨h', hh, g⟩ := bnd_iff.1 g
      obtain ⟨w', hr, s', st⟩ := run_storeAt (P := P) hs s hh
      refine .inr (.inl ⟨w', h', ?_, s', st, g⟩)
      simp only [execOp, hop, evO_sound he hp, evO_sound he hv, Sem.run_bind, hr, Result.andThen_ok, Sem.run_pure]
    · exact g.elim
  | makeMap t r =>
    cases r with
    | none =>
      rw [hop] at g; simp only [gop] at g
      obtain ⟨s', st⟩ := sub_newObj s (.map #[] 0) (by intro c T f; simp)
      refine .new (v := .map (some w.heap.size)) ?_ s' st (g _ (s.fresh (Nat.le_refl _)))
      simp [execOp, hop, Instr.makeMap, run_newObj]
    | some r => rw [hop] at g; exact g.elim
  | mapUpdate t m k x =>
    rw [hop] at g; simp only [gop] at g
    split at g
    · rename_i mv kv xv ik hm hk hx hi
      obtain ⟨h', hh, g⟩ := bnd_iff.1 g
      obtain ⟨w', hr, s', st⟩ := run_mapUpdate hi s hh
      refine .inr (.inl ⟨w', h', ?_, s', st, g⟩)
      simp only [execOp, hop, evO_sound he hm, evO_sound he hk, evO_sound he hx, Sem.run_bind, hr, Result.andThen_ok, Sem.run_pure]
    · exact g.elim
  | insert t m k x =>
    rw [hop] at g; simp only [gop] at g
    split at g
    · rename_i mv kv xv ik hm hk hx hi
      obtain ⟨h', hh, g⟩ := bnd_iff.1 g
      obtain ⟨w', hr, s', st⟩ := run_mapUpdate hi s hh
      refine .inr (.inl ⟨w', h', ?_, s', st, g⟩)
      simp only [execOp, hop, evO_sound he hm, evO_sound he hk, evO_sound he hx, Sem.run_bind, hr, Result.andThen_ok, Sem.run_pure]
    · exact g.elim
  | lookup t m k ok =>
    cases ok with
    | false =>
      rw [hop] at g; simp only [gop] at g
      split at g
      · rename_i mv kv ik hm hk hi
        obtain ⟨v, hv, g⟩ := bnd_iff.1 g
        refine .val (v := v) ?_ s g
        simp only [execOp, hop, evO_sound he hm, evO_sound he hk, Sem.run_bind, run_lookup hi s hv, Result.andThen_ok, Sem.run_pure]
      · exact g.elim
    | true => rw [hop] at g; exact g.elim
  | nilCheck x =>
    rw [hop] at g; simp only [gop] at g
    split at g
    · rename_i v hv
      obtain ⟨r, hr, g⟩ := bnd_iff.1 g
      exact .val (v := r) (run_nc hr (evO_sound he hv) hop) s g
    · exact g.elim
  | binOp op t x y yt =>
    rw [hop] at g; simp only [gop] at g
    split at g
    · rename_i va vb hx hy
      split at g
      · obtain ⟨r, k, hr⟩ := run_eq_G (P := P) (w := w) (.inl rfl) (evO_sound he hx) (evO_sound he hy) g
        refine .val (v := .bool r) ?_ s k
        simp only [Sem.run_bind] at hr
        simp only [execOp, hop, evO_sound he hx, evO_sound he hy, Sem.run_bind, hr, Result.andThen_ok, Sem.run_pure, sgn]
      · obtain ⟨r, k, hr⟩ := run_eq_G (P := P) (w := w) (.inr rfl) (evO_sound he hx) (evO_sound he hy) g
        refine .val (v := .bool !r) ?_ s k
        simp only [Sem.run_bind] at hr
        simp only [execOp, hop, evO_sound he hx, evO_sound he hy, Sem.run_bind, hr, Result.andThen_ok, Sem.run_pure, sgn]
      · obtain ⟨v, hv, g⟩ := bnd_iff.1 g
        refine .val (v := v) ?_ s g
        simp only [execOp, hop, evO_sound he hx, evO_sound he hy, Sem.run_bind, run_eqGuard_int hv, run_binOp_int hv, Result.andThen_ok, Sem.run_pure]
    · exact g.elim
  | unOp op t x =>
    rw [hop] at g; simp only [gop] at g
    split at g
    · rename_i v hv
      obtain ⟨r, hr, g⟩ := bnd_iff.1 g
      refine .val (v := r) ?_ s g
      unfold unV at hr
      split at hr <;> cases hr <;> simp [execOp, hop, evO_sound he hv, Op.unary, Op.intArith]
    · exact g.elim
  | convert sr d x =>
    rw [hop] at g; simp only [gop] at g
    split at g
    · rename_i v d1 k hv h1 h2
      obtain ⟨r, hr, g⟩ := bnd_iff.1 g
      refine .val (v := r) ?_ s g
      unfold cvV at hr
      split at hr <;> cases hr
      cases d1 <;> simp [execOp, hop, evO_sound he hv, convert, run_underlying h1, run_underlying h2, Conv.intToInt]
    · exact g.elim
  | makeInterface t x =>
    rw [hop] at g; simp only [gop] at g
    split at g
    · exact g.elim
    · rename_i v d hn hx hd
      refine .val (v := .iface t v) ?_ s g
      cases d <;> first
        | (exact (hn _ rfl).elim)
        | (simp [execOp, hop, evO_sound he hx, Instr.makeInterface, run_underlying hd])
    · exact g.elim
  | makeFunc fn f c =>
    rw [hop] at g; simp only [gop] at g
    split at g
    · rename_i va vb hf hc
      refine .val (v := .func fn va.toArray vb.toArray) ?_ s g
      have h1 := evL_sound he hf
      have h2 := evL_sound he hc
      have h1' : f.map a.eval = va.toArray := by rw [← h1]; apply Array.ext'; simp
      have h2' : c.map a.eval = vb.toArray := by rw [← h2]; apply Array.ext'; simp
      simp [execOp, hop, Instr.makeFunc, h1', h2']
    · exact g.elim
  | fieldAddr st x f =>
    rw [hop] at g; simp only [gop] at g
    split at g
    · rename_i v off n gg hv hf
      split at g
      · rename_i hn
        obtain ⟨r, hr, g⟩ := bnd_iff.1 g
        refine .val (v := r) ?_ s g
        simp only [execOp, hop, evO_sound he hv, Sem.run_bind, run_fieldAt hf hn hr, Result.andThen_ok, Sem.run_pure]
      · exact g.elim
    · exact g.elim
  | field st x f =>
    rw [hop] at g; simp only [gop] at g
    split at g
    · rename_i v off n gg hv hf
      obtain ⟨r, hr, g⟩ := bnd_iff.1 g
      refine .val (v := r) ?_ s g
      simp only [execOp, hop, evO_sound he hv, Sem.run_bind, run_field hf hr, Result.andThen_ok, Sem.run_pure]
    · exact g.elim
  | indexAddr t x i =>
    rw [hop] at g; simp only [gop] at g
    split at g
    · rename_i v iv len el hv hi hd
      split at g
      · rename_i j hj
        obtain ⟨r, hr, g⟩ := bnd_iff.1 g
        refine .val (v := r) ?_ s g
        unfold iaV at hr
        split at hr
        · rename_i b off k i
          split at hr
          · rename_i hc
            cases hr
            simp only [execOp, hop, evO_sound he hv, evO_sound he hi, Instr.indexAt, asIntOf, Instr.sureAddr, Sem.run_bind, run_underlying hd, Sem.run_pure, Result.andThen_ok, sizeOf, typeInfo, run_program, hj, Sem.run_ite, hc, and_self, if_true, Addr.add_plain]
          · cases hr
        · cases hr
      · exact g.elim
    · rename_i v iv el hv hi hd
      split at g
      · rename_i j hj
        obtain ⟨r, hr, g⟩ := bnd_iff.1 g
        refine .val (v := r) ?_ s g
        unfold isV at hr
        split at hr
        · rename_i b off len cap k i
          split at hr
          · rename_i hc
            cases hr
            simp only [execOp, hop, evO_sound he hv, evO_sound he hi, Instr.indexAt, asIntOf, Sem.run_bind, run_underlying hd, Sem.run_pure, Result.andThen_ok, sizeOf, typeInfo, run_program, hj, Sem.run_ite, hc, and_self, if_true, Addr.add_plain]
          · cases hr
        · cases hr
      · exact g.elim
    · exact g.elim
  | index t x i =>
    rw [hop] at g; simp only [gop] at g
    split at g
    · rename_i v iv len el hv hi hd
      split at g
      · rename_i n gg hs
        obtain ⟨r, hr, g⟩ := bnd_iff.1 g
        obtain ⟨d, j, hd', hj, hsz, ha⟩ := szK_spec hs
        refine .val (v := r) ?_ s g
        unfold ixV at hr
        split at hr
        · rename_i cs k i
          split at hr
          · rename_i hc
            cases gg with
            | true => cases hr; simp [execOp, hop, evO_sound he hv, evO_sound he hi, Instr.index, asIntOf, run_underlying hd, sizeOf, typeInfo, hj, part, ha, hsz, hc]
            | false => simp only at hr; simp [execOp, hop, evO_sound he hv, evO_sound he hi, Instr.index, asIntOf, run_underlying hd, sizeOf, typeInfo, hj, part, ha, hsz, hc, hr]
          · cases hr
        · cases hr
      · exact g.elim
    · exact g.elim
  | extract t i =>
    rw [hop] at g; simp only [gop] at g
    split at g
    · rename_i v hv
      obtain ⟨r, hr, g⟩ := bnd_iff.1 g
      refine .val (v := r) ?_ s g
      unfold exV at hr
      split at hr
      · simp [execOp, hop, evO_sound he hv, Instr.extract, hr]
      · cases hr
    · exact g.elim
  | typeAssert x xt as ok =>
    rw [hop] at g; simp only [gop] at g
    split at g
    · rename_i v want z hv hd hz
      obtain ⟨r, hr, g⟩ := bnd_iff.1 g
      have hzr : ∀ w, (zeroValue as).run P w = .ok z w := by
        intro w
        unfold zeroVK at hz
        split at hz
        · rename_i i hi; simp [zeroValue, typeInfo, hi, hz]
        · cases hz
      refine .val (v := r) ?_ s g
      unfold tiV at hr
      split at hr
      · cases ok <;> simp only [reduceCtorEq, Option.some.injEq] at hr
        subst hr; simp [execOp, hop, evO_sound he hv, Instr.typeAssert, run_underlying hd, hzr]
      · rename_i t x'
        split at hr
        · rename_i i hi
          split at hr
          · rename_i hm
            cases ok <;> simp only [Option.some.injEq] at hr <;> subst hr <;> simp [execOp, hop, evO_sound he hv, Instr.typeAssert, run_underlying hd, typeInfo, hi, hm]
          · rename_i hm
            cases ok <;> simp only [reduceCtorEq, Option.some.injEq] at hr
            subst hr; simp [execOp, hop, evO_sound he hv, Instr.typeAssert, run_underlying hd, typeInfo, hi, hm]
            simp only [zeroValue, typeInfo, Sem.run_bind, run_program, Result.andThen_ok] at hzr
            simp [zeroValue, typeInfo, hzr]
        · cases hr
      · cases hr
    · rename_i v d z hn hv hd hz
      obtain ⟨r, hr, g⟩ := bnd_iff.1 g
      have hzr : ∀ w, (zeroValue as).run P w = .ok z w := by
        intro w
        unfold zeroVK at hz
        split at hz
        · rename_i i hi; simp [zeroValue, typeInfo, hi, hz]
        · cases hz
      refine .val (v := r) ?_ s g
      unfold taV at hr
      split at hr
      · cases ok <;> simp only [reduceCtorEq, Option.some.injEq] at hr
        subst hr
        cases d <;> first
          | (exact (hn _ rfl).elim)
          | (simp [execOp, hop, evO_sound he hv, Instr.typeAssert, run_underlying hd, hzr])
      · rename_i t x'
        split at hr
        · rename_i ht
          have ht := Nat.eq_of_beq_eq_true ht
          cases ok <;> simp only [Option.some.injEq] at hr <;> subst hr <;> cases d <;> first
            | (exact (hn _ rfl).elim)
            | (simp [execOp, hop, evO_sound he hv, Instr.typeAssert, run_underlying hd, ht])
        · rename_i ht
          have ht : t ≠ as := by intro h0; subst h0; simp at ht
          cases ok <;> simp only [reduceCtorEq, Option.some.injEq] at hr
          subst hr
          cases d <;> first
            | (exact (hn _ rfl).elim)
            | (simp [execOp, hop, evO_sound he hv, Instr.typeAssert, run_underlying hd, ht, hzr])
      · cases hr
    · exact g.elim
  | call c =>
    rw [hop] at g; simp only [gop] at g
    split at g
    · rename_i f hc
      split at g
      · rename_i fv args hf ha; exact out_callV hop hc (evO_sound he hf) (evL_sound he ha) s g
      · exact g.elim
    · rename_i r name hc
      split at g
      · rename_i fv args hf ha; exact out_ivV hop hc (evO_sound he hf) (evL_sound he ha) s g
      · exact g.elim
    · rename_i b hc
      split at g
      · rename_i args ha
        have hm : c.args.map a.eval = args.toArray := by have := evL_sound he ha; apply Array.ext'; simpa using this
        exact out_gbi hop hc hm s g
      · exact g.elim
  | _ => rw [hop] at g; exact g.elim
end
inductive Cls where
  | pure | load | alloc | write | none
  deriving DecidableEq
def cls : Op → Cls
  | .move _ | .assign _ | .pick _ _ _ | .build _ _ | .nilCheck _ | .binOp _ _ _ _ _ | .unOp _ _ _ | .convert _ _ _ | .makeInterface _ _ | .makeFunc _ _ _ | .slice _ _ _ _ _ | .fieldAddr _ _ _ | .field _ _ _ | .indexAddr _ _ _ | .index _ _ _ | .typeAssert _ _ _ _ | .extract _ _ => .pure
  | .load _ _ => .load
  | .lookup _ _ _ ok => (match ok with | false => .load | true => .none)
  | .alloc _ | .box _ _ | .buildSlice _ _ _ | .makeSlice _ _ _ => .alloc
  | .store _ _ _ => .write
  | .call c => (match c.callee with | .builtin .len => .pure | .builtin .min => .pure | .builtin .max => .pure | _ => .write)
  | _ => .none
section
variable {P : Program} {op : Op} {e : GEnv} {h : GH} {K : Value → GH → Prop}
theorem eqG_pure {t : TypeId} {c : Bool} {x y : Value} {K : Bool → Prop} (g : eqG P t c x y K) : ∃ r, ∀ K' : Bool → Prop, eqG P t c x y K' ↔ K' r := by
  unfold eqG at g ⊢
  split at g
  · obtain ⟨v, hv, g⟩ := bnd_iff.1 g; exact ⟨v, fun K' => by simp only [hv, bnd_some]⟩
  · split at g
    · rename_i hg; obtain ⟨v, hv, g⟩ := bnd_iff.1 g; exact ⟨v, fun K' => by simp only [hv, hg, bnd_some]⟩
    · exact g.elim
  · split at g
    · rename_i hg; obtain ⟨v, hv, g⟩ := bnd_iff.1 g; exact ⟨v, fun K' => by simp only [hv, hg, bnd_some]⟩
    · exact g.elim
  · split at g
    · obtain ⟨v, hv, g⟩ := bnd_iff.1 g; exact ⟨v, fun K' => by simp only [hv, bnd_some]⟩
    · obtain ⟨v, hv, g⟩ := bnd_iff.1 g; exact ⟨v, fun K' => by simp only [hv, bnd_some]⟩
  · split at g
    · rename_i hk; obtain ⟨v, hv, g⟩ := bnd_iff.1 g; exact ⟨v, fun K' => by simp only [hv, hk, bnd_some]⟩
    · exact g.elim
  · exact g.elim
theorem gop_pure (hc : cls op = .pure) (g : gop P op e h K) : ∃ v, ∀ h' (K' : Value → GH → Prop), gop P op e h' K' ↔ K' v h' := by
  cases op <;> simp only [cls, reduceCtorEq] at hc
  case slice t x lo hi mx =>
    cases mx with
    | some m => exact g.elim
    | none =>
      simp only [gop] at g ⊢
      repeat' (first | (exact (g : False).elim) | (split at g))
      all_goals first
        | (exact (g : False).elim)
        | (obtain ⟨v, hv, g⟩ := bnd_iff.1 g; exact ⟨_, fun h' K' => by simp only [hv, bnd_some]; exact Iff.rfl⟩)
  case lookup t m k ok => cases ok <;> cases hc
  case call c =>
    simp only [gop] at g ⊢
    split at hc <;> first | (cases hc; done) | skip
    all_goals rename_i hcal
    all_goals simp only [hcal, gbi] at g ⊢
    all_goals
      repeat' (first | (exact (g : False).elim) | contradiction | (split at g))
      all_goals first
        | (exact (g : False).elim)
        | contradiction
        | exact ⟨_, fun h' K' => Iff.rfl⟩
        | (obtain ⟨v, hv, g⟩ := bnd_iff.1 g; exact ⟨_, fun h' K' => by simp only [hv, bnd_some]; exact Iff.rfl⟩)
  all_goals simp only [gop] at g ⊢
  case makeInterface t x =>
    split at g
    · exact g.elim
    · rename_i v d hn hx hd
      refine ⟨.iface t v, fun h' K' => ?_⟩
      first
        | exact Iff.rfl
        | (cases d <;> first | (exact (hn _ rfl).elim) | (simp only [hx, hd]))
    · exact g.elim
  all_goals
    repeat' (first | (exact (g : False).elim) | (split at g))
    all_goals first
      | (exact (g : False).elim)
      | exact (let ⟨r, f⟩ := eqG_pure g; ⟨_, fun h' K' => f _⟩)
      | exact ⟨_, fun h' K' => Iff.rfl⟩
      | (obtain ⟨v, hv, g⟩ := bnd_iff.1 g; exact ⟨_, fun h' K' => by simp only [hv, bnd_some]; exact Iff.rfl⟩)
end
section
variable {P : Program} {op : Op} {e : GEnv} {h : GH} {K : Value → GH → Prop}
theorem gop_alloc (hc : cls op = .alloc) (g : gop P op e h K) :
    ∃ (val : Nat → Value) (T : TypeId) (pre : List Value), ∀ h' (K' : Value → GH → Prop), gop P op e h' K' ↔ ∀ b, h' b = none → K' (val b) (upd h' b (.row T pre pre.length true)) := by
  cases op <;> simp only [cls, reduceCtorEq] at hc
  case call c => split at hc <;> cases hc
  case lookup t m k ok => cases ok <;> cases hc
  all_goals simp only [gop] at g ⊢
  case alloc t =>
    split at g
    · exact ⟨fun b => .pointer (some ⟨b, 0, none⟩), _, _, fun h' K' => Iff.rfl⟩
    · exact g.elim
  case box t x =>
    split at g
    · exact ⟨fun b => .pointer (some ⟨b, 0, none⟩), _, _, fun h' K' => Iff.rfl⟩
    · exact g.elim
  case buildSlice t len parts =>
    split at g
    · split at g
      · split at g
        · obtain ⟨cs, hcs, g⟩ := bnd_iff.1 g
          exact ⟨fun b => .slice (some ⟨b, 0, none⟩) len len, _, cs, fun h' K' => by simp only [bsV, hcs, bnd_some]; exact Iff.rfl⟩
        · exact g.elim
      · exact g.elim
    · exact g.elim
  case makeSlice t l c =>
    split at g
    · split at g
      · split at g
        · unfold mkV at g ⊢
          split at g
          · obtain ⟨g1, g2, g3, g4, g⟩ := g
            exact ⟨fun b => .slice (some ⟨b, 0, none⟩) _ _, _, _, fun h' K' => ⟨fun q => q.2.2.2.2, fun q => ⟨g1, g2, g3, g4, q⟩⟩⟩
          · exact g.elim
        · exact g.elim
      · exact g.elim
    · exact g.elim
theorem ldV_upd {n : Nat} {gg : Bool} {p v : Value} {b : Nat} {g : GObj} (hb : h b = none) (hl : ldV n gg p h = some v) : ldV n gg p (upd h b g) = some v := by
  unfold ldV at hl ⊢
  split at hl
  · rename_i k off
    split at hl
    · rename_i T pre sz f he
      have : k ≠ b := ne_of_fresh hb he
      simp only [upd_ne this, he]; exact hl
    · cases hl
  · cases hl
inductive LA where
  | row (n : Nat) (g : Bool) (p : Value)
  | key (ik : IntKind) (m k : Value)
def LA.get : LA → GH → Option Value
  | .row n g p, h => ldV n g p h
  | .key ik m k, h => mlkV ik m k h
def laO (P : Program) (op : Op) (e : GEnv) : Option LA :=
  match op with
  | .load t x => (match evO e x, szK P t with | some p, some (n, g) => some (.row n g p) | _, _ => none)
  | .lookup t m k ok => (match ok with | false => (match evO e m, evO e k, mkeyK P t with | some m, some k, some ik => some (.key ik m k) | _, _, _ => none) | true => none)
  | _ => none
theorem mlkV_upd {ik : IntKind} {m k v : Value} {b : Nat} {g : GObj} (hb : h b = none) (hl : mlkV ik m k h = some v) : mlkV ik m k (upd h b g) = some v := by
  unfold mlkV at hl ⊢
  split at hl
  · rename_i c
    split at hl
    · rename_i es clock he
      have hne : c ≠ b := by rintro rfl; rw [hb] at he; cases he
      simp only [upd_ne hne, he]
      exact hl
    · cases hl
  · cases hl
theorem LA.get_upd {a : LA} {v : Value} {b : Nat} {g : GObj} (hb : h b = none) (hl : a.get h = some v) : a.get (upd h b g) = some v := by
  cases a with
  | row n gg p => exact ldV_upd hb hl
  | key ik m k => exact mlkV_upd hb hl
theorem gop_load (hc : cls op = .load) (g : gop P op e h K) : ∃ a v, laO P op e = some a ∧ a.get h = some v ∧ K v h := by
  cases op <;> simp only [cls, reduceCtorEq] at hc
  case load t x =>
    simp only [gop] at g
    split at g
    · rename_i p n gg hp hs; obtain ⟨v, hv, g⟩ := bnd_iff.1 g; exact ⟨.row n gg p, v, by simp only [laO, hp, hs], hv, g⟩
    · exact g.elim
  case lookup t m k ok =>
    cases ok with
    | true => cases hc
    | false =>
      simp only [gop] at g
      split at g
      · rename_i m' k' ik hm hk hi; obtain ⟨v, hv, g⟩ := bnd_iff.1 g; exact ⟨.key ik m' k', v, by simp only [laO, hm, hk, hi], hv, g⟩
      · exact g.elim
  case call c => split at hc <;> cases hc
theorem gop_load_mk {a : LA} {v : Value} (ha : laO P op e = some a) (hv : a.get h = some v) (k : K v h) : gop P op e h K := by
  unfold laO at ha
  split at ha
  · split at ha
    · rename_i hp hs; cases ha; simp only [gop, hp, hs]; exact bnd_iff.2 ⟨v, hv, k⟩
    · cases ha
  · split at ha
    · split at ha
      · rename_i hm hk hi; cases ha; simp only [gop, hm, hk, hi]; exact bnd_iff.2 ⟨v, hv, k⟩
      · cases ha
    · cases ha
  · cases ha
theorem world_upd {w : World} (s : Sub h w) {b : Nat} (hb : h b = none) (T : TypeId) (pre : List Value) (sz : Nat) (hsz : pre.length ≤ sz) : ∃ w', Sub (upd h b (.row T pre sz true)) w' := by
  let c : Array Value := (pre ++ List.replicate (sz - pre.length) undef).toArray
  have hc : c.size = sz := by simp [c]; omega
  refine ⟨{ w with heap := (w.heap ++ Array.replicate (b + 1 - w.heap.size) (Obj.cells #[] 0)).setIfInBounds b (Obj.cells c T) }, ?_⟩
  intro k g hk
  by_cases hkb : k = b
  · subst hkb
    simp only [upd_same, Option.some.injEq] at hk
    subst hk
    refine ⟨.cells c T (0, 0), ?_, rfl, hc, ⟨_, rfl⟩, fun _ => rfl⟩
    simp only [Array.getElem?_setIfInBounds_self]
    rw [if_pos (by simp; omega)]
  · rw [upd_ne hkb] at hk
    obtain ⟨o, ho, hr⟩ := s k g hk
    refine ⟨o, ?_, hr⟩
    rw [Array.getElem?_setIfInBounds_ne (by omega)]
    rw [Array.getElem?_append_left (s.lt hk)]
    exact ho
theorem T.world {f : FuncId} {args : List Value} (t : T P f args h K) : T P f args h fun v h' => K v h' ∧ ∃ w, Sub h' w :=
  ⟨t.has, fun w s => (t.calls w s).mono fun e w' ⟨v, h', he, hs, hst, hk⟩ => ⟨v, h', he, hs, hst, hk, w', hs⟩⟩
theorem T.frame {f : FuncId} {args : List Value} (t : T P f args h K) {b : Nat} (hb : h b = none) (g : GObj) :
    T P f args (upd h b g) fun v h' => ∃ h0, h0 b = none ∧ h' = upd h0 b g ∧ K v h0 := by
  refine ⟨t.has, fun w s => ?_⟩
  have s0 : Sub h w := by
    intro k g' hk
    exact s k g' (by rw [upd_ne (ne_of_fresh hb hk)]; exact hk)
  have hlt : b < w.heap.size := s.lt (upd_same _ _ _)
  refine (t.calls w s0).mono fun e w' ⟨v, h', he, hs, hst, hk⟩ => ?_
  have hb' : h' b = none := by
    cases hh : h' b with
    | none => rfl
    | some g' =>
      obtain ⟨g0, e0, _⟩ := hst.dom b g' hh hlt
      rw [hb] at e0; cases e0
  refine ⟨v, upd h' b g, he, ?_, ?_, h', hb', rfl, hk⟩
  · intro k g' hk'
    by_cases hkb : k = b
    · subst hkb
      simp only [upd_same, Option.some.injEq] at hk'
      subst hk'
      obtain ⟨o, ho, hr⟩ := s k _ (upd_same _ _ _)
      exact ⟨o, by rw [hst.old k hlt (fun g' hg' => by rw [hb] at hg'; cases hg')]; exact ho, hr⟩
    · rw [upd_ne hkb] at hk'; exact hs k g' hk'
  · refine ⟨hst.os, hst.tape, hst.output, hst.size, fun k hk' hf => ?_, fun k g' hk' hlt' => ?_⟩
    · by_cases hkb : k = b
      · subst hkb; exact hst.old k hk' (fun g' hg' => by rw [hb] at hg'; cases hg')
      · exact hst.old k hk' (fun g' hg' => hf g' (by rw [upd_ne hkb]; exact hg'))
    · by_cases hkb : k = b
      · subst hkb
        simp only [upd_same, Option.some.injEq] at hk'
        subst hk'
        exact ⟨_, upd_same _ _ _, id⟩
      · rw [upd_ne hkb] at hk'
        obtain ⟨g0, e0, f0⟩ := hst.dom k g' hk' hlt'
        exact ⟨g0, by rw [upd_ne hkb]; exact e0, f0⟩
theorem stV_upd {n : Nat} {p v : Value} {h' : GH} {b : Nat} {g : GObj} (hb : h b = none) (hl : stV n p v h = some h') : h' b = none ∧ stV n p v (upd h b g) = some (upd h' b g) := by
  unfold stV at hl ⊢
  split at hl
  · rename_i k off
    split at hl
    · rename_i T pre sz he
      have hkb : k ≠ b := ne_of_fresh hb he
      split at hl
      · rename_i hc
        cases hl
        refine ⟨by rw [upd_ne (Ne.symm hkb)]; exact hb, ?_⟩
        simp only [upd_ne hkb, he, hc]
        rw [upd_comm _ _ _ (Ne.symm hkb)]
      · cases hl
    · cases hl
  · cases hl
theorem cellsAt_upd {size n : Nat} {v : Value} {cs : List Value} {b : Nat} {g : GObj} (hb : h b = none) (hl : cellsAt size n v h = some cs) : cellsAt size n v (upd h b g) = some cs := by
  unfold cellsAt at hl ⊢
  split at hl
  · exact hl
  · split at hl
    · exact hl
    · split at hl
      · cases hl
      · split at hl
        · rename_i he; simp only [upd_ne (ne_of_fresh hb he), he]; exact hl
        · cases hl
  · cases hl
theorem putV_upd {base : Option Addr} {p : Nat} {new : List Value} {h' : GH} {b : Nat} {g : GObj} (hb : h b = none) (hl : putV base p new h = some h') : h' b = none ∧ putV base p new (upd h b g) = some (upd h' b g) := by
  unfold putV at hl ⊢
  split at hl
  · cases hl; exact ⟨hb, rfl⟩
  · split at hl
    · split at hl
      · rename_i he
        have hkb := ne_of_fresh hb he
        split at hl
        · rename_i hc
          cases hl
          refine ⟨by rw [upd_ne (Ne.symm hkb)]; exact hb, ?_⟩
          simp only [upd_ne hkb, he, hc]
          rw [upd_comm _ _ _ (Ne.symm hkb)]
        · cases hl
      · cases hl
    · cases hl
theorem apV_frame {T : TypeId} {size bytes : Nat} {s x : Value} (a : apV T size bytes s x h K) {b : Nat} (hb : h b = none) (g : GObj) :
    apV T size bytes s x (upd h b g) fun v h' => ∃ h0, h0 b = none ∧ h' = upd h0 b g ∧ K v h0 := by
  unfold apV at a ⊢
  split at a
  · obtain ⟨new, hn, a⟩ := bnd_iff.1 a
    refine bnd_iff.2 ⟨new, cellsAt_upd hb hn, ?_⟩
    split at a
    · rename_i hle
      obtain ⟨h', hp, a⟩ := bnd_iff.1 a
      rw [if_pos hle]
      obtain ⟨h1, h2⟩ := putV_upd (g := g) hb hp
      exact bnd_iff.2 ⟨_, h2, h', h1, rfl, a⟩
    · rename_i hle
      obtain ⟨old, ho, a1, a2, a3, a4, a⟩ := bnd_iff.1 a
      rw [if_neg hle]
      refine bnd_iff.2 ⟨old, cellsAt_upd hb ho, a1, a2, a3, a4, fun b' nc hb' hnc => ?_⟩
      have hne : b' ≠ b := by rintro rfl; simp at hb'
      rw [upd_ne hne] at hb'
      refine ⟨_, ?_, upd_comm _ _ _ (Ne.symm hne), a b' nc hb' hnc⟩
      rw [upd_ne (Ne.symm hne)]; exact hb
  · exact a.elim
theorem apV_mono {T : TypeId} {size bytes : Nat} {s x : Value} {K' : Value → GH → Prop} (a : apV T size bytes s x h K) (k : ∀ v h', K v h' → K' v h') : apV T size bytes s x h K' := by
  unfold apV at a ⊢
  split at a
  · obtain ⟨new, hn, a⟩ := bnd_iff.1 a
    refine bnd_iff.2 ⟨new, hn, ?_⟩
    split at a
    · rename_i hle
      obtain ⟨h', hp, a⟩ := bnd_iff.1 a
      rw [if_pos hle]; exact bnd_iff.2 ⟨_, hp, k _ _ a⟩
    · rename_i hle
      obtain ⟨old, ho, a1, a2, a3, a4, a⟩ := bnd_iff.1 a
      rw [if_neg hle]
      exact bnd_iff.2 ⟨old, ho, a1, a2, a3, a4, fun b' nc hb' hnc => k _ _ (a b' nc hb' hnc)⟩
  · exact a.elim
theorem apV_world {T : TypeId} {size bytes : Nat} {s x : Value} {w : World} (hs : Sub h w) (a : apV T size bytes s x h K) : apV T size bytes s x h fun v h' => K v h' ∧ ∃ w, Sub h' w := by
  unfold apV at a ⊢
  split at a
  · obtain ⟨new, hn, a⟩ := bnd_iff.1 a
    refine bnd_iff.2 ⟨new, hn, ?_⟩
    split at a
    · rename_i hle
      obtain ⟨h', hp, a⟩ := bnd_iff.1 a
      obtain ⟨w', _, s', _⟩ := run_put (P := { (default : Program) with }) hs hp
      rw [if_pos hle]; exact bnd_iff.2 ⟨_, hp, a, w', s'⟩
    · rename_i hle
      obtain ⟨old, ho, a1, a2, a3, a4, a⟩ := bnd_iff.1 a
      rw [if_neg hle]
      refine bnd_iff.2 ⟨old, ho, a1, a2, a3, a4, fun b' nc hb' hnc => ⟨a b' nc hb' hnc, world_upd hs hb' _ _ _ ?_⟩⟩
      rw [List.length_append, a3, a4, ← Nat.add_mul]; exact Nat.mul_le_mul_right _ hnc
  · exact a.elim
theorem gop_write (hc : cls op = .write) (g : gop P op e h K) :
    (∀ b (gb : GObj), h b = none → gop P op e (upd h b gb) fun v h' => ∃ h0, h0 b = none ∧ h' = upd h0 b gb ∧ K v h0) ∧
    (∀ w, Sub h w → gop P op e h fun v h' => K v h' ∧ ∃ w, Sub h' w) ∧
    (∀ K' : Value → GH → Prop, (∀ v h', K v h' → K' v h') → gop P op e h K') := by
  cases op <;> simp only [cls, reduceCtorEq] at hc
  case lookup t m k ok => cases ok <;> cases hc
  case store t x y =>
    simp only [gop] at g ⊢
    split at g
    · rename_i p v n gg hp hv hs
      obtain ⟨h', hh, g⟩ := bnd_iff.1 g
      refine ⟨fun b gb hb => ?_, fun w s => ?_, fun K' k => bnd_iff.2 ⟨h', hh, k _ _ g⟩⟩
      · obtain ⟨h1, h2⟩ := stV_upd (g := gb) hb hh
        exact bnd_iff.2 ⟨_, h2, h', h1, rfl, g⟩
      · obtain ⟨w', _, s', _⟩ := run_storeAt (P := P) hs s hh
        exact bnd_iff.2 ⟨h', hh, g, w', s'⟩
    · exact g.elim
  case call c =>
    simp only [gop] at g ⊢
    split at g
    · split at g
      · unfold callV at g ⊢
        split at g
        · exact ⟨fun b gb hb => g.frame hb gb, fun w s => g.world, fun K' k => g.mono k⟩
        · exact g.elim
      · exact g.elim
    · split at g
      · unfold ivV at g ⊢
        split at g
        · obtain ⟨f, r, hm, t⟩ := g
          exact ⟨fun b gb hb => ⟨f, r, hm, t.frame hb gb⟩, fun w s => ⟨f, r, hm, t.world⟩, fun K' k => ⟨f, r, hm, t.mono k⟩⟩
        · exact g.elim
      · exact g.elim
    · rename_i b hcc
      rw [hcc] at hc
      split at g
      · unfold gbi at g ⊢
        split at g
        · cases hc
        · split at g
          · split at g
            · split at g
              · split at g
                · exact ⟨fun b gb hb => apV_frame g hb gb, fun w s => apV_world s g, fun K' k => apV_mono g k⟩
                · exact g.elim
              · exact g.elim
            · exact g.elim
          · exact g.elim
        · cases hc
        · cases hc
        · obtain ⟨r, hv, g⟩ := bnd_iff.1 g
          exact ⟨fun b gb hb => bnd_iff.2 ⟨r, hv, h, hb, rfl, g⟩, fun w s => bnd_iff.2 ⟨r, hv, g, w, s⟩, fun K' k => bnd_iff.2 ⟨r, hv, k _ _ g⟩⟩
        · split at g
          · rename_i pt ht
            obtain ⟨r, hv, g⟩ := bnd_iff.1 g
            refine ⟨fun b gb hb => ?_, fun w s => ?_, fun K' k => bnd_iff.2 ⟨r, hv, k _ _ g⟩⟩
            · obtain ⟨h1, h2⟩ := usV_upd (g := gb) hb hv
              exact bnd_iff.2 ⟨_, h2, r.2, h1, rfl, g⟩
            · obtain ⟨w', _, s', _⟩ := run_us (P := P) (ty := 0) ht s hv
              exact bnd_iff.2 ⟨r, hv, g, w', s'⟩
          · exact g.elim
        · exact g.elim
      · exact g.elim
theorem gop_mono {K' : Value → GH → Prop} (g : gop P op e h K) (k : ∀ v h', K v h' → K' v h') : gop P op e h K' := by
  cases hc : cls op with
  | pure => obtain ⟨v, f⟩ := gop_pure hc g; exact (f _ _).2 (k _ _ ((f _ _).1 g))
  | load => obtain ⟨a, v, h1, h2, h3⟩ := gop_load hc g; exact gop_load_mk h1 h2 (k _ _ h3)
  | alloc => obtain ⟨val, T, pre, f⟩ := gop_alloc hc g; exact (f _ _).2 fun b hb => k _ _ ((f _ _).1 g b hb)
  | write => exact (gop_write hc g).2.2 _ k
  | none =>
    cases op <;> simp only [cls, reduceCtorEq] at hc <;> first | exact g.elim | (split at hc <;> cases hc; done) | skip
    case lookup t m k ok => cases ok <;> first | exact (g : False).elim | cases hc
    all_goals simp only [gop] at g ⊢
    all_goals repeat' (first | (exact (g : False).elim) | (split at g))
    all_goals first
      | (exact (g : False).elim)
      | (exact fun b hb => k _ _ (g b hb))
      | (obtain ⟨v, hv, g⟩ := bnd_iff.1 g; exact bnd_iff.2 ⟨v, hv, k _ _ g⟩)
theorem world_obj {w : World} (s : Sub h w) {b : Nat} (hb : h b = none) {es : Array MapEntry} {clock : Nat} : ∃ w, Sub (upd h b (.obj (.map es clock))) w := by
  refine ⟨{ w with heap := (w.heap ++ Array.replicate (b + 1 - w.heap.size) (Obj.cells #[] 0)).setIfInBounds b (.map es clock) }, ?_⟩
  intro k g hk
  by_cases hkb : k = b
  · subst hkb
    simp only [upd_same, Option.some.injEq] at hk
    subst hk
    refine ⟨.map es clock, ?_, rfl, fun c T f => by simp⟩
    simp only [Array.getElem?_setIfInBounds_self]
    rw [if_pos (by simp; omega)]
  · rw [upd_ne hkb] at hk
    obtain ⟨o, ho, hr⟩ := s k g hk
    refine ⟨o, ?_, hr⟩
    rw [Array.getElem?_setIfInBounds_ne (by omega)]
    rw [Array.getElem?_append_left (s.lt hk)]
    exact ho
theorem gop_world {w : World} (s : Sub h w) (g : gop P op e h K) : gop P op e h fun v h' => K v h' ∧ ∃ w, Sub h' w := by
  cases hc : cls op with
  | pure => obtain ⟨v, f⟩ := gop_pure hc g; exact (f _ _).2 ⟨(f _ _).1 g, w, s⟩
  | load => obtain ⟨a, v, h1, h2, h3⟩ := gop_load hc g; exact gop_load_mk h1 h2 ⟨h3, w, s⟩
  | alloc => obtain ⟨val, T, pre, f⟩ := gop_alloc hc g; exact (f _ _).2 fun b hb => ⟨(f _ _).1 g b hb, world_upd s hb _ _ _ (Nat.le_refl _)⟩
  | write => exact (gop_write hc g).2.1 w s
  | none =>
    cases op <;> simp only [cls, reduceCtorEq] at hc <;> first | exact g.elim | (split at hc <;> cases hc; done) | skip
    case lookup t m k ok => cases ok <;> first | exact (g : False).elim | cases hc
    all_goals simp only [gop] at g ⊢
    all_goals repeat' (first | (exact (g : False).elim) | (split at g))
    all_goals first
      | (exact (g : False).elim)
      | (exact fun b hb => ⟨g b hb, world_obj s hb⟩)
      | (rename_i hm; obtain ⟨v, hv, g⟩ := bnd_iff.1 g; obtain ⟨w', _, s', _⟩ := run_mapUpdate hm s hv; exact bnd_iff.2 ⟨v, hv, g, w', s'⟩)
      | (obtain ⟨v, hv, g⟩ := bnd_iff.1 g; exact bnd_iff.2 ⟨v, hv, g, w, s⟩)
theorem gop_const {R : Prop} {w : World} (s : Sub h w) (g : gop P op e h fun _ _ => R) : R := by
  cases hc : cls op with
  | pure => obtain ⟨v, f⟩ := gop_pure hc g; exact (f _ _).1 g
  | load => obtain ⟨a, v, h1, h2, h3⟩ := gop_load hc g; exact h3
  | alloc => obtain ⟨val, T, pre, f⟩ := gop_alloc hc g; exact (f _ _).1 g _ (s.fresh (Nat.le_refl _))
  | write =>
    cases op <;> simp only [cls, reduceCtorEq] at hc
    case lookup t m k ok => cases ok <;> cases hc
    case store t x y =>
      simp only [gop] at g
      split at g
      · obtain ⟨h', _, g⟩ := bnd_iff.1 g; exact g
      · exact g.elim
    case call c =>
      have tc : ∀ {f args}, T P f args h (fun _ _ => R) → R := fun t => by
        obtain ⟨e, w', fr, ⟨v, h', _, _, _, r⟩, _⟩ := t.calls w s []
        exact r
      simp only [gop] at g
      split at g
      · split at g
        · unfold callV at g
          split at g
          · exact tc g
          · exact g.elim
        · exact g.elim
      · split at g
        · unfold ivV at g
          split at g
          · obtain ⟨f, r, hm, t⟩ := g; exact tc t
          · exact g.elim
        · exact g.elim
      · rename_i b hcc
        rw [hcc] at hc
        split at g
        · unfold gbi at g
          split at g
          · cases hc
          · split at g
            · split at g
              · split at g
                · split at g
                  · unfold apV at g
                    split at g
                    · obtain ⟨new, _, g⟩ := bnd_iff.1 g
                      split at g
                      · obtain ⟨h', _, g⟩ := bnd_iff.1 g; exact g
                      · obtain ⟨old, _, _, _, _, _, g⟩ := bnd_iff.1 g
                        exact g _ _ (s.fresh (Nat.le_refl _)) (Nat.le_refl _)
                    · exact g.elim
                  · exact g.elim
                · exact g.elim
              · exact g.elim
            · exact g.elim
          · cases hc
          · cases hc
          · obtain ⟨r, hv, g⟩ := bnd_iff.1 g; exact g
          · split at g
            · obtain ⟨r, hv, g⟩ := bnd_iff.1 g; exact g
            · exact g.elim
          · exact g.elim
        · exact g.elim
  | none =>
    cases op <;> simp only [cls, reduceCtorEq] at hc <;> first | exact g.elim | (split at hc <;> cases hc; done) | skip
    case lookup t m k ok => cases ok <;> first | exact (g : False).elim | cases hc
    all_goals simp only [gop] at g
    all_goals repeat' (first | (exact (g : False).elim) | (split at g))
    all_goals first
      | (exact (g : False).elim)
      | (exact g _ (s.fresh (Nat.le_refl _)))
      | (obtain ⟨v, hv, g⟩ := bnd_iff.1 g; exact g)
def usesO : Operand → List Nat
  | .tmp t => [t]
  | _ => []
def uses (op : Op) : List Nat := op.operands.toList.flatMap usesO
theorem evO_congr {e e' : GEnv} {x : Operand} (hx : ∀ t ∈ usesO x, e t = e' t) : evO e x = evO e' x := by
  cases x <;> simp only [evO]
  rw [hx _ (by simp [usesO])]
theorem evL_congr {e e' : GEnv} : ∀ {xs : List Operand}, (∀ t ∈ xs.flatMap usesO, e t = e' t) → evL e xs = evL e' xs := by
  intro xs
  induction xs with
  | nil => intro _; rfl
  | cons x xs ih =>
    intro hx
    simp only [List.flatMap_cons, List.mem_append] at hx
    simp only [evL]
    rw [evO_congr (fun t ht => hx t (.inl ht)), ih (fun t ht => hx t (.inr ht))]
theorem evM_congr {e e' : GEnv} {x : Option Operand} (hx : ∀ t ∈ x.toArray.toList.flatMap usesO, e t = e' t) : evM e x = evM e' x := by
  cases x with
  | none => rfl
  | some x => simp only [evM]; rw [evO_congr (e' := e')]; simpa using hx
theorem partsK_congr {e e' : GEnv} (place : Nat → Option (Nat × Nat)) : ∀ {ps : List (Nat × Operand)}, (∀ t ∈ (ps.map (·.2)).flatMap usesO, e t = e' t) → partsK place e ps = partsK place e' ps := by
  intro ps
  induction ps with
  | nil => intro _; rfl
  | cons q ps ih =>
    intro hx
    obtain ⟨i, o⟩ := q
    simp only [List.map_cons, List.flatMap_cons, List.mem_append] at hx
    simp only [partsK]
    rw [evO_congr (fun t ht => hx t (.inl ht)), ih (fun t ht => hx t (.inr ht))]
theorem gop_congr {e e' : GEnv} (hu : ∀ t ∈ uses op, e t = e' t) : gop P op e h K = gop P op e' h K := by
  cases op <;> simp only [uses, Op.operands] at hu
  case call c =>
    simp only [gop]
    rw [evL_congr (xs := c.args.toList) (e' := e') (fun t ht => hu t (by simp only [Call.operands, Array.toList_append, List.flatMap_append, List.mem_append]; exact .inr ht))]
    split
    · rename_i f hcc
      rw [evO_congr (x := f) (e' := e') (fun t ht => hu t (by simp only [Call.operands, hcc, Array.toList_append, List.flatMap_append, List.mem_append]; left; simpa using ht))]
    · rename_i f name hcc
      rw [evO_congr (x := f) (e' := e') (fun t ht => hu t (by simp only [Call.operands, hcc, Array.toList_append, List.flatMap_append, List.mem_append]; left; simpa using ht))]
    · rfl
  case slice t x lo hi mx =>
    cases mx with
    | some m => rfl
    | none =>
      have h1 := evO_congr (x := x) (e := e) (e' := e') (fun t ht => hu t (by simp; left; exact ht))
      have h2 := evM_congr (x := lo) (e := e) (e' := e') (fun t ht => hu t (by simp at ht ⊢; right; left; exact ht))
      have h3 := evM_congr (x := hi) (e := e) (e' := e') (fun t ht => hu t (by simp at ht ⊢; right; right; exact ht))
      simp only [gop, h1, h2, h3]
  case mapUpdate t m k x =>
    have h1 := evO_congr (x := m) (e := e) (e' := e') (fun t ht => hu t (by simp; left; exact ht))
    have h2 := evO_congr (x := k) (e := e) (e' := e') (fun t ht => hu t (by simp; right; left; exact ht))
    have h3 := evO_congr (x := x) (e := e) (e' := e') (fun t ht => hu t (by simp; right; right; exact ht))
    simp only [gop, h1, h2, h3]
  case insert t m k x =>
    have h1 := evO_congr (x := m) (e := e) (e' := e') (fun t ht => hu t (by simp; left; exact ht))
    have h2 := evO_congr (x := k) (e := e) (e' := e') (fun t ht => hu t (by simp; right; left; exact ht))
    have h3 := evO_congr (x := x) (e := e) (e' := e') (fun t ht => hu t (by simp; right; right; exact ht))
    simp only [gop, h1, h2, h3]
  case makeMap t r => cases r <;> rfl
  case lookup t m k ok =>
    have h1 := evO_congr (x := m) (e := e) (e' := e') (fun t ht => hu t (by simp; left; exact ht))
    have h2 := evO_congr (x := k) (e := e) (e' := e') (fun t ht => hu t (by simp; right; exact ht))
    cases ok <;> simp only [gop, h1, h2]
  case build t ps =>
    have : ∀ place, partsK place e ps.toList = partsK place e' ps.toList := fun place => partsK_congr place (by simpa using hu)
    simp only [gop, this]
  case buildSlice t n ps =>
    have : ∀ place, partsK place e ps.toList = partsK place e' ps.toList := fun place => partsK_congr place (by simpa using hu)
    simp only [gop, this]
  case makeFunc fn f c =>
    have h1 := evL_congr (xs := f.toList) (e := e) (e' := e') (fun t ht => hu t (by simp at ht ⊢; left; exact ht))
    have h2 := evL_congr (xs := c.toList) (e := e) (e' := e') (fun t ht => hu t (by simp at ht ⊢; right; exact ht))
    simp only [gop, h1, h2]
  case pick c x y =>
    have h1 := evO_congr (x := c) (e := e) (e' := e') (fun t ht => hu t (by simp; left; exact ht))
    have h2 := evO_congr (x := x) (e := e) (e' := e') (fun t ht => hu t (by simp; right; left; exact ht))
    have h3 := evO_congr (x := y) (e := e) (e' := e') (fun t ht => hu t (by simp; right; right; exact ht))
    simp only [gop, h1, h2, h3]
  all_goals first
    | rfl
    | (rename_i x; have h1 := evO_congr (x := x) (e := e) (e' := e') (fun t ht => hu t (by simpa using ht)); simp only [gop, h1]; done)
    | (rename_i x _; have h1 := evO_congr (x := x) (e := e) (e' := e') (fun t ht => hu t (by simpa using ht)); simp only [gop, h1]; done)
    | (rename_i x _ _ _; have h1 := evO_congr (x := x) (e := e) (e' := e') (fun t ht => hu t (by simpa using ht)); simp only [gop, h1]; done)
    | (rename_i x _ _; have h1 := evO_congr (x := x) (e := e) (e' := e') (fun t ht => hu t (by simpa using ht)); simp only [gop, h1]; done)
    | (rename_i x y; have h1 := evO_congr (x := x) (e := e) (e' := e') (fun t ht => hu t (by simp; left; exact ht)); have h2 := evO_congr (x := y) (e := e) (e' := e') (fun t ht => hu t (by simp; right; exact ht)); simp only [gop, h1, h2]; done)
    | (rename_i x y _; have h1 := evO_congr (x := x) (e := e) (e' := e') (fun t ht => hu t (by simp; left; exact ht)); have h2 := evO_congr (x := y) (e := e) (e' := e') (fun t ht => hu t (by simp; right; exact ht)); simp only [gop, h1, h2]; done)
    | (simp only [gop]; done)
theorem laO_congr {e e' : GEnv} (hu : ∀ t ∈ uses op, e t = e' t) : laO P op e = laO P op e' := by
  cases op <;> simp only [uses, Op.operands] at hu <;> try rfl
  case load t x =>
    have h1 := evO_congr (x := x) (e := e) (e' := e') (fun t ht => hu t (by simpa using ht))
    simp only [laO, h1]
  case lookup t m k ok =>
    have h1 := evO_congr (x := m) (e := e) (e' := e') (fun t ht => hu t (by simp; left; exact ht))
    have h2 := evO_congr (x := k) (e := e) (e' := e') (fun t ht => hu t (by simp; right; exact ht))
    cases ok <;> simp only [laO, h1, h2]
end
def setE (e : GEnv) (d : Nat) (v : GV) : GEnv := fun i => match Nat.beq i d with | true => v | false => e i
def setD (e : GEnv) (d : Option Tmp) (v : GV) : GEnv := match d with | some d => setE e d v | none => e
theorem setE_same (e : GEnv) (d : Nat) (v : GV) : setE e d v d = v := by simp [setE]
theorem setE_ne (e : GEnv) {d i : Nat} (v : GV) (n : i ≠ d) : setE e d v i = e i := by
  have : Nat.beq i d = false := by rw [← Bool.not_eq_true]; intro q; exact n (Nat.eq_of_beq_eq_true q)
  simp [setE, this]
theorem setD_ne (e : GEnv) {d : Option Tmp} {i : Nat} (v : GV) (n : d ≠ some i) : setD e d v i = e i := by
  cases d with
  | none => rfl
  | some d => exact setE_ne e v (by rintro rfl; exact n rfl)
theorem setD_comm (e : GEnv) {d d' : Option Tmp} (v v' : GV) (n : ∀ k, d = some k → d' ≠ some k) : setD (setD e d v) d' v' = setD (setD e d' v') d v := by
  cases d with
  | none => rfl
  | some d =>
    cases d' with
    | none => rfl
    | some d' =>
      have hn : d' ≠ d := by rintro rfl; exact n _ rfl rfl
      funext i
      simp only [setD, setE]
      cases h1 : Nat.beq i d <;> cases h2 : Nat.beq i d' <;> simp
      exact absurd ((Nat.eq_of_beq_eq_true h2).symm.trans (Nat.eq_of_beq_eq_true h1)) hn
def gst (ops : Array Oper) (o : Oper) (e : GEnv) : Option Bool :=
  match o.guard with
  | none => some true
  | some (j, want) =>
    match (ops[j]?).bind (·.dst) with
    | some d => (match e d with | .skip => some false | .val (.bool b) => some (b == want) | _ => none)
    | none => none
def guardSlot (ops : Array Oper) (o : Oper) : List Nat :=
  match o.guard with
  | none => []
  | some (j, _) => match (ops[j]?).bind (·.dst) with | some d => [d] | none => []
theorem gst_setD (ops : Array Oper) (o : Oper) (e : GEnv) {d : Option Tmp} (v : GV) (hn : ∀ k, d = some k → k ∉ guardSlot ops o) : gst ops o (setD e d v) = gst ops o e := by
  unfold gst
  unfold guardSlot at hn
  split
  · rfl
  · rename_i j want hg
    simp only [hg] at hn
    split
    · rename_i k hk
      simp only [hk] at hn
      rw [setD_ne]
      intro hd; exact hn k hd (by simp)
    · rfl
abbrev Lds := List (Nat × LA × Value)
def ldsOk (ms : List Nat) (i : Nat) (h : GH) : Lds → Prop
  | [] => True
  | (x, a, v) :: r => ((ms.getD i 0).testBit x = true ∨ a.get h = some v) ∧ ldsOk ms i h r
theorem ldsOk_upd {ms : List Nat} {i : Nat} {h : GH} {b : Nat} {g : GObj} (hb : h b = none) : ∀ {l : Lds}, ldsOk ms i h l → ldsOk ms i (upd h b g) l := by
  intro l
  induction l with
  | nil => intro _; trivial
  | cons q l ih =>
    intro hl
    obtain ⟨x, a, v⟩ := q
    exact ⟨hl.1.imp id (LA.get_upd hb), ih hl.2⟩
def gxe (P : Program) (ops : Array Oper) (ms : List Nat) (i : Nat) (o : Oper) (e : GEnv) (h : GH) (lds : Lds) (K : GEnv → GH → Lds → Prop) : Prop :=
  match gst ops o e with
  | none => False
  | some false => K (setD e o.dst .skip) h lds
  | some true =>
    match cls o.op with
    | .load => ∃ a v, laO P o.op e = some a ∧ a.get h = some v ∧ K (setD e o.dst (.val v)) h ((i, a, v) :: lds)
    | .write => gop P o.op e h fun v h' => ldsOk ms i h' lds ∧ K (setD e o.dst (.val v)) h' lds
    | .none => False
    | _ => gop P o.op e h fun v h' => K (setD e o.dst (.val v)) h' lds
def gdr (P : Program) (ops : Array Oper) (ms : List Nat) : List Nat → GEnv → GH → Lds → (GEnv → GH → Prop) → Prop
  | [], e, h, _, Q => Q e h
  | i :: r, e, h, lds, Q =>
    match ops[i]? with
    | none => False
    | some o => gxe P ops ms i o e h lds fun e h lds => gdr P ops ms r e h lds Q
def classB (x i : Cls) : Bool :=
  match x, i with
  | .none, _ => false
  | _, .none => false
  | .pure, _ => true
  | .load, _ => true
  | .alloc, .pure => true
  | .alloc, .alloc => true
  | .write, .alloc => true
  | _, _ => false
structure Indep (ops : Array Oper) (ox oi : Oper) : Prop where
  d1 : ∀ d, ox.dst = some d → d ∉ uses oi.op ∧ d ∉ guardSlot ops oi ∧ oi.dst ≠ some d
  d2 : ∀ d, oi.dst = some d → d ∉ uses ox.op ∧ d ∉ guardSlot ops ox
  cl : classB (cls ox.op) (cls oi.op) = true
theorem gop_setD {P : Program} {op : Op} {e : GEnv} {h : GH} {K : Value → GH → Prop} {d : Option Tmp} (v : GV) (hn : ∀ k, d = some k → k ∉ uses op) : gop P op (setD e d v) h K = gop P op e h K := by
  apply gop_congr
  intro t ht
  rw [setD_ne]
  intro hd; exact hn t hd ht
theorem laO_setD {P : Program} {op : Op} {e : GEnv} {d : Option Tmp} (v : GV) (hn : ∀ k, d = some k → k ∉ uses op) : laO P op (setD e d v) = laO P op e := by
  apply laO_congr
  intro t ht
  rw [setD_ne]
  intro hd; exact hn t hd ht
section
variable {P : Program} {ops : Array Oper} {ms : List Nat} {i : Nat} {o : Oper} {e : GEnv} {h : GH} {lds : Lds} {K K' : GEnv → GH → Lds → Prop}
theorem gxe_mono {w : World} (s : Sub h w) (g : gxe P ops ms i o e h lds K) (k : ∀ v h' l', (∃ w, Sub h' w) → K (setD e o.dst v) h' l' → K' (setD e o.dst v) h' l') : gxe P ops ms i o e h lds K' := by
  unfold gxe at g ⊢
  cases hg : gst ops o e with
  | none => simp only [hg] at g
  | some b =>
    simp only [hg] at g ⊢
    cases b with
    | false => exact k _ _ _ ⟨w, s⟩ g
    | true =>
      simp only at g ⊢
      cases hc : cls o.op with
      | load => simp only [hc] at g ⊢; obtain ⟨a, v, h1, h2, g⟩ := g; exact ⟨a, v, h1, h2, k _ _ _ ⟨w, s⟩ g⟩
      | write => simp only [hc] at g ⊢; exact gop_mono (gop_world s g) fun v h' ⟨⟨q1, q2⟩, q3⟩ => ⟨q1, k _ _ _ q3 q2⟩
      | none => simp only [hc] at g
      | pure => simp only [hc] at g ⊢; exact gop_mono (gop_world s g) fun v h' ⟨q2, q3⟩ => k _ _ _ q3 q2
      | alloc => simp only [hc] at g ⊢; exact gop_mono (gop_world s g) fun v h' ⟨q2, q3⟩ => k _ _ _ q3 q2
theorem gxe_env {d : Option Tmp} (v : GV) (hd : ∀ k, d = some k → k ∉ uses o.op ∧ k ∉ guardSlot ops o ∧ o.dst ≠ some k) :
    gxe P ops ms i o (setD e d v) h lds K ↔ gxe P ops ms i o e h lds fun e1 h1 l1 => K (setD e1 d v) h1 l1 := by
  have dc : ∀ (e : GEnv) (v'), setD (setD e d v) o.dst v' = setD (setD e o.dst v') d v := fun e v' => setD_comm e v v' (fun k hk => (hd k hk).2.2)
  unfold gxe
  rw [gst_setD ops o e v (fun k hk => (hd k hk).2.1)]
  cases gst ops o e with
  | none => exact Iff.rfl
  | some b =>
    cases b with
    | false => simp only [dc]
    | true =>
      simp only
      cases hc : cls o.op with
      | load =>
        simp only
        constructor
        · rintro ⟨a, u, h1, h2, g⟩
          rw [laO_setD v (fun k hk => (hd k hk).1)] at h1
          rw [dc] at g
          exact ⟨a, u, h1, h2, g⟩
        · rintro ⟨a, u, h1, h2, g⟩
          refine ⟨a, u, ?_, h2, by rw [dc]; exact g⟩
          rw [laO_setD v (fun k hk => (hd k hk).1)]; exact h1
      | write => simp only [gop_setD v (fun k hk => (hd k hk).1), dc]
      | none => exact Iff.rfl
      | pure => simp only [gop_setD v (fun k hk => (hd k hk).1), dc]
      | alloc => simp only [gop_setD v (fun k hk => (hd k hk).1), dc]
theorem gxe_ld {x : Nat} {la : LA} {v : Value} (hms : (ms.getD i 0).testBit x = false) (hv : la.get h = some v) (perm : ∀ e h l l', List.Perm l l' → K e h l → K e h l')
    (g : gxe P ops ms i o e h ((x, la, v) :: lds) K) : gxe P ops ms i o e h lds fun e1 h1 l1 => K e1 h1 ((x, la, v) :: l1) ∧ la.get h1 = some v := by
  unfold gxe at g ⊢
  cases hg : gst ops o e with
  | none => simp only [hg] at g
  | some b =>
    simp only [hg] at g ⊢
    cases b with
    | false => exact ⟨g, hv⟩
    | true =>
      simp only at g ⊢
      cases hc : cls o.op with
      | load =>
        simp only [hc] at g ⊢
        obtain ⟨a', v', h1, h2, g⟩ := g
        exact ⟨a', v', h1, h2, perm _ _ _ _ (List.Perm.swap _ _ _) g, hv⟩
      | write =>
        simp only [hc] at g ⊢
        refine gop_mono g fun u h' q => ?_
        obtain ⟨⟨q1, q2⟩, q3⟩ := q
        refine ⟨q2, q3, ?_⟩
        rcases q1 with q1 | q1
        · rw [hms] at q1; cases q1
        · exact q1
      | none => simp only [hc] at g
      | pure =>
        simp only [hc] at g ⊢
        obtain ⟨u, f⟩ := gop_pure hc g
        exact (f _ _).2 ⟨(f _ _).1 g, hv⟩
      | alloc =>
        simp only [hc] at g ⊢
        obtain ⟨val, T, pre, f⟩ := gop_alloc hc g
        exact (f _ _).2 fun b hb => ⟨(f _ _).1 g b hb, LA.get_upd hb hv⟩
theorem gxe_swap {x : Nat} {ox : Oper} (ind : Indep ops ox o) (hms : (ms.getD i 0).testBit x = false) {w : World} (s : Sub h w) (perm : ∀ e h l l', List.Perm l l' → K e h l → K e h l')
    (g : gxe P ops ms x ox e h lds fun e1 h1 l1 => gxe P ops ms i o e1 h1 l1 K) : gxe P ops ms i o e h lds fun e1 h1 l1 => gxe P ops ms x ox e1 h1 l1 K := by
  have gx : ∀ (e : GEnv) (v : GV), gst ops ox (setD e o.dst v) = gst ops ox e := fun e v => gst_setD ops ox e v (fun k hk => (ind.d2 k hk).2)
  have ox' : ∀ (e : GEnv) (v : GV) h K, gop P ox.op (setD e o.dst v) h K = gop P ox.op e h K := fun e v h K => gop_setD v (fun k hk => (ind.d2 k hk).1)
  have lx : ∀ (e : GEnv) (v : GV), laO P ox.op (setD e o.dst v) = laO P ox.op e := fun e v => laO_setD v (fun k hk => (ind.d2 k hk).1)
  have ec : ∀ {v : GV} {h l K}, gxe P ops ms i o (setD e ox.dst v) h l K ↔ gxe P ops ms i o e h l fun e1 h1 l1 => K (setD e1 ox.dst v) h1 l1 := fun {v h l K} => gxe_env v ind.d1
  have cl := ind.cl
  unfold gxe at g
  cases hgx : gst ops ox e with
  | none => simp only [hgx] at g
  | some bx =>
    simp only [hgx] at g
    cases bx with
    | false =>
      simp only at g
      refine gxe_mono s (ec.1 g) fun v h' l' _ q => ?_
      unfold gxe; simp only [gx, hgx]; exact q
    | true =>
      simp only at g
      cases hcx : cls ox.op with
      | none => simp only [hcx] at g
      | pure =>
        simp only [hcx] at g
        obtain ⟨u, f⟩ := gop_pure hcx g
        refine gxe_mono s (ec.1 ((f _ _).1 g)) fun v h' l' _ q => ?_
        unfold gxe; simp only [gx, hgx, hcx, ox']; exact (f _ _).2 q
      | load =>
        simp only [hcx] at g
        obtain ⟨la, u, h1, h2, g⟩ := g
        have perm' : ∀ e1 h1 l l', List.Perm l l' → K (setD e1 ox.dst (.val u)) h1 l → K (setD e1 ox.dst (.val u)) h1 l' := fun _ _ _ _ pp kk => perm _ _ _ _ pp kk
        refine gxe_mono s (gxe_ld hms h2 perm' (ec.1 g)) fun v h' l' _ q => ?_
        unfold gxe; simp only [gx, hgx, hcx]
        exact ⟨la, u, by rw [lx]; exact h1, q.2, q.1⟩
      | alloc =>
        simp only [hcx] at g
        obtain ⟨val, T, pre, f⟩ := gop_alloc hcx g
        have g' := (f _ _).1 g
        have g0 := ec.1 (g' _ (s.fresh (Nat.le_refl _)))
        have after : ∀ v h' l', (∀ b, h' b = none → K (setD (setD e o.dst v) ox.dst (.val (val b))) (upd h' b (.row T pre pre.length true)) l') → gxe P ops ms x ox (setD e o.dst v) h' l' K := by
          intro v h' l' q
          unfold gxe; simp only [gx, hgx, hcx, ox']; exact (f _ _).2 q
        unfold gxe at g0
        cases hgi : gst ops o e with
        | none => simp only [hgi] at g0
        | some bi =>
          cases bi with
          | false =>
            unfold gxe; simp only [hgi]
            refine after _ _ _ fun b hb => ?_
            have := ec.1 (g' b hb)
            unfold gxe at this; simp only [hgi] at this; exact this
          | true =>
            simp only [hgi] at g0
            cases hci : cls o.op with
            | none => simp only [hci] at g0
            | load => rw [hcx, hci] at cl; cases cl
            | write => rw [hcx, hci] at cl; cases cl
            | pure =>
              simp only [hci] at g0
              obtain ⟨u, fu⟩ := gop_pure hci g0
              unfold gxe; simp only [hgi, hci]
              refine (fu _ _).2 (after _ _ _ fun b hb => ?_)
              have := ec.1 (g' b hb)
              unfold gxe at this; simp only [hgi, hci] at this
              exact (fu _ _).1 this
            | alloc =>
              simp only [hci] at g0
              obtain ⟨val2, T2, pre2, fu⟩ := gop_alloc hci g0
              unfold gxe; simp only [hgi, hci]
              refine (fu _ _).2 fun b2 hb2 => after _ _ _ fun b hb => ?_
              have hne : b ≠ b2 := by rintro rfl; simp at hb
              rw [upd_ne hne] at hb
              have := ec.1 (g' b hb)
              unfold gxe at this; simp only [hgi, hci] at this
              have := (fu _ _).1 this b2 (by rw [upd_ne (Ne.symm hne)]; exact hb2)
              rw [upd_comm _ _ _ hne] at this
              exact this
      | write =>
        simp only [hcx] at g
        have g1 : gop P ox.op e h fun v h' => ldsOk ms x h' lds ∧ gxe P ops ms i o e h' lds fun e1 h1 l1 => K (setD e1 ox.dst (.val v)) h1 l1 := gop_mono g fun v h' q => ⟨q.1, ec.1 q.2⟩
        have after : ∀ v h' l', (gop P ox.op e h' fun u h2 => ldsOk ms x h2 l' ∧ K (setD (setD e o.dst v) ox.dst (.val u)) h2 l') → gxe P ops ms x ox (setD e o.dst v) h' l' K := by
          intro v h' l' q
          unfold gxe; simp only [gx, hgx, hcx, ox']; exact q
        cases hgi : gst ops o e with
        | none => exact False.elim (gop_const s (gop_mono g1 fun v h' q => by have := q.2; unfold gxe at this; simp only [hgi] at this))
        | some bi =>
          cases bi with
          | false =>
            unfold gxe; simp only [hgi]
            refine after _ _ _ (gop_mono g1 fun v h' q => ⟨q.1, ?_⟩)
            have := q.2; unfold gxe at this; simp only [hgi] at this; exact this
          | true =>
            cases hci : cls o.op with
            | none => rw [hcx, hci] at cl; cases cl
            | load => rw [hcx, hci] at cl; cases cl
            | write => rw [hcx, hci] at cl; cases cl
            | pure => rw [hcx, hci] at cl; cases cl
            | alloc =>
              have g2 : gop P ox.op e h fun v h' => ldsOk ms x h' lds ∧ gop P o.op e h' fun v2 h2 => K (setD (setD e o.dst (.val v2)) ox.dst (.val v)) h2 lds := by
                refine gop_mono g1 fun v h' q => ⟨q.1, ?_⟩
                have := q.2; unfold gxe at this; simp only [hgi, hci] at this; exact this
              have hex : ∃ (val : Nat → Value) (T : TypeId) (pre : List Value), ∀ h' (K' : Value → GH → Prop), gop P o.op e h' K' ↔ ∀ b, h' b = none → K' (val b) (upd h' b (.row T pre pre.length true)) :=
                gop_const s (gop_mono g2 fun v h' q => gop_alloc hci q.2)
              obtain ⟨val2, T2, pre2, fu⟩ := hex
              unfold gxe; simp only [hgi, hci]
              refine (fu _ _).2 fun b2 hb2 => after _ _ _ ?_
              refine gop_mono ((gop_write hcx g2).1 b2 (.row T2 pre2 pre2.length true) hb2) fun v h' q => ?_
              obtain ⟨h0, q0, rfl, q1, q2⟩ := q
              exact ⟨ldsOk_upd q0 q1, (fu _ _).1 q2 b2 q0⟩
end
structure Rel (N : Nat) (h0 : GH) (w0 : World) (e : GEnv) (h : GH) (a : Act) (w : World) : Prop where
  env : ESub e a.tmps
  size : a.tmps.size = N
  defers : a.defers = []
  sub : Sub h w
  step : Step h0 w0 h w
theorem ESub.set {e : GEnv} {tmps : Array Value} (s : ESub e tmps) {d : Nat} (hd : d < tmps.size) {g : GV} {v : Value} (hv : ∀ u, g = .val u → v = u) (hs : g = .skip → v = undef) : ESub (setE e d g) (tmps.setIfInBounds d v) := by
  constructor
  · intro i u hu
    by_cases hi : i = d
    · subst hi; rw [setE_same] at hu; rw [hv u hu]; simp [hd]
    · rw [setE_ne _ _ hi] at hu; simp [Array.getElem?_setIfInBounds_ne (Ne.symm hi), s.val i u hu]
  · intro i hu
    by_cases hi : i = d
    · subst hi; rw [setE_same] at hu; rw [hs hu]; simp [hd]
    · rw [setE_ne _ _ hi] at hu; simp [Array.getElem?_setIfInBounds_ne (Ne.symm hi), s.skip i hu]
theorem Rel.put {N : Nat} {h0 h : GH} {w0 w : World} {e : GEnv} {a : Act} (r : Rel N h0 w0 e h a w) {d : Option Tmp} (hd : ∀ k, d = some k → k < N) {g : GV} {v : Value} (hv : ∀ u, g = .val u → v = u) (hs : g = .skip → v = undef) {h' : GH} {w' : World}
    (s' : Sub h' w') (st : Step h w h' w') : Rel N h0 w0 (setD e d g) h' (a.put d v) w' := by
  cases d with
  | none => exact ⟨r.env, r.size, r.defers, s', r.step.trans st⟩
  | some d =>
    refine ⟨r.env.set (by rw [r.size]; exact hd d rfl) hv hs, ?_, r.defers, s', r.step.trans st⟩
    simp [Act.put, r.size]
theorem wanted_of_gst {ops : Array Oper} {o : Oper} {e : GEnv} {tmps : Array Value} (he : ESub e tmps) {b : Bool} (h : gst ops o e = some b) : Region.wanted o (yielded ops tmps) = b := by
  unfold gst at h
  unfold Region.wanted
  split at h
  · rename_i hg; cases h; simp only [hg]
  · rename_i j want hg
    simp only [hg]
    split at h
    · rename_i d hd
      split at h
      · rename_i he'
        cases h
        simp only [yielded, hd, Option.bind_some, he.skip d he', undef]
        simp
      · rename_i b' he'
        cases h
        simp only [yielded, hd, Option.bind_some, he.val d _ he']
        simp
      · cases h
    · cases h
section
variable {P : Program} {ops : Array Oper} {ms : List Nat} {Qw : Exit → Act → World → Prop} {N : Nat} {h0 : GH} {w0 : World}
theorem gop_wp {o : Oper} {e : GEnv} {h : GH} {a : Act} {w : World} {K : Value → GH → Prop} (r : Rel N h0 w0 e h a w) (hd : ∀ k, o.dst = some k → k < N) (g : gop P o.op e h K) (next : Act → World → Prop)
    (hn : ∀ v h' a' w', K v h' → Rel N h0 w0 (setD e o.dst (.val v)) h' a' w' → next a' w') : o.wp P a w next Qw := by
  unfold Oper.wp
  rcases gop_out r.env r.sub g with ⟨v, w', h', hr, s', st, k⟩ | ⟨w', h', hr, s', st, k⟩ | ⟨f, args, hr, t⟩
  · rw [hr, Oper.upon_value]
    exact hn v h' _ _ k (r.put hd (fun u hu => by cases hu; rfl) (fun hu => by cases hu) s' st)
  · rw [hr, Oper.upon_skip]
    exact hn undef h' _ _ k (r.put hd (fun u hu => by cases hu; rfl) (fun hu => by cases hu) s' st)
  · rw [hr, Oper.upon_enter]
    refine (t.calls w r.sub).mono fun e' w' ⟨v, h', he, hs, hst, hk⟩ => ?_
    subst he
    exact hn v h' _ _ hk (r.put hd (fun u hu => by cases hu; rfl) (fun hu => by cases hu) hs hst)
theorem gxe_wpOp {i : Nat} {o : Oper} (hi : ops[i]? = some o) {e : GEnv} {h : GH} {lds : Lds} {K : GEnv → GH → Lds → Prop} {a : Act} {w : World} (r : Rel N h0 w0 e h a w) (hd : ∀ k, o.dst = some k → k < N)
    (g : gxe P ops ms i o e h lds K) {next : Act → World → Prop} (hn : ∀ e' h' l' a' w', K e' h' l' → Rel N h0 w0 e' h' a' w' → next a' w') : wpOp P ops Qw i next a w := by
  unfold wpOp
  simp only [hi]
  unfold gxe at g
  cases hg : gst ops o e with
  | none => simp only [hg] at g
  | some b =>
    simp only [hg] at g
    rw [wanted_of_gst r.env hg]
    cases b with
    | false =>
      simp only [Bool.false_eq_true, if_false]
      exact hn _ _ _ _ _ g (r.put hd (fun u hu => by cases hu) (fun _ => rfl) r.sub (.refl _ _))
    | true =>
      simp only [if_true]
      left
      simp only at g
      cases hc : cls o.op with
      | none => simp only [hc] at g
      | load =>
        simp only [hc] at g
        obtain ⟨la, v, h1, h2, g⟩ := g
        exact gop_wp r hd (K := fun u h' => u = v ∧ h' = h) (gop_load_mk h1 h2 ⟨rfl, rfl⟩) next fun u h' a' w' q r' => by obtain ⟨rfl, rfl⟩ := q; exact hn _ _ _ _ _ g r'
      | write => simp only [hc] at g; exact gop_wp r hd g next fun v h' a' w' q r' => hn _ _ _ _ _ q.2 r'
      | pure => simp only [hc] at g; exact gop_wp r hd g next fun v h' a' w' q r' => hn _ _ _ _ _ q r'
      | alloc => simp only [hc] at g; exact gop_wp r hd g next fun v h' a' w' q r' => hn _ _ _ _ _ q r'
theorem ldsOk_perm {i : Nat} {h : GH} {l l' : Lds} (p : List.Perm l l') : ldsOk ms i h l → ldsOk ms i h l' := by
  induction p with
  | nil => exact id
  | cons x _ ih => intro q; exact ⟨q.1, ih q.2⟩
  | swap x y l => intro q; exact ⟨q.2.1, q.1, q.2.2⟩
  | trans _ _ ih1 ih2 => exact fun q => ih2 (ih1 q)
theorem gdr_perm {Q : GEnv → GH → Prop} : ∀ (c : List Nat) (e : GEnv) (h : GH) (l l' : Lds), List.Perm l l' → gdr P ops ms c e h l Q → gdr P ops ms c e h l' Q := by
  intro c
  induction c with
  | nil => intro e h l l' _ g; exact g
  | cons i c ih =>
    intro e h l l' p g
    simp only [gdr] at g ⊢
    split at g
    · exact g.elim
    · rename_i o ho
      unfold gxe at g ⊢
      cases hg : gst ops o e with
      | none => simp only [hg] at g
      | some b =>
        simp only [hg] at g ⊢
        cases b with
        | false => exact ih _ _ _ _ p g
        | true =>
          simp only at g ⊢
          cases hc : cls o.op with
          | none => simp only [hc] at g
          | load => simp only [hc] at g ⊢; obtain ⟨la, v, h1, h2, g⟩ := g; exact ⟨la, v, h1, h2, ih _ _ _ _ (p.cons _) g⟩
          | write => simp only [hc] at g ⊢; exact gop_mono g fun v h' q => ⟨ldsOk_perm p q.1, ih _ _ _ _ p q.2⟩
          | pure => simp only [hc] at g ⊢; exact gop_mono g fun v h' q => ih _ _ _ _ p q
          | alloc => simp only [hc] at g ⊢; exact gop_mono g fun v h' q => ih _ _ _ _ p q
theorem gdr_pull {Q : GEnv → GH → Prop} {i : Nat} {o : Oper} (hi : ops[i]? = some o) : ∀ (xs ys : List Nat), (∀ x ∈ xs, (ms.getD i 0).testBit x = false ∧ ∀ ox, ops[x]? = some ox → Indep ops ox o) →
    ∀ (e : GEnv) (h : GH) (l : Lds), (∃ w, Sub h w) → gdr P ops ms (xs ++ i :: ys) e h l Q → gdr P ops ms (i :: (xs ++ ys)) e h l Q := by
  intro xs
  induction xs with
  | nil => intro ys _ e h l _ g; exact g
  | cons x xs ih =>
    intro ys hx e h l hw g
    obtain ⟨w, s⟩ := hw
    simp only [List.cons_append, gdr] at g ⊢
    cases hox : ops[x]? with
    | none => simp only [hox] at g
    | some ox =>
      simp only [hox, hi] at g ⊢
      have g1 : gxe P ops ms x ox e h l fun e1 h1 l1 => gxe P ops ms i o e1 h1 l1 fun e2 h2 l2 => gdr P ops ms (xs ++ ys) e2 h2 l2 Q := by
        refine gxe_mono s g fun v h' l' hw' q => ?_
        have := ih ys (fun x hxx => hx x (List.mem_cons_of_mem _ hxx)) _ _ _ hw' q
        simp only [gdr, hi] at this
        exact this
      obtain ⟨hb, hind⟩ := hx x (by simp)
      exact gxe_swap (hind ox hox) hb s (fun e h l l' p q => gdr_perm _ _ _ _ _ p q) g1
def predsOf (o : Oper) : List Nat := (o.after.toList.filter (Region.binds .any)).map (·.on)
def memN (x : Nat) : List Nat → Bool
  | [] => false
  | y :: l => match Nat.beq x y with | true => true | false => memN x l
theorem memN_iff {x : Nat} : ∀ {l : List Nat}, memN x l = true ↔ x ∈ l := by
  intro l
  induction l with
  | nil => simp [memN]
  | cons y l ih =>
    simp only [memN, List.mem_cons]
    cases h : Nat.beq x y with
    | true => simp [Nat.eq_of_beq_eq_true h]
    | false =>
      have : x ≠ y := by rintro rfl; simp at h
      simp [this, ih]
def notN (x : Nat) (l : List Nat) : Bool := !memN x l
theorem notN_iff {x : Nat} {l : List Nat} : notN x l = true ↔ x ∉ l := by
  unfold notN
  rw [← memN_iff]; simp
def indepB (ops : Array Oper) (ox oi : Oper) : Bool :=
  (match ox.dst with | none => true | some d => notN d (uses oi.op) && (notN d (guardSlot ops oi) && (match oi.dst with | none => true | some k => !Nat.beq k d))) &&
  ((match oi.dst with | none => true | some d => notN d (uses ox.op) && notN d (guardSlot ops ox)) && classB (cls ox.op) (cls oi.op))
theorem indepB_spec {ox oi : Oper} (h : indepB ops ox oi = true) : Indep ops ox oi := by
  unfold indepB at h
  simp only [Bool.and_eq_true] at h
  obtain ⟨h1, h2, h3⟩ := h
  refine ⟨fun d hd => ?_, fun d hd => ?_, h3⟩
  · simp only [hd, Bool.and_eq_true, notN_iff] at h1
    refine ⟨h1.1, h1.2.1, fun hk => ?_⟩
    have := h1.2.2
    simp [hk] at this
  · simp only [hd, Bool.and_eq_true, notN_iff] at h2
    exact h2
def pairB (ops : Array Oper) (ms : List Nat) (x i : Nat) : Bool :=
  match (ms.getD i 0).testBit x with
  | true => true
  | false => match ops[x]?, ops[i]? with | some ox, some oi => indepB ops ox oi | _, _ => false
def maskOf (ms : List Nat) (o : Oper) : Nat := (predsOf o).foldl (fun m y => m ||| (1 <<< y) ||| ms.getD y 0) 0
def pairsB (ops : Array Oper) (ms : List Nat) : List Nat → Bool
  | [] => true
  | x :: r => r.all (pairB ops ms x) && pairsB ops ms r
def orderB (ops : Array Oper) : List Nat → Bool
  | [] => true
  | i :: r => (match ops[i]? with | some o => (predsOf o).all (fun y => notN y r) | none => false) && orderB ops r
def masksB (ops : Array Oper) (ms : List Nat) : Bool :=
  (List.range ops.size).all fun i => match ops[i]? with | some o => Nat.beq (ms.getD i 0) (maskOf ms o) && (predsOf o).all (fun y => Nat.blt y i) | none => false
def nodupB : List Nat → Bool
  | [] => true
  | x :: r => notN x r && nodupB r
theorem nodupB_spec : ∀ {c : List Nat}, nodupB c = true → c.Nodup := by
  intro c
  induction c with
  | nil => intro _; exact List.nodup_nil
  | cons x c ih =>
    intro h
    simp only [nodupB, Bool.and_eq_true, notN_iff] at h
    exact List.nodup_cons.2 ⟨h.1, ih h.2⟩
def drawB (ops : Array Oper) (c ms : List Nat) : Bool :=
  (List.range ops.size).all (fun i => memN i c) && ((Nat.beq c.length ops.size && (nodupB c && c.all (fun i => Nat.blt i ops.size))) && (orderB ops c && (masksB ops ms && pairsB ops ms c)))
theorem mask_bit {o : Oper} {x : Nat} (h : (maskOf ms o).testBit x = true) : ∃ y ∈ predsOf o, y = x ∨ (ms.getD y 0).testBit x = true := by
  unfold maskOf at h
  have key : ∀ (l : List Nat) (m : Nat), (l.foldl (fun m y => m ||| (1 <<< y) ||| ms.getD y 0) m).testBit x = true → m.testBit x = true ∨ ∃ y ∈ l, y = x ∨ (ms.getD y 0).testBit x = true := by
    intro l
    induction l with
    | nil => intro m hm; exact .inl hm
    | cons y l ih =>
      intro m hm
      simp only [List.foldl_cons] at hm
      rcases ih _ hm with q | ⟨z, hz, q⟩
      · simp only [Nat.testBit_or, Bool.or_eq_true] at q
        rcases q with (q | q) | q
        · exact .inl q
        · right; refine ⟨y, by simp, .inl ?_⟩
          rw [Nat.one_shiftLeft, Nat.testBit_two_pow] at q
          simpa using q
        · right; exact ⟨y, by simp, .inr q⟩
      · right; exact ⟨z, List.mem_cons_of_mem _ hz, q⟩
  rcases key _ _ h with q | q
  · simp at q
  · exact q
theorem getD_both {l : Array Bool} {i : Nat} (h : i < l.size) : l.getD i true = l.getD i false := by
  simp [Array.getD, h]
theorem mem_preds {o : Oper} {y : Nat} : y ∈ predsOf o ↔ ∃ e ∈ o.after, Region.binds .any e = true ∧ e.on = y := by
  unfold predsOf
  simp only [List.mem_map, List.mem_filter, Array.mem_toList_iff]
  constructor
  · rintro ⟨e, ⟨h1, h2⟩, h3⟩; exact ⟨e, h1, h2, h3⟩
  · rintro ⟨e, h1, h2, h3⟩; exact ⟨e, ⟨h1, h2⟩, h3⟩
theorem masks_all (hmask : masksB ops ms = true) {i : Nat} {o : Oper} (ho : ops[i]? = some o) : ms.getD i 0 = maskOf ms o ∧ ∀ y ∈ predsOf o, y < i := by
  have hi : i < ops.size := (Array.getElem?_eq_some_iff.1 ho).1
  have := List.all_eq_true.1 hmask i (by simpa using hi)
  simp only [ho, Bool.and_eq_true, List.all_eq_true] at this
  exact ⟨Nat.eq_of_beq_eq_true this.1, fun y hy => by have := this.2 y hy; exact Nat.le_of_ble_eq_true this⟩
theorem done_of_bit (hmask : masksB ops ms = true) {listed : Array Bool} (hcl : ∀ i o, ops[i]? = some o → listed.getD i false = true → ∀ y ∈ predsOf o, listed.getD y false = true) {x : Nat} :
    ∀ (n i : Nat) (o : Oper), i ≤ n → ops[i]? = some o → (∀ y ∈ predsOf o, listed.getD y false = true) → (ms.getD i 0).testBit x = true → listed.getD x false = true := by
  intro n
  induction n with
  | zero =>
    intro i o hi ho hp hb
    obtain ⟨hm, hlt⟩ := masks_all hmask ho
    rw [hm] at hb
    obtain ⟨y, hy, q⟩ := mask_bit hb
    have := hlt y hy; omega
  | succ n ih =>
    intro i o hi ho hp hb
    obtain ⟨hm, hlt⟩ := masks_all hmask ho
    rw [hm] at hb
    obtain ⟨y, hy, q⟩ := mask_bit hb
    have hyl := hlt y hy
    rcases q with rfl | q
    · exact hp _ hy
    · have hi' : i < ops.size := (Array.getElem?_eq_some_iff.1 ho).1
      have hoy : ops[y]? = some ops[y] := Array.getElem?_eq_getElem (by omega)
      exact ih y _ (by omega) hoy (hcl y _ hoy (hp y hy)) q
theorem gdr_any {Q : GEnv → GH → Prop} (hmask : masksB ops ms = true) (hdst : ∀ (i : Nat) (o : Oper) (k : Nat), ops[i]? = some o → o.dst = some k → k < N) (hQ : ∀ e h a w, Q e h → Rel N h0 w0 e h a w → Qw .normal a w) :
    ∀ (fuel : Nat) (listed : Array Bool) (c : List Nat) (e : GEnv) (h : GH) (l : Lds) (a : Act) (w : World),
      c.length ≤ fuel → c.Nodup → (∀ i, i ∈ c ↔ i < ops.size ∧ listed.getD i false = false) → listed.size = ops.size →
      (∀ (i : Nat) (o : Oper), ops[i]? = some o → listed.getD i false = true → ∀ y ∈ predsOf o, listed.getD y false = true) →
      c.Pairwise (fun x i => pairB ops ms x i = true) → c.Pairwise (fun i x => ∀ o : Oper, ops[i]? = some o → x ∉ predsOf o) →
      Rel N h0 w0 e h a w → gdr P ops ms c e h l Q → wpAny P .any ops Qw fuel listed a w := by
  have ready_mem : ∀ {listed : Array Bool} {c : List Nat} {i : Nat}, (∀ i, i ∈ c ↔ i < ops.size ∧ listed.getD i false = false) → listed.size = ops.size → i ∈ Region.ready .any ops listed → i ∈ c := by
    intro listed c i hmem hsz hi
    rw [mem_ready] at hi
    obtain ⟨h1, o, ho, _⟩ := hi
    have hlt : i < ops.size := (Array.getElem?_eq_some_iff.1 ho).1
    exact (hmem i).2 ⟨hlt, by rw [← getD_both (by omega)]; exact h1⟩
  intro fuel
  induction fuel with
  | zero =>
    intro listed c e h l a w hlen hnd hmem hsz hcl hp ho r g
    have hc : c = [] := List.eq_nil_of_length_eq_zero (by omega)
    subst hc
    refine ⟨?_, hQ e h a w g r⟩
    rw [List.eq_nil_iff_forall_not_mem]
    intro i hi
    exact absurd (ready_mem hmem hsz hi) (by simp)
  | succ fuel ih =>
    intro listed c e h l a w hlen hnd hmem hsz hcl hp ho r g
    constructor
    · intro hr
      cases c with
      | nil => exact hQ e h a w g r
      | cons i c =>
        exfalso
        have hi := (hmem i).1 (by simp)
        have hoi : ops[i]? = some ops[i] := Array.getElem?_eq_getElem hi.1
        have : i ∈ Region.ready .any ops listed := by
          rw [mem_ready]
          refine ⟨by rw [getD_both (by omega)]; exact hi.2, _, hoi, fun ed hed hb => ?_⟩
          have hpy : ed.on ∈ predsOf ops[i] := mem_preds.2 ⟨ed, hed, hb, rfl⟩
          have hlt := (masks_all hmask hoi).2 _ hpy
          cases hl : listed.getD ed.on false with
          | true => rfl
          | false =>
            have hin := (hmem ed.on).2 ⟨by omega, hl⟩
            rcases List.mem_cons.1 hin with q | q
            · omega
            · exact absurd hpy ((List.pairwise_cons.1 ho).1 _ q _ hoi)
        rw [hr] at this; cases this
    · intro i hi
      have hic := ready_mem hmem hsz hi
      obtain ⟨xs, ys, rfl⟩ := List.append_of_mem hic
      rw [mem_ready] at hi
      obtain ⟨h1, o, hoi, hpr⟩ := hi
      have hlti : i < ops.size := (Array.getElem?_eq_some_iff.1 hoi).1
      have hpr' : ∀ y ∈ predsOf o, listed.getD y false = true := by
        intro y hy
        obtain ⟨ed, hed, hb, rfl⟩ := mem_preds.1 hy
        exact hpr ed hed hb
      have g' := gdr_pull hoi xs ys (fun x hx => by
        have hxc := (hmem x).1 (by simp [hx])
        have hbit : (ms.getD i 0).testBit x = false := by
          cases hb : (ms.getD i 0).testBit x with
          | false => rfl
          | true =>
            have := done_of_bit hmask hcl i i o (Nat.le_refl _) hoi hpr' hb
            rw [hxc.2] at this; cases this
        refine ⟨hbit, fun ox hox => ?_⟩
        have hpair := (List.pairwise_append.1 hp).2.2 x hx i (by simp)
        unfold pairB at hpair
        simp only [hbit, hox, hoi] at hpair
        exact indepB_spec hpair) e h l ⟨w, r.sub⟩ g
      simp only [gdr, hoi] at g'
      refine gxe_wpOp hoi r (fun k hk => hdst i o k hoi hk) g' fun e' h' l' a' w' q r' => ?_
      have hnd' : i ∉ xs ++ ys ∧ (xs ++ ys).Nodup := by
        obtain ⟨n1, n2, n3⟩ := List.nodup_append.1 hnd
        obtain ⟨n4, n5⟩ := List.nodup_cons.1 n2
        refine ⟨fun hm => ?_, List.nodup_append.2 ⟨n1, n5, fun a ha b hb => n3 a ha b (List.mem_cons_of_mem _ hb)⟩⟩
        rcases List.mem_append.1 hm with q | q
        · exact n3 i q i (by simp) rfl
        · exact n4 q
      refine ih (listed.setIfInBounds i true) (xs ++ ys) e' h' l' a' w' ?_ hnd'.2 ?_ (by simpa using hsz) ?_ ?_ ?_ r' q
      · simp only [List.length_append, List.length_cons] at hlen ⊢; omega
      · intro k
        by_cases hki : k = i
        · subst hki
          constructor
          · intro hk; exact absurd hk hnd'.1
          · intro hk; exfalso; have := hk.2; simp [Array.getD, hsz, hlti] at this
        · rw [getD_set_ne _ (Ne.symm hki), ← hmem k]
          simp [hki]
      · intro k ok hok hk y hy
        have mono : ∀ z, listed.getD z false = true → (listed.setIfInBounds i true).getD z false = true := by
          intro z hz
          by_cases hzi : z = i
          · subst hzi; simp [Array.getD, hsz, hlti]
          · rw [getD_set_ne _ (Ne.symm hzi)]; exact hz
        by_cases hki : k = i
        · subst hki
          rw [hoi] at hok; cases hok
          exact mono y (hpr' y hy)
        · rw [getD_set_ne _ (Ne.symm hki)] at hk
          exact mono y (hcl k ok hok hk y hy)
      · exact hp.sublist (List.Sublist.append_left (List.sublist_cons_self _ _) _)
      · exact ho.sublist (List.Sublist.append_left (List.sublist_cons_self _ _) _)
theorem pairsB_spec : ∀ {c : List Nat}, pairsB ops ms c = true → c.Pairwise (fun x i => pairB ops ms x i = true) := by
  intro c
  induction c with
  | nil => intro _; exact .nil
  | cons x c ih =>
    intro h
    simp only [pairsB, Bool.and_eq_true, List.all_eq_true] at h
    exact .cons h.1 (ih h.2)
theorem orderB_spec : ∀ {c : List Nat}, orderB ops c = true → c.Pairwise (fun i x => ∀ o : Oper, ops[i]? = some o → x ∉ predsOf o) := by
  intro c
  induction c with
  | nil => intro _; exact .nil
  | cons x c ih =>
    intro h
    simp only [orderB, Bool.and_eq_true] at h
    refine .cons (fun y hy o ho => ?_) (ih h.2)
    have := h.1
    simp only [ho, List.all_eq_true] at this
    intro hm
    exact (notN_iff.1 (this y hm)) hy
theorem gdr_region {Q : GEnv → GH → Prop} {id : Nat} {c : List Nat} (hb : drawB ops c ms = true) (hm : P.follows .mixedOrders = true) (hdst : ∀ (i : Nat) (o : Oper) (k : Nat), ops[i]? = some o → o.dst = some k → k < N)
    (hQ : ∀ e h a w, Q e h → Rel N h0 w0 e h a w → Qw .normal a w) {e : GEnv} {h : GH} {a : Act} {w : World} (r : Rel N h0 w0 e h a w) (g : gdr P ops ms c e h [] Q) : (Code.region id ops true).wp P Qw a w := by
  unfold drawB at hb
  simp only [Bool.and_eq_true, List.all_eq_true, List.mem_range, memN_iff] at hb
  obtain ⟨b1, ⟨b2, b6, b7⟩, b3, b4, b5⟩ := hb
  have hlen : c.length = ops.size := Nat.eq_of_beq_eq_true b2
  refine wp_region_any hm ?_
  obtain ⟨s', st⟩ := sub_drew r.sub (w.drawn + 1)
  refine gdr_any b4 hdst hQ ops.size _ c e h [] a _ (by omega) (nodupB_spec b6) ?_ (by simp) ?_ (pairsB_spec b5) (orderB_spec b3) ⟨r.env, r.size, r.defers, s', r.step.trans st⟩ g
  · intro i
    constructor
    · intro hi
      have hlt : i < ops.size := Nat.le_of_ble_eq_true (b7 i hi)
      exact ⟨hlt, by simp [Array.getD, hlt]⟩
    · intro hi; exact b1 i hi.1
  · intro i o ho hl
    exfalso
    simp [Array.getD] at hl
end
def lsV : Value → Option Value
  | .string s => some (.int .i64 s.size)
  | _ => none
def eqS (x y : Value) : Option Bool := match x, y with | .string a, .string b => some (a.data.toList == b.data.toList) | _, _ => none
def xsV (v i : Value) : Option Value :=
  match v, i with
  | .string s, .int _ n => (match decide (0 ≤ n), s.data[n.toNat]? with | true, some b => some (.int .u8 b.toNat) | _, _ => none)
  | _, _ => none
def ssV (v : Value) (lo hi : Option Value) : Option Value :=
  match v with
  | .string s => (match sbV hi s.size s.size with | some x => (match sbV lo x 0 with | some y => some (.string ⟨s.data.extract y x⟩) | none => none) | none => none)
  | _ => none
def strC (s : ByteArray) : List Value := s.data.toList.map fun b => .int .u8 b.toNat
def apS (T : TypeId) (bytes : Nat) (s x : Value) (h : GH) (K : Value → GH → Prop) : Prop :=
  match s, x with
  | .slice base sl sc, .string st =>
      if sl + st.size ≤ sc then bnd (putV base (sl * 1) (strC st) h) fun h' => K (.slice base (sl + st.size) sc) h'
      else bnd (cellsAt 1 sl (.slice base sl sc) h) fun old =>
        (sl + st.size) * bytes ≤ 140737488355328 ∧ sl + st.size ≤ 9223372036854775807 ∧ old.length = sl * 1 ∧
        ∀ b nc, h b = none → sl + st.size ≤ nc → K (.slice (some ⟨b, 0, none⟩) (sl + st.size) nc) (upd h b (.row T (old ++ strC st) (nc * 1) true))
  | _, _ => False
def cuV (n : Nat) (v : Value) (h : GH) : Option Value :=
  match v with
  | .pointer none => some v
  | .pointer (some ⟨b, off, none⟩) =>
    match h b with
    | some (.row _ _ sz _) => (match Nat.beq n 0, Nat.ble (off + 1) sz with | false, true => some v | _, _ => none)
    | _ => none
  | _ => none
def ucV (P : Program) (u : TypeId) (v : Value) (h : GH) : Option Value :=
  match v with
  | .pointer none => some v
  | .pointer (some ⟨b, off, none⟩) =>
    match h b with
    | some (.row T _ sz _) => (match liesAt P P.depth T (sz / P.cellsOf T) off u 1 with | true => some v | false => none)
    | _ => none
  | _ => none
def rgV (v : Value) (h : GH) (K : Value → GH → Prop) : Prop :=
  match v with
  | .string s => ∀ b, h b = none → K (.pointer (some ⟨b, 0, none⟩)) (upd h b (.obj (.stringIter s 0)))
  | _ => False
def nxV (it : Value) (h : GH) : Option (Value × GH) :=
  match it with
  | .pointer (some ⟨r, 0, _⟩) =>
    match h r with
    | some (.obj (.stringIter s pos)) =>
      (match decide (pos < s.size) with
       | true => some (.tuple #[.bool true, .int .i64 pos, .int .i32 (Utf8.decode s pos).1], upd h r (.obj (.stringIter s (pos + (Utf8.decode s pos).2))))
       | false => some (.tuple #[.bool false], h))
    | _ => none
  | _ => none
def bodyless (P : Program) (f : FuncId) : Bool := match P.funcs[f]? with | some fn => fn.body.isNone | none => false
def Ext (P : Program) (f : FuncId) (args : List Value) (v : Value) : Prop :=
  ∃ fn e, P.funcs[f]? = some fn ∧ (fn.name == "runtime.NumGoroutine") = false ∧ fn.body.isNone = true ∧ (Extern.findNext fn).isNone = true ∧ Extern.find fn = some e ∧ ∀ w, (e args.toArray).run P w = .ok v w
def xcV (P : Program) (f : FuncId) (args : List Value) (h : GH) (K : Value → GH → Prop) : Prop := ∃ v, Ext P f args v ∧ K v h
def gopX (P : Program) (op : Op) (e : GEnv) (h : GH) (K : Value → GH → Prop) : Prop :=
  match op with
  | .binOp .eql t x y z =>
    (match P.underlying t with
     | some .string => (match evO e x, evO e y with | some a, some b => bnd (eqS a b) fun r => K (.bool r) h | _, _ => False)
     | _ => gop P (.binOp .eql t x y z) e h K)
  | .binOp .neq t x y z =>
    (match P.underlying t with
     | some .string => (match evO e x, evO e y with | some a, some b => bnd (eqS a b) fun r => K (.bool !r) h | _, _ => False)
     | _ => gop P (.binOp .neq t x y z) e h K)
  | .convert s d x =>
    (match P.underlying s, P.underlying d with
     | some (.pointer t), some .unsafePointer => (match evO e x, szK P t with | some v, some (n, _) => bnd (cuV n v h) fun v => K v h | _, _ => False)
     | some .unsafePointer, some (.pointer u) => (match evO e x, szK P u with | some v, some (n, _) => bnd (ucV P u v h) fun v => K v h | _, _ => False)
     | _, _ => gop P (.convert s d x) e h K)
  | .index t x i =>
    (match P.underlying t with
     | some .string => (match evO e x, evO e i with | some a, some b => bnd (xsV a b) fun v => K v h | _, _ => False)
     | _ => gop P (.index t x i) e h K)
  | .slice t x lo hi none =>
    (match P.underlying t with
     | some .string => (match evO e x, evM e lo, evM e hi with | some a, some l, some r => bnd (ssV a l r) fun v => K v h | _, _, _ => False)
     | _ => gop P (.slice t x lo hi none) e h K)
  | .range t x =>
    (match P.underlying t with
     | some .string => (match evO e x with | some a => rgV a h K | _ => False)
     | _ => False)
  | .next it true => (match evO e it with | some a => bnd (nxV a h) fun r => K r.1 r.2 | _ => False)
  | .call c =>
    (match c.callee with
     | .value (.func f) =>
       (match bodyless P f with
        | true => (match evL e c.args.toList with | some args => xcV P f args h K | none => False)
        | false => gop P (.call c) e h K)
     | .builtin .len =>
       (match c.argTypes[0]? with
        | some t =>
          (match P.underlying t with
           | some .string => (match evL e c.args.toList with | some [v] => bnd (lsV v) fun v => K v h | _ => False)
           | _ => gop P (.call c) e h K)
        | none => False)
     | .builtin .append =>
       (match c.argTypes[0]?, c.argTypes[1]? with
        | some t, some t2 =>
          (match P.underlying t2 with
           | some .string =>
             (match P.underlying t, evL e c.args.toList with
              | some (.slice el), some [s, x] =>
                (match P.info? el, zeroK P el with
                 | some i, some z => (match Nat.beq z.length 1 && Nat.beq i.size 1 with | true => apS el i.bytes s x h K | false => False)
                 | _, _ => False)
              | _, _ => False)
           | _ => gop P (.call c) e h K)
        | _, _ => False)
     | _ => gop P (.call c) e h K)
  | op => gop P op e h K
section
variable {P : Program} {e : GEnv} {h : GH} {K : Value → GH → Prop} {a : Act} {w : World} {o : Oper}
theorem run_viewAt (s : Sub h w) {b : Nat} {T : TypeId} {pre : List Value} {sz : Nat} {f : Bool} (eb : h b = some (.row T pre sz f)) : (viewAt b).run P w = .ok none w := by
  simp only [viewAt, Sem.run_bind, shape, Sem.run, shape_of_row s eb, Result.andThen_ok]
  rfl
theorem run_seenAt (s : Sub h w) {b off : Nat} {T : TypeId} {pre : List Value} {sz : Nat} {f : Bool} (eb : h b = some (.row T pre sz f)) : (Conv.seenAt ⟨b, off, none⟩).run P w = .ok ⟨b, off, none⟩ w := by
  unfold Conv.seenAt
  simp only [Sem.run_bind, run_viewAt s eb, Result.andThen_ok]
  rfl
theorem run_strC (st : ByteArray) : (Builtin.firstCells 1 st.size (.string st)).run P w = .ok (strC st).toArray w := by
  simp only [Builtin.firstCells, Sem.run_pure]
  congr 1
  apply Array.ext'
  simp [strC]
theorem run_apS {t t2 el : TypeId} {i : TypeInfo} {z : List Value} {sv x : Value} (ht : P.underlying t = some (.slice el)) (ht2 : P.underlying t2 = some .string) (hi : P.info? el = some i) (hz : zeroK P el = some z)
    (hl : z.length = 1) (hs1 : i.size = 1) (s : Sub h w) (g : apS el i.bytes sv x h K) (ty : TypeId) :
    ∃ v w' h', (Builtin.append_ #[t, t2] ty #[sv, x]).run P w = .ok v w' ∧ Sub h' w' ∧ Step h w h' w' ∧ K v h' := by
  unfold apS at g
  split at g
  · rename_i base sl sc st
    have hnewr := fun (w : World) (s : Sub h w) => run_strC (P := P) (w := w) st
    have ln : (strC st).length = st.size * 1 := by simp [strC]
    by_cases hle : sl + st.size ≤ sc
    · rw [if_pos hle] at g
      obtain ⟨h', hp, g⟩ := bnd_iff.1 g
      obtain ⟨w', hr, s', st'⟩ := run_put (P := P) s hp
      refine ⟨_, w', h', ?_, s', st', g⟩
      simp only [Builtin.append_, List.getElem?_toArray, List.getElem?_cons_zero, List.getElem?_cons_succ, Sem.run_bind, run_underlying ht, run_underlying ht2, Result.andThen_ok, sizeOf, typeInfo, run_program, hi, Sem.run_pure,
        Builtin.lenOf, hle, if_true, hs1, hnewr w s, Bool.false_eq_true, if_false, Bool.not_false]
      cases base with
      | none => simp only [Sem.run_pure, Result.ok.injEq, true_and] at hr ⊢; simp only [hr]
      | some a => simp only [Sem.run_bind] at hr ⊢; simp only [hr, Result.andThen_ok, Sem.run_pure]
    · rw [if_neg hle] at g
      obtain ⟨old, hold, g⟩ := bnd_iff.1 g
      obtain ⟨hb, hmax, lo, g⟩ := g
      have holdr := fun w (s : Sub h w) => run_cells (P := P) s hold
      obtain ⟨zv, rfl, hzr⟩ := zeroK_spec hz
      have hfit := growslice_fits (need := sl + st.size) (old := sc) (bytes := i.bytes) (by omega) hb
      generalize hnc : (Question.appendCap (sl + st.size) sc el).cut (w.tape w.drawn (Question.appendCap (sl + st.size) sc el)) = nc
      have hcap : sl + st.size ≤ nc := by subst hnc; simp only [Question.cut]; omega
      obtain ⟨s1, st1⟩ := sub_drew s (w.drawn + 1)
      have hsz : (old.toArray ++ (strC st).toArray ++ Builtin.zeroCells zv.cells (nc - (sl + st.size))).size = nc * 1 := by
        simp only [Array.size_append, List.size_toArray, lo, ln, size_zeroCells]
        simp only [Array.length_toList] at hl
        rw [hl, ← Nat.add_mul, ← Nat.add_mul]
        congr 1; omega
      obtain ⟨s2, st2⟩ := sub_push s1 el (old.toArray ++ (strC st).toArray ++ Builtin.zeroCells zv.cells (nc - (sl + st.size))) (old ++ strC st) (by simp)
      rw [hsz] at s2 st2
      refine ⟨_, _, _, ?_, s2, st1.trans st2, g _ nc (s.fresh (Nat.le_refl _)) hcap⟩
      have hq : ¬ (((sl + st.size : Nat) : Int) > IntKind.i64.max ∧ (False ∨ i.bytes = 0)) := by
        have : IntKind.i64.max = 9223372036854775807 := by decide
        rw [this]; omega
      simp only [Builtin.append_, List.getElem?_toArray, List.getElem?_cons_zero, List.getElem?_cons_succ, Sem.run_bind, run_underlying ht, run_underlying ht2, Result.andThen_ok, sizeOf, typeInfo, run_program, hi, Sem.run_pure,
        Builtin.lenOf, hle, if_false, Bool.false_eq_true, Bool.not_false, if_true]
      rw [if_neg hq]
      simp only [Sem.run_bind, run_program, Result.andThen_ok, hi, Sem.run_pure]
      rw [if_neg (by omega)]
      simp only [Sem.run_bind, run_choose, Question.forced, Bool.false_eq_true, if_false, Result.andThen_ok, hnc, run_askRoom, holdr _ s1, hs1, hnewr _ s1, hzr, newRow, run_newObj, Sem.run_pure]
      simp only [run_program, Result.andThen_ok, hi, Sem.run_pure, holdr _ s1, hs1, hnewr _ s1]
  · exact g.elim
theorem gopX_out (he : ESub e a.tmps) (s : Sub h w) (g : gopX P o.op e h K) : Out P ((execOp a.eval o).run P w) h w K := by
  unfold gopX at g
  split at g
  · -- ==
    rename_i t x y z hop
    split at g
    · rename_i hd
      split at g
      · rename_i va vb hx hy
        obtain ⟨r, hr, g⟩ := bnd_iff.1 g
        unfold eqS at hr
        split at hr
        · cases hr
          refine .val ?_ s g
          simp only [execOp, hop, evO_sound he hx, evO_sound he hy, eqGuard]
          simp [binOp, Op.stringOp, ByteArray.toList_eq]
        · cases hr
      · exact g.elim
    · exact gop_out he s (hop ▸ g)
  · rename_i t x y z hop
    split at g
    · rename_i hd
      split at g
      · rename_i va vb hx hy
        obtain ⟨r, hr, g⟩ := bnd_iff.1 g
        unfold eqS at hr
        split at hr
        · cases hr
          refine .val ?_ s g
          simp only [execOp, hop, evO_sound he hx, evO_sound he hy, eqGuard]
          simp [binOp, Op.stringOp, ByteArray.toList_eq]
        · cases hr
      · exact g.elim
    · exact gop_out he s (hop ▸ g)
  · rename_i st dt x hop
    split at g
    · rename_i t hs hd
      split at g
      · rename_i v n gg hx hz
        obtain ⟨r, hr, g⟩ := bnd_iff.1 g
        unfold cuV at hr
        split at hr
        · cases hr
          refine .val (v := .pointer none) ?_ s g
          simp only [execOp, hop, evO_sound he hx, convert, Sem.run_bind, run_underlying hs, run_underlying hd, Result.andThen_ok, Conv.unsafePointer, Sem.run_pure]
        · rename_i b off
          split at hr
          · rename_i T pre sz f eb
            split at hr
            · rename_i h1 h2
              cases hr
              obtain ⟨_, i, _, hi, hin, _⟩ := szK_spec hz
              refine .val (v := .pointer (some ⟨b, off, none⟩)) ?_ s g
              have hn : ¬ i.size = 0 := by intro q; rw [← hin, q] at h1; cases h1
              have hof : ¬ sz ≤ off := by have := Nat.le_of_ble_eq_true h2; omega
              simp only [execOp, hop, evO_sound he hx, convert, Sem.run_bind, run_underlying hs, run_underlying hd, Result.andThen_ok, Conv.unsafePointer, run_seenAt s eb, cellsIn, shape, Sem.run, shape_of_row s eb, Sem.run_pure, sizeOf, typeInfo, run_program, hi]
              simp [hn, hof]
            · cases hr
          · cases hr
        · cases hr
      · exact g.elim
    · rename_i u hs hd
      split at g
      · rename_i v n gg hx hz
        obtain ⟨r, hr, g⟩ := bnd_iff.1 g
        unfold ucV at hr
        split at hr
        · cases hr
          refine .val (v := .pointer none) ?_ s g
          simp only [execOp, hop, evO_sound he hx, convert, Sem.run_bind, run_underlying hs, run_underlying hd, Result.andThen_ok, Conv.unsafePointer, Sem.run_pure]
        · rename_i b off
          split at hr
          · rename_i T pre sz f eb
            split at hr
            · rename_i hli
              cases hr
              obtain ⟨_, i, _, hi, hin, _⟩ := szK_spec hz
              refine .val (v := .pointer (some ⟨b, off, none⟩)) ?_ s g
              have hli' : (variablesAt ⟨b, off, none⟩ u 1).run P w = .ok true w := by
                simp only [variablesAt, Sem.run_bind, run_program, Result.andThen_ok, shape, Sem.run, shape_of_row s eb, hli]
                rfl
              simp only [execOp, hop, evO_sound he hx, convert, Sem.run_bind, run_underlying hs, run_underlying hd, Result.andThen_ok, Conv.unsafePointer, run_seenAt s eb, Sem.run_pure, sizeOf, typeInfo, run_program, hi, hli']
              simp
            · cases hr
          · cases hr
        · cases hr
      · exact g.elim
    · exact gop_out he s (hop ▸ g)
  · rename_i t x i hop
    split at g
    · rename_i hd
      split at g
      · rename_i va vb hx hy
        obtain ⟨r, hr, g⟩ := bnd_iff.1 g
        unfold xsV at hr
        split at hr
        · rename_i st k n
          split at hr
          · rename_i c hn hc
            cases hr
            have hn : 0 ≤ n := by simpa using hn
            have hc' : st[n.toNat]? = some c := by
              obtain ⟨hlt, rfl⟩ := Array.getElem?_eq_some_iff.1 hc
              have : n.toNat < st.size := hlt
              simp [getElem?_pos, this]
              rfl
            refine .val (v := .int .u8 c.toNat) ?_ s g
            simp only [execOp, hop, evO_sound he hx, evO_sound he hy, Instr.index, Sem.run_bind, asIntOf, Sem.run_pure, Result.andThen_ok, run_underlying hd, hn, if_true, hc']
          · cases hr
        · cases hr
      · exact g.elim
    · exact gop_out he s (hop ▸ g)
  · rename_i t x lo hi hop
    split at g
    · rename_i hd
      split at g
      · rename_i va l r hx hlo hhi
        obtain ⟨q, hr, g⟩ := bnd_iff.1 g
        unfold ssV at hr
        split at hr
        · rename_i st
          split at hr
          · rename_i p hp
            split at hr
            · rename_i m hm
              cases hr
              refine .val (v := _) ?_ s g
              simp only [execOp, hop, Option.map_none, evO_sound he hx, evM_sound he hlo, evM_sound he hhi, Instr.sliceAt, Sem.run_bind, run_underlying hd, Result.andThen_ok, Instr.slice, run_sliceBounds hp hm, Option.isSome_none, Bool.false_eq_true, if_false, Sem.run_pure]
              congr 2
              simp [ByteArray.ext_iff]
            · cases hr
          · cases hr
        · cases hr
      · exact g.elim
    · exact gop_out he s (hop ▸ g)
  · rename_i t x hop
    split at g
    · rename_i hd
      split at g
      · rename_i va hx
        unfold rgV at g
        split at g
        · rename_i st
          obtain ⟨s', st'⟩ := sub_newObj s (.stringIter st 0) (by intro c T f; simp)
          refine .new (v := .pointer (some ⟨w.heap.size, 0, none⟩)) ?_ s' st' (g _ (s.fresh (Nat.le_refl _)))
          simp only [execOp, hop, evO_sound he hx, Instr.range, Sem.run_bind, run_underlying hd, Result.andThen_ok, Sem.run_pure, run_newObj]
        · exact g.elim
      · exact g.elim
    · exact g.elim
  · rename_i it hop
    split at g
    · rename_i va hx
      obtain ⟨q, hr, g⟩ := bnd_iff.1 g
      unfold nxV at hr
      split at hr
      · rename_i r sp
        split at hr
        · rename_i st pos eb
          split at hr
          · rename_i hp
            have hp : pos < st.size := by simpa using hp
            cases hr
            obtain ⟨s', st'⟩ := sub_obj s eb (ob' := .stringIter st (pos + (Utf8.decode st pos).2)) (by intro c T f; simp)
            refine .new (v := _) ?_ s' st' g
            simp only [execOp, hop, evO_sound he hx, Instr.next, Sem.run_bind, getObj, Sem.run, obj_at s eb, Result.andThen_ok, hp, if_true, setObj, Sem.run_pure, goInt]
          · rename_i hp
            have hp : ¬ pos < st.size := by simpa using hp
            cases hr
            refine .val (v := _) ?_ s g
            simp only [execOp, hop, evO_sound he hx, Instr.next, Sem.run_bind, getObj, Sem.run, obj_at s eb, Result.andThen_ok, hp, if_false, Sem.run_pure]
        · cases hr
      · cases hr
    · exact g.elim
  · rename_i c hop
    split at g
    · rename_i f hc
      split at g
      · split at g
        · rename_i args ha
          obtain ⟨v, ⟨fn, ex, h1, h2, h3, h4, h5, h6⟩, g⟩ := g
          refine .val (v := v) ?_ s g
          have hm : c.args.map a.eval = args.toArray := by rw [← evL_sound he ha]; apply Array.ext'; simp
          have h4' : Extern.findNext fn = none := by simpa using h4
          have hf : a.eval (.func f) = .func (.func f) #[] #[] := evO_sound he (e := e) rfl
          simp only [execOp, hop, resolve, hc, hf, Sem.run_bind, Deferred.ofValue, Sem.run_pure, Result.andThen_ok, invoke, hm]
          simp only [callFunc, Sem.run_bind, run_program, Result.andThen_ok, h1, h2, h3, Bool.false_eq_true, if_false, if_true, mark, Sem.run, h4', h5]
          have hz : (#[] ++ args.toArray ++ #[] : Array Value) = args.toArray := by simp
          rw [hz, h6]; rfl
        · exact g.elim
      · exact gop_out he s (hop ▸ g)
    · rename_i hc
      split at g
      · rename_i t ht
        split at g
        · rename_i hd
          split at g
          · rename_i v ha
            obtain ⟨r, hr, g⟩ := bnd_iff.1 g
            refine .val (v := r) ?_ s g
            have hm : c.args.map a.eval = #[v] := by
              have := evL_sound he ha
              apply Array.ext'; simpa using this
            unfold lsV at hr
            split at hr
            · cases hr
              simp [execOp, hop, resolve, hc, invoke, builtin, hm, Builtin.len_, ht, run_underlying hd, goInt]
            · cases hr
          · exact g.elim
        · exact gop_out he s (hop ▸ g)
      · exact g.elim
    · rename_i hc
      split at g
      · rename_i t t2 ht ht2
        split at g
        · rename_i hd2
          split at g
          · rename_i el sv x hd ha
            split at g
            · rename_i i z hi hz
              split at g
              · rename_i hl
                simp only [Bool.and_eq_true] at hl
                have hl1 := Nat.eq_of_beq_eq_true hl.1
                have hl2 := Nat.eq_of_beq_eq_true hl.2
                have hm : c.args.map a.eval = #[sv, x] := by
                  have := evL_sound he ha
                  apply Array.ext'; simpa using this
                obtain ⟨v, w', h', hr, s', st, k⟩ := run_apS hd hd2 hi hz hl1 hl2 s g o.type
                refine .new (v := v) ?_ s' st k
                have hsame : (Builtin.append_ c.argTypes o.type #[sv, x]).run P w = (Builtin.append_ #[t, t2] o.type #[sv, x]).run P w := by
                  simp only [Builtin.append_, ht, ht2, List.getElem?_toArray, List.getElem?_cons_zero, List.getElem?_cons_succ]
                simp only [execOp, hop, resolve, hc, invoke, builtin, hm, Sem.run_bind, Sem.run_pure, Result.andThen_ok, hsame, hr]
              · exact g.elim
            · exact g.elim
          · exact g.elim
        · exact gop_out he s (hop ▸ g)
      · exact g.elim
    · exact gop_out he s (hop ▸ g)
  · exact gop_out he s g
theorem gopX_wp {N : Nat} {h0 : GH} {w0 : World} {Qw : Exit → Act → World → Prop} (r : Rel N h0 w0 e h a w) (hd : ∀ k, o.dst = some k → k < N) (g : gopX P o.op e h K) (next : Act → World → Prop)
    (hn : ∀ v h' a' w', K v h' → Rel N h0 w0 (setD e o.dst (.val v)) h' a' w' → next a' w') : o.wp P a w next Qw := by
  unfold Oper.wp
  rcases gopX_out r.env r.sub g with ⟨v, w', h', hr, s', st, k⟩ | ⟨w', h', hr, s', st, k⟩ | ⟨f, args, hr, t⟩
  · rw [hr, Oper.upon_value]
    exact hn v h' _ _ k (r.put hd (fun u hu => by cases hu; rfl) (fun hu => by cases hu) s' st)
  · rw [hr, Oper.upon_skip]
    exact hn undef h' _ _ k (r.put hd (fun u hu => by cases hu; rfl) (fun hu => by cases hu) s' st)
  · rw [hr, Oper.upon_enter]
    refine (t.calls w r.sub).mono fun e' w' ⟨v, h', he, hs, hst, hk⟩ => ?_
    subst he
    exact hn v h' _ _ hk (r.put hd (fun u hu => by cases hu; rfl) (fun hu => by cases hu) hs hst)
end
end Go.Proofs.YtcpfkkppfgolaaaGreatDoor.GW
