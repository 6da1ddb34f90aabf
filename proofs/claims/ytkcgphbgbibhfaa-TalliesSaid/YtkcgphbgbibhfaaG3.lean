/- Each operation of the loaded code as a transformer of ghost heaps ('gop'), and that the model's run of the operation does just that ('gop_sound'). Nothing here is a statement on the program. -/
import Derived.Test.YtkcgphbgbibhfaaG2
namespace Go.Proofs.Ytkcgphbgbibhfaa.GW
open Go
set_option linter.unusedVariables false
set_option linter.unusedSimpArgs false

/-! ### what the program's tables say of a type -/
def szK (P : Program) (t : TypeId) : Option (Nat × Bool) :=
  match P.underlying t with
  | some (.struct _) => some (P.cellsOf t, true)
  | some (.array _ _) => some (P.cellsOf t, true)
  | some _ => some (P.cellsOf t, false)
  | none => none

def zeroK (P : Program) (t : TypeId) : Option (List Value) :=
  match P.info? t with
  | some i => (match i.zero with | some v => some v.cells.toList | none => none)
  | none => none

def fieldK (P : Program) (s : TypeId) (f : Nat) : Option (Nat × Nat × Bool) :=
  match P.underlying s with
  | some (.struct fs) =>
    match fs[f]? with
    | some fd => (match szK P fd.type with | some (n, g) => some (fd.offset, n, g) | none => none)
    | none => none
  | _ => none

theorem szK_spec {P : Program} {t : TypeId} {n : Nat} {g : Bool} (h : szK P t = some (n, g)) :
    ∃ d i, P.underlying t = some d ∧ P.info? t = some i ∧ i.size = n ∧ (∀ w, (isAgg t).run P w = .ok g w) := by
  unfold szK at h
  cases hd : P.underlying t with
  | none => simp [hd] at h
  | some d =>
    obtain ⟨i, hi, hc⟩ := info_of_cellsOf hd
    refine ⟨d, i, rfl, hi, ?_, ?_⟩
    · cases d <;> simp only [hd] at h <;> cases h <;> exact hc.symm
    · intro w; cases d <;> simp only [hd] at h <;> cases h <;> simp [isAgg, run_underlying hd]

theorem zeroK_spec {P : Program} {t : TypeId} {z : List Value} (h : zeroK P t = some z) : ∃ v, z = v.cells.toList ∧ ∀ w, (zeroValue t).run P w = .ok v w := by
  unfold zeroK at h
  split at h
  · rename_i i hi
    split at h
    · rename_i v hv; cases h; exact ⟨v, rfl, fun w => by simp [zeroValue, typeInfo, hi, hv]⟩
    · cases h
  · cases h

/-! ### loads and stores of variables -/
theorem run_loadAt {P : Program} {t : TypeId} {n : Nat} {g : Bool} (hs : szK P t = some (n, g)) {p v : Value} {h : GH} {w : World} (s : Sub h w) (hl : ldV n g p h = some v) :
    (Instr.loadAt t p).run P w = .ok v w := by
  obtain ⟨d, i, hd, hi, hn, ha⟩ := szK_spec hs
  unfold ldV at hl
  split at hl
  · rename_i b off
    split at hl
    · rename_i T pre sz f he
      cases g with
      | false =>
        simp only at hl
        simp [Instr.loadAt, Instr.sureAddr, loadVar, ha, cell?_of_row s he hl]
      | true =>
        simp only at hl
        split at hl
        · rename_i hle
          cases hl
          have := run_loadCells (P := P) s he off n (Nat.le_of_ble_eq_true hle)
          simp [Instr.loadAt, Instr.sureAddr, loadVar, ha, sizeOf, typeInfo, hi, hn, this]
        · cases hl
    · cases hl
  · cases hl

theorem run_storeAt {P : Program} {t : TypeId} {n : Nat} {g : Bool} (hs : szK P t = some (n, g)) {p v : Value} {h h' : GH} {w : World} (s : Sub h w) (hl : stV n p v h = some h') :
    ∃ w', (Instr.storeAt t p v).run P w = .ok () w' ∧ Sub h' w' ∧ Step h w h' w' := by
  obtain ⟨d, i, hd, hi, hn, ha⟩ := szK_spec hs
  unfold stV at hl
  split at hl
  · rename_i b off
    split at hl
    · rename_i T pre sz he
      split at hl
      · rename_i hc
        simp only [Bool.and_eq_true] at hc
        obtain ⟨h1, h2, h3⟩ := hc
        have h1 := Nat.eq_of_beq_eq_true h1
        have h2 := Nat.le_of_ble_eq_true h2
        cases hl
        obtain ⟨w', hr, s', st⟩ := run_storeCells (P := P) v.cells.toList h w s b T pre sz he off 0 (by simpa [h1] using h2) h3
        refine ⟨w', ?_, s', st⟩
        simp [Instr.storeAt, Instr.sureAddr, storeVar, sizeOf, typeInfo, hi, hn, h1, hr]
      · cases hl
    · cases hl
  · cases hl

theorem run_newVar {P : Program} {t : TypeId} {v : Value} {h : GH} {w : World} (s : Sub h w) :
    ∃ w', (newVar t v).run P w = .ok ⟨w.heap.size, 0, none⟩ w' ∧ Sub (upd h w.heap.size (.row t v.cells.toList v.cells.toList.length true)) w' ∧ Step h w (upd h w.heap.size (.row t v.cells.toList v.cells.toList.length true)) w' := by
  obtain ⟨s', st⟩ := sub_push s t v.cells v.cells.toList (List.prefix_refl _)
  refine ⟨{ w with heap := w.heap.push (.cells v.cells t) }, ?_, ?_, ?_⟩
  · simp [newVar, newRow]
  · simpa using s'
  · simpa using st

/-! ### building values -/
def fillV (cells : List Value) : List (Nat × Nat × Value) → Option (List Value)
  | [] => some cells
  | (off, size, v) :: r =>
    match Nat.beq v.cells.size size && Nat.ble (off + size) cells.length with
    | true => fillV (setCells cells off v.cells.toList) r
    | false => none

theorem foldl_setCells (vs : List Value) : ∀ (off j : Nat) (cells : Array Value),
    ((vs.zipIdx j).foldl (fun cs (p : Value × Nat) => cs.setIfInBounds (off + p.2) p.1) cells).toList = setCells cells.toList (off + j) vs := by
  induction vs with
  | nil => intros; simp
  | cons v vs ih =>
    intro off j cells
    simp only [List.zipIdx_cons, List.foldl_cons, setCells_cons]
    rw [ih off (j + 1)]
    simp [Nat.add_assoc]

theorem fill_of_fillV (place : Nat → Option (Nat × Nat)) : ∀ (parts : List (Nat × Value)) (ps : List (Nat × Nat × Value)) (cells : Array Value) (r : List Value),
    parts.map (fun q => ((place q.1).getD (0, 0)).1) = ps.map (·.1) → (∀ q ∈ parts, (place q.1).isSome) → parts.map (fun q => ((place q.1).getD (0, 0)).2) = ps.map (·.2.1) → parts.map (·.2) = ps.map (·.2.2) →
    fillV cells.toList ps = some r → Instr.fill place cells parts = some r.toArray := by
  intro parts
  induction parts with
  | nil => intro ps cells r h1 _ _ _ hf; cases ps with
    | nil => simp [fillV] at hf; simp [Instr.fill, ← hf]
    | cons => simp at h1
  | cons q parts ih =>
    intro ps cells r h1 hs h2 h3 hf
    obtain ⟨i, v⟩ := q
    cases ps with
    | nil => simp at h1
    | cons p ps =>
      obtain ⟨off, size, v'⟩ := p
      simp only [List.map_cons, List.cons.injEq] at h1 h2 h3
      obtain ⟨h1, t1⟩ := h1
      obtain ⟨h2, t2⟩ := h2
      obtain ⟨h3, t3⟩ := h3
      subst h3
      have hp := hs (i, v) (by simp)
      cases hpl : place i with
      | none => simp [hpl] at hp
      | some pr =>
        obtain ⟨o, sz⟩ := pr
        simp only [hpl, Option.getD_some] at h1 h2
        subst h1; subst h2
        simp only [fillV] at hf
        split at hf
        · rename_i hc
          simp only [Bool.and_eq_true] at hc
          have c1 := Nat.eq_of_beq_eq_true hc.1
          have c2 := Nat.le_of_ble_eq_true hc.2
          simp only [Array.length_toList] at c2
          simp only [Instr.fill, hpl]
          rw [if_neg (by simp; omega)]
          refine ih ps _ r t1 (fun q hq => hs q (List.mem_cons_of_mem _ hq)) t2 t3 ?_
          rw [← Array.foldl_toList, Array.toList_zipIdx, foldl_setCells]
          simpa using hf
        · cases hf

/-- the cells of n zero elements -/
def zerosV (zero : List Value) : Nat → List Value
  | 0 => []
  | n + 1 => zero ++ zerosV zero n

theorem length_zerosV (zero : List Value) (n : Nat) : (zerosV zero n).length = n * zero.length := by
  induction n with
  | zero => simp [zerosV]
  | succ n ih => simp [zerosV, ih, Nat.add_mul, Nat.add_comm]

theorem getElem?_zerosV (zero : List Value) : ∀ (n i : Nat), i < n * zero.length → (zerosV zero n)[i]? = zero[i % zero.length]? := by
  intro n
  induction n with
  | zero => intro i hi; simp at hi
  | succ n ih =>
    intro i hi
    simp only [zerosV]
    by_cases h : i < zero.length
    · rw [List.getElem?_append_left h, Nat.mod_eq_of_lt h]
    · rw [List.getElem?_append_right (by omega)]
      have hz : 0 < zero.length := by
        rcases Nat.eq_zero_or_pos zero.length with h0 | h0
        · simp [h0] at hi
        · exact h0
      rw [ih (i - zero.length) (by rw [Nat.add_mul] at hi; omega)]
      rw [Nat.mod_eq_sub_mod (by omega : i ≥ zero.length)]

theorem zeros_array (zero : Array Value) (n : Nat) : ((Array.range (n * zero.size)).map fun i => zero[i % zero.size]!).toList = zerosV zero.toList n := by
  apply List.ext_getElem?
  intro i
  by_cases h : i < n * zero.size
  · have hz : 0 < zero.size := by
      rcases Nat.eq_zero_or_pos zero.size with h0 | h0
      · simp [h0] at h
      · exact h0
    have hm : i % zero.size < zero.size := Nat.mod_lt _ hz
    rw [getElem?_zerosV _ _ _ (by simpa using h)]
    simp [h, hm, getElem!_pos]
  · rw [List.getElem?_eq_none (by simp; omega), List.getElem?_eq_none (by rw [length_zerosV]; simp; omega)]

end Go.Proofs.Ytkcgphbgbibhfaa.GW
