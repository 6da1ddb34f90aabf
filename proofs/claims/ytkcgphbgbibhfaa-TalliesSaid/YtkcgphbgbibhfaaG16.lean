/- Arguments that a law is handed, read as rows of the law's own heap. Nothing here is a statement on the program. -/
import Derived.Test.YtkcgphbgbibhfaaBase
import Derived.Carry
namespace Go.Proofs.Ytkcgphbgbibhfaa
open Go GW
set_option linter.unusedVariables false
set_option linter.unusedSimpArgs false
theorem mapM_some {α β : Type} {f : α → Option β} : ∀ (l : List α) (ys : List β), l.mapM f = some ys → ys.length = l.length ∧ ∀ (i : Nat) (x : α), l[i]? = some x → ∃ y, f x = some y ∧ ys[i]? = some y := by
  intro l
  induction l with
  | nil => intro ys h; simp at h; subst h; simp
  | cons a l ih =>
    intro ys h
    rw [List.mapM_cons] at h
    cases hf : f a with
    | none => simp [hf] at h
    | some y =>
      cases hl : l.mapM f with
      | none => simp [hf, hl] at h
      | some zs =>
        simp [hf, hl] at h
        subst h
        obtain ⟨h1, h2⟩ := ih zs hl
        refine ⟨by simp [h1], fun i x hi => ?_⟩
        cases i with
        | zero => simp at hi; subst hi; exact ⟨y, hf, by simp⟩
        | succ i => simpa using h2 i x (by simpa using hi)

theorem cell_full {w : World} {a : Addr} {v : Value} (h : w.cell? a = some v) : a.spot = none ∧ ∃ T pre sz, full w a.block = some (.row T pre sz false) ∧ pre[a.off]? = some v := by
  unfold World.cell? at h
  split at h
  · rename_i c T fr hc
    split at h
    · cases h
    · rename_i hs
      refine ⟨by simpa using hs, T, c.toList, c.size, by simp [full, hc], by simpa using h⟩
  · cases h

theorem addr_add_spot {a : Addr} (n : Nat) (h : a.spot = none) : a.add n = ⟨a.block, a.off + n, none⟩ := by
  cases a; simp only at h; subst h; exact Addr.add_plain _ _ _

theorem weightsAll_of {H : Type} {P : Program} {e : TypeId} {q : Nat → Bool} : ∀ {ds : List (DataW H)}, (DataW.weightsAll P e ds).all q = true → ∀ {d : DataW H}, d ∈ ds → (d.weights P e).all q = true := by
  intro ds
  induction ds with
  | nil => intro _ d hd; cases hd
  | cons x ds ih =>
    intro h d hd
    simp only [DataW.weightsAll, List.all_append, Bool.and_eq_true] at h
    rcases List.mem_cons.1 hd with rfl | q
    · exact h.1
    · exact ih h.2 q

/-- a slice's elements are what its row holds -/
theorem open_rowsW {α H : Type} {enc : TypeId × Value → H} {P : Program} {W : World} {t e : TypeId} {size : Nat} (encα : α → List Value) (hd : P.underlying t = some (.slice e)) (hs : P.cellsOf e = size) (hpos : 0 < size) (hpos2 : ∀ x, (encα x).length = size)
    (hel : ∀ fuel cs d ps, DataW.trod enc P W 0 (fun _ => true) true fuel e cs = some (d, ps) → (d.weights P e).all (· ≤ reachBytes) = true → ∃ x, cs = encα x) {fuel : Nat} {cs : List Value} {d : DataW H} {ps : List MemPlace}
    (h : DataW.trod enc P W 0 (fun _ => true) true fuel t cs = some (d, ps)) (hw : (d.weights P t).all (· ≤ reachBytes) = true) :
    ∃ (v : Value) (xs : List α), cs = [v] ∧ rowsAt (full W) size v (xs.map encα) ∧ xs.length * P.bytesOf e ≤ reachBytes := by
  cases fuel with
  | zero => simp [DataW.trod] at h
  | succ fuel =>
    simp only [DataW.trod, hd] at h
    split at h <;> first
      | (rename_i q; cases q; done)
      | (rename_i q _; cases q; done)
      | cases h
      | skip
    · refine ⟨_, [], rfl, ⟨none, 0, 0, rfl, rfl, Nat.le_refl _, by omega, fun i c hc => by simp at hc⟩, by simp⟩
    · rename_i e' a n cap he
      cases he
      split at h
      · rename_i hc
        obtain ⟨_, hle, hmax⟩ := hc
        obtain ⟨elems, hel1, h⟩ := Option.bind_eq_some_iff.1 h
        obtain ⟨rest, hrest, h⟩ := Option.map_eq_some_iff.1 h
        simp only [Prod.mk.injEq] at h
        obtain ⟨rfl, rfl⟩ := h
        obtain ⟨hlen, hget⟩ := mapM_some _ _ hel1
        simp only [List.length_range] at hlen
        have hw2 := hw
        simp only [DataW.weights, hd, List.all_cons, List.all_append, Bool.and_eq_true] at hw2
        have each : ∀ i, i < n → ∃ x : α, W.cells? 0 (a.add (i * P.cellsOf e)) (P.cellsOf e) = some (encα x) := by
          intro i hi
          obtain ⟨y, hy, hyi⟩ := hget i i (by simp [hi])
          obtain ⟨cs, h1, h2⟩ := Option.bind_eq_some_iff.1 hy
          obtain ⟨x, hx⟩ := hel _ _ _ _ h2 (weightsAll_of hw2.2.1 (List.mem_map.2 ⟨y, List.mem_of_getElem? hyi, rfl⟩))
          exact ⟨x, by rw [h1, hx]⟩
        have hxs : ∀ m, m ≤ n → ∃ xs : List α, xs.length = m ∧ ∀ (i : Nat) x, xs[i]? = some x → W.cells? 0 (a.add (i * P.cellsOf e)) (P.cellsOf e) = some (encα x) := by
          intro m
          induction m with
          | zero => intro _; exact ⟨[], rfl, fun i x hx => by simp at hx⟩
          | succ m ih =>
            intro hm
            obtain ⟨xs, h1, h2⟩ := ih (by omega)
            obtain ⟨x, h3⟩ := each m (by omega)
            refine ⟨xs ++ [x], by simp [h1], fun i y hy => ?_⟩
            rcases Nat.lt_or_ge i m with q | q
            · rw [List.getElem?_append_left (by omega)] at hy; exact h2 i y hy
            · rw [List.getElem?_append_right (by omega)] at hy
              have : i = m := by
                have := (List.getElem?_eq_some_iff.1 hy).1
                simp at this; omega
              subst this
              simp [h1] at hy
              subst hy; exact h3
        obtain ⟨xs, hxl, hx⟩ := hxs n (Nat.le_refl _)
        refine ⟨_, xs, rfl, ⟨some a, n, cap, rfl, by simp [hxl], hle, by unfold maxLen at hmax; omega, fun i c hc => ?_⟩, ?_⟩
        · rw [List.getElem?_map] at hc
          obtain ⟨x, hxi, rfl⟩ := Option.map_eq_some_iff.1 hc
          have hcells := hx i x hxi
          unfold World.cells? at hcells
          rw [if_pos (Nat.zero_le _), hs] at hcells
          obtain ⟨hl, hg⟩ := mapM_some _ _ hcells
          have cell : ∀ j, j < size → ∃ y, W.cell? ((a.add (i * size)).add j) = some y ∧ (encα x)[j]? = some y := by
            intro j hj
            obtain ⟨y, h1, h2⟩ := hg j j (by simp [hj])
            exact ⟨y, h1, h2⟩
          have hspot : a.spot = none := by
            have h0 : 0 < xs.length := by have := (List.getElem?_eq_some_iff.1 hxi).1; omega
            have hx0 := hx 0 xs[0] (List.getElem?_eq_getElem h0)
            unfold World.cells? at hx0
            rw [if_pos (Nat.zero_le _), hs] at hx0
            obtain ⟨y, h1, _⟩ := (mapM_some _ _ hx0).2 0 0 (by simp [hpos])
            have := (cell_full h1).1
            simpa [Addr.add] using this
          obtain ⟨y0, hy0, _⟩ := cell 0 hpos
          have e1 : ∀ j, (a.add (i * size)).add j = ⟨a.block, a.off + i * size + j, none⟩ := by
            intro j; rw [addr_add_spot _ hspot, Addr.add_plain]
          rw [e1] at hy0
          obtain ⟨_, T, pre, sz, hf, _⟩ := cell_full hy0
          have hpre : ∀ j, j < size → pre[a.off + i * size + j]? = (encα x)[j]? := by
            intro j hj
            obtain ⟨y, h1, h2⟩ := cell j hj
            rw [e1] at h1
            obtain ⟨_, T', pre', sz', hf', hp'⟩ := cell_full h1
            simp only at hf hf'
            rw [hf] at hf'
            cases hf'
            rw [hp', h2]
          have hlast : a.off + i * size + size ≤ pre.length := by
            have := hpre (size - 1) (by omega)
            have hlt : size - 1 < (encα x).length := by rw [hpos2]; omega
            rw [List.getElem?_eq_getElem hlt] at this
            have := (List.getElem?_eq_some_iff.1 this).1
            omega
          refine ⟨a.block, a.off, T, pre, sz, false, ?_, hf, hlast, ?_⟩
          · cases a; simp only at hspot; subst hspot; rfl
          · apply List.ext_getElem?
            intro j
            by_cases hj : j < size
            · rw [List.getElem?_take_of_lt hj, List.getElem?_drop, hpre j hj]
            · rw [List.getElem?_eq_none (by simp; omega), List.getElem?_eq_none (by rw [hpos2]; omega)]
        · simp only [DataW.weights, hd, List.all_cons, Bool.and_eq_true, decide_eq_true_eq] at hw
          have h1 := hw.1
          simp only [List.length_map, hlen] at h1
          rw [hxl]
          exact Nat.le_trans (Nat.mul_le_mul_right _ (by omega)) h1
      · cases h

/-- the same where the elements' own weights are of no matter -/
theorem open_rows {α H : Type} {enc : TypeId × Value → H} {P : Program} {W : World} {t e : TypeId} {size : Nat} (encα : α → List Value) (hd : P.underlying t = some (.slice e)) (hs : P.cellsOf e = size) (hpos : 0 < size) (hpos2 : ∀ x, (encα x).length = size)
    (hel : ∀ fuel cs d ps, DataW.trod enc P W 0 (fun _ => true) true fuel e cs = some (d, ps) → ∃ x, cs = encα x) {fuel : Nat} {cs : List Value} {d : DataW H} {ps : List MemPlace}
    (h : DataW.trod enc P W 0 (fun _ => true) true fuel t cs = some (d, ps)) (hw : (d.weights P t).all (· ≤ reachBytes) = true) :
    ∃ (v : Value) (xs : List α), cs = [v] ∧ rowsAt (full W) size v (xs.map encα) ∧ xs.length * P.bytesOf e ≤ reachBytes :=
  open_rowsW encα hd hs hpos hpos2 (fun fuel cs d ps h _ => hel fuel cs d ps h) h hw

/-- a slice whose elements are so -/
theorem open_rowsQ {H : Type} {enc : TypeId × Value → H} {P : Program} {W : World} {t e : TypeId} {size : Nat} (Q : List Value → Prop) (hd : P.underlying t = some (.slice e)) (hs : P.cellsOf e = size) (hpos : 0 < size) (hpos2 : ∀ c, Q c → c.length = size)
    (hel : ∀ fuel cs d ps, DataW.trod enc P W 0 (fun _ => true) true fuel e cs = some (d, ps) → (d.weights P e).all (· ≤ reachBytes) = true → Q cs) {fuel : Nat} {cs : List Value} {d : DataW H} {ps : List MemPlace}
    (h : DataW.trod enc P W 0 (fun _ => true) true fuel t cs = some (d, ps)) (hw : (d.weights P t).all (· ≤ reachBytes) = true) :
    ∃ (v : Value) (es : List (List Value)), cs = [v] ∧ rowsAt (full W) size v es ∧ (∀ c ∈ es, Q c) ∧ es.length * P.bytesOf e ≤ reachBytes := by
  obtain ⟨v, xs, h1, h2, h3⟩ := open_rowsW (α := { c : List Value // Q c }) Subtype.val hd hs hpos (fun x => hpos2 _ x.2) (fun fuel cs d ps h w => ⟨⟨cs, hel fuel cs d ps h w⟩, rfl⟩) h hw
  refine ⟨v, xs.map Subtype.val, h1, h2, fun c hc => ?_, by rw [List.length_map]; exact h3⟩
  obtain ⟨x, _, rfl⟩ := List.mem_map.1 hc
  exact x.2

theorem weightsEach_of {H : Type} {P : Program} {q : Nat → Bool} : ∀ {ts : List TypeId} {ds : List (DataW H)}, (DataW.weightsEach P ts ds).all q = true → ∀ (i : Nat) t d, ts[i]? = some t → ds[i]? = some d → (d.weights P t).all q = true := by
  intro ts
  induction ts with
  | nil => intro ds h i t d ht; simp at ht
  | cons t ts ih =>
    intro ds h i t' d' ht hd
    cases ds with
    | nil => simp at hd
    | cons d ds =>
      simp only [DataW.weightsEach, List.all_append, Bool.and_eq_true] at h
      cases i with
      | zero => simp at ht hd; subst ht; subst hd; exact h.1
      | succ i => exact ih h.2 i t' d' (by simpa using ht) (by simpa using hd)

/-- a struct, field by field -/
theorem open_struct {H : Type} {enc : TypeId × Value → H} {P : Program} {W : World} {t : TypeId} {fs : Array Field} (hd : P.underlying t = some (.struct fs)) {fuel : Nat} {cs : List Value} {d : DataW H} {ps : List MemPlace}
    (h : DataW.trod enc P W 0 (fun _ => true) true fuel t cs = some (d, ps)) (hw : (d.weights P t).all (· ≤ reachBytes) = true) :
    cs.length = P.cellsOf t ∧ ∀ (i ty off n : Nat), (fs[i]?).map (fun f => (f.type, f.offset)) = some (ty, off) → P.cellsOf ty = n → ∃ fuel' d' ps', DataW.trod enc P W 0 (fun _ => true) true fuel' ty ((cs.drop off).take n) = some (d', ps') ∧ (d'.weights P ty).all (· ≤ reachBytes) = true := by
  cases fuel with
  | zero => simp [DataW.trod] at h
  | succ fuel =>
    simp only [DataW.trod, hd] at h
    split at h
    · rename_i hlen
      obtain ⟨xs, hm, he⟩ := Option.map_eq_some_iff.1 h
      simp only [Prod.mk.injEq] at he
      obtain ⟨rfl, rfl⟩ := he
      obtain ⟨hl, hg⟩ := mapM_some _ _ hm
      refine ⟨hlen, fun i ty off n hf hn => ?_⟩
      obtain ⟨f, hf2, he⟩ := Option.map_eq_some_iff.1 hf
      cases he
      subst hn
      have hf' : fs.toList[i]? = some f := by simpa using hf2
      obtain ⟨y, hy, hyi⟩ := hg i f hf'
      refine ⟨fuel, y.1, y.2, hy, ?_⟩
      simp only [DataW.weights, hd] at hw
      exact weightsEach_of hw i f.type y.1 (by rw [List.getElem?_map, hf']; rfl) (by rw [List.getElem?_map, hyi]; rfl)
    · cases h

theorem open_bool_cs {H : Type} {enc : TypeId × Value → H} {P : Program} {W : World} {t : TypeId} (hd : P.underlying t = some .bool) {fuel : Nat} {cs : List Value} {d : DataW H} {ps : List MemPlace}
    (h : DataW.trod enc P W 0 (fun _ => true) true fuel t cs = some (d, ps)) : ∃ x : Bool, cs = [.bool x] := by
  cases fuel with
  | zero => simp [DataW.trod] at h
  | succ fuel =>
    simp only [DataW.trod, hd] at h
    split at h <;> first
      | (rename_i q; cases q; done)
      | (rename_i q _; cases q; done)
      | cases h
      | skip
    exact ⟨_, rfl⟩

/-- a struct of whole numbers -/
theorem open_ints_struct {H : Type} {enc : TypeId × Value → H} {P : Program} {W : World} {t : TypeId} {fs : Array Field} (hd : P.underlying t = some (.struct fs)) (hc : P.cellsOf t = fs.size)
    (hf : ∀ (i : Nat) f, fs[i]? = some f → f.offset = i ∧ P.underlying f.type = some (.int .i64) ∧ P.cellsOf f.type = 1) {fuel : Nat} {cs : List Value} {d : DataW H} {ps : List MemPlace}
    (h : DataW.trod enc P W 0 (fun _ => true) true fuel t cs = some (d, ps)) : ∃ xs : List Int, xs.length = fs.size ∧ cs = xs.map i64 ∧ ∀ x ∈ xs, (Lit.int .i64 x).wf = true := by
  cases fuel with
  | zero => simp [DataW.trod] at h
  | succ fuel =>
    simp only [DataW.trod, hd] at h
    split at h
    · rename_i hlen
      obtain ⟨xs, hm, _⟩ := Option.map_eq_some_iff.1 h
      obtain ⟨hl, hg⟩ := mapM_some _ _ hm
      have each : ∀ i, i < fs.size → ∃ n : Int, cs[i]? = some (i64 n) ∧ (Lit.int .i64 n).wf = true := by
        intro i hi
        have hfi : fs[i]? = some fs[i] := Array.getElem?_eq_getElem hi
        obtain ⟨ho, hu, hcc⟩ := hf i _ hfi
        obtain ⟨y, hy, _⟩ := hg i fs[i] (by simp [hfi])
        rw [ho, hcc] at hy
        cases fuel with
        | zero => simp [DataW.trod] at hy
        | succ fuel =>
          have hlt : i < cs.length := by rw [hlen, hc]; exact hi
          have htk : (cs.drop i).take 1 = [cs[i]] := by
            rw [List.drop_eq_getElem_cons hlt]; rfl
          rw [htk] at hy
          simp only [DataW.trod, hu] at hy
          split at hy <;> first
            | (rename_i q; cases q; done)
            | (rename_i q _; cases q; done)
            | cases hy
            | skip
          rename_i k k' n hk hcs
          cases hk
          split at hy
          · rename_i hwf
            obtain ⟨rfl, hwf⟩ := hwf
            refine ⟨n, ?_, hwf⟩
            rw [List.getElem?_eq_getElem hlt]
            simpa using hcs
          · cases hy
      have build : ∀ m, m ≤ fs.size → ∃ ys : List Int, ys.length = m ∧ cs.take m = ys.map i64 ∧ ∀ x ∈ ys, (Lit.int .i64 x).wf = true := by
        intro m
        induction m with
        | zero => intro _; exact ⟨[], rfl, rfl, fun x hx => by simp at hx⟩
        | succ m ih =>
          intro hm
          obtain ⟨ys, h1, h2, h3⟩ := ih (by omega)
          obtain ⟨n, h4, h5⟩ := each m (by omega)
          refine ⟨ys ++ [n], by simp [h1], by rw [List.take_add_one, h4, h2]; simp, fun x hx => ?_⟩
          rcases List.mem_append.1 hx with q | q
          · exact h3 x q
          · simp at q; subst q; exact h5
      obtain ⟨ys, h1, h2, h3⟩ := build fs.size (Nat.le_refl _)
      exact ⟨ys, h1, by rw [← h2, List.take_of_length_le (by omega)], h3⟩
    · cases h

theorem open_int_cs {H : Type} {enc : TypeId × Value → H} {P : Program} {W : World} {t : TypeId} (hd : P.underlying t = some (.int .i64)) {fuel : Nat} {cs : List Value} {d : DataW H} {ps : List MemPlace}
    (h : DataW.trod enc P W 0 (fun _ => true) true fuel t cs = some (d, ps)) : ∃ x : Int, cs = [i64 x] ∧ (Lit.int .i64 x).wf = true := by
  cases fuel with
  | zero => simp [DataW.trod] at h
  | succ fuel =>
    simp only [DataW.trod, hd] at h
    split at h <;> first
      | (rename_i q; cases q; done)
      | (rename_i q _; cases q; done)
      | cases h
      | skip
    rename_i k k' n hk
    cases hk
    split at h
    · rename_i hwf
      obtain ⟨rfl, hwf⟩ := hwf
      exact ⟨n, rfl, hwf⟩
    · cases h

/-- an argument that is a slice is one cell -/
theorem slice_cell {P : Program} {W : World} {r : Reach} {b0 : Nat} {t e : TypeId} {v : Value} (hd : P.underlying t = some (.slice e)) (hval : Value.okWide P W r b0 t v) : v.cells.toList = [v] := by
  unfold Value.okWide at hval
  simp only [hd] at hval
  unfold Cell.okWide at hval
  simp only [hd] at hval
  unfold Cell.ok at hval
  cases v <;> simp only [hd] at hval <;> first | rfl | exact hval.elim

end Go.Proofs.Ytkcgphbgbibhfaa
