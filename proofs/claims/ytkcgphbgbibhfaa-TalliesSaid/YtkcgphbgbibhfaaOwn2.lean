/- Rows that a function owns: cells that are written. Nothing here is a statement on the program. -/
import Derived.Test.YtkcgphbgbibhfaaOwn
namespace Go.Proofs.Ytkcgphbgbibhfaa
open Go GW Go.Proofs
set_option linter.unusedVariables false
set_option linter.unusedSimpArgs false
theorem setCells_left : ∀ (ys c rest : List Value) (j : Nat), j + ys.length ≤ c.length → setCells (c ++ rest) j ys = setCells c j ys ++ rest := by
  intro ys
  induction ys with
  | nil => intros; rfl
  | cons y ys ih =>
    intro c rest j h
    simp only [List.length_cons] at h
    rw [setCells_cons, setCells_cons, List.set_append_left _ _ (by omega), ih _ _ _ (by rw [List.length_set]; omega)]
theorem setCells_right : ∀ (ys c rest : List Value) (j : Nat), setCells (c ++ rest) (c.length + j) ys = c ++ setCells rest j ys := by
  intro ys
  induction ys with
  | nil => intros; rfl
  | cons y ys ih =>
    intro c rest j
    rw [setCells_cons, setCells_cons, List.set_append_right _ _ (by omega), Nat.add_sub_cancel_left, Nat.add_assoc, ih]
theorem setCells_flatten {size : Nat} (ys : List Value) : ∀ (cs : List (List Value)) (i j : Nat) (c : List Value), (∀ c ∈ cs, c.length = size) → cs[i]? = some c → j + ys.length ≤ size → setCells cs.flatten (i * size + j) ys = (cs.set i (setCells c j ys)).flatten := by
  intro cs
  induction cs with
  | nil => intro i j c _ h; simp at h
  | cons d cs ih =>
    intro i j c hl hc hj
    have hd : d.length = size := hl d (by simp)
    cases i with
    | zero =>
      simp at hc; subst hc
      rw [Nat.zero_mul, Nat.zero_add, List.flatten_cons, setCells_left _ _ _ _ (by omega)]; rfl
    | succ i =>
      have e : (i + 1) * size + j = d.length + (i * size + j) := by rw [hd, Nat.add_mul]; omega
      rw [e, List.flatten_cons, setCells_right, ih i j c (fun x hx => hl x (List.mem_cons_of_mem _ hx)) (by simpa using hc) hj]; rfl
theorem setCells_ones : ∀ (ys c : List Value) (j : Nat), c.all oneCell = true → ys.all oneCell = true → (setCells c j ys).all oneCell = true := by
  intro ys
  induction ys with
  | nil => intro c j h _; exact h
  | cons y ys ih =>
    intro c j hc hy
    simp only [List.all_cons, Bool.and_eq_true] at hy
    rw [setCells_cons]
    refine ih _ _ ?_ hy.2
    rw [List.all_eq_true] at hc ⊢
    intro x hx
    rcases List.mem_or_eq_of_mem_set hx with q | q
    · exact hc x q
    · subst q; exact hy.1
/-- an element of a row of one's own: read, and written -/
theorem own.at {h : GH} {size : Nat} {v : Value} {cs : List (List Value)} (o : own h size v cs) {i : Nat} {c : List Value} (hc : cs[i]? = some c) (k : IntKind) :
    ∃ b, isV size v (.int k i) = some (.pointer (some ⟨b, i * size, none⟩)) ∧ blk v b ∧ (∀ (j : Nat) x, c[j]? = some x → ldV 1 false (.pointer (some ⟨b, i * size + j, none⟩)) h = some x) ∧
      ldV size true (.pointer (some ⟨b, i * size, none⟩)) h = some (.agg c.toArray) ∧
      ∀ (j n : Nat) (y : Value), y.cells.size = n → j + n ≤ size → y.cells.toList.all oneCell = true → ∃ h', stV n (.pointer (some ⟨b, i * size + j, none⟩)) y h = some h' ∧ own h' size v (cs.set i (setCells c j y.cells.toList)) ∧ Keep (blk v) h h' ∧ ∀ q, h q = none → h' q = none := by
  have hi := (List.getElem?_eq_some_iff.1 hc).1
  have r := o.rows
  obtain ⟨a, cap, rfl, h2, h3, h4, h5⟩ := o
  rcases h5 with ⟨rfl, he, _⟩ | ⟨b, T, rfl, e⟩
  · subst he; simp at hi
  have hfl := flatten_good cs h4
  have hcl := (h4 c (List.mem_of_getElem? hc)).1
  obtain ⟨hg, hle⟩ := flatten_get size cs (fun c hc => (h4 c hc).1) [] i c hc
  rw [List.append_nil] at hg
  refine ⟨b, ?_, rfl, fun j x hj => ?_, ?_, fun j n y hn hj hone => ?_⟩
  · simp only [isV]; rw [if_pos ⟨by omega, by omega⟩]; simp
  · rw [ldV_cell e]
    rw [← hg, List.getElem?_take] at hj
    split at hj
    · rw [List.getElem?_drop] at hj; exact hj
    · cases hj
  · rw [ldV_agg e _ _ hle, hg]
  · have hlen : y.cells.toList.length = n := by rw [← hn]; rfl
    refine ⟨_, stV_row e n (i * size + j) y hn (by omega) hone, ?_, ?_, ?_⟩
    · rw [setCells_flatten y.cells.toList cs i j c (fun c hc => (h4 c hc).1) hc (by omega)]
      refine ⟨_, cap, by simp, by simpa using h2, by simpa using h3, fun d hd => ?_, .inr ⟨b, T, rfl, upd_same _ _ _⟩⟩
      rcases List.mem_or_eq_of_mem_set hd with q | q
      · exact h4 d q
      · subst q
        exact ⟨by rw [length_setCells]; exact hcl, setCells_ones _ _ _ (h4 c (List.mem_of_getElem? hc)).2 hone⟩
    · intro k' g e' nb
      have : k' ≠ b := fun q => nb (by subst q; rfl)
      rw [upd_ne this]; exact e'
    · intro q hq
      rw [upd_ne (Ne.symm (ne_of_fresh hq e))]; exact hq
theorem zerosV_flatten (zero : List Value) : ∀ n, zerosV zero n = (List.replicate n zero).flatten := by
  intro n
  induction n with
  | zero => rfl
  | succ n ih => rw [List.replicate_succ, List.flatten_cons, ← ih]; rfl
/-- a row that is made -/
theorem mkV_rows {h : GH} {T : TypeId} {bytes size n : Nat} {zero : List Value} {k1 k2 : IntKind} {K : Value → GH → Prop} (hz : good size zero) (hm : n ≤ 9223372036854775807) (hb : bytes * n ≤ 140737488355328)
    (k : ∀ v h', own h' size v (List.replicate n zero) → HLe h h' → (∀ b, blk v b → h b = none) → K v h') : mkV T bytes zero (.int k1 n) (.int k2 n) h K := by
  unfold mkV
  refine ⟨by omega, by omega, by omega, by omega, fun b hb0 => ?_⟩
  have hg : ∀ c ∈ List.replicate n zero, good size c := fun c hc => by rw [(List.mem_replicate.1 hc).2]; exact hz
  rw [zerosV_flatten]
  have hfl := (flatten_good _ hg).1
  rw [List.length_replicate] at hfl
  refine k _ _ (own_of (upd_same _ _ _) (by rfl) (by simp) (by simp only [Int.toNat_natCast]; exact hfl) (Nat.le_refl _) (by simpa using hm) hg) ((HLe.refl h).new _ hb0) fun b' hb' => ?_
  have : b = b' := hb'
  subst this; exact hb0
end Go.Proofs.Ytkcgphbgbibhfaa
