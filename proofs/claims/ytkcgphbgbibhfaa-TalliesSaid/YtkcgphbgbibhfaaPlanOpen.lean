/- Plans that a law is handed, read as rows of the law's own heap. Nothing here is a statement on the program. -/
import Derived.Test.YtkcgphbgbibhfaaPlan
import Derived.Test.YtkcgphbgbibhfaaG16
namespace Go.Proofs.Ytkcgphbgbibhfaa
open Go GW Go.Proofs
set_option linter.unusedVariables false
set_option linter.unusedSimpArgs false
theorem one_cell {cs : List Value} {v : Value} (hl : cs.length = 1) (h : (cs.drop 0).take 1 = [v]) : cs = [v] := by
  match cs, hl with
  | [x], _ => simpa using h
theorem open_op {H : Type} {enc : TypeId × Value → H} {W : World} {fuel : Nat} {cs : List Value} {d : DataW H} {ps : List MemPlace} (h : DataW.trod enc Try.prog W 0 (fun _ => true) true fuel 52 cs = some (d, ps)) : ∃ x : Op, cs = x.enc := by
  obtain ⟨xs, hl, hc, _⟩ := open_ints_struct (P := Try.prog) Try.underlying52 (by kernel_rfl) (fun i f hf => by
    have hi : i < 4 := by have := (Array.getElem?_eq_some_iff.1 hf).1; simpa using this
    match i, hi with
    | 0, _ | 1, _ | 2, _ | 3, _ => simp at hf; subst hf; exact ⟨rfl, by kernel_rfl, by kernel_rfl⟩) h
  match xs, hl with
  | [x0, x1, x2, x3], _ => exact ⟨⟨x0, x1, x2, x3⟩, hc⟩
theorem open_txn {H : Type} {enc : TypeId × Value → H} {W : World} {fuel : Nat} {cs : List Value} {d : DataW H} {ps : List MemPlace} (h : DataW.trod enc Try.prog W 0 (fun _ => true) true fuel 48 cs = some (d, ps)) (hw : (d.weights Try.prog 48).all (· ≤ reachBytes) = true) : ∃ t : Txn, txnC (full W) cs t := by
  obtain ⟨hl, hfs⟩ := open_struct Try.underlying48 h hw
  have c1 : Try.prog.cellsOf 48 = 1 := by kernel_rfl
  have c2 : Try.prog.cellsOf 46 = 1 := by kernel_rfl
  obtain ⟨f', d', ps', t0, w0⟩ := hfs 0 46 0 1 rfl c2
  obtain ⟨w, xs, h1, h2, _⟩ := open_rows (P := Try.prog) Op.enc Try.underlying46 (size := 4) (by kernel_rfl) (by decide) (fun _ => rfl) (fun fuel cs d ps h => open_op h) t0 w0
  exact ⟨xs, w, one_cell (by rw [hl, c1]) h1, h2⟩
theorem open_thread {H : Type} {enc : TypeId × Value → H} {W : World} {fuel : Nat} {cs : List Value} {d : DataW H} {ps : List MemPlace} (h : DataW.trod enc Try.prog W 0 (fun _ => true) true fuel 45 cs = some (d, ps)) (hw : (d.weights Try.prog 45).all (· ≤ reachBytes) = true) : ∃ ts : List Txn, thrC (full W) cs ts := by
  obtain ⟨w, es, h1, h2, h3, _⟩ := open_rowsQ (P := Try.prog) (size := 1) (fun c => ∃ t : Txn, txnC (full W) c t) Try.underlying45 (by kernel_rfl) (by decide) (fun c ⟨t, w, hc, _⟩ => by rw [hc]; rfl) (fun fuel cs d ps h w => open_txn h w) h hw
  obtain ⟨ts, ht⟩ := All2.of (R := fun c t => txnC (full W) c t) (fun c hc => hc) es h3
  exact ⟨ts, w, es, h1, h2, ht⟩
theorem open_threads {H : Type} {enc : TypeId × Value → H} {W : World} {fuel : Nat} {cs : List Value} {d : DataW H} {ps : List MemPlace} (h : DataW.trod enc Try.prog W 0 (fun _ => true) true fuel 22 cs = some (d, ps)) (hw : (d.weights Try.prog 22).all (· ≤ reachBytes) = true) : ∃ v, ∃ p : List (List Txn), cs = [v] ∧ threadsAt (full W) v p := by
  obtain ⟨w, es, h1, h2, h3, _⟩ := open_rowsQ (P := Try.prog) (size := 1) (fun c => ∃ t : List Txn, thrC (full W) c t) Try.underlying22 (by kernel_rfl) (by decide) (fun c ⟨t, w, _, hc, _⟩ => by rw [hc]; rfl) (fun fuel cs d ps h w => open_thread h w) h hw
  obtain ⟨ts, ht⟩ := All2.of (R := fun c t => thrC (full W) c t) (fun c hc => hc) es h3
  exact ⟨w, ts, h1, es, h2, ht⟩
theorem open_plan {H : Type} {enc : TypeId × Value → H} {W : World} {base : Nat} {v : Value} {d : DataW H} {ps : List MemPlace} (hval : Value.okWide Try.prog W .any base 24 v) (h : DataW.Trod enc Try.prog W 0 (fun _ => true) true 24 v d ps)
    (hw : (d.weights Try.prog 24).all (· ≤ reachBytes) = true) : ∃ u p, v = .agg (planC u p).toArray ∧ threadsAt (full W) u p.threads := by
  unfold Value.okWide at hval
  simp only [Try.underlying24] at hval
  obtain ⟨arr, rfl, hsz, _⟩ := hval
  obtain ⟨fuel, t⟩ := h
  have t : DataW.trod enc Try.prog W 0 (fun _ => true) true fuel 24 arr.toList = some (d, ps) := t
  obtain ⟨hl, hfs⟩ := open_struct Try.underlying24 t hw
  have c1 : Try.prog.cellsOf 24 = 3 := by kernel_rfl
  have c2 : Try.prog.cellsOf 22 = 1 := by kernel_rfl
  have c3 : Try.prog.cellsOf 3 = 1 := by kernel_rfl
  have c4 : Try.prog.cellsOf 4 = 1 := by kernel_rfl
  obtain ⟨_, _, _, t0, w0⟩ := hfs 0 22 0 1 rfl c2
  obtain ⟨_, _, _, t1, w1⟩ := hfs 1 3 1 1 rfl c3
  obtain ⟨_, _, _, t2, w2⟩ := hfs 2 4 2 1 rfl c4
  obtain ⟨u, p, e0, hp⟩ := open_threads t0 w0
  obtain ⟨x, e1, _⟩ := open_int_cs Try.underlying3 t1
  obtain ⟨y, e2⟩ := open_bool_cs Try.underlying4 t2
  refine ⟨u, ⟨p, x, y⟩, ?_, hp⟩
  have : arr.toList = planC u ⟨p, x, y⟩ := by
    rw [c1] at hl
    generalize arr.toList = cs at *
    match cs, hl with
    | [a, b, c], _ =>
      simp at e0 e1 e2
      subst e0 e1 e2
      rfl
  rw [← this]
end Go.Proofs.Ytkcgphbgbibhfaa
