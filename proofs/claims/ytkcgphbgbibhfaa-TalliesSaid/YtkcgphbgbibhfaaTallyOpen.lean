/- Events that a law is handed, read as rows of the law's own heap. Nothing here is a statement on the program. -/
import Derived.Test.YtkcgphbgbibhfaaTally
import Derived.Test.YtkcgphbgbibhfaaPlanOpen
namespace Go.Proofs.Ytkcgphbgbibhfaa
open Go GW Go.Proofs
set_option linter.unusedVariables false
set_option linter.unusedSimpArgs false
theorem open_answer {H : Type} {enc : TypeId × Value → H} {W : World} {fuel : Nat} {cs : List Value} {d : DataW H} {ps : List MemPlace} (h : DataW.trod enc Try.prog W 0 (fun _ => true) true fuel 57 cs = some (d, ps)) : ∃ x : Answer, cs = x.enc := by
  obtain ⟨xs, hl, hc, _⟩ := open_ints_struct (P := Try.prog) Try.underlying57 (by kernel_rfl) (fun i f hf => by
    have hi : i < 2 := by have := (Array.getElem?_eq_some_iff.1 hf).1; simpa using this
    match i, hi with
    | 0, _ | 1, _ => simp at hf; subst hf; exact ⟨rfl, by kernel_rfl, by kernel_rfl⟩) h
  match xs, hl with
  | [x0, x1], _ => exact ⟨⟨x0, x1⟩, hc⟩
theorem open_event {H : Type} {enc : TypeId × Value → H} {W : World} {fuel : Nat} {cs : List Value} {d : DataW H} {ps : List MemPlace} (h : DataW.trod enc Try.prog W 0 (fun _ => true) true fuel 40 cs = some (d, ps)) (hw : (d.weights Try.prog 40).all (· ≤ reachBytes) = true) :
    ∃ e : Event, evC (full W) cs e ∧ e.answers.length * 16 ≤ reachBytes := by
  obtain ⟨hl, hfs⟩ := open_struct Try.underlying40 h hw
  have c1 : Try.prog.cellsOf 40 = 8 := by kernel_rfl
  have c2 : Try.prog.cellsOf 38 = 1 := by kernel_rfl
  have c3 : Try.prog.cellsOf 3 = 1 := by kernel_rfl
  obtain ⟨_, _, _, t0, _⟩ := hfs 0 3 0 1 rfl c3
  obtain ⟨_, _, _, t1, _⟩ := hfs 1 3 1 1 rfl c3
  obtain ⟨_, _, _, t2, _⟩ := hfs 2 3 2 1 rfl c3
  obtain ⟨_, _, _, t3, _⟩ := hfs 3 3 3 1 rfl c3
  obtain ⟨_, _, _, t4, _⟩ := hfs 4 3 4 1 rfl c3
  obtain ⟨_, _, _, t5, _⟩ := hfs 5 3 5 1 rfl c3
  obtain ⟨_, _, _, t6, _⟩ := hfs 6 3 6 1 rfl c3
  obtain ⟨_, _, _, t7, w7⟩ := hfs 7 38 7 1 rfl c2
  obtain ⟨x0, e0, _⟩ := open_int_cs Try.underlying3 t0
  obtain ⟨x1, e1, _⟩ := open_int_cs Try.underlying3 t1
  obtain ⟨x2, e2, _⟩ := open_int_cs Try.underlying3 t2
  obtain ⟨x3, e3, _⟩ := open_int_cs Try.underlying3 t3
  obtain ⟨x4, e4, _⟩ := open_int_cs Try.underlying3 t4
  obtain ⟨x5, e5, _⟩ := open_int_cs Try.underlying3 t5
  obtain ⟨x6, e6, _⟩ := open_int_cs Try.underlying3 t6
  obtain ⟨w, xs, e7, r7, l7⟩ := open_rows (P := Try.prog) Answer.enc Try.underlying38 (size := 2) (by kernel_rfl) (by decide) (fun _ => rfl) (fun fuel cs d ps h => open_answer h) t7 w7
  have hb : Try.prog.bytesOf 57 = 16 := by kernel_rfl
  rw [hb] at l7
  refine ⟨⟨x0, x1, x2, x3, x4, x5, x6, xs⟩, ⟨w, ?_, r7⟩, l7⟩
  rw [c1] at hl
  match cs, hl with
  | [a, b, c, d, e, f, g, k], _ =>
    simp at e0 e1 e2 e3 e4 e5 e6 e7
    subst e0 e1 e2 e3 e4 e5 e6 e7
    rfl
theorem open_events {H : Type} {enc : TypeId × Value → H} {W : World} {fuel : Nat} {cs : List Value} {d : DataW H} {ps : List MemPlace} (h : DataW.trod enc Try.prog W 0 (fun _ => true) true fuel 25 cs = some (d, ps)) (hw : (d.weights Try.prog 25).all (· ≤ reachBytes) = true) :
    ∃ v, ∃ es : List Event, cs = [v] ∧ eventsAt (full W) v es ∧ es.length * 80 ≤ reachBytes ∧ ∀ e ∈ es, e.answers.length * 16 ≤ reachBytes := by
  obtain ⟨w, es, h1, h2, h3, h4⟩ := open_rowsQ (P := Try.prog) (size := 8) (fun c => ∃ e : Event, evC (full W) c e ∧ e.answers.length * 16 ≤ reachBytes) Try.underlying25 (by kernel_rfl) (by decide) (fun c ⟨t, ⟨w, hc, _⟩, _⟩ => by rw [hc]; rfl) (fun fuel cs d ps h w => open_event h w) h hw
  obtain ⟨ts, ht⟩ := All2.of (R := fun c (e : Event) => evC (full W) c e ∧ e.answers.length * 16 ≤ reachBytes) (fun c hc => hc) es h3
  have hb : Try.prog.bytesOf 40 = 80 := by kernel_rfl
  rw [hb, ht.1] at h4
  refine ⟨w, ts, h1, ⟨es, h2, ht.mono fun x y q => q.1⟩, h4, fun e he => ?_⟩
  obtain ⟨i, hi, hie⟩ := List.mem_iff_getElem.1 he
  obtain ⟨c, _, hc⟩ := ht.get (i := i) (y := e) (by rw [List.getElem?_eq_getElem hi, hie])
  exact hc.2
end Go.Proofs.Ytkcgphbgbibhfaa
