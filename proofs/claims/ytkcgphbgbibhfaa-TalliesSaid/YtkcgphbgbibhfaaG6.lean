/- The model's run of each operation does what 'gop' says: 'gop_out'. Nothing here is a statement on the program. -/
import Derived.Test.YtkcgphbgbibhfaaG5
namespace Go.Proofs.Ytkcgphbgbibhfaa.GW
open Go
set_option linter.unusedVariables false
set_option linter.unusedSimpArgs false

section
variable {P : Program} {e : GEnv} {h : GH} {K : Value → GH → Prop} {a : Act} {w : World} {o : Oper}

theorem out_build {t : TypeId} {parts : Array (Nat × Operand)} (hop : o.op = .build t parts) (he : ESub e a.tmps) (s : Sub h w) (g : gop P (.build t parts) e h K) : Out P ((execOp a.eval o).run P w) h w K := by
  simp only [gop] at g
  split at g
  · rename_i fs hd
    split at g
    · rename_i z l hall hz hl
      obtain ⟨zv, rfl, hzr⟩ := zeroK_spec hz
      obtain ⟨cs, hf, g⟩ := bnd_iff.1 g
      obtain ⟨a1, a2, a3, a4⟩ := partsK_sound he (placeS P fs) hl
      refine .val (v := .agg cs.toArray) ?_ s g
      have hm : ∀ w, (fs.mapM fun f => (do pure (f.offset, ← sizeOf f.type) : Sem (Nat × Nat))).run P w = .ok (fs.map fun f => (f.offset, ((P.info? f.type).map (·.size)).getD 0)) w := by
        intro w
        rw [Array.mapM_eq_mapM_toList]
        have : ∀ (l : List Field), l.all (fun f => (P.info? f.type).isSome) = true → (l.mapM fun f => (do pure (f.offset, ← sizeOf f.type) : Sem (Nat × Nat))).run P w = .ok (l.map fun f => (f.offset, ((P.info? f.type).map (·.size)).getD 0)) w := by
          intro l
          induction l with
          | nil => intro _; simp
          | cons f l ih =>
            intro hl
            simp only [List.all_cons, Bool.and_eq_true] at hl
            obtain ⟨i, hi⟩ := Option.isSome_iff_exists.1 hl.1
            have ih' := ih hl.2
            simp only [List.mapM_cons, Sem.run_bind, sizeOf, typeInfo, run_program, Result.andThen_ok, hi, Sem.run_pure] at ih' ⊢
            rw [ih']
            simp [hi]
        rw [Sem.run_map, this _ hall]
        simp only [Result.andThen_ok, Result.ok.injEq, and_true]
        apply Array.ext'
        simp
      have hplace : ∀ i, placeS P fs i ≠ none → placeS P fs i = (fs.map fun f => (f.offset, ((P.info? f.type).map (·.size)).getD 0))[i]? := by
        intro i hne
        unfold placeS at hne ⊢
        cases hfi : fs[i]? with
        | none => simp [hfi] at hne
        | some f =>
          cases hif : P.info? f.type with
          | none => simp [hfi, hif] at hne
          | some j => simp [hfi, hif]
      have hfill : Instr.fill ((fs.map fun f => (f.offset, ((P.info? f.type).map (·.size)).getD 0))[·]?) zv.cells (parts.map fun (i, x) => (i, a.eval x)).toList = some cs.toArray := by
        refine fill_of_fillV _ _ l _ _ ?_ ?_ ?_ ?_ hf
        · rw [← a1]; simp only [Array.toList_map]; apply List.map_congr_left; intro q hq; have := a2 q (by simpa using hq); rw [← hplace _ (Option.isSome_iff_ne_none.1 this)]
        · intro q hq; have := a2 q (by simpa using hq); rw [← hplace _ (Option.isSome_iff_ne_none.1 this)]; exact this
        · rw [← a3]; simp only [Array.toList_map]; apply List.map_congr_left; intro q hq; have := a2 q (by simpa using hq); rw [← hplace _ (Option.isSome_iff_ne_none.1 this)]
        · rw [← a4]; simp
      simp only [execOp, hop, Instr.build, Sem.run_bind, hzr, Result.andThen_ok, run_underlying hd]
      rw [hm]
      simp only [Result.andThen_ok, hfill, Sem.run_pure]
    · exact g.elim
  · rename_i n el hd
    split at g
    · rename_i i z hi hz
      split at g
      · rename_i l hl
        obtain ⟨zv, rfl, hzr⟩ := zeroK_spec hz
        obtain ⟨cs, hf, g⟩ := bnd_iff.1 g
        obtain ⟨a1, a2, a3, a4⟩ := partsK_sound he _ hl
        refine .val (v := .agg cs.toArray) ?_ s g
        have hfill : Instr.fill (fun j => some (j * i.size, i.size)) zv.cells (parts.map fun (i, x) => (i, a.eval x)).toList = some cs.toArray := by
          refine fill_of_fillV _ _ l _ _ ?_ ?_ ?_ ?_ hf
          · rw [← a1]; simp
          · intro q hq; rfl
          · rw [← a3]; simp
          · rw [← a4]; simp
        simp only [execOp, hop, Instr.build, Sem.run_bind, hzr, Result.andThen_ok, run_underlying hd, sizeOf, typeInfo, run_program, hi, Sem.run_pure, hfill]
      · exact g.elim
    · exact g.elim
  · exact g.elim

theorem out_buildSlice {t : TypeId} {len : Nat} {parts : Array (Nat × Operand)} (hop : o.op = .buildSlice t len parts) (he : ESub e a.tmps) (s : Sub h w) (g : gop P (.buildSlice t len parts) e h K) : Out P ((execOp a.eval o).run P w) h w K := by
  simp only [gop] at g
  split at g
  · rename_i el hd
    split at g
    · rename_i i z hi hz
      split at g
      · rename_i l hl hc
        simp only [Bool.and_eq_true] at hc
        have c1 := Nat.le_of_ble_eq_true hc.1
        have c2 := Nat.eq_of_beq_eq_true hc.2
        obtain ⟨zv, rfl, hzr⟩ := zeroK_spec hz
        obtain ⟨cs, hf, g⟩ := bnd_iff.1 g
        obtain ⟨a1, a2, a3, a4⟩ := partsK_sound he _ hl
        simp only [Array.length_toList] at c2
        have hzero : ((Array.range (len * i.size)).map fun j => (if len * i.size = 0 then (#[] : Array Value) else zv.cells)[j % (if len * i.size = 0 then (#[] : Array Value) else zv.cells).size]!).toList = zerosV zv.cells.toList len := by
          by_cases h0 : len * i.size = 0
          · have hz0 : len * zv.cells.size = 0 := by rw [c2]; exact h0
            rw [← zeros_array, hz0, h0]; simp
          · simp only [h0, if_false]
            rw [← zeros_array, c2]
        have hfill : Instr.fill (fun j => some (j * i.size, i.size)) ((Array.range (len * i.size)).map fun j => (if len * i.size = 0 then (#[] : Array Value) else zv.cells)[j % (if len * i.size = 0 then (#[] : Array Value) else zv.cells).size]!) (parts.map fun (i, x) => (i, a.eval x)).toList = some cs.toArray := by
          refine fill_of_fillV _ _ l _ _ ?_ ?_ ?_ ?_ (by rw [hzero]; exact hf)
          · rw [← a1]; simp
          · intro q hq; rfl
          · rw [← a3]; simp
          · rw [← a4]; simp
        obtain ⟨s', st⟩ := sub_push s el cs.toArray cs (by simp)
        refine .new (v := .slice (some ⟨w.heap.size, 0, none⟩) len len) ?_ s' st ?_
        · simp only [execOp, hop, Instr.buildSlice, Sem.run_bind, run_underlying hd, Result.andThen_ok, sizeOf, typeInfo, run_program, hi, Sem.run_pure]
          rw [if_neg (by omega)]
          by_cases h0 : len * i.size = 0
          · simp only [h0, if_true] at hfill
            simp only [h0, if_true, Sem.run_pure, Result.andThen_ok, hfill, newRow, Sem.run_bind, run_newObj]
          · simp only [h0, if_false] at hfill
            simp only [h0, if_false, Sem.run_pure, Sem.run_bind, hzr, Result.andThen_ok, hfill, newRow, run_newObj]
        · have := g w.heap.size (s.fresh (Nat.le_refl _))
          simpa using this
      · exact g.elim
    · exact g.elim
  · exact g.elim

end
end Go.Proofs.Ytkcgphbgbibhfaa.GW
