/- The model's run of each operation does what 'gop' says: all of them ('gop_out'). Nothing here is a statement on the program. -/
import Derived.Test.YtkcgphbgbibhfaaG7
namespace Go.Proofs.Ytkcgphbgbibhfaa.GW
open Go
set_option linter.unusedVariables false
set_option linter.unusedSimpArgs false

section
variable {P : Program} {e : GEnv} {h : GH} {K : Value → GH → Prop} {a : Act} {w : World} {o : Oper}

theorem Addr.add_plain (b off n : Nat) : (⟨b, off, none⟩ : Addr).add n = ⟨b, off + n, none⟩ := by
  unfold Addr.add; split
  · subst_vars; simp
  · rfl

theorem run_sliceBounds {sl : Bool} {len cap : Nat} {lo hi : Option Value} {x y : Nat} (hh : sbV hi cap len = some x) (hl : sbV lo x 0 = some y) (w : World) :
    (Instr.sliceBounds sl len cap lo hi none).run P w = .ok (y, x, cap) w := by
  have h1 : ∀ w, (match hi with | some v => Instr.sliceBound v cap (if sl then .sliceAcap else .sliceAlen) | none => (pure len : Sem Nat)).run P w = .ok x w := by
    intro w
    unfold sbV at hh
    split at hh
    · cases hh; simp
    · rename_i k i
      split at hh
      · rename_i hc; cases hh; simp [Instr.sliceBound, asIntOf, hc]
      · cases hh
    · cases hh
  have h2 : ∀ w, (match lo with | some v => Instr.sliceBound v x (if (none : Option Value).isSome then .slice3C else .sliceB) | none => (pure 0 : Sem Nat)).run P w = .ok y w := by
    intro w
    unfold sbV at hl
    split at hl
    · cases hl; simp
    · rename_i k i
      split at hl
      · rename_i hc; cases hl; simp [Instr.sliceBound, asIntOf, hc]
      · cases hl
    · cases hl
  have h1' := h1 w
  have h2' := h2 w
  unfold Instr.sliceBounds
  cases hi <;> cases lo <;> simp_all

theorem out_slice {t : TypeId} {x : Operand} {lo hi : Option Operand} (hop : o.op = .slice t x lo hi none) (he : ESub e a.tmps) (s : Sub h w) (g : gop P (.slice t x lo hi none) e h K) : Out P ((execOp a.eval o).run P w) h w K := by
  simp only [gop] at g
  split at g
  · rename_i v lo' hi' el hx hlo hhi hd
    split at g
    · rename_i i hi
      obtain ⟨r, hr, g⟩ := bnd_iff.1 g
      unfold slV at hr
      split at hr
      · rename_i b len cap
        split at hr
        · rename_i p hp
          split at hr
          · rename_i q hq
            cases hr
            refine .val (v := _) ?_ s g
            simp only [execOp, hop, Option.map_none, evO_sound he hx, evM_sound he hlo, evM_sound he hhi, Instr.sliceAt, Sem.run_bind, run_underlying hd, Result.andThen_ok, Instr.slice, run_sliceBounds hp hq, sizeOf, typeInfo, run_program, hi, Sem.run_pure]
          · cases hr
        · cases hr
      · cases hr
    · exact g.elim
  · rename_i v lo' hi' n el hx hlo hhi hd
    split at g
    · rename_i i hi
      obtain ⟨r, hr, g⟩ := bnd_iff.1 g
      unfold saV at hr
      split at hr
      · rename_i b
        split at hr
        · rename_i p hp
          split at hr
          · rename_i q hq
            cases hr
            refine .val (v := _) ?_ s g
            simp only [execOp, hop, Option.map_none, evO_sound he hx, evM_sound he hlo, evM_sound he hhi, Instr.sliceAt, Instr.sureAddr, Sem.run_bind, run_underlying hd, Result.andThen_ok, run_sliceBounds hp hq, sizeOf, typeInfo, run_program, hi, Sem.run_pure]
          · cases hr
        · cases hr
      · cases hr
    · exact g.elim
  · exact g.elim

theorem out_makeSlice {t : TypeId} {l c : Operand} (hop : o.op = .makeSlice t l c) (he : ESub e a.tmps) (s : Sub h w) (g : gop P (.makeSlice t l c) e h K) : Out P ((execOp a.eval o).run P w) h w K := by
  simp only [gop] at g
  split at g
  · rename_i lv cv el hl hc hd
    split at g
    · rename_i i z hi hz
      split at g
      · rename_i hzl
        have hzl := Nat.eq_of_beq_eq_true hzl
        obtain ⟨zv, rfl, hzr⟩ := zeroK_spec hz
        simp only [Array.length_toList] at hzl
        unfold mkV at g
        split at g
        · rename_i k1 l k2 c
          obtain ⟨g1, g2, g3, g4, g⟩ := g
          have hlw : IntKind.i64.wrap l = l := by unfold IntKind.wrap; simp [IntKind.bits, IntKind.signed]; omega
          have hcw : IntKind.i64.wrap c = c := by unfold IntKind.wrap; simp [IntKind.bits, IntKind.signed]; omega
          have hz2 : (if c.toNat * i.size = 0 then (#[] : Array Value) else zv.cells).size = i.size ∨ c.toNat * i.size = 0 := by
            by_cases h0 : c.toNat * i.size = 0
            · exact .inr h0
            · left; rw [if_neg h0]; exact hzl
          have hzero : ((Array.range (c.toNat * i.size)).map fun j => (if c.toNat * i.size = 0 then (#[] : Array Value) else zv.cells)[j % (if c.toNat * i.size = 0 then (#[] : Array Value) else zv.cells).size]!).toList = zerosV zv.cells.toList c.toNat := by
            by_cases h0 : c.toNat * i.size = 0
            · have hz0 : c.toNat * zv.cells.size = 0 := by rw [hzl]; exact h0
              rw [← zeros_array, hz0, h0]; simp
            · simp only [h0, if_false]
              rw [← zeros_array, hzl]
          obtain ⟨s', st⟩ := sub_push s el ((Array.range (c.toNat * i.size)).map fun j => (if c.toNat * i.size = 0 then (#[] : Array Value) else zv.cells)[j % (if c.toNat * i.size = 0 then (#[] : Array Value) else zv.cells).size]!) (zerosV zv.cells.toList c.toNat) (by rw [hzero]; exact List.prefix_refl _)
          refine .new (v := .slice (some ⟨w.heap.size, 0, none⟩) l.toNat c.toNat) ?_ s' st ?_
          · simp only [execOp, hop, evO_sound he hl, evO_sound he hc, Instr.makeSlice, Sem.run_bind, run_underlying hd, Result.andThen_ok, asInt, asIntOf, Sem.run_pure, typeInfo, run_program, hi, hlw, hcw, sizeOf]
            have hbig : (decide (c < 0) || decide ((i.bytes : Int) * c > 2 ^ 48)) = false := by simp; omega
            have hcond : ¬ ((decide (c < 0) || decide ((i.bytes : Int) * c > 2 ^ 48)) = true ∨ False) := by simp; omega
            simp only [hbig, Bool.false_eq_true, Bool.false_or, Bool.or_eq_true, decide_eq_true_eq, false_or]
            rw [if_neg (by omega)]
            simp only [Sem.run_bind, run_askRoom, Result.andThen_ok, run_program, hi, Sem.run_pure]
            by_cases h0 : c.toNat * i.size = 0
            · simp only [h0, if_true, Sem.run_pure, Result.andThen_ok, newRow, Sem.run_bind, run_newObj]
            · simp only [h0, if_false, hzr, Sem.run_bind, Sem.run_pure, Result.andThen_ok, newRow, run_newObj]
          · have := g w.heap.size (s.fresh (Nat.le_refl _))
            have hsz : ((Array.range (c.toNat * i.size)).map fun j => (if c.toNat * i.size = 0 then (#[] : Array Value) else zv.cells)[j % (if c.toNat * i.size = 0 then (#[] : Array Value) else zv.cells).size]!).size = (zerosV zv.cells.toList c.toNat).length := by rw [← hzero]; simp
            rw [hsz]; exact this
        · exact g.elim
      · exact g.elim
    · exact g.elim
  · exact g.elim

end
end Go.Proofs.Ytkcgphbgbibhfaa.GW
