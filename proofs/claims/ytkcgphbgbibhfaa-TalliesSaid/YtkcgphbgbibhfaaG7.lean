/- The model's run of append, make and the slice expressions does what 'gop' says. Nothing here is a statement on the program. -/
import Derived.Test.YtkcgphbgbibhfaaG6
namespace Go.Proofs.Ytkcgphbgbibhfaa.GW
open Go
set_option linter.unusedVariables false
set_option linter.unusedSimpArgs false

/-! ### what is known of a row may be less -/
theorem Sub.weaken {h : GH} {w : World} {b : Nat} {T : TypeId} {pre pre' : List Value} {sz : Nat} {f : Bool} (s : Sub (upd h b (.row T pre sz f)) w) (hp : pre' <+: pre) : Sub (upd h b (.row T pre' sz f)) w := by
  intro k g hk
  by_cases hkb : k = b
  · subst hkb
    simp only [upd_same, Option.some.injEq] at hk
    subst hk
    obtain ⟨o, ho, hr⟩ := s k _ (upd_same _ _ _)
    refine ⟨o, ho, ?_⟩
    cases o with
    | cells c T' fr => obtain ⟨r1, r2, r3, r4⟩ := hr; exact ⟨r1, r2, hp.trans r3, r4⟩
    | _ => exact hr.elim
  · rw [upd_ne hkb] at hk
    exact s k g (by rw [upd_ne hkb]; exact hk)

theorem Step.weaken {h h0 : GH} {w w0 : World} {b : Nat} {T : TypeId} {pre pre' : List Value} {sz : Nat} {f : Bool} (s : Step h0 w0 (upd h b (.row T pre sz f)) w) : Step h0 w0 (upd h b (.row T pre' sz f)) w := by
  refine ⟨s.os, s.tape, s.output, s.size, s.old, fun k g' hk hlt => ?_⟩
  by_cases hkb : k = b
  · subst hkb
    simp only [upd_same, Option.some.injEq] at hk
    subst hk
    obtain ⟨g, hg, hf⟩ := s.dom k _ (upd_same _ _ _) hlt
    exact ⟨g, hg, hf⟩
  · rw [upd_ne hkb] at hk
    exact s.dom k g' (by rw [upd_ne hkb]; exact hk) hlt

/-- all cells of a row may be known -/
theorem Sub.whole {h : GH} {w : World} (s : Sub h w) {b : Nat} {T : TypeId} {pre : List Value} {sz : Nat} (e : h b = some (.row T pre sz true)) :
    ∃ all, all.length = sz ∧ pre <+: all ∧ Sub (upd h b (.row T all sz true)) w ∧ Step h w (upd h b (.row T all sz true)) w := by
  obtain ⟨o, ho, hr⟩ := s b _ e
  cases o with
  | cells c T' fr =>
    obtain ⟨r1, r2, r3, r4⟩ := hr
    refine ⟨c.toList, by simpa using r2, r3, ?_, ?_⟩
    · intro k g hk
      by_cases hkb : k = b
      · subst hkb
        simp only [upd_same, Option.some.injEq] at hk
        subst hk
        exact ⟨.cells c T' fr, ho, r1, r2, List.prefix_refl _, r4⟩
      · rw [upd_ne hkb] at hk; exact s k g hk
    · refine ⟨rfl, rfl, rfl, Nat.le_refl _, fun _ _ _ => rfl, fun k g' hk _ => ?_⟩
      by_cases hkb : k = b
      · subst hkb; exact ⟨_, e, by simp [GObj.free]⟩
      · rw [upd_ne hkb] at hk; exact ⟨g', hk, id⟩
  | _ => exact hr.elim

theorem setCells_eq (vs : List Value) : ∀ (pre : List Value) (p : Nat), p + vs.length ≤ pre.length → setCells pre p vs = pre.take p ++ vs ++ pre.drop (p + vs.length) := by
  induction vs with
  | nil => intro pre p _; simp
  | cons v vs ih =>
    intro pre p hp
    simp only [List.length_cons] at hp
    rw [setCells_cons, ih _ _ (by simp; omega)]
    have h1 : (pre.set p v).take (p + 1) = pre.take p ++ [v] := by
      rw [List.take_add_one]
      rw [List.take_set, List.set_eq_of_length_le (by simp; omega)]
      simp [show p < pre.length by omega]
    have h2 : (pre.set p v).drop (p + 1 + vs.length) = pre.drop (p + (v :: vs).length) := by
      rw [List.drop_set_of_lt (by omega)]
      simp [Nat.add_assoc, Nat.add_comm 1]
    rw [h1, h2]; simp

theorem putL_prefix {pre all : List Value} (hp : pre <+: all) (p : Nat) (new : List Value) (h1 : p ≤ pre.length) (h2 : p + new.length ≤ all.length) : putL pre p new <+: setCells all p new := by
  rw [setCells_eq _ _ _ h2]
  obtain ⟨t, rfl⟩ := hp
  unfold putL
  rw [List.take_append_of_le_length h1]
  by_cases h3 : p + new.length ≤ pre.length
  · rw [List.drop_append_of_le_length h3]
    exact ⟨t, by simp⟩
  · rw [List.drop_eq_nil_of_le (by omega), List.append_nil]
    exact ⟨_, rfl⟩

section
variable {P : Program} {e : GEnv} {h : GH} {K : Value → GH → Prop} {a : Act} {w : World} {o : Oper}

theorem run_put {base : Option Addr} {p : Nat} {new : List Value} {h' : GH} (s : Sub h w) (hp : putV base p new h = some h') :
    ∃ w', ((match base with | some a => storeCells (a.add p) new | none => pure ()) : Sem Unit).run P w = .ok () w' ∧ Sub h' w' ∧ Step h w h' w' := by
  unfold putV at hp
  split at hp
  · cases hp
    refine ⟨w, ?_, s, .refl _ _⟩
    cases base <;> simp [storeCells]
  · split at hp
    · rename_i b off
      split at hp
      · rename_i T pre sz he
        split at hp
        · rename_i hc
          simp only [Bool.and_eq_true] at hc
          have c1 := Nat.le_of_ble_eq_true hc.1
          have c2 := Nat.le_of_ble_eq_true hc.2.1
          cases hp
          obtain ⟨all, l1, l2, s1, st1⟩ := s.whole he
          obtain ⟨w', hr, s2, st2⟩ := run_storeCells (P := P) new _ w s1 b T all sz (upd_same _ _ _) (off + p) 0 (by omega) hc.2.2
          have ha : (⟨b, off, none⟩ : Addr).add p = ⟨b, off + p, none⟩ := by
            unfold Addr.add; split
            · subst_vars; simp
            · rfl
          rw [upd_upd] at s2 st2
          refine ⟨w', by simpa [ha] using hr, s2.weaken ?_, (st1.trans st2).weaken⟩
          simpa using putL_prefix l2 (off + p) new c1 (by omega)
        · cases hp
      · cases hp
    · cases hp

theorem run_cells {size n : Nat} {v : Value} {cs : List Value} (s : Sub h w) (hc : cellsAt size n v h = some cs) : (Builtin.firstCells size n v).run P w = .ok cs.toArray w := by
  unfold cellsAt at hc
  split at hc
  · cases hc; simp [Builtin.firstCells]
  · split at hc
    · rename_i h0
      have h0 := Nat.eq_of_beq_eq_true h0
      cases hc; simp [Builtin.firstCells, h0, loadCells, loadCellsFrom]
    · split at hc
      · cases hc
      · split at hc
        · rename_i T pre sz f he
          split at hc
          · rename_i hl
            cases hc
            simp only [Builtin.firstCells]
            exact run_loadCells s he _ _ (Nat.le_of_ble_eq_true hl)
          · cases hc
        · cases hc
  · cases hc

theorem run_append {t t2 el : TypeId} {i : TypeInfo} {z : List Value} {sv x : Value} (ht : P.underlying t = some (.slice el)) {e2 : TypeId} (ht2 : P.underlying t2 = some (.slice e2)) (hi : P.info? el = some i) (hz : zeroK P el = some z)
    (hl : z.length = i.size) (s : Sub h w) (g : apV el i.size i.bytes sv x h K) (ty : TypeId) :
    ∃ v w' h', (Builtin.append_ #[t, t2] ty #[sv, x]).run P w = .ok v w' ∧ Sub h' w' ∧ Step h w h' w' ∧ K v h' := by
  unfold apV at g
  split at g
  · rename_i base sl sc xb n xc
    obtain ⟨new, hnew, g⟩ := bnd_iff.1 g
    have hnewr := fun w (s : Sub h w) => run_cells (P := P) s hnew
    by_cases hle : sl + n ≤ sc
    · rw [if_pos hle] at g
      obtain ⟨h', hp, g⟩ := bnd_iff.1 g
      obtain ⟨w', hr, s', st⟩ := run_put (P := P) s hp
      refine ⟨_, w', h', ?_, s', st, g⟩
      simp only [Builtin.append_, List.getElem?_toArray, List.getElem?_cons_zero, List.getElem?_cons_succ, Sem.run_bind, run_underlying ht, run_underlying ht2, Result.andThen_ok, sizeOf, typeInfo, run_program, hi, Sem.run_pure,
        Builtin.lenOf, hle, if_true, hnewr w s, Bool.false_eq_true, if_false, Bool.not_false]
      cases base with
      | none => simp only [Sem.run_pure, Result.ok.injEq, true_and] at hr ⊢; simp only [hr]
      | some a => simp only [Sem.run_bind] at hr ⊢; simp only [hr, Result.andThen_ok, Sem.run_pure]
    · rw [if_neg hle] at g
      obtain ⟨old, hold, g⟩ := bnd_iff.1 g
      obtain ⟨hb, hmax, lo, ln, g⟩ := g
      have holdr := fun w (s : Sub h w) => run_cells (P := P) s hold
      obtain ⟨zv, rfl, hzr⟩ := zeroK_spec hz
      have hfit := growslice_fits (need := sl + n) (old := sc) (bytes := i.bytes) (by omega) hb
      generalize hnc : (Question.appendCap (sl + n) sc el).cut (w.tape w.drawn (Question.appendCap (sl + n) sc el)) = nc
      have hcap : sl + n ≤ nc := by subst hnc; simp only [Question.cut]; omega
      obtain ⟨s1, st1⟩ := sub_drew s (w.drawn + 1)
      have hsz : (old.toArray ++ new.toArray ++ Builtin.zeroCells zv.cells (nc - (sl + n))).size = nc * i.size := by
        simp only [Array.size_append, List.size_toArray, lo, ln, size_zeroCells]
        simp only [Array.length_toList] at hl
        rw [hl, ← Nat.add_mul, ← Nat.add_mul]
        congr 1; omega
      obtain ⟨s2, st2⟩ := sub_push s1 el (old.toArray ++ new.toArray ++ Builtin.zeroCells zv.cells (nc - (sl + n))) (old ++ new) (by simp)
      rw [hsz] at s2 st2
      refine ⟨_, _, _, ?_, s2, st1.trans st2, g _ nc (s.fresh (Nat.le_refl _)) hcap⟩
      have hq : ¬ (((sl + n : Nat) : Int) > IntKind.i64.max ∧ (False ∨ i.bytes = 0)) := by
        have : IntKind.i64.max = 9223372036854775807 := by decide
        rw [this]; omega
      simp only [Builtin.append_, List.getElem?_toArray, List.getElem?_cons_zero, List.getElem?_cons_succ, Sem.run_bind, run_underlying ht, run_underlying ht2, Result.andThen_ok, sizeOf, typeInfo, run_program, hi, Sem.run_pure,
        Builtin.lenOf, hle, if_false, Bool.false_eq_true, Bool.not_false, if_true]
      rw [if_neg hq]
      simp only [Sem.run_bind, run_program, Result.andThen_ok, hi, Sem.run_pure]
      rw [if_neg (by omega)]
      simp only [Sem.run_bind, run_choose, Question.forced, Bool.false_eq_true, if_false, Result.andThen_ok, hnc, run_askRoom, holdr _ s1, hnewr _ s1, hzr, newRow, run_newObj, Sem.run_pure]
      simp only [run_program, Result.andThen_ok, hi, Sem.run_pure, holdr _ s1, hnewr _ s1]
  · exact g.elim

end
end Go.Proofs.Ytkcgphbgbibhfaa.GW
