/- The model's run of each operation does what 'gop' says: all of them ('gop_out'). Nothing here is a statement on the program. -/
import Derived.Test.YtkcgphbgbibhfaaG8
namespace Go.Proofs.Ytkcgphbgbibhfaa.GW
open Go
set_option linter.unusedVariables false
set_option linter.unusedSimpArgs false

section
variable {P : Program} {e : GEnv} {h : GH} {K : Value → GH → Prop} {a : Act} {w : World} {o : Oper}

theorem run_nc {v r : Value} (hr : ncV v = some r) {x : Operand} (hx : a.eval x = v) (hop : o.op = .nilCheck x) : (execOp a.eval o).run P w = .ok (.value r) w := by
  unfold ncV at hr
  split at hr <;> first
    | (cases hr; done)
    | (cases hr
       simp only [execOp, hop, hx]
       first
         | rfl
         | (split <;> first
             | (exfalso; simp_all; done)
             | rfl))

theorem run_fieldAt {st : TypeId} {f off n : Nat} {g : Bool} (hf : fieldK P st f = some (off, n, g)) (hn : Nat.beq n 0 = false) {p v : Value} (hv : faV off p = some v) : (Instr.fieldAt st p f).run P w = .ok v w := by
  unfold fieldK at hf
  split at hf
  · rename_i fs hd
    split at hf
    · rename_i fd hfd
      split at hf
      · rename_i n' g' hs
        cases hf
        obtain ⟨d, i, hd', hi, hsz, _⟩ := szK_spec hs
        have hn' : i.size ≠ 0 := by rw [hsz]; intro h0; subst h0; simp at hn
        unfold faV at hv
        split at hv
        · rename_i b o
          cases hv
          simp [Instr.fieldAt, run_underlying hd, hfd, Instr.sureAddr, fieldPlace, sizeOf, typeInfo, hi, hn', Addr.add_plain]
        · cases hv
      · cases hf
    · cases hf
  · cases hf

theorem run_field {st : TypeId} {f off n : Nat} {g : Bool} (hf : fieldK P st f = some (off, n, g)) {p v : Value} (hv : fdV off n g p = some v) : (Instr.field st p f).run P w = .ok v w := by
  unfold fieldK at hf
  split at hf
  · rename_i fs hd
    split at hf
    · rename_i fd hfd
      split at hf
      · rename_i n' g' hs
        cases hf
        obtain ⟨d, i, hd', hi, hsz, ha⟩ := szK_spec hs
        unfold fdV at hv
        split at hv
        · rename_i cs
          cases g with
          | true => cases hv; simp [Instr.field, run_underlying hd, hfd, asAgg, part, ha, sizeOf, typeInfo, hi, hsz]
          | false => simp only at hv; simp [Instr.field, run_underlying hd, hfd, asAgg, part, ha, hv]
        · cases hv
      · cases hf
    · cases hf
  · cases hf

theorem run_mm {mx : Bool} : ∀ (r : List Value) (x v : Value), mmV mx x r = some v → (r.foldlM (match mx with | true => Builtin.max2 | false => Builtin.min2) x : Sem Value).run P w = .ok v w := by
  intro r
  induction r with
  | nil => intro x v h; simp [mmV] at h; simp [h]
  | cons y r ih =>
    intro x v h
    simp only [mmV] at h
    split at h
    · rename_i z hz
      unfold m2V at hz
      split at hz
      · cases hz
        have := ih _ _ h
        cases mx <;> simp [Builtin.max2, Builtin.min2] at this ⊢ <;> exact this
      · cases hz
    · cases h

theorem run_callFunc {f : FuncId} (hf : Has P f) (args : Array Value) (w : World) : (callFunc f args).run P w = .ok (.enter f args) w := by
  obtain ⟨fn, h1, h2, h3⟩ := hf
  simp only [callFunc, Sem.run_bind, run_program, Result.andThen_ok, h1, h2, h3, Bool.false_eq_true, if_false, Sem.run_pure]

theorem out_callV {c : Call} {f : Operand} {fv : Value} {args : List Value} (hop : o.op = .call c) (hc : c.callee = .value f) (hf : a.eval f = fv) (ha : c.args.toList.map a.eval = args) (s : Sub h w)
    (g : callV P fv args h K) : Out P ((execOp a.eval o).run P w) h w K := by
  unfold callV at g
  split at g
  · rename_i fn first cap
    refine .inr (.inr ⟨fn, first ++ args.toArray ++ cap, ?_, by simpa using g⟩)
    have hm : c.args.map a.eval = args.toArray := by rw [← ha]; apply Array.ext'; simp
    simp only [execOp, hop, resolve, hc, hf, Sem.run_bind, Deferred.ofValue, Sem.run_pure, Result.andThen_ok, invoke, hm]
    exact run_callFunc g.has _ w
  · exact g.elim

theorem out_ivV {c : Call} {r : Operand} {name : String} {rv : Value} {args : List Value} (hop : o.op = .call c) (hc : c.callee = .invoke r name) (hf : a.eval r = rv) (ha : c.args.toList.map a.eval = args) (s : Sub h w)
    (g : ivV P rv name args h K) : Out P ((execOp a.eval o).run P w) h w K := by
  unfold ivV at g
  split at g
  · rename_i ty v
    obtain ⟨f, r, hm, t⟩ := g
    refine .inr (.inr ⟨f, #[r] ++ args.toArray, ?_, by simpa using t⟩)
    have hm2 : c.args.map a.eval = args.toArray := by rw [← ha]; apply Array.ext'; simp
    have hx : (#[(Value.iface ty v : Value)] ++ args.toArray)[0]? = some (.iface ty v) := by simp
    have hy : ((#[(Value.iface ty v : Value)] ++ args.toArray).extract 1 (#[(Value.iface ty v : Value)] ++ args.toArray).size) = args.toArray := by
      apply Array.ext'; simp
    simp only [execOp, hop, resolve, hc, hf, Sem.run_bind, Sem.run_pure, Result.andThen_ok, invoke, hm2, hx, hy, callMethod, run_program, hm]
    exact run_callFunc t.has _ w
  · exact g.elim

theorem out_gbi {c : Call} {b : Builtin} {args : List Value} (hop : o.op = .call c) (hc : c.callee = .builtin b) (hm : c.args.map a.eval = args.toArray) (s : Sub h w) (g : gbi P b c.argTypes args h K) : Out P ((execOp a.eval o).run P w) h w K := by
  unfold gbi at g
  split at g
  · rename_i v
    split at g
    · rename_i t ht
      split at g
      · rename_i el hd
        obtain ⟨r, hr, g⟩ := bnd_iff.1 g
        refine .val (v := r) ?_ s g
        unfold lnV at hr
        split at hr
        · cases hr
          simp [execOp, hop, resolve, hc, invoke, builtin, hm, Builtin.len_, ht, run_underlying hd, goInt]
        · cases hr
      · rename_i n el hd
        refine .val ?_ s g
        simp [execOp, hop, resolve, hc, invoke, builtin, hm, Builtin.len_, ht, run_underlying hd, goInt]
      · exact g.elim
    · exact g.elim
  · rename_i sv x
    split at g
    · rename_i t t2 ht ht2
      split at g
      · rename_i el e2 hd hd2
        split at g
        · rename_i i z hi hz
          split at g
          · rename_i hl
            have hl := Nat.eq_of_beq_eq_true hl
            obtain ⟨v, w', h', hr, s', st, k⟩ := run_append hd hd2 hi hz hl s g o.type
            refine .new (v := v) ?_ s' st k
            have hsame : (Builtin.append_ c.argTypes o.type #[sv, x]).run P w = (Builtin.append_ #[t, t2] o.type #[sv, x]).run P w := by
              simp only [Builtin.append_, ht, ht2, List.getElem?_toArray, List.getElem?_cons_zero, List.getElem?_cons_succ]
            simp only [execOp, hop, resolve, hc, invoke, builtin, hm, Sem.run_bind, Sem.run_pure, Result.andThen_ok, hsame, hr]
          · exact g.elim
        · exact g.elim
      · exact g.elim
    · exact g.elim
  · rename_i x r
    obtain ⟨v, hv, g⟩ := bnd_iff.1 g
    refine .val (v := v) ?_ s g
    simp only [execOp, hop, resolve, hc, invoke, builtin, hm, Sem.run_bind, Sem.run_pure, Result.andThen_ok, Builtin.min_, run_mm (mx := false) r x v hv]
  · rename_i x r
    obtain ⟨v, hv, g⟩ := bnd_iff.1 g
    refine .val (v := v) ?_ s g
    simp only [execOp, hop, resolve, hc, invoke, builtin, hm, Sem.run_bind, Sem.run_pure, Result.andThen_ok, Builtin.max_, run_mm (mx := true) r x v hv]
  · exact g.elim

theorem gop_out (he : ESub e a.tmps) (s : Sub h w) (g : gop P o.op e h K) : Out P ((execOp a.eval o).run P w) h w K := by
  cases hop : o.op with
  | build t parts => exact out_build hop he s (hop ▸ g)
  | buildSlice t len parts => exact out_buildSlice hop he s (hop ▸ g)
  | makeSlice t l c => exact out_makeSlice hop he s (hop ▸ g)
  | slice t x lo hi mx =>
    cases mx with
    | none => exact out_slice hop he s (hop ▸ g)
    | some m => rw [hop] at g; exact g.elim
  | move x =>
    rw [hop] at g; simp only [gop] at g
    split at g
    · rename_i v hv; exact .val (v := v) (by simp [execOp, hop, evO_sound he hv]) s g
    · exact g.elim
  | assign x =>
    rw [hop] at g; simp only [gop] at g
    split at g
    · rename_i v hv; exact .val (v := v) (by simp [execOp, hop, evO_sound he hv]) s g
    · exact g.elim
  | pick c x y =>
    rw [hop] at g; simp only [gop] at g
    split at g
    · rename_i vc hc
      obtain ⟨v, hv, g⟩ := bnd_iff.1 g
      refine .val (v := v) ?_ s g
      unfold pickO at hv
      split at hv
      · simp [execOp, hop, evO_sound he hc, evO_sound he hv, asBool]
      · simp [execOp, hop, evO_sound he hc, evO_sound he hv, asBool]
      · cases hv
    · exact g.elim
  | alloc t =>
    rw [hop] at g; simp only [gop] at g
    split at g
    · rename_i z hz
      obtain ⟨zv, rfl, hzr⟩ := zeroK_spec hz
      obtain ⟨w', hr, s', st⟩ := run_newVar (P := P) (t := t) (v := zv) s
      refine .new (v := .pointer (some ⟨w.heap.size, 0, none⟩)) ?_ s' st (g _ (s.fresh (Nat.le_refl _)))
      simp only [execOp, hop, Instr.alloc, Sem.run_bind, hzr, Result.andThen_ok, hr, Sem.run_pure]
    · exact g.elim
  | box t x =>
    rw [hop] at g; simp only [gop] at g
    split at g
    · rename_i v hv
      obtain ⟨w', hr, s', st⟩ := run_newVar (P := P) (t := t) (v := v) s
      refine .new (v := .pointer (some ⟨w.heap.size, 0, none⟩)) ?_ s' st (g _ (s.fresh (Nat.le_refl _)))
      simp only [execOp, hop, evO_sound he hv, Instr.box, Sem.run_bind, hr, Result.andThen_ok, Sem.run_pure]
    · exact g.elim
  | load t x =>
    rw [hop] at g; simp only [gop] at g
    split at g
    · rename_i p n gg hp hs
      obtain ⟨v, hv, g⟩ := bnd_iff.1 g
      refine .val (v := v) ?_ s g
      simp only [execOp, hop, evO_sound he hp, Sem.run_bind, run_loadAt hs s hv, Result.andThen_ok, Sem.run_pure]
    · exact g.elim
  | store t x y =>
    rw [hop] at g; simp only [gop] at g
    split at g
    · rename_i p v n gg hp hv hs
      obtain ⟨h', hh, g⟩ := bnd_iff.1 g
      obtain ⟨w', hr, s', st⟩ := run_storeAt (P := P) hs s hh
      refine .inr (.inl ⟨w', h', ?_, s', st, g⟩)
      simp only [execOp, hop, evO_sound he hp, evO_sound he hv, Sem.run_bind, hr, Result.andThen_ok, Sem.run_pure]
    · exact g.elim
  | nilCheck x =>
    rw [hop] at g; simp only [gop] at g
    split at g
    · rename_i v hv
      obtain ⟨r, hr, g⟩ := bnd_iff.1 g
      exact .val (v := r) (run_nc hr (evO_sound he hv) hop) s g
    · exact g.elim
  | binOp op t x y yt =>
    rw [hop] at g; simp only [gop] at g
    split at g
    · rename_i va vb hx hy
      split at g
      · obtain ⟨r, k, hr⟩ := run_eq_G (P := P) (w := w) (.inl rfl) (evO_sound he hx) (evO_sound he hy) g
        refine .val (v := .bool r) ?_ s k
        simp only [Sem.run_bind] at hr
        simp only [execOp, hop, evO_sound he hx, evO_sound he hy, Sem.run_bind, hr, Result.andThen_ok, Sem.run_pure, sgn]
      · obtain ⟨r, k, hr⟩ := run_eq_G (P := P) (w := w) (.inr rfl) (evO_sound he hx) (evO_sound he hy) g
        refine .val (v := .bool !r) ?_ s k
        simp only [Sem.run_bind] at hr
        simp only [execOp, hop, evO_sound he hx, evO_sound he hy, Sem.run_bind, hr, Result.andThen_ok, Sem.run_pure, sgn]
      · obtain ⟨v, hv, g⟩ := bnd_iff.1 g
        refine .val (v := v) ?_ s g
        simp only [execOp, hop, evO_sound he hx, evO_sound he hy, Sem.run_bind, run_eqGuard_int hv, run_binOp_int hv, Result.andThen_ok, Sem.run_pure]
    · exact g.elim
  | unOp op t x =>
    rw [hop] at g; simp only [gop] at g
    split at g
    · rename_i v hv
      obtain ⟨r, hr, g⟩ := bnd_iff.1 g
      refine .val (v := r) ?_ s g
      unfold unV at hr
      split at hr <;> cases hr <;> simp [execOp, hop, evO_sound he hv, Op.unary, Op.intArith]
    · exact g.elim
  | convert sr d x =>
    rw [hop] at g; simp only [gop] at g
    split at g
    · rename_i v d1 k hv h1 h2
      obtain ⟨r, hr, g⟩ := bnd_iff.1 g
      refine .val (v := r) ?_ s g
      unfold cvV at hr
      split at hr <;> cases hr
      cases d1 <;> simp [execOp, hop, evO_sound he hv, convert, run_underlying h1, run_underlying h2, Conv.intToInt]
    · exact g.elim
  | makeInterface t x =>
    rw [hop] at g; simp only [gop] at g
    split at g
    · exact g.elim
    · rename_i v d hn hx hd
      refine .val (v := .iface t v) ?_ s g
      cases d <;> first
        | (exact (hn _ rfl).elim)
        | (simp [execOp, hop, evO_sound he hx, Instr.makeInterface, run_underlying hd])
    · exact g.elim
  | makeFunc fn f c =>
    rw [hop] at g; simp only [gop] at g
    split at g
    · rename_i va vb hf hc
      refine .val (v := .func fn va.toArray vb.toArray) ?_ s g
      have h1 := evL_sound he hf
      have h2 := evL_sound he hc
      have h1' : f.map a.eval = va.toArray := by rw [← h1]; apply Array.ext'; simp
      have h2' : c.map a.eval = vb.toArray := by rw [← h2]; apply Array.ext'; simp
      simp [execOp, hop, Instr.makeFunc, h1', h2']
    · exact g.elim
  | fieldAddr st x f =>
    rw [hop] at g; simp only [gop] at g
    split at g
    · rename_i v off n gg hv hf
      split at g
      · rename_i hn
        obtain ⟨r, hr, g⟩ := bnd_iff.1 g
        refine .val (v := r) ?_ s g
        simp only [execOp, hop, evO_sound he hv, Sem.run_bind, run_fieldAt hf hn hr, Result.andThen_ok, Sem.run_pure]
      · exact g.elim
    · exact g.elim
  | field st x f =>
    rw [hop] at g; simp only [gop] at g
    split at g
    · rename_i v off n gg hv hf
      obtain ⟨r, hr, g⟩ := bnd_iff.1 g
      refine .val (v := r) ?_ s g
      simp only [execOp, hop, evO_sound he hv, Sem.run_bind, run_field hf hr, Result.andThen_ok, Sem.run_pure]
    · exact g.elim
  | indexAddr t x i =>
    rw [hop] at g; simp only [gop] at g
    split at g
    · rename_i v iv len el hv hi hd
      split at g
      · rename_i j hj
        obtain ⟨r, hr, g⟩ := bnd_iff.1 g
        refine .val (v := r) ?_ s g
        unfold iaV at hr
        split at hr
        · rename_i b off k i
          split at hr
          · rename_i hc
            cases hr
            simp only [execOp, hop, evO_sound he hv, evO_sound he hi, Instr.indexAt, asIntOf, Instr.sureAddr, Sem.run_bind, run_underlying hd, Sem.run_pure, Result.andThen_ok, sizeOf, typeInfo, run_program, hj, Sem.run_ite, hc, and_self, if_true, Addr.add_plain]
          · cases hr
        · cases hr
      · exact g.elim
    · rename_i v iv el hv hi hd
      split at g
      · rename_i j hj
        obtain ⟨r, hr, g⟩ := bnd_iff.1 g
        refine .val (v := r) ?_ s g
        unfold isV at hr
        split at hr
        · rename_i b off len cap k i
          split at hr
          · rename_i hc
            cases hr
            simp only [execOp, hop, evO_sound he hv, evO_sound he hi, Instr.indexAt, asIntOf, Sem.run_bind, run_underlying hd, Sem.run_pure, Result.andThen_ok, sizeOf, typeInfo, run_program, hj, Sem.run_ite, hc, and_self, if_true, Addr.add_plain]
          · cases hr
        · cases hr
      · exact g.elim
    · exact g.elim
  | index t x i =>
    rw [hop] at g; simp only [gop] at g
    split at g
    · rename_i v iv len el hv hi hd
      split at g
      · rename_i n gg hs
        obtain ⟨r, hr, g⟩ := bnd_iff.1 g
        obtain ⟨d, j, hd', hj, hsz, ha⟩ := szK_spec hs
        refine .val (v := r) ?_ s g
        unfold ixV at hr
        split at hr
        · rename_i cs k i
          split at hr
          · rename_i hc
            cases gg with
            | true => cases hr; simp [execOp, hop, evO_sound he hv, evO_sound he hi, Instr.index, asIntOf, run_underlying hd, sizeOf, typeInfo, hj, part, ha, hsz, hc]
            | false => simp only at hr; simp [execOp, hop, evO_sound he hv, evO_sound he hi, Instr.index, asIntOf, run_underlying hd, sizeOf, typeInfo, hj, part, ha, hsz, hc, hr]
          · cases hr
        · cases hr
      · exact g.elim
    · exact g.elim
  | extract t i =>
    rw [hop] at g; simp only [gop] at g
    split at g
    · rename_i v hv
      obtain ⟨r, hr, g⟩ := bnd_iff.1 g
      refine .val (v := r) ?_ s g
      unfold exV at hr
      split at hr
      · simp [execOp, hop, evO_sound he hv, Instr.extract, hr]
      · cases hr
    · exact g.elim
  | typeAssert x xt as ok =>
    rw [hop] at g; simp only [gop] at g
    split at g
    · rename_i v want z hv hd hz
      obtain ⟨r, hr, g⟩ := bnd_iff.1 g
      have hzr : ∀ w, (zeroValue as).run P w = .ok z w := by
        intro w
        unfold zeroVK at hz
        split at hz
        · rename_i i hi; simp [zeroValue, typeInfo, hi, hz]
        · cases hz
      refine .val (v := r) ?_ s g
      unfold tiV at hr
      split at hr
      · cases ok <;> simp only [reduceCtorEq, Option.some.injEq] at hr
        subst hr; simp [execOp, hop, evO_sound he hv, Instr.typeAssert, run_underlying hd, hzr]
      · rename_i t x'
        split at hr
        · rename_i i hi
          split at hr
          · rename_i hm
            cases ok <;> simp only [Option.some.injEq] at hr <;> subst hr <;> simp [execOp, hop, evO_sound he hv, Instr.typeAssert, run_underlying hd, typeInfo, hi, hm]
          · rename_i hm
            cases ok <;> simp only [reduceCtorEq, Option.some.injEq] at hr
            subst hr; simp [execOp, hop, evO_sound he hv, Instr.typeAssert, run_underlying hd, typeInfo, hi, hm]
            simp only [zeroValue, typeInfo, Sem.run_bind, run_program, Result.andThen_ok] at hzr
            simp [zeroValue, typeInfo, hzr]
        · cases hr
      · cases hr
    · rename_i v d z hn hv hd hz
      obtain ⟨r, hr, g⟩ := bnd_iff.1 g
      have hzr : ∀ w, (zeroValue as).run P w = .ok z w := by
        intro w
        unfold zeroVK at hz
        split at hz
        · rename_i i hi; simp [zeroValue, typeInfo, hi, hz]
        · cases hz
      refine .val (v := r) ?_ s g
      unfold taV at hr
      split at hr
      · cases ok <;> simp only [reduceCtorEq, Option.some.injEq] at hr
        subst hr
        cases d <;> first
          | (exact (hn _ rfl).elim)
          | (simp [execOp, hop, evO_sound he hv, Instr.typeAssert, run_underlying hd, hzr])
      · rename_i t x'
        split at hr
        · rename_i ht
          have ht := Nat.eq_of_beq_eq_true ht
          cases ok <;> simp only [Option.some.injEq] at hr <;> subst hr <;> cases d <;> first
            | (exact (hn _ rfl).elim)
            | (simp [execOp, hop, evO_sound he hv, Instr.typeAssert, run_underlying hd, ht])
        · rename_i ht
          have ht : t ≠ as := by intro h0; subst h0; simp at ht
          cases ok <;> simp only [reduceCtorEq, Option.some.injEq] at hr
          subst hr
          cases d <;> first
            | (exact (hn _ rfl).elim)
            | (simp [execOp, hop, evO_sound he hv, Instr.typeAssert, run_underlying hd, ht, hzr])
      · cases hr
    · exact g.elim
  | call c =>
    rw [hop] at g; simp only [gop] at g
    split at g
    · rename_i f hc
      split at g
      · rename_i fv args hf ha; exact out_callV hop hc (evO_sound he hf) (evL_sound he ha) s g
      · exact g.elim
    · rename_i r name hc
      split at g
      · rename_i fv args hf ha; exact out_ivV hop hc (evO_sound he hf) (evL_sound he ha) s g
      · exact g.elim
    · rename_i b hc
      split at g
      · rename_i args ha
        have hm : c.args.map a.eval = args.toArray := by have := evL_sound he ha; apply Array.ext'; simpa using this
        exact out_gbi hop hc hm s g
      · exact g.elim
  | _ => rw [hop] at g; exact g.elim

end
end Go.Proofs.Ytkcgphbgbibhfaa.GW
