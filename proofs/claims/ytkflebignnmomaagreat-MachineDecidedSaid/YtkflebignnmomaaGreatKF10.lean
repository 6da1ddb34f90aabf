/- Several texts in one; nothing here is a statement on the program. -/
import Derived.Test.YtkflebignnmomaaGreatKF9
set_option linter.unusedVariables false
set_option linter.unusedSimpArgs false
namespace Go.Proofs.YtkflebignnmomaaGreat
open Go GW Go.Proofs
section
variable {D : Int → Option Dw} {Q : Qs} {Lo : Int → Prop} {A B : Ar} {F : Int → Stk} {M : Int → Int} {t q q' s : Int} {d : Dw} {n : Nat} {e : Sw} {w w' : Wh} {r : List Fr} {c x : Int}
structure One (A B : Ar) (c x : Int) : Prop where
  c0 : 0 ≤ c
  c1 : c < 16
  at_ : B.at c = x
  ne : ∀ j, 0 ≤ j → j < 634 → j ≠ c → B.at j = A.at j
theorem One.of_cas {o : Int} (ok : A.ok) (c0 : 0 ≤ c) (c1 : c < 16) (h : A.at c = o) : One A (A.cas c o x) c x :=
  ⟨c0, c1, by rw [at_cas ok c0 (by omega) c0 (by omega), if_pos rfl, if_pos h], fun j j0 j1 jn => by rw [at_cas ok c0 (by omega) j0 j1, if_neg (Ne.symm jn)]⟩
theorem cas_same {o : Int} (ok : A.ok) (c0 : 0 ≤ c) (c1 : c < 634) (h : A.at c ≠ o) : ∀ j, 0 ≤ j → j < 634 → (A.cas c o x).at j = A.at j := fun j j0 j1 => by
  rw [at_cas ok c0 c1 j0 j1, if_neg h]
  split
  · rename_i e; rw [e]
  · rfl
theorem One.base (O : One A B c x) (l : Life s d.g) : B.at (baseOf s) = A.at (baseOf s) := by
  have := base_at l
  have := O.c1
  exact O.ne _ (by omega) (by omega) (by omega)
theorem One.dok (O : One A B c x) (o : DOk A s d) : DOk B s d := o.cell fun j j0 j1 => by have := O.c1; exact O.ne j (by omega) j1 (by omega)
theorem ent_same {s' : Int} {d' : Dw} {n' : Nat} {e' : Sw} {t' q' : Int} (I : MI D Q Lo A F M) (hd : D s = some d) (hd' : D s' = some d') (he : d.ds[n]? = some e) (he' : d'.ds[n']? = some e')
    (t0 : 0 ≤ t ∧ t < 4) (t0' : 0 ≤ t' ∧ t' < 4) (q0 : 0 ≤ q ∧ q < 1048576) (q0' : 0 ≤ q' ∧ q' < 1048576) (h : ew s d.g n t q = ew s' d'.g n' t' q') : s = s' ∧ d = d' ∧ n = n' ∧ e = e' ∧ t = t' ∧ q = q' := by
  have o := I.ds _ _ hd; have o' := I.ds _ _ hd'
  obtain ⟨a, b, c, f, g⟩ := ew_inj o.1 o'.1 (o.lt he).1 (o'.lt he').1 t0 t0' q0 q0' h
  subst a
  rw [hd] at hd'; cases hd'
  subst c
  rw [he] at he'; cases he'
  exact ⟨rfl, rfl, rfl, rfl, f, g⟩
theorem Rel.put (I : MI D Q Lo A F M) (hS : (F t).q = q) (ht : 0 ≤ t ∧ t < 4) (hd : D s = some d) (he : d.ds[n]? = some e) (ha : A.at e.c = e.w * 4) (O : One A B e.c (ew s d.g n t q)) : Rel D F A B := by
  have hq := I.q0 t
  rw [hS] at hq
  refine ⟨fun s1 d1 h1 => ⟨fun h => by unfold Opn at h ⊢; rw [← O.base (I.ds _ _ h1).1]; exact h, fun _ => O.base (I.ds _ _ h1).1⟩, fun s1 d1 h1 _ c c0 c1 hc => ?_, fun s1 d1 n1 e1 t1 q1 h1 he1 _ _ _ hc => ?_, fun s1 d1 n1 e1 t1 q1 h1 he1 ht1 hq1 hc => ?_, fun s1 d1 n1 e1 h1 he1 hc => by
    have m := (I.ds _ _ h1).lt he1
    by_cases c : e1.c = e.c
    · rw [c, O.at_] at hc; exact absurd hc.symm mw_ew
    · rw [O.ne _ m.2.1 (by omega) c] at hc; exact .inl hc⟩
  · rw [O.ne c c0 (by omega) fun h => by subst h; rw [ha] at hc; exact mcas_not_val hc.symm]; exact hc
  · have m := (I.ds _ _ h1).lt he1
    rw [O.ne _ m.2.1 (by omega) fun h => by rw [h, ha] at hc; exact entry_not_val hc.symm]; exact .inl hc
  · have m := (I.ds _ _ h1).lt he1
    have wn : Won B s1 d1 → Won A s1 d1 := fun h => by unfold Won at h ⊢; rw [← O.base (I.ds _ _ h1).1]; exact h
    by_cases c : e1.c = e.c
    · exfalso
      rw [c, O.at_] at hc
      obtain ⟨a1, a2, a3, a4, a5, a6⟩ := ent_same I hd h1 he he1 ht ht1 hq ⟨hq1.1, by have := (I.q0 t1).2; omega⟩ hc
      subst a5
      omega
    · rw [O.ne _ m.2.1 (by omega) c] at hc; exact ⟨hc, wn⟩
structure Dec (A B : Ar) (s g x : Int) : Prop where
  op : A.at (baseOf s) = stateW g 0
  at_ : B.at (baseOf s) = stateW g x
  ne : ∀ j, 0 ≤ j → j < 634 → j ≠ baseOf s → B.at j = A.at j
theorem Dec.of_cas {g : Int} (ok : A.ok) (l : Life s d.g) (h : A.at (baseOf s) = stateW g 0) : Dec A (A.cas (baseOf s) (stateW g 0) (stateW g x)) s g x := by
  have b := base_at l
  exact ⟨h, by rw [at_cas ok (by omega) b.2 (by omega) b.2, if_pos rfl, if_pos h], fun j j0 j1 jn => by rw [at_cas ok (by omega) b.2 j0 j1, if_neg (Ne.symm jn)]⟩
theorem base_ne {s s' : Int} (h : s ≠ s') : baseOf s ≠ baseOf s' := by unfold baseOf; omega
theorem Dec.dok (x0 : 0 ≤ x ∧ x < 3) (O : Dec A B s d.g x) (l : Life s d.g) {s' : Int} {d' : Dw} (hs : s' = s → d' = d) (o : DOk A s' d') : DOk B s' d' := by
  obtain ⟨l', m, st, hst, D⟩ := o
  have hl := sw_len m
  have lt : ∀ (i : Nat) d, d'.ds[i]? = some d → (i : Int) < 16 := fun i d e => by have := (List.getElem?_eq_some_iff.1 e).1; omega
  have := l'.s0; have := l'.s1
  by_cases c : s' = s
  · have e := hs c; subst e; subst c
    have ne : ∀ i : Int, 1 ≤ i → i < 50 → B.at (baseOf s' + i) = A.at (baseOf s' + i) := fun i i0 i1 => O.ne _ (by unfold baseOf; omega) (by unfold baseOf; omega) (by omega)
    refine ⟨l', m, x, x0, O.at_, by rw [ne 1 (by omega) (by omega)]; exact D.cnt, fun i d e => ?_, fun i d e => ?_, fun i d e => ?_⟩
    · have := lt i d e; rw [ne _ (by omega) (by omega)]; exact D.c i d e
    · have := lt i d e; rw [ne _ (by omega) (by omega)]; exact D.w i d e
    · have := lt i d e; rw [ne _ (by omega) (by omega)]; exact D.n i d e
  · refine ⟨l', m, st, hst, D.keep m fun j j0 j1 => O.ne j (by unfold baseOf at j0; omega) (by unfold baseOf at j1; omega) ?_⟩
    unfold baseOf at j0 j1 ⊢; omega
end
set_option maxRecDepth 20000
def Rep (n : Int) : List Int → List Touch → List Int → Prop
  | ws, [], ws' => ws = ws'
  | ws, t :: ts, ws' => (0 ≤ t.at_ ∧ t.at_ < 634 ∧ ws[t.at_.toNat]? = some t.was ∧ (t.kind = 0 → t.now = t.was) ∧ 0 ≤ t.thread ∧ t.thread < n) ∧ Rep n (ws.set t.at_.toNat t.now) ts ws'
theorem Rep.snoc {n : Int} : ∀ {ts : List Touch} {ws ws' : List Int} {t : Touch}, Rep n ws ts ws' → 0 ≤ t.at_ → t.at_ < 634 → ws'[t.at_.toNat]? = some t.was → (t.kind = 0 → t.now = t.was) → 0 ≤ t.thread → t.thread < n → Rep n ws (ts ++ [t]) (ws'.set t.at_.toNat t.now) := by
  intro ts
  induction ts with
  | nil => intro ws ws' t h h1 h2 h3 h4 h5 h6; cases h; exact ⟨⟨h1, h2, h3, h4, h5, h6⟩, rfl⟩
  | cons x ts ih => intro ws ws' t h h1 h2 h3 h4 h5 h6; exact ⟨h.1, ih h.2 h1 h2 h3 h4 h5 h6⟩
structure Mc.rep (M : Mc) (n : Int) : Prop where
  len : (M.ths.length : Int) = n
  way : ∀ x ∈ M.ths, x.way
  rep : Rep n newAr.ws M.ts M.A.ws
theorem Mc.new_rep (p : Plan) : (Mc.new p).rep p.threads.length := by
  refine ⟨by show ((Mc.threads _ _ _ _ _).length : Int) = _; rw [Mc.threads_len], fun x hx => ?_, rfl⟩
  obtain ⟨j, t, _, rfl⟩ := Mc.threads_mem hx
  exact .inr Th.new_on
theorem Th.ok.ops_may {x : Th} (o : x.ok) (h : x.evs ≠ []) : Txn.may x.ops = true := by
  obtain ⟨e, he⟩ : ∃ e, x.evs.getLast? = some e := by
    cases hl : x.evs.getLast? with
    | none => rw [List.getLast?_eq_none_iff] at hl; exact absurd hl h
    | some e => exact ⟨e, rfl⟩
  have hi := o.idx (x.evs.length - 1) e (by rw [← List.getLast?_eq_getElem?]; exact he)
  have hl := List.length_pos_iff.2 h
  have hev := o.evs
  unfold Th.ops
  rw [he]
  simp only
  rw [hi, Int.toNat_natCast, List.getD_eq_getElem?_getD, List.getElem?_eq_getElem (by omega)]
  exact (thrMay_spec o.txns).2 _ (List.getElem_mem _)
theorem Th.ok.mays {x : Th} (o : x.ok) (h : x.evs ≠ []) {L : List Int} (hL : ∀ y ∈ L, 0 ≤ y ∧ y < 65535) : Mays x L := by
  intro s s0 s1
  have i0 := o.i0; have i1 := o.i1; have n1 := o.n1
  have hy : 0 ≤ L.getD s.toNat 0 ∧ L.getD s.toNat 0 < 65535 := by
    rw [List.getD_eq_getElem?_getD]
    cases e : L[s.toNat]? with
    | none => exact ⟨by decide, by decide⟩
    | some y => exact hL y (List.mem_of_getElem? e)
  refine ⟨⟨i0, by omega⟩, ⟨o.q0, o.q1⟩, ?_, o.ops_may h⟩
  unfold lifeMay
  exact decide_eq_true ⟨s0, s1, by omega, by omega⟩
theorem Th.decide_way {x : Th} {s pick : Int} (h : x.way) : (x.decide s pick).way := by
  unfold Th.decide
  split
  · rcases h with h | h
    · exact .inl h
    · exact .inr ⟨h.ent, h.adv, h.tri, h.pop, h.push⟩
  · exact h
theorem Mc.pick_rep {M : Mc} {n k : Int} (o : M.ok) (r : M.rep n) (hp : M.picks < 65535) : (M.pick k).1.rep n := by
  unfold Mc.pick
  split
  · exact r
  · rename_i c
    split
    · exact r
    · rename_i x hx
      have ox := o.ths x (List.mem_of_getElem? hx)
      have wx := r.way x (List.mem_of_getElem? hx)
      have len := r.len
      have hL : ∀ y ∈ M.L, 0 ≤ y ∧ y < 65535 := fun y hy => by have := o.L2 y hy; omega
      -- the life that is taken is of a transaction that is there
      have key : (x.step M.A M.L M.picks).1.way ∧ ((x.step M.A M.L M.picks).2.1 = true → Acd M.A (x.step M.A M.L M.picks).2.2.2.1) ∧ ((x.step M.A M.L M.picks).2.1 = false → (x.step M.A M.L M.picks).2.2.2.1 = M.A) := by
        by_cases he : x.evs = []
        · have hx1 : x.next = none := by
            cases hn : x.next with
            | none => rfl
            | some a => exact absurd he (ox.1.live (.inl (by rw [hn]; simp)))
          exact Th.step_way0 ox.1 wx o.A hx1
        · exact Th.step_way ox.1 wx o.A (ox.1.mays he hL)
      generalize x.step M.A M.L M.picks = s at key
      obtain ⟨k1, k2, k3⟩ := key
      simp only
      have wy : ∀ y ∈ M.ths.set k.toNat s.1, y.way := fun y hy => by
        rcases List.mem_or_eq_of_mem_set hy with q | q
        · exact r.way y q
        · subst q; exact k1
      refine ⟨?_, fun y hy => ?_, ?_⟩
      · show (((if s.2.1 = true then decAll _ _ _ else _ : List Th).length : Nat) : Int) = n
        split
        · rw [decAll_len, List.length_set]; exact len
        · rw [List.length_set]; exact len
      · simp only at hy
        split at hy
        · unfold decAll at hy
          split at hy
          · obtain ⟨z, hz, rfl⟩ := List.mem_map.1 hy
            exact Th.decide_way (wy z hz)
          · exact wy y hy
        · exact wy y hy
      · show Rep n newAr.ws (if s.2.1 = true then M.ts ++ [_] else M.ts) s.2.2.2.1.ws
        cases hs : s.2.1 with
        | false => rw [if_neg (by decide), k3 hs]; exact r.rep
        | true =>
          rw [if_pos rfl]
          obtain ⟨kd, i, was, now, i0, i1, hw, h0, hB⟩ := k2 hs
          have hat := (o.A.at i0 i1).1
          have e2 : (noteT s.2.2.2.1 s.2.2.2.2 k s.1).at_ = (i.toNat : Int) := by rw [hB]; rfl
          have e3 : (noteT s.2.2.2.1 s.2.2.2.2 k s.1).was = was := by rw [hB]; rfl
          have e4 : (noteT s.2.2.2.1 s.2.2.2.2 k s.1).now = now := by rw [hB]; rfl
          have e1 : (noteT s.2.2.2.1 s.2.2.2.2 k s.1).kind = kd := by rw [hB]; rfl
          have e5 : s.2.2.2.1.ws = M.A.ws.set i.toNat now := by rw [hB]; rfl
          have := r.rep.snoc (t := noteT s.2.2.2.1 s.2.2.2.2 k s.1) (by rw [e2]; omega) (by rw [e2]; omega) (by rw [e2, e3, Int.toNat_natCast, hw]; exact hat) (by rw [e1, e3, e4]; exact h0) (by show 0 ≤ k; omega) (by show k < n; omega)
          rw [e2, e4, Int.toNat_natCast, ← e5] at this
          exact this
theorem i64_of_wf {x : Int} (h : (Lit.int .i64 x).wf = true) : I64 x := by
  simp [Lit.wf, IntKind.min, IntKind.max, IntKind.bits, IntKind.signed] at h
  constructor <;> omega
theorem open_i64s {H : Type} {enc : TypeId × Value → H} {W : World} {fuel : Nat} {cs : List Value} {d : DataW H} {ps : List MemPlace} (h : DataW.trod enc Tryz.prog W 0 (fun _ => true) true fuel 25 cs = some (d, ps)) (hw : (d.weights Tryz.prog 25).all (· ≤ reachBytes) = true) :
    ∃ v, ∃ xs : List Int, cs = [v] ∧ rowsAt (full W) 1 v (xs.map encI) ∧ (∀ x ∈ xs, I64 x) ∧ (xs.length + 2) * 8 ≤ 140737488355328 := by
  obtain ⟨v, xs, h1, h2, h3⟩ := open_rows (P := Tryz.prog) (α := { x : Int // I64 x }) (fun x => encI x.1) Tryz.underlying25 (size := 1) (by kernel_rfl) (by decide) (fun _ => rfl) (fun fuel cs d ps h => by
    obtain ⟨x, hx, hwf⟩ := open_int_cs (P := Tryz.prog) Tryz.underlying3 h
    exact ⟨⟨x, i64_of_wf hwf⟩, hx⟩) h hw
  have hb : Tryz.prog.bytesOf 3 = 8 := by kernel_rfl
  rw [hb] at h3
  refine ⟨v, xs.map Subtype.val, h1, by rw [List.map_map]; exact h2, fun x hx => ?_, by rw [List.length_map]; unfold reachBytes at h3; omega⟩
  obtain ⟨y, _, rfl⟩ := List.mem_map.1 hx
  exact y.2
theorem one_cell {cs : List Value} {v : Value} (hl : cs.length = 1) (h : (cs.drop 0).take 1 = [v]) : cs = [v] := by
  match cs, hl with
  | [x], _ => simpa using h
theorem open_opP {H : Type} {enc : TypeId × Value → H} {W : World} {fuel : Nat} {cs : List Value} {d : DataW H} {ps : List MemPlace} (h : DataW.trod enc Tryz.prog W 0 (fun _ => true) true fuel 46 cs = some (d, ps)) : ∃ x : Op, cs = x.enc := by
  obtain ⟨xs, hl, hc, _⟩ := open_ints_struct (P := Tryz.prog) Tryz.underlying46 (by kernel_rfl) (fun i f hf => by
    have hi : i < 4 := by have := (Array.getElem?_eq_some_iff.1 hf).1; simpa using this
    match i, hi with
    | 0, _ | 1, _ | 2, _ | 3, _ => simp at hf; subst hf; exact ⟨rfl, by kernel_rfl, by kernel_rfl⟩) h
  match xs, hl with
  | [x0, x1, x2, x3], _ => exact ⟨⟨x0, x1, x2, x3⟩, hc⟩
theorem open_txn {H : Type} {enc : TypeId × Value → H} {W : World} {fuel : Nat} {cs : List Value} {d : DataW H} {ps : List MemPlace} (h : DataW.trod enc Tryz.prog W 0 (fun _ => true) true fuel 49 cs = some (d, ps)) (hw : (d.weights Tryz.prog 49).all (· ≤ reachBytes) = true) : ∃ t : Txn, txnC (full W) cs t := by
  obtain ⟨hl, hfs⟩ := open_struct Tryz.underlying49 h hw
  have c1 : Tryz.prog.cellsOf 49 = 1 := by kernel_rfl
  have c2 : Tryz.prog.cellsOf 47 = 1 := by kernel_rfl
  obtain ⟨f', d', ps', t0, w0⟩ := hfs 0 47 0 1 rfl c2
  obtain ⟨w, xs, h1, h2, _⟩ := open_rows (P := Tryz.prog) Op.enc Tryz.underlying47 (size := 4) (by kernel_rfl) (by decide) (fun _ => rfl) (fun fuel cs d ps h => open_opP h) t0 w0
  exact ⟨xs, w, one_cell (by rw [hl, c1]) h1, h2⟩
theorem open_thread {H : Type} {enc : TypeId × Value → H} {W : World} {fuel : Nat} {cs : List Value} {d : DataW H} {ps : List MemPlace} (h : DataW.trod enc Tryz.prog W 0 (fun _ => true) true fuel 50 cs = some (d, ps)) (hw : (d.weights Tryz.prog 50).all (· ≤ reachBytes) = true) : ∃ ts : List Txn, thrC (full W) cs ts := by
  obtain ⟨w, es, h1, h2, h3, _⟩ := open_rowsQ (P := Tryz.prog) (size := 1) (fun c => ∃ t : Txn, txnC (full W) c t) Tryz.underlying50 (by kernel_rfl) (by decide) (fun c ⟨t, w, hc, _⟩ => by rw [hc]; rfl) (fun fuel cs d ps h w => open_txn h w) h hw
  obtain ⟨ts, ht⟩ := All2.of (R := fun c t => txnC (full W) c t) (fun c hc => hc) es h3
  exact ⟨ts, w, es, h1, h2, ht⟩
theorem open_threads {H : Type} {enc : TypeId × Value → H} {W : World} {fuel : Nat} {cs : List Value} {d : DataW H} {ps : List MemPlace} (h : DataW.trod enc Tryz.prog W 0 (fun _ => true) true fuel 22 cs = some (d, ps)) (hw : (d.weights Tryz.prog 22).all (· ≤ reachBytes) = true) : ∃ v, ∃ p : List (List Txn), cs = [v] ∧ threadsAt (full W) v p := by
  obtain ⟨w, es, h1, h2, h3, _⟩ := open_rowsQ (P := Tryz.prog) (size := 1) (fun c => ∃ t : List Txn, thrC (full W) c t) Tryz.underlying22 (by kernel_rfl) (by decide) (fun c ⟨t, w, _, hc, _⟩ => by rw [hc]; rfl) (fun fuel cs d ps h w => open_thread h w) h hw
  obtain ⟨ts, ht⟩ := All2.of (R := fun c t => thrC (full W) c t) (fun c hc => hc) es h3
  exact ⟨w, ts, h1, es, h2, ht⟩
theorem open_plan {H : Type} {enc : TypeId × Value → H} {W : World} {base : Nat} {v : Value} {d : DataW H} {ps : List MemPlace} (hval : Value.okWide Tryz.prog W .any base 24 v) (h : DataW.Trod enc Tryz.prog W 0 (fun _ => true) true 24 v d ps)
    (hw : (d.weights Tryz.prog 24).all (· ≤ reachBytes) = true) : ∃ u p, v = .agg (planC u p).toArray ∧ threadsAt (full W) u p.threads := by
  unfold Value.okWide at hval
  simp only [Tryz.underlying24] at hval
  obtain ⟨arr, rfl, hsz, _⟩ := hval
  obtain ⟨fuel, t⟩ := h
  have t : DataW.trod enc Tryz.prog W 0 (fun _ => true) true fuel 24 arr.toList = some (d, ps) := t
  obtain ⟨hl, hfs⟩ := open_struct Tryz.underlying24 t hw
  have c1 : Tryz.prog.cellsOf 24 = 3 := by kernel_rfl
  have c2 : Tryz.prog.cellsOf 22 = 1 := by kernel_rfl
  have c3 : Tryz.prog.cellsOf 3 = 1 := by kernel_rfl
  have c4 : Tryz.prog.cellsOf 4 = 1 := by kernel_rfl
  obtain ⟨_, _, _, t0, w0⟩ := hfs 0 22 0 1 rfl c2
  obtain ⟨_, _, _, t1, w1⟩ := hfs 1 3 1 1 rfl c3
  obtain ⟨_, _, _, t2, w2⟩ := hfs 2 4 2 1 rfl c4
  obtain ⟨u, p, e0, hp⟩ := open_threads t0 w0
  obtain ⟨x, e1, _⟩ := open_int_cs Tryz.underlying3 t1
  obtain ⟨y, e2⟩ := open_bool_cs Tryz.underlying4 t2
  refine ⟨u, ⟨p, x, y⟩, ?_, hp⟩
  have : arr.toList = planC u ⟨p, x, y⟩ := by
    rw [c1] at hl
    generalize arr.toList = cs at *
    match cs, hl with
    | [a, b, c], _ =>
      simp at e0 e1 e2
      subst e0 e1 e2
      rfl
  rw [← this]
def OpW (A : Ar) (s g : Int) : Prop := A.at (baseOf s) = stateW g 0
def WnW (A : Ar) (s g : Int) : Prop := A.at (baseOf s) = stateW g 1
structure Tw (A : Ar) (s : Int) : Prop where
  st : (plainOf (A.at (baseOf s))).isSome = true
  k : isVal (A.at (baseOf s + 1)) 16 = true
  c : ∀ j : Int, 0 ≤ j → j < 16 → isVal (A.at (baseOf s + (2 + 3 * j + 0))) 15 = true
  w : ∀ j : Int, 0 ≤ j → j < 16 → isVal (A.at (baseOf s + (2 + 3 * j + 1))) 1099511627775 = true
  n : ∀ j : Int, 0 ≤ j → j < 16 → isVal (A.at (baseOf s + (2 + 3 * j + 2))) 1099511627775 = true
def LvW (D : Int → Option Dw) (G : Int → Int) (s g : Int) : Prop := 1 ≤ g ∧ g ≤ G s ∧ (g = G s → D s ≠ none)
inductive WCell (D : Int → Option Dw) (G : Int → Int) (A : Ar) (c : Int) : Prop where
  | val {v : Int} (h : plainOf (A.at c) = some v)
  | mc {s g : Int} (ha : A.at c = mw s g) (l : Life s g) (lv : LvW D G s g)
      (k : ∀ d, D s = some d → d.g = g → ∃ (n : Nat) (e : Sw), d.ds[n]? = some e ∧ e.c = c ∧ (OpW A s d.g → Held A s d n))
  | en {s g : Int} {n : Nat} {t q : Int} (ha : A.at c = ew s g n t q) (l : Life s g) (hn : n < 16) (t0 : 0 ≤ t ∧ t < 4) (q0 : 0 ≤ q ∧ q < 1048576) (lv : LvW D G s g)
      (k : ∀ d, D s = some d → d.g = g → ∃ e : Sw, d.ds[n]? = some e ∧ e.c = c ∧ (OpW A s d.g → Held A s d n))
structure WA (D : Int → Option Dw) (G : Int → Int) (A : Ar) : Prop where
  ok : A.ok
  tw : ∀ s, 0 ≤ s → s < 12 → Tw A s
  so : ∀ s g, 0 ≤ s → s < 12 → 1 ≤ g → OpW A s g → g = G s
  ds : ∀ s d, D s = some d → DOk A s d ∧ d.g = G s ∧ 1 ≤ d.g
  cells : ∀ c, 0 ≤ c → c < 16 → WCell D G A c
def WB (w : Wh) : Prop :=
  (w.pc = 5 ∨ w.pc = 6 ∨ w.pc = 7 ∨ w.pc = 14 → ∃ v, plainOf w.was = some v) ∧ (w.pc = 13 → ∃ v, plainOf w.x = some v) ∧
  (w.pc = 6 ∨ w.pc = 7 → ∃ (n : Nat) (t q : Int), w.i = n ∧ n < 16 ∧ (0 ≤ t ∧ t < 4) ∧ (0 ≤ q ∧ q < 1048576) ∧ w.put = ew w.s w.g n t q)
def WPh (D : Int → Option Dw) (G : Int → Int) (A : Ar) (d : Dw) (w : Wh) : Prop :=
  match w.pc with
  | 3 => ∃ n e, Ix d w n e ∧ (OpW A w.s d.g → Held A w.s d n)
  | 4 => ∃ n e, Ix d w n e ∧ (OpW A w.s d.g → Held A w.s d n) ∧ w.cell = e.c
  | 5 => ∃ n e, Ix d w n e ∧ (OpW A w.s d.g → Held A w.s d n) ∧ w.cell = e.c
  | 6 => ∃ n e, Ix d w n e ∧ (OpW A w.s d.g → Held A w.s d n) ∧ w.cell = e.c ∧ (OpW A w.s d.g → A.at w.cell = w.put ∨ A.at w.cell = mw w.s d.g)
  | 7 => ∃ n e, Ix d w n e ∧ (OpW A w.s d.g → Held A w.s d n) ∧ w.cell = e.c ∧ (OpW A w.s d.g → A.at w.cell = w.put ∨ A.at w.cell = mw w.s d.g) ∧ (w.opn = false → ¬ OpW A w.s d.g)
  | 10 => ¬ OpW A w.s d.g ∧ (w.won = true ↔ WnW A w.s d.g)
  | 11 => ¬ OpW A w.s d.g ∧ (w.won = true ↔ WnW A w.s d.g)
  | 12 => ¬ OpW A w.s d.g ∧ (w.won = true ↔ WnW A w.s d.g)
  | 13 => ¬ OpW A w.s d.g ∧ (w.won = true ↔ WnW A w.s d.g)
  | 14 => ∃ n e, Ix d w n e ∧ (OpW A w.s d.g → Held A w.s d n) ∧ w.cell = e.c ∧ ∃ s' g', w.x = mw s' g' ∧ Life s' g' ∧ LvW D G s' g' ∧ (OpW A s' g' → A.at w.cell = w.x)
  | _ => True
def WEn (A : Ar) (d : Dw) (f : En) : Prop := ∃ (n : Nat) (e : Sw), f.e = n ∧ d.ds[n]? = some e ∧ (1 ≤ f.pc → f.cell = e.c) ∧ (f.pc = 3 → f.opn = false → ¬ OpW A f.s d.g)
def FrW (D : Int → Option Dw) (G : Int → Int) (A : Ar) : Fr → Prop
  | .who w => w.ok ∧ LvW D G w.s w.g ∧ WB w ∧ ∀ d, D w.s = some d → d.g = w.g → WPh D G A d w
  | .ent f => f.ok ∧ LvW D G f.s f.g ∧ (f.pc = 2 ∨ f.pc = 3 → ∃ v, plainOf f.was = some v) ∧ ∀ d, D f.s = some d → d.g = f.g → WEn A d f
def WNx (A : Ar) (u : Wh) : List Fr → Prop
  | .who w :: _ => OpW A u.s u.g → A.at w.cell = mw u.s u.g
  | _ => True
def WOrd (A : Ar) : List Fr → Prop
  | [] => True
  | .who w :: r => w.pc = 5 ∧ WNx A w r ∧ Up w r ∧ WOrd A r
  | .ent _ :: _ => False
def WUnd (A : Ar) : List Fr → Prop
  | [] => True
  | .who w :: r => w.pc = 5 ∧ WNx A w r ∧ WOrd A r
  | .ent _ :: _ => False
def WChain (A : Ar) : List Fr → Prop
  | [] => True
  | .who w :: r => WNx A w r ∧ (w.pc = 14 → OpW A w.s w.g → Up w r) ∧ WOrd A r
  | .ent _ :: r => WUnd A r
structure TF (D : Int → Option Dw) (G : Int → Int) (A : Ar) (fs : List Fr) : Prop where
  fr : ∀ f ∈ fs, FrW D G A f
  ch : WChain A fs
structure WRel (D : Int → Option Dw) (G : Int → Int) (A : Ar) (D' : Int → Option Dw) (G' : Int → Int) (B : Ar) : Prop where
  lv : ∀ s g, Life s g → LvW D G s g → LvW D' G' s g
  live : ∀ s g d, Life s g → LvW D G s g → D' s = some d → d.g = g → D s = some d
  st : ∀ s g, Life s g → LvW D G s g → OpW B s g → OpW A s g
  fix : ∀ s d, D' s = some d → D s = some d → ¬ OpW A s d.g → B.at (baseOf s) = A.at (baseOf s)
  keep : ∀ s g c, Life s g → LvW D G s g → OpW B s g → 0 ≤ c → c < 16 → A.at c = mw s g → B.at c = mw s g
  ent : ∀ s g n t q c, Life s g → LvW D G s g → OpW B s g → 0 ≤ c → c < 16 → n < 16 → (0 ≤ t ∧ t < 4) → (0 ≤ q ∧ q < 1048576) → A.at c = ew s g n t q → B.at c = ew s g n t q ∨ B.at c = mw s g
section
variable {D D' : Int → Option Dw} {G G' : Int → Int} {A B : Ar} {t q s : Int} {d : Dw} {n : Nat} {e : Sw}
theorem LvW.of (W : WA D G A) (h : D s = some d) : LvW D G s d.g := by
  obtain ⟨_, a, b⟩ := W.ds s d h
  exact ⟨b, by omega, fun _ h' => by rw [h] at h'; cases h'⟩
theorem WA.live (W : WA D G A) {g : Int} (l : Life s g) (lv : LvW D G s g) (o : OpW A s g) : ∃ d, D s = some d ∧ d.g = g := by
  have h := W.so s g l.s0 l.s1 lv.1 o
  cases hd : D s with
  | none => exact absurd hd (lv.2.2 h)
  | some d => exact ⟨d, rfl, by rw [(W.ds s d hd).2.1]; exact h.symm⟩
theorem WRel.held (R : WRel D G A D' G' B) (o : DOk A s d) (lv : LvW D G s d.g) (h : OpW A s d.g → Held A s d n) : OpW B s d.g → Held B s d n := fun h' j e hj he => by
  have m := o.lt he
  exact R.keep s d.g _ o.1 lv h' m.2.1 m.2.2.1 (h (R.st s d.g o.1 lv h') j e hj he)
theorem WRel.ph (R : WRel D G A D' G' B) (W : WA D G A) {w : Wh} (b : WB w) (hd' : D' w.s = some d) (hd : D w.s = some d) (hg : d.g = w.g) (h : WPh D G A d w) : WPh D' G' B d w := by
  have o := (W.ds _ _ hd).1
  have lv := LvW.of W hd
  have hh : ∀ {n}, (OpW A w.s d.g → Held A w.s d n) → OpW B w.s d.g → Held B w.s d n := fun h => R.held o lv h
  have hn : ¬ OpW A w.s d.g → ¬ OpW B w.s d.g := fun h h' => h (R.st _ _ o.1 lv h')
  have hwn : (¬ OpW A w.s d.g ∧ (w.won = true ↔ WnW A w.s d.g)) → ¬ OpW B w.s d.g ∧ (w.won = true ↔ WnW B w.s d.g) := fun h => ⟨hn h.1, by unfold WnW; rw [R.fix _ _ hd' hd h.1]; exact h.2⟩
  have hpu : ∀ {n : Nat} {e}, Ix d w n e → w.cell = e.c → (w.pc = 6 ∨ w.pc = 7) → (OpW A w.s d.g → A.at w.cell = w.put ∨ A.at w.cell = mw w.s d.g) → (OpW B w.s d.g → B.at w.cell = w.put ∨ B.at w.cell = mw w.s d.g) := fun {n e} ix hc hp h ho => by
    have m := o.lt ix.e
    obtain ⟨n', t, q, h1, h2, h3, h4, h5⟩ := b.2.2 hp
    rcases h (R.st _ _ o.1 lv ho) with a | a
    · rw [h5, ← hg] at a ⊢
      exact R.ent _ _ _ t q _ o.1 lv ho (by omega) (by omega) h2 h3 h4 a
    · exact .inr (R.keep _ _ _ o.1 lv ho (by omega) (by omega) a)
  unfold WPh at h ⊢
  split
  · rename_i hp; simp only [hp] at h
    obtain ⟨n, e, ix, h1⟩ := h
    exact ⟨n, e, ix, hh h1⟩
  · rename_i hp; simp only [hp] at h
    obtain ⟨n, e, ix, h1, h2⟩ := h
    exact ⟨n, e, ix, hh h1, h2⟩
  · rename_i hp; simp only [hp] at h
    obtain ⟨n, e, ix, h1, h2⟩ := h
    exact ⟨n, e, ix, hh h1, h2⟩
  · rename_i hp; simp only [hp] at h
    obtain ⟨n, e, ix, h1, h2, h3⟩ := h
    exact ⟨n, e, ix, hh h1, h2, hpu ix h2 (.inl hp) h3⟩
  · rename_i hp; simp only [hp] at h
    obtain ⟨n, e, ix, h1, h2, h3, h4⟩ := h
    exact ⟨n, e, ix, hh h1, h2, hpu ix h2 (.inr hp) h3, fun ho => hn (h4 ho)⟩
  · rename_i hp; simp only [hp] at h; exact hwn h
  · rename_i hp; simp only [hp] at h; exact hwn h
  · rename_i hp; simp only [hp] at h; exact hwn h
  · rename_i hp; simp only [hp] at h; exact hwn h
  · rename_i hp; simp only [hp] at h
    obtain ⟨n, e, ix, h1, h2, s', g', h3, h4, h5, h6⟩ := h
    refine ⟨n, e, ix, hh h1, h2, s', g', h3, h4, R.lv _ _ h4 h5, fun ho => ?_⟩
    have m := o.lt ix.e
    have := h6 (R.st _ _ h4 h5 ho)
    rw [h3] at this ⊢
    exact R.keep _ _ _ h4 h5 ho (by omega) (by omega) this
  · trivial
theorem WRel.fr (R : WRel D G A D' G' B) (W : WA D G A) {f : Fr} (h : FrW D G A f) : FrW D' G' B f := by
  cases f with
  | who w =>
    obtain ⟨h1, h2, h3, h4⟩ := h
    have l : Life w.s w.g := h1.life
    exact ⟨h1, R.lv _ _ l h2, h3, fun d hd hg => R.ph W h3 hd (R.live _ _ _ l h2 hd hg) hg (h4 d (R.live _ _ _ l h2 hd hg) hg)⟩
  | ent f =>
    obtain ⟨h1, h2, h3, h4⟩ := h
    have l : Life f.s f.g := h1.life
    refine ⟨h1, R.lv _ _ l h2, h3, fun d hd hg => ?_⟩
    have hd0 := R.live _ _ _ l h2 hd hg
    obtain ⟨n, e, a1, a2, a3, a4⟩ := h4 d hd0 hg
    exact ⟨n, e, a1, a2, a3, fun hp ho h' => a4 hp ho (R.st _ _ (by rw [hg]; exact l) (LvW.of W hd0) h')⟩
theorem WRel.nx (R : WRel D G A D' G' B) {u : Wh} {r : List Fr} (l : Life u.s u.g) (lv : LvW D G u.s u.g) (hr : ∀ w, r.head? = some (.who w) → 0 ≤ w.cell ∧ w.cell < 16) (h : WNx A u r) : WNx B u r := by
  cases r with
  | nil => trivial
  | cons f r =>
    cases f with
    | ent f => trivial
    | who w =>
      have hr := hr w rfl
      exact fun ho => R.keep _ _ _ l lv ho hr.1 hr.2 (h (R.st _ _ l lv ho))
theorem heads {r : List Fr} (hf : ∀ f ∈ r, FrW D G A f) : ∀ w, r.head? = some (.who w) → 0 ≤ w.cell ∧ w.cell < 16 := fun w hw => by
  have := (hf _ (List.mem_of_mem_head? hw)).1
  exact ⟨this.c0, this.c1⟩
theorem WRel.ord (R : WRel D G A D' G' B) {r : List Fr} (hf : ∀ f ∈ r, FrW D G A f) (h : WOrd A r) : WOrd B r := by
  induction r with
  | nil => trivial
  | cons f r ih =>
    cases f with
    | ent f => exact h
    | who w =>
      obtain ⟨h1, h2, h3, h4⟩ := h
      obtain ⟨a1, a2, a3⟩ := hf (.who w) (by simp)
      have hf' : ∀ f ∈ r, FrW D G A f := fun f m => hf f (by simp [m])
      exact ⟨h1, R.nx a1.life a2 (heads hf') h2, h3, ih hf' h4⟩
theorem WRel.chain (R : WRel D G A D' G' B) {fs : List Fr} (hf : ∀ f ∈ fs, FrW D G A f) (h : WChain A fs) : WChain B fs := by
  cases fs with
  | nil => trivial
  | cons f r =>
    have hf' : ∀ f ∈ r, FrW D G A f := fun f m => hf f (by simp [m])
    cases f with
    | ent f =>
      show WUnd B r
      have h : WUnd A r := h
      cases r with
      | nil => trivial
      | cons f r =>
        cases f with
        | ent f => exact h
        | who w =>
          obtain ⟨a1, a2, a3⟩ := hf (.who w) (by simp)
          have hf2 : ∀ f ∈ r, FrW D G A f := fun f m => hf f (by simp [m])
          exact ⟨h.1, R.nx a1.life a2 (heads hf2) h.2.1, R.ord hf2 h.2.2⟩
    | who w =>
      obtain ⟨a1, a2, a3⟩ := hf (.who w) (by simp)
      exact ⟨R.nx a1.life a2 (heads hf') h.1, fun hp ho => h.2.1 hp (R.st _ _ a1.life a2 ho), R.ord hf' h.2.2⟩
theorem WRel.tf (R : WRel D G A D' G' B) (W : WA D G A) {fs : List Fr} (T : TF D G A fs) : TF D' G' B fs := ⟨fun f m => R.fr W (T.fr f m), R.chain T.fr T.ch⟩
theorem WRel.cell (R : WRel D G A D' G' B) (W : WA D G A) {c : Int} (h : B.at c = A.at c) (k : WCell D G A c) : WCell D' G' B c := by
  cases k with
  | val k => exact .val (by rw [h]; exact k)
  | mc ha l lv k =>
    refine .mc (by rw [h]; exact ha) l (R.lv _ _ l lv) fun d hd hg => ?_
    have hd0 := R.live _ _ _ l lv hd hg
    obtain ⟨n, e, a1, a2, a3⟩ := k d hd0 hg
    exact ⟨n, e, a1, a2, R.held (W.ds _ _ hd0).1 (LvW.of W hd0) a3⟩
  | en ha l hn t0 q0 lv k =>
    refine .en (by rw [h]; exact ha) l hn t0 q0 (R.lv _ _ l lv) fun d hd hg => ?_
    have hd0 := R.live _ _ _ l lv hd hg
    obtain ⟨e, a1, a2, a3⟩ := k d hd0 hg
    exact ⟨e, a1, a2, R.held (W.ds _ _ hd0).1 (LvW.of W hd0) a3⟩
theorem WRel.same (W : WA D G A) (h : ∀ j, 0 ≤ j → j < 634 → B.at j = A.at j) : WRel D G A D G B := by
  have hb : ∀ {s g}, Life s g → B.at (baseOf s) = A.at (baseOf s) := fun {s g} l => by
    have := l.s0; have := l.s1
    exact h _ (by unfold baseOf; omega) (by unfold baseOf; omega)
  exact ⟨fun _ _ _ h => h, fun _ _ _ _ _ h _ => h, fun s g l _ ho => by unfold OpW at ho ⊢; rw [← hb l]; exact ho, fun s d _ hd _ => hb (W.ds s d hd).1.1, fun s g c _ _ _ c0 c1 ha => by rw [h c c0 (by omega)]; exact ha, fun s g n t q c _ _ _ c0 c1 _ _ _ ha => by rw [h c c0 (by omega)]; exact .inl ha⟩
theorem Tw.same (h : ∀ j, 16 ≤ j → j < 634 → B.at j = A.at j) (h0 : 0 ≤ s) (h1 : s < 12) (k : Tw A s) : Tw B s := by
  have e : ∀ i : Int, 0 ≤ i → i < 50 → B.at (baseOf s + i) = A.at (baseOf s + i) := fun i i0 i1 => h _ (by unfold baseOf; omega) (by unfold baseOf; omega)
  have e0 := e 0 (by decide) (by decide)
  rw [Int.add_zero] at e0
  exact ⟨by rw [e0]; exact k.st, by rw [e 1 (by decide) (by decide)]; exact k.k, fun j j0 j1 => by rw [e _ (by omega) (by omega)]; exact k.c j j0 j1, fun j j0 j1 => by rw [e _ (by omega) (by omega)]; exact k.w j j0 j1, fun j j0 j1 => by rw [e _ (by omega) (by omega)]; exact k.n j j0 j1⟩
theorem WA.same (W : WA D G A) (okB : B.ok) (h : ∀ j, 0 ≤ j → j < 634 → B.at j = A.at j) : WA D G B := by
  refine ⟨okB, fun s h0 h1 => (W.tw s h0 h1).same (fun j j0 j1 => h j (by omega) j1) h0 h1, fun s g h0 h1 hg ho => W.so s g h0 h1 hg ?_, fun s d hd => ⟨(W.ds s d hd).1.same h, (W.ds s d hd).2⟩, fun c c0 c1 => (WRel.same W h).cell W (h c c0 (by omega)) (W.cells c c0 c1)⟩
  unfold OpW at ho ⊢; rw [← h _ (by unfold baseOf; omega) (by unfold baseOf; omega)]; exact ho
theorem One.op {c x : Int} (O : One A B c x) (h0 : 0 ≤ s) (h1 : s < 12) {g : Int} : OpW B s g ↔ OpW A s g := by
  have := O.c1
  unfold OpW
  rw [O.ne _ (by unfold baseOf; omega) (by unfold baseOf; omega) (by unfold baseOf; omega)]
theorem WA.one (W : WA D G A) (okB : B.ok) {c x : Int} (O : One A B c x) (R : WRel D G A D G B) (k : WCell D G B c) : WA D G B := by
  have c1 := O.c1
  refine ⟨okB, fun s h0 h1 => (W.tw s h0 h1).same (fun j j0 j1 => O.ne j (by omega) j1 (by omega)) h0 h1, fun s g h0 h1 hg ho => W.so s g h0 h1 hg ((O.op h0 h1).1 ho), fun s d hd => ⟨O.dok (W.ds s d hd).1, (W.ds s d hd).2⟩, fun j j0 j1 => ?_⟩
  by_cases h : j = c
  · rw [h]; exact k
  · exact R.cell W (O.ne j j0 (by omega) h) (W.cells j j0 j1)
theorem plain_mul {x v : Int} (h : plainOf x = some v) : x = v * 4 := (val_read h).2.1
theorem WRel.put (W : WA D G A) {c x v : Int} (O : One A B c x) (h : plainOf (A.at c) = some v) : WRel D G A D G B := by
  have h := plain_mul h
  refine ⟨fun _ _ _ h => h, fun _ _ _ _ _ h _ => h, fun s g l _ ho => (O.op l.s0 l.s1).1 ho, fun s d _ hd _ => O.base (W.ds s d hd).1.1, fun s g j _ _ _ j0 j1 ha => ?_, fun s g n t q j _ _ _ j0 j1 _ _ _ ha => ?_⟩
  · rw [O.ne j j0 (by omega) fun e => by subst e; rw [h] at ha; exact mcas_not_val ha.symm]; exact ha
  · rw [O.ne j j0 (by omega) fun e => by subst e; rw [h] at ha; exact entry_not_val ha.symm]; exact .inl ha
theorem WRel.settle (W : WA D G A) {c x g : Int} (O : One A B c x) (l : Life s g) (hn : n < 16) (t0 : 0 ≤ t ∧ t < 4) (q0 : 0 ≤ q ∧ q < 1048576) (h : A.at c = ew s g n t q) (hx : x = mw s g ∨ ¬ OpW A s g) : WRel D G A D G B := by
  refine ⟨fun _ _ _ h => h, fun _ _ _ _ _ h _ => h, fun s g l _ ho => (O.op l.s0 l.s1).1 ho, fun s d _ hd _ => O.base (W.ds s d hd).1.1, fun s' g' j _ _ _ j0 j1 ha => ?_, fun s' g' n' t' q' j l' _ ho j0 j1 hn' t0' q0' ha => ?_⟩
  · rw [O.ne j j0 (by omega) fun e => by subst e; rw [h] at ha; exact mw_ew ha.symm]; exact ha
  · by_cases e : j = c
    · subst e
      rw [h] at ha
      obtain ⟨e1, e2, e3, e4, e5⟩ := ew_inj (d := ⟨g, [], True⟩) (d' := ⟨g', [], True⟩) l l' hn hn' t0 t0' q0 q0' ha
      subst e1
      have e2 : g = g' := e2
      subst e2
      rcases hx with hx | hx
      · exact .inr (by rw [O.at_]; exact hx)
      · exact absurd ((O.op l.s0 l.s1).1 ho) hx
    · rw [O.ne j j0 (by omega) e]; exact .inl ha
theorem WRel.letGo (W : WA D G A) {c x g : Int} (O : One A B c x) (l : Life s g) (h : A.at c = mw s g) (hx : ¬ OpW A s g) : WRel D G A D G B := by
  refine ⟨fun _ _ _ h => h, fun _ _ _ _ _ h _ => h, fun s g l _ ho => (O.op l.s0 l.s1).1 ho, fun s d _ hd _ => O.base (W.ds s d hd).1.1, fun s' g' j l' _ ho j0 j1 ha => ?_, fun s' g' n' t' q' j l' _ ho j0 j1 hn' t0' q0' ha => ?_⟩
  · by_cases e : j = c
    · subst e
      rw [h] at ha
      obtain ⟨e1, e2⟩ := mw_inj (d := ⟨g, [], True⟩) (d' := ⟨g', [], True⟩) l l' ha
      subst e1
      have e2 : g = g' := e2
      subst e2
      exact absurd ((O.op l.s0 l.s1).1 ho) hx
    · rw [O.ne j j0 (by omega) e]; exact ha
  · rw [O.ne j j0 (by omega) fun e => by subst e; rw [h] at ha; exact mw_ew ha]; exact .inl ha
theorem Dec.opn {g x : Int} (O : Dec A B s g x) (l : Life s g) (x0 : x ≠ 0) {s' g' : Int} (l' : 0 ≤ s' ∧ s' < 12) (g1 : 0 < x ∧ x < 3) : OpW B s' g' → OpW A s' g' := by
  intro h
  unfold OpW at h ⊢
  by_cases e : s' = s
  · subst e
    rw [O.at_] at h
    unfold stateW at h
    omega
  · rw [← O.ne _ (by unfold baseOf; omega) (by unfold baseOf; omega) (base_ne e)]; exact h
theorem WRel.dec (W : WA D G A) {g x : Int} (O : Dec A B s g x) (l : Life s g) (g1 : 1 ≤ g) (hx : x = 1 ∨ x = 2) : WRel D G A D G B := by
  have hc : ∀ c, 0 ≤ c → c < 16 → B.at c = A.at c := fun c c0 c1 => by
    have := l.s0; have := l.s1
    exact O.ne c c0 (by omega) (by unfold baseOf; omega)
  refine ⟨fun _ _ _ h => h, fun _ _ _ _ _ h _ => h, fun s g l' _ ho => O.opn l (by omega) ⟨l'.s0, l'.s1⟩ (by omega) ho, fun s' d' _ hd' hn => ?_, fun s' g' j l' _ ho j0 j1 ha => by rw [hc j j0 j1]; exact ha, fun s' g' n' t' q' j l' _ ho j0 j1 hn' t0' q0' ha => by rw [hc j j0 j1]; exact .inl ha⟩
  have l' := (W.ds s' d' hd').1.1
  have := l'.s0; have := l'.s1
  refine O.ne _ (by unfold baseOf; omega) (by unfold baseOf; omega) (base_ne fun e => ?_)
  subst e
  have h1 := W.so _ _ l.s0 l.s1 g1 O.op
  have h2 := (W.ds s' d' hd').2.1
  exact hn (by unfold OpW; rw [h2, ← h1]; exact O.op)
theorem WA.dec (W : WA D G A) (okB : B.ok) {g x : Int} (O : Dec A B s g x) (l : Life s g) (lv : LvW D G s g) (hx : x = 1 ∨ x = 2) : WA D G B := by
  have s0 := l.s0; have s1 := l.s1
  obtain ⟨d, hd, hg⟩ := W.live l lv O.op
  subst hg
  refine ⟨okB, fun s' h0 h1 => ?_, fun s' g' h0 h1 hg ho => W.so s' g' h0 h1 hg (O.opn l (by omega) ⟨h0, h1⟩ (by omega) ho), fun s' d' hd' => ⟨O.dok (by omega) l (fun e => by subst e; rw [hd] at hd'; exact (Option.some.inj hd').symm) (W.ds s' d' hd').1, (W.ds s' d' hd').2⟩, fun j j0 j1 => ?_⟩
  · have k := W.tw s' h0 h1
    have e : ∀ i : Int, 1 ≤ i → i < 50 → B.at (baseOf s' + i) = A.at (baseOf s' + i) := fun i i0 i1 => O.ne _ (by unfold baseOf; omega) (by unfold baseOf; omega) (by unfold baseOf; omega)
    refine ⟨?_, by rw [e 1 (by decide) (by decide)]; exact k.k, fun j j0 j1 => by rw [e _ (by omega) (by omega)]; exact k.c j j0 j1, fun j j0 j1 => by rw [e _ (by omega) (by omega)]; exact k.w j j0 j1, fun j j0 j1 => by rw [e _ (by omega) (by omega)]; exact k.n j j0 j1⟩
    by_cases c : s' = s
    · subst c; rw [O.at_]; exact stateW_val l.g0 l.g1 (by omega) (by omega)
    · rw [O.ne _ (by unfold baseOf; omega) (by unfold baseOf; omega) (base_ne c)]; exact k.st
  · exact (WRel.dec W O l lv.1 hx).cell W (O.ne j j0 (by omega) (by unfold baseOf; omega)) (W.cells j j0 j1)
end
structure DidW (D : Int → Option Dw) (G : Int → Int) (A : Ar) (r : List Fr) (o : Out) : Prop where
  good : o.good = true
  len : ∀ f, o.atop.bind newFr = some f → r.length + 1 < 18
  wa : WA D G o.a
  rel : WRel D G A D G o.a
  tf : TF D G o.a (nxt o r)
  fin : o.over = true → ∀ w, o.fr = .who w → ∀ d, D w.s = some d → d.g = w.g → ¬ OpW o.a w.s d.g ∧ (w.won = true ↔ WnW o.a w.s d.g)
section
variable {D : Int → Option Dw} {G : Int → Int} {A B : Ar} {t q q' s : Int} {d : Dw} {n : Nat} {e : Sw} {w w' : Wh} {r : List Fr}
theorem WNx.mono (es : w'.s = w.s) (eg : w'.g = w.g) (h : WNx A w r) : WNx A w' r := by
  cases r with
  | nil => trivial
  | cons f r =>
    cases f with
    | ent f => trivial
    | who v => simp only [WNx, es, eg] at h ⊢; exact h
theorem upMono (ec : w'.cell = w.cell) (h : Up w r) : Up w' r := by
  cases r with
  | nil => trivial
  | cons f r =>
    cases f with
    | ent f => trivial
    | who v => simp only [Up, ec] at h ⊢; exact h
theorem WOrd.len {r : List Fr} : ∀ {w : Wh}, (∀ f ∈ r, FrW D G A f) → WOrd A r → Up w r → 0 ≤ w.cell → (r.length : Int) ≤ w.cell := by
  induction r with
  | nil => intro w _ _ _ h; simpa using h
  | cons f r ih =>
    intro w hf ho hu _
    cases f with
    | ent f => exact absurd ho (by simp [WOrd])
    | who v =>
      obtain ⟨h1, h2, h3, h4⟩ := ho
      have c := (hf (.who v) (by simp)).1.c0
      have := ih (fun f m => hf f (by simp [m])) h4 h3 c
      have hu : v.cell < w.cell := hu
      simp only [List.length_cons]
      omega
theorem WOrd.len17 {r : List Fr} (hf : ∀ f ∈ r, FrW D G A f) (ho : WOrd A r) : r.length ≤ 16 := by
  cases r with
  | nil => simp
  | cons f r =>
    cases f with
    | ent f => exact absurd ho (by simp [WOrd])
    | who v =>
      obtain ⟨h1, h2, h3, h4⟩ := ho
      have c0 := (hf (.who v) (by simp)).1.c0
      have c1 := (hf (.who v) (by simp)).1.c1
      have := WOrd.len (fun f m => hf f (by simp [m])) h4 h3 c0
      simp only [List.length_cons]
      omega
theorem WOrd.chain {r : List Fr} (h : WOrd A r) : WChain A r := by
  cases r with
  | nil => trivial
  | cons f r =>
    cases f with
    | ent f => exact absurd h (by simp [WOrd])
    | who v => exact ⟨h.2.1, fun hp => by have := h.1; omega, h.2.2.2⟩
theorem WUnd.chain {r : List Fr} (h : WUnd A r) : WChain A r := by
  cases r with
  | nil => trivial
  | cons f r =>
    cases f with
    | ent f => exact absurd h (by simp [WUnd])
    | who v => exact ⟨h.2.1, fun hp => by have := h.1; omega, h.2.2⟩
theorem WA.own (W : WA D G A) (T : TF D G A (.who w :: r)) (okB : B.ok) (h : ∀ j, 0 ≤ j → j < 634 → B.at j = A.at j) (es : w'.s = w.s) (eg : w'.g = w.g) (ok' : w'.ok) (b : WB w')
    (ph : ∀ d, D w.s = some d → d.g = w.g → WPh D G A d w → WPh D G A d w') (h14 : w'.pc = 14 → OpW A w.s w.g → Up w' r) : DidW D G A r ⟨.who w', none, false, true, B, q'⟩ := by
  have R := WRel.same W h
  refine ⟨rfl, (fun f hf => by cases hf), W.same okB h, R, R.tf W ⟨fun f hf => ?_, ?_⟩, fun h => by cases h⟩
  · obtain ⟨a1, a2, a3, a4⟩ := T.fr (.who w) (by simp)
    rcases List.mem_cons.1 hf with rfl | hf
    · exact ⟨ok', by rw [es, eg]; exact a2, b, fun d hd hg => ph d (by rw [← es]; exact hd) (by rw [← eg]; exact hg) (a4 d (by rw [← es]; exact hd) (by rw [← eg]; exact hg))⟩
    · exact T.fr f (by simp [hf])
  · have c := T.ch
    exact ⟨WNx.mono es eg c.1, fun hp ho => h14 hp (by rw [← es, ← eg]; exact ho), c.2.2⟩
theorem WA.overs (W : WA D G A) (T : TF D G A (.who w :: r)) (okB : B.ok) (h : ∀ j, 0 ≤ j → j < 634 → B.at j = A.at j) (es : w'.s = w.s) (eg : w'.g = w.g)
    (ph : ∀ d, D w.s = some d → d.g = w.g → WPh D G A d w → ¬ OpW A w.s d.g ∧ (w'.won = true ↔ WnW A w.s d.g)) : DidW D G A r ⟨.who w', none, true, true, B, q'⟩ := by
  have R := WRel.same W h
  refine ⟨rfl, (fun f hf => by cases hf), W.same okB h, R, R.tf W ⟨fun f hf => T.fr f (by simp only [nxt, Option.bind, if_true] at hf; simp [hf]), ?_⟩, fun _ v hv d hd hg => ?_⟩
  · exact T.ch.2.2.chain
  · cases hv
    rw [es] at hd
    rw [eg] at hg
    obtain ⟨_, _, _, a4⟩ := T.fr (.who w) (by simp)
    have l := (W.ds _ _ hd).1.1
    have := l.s0; have := l.s1
    have e := h (baseOf w.s) (by unfold baseOf; omega) (by unfold baseOf; omega)
    have := ph d hd hg (a4 d hd hg)
    simp only
    unfold OpW WnW at this ⊢
    rw [es, e]; exact this
theorem Dw.len (W : WA D G A) (hd : D s = some d) : valOf (A.at (baseOf s + 1)) = d.ds.length := by
  obtain ⟨l, m, st, hst, dsc⟩ := (W.ds s d hd).1
  have := sw_len m
  rw [dsc.cnt]
  exact valOf_val (by omega) (by omega)
theorem Dw.cell (W : WA D G A) (hd : D s = some d) {i : Int} (hi : i = n) (he : d.ds[n]? = some e) : valOf (A.at (baseOf s + (2 + 3 * i + 0))) = e.c := by
  have m := (W.ds s d hd).1.lt he
  obtain ⟨l, _, st, hst, dsc⟩ := (W.ds s d hd).1
  rw [hi, dsc.c n e he]
  exact valOf_val (by omega) (by omega)
theorem plain4 (hA : A.ok) (i : Int) : plainOf (valOf (A.at i) * 4) = some (valOf (A.at i)) := by
  have := valOf_le (Ar.at_range hA i)
  exact plainOf_val this.1 this.2
theorem WB.none {w : Wh} (h : w.pc ≠ 5 ∧ w.pc ≠ 6 ∧ w.pc ≠ 7 ∧ w.pc ≠ 13 ∧ w.pc ≠ 14) : WB w := ⟨fun h' => by omega, fun h' => by omega, fun h' => by omega⟩
theorem ldS {i : Int} (W : WA D G A) (h0 : 0 ≤ i) (h1 : i < 634) : ∀ j, 0 ≤ j → j < 634 → (A.ld i).at j = A.at j := ld_same W.ok h0 h1
theorem WA.pc1 (W : WA D G A) (T : TF D G A (.who w :: r)) (ok' : (w.step t q A).fine) (hp : w.pc = 1) : DidW D G A r (w.step t q A) := by
  obtain ⟨a1, a2, a3, a4⟩ := T.fr (.who w) (by simp)
  have s0 := a1.life.s0; have s1 := a1.life.s1
  have tw := W.tw w.s s0 s1
  have hs : w.step t q A = ⟨.who { w with opn := decide (A.at (baseOf w.s) = stateW w.g 0), won := decide (A.at (baseOf w.s) = stateW w.g 1), pc := if decide (A.at (baseOf w.s) = stateW w.g 0) = true then 2 else 10 }, none, false, (plainOf (A.at (baseOf w.s))).isSome, A.ld (baseOf w.s), q⟩ := by
    unfold Wh.step; simp only [hp]
  rw [hs, tw.st] at ok' ⊢
  refine W.own T (W.ok.ld _) (ldS W (by unfold baseOf; omega) (by unfold baseOf; omega)) rfl rfl (ok'.fr rfl rfl) (.none ?_) (fun d hd hg _ => ?_) (fun h => ?_)
  · simp only; split <;> decide
  · by_cases c : A.at (baseOf w.s) = stateW w.g 0
    · simp only [WPh, if_pos (decide_eq_true c)]
    · simp only [WPh, if_neg (show ¬ (decide (A.at (baseOf w.s) = stateW w.g 0) = true) by simpa using c)]
      refine ⟨by unfold OpW; rw [hg]; exact c, ?_⟩
      unfold WnW
      rw [hg, decide_eq_true_iff]
  · simp only at h; split at h <;> cases h
theorem WA.pc2 (W : WA D G A) (T : TF D G A (.who w :: r)) (ok' : (w.step t q A).fine) (hp : w.pc = 2) : DidW D G A r (w.step t q A) := by
  obtain ⟨a1, a2, a3, a4⟩ := T.fr (.who w) (by simp)
  have s0 := a1.life.s0; have s1 := a1.life.s1
  have tw := W.tw w.s s0 s1
  have hs : w.step t q A = ⟨.who { w with k := valOf (A.at (baseOf w.s + 1)), i := 0, pc := if valOf (A.at (baseOf w.s + 1)) = 0 then 8 else 3 }, none, false, isVal (A.at (baseOf w.s + 1)) 16, A.ld (baseOf w.s + 1), q⟩ := by
    unfold Wh.step; simp only [hp]
  rw [hs, tw.k] at ok' ⊢
  refine W.own T (W.ok.ld _) (ldS W (by unfold baseOf; omega) (by unfold baseOf; omega)) rfl rfl (ok'.fr rfl rfl) (.none ?_) (fun d hd hg _ => ?_) (fun h => ?_)
  · simp only; split <;> decide
  · have := Dw.len W hd
    by_cases c : valOf (A.at (baseOf w.s + 1)) = 0
    · simp only [WPh, if_pos c]
    · simp only [WPh, if_neg c]
      exact ⟨0, d.ds[0]'(by omega), ⟨rfl, this, List.getElem?_eq_getElem _⟩, fun _ j e hj => absurd hj (by omega)⟩
  · simp only at h; split at h <;> cases h
theorem WA.pc3 (W : WA D G A) (T : TF D G A (.who w :: r)) (ok' : (w.step t q A).fine) (hp : w.pc = 3) : DidW D G A r (w.step t q A) := by
  obtain ⟨a1, a2, a3, a4⟩ := T.fr (.who w) (by simp)
  have s0 := a1.life.s0; have s1 := a1.life.s1
  have tw := W.tw w.s s0 s1
  have i0 := a1.i0
  have i1 := a1.i2 (by omega) (by omega) (by omega) (by omega)
  have hs : w.step t q A = ⟨.who { w with cell := valOf (A.at (baseOf w.s + (2 + 3 * w.i + 0))), pc := 4 }, none, false, isVal (A.at (baseOf w.s + (2 + 3 * w.i + 0))) 15, A.ld (baseOf w.s + (2 + 3 * w.i + 0)), q⟩ := by
    unfold Wh.step; simp only [hp]
  rw [hs, tw.c _ i0 i1] at ok' ⊢
  refine W.own T (W.ok.ld _) (ldS W (by unfold baseOf; omega) (by unfold baseOf; omega)) rfl rfl (ok'.fr rfl rfl) (.none (by simp)) (fun d hd hg ph => ?_) (fun h => by cases h)
  simp only [WPh, hp] at ph
  obtain ⟨n, e, ix, h1⟩ := ph
  exact ⟨n, e, ⟨ix.i, ix.k, ix.e⟩, h1, Dw.cell W hd ix.i ix.e⟩
theorem WA.pc4 (W : WA D G A) (T : TF D G A (.who w :: r)) (ok' : (w.step t q A).fine) (hp : w.pc = 4) : DidW D G A r (w.step t q A) := by
  obtain ⟨a1, a2, a3, a4⟩ := T.fr (.who w) (by simp)
  have s0 := a1.life.s0; have s1 := a1.life.s1
  have tw := W.tw w.s s0 s1
  have i0 := a1.i0
  have i1 := a1.i2 (by omega) (by omega) (by omega) (by omega)
  have hs : w.step t q A = ⟨.who { w with was := valOf (A.at (baseOf w.s + (2 + 3 * w.i + 1))) * 4, pc := 5 }, none, false, isVal (A.at (baseOf w.s + (2 + 3 * w.i + 1))) 1099511627775, A.ld (baseOf w.s + (2 + 3 * w.i + 1)), q⟩ := by
    unfold Wh.step; simp only [hp]
  rw [hs, tw.w _ i0 i1] at ok' ⊢
  refine W.own T (W.ok.ld _) (ldS W (by unfold baseOf; omega) (by unfold baseOf; omega)) rfl rfl (ok'.fr rfl rfl) ⟨fun _ => ⟨_, plain4 W.ok _⟩, (fun h => by cases h), fun h => by rcases h with h | h <;> cases h⟩ (fun d hd hg ph => ?_) (fun h => by cases h)
  simp only [WPh, hp] at ph
  obtain ⟨n, e, ix, h1, h2⟩ := ph
  exact ⟨n, e, ⟨ix.i, ix.k, ix.e⟩, h1, h2⟩
theorem WA.pc6 (W : WA D G A) (T : TF D G A (.who w :: r)) (ok' : (w.step t q A).fine) (hp : w.pc = 6) : DidW D G A r (w.step t q A) := by
  obtain ⟨a1, a2, a3, a4⟩ := T.fr (.who w) (by simp)
  have s0 := a1.life.s0; have s1 := a1.life.s1
  have tw := W.tw w.s s0 s1
  have hs : w.step t q A = ⟨.who { w with opn := decide (A.at (baseOf w.s) = stateW w.g 0), won := decide (A.at (baseOf w.s) = stateW w.g 1), pc := 7 }, none, false, (plainOf (A.at (baseOf w.s))).isSome, A.ld (baseOf w.s), q⟩ := by
    unfold Wh.step; simp only [hp]
  rw [hs, tw.st] at ok' ⊢
  refine W.own T (W.ok.ld _) (ldS W (by unfold baseOf; omega) (by unfold baseOf; omega)) rfl rfl (ok'.fr rfl rfl) ⟨fun _ => a3.1 (.inr (.inl hp)), (fun h => by cases h), fun _ => a3.2.2 (.inl hp)⟩ (fun d hd hg ph => ?_) (fun h => by cases h)
  simp only [WPh, hp] at ph
  obtain ⟨n, e, ix, h1, h2, h3⟩ := ph
  refine ⟨n, e, ⟨ix.i, ix.k, ix.e⟩, h1, h2, h3, fun ho => ?_⟩
  unfold OpW; rw [hg]; simpa using ho
theorem WA.pc10 (W : WA D G A) (T : TF D G A (.who w :: r)) (ok' : (w.step t q A).fine) (hp : w.pc = 10) : DidW D G A r (w.step t q A) := by
  obtain ⟨a1, a2, a3, a4⟩ := T.fr (.who w) (by simp)
  have s0 := a1.life.s0; have s1 := a1.life.s1
  have tw := W.tw w.s s0 s1
  have hs : w.step t q A = ⟨.who { w with k := valOf (A.at (baseOf w.s + 1)), i := 0, pc := 11 }, none, decide (valOf (A.at (baseOf w.s + 1)) = 0), isVal (A.at (baseOf w.s + 1)) 16, A.ld (baseOf w.s + 1), q⟩ := by
    unfold Wh.step; simp only [hp]
  rw [hs, tw.k] at ok' ⊢
  by_cases c : valOf (A.at (baseOf w.s + 1)) = 0
  · rw [decide_eq_true c]
    refine W.overs T (W.ok.ld _) (ldS W (by unfold baseOf; omega) (by unfold baseOf; omega)) rfl rfl (fun d hd hg ph => ?_)
    simp only [WPh, hp] at ph
    exact ph
  · rw [decide_eq_false c] at ok' ⊢
    refine W.own T (W.ok.ld _) (ldS W (by unfold baseOf; omega) (by unfold baseOf; omega)) rfl rfl (ok'.fr rfl rfl) (.none (by simp)) (fun d hd hg ph => ?_) (fun h => by cases h)
    simp only [WPh, hp] at ph
    exact ph
theorem WA.pc11 (W : WA D G A) (T : TF D G A (.who w :: r)) (ok' : (w.step t q A).fine) (hp : w.pc = 11) : DidW D G A r (w.step t q A) := by
  obtain ⟨a1, a2, a3, a4⟩ := T.fr (.who w) (by simp)
  have s0 := a1.life.s0; have s1 := a1.life.s1
  have tw := W.tw w.s s0 s1
  have i0 := a1.i0
  have i1 := a1.i2 (by omega) (by omega) (by omega) (by omega)
  have hs : w.step t q A = ⟨.who { w with cell := valOf (A.at (baseOf w.s + (2 + 3 * w.i + 0))), pc := 12 }, none, false, isVal (A.at (baseOf w.s + (2 + 3 * w.i + 0))) 15, A.ld (baseOf w.s + (2 + 3 * w.i + 0)), q⟩ := by
    unfold Wh.step; simp only [hp]
  rw [hs, tw.c _ i0 i1] at ok' ⊢
  refine W.own T (W.ok.ld _) (ldS W (by unfold baseOf; omega) (by unfold baseOf; omega)) rfl rfl (ok'.fr rfl rfl) (.none (by simp)) (fun d hd hg ph => ?_) (fun h => by cases h)
  simp only [WPh, hp] at ph
  exact ph
theorem WA.pc12 (W : WA D G A) (T : TF D G A (.who w :: r)) (ok' : (w.step t q A).fine) (hp : w.pc = 12) : DidW D G A r (w.step t q A) := by
  obtain ⟨a1, a2, a3, a4⟩ := T.fr (.who w) (by simp)
  have s0 := a1.life.s0; have s1 := a1.life.s1
  have tw := W.tw w.s s0 s1
  have i0 := a1.i0
  have i1 := a1.i2 (by omega) (by omega) (by omega) (by omega)
  have hs : w.step t q A = ⟨.who { w with x := valOf (A.at (baseOf w.s + (2 + 3 * w.i + if w.won then 2 else 1))) * 4, pc := 13 }, none, false, isVal (A.at (baseOf w.s + (2 + 3 * w.i + if w.won then 2 else 1))) 1099511627775, A.ld (baseOf w.s + (2 + 3 * w.i + if w.won then 2 else 1)), q⟩ := by
    unfold Wh.step; simp only [hp]
  have hv : isVal (A.at (baseOf w.s + (2 + 3 * w.i + if w.won then 2 else 1))) 1099511627775 = true := by
    split
    · exact tw.n _ i0 i1
    · exact tw.w _ i0 i1
  rw [hs, hv] at ok' ⊢
  refine W.own T (W.ok.ld _) (ldS W ?_ ?_) rfl rfl (ok'.fr rfl rfl) ⟨(fun h => by rcases h with h | h | h | h <;> cases h), fun _ => ⟨_, plain4 W.ok _⟩, fun h => by rcases h with h | h <;> cases h⟩ (fun d hd hg ph => ?_) (fun h => by cases h)
  · split <;> (unfold baseOf; omega)
  · split <;> (unfold baseOf; omega)
  · simp only [WPh, hp] at ph
    exact ph
theorem WA.pc14 (W : WA D G A) (T : TF D G A (.who w :: r)) (ok' : (w.step t q A).fine) (hp : w.pc = 14) : DidW D G A r (w.step t q A) := by
  obtain ⟨a1, a2, a3, a4⟩ := T.fr (.who w) (by simp)
  have s0 := a1.life.s0; have s1 := a1.life.s1
  have tw := W.tw w.s s0 s1
  by_cases c : A.at (baseOf w.s) = stateW w.g 0
  · have hs : w.step t q A = ⟨.who { w with opn := decide (A.at (baseOf w.s) = stateW w.g 0), won := decide (A.at (baseOf w.s) = stateW w.g 1), pc := 5 }, read w.x, false, (plainOf (A.at (baseOf w.s))).isSome, A.ld (baseOf w.s), q⟩ := by
      unfold Wh.step; simp only [hp]; rw [if_pos (decide_eq_true c)]
    rw [hs, tw.st] at ok' ⊢
    obtain ⟨d, hd, hg⟩ := W.live a1.life a2 c
    have ph := a4 d hd hg
    simp only [WPh, hp] at ph
    obtain ⟨n, e, ix, h1, h2, s', g', h3, h4, h5, h6⟩ := ph
    have hx : read w.x = some (.mcas s' g') := by rw [h3]; exact mw_read (d := ⟨g', [], True⟩) h4
    have ch := T.ch
    have up := ch.2.1 hp c
    have R := WRel.same (D := D) (G := G) W (ldS (i := baseOf w.s) W (by unfold baseOf; omega) (by unfold baseOf; omega))
    have hfr : ∀ f ∈ r, FrW D G A f := fun f m => T.fr f (by simp [m])
    rw [hx] at ok' ⊢
    have wk := ok'.fr rfl rfl
    generalize hw : ({ w with opn := decide (A.at (baseOf w.s) = stateW w.g 0), won := decide (A.at (baseOf w.s) = stateW w.g 1), pc := 5 } : Wh) = w' at wk ⊢
    have ws : w'.s = w.s := by rw [← hw]
    have wg : w'.g = w.g := by rw [← hw]
    have wc : w'.cell = w.cell := by rw [← hw]
    have wp : w'.pc = 5 := by rw [← hw]
    have wi : w'.i = w.i := by rw [← hw]
    have wk' : w'.k = w.k := by rw [← hw]
    have wwas : w'.was = w.was := by rw [← hw]
    refine ⟨rfl, fun f hf => ?_, W.same (W.ok.ld _) (ldS W (by unfold baseOf; omega) (by unfold baseOf; omega)), R, R.tf W (fs := .who (.new s' g') :: .who w' :: r) ⟨fun f hf => ?_, ?_⟩, fun h => by cases h⟩
    · have := WOrd.len hfr ch.2.2 up a1.c0
      have := a1.c1
      omega
    · rcases List.mem_cons.1 hf with rfl | hf
      · exact ⟨Wh.new_ok h4, h5, .none (by simp [Wh.new]), fun d hd hg => trivial⟩
      · rcases List.mem_cons.1 hf with rfl | hf
        · refine ⟨wk, by rw [ws, wg]; exact a2, ⟨fun _ => by rw [wwas]; exact a3.1 (by omega), (fun h => by omega), fun h => by omega⟩, fun d' hd' hg' => ?_⟩
          rw [ws, hd] at hd'; cases hd'
          simp only [WPh, wp]
          exact ⟨n, e, ⟨by rw [wi]; exact ix.i, by rw [wk']; exact ix.k, ix.e⟩, by rw [ws]; exact h1, by rw [wc]; exact h2⟩
        · exact hfr f hf
    · refine ⟨?_, (fun h => by cases h), wp, WNx.mono ws wg ch.1, upMono wc up, ch.2.2⟩
      show OpW A s' g' → A.at w'.cell = mw s' g'
      intro ho
      rw [wc, ← h3]; exact h6 ho
  · have hs : w.step t q A = ⟨.who { w with opn := decide (A.at (baseOf w.s) = stateW w.g 0), won := decide (A.at (baseOf w.s) = stateW w.g 1), pc := 10 }, none, false, (plainOf (A.at (baseOf w.s))).isSome, A.ld (baseOf w.s), q⟩ := by
      unfold Wh.step; simp only [hp]; rw [if_neg (by rw [decide_eq_true_iff]; exact c)]
    rw [hs, tw.st] at ok' ⊢
    refine W.own T (W.ok.ld _) (ldS W (by unfold baseOf; omega) (by unfold baseOf; omega)) rfl rfl (ok'.fr rfl rfl) (.none (by simp)) (fun d hd hg ph => ?_) (fun h => by cases h)
    refine ⟨by unfold OpW; rw [hg]; exact c, ?_⟩
    show decide (A.at (baseOf w.s) = stateW w.g 1) = true ↔ A.at (baseOf w.s) = stateW d.g 1
    rw [decide_eq_true_iff, hg]
end
section
variable {D : Int → Option Dw} {G : Int → Int} {A B : Ar} {t q q' s : Int} {d : Dw} {n : Nat} {e : Sw} {w w' : Wh} {r : List Fr} {x : Int}
theorem WPh.next (ix : Ix d w n e) (h : OpW A w.s d.g → Held A w.s d (n + 1)) : WPh D G A d (w.next 3 8) := by
  have hn := (List.getElem?_eq_some_iff.1 ix.e).1
  have hi := ix.i; have hk := ix.k
  unfold Wh.next
  by_cases c : w.k ≤ w.i + 1
  · simp only [WPh, if_pos c]
  · simp only [WPh, if_neg c]
    exact ⟨n + 1, d.ds[n + 1]'(by omega), ⟨by simp only; omega, hk, List.getElem?_eq_getElem _⟩, h⟩
theorem nextPc {more stop : Nat} : (w.next more stop).pc = more ∨ (w.next more stop).pc = stop := by
  unfold Wh.next; simp only; split
  · exact .inr rfl
  · exact .inl rfl
theorem entryR {g : Int} (l : Life s g) (hn : n < 16) (t0 : 0 ≤ t ∧ t < 4) (q0 : 0 ≤ q ∧ q < 1048576) : I64 (ew s g n t q) := entry_range (e := (n : Int)) l (by omega) (by omega) t0.1 t0.2 q0.1 q0.2
theorem next_WB : WB (w.next 3 8) := by
  refine .none ?_
  have : (w.next 3 8).pc = 3 ∨ (w.next 3 8).pc = 8 := by unfold Wh.next; simp only; split <;> simp
  omega
theorem WA.turn (W : WA D G A) (T : TF D G A (.who w :: r)) (okB : B.ok) (O : One A B w.cell x) (R : WRel D G A D G B) (k : WCell D G B w.cell) (es : w'.s = w.s) (eg : w'.g = w.g) (ok' : w'.ok) (b : WB w')
    (ph : ∀ d, D w.s = some d → d.g = w.g → WPh D G A d w → WPh D G B d w') (h14 : w'.pc ≠ 14) : DidW D G A r ⟨.who w', none, false, true, B, q'⟩ := by
  refine ⟨rfl, (fun f hf => by cases hf), W.one okB O R k, R, ⟨fun f hf => ?_, ?_⟩, fun h => by cases h⟩
  · obtain ⟨a1, a2, a3, a4⟩ := T.fr (.who w) (by simp)
    rcases List.mem_cons.1 hf with rfl | hf
    · exact ⟨ok', by rw [es, eg]; exact a2, b, fun d hd hg => ph d (by rw [← es]; exact hd) (by rw [← eg]; exact hg) (a4 d (by rw [← es]; exact hd) (by rw [← eg]; exact hg))⟩
    · exact R.fr W (T.fr f (by simp [hf]))
  · have c := R.chain T.fr T.ch
    exact ⟨WNx.mono es eg c.1, fun hp => absurd hp h14, c.2.2⟩
theorem WA.pc5 (W : WA D G A) (T : TF D G A (.who w :: r)) (ok' : (w.step t q A).fine) (ht : 0 ≤ t ∧ t < 4) (hq : 0 ≤ q ∧ q < 1048576) (hp : w.pc = 5) : DidW D G A r (w.step t q A) := by
  obtain ⟨a1, a2, a3, a4⟩ := T.fr (.who w) (by simp)
  have l := a1.life
  have c0 := a1.c0; have c1 := a1.c1
  have i0 := a1.i0
  have i1 := a1.i2 (by omega) (by omega) (by omega) (by omega)
  obtain ⟨v, hv⟩ := a3.1 (.inl hp)
  have hn : w.i.toNat < 16 := by omega
  have hi : w.i = (w.i.toNat : Nat) := by omega
  have hpe : (Form.entry w.s w.g w.i t q).number = ew w.s w.g w.i.toNat t q := by unfold ew; rw [← hi]
  have pr := entryR (n := w.i.toNat) l hn ht hq
  have okB := W.ok.cas w.cell w.was pr
  rw [Wh.step5 hp] at ok' ⊢
  unfold Wh.swapIn at ok' ⊢
  simp only [hpe] at ok' ⊢
  by_cases c : A.at w.cell = w.was
  · rw [if_pos c] at ok' ⊢
    have O : One A (A.cas w.cell w.was (ew w.s w.g w.i.toNat t q)) w.cell (ew w.s w.g w.i.toNat t q) := One.of_cas W.ok c0 c1 c
    have wk := ok'.fr rfl rfl
    have okB : (A.cas w.cell w.was (ew w.s w.g w.i.toNat t q)).ok := okB
    generalize A.cas w.cell w.was (ew w.s w.g w.i.toNat t q) = B at okB O ⊢
    have R : WRel D G A D G B := .put W O (by rw [c]; exact hv)
    refine W.turn T okB O R (.en O.at_ l hn ht hq a2 fun d hd hg => ?_) rfl rfl wk ⟨fun _ => ⟨v, hv⟩, (fun h => by cases h), fun _ => ⟨w.i.toNat, t, q, hi, hn, ht, hq, rfl⟩⟩ (fun d hd hg ph => ?_) (by simp)
    · have ph := a4 d hd hg
      simp only [WPh, hp] at ph
      obtain ⟨n, e, ix, h1, h2⟩ := ph
      have : w.i.toNat = n := by have := ix.i; omega
      rw [this]
      exact ⟨e, ix.e, h2.symm, R.held (W.ds _ _ hd).1 (LvW.of W hd) h1⟩
    · simp only [WPh, hp] at ph
      obtain ⟨n, e, ix, h1, h2⟩ := ph
      exact ⟨n, e, ⟨ix.i, ix.k, ix.e⟩, R.held (W.ds _ _ hd).1 (LvW.of W hd) h1, h2, fun _ => .inl O.at_⟩
  · rw [if_neg c] at ok' ⊢
    have same := cas_same (x := ew w.s w.g w.i.toNat t q) W.ok c0 (by omega) c
    have okB : (A.cas w.cell w.was (ew w.s w.g w.i.toNat t q)).ok := okB
    generalize A.cas w.cell w.was (ew w.s w.g w.i.toNat t q) = B at okB same ok' ⊢
    cases W.cells w.cell c0 c1 with
    | @val v h =>
      rw [(val_read h).1] at ok' ⊢
      exact W.own T okB same rfl rfl (ok'.fr rfl rfl) (.none (by simp)) (fun d hd hg ph => trivial) (fun h => by cases h)
    | @mc s1 g1 ha l1 lv1 k1 =>
      rw [show read (A.at w.cell) = some (.mcas s1 g1) by rw [ha]; exact mw_read (d := ⟨g1, [], True⟩) l1] at ok' ⊢
      by_cases cs : s1 = w.s ∧ g1 = w.g
      · simp only [if_pos cs] at ok' ⊢
        obtain ⟨cs1, cs2⟩ := cs
        subst cs1; subst cs2
        have wk := ok'.fr rfl rfl
        refine W.own T okB same rfl rfl wk next_WB (fun d hd hg ph => ?_) (fun h => ?_)
        · simp only [WPh, hp] at ph
          obtain ⟨n, e, ix, h1, h2⟩ := ph
          refine WPh.next (w := { w with put := ew w.s w.g w.i.toNat t q }) (n := n) (e := e) ⟨ix.i, ix.k, ix.e⟩ fun ho j e' hj he' => ?_
          by_cases cc : j = n
          · subst cc
            rw [ix.e] at he'; cases he'
            rw [← h2, ha, hg]
          · exact h1 ho j e' (by omega) he'
        · have : ({ w with put := ew w.s w.g w.i.toNat t q } : Wh).pc = 5 := hp
          rcases nextPc (w := { w with put := ew w.s w.g w.i.toNat t q }) (more := 3) (stop := 8) with h' | h' <;> rw [h'] at h <;> cases h
      · simp only [if_neg cs] at ok' ⊢
        refine W.own T okB same rfl rfl (ok'.fr rfl rfl) ⟨fun _ => ⟨v, hv⟩, (fun h => by cases h), (fun h => by rcases h with h | h <;> cases h)⟩ (fun d hd hg ph => ?_) (fun _ ho => ?_)
        · simp only [WPh, hp] at ph
          obtain ⟨n, e, ix, h1, h2⟩ := ph
          exact ⟨n, e, ⟨ix.i, ix.k, ix.e⟩, h1, h2, s1, g1, ha, l1, lv1, fun _ => rfl⟩
        · obtain ⟨d, hd, hg⟩ := W.live l a2 ho
          have ph := a4 d hd hg
          simp only [WPh, hp] at ph
          obtain ⟨n, e, ix, h1, h2⟩ := ph
          have hnx := T.ch.1
          have hod := T.ch.2.2
          cases r with
          | nil => trivial
          | cons f r =>
            cases f with
            | ent f => trivial
            | who v =>
              show v.cell < w.cell
              have hv : A.at v.cell = mw w.s w.g := hnx ho
              have vk := (T.fr (.who v) (by simp)).1
              cases W.cells v.cell vk.c0 vk.c1 with
              | val h => have := (val_read h).2.1; rw [hv] at this; exact absurd this mcas_not_val
              | en ha => rw [hv] at ha; exact absurd ha mw_ew
              | @mc s2 g2 ha2 l2 lv2 k2 =>
                rw [hv] at ha2
                obtain ⟨b1, b2⟩ := mw_inj (d := ⟨w.g, [], True⟩) (d' := ⟨g2, [], True⟩) l l2 ha2
                subst b1
                have b2 : w.g = g2 := b2
                subst b2
                obtain ⟨n2, e2, he2, hc2, hh2⟩ := k2 d hd hg
                have hop : OpW A w.s d.g := by rw [hg]; exact ho
                have hne : A.at e.c ≠ mw w.s d.g := fun h => by
                  rw [← h2, ha, hg] at h
                  have := mw_inj (d := ⟨g1, [], True⟩) (d' := ⟨w.g, [], True⟩) l1 l h
                  exact cs ⟨this.1, this.2⟩
                have hlt : n2 < n := by
                  rcases Nat.lt_trichotomy n2 n with h | h | h
                  · exact h
                  · subst h
                    rw [ix.e] at he2; cases he2
                    exact absurd (by rw [hc2, hv, hg]) hne
                  · exact absurd (hh2 hop n e h ix.e) hne
                have mm := (W.ds _ _ hd).1.2.1
                unfold swMay at mm; simp only [Bool.and_eq_true, decide_eq_true_eq] at mm
                have := swOk_mono mm.2 n2 n e2 e he2 ix.e hlt
                rw [h2, ← hc2]; exact this
    | @en s1 g1 n1 t1 q1 ha1 l1 hn1 t10 q10 lv1 k1 =>
      have hr : read (A.at w.cell) = some (.entry s1 g1 n1 t1 q1) := by rw [ha1]; exact read_number (ew_range (d := ⟨g1, [], True⟩) l1 hn1 t10 q10)
      rw [hr] at ok' ⊢
      have wk := ok'.fr rfl rfl
      have ch := T.ch
      have R := WRel.same W same (D := D) (G := G)
      have hfr : ∀ f ∈ r, FrW D G A f := fun f m => T.fr f (by simp [m])
      generalize hw : ({ w with put := ew w.s w.g w.i.toNat t q } : Wh) = w' at wk ⊢
      have ws : w'.s = w.s := by rw [← hw]
      have wg : w'.g = w.g := by rw [← hw]
      have wc : w'.cell = w.cell := by rw [← hw]
      have wp : w'.pc = 5 := by rw [← hw]; exact hp
      have wi : w'.i = w.i := by rw [← hw]
      have wk' : w'.k = w.k := by rw [← hw]
      have wwas : w'.was = w.was := by rw [← hw]
      have ord := WOrd.len17 hfr ch.2.2
      refine ⟨rfl, fun f hf => by omega, W.same okB same, R, R.tf W (fs := .ent (.new s1 g1 n1 t1 q1) :: .who w' :: r) ⟨fun f hf => ?_, wp, WNx.mono ws wg ch.1, ch.2.2⟩, fun h => by cases h⟩
      rcases List.mem_cons.1 hf with rfl | hf
      · have z : I64 0 := by constructor <;> decide
        refine ⟨⟨l1, by show (0 : Int) ≤ n1; omega, by show (n1 : Int) < 16; omega, t10.1, t10.2, q10.1, q10.2, Int.le_refl 0, by show (0 : Int) < 16; decide, z, by show 0 ≤ 3; decide⟩, lv1, (fun h => by rcases h with h | h <;> cases h), fun d hd hg => ?_⟩
        obtain ⟨e1, b1, b2, b3⟩ := k1 d hd hg
        exact ⟨n1, e1, rfl, b1, (fun h => by simp [En.new] at h), fun h => by simp [En.new] at h⟩
      · rcases List.mem_cons.1 hf with rfl | hf
        · refine ⟨wk, by rw [ws, wg]; exact a2, ⟨fun _ => by rw [wwas]; exact ⟨v, hv⟩, (fun h => by omega), fun h => by omega⟩, fun d' hd' hg' => ?_⟩
          rw [ws] at hd'
          rw [wg] at hg'
          have ph := a4 d' hd' hg'
          simp only [WPh, hp] at ph
          obtain ⟨n, e, ix, h1, h2⟩ := ph
          simp only [WPh, wp]
          exact ⟨n, e, ⟨by rw [wi]; exact ix.i, by rw [wk']; exact ix.k, ix.e⟩, by rw [ws]; exact h1, by rw [wc]; exact h2⟩
        · exact hfr f hf
theorem WA.pc7 (W : WA D G A) (T : TF D G A (.who w :: r)) (ok' : (w.step t q A).fine) (hp : w.pc = 7) : DidW D G A r (w.step t q A) := by
  obtain ⟨a1, a2, a3, a4⟩ := T.fr (.who w) (by simp)
  have l := a1.life
  have c0 := a1.c0; have c1 := a1.c1
  obtain ⟨v, hv⟩ := a3.1 (by omega)
  obtain ⟨n0, t0, q0, hi, hn, ht, hq, hput⟩ := a3.2.2 (.inr hp)
  have hs : w.step t q A = ⟨.who (w.next 3 8), none, false, true, A.cas w.cell w.put (if w.opn then w.mine else w.was), q⟩ := by
    unfold Wh.step; simp only [hp]
  rw [hs] at ok' ⊢
  have okB := ok'.a
  have wk := ok'.fr rfl rfl
  by_cases c : A.at w.cell = w.put
  · have O := One.of_cas (x := if w.opn then w.mine else w.was) W.ok c0 c1 c
    have okB : (A.cas w.cell w.put (if w.opn then w.mine else w.was)).ok := okB
    generalize A.cas w.cell w.put (if w.opn then w.mine else w.was) = B at okB O ⊢
    have no : w.opn = false → ¬ OpW A w.s w.g := fun h ho => by
      obtain ⟨d, hd, hg⟩ := W.live l a2 ho
      have ph := a4 d hd hg
      simp only [WPh, hp] at ph
      obtain ⟨n, e, ix, h1, h2, h3, h4⟩ := ph
      exact h4 h (by rw [hg]; exact ho)
    have R : WRel D G A D G B := .settle W O l hn ht hq (by rw [c]; exact hput) (by
      cases ho : w.opn with
      | true => left; rfl
      | false => exact .inr (no ho))
    refine W.turn T okB O R ?_ rfl rfl wk next_WB (fun d hd hg ph => ?_) (by rcases nextPc (w := w) (more := 3) (stop := 8) with h' | h' <;> omega)
    · cases ho : w.opn with
      | true =>
        refine .mc (s := w.s) (g := w.g) (by rw [O.at_, ho]; rfl) l a2 fun d hd hg => ?_
        have ph := a4 d hd hg
        simp only [WPh, hp] at ph
        obtain ⟨n, e, ix, h1, h2, h3, h4⟩ := ph
        exact ⟨n, e, ix.e, h2.symm, R.held (W.ds _ _ hd).1 (LvW.of W hd) h1⟩
      | false => exact .val (v := v) (by rw [O.at_, ho]; exact hv)
    · simp only [WPh, hp] at ph
      obtain ⟨n, e, ix, h1, h2, h3, h4⟩ := ph
      refine WPh.next ix fun ho j e' hj he' => ?_
      by_cases cc : j = n
      · subst cc
        rw [ix.e] at he'; cases he'
        have : w.opn = true := by
          cases hh : w.opn with
          | true => rfl
          | false => exact absurd (R.st _ _ (by rw [hg]; exact l) (by rw [hg]; exact a2) ho) (h4 hh)
        rw [← h2, O.at_, this, hg]; rfl
      · exact R.held (W.ds _ _ hd).1 (LvW.of W hd) h1 ho j e' (by omega) he'
  · have same := cas_same (x := if w.opn then w.mine else w.was) W.ok c0 (by omega) c
    refine W.own T okB same rfl rfl wk next_WB (fun d hd hg ph => ?_) (fun h => by rcases nextPc (w := w) (more := 3) (stop := 8) with h' | h' <;> omega)
    simp only [WPh, hp] at ph
    obtain ⟨n, e, ix, h1, h2, h3, h4⟩ := ph
    refine WPh.next ix fun ho j e' hj he' => ?_
    by_cases cc : j = n
    · subst cc
      rw [ix.e] at he'; cases he'
      rcases h3 ho with h | h
      · exact absurd h c
      · rw [← h2]; exact h
    · exact h1 ho j e' (by omega) he'
theorem WA.pc89 (W : WA D G A) (T : TF D G A (.who w :: r)) (ok' : (w.step t q A).fine) (hp : w.pc = 8 ∨ w.pc = 9) : DidW D G A r (w.step t q A) := by
  obtain ⟨a1, a2, a3, a4⟩ := T.fr (.who w) (by simp)
  have l := a1.life
  have s0 := l.s0; have s1 := l.s1
  have hs : ∃ x, (x = 1 ∨ x = 2) ∧ w.step t q A = ⟨.who { w with pc := 1 }, none, false, true, A.cas (baseOf w.s) (stateW w.g 0) (stateW w.g x), q⟩ := by
    rcases hp with hp | hp
    · exact ⟨1, .inl rfl, by unfold Wh.step; simp only [hp]⟩
    · exact ⟨2, .inr rfl, by unfold Wh.step; simp only [hp]⟩
  obtain ⟨x, hx, hs⟩ := hs
  rw [hs] at ok' ⊢
  have okB := ok'.a
  have wk := ok'.fr rfl rfl
  by_cases c : A.at (baseOf w.s) = stateW w.g 0
  · have O := Dec.of_cas (x := x) (d := ⟨w.g, [], True⟩) W.ok l c
    have okB : (A.cas (baseOf w.s) (stateW w.g 0) (stateW w.g x)).ok := okB
    generalize A.cas (baseOf w.s) (stateW w.g 0) (stateW w.g x) = B at okB O ⊢
    have R := WRel.dec (D := D) (G := G) W O l a2.1 hx
    refine ⟨rfl, (fun f hf => by cases hf), W.dec okB O l a2 hx, R, ⟨fun f hf => ?_, ?_⟩, fun h => by cases h⟩
    · rcases List.mem_cons.1 hf with rfl | hf
      · exact ⟨wk, a2, .none (by simp [Wh.new]), fun d hd hg => trivial⟩
      · exact R.fr W (T.fr f (by simp [hf]))
    · have ch := R.chain T.fr T.ch
      exact ⟨WNx.mono (w := w) rfl rfl ch.1, (fun hp => by cases hp), ch.2.2⟩
  · have same := cas_same (x := stateW w.g x) W.ok (show 0 ≤ baseOf w.s by unfold baseOf; omega) (by unfold baseOf; omega) c
    exact W.own T okB same rfl rfl wk (.none (by simp)) (fun d hd hg ph => trivial) (fun h => by cases h)
theorem WA.pc13 (W : WA D G A) (T : TF D G A (.who w :: r)) (ok' : (w.step t q A).fine) (hp : w.pc = 13) : DidW D G A r (w.step t q A) := by
  obtain ⟨a1, a2, a3, a4⟩ := T.fr (.who w) (by simp)
  have l := a1.life
  have c0 := a1.c0; have c1 := a1.c1
  obtain ⟨v, hv⟩ := a3.2.1 hp
  have hs : w.step t q A = ⟨.who (w.next 11 0), none, decide (w.k ≤ w.i + 1), true, A.cas w.cell w.mine w.x, q⟩ := by
    unfold Wh.step; simp only [hp]
  rw [hs] at ok' ⊢
  have okB : (A.cas w.cell w.mine w.x).ok := ok'.a
  have no : ¬ OpW A w.s w.g := fun ho => by
    obtain ⟨d, hd, hg⟩ := W.live l a2 ho
    have ph := a4 d hd hg
    simp only [WPh, hp] at ph
    exact ph.1 (by rw [hg]; exact ho)
  have key : WA D G (A.cas w.cell w.mine w.x) ∧ WRel D G A D G (A.cas w.cell w.mine w.x) := by
    by_cases c : A.at w.cell = w.mine
    · have O := One.of_cas (x := w.x) W.ok c0 c1 c
      have R : WRel D G A D G (A.cas w.cell w.mine w.x) := .letGo W O l c no
      exact ⟨W.one okB O R (.val (v := v) (by rw [O.at_]; exact hv)), R⟩
    · have same := cas_same (x := w.x) W.ok c0 (by omega) c
      exact ⟨W.same okB same, WRel.same W same⟩
  obtain ⟨WB', R⟩ := key
  have fin : ∀ d, D w.s = some d → d.g = w.g → ¬ OpW (A.cas w.cell w.mine w.x) w.s d.g ∧ (w.won = true ↔ WnW (A.cas w.cell w.mine w.x) w.s d.g) := fun d hd hg => by
    have ph := a4 d hd hg
    have := R.ph W a3 hd hd hg ph
    simp only [WPh, hp] at this
    exact this
  have ch := R.chain T.fr T.ch
  by_cases ck : w.k ≤ w.i + 1
  · rw [decide_eq_true ck]
    refine ⟨rfl, (fun f hf => by cases hf), WB', R, ⟨fun f hf => R.fr W (T.fr f (by simp only [nxt, Option.bind, if_true] at hf; simp [hf])), ch.2.2.chain⟩, fun _ v hv d hd hg => ?_⟩
    cases hv
    exact fin d hd hg
  · rw [decide_eq_false ck] at ok' ⊢
    have wk := ok'.fr rfl rfl
    have wp : (w.next 11 0).pc = 11 := by unfold Wh.next; simp only; rw [if_neg ck]
    refine ⟨rfl, (fun f hf => by cases hf), WB', R, ⟨fun f hf => ?_, ?_⟩, fun h => by cases h⟩
    · rcases List.mem_cons.1 hf with rfl | hf
      · refine ⟨wk, a2, .none (by omega), fun d hd hg => ?_⟩
        simp only [WPh, wp]
        exact fin d hd hg
      · exact R.fr W (T.fr f (by simp [hf]))
    · exact ⟨WNx.mono (w := w) rfl rfl ch.1, (fun hp => by omega), ch.2.2⟩
theorem WA.who (W : WA D G A) (T : TF D G A (.who w :: r)) (ht : 0 ≤ t ∧ t < 4) (hq : 0 ≤ q ∧ q < 1048576) : DidW D G A r (w.step t q A) := by
  have ok := (T.fr (.who w) (by simp)).1
  have ok' := Wh.step_ok (t := t) (q := q) ok W.ok ht.1 ht.2 hq.1 hq.2
  have p0 := ok.pc0; have p1 := ok.pc1
  have : w.pc = 1 ∨ w.pc = 2 ∨ w.pc = 3 ∨ w.pc = 4 ∨ w.pc = 5 ∨ w.pc = 6 ∨ w.pc = 7 ∨ (w.pc = 8 ∨ w.pc = 9) ∨ w.pc = 10 ∨ w.pc = 11 ∨ w.pc = 12 ∨ w.pc = 13 ∨ w.pc = 14 := by omega
  rcases this with h | h | h | h | h | h | h | h | h | h | h | h | h
  · exact W.pc1 T ok' h
  · exact W.pc2 T ok' h
  · exact W.pc3 T ok' h
  · exact W.pc4 T ok' h
  · exact W.pc5 T ok' ht hq h
  · exact W.pc6 T ok' h
  · exact W.pc7 T ok' h
  · exact W.pc89 T ok' h
  · exact W.pc10 T ok' h
  · exact W.pc11 T ok' h
  · exact W.pc12 T ok' h
  · exact W.pc13 T ok' h
  · exact W.pc14 T ok' h
end
section
variable {D : Int → Option Dw} {G : Int → Int} {A B : Ar} {t q q' s : Int} {d : Dw} {n : Nat} {e : Sw} {w w' : Wh} {f f' : En} {r : List Fr} {x : Int}
theorem WA.ownE (W : WA D G A) (T : TF D G A (.ent f :: r)) (okB : B.ok) (h : ∀ j, 0 ≤ j → j < 634 → B.at j = A.at j) (es : f'.s = f.s) (eg : f'.g = f.g) (ok' : f'.ok) (b : f'.pc = 2 ∨ f'.pc = 3 → ∃ v, plainOf f'.was = some v)
    (ph : ∀ d, D f.s = some d → d.g = f.g → WEn A d f → WEn A d f') : DidW D G A r ⟨.ent f', none, false, true, B, q'⟩ := by
  have R := WRel.same (D := D) (G := G) W h
  refine ⟨rfl, (fun f hf => by cases hf), W.same okB h, R, R.tf W (fs := .ent f' :: r) ⟨fun g hf => ?_, T.ch⟩, fun h => by cases h⟩
  obtain ⟨a1, a2, a3, a4⟩ := T.fr (.ent f) (by simp)
  rcases List.mem_cons.1 hf with rfl | hf
  · exact ⟨ok', by rw [es, eg]; exact a2, b, fun d hd hg => ph d (by rw [← es]; exact hd) (by rw [← eg]; exact hg) (a4 d (by rw [← es]; exact hd) (by rw [← eg]; exact hg))⟩
  · exact T.fr g (by simp [hf])
theorem WA.ent (W : WA D G A) (T : TF D G A (.ent f :: r)) (hq : 0 ≤ q ∧ q < 1048576) : DidW D G A r (f.step q A) := by
  obtain ⟨a1, a2, a3, a4⟩ := T.fr (.ent f) (by simp)
  have ok' := En.step_ok (q := q) a1 W.ok hq.1 hq.2
  have l := a1.life
  have s0 := l.s0; have s1 := l.s1
  have e0 := a1.e0; have e1 := a1.e1
  have tw := W.tw f.s s0 s1
  have pc1 := a1.pc1
  have : f.pc = 0 ∨ f.pc = 1 ∨ f.pc = 2 ∨ f.pc = 3 := by omega
  rcases this with hp | hp | hp | hp
  · have hs : f.step q A = ⟨.ent { f with cell := valOf (A.at (baseOf f.s + (2 + 3 * f.e + 0))), pc := 1 }, none, false, isVal (A.at (baseOf f.s + (2 + 3 * f.e + 0))) 15, A.ld (baseOf f.s + (2 + 3 * f.e + 0)), q⟩ := by
      unfold En.step; simp only [hp]
    rw [hs, tw.c _ e0 e1] at ok' ⊢
    refine W.ownE T (W.ok.ld _) (ldS W (by unfold baseOf; omega) (by unfold baseOf; omega)) rfl rfl (ok'.fr rfl rfl) (fun h => by rcases h with h | h <;> cases h) (fun d hd hg ph => ?_)
    obtain ⟨n, e, b1, b2, b3, b4⟩ := ph
    exact ⟨n, e, b1, b2, fun _ => Dw.cell W hd b1 b2, fun h => by cases h⟩
  · have hs : f.step q A = ⟨.ent { f with was := valOf (A.at (baseOf f.s + (2 + 3 * f.e + 1))) * 4, pc := 2 }, none, false, isVal (A.at (baseOf f.s + (2 + 3 * f.e + 1))) 1099511627775, A.ld (baseOf f.s + (2 + 3 * f.e + 1)), q⟩ := by
      unfold En.step; simp only [hp]
    rw [hs, tw.w _ e0 e1] at ok' ⊢
    refine W.ownE T (W.ok.ld _) (ldS W (by unfold baseOf; omega) (by unfold baseOf; omega)) rfl rfl (ok'.fr rfl rfl) (fun h => ⟨_, plain4 W.ok _⟩) (fun d hd hg ph => ?_)
    obtain ⟨n, e, b1, b2, b3, b4⟩ := ph
    exact ⟨n, e, b1, b2, fun _ => b3 (by omega), fun h => by cases h⟩
  · have hs : f.step q A = ⟨.ent { f with opn := decide (A.at (baseOf f.s) = stateW f.g 0), pc := 3 }, none, false, (plainOf (A.at (baseOf f.s))).isSome, A.ld (baseOf f.s), q⟩ := by
      unfold En.step; simp only [hp]
    rw [hs, tw.st] at ok' ⊢
    refine W.ownE T (W.ok.ld _) (ldS W (by unfold baseOf; omega) (by unfold baseOf; omega)) rfl rfl (ok'.fr rfl rfl) (fun h => a3 (.inl hp)) (fun d hd hg ph => ?_)
    obtain ⟨n, e, b1, b2, b3, b4⟩ := ph
    refine ⟨n, e, b1, b2, fun _ => b3 (by omega), fun _ ho => ?_⟩
    show ¬ OpW A f.s d.g
    unfold OpW; rw [hg]; simpa using ho
  · obtain ⟨v, hv⟩ := a3 (.inr hp)
    have c0 := a1.c0; have c1 := a1.c1
    have hs : f.step q A = ⟨.ent { f with pc := 4 }, none, true, true, A.cas f.cell (Form.entry f.s f.g f.e f.t f.q).number (if f.opn then (Form.mcas f.s f.g).number else f.was), q⟩ := by
      unfold En.step; simp only [hp]
    rw [hs] at ok' ⊢
    have okB := ok'.a
    have hn : f.e.toNat < 16 := by omega
    have hi : f.e = (f.e.toNat : Nat) := by omega
    have ht : 0 ≤ f.t ∧ f.t < 4 := ⟨a1.t0, a1.t1⟩
    have hq' : 0 ≤ f.q ∧ f.q < 1048576 := ⟨a1.q0, a1.q1⟩
    have hpe : (Form.entry f.s f.g f.e f.t f.q).number = ew f.s f.g f.e.toNat f.t f.q := by unfold ew; rw [← hi]
    rw [hpe] at okB ⊢
    have no : f.opn = false → ¬ OpW A f.s f.g := fun h ho => by
      obtain ⟨d, hd, hg⟩ := W.live l a2 ho
      obtain ⟨n, e, b1, b2, b3, b4⟩ := a4 d hd hg
      exact b4 hp h (by rw [hg]; exact ho)
    have okB : (A.cas f.cell (ew f.s f.g f.e.toNat f.t f.q) (if f.opn then (Form.mcas f.s f.g).number else f.was)).ok := okB
    have key : WA D G (A.cas f.cell (ew f.s f.g f.e.toNat f.t f.q) (if f.opn then (Form.mcas f.s f.g).number else f.was)) ∧ WRel D G A D G (A.cas f.cell (ew f.s f.g f.e.toNat f.t f.q) (if f.opn then (Form.mcas f.s f.g).number else f.was)) := by
      by_cases c : A.at f.cell = ew f.s f.g f.e.toNat f.t f.q
      · have O := One.of_cas (x := if f.opn then (Form.mcas f.s f.g).number else f.was) W.ok c0 c1 c
        generalize A.cas f.cell (ew f.s f.g f.e.toNat f.t f.q) (if f.opn then (Form.mcas f.s f.g).number else f.was) = B at okB O ⊢
        have R : WRel D G A D G B := .settle W O l hn ht hq' c (by
          cases ho : f.opn with
          | true => left; rfl
          | false => exact .inr (no ho))
        refine ⟨W.one okB O R ?_, R⟩
        cases ho : f.opn with
        | true =>
          refine .mc (s := f.s) (g := f.g) (by rw [O.at_, ho]; rfl) l a2 fun d hd hg => ?_
          cases W.cells f.cell c0 c1 with
          | val h => have := (val_read h).2.1; rw [c] at this; exact absurd this entry_not_val
          | mc ha => rw [c] at ha; exact absurd ha.symm mw_ew
          | @en s1 g1 n1 t1 q1 ha l1 hn1 t10 q10 lv1 k1 =>
            rw [c] at ha
            obtain ⟨b1, b2, b3, b4, b5⟩ := ew_inj (d := ⟨f.g, [], True⟩) (d' := ⟨g1, [], True⟩) l l1 hn hn1 ht t10 hq' q10 ha
            subst b1
            have b2 : f.g = g1 := b2
            subst b2
            obtain ⟨e, h1, h2, h3⟩ := k1 d hd hg
            exact ⟨n1, e, h1, h2, R.held (W.ds _ _ hd).1 (LvW.of W hd) h3⟩
        | false => exact .val (v := v) (by rw [O.at_, ho]; exact hv)
      · have same := cas_same (x := if f.opn then (Form.mcas f.s f.g).number else f.was) W.ok c0 (by omega) c
        exact ⟨W.same okB same, WRel.same W same⟩
    obtain ⟨WB', R⟩ := key
    refine ⟨rfl, (fun f hf => by cases hf), WB', R, ⟨fun g hf => R.fr W (T.fr g (by simp only [nxt, Option.bind, if_true] at hf; simp [hf])), WUnd.chain (R.chain T.fr T.ch)⟩, fun _ v hv => by cases hv⟩
theorem WA.frame (W : WA D G A) {g : Fr} (T : TF D G A (g :: r)) (ht : 0 ≤ t ∧ t < 4) (hq : 0 ≤ q ∧ q < 1048576) : DidW D G A r (g.step t q A) := by
  cases g with
  | who w => exact W.who T ht hq
  | ent f => exact W.ent T hq
def Help.frs (H : Help) : List Fr := if H.over then [] else H.top :: H.rest
def Help.bot (H : Help) (s g : Int) : Prop := ∃ w, (H.top :: H.rest).getLast? = some (.who w) ∧ w.s = s ∧ w.g = g
structure HelpW (D : Int → Option Dw) (G : Int → Int) (A : Ar) (H : Help) (H' : Help) (c : Int) (B : Ar) : Prop where
  err : c = 0
  wa : WA D G B
  rel : WRel D G A D G B
  tf : TF D G B H'.frs
  bot : ∀ s g, H.bot s g → (H'.over = false → H'.bot s g) ∧ (H'.over = true → ∀ d, D s = some d → d.g = g → ¬ OpW B s d.g ∧ (H'.won = true ↔ WnW B s d.g))
theorem who_stays {o : Out} (h : (Fr.who w).step t q A = o) : ∃ w', o.fr = .who w' ∧ w'.s = w.s ∧ w'.g = w.g := by
  subst h
  show ∃ w', (w.step t q A).fr = .who w' ∧ w'.s = w.s ∧ w'.g = w.g
  obtain ⟨s, g, pc, i, k, cell, was, put, x, opn, won⟩ := w
  unfold Wh.step
  simp only
  split
  · exact ⟨_, rfl, rfl, rfl⟩
  · exact ⟨_, rfl, rfl, rfl⟩
  · exact ⟨_, rfl, rfl, rfl⟩
  · unfold Wh.swapIn
    simp only
    split
    · exact ⟨_, rfl, rfl, rfl⟩
    · split
      · exact ⟨_, rfl, rfl, rfl⟩
      · exact ⟨_, rfl, rfl, rfl⟩
      · exact ⟨_, rfl, rfl, rfl⟩
      · split <;> exact ⟨_, rfl, rfl, rfl⟩
  · exact ⟨_, rfl, rfl, rfl⟩
  · exact ⟨_, rfl, rfl, rfl⟩
  · exact ⟨_, rfl, rfl, rfl⟩
  · exact ⟨_, rfl, rfl, rfl⟩
  · exact ⟨_, rfl, rfl, rfl⟩
  · exact ⟨_, rfl, rfl, rfl⟩
  · exact ⟨_, rfl, rfl, rfl⟩
  · exact ⟨_, rfl, rfl, rfl⟩
  · split <;> exact ⟨_, rfl, rfl, rfl⟩
  · exact ⟨_, rfl, rfl, rfl⟩
theorem WA.help (W : WA D G A) {H : Help} (ho : H.over = false) (ok : H.ok) (T : TF D G A H.frs) : HelpW D G A H (H.step A).1 (H.step A).2.1 (H.step A).2.2 := by
  have hfr : H.frs = H.top :: H.rest := by unfold Help.frs; rw [ho]; rfl
  rw [hfr] at T
  have did := W.frame (t := H.t) (q := H.q) T ⟨ok.t0, ok.t1⟩ ⟨ok.q0, ok.q1⟩
  have hov := Fr.over_atop (A := A) (t := H.t) (q := H.q) H.top
  have stay : ∀ w, H.top = .who w → ∃ w', (H.top.step H.t H.q A).fr = .who w' ∧ w'.s = w.s ∧ w'.g = w.g := fun w e => by rw [e]; exact who_stays rfl
  rw [Help.step_eq ho]
  generalize H.top.step H.t H.q A = o at did hov stay ⊢
  obtain ⟨g1, g2, g3, g4, g5, g6⟩ := did
  have last : ∀ (x y : Fr) (l : List Fr) (w : Wh), (x :: y :: l).getLast? = some (.who w) ↔ (y :: l).getLast? = some (.who w) := fun x y l w => by rw [List.getLast?_cons_cons]
  unfold Help.take
  simp only
  rw [if_neg (by rw [g1]; decide)]
  cases hb : o.atop.bind newFr with
  | some f =>
    have hl := g2 f hb
    have hn : nxt o H.rest = f :: o.fr :: H.rest := by unfold nxt; rw [hb]
    rw [hn] at g5
    simp only
    rw [if_neg (by omega)]
    refine ⟨rfl, g3, g4, ?_, fun s g hw => ⟨fun _ => ?_, fun h => by rw [show (_ : Bool) = H.over from rfl, ho] at h; cases h⟩⟩
    · show TF D G o.a (if H.over then [] else f :: o.fr :: H.rest)
      rw [ho]; exact g5
    · obtain ⟨w, h1, h2, h3⟩ := hw
      show ∃ w, (f :: o.fr :: H.rest).getLast? = some (.who w) ∧ w.s = s ∧ w.g = g
      cases hr : H.rest with
      | nil =>
        rw [hr] at h1
        simp at h1
        obtain ⟨w', e1, e2, e3⟩ := stay w h1
        exact ⟨w', by rw [e1]; rfl, by rw [e2]; exact h2, by rw [e3]; exact h3⟩
      | cons y l =>
        rw [hr] at h1
        refine ⟨w, ?_, h2, h3⟩
        rw [last, last]
        exact (last _ _ _ _).1 h1
  | none =>
    simp only
    cases hov' : o.over with
    | false =>
      have hn : nxt o H.rest = o.fr :: H.rest := by unfold nxt; rw [hb]; simp only; rw [hov']; rfl
      rw [hn] at g5
      simp only [if_true]
      refine ⟨rfl, g3, g4, ?_, fun s g hw => ⟨fun _ => ?_, fun h => by rw [show (_ : Bool) = H.over from rfl, ho] at h; cases h⟩⟩
      · show TF D G o.a (if H.over then [] else o.fr :: H.rest)
        rw [ho]; exact g5
      · obtain ⟨w, h1, h2, h3⟩ := hw
        show ∃ w, (o.fr :: H.rest).getLast? = some (.who w) ∧ w.s = s ∧ w.g = g
        cases hr : H.rest with
        | nil =>
          rw [hr] at h1
          simp at h1
          obtain ⟨w', e1, e2, e3⟩ := stay w h1
          exact ⟨w', by rw [e1]; rfl, by rw [e2]; exact h2, by rw [e3]; exact h3⟩
        | cons y l =>
          rw [hr] at h1
          refine ⟨w, ?_, h2, h3⟩
          rw [last]
          exact (last _ _ _ _).1 h1
    | true =>
      have hn : nxt o H.rest = H.rest := by unfold nxt; rw [hb]; simp only; rw [hov']; rfl
      rw [hn] at g5
      simp only [Bool.true_eq_false, if_false]
      cases hr : H.rest with
      | nil =>
        simp only
        refine ⟨rfl, g3, g4, ⟨(fun f hf => by cases hf), trivial⟩, fun s g hw => ⟨(fun h => by cases h), fun _ d hd hg => ?_⟩⟩
        obtain ⟨w, h1, h2, h3⟩ := hw
        rw [hr] at h1
        simp at h1
        obtain ⟨w', e1, e2, e3⟩ := stay w h1
        have := g6 hov' w' e1 d (by rw [e2, h2]; exact hd) (by rw [e3, h3]; exact hg)
        rw [e2, h2] at this
        show ¬ OpW o.a s d.g ∧ (o.fr.won = true ↔ WnW o.a s d.g)
        rw [e1]; exact this
      | cons y l =>
        rw [hr] at g5
        simp only
        refine ⟨rfl, g3, g4, ?_, fun s g hw => ⟨fun _ => ?_, fun h => by rw [show (_ : Bool) = H.over from rfl, ho] at h; cases h⟩⟩
        · show TF D G o.a (if H.over then [] else y :: l)
          rw [ho]; exact g5
        · obtain ⟨w, h1, h2, h3⟩ := hw
          rw [hr] at h1
          exact ⟨w, (last _ _ _ _).1 h1, h2, h3⟩
end
section
variable {D D' D1 D2 : Int → Option Dw} {G G' G1 G2 : Int → Int} {A B C : Ar} {t q s : Int} {d : Dw} {n : Nat} {e : Sw} {w : Wh}
theorem DOk.mid (h : ∀ j, 34 ≤ j → j < 634 → B.at j = A.at j) (o : DOk A s d) : DOk B s d := by
  obtain ⟨l, m, st, hst, D⟩ := o
  have := l.s0; have := l.s1
  exact ⟨l, m, st, hst, D.keep m fun j j0 j1 => h j (by unfold baseOf at j0; omega) (by unfold baseOf at j1; omega)⟩
theorem WRel.mid (W : WA D G A) (h : ∀ j, 0 ≤ j → j < 634 → j < 16 ∨ 34 ≤ j → B.at j = A.at j) : WRel D G A D G B := by
  have hb : ∀ {s g}, Life s g → B.at (baseOf s) = A.at (baseOf s) := fun {s g} l => by
    have := l.s0; have := l.s1
    exact h _ (by unfold baseOf; omega) (by unfold baseOf; omega) (by unfold baseOf; omega)
  exact ⟨fun _ _ _ h => h, fun _ _ _ _ _ h _ => h, fun s g l _ ho => by unfold OpW at ho ⊢; rw [← hb l]; exact ho, fun s d _ hd _ => hb (W.ds s d hd).1.1, fun s g c _ _ _ c0 c1 ha => by rw [h c c0 (by omega) (by omega)]; exact ha, fun s g n t q c _ _ _ c0 c1 _ _ _ ha => by rw [h c c0 (by omega) (by omega)]; exact .inl ha⟩
theorem WA.mid (W : WA D G A) (okB : B.ok) (h : ∀ j, 0 ≤ j → j < 634 → j < 16 ∨ 34 ≤ j → B.at j = A.at j) : WA D G B := by
  refine ⟨okB, fun s h0 h1 => ?_, fun s g h0 h1 hg ho => W.so s g h0 h1 hg ?_, fun s d hd => ⟨(W.ds s d hd).1.mid fun j j0 j1 => h j (by omega) j1 (by omega), (W.ds s d hd).2⟩, fun c c0 c1 => (WRel.mid W h).cell W (h c c0 (by omega) (by omega)) (W.cells c c0 c1)⟩
  · have k := W.tw s h0 h1
    have e : ∀ i : Int, 0 ≤ i → i < 50 → B.at (baseOf s + i) = A.at (baseOf s + i) := fun i i0 i1 => h _ (by unfold baseOf; omega) (by unfold baseOf; omega) (by unfold baseOf; omega)
    have e0 := e 0 (by decide) (by decide)
    rw [Int.add_zero] at e0
    exact ⟨by rw [e0]; exact k.st, by rw [e 1 (by decide) (by decide)]; exact k.k, fun j j0 j1 => by rw [e _ (by omega) (by omega)]; exact k.c j j0 j1, fun j j0 j1 => by rw [e _ (by omega) (by omega)]; exact k.w j j0 j1, fun j j0 j1 => by rw [e _ (by omega) (by omega)]; exact k.n j j0 j1⟩
  · unfold OpW at ho ⊢; rw [← h _ (by unfold baseOf; omega) (by unfold baseOf; omega) (by unfold baseOf; omega)]; exact ho
theorem WRel.trans (W : WA D G A) (R : WRel D G A D1 G1 B) (R2 : WRel D1 G1 B D2 G2 C) : WRel D G A D2 G2 C := by
  refine ⟨fun s g l h => R2.lv s g l (R.lv s g l h), fun s g d l h hd hg => R.live s g d l h (R2.live s g d l (R.lv s g l h) hd hg) hg, fun s g l h ho => R.st s g l h (R2.st s g l (R.lv s g l h) ho), fun s d hd hd0 hn => ?_, fun s g c l h ho c0 c1 ha => R2.keep s g c l (R.lv s g l h) ho c0 c1 (R.keep s g c l h (R2.st s g l (R.lv s g l h) ho) c0 c1 ha), fun s g n t q c l h ho c0 c1 hn t0 q0 ha => ?_⟩
  · have l := (W.ds s d hd0).1.1
    have lv := LvW.of W hd0
    have hd1 := R2.live s d.g d l (R.lv s d.g l lv) hd rfl
    have e1 := R.fix s d hd1 hd0 hn
    rw [← e1]
    exact R2.fix s d hd hd1 fun h => hn (R.st s d.g l lv h)
  · have lv1 := R.lv s g l h
    rcases R.ent s g n t q c l h (R2.st s g l lv1 ho) c0 c1 hn t0 q0 ha with h1 | h1
    · exact R2.ent s g n t q c l lv1 ho c0 c1 hn t0 q0 h1
    · exact .inr (R2.keep s g c l lv1 ho c0 c1 h1)
def setD (D : Int → Option Dw) (s : Int) (d : Option Dw) : Int → Option Dw := fun u => if u = s then d else D u
def incG (G : Int → Int) (s : Int) : Int → Int := fun u => if u = s then G s + 1 else G u
theorem setD_at {x : Option Dw} : setD D s x s = x := if_pos rfl
theorem setD_ne {x : Option Dw} {u : Int} (h : u ≠ s) : setD D s x u = D u := if_neg h
theorem incG_at : incG G s s = G s + 1 := if_pos rfl
theorem incG_ne {u : Int} (h : u ≠ s) : incG G s u = G u := if_neg h
theorem WRel.take : WRel D G A (setD D s none) (incG G s) A := by
  refine ⟨fun u g _ h => ?_, fun u g d _ h hd hg => ?_, fun _ _ _ _ h => h, fun _ _ _ _ _ => rfl, fun _ _ _ _ _ _ _ _ h => h, fun _ _ _ _ _ _ _ _ _ _ _ _ _ _ h => .inl h⟩
  · by_cases c : u = s
    · subst c
      exact ⟨h.1, by rw [incG_at]; have := h.2.1; omega, fun e => by rw [incG_at] at e; have := h.2.1; omega⟩
    · unfold LvW; rw [incG_ne c, setD_ne c]; exact h
  · by_cases c : u = s
    · subst c; rw [setD_at] at hd; cases hd
    · rw [setD_ne c] at hd; exact hd
theorem WA.take (W : WA D G A) (no : ∀ g, 1 ≤ g → ¬ OpW A s g) : WA (setD D s none) (incG G s) A := by
  refine ⟨W.ok, W.tw, fun u g h0 h1 hg ho => ?_, fun u d hd => ?_, fun c c0 c1 => WRel.take.cell W rfl (W.cells c c0 c1)⟩
  · by_cases c : u = s
    · subst c; exact absurd ho (no g hg)
    · rw [incG_ne c]; exact W.so u g h0 h1 hg ho
  · by_cases c : u = s
    · subst c; rw [setD_at] at hd; cases hd
    · rw [setD_ne c] at hd; rw [incG_ne c]; exact W.ds u d hd
theorem row_get {g : Int} {ds : List Sw} (m : swMay ds = true) {k : Nat} (hk : k < (descRow g ds).length) :
    (k = 0 → (descRow g ds).getD k 0 = stateW g 0) ∧ (k = 1 → isVal ((descRow g ds).getD k 0) 16 = true) ∧
    (∀ j : Int, 0 ≤ j → (k : Int) = 2 + 3 * j + 0 → isVal ((descRow g ds).getD k 0) 15 = true) ∧
    (∀ j : Int, 0 ≤ j → (k : Int) = 2 + 3 * j + 1 → isVal ((descRow g ds).getD k 0) 1099511627775 = true) ∧
    (∀ j : Int, 0 ≤ j → (k : Int) = 2 + 3 * j + 2 → isVal ((descRow g ds).getD k 0) 1099511627775 = true) := by
  obtain ⟨r0, r1, r2⟩ := descRow_get g ds
  have hl := sw_len m
  rw [descRow_len] at hk
  have el : ∀ j : Int, 0 ≤ j → ∀ p : Nat, p < 3 → (k : Int) = 2 + 3 * j + p → ∃ d, ds[j.toNat]? = some d ∧ k = 2 + 3 * j.toNat + p := fun j j0 p p3 e => ⟨ds[j.toNat]'(by omega), List.getElem?_eq_getElem _, by omega⟩
  refine ⟨fun e => by rw [e]; exact r0, fun e => by rw [e, r1]; exact isVal_val (by omega) (by omega) (by omega), fun j j0 e => ?_, fun j j0 e => ?_, fun j j0 e => ?_⟩
  · obtain ⟨d, h1, h2⟩ := el j j0 0 (by decide) (by omega)
    have m := sw_mem m h1
    rw [h2, Nat.add_zero, (r2 _ d h1).1]
    exact isVal_val m.1 (by omega) (by omega)
  · obtain ⟨d, h1, h2⟩ := el j j0 1 (by decide) (by omega)
    have m := sw_mem m h1
    rw [h2, (r2 _ d h1).2.1]
    exact isVal_val m.2.2.1 m.2.2.2.1 (by omega)
  · obtain ⟨d, h1, h2⟩ := el j j0 2 (by decide) (by omega)
    have m := sw_mem m h1
    rw [h2, (r2 _ d h1).2.2]
    exact isVal_val m.2.2.2.2.1 m.2.2.2.2.2 (by omega)
theorem WA.write (W : WA D G A) {ds : List Sw} (m : swMay ds = true) (l : Life s (G s)) (hD : D s = none) {k : Nat} (hk : k < (descRow (G s) ds).length) (okB : B.ok)
    (hB : ∀ j, 0 ≤ j → j < 634 → B.at j = if baseOf s + k = j then (descRow (G s) ds).getD k 0 else A.at j) : WA D G B ∧ WRel D G A D G B := by
  have s0 := l.s0; have s1 := l.s1
  have hl := sw_len m
  have hk' := hk
  rw [descRow_len] at hk'
  obtain ⟨r0, r1, r2, r3, r4⟩ := row_get m hk
  have cell : ∀ j, 0 ≤ j → j < 34 → B.at j = A.at j := fun j j0 j1 => by rw [hB j j0 (by omega), if_neg (by unfold baseOf; omega)]
  have oth : ∀ u, 0 ≤ u → u < 12 → u ≠ s → ∀ j, baseOf u ≤ j → j < baseOf u + 50 → B.at j = A.at j := fun u u0 u1 un j j0 j1 => by
    unfold baseOf at j0 j1
    rw [hB j (by omega) (by omega), if_neg (by unfold baseOf; omega)]
  have own : ∀ i : Int, 0 ≤ i → i < 50 → B.at (baseOf s + i) = if (k : Int) = i then (descRow (G s) ds).getD k 0 else A.at (baseOf s + i) := fun i i0 i1 => by
    rw [hB _ (by unfold baseOf; omega) (by unfold baseOf; omega)]
    by_cases c : (k : Int) = i
    · rw [if_pos c, if_pos (by omega)]
    · rw [if_neg c, if_neg (by omega)]
  have op : ∀ u g, 0 ≤ u → u < 12 → OpW B u g → OpW A u g ∨ (u = s ∧ g = G s) := fun u g u0 u1 ho => by
    unfold OpW at ho ⊢
    by_cases c : u = s
    · subst c
      have := own 0 (by decide) (by decide)
      rw [Int.add_zero] at this
      rw [this] at ho
      split at ho
      · rename_i e
        rw [r0 (by omega)] at ho
        exact .inr ⟨rfl, by unfold stateW at ho; omega⟩
      · exact .inl ho
    · rw [oth u u0 u1 c _ (by omega) (by omega)] at ho; exact .inl ho
  have R : WRel D G A D G B := by
    refine ⟨fun _ _ _ h => h, fun _ _ _ _ _ h _ => h, fun u g l' lv ho => ?_, fun u d _ hd _ => ?_, fun u g c _ _ _ c0 c1 ha => by rw [cell c c0 (by omega)]; exact ha, fun u g n t q c _ _ _ c0 c1 _ _ _ ha => by rw [cell c c0 (by omega)]; exact .inl ha⟩
    · rcases op u g l'.s0 l'.s1 ho with h | ⟨h, h'⟩
      · exact h
      · subst h; exact absurd hD (lv.2.2 h')
    · have l' := (W.ds u d hd).1.1
      exact oth u l'.s0 l'.s1 (fun h => by subst h; rw [hD] at hd; cases hd) _ (by omega) (by omega)
  refine ⟨⟨okB, fun u u0 u1 => ?_, fun u g u0 u1 hg ho => ?_, fun u d hd => ?_, fun c c0 c1 => R.cell W (cell c c0 (by omega)) (W.cells c c0 c1)⟩, R⟩
  · have k0 := W.tw u u0 u1
    by_cases c : u = s
    · subst c
      have own0 := own 0 (by decide) (by decide)
      rw [Int.add_zero] at own0
      refine ⟨?_, ?_, fun j j0 j1 => ?_, fun j j0 j1 => ?_, fun j j0 j1 => ?_⟩
      · rw [own0]; split
        · rw [r0 (by omega)]; exact stateW_val l.g0 l.g1 (by decide) (by decide)
        · exact k0.st
      · rw [own 1 (by decide) (by decide)]; split
        · exact r1 (by omega)
        · exact k0.k
      · rw [own _ (by omega) (by omega)]; split
        · rename_i e; exact r2 j j0 e
        · exact k0.c j j0 j1
      · rw [own _ (by omega) (by omega)]; split
        · rename_i e; exact r3 j j0 e
        · exact k0.w j j0 j1
      · rw [own _ (by omega) (by omega)]; split
        · rename_i e; exact r4 j j0 e
        · exact k0.n j j0 j1
    · have e : ∀ i : Int, 0 ≤ i → i < 50 → B.at (baseOf u + i) = A.at (baseOf u + i) := fun i i0 i1 => oth u u0 u1 c _ (by omega) (by omega)
      have e0 := e 0 (by decide) (by decide)
      rw [Int.add_zero] at e0
      exact ⟨by rw [e0]; exact k0.st, by rw [e 1 (by decide) (by decide)]; exact k0.k, fun j j0 j1 => by rw [e _ (by omega) (by omega)]; exact k0.c j j0 j1, fun j j0 j1 => by rw [e _ (by omega) (by omega)]; exact k0.w j j0 j1, fun j j0 j1 => by rw [e _ (by omega) (by omega)]; exact k0.n j j0 j1⟩
  · rcases op u g u0 u1 ho with h | ⟨h, h'⟩
    · exact W.so u g u0 u1 hg h
    · rw [h]; exact h'
  · obtain ⟨⟨l', m', st, hst, dsc⟩, h2⟩ := W.ds u d hd
    exact ⟨⟨l', m', st, hst, dsc.keep m' (oth u l'.s0 l'.s1 fun h => by subst h; rw [hD] at hd; cases hd)⟩, h2⟩
theorem WRel.wrote {d : Dw} (hD : D s = none) (hg : d.g = G s) : WRel D G A (setD D s (some d)) G A := by
  refine ⟨fun u g _ h => ?_, fun u g d' _ h hd hg' => ?_, fun _ _ _ _ h => h, fun _ _ _ _ _ => rfl, fun _ _ _ _ _ _ _ _ h => h, fun _ _ _ _ _ _ _ _ _ _ _ _ _ _ h => .inl h⟩
  · by_cases c : u = s
    · subst c; exact ⟨h.1, h.2.1, fun _ => by rw [setD_at]; simp⟩
    · unfold LvW; rw [setD_ne c]; exact h
  · by_cases c : u = s
    · subst c
      rw [setD_at] at hd; cases hd
      exact absurd hD (h.2.2 (by omega))
    · rw [setD_ne c] at hd; exact hd
theorem WA.wrote (W : WA D G A) (hD : D s = none) (o : DOk A s d) (hg : d.g = G s) (g1 : 1 ≤ d.g) : WA (setD D s (some d)) G A := by
  refine ⟨W.ok, W.tw, W.so, fun u d' hd => ?_, fun c c0 c1 => (WRel.wrote hD hg).cell W rfl (W.cells c c0 c1)⟩
  by_cases c : u = s
  · subst c; rw [setD_at] at hd; cases hd; exact ⟨o, hg, g1⟩
  · rw [setD_ne c] at hd; exact W.ds u d' hd
def Dcd (A B : Ar) (s : Int) : Prop := ∃ g, 1 ≤ g ∧ A.at (baseOf s) = stateW g 0 ∧ B.at (baseOf s) = stateW g 1
inductive Ef (D : Int → Option Dw) (A B : Ar) (own : Int) : Prop where
  | quiet (h : ∀ j, 34 ≤ j → j < 634 → B.at j = A.at j) (n : B.lst 1 ≠ 2 ∨ B.lst 2 < 34 ∨ B.lst 3 = B.lst 4)
  | dec {s g x : Int} (l : Life s g) (g1 : 1 ≤ g) (hx : x = 1 ∨ x = 2) (op : OpW A s g) (hd : ∃ d, D s = some d ∧ d.g = g) (e : B = A.cas (baseOf s) (stateW g 0) (stateW g x))
  | wr (h : ∀ j, 34 ≤ j → j < 634 → j < baseOf own ∨ baseOf own + 50 ≤ j → B.at j = A.at j) (n : B.lst 1 = 1) (d : ¬ Dcd A B own)
theorem Ef.ld {own i : Int} (hA : A.ok) (h0 : 0 ≤ i) (h1 : i < 634) : Ef D A (A.ld i) own := .quiet (fun j j0 j1 => at_ld hA h0 h1 (by omega) j1) (.inl (by show (0 : Int) ≠ 2; decide))
theorem Ef.cell {own i o x : Int} (hA : A.ok) (h0 : 0 ≤ i) (h1 : i < 34) : Ef D A (A.cas i o x) own := .quiet (fun j j0 j1 => by rw [at_cas hA h0 (by omega) (by omega) j1, if_neg (by omega)]) (.inr (.inl (by show ((i.toNat : Nat) : Int) < 34; omega)))
theorem Ef.put {own i x : Int} (hA : A.ok) (h0 : 0 ≤ i) (h1 : i < 34) : Ef D A (A.put i x) own := .quiet (fun j j0 j1 => by rw [at_put hA h0 (by omega) (by omega) j1, if_neg (by omega)]) (.inl (by show (1 : Int) ≠ 2; decide))
theorem Wh.step_ef {w : Wh} {own : Int} (W : WA D G A) (h : FrW D G A (.who w)) : Ef D A (w.step t q A).a own := by
  obtain ⟨ok, lv, _, _⟩ := h
  have hA := W.ok
  obtain ⟨s, g, pc, i, k, cell, was, put, x, opn, won⟩ := w
  obtain ⟨life, i0, i1, i2, k1, k0, c0, c1, was1, put1, x1, pc1, pc0, ref⟩ := ok
  simp only at life i0 i1 i2 k1 k0 c0 c1 was1 put1 x1 pc1 pc0 ref lv
  have s0 := life.s0; have s1 := life.s1
  have hb : baseOf s = 34 + s * 50 := rfl
  have de : ∀ x, x = 1 ∨ x = 2 → Ef D A (A.cas (baseOf s) (stateW g 0) (stateW g x)) own := fun x hx => by
    by_cases c : A.at (baseOf s) = stateW g 0
    · exact .dec life lv.1 hx c (W.live life lv c) rfl
    · refine .quiet (fun j j0 j1 => cas_same hA (by omega) (by omega) c j (by omega) j1) (.inr (.inr ?_))
      show A.at (baseOf s) = (if A.at (baseOf s) = stateW g 0 then stateW g x else A.at (baseOf s))
      rw [if_neg c]
  have : pc = 1 ∨ pc = 2 ∨ pc = 3 ∨ pc = 4 ∨ pc = 5 ∨ pc = 6 ∨ pc = 7 ∨ pc = 8 ∨ pc = 9 ∨ pc = 10 ∨ pc = 11 ∨ pc = 12 ∨ pc = 13 ∨ pc = 14 := by omega
  rcases this with rfl | rfl | rfl | rfl | rfl | rfl | rfl | rfl | rfl | rfl | rfl | rfl | rfl | rfl
  · exact .ld hA (by (first | omega | (simp only; omega))) (by (first | omega | (simp only; omega)))
  · exact .ld hA (by (first | omega | (simp only; omega))) (by (first | omega | (simp only; omega)))
  · have := i2 (by decide) (by decide) (by decide) (by decide); exact .ld hA (by (first | omega | (simp only; omega))) (by (first | omega | (simp only; omega)))
  · have := i2 (by decide) (by decide) (by decide) (by decide); exact .ld hA (by (first | omega | (simp only; omega))) (by (first | omega | (simp only; omega)))
  · rw [Wh.step5 rfl]
    unfold Wh.swapIn
    have key : Ef D A (A.cas cell was (Form.entry s g i t q).number) own := .cell hA c0 (by omega)
    simp only
    split
    · exact key
    · split
      · exact key
      · exact key
      · exact key
      · split <;> exact key
  · exact .ld hA (by (first | omega | (simp only; omega))) (by (first | omega | (simp only; omega)))
  · exact .cell hA c0 (by show cell < 34; omega)
  · exact de 1 (.inl rfl)
  · exact de 2 (.inr rfl)
  · exact .ld hA (by (first | omega | (simp only; omega))) (by (first | omega | (simp only; omega)))
  · have := i2 (by decide) (by decide) (by decide) (by decide); exact .ld hA (by (first | omega | (simp only; omega))) (by (first | omega | (simp only; omega)))
  · have := i2 (by decide) (by decide) (by decide) (by decide)
    refine .ld hA ?_ ?_ <;> simp only <;> split <;> omega
  · exact .cell hA c0 (by show cell < 34; omega)
  · simp only [Wh.step]
    split <;> exact .ld hA (by (first | omega | (simp only; omega))) (by (first | omega | (simp only; omega)))
theorem En.step_ef {f : En} {own : Int} (W : WA D G A) (ok : f.ok) : Ef D A (f.step q A).a own := by
  have hA := W.ok
  obtain ⟨s, g, e, t', q', pc, cell, was, opn⟩ := f
  obtain ⟨life, e0, e1, t0, t1, q0', q1', c0, c1, was1, pc1⟩ := ok
  simp only at life e0 e1 t0 t1 q0' q1' c0 c1 was1 pc1
  have s0 := life.s0; have s1 := life.s1
  have hb : baseOf s = 34 + s * 50 := rfl
  have : pc = 0 ∨ pc = 1 ∨ pc = 2 ∨ pc = 3 := by omega
  rcases this with rfl | rfl | rfl | rfl
  · exact .ld hA (by (first | omega | (simp only; omega))) (by (first | omega | (simp only; omega)))
  · exact .ld hA (by (first | omega | (simp only; omega))) (by (first | omega | (simp only; omega)))
  · exact .ld hA (by (first | omega | (simp only; omega))) (by (first | omega | (simp only; omega)))
  · exact .cell hA c0 (by show cell < 34; omega)
theorem Help.step_ef {H : Help} {own : Int} (W : WA D G A) (T : TF D G A H.frs) (ho : H.over = false) : Ef D A (H.step A).2.2 own := by
  rw [Help.step_eq ho]
  show Ef D A (H.top.step H.t H.q A).a own
  have := T.fr H.top (by unfold Help.frs; rw [ho]; simp)
  cases ht : H.top with
  | who w => rw [ht] at this; exact Wh.step_ef W this
  | ent f => rw [ht] at this; exact En.step_ef W this.1
end
section
variable {D D' : Int → Option Dw} {G G' : Int → Int} {A B : Ar} {t q s own g : Int} {d : Dw}
theorem Ef.base (E : Ef D A B own) (hA : A.ok) (h0 : 0 ≤ s) (h1 : s < 12) (hne : s ≠ own) : B.at (baseOf s) = A.at (baseOf s) ∨ ∃ g x, 1 ≤ g ∧ (x = 1 ∨ x = 2) ∧ OpW A s g ∧ B.at (baseOf s) = stateW g x ∧ ∃ d, D s = some d ∧ d.g = g := by
  cases E with
  | quiet h n => exact .inl (h _ (by unfold baseOf; omega) (by unfold baseOf; omega))
  | @dec s' g x l g1 hx op hd e =>
    by_cases c : s = s'
    · subst c
      refine .inr ⟨g, x, g1, hx, op, ?_, hd⟩
      rw [e, at_cas hA (by unfold baseOf; omega) (by unfold baseOf; omega) (by unfold baseOf; omega) (by unfold baseOf; omega), if_pos rfl, if_pos (show A.at (baseOf s) = stateW g 0 from op)]
    · have s0 := l.s0; have s1 := l.s1
      exact .inl (by rw [e, at_cas hA (by unfold baseOf; omega) (by unfold baseOf; omega) (by unfold baseOf; omega) (by unfold baseOf; omega), if_neg (base_ne (Ne.symm c))])
  | wr h n _ => exact .inl (h _ (by unfold baseOf; omega) (by unfold baseOf; omega) (by unfold baseOf; omega))
theorem Ef.region (E : Ef D A B own) (hA : A.ok) (h0 : 0 ≤ s) (h1 : s < 12) (hne : s ≠ own) (hD : D s = none) : ∀ j, baseOf s ≤ j → j < baseOf s + 50 → B.at j = A.at j := by
  intro j j0 j1
  unfold baseOf at j0 j1
  cases E with
  | quiet h n => exact h _ (by omega) (by omega)
  | @dec s' g x l g1 hx op hd e =>
    have s0 := l.s0; have s1 := l.s1
    have : s ≠ s' := fun c => by subst c; obtain ⟨d, hd, _⟩ := hd; rw [hD] at hd; cases hd
    rw [e, at_cas hA (by unfold baseOf; omega) (by unfold baseOf; omega) (by omega) (by omega), if_neg (by unfold baseOf; omega)]
  | wr h n _ => exact h _ (by omega) (by omega) (by unfold baseOf; omega)
theorem Ef.opnBack (E : Ef D A B own) (hA : A.ok) (h0 : 0 ≤ s) (h1 : s < 12) (hne : s ≠ own) (h : OpW B s g) : OpW A s g := by
  unfold OpW at h ⊢
  rcases E.base hA h0 h1 hne with e | ⟨g', x, _, hx, _, e, _⟩
  · rw [← e]; exact h
  · rw [e] at h; unfold stateW at h; omega
theorem Ef.won (E : Ef D A B own) (hA : A.ok) (h0 : 0 ≤ s) (h1 : s < 12) (hne : s ≠ own) (u : ∀ g', 1 ≤ g' → OpW A s g' → g' = g) : WnW B s g ↔ WnW A s g ∨ Dcd A B s := by
  unfold WnW Dcd
  rcases E.base hA h0 h1 hne with e | ⟨g', x, g1, hx, op, e, _⟩
  · constructor
    · intro h; exact .inl (by rw [← e]; exact h)
    · rintro (h | ⟨g', _, h2, h3⟩)
      · rw [e]; exact h
      · rw [e, h2] at h3; unfold stateW at h3; omega
  · have := u g' g1 op
    subst this
    unfold OpW at op
    constructor
    · intro h; exact .inr ⟨g', g1, op, h⟩
    · rintro (h | ⟨g'', _, h2, h3⟩)
      · rw [op] at h; unfold stateW at h; omega
      · rw [op] at h2
        have : g'' = g' := by unfold stateW at h2; omega
        rw [← this]; exact h3
theorem Dcd.not (h : ∀ g, 1 ≤ g → ¬ OpW A s g) : ¬ Dcd A B s := fun ⟨g, g1, h1, _⟩ => h g g1 h1
def Rd.frs (r : Rd) : List Fr := match r.help with
  | some H => H.frs
  | none => []
theorem TF.nil : TF D G A [] := ⟨(fun f h => by cases h), trivial⟩
theorem TF.new (l : Life s g) (lv : LvW D G s g) : TF D G A [.who (.new s g)] := by
  refine ⟨fun f hf => ?_, trivial, (fun h => by cases h), trivial⟩
  rw [List.mem_singleton.1 hf]
  exact ⟨Wh.new_ok l, lv, .none (by simp [Wh.new]), fun d hd hg => trivial⟩
theorem Rd.step_w {r : Rd} (W : WA D G A) (o : r.ok) (ho : r.over = false) (T : TF D G A r.frs) :
    (r.step A).2.1 = 0 ∧ WA D G (r.step A).2.2 ∧ WRel D G A D G (r.step A).2.2 ∧ TF D G (r.step A).2.2 (r.step A).1.frs ∧ ∀ own, Ef D A (r.step A).2.2 own := by
  have c0 := o.c0; have c1 := o.c1
  unfold Rd.step
  rw [if_neg (by rw [ho]; decide)]
  cases hh : r.help with
  | some H =>
    have oh := o.help H hh
    have T : TF D G A H.frs := by unfold Rd.frs at T; rw [hh] at T; exact T
    have hw := W.help oh.2 oh.1 T
    have ef : ∀ own, Ef D A (H.step A).2.2 own := fun own => Help.step_ef W T oh.2
    simp only [Rd.helping]
    generalize H.step A = p at hw ef
    refine ⟨by rw [if_pos hw.err], hw.wa, hw.rel, ?_, ef⟩
    unfold Rd.frs
    simp only
    cases c : p.1.over with
    | true => exact TF.nil
    | false => exact hw.tf
  | none =>
    simp only [Rd.load]
    have same := ldS (i := r.cell) W c0 (by omega)
    have WB := W.same (W.ok.ld _) same
    have R := WRel.same (D := D) (G := G) W same
    have ef : ∀ own, Ef D A (A.ld r.cell) own := fun own => .ld W.ok c0 (by omega)
    cases W.cells r.cell c0 c1 with
    | val h =>
      rw [h]
      refine ⟨rfl, WB, R, ?_, ef⟩
      unfold Rd.frs; simp only [hh]; exact TF.nil
    | @mc s g ha l lv k =>
      have hr : read (A.at r.cell) = some (.mcas s g) := by rw [ha]; exact mw_read (d := ⟨g, [], True⟩) l
      have hp : plainOf (A.at r.cell) = none := by unfold plainOf; rw [hr]
      have hn : newHelp r.t r.q (A.at r.cell) = some (.new r.t r.q (.who (.new s g))) := by
        unfold newHelp; rw [hr]; simp only [Option.bind, newFr]; rw [if_pos ⟨o.t0, o.t1, o.q0, o.q1⟩]
      rw [hp]; simp only; rw [hn]
      refine ⟨rfl, WB, R, R.tf W (fs := [.who (.new s g)]) (TF.new l lv), ef⟩
    | @en s g n t q ha l hn t0 q0 lv k =>
      have hr : read (A.at r.cell) = some (.entry s g n t q) := by rw [ha]; exact read_number (ew_range (d := ⟨g, [], True⟩) l hn t0 q0)
      have hp : plainOf (A.at r.cell) = none := by unfold plainOf; rw [hr]
      have hn' : newHelp r.t r.q (A.at r.cell) = some (.new r.t r.q (.ent (.new s g n t q))) := by
        unfold newHelp; rw [hr]; simp only [Option.bind, newFr]; rw [if_pos ⟨o.t0, o.t1, o.q0, o.q1⟩]
      rw [hp]; simp only; rw [hn']
      refine ⟨rfl, WB, R, R.tf W (fs := [.ent (.new s g n t q)]) ⟨fun f hf => ?_, trivial⟩, ef⟩
      rw [List.mem_singleton.1 hf]
      have z : I64 0 := by constructor <;> decide
      refine ⟨⟨l, by show (0 : Int) ≤ n; omega, by show (n : Int) < 16; omega, t0.1, t0.2, q0.1, q0.2, Int.le_refl 0, by show (0 : Int) < 16; decide, z, by show 0 ≤ 3; decide⟩, lv, (fun h => by rcases h with h | h <;> cases h), fun d hd hg => ?_⟩
      obtain ⟨e1, b1, b2, b3⟩ := k d hd hg
      exact ⟨n, e1, rfl, b1, (fun h => by simp [En.new] at h), fun h => by simp [En.new] at h⟩
def AtW (D : Int → Option Dw) (G : Int → Int) (A : Ar) (a : At) : Prop := a.gen = G a.slot ∧ match a.st with
  | .rd r _ => D a.slot = none ∧ (∀ g, 1 ≤ g → ¬ OpW A a.slot g) ∧ TF D G A r.frs
  | .wr w => D a.slot = none ∧ ∃ (ds : List Sw) (k : Nat), swMay ds = true ∧ k < (descRow a.gen ds).length ∧ w = ⟨baseOf a.slot + k, (descRow a.gen ds).drop k⟩ ∧ (∀ j : Nat, j < k → A.at (baseOf a.slot + j) = (descRow a.gen ds).getD j 0) ∧ (k = 0 → ∀ g, 1 ≤ g → ¬ OpW A a.slot g)
  | .hp H => (∃ d, D a.slot = some d) ∧ H.bot a.slot a.gen ∧ TF D G A H.frs
def At.wd (A : Ar) (a : At) : Prop := (∃ H, a.st = .hp H) ∧ WnW A a.slot a.gen
theorem AtW.other {a : At} (R : WRel D G A D' G' B) (W : WA D G A) (E : Ef D A B own) (h0 : 0 ≤ a.slot) (h1 : a.slot < 12) (hne : a.slot ≠ own) (hD : D' a.slot = D a.slot) (hG : G' a.slot = G a.slot) (h : AtW D G A a) : AtW D' G' B a := by
  obtain ⟨e, h⟩ := h
  refine ⟨by rw [hG]; exact e, ?_⟩
  split
  · rename_i r v hs
    rw [hs] at h
    exact ⟨by rw [hD]; exact h.1, fun g g1 ho => h.2.1 g g1 (E.opnBack W.ok h0 h1 hne ho), R.tf W h.2.2⟩
  · rename_i w hs
    rw [hs] at h
    obtain ⟨hd, ds, k, m, hk, hw, h2, h3⟩ := h
    have hn := E.region W.ok h0 h1 hne hd
    have hl := sw_len m
    have hk' := hk
    rw [descRow_len] at hk'
    refine ⟨by rw [hD]; exact hd, ds, k, m, hk, hw, fun j hj => ?_, fun hk g g1 ho => h3 hk g g1 (E.opnBack W.ok h0 h1 hne ho)⟩
    rw [hn _ (by omega) (by omega)]; exact h2 j hj
  · rename_i H hs
    rw [hs] at h
    obtain ⟨⟨d, hd⟩, h2, h3⟩ := h
    exact ⟨⟨d, by rw [hD]; exact hd⟩, h2, R.tf W h3⟩
structure AtR (D : Int → Option Dw) (G : Int → Int) (A : Ar) (a : At) (D' : Int → Option Dw) (a' : At) (c : Int) (B : Ar) : Prop where
  err : c = 0
  wa : WA D' G B
  rel : WRel D G A D' G B
  ef : Ef D A B a.slot
  ne : ∀ u, u ≠ a.slot → D' u = D u
  slot : a'.slot = a.slot
  gen : a'.gen = a.gen
  on : a'.over = false → AtW D' G B a' ∧ (At.wd B a' ↔ At.wd A a ∨ Dcd A B a.slot)
  over : a'.over = true → (a'.won = true ↔ At.wd A a ∨ Dcd A B a.slot) ∧ ∀ g, 1 ≤ g → ¬ OpW B a.slot g
theorem asked_st {x : At} {m : AskM} : (x.asked m).slot = x.slot ∧ (x.asked m).gen = x.gen ∧ (x.asked m).over = x.over ∧ ((∃ c, m.need = some c ∧ (x.asked m).st = .rd (.new x.t x.q c) m.view) ∨ (m.need = none ∧ (x.asked m).st = .wr (newWr x.slot x.gen m.view.rows))) := by
  unfold At.asked
  cases h : m.need with
  | some c => exact ⟨rfl, rfl, rfl, .inl ⟨c, rfl, rfl⟩⟩
  | none => exact ⟨rfl, rfl, rfl, .inr ⟨rfl, rfl⟩⟩
theorem At.step_w {a : At} (W : WA D G A) (o : a.ok) (on : a.on) (aw : AtW D G A a) (g1 : 1 ≤ a.gen) : ∃ D', AtR D G A a D' (a.step A).1 (a.step A).2.1 (a.step A).2.2 := by
  obtain ⟨ho, hw⟩ := on
  have hl := o.life
  unfold lifeMay at hl
  simp only [decide_eq_true_eq] at hl
  have l : Life a.slot a.gen := ⟨hl.1, hl.2.1, hl.2.2.1, hl.2.2.2⟩
  obtain ⟨hg, aw⟩ := aw
  have far : a.slot ≠ -100 := by have := l.s0; omega
  unfold At.step
  rw [if_neg (by rw [ho]; decide)]
  have os := o.st
  cases hs : a.st with
  | rd r v =>
    rw [hs] at aw os
    obtain ⟨hd, hno, T⟩ := aw
    have wd0 : ¬ At.wd A a := fun h => by obtain ⟨⟨H, h⟩, _⟩ := h; rw [hs] at h; cases h
    have rs := Rd.step_w W os.1 (os.2.2 ho) T
    have rv := Rd.step_val (r := r) (A := A) (os.2.2 ho)
    simp only
    generalize r.step A = p at rs rv
    obtain ⟨e0, WB, R, T', ef⟩ := rs
    have nob : ∀ g, 1 ≤ g → ¬ OpW p.2.2 a.slot g := fun g g1 h => hno g g1 ((ef (-100)).opnBack W.ok l.s0 l.s1 far h)
    have dn : ¬ Dcd A p.2.2 a.slot := Dcd.not hno
    rw [if_neg (by rw [e0]; decide)]
    cases hov : p.1.over with
    | false =>
      simp only [Bool.false_eq_true, if_false]
      refine ⟨D, rfl, WB, R, ef _, fun _ _ => rfl, rfl, rfl, fun _ => ⟨⟨hg, hd, nob, T'⟩, ?_⟩, fun h => by simp only at h; rw [ho] at h; cases h⟩
      exact ⟨(fun h => by obtain ⟨⟨H, h⟩, _⟩ := h; cases h), fun h => by rcases h with h | h <;> contradiction⟩
    | true =>
      simp only [if_true]
      unfold At.known
      generalize hx1 : ({ a with q := p.1.q, ts := p.1.slot, tg := p.1.gen, st := .rd p.1 v } : At) = x1
      have es : x1.slot = a.slot := by rw [← hx1]
      have eg : x1.gen = a.gen := by rw [← hx1]
      have eo : x1.over = a.over := by rw [← hx1]
      have eops : x1.ops = a.ops := by rw [← hx1]
      have vok := Vw.know_ok (c := p.1.cell) os.2.1 (rv e0 hov).1
      have dok := Vw.do_ok vok o.ops
      rw [eops]
      obtain ⟨s1, s2, s3, s4⟩ := asked_st (x := x1) (m := (v.know p.1.cell p.1.value).do_ a.ops)
      generalize x1.asked ((v.know p.1.cell p.1.value).do_ a.ops) = y at s1 s2 s3 s4
      rw [es] at s1
      rw [eg] at s2
      refine ⟨D, rfl, WB, R, ef _, fun _ _ => rfl, s1, s2, fun _ => ?_, fun h => by rw [s3, eo, ho] at h; cases h⟩
      rcases s4 with ⟨c, h1, h2⟩ | ⟨h1, h2⟩
      · refine ⟨⟨by rw [s1, s2]; exact hg, ?_⟩, ?_⟩
        · rw [h2]; exact ⟨by rw [s1]; exact hd, by rw [s1]; exact nob, TF.nil⟩
        · exact ⟨(fun h => by obtain ⟨⟨H, h⟩, _⟩ := h; rw [h2] at h; cases h), fun h => by rcases h with h | h <;> contradiction⟩
      · refine ⟨⟨by rw [s1, s2]; exact hg, ?_⟩, ?_⟩
        · rw [h2]
          refine ⟨by rw [s1]; exact hd, _, 0, Vw.rows_may dok.1, by rw [descRow_len]; omega, ?_, (fun j hj => absurd hj (by omega)), fun _ => by rw [s1]; exact nob⟩
          unfold newWr
          rw [s1, s2, es, eg]
          simp
        · exact ⟨(fun h => by obtain ⟨⟨H, h⟩, _⟩ := h; rw [h2] at h; cases h), fun h => by rcases h with h | h <;> contradiction⟩
  | wr w =>
    rw [hs] at aw os
    obtain ⟨hd, ds, k, m, hk, hw', h2, h3⟩ := aw
    have wd0 : ¬ At.wd A a := fun h => by obtain ⟨⟨H, h⟩, _⟩ := h; rw [hs] at h; cases h
    have hl := sw_len m
    have hk' := hk
    rw [descRow_len] at hk'
    have s0 := l.s0; have s1 := l.s1
    have hx : (descRow a.gen ds).drop k = (descRow a.gen ds).getD k 0 :: (descRow a.gen ds).drop (k + 1) := by
      rw [List.drop_eq_getElem_cons hk, List.getD_eq_getElem?_getD, List.getElem?_eq_getElem hk]; rfl
    have hstep : w.step A = (⟨baseOf a.slot + k + 1, (descRow a.gen ds).drop (k + 1)⟩, ((descRow a.gen ds).drop (k + 1)).isEmpty, A.put (baseOf a.slot + k) ((descRow a.gen ds).getD k 0)) := by
      unfold Wr.step
      rw [hw']
      simp only
      rw [hx]
    simp only
    rw [hstep]
    simp only
    have hB : ∀ j, 0 ≤ j → j < 634 → (A.put (baseOf a.slot + k) ((descRow a.gen ds).getD k 0)).at j = if baseOf a.slot + k = j then (descRow a.gen ds).getD k 0 else A.at j := fun j j0 j1 => at_put W.ok (by unfold baseOf; omega) (by unfold baseOf; omega) j0 j1
    have okB : (A.put (baseOf a.slot + k) ((descRow a.gen ds).getD k 0)).ok := W.ok.put _ (descRow_range l.g0 l.g1 m _ (by rw [List.getD_eq_getElem?_getD, List.getElem?_eq_getElem hk]; exact List.getElem_mem _))
    have lst : (A.put (baseOf a.slot + k) ((descRow a.gen ds).getD k 0)).lst 1 = 1 := rfl
    generalize A.put (baseOf a.slot + k) ((descRow a.gen ds).getD k 0) = B at hB okB lst
    obtain ⟨WB, R⟩ := W.write (s := a.slot) (ds := ds) m (by rw [← hg]; exact l) hd (by rw [← hg]; exact hk) okB (by rw [← hg]; exact hB)
    have r0 : (descRow a.gen ds).getD 0 0 = stateW a.gen 0 := (descRow_get a.gen ds).1
    have all : ∀ j : Nat, j < k + 1 → B.at (baseOf a.slot + j) = (descRow a.gen ds).getD j 0 := fun j hj => by
      rw [hB _ (by unfold baseOf; omega) (by unfold baseOf; omega)]
      by_cases c : j = k
      · subst c; rw [if_pos rfl]
      · rw [if_neg (by omega)]; exact h2 j (by omega)
    have b0 : B.at (baseOf a.slot) = stateW a.gen 0 := by
      have := all 0 (by omega)
      rw [r0] at this
      simpa using this
    have dn : ¬ Dcd A B a.slot := fun ⟨g, _, _, h⟩ => by rw [b0] at h; unfold stateW at h; omega
    have ef : Ef D A B a.slot := .wr (fun j j0 j1 h => by rw [hB j (by omega) j1, if_neg (by unfold baseOf at h ⊢; omega)]) lst dn
    by_cases c : k + 1 = (descRow a.gen ds).length
    · have hem : ((descRow a.gen ds).drop (k + 1)).isEmpty = true := by rw [List.drop_eq_nil_of_le (by omega)]; rfl
      rw [hem]
      simp only [if_true]
      have hgd : (⟨a.gen, ds, True⟩ : Dw).g = G a.slot := hg
      have R2 := WRel.wrote (A := B) (d := ⟨a.gen, ds, True⟩) hd hgd
      have dk : DOk B a.slot ⟨a.gen, ds, True⟩ := ⟨l, m, 0, ⟨by decide, by decide⟩, Dsc.of_row fun j j0 j1 => by
        have j1 : j < (descRow a.gen ds).length := j1
        have := all j.toNat (by omega)
        rw [show ((j.toNat : Nat) : Int) = j by omega] at this
        exact this⟩
      have W2 := WB.wrote (d := ⟨a.gen, ds, True⟩) hd dk hgd g1
      have lv : LvW (setD D a.slot (some ⟨a.gen, ds, True⟩)) G a.slot a.gen := ⟨g1, by omega, fun _ => by rw [setD_at]; simp⟩
      refine ⟨setD D a.slot (some ⟨a.gen, ds, True⟩), rfl, W2, R.trans W R2, ef, fun u hu => setD_ne hu, rfl, rfl, fun _ => ⟨⟨hg, ⟨_, setD_at⟩, ⟨_, rfl, rfl, rfl⟩, TF.new l lv⟩, ?_⟩, fun h => by simp only at h; rw [ho] at h; cases h⟩
      constructor
      · rintro ⟨_, h⟩
        have h : B.at (baseOf a.slot) = stateW a.gen 1 := h
        rw [b0] at h; unfold stateW at h; omega
      · intro h; rcases h with h | h <;> contradiction
    · have hem : ((descRow a.gen ds).drop (k + 1)).isEmpty = false := by
        rw [List.isEmpty_eq_false_iff]
        intro h
        rw [List.drop_eq_nil_iff] at h
        omega
      rw [hem]
      simp only [Bool.false_eq_true, if_false]
      refine ⟨D, rfl, WB, R, ef, fun _ _ => rfl, rfl, rfl, fun _ => ⟨⟨hg, hd, ds, k + 1, m, by show k + 1 < (descRow a.gen ds).length; omega, ?_, all, fun h => by omega⟩, ?_⟩, fun h => by simp only at h; rw [ho] at h; cases h⟩
      · congr 1
        show _ = _
        simp only
        omega
      · exact ⟨(fun h => by obtain ⟨⟨H, h⟩, _⟩ := h; cases h), fun h => by rcases h with h | h <;> contradiction⟩
  | hp H =>
    rw [hs] at aw os
    obtain ⟨⟨d, hd⟩, hb, T⟩ := aw
    have hov := os.2 ho
    have hw := W.help hov os.1 T
    have ef : ∀ own, Ef D A (H.step A).2.2 own := fun own => Help.step_ef W T hov
    have hdg := (W.ds _ _ hd).2.1
    have wd : At.wd A a ↔ WnW A a.slot a.gen := ⟨fun h => h.2, fun h => ⟨⟨H, hs⟩, h⟩⟩
    have won := (ef (-100)).won (g := a.gen) W.ok l.s0 l.s1 far fun g' g1' ho' => by rw [W.so _ _ l.s0 l.s1 g1' ho', hg]
    simp only
    generalize H.step A = p at hw ef won
    rw [if_neg (by rw [hw.err]; decide)]
    have bt := hw.bot _ _ hb
    refine ⟨D, rfl, hw.wa, hw.rel, ef _, fun _ _ => rfl, rfl, rfl, fun h => ⟨⟨hg, ⟨d, hd⟩, bt.1 h, hw.tf⟩, ?_⟩, fun h => ?_⟩
    · rw [wd, ← won]
      exact ⟨fun h => h.2, fun h => ⟨⟨_, rfl⟩, h⟩⟩
    · simp only at h
      obtain ⟨b1, b2⟩ := bt.2 h d hd (by omega)
      rw [show d.g = a.gen by omega] at b1 b2
      refine ⟨?_, fun g' g1' ho' => ?_⟩
      · rw [wd, ← won]
        simp only
        rw [h, Bool.true_and]
        exact b2
      · have := hw.wa.so _ _ l.s0 l.s1 g1' ho'
        exact b1 (by rw [hg, ← this]; exact ho')
end
def lf (L : List Int) : Int → Int := fun u => if 0 ≤ u then L.getD u.toNat 0 else 0
theorem lf_at {L : List Int} {s : Int} (h : 0 ≤ s) : lf L s = L.getD s.toNat 0 := if_pos h
theorem lf_lived {L : List Int} {s : Int} (hL : L.length = 12) (h0 : 0 ≤ s) (h1 : s < 12) : lf (lived s L) = incG (lf L) s := by
  funext u
  simp only [lf, incG, lived]
  by_cases c : u = s
  · subst c
    rw [if_pos h0, if_pos rfl, if_pos h0]
    rw [List.getD_eq_getElem?_getD, List.getElem?_set_self (by omega)]
    rfl
  · rw [if_neg c]
    by_cases c0 : 0 ≤ u
    · rw [if_pos c0, if_pos c0, List.getD_eq_getElem?_getD, List.getElem?_set_ne (by omega), ← List.getD_eq_getElem?_getD]
    · rw [if_neg c0, if_neg c0]
structure EpI (A : Ar) (k : Int) : Prop where
  e : ∃ e, A.at 29 = e * 4 ∧ 0 ≤ e ∧ e ≤ k
  t : ∀ t, 0 ≤ t → t < 4 → (plainOf (A.at (30 + t))).isSome = true
theorem EpI.is {A : Ar} {k : Int} (E : EpI A k) (hk : k < 1000000) : epIs (A.at 29) = true := by
  obtain ⟨e, h1, h2, h3⟩ := E.e
  unfold epIs
  rw [h1, plainOf_val h2 (by omega), valOf_val h2 (by omega), decide_eq_true (by omega)]
  rfl
theorem EpI.keep {A B : Ar} {k k' : Int} (E : EpI A k) (hk : k ≤ k') (h : ∀ j, 29 ≤ j → j < 34 → B.at j = A.at j) : EpI B k' := by
  obtain ⟨e, h1, h2, h3⟩ := E.e
  exact ⟨⟨e, by rw [h 29 (by decide) (by decide)]; exact h1, h2, by omega⟩, fun t t0 t1 => by rw [h _ (by omega) (by omega)]; exact E.t t t0 t1⟩
theorem Acc.at_same {P : Int → Prop} {A B : Ar} (a : Acc P A B) (hA : A.ok) {j : Int} (h0 : 0 ≤ j) (h1 : j < 634) (h : ∀ i, P i → i ≠ j) : B.at j = A.at j := by
  cases a with
  | none => rfl
  | ld i i0 i1 => exact at_ld hA i0 i1 h0 h1
  | put i x i0 i1 p hx => rw [at_put hA i0 i1 h0 h1, if_neg (h i p)]
  | cas i o x i0 i1 p hx hd => rw [at_cas hA i0 i1 h0 h1, if_neg (h i p)]
def Th.decs (x : Th) : List Int := x.evs.map Event.decided
def Th.dcd (x : Th) : Prop := ∃ v, x.decs.getLast? = some v ∧ 0 ≤ v
structure ThW (D : Int → Option Dw) (G : Int → Int) (A : Ar) (x : Th) (p : Prop) : Prop where
  live : x.dead = false
  tri : x.next = some .tri → ∃ a, x.att = some a ∧ a.slot = x.slot ∧ 1 ≤ a.gen ∧ AtW D G A a ∧ (p ↔ a.wd A)
  ret : x.next = some .ret → ∃ a, x.att = some a ∧ (p ↔ a.won = true)
  lea : x.next = some .lea ∨ x.next = some .adv → (p ↔ x.end_ = 0)
  bus : x.next = some .ent ∨ x.next = some .fre ∨ x.next = some .tak → ¬ p
  e2 : x.next = some .ent ∨ x.next = some .fre ∨ x.next = some .tak ∨ x.next = some .tri ∨ x.next = some .ret → x.end_ ≠ 0
  non : x.next = none → x.tries ≠ 0 → ¬ p
structure ThR (D : Int → Option Dw) (A : Ar) (L : List Int) (x : Th) (hs : Int → Prop) (k : Int) (D' : Int → Option Dw) (y : Th) (c : Int) (B : Ar) (L' : List Int) (own : Int) : Prop where
  err : c = 0
  wa : WA D' (lf L') B
  rel : WRel D (lf L) A D' (lf L') B
  ef : Ef D A B own
  ow : own = -1 ∨ own = x.slot ∨ hs own
  ne : ∀ u, 0 ≤ u → u < 12 → u ≠ own → D' u = D u ∧ lf L' u = lf L u
  th : ThW D' (lf L') B y (y.dcd ∨ (0 ≤ x.slot ∧ Dcd A B x.slot))
  evs : y.decs = x.decs
  slot : x.next = some .tri → y.slot = x.slot
  op : ∀ s g, 0 ≤ s → s < 12 → 1 ≤ g → OpW B s g → (y.slot = s ∧ y.next = some .tri) ∨ (OpW A s g ∧ (x.next = some .tri → s ≠ x.slot))
  ep : EpI B (k + 1)
section
variable {D D' : Int → Option Dw} {A B : Ar} {L L' : List Int} {x y : Th} {hs : Int → Prop} {k pick c own s : Int} {fr : List Int} {p q : Prop}
theorem Th.dcd_congr (h : y.decs = x.decs) : y.dcd ↔ x.dcd := by unfold Th.dcd; rw [h]
theorem ThW.congr {G : Int → Int} (h : p ↔ q) (T : ThW D G A x p) : ThW D G A x q := by rw [← propext h]; exact T
theorem Dcd.same (h0 : 0 ≤ s) (h1 : s < 12) (h : ∀ j, 34 ≤ j → j < 634 → B.at j = A.at j) : ¬ Dcd A B s := fun ⟨g, _, h2, h3⟩ => by
  rw [h _ (by unfold baseOf; omega) (by unfold baseOf; omega), h2] at h3
  unfold stateW at h3; omega
theorem ThR.mid (W : WA D (lf L) A) (ox : x.ok) (okB : B.ok) (h : ∀ j, 0 ≤ j → j < 634 → j < 16 ∨ 34 ≤ j → B.at j = A.at j) (ef : Ef D A B (-1)) (ep : EpI B (k + 1)) (hc : c = 0) (hy : y.decs = x.decs) (hx : x.next ≠ some .tri) (hn : y.next ≠ some .tri)
    (T : ThW D (lf L) A y x.dcd) : ThR D A L x hs k D y c B L (-1) := by
  have s1 := ox.s1
  have hp : (y.dcd ∨ (0 ≤ x.slot ∧ Dcd A B x.slot)) ↔ x.dcd := by
    rw [Th.dcd_congr hy]
    constructor
    · rintro (h' | ⟨h0, h'⟩)
      · exact h'
      · exact absurd h' (Dcd.same h0 s1 fun j j0 j1 => h j (by omega) j1 (by omega))
    · exact .inl
  refine ⟨hc, W.mid okB h, .mid W h, ef, .inl rfl, fun _ _ _ _ => ⟨rfl, rfl⟩, ThW.congr hp.symm ?_, hy, fun h => absurd h hx, fun s g h0 h1 _ ho => .inr ⟨?_, fun h => absurd h hx⟩, ep⟩
  · exact ⟨T.live, fun h => absurd h hn, T.ret, T.lea, T.bus, T.e2, T.non⟩
  · unfold OpW at ho ⊢; rw [← h _ (by unfold baseOf; omega) (by unfold baseOf; omega) (by unfold baseOf; omega)]; exact ho
theorem ThR.tris {G : Int → Int} (W : WA D G A) (hw : x.wrs) (ox : ∀ a, x.att = some a → a.ok) (on : ∀ a, x.att = some a → a.on) (hx : x.next = some .tri) (T : ThW D G A x x.dcd) :
    ∃ D', (x.tris A).2.1 = 0 ∧ WA D' G (x.tris A).2.2 ∧ WRel D G A D' G (x.tris A).2.2 ∧ Ef D A (x.tris A).2.2 x.slot ∧ (∀ u, u ≠ x.slot → D' u = D u) ∧ (0 ≤ x.slot ∧ x.slot < 12) ∧
      ThW D' G (x.tris A).2.2 (x.tris A).1 (x.dcd ∨ Dcd A (x.tris A).2.2 x.slot) ∧ (x.tris A).1.evs = x.evs ∧ (x.tris A).1.slot = x.slot ∧
      ((x.tris A).1.next = some .tri ∨ ∀ g, 1 ≤ g → ¬ OpW (x.tris A).2.2 x.slot g) ∧ (∀ j, 16 ≤ j → j < 34 → (x.tris A).2.2.at j = A.at j) := by
  obtain ⟨a, ha, hsl, g1, aw, hp⟩ := T.tri hx
  have oa := ox a ha
  have hl := oa.life
  unfold lifeMay at hl
  simp only [decide_eq_true_eq] at hl
  obtain ⟨D', R⟩ := At.step_w W oa (on a ha) aw g1
  have ac := At.step_acc oa W.ok (hw a ha)
  unfold Th.tris
  rw [ha]
  simp only
  generalize a.step A = r at R ac
  have e2 := T.e2 (by rw [hx]; simp)
  rw [← hsl]
  refine ⟨D', R.err, R.wa, R.rel, R.ef, R.ne, ⟨hl.1, hl.2.1⟩, ?_, trivial, trivial, ?_, fun j j0 j1 => ac.at_same W.ok (by omega) (by omega) fun i p => by unfold inAtt at p; omega⟩
  · cases hov : r.1.over with
    | false =>
      obtain ⟨h1, h2⟩ := R.on hov
      simp only [Bool.false_eq_true, if_false]
      refine ⟨T.live, fun _ => ⟨_, rfl, R.slot, by rw [R.gen]; exact g1, h1, ?_⟩, (fun h => by simp only at h; rw [hx] at h; cases h), (fun h => by simp only at h; rw [hx] at h; rcases h with h | h <;> cases h), (fun h => by simp only at h; rw [hx] at h; rcases h with h | h | h <;> cases h), fun _ => e2, (fun h => by simp only at h; rw [hx] at h; cases h)⟩
      exact (or_congr_left hp).trans h2.symm
    | true =>
      obtain ⟨h1, h2⟩ := R.over hov
      simp only [if_true]
      refine ⟨T.live, (fun h => by cases h), fun _ => ⟨_, rfl, ?_⟩, (fun h => by rcases h with h | h <;> cases h), (fun h => by rcases h with h | h | h <;> cases h), fun _ => e2, (fun h => by cases h)⟩
      exact (or_congr_left hp).trans h1.symm
  · cases hov : r.1.over with
    | false => exact .inl (by simp only [Bool.false_eq_true, if_false]; exact hx)
    | true => exact .inr (R.over hov).2
theorem evTurn_decs {es : List Event} {f : Event → Event} (h : ∀ e, (f e).decided = e.decided) : (evTurn es f).map Event.decided = es.map Event.decided := by
  unfold evTurn
  cases hl : es.getLast? with
  | none => rfl
  | some e =>
    simp only
    obtain ⟨ys, hy⟩ := List.getLast?_eq_some_iff.1 hl
    subst hy
    simp [h]
theorem Th.answer_decs : (x.answer pick).decs = x.decs := by
  unfold Th.answer Th.decs
  split <;> exact evTurn_decs fun e => rfl
theorem Th.cached_decs : x.cached.decs = x.decs := by unfold Th.cached; split <;> rfl
theorem Ent.step_ef {n : Ent} (hA : A.ok) (o : n.ok) (h : n.over = false) : Ef D A (n.step A).2.2 own := by
  have := o.t0; have := o.t1; have := o.e0; have := o.e1
  unfold Ent.step
  rw [if_neg (by rw [h]; decide)]
  split
  · exact .put hA (by omega) (by omega)
  · split <;> exact .ld hA (by omega) (by omega)
theorem Adv.step_ef {d : Adv} (hA : A.ok) (o : d.ok) (h : d.over = false) : Ef D A (d.step A).2.2 own := by
  have := o.a1; have := o.n1; have := o.e0; have := o.e1
  unfold Adv.step
  rw [if_neg (by rw [h]; decide)]
  split
  · split <;> exact .ld hA (by omega) (by omega)
  · split
    · split <;> exact .ld hA (by omega) (by omega)
    · exact .cell hA (by omega) (by omega)
theorem Pop.step_ef {p : Pop} (hA : A.ok) (o : p.ok) (hov : p.l.over = false) : Ef D A (p.step A).2.2 own := by
  have ol := o.l
  unfold Pop.step
  rw [if_neg (by rw [hov]; decide)]
  split
  · split <;> exact .ld hA (by omega) (by omega)
  · have f := o.f hov (by assumption)
    split
    · split <;> exact .ld hA (by omega) (by omega)
    · split <;> exact .cell hA (by omega) (by omega)
theorem Push.step_ef {p : Push} (hA : A.ok) (o : p.ok) (hov : p.l.over = false) : Ef D A (p.step A).2.2 own := by
  have ol := o.l
  have s0 := o.s0; have s1 := o.s1; have f0 := ol.f0; have f1 := ol.f1
  unfold Push.step
  rw [if_neg (by rw [hov]; decide)]
  split
  · split <;> exact .ld hA (by omega) (by omega)
  · split
    · exact .put hA (by omega) (by omega)
    · exact .cell hA (by omega) (by omega)
theorem Ent.step_ep {n : Ent} (hA : A.ok) (o : n.ok) (h : n.over = false) (E : EpI A k) (hk : k < 1000000) : (n.step A).2.1 = 0 ∧ EpI (n.step A).2.2 (k + 1) := by
  have := o.t0; have := o.t1; have := o.e0; have := o.e1
  unfold Ent.step
  rw [if_neg (by rw [h]; decide)]
  split
  · refine ⟨rfl, ?_⟩
    obtain ⟨e, h1, h2, h3⟩ := E.e
    have at_ : ∀ j, 29 ≤ j → j < 34 → (A.put (30 + n.t) ((n.e + 1) * 4)).at j = if 30 + n.t = j then (n.e + 1) * 4 else A.at j := fun j j0 j1 => at_put hA (by omega) (by omega) (by omega) (by omega)
    refine ⟨⟨e, by show (A.put (30 + n.t) ((n.e + 1) * 4)).at 29 = _; rw [at_ 29 (by decide) (by decide), if_neg (by omega)]; exact h1, h2, by omega⟩, fun t t0 t1 => ?_⟩
    show (plainOf ((A.put (30 + n.t) ((n.e + 1) * 4)).at (30 + t))).isSome = true
    rw [at_ _ (by omega) (by omega)]
    split
    · rw [plainOf_val (by omega) (by omega)]; rfl
    · exact E.t t t0 t1
  · rw [if_pos (E.is hk)]
    exact ⟨rfl, E.keep (by omega) fun j j0 j1 => at_ld hA (by omega) (by omega) (by omega) (by omega)⟩
theorem Adv.step_ep {d : Adv} (hA : A.ok) (o : d.ok) (h : d.over = false) (E : EpI A k) (hk : k < 1000000) : (d.step A).2.1 = 0 ∧ EpI (d.step A).2.2 (k + 1) := by
  have := o.a0; have := o.a1; have := o.n1; have e0 := o.e0; have := o.e1
  unfold Adv.step
  rw [if_neg (by rw [h]; decide)]
  split
  · rw [if_pos (E.is hk)]
    exact ⟨rfl, E.keep (by omega) fun j j0 j1 => at_ld hA (by omega) (by omega) (by omega) (by omega)⟩
  · split
    · rw [if_pos (E.t _ (by omega) (by omega))]
      exact ⟨rfl, E.keep (by omega) fun j j0 j1 => at_ld hA (by omega) (by omega) (by omega) (by omega)⟩
    · refine ⟨rfl, ?_⟩
      obtain ⟨e, h1, h2, h3⟩ := E.e
      have at_ : ∀ j, 29 ≤ j → j < 34 → (A.cas 29 (d.e * 4) ((d.e + 1) * 4)).at j = if 29 = j then (if A.at 29 = d.e * 4 then (d.e + 1) * 4 else A.at 29) else A.at j := fun j j0 j1 => at_cas hA (by omega) (by omega) (by omega) (by omega)
      refine ⟨?_, fun t t0 t1 => ?_⟩
      · show ∃ e, (A.cas 29 (d.e * 4) ((d.e + 1) * 4)).at 29 = e * 4 ∧ 0 ≤ e ∧ e ≤ k + 1
        rw [at_ 29 (by decide) (by decide), if_pos rfl]
        split
        · exact ⟨d.e + 1, rfl, by omega, by omega⟩
        · exact ⟨e, h1, h2, by omega⟩
      · show (plainOf ((A.cas 29 (d.e * 4) ((d.e + 1) * 4)).at (30 + t))).isSome = true
        rw [at_ _ (by omega) (by omega), if_neg (by omega)]
        exact E.t t t0 t1
end
section
variable {D D' : Int → Option Dw} {A B : Ar} {L L' : List Int} {x y : Th} {hs : Int → Prop} {k pick c own s cc : Int} {fr : List Int} {p q : Prop} {G : Int → Int}
theorem ThW.busy (T : ThW D G A x p) (hx : x.next = some .ent ∨ x.next = some .fre ∨ x.next = some .tak) (hy : y.next = some .ent ∨ y.next = some .fre ∨ y.next = some .tak) (hd : y.dead = x.dead) (he : y.end_ = x.end_) : ThW D G A y p := by
  have ne : ∀ {a : Act}, y.next = some a → a = .ent ∨ a = .fre ∨ a = .tak := fun h => by rcases hy with q | q | q <;> (rw [q] at h; cases h; simp)
  refine ⟨by rw [hd]; exact T.live, (fun h => by rcases ne h with q | q | q <;> cases q), (fun h => by rcases ne h with q | q | q <;> cases q), (fun h => by rcases h with h | h <;> rcases ne h with q | q | q <;> cases q), fun _ => T.bus hx, fun _ => by rw [he]; exact T.e2 (by rcases hx with h | h | h <;> simp [h]), fun h => by rcases hy with q | q | q <;> (rw [q] at h; cases h)⟩
theorem ThW.after (T : ThW D G A x p) (hx : x.next = some .lea ∨ x.next = some .adv) (hy : y.next = some .lea ∨ y.next = some .adv) (hd : y.dead = x.dead) (he : y.end_ = x.end_) : ThW D G A y p := by
  have ne : ∀ {a : Act}, y.next = some a → a = .lea ∨ a = .adv := fun h => by rcases hy with q | q <;> (rw [q] at h; cases h; simp)
  refine ⟨by rw [hd]; exact T.live, (fun h => by rcases ne h with q | q <;> cases q), (fun h => by rcases ne h with q | q <;> cases q), fun _ => by rw [he]; exact T.lea hx, (fun h => by rcases h with h | h | h <;> rcases ne h with q | q <;> cases q), (fun h => by rcases h with h | h | h | h | h <;> rcases ne h with q | q <;> cases q), fun h => by rcases hy with q | q <;> (rw [q] at h; cases h)⟩
theorem Acc.mid {P : Int → Prop} (a : Acc P A B) (hA : A.ok) (h : ∀ i, P i → 16 ≤ i ∧ i < 34) : ∀ j, 0 ≤ j → j < 634 → j < 16 ∨ 34 ≤ j → B.at j = A.at j := fun j j0 j1 c => a.at_same hA j0 j1 fun i p => by have := h i p; omega
theorem Th.ents_w (W : WA D (lf L) A) (ox : x.ok) (on : x.on) (hn : x.next = some .ent) (E : EpI A k) (hk : k < 1000000) (T : ThW D (lf L) A x x.dcd) : ThR D A L x hs k D (x.ents A).1 (x.ents A).2.1 (x.ents A).2.2 L (-1) := by
  obtain ⟨n, e, ho⟩ := on.ent hn
  have on_ := ox.ent n e
  have mid := (Ent.step_acc (A := A) on_).mid W.ok fun i p => by omega
  have ef := Ent.step_ef (D := D) (own := -1) W.ok on_ ho
  have ep := Ent.step_ep W.ok on_ ho E hk
  have sk := (Ent.step_ok on_ W.ok).2
  unfold Th.ents
  rw [e]
  simp only
  generalize n.step A = r at mid ef ep sk
  split
  · exact ThR.mid W ox sk mid ef ep.2 rfl rfl (by rw [hn]; simp) (by simp) (T.busy (.inl hn) (.inr (.inl rfl)) rfl rfl)
  · exact ThR.mid W ox sk mid ef ep.2 ep.1 rfl (by rw [hn]; simp) (by simp only; rw [hn]; simp) (T.busy (.inl hn) (.inl hn) rfl rfl)
theorem Th.leas_w (W : WA D (lf L) A) (ox : x.ok) (hn : x.next = some .lea) (E : EpI A k) (T : ThW D (lf L) A x x.dcd) : ThR D A L x hs k D (x.leas A).1 (x.leas A).2.1 (x.leas A).2.2 L (-1) := by
  have i0 := ox.i0; have i1 := ox.i1; have n1 := ox.n1
  have at_ : ∀ j, 0 ≤ j → j < 634 → (A.put (30 + x.id) 0).at j = if 30 + x.id = j then 0 else A.at j := fun j j0 j1 => at_put W.ok (by omega) (by omega) j0 j1
  refine ThR.mid W ox (W.ok.put _ zero64) (fun j j0 j1 c => by show (A.put (30 + x.id) 0).at j = _; rw [at_ j j0 j1, if_neg (by omega)]) (.put W.ok (by omega) (by omega)) ?_ rfl rfl (by rw [hn]; simp) (by simp [Th.leas]) (T.after (.inl hn) (.inr rfl) rfl rfl)
  obtain ⟨e, h1, h2, h3⟩ := E.e
  refine ⟨⟨e, by show (A.put (30 + x.id) 0).at 29 = _; rw [at_ 29 (by decide) (by decide), if_neg (by omega)]; exact h1, h2, by omega⟩, fun t t0 t1 => ?_⟩
  show (plainOf ((A.put (30 + x.id) 0).at (30 + t))).isSome = true
  rw [at_ _ (by omega) (by omega)]
  split
  · decide
  · exact E.t t t0 t1
theorem Th.rets_w (W : WA D (lf L) A) (ox : x.ok) (hn : x.next = some .ret) (E : EpI A k) (hk : k < 1000000) (T : ThW D (lf L) A x x.dcd) : ThR D A L x hs k D (x.rets A).1 (x.rets A).2.1 (x.rets A).2.2 L (-1) := by
  unfold Th.rets
  rw [if_pos (E.is hk)]
  obtain ⟨a, ha, hp⟩ := T.ret hn
  have e2 := T.e2 (by rw [hn]; simp)
  refine ThR.mid W ox (W.ok.ld _) (fun j j0 j1 _ => at_ld W.ok (by decide) (by decide) j0 j1) (.ld W.ok (by decide) (by decide)) (E.keep (by omega) fun j j0 j1 => at_ld W.ok (by decide) (by decide) (by omega) (by omega)) rfl rfl (by rw [hn]; simp) (by simp) ?_
  refine ⟨T.live, (fun h => by cases h), (fun h => by cases h), fun _ => ?_, (fun h => by rcases h with h | h | h <;> cases h), (fun h => by rcases h with h | h | h | h | h <;> cases h), (fun h => by cases h)⟩
  rw [hp]
  show a.won = true ↔ (if (x.att.map At.won).getD false = true then 0 else x.end_) = 0
  rw [ha]
  show a.won = true ↔ (if a.won = true then 0 else x.end_) = 0
  by_cases c : a.won = true
  · rw [if_pos c]; exact ⟨fun _ => rfl, fun _ => c⟩
  · rw [if_neg c]; exact ⟨fun h => absurd h c, fun h => absurd h e2⟩
theorem Th.advs_w (W : WA D (lf L) A) (ox : x.ok) (on : x.on) (hn : x.next = some .adv) (E : EpI A k) (hk : k < 1000000) (T : ThW D (lf L) A x x.dcd) : ThR D A L x hs k D (x.advs A pick).1 (x.advs A pick).2.1 (x.advs A pick).2.2 L (-1) := by
  obtain ⟨d, e, ho⟩ := on.adv hn
  have od := ox.adv d e
  have mid := (Adv.step_acc (A := A) od).mid W.ok fun i p => by omega
  have ef := Adv.step_ef (D := D) (own := -1) W.ok od ho
  have ep := Adv.step_ep W.ok od ho E hk
  have sk := (Adv.step_ok od W.ok).2
  unfold Th.advs
  rw [e]
  simp only
  generalize d.step A = r at mid ef ep sk
  have hl := T.lea (.inr hn)
  split
  · have nn : (({ x with adv := some r.1 } : Th).answer pick).next = none := by unfold Th.answer; split <;> rfl
    refine ThR.mid W ox sk mid ef ep.2 rfl (by rw [Th.answer_decs]; rfl) (by rw [hn]; simp) (by rw [nn]; simp) ?_
    refine ⟨?_, (fun h => by rw [nn] at h; cases h), (fun h => by rw [nn] at h; cases h), (fun h => by rw [nn] at h; rcases h with h | h <;> cases h), (fun h => by rw [nn] at h; rcases h with h | h | h <;> cases h), (fun h => by rw [nn] at h; rcases h with h | h | h | h | h <;> cases h), fun _ ht => ?_⟩
    · have : (({ x with adv := some r.1 } : Th).answer pick).dead = x.dead := by unfold Th.answer; split <;> rfl
      rw [this]; exact T.live
    · rw [hl]
      intro h0
      unfold Th.answer at ht
      split at ht
      · rename_i c
        have : x.end_ = 2 := c.1
        omega
      · exact ht rfl
  · exact ThR.mid W ox sk mid ef ep.2 ep.1 rfl (by rw [hn]; simp) (by simp only; rw [hn]; simp) (T.after (.inr hn) (.inr hn) rfl rfl)
theorem Th.tri_w (W : WA D (lf L) A) (hw : x.wrs) (ox : x.ok) (on : x.on) (hn : x.next = some .tri) (E : EpI A k) (T : ThW D (lf L) A x x.dcd) : ∃ D', ThR D A L x hs k D' (x.tris A).1 (x.tris A).2.1 (x.tris A).2.2 L x.slot := by
  obtain ⟨a, ha, ho⟩ := on.tri hn
  obtain ⟨D', h1, h2, h3, h4, h5, h6, h7, h8, h9, h10, h11⟩ := ThR.tris W hw (fun a h => (ox.att a h).1) (fun b hb => by rw [ha] at hb; cases hb; exact ho) hn T
  have hd : (x.tris A).1.dcd ↔ x.dcd := Th.dcd_congr (by unfold Th.decs; rw [h8])
  refine ⟨D', h1, h2, h3, h4, .inr (.inl rfl), fun u _ _ hu => ⟨h5 u hu, rfl⟩, h7.congr ?_, by unfold Th.decs; rw [h8], fun _ => h9, fun s g s0 s1 g1 ho' => ?_, E.keep (by omega) fun j j0 j1 => h11 j (by omega) j1⟩
  · rw [hd]
    exact ⟨fun h => h.imp_right fun h => ⟨h6.1, h⟩, fun h => h.imp_right fun h => h.2⟩
  · by_cases c : s = x.slot
    · subst c
      rcases h10 with h | h
      · exact .inl ⟨h9, h⟩
      · exact absurd ho' (h g g1)
    · exact .inr ⟨h4.opnBack W.ok s0 s1 c ho', fun _ => c⟩
theorem ThW.with (T : ThW D G A x p) (hx : x.next = some .fre ∨ x.next = some .tak) (hd : y.dead = x.dead) (he : y.end_ = x.end_) (hL : L.length = 12) (hL2 : ∀ v ∈ L, 0 ≤ v) (s0 : 0 ≤ s) (s1 : s < 12) (m : At.may y.id y.seq s (L.getD s.toNat 0 + 1) y.ops)
    (no : ∀ g, 1 ≤ g → ¬ OpW B s g) : ThW (setD D s none) (lf (lived s L)) B (y.with_ s L) p := by
  have np := T.bus (.inr hx)
  have e2 := T.e2 (by rcases hx with h | h <;> simp [h])
  refine ⟨by show y.dead = false; rw [hd]; exact T.live, fun _ => ⟨.new y.id y.seq s (L.getD s.toNat 0 + 1) y.ops, ?_, rfl, ?_, ⟨?_, setD_at, no, TF.nil⟩, (fun h => absurd h np), fun h => by obtain ⟨⟨H, h⟩, _⟩ := h; cases h⟩, (fun h => by cases h), (fun h => by rcases h with h | h <;> cases h), (fun h => by rcases h with h | h | h <;> cases h), fun _ => by show y.end_ ≠ 0; rw [he]; exact e2, (fun h => by cases h)⟩
  · unfold Th.with_; simp only; rw [if_pos m]
  · show 1 ≤ L.getD s.toNat 0 + 1
    rw [List.getD_eq_getElem?_getD]
    cases e : L[s.toNat]? with
    | none => decide
    | some v => have := hL2 v (List.mem_of_getElem? e); simp only [Option.getD_some]; omega
  · show L.getD s.toNat 0 + 1 = lf (lived s L) s
    rw [lf_lived hL s0 s1, incG_at, lf_at s0]
theorem Ef.mono (h : ∀ s d, D' s = some d → D s = some d) (E : Ef D' A B own) : Ef D A B own := by
  cases E with
  | quiet h n => exact .quiet h n
  | dec l g1 hx op hd e => obtain ⟨d, h1, h2⟩ := hd; exact .dec l g1 hx op ⟨d, h _ _ h1, h2⟩ e
  | wr h n d => exact .wr h n d
theorem Th.taks_w (W : WA D (lf L) A) (hw : x.wrs) (ox : x.ok) (on : x.on) (hn : x.next = some .tak ∨ x.next = some .fre) (F : Fre A fr cc) (hc : cc < 90000) (w : x.own A cc) (E : EpI A k) (hL : L.length = 12) (hL2 : ∀ v ∈ L, 0 ≤ v) (m : Mays x L)
    (h1 : ∀ s ∈ x.cache, hs s) (h2 : ∀ s ∈ fr, hs s) (hno : ∀ s, hs s → ∀ g, 1 ≤ g → ¬ OpW A s g) (T : ThW D (lf L) A x x.dcd) :
    ∃ D' own, ThR D A L x hs k D' (x.taks A L).1.1 (x.taks A L).1.2.1 (x.taks A L).1.2.2 (x.taks A L).2 own := by
  have h3 : x.slot = -1 := by
    by_cases e : x.slot = -1
    · exact e
    · rcases w.sl e with h | h <;> rcases hn with q | q <;> (rw [q] at h; cases h)
  have nt : x.next ≠ some .tri := by rcases hn with q | q <;> (rw [q]; simp)
  have hx' : x.next = some .fre ∨ x.next = some .tak := hn.symm
  have hx3 : x.next = some .ent ∨ x.next = some .fre ∨ x.next = some .tak := .inr hx'
  have np := T.bus hx3
  have main : ∀ p : Option Pop, x.pop = p →
      let q := (p.getD .new).step A
      let r : (Th × Int × Ar) × List Int := if q.1.l.over = false ∨ q.2.1 ≠ 0 then (({ x with pop := some q.1, next := some .tak }, q.2.1, q.2.2), L) else
        if q.1.slot = -1 then (({ x with pop := none, end_ := 1, next := some .lea }, 0, q.2.2), L) else
        ((({ x with pop := none } : Th).with_ q.1.slot L, 0, q.2.2), lived q.1.slot L)
      ∃ D' own, ThR D A L x hs k D' r.1.1 r.1.2.1 r.1.2.2 r.2 own := by
    intro p hp
    have po : (p.getD .new).ok ∧ (p.getD .new).own A cc ∧ (p.getD .new).l.over = false := by
      cases p with
      | none => exact ⟨Pop.new_ok, Pop.new_own, rfl⟩
      | some p => exact ⟨ox.pop p hp, w.pop p hp, on.pop p hp⟩
    obtain ⟨s0, s1⟩ := Pop.step_own po.1 po.2.1 W.ok F hc
    have acc := Pop.step_acc (A := A) po.1
    have mid := acc.mid W.ok fun i p => by omega
    have ef : ∀ own, Ef D A ((p.getD .new).step A).2.2 own := fun own => Pop.step_ef W.ok po.1 po.2.2
    have sk := (Pop.step_ok po.1 W.ok).2
    have ep : EpI ((p.getD .new).step A).2.2 (k + 1) := E.keep (by omega) fun j j0 j1 => acc.at_same W.ok (by omega) (by omega) fun i p => by omega
    generalize (p.getD .new).step A = q at s0 s1 mid ef sk ep
    simp only
    rcases s1 with ⟨s1, _, _⟩ | ⟨s1, s2, _⟩ | ⟨s1, s, fr', e1, e2, e3, _, _⟩
    · rw [if_pos (.inl s1)]
      exact ⟨D, -1, ThR.mid W ox sk mid (ef _) ep s0 rfl nt (by simp) (T.busy hx3 (.inr (.inr rfl)) rfl rfl)⟩
    · rw [if_neg (by rw [s1, s0]; simp), if_pos s2]
      refine ⟨D, -1, ThR.mid W ox sk mid (ef _) ep rfl rfl nt (by simp) ⟨T.live, (fun h => by cases h), (fun h => by cases h), fun _ => ⟨fun h => absurd h np, fun h => by cases h⟩, (fun h => by rcases h with h | h | h <;> cases h), (fun h => by rcases h with h | h | h | h | h <;> cases h), (fun h => by cases h)⟩⟩
    · rw [if_neg (by rw [s1, s0]; simp), if_neg (by omega), e2]
      subst e1
      have hss := h2 s (by simp)
      have opA : ∀ u g, 0 ≤ u → u < 12 → OpW q.2.2 u g → OpW A u g := fun u g u0 u1 ho => by
        unfold OpW at ho ⊢; rw [← mid _ (by unfold baseOf; omega) (by unfold baseOf; omega) (by unfold baseOf; omega)]; exact ho
      have no : ∀ g, 1 ≤ g → ¬ OpW q.2.2 s g := fun g g1 ho => hno s hss g g1 (opA s g e3.1 e3.2 ho)
      have WB := W.mid sk mid
      have R1 := WRel.mid W mid
      have lv := lf_lived (s := s) hL e3.1 e3.2
      refine ⟨setD D s none, s, rfl, by rw [lv]; exact WB.take no, by rw [lv]; exact R1.trans W .take, ef _, .inr (.inr hss), fun u u0 u1 hu => ⟨setD_ne hu, by rw [lv]; exact incG_ne hu⟩, ?_, rfl, fun h => absurd h nt, fun u g u0 u1 _ ho => .inr ⟨opA u g u0 u1 ho, fun h => absurd h nt⟩, ep⟩
      refine ThW.congr ?_ (T.with (y := { x with pop := none }) hx' rfl rfl hL hL2 e3.1 e3.2 (m s e3.1 e3.2) no)
      have dc : (({ x with pop := none } : Th).with_ s L).dcd ↔ x.dcd := Th.dcd_congr rfl
      exact ⟨fun h => .inl (dc.2 h), fun h => h.elim dc.1 fun h => absurd h.1 (by rw [h3]; decide)⟩
  unfold Th.taks
  cases hp : x.pop with
  | some p => exact main _ hp
  | none =>
    cases hl : x.cache.getLast? with
    | none => exact main _ hp
    | some s =>
      have hm := ox.ca s (List.mem_of_getLast? hl)
      have hss := h1 s (List.mem_of_getLast? hl)
      have no := hno s hss
      have lv := lf_lived (s := s) hL hm.1 hm.2
      have ms := m s hm.1 hm.2
      have W1 : WA (setD D s none) (lf (lived s L)) A := by rw [lv]; exact W.take no
      have T1 := T.with (y := { x with cache := x.cache.dropLast, pop := none }) (B := A) hx' rfl rfl hL hL2 hm.1 hm.2 ms no
      have dc : (({ x with cache := x.cache.dropLast, pop := none } : Th).with_ s L).dcd ↔ x.dcd := Th.dcd_congr rfl
      have at_ : (({ x with cache := x.cache.dropLast, pop := none } : Th).with_ s L).att = some (.new x.id x.seq s (L.getD s.toNat 0 + 1) x.ops) := by
        unfold Th.with_; simp only; exact if_pos ms
      simp only
      generalize hy : ({ x with cache := x.cache.dropLast, pop := none } : Th).with_ s L = y at T1 dc at_
      have ysl : y.slot = s := by rw [← hy]; rfl
      have ynx : y.next = some .tri := by rw [← hy]; rfl
      have yd : y.decs = x.decs := by rw [← hy]; rfl
      have ywr : y.wrs := by rw [← hy]; exact Th.with_wrs hm.1
      obtain ⟨D', g1, g2, g3, g4, g5, g6, g7, g8, g9, g10, g11⟩ := ThR.tris W1 ywr (fun a h => by rw [at_] at h; cases h; exact At.new_ok ms) (fun a h => by rw [at_] at h; cases h; exact ⟨rfl, fun w h => by cases h⟩) ynx (T1.congr dc.symm)
      rw [ysl] at g4 g5 g7 g9 g10
      have ef : Ef D A (y.tris A).2.2 s := g4.mono fun u d h => by
        by_cases c : u = s
        · subst c; rw [setD_at] at h; cases h
        · rw [setD_ne c] at h; exact h
      have dn : ¬ Dcd A (y.tris A).2.2 s := Dcd.not no
      refine ⟨D', s, g1, g2, (show WRel D (lf L) A (setD D s none) (lf (lived s L)) A by rw [lv]; exact .take).trans W g3, ef, .inr (.inr hss), fun u u0 u1 hu => ⟨by rw [g5 u hu]; exact setD_ne hu, by rw [lv]; exact incG_ne hu⟩, g7.congr ?_, by unfold Th.decs; rw [g8]; exact yd, fun h => absurd h nt, fun u g u0 u1 hg ho => ?_, E.keep (by omega) fun j j0 j1 => g11 j (by omega) j1⟩
      · have : (y.tris A).1.dcd ↔ y.dcd := Th.dcd_congr (by unfold Th.decs; rw [g8])
        rw [this, h3]
        exact ⟨fun h => h.elim .inl fun h => absurd h dn, fun h => h.elim .inl fun h => absurd h.1 (by decide)⟩
      · by_cases c : u = s
        · subst c
          rcases g10 with h | h
          · exact .inl ⟨g9, h⟩
          · exact absurd ho (h g hg)
        · exact .inr ⟨ef.opnBack W.ok u0 u1 c ho, fun h => absurd h nt⟩
theorem ThR.of {x1 : Th} {c : Int} (h1 : x1.slot = x.slot) (h2 : x1.next = x.next) (h3 : x1.decs = x.decs) (R : ThR D A L x1 hs k D' y c B L' own) : ThR D A L x hs k D' y c B L' own :=
  ⟨R.err, R.wa, R.rel, R.ef, by rw [← h1]; exact R.ow, R.ne, by rw [← h1]; exact R.th, by rw [← h3]; exact R.evs, by rw [← h1, ← h2]; exact R.slot, by rw [← h1, ← h2]; exact R.op, R.ep⟩
theorem Th.fres_w (W : WA D (lf L) A) (hw : x.wrs) (ox : x.ok) (on : x.on) (hn : x.next = some .fre) (F : Fre A fr cc) (hc : cc < 90000) (w : x.own A cc) (E : EpI A k) (hL : L.length = 12) (hL2 : ∀ v ∈ L, 0 ≤ v) (m : Mays x L)
    (h1 : ∀ s, s ∈ x.cache ∨ s ∈ x.ripe → hs s) (h2 : ∀ s ∈ fr, hs s) (hd : ∀ s ∈ x.ripe, s ∉ fr) (hno : ∀ s, hs s → ∀ g, 1 ≤ g → ¬ OpW A s g) (T : ThW D (lf L) A x x.dcd) :
    ∃ D' own, ThR D A L x hs k D' (x.fres A L).1.1 (x.fres A L).1.2.1 (x.fres A L).1.2.2 (x.fres A L).2 own := by
  have oc := Th.cached_ok ox
  have wc := Th.cached_own w hn
  have c1 : x.cached.slot = x.slot := by unfold Th.cached; split <;> rfl
  have c2 : x.cached.next = x.next := Th.cached_next
  have c3 : x.cached.decs = x.decs := Th.cached_decs
  have c4 : x.cached.dead = x.dead := by unfold Th.cached; split <;> rfl
  have c5 : x.cached.end_ = x.end_ := by unfold Th.cached; split <;> rfl
  have hw' : x.cached.wrs := by unfold Th.cached; split <;> exact hw
  have onc : x.cached.on := by
    unfold Th.cached; split
    · exact ⟨on.ent, on.adv, on.tri, on.pop, on.push⟩
    · exact on
  have mc : Mays x.cached L := by unfold Th.cached; split <;> exact m
  have cc1 : ∀ s ∈ x.cached.cache, hs s := fun s h => by
    unfold Th.cached at h
    split at h
    · rcases List.mem_append.1 h with h | h
      · exact h1 s (.inl h)
      · exact h1 s (.inr (List.mem_of_mem_take h))
    · exact h1 s (.inl h)
  have hd : ∀ s ∈ x.cached.ripe, s ∉ fr := fun s hs => hd s (Th.cached_sub hs)
  have hn' : x.cached.next = some .fre := by rw [c2]; exact hn
  have Tc : ThW D (lf L) A x.cached x.cached.dcd := (T.busy (y := x.cached) (.inr (.inl hn)) (.inr (.inl hn')) c4 c5).congr (Th.dcd_congr c3).symm
  have key : ∃ D' own, ThR D A L x.cached hs k D' (x.fres A L).1.1 (x.fres A L).1.2.1 (x.fres A L).1.2.2 (x.fres A L).2 own := by
    unfold Th.fres
    simp only
    generalize x.cached = y at oc wc hw' onc mc cc1 hd hn' Tc
    split
    · exact Th.taks_w W hw' oc onc (.inr hn') F hc wc E hL hL2 mc cc1 h2 hno Tc
    · rename_i s r hr
      have hm := oc.ri s (by rw [hr]; simp)
      have po : (y.push.getD (.new s)).ok ∧ (y.push.getD (.new s)).own A ∧ (y.push.getD (.new s)).slot = s ∧ (y.push.getD (.new s)).l.over = false := by
        cases hp : y.push with
        | none => exact ⟨Push.new_ok hm.1 hm.2, Push.new_own, rfl, rfl⟩
        | some p =>
          have := (wc.push p hp).2
          rw [hr] at this
          cases this
          exact ⟨oc.push p hp, (wc.push p hp).1, rfl, onc.push p hp⟩
      have hsf : s ∉ fr := hd s (by rw [hr]; simp)
      obtain ⟨s0, s2, s1⟩ := Push.step_own po.1 po.2.1 W.ok F hc (by rw [po.2.2.1]; exact hsf)
      have acc := Push.step_acc (A := A) po.1
      have mid := acc.mid W.ok fun i p => by omega
      have ef : ∀ own, Ef D A ((y.push.getD (.new s)).step A).2.2 own := fun own => Push.step_ef W.ok po.1 po.2.2.2
      have sk := (Push.step_ok po.1 W.ok).2
      have ep : EpI ((y.push.getD (.new s)).step A).2.2 (k + 1) := E.keep (by omega) fun j j0 j1 => acc.at_same W.ok (by omega) (by omega) fun i p => by omega
      generalize (y.push.getD (.new s)).step A = q at s0 mid ef sk ep
      split
      · exact ⟨D, -1, ThR.mid W oc sk mid (ef _) ep rfl rfl (by rw [hn']; simp) (by simp only; rw [hn']; simp) (Tc.busy (.inr (.inl hn')) (.inr (.inl hn')) rfl rfl)⟩
      · exact ⟨D, -1, ThR.mid W oc sk mid (ef _) ep s0 rfl (by rw [hn']; simp) (by simp only; rw [hn']; simp) (Tc.busy (.inr (.inl hn')) (.inr (.inl hn')) rfl rfl)⟩
  obtain ⟨D', own, R⟩ := key
  exact ⟨D', own, R.of c1 c2 c3⟩
end
section
variable {D D' : Int → Option Dw} {A B : Ar} {L L' : List Int} {x y : Th} {hs : Int → Prop} {k pick c own s cc : Int} {fr : List Int} {p q : Prop} {G G' : Int → Int}
theorem Th.act_w {a : Act} (W : WA D (lf L) A) (hw : x.wrs) (ox : x.ok) (on : x.on) (hn : x.next = some a) (F : Fre A fr cc) (hc : cc < 90000) (w : x.own A cc) (E : EpI A k) (hk : k < 1000000) (hL : L.length = 12) (hL2 : ∀ v ∈ L, 0 ≤ v) (m : Mays x L)
    (h1 : ∀ s, s ∈ x.cache ∨ s ∈ x.ripe → hs s) (h2 : ∀ s ∈ fr, hs s) (hd : ∀ s ∈ x.ripe, s ∉ fr) (hno : ∀ s, hs s → ∀ g, 1 ≤ g → ¬ OpW A s g) (T : ThW D (lf L) A x x.dcd) :
    ∃ D' own, ThR D A L x hs k D' (x.act A L pick a).1.1 (x.act A L pick a).1.2.1 (x.act A L pick a).1.2.2 (x.act A L pick a).2 own := by
  cases a with
  | ent => exact ⟨_, _, Th.ents_w W ox on hn E hk T⟩
  | fre => exact Th.fres_w W hw ox on hn F hc w E hL hL2 m h1 h2 hd hno T
  | tak => exact Th.taks_w W hw ox on (.inl hn) F hc w E hL hL2 m (fun s h => h1 s (.inl h)) h2 hno T
  | tri => obtain ⟨D', R⟩ := Th.tri_w (hs := hs) W hw ox on hn E T; exact ⟨D', _, R⟩
  | ret => exact ⟨_, _, Th.rets_w W ox hn E hk T⟩
  | lea => exact ⟨_, _, Th.leas_w W ox hn E T⟩
  | adv => exact ⟨_, _, Th.advs_w W ox on hn E hk T⟩
theorem ThW.z (T : ThW D G A x p) : ThW D G A x.z p := ⟨T.live, T.tri, T.ret, T.lea, T.bus, T.e2, T.non⟩
theorem Th.step_w (W : WA D (lf L) A) (hw : x.wrs) (ox : x.ok) (on : x.on) (F : Fre A fr cc) (hc : cc < 90000) (w : x.own A cc) (E : EpI A k) (hk : k < 1000000) (hL : L.length = 12) (hL2 : ∀ v ∈ L, 0 ≤ v) (m : x.evs ≠ [] → Mays x L)
    (h1 : ∀ s, s ∈ x.cache ∨ s ∈ x.ripe → hs s) (h2 : ∀ s ∈ fr, hs s) (hd : ∀ s ∈ x.ripe, s ∉ fr) (hno : ∀ s, hs s → ∀ g, 1 ≤ g → ¬ OpW A s g) (T : ThW D (lf L) A x x.dcd) :
    (x.step A L pick).2.2.1 = 0 ∧
    (((x.step A L pick).2.1 = false ∧ (x.step A L pick).2.2.2.1 = A ∧ (x.step A L pick).2.2.2.2 = L ∧ x.next = none ∧ ThW D (lf L) A (x.step A L pick).1 (x.step A L pick).1.dcd ∧ (x.step A L pick).1.decs = x.decs) ∨
     ((x.step A L pick).2.1 = true ∧ ∃ x1 D' own, x1.slot = x.slot ∧ (x1.next = x.next ∧ x1.decs = x.decs ∨ x.next = none ∧ x1.next = some .ent ∧ (x1.decs = x.decs ∨ x1.decs = x.decs ++ [-1])) ∧
        ThR D A L x1 hs k D' (x.step A L pick).1 0 (x.step A L pick).2.2.2.1 (x.step A L pick).2.2.2.2 own)) := by
  have hdead := T.live
  have o1 : x.z.ok := { ox with }
  have on1 : x.z.on := ⟨on.ent, on.adv, on.tri, on.pop, on.push⟩
  have w1 : x.z.own A cc := ⟨w.ri, w.sl, w.po, w.push, w.pop⟩
  have ended : ∀ {x1 : Th} {D' own} {r : (Th × Int × Ar) × List Int}, ThR D A L x1 hs k D' r.1.1 r.1.2.1 r.1.2.2 r.2 own → (Th.ended r) = (r.1.1, true, 0, r.1.2.2, r.2) ∧ ThR D A L x1 hs k D' r.1.1 0 r.1.2.2 r.2 own := fun {x1 D' own r} R => by
    have e := R.err
    refine ⟨by unfold Th.ended; rw [if_pos e], ?_⟩
    rw [e] at R; exact R
  cases hx : x.next with
  | some a =>
    have he : x.evs ≠ [] := ox.live (.inl (by rw [hx]; simp))
    obtain ⟨D', own, R⟩ := Th.act_w (x := x.z) (pick := pick) W hw o1 on1 hx F hc w1 E hk hL hL2 (m he) h1 h2 hd hno T.z
    rw [Th.step_some hdead hx]
    obtain ⟨e1, e2⟩ := ended R
    rw [e1]
    exact ⟨rfl, .inr ⟨rfl, x.z, D', own, rfl, .inl ⟨hx, rfl⟩, e2⟩⟩
  | none =>
    rw [Th.step_none hdead hx]
    have b := Th.begin_ok (pick := pick) o1 hx
    have key : ((x.z.begin pick).2 = false ∧ ThW D (lf L) A (x.z.begin pick).1 (x.z.begin pick).1.dcd ∧ (x.z.begin pick).1.decs = x.decs) ∨
        ((x.z.begin pick).2 = true ∧ (x.z.begin pick).1.on ∧ (x.z.begin pick).1.slot = x.slot ∧ ThW D (lf L) A (x.z.begin pick).1 (x.z.begin pick).1.dcd ∧ ((x.z.begin pick).1.decs = x.decs ∨ (x.z.begin pick).1.decs = x.decs ++ [-1])) := by
      unfold Th.begin
      split
      · exact .inl ⟨rfl, T.z, rfl⟩
      · split
        · refine .inl ⟨rfl, ?_, rfl⟩
          exact ⟨T.live, T.tri, T.ret, T.lea, T.bus, T.e2, T.non⟩
        · refine .inr ⟨rfl, ⟨(fun _ => ⟨_, rfl, rfl⟩), (fun h => by cases h), (fun h => by cases h), on1.pop, on1.push⟩, rfl, ?_, ?_⟩
          · refine ⟨T.live, (fun h => by cases h), (fun h => by cases h), (fun h => by rcases h with h | h <;> cases h), fun _ => ?_, (fun _ => by show (2 : Int) ≠ 0; decide), fun h => by cases h⟩
            by_cases c : x.z.tries = 0
            · rintro ⟨v, h3, h4⟩
              unfold Th.decs at h3
              simp only at h3
              rw [if_pos c] at h3
              simp at h3
              omega
            · have := T.non hx c
              intro h
              refine this ?_
              obtain ⟨v, h3, h4⟩ := h
              unfold Th.decs at h3
              simp only at h3
              rw [if_neg c] at h3
              exact ⟨v, h3, h4⟩
          · unfold Th.decs
            simp only
            by_cases c : x.z.tries = 0
            · rw [if_pos c]; right; simp; rfl
            · rw [if_neg c]; exact .inl rfl
    rcases key with ⟨k1, k2, k3⟩ | ⟨k1, k2, k3, k4, k5⟩
    · rw [if_neg (by rw [k1]; decide)]
      exact ⟨rfl, .inl ⟨rfl, rfl, rfl, rfl, k2, k3⟩⟩
    · rw [if_pos k1]
      have R := Th.ents_w (hs := hs) W b.1 k2 (b.2 k1) E hk k4
      have R : ThR D A L (x.z.begin pick).1 hs k D ((x.z.begin pick).1.act A L pick .ent).1.1 ((x.z.begin pick).1.act A L pick .ent).1.2.1 ((x.z.begin pick).1.act A L pick .ent).1.2.2 ((x.z.begin pick).1.act A L pick .ent).2 (-1) := R
      obtain ⟨e1, e2⟩ := ended R
      rw [e1]
      exact ⟨rfl, .inr ⟨rfl, _, D, -1, k3, .inr ⟨rfl, b.2 k1, k5⟩, e2⟩⟩
theorem ThW.other (R : WRel D G A D' G' B) (W : WA D G A) (E : Ef D A B own) (s1 : x.slot < 12) (ne : 0 ≤ x.slot → x.slot ≠ own ∧ D' x.slot = D x.slot ∧ G' x.slot = G x.slot) (oa : ∀ a, x.att = some a → 0 ≤ a.slot)
    (hno : x.next ≠ some .tri → 0 ≤ x.slot → ∀ g, 1 ≤ g → ¬ OpW A x.slot g) (T : ThW D G A x p) : ThW D' G' B x (p ∨ (0 ≤ x.slot ∧ Dcd A B x.slot)) := by
  have same : x.next ≠ some .tri → ((p ∨ (0 ≤ x.slot ∧ Dcd A B x.slot)) ↔ p) := fun h => ⟨fun q => q.elim id fun q => absurd q.2 (Dcd.not (hno h q.1)), .inl⟩
  refine ⟨T.live, fun h => ?_, fun h => ?_, fun h => ?_, fun h => ?_, T.e2, fun h ht => ?_⟩
  · obtain ⟨a, ha, hsl, g1, aw, hp⟩ := T.tri h
    have s0 : 0 ≤ x.slot := by rw [← hsl]; exact oa a ha
    obtain ⟨n1, n2, n3⟩ := ne s0
    refine ⟨a, ha, hsl, g1, aw.other R W E (by omega) (by omega) (by omega) (by rw [hsl]; exact n2) (by rw [hsl]; exact n3), ?_⟩
    have won := E.won (s := a.slot) (g := a.gen) W.ok (by omega) (by omega) (by omega) fun g' g1' ho' => by rw [W.so _ _ (by omega) (by omega) g1' ho', aw.1]
    rw [hp]
    unfold At.wd
    rw [won, hsl]
    constructor
    · rintro (⟨h1, h2⟩ | ⟨_, h2⟩)
      · exact ⟨h1, .inl h2⟩
      · refine ⟨?_, .inr h2⟩
        obtain ⟨_, aw⟩ := aw
        split at aw
        · rw [hsl] at aw; exact absurd h2 (Dcd.not aw.2.1)
        · rw [hsl] at aw
          obtain ⟨hd, _⟩ := aw
          refine absurd h2 fun ⟨g, _, h3, h4⟩ => ?_
          rw [E.region W.ok s0 s1 n1 hd _ (by omega) (by omega), h3] at h4
          unfold stateW at h4; omega
        · rename_i H hH; exact ⟨H, hH⟩
    · rintro ⟨h1, h2 | h2⟩
      · exact .inl ⟨h1, h2⟩
      · exact .inr ⟨s0, h2⟩
  · rw [same (by rw [h]; simp)]; exact T.ret h
  · rw [same (by rcases h with h | h <;> rw [h] <;> simp)]; exact T.lea h
  · rw [same (by rcases h with h | h | h <;> rw [h] <;> simp)]; exact T.bus h
  · rw [same (by rw [h]; simp)]; exact T.non h ht
theorem ThW.decided (T : ThW D G A x p) : ThW D G A (x.decide s pick) p := by
  unfold Th.decide
  split
  · exact ⟨T.live, T.tri, T.ret, T.lea, T.bus, T.e2, T.non⟩
  · exact T
def Touch.wins (t : Touch) : Bool := decide (t.kind = 2) && (decide (t.was ≠ t.now) && (decide (34 ≤ t.at_) && (decide ((t.at_ - 34) % 50 = 0) && decide (t.now / 4 % 4 = 1))))
theorem Ef.touch {t : Touch} (E : Ef D A B own) (hA : A.ok) (e1 : t.kind = B.lst 1) (e2 : t.at_ = B.lst 2) (e3 : t.was = B.lst 3) (e4 : t.now = B.lst 4) :
    (t.wins = false ∧ t.dec = none ∧ ∀ s, 0 ≤ s → s < 12 → ¬ Dcd A B s) ∨ (∃ s g, t.wins = true ∧ t.dec = some s ∧ (0 ≤ s ∧ s < 12) ∧ 1 ≤ g ∧ OpW A s g ∧ ∀ u, 0 ≤ u → u < 12 → (Dcd A B u ↔ u = s)) := by
  have none : B.lst 1 ≠ 2 ∨ B.lst 2 < 34 ∨ B.lst 3 = B.lst 4 → t.wins = false ∧ t.dec = none := fun h => by
    constructor
    · unfold Touch.wins
      rw [e1, e2, e3, e4]
      rcases h with h | h | h
      · rw [decide_eq_false h]; rfl
      · rw [decide_eq_false (show ¬ 34 ≤ B.lst 2 by omega)]; simp
      · rw [decide_eq_false (show ¬ (B.lst 3 ≠ B.lst 4) by simpa using h)]; simp
    · unfold Touch.dec
      rw [e1, e2, e3, e4]
      refine if_pos ?_
      rcases h with h | h | h
      · exact .inl h
      · exact .inr (.inr (.inl h))
      · exact .inr (.inl h)
  cases E with
  | quiet h n => exact .inl ⟨(none n).1, (none n).2, fun s h0 h1 => Dcd.same h0 h1 h⟩
  | wr h n d =>
    obtain ⟨n1, n2⟩ := none (.inl (by rw [n]; decide))
    refine .inl ⟨n1, n2, fun s h0 h1 => ?_⟩
    by_cases c : s = own
    · rw [c]; exact d
    · rintro ⟨g, _, h3, h4⟩
      rw [h _ (by unfold baseOf; omega) (by unfold baseOf; omega) (by unfold baseOf; omega), h3] at h4
      unfold stateW at h4; omega
  | @dec s g x l g1 hx op hd e =>
    have s0 := l.s0; have s1 := l.s1
    have g0 := l.g0; have gl := l.g1
    have op' : A.at (baseOf s) = stateW g 0 := op
    have b : baseOf s = 34 + s * 50 := rfl
    have k1 : B.lst 1 = 2 := by rw [e]; rfl
    have k2 : B.lst 2 = baseOf s := by rw [e]; show (((baseOf s).toNat : Nat) : Int) = baseOf s; omega
    have k3 : B.lst 3 = stateW g 0 := by rw [e]; exact op'
    have k4 : B.lst 4 = stateW g x := by rw [e]; show (if A.at (baseOf s) = stateW g 0 then stateW g x else A.at (baseOf s)) = _; rw [if_pos op']
    have bB : ∀ u, 0 ≤ u → u < 12 → B.at (baseOf u) = if u = s then stateW g x else A.at (baseOf u) := fun u u0 u1 => by
      rw [e, at_cas hA (by omega) (by omega) (by unfold baseOf; omega) (by unfold baseOf; omega)]
      by_cases c : u = s
      · subst c; rw [if_pos rfl, if_pos op', if_pos rfl]
      · rw [if_neg (base_ne (Ne.symm c)), if_neg c]
    have dcd : ∀ u, 0 ≤ u → u < 12 → (Dcd A B u ↔ u = s ∧ x = 1) := fun u u0 u1 => by
      constructor
      · rintro ⟨g', _, h3, h4⟩
        rw [bB u u0 u1] at h4
        split at h4
        · rename_i c; exact ⟨c, by unfold stateW at h4; omega⟩
        · rw [h3] at h4; unfold stateW at h4; omega
      · rintro ⟨c, c2⟩
        subst c
        exact ⟨g, g1, op', by rw [bB _ u0 u1, if_pos rfl, c2]⟩
    have hq : (baseOf s - 34) / 50 = s := by omega
    have pl : (plainOf (stateW g x)).isSome = true := stateW_val g0 gl (by omega) (by omega)
    have vl : valOf (stateW g x) = g * 4 + x := by unfold stateW; exact valOf_val (by omega) (by omega)
    have dd : t.dec = if stateW g x = stateW g 1 then some s else Option.none := by
      unfold Touch.dec
      rw [e1, e2, e3, e4, k1, k2, k3, k4, hq, pl, vl]
      rw [if_neg (by
        intro h
        rcases h with h | h | h | h | h
        · exact h rfl
        · unfold stateW at h; omega
        · omega
        · exact h rfl
        · cases h)]
      rw [show (g * 4 + x) / 4 = g by omega]
    rcases hx with hx | hx
    · subst hx
      right
      refine ⟨s, g, ?_, by rw [dd, if_pos rfl], ⟨s0, s1⟩, g1, op, fun u u0 u1 => by rw [dcd u u0 u1]; simp⟩
      unfold Touch.wins
      rw [e1, e2, e3, e4, k1, k2, k3, k4]
      rw [decide_eq_true rfl, decide_eq_true (show stateW g 0 ≠ stateW g 1 by unfold stateW; omega), decide_eq_true (show 34 ≤ baseOf s by omega), decide_eq_true (show (baseOf s - 34) % 50 = 0 by omega), decide_eq_true (show stateW g 1 / 4 % 4 = 1 by unfold stateW; omega)]
      rfl
    · subst hx
      left
      refine ⟨?_, by rw [dd, if_neg (by unfold stateW; omega)], fun u u0 u1 h => by have := ((dcd u u0 u1).1 h).2; omega⟩
      unfold Touch.wins
      rw [e4, k4, decide_eq_false (show ¬ stateW g 2 / 4 % 4 = 1 by unfold stateW; omega)]
      simp
end
structure Mc.mw (M : Mc) (D : Int → Option Dw) : Prop where
  wa : WA D (lf M.L) M.A
  th : ∀ x ∈ M.ths, ThW D (lf M.L) M.A x x.dcd
  op : ∀ s g, 0 ≤ s → s < 12 → 1 ≤ g → OpW M.A s g → ∃ x ∈ M.ths, x.slot = s ∧ x.next = some .tri
  ep : EpI M.A M.picks
  bd : ∀ x ∈ M.ths, ∀ v ∈ x.decs, v < M.picks
def cntD (xs : List Int) : Nat := xs.countP fun v => decide (0 ≤ v)
def Mc.cnt (M : Mc) : Nat := (M.ths.map fun x => cntD x.decs).sum
theorem newAr_zero {j : Int} (h0 : 29 ≤ j) (h1 : j < 634) : newAr.at j = 0 := by
  have h : ∀ n : Nat, n < 634 → 29 ≤ n → newAr.ws.getD n 0 = 0 := by decide +kernel
  exact h j.toNat (by omega) (by omega)
theorem stateW_pos {g : Int} (h : 1 ≤ g) : stateW g 0 ≠ 0 := by unfold stateW; omega
theorem Mc.new_mw {p : Plan} : (Mc.new p).mw fun _ => none := by
  have z : ∀ s i : Int, 0 ≤ s → s < 12 → 0 ≤ i → i < 50 → newAr.at (baseOf s + i) = 0 := fun s i s0 s1 i0 i1 => newAr_zero (by unfold baseOf; omega) (by unfold baseOf; omega)
  have z0 : ∀ s : Int, 0 ≤ s → s < 12 → newAr.at (baseOf s) = 0 := fun s s0 s1 => by have := z s 0 s0 s1 (by decide) (by decide); rwa [Int.add_zero] at this
  have iv : ∀ m : Int, 0 ≤ m → isVal 0 m = true := fun m h => by have := isVal_val (v := 0) (most := m) (by decide) (by decide) h; simpa using this
  have no : ∀ s g, 0 ≤ s → s < 12 → 1 ≤ g → ¬ OpW newAr s g := fun s g s0 s1 g1 h => by unfold OpW at h; rw [z0 s s0 s1] at h; exact stateW_pos g1 h.symm
  have th : ∀ x ∈ (Mc.new p).ths, ∃ (j : Nat) (t : List (List Op)), x = Th.new (0 + j) p.threads.length p.attempts p.polite t := fun x hx => by
    obtain ⟨j, t, _, e⟩ := Mc.threads_mem hx
    exact ⟨j, t, e⟩
  refine ⟨⟨newAr_ok, fun s s0 s1 => ⟨?_, ?_, fun j j0 j1 => ?_, fun j j0 j1 => ?_, fun j j0 j1 => ?_⟩, fun s g s0 s1 g1 ho => absurd ho (no s g s0 s1 g1), (fun s d hd => by cases hd), fun c c0 c1 => .val (v := 0) ?_⟩, fun x hx => ?_, fun s g s0 s1 g1 ho => absurd ho (no s g s0 s1 g1), ⟨⟨0, newAr_zero (by decide) (by decide), by decide, Int.le_refl 0⟩, fun t t0 t1 => ?_⟩, fun x hx v hv => ?_⟩
  · show (plainOf (newAr.at (baseOf s))).isSome = true
    rw [z0 s s0 s1]; decide
  · show isVal (newAr.at (baseOf s + 1)) 16 = true
    rw [z s 1 s0 s1 (by decide) (by decide)]; exact iv _ (by decide)
  · show isVal (newAr.at _) 15 = true
    rw [z s _ s0 s1 (by omega) (by omega)]; exact iv _ (by decide)
  · show isVal (newAr.at _) 1099511627775 = true
    rw [z s _ s0 s1 (by omega) (by omega)]; exact iv _ (by decide)
  · show isVal (newAr.at _) 1099511627775 = true
    rw [z s _ s0 s1 (by omega) (by omega)]; exact iv _ (by decide)
  · show plainOf (newAr.at c) = some 0
    rw [newAr_cell c0 c1]; decide
  · obtain ⟨j, t, rfl⟩ := th x hx
    exact ⟨rfl, (fun h => by cases h), (fun h => by cases h), (fun h => by rcases h with h | h <;> cases h), (fun h => by rcases h with h | h | h <;> cases h), (fun h => by rcases h with h | h | h | h | h <;> cases h), fun _ h => absurd rfl h⟩
  · show (plainOf (newAr.at (30 + t))).isSome = true
    rw [newAr_zero (by omega) (by omega)]; decide
  · obtain ⟨j, t, rfl⟩ := th x hx
    cases hv
theorem Mc.new_cnt {p : Plan} : (Mc.new p).cnt = 0 := by
  unfold Mc.cnt
  rw [List.map_congr_left (g := fun _ => 0) fun x hx => ?_]
  · generalize (Mc.new p).ths = xs
    induction xs with
    | nil => rfl
    | cons a xs ih => simpa using ih
  · obtain ⟨j, t, e1, rfl⟩ := Mc.threads_mem hx
    rfl
theorem evTurn_cnt {es : List Event} {pick : Int} (h : es ≠ []) (n : ¬ ∃ v, (es.map Event.decided).getLast? = some v ∧ 0 ≤ v) (hp : 0 ≤ pick) :
    cntD ((evTurn es fun e => { e with decided := pick }).map Event.decided) = cntD (es.map Event.decided) + 1 ∧ (∀ v ∈ (evTurn es fun e => { e with decided := pick }).map Event.decided, v ∈ es.map Event.decided ∨ v = pick) ∧
    ((evTurn es fun e => { e with decided := pick }).map Event.decided).getLast? = some pick := by
  obtain ⟨ys, e, rfl⟩ : ∃ ys e, es = ys ++ [e] := ⟨es.dropLast, es.getLast h, (List.dropLast_concat_getLast h).symm⟩
  have hv : ¬ 0 ≤ e.decided := fun h' => n ⟨e.decided, by simp, h'⟩
  have et : (evTurn (ys ++ [e]) fun e => { e with decided := pick }) = ys ++ [{ e with decided := pick }] := by
    unfold evTurn
    simp
  rw [et]
  refine ⟨?_, fun v hv => ?_, by simp⟩
  · unfold cntD
    simp only [List.map_append, List.map_cons, List.map_nil, List.countP_append]
    rw [List.countP_singleton, List.countP_singleton, if_pos (decide_eq_true hp), if_neg (by simpa using hv)]
  · simp only [List.map_append, List.map_cons, List.map_nil, List.mem_append, List.mem_singleton] at hv ⊢
    rcases hv with h | h
    · exact .inl (.inl h)
    · exact .inr h
theorem cntD_snoc {xs : List Int} : cntD (xs ++ [-1]) = cntD xs := by unfold cntD; simp
theorem mem_set_idx {α : Type} {xs : List α} {i : Nat} {a y : α} (h : y ∈ xs.set i a) (hi : i < xs.length) : y = a ∨ ∃ j, j ≠ i ∧ xs[j]? = some y := by
  obtain ⟨j, hj, he⟩ := List.mem_iff_getElem.1 h
  have hg : (xs.set i a)[j]? = some y := by rw [List.getElem?_eq_getElem hj, he]
  rw [List.getElem?_set] at hg
  split at hg
  · cases hg; exact .inl rfl
  · rename_i ne; exact .inr ⟨j, Ne.symm ne, hg⟩
theorem map_one {α : Type} {xs : List α} {f : α → α} {j : Nat} {a : α} (h : xs[j]? = some a) (n : ∀ i z, xs[i]? = some z → i ≠ j → f z = z) : xs.map f = xs.set j (f a) := by
  refine List.ext_getElem? fun i => ?_
  rw [List.getElem?_map, List.getElem?_set]
  by_cases c : j = i
  · subst c
    rw [if_pos rfl, h, if_pos (List.getElem?_eq_some_iff.1 h).1]; rfl
  · rw [if_neg c]
    cases hi : xs[i]? with
    | none => rfl
    | some z =>
      show some (f z) = some z
      rw [n i z hi (Ne.symm c)]
section
variable {M : Mc} {D : Int → Option Dw} {k c n : Int} {fr : List Int}
theorem Mc.si.one (S : M.si fr c) {i j : Nat} {x y : Th} (hx : M.ths[i]? = some x) (hy : M.ths[j]? = some y) {s : Int} (h0 : 0 ≤ s) (h1 : s < 12) (a : s ∈ x.hold) (b : s ∈ y.hold) : i = j := by
  refine Classical.byContradiction fun ne => ?_
  have a1 := S.all s
  have a2 := sum_two (f := fun x : Th => x.hold.count s) hx hy ne
  have a3 := List.count_pos_iff.2 a
  have a4 := List.count_pos_iff.2 b
  rw [if_pos ⟨h0, h1⟩] at a1
  omega
theorem Mc.si.free (S : M.si fr c) {i : Nat} {x : Th} (hx : M.ths[i]? = some x) {s : Int} (h0 : 0 ≤ s) (h1 : s < 12) (a : s ∈ x.hold) : s ∉ fr := fun b => by
  have a1 := S.all s
  have a2 := sum_one (f := fun x : Th => x.hold.count s) hx
  have a3 := List.count_pos_iff.2 a
  have a4 := List.count_pos_iff.2 b
  rw [if_pos ⟨h0, h1⟩] at a1
  omega
theorem hold_slot {x : Th} (h : 0 ≤ x.slot) : x.slot ∈ x.hold := by
  unfold Th.hold
  rw [if_neg (by omega)]
  simp
theorem Mc.pick_w (o : M.ok) (S : M.si fr c) (r : M.rep n) (m : M.mw D) (hp : M.picks < 60000) (hk : 0 ≤ k ∧ k < M.ths.length) :
    (M.pick k).2.2 = 0 ∧ (M.pick k).1.picks = M.picks + 1 ∧ (∃ D', (M.pick k).1.mw D') ∧
    (((M.pick k).2.1 = false ∧ (M.pick k).1.cnt = M.cnt) ∨
     ((M.pick k).2.1 = true ∧ ∃ t, (M.pick k).1.ts = M.ts ++ [t] ∧ (t.at_ < 634 ∧ (t.kind = 2 → 34 ≤ t.at_ → t.was ≠ t.now → 0 ≤ t.now)) ∧ (M.pick k).1.cnt = M.cnt + (if t.wins = true then 1 else 0))) := by
  obtain ⟨fr', c', S', _, _⟩ := Mc.pick_si (k := k) o S
  have lk := (Mc.pick_ok (k := k) o).l
  have hlt : k.toNat < M.ths.length := by omega
  obtain ⟨x, hx⟩ : ∃ x, M.ths[k.toNat]? = some x := ⟨_, List.getElem?_eq_getElem hlt⟩
  have hxm := List.mem_of_getElem? hx
  have ox := o.ths x hxm
  have T := m.th x hxm
  have on : x.on := by
    rcases r.way x hxm with h | h
    · rw [T.live] at h; cases h
    · exact h
  have hcc : c < 90000 := by have := S.c1; omega
  have hd : ∀ s ∈ x.ripe, s ∉ fr := fun s h1 => by
    have hr := ox.1.ri s h1
    exact S.free hx hr.1 hr.2 (by unfold Th.hold; simp [h1])
  have hL : ∀ y ∈ M.L, 0 ≤ y ∧ y < 65535 := fun y hy => by have := o.L2 y hy; omega
  have frb : ∀ s ∈ fr, 0 ≤ s ∧ s < 12 := fun s h => by obtain ⟨f, _, h2⟩ := S.F.hd; exact h2.mem s h
  have hno : ∀ s, ((s ∈ x.cache ∨ s ∈ x.ripe) ∨ s ∈ fr) → ∀ g, 1 ≤ g → ¬ OpW M.A s g := fun s h g g1 ho => by
    have sb : 0 ≤ s ∧ s < 12 := by
      rcases h with (h | h) | h
      · exact ox.1.ca s h
      · exact ox.1.ri s h
      · exact frb s h
    obtain ⟨y, hy, h1, h2⟩ := m.op s g sb.1 sb.2 g1 ho
    obtain ⟨j, hj⟩ := List.mem_iff_getElem?.1 hy
    have hyh : s ∈ y.hold := by rw [← h1]; exact hold_slot (by omega)
    rcases h with h | h
    · have hxh : s ∈ x.hold := by unfold Th.hold; rcases h with h | h <;> simp [h]
      have := S.one hx hj sb.1 sb.2 hxh hyh
      subst this
      rw [hx] at hj; cases hj
      have a1 := S.all s
      have a2 := sum_one (f := fun x : Th => x.hold.count s) hx
      have a5 := hold_count x s
      rw [if_pos sb] at a1
      have a3 : 0 < x.cache.count s + x.ripe.count s := by
        rcases h with h | h
        · have := List.count_pos_iff.2 h; omega
        · have := List.count_pos_iff.2 h; omega
      rw [if_neg (show ¬ x.slot = -1 by omega)] at a5
      have a6 : ([x.slot] : List Int).count s = 1 := by rw [h1]; simp
      try simp only at a2
      omega
    · exact S.free hj sb.1 sb.2 hyh h
  have sw := Th.step_w (hs := fun s => (s ∈ x.cache ∨ s ∈ x.ripe) ∨ s ∈ fr) (pick := M.picks) m.wa ox.2.1 ox.1 on S.F hcc (S.own x hxm) m.ep (by omega) o.L (fun v hv => (hL v hv).1) (fun he => ox.1.mays he hL) (fun s h => .inl h) (fun s h => .inr h) hd hno T
  have sk := Th.step_ok (L := M.L) (pick := M.picks) ox.1 o.A o.p0
  unfold Mc.pick at S' lk ⊢
  rw [if_neg (by omega)] at S' lk ⊢
  rw [hx] at S' lk ⊢
  simp only at S' lk ⊢
  generalize x.step M.A M.L M.picks = st at sw S' sk lk
  obtain ⟨y, ac, er, B, L'⟩ := st
  simp only at sw S' sk lk ⊢
  obtain ⟨e0, sw⟩ := sw
  subst e0
  refine ⟨by rw [if_pos rfl], trivial, ?_⟩
  rcases sw with ⟨ha, hA, hl, hn, Ty, dy⟩ | ⟨ha, x1, D', own, e1, e2, R⟩
  · subst ha; subst hA; subst hl
    simp only [Bool.false_eq_true, if_false] at S' ⊢
    have cn : ((M.ths.set k.toNat y).map fun x => cntD x.decs).sum = (M.ths.map fun x => cntD x.decs).sum := by
      have := sum_set (f := fun x : Th => cntD x.decs) (y := y) hx
      try simp only at this
      rw [dy] at this
      omega
    refine ⟨⟨D, m.wa, fun z hz => ?_, fun s g s0 s1 g1 ho => ?_, m.ep.keep (by show M.picks ≤ M.picks + 1; omega) fun _ _ _ => rfl, fun z hz v hv => ?_⟩, .inl ⟨trivial, cn⟩⟩
    · rcases mem_set_idx hz hlt with rfl | ⟨j, _, h⟩
      · exact Ty
      · exact m.th z (List.mem_of_getElem? h)
    · obtain ⟨z, hz, h1, h2⟩ := m.op s g s0 s1 g1 ho
      obtain ⟨j, hj⟩ := List.mem_iff_getElem?.1 hz
      have : j ≠ k.toNat := fun h => by subst h; rw [hx] at hj; cases hj; rw [hn] at h2; cases h2
      exact ⟨z, List.mem_of_getElem? (by rw [List.getElem?_set_ne (Ne.symm this)]; exact hj), h1, h2⟩
    · show v < M.picks + 1
      rcases mem_set_idx hz hlt with rfl | ⟨j, _, h⟩
      · rw [dy] at hv; have := m.bd x hxm v hv; omega
      · have := m.bd z (List.mem_of_getElem? h) v hv; omega
  · subst ha
    simp only [if_true] at S' ⊢
    have tri1 : x.next = some .tri → x1.next = some .tri ∧ x1.decs = x.decs := fun h => by
      rcases e2 with ⟨h1, h2⟩ | ⟨h1, _⟩
      · exact ⟨by rw [h1]; exact h, h2⟩
      · rw [h] at h1; cases h1
    have dcn : cntD x1.decs = cntD x.decs := by
      rcases e2 with ⟨_, h⟩ | ⟨_, _, h | h⟩
      · rw [h]
      · rw [h]
      · rw [h, cntD_snoc]
    have dbd : ∀ v ∈ x1.decs, v ∈ x.decs ∨ v = -1 := fun v hv => by
      rcases e2 with ⟨_, h⟩ | ⟨_, _, h | h⟩
      · rw [h] at hv; exact .inl hv
      · rw [h] at hv; exact .inl hv
      · rw [h] at hv; simpa using hv
    -- whose slot is open
    have holder : ∀ s g, 0 ≤ s → s < 12 → 1 ≤ g → OpW M.A s g → ∀ {i : Nat} {z : Th}, M.ths[i]? = some z → z.slot = s → z.next = some .tri := fun s g s0 s1 g1 ho i z hz hsl => by
      obtain ⟨z', hz', h1, h2⟩ := m.op s g s0 s1 g1 ho
      obtain ⟨j, hj⟩ := List.mem_iff_getElem?.1 hz'
      have := S.one hz hj s0 s1 (by rw [← hsl]; exact hold_slot (by omega)) (by rw [← h1]; exact hold_slot (by omega))
      subst this
      rw [hz] at hj; cases hj; exact h2
    have oth : ∀ {i : Nat} {z : Th}, i ≠ k.toNat → M.ths[i]? = some z → ThW D' (lf L') B z (z.dcd ∨ (0 ≤ z.slot ∧ Dcd M.A B z.slot)) := fun {i z} hi hz => by
      have oz := (o.ths z (List.mem_of_getElem? hz)).1
      refine ThW.other R.rel m.wa R.ef oz.s1 (fun s0 => ?_) (fun a ha => ?_) (fun hn s0 g g1 ho => hn (holder z.slot g s0 oz.s1 g1 ho hz rfl)) (m.th z (List.mem_of_getElem? hz))
      · have ne : z.slot ≠ own := fun h => by
          have zh : own ∈ z.hold := by rw [← h]; exact hold_slot s0
          have ob : 0 ≤ own ∧ own < 12 := by rw [← h]; exact ⟨s0, oz.s1⟩
          rcases R.ow with q | q | q
          · omega
          · rw [e1] at q
            exact hi (S.one hz hx ob.1 ob.2 zh (by rw [q]; exact hold_slot (by omega)))
          · rcases q with q | q
            · exact hi (S.one hz hx ob.1 ob.2 zh (by unfold Th.hold; rcases q with q | q <;> simp [q]))
            · exact S.free hz ob.1 ob.2 zh q
        exact ⟨ne, R.ne z.slot s0 oz.s1 ne⟩
      · have := (oz.att a ha).1.life
        unfold lifeMay at this
        simp only [decide_eq_true_eq] at this
        exact this.1
    have opn : ∀ s g, 0 ≤ s → s < 12 → 1 ≤ g → OpW B s g → ∃ z ∈ M.ths.set k.toNat y, z.slot = s ∧ z.next = some .tri := fun s g s0 s1 g1 ho => by
      rcases R.op s g s0 s1 g1 ho with ⟨h1, h2⟩ | ⟨h1, h2⟩
      · exact ⟨y, List.mem_set hlt _, h1, h2⟩
      · obtain ⟨z, hz, h3, h4⟩ := m.op s g s0 s1 g1 h1
        obtain ⟨j, hj⟩ := List.mem_iff_getElem?.1 hz
        have : j ≠ k.toNat := fun h => by
          subst h; rw [hx] at hj; cases hj
          exact h2 (tri1 h4).1 (by rw [e1]; exact h3.symm)
        exact ⟨z, List.mem_of_getElem? (by rw [List.getElem?_set_ne (Ne.symm this)]; exact hj), h3, h4⟩
    have bdd : ∀ z ∈ M.ths.set k.toNat y, ∀ v ∈ z.decs, v < M.picks := fun z hz v hv => by
      rcases mem_set_idx hz hlt with rfl | ⟨j, _, h⟩
      · rw [R.evs] at hv
        have p0 := o.p0
        rcases dbd v hv with q | q
        · exact m.bd x hxm v q
        · omega
      · exact m.bd z (List.mem_of_getElem? h) v hv
    have cn : ((M.ths.set k.toNat y).map fun x => cntD x.decs).sum = (M.ths.map fun x => cntD x.decs).sum := by
      have := sum_set (f := fun x : Th => cntD x.decs) (y := y) hx
      try simp only at this
      rw [R.evs, dcn] at this
      omega
    have tl : (noteT B L' k y).at_ < 634 ∧ ((noteT B L' k y).kind = 2 → 34 ≤ (noteT B L' k y).at_ → (noteT B L' k y).was ≠ (noteT B L' k y).now → 0 ≤ (noteT B L' k y).now) := ⟨lk.at1, fun q1 q2 q3 => by
      rcases lk.pl q1 q2 with q | q
      · exact absurd q q3
      · obtain ⟨v, hv⟩ := Option.isSome_iff_exists.1 q
        have := val_read hv
        show 0 ≤ B.last.getD 4 0
        omega⟩
    have tch := R.ef.touch (t := noteT B L' k y) o.A rfl rfl rfl rfl
    rcases tch with ⟨w0, d0, nd⟩ | ⟨s, g, w1, d1, sb, g1, ho, hdc⟩
    · have hdec : decAll (noteT B L' k y) M.picks (M.ths.set k.toNat y) = M.ths.set k.toNat y := by unfold decAll; rw [d0]
      rw [hdec] at S' ⊢
      refine ⟨⟨D', R.wa, fun z hz => ?_, opn, R.ep, fun z hz v hv => by have := bdd z hz v hv; show v < M.picks + 1; omega⟩, .inr ⟨trivial, _, rfl, tl, ?_⟩⟩
      · rcases mem_set_idx hz hlt with rfl | ⟨j, hj, h⟩
        · exact R.th.congr ⟨fun h => h.elim id fun h => absurd h.2 (nd _ h.1 (by rw [e1]; exact ox.1.s1)), .inl⟩
        · exact (oth hj h).congr ⟨fun q => q.elim id fun q => absurd q.2 (nd _ q.1 (o.ths z (List.mem_of_getElem? h)).1.s1), .inl⟩
      · show ((M.ths.set k.toNat y).map fun x => cntD x.decs).sum = M.cnt + (if (noteT B L' k y).wins = true then 1 else 0)
        rw [w0, cn]; rfl
    · -- the holder, after the step
      obtain ⟨x0, hx0, h3, h4⟩ := m.op s g sb.1 sb.2 g1 ho
      obtain ⟨j, hj⟩ := List.mem_iff_getElem?.1 hx0
      have hdec : decAll (noteT B L' k y) M.picks (M.ths.set k.toNat y) = (M.ths.set k.toNat y).map fun x => x.decide s M.picks := by unfold decAll; rw [d1]
      rw [hdec] at S' ⊢
      have nd0 : ¬ x0.dcd := fun h => by
        obtain ⟨a, ha, hsl, g1', aw, hp⟩ := (m.th x0 hx0).tri h4
        have hw := (hp.1 h).2
        have := m.wa.so s g sb.1 sb.2 g1 ho
        unfold WnW at hw
        unfold OpW at ho
        rw [aw.1, hsl, h3, ← this, ho] at hw
        unfold stateW at hw; omega
      have jlt : j < M.ths.length := (List.getElem?_eq_some_iff.1 hj).1
      obtain ⟨y0, hy0, ys, yd, yn, ye⟩ : ∃ y0, (M.ths.set k.toNat y)[j]? = some y0 ∧ y0.slot = s ∧ y0.decs = x0.decs ∧ (j = k.toNat → y0 = y) ∧ y0.evs ≠ [] := by
        have ev0 : x0.evs ≠ [] := (o.ths x0 hx0).1.live (.inl (by rw [h4]; simp))
        by_cases cj : j = k.toNat
        · subst cj
          rw [hx] at hj; cases hj
          have q := tri1 h4
          have dd : y.decs = x.decs := by rw [R.evs, q.2]
          refine ⟨y, by rw [List.getElem?_set_self hlt], by rw [R.slot q.1, e1]; exact h3, dd, fun _ => rfl, fun h => ev0 ?_⟩
          unfold Th.decs at dd
          rw [h] at dd
          simpa using dd.symm
        · exact ⟨x0, by rw [List.getElem?_set_ne (Ne.symm cj)]; exact hj, h3, rfl, fun h => absurd h cj, ev0⟩
      have uniq : ∀ {i : Nat} {z : Th}, (M.ths.set k.toNat y)[i]? = some z → z.slot = s → i = j := fun {i z} hz hsl => by
        have a : ((M.ths.set k.toNat y).map fun x => x.decide s M.picks)[i]? = some (z.decide s M.picks) := by rw [List.getElem?_map, hz]; rfl
        have b : ((M.ths.set k.toNat y).map fun x => x.decide s M.picks)[j]? = some (y0.decide s M.picks) := by rw [List.getElem?_map, hy0]; rfl
        have hd : ∀ z : Th, (z.decide s M.picks).hold = z.hold := fun z => by unfold Th.decide; split <;> rfl
        refine S'.one a b sb.1 sb.2 ?_ ?_
        · rw [hd, ← hsl]; exact hold_slot (by omega)
        · rw [hd, ← ys]; exact hold_slot (by omega)
      have p0 := o.p0
      obtain ⟨v1, v2, v3⟩ := evTurn_cnt (es := y0.evs) (pick := M.picks) ye (by
        intro h; exact nd0 (by unfold Th.dcd; rw [← yd]; exact h)) p0
      have dec0 : y0.decide s M.picks = { y0 with evs := evTurn y0.evs fun e => { e with decided := M.picks } } := by unfold Th.decide; rw [if_pos ys]
      have decN : ∀ {z : Th}, z.slot ≠ s → z.decide s M.picks = z := fun {z} h => by unfold Th.decide; rw [if_neg h]
      -- of each thread before it is told
      have pre : ∀ {i : Nat} {z : Th}, (M.ths.set k.toNat y)[i]? = some z → ThW D' (lf L') B z (z.dcd ∨ z.slot = s) := fun {i z} hz => by
        have hz' := hz
        rw [List.getElem?_set] at hz'
        split at hz'
        · rename_i ci
          cases hz'
          refine R.th.congr ⟨fun h => h.imp_right fun h => ?_, fun h => h.imp_right fun h => ?_⟩
          · have ij := uniq hz h
            have hjk : j = k.toNat := by omega
            subst hjk
            rw [hx] at hj; cases hj
            rw [e1, h3]
            exact ⟨sb.1, (hdc s sb.1 sb.2).2 rfl⟩
          · have hs1 := (hdc _ h.1 (by rw [e1]; exact ox.1.s1)).1 h.2
            have hxs : x.slot = s := by rw [← e1]; exact hs1
            have hxt := holder s g sb.1 sb.2 g1 ho hx hxs
            rw [R.slot (tri1 hxt).1, e1]; exact hxs
        · rename_i ci
          have os := (o.ths z (List.mem_of_getElem? hz')).1.s1
          refine (oth (Ne.symm ci) hz').congr ⟨fun h => h.imp_right fun h => (hdc _ h.1 os).1 h.2, fun h => h.imp_right fun h => ?_⟩
          rw [h]; exact ⟨sb.1, (hdc s sb.1 sb.2).2 rfl⟩
      refine ⟨⟨D', R.wa, fun z hz => ?_, fun s' g' s0 s1 g1' ho' => ?_, R.ep, fun z hz v hv => ?_⟩, .inr ⟨trivial, _, rfl, tl, ?_⟩⟩
      · obtain ⟨u, hu, rfl⟩ := List.mem_map.1 hz
        obtain ⟨i, hi⟩ := List.mem_iff_getElem?.1 hu
        refine (pre hi).decided.congr ?_
        by_cases cs : u.slot = s
        · have := uniq hi cs
          subst this
          rw [hy0] at hi; cases hi
          rw [dec0]
          exact ⟨fun _ => ⟨M.picks, v3, p0⟩, fun _ => .inr cs⟩
        · rw [decN cs]
          exact ⟨fun h => h.elim id fun h => absurd h cs, .inl⟩
      · obtain ⟨z, hz, q1, q2⟩ := opn s' g' s0 s1 g1' ho'
        refine ⟨z.decide s M.picks, List.mem_map.2 ⟨z, hz, rfl⟩, ?_, ?_⟩
        · unfold Th.decide; split <;> exact q1
        · unfold Th.decide; split <;> exact q2
      · obtain ⟨u, hu, rfl⟩ := List.mem_map.1 hz
        show v < M.picks + 1
        by_cases cs : u.slot = s
        · obtain ⟨i, hi⟩ := List.mem_iff_getElem?.1 hu
          have := uniq hi cs
          subst this
          rw [hy0] at hi; cases hi
          rw [dec0] at hv
          rcases v2 v hv with q | q
          · have := bdd y0 hu v q; omega
          · omega
        · rw [decN cs] at hv
          have := bdd u hu v hv; omega
      · show (((M.ths.set k.toNat y).map fun x => x.decide s M.picks).map fun x => cntD x.decs).sum = M.cnt + (if (noteT B L' k y).wins = true then 1 else 0)
        rw [w1, if_pos rfl]
        have e : ((M.ths.set k.toNat y).map fun x => x.decide s M.picks) = (M.ths.set k.toNat y).set j (y0.decide s M.picks) := map_one hy0 fun i z hz hi => decN fun h => hi (uniq hz h)
        rw [e]
        have := sum_set (f := fun x : Th => cntD x.decs) (y := y0.decide s M.picks) hy0
        try simp only at this
        rw [cn] at this
        have e3 : cntD (y0.decide s M.picks).decs = cntD y0.decs + 1 := by rw [dec0]; exact v1
        rw [e3] at this
        unfold Mc.cnt
        omega
end
attribute [local irreducible] bnd ldV stV ifV binV eqI
theorem Mc.cnt_events (M : Mc) : M.cnt = cntD (M.events.map Event.decided) := by
  unfold Mc.cnt Mc.events
  generalize M.ths = xs
  induction xs with
  | nil => rfl
  | cons x xs ih =>
    rw [List.map_cons, List.sum_cons, ih, List.flatMap_cons, List.map_append]
    unfold cntD
    rw [List.countP_append]; rfl
theorem Mc.mw.below {M : Mc} {D : Int → Option Dw} (m : M.mw D) {e : Event} (h : e ∈ M.events) : e.decided < M.picks := by
  unfold Mc.events at h
  obtain ⟨x, hx, he⟩ := List.mem_flatMap.1 h
  exact m.bd x hx _ (List.mem_map.2 ⟨e, he, rfl⟩)
theorem cntD_take {es : List Event} {j : Nat} {e : Event} (h : es[j]? = some e) : cntD ((es.take (j + 1)).map Event.decided) = cntD ((es.take j).map Event.decided) + (if 0 ≤ e.decided then 1 else 0) := by
  rw [List.take_add_one, h, List.map_append]
  unfold cntD
  rw [List.countP_append]
  congr 1
  simp [List.countP_singleton]
theorem events_le {M : Mc} (o : M.ok) : M.events.length ≤ 32 := by
  have : ∀ xs : List Th, (∀ y ∈ xs, y.evs.length ≤ 8) → (xs.flatMap Th.evs).length ≤ 8 * xs.length := by
    intro xs
    induction xs with
    | nil => intro _; simp
    | cons y ys ih =>
      intro h
      have a := h y (by simp)
      have b := ih fun z hz => h z (List.mem_cons_of_mem _ hz)
      rw [List.flatMap_cons, List.length_append, List.length_cons]; omega
  have a := this M.ths fun y hy => by
    have := (o.ths y hy).1
    have := this.evs; have := (thrMay_spec (o.ths y hy).1.txns).1; omega
  have := o.n
  show (M.ths.flatMap Th.evs).length ≤ 32
  omega
section
variable {h g : GH} {K : Value → GH → Prop} {v pv : Value} {p : Plan} {picks : List Int}
theorem T_MachineDecided (hp : All [baseP g] h) (ht : threadsAt g v p.threads) (rp : rowsAt g 1 pv (picks.map encI)) (hK : ∀ h', K (.bool true) h') : T Tryz.prog 3 [.agg (planC v p).toArray, pv] h K := by
  apply S3_T
  unfold S3
  have hpl : lnV pv = some (i64 picks.length) := by have := rp.len; rw [List.length_map] at this; exact this
  have hpm : picks.length ≤ 9223372036854775807 := by have := rp.max; rw [List.length_map] at this; exact this
  refine nw hp (.row 24 (planC v p) 3 true) rfl fun d h1 hp => ?_
  refine T_mawake hp fun h2 hp => ?_
  refine wk ?_
  refine la0 hp (c := planC v p) (Nat.le_refl 3) rfl ?_
  refine T_mNew hp (fun h' hp => All.baseLe hp.tail) ht (fun hm h3 hp => ?_) fun hm b h3 hp => ?_
  · refine wk ?_
    refine T_Num ?_
    refine wk ?_
    exact hK _
  refine wk ?_
  refine T_Num ?_
  refine wk ?_
  unfold S3_j1
  refine Lfp_fam (ι := Nat × Mc × Nat) (fun q => [pv, ptr b, i64 (q.2.2 : Int), i64 q.2.1.picks, i64 q.1]) (fun q h' => q.1 ≤ picks.length ∧ q.1 ≤ 400 ∧ q.2.1.ok ∧ (∃ fr c, q.2.1.si fr c) ∧ q.2.1.rep p.threads.length ∧ (∃ D, q.2.1.mw D) ∧ (0 ≤ q.2.1.picks ∧ q.2.1.picks ≤ q.1) ∧ q.2.1.cnt = q.2.2 ∧ All (mcP b q.2.1 :: [baseP g]) h') (fun q => picks.length - q.1) ?_ (0, Mc.new p, 0) h3 ⟨by omega, by omega, Mc.new_ok hm, ⟨_, _, Mc.new_si⟩, Mc.new_rep p, ⟨_, Mc.new_mw⟩, ⟨Int.le_refl 0, Int.le_refl 0⟩, Mc.new_cnt, hn (hp.re 3 [0, 2])⟩
  clear hp
  rintro ⟨i, M, cn⟩ h5 X ⟨hi, hi2, o, ⟨fr, c, S⟩, rr, ⟨D, m⟩, hpk, hc, hp⟩ again
  simp only at hi hi2 o S rr m hpk hc hp
  subst hc
  simp only [tup_zero, tup_succ]
  refine bnd_of hpl ?_
  refine wk ?_
  refine ifV_cases (fun c1 => ?_) fun c1 => hK _
  refine wk ?_
  refine ifV_cases (fun c2 => ?_) fun c2 => hK _
  unfold S3_j2
  obtain ⟨x, hx⟩ : ∃ x, picks[i]? = some x := ⟨_, List.getElem?_eq_getElem (by omega)⟩
  obtain ⟨q1, d1, d2⟩ := (rp.le (All.baseLe hp.tail)).get1 (i := i) (x := i64 x) (by rw [List.getElem?_map, hx]; rfl) .i64
  refine bnd_of d1 (bnd_of d2 ?_)
  refine T_mPick hp o fun h6 hp => ?_
  by_cases hk : 0 ≤ x ∧ x < M.ths.length
  · have o2 := Mc.pick_ok (k := x) o
    obtain ⟨fr', c', S', _⟩ := Mc.pick_si (k := x) o S
    have rr2 := Mc.pick_rep (k := x) o rr (by omega)
    obtain ⟨e0, e1, ⟨D', m'⟩, cs⟩ := Mc.pick_w (k := x) o S rr m (by omega) hk
    have next := again
    generalize M.pick x = r at hp o2 S' rr2 e0 e1 m' cs
    obtain ⟨M', is, e⟩ := r
    dsimp only at hp o2 S' rr2 e0 e1 m' cs ⊢
    subst e0
    refine wk ?_
    refine T_Num ?_
    refine wk ?_
    refine T_mTouches hp o2 fun tsv h7 hp => ?_
    have htl : lnV tsv = some (i64 M'.ts.length) := by have := All.len hp; rw [List.length_map] at this; exact this
    have hcn := M'.cnt_events
    have hev := events_le o2
    have hcl : M'.cnt ≤ 32 := by
      rw [hcn]; unfold cntD
      have := List.countP_le_length (p := fun v => decide ((0 : Int) ≤ v)) (l := M'.events.map Event.decided)
      rw [List.length_map] at this; omega
    have j4 : ∀ {s1 : Nat → Value} {h8 : GH}, All [mcP b M', baseP g] h8 → S3_j4 s1 pv (ptr b) (i64 (M'.cnt : Int)) (i64 M.picks) (i64 i) h8 K X := by
      intro s1 h8 hp
      unfold S3_j4
      refine T_mEvents hp o2 fun esv h9 hp => ?_
      refine evoP_open hp fun ws hw hp => ?_
      have hel : lnV esv = some (i64 M'.events.length) := by have := All.len hp; rw [evCs_len hw] at this; exact this
      refine Lfp_fam (ι := Nat × Int) (fun q => [pv, ptr b, i64 (M'.cnt : Int), i64 M.picks, i64 i, esv, i64 (cntD ((M'.events.take q.1).map Event.decided) : Int), i64 q.2, i64 q.1]) (fun q h' => q.1 ≤ M'.events.length ∧ (0 ≤ q.2 ∧ q.2 ≤ M.picks) ∧ All (rowP 8 esv (evCs M'.events ws) :: All (ansO ws M'.events) :: mcP b M' :: [baseP g]) h') (fun q => M'.events.length - q.1) ?_ (0, 0) h9 ⟨by omega, ⟨Int.le_refl 0, hpk.1⟩, hp⟩
      clear hp
      rintro ⟨j, at_⟩ h10 Y ⟨hj, hat, hp⟩ again2
      simp only at hj hat hp
      simp only [tup_zero, tup_succ]
      refine bnd_of hel ?_
      refine wk ?_
      refine ifV_cases (fun c3 => ?_) fun c3 => ?_
      · obtain ⟨e1', he1⟩ : ∃ e1, M'.events[j]? = some e1 := ⟨_, List.getElem?_eq_getElem (by omega)⟩
        obtain ⟨w1, hw1⟩ : ∃ w1, ws[j]? = some w1 := ⟨_, List.getElem?_eq_getElem (by omega)⟩
        have g1 := evCs_get he1 hw1
        have tk := cntD_take he1
        have bl := m'.below (List.mem_of_getElem? he1)
        have ct : cntD ((M'.events.take j).map Event.decided) ≤ 32 := by
          unfold cntD
          have := List.countP_le_length (p := fun v => decide ((0 : Int) ≤ v)) (l := (M'.events.take j).map Event.decided)
          rw [List.length_map, List.length_take] at this; omega
        obtain ⟨eb, i1, i2, i3, _⟩ := All.elt hp g1 .i64
        refine bnd_of i1 (bnd_of rfl (bnd_of (i2 3 1 (i64 e1'.decided) rfl) ?_))
        refine wk ?_
        refine ifV_cases (fun c4 => ?_) fun c4 => ?_
        · refine wk ?_
          refine bnd_of i1 (bnd_of rfl (bnd_of (i2 3 1 (i64 e1'.decided) rfl) ?_))
          have mm : mmV true (i64 at_) [i64 e1'.decided] = some (i64 (max at_ e1'.decided)) := by
            show some (i64 _) = _
            congr 2
            simp only
            split <;> omega
          refine bnd_of mm ?_
          refine wk ?_
          have nx := again2 (j + 1, max at_ e1'.decided) h10 ⟨by simp only; omega, by simp only; omega, hp⟩ (by simp only; omega)
          simp only at nx
          rw [tk, if_pos c4] at nx
          exact nx
        · refine wk ?_
          have nx := again2 (j + 1, at_) h10 ⟨by simp only; omega, hat, hp⟩ (by simp only; omega)
          simp only at nx
          rw [tk, if_neg c4, Nat.add_zero] at nx
          exact nx
      · have hje : j = M'.events.length := by omega
        subst hje
        rw [List.take_length, ← hcn]
        have done : ∀ h', All (mcP b M' :: [baseP g]) h' → X (tup [pv, ptr b, i64 (M'.cnt : Int), i64 (M.picks + 1), i64 ((i : Int) + 1)]) h' := fun h' hp => by
          have nx := next (i + 1, M', M'.cnt) h' ⟨by simp only; omega, by simp only; omega, o2, ⟨_, _, S'⟩, rr2, ⟨_, m'⟩, by simp only; omega, rfl, hp⟩ (by simp only; omega)
          simp only at nx
          rw [e1] at nx
          exact nx
        have hp' : All (mcP b M' :: [baseP g]) h10 := hn (hp.re 4 [2, 3])
        refine wk ?_
        rw [decide_eq_true rfl]
        refine wk ?_
        refine ifV_cases (fun c5 => ?_) fun c5 => ?_
        · refine wk ?_
          refine ifV_n (by omega) ?_
          refine wk ?_
          exact done _ hp'
        · refine wk ?_
          exact done _ hp'
    have p1 := o2.p1; have ts1 := o2.ts
    rcases cs with ⟨c3, c4⟩ | ⟨c3, t, c4, ⟨t1, t2⟩, c5⟩
    · subst c3
      rw [← c4]
      refine wk ?_
      unfold S3_j3
      refine wk ?_
      exact j4 (hn (hp.re 3 [1, 2]))
    · subst c3
      have tl : M'.ts.length = M.ts.length + 1 := by rw [c4, List.length_append]; rfl
      refine wk ?_
      refine bnd_of htl ?_
      refine wk ?_
      unfold S3_j3
      refine ifV_cases (fun c6 => ?_) fun c6 => absurd (show (0 : Int) < M'.ts.length by omega) (by simpa using c6)
      refine bnd_of htl ?_
      refine wk ?_
      have ge : (M'.ts.map Touch.enc)[M.ts.length]? = some t.enc := by rw [c4, List.map_append, List.getElem?_append_right (by simp)]; simp
      obtain ⟨tb, i1, i2, i3, _⟩ := All.elt hp ge .i64
      rw [show (M'.ts.length : Int) - 1 = ((M.ts.length : Nat) : Int) by omega]
      refine bnd_of i1 (bnd_of i3 ?_)
      refine nwst hp (.row 37 t.enc 8 true) rfl rfl rfl rfl fun d h8 hp => ?_
      have no : t.wins = false → ∀ h', All (pts d (.row 37 t.enc 8 true) :: rowP 8 tsv (M'.ts.map Touch.enc) :: mcP b M' :: [baseP g]) h' → S3_j4 (tup [pv, ptr b, i64 (M.cnt : Int), i64 M.picks, i64 i]) pv (ptr b) (i64 (M.cnt : Int)) (i64 M.picks) (i64 i) h' K X := fun hw h' hp => by
        rw [hw, if_neg (by decide), Nat.add_zero] at c5
        rw [← c5]
        exact j4 (hn (hp.re 4 [2, 3]))
      refine wk ?_
      refine ifV_cases (fun k1 => ?_) fun k1 => no (by unfold Touch.wins; rw [decide_eq_false k1]; rfl) _ hp
      refine wk ?_
      refine ifN_cases (fun k2 => ?_) fun k2 => no (by unfold Touch.wins; rw [decide_eq_false (show ¬ t.was ≠ t.now by simpa using k2)]; simp) _ hp
      refine wk ?_
      refine ifV_cases (fun k3 => ?_) fun k3 => no (by unfold Touch.wins; rw [decide_eq_false k3]; simp) _ hp
      have k3 : 34 ≤ t.at_ := k3
      have nn := t2 k1 k3 k2
      refine wk ?_
      refine bnd_of (rem_nn (by omega) (by decide)) ?_
      refine wk ?_
      refine ifV_cases (fun k4 => ?_) fun k4 => no (by unfold Touch.wins; rw [decide_eq_false k4]; simp) _ hp
      refine wk ?_
      refine bnd_of (shr2 _) ?_
      refine bnd_of (binV_and_mask _ 2 (by decide) rfl) ?_
      refine wk ?_
      refine ifV_cases (fun k5 => ?_) fun k5 => no (by unfold Touch.wins; rw [decide_eq_false (show ¬ t.now / 4 % 4 = 1 from k5)]; simp) _ hp
      have w : t.wins = true := by
        unfold Touch.wins
        rw [decide_eq_true k1, decide_eq_true k2, decide_eq_true k3, decide_eq_true k4, decide_eq_true (show t.now / 4 % 4 = 1 from k5)]; rfl
      rw [w, if_pos rfl] at c5
      refine wk ?_
      rw [show (M.cnt : Int) + 1 = ((M'.cnt : Nat) : Int) by omega]
      exact j4 (hn (hp.re 4 [2, 3]))
  · have hM : M.pick x = (M, false, 1900) := by unfold Mc.pick; rw [if_pos (.inl hk)]
    rw [hM] at hp ⊢
    refine wk ?_
    refine T_Num ?_
    refine wk ?_
    exact again (i + 1, M, M.cnt) _ ⟨by simp only; omega, by simp only; omega, o, ⟨_, _, S⟩, rr, ⟨_, m⟩, by simp only; omega, rfl, hp⟩ (by simp only; omega)
end
end Go.Proofs.YtkflebignnmomaaGreat
