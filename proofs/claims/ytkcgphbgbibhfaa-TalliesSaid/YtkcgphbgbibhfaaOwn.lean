/- Rows that a function owns: they grow and are written. Nothing here is a statement on the program. -/
import Derived.Test.YtkcgphbgbibhfaaBase
namespace Go.Proofs.Ytkcgphbgbibhfaa
open Go GW Go.Proofs
set_option linter.unusedVariables false
set_option linter.unusedSimpArgs false
/-- what was known and may not have been written is as it was -/
def Keep (S : Nat → Prop) (h h' : GH) : Prop := ∀ b g, h b = some g → ¬ S b → h' b = some g
theorem Keep.refl (S : Nat → Prop) (h : GH) : Keep S h h := fun _ _ e _ => e
theorem Keep.trans {S : Nat → Prop} {a b c : GH} (x : Keep S a b) (y : Keep S b c) : Keep S a c := fun k g e n => y k g (x k g e n) n
theorem Keep.mono {S S' : Nat → Prop} {a b : GH} (x : Keep S a b) (l : ∀ k, S k → S' k) : Keep S' a b := fun k g e n => x k g e fun q => n (l k q)
theorem GW.HLe.keep {h0 h h' : GH} {S : Nat → Prop} (l : HLe h0 h) (k : Keep S h h') (f : ∀ b, S b → h0 b = Option.none) : HLe h0 h' := fun b g e => k b g (l b g e) fun q => by rw [f b q] at e; cases e
theorem GW.HLe.toKeep {h h' : GH} (S : Nat → Prop) (l : HLe h h') : Keep S h h' := fun b g e _ => l b g e
/-- the block of a slice -/
def blk (v : Value) (b : Nat) : Prop := match v with | .slice (some a) _ _ => a.block = b | _ => False
@[simp] theorem blk_none (n c b : Nat) : blk (.slice none n c) b = False := rfl
@[simp] theorem blk_some (a : Addr) (n c b : Nat) : blk (.slice (some a) n c) b = (a.block = b) := rfl
def good (size : Nat) (c : List Value) : Prop := c.length = size ∧ c.all oneCell = true
/-- a row of one's own -/
def own (h : GH) (size : Nat) (v : Value) (cs : List (List Value)) : Prop :=
  ∃ a cap, v = .slice a cs.length cap ∧ cs.length ≤ cap ∧ cs.length ≤ 9223372036854775807 ∧ (∀ c ∈ cs, good size c) ∧
    ((a = none ∧ cs = [] ∧ cap = 0) ∨ ∃ b T, a = some ⟨b, 0, none⟩ ∧ h b = some (.row T cs.flatten (cap * size) true))
theorem own_nil (h : GH) (size : Nat) : own h size (.slice none 0 0) [] := ⟨none, 0, rfl, Nat.le_refl _, by decide, (fun c hc => by cases hc), .inl ⟨rfl, rfl, rfl⟩⟩
theorem own_of {h : GH} {b : Nat} {T : TypeId} {cells : List Value} {cs : List (List Value)} {size n cap sz : Nat} (hb : h b = some (.row T cells sz true)) (hc : cells = cs.flatten) (hn : n = cs.length) (hsz : sz = cap * size) (hl : n ≤ cap) (hm : n ≤ 9223372036854775807) (hg : ∀ c ∈ cs, good size c) : own h size (.slice (some ⟨b, 0, none⟩) n cap) cs := by
  subst hc hn hsz
  exact ⟨_, cap, rfl, hl, hm, hg, .inr ⟨b, T, rfl, hb⟩⟩
theorem own.le {h h' : GH} {size : Nat} {v : Value} {cs : List (List Value)} (o : own h size v cs) (l : HLe h h') : own h' size v cs := by
  obtain ⟨a, cap, h1, h2, h3, h4, h5⟩ := o
  refine ⟨a, cap, h1, h2, h3, h4, h5.imp id fun ⟨b, T, e, hb⟩ => ⟨b, T, e, l _ _ hb⟩⟩
theorem own.keep {h h' : GH} {size : Nat} {v : Value} {cs : List (List Value)} {S : Nat → Prop} (o : own h size v cs) (k : Keep S h h') (d : ∀ b, blk v b → ¬ S b) : own h' size v cs := by
  obtain ⟨a, cap, h1, h2, h3, h4, h5⟩ := o
  refine ⟨a, cap, h1, h2, h3, h4, h5.imp id fun ⟨b, T, e, hb⟩ => ⟨b, T, e, k _ _ hb (d b (by subst h1 e; rfl))⟩⟩
theorem own.known {h : GH} {size : Nat} {v : Value} {cs : List (List Value)} (o : own h size v cs) {b : Nat} (hb : blk v b) : ∃ g, h b = some g := by
  obtain ⟨a, cap, h1, h2, h3, h4, h5⟩ := o
  subst h1
  rcases h5 with ⟨rfl, _⟩ | ⟨b', T, rfl, e⟩
  · exact hb.elim
  · have : b' = b := hb
    subst this; exact ⟨_, e⟩
theorem own.rows {h : GH} {size : Nat} {v : Value} {cs : List (List Value)} (o : own h size v cs) : rowsAt h size v cs := by
  obtain ⟨a, cap, rfl, h2, h3, h4, h5⟩ := o
  rcases h5 with ⟨rfl, rfl, rfl⟩ | ⟨b, T, rfl, e⟩
  · exact ⟨none, 0, 0, rfl, rfl, Nat.le_refl _, by decide, fun i c hc => by simp at hc⟩
  · exact rowsAt_of e rfl h2 h3 (fun c hc => (h4 c hc).1) (Nat.zero_le _) ⟨[], by simp⟩
theorem rowsAt.cells {h : GH} {size : Nat} {v : Value} {cs : List (List Value)} (r : rowsAt h size v cs) (hg : ∀ c ∈ cs, c.length = size) : cellsAt size cs.length v h = some cs.flatten := by
  obtain ⟨a, n, cap, rfl, hl, _, _, hr⟩ := r
  cases cs with
  | nil => cases a <;> simp [cellsAt]
  | cons c cs =>
    obtain ⟨b, off, T, pre, sz, f, rfl, hb, _, _⟩ := hr 0 c rfl
    generalize hcs : c :: cs = ds at *
    have each : ∀ i d, ds[i]? = some d → off + i * size + size ≤ pre.length ∧ (pre.drop (off + i * size)).take size = d := by
      intro i d hd
      obtain ⟨b', off', T', pre', sz', f', e1, e2, e3, e4⟩ := hr i d hd
      cases e1
      rw [hb] at e2; cases e2
      exact ⟨e3, e4⟩
    have upto : ∀ m, m ≤ ds.length → (pre.drop off).take (m * size) = (ds.take m).flatten ∧ (0 < m → off + m * size ≤ pre.length) := by
      intro m
      induction m with
      | zero => intro _; simp
      | succ m ih =>
        intro hm
        obtain ⟨d, hd⟩ : ∃ d, ds[m]? = some d := ⟨_, List.getElem?_eq_getElem (by omega)⟩
        obtain ⟨e1, e2⟩ := each m d hd
        refine ⟨?_, fun _ => by rw [Nat.add_mul]; omega⟩
        rw [Nat.add_mul, Nat.one_mul, List.take_add, (ih (by omega)).1, List.drop_drop, e2, List.take_add_one, hd]
        simp
    obtain ⟨u1, u2⟩ := upto ds.length (Nat.le_refl _)
    have hpos : 0 < ds.length := by subst hcs; simp
    rw [List.take_length] at u1
    simp only [cellsAt]
    cases hz : Nat.beq (ds.length * size) 0 with
    | true =>
      have := Nat.eq_of_beq_eq_true hz
      rw [this, List.take_zero] at u1
      rw [← u1]
    | false =>
      have : Nat.ble (off + ds.length * size) pre.length = true := Nat.ble_eq_true_of_le (u2 hpos)
      simp only [hb, this, u1]
theorem flatten_good {size : Nat} : ∀ (cs : List (List Value)), (∀ c ∈ cs, good size c) → cs.flatten.length = cs.length * size ∧ cs.flatten.all oneCell = true := by
  intro cs
  induction cs with
  | nil => intro _; simp
  | cons c cs ih =>
    intro h
    obtain ⟨h1, h2⟩ := ih fun d hd => h d (List.mem_cons_of_mem _ hd)
    obtain ⟨h3, h4⟩ := h c (by simp)
    refine ⟨?_, ?_⟩
    · rw [List.flatten_cons, List.length_append, h1, h3, List.length_cons, Nat.add_mul]; omega
    · rw [List.flatten_cons, List.all_append, h2, h4]; rfl
/-- append -/
theorem own_ap {h : GH} {size bytes : Nat} {T : TypeId} {v x : Value} {cs new : List (List Value)} {K : Value → GH → Prop} (o : own h size v cs) (r : rowsAt h size x new) (hn : ∀ c ∈ new, good size c)
    (hby : 0 < bytes) (hb : (cs.length + new.length) * bytes ≤ 140737488355328)
    (k : ∀ v' h', own h' size v' (cs ++ new) → Keep (blk v) h h' → (∀ b, blk v' b → blk v b ∨ h b = none) → K v' h') : apV T size bytes v x h K := by
  have hcells := r.cells fun c hc => (hn c hc).1
  have hcells2 := o.rows.cells
  obtain ⟨xa, n, xc, rfl, rfl, _, _, _⟩ := r
  obtain ⟨a, cap, rfl, h2, h3, h4, h5⟩ := o
  obtain ⟨g1, g2⟩ := flatten_good new hn
  obtain ⟨g3, g4⟩ := flatten_good cs h4
  have hall : ∀ c ∈ cs ++ new, good size c := fun c hc => (List.mem_append.1 hc).elim (h4 c) (hn c)
  have hlen : cs.length + new.length ≤ 9223372036854775807 := by
    have := Nat.le_mul_of_pos_right (cs.length + new.length) hby
    omega
  simp only [apV, hcells, bnd_some]
  have hold := hcells2 fun c hc => (h4 c hc).1
  split
  · rename_i hle
    by_cases hz : new.flatten = []
    · simp only [putV, hz, bnd_some]
      refine k _ _ ⟨a, cap, by simp, by simpa using hle, by simpa using hlen, hall, ?_⟩ (.refl _ _) fun b hb => .inl ?_
      · rcases h5 with ⟨rfl, rfl, rfl⟩ | ⟨b, T', rfl, e⟩
        · have : new = [] := by cases new with
            | nil => rfl
            | cons c l => simp at hle
          exact .inl ⟨rfl, by simp [this], rfl⟩
        · exact .inr ⟨b, T', rfl, by rw [List.flatten_append, hz, List.append_nil]; exact e⟩
      · cases a <;> exact hb
    · rcases h5 with ⟨rfl, rfl, rfl⟩ | ⟨b, T', rfl, e⟩
      · have : new = [] := by cases new with
          | nil => rfl
          | cons c l => simp at hle
        exact absurd (by simp [this]) hz
      · have hput : putV (some ⟨b, 0, none⟩) (cs.length * size) new.flatten h = some (upd h b (.row T' (cs.flatten ++ new.flatten) (cap * size) true)) := by
          have c1 : Nat.ble (0 + cs.length * size) cs.flatten.length = true := Nat.ble_eq_true_of_le (by omega)
          have c2 : Nat.ble (0 + cs.length * size + new.flatten.length) (cap * size) = true := Nat.ble_eq_true_of_le (by
            rw [g1, Nat.zero_add, ← Nat.add_mul]; exact Nat.mul_le_mul_right _ hle)
          have c3 : putL cs.flatten (0 + cs.length * size) new.flatten = cs.flatten ++ new.flatten := by
            unfold putL
            rw [Nat.zero_add, ← g3, List.take_length, List.drop_eq_nil_of_le (by omega), List.append_nil]
          unfold putV
          split
          · rename_i q; exact absurd q hz
          · simp only [e, c1, c2, g2, Bool.and_self, c3]
        rw [hput]
        simp only [bnd_some]
        refine k _ _ ⟨_, cap, by simp, by simpa using hle, by simpa using hlen, hall, .inr ⟨b, T', rfl, by rw [List.flatten_append]; exact upd_same _ _ _⟩⟩ ?_ fun b' hb' => .inl ?_
        · intro k' g e' n
          have : k' ≠ b := fun q => n (by subst q; rfl)
          rw [upd_ne this]; exact e'
        · exact hb'
  · rename_i hle
    rw [hold]
    simp only [bnd_some]
    refine ⟨hb, hlen, g3, g1, fun b nc hb' hnc => ?_⟩
    refine k _ _ ⟨_, nc, by simp, by simpa using hnc, by simpa using hlen, hall, .inr ⟨b, T, rfl, by rw [List.flatten_append]; exact upd_same _ _ _⟩⟩ ?_ fun b' hb'' => .inr ?_
    · intro k' g e' n
      rw [upd_ne (ne_of_fresh hb' e')]; exact e'
    · have : b = b' := hb''
      subst this; exact hb'
/-- what was lent: a row of one's own with more behind it -/
def lent (h : GH) (size : Nat) (v : Value) (cs ms : List (List Value)) : Prop :=
  ∃ a cap, v = .slice a cs.length cap ∧ own h size (.slice a (cs ++ ms).length cap) (cs ++ ms)
theorem lent.le {h h' : GH} {size : Nat} {v : Value} {cs ms : List (List Value)} (o : lent h size v cs ms) (l : HLe h h') : lent h' size v cs ms := by
  obtain ⟨a, cap, e, o⟩ := o
  exact ⟨a, cap, e, o.le l⟩
theorem lent.known {h : GH} {size : Nat} {v : Value} {cs ms : List (List Value)} (o : lent h size v cs ms) {b : Nat} (hb : blk v b) : ∃ g, h b = some g := by
  obtain ⟨a, cap, rfl, o⟩ := o
  exact o.known (b := b) (by cases a <;> exact hb)
theorem lent.rows {h : GH} {size : Nat} {v : Value} {cs ms : List (List Value)} (o : lent h size v cs ms) : rowsAt h size v cs := by
  obtain ⟨a, cap, rfl, o⟩ := o
  obtain ⟨a', n, cap', e, hl, h1, h2, h3⟩ := o.rows
  cases e
  rw [List.length_append] at h1 h2
  refine ⟨a, cs.length, cap, rfl, rfl, by omega, by omega, fun i c hc => h3 i c ?_⟩
  rw [List.getElem?_append_left (List.getElem?_eq_some_iff.1 hc).1]; exact hc
theorem rowsAt.fld {h : GH} {size : Nat} {v : Value} {cs : List (List Value)} (r : rowsAt h size v cs) {i : Nat} {c : List Value} (hc : cs[i]? = some c) (k : IntKind) :
    ∃ b o, isV size v (.int k i) = some (.pointer (some ⟨b, o, none⟩)) ∧ (∀ (j : Nat) x, c[j]? = some x → ldV 1 false (.pointer (some ⟨b, o + j, none⟩)) h = some x) ∧ ldV size true (.pointer (some ⟨b, o, none⟩)) h = some (.agg c.toArray) := by
  obtain ⟨a, n, cap, rfl, hl, _, _, hr⟩ := r
  obtain ⟨b, off, T, pre, sz, f, rfl, hb, hle, hcc⟩ := hr i c hc
  have hi : i < cs.length := (List.getElem?_eq_some_iff.1 hc).1
  refine ⟨b, off + i * size, ?_, fun j x hj => ?_, ?_⟩
  · simp only [isV]; rw [if_pos ⟨by omega, by omega⟩]; simp
  · rw [ldV_cell hb]
    rw [← hcc, List.getElem?_take] at hj
    split at hj
    · rw [List.getElem?_drop] at hj; exact hj
    · cases hj
  · rw [ldV_agg hb _ _ hle, hcc]
theorem rowsAt.len {h : GH} {size : Nat} {v : Value} {cs : List (List Value)} (r : rowsAt h size v cs) : lnV v = some (i64 cs.length) := by
  obtain ⟨a, n, cap, rfl, hl, _, _, hr⟩ := r
  rw [hl]; rfl
theorem rowsAt.max {h : GH} {size : Nat} {v : Value} {cs : List (List Value)} (r : rowsAt h size v cs) : cs.length ≤ 9223372036854775807 := by
  obtain ⟨a, n, cap, rfl, hl, _, hm, hr⟩ := r
  omega
theorem rowsAt_nil (h : GH) (size : Nat) : rowsAt h size (.slice none 0 0) [] := (own_nil h size).rows
theorem slV_len {size n cap : Nat} {a : Option Addr} {m : Nat} (hm : m ≤ cap) (k : IntKind) : slV size (.slice a n cap) none (some (.int k m)) = some (.slice a m cap) := by
  simp only [slV, sbV]
  rw [if_pos ⟨by omega, by omega⟩]
  have : a.map (fun x => x.add (0 * size)) = a := by cases a <;> simp [Addr.add]
  simp only [Nat.zero_mul] at this
  simp [this]
theorem good_ints {size : Nat} {xs : List Int} (h : xs.length = size) : good size (xs.map i64) := by
  refine ⟨by simpa using h, ?_⟩
  induction xs generalizing size with
  | nil => rfl
  | cons x xs ih => rw [List.map_cons, List.all_cons, ih rfl]; rfl
/-- append of what is written out there -/
theorem own_lit {h : GH} {size bytes len : Nat} {T : TypeId} {cells : List Value} {ps : List (Nat × Nat × Value)} {v : Value} {cs new : List (List Value)} {K : Value → GH → Prop} (hf : fillV cells ps = some new.flatten) (hl : len = new.length) (hn : ∀ c ∈ new, good size c) (o : own h size v cs)
    (hby : 0 < bytes) (hb : (cs.length + new.length) * bytes ≤ 140737488355328)
    (k : ∀ v' h', own h' size v' (cs ++ new) → Keep (blk v) h h' → (∀ b, blk v' b → blk v b ∨ h b = none) → K v' h') : bsV T len cells ps h fun x h1 => apV T size bytes v x h1 K := by
  subst hl
  unfold bsV
  refine bnd_of hf ?_
  intro b hb0
  have l := (HLe.refl h).new (.row T new.flatten new.flatten.length true) hb0
  have hlen : new.length ≤ 9223372036854775807 := by
    have := Nat.le_mul_of_pos_right (cs.length + new.length) hby
    omega
  refine own_ap (o.le l) (rowsAt_of (upd_same _ _ _) rfl (Nat.le_refl _) hlen (fun c hc => (hn c hc).1) (Nat.zero_le _) ⟨[], by simp⟩) hn hby hb fun v' h' o' kp fr => k v' h' o' ((l.toKeep _).trans kp) fun b' hb' => (fr b' hb').imp id l.none
theorem upd_self {h : GH} {b : Nat} {g : GObj} (e : h b = some g) : upd h b g = h := by
  funext k; unfold upd; split
  · subst_vars; exact e.symm
  · rfl
theorem flatten_ints : ∀ {cs : List (List Value)}, (∀ c ∈ cs, ∀ x ∈ c, ∃ k, x = i64 k) → ∀ x ∈ cs.flatten, ∃ k, x = i64 k := by
  intro cs h x hx
  obtain ⟨c, hc, hx⟩ := List.mem_flatten.1 hx
  exact h c hc x hx
theorem binV_xor (a b : Int) : ∃ n, binV .xor (.int .i64 a) (.int .i64 b) = some (i64 n) := ⟨IntKind.i64.wrap (BitVec.ofInt 64 a ^^^ BitVec.ofInt 64 b).toNat, by simp only [binV, intB, if_true]; rfl⟩
theorem setCells_take : ∀ (vs pre : List Value) (off : Nat), off + vs.length ≤ pre.length → setCells pre off vs = pre.take off ++ vs ++ pre.drop (off + vs.length) := by
  intro vs
  induction vs with
  | nil => intro pre off h; simp
  | cons v vs ih =>
    intro pre off h
    simp only [List.length_cons] at h
    rw [setCells_cons, ih _ _ (by rw [List.length_set]; omega)]
    have e1 : (pre.set off v).take (off + 1) = pre.take off ++ [v] := by
      rw [List.take_add_one, List.take_set_of_le (Nat.le_refl _), List.getElem?_set_self (by omega)]; rfl
    rw [e1, List.drop_set_of_lt (by omega)]
    simp only [List.append_assoc, List.length_cons, List.cons_append, List.nil_append]
    rw [Nat.add_assoc, Nat.add_comm 1]
theorem setCells_all {pre vs : List Value} (h : vs.length = pre.length) : setCells pre 0 vs = vs := by
  rw [setCells_take _ _ _ (by omega)]
  simp [h]
/-- a slice written out -/
theorem bsV_rows {h : GH} {size len : Nat} {T : TypeId} {cells : List Value} {ps : List (Nat × Nat × Value)} {K : Value → GH → Prop} (new : List (List Value)) (hf : fillV cells ps = some new.flatten) (hl : len = new.length) (hm : new.length ≤ 9223372036854775807) (hn : ∀ c ∈ new, good size c)
    (k : ∀ v h', own h' size v new → HLe h h' → (∀ b, blk v b → h b = none) → K v h') : bsV T len cells ps h K := by
  subst hl
  unfold bsV
  refine bnd_of hf ?_
  intro b hb0
  refine k _ _ (own_of (upd_same _ _ _) rfl rfl (flatten_good new hn).1 (Nat.le_refl _) hm hn) ((HLe.refl h).new _ hb0) fun b' hb' => ?_
  have : b = b' := hb'
  subst this; exact hb0
/-- a variable that is laid -/
theorem new_st {h : GH} {n : Nat} {T : TypeId} {zero : List Value} {x : Value} {K : Value → GH → Prop} (c : List Value) (hx : x.cells.toList = c) (hc : c.length = n) (hz : zero.length = n) (hone : c.all oneCell = true)
    (k : ∀ b h', h b = none → h' b = some (.row T c n true) → HLe h h' → K (.pointer (some ⟨b, 0, none⟩)) h') : newV T zero h fun v h1 => bnd (stV n v x h1) fun h2 => K v h2 := by
  intro b hb
  subst hx
  have hsz : x.cells.size = n := by rw [← hc]; rfl
  refine bnd_of (v := upd h b (.row T x.cells.toList n true)) ?_ ?_
  · rw [stV_same, if_pos ⟨hsz, by omega, hone⟩, setCells_all (by omega), hz]
  · exact k b _ hb (upd_same _ _ _) ((HLe.refl h).new _ hb)
theorem own.upd {h : GH} {size b : Nat} {v : Value} {cs : List (List Value)} (o : own h size v cs) (g : GObj) (n : ¬ blk v b) : own (upd h b g) size v cs :=
  o.keep (S := fun k => k = b) (fun k g' e ne => by rw [upd_ne ne]; exact e) fun k hk e => n (by subst e; exact hk)
theorem iaV_at {len size b o i : Nat} (hi : i < len) (k : IntKind) : iaV len size (.pointer (some ⟨b, o, none⟩)) (.int k i) = some (.pointer (some ⟨b, o + i * size, none⟩)) := by
  simp only [iaV]; rw [if_pos ⟨by omega, by omega⟩]; simp
theorem st_ints {h : GH} {b s n : Nat} {T : TypeId} {S : List Int} (e : h b = some (.row T (S.map i64) n true)) (hs : s < S.length) (x : Int) : stV 1 (.pointer (some ⟨b, 0 + s * 1, none⟩)) (i64 x) h = some (upd h b (.row T ((S.set s x).map i64) n true)) := by
  rw [stV_row e 1 (0 + s * 1) (i64 x) rfl (by rw [List.length_map]; omega) rfl, List.map_set]
  have : (0 + s * 1) = s := by omega
  rw [this]; rfl
end Go.Proofs.Ytkcgphbgbibhfaa
