/- Several texts in one, each under its own remark or none; nothing here is a statement on the program. -/
import Derived.Test.YtlmafbdhhneokaaGreatKB
import Derived.Test.YtlmafbdhhneokaaGreatKR
namespace Go.Proofs.YtlmafbdhhneokaaGreat
open Go GW Go.Proofs
set_option linter.unusedVariables false
set_option linter.unusedSimpArgs false
structure Op where
  kind : Int
  a : Int
  b : Int
  x : Int
def Op.ints (t : Op) : List Int := [t.kind, t.a, t.b, t.x]
def Op.enc (t : Op) : List Value := [i64 t.kind, i64 t.a, i64 t.b, i64 t.x]
theorem Op.ext_ints {a b : Op} (h : a.ints = b.ints) : a = b := by
  cases a; cases b; simpa [Op.ints] using h
instance : DecidableEq Op := fun a b => if h : a.ints = b.ints then .isTrue (Op.ext_ints h) else .isFalse fun e => h (by rw [e])
theorem Op.enc_len (t : Op) : t.enc.length = 4 := rfl
theorem Op.enc_good (t : Op) : good 4 t.enc := ⟨rfl, rfl⟩
theorem Op.all_good (ts : List Op) : ∀ c ∈ ts.map Op.enc, good 4 c := by
  intro c hc
  obtain ⟨t, _, rfl⟩ := List.mem_map.1 hc
  exact t.enc_good
theorem Op.eqLaw (a b : Op) : eqP Tryz.prog 10000 50 (.agg a.enc.toArray) (.agg b.enc.toArray) = some (decide (a = b)) := by
  have h : eqP Tryz.prog 10000 50 (.agg a.enc.toArray) (.agg b.enc.toArray) = some ((a.kind == b.kind) && ((a.a == b.a) && ((a.b == b.b) && ((a.x == b.x) && true)))) := by kernel_rfl
  rw [h]
  cases a; cases b
  simp [Bool.decide_and, Bool.beq_eq_decide_eq]
end Go.Proofs.YtlmafbdhhneokaaGreat
namespace Go.Proofs.YtlmafbdhhneokaaGreat
open Go GW Go.Proofs
set_option linter.unusedVariables false
set_option linter.unusedSimpArgs false
end Go.Proofs.YtlmafbdhhneokaaGreat
namespace Go.Proofs.YtlmafbdhhneokaaGreat
open Go GW Go.Proofs
set_option linter.unusedVariables false
set_option linter.unusedSimpArgs false
structure Answer where
  code : Int
  num : Int
def Answer.ints (t : Answer) : List Int := [t.code, t.num]
def Answer.enc (t : Answer) : List Value := [i64 t.code, i64 t.num]
theorem Answer.ext_ints {a b : Answer} (h : a.ints = b.ints) : a = b := by
  cases a; cases b; simpa [Answer.ints] using h
instance : DecidableEq Answer := fun a b => if h : a.ints = b.ints then .isTrue (Answer.ext_ints h) else .isFalse fun e => h (by rw [e])
theorem Answer.enc_len (t : Answer) : t.enc.length = 2 := rfl
theorem Answer.enc_good (t : Answer) : good 2 t.enc := ⟨rfl, rfl⟩
theorem Answer.all_good (ts : List Answer) : ∀ c ∈ ts.map Answer.enc, good 2 c := by
  intro c hc
  obtain ⟨t, _, rfl⟩ := List.mem_map.1 hc
  exact t.enc_good
theorem Answer.eqLaw (a b : Answer) : eqP Tryz.prog 10000 55 (.agg a.enc.toArray) (.agg b.enc.toArray) = some (decide (a = b)) := by
  have h : eqP Tryz.prog 10000 55 (.agg a.enc.toArray) (.agg b.enc.toArray) = some ((a.code == b.code) && ((a.num == b.num) && true)) := by kernel_rfl
  rw [h]
  cases a; cases b
  simp [Bool.decide_and, Bool.beq_eq_decide_eq]
theorem T_SameAnswers {v w : Value} {us ws : List Answer} {h : GH} {K : Value → GH → Prop} (r : rowsAt h 2 v (us.map Answer.enc)) (q : rowsAt h 2 w (ws.map Answer.enc)) (hK : K (.bool (decide (us = ws))) h) : T Tryz.prog 17 [v, w] h K := by
  apply S17_T
  unfold S17
  have ⟨a, n, cap, hv, hl, _, hm, _⟩ := r
  have ⟨a2, n2, cap2, hw, hl2, _, hm2, _⟩ := q
  simp only [List.length_map] at hl hl2
  subst hv; subst hw
  simp only [lnV_slice, bnd_some, eqI_int]
  by_cases hlen : n = n2
  · have e1 : ((n : Int) = (n2 : Int)) := by omega
    simp only [e1, decide_true, Bool.not_true, ifV_false]
    refine Lfp_fam (ι := Nat) (fun i => [.slice a n cap, .slice a2 n2 cap2, i64 i]) (fun i h' => i ≤ n ∧ h' = h ∧ us.take i = ws.take i) (fun i => n - i) ?_ 0 h ⟨by omega, rfl, by simp⟩
    intro i h' X ⟨hi, he, hsame⟩ again
    subst he
    simp only [tup_zero, tup_succ, lnV_slice, binV_lss, bnd_some, ifV_dec]
    split
    · rename_i hlt
      obtain ⟨x, hx⟩ : ∃ x, us[i]? = some x := ⟨_, List.getElem?_eq_getElem (by omega)⟩
      obtain ⟨y, hy⟩ : ∃ y, ws[i]? = some y := ⟨_, List.getElem?_eq_getElem (by omega)⟩
      obtain ⟨p, hp, hlp⟩ := r.get (i := i) (c := x.enc) (by simp [hx]) .i64
      obtain ⟨p2, hp2, hlp2⟩ := q.get (i := i) (c := y.enc) (by simp [hy]) .i64
      simp only [hp, hlp, hp2, hlp2, bnd_some, Answer.eqLaw]
      by_cases hxy : x = y
      · simp only [hxy, decide_true, Bool.not_true, ifV_false, binV_add, bnd_some]
        rw [wrap_id (by omega) (by omega)]
        refine again (i + 1) _ ⟨by omega, rfl, ?_⟩ (by omega)
        rw [List.take_add_one, List.take_add_one, hsame, hx, hy, hxy]
      · simp only [hxy, decide_false, Bool.not_false, ifV_true]
        have : us ≠ ws := fun e => hxy (by rw [e, hy] at hx; cases hx; rfl)
        simpa [this] using hK
    · have hi : i = n := by omega
      have : us = ws := by
        rw [List.take_of_length_le (by omega), List.take_of_length_le (by omega)] at hsame
        exact hsame
      simpa [this] using hK
  · have e1 : ¬ ((n : Int) = (n2 : Int)) := by omega
    simp only [e1, decide_false, Bool.not_false, ifV_true]
    have : us ≠ ws := fun e => hlen (by rw [← hl, ← hl2, e])
    simpa [this] using hK
end Go.Proofs.YtlmafbdhhneokaaGreat
namespace Go.Proofs.YtlmafbdhhneokaaGreat
open Go GW Go.Proofs
set_option linter.unusedVariables false
set_option linter.unusedSimpArgs false
def All2 {α β : Type} (R : α → β → Prop) (xs : List α) (ys : List β) : Prop := xs.length = ys.length ∧ ∀ (i : Nat) x y, xs[i]? = some x → ys[i]? = some y → R x y
theorem All2.mono {α β : Type} {R S : α → β → Prop} {xs : List α} {ys : List β} (a : All2 R xs ys) (h : ∀ x y, R x y → S x y) : All2 S xs ys := ⟨a.1, fun i x y hx hy => h x y (a.2 i x y hx hy)⟩
theorem All2.of {α β : Type} {R : α → β → Prop} {Q : α → Prop} (h : ∀ x, Q x → ∃ y, R x y) : ∀ (xs : List α), (∀ x ∈ xs, Q x) → ∃ ys, All2 R xs ys := by
  intro xs
  induction xs with
  | nil => intro _; exact ⟨[], rfl, fun i x y hx => by simp at hx⟩
  | cons x xs ih =>
    intro hq
    obtain ⟨y, hy⟩ := h x (hq x (by simp))
    obtain ⟨ys, h1, h2⟩ := ih fun z hz => hq z (List.mem_cons_of_mem _ hz)
    refine ⟨y :: ys, by simp [h1], fun i a b ha hb => ?_⟩
    cases i with
    | zero => simp at ha hb; subst ha; subst hb; exact hy
    | succ i => exact h2 i a b (by simpa using ha) (by simpa using hb)
theorem All2.get {α β : Type} {R : α → β → Prop} {xs : List α} {ys : List β} (a : All2 R xs ys) {i : Nat} {y : β} (hy : ys[i]? = some y) : ∃ x, xs[i]? = some x ∧ R x y := by
  have hi := (List.getElem?_eq_some_iff.1 hy).1
  obtain ⟨x, hx⟩ : ∃ x, xs[i]? = some x := ⟨_, List.getElem?_eq_getElem (by have := a.1; omega)⟩
  exact ⟨_, hx, a.2 i _ _ hx hy⟩
abbrev Txn := List Op
def txnC (h : GH) (c : List Value) (t : Txn) : Prop := ∃ w, c = [w] ∧ rowsAt h 4 w (t.map Op.enc)
def thrC (h : GH) (c : List Value) (ts : List Txn) : Prop := ∃ w es, c = [w] ∧ rowsAt h 1 w es ∧ All2 (txnC h) es ts
def threadsAt (h : GH) (v : Value) (p : List (List Txn)) : Prop := ∃ es, rowsAt h 1 v es ∧ All2 (thrC h) es p
theorem txnC.le {h h' : GH} {c : List Value} {t : Txn} (a : txnC h c t) (l : HLe h h') : txnC h' c t := by
  obtain ⟨w, h1, h2⟩ := a
  exact ⟨w, h1, h2.le l⟩
theorem thrC.le {h h' : GH} {c : List Value} {t : List Txn} (a : thrC h c t) (l : HLe h h') : thrC h' c t := by
  obtain ⟨w, es, h1, h2, h3⟩ := a
  exact ⟨w, es, h1, h2.le l, h3.mono fun x y q => q.le l⟩
theorem threadsAt.le {h h' : GH} {v : Value} {p : List (List Txn)} (a : threadsAt h v p) (l : HLe h h') : threadsAt h' v p := by
  obtain ⟨es, h2, h3⟩ := a
  exact ⟨es, h2.le l, h3.mono fun x y q => q.le l⟩
structure Plan where
  threads : List (List Txn)
  attempts : Int
  polite : Bool
def planC (v : Value) (p : Plan) : List Value := [v, i64 p.attempts, .bool p.polite]
def ruleOf (k : Int) : Option (Int × Int × Int) :=
  if k = 0 then some (4, 1, 1048576) else if k = 1 then some (4, 1, 1) else if k = 2 then some (4, 1, 1048576) else if k = 3 then some (4, 1, 1048576) else if k = 4 then some (4, 4, 1048576) else
  if k = 5 then some (1, 1, 1) else if k = 6 then some (5, 1, 2) else if k = 7 then some (5, 1, 1) else if k = 8 then some (5, 1, 1) else if k = 9 then some (1, 1, 1) else if k = 10 then some (5, 5, 1) else none
def Op.may (o : Op) : Bool := match ruleOf o.kind with
  | some (a, b, x) => decide (0 ≤ o.a ∧ o.a < a) && (decide (0 ≤ o.b ∧ o.b < b) && decide (0 ≤ o.x ∧ o.x < x))
  | none => false
def Txn.may (t : Txn) : Bool := t.all Op.may && (decide (1 ≤ (t.length : Int)) && decide ((t.length : Int) ≤ 2))
def thrMay (ts : List Txn) : Bool := decide (ts.length ≤ 8) && ts.all Txn.may
def Plan.may (p : Plan) : Bool := decide (1 ≤ p.threads.length ∧ p.threads.length ≤ 4 ∧ 1 ≤ p.attempts ∧ p.attempts ≤ 16) && p.threads.all thrMay
/-- a load of each cell of an element -/
def opAt (h : GH) (b o : Nat) (x : Op) : Prop := ∀ (j : Nat) v, x.enc[j]? = some v → ldV 1 false (.pointer (some ⟨b, o + j, none⟩)) h = some v
theorem HLe.ld {h h' : GH} (l : HLe h h') {n : Nat} {g : Bool} {p v : Value} (e : ldV n g p h = some v) : ldV n g p h' = some v := by
  unfold ldV at e ⊢
  split at e
  · split at e
    · rename_i he; rw [l _ _ he]; exact e
    · cases e
  · cases e
def rules : List Value := [4, 1, 1048576, 4, 1, 1, 4, 1, 1048576, 4, 1, 1048576, 4, 4, 1048576, 1, 1, 1, 5, 1, 2, 5, 1, 1, 5, 1, 1, 1, 1, 1, 5, 5, 1].map i64
theorem rules_at (k : Nat) (hk : k < 11) : ∃ a b x, (rules.drop (k * 3)).take 3 = [i64 a, i64 b, i64 x] ∧ ruleOf k = some (a, b, x) := by
  match k, hk with
  | 0, _ | 1, _ | 2, _ | 3, _ | 4, _ | 5, _ | 6, _ | 7, _ | 8, _ | 9, _ | 10, _ => exact ⟨_, _, _, rfl, rfl⟩
theorem T_OpMay {b o : Nat} {x : Op} {h : GH} {K : Value → GH → Prop} (hx : opAt h b o x) (hK : K (.bool x.may) h) : T Tryz.prog 66 [.pointer (some ⟨b, o, none⟩)] h K := by
  apply T.drop
  apply S66_T
  unfold S66
  refine bnd_of rfl (bnd_of rfl (bnd_of rfl (bnd_of rfl (bnd_of rfl (bnd_of rfl (bnd_of rfl (bnd_of rfl (bnd_of rfl (bnd_of rfl (bnd_of rfl (bnd_of rfl ?_)))))))))))
  refine new_st rules rfl rfl rfl rfl fun b0 h1 f0 e0 l1 => ?_
  have ld (j : Nat) (v : Value) (h' : GH) (l : HLe h h') (hj : x.enc[j]? = some v) : ldV 1 false (.pointer (some ⟨b, o + j, none⟩)) h' = some v := HLe.ld l (hx j v hj)
  refine bnd_of rfl (bnd_of rfl (bnd_of (ld 0 _ h1 l1 rfl) ?_))
  refine T_Below (bnd_of rfl ?_)
  rw [ifV_iff]
  split
  · rename_i hc
    refine ⟨h, l1, ?_⟩
    have : x.may = false := by
      unfold Op.may ruleOf
      simp at hc
      repeat rw [if_neg (by omega)]
    rw [this] at hK; exact hK
  rename_i hc
  have hc : 0 ≤ x.kind ∧ x.kind < 11 := by simpa using hc
  obtain ⟨k, hk⟩ := Int.eq_ofNat_of_zero_le hc.1
  have hk11 : k < 11 := by omega
  obtain ⟨ra, rb, rx, hr, hr2⟩ := rules_at k hk11
  have hmay : x.may = (decide (0 ≤ x.a ∧ x.a < ra) && (decide (0 ≤ x.b ∧ x.b < rb) && decide (0 ≤ x.x ∧ x.x < rx))) := by
    unfold Op.may; rw [hk]; rw [hr2]
  refine bnd_of rfl (bnd_of rfl (bnd_of (ld 0 _ h1 l1 rfl) ?_))
  rw [hk]
  refine bnd_of (iaV_at hk11 .i64) (bnd_of (v := .agg [i64 ra, i64 rb, i64 rx].toArray) ?_ ?_)
  · rw [ldV_agg e0 _ _ (by have : rules.length = 33 := rfl; omega), Nat.zero_add, hr]
  refine new_st [i64 ra, i64 rb, i64 rx] rfl rfl rfl rfl fun b2 h2 f2 e2 l2 => ?_
  have l12 := l1.trans l2
  refine bnd_of rfl (bnd_of rfl (bnd_of (ld 1 _ h2 l12 rfl) (bnd_of rfl (bnd_of (v := i64 ra) (by rw [ldV_cell e2]; rfl) ?_))))
  refine T_Below ?_
  rw [ifV_dec]
  split
  · rename_i c1
    refine bnd_of rfl (bnd_of rfl (bnd_of (ld 2 _ h2 l12 rfl) (bnd_of rfl (bnd_of (v := i64 rb) (by rw [ldV_cell e2]; rfl) ?_))))
    refine T_Below ?_
    rw [ifV_dec]
    split
    · rename_i c2
      refine bnd_of rfl (bnd_of rfl (bnd_of (ld 3 _ h2 l12 rfl) (bnd_of rfl (bnd_of (v := i64 rx) (by rw [ldV_cell e2]; rfl) ?_))))
      refine T_Below ⟨h, l12, ?_⟩
      have : x.may = decide (0 ≤ x.x ∧ x.x < rx) := by rw [hmay, decide_eq_true c1, decide_eq_true c2]; rfl
      rw [this] at hK; exact hK
    · rename_i c2
      refine ⟨h, l12, ?_⟩
      have : x.may = false := by rw [hmay, decide_eq_false c2]; simp
      rw [this] at hK; exact hK
  · rename_i c1
    refine ⟨h, l12, ?_⟩
    have : x.may = false := by rw [hmay, decide_eq_false c1]; simp
    rw [this] at hK; exact hK
theorem T_OpsMay {v : Value} {t : Txn} {h : GH} {K : Value → GH → Prop} (r : rowsAt h 4 v (t.map Op.enc)) (hK : K (.bool t.may) h) : T Tryz.prog 50 [v] h K := by
  apply S50_T
  unfold S50
  have hln := r.len
  have hmx := r.max
  rw [List.length_map] at hln hmx
  refine bnd_of hln ?_
  refine Lfp_fam (ι := Nat) (fun i => [v, i64 t.length, i64 i]) (fun i h' => i ≤ t.length ∧ h' = h ∧ (t.take i).all Op.may = true) (fun i => t.length - i) ?_ 0 h ⟨Nat.zero_le _, rfl, rfl⟩
  intro i h' X ⟨hi, hh, hok⟩ again
  subst hh
  simp only [tup_zero, tup_succ, binV_lss, bnd_some, ifV_dec]
  split
  · rename_i hlt
    obtain ⟨x, hx⟩ : ∃ x, t[i]? = some x := ⟨_, List.getElem?_eq_getElem (by omega)⟩
    obtain ⟨b, o, e2, hf, ha⟩ := r.fld (i := i) (c := x.enc) (by simp [hx]) .i64
    refine bnd_of e2 (T_OpMay hf (bnd_of rfl ?_))
    rw [ifV_iff]
    split
    · rename_i hm
      have : t.may = false := by
        unfold Txn.may
        have : t.all Op.may = false := List.all_eq_false.2 ⟨x, List.mem_of_getElem? hx, by simpa using hm⟩
        rw [this]; rfl
      rw [this] at hK; exact hK
    · rename_i hm
      refine bnd_of (binV_add _ _ _) ?_
      rw [wrap_id (by omega) (by omega)]
      refine again (i + 1) h' ⟨by omega, rfl, ?_⟩ (by omega)
      rw [List.take_add_one, hx, List.all_append, hok]
      simpa using hm
  · rename_i hge
    have hall : t.take i = t := List.take_of_length_le (by omega)
    rw [hall] at hok
    refine bnd_of hln (bnd_of (binV_geq _ _ _) ?_)
    rw [ifV_dec]
    split
    · rename_i c1
      refine bnd_of hln (bnd_of (binV_leq _ _ _) ?_)
      have : t.may = decide ((t.length : Int) ≤ 2) := by unfold Txn.may; rw [hok, decide_eq_true c1]; rfl
      rw [this] at hK; exact hK
    · rename_i c1
      have : t.may = false := by unfold Txn.may; rw [decide_eq_false c1]; simp
      rw [this] at hK; exact hK
end Go.Proofs.YtlmafbdhhneokaaGreat
namespace Go.Proofs.YtlmafbdhhneokaaGreat
open Go GW Go.Proofs
set_option linter.unusedVariables false
set_option linter.unusedSimpArgs false
theorem op_eq4 (k a b x k' a' b' x' : Int) : eqP Tryz.prog 10000 50 (.agg [.int .i64 k, .int .i64 a, .int .i64 b, .int .i64 x].toArray) (.agg [.int .i64 k', .int .i64 a', .int .i64 b', .int .i64 x'].toArray) = some (decide (k = k' ∧ a = a' ∧ b = b' ∧ x = x')) := by
  have := Op.eqLaw ⟨k, a, b, x⟩ ⟨k', a', b', x'⟩
  simp only [Op.enc, Op.mk.injEq] at this
  exact this
theorem T_OpMayRef {x : Op} {h : GH} {K : Value → GH → Prop} (hK : K (.bool x.may) h) : T Tryz.prog 62 [.agg x.enc.toArray] h K := by
  apply T.drop
  apply S62_T
  unfold S62
  obtain ⟨k, a, b, x⟩ := x
  intro b1 hb1
  refine bnd_of rfl (bnd_of (v := i64 k) (by rw [ldV_same]; rfl) (bnd_of rfl (bnd_of (v := i64 a) (by rw [ldV_same]; rfl) (bnd_of rfl ?_))))
  intro b2 hb2
  have hne : b1 ≠ b2 := by rintro rfl; simp at hb2
  refine bnd_of (v := upd (upd h b1 (.row 50 [i64 k, i64 a, i64 b, i64 x] 4 true)) b2 (.row 50 [i64 k, i64 a, i64 0, i64 0] 4 true)) (by rw [stV_same]; rfl) ?_
  have l : ∀ g, HLe h (upd (upd h b1 (.row 50 [i64 k, i64 a, i64 b, i64 x] 4 true)) b2 g) := fun g => ((HLe.refl h).new _ hb1).new _ (((HLe.refl h).new _ hb1).none hb2)
  have fin : ∀ g z, z = (Op.mk k a b x).may → ∃ h0, HLe h0 (upd (upd h b1 (.row 50 [i64 k, i64 a, i64 b, i64 x] 4 true)) b2 g) ∧ K (.bool z) h0 := fun g z e => ⟨h, l g, by rw [e]; exact hK⟩
  unfold S62_j1 S62_j2 S62_j3 S62_j4 S62_j5
  simp only [bnd_some, bnd_none, ifV_true, ifV_false, ifV_dec, ifV_iff, Bool.not_eq_true, Bool.not_eq_eq_eq_not, Bool.not_true, Bool.not_false, decide_eq_true_eq, decide_eq_false_iff_not, tup_zero, tup_succ, binV_add, binV_sub, binV_mul, binV_quo, binV_rem, binV_lss, binV_leq, binV_gtr, binV_geq, eqI_int, cvV_int, unV_not, lnV_slice, exV_tuple, ncV_pointer, faV_pointer, pickO_true, pickO_false, cells_agg, cells_int, cells_bool, cells_pointer, cells_slice, cells_iface, cells_nilIface, cells_func, cells_nilFunc, one_int, one_bool, one_pointer, one_slice, one_iface, one_nilIface, one_func, one_nilFunc, ldV_same, ldV_same_agg, stV_same, upd_same, upd_upd, setCells_nil, setCells_cons, List.set_cons_zero, List.set_cons_succ, List.length_cons, List.length_nil, List.size_toArray, List.all_cons, List.all_nil, Bool.and_true, Bool.and_self, Nat.zero_add, Nat.add_zero, Nat.reduceAdd, Nat.reduceLeDiff, Nat.le_refl, and_self, and_true, true_and, if_true, if_false, List.getElem?_cons_zero, List.getElem?_cons_succ, List.getElem?_toArray, List.drop_zero, List.drop_succ_cons, List.take_succ_cons, List.take_zero, List.take_nil, reduceIte, Int.reduceNeg, Int.reduceEq, Int.reduceLT, Int.reduceLE, Nat.reduceEqDiff, List.length_set, ldV_other hne, op_eq4]
  have cases : k = 0 ∨ k = 1 ∨ k = 2 ∨ k = 3 ∨ k = 4 ∨ k = 5 ∨ k = 6 ∨ k = 7 ∨ k = 8 ∨ k = 9 ∨ k = 10 ∨ ruleOf k = none := by
    unfold ruleOf
    by_cases h0 : 0 ≤ k ∧ k < 11
    · omega
    · repeat rw [if_neg (by omega)]
      simp
  rcases cases with rfl | rfl | rfl | rfl | rfl | rfl | rfl | rfl | rfl | rfl | rfl | hk
  all_goals clear hK
  iterate 11 rotate_left
  · have n (j : Int) (hj : 0 ≤ j ∧ j < 11) : k ≠ j := by
      rintro rfl
      unfold ruleOf at hk
      by_cases q0 : k = 0; · simp [q0] at hk
      by_cases q1 : k = 1; · simp [q1] at hk
      by_cases q2 : k = 2; · simp [q2] at hk
      by_cases q3 : k = 3; · simp [q3] at hk
      by_cases q4 : k = 4; · simp [q4] at hk
      by_cases q5 : k = 5; · simp [q5] at hk
      by_cases q6 : k = 6; · simp [q6] at hk
      by_cases q7 : k = 7; · simp [q7] at hk
      by_cases q8 : k = 8; · simp [q8] at hk
      by_cases q9 : k = 9; · simp [q9] at hk
      by_cases q10 : k = 10; · simp [q10] at hk
      omega
    have hm : (Op.mk k a b x).may = false := by unfold Op.may; rw [hk]
    (try simp only [bnd_some, bnd_none, ifV_true, ifV_false, ifV_dec, ifV_iff, Bool.not_eq_true, Bool.not_eq_eq_eq_not, Bool.not_true, Bool.not_false, decide_eq_true_eq, decide_eq_false_iff_not, tup_zero, tup_succ, binV_add, binV_sub, binV_mul, binV_quo, binV_rem, binV_lss, binV_leq, binV_gtr, binV_geq, eqI_int, cvV_int, unV_not, lnV_slice, exV_tuple, ncV_pointer, faV_pointer, pickO_true, pickO_false, cells_agg, cells_int, cells_bool, cells_pointer, cells_slice, cells_iface, cells_nilIface, cells_func, cells_nilFunc, one_int, one_bool, one_pointer, one_slice, one_iface, one_nilIface, one_func, one_nilFunc, ldV_same, ldV_same_agg, stV_same, upd_same, upd_upd, setCells_nil, setCells_cons, List.set_cons_zero, List.set_cons_succ, List.length_cons, List.length_nil, List.size_toArray, List.all_cons, List.all_nil, Bool.and_true, Bool.and_self, Nat.zero_add, Nat.add_zero, Nat.reduceAdd, Nat.reduceLeDiff, Nat.le_refl, and_self, and_true, true_and, if_true, if_false, List.getElem?_cons_zero, List.getElem?_cons_succ, List.getElem?_toArray, List.drop_zero, List.drop_succ_cons, List.take_succ_cons, List.take_zero, List.take_nil, reduceIte, Int.reduceNeg, Int.reduceEq, Int.reduceLT, Int.reduceLE, Nat.reduceEqDiff, List.length_set, n 0 (by decide), n 1 (by decide), n 2 (by decide), n 3 (by decide), n 4 (by decide), n 5 (by decide), n 6 (by decide), n 7 (by decide), n 8 (by decide), n 9 (by decide), n 10 (by decide)])
    repeat' split
    all_goals first | (exact fin _ _ hm.symm) | (exfalso; simp_all; done)
  all_goals (try simp only [bnd_some, bnd_none, ifV_true, ifV_false, ifV_dec, ifV_iff, Bool.not_eq_true, Bool.not_eq_eq_eq_not, Bool.not_true, Bool.not_false, decide_eq_true_eq, decide_eq_false_iff_not, tup_zero, tup_succ, binV_add, binV_sub, binV_mul, binV_quo, binV_rem, binV_lss, binV_leq, binV_gtr, binV_geq, eqI_int, cvV_int, unV_not, lnV_slice, exV_tuple, ncV_pointer, faV_pointer, pickO_true, pickO_false, cells_agg, cells_int, cells_bool, cells_pointer, cells_slice, cells_iface, cells_nilIface, cells_func, cells_nilFunc, one_int, one_bool, one_pointer, one_slice, one_iface, one_nilIface, one_func, one_nilFunc, ldV_same, ldV_same_agg, stV_same, upd_same, upd_upd, setCells_nil, setCells_cons, List.set_cons_zero, List.set_cons_succ, List.length_cons, List.length_nil, List.size_toArray, List.all_cons, List.all_nil, Bool.and_true, Bool.and_self, Nat.zero_add, Nat.add_zero, Nat.reduceAdd, Nat.reduceLeDiff, Nat.le_refl, and_self, and_true, true_and, if_true, if_false, List.getElem?_cons_zero, List.getElem?_cons_succ, List.getElem?_toArray, List.drop_zero, List.drop_succ_cons, List.take_succ_cons, List.take_zero, List.take_nil, reduceIte, Int.reduceNeg, Int.reduceEq, Int.reduceLT, Int.reduceLE, Nat.reduceEqDiff, List.length_set])
  all_goals repeat' split
  all_goals first | (exfalso; simp_all; done) | (refine fin _ _ ?_; rw [Bool.eq_iff_iff]; simp [Op.may, ruleOf] <;> omega)
end Go.Proofs.YtlmafbdhhneokaaGreat
namespace Go.Proofs.YtlmafbdhhneokaaGreat
open Go GW Go.Proofs
attribute [local irreducible] bnd ldV stV ifV binV eqI
set_option linter.unusedVariables false
set_option linter.unusedSimpArgs false
structure Vw where
  k : List Bool
  w : List Int
  n : List Int
def Vw.cells (v : Vw) : List Value := v.k.map Value.bool ++ (v.w.map encV ++ v.n.map encV)
  where encV (x : Int) : Value := i64 x
def Vw.val (x : Int) : Prop := 0 ≤ x ∧ x < 1099511627776
theorem Vw.val0 : Vw.val 0 := ⟨by decide, by decide⟩
structure Vw.ok (v : Vw) : Prop where
  lk : v.k.length = 16
  lw : v.w.length = 16
  ln : v.n.length = 16
  rw : ∀ x ∈ v.w, Vw.val x
  rn : ∀ x ∈ v.n, Vw.val x
structure Wk where
  v : Vw
  need : Option Int
structure Wk.ok (w : Wk) : Prop where
  v : w.v.ok
  need : ∀ c, w.need = some c → 0 ≤ c ∧ c < 16
def Wk.get (w : Wk) (c : Int) : Int × Wk :=
  if w.need.isSome then (0, w) else if w.v.k.getD c.toNat false then (w.v.n.getD c.toNat 0, w) else (0, { w with need := some c })
def Wk.set (w : Wk) (c x : Int) : Wk := if w.need.isSome then w else { w with v := { w.v with n := w.v.n.set c.toNat x } }
theorem Vw.ok.at {v : Vw} (o : v.ok) (i : Nat) : Vw.val (v.n.getD i 0) := by
  rw [List.getD_eq_getElem?_getD]
  cases e : v.n[i]? with
  | none => exact ⟨by decide, by decide⟩
  | some x => exact o.rn x (List.mem_of_getElem? e)
theorem Vw.ok.set {v : Vw} (o : v.ok) (i : Nat) {x : Int} (h : Vw.val x) : Vw.ok { v with n := v.n.set i x } :=
  ⟨o.lk, o.lw, by simp only [List.length_set]; exact o.ln, o.rw, fun y hy => by
    rcases List.mem_or_eq_of_mem_set hy with q | q
    · exact o.rn y q
    · rw [q]; exact h⟩
theorem Wk.get_ok {w : Wk} (o : w.ok) {c : Int} (h0 : 0 ≤ c) (h1 : c < 16) : (w.get c).2.ok ∧ Vw.val (w.get c).1 := by
  unfold Wk.get
  split
  · exact ⟨o, Vw.val0⟩
  · split
    · exact ⟨o, o.v.at _⟩
    · exact ⟨⟨o.v, fun d e => by cases e; exact ⟨h0, h1⟩⟩, Vw.val0⟩
theorem Wk.set_ok {w : Wk} (o : w.ok) (c : Int) {x : Int} (h : Vw.val x) : (w.set c x).ok := by
  unfold Wk.set
  split
  · exact o
  · exact ⟨o.v.set _ h, o.need⟩
def lk (key lev : Int) : Int := 4 + 2 * (key + 1) + lev
def Wk.next (w : Wk) (key lev : Int) : Int × Wk := (if (w.get (lk key lev)).1 - 1 ≤ key ∨ 5 ≤ (w.get (lk key lev)).1 - 1 then -1 else (w.get (lk key lev)).1 - 1, (w.get (lk key lev)).2)
def Wk.before : Nat → Wk → Int → Int → Int → Int × Wk
  | 0, w, _, from_, _ => (from_, w)
  | n + 1, w, key, from_, lev => if (w.next from_ lev).1 = -1 ∨ key ≤ (w.next from_ lev).1 then (from_, (w.next from_ lev).2) else Wk.before n (w.next from_ lev).2 key (w.next from_ lev).1 lev
def bor (a b : Int) : Int := IntKind.i64.wrap (BitVec.ofInt IntKind.i64.bits a ||| BitVec.ofInt IntKind.i64.bits b).toNat
def bshl (b : Int) : Int := IntKind.i64.wrap (1 * 2 ^ min b.toNat IntKind.i64.bits)
def Wk.bits : Nat → Wk → Int → Int → Int → Int × Wk
  | 0, w, _, _, out => (out, w)
  | n + 1, w, at_, b, out => if at_ = -1 ∨ b < at_ then (out, w) else Wk.bits n (w.next at_ 0).2 (w.next at_ 0).1 b (bor out (bshl at_))
def Wk.put (w : Wk) (behind key lev : Int) : Wk :=
  let g := (w.get (lk key lev)).2.get (lk behind lev)
  (g.2.set (lk key lev) g.1).set (lk behind lev) (key + 1)
def Wk.drop (w : Wk) (behind key lev : Int) : Wk :=
  let g := w.get (lk key lev)
  (g.2.set (lk behind lev) g.1).set (lk key lev) 0
def Wk.insert (w : Wk) (o : Op) (hi lo at_ : Int) : Answer × Wk :=
  if at_ = o.a then (⟨1, 0⟩, w) else
  (⟨0, o.a⟩, if o.x = 1 then (w.put lo o.a 0).put hi o.a 1 else w.put lo o.a 0)
def Wk.erase (w : Wk) (o : Op) (hi lo at_ : Int) : Answer × Wk :=
  if at_ = o.a then
    let g := (w.drop lo o.a 0).next hi 1
    (⟨0, o.a⟩, if g.1 = o.a then g.2.drop hi o.a 1 else g.2)
  else (⟨2, 0⟩, w)
def Wk.skip (w : Wk) (o : Op) : Answer × Wk :=
  if o.kind = 9 then (if (w.next (-1) 0).1 = -1 then ⟨2, 0⟩ else ⟨0, (w.next (-1) 0).1⟩, (w.next (-1) 0).2) else
  let hi := w.before 7 o.a (-1) 1
  let lo := hi.2.before 7 o.a hi.1 0
  let at_ := lo.2.next lo.1 0
  if o.kind = 8 then (⟨0, if at_.1 = o.a then 1 else 0⟩, at_.2) else
  if o.kind = 10 then (⟨0, (at_.2.bits 7 at_.1 o.b 0).1⟩, (at_.2.bits 7 at_.1 o.b 0).2) else
  if o.kind = 6 then at_.2.insert o hi.1 lo.1 at_.1 else at_.2.erase o hi.1 lo.1 at_.1
def Wk.sum : Nat → Wk → Int → Int → Int × Wk
  | 0, w, _, all => (all, w)
  | n + 1, w, i, all => Wk.sum n (w.get i).2 (i + 1) (all + max 0 ((w.get i).1 - 1))
def Wk.bank (w : Wk) (o : Op) : Answer × Wk :=
  if o.kind = 5 then (⟨0, (w.sum 4 0 0).1⟩, (w.sum 4 0 0).2) else
  let g := w.get o.a
  if o.kind = 0 then (if 0 < g.1 then (⟨1, 0⟩, g.2) else (⟨0, o.x⟩, g.2.set o.a (o.x + 1))) else
  if o.kind = 4 then
    let g2 := g.2.get o.b
    if g.1 = 0 ∨ g2.1 = 0 then (⟨2, 0⟩, g2.2) else
    if g.1 - 1 < o.x then (⟨3, 0⟩, g2.2) else
    if o.a = o.b then (⟨0, g.1 - 1⟩, g2.2) else
    if 1048575 < g2.1 - 1 + o.x then (⟨4, 0⟩, g2.2) else
    (⟨0, g.1 - 1 - o.x⟩, (g2.2.set o.b (g2.1 - 1 + o.x + 1)).set o.a (g.1 - 1 - o.x + 1))
  else
  if g.1 = 0 then (⟨2, 0⟩, g.2) else
  if o.kind = 1 then (⟨0, g.1 - 1⟩, g.2.set o.a 0) else
  if o.kind = 2 then (if 1048575 < g.1 - 1 + o.x then (⟨4, 0⟩, g.2) else (⟨0, g.1 - 1 + o.x⟩, g.2.set o.a (g.1 - 1 + o.x + 1))) else
  if g.1 - 1 < o.x then (⟨3, 0⟩, g.2) else (⟨0, g.1 - 1 - o.x⟩, g.2.set o.a (g.1 - 1 - o.x + 1))
structure AskM where
  need : Option Int
  view : Vw
  ans : List Answer
def Vw.one (v : Vw) (o : Op) : AskM :=
  let r := if o.kind ≤ 5 then Wk.bank ⟨v, none⟩ o else Wk.skip ⟨v, none⟩ o
  match r.2.need with
  | some c => ⟨some c, v, []⟩
  | none => ⟨none, if r.1.code = 0 then r.2.v else v, [r.1]⟩
/-- operations, one behind the other -/
def Vw.doFrom (v : Vw) : List Op → Vw → List Answer → AskM
  | [], w, rs => ⟨none, w, rs⟩
  | o :: os, w, rs =>
    match (w.one o).need with
    | some c => ⟨some c, v, []⟩
    | none => if ((w.one o).ans.map Answer.code) = [0] then v.doFrom os (w.one o).view (rs ++ (w.one o).ans) else ⟨none, v, rs ++ (w.one o).ans⟩
def Vw.do_ (v : Vw) (os : List Op) : AskM := v.doFrom os v []
/-! ### cells -/
section
variable {v : Vw} {t : List Value}
theorem Vw.len (o : v.ok) : v.cells.length = 48 := by simp [Vw.cells, o.lk, o.lw, o.ln]
theorem Vw.cell_k (o : v.ok) {i : Nat} (h : i < 16) : (v.cells ++ t)[i]? = some (.bool (v.k.getD i false)) := by
  have := o.lk
  rw [List.getElem?_append_left (by rw [Vw.len o]; omega), Vw.cells, List.getElem?_append_left (by simp; omega), List.getElem?_map, List.getD_eq_getElem?_getD, List.getElem?_eq_getElem (by omega)]
  rfl
theorem Vw.cell_w (o : v.ok) {i : Nat} (h : i < 16) : (v.cells ++ t)[16 + i]? = some (i64 (v.w.getD i 0)) := by
  have := o.lk; have := o.lw
  rw [List.getElem?_append_left (by rw [Vw.len o]; omega), Vw.cells, List.getElem?_append_right (by simp; omega), List.getElem?_append_left (by simp; omega), List.getElem?_map, List.getD_eq_getElem?_getD]
  have e : 16 + i - (v.k.map Value.bool).length = i := by simp; omega
  rw [e, List.getElem?_eq_getElem (by omega)]
  rfl
theorem Vw.cell_n (o : v.ok) {i : Nat} (h : i < 16) : (v.cells ++ t)[32 + i]? = some (i64 (v.n.getD i 0)) := by
  have := o.lk; have := o.lw; have := o.ln
  rw [List.getElem?_append_left (by rw [Vw.len o]; omega), Vw.cells, List.getElem?_append_right (by simp; omega), List.getElem?_append_right (by simp; omega), List.getElem?_map, List.getD_eq_getElem?_getD]
  have e : 32 + i - (v.k.map Value.bool).length - (v.w.map Vw.cells.encV).length = i := by simp; omega
  rw [e, List.getElem?_eq_getElem (by omega)]
  rfl
theorem Vw.set_n (o : v.ok) {i : Nat} (h : i < 16) (x : Int) : (v.cells ++ t).set (32 + i) (i64 x) = Vw.cells { v with n := v.n.set i x } ++ t := by
  have := o.lk; have := o.lw; have := o.ln
  rw [List.set_append_left _ _ (by rw [Vw.len o]; omega)]
  congr 1
  unfold Vw.cells
  rw [List.set_append_right _ _ (by simp; omega), List.set_append_right _ _ (by simp; omega), List.map_set]
  congr 2
  have e : 32 + i - (v.k.map Value.bool).length - (v.w.map Vw.cells.encV).length = i := by simp; omega
  rw [e]; rfl
theorem Vw.cell_t (o : v.ok) {x : Value} : (v.cells ++ [x])[48]? = some x := by
  rw [List.getElem?_append_right (by rw [Vw.len o]; omega), Vw.len o]; rfl
theorem Vw.set_t (o : v.ok) {x y : Value} : (v.cells ++ [x]).set 48 y = v.cells ++ [y] := by
  rw [List.set_append_right _ _ (by rw [Vw.len o]; omega), Vw.len o]; rfl
theorem Vw.take_t (o : v.ok) {t : List Value} : ((v.cells ++ t).drop 0).take 48 = v.cells := by
  rw [List.drop_zero, ← Vw.len o, List.take_left']
  rfl
theorem Vw.one_cells : v.cells.all oneCell = true := by
  unfold Vw.cells
  simp only [List.all_append, List.all_map, Bool.and_eq_true, List.all_eq_true, Function.comp]
  exact ⟨fun _ _ => rfl, fun _ _ => rfl, fun _ _ => rfl⟩
end
def needV : Option Int → Value
  | none => .nilIface
  | some c => .iface 182 (i64 c)
def needR : Option Int → Value
  | none => i64 (-1)
  | some c => i64 c
def wkRow (w : Wk) : GObj := .row 146 (w.v.cells ++ [needV w.need]) 49 true
def rwkRow (w : Wk) : GObj := .row 177 (w.v.cells ++ [needR w.need]) 49 true
section
variable {b : Nat} {w : Wk} {R : List Part} {h : GH} {K : Value → GH → Prop}
theorem T_wGet {c : Int} (hp : All (pts b (wkRow w) :: R) h) (ok : w.ok) (h0 : 0 ≤ c) (h1 : c < 16) (hK : ∀ h', All (pts b (wkRow (w.get c).2) :: R) h' → K (i64 (w.get c).1) h') : T Tryz.prog 108 [ptr b, i64 c] h K := by
  apply S108_T
  unfold S108
  obtain ⟨i, rfl⟩ := Int.eq_ofNat_of_zero_le h0
  have hi : i < 16 := by omega
  unfold Wk.get at hK
  refine bnd_of rfl (bnd_of rfl ?_)
  refine ld0 hp (Vw.cell_t ok.v) ?_
  cases hn : w.need with
  | some d =>
    rw [hn] at hK
    (repeat first|refine wx ?_|refine wy ?_|refine wz ?_|refine wv ?_|refine wh ?_)
    exact hK _ hp
  | none =>
    rw [hn] at hK
    (repeat first|refine wx ?_|refine wy ?_|refine wz ?_|refine wv ?_|refine wh ?_)
    refine bnd_of (iaV_at hi .i64) ?_
    refine ld0 hp (off := 0 + i * 1) (by rw [Nat.zero_add, Nat.mul_one]; exact Vw.cell_k ok.v hi) ?_
    simp only [Option.isSome_none, Bool.false_eq_true, if_false, Int.toNat_natCast] at hK
    cases hk : w.v.k.getD i false with
    | true =>
      rw [hk] at hK
      (repeat first|refine wx ?_|refine wy ?_|refine wz ?_|refine wv ?_|refine wh ?_)
      refine bnd_of (iaV_at hi .i64) ?_
      refine ld0 hp (off := 0 + 32 + i * 1) (by rw [Nat.mul_one, Nat.zero_add]; exact Vw.cell_n ok.v hi) ?_
      exact hK _ hp
    | false =>
      rw [hk] at hK
      (repeat first|refine wx ?_|refine wy ?_|refine wz ?_|refine wv ?_|refine wh ?_)
      refine st0 hp (wkRow { w with need := some (i : Int) }) rfl (by simp [Vw.len ok.v]) rfl ?_ fun h2 hp => hK _ hp
      show GObj.row _ ((w.v.cells ++ [needV w.need]).set 48 _) _ _ = _
      rw [Vw.set_t ok.v]; rfl
theorem T_wSet {c x : Int} (hp : All (pts b (wkRow w) :: R) h) (ok : w.ok) (h0 : 0 ≤ c) (h1 : c < 16) (hK : ∀ h', All (pts b (wkRow (w.set c x)) :: R) h' → K (.tuple #[]) h') : T Tryz.prog 98 [ptr b, i64 c, i64 x] h K := by
  apply S98_T
  unfold S98
  obtain ⟨i, rfl⟩ := Int.eq_ofNat_of_zero_le h0
  have hi : i < 16 := by omega
  unfold Wk.set at hK
  refine bnd_of rfl (bnd_of rfl ?_)
  refine ld0 hp (Vw.cell_t ok.v) ?_
  cases hn : w.need with
  | some d =>
    rw [hn] at hK
    (repeat first|refine wx ?_|refine wy ?_|refine wz ?_|refine wv ?_|refine wh ?_)
    exact hK _ hp
  | none =>
    rw [hn] at hK
    (repeat first|refine wx ?_|refine wy ?_|refine wz ?_|refine wv ?_|refine wh ?_)
    refine bnd_of (iaV_at hi .i64) ?_
    refine st0 hp (wkRow ⟨{ w.v with n := w.v.n.set i x }, none⟩) rfl (by simp [Vw.len ok.v]; omega) rfl ?_ fun h2 hp => hK _ hp
    show GObj.row _ ((w.v.cells ++ [needV w.need]).set (0 + 32 + i * 1) (i64 x)) _ _ = _
    rw [Nat.mul_one, Nat.zero_add, Vw.set_n ok.v hi, hn]; rfl
theorem needR_lt (ok : w.ok) : ∃ x, needR w.need = i64 x ∧ (decide (x < 0) = w.need.isNone) ∧ (decide (0 ≤ x) = w.need.isSome) := by
  cases hn : w.need with
  | none => exact ⟨-1, rfl, rfl, rfl⟩
  | some c => have := ok.need c hn; exact ⟨c, rfl, decide_eq_false (by omega), decide_eq_true (by omega)⟩
theorem T_rGet {c : Int} (hp : All (pts b (rwkRow w) :: R) h) (ok : w.ok) (h0 : 0 ≤ c) (h1 : c < 16) (hK : ∀ h', All (pts b (rwkRow (w.get c).2) :: R) h' → K (i64 (w.get c).1) h') : T Tryz.prog 100 [ptr b, i64 c] h K := by
  apply S100_T
  unfold S100
  obtain ⟨i, rfl⟩ := Int.eq_ofNat_of_zero_le h0
  have hi : i < 16 := by omega
  unfold Wk.get at hK
  refine bnd_of rfl (bnd_of rfl ?_)
  refine ld0 hp (Vw.cell_t ok.v) ?_
  obtain ⟨y, e1, e2, e3⟩ := needR_lt ok
  rw [e1]
  (repeat first|refine wx ?_|refine wy ?_|refine wz ?_|refine wv ?_|refine wh ?_)
  rw [e3]
  cases hn : w.need with
  | some d =>
    rw [hn] at hK
    (repeat first|refine wx ?_|refine wy ?_|refine wz ?_|refine wv ?_|refine wh ?_)
    exact hK _ hp
  | none =>
    rw [hn] at hK
    (repeat first|refine wx ?_|refine wy ?_|refine wz ?_|refine wv ?_|refine wh ?_)
    refine bnd_of (iaV_at hi .i64) ?_
    refine ld0 hp (off := 0 + i * 1) (by rw [Nat.zero_add, Nat.mul_one]; exact Vw.cell_k ok.v hi) ?_
    simp only [Option.isSome_none, Bool.false_eq_true, if_false, Int.toNat_natCast] at hK
    cases hk : w.v.k.getD i false with
    | true =>
      rw [hk] at hK
      (repeat first|refine wx ?_|refine wy ?_|refine wz ?_|refine wv ?_|refine wh ?_)
      refine bnd_of (iaV_at hi .i64) ?_
      refine ld0 hp (off := 0 + 32 + i * 1) (by rw [Nat.mul_one, Nat.zero_add]; exact Vw.cell_n ok.v hi) ?_
      exact hK _ hp
    | false =>
      rw [hk] at hK
      (repeat first|refine wx ?_|refine wy ?_|refine wz ?_|refine wv ?_|refine wh ?_)
      refine st0 hp (rwkRow { w with need := some (i : Int) }) rfl (by simp [Vw.len ok.v]) rfl ?_ fun h2 hp => hK _ hp
      show GObj.row _ ((w.v.cells ++ [needR w.need]).set 48 _) _ _ = _
      rw [Vw.set_t ok.v]; rfl
theorem T_rSet {c x : Int} (hp : All (pts b (rwkRow w) :: R) h) (ok : w.ok) (h0 : 0 ≤ c) (h1 : c < 16) (hK : ∀ h', All (pts b (rwkRow (w.set c x)) :: R) h' → K (.tuple #[]) h') : T Tryz.prog 103 [ptr b, i64 c, i64 x] h K := by
  apply S103_T
  unfold S103
  obtain ⟨i, rfl⟩ := Int.eq_ofNat_of_zero_le h0
  have hi : i < 16 := by omega
  unfold Wk.set at hK
  refine bnd_of rfl (bnd_of rfl ?_)
  refine ld0 hp (Vw.cell_t ok.v) ?_
  obtain ⟨y, e1, e2, e3⟩ := needR_lt ok
  rw [e1]
  (repeat first|refine wx ?_|refine wy ?_|refine wz ?_|refine wv ?_|refine wh ?_)
  rw [e2]
  cases hn : w.need with
  | some d =>
    rw [hn] at hK
    (repeat first|refine wx ?_|refine wy ?_|refine wz ?_|refine wv ?_|refine wh ?_)
    exact hK _ hp
  | none =>
    rw [hn] at hK
    (repeat first|refine wx ?_|refine wy ?_|refine wz ?_|refine wv ?_|refine wh ?_)
    refine bnd_of (iaV_at hi .i64) ?_
    refine st0 hp (rwkRow ⟨{ w.v with n := w.v.n.set i x }, none⟩) rfl (by simp [Vw.len ok.v]; omega) rfl ?_ fun h2 hp => hK _ hp
    show GObj.row _ ((w.v.cells ++ [needR w.need]).set (0 + 32 + i * 1) (i64 x)) _ _ = _
    rw [Nat.mul_one, Nat.zero_add, Vw.set_n ok.v hi, hn]; rfl
end
end Go.Proofs.YtlmafbdhhneokaaGreat
namespace Go.Proofs.YtlmafbdhhneokaaGreat
open Go GW Go.Proofs
attribute [local irreducible] bnd ldV stV ifV binV eqI
set_option linter.unusedVariables false
set_option linter.unusedSimpArgs false
abbrev lstV (b : Nat) : Value := .agg [ptr b].toArray
/-- a key or the head, a level -/
def Lv (key lev : Int) : Prop := -1 ≤ key ∧ key < 5 ∧ 0 ≤ lev ∧ lev ≤ 1
theorem Lv.lk {key lev : Int} (l : Lv key lev) : 0 ≤ lk key lev ∧ Go.Proofs.YtlmafbdhhneokaaGreat.lk key lev < 16 := by obtain ⟨a, b, c, d⟩ := l; unfold Go.Proofs.YtlmafbdhhneokaaGreat.lk; omega
theorem Wk.next_ok {w : Wk} (o : w.ok) {key lev : Int} (l : Lv key lev) : (w.next key lev).2.ok ∧ ((w.next key lev).1 = -1 ∨ key < (w.next key lev).1 ∧ (w.next key lev).1 < 5) := by
  have g := Wk.get_ok o l.lk.1 l.lk.2
  unfold Wk.next
  refine ⟨g.1, ?_⟩
  simp only
  split
  · exact .inl rfl
  · right; omega
theorem Wk.before_ok : ∀ {n : Nat} {w : Wk} {key from_ lev : Int}, w.ok → Lv from_ lev → (w.before n key from_ lev).2.ok ∧ from_ ≤ (w.before n key from_ lev).1 ∧ (w.before n key from_ lev).1 < 5 := by
  intro n
  induction n with
  | zero => intro w key f lev o l; exact ⟨o, Int.le_refl _, l.2.1⟩
  | succ n ih =>
    intro w key f lev o l
    have g := Wk.next_ok o l
    unfold Wk.before
    split
    · exact ⟨g.1, Int.le_refl _, l.2.1⟩
    · rename_i c
      obtain ⟨g1, g2⟩ := g
      have g3 : f < (w.next f lev).1 ∧ (w.next f lev).1 < 5 := by
        rcases g2 with q | q
        · exact absurd (.inl q) c
        · exact q
      have := ih (key := key) g1 (show Lv (w.next f lev).1 lev from ⟨by have := l.1; omega, g3.2, l.2.2⟩)
      exact ⟨this.1, by omega, this.2.2⟩
theorem Wk.put_ok {w : Wk} (o : w.ok) {behind key lev : Int} (l1 : Lv behind lev) (l2 : Lv key lev) : (w.put behind key lev).ok := by
  unfold Wk.put
  have g1 := Wk.get_ok o l2.lk.1 l2.lk.2
  have g2 := Wk.get_ok g1.1 l1.lk.1 l1.lk.2
  refine Wk.set_ok (Wk.set_ok g2.1 _ g2.2) _ ?_
  have := l2.1; have := l2.2.1
  constructor <;> omega
theorem Wk.drop_ok {w : Wk} (o : w.ok) {behind key lev : Int} (l1 : Lv behind lev) (l2 : Lv key lev) : (w.drop behind key lev).ok := by
  unfold Wk.drop
  have g1 := Wk.get_ok o l2.lk.1 l2.lk.2
  exact Wk.set_ok (Wk.set_ok g1.1 _ g1.2) _ Vw.val0
section
variable {b c d : Nat} {w : Wk} {R : List Part} {h : GH} {K : Value → GH → Prop} {key lev : Int}
theorem T_cAt (l : Lv key lev) (hK : K (i64 (lk key lev)) h) : T Tryz.prog 109 [i64 key, i64 lev] h K := by
  apply S109_T
  unfold S109
  obtain ⟨l1, l2, l3, l4⟩ := l
  (repeat first|refine wx ?_|refine wy ?_|refine wz ?_|refine wv ?_|refine wh ?_)
  unfold lk at hK
  rw [show 4 + 2 * (key - -1) + lev = 4 + 2 * (key + 1) + lev by omega]
  exact hK
theorem T_rLink (l : Lv key lev) (hK : K (i64 (lk key lev)) h) : T Tryz.prog 111 [i64 key, i64 lev] h K := by
  apply S111_T
  unfold S111
  obtain ⟨l1, l2, l3, l4⟩ := l
  unfold lk at hK
  (repeat first|refine wx ?_|refine wy ?_|refine wz ?_|refine wv ?_|refine wh ?_)
  refine ifV_cases (fun c => ?_) fun c => ?_
  · (repeat first|refine wx ?_|refine wy ?_|refine wz ?_|refine wv ?_|refine wh ?_)
    rw [show 4 + 2 * (key + 1) + lev = 4 + lev by omega] at hK
    exact hK
  · (repeat first|refine wx ?_|refine wy ?_|refine wz ?_|refine wv ?_|refine wh ?_)
    rw [show 4 + 2 * (key + 1) + lev = 6 + 2 * key + lev by omega] at hK
    exact hK
theorem T_sLink (hp : All (pts b (wkRow w) :: R) h) (ok : w.ok) (l : Lv key lev) (hK : ∀ h', All (pts b (wkRow (w.get (lk key lev)).2) :: R) h' → K (i64 (w.get (lk key lev)).1) h') : T Tryz.prog 91 [lstV b, i64 key, i64 lev] h K := by
  apply S91_T
  unfold S91
  refine nw hp (.row 148 [ptr b] 1 true) rfl fun lb h1 hp => ?_
  (repeat first|refine wx ?_|refine wy ?_|refine wz ?_|refine wv ?_|refine wh ?_)
  refine T_cAt l ?_
  (repeat first|refine wx ?_|refine wy ?_|refine wz ?_|refine wv ?_|refine wh ?_)
  refine T_wGet (hp.up 1) ok l.lk.1 l.lk.2 fun h2 hp => ?_
  exact hK _ (hp.re 2 [0])
theorem T_sLead {x : Int} (hp : All (pts b (wkRow w) :: R) h) (ok : w.ok) (l : Lv key lev) (hK : ∀ h', All (pts b (wkRow (w.set (lk key lev) x)) :: R) h' → K (.tuple #[]) h') : T Tryz.prog 110 [lstV b, i64 key, i64 lev, i64 x] h K := by
  apply S110_T
  unfold S110
  refine nw hp (.row 148 [ptr b] 1 true) rfl fun lb h1 hp => ?_
  (repeat first|refine wx ?_|refine wy ?_|refine wz ?_|refine wv ?_|refine wh ?_)
  refine T_cAt l ?_
  (repeat first|refine wx ?_|refine wy ?_|refine wz ?_|refine wv ?_|refine wh ?_)
  refine T_wSet (hp.up 1) ok l.lk.1 l.lk.2 fun h2 hp => ?_
  exact hK _ (hp.re 2 [0])
theorem T_sNext (hp : All (pts b (wkRow w) :: R) h) (ok : w.ok) (l : Lv key lev) (hK : ∀ h', All (pts b (wkRow (w.next key lev).2) :: R) h' → K (i64 (w.next key lev).1) h') : T Tryz.prog 68 [lstV b, i64 key, i64 lev] h K := by
  apply S68_T
  unfold S68
  refine nw hp (.row 148 [ptr b] 1 true) rfl fun lb h1 hp => ?_
  refine la0 hp (c := [ptr b]) (by simp) rfl ?_
  have g := Wk.get_ok ok l.lk.1 l.lk.2
  obtain ⟨_, g1, g2⟩ := g
  refine T_sLink (hp.up 1) ok l fun h2 hp => ?_
  have hp := hp.re 2 [0]
  unfold Wk.next at hK
  (repeat first|refine wx ?_|refine wy ?_|refine wz ?_|refine wv ?_|refine wh ?_)
  refine ifV_cases (fun c => ?_) fun c => ?_
  · rw [if_pos (.inl c)] at hK
    exact hK _ hp
  · (repeat first|refine wx ?_|refine wy ?_|refine wz ?_|refine wv ?_|refine wh ?_)
    refine ifV_cases (fun c2 => ?_) fun c2 => ?_
    · rw [if_pos (.inr c2)] at hK
      exact hK _ hp
    · rw [if_neg (by omega)] at hK
      exact hK _ hp
theorem T_sBefore {from_ : Int} (hp : All (pts b (wkRow w) :: R) h) (ok : w.ok) (l : Lv from_ lev) (hK : ∀ h', All (pts b (wkRow (w.before 7 key from_ lev).2) :: R) h' → K (i64 (w.before 7 key from_ lev).1) h') : T Tryz.prog 94 [lstV b, i64 key, i64 from_, i64 lev] h K := by
  apply S94_T
  unfold S94
  refine nw hp (.row 148 [ptr b] 1 true) rfl fun lb h1 hp => ?_
  refine la0 hp (c := [ptr b]) (by simp) rfl ?_
  refine T_sNext (hp.up 1) ok l fun h2 hp => ?_
  generalize hr : w.before 7 key from_ lev = r at hK
  have l2 := l.2.2
  refine Lfp_fam (ι := Nat × Wk × Int) (fun p => [i64 key, i64 p.2.2, i64 lev, ptr lb, i64 (p.2.1.next p.2.2 lev).1]) (fun p h' => 6 - p.2.2 ≤ p.1 ∧ p.2.1.ok ∧ Lv p.2.2 lev ∧ p.2.1.before p.1 key p.2.2 lev = r ∧ All (pts b (wkRow (p.2.1.next p.2.2 lev).2) :: pts lb (.row 148 [ptr b] 1 true) :: R) h') (fun p => p.1) ?_ (7, w, from_) h2 ⟨by have := l.1; simp only; omega, ok, l, hr, hp⟩
  rintro ⟨n, w1, f1⟩ h3 X ⟨hn, ok1, l1, hb, hp⟩ again
  simp only at hn ok1 l1 hb hp
  simp only [tup_zero, tup_succ]
  obtain ⟨m, rfl⟩ : ∃ m, n = m + 1 := ⟨n - 1, by have := l1.2.1; omega⟩
  unfold Wk.before at hb
  have g := Wk.next_ok ok1 l1
  (repeat first|refine wx ?_|refine wy ?_|refine wz ?_|refine wv ?_|refine wh ?_)
  refine ifN_cases (fun c => ?_) fun c => ?_
  · (repeat first|refine wx ?_|refine wy ?_|refine wz ?_|refine wv ?_|refine wh ?_)
    refine ifV_cases (fun c2 => ?_) fun c2 => ?_
    · rw [if_neg (by omega)] at hb
      refine la1 hp (c := [ptr b]) (by simp) rfl ?_
      have l3 : Lv (w1.next f1 lev).1 lev := ⟨by have := l1.1; omega, by omega, l2⟩
      refine T_sNext hp g.1 l3 fun h4 hp => ?_
      exact again (m, (w1.next f1 lev).2, (w1.next f1 lev).1) _ ⟨by simp only; omega, g.1, l3, hb, hp⟩ (by simp only; omega)
    · rw [if_pos (.inr (by omega))] at hb
      subst hb
      exact hK _ (hp.re 2 [0])
  · rw [if_pos (.inl c)] at hb
    subst hb
    exact hK _ (hp.re 2 [0])
/-- a key's place -/
def plRow (b : Nat) (hi lo at_ : Int) : GObj := .row 185 [ptr b, i64 hi, i64 lo, i64 at_] 4 true
theorem T_sFind (hp : All (pts b (wkRow w) :: R) h) (ok : w.ok)
    (hK : ∀ pb h', let hi := w.before 7 key (-1) 1; let lo := hi.2.before 7 key hi.1 0; All (pts pb (plRow b hi.1 lo.1 (lo.2.next lo.1 0).1) :: pts b (wkRow (lo.2.next lo.1 0).2) :: R) h' → K (ptr pb) h') : T Tryz.prog 75 [lstV b, i64 key] h K := by
  apply S75_T
  unfold S75
  refine nw hp (.row 148 [ptr b] 1 true) rfl fun lb h1 hp => ?_
  refine la0 hp (c := [ptr b]) (by simp) rfl ?_
  (repeat first|refine wx ?_|refine wy ?_|refine wz ?_|refine wv ?_|refine wh ?_)
  refine nw hp (plRow b 0 0 0) rfl fun pb h2 hp => ?_
  refine la1 hp (c := [ptr b]) (by simp) rfl ?_
  have l1 : Lv (-1) 1 := by unfold Lv; omega
  have g1 := Wk.before_ok (n := 7) (key := key) ok l1
  refine T_sBefore (hp.up 2) ok l1 fun h3 hp => ?_
  simp only at hK
  generalize w.before 7 key (-1) 1 = hi at hp hK g1
  replace hp := hp.re 3 [1, 2, 0]
  (repeat first|refine wx ?_|refine wy ?_|refine wz ?_|refine wv ?_|refine wh ?_)
  refine st0 hp (plRow b hi.1 0 0) rfl (by simp) rfl rfl fun h4 hp => ?_
  refine la1 hp (c := [ptr b]) (by simp) rfl ?_
  (repeat first|refine wx ?_|refine wy ?_|refine wz ?_|refine wv ?_|refine wh ?_)
  have l2 : Lv hi.1 0 := ⟨g1.2.1, g1.2.2, by decide, by decide⟩
  have g2 := Wk.before_ok (n := 7) (key := key) g1.1 l2
  refine T_sBefore (hp.up 2) g1.1 l2 fun h5 hp => ?_
  generalize hi.2.before 7 key hi.1 0 = lo at hp hK g2
  replace hp := hp.re 3 [1, 2, 0]
  (repeat first|refine wx ?_|refine wy ?_|refine wz ?_|refine wv ?_|refine wh ?_)
  refine st0 hp (plRow b hi.1 lo.1 0) rfl (by simp) rfl rfl fun h6 hp => ?_
  refine la1 hp (c := [ptr b]) (by simp) rfl ?_
  (repeat first|refine wx ?_|refine wy ?_|refine wz ?_|refine wv ?_|refine wh ?_)
  have l3 : Lv lo.1 0 := ⟨by have := g1.2.1; have := g2.2.1; omega, g2.2.2, by decide, by decide⟩
  refine T_sNext (hp.up 2) g2.1 l3 fun h7 hp => ?_
  replace hp := hp.re 3 [1, 0]
  (repeat first|refine wx ?_|refine wy ?_|refine wz ?_|refine wv ?_|refine wh ?_)
  refine st0 hp (plRow b hi.1 lo.1 (lo.2.next lo.1 0).1) rfl (by simp) rfl rfl fun h8 hp => ?_
  exact hK _ _ hp
theorem T_sPut {behind : Int} (hp : All (pts b (wkRow w) :: R) h) (ok : w.ok) (l : Lv behind lev) (l2 : Lv key lev) (hK : ∀ h', All (pts b (wkRow (w.put behind key lev)) :: R) h' → K (.tuple #[]) h') : T Tryz.prog 92 [lstV b, i64 key, i64 behind, i64 lev] h K := by
  apply S92_T
  unfold S92
  refine nw hp (.row 148 [ptr b] 1 true) rfl fun lb h1 hp => ?_
  refine la0 hp (c := [ptr b]) (by simp) rfl ?_
  have g1 := Wk.get_ok ok l2.lk.1 l2.lk.2
  have g2 := Wk.get_ok g1.1 l.lk.1 l.lk.2
  refine T_sLink (hp.up 1) ok l2 fun h2 hp => ?_
  refine la1 hp (c := [ptr b]) (by simp) rfl ?_
  refine la1 hp (c := [ptr b]) (by simp) rfl ?_
  refine T_sLink hp g1.1 l fun h3 hp => ?_
  refine hla1 hp (by simp) rfl ?_
  refine T_sLead hp g2.1 l2 fun h4 hp => ?_
  refine la1 hp (c := [ptr b]) (by simp) rfl ?_
  have k0 := l2.1; have k1 := l2.2.1
  (repeat first|refine wx ?_|refine wy ?_|refine wz ?_|refine wv ?_|refine wh ?_)
  refine T_sLead hp (Wk.set_ok g2.1 _ g2.2) l fun h5 hp => ?_
  exact hK _ (hp.re 2 [0])
theorem T_sDrop {behind : Int} (hp : All (pts b (wkRow w) :: R) h) (ok : w.ok) (l : Lv behind lev) (l2 : Lv key lev) (hK : ∀ h', All (pts b (wkRow (w.drop behind key lev)) :: R) h' → K (.tuple #[]) h') : T Tryz.prog 93 [lstV b, i64 key, i64 behind, i64 lev] h K := by
  apply S93_T
  unfold S93
  refine nw hp (.row 148 [ptr b] 1 true) rfl fun lb h1 hp => ?_
  refine la0 hp (c := [ptr b]) (by simp) rfl ?_
  refine la0 hp (c := [ptr b]) (by simp) rfl ?_
  have g1 := Wk.get_ok ok l2.lk.1 l2.lk.2
  refine T_sLink (hp.up 1) ok l2 fun h2 hp => ?_
  refine hla1 hp (by simp) rfl ?_
  refine T_sLead hp g1.1 l fun h3 hp => ?_
  refine la1 hp (c := [ptr b]) (by simp) rfl ?_
  refine T_sLead hp (Wk.set_ok g1.1 _ g1.2) l2 fun h4 hp => ?_
  exact hK _ (hp.re 2 [0])
/-! ### the document's -/
theorem T_rNext (hp : All (pts b (rwkRow w) :: R) h) (ok : w.ok) (l : Lv key lev) (hK : ∀ h', All (pts b (rwkRow (w.next key lev).2) :: R) h' → K (i64 (w.next key lev).1) h') : T Tryz.prog 104 [ptr b, i64 key, i64 lev] h K := by
  apply S104_T
  unfold S104
  refine T_rLink l ?_
  obtain ⟨_, g1, g2⟩ := Wk.get_ok ok l.lk.1 l.lk.2
  refine T_rGet hp ok l.lk.1 l.lk.2 fun h2 hp => ?_
  unfold Wk.next at hK
  (repeat first|refine wx ?_|refine wy ?_|refine wz ?_|refine wv ?_|refine wh ?_)
  refine ifV_cases (fun c => ?_) fun c => ?_
  · rw [if_pos (.inl c)] at hK
    exact hK _ hp
  · (repeat first|refine wx ?_|refine wy ?_|refine wz ?_|refine wv ?_|refine wh ?_)
    refine ifV_cases (fun c2 => ?_) fun c2 => ?_
    · rw [if_pos (.inr c2)] at hK
      exact hK _ hp
    · rw [if_neg (by omega)] at hK
      exact hK _ hp
theorem T_rBefore {from_ : Int} (hp : All (pts b (rwkRow w) :: R) h) (ok : w.ok) (l : Lv from_ lev) (hK : ∀ h', All (pts b (rwkRow (w.before 7 key from_ lev).2) :: R) h' → K (i64 (w.before 7 key from_ lev).1) h') : T Tryz.prog 105 [ptr b, i64 from_, i64 key, i64 lev] h K := by
  apply S105_T
  unfold S105
  generalize hr : w.before 7 key from_ lev = r at hK
  have l2 := l.2.2
  refine Lfp_fam (ι := Nat × Wk × Int) (fun p => [ptr b, i64 p.2.2, i64 key, i64 lev]) (fun p h' => 6 - p.2.2 ≤ p.1 ∧ p.2.1.ok ∧ Lv p.2.2 lev ∧ p.2.1.before p.1 key p.2.2 lev = r ∧ All (pts b (rwkRow p.2.1) :: R) h') (fun p => p.1) ?_ (7, w, from_) h ⟨by have := l.1; simp only; omega, ok, l, hr, hp⟩
  rintro ⟨n, w1, f1⟩ h3 X ⟨hn, ok1, l1, hb, hp⟩ again
  simp only at hn ok1 l1 hb hp
  simp only [tup_zero, tup_succ]
  obtain ⟨m, rfl⟩ : ∃ m, n = m + 1 := ⟨n - 1, by have := l1.2.1; omega⟩
  unfold Wk.before at hb
  have g := Wk.next_ok ok1 l1
  refine T_rNext hp ok1 l1 fun h4 hp => ?_
  (repeat first|refine wx ?_|refine wy ?_|refine wz ?_|refine wv ?_|refine wh ?_)
  refine ifV_cases (fun c => ?_) fun c => ?_
  · rw [if_pos (.inl (by have := l1.1; omega))] at hb
    subst hb
    exact hK _ hp
  · (repeat first|refine wx ?_|refine wy ?_|refine wz ?_|refine wv ?_|refine wh ?_)
    refine ifV_cases (fun c2 => ?_) fun c2 => ?_
    · rw [if_pos (.inr c2)] at hb
      subst hb
      exact hK _ hp
    · rw [if_neg (by omega)] at hb
      have l3 : Lv (w1.next f1 lev).1 lev := ⟨by have := l1.1; omega, by omega, l2⟩
      exact again (m, (w1.next f1 lev).2, (w1.next f1 lev).1) _ ⟨by simp only; omega, g.1, l3, hb, hp⟩ (by simp only; omega)
theorem T_rPut {behind : Int} (hp : All (pts b (rwkRow w) :: R) h) (ok : w.ok) (l : Lv behind lev) (l2 : Lv key lev) (hK : ∀ h', All (pts b (rwkRow (w.put behind key lev)) :: R) h' → K (.tuple #[]) h') : T Tryz.prog 106 [ptr b, i64 behind, i64 key, i64 lev] h K := by
  apply S106_T
  unfold S106
  have g1 := Wk.get_ok ok l2.lk.1 l2.lk.2
  have g2 := Wk.get_ok g1.1 l.lk.1 l.lk.2
  refine T_rLink l2 ?_
  refine T_rGet hp ok l2.lk.1 l2.lk.2 fun h2 hp => ?_
  refine T_rLink l2 (T_rLink l ?_)
  refine T_rGet hp g1.1 l.lk.1 l.lk.2 fun h3 hp => ?_
  refine T_rSet hp g2.1 l2.lk.1 l2.lk.2 fun h4 hp => ?_
  refine T_rLink l ?_
  have k0 := l2.1; have k1 := l2.2.1
  (repeat first|refine wx ?_|refine wy ?_|refine wz ?_|refine wv ?_|refine wh ?_)
  refine T_rSet hp (Wk.set_ok g2.1 _ g2.2) l.lk.1 l.lk.2 fun h5 hp => ?_
  exact hK _ hp
theorem T_rDrop {behind : Int} (hp : All (pts b (rwkRow w) :: R) h) (ok : w.ok) (l : Lv behind lev) (l2 : Lv key lev) (hK : ∀ h', All (pts b (rwkRow (w.drop behind key lev)) :: R) h' → K (.tuple #[]) h') : T Tryz.prog 107 [ptr b, i64 behind, i64 key, i64 lev] h K := by
  apply S107_T
  unfold S107
  have g1 := Wk.get_ok ok l2.lk.1 l2.lk.2
  refine T_rLink l (T_rLink l2 ?_)
  refine T_rGet hp ok l2.lk.1 l2.lk.2 fun h2 hp => ?_
  refine T_rSet hp g1.1 l.lk.1 l.lk.2 fun h3 hp => ?_
  refine T_rLink l2 ?_
  refine T_rSet hp (Wk.set_ok g1.1 _ g1.2) l2.lk.1 l2.lk.2 fun h4 hp => ?_
  exact hK _ hp
end
end Go.Proofs.YtlmafbdhhneokaaGreat
namespace Go.Proofs.YtlmafbdhhneokaaGreat
open Go GW Go.Proofs
attribute [local irreducible] bnd ldV stV ifV binV eqI
set_option linter.unusedVariables false
set_option linter.unusedSimpArgs false
theorem All.start {h : GH} : All [baseP h] h := All.one (P := baseP h) (HLe.refl _)
abbrev ansV (a : Answer) : Value := .agg a.enc.toArray
abbrev resRow (x y : Value) : GObj := .row 55 [x, y] 2 true
def opRow (o : Op) : GObj := .row 50 o.enc 4 true
section
variable {b c d rb pb ob : Nat} {w : Wk} {R : List Part} {h : GH} {K : Value → GH → Prop} {o : Op} {hi lo at_ : Int}
theorem retA {x y : Value} {v : Answer} (hp : All (pts rb (resRow x y) :: R) h) (k : ∀ h', All R h' → K (ansV v) h') : bnd (stV 2 (ptr rb) (ansV v) h) fun h' => bnd (ldV 2 true (ptr rb) h') fun u => K u h' := by
  refine st0 hp (resRow (i64 v.code) (i64 v.num)) rfl (by simp) rfl rfl fun h1 hp => ?_
  refine la0 hp (c := v.enc) (by simp) rfl ?_
  exact k _ hp.tail
theorem T_skCode {x : Int} (hK : K (ansV ⟨x, 0⟩) h) : T Tryz.prog 67 [i64 x] h K := by
  apply T.drop
  apply S67_T
  unfold S67
  refine nw All.start (resRow (i64 0) (i64 0)) rfl fun rb h1 hp => ?_
  (repeat first|refine wx ?_|refine wy ?_|refine wz ?_|refine wv ?_|refine wh ?_)
  exact retA (v := ⟨x, 0⟩) (K := fun v h' => ∃ h0, HLe h0 h' ∧ K v h0) hp fun h2 hp => ⟨h, baseP.le hp, hK⟩
theorem T_skDone {x : Int} (hK : K (ansV ⟨0, x⟩) h) : T Tryz.prog 69 [i64 x] h K := by
  apply T.drop
  apply S69_T
  unfold S69
  refine nw All.start (resRow (i64 0) (i64 0)) rfl fun rb h1 hp => ?_
  (repeat first|refine wx ?_|refine wy ?_|refine wz ?_|refine wv ?_|refine wh ?_)
  exact retA (v := ⟨0, x⟩) (K := fun v h' => ∃ h0, HLe h0 h' ∧ K v h0) hp fun h2 hp => ⟨h, baseP.le hp, hK⟩
theorem T_bkCode {x : Int} (hK : K (ansV ⟨x, 0⟩) h) : T Tryz.prog 96 [i64 x] h K := by
  apply T.drop
  apply S96_T
  unfold S96
  refine nw All.start (resRow (i64 0) (i64 0)) rfl fun rb h1 hp => ?_
  (repeat first|refine wx ?_|refine wy ?_|refine wz ?_|refine wv ?_|refine wh ?_)
  exact retA (v := ⟨x, 0⟩) (K := fun v h' => ∃ h0, HLe h0 h' ∧ K v h0) hp fun h2 hp => ⟨h, baseP.le hp, hK⟩
theorem T_bkDone {x : Int} (hK : K (ansV ⟨0, x⟩) h) : T Tryz.prog 99 [i64 x] h K := by
  apply T.drop
  apply S99_T
  unfold S99
  refine nw All.start (resRow (i64 0) (i64 0)) rfl fun rb h1 hp => ?_
  (repeat first|refine wx ?_|refine wy ?_|refine wz ?_|refine wv ?_|refine wh ?_)
  exact retA (v := ⟨0, x⟩) (K := fun v h' => ∃ h0, HLe h0 h' ∧ K v h0) hp fun h2 hp => ⟨h, baseP.le hp, hK⟩
theorem T_rfCode {x : Int} (hK : K (ansV ⟨x, 0⟩) h) : T Tryz.prog 102 [i64 x] h K := by
  apply T.drop
  apply S102_T
  unfold S102
  refine nw All.start (resRow (i64 0) (i64 0)) rfl fun rb h1 hp => ?_
  (repeat first|refine wx ?_|refine wy ?_|refine wz ?_|refine wv ?_|refine wh ?_)
  exact retA (v := ⟨x, 0⟩) (K := fun v h' => ∃ h0, HLe h0 h' ∧ K v h0) hp fun h2 hp => ⟨h, baseP.le hp, hK⟩
theorem T_rfDone {x : Int} (hK : K (ansV ⟨0, x⟩) h) : T Tryz.prog 101 [i64 x] h K := by
  apply T.drop
  apply S101_T
  unfold S101
  refine nw All.start (resRow (i64 0) (i64 0)) rfl fun rb h1 hp => ?_
  (repeat first|refine wx ?_|refine wy ?_|refine wz ?_|refine wv ?_|refine wh ?_)
  exact retA (v := ⟨0, x⟩) (K := fun v h' => ∃ h0, HLe h0 h' ∧ K v h0) hp fun h2 hp => ⟨h, baseP.le hp, hK⟩
theorem T_sInsert (hp : All (pts pb (plRow b hi lo at_) :: pts ob (opRow o) :: pts b (wkRow w) :: R) h) (ok : w.ok) (lh : Lv hi 1) (ll : Lv lo 0) (la : 0 ≤ o.a ∧ o.a < 5)
    (hK : ∀ h', All (pts b (wkRow (w.insert o hi lo at_).2) :: pts ob (opRow o) :: R) h' → K (ansV (w.insert o hi lo at_).1) h') : T Tryz.prog 71 [ptr pb, ptr ob] h K := by
  apply S71_T
  unfold S71
  obtain ⟨kd, oa, ob_, ox⟩ := o
  simp only at la
  have l0 : Lv oa 0 := ⟨by omega, la.2, by decide, by decide⟩
  have l1 : Lv oa 1 := ⟨by omega, la.2, by decide, by decide⟩
  refine nw hp (resRow (i64 0) (i64 0)) rfl fun rb h1 hp => ?_
  unfold Wk.insert at hK
  simp only at hK
  (repeat first|refine wx ?_|refine wy ?_|refine wz ?_|refine wv ?_|refine wh ?_)
  refine ifV_cases (fun c => ?_) fun c => ?_
  · rw [if_pos c] at hK
    refine T_skCode ?_
    refine retA hp fun h2 hp => ?_
    exact hK _ (hp.re 3 [2, 1])
  · rw [if_neg c] at hK
    (repeat first|refine wx ?_|refine wy ?_|refine wz ?_|refine wv ?_|refine wh ?_)
    refine la1 hp (c := [ptr b]) (by simp) rfl ?_
    (repeat first|refine wx ?_|refine wy ?_|refine wz ?_|refine wv ?_|refine wh ?_)
    refine T_sPut (hp.up 3) ok ll l0 fun h2 hp => ?_
    replace hp := hp.re 4 [1, 2, 3, 0]
    replace hp := Go.Proofs.YtlmafbdhhneokaaGreat.hn hp
    have ok2 := Wk.put_ok ok ll l0
    generalize w.put lo oa 0 = w2 at hp hK ok2
    (repeat first|refine wx ?_|refine wy ?_|refine wz ?_|refine wv ?_|refine wh ?_)
    refine ifV_cases (fun c2 => ?_) fun c2 => ?_
    · rw [if_pos c2] at hK
      (repeat first|refine wx ?_|refine wy ?_|refine wz ?_|refine wv ?_|refine wh ?_)
      refine la1 hp (c := [ptr b]) (by simp) rfl ?_
      (repeat first|refine wx ?_|refine wy ?_|refine wz ?_|refine wv ?_|refine wh ?_)
      refine T_sPut (hp.up 3) ok2 lh l1 fun h3 hp => ?_
      replace hp := hp.re 4 [1, 2, 3, 0]
      replace hp := Go.Proofs.YtlmafbdhhneokaaGreat.hn hp
      (repeat first|refine wx ?_|refine wy ?_|refine wz ?_|refine wv ?_|refine wh ?_)
      refine T_skDone ?_
      refine retA hp fun h2 hp => ?_
      exact hK _ (hp.re 3 [2, 1])
    · rw [if_neg c2] at hK
      (repeat first|refine wx ?_|refine wy ?_|refine wz ?_|refine wv ?_|refine wh ?_)
      refine T_skDone ?_
      refine retA hp fun h2 hp => ?_
      exact hK _ (hp.re 3 [2, 1])
theorem T_sErase (hp : All (pts pb (plRow b hi lo at_) :: pts ob (opRow o) :: pts b (wkRow w) :: R) h) (ok : w.ok) (lh : Lv hi 1) (ll : Lv lo 0) (la : 0 ≤ o.a ∧ o.a < 5)
    (hK : ∀ h', All (pts b (wkRow (w.erase o hi lo at_).2) :: pts ob (opRow o) :: R) h' → K (ansV (w.erase o hi lo at_).1) h') : T Tryz.prog 72 [ptr pb, ptr ob] h K := by
  apply S72_T
  unfold S72
  obtain ⟨kd, oa, ob_, ox⟩ := o
  simp only at la
  have l0 : Lv oa 0 := ⟨by omega, la.2, by decide, by decide⟩
  have l1 : Lv oa 1 := ⟨by omega, la.2, by decide, by decide⟩
  refine nw hp (resRow (i64 0) (i64 0)) rfl fun rb h1 hp => ?_
  unfold Wk.erase at hK
  simp only at hK
  (repeat first|refine wx ?_|refine wy ?_|refine wz ?_|refine wv ?_|refine wh ?_)
  refine ifN_cases (fun c => ?_) fun c => ?_
  · rw [if_neg c] at hK
    refine T_skCode ?_
    refine retA hp fun h2 hp => ?_
    exact hK _ (hp.re 3 [2, 1])
  · rw [if_pos c] at hK
    (repeat first|refine wx ?_|refine wy ?_|refine wz ?_|refine wv ?_|refine wh ?_)
    refine la1 hp (c := [ptr b]) (by simp) rfl ?_
    (repeat first|refine wx ?_|refine wy ?_|refine wz ?_|refine wv ?_|refine wh ?_)
    refine T_sDrop (hp.up 3) ok ll l0 fun h2 hp => ?_
    replace hp := hp.re 4 [1, 2, 3, 0]
    replace hp := Go.Proofs.YtlmafbdhhneokaaGreat.hn hp
    have ok2 := Wk.drop_ok ok ll l0
    generalize w.drop lo oa 0 = w2 at hp hK ok2
    (repeat first|refine wx ?_|refine wy ?_|refine wz ?_|refine wv ?_|refine wh ?_)
    refine la1 hp (c := [ptr b]) (by simp) rfl ?_
    (repeat first|refine wx ?_|refine wy ?_|refine wz ?_|refine wv ?_|refine wh ?_)
    refine T_sNext (hp.up 3) ok2 lh fun h3 hp => ?_
    replace hp := hp.re 4 [1, 2, 3, 0]
    replace hp := Go.Proofs.YtlmafbdhhneokaaGreat.hn hp
    have ok3 := (Wk.next_ok ok2 lh).1
    generalize w2.next hi 1 = g at hp hK ok3
    (repeat first|refine wx ?_|refine wy ?_|refine wz ?_|refine wv ?_|refine wh ?_)
    refine ifV_cases (fun c2 => ?_) fun c2 => ?_
    · rw [if_pos c2] at hK
      (repeat first|refine wx ?_|refine wy ?_|refine wz ?_|refine wv ?_|refine wh ?_)
      refine la1 hp (c := [ptr b]) (by simp) rfl ?_
      (repeat first|refine wx ?_|refine wy ?_|refine wz ?_|refine wv ?_|refine wh ?_)
      refine T_sDrop (hp.up 3) ok3 lh l1 fun h3 hp => ?_
      replace hp := hp.re 4 [1, 2, 3, 0]
      replace hp := Go.Proofs.YtlmafbdhhneokaaGreat.hn hp
      (repeat first|refine wx ?_|refine wy ?_|refine wz ?_|refine wv ?_|refine wh ?_)
      refine T_skDone ?_
      refine retA hp fun h2 hp => ?_
      exact hK _ (hp.re 3 [2, 1])
    · rw [if_neg c2] at hK
      (repeat first|refine wx ?_|refine wy ?_|refine wz ?_|refine wv ?_|refine wh ?_)
      refine T_skDone ?_
      refine retA hp fun h2 hp => ?_
      exact hK _ (hp.re 3 [2, 1])
theorem T_sFound (hp : All (pts pb (plRow b hi lo at_) :: pts ob (opRow o) :: R) h) (hK : ∀ h', All (pts ob (opRow o) :: R) h' → K (ansV ⟨0, if at_ = o.a then 1 else 0⟩) h') : T Tryz.prog 73 [ptr pb, ptr ob] h K := by
  apply S73_T
  unfold S73
  obtain ⟨kd, oa, ob_, ox⟩ := o
  refine nw hp (resRow (i64 0) (i64 0)) rfl fun rb h1 hp => ?_
  simp only at hK
  (repeat first|refine wx ?_|refine wy ?_|refine wz ?_|refine wv ?_|refine wh ?_)
  refine ifV_cases (fun c => ?_) fun c => ?_
  · rw [if_pos c] at hK
    refine T_skDone ?_
    refine retA hp fun h2 hp => ?_
    exact hK _ hp.tail
  · rw [if_neg c] at hK
    refine T_skDone ?_
    refine retA hp fun h2 hp => ?_
    exact hK _ hp.tail
theorem shl_one {x : Int} (h : 0 ≤ x) (k : IntKind) : binV .shl (i64 1) (.int k x) = some (i64 (bshl x)) := by
  unfold binV
  simp only
  rw [if_neg (by omega)]; rfl
theorem or_bor (a b : Int) : binV .or (i64 a) (i64 b) = some (i64 (bor a b)) := by
  unfold binV
  simp only
  rw [if_pos trivial]; rfl
theorem T_sBits (hp : All (pts pb (plRow b hi lo at_) :: pts ob (opRow o) :: pts b (wkRow w) :: R) h) (ok : w.ok) (la : -1 ≤ at_ ∧ at_ < 5)
    (hK : ∀ h', All (pts b (wkRow (w.bits 7 at_ o.b 0).2) :: pts ob (opRow o) :: R) h' → K (ansV ⟨0, (w.bits 7 at_ o.b 0).1⟩) h') : T Tryz.prog 74 [ptr pb, ptr ob] h K := by
  apply S74_T
  unfold S74
  obtain ⟨kd, oa, ob_, ox⟩ := o
  refine nw hp (resRow (i64 0) (i64 0)) rfl fun rb h1 hp => ?_
  simp only at hK
  (repeat first|refine wx ?_|refine wy ?_|refine wz ?_|refine wv ?_|refine wh ?_)
  generalize hr : w.bits 7 at_ ob_ 0 = r at hK
  refine Lfp_fam (ι := Nat × Wk × Int × Int) (fun p => [ptr pb, ptr ob, ptr rb, i64 p.2.2.2, i64 p.2.2.1]) (fun p h' => (p.2.2.1 = -1 ∧ 0 < p.1 ∨ 0 ≤ p.2.2.1 ∧ p.2.2.1 < 5 ∧ 6 - p.2.2.1 ≤ p.1) ∧ p.2.1.ok ∧ p.2.1.bits p.1 p.2.2.1 ob_ p.2.2.2 = r ∧ All (pts rb (resRow (i64 0) (i64 0)) :: pts pb (plRow b hi lo at_) :: pts ob (opRow ⟨kd, oa, ob_, ox⟩) :: pts b (wkRow p.2.1) :: R) h') (fun p => p.1) ?_ (7, w, at_, 0) h1 ⟨by simp only; omega, ok, hr, hp⟩
  rintro ⟨n, w1, x, out⟩ h3 X ⟨hn, ok1, hb, hp⟩ again
  simp only at hn ok1 hb hp
  simp only [tup_zero, tup_succ]
  obtain ⟨m, rfl⟩ : ∃ m, n = m + 1 := ⟨n - 1, by omega⟩
  unfold Wk.bits at hb
  (repeat first|refine wx ?_|refine wy ?_|refine wz ?_|refine wv ?_|refine wh ?_)
  refine ifN_cases (fun c => ?_) fun c => ?_
  · (repeat first|refine wx ?_|refine wy ?_|refine wz ?_|refine wv ?_|refine wh ?_)
    refine ifV_cases (fun c2 => ?_) fun c2 => ?_
    · replace c2 : x ≤ ob_ := c2
      rw [if_neg (by omega)] at hb
      unfold S74_j1
      refine bnd_of (shl_one (by omega) .i64) (bnd_of (or_bor _ _) ?_)
      (repeat first|refine wx ?_|refine wy ?_|refine wz ?_|refine wv ?_|refine wh ?_)
      refine la1 hp (c := [ptr b]) (by simp) rfl ?_
      have l3 : Lv x 0 := ⟨by omega, by omega, by decide, by decide⟩
      have g := Wk.next_ok ok1 l3
      refine T_sNext (hp.up 3) ok1 l3 fun h4 hp => ?_
      exact again (m, (w1.next x 0).2, (w1.next x 0).1, _) _ ⟨by have := g.2; simp only; omega, g.1, hb, hp.re 4 [1, 2, 3, 0]⟩ (by simp only; omega)
    · replace c2 : ¬ x ≤ ob_ := c2
      rw [if_pos (.inr (by omega))] at hb
      subst hb
      refine T_skDone ?_
      refine retA hp fun h2 hp => ?_
      exact hK _ (hp.re 3 [2, 1])
  · rw [if_pos (.inl c)] at hb
    subst hb
    refine T_skDone ?_
    refine retA hp fun h2 hp => ?_
    exact hK _ (hp.re 3 [2, 1])
end
end Go.Proofs.YtlmafbdhhneokaaGreat
namespace Go.Proofs.YtlmafbdhhneokaaGreat
open Go GW Go.Proofs
attribute [local irreducible] bnd ldV stV ifV binV eqI
set_option linter.unusedVariables false
set_option linter.unusedSimpArgs false
def acRow (b : Nat) (c x : Int) : GObj := .row 191 [ptr b, i64 c, .bool (decide (0 < x)), i64 (x - 1)] 4 true
/-- an operation's numbers, as accounts have them -/
def Bk (o : Op) : Prop := (0 ≤ o.a ∧ o.a < 4) ∧ (0 ≤ o.b ∧ o.b < 4) ∧ 0 ≤ o.x ∧ o.x < 1048576
section
variable {b c d rb pb ob : Nat} {w : Wk} {R : List Part} {h : GH} {K : Value → GH → Prop} {o : Op}
theorem T_bkAt {c : Int} (hp : All (pts b (wkRow w) :: R) h) (ok : w.ok) (h0 : 0 ≤ c) (h1 : c < 16) (hK : ∀ ab h', All (pts ab (acRow b c (w.get c).1) :: pts b (wkRow (w.get c).2) :: R) h' → K (ptr ab) h') : T Tryz.prog 95 [ptr b, i64 c] h K := by
  apply S95_T
  unfold S95
  have g := (Wk.get_ok ok h0 h1).2
  obtain ⟨g1, g2⟩ := g
  refine T_wGet hp ok h0 h1 fun h2 hp => ?_
  (repeat first|refine wx ?_|refine wy ?_|refine wz ?_|refine wv ?_|refine wh ?_)
  refine nw hp (acRow b c (w.get c).1) rfl fun ab h3 hp => ?_
  exact hK _ _ hp
theorem T_bkHas {ab : Nat} {c x y : Int} (hp : All (pts ab (acRow b c y) :: pts b (wkRow w) :: R) h) (ok : w.ok) (h0 : 0 ≤ c) (h1 : c < 16) (x0 : -1 ≤ x) (x1 : x < 1099511627775) (hK : ∀ h', All (pts b (wkRow (w.set c (x + 1))) :: R) h' → K (ansV ⟨0, x⟩) h') : T Tryz.prog 97 [ptr ab, i64 x] h K := by
  apply S97_T
  unfold S97
  refine nw hp (resRow (i64 0) (i64 0)) rfl fun rb h1 hp => ?_
  (repeat first|refine wx ?_|refine wy ?_|refine wz ?_|refine wv ?_|refine wh ?_)
  replace hp := hp.up 2
  replace hp := hn hp
  refine T_wSet hp ok h0 (by (first | omega | (simp only; omega))) fun h2 hp => ?_
  refine T_bkDone ?_
  replace hp := hp.re 2 [1, 0]
  replace hp := hn hp
  refine retA hp fun h3 hp => ?_
  exact hK _ (hp.re 2 [0])
theorem T_bkOpen (hp : All (pts ob (opRow o) :: pts b (wkRow w) :: R) h) (ok : w.ok) (ho : Bk o) (hk : o.kind = 0) (hK : ∀ h', All (pts b (wkRow (w.bank o).2) :: pts ob (opRow o) :: R) h' → K (ansV (w.bank o).1) h') : T Tryz.prog 76 [ptr b, ptr ob] h K := by
  apply S76_T
  unfold S76
  obtain ⟨kd, oa, ob_, ox⟩ := o
  simp only at hk
  subst hk
  obtain ⟨⟨a0, a1⟩, ⟨b0, b1⟩, x0, x1⟩ := ho
  simp only at a0 a1 x0 x1
  refine nw hp (resRow (i64 0) (i64 0)) rfl fun rb h1 hp => ?_
  unfold Wk.bank at hK
  simp only at hK
  rw [if_neg (by decide), if_pos trivial] at hK
  (repeat first|refine wx ?_|refine wy ?_|refine wz ?_|refine wv ?_|refine wh ?_)
  have g := Wk.get_ok ok a0 (by omega : oa < 16)
  replace hp := hp.up 2
  replace hp := hn hp
  refine T_bkAt hp ok a0 (by (first | omega | (simp only; omega))) fun ab h2 hp => ?_
  obtain ⟨g0, g1, g2⟩ := g
  generalize w.get oa = g at hp hK g0 g1 g2
  (repeat first|refine wx ?_|refine wy ?_|refine wz ?_|refine wv ?_|refine wh ?_)
  refine ifV_cases (fun c => ?_) fun c => ?_
  · rw [if_pos c] at hK
    refine T_bkCode ?_
    replace hp := hp.re 4 [2, 1, 3]
    replace hp := hn hp
    exact retA hp hK
  · rw [if_neg c] at hK
    replace hp := hp.re 4 [3, 0, 1, 2]
    replace hp := hn hp
    (repeat first|refine wx ?_|refine wy ?_|refine wz ?_|refine wv ?_|refine wh ?_)
    replace hp := hp.re 4 [1, 2, 0, 3]
    replace hp := hn hp
    refine T_bkHas hp g0 a0 (by (first | omega | (simp only; omega))) (by (first | omega | (simp only; omega))) (by (first | omega | (simp only; omega))) fun h3 hp => ?_
    replace hp := hp.re 3 [2, 0, 1]
    replace hp := hn hp
    exact retA hp hK
theorem T_bkCloses (hp : All (pts ob (opRow o) :: pts b (wkRow w) :: R) h) (ok : w.ok) (ho : Bk o) (hk : o.kind = 1) (hK : ∀ h', All (pts b (wkRow (w.bank o).2) :: pts ob (opRow o) :: R) h' → K (ansV (w.bank o).1) h') : T Tryz.prog 77 [ptr b, ptr ob] h K := by
  apply S77_T
  unfold S77
  obtain ⟨kd, oa, ob_, ox⟩ := o
  simp only at hk
  subst hk
  obtain ⟨⟨a0, a1⟩, ⟨b0, b1⟩, x0, x1⟩ := ho
  simp only at a0 a1 x0 x1
  refine nw hp (resRow (i64 0) (i64 0)) rfl fun rb h1 hp => ?_
  unfold Wk.bank at hK
  simp only at hK
  rw [if_neg (by decide), if_neg (by decide), if_neg (by decide)] at hK
  (repeat first|refine wx ?_|refine wy ?_|refine wz ?_|refine wv ?_|refine wh ?_)
  have g := Wk.get_ok ok a0 (by omega : oa < 16)
  replace hp := hp.up 2
  replace hp := hn hp
  refine T_bkAt hp ok a0 (by (first | omega | (simp only; omega))) fun ab h2 hp => ?_
  obtain ⟨g0, g1, g2⟩ := g
  generalize w.get oa = g at hp hK g0 g1 g2
  (repeat first|refine wx ?_|refine wy ?_|refine wz ?_|refine wv ?_|refine wh ?_)
  refine ifN_cases (fun c => ?_) fun c => ?_
  · rw [if_pos (by omega)] at hK
    refine T_bkCode ?_
    replace hp := hp.re 4 [2, 1, 3]
    replace hp := hn hp
    exact retA hp hK
  · rw [if_neg (by omega), if_pos trivial] at hK
    (repeat first|refine wx ?_|refine wy ?_|refine wz ?_|refine wv ?_|refine wh ?_)
    replace hp := hp.re 4 [1, 0, 2, 3]
    replace hp := hn hp
    refine T_wSet hp g0 a0 (by (first | omega | (simp only; omega))) fun h3 hp => ?_
    (repeat first|refine wx ?_|refine wy ?_|refine wz ?_|refine wv ?_|refine wh ?_)
    refine T_bkDone ?_
    replace hp := hp.re 4 [2, 0, 3]
    replace hp := hn hp
    exact retA hp hK
theorem T_bkDeposit (hp : All (pts ob (opRow o) :: pts b (wkRow w) :: R) h) (ok : w.ok) (ho : Bk o) (hk : o.kind = 2) (hK : ∀ h', All (pts b (wkRow (w.bank o).2) :: pts ob (opRow o) :: R) h' → K (ansV (w.bank o).1) h') : T Tryz.prog 78 [ptr b, ptr ob] h K := by
  apply S78_T
  unfold S78
  obtain ⟨kd, oa, ob_, ox⟩ := o
  simp only at hk
  subst hk
  obtain ⟨⟨a0, a1⟩, ⟨b0, b1⟩, x0, x1⟩ := ho
  simp only at a0 a1 x0 x1
  refine nw hp (resRow (i64 0) (i64 0)) rfl fun rb h1 hp => ?_
  unfold Wk.bank at hK
  simp only at hK
  rw [if_neg (by decide), if_neg (by decide), if_neg (by decide)] at hK
  (repeat first|refine wx ?_|refine wy ?_|refine wz ?_|refine wv ?_|refine wh ?_)
  have g := Wk.get_ok ok a0 (by omega : oa < 16)
  replace hp := hp.up 2
  replace hp := hn hp
  refine T_bkAt hp ok a0 (by (first | omega | (simp only; omega))) fun ab h2 hp => ?_
  obtain ⟨g0, g1, g2⟩ := g
  generalize w.get oa = g at hp hK g0 g1 g2
  replace hp := hp.re 4 [0, 3, 1, 2]
  replace hp := hn hp
  (repeat first|refine wx ?_|refine wy ?_|refine wz ?_|refine wv ?_|refine wh ?_)
  refine ifN_cases (fun c => ?_) fun c => ?_
  · rw [if_pos (by omega)] at hK
    refine T_bkCode ?_
    replace hp := hp.re 4 [3, 2, 1]
    replace hp := hn hp
    exact retA hp hK
  · rw [if_neg (by omega), if_neg (by decide), if_pos trivial] at hK
    (repeat first|refine wx ?_|refine wy ?_|refine wz ?_|refine wv ?_|refine wh ?_)
    refine ifV_cases (fun c2 => ?_) fun c2 => ?_
    · replace c2 : 1048575 - ox < g.1 - 1 := c2
      rw [if_pos (by omega)] at hK
      refine T_bkCode ?_
      replace hp := hp.re 4 [3, 2, 1]
      replace hp := hn hp
      exact retA hp hK
    · replace c2 : ¬ 1048575 - ox < g.1 - 1 := c2
      rw [if_neg (by omega)] at hK
      (repeat first|refine wx ?_|refine wy ?_|refine wz ?_|refine wv ?_|refine wh ?_)
      replace hp := hp.re 4 [0, 2, 1, 3]
      replace hp := hn hp
      refine T_bkHas hp g0 a0 (by (first | omega | (simp only; omega))) (by (first | omega | (simp only; omega))) (by (first | omega | (simp only; omega))) fun h3 hp => ?_
      replace hp := hp.re 3 [2, 0, 1]
      replace hp := hn hp
      exact retA hp hK
theorem T_bkWithdraw (hp : All (pts ob (opRow o) :: pts b (wkRow w) :: R) h) (ok : w.ok) (ho : Bk o) (hk : o.kind = 3) (hK : ∀ h', All (pts b (wkRow (w.bank o).2) :: pts ob (opRow o) :: R) h' → K (ansV (w.bank o).1) h') : T Tryz.prog 79 [ptr b, ptr ob] h K := by
  apply S79_T
  unfold S79
  obtain ⟨kd, oa, ob_, ox⟩ := o
  simp only at hk
  subst hk
  obtain ⟨⟨a0, a1⟩, ⟨b0, b1⟩, x0, x1⟩ := ho
  simp only at a0 a1 x0 x1
  refine nw hp (resRow (i64 0) (i64 0)) rfl fun rb h1 hp => ?_
  unfold Wk.bank at hK
  simp only at hK
  rw [if_neg (by decide), if_neg (by decide), if_neg (by decide)] at hK
  (repeat first|refine wx ?_|refine wy ?_|refine wz ?_|refine wv ?_|refine wh ?_)
  have g := Wk.get_ok ok a0 (by omega : oa < 16)
  replace hp := hp.up 2
  replace hp := hn hp
  refine T_bkAt hp ok a0 (by (first | omega | (simp only; omega))) fun ab h2 hp => ?_
  obtain ⟨g0, g1, g2⟩ := g
  generalize w.get oa = g at hp hK g0 g1 g2
  replace hp := hp.re 4 [0, 3, 1, 2]
  replace hp := hn hp
  (repeat first|refine wx ?_|refine wy ?_|refine wz ?_|refine wv ?_|refine wh ?_)
  refine ifN_cases (fun c => ?_) fun c => ?_
  · rw [if_pos (by omega)] at hK
    refine T_bkCode ?_
    replace hp := hp.re 4 [3, 2, 1]
    replace hp := hn hp
    exact retA hp hK
  · rw [if_neg (by omega), if_neg (by decide), if_neg (by decide)] at hK
    (repeat first|refine wx ?_|refine wy ?_|refine wz ?_|refine wv ?_|refine wh ?_)
    refine ifV_cases (fun c2 => ?_) fun c2 => ?_
    · replace c2 : g.1 - 1 < ox := c2
      rw [if_pos (by omega)] at hK
      refine T_bkCode ?_
      replace hp := hp.re 4 [3, 2, 1]
      replace hp := hn hp
      exact retA hp hK
    · replace c2 : ¬ g.1 - 1 < ox := c2
      rw [if_neg (by omega)] at hK
      (repeat first|refine wx ?_|refine wy ?_|refine wz ?_|refine wv ?_|refine wh ?_)
      replace hp := hp.re 4 [0, 2, 1, 3]
      replace hp := hn hp
      refine T_bkHas hp g0 a0 (by (first | omega | (simp only; omega))) (by (first | omega | (simp only; omega))) (by (first | omega | (simp only; omega))) fun h3 hp => ?_
      replace hp := hp.re 3 [2, 0, 1]
      replace hp := hn hp
      exact retA hp hK
theorem T_bkTransfer (hp : All (pts ob (opRow o) :: pts b (wkRow w) :: R) h) (ok : w.ok) (ho : Bk o) (hk : o.kind = 4) (hK : ∀ h', All (pts b (wkRow (w.bank o).2) :: pts ob (opRow o) :: R) h' → K (ansV (w.bank o).1) h') : T Tryz.prog 80 [ptr b, ptr ob] h K := by
  apply S80_T
  unfold S80
  obtain ⟨kd, oa, ob_, ox⟩ := o
  simp only at hk
  subst hk
  obtain ⟨⟨a0, a1⟩, ⟨b0, b1⟩, x0, x1⟩ := ho
  simp only at a0 a1 b0 b1 x0 x1
  refine nw hp (resRow (i64 0) (i64 0)) rfl fun rb h1 hp => ?_
  unfold Wk.bank at hK
  simp only at hK
  rw [if_neg (by decide), if_neg (by decide), if_pos trivial] at hK
  (repeat first|refine wx ?_|refine wy ?_|refine wz ?_|refine wv ?_|refine wh ?_)
  have g := Wk.get_ok ok a0 (by omega : oa < 16)
  replace hp := hp.up 2
  replace hp := hn hp
  refine T_bkAt hp ok a0 (by (first | omega | (simp only; omega))) fun ab h2 hp => ?_
  obtain ⟨g0, g1, g2⟩ := g
  generalize w.get oa = g at hp hK g0 g1 g2
  replace hp := hp.re 4 [0, 3, 1, 2]
  replace hp := hn hp
  (repeat first|refine wx ?_|refine wy ?_|refine wz ?_|refine wv ?_|refine wh ?_)
  replace hp := hp.re 4 [2, 0, 1, 3]
  replace hp := hn hp
  have k := Wk.get_ok g0 b0 (by omega : ob_ < 16)
  refine T_bkAt hp g0 b0 (by (first | omega | (simp only; omega))) fun db h3 hp => ?_
  obtain ⟨k0, k1, k2⟩ := k
  generalize g.2.get ob_ = k at hp hK k0 k1 k2
  replace hp := hp.re 5 [2, 0, 3, 1, 4]
  replace hp := hn hp
  have j1 : ∀ q : Bool, (q = true ↔ g.1 = 0 ∨ k.1 = 0) → S80_j1 (ptr ob) (ptr rb) (ptr ab) (ptr db) (.bool q) h3 K := by
    intro q hq
    unfold S80_j1
    cases q with
    | true =>
      rw [if_pos (hq.1 rfl)] at hK
      (repeat first|refine wx ?_|refine wy ?_|refine wz ?_|refine wv ?_|refine wh ?_)
      refine T_bkCode ?_
      replace hp := hp.re 5 [4, 3, 2]
      replace hp := hn hp
      exact retA hp hK
    | false =>
      have hq' : ¬ (g.1 = 0 ∨ k.1 = 0) := fun e => by have := hq.2 e; cases this
      rw [if_neg hq'] at hK
      (repeat first|refine wx ?_|refine wy ?_|refine wz ?_|refine wv ?_|refine wh ?_)
      refine ifV_cases (fun c2 => ?_) fun c2 => ?_
      · replace c2 : g.1 - 1 < ox := c2
        rw [if_pos (by omega)] at hK
        refine T_bkCode ?_
        replace hp := hp.re 5 [4, 3, 2]
        replace hp := hn hp
        exact retA hp hK
      · replace c2 : ¬ g.1 - 1 < ox := c2
        rw [if_neg (by omega)] at hK
        (repeat first|refine wx ?_|refine wy ?_|refine wz ?_|refine wv ?_|refine wh ?_)
        refine ifV_cases (fun c3 => ?_) fun c3 => ?_
        · replace c3 : oa = ob_ := c3
          rw [if_pos c3] at hK
          (repeat first|refine wx ?_|refine wy ?_|refine wz ?_|refine wv ?_|refine wh ?_)
          refine T_bkDone ?_
          replace hp := hp.re 5 [4, 3, 2]
          replace hp := hn hp
          exact retA hp hK
        · replace c3 : ¬ oa = ob_ := c3
          rw [if_neg c3] at hK
          (repeat first|refine wx ?_|refine wy ?_|refine wz ?_|refine wv ?_|refine wh ?_)
          refine ifV_cases (fun c4 => ?_) fun c4 => ?_
          · replace c4 : 1048575 - ox < k.1 - 1 := c4
            rw [if_pos (by omega)] at hK
            refine T_bkCode ?_
            replace hp := hp.re 5 [4, 3, 2]
            replace hp := hn hp
            exact retA hp hK
          · replace c4 : ¬ 1048575 - ox < k.1 - 1 := c4
            rw [if_neg (by omega)] at hK
            unfold S80_j2
            (repeat first|refine wx ?_|refine wy ?_|refine wz ?_|refine wv ?_|refine wh ?_)
            replace hp := hp.re 5 [1, 3, 0, 2, 4]
            replace hp := hn hp
            refine T_bkHas hp k0 b0 (by (first | omega | (simp only; omega))) (by (first | omega | (simp only; omega))) (by (first | omega | (simp only; omega))) fun h4 hp => ?_
            replace hp := hp.re 4 [1, 2, 0, 3]
            replace hp := hn hp
            (repeat first|refine wx ?_|refine wy ?_|refine wz ?_|refine wv ?_|refine wh ?_)
            replace hp := hp.re 4 [0, 2, 1, 3]
            replace hp := hn hp
            refine T_bkHas hp (Wk.set_ok k0 _ (by constructor <;> (first | omega | (simp only; omega)))) a0 (by (first | omega | (simp only; omega))) (by (first | omega | (simp only; omega))) (by (first | omega | (simp only; omega))) fun h5 hp => ?_
            replace hp := hp.re 3 [2, 0, 1]
            replace hp := hn hp
            exact retA hp hK
  (repeat first|refine wx ?_|refine wy ?_|refine wz ?_|refine wv ?_|refine wh ?_)
  refine ifN_cases (fun c => ?_) fun c => ?_
  · exact j1 true ⟨fun _ => .inl (by omega), fun _ => rfl⟩
  · (repeat first|refine wx ?_|refine wy ?_|refine wz ?_|refine wv ?_|refine wh ?_)
    refine j1 _ ?_
    simp only [Bool.not_eq_true', decide_eq_false_iff_not]
    omega
theorem Wk.sum_ok : ∀ {n : Nat} {w : Wk} {i all : Int}, w.ok → 0 ≤ i → i + n ≤ 16 → (w.sum n i all).2.ok := by
  intro n
  induction n with
  | zero => intro w i all o _ _; exact o
  | succ n ih =>
    intro w i all o h0 h1
    unfold Wk.sum
    exact ih (Wk.get_ok o h0 (by omega)).1 (by omega) (by omega)
theorem T_bkSum (hp : All (pts ob (opRow o) :: pts b (wkRow w) :: R) h) (ok : w.ok) (hk : o.kind = 5) (hK : ∀ h', All (pts b (wkRow (w.bank o).2) :: pts ob (opRow o) :: R) h' → K (ansV (w.bank o).1) h') : T Tryz.prog 81 [ptr b, ptr ob] h K := by
  apply S81_T
  unfold S81
  refine nw hp (resRow (i64 0) (i64 0)) rfl fun rb h1 hp => ?_
  unfold Wk.bank at hK
  rw [if_pos hk] at hK
  generalize hr : w.sum 4 0 0 = r at hK
  refine Lfp_fam (ι := Nat × Wk × Int) (fun p => [ptr b, ptr rb, i64 p.2.2, i64 p.1]) (fun p h' => p.1 ≤ 4 ∧ p.2.1.ok ∧ 0 ≤ p.2.2 ∧ p.2.2 ≤ p.1 * 1099511627776 ∧ p.2.1.sum (4 - p.1) p.1 p.2.2 = r ∧ All (pts rb (resRow (i64 0) (i64 0)) :: pts ob (opRow o) :: pts b (wkRow p.2.1) :: R) h') (fun p => 4 - p.1) ?_ (0, w, 0) h1 ⟨by simp, ok, by simp, by simp, hr, hp⟩
  rintro ⟨i, w1, all⟩ h3 X ⟨hi, ok1, s0, s1, hb, hp⟩ again
  simp only at hi ok1 s0 s1 hb hp
  simp only [tup_zero, tup_succ]
  (repeat first|refine wx ?_|refine wy ?_|refine wz ?_|refine wv ?_|refine wh ?_)
  refine ifV_cases (fun c => ?_) fun c => ?_
  · obtain ⟨m, hm⟩ : ∃ m, 4 - i = m + 1 := ⟨3 - i, by omega⟩
    rw [hm] at hb
    unfold Wk.sum at hb
    have g := Wk.get_ok ok1 (c := i) (by omega) (by omega)
    replace hp := hp.up 2
    replace hp := hn hp
    refine T_bkAt hp ok1 (by (first | omega | (simp only; omega))) (by (first | omega | (simp only; omega))) fun ab h2 hp => ?_
    obtain ⟨g0, g1, g2⟩ := g
    have em : 4 - (i + 1) = m := by omega
    generalize w1.get (i : Int) = g at hp hb g0 g1 g2
    (repeat first|refine wx ?_|refine wy ?_|refine wz ?_|refine wv ?_|refine wh ?_)
    refine ifV_cases (fun c2 => ?_) fun c2 => ?_
    · (repeat first|refine wx ?_|refine wy ?_|refine wz ?_|refine wv ?_|refine wh ?_)
      replace hp := hp.re 4 [2, 3, 1]
      replace hp := hn hp
      rw [show max 0 (g.1 - 1) = g.1 - 1 by omega] at hb
      exact again (i + 1, g.2, all + (g.1 - 1)) _ ⟨by simp only; omega, g0, by simp only; omega, by simp only; omega, by simp only [em]; exact_mod_cast hb, hp⟩ (by simp only; omega)
    · (repeat first|refine wx ?_|refine wy ?_|refine wz ?_|refine wv ?_|refine wh ?_)
      replace hp := hp.re 4 [2, 3, 1]
      replace hp := hn hp
      rw [show max 0 (g.1 - 1) = 0 by omega, Int.add_zero] at hb
      exact again (i + 1, g.2, all) _ ⟨by simp only; omega, g0, by simp only; omega, by simp only; omega, by simp only [em]; exact_mod_cast hb, hp⟩ (by simp only; omega)
  · rw [show 4 - i = 0 by omega] at hb
    subst hb
    refine T_bkDone ?_
    refine retA hp fun h2 hp => ?_
    exact hK _ (hp.re 2 [1, 0])
end
end Go.Proofs.YtlmafbdhhneokaaGreat
namespace Go.Proofs.YtlmafbdhhneokaaGreat
open Go GW Go.Proofs
attribute [local irreducible] bnd ldV stV ifV binV eqI
set_option linter.unusedVariables false
set_option linter.unusedSimpArgs false
theorem setCells_mid {t : List Value} : ∀ {b a p : List Value}, a.length = b.length → setCells (p ++ (a ++ t)) p.length b = p ++ (b ++ t) := by
  intro b
  induction b with
  | nil => intro a p h; cases a with
    | nil => rfl
    | cons x a => simp at h
  | cons x b ih =>
    intro a p h
    cases a with
    | nil => simp at h
    | cons y a =>
      have e : (p ++ ((y :: a) ++ t)).set p.length x = (p ++ [x]) ++ (a ++ t) := by simp
      have e2 := ih (a := a) (p := p ++ [x]) (by simpa using h)
      simp only [setCells_cons, e]
      simp only [List.length_append, List.length_singleton] at e2
      rw [e2]; simp
abbrev vwV (v : Vw) : Value := .agg v.cells.toArray
def vwRow (v : Vw) : GObj := .row 69 v.cells 48 true
def askC (x : Int) (v : Vw) (s : Value) : List Value := i64 x :: (v.cells ++ [s])
def askV (x : Int) (v : Vw) (s : Value) : Value := .agg (askC x v s).toArray
def needN : Option Int → Int
  | none => -1
  | some c => c
def vwZ : Vw := ⟨List.replicate 16 false, List.replicate 16 0, List.replicate 16 0⟩
theorem vwZ_ok : vwZ.ok := ⟨rfl, rfl, rfl, fun x h => by rw [List.eq_of_mem_replicate h]; exact Vw.val0, fun x h => by rw [List.eq_of_mem_replicate h]; exact Vw.val0⟩
def askZ : List Value := askC 0 vwZ (.slice none 0 0)
section
variable {v : Vw} {x : Int} {s : Value}
theorem askC_len (o : v.ok) : (askC x v s).length = 50 := by simp [askC, Vw.len o]
theorem fill_view (o : v.ok) {z p t : List Value} (hz : z.length = 48) (r : List (Nat × Nat × Value)) : fillV (p ++ (z ++ t)) ((p.length, 48, vwV v) :: r) = fillV (p ++ (v.cells ++ t)) r := by
  have hl := Vw.len o
  conv => lhs; unfold fillV
  have e1 : Nat.beq (vwV v).cells.size 48 = true := by show Nat.beq v.cells.toArray.size 48 = true; rw [List.size_toArray, hl]; rfl
  have e2 : Nat.ble (p.length + 48) (p ++ (z ++ t)).length = true := Nat.ble_eq_true_of_le (by simp [hz])
  rw [e1, e2]
  show fillV (setCells _ _ v.cells) r = _
  rw [setCells_mid (by rw [hz, hl])]
theorem fill_one {p z t : List Value} {a : Value} {y : Value} (ha : a.cells = #[a]) (hz : z.length = 1) (r : List (Nat × Nat × Value)) : fillV (p ++ (z ++ t)) ((p.length, 1, a) :: r) = fillV (p ++ ([a] ++ t)) r := by
  conv => lhs; unfold fillV
  have e2 : Nat.ble (p.length + 1) (p ++ (z ++ t)).length = true := Nat.ble_eq_true_of_le (by simp [hz])
  rw [ha, e2]
  show fillV (setCells _ _ [a]) r = _
  rw [setCells_mid (by rw [hz]; rfl)]
theorem fill_ask2 (o : v.ok) : fillV askZ [(0, 1, i64 x), (1, 48, vwV v)] = some (askC x v (.slice none 0 0)) := by
  show fillV ([] ++ ([i64 0] ++ (vwZ.cells ++ [.slice none 0 0]))) ((([] : List Value).length, 1, i64 x) :: _) = _
  rw [fill_one (y := i64 0) rfl rfl]
  show fillV ([i64 x] ++ (vwZ.cells ++ [.slice none 0 0])) ((([i64 x] : List Value).length, 48, vwV v) :: _) = _
  rw [fill_view o (Vw.len vwZ_ok)]; rfl
theorem fill_ask3 (o : v.ok) (hs : s.cells = #[s]) : fillV askZ [(0, 1, i64 x), (1, 48, vwV v), (49, 1, s)] = some (askC x v s) := by
  show fillV ([] ++ ([i64 0] ++ (vwZ.cells ++ [.slice none 0 0]))) ((([] : List Value).length, 1, i64 x) :: _) = _
  rw [fill_one (y := i64 0) rfl rfl]
  show fillV ([i64 x] ++ (vwZ.cells ++ [.slice none 0 0])) ((([i64 x] : List Value).length, 48, vwV v) :: _) = _
  rw [fill_view o (Vw.len vwZ_ok)]
  have e : ([i64 x] ++ (v.cells ++ [.slice none 0 0]) : List Value) = ([i64 x] ++ v.cells) ++ ([.slice none 0 0] ++ []) := by simp
  have e2 : (49 : Nat) = ([i64 x] ++ v.cells).length := by simp [Vw.len o]
  rw [e, e2, fill_one (y := i64 0) hs rfl]
  unfold fillV
  simp [askC]
theorem fill_walk (o : v.ok) : fillV (List.replicate 16 (.bool false) ++ List.replicate 32 (i64 0) ++ [.nilIface]) [(0, 48, vwV v)] = some (v.cells ++ [.nilIface]) := by
  show fillV ([] ++ ((List.replicate 16 (.bool false) ++ List.replicate 32 (i64 0)) ++ [.nilIface])) [(([] : List Value).length, 48, vwV v)] = _
  rw [fill_view o (by simp)]; rfl
theorem fill_rwalk (o : v.ok) : fillV (List.replicate 16 (.bool false) ++ List.replicate 33 (i64 0)) [(0, 48, vwV v), (48, 1, i64 (-1))] = some (v.cells ++ [i64 (-1)]) := by
  show fillV ([] ++ ((List.replicate 16 (.bool false) ++ List.replicate 32 (i64 0)) ++ [i64 0])) ((([] : List Value).length, 48, vwV v) :: _) = _
  rw [fill_view o (by simp)]
  have e : ([] ++ (v.cells ++ [i64 0]) : List Value) = v.cells ++ ([i64 0] ++ []) := by simp
  have e2 : (48 : Nat) = v.cells.length := by rw [Vw.len o]
  rw [e, e2, fill_one (y := i64 0) rfl rfl]
  unfold fillV
  simp
end
section
variable {b c d rb pb ob : Nat} {v : Vw} {w : Wk} {R : List Part} {h : GH} {K : Value → GH → Prop} {o : Op}
theorem nwView (hp : All R h) (ok : v.ok) (k : ∀ b h', All (pts b (vwRow v) :: R) h' → K (ptr b) h') : newV 69 (vwV v).cells.toList h K := by
  refine nw hp (vwRow v) ?_ k
  show GObj.row _ v.cells v.cells.length _ = _
  rw [Vw.len ok]; rfl
/-- a result that is an ask -/
theorem retK {z : List Value} {x : Int} {s : Value} (hp : All (pts rb (.row 71 z 50 true) :: R) h) (hz : z.length = 50) (ok : v.ok) (hs : oneCell s = true) (k : ∀ h', All R h' → K (askV x v s) h') :
    bnd (stV 50 (ptr rb) (askV x v s) h) fun h' => bnd (ldV 50 true (ptr rb) h') fun u => K u h' := by
  have hl := askC_len (x := x) (s := s) ok
  refine st0 hp (.row 71 (askC x v s) 50 true) ?_ (by omega) ?_ ?_ fun h1 hp => ?_
  · show (askC x v s).toArray.size = 50
    rw [List.size_toArray, hl]
  · show (askC x v s).toArray.toList.all oneCell = true
    simp only [askC, List.all_cons, List.all_append, List.all_nil, Bool.and_true, Vw.one_cells, hs]; rfl
  · show GObj.row _ (setCells z 0 (askC x v s).toArray.toList) _ _ = _
    rw [setCells_all (by simp [hz, hl])]
  · refine la0 hp (c := askC x v s) (by omega) (by rw [List.drop_zero, ← hl, List.take_length]) ?_
    exact k _ hp.tail
/-- an ask, and the answers' row -/
def askP (m : AskM) (u : Value) : Part := fun h => ∃ s, u = askV (needN m.need) m.view s ∧ rowP 2 s (m.ans.map Answer.enc) h
theorem askP_open {C : Prop} {m : AskM} {u : Value} (hp : All (askP m u :: R) h) (k : ∀ s, u = askV (needN m.need) m.view s → All (rowP 2 s (m.ans.map Answer.enc) :: R) h → C) : C := by
  obtain ⟨s, hp⟩ := All.ex hp
  obtain ⟨e, hp⟩ := All.pure hp
  exact k s e hp
theorem askP_mk {m : AskM} {s : Value} (hp : All (rowP 2 s (m.ans.map Answer.enc) :: R) h) : All (askP m (askV (needN m.need) m.view s) :: R) h := hp.head fun _ p => ⟨s, rfl, p⟩
theorem rowP_one {size : Nat} {s : Value} {cs : List (List Value)} (hp : All (rowP size s cs :: R) h) : oneCell s = true ∧ s.cells = #[s] := by
  obtain ⟨a, cap, junk, rfl, _⟩ := hp.row
  exact ⟨rfl, rfl⟩
def askOf (v : Vw) (r : Answer × Wk) : AskM :=
  match r.2.need with
  | some c => ⟨some c, v, []⟩
  | none => ⟨none, if r.1.code = 0 then r.2.v else v, [r.1]⟩
theorem T_wAsk {a : Answer} (hp : All (pts b (wkRow w) :: pts c (vwRow v) :: R) h) (ok : w.ok) (vok : v.ok) (hK : ∀ u h', All (askP (askOf v (a, w)) u :: pts c (vwRow v) :: R) h' → K u h') : T Tryz.prog 70 [ptr b, ptr c, ansV a] h K := by
  apply S70_T
  unfold S70
  refine nw hp (.row 55 a.enc 2 true) rfl fun ab h1 hp => ?_
  refine nw hp (.row 71 askZ 50 true) rfl fun rb h2 hp => ?_
  (repeat first|refine wx ?_|refine wy ?_|refine wz ?_|refine wv ?_|refine wh ?_)
  refine ld2 hp (Vw.cell_t ok.v) ?_
  have hv : (v.cells.drop 0).take 48 = v.cells := by rw [List.drop_zero, ← Vw.len vok, List.take_length]
  have hw : ((w.v.cells ++ [needV w.need]).drop 0).take 48 = w.v.cells := Vw.take_t ok.v
  unfold askOf at hK
  cases hn : w.need with
  | some d =>
    simp only [hn] at hK hp
    (repeat first|refine wx ?_|refine wy ?_|refine wz ?_|refine wv ?_|refine wh ?_)
    replace hp := hp.re 4 [3, 0]
    replace hp := Go.Proofs.YtlmafbdhhneokaaGreat.hn hp
    refine la0 hp (c := v.cells) (by rw [Vw.len vok]; decide) hv ?_
    refine bnd_of (fill_ask2 vok) ?_
    replace hp := hp.up 1
    replace hp := Go.Proofs.YtlmafbdhhneokaaGreat.hn hp
    refine retK (K := K) hp (askC_len vwZ_ok) vok rfl fun h3 hp => ?_
    exact hK _ _ (askP_mk (m := ⟨some d, v, []⟩) (hp.emp_cons (rowP_nil 2 _)))
  | none =>
    simp only [hn] at hK hp
    (repeat first|refine wx ?_|refine wy ?_|refine wz ?_|refine wv ?_|refine wh ?_)
    refine la2 hp (c := w.v.cells) (by simp [Vw.len ok.v]) (Vw.take_t ok.v) ?_
    refine la1 hp (c := a.enc) (by simp [Answer.enc]) rfl ?_
    refine bs0 (size := 2) hp ([a].map Answer.enc) rfl rfl (by simp) (fun c hc => by rw [List.mem_singleton.1 hc]; exact a.enc_good) fun s h3 hp => ?_
    have hs := rowP_one hp
    refine bnd_of (fill_ask3 (x := -1) ok.v hs.2) ?_
    replace hp := hp.re 5 [1, 2, 0, 4]
    replace hp := Go.Proofs.YtlmafbdhhneokaaGreat.hn hp
    have hl := askC_len (x := -1) (s := s) ok.v
    have hlv := askC_len (x := -1) (s := s) vok
    refine nwst hp (.row 71 (askC (-1) w.v s) 50 true) ?_ (by decide) ?_ rfl fun kb h4 hp => ?_
    · show (askC (-1) w.v s).toArray.size = 50
      rw [List.size_toArray, hl]
    · show (askC (-1) w.v s).toArray.toList.all oneCell = true
      simp only [askC, List.all_cons, List.all_append, List.all_nil, Bool.and_true, Vw.one_cells, hs.1]; rfl
    · replace hp := hp.re 5 [2, 0, 1, 3, 4]
      replace hp := Go.Proofs.YtlmafbdhhneokaaGreat.hn hp
      (repeat first|refine wx ?_|refine wy ?_|refine wz ?_|refine wv ?_|refine wh ?_)
      refine ifN_cases (fun q => ?_) fun q => ?_
      · replace q : ¬ a.code = 0 := q
        rw [if_neg q] at hK
        replace hp := hp.re 5 [1, 2, 3, 4]
        replace hp := Go.Proofs.YtlmafbdhhneokaaGreat.hn hp
        (repeat first|refine wx ?_|refine wy ?_|refine wz ?_|refine wv ?_|refine wh ?_)
        refine wK (ldV_agg (hp.pt (i := 3) rfl) 48 0 (by rw [Vw.len vok]; decide)) ?_
        rw [hv]
        (repeat first|refine wx ?_|refine wy ?_|refine wz ?_|refine wv ?_|refine wh ?_)
        refine st0 hp (.row 71 (askC (-1) v s) 50 true) ?_ (by rw [hl]; decide) ?_ ?_ fun h5 hp => ?_
        · show v.cells.toArray.size = 48
          rw [List.size_toArray, Vw.len vok]
        · show v.cells.toArray.toList.all oneCell = true
          rw [List.toList_toArray]; exact Vw.one_cells
        · show GObj.row _ (setCells ([i64 (-1)] ++ (w.v.cells ++ [s])) ([i64 (-1)] : List Value).length v.cells.toArray.toList) _ _ = _
          rw [List.toList_toArray, setCells_mid (by rw [Vw.len vok, Vw.len ok.v])]; rfl
        · refine la0 hp (c := askC (-1) v s) (by rw [hlv]; decide) (by rw [List.drop_zero, ← hlv, List.take_length]) ?_
          replace hp := hp.re 4 [1, 2, 3]
          replace hp := Go.Proofs.YtlmafbdhhneokaaGreat.hn hp
          refine retK (K := K) hp (askC_len vwZ_ok) vok hs.1 fun h6 hp => ?_
          exact hK _ _ (askP_mk (m := ⟨none, v, [a]⟩) hp)
      · replace q : a.code = 0 := q
        rw [if_pos q] at hK
        replace hp := hp.re 5 [1, 2, 3, 4]
        replace hp := Go.Proofs.YtlmafbdhhneokaaGreat.hn hp
        refine la0 hp (c := askC (-1) w.v s) (by rw [hl]; decide) (by rw [List.drop_zero, ← hl, List.take_length]) ?_
        replace hp := hp.re 4 [1, 2, 3]
        replace hp := Go.Proofs.YtlmafbdhhneokaaGreat.hn hp
        refine retK (K := K) hp (askC_len vwZ_ok) ok.v hs.1 fun h6 hp => ?_
        exact hK _ _ (askP_mk (m := ⟨none, w.v, [a]⟩) hp)
end
end Go.Proofs.YtlmafbdhhneokaaGreat
namespace Go.Proofs.YtlmafbdhhneokaaGreat
open Go GW Go.Proofs
set_option linter.unusedVariables false
set_option linter.unusedSimpArgs false
/-! ### what the operations keep -/
theorem ruleOf_range {k a b x : Int} (h : ruleOf k = some (a, b, x)) : 0 ≤ k ∧ k < 11 ∧ a ≤ 5 ∧ (k ≤ 5 → a ≤ 4 ∧ b ≤ 4 ∧ x ≤ 1048576) := by
  unfold ruleOf at h
  repeat' split at h
  all_goals first
    | (cases h; subst_vars; omega)
    | (cases h)
theorem Op.may_spec {o : Op} (m : o.may = true) : ∃ a b x, ruleOf o.kind = some (a, b, x) ∧ (0 ≤ o.a ∧ o.a < a) ∧ (0 ≤ o.b ∧ o.b < b) ∧ 0 ≤ o.x ∧ o.x < x := by
  unfold Op.may at m
  split at m
  · rename_i a b x e
    simp only [Bool.and_eq_true, decide_eq_true_eq] at m
    exact ⟨a, b, x, e, m⟩
  · cases m
theorem Op.may_kind {o : Op} (m : o.may = true) : 0 ≤ o.kind ∧ o.kind < 11 := by
  obtain ⟨a, b, x, e, _⟩ := Op.may_spec m
  have := ruleOf_range e; omega
theorem Op.may_bk {o : Op} (m : o.may = true) (h : o.kind ≤ 5) : Bk o := by
  obtain ⟨a, b, x, e, m⟩ := Op.may_spec m
  have := (ruleOf_range e).2.2.2 h
  unfold Bk; omega
theorem Op.may_sk {o : Op} (m : o.may = true) : 0 ≤ o.a ∧ o.a < 5 := by
  obtain ⟨a, b, x, e, m⟩ := Op.may_spec m
  have := (ruleOf_range e).2.2.1
  omega
section
variable {w : Wk} {o : Op}
theorem Wk.bank_ok (ok : w.ok) (ho : Bk o) (hk : 0 ≤ o.kind) (hk5 : o.kind ≤ 5) : (w.bank o).2.ok := by
  obtain ⟨⟨a0, a1⟩, ⟨b0, b1⟩, x0, x1⟩ := ho
  have g := Wk.get_ok ok a0 (by omega : o.a < 16)
  have k := Wk.get_ok g.1 b0 (by omega : o.b < 16)
  obtain ⟨g0, g1, g2⟩ := g
  obtain ⟨k0, k1, k2⟩ := k
  have s : (w.sum 4 0 0).2.ok := Wk.sum_ok ok (by decide) (by decide)
  unfold Wk.bank
  simp only
  generalize w.sum 4 0 0 = sm at s ⊢
  generalize (w.get o.a).2.get o.b = kk at *
  generalize w.get o.a = gg at *
  have V : ∀ {x : Int}, 0 ≤ x → x < 1099511627776 → Vw.val x := fun a b => ⟨a, b⟩
  repeat' split
  all_goals first
    | assumption
    | (refine Wk.set_ok (Wk.set_ok ?_ _ (V ?_ ?_)) _ (V ?_ ?_) <;> first | assumption | omega)
    | (refine Wk.set_ok ?_ _ (V ?_ ?_) <;> first | assumption | omega)
theorem Wk.bits_ok : ∀ {n : Nat} {w : Wk} {x b out : Int}, w.ok → -1 ≤ x → x < 5 → (w.bits n x b out).2.ok := by
  intro n
  induction n with
  | zero => intro w x b out o _ _; exact o
  | succ n ih =>
    intro w x b out o h0 h1
    unfold Wk.bits
    split
    · exact o
    · have g := Wk.next_ok o (show Lv x 0 from ⟨h0, h1, by decide, by decide⟩)
      exact ih g.1 (by omega) (by omega)
theorem Wk.insert_ok (ok : w.ok) {hi lo x : Int} (lh : Lv hi 1) (ll : Lv lo 0) (la : 0 ≤ o.a ∧ o.a < 5) : (w.insert o hi lo x).2.ok := by
  have l0 : Lv o.a 0 := ⟨by omega, la.2, by decide, by decide⟩
  have l1 : Lv o.a 1 := ⟨by omega, la.2, by decide, by decide⟩
  unfold Wk.insert
  split
  · exact ok
  · simp only
    split
    · exact Wk.put_ok (Wk.put_ok ok ll l0) lh l1
    · exact Wk.put_ok ok ll l0
theorem Wk.erase_ok (ok : w.ok) {hi lo x : Int} (lh : Lv hi 1) (ll : Lv lo 0) (la : 0 ≤ o.a ∧ o.a < 5) : (w.erase o hi lo x).2.ok := by
  have l0 : Lv o.a 0 := ⟨by omega, la.2, by decide, by decide⟩
  have l1 : Lv o.a 1 := ⟨by omega, la.2, by decide, by decide⟩
  have g := Wk.next_ok (Wk.drop_ok ok ll l0) lh
  unfold Wk.erase
  split
  · simp only
    split
    · exact Wk.drop_ok g.1 lh l1
    · exact g.1
  · exact ok
/-- a key's place: what it keeps -/
theorem Wk.place_ok (ok : w.ok) {key : Int} : let hi := w.before 7 key (-1) 1; let lo := hi.2.before 7 key hi.1 0; Lv hi.1 1 ∧ Lv lo.1 0 ∧ (lo.2.next lo.1 0).2.ok ∧ -1 ≤ (lo.2.next lo.1 0).1 ∧ (lo.2.next lo.1 0).1 < 5 := by
  have g1 := Wk.before_ok (n := 7) (key := key) ok (show Lv (-1) 1 by unfold Lv; omega)
  simp only
  generalize w.before 7 key (-1) 1 = hi at g1 ⊢
  have g2 := Wk.before_ok (n := 7) (key := key) g1.1 (show Lv hi.1 0 from ⟨g1.2.1, g1.2.2, by decide, by decide⟩)
  generalize hi.2.before 7 key hi.1 0 = lo at g2 ⊢
  have l3 : Lv lo.1 0 := ⟨by have := g1.2.1; have := g2.2.1; omega, g2.2.2, by decide, by decide⟩
  have g3 := Wk.next_ok g2.1 l3
  have := l3.1
  exact ⟨⟨g1.2.1, g1.2.2, by decide, by decide⟩, l3, g3.1, by omega, by omega⟩
theorem Wk.skip_ok (ok : w.ok) (la : 0 ≤ o.a ∧ o.a < 5) : (w.skip o).2.ok := by
  unfold Wk.skip
  split
  · exact (Wk.next_ok ok (show Lv (-1) 0 by unfold Lv; omega)).1
  · obtain ⟨p1, p2, p3, p4, p5⟩ := Wk.place_ok ok (key := o.a)
    simp only
    split
    · exact p3
    · split
      · exact Wk.bits_ok p3 p4 p5
      · split
        · exact Wk.insert_ok p3 p1 p2 la
        · exact Wk.erase_ok p3 p1 p2 la
end
theorem Vw.run_ok {v : Vw} {o : Op} (ok : v.ok) (m : o.may = true) : (if o.kind ≤ 5 then Wk.bank ⟨v, none⟩ o else Wk.skip ⟨v, none⟩ o).2.ok := by
  have wok : (⟨v, none⟩ : Wk).ok := ⟨ok, fun c e => by cases e⟩
  split
  · rename_i c; exact Wk.bank_ok wok (Op.may_bk m c) (Op.may_kind m).1 c
  · exact Wk.skip_ok wok (Op.may_sk m)
theorem Vw.one_ok {v : Vw} {o : Op} (ok : v.ok) (m : o.may = true) : (v.one o).view.ok ∧ (∀ c, (v.one o).need = some c → 0 ≤ c ∧ c < 16) ∧ ((v.one o).need = none → ∃ a, (v.one o).ans = [a]) := by
  have r := Vw.run_ok ok m
  unfold Vw.one
  simp only
  generalize (if o.kind ≤ 5 then Wk.bank ⟨v, none⟩ o else Wk.skip ⟨v, none⟩ o) = q at r ⊢
  cases hn : q.2.need with
  | some c => exact ⟨ok, (fun d e => by cases e; exact r.need c hn), fun e => by cases e⟩
  | none =>
    refine ⟨?_, (fun d e => by cases e), fun _ => ⟨_, rfl⟩⟩
    simp only
    split
    · exact r.v
    · exact ok
end Go.Proofs.YtlmafbdhhneokaaGreat
