/- Plans: what a function that is handed one reads. Nothing here is a statement on the program. -/
import Derived.Test.YtkcgphbgbibhfaaFlatOp
namespace Go.Proofs.Ytkcgphbgbibhfaa
open Go GW Go.Proofs
set_option linter.unusedVariables false
set_option linter.unusedSimpArgs false
def All2 {α β : Type} (R : α → β → Prop) (xs : List α) (ys : List β) : Prop := xs.length = ys.length ∧ ∀ (i : Nat) x y, xs[i]? = some x → ys[i]? = some y → R x y
theorem All2.mono {α β : Type} {R S : α → β → Prop} {xs : List α} {ys : List β} (a : All2 R xs ys) (h : ∀ x y, R x y → S x y) : All2 S xs ys := ⟨a.1, fun i x y hx hy => h x y (a.2 i x y hx hy)⟩
theorem All2.of {α β : Type} {R : α → β → Prop} {Q : α → Prop} (h : ∀ x, Q x → ∃ y, R x y) : ∀ (xs : List α), (∀ x ∈ xs, Q x) → ∃ ys, All2 R xs ys := by
  intro xs
  induction xs with
  | nil => intro _; exact ⟨[], rfl, fun i x y hx => by simp at hx⟩
  | cons x xs ih =>
    intro hq
    obtain ⟨y, hy⟩ := h x (hq x (by simp))
    obtain ⟨ys, h1, h2⟩ := ih fun z hz => hq z (List.mem_cons_of_mem _ hz)
    refine ⟨y :: ys, by simp [h1], fun i a b ha hb => ?_⟩
    cases i with
    | zero => simp at ha hb; subst ha; subst hb; exact hy
    | succ i => exact h2 i a b (by simpa using ha) (by simpa using hb)
theorem All2.get {α β : Type} {R : α → β → Prop} {xs : List α} {ys : List β} (a : All2 R xs ys) {i : Nat} {y : β} (hy : ys[i]? = some y) : ∃ x, xs[i]? = some x ∧ R x y := by
  have hi := (List.getElem?_eq_some_iff.1 hy).1
  obtain ⟨x, hx⟩ : ∃ x, xs[i]? = some x := ⟨_, List.getElem?_eq_getElem (by have := a.1; omega)⟩
  exact ⟨_, hx, a.2 i _ _ hx hy⟩
abbrev Txn := List Op
def txnC (h : GH) (c : List Value) (t : Txn) : Prop := ∃ w, c = [w] ∧ rowsAt h 4 w (t.map Op.enc)
def thrC (h : GH) (c : List Value) (ts : List Txn) : Prop := ∃ w es, c = [w] ∧ rowsAt h 1 w es ∧ All2 (txnC h) es ts
def threadsAt (h : GH) (v : Value) (p : List (List Txn)) : Prop := ∃ es, rowsAt h 1 v es ∧ All2 (thrC h) es p
theorem txnC.le {h h' : GH} {c : List Value} {t : Txn} (a : txnC h c t) (l : HLe h h') : txnC h' c t := by
  obtain ⟨w, h1, h2⟩ := a
  exact ⟨w, h1, h2.le l⟩
theorem thrC.le {h h' : GH} {c : List Value} {t : List Txn} (a : thrC h c t) (l : HLe h h') : thrC h' c t := by
  obtain ⟨w, es, h1, h2, h3⟩ := a
  exact ⟨w, es, h1, h2.le l, h3.mono fun x y q => q.le l⟩
theorem threadsAt.le {h h' : GH} {v : Value} {p : List (List Txn)} (a : threadsAt h v p) (l : HLe h h') : threadsAt h' v p := by
  obtain ⟨es, h2, h3⟩ := a
  exact ⟨es, h2.le l, h3.mono fun x y q => q.le l⟩
structure Plan where
  threads : List (List Txn)
  attempts : Int
  polite : Bool
def planC (v : Value) (p : Plan) : List Value := [v, i64 p.attempts, .bool p.polite]
def ruleOf (k : Int) : Option (Int × Int × Int) :=
  if k = 0 then some (4, 1, 1048576) else if k = 1 then some (4, 1, 1) else if k = 2 then some (4, 1, 1048576) else if k = 3 then some (4, 1, 1048576) else if k = 4 then some (4, 4, 1048576) else
  if k = 5 then some (1, 1, 1) else if k = 6 then some (5, 1, 2) else if k = 7 then some (5, 1, 1) else if k = 8 then some (5, 1, 1) else if k = 9 then some (1, 1, 1) else if k = 10 then some (5, 5, 1) else none
def Op.may (o : Op) : Bool := match ruleOf o.kind with
  | some (a, b, x) => decide (0 ≤ o.a ∧ o.a < a) && (decide (0 ≤ o.b ∧ o.b < b) && decide (0 ≤ o.x ∧ o.x < x))
  | none => false
def Txn.may (t : Txn) : Bool := t.all Op.may && (decide (1 ≤ (t.length : Int)) && decide ((t.length : Int) ≤ 2))
def thrMay (ts : List Txn) : Bool := decide (ts.length ≤ 8) && ts.all Txn.may
def Plan.may (p : Plan) : Bool := decide (1 ≤ p.threads.length ∧ p.threads.length ≤ 4 ∧ 1 ≤ p.attempts ∧ p.attempts ≤ 16) && p.threads.all thrMay
/-- a load of each cell of an element -/
def opAt (h : GH) (b o : Nat) (x : Op) : Prop := ∀ (j : Nat) v, x.enc[j]? = some v → ldV 1 false (.pointer (some ⟨b, o + j, none⟩)) h = some v
theorem HLe.ld {h h' : GH} (l : HLe h h') {n : Nat} {g : Bool} {p v : Value} (e : ldV n g p h = some v) : ldV n g p h' = some v := by
  unfold ldV at e ⊢
  split at e
  · split at e
    · rename_i he; rw [l _ _ he]; exact e
    · cases e
  · cases e
def rules : List Value := [4, 1, 1048576, 4, 1, 1, 4, 1, 1048576, 4, 1, 1048576, 4, 4, 1048576, 1, 1, 1, 5, 1, 2, 5, 1, 1, 5, 1, 1, 1, 1, 1, 5, 5, 1].map i64
theorem rules_at (k : Nat) (hk : k < 11) : ∃ a b x, (rules.drop (k * 3)).take 3 = [i64 a, i64 b, i64 x] ∧ ruleOf k = some (a, b, x) := by
  match k, hk with
  | 0, _ | 1, _ | 2, _ | 3, _ | 4, _ | 5, _ | 6, _ | 7, _ | 8, _ | 9, _ | 10, _ => exact ⟨_, _, _, rfl, rfl⟩
theorem T_OpMay {b o : Nat} {x : Op} {h : GH} {K : Value → GH → Prop} (hx : opAt h b o x) (hK : K (.bool x.may) h) : T Try.prog 19 [.pointer (some ⟨b, o, none⟩)] h K := by
  apply T.drop
  apply S19_T
  unfold S19
  refine bnd_of rfl (bnd_of rfl (bnd_of rfl (bnd_of rfl (bnd_of rfl (bnd_of rfl (bnd_of rfl (bnd_of rfl (bnd_of rfl (bnd_of rfl (bnd_of rfl (bnd_of rfl ?_)))))))))))
  refine new_st rules rfl rfl rfl rfl fun b0 h1 f0 e0 l1 => ?_
  have ld (j : Nat) (v : Value) (h' : GH) (l : HLe h h') (hj : x.enc[j]? = some v) : ldV 1 false (.pointer (some ⟨b, o + j, none⟩)) h' = some v := HLe.ld l (hx j v hj)
  refine bnd_of rfl (bnd_of rfl (bnd_of (ld 0 _ h1 l1 rfl) ?_))
  refine T_Below (bnd_of rfl ?_)
  rw [ifV_iff]
  split
  · rename_i hc
    refine ⟨h, l1, ?_⟩
    have : x.may = false := by
      unfold Op.may ruleOf
      simp at hc
      repeat rw [if_neg (by omega)]
    rw [this] at hK; exact hK
  rename_i hc
  have hc : 0 ≤ x.kind ∧ x.kind < 11 := by simpa using hc
  obtain ⟨k, hk⟩ := Int.eq_ofNat_of_zero_le hc.1
  have hk11 : k < 11 := by omega
  obtain ⟨ra, rb, rx, hr, hr2⟩ := rules_at k hk11
  have hmay : x.may = (decide (0 ≤ x.a ∧ x.a < ra) && (decide (0 ≤ x.b ∧ x.b < rb) && decide (0 ≤ x.x ∧ x.x < rx))) := by
    unfold Op.may; rw [hk]; rw [hr2]
  refine bnd_of rfl (bnd_of rfl (bnd_of (ld 0 _ h1 l1 rfl) ?_))
  rw [hk]
  refine bnd_of (iaV_at hk11 .i64) (bnd_of (v := .agg [i64 ra, i64 rb, i64 rx].toArray) ?_ ?_)
  · rw [ldV_agg e0 _ _ (by have : rules.length = 33 := rfl; omega), Nat.zero_add, hr]
  refine new_st [i64 ra, i64 rb, i64 rx] rfl rfl rfl rfl fun b2 h2 f2 e2 l2 => ?_
  have l12 := l1.trans l2
  refine bnd_of rfl (bnd_of rfl (bnd_of (ld 1 _ h2 l12 rfl) (bnd_of rfl (bnd_of (v := i64 ra) (by rw [ldV_cell e2]; rfl) ?_))))
  refine T_Below ?_
  rw [ifV_dec]
  split
  · rename_i c1
    refine bnd_of rfl (bnd_of rfl (bnd_of (ld 2 _ h2 l12 rfl) (bnd_of rfl (bnd_of (v := i64 rb) (by rw [ldV_cell e2]; rfl) ?_))))
    refine T_Below ?_
    rw [ifV_dec]
    split
    · rename_i c2
      refine bnd_of rfl (bnd_of rfl (bnd_of (ld 3 _ h2 l12 rfl) (bnd_of rfl (bnd_of (v := i64 rx) (by rw [ldV_cell e2]; rfl) ?_))))
      refine T_Below ⟨h, l12, ?_⟩
      have : x.may = decide (0 ≤ x.x ∧ x.x < rx) := by rw [hmay, decide_eq_true c1, decide_eq_true c2]; rfl
      rw [this] at hK; exact hK
    · rename_i c2
      refine ⟨h, l12, ?_⟩
      have : x.may = false := by rw [hmay, decide_eq_false c2]; simp
      rw [this] at hK; exact hK
  · rename_i c1
    refine ⟨h, l12, ?_⟩
    have : x.may = false := by rw [hmay, decide_eq_false c1]; simp
    rw [this] at hK; exact hK
theorem T_OpsMay {v : Value} {t : Txn} {h : GH} {K : Value → GH → Prop} (r : rowsAt h 4 v (t.map Op.enc)) (hK : K (.bool t.may) h) : T Try.prog 16 [v] h K := by
  apply S16_T
  unfold S16
  have hln := r.len
  have hmx := r.max
  rw [List.length_map] at hln hmx
  refine bnd_of hln ?_
  refine Lfp_fam (ι := Nat) (fun i => [v, i64 t.length, i64 i]) (fun i h' => i ≤ t.length ∧ h' = h ∧ (t.take i).all Op.may = true) (fun i => t.length - i) ?_ 0 h ⟨Nat.zero_le _, rfl, rfl⟩
  intro i h' X ⟨hi, hh, hok⟩ again
  subst hh
  simp only [tup_zero, tup_succ, binV_lss, bnd_some, ifV_dec]
  split
  · rename_i hlt
    obtain ⟨x, hx⟩ : ∃ x, t[i]? = some x := ⟨_, List.getElem?_eq_getElem (by omega)⟩
    obtain ⟨b, o, e2, hf, ha⟩ := r.fld (i := i) (c := x.enc) (by simp [hx]) .i64
    refine bnd_of e2 (T_OpMay hf (bnd_of rfl ?_))
    rw [ifV_iff]
    split
    · rename_i hm
      have : t.may = false := by
        unfold Txn.may
        have : t.all Op.may = false := List.all_eq_false.2 ⟨x, List.mem_of_getElem? hx, by simpa using hm⟩
        rw [this]; rfl
      rw [this] at hK; exact hK
    · rename_i hm
      refine bnd_of (binV_add _ _ _) ?_
      rw [wrap_id (by omega) (by omega)]
      refine again (i + 1) h' ⟨by omega, rfl, ?_⟩ (by omega)
      rw [List.take_add_one, hx, List.all_append, hok]
      simpa using hm
  · rename_i hge
    have hall : t.take i = t := List.take_of_length_le (by omega)
    rw [hall] at hok
    refine bnd_of hln (bnd_of (binV_geq _ _ _) ?_)
    rw [ifV_dec]
    split
    · rename_i c1
      refine bnd_of hln (bnd_of (binV_leq _ _ _) ?_)
      have : t.may = decide ((t.length : Int) ≤ 2) := by unfold Txn.may; rw [hok, decide_eq_true c1]; rfl
      rw [this] at hK; exact hK
    · rename_i c1
      have : t.may = false := by unfold Txn.may; rw [decide_eq_false c1]; simp
      rw [this] at hK; exact hK
end Go.Proofs.Ytkcgphbgbibhfaa
