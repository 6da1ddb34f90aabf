/- Laws for proofs over the shallow forms: what is left out of a heap, loops, rows that are read, whole numbers. Nothing here is a statement on the program. -/
import Derived.Test.YtkcgphbgbibhfaaG14
namespace Go.Proofs.Ytkcgphbgbibhfaa.GW
open Go
set_option linter.unusedVariables false
set_option linter.unusedSimpArgs false

/-! ### less may be told of a heap -/
def HLe (h h' : GH) : Prop := ∀ b g, h b = some g → h' b = some g
theorem HLe.refl (h : GH) : HLe h h := fun _ _ e => e
theorem HLe.trans {a b c : GH} (x : HLe a b) (y : HLe b c) : HLe a c := fun k g e => y k g (x k g e)
theorem HLe.upd {h h' : GH} (l : HLe h h') (b : Nat) (g : GObj) : HLe (upd h b g) (GW.upd h' b g) := by
  intro k g' e
  by_cases hk : k = b
  · subst hk; simpa using e
  · rw [upd_ne hk] at e ⊢; exact l k g' e
theorem HLe.new {h h' : GH} (l : HLe h h') {b : Nat} (g : GObj) (hb : h b = none) : HLe h (GW.upd h' b g) := by
  intro k g' e
  rw [upd_ne (ne_of_fresh hb e)]; exact l k g' e
theorem HLe.none {h h' : GH} (l : HLe h h') {b : Nat} (hb : h' b = none) : h b = none := by
  cases e : h b with
  | none => rfl
  | some g => rw [l b g e] at hb; cases hb

theorem Sub.le {h h' : GH} {w : World} (s : Sub h' w) (l : HLe h h') : Sub h w := fun b g e => s b g (l b g e)

theorem Step.le {h0 h h' : GH} {w0 w : World} (s : Step h0 w0 h' w) (l : HLe h h') : Step h0 w0 h w :=
  ⟨s.os, s.tape, s.output, s.size, s.old, fun b g e hb => s.dom b g (l b g e) hb⟩

theorem T.drop {P : Program} {f : FuncId} {args : List Value} {h : GH} {K : Value → GH → Prop} (t : T P f args h fun v h' => ∃ h0, HLe h0 h' ∧ K v h0) : T P f args h K :=
  ⟨t.has, fun w s => (t.calls w s).mono fun e w' ⟨v, h', he, hs, hst, h0, hl, hk⟩ => ⟨v, h0, he, hs.le hl, hst.le hl, hk⟩⟩

/-! ### the law's own heap: all that is there, to be read -/
def full (w : World) : GH := fun b => match w.heap[b]? with | some (.cells c T _) => some (.row T c.toList c.size false) | _ => none

theorem sub_full (w : World) : Sub (full w) w := by
  intro b g e
  unfold full at e
  split at e
  · rename_i c T fr ho
    cases e
    exact ⟨_, ho, rfl, rfl, List.prefix_refl _, fun h => by cases h⟩
  · cases e

theorem full_free {w : World} {b : Nat} {g : GObj} (e : full w b = some g) : g.free = false := by
  unfold full at e
  split at e
  · cases e; rfl
  · cases e

open Go.RowKit in
/-- A law: it tells true, and what was there is as it was. -/
theorem law_calls {P : Program} {f : FuncId} {args : List Value} {w : World} (t : T P f args (full w) fun v _ => v = .bool true) :
    Calls P f args.toArray w fun e w' => e = .returned (.bool true) ∧ Below w.heap.size w w' :=
  (t.calls w (sub_full w)).mono fun e w' ⟨v, h', he, hs, hst, hk⟩ => ⟨by rw [he, hk], ⟨hst.os, hst.tape, hst.output, hst.size, fun k hk => hst.old k hk fun g hg => full_free hg⟩⟩

/-! ### loops -/
theorem Lfp_fam {ι : Type} {F : (Nat → Value) → GH → ((Nat → Value) → GH → Prop) → Prop} (st : ι → List Value) (I : ι → GH → Prop) (μ : ι → Nat)
    (step : ∀ i h X, I i h → (∀ i' h', I i' h' → μ i' < μ i → X (tup (st i')) h') → F (tup (st i)) h X) (i : ι) (h : GH) (hi : I i h) : Lfp F (tup (st i)) h := by
  intro X hX
  have key : ∀ n i h, μ i = n → I i h → X (tup (st i)) h := by
    intro n
    induction n using Nat.strongRecOn with
    | _ n ih =>
      intro i h hn hI
      exact hX _ _ (step i h X hI fun i' h' hI' hlt => ih (μ i') (by omega) i' h' rfl hI')
  exact key _ i h rfl hi

@[simp] theorem tup_zero (v : Value) (l : List Value) : tup (v :: l) 0 = v := rfl
@[simp] theorem tup_succ (v : Value) (l : List Value) (n : Nat) : tup (v :: l) (n + 1) = tup l n := rfl

/-! ### whole numbers -/
abbrev i64 (n : Int) : Value := .int .i64 n

theorem wrap_id {n : Int} (h1 : -9223372036854775808 ≤ n) (h2 : n ≤ 9223372036854775807) : IntKind.i64.wrap n = n := by
  unfold IntKind.wrap; simp [IntKind.bits, IntKind.signed]; omega

section
variable (k : IntKind) (a b : Int)
@[simp] theorem binV_add : binV .add (.int k a) (.int k b) = some (.int k (k.wrap (a + b))) := by simp [binV, intB]
@[simp] theorem binV_sub : binV .sub (.int k a) (.int k b) = some (.int k (k.wrap (a - b))) := by simp [binV, intB]
@[simp] theorem binV_mul : binV .mul (.int k a) (.int k b) = some (.int k (k.wrap (a * b))) := by simp [binV, intB]
@[simp] theorem binV_quo : binV .quo (.int k a) (.int k b) = if b = 0 then none else some (.int k (k.wrap (a.tdiv b))) := by simp [binV, intB]
@[simp] theorem binV_rem : binV .rem (.int k a) (.int k b) = if b = 0 then none else some (.int k (a.tmod b)) := by simp [binV, intB]
@[simp] theorem binV_lss : binV .lss (.int k a) (.int k b) = some (.bool (decide (a < b))) := by simp [binV, intB]
@[simp] theorem binV_leq : binV .leq (.int k a) (.int k b) = some (.bool (decide (a ≤ b))) := by simp [binV, intB]
@[simp] theorem binV_gtr : binV .gtr (.int k a) (.int k b) = some (.bool (decide (b < a))) := by simp [binV, intB]
@[simp] theorem binV_geq : binV .geq (.int k a) (.int k b) = some (.bool (decide (b ≤ a))) := by simp [binV, intB]
@[simp] theorem eqI_int : eqI (.int k a) (.int k b) = some (decide (a = b)) := by simp [eqI]; by_cases h : a = b <;> simp [h]
@[simp] theorem cvV_int (k' : IntKind) : cvV k' (.int k a) = some (.int k' (k'.wrap a)) := rfl
end
@[simp] theorem unV_not (b : Bool) : unV .not (.bool b) = some (.bool (!b)) := rfl
@[simp] theorem lnV_slice (a : Option Addr) (n c : Nat) : lnV (.slice a n c) = some (.int .i64 n) := rfl
@[simp] theorem exV_tuple (vs : Array Value) (i : Nat) : exV (.tuple vs) i = vs[i]? := rfl
@[simp] theorem ncV_pointer (a : Addr) : ncV (.pointer (some a)) = some (.pointer (some a)) := rfl
@[simp] theorem faV_pointer (n b o : Nat) : faV n (.pointer (some ⟨b, o, none⟩)) = some (.pointer (some ⟨b, o + n, none⟩)) := rfl
@[simp] theorem pickO_true (a b : Option Value) : pickO (.bool true) a b = a := rfl
@[simp] theorem pickO_false (a b : Option Value) : pickO (.bool false) a b = b := rfl
theorem ifV_iff (b : Bool) (A B : Prop) : ifV (.bool b) A B = (if b = true then A else B) := by cases b <;> rfl
theorem ifV_dec (c : Prop) [Decidable c] (A B : Prop) : ifV (.bool (decide c)) A B = (if c then A else B) := by
  rw [ifV_iff]; simp

/-- a load of a row's cell -/
theorem ldV_cell {h : GH} {b : Nat} {T : TypeId} {pre : List Value} {sz : Nat} {f : Bool} (e : h b = some (.row T pre sz f)) (n off : Nat) : ldV n false (.pointer (some ⟨b, off, none⟩)) h = pre[off]? := by
  simp [ldV, e]
theorem ldV_agg {h : GH} {b : Nat} {T : TypeId} {pre : List Value} {sz : Nat} {f : Bool} (e : h b = some (.row T pre sz f)) (n off : Nat) (hl : off + n ≤ pre.length) : ldV n true (.pointer (some ⟨b, off, none⟩)) h = some (.agg ((pre.drop off).take n).toArray) := by
  have : Nat.ble (off + n) pre.length = true := Nat.ble_eq_true_of_le hl
  simp [ldV, e, this]
theorem stV_row {h : GH} {b : Nat} {T : TypeId} {pre : List Value} {sz : Nat} (e : h b = some (.row T pre sz true)) (n off : Nat) (v : Value) (hn : v.cells.size = n) (hl : off + n ≤ pre.length) (hc : v.cells.toList.all oneCell = true) :
    stV n (.pointer (some ⟨b, off, none⟩)) v h = some (upd h b (.row T (setCells pre off v.cells.toList) sz true)) := by
  have h1 : Nat.ble (off + n) pre.length = true := Nat.ble_eq_true_of_le hl
  have h2 : Nat.beq v.cells.size n = true := by simp [hn]
  simp only [stV, e, h1, h2, hc, Bool.and_self, Bool.and_true]

/-! ### what the walks rewrite by -/
theorem cells_agg (c : Array Value) : (Value.agg c).cells = c := rfl
theorem cells_int (k : IntKind) (n : Int) : (Value.int k n).cells = #[.int k n] := rfl
theorem cells_bool (b : Bool) : (Value.bool b).cells = #[.bool b] := rfl
theorem cells_pointer (a : Option Addr) : (Value.pointer a).cells = #[.pointer a] := rfl
theorem cells_slice (a : Option Addr) (n c : Nat) : (Value.slice a n c).cells = #[.slice a n c] := rfl
theorem cells_iface (t : TypeId) (v : Value) : (Value.iface t v).cells = #[.iface t v] := rfl
theorem cells_nilIface : (Value.nilIface).cells = #[.nilIface] := rfl
theorem cells_func (f : Fn) (x y : Array Value) : (Value.func f x y).cells = #[.func f x y] := rfl
theorem cells_nilFunc : (Value.nilFunc).cells = #[.nilFunc] := rfl
theorem one_int (k : IntKind) (n : Int) : oneCell (.int k n) = true := rfl
theorem one_bool (b : Bool) : oneCell (.bool b) = true := rfl
theorem one_pointer (a : Option Addr) : oneCell (.pointer a) = true := rfl
theorem one_slice (a : Option Addr) (n c : Nat) : oneCell (.slice a n c) = true := rfl
theorem one_iface (t : TypeId) (v : Value) : oneCell (.iface t v) = true := rfl
theorem one_nilIface : oneCell .nilIface = true := rfl
theorem one_func (f : Fn) (x y : Array Value) : oneCell (.func f x y) = true := rfl
theorem one_nilFunc : oneCell .nilFunc = true := rfl

theorem ldV_same (h : GH) (b : Nat) (T : TypeId) (pre : List Value) (sz : Nat) (f : Bool) (n off : Nat) : ldV n false (.pointer (some ⟨b, off, none⟩)) (upd h b (.row T pre sz f)) = pre[off]? :=
  ldV_cell (upd_same _ _ _) n off
theorem ldV_same_agg (h : GH) (b : Nat) (T : TypeId) (pre : List Value) (sz : Nat) (f : Bool) (n off : Nat) : ldV n true (.pointer (some ⟨b, off, none⟩)) (upd h b (.row T pre sz f)) = if off + n ≤ pre.length then some (.agg ((pre.drop off).take n).toArray) else none := by
  by_cases hl : off + n ≤ pre.length
  · rw [if_pos hl]; exact ldV_agg (upd_same _ _ _) n off hl
  · have : Nat.ble (off + n) pre.length = false := by rw [← Bool.not_eq_true]; exact fun q => hl (Nat.le_of_ble_eq_true q)
    rw [if_neg hl]; simp only [ldV, upd_same, this]
theorem ldV_other {h : GH} {b k : Nat} (hk : k ≠ b) (g : GObj) (n off : Nat) (gg : Bool) : ldV n gg (.pointer (some ⟨k, off, none⟩)) (upd h b g) = ldV n gg (.pointer (some ⟨k, off, none⟩)) h := by
  simp only [ldV, upd_ne hk]
theorem stV_same (h : GH) (b : Nat) (T : TypeId) (pre : List Value) (sz : Nat) (n off : Nat) (v : Value) :
    stV n (.pointer (some ⟨b, off, none⟩)) v (upd h b (.row T pre sz true)) = if v.cells.size = n ∧ off + n ≤ pre.length ∧ v.cells.toList.all oneCell = true then some (upd h b (.row T (setCells pre off v.cells.toList) sz true)) else none := by
  by_cases hc : v.cells.size = n ∧ off + n ≤ pre.length ∧ v.cells.toList.all oneCell = true
  · rw [if_pos hc, stV_row (upd_same _ _ _) n off v hc.1 hc.2.1 hc.2.2, upd_upd]
  · rw [if_neg hc]
    cases h1 : Nat.beq v.cells.size n with
    | false => simp only [stV, upd_same, h1, Bool.false_and]
    | true =>
      cases h2 : Nat.ble (off + n) pre.length with
      | false => simp only [stV, upd_same, h2, Bool.false_and, Bool.and_false]
      | true =>
        cases h3 : v.cells.toList.all oneCell with
        | false => simp only [stV, upd_same, h3, Bool.and_false]
        | true => exact absurd ⟨Nat.eq_of_beq_eq_true h1, Nat.le_of_ble_eq_true h2, h3⟩ hc
theorem stV_other {h : GH} {b k : Nat} (hk : k ≠ b) (g : GObj) (n off : Nat) (v : Value) : stV n (.pointer (some ⟨k, off, none⟩)) v (upd h b g) = (stV n (.pointer (some ⟨k, off, none⟩)) v h).map fun h' => upd h' b g := by
  simp only [stV, upd_ne hk]
  split
  · split
    · simp only [Option.map_some]; rw [upd_comm _ _ _ (Ne.symm hk)]
    · rfl
  · rfl

end Go.Proofs.Ytkcgphbgbibhfaa.GW
