/- Several texts in one, each under its own remark or none; nothing here is a statement on the program. -/
import Derived.Test.YtbiappodepnbmaaKG
import Derived.Test.YtbiappodepnbmaaKS
import Derived.Carry
namespace Go.Proofs.Ytbiappodepnbmaa.GW
open Go
set_option linter.unusedVariables false
set_option linter.unusedSimpArgs false

/-! ### less may be told of a heap -/
def HLe (h h' : GH) : Prop := ∀ b g, h b = some g → h' b = some g
theorem HLe.refl (h : GH) : HLe h h := fun _ _ e => e
theorem HLe.trans {a b c : GH} (x : HLe a b) (y : HLe b c) : HLe a c := fun k g e => y k g (x k g e)
theorem HLe.upd {h h' : GH} (l : HLe h h') (b : Nat) (g : GObj) : HLe (upd h b g) (GW.upd h' b g) := by
  intro k g' e
  by_cases hk : k = b
  · subst hk; simpa using e
  · rw [upd_ne hk] at e ⊢; exact l k g' e
theorem HLe.new {h h' : GH} (l : HLe h h') {b : Nat} (g : GObj) (hb : h b = none) : HLe h (GW.upd h' b g) := by
  intro k g' e
  rw [upd_ne (ne_of_fresh hb e)]; exact l k g' e
theorem HLe.none {h h' : GH} (l : HLe h h') {b : Nat} (hb : h' b = none) : h b = none := by
  cases e : h b with
  | none => rfl
  | some g => rw [l b g e] at hb; cases hb

theorem Sub.le {h h' : GH} {w : World} (s : Sub h' w) (l : HLe h h') : Sub h w := fun b g e => s b g (l b g e)

theorem Step.le {h0 h h' : GH} {w0 w : World} (s : Step h0 w0 h' w) (l : HLe h h') : Step h0 w0 h w :=
  ⟨s.os, s.tape, s.output, s.size, s.old, fun b g e hb => s.dom b g (l b g e) hb⟩

theorem T.drop {P : Program} {f : FuncId} {args : List Value} {h : GH} {K : Value → GH → Prop} (t : T P f args h fun v h' => ∃ h0, HLe h0 h' ∧ K v h0) : T P f args h K :=
  ⟨t.has, fun w s => (t.calls w s).mono fun e w' ⟨v, h', he, hs, hst, h0, hl, hk⟩ => ⟨v, h0, he, hs.le hl, hst.le hl, hk⟩⟩

/-! ### the law's own heap: all that is there, to be read -/
def full (w : World) : GH := fun b => match w.heap[b]? with | some (.cells c T _) => some (.row T c.toList c.size false) | _ => none

theorem sub_full (w : World) : Sub (full w) w := by
  intro b g e
  unfold full at e
  split at e
  · rename_i c T fr ho
    cases e
    exact ⟨_, ho, rfl, rfl, List.prefix_refl _, fun h => by cases h⟩
  · cases e

theorem full_free {w : World} {b : Nat} {g : GObj} (e : full w b = some g) : g.free = false := by
  unfold full at e
  split at e
  · cases e; rfl
  · cases e

open Go.RowKit in
/-- A law: it tells true, and what was there is as it was. -/
theorem law_calls {P : Program} {f : FuncId} {args : List Value} {w : World} (t : T P f args (full w) fun v _ => v = .bool true) :
    Calls P f args.toArray w fun e w' => e = .returned (.bool true) ∧ Below w.heap.size w w' :=
  (t.calls w (sub_full w)).mono fun e w' ⟨v, h', he, hs, hst, hk⟩ => ⟨by rw [he, hk], ⟨hst.os, hst.tape, hst.output, hst.size, fun k hk => hst.old k hk fun g hg => full_free hg⟩⟩

/-! ### loops -/
theorem Lfp_fam {ι : Type} {F : (Nat → Value) → GH → ((Nat → Value) → GH → Prop) → Prop} (st : ι → List Value) (I : ι → GH → Prop) (μ : ι → Nat)
    (step : ∀ i h X, I i h → (∀ i' h', I i' h' → μ i' < μ i → X (tup (st i')) h') → F (tup (st i)) h X) (i : ι) (h : GH) (hi : I i h) : Lfp F (tup (st i)) h := by
  intro X hX
  have key : ∀ n i h, μ i = n → I i h → X (tup (st i)) h := by
    intro n
    induction n using Nat.strongRecOn with
    | _ n ih =>
      intro i h hn hI
      exact hX _ _ (step i h X hI fun i' h' hI' hlt => ih (μ i') (by omega) i' h' rfl hI')
  exact key _ i h rfl hi

@[simp] theorem tup_zero (v : Value) (l : List Value) : tup (v :: l) 0 = v := rfl
@[simp] theorem tup_succ (v : Value) (l : List Value) (n : Nat) : tup (v :: l) (n + 1) = tup l n := rfl

/-! ### whole numbers -/
abbrev i64 (n : Int) : Value := .int .i64 n

theorem wrap_id {n : Int} (h1 : -9223372036854775808 ≤ n) (h2 : n ≤ 9223372036854775807) : IntKind.i64.wrap n = n := by
  unfold IntKind.wrap; simp [IntKind.bits, IntKind.signed]; omega

section
variable (k : IntKind) (a b : Int)
@[simp] theorem binV_add : binV .add (.int k a) (.int k b) = some (.int k (k.wrap (a + b))) := by simp [binV, intB]
@[simp] theorem binV_sub : binV .sub (.int k a) (.int k b) = some (.int k (k.wrap (a - b))) := by simp [binV, intB]
@[simp] theorem binV_mul : binV .mul (.int k a) (.int k b) = some (.int k (k.wrap (a * b))) := by simp [binV, intB]
@[simp] theorem binV_quo : binV .quo (.int k a) (.int k b) = if b = 0 then none else some (.int k (k.wrap (a.tdiv b))) := by simp [binV, intB]
@[simp] theorem binV_rem : binV .rem (.int k a) (.int k b) = if b = 0 then none else some (.int k (a.tmod b)) := by simp [binV, intB]
@[simp] theorem binV_lss : binV .lss (.int k a) (.int k b) = some (.bool (decide (a < b))) := by simp [binV, intB]
@[simp] theorem binV_leq : binV .leq (.int k a) (.int k b) = some (.bool (decide (a ≤ b))) := by simp [binV, intB]
@[simp] theorem binV_gtr : binV .gtr (.int k a) (.int k b) = some (.bool (decide (b < a))) := by simp [binV, intB]
@[simp] theorem binV_geq : binV .geq (.int k a) (.int k b) = some (.bool (decide (b ≤ a))) := by simp [binV, intB]
@[simp] theorem eqI_int : eqI (.int k a) (.int k b) = some (decide (a = b)) := by simp [eqI]; by_cases h : a = b <;> simp [h]
@[simp] theorem cvV_int (k' : IntKind) : cvV k' (.int k a) = some (.int k' (k'.wrap a)) := rfl
end
@[simp] theorem unV_not (b : Bool) : unV .not (.bool b) = some (.bool (!b)) := rfl
@[simp] theorem lnV_slice (a : Option Addr) (n c : Nat) : lnV (.slice a n c) = some (.int .i64 n) := rfl
@[simp] theorem exV_tuple (vs : Array Value) (i : Nat) : exV (.tuple vs) i = vs[i]? := rfl
@[simp] theorem ncV_pointer (a : Addr) : ncV (.pointer (some a)) = some (.pointer (some a)) := rfl
@[simp] theorem faV_pointer (n b o : Nat) : faV n (.pointer (some ⟨b, o, none⟩)) = some (.pointer (some ⟨b, o + n, none⟩)) := rfl
@[simp] theorem pickO_true (a b : Option Value) : pickO (.bool true) a b = a := rfl
@[simp] theorem pickO_false (a b : Option Value) : pickO (.bool false) a b = b := rfl
theorem ifV_iff (b : Bool) (A B : Prop) : ifV (.bool b) A B = (if b = true then A else B) := by cases b <;> rfl
theorem ifV_dec (c : Prop) [Decidable c] (A B : Prop) : ifV (.bool (decide c)) A B = (if c then A else B) := by
  rw [ifV_iff]; simp

/-- a load of a row's cell -/
theorem ldV_cell {h : GH} {b : Nat} {T : TypeId} {pre : List Value} {sz : Nat} {f : Bool} (e : h b = some (.row T pre sz f)) (n off : Nat) : ldV n false (.pointer (some ⟨b, off, none⟩)) h = pre[off]? := by
  simp [ldV, e]
theorem ldV_agg {h : GH} {b : Nat} {T : TypeId} {pre : List Value} {sz : Nat} {f : Bool} (e : h b = some (.row T pre sz f)) (n off : Nat) (hl : off + n ≤ pre.length) : ldV n true (.pointer (some ⟨b, off, none⟩)) h = some (.agg ((pre.drop off).take n).toArray) := by
  have : Nat.ble (off + n) pre.length = true := Nat.ble_eq_true_of_le hl
  simp [ldV, e, this]
theorem stV_row {h : GH} {b : Nat} {T : TypeId} {pre : List Value} {sz : Nat} (e : h b = some (.row T pre sz true)) (n off : Nat) (v : Value) (hn : v.cells.size = n) (hl : off + n ≤ pre.length) (hc : v.cells.toList.all oneCell = true) :
    stV n (.pointer (some ⟨b, off, none⟩)) v h = some (upd h b (.row T (setCells pre off v.cells.toList) sz true)) := by
  have h1 : Nat.ble (off + n) pre.length = true := Nat.ble_eq_true_of_le hl
  have h2 : Nat.beq v.cells.size n = true := by simp [hn]
  simp only [stV, e, h1, h2, hc, Bool.and_self, Bool.and_true]

/-! ### what the walks rewrite by -/
theorem cells_agg (c : Array Value) : (Value.agg c).cells = c := rfl
theorem cells_int (k : IntKind) (n : Int) : (Value.int k n).cells = #[.int k n] := rfl
theorem cells_bool (b : Bool) : (Value.bool b).cells = #[.bool b] := rfl
theorem cells_pointer (a : Option Addr) : (Value.pointer a).cells = #[.pointer a] := rfl
theorem cells_slice (a : Option Addr) (n c : Nat) : (Value.slice a n c).cells = #[.slice a n c] := rfl
theorem cells_iface (t : TypeId) (v : Value) : (Value.iface t v).cells = #[.iface t v] := rfl
theorem cells_nilIface : (Value.nilIface).cells = #[.nilIface] := rfl
theorem cells_func (f : Fn) (x y : Array Value) : (Value.func f x y).cells = #[.func f x y] := rfl
theorem cells_nilFunc : (Value.nilFunc).cells = #[.nilFunc] := rfl
theorem one_int (k : IntKind) (n : Int) : oneCell (.int k n) = true := rfl
theorem one_bool (b : Bool) : oneCell (.bool b) = true := rfl
theorem one_pointer (a : Option Addr) : oneCell (.pointer a) = true := rfl
theorem one_slice (a : Option Addr) (n c : Nat) : oneCell (.slice a n c) = true := rfl
theorem one_iface (t : TypeId) (v : Value) : oneCell (.iface t v) = true := rfl
theorem one_nilIface : oneCell .nilIface = true := rfl
theorem one_func (f : Fn) (x y : Array Value) : oneCell (.func f x y) = true := rfl
theorem one_nilFunc : oneCell .nilFunc = true := rfl

theorem ldV_same (h : GH) (b : Nat) (T : TypeId) (pre : List Value) (sz : Nat) (f : Bool) (n off : Nat) : ldV n false (.pointer (some ⟨b, off, none⟩)) (upd h b (.row T pre sz f)) = pre[off]? :=
  ldV_cell (upd_same _ _ _) n off
theorem ldV_same_agg (h : GH) (b : Nat) (T : TypeId) (pre : List Value) (sz : Nat) (f : Bool) (n off : Nat) : ldV n true (.pointer (some ⟨b, off, none⟩)) (upd h b (.row T pre sz f)) = if off + n ≤ pre.length then some (.agg ((pre.drop off).take n).toArray) else none := by
  by_cases hl : off + n ≤ pre.length
  · rw [if_pos hl]; exact ldV_agg (upd_same _ _ _) n off hl
  · have : Nat.ble (off + n) pre.length = false := by rw [← Bool.not_eq_true]; exact fun q => hl (Nat.le_of_ble_eq_true q)
    rw [if_neg hl]; simp only [ldV, upd_same, this]
theorem ldV_other {h : GH} {b k : Nat} (hk : k ≠ b) (g : GObj) (n off : Nat) (gg : Bool) : ldV n gg (.pointer (some ⟨k, off, none⟩)) (upd h b g) = ldV n gg (.pointer (some ⟨k, off, none⟩)) h := by
  simp only [ldV, upd_ne hk]
theorem stV_same (h : GH) (b : Nat) (T : TypeId) (pre : List Value) (sz : Nat) (n off : Nat) (v : Value) :
    stV n (.pointer (some ⟨b, off, none⟩)) v (upd h b (.row T pre sz true)) = if v.cells.size = n ∧ off + n ≤ pre.length ∧ v.cells.toList.all oneCell = true then some (upd h b (.row T (setCells pre off v.cells.toList) sz true)) else none := by
  by_cases hc : v.cells.size = n ∧ off + n ≤ pre.length ∧ v.cells.toList.all oneCell = true
  · rw [if_pos hc, stV_row (upd_same _ _ _) n off v hc.1 hc.2.1 hc.2.2, upd_upd]
  · rw [if_neg hc]
    cases h1 : Nat.beq v.cells.size n with
    | false => simp only [stV, upd_same, h1, Bool.false_and]
    | true =>
      cases h2 : Nat.ble (off + n) pre.length with
      | false => simp only [stV, upd_same, h2, Bool.false_and, Bool.and_false]
      | true =>
        cases h3 : v.cells.toList.all oneCell with
        | false => simp only [stV, upd_same, h3, Bool.and_false]
        | true => exact absurd ⟨Nat.eq_of_beq_eq_true h1, Nat.le_of_ble_eq_true h2, h3⟩ hc
theorem stV_other {h : GH} {b k : Nat} (hk : k ≠ b) (g : GObj) (n off : Nat) (v : Value) : stV n (.pointer (some ⟨k, off, none⟩)) v (upd h b g) = (stV n (.pointer (some ⟨k, off, none⟩)) v h).map fun h' => upd h' b g := by
  simp only [stV, upd_ne hk]
  split
  · split
    · simp only [Option.map_some]; rw [upd_comm _ _ _ (Ne.symm hk)]
    · rfl
  · rfl

end Go.Proofs.Ytbiappodepnbmaa.GW
namespace Go.Proofs.Ytbiappodepnbmaa
open Go GW Go.Proofs
set_option linter.unusedVariables false
set_option linter.unusedSimpArgs false
theorem bnd_of {α : Type} {o : Option α} {v : α} {K : α → Prop} (h : o = some v) (k : K v) : bnd o K := by rw [h]; exact k
theorem ifV_t {v : Value} {A B : Prop} (h : v = .bool true) (a : A) : ifV v A B := by rw [h]; exact a
theorem ifV_f {v : Value} {A B : Prop} (h : v = .bool false) (b : B) : ifV v A B := by rw [h]; exact b
theorem T_Below {x y : Int} {h : GH} {K : Value → GH → Prop} (hK : K (.bool (decide (0 ≤ x ∧ x < y))) h) : T Try.prog 18 [.int .i64 x, .int .i64 y] h K := by
  apply S18_T
  unfold S18
  simp only [bnd_some, bnd_none, ifV_true, ifV_false, ifV_dec, ifV_iff, Bool.not_eq_true, Bool.not_eq_eq_eq_not, Bool.not_true, Bool.not_false, decide_eq_true_eq, decide_eq_false_iff_not, tup_zero, tup_succ, binV_add, binV_sub, binV_mul, binV_quo, binV_rem, binV_lss, binV_leq, binV_gtr, binV_geq, eqI_int, cvV_int, unV_not, lnV_slice, exV_tuple, ncV_pointer, faV_pointer, pickO_true, pickO_false, cells_agg, cells_int, cells_bool, cells_pointer, cells_slice, cells_iface, cells_nilIface, cells_func, cells_nilFunc, one_int, one_bool, one_pointer, one_slice, one_iface, one_nilIface, one_func, one_nilFunc, ldV_same, ldV_same_agg, stV_same, upd_same, upd_upd, setCells_nil, setCells_cons, List.set_cons_zero, List.set_cons_succ, List.length_cons, List.length_nil, List.size_toArray, List.all_cons, List.all_nil, Bool.and_true, Bool.and_self, Nat.zero_add, Nat.add_zero, Nat.reduceAdd, Nat.reduceLeDiff, Nat.le_refl, and_self, and_true, true_and, if_true, if_false, List.getElem?_cons_zero, List.getElem?_cons_succ, List.getElem?_toArray, List.drop_zero, List.drop_succ_cons, List.take_succ_cons, List.take_zero, List.take_nil, reduceIte, Int.reduceNeg, Int.reduceEq, Int.reduceLT, Int.reduceLE, Nat.reduceEqDiff, List.length_set]
  split <;> simp_all
theorem T_Num {x : Int} {h : GH} {K : Value → GH → Prop} (hK : K (.int .i64 x) h) : T Try.prog 7 [.int .i64 x] h K := by
  apply S7_T
  exact hK
/-- a row of elements that is read -/
def rowsAt (h : GH) (size : Nat) (v : Value) (cs : List (List Value)) : Prop :=
  ∃ a n cap, v = .slice a n cap ∧ cs.length = n ∧ n ≤ cap ∧ n ≤ 9223372036854775807 ∧
    ∀ i c, cs[i]? = some c → ∃ b off T pre sz f, a = some ⟨b, off, none⟩ ∧ h b = some (.row T pre sz f) ∧ off + i * size + size ≤ pre.length ∧ (pre.drop (off + i * size)).take size = c
theorem rowsAt.get {h : GH} {size : Nat} {v : Value} {cs : List (List Value)} (r : rowsAt h size v cs) {i : Nat} {c : List Value} (hc : cs[i]? = some c) (k : IntKind) :
    ∃ p, isV size v (.int k i) = some p ∧ ldV size true p h = some (.agg c.toArray) := by
  obtain ⟨a, n, cap, rfl, hl, _, _, hr⟩ := r
  obtain ⟨b, off, T, pre, sz, f, rfl, hb, hle, hcc⟩ := hr i c hc
  have hi : i < cs.length := (List.getElem?_eq_some_iff.1 hc).1
  refine ⟨.pointer (some ⟨b, off + i * size, none⟩), ?_, ?_⟩
  · simp only [isV]; rw [if_pos ⟨by omega, by omega⟩]; simp
  · rw [ldV_agg hb _ _ hle, hcc]
theorem rowsAt.get1 {h : GH} {v : Value} {cs : List (List Value)} (r : rowsAt h 1 v cs) {i : Nat} {x : Value} (hc : cs[i]? = some [x]) (k : IntKind) :
    ∃ p, isV 1 v (.int k i) = some p ∧ ldV 1 false p h = some x := by
  obtain ⟨a, n, cap, rfl, hl, _, _, hr⟩ := r
  obtain ⟨b, off, T, pre, sz, f, rfl, hb, hle, hcc⟩ := hr i _ hc
  have hi : i < cs.length := (List.getElem?_eq_some_iff.1 hc).1
  refine ⟨.pointer (some ⟨b, off + i * 1, none⟩), ?_, ?_⟩
  · simp only [isV]; rw [if_pos ⟨by omega, by omega⟩]; simp
  · rw [ldV_cell hb]
    have : ((pre.drop (off + i * 1)).take 1)[0]? = some x := by rw [hcc]; rfl
    simpa using this
theorem rowsAt.le {h h' : GH} {size : Nat} {v : Value} {cs : List (List Value)} (r : rowsAt h size v cs) (l : HLe h h') : rowsAt h' size v cs := by
  obtain ⟨a, n, cap, rfl, hl, hm, hm2, hr⟩ := r
  refine ⟨a, n, cap, rfl, hl, hm, hm2, fun i c hc => ?_⟩
  obtain ⟨b', off, T, pre, sz, f, h1, h2, h3⟩ := hr i c hc
  exact ⟨b', off, T, pre, sz, f, h1, l _ _ h2, h3⟩
theorem rowsAt.take {h : GH} {size : Nat} {v : Value} {cs : List (List Value)} (r : rowsAt h size v cs) {k : Nat} (hk : k ≤ cs.length) (kd : IntKind) :
    ∃ v', slV size v none (some (.int kd k)) = some v' ∧ rowsAt h size v' (cs.take k) := by
  obtain ⟨a, n, cap, rfl, hl, hm, hm2, hr⟩ := r
  refine ⟨.slice a k cap, ?_, a, k, cap, rfl, by simp; omega, by omega, by omega, fun i c hc => hr i c ?_⟩
  · simp only [slV, sbV]
    rw [if_pos ⟨by omega, by omega⟩]
    have : a.map (fun x => x.add (0 * size)) = a := by cases a <;> simp [Addr.add]
    simp only [Nat.zero_mul] at this
    simp [this]
  · rw [List.getElem?_take] at hc
    split at hc
    · exact hc
    · cases hc
theorem rowsAt.drop {h : GH} {size : Nat} {v : Value} {cs : List (List Value)} (r : rowsAt h size v cs) {k : Nat} (hk : k ≤ cs.length) (kd : IntKind) :
    ∃ v', slV size v (some (.int kd k)) none = some v' ∧ rowsAt h size v' (cs.drop k) := by
  obtain ⟨a, n, cap, rfl, hl, hm, hm2, hr⟩ := r
  refine ⟨.slice (if cap = k then a else a.map (·.add (k * size))) (n - k) (cap - k), ?_, _, _, _, rfl, by simp; omega, by omega, by omega, fun i c hc => ?_⟩
  · simp only [slV, sbV]
    rw [if_pos ⟨by omega, by omega⟩]
    simp
  · rw [List.getElem?_drop] at hc
    have hi := (List.getElem?_eq_some_iff.1 hc).1
    obtain ⟨b, off, T, pre, sz, f, rfl, h2, h3, h4⟩ := hr (k + i) c hc
    have he : off + (k + i) * size = off + k * size + i * size := by rw [Nat.add_mul]; omega
    rw [he] at h3 h4
    refine ⟨b, off + k * size, T, pre, sz, f, ?_, h2, h3, h4⟩
    rw [if_neg (by omega)]
    simp only [Option.map_some, Option.some.injEq]
    unfold Addr.add; split
    · rename_i h0; simp [h0]
    · rfl
theorem flatten_get (size : Nat) : ∀ (cs : List (List Value)), (∀ c ∈ cs, c.length = size) → ∀ (tail : List Value) (i : Nat) (c : List Value), cs[i]? = some c → ((cs.flatten ++ tail).drop (i * size)).take size = c ∧ i * size + size ≤ cs.flatten.length := by
  intro cs
  induction cs with
  | nil => intro _ tail i c h; simp at h
  | cons x cs ih =>
    intro hall tail i c h
    have hx : x.length = size := hall x (by simp)
    cases i with
    | zero => simp at h; subst h; simp [← hx]
    | succ i =>
      obtain ⟨h1, h2⟩ := ih (fun c hc => hall c (List.mem_cons_of_mem _ hc)) tail i c (by simpa using h)
      refine ⟨?_, ?_⟩
      · rw [List.flatten_cons, List.append_assoc, Nat.add_mul, Nat.one_mul, Nat.add_comm, ← hx, ← List.drop_drop, List.drop_left, hx]; exact h1
      · rw [List.flatten_cons, List.length_append, hx, Nat.add_mul]; omega
theorem rowsAt_of {h : GH} {b off : Nat} {T : TypeId} {pre : List Value} {sz : Nat} {f : Bool} (hb : h b = some (.row T pre sz f)) {size n cap : Nat} {cs : List (List Value)} (hl : cs.length = n) (hc : n ≤ cap) (hm : n ≤ 9223372036854775807) (hall : ∀ c ∈ cs, c.length = size)
    (ho : off ≤ pre.length) (hp : cs.flatten <+: pre.drop off) : rowsAt h size (.slice (some ⟨b, off, none⟩) n cap) cs := by
  refine ⟨_, n, cap, rfl, hl, hc, hm, fun i c hi => ⟨b, off, T, pre, sz, f, rfl, hb, ?_, ?_⟩⟩
  · obtain ⟨tail, ht⟩ := hp
    have := (flatten_get size cs hall tail i c hi).2
    have hlen : (pre.drop off).length = cs.flatten.length + tail.length := by rw [← ht]; simp
    simp only [List.length_drop] at hlen
    omega
  · obtain ⟨tail, ht⟩ := hp
    have := (flatten_get size cs hall tail i c hi).1
    rw [← List.drop_drop, ← ht]; exact this
end Go.Proofs.Ytbiappodepnbmaa
namespace Go.Proofs.Ytbiappodepnbmaa
open Go GW Go.Proofs
set_option linter.unusedVariables false
set_option linter.unusedSimpArgs false
theorem and_mask (a : Int) (k : Nat) (hk : k < 63) : IntKind.i64.wrap (BitVec.ofInt 64 a &&& BitVec.ofInt 64 ((2 ^ k - 1 : Nat) : Int)).toNat = a % ((2 ^ k : Nat) : Int) := by
  have hp : 2 ^ k < 2 ^ 63 := Nat.pow_lt_pow_right (by decide) hk
  have hp2 : 0 < 2 ^ k := Nat.two_pow_pos k
  have h1 : (BitVec.ofInt 64 ((2 ^ k - 1 : Nat) : Int)).toNat = 2 ^ k - 1 := by
    rw [BitVec.toNat_ofInt]
    have : ((2 ^ k - 1 : Nat) : Int) % ((2 ^ 64 : Nat) : Int) = ((2 ^ k - 1 : Nat) : Int) := Int.emod_eq_of_lt (by omega) (by omega)
    rw [this]; simp
  have h2 : (BitVec.ofInt 64 a &&& BitVec.ofInt 64 ((2 ^ k - 1 : Nat) : Int)).toNat = (BitVec.ofInt 64 a).toNat % 2 ^ k := by
    rw [BitVec.toNat_and, h1, Nat.and_two_pow_sub_one_eq_mod]
  rw [h2, BitVec.toNat_ofInt]
  have h3 : (((a % ((2 ^ 64 : Nat) : Int)).toNat % 2 ^ k : Nat) : Int) = a % ((2 ^ k : Nat) : Int) := by
    have hnn : 0 ≤ a % ((2 ^ 64 : Nat) : Int) := Int.emod_nonneg _ (by decide)
    rw [Int.natCast_emod, Int.toNat_of_nonneg hnn]
    refine Int.emod_emod_of_dvd a ?_
    exact Int.natCast_dvd_natCast.2 (Nat.pow_dvd_pow 2 (by omega))
  rw [h3]
  have h4 : 0 ≤ a % ((2 ^ k : Nat) : Int) := Int.emod_nonneg _ (by omega)
  have h5 : a % ((2 ^ k : Nat) : Int) < ((2 ^ k : Nat) : Int) := Int.emod_lt_of_pos _ (by omega)
  exact wrap_id (by omega) (by omega)
theorem binV_and_mask (a : Int) (k : Nat) (hk : k < 63) {m : Int} (hm : m = ((2 ^ k - 1 : Nat) : Int)) : binV .and (.int .i64 a) (.int .i64 m) = some (.int .i64 (a % ((2 ^ k : Nat) : Int))) := by
  subst hm
  simp only [binV, intB, if_true]
  rw [← and_mask a k hk]; rfl
theorem unV_neg (k : IntKind) (n : Int) : unV .neg (.int k n) = some (.int k (k.wrap (0 - n))) := rfl
theorem u64_nonneg (a : Int) : 0 ≤ IntKind.u64.wrap a := by unfold IntKind.wrap; simp [IntKind.bits, IntKind.signed]; exact Int.emod_nonneg _ (by decide)
end Go.Proofs.Ytbiappodepnbmaa
namespace Go.Proofs.Ytbiappodepnbmaa
open Go GW Go.Proofs
set_option linter.unusedVariables false
set_option linter.unusedSimpArgs false
/-- what was known and may not have been written is as it was -/
def Keep (S : Nat → Prop) (h h' : GH) : Prop := ∀ b g, h b = some g → ¬ S b → h' b = some g
theorem Keep.refl (S : Nat → Prop) (h : GH) : Keep S h h := fun _ _ e _ => e
theorem Keep.trans {S : Nat → Prop} {a b c : GH} (x : Keep S a b) (y : Keep S b c) : Keep S a c := fun k g e n => y k g (x k g e n) n
theorem Keep.mono {S S' : Nat → Prop} {a b : GH} (x : Keep S a b) (l : ∀ k, S k → S' k) : Keep S' a b := fun k g e n => x k g e fun q => n (l k q)
theorem GW.HLe.keep {h0 h h' : GH} {S : Nat → Prop} (l : HLe h0 h) (k : Keep S h h') (f : ∀ b, S b → h0 b = Option.none) : HLe h0 h' := fun b g e => k b g (l b g e) fun q => by rw [f b q] at e; cases e
theorem GW.HLe.toKeep {h h' : GH} (S : Nat → Prop) (l : HLe h h') : Keep S h h' := fun b g e _ => l b g e
/-- the block of a slice -/
def blk (v : Value) (b : Nat) : Prop := match v with | .slice (some a) _ _ => a.block = b | _ => False
@[simp] theorem blk_none (n c b : Nat) : blk (.slice none n c) b = False := rfl
@[simp] theorem blk_some (a : Addr) (n c b : Nat) : blk (.slice (some a) n c) b = (a.block = b) := rfl
def good (size : Nat) (c : List Value) : Prop := c.length = size ∧ c.all oneCell = true
/-- a row of one's own -/
def own (h : GH) (size : Nat) (v : Value) (cs : List (List Value)) : Prop :=
  ∃ a cap, v = .slice a cs.length cap ∧ cs.length ≤ cap ∧ cs.length ≤ 9223372036854775807 ∧ (∀ c ∈ cs, good size c) ∧
    ((a = none ∧ cs = [] ∧ cap = 0) ∨ ∃ b T, a = some ⟨b, 0, none⟩ ∧ h b = some (.row T cs.flatten (cap * size) true))
theorem own_nil (h : GH) (size : Nat) : own h size (.slice none 0 0) [] := ⟨none, 0, rfl, Nat.le_refl _, by decide, (fun c hc => by cases hc), .inl ⟨rfl, rfl, rfl⟩⟩
theorem own_of {h : GH} {b : Nat} {T : TypeId} {cells : List Value} {cs : List (List Value)} {size n cap sz : Nat} (hb : h b = some (.row T cells sz true)) (hc : cells = cs.flatten) (hn : n = cs.length) (hsz : sz = cap * size) (hl : n ≤ cap) (hm : n ≤ 9223372036854775807) (hg : ∀ c ∈ cs, good size c) : own h size (.slice (some ⟨b, 0, none⟩) n cap) cs := by
  subst hc hn hsz
  exact ⟨_, cap, rfl, hl, hm, hg, .inr ⟨b, T, rfl, hb⟩⟩
theorem own.le {h h' : GH} {size : Nat} {v : Value} {cs : List (List Value)} (o : own h size v cs) (l : HLe h h') : own h' size v cs := by
  obtain ⟨a, cap, h1, h2, h3, h4, h5⟩ := o
  refine ⟨a, cap, h1, h2, h3, h4, h5.imp id fun ⟨b, T, e, hb⟩ => ⟨b, T, e, l _ _ hb⟩⟩
theorem own.keep {h h' : GH} {size : Nat} {v : Value} {cs : List (List Value)} {S : Nat → Prop} (o : own h size v cs) (k : Keep S h h') (d : ∀ b, blk v b → ¬ S b) : own h' size v cs := by
  obtain ⟨a, cap, h1, h2, h3, h4, h5⟩ := o
  refine ⟨a, cap, h1, h2, h3, h4, h5.imp id fun ⟨b, T, e, hb⟩ => ⟨b, T, e, k _ _ hb (d b (by subst h1 e; rfl))⟩⟩
theorem own.known {h : GH} {size : Nat} {v : Value} {cs : List (List Value)} (o : own h size v cs) {b : Nat} (hb : blk v b) : ∃ g, h b = some g := by
  obtain ⟨a, cap, h1, h2, h3, h4, h5⟩ := o
  subst h1
  rcases h5 with ⟨rfl, _⟩ | ⟨b', T, rfl, e⟩
  · exact hb.elim
  · have : b' = b := hb
    subst this; exact ⟨_, e⟩
theorem own.rows {h : GH} {size : Nat} {v : Value} {cs : List (List Value)} (o : own h size v cs) : rowsAt h size v cs := by
  obtain ⟨a, cap, rfl, h2, h3, h4, h5⟩ := o
  rcases h5 with ⟨rfl, rfl, rfl⟩ | ⟨b, T, rfl, e⟩
  · exact ⟨none, 0, 0, rfl, rfl, Nat.le_refl _, by decide, fun i c hc => by simp at hc⟩
  · exact rowsAt_of e rfl h2 h3 (fun c hc => (h4 c hc).1) (Nat.zero_le _) ⟨[], by simp⟩
theorem rowsAt.cells {h : GH} {size : Nat} {v : Value} {cs : List (List Value)} (r : rowsAt h size v cs) (hg : ∀ c ∈ cs, c.length = size) : cellsAt size cs.length v h = some cs.flatten := by
  obtain ⟨a, n, cap, rfl, hl, _, _, hr⟩ := r
  cases cs with
  | nil => cases a <;> simp [cellsAt]
  | cons c cs =>
    obtain ⟨b, off, T, pre, sz, f, rfl, hb, _, _⟩ := hr 0 c rfl
    generalize hcs : c :: cs = ds at *
    have each : ∀ i d, ds[i]? = some d → off + i * size + size ≤ pre.length ∧ (pre.drop (off + i * size)).take size = d := by
      intro i d hd
      obtain ⟨b', off', T', pre', sz', f', e1, e2, e3, e4⟩ := hr i d hd
      cases e1
      rw [hb] at e2; cases e2
      exact ⟨e3, e4⟩
    have upto : ∀ m, m ≤ ds.length → (pre.drop off).take (m * size) = (ds.take m).flatten ∧ (0 < m → off + m * size ≤ pre.length) := by
      intro m
      induction m with
      | zero => intro _; simp
      | succ m ih =>
        intro hm
        obtain ⟨d, hd⟩ : ∃ d, ds[m]? = some d := ⟨_, List.getElem?_eq_getElem (by omega)⟩
        obtain ⟨e1, e2⟩ := each m d hd
        refine ⟨?_, fun _ => by rw [Nat.add_mul]; omega⟩
        rw [Nat.add_mul, Nat.one_mul, List.take_add, (ih (by omega)).1, List.drop_drop, e2, List.take_add_one, hd]
        simp
    obtain ⟨u1, u2⟩ := upto ds.length (Nat.le_refl _)
    have hpos : 0 < ds.length := by subst hcs; simp
    rw [List.take_length] at u1
    simp only [cellsAt]
    cases hz : Nat.beq (ds.length * size) 0 with
    | true =>
      have := Nat.eq_of_beq_eq_true hz
      rw [this, List.take_zero] at u1
      rw [← u1]
    | false =>
      have : Nat.ble (off + ds.length * size) pre.length = true := Nat.ble_eq_true_of_le (u2 hpos)
      simp only [hb, this, u1]
theorem flatten_good {size : Nat} : ∀ (cs : List (List Value)), (∀ c ∈ cs, good size c) → cs.flatten.length = cs.length * size ∧ cs.flatten.all oneCell = true := by
  intro cs
  induction cs with
  | nil => intro _; simp
  | cons c cs ih =>
    intro h
    obtain ⟨h1, h2⟩ := ih fun d hd => h d (List.mem_cons_of_mem _ hd)
    obtain ⟨h3, h4⟩ := h c (by simp)
    refine ⟨?_, ?_⟩
    · rw [List.flatten_cons, List.length_append, h1, h3, List.length_cons, Nat.add_mul]; omega
    · rw [List.flatten_cons, List.all_append, h2, h4]; rfl
/-- append -/
theorem own_ap {h : GH} {size bytes : Nat} {T : TypeId} {v x : Value} {cs new : List (List Value)} {K : Value → GH → Prop} (o : own h size v cs) (r : rowsAt h size x new) (hn : ∀ c ∈ new, good size c)
    (hby : 0 < bytes) (hb : (cs.length + new.length) * bytes ≤ 140737488355328)
    (k : ∀ v' h', own h' size v' (cs ++ new) → Keep (blk v) h h' → (∀ b, blk v' b → blk v b ∨ h b = none) → K v' h') : apV T size bytes v x h K := by
  have hcells := r.cells fun c hc => (hn c hc).1
  have hcells2 := o.rows.cells
  obtain ⟨xa, n, xc, rfl, rfl, _, _, _⟩ := r
  obtain ⟨a, cap, rfl, h2, h3, h4, h5⟩ := o
  obtain ⟨g1, g2⟩ := flatten_good new hn
  obtain ⟨g3, g4⟩ := flatten_good cs h4
  have hall : ∀ c ∈ cs ++ new, good size c := fun c hc => (List.mem_append.1 hc).elim (h4 c) (hn c)
  have hlen : cs.length + new.length ≤ 9223372036854775807 := by
    have := Nat.le_mul_of_pos_right (cs.length + new.length) hby
    omega
  simp only [apV, hcells, bnd_some]
  have hold := hcells2 fun c hc => (h4 c hc).1
  split
  · rename_i hle
    by_cases hz : new.flatten = []
    · simp only [putV, hz, bnd_some]
      refine k _ _ ⟨a, cap, by simp, by simpa using hle, by simpa using hlen, hall, ?_⟩ (.refl _ _) fun b hb => .inl ?_
      · rcases h5 with ⟨rfl, rfl, rfl⟩ | ⟨b, T', rfl, e⟩
        · have : new = [] := by cases new with
            | nil => rfl
            | cons c l => simp at hle
          exact .inl ⟨rfl, by simp [this], rfl⟩
        · exact .inr ⟨b, T', rfl, by rw [List.flatten_append, hz, List.append_nil]; exact e⟩
      · cases a <;> exact hb
    · rcases h5 with ⟨rfl, rfl, rfl⟩ | ⟨b, T', rfl, e⟩
      · have : new = [] := by cases new with
          | nil => rfl
          | cons c l => simp at hle
        exact absurd (by simp [this]) hz
      · have hput : putV (some ⟨b, 0, none⟩) (cs.length * size) new.flatten h = some (upd h b (.row T' (cs.flatten ++ new.flatten) (cap * size) true)) := by
          have c1 : Nat.ble (0 + cs.length * size) cs.flatten.length = true := Nat.ble_eq_true_of_le (by omega)
          have c2 : Nat.ble (0 + cs.length * size + new.flatten.length) (cap * size) = true := Nat.ble_eq_true_of_le (by
            rw [g1, Nat.zero_add, ← Nat.add_mul]; exact Nat.mul_le_mul_right _ hle)
          have c3 : putL cs.flatten (0 + cs.length * size) new.flatten = cs.flatten ++ new.flatten := by
            unfold putL
            rw [Nat.zero_add, ← g3, List.take_length, List.drop_eq_nil_of_le (by omega), List.append_nil]
          unfold putV
          split
          · rename_i q; exact absurd q hz
          · simp only [e, c1, c2, g2, Bool.and_self, c3]
        rw [hput]
        simp only [bnd_some]
        refine k _ _ ⟨_, cap, by simp, by simpa using hle, by simpa using hlen, hall, .inr ⟨b, T', rfl, by rw [List.flatten_append]; exact upd_same _ _ _⟩⟩ ?_ fun b' hb' => .inl ?_
        · intro k' g e' n
          have : k' ≠ b := fun q => n (by subst q; rfl)
          rw [upd_ne this]; exact e'
        · exact hb'
  · rename_i hle
    rw [hold]
    simp only [bnd_some]
    refine ⟨hb, hlen, g3, g1, fun b nc hb' hnc => ?_⟩
    refine k _ _ ⟨_, nc, by simp, by simpa using hnc, by simpa using hlen, hall, .inr ⟨b, T, rfl, by rw [List.flatten_append]; exact upd_same _ _ _⟩⟩ ?_ fun b' hb'' => .inr ?_
    · intro k' g e' n
      rw [upd_ne (ne_of_fresh hb' e')]; exact e'
    · have : b = b' := hb''
      subst this; exact hb'
/-- what was lent: a row of one's own with more behind it -/
def lent (h : GH) (size : Nat) (v : Value) (cs ms : List (List Value)) : Prop :=
  ∃ a cap, v = .slice a cs.length cap ∧ own h size (.slice a (cs ++ ms).length cap) (cs ++ ms)
theorem lent.le {h h' : GH} {size : Nat} {v : Value} {cs ms : List (List Value)} (o : lent h size v cs ms) (l : HLe h h') : lent h' size v cs ms := by
  obtain ⟨a, cap, e, o⟩ := o
  exact ⟨a, cap, e, o.le l⟩
theorem lent.known {h : GH} {size : Nat} {v : Value} {cs ms : List (List Value)} (o : lent h size v cs ms) {b : Nat} (hb : blk v b) : ∃ g, h b = some g := by
  obtain ⟨a, cap, rfl, o⟩ := o
  exact o.known (b := b) (by cases a <;> exact hb)
theorem lent.rows {h : GH} {size : Nat} {v : Value} {cs ms : List (List Value)} (o : lent h size v cs ms) : rowsAt h size v cs := by
  obtain ⟨a, cap, rfl, o⟩ := o
  obtain ⟨a', n, cap', e, hl, h1, h2, h3⟩ := o.rows
  cases e
  rw [List.length_append] at h1 h2
  refine ⟨a, cs.length, cap, rfl, rfl, by omega, by omega, fun i c hc => h3 i c ?_⟩
  rw [List.getElem?_append_left (List.getElem?_eq_some_iff.1 hc).1]; exact hc
theorem rowsAt.fld {h : GH} {size : Nat} {v : Value} {cs : List (List Value)} (r : rowsAt h size v cs) {i : Nat} {c : List Value} (hc : cs[i]? = some c) (k : IntKind) :
    ∃ b o, isV size v (.int k i) = some (.pointer (some ⟨b, o, none⟩)) ∧ (∀ (j : Nat) x, c[j]? = some x → ldV 1 false (.pointer (some ⟨b, o + j, none⟩)) h = some x) ∧ ldV size true (.pointer (some ⟨b, o, none⟩)) h = some (.agg c.toArray) := by
  obtain ⟨a, n, cap, rfl, hl, _, _, hr⟩ := r
  obtain ⟨b, off, T, pre, sz, f, rfl, hb, hle, hcc⟩ := hr i c hc
  have hi : i < cs.length := (List.getElem?_eq_some_iff.1 hc).1
  refine ⟨b, off + i * size, ?_, fun j x hj => ?_, ?_⟩
  · simp only [isV]; rw [if_pos ⟨by omega, by omega⟩]; simp
  · rw [ldV_cell hb]
    rw [← hcc, List.getElem?_take] at hj
    split at hj
    · rw [List.getElem?_drop] at hj; exact hj
    · cases hj
  · rw [ldV_agg hb _ _ hle, hcc]
theorem rowsAt.len {h : GH} {size : Nat} {v : Value} {cs : List (List Value)} (r : rowsAt h size v cs) : lnV v = some (i64 cs.length) := by
  obtain ⟨a, n, cap, rfl, hl, _, _, hr⟩ := r
  rw [hl]; rfl
theorem rowsAt.max {h : GH} {size : Nat} {v : Value} {cs : List (List Value)} (r : rowsAt h size v cs) : cs.length ≤ 9223372036854775807 := by
  obtain ⟨a, n, cap, rfl, hl, _, hm, hr⟩ := r
  omega
theorem rowsAt_nil (h : GH) (size : Nat) : rowsAt h size (.slice none 0 0) [] := (own_nil h size).rows
theorem slV_len {size n cap : Nat} {a : Option Addr} {m : Nat} (hm : m ≤ cap) (k : IntKind) : slV size (.slice a n cap) none (some (.int k m)) = some (.slice a m cap) := by
  simp only [slV, sbV]
  rw [if_pos ⟨by omega, by omega⟩]
  have : a.map (fun x => x.add (0 * size)) = a := by cases a <;> simp [Addr.add]
  simp only [Nat.zero_mul] at this
  simp [this]
theorem good_ints {size : Nat} {xs : List Int} (h : xs.length = size) : good size (xs.map i64) := by
  refine ⟨by simpa using h, ?_⟩
  induction xs generalizing size with
  | nil => rfl
  | cons x xs ih => rw [List.map_cons, List.all_cons, ih rfl]; rfl
/-- append of what is written out there -/
theorem own_lit {h : GH} {size bytes len : Nat} {T : TypeId} {cells : List Value} {ps : List (Nat × Nat × Value)} {v : Value} {cs new : List (List Value)} {K : Value → GH → Prop} (hf : fillV cells ps = some new.flatten) (hl : len = new.length) (hn : ∀ c ∈ new, good size c) (o : own h size v cs)
    (hby : 0 < bytes) (hb : (cs.length + new.length) * bytes ≤ 140737488355328)
    (k : ∀ v' h', own h' size v' (cs ++ new) → Keep (blk v) h h' → (∀ b, blk v' b → blk v b ∨ h b = none) → K v' h') : bsV T len cells ps h fun x h1 => apV T size bytes v x h1 K := by
  subst hl
  unfold bsV
  refine bnd_of hf ?_
  intro b hb0
  have l := (HLe.refl h).new (.row T new.flatten new.flatten.length true) hb0
  have hlen : new.length ≤ 9223372036854775807 := by
    have := Nat.le_mul_of_pos_right (cs.length + new.length) hby
    omega
  refine own_ap (o.le l) (rowsAt_of (upd_same _ _ _) rfl (Nat.le_refl _) hlen (fun c hc => (hn c hc).1) (Nat.zero_le _) ⟨[], by simp⟩) hn hby hb fun v' h' o' kp fr => k v' h' o' ((l.toKeep _).trans kp) fun b' hb' => (fr b' hb').imp id l.none
theorem upd_self {h : GH} {b : Nat} {g : GObj} (e : h b = some g) : upd h b g = h := by
  funext k; unfold upd; split
  · subst_vars; exact e.symm
  · rfl
theorem flatten_ints : ∀ {cs : List (List Value)}, (∀ c ∈ cs, ∀ x ∈ c, ∃ k, x = i64 k) → ∀ x ∈ cs.flatten, ∃ k, x = i64 k := by
  intro cs h x hx
  obtain ⟨c, hc, hx⟩ := List.mem_flatten.1 hx
  exact h c hc x hx
theorem binV_xor (a b : Int) : ∃ n, binV .xor (.int .i64 a) (.int .i64 b) = some (i64 n) := ⟨IntKind.i64.wrap (BitVec.ofInt 64 a ^^^ BitVec.ofInt 64 b).toNat, by simp only [binV, intB, if_true]; rfl⟩
theorem setCells_take : ∀ (vs pre : List Value) (off : Nat), off + vs.length ≤ pre.length → setCells pre off vs = pre.take off ++ vs ++ pre.drop (off + vs.length) := by
  intro vs
  induction vs with
  | nil => intro pre off h; simp
  | cons v vs ih =>
    intro pre off h
    simp only [List.length_cons] at h
    rw [setCells_cons, ih _ _ (by rw [List.length_set]; omega)]
    have e1 : (pre.set off v).take (off + 1) = pre.take off ++ [v] := by
      rw [List.take_add_one, List.take_set_of_le (Nat.le_refl _), List.getElem?_set_self (by omega)]; rfl
    rw [e1, List.drop_set_of_lt (by omega)]
    simp only [List.append_assoc, List.length_cons, List.cons_append, List.nil_append]
    rw [Nat.add_assoc, Nat.add_comm 1]
theorem setCells_all {pre vs : List Value} (h : vs.length = pre.length) : setCells pre 0 vs = vs := by
  rw [setCells_take _ _ _ (by omega)]
  simp [h]
/-- a slice written out -/
theorem bsV_rows {h : GH} {size len : Nat} {T : TypeId} {cells : List Value} {ps : List (Nat × Nat × Value)} {K : Value → GH → Prop} (new : List (List Value)) (hf : fillV cells ps = some new.flatten) (hl : len = new.length) (hm : new.length ≤ 9223372036854775807) (hn : ∀ c ∈ new, good size c)
    (k : ∀ v h', own h' size v new → HLe h h' → (∀ b, blk v b → h b = none) → K v h') : bsV T len cells ps h K := by
  subst hl
  unfold bsV
  refine bnd_of hf ?_
  intro b hb0
  refine k _ _ (own_of (upd_same _ _ _) rfl rfl (flatten_good new hn).1 (Nat.le_refl _) hm hn) ((HLe.refl h).new _ hb0) fun b' hb' => ?_
  have : b = b' := hb'
  subst this; exact hb0
/-- a variable that is laid -/
theorem new_st {h : GH} {n : Nat} {T : TypeId} {zero : List Value} {x : Value} {K : Value → GH → Prop} (c : List Value) (hx : x.cells.toList = c) (hc : c.length = n) (hz : zero.length = n) (hone : c.all oneCell = true)
    (k : ∀ b h', h b = none → h' b = some (.row T c n true) → HLe h h' → K (.pointer (some ⟨b, 0, none⟩)) h') : newV T zero h fun v h1 => bnd (stV n v x h1) fun h2 => K v h2 := by
  intro b hb
  subst hx
  have hsz : x.cells.size = n := by rw [← hc]; rfl
  refine bnd_of (v := upd h b (.row T x.cells.toList n true)) ?_ ?_
  · rw [stV_same, if_pos ⟨hsz, by omega, hone⟩, setCells_all (by omega), hz]
  · exact k b _ hb (upd_same _ _ _) ((HLe.refl h).new _ hb)
theorem own.upd {h : GH} {size b : Nat} {v : Value} {cs : List (List Value)} (o : own h size v cs) (g : GObj) (n : ¬ blk v b) : own (upd h b g) size v cs :=
  o.keep (S := fun k => k = b) (fun k g' e ne => by rw [upd_ne ne]; exact e) fun k hk e => n (by subst e; exact hk)
theorem iaV_at {len size b o i : Nat} (hi : i < len) (k : IntKind) : iaV len size (.pointer (some ⟨b, o, none⟩)) (.int k i) = some (.pointer (some ⟨b, o + i * size, none⟩)) := by
  simp only [iaV]; rw [if_pos ⟨by omega, by omega⟩]; simp
theorem st_ints {h : GH} {b s n : Nat} {T : TypeId} {S : List Int} (e : h b = some (.row T (S.map i64) n true)) (hs : s < S.length) (x : Int) : stV 1 (.pointer (some ⟨b, 0 + s * 1, none⟩)) (i64 x) h = some (upd h b (.row T ((S.set s x).map i64) n true)) := by
  rw [stV_row e 1 (0 + s * 1) (i64 x) rfl (by rw [List.length_map]; omega) rfl, List.map_set]
  have : (0 + s * 1) = s := by omega
  rw [this]; rfl
end Go.Proofs.Ytbiappodepnbmaa
namespace Go.Proofs.Ytbiappodepnbmaa
open Go GW Go.Proofs
set_option linter.unusedVariables false
set_option linter.unusedSimpArgs false
theorem setCells_left : ∀ (ys c rest : List Value) (j : Nat), j + ys.length ≤ c.length → setCells (c ++ rest) j ys = setCells c j ys ++ rest := by
  intro ys
  induction ys with
  | nil => intros; rfl
  | cons y ys ih =>
    intro c rest j h
    simp only [List.length_cons] at h
    rw [setCells_cons, setCells_cons, List.set_append_left _ _ (by omega), ih _ _ _ (by rw [List.length_set]; omega)]
theorem setCells_right : ∀ (ys c rest : List Value) (j : Nat), setCells (c ++ rest) (c.length + j) ys = c ++ setCells rest j ys := by
  intro ys
  induction ys with
  | nil => intros; rfl
  | cons y ys ih =>
    intro c rest j
    rw [setCells_cons, setCells_cons, List.set_append_right _ _ (by omega), Nat.add_sub_cancel_left, Nat.add_assoc, ih]
theorem setCells_flatten {size : Nat} (ys : List Value) : ∀ (cs : List (List Value)) (i j : Nat) (c : List Value), (∀ c ∈ cs, c.length = size) → cs[i]? = some c → j + ys.length ≤ size → setCells cs.flatten (i * size + j) ys = (cs.set i (setCells c j ys)).flatten := by
  intro cs
  induction cs with
  | nil => intro i j c _ h; simp at h
  | cons d cs ih =>
    intro i j c hl hc hj
    have hd : d.length = size := hl d (by simp)
    cases i with
    | zero =>
      simp at hc; subst hc
      rw [Nat.zero_mul, Nat.zero_add, List.flatten_cons, setCells_left _ _ _ _ (by omega)]; rfl
    | succ i =>
      have e : (i + 1) * size + j = d.length + (i * size + j) := by rw [hd, Nat.add_mul]; omega
      rw [e, List.flatten_cons, setCells_right, ih i j c (fun x hx => hl x (List.mem_cons_of_mem _ hx)) (by simpa using hc) hj]; rfl
theorem setCells_ones : ∀ (ys c : List Value) (j : Nat), c.all oneCell = true → ys.all oneCell = true → (setCells c j ys).all oneCell = true := by
  intro ys
  induction ys with
  | nil => intro c j h _; exact h
  | cons y ys ih =>
    intro c j hc hy
    simp only [List.all_cons, Bool.and_eq_true] at hy
    rw [setCells_cons]
    refine ih _ _ ?_ hy.2
    rw [List.all_eq_true] at hc ⊢
    intro x hx
    rcases List.mem_or_eq_of_mem_set hx with q | q
    · exact hc x q
    · subst q; exact hy.1
/-- an element of a row of one's own: read, and written -/
theorem own.at {h : GH} {size : Nat} {v : Value} {cs : List (List Value)} (o : own h size v cs) {i : Nat} {c : List Value} (hc : cs[i]? = some c) (k : IntKind) :
    ∃ b, isV size v (.int k i) = some (.pointer (some ⟨b, i * size, none⟩)) ∧ blk v b ∧ (∀ (j : Nat) x, c[j]? = some x → ldV 1 false (.pointer (some ⟨b, i * size + j, none⟩)) h = some x) ∧
      ldV size true (.pointer (some ⟨b, i * size, none⟩)) h = some (.agg c.toArray) ∧
      ∀ (j n : Nat) (y : Value), y.cells.size = n → j + n ≤ size → y.cells.toList.all oneCell = true → ∃ h', stV n (.pointer (some ⟨b, i * size + j, none⟩)) y h = some h' ∧ own h' size v (cs.set i (setCells c j y.cells.toList)) ∧ Keep (blk v) h h' ∧ ∀ q, h q = none → h' q = none := by
  have hi := (List.getElem?_eq_some_iff.1 hc).1
  have r := o.rows
  obtain ⟨a, cap, rfl, h2, h3, h4, h5⟩ := o
  rcases h5 with ⟨rfl, he, _⟩ | ⟨b, T, rfl, e⟩
  · subst he; simp at hi
  have hfl := flatten_good cs h4
  have hcl := (h4 c (List.mem_of_getElem? hc)).1
  obtain ⟨hg, hle⟩ := flatten_get size cs (fun c hc => (h4 c hc).1) [] i c hc
  rw [List.append_nil] at hg
  refine ⟨b, ?_, rfl, fun j x hj => ?_, ?_, fun j n y hn hj hone => ?_⟩
  · simp only [isV]; rw [if_pos ⟨by omega, by omega⟩]; simp
  · rw [ldV_cell e]
    rw [← hg, List.getElem?_take] at hj
    split at hj
    · rw [List.getElem?_drop] at hj; exact hj
    · cases hj
  · rw [ldV_agg e _ _ hle, hg]
  · have hlen : y.cells.toList.length = n := by rw [← hn]; rfl
    refine ⟨_, stV_row e n (i * size + j) y hn (by omega) hone, ?_, ?_, ?_⟩
    · rw [setCells_flatten y.cells.toList cs i j c (fun c hc => (h4 c hc).1) hc (by omega)]
      refine ⟨_, cap, by simp, by simpa using h2, by simpa using h3, fun d hd => ?_, .inr ⟨b, T, rfl, upd_same _ _ _⟩⟩
      rcases List.mem_or_eq_of_mem_set hd with q | q
      · exact h4 d q
      · subst q
        exact ⟨by rw [length_setCells]; exact hcl, setCells_ones _ _ _ (h4 c (List.mem_of_getElem? hc)).2 hone⟩
    · intro k' g e' nb
      have : k' ≠ b := fun q => nb (by subst q; rfl)
      rw [upd_ne this]; exact e'
    · intro q hq
      rw [upd_ne (Ne.symm (ne_of_fresh hq e))]; exact hq
theorem zerosV_flatten (zero : List Value) : ∀ n, zerosV zero n = (List.replicate n zero).flatten := by
  intro n
  induction n with
  | zero => rfl
  | succ n ih => rw [List.replicate_succ, List.flatten_cons, ← ih]; rfl
/-- a row that is made -/
theorem mkV_rows {h : GH} {T : TypeId} {bytes size n : Nat} {zero : List Value} {k1 k2 : IntKind} {K : Value → GH → Prop} (hz : good size zero) (hm : n ≤ 9223372036854775807) (hb : bytes * n ≤ 140737488355328)
    (k : ∀ v h', own h' size v (List.replicate n zero) → HLe h h' → (∀ b, blk v b → h b = none) → K v h') : mkV T bytes zero (.int k1 n) (.int k2 n) h K := by
  unfold mkV
  refine ⟨by omega, by omega, by omega, by omega, fun b hb0 => ?_⟩
  have hg : ∀ c ∈ List.replicate n zero, good size c := fun c hc => by rw [(List.mem_replicate.1 hc).2]; exact hz
  rw [zerosV_flatten]
  have hfl := (flatten_good _ hg).1
  rw [List.length_replicate] at hfl
  refine k _ _ (own_of (upd_same _ _ _) (by rfl) (by simp) (by simp only [Int.toNat_natCast]; exact hfl) (Nat.le_refl _) (by simpa using hm) hg) ((HLe.refl h).new _ hb0) fun b' hb' => ?_
  have : b = b' := hb'
  subst this; exact hb0
end Go.Proofs.Ytbiappodepnbmaa
namespace Go.Proofs.Ytbiappodepnbmaa
open Go GW Go.Proofs
set_option linter.unusedVariables false
set_option linter.unusedSimpArgs false
def encI (x : Int) : List Value := [i64 x]
theorem encI_good (ts : List Int) : ∀ c ∈ ts.map encI, good 1 c := by
  intro c hc
  obtain ⟨t, _, rfl⟩ := List.mem_map.1 hc
  exact ⟨rfl, rfl⟩
end Go.Proofs.Ytbiappodepnbmaa
namespace Go.Proofs.Ytbiappodepnbmaa
open Go GW Go.Proofs
set_option linter.unusedVariables false
set_option linter.unusedSimpArgs false
structure Wd where
  kind : Int
  value : Int
  slot : Int
  gen : Int
  entry : Int
  thread : Int
  seq : Int
def Wd.ints (t : Wd) : List Int := [t.kind, t.value, t.slot, t.gen, t.entry, t.thread, t.seq]
def Wd.enc (t : Wd) : List Value := [i64 t.kind, i64 t.value, i64 t.slot, i64 t.gen, i64 t.entry, i64 t.thread, i64 t.seq]
theorem Wd.ext_ints {a b : Wd} (h : a.ints = b.ints) : a = b := by
  cases a; cases b; simpa [Wd.ints] using h
instance : DecidableEq Wd := fun a b => if h : a.ints = b.ints then .isTrue (Wd.ext_ints h) else .isFalse fun e => h (by rw [e])
theorem Wd.enc_len (t : Wd) : t.enc.length = 7 := rfl
theorem Wd.enc_good (t : Wd) : good 7 t.enc := ⟨rfl, rfl⟩
theorem Wd.all_good (ts : List Wd) : ∀ c ∈ ts.map Wd.enc, good 7 c := by
  intro c hc
  obtain ⟨t, _, rfl⟩ := List.mem_map.1 hc
  exact t.enc_good
theorem Wd.eqLaw (a b : Wd) : eqP Try.prog 10000 120 (.agg a.enc.toArray) (.agg b.enc.toArray) = some (decide (a = b)) := by
  have h : eqP Try.prog 10000 120 (.agg a.enc.toArray) (.agg b.enc.toArray) = some ((a.kind == b.kind) && ((a.value == b.value) && ((a.slot == b.slot) && ((a.gen == b.gen) && ((a.entry == b.entry) && ((a.thread == b.thread) && ((a.seq == b.seq) && true))))))) := by kernel_rfl
  rw [h]
  cases a; cases b
  simp [Bool.decide_and, Bool.beq_eq_decide_eq]
end Go.Proofs.Ytbiappodepnbmaa
namespace Go.Proofs.Ytbiappodepnbmaa
open Go GW Go.Proofs
set_option linter.unusedVariables false
set_option linter.unusedSimpArgs false
inductive Form where
  | val (v : Int)
  | mcas (s g : Int)
  | entry (s g e t q : Int)
def Form.plain : Form → Wd
  | .val v => ⟨0, v, 0, 0, 0, 0, 0⟩
  | .mcas s g => ⟨2, 0, s, g, 0, 0, 0⟩
  | .entry s g e t q => ⟨1, 0, s, g, e, t, q⟩
def Form.number : Form → Int
  | .val v => v * 4
  | .mcas s g => (g * 16 + s) * 4 + 2
  | .entry s g e t q => ((((g * 16 + s) * 16 + e) * 4 + t) * 1048576 + q) * 4 + 1
def Form.value : Form → Value
  | .val v => i64 v
  | .mcas s g => .agg [i64 s, i64 g].toArray
  | .entry s g e t q => .agg [i64 s, i64 g, i64 e, i64 t, i64 q].toArray
def Form.type : Form → Nat
  | .val _ => 86
  | .mcas _ _ => 102
  | .entry _ _ _ _ _ => 114
def formV : Option Form → Value
  | none => .nilIface
  | some f => .iface f.type f.value
def Wd.may (w : Wd) : Bool := decide (0 ≤ w.value ∧ w.value < 1099511627776) && (decide (0 ≤ w.slot ∧ w.slot < 12) && (decide (0 ≤ w.gen ∧ w.gen < 65536) && (decide (0 ≤ w.entry ∧ w.entry < 16) && (decide (0 ≤ w.thread ∧ w.thread < 4) && decide (0 ≤ w.seq ∧ w.seq < 1048576)))))
def Form.may (f : Form) : Bool := f.plain.may
def raw (x : Int) : Option Form :=
  if x < 0 then none else
  if x % 4 = 0 then some (.val (x / 4)) else
  if x % 4 = 2 then some (.mcas (x / 4 % 16) (x / 4 / 16)) else
  if x % 4 = 1 then some (.entry (x / 4 / 1048576 / 4 / 16 % 16) (x / 4 / 1048576 / 4 / 16 / 16) (x / 4 / 1048576 / 4 % 16) (x / 4 / 1048576 % 4) (x / 4 % 1048576)) else none
def read (x : Int) : Option Form := match raw x with | some f => if f.may = true then some f else none | none => none
theorem T_plain_val {v : Int} {h : GH} {K : Value → GH → Prop} (hK : K (.agg (Form.val v).plain.enc.toArray) h) : T Try.prog 65 [i64 v] h K := by
  apply T.drop
  apply S65_T
  unfold S65
  intro b hb
  refine bnd_of rfl (bnd_of (v := upd h b (.row 120 (Form.val v).plain.enc 7 true)) (by rw [stV_same]; rfl) ?_)
  refine bnd_of (v := .agg (Form.val v).plain.enc.toArray) (by rw [ldV_same_agg]; rfl) ?_
  exact ⟨h, (HLe.refl h).new _ hb, hK⟩
theorem T_plain_mcas {s g : Int} {h : GH} {K : Value → GH → Prop} (hK : K (.agg (Form.mcas s g).plain.enc.toArray) h) : T Try.prog 68 [.agg [i64 s, i64 g].toArray] h K := by
  apply T.drop
  apply S68_T
  unfold S68
  intro b hb b2 hb2
  have hne : b ≠ b2 := by rintro rfl; simp at hb2
  refine bnd_of rfl (bnd_of (v := i64 s) (by rw [ldV_other hne, ldV_same]; rfl) (bnd_of rfl (bnd_of (v := i64 g) (by rw [ldV_other hne, ldV_same]; rfl) (bnd_of rfl ?_))))
  refine bnd_of (v := upd (upd h b (.row 102 [i64 s, i64 g] 2 true)) b2 (.row 120 (Form.mcas s g).plain.enc 7 true)) (by rw [stV_same]; rfl) ?_
  refine bnd_of (v := .agg (Form.mcas s g).plain.enc.toArray) (by rw [ldV_same_agg]; rfl) ?_
  exact ⟨h, ((HLe.refl h).new _ hb).new _ (((HLe.refl h).new _ hb).none hb2), hK⟩
theorem T_plain_entry {s g e t q : Int} {h : GH} {K : Value → GH → Prop} (hK : K (.agg (Form.entry s g e t q).plain.enc.toArray) h) : T Try.prog 90 [.agg [i64 s, i64 g, i64 e, i64 t, i64 q].toArray] h K := by
  apply T.drop
  apply S90_T
  unfold S90
  intro b hb b2 hb2
  have hne : b ≠ b2 := by rintro rfl; simp at hb2
  refine bnd_of rfl (bnd_of rfl (bnd_of (v := i64 s) (by rw [ldV_other hne, ldV_same]; rfl) (bnd_of rfl (bnd_of rfl (bnd_of (v := i64 g) (by rw [ldV_other hne, ldV_same]; rfl) ?_)))))
  refine bnd_of rfl (bnd_of (v := i64 e) (by rw [ldV_other hne, ldV_same]; rfl) (bnd_of rfl (bnd_of (v := i64 t) (by rw [ldV_other hne, ldV_same]; rfl) (bnd_of rfl (bnd_of (v := i64 q) (by rw [ldV_other hne, ldV_same]; rfl) (bnd_of rfl ?_))))))
  refine bnd_of (v := upd (upd h b (.row 114 [i64 s, i64 g, i64 e, i64 t, i64 q] 5 true)) b2 (.row 120 (Form.entry s g e t q).plain.enc 7 true)) (by rw [stV_same]; rfl) ?_
  refine bnd_of (v := .agg (Form.entry s g e t q).plain.enc.toArray) (by rw [ldV_same_agg]; rfl) ?_
  exact ⟨h, ((HLe.refl h).new _ hb).new _ (((HLe.refl h).new _ hb).none hb2), hK⟩
theorem T_wordmay {f : Form} {h : GH} {K : Value → GH → Prop} (hK : K (.bool f.may) h) : T Try.prog 45 [formV (some f)] h K := by
  apply T.drop
  apply S45_T
  unfold S45
  have key : ∀ w : Wd, w.may = f.may → newV 120 [.int .i64 0, .int .i64 0, .int .i64 0, .int .i64 0, .int .i64 0, .int .i64 0, .int .i64 0] h (fun v3 h4 =>
      bnd (stV 7 v3 (.agg w.enc.toArray) h4) fun h5 =>
      bnd (faV 1 v3) fun v6 => bnd (ldV 1 false v6 h5) fun v7 => T Try.prog 18 [v7, .int .i64 1099511627776] h5 fun v8 h9 => ifV v8 (
      bnd (faV 2 v3) fun v10 => bnd (ldV 1 false v10 h9) fun v11 => T Try.prog 18 [v11, .int .i64 12] h9 fun v12 h13 => ifV v12 (
      bnd (faV 3 v3) fun v14 => bnd (ldV 1 false v14 h13) fun v15 => T Try.prog 18 [v15, .int .i64 65536] h13 fun v16 h17 => ifV v16 (
      bnd (faV 4 v3) fun v18 => bnd (ldV 1 false v18 h17) fun v19 => T Try.prog 18 [v19, .int .i64 16] h17 fun v20 h21 => ifV v20 (
      bnd (faV 5 v3) fun v22 => bnd (ldV 1 false v22 h21) fun v23 => T Try.prog 18 [v23, .int .i64 4] h21 fun v24 h25 => ifV v24 (
      bnd (faV 6 v3) fun v26 => bnd (ldV 1 false v26 h25) fun v27 => T Try.prog 18 [v27, .int .i64 1048576] h25 fun v28 h29 => ∃ h0, HLe h0 h29 ∧ K v28 h0) (∃ h0, HLe h0 h25 ∧ K (.bool false) h0)) (∃ h0, HLe h0 h21 ∧ K (.bool false) h0)) (∃ h0, HLe h0 h17 ∧ K (.bool false) h0)) (∃ h0, HLe h0 h13 ∧ K (.bool false) h0)) (∃ h0, HLe h0 h9 ∧ K (.bool false) h0)) := by
    intro w hw
    refine new_st w.enc rfl rfl rfl rfl fun b h5 fb e5 l5 => ?_
    rw [← hw] at hK
    have bad : w.may = false → ∃ h0, HLe h0 h5 ∧ K (.bool false) h0 := fun q => ⟨h, l5, by rw [q] at hK; exact hK⟩
    refine bnd_of rfl (bnd_of (v := i64 w.value) (by rw [ldV_cell e5]; rfl) (T_Below ?_))
    rw [ifV_dec]; split
    · rename_i c1
      refine bnd_of rfl (bnd_of (v := i64 w.slot) (by rw [ldV_cell e5]; rfl) (T_Below ?_))
      rw [ifV_dec]; split
      · rename_i c2
        refine bnd_of rfl (bnd_of (v := i64 w.gen) (by rw [ldV_cell e5]; rfl) (T_Below ?_))
        rw [ifV_dec]; split
        · rename_i c3
          refine bnd_of rfl (bnd_of (v := i64 w.entry) (by rw [ldV_cell e5]; rfl) (T_Below ?_))
          rw [ifV_dec]; split
          · rename_i c4
            refine bnd_of rfl (bnd_of (v := i64 w.thread) (by rw [ldV_cell e5]; rfl) (T_Below ?_))
            rw [ifV_dec]; split
            · rename_i c5
              refine bnd_of rfl (bnd_of (v := i64 w.seq) (by rw [ldV_cell e5]; rfl) (T_Below ⟨h, l5, ?_⟩))
              have : w.may = decide (0 ≤ w.seq ∧ w.seq < 1048576) := by unfold Wd.may; rw [decide_eq_true c1, decide_eq_true c2, decide_eq_true c3, decide_eq_true c4, decide_eq_true c5]; rfl
              rw [this] at hK; exact hK
            · rename_i c; exact bad (by unfold Wd.may; rw [decide_eq_false c]; simp)
          · rename_i c; exact bad (by unfold Wd.may; rw [decide_eq_false c]; simp)
        · rename_i c; exact bad (by unfold Wd.may; rw [decide_eq_false c]; simp)
      · rename_i c; exact bad (by unfold Wd.may; rw [decide_eq_false c]; simp)
    · rename_i c; exact bad (by unfold Wd.may; rw [decide_eq_false c]; simp)
  cases f with
  | val v => exact ⟨_, _, fun w => (by kernel_rfl : (method (Try.prog.types.size + Made.depth) 86 (i64 v) "pawl/word.plain").run Try.prog w = .ok (65, i64 v) w), T_plain_val (key _ rfl)⟩
  | mcas s g => exact ⟨_, _, fun w => (by kernel_rfl : (method (Try.prog.types.size + Made.depth) 102 (.agg [i64 s, i64 g].toArray) "pawl/word.plain").run Try.prog w = .ok (68, .agg [i64 s, i64 g].toArray) w), T_plain_mcas (key _ rfl)⟩
  | entry s g e t q => exact ⟨_, _, fun w => (by kernel_rfl : (method (Try.prog.types.size + Made.depth) 114 (.agg [i64 s, i64 g, i64 e, i64 t, i64 q].toArray) "pawl/word.plain").run Try.prog w = .ok (90, .agg [i64 s, i64 g, i64 e, i64 t, i64 q].toArray) w), T_plain_entry (key _ rfl)⟩
end Go.Proofs.Ytbiappodepnbmaa
namespace Go.Proofs.Ytbiappodepnbmaa
open Go GW Go.Proofs
set_option linter.unusedVariables false
set_option linter.unusedSimpArgs false
theorem quo_nn {x d : Int} (h0 : 0 ≤ x) (h1 : x ≤ 9223372036854775807) (hd : 0 < d) : binV .quo (.int .i64 x) (.int .i64 d) = some (i64 (x / d)) := by
  rw [binV_quo, if_neg (by omega), Int.tdiv_eq_ediv_of_nonneg h0, wrap_id]
  · have := Int.ediv_nonneg h0 (Int.le_of_lt hd); omega
  · have := Int.ediv_le_self d h0; omega
theorem rem_nn {x d : Int} (h0 : 0 ≤ x) (hd : 0 < d) : binV .rem (.int .i64 x) (.int .i64 d) = some (i64 (x % d)) := by
  rw [binV_rem, if_neg (by omega), Int.tmod_eq_emod_of_nonneg h0]
theorem T_life {y : Int} {h : GH} {K : Value → GH → Prop} (h0 : 0 ≤ y) (h1 : y ≤ 9223372036854775807) (hK : K (.agg [i64 (y % 16), i64 (y / 16)].toArray) h) : T Try.prog 44 [i64 y] h K := by
  apply T.drop
  apply S44_T
  unfold S44
  intro b hb
  refine bnd_of (rem_nn h0 (by decide)) (bnd_of (quo_nn h0 h1 (by decide)) (bnd_of rfl ?_))
  refine bnd_of (v := upd h b (.row 102 [i64 (y % 16), i64 (y / 16)] 2 true)) (by rw [stV_same]; rfl) ?_
  refine bnd_of (v := .agg [i64 (y % 16), i64 (y / 16)].toArray) (by rw [ldV_same_agg]; rfl) ?_
  exact ⟨h, (HLe.refl h).new _ hb, hK⟩
theorem T_Read {x : Int} {h : GH} {K : Value → GH → Prop} (h1 : x ≤ 9223372036854775807) (hK : K (formV (read x)) h) : T Try.prog 41 [i64 x] h K := by
  apply T.drop
  apply S41_T
  unfold S41
  refine bnd_of (binV_lss _ _ _) ?_
  rw [ifV_dec]
  split
  · rename_i hn
    have : read x = none := by unfold read raw; rw [if_pos hn]
    rw [this] at hK
    exact ⟨h, .refl _, hK⟩
  rename_i hn
  have h0 : 0 ≤ x := by omega
  have fin : ∀ (f : Form) (h' : GH), HLe h h' → raw x = some f → S41_j1 (formV (some f)) h' (fun v h' => ∃ h0, HLe h0 h' ∧ K v h0) := by
    intro f h' l hr
    unfold S41_j1
    have hq : eqK .iface true (formV (some f)) .nilIface = some false := by cases f <;> rfl
    refine bnd_of hq ?_
    rw [ifV_false]
    refine T_wordmay (bnd_of rfl ?_)
    unfold read at hK
    rw [hr] at hK
    simp only at hK
    rw [ifV_iff]
    split
    · rename_i hm
      rw [if_neg (by simpa using hm)] at hK
      exact ⟨h, l, hK⟩
    · rename_i hm
      rw [if_pos (by simpa using hm)] at hK
      exact ⟨h, l, hK⟩
  have y0 : 0 ≤ x / 4 := by omega
  have y1 : x / 4 ≤ 9223372036854775807 := by omega
  refine bnd_of (quo_nn h0 h1 (by decide)) (bnd_of (rem_nn h0 (by decide)) (bnd_of (eqI_int _ _ _) ?_))
  rw [ifV_dec]
  split
  · rename_i c0
    exact fin (.val (x / 4)) h (.refl _) (by unfold raw; rw [if_neg hn, if_pos c0])
  rename_i c0
  refine bnd_of (eqI_int _ _ _) ?_
  rw [ifV_dec]
  split
  · rename_i c2
    refine T_life y0 y1 ?_
    exact fin (.mcas (x / 4 % 16) (x / 4 / 16)) h (.refl _) (by unfold raw; rw [if_neg hn, if_neg c0, if_pos c2])
  rename_i c2
  refine bnd_of (eqI_int _ _ _) ?_
  rw [ifV_dec]
  split
  · rename_i c1
    refine bnd_of (rem_nn y0 (by decide)) (bnd_of rfl ?_)
    refine new_st [i64 0, i64 0, i64 0, i64 0, i64 (x / 4 % 1048576)] rfl rfl rfl rfl fun b h2 fb e2 l2 => ?_
    refine bnd_of (quo_nn y0 y1 (by decide)) ?_
    have z0 : 0 ≤ x / 4 / 1048576 := by omega
    have z1 : x / 4 / 1048576 ≤ 9223372036854775807 := by omega
    refine bnd_of (rem_nn z0 (by decide)) (bnd_of (quo_nn z0 z1 (by decide)) ?_)
    have u0 : 0 ≤ x / 4 / 1048576 / 4 := by omega
    have u1 : x / 4 / 1048576 / 4 ≤ 9223372036854775807 := by omega
    refine bnd_of rfl (bnd_of (stV_row e2 1 (0 + 3) _ rfl (Nat.le_of_ble_eq_true rfl) rfl) ?_)
    refine bnd_of (rem_nn u0 (by decide)) (bnd_of (quo_nn u0 u1 (by decide)) ?_)
    have w0 : 0 ≤ x / 4 / 1048576 / 4 / 16 := by omega
    have w1 : x / 4 / 1048576 / 4 / 16 ≤ 9223372036854775807 := by omega
    refine bnd_of rfl (bnd_of (stV_row (upd_same _ _ _) 1 (0 + 2) _ rfl (Nat.le_of_ble_eq_true rfl) rfl) ?_)
    refine T_life w0 w1 ?_
    rw [upd_upd]
    refine bnd_of rfl (bnd_of (stV_row (upd_same _ _ _) 2 (0 + 0) _ rfl (Nat.le_of_ble_eq_true rfl) rfl) ?_)
    rw [upd_upd]
    refine bnd_of (v := (Form.entry (x / 4 / 1048576 / 4 / 16 % 16) (x / 4 / 1048576 / 4 / 16 / 16) (x / 4 / 1048576 / 4 % 16) (x / 4 / 1048576 % 4) (x / 4 % 1048576)).value) (by rw [ldV_same_agg]; rfl) ?_
    exact fin (.entry (x / 4 / 1048576 / 4 / 16 % 16) (x / 4 / 1048576 / 4 / 16 / 16) (x / 4 / 1048576 / 4 % 16) (x / 4 / 1048576 % 4) (x / 4 % 1048576)) _ (l2.new _ fb |> fun q => by exact (HLe.refl h).trans (fun b g e => q b g e)) (by unfold raw; rw [if_neg hn, if_neg c0, if_neg c2, if_pos c1])
  · rename_i c1
    unfold S41_j1
    refine bnd_of rfl ?_
    rw [ifV_true]
    have : read x = none := by unfold read raw; rw [if_neg hn, if_neg c0, if_neg c2, if_neg c1]
    rw [this] at hK
    exact ⟨h, .refl _, hK⟩
def plainOf (x : Int) : Option Int := match read x with | some (.val v) => some v | _ => none
theorem T_Plain {x : Int} {h : GH} {K : Value → GH → Prop} (h1 : x ≤ 9223372036854775807) (hK : K (.tuple #[i64 ((plainOf x).getD 0), .bool (plainOf x).isSome]) h) : T Try.prog 33 [i64 x] h K := by
  apply S33_T
  unfold S33
  refine T_Read h1 ?_
  unfold plainOf at hK
  cases hr : read x with
  | none => rw [hr] at hK; exact bnd_of rfl (bnd_of rfl (bnd_of rfl hK))
  | some f =>
    rw [hr] at hK
    cases f with
    | val v => exact bnd_of rfl (bnd_of rfl (bnd_of rfl hK))
    | mcas s g => exact bnd_of rfl (bnd_of rfl (bnd_of rfl hK))
    | entry s g e t q => exact bnd_of rfl (bnd_of rfl (bnd_of rfl hK))
theorem T_Of {v : Int} {h : GH} {K : Value → GH → Prop} (h0 : -2305843009213693952 ≤ v) (h1 : v < 2305843009213693952) (hK : K (i64 (v * 4)) h) : T Try.prog 38 [i64 v] h K := by
  apply S38_T
  unfold S38
  apply S43_T
  unfold S43
  refine bnd_of (binV_mul _ _ _) ?_
  rw [wrap_id (by omega) (by omega)]
  refine bnd_of (binV_add _ _ _) ?_
  rw [wrap_id (by omega) (by omega), Int.add_zero]
  exact hK
end Go.Proofs.Ytbiappodepnbmaa
namespace Go.Proofs.Ytbiappodepnbmaa
open Go GW Go.Proofs
set_option linter.unusedVariables false
set_option linter.unusedSimpArgs false
def mayRef (w : Wd) : Bool :=
  if w.kind = 0 then decide (w = ⟨0, w.value, 0, 0, 0, 0, 0⟩ ∧ 0 ≤ w.value ∧ w.value < 1099511627776)
  else if w.kind = 1 then decide (w.value = 0 ∧ 0 ≤ w.slot ∧ w.slot < 12 ∧ 0 ≤ w.gen ∧ w.gen < 65536 ∧ 0 ≤ w.entry ∧ w.entry < 16 ∧ 0 ≤ w.thread ∧ w.thread < 4 ∧ 0 ≤ w.seq ∧ w.seq < 1048576)
  else if w.kind = 2 then decide (w = ⟨2, 0, w.slot, w.gen, 0, 0, 0⟩ ∧ 0 ≤ w.slot ∧ w.slot < 12 ∧ 0 ≤ w.gen ∧ w.gen < 65536)
  else false
theorem mayRef_plain (f : Form) : mayRef f.plain = f.may := by
  unfold Form.may Wd.may
  rw [Bool.eq_iff_iff]
  simp only [Bool.and_eq_true, decide_eq_true_eq]
  cases f with
  | val v =>
    have : mayRef (Form.val v).plain = decide ((Form.val v).plain = ⟨0, v, 0, 0, 0, 0, 0⟩ ∧ 0 ≤ v ∧ v < 1099511627776) := rfl
    rw [this, decide_eq_true_eq]
    simp only [Form.plain]
    exact ⟨fun q => by omega, fun q => ⟨trivial, by omega⟩⟩
  | mcas s g =>
    have : mayRef (Form.mcas s g).plain = decide ((Form.mcas s g).plain = ⟨2, 0, s, g, 0, 0, 0⟩ ∧ 0 ≤ s ∧ s < 12 ∧ 0 ≤ g ∧ g < 65536) := rfl
    rw [this, decide_eq_true_eq]
    simp only [Form.plain]
    exact ⟨fun q => by omega, fun q => ⟨trivial, by omega⟩⟩
  | entry s g e t q =>
    have : mayRef (Form.entry s g e t q).plain = decide ((0 : Int) = 0 ∧ 0 ≤ s ∧ s < 12 ∧ 0 ≤ g ∧ g < 65536 ∧ 0 ≤ e ∧ e < 16 ∧ 0 ≤ t ∧ t < 4 ∧ 0 ≤ q ∧ q < 1048576) := rfl
    rw [this, decide_eq_true_eq]
    simp only [Form.plain]
    constructor
    · intro q; simp only [true_and] at q; omega
    · intro q; simp only [true_and]; omega
end Go.Proofs.Ytbiappodepnbmaa
namespace Go.Proofs.Ytbiappodepnbmaa
open Go GW Go.Proofs
set_option linter.unusedVariables false
set_option linter.unusedSimpArgs false
theorem may_val {v : Int} : (Form.val v).may = true ↔ 0 ≤ v ∧ v < 1099511627776 := by
  rw [← mayRef_plain]
  have : mayRef (Form.val v).plain = decide ((Form.val v).plain = ⟨0, v, 0, 0, 0, 0, 0⟩ ∧ 0 ≤ v ∧ v < 1099511627776) := rfl
  rw [this, decide_eq_true_eq]
  exact ⟨fun q => q.2, fun q => ⟨rfl, q⟩⟩
theorem may_mcas {s g : Int} : (Form.mcas s g).may = true ↔ 0 ≤ s ∧ s < 12 ∧ 0 ≤ g ∧ g < 65536 := by
  rw [← mayRef_plain]
  have : mayRef (Form.mcas s g).plain = decide ((Form.mcas s g).plain = ⟨2, 0, s, g, 0, 0, 0⟩ ∧ 0 ≤ s ∧ s < 12 ∧ 0 ≤ g ∧ g < 65536) := rfl
  rw [this, decide_eq_true_eq]
  exact ⟨fun q => q.2, fun q => ⟨rfl, q⟩⟩
theorem may_entry {s g e t q : Int} : (Form.entry s g e t q).may = true ↔ 0 ≤ s ∧ s < 12 ∧ 0 ≤ g ∧ g < 65536 ∧ 0 ≤ e ∧ e < 16 ∧ 0 ≤ t ∧ t < 4 ∧ 0 ≤ q ∧ q < 1048576 := by
  rw [← mayRef_plain]
  have : mayRef (Form.entry s g e t q).plain = decide ((0 : Int) = 0 ∧ 0 ≤ s ∧ s < 12 ∧ 0 ≤ g ∧ g < 65536 ∧ 0 ≤ e ∧ e < 16 ∧ 0 ≤ t ∧ t < 4 ∧ 0 ≤ q ∧ q < 1048576) := rfl
  rw [this, decide_eq_true_eq]
  exact ⟨fun q => q.2, fun q => ⟨rfl, q⟩⟩
theorem read_number {f : Form} (h : f.may = true) : read f.number = some f := by
  have hr : raw f.number = some f := by
    cases f with
    | val v =>
      rw [may_val] at h
      suffices key : ∀ x, x = v * 4 → raw x = some (.val v) from key _ rfl
      intro x hx
      unfold raw
      rw [if_neg (by omega), if_pos (by omega)]
      congr 2; omega
    | mcas s g =>
      rw [may_mcas] at h
      suffices key : ∀ x, x = (g * 16 + s) * 4 + 2 → raw x = some (.mcas s g) from key _ rfl
      intro x hx
      unfold raw
      rw [if_neg (by omega), if_neg (by omega), if_pos (by omega)]
      congr 2 <;> omega
    | entry s g e t q =>
      rw [may_entry] at h
      suffices key : ∀ x, x = ((((g * 16 + s) * 16 + e) * 4 + t) * 1048576 + q) * 4 + 1 → raw x = some (.entry s g e t q) from key _ rfl
      intro x hx
      unfold raw
      rw [if_neg (by omega), if_neg (by omega), if_neg (by omega), if_pos (by omega)]
      congr 2 <;> omega
  unfold read; rw [hr]; simp [h]
theorem number_of_read {x : Int} {f : Form} (h : read x = some f) : f.may = true ∧ f.number = x ∧ 0 ≤ x := by
  unfold read at h
  split at h
  · rename_i f' hr
    split at h
    · rename_i hm
      cases h
      refine ⟨hm, ?_⟩
      unfold raw at hr
      split at hr
      · cases hr
      split at hr
      · cases hr; simp only [Form.number]; omega
      split at hr
      · cases hr; simp only [Form.number]; omega
      split at hr
      · cases hr; simp only [Form.number]; omega
      · cases hr
    · cases h
  · cases h
theorem number_inj {f f' : Form} (h : f.may = true) (h' : f'.may = true) (e : f.number = f'.number) : f = f' := by
  have a := read_number h
  have b := read_number h'
  rw [e, b] at a
  cases a; rfl
theorem T_mlife {s g : Int} {h : GH} {K : Value → GH → Prop} (h1 : 0 ≤ s ∧ s < 12 ∧ 0 ≤ g ∧ g < 65536) (hK : K (i64 (g * 16 + s)) h) : T Try.prog 66 [.agg [i64 s, i64 g].toArray] h K := by
  apply T.drop
  apply S66_T
  unfold S66
  intro b hb
  refine bnd_of rfl (bnd_of (v := i64 g) (by rw [ldV_same]; rfl) (bnd_of (binV_mul _ _ _) (bnd_of rfl (bnd_of (v := i64 s) (by rw [ldV_same]; rfl) ?_))))
  rw [wrap_id (by omega) (by omega)]
  refine bnd_of (binV_add _ _ _) ?_
  rw [wrap_id (by omega) (by omega)]
  exact ⟨h, (HLe.refl h).new _ hb, hK⟩
theorem T_mnumber {s g : Int} {h : GH} {K : Value → GH → Prop} (h1 : 0 ≤ s ∧ s < 12 ∧ 0 ≤ g ∧ g < 65536) (hK : K (i64 (Form.mcas s g).number) h) : T Try.prog 67 [.agg [i64 s, i64 g].toArray] h K := by
  apply T.drop
  apply S67_T
  unfold S67
  intro b hb
  refine bnd_of (v := .agg [i64 s, i64 g].toArray) (by rw [ldV_same_agg]; rfl) (T_mlife h1 (bnd_of (binV_mul _ _ _) ?_))
  rw [wrap_id (by omega) (by omega)]
  refine bnd_of (binV_add _ _ _) ?_
  rw [wrap_id (by omega) (by omega)]
  exact ⟨h, (HLe.refl h).new _ hb, hK⟩
theorem T_Number_mcas {s g : Int} {h : GH} {K : Value → GH → Prop} (h1 : 0 ≤ s ∧ s < 12 ∧ 0 ≤ g ∧ g < 65536) (hK : K (i64 (Form.mcas s g).number) h) : T Try.prog 84 [.iface 102 (.agg [i64 s, i64 g].toArray)] h K := by
  apply S84_T
  unfold S84
  exact ⟨_, _, fun w => (by kernel_rfl : (method (Try.prog.types.size + Made.depth) 102 (.agg [i64 s, i64 g].toArray) "pawl/word.number").run Try.prog w = .ok (67, .agg [i64 s, i64 g].toArray) w), T_mnumber h1 hK⟩
theorem T_enumber {s g e t q : Int} {h : GH} {K : Value → GH → Prop} (h1 : 0 ≤ s ∧ s < 12 ∧ 0 ≤ g ∧ g < 65536 ∧ 0 ≤ e ∧ e < 16 ∧ 0 ≤ t ∧ t < 4 ∧ 0 ≤ q ∧ q < 1048576) (hK : K (i64 (Form.entry s g e t q).number) h) : T Try.prog 89 [.agg [i64 s, i64 g, i64 e, i64 t, i64 q].toArray] h K := by
  apply T.drop
  apply S89_T
  unfold S89
  intro b hb
  refine bnd_of rfl (bnd_of (v := .agg [i64 s, i64 g].toArray) (by rw [ldV_same_agg]; rfl) ?_)
  refine bnd_of rfl (bnd_of (v := i64 e) (by rw [ldV_same]; rfl) (bnd_of rfl (bnd_of (v := i64 t) (by rw [ldV_same]; rfl) (bnd_of rfl (bnd_of (v := i64 q) (by rw [ldV_same]; rfl) ?_)))))
  refine T_mlife ⟨h1.1, h1.2.1, h1.2.2.1, h1.2.2.2.1⟩ ⟨by rw [ldV_same]; rfl, by rw [ldV_same]; rfl, by rw [ldV_same]; rfl, ?_⟩
  refine bnd_of (binV_mul _ _ _) ?_
  rw [wrap_id (by omega) (by omega)]
  refine bnd_of (binV_add _ _ _) ?_
  rw [wrap_id (by omega) (by omega)]
  refine bnd_of (binV_mul _ _ _) ?_
  rw [wrap_id (by omega) (by omega)]
  refine bnd_of (binV_add _ _ _) ?_
  rw [wrap_id (by omega) (by omega)]
  refine bnd_of (binV_mul _ _ _) ?_
  rw [wrap_id (by omega) (by omega)]
  refine bnd_of (binV_add _ _ _) ?_
  rw [wrap_id (by omega) (by omega)]
  refine bnd_of (binV_mul _ _ _) ?_
  rw [wrap_id (by omega) (by omega)]
  refine bnd_of (binV_add _ _ _) ?_
  rw [wrap_id (by omega) (by omega)]
  exact ⟨h, (HLe.refl h).new _ hb, hK⟩
theorem T_Number_entry {s g e t q : Int} {h : GH} {K : Value → GH → Prop} (h1 : 0 ≤ s ∧ s < 12 ∧ 0 ≤ g ∧ g < 65536 ∧ 0 ≤ e ∧ e < 16 ∧ 0 ≤ t ∧ t < 4 ∧ 0 ≤ q ∧ q < 1048576) (hK : K (i64 (Form.entry s g e t q).number) h) : T Try.prog 84 [.iface 114 (.agg [i64 s, i64 g, i64 e, i64 t, i64 q].toArray)] h K := by
  apply S84_T
  unfold S84
  exact ⟨_, _, fun w => (by kernel_rfl : (method (Try.prog.types.size + Made.depth) 114 (.agg [i64 s, i64 g, i64 e, i64 t, i64 q].toArray) "pawl/word.number").run Try.prog w = .ok (89, .agg [i64 s, i64 g, i64 e, i64 t, i64 q].toArray) w), T_enumber h1 hK⟩
end Go.Proofs.Ytbiappodepnbmaa
namespace Go.Proofs.Ytbiappodepnbmaa
open Go GW Go.Proofs
set_option linter.unusedVariables false
set_option linter.unusedSimpArgs false
def Wd.zero : Wd := ⟨0, 0, 0, 0, 0, 0, 0⟩
def wOf (x : Int) : Wd := match read x with | some f => f.plain | none => Wd.zero
def eOf (x : Int) : Int := match read x with | some _ => 0 | none => 100
theorem quo_any (x : Int) {d : Int} (hd : d ≠ 0) : ∃ n, binV .quo (.int .i64 x) (.int .i64 d) = some (i64 n) := ⟨_, by rw [binV_quo, if_neg hd]⟩
theorem rem_any (x : Int) {d : Int} (hd : d ≠ 0) : ∃ n, binV .rem (.int .i64 x) (.int .i64 d) = some (i64 n) := ⟨_, by rw [binV_rem, if_neg hd]⟩
theorem quo_cases (x : Int) (h1 : x ≤ 9223372036854775807) {d : Int} (hd : 0 < d) : ∃ n, binV .quo (.int .i64 x) (.int .i64 d) = some (i64 n) ∧ (0 ≤ x → n = x / d) := by
  by_cases h0 : 0 ≤ x
  · exact ⟨_, quo_nn h0 h1 hd, fun _ => rfl⟩
  · obtain ⟨n, hn⟩ := quo_any x (d := d) (by omega)
    exact ⟨n, hn, fun q => absurd q h0⟩
theorem rem_cases (x : Int) {d : Int} (hd : 0 < d) : ∃ n, binV .rem (.int .i64 x) (.int .i64 d) = some (i64 n) ∧ (0 ≤ x → n = x % d) := by
  by_cases h0 : 0 ≤ x
  · exact ⟨_, rem_nn h0 hd, fun _ => rfl⟩
  · obtain ⟨n, hn⟩ := rem_any x (d := d) (by omega)
    exact ⟨n, hn, fun q => absurd q h0⟩
theorem read_neg {x : Int} (h : x < 0) : read x = none := by unfold read raw; rw [if_pos h]
end Go.Proofs.Ytbiappodepnbmaa
namespace Go.Proofs.Ytbiappodepnbmaa
open Go GW Go.Proofs
set_option linter.unusedVariables false
set_option linter.unusedSimpArgs false
set_option maxRecDepth 20000
structure Ar where
  ws : List Int
  last : List Int
  any : Bool
def Ar.cells (a : Ar) : List Value := a.ws.map i64 ++ (a.last.map i64 ++ [.bool a.any])
structure Ar.ok (a : Ar) : Prop where
  words : a.ws.length = 634
  touch : a.last.length = 8
  range : ∀ x ∈ a.ws, -9223372036854775808 ≤ x ∧ x ≤ 9223372036854775807
def arAt (T : TypeId) (h : GH) (b : Nat) (a : Ar) : Prop := h b = some (.row T a.cells 643 true) ∧ a.ok
theorem Ar.ok.len {a : Ar} (o : a.ok) : a.cells.length = 643 := by
  unfold Ar.cells; simp only [List.length_append, List.length_map, List.length_cons, List.length_nil, o.words, o.touch]
theorem Ar.word {a : Ar} (o : a.ok) {i : Nat} {x : Int} (h : a.ws[i]? = some x) : a.cells[i]? = some (i64 x) := by
  have hi := (List.getElem?_eq_some_iff.1 h).1
  unfold Ar.cells
  rw [List.getElem?_append_left (by rw [List.length_map]; exact hi), List.getElem?_map, h]; rfl
theorem Ar.set_word {a : Ar} (o : a.ok) {i : Nat} (hi : i < 634) (x : Int) : a.cells.set i (i64 x) = (Ar.mk (a.ws.set i x) a.last a.any).cells := by
  unfold Ar.cells
  rw [List.set_append_left _ _ (by rw [List.length_map, o.words]; exact hi), List.map_set]
theorem Ar.set_last {a : Ar} (o : a.ok) {t : List Int} (ht : t.length = 8) : setCells a.cells 634 (t.map i64) = (Ar.mk a.ws t a.any).cells := by
  have hw : (a.ws.map i64).length = 634 := by rw [List.length_map]; exact o.words
  have := setCells_right (t.map i64) (a.ws.map i64) (a.last.map i64 ++ [.bool a.any]) 0
  rw [hw, Nat.add_zero] at this
  unfold Ar.cells
  rw [this, setCells_left _ _ _ _ (by rw [List.length_map, List.length_map, ht, o.touch]; decide), setCells_all (by rw [List.length_map, List.length_map, ht, o.touch])]
theorem Ar.set_any {a : Ar} (o : a.ok) (y : Bool) : a.cells.set 642 (.bool y) = (Ar.mk a.ws a.last y).cells := by
  unfold Ar.cells
  rw [List.set_append_right _ _ (by rw [List.length_map, o.words]; decide), List.length_map, o.words, List.set_append_right _ _ (by rw [List.length_map, o.touch]; decide), List.length_map, o.touch]; rfl
def Ar.touch (a : Ar) (k : Int) (i : Nat) (was now : Int) : Ar := ⟨a.ws.set i now, [0, k, i, was, now, 0, 0, 0], true⟩
theorem Ar.touch_ok {a : Ar} (o : a.ok) {k : Int} {i : Nat} {was now : Int} (h : -9223372036854775808 ≤ now ∧ now ≤ 9223372036854775807) : (a.touch k i was now).ok := by
  refine ⟨by unfold Ar.touch; rw [List.length_set]; exact o.words, rfl, fun x hx => ?_⟩
  rcases List.mem_or_eq_of_mem_set hx with q | q
  · exact o.range x q
  · subst q; exact h

theorem T_reftouch {b i : Nat} {a : Ar} {k was now : Int} {h : GH} {K : Value → GH → Prop} (ha : arAt 77 h b a) (hw : a.ws[i]? = some was)
    (hK : K (.tuple #[i64 was, i64 0]) (upd h b (.row 77 (a.touch k i was now).cells 643 true))) : T Try.prog 26 [.pointer (some ⟨b, 0, none⟩), i64 k, i64 i, i64 now] h K := by
  apply S26_T
  unfold S26
  obtain ⟨hb, o⟩ := ha
  have hi : i < 634 := by have := (List.getElem?_eq_some_iff.1 hw).1; rw [o.words] at this; exact this
  have ldW : ∀ (i : Nat) (x : Int), a.ws[i]? = some x → ldV 1 false (.pointer (some ⟨b, 0 + 0 + i * 1, none⟩)) h = some (i64 x) := fun i x hx => by
    have e2 : (0 + 0 + i * 1) = i := by omega
    rw [e2, ldV_cell hb]; exact a.word o hx
  refine bnd_of (binV_lss _ _ _) ?_
  rw [ifV_dec, if_neg (by omega)]
  refine bnd_of (binV_geq _ _ _) ?_
  rw [ifV_dec, if_neg (by omega)]
  unfold S26_j1
  refine bnd_of rfl (bnd_of rfl (bnd_of (iaV_at hi .i64) (bnd_of (v := i64 was) (ldW i was hw) ?_)))
  refine bnd_of (v := ([0, k, i, was, now, 0, 0, 0] : List Int).map i64) rfl ?_
  have o2 : (Ar.mk a.ws [0, k, i, was, now, 0, 0, 0] a.any).ok := ⟨o.words, rfl, o.range⟩
  have o3 : (Ar.mk a.ws [0, k, i, was, now, 0, 0, 0] true).ok := ⟨o.words, rfl, o.range⟩
  refine bnd_of rfl (bnd_of rfl (bnd_of (v := upd h b (.row 77 (Ar.mk a.ws [0, k, i, was, now, 0, 0, 0] a.any).cells 643 true)) ?_ ?_))
  · rw [stV_row hb 8 _ _ rfl (by rw [o.len]; decide) rfl]
    rw [← a.set_last o (t := [0, k, i, was, now, 0, 0, 0]) rfl]
    rfl
  refine bnd_of rfl (bnd_of rfl (bnd_of (v := upd h b (.row 77 (Ar.mk a.ws [0, k, i, was, now, 0, 0, 0] true).cells 643 true)) ?_ ?_))
  · rw [stV_row (upd_same _ _ _) 1 _ _ rfl (by rw [o2.len]; decide) rfl, upd_upd, ← Ar.set_any o2 true]
    rfl
  refine bnd_of rfl (bnd_of rfl (bnd_of (iaV_at hi .i64) (bnd_of (v := upd h b (.row 77 (a.touch k i was now).cells 643 true)) ?_ hK)))
  rw [stV_row (upd_same _ _ _) 1 _ _ rfl (by rw [o3.len]; omega) rfl, upd_upd]
  have e := Ar.set_word o3 hi now
  have e2 : (0 + 0 + i * 1) = i := by omega
  rw [e2]
  unfold Ar.touch
  rw [← e]; rfl
theorem arAt.ldW {T : TypeId} {h : GH} {b : Nat} {a : Ar} (ha : arAt T h b a) {i : Nat} {x : Int} (hx : a.ws[i]? = some x) : ldV 1 false (.pointer (some ⟨b, 0 + 0 + i * 1, none⟩)) h = some (i64 x) := by
  have e2 : (0 + 0 + i * 1) = i := by omega
  rw [e2, ldV_cell ha.1]; exact a.word ha.2 hx
theorem T_refStore {b i : Nat} {a : Ar} {was now : Int} {h : GH} {K : Value → GH → Prop} (ha : arAt 77 h b a) (hw : a.ws[i]? = some was)
    (hK : K (.tuple #[i64 was, i64 0]) (upd h b (.row 77 (a.touch 1 i was now).cells 643 true))) : T Try.prog 13 [.pointer (some ⟨b, 0, none⟩), i64 i, i64 now] h K := by
  apply S13_T
  unfold S13
  exact T_reftouch ha hw (bnd_of rfl (bnd_of rfl hK))
theorem T_arenaTouch {b i : Nat} {a : Ar} {k was now : Int} {fv : Value} {h : GH} {K : Value → GH → Prop} (ha : arAt 84 h b a) (hw : a.ws[i]? = some was) (hnow : -9223372036854775808 ≤ now ∧ now ≤ 9223372036854775807)
    (hf : ∀ K : Value → GH → Prop, K (i64 now) h → callV Try.prog fv [i64 was] h K)
    (hK : K (.tuple #[i64 was, i64 0]) (upd h b (.row 84 (a.touch k i was now).cells 643 true))) : T Try.prog 24 [.pointer (some ⟨b, 0, none⟩), i64 k, i64 i, fv] h K := by
  apply S24_T
  unfold S24
  have ha0 := ha
  obtain ⟨hb, o⟩ := ha
  have hi : i < 634 := by have := (List.getElem?_eq_some_iff.1 hw).1; rw [o.words] at this; exact this
  refine bnd_of rfl (ifV_f rfl (T_Below (bnd_of rfl ?_)))
  rw [decide_eq_true (by omega)]
  refine ifV_f rfl (bnd_of rfl (bnd_of rfl (bnd_of (iaV_at hi .i64) (bnd_of (ha0.ldW hw) (bnd_of rfl (bnd_of rfl (hf _ ?_)))))))
  have o1 : (Ar.mk (a.ws.set i now) a.last a.any).cells.length = 643 := by rw [← a.set_word o hi now, List.length_set]; exact o.len
  have e2 : (0 + 0 + i * 1) = i := by omega
  refine bnd_of (iaV_at hi .i64) (bnd_of (v := upd h b (.row 84 (Ar.mk (a.ws.set i now) a.last a.any).cells 643 true)) ?_ ?_)
  · rw [stV_row hb 1 _ _ rfl (by rw [o.len]; omega) rfl, e2, ← a.set_word o hi now]; rfl
  refine bnd_of rfl (bnd_of rfl (bnd_of (iaV_at hi .i64) (bnd_of (v := i64 now) ?_ ?_)))
  · rw [e2, ldV_cell (upd_same _ _ _), ← a.set_word o hi now, List.getElem?_set_self (by rw [o.len]; omega)]
  refine bnd_of (v := ([0, k, i, was, now, 0, 0, 0] : List Int).map i64) rfl ?_
  have hl : (a.ws.set i now).length = 634 := by rw [List.length_set]; exact o.words
  have ok1 : (Ar.mk (a.ws.set i now) a.last a.any).ok := ⟨hl, o.touch, (a.touch_ok o (k := k) (i := i) (was := was) hnow).range⟩
  have ok2 : (Ar.mk (a.ws.set i now) [0, k, i, was, now, 0, 0, 0] a.any).ok := ⟨hl, rfl, ok1.range⟩
  refine bnd_of rfl (bnd_of rfl (bnd_of (v := upd h b (.row 84 (Ar.mk (a.ws.set i now) [0, k, i, was, now, 0, 0, 0] a.any).cells 643 true)) ?_ ?_))
  · rw [stV_row (upd_same _ _ _) 8 _ _ rfl (by rw [ok1.len]; decide) rfl, upd_upd, ← Ar.set_last ok1 (t := [0, k, i, was, now, 0, 0, 0]) rfl]; rfl
  refine bnd_of rfl (bnd_of rfl (bnd_of (v := upd h b (.row 84 (a.touch k i was now).cells 643 true)) ?_ hK))
  rw [stV_row (upd_same _ _ _) 1 _ _ rfl (by rw [ok2.len]; decide) rfl, upd_upd]
  unfold Ar.touch
  rw [← Ar.set_any ok2 true]; rfl
end Go.Proofs.Ytbiappodepnbmaa
namespace Go.Proofs.Ytbiappodepnbmaa
open Go GW Go.Proofs
set_option linter.unusedVariables false
set_option linter.unusedSimpArgs false
set_option maxRecDepth 20000
theorem T_Load {b i : Nat} {a : Ar} {was : Int} {h : GH} {K : Value → GH → Prop} (ha : arAt 84 h b a) (hw : a.ws[i]? = some was)
    (hK : K (.tuple #[i64 was, i64 0]) (upd h b (.row 84 (a.touch 0 i was was).cells 643 true))) : T Try.prog 32 [.pointer (some ⟨b, 0, none⟩), i64 i] h K := by
  apply S32_T
  unfold S32
  exact T_arenaTouch ha hw (ha.2.range _ (List.mem_of_getElem? hw)) (fun K q => S40_T q) (bnd_of rfl (bnd_of rfl hK))
theorem T_Store {b i : Nat} {a : Ar} {was now : Int} {h : GH} {K : Value → GH → Prop} (ha : arAt 84 h b a) (hw : a.ws[i]? = some was) (hnow : -9223372036854775808 ≤ now ∧ now ≤ 9223372036854775807)
    (hK : K (.tuple #[i64 was, i64 0]) (upd h b (.row 84 (a.touch 1 i was now).cells 643 true))) : T Try.prog 12 [.pointer (some ⟨b, 0, none⟩), i64 i, i64 now] h K := by
  apply T.drop
  apply S12_T
  unfold S12
  intro b1 hb1
  have l := (HLe.refl h).new (.row 3 [i64 now] 1 true) hb1
  refine T_arenaTouch ⟨l _ _ ha.1, ha.2⟩ hw hnow (fun K q => ?_) (bnd_of rfl (bnd_of rfl ⟨_, l.upd b _, hK⟩))
  refine S25_T ?_
  exact bnd_of (v := i64 now) (by rw [ldV_same]; rfl) q
theorem T_Swap {b i : Nat} {a : Ar} {was old now : Int} {h : GH} {K : Value → GH → Prop} (ha : arAt 84 h b a) (hw : a.ws[i]? = some was) (hnow : -9223372036854775808 ≤ now ∧ now ≤ 9223372036854775807)
    (hK : K (.tuple #[i64 was, i64 0]) (upd h b (.row 84 (a.touch 2 i was (if was = old then now else was)).cells 643 true))) : T Try.prog 83 [.pointer (some ⟨b, 0, none⟩), i64 i, i64 old, i64 now] h K := by
  apply T.drop
  apply S83_T
  unfold S83
  intro b1 hb1 b2 hb2
  have l1 := (HLe.refl h).new (.row 3 [i64 old] 1 true) hb1
  have l := l1.new (.row 3 [i64 now] 1 true) (l1.none hb2)
  have hne : b1 ≠ b2 := by rintro rfl; simp at hb2
  refine T_arenaTouch (now := if was = old then now else was) ⟨l _ _ ha.1, ha.2⟩ hw ?_ (fun K q => ?_) (bnd_of rfl (bnd_of rfl ⟨_, l.upd b _, hK⟩))
  · split
    · exact hnow
    · exact ha.2.range _ (List.mem_of_getElem? hw)
  refine S88_T ?_
  refine bnd_of (v := i64 old) (by rw [ldV_other hne, ldV_same]; rfl) (bnd_of (eqI_int _ _ _) ?_)
  rw [ifV_dec]
  split
  · rename_i e
    rw [if_pos e] at q
    exact bnd_of (v := i64 now) (by rw [ldV_same]; rfl) q
  · rename_i e
    rw [if_neg e] at q
    exact q
end Go.Proofs.Ytbiappodepnbmaa
namespace Go.Proofs.Ytbiappodepnbmaa
open Go GW Go.Proofs
set_option linter.unusedVariables false
set_option linter.unusedSimpArgs false
abbrev Part := GH → Prop
def Disj (h1 h2 : GH) : Prop := ∀ b, h1 b = none ∨ h2 b = none
def Sep (P Q : Part) : Part := fun h => ∃ h1 h2, Disj h1 h2 ∧ HLe h1 h ∧ HLe h2 h ∧ P h1 ∧ Q h2
def All : List Part → Part
  | [] => fun _ => True
  | P :: l => Sep P (All l)
def emp : Part := fun _ => True
def pts (b : Nat) (g : GObj) : Part := fun h => h b = some g
theorem Disj.symm {h1 h2 : GH} (d : Disj h1 h2) : Disj h2 h1 := fun b => (d b).symm
theorem Disj.le {h1 h2 k1 k2 : GH} (d : Disj h1 h2) (l1 : HLe k1 h1) (l2 : HLe k2 h2) : Disj k1 k2 := fun b => (d b).imp l1.none l2.none
theorem Disj.left {h1 h2 : GH} (d : Disj h1 h2) {b : Nat} {g : GObj} (e : h1 b = some g) : h2 b = none := by
  rcases d b with q | q
  · rw [e] at q; cases q
  · exact q
theorem Disj.right {h1 h2 : GH} (d : Disj h1 h2) {b : Nat} {g : GObj} (e : h2 b = some g) : h1 b = none := d.symm.left e
theorem Sep.le {P Q : Part} {h h' : GH} (l : HLe h h') : Sep P Q h → Sep P Q h' := fun ⟨h1, h2, d, l1, l2, p, q⟩ => ⟨h1, h2, d, l1.trans l, l2.trans l, p, q⟩
theorem All.le {l : List Part} {h h' : GH} (e : HLe h h') (a : All l h) : All l h' := by
  cases l with
  | nil => trivial
  | cons P l => exact Sep.le e a
theorem Sep.mono {P P' Q Q' : Part} {h : GH} (p : ∀ h, P h → P' h) (q : ∀ h, Q h → Q' h) : Sep P Q h → Sep P' Q' h := fun ⟨h1, h2, d, l1, l2, a, b⟩ => ⟨h1, h2, d, l1, l2, p _ a, q _ b⟩
def uni (h1 h2 : GH) : GH := fun b => match h1 b with | some g => some g | none => h2 b
theorem uni_left (h1 h2 : GH) : HLe h1 (uni h1 h2) := fun b g e => by simp only [uni, e]
theorem uni_right {h1 h2 : GH} (d : Disj h1 h2) : HLe h2 (uni h1 h2) := fun b g e => by simp only [uni, d.right e]; exact e
theorem uni_le {h1 h2 h : GH} (l1 : HLe h1 h) (l2 : HLe h2 h) : HLe (uni h1 h2) h := fun b g e => by
  simp only [uni] at e
  split at e
  · rename_i q; cases e; exact l1 _ _ q
  · exact l2 _ _ e
theorem Disj.uni {h h1 h2 : GH} (d1 : Disj h h1) (d2 : Disj h h2) : Disj h (uni h1 h2) := fun b => by
  rcases d1 b with q | q
  · exact .inl q
  · rcases d2 b with r | r
    · exact .inl r
    · right; simp only [Go.Proofs.Ytbiappodepnbmaa.uni, q]; exact r
theorem Sep.comm {P Q : Part} {h : GH} : Sep P Q h → Sep Q P h := fun ⟨h1, h2, d, l1, l2, p, q⟩ => ⟨h2, h1, d.symm, l2, l1, q, p⟩
theorem Sep.left_comm {P Q R : Part} {h : GH} : Sep P (Sep Q R) h → Sep Q (Sep P R) h := by
  rintro ⟨h1, h2, d, l1, l2, p, h3, h4, d2, l3, l4, q, r⟩
  have d14 : Disj h1 h4 := d.le (.refl _) l4
  exact ⟨h3, uni h1 h4, Disj.uni (d.le (.refl _) l3).symm d2, l3.trans l2, uni_le l1 (l4.trans l2), q, h1, h4, d14, uni_left _ _, uni_right d14, p, r⟩
theorem All.take_at {l : List Part} : ∀ {i : Nat} {P : Part} {h : GH}, l[i]? = some P → All l h → Sep P (All (l.eraseIdx i)) h := by
  induction l with
  | nil => intro i P h e; simp at e
  | cons Q l ih =>
    intro i P h e a
    cases i with
    | zero => simp at e; subst e; exact a
    | succ i =>
      have e' : l[i]? = some P := by simpa using e
      exact Sep.left_comm (Sep.mono (fun _ x => x) (fun _ x => ih e' x) a)
theorem All.put_at {l : List Part} : ∀ {i : Nat} {P : Part} {h : GH}, i < l.length → Sep P (All (l.eraseIdx i)) h → All (l.set i P) h := by
  induction l with
  | nil => intro i P h e; simp at e
  | cons Q l ih =>
    intro i P h e a
    cases i with
    | zero => exact a
    | succ i =>
      have e' : i < l.length := by simpa using e
      exact Sep.mono (fun _ x => x) (fun _ x => ih e' x) (Sep.left_comm a)
/-- the i-th part comes first -/
def upL (l : List Part) (i : Nat) : List Part := match l[i]? with | some P => P :: l.eraseIdx i | none => l
theorem All.up {l : List Part} {h : GH} (a : All l h) (i : Nat) : All (upL l i) h := by
  unfold upL
  split
  · rename_i P e; exact All.take_at e a
  · exact a
/-- the first part goes behind so many -/
def dnL : Nat → Part → List Part → List Part
  | 0, P, l => P :: l
  | _ + 1, P, [] => [P]
  | n + 1, P, Q :: l => Q :: dnL n P l
theorem All.dn {l : List Part} : ∀ {P : Part} {h : GH}, All (P :: l) h → ∀ i, All (dnL i P l) h := by
  induction l with
  | nil => intro P h a i; cases i <;> exact a
  | cons Q l ih =>
    intro P h a i
    cases i with
    | zero => exact a
    | succ i => exact Sep.mono (fun _ x => x) (fun _ x => ih x i) (Sep.left_comm a)
/-- these parts alone -/
def selL (l : List Part) : List Nat → List Part
  | [] => []
  | i :: is => match l[i]? with | some P => P :: selL (l.set i emp) is | none => []
theorem All.emp_at {l : List Part} {i : Nat} {h : GH} (a : All (l.eraseIdx i) h) (hi : i < l.length) : All (l.set i emp) h :=
  All.put_at hi ⟨fun _ => none, h, fun b => .inl rfl, fun b g e => (by cases e), .refl _, trivial, a⟩
theorem All.sel (is : List Nat) : ∀ {l : List Part} {h : GH}, All l h → All (selL l is) h := by
  induction is with
  | nil => intros; trivial
  | cons i is ih =>
    intro l h a
    unfold selL
    split
    · rename_i P e
      have hi := (List.getElem?_eq_some_iff.1 e).1
      exact Sep.mono (fun _ x => x) (fun _ x => ih (All.emp_at x hi)) (All.take_at e a)
    · trivial
theorem All.tail {P : Part} {l : List Part} {h : GH} (a : All (P :: l) h) : All l h := by
  obtain ⟨h1, h2, _, _, l2, _, q⟩ := a
  exact q.le l2
theorem All.head {P Q : Part} {l : List Part} {h : GH} (a : All (P :: l) h) (p : ∀ h, P h → Q h) : All (Q :: l) h := Sep.mono p (fun _ x => x) a
theorem All.mono2 {P : Part} {l l' : List Part} {h : GH} (a : All (P :: l) h) (p : ∀ h, All l h → All l' h) : All (P :: l') h := Sep.mono (fun _ x => x) p a
theorem All.app {l : List Part} : ∀ {l' : List Part} {h : GH}, Sep (All l) (All l') h → All (l ++ l') h := by
  induction l with
  | nil => intro l' h ⟨h1, h2, d, l1, l2, p, q⟩; exact q.le l2
  | cons P l ih =>
    rintro l' h ⟨h1, h2, d, l1, l2, ⟨h3, h4, d2, l3, l4, p, q⟩, r⟩
    have d42 : Disj h4 h2 := d.le l4 (.refl _)
    have d32 : Disj h3 h2 := d.le l3 (.refl _)
    exact ⟨h3, uni h4 h2, Disj.uni d2 d32, l3.trans l1, uni_le (l4.trans l1) l2, p, ih ⟨h4, h2, d42, uni_left _ _, uni_right d42, q, r⟩⟩
theorem All.unapp {l : List Part} : ∀ {l' : List Part} {h : GH}, All (l ++ l') h → Sep (All l) (All l') h := by
  induction l with
  | nil => intro l' h a; exact ⟨fun _ => none, h, fun b => .inl rfl, fun b g e => (by cases e), .refl _, trivial, a⟩
  | cons P l ih =>
    rintro l' h ⟨h1, h2, d, l1, l2, p, r⟩
    obtain ⟨h3, h4, d2, l3, l4, q, r⟩ := ih r
    have d13 : Disj h1 h3 := d.le (.refl _) l3
    have d14 : Disj h1 h4 := d.le (.refl _) l4
    exact ⟨uni h1 h3, h4, (Disj.uni d14.symm d2.symm).symm, uni_le l1 (l3.trans l2), l4.trans l2, ⟨h1, h3, d13, uni_left _ _, uni_right d13, p, q⟩, r⟩
/-- of the first n parts these, in this row; behind them the others -/
theorem All.re {l : List Part} {h : GH} (a : All l h) (n : Nat) (is : List Nat) : All (selL (l.take n) is ++ l.drop n) h := by
  have b : All (l.take n ++ l.drop n) h := by rw [List.take_append_drop]; exact a
  exact All.app (Sep.mono (fun _ x => x.sel is) (fun _ x => x) b.unapp)
/-- a part that is a list of parts -/
theorem All.flat {l l' : List Part} {h : GH} (a : All (All l :: l') h) : All (l ++ l') h := All.app a
theorem All.fold {l l' : List Part} {h : GH} (a : All (l ++ l') h) : All (All l :: l') h := All.unapp a
theorem All.ex {α : Type} {P : α → Part} {l : List Part} {h : GH} (a : All ((fun h => ∃ x, P x h) :: l) h) : ∃ x, All (P x :: l) h := by
  obtain ⟨h1, h2, d, l1, l2, ⟨x, p⟩, q⟩ := a
  exact ⟨x, h1, h2, d, l1, l2, p, q⟩
theorem All.pure {p : Prop} {P : Part} {l : List Part} {h : GH} (a : All ((fun h => p ∧ P h) :: l) h) : p ∧ All (P :: l) h := by
  obtain ⟨h1, h2, d, l1, l2, ⟨x, p⟩, q⟩ := a
  exact ⟨x, h1, h2, d, l1, l2, p, q⟩
/-- a part is taken off, with what it is of; it can be put together again in another way -/
theorem All.case {P : Part} {l : List Part} {h : GH} {C : Prop} (a : All (P :: l) h) (k : ∀ h1, P h1 → (∀ Q : Part, Q h1 → All (Q :: l) h) → C) : C := by
  obtain ⟨h1, h2, d, l1, l2, p, q⟩ := a
  exact k h1 p fun Q r => ⟨h1, h2, d, l1, l2, r, q⟩
theorem All.emp_cons {P : Part} {l : List Part} {h : GH} (a : All l h) (p : P fun _ => none) : All (P :: l) h := ⟨fun _ => none, h, fun b => .inl rfl, fun b g e => (by cases e), .refl _, p, a⟩
theorem All.one {P : Part} {h : GH} (p : P h) : All [P] h := ⟨h, fun _ => none, fun b => .inr rfl, .refl _, fun b g e => (by cases e), p, trivial⟩
theorem All.two {P Q : Part} {h : GH} (p : P h) (q : Q fun _ => none) : All [P, Q] h := ⟨h, fun _ => none, fun b => .inr rfl, .refl _, fun b g e => (by cases e), p, All.one q⟩
theorem All.pt {l : List Part} {i b : Nat} {g : GObj} {h : GH} (a : All l h) (e : l[i]? = some (pts b g)) : h b = some g := by
  obtain ⟨h1, h2, d, l1, l2, p, q⟩ := All.take_at e a
  exact l1 _ _ p
theorem All.pt0 {b : Nat} {g : GObj} {l : List Part} {h : GH} (a : All (pts b g :: l) h) : h b = some g := a.pt (i := 0) rfl
theorem All.pt1 {b : Nat} {g : GObj} {P : Part} {l : List Part} {h : GH} (a : All (P :: pts b g :: l) h) : h b = some g := a.pt (i := 1) rfl
theorem All.pt2 {b : Nat} {g : GObj} {P Q : Part} {l : List Part} {h : GH} (a : All (P :: Q :: pts b g :: l) h) : h b = some g := a.pt (i := 2) rfl
theorem All.upd0 {l : List Part} {b : Nat} {g g' : GObj} {h : GH} (a : All (pts b g :: l) h) : All (pts b g' :: l) (upd h b g') := by
  obtain ⟨h1, h2, d, l1, l2, p, q⟩ := a
  have hn := d.left p
  refine ⟨upd (fun _ => none) b g', h2, fun k => ?_, ?_, ?_, upd_same _ _ _, q⟩
  · by_cases e : k = b
    · subst e; exact .inr hn
    · left; rw [upd_ne e]
  · intro k g e
    by_cases e' : k = b
    · subst e'; rw [upd_same] at e ⊢; exact e
    · rw [upd_ne e'] at e; cases e
  · intro k g e
    rw [upd_ne (ne_of_fresh hn e)]; exact l2 _ _ e
theorem All.upd {l : List Part} {i b : Nat} {g g' : GObj} {h : GH} (a : All l h) (e : l[i]? = some (pts b g)) : All (l.set i (pts b g')) (upd h b g') := by
  have hi := (List.getElem?_eq_some_iff.1 e).1
  have t : All (pts b g :: l.eraseIdx i) h := All.take_at e a
  exact All.put_at hi t.upd0
theorem All.upd1 {l : List Part} {P : Part} {b : Nat} {g g' : GObj} {h : GH} (a : All (P :: pts b g :: l) h) : All (P :: pts b g' :: l) (GW.upd h b g') := a.upd (i := 1) rfl
theorem All.upd2 {l : List Part} {P Q : Part} {b : Nat} {g g' : GObj} {h : GH} (a : All (P :: Q :: pts b g :: l) h) : All (P :: Q :: pts b g' :: l) (GW.upd h b g') := a.upd (i := 2) rfl
theorem All.new {l : List Part} {b : Nat} {g : GObj} {h : GH} (a : All l h) (hb : h b = none) : All (pts b g :: l) (GW.upd h b g) := by
  refine ⟨GW.upd (fun _ => none) b g, h, fun k => ?_, ?_, ?_, upd_same _ _ _, a⟩
  · by_cases e : k = b
    · subst e; exact .inr hb
    · left; rw [upd_ne e]
  · intro k g e
    by_cases e' : k = b
    · subst e'; rw [upd_same] at e ⊢; exact e
    · rw [upd_ne e'] at e; cases e
  · intro k g e
    rw [upd_ne (ne_of_fresh hb e)]; exact e
theorem All.ne {l : List Part} {b c : Nat} {g g' : GObj} {h : GH} (a : All (pts b g :: pts c g' :: l) h) : b ≠ c := by
  obtain ⟨h1, h2, d, l1, l2, p, q⟩ := a
  rintro rfl
  have := d.left p
  rw [All.pt0 q] at this; cases this
/-! ### steps -/
section
variable {h : GH} {b off n sz : Nat} {T : TypeId} {pre : List Value} {f : Bool} {v : Value} {P Q R : Part} {l : List Part}
theorem ld0 {K : Value → Prop} (a : All (pts b (.row T pre sz f) :: l) h) (hv : pre[off]? = some v) (k : K v) : bnd (ldV n false (.pointer (some ⟨b, off, none⟩)) h) K := bnd_of (by rw [ldV_cell a.pt0]; exact hv) k
theorem ld1 {K : Value → Prop} (a : All (P :: pts b (.row T pre sz f) :: l) h) (hv : pre[off]? = some v) (k : K v) : bnd (ldV n false (.pointer (some ⟨b, off, none⟩)) h) K := bnd_of (by rw [ldV_cell a.pt1]; exact hv) k
theorem ld2 {K : Value → Prop} (a : All (P :: Q :: pts b (.row T pre sz f) :: l) h) (hv : pre[off]? = some v) (k : K v) : bnd (ldV n false (.pointer (some ⟨b, off, none⟩)) h) K := bnd_of (by rw [ldV_cell a.pt2]; exact hv) k
theorem ld3 {K : Value → Prop} (a : All (P :: Q :: R :: pts b (.row T pre sz f) :: l) h) (hv : pre[off]? = some v) (k : K v) : bnd (ldV n false (.pointer (some ⟨b, off, none⟩)) h) K := bnd_of (by rw [ldV_cell (a.pt (i := 3) rfl)]; exact hv) k
theorem la0 {K : Value → Prop} {c : List Value} (a : All (pts b (.row T pre sz f) :: l) h) (hl : off + n ≤ pre.length) (hc : (pre.drop off).take n = c) (k : K (.agg c.toArray)) : bnd (ldV n true (.pointer (some ⟨b, off, none⟩)) h) K := bnd_of (by rw [ldV_agg a.pt0 _ _ hl, hc]) k
theorem la1 {K : Value → Prop} {c : List Value} (a : All (P :: pts b (.row T pre sz f) :: l) h) (hl : off + n ≤ pre.length) (hc : (pre.drop off).take n = c) (k : K (.agg c.toArray)) : bnd (ldV n true (.pointer (some ⟨b, off, none⟩)) h) K := bnd_of (by rw [ldV_agg a.pt1 _ _ hl, hc]) k
theorem la2 {K : Value → Prop} {c : List Value} (a : All (P :: Q :: pts b (.row T pre sz f) :: l) h) (hl : off + n ≤ pre.length) (hc : (pre.drop off).take n = c) (k : K (.agg c.toArray)) : bnd (ldV n true (.pointer (some ⟨b, off, none⟩)) h) K := bnd_of (by rw [ldV_agg a.pt2 _ _ hl, hc]) k
theorem st0 {K : GH → Prop} (a : All (pts b (.row T pre sz true) :: l) h) (g : GObj) (hn : v.cells.size = n) (hl : off + n ≤ pre.length) (hc : v.cells.toList.all oneCell = true) (hg : .row T (setCells pre off v.cells.toList) sz true = g) (k : ∀ h', All (pts b g :: l) h' → K h') : bnd (stV n (.pointer (some ⟨b, off, none⟩)) v h) K := by
  subst hg; exact bnd_of (stV_row a.pt0 n off v hn hl hc) (k _ a.upd0)
theorem st1 {K : GH → Prop} (a : All (P :: pts b (.row T pre sz true) :: l) h) (g : GObj) (hn : v.cells.size = n) (hl : off + n ≤ pre.length) (hc : v.cells.toList.all oneCell = true) (hg : .row T (setCells pre off v.cells.toList) sz true = g) (k : ∀ h', All (P :: pts b g :: l) h' → K h') : bnd (stV n (.pointer (some ⟨b, off, none⟩)) v h) K := by
  subst hg; exact bnd_of (stV_row a.pt1 n off v hn hl hc) (k _ a.upd1)
theorem st2 {K : GH → Prop} (a : All (P :: Q :: pts b (.row T pre sz true) :: l) h) (g : GObj) (hn : v.cells.size = n) (hl : off + n ≤ pre.length) (hc : v.cells.toList.all oneCell = true) (hg : .row T (setCells pre off v.cells.toList) sz true = g) (k : ∀ h', All (P :: Q :: pts b g :: l) h' → K h') : bnd (stV n (.pointer (some ⟨b, off, none⟩)) v h) K := by
  subst hg; exact bnd_of (stV_row a.pt2 n off v hn hl hc) (k _ a.upd2)
theorem nw {K : Value → GH → Prop} {cells : List Value} (a : All l h) (g : GObj) (hg : .row T cells cells.length true = g) (k : ∀ b h', All (pts b g :: l) h' → K (.pointer (some ⟨b, 0, none⟩)) h') : newV T cells h K := by
  subst hg; exact fun b hb => k b _ (a.new hb)
theorem nwst {K : Value → GH → Prop} {zero : List Value} {x : Value} (a : All l h) (g : GObj) (hn : x.cells.size = n) (hz : zero.length = n) (hone : x.cells.toList.all oneCell = true) (hg : .row T x.cells.toList n true = g) (k : ∀ b h', All (pts b g :: l) h' → K (.pointer (some ⟨b, 0, none⟩)) h') : newV T zero h fun v h1 => bnd (stV n v x h1) fun h2 => K v h2 := by
  subst hg
  refine fun b hb => bnd_of (v := GW.upd h b (.row T x.cells.toList n true)) ?_ (k b _ (a.new hb))
  have hl : x.cells.toList.length = n := hn
  rw [stV_same, if_pos ⟨hn, by omega, hone⟩, setCells_all (by omega), hz]
end
theorem add_id {a b : Int} (h1 : -9223372036854775808 ≤ a + b) (h2 : a + b ≤ 9223372036854775807) : binV .add (.int .i64 a) (.int .i64 b) = some (i64 (a + b)) := by rw [binV_add, wrap_id h1 h2]
theorem sub_id {a b : Int} (h1 : -9223372036854775808 ≤ a - b) (h2 : a - b ≤ 9223372036854775807) : binV .sub (.int .i64 a) (.int .i64 b) = some (i64 (a - b)) := by rw [binV_sub, wrap_id h1 h2]
theorem mul_id {a b : Int} (h1 : -9223372036854775808 ≤ a * b) (h2 : a * b ≤ 9223372036854775807) : binV .mul (.int .i64 a) (.int .i64 b) = some (i64 (a * b)) := by rw [binV_mul, wrap_id h1 h2]
theorem ifV_p {c : Prop} [Decidable c] {A B : Prop} (h : c) (a : A) : ifV (.bool (decide c)) A B := by rw [ifV_dec, if_pos h]; exact a
theorem ifV_n {c : Prop} [Decidable c] {A B : Prop} (h : ¬ c) (b : B) : ifV (.bool (decide c)) A B := by rw [ifV_dec, if_neg h]; exact b
theorem ifV_cases {c : Prop} [Decidable c] {A B : Prop} (a : c → A) (b : ¬ c → B) : ifV (.bool (decide c)) A B := by
  rw [ifV_dec]; split
  · rename_i q; exact a q
  · rename_i q; exact b q
theorem ifN_cases {c : Prop} [Decidable c] {A B : Prop} (a : ¬ c → A) (b : c → B) : ifV (.bool (!decide c)) A B := by
  by_cases q : c
  · rw [decide_eq_true q]; exact b q
  · rw [decide_eq_false q]; exact a q
theorem ifV_bool {c : Bool} {A B : Prop} (a : c = true → A) (b : c = false → B) : ifV (.bool c) A B := by
  cases c
  · exact b rfl
  · exact a rfl
theorem isHl {n : Nat} {g : Bool} {p v : Value} {h : GH} {C : Prop} (k : ldV n g p h = some v ∧ C) : ldV n g p h = some v ∧ C := k
section
variable {h : GH} {b off n sz : Nat} {T : TypeId} {pre : List Value} {f : Bool} {v : Value} {P Q R : Part} {l : List Part} {C : Prop}
theorem hl0 (a : All (pts b (.row T pre sz f) :: l) h) (hv : pre[off]? = some v) (k : C) : ldV n false (.pointer (some ⟨b, off, none⟩)) h = some v ∧ C := ⟨by rw [ldV_cell a.pt0]; exact hv, k⟩
theorem hl1 (a : All (P :: pts b (.row T pre sz f) :: l) h) (hv : pre[off]? = some v) (k : C) : ldV n false (.pointer (some ⟨b, off, none⟩)) h = some v ∧ C := ⟨by rw [ldV_cell a.pt1]; exact hv, k⟩
theorem hl2 (a : All (P :: Q :: pts b (.row T pre sz f) :: l) h) (hv : pre[off]? = some v) (k : C) : ldV n false (.pointer (some ⟨b, off, none⟩)) h = some v ∧ C := ⟨by rw [ldV_cell a.pt2]; exact hv, k⟩
theorem hl3 (a : All (P :: Q :: R :: pts b (.row T pre sz f) :: l) h) (hv : pre[off]? = some v) (k : C) : ldV n false (.pointer (some ⟨b, off, none⟩)) h = some v ∧ C := ⟨by rw [ldV_cell (a.pt (i := 3) rfl)]; exact hv, k⟩
theorem hla0 {c : List Value} (a : All (pts b (.row T pre sz f) :: l) h) (hl : off + n ≤ pre.length) (hc : (pre.drop off).take n = c) (k : C) : ldV n true (.pointer (some ⟨b, off, none⟩)) h = some (.agg c.toArray) ∧ C := ⟨by rw [ldV_agg a.pt0 _ _ hl, hc], k⟩
theorem hla1 {c : List Value} (a : All (P :: pts b (.row T pre sz f) :: l) h) (hl : off + n ≤ pre.length) (hc : (pre.drop off).take n = c) (k : C) : ldV n true (.pointer (some ⟨b, off, none⟩)) h = some (.agg c.toArray) ∧ C := ⟨by rw [ldV_agg a.pt1 _ _ hl, hc], k⟩
end
/-! ### what stands at a goal's head -/
section
variable {h : GH} {K : Value → Prop} {KB : Bool → Prop} {KL : List Value → Prop} {A B : Prop}
theorem isB {α : Type} {o : Option α} {K : α → Prop} (k : bnd o K) : bnd o K := k
theorem isNc {x : Value} (k : bnd (ncV x) K) : bnd (ncV x) K := k
theorem isFa {n : Nat} {x : Value} (k : bnd (faV n x) K) : bnd (faV n x) K := k
theorem isEx {n : Nat} {x : Value} (k : bnd (exV x n) K) : bnd (exV x n) K := k
theorem isFi {c : List Value} {x : List (Nat × Nat × Value)} (k : bnd (fillV c x) KL) : bnd (fillV c x) KL := k
theorem isUn {o : UnOp} {x : Value} (k : bnd (unV o x) K) : bnd (unV o x) K := k
theorem isTa {t : TypeId} {z x : Value} {o : Bool} (k : bnd (taV t z o x) K) : bnd (taV t z o x) K := k
theorem isEk {k' : NK} {o : Bool} {x y : Value} (k : bnd (eqK k' o x y) KB) : bnd (eqK k' o x y) KB := k
theorem isLd {n : Nat} {g : Bool} {p : Value} (k : bnd (ldV n g p h) K) : bnd (ldV n g p h) K := k
theorem isBi {o : BinOp} {x y : Value} (k : bnd (binV o x y) K) : bnd (binV o x y) K := k
theorem isEi {x y : Int} (k : KB (decide (x = y))) : bnd (eqI (i64 x) (i64 y)) KB := bnd_of (eqI_int _ _ _) k
theorem isLt {x y : Int} (k : K (.bool (decide (x < y)))) : bnd (binV .lss (i64 x) (i64 y)) K := bnd_of (binV_lss _ _ _) k
theorem isLe {x y : Int} (k : K (.bool (decide (x ≤ y)))) : bnd (binV .leq (i64 x) (i64 y)) K := bnd_of (binV_leq _ _ _) k
theorem isGt {x y : Int} (k : K (.bool (decide (y < x)))) : bnd (binV .gtr (i64 x) (i64 y)) K := bnd_of (binV_gtr _ _ _) k
theorem isGe {x y : Int} (k : K (.bool (decide (y ≤ x)))) : bnd (binV .geq (i64 x) (i64 y)) K := bnd_of (binV_geq _ _ _) k
theorem isIf {v : Value} (k : ifV v A B) : ifV v A B := k
theorem isIfT (k : A) : ifV (.bool true) A B := k
theorem isIfF (k : B) : ifV (.bool false) A B := k
theorem ex20 {x y : Value} (k : K x) : bnd (exV (.tuple #[x, y]) 0) K := k
theorem ex21 {x y : Value} (k : K y) : bnd (exV (.tuple #[x, y]) 1) K := k
theorem ex30 {x y z : Value} (k : K x) : bnd (exV (.tuple #[x, y, z]) 0) K := k
theorem ex31 {x y z : Value} (k : K y) : bnd (exV (.tuple #[x, y, z]) 1) K := k
theorem ex32 {x y z : Value} (k : K z) : bnd (exV (.tuple #[x, y, z]) 2) K := k
theorem isNot {b : Bool} (k : K (.bool (!b))) : bnd (unV .not (.bool b)) K := k
theorem ifNot {b : Bool} (k : ifV (.bool b) B A) : ifV (.bool (!b)) A B := by cases b <;> exact k
end
/-! ### the same under short names, for the walks -/
section
variable {h : GH} {K : Value → Prop} {KB : Bool → Prop} {A B : Prop} {a b : Int}
theorem wA {x y : Int} (k : KB (decide (x = y))) : bnd (eqI (i64 x) (i64 y)) KB := isEi k
theorem wB {x y : Int} (k : K (.bool (decide (x < y)))) : bnd (binV .lss (i64 x) (i64 y)) K := isLt k
theorem wC {x y : Int} (k : K (.bool (decide (x ≤ y)))) : bnd (binV .leq (i64 x) (i64 y)) K := isLe k
theorem wD {x y : Int} (k : K (.bool (decide (y < x)))) : bnd (binV .gtr (i64 x) (i64 y)) K := isGt k
theorem wE {x y : Int} (k : K (.bool (decide (y ≤ x)))) : bnd (binV .geq (i64 x) (i64 y)) K := isGe k
theorem wF {x y : Value} (k : K x) : bnd (exV (.tuple #[x, y]) 0) K := k
theorem wG {x y : Value} (k : K y) : bnd (exV (.tuple #[x, y]) 1) K := k
theorem wH {x y z : Value} (k : K x) : bnd (exV (.tuple #[x, y, z]) 0) K := k
theorem wI {x y z : Value} (k : K y) : bnd (exV (.tuple #[x, y, z]) 1) K := k
theorem wJ {x y z : Value} (k : K z) : bnd (exV (.tuple #[x, y, z]) 2) K := k
theorem wN {b : Bool} (k : K (.bool (!b))) : bnd (unV .not (.bool b)) K := k
theorem wP (k : K (i64 (a + b))) (h1 : -9223372036854775808 ≤ a + b := by first | omega | (simp only; omega)) (h2 : a + b ≤ 9223372036854775807 := by first | omega | (simp only; omega)) : bnd (binV .add (i64 a) (i64 b)) K := bnd_of (add_id h1 h2) k
theorem wQ (k : K (i64 (a - b))) (h1 : -9223372036854775808 ≤ a - b := by first | omega | (simp only; omega)) (h2 : a - b ≤ 9223372036854775807 := by first | omega | (simp only; omega)) : bnd (binV .sub (i64 a) (i64 b)) K := bnd_of (sub_id h1 h2) k
theorem wR (k : K (i64 (a * b))) (h1 : -9223372036854775808 ≤ a * b := by first | omega | (simp only; omega)) (h2 : a * b ≤ 9223372036854775807 := by first | omega | (simp only; omega)) : bnd (binV .mul (i64 a) (i64 b)) K := bnd_of (mul_id h1 h2) k
theorem wT (k : A) : ifV (.bool true) A B := k
theorem wU (k : B) : ifV (.bool false) A B := k
theorem wV {v : Value} (k : A) (h : v = .bool true := by rfl) : ifV v A B := ifV_t h k
theorem wW {v : Value} (k : B) (h : v = .bool false := by rfl) : ifV v A B := ifV_f h k
theorem wK {α : Type} {o : Option α} {v : α} {K : α → Prop} (h : o = some v) (k : K v) : bnd o K := bnd_of h k
end
/-! ### the same, so that a walk is one line: what stands at the head is found by its form -/
class Wx (A : Prop) (B : outParam Prop) : Prop where
  go : B → A
section
variable {K : Value → Prop} {KB : Bool → Prop} {A B : Prop} {x y : Int} {u v w : Value}
instance : Wx (bnd (eqI (i64 x) (i64 y)) KB) (KB (decide (x = y))) := ⟨wA⟩
instance : Wx (bnd (binV .lss (i64 x) (i64 y)) K) (K (.bool (decide (x < y)))) := ⟨wB⟩
instance : Wx (bnd (binV .leq (i64 x) (i64 y)) K) (K (.bool (decide (x ≤ y)))) := ⟨wC⟩
instance : Wx (bnd (binV .gtr (i64 x) (i64 y)) K) (K (.bool (decide (y < x)))) := ⟨wD⟩
instance : Wx (bnd (binV .geq (i64 x) (i64 y)) K) (K (.bool (decide (y ≤ x)))) := ⟨wE⟩
instance : Wx (bnd (exV (.tuple #[u, v]) 0) K) (K u) := ⟨wF⟩
instance : Wx (bnd (exV (.tuple #[u, v]) 1) K) (K v) := ⟨wG⟩
instance : Wx (bnd (exV (.tuple #[u, v, w]) 0) K) (K u) := ⟨wH⟩
instance : Wx (bnd (exV (.tuple #[u, v, w]) 1) K) (K v) := ⟨wI⟩
instance : Wx (bnd (exV (.tuple #[u, v, w]) 2) K) (K w) := ⟨wJ⟩
instance {b : Bool} : Wx (bnd (unV .not (.bool b)) K) (K (.bool (!b))) := ⟨wN⟩
instance : Wx (ifV (.bool true) A B) A := ⟨wT⟩
instance : Wx (ifV (.bool false) A B) B := ⟨wU⟩
end
theorem wx {A B : Prop} [i : Wx A B] (b : B) : A := i.go b
class Gb (A : Prop) {α : outParam Type} (o : outParam (Option α)) (K : outParam (α → Prop)) : Prop where
  go : bnd o K → A
instance {α : Type} {o : Option α} {K : α → Prop} : Gb (bnd o K) o K := ⟨id⟩
class Gi (A : Prop) (v : outParam Value) (X Y : outParam Prop) : Prop where
  go : ifV v X Y → A
instance {v : Value} {X Y : Prop} : Gi (ifV v X Y) v X Y := ⟨id⟩
class Gh (A : Prop) (n : outParam Nat) (g : outParam Bool) (p : outParam Value) (h : outParam GH) (v : outParam Value) (C : outParam Prop) : Prop where
  go : (ldV n g p h = some v ∧ C) → A
instance {n : Nat} {g : Bool} {p v : Value} {h : GH} {C : Prop} : Gh (ldV n g p h = some v ∧ C) n g p h v C := ⟨id⟩
section
variable {n b off sz : Nat} {T : TypeId} {pre : List Value} {f : Bool} {v : Value} {P Q R : Part} {l : List Part} {h : GH}
theorem wq0_ (a : All (pts b (.row T pre sz f) :: l) h) (hv : pre[off]? = some v) : ldV n false (.pointer (some ⟨b, off, none⟩)) h = some v := by rw [ldV_cell a.pt0]; exact hv
theorem wq1_ (a : All (P :: pts b (.row T pre sz f) :: l) h) (hv : pre[off]? = some v) : ldV n false (.pointer (some ⟨b, off, none⟩)) h = some v := by rw [ldV_cell a.pt1]; exact hv
theorem wq2_ (a : All (P :: Q :: pts b (.row T pre sz f) :: l) h) (hv : pre[off]? = some v) : ldV n false (.pointer (some ⟨b, off, none⟩)) h = some v := by rw [ldV_cell a.pt2]; exact hv
theorem wq3_ (a : All (P :: Q :: R :: pts b (.row T pre sz f) :: l) h) (hv : pre[off]? = some v) : ldV n false (.pointer (some ⟨b, off, none⟩)) h = some v := by rw [ldV_cell (a.pt (i := 3) rfl)]; exact hv
end
theorem wq4_ {a b : Int} (h1 : -9223372036854775808 ≤ a + b := by first | omega | (simp only; omega)) (h2 : a + b ≤ 9223372036854775807 := by first | omega | (simp only; omega)) : binV .add (i64 a) (i64 b) = some (i64 (a + b)) := add_id h1 h2
theorem wq5_ {a b : Int} (h1 : -9223372036854775808 ≤ a - b := by first | omega | (simp only; omega)) (h2 : a - b ≤ 9223372036854775807 := by first | omega | (simp only; omega)) : binV .sub (i64 a) (i64 b) = some (i64 (a - b)) := sub_id h1 h2
theorem wq6_ {a b : Int} (h1 : -9223372036854775808 ≤ a * b := by first | omega | (simp only; omega)) (h2 : a * b ≤ 9223372036854775807 := by first | omega | (simp only; omega)) : binV .mul (i64 a) (i64 b) = some (i64 (a * b)) := mul_id h1 h2
/-- 'hp' is what is known of the memory where this is used -/
theorem wy {A : Prop} {α : Type} {o : Option α} {K : α → Prop} {v : α} [i : Gb A o K] (k : K v) (e : o = some v := by first | exact rfl | exact wq0_ hp rfl | exact wq1_ hp rfl | exact wq2_ hp rfl | exact wq3_ hp rfl | exact wq4_ | exact wq5_ | exact wq6_) : A := i.go (bnd_of e k)
theorem wz {A : Prop} {v : Value} {X Y : Prop} [i : Gi A v X Y] (k : X) (e : v = .bool true := by rfl) : A := i.go (wV k e)
theorem wv {A : Prop} {v : Value} {X Y : Prop} [i : Gi A v X Y] (k : Y) (e : v = .bool false := by rfl) : A := i.go (wW k e)
theorem wh {A : Prop} {n : Nat} {g : Bool} {p v : Value} {h : GH} {C : Prop} [i : Gh A n g p h v C] (k : C) (e : ldV n g p h = some v := by first | exact wq0_ hp rfl | exact wq1_ hp rfl | exact wq2_ hp rfl | exact wq3_ hp rfl) : A := i.go ⟨e, k⟩
/-- a list of parts, worked out -/
theorem hn {l l' : List Part} {h : GH} (a : All l h) (e : l = l' := by first | (dsimp only [selL, upL, dnL, List.take_succ_cons, List.take_zero, List.drop, List.eraseIdx_cons_succ, List.eraseIdx_cons_zero, List.getElem?_cons_zero, List.getElem?_cons_succ, List.set_cons_zero, List.set_cons_succ, List.nil_append, List.cons_append]; first | done | exact rfl) | exact rfl) : All l' h := e ▸ a
end Go.Proofs.Ytbiappodepnbmaa
namespace Go.Proofs.Ytbiappodepnbmaa
open Go GW Go.Proofs
set_option linter.unusedVariables false
set_option linter.unusedSimpArgs false
/-- a row of one's own, whatever is behind it -/
def rowP (size : Nat) (v : Value) (cs : List (List Value)) : Part := fun h =>
  ∃ a cap junk, v = .slice a cs.length cap ∧ cs.length ≤ cap ∧ cs.length ≤ 9223372036854775807 ∧ (∀ c ∈ cs, good size c) ∧
    ((a = none ∧ cs = [] ∧ cap = 0) ∨ ∃ b T, a = some ⟨b, 0, none⟩ ∧ h b = some (.row T (cs.flatten ++ junk) (cap * size) true) ∧ junk.all oneCell = true)
theorem rowP.le {size : Nat} {v : Value} {cs : List (List Value)} {h h' : GH} (l : HLe h h') (o : rowP size v cs h) : rowP size v cs h' := by
  obtain ⟨a, cap, junk, h1, h2, h3, h4, h5⟩ := o
  exact ⟨a, cap, junk, h1, h2, h3, h4, h5.imp id fun ⟨b, T, e, hb, hj⟩ => ⟨b, T, e, l _ _ hb, hj⟩⟩
theorem rowP.of_own {size : Nat} {v : Value} {cs : List (List Value)} {h : GH} (o : own h size v cs) : rowP size v cs h := by
  obtain ⟨a, cap, h1, h2, h3, h4, h5⟩ := o
  exact ⟨a, cap, [], h1, h2, h3, h4, h5.imp id fun ⟨b, T, e, hb⟩ => ⟨b, T, e, by rw [List.append_nil]; exact hb, rfl⟩⟩
theorem rowP_nil (size : Nat) (h : GH) : rowP size (.slice none 0 0) [] h := .of_own (own_nil h size)
theorem rowP.rows {size : Nat} {v : Value} {cs : List (List Value)} {h : GH} (o : rowP size v cs h) : rowsAt h size v cs := by
  obtain ⟨a, cap, junk, rfl, h2, h3, h4, h5⟩ := o
  rcases h5 with ⟨rfl, rfl, rfl⟩ | ⟨b, T, rfl, e, _⟩
  · exact ⟨none, 0, 0, rfl, rfl, Nat.le_refl _, by decide, fun i c hc => by simp at hc⟩
  · exact rowsAt_of e rfl h2 h3 (fun c hc => (h4 c hc).1) (Nat.zero_le _) ⟨junk, by simp⟩
theorem rowP.good {size : Nat} {v : Value} {cs : List (List Value)} {h : GH} (o : rowP size v cs h) : (∀ c ∈ cs, good size c) ∧ lnV v = some (i64 cs.length) ∧ cs.length ≤ 9223372036854775807 := by
  obtain ⟨a, cap, junk, rfl, h2, h3, h4, h5⟩ := o
  exact ⟨h4, rfl, h3⟩
section
variable {h : GH} {size bytes : Nat} {v : Value} {cs : List (List Value)} {P : Part} {l : List Part} {T : TypeId}
theorem All.row (a : All (rowP size v cs :: l) h) : rowP size v cs h := by
  obtain ⟨h1', h2, _, l1, _, p, _⟩ := a
  exact p.le l1
theorem All.rows (a : All (rowP size v cs :: l) h) : rowsAt h size v cs := a.row.rows
theorem All.len (a : All (rowP size v cs :: l) h) : lnV v = some (i64 cs.length) := a.row.good.2.1
/-- append -/
theorem ap0 {x : Value} {new : List (List Value)} {K : Value → GH → Prop} (a : All (rowP size v cs :: l) h) (r : rowsAt h size x new) (hn : ∀ c ∈ new, Go.Proofs.Ytbiappodepnbmaa.good size c)
    (hby : 0 < bytes) (hb : (cs.length + new.length) * bytes ≤ 140737488355328)
    (k : ∀ v' h', All (rowP size v' (cs ++ new) :: l) h' → K v' h') : apV T size bytes v x h K := by
  have o := a.row
  have hcells := r.cells fun c hc => (hn c hc).1
  have hcells2 := o.rows.cells
  obtain ⟨xa, n, xc, rfl, rfl, _, _, _⟩ := r
  obtain ⟨g1, g2⟩ := flatten_good new hn
  have hh := o.good.1
  obtain ⟨g3, g4⟩ := flatten_good cs hh
  have hall : ∀ c ∈ cs ++ new, Go.Proofs.Ytbiappodepnbmaa.good size c := fun c hc => (List.mem_append.1 hc).elim (hh c) (hn c)
  have hlen : cs.length + new.length ≤ 9223372036854775807 := by
    have := Nat.le_mul_of_pos_right (cs.length + new.length) hby
    omega
  have hold := hcells2 fun c hc => (hh c hc).1
  obtain ⟨h1, h2, d, l1, l2, ⟨ad, cap, junk, rfl, c2, c3, c4, c5⟩, q⟩ := a
  simp only [apV, hcells, bnd_some]
  split
  · rename_i hle
    by_cases hz : new.flatten = []
    · simp only [putV, hz, bnd_some]
      refine k _ _ ⟨h1, h2, d, l1, l2, ⟨ad, cap, junk, by simp, by simpa using hle, by simpa using hlen, hall, ?_⟩, q⟩
      rcases c5 with ⟨rfl, rfl, rfl⟩ | ⟨b, T', rfl, e, hj⟩
      · have : new = [] := by cases new with
          | nil => rfl
          | cons c l => simp at hle
        exact .inl ⟨rfl, by simp [this], rfl⟩
      · exact .inr ⟨b, T', rfl, by rw [List.flatten_append, hz, List.append_nil]; exact e, hj⟩
    · rcases c5 with ⟨rfl, rfl, rfl⟩ | ⟨b, T', rfl, e, hj⟩
      · have : new = [] := by cases new with
          | nil => rfl
          | cons c l => simp at hle
        exact absurd (by simp [this]) hz
      · have e0 := l1 _ _ e
        have hput : putV (some ⟨b, 0, none⟩) (cs.length * size) new.flatten h = some (upd h b (.row T' (cs.flatten ++ new.flatten ++ junk.drop new.flatten.length) (cap * size) true)) := by
          have k1 : Nat.ble (0 + cs.length * size) (cs.flatten ++ junk).length = true := Nat.ble_eq_true_of_le (by rw [List.length_append]; omega)
          have k2 : Nat.ble (0 + cs.length * size + new.flatten.length) (cap * size) = true := Nat.ble_eq_true_of_le (by
            rw [g1, Nat.zero_add, ← Nat.add_mul]; exact Nat.mul_le_mul_right _ hle)
          have k3 : putL (cs.flatten ++ junk) (0 + cs.length * size) new.flatten = cs.flatten ++ new.flatten ++ junk.drop new.flatten.length := by
            unfold putL
            rw [Nat.zero_add, ← g3, List.take_left' rfl, ← List.drop_drop, List.drop_left]
          unfold putV
          split
          · rename_i q; exact absurd q hz
          · simp only [e0, k1, k2, g2, Bool.and_self, k3]
        rw [hput]
        simp only [bnd_some]
        have hn2 := d.left e
        refine k _ _ ⟨GW.upd (fun _ => none) b (.row T' (cs.flatten ++ new.flatten ++ junk.drop new.flatten.length) (cap * size) true), h2, fun k => ?_, ?_, ?_, ⟨_, cap, junk.drop new.flatten.length, by simp, by simpa using hle, by simpa using hlen, hall, .inr ⟨b, T', rfl, by rw [List.flatten_append]; exact upd_same _ _ _, ?_⟩⟩, q⟩
        · by_cases e : k = b
          · subst e; exact .inr hn2
          · left; rw [upd_ne e]
        · intro k g e
          by_cases e' : k = b
          · subst e'; rw [upd_same] at e ⊢; exact e
          · rw [upd_ne e'] at e; cases e
        · intro k g e
          rw [upd_ne (ne_of_fresh hn2 e)]; exact l2 _ _ e
        · rw [List.all_eq_true] at hj ⊢
          exact fun x hx => hj x (List.mem_of_mem_drop hx)
  · rename_i hle
    rw [hold]
    simp only [bnd_some]
    refine ⟨hb, hlen, g3, g1, fun b nc hb' hnc => ?_⟩
    have t : All (pts b (.row T (cs.flatten ++ new.flatten) (nc * size) true) :: l) (upd h b (.row T (cs.flatten ++ new.flatten) (nc * size) true)) := All.new (All.le l2 q) hb'
    refine k _ _ (t.head fun h1 p => ⟨_, nc, [], by simp, by simpa using hnc, by simpa using hlen, hall, .inr ⟨b, T, rfl, ?_, rfl⟩⟩)
    rw [List.flatten_append, List.append_nil]; exact p
/-- a slice written out -/
theorem bs0 {len : Nat} {cells : List Value} {ps : List (Nat × Nat × Value)} {K : Value → GH → Prop} (a : All l h) (new : List (List Value)) (hf : fillV cells ps = some new.flatten) (hl : len = new.length) (hm : new.length ≤ 9223372036854775807) (hn : ∀ c ∈ new, Go.Proofs.Ytbiappodepnbmaa.good size c)
    (k : ∀ v h', All (rowP size v new :: l) h' → K v h') : bsV T len cells ps h K := by
  subst hl
  unfold bsV
  refine bnd_of hf ?_
  intro b hb0
  exact k _ _ ((a.new hb0).head fun h1 p => .of_own (own_of p rfl rfl (flatten_good new hn).1 (Nat.le_refl _) hm hn))
theorem mk0 {n : Nat} {zero : List Value} {k1 k2 : IntKind} {K : Value → GH → Prop} (a : All l h) (hz : Go.Proofs.Ytbiappodepnbmaa.good size zero) (hm : n ≤ 9223372036854775807) (hb : bytes * n ≤ 140737488355328)
    (k : ∀ v h', All (rowP size v (List.replicate n zero) :: l) h' → K v h') : mkV T bytes zero (.int k1 n) (.int k2 n) h K := by
  unfold mkV
  refine ⟨by omega, by omega, by omega, by omega, fun b hb0 => ?_⟩
  have hg : ∀ c ∈ List.replicate n zero, Go.Proofs.Ytbiappodepnbmaa.good size c := fun c hc => by rw [(List.mem_replicate.1 hc).2]; exact hz
  have hfl := (flatten_good _ hg).1
  rw [List.length_replicate] at hfl
  refine k _ _ ((a.new hb0).head fun h1 p => .of_own (own_of p (zerosV_flatten _ _) (by simp) ?_ (Nat.le_refl _) (by simpa using hm) hg))
  rw [zerosV_flatten]; simp only [Int.toNat_natCast]; exact hfl
/-- an element: where it is, what is there -/
theorem All.elt (a : All (rowP size v cs :: l) h) {i : Nat} {c : List Value} (hc : cs[i]? = some c) (k : IntKind) :
    ∃ b, isV size v (.int k i) = some (.pointer (some ⟨b, i * size, none⟩)) ∧ (∀ (j n : Nat) x, c[j]? = some x → ldV n false (.pointer (some ⟨b, i * size + j, none⟩)) h = some x) ∧
      ldV size true (.pointer (some ⟨b, i * size, none⟩)) h = some (.agg c.toArray) ∧
      (∀ (j n : Nat) (y : Value), y.cells.size = n → j + n ≤ size → y.cells.toList.all oneCell = true → ∃ h', stV n (.pointer (some ⟨b, i * size + j, none⟩)) y h = some h' ∧ All (rowP size v (cs.set i (setCells c j y.cells.toList)) :: l) h') := by
  obtain ⟨h1, h2, d, l1, l2, ⟨ad, cap, junk, rfl, c2, c3, c4, c5⟩, q⟩ := a
  have hi := (List.getElem?_eq_some_iff.1 hc).1
  rcases c5 with ⟨rfl, he, _⟩ | ⟨b, T, rfl, e, hj⟩
  · subst he; simp at hi
  have e0 := l1 _ _ e
  have hcl := (c4 c (List.mem_of_getElem? hc)).1
  obtain ⟨hg, hle⟩ := flatten_get size cs (fun c hc => (c4 c hc).1) junk i c hc
  refine ⟨b, ?_, fun j n x hj' => ?_, ?_, fun j n y hn hj' hone => ?_⟩
  · simp only [isV]; rw [if_pos ⟨by omega, by omega⟩]; simp
  · rw [ldV_cell e0]
    rw [← hg, List.getElem?_take] at hj'
    split at hj'
    · rw [List.getElem?_drop] at hj'; exact hj'
    · cases hj'
  · rw [ldV_agg e0 _ _ (by rw [List.length_append]; omega), hg]
  · have hlen : y.cells.toList.length = n := by rw [← hn]; rfl
    refine ⟨_, stV_row e0 n (i * size + j) y hn (by rw [List.length_append]; omega) hone, ?_⟩
    have hn2 := d.left e
    have es : setCells (cs.flatten ++ junk) (i * size + j) y.cells.toList = (cs.set i (setCells c j y.cells.toList)).flatten ++ junk := by
      rw [setCells_left _ _ _ _ (by omega), setCells_flatten y.cells.toList cs i j c (fun c hc => (c4 c hc).1) hc (by omega)]
    rw [es]
    have t : All (pts b (.row T ((cs.set i (setCells c j y.cells.toList)).flatten ++ junk) (cap * size) true) :: l) (GW.upd h b (.row T ((cs.set i (setCells c j y.cells.toList)).flatten ++ junk) (cap * size) true)) := by
      have : All (pts b (.row T (cs.flatten ++ junk) (cap * size) true) :: l) h := ⟨h1, h2, d, l1, l2, e, q⟩
      exact this.upd0
    refine t.head fun h1 p => ⟨_, cap, junk, by simp, by simpa using c2, by simpa using c3, fun d hd => ?_, .inr ⟨b, T, rfl, p, hj⟩⟩
    rcases List.mem_or_eq_of_mem_set hd with q | q
    · exact c4 d q
    · subst q
      exact ⟨by rw [length_setCells]; exact hcl, setCells_ones _ _ _ (c4 c (List.mem_of_getElem? hc)).2 hone⟩
/-- the first ones -/
theorem All.cut (a : All (rowP size v cs :: l) h) {n : Nat} (hn : n ≤ cs.length) (k : IntKind) : ∃ v', slV size v none (some (.int k n)) = some v' ∧ All (rowP size v' (cs.take n) :: l) h := by
  obtain ⟨h1, h2, d, l1, l2, ⟨ad, cap, junk, rfl, c2, c3, c4, c5⟩, q⟩ := a
  have e2 : (cs.take n).length = n := by rw [List.length_take]; omega
  refine ⟨.slice ad n cap, slV_len (by omega) k, h1, h2, d, l1, l2, ⟨ad, cap, (cs.drop n).flatten ++ junk, by rw [e2], by omega, by omega, fun c hc => c4 c (List.mem_of_mem_take hc), ?_⟩, q⟩
  rcases c5 with ⟨rfl, he, he2⟩ | ⟨b, T, rfl, e, hj⟩
  · exact .inl ⟨rfl, by rw [he]; simp, he2⟩
  · refine .inr ⟨b, T, rfl, ?_, ?_⟩
    · rw [← List.append_assoc, ← List.flatten_append, List.take_append_drop]; exact e
    · rw [List.all_append, hj, Bool.and_true]
      exact (flatten_good _ fun c hc => c4 c (List.mem_of_mem_drop hc)).2
end
end Go.Proofs.Ytbiappodepnbmaa
namespace Go.Proofs.Ytbiappodepnbmaa
open Go GW
set_option linter.unusedVariables false
set_option linter.unusedSimpArgs false
theorem mapM_some {α β : Type} {f : α → Option β} : ∀ (l : List α) (ys : List β), l.mapM f = some ys → ys.length = l.length ∧ ∀ (i : Nat) (x : α), l[i]? = some x → ∃ y, f x = some y ∧ ys[i]? = some y := by
  intro l
  induction l with
  | nil => intro ys h; simp at h; subst h; simp
  | cons a l ih =>
    intro ys h
    rw [List.mapM_cons] at h
    cases hf : f a with
    | none => simp [hf] at h
    | some y =>
      cases hl : l.mapM f with
      | none => simp [hf, hl] at h
      | some zs =>
        simp [hf, hl] at h
        subst h
        obtain ⟨h1, h2⟩ := ih zs hl
        refine ⟨by simp [h1], fun i x hi => ?_⟩
        cases i with
        | zero => simp at hi; subst hi; exact ⟨y, hf, by simp⟩
        | succ i => simpa using h2 i x (by simpa using hi)

theorem cell_full {w : World} {a : Addr} {v : Value} (h : w.cell? a = some v) : a.spot = none ∧ ∃ T pre sz, full w a.block = some (.row T pre sz false) ∧ pre[a.off]? = some v := by
  unfold World.cell? at h
  split at h
  · rename_i c T fr hc
    split at h
    · cases h
    · rename_i hs
      refine ⟨by simpa using hs, T, c.toList, c.size, by simp [full, hc], by simpa using h⟩
  · cases h

theorem addr_add_spot {a : Addr} (n : Nat) (h : a.spot = none) : a.add n = ⟨a.block, a.off + n, none⟩ := by
  cases a; simp only at h; subst h; exact Addr.add_plain _ _ _

theorem weightsAll_of {H : Type} {P : Program} {e : TypeId} {q : Nat → Bool} : ∀ {ds : List (DataW H)}, (DataW.weightsAll P e ds).all q = true → ∀ {d : DataW H}, d ∈ ds → (d.weights P e).all q = true := by
  intro ds
  induction ds with
  | nil => intro _ d hd; cases hd
  | cons x ds ih =>
    intro h d hd
    simp only [DataW.weightsAll, List.all_append, Bool.and_eq_true] at h
    rcases List.mem_cons.1 hd with rfl | q
    · exact h.1
    · exact ih h.2 q

/-- a slice's elements are what its row holds -/
theorem open_rowsW {α H : Type} {enc : TypeId × Value → H} {P : Program} {W : World} {t e : TypeId} {size : Nat} (encα : α → List Value) (hd : P.underlying t = some (.slice e)) (hs : P.cellsOf e = size) (hpos : 0 < size) (hpos2 : ∀ x, (encα x).length = size)
    (hel : ∀ fuel cs d ps, DataW.trod enc P W 0 (fun _ => true) true fuel e cs = some (d, ps) → (d.weights P e).all (· ≤ reachBytes) = true → ∃ x, cs = encα x) {fuel : Nat} {cs : List Value} {d : DataW H} {ps : List MemPlace}
    (h : DataW.trod enc P W 0 (fun _ => true) true fuel t cs = some (d, ps)) (hw : (d.weights P t).all (· ≤ reachBytes) = true) :
    ∃ (v : Value) (xs : List α), cs = [v] ∧ rowsAt (full W) size v (xs.map encα) ∧ xs.length * P.bytesOf e ≤ reachBytes := by
  cases fuel with
  | zero => simp [DataW.trod] at h
  | succ fuel =>
    simp only [DataW.trod, hd] at h
    split at h <;> first
      | (rename_i q; cases q; done)
      | (rename_i q _; cases q; done)
      | cases h
      | skip
    · refine ⟨_, [], rfl, ⟨none, 0, 0, rfl, rfl, Nat.le_refl _, by omega, fun i c hc => by simp at hc⟩, by simp⟩
    · rename_i e' a n cap he
      cases he
      split at h
      · rename_i hc
        obtain ⟨_, hle, hmax⟩ := hc
        obtain ⟨elems, hel1, h⟩ := Option.bind_eq_some_iff.1 h
        obtain ⟨rest, hrest, h⟩ := Option.map_eq_some_iff.1 h
        simp only [Prod.mk.injEq] at h
        obtain ⟨rfl, rfl⟩ := h
        obtain ⟨hlen, hget⟩ := mapM_some _ _ hel1
        simp only [List.length_range] at hlen
        have hw2 := hw
        simp only [DataW.weights, hd, List.all_cons, List.all_append, Bool.and_eq_true] at hw2
        have each : ∀ i, i < n → ∃ x : α, W.cells? 0 (a.add (i * P.cellsOf e)) (P.cellsOf e) = some (encα x) := by
          intro i hi
          obtain ⟨y, hy, hyi⟩ := hget i i (by simp [hi])
          obtain ⟨cs, h1, h2⟩ := Option.bind_eq_some_iff.1 hy
          obtain ⟨x, hx⟩ := hel _ _ _ _ h2 (weightsAll_of hw2.2.1 (List.mem_map.2 ⟨y, List.mem_of_getElem? hyi, rfl⟩))
          exact ⟨x, by rw [h1, hx]⟩
        have hxs : ∀ m, m ≤ n → ∃ xs : List α, xs.length = m ∧ ∀ (i : Nat) x, xs[i]? = some x → W.cells? 0 (a.add (i * P.cellsOf e)) (P.cellsOf e) = some (encα x) := by
          intro m
          induction m with
          | zero => intro _; exact ⟨[], rfl, fun i x hx => by simp at hx⟩
          | succ m ih =>
            intro hm
            obtain ⟨xs, h1, h2⟩ := ih (by omega)
            obtain ⟨x, h3⟩ := each m (by omega)
            refine ⟨xs ++ [x], by simp [h1], fun i y hy => ?_⟩
            rcases Nat.lt_or_ge i m with q | q
            · rw [List.getElem?_append_left (by omega)] at hy; exact h2 i y hy
            · rw [List.getElem?_append_right (by omega)] at hy
              have : i = m := by
                have := (List.getElem?_eq_some_iff.1 hy).1
                simp at this; omega
              subst this
              simp [h1] at hy
              subst hy; exact h3
        obtain ⟨xs, hxl, hx⟩ := hxs n (Nat.le_refl _)
        refine ⟨_, xs, rfl, ⟨some a, n, cap, rfl, by simp [hxl], hle, by unfold maxLen at hmax; omega, fun i c hc => ?_⟩, ?_⟩
        · rw [List.getElem?_map] at hc
          obtain ⟨x, hxi, rfl⟩ := Option.map_eq_some_iff.1 hc
          have hcells := hx i x hxi
          unfold World.cells? at hcells
          rw [if_pos (Nat.zero_le _), hs] at hcells
          obtain ⟨hl, hg⟩ := mapM_some _ _ hcells
          have cell : ∀ j, j < size → ∃ y, W.cell? ((a.add (i * size)).add j) = some y ∧ (encα x)[j]? = some y := by
            intro j hj
            obtain ⟨y, h1, h2⟩ := hg j j (by simp [hj])
            exact ⟨y, h1, h2⟩
          have hspot : a.spot = none := by
            have h0 : 0 < xs.length := by have := (List.getElem?_eq_some_iff.1 hxi).1; omega
            have hx0 := hx 0 xs[0] (List.getElem?_eq_getElem h0)
            unfold World.cells? at hx0
            rw [if_pos (Nat.zero_le _), hs] at hx0
            obtain ⟨y, h1, _⟩ := (mapM_some _ _ hx0).2 0 0 (by simp [hpos])
            have := (cell_full h1).1
            simpa [Addr.add] using this
          obtain ⟨y0, hy0, _⟩ := cell 0 hpos
          have e1 : ∀ j, (a.add (i * size)).add j = ⟨a.block, a.off + i * size + j, none⟩ := by
            intro j; rw [addr_add_spot _ hspot, Addr.add_plain]
          rw [e1] at hy0
          obtain ⟨_, T, pre, sz, hf, _⟩ := cell_full hy0
          have hpre : ∀ j, j < size → pre[a.off + i * size + j]? = (encα x)[j]? := by
            intro j hj
            obtain ⟨y, h1, h2⟩ := cell j hj
            rw [e1] at h1
            obtain ⟨_, T', pre', sz', hf', hp'⟩ := cell_full h1
            simp only at hf hf'
            rw [hf] at hf'
            cases hf'
            rw [hp', h2]
          have hlast : a.off + i * size + size ≤ pre.length := by
            have := hpre (size - 1) (by omega)
            have hlt : size - 1 < (encα x).length := by rw [hpos2]; omega
            rw [List.getElem?_eq_getElem hlt] at this
            have := (List.getElem?_eq_some_iff.1 this).1
            omega
          refine ⟨a.block, a.off, T, pre, sz, false, ?_, hf, hlast, ?_⟩
          · cases a; simp only at hspot; subst hspot; rfl
          · apply List.ext_getElem?
            intro j
            by_cases hj : j < size
            · rw [List.getElem?_take_of_lt hj, List.getElem?_drop, hpre j hj]
            · rw [List.getElem?_eq_none (by simp; omega), List.getElem?_eq_none (by rw [hpos2]; omega)]
        · simp only [DataW.weights, hd, List.all_cons, Bool.and_eq_true, decide_eq_true_eq] at hw
          have h1 := hw.1
          simp only [List.length_map, hlen] at h1
          rw [hxl]
          exact Nat.le_trans (Nat.mul_le_mul_right _ (by omega)) h1
      · cases h

/-- the same where the elements' own weights are of no matter -/
theorem open_rows {α H : Type} {enc : TypeId × Value → H} {P : Program} {W : World} {t e : TypeId} {size : Nat} (encα : α → List Value) (hd : P.underlying t = some (.slice e)) (hs : P.cellsOf e = size) (hpos : 0 < size) (hpos2 : ∀ x, (encα x).length = size)
    (hel : ∀ fuel cs d ps, DataW.trod enc P W 0 (fun _ => true) true fuel e cs = some (d, ps) → ∃ x, cs = encα x) {fuel : Nat} {cs : List Value} {d : DataW H} {ps : List MemPlace}
    (h : DataW.trod enc P W 0 (fun _ => true) true fuel t cs = some (d, ps)) (hw : (d.weights P t).all (· ≤ reachBytes) = true) :
    ∃ (v : Value) (xs : List α), cs = [v] ∧ rowsAt (full W) size v (xs.map encα) ∧ xs.length * P.bytesOf e ≤ reachBytes :=
  open_rowsW encα hd hs hpos hpos2 (fun fuel cs d ps h _ => hel fuel cs d ps h) h hw

/-- a slice whose elements are so -/
theorem open_rowsQ {H : Type} {enc : TypeId × Value → H} {P : Program} {W : World} {t e : TypeId} {size : Nat} (Q : List Value → Prop) (hd : P.underlying t = some (.slice e)) (hs : P.cellsOf e = size) (hpos : 0 < size) (hpos2 : ∀ c, Q c → c.length = size)
    (hel : ∀ fuel cs d ps, DataW.trod enc P W 0 (fun _ => true) true fuel e cs = some (d, ps) → (d.weights P e).all (· ≤ reachBytes) = true → Q cs) {fuel : Nat} {cs : List Value} {d : DataW H} {ps : List MemPlace}
    (h : DataW.trod enc P W 0 (fun _ => true) true fuel t cs = some (d, ps)) (hw : (d.weights P t).all (· ≤ reachBytes) = true) :
    ∃ (v : Value) (es : List (List Value)), cs = [v] ∧ rowsAt (full W) size v es ∧ (∀ c ∈ es, Q c) ∧ es.length * P.bytesOf e ≤ reachBytes := by
  obtain ⟨v, xs, h1, h2, h3⟩ := open_rowsW (α := { c : List Value // Q c }) Subtype.val hd hs hpos (fun x => hpos2 _ x.2) (fun fuel cs d ps h w => ⟨⟨cs, hel fuel cs d ps h w⟩, rfl⟩) h hw
  refine ⟨v, xs.map Subtype.val, h1, h2, fun c hc => ?_, by rw [List.length_map]; exact h3⟩
  obtain ⟨x, _, rfl⟩ := List.mem_map.1 hc
  exact x.2

theorem weightsEach_of {H : Type} {P : Program} {q : Nat → Bool} : ∀ {ts : List TypeId} {ds : List (DataW H)}, (DataW.weightsEach P ts ds).all q = true → ∀ (i : Nat) t d, ts[i]? = some t → ds[i]? = some d → (d.weights P t).all q = true := by
  intro ts
  induction ts with
  | nil => intro ds h i t d ht; simp at ht
  | cons t ts ih =>
    intro ds h i t' d' ht hd
    cases ds with
    | nil => simp at hd
    | cons d ds =>
      simp only [DataW.weightsEach, List.all_append, Bool.and_eq_true] at h
      cases i with
      | zero => simp at ht hd; subst ht; subst hd; exact h.1
      | succ i => exact ih h.2 i t' d' (by simpa using ht) (by simpa using hd)

/-- a struct, field by field -/
theorem open_struct {H : Type} {enc : TypeId × Value → H} {P : Program} {W : World} {t : TypeId} {fs : Array Field} (hd : P.underlying t = some (.struct fs)) {fuel : Nat} {cs : List Value} {d : DataW H} {ps : List MemPlace}
    (h : DataW.trod enc P W 0 (fun _ => true) true fuel t cs = some (d, ps)) (hw : (d.weights P t).all (· ≤ reachBytes) = true) :
    cs.length = P.cellsOf t ∧ ∀ (i ty off n : Nat), (fs[i]?).map (fun f => (f.type, f.offset)) = some (ty, off) → P.cellsOf ty = n → ∃ fuel' d' ps', DataW.trod enc P W 0 (fun _ => true) true fuel' ty ((cs.drop off).take n) = some (d', ps') ∧ (d'.weights P ty).all (· ≤ reachBytes) = true := by
  cases fuel with
  | zero => simp [DataW.trod] at h
  | succ fuel =>
    simp only [DataW.trod, hd] at h
    split at h
    · rename_i hlen
      obtain ⟨xs, hm, he⟩ := Option.map_eq_some_iff.1 h
      simp only [Prod.mk.injEq] at he
      obtain ⟨rfl, rfl⟩ := he
      obtain ⟨hl, hg⟩ := mapM_some _ _ hm
      refine ⟨hlen, fun i ty off n hf hn => ?_⟩
      obtain ⟨f, hf2, he⟩ := Option.map_eq_some_iff.1 hf
      cases he
      subst hn
      have hf' : fs.toList[i]? = some f := by simpa using hf2
      obtain ⟨y, hy, hyi⟩ := hg i f hf'
      refine ⟨fuel, y.1, y.2, hy, ?_⟩
      simp only [DataW.weights, hd] at hw
      exact weightsEach_of hw i f.type y.1 (by rw [List.getElem?_map, hf']; rfl) (by rw [List.getElem?_map, hyi]; rfl)
    · cases h

theorem open_bool_cs {H : Type} {enc : TypeId × Value → H} {P : Program} {W : World} {t : TypeId} (hd : P.underlying t = some .bool) {fuel : Nat} {cs : List Value} {d : DataW H} {ps : List MemPlace}
    (h : DataW.trod enc P W 0 (fun _ => true) true fuel t cs = some (d, ps)) : ∃ x : Bool, cs = [.bool x] := by
  cases fuel with
  | zero => simp [DataW.trod] at h
  | succ fuel =>
    simp only [DataW.trod, hd] at h
    split at h <;> first
      | (rename_i q; cases q; done)
      | (rename_i q _; cases q; done)
      | cases h
      | skip
    exact ⟨_, rfl⟩

/-- a struct of whole numbers -/
theorem open_ints_struct {H : Type} {enc : TypeId × Value → H} {P : Program} {W : World} {t : TypeId} {fs : Array Field} (hd : P.underlying t = some (.struct fs)) (hc : P.cellsOf t = fs.size)
    (hf : ∀ (i : Nat) f, fs[i]? = some f → f.offset = i ∧ P.underlying f.type = some (.int .i64) ∧ P.cellsOf f.type = 1) {fuel : Nat} {cs : List Value} {d : DataW H} {ps : List MemPlace}
    (h : DataW.trod enc P W 0 (fun _ => true) true fuel t cs = some (d, ps)) : ∃ xs : List Int, xs.length = fs.size ∧ cs = xs.map i64 ∧ ∀ x ∈ xs, (Lit.int .i64 x).wf = true := by
  cases fuel with
  | zero => simp [DataW.trod] at h
  | succ fuel =>
    simp only [DataW.trod, hd] at h
    split at h
    · rename_i hlen
      obtain ⟨xs, hm, _⟩ := Option.map_eq_some_iff.1 h
      obtain ⟨hl, hg⟩ := mapM_some _ _ hm
      have each : ∀ i, i < fs.size → ∃ n : Int, cs[i]? = some (i64 n) ∧ (Lit.int .i64 n).wf = true := by
        intro i hi
        have hfi : fs[i]? = some fs[i] := Array.getElem?_eq_getElem hi
        obtain ⟨ho, hu, hcc⟩ := hf i _ hfi
        obtain ⟨y, hy, _⟩ := hg i fs[i] (by simp [hfi])
        rw [ho, hcc] at hy
        cases fuel with
        | zero => simp [DataW.trod] at hy
        | succ fuel =>
          have hlt : i < cs.length := by rw [hlen, hc]; exact hi
          have htk : (cs.drop i).take 1 = [cs[i]] := by
            rw [List.drop_eq_getElem_cons hlt]; rfl
          rw [htk] at hy
          simp only [DataW.trod, hu] at hy
          split at hy <;> first
            | (rename_i q; cases q; done)
            | (rename_i q _; cases q; done)
            | cases hy
            | skip
          rename_i k k' n hk hcs
          cases hk
          split at hy
          · rename_i hwf
            obtain ⟨rfl, hwf⟩ := hwf
            refine ⟨n, ?_, hwf⟩
            rw [List.getElem?_eq_getElem hlt]
            simpa using hcs
          · cases hy
      have build : ∀ m, m ≤ fs.size → ∃ ys : List Int, ys.length = m ∧ cs.take m = ys.map i64 ∧ ∀ x ∈ ys, (Lit.int .i64 x).wf = true := by
        intro m
        induction m with
        | zero => intro _; exact ⟨[], rfl, rfl, fun x hx => by simp at hx⟩
        | succ m ih =>
          intro hm
          obtain ⟨ys, h1, h2, h3⟩ := ih (by omega)
          obtain ⟨n, h4, h5⟩ := each m (by omega)
          refine ⟨ys ++ [n], by simp [h1], by rw [List.take_add_one, h4, h2]; simp, fun x hx => ?_⟩
          rcases List.mem_append.1 hx with q | q
          · exact h3 x q
          · simp at q; subst q; exact h5
      obtain ⟨ys, h1, h2, h3⟩ := build fs.size (Nat.le_refl _)
      exact ⟨ys, h1, by rw [← h2, List.take_of_length_le (by omega)], h3⟩
    · cases h

theorem open_int_cs {H : Type} {enc : TypeId × Value → H} {P : Program} {W : World} {t : TypeId} (hd : P.underlying t = some (.int .i64)) {fuel : Nat} {cs : List Value} {d : DataW H} {ps : List MemPlace}
    (h : DataW.trod enc P W 0 (fun _ => true) true fuel t cs = some (d, ps)) : ∃ x : Int, cs = [i64 x] ∧ (Lit.int .i64 x).wf = true := by
  cases fuel with
  | zero => simp [DataW.trod] at h
  | succ fuel =>
    simp only [DataW.trod, hd] at h
    split at h <;> first
      | (rename_i q; cases q; done)
      | (rename_i q _; cases q; done)
      | cases h
      | skip
    rename_i k k' n hk
    cases hk
    split at h
    · rename_i hwf
      obtain ⟨rfl, hwf⟩ := hwf
      exact ⟨n, rfl, hwf⟩
    · cases h

/-- an argument that is a slice is one cell -/
theorem slice_cell {P : Program} {W : World} {r : Reach} {b0 : Nat} {t e : TypeId} {v : Value} (hd : P.underlying t = some (.slice e)) (hval : Value.okWide P W r b0 t v) : v.cells.toList = [v] := by
  unfold Value.okWide at hval
  simp only [hd] at hval
  unfold Cell.okWide at hval
  simp only [hd] at hval
  unfold Cell.ok at hval
  cases v <;> simp only [hd] at hval <;> first | rfl | exact hval.elim

end Go.Proofs.Ytbiappodepnbmaa
