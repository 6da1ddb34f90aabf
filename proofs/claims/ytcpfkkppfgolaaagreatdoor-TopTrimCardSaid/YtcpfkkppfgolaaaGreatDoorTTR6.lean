/- Several texts in one; nothing here is a statement on the program. -/
import Derived.Test.YtcpfkkppfgolaaaGreatDoorTTR2
import Derived.Test.YtcpfkkppfgolaaaGreatDoorTTR3
import Derived.Test.YtcpfkkppfgolaaaGreatDoorTTR4
import Derived.Test.YtcpfkkppfgolaaaGreatDoorTTR5
set_option linter.unusedVariables false
set_option linter.unusedSimpArgs false
namespace Go.Proofs.YtcpfkkppfgolaaaGreatDoor.GW
open Go
def HLe (h h' : GH) : Prop := ∀ b g, h b = some g → h' b = some g
theorem HLe.refl (h : GH) : HLe h h := fun _ _ e => e
theorem HLe.trans {a b c : GH} (x : HLe a b) (y : HLe b c) : HLe a c := fun k g e => y k g (x k g e)
theorem HLe.upd {h h' : GH} (l : HLe h h') (b : Nat) (g : GObj) : HLe (upd h b g) (GW.upd h' b g) := by
  intro k g' e
  by_cases hk : k = b
  · subst hk; simpa using e
  · rw [upd_ne hk] at e ⊢; exact l k g' e
theorem HLe.new {h h' : GH} (l : HLe h h') {b : Nat} (g : GObj) (hb : h b = none) : HLe h (GW.upd h' b g) := by
  intro k g' e
  rw [upd_ne (ne_of_fresh hb e)]; exact l k g' e
theorem HLe.none {h h' : GH} (l : HLe h h') {b : Nat} (hb : h' b = none) : h b = none := by
  cases e : h b with
  | none => rfl
  | some g => rw [l b g e] at hb; cases hb
theorem Sub.le {h h' : GH} {w : World} (s : Sub h' w) (l : HLe h h') : Sub h w := fun b g e => s b g (l b g e)
theorem Step.le {h0 h h' : GH} {w0 w : World} (s : Step h0 w0 h' w) (l : HLe h h') : Step h0 w0 h w :=
  ⟨s.os, s.tape, s.output, s.size, s.old, fun b g e hb => s.dom b g (l b g e) hb⟩
theorem T.drop {P : Program} {f : FuncId} {args : List Value} {h : GH} {K : Value → GH → Prop} (t : T P f args h fun v h' => ∃ h0, HLe h0 h' ∧ K v h0) : T P f args h K :=
  ⟨t.has, fun w s => (t.calls w s).mono fun e w' ⟨v, h', he, hs, hst, h0, hl, hk⟩ => ⟨v, h0, he, hs.le hl, hst.le hl, hk⟩⟩
def full (w : World) : GH := fun b => match w.heap[b]? with | some (.cells c T _) => some (.row T c.toList c.size false) | _ => none
theorem sub_full (w : World) : Sub (full w) w := by
  intro b g e
  unfold full at e
  split at e
  · rename_i c T fr ho
    cases e
    exact ⟨_, ho, rfl, rfl, List.prefix_refl _, fun h => by cases h⟩
  · cases e
theorem full_free {w : World} {b : Nat} {g : GObj} (e : full w b = some g) : g.free = false := by
  unfold full at e
  split at e
  · cases e; rfl
  · cases e
open Go.RowKit in
theorem law_calls {P : Program} {f : FuncId} {args : List Value} {w : World} (t : T P f args (full w) fun v _ => v = .bool true) :
    Calls P f args.toArray w fun e w' => e = .returned (.bool true) ∧ Below w.heap.size w w' :=
  (t.calls w (sub_full w)).mono fun e w' ⟨v, h', he, hs, hst, hk⟩ => ⟨by rw [he, hk], ⟨hst.os, hst.tape, hst.output, hst.size, fun k hk => hst.old k hk fun g hg => full_free hg⟩⟩
theorem Lfp_fam {ι : Type} {F : (Nat → Value) → GH → ((Nat → Value) → GH → Prop) → Prop} (st : ι → List Value) (I : ι → GH → Prop) (μ : ι → Nat)
    (step : ∀ i h X, I i h → (∀ i' h', I i' h' → μ i' < μ i → X (tup (st i')) h') → F (tup (st i)) h X) (i : ι) (h : GH) (hi : I i h) : Lfp F (tup (st i)) h := by
  intro X hX
  have key : ∀ n i h, μ i = n → I i h → X (tup (st i)) h := by
    intro n
    induction n using Nat.strongRecOn with
    | _ n ih =>
      intro i h hn hI
      exact hX _ _ (step i h X hI fun i' h' hI' hlt => ih (μ i') (by omega) i' h' rfl hI')
  exact key _ i h rfl hi
@[simp] theorem tup_zero (v : Value) (l : List Value) : tup (v :: l) 0 = v := rfl
@[simp] theorem tup_succ (v : Value) (l : List Value) (n : Nat) : tup (v :: l) (n + 1) = tup l n := rfl
abbrev i64 (n : Int) : Value := .int .i64 n
theorem wrap_id {n : Int} (h1 : -9223372036854775808 ≤ n) (h2 : n ≤ 9223372036854775807) : IntKind.i64.wrap n = n := by
  unfold IntKind.wrap; simp [IntKind.bits, IntKind.signed]; omega
section
variable (k : IntKind) (a b : Int)
@[simp] theorem binV_add : binV .add (.int k a) (.int k b) = some (.int k (k.wrap (a + b))) := by simp [binV, intB]
@[simp] theorem binV_sub : binV .sub (.int k a) (.int k b) = some (.int k (k.wrap (a - b))) := by simp [binV, intB]
@[simp] theorem binV_mul : binV .mul (.int k a) (.int k b) = some (.int k (k.wrap (a * b))) := by simp [binV, intB]
@[simp] theorem binV_quo : binV .quo (.int k a) (.int k b) = if b = 0 then none else some (.int k (k.wrap (a.tdiv b))) := by simp [binV, intB]
@[simp] theorem binV_rem : binV .rem (.int k a) (.int k b) = if b = 0 then none else some (.int k (a.tmod b)) := by simp [binV, intB]
@[simp] theorem binV_lss : binV .lss (.int k a) (.int k b) = some (.bool (decide (a < b))) := by simp [binV, intB]
@[simp] theorem binV_leq : binV .leq (.int k a) (.int k b) = some (.bool (decide (a ≤ b))) := by simp [binV, intB]
@[simp] theorem binV_gtr : binV .gtr (.int k a) (.int k b) = some (.bool (decide (b < a))) := by simp [binV, intB]
@[simp] theorem binV_geq : binV .geq (.int k a) (.int k b) = some (.bool (decide (b ≤ a))) := by simp [binV, intB]
@[simp] theorem eqI_int : eqI (.int k a) (.int k b) = some (decide (a = b)) := by simp [eqI]; by_cases h : a = b <;> simp [h]
@[simp] theorem cvV_int (k' : IntKind) : cvV k' (.int k a) = some (.int k' (k'.wrap a)) := rfl
end
@[simp] theorem unV_not (b : Bool) : unV .not (.bool b) = some (.bool (!b)) := rfl
@[simp] theorem lnV_slice (a : Option Addr) (n c : Nat) : lnV (.slice a n c) = some (.int .i64 n) := rfl
@[simp] theorem exV_tuple (vs : Array Value) (i : Nat) : exV (.tuple vs) i = vs[i]? := rfl
@[simp] theorem ncV_pointer (a : Addr) : ncV (.pointer (some a)) = some (.pointer (some a)) := rfl
@[simp] theorem faV_pointer (n b o : Nat) : faV n (.pointer (some ⟨b, o, none⟩)) = some (.pointer (some ⟨b, o + n, none⟩)) := rfl
@[simp] theorem pickO_true (a b : Option Value) : pickO (.bool true) a b = a := rfl
@[simp] theorem pickO_false (a b : Option Value) : pickO (.bool false) a b = b := rfl
theorem ifV_iff (b : Bool) (A B : Prop) : ifV (.bool b) A B = (if b = true then A else B) := by cases b <;> rfl
theorem ifV_dec (c : Prop) [Decidable c] (A B : Prop) : ifV (.bool (decide c)) A B = (if c then A else B) := by
  rw [ifV_iff]; simp
theorem ldV_cell {h : GH} {b : Nat} {T : TypeId} {pre : List Value} {sz : Nat} {f : Bool} (e : h b = some (.row T pre sz f)) (n off : Nat) : ldV n false (.pointer (some ⟨b, off, none⟩)) h = pre[off]? := by
  simp [ldV, e]
theorem ldV_agg {h : GH} {b : Nat} {T : TypeId} {pre : List Value} {sz : Nat} {f : Bool} (e : h b = some (.row T pre sz f)) (n off : Nat) (hl : off + n ≤ pre.length) : ldV n true (.pointer (some ⟨b, off, none⟩)) h = some (.agg ((pre.drop off).take n).toArray) := by
  have : Nat.ble (off + n) pre.length = true := Nat.ble_eq_true_of_le hl
  simp [ldV, e, this]
theorem stV_row {h : GH} {b : Nat} {T : TypeId} {pre : List Value} {sz : Nat} (e : h b = some (.row T pre sz true)) (n off : Nat) (v : Value) (hn : v.cells.size = n) (hl : off + n ≤ pre.length) (hc : v.cells.toList.all oneCell = true) :
    stV n (.pointer (some ⟨b, off, none⟩)) v h = some (upd h b (.row T (setCells pre off v.cells.toList) sz true)) := by
  have h1 : Nat.ble (off + n) pre.length = true := Nat.ble_eq_true_of_le hl
  have h2 : Nat.beq v.cells.size n = true := by simp [hn]
  simp only [stV, e, h1, h2, hc, Bool.and_self, Bool.and_true]
theorem cells_agg (c : Array Value) : (Value.agg c).cells = c := rfl
theorem cells_int (k : IntKind) (n : Int) : (Value.int k n).cells = #[.int k n] := rfl
theorem cells_bool (b : Bool) : (Value.bool b).cells = #[.bool b] := rfl
theorem cells_pointer (a : Option Addr) : (Value.pointer a).cells = #[.pointer a] := rfl
theorem cells_slice (a : Option Addr) (n c : Nat) : (Value.slice a n c).cells = #[.slice a n c] := rfl
theorem cells_iface (t : TypeId) (v : Value) : (Value.iface t v).cells = #[.iface t v] := rfl
theorem cells_nilIface : (Value.nilIface).cells = #[.nilIface] := rfl
theorem cells_func (f : Fn) (x y : Array Value) : (Value.func f x y).cells = #[.func f x y] := rfl
theorem cells_nilFunc : (Value.nilFunc).cells = #[.nilFunc] := rfl
theorem one_int (k : IntKind) (n : Int) : oneCell (.int k n) = true := rfl
theorem one_bool (b : Bool) : oneCell (.bool b) = true := rfl
theorem one_pointer (a : Option Addr) : oneCell (.pointer a) = true := rfl
theorem one_slice (a : Option Addr) (n c : Nat) : oneCell (.slice a n c) = true := rfl
theorem one_iface (t : TypeId) (v : Value) : oneCell (.iface t v) = true := rfl
theorem one_nilIface : oneCell .nilIface = true := rfl
theorem one_func (f : Fn) (x y : Array Value) : oneCell (.func f x y) = true := rfl
theorem one_nilFunc : oneCell .nilFunc = true := rfl
theorem ldV_same (h : GH) (b : Nat) (T : TypeId) (pre : List Value) (sz : Nat) (f : Bool) (n off : Nat) : ldV n false (.pointer (some ⟨b, off, none⟩)) (upd h b (.row T pre sz f)) = pre[off]? :=
  ldV_cell (upd_same _ _ _) n off
theorem ldV_same_agg (h : GH) (b : Nat) (T : TypeId) (pre : List Value) (sz : Nat) (f : Bool) (n off : Nat) : ldV n true (.pointer (some ⟨b, off, none⟩)) (upd h b (.row T pre sz f)) = if off + n ≤ pre.length then some (.agg ((pre.drop off).take n).toArray) else none := by
  by_cases hl : off + n ≤ pre.length
  · rw [if_pos hl]; exact ldV_agg (upd_same _ _ _) n off hl
  · have : Nat.ble (off + n) pre.length = false := by rw [← Bool.not_eq_true]; exact fun q => hl (Nat.le_of_ble_eq_true q)
    rw [if_neg hl]; simp only [ldV, upd_same, this]
theorem ldV_other {h : GH} {b k : Nat} (hk : k ≠ b) (g : GObj) (n off : Nat) (gg : Bool) : ldV n gg (.pointer (some ⟨k, off, none⟩)) (upd h b g) = ldV n gg (.pointer (some ⟨k, off, none⟩)) h := by
  simp only [ldV, upd_ne hk]
theorem stV_same (h : GH) (b : Nat) (T : TypeId) (pre : List Value) (sz : Nat) (n off : Nat) (v : Value) :
    stV n (.pointer (some ⟨b, off, none⟩)) v (upd h b (.row T pre sz true)) = if v.cells.size = n ∧ off + n ≤ pre.length ∧ v.cells.toList.all oneCell = true then some (upd h b (.row T (setCells pre off v.cells.toList) sz true)) else none := by
  by_cases hc : v.cells.size = n ∧ off + n ≤ pre.length ∧ v.cells.toList.all oneCell = true
  · rw [if_pos hc, stV_row (upd_same _ _ _) n off v hc.1 hc.2.1 hc.2.2, upd_upd]
  · rw [if_neg hc]
    cases h1 : Nat.beq v.cells.size n with
    | false => simp only [stV, upd_same, h1, Bool.false_and]
    | true =>
      cases h2 : Nat.ble (off + n) pre.length with
      | false => simp only [stV, upd_same, h2, Bool.false_and, Bool.and_false]
      | true =>
        cases h3 : v.cells.toList.all oneCell with
        | false => simp only [stV, upd_same, h3, Bool.and_false]
        | true => exact absurd ⟨Nat.eq_of_beq_eq_true h1, Nat.le_of_ble_eq_true h2, h3⟩ hc
end Go.Proofs.YtcpfkkppfgolaaaGreatDoor.GW
namespace Go.Proofs.YtcpfkkppfgolaaaGreatDoor
open Go GW Go.Proofs
theorem bnd_of {α : Type} {o : Option α} {v : α} {K : α → Prop} (h : o = some v) (k : K v) : bnd o K := by rw [h]; exact k
theorem ifV_t {v : Value} {A B : Prop} (h : v = .bool true) (a : A) : ifV v A B := by rw [h]; exact a
theorem ifV_f {v : Value} {A B : Prop} (h : v = .bool false) (b : B) : ifV v A B := by rw [h]; exact b
theorem T_Below {x y : Int} {h : GH} {K : Value → GH → Prop} (hK : K (.bool (decide (0 ≤ x ∧ x < y))) h) : T Tryz.prog 23 [.int .i64 x, .int .i64 y] h K := by
  apply S23_T
  unfold S23
  simp only [bnd_some, bnd_none, ifV_true, ifV_false, ifV_dec, ifV_iff, Bool.not_eq_true, Bool.not_eq_eq_eq_not, Bool.not_true, Bool.not_false, decide_eq_true_eq, decide_eq_false_iff_not, tup_zero, tup_succ, binV_add, binV_sub, binV_mul, binV_quo, binV_rem, binV_lss, binV_leq, binV_gtr, binV_geq, eqI_int, cvV_int, unV_not, lnV_slice, exV_tuple, ncV_pointer, faV_pointer, pickO_true, pickO_false, cells_agg, cells_int, cells_bool, cells_pointer, cells_slice, cells_iface, cells_nilIface, cells_func, cells_nilFunc, one_int, one_bool, one_pointer, one_slice, one_iface, one_nilIface, one_func, one_nilFunc, ldV_same, ldV_same_agg, stV_same, upd_same, upd_upd, setCells_nil, setCells_cons, List.set_cons_zero, List.set_cons_succ, List.length_cons, List.length_nil, List.size_toArray, List.all_cons, List.all_nil, Bool.and_true, Bool.and_self, Nat.zero_add, Nat.add_zero, Nat.reduceAdd, Nat.reduceLeDiff, Nat.le_refl, and_self, and_true, true_and, if_true, if_false, List.getElem?_cons_zero, List.getElem?_cons_succ, List.getElem?_toArray, List.drop_zero, List.drop_succ_cons, List.take_succ_cons, List.take_zero, List.take_nil, reduceIte, Int.reduceNeg, Int.reduceEq, Int.reduceLT, Int.reduceLE, Nat.reduceEqDiff, List.length_set]
  split <;> simp_all
theorem T_Num {x : Int} {h : GH} {K : Value → GH → Prop} (hK : K (.int .i64 x) h) : T Tryz.prog 7 [.int .i64 x] h K := by
  apply S7_T
  exact hK
def rowsAt (h : GH) (size : Nat) (v : Value) (cs : List (List Value)) : Prop :=
  ∃ a n cap, v = .slice a n cap ∧ cs.length = n ∧ n ≤ cap ∧ n ≤ 9223372036854775807 ∧
    ∀ i c, cs[i]? = some c → ∃ b off T pre sz f, a = some ⟨b, off, none⟩ ∧ h b = some (.row T pre sz f) ∧ off + i * size + size ≤ pre.length ∧ (pre.drop (off + i * size)).take size = c
theorem rowsAt.get {h : GH} {size : Nat} {v : Value} {cs : List (List Value)} (r : rowsAt h size v cs) {i : Nat} {c : List Value} (hc : cs[i]? = some c) (k : IntKind) :
    ∃ p, isV size v (.int k i) = some p ∧ ldV size true p h = some (.agg c.toArray) := by
  obtain ⟨a, n, cap, rfl, hl, _, _, hr⟩ := r
  obtain ⟨b, off, T, pre, sz, f, rfl, hb, hle, hcc⟩ := hr i c hc
  have hi : i < cs.length := (List.getElem?_eq_some_iff.1 hc).1
  refine ⟨.pointer (some ⟨b, off + i * size, none⟩), ?_, ?_⟩
  · simp only [isV]; rw [if_pos ⟨by omega, by omega⟩]; simp
  · rw [ldV_agg hb _ _ hle, hcc]
theorem rowsAt.get1 {h : GH} {v : Value} {cs : List (List Value)} (r : rowsAt h 1 v cs) {i : Nat} {x : Value} (hc : cs[i]? = some [x]) (k : IntKind) :
    ∃ p, isV 1 v (.int k i) = some p ∧ ldV 1 false p h = some x := by
  obtain ⟨a, n, cap, rfl, hl, _, _, hr⟩ := r
  obtain ⟨b, off, T, pre, sz, f, rfl, hb, hle, hcc⟩ := hr i _ hc
  have hi : i < cs.length := (List.getElem?_eq_some_iff.1 hc).1
  refine ⟨.pointer (some ⟨b, off + i * 1, none⟩), ?_, ?_⟩
  · simp only [isV]; rw [if_pos ⟨by omega, by omega⟩]; simp
  · rw [ldV_cell hb]
    have : ((pre.drop (off + i * 1)).take 1)[0]? = some x := by rw [hcc]; rfl
    simpa using this
theorem rowsAt.le {h h' : GH} {size : Nat} {v : Value} {cs : List (List Value)} (r : rowsAt h size v cs) (l : HLe h h') : rowsAt h' size v cs := by
  obtain ⟨a, n, cap, rfl, hl, hm, hm2, hr⟩ := r
  refine ⟨a, n, cap, rfl, hl, hm, hm2, fun i c hc => ?_⟩
  obtain ⟨b', off, T, pre, sz, f, h1, h2, h3⟩ := hr i c hc
  exact ⟨b', off, T, pre, sz, f, h1, l _ _ h2, h3⟩
theorem rowsAt.take {h : GH} {size : Nat} {v : Value} {cs : List (List Value)} (r : rowsAt h size v cs) {k : Nat} (hk : k ≤ cs.length) (kd : IntKind) :
    ∃ v', slV size v none (some (.int kd k)) = some v' ∧ rowsAt h size v' (cs.take k) := by
  obtain ⟨a, n, cap, rfl, hl, hm, hm2, hr⟩ := r
  refine ⟨.slice a k cap, ?_, a, k, cap, rfl, by simp; omega, by omega, by omega, fun i c hc => hr i c ?_⟩
  · simp only [slV, sbV]
    rw [if_pos ⟨by omega, by omega⟩]
    have : a.map (fun x => x.add (0 * size)) = a := by cases a <;> simp [Addr.add]
    simp only [Nat.zero_mul] at this
    simp [this]
  · rw [List.getElem?_take] at hc
    split at hc
    · exact hc
    · cases hc
theorem flatten_get (size : Nat) : ∀ (cs : List (List Value)), (∀ c ∈ cs, c.length = size) → ∀ (tail : List Value) (i : Nat) (c : List Value), cs[i]? = some c → ((cs.flatten ++ tail).drop (i * size)).take size = c ∧ i * size + size ≤ cs.flatten.length := by
  intro cs
  induction cs with
  | nil => intro _ tail i c h; simp at h
  | cons x cs ih =>
    intro hall tail i c h
    have hx : x.length = size := hall x (by simp)
    cases i with
    | zero => simp at h; subst h; simp [← hx]
    | succ i =>
      obtain ⟨h1, h2⟩ := ih (fun c hc => hall c (List.mem_cons_of_mem _ hc)) tail i c (by simpa using h)
      refine ⟨?_, ?_⟩
      · rw [List.flatten_cons, List.append_assoc, Nat.add_mul, Nat.one_mul, Nat.add_comm, ← hx, ← List.drop_drop, List.drop_left, hx]; exact h1
      · rw [List.flatten_cons, List.length_append, hx, Nat.add_mul]; omega
theorem rowsAt_of {h : GH} {b off : Nat} {T : TypeId} {pre : List Value} {sz : Nat} {f : Bool} (hb : h b = some (.row T pre sz f)) {size n cap : Nat} {cs : List (List Value)} (hl : cs.length = n) (hc : n ≤ cap) (hm : n ≤ 9223372036854775807) (hall : ∀ c ∈ cs, c.length = size)
    (ho : off ≤ pre.length) (hp : cs.flatten <+: pre.drop off) : rowsAt h size (.slice (some ⟨b, off, none⟩) n cap) cs := by
  refine ⟨_, n, cap, rfl, hl, hc, hm, fun i c hi => ⟨b, off, T, pre, sz, f, rfl, hb, ?_, ?_⟩⟩
  · obtain ⟨tail, ht⟩ := hp
    have := (flatten_get size cs hall tail i c hi).2
    have hlen : (pre.drop off).length = cs.flatten.length + tail.length := by rw [← ht]; simp
    simp only [List.length_drop] at hlen
    omega
  · obtain ⟨tail, ht⟩ := hp
    have := (flatten_get size cs hall tail i c hi).1
    rw [← List.drop_drop, ← ht]; exact this
def blk (v : Value) (b : Nat) : Prop := match v with | .slice (some a) _ _ => a.block = b | _ => False
@[simp] theorem blk_none (n c b : Nat) : blk (.slice none n c) b = False := rfl
@[simp] theorem blk_some (a : Addr) (n c b : Nat) : blk (.slice (some a) n c) b = (a.block = b) := rfl
def good (size : Nat) (c : List Value) : Prop := c.length = size ∧ c.all oneCell = true
def own (h : GH) (size : Nat) (v : Value) (cs : List (List Value)) : Prop :=
  ∃ a cap, v = .slice a cs.length cap ∧ cs.length ≤ cap ∧ cs.length ≤ 9223372036854775807 ∧ (∀ c ∈ cs, good size c) ∧
    ((a = none ∧ cs = [] ∧ cap = 0) ∨ ∃ b T, a = some ⟨b, 0, none⟩ ∧ h b = some (.row T cs.flatten (cap * size) true))
theorem own_nil (h : GH) (size : Nat) : own h size (.slice none 0 0) [] := ⟨none, 0, rfl, Nat.le_refl _, by decide, (fun c hc => by cases hc), .inl ⟨rfl, rfl, rfl⟩⟩
theorem own_of {h : GH} {b : Nat} {T : TypeId} {cells : List Value} {cs : List (List Value)} {size n cap sz : Nat} (hb : h b = some (.row T cells sz true)) (hc : cells = cs.flatten) (hn : n = cs.length) (hsz : sz = cap * size) (hl : n ≤ cap) (hm : n ≤ 9223372036854775807) (hg : ∀ c ∈ cs, good size c) : own h size (.slice (some ⟨b, 0, none⟩) n cap) cs := by
  subst hc hn hsz
  exact ⟨_, cap, rfl, hl, hm, hg, .inr ⟨b, T, rfl, hb⟩⟩
theorem own.rows {h : GH} {size : Nat} {v : Value} {cs : List (List Value)} (o : own h size v cs) : rowsAt h size v cs := by
  obtain ⟨a, cap, rfl, h2, h3, h4, h5⟩ := o
  rcases h5 with ⟨rfl, rfl, rfl⟩ | ⟨b, T, rfl, e⟩
  · exact ⟨none, 0, 0, rfl, rfl, Nat.le_refl _, by decide, fun i c hc => by simp at hc⟩
  · exact rowsAt_of e rfl h2 h3 (fun c hc => (h4 c hc).1) (Nat.zero_le _) ⟨[], by simp⟩
theorem rowsAt.cells {h : GH} {size : Nat} {v : Value} {cs : List (List Value)} (r : rowsAt h size v cs) (hg : ∀ c ∈ cs, c.length = size) : cellsAt size cs.length v h = some cs.flatten := by
  obtain ⟨a, n, cap, rfl, hl, _, _, hr⟩ := r
  cases cs with
  | nil => cases a <;> simp [cellsAt]
  | cons c cs =>
    obtain ⟨b, off, T, pre, sz, f, rfl, hb, _, _⟩ := hr 0 c rfl
    generalize hcs : c :: cs = ds at *
    have each : ∀ i d, ds[i]? = some d → off + i * size + size ≤ pre.length ∧ (pre.drop (off + i * size)).take size = d := by
      intro i d hd
      obtain ⟨b', off', T', pre', sz', f', e1, e2, e3, e4⟩ := hr i d hd
      cases e1
      rw [hb] at e2; cases e2
      exact ⟨e3, e4⟩
    have upto : ∀ m, m ≤ ds.length → (pre.drop off).take (m * size) = (ds.take m).flatten ∧ (0 < m → off + m * size ≤ pre.length) := by
      intro m
      induction m with
      | zero => intro _; simp
      | succ m ih =>
        intro hm
        obtain ⟨d, hd⟩ : ∃ d, ds[m]? = some d := ⟨_, List.getElem?_eq_getElem (by omega)⟩
        obtain ⟨e1, e2⟩ := each m d hd
        refine ⟨?_, fun _ => by rw [Nat.add_mul]; omega⟩
        rw [Nat.add_mul, Nat.one_mul, List.take_add, (ih (by omega)).1, List.drop_drop, e2, List.take_add_one, hd]
        simp
    obtain ⟨u1, u2⟩ := upto ds.length (Nat.le_refl _)
    have hpos : 0 < ds.length := by subst hcs; simp
    rw [List.take_length] at u1
    simp only [cellsAt]
    cases hz : Nat.beq (ds.length * size) 0 with
    | true =>
      have := Nat.eq_of_beq_eq_true hz
      rw [this, List.take_zero] at u1
      rw [← u1]
    | false =>
      have : Nat.ble (off + ds.length * size) pre.length = true := Nat.ble_eq_true_of_le (u2 hpos)
      simp only [hb, this, u1]
theorem flatten_good {size : Nat} : ∀ (cs : List (List Value)), (∀ c ∈ cs, good size c) → cs.flatten.length = cs.length * size ∧ cs.flatten.all oneCell = true := by
  intro cs
  induction cs with
  | nil => intro _; simp
  | cons c cs ih =>
    intro h
    obtain ⟨h1, h2⟩ := ih fun d hd => h d (List.mem_cons_of_mem _ hd)
    obtain ⟨h3, h4⟩ := h c (by simp)
    refine ⟨?_, ?_⟩
    · rw [List.flatten_cons, List.length_append, h1, h3, List.length_cons, Nat.add_mul]; omega
    · rw [List.flatten_cons, List.all_append, h2, h4]; rfl
theorem rowsAt.fld {h : GH} {size : Nat} {v : Value} {cs : List (List Value)} (r : rowsAt h size v cs) {i : Nat} {c : List Value} (hc : cs[i]? = some c) (k : IntKind) :
    ∃ b o, isV size v (.int k i) = some (.pointer (some ⟨b, o, none⟩)) ∧ (∀ (j : Nat) x, c[j]? = some x → ldV 1 false (.pointer (some ⟨b, o + j, none⟩)) h = some x) ∧ ldV size true (.pointer (some ⟨b, o, none⟩)) h = some (.agg c.toArray) := by
  obtain ⟨a, n, cap, rfl, hl, _, _, hr⟩ := r
  obtain ⟨b, off, T, pre, sz, f, rfl, hb, hle, hcc⟩ := hr i c hc
  have hi : i < cs.length := (List.getElem?_eq_some_iff.1 hc).1
  refine ⟨b, off + i * size, ?_, fun j x hj => ?_, ?_⟩
  · simp only [isV]; rw [if_pos ⟨by omega, by omega⟩]; simp
  · rw [ldV_cell hb]
    rw [← hcc, List.getElem?_take] at hj
    split at hj
    · rw [List.getElem?_drop] at hj; exact hj
    · cases hj
  · rw [ldV_agg hb _ _ hle, hcc]
theorem rowsAt.len {h : GH} {size : Nat} {v : Value} {cs : List (List Value)} (r : rowsAt h size v cs) : lnV v = some (i64 cs.length) := by
  obtain ⟨a, n, cap, rfl, hl, _, _, hr⟩ := r
  rw [hl]; rfl
theorem rowsAt.max {h : GH} {size : Nat} {v : Value} {cs : List (List Value)} (r : rowsAt h size v cs) : cs.length ≤ 9223372036854775807 := by
  obtain ⟨a, n, cap, rfl, hl, _, hm, hr⟩ := r
  omega
theorem rowsAt_nil (h : GH) (size : Nat) : rowsAt h size (.slice none 0 0) [] := (own_nil h size).rows
theorem slV_len {size n cap : Nat} {a : Option Addr} {m : Nat} (hm : m ≤ cap) (k : IntKind) : slV size (.slice a n cap) none (some (.int k m)) = some (.slice a m cap) := by
  simp only [slV, sbV]
  rw [if_pos ⟨by omega, by omega⟩]
  have : a.map (fun x => x.add (0 * size)) = a := by cases a <;> simp [Addr.add]
  simp only [Nat.zero_mul] at this
  simp [this]
theorem good_ints {size : Nat} {xs : List Int} (h : xs.length = size) : good size (xs.map i64) := by
  refine ⟨by simpa using h, ?_⟩
  induction xs generalizing size with
  | nil => rfl
  | cons x xs ih => rw [List.map_cons, List.all_cons, ih rfl]; rfl
theorem setCells_take : ∀ (vs pre : List Value) (off : Nat), off + vs.length ≤ pre.length → setCells pre off vs = pre.take off ++ vs ++ pre.drop (off + vs.length) := by
  intro vs
  induction vs with
  | nil => intro pre off h; simp
  | cons v vs ih =>
    intro pre off h
    simp only [List.length_cons] at h
    rw [setCells_cons, ih _ _ (by rw [List.length_set]; omega)]
    have e1 : (pre.set off v).take (off + 1) = pre.take off ++ [v] := by
      rw [List.take_add_one, List.take_set_of_le (Nat.le_refl _), List.getElem?_set_self (by omega)]; rfl
    rw [e1, List.drop_set_of_lt (by omega)]
    simp only [List.append_assoc, List.length_cons, List.cons_append, List.nil_append]
    rw [Nat.add_assoc, Nat.add_comm 1]
theorem setCells_all {pre vs : List Value} (h : vs.length = pre.length) : setCells pre 0 vs = vs := by
  rw [setCells_take _ _ _ (by omega)]
  simp [h]
theorem new_st {h : GH} {n : Nat} {T : TypeId} {zero : List Value} {x : Value} {K : Value → GH → Prop} (c : List Value) (hx : x.cells.toList = c) (hc : c.length = n) (hz : zero.length = n) (hone : c.all oneCell = true)
    (k : ∀ b h', h b = none → h' b = some (.row T c n true) → HLe h h' → K (.pointer (some ⟨b, 0, none⟩)) h') : newV T zero h fun v h1 => bnd (stV n v x h1) fun h2 => K v h2 := by
  intro b hb
  subst hx
  have hsz : x.cells.size = n := by rw [← hc]; rfl
  refine bnd_of (v := upd h b (.row T x.cells.toList n true)) ?_ ?_
  · rw [stV_same, if_pos ⟨hsz, by omega, hone⟩, setCells_all (by omega), hz]
  · exact k b _ hb (upd_same _ _ _) ((HLe.refl h).new _ hb)
theorem iaV_at {len size b o i : Nat} (hi : i < len) (k : IntKind) : iaV len size (.pointer (some ⟨b, o, none⟩)) (.int k i) = some (.pointer (some ⟨b, o + i * size, none⟩)) := by
  simp only [iaV]; rw [if_pos ⟨by omega, by omega⟩]; simp
theorem setCells_left : ∀ (ys c rest : List Value) (j : Nat), j + ys.length ≤ c.length → setCells (c ++ rest) j ys = setCells c j ys ++ rest := by
  intro ys
  induction ys with
  | nil => intros; rfl
  | cons y ys ih =>
    intro c rest j h
    simp only [List.length_cons] at h
    rw [setCells_cons, setCells_cons, List.set_append_left _ _ (by omega), ih _ _ _ (by rw [List.length_set]; omega)]
theorem setCells_right : ∀ (ys c rest : List Value) (j : Nat), setCells (c ++ rest) (c.length + j) ys = c ++ setCells rest j ys := by
  intro ys
  induction ys with
  | nil => intros; rfl
  | cons y ys ih =>
    intro c rest j
    rw [setCells_cons, setCells_cons, List.set_append_right _ _ (by omega), Nat.add_sub_cancel_left, Nat.add_assoc, ih]
theorem setCells_flatten {size : Nat} (ys : List Value) : ∀ (cs : List (List Value)) (i j : Nat) (c : List Value), (∀ c ∈ cs, c.length = size) → cs[i]? = some c → j + ys.length ≤ size → setCells cs.flatten (i * size + j) ys = (cs.set i (setCells c j ys)).flatten := by
  intro cs
  induction cs with
  | nil => intro i j c _ h; simp at h
  | cons d cs ih =>
    intro i j c hl hc hj
    have hd : d.length = size := hl d (by simp)
    cases i with
    | zero =>
      simp at hc; subst hc
      rw [Nat.zero_mul, Nat.zero_add, List.flatten_cons, setCells_left _ _ _ _ (by omega)]; rfl
    | succ i =>
      have e : (i + 1) * size + j = d.length + (i * size + j) := by rw [hd, Nat.add_mul]; omega
      rw [e, List.flatten_cons, setCells_right, ih i j c (fun x hx => hl x (List.mem_cons_of_mem _ hx)) (by simpa using hc) hj]; rfl
theorem setCells_ones : ∀ (ys c : List Value) (j : Nat), c.all oneCell = true → ys.all oneCell = true → (setCells c j ys).all oneCell = true := by
  intro ys
  induction ys with
  | nil => intro c j h _; exact h
  | cons y ys ih =>
    intro c j hc hy
    simp only [List.all_cons, Bool.and_eq_true] at hy
    rw [setCells_cons]
    refine ih _ _ ?_ hy.2
    rw [List.all_eq_true] at hc ⊢
    intro x hx
    rcases List.mem_or_eq_of_mem_set hx with q | q
    · exact hc x q
    · subst q; exact hy.1
structure Wd where
  kind : Int
  value : Int
  slot : Int
  gen : Int
  entry : Int
  thread : Int
  seq : Int
def Wd.ints (t : Wd) : List Int := [t.kind, t.value, t.slot, t.gen, t.entry, t.thread, t.seq]
def Wd.enc (t : Wd) : List Value := [i64 t.kind, i64 t.value, i64 t.slot, i64 t.gen, i64 t.entry, i64 t.thread, i64 t.seq]
theorem Wd.ext_ints {a b : Wd} (h : a.ints = b.ints) : a = b := by
  cases a; cases b; simpa [Wd.ints] using h
instance : DecidableEq Wd := fun a b => if h : a.ints = b.ints then .isTrue (Wd.ext_ints h) else .isFalse fun e => h (by rw [e])
inductive Form where
  | val (v : Int)
  | mcas (s g : Int)
  | entry (s g e t q : Int)
def Form.plain : Form → Wd
  | .val v => ⟨0, v, 0, 0, 0, 0, 0⟩
  | .mcas s g => ⟨2, 0, s, g, 0, 0, 0⟩
  | .entry s g e t q => ⟨1, 0, s, g, e, t, q⟩
def Form.number : Form → Int
  | .val v => v * 4
  | .mcas s g => (g * 16 + s) * 4 + 2
  | .entry s g e t q => ((((g * 16 + s) * 16 + e) * 4 + t) * 1048576 + q) * 4 + 1
def Form.value : Form → Value
  | .val v => i64 v
  | .mcas s g => .agg [i64 s, i64 g].toArray
  | .entry s g e t q => .agg [i64 s, i64 g, i64 e, i64 t, i64 q].toArray
def Form.type : Form → Nat
  | .val _ => 192
  | .mcas _ _ => 121
  | .entry _ _ _ _ _ => 217
def formV : Option Form → Value
  | none => .nilIface
  | some f => .iface f.type f.value
def Wd.may (w : Wd) : Bool := decide (0 ≤ w.value ∧ w.value < 1099511627776) && (decide (0 ≤ w.slot ∧ w.slot < 12) && (decide (0 ≤ w.gen ∧ w.gen < 65536) && (decide (0 ≤ w.entry ∧ w.entry < 16) && (decide (0 ≤ w.thread ∧ w.thread < 4) && decide (0 ≤ w.seq ∧ w.seq < 1048576)))))
def Form.may (f : Form) : Bool := f.plain.may
def raw (x : Int) : Option Form :=
  if x < 0 then none else
  if x % 4 = 0 then some (.val (x / 4)) else
  if x % 4 = 2 then some (.mcas (x / 4 % 16) (x / 4 / 16)) else
  if x % 4 = 1 then some (.entry (x / 4 / 1048576 / 4 / 16 % 16) (x / 4 / 1048576 / 4 / 16 / 16) (x / 4 / 1048576 / 4 % 16) (x / 4 / 1048576 % 4) (x / 4 % 1048576)) else none
def read (x : Int) : Option Form := match raw x with | some f => if f.may = true then some f else none | none => none
theorem T_plain_val {v : Int} {h : GH} {K : Value → GH → Prop} (hK : K (.agg (Form.val v).plain.enc.toArray) h) : T Tryz.prog 234 [i64 v] h K := by
  apply T.drop
  apply S234_T
  unfold S234
  intro b hb
  refine bnd_of rfl (bnd_of (v := upd h b (.row 238 (Form.val v).plain.enc 7 true)) (by rw [stV_same]; rfl) ?_)
  refine bnd_of (v := .agg (Form.val v).plain.enc.toArray) (by rw [ldV_same_agg]; rfl) ?_
  exact ⟨h, (HLe.refl h).new _ hb, hK⟩
theorem T_plain_mcas {s g : Int} {h : GH} {K : Value → GH → Prop} (hK : K (.agg (Form.mcas s g).plain.enc.toArray) h) : T Tryz.prog 232 [.agg [i64 s, i64 g].toArray] h K := by
  apply T.drop
  apply S232_T
  unfold S232
  intro b hb b2 hb2
  have hne : b ≠ b2 := by rintro rfl; simp at hb2
  refine bnd_of rfl (bnd_of (v := i64 s) (by rw [ldV_other hne, ldV_same]; rfl) (bnd_of rfl (bnd_of (v := i64 g) (by rw [ldV_other hne, ldV_same]; rfl) (bnd_of rfl ?_))))
  refine bnd_of (v := upd (upd h b (.row 121 [i64 s, i64 g] 2 true)) b2 (.row 238 (Form.mcas s g).plain.enc 7 true)) (by rw [stV_same]; rfl) ?_
  refine bnd_of (v := .agg (Form.mcas s g).plain.enc.toArray) (by rw [ldV_same_agg]; rfl) ?_
  exact ⟨h, ((HLe.refl h).new _ hb).new _ (((HLe.refl h).new _ hb).none hb2), hK⟩
theorem T_plain_entry {s g e t q : Int} {h : GH} {K : Value → GH → Prop} (hK : K (.agg (Form.entry s g e t q).plain.enc.toArray) h) : T Tryz.prog 236 [.agg [i64 s, i64 g, i64 e, i64 t, i64 q].toArray] h K := by
  apply T.drop
  apply S236_T
  unfold S236
  intro b hb b2 hb2
  have hne : b ≠ b2 := by rintro rfl; simp at hb2
  refine bnd_of rfl (bnd_of rfl (bnd_of (v := i64 s) (by rw [ldV_other hne, ldV_same]; rfl) (bnd_of rfl (bnd_of rfl (bnd_of (v := i64 g) (by rw [ldV_other hne, ldV_same]; rfl) ?_)))))
  refine bnd_of rfl (bnd_of (v := i64 e) (by rw [ldV_other hne, ldV_same]; rfl) (bnd_of rfl (bnd_of (v := i64 t) (by rw [ldV_other hne, ldV_same]; rfl) (bnd_of rfl (bnd_of (v := i64 q) (by rw [ldV_other hne, ldV_same]; rfl) (bnd_of rfl ?_))))))
  refine bnd_of (v := upd (upd h b (.row 217 [i64 s, i64 g, i64 e, i64 t, i64 q] 5 true)) b2 (.row 238 (Form.entry s g e t q).plain.enc 7 true)) (by rw [stV_same]; rfl) ?_
  refine bnd_of (v := .agg (Form.entry s g e t q).plain.enc.toArray) (by rw [ldV_same_agg]; rfl) ?_
  exact ⟨h, ((HLe.refl h).new _ hb).new _ (((HLe.refl h).new _ hb).none hb2), hK⟩
theorem T_wordmay {f : Form} {h : GH} {K : Value → GH → Prop} (hK : K (.bool f.may) h) : T Tryz.prog 121 [formV (some f)] h K := by
  apply T.drop
  apply S121_T
  unfold S121
  have key : ∀ w : Wd, w.may = f.may → newV 238 [.int .i64 0, .int .i64 0, .int .i64 0, .int .i64 0, .int .i64 0, .int .i64 0, .int .i64 0] h (fun v3 h4 =>
      bnd (stV 7 v3 (.agg w.enc.toArray) h4) fun h5 =>
      bnd (faV 1 v3) fun v6 => bnd (ldV 1 false v6 h5) fun v7 => T Tryz.prog 23 [v7, .int .i64 1099511627776] h5 fun v8 h9 => ifV v8 (
      bnd (faV 2 v3) fun v10 => bnd (ldV 1 false v10 h9) fun v11 => T Tryz.prog 23 [v11, .int .i64 12] h9 fun v12 h13 => ifV v12 (
      bnd (faV 3 v3) fun v14 => bnd (ldV 1 false v14 h13) fun v15 => T Tryz.prog 23 [v15, .int .i64 65536] h13 fun v16 h17 => ifV v16 (
      bnd (faV 4 v3) fun v18 => bnd (ldV 1 false v18 h17) fun v19 => T Tryz.prog 23 [v19, .int .i64 16] h17 fun v20 h21 => ifV v20 (
      bnd (faV 5 v3) fun v22 => bnd (ldV 1 false v22 h21) fun v23 => T Tryz.prog 23 [v23, .int .i64 4] h21 fun v24 h25 => ifV v24 (
      bnd (faV 6 v3) fun v26 => bnd (ldV 1 false v26 h25) fun v27 => T Tryz.prog 23 [v27, .int .i64 1048576] h25 fun v28 h29 => ∃ h0, HLe h0 h29 ∧ K v28 h0) (∃ h0, HLe h0 h25 ∧ K (.bool false) h0)) (∃ h0, HLe h0 h21 ∧ K (.bool false) h0)) (∃ h0, HLe h0 h17 ∧ K (.bool false) h0)) (∃ h0, HLe h0 h13 ∧ K (.bool false) h0)) (∃ h0, HLe h0 h9 ∧ K (.bool false) h0)) := by
    intro w hw
    refine new_st w.enc rfl rfl rfl rfl fun b h5 fb e5 l5 => ?_
    rw [← hw] at hK
    have bad : w.may = false → ∃ h0, HLe h0 h5 ∧ K (.bool false) h0 := fun q => ⟨h, l5, by rw [q] at hK; exact hK⟩
    refine bnd_of rfl (bnd_of (v := i64 w.value) (by rw [ldV_cell e5]; rfl) (T_Below ?_))
    rw [ifV_dec]; split
    · rename_i c1
      refine bnd_of rfl (bnd_of (v := i64 w.slot) (by rw [ldV_cell e5]; rfl) (T_Below ?_))
      rw [ifV_dec]; split
      · rename_i c2
        refine bnd_of rfl (bnd_of (v := i64 w.gen) (by rw [ldV_cell e5]; rfl) (T_Below ?_))
        rw [ifV_dec]; split
        · rename_i c3
          refine bnd_of rfl (bnd_of (v := i64 w.entry) (by rw [ldV_cell e5]; rfl) (T_Below ?_))
          rw [ifV_dec]; split
          · rename_i c4
            refine bnd_of rfl (bnd_of (v := i64 w.thread) (by rw [ldV_cell e5]; rfl) (T_Below ?_))
            rw [ifV_dec]; split
            · rename_i c5
              refine bnd_of rfl (bnd_of (v := i64 w.seq) (by rw [ldV_cell e5]; rfl) (T_Below ⟨h, l5, ?_⟩))
              have : w.may = decide (0 ≤ w.seq ∧ w.seq < 1048576) := by unfold Wd.may; rw [decide_eq_true c1, decide_eq_true c2, decide_eq_true c3, decide_eq_true c4, decide_eq_true c5]; rfl
              rw [this] at hK; exact hK
            · rename_i c; exact bad (by unfold Wd.may; rw [decide_eq_false c]; simp)
          · rename_i c; exact bad (by unfold Wd.may; rw [decide_eq_false c]; simp)
        · rename_i c; exact bad (by unfold Wd.may; rw [decide_eq_false c]; simp)
      · rename_i c; exact bad (by unfold Wd.may; rw [decide_eq_false c]; simp)
    · rename_i c; exact bad (by unfold Wd.may; rw [decide_eq_false c]; simp)
  cases f with
  | val v => exact ⟨_, _, fun w => (by kernel_rfl : (method (Tryz.prog.types.size + Made.depth) 192 (i64 v) "pawl/word.plain").run Tryz.prog w = .ok (234, i64 v) w), T_plain_val (key _ rfl)⟩
  | mcas s g => exact ⟨_, _, fun w => (by kernel_rfl : (method (Tryz.prog.types.size + Made.depth) 121 (.agg [i64 s, i64 g].toArray) "pawl/word.plain").run Tryz.prog w = .ok (232, .agg [i64 s, i64 g].toArray) w), T_plain_mcas (key _ rfl)⟩
  | entry s g e t q => exact ⟨_, _, fun w => (by kernel_rfl : (method (Tryz.prog.types.size + Made.depth) 217 (.agg [i64 s, i64 g, i64 e, i64 t, i64 q].toArray) "pawl/word.plain").run Tryz.prog w = .ok (236, .agg [i64 s, i64 g, i64 e, i64 t, i64 q].toArray) w), T_plain_entry (key _ rfl)⟩
theorem quo_nn {x d : Int} (h0 : 0 ≤ x) (h1 : x ≤ 9223372036854775807) (hd : 0 < d) : binV .quo (.int .i64 x) (.int .i64 d) = some (i64 (x / d)) := by
  rw [binV_quo, if_neg (by omega), Int.tdiv_eq_ediv_of_nonneg h0, wrap_id]
  · have := Int.ediv_nonneg h0 (Int.le_of_lt hd); omega
  · have := Int.ediv_le_self d h0; omega
theorem rem_nn {x d : Int} (h0 : 0 ≤ x) (hd : 0 < d) : binV .rem (.int .i64 x) (.int .i64 d) = some (i64 (x % d)) := by
  rw [binV_rem, if_neg (by omega), Int.tmod_eq_emod_of_nonneg h0]
theorem T_life {y : Int} {h : GH} {K : Value → GH → Prop} (h0 : 0 ≤ y) (h1 : y ≤ 9223372036854775807) (hK : K (.agg [i64 (y % 16), i64 (y / 16)].toArray) h) : T Tryz.prog 120 [i64 y] h K := by
  apply T.drop
  apply S120_T
  unfold S120
  intro b hb
  refine bnd_of (rem_nn h0 (by decide)) (bnd_of (quo_nn h0 h1 (by decide)) (bnd_of rfl ?_))
  refine bnd_of (v := upd h b (.row 121 [i64 (y % 16), i64 (y / 16)] 2 true)) (by rw [stV_same]; rfl) ?_
  refine bnd_of (v := .agg [i64 (y % 16), i64 (y / 16)].toArray) (by rw [ldV_same_agg]; rfl) ?_
  exact ⟨h, (HLe.refl h).new _ hb, hK⟩
theorem T_Read {x : Int} {h : GH} {K : Value → GH → Prop} (h1 : x ≤ 9223372036854775807) (hK : K (formV (read x)) h) : T Tryz.prog 106 [i64 x] h K := by
  apply T.drop
  apply S106_T
  unfold S106
  refine bnd_of (binV_lss _ _ _) ?_
  rw [ifV_dec]
  split
  · rename_i hn
    have : read x = none := by unfold read raw; rw [if_pos hn]
    rw [this] at hK
    exact ⟨h, .refl _, hK⟩
  rename_i hn
  have h0 : 0 ≤ x := by omega
  have fin : ∀ (f : Form) (h' : GH), HLe h h' → raw x = some f → S106_j1 (formV (some f)) h' (fun v h' => ∃ h0, HLe h0 h' ∧ K v h0) := by
    intro f h' l hr
    unfold S106_j1
    have hq : eqK .iface true (formV (some f)) .nilIface = some false := by cases f <;> rfl
    refine bnd_of hq ?_
    rw [ifV_false]
    refine T_wordmay (bnd_of rfl ?_)
    unfold read at hK
    rw [hr] at hK
    simp only at hK
    rw [ifV_iff]
    split
    · rename_i hm
      rw [if_neg (by simpa using hm)] at hK
      exact ⟨h, l, hK⟩
    · rename_i hm
      rw [if_pos (by simpa using hm)] at hK
      exact ⟨h, l, hK⟩
  have y0 : 0 ≤ x / 4 := by omega
  have y1 : x / 4 ≤ 9223372036854775807 := by omega
  refine bnd_of (quo_nn h0 h1 (by decide)) (bnd_of (rem_nn h0 (by decide)) (bnd_of (eqI_int _ _ _) ?_))
  rw [ifV_dec]
  split
  · rename_i c0
    exact fin (.val (x / 4)) h (.refl _) (by unfold raw; rw [if_neg hn, if_pos c0])
  rename_i c0
  refine bnd_of (eqI_int _ _ _) ?_
  rw [ifV_dec]
  split
  · rename_i c2
    refine T_life y0 y1 ?_
    exact fin (.mcas (x / 4 % 16) (x / 4 / 16)) h (.refl _) (by unfold raw; rw [if_neg hn, if_neg c0, if_pos c2])
  rename_i c2
  refine bnd_of (eqI_int _ _ _) ?_
  rw [ifV_dec]
  split
  · rename_i c1
    refine bnd_of (rem_nn y0 (by decide)) (bnd_of rfl ?_)
    refine new_st [i64 0, i64 0, i64 0, i64 0, i64 (x / 4 % 1048576)] rfl rfl rfl rfl fun b h2 fb e2 l2 => ?_
    refine bnd_of (quo_nn y0 y1 (by decide)) ?_
    have z0 : 0 ≤ x / 4 / 1048576 := by omega
    have z1 : x / 4 / 1048576 ≤ 9223372036854775807 := by omega
    refine bnd_of (rem_nn z0 (by decide)) (bnd_of (quo_nn z0 z1 (by decide)) ?_)
    have u0 : 0 ≤ x / 4 / 1048576 / 4 := by omega
    have u1 : x / 4 / 1048576 / 4 ≤ 9223372036854775807 := by omega
    refine bnd_of rfl (bnd_of (stV_row e2 1 (0 + 3) _ rfl (Nat.le_of_ble_eq_true rfl) rfl) ?_)
    refine bnd_of (rem_nn u0 (by decide)) (bnd_of (quo_nn u0 u1 (by decide)) ?_)
    have w0 : 0 ≤ x / 4 / 1048576 / 4 / 16 := by omega
    have w1 : x / 4 / 1048576 / 4 / 16 ≤ 9223372036854775807 := by omega
    refine bnd_of rfl (bnd_of (stV_row (upd_same _ _ _) 1 (0 + 2) _ rfl (Nat.le_of_ble_eq_true rfl) rfl) ?_)
    refine T_life w0 w1 ?_
    rw [upd_upd]
    refine bnd_of rfl (bnd_of (stV_row (upd_same _ _ _) 2 (0 + 0) _ rfl (Nat.le_of_ble_eq_true rfl) rfl) ?_)
    rw [upd_upd]
    refine bnd_of (v := (Form.entry (x / 4 / 1048576 / 4 / 16 % 16) (x / 4 / 1048576 / 4 / 16 / 16) (x / 4 / 1048576 / 4 % 16) (x / 4 / 1048576 % 4) (x / 4 % 1048576)).value) (by rw [ldV_same_agg]; rfl) ?_
    exact fin (.entry (x / 4 / 1048576 / 4 / 16 % 16) (x / 4 / 1048576 / 4 / 16 / 16) (x / 4 / 1048576 / 4 % 16) (x / 4 / 1048576 % 4) (x / 4 % 1048576)) _ (l2.new _ fb |> fun q => by exact (HLe.refl h).trans (fun b g e => q b g e)) (by unfold raw; rw [if_neg hn, if_neg c0, if_neg c2, if_pos c1])
  · rename_i c1
    unfold S106_j1
    refine bnd_of rfl ?_
    rw [ifV_true]
    have : read x = none := by unfold read raw; rw [if_neg hn, if_neg c0, if_neg c2, if_neg c1]
    rw [this] at hK
    exact ⟨h, .refl _, hK⟩
def plainOf (x : Int) : Option Int := match read x with | some (.val v) => some v | _ => none
theorem T_Plain {x : Int} {h : GH} {K : Value → GH → Prop} (h1 : x ≤ 9223372036854775807) (hK : K (.tuple #[i64 ((plainOf x).getD 0), .bool (plainOf x).isSome]) h) : T Tryz.prog 85 [i64 x] h K := by
  apply S85_T
  unfold S85
  refine T_Read h1 ?_
  unfold plainOf at hK
  cases hr : read x with
  | none => rw [hr] at hK; exact bnd_of rfl (bnd_of rfl (bnd_of rfl hK))
  | some f =>
    rw [hr] at hK
    cases f with
    | val v => exact bnd_of rfl (bnd_of rfl (bnd_of rfl hK))
    | mcas s g => exact bnd_of rfl (bnd_of rfl (bnd_of rfl hK))
    | entry s g e t q => exact bnd_of rfl (bnd_of rfl (bnd_of rfl hK))
theorem T_Of {v : Int} {h : GH} {K : Value → GH → Prop} (h0 : -2305843009213693952 ≤ v) (h1 : v < 2305843009213693952) (hK : K (i64 (v * 4)) h) : T Tryz.prog 81 [i64 v] h K := by
  apply S81_T
  unfold S81
  apply S100_T
  unfold S100
  refine bnd_of (binV_mul _ _ _) ?_
  rw [wrap_id (by omega) (by omega)]
  refine bnd_of (binV_add _ _ _) ?_
  rw [wrap_id (by omega) (by omega), Int.add_zero]
  exact hK
def mayRef (w : Wd) : Bool :=
  if w.kind = 0 then decide (w = ⟨0, w.value, 0, 0, 0, 0, 0⟩ ∧ 0 ≤ w.value ∧ w.value < 1099511627776)
  else if w.kind = 1 then decide (w.value = 0 ∧ 0 ≤ w.slot ∧ w.slot < 12 ∧ 0 ≤ w.gen ∧ w.gen < 65536 ∧ 0 ≤ w.entry ∧ w.entry < 16 ∧ 0 ≤ w.thread ∧ w.thread < 4 ∧ 0 ≤ w.seq ∧ w.seq < 1048576)
  else if w.kind = 2 then decide (w = ⟨2, 0, w.slot, w.gen, 0, 0, 0⟩ ∧ 0 ≤ w.slot ∧ w.slot < 12 ∧ 0 ≤ w.gen ∧ w.gen < 65536)
  else false
theorem mayRef_plain (f : Form) : mayRef f.plain = f.may := by
  unfold Form.may Wd.may
  rw [Bool.eq_iff_iff]
  simp only [Bool.and_eq_true, decide_eq_true_eq]
  cases f with
  | val v =>
    have : mayRef (Form.val v).plain = decide ((Form.val v).plain = ⟨0, v, 0, 0, 0, 0, 0⟩ ∧ 0 ≤ v ∧ v < 1099511627776) := rfl
    rw [this, decide_eq_true_eq]
    simp only [Form.plain]
    exact ⟨fun q => by omega, fun q => ⟨trivial, by omega⟩⟩
  | mcas s g =>
    have : mayRef (Form.mcas s g).plain = decide ((Form.mcas s g).plain = ⟨2, 0, s, g, 0, 0, 0⟩ ∧ 0 ≤ s ∧ s < 12 ∧ 0 ≤ g ∧ g < 65536) := rfl
    rw [this, decide_eq_true_eq]
    simp only [Form.plain]
    exact ⟨fun q => by omega, fun q => ⟨trivial, by omega⟩⟩
  | entry s g e t q =>
    have : mayRef (Form.entry s g e t q).plain = decide ((0 : Int) = 0 ∧ 0 ≤ s ∧ s < 12 ∧ 0 ≤ g ∧ g < 65536 ∧ 0 ≤ e ∧ e < 16 ∧ 0 ≤ t ∧ t < 4 ∧ 0 ≤ q ∧ q < 1048576) := rfl
    rw [this, decide_eq_true_eq]
    simp only [Form.plain]
    constructor
    · intro q; simp only [true_and] at q; omega
    · intro q; simp only [true_and]; omega
theorem may_val {v : Int} : (Form.val v).may = true ↔ 0 ≤ v ∧ v < 1099511627776 := by
  rw [← mayRef_plain]
  have : mayRef (Form.val v).plain = decide ((Form.val v).plain = ⟨0, v, 0, 0, 0, 0, 0⟩ ∧ 0 ≤ v ∧ v < 1099511627776) := rfl
  rw [this, decide_eq_true_eq]
  exact ⟨fun q => q.2, fun q => ⟨rfl, q⟩⟩
theorem may_mcas {s g : Int} : (Form.mcas s g).may = true ↔ 0 ≤ s ∧ s < 12 ∧ 0 ≤ g ∧ g < 65536 := by
  rw [← mayRef_plain]
  have : mayRef (Form.mcas s g).plain = decide ((Form.mcas s g).plain = ⟨2, 0, s, g, 0, 0, 0⟩ ∧ 0 ≤ s ∧ s < 12 ∧ 0 ≤ g ∧ g < 65536) := rfl
  rw [this, decide_eq_true_eq]
  exact ⟨fun q => q.2, fun q => ⟨rfl, q⟩⟩
theorem may_entry {s g e t q : Int} : (Form.entry s g e t q).may = true ↔ 0 ≤ s ∧ s < 12 ∧ 0 ≤ g ∧ g < 65536 ∧ 0 ≤ e ∧ e < 16 ∧ 0 ≤ t ∧ t < 4 ∧ 0 ≤ q ∧ q < 1048576 := by
  rw [← mayRef_plain]
  have : mayRef (Form.entry s g e t q).plain = decide ((0 : Int) = 0 ∧ 0 ≤ s ∧ s < 12 ∧ 0 ≤ g ∧ g < 65536 ∧ 0 ≤ e ∧ e < 16 ∧ 0 ≤ t ∧ t < 4 ∧ 0 ≤ q ∧ q < 1048576) := rfl
  rw [this, decide_eq_true_eq]
  exact ⟨fun q => q.2, fun q => ⟨rfl, q⟩⟩
theorem read_number {f : Form} (h : f.may = true) : read f.number = some f := by
  have hr : raw f.number = some f := by
    cases f with
    | val v =>
      rw [may_val] at h
      suffices key : ∀ x, x = v * 4 → raw x = some (.val v) from key _ rfl
      intro x hx
      unfold raw
      rw [if_neg (by omega), if_pos (by omega)]
      congr 2; omega
    | mcas s g =>
      rw [may_mcas] at h
      suffices key : ∀ x, x = (g * 16 + s) * 4 + 2 → raw x = some (.mcas s g) from key _ rfl
      intro x hx
      unfold raw
      rw [if_neg (by omega), if_neg (by omega), if_pos (by omega)]
      congr 2 <;> omega
    | entry s g e t q =>
      rw [may_entry] at h
      suffices key : ∀ x, x = ((((g * 16 + s) * 16 + e) * 4 + t) * 1048576 + q) * 4 + 1 → raw x = some (.entry s g e t q) from key _ rfl
      intro x hx
      unfold raw
      rw [if_neg (by omega), if_neg (by omega), if_neg (by omega), if_pos (by omega)]
      congr 2 <;> omega
  unfold read; rw [hr]; simp [h]
theorem number_of_read {x : Int} {f : Form} (h : read x = some f) : f.may = true ∧ f.number = x ∧ 0 ≤ x := by
  unfold read at h
  split at h
  · rename_i f' hr
    split at h
    · rename_i hm
      cases h
      refine ⟨hm, ?_⟩
      unfold raw at hr
      split at hr
      · cases hr
      split at hr
      · cases hr; simp only [Form.number]; omega
      split at hr
      · cases hr; simp only [Form.number]; omega
      split at hr
      · cases hr; simp only [Form.number]; omega
      · cases hr
    · cases h
  · cases h
theorem T_mlife {s g : Int} {h : GH} {K : Value → GH → Prop} (h1 : 0 ≤ s ∧ s < 12 ∧ 0 ≤ g ∧ g < 65536) (hK : K (i64 (g * 16 + s)) h) : T Tryz.prog 230 [.agg [i64 s, i64 g].toArray] h K := by
  apply T.drop
  apply S230_T
  unfold S230
  intro b hb
  refine bnd_of rfl (bnd_of (v := i64 g) (by rw [ldV_same]; rfl) (bnd_of (binV_mul _ _ _) (bnd_of rfl (bnd_of (v := i64 s) (by rw [ldV_same]; rfl) ?_))))
  rw [wrap_id (by omega) (by omega)]
  refine bnd_of (binV_add _ _ _) ?_
  rw [wrap_id (by omega) (by omega)]
  exact ⟨h, (HLe.refl h).new _ hb, hK⟩
theorem T_mnumber {s g : Int} {h : GH} {K : Value → GH → Prop} (h1 : 0 ≤ s ∧ s < 12 ∧ 0 ≤ g ∧ g < 65536) (hK : K (i64 (Form.mcas s g).number) h) : T Tryz.prog 231 [.agg [i64 s, i64 g].toArray] h K := by
  apply T.drop
  apply S231_T
  unfold S231
  intro b hb
  refine bnd_of (v := .agg [i64 s, i64 g].toArray) (by rw [ldV_same_agg]; rfl) (T_mlife h1 (bnd_of (binV_mul _ _ _) ?_))
  rw [wrap_id (by omega) (by omega)]
  refine bnd_of (binV_add _ _ _) ?_
  rw [wrap_id (by omega) (by omega)]
  exact ⟨h, (HLe.refl h).new _ hb, hK⟩
theorem T_Number_mcas {s g : Int} {h : GH} {K : Value → GH → Prop} (h1 : 0 ≤ s ∧ s < 12 ∧ 0 ≤ g ∧ g < 65536) (hK : K (i64 (Form.mcas s g).number) h) : T Tryz.prog 167 [.iface 121 (.agg [i64 s, i64 g].toArray)] h K := by
  apply S167_T
  unfold S167
  exact ⟨_, _, fun w => (by kernel_rfl : (method (Tryz.prog.types.size + Made.depth) 121 (.agg [i64 s, i64 g].toArray) "pawl/word.number").run Tryz.prog w = .ok (231, .agg [i64 s, i64 g].toArray) w), T_mnumber h1 hK⟩
theorem T_enumber {s g e t q : Int} {h : GH} {K : Value → GH → Prop} (h1 : 0 ≤ s ∧ s < 12 ∧ 0 ≤ g ∧ g < 65536 ∧ 0 ≤ e ∧ e < 16 ∧ 0 ≤ t ∧ t < 4 ∧ 0 ≤ q ∧ q < 1048576) (hK : K (i64 (Form.entry s g e t q).number) h) : T Tryz.prog 235 [.agg [i64 s, i64 g, i64 e, i64 t, i64 q].toArray] h K := by
  apply T.drop
  apply S235_T
  unfold S235
  intro b hb
  refine bnd_of rfl (bnd_of (v := .agg [i64 s, i64 g].toArray) (by rw [ldV_same_agg]; rfl) ?_)
  refine bnd_of rfl (bnd_of (v := i64 e) (by rw [ldV_same]; rfl) (bnd_of rfl (bnd_of (v := i64 t) (by rw [ldV_same]; rfl) (bnd_of rfl (bnd_of (v := i64 q) (by rw [ldV_same]; rfl) ?_)))))
  refine T_mlife ⟨h1.1, h1.2.1, h1.2.2.1, h1.2.2.2.1⟩ ⟨by rw [ldV_same]; rfl, by rw [ldV_same]; rfl, by rw [ldV_same]; rfl, ?_⟩
  refine bnd_of (binV_mul _ _ _) ?_
  rw [wrap_id (by omega) (by omega)]
  refine bnd_of (binV_add _ _ _) ?_
  rw [wrap_id (by omega) (by omega)]
  refine bnd_of (binV_mul _ _ _) ?_
  rw [wrap_id (by omega) (by omega)]
  refine bnd_of (binV_add _ _ _) ?_
  rw [wrap_id (by omega) (by omega)]
  refine bnd_of (binV_mul _ _ _) ?_
  rw [wrap_id (by omega) (by omega)]
  refine bnd_of (binV_add _ _ _) ?_
  rw [wrap_id (by omega) (by omega)]
  refine bnd_of (binV_mul _ _ _) ?_
  rw [wrap_id (by omega) (by omega)]
  refine bnd_of (binV_add _ _ _) ?_
  rw [wrap_id (by omega) (by omega)]
  exact ⟨h, (HLe.refl h).new _ hb, hK⟩
theorem T_Number_entry {s g e t q : Int} {h : GH} {K : Value → GH → Prop} (h1 : 0 ≤ s ∧ s < 12 ∧ 0 ≤ g ∧ g < 65536 ∧ 0 ≤ e ∧ e < 16 ∧ 0 ≤ t ∧ t < 4 ∧ 0 ≤ q ∧ q < 1048576) (hK : K (i64 (Form.entry s g e t q).number) h) : T Tryz.prog 167 [.iface 217 (.agg [i64 s, i64 g, i64 e, i64 t, i64 q].toArray)] h K := by
  apply S167_T
  unfold S167
  exact ⟨_, _, fun w => (by kernel_rfl : (method (Tryz.prog.types.size + Made.depth) 217 (.agg [i64 s, i64 g, i64 e, i64 t, i64 q].toArray) "pawl/word.number").run Tryz.prog w = .ok (235, .agg [i64 s, i64 g, i64 e, i64 t, i64 q].toArray) w), T_enumber h1 hK⟩
def encI (x : Int) : List Value := [i64 x]
theorem encI_good (ts : List Int) : ∀ c ∈ ts.map encI, good 1 c := by
  intro c hc
  obtain ⟨t, _, rfl⟩ := List.mem_map.1 hc
  exact ⟨rfl, rfl⟩
theorem T_SameInts {v w : Value} {us ws : List Int} {h : GH} {K : Value → GH → Prop} (r : rowsAt h 1 v (us.map encI)) (q : rowsAt h 1 w (ws.map encI)) (hK : K (.bool (decide (us = ws))) h) : T Tryz.prog 11 [v, w] h K := by
  apply S11_T
  unfold S11
  have ⟨a, n, cap, hv, hl, _, hm, _⟩ := r
  have ⟨a2, n2, cap2, hw, hl2, _, hm2, _⟩ := q
  simp only [List.length_map] at hl hl2
  subst hv; subst hw
  simp only [lnV_slice, bnd_some, eqI_int]
  by_cases hlen : n = n2
  · have e1 : ((n : Int) = (n2 : Int)) := by omega
    simp only [e1, decide_true, Bool.not_true, ifV_false]
    refine Lfp_fam (ι := Nat) (fun i => [.slice a n cap, .slice a2 n2 cap2, i64 i]) (fun i h' => i ≤ n ∧ h' = h ∧ us.take i = ws.take i) (fun i => n - i) ?_ 0 h ⟨by omega, rfl, by simp⟩
    intro i h' X ⟨hi, he, hsame⟩ again
    subst he
    simp only [tup_zero, tup_succ, lnV_slice, binV_lss, bnd_some, ifV_dec]
    split
    · rename_i hlt
      obtain ⟨x, hx⟩ : ∃ x, us[i]? = some x := ⟨_, List.getElem?_eq_getElem (by omega)⟩
      obtain ⟨y, hy⟩ : ∃ y, ws[i]? = some y := ⟨_, List.getElem?_eq_getElem (by omega)⟩
      obtain ⟨p, hp, hlp⟩ := r.get1 (i := i) (x := i64 x) (by simp [hx, encI]) .i64
      obtain ⟨p2, hp2, hlp2⟩ := q.get1 (i := i) (x := i64 y) (by simp [hy, encI]) .i64
      simp only [hp, hlp, hp2, hlp2, bnd_some, eqI_int]
      by_cases hxy : x = y
      · simp only [hxy, decide_true, Bool.not_true, ifV_false, binV_add, bnd_some]
        rw [wrap_id (by omega) (by omega)]
        refine again (i + 1) _ ⟨by omega, rfl, ?_⟩ (by omega)
        rw [List.take_add_one, List.take_add_one, hsame, hx, hy, hxy]
      · simp only [hxy, decide_false, Bool.not_false, ifV_true]
        have : us ≠ ws := fun e => hxy (by rw [e, hy] at hx; cases hx; rfl)
        simpa [this] using hK
    · have hi : i = n := by omega
      have : us = ws := by
        rw [List.take_of_length_le (by omega), List.take_of_length_le (by omega)] at hsame
        exact hsame
      simpa [this] using hK
  · have e1 : ¬ ((n : Int) = (n2 : Int)) := by omega
    simp only [e1, decide_false, Bool.not_false, ifV_true]
    have : us ≠ ws := fun e => hlen (by rw [← hl, ← hl2, e])
    simpa [this] using hK
set_option maxRecDepth 20000
structure Ar where
  ws : List Int
  last : List Int
  any : Bool
def Ar.cells (a : Ar) : List Value := a.ws.map i64 ++ (a.last.map i64 ++ [.bool a.any])
structure Ar.ok (a : Ar) : Prop where
  words : a.ws.length = 634
  touch : a.last.length = 8
  range : ∀ x ∈ a.ws, -9223372036854775808 ≤ x ∧ x ≤ 9223372036854775807
def arAt (T : TypeId) (h : GH) (b : Nat) (a : Ar) : Prop := h b = some (.row T a.cells 643 true) ∧ a.ok
theorem Ar.ok.len {a : Ar} (o : a.ok) : a.cells.length = 643 := by
  unfold Ar.cells; simp only [List.length_append, List.length_map, List.length_cons, List.length_nil, o.words, o.touch]
theorem Ar.word {a : Ar} (o : a.ok) {i : Nat} {x : Int} (h : a.ws[i]? = some x) : a.cells[i]? = some (i64 x) := by
  have hi := (List.getElem?_eq_some_iff.1 h).1
  unfold Ar.cells
  rw [List.getElem?_append_left (by rw [List.length_map]; exact hi), List.getElem?_map, h]; rfl
theorem Ar.set_word {a : Ar} (o : a.ok) {i : Nat} (hi : i < 634) (x : Int) : a.cells.set i (i64 x) = (Ar.mk (a.ws.set i x) a.last a.any).cells := by
  unfold Ar.cells
  rw [List.set_append_left _ _ (by rw [List.length_map, o.words]; exact hi), List.map_set]
theorem Ar.set_last {a : Ar} (o : a.ok) {t : List Int} (ht : t.length = 8) : setCells a.cells 634 (t.map i64) = (Ar.mk a.ws t a.any).cells := by
  have hw : (a.ws.map i64).length = 634 := by rw [List.length_map]; exact o.words
  have := setCells_right (t.map i64) (a.ws.map i64) (a.last.map i64 ++ [.bool a.any]) 0
  rw [hw, Nat.add_zero] at this
  unfold Ar.cells
  rw [this, setCells_left _ _ _ _ (by rw [List.length_map, List.length_map, ht, o.touch]; decide), setCells_all (by rw [List.length_map, List.length_map, ht, o.touch])]
theorem Ar.set_any {a : Ar} (o : a.ok) (y : Bool) : a.cells.set 642 (.bool y) = (Ar.mk a.ws a.last y).cells := by
  unfold Ar.cells
  rw [List.set_append_right _ _ (by rw [List.length_map, o.words]; decide), List.length_map, o.words, List.set_append_right _ _ (by rw [List.length_map, o.touch]; decide), List.length_map, o.touch]; rfl
def Ar.touch (a : Ar) (k : Int) (i : Nat) (was now : Int) : Ar := ⟨a.ws.set i now, [0, k, i, was, now, 0, 0, 0], true⟩
theorem Ar.touch_ok {a : Ar} (o : a.ok) {k : Int} {i : Nat} {was now : Int} (h : -9223372036854775808 ≤ now ∧ now ≤ 9223372036854775807) : (a.touch k i was now).ok := by
  refine ⟨by unfold Ar.touch; rw [List.length_set]; exact o.words, rfl, fun x hx => ?_⟩
  rcases List.mem_or_eq_of_mem_set hx with q | q
  · exact o.range x q
  · subst q; exact h
theorem arAt.ldW {T : TypeId} {h : GH} {b : Nat} {a : Ar} (ha : arAt T h b a) {i : Nat} {x : Int} (hx : a.ws[i]? = some x) : ldV 1 false (.pointer (some ⟨b, 0 + 0 + i * 1, none⟩)) h = some (i64 x) := by
  have e2 : (0 + 0 + i * 1) = i := by omega
  rw [e2, ldV_cell ha.1]; exact a.word ha.2 hx
theorem T_arenaTouch {b i : Nat} {a : Ar} {k was now : Int} {fv : Value} {h : GH} {K : Value → GH → Prop} (ha : arAt 142 h b a) (hw : a.ws[i]? = some was) (hnow : -9223372036854775808 ≤ now ∧ now ≤ 9223372036854775807)
    (hf : ∀ K : Value → GH → Prop, K (i64 now) h → callV Tryz.prog fv [i64 was] h K)
    (hK : K (.tuple #[i64 was, i64 0]) (upd h b (.row 142 (a.touch k i was now).cells 643 true))) : T Tryz.prog 146 [.pointer (some ⟨b, 0, none⟩), i64 k, i64 i, fv] h K := by
  apply S146_T
  unfold S146
  have ha0 := ha
  obtain ⟨hb, o⟩ := ha
  have hi : i < 634 := by have := (List.getElem?_eq_some_iff.1 hw).1; rw [o.words] at this; exact this
  refine bnd_of rfl (ifV_f rfl (T_Below (bnd_of rfl ?_)))
  rw [decide_eq_true (by omega)]
  refine ifV_f rfl (bnd_of rfl (bnd_of rfl (bnd_of (iaV_at hi .i64) (bnd_of (ha0.ldW hw) (bnd_of rfl (bnd_of rfl (hf _ ?_)))))))
  have o1 : (Ar.mk (a.ws.set i now) a.last a.any).cells.length = 643 := by rw [← a.set_word o hi now, List.length_set]; exact o.len
  have e2 : (0 + 0 + i * 1) = i := by omega
  refine bnd_of (iaV_at hi .i64) (bnd_of (v := upd h b (.row 142 (Ar.mk (a.ws.set i now) a.last a.any).cells 643 true)) ?_ ?_)
  · rw [stV_row hb 1 _ _ rfl (by rw [o.len]; omega) rfl, e2, ← a.set_word o hi now]; rfl
  refine bnd_of rfl (bnd_of rfl (bnd_of (iaV_at hi .i64) (bnd_of (v := i64 now) ?_ ?_)))
  · rw [e2, ldV_cell (upd_same _ _ _), ← a.set_word o hi now, List.getElem?_set_self (by rw [o.len]; omega)]
  refine bnd_of (v := ([0, k, i, was, now, 0, 0, 0] : List Int).map i64) rfl ?_
  have hl : (a.ws.set i now).length = 634 := by rw [List.length_set]; exact o.words
  have ok1 : (Ar.mk (a.ws.set i now) a.last a.any).ok := ⟨hl, o.touch, (a.touch_ok o (k := k) (i := i) (was := was) hnow).range⟩
  have ok2 : (Ar.mk (a.ws.set i now) [0, k, i, was, now, 0, 0, 0] a.any).ok := ⟨hl, rfl, ok1.range⟩
  refine bnd_of rfl (bnd_of rfl (bnd_of (v := upd h b (.row 142 (Ar.mk (a.ws.set i now) [0, k, i, was, now, 0, 0, 0] a.any).cells 643 true)) ?_ ?_))
  · rw [stV_row (upd_same _ _ _) 8 _ _ rfl (by rw [ok1.len]; decide) rfl, upd_upd, ← Ar.set_last ok1 (t := [0, k, i, was, now, 0, 0, 0]) rfl]; rfl
  refine bnd_of rfl (bnd_of rfl (bnd_of (v := upd h b (.row 142 (a.touch k i was now).cells 643 true)) ?_ hK))
  rw [stV_row (upd_same _ _ _) 1 _ _ rfl (by rw [ok2.len]; decide) rfl, upd_upd]
  unfold Ar.touch
  rw [← Ar.set_any ok2 true]; rfl
theorem T_Load {b i : Nat} {a : Ar} {was : Int} {h : GH} {K : Value → GH → Prop} (ha : arAt 142 h b a) (hw : a.ws[i]? = some was)
    (hK : K (.tuple #[i64 was, i64 0]) (upd h b (.row 142 (a.touch 0 i was was).cells 643 true))) : T Tryz.prog 128 [.pointer (some ⟨b, 0, none⟩), i64 i] h K := by
  apply S128_T
  unfold S128
  exact T_arenaTouch ha hw (ha.2.range _ (List.mem_of_getElem? hw)) (fun K q => S148_T q) (bnd_of rfl (bnd_of rfl hK))
theorem T_Store {b i : Nat} {a : Ar} {was now : Int} {h : GH} {K : Value → GH → Prop} (ha : arAt 142 h b a) (hw : a.ws[i]? = some was) (hnow : -9223372036854775808 ≤ now ∧ now ≤ 9223372036854775807)
    (hK : K (.tuple #[i64 was, i64 0]) (upd h b (.row 142 (a.touch 1 i was now).cells 643 true))) : T Tryz.prog 127 [.pointer (some ⟨b, 0, none⟩), i64 i, i64 now] h K := by
  apply T.drop
  apply S127_T
  unfold S127
  intro b1 hb1
  have l := (HLe.refl h).new (.row 3 [i64 now] 1 true) hb1
  refine T_arenaTouch ⟨l _ _ ha.1, ha.2⟩ hw hnow (fun K q => ?_) (bnd_of rfl (bnd_of rfl ⟨_, l.upd b _, hK⟩))
  refine S147_T ?_
  exact bnd_of (v := i64 now) (by rw [ldV_same]; rfl) q
theorem T_Swap {b i : Nat} {a : Ar} {was old now : Int} {h : GH} {K : Value → GH → Prop} (ha : arAt 142 h b a) (hw : a.ws[i]? = some was) (hnow : -9223372036854775808 ≤ now ∧ now ≤ 9223372036854775807)
    (hK : K (.tuple #[i64 was, i64 0]) (upd h b (.row 142 (a.touch 2 i was (if was = old then now else was)).cells 643 true))) : T Tryz.prog 158 [.pointer (some ⟨b, 0, none⟩), i64 i, i64 old, i64 now] h K := by
  apply T.drop
  apply S158_T
  unfold S158
  intro b1 hb1 b2 hb2
  have l1 := (HLe.refl h).new (.row 3 [i64 old] 1 true) hb1
  have l := l1.new (.row 3 [i64 now] 1 true) (l1.none hb2)
  have hne : b1 ≠ b2 := by rintro rfl; simp at hb2
  refine T_arenaTouch (now := if was = old then now else was) ⟨l _ _ ha.1, ha.2⟩ hw ?_ (fun K q => ?_) (bnd_of rfl (bnd_of rfl ⟨_, l.upd b _, hK⟩))
  · split
    · exact hnow
    · exact ha.2.range _ (List.mem_of_getElem? hw)
  refine S172_T ?_
  refine bnd_of (v := i64 old) (by rw [ldV_other hne, ldV_same]; rfl) (bnd_of (eqI_int _ _ _) ?_)
  rw [ifV_dec]
  split
  · rename_i e
    rw [if_pos e] at q
    exact bnd_of (v := i64 now) (by rw [ldV_same]; rfl) q
  · rename_i e
    rw [if_neg e] at q
    exact q
abbrev Part := GH → Prop
def Disj (h1 h2 : GH) : Prop := ∀ b, h1 b = none ∨ h2 b = none
def Sep (P Q : Part) : Part := fun h => ∃ h1 h2, Disj h1 h2 ∧ HLe h1 h ∧ HLe h2 h ∧ P h1 ∧ Q h2
def All : List Part → Part
  | [] => fun _ => True
  | P :: l => Sep P (All l)
def emp : Part := fun _ => True
def pts (b : Nat) (g : GObj) : Part := fun h => h b = some g
theorem Disj.symm {h1 h2 : GH} (d : Disj h1 h2) : Disj h2 h1 := fun b => (d b).symm
theorem Disj.le {h1 h2 k1 k2 : GH} (d : Disj h1 h2) (l1 : HLe k1 h1) (l2 : HLe k2 h2) : Disj k1 k2 := fun b => (d b).imp l1.none l2.none
theorem Disj.left {h1 h2 : GH} (d : Disj h1 h2) {b : Nat} {g : GObj} (e : h1 b = some g) : h2 b = none := by
  rcases d b with q | q
  · rw [e] at q; cases q
  · exact q
theorem Disj.right {h1 h2 : GH} (d : Disj h1 h2) {b : Nat} {g : GObj} (e : h2 b = some g) : h1 b = none := d.symm.left e
theorem Sep.le {P Q : Part} {h h' : GH} (l : HLe h h') : Sep P Q h → Sep P Q h' := fun ⟨h1, h2, d, l1, l2, p, q⟩ => ⟨h1, h2, d, l1.trans l, l2.trans l, p, q⟩
theorem All.le {l : List Part} {h h' : GH} (e : HLe h h') (a : All l h) : All l h' := by
  cases l with
  | nil => trivial
  | cons P l => exact Sep.le e a
theorem Sep.mono {P P' Q Q' : Part} {h : GH} (p : ∀ h, P h → P' h) (q : ∀ h, Q h → Q' h) : Sep P Q h → Sep P' Q' h := fun ⟨h1, h2, d, l1, l2, a, b⟩ => ⟨h1, h2, d, l1, l2, p _ a, q _ b⟩
def uni (h1 h2 : GH) : GH := fun b => match h1 b with | some g => some g | none => h2 b
theorem uni_left (h1 h2 : GH) : HLe h1 (uni h1 h2) := fun b g e => by simp only [uni, e]
theorem uni_right {h1 h2 : GH} (d : Disj h1 h2) : HLe h2 (uni h1 h2) := fun b g e => by simp only [uni, d.right e]; exact e
theorem uni_le {h1 h2 h : GH} (l1 : HLe h1 h) (l2 : HLe h2 h) : HLe (uni h1 h2) h := fun b g e => by
  simp only [uni] at e
  split at e
  · rename_i q; cases e; exact l1 _ _ q
  · exact l2 _ _ e
theorem Disj.uni {h h1 h2 : GH} (d1 : Disj h h1) (d2 : Disj h h2) : Disj h (uni h1 h2) := fun b => by
  rcases d1 b with q | q
  · exact .inl q
  · rcases d2 b with r | r
    · exact .inl r
    · right; simp only [Go.Proofs.YtcpfkkppfgolaaaGreatDoor.uni, q]; exact r
theorem Sep.comm {P Q : Part} {h : GH} : Sep P Q h → Sep Q P h := fun ⟨h1, h2, d, l1, l2, p, q⟩ => ⟨h2, h1, d.symm, l2, l1, q, p⟩
theorem Sep.left_comm {P Q R : Part} {h : GH} : Sep P (Sep Q R) h → Sep Q (Sep P R) h := by
  rintro ⟨h1, h2, d, l1, l2, p, h3, h4, d2, l3, l4, q, r⟩
  have d14 : Disj h1 h4 := d.le (.refl _) l4
  exact ⟨h3, uni h1 h4, Disj.uni (d.le (.refl _) l3).symm d2, l3.trans l2, uni_le l1 (l4.trans l2), q, h1, h4, d14, uni_left _ _, uni_right d14, p, r⟩
theorem All.take_at {l : List Part} : ∀ {i : Nat} {P : Part} {h : GH}, l[i]? = some P → All l h → Sep P (All (l.eraseIdx i)) h := by
  induction l with
  | nil => intro i P h e; simp at e
  | cons Q l ih =>
    intro i P h e a
    cases i with
    | zero => simp at e; subst e; exact a
    | succ i =>
      have e' : l[i]? = some P := by simpa using e
      exact Sep.left_comm (Sep.mono (fun _ x => x) (fun _ x => ih e' x) a)
theorem All.put_at {l : List Part} : ∀ {i : Nat} {P : Part} {h : GH}, i < l.length → Sep P (All (l.eraseIdx i)) h → All (l.set i P) h := by
  induction l with
  | nil => intro i P h e; simp at e
  | cons Q l ih =>
    intro i P h e a
    cases i with
    | zero => exact a
    | succ i =>
      have e' : i < l.length := by simpa using e
      exact Sep.mono (fun _ x => x) (fun _ x => ih e' x) (Sep.left_comm a)
def upL (l : List Part) (i : Nat) : List Part := match l[i]? with | some P => P :: l.eraseIdx i | none => l
theorem All.up {l : List Part} {h : GH} (a : All l h) (i : Nat) : All (upL l i) h := by
  unfold upL
  split
  · rename_i P e; exact All.take_at e a
  · exact a
def dnL : Nat → Part → List Part → List Part
  | 0, P, l => P :: l
  | _ + 1, P, [] => [P]
  | n + 1, P, Q :: l => Q :: dnL n P l
theorem All.dn {l : List Part} : ∀ {P : Part} {h : GH}, All (P :: l) h → ∀ i, All (dnL i P l) h := by
  induction l with
  | nil => intro P h a i; cases i <;> exact a
  | cons Q l ih =>
    intro P h a i
    cases i with
    | zero => exact a
    | succ i => exact Sep.mono (fun _ x => x) (fun _ x => ih x i) (Sep.left_comm a)
def selL (l : List Part) : List Nat → List Part
  | [] => []
  | i :: is => match l[i]? with | some P => P :: selL (l.set i emp) is | none => []
theorem All.emp_at {l : List Part} {i : Nat} {h : GH} (a : All (l.eraseIdx i) h) (hi : i < l.length) : All (l.set i emp) h :=
  All.put_at hi ⟨fun _ => none, h, fun b => .inl rfl, fun b g e => (by cases e), .refl _, trivial, a⟩
theorem All.sel (is : List Nat) : ∀ {l : List Part} {h : GH}, All l h → All (selL l is) h := by
  induction is with
  | nil => intros; trivial
  | cons i is ih =>
    intro l h a
    unfold selL
    split
    · rename_i P e
      have hi := (List.getElem?_eq_some_iff.1 e).1
      exact Sep.mono (fun _ x => x) (fun _ x => ih (All.emp_at x hi)) (All.take_at e a)
    · trivial
theorem All.tail {P : Part} {l : List Part} {h : GH} (a : All (P :: l) h) : All l h := by
  obtain ⟨h1, h2, _, _, l2, _, q⟩ := a
  exact q.le l2
theorem All.head {P Q : Part} {l : List Part} {h : GH} (a : All (P :: l) h) (p : ∀ h, P h → Q h) : All (Q :: l) h := Sep.mono p (fun _ x => x) a
theorem All.mono2 {P : Part} {l l' : List Part} {h : GH} (a : All (P :: l) h) (p : ∀ h, All l h → All l' h) : All (P :: l') h := Sep.mono (fun _ x => x) p a
theorem All.app {l : List Part} : ∀ {l' : List Part} {h : GH}, Sep (All l) (All l') h → All (l ++ l') h := by
  induction l with
  | nil => intro l' h ⟨h1, h2, d, l1, l2, p, q⟩; exact q.le l2
  | cons P l ih =>
    rintro l' h ⟨h1, h2, d, l1, l2, ⟨h3, h4, d2, l3, l4, p, q⟩, r⟩
    have d42 : Disj h4 h2 := d.le l4 (.refl _)
    have d32 : Disj h3 h2 := d.le l3 (.refl _)
    exact ⟨h3, uni h4 h2, Disj.uni d2 d32, l3.trans l1, uni_le (l4.trans l1) l2, p, ih ⟨h4, h2, d42, uni_left _ _, uni_right d42, q, r⟩⟩
theorem All.unapp {l : List Part} : ∀ {l' : List Part} {h : GH}, All (l ++ l') h → Sep (All l) (All l') h := by
  induction l with
  | nil => intro l' h a; exact ⟨fun _ => none, h, fun b => .inl rfl, fun b g e => (by cases e), .refl _, trivial, a⟩
  | cons P l ih =>
    rintro l' h ⟨h1, h2, d, l1, l2, p, r⟩
    obtain ⟨h3, h4, d2, l3, l4, q, r⟩ := ih r
    have d13 : Disj h1 h3 := d.le (.refl _) l3
    have d14 : Disj h1 h4 := d.le (.refl _) l4
    exact ⟨uni h1 h3, h4, (Disj.uni d14.symm d2.symm).symm, uni_le l1 (l3.trans l2), l4.trans l2, ⟨h1, h3, d13, uni_left _ _, uni_right d13, p, q⟩, r⟩
theorem All.re {l : List Part} {h : GH} (a : All l h) (n : Nat) (is : List Nat) : All (selL (l.take n) is ++ l.drop n) h := by
  have b : All (l.take n ++ l.drop n) h := by rw [List.take_append_drop]; exact a
  exact All.app (Sep.mono (fun _ x => x.sel is) (fun _ x => x) b.unapp)
theorem All.flat {l l' : List Part} {h : GH} (a : All (All l :: l') h) : All (l ++ l') h := All.app a
theorem All.fold {l l' : List Part} {h : GH} (a : All (l ++ l') h) : All (All l :: l') h := All.unapp a
theorem All.ex {α : Type} {P : α → Part} {l : List Part} {h : GH} (a : All ((fun h => ∃ x, P x h) :: l) h) : ∃ x, All (P x :: l) h := by
  obtain ⟨h1, h2, d, l1, l2, ⟨x, p⟩, q⟩ := a
  exact ⟨x, h1, h2, d, l1, l2, p, q⟩
theorem All.pure {p : Prop} {P : Part} {l : List Part} {h : GH} (a : All ((fun h => p ∧ P h) :: l) h) : p ∧ All (P :: l) h := by
  obtain ⟨h1, h2, d, l1, l2, ⟨x, p⟩, q⟩ := a
  exact ⟨x, h1, h2, d, l1, l2, p, q⟩
theorem All.case {P : Part} {l : List Part} {h : GH} {C : Prop} (a : All (P :: l) h) (k : ∀ h1, P h1 → (∀ Q : Part, Q h1 → All (Q :: l) h) → C) : C := by
  obtain ⟨h1, h2, d, l1, l2, p, q⟩ := a
  exact k h1 p fun Q r => ⟨h1, h2, d, l1, l2, r, q⟩
theorem All.emp_cons {P : Part} {l : List Part} {h : GH} (a : All l h) (p : P fun _ => none) : All (P :: l) h := ⟨fun _ => none, h, fun b => .inl rfl, fun b g e => (by cases e), .refl _, p, a⟩
theorem All.one {P : Part} {h : GH} (p : P h) : All [P] h := ⟨h, fun _ => none, fun b => .inr rfl, .refl _, fun b g e => (by cases e), p, trivial⟩
theorem All.two {P Q : Part} {h : GH} (p : P h) (q : Q fun _ => none) : All [P, Q] h := ⟨h, fun _ => none, fun b => .inr rfl, .refl _, fun b g e => (by cases e), p, All.one q⟩
theorem All.pt {l : List Part} {i b : Nat} {g : GObj} {h : GH} (a : All l h) (e : l[i]? = some (pts b g)) : h b = some g := by
  obtain ⟨h1, h2, d, l1, l2, p, q⟩ := All.take_at e a
  exact l1 _ _ p
theorem All.pt0 {b : Nat} {g : GObj} {l : List Part} {h : GH} (a : All (pts b g :: l) h) : h b = some g := a.pt (i := 0) rfl
theorem All.pt1 {b : Nat} {g : GObj} {P : Part} {l : List Part} {h : GH} (a : All (P :: pts b g :: l) h) : h b = some g := a.pt (i := 1) rfl
theorem All.pt2 {b : Nat} {g : GObj} {P Q : Part} {l : List Part} {h : GH} (a : All (P :: Q :: pts b g :: l) h) : h b = some g := a.pt (i := 2) rfl
theorem All.upd0 {l : List Part} {b : Nat} {g g' : GObj} {h : GH} (a : All (pts b g :: l) h) : All (pts b g' :: l) (upd h b g') := by
  obtain ⟨h1, h2, d, l1, l2, p, q⟩ := a
  have hn := d.left p
  refine ⟨upd (fun _ => none) b g', h2, fun k => ?_, ?_, ?_, upd_same _ _ _, q⟩
  · by_cases e : k = b
    · subst e; exact .inr hn
    · left; rw [upd_ne e]
  · intro k g e
    by_cases e' : k = b
    · subst e'; rw [upd_same] at e ⊢; exact e
    · rw [upd_ne e'] at e; cases e
  · intro k g e
    rw [upd_ne (ne_of_fresh hn e)]; exact l2 _ _ e
theorem All.upd {l : List Part} {i b : Nat} {g g' : GObj} {h : GH} (a : All l h) (e : l[i]? = some (pts b g)) : All (l.set i (pts b g')) (upd h b g') := by
  have hi := (List.getElem?_eq_some_iff.1 e).1
  have t : All (pts b g :: l.eraseIdx i) h := All.take_at e a
  exact All.put_at hi t.upd0
theorem All.upd1 {l : List Part} {P : Part} {b : Nat} {g g' : GObj} {h : GH} (a : All (P :: pts b g :: l) h) : All (P :: pts b g' :: l) (GW.upd h b g') := a.upd (i := 1) rfl
theorem All.upd2 {l : List Part} {P Q : Part} {b : Nat} {g g' : GObj} {h : GH} (a : All (P :: Q :: pts b g :: l) h) : All (P :: Q :: pts b g' :: l) (GW.upd h b g') := a.upd (i := 2) rfl
theorem All.new {l : List Part} {b : Nat} {g : GObj} {h : GH} (a : All l h) (hb : h b = none) : All (pts b g :: l) (GW.upd h b g) := by
  refine ⟨GW.upd (fun _ => none) b g, h, fun k => ?_, ?_, ?_, upd_same _ _ _, a⟩
  · by_cases e : k = b
    · subst e; exact .inr hb
    · left; rw [upd_ne e]
  · intro k g e
    by_cases e' : k = b
    · subst e'; rw [upd_same] at e ⊢; exact e
    · rw [upd_ne e'] at e; cases e
  · intro k g e
    rw [upd_ne (ne_of_fresh hb e)]; exact e
section
variable {h : GH} {b off n sz : Nat} {T : TypeId} {pre : List Value} {f : Bool} {v : Value} {P Q R : Part} {l : List Part}
theorem ld0 {K : Value → Prop} (a : All (pts b (.row T pre sz f) :: l) h) (hv : pre[off]? = some v) (k : K v) : bnd (ldV n false (.pointer (some ⟨b, off, none⟩)) h) K := bnd_of (by rw [ldV_cell a.pt0]; exact hv) k
theorem ld1 {K : Value → Prop} (a : All (P :: pts b (.row T pre sz f) :: l) h) (hv : pre[off]? = some v) (k : K v) : bnd (ldV n false (.pointer (some ⟨b, off, none⟩)) h) K := bnd_of (by rw [ldV_cell a.pt1]; exact hv) k
theorem ld2 {K : Value → Prop} (a : All (P :: Q :: pts b (.row T pre sz f) :: l) h) (hv : pre[off]? = some v) (k : K v) : bnd (ldV n false (.pointer (some ⟨b, off, none⟩)) h) K := bnd_of (by rw [ldV_cell a.pt2]; exact hv) k
theorem la0 {K : Value → Prop} {c : List Value} (a : All (pts b (.row T pre sz f) :: l) h) (hl : off + n ≤ pre.length) (hc : (pre.drop off).take n = c) (k : K (.agg c.toArray)) : bnd (ldV n true (.pointer (some ⟨b, off, none⟩)) h) K := bnd_of (by rw [ldV_agg a.pt0 _ _ hl, hc]) k
theorem la1 {K : Value → Prop} {c : List Value} (a : All (P :: pts b (.row T pre sz f) :: l) h) (hl : off + n ≤ pre.length) (hc : (pre.drop off).take n = c) (k : K (.agg c.toArray)) : bnd (ldV n true (.pointer (some ⟨b, off, none⟩)) h) K := bnd_of (by rw [ldV_agg a.pt1 _ _ hl, hc]) k
theorem la2 {K : Value → Prop} {c : List Value} (a : All (P :: Q :: pts b (.row T pre sz f) :: l) h) (hl : off + n ≤ pre.length) (hc : (pre.drop off).take n = c) (k : K (.agg c.toArray)) : bnd (ldV n true (.pointer (some ⟨b, off, none⟩)) h) K := bnd_of (by rw [ldV_agg a.pt2 _ _ hl, hc]) k
theorem st0 {K : GH → Prop} (a : All (pts b (.row T pre sz true) :: l) h) (g : GObj) (hn : v.cells.size = n) (hl : off + n ≤ pre.length) (hc : v.cells.toList.all oneCell = true) (hg : .row T (setCells pre off v.cells.toList) sz true = g) (k : ∀ h', All (pts b g :: l) h' → K h') : bnd (stV n (.pointer (some ⟨b, off, none⟩)) v h) K := by
  subst hg; exact bnd_of (stV_row a.pt0 n off v hn hl hc) (k _ a.upd0)
theorem st1 {K : GH → Prop} (a : All (P :: pts b (.row T pre sz true) :: l) h) (g : GObj) (hn : v.cells.size = n) (hl : off + n ≤ pre.length) (hc : v.cells.toList.all oneCell = true) (hg : .row T (setCells pre off v.cells.toList) sz true = g) (k : ∀ h', All (P :: pts b g :: l) h' → K h') : bnd (stV n (.pointer (some ⟨b, off, none⟩)) v h) K := by
  subst hg; exact bnd_of (stV_row a.pt1 n off v hn hl hc) (k _ a.upd1)
theorem st2 {K : GH → Prop} (a : All (P :: Q :: pts b (.row T pre sz true) :: l) h) (g : GObj) (hn : v.cells.size = n) (hl : off + n ≤ pre.length) (hc : v.cells.toList.all oneCell = true) (hg : .row T (setCells pre off v.cells.toList) sz true = g) (k : ∀ h', All (P :: Q :: pts b g :: l) h' → K h') : bnd (stV n (.pointer (some ⟨b, off, none⟩)) v h) K := by
  subst hg; exact bnd_of (stV_row a.pt2 n off v hn hl hc) (k _ a.upd2)
theorem nw {K : Value → GH → Prop} {cells : List Value} (a : All l h) (g : GObj) (hg : .row T cells cells.length true = g) (k : ∀ b h', All (pts b g :: l) h' → K (.pointer (some ⟨b, 0, none⟩)) h') : newV T cells h K := by
  subst hg; exact fun b hb => k b _ (a.new hb)
theorem nwst {K : Value → GH → Prop} {zero : List Value} {x : Value} (a : All l h) (g : GObj) (hn : x.cells.size = n) (hz : zero.length = n) (hone : x.cells.toList.all oneCell = true) (hg : .row T x.cells.toList n true = g) (k : ∀ b h', All (pts b g :: l) h' → K (.pointer (some ⟨b, 0, none⟩)) h') : newV T zero h fun v h1 => bnd (stV n v x h1) fun h2 => K v h2 := by
  subst hg
  refine fun b hb => bnd_of (v := GW.upd h b (.row T x.cells.toList n true)) ?_ (k b _ (a.new hb))
  have hl : x.cells.toList.length = n := hn
  rw [stV_same, if_pos ⟨hn, by omega, hone⟩, setCells_all (by omega), hz]
end
theorem add_id {a b : Int} (h1 : -9223372036854775808 ≤ a + b) (h2 : a + b ≤ 9223372036854775807) : binV .add (.int .i64 a) (.int .i64 b) = some (i64 (a + b)) := by rw [binV_add, wrap_id h1 h2]
theorem sub_id {a b : Int} (h1 : -9223372036854775808 ≤ a - b) (h2 : a - b ≤ 9223372036854775807) : binV .sub (.int .i64 a) (.int .i64 b) = some (i64 (a - b)) := by rw [binV_sub, wrap_id h1 h2]
theorem mul_id {a b : Int} (h1 : -9223372036854775808 ≤ a * b) (h2 : a * b ≤ 9223372036854775807) : binV .mul (.int .i64 a) (.int .i64 b) = some (i64 (a * b)) := by rw [binV_mul, wrap_id h1 h2]
theorem ifV_p {c : Prop} [Decidable c] {A B : Prop} (h : c) (a : A) : ifV (.bool (decide c)) A B := by rw [ifV_dec, if_pos h]; exact a
theorem ifV_n {c : Prop} [Decidable c] {A B : Prop} (h : ¬ c) (b : B) : ifV (.bool (decide c)) A B := by rw [ifV_dec, if_neg h]; exact b
theorem ifV_cases {c : Prop} [Decidable c] {A B : Prop} (a : c → A) (b : ¬ c → B) : ifV (.bool (decide c)) A B := by
  rw [ifV_dec]; split
  · rename_i q; exact a q
  · rename_i q; exact b q
theorem ifN_cases {c : Prop} [Decidable c] {A B : Prop} (a : ¬ c → A) (b : c → B) : ifV (.bool (!decide c)) A B := by
  by_cases q : c
  · rw [decide_eq_true q]; exact b q
  · rw [decide_eq_false q]; exact a q
theorem ifV_bool {c : Bool} {A B : Prop} (a : c = true → A) (b : c = false → B) : ifV (.bool c) A B := by
  cases c
  · exact b rfl
  · exact a rfl
section
variable {h : GH} {b off n sz : Nat} {T : TypeId} {pre : List Value} {f : Bool} {v : Value} {P Q R : Part} {l : List Part} {C : Prop}
theorem hl0 (a : All (pts b (.row T pre sz f) :: l) h) (hv : pre[off]? = some v) (k : C) : ldV n false (.pointer (some ⟨b, off, none⟩)) h = some v ∧ C := ⟨by rw [ldV_cell a.pt0]; exact hv, k⟩
theorem hl1 (a : All (P :: pts b (.row T pre sz f) :: l) h) (hv : pre[off]? = some v) (k : C) : ldV n false (.pointer (some ⟨b, off, none⟩)) h = some v ∧ C := ⟨by rw [ldV_cell a.pt1]; exact hv, k⟩
theorem hl2 (a : All (P :: Q :: pts b (.row T pre sz f) :: l) h) (hv : pre[off]? = some v) (k : C) : ldV n false (.pointer (some ⟨b, off, none⟩)) h = some v ∧ C := ⟨by rw [ldV_cell a.pt2]; exact hv, k⟩
theorem hla1 {c : List Value} (a : All (P :: pts b (.row T pre sz f) :: l) h) (hl : off + n ≤ pre.length) (hc : (pre.drop off).take n = c) (k : C) : ldV n true (.pointer (some ⟨b, off, none⟩)) h = some (.agg c.toArray) ∧ C := ⟨by rw [ldV_agg a.pt1 _ _ hl, hc], k⟩
end
section
variable {h : GH} {K : Value → Prop} {KB : Bool → Prop} {KL : List Value → Prop} {A B : Prop}
theorem isEi {x y : Int} (k : KB (decide (x = y))) : bnd (eqI (i64 x) (i64 y)) KB := bnd_of (eqI_int _ _ _) k
theorem isLt {x y : Int} (k : K (.bool (decide (x < y)))) : bnd (binV .lss (i64 x) (i64 y)) K := bnd_of (binV_lss _ _ _) k
theorem isLe {x y : Int} (k : K (.bool (decide (x ≤ y)))) : bnd (binV .leq (i64 x) (i64 y)) K := bnd_of (binV_leq _ _ _) k
theorem isGt {x y : Int} (k : K (.bool (decide (y < x)))) : bnd (binV .gtr (i64 x) (i64 y)) K := bnd_of (binV_gtr _ _ _) k
theorem isGe {x y : Int} (k : K (.bool (decide (y ≤ x)))) : bnd (binV .geq (i64 x) (i64 y)) K := bnd_of (binV_geq _ _ _) k
theorem ex20 {x y : Value} (k : K x) : bnd (exV (.tuple #[x, y]) 0) K := k
theorem ex21 {x y : Value} (k : K y) : bnd (exV (.tuple #[x, y]) 1) K := k
end
section
variable {h : GH} {K : Value → Prop} {KB : Bool → Prop} {A B : Prop} {a b : Int}
theorem wA {x y : Int} (k : KB (decide (x = y))) : bnd (eqI (i64 x) (i64 y)) KB := isEi k
theorem wB {x y : Int} (k : K (.bool (decide (x < y)))) : bnd (binV .lss (i64 x) (i64 y)) K := isLt k
theorem wC {x y : Int} (k : K (.bool (decide (x ≤ y)))) : bnd (binV .leq (i64 x) (i64 y)) K := isLe k
theorem wD {x y : Int} (k : K (.bool (decide (y < x)))) : bnd (binV .gtr (i64 x) (i64 y)) K := isGt k
theorem wE {x y : Int} (k : K (.bool (decide (y ≤ x)))) : bnd (binV .geq (i64 x) (i64 y)) K := isGe k
theorem wF {x y : Value} (k : K x) : bnd (exV (.tuple #[x, y]) 0) K := k
theorem wG {x y : Value} (k : K y) : bnd (exV (.tuple #[x, y]) 1) K := k
theorem wH {x y z : Value} (k : K x) : bnd (exV (.tuple #[x, y, z]) 0) K := k
theorem wI {x y z : Value} (k : K y) : bnd (exV (.tuple #[x, y, z]) 1) K := k
theorem wJ {x y z : Value} (k : K z) : bnd (exV (.tuple #[x, y, z]) 2) K := k
theorem wN {b : Bool} (k : K (.bool (!b))) : bnd (unV .not (.bool b)) K := k
theorem wT (k : A) : ifV (.bool true) A B := k
theorem wU (k : B) : ifV (.bool false) A B := k
theorem wV {v : Value} (k : A) (h : v = .bool true := by rfl) : ifV v A B := ifV_t h k
theorem wW {v : Value} (k : B) (h : v = .bool false := by rfl) : ifV v A B := ifV_f h k
theorem wK {α : Type} {o : Option α} {v : α} {K : α → Prop} (h : o = some v) (k : K v) : bnd o K := bnd_of h k
end
class Wx (A : Prop) (B : outParam Prop) : Prop where
  go : B → A
section
variable {K : Value → Prop} {KB : Bool → Prop} {A B : Prop} {x y : Int} {u v w : Value}
instance : Wx (bnd (eqI (i64 x) (i64 y)) KB) (KB (decide (x = y))) := ⟨wA⟩
instance : Wx (bnd (binV .lss (i64 x) (i64 y)) K) (K (.bool (decide (x < y)))) := ⟨wB⟩
instance : Wx (bnd (binV .leq (i64 x) (i64 y)) K) (K (.bool (decide (x ≤ y)))) := ⟨wC⟩
instance : Wx (bnd (binV .gtr (i64 x) (i64 y)) K) (K (.bool (decide (y < x)))) := ⟨wD⟩
instance : Wx (bnd (binV .geq (i64 x) (i64 y)) K) (K (.bool (decide (y ≤ x)))) := ⟨wE⟩
instance : Wx (bnd (exV (.tuple #[u, v]) 0) K) (K u) := ⟨wF⟩
instance : Wx (bnd (exV (.tuple #[u, v]) 1) K) (K v) := ⟨wG⟩
instance : Wx (bnd (exV (.tuple #[u, v, w]) 0) K) (K u) := ⟨wH⟩
instance : Wx (bnd (exV (.tuple #[u, v, w]) 1) K) (K v) := ⟨wI⟩
instance : Wx (bnd (exV (.tuple #[u, v, w]) 2) K) (K w) := ⟨wJ⟩
instance {b : Bool} : Wx (bnd (unV .not (.bool b)) K) (K (.bool (!b))) := ⟨wN⟩
instance : Wx (ifV (.bool true) A B) A := ⟨wT⟩
instance : Wx (ifV (.bool false) A B) B := ⟨wU⟩
end
theorem wx {A B : Prop} [i : Wx A B] (b : B) : A := i.go b
class Gb (A : Prop) {α : outParam Type} (o : outParam (Option α)) (K : outParam (α → Prop)) : Prop where
  go : bnd o K → A
instance {α : Type} {o : Option α} {K : α → Prop} : Gb (bnd o K) o K := ⟨id⟩
class Gi (A : Prop) (v : outParam Value) (X Y : outParam Prop) : Prop where
  go : ifV v X Y → A
instance {v : Value} {X Y : Prop} : Gi (ifV v X Y) v X Y := ⟨id⟩
class Gh (A : Prop) (n : outParam Nat) (g : outParam Bool) (p : outParam Value) (h : outParam GH) (v : outParam Value) (C : outParam Prop) : Prop where
  go : (ldV n g p h = some v ∧ C) → A
instance {n : Nat} {g : Bool} {p v : Value} {h : GH} {C : Prop} : Gh (ldV n g p h = some v ∧ C) n g p h v C := ⟨id⟩
section
variable {n b off sz : Nat} {T : TypeId} {pre : List Value} {f : Bool} {v : Value} {P Q R : Part} {l : List Part} {h : GH}
theorem wq0_ (a : All (pts b (.row T pre sz f) :: l) h) (hv : pre[off]? = some v) : ldV n false (.pointer (some ⟨b, off, none⟩)) h = some v := by rw [ldV_cell a.pt0]; exact hv
theorem wq1_ (a : All (P :: pts b (.row T pre sz f) :: l) h) (hv : pre[off]? = some v) : ldV n false (.pointer (some ⟨b, off, none⟩)) h = some v := by rw [ldV_cell a.pt1]; exact hv
theorem wq2_ (a : All (P :: Q :: pts b (.row T pre sz f) :: l) h) (hv : pre[off]? = some v) : ldV n false (.pointer (some ⟨b, off, none⟩)) h = some v := by rw [ldV_cell a.pt2]; exact hv
theorem wq3_ (a : All (P :: Q :: R :: pts b (.row T pre sz f) :: l) h) (hv : pre[off]? = some v) : ldV n false (.pointer (some ⟨b, off, none⟩)) h = some v := by rw [ldV_cell (a.pt (i := 3) rfl)]; exact hv
end
theorem wq4_ {a b : Int} (h1 : -9223372036854775808 ≤ a + b := by first | omega | (simp only; omega)) (h2 : a + b ≤ 9223372036854775807 := by first | omega | (simp only; omega)) : binV .add (i64 a) (i64 b) = some (i64 (a + b)) := add_id h1 h2
theorem wq5_ {a b : Int} (h1 : -9223372036854775808 ≤ a - b := by first | omega | (simp only; omega)) (h2 : a - b ≤ 9223372036854775807 := by first | omega | (simp only; omega)) : binV .sub (i64 a) (i64 b) = some (i64 (a - b)) := sub_id h1 h2
theorem wq6_ {a b : Int} (h1 : -9223372036854775808 ≤ a * b := by first | omega | (simp only; omega)) (h2 : a * b ≤ 9223372036854775807 := by first | omega | (simp only; omega)) : binV .mul (i64 a) (i64 b) = some (i64 (a * b)) := mul_id h1 h2
theorem wy {A : Prop} {α : Type} {o : Option α} {K : α → Prop} {v : α} [i : Gb A o K] (k : K v) (e : o = some v := by first | exact rfl | exact wq0_ hp rfl | exact wq1_ hp rfl | exact wq2_ hp rfl | exact wq3_ hp rfl | exact wq4_ | exact wq5_ | exact wq6_) : A := i.go (bnd_of e k)
theorem wz {A : Prop} {v : Value} {X Y : Prop} [i : Gi A v X Y] (k : X) (e : v = .bool true := by rfl) : A := i.go (wV k e)
theorem wv {A : Prop} {v : Value} {X Y : Prop} [i : Gi A v X Y] (k : Y) (e : v = .bool false := by rfl) : A := i.go (wW k e)
theorem wh {A : Prop} {n : Nat} {g : Bool} {p v : Value} {h : GH} {C : Prop} [i : Gh A n g p h v C] (k : C) (e : ldV n g p h = some v := by first | exact wq0_ hp rfl | exact wq1_ hp rfl | exact wq2_ hp rfl | exact wq3_ hp rfl) : A := i.go ⟨e, k⟩
structure Hid (B : Prop) : Prop where
  b : B
theorem wk {A B : Prop} (b : B) (e : Hid B → A := by (intro b_; (repeat (first | refine Go.Proofs.YtcpfkkppfgolaaaGreatDoor.wx ?_ | refine Go.Proofs.YtcpfkkppfgolaaaGreatDoor.wy ?_ (by first | exact rfl | exact Go.Proofs.YtcpfkkppfgolaaaGreatDoor.wq0_ hp rfl | exact Go.Proofs.YtcpfkkppfgolaaaGreatDoor.wq1_ hp rfl | exact Go.Proofs.YtcpfkkppfgolaaaGreatDoor.wq2_ hp rfl | exact Go.Proofs.YtcpfkkppfgolaaaGreatDoor.wq3_ hp rfl | exact Go.Proofs.YtcpfkkppfgolaaaGreatDoor.wq4_ (by first | omega | (simp only; omega)) (by first | omega | (simp only; omega)) | exact Go.Proofs.YtcpfkkppfgolaaaGreatDoor.wq5_ (by first | omega | (simp only; omega)) (by first | omega | (simp only; omega)) | exact Go.Proofs.YtcpfkkppfgolaaaGreatDoor.wq6_ (by first | omega | (simp only; omega)) (by first | omega | (simp only; omega))) | refine Go.Proofs.YtcpfkkppfgolaaaGreatDoor.wz ?_ (by rfl) | refine Go.Proofs.YtcpfkkppfgolaaaGreatDoor.wv ?_ (by rfl) | refine Go.Proofs.YtcpfkkppfgolaaaGreatDoor.wh ?_ (by first | exact Go.Proofs.YtcpfkkppfgolaaaGreatDoor.wq0_ hp rfl | exact Go.Proofs.YtcpfkkppfgolaaaGreatDoor.wq1_ hp rfl | exact Go.Proofs.YtcpfkkppfgolaaaGreatDoor.wq2_ hp rfl | exact Go.Proofs.YtcpfkkppfgolaaaGreatDoor.wq3_ hp rfl))); exact b_.b)) : A := e ⟨b⟩
theorem hn {l l' : List Part} {h : GH} (a : All l h) (e : l = l' := by first | (dsimp only [selL, upL, dnL, List.take_succ_cons, List.take_zero, List.drop, List.eraseIdx_cons_succ, List.eraseIdx_cons_zero, List.getElem?_cons_zero, List.getElem?_cons_succ, List.set_cons_zero, List.set_cons_succ, List.nil_append, List.cons_append]; first | done | exact rfl) | exact rfl) : All l' h := e ▸ a
def rowP (size : Nat) (v : Value) (cs : List (List Value)) : Part := fun h =>
  ∃ a cap junk, v = .slice a cs.length cap ∧ cs.length ≤ cap ∧ cs.length ≤ 9223372036854775807 ∧ (∀ c ∈ cs, good size c) ∧
    ((a = none ∧ cs = [] ∧ cap = 0) ∨ ∃ b T, a = some ⟨b, 0, none⟩ ∧ h b = some (.row T (cs.flatten ++ junk) (cap * size) true) ∧ junk.all oneCell = true)
theorem rowP.le {size : Nat} {v : Value} {cs : List (List Value)} {h h' : GH} (l : HLe h h') (o : rowP size v cs h) : rowP size v cs h' := by
  obtain ⟨a, cap, junk, h1, h2, h3, h4, h5⟩ := o
  exact ⟨a, cap, junk, h1, h2, h3, h4, h5.imp id fun ⟨b, T, e, hb, hj⟩ => ⟨b, T, e, l _ _ hb, hj⟩⟩
theorem rowP.of_own {size : Nat} {v : Value} {cs : List (List Value)} {h : GH} (o : own h size v cs) : rowP size v cs h := by
  obtain ⟨a, cap, h1, h2, h3, h4, h5⟩ := o
  exact ⟨a, cap, [], h1, h2, h3, h4, h5.imp id fun ⟨b, T, e, hb⟩ => ⟨b, T, e, by rw [List.append_nil]; exact hb, rfl⟩⟩
theorem rowP_nil (size : Nat) (h : GH) : rowP size (.slice none 0 0) [] h := .of_own (own_nil h size)
theorem rowP.rows {size : Nat} {v : Value} {cs : List (List Value)} {h : GH} (o : rowP size v cs h) : rowsAt h size v cs := by
  obtain ⟨a, cap, junk, rfl, h2, h3, h4, h5⟩ := o
  rcases h5 with ⟨rfl, rfl, rfl⟩ | ⟨b, T, rfl, e, _⟩
  · exact ⟨none, 0, 0, rfl, rfl, Nat.le_refl _, by decide, fun i c hc => by simp at hc⟩
  · exact rowsAt_of e rfl h2 h3 (fun c hc => (h4 c hc).1) (Nat.zero_le _) ⟨junk, by simp⟩
theorem rowP.good {size : Nat} {v : Value} {cs : List (List Value)} {h : GH} (o : rowP size v cs h) : (∀ c ∈ cs, good size c) ∧ lnV v = some (i64 cs.length) ∧ cs.length ≤ 9223372036854775807 := by
  obtain ⟨a, cap, junk, rfl, h2, h3, h4, h5⟩ := o
  exact ⟨h4, rfl, h3⟩
section
variable {h : GH} {size bytes : Nat} {v : Value} {cs : List (List Value)} {P : Part} {l : List Part} {T : TypeId}
theorem All.row (a : All (rowP size v cs :: l) h) : rowP size v cs h := by
  obtain ⟨h1', h2, _, l1, _, p, _⟩ := a
  exact p.le l1
theorem All.rows (a : All (rowP size v cs :: l) h) : rowsAt h size v cs := a.row.rows
theorem All.len (a : All (rowP size v cs :: l) h) : lnV v = some (i64 cs.length) := a.row.good.2.1
theorem ap0 {x : Value} {new : List (List Value)} {K : Value → GH → Prop} (a : All (rowP size v cs :: l) h) (r : rowsAt h size x new) (hn : ∀ c ∈ new, Go.Proofs.YtcpfkkppfgolaaaGreatDoor.good size c)
    (hby : 0 < bytes) (hb : (cs.length + new.length) * bytes ≤ 140737488355328)
    (k : ∀ v' h', All (rowP size v' (cs ++ new) :: l) h' → K v' h') : apV T size bytes v x h K := by
  have o := a.row
  have hcells := r.cells fun c hc => (hn c hc).1
  have hcells2 := o.rows.cells
  obtain ⟨xa, n, xc, rfl, rfl, _, _, _⟩ := r
  obtain ⟨g1, g2⟩ := flatten_good new hn
  have hh := o.good.1
  obtain ⟨g3, g4⟩ := flatten_good cs hh
  have hall : ∀ c ∈ cs ++ new, Go.Proofs.YtcpfkkppfgolaaaGreatDoor.good size c := fun c hc => (List.mem_append.1 hc).elim (hh c) (hn c)
  have hlen : cs.length + new.length ≤ 9223372036854775807 := by
    have := Nat.le_mul_of_pos_right (cs.length + new.length) hby
    omega
  have hold := hcells2 fun c hc => (hh c hc).1
  obtain ⟨h1, h2, d, l1, l2, ⟨ad, cap, junk, rfl, c2, c3, c4, c5⟩, q⟩ := a
  simp only [apV, hcells, bnd_some]
  split
  · rename_i hle
    by_cases hz : new.flatten = []
    · simp only [putV, hz, bnd_some]
      refine k _ _ ⟨h1, h2, d, l1, l2, ⟨ad, cap, junk, by simp, by simpa using hle, by simpa using hlen, hall, ?_⟩, q⟩
      rcases c5 with ⟨rfl, rfl, rfl⟩ | ⟨b, T', rfl, e, hj⟩
      · have : new = [] := by cases new with
          | nil => rfl
          | cons c l => simp at hle
        exact .inl ⟨rfl, by simp [this], rfl⟩
      · exact .inr ⟨b, T', rfl, by rw [List.flatten_append, hz, List.append_nil]; exact e, hj⟩
    · rcases c5 with ⟨rfl, rfl, rfl⟩ | ⟨b, T', rfl, e, hj⟩
      · have : new = [] := by cases new with
          | nil => rfl
          | cons c l => simp at hle
        exact absurd (by simp [this]) hz
      · have e0 := l1 _ _ e
        have hput : putV (some ⟨b, 0, none⟩) (cs.length * size) new.flatten h = some (upd h b (.row T' (cs.flatten ++ new.flatten ++ junk.drop new.flatten.length) (cap * size) true)) := by
          have k1 : Nat.ble (0 + cs.length * size) (cs.flatten ++ junk).length = true := Nat.ble_eq_true_of_le (by rw [List.length_append]; omega)
          have k2 : Nat.ble (0 + cs.length * size + new.flatten.length) (cap * size) = true := Nat.ble_eq_true_of_le (by
            rw [g1, Nat.zero_add, ← Nat.add_mul]; exact Nat.mul_le_mul_right _ hle)
          have k3 : putL (cs.flatten ++ junk) (0 + cs.length * size) new.flatten = cs.flatten ++ new.flatten ++ junk.drop new.flatten.length := by
            unfold putL
            rw [Nat.zero_add, ← g3, List.take_left' rfl, ← List.drop_drop, List.drop_left]
          unfold putV
          split
          · rename_i q; exact absurd q hz
          · simp only [e0, k1, k2, g2, Bool.and_self, k3]
        rw [hput]
        simp only [bnd_some]
        have hn2 := d.left e
        refine k _ _ ⟨GW.upd (fun _ => none) b (.row T' (cs.flatten ++ new.flatten ++ junk.drop new.flatten.length) (cap * size) true), h2, fun k => ?_, ?_, ?_, ⟨_, cap, junk.drop new.flatten.length, by simp, by simpa using hle, by simpa using hlen, hall, .inr ⟨b, T', rfl, by rw [List.flatten_append]; exact upd_same _ _ _, ?_⟩⟩, q⟩
        · by_cases e : k = b
          · subst e; exact .inr hn2
          · left; rw [upd_ne e]
        · intro k g e
          by_cases e' : k = b
          · subst e'; rw [upd_same] at e ⊢; exact e
          · rw [upd_ne e'] at e; cases e
        · intro k g e
          rw [upd_ne (ne_of_fresh hn2 e)]; exact l2 _ _ e
        · rw [List.all_eq_true] at hj ⊢
          exact fun x hx => hj x (List.mem_of_mem_drop hx)
  · rename_i hle
    rw [hold]
    simp only [bnd_some]
    refine ⟨hb, hlen, g3, g1, fun b nc hb' hnc => ?_⟩
    have t : All (pts b (.row T (cs.flatten ++ new.flatten) (nc * size) true) :: l) (upd h b (.row T (cs.flatten ++ new.flatten) (nc * size) true)) := All.new (All.le l2 q) hb'
    refine k _ _ (t.head fun h1 p => ⟨_, nc, [], by simp, by simpa using hnc, by simpa using hlen, hall, .inr ⟨b, T, rfl, ?_, rfl⟩⟩)
    rw [List.flatten_append, List.append_nil]; exact p
theorem bs0 {len : Nat} {cells : List Value} {ps : List (Nat × Nat × Value)} {K : Value → GH → Prop} (a : All l h) (new : List (List Value)) (hf : fillV cells ps = some new.flatten) (hl : len = new.length) (hm : new.length ≤ 9223372036854775807) (hn : ∀ c ∈ new, Go.Proofs.YtcpfkkppfgolaaaGreatDoor.good size c)
    (k : ∀ v h', All (rowP size v new :: l) h' → K v h') : bsV T len cells ps h K := by
  subst hl
  unfold bsV
  refine bnd_of hf ?_
  intro b hb0
  exact k _ _ ((a.new hb0).head fun h1 p => .of_own (own_of p rfl rfl (flatten_good new hn).1 (Nat.le_refl _) hm hn))
theorem All.elt (a : All (rowP size v cs :: l) h) {i : Nat} {c : List Value} (hc : cs[i]? = some c) (k : IntKind) :
    ∃ b, isV size v (.int k i) = some (.pointer (some ⟨b, i * size, none⟩)) ∧ (∀ (j n : Nat) x, c[j]? = some x → ldV n false (.pointer (some ⟨b, i * size + j, none⟩)) h = some x) ∧
      ldV size true (.pointer (some ⟨b, i * size, none⟩)) h = some (.agg c.toArray) ∧
      (∀ (j n : Nat) (y : Value), y.cells.size = n → j + n ≤ size → y.cells.toList.all oneCell = true → ∃ h', stV n (.pointer (some ⟨b, i * size + j, none⟩)) y h = some h' ∧ All (rowP size v (cs.set i (setCells c j y.cells.toList)) :: l) h') := by
  obtain ⟨h1, h2, d, l1, l2, ⟨ad, cap, junk, rfl, c2, c3, c4, c5⟩, q⟩ := a
  have hi := (List.getElem?_eq_some_iff.1 hc).1
  rcases c5 with ⟨rfl, he, _⟩ | ⟨b, T, rfl, e, hj⟩
  · subst he; simp at hi
  have e0 := l1 _ _ e
  have hcl := (c4 c (List.mem_of_getElem? hc)).1
  obtain ⟨hg, hle⟩ := flatten_get size cs (fun c hc => (c4 c hc).1) junk i c hc
  refine ⟨b, ?_, fun j n x hj' => ?_, ?_, fun j n y hn hj' hone => ?_⟩
  · simp only [isV]; rw [if_pos ⟨by omega, by omega⟩]; simp
  · rw [ldV_cell e0]
    rw [← hg, List.getElem?_take] at hj'
    split at hj'
    · rw [List.getElem?_drop] at hj'; exact hj'
    · cases hj'
  · rw [ldV_agg e0 _ _ (by rw [List.length_append]; omega), hg]
  · have hlen : y.cells.toList.length = n := by rw [← hn]; rfl
    refine ⟨_, stV_row e0 n (i * size + j) y hn (by rw [List.length_append]; omega) hone, ?_⟩
    have hn2 := d.left e
    have es : setCells (cs.flatten ++ junk) (i * size + j) y.cells.toList = (cs.set i (setCells c j y.cells.toList)).flatten ++ junk := by
      rw [setCells_left _ _ _ _ (by omega), setCells_flatten y.cells.toList cs i j c (fun c hc => (c4 c hc).1) hc (by omega)]
    rw [es]
    have t : All (pts b (.row T ((cs.set i (setCells c j y.cells.toList)).flatten ++ junk) (cap * size) true) :: l) (GW.upd h b (.row T ((cs.set i (setCells c j y.cells.toList)).flatten ++ junk) (cap * size) true)) := by
      have : All (pts b (.row T (cs.flatten ++ junk) (cap * size) true) :: l) h := ⟨h1, h2, d, l1, l2, e, q⟩
      exact this.upd0
    refine t.head fun h1 p => ⟨_, cap, junk, by simp, by simpa using c2, by simpa using c3, fun d hd => ?_, .inr ⟨b, T, rfl, p, hj⟩⟩
    rcases List.mem_or_eq_of_mem_set hd with q | q
    · exact c4 d q
    · subst q
      exact ⟨by rw [length_setCells]; exact hcl, setCells_ones _ _ _ (c4 c (List.mem_of_getElem? hc)).2 hone⟩
theorem All.cut (a : All (rowP size v cs :: l) h) {n : Nat} (hn : n ≤ cs.length) (k : IntKind) : ∃ v', slV size v none (some (.int k n)) = some v' ∧ All (rowP size v' (cs.take n) :: l) h := by
  obtain ⟨h1, h2, d, l1, l2, ⟨ad, cap, junk, rfl, c2, c3, c4, c5⟩, q⟩ := a
  have e2 : (cs.take n).length = n := by rw [List.length_take]; omega
  refine ⟨.slice ad n cap, slV_len (by omega) k, h1, h2, d, l1, l2, ⟨ad, cap, (cs.drop n).flatten ++ junk, by rw [e2], by omega, by omega, fun c hc => c4 c (List.mem_of_mem_take hc), ?_⟩, q⟩
  rcases c5 with ⟨rfl, he, he2⟩ | ⟨b, T, rfl, e, hj⟩
  · exact .inl ⟨rfl, by rw [he]; simp, he2⟩
  · refine .inr ⟨b, T, rfl, ?_, ?_⟩
    · rw [← List.append_assoc, ← List.flatten_append, List.take_append_drop]; exact e
    · rw [List.all_append, hj, Bool.and_true]
      exact (flatten_good _ fun c hc => c4 c (List.mem_of_mem_drop hc)).2
end
def Ar.at (a : Ar) (i : Int) : Int := a.ws.getD i.toNat 0
def Ar.ld (a : Ar) (i : Int) : Ar := a.touch 0 i.toNat (a.at i) (a.at i)
def Ar.put (a : Ar) (i x : Int) : Ar := a.touch 1 i.toNat (a.at i) x
def Ar.cas (a : Ar) (i old new : Int) : Ar := a.touch 2 i.toNat (a.at i) (if a.at i = old then new else a.at i)
def arP (T : TypeId) (b : Nat) (a : Ar) : Part := fun h => arAt T h b a
abbrev I64 (x : Int) : Prop := -9223372036854775808 ≤ x ∧ x ≤ 9223372036854775807
theorem Ar.ok.at {a : Ar} (o : a.ok) {i : Int} (h0 : 0 ≤ i) (h1 : i < 634) : a.ws[i.toNat]? = some (a.at i) ∧ I64 (a.at i) := by
  have hl : i.toNat < a.ws.length := by rw [o.words]; omega
  have e : a.ws[i.toNat]? = some (a.at i) := by
    unfold Ar.at
    rw [List.getD_eq_getElem?_getD, List.getElem?_eq_getElem hl]
    rfl
  exact ⟨e, o.range _ (List.mem_of_getElem? e)⟩
theorem Ar.at_range {a : Ar} (o : a.ok) (i : Int) : I64 (a.at i) := by
  unfold Ar.at
  rw [List.getD_eq_getElem?_getD]
  cases e : a.ws[i.toNat]? with
  | none => exact ⟨by decide, by decide⟩
  | some x => exact o.range _ (List.mem_of_getElem? e)
theorem Ar.ok.ld {a : Ar} (o : a.ok) (i : Int) : (a.ld i).ok := Ar.touch_ok o (Ar.at_range o i)
theorem Ar.ok.put {a : Ar} (o : a.ok) (i : Int) {x : Int} (hx : I64 x) : (a.put i x).ok := Ar.touch_ok o hx
theorem Ar.ok.cas {a : Ar} (o : a.ok) (i old : Int) {x : Int} (hx : I64 x) : (a.cas i old x).ok := by
  unfold Ar.cas
  refine Ar.touch_ok o ?_
  split
  · exact hx
  · exact Ar.at_range o i
theorem arP.upd {T : TypeId} {b : Nat} {a a' : Ar} {l : List Part} {h : GH} (hp : All (arP T b a :: l) h) (o : a'.ok) : All (arP T b a' :: l) (upd h b (.row T a'.cells 643 true)) := by
  have : All (pts b (.row T a.cells 643 true) :: l) h := hp.head fun _ q => q.1
  exact this.upd0.head fun _ q => ⟨q, o⟩
theorem arP.at {T : TypeId} {b : Nat} {a : Ar} {l : List Part} {h : GH} (hp : All (arP T b a :: l) h) : arAt T h b a := by
  obtain ⟨h1, _, _, l1, _, q, _⟩ := hp
  exact ⟨l1 _ _ q.1, q.2⟩
theorem L_Load {b : Nat} {i : Int} {a : Ar} {R : List Part} {h : GH} {K : Value → GH → Prop} (hp : All (arP 142 b a :: R) h) (h0 : 0 ≤ i) (h1 : i < 634)
    (hK : ∀ h', All (arP 142 b (a.ld i) :: R) h' → K (.tuple #[i64 (a.at i), i64 0]) h') : T Tryz.prog 128 [.pointer (some ⟨b, 0, none⟩), i64 i] h K := by
  have ha := arP.at hp
  have e : i = (i.toNat : Int) := by omega
  rw [e]
  refine T_Load ha (ha.2.at h0 h1).1 (hK _ (arP.upd hp (ha.2.ld i)))
theorem L_Store {b : Nat} {i x : Int} {a : Ar} {R : List Part} {h : GH} {K : Value → GH → Prop} (hp : All (arP 142 b a :: R) h) (h0 : 0 ≤ i) (h1 : i < 634) (hx : I64 x)
    (hK : ∀ h', All (arP 142 b (a.put i x) :: R) h' → K (.tuple #[i64 (a.at i), i64 0]) h') : T Tryz.prog 127 [.pointer (some ⟨b, 0, none⟩), i64 i, i64 x] h K := by
  have ha := arP.at hp
  have e : i = (i.toNat : Int) := by omega
  rw [e]
  exact T_Store ha (ha.2.at h0 h1).1 hx (hK _ (arP.upd hp (ha.2.put i hx)))
theorem L_Swap {b : Nat} {i old x : Int} {a : Ar} {R : List Part} {h : GH} {K : Value → GH → Prop} (hp : All (arP 142 b a :: R) h) (h0 : 0 ≤ i) (h1 : i < 634) (hx : I64 x)
    (hK : ∀ h', All (arP 142 b (a.cas i old x) :: R) h' → K (.tuple #[i64 (a.at i), i64 0]) h') : T Tryz.prog 158 [.pointer (some ⟨b, 0, none⟩), i64 i, i64 old, i64 x] h K := by
  have ha := arP.at hp
  have e : i = (i.toNat : Int) := by omega
  rw [e]
  exact T_Swap ha (ha.2.at h0 h1).1 hx (hK _ (arP.upd hp (ha.2.cas i old hx)))
def baseOf (s : Int) : Int := 34 + s * 50
def stateW (g st : Int) : Int := (g * 4 + st) * 4
structure Wh where
  s : Int
  g : Int
  pc : Nat
  i : Int
  k : Int
  cell : Int
  was : Int
  put : Int
  x : Int
  opn : Bool
  won : Bool
structure En where
  s : Int
  g : Int
  e : Int
  t : Int
  q : Int
  pc : Nat
  cell : Int
  was : Int
  opn : Bool
inductive Fr where
  | who (w : Wh)
  | ent (f : En)
def Fr.s : Fr → Int | .who w => w.s | .ent f => f.s
def Fr.g : Fr → Int | .who w => w.g | .ent f => f.g
def Fr.won : Fr → Bool | .who w => w.won | .ent _ => false
def Wh.new (s g : Int) : Wh := ⟨s, g, 1, 0, 0, 0, 0, 0, 0, false, false⟩
def En.new (s g e t q : Int) : En := ⟨s, g, e, t, q, 0, 0, 0, false⟩
def newFr : Form → Option Fr
  | .val _ => none
  | .mcas s g => some (.who (.new s g))
  | .entry s g e t q => some (.ent (.new s g e t q))
structure Out where
  fr : Fr
  atop : Option Form
  over : Bool
  good : Bool
  a : Ar
  q : Int
def valOf (x : Int) : Int := (plainOf x).getD 0
def isVal (x most : Int) : Bool := (plainOf x).isSome && decide (valOf x ≤ most)
def Wh.next (w : Wh) (more stop : Nat) : Wh := { w with i := w.i + 1, pc := if w.k ≤ w.i + 1 then stop else more }
def Wh.mine (w : Wh) : Int := (Form.mcas w.s w.g).number
def Wh.swapIn (t q : Int) (w : Wh) (a : Ar) : Out :=
  let p := (Form.entry w.s w.g w.i t q).number
  let q' := (q + 1) % 1048576
  let a' := a.cas w.cell w.was p
  let x := a.at w.cell
  let w' := { w with put := p }
  if x = w.was then ⟨.who { w' with pc := 6 }, none, false, true, a', q'⟩ else
  match read x with
  | none => ⟨.who w', none, false, false, a', q'⟩
  | some (.val _) => ⟨.who { w' with pc := 9 }, none, false, true, a', q'⟩
  | some (.entry s g e t q) => ⟨.who w', some (.entry s g e t q), false, true, a', q'⟩
  | some (.mcas s g) => if s = w.s ∧ g = w.g then ⟨.who (w'.next 3 8), none, false, true, a', q'⟩ else ⟨.who { w' with x := x, pc := 14 }, none, false, true, a', q'⟩
def Wh.step (t q : Int) (w : Wh) (a : Ar) : Out :=
  let b := baseOf w.s
  let x := a.at b
  let o : Bool := decide (x = stateW w.g 0)
  let n : Bool := decide (x = stateW w.g 1)
  let is : Bool := (plainOf x).isSome
  match w.pc with
  | 2 => let x := a.at (b + 1); ⟨.who { w with k := valOf x, i := 0, pc := if valOf x = 0 then 8 else 3 }, none, false, isVal x 16, a.ld (b + 1), q⟩
  | 3 => let j := b + (2 + 3 * w.i + 0); ⟨.who { w with cell := valOf (a.at j), pc := 4 }, none, false, isVal (a.at j) 15, a.ld j, q⟩
  | 4 => let j := b + (2 + 3 * w.i + 1); ⟨.who { w with was := valOf (a.at j) * 4, pc := 5 }, none, false, isVal (a.at j) 1099511627775, a.ld j, q⟩
  | 5 => w.swapIn t q a
  | 6 => ⟨.who { w with opn := o, won := n, pc := 7 }, none, false, is, a.ld b, q⟩
  | 7 => ⟨.who (w.next 3 8), none, false, true, a.cas w.cell w.put (if w.opn then w.mine else w.was), q⟩
  | 8 => ⟨.who { w with pc := 1 }, none, false, true, a.cas b (stateW w.g 0) (stateW w.g 1), q⟩
  | 9 => ⟨.who { w with pc := 1 }, none, false, true, a.cas b (stateW w.g 0) (stateW w.g 2), q⟩
  | 10 => let x := a.at (b + 1); ⟨.who { w with k := valOf x, i := 0, pc := 11 }, none, decide (valOf x = 0), isVal x 16, a.ld (b + 1), q⟩
  | 11 => let j := b + (2 + 3 * w.i + 0); ⟨.who { w with cell := valOf (a.at j), pc := 12 }, none, false, isVal (a.at j) 15, a.ld j, q⟩
  | 12 => let j := b + (2 + 3 * w.i + if w.won then 2 else 1); ⟨.who { w with x := valOf (a.at j) * 4, pc := 13 }, none, false, isVal (a.at j) 1099511627775, a.ld j, q⟩
  | 13 => ⟨.who (w.next 11 0), none, decide (w.k ≤ w.i + 1), true, a.cas w.cell w.mine w.x, q⟩
  | 14 => if o then ⟨.who { w with opn := o, won := n, pc := 5 }, read w.x, false, is, a.ld b, q⟩ else ⟨.who { w with opn := o, won := n, pc := 10 }, none, false, is, a.ld b, q⟩
  | _ => ⟨.who { w with opn := o, won := n, pc := if o then 2 else 10 }, none, false, is, a.ld b, q⟩
def En.step (q : Int) (f : En) (a : Ar) : Out :=
  let b := baseOf f.s
  match f.pc with
  | 0 => let j := b + (2 + 3 * f.e + 0); ⟨.ent { f with cell := valOf (a.at j), pc := 1 }, none, false, isVal (a.at j) 15, a.ld j, q⟩
  | 1 => let j := b + (2 + 3 * f.e + 1); ⟨.ent { f with was := valOf (a.at j) * 4, pc := 2 }, none, false, isVal (a.at j) 1099511627775, a.ld j, q⟩
  | 2 => ⟨.ent { f with opn := decide (a.at b = stateW f.g 0), pc := 3 }, none, false, (plainOf (a.at b)).isSome, a.ld b, q⟩
  | _ => ⟨.ent { f with pc := 4 }, none, true, true, a.cas f.cell (Form.entry f.s f.g f.e f.t f.q).number (if f.opn then (Form.mcas f.s f.g).number else f.was), q⟩
def Fr.step (t q : Int) (f : Fr) (a : Ar) : Out := match f with | .who w => w.step t q a | .ent f => f.step q a
structure Help where
  t : Int
  q : Int
  rest : List Fr
  top : Fr
  slot : Int
  gen : Int
  won : Bool
  over : Bool
def Help.new (t q : Int) (f : Fr) : Help := ⟨t, q, [], f, -1, 0, false, false⟩
def Help.take (H : Help) (o : Out) : Help × Int :=
  let H1 : Help := { H with q := o.q, top := o.fr, slot := H.top.s, gen := H.top.g }
  if o.good = false then ({ H1 with over := true }, 1400) else
  match o.atop.bind newFr with
  | some f => if 18 ≤ H.rest.length + 1 then ({ H1 with over := true }, 1400) else ({ H1 with rest := o.fr :: H.rest, top := f }, 0)
  | none =>
    if o.over = false then (H1, 0) else
    match H.rest with
    | [] => ({ H1 with won := o.fr.won, over := true }, 0)
    | r :: rs => ({ H1 with rest := rs, top := r, won := false }, 0)
def Help.step (H : Help) (a : Ar) : Help × Int × Ar :=
  if H.over then (H, 0, a) else
  let o := H.top.step H.t H.q a
  ((H.take o).1, (H.take o).2, o.a)
structure Life (s g : Int) : Prop where
  s0 : 0 ≤ s
  s1 : s < 12
  g0 : 0 ≤ g
  g1 : g < 65536
def isMcas (x : Int) : Prop := ∃ s g, read x = some (.mcas s g)
structure Wh.ok (w : Wh) : Prop where
  life : Life w.s w.g
  i0 : 0 ≤ w.i
  i1 : w.i ≤ 16
  i2 : w.pc ≠ 1 → w.pc ≠ 2 → w.pc ≠ 8 → w.pc ≠ 10 → w.i < 16
  k1 : w.k ≤ 16
  k0 : I64 w.k
  c0 : 0 ≤ w.cell
  c1 : w.cell < 16
  was : I64 w.was
  put : I64 w.put
  x : I64 w.x
  pc1 : w.pc ≤ 14
  pc0 : 1 ≤ w.pc
  ref : w.pc = 14 → isMcas w.x
structure En.ok (f : En) : Prop where
  life : Life f.s f.g
  e0 : 0 ≤ f.e
  e1 : f.e < 16
  t0 : 0 ≤ f.t
  t1 : f.t < 4
  q0 : 0 ≤ f.q
  q1 : f.q < 1048576
  c0 : 0 ≤ f.cell
  c1 : f.cell < 16
  was : I64 f.was
  pc1 : f.pc ≤ 3
def Fr.ok : Fr → Prop | .who w => w.ok | .ent f => f.ok
structure Help.ok (H : Help) : Prop where
  t0 : 0 ≤ H.t
  t1 : H.t < 4
  q0 : 0 ≤ H.q
  q1 : H.q < 1048576
  slot : I64 H.slot
  gen : I64 H.gen
  frames : H.over = false → H.top.ok ∧ (∀ f ∈ H.rest, f.ok) ∧ H.rest.length < 18
attribute [local irreducible] bnd ldV stV ifV binV eqI
theorem T_Base {s : Int} {h : GH} {K : Value → GH → Prop} (h0 : 0 ≤ s) (h1 : s < 12) (hK : K (i64 (baseOf s)) h) : T Tryz.prog 86 [i64 s] h K := by
  apply S86_T
  unfold S86
  refine bnd_of (mul_id (by omega) (by omega)) (bnd_of (add_id (by omega) (by omega)) hK)
theorem T_State {g st : Int} {h : GH} {K : Value → GH → Prop} (h0 : 0 ≤ g) (h1 : g < 65536) (h2 : 0 ≤ st) (h3 : st < 4) (hK : K (i64 (stateW g st)) h) : T Tryz.prog 87 [i64 g, i64 st] h K := by
  apply S87_T
  unfold S87
  refine bnd_of (mul_id (by omega) (by omega)) (bnd_of (add_id (by omega) (by omega)) (T_Of (by omega) (by omega) hK))
theorem valOf_le {x : Int} (h : I64 x) : 0 ≤ valOf x ∧ valOf x < 1099511627776 := by
  unfold valOf plainOf
  split
  · rename_i v e
    have := (number_of_read e).1
    rw [may_val] at this
    exact this
  · exact ⟨by decide, by decide⟩
abbrev heldRow (T : TypeId) (s g cell was : Int) (opn won : Bool) (rest : List Value) (sz : Nat) : GObj := .row T ([i64 s, i64 g, i64 cell, i64 was, .bool opn, .bool won] ++ rest) sz true
section
variable {a f sz : Nat} {A : Ar} {s g cell was : Int} {opn won : Bool} {rest : List Value} {TT : TypeId} {R : List Part} {h : GH} {K : Value → GH → Prop}
theorem T_hLoad {at_ most : Int} (hp : All (arP 142 a A :: pts f (heldRow TT s g cell was opn won rest sz) :: R) h) (hs : 0 ≤ s ∧ s < 12) (h0 : 0 ≤ at_) (h1 : at_ < 50)
    (hK : ∀ h', All (arP 142 a (A.ld (baseOf s + at_)) :: pts f (heldRow TT s g cell was opn won rest sz) :: R) h' → K (.tuple #[i64 (valOf (A.at (baseOf s + at_))), .bool (isVal (A.at (baseOf s + at_)) most)]) h') : T Tryz.prog 254 [.pointer (some ⟨f, 0, none⟩), .pointer (some ⟨a, 0, none⟩), i64 at_, i64 most] h K := by
  apply S254_T
  unfold S254
  have hb : baseOf s = 34 + s * 50 := rfl
  refine wk ?_
  refine T_Base hs.1 hs.2 (bnd_of (add_id (by omega) (by omega)) ?_)
  have o := (arP.at hp).2
  refine L_Load hp (by omega) (by omega) fun h1 hp => ?_
  refine wk ?_
  refine T_Plain (Ar.at_range o _).2 ?_
  refine bnd_of rfl (bnd_of rfl ?_)
  refine ifV_bool (fun q => bnd_of (binV_leq _ _ _) ?_) (fun q => ?_)
  · have := hK _ hp
    unfold isVal at this
    rw [q, Bool.true_and] at this
    exact this
  · have := hK _ hp
    unfold isVal at this
    rw [q, Bool.false_and] at this
    exact this
theorem T_part {e p : Int} (hp : All (arP 142 a A :: pts f (heldRow TT s g cell was opn won rest sz) :: R) h) (hs : 0 ≤ s ∧ s < 12) (h0 : 0 ≤ e) (h1 : e < 16) (h2 : 0 ≤ p) (h3 : p < 3)
    (hK : ∀ h', All (arP 142 a (A.ld (baseOf s + (2 + 3 * e + p))) :: pts f (heldRow TT s g cell was opn won rest sz) :: R) h' → K (.tuple #[i64 (valOf (A.at (baseOf s + (2 + 3 * e + p)))), .bool (isVal (A.at (baseOf s + (2 + 3 * e + p))) (if p = 0 then 15 else 1099511627775))]) h') : T Tryz.prog 253 [.pointer (some ⟨f, 0, none⟩), .pointer (some ⟨a, 0, none⟩), i64 e, i64 p] h K := by
  apply S253_T
  unfold S253
  refine bnd_of (eqI_int _ _ _) (ifV_cases (fun q => ?_) fun q => ?_)
  · unfold S253_j1
    refine bnd_of (mul_id (by omega) (by omega)) (bnd_of (add_id (by omega) (by omega)) (bnd_of (add_id (by omega) (by omega)) (T_hLoad hp hs (by omega) (by omega) fun h' hp => ?_)))
    have := hK _ hp
    rw [if_pos q] at this
    exact bnd_of rfl (bnd_of rfl this)
  · unfold S253_j1
    refine bnd_of (mul_id (by omega) (by omega)) (bnd_of (add_id (by omega) (by omega)) (bnd_of (add_id (by omega) (by omega)) (T_hLoad hp hs (by omega) (by omega) fun h' hp => ?_)))
    have := hK _ hp
    rw [if_neg q] at this
    exact bnd_of rfl (bnd_of rfl this)
theorem T_takeCell {e : Int} (hp : All (arP 142 a A :: pts f (heldRow TT s g cell was opn won rest sz) :: R) h) (hs : 0 ≤ s ∧ s < 12) (h0 : 0 ≤ e) (h1 : e < 16)
    (hK : ∀ h', All (arP 142 a (A.ld (baseOf s + (2 + 3 * e + 0))) :: pts f (heldRow TT s g (valOf (A.at (baseOf s + (2 + 3 * e + 0)))) was opn won rest sz) :: R) h' → K (.bool (isVal (A.at (baseOf s + (2 + 3 * e + 0))) 15)) h') : T Tryz.prog 249 [.pointer (some ⟨f, 0, none⟩), .pointer (some ⟨a, 0, none⟩), i64 e] h K := by
  apply S249_T
  unfold S249
  refine T_part hp hs h0 h1 (by decide) (by decide) fun h' hp => ?_
  refine bnd_of rfl (bnd_of rfl (bnd_of rfl (bnd_of rfl (st1 hp _ rfl (by simp) rfl rfl fun h' hp => ?_))))
  exact hK _ hp
theorem T_takeWas {e : Int} (hp : All (arP 142 a A :: pts f (heldRow TT s g cell was opn won rest sz) :: R) h) (hs : 0 ≤ s ∧ s < 12) (h0 : 0 ≤ e) (h1 : e < 16) (hA : A.ok)
    (hK : ∀ h', All (arP 142 a (A.ld (baseOf s + (2 + 3 * e + 1))) :: pts f (heldRow TT s g cell (if isVal (A.at (baseOf s + (2 + 3 * e + 1))) 1099511627775 = true then valOf (A.at (baseOf s + (2 + 3 * e + 1))) * 4 else was) opn won rest sz) :: R) h' → K (.bool (isVal (A.at (baseOf s + (2 + 3 * e + 1))) 1099511627775)) h') : T Tryz.prog 250 [.pointer (some ⟨f, 0, none⟩), .pointer (some ⟨a, 0, none⟩), i64 e] h K := by
  apply S250_T
  unfold S250
  refine T_part hp hs h0 h1 (by decide) (by decide) fun h' hp => ?_
  have hv := valOf_le (Ar.at_range hA (baseOf s + (2 + 3 * e + 1)))
  refine bnd_of rfl (bnd_of rfl (ifV_bool (fun q => ?_) fun q => ?_))
  · refine T_Of (by omega) (by omega) (bnd_of rfl (bnd_of rfl (st1 hp _ rfl (by simp) rfl rfl fun h' hp => ?_)))
    rw [if_neg (by decide)] at q ⊢
    rw [if_pos q] at hK
    exact hK _ hp
  · rw [if_neg (by decide)] at q ⊢
    rw [if_neg (by rw [q]; decide)] at hK
    exact hK _ hp
theorem T_decision (hp : All (arP 142 a A :: pts f (heldRow TT s g cell was opn won rest sz) :: R) h) (hs : Life s g) (hA : A.ok)
    (hK : ∀ h', All (arP 142 a (A.ld (baseOf s)) :: pts f (heldRow TT s g cell was (decide (A.at (baseOf s) = stateW g 0)) (decide (A.at (baseOf s) = stateW g 1)) rest sz) :: R) h' → K (.bool (plainOf (A.at (baseOf s))).isSome) h') : T Tryz.prog 251 [.pointer (some ⟨f, 0, none⟩), .pointer (some ⟨a, 0, none⟩)] h K := by
  apply S251_T
  unfold S251
  have hb : baseOf s = 34 + s * 50 := rfl
  have h0 := hs.s0
  have h1 := hs.s1
  refine wk ?_
  refine T_Base hs.s0 hs.s1 (L_Load hp (by omega) (by omega) fun h1 hp => ?_)
  refine wk ?_
  refine T_Plain (Ar.at_range hA _).2 ?_
  refine wk ?_
  refine T_State hs.g0 hs.g1 (by decide) (by decide) (bnd_of (eqI_int _ _ _) ?_)
  refine bnd_of rfl (bnd_of rfl (st1 hp (heldRow TT s g cell was (decide (A.at (baseOf s) = stateW g 0)) won rest sz) rfl (by simp) rfl rfl fun h' hp => ?_))
  refine wk ?_
  refine T_State hs.g0 hs.g1 (by decide) (by decide) (bnd_of (eqI_int _ _ _) ?_)
  refine bnd_of rfl (bnd_of rfl (st1 hp (heldRow TT s g cell was (decide (A.at (baseOf s) = stateW g 0)) (decide (A.at (baseOf s) = stateW g 1)) rest sz) rfl (by simp) rfl rfl fun h' hp => ?_))
  exact hK _ hp
theorem T_settle {put : Int} (hp : All (arP 142 a A :: pts f (heldRow TT s g cell was opn won rest sz) :: R) h) (hs : Life s g) (hc0 : 0 ≤ cell) (hc1 : cell < 16) (hw : I64 was)
    (hK : ∀ h', All (arP 142 a (A.cas cell put (if opn then (Form.mcas s g).number else was)) :: pts f (heldRow TT s g cell was opn won rest sz) :: R) h' → K (.tuple #[]) h') : T Tryz.prog 252 [.pointer (some ⟨f, 0, none⟩), .pointer (some ⟨a, 0, none⟩), i64 put] h K := by
  apply S252_T
  unfold S252
  have hn : I64 (Form.mcas s g).number := by
    have := hs.s0; have := hs.s1; have := hs.g0; have := hs.g1
    simp only [Form.number]; constructor <;> omega
  refine wk ?_
  refine ifV_bool (fun q => ?_) fun q => ?_
  · refine bnd_of rfl (bnd_of rfl (la1 hp (c := [i64 s, i64 g]) (by simp [heldRow]) rfl (T_Number_mcas ⟨hs.s0, hs.s1, hs.g0, hs.g1⟩ ?_)))
    unfold S252_j1
    refine wk ?_
    refine L_Swap hp (by omega) (by omega) hn fun h' hp => ?_
    rw [if_pos q] at hK
    exact hK _ hp
  · unfold S252_j1
    refine wk ?_
    refine L_Swap hp (by omega) (by omega) hw fun h' hp => ?_
    rw [if_neg (by rw [q]; decide)] at hK
    exact hK _ hp
end
end Go.Proofs.YtcpfkkppfgolaaaGreatDoor
namespace Go.Proofs.YtcpfkkppfgolaaaGreatDoor
open Go GW Go.Proofs
attribute [local irreducible] bnd ldV stV ifV binV eqI
set_option maxRecDepth 20000
abbrev ptr (b : Nat) : Value := .pointer (some ⟨b, 0, none⟩)
abbrev whRow (w : Wh) (hd : Nat) (oth : Value) (to : Int) : GObj := heldRow 330 w.s w.g w.cell w.was w.opn w.won [ptr hd, i64 w.pc, i64 w.i, i64 w.k, i64 w.put, oth, i64 to] 13
abbrev enRow (f : En) (won : Bool) : GObj := heldRow 327 f.s f.g f.cell f.was f.opn won [i64 f.s, i64 f.g, i64 f.e, i64 f.t, i64 f.q, i64 f.pc] 12
abbrev hdRow (t q : Int) (rest : List Value) : GObj := .row 296 ([i64 t, i64 q] ++ rest) 6 true
def othP (hd : Nat) (oth : Value) (x : Int) : Part := fun h => ∃ c s g, (oth = .iface 328 (ptr c) ∧ read x = some (.mcas s g)) ∧ pts c (whRow (Wh.new s g) hd .nilIface 0) h
def whP (hd b : Nat) (w : Wh) : Part := fun h => ∃ (oth : Value) (to : Int), (oneCell oth = true ∧ (w.pc = 13 → w.x = to * 4 ∧ 0 ≤ to ∧ to < 1099511627776)) ∧ All [pts b (whRow w hd oth to), fun h => w.pc = 14 → othP hd oth w.x h] h
theorem whP_of {hd b : Nat} {w : Wh} {oth : Value} {to : Int} {h : GH} (p : pts b (whRow w hd oth to) h) (o : oneCell oth = true) (h13 : w.pc = 13 → w.x = to * 4 ∧ 0 ≤ to ∧ to < 1099511627776) (h14 : w.pc ≠ 14) : whP hd b w h :=
  ⟨oth, to, ⟨o, h13⟩, All.two p fun q => absurd q h14⟩
def frP (hd : Nat) (v : Value) : Fr → Part
  | .who w => fun h => ∃ b, v = .iface 328 (ptr b) ∧ whP hd b w h
  | .ent f => fun h => ∃ b, v = .iface 323 (ptr b) ∧ ∃ won, pts b (enRow f won) h
def atP (hd : Nat) (v : Value) : Option Fr → Part
  | none => fun _ => v = .nilIface
  | some f => frP hd v f
theorem eqMcas (s g s' g' : Int) : eqP Tryz.prog 10000 121 (.agg [i64 s, i64 g].toArray) (.agg [i64 s', i64 g'].toArray) = some (decide (s = s' ∧ g = g')) := by
  have h : eqP Tryz.prog 10000 121 (.agg [i64 s, i64 g].toArray) (.agg [i64 s', i64 g'].toArray) = some ((s == s') && ((g == g') && true)) := by kernel_rfl
  rw [h, Bool.and_true, Bool.decide_and, Bool.beq_eq_decide_eq, Bool.beq_eq_decide_eq]
section
variable {a b hd : Nat} {A : Ar} {w : Wh} {oth : Value} {to : Int} {R : List Part} {h : GH} {K : Value → GH → Prop}
theorem T_hnext {t q : Int} {rest : List Value} (hp : All (pts hd (hdRow t q rest) :: R) h) (q0 : 0 ≤ q) (q1 : q < 1048576)
    (hK : ∀ h', All (pts hd (hdRow t ((q + 1) % 1048576) rest) :: R) h' → K (i64 q) h') : T Tryz.prog 246 [ptr hd] h K := by
  apply S246_T
  unfold S246
  refine wk ?_
  refine bnd_of (rem_nn (by omega) (by decide)) ?_
  refine wk ?_
  exact st0 hp _ rfl (by simp) rfl rfl fun h' hp => hK _ hp
theorem T_wnext {more stop : Nat} (hp : All (pts b (whRow w hd oth to) :: R) h) (i0 : 0 ≤ w.i) (i1 : w.i ≤ 16) (hm : more ≠ stop)
    (hK : ∀ h', All (pts b (whRow (w.next more stop) hd oth to) :: R) h' → K (.bool (decide (w.k ≤ w.i + 1))) h') : T Tryz.prog 255 [ptr b, i64 more, i64 stop] h K := by
  apply S255_T
  unfold S255
  refine wk ?_
  refine st0 hp (whRow { w with i := w.i + 1 } hd oth to) rfl (by simp) rfl rfl fun h' hp => ?_
  refine wk ?_
  refine st0 hp (whRow { w with i := w.i + 1, pc := more } hd oth to) rfl (by simp) rfl rfl fun h' hp => ?_
  refine wk ?_
  refine ifV_cases (fun q => ?_) fun q => ?_
  · refine wk ?_
    refine st0 hp (whRow { w with i := w.i + 1, pc := stop } hd oth to) rfl (by simp) rfl rfl fun h' hp => ?_
    refine wk ?_
    have e : w.next more stop = { w with i := w.i + 1, pc := stop } := by unfold Wh.next; rw [if_pos q]
    rw [e, decide_eq_true q] at hK
    rw [decide_eq_true rfl]
    exact hK _ hp
  · refine wk ?_
    have e : w.next more stop = { w with i := w.i + 1, pc := more } := by unfold Wh.next; rw [if_neg q]
    have q' : ¬ (w.k ≤ w.i + 1) := q
    rw [e, decide_eq_false q'] at hK
    rw [decide_eq_false (show ¬ ((more : Int) = stop) by omega)]
    exact hK _ hp
theorem T_framedM {s g : Int} (hp : All R h) (hK : ∀ c h', All (pts c (whRow (Wh.new s g) hd .nilIface 0) :: R) h' → K (.iface 328 (ptr c)) h') : T Tryz.prog 181 [formV (some (.mcas s g)), ptr hd] h K := by
  apply S181_T
  unfold S181
  refine wk ?_
  refine nwst hp (.row 121 [i64 s, i64 g] 2 true) rfl rfl rfl (by rfl) fun c h' hp => ?_
  refine la0 hp (c := [i64 s, i64 g]) (by simp) rfl ?_
  refine wk ?_
  refine nw hp (whRow (Wh.new s g) hd .nilIface 0) rfl fun c h' hp => ?_
  exact hK _ _ (All.mono2 hp fun _ q => q.tail)
theorem T_framed {fo : Option Form} (hp : All R h) (hK : ∀ v h', All (atP hd v (fo.bind newFr) :: R) h' → K v h') : T Tryz.prog 181 [formV fo, ptr hd] h K := by
  cases fo with
  | none => apply S181_T; unfold S181; refine wk ?_; exact hK _ _ (hp.emp_cons rfl)
  | some f =>
    cases f with
    | val v => apply S181_T; unfold S181; refine wk ?_; exact hK _ _ (hp.emp_cons rfl)
    | mcas s g =>
      exact T_framedM hp fun c h' hp => hK _ _ (hp.head fun h1 q => ⟨c, rfl, whP_of q rfl (fun q => by cases q) (fun q => by cases q)⟩)
    | entry s g e t q =>
      apply S181_T; unfold S181
      refine wk ?_
      refine nwst hp (.row 217 [i64 s, i64 g, i64 e, i64 t, i64 q] 5 true) rfl rfl rfl (by rfl) fun c h' hp => ?_
      refine wk ?_
      refine la0 hp (c := [i64 s, i64 g]) (by simp) rfl ?_
      refine wk ?_
      refine la0 hp (c := [i64 s, i64 g, i64 e, i64 t, i64 q]) (by simp) rfl ?_
      refine wk ?_
      refine nw hp (enRow (En.new s g e t q) false) rfl fun c h' hp => ?_
      exact hK _ _ ((All.mono2 hp fun _ q => q.tail).head fun h1 q => ⟨c, rfl, false, q⟩)
end
end Go.Proofs.YtcpfkkppfgolaaaGreatDoor
namespace Go.Proofs.YtcpfkkppfgolaaaGreatDoor
open Go GW Go.Proofs
attribute [local irreducible] bnd ldV stV ifV binV eqI
set_option maxRecDepth 20000
def frB (hd b : Nat) : Fr → Part
  | .who w => whP hd b w
  | .ent f => fun h => ∃ won, pts b (enRow f won) h
def frT : Fr → TypeId
  | .who _ => 328
  | .ent _ => 323
theorem frP_iff {hd : Nat} {v : Value} {f : Fr} {h : GH} : frP hd v f h ↔ ∃ b, v = .iface (frT f) (ptr b) ∧ frB hd b f h := by
  cases f <;> exact Iff.rfl
theorem stateW_range {g st : Int} (h0 : 0 ≤ g) (h1 : g < 65536) (h2 : 0 ≤ st) (h3 : st < 4) : I64 (stateW g st) := by
  unfold stateW; constructor <;> omega
section
variable {a b hd : Nat} {A : Ar} {w : Wh} {oth : Value} {to : Int} {R : List Part} {h : GH} {K : Value → GH → Prop}
theorem T_decide {st : Int} (hp : All (arP 142 a A :: pts b (whRow w hd oth to) :: R) h) (hs : Life w.s w.g) (h0 : 0 ≤ st) (h1 : st < 4)
    (hK : ∀ h', All (arP 142 a (A.cas (baseOf w.s) (stateW w.g 0) (stateW w.g st)) :: pts b (whRow { w with pc := 1 } hd oth to) :: R) h' → K (.tuple #[]) h') : T Tryz.prog 261 [ptr b, ptr a, i64 st] h K := by
  apply S261_T
  unfold S261
  have hb : baseOf w.s = 34 + w.s * 50 := rfl
  have s0 := hs.s0
  have s1 := hs.s1
  refine wk ?_
  refine T_Base s0 s1 ?_
  refine wk ?_
  refine T_State hs.g0 hs.g1 (by decide) (by decide) ?_
  refine wk ?_
  refine T_State hs.g0 hs.g1 h0 h1 ?_
  refine L_Swap hp (by omega) (by omega) (stateW_range hs.g0 hs.g1 h0 h1) fun h' hp => ?_
  refine wk ?_
  exact st1 hp (whRow { w with pc := 1 } hd oth to) rfl (by simp) rfl rfl fun h' hp => hK _ hp
theorem T_counted (hp : All (arP 142 a A :: pts b (whRow w hd oth to) :: R) h) (hs : Life w.s w.g) (hpc : w.pc ≤ 14)
    (hK : ∀ h', All (arP 142 a (A.ld (baseOf w.s + 1)) :: pts b (whRow { w with k := valOf (A.at (baseOf w.s + 1)), i := 0, pc := w.pc + 1 } hd oth to) :: R) h' → K (.tuple #[.bool (decide (valOf (A.at (baseOf w.s + 1)) = 0)), .bool (isVal (A.at (baseOf w.s + 1)) 16)]) h') : T Tryz.prog 260 [ptr b, ptr a] h K := by
  apply S260_T
  unfold S260
  refine wk ?_
  refine T_hLoad hp ⟨hs.s0, hs.s1⟩ (by decide) (by decide) fun h' hp => ?_
  refine wk ?_
  refine st1 hp (whRow { w with k := valOf (A.at (baseOf w.s + 1)) } hd oth to) rfl (by simp) rfl rfl fun h' hp => ?_
  refine wk ?_
  refine st1 hp (whRow { w with k := valOf (A.at (baseOf w.s + 1)), i := 0 } hd oth to) rfl (by simp) rfl rfl fun h' hp => ?_
  refine wk ?_
  refine st1 hp (whRow { w with k := valOf (A.at (baseOf w.s + 1)), i := 0, pc := w.pc + 1 } hd oth to) rfl (by simp) rfl rfl fun h' hp => ?_
  refine wk ?_
  exact hK _ hp
theorem whP_open {C : Prop} (hp : All (arP 142 a A :: whP hd b w :: R) h) (k : ∀ oth to, oneCell oth = true → (w.pc = 13 → w.x = to * 4 ∧ 0 ≤ to ∧ to < 1099511627776) → All (arP 142 a A :: pts b (whRow w hd oth to) :: (fun h => w.pc = 14 → othP hd oth w.x h) :: R) h → C) : C := by
  have h1 : All (whP hd b w :: arP 142 a A :: R) h := hp.up 1
  obtain ⟨oth, h1⟩ := All.ex h1
  obtain ⟨to, h1⟩ := All.ex h1
  obtain ⟨⟨q1, q2⟩, h1⟩ := All.pure h1
  have h2 : All (pts b (whRow w hd oth to) :: (fun h => w.pc = 14 → othP hd oth w.x h) :: arP 142 a A :: R) h := All.flat h1
  exact k oth to q1 q2 (h2.up 2)
variable {t q : Int} {rest : List Value}
def Left (a hd b : Nat) (t : Int) (rest : List Value) (o : Out) (R : List Part) (K : Value → GH → Prop) : Prop :=
  ∀ av h', All (arP 142 a o.a :: (fun h => o.good = true → frB hd b o.fr h) :: atP hd av (o.atop.bind newFr) :: pts hd (hdRow t o.q rest) :: R) h' → K av h'
theorem Left.flat {o : Out} {w' : Wh} (hK : Left a hd b t rest o R K) (e : o.fr = .who w') (eq : o.q = q) (e1 : o.atop = none) (ho : oneCell oth = true) (h13 : o.good = true → w'.pc = 13 → w'.x = to * 4 ∧ 0 ≤ to ∧ to < 1099511627776) (h14 : w'.pc ≠ 14) {h' : GH} {P : Part}
    (hp : All (arP 142 a o.a :: pts b (whRow w' hd oth to) :: P :: pts hd (hdRow t q rest) :: R) h') : K .nilIface h' := by
  refine hK .nilIface h' ?_
  rw [e, e1, eq]
  refine hp.mono2 fun _ z => ?_
  have h1 : All (pts b (whRow w' hd oth to) :: pts hd (hdRow t q rest) :: R) _ := z.mono2 fun _ z => z.tail
  have h2 : All ((fun h => o.good = true → frB hd b (.who w') h) :: pts hd (hdRow t q rest) :: R) _ := h1.head fun _ z hg => whP_of z ho (h13 hg) h14
  exact h2.mono2 fun _ z => z.emp_cons rfl
end
end Go.Proofs.YtcpfkkppfgolaaaGreatDoor
namespace Go.Proofs.YtcpfkkppfgolaaaGreatDoor
open Go GW Go.Proofs
attribute [local irreducible] bnd ldV stV ifV binV eqI
set_option maxRecDepth 20000
section
variable {a b hd : Nat} {A : Ar} {w : Wh} {oth : Value} {to : Int} {R : List Part} {h : GH} {K : Value → GH → Prop} {t q : Int} {rest : List Value}
theorem is_val {x most : Int} (h : isVal x most = true) : valOf x ≤ most ∧ (plainOf x).isSome = true := by
  unfold isVal at h
  simp only [Bool.and_eq_true, decide_eq_true_eq] at h
  exact ⟨h.2, h.1⟩
theorem T_ask1 {s g i k cell was put x : Int} {opn won : Bool} {P : Part} (hp : All (arP 142 a A :: pts b (whRow ⟨s, g, 1, i, k, cell, was, put, x, opn, won⟩ hd oth to) :: P :: pts hd (hdRow t q rest) :: R) h) (hs : Life s g) (ho : oneCell oth = true)
    (hK : Left a hd b t rest ((Wh.mk s g 1 i k cell was put x opn won).step t q A) R fun v h => K (.tuple #[v, .bool false, .bool (plainOf (A.at (baseOf s))).isSome]) h) : T Tryz.prog 259 [ptr b, ptr a] h K := by
  apply S259_T
  unfold S259
  refine wk ?_
  refine T_decision hp hs (arP.at hp).2 fun h' hp => ?_
  refine wk ?_
  refine ifN_cases (fun c => ?_) fun c => ?_
  · refine wk ?_
    refine st1 hp (whRow ⟨s, g, 10, i, k, cell, was, put, x, decide (A.at (baseOf s) = stateW g 0), decide (A.at (baseOf s) = stateW g 1)⟩ hd oth to) rfl (by simp) rfl rfl fun h' hp => ?_
    refine hK.flat (w' := ⟨s, g, 10, i, k, cell, was, put, x, decide (A.at (baseOf s) = stateW g 0), decide (A.at (baseOf s) = stateW g 1)⟩) ?_ rfl rfl ho (fun _ e => by cases e) (fun e => by cases e) hp
    simp only [Wh.step, decide_eq_false c]; rfl
  · refine wk ?_
    refine st1 hp (whRow ⟨s, g, 2, i, k, cell, was, put, x, decide (A.at (baseOf s) = stateW g 0), decide (A.at (baseOf s) = stateW g 1)⟩ hd oth to) rfl (by simp) rfl rfl fun h' hp => ?_
    refine hK.flat (w' := ⟨s, g, 2, i, k, cell, was, put, x, decide (A.at (baseOf s) = stateW g 0), decide (A.at (baseOf s) = stateW g 1)⟩) ?_ rfl rfl ho (fun _ e => by cases e) (fun e => by cases e) hp
    simp only [Wh.step, decide_eq_true c]; rfl
theorem T_ask14 {s g i k cell was put x : Int} {opn won : Bool} (hp : All (arP 142 a A :: pts b (whRow ⟨s, g, 14, i, k, cell, was, put, x, opn, won⟩ hd oth to) :: othP hd oth x :: pts hd (hdRow t q rest) :: R) h) (hs : Life s g) (ho : oneCell oth = true)
    (hK : Left a hd b t rest ((Wh.mk s g 14 i k cell was put x opn won).step t q A) R fun v h => K (.tuple #[v, .bool false, .bool (plainOf (A.at (baseOf s))).isSome]) h) : T Tryz.prog 259 [ptr b, ptr a] h K := by
  apply S259_T
  unfold S259
  refine wk ?_
  refine T_decision hp hs (arP.at hp).2 fun h' hp => ?_
  refine wk ?_
  refine ifN_cases (fun c => ?_) fun c => ?_
  · refine wk ?_
    refine st1 hp (whRow ⟨s, g, 10, i, k, cell, was, put, x, decide (A.at (baseOf s) = stateW g 0), decide (A.at (baseOf s) = stateW g 1)⟩ hd oth to) rfl (by simp) rfl rfl fun h' hp => ?_
    have e : (Wh.mk s g 14 i k cell was put x opn won).step t q A = ⟨.who ⟨s, g, 10, i, k, cell, was, put, x, decide (A.at (baseOf s) = stateW g 0), decide (A.at (baseOf s) = stateW g 1)⟩, none, false, (plainOf (A.at (baseOf s))).isSome, A.ld (baseOf s), q⟩ := by
      simp only [Wh.step, decide_eq_false c]; rfl
    rw [e] at hK
    exact hK.flat (w' := ⟨s, g, 10, i, k, cell, was, put, x, decide (A.at (baseOf s) = stateW g 0), decide (A.at (baseOf s) = stateW g 1)⟩) rfl rfl rfl ho (fun _ e => by cases e) (fun e => by cases e) hp
  · refine wk ?_
    refine st1 hp (whRow ⟨s, g, 5, i, k, cell, was, put, x, decide (A.at (baseOf s) = stateW g 0), decide (A.at (baseOf s) = stateW g 1)⟩ hd oth to) rfl (by simp) rfl rfl fun h' hp => ?_
    refine wk ?_
    have e : (Wh.mk s g 14 i k cell was put x opn won).step t q A = ⟨.who ⟨s, g, 5, i, k, cell, was, put, x, decide (A.at (baseOf s) = stateW g 0), decide (A.at (baseOf s) = stateW g 1)⟩, read x, false, (plainOf (A.at (baseOf s))).isSome, A.ld (baseOf s), q⟩ := by
      simp only [Wh.step, decide_eq_true c]; rfl
    rw [e] at hK
    refine hK oth _ ?_
    refine hp.mono2 fun _ z => ?_
    have h1 := z.head (Q := fun h => (plainOf (A.at (baseOf s))).isSome = true → frB hd b (.who ⟨s, g, 5, i, k, cell, was, put, x, decide (A.at (baseOf s) = stateW g 0), decide (A.at (baseOf s) = stateW g 1)⟩) h) fun _ z _ => whP_of z ho (fun e => by cases e) (fun e => by cases e)
    refine h1.mono2 fun _ z => z.head fun h1 ⟨c, s, g, ⟨e1, e2⟩, e3⟩ => ?_
    simp only
    rw [e2]
    exact ⟨c, e1, whP_of e3 rfl (fun q => by cases q) (fun q => by cases q)⟩
end
end Go.Proofs.YtcpfkkppfgolaaaGreatDoor
namespace Go.Proofs.YtcpfkkppfgolaaaGreatDoor
open Go GW Go.Proofs
attribute [local irreducible] bnd ldV stV ifV binV eqI
set_option maxRecDepth 20000
theorem entry_range {s g e t q : Int} (hs : Life s g) (e0 : 0 ≤ e) (e1 : e < 16) (t0 : 0 ≤ t) (t1 : t < 4) (q0 : 0 ≤ q) (q1 : q < 1048576) : I64 (Form.entry s g e t q).number := by
  have := hs.s0; have := hs.s1; have := hs.g0; have := hs.g1
  simp only [Form.number]; constructor <;> omega
theorem mcas_range {s g : Int} (hs : Life s g) : I64 (Form.mcas s g).number := by
  have := hs.s0; have := hs.s1; have := hs.g0; have := hs.g1
  simp only [Form.number]; constructor <;> omega
section
variable {a b hd : Nat} {A : Ar} {w : Wh} {oth : Value} {to : Int} {R : List Part} {h : GH} {K : Value → GH → Prop} {t q : Int} {rest : List Value}
theorem T_swapIn {P : Part} (hp : All (arP 142 a A :: pts b (whRow w hd oth to) :: P :: pts hd (hdRow t q rest) :: R) h) (hpc : w.pc = 5) (ok : w.ok) (ho : oneCell oth = true) (t0 : 0 ≤ t) (t1 : t < 4) (q0 : 0 ≤ q) (q1 : q < 1048576)
    (hK : Left a hd b t rest (w.step t q A) R fun v h => K (.tuple #[v, .bool (w.step t q A).good]) h) : T Tryz.prog 258 [ptr b, ptr a] h K := by
  apply S258_T
  unfold S258
  have i2 := ok.i2 (by rw [hpc]; decide) (by rw [hpc]; decide) (by rw [hpc]; decide) (by rw [hpc]; decide)
  have i0 := ok.i0
  have s0 := ok.life.s0; have s1 := ok.life.s1; have g0 := ok.life.g0; have g1 := ok.life.g1
  have hp3 : All (pts hd (hdRow t q rest) :: arP 142 a A :: pts b (whRow w hd oth to) :: P :: R) h := hp.up 3
  refine wk ?_
  refine la1 hp (c := [i64 w.s, i64 w.g]) (by simp) rfl ?_
  refine wk ?_
  refine T_hnext hp3 q0 q1 fun h' hp3 => ?_
  replace hp : All (arP 142 a A :: pts b (whRow w hd oth to) :: P :: pts hd (hdRow t ((q + 1) % 1048576) rest) :: R) h' := hp3.dn 3
  refine wk ?_
  refine hla1 hp (c := [i64 w.s, i64 w.g]) (by simp) rfl ?_
  refine wk ?_
  refine T_Number_entry ⟨s0, s1, g0, g1, i0, i2, t0, t1, q0, q1⟩ ?_
  have hn := entry_range ok.life i0 i2 t0 t1 q0 q1
  refine wk ?_
  refine st1 hp (whRow { w with put := (Form.entry w.s w.g w.i t q).number } hd oth to) rfl (by simp) rfl rfl fun h' hp => ?_
  refine wk ?_
  have c0 := ok.c0
  have c1 := ok.c1
  have hA := (arP.at hp).2
  refine L_Swap hp (by simp only; omega) (by simp only; omega) hn fun h' hp => ?_
  refine wk ?_
  have e : w.step t q A = w.swapIn t q A := by
    unfold Wh.step; rw [hpc]; rfl
  rw [e] at hK
  unfold Wh.swapIn at hK
  refine ifV_cases (fun c => ?_) fun c => ?_
  · refine wk ?_
    refine st1 hp (whRow { w with put := (Form.entry w.s w.g w.i t q).number, pc := 6 } hd oth to) rfl (by simp) rfl rfl fun h' hp => ?_
    simp only [if_pos c] at hK
    exact hK.flat (w' := { w with put := (Form.entry w.s w.g w.i t q).number, pc := 6 }) rfl rfl rfl ho (fun _ e => by cases e) (fun e => by cases e) hp
  simp only [if_neg c] at hK
  refine T_Read (Ar.at_range hA _).2 ?_
  cases hr : read (A.at w.cell) with
  | none =>
    rw [hr] at hK
    refine wk ?_
    refine nwst hp (.row 121 [i64 0, i64 0] 2 true) rfl rfl rfl (by rfl) fun c h' hp => ?_
    refine wk ?_
    unfold S258_j1
    refine wk ?_
    exact hK .nilIface _ (hp.tail.mono2 fun _ z => All.emp_cons (All.emp_cons z.tail.tail rfl) (by intro q; cases q))
  | some f =>
    rw [hr] at hK
    have hm := (number_of_read hr).1
    cases f with
    | val v =>
      refine wk ?_
      refine nwst hp (.row 121 [i64 0, i64 0] 2 true) rfl rfl rfl (by rfl) fun c h' hp => ?_
      refine wk ?_
      unfold S258_j1
      refine wk ?_
      refine st2 hp (whRow { w with put := (Form.entry w.s w.g w.i t q).number, pc := 9 } hd oth to) rfl (by simp) rfl rfl fun h' hp => ?_
      exact hK.flat (w' := { w with put := (Form.entry w.s w.g w.i t q).number, pc := 9 }) rfl rfl rfl ho (fun _ e => by cases e) (fun e => by cases e) hp.tail
    | entry s' g' e' t' q' =>
      refine wk ?_
      refine nwst hp (.row 121 [i64 0, i64 0] 2 true) rfl rfl rfl (by rfl) fun c h' hp => ?_
      refine wk ?_
      unfold S258_j1
      refine wk ?_
      refine T_framed (fo := some (.entry s' g' e' t' q')) hp fun v h' hp => ?_
      refine wk ?_
      refine hK v _ ?_
      have h2 : All (arP 142 a _ :: pts b (whRow _ hd oth to) :: atP hd v _ :: pts hd _ :: R) _ := hp.re 6 [2, 3, 0, 5]
      refine h2.mono2 fun _ z => z.head fun _ z _ => ?_
      exact whP_of z ho (fun e => by rw [show ({ w with put := (Form.entry w.s w.g w.i t q).number } : Wh).pc = 5 from hpc] at e; cases e) (fun e => by rw [show ({ w with put := (Form.entry w.s w.g w.i t q).number } : Wh).pc = 5 from hpc] at e; cases e)
    | mcas s' g' =>
      refine wk ?_
      refine nwst hp (.row 121 [i64 s', i64 g'] 2 true) rfl rfl rfl (by rfl) fun c h' hp => ?_
      refine wk ?_
      refine la0 hp (c := [i64 s', i64 g']) (by simp) rfl ?_
      refine wk ?_
      refine la2 hp (c := [i64 w.s, i64 w.g]) (by simp) rfl ?_
      refine bnd_of (eqMcas s' g' w.s w.g) (ifV_cases (fun c => ?_) fun c => ?_)
      · simp only [if_pos c] at hK
        refine T_wnext (more := 3) (stop := 8) (w := { w with put := (Form.entry w.s w.g w.i t q).number }) (R := arP 142 a _ :: P :: pts hd _ :: R) (hp.re 5 [2, 1, 3, 4]) i0 (by simp only; omega) (by decide) fun h' hp => ?_
        refine wk ?_
        refine hK.flat (P := P) rfl rfl rfl ho (fun _ e => ?_) (fun e => ?_) (hp.up 1)
        · exfalso; revert e; unfold Wh.next; simp only; split <;> intro e <;> cases e
        · revert e; unfold Wh.next; simp only; split <;> intro e <;> cases e
      · simp only [if_neg c] at hK
        unfold S258_j1
        refine wk ?_
        refine T_framedM hp fun d h' hp => ?_
        replace hp := hp.up 3
        refine wk ?_
        refine st0 hp (whRow { w with put := (Form.entry w.s w.g w.i t q).number } hd (.iface 328 (ptr d)) to) rfl (by simp) rfl rfl fun h' hp => ?_
        refine wk ?_
        refine st0 hp (whRow { w with put := (Form.entry w.s w.g w.i t q).number, pc := 14 } hd (.iface 328 (ptr d)) to) rfl (by simp) rfl rfl fun h' hp => ?_
        refine hK .nilIface _ ?_
        have h2 : All (pts b (whRow { w with put := (Form.entry w.s w.g w.i t q).number, pc := 14 } hd (.iface 328 (ptr d)) to) :: pts d (whRow (Wh.new s' g') hd .nilIface 0) :: arP 142 a _ :: pts hd _ :: R) _ := hp.re 6 [0, 1, 3, 5]
        have h3 := (All.fold (l := [_, _]) h2)
        refine (All.up (h3.head (Q := fun h => true = true → frB hd b (.who { w with put := (Form.entry w.s w.g w.i t q).number, x := A.at w.cell, pc := 14 }) h) fun h1 z _ => ?_) 1).mono2 fun _ z => z.mono2 fun _ z => All.emp_cons (P := atP hd .nilIface none) z rfl
        refine ⟨.iface 328 (ptr d), to, ⟨rfl, fun e => by cases e⟩, ?_⟩
        exact z.mono2 fun _ z => z.head fun _ z _ => ⟨d, s', g', ⟨rfl, hr⟩, z⟩
end
end Go.Proofs.YtcpfkkppfgolaaaGreatDoor
namespace Go.Proofs.YtcpfkkppfgolaaaGreatDoor
open Go GW Go.Proofs
attribute [local irreducible] bnd ldV stV ifV binV eqI
set_option maxRecDepth 20000
section
variable {a b hd : Nat} {A : Ar} {w : Wh} {oth : Value} {to : Int} {R : List Part} {h : GH} {K : Value → GH → Prop} {t q : Int} {rest : List Value} {P : Part}
theorem valOf_range (hA : A.ok) (i : Int) : 0 ≤ valOf (A.at i) ∧ valOf (A.at i) < 1099511627776 := valOf_le (Ar.at_range hA i)
theorem T_release (hp : All (arP 142 a A :: pts b (whRow w hd oth to) :: P :: pts hd (hdRow t q rest) :: R) h) (hpc : w.pc = 10 ∨ w.pc = 11 ∨ w.pc = 12 ∨ w.pc = 13) (ok : w.ok) (ho : oneCell oth = true) (h13 : w.pc = 13 → w.x = to * 4 ∧ 0 ≤ to ∧ to < 1099511627776)
    (hK : Left a hd b t rest (w.step t q A) R fun v h => K (.tuple #[.bool (w.step t q A).over, .bool (w.step t q A).good]) h) : T Tryz.prog 257 [ptr b, ptr a] h K := by
  apply S257_T
  unfold S257
  have hA := (arP.at hp).2
  obtain ⟨s, g, pc, i, k, cell, was, put, x, opn, won⟩ := w
  have hs := ok.life
  have i0 := ok.i0
  have i1 := ok.i1
  simp only at hpc h13 hs i0 i1
  rcases hpc with rfl | rfl | rfl | rfl
  · refine wk ?_
    refine T_counted hp hs (by simp) fun h' hp => ?_
    refine wk ?_
    exact hK.flat (w' := ⟨s, g, 11, 0, valOf (A.at (baseOf s + 1)), cell, was, put, x, opn, won⟩) rfl rfl rfl ho (fun _ e => by cases e) (fun e => by cases e) hp
  · have i2 := ok.i2 (by simp) (by simp) (by simp) (by simp)
    simp only at i2
    refine wk ?_
    refine st1 hp (whRow ⟨s, g, 12, i, k, cell, was, put, x, opn, won⟩ hd oth to) rfl (by simp) rfl rfl fun h' hp => ?_
    refine wk ?_
    refine T_takeCell hp ⟨hs.s0, hs.s1⟩ i0 i2 fun h' hp => ?_
    exact hK.flat (w' := ⟨s, g, 12, i, k, valOf (A.at (baseOf s + (2 + 3 * i + 0))), was, put, x, opn, won⟩) rfl rfl rfl ho (fun _ e => by cases e) (fun e => by cases e) hp
  · have i2 := ok.i2 (by simp) (by simp) (by simp) (by simp)
    simp only at i2
    have key : ∀ p : Int, 0 < p → p < 3 → (p = if won = true then 2 else 1) → S257_j1 (ptr b) (ptr a) (i64 p) h K := by
      intro p p0 p3 e
      unfold S257_j1
      refine wk ?_
      refine T_part hp ⟨hs.s0, hs.s1⟩ i0 i2 (by omega) p3 fun h' hp => ?_
      rw [if_neg (by omega)]
      refine wk ?_
      refine st1 hp (whRow ⟨s, g, 12, i, k, cell, was, put, x, opn, won⟩ hd oth (valOf (A.at (baseOf s + (2 + 3 * i + p))))) rfl (by simp) rfl rfl fun h' hp => ?_
      refine wk ?_
      refine st1 hp (whRow ⟨s, g, 13, i, k, cell, was, put, valOf (A.at (baseOf s + (2 + 3 * i + p))) * 4, opn, won⟩ hd oth (valOf (A.at (baseOf s + (2 + 3 * i + p))))) rfl (by simp) rfl rfl fun h' hp => ?_
      subst e
      refine hK.flat (w' := ⟨s, g, 13, i, k, cell, was, put, valOf (A.at (baseOf s + (2 + 3 * i + if won = true then 2 else 1))) * 4, opn, won⟩) rfl rfl rfl ho (fun _ _ => ⟨rfl, valOf_range hA _⟩) (fun e => by cases e) hp
    refine wk ?_
    refine ifV_bool (fun c => ?_) fun c => ?_
    · have c' : won = true := c
      exact key 2 (by decide) (by decide) (by rw [if_pos c'])
    · have c' : won = false := c
      exact key 1 (by decide) (by decide) (by rw [if_neg (by rw [c']; decide)])
  · obtain ⟨ex, x0, x1⟩ := h13 rfl
    have c0 := ok.c0
    have c1 := ok.c1
    have xr := ok.x
    simp only at c0 c1 xr
    refine wk ?_
    refine la1 hp (c := [i64 s, i64 g]) (by simp) rfl ?_
    refine wk ?_
    refine T_Number_mcas ⟨hs.s0, hs.s1, hs.g0, hs.g1⟩ ?_
    refine wk ?_
    refine T_Of (by omega) (by omega) ?_
    refine wk ?_
    rw [← ex]
    refine L_Swap hp c0 (Int.lt_trans c1 (by decide)) xr fun h' hp => ?_
    refine T_wnext (more := 11) (stop := 0) (w := ⟨s, g, 13, i, k, cell, was, put, x, opn, won⟩) (R := arP 142 a _ :: P :: pts hd _ :: R) (hp.up 1) i0 i1 (by decide) fun h' hp => ?_
    refine hK.flat (w' := (Wh.mk s g 13 i k cell was put x opn won).next 11 0) rfl rfl rfl ho (fun _ e => ?_) (fun e => ?_) (hp.up 1)
    · exfalso; revert e; unfold Wh.next; simp only; split <;> intro e <;> cases e
    · revert e; unfold Wh.next; simp only; split <;> intro e <;> cases e
theorem T_whoStep (hp : All (arP 142 a A :: whP hd b w :: pts hd (hdRow t q rest) :: R) h) (ok : w.ok) (t0 : 0 ≤ t) (t1 : t < 4) (q0 : 0 ≤ q) (q1 : q < 1048576)
    (hK : Left a hd b t rest (w.step t q A) R fun v h => K (.tuple #[v, .bool (w.step t q A).over, .bool (w.step t q A).good]) h) : T Tryz.prog 256 [ptr b, ptr a] h K := by
  apply S256_T
  unfold S256
  have hA := (arP.at hp).2
  refine whP_open hp fun oth to ho h13 hp => ?_
  have p0 := ok.pc0
  have p1 := ok.pc1
  by_cases hrel : w.pc = 10 ∨ w.pc = 11 ∨ w.pc = 12 ∨ w.pc = 13
  · refine wk ?_
    rw [decide_eq_true (by omega)]
    refine wk ?_
    rw [decide_eq_true (by omega)]
    unfold S256_j1
    refine wk ?_
    refine T_release hp hrel ok ho h13 ?_
    intro v h' hp
    refine wk ?_
    have e : (w.step t q A).atop = none := by rcases hrel with e | e | e | e <;> (unfold Wh.step; rw [e]; try rfl)
    rw [e] at hp
    have ev : v = .nilIface := by
      have : All (atP hd v none :: _) _ := hp.up 2
      exact All.case this fun h1 p _ => p
    subst ev
    refine hK _ _ ?_
    rw [e]; exact hp
  have hj : S256_j2 (ptr b) (ptr a) h K := by
    unfold S256_j2
    obtain ⟨s, g, pc, i, k, cell, was, put, x, opn, won⟩ := w
    have hs := ok.life
    have i0 := ok.i0
    have i1 := ok.i1
    have i2 := ok.i2
    have c0 := ok.c0
    have c1 := ok.c1
    have xr := ok.x
    have wr := ok.was
    simp only at h13 hs i0 i1 p0 p1 hrel i2 c0 c1 xr wr
    have : pc = 1 ∨ pc = 2 ∨ pc = 3 ∨ pc = 4 ∨ pc = 5 ∨ pc = 6 ∨ pc = 7 ∨ pc = 8 ∨ pc = 9 ∨ pc = 14 := by omega
    rcases this with rfl | rfl | rfl | rfl | rfl | rfl | rfl | rfl | rfl | rfl
    · refine wk ?_
      unfold S256_j3
      refine wk ?_
      refine T_ask1 hp hs ho ?_
      intro v h' hp
      refine wk ?_
      exact hK v _ hp
    · refine wk ?_
      unfold S256_j3
      refine wk ?_
      refine T_counted hp hs (by simp) fun h' hp => ?_
      refine wk ?_
      refine ifV_cases (fun c => ?_) fun c => ?_
      · refine wk ?_
        refine st1 hp (whRow ⟨s, g, 8, 0, valOf (A.at (baseOf s + 1)), cell, was, put, x, opn, won⟩ hd oth to) rfl (by simp) rfl rfl fun h' hp => ?_
        refine hK.flat (w' := ⟨s, g, 8, 0, valOf (A.at (baseOf s + 1)), cell, was, put, x, opn, won⟩) ?_ rfl rfl ho (fun _ e => by cases e) (fun e => by cases e) hp
        simp only [Wh.step]; rw [if_pos c]
      · refine hK.flat (w' := ⟨s, g, 3, 0, valOf (A.at (baseOf s + 1)), cell, was, put, x, opn, won⟩) ?_ rfl rfl ho (fun _ e => by cases e) (fun e => by cases e) hp
        simp only [Wh.step]; rw [if_neg c]
    · refine wk ?_
      unfold S256_j3
      refine wk ?_
      refine T_takeCell hp ⟨hs.s0, hs.s1⟩ i0 (i2 (by simp) (by simp) (by simp) (by simp)) fun h' hp => ?_
      refine wk ?_
      refine st1 hp (whRow ⟨s, g, 4, i, k, valOf (A.at (baseOf s + (2 + 3 * i + 0))), was, put, x, opn, won⟩ hd oth to) rfl (by simp) rfl rfl fun h' hp => ?_
      exact hK.flat (w' := ⟨s, g, 4, i, k, valOf (A.at (baseOf s + (2 + 3 * i + 0))), was, put, x, opn, won⟩) rfl rfl rfl ho (fun _ e => by cases e) (fun e => by cases e) hp
    · refine wk ?_
      unfold S256_j3
      refine wk ?_
      refine T_takeWas hp ⟨hs.s0, hs.s1⟩ i0 (i2 (by simp) (by simp) (by simp) (by simp)) hA fun h' hp => ?_
      refine wk ?_
      by_cases c : isVal (A.at (baseOf s + (2 + 3 * i + 1))) 1099511627775 = true
      · rw [if_pos c] at hp
        refine st1 hp (whRow ⟨s, g, 5, i, k, cell, valOf (A.at (baseOf s + (2 + 3 * i + 1))) * 4, put, x, opn, won⟩ hd oth to) rfl (by simp) rfl rfl fun h' hp => ?_
        exact hK.flat (w' := ⟨s, g, 5, i, k, cell, valOf (A.at (baseOf s + (2 + 3 * i + 1))) * 4, put, x, opn, won⟩) rfl rfl rfl ho (fun _ e => by cases e) (fun e => by cases e) hp
      · rw [if_neg c] at hp
        refine st1 hp (whRow ⟨s, g, 5, i, k, cell, was, put, x, opn, won⟩ hd oth to) rfl (by simp) rfl rfl fun h' hp => ?_
        refine hK .nilIface _ (hp.mono2 fun _ z => ?_)
        exact All.emp_cons (All.emp_cons (P := atP hd .nilIface none) z.tail.tail rfl) fun e => absurd e c
    · refine wk ?_
      refine T_swapIn hp rfl ok ho t0 t1 q0 q1 ?_
      intro v h' hp
      refine wk ?_
      have e : ((Wh.mk s g 5 i k cell was put x opn won).step t q A).over = false := by
        simp only [Wh.step, Wh.swapIn]
        split
        · rfl
        · split <;> first | rfl | (split <;> rfl)
      have := hK v _ hp
      rw [e] at this
      exact this
    · refine wk ?_
      unfold S256_j3
      refine wk ?_
      refine T_decision hp hs hA fun h' hp => ?_
      refine wk ?_
      refine st1 hp (whRow ⟨s, g, 7, i, k, cell, was, put, x, decide (A.at (baseOf s) = stateW g 0), decide (A.at (baseOf s) = stateW g 1)⟩ hd oth to) rfl (by simp) rfl rfl fun h' hp => ?_
      exact hK.flat (w' := ⟨s, g, 7, i, k, cell, was, put, x, decide (A.at (baseOf s) = stateW g 0), decide (A.at (baseOf s) = stateW g 1)⟩) rfl rfl rfl ho (fun _ e => by cases e) (fun e => by cases e) hp
    · refine wk ?_
      unfold S256_j3
      refine wk ?_
      refine T_settle hp hs c0 c1 wr fun h' hp => ?_
      refine T_wnext (more := 3) (stop := 8) (w := ⟨s, g, 7, i, k, cell, was, put, x, opn, won⟩) (R := arP 142 a _ :: _ :: pts hd _ :: R) (hp.up 1) i0 i1 (by decide) fun h' hp => ?_
      refine hK.flat (w' := (Wh.mk s g 7 i k cell was put x opn won).next 3 8) rfl rfl rfl ho (fun _ e => ?_) (fun e => ?_) (hp.up 1)
      · exfalso; revert e; unfold Wh.next; simp only; split <;> intro e <;> cases e
      · revert e; unfold Wh.next; simp only; split <;> intro e <;> cases e
    · refine wk ?_
      unfold S256_j3
      refine wk ?_
      refine T_decide hp hs (by decide) (by decide) fun h' hp => ?_
      exact hK.flat (w' := ⟨s, g, 1, i, k, cell, was, put, x, opn, won⟩) rfl rfl rfl ho (fun _ e => by cases e) (fun e => by cases e) hp
    · refine wk ?_
      unfold S256_j3
      refine wk ?_
      refine T_decide hp hs (by decide) (by decide) fun h' hp => ?_
      exact hK.flat (w' := ⟨s, g, 1, i, k, cell, was, put, x, opn, won⟩) rfl rfl rfl ho (fun _ e => by cases e) (fun e => by cases e) hp
    · refine wk ?_
      unfold S256_j3
      refine wk ?_
      have hp2 : All (arP 142 a A :: pts b _ :: othP hd oth x :: pts hd (hdRow t q rest) :: R) _ := hp.mono2 fun _ z => z.mono2 fun _ z => z.head fun _ z => z rfl
      refine T_ask14 hp2 hs ho ?_
      intro v h' hp
      refine wk ?_
      have e : ((Wh.mk s g 14 i k cell was put x opn won).step t q A).over = false ∧ ((Wh.mk s g 14 i k cell was put x opn won).step t q A).good = (plainOf (A.at (baseOf s))).isSome := by
        simp only [Wh.step]
        split <;> exact ⟨rfl, rfl⟩
      have := hK v _ hp
      rw [e.1, e.2] at this
      exact this
  refine wk ?_
  refine ifV_cases (fun c => ?_) fun c => ?_
  · refine wk ?_
    rw [decide_eq_false (by omega)]
    unfold S256_j1
    refine wk ?_
    exact hj
  · unfold S256_j1
    refine wk ?_
    exact hj
end
end Go.Proofs.YtcpfkkppfgolaaaGreatDoor
namespace Go.Proofs.YtcpfkkppfgolaaaGreatDoor
open Go GW Go.Proofs
attribute [local irreducible] bnd ldV stV ifV binV eqI
set_option maxRecDepth 20000
section
variable {a b hd : Nat} {A : Ar} {R : List Part} {h : GH} {K : Value → GH → Prop} {t q : Int} {rest : List Value}
def enP (b : Nat) (f : En) : Part := fun h => ∃ won, pts b (enRow f won) h
theorem T_entStep {f : En} (hp : All (arP 142 a A :: enP b f :: pts hd (hdRow t q rest) :: R) h) (ok : f.ok)
    (hK : Left a hd b t rest (f.step q A) R fun v h => K (.tuple #[v, .bool (f.step q A).over, .bool (f.step q A).good]) h) : T Tryz.prog 247 [ptr b, ptr a] h K := by
  apply S247_T
  unfold S247
  have hA := (arP.at hp).2
  have hp1 : All (enP b f :: arP 142 a A :: pts hd (hdRow t q rest) :: R) h := hp.up 1
  obtain ⟨won, hp1⟩ := All.ex hp1
  replace hp : All (arP 142 a A :: pts b (enRow f won) :: pts hd (hdRow t q rest) :: R) h := hp1.up 1
  obtain ⟨s, g, e, t', q', pc, cell, was, opn⟩ := f
  have hs := ok.life
  have e0 := ok.e0
  have e1 := ok.e1
  have c0 := ok.c0
  have c1 := ok.c1
  have wr := ok.was
  have pc1 := ok.pc1
  simp only at hs e0 e1 c0 c1 wr pc1
  have flat : ∀ {o : Out} {f' : En} {won : Bool} {h' : GH}, Left a hd b t rest o R (fun v h => K (.tuple #[v, .bool o.over, .bool o.good]) h) → o.fr = .ent f' → o.q = q → o.atop = none → All (arP 142 a o.a :: pts b (enRow f' won) :: pts hd (hdRow t q rest) :: R) h' → K (.tuple #[.nilIface, .bool o.over, .bool o.good]) h' := by
    intro o f' won h' hK e eq e1 hp
    refine hK .nilIface h' ?_
    rw [e, e1, eq]
    exact hp.mono2 fun _ z => All.mono2 (z.head fun _ z _ => ⟨won, z⟩) fun _ z => z.emp_cons rfl
  have : pc = 0 ∨ pc = 1 ∨ pc = 2 ∨ pc = 3 := by omega
  rcases this with rfl | rfl | rfl | rfl
  · refine wk ?_
    refine st1 hp (enRow ⟨s, g, e, t', q', 1, cell, was, opn⟩ won) rfl (by simp) rfl rfl fun h' hp => ?_
    refine wk ?_
    refine T_takeCell hp ⟨hs.s0, hs.s1⟩ e0 e1 fun h' hp => ?_
    exact flat (f' := ⟨s, g, e, t', q', 1, valOf (A.at (baseOf s + (2 + 3 * e + 0))), was, opn⟩) hK rfl rfl rfl hp
  · refine wk ?_
    refine st1 hp (enRow ⟨s, g, e, t', q', 2, cell, was, opn⟩ won) rfl (by simp) rfl rfl fun h' hp => ?_
    refine wk ?_
    refine T_takeWas hp ⟨hs.s0, hs.s1⟩ e0 e1 hA fun h' hp => ?_
    by_cases c : isVal (A.at (baseOf s + (2 + 3 * e + 1))) 1099511627775 = true
    · rw [if_pos c] at hp
      exact flat (f' := ⟨s, g, e, t', q', 2, cell, valOf (A.at (baseOf s + (2 + 3 * e + 1))) * 4, opn⟩) hK rfl rfl rfl hp
    · refine hK .nilIface _ (hp.mono2 fun _ z => ?_)
      exact All.emp_cons (All.emp_cons (P := atP hd .nilIface none) z.tail rfl) fun e => absurd e c
  · refine wk ?_
    refine st1 hp (enRow ⟨s, g, e, t', q', 3, cell, was, opn⟩ won) rfl (by simp) rfl rfl fun h' hp => ?_
    refine wk ?_
    refine T_decision hp hs hA fun h' hp => ?_
    exact flat (f' := ⟨s, g, e, t', q', 3, cell, was, decide (A.at (baseOf s) = stateW g 0)⟩) hK rfl rfl rfl hp
  · refine wk ?_
    refine st1 hp (enRow ⟨s, g, e, t', q', 4, cell, was, opn⟩ won) rfl (by simp) rfl rfl fun h' hp => ?_
    refine wk ?_
    refine la1 hp (c := [i64 s, i64 g, i64 e, i64 t', i64 q']) (by simp) rfl ?_
    refine T_Number_entry ⟨hs.s0, hs.s1, hs.g0, hs.g1, e0, e1, ok.t0, ok.t1, ok.q0, ok.q1⟩ ?_
    refine T_settle hp hs c0 c1 wr fun h' hp => ?_
    exact flat (f' := ⟨s, g, e, t', q', 4, cell, was, opn⟩) hK rfl rfl rfl hp
theorem T_through {TT : TypeId} {s g cell was : Int} {opn won : Bool} {rest' : List Value} {sz : Nat} {P : Part} (hp : All (P :: pts b (heldRow TT s g cell was opn won rest' sz) :: R) h) (hK : K (.agg [i64 s, i64 g].toArray) h) : T Tryz.prog 248 [ptr b] h K := by
  apply T.drop
  apply S248_T
  unfold S248
  intro c hc
  have l := (HLe.refl h).new (.row 121 [i64 0, i64 0] 2 true) hc
  have hp := hp.le l
  refine wk ?_
  refine la1 hp (c := [i64 s, i64 g]) (by simp [heldRow]) rfl ?_
  refine bnd_of (v := upd h c (.row 121 [i64 s, i64 g] 2 true)) (by rw [stV_same]; rfl) ?_
  refine bnd_of (v := .agg [i64 s, i64 g].toArray) (by rw [ldV_same_agg]; rfl) ?_
  exact ⟨h, (HLe.refl h).new _ hc, hK⟩
variable {fr : Fr} {P : Part}
theorem IV_through (hp : All (P :: frB hd b fr :: R) h) (hK : K (.agg [i64 fr.s, i64 fr.g].toArray) h) : ivV Tryz.prog (.iface (frT fr) (ptr b)) "pawl/mcas.through" [] h K := by
  have hp1 : All (frB hd b fr :: P :: R) h := hp.up 1
  cases fr with
  | who w =>
    obtain ⟨oth, hp1⟩ := All.ex hp1
    obtain ⟨to, hp1⟩ := All.ex hp1
    have hp2 := (All.pure hp1).2
    have hp3 : All (pts b (whRow w hd oth to) :: _) h := All.flat hp2
    have hp4 : All (emp :: pts b (whRow w hd oth to) :: []) h := All.emp_cons (hp3.sel [0]) trivial
    exact ⟨_, _, fun w => (by kernel_rfl : (method (Tryz.prog.types.size + Made.depth) 328 (ptr b) "pawl/mcas.through").run Tryz.prog w = .ok (248, .pointer (some ⟨b, 0 + 0, none⟩)) w), T_through hp4 hK⟩
  | ent f =>
    obtain ⟨won, hp1⟩ := All.ex hp1
    have hp4 : All (emp :: pts b (enRow f won) :: []) h := All.emp_cons (All.sel [0] hp1) trivial
    exact ⟨_, _, fun w => (by kernel_rfl : (method (Tryz.prog.types.size + Made.depth) 323 (ptr b) "pawl/mcas.through").run Tryz.prog w = .ok (248, .pointer (some ⟨b, 0 + 0, none⟩)) w), T_through hp4 hK⟩
theorem IV_step (hp : All (arP 142 a A :: frB hd b fr :: pts hd (hdRow t q rest) :: R) h) (ok : fr.ok) (t0 : 0 ≤ t) (t1 : t < 4) (q0 : 0 ≤ q) (q1 : q < 1048576)
    (hK : Left a hd b t rest (fr.step t q A) R fun v h => K (.tuple #[v, .bool (fr.step t q A).over, .bool (fr.step t q A).good]) h) : ivV Tryz.prog (.iface (frT fr) (ptr b)) "pawl/mcas.step" [ptr a] h K := by
  cases fr with
  | who w => exact ⟨_, _, fun w => (by kernel_rfl : (method (Tryz.prog.types.size + Made.depth) 328 (ptr b) "pawl/mcas.step").run Tryz.prog w = .ok (256, ptr b) w), T_whoStep hp ok t0 t1 q0 q1 hK⟩
  | ent f => exact ⟨_, _, fun w => (by kernel_rfl : (method (Tryz.prog.types.size + Made.depth) 323 (ptr b) "pawl/mcas.step").run Tryz.prog w = .ok (247, ptr b) w), T_entStep hp ok hK⟩
end
end Go.Proofs.YtcpfkkppfgolaaaGreatDoor
namespace Go.Proofs.YtcpfkkppfgolaaaGreatDoor
open Go GW Go.Proofs
attribute [local irreducible] bnd ldV stV ifV binV eqI
set_option maxRecDepth 20000
abbrev helpRow (H : Help) (sv lv : Value) : GObj := hdRow H.t H.q [sv, lv, .bool H.won, .bool H.over]
def lastP (lv : Value) (slot gen : Int) : Part := fun h => (lv = .pointer none ∧ slot = -1 ∧ gen = 0) ∨ ∃ c, lv = ptr c ∧ pts c (.row 121 [i64 slot, i64 gen] 2 true) h
def stkP (b : Nat) : List Value → List Fr → Part
  | [], [] => emp
  | v :: vs, f :: fs => fun h => All [frP b v f, stkP b vs fs] h
  | _, _ => fun _ => False
def sliceOf (v : Value) (vs : List Value) : List (List Value) := (vs.reverse ++ [v]).map fun x => [x]
def stackP (b : Nat) (sv : Value) (H : Help) : Part := fun h => H.over = false → ∃ v vs, All [rowP 1 sv (sliceOf v vs), frP b v H.top, stkP b vs H.rest] h
def helpP (b : Nat) (H : Help) : Part := fun h => ∃ sv lv, All [pts b (helpRow H sv lv), lastP lv H.slot H.gen, stackP b sv H] h
theorem stk_len {b : Nat} : ∀ {vs : List Value} {fs : List Fr} {h : GH}, stkP b vs fs h → vs.length = fs.length := by
  intro vs
  induction vs with
  | nil => intro fs h p; cases fs with
    | nil => rfl
    | cons f fs => exact p.elim
  | cons v vs ih => intro fs h p; cases fs with
    | nil => exact p.elim
    | cons f fs =>
      obtain ⟨h1, h2, _, _, _, _, q⟩ := p
      obtain ⟨h1, h2, _, _, _, q, _⟩ := q
      simp [ih q]
theorem iface_good (t : TypeId) (v : Value) : good 1 [.iface t v] := ⟨rfl, rfl⟩
section
variable {a b : Nat} {A : Ar} {R : List Part} {h : GH} {K : Value → GH → Prop} {H : Help}
theorem helpP_shut {sv lv : Value} {P : Part} {H' : Help} (hp : All (P :: pts b (helpRow H' sv lv) :: lastP lv H'.slot H'.gen :: R) h) (e : H'.over = true) : All (P :: helpP b H' :: R) h := by
  have h1 : All (pts b (helpRow H' sv lv) :: lastP lv H'.slot H'.gen :: stackP b sv H' :: P :: R) h := ((hp.up 2).up 2).mono2 fun _ z => z.mono2 fun _ z => All.emp_cons z fun q => by rw [e] at q; cases q
  have h2 := All.fold (l := [_, _, _]) h1
  exact (h2.head fun h1 z => ⟨sv, lv, z⟩).up 1
theorem helpP_shut2 {sv lv v : Value} {vs : List Value} {P : Part} {H' : Help} (hp : All (P :: pts b (helpRow H' sv lv) :: lastP lv H'.slot H'.gen :: rowP 1 sv (sliceOf v vs) :: frP b v H'.top :: stkP b vs H'.rest :: R) h) : All (P :: helpP b H' :: R) h := by
  have h1 := All.fold (l := [_, _, _]) (hp.re 6 [3, 4, 5, 0, 1, 2])
  have h2 : All (stackP b sv H' :: P :: pts b (helpRow H' sv lv) :: lastP lv H'.slot H'.gen :: R) h := h1.head fun _ z _ => ⟨v, vs, z⟩
  have h3 := All.fold (l := [_, _, _]) (h2.re 4 [2, 3, 0, 1])
  exact (h3.head fun h1 z => ⟨sv, lv, z⟩).up 1
theorem Fr.over_atop {t q : Int} (f : Fr) : (f.step t q A).over = true → (f.step t q A).atop = none := by
  cases f with
  | who w =>
    simp only [Fr.step]
    unfold Wh.step
    split <;> first | (intro _; rfl) | skip
    · unfold Wh.swapIn
      simp only
      split
      · intro e; cases e
      · split <;> first | (intro e; cases e; done) | (split <;> (intro e; cases e))
    · simp only
      split <;> (intro e; cases e)
  | ent f =>
    simp only [Fr.step]
    unfold En.step
    split <;> (intro _; rfl)
theorem Fr.step_kind {t q : Int} (f : Fr) : frT (f.step t q A).fr = frT f := by
  cases f with
  | who w =>
    simp only [Fr.step]
    unfold Wh.step
    split <;> first | rfl | skip
    · unfold Wh.swapIn
      simp only
      split
      · rfl
      · split <;> first | rfl | (split <;> rfl)
    · simp only
      split <;> rfl
  | ent f =>
    simp only [Fr.step]
    unfold En.step
    split <;> rfl
theorem Help.step_eq (e : H.over = false) : H.step A = ((H.take (H.top.step H.t H.q A)).1, (H.take (H.top.step H.t H.q A)).2, (H.top.step H.t H.q A).a) := by
  unfold Help.step; rw [e]; rfl
theorem T_Step (hp : All (arP 142 a A :: helpP b H :: R) h) (ok : H.ok)
    (hK : ∀ h', All (arP 142 a (H.step A).2.2 :: helpP b (H.step A).1 :: R) h' → K (.tuple #[.bool (H.step A).1.over, i64 (H.step A).2.1]) h') : T Tryz.prog 242 [ptr b, ptr a] h K := by
  apply S242_T
  unfold S242
  have hp1 : All (helpP b H :: arP 142 a A :: R) h := hp.up 1
  obtain ⟨sv, hp1⟩ := All.ex hp1
  obtain ⟨lv, hp1⟩ := All.ex hp1
  have hp2 : All (pts b (helpRow H sv lv) :: lastP lv H.slot H.gen :: stackP b sv H :: arP 142 a A :: R) h := All.flat hp1
  replace hp : All (arP 142 a A :: pts b (helpRow H sv lv) :: lastP lv H.slot H.gen :: stackP b sv H :: R) h := hp2.up 3
  refine wk ?_
  unfold S242_j1
  refine wk ?_
  refine ifV_bool (fun c => ?_) fun c => ?_
  · have e : H.step A = (H, 0, A) := by unfold Help.step; rw [c]; rfl
    rw [e] at hK
    simp only at hK
    rw [c] at hK
    exact hK _ (helpP_shut (hp.mono2 fun _ z => z.mono2 fun _ z => z.mono2 fun _ z => z.tail) c)
  unfold S242_j2
  have hs : All (stackP b sv H :: arP 142 a A :: pts b (helpRow H sv lv) :: lastP lv H.slot H.gen :: R) h := hp.up 3
  have hs2 := hs.head fun _ z => z c
  obtain ⟨v, hs2⟩ := All.ex hs2
  obtain ⟨vs, hs2⟩ := All.ex hs2
  have hs3 : All (rowP 1 sv (sliceOf v vs) :: frP b v H.top :: stkP b vs H.rest :: arP 142 a A :: pts b (helpRow H sv lv) :: lastP lv H.slot H.gen :: R) h := All.flat hs2
  have hlen : vs.length = H.rest.length := by
    obtain ⟨h1, _, _, _, _, z, _⟩ := All.up hs3 2
    exact stk_len z
  have hv : (sliceOf v vs)[vs.length]? = some [v] := by simp [sliceOf]
  have hl : (sliceOf v vs).length = vs.length + 1 := by simp [sliceOf]
  obtain ⟨ok1, ok2, ok3⟩ := ok.frames c
  have okt := ok.t0; have okt1 := ok.t1; have okq := ok.q0; have okq1 := ok.q1
  obtain ⟨blk, el, eld, _, _⟩ := hs3.elt hv .i64
  refine wk ?_
  refine bnd_of hs3.len ?_
  refine bnd_of (sub_id (by omega) (by omega)) ?_
  have en : (((sliceOf v vs).length : Nat) : Int) - 1 = (vs.length : Nat) := by omega
  refine wk ?_
  rw [en]
  refine bnd_of el (bnd_of (eld 0 1 v rfl) ?_)
  have hs4 : All (frP b v H.top :: rowP 1 sv (sliceOf v vs) :: stkP b vs H.rest :: arP 142 a A :: pts b (helpRow H sv lv) :: lastP lv H.slot H.gen :: R) h := hs3.up 1
  have hs5 := hs4.head fun _ z => frP_iff.1 z
  obtain ⟨f, hs5⟩ := All.ex hs5
  obtain ⟨ev, hs5⟩ := All.pure hs5
  subst ev
  replace hp : All (arP 142 a A :: frB b f H.top :: pts b (helpRow H sv lv) :: lastP lv H.slot H.gen :: rowP 1 sv (sliceOf (.iface (frT H.top) (ptr f)) vs) :: stkP b vs H.rest :: R) h := hs5.re 6 [3, 0, 4, 5, 1, 2]
  refine IV_through hp ?_
  refine nwst hp (.row 121 [i64 H.top.s, i64 H.top.g] 2 true) rfl rfl rfl (by rfl) fun c' h1 hp => ?_
  replace hp : All (pts b (helpRow H sv lv) :: arP 142 a A :: frB b f H.top :: pts c' (.row 121 [i64 H.top.s, i64 H.top.g] 2 true) :: rowP 1 sv (sliceOf (.iface (frT H.top) (ptr f)) vs) :: stkP b vs H.rest :: R) h1 := hp.re 7 [3, 1, 2, 0, 5, 6]
  refine wk ?_
  refine st0 hp (hdRow H.t H.q [sv, ptr c', .bool H.won, .bool H.over]) rfl (by simp) rfl rfl fun h2 hp => ?_
  refine IV_step (rest := [sv, ptr c', .bool H.won, .bool H.over]) (R := pts c' (.row 121 [i64 H.top.s, i64 H.top.g] 2 true) :: rowP 1 sv (sliceOf (.iface (frT H.top) (ptr f)) vs) :: stkP b vs H.rest :: R) (hp.re 3 [1, 2, 0]) ok1 okt okt1 okq okq1 ?_
  rw [Help.step_eq c] at hK
  have hov := Fr.over_atop (A := A) (t := H.t) (q := H.q) H.top
  have hkd := Fr.step_kind (A := A) (t := H.t) (q := H.q) H.top
  generalize H.top.step H.t H.q A = o at hK hov hkd ⊢
  intro av h3 hp
  refine wk ?_
  cases hg : o.good with
  | false =>
    have e : H.take o = ({ H with q := o.q, top := o.fr, slot := H.top.s, gen := H.top.g, over := true }, 1400) := by unfold Help.take; rw [if_pos hg]
    rw [e] at hK
    refine wk ?_
    have hp4 : All (pts b (hdRow H.t o.q [sv, ptr c', .bool H.won, .bool H.over]) :: arP 142 a o.a :: pts c' (.row 121 [i64 H.top.s, i64 H.top.g] 2 true) :: R) h3 := hp.re 7 [3, 0, 4]
    refine st0 hp4 (hdRow H.t o.q [sv, ptr c', .bool H.won, .bool true]) rfl (by simp) rfl rfl fun h4 hp => ?_
    refine hK _ (helpP_shut (sv := sv) (lv := ptr c') ?_ rfl)
    exact (hp.up 1).mono2 fun _ z => z.mono2 fun _ z => z.head fun _ z => .inr ⟨c', rfl, z⟩
  | true =>
    refine wk ?_
    replace hp := (hp.up 1).head fun _ z => z hg
    cases ha : o.atop.bind newFr with
    | none =>
      rw [ha] at hp
      have ev : av = .nilIface := by
        have : All (atP b av none :: _) _ := hp.up 2
        exact All.case this fun h1 p _ => p
      subst ev
      refine wk ?_
      unfold S242_j3
      refine wk ?_
      unfold S242_j4
      cases hov2 : o.over with
      | false =>
        have e : H.take o = ({ H with q := o.q, top := o.fr, slot := H.top.s, gen := H.top.g }, 0) := by
          unfold Help.take; rw [if_neg (by rw [hg]; decide), ha]; simp only [hov2]; rfl
        rw [e] at hK
        simp only at hK
        refine wk ?_
        refine hK _ ?_
        have hq : All (arP 142 a o.a :: pts b (hdRow H.t o.q [sv, ptr c', .bool H.won, .bool H.over]) :: pts c' (.row 121 [i64 H.top.s, i64 H.top.g] 2 true) :: rowP 1 sv (sliceOf (.iface (frT H.top) (ptr f)) vs) :: frB b f o.fr :: stkP b vs H.rest :: R) _ := hp.re 7 [1, 3, 4, 5, 0, 6]
        refine helpP_shut2 (sv := sv) (lv := ptr c') (v := .iface (frT H.top) (ptr f)) (vs := vs) (H' := { H with q := o.q, top := o.fr, slot := H.top.s, gen := H.top.g }) (hq.mono2 fun _ z => z.mono2 fun _ z => ?_)
        refine (z.head (Q := lastP (ptr c') H.top.s H.top.g) fun _ z => .inr ⟨c', rfl, z⟩).mono2 fun _ z => z.mono2 fun _ z => z.head fun _ z => ?_
        exact frP_iff.2 ⟨f, by rw [hkd], z⟩
      | true =>
        refine wk ?_
        have hq : All (rowP 1 sv (sliceOf (.iface (frT H.top) (ptr f)) vs) :: pts b (hdRow H.t o.q [sv, ptr c', .bool H.won, .bool H.over]) :: arP 142 a o.a :: pts c' (.row 121 [i64 H.top.s, i64 H.top.g] 2 true) :: frB b f o.fr :: stkP b vs H.rest :: R) _ := hp.re 7 [5, 3, 1, 4, 0, 6]
        clear hp
        obtain ⟨sv', esl, hq⟩ := hq.cut (n := vs.length) (by omega) .i64
        refine bnd_of esl ?_
        obtain ⟨sa, sc, _, rfl, _⟩ := hq.row
        refine wk ?_
        refine st1 hq (hdRow H.t o.q [.slice sa ((sliceOf (.iface (frT H.top) (ptr f)) vs).take vs.length).length sc, ptr c', .bool H.won, .bool H.over]) rfl (by simp) rfl rfl fun h4 hq => ?_
        refine wk ?_
        refine st1 hq (hdRow H.t o.q [.slice sa ((sliceOf (.iface (frT H.top) (ptr f)) vs).take vs.length).length sc, ptr c', .bool H.won, .bool (decide ((vs.length : Int) = 0))]) rfl (by simp) rfl rfl fun h5 hp => ?_
        obtain ⟨fr', at', ov', gd', a', q'⟩ := o
        simp only at hg ha hov2 hkd hp hK
        subst hg hov2
        cases hr : H.rest with
        | nil =>
          have hv0 : vs = [] := List.eq_nil_of_length_eq_zero (by rw [hlen, hr]; rfl)
          subst hv0
          have e : H.take ⟨fr', at', true, true, a', q'⟩ = ({ H with q := q', top := fr', slot := H.top.s, gen := H.top.g, won := fr'.won, over := true }, 0) := by
            unfold Help.take; simp only [ha, hr]; rfl
          rw [e] at hK
          simp only at hK
          have fin : ∀ {h6 : GH} {u : Bool} {P1 P4 P5 : Part} {sv2 : Value}, u = fr'.won → All (P1 :: pts b (hdRow H.t q' [sv2, ptr c', .bool u, .bool true]) :: arP 142 a a' :: pts c' (.row 121 [i64 H.top.s, i64 H.top.g] 2 true) :: P4 :: P5 :: R) h6 → K (.tuple #[.bool true, i64 0]) h6 := by
            intro h6 u P1 P4 P5 sv2 eu hp
            refine hK _ (helpP_shut (sv := sv2) (lv := ptr c') ?_ rfl)
            rw [← eu]
            exact (All.re hp 6 [2, 1, 3]).mono2 fun _ z => z.mono2 fun _ z => z.head fun _ z => .inr ⟨c', rfl, z⟩
          cases fr' with
          | who w =>
            rw [← hkd]
            refine wk ?_
            have hw : All (arP 142 a a' :: whP b f w :: rowP 1 _ _ :: pts b _ :: pts c' _ :: stkP b [] H.rest :: R) _ := hp.re 6 [2, 4, 0, 1, 3, 5]
            refine whP_open hw fun oth to ho h13 hw => ?_
            replace hw : All (rowP 1 _ _ :: pts b _ :: pts f (whRow w b oth to) :: arP 142 a a' :: pts c' _ :: stkP b [] H.rest :: R) _ := hw.re 7 [3, 4, 1, 0, 5, 6]
            clear hp
            have hp := hw
            refine wk ?_
            refine st1 hw (hdRow H.t q' [.slice sa ((sliceOf (.iface (frT H.top) (ptr f)) []).take 0).length sc, ptr c', .bool w.won, .bool true]) rfl (by simp) rfl rfl fun h6 hp => ?_
            refine wk ?_
            exact fin (u := w.won) rfl (hp.re 6 [0, 1, 3, 4, 2, 5])
          | ent f' =>
            rw [← hkd]
            refine wk ?_
            refine st1 hp (hdRow H.t q' [.slice sa ((sliceOf (.iface (frT H.top) (ptr f)) []).take 0).length sc, ptr c', .bool false, .bool true]) rfl (by simp) rfl rfl fun h6 hp => ?_
            refine wk ?_
            exact fin (u := false) rfl hp
        | cons r rs =>
          obtain ⟨v1, vs1, rfl⟩ : ∃ v1 vs1, vs = v1 :: vs1 := by
            cases vs with
            | nil => rw [hr] at hlen; cases hlen
            | cons v1 vs1 => exact ⟨v1, vs1, rfl⟩
          have e : H.take ⟨fr', at', true, true, a', q'⟩ = ({ H with q := q', top := r, rest := rs, slot := H.top.s, gen := H.top.g, won := false }, 0) := by
            unfold Help.take; simp only [ha, hr]; rfl
          rw [e] at hK
          simp only at hK
          have esl2 : (sliceOf (.iface (frT H.top) (ptr f)) (v1 :: vs1)).take (v1 :: vs1).length = sliceOf v1 vs1 := by
            unfold sliceOf; rw [← List.map_take, List.take_left' (by simp), List.reverse_cons]
          rw [esl2] at hp
          rw [hr] at hp
          have d0 : decide (((v1 :: vs1).length : Int) = 0) = false := decide_eq_false (by simp only [List.length_cons]; omega)
          rw [d0] at hp
          have fin : ∀ {h6 : GH} , All (rowP 1 (.slice sa (sliceOf v1 vs1).length sc) (sliceOf v1 vs1) :: pts b (hdRow H.t q' [.slice sa (sliceOf v1 vs1).length sc, ptr c', .bool false, .bool false]) :: arP 142 a a' :: pts c' (.row 121 [i64 H.top.s, i64 H.top.g] 2 true) :: frB b f fr' :: stkP b (v1 :: vs1) (r :: rs) :: R) h6 → K (.tuple #[.bool H.over, i64 0]) h6 := by
            intro h6 hp
            replace hp : All (rowP 1 (.slice sa (sliceOf v1 vs1).length sc) (sliceOf v1 vs1) :: pts b (hdRow H.t q' [.slice sa (sliceOf v1 vs1).length sc, ptr c', .bool false, .bool H.over]) :: arP 142 a a' :: pts c' (.row 121 [i64 H.top.s, i64 H.top.g] 2 true) :: frB b f fr' :: stkP b (v1 :: vs1) (r :: rs) :: R) h6 := by rw [c]; exact hp
            refine hK _ (helpP_shut2 (H' := { H with q := q', top := r, rest := rs, slot := H.top.s, gen := H.top.g, won := false }) (sv := .slice sa (sliceOf v1 vs1).length sc) (lv := ptr c') (v := v1) (vs := vs1) ?_)
            have h7 : All (stkP b (v1 :: vs1) (r :: rs) :: arP 142 a a' :: pts b _ :: pts c' _ :: rowP 1 _ (sliceOf v1 vs1) :: R) _ := hp.re 6 [5, 2, 1, 3, 0]
            have h8 : All (frP b v1 r :: stkP b vs1 rs :: arP 142 a a' :: pts b _ :: pts c' _ :: rowP 1 _ (sliceOf v1 vs1) :: R) _ := All.flat h7
            exact (h8.re 6 [2, 3, 4, 5, 0, 1]).mono2 fun _ z => z.mono2 fun _ z => z.head fun _ z => .inr ⟨c', rfl, z⟩
          cases fr' with
          | who w =>
            rw [← hkd]
            refine wk ?_
            refine st1 hp (hdRow H.t q' [.slice sa (sliceOf v1 vs1).length sc, ptr c', .bool false, .bool false]) rfl (by simp) rfl rfl fun h6 hp => ?_
            refine wk ?_
            have := fin hp
            rw [c] at this
            exact this
          | ent f' =>
            rw [← hkd]
            refine wk ?_
            refine st1 hp (hdRow H.t q' [.slice sa (sliceOf v1 vs1).length sc, ptr c', .bool false, .bool false]) rfl (by simp) rfl rfl fun h6 hp => ?_
            refine wk ?_
            have := fin hp
            rw [c] at this
            exact this
    | some fr =>
      have ho : o.over = false := by
        cases e : o.over with
        | false => rfl
        | true => rw [hov e] at ha; cases ha
      rw [ha] at hp
      have hp1 : All (frP b av fr :: rowP 1 sv (sliceOf (.iface (frT H.top) (ptr f)) vs) :: pts b (hdRow H.t o.q [sv, ptr c', .bool H.won, .bool H.over]) :: arP 142 a o.a :: pts c' (.row 121 [i64 H.top.s, i64 H.top.g] 2 true) :: frB b f o.fr :: stkP b vs H.rest :: R) _ := hp.re 7 [2, 5, 3, 1, 4, 0, 6]
      clear hp
      have hp2 := hp1.head fun _ z => frP_iff.1 z
      obtain ⟨d, hp3⟩ := All.ex hp2
      obtain ⟨ev, hp4⟩ := All.pure hp3
      clear hp1 hp2 hp3
      subst ev
      have hp : All (rowP 1 sv (sliceOf (.iface (frT H.top) (ptr f)) vs) :: pts b (hdRow H.t o.q [sv, ptr c', .bool H.won, .bool H.over]) :: arP 142 a o.a :: pts c' (.row 121 [i64 H.top.s, i64 H.top.g] 2 true) :: frB b f o.fr :: stkP b vs H.rest :: frB b d fr :: R) h3 := hp4.re 7 [1, 2, 3, 4, 5, 6, 0]
      refine wk ?_
      refine bnd_of hp.len ?_
      refine wk ?_
      refine ifV_cases (fun c18 => ?_) fun c18 => ?_
      · refine wk ?_
        refine st1 hp (hdRow H.t o.q [sv, ptr c', .bool H.won, .bool true]) rfl (by simp) rfl rfl fun h4 hp => ?_
        have e : H.take o = ({ H with q := o.q, top := o.fr, slot := H.top.s, gen := H.top.g, over := true }, 1400) := by
          unfold Help.take; rw [if_neg (by rw [hg]; decide), ha]; simp only; rw [if_pos (by omega)]
        rw [e] at hK
        refine hK _ (helpP_shut (sv := sv) (lv := ptr c') ?_ rfl)
        exact (hp.re 7 [2, 1, 3]).mono2 fun _ z => z.mono2 fun _ z => z.head fun _ z => .inr ⟨c', rfl, z⟩
      · have e : H.take o = ({ H with q := o.q, rest := o.fr :: H.rest, top := fr, slot := H.top.s, gen := H.top.g }, 0) := by
          unfold Help.take; rw [if_neg (by rw [hg]; decide), ha]; simp only; rw [if_neg (by omega)]
        rw [e] at hK
        simp only at hK
        unfold S242_j3
        refine wk ?_
        refine bs0 hp [[Value.iface (frT fr) (ptr d)]] rfl rfl (by simp) (fun c hc => by rw [List.mem_singleton.1 hc]; exact iface_good _ _) fun xv h4 hp => ?_
        refine ap0 (hp.up 1) hp.rows (fun c hc => by rw [List.mem_singleton.1 hc]; exact iface_good _ _) (by decide) (by simp only [List.length_singleton]; omega) fun sv' h5 hp => ?_
        obtain ⟨sa, sc, _, rfl, _⟩ := hp.row
        refine wk ?_
        refine st2 hp (hdRow H.t o.q [.slice sa (sliceOf (.iface (frT H.top) (ptr f)) vs ++ [[Value.iface (frT fr) (ptr d)]]).length sc, ptr c', .bool H.won, .bool H.over]) rfl (by simp) rfl rfl fun h6 hp => ?_
        unfold S242_j4
        rw [ho]
        refine wk ?_
        refine hK _ (helpP_shut2 (H' := { H with q := o.q, rest := o.fr :: H.rest, top := fr, slot := H.top.s, gen := H.top.g }) (sv := .slice sa (sliceOf (.iface (frT H.top) (ptr f)) vs ++ [[Value.iface (frT fr) (ptr d)]]).length sc) (lv := ptr c') (v := .iface (frT fr) (ptr d)) (vs := .iface (frT H.top) (ptr f) :: vs) ?_)
        have esl : sliceOf (.iface (frT H.top) (ptr f)) vs ++ [[Value.iface (frT fr) (ptr d)]] = sliceOf (.iface (frT fr) (ptr d)) (.iface (frT H.top) (ptr f) :: vs) := by
          simp [sliceOf]
        rw [esl] at hp ⊢
        have h7 : All (frB b f o.fr :: stkP b vs H.rest :: arP 142 a o.a :: pts b _ :: pts c' _ :: rowP 1 _ _ :: frB b d fr :: R) _ := hp.re 8 [5, 6, 3, 2, 4, 0, 7]
        have h8 := All.fold (l := [_, _]) (h7.head (Q := frP b (.iface (frT H.top) (ptr f)) o.fr) fun _ z => frP_iff.2 ⟨f, by rw [hkd], z⟩)
        have h9 : All (arP 142 a o.a :: pts b _ :: pts c' _ :: rowP 1 _ _ :: frB b d fr :: stkP b (.iface (frT H.top) (ptr f) :: vs) (o.fr :: H.rest) :: R) _ := h8.re 6 [1, 2, 3, 4, 5, 0]
        exact h9.mono2 fun _ z => z.mono2 fun _ z => (z.head (Q := lastP (ptr c') H.top.s H.top.g) fun _ z => .inr ⟨c', rfl, z⟩).mono2 fun _ z => z.mono2 fun _ z => z.head fun _ z => frP_iff.2 ⟨d, rfl, z⟩
end
end Go.Proofs.YtcpfkkppfgolaaaGreatDoor
namespace Go.Proofs.YtcpfkkppfgolaaaGreatDoor
open Go GW Go.Proofs
set_option maxRecDepth 20000
section
variable {a c : Nat} {A : Ar} {R : List Part} {h : GH} {K : Value → GH → Prop} {w : Wh} {pc : Int} {opn won : Bool} {t q : Int}
theorem Wh.step5 (e : w.pc = 5) : w.step t q A = w.swapIn t q A := by
  unfold Wh.step; rw [e]; rfl
end
section
variable {a b c : Nat} {A : Ar} {R : List Part} {h : GH} {K : Value → GH → Prop} {H : Help}
theorem read_may {x : Int} {f : Form} (h : read x = some f) : f.may = true := (number_of_read h).1
theorem Fr.atop_may {t q : Int} (f : Fr) (ok : f.ok) (g : Form) (e : (f.step t q A).atop = some g) : g.may = true ∧ newFr g ≠ none := by
  cases f with
  | who w =>
    simp only [Fr.step] at e
    unfold Wh.step at e
    split at e <;> first | (cases e; done) | skip
    · unfold Wh.swapIn at e
      simp only at e
      split at e
      · cases e
      · split at e
        · cases e
        · cases e
        · rename_i hr; cases e; exact ⟨read_may hr, by simp [newFr]⟩
        · split at e <;> cases e
    · rename_i hpc
      simp only at e
      split at e
      · obtain ⟨s, g', hr⟩ := ok.ref hpc
        rw [hr] at e
        cases e
        exact ⟨read_may hr, by simp [newFr]⟩
      · cases e
  | ent f =>
    simp only [Fr.step] at e
    unfold En.step at e
    split at e <;> cases e
end
attribute [local irreducible] bnd ldV stV ifV binV eqI
def newHelp (t q x : Int) : Option Help :=
  match (read x).bind newFr with
  | some f => if 0 ≤ t ∧ t < 4 ∧ 0 ≤ q ∧ q < 1048576 then some (.new t q f) else none
  | none => none
section
variable {a b c : Nat} {A : Ar} {R : List Part} {h : GH} {K : Value → GH → Prop} {H : Help}
theorem helpP_open {C : Prop} (hp : All (helpP b H :: R) h) (k : ∀ sv lv, All (pts b (helpRow H sv lv) :: lastP lv H.slot H.gen :: stackP b sv H :: R) h → C) : C := by
  obtain ⟨sv, hp⟩ := All.ex hp
  obtain ⟨lv, hp⟩ := All.ex hp
  exact k sv lv (All.flat hp)
theorem T_Won (hp : All (helpP b H :: R) h) (hK : K (.bool H.won) h) : T Tryz.prog 168 [ptr b] h K := by
  apply S168_T
  unfold S168
  refine helpP_open hp fun sv lv hp => ?_
  refine wk ?_
  exact hK
theorem T_Seq (hp : All (helpP b H :: R) h) (hK : K (i64 H.q) h) : T Tryz.prog 244 [ptr b] h K := by
  apply S244_T
  unfold S244
  refine helpP_open hp fun sv lv hp => ?_
  refine wk ?_
  exact hK
theorem T_Through (hp : All (helpP b H :: R) h) (hK : K (.tuple #[i64 H.slot, i64 H.gen]) h) : T Tryz.prog 243 [ptr b] h K := by
  apply S243_T
  unfold S243
  refine helpP_open hp fun sv lv hp => ?_
  have hl : All (lastP lv H.slot H.gen :: pts b (helpRow H sv lv) :: []) h := hp.re 3 [1, 0] |> fun z => z.sel [0, 1]
  have cases : (lv = .pointer none ∧ H.slot = -1 ∧ H.gen = 0) ∨ ∃ c, lv = ptr c ∧ All (pts b (helpRow H sv lv) :: pts c (.row 121 [i64 H.slot, i64 H.gen] 2 true) :: []) h := by
    obtain ⟨h1, h2, d, l1, l2, p, q⟩ := hl
    rcases p with p | ⟨c, e, p⟩
    · exact .inl p
    · exact .inr ⟨c, e, All.up (i := 1) (l := [pts c _, pts b _]) ⟨h1, h2, d, l1, l2, p, q⟩⟩
  rcases cases with ⟨rfl, e1, e2⟩ | ⟨c, rfl, hp⟩
  · refine wk ?_
    rw [e1, e2] at hK
    exact hK
  · refine wk ?_
    exact hK
theorem T_ThreadMay {x : Int} (hK : K (.bool (decide (0 ≤ x ∧ x < 4))) h) : T Tryz.prog 101 [i64 x] h K := by
  apply S101_T
  unfold S101
  exact T_Below hK
theorem T_New {t q x : Int} (hp : All R h) (hx : I64 x) (kn : newHelp t q x = none → ∀ h', All R h' → K (.tuple #[.pointer none, i64 1400]) h') (ky : ∀ H, newHelp t q x = some H → ∀ b h', All (helpP b H :: R) h' → K (.tuple #[ptr b, i64 0]) h') : T Tryz.prog 166 [i64 t, i64 q, i64 x] h K := by
  apply S166_T
  unfold S166
  refine wk ?_
  refine nw hp (hdRow t q [.slice none 0 0, .pointer none, .bool false, .bool false]) rfl fun b h1 hp => ?_
  refine wk ?_
  refine T_Read hx.2 ?_
  refine T_framed (hd := b) (fo := read x) hp fun v h2 hp => ?_
  refine T_ThreadMay ?_
  refine wk ?_
  unfold newHelp at kn ky
  have none_of : ((read x).bind newFr = none ∨ ¬ (0 ≤ t ∧ t < 4 ∧ 0 ≤ q ∧ q < 1048576)) → K (.tuple #[.pointer none, i64 1400]) h2 := by
    intro e
    refine kn ?_ _ hp.tail.tail
    cases ef : (read x).bind newFr with
    | none => rfl
    | some f =>
      rcases e with e | e
      · rw [ef] at e; cases e
      · simp only; rw [if_neg e]
  refine ifN_cases (fun c => ?_) fun c => ?_
  · exact none_of (.inr fun q => c ⟨q.1, q.2.1⟩)
  refine T_Below ?_
  refine wk ?_
  refine ifN_cases (fun c2 => ?_) fun c2 => ?_
  · exact none_of (.inr fun q => c2 ⟨q.2.2.1, q.2.2.2⟩)
  cases ef : (read x).bind newFr with
  | none =>
    rw [ef] at hp
    have ev : v = .nilIface := All.case hp fun h1 p _ => p
    subst ev
    refine wk ?_
    exact none_of (.inl ef)
  | some f =>
    rw [ef] at hp ky
    simp only at ky
    rw [if_pos ⟨c.1, c.2, c2.1, c2.2⟩] at ky
    obtain ⟨fb, ev⟩ : ∃ fb, v = .iface (frT f) (ptr fb) := All.case hp fun h1 p _ => by
      obtain ⟨fb, e, _⟩ := frP_iff.1 p
      exact ⟨fb, e⟩
    subst ev
    refine wk ?_
    unfold S166_j1
    refine bs0 hp [[Value.iface (frT f) (ptr fb)]] rfl rfl (by simp) (fun c hc => by rw [List.mem_singleton.1 hc]; exact iface_good _ _) fun sv h3 hp => ?_
    obtain ⟨sa, sc, _, rfl, _⟩ := hp.row
    refine wk ?_
    refine st2 hp (hdRow t q [.slice sa [[Value.iface (frT f) (ptr fb)]].length sc, .pointer none, .bool false, .bool false]) rfl (by simp) rfl rfl fun h4 hp => ?_
    refine ky _ rfl b _ ?_
    have hp2 := All.fold (l := [_, _]) (hp.re 3 [0, 1, 2])
    have hp3 := hp2.head (Q := stackP b (.slice sa [[Value.iface (frT f) (ptr fb)]].length sc) (.new t q f)) fun h1 z _ => ⟨.iface (frT f) (ptr fb), [], z.mono2 fun _ z => z.mono2 fun _ z => All.emp_cons z trivial⟩
    have hp4 : All (pts b (helpRow (.new t q f) (.slice sa [[Value.iface (frT f) (ptr fb)]].length sc) (.pointer none)) :: lastP (.pointer none) (-1) 0 :: stackP b (.slice sa [[Value.iface (frT f) (ptr fb)]].length sc) (.new t q f) :: R) h4 := All.mono2 (l := stackP b (.slice sa [[Value.iface (frT f) (ptr fb)]].length sc) (.new t q f) :: R) (hp3.up 1) fun _ z => All.emp_cons (P := lastP (.pointer none) (-1) 0) z (.inl ⟨rfl, rfl, rfl⟩)
    exact (All.fold (l := [_, _, _]) hp4).head fun h1 z => ⟨_, _, z⟩
end
theorem zero64 : I64 0 := ⟨by decide, by decide⟩
theorem Wh.new_ok {s g : Int} (hs : Life s g) : (Wh.new s g).ok :=
  ⟨hs, by simp [Wh.new], by simp [Wh.new], fun h => absurd rfl h, by simp [Wh.new], zero64, by simp [Wh.new], by simp [Wh.new], zero64, zero64, zero64, by simp [Wh.new], by simp [Wh.new], fun q => by cases q⟩
theorem newFr_ok {f : Form} {fr : Fr} (hm : f.may = true) (e : newFr f = some fr) : fr.ok := by
  cases f with
  | val v => cases e
  | mcas s g => cases e; rw [may_mcas] at hm; exact Wh.new_ok ⟨hm.1, hm.2.1, hm.2.2.1, hm.2.2.2⟩
  | entry s g e' t q =>
    cases e; rw [may_entry] at hm
    obtain ⟨h1, h2, h3, h4, h5, h6, h7, h8, h9, h10⟩ := hm
    exact ⟨⟨h1, h2, h3, h4⟩, h5, h6, h7, h8, h9, h10, by simp [En.new], by simp [En.new], zero64, by simp [En.new]⟩
theorem newHelp_ok {t q x : Int} {H : Help} (e : newHelp t q x = some H) : H.ok := by
  unfold newHelp at e
  split at e
  · rename_i f ef
    split at e
    · rename_i c
      cases e
      obtain ⟨fo, hr, hf⟩ := Option.bind_eq_some_iff.1 ef
      refine ⟨c.1, c.2.1, c.2.2.1, c.2.2.2, (by constructor <;> simp [Help.new]), zero64, fun _ => ⟨newFr_ok (number_of_read hr).1 hf, (fun _ h => by cases h), by simp [Help.new]⟩⟩
    · cases e
  · cases e
end Go.Proofs.YtcpfkkppfgolaaaGreatDoor
namespace Go.Proofs.YtcpfkkppfgolaaaGreatDoor
open Go GW Go.Proofs
section
variable {A : Ar} {t q : Int}
structure Out.fine (o : Out) : Prop where
  a : o.a.ok
  q0 : 0 ≤ o.q
  q1 : o.q < 1048576
  fr : o.good = true → o.over = false → o.fr.ok
theorem val4 {x : Int} (hx : I64 x) : I64 (valOf x * 4) := by
  have := valOf_le hx
  constructor <;> omega
theorem Wh.next_ok {w : Wh} {more stop : Nat} (ok : w.ok) (hi : w.i < 16) (h1 : 1 ≤ more) (h2 : more ≤ 13) (h3 : stop = 8) : (w.next more stop).ok := by
  subst h3
  have p1 : (w.next more 8).pc = if w.k ≤ w.i + 1 then 8 else more := rfl
  have i0 := ok.i0
  have k1 := ok.k1
  refine ⟨ok.life, by simp only [Wh.next]; omega, by simp only [Wh.next]; omega, ?_, ok.k1, ok.k0, ok.c0, ok.c1, ok.was, ok.put, ok.x, ?_, ?_, ?_⟩
  · intro _ _ h8 _
    rw [p1] at h8
    simp only [Wh.next]
    split at h8
    · exact absurd rfl h8
    · omega
  · rw [p1]; split <;> omega
  · rw [p1]; split <;> omega
  · rw [p1]; intro e; split at e <;> omega
theorem Wh.next_ok0 {w : Wh} (ok : w.ok) (hi : w.i < 16) (hk : ¬ (w.k ≤ w.i + 1)) : (w.next 11 0).ok := by
  have p1 : (w.next 11 0).pc = 11 := by simp only [Wh.next]; rw [if_neg hk]
  have i0 := ok.i0
  have k1 := ok.k1
  refine ⟨ok.life, by simp only [Wh.next]; omega, by simp only [Wh.next]; omega, ?_, ok.k1, ok.k0, ok.c0, ok.c1, ok.was, ok.put, ok.x, ?_, ?_, ?_⟩
  · intro _ _ _ _; simp only [Wh.next]; omega
  · omega
  · omega
  · intro e; omega
theorem Wh.step_ok {w : Wh} (ok : w.ok) (hA : A.ok) (t0 : 0 ≤ t) (t1 : t < 4) (q0 : 0 ≤ q) (q1 : q < 1048576) : (w.step t q A).fine := by
  obtain ⟨s, g, pc, i, k, cell, was, put, x, opn, won⟩ := w
  obtain ⟨life, i0, i1, i2, k1, k0, c0, c1, was1, put1, x1, pc1, pc0, ref⟩ := ok
  simp only at life i0 i1 i2 k1 k0 c0 c1 was1 put1 x1 pc1 pc0 ref
  have ok : (Wh.mk s g pc i k cell was put x opn won).ok := ⟨life, i0, i1, i2, k1, k0, c0, c1, was1, put1, x1, pc1, pc0, ref⟩
  have hb := valOf_range hA (baseOf s + 1)
  have st : ∀ d, 0 ≤ d → d < 4 → I64 (stateW g d) := fun d h0 h1 => stateW_range life.g0 life.g1 h0 h1
  have : pc = 1 ∨ pc = 2 ∨ pc = 3 ∨ pc = 4 ∨ pc = 5 ∨ pc = 6 ∨ pc = 7 ∨ pc = 8 ∨ pc = 9 ∨ pc = 10 ∨ pc = 11 ∨ pc = 12 ∨ pc = 13 ∨ pc = 14 := by omega
  rcases this with rfl | rfl | rfl | rfl | rfl | rfl | rfl | rfl | rfl | rfl | rfl | rfl | rfl | rfl
  · refine ⟨hA.ld _, q0, q1, fun _ _ => ?_⟩
    simp only [Wh.step]
    refine ⟨life, i0, i1, ?_, k1, k0, c0, c1, was1, put1, x1, ?_, ?_, ?_⟩ <;> simp only <;> split <;> first | omega | (intro a b c d; simp at b d)
  · refine ⟨hA.ld _, q0, q1, fun hg _ => ?_⟩
    have hv := (is_val hg).1
    simp only [Wh.step]
    refine ⟨life, by simp, by simp, fun _ _ _ _ => by simp, hv, by constructor <;> (simp only; omega), c0, c1, was1, put1, x1, ?_, ?_, ?_⟩ <;> simp only <;> split <;> omega
  · refine ⟨hA.ld _, q0, q1, fun hg _ => ?_⟩
    have hv := (is_val hg).1
    simp only at hv
    have h0 := (valOf_range hA (baseOf s + (2 + 3 * i + 0))).1
    exact ⟨life, i0, i1, fun _ _ _ _ => i2 (by decide) (by decide) (by decide) (by decide), k1, k0, h0, by simp only; omega, was1, put1, x1, by simp, by simp, fun e => by cases e⟩
  · refine ⟨hA.ld _, q0, q1, fun hg _ => ?_⟩
    exact ⟨life, i0, i1, fun _ _ _ _ => i2 (by decide) (by decide) (by decide) (by decide), k1, k0, c0, c1, val4 (Ar.at_range hA _), put1, x1, by simp, by simp, fun e => by cases e⟩
  · have hi := i2 (by decide) (by decide) (by decide) (by decide)
    have hp := entry_range life i0 hi t0 t1 q0 q1
    have q0' : 0 ≤ (q + 1) % 1048576 := by omega
    have q1' : (q + 1) % 1048576 < 1048576 := by omega
    have ok' : (Wh.mk s g 5 i k cell was (Form.entry s g i t q).number x opn won).ok := ⟨life, i0, i1, i2, k1, k0, c0, c1, was1, hp, x1, pc1, pc0, ref⟩
    rw [Wh.step5 rfl]
    unfold Wh.swapIn
    simp only
    split
    · exact ⟨hA.cas _ _ hp, q0', q1', fun _ _ => ⟨life, i0, i1, fun _ _ _ _ => hi, k1, k0, c0, c1, was1, hp, x1, by simp, by simp, fun e => by cases e⟩⟩
    · split
      · exact ⟨hA.cas _ _ hp, q0', q1', fun e => by cases e⟩
      · exact ⟨hA.cas _ _ hp, q0', q1', fun _ _ => ⟨life, i0, i1, fun _ _ _ _ => hi, k1, k0, c0, c1, was1, hp, x1, by simp, by simp, fun e => by cases e⟩⟩
      · exact ⟨hA.cas _ _ hp, q0', q1', fun _ _ => ok'⟩
      · rename_i s' g' hr
        split
        · exact ⟨hA.cas _ _ hp, q0', q1', fun _ _ => Wh.next_ok ok' hi (by decide) (by decide) rfl⟩
        · exact ⟨hA.cas _ _ hp, q0', q1', fun _ _ => ⟨life, i0, i1, fun _ _ _ _ => hi, k1, k0, c0, c1, was1, hp, Ar.at_range hA _, by simp, by simp, fun _ => ⟨s', g', hr⟩⟩⟩
  · refine ⟨hA.ld _, q0, q1, fun hg _ => ?_⟩
    exact ⟨life, i0, i1, fun _ _ _ _ => i2 (by decide) (by decide) (by decide) (by decide), k1, k0, c0, c1, was1, put1, x1, by simp, by simp, fun e => by cases e⟩
  · refine ⟨hA.cas _ _ ?_, q0, q1, fun hg _ => ?_⟩
    · simp only [Wh.mine]; split
      · exact mcas_range life
      · exact was1
    · exact Wh.next_ok ok (i2 (by decide) (by decide) (by decide) (by decide)) (by decide) (by decide) rfl
  · exact ⟨hA.cas _ _ (st 1 (by decide) (by decide)), q0, q1, fun _ _ => ⟨life, i0, i1, fun e => absurd rfl e, k1, k0, c0, c1, was1, put1, x1, by simp, by simp, fun e => by cases e⟩⟩
  · exact ⟨hA.cas _ _ (st 2 (by decide) (by decide)), q0, q1, fun _ _ => ⟨life, i0, i1, fun e => absurd rfl e, k1, k0, c0, c1, was1, put1, x1, by simp, by simp, fun e => by cases e⟩⟩
  · refine ⟨hA.ld _, q0, q1, fun hg _ => ?_⟩
    have hv := (is_val hg).1
    exact ⟨life, by simp, by simp, fun _ _ _ _ => by simp, hv, by constructor <;> (simp only; omega), c0, c1, was1, put1, x1, by simp, by simp, fun e => by cases e⟩
  · refine ⟨hA.ld _, q0, q1, fun hg _ => ?_⟩
    have hv := (is_val hg).1
    simp only at hv
    have h0 := (valOf_range hA (baseOf s + (2 + 3 * i + 0))).1
    exact ⟨life, i0, i1, fun _ _ _ _ => i2 (by decide) (by decide) (by decide) (by decide), k1, k0, h0, by simp only; omega, was1, put1, x1, by simp, by simp, fun e => by cases e⟩
  · refine ⟨hA.ld _, q0, q1, fun hg _ => ?_⟩
    exact ⟨life, i0, i1, fun _ _ _ _ => i2 (by decide) (by decide) (by decide) (by decide), k1, k0, c0, c1, was1, put1, val4 (Ar.at_range hA _), by simp, by simp, fun e => by cases e⟩
  · refine ⟨hA.cas _ _ x1, q0, q1, fun hg ho => ?_⟩
    have hk : ¬ (k ≤ i + 1) := of_decide_eq_false ho
    exact Wh.next_ok0 ok (i2 (by decide) (by decide) (by decide) (by decide)) hk
  · simp only [Wh.step]
    have hi := i2 (by decide) (by decide) (by decide) (by decide)
    split
    · exact ⟨hA.ld _, q0, q1, fun _ _ => ⟨life, i0, i1, fun _ _ _ _ => hi, k1, k0, c0, c1, was1, put1, x1, by simp, by simp, fun e => by cases e⟩⟩
    · exact ⟨hA.ld _, q0, q1, fun _ _ => ⟨life, i0, i1, fun _ _ _ _ => hi, k1, k0, c0, c1, was1, put1, x1, by simp, by simp, fun e => by cases e⟩⟩
theorem En.step_ok {f : En} (ok : f.ok) (hA : A.ok) (q0 : 0 ≤ q) (q1 : q < 1048576) : (f.step q A).fine := by
  obtain ⟨s, g, e, t', q', pc, cell, was, opn⟩ := f
  obtain ⟨life, e0, e1, t0, t1, q0', q1', c0, c1, was1, pc1⟩ := ok
  simp only at life e0 e1 t0 t1 q0' q1' c0 c1 was1 pc1
  have : pc = 0 ∨ pc = 1 ∨ pc = 2 ∨ pc = 3 := by omega
  rcases this with rfl | rfl | rfl | rfl
  · refine ⟨hA.ld _, q0, q1, fun hg _ => ?_⟩
    have hv := (is_val hg).1
    simp only at hv
    have h0 := (valOf_range hA (baseOf s + (2 + 3 * e + 0))).1
    exact ⟨life, e0, e1, t0, t1, q0', q1', h0, by simp only; omega, was1, by simp⟩
  · refine ⟨hA.ld _, q0, q1, fun hg _ => ?_⟩
    exact ⟨life, e0, e1, t0, t1, q0', q1', c0, c1, val4 (Ar.at_range hA _), by simp⟩
  · exact ⟨hA.ld _, q0, q1, fun hg _ => ⟨life, e0, e1, t0, t1, q0', q1', c0, c1, was1, by simp⟩⟩
  · refine ⟨hA.cas _ _ ?_, q0, q1, fun _ h => by cases h⟩
    simp only; split
    · exact mcas_range life
    · exact was1
theorem Fr.step_ok {f : Fr} (ok : f.ok) (hA : A.ok) (t0 : 0 ≤ t) (t1 : t < 4) (q0 : 0 ≤ q) (q1 : q < 1048576) : (f.step t q A).fine := by
  cases f with
  | who w => exact Wh.step_ok ok hA t0 t1 q0 q1
  | ent f => exact En.step_ok ok hA q0 q1
theorem Fr.life {f : Fr} (ok : f.ok) : Life f.s f.g := by
  cases f with
  | who w => exact Wh.ok.life ok
  | ent f => exact En.ok.life ok
theorem life64 {s g : Int} (h : Life s g) : I64 s ∧ I64 g := by
  have := h.s0; have := h.s1; have := h.g0; have := h.g1
  constructor <;> constructor <;> omega
theorem Help.step_ok {H : Help} (ok : H.ok) (hA : A.ok) : (H.step A).1.ok ∧ (H.step A).2.2.ok := by
  cases c : H.over with
  | true =>
    have e : H.step A = (H, 0, A) := by unfold Help.step; rw [c]; rfl
    rw [e]; exact ⟨ok, hA⟩
  | false =>
    rw [Help.step_eq c]
    obtain ⟨k1, k2, k3⟩ := ok.frames c
    have fine := Fr.step_ok (A := A) k1 hA ok.t0 ok.t1 ok.q0 ok.q1
    have hov := Fr.over_atop (A := A) (t := H.t) (q := H.q) H.top
    have hat := Fr.atop_may (A := A) (t := H.t) (q := H.q) H.top k1
    obtain ⟨ls, lg⟩ := life64 (Fr.life k1)
    generalize H.top.step H.t H.q A = o at fine hov hat ⊢
    refine ⟨?_, fine.a⟩
    unfold Help.take
    split
    · exact ⟨ok.t0, ok.t1, fine.q0, fine.q1, ls, lg, fun h => by cases h⟩
    · rename_i hg
      have hg : o.good = true := by simpa using hg
      split
      · rename_i fr hb
        split
        · exact ⟨ok.t0, ok.t1, fine.q0, fine.q1, ls, lg, fun h => by cases h⟩
        · rename_i h18
          obtain ⟨fo, e1, e2⟩ := Option.bind_eq_some_iff.1 hb
          have ho : o.over = false := by
            cases e : o.over with
            | false => rfl
            | true => rw [hov e] at e1; cases e1
          refine ⟨ok.t0, ok.t1, fine.q0, fine.q1, ls, lg, fun _ => ⟨newFr_ok (hat fo e1).1 e2, fun f hf => ?_, by simp only [List.length_cons]; omega⟩⟩
          rcases List.mem_cons.1 hf with rfl | hf
          · exact fine.fr hg ho
          · exact k2 f hf
      · split
        · rename_i ho
          exact ⟨ok.t0, ok.t1, fine.q0, fine.q1, ls, lg, fun _ => ⟨fine.fr hg ho, k2, k3⟩⟩
        · split
          · exact ⟨ok.t0, ok.t1, fine.q0, fine.q1, ls, lg, fun h => by cases h⟩
          · rename_i r rs hr
            rw [hr] at k2 k3
            exact ⟨ok.t0, ok.t1, fine.q0, fine.q1, ls, lg, fun _ => ⟨k2 r (by simp), fun f hf => k2 f (List.mem_cons_of_mem _ hf), by simp only [List.length_cons] at k3; simp only; omega⟩⟩
end
end Go.Proofs.YtcpfkkppfgolaaaGreatDoor
