import Derived.Test.YtkcgphbgbibhfaaS
import Derived.Test.YtkcgphbgbibhfaaG15
namespace Go.Proofs.Ytkcgphbgbibhfaa
open Go GW Go.Proofs
set_option linter.unusedVariables false
set_option linter.unusedSimpArgs false
theorem bnd_of {α : Type} {o : Option α} {v : α} {K : α → Prop} (h : o = some v) (k : K v) : bnd o K := by rw [h]; exact k
theorem ifV_t {v : Value} {A B : Prop} (h : v = .bool true) (a : A) : ifV v A B := by rw [h]; exact a
theorem ifV_f {v : Value} {A B : Prop} (h : v = .bool false) (b : B) : ifV v A B := by rw [h]; exact b
theorem T_Below {x y : Int} {h : GH} {K : Value → GH → Prop} (hK : K (.bool (decide (0 ≤ x ∧ x < y))) h) : T Try.prog 13 [.int .i64 x, .int .i64 y] h K := by
  apply S13_T
  unfold S13
  simp only [bnd_some, bnd_none, ifV_true, ifV_false, ifV_dec, ifV_iff, Bool.not_eq_true, Bool.not_eq_eq_eq_not, Bool.not_true, Bool.not_false, decide_eq_true_eq, decide_eq_false_iff_not, tup_zero, tup_succ, binV_add, binV_sub, binV_mul, binV_quo, binV_rem, binV_lss, binV_leq, binV_gtr, binV_geq, eqI_int, cvV_int, unV_not, lnV_slice, exV_tuple, ncV_pointer, faV_pointer, pickO_true, pickO_false, cells_agg, cells_int, cells_bool, cells_pointer, cells_slice, cells_iface, cells_nilIface, cells_func, cells_nilFunc, one_int, one_bool, one_pointer, one_slice, one_iface, one_nilIface, one_func, one_nilFunc, ldV_same, ldV_same_agg, stV_same, upd_same, upd_upd, setCells_nil, setCells_cons, List.set_cons_zero, List.set_cons_succ, List.length_cons, List.length_nil, List.size_toArray, List.all_cons, List.all_nil, Bool.and_true, Bool.and_self, Nat.zero_add, Nat.add_zero, Nat.reduceAdd, Nat.reduceLeDiff, Nat.le_refl, and_self, and_true, true_and, if_true, if_false, List.getElem?_cons_zero, List.getElem?_cons_succ, List.getElem?_toArray, List.drop_zero, List.drop_succ_cons, List.take_succ_cons, List.take_zero, List.take_nil, reduceIte, Int.reduceNeg, Int.reduceEq, Int.reduceLT, Int.reduceLE, Nat.reduceEqDiff, List.length_set]
  split <;> simp_all
theorem T_Num {x : Int} {h : GH} {K : Value → GH → Prop} (hK : K (.int .i64 x) h) : T Try.prog 9 [.int .i64 x] h K := by
  apply S9_T
  exact hK
/-- a row of elements that is read -/
def rowsAt (h : GH) (size : Nat) (v : Value) (cs : List (List Value)) : Prop :=
  ∃ a n cap, v = .slice a n cap ∧ cs.length = n ∧ n ≤ cap ∧ n ≤ 9223372036854775807 ∧
    ∀ i c, cs[i]? = some c → ∃ b off T pre sz f, a = some ⟨b, off, none⟩ ∧ h b = some (.row T pre sz f) ∧ off + i * size + size ≤ pre.length ∧ (pre.drop (off + i * size)).take size = c
theorem rowsAt.get {h : GH} {size : Nat} {v : Value} {cs : List (List Value)} (r : rowsAt h size v cs) {i : Nat} {c : List Value} (hc : cs[i]? = some c) (k : IntKind) :
    ∃ p, isV size v (.int k i) = some p ∧ ldV size true p h = some (.agg c.toArray) := by
  obtain ⟨a, n, cap, rfl, hl, _, _, hr⟩ := r
  obtain ⟨b, off, T, pre, sz, f, rfl, hb, hle, hcc⟩ := hr i c hc
  have hi : i < cs.length := (List.getElem?_eq_some_iff.1 hc).1
  refine ⟨.pointer (some ⟨b, off + i * size, none⟩), ?_, ?_⟩
  · simp only [isV]; rw [if_pos ⟨by omega, by omega⟩]; simp
  · rw [ldV_agg hb _ _ hle, hcc]
theorem rowsAt.get1 {h : GH} {v : Value} {cs : List (List Value)} (r : rowsAt h 1 v cs) {i : Nat} {x : Value} (hc : cs[i]? = some [x]) (k : IntKind) :
    ∃ p, isV 1 v (.int k i) = some p ∧ ldV 1 false p h = some x := by
  obtain ⟨a, n, cap, rfl, hl, _, _, hr⟩ := r
  obtain ⟨b, off, T, pre, sz, f, rfl, hb, hle, hcc⟩ := hr i _ hc
  have hi : i < cs.length := (List.getElem?_eq_some_iff.1 hc).1
  refine ⟨.pointer (some ⟨b, off + i * 1, none⟩), ?_, ?_⟩
  · simp only [isV]; rw [if_pos ⟨by omega, by omega⟩]; simp
  · rw [ldV_cell hb]
    have : ((pre.drop (off + i * 1)).take 1)[0]? = some x := by rw [hcc]; rfl
    simpa using this
theorem rowsAt.le {h h' : GH} {size : Nat} {v : Value} {cs : List (List Value)} (r : rowsAt h size v cs) (l : HLe h h') : rowsAt h' size v cs := by
  obtain ⟨a, n, cap, rfl, hl, hm, hm2, hr⟩ := r
  refine ⟨a, n, cap, rfl, hl, hm, hm2, fun i c hc => ?_⟩
  obtain ⟨b', off, T, pre, sz, f, h1, h2, h3⟩ := hr i c hc
  exact ⟨b', off, T, pre, sz, f, h1, l _ _ h2, h3⟩
theorem rowsAt.take {h : GH} {size : Nat} {v : Value} {cs : List (List Value)} (r : rowsAt h size v cs) {k : Nat} (hk : k ≤ cs.length) (kd : IntKind) :
    ∃ v', slV size v none (some (.int kd k)) = some v' ∧ rowsAt h size v' (cs.take k) := by
  obtain ⟨a, n, cap, rfl, hl, hm, hm2, hr⟩ := r
  refine ⟨.slice a k cap, ?_, a, k, cap, rfl, by simp; omega, by omega, by omega, fun i c hc => hr i c ?_⟩
  · simp only [slV, sbV]
    rw [if_pos ⟨by omega, by omega⟩]
    have : a.map (fun x => x.add (0 * size)) = a := by cases a <;> simp [Addr.add]
    simp only [Nat.zero_mul] at this
    simp [this]
  · rw [List.getElem?_take] at hc
    split at hc
    · exact hc
    · cases hc
theorem rowsAt.drop {h : GH} {size : Nat} {v : Value} {cs : List (List Value)} (r : rowsAt h size v cs) {k : Nat} (hk : k ≤ cs.length) (kd : IntKind) :
    ∃ v', slV size v (some (.int kd k)) none = some v' ∧ rowsAt h size v' (cs.drop k) := by
  obtain ⟨a, n, cap, rfl, hl, hm, hm2, hr⟩ := r
  refine ⟨.slice (if cap = k then a else a.map (·.add (k * size))) (n - k) (cap - k), ?_, _, _, _, rfl, by simp; omega, by omega, by omega, fun i c hc => ?_⟩
  · simp only [slV, sbV]
    rw [if_pos ⟨by omega, by omega⟩]
    simp
  · rw [List.getElem?_drop] at hc
    have hi := (List.getElem?_eq_some_iff.1 hc).1
    obtain ⟨b, off, T, pre, sz, f, rfl, h2, h3, h4⟩ := hr (k + i) c hc
    have he : off + (k + i) * size = off + k * size + i * size := by rw [Nat.add_mul]; omega
    rw [he] at h3 h4
    refine ⟨b, off + k * size, T, pre, sz, f, ?_, h2, h3, h4⟩
    rw [if_neg (by omega)]
    simp only [Option.map_some, Option.some.injEq]
    unfold Addr.add; split
    · rename_i h0; simp [h0]
    · rfl
theorem flatten_get (size : Nat) : ∀ (cs : List (List Value)), (∀ c ∈ cs, c.length = size) → ∀ (tail : List Value) (i : Nat) (c : List Value), cs[i]? = some c → ((cs.flatten ++ tail).drop (i * size)).take size = c ∧ i * size + size ≤ cs.flatten.length := by
  intro cs
  induction cs with
  | nil => intro _ tail i c h; simp at h
  | cons x cs ih =>
    intro hall tail i c h
    have hx : x.length = size := hall x (by simp)
    cases i with
    | zero => simp at h; subst h; simp [← hx]
    | succ i =>
      obtain ⟨h1, h2⟩ := ih (fun c hc => hall c (List.mem_cons_of_mem _ hc)) tail i c (by simpa using h)
      refine ⟨?_, ?_⟩
      · rw [List.flatten_cons, List.append_assoc, Nat.add_mul, Nat.one_mul, Nat.add_comm, ← hx, ← List.drop_drop, List.drop_left, hx]; exact h1
      · rw [List.flatten_cons, List.length_append, hx, Nat.add_mul]; omega
theorem rowsAt_of {h : GH} {b off : Nat} {T : TypeId} {pre : List Value} {sz : Nat} {f : Bool} (hb : h b = some (.row T pre sz f)) {size n cap : Nat} {cs : List (List Value)} (hl : cs.length = n) (hc : n ≤ cap) (hm : n ≤ 9223372036854775807) (hall : ∀ c ∈ cs, c.length = size)
    (ho : off ≤ pre.length) (hp : cs.flatten <+: pre.drop off) : rowsAt h size (.slice (some ⟨b, off, none⟩) n cap) cs := by
  refine ⟨_, n, cap, rfl, hl, hc, hm, fun i c hi => ⟨b, off, T, pre, sz, f, rfl, hb, ?_, ?_⟩⟩
  · obtain ⟨tail, ht⟩ := hp
    have := (flatten_get size cs hall tail i c hi).2
    have hlen : (pre.drop off).length = cs.flatten.length + tail.length := by rw [← ht]; simp
    simp only [List.length_drop] at hlen
    omega
  · obtain ⟨tail, ht⟩ := hp
    have := (flatten_get size cs hall tail i c hi).1
    rw [← List.drop_drop, ← ht]; exact this
end Go.Proofs.Ytkcgphbgbibhfaa
