/- Several texts in one, each under its own remark or none; nothing here is a statement on the program. -/
import Derived.Test.YtbiappodepnbmaaKC
namespace Go.Proofs.Ytbiappodepnbmaa
open Go GW Go.Proofs
set_option linter.unusedVariables false
set_option linter.unusedSimpArgs false
set_option maxRecDepth 20000
abbrev wcells (w : Wh) (pc : Int) (opn won : Bool) : List Value := [i64 2, i64 0, i64 w.s, i64 w.g, i64 0, i64 0, i64 0, i64 (Form.mcas w.s w.g).number, i64 pc, i64 w.i, i64 w.k, i64 w.cell, i64 w.was, i64 w.put, .bool opn, .bool won, i64 w.x]
abbrev ecells (f : En) (opn : Bool) : List Value := [i64 1, i64 0, i64 f.s, i64 f.g, i64 f.e, i64 f.t, i64 f.q, i64 (Form.entry f.s f.g f.e f.t f.q).number, i64 f.pc, i64 0, i64 0, i64 f.cell, i64 f.was, i64 0, .bool opn, .bool false, i64 0]
def rcells : Fr → List Value → Prop
  | .who w, c => ∃ (pc : Int) (opn won : Bool), c = wcells w pc opn won ∧ (pc = w.pc ∨ pc = 0 ∧ w.pc = 1) ∧ (w.pc = 7 → opn = w.opn) ∧ (w.pc = 0 ∨ 10 ≤ w.pc ∧ w.pc ≤ 13 → won = w.won)
  | .ent f, c => ∃ opn : Bool, (c = ecells f opn ∨ f.pc = 4 ∧ c = ecells { f with pc := 3 } opn) ∧ (f.pc = 3 → opn = f.opn)
theorem rcells_good {f : Fr} {c : List Value} (h : rcells f c) : good 17 c := by
  cases f with
  | who w => obtain ⟨pc, opn, won, rfl, _⟩ := h; exact ⟨rfl, rfl⟩
  | ent f => obtain ⟨opn, rfl | ⟨_, rfl⟩, _⟩ := h <;> exact ⟨rfl, rfl⟩
theorem val_of_some {x : Int} (h : (plainOf x).isSome = true) : x = valOf x * 4 := by
  unfold valOf
  cases e : plainOf x with
  | none => rw [e] at h; cases h
  | some v =>
    unfold plainOf at e
    split at e
    · rename_i v' er
      cases e
      have := (number_of_read er).2.1
      simp only [Form.number] at this
      simp only [Option.getD_some]; omega
    · cases e
theorem state_iff {x g st : Int} (h : (plainOf x).isSome = true) : (valOf x = 4 * g + st) ↔ (x = stateW g st) := by
  have := val_of_some h
  unfold stateW; omega
section
variable {a c : Nat} {A : Ar} {R : List Part} {h : GH} {K : Value → GH → Prop} {w : Wh} {pc : Int} {opn won : Bool}
theorem T_rBase {s : Int} (h0 : 0 ≤ s) (h1 : s < 12) (hK : K (i64 (baseOf s)) h) : T Try.prog 31 [i64 s] h K := by
  apply S31_T
  unfold S31
  refine bnd_of (mul_id (by omega) (by omega)) (bnd_of (add_id (by omega) (by omega)) ?_)
  have e : 34 + 50 * s = baseOf s := by unfold baseOf; omega
  rw [e]; exact hK
theorem T_rValue {x : Int} (h0 : -2305843009213693952 ≤ x) (h1 : x < 2305843009213693952) (hK : K (i64 (x * 4)) h) : T Try.prog 30 [i64 x] h K := by
  apply S30_T
  unfold S30
  refine bnd_of (mul_id (by omega) (by omega)) ?_
  have e : 4 * x = x * 4 := by omega
  rw [e]; exact hK
theorem T_rState {g st : Int} (h0 : 0 ≤ g) (h1 : g < 65536) (h2 : 0 ≤ st) (h3 : st < 4) (hK : K (i64 (stateW g st)) h) : T Try.prog 29 [i64 g, i64 st] h K := by
  apply S29_T
  unfold S29
  refine bnd_of (mul_id (by omega) (by omega)) (bnd_of (add_id (by omega) (by omega)) (T_rValue (by omega) (by omega) ?_))
  have e : (4 * g + st) * 4 = stateW g st := by unfold stateW; omega
  rw [e]; exact hK
end
end Go.Proofs.Ytbiappodepnbmaa
namespace Go.Proofs.Ytbiappodepnbmaa
open Go GW Go.Proofs
set_option linter.unusedVariables false
set_option linter.unusedSimpArgs false
set_option maxRecDepth 20000
def numO : Option Form → Int
  | none => 0
  | some f => f.number
section
variable {a c : Nat} {A : Ar} {R : List Part} {h : GH} {K : Value → GH → Prop} {w : Wh} {pc : Int} {opn won : Bool} {t q : Int}
end
end Go.Proofs.Ytbiappodepnbmaa
namespace Go.Proofs.Ytbiappodepnbmaa
open Go GW Go.Proofs
set_option linter.unusedVariables false
set_option linter.unusedSimpArgs false
set_option maxRecDepth 20000
section
variable {a c : Nat} {A : Ar} {R : List Part} {h : GH} {K : Value → GH → Prop} {w : Wh} {pc : Int} {opn won : Bool} {t q : Int}
theorem Wh.step5 (e : w.pc = 5) : w.step t q A = w.swapIn t q A := by
  unfold Wh.step; rw [e]; rfl
theorem plain_wd : (Form.val 0).plain.enc = [i64 0, i64 0, i64 0, i64 0, i64 0, i64 0, i64 0] := rfl
theorem mcas_number_inj {s g : Int} {x : Int} {f : Form} (hs : Life s g) (hr : read x = some f) : (x = (Form.mcas s g).number) ↔ f = .mcas s g := by
  have hm := number_of_read hr
  have h2 : (Form.mcas s g).may = true := may_mcas.2 ⟨hs.s0, hs.s1, hs.g0, hs.g1⟩
  constructor
  · intro e
    exact number_inj hm.1 h2 (by rw [hm.2.1]; exact e)
  · rintro rfl; exact hm.2.1.symm
end
end Go.Proofs.Ytbiappodepnbmaa
namespace Go.Proofs.Ytbiappodepnbmaa
open Go GW Go.Proofs
set_option linter.unusedVariables false
set_option linter.unusedSimpArgs false
set_option maxRecDepth 20000
inductive Each2 {α β : Type} (P : α → β → Prop) : List α → List β → Prop
  | nil : Each2 P [] []
  | cons {a b l m} : P a b → Each2 P l m → Each2 P (a :: l) (b :: m)
theorem Each2.len {α β : Type} {P : α → β → Prop} {l : List α} {m : List β} (h : Each2 P l m) : l.length = m.length := by
  induction h with
  | nil => rfl
  | cons _ _ ih => simp [ih]
def rstkP (sv : Value) (H : Help) : Part := fun h => H.over = false → ∃ c cs, (rcells H.top c ∧ Each2 rcells H.rest cs) ∧ rowP 17 sv (cs.reverse ++ [c]) h
section
variable {a b c : Nat} {A : Ar} {R : List Part} {h : GH} {K : Value → GH → Prop} {H : Help}
theorem Each2.cons_inv {α β : Type} {P : α → β → Prop} {a : α} {l : List α} {m : List β} (h : Each2 P (a :: l) m) : ∃ b m', m = b :: m' ∧ P a b ∧ Each2 P l m' := by
  cases h with
  | cons p q => exact ⟨_, _, rfl, p, q⟩
theorem number_ne {f : Form} (hm : f.may = true) (hv : newFr f ≠ none) : f.number ≠ 0 := by
  cases f with
  | val v => exact absurd rfl hv
  | mcas s g => simp only [Form.number]; omega
  | entry s g e t q => simp only [Form.number]; omega
theorem newFr_cells {f : Form} {fr : Fr} (e : newFr f = some fr) : ∃ c, rcells fr c ∧ fillV (List.replicate 14 (.int .i64 0) ++ [.bool false, .bool false, .int .i64 0]) [(0, 7, .agg f.plain.enc.toArray), (7, 1, i64 f.number)] = some c := by
  cases f with
  | val v => cases e
  | mcas s g => cases e; exact ⟨wcells (.new s g) 0 false false, ⟨0, false, false, rfl, .inr ⟨rfl, rfl⟩, fun q => (by cases q), fun _ => rfl⟩, rfl⟩
  | entry s g e' t q => cases e; exact ⟨ecells (.new s g e' t q) false, ⟨false, .inl rfl, fun q => (by cases q)⟩, rfl⟩
end
end Go.Proofs.Ytbiappodepnbmaa
namespace Go.Proofs.Ytbiappodepnbmaa
open Go GW Go.Proofs
set_option linter.unusedVariables false
set_option linter.unusedSimpArgs false
set_option maxRecDepth 20000
section
variable {a b c : Nat} {A : Ar} {R : List Part} {h : GH} {K : Value → GH → Prop} {H : Help}
theorem read_may {x : Int} {f : Form} (h : read x = some f) : f.may = true := (number_of_read h).1
theorem Fr.atop_may {t q : Int} (f : Fr) (ok : f.ok) (g : Form) (e : (f.step t q A).atop = some g) : g.may = true ∧ newFr g ≠ none := by
  cases f with
  | who w =>
    simp only [Fr.step] at e
    unfold Wh.step at e
    split at e <;> first | (cases e; done) | skip
    · unfold Wh.swapIn at e
      simp only at e
      split at e
      · cases e
      · split at e
        · cases e
        · cases e
        · rename_i hr; cases e; exact ⟨read_may hr, by simp [newFr]⟩
        · split at e <;> cases e
    · rename_i hpc
      simp only at e
      split at e
      · obtain ⟨s, g', hr⟩ := ok.ref hpc
        rw [hr] at e
        cases e
        exact ⟨read_may hr, by simp [newFr]⟩
      · cases e
  | ent f =>
    simp only [Fr.step] at e
    unfold En.step at e
    split at e <;> cases e
theorem Fr.over_pc {t q : Int} (f : Fr) (ho : (f.step t q A).over = true) (w : Wh) (e : (f.step t q A).fr = .who w) : w.pc = 0 ∨ w.pc = 11 := by
  cases f with
  | who w0 =>
    simp only [Fr.step] at e ho
    have h2 : w0.pc = 10 ∨ w0.pc = 13 := by
      unfold Wh.step at ho
      split at ho <;> first | (cases ho; done) | skip
      · unfold Wh.swapIn at ho
        simp only at ho
        split at ho
        · cases ho
        · split at ho <;> first | (cases ho; done) | (split at ho <;> cases ho)
      · exact .inl (by assumption)
      · exact .inr (by assumption)
      · simp only at ho
        split at ho <;> cases ho
    rcases h2 with h2 | h2
    · unfold Wh.step at e
      rw [h2] at e
      cases e; exact .inr rfl
    · unfold Wh.step at e ho
      rw [h2] at e ho
      cases e
      left
      simp only [decide_eq_true_eq] at ho
      simp only [Wh.next]; rw [if_pos ho]
  | ent f =>
    simp only [Fr.step] at e
    unfold En.step at e
    split at e <;> cases e
end
end Go.Proofs.Ytbiappodepnbmaa
namespace Go.Proofs.Ytbiappodepnbmaa
open Go GW Go.Proofs
attribute [local irreducible] bnd ldV stV ifV binV eqI
set_option linter.unusedVariables false
set_option linter.unusedSimpArgs false
set_option maxRecDepth 20000
def newHelp (t q x : Int) : Option Help :=
  match (read x).bind newFr with
  | some f => if 0 ≤ t ∧ t < 4 ∧ 0 ≤ q ∧ q < 1048576 then some (.new t q f) else none
  | none => none
section
variable {a b c : Nat} {A : Ar} {R : List Part} {h : GH} {K : Value → GH → Prop} {H : Help}
theorem helpP_open {C : Prop} (hp : All (helpP b H :: R) h) (k : ∀ sv lv, All (pts b (helpRow H sv lv) :: lastP lv H.slot H.gen :: stackP b sv H :: R) h → C) : C := by
  obtain ⟨sv, hp⟩ := All.ex hp
  obtain ⟨lv, hp⟩ := All.ex hp
  exact k sv lv (All.flat hp)
theorem T_Seq (hp : All (helpP b H :: R) h) (hK : K (i64 H.q) h) : T Try.prog 37 [ptr b] h K := by
  apply S37_T
  unfold S37
  refine helpP_open hp fun sv lv hp => ?_
  (repeat first|refine wx ?_|refine wy ?_|refine wz ?_|refine wv ?_|refine wh ?_)
  exact hK
theorem T_Through (hp : All (helpP b H :: R) h) (hK : K (.tuple #[i64 H.slot, i64 H.gen]) h) : T Try.prog 36 [ptr b] h K := by
  apply S36_T
  unfold S36
  refine helpP_open hp fun sv lv hp => ?_
  have hl : All (lastP lv H.slot H.gen :: pts b (helpRow H sv lv) :: []) h := hp.re 3 [1, 0] |> fun z => z.sel [0, 1]
  have cases : (lv = .pointer none ∧ H.slot = -1 ∧ H.gen = 0) ∨ ∃ c, lv = ptr c ∧ All (pts b (helpRow H sv lv) :: pts c (.row 102 [i64 H.slot, i64 H.gen] 2 true) :: []) h := by
    obtain ⟨h1, h2, d, l1, l2, p, q⟩ := hl
    rcases p with p | ⟨c, e, p⟩
    · exact .inl p
    · exact .inr ⟨c, e, All.up (i := 1) (l := [pts c _, pts b _]) ⟨h1, h2, d, l1, l2, p, q⟩⟩
  rcases cases with ⟨rfl, e1, e2⟩ | ⟨c, rfl, hp⟩
  · (repeat first|refine wx ?_|refine wy ?_|refine wz ?_|refine wv ?_|refine wh ?_)
    rw [e1, e2] at hK
    exact hK
  · (repeat first|refine wx ?_|refine wy ?_|refine wz ?_|refine wv ?_|refine wh ?_)
    exact hK
theorem T_ThreadMay {x : Int} (hK : K (.bool (decide (0 ≤ x ∧ x < 4))) h) : T Try.prog 17 [i64 x] h K := by
  apply S17_T
  unfold S17
  exact T_Below hK
theorem T_New {t q x : Int} (hp : All R h) (hx : I64 x) (kn : newHelp t q x = none → ∀ h', All R h' → K (.tuple #[.pointer none, i64 1400]) h') (ky : ∀ H, newHelp t q x = some H → ∀ b h', All (helpP b H :: R) h' → K (.tuple #[ptr b, i64 0]) h') : T Try.prog 34 [i64 t, i64 q, i64 x] h K := by
  apply S34_T
  unfold S34
  (repeat first|refine wx ?_|refine wy ?_|refine wz ?_|refine wv ?_|refine wh ?_)
  refine nw hp (hdRow t q [.slice none 0 0, .pointer none, .bool false, .bool false]) rfl fun b h1 hp => ?_
  (repeat first|refine wx ?_|refine wy ?_|refine wz ?_|refine wv ?_|refine wh ?_)
  refine T_Read hx.2 ?_
  refine T_framed (hd := b) (fo := read x) hp fun v h2 hp => ?_
  refine T_ThreadMay ?_
  (repeat first|refine wx ?_|refine wy ?_|refine wz ?_|refine wv ?_|refine wh ?_)
  unfold newHelp at kn ky
  have none_of : ((read x).bind newFr = none ∨ ¬ (0 ≤ t ∧ t < 4 ∧ 0 ≤ q ∧ q < 1048576)) → K (.tuple #[.pointer none, i64 1400]) h2 := by
    intro e
    refine kn ?_ _ hp.tail.tail
    cases ef : (read x).bind newFr with
    | none => rfl
    | some f =>
      rcases e with e | e
      · rw [ef] at e; cases e
      · simp only; rw [if_neg e]
  refine ifN_cases (fun c => ?_) fun c => ?_
  · exact none_of (.inr fun q => c ⟨q.1, q.2.1⟩)
  refine T_Below ?_
  (repeat first|refine wx ?_|refine wy ?_|refine wz ?_|refine wv ?_|refine wh ?_)
  refine ifN_cases (fun c2 => ?_) fun c2 => ?_
  · exact none_of (.inr fun q => c2 ⟨q.2.2.1, q.2.2.2⟩)
  cases ef : (read x).bind newFr with
  | none =>
    rw [ef] at hp
    have ev : v = .nilIface := All.case hp fun h1 p _ => p
    subst ev
    (repeat first|refine wx ?_|refine wy ?_|refine wz ?_|refine wv ?_|refine wh ?_)
    exact none_of (.inl ef)
  | some f =>
    rw [ef] at hp ky
    simp only at ky
    rw [if_pos ⟨c.1, c.2, c2.1, c2.2⟩] at ky
    obtain ⟨fb, ev⟩ : ∃ fb, v = .iface (frT f) (ptr fb) := All.case hp fun h1 p _ => by
      obtain ⟨fb, e, _⟩ := frP_iff.1 p
      exact ⟨fb, e⟩
    subst ev
    (repeat first|refine wx ?_|refine wy ?_|refine wz ?_|refine wv ?_|refine wh ?_)
    unfold S34_j1
    refine bs0 hp [[Value.iface (frT f) (ptr fb)]] rfl rfl (by simp) (fun c hc => by rw [List.mem_singleton.1 hc]; exact iface_good _ _) fun sv h3 hp => ?_
    obtain ⟨sa, sc, _, rfl, _⟩ := hp.row
    (repeat first|refine wx ?_|refine wy ?_|refine wz ?_|refine wv ?_|refine wh ?_)
    refine st2 hp (hdRow t q [.slice sa [[Value.iface (frT f) (ptr fb)]].length sc, .pointer none, .bool false, .bool false]) rfl (by simp) rfl rfl fun h4 hp => ?_
    refine ky _ rfl b _ ?_
    have hp2 := All.fold (l := [_, _]) (hp.re 3 [0, 1, 2])
    have hp3 := hp2.head (Q := stackP b (.slice sa [[Value.iface (frT f) (ptr fb)]].length sc) (.new t q f)) fun h1 z _ => ⟨.iface (frT f) (ptr fb), [], z.mono2 fun _ z => z.mono2 fun _ z => All.emp_cons z trivial⟩
    have hp4 : All (pts b (helpRow (.new t q f) (.slice sa [[Value.iface (frT f) (ptr fb)]].length sc) (.pointer none)) :: lastP (.pointer none) (-1) 0 :: stackP b (.slice sa [[Value.iface (frT f) (ptr fb)]].length sc) (.new t q f) :: R) h4 := All.mono2 (l := stackP b (.slice sa [[Value.iface (frT f) (ptr fb)]].length sc) (.new t q f) :: R) (hp3.up 1) fun _ z => All.emp_cons (P := lastP (.pointer none) (-1) 0) z (.inl ⟨rfl, rfl, rfl⟩)
    exact (All.fold (l := [_, _, _]) hp4).head fun h1 z => ⟨_, _, z⟩
end
/-! ### what the steps keep -/
theorem zero64 : I64 0 := ⟨by decide, by decide⟩
theorem Wh.new_ok {s g : Int} (hs : Life s g) : (Wh.new s g).ok :=
  ⟨hs, by simp [Wh.new], by simp [Wh.new], fun h => absurd rfl h, by simp [Wh.new], zero64, by simp [Wh.new], by simp [Wh.new], zero64, zero64, zero64, by simp [Wh.new], by simp [Wh.new], fun q => by cases q⟩
theorem newFr_ok {f : Form} {fr : Fr} (hm : f.may = true) (e : newFr f = some fr) : fr.ok := by
  cases f with
  | val v => cases e
  | mcas s g => cases e; rw [may_mcas] at hm; exact Wh.new_ok ⟨hm.1, hm.2.1, hm.2.2.1, hm.2.2.2⟩
  | entry s g e' t q =>
    cases e; rw [may_entry] at hm
    obtain ⟨h1, h2, h3, h4, h5, h6, h7, h8, h9, h10⟩ := hm
    exact ⟨⟨h1, h2, h3, h4⟩, h5, h6, h7, h8, h9, h10, by simp [En.new], by simp [En.new], zero64, by simp [En.new]⟩
theorem newHelp_ok {t q x : Int} {H : Help} (e : newHelp t q x = some H) : H.ok := by
  unfold newHelp at e
  split at e
  · rename_i f ef
    split at e
    · rename_i c
      cases e
      obtain ⟨fo, hr, hf⟩ := Option.bind_eq_some_iff.1 ef
      refine ⟨c.1, c.2.1, c.2.2.1, c.2.2.2, (by constructor <;> simp [Help.new]), zero64, fun _ => ⟨newFr_ok (number_of_read hr).1 hf, (fun _ h => by cases h), by simp [Help.new]⟩⟩
    · cases e
  · cases e
end Go.Proofs.Ytbiappodepnbmaa
namespace Go.Proofs.Ytbiappodepnbmaa
open Go GW Go.Proofs
set_option linter.unusedVariables false
set_option linter.unusedSimpArgs false
section
variable {A : Ar} {t q : Int}
structure Out.fine (o : Out) : Prop where
  a : o.a.ok
  q0 : 0 ≤ o.q
  q1 : o.q < 1048576
  fr : o.good = true → o.over = false → o.fr.ok
theorem val4 {x : Int} (hx : I64 x) : I64 (valOf x * 4) := by
  have := valOf_le hx
  constructor <;> omega
theorem Wh.next_ok {w : Wh} {more stop : Nat} (ok : w.ok) (hi : w.i < 16) (h1 : 1 ≤ more) (h2 : more ≤ 13) (h3 : stop = 8) : (w.next more stop).ok := by
  subst h3
  have p1 : (w.next more 8).pc = if w.k ≤ w.i + 1 then 8 else more := rfl
  have i0 := ok.i0
  have k1 := ok.k1
  refine ⟨ok.life, by simp only [Wh.next]; omega, by simp only [Wh.next]; omega, ?_, ok.k1, ok.k0, ok.c0, ok.c1, ok.was, ok.put, ok.x, ?_, ?_, ?_⟩
  · intro _ _ h8 _
    rw [p1] at h8
    simp only [Wh.next]
    split at h8
    · exact absurd rfl h8
    · omega
  · rw [p1]; split <;> omega
  · rw [p1]; split <;> omega
  · rw [p1]; intro e; split at e <;> omega
theorem Wh.next_ok0 {w : Wh} (ok : w.ok) (hi : w.i < 16) (hk : ¬ (w.k ≤ w.i + 1)) : (w.next 11 0).ok := by
  have p1 : (w.next 11 0).pc = 11 := by simp only [Wh.next]; rw [if_neg hk]
  have i0 := ok.i0
  have k1 := ok.k1
  refine ⟨ok.life, by simp only [Wh.next]; omega, by simp only [Wh.next]; omega, ?_, ok.k1, ok.k0, ok.c0, ok.c1, ok.was, ok.put, ok.x, ?_, ?_, ?_⟩
  · intro _ _ _ _; simp only [Wh.next]; omega
  · omega
  · omega
  · intro e; omega
theorem Wh.step_ok {w : Wh} (ok : w.ok) (hA : A.ok) (t0 : 0 ≤ t) (t1 : t < 4) (q0 : 0 ≤ q) (q1 : q < 1048576) : (w.step t q A).fine := by
  obtain ⟨s, g, pc, i, k, cell, was, put, x, opn, won⟩ := w
  obtain ⟨life, i0, i1, i2, k1, k0, c0, c1, was1, put1, x1, pc1, pc0, ref⟩ := ok
  simp only at life i0 i1 i2 k1 k0 c0 c1 was1 put1 x1 pc1 pc0 ref
  have ok : (Wh.mk s g pc i k cell was put x opn won).ok := ⟨life, i0, i1, i2, k1, k0, c0, c1, was1, put1, x1, pc1, pc0, ref⟩
  have hb := valOf_range hA (baseOf s + 1)
  have st : ∀ d, 0 ≤ d → d < 4 → I64 (stateW g d) := fun d h0 h1 => stateW_range life.g0 life.g1 h0 h1
  have : pc = 1 ∨ pc = 2 ∨ pc = 3 ∨ pc = 4 ∨ pc = 5 ∨ pc = 6 ∨ pc = 7 ∨ pc = 8 ∨ pc = 9 ∨ pc = 10 ∨ pc = 11 ∨ pc = 12 ∨ pc = 13 ∨ pc = 14 := by omega
  rcases this with rfl | rfl | rfl | rfl | rfl | rfl | rfl | rfl | rfl | rfl | rfl | rfl | rfl | rfl
  · refine ⟨hA.ld _, q0, q1, fun _ _ => ?_⟩
    simp only [Wh.step]
    refine ⟨life, i0, i1, ?_, k1, k0, c0, c1, was1, put1, x1, ?_, ?_, ?_⟩ <;> simp only <;> split <;> first | omega | (intro a b c d; simp at b d)
  · refine ⟨hA.ld _, q0, q1, fun hg _ => ?_⟩
    have hv := (is_val hg).1
    simp only [Wh.step]
    refine ⟨life, by simp, by simp, fun _ _ _ _ => by simp, hv, by constructor <;> (simp only; omega), c0, c1, was1, put1, x1, ?_, ?_, ?_⟩ <;> simp only <;> split <;> omega
  · refine ⟨hA.ld _, q0, q1, fun hg _ => ?_⟩
    have hv := (is_val hg).1
    simp only at hv
    have h0 := (valOf_range hA (baseOf s + (2 + 3 * i + 0))).1
    exact ⟨life, i0, i1, fun _ _ _ _ => i2 (by decide) (by decide) (by decide) (by decide), k1, k0, h0, by simp only; omega, was1, put1, x1, by simp, by simp, fun e => by cases e⟩
  · refine ⟨hA.ld _, q0, q1, fun hg _ => ?_⟩
    exact ⟨life, i0, i1, fun _ _ _ _ => i2 (by decide) (by decide) (by decide) (by decide), k1, k0, c0, c1, val4 (Ar.at_range hA _), put1, x1, by simp, by simp, fun e => by cases e⟩
  · have hi := i2 (by decide) (by decide) (by decide) (by decide)
    have hp := entry_range life i0 hi t0 t1 q0 q1
    have q0' : 0 ≤ (q + 1) % 1048576 := by omega
    have q1' : (q + 1) % 1048576 < 1048576 := by omega
    have ok' : (Wh.mk s g 5 i k cell was (Form.entry s g i t q).number x opn won).ok := ⟨life, i0, i1, i2, k1, k0, c0, c1, was1, hp, x1, pc1, pc0, ref⟩
    rw [Wh.step5 rfl]
    unfold Wh.swapIn
    simp only
    split
    · exact ⟨hA.cas _ _ hp, q0', q1', fun _ _ => ⟨life, i0, i1, fun _ _ _ _ => hi, k1, k0, c0, c1, was1, hp, x1, by simp, by simp, fun e => by cases e⟩⟩
    · split
      · exact ⟨hA.cas _ _ hp, q0', q1', fun e => by cases e⟩
      · exact ⟨hA.cas _ _ hp, q0', q1', fun _ _ => ⟨life, i0, i1, fun _ _ _ _ => hi, k1, k0, c0, c1, was1, hp, x1, by simp, by simp, fun e => by cases e⟩⟩
      · exact ⟨hA.cas _ _ hp, q0', q1', fun _ _ => ok'⟩
      · rename_i s' g' hr
        split
        · exact ⟨hA.cas _ _ hp, q0', q1', fun _ _ => Wh.next_ok ok' hi (by decide) (by decide) rfl⟩
        · exact ⟨hA.cas _ _ hp, q0', q1', fun _ _ => ⟨life, i0, i1, fun _ _ _ _ => hi, k1, k0, c0, c1, was1, hp, Ar.at_range hA _, by simp, by simp, fun _ => ⟨s', g', hr⟩⟩⟩
  · refine ⟨hA.ld _, q0, q1, fun hg _ => ?_⟩
    exact ⟨life, i0, i1, fun _ _ _ _ => i2 (by decide) (by decide) (by decide) (by decide), k1, k0, c0, c1, was1, put1, x1, by simp, by simp, fun e => by cases e⟩
  · refine ⟨hA.cas _ _ ?_, q0, q1, fun hg _ => ?_⟩
    · simp only [Wh.mine]; split
      · exact mcas_range life
      · exact was1
    · exact Wh.next_ok ok (i2 (by decide) (by decide) (by decide) (by decide)) (by decide) (by decide) rfl
  · exact ⟨hA.cas _ _ (st 1 (by decide) (by decide)), q0, q1, fun _ _ => ⟨life, i0, i1, fun e => absurd rfl e, k1, k0, c0, c1, was1, put1, x1, by simp, by simp, fun e => by cases e⟩⟩
  · exact ⟨hA.cas _ _ (st 2 (by decide) (by decide)), q0, q1, fun _ _ => ⟨life, i0, i1, fun e => absurd rfl e, k1, k0, c0, c1, was1, put1, x1, by simp, by simp, fun e => by cases e⟩⟩
  · refine ⟨hA.ld _, q0, q1, fun hg _ => ?_⟩
    have hv := (is_val hg).1
    exact ⟨life, by simp, by simp, fun _ _ _ _ => by simp, hv, by constructor <;> (simp only; omega), c0, c1, was1, put1, x1, by simp, by simp, fun e => by cases e⟩
  · refine ⟨hA.ld _, q0, q1, fun hg _ => ?_⟩
    have hv := (is_val hg).1
    simp only at hv
    have h0 := (valOf_range hA (baseOf s + (2 + 3 * i + 0))).1
    exact ⟨life, i0, i1, fun _ _ _ _ => i2 (by decide) (by decide) (by decide) (by decide), k1, k0, h0, by simp only; omega, was1, put1, x1, by simp, by simp, fun e => by cases e⟩
  · refine ⟨hA.ld _, q0, q1, fun hg _ => ?_⟩
    exact ⟨life, i0, i1, fun _ _ _ _ => i2 (by decide) (by decide) (by decide) (by decide), k1, k0, c0, c1, was1, put1, val4 (Ar.at_range hA _), by simp, by simp, fun e => by cases e⟩
  · refine ⟨hA.cas _ _ x1, q0, q1, fun hg ho => ?_⟩
    have hk : ¬ (k ≤ i + 1) := of_decide_eq_false ho
    exact Wh.next_ok0 ok (i2 (by decide) (by decide) (by decide) (by decide)) hk
  · simp only [Wh.step]
    have hi := i2 (by decide) (by decide) (by decide) (by decide)
    split
    · exact ⟨hA.ld _, q0, q1, fun _ _ => ⟨life, i0, i1, fun _ _ _ _ => hi, k1, k0, c0, c1, was1, put1, x1, by simp, by simp, fun e => by cases e⟩⟩
    · exact ⟨hA.ld _, q0, q1, fun _ _ => ⟨life, i0, i1, fun _ _ _ _ => hi, k1, k0, c0, c1, was1, put1, x1, by simp, by simp, fun e => by cases e⟩⟩
theorem En.step_ok {f : En} (ok : f.ok) (hA : A.ok) (q0 : 0 ≤ q) (q1 : q < 1048576) : (f.step q A).fine := by
  obtain ⟨s, g, e, t', q', pc, cell, was, opn⟩ := f
  obtain ⟨life, e0, e1, t0, t1, q0', q1', c0, c1, was1, pc1⟩ := ok
  simp only at life e0 e1 t0 t1 q0' q1' c0 c1 was1 pc1
  have : pc = 0 ∨ pc = 1 ∨ pc = 2 ∨ pc = 3 := by omega
  rcases this with rfl | rfl | rfl | rfl
  · refine ⟨hA.ld _, q0, q1, fun hg _ => ?_⟩
    have hv := (is_val hg).1
    simp only at hv
    have h0 := (valOf_range hA (baseOf s + (2 + 3 * e + 0))).1
    exact ⟨life, e0, e1, t0, t1, q0', q1', h0, by simp only; omega, was1, by simp⟩
  · refine ⟨hA.ld _, q0, q1, fun hg _ => ?_⟩
    exact ⟨life, e0, e1, t0, t1, q0', q1', c0, c1, val4 (Ar.at_range hA _), by simp⟩
  · exact ⟨hA.ld _, q0, q1, fun hg _ => ⟨life, e0, e1, t0, t1, q0', q1', c0, c1, was1, by simp⟩⟩
  · refine ⟨hA.cas _ _ ?_, q0, q1, fun _ h => by cases h⟩
    simp only; split
    · exact mcas_range life
    · exact was1
theorem Fr.step_ok {f : Fr} (ok : f.ok) (hA : A.ok) (t0 : 0 ≤ t) (t1 : t < 4) (q0 : 0 ≤ q) (q1 : q < 1048576) : (f.step t q A).fine := by
  cases f with
  | who w => exact Wh.step_ok ok hA t0 t1 q0 q1
  | ent f => exact En.step_ok ok hA q0 q1
theorem Fr.life {f : Fr} (ok : f.ok) : Life f.s f.g := by
  cases f with
  | who w => exact Wh.ok.life ok
  | ent f => exact En.ok.life ok
theorem life64 {s g : Int} (h : Life s g) : I64 s ∧ I64 g := by
  have := h.s0; have := h.s1; have := h.g0; have := h.g1
  constructor <;> constructor <;> omega
theorem Help.step_ok {H : Help} (ok : H.ok) (hA : A.ok) : (H.step A).1.ok ∧ (H.step A).2.2.ok := by
  cases c : H.over with
  | true =>
    have e : H.step A = (H, 0, A) := by unfold Help.step; rw [c]; rfl
    rw [e]; exact ⟨ok, hA⟩
  | false =>
    rw [Help.step_eq c]
    obtain ⟨k1, k2, k3⟩ := ok.frames c
    have fine := Fr.step_ok (A := A) k1 hA ok.t0 ok.t1 ok.q0 ok.q1
    have hov := Fr.over_atop (A := A) (t := H.t) (q := H.q) H.top
    have hat := Fr.atop_may (A := A) (t := H.t) (q := H.q) H.top k1
    obtain ⟨ls, lg⟩ := life64 (Fr.life k1)
    generalize H.top.step H.t H.q A = o at fine hov hat ⊢
    refine ⟨?_, fine.a⟩
    unfold Help.take
    split
    · exact ⟨ok.t0, ok.t1, fine.q0, fine.q1, ls, lg, fun h => by cases h⟩
    · rename_i hg
      have hg : o.good = true := by simpa using hg
      split
      · rename_i fr hb
        split
        · exact ⟨ok.t0, ok.t1, fine.q0, fine.q1, ls, lg, fun h => by cases h⟩
        · rename_i h18
          obtain ⟨fo, e1, e2⟩ := Option.bind_eq_some_iff.1 hb
          have ho : o.over = false := by
            cases e : o.over with
            | false => rfl
            | true => rw [hov e] at e1; cases e1
          refine ⟨ok.t0, ok.t1, fine.q0, fine.q1, ls, lg, fun _ => ⟨newFr_ok (hat fo e1).1 e2, fun f hf => ?_, by simp only [List.length_cons]; omega⟩⟩
          rcases List.mem_cons.1 hf with rfl | hf
          · exact fine.fr hg ho
          · exact k2 f hf
      · split
        · rename_i ho
          exact ⟨ok.t0, ok.t1, fine.q0, fine.q1, ls, lg, fun _ => ⟨fine.fr hg ho, k2, k3⟩⟩
        · split
          · exact ⟨ok.t0, ok.t1, fine.q0, fine.q1, ls, lg, fun h => by cases h⟩
          · rename_i r rs hr
            rw [hr] at k2 k3
            exact ⟨ok.t0, ok.t1, fine.q0, fine.q1, ls, lg, fun _ => ⟨k2 r (by simp), fun f hf => k2 f (List.mem_cons_of_mem _ hf), by simp only [List.length_cons] at k3; simp only; omega⟩⟩
end
end Go.Proofs.Ytbiappodepnbmaa
