/- Several texts in one, each under its own remark or none; nothing here is a statement on the program. -/
import Derived.Test.YtbiappodepnbmaaKB
namespace Go.Proofs.Ytbiappodepnbmaa
open Go GW Go.Proofs
set_option linter.unusedVariables false
set_option linter.unusedSimpArgs false
/-! ### accesses -/
def Ar.at (a : Ar) (i : Int) : Int := a.ws.getD i.toNat 0
def Ar.ld (a : Ar) (i : Int) : Ar := a.touch 0 i.toNat (a.at i) (a.at i)
def Ar.put (a : Ar) (i x : Int) : Ar := a.touch 1 i.toNat (a.at i) x
def Ar.cas (a : Ar) (i old new : Int) : Ar := a.touch 2 i.toNat (a.at i) (if a.at i = old then new else a.at i)
def arP (T : TypeId) (b : Nat) (a : Ar) : Part := fun h => arAt T h b a
/-- a number that a machine's word may hold -/
abbrev I64 (x : Int) : Prop := -9223372036854775808 ≤ x ∧ x ≤ 9223372036854775807
theorem Ar.ok.at {a : Ar} (o : a.ok) {i : Int} (h0 : 0 ≤ i) (h1 : i < 634) : a.ws[i.toNat]? = some (a.at i) ∧ I64 (a.at i) := by
  have hl : i.toNat < a.ws.length := by rw [o.words]; omega
  have e : a.ws[i.toNat]? = some (a.at i) := by
    unfold Ar.at
    rw [List.getD_eq_getElem?_getD, List.getElem?_eq_getElem hl]
    rfl
  exact ⟨e, o.range _ (List.mem_of_getElem? e)⟩
theorem Ar.at_range {a : Ar} (o : a.ok) (i : Int) : I64 (a.at i) := by
  unfold Ar.at
  rw [List.getD_eq_getElem?_getD]
  cases e : a.ws[i.toNat]? with
  | none => exact ⟨by decide, by decide⟩
  | some x => exact o.range _ (List.mem_of_getElem? e)
theorem Ar.ok.ld {a : Ar} (o : a.ok) (i : Int) : (a.ld i).ok := Ar.touch_ok o (Ar.at_range o i)
theorem Ar.ok.put {a : Ar} (o : a.ok) (i : Int) {x : Int} (hx : I64 x) : (a.put i x).ok := Ar.touch_ok o hx
theorem Ar.ok.cas {a : Ar} (o : a.ok) (i old : Int) {x : Int} (hx : I64 x) : (a.cas i old x).ok := by
  unfold Ar.cas
  refine Ar.touch_ok o ?_
  split
  · exact hx
  · exact Ar.at_range o i
theorem Ar.ld_ws {a : Ar} (o : a.ok) {i : Int} (h0 : 0 ≤ i) (h1 : i < 634) : (a.ld i).ws = a.ws := by
  have hl : i.toNat < a.ws.length := by rw [o.words]; omega
  have e := (o.at h0 h1).1
  unfold Ar.ld Ar.touch
  refine List.ext_getElem? fun j => ?_
  rw [List.getElem?_set]
  split
  · rename_i q; subst q; rw [e]
  · rfl
theorem arP.upd {T : TypeId} {b : Nat} {a a' : Ar} {l : List Part} {h : GH} (hp : All (arP T b a :: l) h) (o : a'.ok) : All (arP T b a' :: l) (upd h b (.row T a'.cells 643 true)) := by
  have : All (pts b (.row T a.cells 643 true) :: l) h := hp.head fun _ q => q.1
  exact this.upd0.head fun _ q => ⟨q, o⟩
theorem arP.at {T : TypeId} {b : Nat} {a : Ar} {l : List Part} {h : GH} (hp : All (arP T b a :: l) h) : arAt T h b a := by
  obtain ⟨h1, _, _, l1, _, q, _⟩ := hp
  exact ⟨l1 _ _ q.1, q.2⟩
theorem L_Load {b : Nat} {i : Int} {a : Ar} {R : List Part} {h : GH} {K : Value → GH → Prop} (hp : All (arP 84 b a :: R) h) (h0 : 0 ≤ i) (h1 : i < 634)
    (hK : ∀ h', All (arP 84 b (a.ld i) :: R) h' → K (.tuple #[i64 (a.at i), i64 0]) h') : T Try.prog 32 [.pointer (some ⟨b, 0, none⟩), i64 i] h K := by
  have ha := arP.at hp
  have e : i = (i.toNat : Int) := by omega
  rw [e]
  refine T_Load ha (ha.2.at h0 h1).1 (hK _ (arP.upd hp (ha.2.ld i)))
theorem L_Store {b : Nat} {i x : Int} {a : Ar} {R : List Part} {h : GH} {K : Value → GH → Prop} (hp : All (arP 84 b a :: R) h) (h0 : 0 ≤ i) (h1 : i < 634) (hx : I64 x)
    (hK : ∀ h', All (arP 84 b (a.put i x) :: R) h' → K (.tuple #[i64 (a.at i), i64 0]) h') : T Try.prog 12 [.pointer (some ⟨b, 0, none⟩), i64 i, i64 x] h K := by
  have ha := arP.at hp
  have e : i = (i.toNat : Int) := by omega
  rw [e]
  exact T_Store ha (ha.2.at h0 h1).1 hx (hK _ (arP.upd hp (ha.2.put i hx)))
theorem L_Swap {b : Nat} {i old x : Int} {a : Ar} {R : List Part} {h : GH} {K : Value → GH → Prop} (hp : All (arP 84 b a :: R) h) (h0 : 0 ≤ i) (h1 : i < 634) (hx : I64 x)
    (hK : ∀ h', All (arP 84 b (a.cas i old x) :: R) h' → K (.tuple #[i64 (a.at i), i64 0]) h') : T Try.prog 83 [.pointer (some ⟨b, 0, none⟩), i64 i, i64 old, i64 x] h K := by
  have ha := arP.at hp
  have e : i = (i.toNat : Int) := by omega
  rw [e]
  exact T_Swap ha (ha.2.at h0 h1).1 hx (hK _ (arP.upd hp (ha.2.cas i old hx)))
theorem L_Load' {b : Nat} {i i' : Int} {a : Ar} {R : List Part} {h : GH} {K : Value → GH → Prop} (hp : All (arP 84 b a :: R) h) (ei : i' = i) (h0 : 0 ≤ i) (h1 : i < 634)
    (hK : ∀ h', All (arP 84 b (a.ld i) :: R) h' → K (.tuple #[i64 (a.at i), i64 0]) h') : T Try.prog 32 [.pointer (some ⟨b, 0, none⟩), i64 i'] h K := by
  subst ei; exact L_Load hp h0 h1 hK
theorem L_refStore {b : Nat} {i x : Int} {a : Ar} {R : List Part} {h : GH} {K : Value → GH → Prop} (hp : All (arP 77 b a :: R) h) (h0 : 0 ≤ i) (h1 : i < 634) (hx : I64 x)
    (hK : ∀ h', All (arP 77 b (a.put i x) :: R) h' → K (.tuple #[i64 (a.at i), i64 0]) h') : T Try.prog 13 [.pointer (some ⟨b, 0, none⟩), i64 i, i64 x] h K := by
  have ha := arP.at hp
  have e : i = (i.toNat : Int) := by omega
  rw [e]
  exact T_refStore ha (ha.2.at h0 h1).1 (hK _ (arP.upd hp (ha.2.put i hx)))
/-! ### the frames -/
def baseOf (s : Int) : Int := 34 + s * 50
def stateW (g st : Int) : Int := (g * 4 + st) * 4
structure Wh where
  s : Int
  g : Int
  pc : Nat
  i : Int
  k : Int
  cell : Int
  was : Int
  put : Int
  x : Int
  opn : Bool
  won : Bool
structure En where
  s : Int
  g : Int
  e : Int
  t : Int
  q : Int
  pc : Nat
  cell : Int
  was : Int
  opn : Bool
inductive Fr where
  | who (w : Wh)
  | ent (f : En)
def Fr.s : Fr → Int | .who w => w.s | .ent f => f.s
def Fr.g : Fr → Int | .who w => w.g | .ent f => f.g
def Fr.won : Fr → Bool | .who w => w.won | .ent _ => false
def Wh.new (s g : Int) : Wh := ⟨s, g, 1, 0, 0, 0, 0, 0, 0, false, false⟩
def En.new (s g e t q : Int) : En := ⟨s, g, e, t, q, 0, 0, 0, false⟩
def newFr : Form → Option Fr
  | .val _ => none
  | .mcas s g => some (.who (.new s g))
  | .entry s g e t q => some (.ent (.new s g e t q))
/-- what a step of a frame gives -/
structure Out where
  fr : Fr
  atop : Option Form
  over : Bool
  good : Bool
  a : Ar
  q : Int
def valOf (x : Int) : Int := (plainOf x).getD 0
def isVal (x most : Int) : Bool := (plainOf x).isSome && decide (valOf x ≤ most)
def Wh.next (w : Wh) (more stop : Nat) : Wh := { w with i := w.i + 1, pc := if w.k ≤ w.i + 1 then stop else more }
def Wh.mine (w : Wh) : Int := (Form.mcas w.s w.g).number
def Wh.swapIn (t q : Int) (w : Wh) (a : Ar) : Out :=
  let p := (Form.entry w.s w.g w.i t q).number
  let q' := (q + 1) % 1048576
  let a' := a.cas w.cell w.was p
  let x := a.at w.cell
  let w' := { w with put := p }
  if x = w.was then ⟨.who { w' with pc := 6 }, none, false, true, a', q'⟩ else
  match read x with
  | none => ⟨.who w', none, false, false, a', q'⟩
  | some (.val _) => ⟨.who { w' with pc := 9 }, none, false, true, a', q'⟩
  | some (.entry s g e t q) => ⟨.who w', some (.entry s g e t q), false, true, a', q'⟩
  | some (.mcas s g) => if s = w.s ∧ g = w.g then ⟨.who (w'.next 3 8), none, false, true, a', q'⟩ else ⟨.who { w' with x := x, pc := 14 }, none, false, true, a', q'⟩
def Wh.step (t q : Int) (w : Wh) (a : Ar) : Out :=
  let b := baseOf w.s
  let x := a.at b
  let o : Bool := decide (x = stateW w.g 0)
  let n : Bool := decide (x = stateW w.g 1)
  let is : Bool := (plainOf x).isSome
  match w.pc with
  | 2 => let x := a.at (b + 1); ⟨.who { w with k := valOf x, i := 0, pc := if valOf x = 0 then 8 else 3 }, none, false, isVal x 16, a.ld (b + 1), q⟩
  | 3 => let j := b + (2 + 3 * w.i + 0); ⟨.who { w with cell := valOf (a.at j), pc := 4 }, none, false, isVal (a.at j) 15, a.ld j, q⟩
  | 4 => let j := b + (2 + 3 * w.i + 1); ⟨.who { w with was := valOf (a.at j) * 4, pc := 5 }, none, false, isVal (a.at j) 1099511627775, a.ld j, q⟩
  | 5 => w.swapIn t q a
  | 6 => ⟨.who { w with opn := o, won := n, pc := 7 }, none, false, is, a.ld b, q⟩
  | 7 => ⟨.who (w.next 3 8), none, false, true, a.cas w.cell w.put (if w.opn then w.mine else w.was), q⟩
  | 8 => ⟨.who { w with pc := 1 }, none, false, true, a.cas b (stateW w.g 0) (stateW w.g 1), q⟩
  | 9 => ⟨.who { w with pc := 1 }, none, false, true, a.cas b (stateW w.g 0) (stateW w.g 2), q⟩
  | 10 => let x := a.at (b + 1); ⟨.who { w with k := valOf x, i := 0, pc := 11 }, none, decide (valOf x = 0), isVal x 16, a.ld (b + 1), q⟩
  | 11 => let j := b + (2 + 3 * w.i + 0); ⟨.who { w with cell := valOf (a.at j), pc := 12 }, none, false, isVal (a.at j) 15, a.ld j, q⟩
  | 12 => let j := b + (2 + 3 * w.i + if w.won then 2 else 1); ⟨.who { w with x := valOf (a.at j) * 4, pc := 13 }, none, false, isVal (a.at j) 1099511627775, a.ld j, q⟩
  | 13 => ⟨.who (w.next 11 0), none, decide (w.k ≤ w.i + 1), true, a.cas w.cell w.mine w.x, q⟩
  | 14 => if o then ⟨.who { w with opn := o, won := n, pc := 5 }, read w.x, false, is, a.ld b, q⟩ else ⟨.who { w with opn := o, won := n, pc := 10 }, none, false, is, a.ld b, q⟩
  | _ => ⟨.who { w with opn := o, won := n, pc := if o then 2 else 10 }, none, false, is, a.ld b, q⟩
def En.step (q : Int) (f : En) (a : Ar) : Out :=
  let b := baseOf f.s
  match f.pc with
  | 0 => let j := b + (2 + 3 * f.e + 0); ⟨.ent { f with cell := valOf (a.at j), pc := 1 }, none, false, isVal (a.at j) 15, a.ld j, q⟩
  | 1 => let j := b + (2 + 3 * f.e + 1); ⟨.ent { f with was := valOf (a.at j) * 4, pc := 2 }, none, false, isVal (a.at j) 1099511627775, a.ld j, q⟩
  | 2 => ⟨.ent { f with opn := decide (a.at b = stateW f.g 0), pc := 3 }, none, false, (plainOf (a.at b)).isSome, a.ld b, q⟩
  | _ => ⟨.ent { f with pc := 4 }, none, true, true, a.cas f.cell (Form.entry f.s f.g f.e f.t f.q).number (if f.opn then (Form.mcas f.s f.g).number else f.was), q⟩
def Fr.step (t q : Int) (f : Fr) (a : Ar) : Out := match f with | .who w => w.step t q a | .ent f => f.step q a
structure Help where
  t : Int
  q : Int
  rest : List Fr
  top : Fr
  slot : Int
  gen : Int
  won : Bool
  over : Bool
def Help.new (t q : Int) (f : Fr) : Help := ⟨t, q, [], f, -1, 0, false, false⟩
/-- a step that a frame's own step calls for -/
def Help.take (H : Help) (o : Out) : Help × Int :=
  let H1 : Help := { H with q := o.q, top := o.fr, slot := H.top.s, gen := H.top.g }
  if o.good = false then ({ H1 with over := true }, 1400) else
  match o.atop.bind newFr with
  | some f => if 18 ≤ H.rest.length + 1 then ({ H1 with over := true }, 1400) else ({ H1 with rest := o.fr :: H.rest, top := f }, 0)
  | none =>
    if o.over = false then (H1, 0) else
    match H.rest with
    | [] => ({ H1 with won := o.fr.won, over := true }, 0)
    | r :: rs => ({ H1 with rest := rs, top := r, won := false }, 0)
def Help.step (H : Help) (a : Ar) : Help × Int × Ar :=
  if H.over then (H, 0, a) else
  let o := H.top.step H.t H.q a
  ((H.take o).1, (H.take o).2, o.a)
/-! ### what the frames keep to -/
structure Life (s g : Int) : Prop where
  s0 : 0 ≤ s
  s1 : s < 12
  g0 : 0 ≤ g
  g1 : g < 65536
def isMcas (x : Int) : Prop := ∃ s g, read x = some (.mcas s g)
structure Wh.ok (w : Wh) : Prop where
  life : Life w.s w.g
  i0 : 0 ≤ w.i
  i1 : w.i ≤ 16
  i2 : w.pc ≠ 1 → w.pc ≠ 2 → w.pc ≠ 8 → w.pc ≠ 10 → w.i < 16
  k1 : w.k ≤ 16
  k0 : I64 w.k
  c0 : 0 ≤ w.cell
  c1 : w.cell < 16
  was : I64 w.was
  put : I64 w.put
  x : I64 w.x
  pc1 : w.pc ≤ 14
  pc0 : 1 ≤ w.pc
  ref : w.pc = 14 → isMcas w.x
structure En.ok (f : En) : Prop where
  life : Life f.s f.g
  e0 : 0 ≤ f.e
  e1 : f.e < 16
  t0 : 0 ≤ f.t
  t1 : f.t < 4
  q0 : 0 ≤ f.q
  q1 : f.q < 1048576
  c0 : 0 ≤ f.cell
  c1 : f.cell < 16
  was : I64 f.was
  pc1 : f.pc ≤ 3
def Fr.ok : Fr → Prop | .who w => w.ok | .ent f => f.ok
structure Help.ok (H : Help) : Prop where
  t0 : 0 ≤ H.t
  t1 : H.t < 4
  q0 : 0 ≤ H.q
  q1 : H.q < 1048576
  slot : I64 H.slot
  gen : I64 H.gen
  frames : H.over = false → H.top.ok ∧ (∀ f ∈ H.rest, f.ok) ∧ H.rest.length < 18
end Go.Proofs.Ytbiappodepnbmaa
namespace Go.Proofs.Ytbiappodepnbmaa
open Go GW Go.Proofs
attribute [local irreducible] bnd ldV stV ifV binV eqI
set_option linter.unusedVariables false
set_option linter.unusedSimpArgs false
set_option maxRecDepth 20000
theorem T_Base {s : Int} {h : GH} {K : Value → GH → Prop} (h0 : 0 ≤ s) (h1 : s < 12) (hK : K (i64 (baseOf s)) h) : T Try.prog 86 [i64 s] h K := by
  apply S86_T
  unfold S86
  refine bnd_of (mul_id (by omega) (by omega)) (bnd_of (add_id (by omega) (by omega)) hK)
theorem T_State {g st : Int} {h : GH} {K : Value → GH → Prop} (h0 : 0 ≤ g) (h1 : g < 65536) (h2 : 0 ≤ st) (h3 : st < 4) (hK : K (i64 (stateW g st)) h) : T Try.prog 87 [i64 g, i64 st] h K := by
  apply S87_T
  unfold S87
  refine bnd_of (mul_id (by omega) (by omega)) (bnd_of (add_id (by omega) (by omega)) (T_Of (by omega) (by omega) hK))
theorem valOf_le {x : Int} (h : I64 x) : 0 ≤ valOf x ∧ valOf x < 1099511627776 := by
  unfold valOf plainOf
  split
  · rename_i v e
    have := (number_of_read e).1
    rw [may_val] at this
    exact this
  · exact ⟨by decide, by decide⟩
/-- the first cells of a frame -/
abbrev heldRow (T : TypeId) (s g cell was : Int) (opn won : Bool) (rest : List Value) (sz : Nat) : GObj := .row T ([i64 s, i64 g, i64 cell, i64 was, .bool opn, .bool won] ++ rest) sz true
section
variable {a f sz : Nat} {A : Ar} {s g cell was : Int} {opn won : Bool} {rest : List Value} {TT : TypeId} {R : List Part} {h : GH} {K : Value → GH → Prop}
theorem T_hLoad {at_ most : Int} (hp : All (arP 84 a A :: pts f (heldRow TT s g cell was opn won rest sz) :: R) h) (hs : 0 ≤ s ∧ s < 12) (h0 : 0 ≤ at_) (h1 : at_ < 50)
    (hK : ∀ h', All (arP 84 a (A.ld (baseOf s + at_)) :: pts f (heldRow TT s g cell was opn won rest sz) :: R) h' → K (.tuple #[i64 (valOf (A.at (baseOf s + at_))), .bool (isVal (A.at (baseOf s + at_)) most)]) h') : T Try.prog 85 [.pointer (some ⟨f, 0, none⟩), .pointer (some ⟨a, 0, none⟩), i64 at_, i64 most] h K := by
  apply S85_T
  unfold S85
  have hb : baseOf s = 34 + s * 50 := rfl
  (repeat first|refine wx ?_|refine wy ?_|refine wz ?_|refine wv ?_|refine wh ?_)
  refine T_Base hs.1 hs.2 (bnd_of (add_id (by omega) (by omega)) ?_)
  have o := (arP.at hp).2
  refine L_Load hp (by omega) (by omega) fun h1 hp => ?_
  (repeat first|refine wx ?_|refine wy ?_|refine wz ?_|refine wv ?_|refine wh ?_)
  refine T_Plain (Ar.at_range o _).2 ?_
  refine bnd_of rfl (bnd_of rfl ?_)
  refine ifV_bool (fun q => bnd_of (binV_leq _ _ _) ?_) (fun q => ?_)
  · have := hK _ hp
    unfold isVal at this
    rw [q, Bool.true_and] at this
    exact this
  · have := hK _ hp
    unfold isVal at this
    rw [q, Bool.false_and] at this
    exact this
theorem T_part {e p : Int} (hp : All (arP 84 a A :: pts f (heldRow TT s g cell was opn won rest sz) :: R) h) (hs : 0 ≤ s ∧ s < 12) (h0 : 0 ≤ e) (h1 : e < 16) (h2 : 0 ≤ p) (h3 : p < 3)
    (hK : ∀ h', All (arP 84 a (A.ld (baseOf s + (2 + 3 * e + p))) :: pts f (heldRow TT s g cell was opn won rest sz) :: R) h' → K (.tuple #[i64 (valOf (A.at (baseOf s + (2 + 3 * e + p)))), .bool (isVal (A.at (baseOf s + (2 + 3 * e + p))) (if p = 0 then 15 else 1099511627775))]) h') : T Try.prog 82 [.pointer (some ⟨f, 0, none⟩), .pointer (some ⟨a, 0, none⟩), i64 e, i64 p] h K := by
  apply S82_T
  unfold S82
  refine bnd_of (eqI_int _ _ _) (ifV_cases (fun q => ?_) fun q => ?_)
  · unfold S82_j1
    refine bnd_of (mul_id (by omega) (by omega)) (bnd_of (add_id (by omega) (by omega)) (bnd_of (add_id (by omega) (by omega)) (T_hLoad hp hs (by omega) (by omega) fun h' hp => ?_)))
    have := hK _ hp
    rw [if_pos q] at this
    exact bnd_of rfl (bnd_of rfl this)
  · unfold S82_j1
    refine bnd_of (mul_id (by omega) (by omega)) (bnd_of (add_id (by omega) (by omega)) (bnd_of (add_id (by omega) (by omega)) (T_hLoad hp hs (by omega) (by omega) fun h' hp => ?_)))
    have := hK _ hp
    rw [if_neg q] at this
    exact bnd_of rfl (bnd_of rfl this)
theorem T_takeCell {e : Int} (hp : All (arP 84 a A :: pts f (heldRow TT s g cell was opn won rest sz) :: R) h) (hs : 0 ≤ s ∧ s < 12) (h0 : 0 ≤ e) (h1 : e < 16)
    (hK : ∀ h', All (arP 84 a (A.ld (baseOf s + (2 + 3 * e + 0))) :: pts f (heldRow TT s g (valOf (A.at (baseOf s + (2 + 3 * e + 0)))) was opn won rest sz) :: R) h' → K (.bool (isVal (A.at (baseOf s + (2 + 3 * e + 0))) 15)) h') : T Try.prog 77 [.pointer (some ⟨f, 0, none⟩), .pointer (some ⟨a, 0, none⟩), i64 e] h K := by
  apply S77_T
  unfold S77
  refine T_part hp hs h0 h1 (by decide) (by decide) fun h' hp => ?_
  refine bnd_of rfl (bnd_of rfl (bnd_of rfl (bnd_of rfl (st1 hp _ rfl (by simp) rfl rfl fun h' hp => ?_))))
  exact hK _ hp
theorem T_takeWas {e : Int} (hp : All (arP 84 a A :: pts f (heldRow TT s g cell was opn won rest sz) :: R) h) (hs : 0 ≤ s ∧ s < 12) (h0 : 0 ≤ e) (h1 : e < 16) (hA : A.ok)
    (hK : ∀ h', All (arP 84 a (A.ld (baseOf s + (2 + 3 * e + 1))) :: pts f (heldRow TT s g cell (if isVal (A.at (baseOf s + (2 + 3 * e + 1))) 1099511627775 = true then valOf (A.at (baseOf s + (2 + 3 * e + 1))) * 4 else was) opn won rest sz) :: R) h' → K (.bool (isVal (A.at (baseOf s + (2 + 3 * e + 1))) 1099511627775)) h') : T Try.prog 78 [.pointer (some ⟨f, 0, none⟩), .pointer (some ⟨a, 0, none⟩), i64 e] h K := by
  apply S78_T
  unfold S78
  refine T_part hp hs h0 h1 (by decide) (by decide) fun h' hp => ?_
  have hv := valOf_le (Ar.at_range hA (baseOf s + (2 + 3 * e + 1)))
  refine bnd_of rfl (bnd_of rfl (ifV_bool (fun q => ?_) fun q => ?_))
  · refine T_Of (by omega) (by omega) (bnd_of rfl (bnd_of rfl (st1 hp _ rfl (by simp) rfl rfl fun h' hp => ?_)))
    rw [if_neg (by decide)] at q ⊢
    rw [if_pos q] at hK
    exact hK _ hp
  · rw [if_neg (by decide)] at q ⊢
    rw [if_neg (by rw [q]; decide)] at hK
    exact hK _ hp
theorem T_decision (hp : All (arP 84 a A :: pts f (heldRow TT s g cell was opn won rest sz) :: R) h) (hs : Life s g) (hA : A.ok)
    (hK : ∀ h', All (arP 84 a (A.ld (baseOf s)) :: pts f (heldRow TT s g cell was (decide (A.at (baseOf s) = stateW g 0)) (decide (A.at (baseOf s) = stateW g 1)) rest sz) :: R) h' → K (.bool (plainOf (A.at (baseOf s))).isSome) h') : T Try.prog 79 [.pointer (some ⟨f, 0, none⟩), .pointer (some ⟨a, 0, none⟩)] h K := by
  apply S79_T
  unfold S79
  have hb : baseOf s = 34 + s * 50 := rfl
  have h0 := hs.s0
  have h1 := hs.s1
  (repeat first|refine wx ?_|refine wy ?_|refine wz ?_|refine wv ?_|refine wh ?_)
  refine T_Base hs.s0 hs.s1 (L_Load hp (by omega) (by omega) fun h1 hp => ?_)
  (repeat first|refine wx ?_|refine wy ?_|refine wz ?_|refine wv ?_|refine wh ?_)
  refine T_Plain (Ar.at_range hA _).2 ?_
  (repeat first|refine wx ?_|refine wy ?_|refine wz ?_|refine wv ?_|refine wh ?_)
  refine T_State hs.g0 hs.g1 (by decide) (by decide) (bnd_of (eqI_int _ _ _) ?_)
  refine bnd_of rfl (bnd_of rfl (st1 hp (heldRow TT s g cell was (decide (A.at (baseOf s) = stateW g 0)) won rest sz) rfl (by simp) rfl rfl fun h' hp => ?_))
  (repeat first|refine wx ?_|refine wy ?_|refine wz ?_|refine wv ?_|refine wh ?_)
  refine T_State hs.g0 hs.g1 (by decide) (by decide) (bnd_of (eqI_int _ _ _) ?_)
  refine bnd_of rfl (bnd_of rfl (st1 hp (heldRow TT s g cell was (decide (A.at (baseOf s) = stateW g 0)) (decide (A.at (baseOf s) = stateW g 1)) rest sz) rfl (by simp) rfl rfl fun h' hp => ?_))
  exact hK _ hp
theorem T_settle {put : Int} (hp : All (arP 84 a A :: pts f (heldRow TT s g cell was opn won rest sz) :: R) h) (hs : Life s g) (hc0 : 0 ≤ cell) (hc1 : cell < 16) (hw : I64 was)
    (hK : ∀ h', All (arP 84 a (A.cas cell put (if opn then (Form.mcas s g).number else was)) :: pts f (heldRow TT s g cell was opn won rest sz) :: R) h' → K (.tuple #[]) h') : T Try.prog 80 [.pointer (some ⟨f, 0, none⟩), .pointer (some ⟨a, 0, none⟩), i64 put] h K := by
  apply S80_T
  unfold S80
  have hn : I64 (Form.mcas s g).number := by
    have := hs.s0; have := hs.s1; have := hs.g0; have := hs.g1
    simp only [Form.number]; constructor <;> omega
  (repeat first|refine wx ?_|refine wy ?_|refine wz ?_|refine wv ?_|refine wh ?_)
  refine ifV_bool (fun q => ?_) fun q => ?_
  · refine bnd_of rfl (bnd_of rfl (la1 hp (c := [i64 s, i64 g]) (by simp [heldRow]) rfl (T_Number_mcas ⟨hs.s0, hs.s1, hs.g0, hs.g1⟩ ?_)))
    unfold S80_j1
    (repeat first|refine wx ?_|refine wy ?_|refine wz ?_|refine wv ?_|refine wh ?_)
    refine L_Swap hp (by omega) (by omega) hn fun h' hp => ?_
    rw [if_pos q] at hK
    exact hK _ hp
  · unfold S80_j1
    (repeat first|refine wx ?_|refine wy ?_|refine wz ?_|refine wv ?_|refine wh ?_)
    refine L_Swap hp (by omega) (by omega) hw fun h' hp => ?_
    rw [if_neg (by rw [q]; decide)] at hK
    exact hK _ hp
end
end Go.Proofs.Ytbiappodepnbmaa
namespace Go.Proofs.Ytbiappodepnbmaa
open Go GW Go.Proofs
attribute [local irreducible] bnd ldV stV ifV binV eqI
set_option linter.unusedVariables false
set_option linter.unusedSimpArgs false
set_option maxRecDepth 20000
abbrev ptr (b : Nat) : Value := .pointer (some ⟨b, 0, none⟩)
abbrev whRow (w : Wh) (hd : Nat) (oth : Value) (to : Int) : GObj := heldRow 111 w.s w.g w.cell w.was w.opn w.won [ptr hd, i64 w.pc, i64 w.i, i64 w.k, i64 w.put, oth, i64 to] 13
abbrev enRow (f : En) (won : Bool) : GObj := heldRow 118 f.s f.g f.cell f.was f.opn won [i64 f.s, i64 f.g, i64 f.e, i64 f.t, i64 f.q, i64 f.pc] 12
abbrev hdRow (t q : Int) (rest : List Value) : GObj := .row 96 ([i64 t, i64 q] ++ rest) 6 true
def othP (hd : Nat) (oth : Value) (x : Int) : Part := fun h => ∃ c s g, (oth = .iface 106 (ptr c) ∧ read x = some (.mcas s g)) ∧ pts c (whRow (Wh.new s g) hd .nilIface 0) h
def whP (hd b : Nat) (w : Wh) : Part := fun h => ∃ (oth : Value) (to : Int), (oneCell oth = true ∧ (w.pc = 13 → w.x = to * 4 ∧ 0 ≤ to ∧ to < 1099511627776)) ∧ All [pts b (whRow w hd oth to), fun h => w.pc = 14 → othP hd oth w.x h] h
theorem whP_of {hd b : Nat} {w : Wh} {oth : Value} {to : Int} {h : GH} (p : pts b (whRow w hd oth to) h) (o : oneCell oth = true) (h13 : w.pc = 13 → w.x = to * 4 ∧ 0 ≤ to ∧ to < 1099511627776) (h14 : w.pc ≠ 14) : whP hd b w h :=
  ⟨oth, to, ⟨o, h13⟩, All.two p fun q => absurd q h14⟩
def frP (hd : Nat) (v : Value) : Fr → Part
  | .who w => fun h => ∃ b, v = .iface 106 (ptr b) ∧ whP hd b w h
  | .ent f => fun h => ∃ b, v = .iface 116 (ptr b) ∧ ∃ won, pts b (enRow f won) h
def atP (hd : Nat) (v : Value) : Option Fr → Part
  | none => fun _ => v = .nilIface
  | some f => frP hd v f
theorem eqMcas (s g s' g' : Int) : eqP Try.prog 10000 102 (.agg [i64 s, i64 g].toArray) (.agg [i64 s', i64 g'].toArray) = some (decide (s = s' ∧ g = g')) := by
  have h : eqP Try.prog 10000 102 (.agg [i64 s, i64 g].toArray) (.agg [i64 s', i64 g'].toArray) = some ((s == s') && ((g == g') && true)) := by kernel_rfl
  rw [h, Bool.and_true, Bool.decide_and, Bool.beq_eq_decide_eq, Bool.beq_eq_decide_eq]
section
variable {a b hd : Nat} {A : Ar} {w : Wh} {oth : Value} {to : Int} {R : List Part} {h : GH} {K : Value → GH → Prop}
theorem T_hnext {t q : Int} {rest : List Value} (hp : All (pts hd (hdRow t q rest) :: R) h) (q0 : 0 ≤ q) (q1 : q < 1048576)
    (hK : ∀ h', All (pts hd (hdRow t ((q + 1) % 1048576) rest) :: R) h' → K (i64 q) h') : T Try.prog 69 [ptr hd] h K := by
  apply S69_T
  unfold S69
  (repeat first|refine wx ?_|refine wy ?_|refine wz ?_|refine wv ?_|refine wh ?_)
  refine bnd_of (rem_nn (by omega) (by decide)) ?_
  (repeat first|refine wx ?_|refine wy ?_|refine wz ?_|refine wv ?_|refine wh ?_)
  exact st0 hp _ rfl (by simp) rfl rfl fun h' hp => hK _ hp
theorem T_wnext {more stop : Nat} (hp : All (pts b (whRow w hd oth to) :: R) h) (i0 : 0 ≤ w.i) (i1 : w.i ≤ 16) (hm : more ≠ stop)
    (hK : ∀ h', All (pts b (whRow (w.next more stop) hd oth to) :: R) h' → K (.bool (decide (w.k ≤ w.i + 1))) h') : T Try.prog 70 [ptr b, i64 more, i64 stop] h K := by
  apply S70_T
  unfold S70
  (repeat first|refine wx ?_|refine wy ?_|refine wz ?_|refine wv ?_|refine wh ?_)
  refine st0 hp (whRow { w with i := w.i + 1 } hd oth to) rfl (by simp) rfl rfl fun h' hp => ?_
  (repeat first|refine wx ?_|refine wy ?_|refine wz ?_|refine wv ?_|refine wh ?_)
  refine st0 hp (whRow { w with i := w.i + 1, pc := more } hd oth to) rfl (by simp) rfl rfl fun h' hp => ?_
  (repeat first|refine wx ?_|refine wy ?_|refine wz ?_|refine wv ?_|refine wh ?_)
  refine ifV_cases (fun q => ?_) fun q => ?_
  · (repeat first|refine wx ?_|refine wy ?_|refine wz ?_|refine wv ?_|refine wh ?_)
    refine st0 hp (whRow { w with i := w.i + 1, pc := stop } hd oth to) rfl (by simp) rfl rfl fun h' hp => ?_
    (repeat first|refine wx ?_|refine wy ?_|refine wz ?_|refine wv ?_|refine wh ?_)
    have e : w.next more stop = { w with i := w.i + 1, pc := stop } := by unfold Wh.next; rw [if_pos q]
    rw [e, decide_eq_true q] at hK
    rw [decide_eq_true rfl]
    exact hK _ hp
  · (repeat first|refine wx ?_|refine wy ?_|refine wz ?_|refine wv ?_|refine wh ?_)
    have e : w.next more stop = { w with i := w.i + 1, pc := more } := by unfold Wh.next; rw [if_neg q]
    have q' : ¬ (w.k ≤ w.i + 1) := q
    rw [e, decide_eq_false q'] at hK
    rw [decide_eq_false (show ¬ ((more : Int) = stop) by omega)]
    exact hK _ hp
theorem T_framedM {s g : Int} (hp : All R h) (hK : ∀ c h', All (pts c (whRow (Wh.new s g) hd .nilIface 0) :: R) h' → K (.iface 106 (ptr c)) h') : T Try.prog 42 [formV (some (.mcas s g)), ptr hd] h K := by
  apply S42_T
  unfold S42
  (repeat first|refine wx ?_|refine wy ?_|refine wz ?_|refine wv ?_|refine wh ?_)
  refine nwst hp (.row 102 [i64 s, i64 g] 2 true) rfl rfl rfl (by rfl) fun c h' hp => ?_
  refine la0 hp (c := [i64 s, i64 g]) (by simp) rfl ?_
  (repeat first|refine wx ?_|refine wy ?_|refine wz ?_|refine wv ?_|refine wh ?_)
  refine nw hp (whRow (Wh.new s g) hd .nilIface 0) rfl fun c h' hp => ?_
  exact hK _ _ (All.mono2 hp fun _ q => q.tail)
theorem T_framed {fo : Option Form} (hp : All R h) (hK : ∀ v h', All (atP hd v (fo.bind newFr) :: R) h' → K v h') : T Try.prog 42 [formV fo, ptr hd] h K := by
  cases fo with
  | none => apply S42_T; unfold S42; (repeat first|refine wx ?_|refine wy ?_|refine wz ?_|refine wv ?_|refine wh ?_); exact hK _ _ (hp.emp_cons rfl)
  | some f =>
    cases f with
    | val v => apply S42_T; unfold S42; (repeat first|refine wx ?_|refine wy ?_|refine wz ?_|refine wv ?_|refine wh ?_); exact hK _ _ (hp.emp_cons rfl)
    | mcas s g =>
      exact T_framedM hp fun c h' hp => hK _ _ (hp.head fun h1 q => ⟨c, rfl, whP_of q rfl (fun q => by cases q) (fun q => by cases q)⟩)
    | entry s g e t q =>
      apply S42_T; unfold S42
      (repeat first|refine wx ?_|refine wy ?_|refine wz ?_|refine wv ?_|refine wh ?_)
      refine nwst hp (.row 114 [i64 s, i64 g, i64 e, i64 t, i64 q] 5 true) rfl rfl rfl (by rfl) fun c h' hp => ?_
      (repeat first|refine wx ?_|refine wy ?_|refine wz ?_|refine wv ?_|refine wh ?_)
      refine la0 hp (c := [i64 s, i64 g]) (by simp) rfl ?_
      (repeat first|refine wx ?_|refine wy ?_|refine wz ?_|refine wv ?_|refine wh ?_)
      refine la0 hp (c := [i64 s, i64 g, i64 e, i64 t, i64 q]) (by simp) rfl ?_
      (repeat first|refine wx ?_|refine wy ?_|refine wz ?_|refine wv ?_|refine wh ?_)
      refine nw hp (enRow (En.new s g e t q) false) rfl fun c h' hp => ?_
      exact hK _ _ ((All.mono2 hp fun _ q => q.tail).head fun h1 q => ⟨c, rfl, false, q⟩)
end
end Go.Proofs.Ytbiappodepnbmaa
namespace Go.Proofs.Ytbiappodepnbmaa
open Go GW Go.Proofs
attribute [local irreducible] bnd ldV stV ifV binV eqI
set_option linter.unusedVariables false
set_option linter.unusedSimpArgs false
set_option maxRecDepth 20000
def frB (hd b : Nat) : Fr → Part
  | .who w => whP hd b w
  | .ent f => fun h => ∃ won, pts b (enRow f won) h
def frT : Fr → TypeId
  | .who _ => 106
  | .ent _ => 116
theorem frP_iff {hd : Nat} {v : Value} {f : Fr} {h : GH} : frP hd v f h ↔ ∃ b, v = .iface (frT f) (ptr b) ∧ frB hd b f h := by
  cases f <;> exact Iff.rfl
theorem stateW_range {g st : Int} (h0 : 0 ≤ g) (h1 : g < 65536) (h2 : 0 ≤ st) (h3 : st < 4) : I64 (stateW g st) := by
  unfold stateW; constructor <;> omega
section
variable {a b hd : Nat} {A : Ar} {w : Wh} {oth : Value} {to : Int} {R : List Part} {h : GH} {K : Value → GH → Prop}
theorem T_decide {st : Int} (hp : All (arP 84 a A :: pts b (whRow w hd oth to) :: R) h) (hs : Life w.s w.g) (h0 : 0 ≤ st) (h1 : st < 4)
    (hK : ∀ h', All (arP 84 a (A.cas (baseOf w.s) (stateW w.g 0) (stateW w.g st)) :: pts b (whRow { w with pc := 1 } hd oth to) :: R) h' → K (.tuple #[]) h') : T Try.prog 81 [ptr b, ptr a, i64 st] h K := by
  apply S81_T
  unfold S81
  have hb : baseOf w.s = 34 + w.s * 50 := rfl
  have s0 := hs.s0
  have s1 := hs.s1
  (repeat first|refine wx ?_|refine wy ?_|refine wz ?_|refine wv ?_|refine wh ?_)
  refine T_Base s0 s1 ?_
  (repeat first|refine wx ?_|refine wy ?_|refine wz ?_|refine wv ?_|refine wh ?_)
  refine T_State hs.g0 hs.g1 (by decide) (by decide) ?_
  (repeat first|refine wx ?_|refine wy ?_|refine wz ?_|refine wv ?_|refine wh ?_)
  refine T_State hs.g0 hs.g1 h0 h1 ?_
  refine L_Swap hp (by omega) (by omega) (stateW_range hs.g0 hs.g1 h0 h1) fun h' hp => ?_
  (repeat first|refine wx ?_|refine wy ?_|refine wz ?_|refine wv ?_|refine wh ?_)
  exact st1 hp (whRow { w with pc := 1 } hd oth to) rfl (by simp) rfl rfl fun h' hp => hK _ hp
theorem T_counted (hp : All (arP 84 a A :: pts b (whRow w hd oth to) :: R) h) (hs : Life w.s w.g) (hpc : w.pc ≤ 14)
    (hK : ∀ h', All (arP 84 a (A.ld (baseOf w.s + 1)) :: pts b (whRow { w with k := valOf (A.at (baseOf w.s + 1)), i := 0, pc := w.pc + 1 } hd oth to) :: R) h' → K (.tuple #[.bool (decide (valOf (A.at (baseOf w.s + 1)) = 0)), .bool (isVal (A.at (baseOf w.s + 1)) 16)]) h') : T Try.prog 76 [ptr b, ptr a] h K := by
  apply S76_T
  unfold S76
  (repeat first|refine wx ?_|refine wy ?_|refine wz ?_|refine wv ?_|refine wh ?_)
  refine T_hLoad hp ⟨hs.s0, hs.s1⟩ (by decide) (by decide) fun h' hp => ?_
  (repeat first|refine wx ?_|refine wy ?_|refine wz ?_|refine wv ?_|refine wh ?_)
  refine st1 hp (whRow { w with k := valOf (A.at (baseOf w.s + 1)) } hd oth to) rfl (by simp) rfl rfl fun h' hp => ?_
  (repeat first|refine wx ?_|refine wy ?_|refine wz ?_|refine wv ?_|refine wh ?_)
  refine st1 hp (whRow { w with k := valOf (A.at (baseOf w.s + 1)), i := 0 } hd oth to) rfl (by simp) rfl rfl fun h' hp => ?_
  (repeat first|refine wx ?_|refine wy ?_|refine wz ?_|refine wv ?_|refine wh ?_)
  refine st1 hp (whRow { w with k := valOf (A.at (baseOf w.s + 1)), i := 0, pc := w.pc + 1 } hd oth to) rfl (by simp) rfl rfl fun h' hp => ?_
  (repeat first|refine wx ?_|refine wy ?_|refine wz ?_|refine wv ?_|refine wh ?_)
  exact hK _ hp
/-- a frame that is as it may be, laid open -/
theorem whP_open {C : Prop} (hp : All (arP 84 a A :: whP hd b w :: R) h) (k : ∀ oth to, oneCell oth = true → (w.pc = 13 → w.x = to * 4 ∧ 0 ≤ to ∧ to < 1099511627776) → All (arP 84 a A :: pts b (whRow w hd oth to) :: (fun h => w.pc = 14 → othP hd oth w.x h) :: R) h → C) : C := by
  have h1 : All (whP hd b w :: arP 84 a A :: R) h := hp.up 1
  obtain ⟨oth, h1⟩ := All.ex h1
  obtain ⟨to, h1⟩ := All.ex h1
  obtain ⟨⟨q1, q2⟩, h1⟩ := All.pure h1
  have h2 : All (pts b (whRow w hd oth to) :: (fun h => w.pc = 14 → othP hd oth w.x h) :: arP 84 a A :: R) h := All.flat h1
  exact k oth to q1 q2 (h2.up 2)
theorem whP_shut {P : Part} (hp : All (P :: pts b (whRow w hd oth to) :: R) h) (o : oneCell oth = true) (h13 : w.pc = 13 → w.x = to * 4 ∧ 0 ≤ to ∧ to < 1099511627776) (h14 : w.pc ≠ 14) : All (P :: whP hd b w :: R) h :=
  hp.mono2 fun _ q => q.head fun _ q => whP_of q o h13 h14
variable {t q : Int} {rest : List Value}
/-- what a step leaves -/
def Left (a hd b : Nat) (t : Int) (rest : List Value) (o : Out) (R : List Part) (K : Value → GH → Prop) : Prop :=
  ∀ av h', All (arP 84 a o.a :: (fun h => o.good = true → frB hd b o.fr h) :: atP hd av (o.atop.bind newFr) :: pts hd (hdRow t o.q rest) :: R) h' → K av h'
/-- one that leaves the frame as it is told, and nothing atop -/
theorem Left.flat {o : Out} {w' : Wh} (hK : Left a hd b t rest o R K) (e : o.fr = .who w') (eq : o.q = q) (e1 : o.atop = none) (ho : oneCell oth = true) (h13 : o.good = true → w'.pc = 13 → w'.x = to * 4 ∧ 0 ≤ to ∧ to < 1099511627776) (h14 : w'.pc ≠ 14) {h' : GH} {P : Part}
    (hp : All (arP 84 a o.a :: pts b (whRow w' hd oth to) :: P :: pts hd (hdRow t q rest) :: R) h') : K .nilIface h' := by
  refine hK .nilIface h' ?_
  rw [e, e1, eq]
  refine hp.mono2 fun _ z => ?_
  have h1 : All (pts b (whRow w' hd oth to) :: pts hd (hdRow t q rest) :: R) _ := z.mono2 fun _ z => z.tail
  have h2 : All ((fun h => o.good = true → frB hd b (.who w') h) :: pts hd (hdRow t q rest) :: R) _ := h1.head fun _ z hg => whP_of z ho (h13 hg) h14
  exact h2.mono2 fun _ z => z.emp_cons rfl
end
end Go.Proofs.Ytbiappodepnbmaa
namespace Go.Proofs.Ytbiappodepnbmaa
open Go GW Go.Proofs
attribute [local irreducible] bnd ldV stV ifV binV eqI
set_option linter.unusedVariables false
set_option linter.unusedSimpArgs false
set_option maxRecDepth 20000
section
variable {a b hd : Nat} {A : Ar} {w : Wh} {oth : Value} {to : Int} {R : List Part} {h : GH} {K : Value → GH → Prop} {t q : Int} {rest : List Value}
theorem is_val {x most : Int} (h : isVal x most = true) : valOf x ≤ most ∧ (plainOf x).isSome = true := by
  unfold isVal at h
  simp only [Bool.and_eq_true, decide_eq_true_eq] at h
  exact ⟨h.2, h.1⟩
theorem T_ask1 {s g i k cell was put x : Int} {opn won : Bool} {P : Part} (hp : All (arP 84 a A :: pts b (whRow ⟨s, g, 1, i, k, cell, was, put, x, opn, won⟩ hd oth to) :: P :: pts hd (hdRow t q rest) :: R) h) (hs : Life s g) (ho : oneCell oth = true)
    (hK : Left a hd b t rest ((Wh.mk s g 1 i k cell was put x opn won).step t q A) R fun v h => K (.tuple #[v, .bool false, .bool (plainOf (A.at (baseOf s))).isSome]) h) : T Try.prog 75 [ptr b, ptr a] h K := by
  apply S75_T
  unfold S75
  (repeat first|refine wx ?_|refine wy ?_|refine wz ?_|refine wv ?_|refine wh ?_)
  refine T_decision hp hs (arP.at hp).2 fun h' hp => ?_
  (repeat first|refine wx ?_|refine wy ?_|refine wz ?_|refine wv ?_|refine wh ?_)
  refine ifN_cases (fun c => ?_) fun c => ?_
  · (repeat first|refine wx ?_|refine wy ?_|refine wz ?_|refine wv ?_|refine wh ?_)
    refine st1 hp (whRow ⟨s, g, 10, i, k, cell, was, put, x, decide (A.at (baseOf s) = stateW g 0), decide (A.at (baseOf s) = stateW g 1)⟩ hd oth to) rfl (by simp) rfl rfl fun h' hp => ?_
    refine hK.flat (w' := ⟨s, g, 10, i, k, cell, was, put, x, decide (A.at (baseOf s) = stateW g 0), decide (A.at (baseOf s) = stateW g 1)⟩) ?_ rfl rfl ho (fun _ e => by cases e) (fun e => by cases e) hp
    simp only [Wh.step, decide_eq_false c]; rfl
  · (repeat first|refine wx ?_|refine wy ?_|refine wz ?_|refine wv ?_|refine wh ?_)
    refine st1 hp (whRow ⟨s, g, 2, i, k, cell, was, put, x, decide (A.at (baseOf s) = stateW g 0), decide (A.at (baseOf s) = stateW g 1)⟩ hd oth to) rfl (by simp) rfl rfl fun h' hp => ?_
    refine hK.flat (w' := ⟨s, g, 2, i, k, cell, was, put, x, decide (A.at (baseOf s) = stateW g 0), decide (A.at (baseOf s) = stateW g 1)⟩) ?_ rfl rfl ho (fun _ e => by cases e) (fun e => by cases e) hp
    simp only [Wh.step, decide_eq_true c]; rfl
theorem T_ask14 {s g i k cell was put x : Int} {opn won : Bool} (hp : All (arP 84 a A :: pts b (whRow ⟨s, g, 14, i, k, cell, was, put, x, opn, won⟩ hd oth to) :: othP hd oth x :: pts hd (hdRow t q rest) :: R) h) (hs : Life s g) (ho : oneCell oth = true)
    (hK : Left a hd b t rest ((Wh.mk s g 14 i k cell was put x opn won).step t q A) R fun v h => K (.tuple #[v, .bool false, .bool (plainOf (A.at (baseOf s))).isSome]) h) : T Try.prog 75 [ptr b, ptr a] h K := by
  apply S75_T
  unfold S75
  (repeat first|refine wx ?_|refine wy ?_|refine wz ?_|refine wv ?_|refine wh ?_)
  refine T_decision hp hs (arP.at hp).2 fun h' hp => ?_
  (repeat first|refine wx ?_|refine wy ?_|refine wz ?_|refine wv ?_|refine wh ?_)
  refine ifN_cases (fun c => ?_) fun c => ?_
  · (repeat first|refine wx ?_|refine wy ?_|refine wz ?_|refine wv ?_|refine wh ?_)
    refine st1 hp (whRow ⟨s, g, 10, i, k, cell, was, put, x, decide (A.at (baseOf s) = stateW g 0), decide (A.at (baseOf s) = stateW g 1)⟩ hd oth to) rfl (by simp) rfl rfl fun h' hp => ?_
    have e : (Wh.mk s g 14 i k cell was put x opn won).step t q A = ⟨.who ⟨s, g, 10, i, k, cell, was, put, x, decide (A.at (baseOf s) = stateW g 0), decide (A.at (baseOf s) = stateW g 1)⟩, none, false, (plainOf (A.at (baseOf s))).isSome, A.ld (baseOf s), q⟩ := by
      simp only [Wh.step, decide_eq_false c]; rfl
    rw [e] at hK
    exact hK.flat (w' := ⟨s, g, 10, i, k, cell, was, put, x, decide (A.at (baseOf s) = stateW g 0), decide (A.at (baseOf s) = stateW g 1)⟩) rfl rfl rfl ho (fun _ e => by cases e) (fun e => by cases e) hp
  · (repeat first|refine wx ?_|refine wy ?_|refine wz ?_|refine wv ?_|refine wh ?_)
    refine st1 hp (whRow ⟨s, g, 5, i, k, cell, was, put, x, decide (A.at (baseOf s) = stateW g 0), decide (A.at (baseOf s) = stateW g 1)⟩ hd oth to) rfl (by simp) rfl rfl fun h' hp => ?_
    (repeat first|refine wx ?_|refine wy ?_|refine wz ?_|refine wv ?_|refine wh ?_)
    have e : (Wh.mk s g 14 i k cell was put x opn won).step t q A = ⟨.who ⟨s, g, 5, i, k, cell, was, put, x, decide (A.at (baseOf s) = stateW g 0), decide (A.at (baseOf s) = stateW g 1)⟩, read x, false, (plainOf (A.at (baseOf s))).isSome, A.ld (baseOf s), q⟩ := by
      simp only [Wh.step, decide_eq_true c]; rfl
    rw [e] at hK
    refine hK oth _ ?_
    refine hp.mono2 fun _ z => ?_
    have h1 := z.head (Q := fun h => (plainOf (A.at (baseOf s))).isSome = true → frB hd b (.who ⟨s, g, 5, i, k, cell, was, put, x, decide (A.at (baseOf s) = stateW g 0), decide (A.at (baseOf s) = stateW g 1)⟩) h) fun _ z _ => whP_of z ho (fun e => by cases e) (fun e => by cases e)
    refine h1.mono2 fun _ z => z.head fun h1 ⟨c, s, g, ⟨e1, e2⟩, e3⟩ => ?_
    simp only
    rw [e2]
    exact ⟨c, e1, whP_of e3 rfl (fun q => by cases q) (fun q => by cases q)⟩
end
end Go.Proofs.Ytbiappodepnbmaa
namespace Go.Proofs.Ytbiappodepnbmaa
open Go GW Go.Proofs
attribute [local irreducible] bnd ldV stV ifV binV eqI
set_option linter.unusedVariables false
set_option linter.unusedSimpArgs false
set_option maxRecDepth 20000
theorem entry_range {s g e t q : Int} (hs : Life s g) (e0 : 0 ≤ e) (e1 : e < 16) (t0 : 0 ≤ t) (t1 : t < 4) (q0 : 0 ≤ q) (q1 : q < 1048576) : I64 (Form.entry s g e t q).number := by
  have := hs.s0; have := hs.s1; have := hs.g0; have := hs.g1
  simp only [Form.number]; constructor <;> omega
theorem mcas_range {s g : Int} (hs : Life s g) : I64 (Form.mcas s g).number := by
  have := hs.s0; have := hs.s1; have := hs.g0; have := hs.g1
  simp only [Form.number]; constructor <;> omega
section
variable {a b hd : Nat} {A : Ar} {w : Wh} {oth : Value} {to : Int} {R : List Part} {h : GH} {K : Value → GH → Prop} {t q : Int} {rest : List Value}
theorem T_swapIn {P : Part} (hp : All (arP 84 a A :: pts b (whRow w hd oth to) :: P :: pts hd (hdRow t q rest) :: R) h) (hpc : w.pc = 5) (ok : w.ok) (ho : oneCell oth = true) (t0 : 0 ≤ t) (t1 : t < 4) (q0 : 0 ≤ q) (q1 : q < 1048576)
    (hK : Left a hd b t rest (w.step t q A) R fun v h => K (.tuple #[v, .bool (w.step t q A).good]) h) : T Try.prog 74 [ptr b, ptr a] h K := by
  apply S74_T
  unfold S74
  have i2 := ok.i2 (by rw [hpc]; decide) (by rw [hpc]; decide) (by rw [hpc]; decide) (by rw [hpc]; decide)
  have i0 := ok.i0
  have s0 := ok.life.s0; have s1 := ok.life.s1; have g0 := ok.life.g0; have g1 := ok.life.g1
  have hp3 : All (pts hd (hdRow t q rest) :: arP 84 a A :: pts b (whRow w hd oth to) :: P :: R) h := hp.up 3
  (repeat first|refine wx ?_|refine wy ?_|refine wz ?_|refine wv ?_|refine wh ?_)
  refine la1 hp (c := [i64 w.s, i64 w.g]) (by simp) rfl ?_
  (repeat first|refine wx ?_|refine wy ?_|refine wz ?_|refine wv ?_|refine wh ?_)
  refine T_hnext hp3 q0 q1 fun h' hp3 => ?_
  replace hp : All (arP 84 a A :: pts b (whRow w hd oth to) :: P :: pts hd (hdRow t ((q + 1) % 1048576) rest) :: R) h' := hp3.dn 3
  (repeat first|refine wx ?_|refine wy ?_|refine wz ?_|refine wv ?_|refine wh ?_)
  refine hla1 hp (c := [i64 w.s, i64 w.g]) (by simp) rfl ?_
  (repeat first|refine wx ?_|refine wy ?_|refine wz ?_|refine wv ?_|refine wh ?_)
  refine T_Number_entry ⟨s0, s1, g0, g1, i0, i2, t0, t1, q0, q1⟩ ?_
  have hn := entry_range ok.life i0 i2 t0 t1 q0 q1
  (repeat first|refine wx ?_|refine wy ?_|refine wz ?_|refine wv ?_|refine wh ?_)
  refine st1 hp (whRow { w with put := (Form.entry w.s w.g w.i t q).number } hd oth to) rfl (by simp) rfl rfl fun h' hp => ?_
  (repeat first|refine wx ?_|refine wy ?_|refine wz ?_|refine wv ?_|refine wh ?_)
  have c0 := ok.c0
  have c1 := ok.c1
  have hA := (arP.at hp).2
  refine L_Swap hp (by simp only; omega) (by simp only; omega) hn fun h' hp => ?_
  (repeat first|refine wx ?_|refine wy ?_|refine wz ?_|refine wv ?_|refine wh ?_)
  have e : w.step t q A = w.swapIn t q A := by
    unfold Wh.step; rw [hpc]; rfl
  rw [e] at hK
  unfold Wh.swapIn at hK
  refine ifV_cases (fun c => ?_) fun c => ?_
  · (repeat first|refine wx ?_|refine wy ?_|refine wz ?_|refine wv ?_|refine wh ?_)
    refine st1 hp (whRow { w with put := (Form.entry w.s w.g w.i t q).number, pc := 6 } hd oth to) rfl (by simp) rfl rfl fun h' hp => ?_
    simp only [if_pos c] at hK
    exact hK.flat (w' := { w with put := (Form.entry w.s w.g w.i t q).number, pc := 6 }) rfl rfl rfl ho (fun _ e => by cases e) (fun e => by cases e) hp
  simp only [if_neg c] at hK
  refine T_Read (Ar.at_range hA _).2 ?_
  cases hr : read (A.at w.cell) with
  | none =>
    rw [hr] at hK
    (repeat first|refine wx ?_|refine wy ?_|refine wz ?_|refine wv ?_|refine wh ?_)
    refine nwst hp (.row 102 [i64 0, i64 0] 2 true) rfl rfl rfl (by rfl) fun c h' hp => ?_
    (repeat first|refine wx ?_|refine wy ?_|refine wz ?_|refine wv ?_|refine wh ?_)
    unfold S74_j1
    (repeat first|refine wx ?_|refine wy ?_|refine wz ?_|refine wv ?_|refine wh ?_)
    exact hK .nilIface _ (hp.tail.mono2 fun _ z => All.emp_cons (All.emp_cons z.tail.tail rfl) (by intro q; cases q))
  | some f =>
    rw [hr] at hK
    have hm := (number_of_read hr).1
    cases f with
    | val v =>
      (repeat first|refine wx ?_|refine wy ?_|refine wz ?_|refine wv ?_|refine wh ?_)
      refine nwst hp (.row 102 [i64 0, i64 0] 2 true) rfl rfl rfl (by rfl) fun c h' hp => ?_
      (repeat first|refine wx ?_|refine wy ?_|refine wz ?_|refine wv ?_|refine wh ?_)
      unfold S74_j1
      (repeat first|refine wx ?_|refine wy ?_|refine wz ?_|refine wv ?_|refine wh ?_)
      refine st2 hp (whRow { w with put := (Form.entry w.s w.g w.i t q).number, pc := 9 } hd oth to) rfl (by simp) rfl rfl fun h' hp => ?_
      exact hK.flat (w' := { w with put := (Form.entry w.s w.g w.i t q).number, pc := 9 }) rfl rfl rfl ho (fun _ e => by cases e) (fun e => by cases e) hp.tail
    | entry s' g' e' t' q' =>
      (repeat first|refine wx ?_|refine wy ?_|refine wz ?_|refine wv ?_|refine wh ?_)
      refine nwst hp (.row 102 [i64 0, i64 0] 2 true) rfl rfl rfl (by rfl) fun c h' hp => ?_
      (repeat first|refine wx ?_|refine wy ?_|refine wz ?_|refine wv ?_|refine wh ?_)
      unfold S74_j1
      (repeat first|refine wx ?_|refine wy ?_|refine wz ?_|refine wv ?_|refine wh ?_)
      refine T_framed (fo := some (.entry s' g' e' t' q')) hp fun v h' hp => ?_
      (repeat first|refine wx ?_|refine wy ?_|refine wz ?_|refine wv ?_|refine wh ?_)
      refine hK v _ ?_
      have h2 : All (arP 84 a _ :: pts b (whRow _ hd oth to) :: atP hd v _ :: pts hd _ :: R) _ := hp.re 6 [2, 3, 0, 5]
      refine h2.mono2 fun _ z => z.head fun _ z _ => ?_
      exact whP_of z ho (fun e => by rw [show ({ w with put := (Form.entry w.s w.g w.i t q).number } : Wh).pc = 5 from hpc] at e; cases e) (fun e => by rw [show ({ w with put := (Form.entry w.s w.g w.i t q).number } : Wh).pc = 5 from hpc] at e; cases e)
    | mcas s' g' =>
      (repeat first|refine wx ?_|refine wy ?_|refine wz ?_|refine wv ?_|refine wh ?_)
      refine nwst hp (.row 102 [i64 s', i64 g'] 2 true) rfl rfl rfl (by rfl) fun c h' hp => ?_
      (repeat first|refine wx ?_|refine wy ?_|refine wz ?_|refine wv ?_|refine wh ?_)
      refine la0 hp (c := [i64 s', i64 g']) (by simp) rfl ?_
      (repeat first|refine wx ?_|refine wy ?_|refine wz ?_|refine wv ?_|refine wh ?_)
      refine la2 hp (c := [i64 w.s, i64 w.g]) (by simp) rfl ?_
      refine bnd_of (eqMcas s' g' w.s w.g) (ifV_cases (fun c => ?_) fun c => ?_)
      · simp only [if_pos c] at hK
        refine T_wnext (more := 3) (stop := 8) (w := { w with put := (Form.entry w.s w.g w.i t q).number }) (R := arP 84 a _ :: P :: pts hd _ :: R) (hp.re 5 [2, 1, 3, 4]) i0 (by simp only; omega) (by decide) fun h' hp => ?_
        (repeat first|refine wx ?_|refine wy ?_|refine wz ?_|refine wv ?_|refine wh ?_)
        refine hK.flat (P := P) rfl rfl rfl ho (fun _ e => ?_) (fun e => ?_) (hp.up 1)
        · exfalso; revert e; unfold Wh.next; simp only; split <;> intro e <;> cases e
        · revert e; unfold Wh.next; simp only; split <;> intro e <;> cases e
      · simp only [if_neg c] at hK
        unfold S74_j1
        (repeat first|refine wx ?_|refine wy ?_|refine wz ?_|refine wv ?_|refine wh ?_)
        refine T_framedM hp fun d h' hp => ?_
        replace hp := hp.up 3
        (repeat first|refine wx ?_|refine wy ?_|refine wz ?_|refine wv ?_|refine wh ?_)
        refine st0 hp (whRow { w with put := (Form.entry w.s w.g w.i t q).number } hd (.iface 106 (ptr d)) to) rfl (by simp) rfl rfl fun h' hp => ?_
        (repeat first|refine wx ?_|refine wy ?_|refine wz ?_|refine wv ?_|refine wh ?_)
        refine st0 hp (whRow { w with put := (Form.entry w.s w.g w.i t q).number, pc := 14 } hd (.iface 106 (ptr d)) to) rfl (by simp) rfl rfl fun h' hp => ?_
        refine hK .nilIface _ ?_
        have h2 : All (pts b (whRow { w with put := (Form.entry w.s w.g w.i t q).number, pc := 14 } hd (.iface 106 (ptr d)) to) :: pts d (whRow (Wh.new s' g') hd .nilIface 0) :: arP 84 a _ :: pts hd _ :: R) _ := hp.re 6 [0, 1, 3, 5]
        have h3 := (All.fold (l := [_, _]) h2)
        refine (All.up (h3.head (Q := fun h => true = true → frB hd b (.who { w with put := (Form.entry w.s w.g w.i t q).number, x := A.at w.cell, pc := 14 }) h) fun h1 z _ => ?_) 1).mono2 fun _ z => z.mono2 fun _ z => All.emp_cons (P := atP hd .nilIface none) z rfl
        refine ⟨.iface 106 (ptr d), to, ⟨rfl, fun e => by cases e⟩, ?_⟩
        exact z.mono2 fun _ z => z.head fun _ z _ => ⟨d, s', g', ⟨rfl, hr⟩, z⟩
end
end Go.Proofs.Ytbiappodepnbmaa
namespace Go.Proofs.Ytbiappodepnbmaa
open Go GW Go.Proofs
attribute [local irreducible] bnd ldV stV ifV binV eqI
set_option linter.unusedVariables false
set_option linter.unusedSimpArgs false
set_option maxRecDepth 20000
section
variable {a b hd : Nat} {A : Ar} {w : Wh} {oth : Value} {to : Int} {R : List Part} {h : GH} {K : Value → GH → Prop} {t q : Int} {rest : List Value} {P : Part}
theorem valOf_range (hA : A.ok) (i : Int) : 0 ≤ valOf (A.at i) ∧ valOf (A.at i) < 1099511627776 := valOf_le (Ar.at_range hA i)
theorem T_release (hp : All (arP 84 a A :: pts b (whRow w hd oth to) :: P :: pts hd (hdRow t q rest) :: R) h) (hpc : w.pc = 10 ∨ w.pc = 11 ∨ w.pc = 12 ∨ w.pc = 13) (ok : w.ok) (ho : oneCell oth = true) (h13 : w.pc = 13 → w.x = to * 4 ∧ 0 ≤ to ∧ to < 1099511627776)
    (hK : Left a hd b t rest (w.step t q A) R fun v h => K (.tuple #[.bool (w.step t q A).over, .bool (w.step t q A).good]) h) : T Try.prog 73 [ptr b, ptr a] h K := by
  apply S73_T
  unfold S73
  have hA := (arP.at hp).2
  obtain ⟨s, g, pc, i, k, cell, was, put, x, opn, won⟩ := w
  have hs := ok.life
  have i0 := ok.i0
  have i1 := ok.i1
  simp only at hpc h13 hs i0 i1
  rcases hpc with rfl | rfl | rfl | rfl
  · (repeat first|refine wx ?_|refine wy ?_|refine wz ?_|refine wv ?_|refine wh ?_)
    refine T_counted hp hs (by simp) fun h' hp => ?_
    (repeat first|refine wx ?_|refine wy ?_|refine wz ?_|refine wv ?_|refine wh ?_)
    exact hK.flat (w' := ⟨s, g, 11, 0, valOf (A.at (baseOf s + 1)), cell, was, put, x, opn, won⟩) rfl rfl rfl ho (fun _ e => by cases e) (fun e => by cases e) hp
  · have i2 := ok.i2 (by simp) (by simp) (by simp) (by simp)
    simp only at i2
    (repeat first|refine wx ?_|refine wy ?_|refine wz ?_|refine wv ?_|refine wh ?_)
    refine st1 hp (whRow ⟨s, g, 12, i, k, cell, was, put, x, opn, won⟩ hd oth to) rfl (by simp) rfl rfl fun h' hp => ?_
    (repeat first|refine wx ?_|refine wy ?_|refine wz ?_|refine wv ?_|refine wh ?_)
    refine T_takeCell hp ⟨hs.s0, hs.s1⟩ i0 i2 fun h' hp => ?_
    exact hK.flat (w' := ⟨s, g, 12, i, k, valOf (A.at (baseOf s + (2 + 3 * i + 0))), was, put, x, opn, won⟩) rfl rfl rfl ho (fun _ e => by cases e) (fun e => by cases e) hp
  · have i2 := ok.i2 (by simp) (by simp) (by simp) (by simp)
    simp only at i2
    have key : ∀ p : Int, 0 < p → p < 3 → (p = if won = true then 2 else 1) → S73_j1 (ptr b) (ptr a) (i64 p) h K := by
      intro p p0 p3 e
      unfold S73_j1
      (repeat first|refine wx ?_|refine wy ?_|refine wz ?_|refine wv ?_|refine wh ?_)
      refine T_part hp ⟨hs.s0, hs.s1⟩ i0 i2 (by omega) p3 fun h' hp => ?_
      rw [if_neg (by omega)]
      (repeat first|refine wx ?_|refine wy ?_|refine wz ?_|refine wv ?_|refine wh ?_)
      refine st1 hp (whRow ⟨s, g, 12, i, k, cell, was, put, x, opn, won⟩ hd oth (valOf (A.at (baseOf s + (2 + 3 * i + p))))) rfl (by simp) rfl rfl fun h' hp => ?_
      (repeat first|refine wx ?_|refine wy ?_|refine wz ?_|refine wv ?_|refine wh ?_)
      refine st1 hp (whRow ⟨s, g, 13, i, k, cell, was, put, valOf (A.at (baseOf s + (2 + 3 * i + p))) * 4, opn, won⟩ hd oth (valOf (A.at (baseOf s + (2 + 3 * i + p))))) rfl (by simp) rfl rfl fun h' hp => ?_
      subst e
      refine hK.flat (w' := ⟨s, g, 13, i, k, cell, was, put, valOf (A.at (baseOf s + (2 + 3 * i + if won = true then 2 else 1))) * 4, opn, won⟩) rfl rfl rfl ho (fun _ _ => ⟨rfl, valOf_range hA _⟩) (fun e => by cases e) hp
    (repeat first|refine wx ?_|refine wy ?_|refine wz ?_|refine wv ?_|refine wh ?_)
    refine ifV_bool (fun c => ?_) fun c => ?_
    · have c' : won = true := c
      exact key 2 (by decide) (by decide) (by rw [if_pos c'])
    · have c' : won = false := c
      exact key 1 (by decide) (by decide) (by rw [if_neg (by rw [c']; decide)])
  · obtain ⟨ex, x0, x1⟩ := h13 rfl
    have c0 := ok.c0
    have c1 := ok.c1
    have xr := ok.x
    simp only at c0 c1 xr
    (repeat first|refine wx ?_|refine wy ?_|refine wz ?_|refine wv ?_|refine wh ?_)
    refine la1 hp (c := [i64 s, i64 g]) (by simp) rfl ?_
    (repeat first|refine wx ?_|refine wy ?_|refine wz ?_|refine wv ?_|refine wh ?_)
    refine T_Number_mcas ⟨hs.s0, hs.s1, hs.g0, hs.g1⟩ ?_
    (repeat first|refine wx ?_|refine wy ?_|refine wz ?_|refine wv ?_|refine wh ?_)
    refine T_Of (by omega) (by omega) ?_
    (repeat first|refine wx ?_|refine wy ?_|refine wz ?_|refine wv ?_|refine wh ?_)
    rw [← ex]
    refine L_Swap hp c0 (Int.lt_trans c1 (by decide)) xr fun h' hp => ?_
    refine T_wnext (more := 11) (stop := 0) (w := ⟨s, g, 13, i, k, cell, was, put, x, opn, won⟩) (R := arP 84 a _ :: P :: pts hd _ :: R) (hp.up 1) i0 i1 (by decide) fun h' hp => ?_
    refine hK.flat (w' := (Wh.mk s g 13 i k cell was put x opn won).next 11 0) rfl rfl rfl ho (fun _ e => ?_) (fun e => ?_) (hp.up 1)
    · exfalso; revert e; unfold Wh.next; simp only; split <;> intro e <;> cases e
    · revert e; unfold Wh.next; simp only; split <;> intro e <;> cases e
theorem T_whoStep (hp : All (arP 84 a A :: whP hd b w :: pts hd (hdRow t q rest) :: R) h) (ok : w.ok) (t0 : 0 ≤ t) (t1 : t < 4) (q0 : 0 ≤ q) (q1 : q < 1048576)
    (hK : Left a hd b t rest (w.step t q A) R fun v h => K (.tuple #[v, .bool (w.step t q A).over, .bool (w.step t q A).good]) h) : T Try.prog 71 [ptr b, ptr a] h K := by
  apply S71_T
  unfold S71
  have hA := (arP.at hp).2
  refine whP_open hp fun oth to ho h13 hp => ?_
  have p0 := ok.pc0
  have p1 := ok.pc1
  by_cases hrel : w.pc = 10 ∨ w.pc = 11 ∨ w.pc = 12 ∨ w.pc = 13
  · (repeat first|refine wx ?_|refine wy ?_|refine wz ?_|refine wv ?_|refine wh ?_)
    rw [decide_eq_true (by omega)]
    (repeat first|refine wx ?_|refine wy ?_|refine wz ?_|refine wv ?_|refine wh ?_)
    rw [decide_eq_true (by omega)]
    unfold S71_j1
    (repeat first|refine wx ?_|refine wy ?_|refine wz ?_|refine wv ?_|refine wh ?_)
    refine T_release hp hrel ok ho h13 ?_
    intro v h' hp
    (repeat first|refine wx ?_|refine wy ?_|refine wz ?_|refine wv ?_|refine wh ?_)
    have e : (w.step t q A).atop = none := by rcases hrel with e | e | e | e <;> (unfold Wh.step; rw [e]; try rfl)
    rw [e] at hp
    have ev : v = .nilIface := by
      have : All (atP hd v none :: _) _ := hp.up 2
      exact All.case this fun h1 p _ => p
    subst ev
    refine hK _ _ ?_
    rw [e]; exact hp
  have hj : S71_j2 (ptr b) (ptr a) h K := by
    unfold S71_j2
    obtain ⟨s, g, pc, i, k, cell, was, put, x, opn, won⟩ := w
    have hs := ok.life
    have i0 := ok.i0
    have i1 := ok.i1
    have i2 := ok.i2
    have c0 := ok.c0
    have c1 := ok.c1
    have xr := ok.x
    have wr := ok.was
    simp only at h13 hs i0 i1 p0 p1 hrel i2 c0 c1 xr wr
    have : pc = 1 ∨ pc = 2 ∨ pc = 3 ∨ pc = 4 ∨ pc = 5 ∨ pc = 6 ∨ pc = 7 ∨ pc = 8 ∨ pc = 9 ∨ pc = 14 := by omega
    rcases this with rfl | rfl | rfl | rfl | rfl | rfl | rfl | rfl | rfl | rfl
    · (repeat first|refine wx ?_|refine wy ?_|refine wz ?_|refine wv ?_|refine wh ?_)
      unfold S71_j3
      (repeat first|refine wx ?_|refine wy ?_|refine wz ?_|refine wv ?_|refine wh ?_)
      refine T_ask1 hp hs ho ?_
      intro v h' hp
      (repeat first|refine wx ?_|refine wy ?_|refine wz ?_|refine wv ?_|refine wh ?_)
      exact hK v _ hp
    · (repeat first|refine wx ?_|refine wy ?_|refine wz ?_|refine wv ?_|refine wh ?_)
      unfold S71_j3
      (repeat first|refine wx ?_|refine wy ?_|refine wz ?_|refine wv ?_|refine wh ?_)
      refine T_counted hp hs (by simp) fun h' hp => ?_
      (repeat first|refine wx ?_|refine wy ?_|refine wz ?_|refine wv ?_|refine wh ?_)
      refine ifV_cases (fun c => ?_) fun c => ?_
      · (repeat first|refine wx ?_|refine wy ?_|refine wz ?_|refine wv ?_|refine wh ?_)
        refine st1 hp (whRow ⟨s, g, 8, 0, valOf (A.at (baseOf s + 1)), cell, was, put, x, opn, won⟩ hd oth to) rfl (by simp) rfl rfl fun h' hp => ?_
        refine hK.flat (w' := ⟨s, g, 8, 0, valOf (A.at (baseOf s + 1)), cell, was, put, x, opn, won⟩) ?_ rfl rfl ho (fun _ e => by cases e) (fun e => by cases e) hp
        simp only [Wh.step]; rw [if_pos c]
      · refine hK.flat (w' := ⟨s, g, 3, 0, valOf (A.at (baseOf s + 1)), cell, was, put, x, opn, won⟩) ?_ rfl rfl ho (fun _ e => by cases e) (fun e => by cases e) hp
        simp only [Wh.step]; rw [if_neg c]
    · (repeat first|refine wx ?_|refine wy ?_|refine wz ?_|refine wv ?_|refine wh ?_)
      unfold S71_j3
      (repeat first|refine wx ?_|refine wy ?_|refine wz ?_|refine wv ?_|refine wh ?_)
      refine T_takeCell hp ⟨hs.s0, hs.s1⟩ i0 (i2 (by simp) (by simp) (by simp) (by simp)) fun h' hp => ?_
      (repeat first|refine wx ?_|refine wy ?_|refine wz ?_|refine wv ?_|refine wh ?_)
      refine st1 hp (whRow ⟨s, g, 4, i, k, valOf (A.at (baseOf s + (2 + 3 * i + 0))), was, put, x, opn, won⟩ hd oth to) rfl (by simp) rfl rfl fun h' hp => ?_
      exact hK.flat (w' := ⟨s, g, 4, i, k, valOf (A.at (baseOf s + (2 + 3 * i + 0))), was, put, x, opn, won⟩) rfl rfl rfl ho (fun _ e => by cases e) (fun e => by cases e) hp
    · (repeat first|refine wx ?_|refine wy ?_|refine wz ?_|refine wv ?_|refine wh ?_)
      unfold S71_j3
      (repeat first|refine wx ?_|refine wy ?_|refine wz ?_|refine wv ?_|refine wh ?_)
      refine T_takeWas hp ⟨hs.s0, hs.s1⟩ i0 (i2 (by simp) (by simp) (by simp) (by simp)) hA fun h' hp => ?_
      (repeat first|refine wx ?_|refine wy ?_|refine wz ?_|refine wv ?_|refine wh ?_)
      by_cases c : isVal (A.at (baseOf s + (2 + 3 * i + 1))) 1099511627775 = true
      · rw [if_pos c] at hp
        refine st1 hp (whRow ⟨s, g, 5, i, k, cell, valOf (A.at (baseOf s + (2 + 3 * i + 1))) * 4, put, x, opn, won⟩ hd oth to) rfl (by simp) rfl rfl fun h' hp => ?_
        exact hK.flat (w' := ⟨s, g, 5, i, k, cell, valOf (A.at (baseOf s + (2 + 3 * i + 1))) * 4, put, x, opn, won⟩) rfl rfl rfl ho (fun _ e => by cases e) (fun e => by cases e) hp
      · rw [if_neg c] at hp
        refine st1 hp (whRow ⟨s, g, 5, i, k, cell, was, put, x, opn, won⟩ hd oth to) rfl (by simp) rfl rfl fun h' hp => ?_
        refine hK .nilIface _ (hp.mono2 fun _ z => ?_)
        exact All.emp_cons (All.emp_cons (P := atP hd .nilIface none) z.tail.tail rfl) fun e => absurd e c
    · (repeat first|refine wx ?_|refine wy ?_|refine wz ?_|refine wv ?_|refine wh ?_)
      refine T_swapIn hp rfl ok ho t0 t1 q0 q1 ?_
      intro v h' hp
      (repeat first|refine wx ?_|refine wy ?_|refine wz ?_|refine wv ?_|refine wh ?_)
      have e : ((Wh.mk s g 5 i k cell was put x opn won).step t q A).over = false := by
        simp only [Wh.step, Wh.swapIn]
        split
        · rfl
        · split <;> first | rfl | (split <;> rfl)
      have := hK v _ hp
      rw [e] at this
      exact this
    · (repeat first|refine wx ?_|refine wy ?_|refine wz ?_|refine wv ?_|refine wh ?_)
      unfold S71_j3
      (repeat first|refine wx ?_|refine wy ?_|refine wz ?_|refine wv ?_|refine wh ?_)
      refine T_decision hp hs hA fun h' hp => ?_
      (repeat first|refine wx ?_|refine wy ?_|refine wz ?_|refine wv ?_|refine wh ?_)
      refine st1 hp (whRow ⟨s, g, 7, i, k, cell, was, put, x, decide (A.at (baseOf s) = stateW g 0), decide (A.at (baseOf s) = stateW g 1)⟩ hd oth to) rfl (by simp) rfl rfl fun h' hp => ?_
      exact hK.flat (w' := ⟨s, g, 7, i, k, cell, was, put, x, decide (A.at (baseOf s) = stateW g 0), decide (A.at (baseOf s) = stateW g 1)⟩) rfl rfl rfl ho (fun _ e => by cases e) (fun e => by cases e) hp
    · (repeat first|refine wx ?_|refine wy ?_|refine wz ?_|refine wv ?_|refine wh ?_)
      unfold S71_j3
      (repeat first|refine wx ?_|refine wy ?_|refine wz ?_|refine wv ?_|refine wh ?_)
      refine T_settle hp hs c0 c1 wr fun h' hp => ?_
      refine T_wnext (more := 3) (stop := 8) (w := ⟨s, g, 7, i, k, cell, was, put, x, opn, won⟩) (R := arP 84 a _ :: _ :: pts hd _ :: R) (hp.up 1) i0 i1 (by decide) fun h' hp => ?_
      refine hK.flat (w' := (Wh.mk s g 7 i k cell was put x opn won).next 3 8) rfl rfl rfl ho (fun _ e => ?_) (fun e => ?_) (hp.up 1)
      · exfalso; revert e; unfold Wh.next; simp only; split <;> intro e <;> cases e
      · revert e; unfold Wh.next; simp only; split <;> intro e <;> cases e
    · (repeat first|refine wx ?_|refine wy ?_|refine wz ?_|refine wv ?_|refine wh ?_)
      unfold S71_j3
      (repeat first|refine wx ?_|refine wy ?_|refine wz ?_|refine wv ?_|refine wh ?_)
      refine T_decide hp hs (by decide) (by decide) fun h' hp => ?_
      exact hK.flat (w' := ⟨s, g, 1, i, k, cell, was, put, x, opn, won⟩) rfl rfl rfl ho (fun _ e => by cases e) (fun e => by cases e) hp
    · (repeat first|refine wx ?_|refine wy ?_|refine wz ?_|refine wv ?_|refine wh ?_)
      unfold S71_j3
      (repeat first|refine wx ?_|refine wy ?_|refine wz ?_|refine wv ?_|refine wh ?_)
      refine T_decide hp hs (by decide) (by decide) fun h' hp => ?_
      exact hK.flat (w' := ⟨s, g, 1, i, k, cell, was, put, x, opn, won⟩) rfl rfl rfl ho (fun _ e => by cases e) (fun e => by cases e) hp
    · (repeat first|refine wx ?_|refine wy ?_|refine wz ?_|refine wv ?_|refine wh ?_)
      unfold S71_j3
      (repeat first|refine wx ?_|refine wy ?_|refine wz ?_|refine wv ?_|refine wh ?_)
      have hp2 : All (arP 84 a A :: pts b _ :: othP hd oth x :: pts hd (hdRow t q rest) :: R) _ := hp.mono2 fun _ z => z.mono2 fun _ z => z.head fun _ z => z rfl
      refine T_ask14 hp2 hs ho ?_
      intro v h' hp
      (repeat first|refine wx ?_|refine wy ?_|refine wz ?_|refine wv ?_|refine wh ?_)
      have e : ((Wh.mk s g 14 i k cell was put x opn won).step t q A).over = false ∧ ((Wh.mk s g 14 i k cell was put x opn won).step t q A).good = (plainOf (A.at (baseOf s))).isSome := by
        simp only [Wh.step]
        split <;> exact ⟨rfl, rfl⟩
      have := hK v _ hp
      rw [e.1, e.2] at this
      exact this
  (repeat first|refine wx ?_|refine wy ?_|refine wz ?_|refine wv ?_|refine wh ?_)
  refine ifV_cases (fun c => ?_) fun c => ?_
  · (repeat first|refine wx ?_|refine wy ?_|refine wz ?_|refine wv ?_|refine wh ?_)
    rw [decide_eq_false (by omega)]
    unfold S71_j1
    (repeat first|refine wx ?_|refine wy ?_|refine wz ?_|refine wv ?_|refine wh ?_)
    exact hj
  · unfold S71_j1
    (repeat first|refine wx ?_|refine wy ?_|refine wz ?_|refine wv ?_|refine wh ?_)
    exact hj
end
end Go.Proofs.Ytbiappodepnbmaa
namespace Go.Proofs.Ytbiappodepnbmaa
open Go GW Go.Proofs
attribute [local irreducible] bnd ldV stV ifV binV eqI
set_option linter.unusedVariables false
set_option linter.unusedSimpArgs false
set_option maxRecDepth 20000
section
variable {a b hd : Nat} {A : Ar} {R : List Part} {h : GH} {K : Value → GH → Prop} {t q : Int} {rest : List Value}
def enP (b : Nat) (f : En) : Part := fun h => ∃ won, pts b (enRow f won) h
theorem T_entStep {f : En} (hp : All (arP 84 a A :: enP b f :: pts hd (hdRow t q rest) :: R) h) (ok : f.ok)
    (hK : Left a hd b t rest (f.step q A) R fun v h => K (.tuple #[v, .bool (f.step q A).over, .bool (f.step q A).good]) h) : T Try.prog 91 [ptr b, ptr a] h K := by
  apply S91_T
  unfold S91
  have hA := (arP.at hp).2
  have hp1 : All (enP b f :: arP 84 a A :: pts hd (hdRow t q rest) :: R) h := hp.up 1
  obtain ⟨won, hp1⟩ := All.ex hp1
  replace hp : All (arP 84 a A :: pts b (enRow f won) :: pts hd (hdRow t q rest) :: R) h := hp1.up 1
  obtain ⟨s, g, e, t', q', pc, cell, was, opn⟩ := f
  have hs := ok.life
  have e0 := ok.e0
  have e1 := ok.e1
  have c0 := ok.c0
  have c1 := ok.c1
  have wr := ok.was
  have pc1 := ok.pc1
  simp only at hs e0 e1 c0 c1 wr pc1
  have flat : ∀ {o : Out} {f' : En} {won : Bool} {h' : GH}, Left a hd b t rest o R (fun v h => K (.tuple #[v, .bool o.over, .bool o.good]) h) → o.fr = .ent f' → o.q = q → o.atop = none → All (arP 84 a o.a :: pts b (enRow f' won) :: pts hd (hdRow t q rest) :: R) h' → K (.tuple #[.nilIface, .bool o.over, .bool o.good]) h' := by
    intro o f' won h' hK e eq e1 hp
    refine hK .nilIface h' ?_
    rw [e, e1, eq]
    exact hp.mono2 fun _ z => All.mono2 (z.head fun _ z _ => ⟨won, z⟩) fun _ z => z.emp_cons rfl
  have : pc = 0 ∨ pc = 1 ∨ pc = 2 ∨ pc = 3 := by omega
  rcases this with rfl | rfl | rfl | rfl
  · (repeat first|refine wx ?_|refine wy ?_|refine wz ?_|refine wv ?_|refine wh ?_)
    refine st1 hp (enRow ⟨s, g, e, t', q', 1, cell, was, opn⟩ won) rfl (by simp) rfl rfl fun h' hp => ?_
    (repeat first|refine wx ?_|refine wy ?_|refine wz ?_|refine wv ?_|refine wh ?_)
    refine T_takeCell hp ⟨hs.s0, hs.s1⟩ e0 e1 fun h' hp => ?_
    exact flat (f' := ⟨s, g, e, t', q', 1, valOf (A.at (baseOf s + (2 + 3 * e + 0))), was, opn⟩) hK rfl rfl rfl hp
  · (repeat first|refine wx ?_|refine wy ?_|refine wz ?_|refine wv ?_|refine wh ?_)
    refine st1 hp (enRow ⟨s, g, e, t', q', 2, cell, was, opn⟩ won) rfl (by simp) rfl rfl fun h' hp => ?_
    (repeat first|refine wx ?_|refine wy ?_|refine wz ?_|refine wv ?_|refine wh ?_)
    refine T_takeWas hp ⟨hs.s0, hs.s1⟩ e0 e1 hA fun h' hp => ?_
    by_cases c : isVal (A.at (baseOf s + (2 + 3 * e + 1))) 1099511627775 = true
    · rw [if_pos c] at hp
      exact flat (f' := ⟨s, g, e, t', q', 2, cell, valOf (A.at (baseOf s + (2 + 3 * e + 1))) * 4, opn⟩) hK rfl rfl rfl hp
    · refine hK .nilIface _ (hp.mono2 fun _ z => ?_)
      exact All.emp_cons (All.emp_cons (P := atP hd .nilIface none) z.tail rfl) fun e => absurd e c
  · (repeat first|refine wx ?_|refine wy ?_|refine wz ?_|refine wv ?_|refine wh ?_)
    refine st1 hp (enRow ⟨s, g, e, t', q', 3, cell, was, opn⟩ won) rfl (by simp) rfl rfl fun h' hp => ?_
    (repeat first|refine wx ?_|refine wy ?_|refine wz ?_|refine wv ?_|refine wh ?_)
    refine T_decision hp hs hA fun h' hp => ?_
    exact flat (f' := ⟨s, g, e, t', q', 3, cell, was, decide (A.at (baseOf s) = stateW g 0)⟩) hK rfl rfl rfl hp
  · (repeat first|refine wx ?_|refine wy ?_|refine wz ?_|refine wv ?_|refine wh ?_)
    refine st1 hp (enRow ⟨s, g, e, t', q', 4, cell, was, opn⟩ won) rfl (by simp) rfl rfl fun h' hp => ?_
    (repeat first|refine wx ?_|refine wy ?_|refine wz ?_|refine wv ?_|refine wh ?_)
    refine la1 hp (c := [i64 s, i64 g, i64 e, i64 t', i64 q']) (by simp) rfl ?_
    refine T_Number_entry ⟨hs.s0, hs.s1, hs.g0, hs.g1, e0, e1, ok.t0, ok.t1, ok.q0, ok.q1⟩ ?_
    refine T_settle hp hs c0 c1 wr fun h' hp => ?_
    exact flat (f' := ⟨s, g, e, t', q', 4, cell, was, opn⟩) hK rfl rfl rfl hp
theorem T_through {TT : TypeId} {s g cell was : Int} {opn won : Bool} {rest' : List Value} {sz : Nat} {P : Part} (hp : All (P :: pts b (heldRow TT s g cell was opn won rest' sz) :: R) h) (hK : K (.agg [i64 s, i64 g].toArray) h) : T Try.prog 72 [ptr b] h K := by
  apply T.drop
  apply S72_T
  unfold S72
  intro c hc
  have l := (HLe.refl h).new (.row 102 [i64 0, i64 0] 2 true) hc
  have hp := hp.le l
  (repeat first|refine wx ?_|refine wy ?_|refine wz ?_|refine wv ?_|refine wh ?_)
  refine la1 hp (c := [i64 s, i64 g]) (by simp [heldRow]) rfl ?_
  refine bnd_of (v := upd h c (.row 102 [i64 s, i64 g] 2 true)) (by rw [stV_same]; rfl) ?_
  refine bnd_of (v := .agg [i64 s, i64 g].toArray) (by rw [ldV_same_agg]; rfl) ?_
  exact ⟨h, (HLe.refl h).new _ hc, hK⟩
variable {fr : Fr} {P : Part}
theorem IV_through (hp : All (P :: frB hd b fr :: R) h) (hK : K (.agg [i64 fr.s, i64 fr.g].toArray) h) : ivV Try.prog (.iface (frT fr) (ptr b)) "pawl/mcas.through" [] h K := by
  have hp1 : All (frB hd b fr :: P :: R) h := hp.up 1
  cases fr with
  | who w =>
    obtain ⟨oth, hp1⟩ := All.ex hp1
    obtain ⟨to, hp1⟩ := All.ex hp1
    have hp2 := (All.pure hp1).2
    have hp3 : All (pts b (whRow w hd oth to) :: _) h := All.flat hp2
    have hp4 : All (emp :: pts b (whRow w hd oth to) :: []) h := All.emp_cons (hp3.sel [0]) trivial
    exact ⟨_, _, fun w => (by kernel_rfl : (method (Try.prog.types.size + Made.depth) 106 (ptr b) "pawl/mcas.through").run Try.prog w = .ok (72, .pointer (some ⟨b, 0 + 0, none⟩)) w), T_through hp4 hK⟩
  | ent f =>
    obtain ⟨won, hp1⟩ := All.ex hp1
    have hp4 : All (emp :: pts b (enRow f won) :: []) h := All.emp_cons (All.sel [0] hp1) trivial
    exact ⟨_, _, fun w => (by kernel_rfl : (method (Try.prog.types.size + Made.depth) 116 (ptr b) "pawl/mcas.through").run Try.prog w = .ok (72, .pointer (some ⟨b, 0 + 0, none⟩)) w), T_through hp4 hK⟩
theorem IV_step (hp : All (arP 84 a A :: frB hd b fr :: pts hd (hdRow t q rest) :: R) h) (ok : fr.ok) (t0 : 0 ≤ t) (t1 : t < 4) (q0 : 0 ≤ q) (q1 : q < 1048576)
    (hK : Left a hd b t rest (fr.step t q A) R fun v h => K (.tuple #[v, .bool (fr.step t q A).over, .bool (fr.step t q A).good]) h) : ivV Try.prog (.iface (frT fr) (ptr b)) "pawl/mcas.step" [ptr a] h K := by
  cases fr with
  | who w => exact ⟨_, _, fun w => (by kernel_rfl : (method (Try.prog.types.size + Made.depth) 106 (ptr b) "pawl/mcas.step").run Try.prog w = .ok (71, ptr b) w), T_whoStep hp ok t0 t1 q0 q1 hK⟩
  | ent f => exact ⟨_, _, fun w => (by kernel_rfl : (method (Try.prog.types.size + Made.depth) 116 (ptr b) "pawl/mcas.step").run Try.prog w = .ok (91, ptr b) w), T_entStep hp ok hK⟩
end
end Go.Proofs.Ytbiappodepnbmaa
namespace Go.Proofs.Ytbiappodepnbmaa
open Go GW Go.Proofs
attribute [local irreducible] bnd ldV stV ifV binV eqI
set_option linter.unusedVariables false
set_option linter.unusedSimpArgs false
set_option maxRecDepth 20000
abbrev helpRow (H : Help) (sv lv : Value) : GObj := hdRow H.t H.q [sv, lv, .bool H.won, .bool H.over]
def lastP (lv : Value) (slot gen : Int) : Part := fun h => (lv = .pointer none ∧ slot = -1 ∧ gen = 0) ∨ ∃ c, lv = ptr c ∧ pts c (.row 102 [i64 slot, i64 gen] 2 true) h
def stkP (b : Nat) : List Value → List Fr → Part
  | [], [] => emp
  | v :: vs, f :: fs => fun h => All [frP b v f, stkP b vs fs] h
  | _, _ => fun _ => False
def sliceOf (v : Value) (vs : List Value) : List (List Value) := (vs.reverse ++ [v]).map fun x => [x]
def stackP (b : Nat) (sv : Value) (H : Help) : Part := fun h => H.over = false → ∃ v vs, All [rowP 1 sv (sliceOf v vs), frP b v H.top, stkP b vs H.rest] h
def helpP (b : Nat) (H : Help) : Part := fun h => ∃ sv lv, All [pts b (helpRow H sv lv), lastP lv H.slot H.gen, stackP b sv H] h
theorem stk_len {b : Nat} : ∀ {vs : List Value} {fs : List Fr} {h : GH}, stkP b vs fs h → vs.length = fs.length := by
  intro vs
  induction vs with
  | nil => intro fs h p; cases fs with
    | nil => rfl
    | cons f fs => exact p.elim
  | cons v vs ih => intro fs h p; cases fs with
    | nil => exact p.elim
    | cons f fs =>
      obtain ⟨h1, h2, _, _, _, _, q⟩ := p
      obtain ⟨h1, h2, _, _, _, q, _⟩ := q
      simp [ih q]
theorem iface_good (t : TypeId) (v : Value) : good 1 [.iface t v] := ⟨rfl, rfl⟩
section
variable {a b : Nat} {A : Ar} {R : List Part} {h : GH} {K : Value → GH → Prop} {H : Help}
theorem helpP_shut {sv lv : Value} {P : Part} {H' : Help} (hp : All (P :: pts b (helpRow H' sv lv) :: lastP lv H'.slot H'.gen :: R) h) (e : H'.over = true) : All (P :: helpP b H' :: R) h := by
  have h1 : All (pts b (helpRow H' sv lv) :: lastP lv H'.slot H'.gen :: stackP b sv H' :: P :: R) h := ((hp.up 2).up 2).mono2 fun _ z => z.mono2 fun _ z => All.emp_cons z fun q => by rw [e] at q; cases q
  have h2 := All.fold (l := [_, _, _]) h1
  exact (h2.head fun h1 z => ⟨sv, lv, z⟩).up 1
theorem helpP_shut2 {sv lv v : Value} {vs : List Value} {P : Part} {H' : Help} (hp : All (P :: pts b (helpRow H' sv lv) :: lastP lv H'.slot H'.gen :: rowP 1 sv (sliceOf v vs) :: frP b v H'.top :: stkP b vs H'.rest :: R) h) : All (P :: helpP b H' :: R) h := by
  have h1 := All.fold (l := [_, _, _]) (hp.re 6 [3, 4, 5, 0, 1, 2])
  have h2 : All (stackP b sv H' :: P :: pts b (helpRow H' sv lv) :: lastP lv H'.slot H'.gen :: R) h := h1.head fun _ z _ => ⟨v, vs, z⟩
  have h3 := All.fold (l := [_, _, _]) (h2.re 4 [2, 3, 0, 1])
  exact (h3.head fun h1 z => ⟨sv, lv, z⟩).up 1
theorem Fr.over_atop {t q : Int} (f : Fr) : (f.step t q A).over = true → (f.step t q A).atop = none := by
  cases f with
  | who w =>
    simp only [Fr.step]
    unfold Wh.step
    split <;> first | (intro _; rfl) | skip
    · unfold Wh.swapIn
      simp only
      split
      · intro e; cases e
      · split <;> first | (intro e; cases e; done) | (split <;> (intro e; cases e))
    · simp only
      split <;> (intro e; cases e)
  | ent f =>
    simp only [Fr.step]
    unfold En.step
    split <;> (intro _; rfl)
theorem Fr.step_kind {t q : Int} (f : Fr) : frT (f.step t q A).fr = frT f := by
  cases f with
  | who w =>
    simp only [Fr.step]
    unfold Wh.step
    split <;> first | rfl | skip
    · unfold Wh.swapIn
      simp only
      split
      · rfl
      · split <;> first | rfl | (split <;> rfl)
    · simp only
      split <;> rfl
  | ent f =>
    simp only [Fr.step]
    unfold En.step
    split <;> rfl
theorem Help.step_eq (e : H.over = false) : H.step A = ((H.take (H.top.step H.t H.q A)).1, (H.take (H.top.step H.t H.q A)).2, (H.top.step H.t H.q A).a) := by
  unfold Help.step; rw [e]; rfl
theorem T_Step (hp : All (arP 84 a A :: helpP b H :: R) h) (ok : H.ok)
    (hK : ∀ h', All (arP 84 a (H.step A).2.2 :: helpP b (H.step A).1 :: R) h' → K (.tuple #[.bool (H.step A).1.over, i64 (H.step A).2.1]) h') : T Try.prog 35 [ptr b, ptr a] h K := by
  apply S35_T
  unfold S35
  have hp1 : All (helpP b H :: arP 84 a A :: R) h := hp.up 1
  obtain ⟨sv, hp1⟩ := All.ex hp1
  obtain ⟨lv, hp1⟩ := All.ex hp1
  have hp2 : All (pts b (helpRow H sv lv) :: lastP lv H.slot H.gen :: stackP b sv H :: arP 84 a A :: R) h := All.flat hp1
  replace hp : All (arP 84 a A :: pts b (helpRow H sv lv) :: lastP lv H.slot H.gen :: stackP b sv H :: R) h := hp2.up 3
  (repeat first|refine wx ?_|refine wy ?_|refine wz ?_|refine wv ?_|refine wh ?_)
  unfold S35_j1
  (repeat first|refine wx ?_|refine wy ?_|refine wz ?_|refine wv ?_|refine wh ?_)
  refine ifV_bool (fun c => ?_) fun c => ?_
  · have e : H.step A = (H, 0, A) := by unfold Help.step; rw [c]; rfl
    rw [e] at hK
    simp only at hK
    rw [c] at hK
    exact hK _ (helpP_shut (hp.mono2 fun _ z => z.mono2 fun _ z => z.mono2 fun _ z => z.tail) c)
  unfold S35_j2
  have hs : All (stackP b sv H :: arP 84 a A :: pts b (helpRow H sv lv) :: lastP lv H.slot H.gen :: R) h := hp.up 3
  have hs2 := hs.head fun _ z => z c
  obtain ⟨v, hs2⟩ := All.ex hs2
  obtain ⟨vs, hs2⟩ := All.ex hs2
  have hs3 : All (rowP 1 sv (sliceOf v vs) :: frP b v H.top :: stkP b vs H.rest :: arP 84 a A :: pts b (helpRow H sv lv) :: lastP lv H.slot H.gen :: R) h := All.flat hs2
  have hlen : vs.length = H.rest.length := by
    obtain ⟨h1, _, _, _, _, z, _⟩ := All.up hs3 2
    exact stk_len z
  have hv : (sliceOf v vs)[vs.length]? = some [v] := by simp [sliceOf]
  have hl : (sliceOf v vs).length = vs.length + 1 := by simp [sliceOf]
  obtain ⟨ok1, ok2, ok3⟩ := ok.frames c
  have okt := ok.t0; have okt1 := ok.t1; have okq := ok.q0; have okq1 := ok.q1
  obtain ⟨blk, el, eld, _, _⟩ := hs3.elt hv .i64
  (repeat first|refine wx ?_|refine wy ?_|refine wz ?_|refine wv ?_|refine wh ?_)
  refine bnd_of hs3.len ?_
  refine bnd_of (sub_id (by omega) (by omega)) ?_
  have en : (((sliceOf v vs).length : Nat) : Int) - 1 = (vs.length : Nat) := by omega
  (repeat first|refine wx ?_|refine wy ?_|refine wz ?_|refine wv ?_|refine wh ?_)
  rw [en]
  refine bnd_of el (bnd_of (eld 0 1 v rfl) ?_)
  have hs4 : All (frP b v H.top :: rowP 1 sv (sliceOf v vs) :: stkP b vs H.rest :: arP 84 a A :: pts b (helpRow H sv lv) :: lastP lv H.slot H.gen :: R) h := hs3.up 1
  have hs5 := hs4.head fun _ z => frP_iff.1 z
  obtain ⟨f, hs5⟩ := All.ex hs5
  obtain ⟨ev, hs5⟩ := All.pure hs5
  subst ev
  replace hp : All (arP 84 a A :: frB b f H.top :: pts b (helpRow H sv lv) :: lastP lv H.slot H.gen :: rowP 1 sv (sliceOf (.iface (frT H.top) (ptr f)) vs) :: stkP b vs H.rest :: R) h := hs5.re 6 [3, 0, 4, 5, 1, 2]
  refine IV_through hp ?_
  refine nwst hp (.row 102 [i64 H.top.s, i64 H.top.g] 2 true) rfl rfl rfl (by rfl) fun c' h1 hp => ?_
  replace hp : All (pts b (helpRow H sv lv) :: arP 84 a A :: frB b f H.top :: pts c' (.row 102 [i64 H.top.s, i64 H.top.g] 2 true) :: rowP 1 sv (sliceOf (.iface (frT H.top) (ptr f)) vs) :: stkP b vs H.rest :: R) h1 := hp.re 7 [3, 1, 2, 0, 5, 6]
  (repeat first|refine wx ?_|refine wy ?_|refine wz ?_|refine wv ?_|refine wh ?_)
  refine st0 hp (hdRow H.t H.q [sv, ptr c', .bool H.won, .bool H.over]) rfl (by simp) rfl rfl fun h2 hp => ?_
  refine IV_step (rest := [sv, ptr c', .bool H.won, .bool H.over]) (R := pts c' (.row 102 [i64 H.top.s, i64 H.top.g] 2 true) :: rowP 1 sv (sliceOf (.iface (frT H.top) (ptr f)) vs) :: stkP b vs H.rest :: R) (hp.re 3 [1, 2, 0]) ok1 okt okt1 okq okq1 ?_
  rw [Help.step_eq c] at hK
  have hov := Fr.over_atop (A := A) (t := H.t) (q := H.q) H.top
  have hkd := Fr.step_kind (A := A) (t := H.t) (q := H.q) H.top
  generalize H.top.step H.t H.q A = o at hK hov hkd ⊢
  intro av h3 hp
  (repeat first|refine wx ?_|refine wy ?_|refine wz ?_|refine wv ?_|refine wh ?_)
  cases hg : o.good with
  | false =>
    have e : H.take o = ({ H with q := o.q, top := o.fr, slot := H.top.s, gen := H.top.g, over := true }, 1400) := by unfold Help.take; rw [if_pos hg]
    rw [e] at hK
    (repeat first|refine wx ?_|refine wy ?_|refine wz ?_|refine wv ?_|refine wh ?_)
    have hp4 : All (pts b (hdRow H.t o.q [sv, ptr c', .bool H.won, .bool H.over]) :: arP 84 a o.a :: pts c' (.row 102 [i64 H.top.s, i64 H.top.g] 2 true) :: R) h3 := hp.re 7 [3, 0, 4]
    refine st0 hp4 (hdRow H.t o.q [sv, ptr c', .bool H.won, .bool true]) rfl (by simp) rfl rfl fun h4 hp => ?_
    refine hK _ (helpP_shut (sv := sv) (lv := ptr c') ?_ rfl)
    exact (hp.up 1).mono2 fun _ z => z.mono2 fun _ z => z.head fun _ z => .inr ⟨c', rfl, z⟩
  | true =>
    (repeat first|refine wx ?_|refine wy ?_|refine wz ?_|refine wv ?_|refine wh ?_)
    replace hp := (hp.up 1).head fun _ z => z hg
    cases ha : o.atop.bind newFr with
    | none =>
      rw [ha] at hp
      have ev : av = .nilIface := by
        have : All (atP b av none :: _) _ := hp.up 2
        exact All.case this fun h1 p _ => p
      subst ev
      (repeat first|refine wx ?_|refine wy ?_|refine wz ?_|refine wv ?_|refine wh ?_)
      unfold S35_j3
      (repeat first|refine wx ?_|refine wy ?_|refine wz ?_|refine wv ?_|refine wh ?_)
      unfold S35_j4
      cases hov2 : o.over with
      | false =>
        have e : H.take o = ({ H with q := o.q, top := o.fr, slot := H.top.s, gen := H.top.g }, 0) := by
          unfold Help.take; rw [if_neg (by rw [hg]; decide), ha]; simp only [hov2]; rfl
        rw [e] at hK
        simp only at hK
        (repeat first|refine wx ?_|refine wy ?_|refine wz ?_|refine wv ?_|refine wh ?_)
        refine hK _ ?_
        have hq : All (arP 84 a o.a :: pts b (hdRow H.t o.q [sv, ptr c', .bool H.won, .bool H.over]) :: pts c' (.row 102 [i64 H.top.s, i64 H.top.g] 2 true) :: rowP 1 sv (sliceOf (.iface (frT H.top) (ptr f)) vs) :: frB b f o.fr :: stkP b vs H.rest :: R) _ := hp.re 7 [1, 3, 4, 5, 0, 6]
        refine helpP_shut2 (sv := sv) (lv := ptr c') (v := .iface (frT H.top) (ptr f)) (vs := vs) (H' := { H with q := o.q, top := o.fr, slot := H.top.s, gen := H.top.g }) (hq.mono2 fun _ z => z.mono2 fun _ z => ?_)
        refine (z.head (Q := lastP (ptr c') H.top.s H.top.g) fun _ z => .inr ⟨c', rfl, z⟩).mono2 fun _ z => z.mono2 fun _ z => z.head fun _ z => ?_
        exact frP_iff.2 ⟨f, by rw [hkd], z⟩
      | true =>
        (repeat first|refine wx ?_|refine wy ?_|refine wz ?_|refine wv ?_|refine wh ?_)
        have hq : All (rowP 1 sv (sliceOf (.iface (frT H.top) (ptr f)) vs) :: pts b (hdRow H.t o.q [sv, ptr c', .bool H.won, .bool H.over]) :: arP 84 a o.a :: pts c' (.row 102 [i64 H.top.s, i64 H.top.g] 2 true) :: frB b f o.fr :: stkP b vs H.rest :: R) _ := hp.re 7 [5, 3, 1, 4, 0, 6]
        clear hp
        obtain ⟨sv', esl, hq⟩ := hq.cut (n := vs.length) (by omega) .i64
        refine bnd_of esl ?_
        obtain ⟨sa, sc, _, rfl, _⟩ := hq.row
        (repeat first|refine wx ?_|refine wy ?_|refine wz ?_|refine wv ?_|refine wh ?_)
        refine st1 hq (hdRow H.t o.q [.slice sa ((sliceOf (.iface (frT H.top) (ptr f)) vs).take vs.length).length sc, ptr c', .bool H.won, .bool H.over]) rfl (by simp) rfl rfl fun h4 hq => ?_
        (repeat first|refine wx ?_|refine wy ?_|refine wz ?_|refine wv ?_|refine wh ?_)
        refine st1 hq (hdRow H.t o.q [.slice sa ((sliceOf (.iface (frT H.top) (ptr f)) vs).take vs.length).length sc, ptr c', .bool H.won, .bool (decide ((vs.length : Int) = 0))]) rfl (by simp) rfl rfl fun h5 hp => ?_
        obtain ⟨fr', at', ov', gd', a', q'⟩ := o
        simp only at hg ha hov2 hkd hp hK
        subst hg hov2
        cases hr : H.rest with
        | nil =>
          have hv0 : vs = [] := List.eq_nil_of_length_eq_zero (by rw [hlen, hr]; rfl)
          subst hv0
          have e : H.take ⟨fr', at', true, true, a', q'⟩ = ({ H with q := q', top := fr', slot := H.top.s, gen := H.top.g, won := fr'.won, over := true }, 0) := by
            unfold Help.take; simp only [ha, hr]; rfl
          rw [e] at hK
          simp only at hK
          have fin : ∀ {h6 : GH} {u : Bool} {P1 P4 P5 : Part} {sv2 : Value}, u = fr'.won → All (P1 :: pts b (hdRow H.t q' [sv2, ptr c', .bool u, .bool true]) :: arP 84 a a' :: pts c' (.row 102 [i64 H.top.s, i64 H.top.g] 2 true) :: P4 :: P5 :: R) h6 → K (.tuple #[.bool true, i64 0]) h6 := by
            intro h6 u P1 P4 P5 sv2 eu hp
            refine hK _ (helpP_shut (sv := sv2) (lv := ptr c') ?_ rfl)
            rw [← eu]
            exact (All.re hp 6 [2, 1, 3]).mono2 fun _ z => z.mono2 fun _ z => z.head fun _ z => .inr ⟨c', rfl, z⟩
          cases fr' with
          | who w =>
            rw [← hkd]
            (repeat first|refine wx ?_|refine wy ?_|refine wz ?_|refine wv ?_|refine wh ?_)
            have hw : All (arP 84 a a' :: whP b f w :: rowP 1 _ _ :: pts b _ :: pts c' _ :: stkP b [] H.rest :: R) _ := hp.re 6 [2, 4, 0, 1, 3, 5]
            refine whP_open hw fun oth to ho h13 hw => ?_
            replace hw : All (rowP 1 _ _ :: pts b _ :: pts f (whRow w b oth to) :: arP 84 a a' :: pts c' _ :: stkP b [] H.rest :: R) _ := hw.re 7 [3, 4, 1, 0, 5, 6]
            clear hp
            have hp := hw
            (repeat first|refine wx ?_|refine wy ?_|refine wz ?_|refine wv ?_|refine wh ?_)
            refine st1 hw (hdRow H.t q' [.slice sa ((sliceOf (.iface (frT H.top) (ptr f)) []).take 0).length sc, ptr c', .bool w.won, .bool true]) rfl (by simp) rfl rfl fun h6 hp => ?_
            (repeat first|refine wx ?_|refine wy ?_|refine wz ?_|refine wv ?_|refine wh ?_)
            exact fin (u := w.won) rfl (hp.re 6 [0, 1, 3, 4, 2, 5])
          | ent f' =>
            rw [← hkd]
            (repeat first|refine wx ?_|refine wy ?_|refine wz ?_|refine wv ?_|refine wh ?_)
            refine st1 hp (hdRow H.t q' [.slice sa ((sliceOf (.iface (frT H.top) (ptr f)) []).take 0).length sc, ptr c', .bool false, .bool true]) rfl (by simp) rfl rfl fun h6 hp => ?_
            (repeat first|refine wx ?_|refine wy ?_|refine wz ?_|refine wv ?_|refine wh ?_)
            exact fin (u := false) rfl hp
        | cons r rs =>
          obtain ⟨v1, vs1, rfl⟩ : ∃ v1 vs1, vs = v1 :: vs1 := by
            cases vs with
            | nil => rw [hr] at hlen; cases hlen
            | cons v1 vs1 => exact ⟨v1, vs1, rfl⟩
          have e : H.take ⟨fr', at', true, true, a', q'⟩ = ({ H with q := q', top := r, rest := rs, slot := H.top.s, gen := H.top.g, won := false }, 0) := by
            unfold Help.take; simp only [ha, hr]; rfl
          rw [e] at hK
          simp only at hK
          have esl2 : (sliceOf (.iface (frT H.top) (ptr f)) (v1 :: vs1)).take (v1 :: vs1).length = sliceOf v1 vs1 := by
            unfold sliceOf; rw [← List.map_take, List.take_left' (by simp), List.reverse_cons]
          rw [esl2] at hp
          rw [hr] at hp
          have d0 : decide (((v1 :: vs1).length : Int) = 0) = false := decide_eq_false (by simp only [List.length_cons]; omega)
          rw [d0] at hp
          have fin : ∀ {h6 : GH} , All (rowP 1 (.slice sa (sliceOf v1 vs1).length sc) (sliceOf v1 vs1) :: pts b (hdRow H.t q' [.slice sa (sliceOf v1 vs1).length sc, ptr c', .bool false, .bool false]) :: arP 84 a a' :: pts c' (.row 102 [i64 H.top.s, i64 H.top.g] 2 true) :: frB b f fr' :: stkP b (v1 :: vs1) (r :: rs) :: R) h6 → K (.tuple #[.bool H.over, i64 0]) h6 := by
            intro h6 hp
            replace hp : All (rowP 1 (.slice sa (sliceOf v1 vs1).length sc) (sliceOf v1 vs1) :: pts b (hdRow H.t q' [.slice sa (sliceOf v1 vs1).length sc, ptr c', .bool false, .bool H.over]) :: arP 84 a a' :: pts c' (.row 102 [i64 H.top.s, i64 H.top.g] 2 true) :: frB b f fr' :: stkP b (v1 :: vs1) (r :: rs) :: R) h6 := by rw [c]; exact hp
            refine hK _ (helpP_shut2 (H' := { H with q := q', top := r, rest := rs, slot := H.top.s, gen := H.top.g, won := false }) (sv := .slice sa (sliceOf v1 vs1).length sc) (lv := ptr c') (v := v1) (vs := vs1) ?_)
            have h7 : All (stkP b (v1 :: vs1) (r :: rs) :: arP 84 a a' :: pts b _ :: pts c' _ :: rowP 1 _ (sliceOf v1 vs1) :: R) _ := hp.re 6 [5, 2, 1, 3, 0]
            have h8 : All (frP b v1 r :: stkP b vs1 rs :: arP 84 a a' :: pts b _ :: pts c' _ :: rowP 1 _ (sliceOf v1 vs1) :: R) _ := All.flat h7
            exact (h8.re 6 [2, 3, 4, 5, 0, 1]).mono2 fun _ z => z.mono2 fun _ z => z.head fun _ z => .inr ⟨c', rfl, z⟩
          cases fr' with
          | who w =>
            rw [← hkd]
            (repeat first|refine wx ?_|refine wy ?_|refine wz ?_|refine wv ?_|refine wh ?_)
            refine st1 hp (hdRow H.t q' [.slice sa (sliceOf v1 vs1).length sc, ptr c', .bool false, .bool false]) rfl (by simp) rfl rfl fun h6 hp => ?_
            (repeat first|refine wx ?_|refine wy ?_|refine wz ?_|refine wv ?_|refine wh ?_)
            have := fin hp
            rw [c] at this
            exact this
          | ent f' =>
            rw [← hkd]
            (repeat first|refine wx ?_|refine wy ?_|refine wz ?_|refine wv ?_|refine wh ?_)
            refine st1 hp (hdRow H.t q' [.slice sa (sliceOf v1 vs1).length sc, ptr c', .bool false, .bool false]) rfl (by simp) rfl rfl fun h6 hp => ?_
            (repeat first|refine wx ?_|refine wy ?_|refine wz ?_|refine wv ?_|refine wh ?_)
            have := fin hp
            rw [c] at this
            exact this
    | some fr =>
      have ho : o.over = false := by
        cases e : o.over with
        | false => rfl
        | true => rw [hov e] at ha; cases ha
      rw [ha] at hp
      have hp1 : All (frP b av fr :: rowP 1 sv (sliceOf (.iface (frT H.top) (ptr f)) vs) :: pts b (hdRow H.t o.q [sv, ptr c', .bool H.won, .bool H.over]) :: arP 84 a o.a :: pts c' (.row 102 [i64 H.top.s, i64 H.top.g] 2 true) :: frB b f o.fr :: stkP b vs H.rest :: R) _ := hp.re 7 [2, 5, 3, 1, 4, 0, 6]
      clear hp
      have hp2 := hp1.head fun _ z => frP_iff.1 z
      obtain ⟨d, hp3⟩ := All.ex hp2
      obtain ⟨ev, hp4⟩ := All.pure hp3
      clear hp1 hp2 hp3
      subst ev
      have hp : All (rowP 1 sv (sliceOf (.iface (frT H.top) (ptr f)) vs) :: pts b (hdRow H.t o.q [sv, ptr c', .bool H.won, .bool H.over]) :: arP 84 a o.a :: pts c' (.row 102 [i64 H.top.s, i64 H.top.g] 2 true) :: frB b f o.fr :: stkP b vs H.rest :: frB b d fr :: R) h3 := hp4.re 7 [1, 2, 3, 4, 5, 6, 0]
      (repeat first|refine wx ?_|refine wy ?_|refine wz ?_|refine wv ?_|refine wh ?_)
      refine bnd_of hp.len ?_
      (repeat first|refine wx ?_|refine wy ?_|refine wz ?_|refine wv ?_|refine wh ?_)
      refine ifV_cases (fun c18 => ?_) fun c18 => ?_
      · (repeat first|refine wx ?_|refine wy ?_|refine wz ?_|refine wv ?_|refine wh ?_)
        refine st1 hp (hdRow H.t o.q [sv, ptr c', .bool H.won, .bool true]) rfl (by simp) rfl rfl fun h4 hp => ?_
        have e : H.take o = ({ H with q := o.q, top := o.fr, slot := H.top.s, gen := H.top.g, over := true }, 1400) := by
          unfold Help.take; rw [if_neg (by rw [hg]; decide), ha]; simp only; rw [if_pos (by omega)]
        rw [e] at hK
        refine hK _ (helpP_shut (sv := sv) (lv := ptr c') ?_ rfl)
        exact (hp.re 7 [2, 1, 3]).mono2 fun _ z => z.mono2 fun _ z => z.head fun _ z => .inr ⟨c', rfl, z⟩
      · have e : H.take o = ({ H with q := o.q, rest := o.fr :: H.rest, top := fr, slot := H.top.s, gen := H.top.g }, 0) := by
          unfold Help.take; rw [if_neg (by rw [hg]; decide), ha]; simp only; rw [if_neg (by omega)]
        rw [e] at hK
        simp only at hK
        unfold S35_j3
        (repeat first|refine wx ?_|refine wy ?_|refine wz ?_|refine wv ?_|refine wh ?_)
        refine bs0 hp [[Value.iface (frT fr) (ptr d)]] rfl rfl (by simp) (fun c hc => by rw [List.mem_singleton.1 hc]; exact iface_good _ _) fun xv h4 hp => ?_
        refine ap0 (hp.up 1) hp.rows (fun c hc => by rw [List.mem_singleton.1 hc]; exact iface_good _ _) (by decide) (by simp only [List.length_singleton]; omega) fun sv' h5 hp => ?_
        obtain ⟨sa, sc, _, rfl, _⟩ := hp.row
        (repeat first|refine wx ?_|refine wy ?_|refine wz ?_|refine wv ?_|refine wh ?_)
        refine st2 hp (hdRow H.t o.q [.slice sa (sliceOf (.iface (frT H.top) (ptr f)) vs ++ [[Value.iface (frT fr) (ptr d)]]).length sc, ptr c', .bool H.won, .bool H.over]) rfl (by simp) rfl rfl fun h6 hp => ?_
        unfold S35_j4
        rw [ho]
        (repeat first|refine wx ?_|refine wy ?_|refine wz ?_|refine wv ?_|refine wh ?_)
        refine hK _ (helpP_shut2 (H' := { H with q := o.q, rest := o.fr :: H.rest, top := fr, slot := H.top.s, gen := H.top.g }) (sv := .slice sa (sliceOf (.iface (frT H.top) (ptr f)) vs ++ [[Value.iface (frT fr) (ptr d)]]).length sc) (lv := ptr c') (v := .iface (frT fr) (ptr d)) (vs := .iface (frT H.top) (ptr f) :: vs) ?_)
        have esl : sliceOf (.iface (frT H.top) (ptr f)) vs ++ [[Value.iface (frT fr) (ptr d)]] = sliceOf (.iface (frT fr) (ptr d)) (.iface (frT H.top) (ptr f) :: vs) := by
          simp [sliceOf]
        rw [esl] at hp ⊢
        have h7 : All (frB b f o.fr :: stkP b vs H.rest :: arP 84 a o.a :: pts b _ :: pts c' _ :: rowP 1 _ _ :: frB b d fr :: R) _ := hp.re 8 [5, 6, 3, 2, 4, 0, 7]
        have h8 := All.fold (l := [_, _]) (h7.head (Q := frP b (.iface (frT H.top) (ptr f)) o.fr) fun _ z => frP_iff.2 ⟨f, by rw [hkd], z⟩)
        have h9 : All (arP 84 a o.a :: pts b _ :: pts c' _ :: rowP 1 _ _ :: frB b d fr :: stkP b (.iface (frT H.top) (ptr f) :: vs) (o.fr :: H.rest) :: R) _ := h8.re 6 [1, 2, 3, 4, 5, 0]
        exact h9.mono2 fun _ z => z.mono2 fun _ z => (z.head (Q := lastP (ptr c') H.top.s H.top.g) fun _ z => .inr ⟨c', rfl, z⟩).mono2 fun _ z => z.mono2 fun _ z => z.head fun _ z => frP_iff.2 ⟨d, rfl, z⟩
end
end Go.Proofs.Ytbiappodepnbmaa
