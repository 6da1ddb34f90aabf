/- The operations of the loaded code over ghost heaps: what each of them needs and gives, as plain functions, and that the model's own runs do just that. Nothing here is a statement on the program. -/
import Derived.Test.YtkcgphbgbibhfaaG1
namespace Go.Proofs.Ytkcgphbgbibhfaa.GW
open Go
set_option linter.unusedVariables false
set_option linter.unusedSimpArgs false

/-! ### values -/
def pickV (c a b : Value) : Option Value := match c with | .bool true => some a | .bool false => some b | _ => none

def intB (op : BinOp) (k : IntKind) (a b : Int) : Option Value :=
  match op with
  | .add => some (.int k (k.wrap (a + b)))
  | .sub => some (.int k (k.wrap (a - b)))
  | .mul => some (.int k (k.wrap (a * b)))
  | .quo => if b = 0 then none else some (.int k (k.wrap (a.tdiv b)))
  | .rem => if b = 0 then none else some (.int k (a.tmod b))
  | .and => some (.int k (k.wrap (BitVec.ofInt k.bits a &&& BitVec.ofInt k.bits b).toNat))
  | .or => some (.int k (k.wrap (BitVec.ofInt k.bits a ||| BitVec.ofInt k.bits b).toNat))
  | .xor => some (.int k (k.wrap (BitVec.ofInt k.bits a ^^^ BitVec.ofInt k.bits b).toNat))
  | .andNot => some (.int k (k.wrap (BitVec.ofInt k.bits a &&& ~~~BitVec.ofInt k.bits b).toNat))
  | .eql => some (.bool (a == b))
  | .neq => some (.bool (a != b))
  | .lss => some (.bool (decide (a < b)))
  | .leq => some (.bool (decide (a ≤ b)))
  | .gtr => some (.bool (decide (a > b)))
  | .geq => some (.bool (decide (a ≥ b)))
  | _ => none

/-- operations on two whole numbers (of one kind; shifts: of any) -/
def binV (op : BinOp) (x y : Value) : Option Value :=
  match x, y with
  | .int k a, .int k' b =>
    match op with
    | .shl => if b < 0 then none else some (.int k (k.wrap (a * 2 ^ min b.toNat k.bits)))
    | .shr => if b < 0 then none else some (.int k (a.fdiv (2 ^ min b.toNat k.bits)))
    | _ => if k = k' then intB op k a b else none
  | _, _ => none

theorem run_binOp_int {P : Program} {op : BinOp} {t : TypeId} {x y v : Value} (h : binV op x y = some v) (w : World) : (binOp op t x y).run P w = .ok v w := by
  unfold binV at h
  split at h
  · rename_i k a k' b
    split at h
    · split at h
      · cases h
      · rename_i hb; cases h; simp [binOp, Op.shift, hb]
    · split at h
      · cases h
      · rename_i hb; cases h; simp [binOp, Op.shift, hb]
    · split at h
      · rename_i hk; subst hk
        unfold intB at h
        cases op <;> simp only [reduceCtorEq] at h <;>
          first
            | (cases h; done)
            | (cases h; simp [binOp, Op.intArith, Op.intBits, Op.intCmp]; done)
            | (split at h <;> first | (cases h; done) | (rename_i hb; cases h; simp [binOp, Op.intDiv, hb]; done))
            | (rename_i q1 q2; exact absurd rfl (q1 ·) )
            | (simp_all)
      · cases h
  · cases h

theorem run_eqGuard_int {P : Program} {op : BinOp} {t : TypeId} {x y : Operand} {a b v : Value} (h : binV op a b = some v) (w : World) : (eqGuard op t x y a b).run P w = .ok () w := by
  unfold binV at h
  split at h
  · cases op <;> simp [eqGuard]
  · cases h

/-- '==' where a side is nil, and on bools -/
def eqN (x y : Value) : Option Bool :=
  match x, y with
  | .bool a, .bool b => some (a == b)
  | .pointer none, .pointer none => some true
  | .pointer none, .pointer (some _) => some false
  | .pointer (some _), .pointer none => some false
  | .nilIface, .nilIface => some true
  | .nilIface, .iface _ _ => some false
  | .iface _ _, .nilIface => some false
  | .slice none _ _, .slice none _ _ => some true
  | .slice none _ _, .slice (some _) _ _ => some false
  | .slice (some _) _ _, .slice none _ _ => some false
  | .nilFunc, .nilFunc => some true
  | .nilFunc, .func _ _ _ => some false
  | .func _ _ _, .nilFunc => some false
  | _, _ => none

/-- the kinds of types at which 'eqN' is Go's '==' -/
def eqNKind (d : TypeDesc) (x : Value) : Bool :=
  match d, x with
  | .bool, .bool _ => true
  | .pointer _, .pointer _ => true
  | .interface _, .nilIface => true
  | .interface _, .iface _ _ => true
  | .slice _, .slice _ _ _ => true
  | .func _ _ _, .nilFunc => true
  | .func _ _ _, .func _ _ _ => true
  | _, _ => false

theorem run_equalIn_nil {P : Program} {n : Nat} {t : TypeId} {d : TypeDesc} (hd : P.underlying t = some d) {x y : Value} {b : Bool} (hk : eqNKind d x = true) (h : eqN x y = some b) (w : World) :
    (Op.equalIn (n + 1) t x y).run P w = .ok b w := by
  unfold eqN at h
  split at h <;> first | (cases h; done) | skip
  all_goals (simp only [Option.some.injEq] at h; subst h; cases d <;> first | (simp [eqNKind] at hk; done) | (simp [Op.equalIn, run_underlying hd]; done))

theorem run_equal_nil {P : Program} {t : TypeId} {d : TypeDesc} (hd : P.underlying t = some d) {x y : Value} {b : Bool} (hk : eqNKind d x = true) (h : eqN x y = some b) (w : World) :
    (Op.equal t x y).run P w = .ok b w := run_equalIn_nil (n := 9999) hd hk h w

/-- '==' of structs and arrays, part by part -/
def partV (P : Program) (t : TypeId) (cs : Array Value) (off : Nat) : Option Value :=
  match P.underlying t with
  | some (.struct _) => some (.agg (cs.extract off (off + P.cellsOf t)))
  | some (.array _ _) => some (.agg (cs.extract off (off + P.cellsOf t)))
  | some _ => cs[off]?
  | none => none

def andB (a : Option Bool) (b : Unit → Option Bool) : Option Bool :=
  match a with
  | some true => b ()
  | some false => some false
  | none => none

/-- both: for values without panics: 'a && b' with both at hand -/
def bothB (a b : Option Bool) : Option Bool :=
  match a, b with
  | some x, some y => some (x && y)
  | _, _ => none

def eqPs (eq : TypeId → Value → Value → Option Bool) (P : Program) (xs ys : Array Value) : List Field → Option Bool
  | [] => some true
  | f :: fs =>
    match f.name == "_" with
    | true => eqPs eq P xs ys fs
    | false =>
      match partV P f.type xs f.offset, partV P f.type ys f.offset with
      | some a, some b => bothB (eq f.type a b) (eqPs eq P xs ys fs)
      | _, _ => none

def eqPa (eq : Value → Value → Option Bool) (P : Program) (e : TypeId) (n : Nat) (xs ys : Array Value) : List Nat → Option Bool
  | [] => some true
  | i :: is =>
    match partV P e xs (i * n), partV P e ys (i * n) with
    | some a, some b => bothB (eq a b) (eqPa eq P e n xs ys is)
    | _, _ => none

def eqP (P : Program) : Nat → TypeId → Value → Value → Option Bool
  | 0, _, _, _ => none
  | d + 1, t, x, y =>
    match P.underlying t with
    | some .bool => match x, y with | .bool a, .bool b => some (a == b) | _, _ => none
    | some (.int _) => match x, y with | .int k a, .int k' b => (match (k == k' : Bool) with | true => some (a == b) | false => none) | _, _ => none
    | some (.struct fs) =>
      match x, y with
      | .agg xs, .agg ys => (match P.stoodInHeld t with | false => eqPs (eqP P d) P xs ys fs.toList | true => none)
      | _, _ => none
    | some (.array len e) =>
      match x, y with
      | .agg xs, .agg ys => (match P.underlying e with | some _ => eqPa (eqP P d e) P e (P.cellsOf e) xs ys (List.range' 0 len) | none => none)
      | _, _ => none
    | _ => none

theorem info_of_cellsOf {P : Program} {t : TypeId} {d : TypeDesc} (h : P.underlying t = some d) : ∃ i, P.info? t = some i ∧ P.cellsOf t = i.size := by
  unfold Program.underlying at h
  cases hi : P.info? t with
  | none => simp [hi] at h
  | some i => exact ⟨i, rfl, by simp [Program.cellsOf, hi]⟩

theorem run_part {P : Program} {t : TypeId} {cs : Array Value} {off : Nat} {v : Value} (h : partV P t cs off = some v) (w : World) : (part t cs off).run P w = .ok v w := by
  unfold partV at h
  cases hd : P.underlying t with
  | none => simp [hd] at h
  | some d =>
    obtain ⟨i, hi, hc⟩ := info_of_cellsOf hd
    cases d <;> simp only [hd] at h <;>
      first
        | (cases h; simp [part, isAgg, run_underlying hd, sizeOf, typeInfo, hi, hc]; done)
        | (simp [part, isAgg, run_underlying hd, h]; done)

theorem bothB_some {a b : Option Bool} {c : Bool} (h : bothB a b = some c) : ∃ x y, a = some x ∧ b = some y ∧ c = (x && y) := by
  unfold bothB at h
  split at h
  · cases h; exact ⟨_, _, rfl, rfl, rfl⟩
  · cases h

theorem run_eqFields {P : Program} {d : Nat} {eq : TypeId → Value → Value → Option Bool} (he : ∀ t x y b, eq t x y = some b → ∀ w, (Op.equalIn d t x y).run P w = .ok b w) (xs ys : Array Value) :
    ∀ (fs : List Field) (b : Bool), eqPs eq P xs ys fs = some b → ∀ w, (Op.eqFields d xs ys fs).run P w = .ok b w := by
  intro fs
  induction fs with
  | nil => intro b h w; simp [eqPs] at h; subst h; simp [Op.eqFields]
  | cons f fs ih =>
    intro b h w
    simp only [eqPs] at h
    split at h
    · rename_i hn
      have hn : f.name = "_" := by simpa using hn
      simp only [Op.eqFields, hn, ne_eq, not_true_eq_false, if_false]
      exact ih b h w
    · rename_i hn
      have hn : f.name ≠ "_" := by simpa using hn
      split at h
      · rename_i va vb h1 h2
        obtain ⟨p, q, hp, hq, rfl⟩ := bothB_some h
        simp only [Op.eqFields, hn, ne_eq, not_false_eq_true, if_true, Sem.run_bind, run_part h1, run_part h2, Result.andThen_ok, he _ _ _ _ hp]
        cases p
        · simp
        · simp [ih q hq w]
      · cases h

theorem run_eqArr {P : Program} {d : Nat} {e : TypeId} {eq : Value → Value → Option Bool} (he : ∀ x y b, eq x y = some b → ∀ w, (Op.equalIn d e x y).run P w = .ok b w) (n : Nat) (xs ys : Array Value) :
    ∀ (is : List Nat) (b : Bool), eqPa eq P e n xs ys is = some b → ∀ w,
      ((Sem.run P
          (forIn is ((none, ()) : Option Bool × Unit) fun i s => do
            let a ← part e xs (i * n)
            let b ← part e ys (i * n)
            let c ← Op.equalIn d e a b
            if (!c) = true then pure (ForInStep.done (some false, ())) else pure (ForInStep.yield (none, ())))
          w).andThen
      fun a w' =>
      Sem.run P
        (match a.fst with
        | some r => pure r
        | none => pure true)
        w') =
    Result.ok b w := by
  intro is
  induction is with
  | nil => intro b h w; simp [eqPa] at h; subst h; simp
  | cons i is ih =>
    intro b h w
    simp only [eqPa] at h
    split at h
    · rename_i va vb h1 h2
      obtain ⟨p, q, hp, hq, rfl⟩ := bothB_some h
      have := ih q hq w
      cases p
      · simp [run_part h1, run_part h2, he _ _ _ hp]
      · simp only [List.forIn_cons, bind_assoc, Sem.run_bind, run_part h1, run_part h2, Result.andThen_ok, he _ _ _ hp, Bool.not_true, Bool.false_eq_true, if_false, Sem.run_pure, Bool.true_and]
        simpa using this
    · cases h

theorem run_eqP {P : Program} : ∀ (d : Nat) (t : TypeId) (x y : Value) (b : Bool), eqP P d t x y = some b → ∀ w, (Op.equalIn d t x y).run P w = .ok b w := by
  intro d
  induction d with
  | zero => intro t x y b h; simp [eqP] at h
  | succ d ih =>
    intro t x y b h w
    simp only [eqP] at h
    split at h
    · rename_i hd
      split at h
      · cases h; simp [Op.equalIn, run_underlying hd]
      · cases h
    · rename_i hd
      split at h
      · split at h
        · rename_i hk
          have hk := eq_of_beq hk
          cases h; subst hk; simp [Op.equalIn, run_underlying hd]
        · cases h
      · cases h
    · rename_i fs hd
      split at h
      · rename_i xs ys
        split at h
        · rename_i hs
          have hf : P.fieldsOf t = fs := by simp [Program.fieldsOf, hd]
          rw [run_equalIn_struct w d t xs ys (by rw [hf]; exact hd) hs, hf]
          exact run_eqFields (fun t x y b h w => ih t x y b h w) xs ys fs.toList b h w
        · cases h
      · cases h
    · rename_i len e hd
      split at h
      · rename_i xs ys
        split at h
        · rename_i de hde
          obtain ⟨i, hi, hc⟩ := info_of_cellsOf hde
          simp only [Op.equalIn, Sem.run_bind, run_underlying hd, Result.andThen_ok]
          simp only [sizeOf, typeInfo, Sem.run_bind, run_program, Result.andThen_ok, hi, Sem.run_pure]
          rw [hc] at h
          rw [Std.Legacy.Range.forIn_eq_forIn_range']
          simp only [Std.Legacy.Range.size]
          have hl : (len - 0 + 1 - 1) / 1 = len := by simp
          rw [hl]
          refine Eq.trans ?_ (run_eqArr (fun x y b h w => ih e x y b h w) i.size xs ys _ b h w)
          congr 1
          all_goals (funext a w'; obtain ⟨a, _⟩ := a; cases a <;> rfl)
        · cases h
      · cases h
    · cases h

end Go.Proofs.Ytkcgphbgbibhfaa.GW
